/-
  A part of the proof: contracts of functions; no conditions.
-/
import Derived.Test.YtcagibbaeageoaaGreatDoorRN
import Derived.Test.YtcagibbaeageoaaGreatDoorRR
set_option maxRecDepth 100000
set_option maxHeartbeats 40000000
set_option linter.unusedSimpArgs false
set_option linter.unusedVariables false
namespace Go.Proofs.YtcagibbaeageoaaGreatDoor
section
open Go.RowKit Lode Go.Shelf
attribute [local go_sem ↓] Go.wp_at_zero Go.wp_at_succ
open Go.Proofs.Tryz
theorem zeY{t:yl}(h:okB t=true):ZZ t/\∀x∈t.nodes,x.kids.length<=1000:=by
 unfold okB at h;simp only[pM,pJ,pY] at h;obtain⟨⟨h1,h2⟩,h3⟩:=h;exact⟨⟨fun x hx=>(h1 x hx).1.1,fun x hx=>by have:=(h1 x hx).1.2;omega,fun x hx=>by have:=(h1 x hx).2;omega,by omega,by omega⟩,fun x hx=>(h1 x hx).2⟩
end
section
open Go.RowKit Lode Go.Shelf
attribute [local go_sem ↓] Go.wp_at_zero Go.wp_at_succ
attribute [local irreducible] xl ui uD zdh zaS zhH zbd okB
open Go.Proofs.Tryz
theorem kd1:(⟨k1.toArray⟩:ByteArray).data.toList=k1:=rfl
theorem kd2:(⟨k2.toArray⟩:ByteArray).data.toList=k2:=rfl
theorem kd3:(⟨k3.toArray⟩:ByteArray).data.toList=k3:=rfl
theorem kd4:(⟨k4.toArray⟩:ByteArray).data.toList=k4:=rfl
theorem kd5:(⟨k5.toArray⟩:ByteArray).data.toList=k5:=rfl
theorem kd6:(⟨k6.toArray⟩:ByteArray).data.toList=k6:=rfl
theorem Yc{α β:Type}{p:α×β}{a:α}{b:β}(h1:p.1=a)(h2:p.2=b):p=(a,b):=Prod.ext h1 h2
theorem zd6(w:World)(hG:qZ w):Calls prog 10 #[] w (qv w (.bool true)):=by
 have HG:=zj hG;obtain⟨T1,hT1⟩:∃T,(xl k1).1=T:=⟨_,rfl⟩;obtain⟨T4,hT4⟩:∃T,(xl k4).1=T:=⟨_,rfl⟩;obtain⟨T5,hT5⟩:∃T,(xl k5).1=T:=⟨_,rfl⟩;obtain⟨T6,hT6⟩:∃T,(xl k6).1=T:=⟨_,rfl⟩;obtain⟨A6,hA6⟩:∃a,(xl k6).2.1=a:=⟨_,rfl⟩;obtain⟨S3,hS3⟩:∃s,(ui k3).1=s:=⟨_,rfl⟩;have hk1:=zeY (t:=T1) (by rw[<-hT1];exact znN);have hk6:=zeY (t:=T6) (by rw[<-hT6];exact znG);have hn1:T1.nodes.length=7:=by rw[<-hT1];exact znM
 have HP1:=zj (fun (W:World) (hb:Below w.heap.size w W)=>(show Calls prog 11 #[.string ⟨#[114,111,111,116,32,97,58,32,105,110,116,32,61,32,49,32,43,32,98,32,42,32,50,59]⟩] W (KN (T1,0,0) W) from by
  have:=uP ⟨k1.toArray⟩ W (by show k1.length<=_;decide) (HG.out.later hb);rw[kd1,show xl k1=(T1,0,0) from Yc hT1 kn1] at this;exact this))
 have HP4:=zj (fun (W:World) (hb:Below w.heap.size w W)=>(show Calls prog 11 #[.string ⟨#[114,111,111,116,32,99,58,32,99,104,97,110,32,105,110,116,32,61,32,99,104,97,110,32,105,110,116,40,57,41,59]⟩] W (KN (T4,19,3) W) from by
  have:=uP ⟨k4.toArray⟩ W (by show k4.length<=_;decide) (HG.out.later hb);rw[kd4,show xl k4=(T4,19,3) from Yc hT4 kn4] at this;exact this))
 have HP5:=zj (fun (W:World) (hb:Below w.heap.size w W)=>(show Calls prog 11 #[.string ⟨#[102,117,110,32,102,40,41,58,32,117,110,105,116,32,123,32,97,40,41,32,58,61,32,49,59,32,125]⟩] W (KN (T5,20,4) W) from by
  have:=uP ⟨k5.toArray⟩ W (by show k5.length<=_;decide) (HG.out.later hb);rw[kd5,show xl k5=(T5,20,4) from Yc hT5 kn5] at this;exact this))
 have HP6:=zj (fun (W:World) (hb:Below w.heap.size w W)=>(show Calls prog 11 #[.string ⟨#[102,117,110,32,102,40,41,58,32,117,110,105,116,32,123,32,40,84,41,40,49,41,59,32,45,32,45,97,59,32,40,116,104,114,111,119,32,97,41,46,102,59,32,40,110,111,116,32,97,41,32,61,61,32,98,32,125]⟩] W (KN (T6,A6,0) W) from by
  have:=uP ⟨k6.toArray⟩ W (by show k6.length<=_;decide) (HG.out.later hb);rw[kd6,show xl k6=(T6,A6,0) from Yc hT6 (Yc hA6 kn6)] at this;exact this))
 have HP2:=zj (fun (W:World) (hb:Below w.heap.size w W)=>(show Calls prog 29 #[.string ⟨#[102,117,110,32,102,40,41,58,117,110,105,116,123,40,103,41,40,40,49,41,41,59,125]⟩] W (zly W (k2o,0,0)) from by
  have:=KM ⟨k2.toArray⟩ W (by show k2.length<=_;decide) (HG.out.later hb) (fun _=>by rw[kd2];exact (zeY znI).1);rw[kd2,show ui k2=(k2o,0,0) from kn2] at this;exact this))
 have HP3:=zj (fun (W:World) (hb:Below w.heap.size w W)=>(show Calls prog 29 #[.string ⟨#[102,117,110,32,102,32,40,32,41,32,58,32,117,110,105,116,32,123,32,40,103,41,40,40,49,41,41,59,32,59,32,125]⟩] W (zly W (S3,29,4)) from by
  have:=KM ⟨k3.toArray⟩ W (by show k3.length<=_;decide) (HG.out.later hb) (fun _=>by rw[kd3];exact (zeY znH).1);rw[kd3,show ui k3=(S3,29,4) from Yc hS3 kn3] at this;exact this))
 have HS:=zj (fun (nv iv:Value) (W:World) (hb:Below w.heap.size w W) (hT:TR W nv iv T1)=>(show Calls prog 20 #[.agg #[nv,iv],.int .i64 5] W (RdI W (5,0)) from by
  have:=ziy T1 nv iv 5 W hT (HG.out.later hb) hk1.1 hk1.2;rw[<-hT1,znK] at this;exact this))
 have HU:=zj (fun (nv iv:Value) (W:World) (hb:Below w.heap.size w W) (hT:TR W nv iv T1)=>(show Calls prog 18 #[.agg #[nv,iv],.int .i64 4] W (RdI W (5,0)) from by
  have:=zez T1 nv iv 4 W hT (HG.out.later hb) hk1.1;rw[<-hT1,znJ] at this;exact this))
 have HW:=zj (fun (nv iv:Value) (W:World) (hb:Below w.heap.size w W) (hT:TR W nv iv T1)=>(show Calls prog 19 #[.agg #[nv,iv],.int .i64 3] W (RdL W ([6,5,4,3],0)) from by
  have:=ziD T1 nv iv 3 W hT (HG.out.later hb) hk1.1 hk1.2;rw[<-hT1,znL] at this;exact this))
 have HF:=zj (fun (nv iv:Value) (W:World) (hb:Below w.heap.size w W) (hT:TR W nv iv T1)=>(show Calls prog 21 #[.agg #[nv,iv],.int .i64 20] W (RdI W (4,0)) from by
  have:=ziJ T1 nv iv 20 W hT (HG.out.later hb) hk1.1;rw[<-hT1,znO] at this;exact this))
 have HN:=zj (fun (nv iv:Value) (W:World) (hb:Below w.heap.size w W) (hT:TR W nv iv T6)=>(show Calls prog 27 #[.agg #[nv,iv]] W (zj8 W (k6o,0)) from by
  have:=Qx T6 nv iv W hT (HG.out.later hb) hk6.1;rw[<-hT6,znF] at this;exact this))
 clear hT1 hT4 hT5 hT6 hA6 hS3 hk1 hk6 hG;go_enter func10,ntmps10;go_wp2_with fail;refine (HP1.out w bR).mono ?_;rintro e w1 ⟨hb1,nv1,iv1,rfl,hTr1⟩;obtain⟨np1,nc1,ip1,ic1,rfl,rfl⟩:=hTr1.form;rw[hn1] at hTr1 ⊢;generalize T1.items.length=m1 at *;have HT1:=zj hTr1;have hz1:=zk w1 (.cells #[.slice np1 7 nc1,.slice ip1 m1 ic1] 26 (0,0));have B1:=zf hb1 (zg w1 (.cells #[.slice np1 7 nc1,.slice ip1 m1 ic1] 26 (0,0)));have hA1:=zg w1 (.cells #[.slice np1 7 nc1,.slice ip1 m1 ic1] 26 (0,0));have HZ1:=zj hz1;clear hTr1 hz1 hn1;go_wp2_with fail;refine (HP2.out _ B1).mono ?_;rintro e w2 ⟨rfl,hb2⟩;have B2:=zf B1 hb2;go_wp2_with fail;refine (HP3.out _ B2).mono ?_;rintro e w3 ⟨rfl,hb3⟩;have B3:=zf B2 hb3;have C3:=zf hb2 hb3;go_wp2_with fail;refine (HP4.out _ B3).mono ?_;rintro e w4 ⟨hb4,nv4,iv4,rfl,hTr4⟩;obtain⟨np4,nc4,ip4,ic4,rfl,rfl⟩:=hTr4.form;have HT4:=zj hTr4;clear hTr4;generalize T4.nodes.length=n4 at *;generalize T4.items.length=m4 at *;have hA4:=zg w4 (.cells #[.slice np4 n4 nc4,.slice ip4 m4 ic4] 26 (0,0));have HZ4:=zj (zk w4 (.cells #[.slice np4 n4 nc4,.slice ip4 m4 ic4] 26 (0,0)));have hB4:=zf hb4 hA4;have B4:=zf B3 hB4;have C4:=zf C3 hB4;go_wp2_with fail;refine (HP5.out _ B4).mono ?_;rintro e w5 ⟨hb5,nv5,iv5,rfl,hTr5⟩;obtain⟨np5,nc5,ip5,ic5,rfl,rfl⟩:=hTr5.form;have HT5:=zj hTr5;clear hTr5;generalize T5.nodes.length=n5 at *;generalize T5.items.length=m5 at *;have hA5:=zg w5 (.cells #[.slice np5 n5 nc5,.slice ip5 m5 ic5] 26 (0,0));have HZ5:=zj (zk w5 (.cells #[.slice np5 n5 nc5,.slice ip5 m5 ic5] 26 (0,0)));have hB5:=zf hb5 hA5;have B5:=zf B4 hB5;have C5:=zf C4 hB5;have c0:=zd (zi C5 HZ1.out) 0;have c1:=zd (zi C5 HZ1.out) 1;go_wp2_with fail;clear c0 c1;refine (HS.out _ _ _ B5 (HT1.out.below (zf hA1 C5))).mono ?_;rintro e wa ⟨rfl,hba⟩;have Ba:=zf B5 hba;have Ca:=zf C5 hba;have c0:=zd (zi Ca HZ1.out) 0;have c1:=zd (zi Ca HZ1.out) 1;go_wp2_with fail;clear c0 c1;refine (HU.out _ _ _ Ba (HT1.out.below (zf hA1 Ca))).mono ?_;rintro e wb ⟨rfl,hbb⟩;have Bb:=zf Ba hbb;have Cb:=zf Ca hbb;have c0:=zd (zi Cb HZ1.out) 0;have c1:=zd (zi Cb HZ1.out) 1;go_wp2_with fail;clear c0 c1;refine (HW.out _ _ _ Bb (HT1.out.below (zf hA1 Cb))).mono ?_;rintro e wc ⟨pv,rfl,hpv,hbc⟩;obtain⟨pp,pc,rfl⟩:=hpv.form;have HPV:=zj hpv;clear hpv;have Bc:=zf Bb hbc;have Cc:=zf Cb hbc;have c0:=zd (zi Cc HZ1.out) 0;have c1:=zd (zi Cc HZ1.out) 1;go_wp2_with fail;clear c0 c1;refine (HF.out _ _ _ Bc (HT1.out.below (zf hA1 Cc))).mono ?_;rintro e wd ⟨rfl,hbd⟩;have Bd:=zf Bc hbd;have Cd:=zf Cc hbd;go_wp2_with fail;refine (HP6.out _ Bd).mono ?_;rintro e w6 ⟨hb6,nv6,iv6,rfl,hTr6⟩;obtain⟨np6,nc6,ip6,ic6,rfl,rfl⟩:=hTr6.form;have HT6:=zj hTr6;clear hTr6;generalize T6.nodes.length=n6 at *;generalize T6.items.length=m6 at *;have hA6:=zg w6 (.cells #[.slice np6 n6 nc6,.slice ip6 m6 ic6] 26 (0,0));have HZ6:=zj (zk w6 (.cells #[.slice np6 n6 nc6,.slice ip6 m6 ic6] 26 (0,0)));have hB6:=zf hb6 hA6;have B6:=zf Bd hB6;have C6:=zf Cd hB6;have e0:=zd HZ6.out 0;have e1:=zd HZ6.out 1;go_wp2_with fail;clear e0 e1;refine (HN.out _ _ _ B6 (HT6.out.below hA6)).mono ?_;rintro e we ⟨rfl,hbe⟩;have Be:=zf B6 hbe;have Ce:=zf C6 hbe;have c0:=zd (zi Ce HZ1.out) 0;have c1:=zd (zi Ce HZ1.out) 1;have HI:=zj (fun W (hb:Below we.heap.size we W) (u:Value) (hu:Vn W u [6,5,4,3])=>YL (.slice pp 4 pc) u [6,5,4,3] [6,5,4,3] W (HPV.out.o.below (zf (zf hbd (zf hB6 hbe)) hb)) hu (by decide));go_wp2_with fail;refine (HI.out _ (zg _ _) _ (KS.lit we [6,5,4,3]).o).mono ?_;rintro e wf ⟨rfl,hbf⟩;simp only[decide_true];have Bf:=zf (zf Be (zg _ _)) hbf;clear HI c0 c1;unfold k6o;go_wp2;go_ret;exact⟨by simp,Bf⟩
end
section
open Go.RowKit Lode Go.Shelf
attribute [local go_sem ↓] Go.wp_at_zero Go.wp_at_succ
open Go.Proofs.Tryz
theorem zd3(t:yl)(nv iv:Value)(w:World)(hT:KL w nv iv t)(hG:qZ w)(hi:∀x∈t.nodes,∀k∈x.kids,I64 k)(h8:∀x∈t.nodes,x.kind<=255):
 Calls prog 6 #[.agg #[nv,iv]] w (qv w (.bool true)):=by
 have hL:=zj (fun W (hW:Below w.heap.size w W)=>zgj t nv iv W (hT.below hW));have hKn:=zj (fun W (hW:Below w.heap.size w W)=>zd6 W (hG.later hW));obtain⟨np,nc,ip,ic,rfl,rfl⟩:=hT.form;have HT:=zj hT;have HG:=zj hG;have HI:=zj hi;have H8:=zj h8;obtain⟨n,hn⟩:=exE (t.nodes.length);obtain⟨m,hm⟩:=exE (t.items.length);rw[hn,hm] at hL HT ⊢;have hz:=zk w (.cells #[.slice np n nc,.slice ip m ic] 26 (0,0));have hA:=zg w (.cells #[.slice np n nc,.slice ip m ic] 26 (0,0));have b0:=zd hz 0;have b1:=zd hz 1;have HA:=zj hA;have Hz:=zj hz;have Hn:=zj hn;have Hm:=zj hm;clear hT hG hi h8 hz hA hn hm;obtain⟨lg,hlg⟩:∃b,Kj t=b:=⟨_,rfl⟩;rw[hlg] at hL;have Hlg:=zj hlg;clear hlg;cases lg
 ·go_enter func6,ntmps6;go_wp2_with (go_at_call 14;refine (hL.out _ HA.out).mono ?_;rintro e w1 ⟨rfl,hb1⟩;have b0:=zh hb1 b0;have b1:=zh hb1 b1;have hbw:=zj (zf HA.out hb1));obtain⟨bn,bi,bt⟩:=zg6 Hlg.out;refine (zfX t _ _ w1 (HT.out.below hbw.out) HI.out (by omega) (by omega) (fun x hx=>by have:=(bt x hx).1;omega)).mono ?_;rintro e w2 ⟨nv2,iv2,rfl,hT2,hb2⟩;have hok:ZZ t:=⟨H8.out,fun x hx=>by have:=(bt x hx).2;omega,fun x hx=>by have:=(bt x hx).1;omega,by omega,by omega⟩;have hPr:=zj (fun W (hW:Below w2.heap.size w2 W) (hGW:qZ W)=>Qx t nv2 iv2 W (hT2.below hW) hGW hok);have hRp:=zj (fun W (hW:Below w.heap.size w W)=>zdy t _ _ W (HT.out.below hW) hok (fun x hx=>by have:=bt x hx;omega));have hSa:=zj (fun W (hW:Below w2.heap.size w2 W) (hW2:Below w.heap.size w W)=>zdw t t nv2 iv2 _ _ W (hT2.o.below hW) (HT.out.below hW2) (by omega) (by omega) (fun x hx=>by have:=(bt x hx).1;omega));obtain⟨p2,c2,q2,d2,rfl,rfl⟩:=hT2.form;have b0:=zh hb2 b0;have b1:=zh hb2 b1;rw[Hn.out,Hm.out] at *;have hcq:uD t=YO t:=zhz (fun x hx=>by have:=(bt x hx).1;omega);have Hcq:=zj hcq;have hx0:=zk w2 (.cells #[.slice p2 n c2,.slice q2 m d2] 26 (0,0));have hxA:=zg w2 (.cells #[.slice p2 n c2,.slice q2 m d2] 26 (0,0));have b0:=zh hxA b0;have b1:=zh hxA b1;have x0:=zd hx0 0;have x1:=zd hx0 1;have hw2:=zf hbw.out hb2;have hwx:=zf hw2 hxA;clear hcq hx0;go_wp2_with fail;generalize w2.alloc (.cells #[.slice p2 n c2,.slice q2 m d2] 26 (0,0))=wx at *;refine (hPr.out wx hxA (HG.out.later hwx)).mono ?_;rintro e w3 ⟨rfl,hb3⟩;rw[Hcq.out];have b0:=zh hb3 b0;have b1:=zh hb3 b1;have x0:=zh hb3 x0;have x1:=zh hb3 x1;have hw3:=zf hwx hb3;generalize YO t=r at *;obtain⟨rs,re⟩:=r;go_wp2_with fail;refine (hRp.out w3 hw3).mono ?_;rintro e w4 ⟨rfl,hb4⟩;have b0:=zh hb4 b0;have b1:=zh hb4 b1;have x0:=zh hb4 x0;have x1:=zh hb4 x1;have hw4:=zf hw3 hb4;go_wp2_with fail;refine (hSa.out w4 (zf hxA (zf hb3 hb4)) hw4).mono ?_;rintro e w5 ⟨sb,rfl,hsb,hb5⟩;have hst:sb=true:=hsb.2 (by first|rfl|trivial);subst hst;have hw5:=zf hw4 hb5;go_wp2_with fail;refine (hKn.out w5 hw5).mono ?_;rintro e w6 ⟨rfl,hb6⟩;have hw6:=zf hw5 hb6;go_wp2;go_ret;exact⟨rfl,hw6⟩
 ·go_enter func6,ntmps6;go_wp2_with (first
   |(go_at_call 14;refine (hL.out _ HA.out).mono ?_;rintro e w1 ⟨rfl,hb1⟩;have hbw:=zj (zf HA.out hb1))
   |(go_at_call 10;refine (hKn.out _ hbw.out).mono ?_;rintro e w2 ⟨rfl,hb2⟩))
  go_ret;exact⟨rfl,zf hbw.out hb2⟩
end
end Go.Proofs.YtcagibbaeageoaaGreatDoor
