/-
  A part of the proof: contracts of functions; no conditions.
-/
import Derived.Test.YtnncmdpopgkibaaGreatDoorKF
set_option maxRecDepth 100000
set_option maxHeartbeats 40000000
set_option linter.unusedSimpArgs false
set_option linter.unusedVariables false
namespace Go.Proofs.YtnncmdpopgkibaaGreatDoor
section
open Go.RowKit Lode Go.Shelf
attribute [local go_sem ↓] Go.wp_at_zero Go.wp_at_succ
open Go.Proofs.Tryz
structure ziI(t:yp):Prop where
 ne:t.text≠[]
 dig:t.text.all yf=true
 le:xR t.text<=1000000000
 len:t.text.length<=1000000
def zbI(E:zv):Prop:=∀t∈E.toks,(t.kind == 3)=true->ziI t
theorem zbI.at{E:zv}(h:zbI E){s:zY}(hk:((zy E s).kind == 3)=true):ziI (zy E s):=by
 have hlt:=qQ (E:=E) (s:=s) (k:=3) (by simpa using hk) (by decide);have e:zy E s=E.toks[s.next]:=by unfold zy;rw[glE hlt];rfl
 rw[e] at hk ⊢;exact h _ (wC _) hk
theorem zce{E:zv}(h:zbI E){s s':zY}{m:yp}(hm:xr 3 E s=.ok m s'):ziI m:=by
 unfold xr at hm;split at hm
 ·rename_i hk;cases hm;exact h.at hk
 ·cases hm
theorem Zv{t:yp}(h:ziI t)(w:World):Calls prog 218 #[vM t] w fun e w'=>e=.returned (.int .i64 (xR t.text))/\Below w.heap.size w w':=by
 obtain⟨h1,h2,h3,h4⟩:=h;have ha:=Jd t.text h1 h2;rw[if_pos (by omega)] at ha;obtain⟨k,tx,a⟩:=t;have Ha:=zi (Tryz.strconv_Atoi_ok ⟨tx.toArray⟩ (by show tx.toArray.size<=_;simp;simp at h4;omega) (xR tx) (by simpa using ha));unfold vM;have hA:=zf w (.cells #[.int .u8 k,.string ⟨tx.toArray⟩,.int .i64 a] 37 (0,0));have hz:=zk w (.cells #[.int .u8 k,.string ⟨tx.toArray⟩,.int .i64 a] 37 (0,0));have c1:=zd hz 1;clear hz ha h1 h2 h3 h4;go_enter func218,ntmps218;go_wp2_with fail;refine (Ha.out _).mono ?_;rintro e w1 ⟨rfl,hw⟩;have hb:Below w.heap.size w w1:=by
  rcases hw with rfl|⟨t,rfl⟩
  ·exact hA
  ·exact zg hA (uM _ _ _)
 clear hw;go_wp2;go_ret;exact⟨rfl,hb⟩
theorem zct{E:zv}{base pb n:Nat}{iv:Value}{R:xN}(hE:zbI E)(hR:kg E base pb iv n R):Vi E base pb iv (n+1) 229 (xI R):=by
 intro G w st0 h0 ok0 hn;obtain⟨r,hr⟩:=exE (xI R E st0);rw[hr];unfold xI at hr;replace hr:=zi hr;replace ok0:=zi ok0;replace hR:=zi hR;have F0:=Fr.refl base w;have hlim:=ok0.out.lim;have hle:=ok0.out.le;have hG0:=h0.glt;have hbase:=h0.base;have henter:=zi (enters_of (P:=prog) func229 (by kernel_rfl) rfl);have HT:=zi (qy h0);replace hr:=zi ((yb (show qP E st0=.ok (zy E st0) st0 from rfl)).symm.trans hr.out);have hlt:=zi (fun (k:Nat) (h:(zy E st0).kind=k) (hk:k≠0)=>qQ (E:=E) (s:=st0) (k:=k) h hk);have hnum:=zi (fun h=>hE.at (s:=st0) h);generalize zy E st0=t at *;obtain⟨k1,t1,a1⟩:=t;unfold vM at HT;go_enter func229,ntmps229;go_wp2_with fail;refine HT.out.mono ?_;rintro e w1 ⟨rfl,hb1⟩;have hb1':Below w.heap.size w w1:=zg bR hb1;have hA:=zf w1 (.cells #[.int .u8 k1,.string ⟨t1.toArray⟩,.int .i64 a1] 37 (0,0));have hz2:=zk w1 (.cells #[.int .u8 k1,.string ⟨t1.toArray⟩,.int .i64 a1] 37 (0,0));have hb2:=hb1'.trans (hA.mono hb1'.size);have h2:=h0.below hb2;have F2:=Fr.of_below h0.base hb2;have cz0:=zd hz2 0;have cz1:=zd hz2 1;have cz2:=zd hz2 2;replace hz2:=zi hz2;replace F2:=zi F2;by_cases e1:k1=1
 ·have hk:(k1 == 1)=true:=by simp[e1]
  have hi:((k1:Int) == 1)=true:=by simp[e1]
  replace hr:=zi (show (zG 66 t1 0 a1 []:PM Int) E {st0 with next:=st0.next+1}=r from by
   have:=hr.out;rw[if_pos (by exact hk)] at this;exact this)
  replace F2:=F2.out;have hlt2:=hlt.out 1 e1 (by decide);obtain⟨c4,f4,h3,f3⟩:=h2.skip;have hy:=pJ ((st0.next:Int)+1) (by omega);have hz3:=f3.keep _ _ _ _ hz2.out (by decide) (by decide);have dz0:=zd hz3 0;have dz1:=zd hz3 1;have dz2:=zd hz3 2;have F3:=F2.trans f3;have hfew:st0.nodes.length<=1000000:=by have:=ok0.out.few;omega
  have ok3:qG E {st0 with next:=st0.next+1}:=⟨hlt2,ok0.out.wf,by have:=ok0.out.few;simp only;omega,ok0.out.lim⟩;clear hk e1;go_wp2_with fail;refine zO hr (zz h3 66 t1 0 a1 [] _ (KS.nil' _) xt (by exact hfew)) F3 (Fr.refl _ _) ?_;rintro w4 x4 st4 hm4 rfl h4 f4 F4;go_wp2;go_ret;exact⟨⟨_,rfl,rfl⟩,h4,F4⟩
 have i1:((k1:Int) == 1)=false:=by simp;omega
 replace hr:=zi (show (if (k1 == 3)=true then (do jD;zG 67 [] (vC ⟨k1,t1,a1⟩) a1 []) else if (k1 == 4)=true then (do jD;zG 68 t1 0 a1 []) else if (k1 == 2)=true then (do jD;let l <-qk R.pattern;zG 70 t1 0 a1 l) else (do if <-yu [116,114,117,101] then zG 69 [] 1 a1 [] else if <-yu [102,97,108,115,101] then zG 69 [] 0 a1 [] else do let _ <-zL [45];let m <-xr 3;zG 67 [] (-(vC m)) a1 []):PM Int) E st0=r from by
  have:=hr.out;rw[if_neg (by simp[e1])] at this;exact this)
 by_cases e3:k1=3
 ·have hk:(k1 == 3)=true:=by simp[e3]
  have hi:((k1:Int) == 3)=true:=by simp[e3]
  replace hr:=zi (show (zG 67 [] (xR t1) a1 []:PM Int) E {st0 with next:=st0.next+1}=r from by
   have:=hr.out;rw[if_pos (by exact hk)] at this;exact this)
  have HN:=zi (fun W=>Zv (hnum.out hk) W);unfold vM at HN;replace F2:=F2.out;have hlt2:=hlt.out 3 e3 (by decide);obtain⟨c4,f4,h3,f3⟩:=h2.skip;have hy:=pJ ((st0.next:Int)+1) (by omega);have hz3:=f3.keep _ _ _ _ hz2.out (by decide) (by decide);have dz0:=zd hz3 0;have dz1:=zd hz3 1;have dz2:=zd hz3 2;have F3:=F2.trans f3;have hfew:st0.nodes.length<=1000000:=by have:=ok0.out.few;omega
  have ok3:qG E {st0 with next:=st0.next+1}:=⟨hlt2,ok0.out.wf,by have:=ok0.out.few;simp only;omega,ok0.out.lim⟩;have hS:∀W,(yO base).rel ((w1.alloc (.cells #[.int .u8 k1,.string ⟨t1.toArray⟩,.int .i64 a1] 37 (0,0))).setCell ⟨pb,4,none⟩ (.int .i64 ((st0.next:Int)+1))).drew W->(W.cell? ⟨w1.heap.size,0,none⟩=some (.int .u8 k1)/\W.cell? ⟨w1.heap.size,1,none⟩=some (.string ⟨t1.toArray⟩)/\W.cell? ⟨w1.heap.size,2,none⟩=some (.int .i64 a1)):=fun W hF=>by
   have:=hF.keep _ _ _ _ hz3 (by decide) (by decide);exact⟨zd this 0,zd this 1,zd this 2⟩
  clear hk e3 hz3;go_wp2_with fail;generalize (w1.alloc (.cells #[.int .u8 k1,.string ⟨t1.toArray⟩,.int .i64 a1] 37 (0,0))).setCell ⟨pb,4,none⟩ (.int .i64 ((st0.next:Int)+1))=w3 at *;refine LodeX.jm (RR:=yO base) (Xp:=XP base r w) [(0,0),(1,1),(3,0),(4,1),(2,2),(5,2),(6,0)] ?_;refine LodeX.qT ?_;refine LodeX.callX fun K hK=>?_
  go_simp;refine (HN.out _).mono ?_;rintro e w4 ⟨rfl,hbN⟩;have h4:=(h3.below bR.drew).below hbN;have f4:=Fr.of_below (h3.below bR.drew).base hbN;have F4:=(F3.trans (Fr.of_below h3.base bR.drew)).trans f4;refine⟨f4,hK _ _ ?_⟩;clear hK K hbN;have hS:=fun W (hF:(yO base).rel w4 W)=>hS W (Fr.trans f4 hF)
  try simp only[Act.put,yG,yE,yF]
  refine LodeX.callX fun K hK=>?_
  go_simp;refine zO hr (zz h4 67 [] (xR t1) a1 [] _ (KS.nil' _) xt hfew) F4 ((Fr.refl _ _)) ?_;rintro w5 x5 st5 hm5 rfl h5 f5 F5;refine⟨f5,hK _ _ ?_⟩;clear hK K
  try simp only[Act.put,yG,yE,yF]
  refine LodeX.qT ?_;refine LodeX.zC fun W hW=>?_
  cases hW;clear hS;go_wp2;go_ret;exact⟨⟨_,rfl,rfl⟩,h5,F5⟩
 have i3:((k1:Int) == 3)=false:=by simp;omega
 replace hr:=zi (show (if (k1 == 4)=true then (do jD;zG 68 t1 0 a1 []) else if (k1 == 2)=true then (do jD;let l <-qk R.pattern;zG 70 t1 0 a1 l) else (do if <-yu [116,114,117,101] then zG 69 [] 1 a1 [] else if <-yu [102,97,108,115,101] then zG 69 [] 0 a1 [] else do let _ <-zL [45];let m <-xr 3;zG 67 [] (-(vC m)) a1 []):PM Int) E st0=r from by
  have:=hr.out;rw[if_neg (by simp[e3])] at this;exact this)
 by_cases e4:k1=4
 ·have hk:(k1 == 4)=true:=by simp[e4]
  have hi:((k1:Int) == 4)=true:=by simp[e4]
  replace hr:=zi (show (zG 68 t1 0 a1 []:PM Int) E {st0 with next:=st0.next+1}=r from by
   have:=hr.out;rw[if_pos (by exact hk)] at this;exact this)
  replace F2:=F2.out;have hlt2:=hlt.out 4 e4 (by decide);obtain⟨c4,f4,h3,f3⟩:=h2.skip;have hy:=pJ ((st0.next:Int)+1) (by omega);have hz3:=f3.keep _ _ _ _ hz2.out (by decide) (by decide);have dz0:=zd hz3 0;have dz1:=zd hz3 1;have dz2:=zd hz3 2;have F3:=F2.trans f3;have hfew:st0.nodes.length<=1000000:=by have:=ok0.out.few;omega
  have ok3:qG E {st0 with next:=st0.next+1}:=⟨hlt2,ok0.out.wf,by have:=ok0.out.few;simp only;omega,ok0.out.lim⟩;clear hk e4;go_wp2_with fail;refine zO hr (zz h3 68 t1 0 a1 [] _ (KS.nil' _) xt (by exact hfew)) F3 (Fr.refl _ _) ?_;rintro w4 x4 st4 hm4 rfl h4 f4 F4;go_wp2;go_ret;exact⟨⟨_,rfl,rfl⟩,h4,F4⟩
 have i4:((k1:Int) == 4)=false:=by simp;omega
 replace hr:=zi (show (if (k1 == 2)=true then (do jD;let l <-qk R.pattern;zG 70 t1 0 a1 l) else (do if <-yu [116,114,117,101] then zG 69 [] 1 a1 [] else if <-yu [102,97,108,115,101] then zG 69 [] 0 a1 [] else do let _ <-zL [45];let m <-xr 3;zG 67 [] (-(vC m)) a1 []):PM Int) E st0=r from by
  have:=hr.out;rw[if_neg (by simp[e4])] at this;exact this)
 by_cases e2:k1=2
 ·have hk:(k1 == 2)=true:=by simp[e2]
  have hi:((k1:Int) == 2)=true:=by simp[e2]
  replace hr:=zi (show (do let l <-qk R.pattern;zG 70 t1 0 a1 l:PM Int) E {st0 with next:=st0.next+1}=r from by
   have:=hr.out;rw[if_pos (by exact hk)] at this;exact this)
  replace F2:=F2.out;have hlt2:=hlt.out 2 e2 (by decide);obtain⟨c4,f4,h3,f3⟩:=h2.skip;have hy:=pJ ((st0.next:Int)+1) (by omega);have hz3:=f3.keep _ _ _ _ hz2.out (by decide) (by decide);have dz0:=zd hz3 0;have dz1:=zd hz3 1;have dz2:=zd hz3 2;have F3:=F2.trans f3;have hfew:st0.nodes.length<=1000000:=by have:=ok0.out.few;omega
  have ok3:qG E {st0 with next:=st0.next+1}:=⟨hlt2,ok0.out.wf,by have:=ok0.out.few;simp only;omega,ok0.out.lim⟩;have hS:∀W,(yO base).rel ((w1.alloc (.cells #[.int .u8 k1,.string ⟨t1.toArray⟩,.int .i64 a1] 37 (0,0))).setCell ⟨pb,4,none⟩ (.int .i64 ((st0.next:Int)+1))).drew W->(W.cell? ⟨w1.heap.size,0,none⟩=some (.int .u8 k1)/\W.cell? ⟨w1.heap.size,1,none⟩=some (.string ⟨t1.toArray⟩)/\W.cell? ⟨w1.heap.size,2,none⟩=some (.int .i64 a1)):=fun W hF=>by
   have:=hF.keep _ _ _ _ hz3 (by decide) (by decide);exact⟨zd this 0,zd this 1,zd this 2⟩
  clear hk e2 hz3;go_wp2_with fail;generalize (w1.alloc (.cells #[.int .u8 k1,.string ⟨t1.toArray⟩,.int .i64 a1] 37 (0,0))).setCell ⟨pb,4,none⟩ (.int .i64 ((st0.next:Int)+1))=w3 at *;replace ok3:=zi ok3;have hn3:({st0 with next:=st0.next+1}:zY).next=st0.next+1:=rfl;generalize ({st0 with next:=st0.next+1}:zY)=st3 at *;have hb3:=F3.b.size;refine LodeX.jm (RR:=yO base) (Xp:=XP base r w) [(0,0),(1,0),(2,1),(3,0),(4,1),(5,0),(6,0),(7,2),(8,2),(9,2),(10,0)] ?_;refine LodeX.qT ?_
  iterate 1 (refine LodeX.callX fun K hK=>?_;go_simp;refine⟨Fr.refl _ _,hK _ _ ?_⟩;clear hK K;try simp only[Act.put,yG,yE,yF])
  refine LodeX.callX fun K hK=>?_
  go_simp;refine lgo hr (Qh hR.out.pattern hR.out.good.pattern henter.out (h3.below bR.drew) ok3.out (by omega)) F3 ((Fr.of_below h3.base bR.drew)) ?_;clear hr;intro w4 x4 st4 v4 l4 o4 hm4 h4 f4 F4 hr;refine⟨f4,hK _ _ ?_⟩;clear hK K;have hS:=fun W (hF:(yO base).rel w4 W)=>hS W (Fr.trans f4 hF)
  try simp only[Act.put,yG,yE,yF]
  obtain⟨n4,vl4⟩:=Zc hR.out.good.pattern ok3.out.le ok3.out.wf hm4;have ok4:=zi (ok3.out.nx n4 (by decide));have hle4:=ok4.out.le;have hfew4:=ok4.out.few;have hsz3:(w3.drew).heap.size=w3.heap.size:=rfl;refine LodeX.callX fun K hK=>?_
  go_simp;refine zO hr (zz h4.ungw 70 t1 0 a1 x4 _ (KS.own o4) (yB o4 (fun g hg=>by have:=hG0 g hg;omega)) (by omega)) F4 ((Fr.refl _ _)) ?_;rintro w5 x5 st5 hm5 rfl h5 f5 F5;refine⟨f5,hK _ _ ?_⟩;clear hK K
  try simp only[Act.put,yG,yE,yF]
  refine LodeX.qT ?_;refine LodeX.zC fun W hW=>?_
  cases hW;clear hS;go_wp2;go_ret;exact⟨⟨_,rfl,rfl⟩,h5,F5⟩
 have i2:((k1:Int) == 2)=false:=by simp;omega
 replace hr:=zi (show (do if <-yu [116,114,117,101] then zG 69 [] 1 a1 [] else if <-yu [102,97,108,115,101] then zG 69 [] 0 a1 [] else do let _ <-zL [45];let m <-xr 3;zG 67 [] (-(vC m)) a1 []:PM Int) E st0=r from by
  have:=hr.out;rw[if_neg (by simp[e2])] at this;exact this)
 replace F2:=F2.out;have ok2:=ok0;go_wp2_with fail;refine Yu hr (yl h2 (by omega) [116,114,117,101]) F2 (Fr.refl _ _) ok2 ?_;clear hr;intro w3 x3 st3 hm3 h3 f3 F3 n3 ok3 hle3 hr;cases x3 with
 |true=>
  replace hr:=zi ((if_pos (rfl:true=true)▸hr.out:_));have dz:=zd (f3.keep _ _ _ _ hz2.out (by decide) (by decide)) 2;have hfew:st3.nodes.length<=1000000:=by have:=ok3.out.few;omega
  go_wp2_with fail;refine zO hr (zz h3 69 [] 1 a1 [] _ (KS.nil' _) xt hfew) F3 (Fr.refl _ _) ?_;rintro w4 x4 st4 hm4 rfl h4 f4 F4;go_wp2;go_ret;exact⟨⟨_,rfl,rfl⟩,h4,F4⟩
 |false=>
  replace hr:=zi (show (do if <-yu [102,97,108,115,101] then zG 69 [] 0 a1 [] else do let _ <-zL [45];let m <-xr 3;zG 67 [] (-(vC m)) a1 []:PM Int) E st3=r from hr.out);have hn3:st3.next=st0.next:=by rw[yd hm3]
  go_wp2_with fail;refine Yu hr (yl h3 (by omega) [102,97,108,115,101]) F3 (Fr.refl _ _) ok3 ?_;clear hr;intro w5 x5 st5 hm5 h5 f5 F5 n5 ok5 hle5 hr;have T5:=f3.trans f5;cases x5 with
  |true=>
   replace hr:=zi ((if_pos (rfl:true=true)▸hr.out:_));have dz:=zd (T5.keep _ _ _ _ hz2.out (by decide) (by decide)) 2;have hfew:st5.nodes.length<=1000000:=by have:=ok5.out.few;omega
   go_wp2_with fail;refine zO hr (zz h5 69 [] 0 a1 [] _ (KS.nil' _) xt hfew) F5 (Fr.refl _ _) ?_;rintro w6 x6 st6 hm6 rfl h6 f6 F6;go_wp2;go_ret;exact⟨⟨_,rfl,rfl⟩,h6,F6⟩
  |false=>
   replace hr:=zi (show (do let _ <-zL [45];let m <-xr 3;zG 67 [] (-(vC m)) a1 []:PM Int) E st5=r from hr.out);go_wp2_with fail;refine jo hr (zw h5 (by omega) [45]) F5 (Fr.refl _ _) ok5 (zo) ?_;clear hr;intro w7 x7 st7 hm7 h7 f7 F7 n7 ok7 hle7 ha7 hr;have T7:=T5.trans f7;have hz7:=T7.keep _ _ _ _ hz2.out (by decide) (by decide);have hS:∀W,(yO base).rel w7.drew W->W.cell? ⟨w1.heap.size,2,none⟩=some (.int .i64 a1):=fun W hF=>zd (hF.keep _ _ _ _ hz7 (by decide) (by decide)) 2
   clear hz7;go_wp2_with fail;refine LodeX.jm (RR:=yO base) (Xp:=XP base r w) [(0,0),(1,0),(5,0),(6,1),(2,2),(3,2),(4,0),(7,2),(8,0)] ?_;refine LodeX.qT ?_;refine LodeX.callX fun K hK=>?_
   go_simp;refine pgo hr (xq (h7.below bR.drew) (by omega) 3) F7 ((Fr.of_below h7.base bR.drew)) ?_;clear hr;intro w8 x8 st8 v hv hm8 h8 f8 F8 hr;refine⟨f8,hK _ _ ?_⟩;clear hK K;unfold kO vM at hv;subst hv;have hS:=fun W (hF:(yO base).rel w8 W)=>hS W (Fr.trans f8 hF)
   try simp only[Act.put,yG,yE,yF]
   obtain⟨n8,_⟩:=yh (by decide) ok7.out.le ok7.out.wf hm8;have ok8:=ok7.out.nx n8 (by decide);have hfew:st8.nodes.length<=1000000:=by have:=ok8.few;have:=ok8.le;omega
   have hN8:=zce hE hm8;have HN:=zi (fun W=>Zv hN8 W);have hN9:=hN8.le;unfold vM at HN;unfold vC at hr;obtain⟨k8,t8,a8⟩:=x8;simp only at hN9;refine LodeX.callX fun K hK=>?_
   go_simp;refine (HN.out _).mono ?_;rintro e w9 ⟨rfl,hbN⟩;have h9:=h8.below hbN;have f9:=Fr.of_below h8.base hbN;have F9:=(F8.trans (Fr.refl _ _)).trans f9;refine⟨f9,hK _ _ ?_⟩;clear hK K hbN;have hS:=fun W (hF:(yO base).rel w9 W)=>hS W (Fr.trans f9 hF)
   try simp only[Act.put,yG,yE,yF]
   have hy:IntKind.i64.wrap (-(xR t8:Int))= -(xR t8:Int):=pJ _ ⟨by omega,by omega⟩;refine LodeX.qT ?_;refine LodeX.callX fun K hK=>?_
   go_simp;refine zO hr (zz h9 67 [] (-(xR t8:Int)) a1 [] _ (KS.nil' _) xt hfew) F9 ((Fr.refl _ _)) ?_;rintro w10 x10 st10 hm10 rfl h10 f10 F10;refine⟨f10,hK _ _ ?_⟩;clear hK K
   try simp only[Act.put,yG,yE,yF]
   refine LodeX.qT ?_;refine LodeX.zC fun W hW=>?_
   cases hW;clear hS;go_wp2;go_ret;exact⟨⟨_,rfl,rfl⟩,h10,F10⟩
end
section
open Go.RowKit Lode Go.Shelf
open Go.Proofs.Tryz
theorem QQ:∀(l:List Nd) (kv:List Value) (j:Nat) (x:Nd) (u:Value),l[j]? =some x->kv[j]? =some u->∀(i:Nat) (y:Value),(jS x u)[i]? =some y->(jg l kv)[j*5+i]? =some y
 |[],_,j,x,u,h1,_,_,_,_=>by simp at h1
 |a :: l,[],j,x,u,_,h2,_,_,_=>by simp at h2
 |a :: l,b :: kv,0,x,u,h1,h2,i,y,h=>by
  cases h1;cases h2;show (jS a b ++ jg l kv)[0*5+i]? =_
  rw[Nat.zero_mul,Nat.zero_add,wQ (gtL h)];exact h
 |a :: l,b :: kv,j+1,x,u,h1,h2,i,y,h=>by
  show (jS a b ++ jg l kv)[(j+1)*5+i]? =_
  have hl:(jS a b).length=5:=rfl;rw[wM (by rw[hl];omega),hl,show (j+1)*5+i-5=j*5+i by omega];exact QQ l kv j x u h1 h2 i y h
theorem za6{w:World}{base:Nat}{nv:Value}{l:List Nd}{kv:List Value}(h:w.ownsRow base 45 5 nv l.length (jg l kv))(hk:kv.length=l.length)(hkids:∀(j:Nat) (x:Nd) (v:Value),l[j]? =some x->kv[j]? =some v->KS w v x.kids):NS w nv l kv:=by
 refine⟨hk,hkids,?_⟩;obtain⟨hl,⟨rfl,h0⟩|⟨g,cap,cur,rfl,_,hg,_,_,_,ht⟩⟩:=h
 ·exact⟨none,0,by rw[h0],.inl (pM h0)⟩
 ·refine⟨_,cap,rfl,.inr ⟨g,0,cur,_,rfl,hg,fun j x u hx hu i y hy=>?_⟩⟩;have h1:=QQ l kv j x u hx hu i y hy;have hi:j*5+i<(jg l kv).length:=(gtL h1);rw[<-ht,List.getElem?_take] at h1;split at h1
  ·rw[Nat.zero_add,<-Array.getElem?_toList];exact h1
  ·cases h1
theorem PW.ns{E:zv}{base pb:Nat}{iv:Value}{G:Nat->Prop}{w:World}{st:zY}(h:PW E base pb iv G w st):∃nv kv,w.cell? ⟨pb,0,none⟩=some nv/\NS w nv st.nodes kv:=by
 obtain⟨nv,tv,s,kv,P,_,_⟩:=h;exact⟨nv,kv,P.cells.1,za6 P.nodes P.kvl P.kids⟩
theorem PW.kind_at{E:zv}{base pb:Nat}{iv:Value}{G:Nat->Prop}{w:World}{st:zY}(h:PW E base pb iv G w st){j:Nat}{x:Nd}(hx:st.nodes[j]? =some x):∃g off cap,w.cell? ⟨pb,0,none⟩=some (.slice (some ⟨g,off,none⟩) st.nodes.length cap)/\w.cell? ⟨g,off+j*5,none⟩=some (.int .u8 x.kind):=by
 obtain⟨nv,kv,h0,h1⟩:=h.ns;obtain⟨p,cap,rfl⟩:=h1.form;obtain⟨g,off,u,rfl,hN⟩:=h1.at hx;exact⟨g,off,cap,h0,hN.c0⟩
end
section
open Go.RowKit Lode Go.Shelf
attribute [local go_sem ↓] Go.wp_at_zero Go.wp_at_succ
attribute [local go_sem] JL zkp JK
open Go.Proofs.Tryz
def zjZ(_:World)(v:Value)(x:Int×Bool):Prop:=v=.tuple #[.int .i64 x.1,.bool x.2]
theorem zkw(W:World):(Instr.index 253 (.agg #[.string ⟨[108,101,116].toArray⟩,.string ⟨[118,97,114].toArray⟩]) (.int .i64 0)).run prog W=.ok (.string ⟨[108,101,116].toArray⟩) W:=by kernel_rfl
theorem zkv(W:World):(Instr.index 253 (.agg #[.string ⟨[108,101,116].toArray⟩,.string ⟨[118,97,114].toArray⟩]) (.int .i64 1)).run prog W=.ok (.string ⟨[118,97,114].toArray⟩) W:=by kernel_rfl
def VW:List (List UInt8×Nat):=[([108,101,116],60),([118,97,114],61)]
def zdy(R:xN):PM (Int×Bool):=do
 let left <-R.expr
 if <-uU [[58,61]] then
  let k <-YJ left
  if k == 5 || k == 23 then
   let u <-vU
   let x <-R.expr
   let r <-zG 62 [] 0 u.at_ [left,x]
   pure (r,false)
  else kL
 else pure (left,true)
def zca(R:xN)(a:Int)(k:Nat):PM (Int×Bool):=do
 let m <-xr 1
 let _ <-zL [61]
 let x <-R.expr
 let r <-zG k m.text 0 a [x]
 pure (r,false)
def stL(R:xN)(a:Int):List (List UInt8×Nat)->PM (Int×Bool)
 |[]=>zdy R
 |x :: r=>do if <-yu x.1 then zca R a x.2 else stL R a r
def zj7(E:zv)(base pb:Nat)(iv:Value)(G:Nat->Prop)(R:xN)(a:Int)(w wt:World)(st:zY)(r:qw (Int×Bool))(i:Value)(wr:World):Prop:=∃k:Nat,k<=2/\i=.int .i64 k/\stL R a (VW.drop k) E st=r/\PW E base pb iv G wr st/\Fr base w wr/\Fr base wt wr
theorem zhg{E:zv}{base pb n:Nat}{iv:Value}{R:xN}(hR:kg E base pb iv n R){G:Nat->Prop}{w:World}{st0:zY}(h0:PW E base pb iv G w st0)(ok0:qG E st0)(hn:E.toks.length-st0.next<n):Calls prog 173 #[.pointer (some ⟨pb,0,none⟩)] w (xK E base pb iv G (vw R E st0) zjZ w):=by
 obtain⟨r,hr⟩:=exE (vw R E st0);rw[hr];have hse:vw R E st0=stL R (zy E st0).at_ VW E st0:=rfl;rw[hse] at hr;clear hse;replace hr:=zi hr;replace ok0:=zi ok0;replace hR:=zi hR;have F0:=Fr.refl base w;have hlim:=ok0.out.lim;have hle:=ok0.out.le;have hbase:=h0.base;have HT:=zi (qy h0);generalize zy E st0=t at *;obtain⟨k1,t1,a1⟩:=t;unfold vM at HT;simp only at hr;go_enter func173,ntmps173;go_wp2_with fail;refine HT.out.mono ?_;rintro e w1 ⟨rfl,hb1⟩;have hb1':Below w.heap.size w w1:=zg bR hb1;have hA:=zf w1 (.cells #[.int .u8 k1,.string ⟨t1.toArray⟩,.int .i64 a1] 37 (0,0));have hz1:=zk w1 (.cells #[.int .u8 k1,.string ⟨t1.toArray⟩,.int .i64 a1] 37 (0,0));have hb2:=hb1'.trans (hA.mono hb1'.size);have h2:=h0.below hb2;have F2:=Fr.of_below h0.base hb2;have T2:=Fr.refl base (w1.alloc (.cells #[.int .u8 k1,.string ⟨t1.toArray⟩,.int .i64 a1] 37 (0,0)));have hst:zj7 E base pb iv G R a1 w _ st0 r (.int .i64 0) _:=⟨0,by decide,rfl,hr.out,h2,F2,T2⟩;replace hst:=zi hst;replace hz1:=zi hz1;clear hr h2 F2 T2;go_wp2;go_loopw [14] (zj7 E base pb iv G R a1 w (w1.alloc (.cells #[.int .u8 k1,.string ⟨t1.toArray⟩,.int .i64 a1] 37 (0,0))) st0 r) (fun i _=>2-(intOf i).toNat)
 case atStart=>exact hst.out
 case round=>
  obtain⟨k,hk4,rfl,hr5,h5,F5,T5⟩:=hrel;have ok5:=ok0;obtain rfl|rfl|rfl:k=0\/k=1\/k=2:=by omega
  ·replace hr:=zi (show (do if <-yu [108,101,116] then zca R a1 60 else stL R a1 (VW.drop (0+1)):PM (Int×Bool)) E st0=r from hr5);have hix:=zkw;simp only[List.toArray] at hix;go_wp2_with fail;refine Yu hr (yl h5 (by omega) [108,101,116]) F5 (Fr.refl _ _) ok5 ?_;clear hr;intro w6 x6 st6 hm6 h6 f6 F6 n6 ok6 hle6 hr;have T6:=T5.trans f6;cases x6 with
   |true=>
    have ha6:=yw hm6;replace hr:=zi ((if_pos (rfl:true=true)▸hr.out:_));unfold zca at hr;go_wp2_with fail;refine jo hr (xq h6 (by omega) 1) F6 (Fr.refl _ _) ok6 (yh (by decide)) ?_;clear hr;intro w7 x7 st7 hm7 h7 f7 F7 n7 ok7 hle7 ha7 hr;have ha7:=n7.adv;obtain⟨k7,t7,a7⟩:=x7;simp only at hr ⊢;go_wp2_with fail;refine jo hr (zw h7 (by omega) [61]) F7 (Fr.refl _ _) ok7 (zo) ?_;clear hr;intro w8 x8 st8 hm8 h8 f8 F8 n8 ok8 hle8 ha8 hr;have ha8:=n8.adv;have cz8:=((T6.trans f7).trans f8).keep _ _ _ _ hz1.out (by decide) (by decide);have hS:∀W,(yO base).rel w8.drew W->W.cell? ⟨w1.heap.size,2,none⟩=some (.int .i64 a1):=fun W hF=>zd (hF.keep _ _ _ _ cz8 (by decide) (by decide)) 2
    clear cz8;go_wp2_with fail;refine LodeX.jm (RR:=yO base) (Xp:=XP base r w) [(0,0),(1,0),(2,0),(3,0),(4,0),(5,0),(6,1),(7,0),(8,2),(9,2),(10,2),(11,0),(12,0)] ?_;refine LodeX.qT ?_;refine LodeX.callX fun K hK=>?_
    go_simp;refine XV hr (hR.out.expr _ _ _ (h8.below bR.drew) ok8.out (by omega)) F8 ((Fr.of_below h8.base bR.drew)) ?_;clear hr;intro w9 x9 st9 hm9 h9 f9 F9 hr;refine⟨f9,hK _ _ ?_⟩;clear hK K;have hS:=fun W (hF:(yO base).rel w9 W)=>hS W (Fr.trans f9 hF)
    try simp only[Act.put,yG,yE,yF]
    obtain⟨n9,vd9⟩:=hR.out.good.expr ok8.out.le ok8.out.wf hm9;have ok9:=ok8.out.nx n9 (by decide);have hfew:st9.nodes.length<=1000000:=by have:=ok9.few;have:=ok9.le;omega
    refine LodeX.callX fun K hK=>?_
    go_simp;refine⟨Fr.of_below h9.base (zf _ _),hK _ _ ?_⟩;clear hK K
    try simp only[Act.put,yG,yE,yF]
    refine LodeX.zZ rfl rfl (fun K hK W hW=>?_);cases hW;go_simp;refine (zz (h9.below (zf _ _)) 60 t7 0 a1 [x9] _ (KS.lit _ [x9]) (h9.fresh _ _) hfew).mono ?_;rintro e w10 hp;rcases hp.cases with⟨p,hm,he,hb⟩|⟨x10,st10,hm10,v,rfl,hv,h10,f10⟩
    ·cases hm
    have F10:=(F9.trans (Fr.of_below h9.base (zf _ _))).trans f10;refine⟨f10,hK _ _ ?_⟩;clear hK K;unfold ju at hv;subst hv;have hr2:r=.ok (x10,false) st10:=hr.out.symm.trans (yb hm10);subst hr2
    try simp only[Act.put,yG,yE,yF]
    refine LodeX.qT ?_;refine LodeX.zC fun W hW=>?_
    cases hW;clear hS;go_wp2;refine bodyPost_ret (results_tmp2 rfl _ _ _) rfl ?_;exact⟨⟨_,rfl,rfl⟩,h10,F10⟩
   |false=>
    have hst:st6=st0:=yd hm6;subst hst;replace hr:=zi (show stL R a1 (VW.drop (0+1)) E st6=r from hr.out);go_wp2;go_roundw
    case rel=>exact⟨0+1,by decide,rfl,hr.out,h6,F6,T6⟩
    case measure=>decide
  ·replace hr:=zi (show (do if <-yu [118,97,114] then zca R a1 61 else stL R a1 (VW.drop (1+1)):PM (Int×Bool)) E st0=r from hr5);have hix:=zkv;simp only[List.toArray] at hix;go_wp2_with fail;refine Yu hr (yl h5 (by omega) [118,97,114]) F5 (Fr.refl _ _) ok5 ?_;clear hr;intro w6 x6 st6 hm6 h6 f6 F6 n6 ok6 hle6 hr;have T6:=T5.trans f6;cases x6 with
   |true=>
    have ha6:=yw hm6;replace hr:=zi ((if_pos (rfl:true=true)▸hr.out:_));unfold zca at hr;go_wp2_with fail;refine jo hr (xq h6 (by omega) 1) F6 (Fr.refl _ _) ok6 (yh (by decide)) ?_;clear hr;intro w7 x7 st7 hm7 h7 f7 F7 n7 ok7 hle7 ha7 hr;have ha7:=n7.adv;obtain⟨k7,t7,a7⟩:=x7;simp only at hr ⊢;go_wp2_with fail;refine jo hr (zw h7 (by omega) [61]) F7 (Fr.refl _ _) ok7 (zo) ?_;clear hr;intro w8 x8 st8 hm8 h8 f8 F8 n8 ok8 hle8 ha8 hr;have ha8:=n8.adv;have cz8:=((T6.trans f7).trans f8).keep _ _ _ _ hz1.out (by decide) (by decide);have hS:∀W,(yO base).rel w8.drew W->W.cell? ⟨w1.heap.size,2,none⟩=some (.int .i64 a1):=fun W hF=>zd (hF.keep _ _ _ _ cz8 (by decide) (by decide)) 2
    clear cz8;go_wp2_with fail;refine LodeX.jm (RR:=yO base) (Xp:=XP base r w) [(0,0),(1,0),(2,0),(3,0),(4,0),(5,0),(6,1),(7,0),(8,2),(9,2),(10,2),(11,0),(12,0)] ?_;refine LodeX.qT ?_;refine LodeX.callX fun K hK=>?_
    go_simp;refine XV hr (hR.out.expr _ _ _ (h8.below bR.drew) ok8.out (by omega)) F8 ((Fr.of_below h8.base bR.drew)) ?_;clear hr;intro w9 x9 st9 hm9 h9 f9 F9 hr;refine⟨f9,hK _ _ ?_⟩;clear hK K;have hS:=fun W (hF:(yO base).rel w9 W)=>hS W (Fr.trans f9 hF)
    try simp only[Act.put,yG,yE,yF]
    obtain⟨n9,vd9⟩:=hR.out.good.expr ok8.out.le ok8.out.wf hm9;have ok9:=ok8.out.nx n9 (by decide);have hfew:st9.nodes.length<=1000000:=by have:=ok9.few;have:=ok9.le;omega
    refine LodeX.callX fun K hK=>?_
    go_simp;refine⟨Fr.of_below h9.base (zf _ _),hK _ _ ?_⟩;clear hK K
    try simp only[Act.put,yG,yE,yF]
    refine LodeX.zZ rfl rfl (fun K hK W hW=>?_);cases hW;go_simp;refine (zz (h9.below (zf _ _)) 61 t7 0 a1 [x9] _ (KS.lit _ [x9]) (h9.fresh _ _) hfew).mono ?_;rintro e w10 hp;rcases hp.cases with⟨p,hm,he,hb⟩|⟨x10,st10,hm10,v,rfl,hv,h10,f10⟩
    ·cases hm
    have F10:=(F9.trans (Fr.of_below h9.base (zf _ _))).trans f10;refine⟨f10,hK _ _ ?_⟩;clear hK K;unfold ju at hv;subst hv;have hr2:r=.ok (x10,false) st10:=hr.out.symm.trans (yb hm10);subst hr2
    try simp only[Act.put,yG,yE,yF]
    refine LodeX.qT ?_;refine LodeX.zC fun W hW=>?_
    cases hW;clear hS;go_wp2;refine bodyPost_ret (results_tmp2 rfl _ _ _) rfl ?_;exact⟨⟨_,rfl,rfl⟩,h10,F10⟩
   |false=>
    have hst:st6=st0:=yd hm6;subst hst;replace hr:=zi (show stL R a1 (VW.drop (1+1)) E st6=r from hr.out);go_wp2;go_roundw
    case rel=>exact⟨1+1,by decide,rfl,hr.out,h6,F6,T6⟩
    case measure=>decide
  ·replace hr:=zi (show zdy R E st0=r from hr5);unfold zdy at hr;go_wp2_with fail;refine XI hr (hR.out.expr _ _ _ h5 ok5.out hn) F5 (Fr.refl _ _) ok5 (hR.out.good.expr) ?_;clear hr;intro w6 x6 st6 hm6 h6 f6 F6 n6 vd6 ok6 hle6 ha6 hr;go_wp2_with fail;refine (jN h6 [58,61]).mono ?_;rintro e w7 ⟨rfl,hb7⟩;have hb7:=zg (zf w6 _) hb7;have h7:=h6.below hb7;have F7:=F6.trans (Fr.of_below h6.base hb7);have ok7:=ok6;cases hk:uq (zy E st6) [[58,61]] with
   |false=>
    have hr7:qw.ok (x6,true) st6=r:=(jV hk).symm.trans hr.out;subst hr7;go_wp2;refine bodyPost_ret (results_tmp2 rfl _ _ _) rfl ?_;exact⟨⟨_,rfl,rfl⟩,h7,F7⟩
   |true=>
    replace hr:=zi ((vD hk).symm.trans hr.out);obtain⟨j,rfl⟩:∃j:Nat,x6=j:=⟨x6.toNat,by have:=vd6.1;omega⟩;have hj:(j:Int)<(st6.nodes.length:Int):=by have:=vd6.2;omega
    have hj0:¬((j:Int)<0):=by omega
    obtain⟨nd,hnd⟩:∃nd,st6.nodes[j]? =some nd:=⟨_,glE (by omega)⟩;obtain⟨g,off,cap,c0,ck⟩:=h7.kind_at hnd;replace hr:=zi ((yb (a:=nd.kind) (s':=st6) (by unfold YJ;simp[hnd])).symm.trans hr.out);clear hnd;generalize nd.kind=kk at hr ck;obtain⟨m,hm⟩:=exE (st6.nodes.length);rw[hm] at c0 hj;have Hm:=zi hm;clear hm;by_cases hkk:kk=5\/kk=23
    ·have hk5:(kk == 5 || kk == 23)=true:=by simpa using hkk
     replace hr:=zi (show (do let u <-vU;let x <-R.expr;let r <-zG 62 [] 0 u.at_ [(j:Int),x];pure (r,false):PM (Int×Bool)) E st6=r from by
      have:=hr.out;rw[if_pos hk5] at this;exact this)
     have b1:((kk:Int) != 5 && (kk:Int) != 23)=false:=by rcases hkk with rfl|rfl <;> rfl
     clear hk5;rcases hkk with rfl|rfl
     ·go_wp2_with fail;refine pgo hr (vu h7 (by omega)) F7 (Fr.refl _ _) ?_;clear hr;intro w8 x8 st8 v hv hm8 h8 f8 F8 hr;have n8:=vg (vQ hk) ok7.out.wf hm8;have ok8:=zi (ok7.out.nx n8 (by decide));unfold kO vM at hv;subst hv;obtain⟨k8,t8,a8⟩:=x8;simp only at hr ⊢;have hle8:=ok8.out.le;have ha8:=n8.adv;go_wp2_with fail;refine XI hr (hR.out.expr _ _ _ h8 ok8.out (by omega)) F8 (Fr.refl _ _) ok8 (hR.out.good.expr) ?_;clear hr;intro w9 x9 st9 hm9 h9 f9 F9 n9 vd9 ok9 hle9 ha9 hr;have hfew:st9.nodes.length<=1000000:=by have:=ok9.out.few;have:=ok9.out.le;omega
      go_wp2_with fail;refine (zz (h9.below (zf _ _)) 62 [] 0 a8 [(j:Int),x9] _ (KS.lit _ [(j:Int),x9]) (h9.fresh _ _) hfew).mono ?_;rintro e w10 hp;rcases hp.cases with⟨p,hm,he,hb⟩|⟨x10,st10,hm10,v,rfl,hv,h10,f10⟩
      ·cases hm
      have F10:=(F9.trans (Fr.of_below h9.base (zf _ _))).trans f10;unfold ju at hv;subst hv;have hr2:r=.ok (x10,false) st10:=hr.out.symm.trans (yb hm10);subst hr2;go_wp2;refine bodyPost_ret (results_tmp2 rfl _ _ _) rfl ?_;exact⟨⟨_,rfl,rfl⟩,h10,F10⟩
     ·go_wp2_with fail;refine pgo hr (vu h7 (by omega)) F7 (Fr.refl _ _) ?_;clear hr;intro w8 x8 st8 v hv hm8 h8 f8 F8 hr;have n8:=vg (vQ hk) ok7.out.wf hm8;have ok8:=zi (ok7.out.nx n8 (by decide));unfold kO vM at hv;subst hv;obtain⟨k8,t8,a8⟩:=x8;simp only at hr ⊢;have hle8:=ok8.out.le;have ha8:=n8.adv;go_wp2_with fail;refine XI hr (hR.out.expr _ _ _ h8 ok8.out (by omega)) F8 (Fr.refl _ _) ok8 (hR.out.good.expr) ?_;clear hr;intro w9 x9 st9 hm9 h9 f9 F9 n9 vd9 ok9 hle9 ha9 hr;have hfew:st9.nodes.length<=1000000:=by have:=ok9.out.few;have:=ok9.out.le;omega
      go_wp2_with fail;refine (zz (h9.below (zf _ _)) 62 [] 0 a8 [(j:Int),x9] _ (KS.lit _ [(j:Int),x9]) (h9.fresh _ _) hfew).mono ?_;rintro e w10 hp;rcases hp.cases with⟨p,hm,he,hb⟩|⟨x10,st10,hm10,v,rfl,hv,h10,f10⟩
      ·cases hm
      have F10:=(F9.trans (Fr.of_below h9.base (zf _ _))).trans f10;unfold ju at hv;subst hv;have hr2:r=.ok (x10,false) st10:=hr.out.symm.trans (yb hm10);subst hr2;go_wp2;refine bodyPost_ret (results_tmp2 rfl _ _ _) rfl ?_;exact⟨⟨_,rfl,rfl⟩,h10,F10⟩
    ·have hk5:(kk == 5 || kk == 23)=false:=by simpa using hkk
     have hr8:qw.bad (zy E st6).at_=r:=by
      have:=hr.out;rw[if_neg (by rw[hk5];decide)] at this;exact this
     have b5:((kk:Int) == 5)=false:=bfE (by omega)
     have b6:((kk:Int) != 5)=true:=by rw[wT];omega
     have b7:((kk:Int) == 23)=false:=bfE (by omega)
     have b8:((kk:Int) != 23)=true:=by rw[wT];omega
     subst hr8;clear hkk hk5;go_wp2_with fail;refine (KL h7).mono ?_;rintro e w8 ⟨rfl,hb8⟩;unfold Pan;go_wp2_with fail;exact⟨rfl,rfl,(F7.trans (Fr.of_below h7.base hb8)).b⟩
end
section
open Go.RowKit Lode Go.Shelf
attribute [local go_sem ↓] Go.wp_at_zero Go.wp_at_succ
open Go.Proofs.Tryz
theorem zdc:∀(l:List Obj) (w:World),(l.foldl World.alloc w).heap.size=w.heap.size+l.length
 |[],_=>rfl
 |o :: l,w=>by
  show (l.foldl World.alloc (w.alloc o)).heap.size=_
  rw[zdc l (w.alloc o)];simp;omega
theorem zX:∀(l:List Obj) (w:World),Below w.heap.size w (l.foldl World.alloc w)
 |[],_=>pF _ _
 |o :: l,w=>zg (zf w o) (zX l (w.alloc o))
theorem zJ:∀(l:List Obj) (w:World) (i:Nat) (o:Obj),l[i]? =some o->(l.foldl World.alloc w).heap[w.heap.size+i]? =some o
 |[],_,_,_,h=>by simp at h
 |a :: l,w,0,_,h=>by
  cases h;exact zh (zX l (w.alloc a)) (zk w a)
 |a :: l,w,i+1,o,h=>by
  have:=zJ l (w.alloc a) i o (by simpa using h);rw[World.size_alloc] at this;rw[show w.heap.size+(i+1)=w.heap.size+1+i by omega];exact this
def LvB(w:World)(B:Nat):Prop:=∀L,L<5->w.heap[B+2*L]? =some (.cells ((yS L).map fun x=>Value.string ⟨x.toArray⟩).toArray 9 (0,0))/\w.heap[B+2*L+1]? =some (.cells ((jk L).map fun (k:Nat)=>Value.int .u8 k).toArray 5 (0,0))
theorem LvB.below{w w':World}{B:Nat}(h:LvB w B)(hb:Below w.heap.size w w'):LvB w' B:=fun L hL=>⟨zh hb (h L hL).1,zh hb (h L hL).2⟩
theorem LvB.fr{base:Nat}{w w':World}{B:Nat}(h:LvB w B)(hb:Fr base w w'):LvB w' B:=fun L hL=>⟨hb.keep _ _ _ _ (h L hL).1 (by decide) (by decide),hb.keep _ _ _ _ (h L hL).2 (by decide) (by decide)⟩
abbrev jB(B n:Nat):Value:=.slice (some ⟨B,0,none⟩) n n
def lvV(B:Nat):Value:=.agg #[jB B 1,jB (B+1) 1,jB (B+2) 1,jB (B+3) 1,jB (B+4) 7,jB (B+5) 7,jB (B+6) 3,jB (B+7) 3,jB (B+8) 3,jB (B+9) 3]
def vO:List Obj:=[.cells ((yS 0).map fun x=>Value.string ⟨x.toArray⟩).toArray 9 (0,0),.cells ((jk 0).map fun (k:Nat)=>Value.int .u8 k).toArray 5 (0,0),.cells ((yS 1).map fun x=>Value.string ⟨x.toArray⟩).toArray 9 (0,0),.cells ((jk 1).map fun (k:Nat)=>Value.int .u8 k).toArray 5 (0,0),.cells ((yS 2).map fun x=>Value.string ⟨x.toArray⟩).toArray 9 (0,0),.cells ((jk 2).map fun (k:Nat)=>Value.int .u8 k).toArray 5 (0,0),.cells ((yS 3).map fun x=>Value.string ⟨x.toArray⟩).toArray 9 (0,0),.cells ((jk 3).map fun (k:Nat)=>Value.int .u8 k).toArray 5 (0,0),.cells ((yS 4).map fun x=>Value.string ⟨x.toArray⟩).toArray 9 (0,0),.cells ((jk 4).map fun (k:Nat)=>Value.int .u8 k).toArray 5 (0,0)]
theorem LvB.of{w:World}:LvB (vO.foldl World.alloc w) w.heap.size:=fun L hL=>by
 obtain rfl|rfl|rfl|rfl|rfl:L=0\/L=1\/L=2\/L=3\/L=4:=by omega
 ·exact⟨zJ vO w 0 _ rfl,zJ vO w 1 _ rfl⟩
 ·exact⟨zJ vO w 2 _ rfl,zJ vO w 3 _ rfl⟩
 ·exact⟨zJ vO w 4 _ rfl,zJ vO w 5 _ rfl⟩
 ·exact⟨zJ vO w 6 _ rfl,zJ vO w 7 _ rfl⟩
 ·exact⟨zJ vO w 8 _ rfl,zJ vO w 9 _ rfl⟩
theorem Zz(w:World):Calls prog 106 #[] w fun e w'=>e=.returned (lvV (w.heap.size+1))/\LvB w' (w.heap.size+1)/\Below w.heap.size w w':=by
 go_enter func106,ntmps106;go_wp2_with fail;generalize hW:World.alloc _ _=W;obtain⟨O,hO⟩:∃O:Obj,.cells #[jB (w.heap.size+1) 1,jB (w.heap.size+2) 1,jB (w.heap.size+3) 1,jB (w.heap.size+4) 1,jB (w.heap.size+5) 7,jB (w.heap.size+6) 7,jB (w.heap.size+7) 3,jB (w.heap.size+8) 3,jB (w.heap.size+9) 3,jB (w.heap.size+10) 3] 168 (0,0)=O:=⟨_,rfl⟩;have hW2:vO.foldl World.alloc (w.alloc O)=W:=by
  rw[<-hO];exact hW
 clear hW;have hz:W.heap[w.heap.size]? =some O:=by
  rw[<-hW2];exact zh (zX _ _) (zk w O)
 rw[<-hO] at hz;refine bodyPost_ret (v:=lvV (w.heap.size+1)) (by simp[results,results106,go_sem,lvV,zd hz]) rfl ?_;have hl:=LvB.of (w:=w.alloc O);rw[hW2,World.size_alloc] at hl;refine⟨rfl,hl,?_⟩;rw[<-hW2];exact zg (zf w O) (zX _ _)
end
section
open Go.RowKit Lode Go.Shelf
open Go.Proofs.Tryz
theorem VO{w:World}{base g n cap:Nat}{xs ys:List Value}(hown:w.ownsRow base 3 1 (.slice (some ⟨g,0,none⟩) n cap) n xs){ad:Addr}(c2:Nat)(hnews:∀j x,ys[j]? =some x->w.cell? (ad.add j)=some x)(h1':∀x∈ys,x.oneCell'=true)(hn:n+ys.length<=1000000)(hbase:base<=w.heap.size)(ty:TypeId):
 ∃g' cap' w',(Builtin.append_ #[24,24] ty #[.slice (some ⟨g,0,none⟩) n cap,.slice (some ad) ys.length c2]).run prog w=.ok (.slice (some ⟨g',0,none⟩) (n+ys.length) cap') w'/\w'.ownsRow base 3 1 (.slice (some ⟨g',0,none⟩) (n+ys.length) cap') (n+ys.length) (xs ++ ys)/\w.grownBy w' (some g)/\(g'=g\/g'=w.heap.size):=by
 obtain⟨i0,hi,hz0,hz1,hz2⟩:=info_parts Tryz.infoIntP;obtain⟨v',w',hr,h2,h3,_⟩:=run_append_own (P:=prog) w base 24 ty 3 i0 _ 1 8 underlying24 hi hz0 hz1 hz2 rfl (by decide) _ n xs hown ad ys.length c2 ys (by simp) hnews h1' (by unfold maxLen;omega) (by omega) hbase;have key:∃g' cap',v'=.slice (some ⟨g',0,none⟩) (n+ys.length) cap'/\(g'=g\/g'=w.heap.size):=by
  rcases id hown.2 with⟨h,_⟩|⟨g2,cap2,cur,h,_,hg,hnc,hcm,hcs,htake⟩
  ·simp at h
  ·simp only[Value.slice.injEq,pQ,Addr.mk.injEq,and_true,true_and] at h;obtain⟨rfl,rfl⟩:=h;by_cases hroom:n+ys.length<=cap
   ·have hr2:=run_append_room (P:=prog) w 24 ty 3 i0 underlying24 hi g n cap cur hg ad ys.length c2 ys (by rw[hz1];simp) hnews h1' hroom (by rw[hz1,hcs];simp;omega);rw[hr] at hr2;simp only[Result.ok.injEq] at hr2;exact⟨g,cap,hr2.1,.inl rfl⟩
   ·have hr2:=run_append_grow (P:=prog) w 24 ty 3 i0 _ underlying24 hi hz0 ⟨g,0,none⟩ n cap xs (by rw[hz1];exact hown.1) (hown.cells (g:=g) rfl) ad ys.length c2 ys (by rw[hz1];simp) hnews (by omega) (by omega) (growslice_fits (by omega) (by rw[hz2];omega));rw[hr] at hr2;simp only[Result.ok.injEq] at hr2;exact⟨_,_,hr2.1,.inr rfl⟩
 obtain⟨g',cap',rfl,hg'⟩:=key;exact⟨g',cap',w',hr,h2,h3,hg'⟩
theorem zcx{w:World}{b:Nat}{u:Value}{ys:List Int}(h:w.ownsRow b 3 1 u ys.length (yZ ys))(hne:ys≠[]):∃g c2,u=.slice (some ⟨g,0,none⟩) (yZ ys).length c2/\∀j x,(yZ ys)[j]? =some x->w.cell? ((⟨g,0,none⟩:Addr).add j)=some x:=by
 rcases id h.2 with⟨_,h0⟩|⟨g,cap,cur,hv,_⟩
 ·exact absurd (pM h0) hne
 ·subst hv;exact⟨g,cap,by simp,fun j x hj=>h.cells (g:=g) rfl j x hj⟩
theorem KA(ys:List Int):∀x∈yZ ys,x.oneCell'=true:=fun x hx=>by
 obtain⟨z,_,rfl⟩:=List.mem_map.1 hx;rfl
theorem zbS{w:World}{ops:Array Oper}{rest:List Oper}{o:Oper}{a:Act}{Q:Exit->Act->World->Prop}(hgd:o.guard=none)(s x:Operand)
 (ho:o.op=.call {callee:=.builtin .append,args:= #[s,x],argTypes:= #[24,24]})
 {base g n cap:Nat} {xs:List Value} (hs:a.eval s=.slice (some ⟨g,0,none⟩) n cap) (hown:w.ownsRow base 3 1 (.slice (some ⟨g,0,none⟩) n cap) n xs) {b2:Nat} {u:Value} {ys:List Int} (hx:a.eval x=u) (hu:w.ownsRow b2 3 1 u ys.length (yZ ys)) (hne:ys≠[]) (hn:n+ys.length<=1000000) (hbase:base<=w.heap.size)
 (h:∀g' cap' w',w'.ownsRow base 3 1 (.slice (some ⟨g',0,none⟩) (n+ys.length) cap') (n+ys.length) (xs ++ yZ ys)->w.grownBy w' (some g)->(g'=g\/g'=w.heap.size)->wpList prog ops Q rest (a.put o.dst (.slice (some ⟨g',0,none⟩) (n+ys.length) cap')) w'):wpList prog ops Q (o :: rest) a w:=by
 refine wpList_plain hgd fun K hK=>?_
 obtain⟨g2,c2,rfl,hnews⟩:=zcx hu hne;have hl:(yZ ys).length=ys.length:=by simp
 obtain⟨g',cap',w',hr,h2,h3,h4⟩:=VO hown c2 hnews (KA ys) (by rw[hl];exact hn) hbase o.type;rw[hl] at hr h2;rw[hl] at hx;unfold Oper.wp;simp[execOp,ho,resolve,invoke,builtin,hs,hx,hr,Result.andThen];exact hK _ _ (h g' cap' w' h2 h3 h4)
theorem zah{E:zv}{base pb B:Nat}{iv v:Value}{G H:Nat->Prop}{w1 w2:World}{st:zY}{acc ys:List Int}{g' cap':Nat}(h1:PW E base pb iv H w1 st)(hv:∀g,v.ownBlock=some g->H g)(hGH:∀g,G g->H g)(hown:w1.ownsRow B 3 1 v acc.length (yZ acc))(hB:base<=B)(hiv:∀g,iv.ownBlock=some g->g<B)
 (hrow:w2.ownsRow B 3 1 (.slice (some ⟨g',0,none⟩) (acc.length+ys.length) cap') (acc.length+ys.length) (yZ acc ++ yZ ys)) (hgrow:w1.grownBy w2 v.ownBlock) (hg':v.ownBlock=some g'\/g'=w1.heap.size) :
 ∃v2,Value.slice (some ⟨g',0,none⟩) (acc.length+ys.length) cap'=v2/\w2.ownsRow B 3 1 v2 (acc ++ ys).length (yZ (acc ++ ys))/\PW E base pb iv (Gw G v2) w2 st/\w1.heap.size<=w2.heap.size/\∀w,Fr base w w1->w.heap.size<=B->base<=w.heap.size->Fr base w w2:=by
 have hrow2:w2.ownsRow B 3 1 (.slice (some ⟨g',0,none⟩) (acc.length+ys.length) cap') (acc ++ ys).length (yZ (acc ++ ys)):=by
  rw[pC];simp only[yZ,List.map_append];exact hrow
 refine⟨_,rfl,hrow2,h1.append hown hB hv (fun g hg e=>?_) hgrow hg' (hrow2.lt g' rfl).2 (fun g hg=>?_),hgrow.size,fun w F hw hb=>F.grow_new hgrow hb (fun k hk=>pN hw (hown.lt k hk).1)⟩
 ·have a:=(hown.lt g hg).1;have b:=hiv g e;omega
 ·rcases hg with hg|hg
  ·exact .inl (hGH g hg)
  ·exact .inr (Option.some.inj hg).symm
theorem zcG{part:PM Int}:∀(n:Nat) (acc:List Int) {E:zv} {s:zY} {a:List Int} {s':zY},qm n part acc E s=.ok a s'->a≠[]
 |0,_,_,_,_,_,h=>by cases h
 |n+1,acc,E,s,a,s',h=>by
  unfold qm at h;obtain⟨x,s1,h1,h⟩:=zm h;obtain⟨b,s2,h2,h⟩:=zm h;cases b with
  |true=>exact zcG n (acc ++ [x]) h
  |false=>
   obtain⟨rfl,rfl⟩:=zD h;simp
theorem zfe{part:PM Int}{E:zv}{s:zY}{a:List Int}{s':zY}(h:kC part E s=.ok a s'):a≠[]:=zcG _ _ h
theorem zgL{part:PM Int}{E:zv}{s:zY}{a:List Int}{s':zY}(h:xQ part E s=.ok a s'):a≠[]:=by
 unfold xQ at h;obtain⟨_,s1,_,h⟩:=zm h;obtain⟨l,s2,h2,h⟩:=zm h;obtain⟨_,s3,_,h⟩:=zm h;obtain⟨rfl,rfl⟩:=zD h;exact zfe h2
end
section
open Go.RowKit Lode Go.Shelf
attribute [local go_sem ↓] Go.wp_at_zero Go.wp_at_succ
attribute [local go_sem] JL zkp JK
open Go.Proofs.Tryz
def zj5(E:zv)(base pb n:Nat)(iv:Value)(G:Nat->Prop)(R:xN)(w:World)(r:qw Int)(v:Value)(wr:World):Prop:=∃st k left,v=.int .i64 left/\jL R k left E st=r/\E.toks.length-st.next<k/\E.toks.length-st.next<n/\Vd st left/\qG E st/\PW E base pb iv G wr st/\Fr base w wr
theorem zfR{E:zv}{base pb n:Nat}{iv:Value}{R:xN}(hR:kg E base pb iv n R)(hA:Vi E base pb iv (n+1) 209 (vB R)):Vi E base pb iv (n+1) 199 (jc R):=by
 intro G w st0 h0 ok0 hn;have henter:=zi (enters_of (P:=prog) func142 (by kernel_rfl) rfl);have gA:Hid (Gd 0 Vd (vB R)):=zi (fun h0 hw h=>zfG hR.good h0 hw h);replace hA:=zi hA;obtain⟨r,hr⟩:=exE (jc R E st0);rw[hr];unfold jc at hr;replace hr:=zi hr;replace ok0:=zi ok0;replace hR:=zi hR;have F0:=Fr.refl base w;have hlim:=ok0.out.lim;have hle:=ok0.out.le;have hG0:=h0.glt;have hbase:=h0.base;have hivlt:=zi (fun g=>h0.ivlt (g:=g));go_enter func199,ntmps199;go_wp2_with fail;refine (jN h0 [45]).mono ?_;rintro e w1 ⟨rfl,hb1⟩;have hb1:=zg (zf w _) hb1;have h1:=h0.below hb1;have F1:=F0.trans (Fr.of_below h0.base hb1);have ok1:=ok0;have hs1:=hb1.size;cases hk:uq (zy E st0) [[45]] with
 |true=>
  replace hr:=zi ((vD hk).symm.trans hr.out);go_wp2_with fail;refine pgo hr (vu h1 (by omega)) F1 (Fr.refl _ _) ?_;clear hr;intro w2 x2 st2 v hv hm2 h2 f2 F2 hr;have n2:=vg (vQ hk) ok0.out.wf hm2;have ok2:=zi (ok1.out.nx n2 (by decide));unfold kO vM at hv;subst hv;obtain⟨k2,t2,a2⟩:=x2;simp only at hr ⊢;have hz:=zk w2 (.cells #[.int .u8 k2,.string ⟨t2.toArray⟩,.int .i64 a2] 37 (0,0));have h3:=h2.below (zf w2 (.cells #[.int .u8 k2,.string ⟨t2.toArray⟩,.int .i64 a2] 37 (0,0)));have F3:=F2.trans (Fr.of_below h2.base (zf w2 (.cells #[.int .u8 k2,.string ⟨t2.toArray⟩,.int .i64 a2] 37 (0,0))));go_wp2_with fail;generalize w2.alloc (.cells #[.int .u8 k2,.string ⟨t2.toArray⟩,.int .i64 a2] 37 (0,0))=w3 at *;have hS:∀W,(yO base).rel w3.drew W->W.cell? ⟨w2.heap.size,2,none⟩=some (.int .i64 a2):=fun W hF=>zd (hF.keep _ _ _ _ hz (by decide) (by decide)) 2
  clear hz;have ha2:=n2.adv;have hle2:=ok2.out.le;refine LodeX.jm (RR:=yO base) (Xp:=XP base r w) [(0,0),(1,0),(2,1),(3,0),(4,2),(5,2),(6,2),(7,0)] ?_;refine LodeX.qT ?_;refine LodeX.callX fun K hK=>?_
  go_simp;refine XV hr (hR.out.unary _ _ _ (h3.below bR.drew) ok2.out (by omega)) F3 ((Fr.of_below h3.base bR.drew)) ?_;clear hr;intro w7 x7 st7 hm7 h7 f7 F7 hr;refine⟨f7,hK _ _ ?_⟩;clear hK K;have hS:=fun W (hF:(yO base).rel w7 W)=>hS W (Fr.trans f7 hF)
  try simp only[Act.put,yG,yE,yF]
  obtain⟨n7,vd7⟩:=hR.out.good.unary ok2.out.le ok2.out.wf hm7;have ok7:=ok2.out.nx n7 (by decide);have hfew:st7.nodes.length<=1000000:=by have:=ok7.few;have:=ok7.le;omega
  refine LodeX.callX fun K hK=>?_
  go_simp;refine⟨Fr.of_below h7.base (zf _ _),hK _ _ ?_⟩;clear hK K
  try simp only[Act.put,yG,yE,yF]
  refine LodeX.callX fun K hK=>?_
  go_simp;refine zO hr (zz (h7.below (zf _ _)) 6 [] 0 a2 [x7] _ (KS.lit _ [x7]) (h7.fresh _ _) hfew) F7 (Fr.of_below h7.base (zf _ _)) ?_;rintro w8 x8 st8 hm8 rfl h8 f8 F8;refine⟨f8,hK _ _ ?_⟩;clear hK K
  try simp only[Act.put,yG,yE,yF]
  refine LodeX.qT ?_;refine LodeX.zC fun W hW=>?_
  cases hW;clear hS;go_wp2;go_ret;exact⟨⟨_,rfl,rfl⟩,h8,F8⟩
 |false=>
  replace hr:=zi ((jV hk).symm.trans hr.out);go_wp2_with fail;refine XI hr (hA.out _ _ _ h1 ok1.out hn) F1 (Fr.refl _ _) ok1 (gA.out) ?_;clear hr;intro w2 x2 st2 hm2 h2 f2 F2 n2 vd2 ok2 hle2 ha2 hr;have hst:zj5 E base pb (n+1) iv G R w r (.int .i64 x2) w2:=⟨st2,_,x2,rfl,hr.out,by omega,by omega,vd2,ok2.out,h2,F2⟩;replace hst:=zi hst;clear hr hk h1 hb1 F1 hs1 h2 F2 f2 hm2;go_wp2;go_loopw [4] (fun v wr=>zj5 E base pb (n+1) iv G R w r v wr) (fun _ wr=>E.toks.length+1-xh pb wr)
  case atStart=>exact hst.out
  case round=>
   obtain⟨st3,k,left,rfl,hr,hk,hn3,hvd,ok3,h3,F3⟩:=hrel;obtain⟨k,rfl⟩:∃m,k=m+1:=⟨k-1,by omega⟩;unfold jL at hr;have hle3:=ok3.le;replace ok3:=zi ok3;replace hr:=zi ((yb (show qP E st3=.ok (zy E st3) st3 from rfl)).symm.trans hr);have HT:=zi (qy h3);generalize zy E st3=t at HT hr;obtain⟨k1,t1,a1⟩:=t;unfold vM at HT;go_wp2_with fail;refine HT.out.mono ?_;rintro e w4 ⟨rfl,hb4⟩;have hb4:=zg bR hb4;have h4:=h3.below hb4;have F4:=F3.trans (Fr.of_below h3.base hb4);have ok4:=ok3;clear HT;go_wp2_with fail;refine Yu hr (yl (h4.below (zf _ _)) (by omega) [46]) F4 (Fr.of_below h4.base (zf _ _)) ok4 ?_;clear hr;intro w5 x5 st5 hm5 h5 f5 F5 n5 ok5 hle5 hr;cases x5 with
   |true=>
    have ha5:=yw hm5;replace hr:=zi ((if_pos (rfl:true=true)▸hr.out:_));go_wp2_with fail;refine jo hr (xq h5 (by omega) 1) F5 (Fr.refl _ _) ok5 (yh (by decide)) ?_;clear hr;intro w6 x6 st6 hm6 h6 f6 F6 n6 ok6 hle6 ha6 hr;have ha6:=n6.adv;obtain⟨k6,t6,a6⟩:=x6;simp only at hr ⊢;have cz:=zd ((f5.trans f6).keep _ _ _ _ (zk w4 _) (by decide) (by decide)) 2;have hfew:st6.nodes.length<=1000000:=by have:=ok6.out.few;omega
    go_wp2_with fail;refine (zz (h6.below (zf _ _)) 23 t6 0 a1 [left] _ (KS.lit _ [left]) (h6.fresh _ _) hfew).mono ?_;rintro e w7 hp;rcases hp.cases with⟨p,hm,he,hb⟩|⟨x7,st7,hm7,v,rfl,hv,h7,f7⟩
    ·cases hm
    replace hr:=zi ((yb hm7).symm.trans hr.out);have F7:=(F6.trans (Fr.of_below h6.base (zf _ _))).trans f7;unfold ju at hv;subst hv;obtain⟨n7,vd7⟩:=zK ok6.out.le ok6.out.wf (YD ((hvd.later n5).later n6)) hm7;have N7:=(n5.trans n6).trans n7;have ok7:=ok3.out.nx N7 (by decide);have hn7:=N7.le;have hn76:=n7.next;go_wp2;go_roundw
    case rel=>exact⟨st7,k,x7,rfl,hr.out,by omega,by omega,vd7,ok7,h7,F7⟩
    case measure=>
     rw[h7.xh,h3.xh];omega
   |false=>
    have hn5:st5.next=st3.next:=by rw[yd hm5]
    have hr5:=hr.out;rw[if_neg (by decide)] at hr5;replace hr:=zi hr5;clear hr5;go_wp2_with fail;refine Yu hr (yl h5 (by omega) [40]) F5 (Fr.refl _ _) ok5 ?_;clear hr;intro w6 x6 st6 hm6 h6 f6 F6 n6 ok6 hle6 hr;cases x6 with
    |false=>
     have hr6:qw.ok left st6=r:=by
      have:=hr.out;rw[if_neg (by decide)] at this;exact this
     subst hr6;go_wp2;go_ret;exact⟨⟨_,rfl,rfl⟩,h6,F6⟩
    |true=>
     have ha6:=yw hm6;replace hr:=zi ((if_pos (rfl:true=true)▸hr.out:_));have hg:=h6.glit (.cells #[.int .i64 left] 3 (0,0)) 1 1;have T6:=f5.trans f6;have hts:=T6.b.size;have hs6:=F6.b.size;have HS:=jN hg [41];rw[show (w6.alloc (.cells #[.int .i64 left] 3 (0,0))).heap.size=w6.heap.size+1 by simp] at HS;replace HS:=zi HS;go_wp2_with fail;refine HS.out.mono ?_;rintro e w7 ⟨rfl,hb7⟩;have hb7:=zg (zf (w6.alloc (.cells #[.int .i64 left] 3 (0,0))) _) hb7;have h7:=hg.below hb7;have f7:=(Fr.of_below h6.base (zf w6 (.cells #[.int .i64 left] 3 (0,0)))).trans (Fr.of_below hg.base hb7);have F7:=F6.trans f7;have T7:=T6.trans f7;have o7:w7.ownsRow w6.heap.size 3 1 (.slice (some ⟨w6.heap.size,0,none⟩) 1 1) 1 (yZ [left]):=zu (za8 w6 left rfl) hb7;replace o7:=zi o7;have hs7:w6.heap.size<=w7.heap.size:=by have:=hb7.size;simp at this;omega
     have ok7:=ok6;have hbs6:=h6.base;cases hk7:uq (zy E st6) [[41]] with
     |true=>
      replace hr:=zi ((yb (Kx hk7 rfl)).symm.trans hr.out);go_wp2_with fail;refine jo hr (zw h7 (by omega) [41]) F7 (Fr.refl _ _) ok7 (zo) ?_;clear hr;intro w9 x9 st9 hm9 h9 f9 F9 n9 ok9 hle9 ha9 hr;have ha9:=n9.adv;have cz:=zd ((T7.trans f9).keep _ _ _ _ (zk w4 _) (by decide) (by decide)) 2;have hfew:st9.nodes.length<=1000000:=by have:=ok9.out.few;omega
      have o9:w9.ownsRow w6.heap.size 3 1 (.slice (some ⟨w6.heap.size,0,none⟩) 1 1) [left].length (yZ [left]):=zH o7.out f9 (by decide) (by decide);replace o9:=zi o9;have hvd9:=((hvd.later n5).later n6).later n9;have nz:=fun {E':zv} (st:zY) (x:Int) (h:E'=E) (hm:zG 24 [] 0 a1 [left] E st9=.ok x st)=>zK ok9.out.le ok9.out.wf (YD hvd9) hm
      go_wp2_with fail;refine (zz (h9.ungw.below bR) 24 [] 0 a1 [left] _ (KS.own o9.out) (yB o9.out (fun g hg=>by have:=hG0 g hg;omega)) hfew).mono ?_;rintro e wz hp;rcases hp.cases with⟨p,hm,he,hb⟩|⟨xz,stz,hmz,v,rfl,hv,hz,fz⟩
      ·cases hm
      replace hr:=zi ((yb hmz).symm.trans hr.out);have Fz:=F9.trans fz;unfold ju at hv;subst hv;have nz:=nz stz xz (E':=E) rfl hmz;have Nz:=((n5.trans n6).trans n9).trans nz.1;have okz:=ok3.out.nx Nz (by decide);have hnz:=Nz.le;have hnz2:=nz.1.next;go_wp2;go_roundw
      case rel=>exact⟨stz,k,xz,rfl,hr.out,by omega,by omega,nz.2,okz,hz,Fz⟩
      case measure=>
       rw[hz.xh,h3.xh];omega
     |false=>
      replace hr:=zi ((ua (Qn hk7)).symm.trans hr.out);go_wp2_with fail;refine lgo hr (Ya hR.out.expr hR.out.good.expr henter.out h7 ok7.out (by omega)) F7 (Fr.refl _ _) ?_;clear hr;intro w8 x8 st8 v8 l8 o8 hm8 h8 f8 F8 hr;obtain⟨n8,vl8⟩:=uG hR.out.good.expr ok7.out.le ok7.out.wf hm8;have ok8:=zi (ok7.out.nx n8 (by decide));have hle8:=ok8.out.le;have hne8:=zfe hm8;have T8:=T7.trans f8;have p8:w8.ownsRow w6.heap.size 3 1 (.slice (some ⟨w6.heap.size,0,none⟩) 1 1) 1 (yZ [left]):=zH o7.out f8 (by decide) (by decide);have hs8:w6.heap.size<=w8.heap.size:=by have:=f8.b.size;omega
      go_wp2_with (at_builtin;refine zbS rfl _ _ rfl rfl p8 rfl o8 hne8 (by omega) (by omega) ?_);intro g' cap' w9 hrow hgrow hg';obtain⟨v9,e9,o9,h9,gs9,FF9⟩:=zah (G:=G) (acc:=[left]) h8 (fun g hg=>.inl (.inr hg)) (fun g hg=>.inl (.inl hg)) p8 (by omega) (fun g hg=>by have:=hivlt.out g hg;omega) hrow hgrow (hg'.imp (fun h=>by rw[h];rfl) id);have e9':Value.slice (some ⟨g',0,none⟩) (1+x8.length) cap'=v9:=e9;rw[e9'];have F9:=FF9 w F8 hs6 hbase;have T9:=FF9 _ T8 hts (by have:=h4.base;simp;omega);replace o9:=zi o9;have ok9:=ok8;clear hrow hgrow hg' e9 e9' FF9 p8;go_wp2_with fail;refine jo hr (zw h9 (by omega) [41]) F9 (Fr.refl _ _) ok9 (zo) ?_;clear hr;intro w10 x10 st10 hm10 h10 f10 F10 n10 ok10 hle10 ha10 hr;have ha10:=n10.adv;have ha8:=n8.next;have cz:=zd ((T9.trans f10).keep _ _ _ _ (zk w4 _) (by decide) (by decide)) 2;have hfew:st10.nodes.length<=1000000:=by have:=ok10.out.few;omega
      have o10:=zi (zH o9.out f10 (by decide) (by decide));have hvd10:=(((hvd.later n5).later n6).later n8).later n10;have vl10:=vl8.later n10;go_wp2_with fail;refine (zz (h10.ungw.below bR) 24 [] 0 a1 ([left] ++ x8) _ (KS.own o10.out) (yB o10.out (fun g hg=>by have:=hG0 g hg;omega)) hfew).mono ?_;rintro e wz hp;rcases hp.cases with⟨p,hm,he,hb⟩|⟨xz,stz,hmz,v,rfl,hv,hz,fz⟩
      ·cases hm
      replace hr:=zi ((yb hmz).symm.trans hr.out);have Fz:=F10.trans fz;unfold ju at hv;subst hv;have nz:=zK ok10.out.le ok10.out.wf (Jp hvd10 vl10) hmz;have Nz:=(((n5.trans n6).trans n8).trans n10).trans nz.1;have okz:=ok3.out.nx Nz (by decide);have hnz:=Nz.le;have hnz2:=nz.1.next;go_wp2;go_roundw
      case rel=>exact⟨stz,k,xz,rfl,hr.out,by omega,by omega,nz.2,okz,hz,Fz⟩
      case measure=>
       rw[hz.xh,h3.xh];omega
end
section
open Go.RowKit Lode Go.Shelf
attribute [local go_sem ↓] Go.wp_at_zero Go.wp_at_succ
open Go.Proofs.Tryz
def JG(sp:List UInt8)(k:Nat)(m:Int):Value:=.agg #[.string ⟨sp.toArray⟩,.int .u8 k,.int .i64 m]
theorem zfP{E:zv}{base pb:Nat}{iv:Value}{R:xN}(t:yp)(sp:List UInt8)(wk:Nat){G:Nat->Prop}{w:World}{st0:zY}(h0:PW E base pb iv G w st0)(ok0:qG E st0):Calls prog 220 #[.pointer (some ⟨pb,0,none⟩),vM t,JG sp wk 0] w (xK E base pb iv G (jK R t (wk,0) E st0) ju w):=by
 obtain⟨r,hr⟩:=exE (jK R t (wk,0) E st0);rw[hr];replace hr:=zi (show (zG wk [] 0 t.at_ []:PM Int) E st0=r from hr);have hle:=ok0.le;have hlim:=ok0.lim;have hfew:st0.nodes.length<=1000000:=by have:=ok0.few;omega
 have F0:=Fr.refl base w;obtain⟨k1,t1,a1⟩:=t;unfold vM JG;simp only at hr ⊢;have hA:=zf w (.cells #[.int .u8 k1,.string ⟨t1.toArray⟩,.int .i64 a1] 37 (0,0));have hB:=zg hA (zf (w.alloc (.cells #[.int .u8 k1,.string ⟨t1.toArray⟩,.int .i64 a1] 37 (0,0))) (.cells #[.string ⟨sp.toArray⟩,.int .u8 wk,.int .i64 0] 178 (0,0)));go_enter func220,ntmps220;go_wp2_with fail;refine zO hr (zz (h0.below hB) wk [] 0 a1 [] _ (KS.nil' _) xt hfew) F0 (Fr.of_below h0.base hB) ?_;rintro w1 x1 st1 hm1 rfl h1 f1 F1;go_wp2;go_ret;exact⟨⟨_,rfl,rfl⟩,h1,F1⟩
theorem zfO{E:zv}{base pb n:Nat}{iv:Value}{R:xN}(hR:kg E base pb iv n R)(t:yp)(sp:List UInt8)(wk:Nat){G:Nat->Prop}{w:World}{st0:zY}(h0:PW E base pb iv G w st0)(ok0:qG E st0)(hn:E.toks.length-st0.next<n):Calls prog 220 #[.pointer (some ⟨pb,0,none⟩),vM t,JG sp wk (-1)] w (xK E base pb iv G (jK R t (wk,-1) E st0) ju w):=by
 obtain⟨r,hr⟩:=exE (jK R t (wk,-1) E st0);rw[hr];replace hr:=zi (show (do let l <-(do let x <-R.unary;pure [x]:PM (List Int));zG wk [] 0 t.at_ l:PM Int) E st0=r from hr);have hw1:(do let l <-(do let x <-R.unary;pure [x]:PM (List Int));zG wk [] 0 t.at_ l:PM Int) E st0=(do let x <-R.unary;zG wk [] 0 t.at_ [x]:PM Int) E st0:=by
  show PM.bind (PM.bind R.unary _) _ E st0=PM.bind R.unary _ E st0
  unfold PM.bind;cases R.unary E st0 <;> rfl
 replace hr:=zi (hw1.symm.trans hr.out);clear hw1;have hle:=ok0.le;have hlim:=ok0.lim;have hbase:=h0.base;have hG0:=h0.glt;have hivlt:=zi (fun g=>h0.ivlt (g:=g));have F0:=Fr.refl base w;replace ok0:=zi ok0;replace hR:=zi hR;obtain⟨k1,t1,a1⟩:=t;unfold vM JG;simp only at hr ⊢;have hA:=zf w (.cells #[.int .u8 k1,.string ⟨t1.toArray⟩,.int .i64 a1] 37 (0,0));have hz:=zk w (.cells #[.int .u8 k1,.string ⟨t1.toArray⟩,.int .i64 a1] 37 (0,0));have hC:=zf (w.alloc (.cells #[.int .u8 k1,.string ⟨t1.toArray⟩,.int .i64 a1] 37 (0,0))) (.cells #[.string ⟨sp.toArray⟩,.int .u8 wk,.int .i64 (-1)] 178 (0,0));have hB:=zg hA hC;have hz1:=zh hC hz;have hz2:=zk (w.alloc (.cells #[.int .u8 k1,.string ⟨t1.toArray⟩,.int .i64 a1] 37 (0,0))) (.cells #[.string ⟨sp.toArray⟩,.int .u8 wk,.int .i64 (-1)] 178 (0,0));rw[show (w.alloc (.cells #[.int .u8 k1,.string ⟨t1.toArray⟩,.int .i64 a1] 37 (0,0))).heap.size=w.heap.size+1 by simp] at hz2;replace hz1:=zi hz1;replace hz2:=zi hz2;clear hz;go_enter func220,ntmps220;go_wp2_with fail;refine XI hr (hR.out.unary _ _ _ (h0.below hB).gnil ok0.out hn) F0 (Fr.of_below h0.base hB) ok0 (hR.out.good.unary) ?_;clear hr;intro w1 x1 st1 hm1 h1 f1 F1 n1 YD ok1 hle1 ha1 hr;have hs1:=F1.b.size;have hfew:st1.nodes.length<=1000000:=by have:=ok1.out.few;omega
 obtain⟨acc,hacc⟩:∃l:List Int,[]=l:=⟨_,rfl⟩;have hal:acc.length<=0:=by rw[<-hacc];exact pE _
 have o1:=uE w1 (w.heap.size+2) hacc;have hs2:w.heap.size+2<=w1.heap.size:=by have:=f1.b.size;simp at this;omega
 have c1:=f1.keep _ _ _ _ hz1.out (by decide) (by decide);have c2:=f1.keep _ _ _ _ hz2.out (by decide) (by decide);have hbs2:=h1.base;have hss2:=F1.b.size;go_wp2_with (at_builtin;refine xC rfl _ _ rfl rfl (zu o1 (zf _ _)) rfl (zd (zk w1 _) 0) rfl rfl (by omega) (by simp;omega) ?_);intro g' cap' w2 hrow hgrow hg';obtain⟨v2,e2,o2,h2,gs2,FF2⟩:=xb h1 o1 (by omega) (fun g hg=>by have:=hivlt.out g hg;omega) hrow hgrow hg';rw[e2];replace o2:=zi o2;replace FF2:=zi FF2;clear hrow hgrow hg' e2;have F2:=FF2.out w F1 (by omega) hbase;have T2:=FF2.out _ f1 (by simp) (by have:=hB.size;omega);have d1:=zd (T2.keep _ _ _ _ hz1.out (by decide) (by decide)) 2;have d2:=zd (T2.keep _ _ _ _ hz2.out (by decide) (by decide)) 1;have d3:=zd (T2.keep _ _ _ _ hz2.out (by decide) (by decide)) 2;subst hacc;go_wp2_with fail;refine zO hr (zz (h2.ungw.below bR) wk [] 0 a1 _ _ (KS.own o2.out) (yB o2.out (fun g hg=>by have:=hG0 g hg;omega)) hfew) F2 (Fr.refl _ _) ?_;rintro w3 x3 st3 hm3 rfl h3 f3 F3;go_wp2;go_ret;exact⟨⟨_,rfl,rfl⟩,h3,F3⟩
theorem uk{α β γ:Type}{m:PM α}{f:α->PM β}{g:β->PM γ}{E:zv}{s:zY}:((m >>= f) >>= g) E s=(m >>= fun x=>f x >>= g) E s:=by
 show PM.bind (PM.bind m f) g E s=PM.bind m (fun x=>PM.bind (f x) g) E s
 unfold PM.bind;cases m E s <;> rfl
theorem yx{α β γ:Type}{A:PM α}{g:α->PM β}{h:β->PM γ}{E:zv}{s:zY}{r:qw γ}(k:Hid (((A >>= g) >>= h) E s=r)):Hid ((A >>= fun a=>g a >>= h) E s=r):=zi (uk.symm.trans k.out)
theorem Ki{α β:Type}{m:PM α}{f g:α->PM β}{E:zv}{s:zY}(h:∀x s',f x E s'=g x E s'):(m >>= f) E s=(m >>= g) E s:=by
 show PM.bind m f E s=PM.bind m g E s
 unfold PM.bind;cases m E s with
 |ok a s'=>exact h a s'
 |bad p=>rfl
theorem zdA{R:xN}{k:Nat}{acc:List Int}{f:List Int->PM Int}{E:zv}{s:zY}:(qB R (k+1) true acc >>= f) E s=(R.expr >>= fun x=>(qB R k false (acc ++ [x]) >>= f)) E s:=by
 show PM.bind (PM.bind (PM.ret ()) fun _=>PM.bind R.expr fun x=>qB R k false (acc ++ [x])) f E s=PM.bind R.expr (fun x=>PM.bind (qB R k false (acc ++ [x])) f) E s
 unfold PM.bind PM.ret;simp only;cases R.expr E s <;> rfl
theorem zf2{R:xN}{k:Nat}{acc:List Int}{f:List Int->PM Int}{E:zv}{s:zY}:(qB R (k+1) false acc >>= f) E s=(zL [44] >>= fun _=>(R.expr >>= fun x=>(qB R k false (acc ++ [x]) >>= f))) E s:=by
 show PM.bind (PM.bind (PM.bind (zL [44]) fun _=>PM.ret ()) fun _=>PM.bind R.expr fun x=>qB R k false (acc ++ [x])) f E s=PM.bind (zL [44]) (fun _=>PM.bind R.expr (fun x=>PM.bind (qB R k false (acc ++ [x])) f)) E s
 unfold PM.bind PM.ret;cases zL [44] E s with
 |bad p=>rfl
 |ok a s1=>
  simp only;cases R.expr E s1 <;> rfl
def JH(wk:Nat)(a:Int)(l:List Int):PM Int:=do
 let _ <-zL [41]
 zG wk [] 0 a l
def zj4(E:zv)(base pb n m wk:Nat)(a:Int)(iv:Value)(G:Nat->Prop)(R:xN)(w wt:World)(r:qw Int)(v i:Value)(wr:World):Prop:=∃st acc j,i=.int .i64 (j:Nat)/\j<=m/\acc.length<=j/\(qB R (m-j) (j == 0) acc >>= JH wk a) E st=r/\E.toks.length-st.next<n/\qG E st/\wr.ownsRow (w.heap.size+2) 3 1 v acc.length (yZ acc)/\PW E base pb iv (Gw G v) wr st/\Fr base w wr/\Fr base wt wr
theorem XX{E:zv}{base pb n:Nat}{iv:Value}{R:xN}(hR:kg E base pb iv n R)(t:yp)(sp:List UInt8)(wk m:Nat)(hm1:1<=m)(hm3:m<=3){G:Nat->Prop}{w:World}{st0:zY}(h0:PW E base pb iv G w st0)(ok0:qG E st0)(hn:E.toks.length-st0.next<n):Calls prog 220 #[.pointer (some ⟨pb,0,none⟩),vM t,JG sp wk (m:Nat)] w (xK E base pb iv G (jK R t (wk,(m:Nat)) E st0) ju w):=by
 obtain⟨r,hr⟩:=exE (jK R t (wk,(m:Nat)) E st0);rw[hr];have hw1:jK R t (wk,(m:Nat)) E st0=(do let _ <-zL [40];(qB R m true [] >>= JH wk t.at_):PM Int) E st0:=by
  unfold jK;simp only;rw[if_neg (by omega),if_pos (by omega)];refine (uk).trans (Ki fun x s1=>(uk).trans ?_);rw[wE];exact Ki fun l s2=>(uk).trans (Ki fun y s3=>rfl)
 replace hr:=zi (hw1.symm.trans hr);clear hw1;have hle:=ok0.le;have hlim:=ok0.lim;have hbase:=h0.base;have hG0:=h0.glt;have hivlt:=zi (fun g=>h0.ivlt (g:=g));have F0:=Fr.refl base w;replace ok0:=zi ok0;replace hR:=zi hR;obtain⟨k1,t1,a1⟩:=t;unfold vM JG;simp only at hr ⊢;have hA:=zf w (.cells #[.int .u8 k1,.string ⟨t1.toArray⟩,.int .i64 a1] 37 (0,0));have hz:=zk w (.cells #[.int .u8 k1,.string ⟨t1.toArray⟩,.int .i64 a1] 37 (0,0));have hC:=zf (w.alloc (.cells #[.int .u8 k1,.string ⟨t1.toArray⟩,.int .i64 a1] 37 (0,0))) (.cells #[.string ⟨sp.toArray⟩,.int .u8 wk,.int .i64 (m:Nat)] 178 (0,0));have hB:=zg hA hC;have hz1:=zh hC hz;have hz2:=zk (w.alloc (.cells #[.int .u8 k1,.string ⟨t1.toArray⟩,.int .i64 a1] 37 (0,0))) (.cells #[.string ⟨sp.toArray⟩,.int .u8 wk,.int .i64 (m:Nat)] 178 (0,0));rw[show (w.alloc (.cells #[.int .u8 k1,.string ⟨t1.toArray⟩,.int .i64 a1] 37 (0,0))).heap.size=w.heap.size+1 by simp] at hz2;replace hz1:=zi hz1;replace hz2:=zi hz2;clear hz;have hm0:¬((m:Int)<0):=by omega
 have hmp:(0:Int)<(m:Int):=by omega
 go_enter func220,ntmps220;go_wp2_with fail;refine jo hr (zw (h0.below hB) (by omega) [40]) F0 (Fr.of_below h0.base hB) ok0 (zo) ?_;clear hr;intro w1 x1 st1 hm1 h1 f1 F1 n1 ok1 hle1 ha1 hr;have ha1:=n1.adv;have c2:=zd (f1.keep _ _ _ _ hz2.out (by decide) (by decide)) 2;have hs2:w.heap.size+2<=w1.heap.size:=by have:=f1.b.size;simp at this;omega
 have hst:zj4 E base pb n m wk a1 iv G R w _ r (.slice none 0 0) (.int .i64 (0:Nat)) w1:=⟨st1,[],0,rfl,pU _,pU _,hr.out,by omega,ok1.out,uE _ _ rfl,h1.gnil,F1,f1⟩;replace hst:=zi hst;clear hr;go_wp2;go_loopw [7,26] (fun v i wr=>zj4 E base pb n m wk a1 iv G R w ((w.alloc (.cells #[.int .u8 k1,.string ⟨t1.toArray⟩,.int .i64 a1] 37 (0,0))).alloc (.cells #[.string ⟨sp.toArray⟩,.int .u8 wk,.int .i64 (m:Nat)] 178 (0,0))) r v i wr) (fun _ i _=>m-(intOf i).toNat)
 case atStart=>exact hst.out
 case round=>
  obtain⟨st2,acc,j,rfl,hj,hacc,hr,hn2,ok2,o2,h2,F2,T2⟩:=hrel;replace hr:=zi hr;replace o2:=zi o2;replace ok2:=zi ok2;have hle2:=ok2.out.le;by_cases hjm:j<m
  ·have hlt:(j:Int)<(m:Int):=by omega
   have hy:=pJ ((j:Int)+1) (by omega);obtain⟨k,hk⟩:∃k,m-j=k+1:=⟨m-j-1,by omega⟩;rw[hk] at hr;by_cases hj0:j=0
   ·subst hj0;replace hr:=zi (zdA.symm.trans hr.out);have hz0:¬((0:Int)<0):=by decide
    go_wp2_with fail;refine XI hr (hR.out.expr _ _ _ h2 ok2.out hn2) F2 (Fr.refl _ _) ok2 (hR.out.good.expr) ?_;clear hr;intro w3 x3 st3 hm3 h3 f3 F3 n3 vd3 ok3 hle3 ha3 hr;have T3:=T2.trans f3;have o3:=zH o2.out f3 (by decide) (by decide);have hle3:=ok3.out.le;have ha3:=n3.next;have hs3:=F3.b.size;have ht3:w.heap.size+2<=w3.heap.size:=by have:=T3.b.size;simp at this;omega
    have hbs4:=h3.base;have hss4:=F3.b.size;go_wp2_with (at_builtin;refine xC rfl _ _ rfl rfl (zu o3 (zf _ _)) rfl (zd (zk w3 _) 0) rfl rfl (by omega) (by simp;omega) ?_);intro g' cap' w4 hrow hgrow hg';obtain⟨v4,e4,o4,h4,gs4,FF4⟩:=xb h3 o3 (by omega) (fun g hg=>by have:=hivlt.out g hg;omega) hrow hgrow hg';rw[e4];replace o4:=zi o4;replace FF4:=zi FF4;clear hrow hgrow hg' e4;have F4:=FF4.out w F3 (by omega) hbase;have T4:=FF4.out _ T3 (by simp) (by simp;omega);have hl4:(acc ++ [x3]).length<=0+1:=by rw[pC,pI];omega
    go_wp2;go_roundw
    case rel=>exact⟨st3,acc ++ [x3],0+1,by simp,by omega,hl4,(show (qB R (m-(0+1)) (0+1 == 0) (acc ++ [x3]) >>= JH wk a1) E st3=r from by rw[show m-(0+1)=k by omega];exact hr.out),by omega,ok3.out,o4.out,h4,F4,T4⟩
    case measure=>
     simp only[intOf];omega
   ·have hj1:(0:Int)<(j:Int):=by omega
    replace hr:=zi (show (qB R (k+1) false acc >>= JH wk a1) E st2=r from by
     have:=hr.out;rw[show (j == 0)=false from by simp[hj0]] at this;exact this)
    replace hr:=zi (zf2.symm.trans hr.out);go_wp2_with fail;refine jo hr (zw h2 (by omega) [44]) F2 (Fr.refl _ _) ok2 (zo) ?_;clear hr;intro w7 x7 st7 hm7 h7 f7 F7 n7 ok7 hle7 ha7 hr;have ha7:=n7.adv;go_wp2_with fail;refine XI hr (hR.out.expr _ _ _ h7 ok7.out (by omega)) F7 (Fr.refl _ _) ok7 (hR.out.good.expr) ?_;clear hr;intro w3 x3 st3 hm3 h3 f3 F3 n3 vd3 ok3 hle3 ha3 hr;have T3:=(T2.trans f7).trans f3;have o3:=zH (zH o2.out f7 (by decide) (by decide)) f3 (by decide) (by decide);have hle3:=ok3.out.le;have ha3:=n3.next;have hs3:=F3.b.size;have ht3:w.heap.size+2<=w3.heap.size:=by have:=T3.b.size;simp at this;omega
    have hbs4:=h3.base;have hss4:=F3.b.size;go_wp2_with (at_builtin;refine xC rfl _ _ rfl rfl (zu o3 (zf _ _)) rfl (zd (zk w3 _) 0) rfl rfl (by omega) (by simp;omega) ?_);intro g' cap' w4 hrow hgrow hg';obtain⟨v4,e4,o4,h4,gs4,FF4⟩:=xb h3 o3 (by omega) (fun g hg=>by have:=hivlt.out g hg;omega) hrow hgrow hg';rw[e4];replace o4:=zi o4;replace FF4:=zi FF4;clear hrow hgrow hg' e4;have F4:=FF4.out w F3 (by omega) hbase;have T4:=FF4.out _ T3 (by simp) (by simp;omega);have hl4:(acc ++ [x3]).length<=j+1:=by rw[pC,pI];omega
    go_wp2;go_roundw
    case rel=>exact⟨st3,acc ++ [x3],j+1,by simp,by omega,hl4,(show (qB R (m-(j+1)) (j+1 == 0) (acc ++ [x3]) >>= JH wk a1) E st3=r from by rw[show m-(j+1)=k by omega];exact hr.out),by omega,ok3.out,o4.out,h4,F4,T4⟩
    case measure=>
     simp only[intOf];omega
  ·have hjm':j=m:=by omega
   subst hjm';have hge:¬((j:Int)<(j:Int)):=by omega
   replace hr:=zi (show (do let _ <-zL [41];zG wk [] 0 a1 acc:PM Int) E st2=r from by
    have:=hr.out;rw[Nat.sub_self] at this;exact this)
   go_wp2_with fail;refine jo hr (zw h2 (by omega) [41]) F2 (Fr.refl _ _) ok2 (zo) ?_;clear hr;intro w3 x3 st3 hm3 h3 f3 F3 n3 ok3 hle3 ha3 hr;have T3:=T2.trans f3;have o3:=zi (zH o2.out f3 (by decide) (by decide));have d1:=zd (T3.keep _ _ _ _ hz1.out (by decide) (by decide)) 2;have d2:=zd (T3.keep _ _ _ _ hz2.out (by decide) (by decide)) 1;have hfew:st3.nodes.length<=1000000:=by have:=ok3.out.few;omega
   have hs3:=F3.b.size;go_wp2_with fail;refine zO hr (zz (h3.ungw.below bR) wk [] 0 a1 _ _ (KS.own o3.out) (yB o3.out (fun g hg=>by have:=hG0 g hg;omega)) hfew) F3 (Fr.refl _ _) ?_;rintro w4 x4 st4 hm4 rfl h4 f4 F4;go_wp2;go_ret;exact⟨⟨_,rfl,rfl⟩,h4,F4⟩
theorem XH{α:Type}(p:α->Bool)(l:List α)(j:Nat)(x:α)(hx:l[j]? =some x)(hp:p x=true)(h:∀i y,i<j->l[i]? =some y->p y=false):Xo p l=j:=by
 have hj:j<l.length:=(gtL hx);have:l.findIdx? p=some j:=by
  rw[List.findIdx?_eq_some_iff_getElem];refine⟨hj,?_,fun i hi=>?_⟩
  ·rw[glE hj] at hx;cases hx;exact hp
  ·have:=h i _ hi (glE (by omega));simp[this]
 unfold Xo;rw[this]
theorem Ye{α:Type}(p:α->Bool)(l:List α)(h:∀(i:Nat) y,l[i]? =some y->p y=false):Xo p l= -1:=by
 have:l.findIdx? p=none:=by
  rw[List.findIdx?_eq_none_iff];intro x hx;obtain⟨i,hi,rfl⟩:=List.mem_iff_getElem.1 hx;exact h i _ (glE hi)
 unfold Xo;rw[this]
def WdS(w:World)(g:Nat)(l:List (List UInt8×Nat×Int)):Prop:=∀(j:Nat) x,l[j]? =some x->w.cell? ⟨g,j*3,none⟩=some (.string ⟨x.1.toArray⟩)/\w.cell? ⟨g,j*3+1,none⟩=some (.int .u8 x.2.1)/\w.cell? ⟨g,j*3+2,none⟩=some (.int .i64 x.2.2)
theorem WdS.below{w w':World}{g:Nat}{l:List (List UInt8×Nat×Int)}(h:WdS w g l)(hb:Below w.heap.size w w'):WdS w' g l:=fun j x hx=>⟨zj hb (h j x hx).1,zj hb (h j x hx).2.1,zj hb (h j x hx).2.2⟩
def zfJ{α:Type}(p:α->Bool)(l:List α)(w:World)(i:Value)(wr:World):Prop:=∃j:Nat,i=.int .i64 j/\j<=l.length/\(∀(i:Nat) y,i<j->l[i]? =some y->p y=false)/\Below w.heap.size w wr
theorem Kv(g n c f:Nat)(q:Addr)(l:List (List UInt8×Nat×Int))(p:List UInt8×Nat×Int->Bool)(w:World)(heg:Enters prog f)(hl:l.length=n)(hn:n<=1000)(hc:WdS w g l)
 (hp:∀W x,Below w.heap.size w W->x∈l->Calls prog f #[JG x.1 x.2.1 x.2.2,.pointer (some q)] W (kQ W (.bool (p x)))) :
 Calls prog 155 #[.slice (some ⟨g,0,none⟩) n c,.func (.func f) #[] #[.pointer (some q)]] w (kQ w (.int .i64 (Xo p l))):=by
 replace heg:=zi heg;replace hc:=zi hc;replace hp:=zi hp;go_enter func155,ntmps155;go_wp2;go_loopw [8] (zfJ p l w) (fun i _=>n-(intOf i).toNat)
 case atStart=>exact⟨0,rfl,pU _,fun i y h=>absurd h (wG _),pF _ _⟩
 case round=>
  obtain⟨j,rfl,hj,hno,hb⟩:=hrel;replace hno:=zi hno;by_cases hlt:j<n
  ·have hlt':(j:Int)<(n:Int):=by omega
   have hy:=pJ ((j:Int)+1) (by omega);obtain⟨x,hx⟩:∃x,l[j]? =some x:=⟨_,glE (by omega)⟩;obtain⟨c0,c1,c2⟩:=hc.out.below hb j x hx;have hC:=hp.out wr x hb (wK hx);have heg':=fun W=>heg.out #[JG x.1 x.2.1 x.2.2,.pointer (some q)] W
   have HX:=zi (And.intro hx hno.out);clear hx hno;obtain⟨x0,x1,x2⟩:=x;unfold JG at hC heg';simp only at hC heg' c0 c1 c2;generalize hpx:p (x0,x1,x2)=b at *;replace hpx:=zi hpx;go_wp2_with fail;refine hC.mono ?_;rintro e w1 ⟨rfl,hb1⟩;cases b with
   |true=>
    go_wp2;go_ret;refine⟨?_,zg hb hb1⟩;rw[XH p l j _ HX.out.1 hpx.out HX.out.2];rfl
   |false=>
    go_wp2;go_roundw
    case rel=>
     refine⟨j+1,by simp,by omega,fun i y hi hyy=>?_,zg hb hb1⟩;by_cases e:i=j
     ·subst e;rw[HX.out.1] at hyy;cases hyy;exact hpx.out
     ·exact HX.out.2 i y (by omega) hyy
    case measure=>simp[intOf];omega
  ·have hlt':¬((j:Int)<(n:Int)):=by omega
   go_wp2;go_ret;refine⟨?_,hb⟩;rw[Ye p l (fun i y h=>hno.out i y (by have:=(gtL h);omega) h)];rfl
theorem XQ(w:World):Calls prog 154 #[] w fun e w'=>∃g,e=.returned (.slice (some ⟨g,0,none⟩) 14 14)/\w.heap.size<=g/\WdS w' g zM/\Below w.heap.size w w':=by
 go_enter func154,ntmps154;go_wp2;go_ret;refine⟨_,rfl,pE _,fun j x hx=>?_,zf _ _⟩;have hz:=zk w (.cells (zM.flatMap fun x=>[Value.string ⟨x.1.toArray⟩,.int .u8 x.2.1,.int .i64 x.2.2]).toArray 178 (0,0));have hj:j<14:=(gtL hx);have h3:∀j:Fin 14,∀x,zM[j.val]? =some x->(zM.flatMap fun x=>[Value.string ⟨x.1.toArray⟩,.int .u8 x.2.1,.int .i64 x.2.2])[j.val*3]? =some (.string ⟨x.1.toArray⟩)/\(zM.flatMap fun x=>[Value.string ⟨x.1.toArray⟩,.int .u8 x.2.1,.int .i64 x.2.2])[j.val*3+1]? =some (.int .u8 x.2.1)/\(zM.flatMap fun x=>[Value.string ⟨x.1.toArray⟩,.int .u8 x.2.1,.int .i64 x.2.2])[j.val*3+2]? =some (.int .i64 x.2.2):=by
  intro j x hx;rcases j with⟨j,hj⟩
  match j,hj with
  |0,_|1,_|2,_|3,_|4,_|5,_|6,_|7,_|8,_|9,_|10,_|11,_|12,_|13,_=>cases hx;exact⟨rfl,rfl,rfl⟩
 obtain⟨a,b,c⟩:=h3 ⟨j,hj⟩ x hx;refine⟨(zd hz _).trans ?_,(zd hz _).trans ?_,(zd hz _).trans ?_⟩
 ·rw[pV];exact a
 ·rw[pV];exact b
 ·rw[pV];exact c
theorem VC(s:List UInt8):(∃(j:Nat) (x:List UInt8×Nat×Int),Xo (fun x=>x.1 == s) zM=j/\zM[j]? =some x/\x.1=s/\xV s=some x.2)\/(Xo (fun x=>x.1 == s) zM= -1/\xV s=none):=by
 unfold xV;cases hf:zM.find? fun x=>x.1 == s with
 |none=>
  refine .inr ⟨Ye _ _ fun i y hy=>?_,rfl⟩;have:=List.find?_eq_none.1 hf y (wK hy);simpa using this
 |some x=>
  obtain⟨hp,i,hi,hx,hno⟩:=List.find?_eq_some_iff_getElem.1 hf;have hx':zM[i]? =some x:=by rw[glE hi,hx]
  refine .inl ⟨i,x,XH _ _ i x hx' hp (fun k y hk hy=>?_),hx',by simpa using hp,rfl⟩;have h1:=hno k hk;have hk':k<zM.length:=by omega
  rw[glE hk'] at hy;cases hy;simpa using h1
theorem zbU(b:Nat)(s:List UInt8)(x0:List UInt8)(x1:Nat)(x2:Int)(w:World)(hq:w.cell? ⟨b,0,none⟩=some (.string ⟨s.toArray⟩)):Calls prog 224 #[JG x0 x1 x2,.pointer (some ⟨b,0,none⟩)] w (kQ w (.bool (x0 == s))):=by
 unfold JG;have hA:=zf w (.cells #[.string ⟨x0.toArray⟩,.int .u8 x1,.int .i64 x2] 178 (0,0));have hz:=zd (zk w (.cells #[.string ⟨x0.toArray⟩,.int .u8 x1,.int .i64 x2] 178 (0,0))) 0;have hq:=zj hA hq;go_enter func224,ntmps224;go_wp2;go_ret;exact⟨rfl,hA⟩
def zeF(s:List UInt8):Value:=match xV s with
 |some x=>.tuple #[JG s x.1 x.2,.bool true]
 |none=>.tuple #[JG [] 0 0,.bool false]
theorem zdn(s:List UInt8)(w:World):Calls prog 219 #[.string ⟨s.toArray⟩] w (kQ w (zeF s)):=by
 have hmf:∀(fn:Fn) (first cap:Array Value) (w:World),(Instr.makeFunc fn first cap).run prog w=.ok (.func fn first cap) w:=fun _ _ _ _=>rfl
 have hA:=zf w (.cells #[.string ⟨s.toArray⟩] 9 (0,0));have hB:=zg hA (zf (w.alloc (.cells #[.string ⟨s.toArray⟩] 9 (0,0))) (.cells #[.string ⟨#[]⟩,.int .u8 0,.int .i64 0] 178 (0,0)));have hs1:=zh (zf (w.alloc (.cells #[.string ⟨s.toArray⟩] 9 (0,0))) (.cells #[.string ⟨#[]⟩,.int .u8 0,.int .i64 0] 178 (0,0))) (zk w (.cells #[.string ⟨s.toArray⟩] 9 (0,0)));have hr1:=zk (w.alloc (.cells #[.string ⟨s.toArray⟩] 9 (0,0))) (.cells #[.string ⟨#[]⟩,.int .u8 0,.int .i64 0] 178 (0,0));rw[show (w.alloc (.cells #[.string ⟨s.toArray⟩] 9 (0,0))).heap.size=w.heap.size+1 by simp] at hr1;replace hs1:=zi hs1;replace hr1:=zi hr1;have hwo:=zi (VC s);go_enter func219,ntmps219;go_wp2_with fail;refine (XQ _).mono ?_;rintro e w2 ⟨g,rfl,hg,hW,hb2⟩;have hB2:=zg hB hb2;have hs2:=zh hb2 hs1.out;have hr2:=zh hb2 hr1.out;have HI:=zi (Kv g 14 14 224 ⟨w.heap.size,0,none⟩ zM (fun x=>x.1 == s) w2 (enters_of (P:=prog) func224 (by kernel_rfl) rfl) rfl (by decide) hW (fun W x hb _=>zbU w.heap.size s x.1 x.2.1 x.2.2 W (zj hb (zd hs2 0))));replace hW:=zi hW;replace hs2:=zi hs2;replace hr2:=zi hr2;generalize Xo (fun x=>x.1 == s) zM=i at *;go_wp2_with fail;refine HI.out.mono ?_;rintro e w3 ⟨rfl,hb3⟩;have hB3:=zg hB2 hb3;have hr3:=zh hb3 hr2.out;rcases hwo.out with⟨j,x,rfl,hx,rfl,hw⟩|⟨rfl,hw⟩
 ·have hw:=zi hw;obtain⟨c0,c1,c2⟩:=hW.out.below hb3 j x hx;have hj:j<14:=(gtL hx);have hlt:¬((j:Int)<0):=by omega
  have hlt2:(j:Int)<14:=by omega
  obtain⟨x0,x1,x2⟩:=x;simp only at c0 c1 c2 hw ⊢;have f0:∀j,w3.frozen? ⟨w.heap.size+1,j,none⟩=false:=fun j=>zl hr3 j
  have d0:=zd hr3 0;have d1:=zd hr3 1;have d2:=zd hr3 2;replace hr3:=zi hr3;go_wp2_with fail;have z1:=zr hr3.out 0 (.string ⟨x0.toArray⟩);have z2:=zr z1 1 (.int .u8 x1);have z3:=zr z2 2 (.int .i64 x2);refine bodyPost_ret (v:=.tuple #[.agg #[.string ⟨x0.toArray⟩,.int .u8 x1,.int .i64 x2],.bool true]) (by simp[results,results219,go_sem,zd z3]) rfl ?_;exact⟨by unfold zeF;rw[hw.out];rfl,((hB3.setCell (by simp) _).setCell (by simp) _).setCell (by simp) _⟩
 ·have hw:=zi hw;have f0:∀j,w3.frozen? ⟨w.heap.size+1,j,none⟩=false:=fun j=>zl hr3 j
  have d0:=zd hr3 0;have d1:=zd hr3 1;have d2:=zd hr3 2;replace hr3:=zi hr3;go_wp2_with fail;have z1:=zr hr3.out 0 (.string ⟨#[]⟩);have z2:=zr z1 1 (.int .u8 0);have z3:=zr z2 2 (.int .i64 0);refine bodyPost_ret (v:=.tuple #[.agg #[.string ⟨#[]⟩,.int .u8 0,.int .i64 0],.bool false]) (by simp[results,results219,go_sem,zd z3]) rfl ?_;exact⟨by unfold zeF;rw[hw.out];rfl,((hB3.setCell (by simp) _).setCell (by simp) _).setCell (by simp) _⟩
end
section
open Go.RowKit Lode Go.Shelf
attribute [local go_sem ↓] Go.wp_at_zero Go.wp_at_succ
attribute [local go_sem] JL zkp JK
open Go.Proofs.Tryz
def zbC(a:Int)(x:List Int×Int):PM Int:=do
 let _ <-zL [125]
 zG 28 [] x.2 a x.1
theorem zfZ{R:xN}{k:Nat}{acc:List Int}{E:zv}{s:zY}{f:List Int×Int->PM Int}(h:uq (zy E s) [[125]]=true):(yR R (k+1) acc >>= f) E s=f (acc,0) E s:=by
 have h1:yR R (k+1) acc E s=.ok (acc,0) s:=by
  unfold yR;exact vD h
 exact yb h1
def ud(R:xN)(k:Nat)(acc:List Int)(x:Int×Bool):PM (List Int×Int):=do
 if x.2 && (<-uU [[125]]) then pure (acc ++ [x.1],1)
 else
  let _ <-zL [59]
  yR R k (acc ++ [x.1])
theorem zdv{R:xN}{k:Nat}{acc:List Int}{E:zv}{s:zY}{f:List Int×Int->PM Int}(h:uq (zy E s) [[125]]=false):(yR R (k+1) acc >>= f) E s=(vw R >>= fun x=>(ud R k acc x >>= f)) E s:=by
 have h1:yR R (k+1) acc E s=(vw R >>= fun x=>ud R k acc x) E s:=by
  conv=>lhs;unfold yR
  exact jV h
 exact (ua h1).trans uk
theorem zf0{R:xN}{k:Nat}{acc:List Int}{y:Int}{f:List Int×Int->PM Int}{E:zv}{s:zY}:(ud R k acc (y,false) >>= f) E s=(zL [59] >>= fun _=>(yR R k (acc ++ [y]) >>= f)) E s:=by
 have h1:ud R k acc (y,false) E s=(zL [59] >>= fun _=>yR R k (acc ++ [y])) E s:=by
  unfold ud;rw[yb (a:=uq (zy E s) [[125]]) (s':=s) rfl];simp only[Bool.false_and];rw[if_neg (by decide)]
 exact (ua h1).trans uk
theorem zf1{R:xN}{k:Nat}{acc:List Int}{y:Int}{f:List Int×Int->PM Int}{E:zv}{s:zY}(h:uq (zy E s) [[125]]=false):(ud R k acc (y,true) >>= f) E s=(zL [59] >>= fun _=>(yR R k (acc ++ [y]) >>= f)) E s:=by
 have h1:ud R k acc (y,true) E s=(zL [59] >>= fun _=>yR R k (acc ++ [y])) E s:=by
  unfold ud;rw[yb (a:=false) (s':=s) (by unfold uU;rw[h])];simp only[Bool.and_false];rw[if_neg (by decide)]
 exact (ua h1).trans uk
theorem zdx{R:xN}{k:Nat}{acc:List Int}{y:Int}{f:List Int×Int->PM Int}{E:zv}{s:zY}(h:uq (zy E s) [[125]]=true):(ud R k acc (y,true) >>= f) E s=f (acc ++ [y],1) E s:=by
 have h1:ud R k acc (y,true) E s=.ok (acc ++ [y],1) s:=by
  unfold ud;rw[yb (a:=true) (s':=s) (by unfold uU;rw[h])];rfl
 exact yb h1
def zkm(E:zv)(base pb n:Nat)(a:Int)(iv:Value)(G:Nat->Prop)(R:xN)(w:World)(r:qw Int)(l v:Value)(wr:World):Prop:=∃st acc k,l=.int .i64 0/\(yR R k acc >>= zbC a) E st=r/\E.toks.length-st.next<k/\E.toks.length-st.next<n/\acc.length<=st.next/\qG E st/\wr.ownsRow w.heap.size 3 1 v acc.length (yZ acc)/\PW E base pb iv (Gw G v) wr st/\Fr base w wr
theorem zgM{E:zv}{base pb n:Nat}{iv:Value}{R:xN}(hR:kg E base pb iv n R):Vi E base pb iv (n+1) 143 (qE R):=by
 intro G w st0 h0 ok0 hn;obtain⟨r,hr⟩:=exE (qE R E st0);rw[hr];unfold qE at hr;replace hr:=zi hr;replace ok0:=zi ok0;replace hR:=zi hR;have F0:=Fr.refl base w;have hlim:=ok0.out.lim;have hle:=ok0.out.le;have hG0:=h0.glt;have hbase:=h0.base;have hivlt:=zi (fun g=>h0.ivlt (g:=g));go_enter func143,ntmps143;go_wp2_with fail;refine jo hr (zw h0 (by omega) [123]) F0 (Fr.refl _ _) ok0 (zo) ?_;clear hr;intro w1 x1 st1 hm1 h1 f1 F1 n1 ok1 hle1 ha1 hr;have ha1:=n1.adv;obtain⟨k1,t1,a1⟩:=x1;simp only at hr ⊢;have hst:zkm E base pb n a1 iv G R w r (.int .i64 0) (.slice none 0 0) w1:=⟨st1,[],_,rfl,hr.out,by omega,by omega,pU _,ok1.out,uE _ _ rfl,h1.gnil,F1⟩;replace hst:=zi hst;clear hr h1 F1 f1 hm1;go_wp2;go_loopw [4,5] (fun l v wr=>zkm E base pb n a1 iv G R w r l v wr) (fun _ _ wr=>E.toks.length+1-xh pb wr)
 case atStart=>exact hst.out
 case round=>
  obtain⟨st3,acc,k,rfl,hr,hk,hn3,hacc,ok3,o3,h3,F3⟩:=hrel;obtain⟨k,rfl⟩:∃m,k=m+1:=⟨k-1,by omega⟩;replace hr:=zi hr;replace o3:=zi o3;have hle3:=ok3.le;replace ok3:=zi ok3;go_wp2_with fail;refine (jN h3 [125]).mono ?_;rintro e w4 ⟨rfl,hb4⟩;have hb4:=zg (zf wr _) hb4;have h4:=h3.below hb4;have F4:=F3.trans (Fr.of_below h3.base hb4);have o4:=zi (zu o3.out hb4);have ok4:=ok3;cases hk4:uq (zy E st3) [[125]] with
  |true=>
   replace hr:=zi ((zfZ hk4).symm.trans hr.out);unfold zbC at hr;go_wp2_with fail;refine jo hr (zw h4 (by omega) [125]) F4 (Fr.refl _ _) ok4 (zo) ?_;clear hr;intro w8 x8 st8 hm8 h8 f8 F8 n8 ok8 hle8 ha8 hr;have o8:=zi (zH o4.out f8 (by decide) (by decide));have hfew:st8.nodes.length<=1000000:=by have:=ok8.out.few;omega
   go_wp2_with fail;refine zO hr (zz (h8.ungw.below bR) 28 [] 0 a1 acc _ (KS.own o8.out) (yB o8.out (fun g hg=>by have:=hG0 g hg;omega)) hfew) F8 (Fr.refl _ _) ?_;rintro w9 x9 st9 hm9 rfl h9 f9 F9;go_wp2;go_ret;exact⟨⟨_,rfl,rfl⟩,h9,F9⟩
  |false=>
   replace hr:=zi ((zdv hk4).symm.trans hr.out);go_wp2_with fail;refine (zhg hR.out h4 ok4.out hn3).mono ?_;rintro e w5 hp;rcases hp.cases with⟨p,hm,he,hb⟩|⟨x5,st5,hm5,v,rfl,hv,h5,f5⟩
   ·unfold Pan at he;subst he;have hr2:=(vI hm).symm.trans hr.out;subst hr2;go_wp2_with fail;exact⟨rfl,rfl,(F4.b.trans (Fr.refl _ _).b).trans hb⟩
   replace hr:=zi ((yb hm5).symm.trans hr.out);have F5:=(F4.trans (Fr.refl _ _)).trans f5;obtain⟨n5,vd5⟩:=zeN hR.out.good ok4.out.le ok4.out.wf hm5;have ok5:=zi (ok4.out.nx n5 (by decide));have hle5:=ok5.out.le;have ha5:=n5.next;unfold zjZ at hv;subst hv;have o5:=zH o4.out f5 (by decide) (by decide);have hs5:=F5.b.size;obtain⟨y,b⟩:=x5;simp only at hr ⊢;have hbs6:=h5.base;have hss6:=F5.b.size;go_wp2_with (at_builtin;refine xC rfl _ _ rfl rfl (zu o5 (zf _ _)) rfl (zd (zk w5 _) 0) rfl rfl (by omega) (by simp;omega) ?_);intro g' cap' w6 hrow hgrow hg';obtain⟨v6,e6,o6,h6,gs6,FF6⟩:=xb h5 o5 (by omega) (fun g hg=>by have:=hivlt.out g hg;omega) hrow hgrow hg';rw[e6];replace o6:=zi o6;replace FF6:=zi FF6;clear hrow hgrow hg' e6;have F6:=FF6.out w F5 (pE _) hbase;have ok6:=ok5;clear FF6;cases b with
   |false=>
    replace hr:=zi (zf0.symm.trans hr.out);go_wp2_with fail;refine jo hr (zw h6 (by omega) [59]) F6 (Fr.refl _ _) ok6 (zo) ?_;clear hr;intro w8 x8 st8 hm8 h8 f8 F8 n8 ok8 hle8 ha8 hr;have ha8:=n8.adv;have o8:=zi (zH o6.out f8 (by decide) (by decide));go_wp2;go_roundw
    case rel=>exact⟨st8,acc ++ [y],k,rfl,hr.out,by omega,by omega,by rw[pC,pI];omega,ok8.out,o8.out,h8,F8⟩
    case measure=>
     rw[h8.xh,h3.xh];omega
   |true=>
    go_wp2_with fail;refine (jN h6 [125]).mono ?_;rintro e w7 ⟨rfl,hb7⟩;have hb7:=zg (zf w6 _) hb7;have h7:=h6.below hb7;have F7:=F6.trans (Fr.of_below h6.base hb7);have o7:=zi (zu o6.out hb7);have ok7:=ok6;cases hk7:uq (zy E st5) [[125]] with
    |true=>
     replace hr:=zi ((zdx hk7).symm.trans hr.out);unfold zbC at hr;go_wp2_with fail;refine jo hr (zw h7 (by omega) [125]) F7 (Fr.refl _ _) ok7 (zo) ?_;clear hr;intro w8 x8 st8 hm8 h8 f8 F8 n8 ok8 hle8 ha8 hr;have o8:=zi (zH o7.out f8 (by decide) (by decide));have hfew:st8.nodes.length<=1000000:=by have:=ok8.out.few;omega
     go_wp2_with fail;refine zO hr (zz (h8.ungw.below bR) 28 [] 1 a1 (acc ++ [y]) _ (KS.own o8.out) (yB o8.out (fun g hg=>by have:=hG0 g hg;omega)) hfew) F8 (Fr.refl _ _) ?_;rintro w9 x9 st9 hm9 rfl h9 f9 F9;go_wp2;go_ret;exact⟨⟨_,rfl,rfl⟩,h9,F9⟩
    |false=>
     replace hr:=zi ((zf1 hk7).symm.trans hr.out);go_wp2_with fail;refine jo hr (zw h7 (by omega) [59]) F7 (Fr.refl _ _) ok7 (zo) ?_;clear hr;intro w8 x8 st8 hm8 h8 f8 F8 n8 ok8 hle8 ha8 hr;have ha8:=n8.adv;have o8:=zi (zH o7.out f8 (by decide) (by decide));go_wp2;go_roundw
     case rel=>exact⟨st8,acc ++ [y],k,rfl,hr.out,by omega,by omega,by rw[pC,pI];omega,ok8.out,o8.out,h8,F8⟩
     case measure=>
      rw[h8.xh,h3.xh];omega
end
section
open Go.RowKit Lode Go.Shelf
attribute [local go_sem ↓] Go.wp_at_zero Go.wp_at_succ
open Go.Proofs.Tryz
def PCb(E:zv)(base pb:Nat)(iv:Value)(n:Nat)(lv:Int)(m:PM Int):Prop:=∀(G:Nat->Prop) (w:World) (st:zY),PW E base pb iv G w st->qG E st->E.toks.length-st.next<n->Calls prog 172 #[.pointer (some ⟨pb,0,none⟩),.int .i64 lv] w (xK E base pb iv G (m E st) ju w)
theorem zfm(l:List (List UInt8))(t:List UInt8)(g n cap:Nat)(w:World)(hn:l.length=n)(hs:SS w g l)(hl:n<=1000)(ht:l.contains t=true):Calls prog 129 #[.slice (some ⟨g,0,none⟩) n cap,.string ⟨t.toArray⟩] w fun e w'=>e=.returned (.int .i64 (l.idxOf t:Nat))/\w'=w:=by
 subst hn;have h1:=Tryz.slices_Index_string g 0 l.length cap (l.map BA) (BA t) w (by simp) (by omega) hs;have h2:Lib.idxOfS ((l.map BA).take l.length) (BA t)=(l.idxOf t:Nat):=by
  rw[List.take_of_length_le (by simp)];have hm:t∈l:=by simpa using ht
  have hi:l.idxOf t<l.length:=List.idxOf_lt_length_of_mem hm;have:=Lib.idxFromS_hit (BA t) (l.map BA) (l.idxOf t) 0 (by simpa using hi) (by
   rw[pA,pZ,glE hi,List.getElem_idxOf];rfl) (fun j hj e=>by
   have hj':j<l.length:=by omega
   rw[pA,pZ,glE hj'] at e;have:=ziQ (show BA l[j]=BA t from e);have h3:(l[j] == t)=false:=List.not_of_lt_findIdx (p:=fun x=>x == t) hj;rw[this] at h3;simp at h3)
  unfold Lib.idxOfS;rw[this,Nat.zero_add]
 rw[h2] at h1;exact h1
theorem zfa(L:Nat)(hL:L<5)(t:List UInt8)(ht:(yS L).contains t=true):∃i,(yS L).idxOf t=i/\i<(yS L).length/\(jk L)[i]? =some (Qj L t):=by
 have hm:t∈yS L:=by simpa using ht
 have hi:=List.idxOf_lt_length_of_mem hm;refine⟨_,rfl,hi,?_⟩;unfold Qj;have hk:(yS L).length=(jk L).length:=by
  obtain rfl|rfl|rfl|rfl|rfl:L=0\/L=1\/L=2\/L=3\/L=4:=by omega
  all_goals rfl
 rw[pA,glE (by rw[<-hk];exact hi)];rfl
theorem LvB.ss{w:World}{B:Nat}(h:LvB w B){L:Nat}(hL:L<5):SS w (B+2*L) (yS L):=fun j hj=>by
 rw[wV] at hj;rw[Nat.zero_add,zd (h L hL).1 j,pV,pZ,pA,pZ,glE hj];rfl
theorem LvB.kd{w:World}{B:Nat}(h:LvB w B){L:Nat}(hL:L<5){i k:Nat}(hi:(jk L)[i]? =some k):w.cell? ⟨B+2*L+1,i,none⟩=some (.int .u8 k):=by
 rw[zd (h L hL).2 i,pV,pZ,hi];rfl
theorem zcV{t:yp}{l:List (List UInt8)}(h:uq t l=true):l.contains t.text=true:=by
 unfold uq at h;simp only[pG] at h;exact h.2
def zfK(E:zv)(base pb n:Nat)(iv:Value)(G:Nat->Prop)(L:Nat)(tight:PM Int)(w wt:World)(r:qw Int)(v:Value)(wr:World):Prop:=∃st k left,v=.int .i64 left/\uR L tight k left E st=r/\E.toks.length-st.next<k/\E.toks.length-st.next<n/\Vd st left/\qG E st/\PW E base pb iv G wr st/\Fr base w wr/\Fr base wt wr
abbrev kN(B:Nat):Obj:=.cells #[jB B 1,jB (B+1) 1,jB (B+2) 1,jB (B+3) 1,jB (B+4) 7,jB (B+5) 7,jB (B+6) 3,jB (B+7) 3,jB (B+8) 3,jB (B+9) 3] 168 (0,0)
theorem zir{E:zv}{base pb n:Nat}{iv:Value}{m:PM Int}(hU:Vi E base pb iv n 199 m):PCb E base pb iv n 5 m:=by
 intro G w st0 h0 ok0 hn;obtain⟨r,hr⟩:=exE (m E st0);rw[hr];replace hr:=zi hr;have F0:=Fr.refl base w;have HL:=zi (Zz w);unfold lvV at HL;replace hU:=zi hU;replace ok0:=zi ok0;go_enter func172,ntmps172;go_wp2_with fail;refine HL.out.mono ?_;rintro e w1 ⟨rfl,hl1,hb1⟩;have h1:=h0.below hb1;have F1:=F0.trans (Fr.of_below h0.base hb1);go_wp2_with fail;refine zO hr (hU.out _ _ _ (h1.below (zf _ _)) ok0.out hn) F1 (Fr.of_below h1.base (zf _ _)) ?_;rintro w2 x2 st2 hm2 rfl h2 f2 F2;go_wp2;go_ret;exact⟨⟨_,rfl,rfl⟩,h2,F2⟩
theorem zcB(L:Nat)(hL:L<5):∃N,Hid ((yS L).length=N)/\Hid (N<=7)/\Hid (∀B,#[jB B 1,jB (B+1) 1,jB (B+2) 1,jB (B+3) 1,jB (B+4) 7,jB (B+5) 7,jB (B+6) 3,jB (B+7) 3,jB (B+8) 3,jB (B+9) 3][L*2]? =some (jB (B+2*L) N))/\Hid (∀B,#[jB B 1,jB (B+1) 1,jB (B+2) 1,jB (B+3) 1,jB (B+4) 7,jB (B+5) 7,jB (B+6) 3,jB (B+7) 3,jB (B+8) 3,jB (B+9) 3][L*2+1]? =some (jB (B+2*L+1) N)):=by
 obtain rfl|rfl|rfl|rfl|rfl:L=0\/L=1\/L=2\/L=3\/L=4:=by omega
 all_goals exact⟨_,zi rfl,zi (by decide),zi (fun B=>rfl),zi (fun B=>rfl)⟩
theorem XO{L:Nat}(hL:L<5)(hL2:L≠2){E:zv}{base pb n:Nat}{iv:Value}{tight:PM Int}(hT:PCb E base pb iv n ((L:Int)+1) tight)(hg:Gd 0 Vd tight):PCb E base pb iv n L (uy L tight):=by
 intro G w st0 h0 ok0 hn;obtain⟨r,hr⟩:=exE (uy L tight E st0);rw[hr];unfold uy at hr;obtain⟨N,hN,hN7,hA0,hA1⟩:=zcB L hL;have hb5:((L:Int) == 5)=false:=bfE (by omega)
 have hb2:((L:Int) == 2)=false:=bfE (by omega)
 have hLi:(L:Int)<5:=by omega
 have hLz:¬((L:Int)<0):=by omega
 have hyL:=pJ ((L:Int)+1) (by omega);replace hL:=zi hL;replace hL2:=zi hL2;replace hr:=zi hr;have F0:=Fr.refl base w;have HL:=zi (Zz w);unfold lvV at HL;replace hT:=zi hT;replace ok0:=zi ok0;have gT:Hid (Gd 0 Vd tight):=zi (fun h0 hw h=>hg h0 hw h);clear hg;have hlim:=ok0.out.lim;have hle:=ok0.out.le;have hbase:=h0.base;go_enter func172,ntmps172;go_wp2_with fail;refine HL.out.mono ?_;rintro e w1 ⟨rfl,hl1,hb1⟩;have h1:=h0.below hb1;have F1:=F0.trans (Fr.of_below h0.base hb1);have ok1:=ok0;have h1b:=zi h1.base;replace hl1:=zi hl1;go_wp2_with fail;refine XI hr (hT.out _ _ _ (h1.below (zf _ _)) ok1.out hn) F1 (Fr.of_below h1.base (zf _ _)) ok1 (gT.out) ?_;clear hr;intro w2 x2 st2 hm2 h2 f2 F2 n2 vd2 ok2 hle2 ha2 hr;have hst:zfK E base pb n iv G L tight w (w1.alloc (kN (w.heap.size+1))) r (.int .i64 x2) w2:=⟨st2,_,x2,rfl,hr.out,by omega,by omega,vd2,ok2.out,h2,F2,f2⟩;replace hst:=zi hst;clear hr h1 hb1 F1 h2 F2 f2 hm2;go_wp2;go_loopw [7] (fun v wr=>zfK E base pb n iv G L tight w (w1.alloc (kN (w.heap.size+1))) r v wr) (fun _ wr=>E.toks.length+1-xh pb wr)
 case atStart=>exact hst.out
 case round=>
  obtain⟨st3,k,left,rfl,hr,hk,hn3,hvd,ok3,h3,F3,T3⟩:=hrel;obtain⟨k,rfl⟩:∃m,k=m+1:=⟨k-1,by omega⟩;unfold uR at hr;have hle3:=ok3.le;replace ok3:=zi ok3;replace hr:=zi hr;have hl3:=zi (hl1.out.fr ((Fr.of_below h1b.out (zf w1 (kN (w.heap.size+1)))).trans T3));have hzA:=zi (T3.keep _ _ _ _ (zk w1 (kN (w.heap.size+1))) (by decide) (by decide));have q0:=(zd hzA.out (L*2)).trans (hA0.out _);have HI:=zd6 h3 (yS L) (w.heap.size+1+2*L) N (hl3.out.ss hL.out) (by have:=hN.out;have:=hN7.out;omega);rw[hN.out] at HI;replace HI:=zi HI;go_wp2_with fail;refine HI.out.mono ?_;rintro e w4 ⟨rfl,hb4⟩;have h4:=h3.below hb4;have F4:=F3.trans (Fr.of_below h3.base hb4);have T4:=T3.trans (Fr.of_below h3.base hb4);have ok4:=ok3;clear HI;cases hk4:uq (zy E st3) (yS L) with
  |false=>
   have hr4:qw.ok left st3=r:=(jV hk4).symm.trans hr.out;subst hr4;go_wp2;go_ret;exact⟨⟨_,rfl,rfl⟩,h4,F4⟩
  |true=>
   replace hr:=zi ((vD hk4).symm.trans hr.out);have hct:=zcV hk4;go_wp2_with fail;refine pgo hr (vu h4 (by omega)) F4 (Fr.refl _ _) ?_;clear hr;intro w8 x8 st8 v hv hm8 h8 f8 F8 hr;have n8:=vg (vQ hk4) ok4.out.wf hm8;have ok8:=zi (ok4.out.nx n8 (by decide));have hx8:zy E st3=x8:=by cases hm8;rfl
   rw[hx8] at hct;clear hx8 hk4;unfold kO vM at hv;subst hv;obtain⟨k8,t8,a8⟩:=x8;simp only at hr hct ⊢;have hle8:=ok8.out.le;have ha8:=n8.adv;have hz8:=zk w8 (.cells #[.int .u8 k8,.string ⟨t8.toArray⟩,.int .i64 a8] 37 (0,0));have h9:=h8.below (zf w8 (.cells #[.int .u8 k8,.string ⟨t8.toArray⟩,.int .i64 a8] 37 (0,0)));have F9:=F8.trans (Fr.of_below h8.base (zf w8 (.cells #[.int .u8 k8,.string ⟨t8.toArray⟩,.int .i64 a8] 37 (0,0))));have T9:=(T4.trans f8).trans (Fr.of_below h8.base (zf w8 (.cells #[.int .u8 k8,.string ⟨t8.toArray⟩,.int .i64 a8] 37 (0,0))));have hl9:=hl1.out.fr ((Fr.of_below h1b.out (zf w1 (kN (w.heap.size+1)))).trans T9);have hzA9:=T9.keep _ _ _ _ (zk w1 (kN (w.heap.size+1))) (by decide) (by decide);have ok9:=ok8;obtain⟨i,hix,hi,hkd⟩:=zfa L hL.out t8 hct;rw[hN.out] at hi;have hi1:(i:Int)<(N:Int):=by omega
   have hi2:¬((i:Int)<0):=by omega
   have cK:=hl9.kd hL.out hkd;generalize Qj L t8=kk at hr cK;go_wp2_with fail;generalize w8.alloc (.cells #[.int .u8 k8,.string ⟨t8.toArray⟩,.int .i64 a8] 37 (0,0))=w9 at *;have HX:=zi (fun (W:World) (hb:Below w9.heap.size w9 W)=>hix▸zfm (yS L) t8 (w.heap.size+1+2*L) N N W hN.out ((hl9.below hb).ss hL.out) (by have:=hN7.out;omega) hct);have hS:∀W,Cl w9.drew W->(W.cell? ⟨w1.heap.size,L*2,none⟩=some (jB (w.heap.size+1+2*L) N)/\W.cell? ⟨w1.heap.size,L*2+1,none⟩=some (jB (w.heap.size+1+2*L+1) N)/\W.cell? ⟨w8.heap.size,1,none⟩=some (.string ⟨t8.toArray⟩)/\W.cell? ⟨w.heap.size+1+2*L+1,i,none⟩=some (.int .u8 kk)):=fun W hC=>by
    have hb:Below w9.heap.size w9 W:=zg bR.drew hC.below;exact⟨(zd (zh hb hzA9) (L*2)).trans (hA0.out _),(zd (zh hb hzA9) (L*2+1)).trans (hA1.out _),zd (zh hb hz8) 1,zj hb cK⟩
   have hz9:=zi hz8;have hzA:=zi hzA9;clear hz8 hzA9 hkd hct hix cK;refine zaQ [(0,0),(1,0),(2,0),(3,1),(4,0),(5,0),(6,0),(7,1),(8,0),(9,1),(10,2),(11,0),(12,1),(13,0)] ?_;refine goM ?_;refine zZ rfl rfl (fun K hK W hW=>?_);go_simp;refine (HX.out W (zg bR.drew hW.below)).mono ?_;rintro e wa ⟨rfl,rfl⟩;go_simp;refine⟨ux.2 bR,hK _ _ ?_⟩;clear hK K
   try simp only[Act.put,yG,yE,yF]
   have hS:=fun V (hC:Cl wa V)=>hS V (hW.trans hC)
   refine goM ?_;refine zC fun W hW2=>?_
   have hb10:Below w9.heap.size w9 W:=zg (zg bR.drew hW.below) hW2.below;clear hS hW hW2 HX;have h10:=h9.below hb10;have F10:=F9.trans (Fr.of_below h9.base hb10);have T10:=T9.trans (Fr.of_below h9.base hb10);have hz10:=zh hb10 hz9.out;have hS:∀V,(yO base).rel W.drew V->V.cell? ⟨w8.heap.size,2,none⟩=some (.int .i64 a8):=fun V hF=>zd (hF.keep _ _ _ _ hz10 (by decide) (by decide)) 2
   clear hz10;go_wp2_with fail;refine LodeX.jm (RR:=yO base) (Xp:=XP base r w) [(0,0),(1,0),(2,0),(3,1),(4,0),(5,0),(6,0),(7,0),(8,2),(9,2),(10,2),(11,0)] ?_;refine LodeX.qT ?_;refine LodeX.callX fun K hK=>?_
   go_simp;refine XV hr (hT.out _ _ _ (h10.below bR.drew) ok9.out (by omega)) F10 ((Fr.of_below h10.base bR.drew)) ?_;clear hr;intro w11 x11 st11 hm11 h11 f11 F11 hr;refine⟨f11,hK _ _ ?_⟩;clear hK K;have hS:=fun W (hF:(yO base).rel w11 W)=>hS W (Fr.trans f11 hF)
   try simp only[Act.put,yG,yE,yF]
   obtain⟨n11,vd11⟩:=gT.out ok9.out.le ok9.out.wf hm11;have ok11:=ok9.out.nx n11 (by decide);have hfew:st11.nodes.length<=1000000:=by have:=ok11.few;have:=ok11.le;omega
   refine LodeX.callX fun K hK=>?_
   go_simp;refine⟨Fr.of_below h11.base (zf _ _),hK _ _ ?_⟩;clear hK K
   try simp only[Act.put,yG,yE,yF]
   refine LodeX.callX fun K hK=>?_
   go_simp;refine XV hr (zz (h11.below (zf _ _)) kk [] 0 a8 [left,x11] _ (KS.lit _ [left,x11]) (h11.fresh _ _) hfew) F11 ((Fr.of_below h11.base (zf _ _))) ?_;clear hr;intro w12 x12 st12 hm12 h12 f12 F12 hr;refine⟨f12,hK _ _ ?_⟩;clear hK K
   try simp only[Act.put,yG,yE,yF]
   obtain⟨n12,vd12⟩:=zK ok11.le ok11.wf (Jp ((hvd.later n8).later n11) (YD vd11)) hm12;have N12:=(n8.trans n11).trans n12;have ok12:=ok3.out.nx N12 (by decide);have hn12:=n12.next;have hn11:=n11.next;have hle12:=ok12.le;have T12:=((T10.trans (Fr.of_below h10.base bR.drew)).trans f11).trans ((Fr.of_below h11.base (zf _ _)).trans f12);refine LodeX.qT ?_;refine LodeX.zC fun W hW=>?_
   cases hW;clear hS;replace hr:=zi (show uR L tight k x12 E st12=r from by have h9:=hr.out;rw[if_neg (by simp[hL2.out])] at h9;exact h9);go_wp2;go_roundw
   case rel=>exact⟨st12,k,x12,rfl,hr.out,by omega,by omega,vd12,ok12,h12,F12,T12⟩
   case measure=>
    rw[h12.xh,h3.xh];omega
theorem zis{E:zv}{base pb n:Nat}{iv:Value}{tight:PM Int}(hT:PCb E base pb iv n (4+1) tight)(hg:Gd 0 Vd tight):PCb E base pb iv n 4 (uy 4 tight):=XO (L:=4) (by decide) (by decide) hT hg
theorem zit{E:zv}{base pb n:Nat}{iv:Value}{tight:PM Int}(hT:PCb E base pb iv n (3+1) tight)(hg:Gd 0 Vd tight):PCb E base pb iv n 3 (uy 3 tight):=XO (L:=3) (by decide) (by decide) hT hg
theorem ziv{E:zv}{base pb n:Nat}{iv:Value}{tight:PM Int}(hT:PCb E base pb iv n (1+1) tight)(hg:Gd 0 Vd tight):PCb E base pb iv n 1 (uy 1 tight):=XO (L:=1) (by decide) (by decide) hT hg
theorem ziw{E:zv}{base pb n:Nat}{iv:Value}{tight:PM Int}(hT:PCb E base pb iv n (0+1) tight)(hg:Gd 0 Vd tight):PCb E base pb iv n 0 (uy 0 tight):=XO (L:=0) (by decide) (by decide) hT hg
theorem ziu{E:zv}{base pb n:Nat}{iv:Value}{R:xN}(hR:yH R)(hB:PCb E base pb iv n 2 R.bin2)(hT:PCb E base pb iv (n+1) (2+1) (KF R)):PCb E base pb iv (n+1) 2 (kP R):=by
 intro G w st0 h0 ok0 hn;obtain⟨r,hr⟩:=exE (kP R E st0);rw[hr];unfold kP at hr;obtain⟨N,hN,hN7,hA0,hA1⟩:=zcB 2 (by decide);have hL:=zi (show 2<5 by decide);replace hr:=zi hr;have F0:=Fr.refl base w;have HL:=zi (Zz w);unfold lvV at HL;replace hT:=zi hT;replace hB:=zi hB;replace ok0:=zi ok0;have gT:Hid (Gd 0 Vd (KF R)):=zi (fun h0 hw h=>zfC hR h0 hw h);replace hR:=zi hR;have hlim:=ok0.out.lim;have hle:=ok0.out.le;have hbase:=h0.base;go_enter func172,ntmps172;go_wp2_with fail;refine HL.out.mono ?_;rintro e w1 ⟨rfl,hl1,hb1⟩;have h1:=h0.below hb1;have F1:=F0.trans (Fr.of_below h0.base hb1);have ok1:=ok0;have h1b:=zi h1.base;replace hl1:=zi hl1;have HS:=jN (h1.below (zf w1 (kN (w.heap.size+1)))) [110,111,116];rw[World.size_alloc] at HS;replace HS:=zi HS;go_wp2_with fail;refine HS.out.mono ?_;rintro e w2 ⟨rfl,hb2⟩;have hb2:Below (w1.alloc (kN (w.heap.size+1))).heap.size (w1.alloc (kN (w.heap.size+1))) w2:=zg (zf (w1.alloc (kN (w.heap.size+1))) (.cells #[.string ⟨[110,111,116].toArray⟩] 9 (0,0))) (by simpa using hb2);have hA1:=h1.below (zf w1 (kN (w.heap.size+1)));have h2:=hA1.below hb2;have T2:=Fr.of_below hA1.base hb2;have F2:=(F1.trans (Fr.of_below h1.base (zf w1 (kN (w.heap.size+1))))).trans T2;have ok2:=ok1;clear HS;cases hk:uq (zy E st0) [[110,111,116]] with
 |true=>
  replace hr:=zi ((vD hk).symm.trans hr.out);go_wp2_with fail;refine pgo hr (vu h2 (by omega)) F2 (Fr.refl _ _) ?_;clear hr;intro w3 x3 st3 v hv hm3 h3 f3 F3 hr;have n3:=vg (vQ hk) ok2.out.wf hm3;have ok3:=zi (ok2.out.nx n3 (by decide));unfold kO vM at hv;subst hv;obtain⟨k3,t3,a3⟩:=x3;simp only at hr ⊢;have hz:=zk w3 (.cells #[.int .u8 k3,.string ⟨t3.toArray⟩,.int .i64 a3] 37 (0,0));have h4:=h3.below (zf w3 (.cells #[.int .u8 k3,.string ⟨t3.toArray⟩,.int .i64 a3] 37 (0,0)));have F4:=F3.trans (Fr.of_below h3.base (zf w3 (.cells #[.int .u8 k3,.string ⟨t3.toArray⟩,.int .i64 a3] 37 (0,0))));go_wp2_with fail;generalize w3.alloc (.cells #[.int .u8 k3,.string ⟨t3.toArray⟩,.int .i64 a3] 37 (0,0))=w4 at *;have hS:∀W,(yO base).rel w4.drew W->W.cell? ⟨w3.heap.size,2,none⟩=some (.int .i64 a3):=fun W hF=>zd (hF.keep _ _ _ _ hz (by decide) (by decide)) 2
  clear hz;have ha3:=n3.adv;have hle3:=ok3.out.le;refine LodeX.jm (RR:=yO base) (Xp:=XP base r w) [(0,0),(1,0),(2,1),(3,0),(4,2),(5,2),(6,2),(7,0)] ?_;refine LodeX.qT ?_;refine LodeX.callX fun K hK=>?_
  go_simp;refine XV hr (hB.out _ _ _ (h4.below bR.drew) ok3.out (by omega)) F4 ((Fr.of_below h4.base bR.drew)) ?_;clear hr;intro w7 x7 st7 hm7 h7 f7 F7 hr;refine⟨f7,hK _ _ ?_⟩;clear hK K;have hS:=fun W (hF:(yO base).rel w7 W)=>hS W (Fr.trans f7 hF)
  try simp only[Act.put,yG,yE,yF]
  obtain⟨n7,vd7⟩:=hR.out.bin2 ok3.out.le ok3.out.wf hm7;have ok7:=ok3.out.nx n7 (by decide);have hfew:st7.nodes.length<=1000000:=by have:=ok7.few;have:=ok7.le;omega
  refine LodeX.callX fun K hK=>?_
  go_simp;refine⟨Fr.of_below h7.base (zf _ _),hK _ _ ?_⟩;clear hK K
  try simp only[Act.put,yG,yE,yF]
  refine LodeX.callX fun K hK=>?_
  go_simp;refine zO hr (zz (h7.below (zf _ _)) 7 [] 0 a3 [x7] _ (KS.lit _ [x7]) (h7.fresh _ _) hfew) F7 (Fr.of_below h7.base (zf _ _)) ?_;rintro w8 x8 st8 hm8 rfl h8 f8 F8;refine⟨f8,hK _ _ ?_⟩;clear hK K
  try simp only[Act.put,yG,yE,yF]
  refine LodeX.qT ?_;refine LodeX.zC fun W hW=>?_
  cases hW;clear hS;go_wp2;go_ret;exact⟨⟨_,rfl,rfl⟩,h8,F8⟩
 |false=>
  replace hr:=zi ((jV hk).symm.trans hr.out);clear hk;unfold uy at hr;go_wp2_with fail;refine XI hr (hT.out _ _ _ h2 ok2.out hn) F2 (Fr.refl _ _) ok2 (gT.out) ?_;clear hr;intro w3 x3 st3 hm3 h3 f3 F3 n3 vd3 ok3 hle3 ha3 hr;have hst:zfK E base pb (n+1) iv G 2 (KF R) w (w1.alloc (kN (w.heap.size+1))) r (.int .i64 x3) w3:=⟨st3,_,x3,rfl,hr.out,by omega,by omega,vd3,ok3.out,h3,F3,T2.trans f3⟩;replace hst:=zi hst;clear hr h1 hb1 F1 h2 F2 hm3 T2 h3 F3 f3 hA1;go_wp2;go_loopw [7] (fun v wr=>zfK E base pb (n+1) iv G 2 (KF R) w (w1.alloc (kN (w.heap.size+1))) r v wr) (fun _ wr=>E.toks.length+1-xh pb wr)
  case atStart=>exact hst.out
  case round=>
   obtain⟨st3,k,left,rfl,hr,hk,hn3,hvd,ok3,h3,F3,T3⟩:=hrel;obtain⟨k,rfl⟩:∃m,k=m+1:=⟨k-1,by omega⟩;unfold uR at hr;have hle3:=ok3.le;replace ok3:=zi ok3;replace hr:=zi hr;have hl3:=zi (hl1.out.fr ((Fr.of_below h1b.out (zf w1 (kN (w.heap.size+1)))).trans T3));have hzA:=zi (T3.keep _ _ _ _ (zk w1 (kN (w.heap.size+1))) (by decide) (by decide));have q0:=(zd hzA.out (2*2)).trans (hA0.out _);have HI:=zd6 h3 (yS 2) (w.heap.size+1+2*2) N (hl3.out.ss hL.out) (by have:=hN.out;have:=hN7.out;omega);rw[hN.out] at HI;replace HI:=zi HI;go_wp2_with fail;refine HI.out.mono ?_;rintro e w4 ⟨rfl,hb4⟩;have h4:=h3.below hb4;have F4:=F3.trans (Fr.of_below h3.base hb4);have T4:=T3.trans (Fr.of_below h3.base hb4);have ok4:=ok3;clear HI;cases hk4:uq (zy E st3) (yS 2) with
   |false=>
    have hr4:qw.ok left st3=r:=(jV hk4).symm.trans hr.out;subst hr4;go_wp2;go_ret;exact⟨⟨_,rfl,rfl⟩,h4,F4⟩
   |true=>
    replace hr:=zi ((vD hk4).symm.trans hr.out);have hct:=zcV hk4;go_wp2_with fail;refine pgo hr (vu h4 (by omega)) F4 (Fr.refl _ _) ?_;clear hr;intro w8 x8 st8 v hv hm8 h8 f8 F8 hr;have n8:=vg (vQ hk4) ok4.out.wf hm8;have ok8:=zi (ok4.out.nx n8 (by decide));have hx8:zy E st3=x8:=by cases hm8;rfl
    rw[hx8] at hct;clear hx8 hk4;unfold kO vM at hv;subst hv;obtain⟨k8,t8,a8⟩:=x8;simp only at hr hct ⊢;have hle8:=ok8.out.le;have ha8:=n8.adv;have hz8:=zk w8 (.cells #[.int .u8 k8,.string ⟨t8.toArray⟩,.int .i64 a8] 37 (0,0));have h9:=h8.below (zf w8 (.cells #[.int .u8 k8,.string ⟨t8.toArray⟩,.int .i64 a8] 37 (0,0)));have F9:=F8.trans (Fr.of_below h8.base (zf w8 (.cells #[.int .u8 k8,.string ⟨t8.toArray⟩,.int .i64 a8] 37 (0,0))));have T9:=(T4.trans f8).trans (Fr.of_below h8.base (zf w8 (.cells #[.int .u8 k8,.string ⟨t8.toArray⟩,.int .i64 a8] 37 (0,0))));have hl9:=hl1.out.fr ((Fr.of_below h1b.out (zf w1 (kN (w.heap.size+1)))).trans T9);have hzA9:=T9.keep _ _ _ _ (zk w1 (kN (w.heap.size+1))) (by decide) (by decide);have ok9:=ok8;obtain⟨i,hix,hi,hkd⟩:=zfa 2 hL.out t8 hct;rw[hN.out] at hi;have hi1:(i:Int)<(N:Int):=by omega
    have hi2:¬((i:Int)<0):=by omega
    have cK:=hl9.kd hL.out hkd;generalize Qj 2 t8=kk at hr cK;go_wp2_with fail;generalize w8.alloc (.cells #[.int .u8 k8,.string ⟨t8.toArray⟩,.int .i64 a8] 37 (0,0))=w9 at *;have HX:=zi (fun (W:World) (hb:Below w9.heap.size w9 W)=>hix▸zfm (yS 2) t8 (w.heap.size+1+2*2) N N W hN.out ((hl9.below hb).ss hL.out) (by have:=hN7.out;omega) hct);have hS:∀W,Cl w9.drew W->(W.cell? ⟨w1.heap.size,2*2,none⟩=some (jB (w.heap.size+1+2*2) N)/\W.cell? ⟨w1.heap.size,2*2+1,none⟩=some (jB (w.heap.size+1+2*2+1) N)/\W.cell? ⟨w8.heap.size,1,none⟩=some (.string ⟨t8.toArray⟩)/\W.cell? ⟨w.heap.size+1+2*2+1,i,none⟩=some (.int .u8 kk)):=fun W hC=>by
     have hb:Below w9.heap.size w9 W:=zg bR.drew hC.below;exact⟨(zd (zh hb hzA9) (2*2)).trans (hA0.out _),(zd (zh hb hzA9) (2*2+1)).trans (hA1.out _),zd (zh hb hz8) 1,zj hb cK⟩
    have hz9:=zi hz8;have hzA:=zi hzA9;clear hz8 hzA9 hkd hct hix cK;refine zaQ [(0,0),(1,0),(2,0),(3,1),(4,0),(5,0),(6,0),(7,1),(8,0),(9,1),(10,2),(11,0),(12,1),(13,0)] ?_;refine goM ?_;refine zZ rfl rfl (fun K hK W hW=>?_);go_simp;refine (HX.out W (zg bR.drew hW.below)).mono ?_;rintro e wa ⟨rfl,rfl⟩;go_simp;refine⟨ux.2 bR,hK _ _ ?_⟩;clear hK K
    try simp only[Act.put,yG,yE,yF]
    have hS:=fun V (hC:Cl wa V)=>hS V (hW.trans hC)
    refine goM ?_;refine zC fun W hW2=>?_
    have hb10:Below w9.heap.size w9 W:=zg (zg bR.drew hW.below) hW2.below;clear hS hW hW2 HX;have h10:=h9.below hb10;have F10:=F9.trans (Fr.of_below h9.base hb10);have T10:=T9.trans (Fr.of_below h9.base hb10);have hz10:=zh hb10 hz9.out;have hS:∀V,(yO base).rel W.drew V->V.cell? ⟨w8.heap.size,2,none⟩=some (.int .i64 a8):=fun V hF=>zd (hF.keep _ _ _ _ hz10 (by decide) (by decide)) 2
    clear hz10;go_wp2_with fail;refine LodeX.jm (RR:=yO base) (Xp:=XP base r w) [(0,0),(1,0),(2,0),(3,1),(4,0),(5,0),(6,0),(7,0),(8,2),(9,2),(10,2),(11,0)] ?_;refine LodeX.qT ?_;refine LodeX.callX fun K hK=>?_
    go_simp;refine XV hr (hT.out _ _ _ (h10.below bR.drew) ok9.out (by omega)) F10 ((Fr.of_below h10.base bR.drew)) ?_;clear hr;intro w11 x11 st11 hm11 h11 f11 F11 hr;refine⟨f11,hK _ _ ?_⟩;clear hK K;have hS:=fun W (hF:(yO base).rel w11 W)=>hS W (Fr.trans f11 hF)
    try simp only[Act.put,yG,yE,yF]
    obtain⟨n11,vd11⟩:=gT.out ok9.out.le ok9.out.wf hm11;have ok11:=ok9.out.nx n11 (by decide);have hfew:st11.nodes.length<=1000000:=by have:=ok11.few;have:=ok11.le;omega
    refine LodeX.callX fun K hK=>?_
    go_simp;refine⟨Fr.of_below h11.base (zf _ _),hK _ _ ?_⟩;clear hK K
    try simp only[Act.put,yG,yE,yF]
    refine LodeX.callX fun K hK=>?_
    go_simp;refine XV hr (zz (h11.below (zf _ _)) kk [] 0 a8 [left,x11] _ (KS.lit _ [left,x11]) (h11.fresh _ _) hfew) F11 ((Fr.of_below h11.base (zf _ _))) ?_;clear hr;intro w12 x12 st12 hm12 h12 f12 F12 hr;refine⟨f12,hK _ _ ?_⟩;clear hK K
    try simp only[Act.put,yG,yE,yF]
    obtain⟨n12,vd12⟩:=zK ok11.le ok11.wf (Jp ((hvd.later n8).later n11) (YD vd11)) hm12;have N12:=(n8.trans n11).trans n12;have ok12:=ok3.out.nx N12 (by decide);have hn12:=n12.next;have hn11:=n11.next;have hle12:=ok12.le;have T12:=((T10.trans (Fr.of_below h10.base bR.drew)).trans f11).trans ((Fr.of_below h11.base (zf _ _)).trans f12);refine LodeX.qT ?_;refine LodeX.zC fun W hW=>?_
    cases hW;clear hS;have hr12:qw.ok x12 st12=r:=hr.out;subst hr12;go_wp2;go_ret;exact⟨⟨_,rfl,rfl⟩,h12,F12⟩
end
end Go.Proofs.YtnncmdpopgkibaaGreatDoor
