import Derived.Test.YtcagibbaeageoaaGreatDoorSF
set_option maxRecDepth 100000
set_option maxHeartbeats 0
set_option linter.all false
variable{E:Lode.zr}{s s' st mI:Lode.yx}{m part tight:Lode.PM Int}{t:Lode.yO}{B L b b2 base cap g g' j k n pb:Nat}{iv nv u v:Go.Value}{R:Lode.qi}{w w' w1 w2:Go.World}{l:List (List UInt8×Nat×Int)}{kv xs:List Go.Value}{G H:Nat->Prop}{x:Lode.Nd}{a acc ys:List Int}{ad:Go.Addr}{ops:Array Go.Oper}{rest:List Go.Oper}{o:Go.Oper}{Q:Go.Exit->Go.Act->Go.World->Prop}{α β γ:Type}{f:List Int×Int->Lode.PM Int}{y:Int}
namespace Go.Proofs.YtcagibbaeageoaaGreatDoor
section
open Go.RowKit Lode Go.Shelf
attribute [local go_sem ↓] wp_at_zero wp_at_succ
open Go.Proofs.Tryz
structure zkP(t:yO):Prop where
 ne:t.text≠[]
 dig:t.text.all zL=true
 le:ym t.text<=1000000000
 len:t.text.length<=1000000
def zcS(E:zr):Prop:=∀t∈E.tz,(t.kind == 3)=true->zkP t
theorem zcS.at{E:zr}(h:zcS E){s:yx}(hk:((zw E s).kind == 3)=true):zkP (zw E s):=by
 have mD:=qw (E:=E) (s:=s) (k:=3) (by simpa using hk) (by decide);have e:zw E s=E.tz[s.next]:=by unfold zw;rw[glE mD];rfl
 rw[e] at hk ⊢;exact h _ (wE _) hk
def zdo(h:zcS E){m:yO}(hm:xp 3 E s=.ok m s'):zkP m:=by
 unfold xp at hm;split at hm
 ·rename_i hk;cases hm;exact h.at hk
 ·cases hm
def Yl(h:zkP t)(w:World):Calls prog 289 #[uu t] w λe w'=>e=.returned (.int .i64 (ym t.text))/\Below w.heap.size w w':=by
 obtain⟨h1,h2,h3,h4⟩:=h;have ha:=Ku t.text h1 h2;rw[if_pos (by omega)] at ha;obtain⟨k,tx,a⟩:=t;have Ha:=zh (Tryz.strconv_Atoi_ok ⟨tx.toArray⟩ (by show tx.toArray.size<=_;simp;simp at h4;omega) (ym tx) (by simpa using ha));unfold uu;have hA:=zf w (.cells #[.int .u8 k,.string ⟨tx.toArray⟩,.int .i64 a] 66 (0,0));have hz:=zk w (.cells #[.int .u8 k,.string ⟨tx.toArray⟩,.int .i64 a] 66 (0,0));have c1:=zd hz 1;clear hz ha h1 h2 h3 h4;go_enter func289,ntmps289;go_wp2_with fail;refine (Ha.q _).mono ?_;rintro e w1 ⟨rfl,hw⟩;have hb:Below w.heap.size w w1:=by
  rcases hw with rfl|⟨t,rfl⟩
  ·exact hA
  ·exact zg hA (ZC _ _ _)
 clear hw;go_wp2;go_ret;exact⟨rfl,hb⟩
def zdN(hE:zcS E)(hR:kQ E base pb iv n R):PCn E base pb iv (n+1) 304 (jo R):=by
 intro G w mI h0 mN hn;obtain⟨r,hr⟩:=exE (jo R E mI);rw[hr];unfold jo at hr;replace hr:=zh hr;replace mN:=zh mN;replace hR:=zh hR;have F0:=Fr.refl base w;have nK:=mN.q.lim;have pk:=mN.q.le;have rj:=h0.glt;have mH:=h0.base;have nJ:=zh (enters_of (P:=prog) func304 (by kernel_rfl) rfl);have HT:=zh (qL h0);replace hr:=zh ((yu (show YU E mI=.ok (zw E mI) mI from rfl)).symm.trans hr.q);have mD:=zh (λ(k:Nat) (h:(zw E mI).kind=k) (hk:k≠0)=>qw (E:=E) (s:=mI) (k:=k) h hk);have nL:=zh (λh=>hE.at (s:=mI) h);generalize zw E mI=t at *;obtain⟨k1,t1,a1⟩:=t;unfold uu at HT;go_enter func304,ntmps304;go_wp2_with fail;refine HT.q.mono ?_;rintro e w1 ⟨rfl,mF⟩;have ro:Below w.heap.size w w1:=zg bR mF;have hA:=zf w1 (.cells #[.int .u8 k1,.string ⟨t1.toArray⟩,.int .i64 a1] 66 (0,0));have mT:=zk w1 (.cells #[.int .u8 k1,.string ⟨t1.toArray⟩,.int .i64 a1] 66 (0,0));have mM:=ro.trans (hA.mono ro.size);have h2:=h0.below mM;have F2:=Fr.of_below h0.base mM;have Gb:=zd mT 0;have BD:=zd mT 1;have BE:=zd mT 2;replace mT:=zh mT;replace F2:=zh F2;by_cases e1:k1=1
 ·have hk:(k1 == 1)=true:=by simp[e1]
  have hi:((k1:Int) == 1)=true:=by simp[e1]
  replace hr:=zh (show (zT 66 t1 0 a1 []:PM Int) E {mI with next:=mI.next+1}=r from by
   have:=hr.q;rw[if_pos (by exact hk)] at this;exact this)
  replace F2:=F2.q;have pf:=mD.q 1 e1 (by decide);obtain⟨c4,f4,h3,f3⟩:=h2.skip;have hy:=pF ((mI.next:Int)+1) (by omega);have rK:=f3.keep _ _ _ _ mT.q (by decide) (by decide);have PE:=zd rK 0;have Mv:=zd rK 1;have Mw:=zd rK 2;have F3:=F2.trans f3;have mE:mI.nz.length<=1000000:=by have:=mN.q.few;omega
  have mZ:qT E {mI with next:=mI.next+1}:=⟨pf,mN.q.wf,by have:=mN.q.few;simp only;omega,mN.q.lim⟩;clear hk e1;go_wp2_with fail;refine zX hr (zE h3 66 t1 0 a1 [] _ (KS.nil' _) xM (by exact mE)) F3 (Fr.refl _ _) ?_;rintro w4 x4 aN az rfl h4 f4 F4;go_wp2;go_ret;exact⟨⟨_,rfl,rfl⟩,h4,F4⟩
 have i1:((k1:Int) == 1)=false:=by simp;omega
 replace hr:=zh (show (if (k1 == 3)=true then (do jH;zT 67 [] (ZX ⟨k1,t1,a1⟩) a1 []) else if (k1 == 4)=true then (do jH;zT 68 t1 0 a1 []) else if (k1 == 2)=true then (do jH;let l <-jd R.pattern;zT 70 t1 0 a1 l) else (do if <-yo [116,114,117,101] then zT 69 [] 1 a1 [] else if <-yo [102,97,108,115,101] then zT 69 [] 0 a1 [] else do let _ <-zC [45];let m <-xp 3;zT 67 [] (-(ZX m)) a1 []):PM Int) E mI=r from by
  have:=hr.q;rw[if_neg (by simp[e1])] at this;exact this)
 by_cases e3:k1=3
 ·have hk:(k1 == 3)=true:=by simp[e3]
  have hi:((k1:Int) == 3)=true:=by simp[e3]
  replace hr:=zh (show (zT 67 [] (ym t1) a1 []:PM Int) E {mI with next:=mI.next+1}=r from by
   have:=hr.q;rw[if_pos (by exact hk)] at this;exact this)
  have HN:=zh (λW=>Yl (nL.q hk) W);unfold uu at HN;replace F2:=F2.q;have pf:=mD.q 3 e3 (by decide);obtain⟨c4,f4,h3,f3⟩:=h2.skip;have hy:=pF ((mI.next:Int)+1) (by omega);have rK:=f3.keep _ _ _ _ mT.q (by decide) (by decide);have PE:=zd rK 0;have Mv:=zd rK 1;have Mw:=zd rK 2;have F3:=F2.trans f3;have mE:mI.nz.length<=1000000:=by have:=mN.q.few;omega
  have mZ:qT E {mI with next:=mI.next+1}:=⟨pf,mN.q.wf,by have:=mN.q.few;simp only;omega,mN.q.lim⟩;have hS:∀W,(xg base).rel ((w1.alloc (.cells #[.int .u8 k1,.string ⟨t1.toArray⟩,.int .i64 a1] 66 (0,0))).setCell ⟨pb,4,none⟩ (.int .i64 ((mI.next:Int)+1))).drew W->(W.cell? ⟨w1.heap.size,0,none⟩=some (.int .u8 k1)/\W.cell? ⟨w1.heap.size,1,none⟩=some (.string ⟨t1.toArray⟩)/\W.cell? ⟨w1.heap.size,2,none⟩=some (.int .i64 a1)):=λW hF=>by
   have:=hF.keep _ _ _ _ rK (by decide) (by decide);exact⟨zd this 0,zd this 1,zd this 2⟩
  clear hk e3 rK;go_wp2_with fail;generalize (w1.alloc (.cells #[.int .u8 k1,.string ⟨t1.toArray⟩,.int .i64 a1] 66 (0,0))).setCell ⟨pb,4,none⟩ (.int .i64 ((mI.next:Int)+1))=w3 at *;refine LodeX.xC (RR:=xg base) (Xp:=XP base r w) [(0,0),(1,1),(3,0),(4,1),(2,2),(5,2),(6,0)] ?_;refine LodeX.xt ?_;refine LodeX.callX λK hK=>?_
  go_simp;refine (HN.q _).mono ?_;rintro e w4 ⟨rfl,fR⟩;have h4:=(h3.below bR.drew).below fR;have f4:=Fr.of_below (h3.below bR.drew).base fR;have F4:=(F3.trans (Fr.of_below h3.base bR.drew)).trans f4;refine⟨f4,hK _ _ ?_⟩;clear hK K fR;have hS:=λW (hF:(xg base).rel w4 W)=>hS W (Fr.trans f4 hF)
  try simp only[Act.put,yh,yf,yg]
  refine LodeX.callX λK hK=>?_
  go_simp;refine zX hr (zE h4 67 [] (ym t1) a1 [] _ (KS.nil' _) xM mE) F4 ((Fr.refl _ _)) ?_;rintro w5 x5 ry bA rfl h5 f5 F5;refine⟨f5,hK _ _ ?_⟩;clear hK K
  try simp only[Act.put,yh,yf,yg]
  refine LodeX.xt ?_;refine LodeX.zF λW hW=>?_
  cases hW;clear hS;go_wp2;go_ret;exact⟨⟨_,rfl,rfl⟩,h5,F5⟩
 have i3:((k1:Int) == 3)=false:=by simp;omega
 replace hr:=zh (show (if (k1 == 4)=true then (do jH;zT 68 t1 0 a1 []) else if (k1 == 2)=true then (do jH;let l <-jd R.pattern;zT 70 t1 0 a1 l) else (do if <-yo [116,114,117,101] then zT 69 [] 1 a1 [] else if <-yo [102,97,108,115,101] then zT 69 [] 0 a1 [] else do let _ <-zC [45];let m <-xp 3;zT 67 [] (-(ZX m)) a1 []):PM Int) E mI=r from by
  have:=hr.q;rw[if_neg (by simp[e3])] at this;exact this)
 by_cases e4:k1=4
 ·have hk:(k1 == 4)=true:=by simp[e4]
  have hi:((k1:Int) == 4)=true:=by simp[e4]
  replace hr:=zh (show (zT 68 t1 0 a1 []:PM Int) E {mI with next:=mI.next+1}=r from by
   have:=hr.q;rw[if_pos (by exact hk)] at this;exact this)
  replace F2:=F2.q;have pf:=mD.q 4 e4 (by decide);obtain⟨c4,f4,h3,f3⟩:=h2.skip;have hy:=pF ((mI.next:Int)+1) (by omega);have rK:=f3.keep _ _ _ _ mT.q (by decide) (by decide);have PE:=zd rK 0;have Mv:=zd rK 1;have Mw:=zd rK 2;have F3:=F2.trans f3;have mE:mI.nz.length<=1000000:=by have:=mN.q.few;omega
  have mZ:qT E {mI with next:=mI.next+1}:=⟨pf,mN.q.wf,by have:=mN.q.few;simp only;omega,mN.q.lim⟩;clear hk e4;go_wp2_with fail;refine zX hr (zE h3 68 t1 0 a1 [] _ (KS.nil' _) xM (by exact mE)) F3 (Fr.refl _ _) ?_;rintro w4 x4 aN az rfl h4 f4 F4;go_wp2;go_ret;exact⟨⟨_,rfl,rfl⟩,h4,F4⟩
 have i4:((k1:Int) == 4)=false:=by simp;omega
 replace hr:=zh (show (if (k1 == 2)=true then (do jH;let l <-jd R.pattern;zT 70 t1 0 a1 l) else (do if <-yo [116,114,117,101] then zT 69 [] 1 a1 [] else if <-yo [102,97,108,115,101] then zT 69 [] 0 a1 [] else do let _ <-zC [45];let m <-xp 3;zT 67 [] (-(ZX m)) a1 []):PM Int) E mI=r from by
  have:=hr.q;rw[if_neg (by simp[e4])] at this;exact this)
 by_cases e2:k1=2
 ·have hk:(k1 == 2)=true:=by simp[e2]
  have hi:((k1:Int) == 2)=true:=by simp[e2]
  replace hr:=zh (show (do let l <-jd R.pattern;zT 70 t1 0 a1 l:PM Int) E {mI with next:=mI.next+1}=r from by
   have:=hr.q;rw[if_pos (by exact hk)] at this;exact this)
  replace F2:=F2.q;have pf:=mD.q 2 e2 (by decide);obtain⟨c4,f4,h3,f3⟩:=h2.skip;have hy:=pF ((mI.next:Int)+1) (by omega);have rK:=f3.keep _ _ _ _ mT.q (by decide) (by decide);have PE:=zd rK 0;have Mv:=zd rK 1;have Mw:=zd rK 2;have F3:=F2.trans f3;have mE:mI.nz.length<=1000000:=by have:=mN.q.few;omega
  have mZ:qT E {mI with next:=mI.next+1}:=⟨pf,mN.q.wf,by have:=mN.q.few;simp only;omega,mN.q.lim⟩;have hS:∀W,(xg base).rel ((w1.alloc (.cells #[.int .u8 k1,.string ⟨t1.toArray⟩,.int .i64 a1] 66 (0,0))).setCell ⟨pb,4,none⟩ (.int .i64 ((mI.next:Int)+1))).drew W->(W.cell? ⟨w1.heap.size,0,none⟩=some (.int .u8 k1)/\W.cell? ⟨w1.heap.size,1,none⟩=some (.string ⟨t1.toArray⟩)/\W.cell? ⟨w1.heap.size,2,none⟩=some (.int .i64 a1)):=λW hF=>by
   have:=hF.keep _ _ _ _ rK (by decide) (by decide);exact⟨zd this 0,zd this 1,zd this 2⟩
  clear hk e2 rK;go_wp2_with fail;generalize (w1.alloc (.cells #[.int .u8 k1,.string ⟨t1.toArray⟩,.int .i64 a1] 66 (0,0))).setCell ⟨pb,4,none⟩ (.int .i64 ((mI.next:Int)+1))=w3 at *;replace mZ:=zh mZ;have bC:({mI with next:=mI.next+1}:yx).next=mI.next+1:=rfl;generalize ({mI with next:=mI.next+1}:yx)=st3 at *;have mU:=F3.b.size;refine LodeX.xC (RR:=xg base) (Xp:=XP base r w) [(0,0),(1,0),(2,1),(3,0),(4,1),(5,0),(6,0),(7,2),(8,2),(9,2),(10,0)] ?_;refine LodeX.xt ?_
  iterate 1 (refine LodeX.callX λK hK=>?_;go_simp;refine⟨Fr.refl _ _,hK _ _ ?_⟩;clear hK K;try simp only[Act.put,yh,yf,yg])
  refine LodeX.callX λK hK=>?_
  go_simp;refine lgo hr (Jw hR.q.pattern hR.q.good.pattern nJ.q (h3.below bR.drew) mZ.q (by omega)) F3 ((Fr.of_below h3.base bR.drew)) ?_;clear hr;intro w4 x4 aN v4 l4 o4 az h4 f4 F4 hr;refine⟨f4,hK _ _ ?_⟩;clear hK K;have hS:=λW (hF:(xg base).rel w4 W)=>hS W (Fr.trans f4 hF)
  try simp only[Act.put,yh,yf,yg]
  obtain⟨n4,vl4⟩:=ZV hR.q.good.pattern mZ.q.le mZ.q.wf az;have rl:=zh (mZ.q.nx n4 (by decide));have fo:=rl.q.le;have WH:=rl.q.few;have eZ:(w3.drew).heap.size=w3.heap.size:=rfl;refine LodeX.callX λK hK=>?_
  go_simp;refine zX hr (zE h4.ungw 70 t1 0 a1 x4 _ (KS.own o4) (yM o4 (λg hg=>by have:=rj g hg;omega)) (by omega)) F4 ((Fr.refl _ _)) ?_;rintro w5 x5 ry bA rfl h5 f5 F5;refine⟨f5,hK _ _ ?_⟩;clear hK K
  try simp only[Act.put,yh,yf,yg]
  refine LodeX.xt ?_;refine LodeX.zF λW hW=>?_
  cases hW;clear hS;go_wp2;go_ret;exact⟨⟨_,rfl,rfl⟩,h5,F5⟩
 have i2:((k1:Int) == 2)=false:=by simp;omega
 replace hr:=zh (show (do if <-yo [116,114,117,101] then zT 69 [] 1 a1 [] else if <-yo [102,97,108,115,101] then zT 69 [] 0 a1 [] else do let _ <-zC [45];let m <-xp 3;zT 67 [] (-(ZX m)) a1 []:PM Int) E mI=r from by
  have:=hr.q;rw[if_neg (by simp[e2])] at this;exact this)
 replace F2:=F2.q;have nT:=mN;go_wp2_with fail;refine Xu hr (yC h2 (by omega) [116,114,117,101]) F2 (Fr.refl _ _) nT ?_;clear hr;intro w3 x3 st3 rV h3 f3 F3 n3 mZ rD hr;cases x3 with
 |true=>
  replace hr:=zh ((if_pos (rfl:true=true)▸hr.q:_));have dz:=zd (f3.keep _ _ _ _ mT.q (by decide) (by decide)) 2;have mE:st3.nz.length<=1000000:=by have:=mZ.q.few;omega
  go_wp2_with fail;refine zX hr (zE h3 69 [] 1 a1 [] _ (KS.nil' _) xM mE) F3 (Fr.refl _ _) ?_;rintro w4 x4 aN az rfl h4 f4 F4;go_wp2;go_ret;exact⟨⟨_,rfl,rfl⟩,h4,F4⟩
 |false=>
  replace hr:=zh (show (do if <-yo [102,97,108,115,101] then zT 69 [] 0 a1 [] else do let _ <-zC [45];let m <-xp 3;zT 67 [] (-(ZX m)) a1 []:PM Int) E st3=r from hr.q);have bC:st3.next=mI.next:=by rw[yz rV]
  go_wp2_with fail;refine Xu hr (yC h3 (by omega) [102,97,108,115,101]) F3 (Fr.refl _ _) mZ ?_;clear hr;intro w5 x5 ry bA h5 f5 F5 n5 rm dX hr;have T5:=f3.trans f5;cases x5 with
  |true=>
   replace hr:=zh ((if_pos (rfl:true=true)▸hr.q:_));have dz:=zd (T5.keep _ _ _ _ mT.q (by decide) (by decide)) 2;have mE:ry.nz.length<=1000000:=by have:=rm.q.few;omega
   go_wp2_with fail;refine zX hr (zE h5 69 [] 0 a1 [] _ (KS.nil' _) xM mE) F5 (Fr.refl _ _) ?_;rintro w6 x6 pm tI rfl h6 f6 F6;go_wp2;go_ret;exact⟨⟨_,rfl,rfl⟩,h6,F6⟩
  |false=>
   replace hr:=zh (show (do let _ <-zC [45];let m <-xp 3;zT 67 [] (-(ZX m)) a1 []:PM Int) E ry=r from hr.q);go_wp2_with fail;refine jC hr (zy h5 (by omega) [45]) F5 (Fr.refl _ _) rm (zq) ?_;clear hr;intro w7 x7 ta so h7 f7 F7 n7 pa af dJ hr;have T7:=T5.trans f7;have In:=T7.keep _ _ _ _ mT.q (by decide) (by decide);have hS:∀W,(xg base).rel w7.drew W->W.cell? ⟨w1.heap.size,2,none⟩=some (.int .i64 a1):=λW hF=>zd (hF.keep _ _ _ _ In (by decide) (by decide)) 2
   clear In;go_wp2_with fail;refine LodeX.xC (RR:=xg base) (Xp:=XP base r w) [(0,0),(1,0),(5,0),(6,1),(2,2),(3,2),(4,0),(7,2),(8,0)] ?_;refine LodeX.xt ?_;refine LodeX.callX λK hK=>?_
   go_simp;refine pgo hr (xK (h7.below bR.drew) (by omega) 3) F7 ((Fr.of_below h7.base bR.drew)) ?_;clear hr;intro w8 x8 aO v hv su h8 f8 F8 hr;refine⟨f8,hK _ _ ?_⟩;clear hK K;unfold vF uu at hv;subst hv;have hS:=λW (hF:(xg base).rel w8 W)=>hS W (Fr.trans f8 hF)
   try simp only[Act.put,yh,yf,yg]
   obtain⟨n8,_⟩:=yB (by decide) pa.q.le pa.q.wf su;have rL:=pa.q.nx n8 (by decide);have mE:aO.nz.length<=1000000:=by have:=rL.few;have:=rL.le;omega
   have La:=zdo hE su;have HN:=zh (λW=>Yl La W);have hN9:=La.le;unfold uu at HN;unfold ZX at hr;obtain⟨k8,t8,a8⟩:=x8;simp only at hN9;refine LodeX.callX λK hK=>?_
   go_simp;refine (HN.q _).mono ?_;rintro e w9 ⟨rfl,fR⟩;have h9:=h8.below fR;have f9:=Fr.of_below h8.base fR;have F9:=(F8.trans (Fr.refl _ _)).trans f9;refine⟨f9,hK _ _ ?_⟩;clear hK K fR;have hS:=λW (hF:(xg base).rel w9 W)=>hS W (Fr.trans f9 hF)
   try simp only[Act.put,yh,yf,yg]
   have hy:IntKind.i64.wrap (-(ym t8:Int))= -(ym t8:Int):=pF _ ⟨by omega,by omega⟩;refine LodeX.xt ?_;refine LodeX.callX λK hK=>?_
   go_simp;refine zX hr (zE h9 67 [] (-(ym t8:Int)) a1 [] _ (KS.nil' _) xM mE) F9 ((Fr.refl _ _)) ?_;rintro nB rG rh rJ rfl mR nI mi;refine⟨nI,hK _ _ ?_⟩;clear hK K
   try simp only[Act.put,yh,yf,yg]
   refine LodeX.xt ?_;refine LodeX.zF λW hW=>?_
   cases hW;clear hS;go_wp2;go_ret;exact⟨⟨_,rfl,rfl⟩,mR,mi⟩
end
section
open Go.RowKit Lode Go.Shelf
open Go.Proofs.Tryz
theorem Kj:∀(l:List Nd) (kv:List Value) (j:Nat) (x:Nd) (u:Value),l[j]? =some x->kv[j]? =some u->∀(i:Nat) (y:Value),(uy x u)[i]? =some y->(je l kv)[j*5+i]? =some y
 |[],_,j,x,u,h1,_,_,_,_=>by simp at h1
 |a :: l,[],j,x,u,_,h2,_,_,_=>by simp at h2
 |a :: l,b :: kv,0,x,u,h1,h2,i,y,h=>by
  cases h1;cases h2;show (uy a b ++ je l kv)[0*5+i]? =_
  rw[Nat.zero_mul,Nat.zero_add,wN (gtL h)];exact h
 |a :: l,b :: kv,j+1,x,u,h1,h2,i,y,h=>by
  show (uy a b ++ je l kv)[(j+1)*5+i]? =_
  have hl:(uy a b).length=5:=rfl;rw[wM (by rw[hl];omega),hl,show (j+1)*5+i-5=j*5+i by omega];exact Kj l kv j x u h1 h2 i y h
def KR{l:List Nd}(h:w.ownsRow base 60 5 nv l.length (je l kv))(hk:kv.length=l.length)(aB:∀(j:Nat) (x:Nd) (v:Value),l[j]? =some x->kv[j]? =some v->KS w v x.kz):NS w nv l kv:=by
 refine⟨hk,aB,?_⟩;obtain⟨hl,⟨rfl,h0⟩|⟨g,cap,cur,rfl,_,hg,_,_,_,ht⟩⟩:=h
 ·exact⟨none,0,by rw[h0],.inl (pT h0)⟩
 ·refine⟨_,cap,rfl,.inr ⟨g,0,cur,_,rfl,hg,λj x u hx hu i y hy=>?_⟩⟩;have h1:=Kj l kv j x u hx hu i y hy;have hi:j*5+i<(je l kv).length:=(gtL h1);rw[<-ht,List.getElem?_take] at h1;split at h1
  ·rw[Nat.zero_add,<-Array.getElem?_toList];exact h1
  ·cases h1
def PW.ns(h:PW E base pb iv G w st):∃nv kv,w.cell? ⟨pb,0,none⟩=some nv/\NS w nv st.nz kv:=by
 obtain⟨nv,tv,s,kv,P,_,_⟩:=h;exact⟨nv,kv,P.cells.1,KR P.nz P.kvl P.kz⟩
def PW.kind_at(h:PW E base pb iv G w st)(hx:st.nz[j]? =some x):∃g off cap,w.cell? ⟨pb,0,none⟩=some (.slice (some ⟨g,off,none⟩) st.nz.length cap)/\w.cell? ⟨g,off+j*5,none⟩=some (.int .u8 x.kind):=by
 obtain⟨nv,kv,h0,h1⟩:=h.ns;obtain⟨p,cap,rfl⟩:=h1.form;obtain⟨g,off,u,rfl,hN⟩:=h1.at hx;exact⟨g,off,cap,h0,hN.c0⟩
end
section
open Go.RowKit Lode Go.Shelf
attribute [local go_sem ↓] wp_at_zero wp_at_succ
attribute [local go_sem] Vj zmY Vi
open Go.Proofs.Tryz
def zmw(_:World)(v:Value)(x:Int×Bool):Prop:=v=.tuple #[.int .i64 x.1,.bool x.2]
def zm4(W:World):(Instr.index 243 (.agg #[.string ⟨[108,101,116].toArray⟩,.string ⟨[118,97,114].toArray⟩]) (.int .i64 0)).run prog W=.ok (.string ⟨[108,101,116].toArray⟩) W:=by kernel_rfl
def zm3(W:World):(Instr.index 243 (.agg #[.string ⟨[108,101,116].toArray⟩,.string ⟨[118,97,114].toArray⟩]) (.int .i64 1)).run prog W=.ok (.string ⟨[118,97,114].toArray⟩) W:=by kernel_rfl
def zbl:List (List UInt8×Nat):=[([108,101,116],60),([118,97,114],61)]
def zeX(R:qi):PM (Int×Bool):=do
 let left <-R.expr
 if <-YA [[58,61]] then
  let k <-zdQ left
  if k == 5 || k == 23 then
   let u <-Zd
   let x <-R.expr
   let r <-zT 62 [] 0 u.at_ [left,x]
   pure (r,false)
  else zgV
 else pure (left,true)
def zdl(R:qi)(a:Int)(k:Nat):PM (Int×Bool):=do
 let m <-xp 1
 let _ <-zC [61]
 let x <-R.expr
 let r <-zT k m.text 0 a [x]
 pure (r,false)
def stL(R:qi)(a:Int):List (List UInt8×Nat)->PM (Int×Bool)
 |[]=>zeX R
 |x :: r=>do if <-yo x.1 then zdl R a x.2 else stL R a r
def zmG(E:zr)(base pb:Nat)(iv:Value)(G:Nat->Prop)(R:qi)(a:Int)(w wt:World)(st:yx)(r:qK (Int×Bool))(i:Value)(wr:World):Prop:=∃k:Nat,k<=2/\i=.int .i64 k/\stL R a (zbl.drop k) E st=r/\PW E base pb iv G wr st/\Fr base w wr/\Fr base wt wr
def zjk(hR:kQ E base pb iv n R)(h0:PW E base pb iv G w mI)(mN:qT E mI)(hn:E.tz.length-mI.next<n):Calls prog 249 #[.pointer (some ⟨pb,0,none⟩)] w (xZ E base pb iv G (Ze R E mI) zmw w):=by
 obtain⟨r,hr⟩:=exE (Ze R E mI);rw[hr];have RU:Ze R E mI=stL R (zw E mI).at_ zbl E mI:=rfl;rw[RU] at hr;clear RU;replace hr:=zh hr;replace mN:=zh mN;replace hR:=zh hR;have F0:=Fr.refl base w;have nK:=mN.q.lim;have pk:=mN.q.le;have mH:=h0.base;have HT:=zh (qL h0);generalize zw E mI=t at *;obtain⟨k1,t1,a1⟩:=t;unfold uu at HT;simp only at hr;go_enter func249,ntmps249;go_wp2_with fail;refine HT.q.mono ?_;rintro e w1 ⟨rfl,mF⟩;have ro:Below w.heap.size w w1:=zg bR mF;have hA:=zf w1 (.cells #[.int .u8 k1,.string ⟨t1.toArray⟩,.int .i64 a1] 66 (0,0));have mY:=zk w1 (.cells #[.int .u8 k1,.string ⟨t1.toArray⟩,.int .i64 a1] 66 (0,0));have mM:=ro.trans (hA.mono ro.size);have h2:=h0.below mM;have F2:=Fr.of_below h0.base mM;have T2:=Fr.refl base (w1.alloc (.cells #[.int .u8 k1,.string ⟨t1.toArray⟩,.int .i64 a1] 66 (0,0)));have mK:zmG E base pb iv G R a1 w _ mI r (.int .i64 0) _:=⟨0,by decide,rfl,hr.q,h2,F2,T2⟩;replace mK:=zh mK;replace mY:=zh mY;clear hr h2 F2 T2;go_wp2;go_loopw [14] (zmG E base pb iv G R a1 w (w1.alloc (.cells #[.int .u8 k1,.string ⟨t1.toArray⟩,.int .i64 a1] 66 (0,0))) mI r) (λi _=>2-(intOf i).toNat)
 case atStart=>exact mK.q
 case round=>
  obtain⟨k,pj,rfl,aj,h5,F5,T5⟩:=hrel;have rm:=mN;obtain rfl|rfl|rfl:k=0\/k=1\/k=2:=by omega
  ·replace hr:=zh (show (do if <-yo [108,101,116] then zdl R a1 60 else stL R a1 (zbl.drop (0+1)):PM (Int×Bool)) E mI=r from aj);have bU:=zm4;simp only[List.toArray] at bU;go_wp2_with fail;refine Xu hr (yC h5 (by omega) [108,101,116]) F5 (Fr.refl _ _) rm ?_;clear hr;intro w6 x6 pm tI h6 f6 F6 n6 rn tG hr;have T6:=T5.trans f6;cases x6 with
   |true=>
    have fM:=yR tI;replace hr:=zh ((if_pos (rfl:true=true)▸hr.q:_));unfold zdl at hr;go_wp2_with fail;refine jC hr (xK h6 (by omega) 1) F6 (Fr.refl _ _) rn (yB (by decide)) ?_;clear hr;intro w7 x7 ta so h7 f7 F7 n7 pa af dJ hr;have dJ:=n7.adv;obtain⟨k7,t7,a7⟩:=x7;simp only at hr ⊢;go_wp2_with fail;refine jC hr (zy h7 (by omega) [61]) F7 (Fr.refl _ _) pa (zq) ?_;clear hr;intro w8 x8 aO su h8 f8 F8 n8 rL tX ct hr;have ct:=n8.adv;have Mu:=((T6.trans f7).trans f8).keep _ _ _ _ mY.q (by decide) (by decide);have hS:∀W,(xg base).rel w8.drew W->W.cell? ⟨w1.heap.size,2,none⟩=some (.int .i64 a1):=λW hF=>zd (hF.keep _ _ _ _ Mu (by decide) (by decide)) 2
    clear Mu;go_wp2_with fail;refine LodeX.xC (RR:=xg base) (Xp:=XP base r w) [(0,0),(1,0),(2,0),(3,0),(4,0),(5,0),(6,1),(7,0),(8,2),(9,2),(10,2),(11,0),(12,0)] ?_;refine LodeX.xt ?_;refine LodeX.callX λK hK=>?_
    go_simp;refine Jk hr (hR.q.expr _ _ _ (h8.below bR.drew) rL.q (by omega)) F8 ((Fr.of_below h8.base bR.drew)) ?_;clear hr;intro w9 x9 bH bX h9 f9 F9 hr;refine⟨f9,hK _ _ ?_⟩;clear hK K;have hS:=λW (hF:(xg base).rel w9 W)=>hS W (Fr.trans f9 hF)
    try simp only[Act.put,yh,yf,yg]
    obtain⟨n9,GD⟩:=hR.q.good.expr rL.q.le rL.q.wf bX;have rF:=rL.q.nx n9 (by decide);have mE:bH.nz.length<=1000000:=by have:=rF.few;have:=rF.le;omega
    refine LodeX.callX λK hK=>?_
    go_simp;refine⟨Fr.of_below h9.base (zf _ _),hK _ _ ?_⟩;clear hK K
    try simp only[Act.put,yh,yf,yg]
    refine LodeX.yH rfl rfl (λK hK W hW=>?_);cases hW;go_simp;refine (zE (h9.below (zf _ _)) 60 t7 0 a1 [x9] _ (KS.lit _ [x9]) (h9.fresh _ _) mE).mono ?_;rintro e nB hp;rcases hp.cases with⟨p,hm,he,hb⟩|⟨rG,rh,rJ,v,rfl,hv,mR,nI⟩
    ·cases hm
    have mi:=(F9.trans (Fr.of_below h9.base (zf _ _))).trans nI;refine⟨nI,hK _ _ ?_⟩;clear hK K;unfold jL at hv;subst hv;have mO:r=.ok (rG,false) rh:=hr.q.symm.trans (yu rJ);subst mO
    try simp only[Act.put,yh,yf,yg]
    refine LodeX.xt ?_;refine LodeX.zF λW hW=>?_
    cases hW;clear hS;go_wp2;refine bodyPost_ret (results_tmp2 rfl _ _ _) rfl ?_;exact⟨⟨_,rfl,rfl⟩,mR,mi⟩
   |false=>
    have mK:pm=mI:=yz tI;subst mK;replace hr:=zh (show stL R a1 (zbl.drop (0+1)) E pm=r from hr.q);go_wp2;go_roundw
    case rel=>exact⟨0+1,by decide,rfl,hr.q,h6,F6,T6⟩
    case measure=>decide
  ·replace hr:=zh (show (do if <-yo [118,97,114] then zdl R a1 61 else stL R a1 (zbl.drop (1+1)):PM (Int×Bool)) E mI=r from aj);have bU:=zm3;simp only[List.toArray] at bU;go_wp2_with fail;refine Xu hr (yC h5 (by omega) [118,97,114]) F5 (Fr.refl _ _) rm ?_;clear hr;intro w6 x6 pm tI h6 f6 F6 n6 rn tG hr;have T6:=T5.trans f6;cases x6 with
   |true=>
    have fM:=yR tI;replace hr:=zh ((if_pos (rfl:true=true)▸hr.q:_));unfold zdl at hr;go_wp2_with fail;refine jC hr (xK h6 (by omega) 1) F6 (Fr.refl _ _) rn (yB (by decide)) ?_;clear hr;intro w7 x7 ta so h7 f7 F7 n7 pa af dJ hr;have dJ:=n7.adv;obtain⟨k7,t7,a7⟩:=x7;simp only at hr ⊢;go_wp2_with fail;refine jC hr (zy h7 (by omega) [61]) F7 (Fr.refl _ _) pa (zq) ?_;clear hr;intro w8 x8 aO su h8 f8 F8 n8 rL tX ct hr;have ct:=n8.adv;have Mu:=((T6.trans f7).trans f8).keep _ _ _ _ mY.q (by decide) (by decide);have hS:∀W,(xg base).rel w8.drew W->W.cell? ⟨w1.heap.size,2,none⟩=some (.int .i64 a1):=λW hF=>zd (hF.keep _ _ _ _ Mu (by decide) (by decide)) 2
    clear Mu;go_wp2_with fail;refine LodeX.xC (RR:=xg base) (Xp:=XP base r w) [(0,0),(1,0),(2,0),(3,0),(4,0),(5,0),(6,1),(7,0),(8,2),(9,2),(10,2),(11,0),(12,0)] ?_;refine LodeX.xt ?_;refine LodeX.callX λK hK=>?_
    go_simp;refine Jk hr (hR.q.expr _ _ _ (h8.below bR.drew) rL.q (by omega)) F8 ((Fr.of_below h8.base bR.drew)) ?_;clear hr;intro w9 x9 bH bX h9 f9 F9 hr;refine⟨f9,hK _ _ ?_⟩;clear hK K;have hS:=λW (hF:(xg base).rel w9 W)=>hS W (Fr.trans f9 hF)
    try simp only[Act.put,yh,yf,yg]
    obtain⟨n9,GD⟩:=hR.q.good.expr rL.q.le rL.q.wf bX;have rF:=rL.q.nx n9 (by decide);have mE:bH.nz.length<=1000000:=by have:=rF.few;have:=rF.le;omega
    refine LodeX.callX λK hK=>?_
    go_simp;refine⟨Fr.of_below h9.base (zf _ _),hK _ _ ?_⟩;clear hK K
    try simp only[Act.put,yh,yf,yg]
    refine LodeX.yH rfl rfl (λK hK W hW=>?_);cases hW;go_simp;refine (zE (h9.below (zf _ _)) 61 t7 0 a1 [x9] _ (KS.lit _ [x9]) (h9.fresh _ _) mE).mono ?_;rintro e nB hp;rcases hp.cases with⟨p,hm,he,hb⟩|⟨rG,rh,rJ,v,rfl,hv,mR,nI⟩
    ·cases hm
    have mi:=(F9.trans (Fr.of_below h9.base (zf _ _))).trans nI;refine⟨nI,hK _ _ ?_⟩;clear hK K;unfold jL at hv;subst hv;have mO:r=.ok (rG,false) rh:=hr.q.symm.trans (yu rJ);subst mO
    try simp only[Act.put,yh,yf,yg]
    refine LodeX.xt ?_;refine LodeX.zF λW hW=>?_
    cases hW;clear hS;go_wp2;refine bodyPost_ret (results_tmp2 rfl _ _ _) rfl ?_;exact⟨⟨_,rfl,rfl⟩,mR,mi⟩
   |false=>
    have mK:pm=mI:=yz tI;subst mK;replace hr:=zh (show stL R a1 (zbl.drop (1+1)) E pm=r from hr.q);go_wp2;go_roundw
    case rel=>exact⟨1+1,by decide,rfl,hr.q,h6,F6,T6⟩
    case measure=>decide
  ·replace hr:=zh (show zeX R E mI=r from aj);unfold zeX at hr;go_wp2_with fail;refine QX hr (hR.q.expr _ _ _ h5 rm.q hn) F5 (Fr.refl _ _) rm (hR.q.good.expr) ?_;clear hr;intro w6 x6 pm tI h6 f6 F6 n6 Sh rn tG fM hr;go_wp2_with fail;refine (kB h6 [58,61]).mono ?_;rintro e w7 ⟨rfl,rC⟩;have rC:=zg (zf w6 _) rC;have h7:=h6.below rC;have F7:=F6.trans (Fr.of_below h6.base rC);have pa:=rn;cases hk:xO (zw E pm) [[58,61]] with
   |false=>
    have Bj:qK.ok (x6,true) pm=r:=(kL hk).symm.trans hr.q;subst Bj;go_wp2;refine bodyPost_ret (results_tmp2 rfl _ _ _) rfl ?_;exact⟨⟨_,rfl,rfl⟩,h7,F7⟩
   |true=>
    replace hr:=zh ((ul hk).symm.trans hr.q);obtain⟨j,rfl⟩:∃j:Nat,x6=j:=⟨x6.toNat,by have:=Sh.1;omega⟩;have hj:(j:Int)<(pm.nz.length:Int):=by have:=Sh.2;omega
    have th:¬((j:Int)<0):=by omega
    obtain⟨nd,Eb⟩:∃nd,pm.nz[j]? =some nd:=⟨_,glE (by omega)⟩;obtain⟨g,off,cap,c0,ck⟩:=h7.kind_at Eb;replace hr:=zh ((yu (a:=nd.kind) (s':=pm) (by unfold zdQ;simp[Eb])).symm.trans hr.q);clear Eb;generalize nd.kind=kk at hr ck;obtain⟨m,hm⟩:=exE (pm.nz.length);rw[hm] at c0 hj;have Hm:=zh hm;clear hm;by_cases dV:kk=5\/kk=23
    ·have dU:(kk == 5 || kk == 23)=true:=by simpa using dV
     replace hr:=zh (show (do let u <-Zd;let x <-R.expr;let r <-zT 62 [] 0 u.at_ [(j:Int),x];pure (r,false):PM (Int×Bool)) E pm=r from by
      have:=hr.q;rw[if_pos dU] at this;exact this)
     have b1:((kk:Int) != 5 && (kk:Int) != 23)=false:=by rcases dV with rfl|rfl <;> rfl
     clear dU;rcases dV with rfl|rfl
     ·go_wp2_with fail;refine pgo hr (uh h7 (by omega)) F7 (Fr.refl _ _) ?_;clear hr;intro w8 x8 aO v hv su h8 f8 F8 hr;have n8:=vU (uB hk) pa.q.wf su;have rL:=zh (pa.q.nx n8 (by decide));unfold vF uu at hv;subst hv;obtain⟨k8,t8,a8⟩:=x8;simp only at hr ⊢;have tX:=rL.q.le;have ct:=n8.adv;go_wp2_with fail;refine QX hr (hR.q.expr _ _ _ h8 rL.q (by omega)) F8 (Fr.refl _ _) rL (hR.q.good.expr) ?_;clear hr;intro w9 x9 bH bX h9 f9 F9 n9 GD rF eU NM hr;have mE:bH.nz.length<=1000000:=by have:=rF.q.few;have:=rF.q.le;omega
      go_wp2_with fail;refine (zE (h9.below (zf _ _)) 62 [] 0 a8 [(j:Int),x9] _ (KS.lit _ [(j:Int),x9]) (h9.fresh _ _) mE).mono ?_;rintro e nB hp;rcases hp.cases with⟨p,hm,he,hb⟩|⟨rG,rh,rJ,v,rfl,hv,mR,nI⟩
      ·cases hm
      have mi:=(F9.trans (Fr.of_below h9.base (zf _ _))).trans nI;unfold jL at hv;subst hv;have mO:r=.ok (rG,false) rh:=hr.q.symm.trans (yu rJ);subst mO;go_wp2;refine bodyPost_ret (results_tmp2 rfl _ _ _) rfl ?_;exact⟨⟨_,rfl,rfl⟩,mR,mi⟩
     ·go_wp2_with fail;refine pgo hr (uh h7 (by omega)) F7 (Fr.refl _ _) ?_;clear hr;intro w8 x8 aO v hv su h8 f8 F8 hr;have n8:=vU (uB hk) pa.q.wf su;have rL:=zh (pa.q.nx n8 (by decide));unfold vF uu at hv;subst hv;obtain⟨k8,t8,a8⟩:=x8;simp only at hr ⊢;have tX:=rL.q.le;have ct:=n8.adv;go_wp2_with fail;refine QX hr (hR.q.expr _ _ _ h8 rL.q (by omega)) F8 (Fr.refl _ _) rL (hR.q.good.expr) ?_;clear hr;intro w9 x9 bH bX h9 f9 F9 n9 GD rF eU NM hr;have mE:bH.nz.length<=1000000:=by have:=rF.q.few;have:=rF.q.le;omega
      go_wp2_with fail;refine (zE (h9.below (zf _ _)) 62 [] 0 a8 [(j:Int),x9] _ (KS.lit _ [(j:Int),x9]) (h9.fresh _ _) mE).mono ?_;rintro e nB hp;rcases hp.cases with⟨p,hm,he,hb⟩|⟨rG,rh,rJ,v,rfl,hv,mR,nI⟩
      ·cases hm
      have mi:=(F9.trans (Fr.of_below h9.base (zf _ _))).trans nI;unfold jL at hv;subst hv;have mO:r=.ok (rG,false) rh:=hr.q.symm.trans (yu rJ);subst mO;go_wp2;refine bodyPost_ret (results_tmp2 rfl _ _ _) rfl ?_;exact⟨⟨_,rfl,rfl⟩,mR,mi⟩
    ·have dU:(kk == 5 || kk == 23)=false:=by simpa using dV
     have hr8:qK.bad (zw E pm).at_=r:=by
      have:=hr.q;rw[if_neg (by rw[dU];decide)] at this;exact this
     have b5:((kk:Int) == 5)=false:=bfE (by omega)
     have b6:((kk:Int) != 5)=true:=by rw[wV];omega
     have b7:((kk:Int) == 23)=false:=bfE (by omega)
     have b8:((kk:Int) != 23)=true:=by rw[wV];omega
     subst hr8;clear dV dU;go_wp2_with fail;refine (zag h7).mono ?_;rintro e w8 ⟨rfl,sK⟩;unfold Pan;go_wp2_with fail;exact⟨rfl,rfl,(F7.trans (Fr.of_below h7.base sK)).b⟩
end
section
open Go.RowKit Lode Go.Shelf
attribute [local go_sem ↓] wp_at_zero wp_at_succ
open Go.Proofs.Tryz
theorem zex:∀(l:List Obj) (w:World),(l.foldl World.alloc w).heap.size=w.heap.size+l.length
 |[],_=>rfl
 |o :: l,w=>by
  show (l.foldl World.alloc (w.alloc o)).heap.size=_
  rw[zex l (w.alloc o)];simp;omega
theorem yw:∀(l:List Obj) (w:World),Below w.heap.size w (l.foldl World.alloc w)
 |[],_=>pG _ _
 |o :: l,w=>zg (zf w o) (yw l (w.alloc o))
theorem zV:∀(l:List Obj) (w:World) (i:Nat) (o:Obj),l[i]? =some o->(l.foldl World.alloc w).heap[w.heap.size+i]? =some o
 |[],_,_,_,h=>by simp at h
 |a :: l,w,0,_,h=>by
  cases h;exact zi (yw l (w.alloc a)) (zk w a)
 |a :: l,w,i+1,o,h=>by
  have:=zV l (w.alloc a) i o (by simpa using h);rw[World.size_alloc] at this;rw[show w.heap.size+(i+1)=w.heap.size+1+i by omega];exact this
def LvB(w:World)(B:Nat):Prop:=∀L,L<5->w.heap[B+2*L]? =some (.cells ((yD L).map λx=>Value.string ⟨x.toArray⟩).toArray 9 (0,0))/\w.heap[B+2*L+1]? =some (.cells ((qv L).map λ(k:Nat)=>Value.int .u8 k).toArray 5 (0,0))
def LvB.below(h:LvB w B)(hb:Below w.heap.size w w'):LvB w' B:=λL hL=>⟨zi hb (h L hL).1,zi hb (h L hL).2⟩
def LvB.fr(h:LvB w B)(hb:Fr base w w'):LvB w' B:=λL hL=>⟨hb.keep _ _ _ _ (h L hL).1 (by decide) (by decide),hb.keep _ _ _ _ (h L hL).2 (by decide) (by decide)⟩
abbrev jU(B n:Nat):Value:=.slice (some ⟨B,0,none⟩) n n
def lvV(B:Nat):Value:=.agg #[jU B 1,jU (B+1) 1,jU (B+2) 1,jU (B+3) 1,jU (B+4) 7,jU (B+5) 7,jU (B+6) 3,jU (B+7) 3,jU (B+8) 3,jU (B+9) 3]
def uA:List Obj:=[.cells ((yD 0).map λx=>Value.string ⟨x.toArray⟩).toArray 9 (0,0),.cells ((qv 0).map λ(k:Nat)=>Value.int .u8 k).toArray 5 (0,0),.cells ((yD 1).map λx=>Value.string ⟨x.toArray⟩).toArray 9 (0,0),.cells ((qv 1).map λ(k:Nat)=>Value.int .u8 k).toArray 5 (0,0),.cells ((yD 2).map λx=>Value.string ⟨x.toArray⟩).toArray 9 (0,0),.cells ((qv 2).map λ(k:Nat)=>Value.int .u8 k).toArray 5 (0,0),.cells ((yD 3).map λx=>Value.string ⟨x.toArray⟩).toArray 9 (0,0),.cells ((qv 3).map λ(k:Nat)=>Value.int .u8 k).toArray 5 (0,0),.cells ((yD 4).map λx=>Value.string ⟨x.toArray⟩).toArray 9 (0,0),.cells ((qv 4).map λ(k:Nat)=>Value.int .u8 k).toArray 5 (0,0)]
def LvB.of:LvB (uA.foldl World.alloc w) w.heap.size:=λL hL=>by
 obtain rfl|rfl|rfl|rfl|rfl:L=0\/L=1\/L=2\/L=3\/L=4:=by omega
 ·exact⟨zV uA w 0 _ rfl,zV uA w 1 _ rfl⟩
 ·exact⟨zV uA w 2 _ rfl,zV uA w 3 _ rfl⟩
 ·exact⟨zV uA w 4 _ rfl,zV uA w 5 _ rfl⟩
 ·exact⟨zV uA w 6 _ rfl,zV uA w 7 _ rfl⟩
 ·exact⟨zV uA w 8 _ rfl,zV uA w 9 _ rfl⟩
def Yn(w:World):Calls prog 158 #[] w λe w'=>e=.returned (lvV (w.heap.size+1))/\LvB w' (w.heap.size+1)/\Below w.heap.size w w':=by
 go_enter func158,ntmps158;go_wp2_with fail;generalize hW:World.alloc _ _=W;obtain⟨O,hO⟩:∃O:Obj,.cells #[jU (w.heap.size+1) 1,jU (w.heap.size+2) 1,jU (w.heap.size+3) 1,jU (w.heap.size+4) 1,jU (w.heap.size+5) 7,jU (w.heap.size+6) 7,jU (w.heap.size+7) 3,jU (w.heap.size+8) 3,jU (w.heap.size+9) 3,jU (w.heap.size+10) 3] 170 (0,0)=O:=⟨_,rfl⟩;have bM:uA.foldl World.alloc (w.alloc O)=W:=by
  rw[<-hO];exact hW
 clear hW;have hz:W.heap[w.heap.size]? =some O:=by
  rw[<-bM];exact zi (yw _ _) (zk w O)
 rw[<-hO] at hz;refine bodyPost_ret (v:=lvV (w.heap.size+1)) (by simp[results,results158,go_sem,lvV,zd hz]) rfl ?_;have hl:=LvB.of (w:=w.alloc O);rw[bM,World.size_alloc] at hl;refine⟨rfl,hl,?_⟩;rw[<-bM];exact zg (zf w O) (yw _ _)
end
section
open Go.RowKit Lode Go.Shelf
open Go.Proofs.Tryz
def za4{ys:List Value}(mG:w.ownsRow base 3 1 (.slice (some ⟨g,0,none⟩) n cap) n xs)(c2:Nat)(nF:∀j x,ys[j]? =some x->w.cell? (ad.add j)=some x)(sa:∀x∈ys,x.oneCell'=true)(hn:n+ys.length<=1000000)(mH:base<=w.heap.size)(ty:TypeId):
 ∃g' cap' w',(Builtin.append_ #[24,24] ty #[.slice (some ⟨g,0,none⟩) n cap,.slice (some ad) ys.length c2]).run prog w=.ok (.slice (some ⟨g',0,none⟩) (n+ys.length) cap') w'/\w'.ownsRow base 3 1 (.slice (some ⟨g',0,none⟩) (n+ys.length) cap') (n+ys.length) (xs ++ ys)/\w.grownBy w' (some g)/\(g'=g\/g'=w.heap.size):=by
 obtain⟨i0,hi,pe,mY,mT⟩:=info_parts Tryz.infoIntP;obtain⟨v',w',hr,h2,h3,_⟩:=run_append_own (P:=prog) w base 24 ty 3 i0 _ 1 8 underlying24 hi pe mY mT rfl (by decide) _ n xs mG ad ys.length c2 ys (by simp) nF sa (by unfold maxLen;omega) (by omega) mH;have key:∃g' cap',v'=.slice (some ⟨g',0,none⟩) (n+ys.length) cap'/\(g'=g\/g'=w.heap.size):=by
  rcases id mG.2 with⟨h,_⟩|⟨g2,cap2,cur,h,_,hg,Ni,SJ,ae,cd⟩
  ·simp at h
  ·simp only[Value.slice.injEq,wO,Addr.mk.injEq,and_true,true_and] at h;obtain⟨rfl,rfl⟩:=h;by_cases aK:n+ys.length<=cap
   ·have mO:=run_append_room (P:=prog) w 24 ty 3 i0 underlying24 hi g n cap cur hg ad ys.length c2 ys (by rw[mY];simp) nF sa aK (by rw[mY,ae];simp;omega);rw[hr] at mO;simp only[Result.ok.injEq] at mO;exact⟨g,cap,mO.1,.inl rfl⟩
   ·have mO:=run_append_grow (P:=prog) w 24 ty 3 i0 _ underlying24 hi pe ⟨g,0,none⟩ n cap xs (by rw[mY];exact mG.1) (mG.cells (g:=g) rfl) ad ys.length c2 ys (by rw[mY];simp) nF (by omega) (by omega) (growslice_fits (by omega) (by rw[mT];omega));rw[hr] at mO;simp only[Result.ok.injEq] at mO;exact⟨_,_,mO.1,.inr rfl⟩
 obtain⟨g',cap',rfl,mJ⟩:=key;exact⟨g',cap',w',hr,h2,h3,mJ⟩
def zdR(h:w.ownsRow b 3 1 u ys.length (yl ys))(mu:ys≠[]):∃g c2,u=.slice (some ⟨g,0,none⟩) (yl ys).length c2/\∀j x,(yl ys)[j]? =some x->w.cell? ((⟨g,0,none⟩:Addr).add j)=some x:=by
 rcases id h.2 with⟨_,h0⟩|⟨g,cap,cur,hv,_⟩
 ·exact absurd (pT h0) mu
 ·subst hv;exact⟨g,cap,by simp,λj x hj=>h.cells (g:=g) rfl j x hj⟩
def zef(ys:List Int):∀x∈yl ys,x.oneCell'=true:=λx hx=>by
 obtain⟨z,_,rfl⟩:=List.mem_map.1 hx;rfl
def zc1{a:Act}(NR:o.guard=none)(s x:Operand)(ho:o.op=.call {callee:=.builtin .append,args:= #[s,x],argTypes:= #[24,24]})(hs:a.eval s=.slice (some ⟨g,0,none⟩) n cap)(mG:w.ownsRow base 3 1 (.slice (some ⟨g,0,none⟩) n cap) n xs)(hx:a.eval x=u)(hu:w.ownsRow b2 3 1 u ys.length (yl ys))(mu:ys≠[])(hn:n+ys.length<=1000000)(mH:base<=w.heap.size)(h:∀g' cap' w',w'.ownsRow base 3 1 (.slice (some ⟨g',0,none⟩) (n+ys.length) cap') (n+ys.length) (xs ++ yl ys)->w.grownBy w' (some g)->(g'=g\/g'=w.heap.size)->wpList prog ops Q rest (a.put o.dst (.slice (some ⟨g',0,none⟩) (n+ys.length) cap')) w'):wpList prog ops Q (o :: rest) a w:=by
 refine wpList_plain NR λK hK=>?_
 obtain⟨g2,c2,rfl,nF⟩:=zdR hu mu;have hl:(yl ys).length=ys.length:=by simp
 obtain⟨g',cap',w',hr,h2,h3,h4⟩:=za4 mG c2 nF (zef ys) (by rw[hl];exact hn) mH o.type;rw[hl] at hr h2;rw[hl] at hx;unfold Oper.wp;simp[execOp,ho,resolve,invoke,builtin,hs,hx,hr,Result.andThen];exact hK _ _ (h g' cap' w' h2 h3 h4)
def zbv{cap':Nat}(h1:PW E base pb iv H w1 st)(hv:∀g,v.ownBlock=some g->H g)(hGH:∀g,G g->H g)(mG:w1.ownsRow B 3 1 v acc.length (yl acc))(hB:base<=B)(Pv:∀g,iv.ownBlock=some g->g<B)(mC:w2.ownsRow B 3 1 (.slice (some ⟨g',0,none⟩) (acc.length+ys.length) cap') (acc.length+ys.length) (yl acc ++ yl ys))(mA:w1.grownBy w2 v.ownBlock)(mJ:v.ownBlock=some g'\/g'=w1.heap.size):
 ∃v2,Value.slice (some ⟨g',0,none⟩) (acc.length+ys.length) cap'=v2/\w2.ownsRow B 3 1 v2 (acc ++ ys).length (yl (acc ++ ys))/\PW E base pb iv (Gw G v2) w2 st/\w1.heap.size<=w2.heap.size/\∀w,Fr base w w1->w.heap.size<=B->base<=w.heap.size->Fr base w w2:=by
 have nH:w2.ownsRow B 3 1 (.slice (some ⟨g',0,none⟩) (acc.length+ys.length) cap') (acc ++ ys).length (yl (acc ++ ys)):=by
  rw[pE];simp only[yl,List.map_append];exact mC
 refine⟨_,rfl,nH,h1.append mG hB hv (λg hg e=>?_) mA mJ (nH.lt g' rfl).2 (λg hg=>?_),mA.size,λw F hw hb=>F.grow_new mA hb (λk hk=>pN hw (mG.lt k hk).1)⟩
 ·have a:=(mG.lt g hg).1;have b:=Pv g e;omega
 ·rcases hg with hg|hg
  ·exact .inl (hGH g hg)
  ·exact .inr (Option.some.inj hg).symm
theorem zd1{part:PM Int}:∀(n:Nat) (acc:List Int) {E:zr} {s:yx} {a:List Int} {s':yx},jI n part acc E s=.ok a s'->a≠[]
 |0,_,_,_,_,_,h=>by cases h
 |n+1,acc,E,s,a,s',h=>by
  unfold jI at h;obtain⟨x,s1,h1,h⟩:=zo h;obtain⟨b,s2,h2,h⟩:=zo h;cases b with
  |true=>exact zd1 n (acc ++ [x]) h
  |false=>
   obtain⟨rfl,rfl⟩:=zK h;simp
def zg6(h:jW part E s=.ok a s'):a≠[]:=zd1 _ _ h
def ziK(h:qB part E s=.ok a s'):a≠[]:=by
 unfold qB at h;obtain⟨_,s1,_,h⟩:=zo h;obtain⟨l,s2,h2,h⟩:=zo h;obtain⟨_,s3,_,h⟩:=zo h;obtain⟨rfl,rfl⟩:=zK h;exact zg6 h2
end
section
open Go.RowKit Lode Go.Shelf
attribute [local go_sem ↓] wp_at_zero wp_at_succ
attribute [local go_sem] Vj zmY Vi
open Go.Proofs.Tryz
def zmE(E:zr)(base pb n:Nat)(iv:Value)(G:Nat->Prop)(R:qi)(w:World)(r:qK Int)(v:Value)(wr:World):Prop:=∃st k left,v=.int .i64 left/\Zf R k left E st=r/\E.tz.length-st.next<k/\E.tz.length-st.next<n/\Vd st left/\qT E st/\PW E base pb iv G wr st/\Fr base w wr
def zhK(hR:kQ E base pb iv n R)(hA:PCn E base pb iv (n+1) 278 (Zi R)):PCn E base pb iv (n+1) 263 (vO R):=by
 intro G w mI h0 mN hn;have nJ:=zh (enters_of (P:=prog) func198 (by kernel_rfl) rfl);have gA:Hid (Gd 0 Vd (Zi R)):=zh (λh0 hw h=>zcO hR.good h0 hw h);replace hA:=zh hA;obtain⟨r,hr⟩:=exE (vO R E mI);rw[hr];unfold vO at hr;replace hr:=zh hr;replace mN:=zh mN;replace hR:=zh hR;have F0:=Fr.refl base w;have nK:=mN.q.lim;have pk:=mN.q.le;have rj:=h0.glt;have mH:=h0.base;have ma:=zh (λg=>h0.ivlt (g:=g));go_enter func263,ntmps263;go_wp2_with fail;refine (kB h0 [45]).mono ?_;rintro e w1 ⟨rfl,mF⟩;have mF:=zg (zf w _) mF;have h1:=h0.below mF;have F1:=F0.trans (Fr.of_below h0.base mF);have nM:=mN;have bh:=mF.size;cases hk:xO (zw E mI) [[45]] with
 |true=>
  replace hr:=zh ((ul hk).symm.trans hr.q);go_wp2_with fail;refine pgo hr (uh h1 (by omega)) F1 (Fr.refl _ _) ?_;clear hr;intro w2 x2 cD v hv ay h2 f2 F2 hr;have n2:=vU (uB hk) mN.q.wf ay;have nT:=zh (nM.q.nx n2 (by decide));unfold vF uu at hv;subst hv;obtain⟨k2,t2,a2⟩:=x2;simp only at hr ⊢;have hz:=zk w2 (.cells #[.int .u8 k2,.string ⟨t2.toArray⟩,.int .i64 a2] 66 (0,0));have h3:=h2.below (zf w2 (.cells #[.int .u8 k2,.string ⟨t2.toArray⟩,.int .i64 a2] 66 (0,0)));have F3:=F2.trans (Fr.of_below h2.base (zf w2 (.cells #[.int .u8 k2,.string ⟨t2.toArray⟩,.int .i64 a2] 66 (0,0))));go_wp2_with fail;generalize w2.alloc (.cells #[.int .u8 k2,.string ⟨t2.toArray⟩,.int .i64 a2] 66 (0,0))=w3 at *;have hS:∀W,(xg base).rel w3.drew W->W.cell? ⟨w2.heap.size,2,none⟩=some (.int .i64 a2):=λW hF=>zd (hF.keep _ _ _ _ hz (by decide) (by decide)) 2
  clear hz;have tf:=n2.adv;have sV:=nT.q.le;refine LodeX.xC (RR:=xg base) (Xp:=XP base r w) [(0,0),(1,0),(2,1),(3,0),(4,2),(5,2),(6,2),(7,0)] ?_;refine LodeX.xt ?_;refine LodeX.callX λK hK=>?_
  go_simp;refine Jk hr (hR.q.unary _ _ _ (h3.below bR.drew) nT.q (by omega)) F3 ((Fr.of_below h3.base bR.drew)) ?_;clear hr;intro w7 x7 ta so h7 f7 F7 hr;refine⟨f7,hK _ _ ?_⟩;clear hK K;have hS:=λW (hF:(xg base).rel w7 W)=>hS W (Fr.trans f7 hF)
  try simp only[Act.put,yh,yf,yg]
  obtain⟨n7,Ro⟩:=hR.q.good.unary nT.q.le nT.q.wf so;have pa:=nT.q.nx n7 (by decide);have mE:ta.nz.length<=1000000:=by have:=pa.few;have:=pa.le;omega
  refine LodeX.callX λK hK=>?_
  go_simp;refine⟨Fr.of_below h7.base (zf _ _),hK _ _ ?_⟩;clear hK K
  try simp only[Act.put,yh,yf,yg]
  refine LodeX.callX λK hK=>?_
  go_simp;refine zX hr (zE (h7.below (zf _ _)) 6 [] 0 a2 [x7] _ (KS.lit _ [x7]) (h7.fresh _ _) mE) F7 (Fr.of_below h7.base (zf _ _)) ?_;rintro w8 x8 aO su rfl h8 f8 F8;refine⟨f8,hK _ _ ?_⟩;clear hK K
  try simp only[Act.put,yh,yf,yg]
  refine LodeX.xt ?_;refine LodeX.zF λW hW=>?_
  cases hW;clear hS;go_wp2;go_ret;exact⟨⟨_,rfl,rfl⟩,h8,F8⟩
 |false=>
  replace hr:=zh ((kL hk).symm.trans hr.q);go_wp2_with fail;refine QX hr (hA.q _ _ _ h1 nM.q hn) F1 (Fr.refl _ _) nM (gA.q) ?_;clear hr;intro w2 x2 cD ay h2 f2 F2 n2 CG nT sV tf hr;have mK:zmE E base pb (n+1) iv G R w r (.int .i64 x2) w2:=⟨cD,_,x2,rfl,hr.q,by omega,by omega,CG,nT.q,h2,F2⟩;replace mK:=zh mK;clear hr hk h1 mF F1 bh h2 F2 f2 ay;go_wp2;go_loopw [4] (λv wr=>zmE E base pb (n+1) iv G R w r v wr) (λ_ wr=>E.tz.length+1-xw pb wr)
  case atStart=>exact mK.q
  case round=>
   obtain⟨st3,k,left,rfl,hr,hk,bC,RZ,mZ,h3,F3⟩:=hrel;obtain⟨k,rfl⟩:∃m,k=m+1:=⟨k-1,by omega⟩;unfold Zf at hr;have rD:=mZ.le;replace mZ:=zh mZ;replace hr:=zh ((yu (show YU E st3=.ok (zw E st3) st3 from rfl)).symm.trans hr);have HT:=zh (qL h3);generalize zw E st3=t at HT hr;obtain⟨k1,t1,a1⟩:=t;unfold uu at HT;go_wp2_with fail;refine HT.q.mono ?_;rintro e w4 ⟨rfl,mQ⟩;have mQ:=zg bR mQ;have h4:=h3.below mQ;have F4:=F3.trans (Fr.of_below h3.base mQ);have rl:=mZ;clear HT;go_wp2_with fail;refine Xu hr (yC (h4.below (zf _ _)) (by omega) [46]) F4 (Fr.of_below h4.base (zf _ _)) rl ?_;clear hr;intro w5 x5 ry bA h5 f5 F5 n5 rm dX hr;cases x5 with
   |true=>
    have Pf:=yR bA;replace hr:=zh ((if_pos (rfl:true=true)▸hr.q:_));go_wp2_with fail;refine jC hr (xK h5 (by omega) 1) F5 (Fr.refl _ _) rm (yB (by decide)) ?_;clear hr;intro w6 x6 pm tI h6 f6 F6 n6 rn tG fM hr;have fM:=n6.adv;obtain⟨k6,t6,a6⟩:=x6;simp only at hr ⊢;have cz:=zd ((f5.trans f6).keep _ _ _ _ (zk w4 _) (by decide) (by decide)) 2;have mE:pm.nz.length<=1000000:=by have:=rn.q.few;omega
    go_wp2_with fail;refine (zE (h6.below (zf _ _)) 23 t6 0 a1 [left] _ (KS.lit _ [left]) (h6.fresh _ _) mE).mono ?_;rintro e w7 hp;rcases hp.cases with⟨p,hm,he,hb⟩|⟨x7,ta,so,v,rfl,hv,h7,f7⟩
    ·cases hm
    replace hr:=zh ((yu so).symm.trans hr.q);have F7:=(F6.trans (Fr.of_below h6.base (zf _ _))).trans f7;unfold jL at hv;subst hv;obtain⟨n7,Ro⟩:=zQ rn.q.le rn.q.wf (XE ((RZ.later n5).later n6)) so;have N7:=(n5.trans n6).trans n7;have pa:=mZ.q.nx N7 (by decide);have hn7:=N7.le;have hn76:=n7.next;go_wp2;go_roundw
    case rel=>exact⟨ta,k,x7,rfl,hr.q,by omega,by omega,Ro,pa,h7,F7⟩
    case measure=>
     rw[h7.xw,h3.xw];omega
   |false=>
    have Nh:ry.next=st3.next:=by rw[yz bA]
    have aj:=hr.q;rw[if_neg (by decide)] at aj;replace hr:=zh aj;clear aj;go_wp2_with fail;refine Xu hr (yC h5 (by omega) [40]) F5 (Fr.refl _ _) rm ?_;clear hr;intro w6 x6 pm tI h6 f6 F6 n6 rn tG hr;cases x6 with
    |false=>
     have bg:qK.ok left pm=r:=by
      have:=hr.q;rw[if_neg (by decide)] at this;exact this
     subst bg;go_wp2;go_ret;exact⟨⟨_,rfl,rfl⟩,h6,F6⟩
    |true=>
     have fM:=yR tI;replace hr:=zh ((if_pos (rfl:true=true)▸hr.q:_));have hg:=h6.glit (.cells #[.int .i64 left] 3 (0,0)) 1 1;have T6:=f5.trans f6;have FG:=T6.b.size;have hs6:=F6.b.size;have HS:=kB hg [41];rw[show (w6.alloc (.cells #[.int .i64 left] 3 (0,0))).heap.size=w6.heap.size+1 by simp] at HS;replace HS:=zh HS;go_wp2_with fail;refine HS.q.mono ?_;rintro e w7 ⟨rfl,rC⟩;have rC:=zg (zf (w6.alloc (.cells #[.int .i64 left] 3 (0,0))) _) rC;have h7:=hg.below rC;have f7:=(Fr.of_below h6.base (zf w6 (.cells #[.int .i64 left] 3 (0,0)))).trans (Fr.of_below hg.base rC);have F7:=F6.trans f7;have T7:=T6.trans f7;have o7:w7.ownsRow w6.heap.size 3 1 (.slice (some ⟨w6.heap.size,0,none⟩) 1 1) 1 (yl [left]):=zm (QL w6 left rfl) rC;replace o7:=zh o7;have hs7:w6.heap.size<=w7.heap.size:=by have:=rC.size;simp at this;omega
     have pa:=rn;have Dk:=h6.base;cases WS:xO (zw E pm) [[41]] with
     |true=>
      replace hr:=zh ((yu (VT WS rfl)).symm.trans hr.q);go_wp2_with fail;refine jC hr (zy h7 (by omega) [41]) F7 (Fr.refl _ _) pa (zq) ?_;clear hr;intro w9 x9 bH bX h9 f9 F9 n9 rF eU NM hr;have NM:=n9.adv;have cz:=zd ((T7.trans f9).keep _ _ _ _ (zk w4 _) (by decide) (by decide)) 2;have mE:bH.nz.length<=1000000:=by have:=rF.q.few;omega
      have o9:w9.ownsRow w6.heap.size 3 1 (.slice (some ⟨w6.heap.size,0,none⟩) 1 1) [left].length (yl [left]):=zP o7.q f9 (by decide) (by decide);replace o9:=zh o9;have FJ:=((RZ.later n5).later n6).later n9;have nz:=λ{E':zr} (st:yx) (x:Int) (h:E'=E) (hm:zT 24 [] 0 a1 [left] E bH=.ok x st)=>zQ rF.q.le rF.q.wf (XE FJ) hm
      go_wp2_with fail;refine (zE (h9.ungw.below bR) 24 [] 0 a1 [left] _ (KS.own o9.q) (yM o9.q (λg hg=>by have:=rj g hg;omega)) mE).mono ?_;rintro e wz hp;rcases hp.cases with⟨p,hm,he,hb⟩|⟨xz,stz,Wn,v,rfl,hv,hz,fz⟩
      ·cases hm
      replace hr:=zh ((yu Wn).symm.trans hr.q);have Fz:=F9.trans fz;unfold jL at hv;subst hv;have nz:=nz stz xz (E':=E) rfl Wn;have Nz:=((n5.trans n6).trans n9).trans nz.1;have Fv:=mZ.q.nx Nz (by decide);have eV:=Nz.le;have Ef:=nz.1.next;go_wp2;go_roundw
      case rel=>exact⟨stz,k,xz,rfl,hr.q,by omega,by omega,nz.2,Fv,hz,Fz⟩
      case measure=>
       rw[hz.xw,h3.xw];omega
     |false=>
      replace hr:=zh ((uR (JG WS)).symm.trans hr.q);go_wp2_with fail;refine lgo hr (YY hR.q.expr hR.q.good.expr nJ.q h7 pa.q (by omega)) F7 (Fr.refl _ _) ?_;clear hr;intro w8 x8 aO v8 l8 o8 su h8 f8 F8 hr;obtain⟨n8,vl8⟩:=jg hR.q.good.expr pa.q.le pa.q.wf su;have rL:=zh (pa.q.nx n8 (by decide));have tX:=rL.q.le;have Ed:=zg6 su;have T8:=T7.trans f8;have p8:w8.ownsRow w6.heap.size 3 1 (.slice (some ⟨w6.heap.size,0,none⟩) 1 1) 1 (yl [left]):=zP o7.q f8 (by decide) (by decide);have hs8:w6.heap.size<=w8.heap.size:=by have:=f8.b.size;omega
      go_wp2_with (at_builtin;refine zc1 rfl _ _ rfl rfl p8 rfl o8 Ed (by omega) (by omega) ?_);intro g' cap' w9 mC mA mJ;obtain⟨v9,e9,o9,h9,gs9,CM⟩:=zbv (G:=G) (acc:=[left]) h8 (λg hg=>.inl (.inr hg)) (λg hg=>.inl (.inl hg)) p8 (by omega) (λg hg=>by have:=ma.q g hg;omega) mC mA (mJ.imp (λh=>by rw[h];rfl) id);have Gc:Value.slice (some ⟨g',0,none⟩) (1+x8.length) cap'=v9:=e9;rw[Gc];have F9:=CM w F8 hs6 mH;have T9:=CM _ T8 FG (by have:=h4.base;simp;omega);replace o9:=zh o9;have rF:=rL;clear mC mA mJ e9 Gc CM p8;go_wp2_with fail;refine jC hr (zy h9 (by omega) [41]) F9 (Fr.refl _ _) rF (zq) ?_;clear hr;intro nB rG rh rJ mR nI mi tj pw dy eN hr;have eN:=tj.adv;have ct:=n8.next;have cz:=zd ((T9.trans nI).keep _ _ _ _ (zk w4 _) (by decide) (by decide)) 2;have mE:rh.nz.length<=1000000:=by have:=pw.q.few;omega
      have eE:=zh (zP o9.q nI (by decide) (by decide));have AM:=(((RZ.later n5).later n6).later n8).later tj;have GE:=vl8.later tj;go_wp2_with fail;refine (zE (mR.ungw.below bR) 24 [] 0 a1 ([left] ++ x8) _ (KS.own eE.q) (yM eE.q (λg hg=>by have:=rj g hg;omega)) mE).mono ?_;rintro e wz hp;rcases hp.cases with⟨p,hm,he,hb⟩|⟨xz,stz,Wn,v,rfl,hv,hz,fz⟩
      ·cases hm
      replace hr:=zh ((yu Wn).symm.trans hr.q);have Fz:=mi.trans fz;unfold jL at hv;subst hv;have nz:=zQ pw.q.le pw.q.wf (KH AM GE) Wn;have Nz:=(((n5.trans n6).trans n8).trans tj).trans nz.1;have Fv:=mZ.q.nx Nz (by decide);have eV:=Nz.le;have Ef:=nz.1.next;go_wp2;go_roundw
      case rel=>exact⟨stz,k,xz,rfl,hr.q,by omega,by omega,nz.2,Fv,hz,Fz⟩
      case measure=>
       rw[hz.xw,h3.xw];omega
end
section
open Go.RowKit Lode Go.Shelf
attribute [local go_sem ↓] wp_at_zero wp_at_succ
open Go.Proofs.Tryz
def Ve(sp:List UInt8)(k:Nat)(m:Int):Value:=.agg #[.string ⟨sp.toArray⟩,.int .u8 k,.int .i64 m]
def zhI(t:yO)(sp:List UInt8)(wk:Nat)(h0:PW E base pb iv G w mI)(mN:qT E mI):Calls prog 291 #[.pointer (some ⟨pb,0,none⟩),uu t,Ve sp wk 0] w (xZ E base pb iv G (vn R t (wk,0) E mI) jL w):=by
 obtain⟨r,hr⟩:=exE (vn R t (wk,0) E mI);rw[hr];replace hr:=zh (show (zT wk [] 0 t.at_ []:PM Int) E mI=r from hr);have pk:=mN.le;have nK:=mN.lim;have mE:mI.nz.length<=1000000:=by have:=mN.few;omega
 have F0:=Fr.refl base w;obtain⟨k1,t1,a1⟩:=t;unfold uu Ve;simp only at hr ⊢;have hA:=zf w (.cells #[.int .u8 k1,.string ⟨t1.toArray⟩,.int .i64 a1] 66 (0,0));have hB:=zg hA (zf (w.alloc (.cells #[.int .u8 k1,.string ⟨t1.toArray⟩,.int .i64 a1] 66 (0,0))) (.cells #[.string ⟨sp.toArray⟩,.int .u8 wk,.int .i64 0] 180 (0,0)));go_enter func291,ntmps291;go_wp2_with fail;refine zX hr (zE (h0.below hB) wk [] 0 a1 [] _ (KS.nil' _) xM mE) F0 (Fr.of_below h0.base hB) ?_;rintro w1 x1 mr tH rfl h1 f1 F1;go_wp2;go_ret;exact⟨⟨_,rfl,rfl⟩,h1,F1⟩
def zhH(hR:kQ E base pb iv n R)(t:yO)(sp:List UInt8)(wk:Nat)(h0:PW E base pb iv G w mI)(mN:qT E mI)(hn:E.tz.length-mI.next<n):Calls prog 291 #[.pointer (some ⟨pb,0,none⟩),uu t,Ve sp wk (-1)] w (xZ E base pb iv G (vn R t (wk,-1) E mI) jL w):=by
 obtain⟨r,hr⟩:=exE (vn R t (wk,-1) E mI);rw[hr];replace hr:=zh (show (do let l <-(do let x <-R.unary;pure [x]:PM (List Int));zT wk [] 0 t.at_ l:PM Int) E mI=r from hr);have rE:(do let l <-(do let x <-R.unary;pure [x]:PM (List Int));zT wk [] 0 t.at_ l:PM Int) E mI=(do let x <-R.unary;zT wk [] 0 t.at_ [x]:PM Int) E mI:=by
  show PM.bind (PM.bind R.unary _) _ E mI=PM.bind R.unary _ E mI
  unfold PM.bind;cases R.unary E mI <;> rfl
 replace hr:=zh (rE.symm.trans hr.q);clear rE;have pk:=mN.le;have nK:=mN.lim;have mH:=h0.base;have rj:=h0.glt;have ma:=zh (λg=>h0.ivlt (g:=g));have F0:=Fr.refl base w;replace mN:=zh mN;replace hR:=zh hR;obtain⟨k1,t1,a1⟩:=t;unfold uu Ve;simp only at hr ⊢;have hA:=zf w (.cells #[.int .u8 k1,.string ⟨t1.toArray⟩,.int .i64 a1] 66 (0,0));have hz:=zk w (.cells #[.int .u8 k1,.string ⟨t1.toArray⟩,.int .i64 a1] 66 (0,0));have hC:=zf (w.alloc (.cells #[.int .u8 k1,.string ⟨t1.toArray⟩,.int .i64 a1] 66 (0,0))) (.cells #[.string ⟨sp.toArray⟩,.int .u8 wk,.int .i64 (-1)] 180 (0,0));have hB:=zg hA hC;have mY:=zi hC hz;have mT:=zk (w.alloc (.cells #[.int .u8 k1,.string ⟨t1.toArray⟩,.int .i64 a1] 66 (0,0))) (.cells #[.string ⟨sp.toArray⟩,.int .u8 wk,.int .i64 (-1)] 180 (0,0));rw[show (w.alloc (.cells #[.int .u8 k1,.string ⟨t1.toArray⟩,.int .i64 a1] 66 (0,0))).heap.size=w.heap.size+1 by simp] at mT;replace mY:=zh mY;replace mT:=zh mT;clear hz;go_enter func291,ntmps291;go_wp2_with fail;refine QX hr (hR.q.unary _ _ _ (h0.below hB).gnil mN.q hn) F0 (Fr.of_below h0.base hB) mN (hR.q.good.unary) ?_;clear hr;intro w1 x1 mr tH h1 f1 F1 n1 XE nM tF sB hr;have bh:=F1.b.size;have mE:mr.nz.length<=1000000:=by have:=nM.q.few;omega
 obtain⟨acc,nu⟩:∃l:List Int,[]=l:=⟨_,rfl⟩;have BS:acc.length<=0:=by rw[<-nu];exact pC _
 have o1:=jT w1 (w.heap.size+2) nu;have ew:w.heap.size+2<=w1.heap.size:=by have:=f1.b.size;simp at this;omega
 have c1:=f1.keep _ _ _ _ mY.q (by decide) (by decide);have c2:=f1.keep _ _ _ _ mT.q (by decide) (by decide);have hbs2:=h1.base;have hss2:=F1.b.size;go_wp2_with (at_builtin;refine yA rfl _ _ rfl rfl (zm o1 (zf _ _)) rfl (zd (zk w1 _) 0) rfl rfl (by omega) (by simp;omega) ?_);intro g' cap' w2 mC mA mJ;obtain⟨v2,e2,o2,h2,Gh,Av⟩:=xq h1 o1 (by omega) (λg hg=>by have:=ma.q g hg;omega) mC mA mJ;rw[e2];replace o2:=zh o2;replace Av:=zh Av;clear mC mA mJ e2;have F2:=Av.q w F1 (by omega) mH;have T2:=Av.q _ f1 (by simp) (by have:=hB.size;omega);have d1:=zd (T2.keep _ _ _ _ mY.q (by decide) (by decide)) 2;have d2:=zd (T2.keep _ _ _ _ mT.q (by decide) (by decide)) 1;have d3:=zd (T2.keep _ _ _ _ mT.q (by decide) (by decide)) 2;subst nu;go_wp2_with fail;refine zX hr (zE (h2.ungw.below bR) wk [] 0 a1 _ _ (KS.own o2.q) (yM o2.q (λg hg=>by have:=rj g hg;omega)) mE) F2 (Fr.refl _ _) ?_;rintro w3 x3 st3 rV rfl h3 f3 F3;go_wp2;go_ret;exact⟨⟨_,rfl,rfl⟩,h3,F3⟩
def Zc{m:PM α}{f:α->PM β}{g:β->PM γ}:((m >>= f) >>= g) E s=(m >>= λx=>f x >>= g) E s:=by
 show PM.bind (PM.bind m f) g E s=PM.bind m (λx=>PM.bind (f x) g) E s
 unfold PM.bind;cases m E s <;> rfl
def yS{A:PM α}{g:α->PM β}{h:β->PM γ}{r:qK γ}(k:Hid (((A >>= g) >>= h) E s=r)):Hid ((A >>= λa=>g a >>= h) E s=r):=zh (Zc.symm.trans k.q)
def VE{m:PM α}{f g:α->PM β}(h:∀x s',f x E s'=g x E s'):(m >>= f) E s=(m >>= g) E s:=by
 show PM.bind m f E s=PM.bind m g E s
 unfold PM.bind;cases m E s with
 |ok a s'=>exact h a s'
 |bad p=>rfl
def zeZ{f:List Int->PM Int}:(qP R (k+1) true acc >>= f) E s=(R.expr >>= λx=>(qP R k false (acc ++ [x]) >>= f)) E s:=by
 show PM.bind (PM.bind (PM.ret ()) λ_=>PM.bind R.expr λx=>qP R k false (acc ++ [x])) f E s=PM.bind R.expr (λx=>PM.bind (qP R k false (acc ++ [x])) f) E s
 unfold PM.bind PM.ret;simp only;cases R.expr E s <;> rfl
def zhS{f:List Int->PM Int}:(qP R (k+1) false acc >>= f) E s=(zC [44] >>= λ_=>(R.expr >>= λx=>(qP R k false (acc ++ [x]) >>= f))) E s:=by
 show PM.bind (PM.bind (PM.bind (zC [44]) λ_=>PM.ret ()) λ_=>PM.bind R.expr λx=>qP R k false (acc ++ [x])) f E s=PM.bind (zC [44]) (λ_=>PM.bind R.expr (λx=>PM.bind (qP R k false (acc ++ [x])) f)) E s
 unfold PM.bind PM.ret;cases zC [44] E s with
 |bad p=>rfl
 |ok a s1=>
  simp only;cases R.expr E s1 <;> rfl
def Vf(wk:Nat)(a:Int)(l:List Int):PM Int:=do
 let _ <-zC [41]
 zT wk [] 0 a l
def zmD(E:zr)(base pb n m wk:Nat)(a:Int)(iv:Value)(G:Nat->Prop)(R:qi)(w wt:World)(r:qK Int)(v i:Value)(wr:World):Prop:=∃st acc j,i=.int .i64 (j:Nat)/\j<=m/\acc.length<=j/\(qP R (m-j) (j == 0) acc >>= Vf wk a) E st=r/\E.tz.length-st.next<n/\qT E st/\wr.ownsRow (w.heap.size+2) 3 1 v acc.length (yl acc)/\PW E base pb iv (Gw G v) wr st/\Fr base w wr/\Fr base wt wr
def Jm(hR:kQ E base pb iv n R)(t:yO)(sp:List UInt8)(wk m:Nat)(tH:1<=m)(rV:m<=3)(h0:PW E base pb iv G w mI)(mN:qT E mI)(hn:E.tz.length-mI.next<n):Calls prog 291 #[.pointer (some ⟨pb,0,none⟩),uu t,Ve sp wk (m:Nat)] w (xZ E base pb iv G (vn R t (wk,(m:Nat)) E mI) jL w):=by
 obtain⟨r,hr⟩:=exE (vn R t (wk,(m:Nat)) E mI);rw[hr];have rE:vn R t (wk,(m:Nat)) E mI=(do let _ <-zC [40];(qP R m true [] >>= Vf wk t.at_):PM Int) E mI:=by
  unfold vn;simp only;rw[if_neg (by omega),if_pos (by omega)];refine (Zc).trans (VE λx s1=>(Zc).trans ?_);rw[pZ];exact VE λl s2=>(Zc).trans (VE λy s3=>rfl)
 replace hr:=zh (rE.symm.trans hr);clear rE;have pk:=mN.le;have nK:=mN.lim;have mH:=h0.base;have rj:=h0.glt;have ma:=zh (λg=>h0.ivlt (g:=g));have F0:=Fr.refl base w;replace mN:=zh mN;replace hR:=zh hR;obtain⟨k1,t1,a1⟩:=t;unfold uu Ve;simp only at hr ⊢;have hA:=zf w (.cells #[.int .u8 k1,.string ⟨t1.toArray⟩,.int .i64 a1] 66 (0,0));have hz:=zk w (.cells #[.int .u8 k1,.string ⟨t1.toArray⟩,.int .i64 a1] 66 (0,0));have hC:=zf (w.alloc (.cells #[.int .u8 k1,.string ⟨t1.toArray⟩,.int .i64 a1] 66 (0,0))) (.cells #[.string ⟨sp.toArray⟩,.int .u8 wk,.int .i64 (m:Nat)] 180 (0,0));have hB:=zg hA hC;have mY:=zi hC hz;have mT:=zk (w.alloc (.cells #[.int .u8 k1,.string ⟨t1.toArray⟩,.int .i64 a1] 66 (0,0))) (.cells #[.string ⟨sp.toArray⟩,.int .u8 wk,.int .i64 (m:Nat)] 180 (0,0));rw[show (w.alloc (.cells #[.int .u8 k1,.string ⟨t1.toArray⟩,.int .i64 a1] 66 (0,0))).heap.size=w.heap.size+1 by simp] at mT;replace mY:=zh mY;replace mT:=zh mT;clear hz;have RE:¬((m:Int)<0):=by omega
 have EU:(0:Int)<(m:Int):=by omega
 go_enter func291,ntmps291;go_wp2_with fail;refine jC hr (zy (h0.below hB) (by omega) [40]) F0 (Fr.of_below h0.base hB) mN (zq) ?_;clear hr;intro w1 x1 mr tH h1 f1 F1 n1 nM tF sB hr;have sB:=n1.adv;have c2:=zd (f1.keep _ _ _ _ mT.q (by decide) (by decide)) 2;have ew:w.heap.size+2<=w1.heap.size:=by have:=f1.b.size;simp at this;omega
 have mK:zmD E base pb n m wk a1 iv G R w _ r (.slice none 0 0) (.int .i64 (0:Nat)) w1:=⟨mr,[],0,rfl,pU _,pU _,hr.q,by omega,nM.q,jT _ _ rfl,h1.gnil,F1,f1⟩;replace mK:=zh mK;clear hr;go_wp2;go_loopw [7,26] (λv i wr=>zmD E base pb n m wk a1 iv G R w ((w.alloc (.cells #[.int .u8 k1,.string ⟨t1.toArray⟩,.int .i64 a1] 66 (0,0))).alloc (.cells #[.string ⟨sp.toArray⟩,.int .u8 wk,.int .i64 (m:Nat)] 180 (0,0))) r v i wr) (λ_ i _=>m-(intOf i).toNat)
 case atStart=>exact mK.q
 case round=>
  obtain⟨cD,acc,j,rfl,hj,nu,hr,aT,nT,o2,h2,F2,T2⟩:=hrel;replace hr:=zh hr;replace o2:=zh o2;replace nT:=zh nT;have sV:=nT.q.le;by_cases fd:j<m
  ·have mD:(j:Int)<(m:Int):=by omega
   have hy:=pF ((j:Int)+1) (by omega);obtain⟨k,hk⟩:∃k,m-j=k+1:=⟨m-j-1,by omega⟩;rw[hk] at hr;by_cases th:j=0
   ·subst th;replace hr:=zh (zeZ.symm.trans hr.q);have pe:¬((0:Int)<0):=by decide
    go_wp2_with fail;refine QX hr (hR.q.expr _ _ _ h2 nT.q aT) F2 (Fr.refl _ _) nT (hR.q.good.expr) ?_;clear hr;intro w3 x3 st3 rV h3 f3 F3 n3 Sg mZ rD tg hr;have T3:=T2.trans f3;have o3:=zP o2.q f3 (by decide) (by decide);have rD:=mZ.q.le;have tg:=n3.next;have ex:=F3.b.size;have gU:w.heap.size+2<=w3.heap.size:=by have:=T3.b.size;simp at this;omega
    have Tw:=h3.base;have aL:=F3.b.size;go_wp2_with (at_builtin;refine yA rfl _ _ rfl rfl (zm o3 (zf _ _)) rfl (zd (zk w3 _) 0) rfl rfl (by omega) (by simp;omega) ?_);intro g' cap' w4 mC mA mJ;obtain⟨v4,e4,o4,h4,Gj,dC⟩:=xq h3 o3 (by omega) (λg hg=>by have:=ma.q g hg;omega) mC mA mJ;rw[e4];replace o4:=zh o4;replace dC:=zh dC;clear mC mA mJ e4;have F4:=dC.q w F3 (by omega) mH;have T4:=dC.q _ T3 (by simp) (by simp;omega);have sU:(acc ++ [x3]).length<=0+1:=by rw[pE,pI];omega
    go_wp2;go_roundw
    case rel=>exact⟨st3,acc ++ [x3],0+1,by simp,by omega,sU,(show (qP R (m-(0+1)) (0+1 == 0) (acc ++ [x3]) >>= Vf wk a1) E st3=r from by rw[show m-(0+1)=k by omega];exact hr.q),by omega,mZ.q,o4.q,h4,F4,T4⟩
    case measure=>
     simp only[intOf];omega
   ·have Lz:(0:Int)<(j:Int):=by omega
    replace hr:=zh (show (qP R (k+1) false acc >>= Vf wk a1) E cD=r from by
     have:=hr.q;rw[show (j == 0)=false from by simp[th]] at this;exact this)
    replace hr:=zh (zhS.symm.trans hr.q);go_wp2_with fail;refine jC hr (zy h2 (by omega) [44]) F2 (Fr.refl _ _) nT (zq) ?_;clear hr;intro w7 x7 ta so h7 f7 F7 n7 pa af dJ hr;have dJ:=n7.adv;go_wp2_with fail;refine QX hr (hR.q.expr _ _ _ h7 pa.q (by omega)) F7 (Fr.refl _ _) pa (hR.q.good.expr) ?_;clear hr;intro w3 x3 st3 rV h3 f3 F3 n3 Sg mZ rD tg hr;have T3:=(T2.trans f7).trans f3;have o3:=zP (zP o2.q f7 (by decide) (by decide)) f3 (by decide) (by decide);have rD:=mZ.q.le;have tg:=n3.next;have ex:=F3.b.size;have gU:w.heap.size+2<=w3.heap.size:=by have:=T3.b.size;simp at this;omega
    have Tw:=h3.base;have aL:=F3.b.size;go_wp2_with (at_builtin;refine yA rfl _ _ rfl rfl (zm o3 (zf _ _)) rfl (zd (zk w3 _) 0) rfl rfl (by omega) (by simp;omega) ?_);intro g' cap' w4 mC mA mJ;obtain⟨v4,e4,o4,h4,Gj,dC⟩:=xq h3 o3 (by omega) (λg hg=>by have:=ma.q g hg;omega) mC mA mJ;rw[e4];replace o4:=zh o4;replace dC:=zh dC;clear mC mA mJ e4;have F4:=dC.q w F3 (by omega) mH;have T4:=dC.q _ T3 (by simp) (by simp;omega);have sU:(acc ++ [x3]).length<=j+1:=by rw[pE,pI];omega
    go_wp2;go_roundw
    case rel=>exact⟨st3,acc ++ [x3],j+1,by simp,by omega,sU,(show (qP R (m-(j+1)) (j+1 == 0) (acc ++ [x3]) >>= Vf wk a1) E st3=r from by rw[show m-(j+1)=k by omega];exact hr.q),by omega,mZ.q,o4.q,h4,F4,T4⟩
    case measure=>
     simp only[intOf];omega
  ·have EB:j=m:=by omega
   subst EB;have dv:¬((j:Int)<(j:Int)):=by omega
   replace hr:=zh (show (do let _ <-zC [41];zT wk [] 0 a1 acc:PM Int) E cD=r from by
    have:=hr.q;rw[Nat.sub_self] at this;exact this)
   go_wp2_with fail;refine jC hr (zy h2 (by omega) [41]) F2 (Fr.refl _ _) nT (zq) ?_;clear hr;intro w3 x3 st3 rV h3 f3 F3 n3 mZ rD tg hr;have T3:=T2.trans f3;have o3:=zh (zP o2.q f3 (by decide) (by decide));have d1:=zd (T3.keep _ _ _ _ mY.q (by decide) (by decide)) 2;have d2:=zd (T3.keep _ _ _ _ mT.q (by decide) (by decide)) 1;have mE:st3.nz.length<=1000000:=by have:=mZ.q.few;omega
   have ex:=F3.b.size;go_wp2_with fail;refine zX hr (zE (h3.ungw.below bR) wk [] 0 a1 _ _ (KS.own o3.q) (yM o3.q (λg hg=>by have:=rj g hg;omega)) mE) F3 (Fr.refl _ _) ?_;rintro w4 x4 aN az rfl h4 f4 F4;go_wp2;go_ret;exact⟨⟨_,rfl,rfl⟩,h4,F4⟩
def QV(p:α->Bool)(l:List α)(j:Nat)(x:α)(hx:l[j]? =some x)(hp:p x=true)(h:∀i y,i<j->l[i]? =some y->p y=false):Qv p l=j:=by
 have hj:j<l.length:=(gtL hx);have:l.findIdx? p=some j:=by
  rw[List.findIdx?_eq_some_iff_getElem];refine⟨hj,?_,λi hi=>?_⟩
  ·rw[glE hj] at hx;cases hx;exact hp
  ·have:=h i _ hi (glE (by omega));simp[this]
 unfold Qv;rw[this]
def Xd(p:α->Bool)(l:List α)(h:∀(i:Nat) y,l[i]? =some y->p y=false):Qv p l= -1:=by
 have:l.findIdx? p=none:=by
  rw[List.findIdx?_eq_none_iff];intro x hx;obtain⟨i,hi,rfl⟩:=List.mem_iff_getElem.1 hx;exact h i _ (glE hi)
 unfold Qv;rw[this]
def WdS(w:World)(g:Nat)(l:List (List UInt8×Nat×Int)):Prop:=∀(j:Nat) x,l[j]? =some x->w.cell? ⟨g,j*3,none⟩=some (.string ⟨x.1.toArray⟩)/\w.cell? ⟨g,j*3+1,none⟩=some (.int .u8 x.2.1)/\w.cell? ⟨g,j*3+2,none⟩=some (.int .i64 x.2.2)
def WdS.below(h:WdS w g l)(hb:Below w.heap.size w w'):WdS w' g l:=λj x hx=>⟨zl hb (h j x hx).1,zl hb (h j x hx).2.1,zl hb (h j x hx).2.2⟩
def zhB(p:α->Bool)(l:List α)(w:World)(i:Value)(wr:World):Prop:=∃j:Nat,i=.int .i64 j/\j<=l.length/\(∀(i:Nat) y,i<j->l[i]? =some y->p y=false)/\Below w.heap.size w wr
def VS(g n c f:Nat)(q:Addr)(l:List (List UInt8×Nat×Int))(p:List UInt8×Nat×Int->Bool)(w:World)(rZ:Enters prog f)(hl:l.length=n)(hn:n<=1000)(hc:WdS w g l)(hp:∀W x,Below w.heap.size w W->x∈l->Calls prog f #[Ve x.1 x.2.1 x.2.2,.pointer (some q)] W (ue W (.bool (p x)))):
 Calls prog 229 #[.slice (some ⟨g,0,none⟩) n c,.func (.func f) #[] #[.pointer (some q)]] w (ue w (.int .i64 (Qv p l))):=by
 replace rZ:=zh rZ;replace hc:=zh hc;replace hp:=zh hp;go_enter func229,ntmps229;go_wp2;go_loopw [8] (zhB p l w) (λi _=>n-(intOf i).toNat)
 case atStart=>exact⟨0,rfl,pU _,λi y h=>absurd h (wF _),pG _ _⟩
 case round=>
  obtain⟨j,rfl,hj,rR,hb⟩:=hrel;replace rR:=zh rR;by_cases mD:j<n
  ·have me:(j:Int)<(n:Int):=by omega
   have hy:=pF ((j:Int)+1) (by omega);obtain⟨x,hx⟩:∃x,l[j]? =some x:=⟨_,glE (by omega)⟩;obtain⟨c0,c1,c2⟩:=hc.q.below hb j x hx;have hC:=hp.q wr x hb (wH hx);have wy:=λW=>rZ.q #[Ve x.1 x.2.1 x.2.2,.pointer (some q)] W
   have HX:=zh (And.intro hx rR.q);clear hx rR;obtain⟨x0,x1,x2⟩:=x;unfold Ve at hC wy;simp only at hC wy c0 c1 c2;generalize eA:p (x0,x1,x2)=b at *;replace eA:=zh eA;go_wp2_with fail;refine hC.mono ?_;rintro e w1 ⟨rfl,mF⟩;cases b with
   |true=>
    go_wp2;go_ret;refine⟨?_,zg hb mF⟩;rw[QV p l j _ HX.q.1 eA.q HX.q.2];rfl
   |false=>
    go_wp2;go_roundw
    case rel=>
     refine⟨j+1,by simp,by omega,λi y hi cx=>?_,zg hb mF⟩;by_cases e:i=j
     ·subst e;rw[HX.q.1] at cx;cases cx;exact eA.q
     ·exact HX.q.2 i y (by omega) cx
    case measure=>simp[intOf];omega
  ·have me:¬((j:Int)<(n:Int)):=by omega
   go_wp2;go_ret;refine⟨?_,hb⟩;rw[Xd p l (λi y h=>rR.q i y (by have:=(gtL h);omega) h)];rfl
def Jg(w:World):Calls prog 228 #[] w λe w'=>∃g,e=.returned (.slice (some ⟨g,0,none⟩) 14 14)/\w.heap.size<=g/\WdS w' g zN/\Below w.heap.size w w':=by
 go_enter func228,ntmps228;go_wp2;go_ret;refine⟨_,rfl,pC _,λj x hx=>?_,zf _ _⟩;have hz:=zk w (.cells (zN.flatMap λx=>[Value.string ⟨x.1.toArray⟩,.int .u8 x.2.1,.int .i64 x.2.2]).toArray 180 (0,0));have hj:j<14:=(gtL hx);have h3:∀j:Fin 14,∀x,zN[j.val]? =some x->(zN.flatMap λx=>[Value.string ⟨x.1.toArray⟩,.int .u8 x.2.1,.int .i64 x.2.2])[j.val*3]? =some (.string ⟨x.1.toArray⟩)/\(zN.flatMap λx=>[Value.string ⟨x.1.toArray⟩,.int .u8 x.2.1,.int .i64 x.2.2])[j.val*3+1]? =some (.int .u8 x.2.1)/\(zN.flatMap λx=>[Value.string ⟨x.1.toArray⟩,.int .u8 x.2.1,.int .i64 x.2.2])[j.val*3+2]? =some (.int .i64 x.2.2):=by
  intro j x hx;rcases j with⟨j,hj⟩
  match j,hj with
  |0,_|1,_|2,_|3,_|4,_|5,_|6,_|7,_|8,_|9,_|10,_|11,_|12,_|13,_=>cases hx;exact⟨rfl,rfl,rfl⟩
 obtain⟨a,b,c⟩:=h3 ⟨j,hj⟩ x hx;refine⟨(zd hz _).trans ?_,(zd hz _).trans ?_,(zd hz _).trans ?_⟩
 ·rw[pS];exact a
 ·rw[pS];exact b
 ·rw[pS];exact c
def zaT(s:List UInt8):(∃(j:Nat) (x:List UInt8×Nat×Int),Qv (λx=>x.1 == s) zN=j/\zN[j]? =some x/\x.1=s/\xB s=some x.2)\/(Qv (λx=>x.1 == s) zN= -1/\xB s=none):=by
 unfold xB;cases hf:zN.find? λx=>x.1 == s with
 |none=>
  refine .inr ⟨Xd _ _ λi y hy=>?_,rfl⟩;have:=List.find?_eq_none.1 hf y (wH hy);simpa using this
 |some x=>
  obtain⟨hp,i,hi,hx,rR⟩:=List.find?_eq_some_iff_getElem.1 hf;have aU:zN[i]? =some x:=by rw[glE hi,hx]
  refine .inl ⟨i,x,QV _ _ i x aU hp (λk y hk hy=>?_),aU,by simpa using hp,rfl⟩;have h1:=rR k hk;have rU:k<zN.length:=by omega
  rw[glE rU] at hy;cases hy;simpa using h1
def zc3(b:Nat)(s:List UInt8)(x0:List UInt8)(x1:Nat)(x2:Int)(w:World)(hq:w.cell? ⟨b,0,none⟩=some (.string ⟨s.toArray⟩)):Calls prog 298 #[Ve x0 x1 x2,.pointer (some ⟨b,0,none⟩)] w (ue w (.bool (x0 == s))):=by
 unfold Ve;have hA:=zf w (.cells #[.string ⟨x0.toArray⟩,.int .u8 x1,.int .i64 x2] 180 (0,0));have hz:=zd (zk w (.cells #[.string ⟨x0.toArray⟩,.int .u8 x1,.int .i64 x2] 180 (0,0))) 0;have hq:=zl hA hq;go_enter func298,ntmps298;go_wp2;go_ret;exact⟨rfl,hA⟩
def zgx(s:List UInt8):Value:=match xB s with
 |some x=>.tuple #[Ve s x.1 x.2,.bool true]
 |none=>.tuple #[Ve [] 0 0,.bool false]
def zeK(s:List UInt8)(w:World):Calls prog 290 #[.string ⟨s.toArray⟩] w (ue w (zgx s)):=by
 have MS:∀(fn:Fn) (first cap:Array Value) (w:World),(Instr.makeFunc fn first cap).run prog w=.ok (.func fn first cap) w:=λ_ _ _ _=>rfl
 have hA:=zf w (.cells #[.string ⟨s.toArray⟩] 9 (0,0));have hB:=zg hA (zf (w.alloc (.cells #[.string ⟨s.toArray⟩] 9 (0,0))) (.cells #[.string ⟨#[]⟩,.int .u8 0,.int .i64 0] 180 (0,0)));have bh:=zi (zf (w.alloc (.cells #[.string ⟨s.toArray⟩] 9 (0,0))) (.cells #[.string ⟨#[]⟩,.int .u8 0,.int .i64 0] 180 (0,0))) (zk w (.cells #[.string ⟨s.toArray⟩] 9 (0,0)));have sH:=zk (w.alloc (.cells #[.string ⟨s.toArray⟩] 9 (0,0))) (.cells #[.string ⟨#[]⟩,.int .u8 0,.int .i64 0] 180 (0,0));rw[show (w.alloc (.cells #[.string ⟨s.toArray⟩] 9 (0,0))).heap.size=w.heap.size+1 by simp] at sH;replace bh:=zh bh;replace sH:=zh sH;have Hh:=zh (zaT s);go_enter func290,ntmps290;go_wp2_with fail;refine (Jg _).mono ?_;rintro e w2 ⟨g,rfl,hg,hW,mM⟩;have rB:=zg hB mM;have ew:=zi mM bh.q;have mO:=zi mM sH.q;have HI:=zh (VS g 14 14 298 ⟨w.heap.size,0,none⟩ zN (λx=>x.1 == s) w2 (enters_of (P:=prog) func298 (by kernel_rfl) rfl) rfl (by decide) hW (λW x hb _=>zc3 w.heap.size s x.1 x.2.1 x.2.2 W (zl hb (zd ew 0))));replace hW:=zh hW;replace ew:=zh ew;replace mO:=zh mO;generalize Qv (λx=>x.1 == s) zN=i at *;go_wp2_with fail;refine HI.q.mono ?_;rintro e w3 ⟨rfl,mU⟩;have sf:=zg rB mU;have mS:=zi mU mO.q;rcases Hh.q with⟨j,x,rfl,hx,rfl,hw⟩|⟨rfl,hw⟩
 ·have hw:=zh hw;obtain⟨c0,c1,c2⟩:=hW.q.below mU j x hx;have hj:j<14:=(gtL hx);have mD:¬((j:Int)<0):=by omega
  have pf:(j:Int)<14:=by omega
  obtain⟨x0,x1,x2⟩:=x;simp only at c0 c1 c2 hw ⊢;have f0:∀j,w3.frozen? ⟨w.heap.size+1,j,none⟩=false:=λj=>zj mS j
  have d0:=zd mS 0;have d1:=zd mS 1;have d2:=zd mS 2;replace mS:=zh mS;go_wp2_with fail;have z1:=zt mS.q 0 (.string ⟨x0.toArray⟩);have z2:=zt z1 1 (.int .u8 x1);have z3:=zt z2 2 (.int .i64 x2);refine bodyPost_ret (v:=.tuple #[.agg #[.string ⟨x0.toArray⟩,.int .u8 x1,.int .i64 x2],.bool true]) (by simp[results,results290,go_sem,zd z3]) rfl ?_;exact⟨by unfold zgx;rw[hw.q];rfl,((sf.setCell (by simp) _).setCell (by simp) _).setCell (by simp) _⟩
 ·have hw:=zh hw;have f0:∀j,w3.frozen? ⟨w.heap.size+1,j,none⟩=false:=λj=>zj mS j
  have d0:=zd mS 0;have d1:=zd mS 1;have d2:=zd mS 2;replace mS:=zh mS;go_wp2_with fail;have z1:=zt mS.q 0 (.string ⟨#[]⟩);have z2:=zt z1 1 (.int .u8 0);have z3:=zt z2 2 (.int .i64 0);refine bodyPost_ret (v:=.tuple #[.agg #[.string ⟨#[]⟩,.int .u8 0,.int .i64 0],.bool false]) (by simp[results,results290,go_sem,zd z3]) rfl ?_;exact⟨by unfold zgx;rw[hw.q];rfl,((sf.setCell (by simp) _).setCell (by simp) _).setCell (by simp) _⟩
end
section
open Go.RowKit Lode Go.Shelf
attribute [local go_sem ↓] wp_at_zero wp_at_succ
attribute [local go_sem] Vj zmY Vi
open Go.Proofs.Tryz
def zcN(a:Int)(x:List Int×Int):PM Int:=do
 let _ <-zC [125]
 zT 28 [] x.2 a x.1
def zhP(h:xO (zw E s) [[125]]=true):(qq R (k+1) acc >>= f) E s=f (acc,0) E s:=by
 have h1:qq R (k+1) acc E s=.ok (acc,0) s:=by
  unfold qq;exact ul h
 exact yu h1
def uS(R:qi)(k:Nat)(acc:List Int)(x:Int×Bool):PM (List Int×Int):=do
 if x.2 && (<-YA [[125]]) then pure (acc ++ [x.1],1)
 else
  let _ <-zC [59]
  qq R k (acc ++ [x.1])
def zeU(h:xO (zw E s) [[125]]=false):(qq R (k+1) acc >>= f) E s=(Ze R >>= λx=>(uS R k acc x >>= f)) E s:=by
 have h1:qq R (k+1) acc E s=(Ze R >>= λx=>uS R k acc x) E s:=by
  conv=>lhs;unfold qq
  exact kL h
 exact (uR h1).trans Zc
def zhQ:(uS R k acc (y,false) >>= f) E s=(zC [59] >>= λ_=>(qq R k (acc ++ [y]) >>= f)) E s:=by
 have h1:uS R k acc (y,false) E s=(zC [59] >>= λ_=>qq R k (acc ++ [y])) E s:=by
  unfold uS;rw[yu (a:=xO (zw E s) [[125]]) (s':=s) rfl];simp only[Bool.false_and];rw[if_neg (by decide)]
 exact (uR h1).trans Zc
def zhR(h:xO (zw E s) [[125]]=false):(uS R k acc (y,true) >>= f) E s=(zC [59] >>= λ_=>(qq R k (acc ++ [y]) >>= f)) E s:=by
 have h1:uS R k acc (y,true) E s=(zC [59] >>= λ_=>qq R k (acc ++ [y])) E s:=by
  unfold uS;rw[yu (a:=false) (s':=s) (by unfold YA;rw[h])];simp only[Bool.and_false];rw[if_neg (by decide)]
 exact (uR h1).trans Zc
def zeW(h:xO (zw E s) [[125]]=true):(uS R k acc (y,true) >>= f) E s=f (acc ++ [y],1) E s:=by
 have h1:uS R k acc (y,true) E s=.ok (acc ++ [y],1) s:=by
  unfold uS;rw[yu (a:=true) (s':=s) (by unfold YA;rw[h])];rfl
 exact yu h1
def zmT(E:zr)(base pb n:Nat)(a:Int)(iv:Value)(G:Nat->Prop)(R:qi)(w:World)(r:qK Int)(l v:Value)(wr:World):Prop:=∃st acc k,l=.int .i64 0/\(qq R k acc >>= zcN a) E st=r/\E.tz.length-st.next<k/\E.tz.length-st.next<n/\acc.length<=st.next/\qT E st/\wr.ownsRow w.heap.size 3 1 v acc.length (yl acc)/\PW E base pb iv (Gw G v) wr st/\Fr base w wr
def ziL(hR:kQ E base pb iv n R):PCn E base pb iv (n+1) 199 (vP R):=by
 intro G w mI h0 mN hn;obtain⟨r,hr⟩:=exE (vP R E mI);rw[hr];unfold vP at hr;replace hr:=zh hr;replace mN:=zh mN;replace hR:=zh hR;have F0:=Fr.refl base w;have nK:=mN.q.lim;have pk:=mN.q.le;have rj:=h0.glt;have mH:=h0.base;have ma:=zh (λg=>h0.ivlt (g:=g));go_enter func199,ntmps199;go_wp2_with fail;refine jC hr (zy h0 (by omega) [123]) F0 (Fr.refl _ _) mN (zq) ?_;clear hr;intro w1 x1 mr tH h1 f1 F1 n1 nM tF sB hr;have sB:=n1.adv;obtain⟨k1,t1,a1⟩:=x1;simp only at hr ⊢;have mK:zmT E base pb n a1 iv G R w r (.int .i64 0) (.slice none 0 0) w1:=⟨mr,[],_,rfl,hr.q,by omega,by omega,pU _,nM.q,jT _ _ rfl,h1.gnil,F1⟩;replace mK:=zh mK;clear hr h1 F1 f1 tH;go_wp2;go_loopw [4,5] (λl v wr=>zmT E base pb n a1 iv G R w r l v wr) (λ_ _ wr=>E.tz.length+1-xw pb wr)
 case atStart=>exact mK.q
 case round=>
  obtain⟨st3,acc,k,rfl,hr,hk,bC,nu,mZ,o3,h3,F3⟩:=hrel;obtain⟨k,rfl⟩:∃m,k=m+1:=⟨k-1,by omega⟩;replace hr:=zh hr;replace o3:=zh o3;have rD:=mZ.le;replace mZ:=zh mZ;go_wp2_with fail;refine (kB h3 [125]).mono ?_;rintro e w4 ⟨rfl,mQ⟩;have mQ:=zg (zf wr _) mQ;have h4:=h3.below mQ;have F4:=F3.trans (Fr.of_below h3.base mQ);have o4:=zh (zm o3.q mQ);have rl:=mZ;cases pj:xO (zw E st3) [[125]] with
  |true=>
   replace hr:=zh ((zhP pj).symm.trans hr.q);unfold zcN at hr;go_wp2_with fail;refine jC hr (zy h4 (by omega) [125]) F4 (Fr.refl _ _) rl (zq) ?_;clear hr;intro w8 x8 aO su h8 f8 F8 n8 rL tX ct hr;have o8:=zh (zP o4.q f8 (by decide) (by decide));have mE:aO.nz.length<=1000000:=by have:=rL.q.few;omega
   go_wp2_with fail;refine zX hr (zE (h8.ungw.below bR) 28 [] 0 a1 acc _ (KS.own o8.q) (yM o8.q (λg hg=>by have:=rj g hg;omega)) mE) F8 (Fr.refl _ _) ?_;rintro w9 x9 bH bX rfl h9 f9 F9;go_wp2;go_ret;exact⟨⟨_,rfl,rfl⟩,h9,F9⟩
  |false=>
   replace hr:=zh ((zeU pj).symm.trans hr.q);go_wp2_with fail;refine (zjk hR.q h4 rl.q bC).mono ?_;rintro e w5 hp;rcases hp.cases with⟨p,hm,he,hb⟩|⟨x5,ry,bA,v,rfl,hv,h5,f5⟩
   ·unfold Pan at he;subst he;have mO:=(Xj hm).symm.trans hr.q;subst mO;go_wp2_with fail;exact⟨rfl,rfl,(F4.b.trans (Fr.refl _ _).b).trans hb⟩
   replace hr:=zh ((yu bA).symm.trans hr.q);have F5:=(F4.trans (Fr.refl _ _)).trans f5;obtain⟨n5,GC⟩:=zbV hR.q.good rl.q.le rl.q.wf bA;have rm:=zh (rl.q.nx n5 (by decide));have dX:=rm.q.le;have Pf:=n5.next;unfold zmw at hv;subst hv;have o5:=zP o4.q f5 (by decide) (by decide);have Ib:=F5.b.size;obtain⟨y,b⟩:=x5;simp only at hr ⊢;have Dk:=h5.base;have hss6:=F5.b.size;go_wp2_with (at_builtin;refine yA rfl _ _ rfl rfl (zm o5 (zf _ _)) rfl (zd (zk w5 _) 0) rfl rfl (by omega) (by simp;omega) ?_);intro g' cap' w6 mC mA mJ;obtain⟨v6,e6,o6,h6,gs6,Aw⟩:=xq h5 o5 (by omega) (λg hg=>by have:=ma.q g hg;omega) mC mA mJ;rw[e6];replace o6:=zh o6;replace Aw:=zh Aw;clear mC mA mJ e6;have F6:=Aw.q w F5 (pC _) mH;have rn:=rm;clear Aw;cases b with
   |false=>
    replace hr:=zh (zhQ.symm.trans hr.q);go_wp2_with fail;refine jC hr (zy h6 (by omega) [59]) F6 (Fr.refl _ _) rn (zq) ?_;clear hr;intro w8 x8 aO su h8 f8 F8 n8 rL tX ct hr;have ct:=n8.adv;have o8:=zh (zP o6.q f8 (by decide) (by decide));go_wp2;go_roundw
    case rel=>exact⟨aO,acc ++ [y],k,rfl,hr.q,by omega,by omega,by rw[pE,pI];omega,rL.q,o8.q,h8,F8⟩
    case measure=>
     rw[h8.xw,h3.xw];omega
   |true=>
    go_wp2_with fail;refine (kB h6 [125]).mono ?_;rintro e w7 ⟨rfl,rC⟩;have rC:=zg (zf w6 _) rC;have h7:=h6.below rC;have F7:=F6.trans (Fr.of_below h6.base rC);have o7:=zh (zm o6.q rC);have pa:=rn;cases WS:xO (zw E ry) [[125]] with
    |true=>
     replace hr:=zh ((zeW WS).symm.trans hr.q);unfold zcN at hr;go_wp2_with fail;refine jC hr (zy h7 (by omega) [125]) F7 (Fr.refl _ _) pa (zq) ?_;clear hr;intro w8 x8 aO su h8 f8 F8 n8 rL tX ct hr;have o8:=zh (zP o7.q f8 (by decide) (by decide));have mE:aO.nz.length<=1000000:=by have:=rL.q.few;omega
     go_wp2_with fail;refine zX hr (zE (h8.ungw.below bR) 28 [] 1 a1 (acc ++ [y]) _ (KS.own o8.q) (yM o8.q (λg hg=>by have:=rj g hg;omega)) mE) F8 (Fr.refl _ _) ?_;rintro w9 x9 bH bX rfl h9 f9 F9;go_wp2;go_ret;exact⟨⟨_,rfl,rfl⟩,h9,F9⟩
    |false=>
     replace hr:=zh ((zhR WS).symm.trans hr.q);go_wp2_with fail;refine jC hr (zy h7 (by omega) [59]) F7 (Fr.refl _ _) pa (zq) ?_;clear hr;intro w8 x8 aO su h8 f8 F8 n8 rL tX ct hr;have ct:=n8.adv;have o8:=zh (zP o7.q f8 (by decide) (by decide));go_wp2;go_roundw
     case rel=>exact⟨aO,acc ++ [y],k,rfl,hr.q,by omega,by omega,by rw[pE,pI];omega,rL.q,o8.q,h8,F8⟩
     case measure=>
      rw[h8.xw,h3.xw];omega
end
section
open Go.RowKit Lode Go.Shelf
attribute [local go_sem ↓] wp_at_zero wp_at_succ
open Go.Proofs.Tryz
def PCb(E:zr)(base pb:Nat)(iv:Value)(n:Nat)(lv:Int)(m:PM Int):Prop:=∀(G:Nat->Prop) (w:World) (st:yx),PW E base pb iv G w st->qT E st->E.tz.length-st.next<n->Calls prog 248 #[.pointer (some ⟨pb,0,none⟩),.int .i64 lv] w (xZ E base pb iv G (m E st) jL w)
def zhg(l:List (List UInt8))(t:List UInt8)(g n cap:Nat)(w:World)(hn:l.length=n)(hs:SS w g l)(hl:n<=1000)(ht:l.contains t=true):Calls prog 238 #[.slice (some ⟨g,0,none⟩) n cap,.string ⟨t.toArray⟩] w λe w'=>e=.returned (.int .i64 (l.idxOf t:Nat))/\w'=w:=by
 subst hn;have h1:=Tryz.slices_Index_string g 0 l.length cap (l.map BA) (BA t) w (by simp) (by omega) hs;have h2:Lib.idxOfS ((l.map BA).take l.length) (BA t)=(l.idxOf t:Nat):=by
  rw[List.take_of_length_le (by simp)];have hm:t∈l:=by simpa using ht
  have hi:l.idxOf t<l.length:=List.idxOf_lt_length_of_mem hm;have:=Lib.idxFromS_hit (BA t) (l.map BA) (l.idxOf t) 0 (by simpa using hi) (by
   rw[pA,wC,glE hi,List.getElem_idxOf];rfl) (λj hj e=>by
   have NW:j<l.length:=by omega
   rw[pA,wC,glE NW] at e;have:=zkV (show BA l[j]=BA t from e);have h3:(l[j] == t)=false:=List.not_of_lt_findIdx (p:=λx=>x == t) hj;rw[this] at h3;simp at h3)
  unfold Lib.idxOfS;rw[this,Nat.zero_add]
 rw[h2] at h1;exact h1
def zg4(L:Nat)(hL:L<5)(t:List UInt8)(ht:(yD L).contains t=true):∃i,(yD L).idxOf t=i/\i<(yD L).length/\(qv L)[i]? =some (YX L t):=by
 have hm:t∈yD L:=by simpa using ht
 have hi:=List.idxOf_lt_length_of_mem hm;refine⟨_,rfl,hi,?_⟩;unfold YX;have hk:(yD L).length=(qv L).length:=by
  obtain rfl|rfl|rfl|rfl|rfl:L=0\/L=1\/L=2\/L=3\/L=4:=by omega
  all_goals rfl
 rw[pA,glE (by rw[<-hk];exact hi)];rfl
def LvB.ss(h:LvB w B)(hL:L<5):SS w (B+2*L) (yD L):=λj hj=>by
 rw[wZ] at hj;rw[Nat.zero_add,zd (h L hL).1 j,pS,wC,pA,wC,glE hj];rfl
def LvB.kd(h:LvB w B)(hL:L<5){i:Nat}(hi:(qv L)[i]? =some k):w.cell? ⟨B+2*L+1,i,none⟩=some (.int .u8 k):=by
 rw[zd (h L hL).2 i,pS,wC,hi];rfl
def zeb{l:List (List UInt8)}(h:xO t l=true):l.contains t.text=true:=by
 unfold xO at h;simp only[pJ] at h;exact h.2
def zhC(E:zr)(base pb n:Nat)(iv:Value)(G:Nat->Prop)(L:Nat)(tight:PM Int)(w wt:World)(r:qK Int)(v:Value)(wr:World):Prop:=∃st k left,v=.int .i64 left/\YE L tight k left E st=r/\E.tz.length-st.next<k/\E.tz.length-st.next<n/\Vd st left/\qT E st/\PW E base pb iv G wr st/\Fr base w wr/\Fr base wt wr
abbrev vE(B:Nat):Obj:=.cells #[jU B 1,jU (B+1) 1,jU (B+2) 1,jU (B+3) 1,jU (B+4) 7,jU (B+5) 7,jU (B+6) 3,jU (B+7) 3,jU (B+8) 3,jU (B+9) 3] 170 (0,0)
def zky(hU:PCn E base pb iv n 263 m):PCb E base pb iv n 5 m:=by
 intro G w mI h0 mN hn;obtain⟨r,hr⟩:=exE (m E mI);rw[hr];replace hr:=zh hr;have F0:=Fr.refl base w;have HL:=zh (Yn w);unfold lvV at HL;replace hU:=zh hU;replace mN:=zh mN;go_enter func248,ntmps248;go_wp2_with fail;refine HL.q.mono ?_;rintro e w1 ⟨rfl,eS,mF⟩;have h1:=h0.below mF;have F1:=F0.trans (Fr.of_below h0.base mF);go_wp2_with fail;refine zX hr (hU.q _ _ _ (h1.below (zf _ _)) mN.q hn) F1 (Fr.of_below h1.base (zf _ _)) ?_;rintro w2 x2 cD ay rfl h2 f2 F2;go_wp2;go_ret;exact⟨⟨_,rfl,rfl⟩,h2,F2⟩
def zdW(L:Nat)(hL:L<5):∃N,Hid ((yD L).length=N)/\Hid (N<=7)/\Hid (∀B,#[jU B 1,jU (B+1) 1,jU (B+2) 1,jU (B+3) 1,jU (B+4) 7,jU (B+5) 7,jU (B+6) 3,jU (B+7) 3,jU (B+8) 3,jU (B+9) 3][L*2]? =some (jU (B+2*L) N))/\Hid (∀B,#[jU B 1,jU (B+1) 1,jU (B+2) 1,jU (B+3) 1,jU (B+4) 7,jU (B+5) 7,jU (B+6) 3,jU (B+7) 3,jU (B+8) 3,jU (B+9) 3][L*2+1]? =some (jU (B+2*L+1) N)):=by
 obtain rfl|rfl|rfl|rfl|rfl:L=0\/L=1\/L=2\/L=3\/L=4:=by omega
 all_goals exact⟨_,zh rfl,zh (by decide),zh (λB=>rfl),zh (λB=>rfl)⟩
def Jf(hL:L<5)(PY:L≠2)(hT:PCb E base pb iv n ((L:Int)+1) tight)(hg:Gd 0 Vd tight):PCb E base pb iv n L (Zp L tight):=by
 intro G w mI h0 mN hn;obtain⟨r,hr⟩:=exE (Zp L tight E mI);rw[hr];unfold Zp at hr;obtain⟨N,hN,TW,sR,aq⟩:=zdW L hL;have mt:((L:Int) == 5)=false:=bfE (by omega)
 have mM:((L:Int) == 2)=false:=bfE (by omega)
 have hLi:(L:Int)<5:=by omega
 have hLz:¬((L:Int)<0):=by omega
 have hyL:=pF ((L:Int)+1) (by omega);replace hL:=zh hL;replace PY:=zh PY;replace hr:=zh hr;have F0:=Fr.refl base w;have HL:=zh (Yn w);unfold lvV at HL;replace hT:=zh hT;replace mN:=zh mN;have gT:Hid (Gd 0 Vd tight):=zh (λh0 hw h=>hg h0 hw h);clear hg;have nK:=mN.q.lim;have pk:=mN.q.le;have mH:=h0.base;go_enter func248,ntmps248;go_wp2_with fail;refine HL.q.mono ?_;rintro e w1 ⟨rfl,eS,mF⟩;have h1:=h0.below mF;have F1:=F0.trans (Fr.of_below h0.base mF);have nM:=mN;have TC:=zh h1.base;replace eS:=zh eS;go_wp2_with fail;refine QX hr (hT.q _ _ _ (h1.below (zf _ _)) nM.q hn) F1 (Fr.of_below h1.base (zf _ _)) nM (gT.q) ?_;clear hr;intro w2 x2 cD ay h2 f2 F2 n2 CG nT sV tf hr;have mK:zhC E base pb n iv G L tight w (w1.alloc (vE (w.heap.size+1))) r (.int .i64 x2) w2:=⟨cD,_,x2,rfl,hr.q,by omega,by omega,CG,nT.q,h2,F2,f2⟩;replace mK:=zh mK;clear hr h1 mF F1 h2 F2 f2 ay;go_wp2;go_loopw [7] (λv wr=>zhC E base pb n iv G L tight w (w1.alloc (vE (w.heap.size+1))) r v wr) (λ_ wr=>E.tz.length+1-xw pb wr)
 case atStart=>exact mK.q
 case round=>
  obtain⟨st3,k,left,rfl,hr,hk,bC,RZ,mZ,h3,F3,T3⟩:=hrel;obtain⟨k,rfl⟩:∃m,k=m+1:=⟨k-1,by omega⟩;unfold YE at hr;have rD:=mZ.le;replace mZ:=zh mZ;replace hr:=zh hr;have pq:=zh (eS.q.fr ((Fr.of_below TC.q (zf w1 (vE (w.heap.size+1)))).trans T3));have AW:=zh (T3.keep _ _ _ _ (zk w1 (vE (w.heap.size+1))) (by decide) (by decide));have q0:=(zd AW.q (L*2)).trans (sR.q _);have HI:=zf1 h3 (yD L) (w.heap.size+1+2*L) N (pq.q.ss hL.q) (by have:=hN.q;have:=TW.q;omega);rw[hN.q] at HI;replace HI:=zh HI;go_wp2_with fail;refine HI.q.mono ?_;rintro e w4 ⟨rfl,mQ⟩;have h4:=h3.below mQ;have F4:=F3.trans (Fr.of_below h3.base mQ);have T4:=T3.trans (Fr.of_below h3.base mQ);have rl:=mZ;clear HI;cases pj:xO (zw E st3) (yD L) with
  |false=>
   have pu:qK.ok left st3=r:=(kL pj).symm.trans hr.q;subst pu;go_wp2;go_ret;exact⟨⟨_,rfl,rfl⟩,h4,F4⟩
  |true=>
   replace hr:=zh ((ul pj).symm.trans hr.q);have fT:=zeb pj;go_wp2_with fail;refine pgo hr (uh h4 (by omega)) F4 (Fr.refl _ _) ?_;clear hr;intro w8 x8 aO v hv su h8 f8 F8 hr;have n8:=vU (uB pj) rl.q.wf su;have rL:=zh (rl.q.nx n8 (by decide));have AU:zw E st3=x8:=by cases su;rfl
   rw[AU] at fT;clear AU pj;unfold vF uu at hv;subst hv;obtain⟨k8,t8,a8⟩:=x8;simp only at hr fT ⊢;have tX:=rL.q.le;have ct:=n8.adv;have cy:=zk w8 (.cells #[.int .u8 k8,.string ⟨t8.toArray⟩,.int .i64 a8] 66 (0,0));have h9:=h8.below (zf w8 (.cells #[.int .u8 k8,.string ⟨t8.toArray⟩,.int .i64 a8] 66 (0,0)));have F9:=F8.trans (Fr.of_below h8.base (zf w8 (.cells #[.int .u8 k8,.string ⟨t8.toArray⟩,.int .i64 a8] 66 (0,0))));have T9:=(T4.trans f8).trans (Fr.of_below h8.base (zf w8 (.cells #[.int .u8 k8,.string ⟨t8.toArray⟩,.int .i64 a8] 66 (0,0))));have MR:=eS.q.fr ((Fr.of_below TC.q (zf w1 (vE (w.heap.size+1)))).trans T9);have bm:=T9.keep _ _ _ _ (zk w1 (vE (w.heap.size+1))) (by decide) (by decide);have rF:=rL;obtain⟨i,bU,hi,tE⟩:=zg4 L hL.q t8 fT;rw[hN.q] at hi;have Pu:(i:Int)<(N:Int):=by omega
   have WM:¬((i:Int)<0):=by omega
   have cK:=MR.kd hL.q tE;generalize YX L t8=kk at hr cK;go_wp2_with fail;generalize w8.alloc (.cells #[.int .u8 k8,.string ⟨t8.toArray⟩,.int .i64 a8] 66 (0,0))=w9 at *;have HX:=zh (λ(W:World) (hb:Below w9.heap.size w9 W)=>bU▸zhg (yD L) t8 (w.heap.size+1+2*L) N N W hN.q ((MR.below hb).ss hL.q) (by have:=TW.q;omega) fT);have hS:∀W,Cl w9.drew W->(W.cell? ⟨w1.heap.size,L*2,none⟩=some (jU (w.heap.size+1+2*L) N)/\W.cell? ⟨w1.heap.size,L*2+1,none⟩=some (jU (w.heap.size+1+2*L+1) N)/\W.cell? ⟨w8.heap.size,1,none⟩=some (.string ⟨t8.toArray⟩)/\W.cell? ⟨w.heap.size+1+2*L+1,i,none⟩=some (.int .u8 kk)):=λW hC=>by
    have hb:Below w9.heap.size w9 W:=zg bR.drew hC.below;exact⟨(zd (zi hb bm) (L*2)).trans (sR.q _),(zd (zi hb bm) (L*2+1)).trans (aq.q _),zd (zi hb cy) 1,zl hb cK⟩
   have Rh:=zh cy;have AW:=zh bm;clear cy bm tE fT bU cK;refine zb6 [(0,0),(1,0),(2,0),(3,1),(4,0),(5,0),(6,0),(7,1),(8,0),(9,1),(10,2),(11,0),(12,1),(13,0)] ?_;refine goM ?_;refine yH rfl rfl (λK hK W hW=>?_);go_simp;refine (HX.q W (zg bR.drew hW.below)).mono ?_;rintro e wa ⟨rfl,rfl⟩;go_simp;refine⟨ZL.2 bR,hK _ _ ?_⟩;clear hK K
   try simp only[Act.put,yh,yf,yg]
   have hS:=λV (hC:Cl wa V)=>hS V (hW.trans hC)
   refine goM ?_;refine zF λW bM=>?_
   have rN:Below w9.heap.size w9 W:=zg (zg bR.drew hW.below) bM.below;clear hS hW bM HX;have mR:=h9.below rN;have mi:=F9.trans (Fr.of_below h9.base rN);have PA:=T9.trans (Fr.of_below h9.base rN);have dh:=zi rN Rh.q;have hS:∀V,(xg base).rel W.drew V->V.cell? ⟨w8.heap.size,2,none⟩=some (.int .i64 a8):=λV hF=>zd (hF.keep _ _ _ _ dh (by decide) (by decide)) 2
   clear dh;go_wp2_with fail;refine LodeX.xC (RR:=xg base) (Xp:=XP base r w) [(0,0),(1,0),(2,0),(3,1),(4,0),(5,0),(6,0),(7,0),(8,2),(9,2),(10,2),(11,0)] ?_;refine LodeX.xt ?_;refine LodeX.callX λK hK=>?_
   go_simp;refine Jk hr (hT.q _ _ _ (mR.below bR.drew) rF.q (by omega)) mi ((Fr.of_below mR.base bR.drew)) ?_;clear hr;intro al rr br bW mX rH ms hr;refine⟨rH,hK _ _ ?_⟩;clear hK K;have hS:=λW (hF:(xg base).rel al W)=>hS W (Fr.trans rH hF)
   try simp only[Act.put,yh,yf,yg]
   obtain⟨ak,ed⟩:=gT.q rF.q.le rF.q.wf bW;have px:=rF.q.nx ak (by decide);have mE:br.nz.length<=1000000:=by have:=px.few;have:=px.le;omega
   refine LodeX.callX λK hK=>?_
   go_simp;refine⟨Fr.of_below mX.base (zf _ _),hK _ _ ?_⟩;clear hK K
   try simp only[Act.put,yh,yf,yg]
   refine LodeX.callX λK hK=>?_
   go_simp;refine Jk hr (zE (mX.below (zf _ _)) kk [] 0 a8 [left,rr] _ (KS.lit _ [left,rr]) (mX.fresh _ _) mE) ms ((Fr.of_below mX.base (zf _ _))) ?_;clear hr;intro fC aV gq gG mh sZ mx hr;refine⟨sZ,hK _ _ ?_⟩;clear hK K
   try simp only[Act.put,yh,yf,yg]
   obtain⟨gY,At⟩:=zQ px.le px.wf (KH ((RZ.later n8).later ak) (XE ed)) gG;have CR:=(n8.trans ak).trans gY;have rx:=mZ.q.nx CR (by decide);have EX:=gY.next;have EW:=ak.next;have fj:=rx.le;have Rp:=((PA.trans (Fr.of_below mR.base bR.drew)).trans rH).trans ((Fr.of_below mX.base (zf _ _)).trans sZ);refine LodeX.xt ?_;refine LodeX.zF λW hW=>?_
   cases hW;clear hS;replace hr:=zh (show YE L tight k aV E gq=r from by have h9:=hr.q;rw[if_neg (by simp[PY.q])] at h9;exact h9);go_wp2;go_roundw
   case rel=>exact⟨gq,k,aV,rfl,hr.q,by omega,by omega,At,rx,mh,mx,Rp⟩
   case measure=>
    rw[mh.xw,h3.xw];omega
def zkz(hT:PCb E base pb iv n (4+1) tight)(hg:Gd 0 Vd tight):PCb E base pb iv n 4 (Zp 4 tight):=Jf (L:=4) (by decide) (by decide) hT hg
def zkA(hT:PCb E base pb iv n (3+1) tight)(hg:Gd 0 Vd tight):PCb E base pb iv n 3 (Zp 3 tight):=Jf (L:=3) (by decide) (by decide) hT hg
def zkC(hT:PCb E base pb iv n (1+1) tight)(hg:Gd 0 Vd tight):PCb E base pb iv n 1 (Zp 1 tight):=Jf (L:=1) (by decide) (by decide) hT hg
def zkD(hT:PCb E base pb iv n (0+1) tight)(hg:Gd 0 Vd tight):PCb E base pb iv n 0 (Zp 0 tight):=Jf (L:=0) (by decide) (by decide) hT hg
def zkB(hR:yW R)(hB:PCb E base pb iv n 2 R.bin2)(hT:PCb E base pb iv (n+1) (2+1) (XQ R)):PCb E base pb iv (n+1) 2 (Zy R):=by
 intro G w mI h0 mN hn;obtain⟨r,hr⟩:=exE (Zy R E mI);rw[hr];unfold Zy at hr;obtain⟨N,hN,TW,sR,aq⟩:=zdW 2 (by decide);have hL:=zh (show 2<5 by decide);replace hr:=zh hr;have F0:=Fr.refl base w;have HL:=zh (Yn w);unfold lvV at HL;replace hT:=zh hT;replace hB:=zh hB;replace mN:=zh mN;have gT:Hid (Gd 0 Vd (XQ R)):=zh (λh0 hw h=>KY hR h0 hw h);replace hR:=zh hR;have nK:=mN.q.lim;have pk:=mN.q.le;have mH:=h0.base;go_enter func248,ntmps248;go_wp2_with fail;refine HL.q.mono ?_;rintro e w1 ⟨rfl,eS,mF⟩;have h1:=h0.below mF;have F1:=F0.trans (Fr.of_below h0.base mF);have nM:=mN;have TC:=zh h1.base;replace eS:=zh eS;have HS:=kB (h1.below (zf w1 (vE (w.heap.size+1)))) [110,111,116];rw[World.size_alloc] at HS;replace HS:=zh HS;go_wp2_with fail;refine HS.q.mono ?_;rintro e w2 ⟨rfl,mM⟩;have mM:Below (w1.alloc (vE (w.heap.size+1))).heap.size (w1.alloc (vE (w.heap.size+1))) w2:=zg (zf (w1.alloc (vE (w.heap.size+1))) (.cells #[.string ⟨[110,111,116].toArray⟩] 9 (0,0))) (by simpa using mM);have aq:=h1.below (zf w1 (vE (w.heap.size+1)));have h2:=aq.below mM;have T2:=Fr.of_below aq.base mM;have F2:=(F1.trans (Fr.of_below h1.base (zf w1 (vE (w.heap.size+1))))).trans T2;have nT:=nM;clear HS;cases hk:xO (zw E mI) [[110,111,116]] with
 |true=>
  replace hr:=zh ((ul hk).symm.trans hr.q);go_wp2_with fail;refine pgo hr (uh h2 (by omega)) F2 (Fr.refl _ _) ?_;clear hr;intro w3 x3 st3 v hv rV h3 f3 F3 hr;have n3:=vU (uB hk) nT.q.wf rV;have mZ:=zh (nT.q.nx n3 (by decide));unfold vF uu at hv;subst hv;obtain⟨k3,t3,a3⟩:=x3;simp only at hr ⊢;have hz:=zk w3 (.cells #[.int .u8 k3,.string ⟨t3.toArray⟩,.int .i64 a3] 66 (0,0));have h4:=h3.below (zf w3 (.cells #[.int .u8 k3,.string ⟨t3.toArray⟩,.int .i64 a3] 66 (0,0)));have F4:=F3.trans (Fr.of_below h3.base (zf w3 (.cells #[.int .u8 k3,.string ⟨t3.toArray⟩,.int .i64 a3] 66 (0,0))));go_wp2_with fail;generalize w3.alloc (.cells #[.int .u8 k3,.string ⟨t3.toArray⟩,.int .i64 a3] 66 (0,0))=w4 at *;have hS:∀W,(xg base).rel w4.drew W->W.cell? ⟨w3.heap.size,2,none⟩=some (.int .i64 a3):=λW hF=>zd (hF.keep _ _ _ _ hz (by decide) (by decide)) 2
  clear hz;have tg:=n3.adv;have rD:=mZ.q.le;refine LodeX.xC (RR:=xg base) (Xp:=XP base r w) [(0,0),(1,0),(2,1),(3,0),(4,2),(5,2),(6,2),(7,0)] ?_;refine LodeX.xt ?_;refine LodeX.callX λK hK=>?_
  go_simp;refine Jk hr (hB.q _ _ _ (h4.below bR.drew) mZ.q (by omega)) F4 ((Fr.of_below h4.base bR.drew)) ?_;clear hr;intro w7 x7 ta so h7 f7 F7 hr;refine⟨f7,hK _ _ ?_⟩;clear hK K;have hS:=λW (hF:(xg base).rel w7 W)=>hS W (Fr.trans f7 hF)
  try simp only[Act.put,yh,yf,yg]
  obtain⟨n7,Ro⟩:=hR.q.bin2 mZ.q.le mZ.q.wf so;have pa:=mZ.q.nx n7 (by decide);have mE:ta.nz.length<=1000000:=by have:=pa.few;have:=pa.le;omega
  refine LodeX.callX λK hK=>?_
  go_simp;refine⟨Fr.of_below h7.base (zf _ _),hK _ _ ?_⟩;clear hK K
  try simp only[Act.put,yh,yf,yg]
  refine LodeX.callX λK hK=>?_
  go_simp;refine zX hr (zE (h7.below (zf _ _)) 7 [] 0 a3 [x7] _ (KS.lit _ [x7]) (h7.fresh _ _) mE) F7 (Fr.of_below h7.base (zf _ _)) ?_;rintro w8 x8 aO su rfl h8 f8 F8;refine⟨f8,hK _ _ ?_⟩;clear hK K
  try simp only[Act.put,yh,yf,yg]
  refine LodeX.xt ?_;refine LodeX.zF λW hW=>?_
  cases hW;clear hS;go_wp2;go_ret;exact⟨⟨_,rfl,rfl⟩,h8,F8⟩
 |false=>
  replace hr:=zh ((kL hk).symm.trans hr.q);clear hk;unfold Zp at hr;go_wp2_with fail;refine QX hr (hT.q _ _ _ h2 nT.q hn) F2 (Fr.refl _ _) nT (gT.q) ?_;clear hr;intro w3 x3 st3 rV h3 f3 F3 n3 Sg mZ rD tg hr;have mK:zhC E base pb (n+1) iv G 2 (XQ R) w (w1.alloc (vE (w.heap.size+1))) r (.int .i64 x3) w3:=⟨st3,_,x3,rfl,hr.q,by omega,by omega,Sg,mZ.q,h3,F3,T2.trans f3⟩;replace mK:=zh mK;clear hr h1 mF F1 h2 F2 rV T2 h3 F3 f3 aq;go_wp2;go_loopw [7] (λv wr=>zhC E base pb (n+1) iv G 2 (XQ R) w (w1.alloc (vE (w.heap.size+1))) r v wr) (λ_ wr=>E.tz.length+1-xw pb wr)
  case atStart=>exact mK.q
  case round=>
   obtain⟨st3,k,left,rfl,hr,hk,bC,RZ,mZ,h3,F3,T3⟩:=hrel;obtain⟨k,rfl⟩:∃m,k=m+1:=⟨k-1,by omega⟩;unfold YE at hr;have rD:=mZ.le;replace mZ:=zh mZ;replace hr:=zh hr;have pq:=zh (eS.q.fr ((Fr.of_below TC.q (zf w1 (vE (w.heap.size+1)))).trans T3));have AW:=zh (T3.keep _ _ _ _ (zk w1 (vE (w.heap.size+1))) (by decide) (by decide));have q0:=(zd AW.q (2*2)).trans (sR.q _);have HI:=zf1 h3 (yD 2) (w.heap.size+1+2*2) N (pq.q.ss hL.q) (by have:=hN.q;have:=TW.q;omega);rw[hN.q] at HI;replace HI:=zh HI;go_wp2_with fail;refine HI.q.mono ?_;rintro e w4 ⟨rfl,mQ⟩;have h4:=h3.below mQ;have F4:=F3.trans (Fr.of_below h3.base mQ);have T4:=T3.trans (Fr.of_below h3.base mQ);have rl:=mZ;clear HI;cases pj:xO (zw E st3) (yD 2) with
   |false=>
    have pu:qK.ok left st3=r:=(kL pj).symm.trans hr.q;subst pu;go_wp2;go_ret;exact⟨⟨_,rfl,rfl⟩,h4,F4⟩
   |true=>
    replace hr:=zh ((ul pj).symm.trans hr.q);have fT:=zeb pj;go_wp2_with fail;refine pgo hr (uh h4 (by omega)) F4 (Fr.refl _ _) ?_;clear hr;intro w8 x8 aO v hv su h8 f8 F8 hr;have n8:=vU (uB pj) rl.q.wf su;have rL:=zh (rl.q.nx n8 (by decide));have AU:zw E st3=x8:=by cases su;rfl
    rw[AU] at fT;clear AU pj;unfold vF uu at hv;subst hv;obtain⟨k8,t8,a8⟩:=x8;simp only at hr fT ⊢;have tX:=rL.q.le;have ct:=n8.adv;have cy:=zk w8 (.cells #[.int .u8 k8,.string ⟨t8.toArray⟩,.int .i64 a8] 66 (0,0));have h9:=h8.below (zf w8 (.cells #[.int .u8 k8,.string ⟨t8.toArray⟩,.int .i64 a8] 66 (0,0)));have F9:=F8.trans (Fr.of_below h8.base (zf w8 (.cells #[.int .u8 k8,.string ⟨t8.toArray⟩,.int .i64 a8] 66 (0,0))));have T9:=(T4.trans f8).trans (Fr.of_below h8.base (zf w8 (.cells #[.int .u8 k8,.string ⟨t8.toArray⟩,.int .i64 a8] 66 (0,0))));have MR:=eS.q.fr ((Fr.of_below TC.q (zf w1 (vE (w.heap.size+1)))).trans T9);have bm:=T9.keep _ _ _ _ (zk w1 (vE (w.heap.size+1))) (by decide) (by decide);have rF:=rL;obtain⟨i,bU,hi,tE⟩:=zg4 2 hL.q t8 fT;rw[hN.q] at hi;have Pu:(i:Int)<(N:Int):=by omega
    have WM:¬((i:Int)<0):=by omega
    have cK:=MR.kd hL.q tE;generalize YX 2 t8=kk at hr cK;go_wp2_with fail;generalize w8.alloc (.cells #[.int .u8 k8,.string ⟨t8.toArray⟩,.int .i64 a8] 66 (0,0))=w9 at *;have HX:=zh (λ(W:World) (hb:Below w9.heap.size w9 W)=>bU▸zhg (yD 2) t8 (w.heap.size+1+2*2) N N W hN.q ((MR.below hb).ss hL.q) (by have:=TW.q;omega) fT);have hS:∀W,Cl w9.drew W->(W.cell? ⟨w1.heap.size,2*2,none⟩=some (jU (w.heap.size+1+2*2) N)/\W.cell? ⟨w1.heap.size,2*2+1,none⟩=some (jU (w.heap.size+1+2*2+1) N)/\W.cell? ⟨w8.heap.size,1,none⟩=some (.string ⟨t8.toArray⟩)/\W.cell? ⟨w.heap.size+1+2*2+1,i,none⟩=some (.int .u8 kk)):=λW hC=>by
     have hb:Below w9.heap.size w9 W:=zg bR.drew hC.below;exact⟨(zd (zi hb bm) (2*2)).trans (sR.q _),(zd (zi hb bm) (2*2+1)).trans (aq.q _),zd (zi hb cy) 1,zl hb cK⟩
    have Rh:=zh cy;have AW:=zh bm;clear cy bm tE fT bU cK;refine zb6 [(0,0),(1,0),(2,0),(3,1),(4,0),(5,0),(6,0),(7,1),(8,0),(9,1),(10,2),(11,0),(12,1),(13,0)] ?_;refine goM ?_;refine yH rfl rfl (λK hK W hW=>?_);go_simp;refine (HX.q W (zg bR.drew hW.below)).mono ?_;rintro e wa ⟨rfl,rfl⟩;go_simp;refine⟨ZL.2 bR,hK _ _ ?_⟩;clear hK K
    try simp only[Act.put,yh,yf,yg]
    have hS:=λV (hC:Cl wa V)=>hS V (hW.trans hC)
    refine goM ?_;refine zF λW bM=>?_
    have rN:Below w9.heap.size w9 W:=zg (zg bR.drew hW.below) bM.below;clear hS hW bM HX;have mR:=h9.below rN;have mi:=F9.trans (Fr.of_below h9.base rN);have PA:=T9.trans (Fr.of_below h9.base rN);have dh:=zi rN Rh.q;have hS:∀V,(xg base).rel W.drew V->V.cell? ⟨w8.heap.size,2,none⟩=some (.int .i64 a8):=λV hF=>zd (hF.keep _ _ _ _ dh (by decide) (by decide)) 2
    clear dh;go_wp2_with fail;refine LodeX.xC (RR:=xg base) (Xp:=XP base r w) [(0,0),(1,0),(2,0),(3,1),(4,0),(5,0),(6,0),(7,0),(8,2),(9,2),(10,2),(11,0)] ?_;refine LodeX.xt ?_;refine LodeX.callX λK hK=>?_
    go_simp;refine Jk hr (hT.q _ _ _ (mR.below bR.drew) rF.q (by omega)) mi ((Fr.of_below mR.base bR.drew)) ?_;clear hr;intro al rr br bW mX rH ms hr;refine⟨rH,hK _ _ ?_⟩;clear hK K;have hS:=λW (hF:(xg base).rel al W)=>hS W (Fr.trans rH hF)
    try simp only[Act.put,yh,yf,yg]
    obtain⟨ak,ed⟩:=gT.q rF.q.le rF.q.wf bW;have px:=rF.q.nx ak (by decide);have mE:br.nz.length<=1000000:=by have:=px.few;have:=px.le;omega
    refine LodeX.callX λK hK=>?_
    go_simp;refine⟨Fr.of_below mX.base (zf _ _),hK _ _ ?_⟩;clear hK K
    try simp only[Act.put,yh,yf,yg]
    refine LodeX.callX λK hK=>?_
    go_simp;refine Jk hr (zE (mX.below (zf _ _)) kk [] 0 a8 [left,rr] _ (KS.lit _ [left,rr]) (mX.fresh _ _) mE) ms ((Fr.of_below mX.base (zf _ _))) ?_;clear hr;intro fC aV gq gG mh sZ mx hr;refine⟨sZ,hK _ _ ?_⟩;clear hK K
    try simp only[Act.put,yh,yf,yg]
    obtain⟨gY,At⟩:=zQ px.le px.wf (KH ((RZ.later n8).later ak) (XE ed)) gG;have CR:=(n8.trans ak).trans gY;have rx:=mZ.q.nx CR (by decide);have EX:=gY.next;have EW:=ak.next;have fj:=rx.le;have Rp:=((PA.trans (Fr.of_below mR.base bR.drew)).trans rH).trans ((Fr.of_below mX.base (zf _ _)).trans sZ);refine LodeX.xt ?_;refine LodeX.zF λW hW=>?_
    cases hW;clear hS;have Eo:qK.ok aV gq=r:=hr.q;subst Eo;go_wp2;go_ret;exact⟨⟨_,rfl,rfl⟩,mh,mx⟩
