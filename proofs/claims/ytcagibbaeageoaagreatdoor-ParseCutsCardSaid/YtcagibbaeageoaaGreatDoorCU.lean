/-
  A part of the proof: contracts of functions; no conditions.
-/
import Derived.Test.YtcagibbaeageoaaGreatDoorCN
import Derived.Test.YtcagibbaeageoaaGreatDoorCT
set_option maxRecDepth 100000
set_option maxHeartbeats 40000000
set_option linter.unusedSimpArgs false
set_option linter.unusedVariables false
namespace Go.Proofs.YtcagibbaeageoaaGreatDoor
section
open Go.RowKit Lode Go.Shelf
attribute [local go_sem] Oper.semAt_some
open Go.Proofs.Tryz
theorem zfG(s:List UInt8):Go.Lib.trimSuffix (s ++ [10]) [10]=s:=by
 unfold Go.Lib.trimSuffix;rw[if_pos (by simp[Go.Lib.hasSuffix])];simp
def ItC(w:World)(l:List (Nat×Obj))(W:World):Prop:=Below w.heap.size w W/\∀x∈l,W.heap[x.1]? =some x.2
theorem ItC.own{w W W':World}{l:List (Nat×Obj)}{B:Nat}{row:Option Nat}(hB:w.heap.size<=B)(hl:∀x∈l,x.2.isCells=true)(h:ItC w l W)(hg:W.grownBy W' row)(hr:∀r,row=some r->False\/(B<=r/\∃o:Obj,W.heap[r]? =some o/\o.isCells=false)):ItC w l W':=by
 have hr2:∀r,row=some r->B<=r/\∃o:Obj,W.heap[r]? =some o/\o.isCells=false:=fun r e=>(hr r e).elim False.elim id
 refine⟨h.1.grown hg h.1.size (fun r e=>pQ hB (hr2 r e).1),fun x hx=>?_⟩;have hh:=h.2 x hx;rw[hg.block x.1 (gtA hh) (fun e=>by
  obtain⟨_,o,ho,hc⟩:=hr2 _ e.symm;rw[hh] at ho;cases ho;rw[hl x hx] at hc;cases hc)]
 exact hh
theorem Ji.setX{X:Nat->Prop}{base:Nat}{W:World}{b i:Nat}{v:Value}(hb:base<=b)(hx:X b):Ji X base W (W.setCell ⟨b,i,none⟩ v):=
 ⟨(pE _ W).setCell (p:=⟨b,i,none⟩) hb v,Nat.le_of_eq (by simp),fun k o hX _ hk=>(zw (fun e=>hX (by rw[e];exact hx))).trans hk⟩
def itL(w:World)(A:Nat)(item:Int)(j:Nat):List (Nat×Obj):=[(A,.cells #[.int .i64 j] 3 (0,0)),(w.heap.size+1,.cells #[.int .i64 item] 3 (0,0)),(w.heap.size+2,.cells #[.string ⟨#[]⟩] 9 (0,0)),(w.heap.size+3,.cells #[.int .i64 0] 27 (0,0))]
def Xz(w:World)(r:List UInt8×Nat):List (Nat×Obj):=[(w.heap.size+2,.cells #[.string ⟨r.1.toArray⟩] 9 (0,0)),(w.heap.size+3,.cells #[.int .i64 (r.2:Nat)] 27 (0,0))]
theorem zab(w:World)(A:Nat)(item:Int)(j:Nat):∀x∈itL w A item j,x.2.isCells=true:=by simp[itL,Obj.isCells]
theorem zgu(w:World)(r:List UInt8×Nat):∀x∈Xz w r,x.2.isCells=true:=by simp[Xz,Obj.isCells]
def ItI(w:World)(A:Nat)(item:Int)(m:Nat)(pre:List ByteArray)(W:World):Prop:=ItC w (itL w A item pre.length) W/\pre.length<=m/\¬(0<=item/\item<(pre.length:Int))
theorem zih{w W:World}{r:List UInt8×Nat}{Dd:Nat}{tm:Array Value}(v2:W.heap[w.heap.size+2]? =some (.cells #[.string ⟨r.1.toArray⟩] 9 (0,0)))(v3:W.heap[w.heap.size+3]? =some (.cells #[.int .i64 (r.2:Nat)] 27 (0,0)))(vd:W.heap[Dd]? =some (.deferred (some [])))(vb:Below w.heap.size w W)(hD:w.heap.size+4<=Dd)(h4:tm[4]? =some (.pointer (some ⟨w.heap.size+2,0,none⟩)):=by rfl)(h5:tm[5]? =some (.pointer (some ⟨w.heap.size+3,0,none⟩)):=by rfl):
 bodyPostM Fence.wide 5 prog Tryz.f32 (zgR w r) Exit.ret {tmps:=tm,defers:=[{target:=.collected Dd,args:= #[]}]} W:=by
 have u2:=zd (qI (l:=Dd) (o':=.deferred none) v2 (by omega)) 0;have u3:=zd (qI (l:=Dd) (o':=.deferred none) v3 (by omega)) 0;refine⟨by simp,.inl ⟨_,_,rfl,run_takeDeferred vd,?_⟩⟩;refine⟨.tuple #[.string ⟨r.1.toArray⟩,.int .i64 (r.2:Nat)],by simp[results,results32,go_sem,u2,u3,h4,h5],rfl,vb.grown (grownBy_putObj' W Dd _) vb.size (fun r e=>?_)⟩;cases e;omega
theorem ziU(t:zU)(nv iv:Value)(item:Int)(w:World)(hT:TR w nv iv t)(hG:qG w)(hok:ut t):Calls prog 32 #[.agg #[nv,iv],.int .i64 item] w (zgR w (VY t item)):=by
 obtain⟨R,hR⟩:=exE (VY t item);rw[hR];unfold VY at hR;obtain⟨np,nc,ip,ic,hnv,hiv⟩:=hT.form;have h0:=zK [.cells #[nv,iv] 26 (0,0),.cells #[.int .i64 item] 3 (0,0),.cells #[.string ⟨#[]⟩] 9 (0,0),.cells #[.int .i64 0] 27 (0,0)] w;have hAl:Below w.heap.size w _:=zQ [.cells #[nv,iv] 26 (0,0),.cells #[.int .i64 item] 3 (0,0),.cells #[.string ⟨#[]⟩] 9 (0,0),.cells #[.int .i64 0] 27 (0,0)] w;simp only[List.foldl_cons,List.foldl_nil,pN,wC] at hAl h0;have r0:=h0 0 _ rfl;rw[Nat.add_zero] at r0;have r1:=h0 1 _ rfl;have r2:=h0 2 _ rfl;have r3:=h0 3 _ rfl;have hC:=zj (vB t _ _ _ (hT.below hAl) (hG.later hAl) hok);have hPO:=zj (fun (h:yj t=0)=>ze1 hok h);have c0:=zd r0 0;have c1:=zd r0 1;have HT:=zj hT;have HG:=zj hG;have HR:=zj hR;have HQ:=zj (And.intro r0 (And.intro r1 (And.intro r2 r3)));have HAl:=zj hAl;clear h0 r0 r1 r2 r3 hT hG hR hok hnv hiv hAl;generalize hck:yj t=ck at *;have Hck:=zj hck;clear hck;have hfn:∀f,Fence.wide.fn f=True:=fun _=>rfl
 refine (callsIn_wide (n:=5)).1 ?_;refine callsIn_of_wp_marks func32 rfl trivial ?_ rfl;simp only[ntmps32,List.size_toArray,pN,wC,Nat.reduceAdd,Nat.reduceSub,Array.replicate_succ,Array.replicate_zero,List.push_toArray,List.append_toArray,wP,wG]
 gi_wp2_with fail
 refine (callsIn_wide.2 hC.out).mono ?_;rintro e w2 ⟨rfl,hb2⟩;have hB2:=zf HAl.out hb2;clear c0 c1 hC;obtain⟨r0,r1,r2,r3⟩:=HQ.out;have r0:=zi hb2 r0;have r1:=zi hb2 r1;have r2:=zi hb2 r2;have r3:=zi hb2 r3;have c0:=zd r0 0;have c1:=zd r0 1;have z2:=zd r2 0;have z3:=zd r3 0;have f2:=zk r2 0;have f3:=zk r3 0;by_cases hck:ck=0
 ·subst hck;have hr:=HR.out;rw[if_neg (by simp)] at hr;have HPO:=zj (hPO.out rfl);have HRr:=zj hr;have hw4:w.heap.size+4<=w2.heap.size:=pQ (show w.heap.size+4<=_ by simp) hb2.size;clear hr z2 z3 f2 f3 HQ;have d0:=zh (zg w2 (.cells #[.int .i64 0] 3 (0,0))) c0;have d1:=zh (zg w2 (.cells #[.int .i64 0] 3 (0,0))) c1;clear c0 c1
  gi_wp2_with fail
  refine (callsIn_wide.2 (VQ _ _ _)).mono ?_;rintro e w4 ⟨rfl,rfl⟩;clear d0 d1
  gi_wp2_with fail
  obtain⟨w3,hw3⟩:=exE ((w2.alloc (.cells #[.int .i64 0] 3 (0,0))).alloc (.cells #[nv,iv] 26 (0,0)));have hbA:=zg (w2.alloc (.cells #[.int .i64 0] 3 (0,0))) (.cells #[nv,iv] 26 (0,0));have hbB:=zf (zg w2 (.cells #[.int .i64 0] 3 (0,0))) hbA;have hat:=zi hbA (zl w2 (.cells #[.int .i64 0] 3 (0,0)));have hCb:=zl (w2.alloc (.cells #[.int .i64 0] 3 (0,0))) (.cells #[nv,iv] 26 (0,0));rw[show (w2.alloc (.cells #[.int .i64 0] 3 (0,0))).heap.size=w2.heap.size+1 by simp] at hCb;have hs3:w2.heap.size+2<=((w2.alloc (.cells #[.int .i64 0] 3 (0,0))).alloc (.cells #[nv,iv] 26 (0,0))).heap.size:=by simp
  have r1:=zi hbB r1;have r2:=zi hbB r2;have r3:=zi hbB r3;have hB4:=zj (zf hB2 hbB);rw[hw3] at hat hCb hs3 r1 r2 r3 hB4 ⊢;clear hbA hbB hw3 r0;obtain⟨A,hA⟩:=exE (w2.heap.size);rw[hA] at hat hCb hs3 hw4 ⊢;generalize hact:(Act.mk _ [])=a0;have hXs:∀k,(k=A\/k=w.heap.size+2\/k=w.heap.size+3)->k<w3.heap.size:=fun k hk=>by omega
  have hXC:¬(A+1=A\/A+1=w.heap.size+2\/A+1=w.heap.size+3):=by omega
  have hws:w.heap.size<=w3.heap.size:=by omega
  have hI0:ItI w A item t.items.length [] w3:=⟨⟨hB4.out,by simp only[itL,wR];exact⟨hat,r1,r2,r3,fun x hx=>by cases hx⟩⟩,pV _,fun h=>by simp at h;omega⟩;have hm40:=HPO.out.items;have HNl:=zj (fun (k:Int) (hk:k∈t.items)=>(show (prT t k).length<=3200000 from by
   obtain⟨h0,h1⟩:=HPO.out.its k hk;obtain⟨kn,rfl⟩:=pJ h0;exact ZU HPO.out.full HPO.out.right HPO.out.nodes _ kn (by omega)))
  clear r1 r2 r3 hat;refine YX (encs:=fun x:ByteArray=> #[.string x]) (gf:=106) (la:= #[]) (lb:= #[.pointer (some ⟨A+1,0,none⟩)]) rfl (by omega) (by rw[<-hact];rfl) trivial (enters_of func106 (by kernel_rfl) rfl)
   (VP (fun k=>k=A\/k=w.heap.size+2\/k=w.heap.size+3) w (A+1) t nv iv HT.out HG.out HPO.out w3 hB4.out hCb hXC hXs _ (by omega)) (fun r h=>h.elim) (fun x=>rfl) Ji.trans (fun W l o o' hl ho=>Ji.put (w:=w3) (by omega) W l o o' hl ho)
   (ItI w A item t.items.length) (fun c _ W=>c=.ret/\ItC w (Xz w R) W) (fun pre W W' row h hg hr=>⟨h.1.own (B:=w3.heap.size) hws (zab w A item pre.length) hg hr,h.2⟩) (fun c s W W' row h hg hr=>⟨h.1,h.2.own (B:=w3.heap.size) hws (zgu w R) hg hr⟩) hI0
   (fun pre x a' W=>ItI w A item t.items.length pre W/\a'={tmps:=((a0.tmps.setIfInBounds 16 (.string x)).setIfInBounds 8 (.string x)),defers:=[]})
   (fun pre x a' W l o o' ⟨h1,h2⟩ hl ho hc=>⟨⟨h1.1.own (B:=w3.heap.size) hws (zab w A item pre.length) (grownBy_putObj' W l o') (fun r e=>by cases e;exact .inr ⟨hl,o,ho,hc⟩),h1.2⟩,h2⟩) ?assign ?body ?done ?stop
  case assign=>
   rintro L pre x W K hI hGx hK;subst hact;simp only[List.zip_toArray,List.zip_cons_cons,List.zip_nil_left,List.foldl_toArray',List.foldl_cons,List.foldl_nil,yC,yA,yB]
   gi_wp2_with fail
   refine hK _ _ (KeepsOthers.refl _) (Ji.refl _ _ _) ⟨hI,?_⟩;simp only[yC,yA,yB]
  case body=>
   rintro L pre x a' W ⟨hI,rfl⟩ ⟨hpl,hx⟩;subst hact;simp only[yC,yA,yB];have hxs:=yu hx;have hmem:t.items.getD pre.length 0∈t.items:=by rw[pB,glE hpl];exact wF hpl
   have hnl:=HNl.out _ hmem;rw[pG,pK] at hxs;obtain⟨⟨hBW,hcs⟩,_,hni⟩:=hI;simp only[itL,wR] at hcs;obtain⟨q0,q1,q2,q3,_⟩:=hcs;have y0:=zd q0 0;have y1:=zd q1 0;have y2:=zd q2 0;have y3:=zd q3 0;have g0:=zk q0 0;have g2:=zk q2 0;have g3:=zk q3 0;have HQ:=zj (And.intro q0 (And.intro q1 (And.intro q2 q3)));have hfn2:∀f,(Fence.wide.inRound L).fn f=True:=fun _=>rfl
   have hpl40:pre.length<=40:=by omega
   obtain⟨j,hj⟩:=exE (pre.length);rw[hj] at hpl hx hnl hni y0 HQ hpl40 hxs;have hle:(pre ++ [x]).length=j+1:=by simp[hj]
   clear q0 q1 q2 q3 hmem;by_cases he:item=(j:Int)
   ·have he':((j:Int) == item)=true:=by rw[pX];exact he.symm
    have hR:=HRr.out;rw[if_neg (by omega),show item.toNat=j by omega] at hR;have hTs:=zj (Tryz.strings_TrimSuffix x ⟨#[10]⟩ W (by omega));rw[hx,show (⟨#[10]⟩:ByteArray).data.toList=[10] from rfl,zfG] at hTs;generalize hpl9:prT t (t.items.getD j 0)=P9 at *;clear hpl9;have hLm:=zj (QR P9 W (by omega) (HG.out.later hBW));rw[hR] at hLm;clear hR
    gi_wp2_with fail
    refine (LodeX.vT hTs.out).mono ?_;rintro e W' ⟨rfl,rfl⟩;clear hTs
    gi_wp2_with fail
    refine (LodeX.vT hLm.out).mono ?_;rintro e W' ⟨rfl,hbl⟩;obtain⟨q0,q1,q2,q3⟩:=HQ.out;have q2:=zi hbl q2;have q3:=zi hbl q3;have z2:=zd q2 0;have z3:=zd q3 0;have h2:=zk q2 0;have h3:=zk q3 0;have H23:=zj (And.intro q2 (And.intro q3 (And.intro hbl (zf hBW hbl))));clear hLm HQ q0 q1 q2 q3 y0 y1 y2 y3 g0 g2 g3
    gi_wp2_with fail
    obtain⟨q2,q3,hbl,hbw⟩:=H23.out;refine⟨(KeepsOthers.trans ⟨hbl.size,fun k o hk _=>(hbl.block k (gtA hk)).trans hk⟩ (KeepsOthers.setCell _ _ _)).trans (KeepsOthers.setCell _ _ _),rfl,(hbw.setCell (p:=⟨w.heap.size+2,0,none⟩) (show w.heap.size<=w.heap.size+2 by omega) _).setCell (p:=⟨w.heap.size+3,0,none⟩) (show w.heap.size<=w.heap.size+3 by omega) _,?_⟩;simp only[Xz,wR];exact⟨(zw (by omega)).trans (zo q2 0 _),zo ((zw (by omega)).trans q3) 0 _,fun x hx=>by cases hx⟩
   ·have he':((j:Int) == item)=false:=by rw[pA];exact fun e=>he e.symm
    have wj:=pC ((j:Int)+1) (by omega)
    gi_wp2_with fail
    obtain⟨q0,q1,q2,q3⟩:=HQ.out;refine⟨KeepsOthers.setCell _ _ _,Ji.setX (by omega) (.inl rfl),⟨hBW.setCell (p:=⟨A,0,none⟩) (show w.heap.size<=A by omega) _,?_⟩,by rw[hle];omega,by rw[hle];omega⟩;rw[hle];simp only[itL,wR];exact⟨zo q0 0 _,(zw (by omega)).trans q1,(zw (by omega)).trans q2,(zw (by omega)).trans q3,fun x hx=>by cases hx⟩
  case done=>
   intro Dd xs W hS hI hDd hdd;obtain⟨⟨hBW,hcs⟩,_,hni⟩:=hI;simp only[itL,wR] at hcs;obtain⟨_,_,q2,q3,_⟩:=hcs;have hR:=HRr.out;rw[if_pos (by omega)] at hR;subst hR;subst hact;have y2:=zd q2 0;have y3:=zd q3 0;have g2:=zk q2 0;have g3:=zk q3 0
   gi_wp2_with fail
   have hd1:Dd<W.heap.size:=(gtA hdd);have v2:((W.setCell ⟨w.heap.size+2,0,none⟩ (.string ⟨#[]⟩)).setCell ⟨w.heap.size+3,0,none⟩ (.int .i64 7)).heap[w.heap.size+2]? =_:=(zw (by omega)).trans (zo q2 0 _);have v3:((W.setCell ⟨w.heap.size+2,0,none⟩ (.string ⟨#[]⟩)).setCell ⟨w.heap.size+3,0,none⟩ (.int .i64 7)).heap[w.heap.size+3]? =_:=zo ((zw (by omega)).trans q3) 0 _;have vd:((W.setCell ⟨w.heap.size+2,0,none⟩ (.string ⟨#[]⟩)).setCell ⟨w.heap.size+3,0,none⟩ (.int .i64 7)).heap[Dd]? =_:=(zw (by omega)).trans ((zw (by omega)).trans hdd);have vb:=(hBW.setCell (p:=⟨w.heap.size+2,0,none⟩) (show w.heap.size<=w.heap.size+2 by omega) (.string ⟨#[]⟩)).setCell (p:=⟨w.heap.size+3,0,none⟩) (show w.heap.size<=w.heap.size+3 by omega) (.int .i64 7);exact zih v2 v3 vd vb (by omega)
  case stop=>
   rintro Dd c pre W _ ⟨rfl,hx⟩ hDd hdd;subst hact
   gi_wp2
   obtain⟨hBW,hcs⟩:=hx;simp only[Xz,wR] at hcs;exact zih hcs.1 hcs.2.1 hdd hBW (by omega)
 ·have hck':((ck:Int) == 0)=false:=bfE (by omega)
  have hr:=HR.out;rw[if_pos hck] at hr;subst hr;clear c0 c1
  gi_wp2_with fail
  have v2:((w2.setCell ⟨w.heap.size+2,0,none⟩ (.string ⟨#[]⟩)).setCell ⟨w.heap.size+3,0,none⟩ (.int .i64 ck)).heap[w.heap.size+2]? =_:=(zw (by omega)).trans (zo r2 0 _);have v3:((w2.setCell ⟨w.heap.size+2,0,none⟩ (.string ⟨#[]⟩)).setCell ⟨w.heap.size+3,0,none⟩ (.int .i64 ck)).heap[w.heap.size+3]? =_:=zo ((zw (by omega)).trans r3) 0 _;have u2:=zd v2 0;have u3:=zd v3 0;exact⟨.tuple #[.string ⟨#[]⟩,.int .i64 ck],by simp[results,results32,go_sem,u2,u3],rfl,(hB2.setCell (p:=⟨w.heap.size+2,0,none⟩) (show w.heap.size<=w.heap.size+2 by omega) _).setCell (p:=⟨w.heap.size+3,0,none⟩) (show w.heap.size<=w.heap.size+3 by omega) _⟩
end
section
open Go.RowKit Lode Go.Shelf
attribute [local go_sem ↓] Go.wp_at_zero Go.wp_at_succ
open Go.Proofs.Tryz
theorem ze5{t:zU}(h:okB t=true):ut t/\∀x∈t.nodes,x.kids.length<=1000:=by
 unfold okB at h;simp only[pI,pH,pZ] at h;obtain⟨⟨h1,h2⟩,h3⟩:=h;exact⟨⟨fun x hx=>(h1 x hx).1.1,fun x hx=>by have:=(h1 x hx).1.2;omega,fun x hx=>by have:=(h1 x hx).2;omega,by omega,by omega⟩,fun x hx=>(h1 x hx).2⟩
end
section
open Go.RowKit Lode Go.Shelf
attribute [local go_sem ↓] Go.wp_at_zero Go.wp_at_succ
attribute [local irreducible] xf vX YF zdo zaY zhO zbj okB
open Go.Proofs.Tryz
theorem kd1:(⟨k1.toArray⟩:ByteArray).data.toList=k1:=rfl
theorem kd2:(⟨k2.toArray⟩:ByteArray).data.toList=k2:=rfl
theorem kd3:(⟨k3.toArray⟩:ByteArray).data.toList=k3:=rfl
theorem kd4:(⟨k4.toArray⟩:ByteArray).data.toList=k4:=rfl
theorem kd5:(⟨k5.toArray⟩:ByteArray).data.toList=k5:=rfl
theorem kd6:(⟨k6.toArray⟩:ByteArray).data.toList=k6:=rfl
theorem ZV{α β:Type}{p:α×β}{a:α}{b:β}(h1:p.1=a)(h2:p.2=b):p=(a,b):=Prod.ext h1 h2
theorem zec(w:World)(hG:qG w):Calls prog 10 #[] w (qR w (.bool true)):=by
 have HG:=zj hG;obtain⟨T1,hT1⟩:∃T,(xf k1).1=T:=⟨_,rfl⟩;obtain⟨T4,hT4⟩:∃T,(xf k4).1=T:=⟨_,rfl⟩;obtain⟨T5,hT5⟩:∃T,(xf k5).1=T:=⟨_,rfl⟩;obtain⟨T6,hT6⟩:∃T,(xf k6).1=T:=⟨_,rfl⟩;obtain⟨A6,hA6⟩:∃a,(xf k6).2.1=a:=⟨_,rfl⟩;obtain⟨S3,hS3⟩:∃s,(vX k3).1=s:=⟨_,rfl⟩;have hk1:=ze5 (t:=T1) (by rw[<-hT1];exact zmC);have hk6:=ze5 (t:=T6) (by rw[<-hT6];exact zmv);have hn1:T1.nodes.length=7:=by rw[<-hT1];exact zmB
 have HP1:=zj (fun (W:World) (hb:Below w.heap.size w W)=>(show Calls prog 11 #[.string ⟨#[114,111,111,116,32,97,58,32,105,110,116,32,61,32,49,32,43,32,98,32,42,32,50,59]⟩] W (KT (T1,0,0) W) from by
  have:=uG ⟨k1.toArray⟩ W (by show k1.length<=_;decide) (HG.out.later hb);rw[kd1,show xf k1=(T1,0,0) from ZV hT1 kn1] at this;exact this))
 have HP4:=zj (fun (W:World) (hb:Below w.heap.size w W)=>(show Calls prog 11 #[.string ⟨#[114,111,111,116,32,99,58,32,99,104,97,110,32,105,110,116,32,61,32,99,104,97,110,32,105,110,116,40,57,41,59]⟩] W (KT (T4,19,3) W) from by
  have:=uG ⟨k4.toArray⟩ W (by show k4.length<=_;decide) (HG.out.later hb);rw[kd4,show xf k4=(T4,19,3) from ZV hT4 kn4] at this;exact this))
 have HP5:=zj (fun (W:World) (hb:Below w.heap.size w W)=>(show Calls prog 11 #[.string ⟨#[102,117,110,32,102,40,41,58,32,117,110,105,116,32,123,32,97,40,41,32,58,61,32,49,59,32,125]⟩] W (KT (T5,20,4) W) from by
  have:=uG ⟨k5.toArray⟩ W (by show k5.length<=_;decide) (HG.out.later hb);rw[kd5,show xf k5=(T5,20,4) from ZV hT5 kn5] at this;exact this))
 have HP6:=zj (fun (W:World) (hb:Below w.heap.size w W)=>(show Calls prog 11 #[.string ⟨#[102,117,110,32,102,40,41,58,32,117,110,105,116,32,123,32,40,84,41,40,49,41,59,32,45,32,45,97,59,32,40,116,104,114,111,119,32,97,41,46,102,59,32,40,110,111,116,32,97,41,32,61,61,32,98,32,125]⟩] W (KT (T6,A6,0) W) from by
  have:=uG ⟨k6.toArray⟩ W (by show k6.length<=_;decide) (HG.out.later hb);rw[kd6,show xf k6=(T6,A6,0) from ZV hT6 (ZV hA6 kn6)] at this;exact this))
 have HP2:=zj (fun (W:World) (hb:Below w.heap.size w W)=>(show Calls prog 29 #[.string ⟨#[102,117,110,32,102,40,41,58,117,110,105,116,123,40,103,41,40,40,49,41,41,59,125]⟩] W (zlv W (k2o,0,0)) from by
  have:=KQ ⟨k2.toArray⟩ W (by show k2.length<=_;decide) (HG.out.later hb) (fun _=>by rw[kd2];exact (ze5 zmx).1);rw[kd2,show vX k2=(k2o,0,0) from kn2] at this;exact this))
 have HP3:=zj (fun (W:World) (hb:Below w.heap.size w W)=>(show Calls prog 29 #[.string ⟨#[102,117,110,32,102,32,40,32,41,32,58,32,117,110,105,116,32,123,32,40,103,41,40,40,49,41,41,59,32,59,32,125]⟩] W (zlv W (S3,29,4)) from by
  have:=KQ ⟨k3.toArray⟩ W (by show k3.length<=_;decide) (HG.out.later hb) (fun _=>by rw[kd3];exact (ze5 zmw).1);rw[kd3,show vX k3=(S3,29,4) from ZV hS3 kn3] at this;exact this))
 have HS:=zj (fun (nv iv:Value) (W:World) (hb:Below w.heap.size w W) (hT:TR W nv iv T1)=>(show Calls prog 20 #[.agg #[nv,iv],.int .i64 5] W (RdI W (5,0)) from by
  have:=ziM T1 nv iv 5 W hT (HG.out.later hb) hk1.1 hk1.2;rw[<-hT1,zmz] at this;exact this))
 have HU:=zj (fun (nv iv:Value) (W:World) (hb:Below w.heap.size w W) (hT:TR W nv iv T1)=>(show Calls prog 18 #[.agg #[nv,iv],.int .i64 4] W (RdI W (5,0)) from by
  have:=zeG T1 nv iv 4 W hT (HG.out.later hb) hk1.1;rw[<-hT1,zmy] at this;exact this))
 have HW:=zj (fun (nv iv:Value) (W:World) (hb:Below w.heap.size w W) (hT:TR W nv iv T1)=>(show Calls prog 19 #[.agg #[nv,iv],.int .i64 3] W (RdL W ([6,5,4,3],0)) from by
  have:=ziR T1 nv iv 3 W hT (HG.out.later hb) hk1.1 hk1.2;rw[<-hT1,zmA] at this;exact this))
 have HF:=zj (fun (nv iv:Value) (W:World) (hb:Below w.heap.size w W) (hT:TR W nv iv T1)=>(show Calls prog 21 #[.agg #[nv,iv],.int .i64 20] W (RdI W (4,0)) from by
  have:=ziW T1 nv iv 20 W hT (HG.out.later hb) hk1.1;rw[<-hT1,zmD] at this;exact this))
 have HN:=zj (fun (nv iv:Value) (W:World) (hb:Below w.heap.size w W) (hT:TR W nv iv T6)=>(show Calls prog 27 #[.agg #[nv,iv]] W (zgR W (k6o,0)) from by
  have:=zav T6 nv iv W hT (HG.out.later hb) hk6.1;rw[<-hT6,zmu] at this;exact this))
 clear hT1 hT4 hT5 hT6 hA6 hS3 hk1 hk6 hG;go_enter func10,ntmps10;go_wp2_with fail;refine (HP1.out w bR).mono ?_;rintro e w1 ⟨hb1,nv1,iv1,rfl,hTr1⟩;obtain⟨np1,nc1,ip1,ic1,rfl,rfl⟩:=hTr1.form;rw[hn1] at hTr1 ⊢;generalize T1.items.length=m1 at *;have HT1:=zj hTr1;have hz1:=zl w1 (.cells #[.slice np1 7 nc1,.slice ip1 m1 ic1] 26 (0,0));have B1:=zf hb1 (zg w1 (.cells #[.slice np1 7 nc1,.slice ip1 m1 ic1] 26 (0,0)));have hA1:=zg w1 (.cells #[.slice np1 7 nc1,.slice ip1 m1 ic1] 26 (0,0));have HZ1:=zj hz1;clear hTr1 hz1 hn1;go_wp2_with fail;refine (HP2.out _ B1).mono ?_;rintro e w2 ⟨rfl,hb2⟩;have B2:=zf B1 hb2;go_wp2_with fail;refine (HP3.out _ B2).mono ?_;rintro e w3 ⟨rfl,hb3⟩;have B3:=zf B2 hb3;have C3:=zf hb2 hb3;go_wp2_with fail;refine (HP4.out _ B3).mono ?_;rintro e w4 ⟨hb4,nv4,iv4,rfl,hTr4⟩;obtain⟨np4,nc4,ip4,ic4,rfl,rfl⟩:=hTr4.form;have HT4:=zj hTr4;clear hTr4;generalize T4.nodes.length=n4 at *;generalize T4.items.length=m4 at *;have hA4:=zg w4 (.cells #[.slice np4 n4 nc4,.slice ip4 m4 ic4] 26 (0,0));have HZ4:=zj (zl w4 (.cells #[.slice np4 n4 nc4,.slice ip4 m4 ic4] 26 (0,0)));have hB4:=zf hb4 hA4;have B4:=zf B3 hB4;have C4:=zf C3 hB4;go_wp2_with fail;refine (HP5.out _ B4).mono ?_;rintro e w5 ⟨hb5,nv5,iv5,rfl,hTr5⟩;obtain⟨np5,nc5,ip5,ic5,rfl,rfl⟩:=hTr5.form;have HT5:=zj hTr5;clear hTr5;generalize T5.nodes.length=n5 at *;generalize T5.items.length=m5 at *;have hA5:=zg w5 (.cells #[.slice np5 n5 nc5,.slice ip5 m5 ic5] 26 (0,0));have HZ5:=zj (zl w5 (.cells #[.slice np5 n5 nc5,.slice ip5 m5 ic5] 26 (0,0)));have hB5:=zf hb5 hA5;have B5:=zf B4 hB5;have C5:=zf C4 hB5;have c0:=zd (zi C5 HZ1.out) 0;have c1:=zd (zi C5 HZ1.out) 1;go_wp2_with fail;clear c0 c1;refine (HS.out _ _ _ B5 (HT1.out.below (zf hA1 C5))).mono ?_;rintro e wa ⟨rfl,hba⟩;have Ba:=zf B5 hba;have Ca:=zf C5 hba;have c0:=zd (zi Ca HZ1.out) 0;have c1:=zd (zi Ca HZ1.out) 1;go_wp2_with fail;clear c0 c1;refine (HU.out _ _ _ Ba (HT1.out.below (zf hA1 Ca))).mono ?_;rintro e wb ⟨rfl,hbb⟩;have Bb:=zf Ba hbb;have Cb:=zf Ca hbb;have c0:=zd (zi Cb HZ1.out) 0;have c1:=zd (zi Cb HZ1.out) 1;go_wp2_with fail;clear c0 c1;refine (HW.out _ _ _ Bb (HT1.out.below (zf hA1 Cb))).mono ?_;rintro e wc ⟨pv,rfl,hpv,hbc⟩;obtain⟨pp,pc,rfl⟩:=hpv.form;have HPV:=zj hpv;clear hpv;have Bc:=zf Bb hbc;have Cc:=zf Cb hbc;have c0:=zd (zi Cc HZ1.out) 0;have c1:=zd (zi Cc HZ1.out) 1;go_wp2_with fail;clear c0 c1;refine (HF.out _ _ _ Bc (HT1.out.below (zf hA1 Cc))).mono ?_;rintro e wd ⟨rfl,hbd⟩;have Bd:=zf Bc hbd;have Cd:=zf Cc hbd;go_wp2_with fail;refine (HP6.out _ Bd).mono ?_;rintro e w6 ⟨hb6,nv6,iv6,rfl,hTr6⟩;obtain⟨np6,nc6,ip6,ic6,rfl,rfl⟩:=hTr6.form;have HT6:=zj hTr6;clear hTr6;generalize T6.nodes.length=n6 at *;generalize T6.items.length=m6 at *;have hA6:=zg w6 (.cells #[.slice np6 n6 nc6,.slice ip6 m6 ic6] 26 (0,0));have HZ6:=zj (zl w6 (.cells #[.slice np6 n6 nc6,.slice ip6 m6 ic6] 26 (0,0)));have hB6:=zf hb6 hA6;have B6:=zf Bd hB6;have C6:=zf Cd hB6;have e0:=zd HZ6.out 0;have e1:=zd HZ6.out 1;go_wp2_with fail;clear e0 e1;refine (HN.out _ _ _ B6 (HT6.out.below hA6)).mono ?_;rintro e we ⟨rfl,hbe⟩;have Be:=zf B6 hbe;have Ce:=zf C6 hbe;have c0:=zd (zi Ce HZ1.out) 0;have c1:=zd (zi Ce HZ1.out) 1;have HI:=zj (fun W (hb:Below we.heap.size we W) (u:Value) (hu:KW W u [6,5,4,3])=>YC (.slice pp 4 pc) u [6,5,4,3] [6,5,4,3] W (HPV.out.o.below (zf (zf hbd (zf hB6 hbe)) hb)) hu (by decide));go_wp2_with fail;refine (HI.out _ (zg _ _) _ (KS.lit we [6,5,4,3]).o).mono ?_;rintro e wf ⟨rfl,hbf⟩;simp only[decide_true];have Bf:=zf (zf Be (zg _ _)) hbf;clear HI c0 c1;unfold k6o;go_wp2;go_ret;exact⟨by simp,Bf⟩
end
section
open Go.RowKit Lode Go.Shelf
attribute [local go_sem ↓] Go.wp_at_zero Go.wp_at_succ
open Go.Proofs.Tryz
theorem zjz{w:World}{B n s:Nat}{T:TypeId}{v:Value}{xs:List Value}(h:w.ownsRow B T s v n xs):∀p m c,v=.slice p m c->m<=c:=by
 rintro p m c rfl;obtain⟨_,⟨hv,_⟩|⟨g,cap,cur,hv,_,_,hle,_⟩⟩:=h
 ·cases hv;exact pF _
 ·cases hv;exact hle
theorem zex{t:zU}(item:Int){N:Nat}(hk:∀x∈t.nodes,x.kids.length<=N):(KH t item).1.nodes.length<=t.nodes.length/\(KH t item).1.items.length<=1/\∀x∈(KH t item).1.nodes,x.kids.length<=N:=by
 unfold KH;split
 ·exact⟨pV _,pV _,fun x hx=>by cases hx⟩
 ·split
  ·exact⟨pV _,pV _,fun x hx=>by cases hx⟩
  ·refine⟨?_,pF _,fun x hx=>?_⟩
   ·simp only[vR,jl,wO,wZ,wV];omega
   ·obtain⟨y,hy,rfl⟩:=List.mem_map.1 hx;simp only[wO];exact hk y (List.mem_of_mem_drop (List.mem_of_mem_take hy))
theorem zh8(t:zU)(nv iv:Value)(item:Int)(w:World)(hT:Jy w nv iv t)(hG:qG w)(hi:∀x∈t.nodes,∀k∈x.kids,I64 k)(h8:∀x∈t.nodes,x.kind<=255):
 Calls prog 8 #[.agg #[nv,iv],.int .i64 item] w (qR w (.bool true)):=by
 have hL:=zj (fun W (hW:Below w.heap.size w W)=>zgt t nv iv W (hT.below hW));have hKn:=zj (fun W (hW:Below w.heap.size w W)=>zec W (hG.later hW));obtain⟨np,nc,ip,ic,rfl,rfl⟩:=hT.form;have HT:=zj hT;have HG:=zj hG;have HI:=zj hi;have H8:=zj h8;obtain⟨n,hn⟩:=exE (t.nodes.length);obtain⟨m,hm⟩:=exE (t.items.length);rw[hn,hm] at hL HT ⊢;have hz:=zl w (.cells #[.slice np n nc,.slice ip m ic] 26 (0,0));have hA:=zg w (.cells #[.slice np n nc,.slice ip m ic] 26 (0,0));have b0:=zd hz 0;have b1:=zd hz 1;have HA:=zj hA;have Hz:=zj hz;have Hn:=zj hn;have Hm:=zj hm;clear hT hG hi h8 hz hA hn hm;obtain⟨lg,hlg⟩:∃b,Kn t=b:=⟨_,rfl⟩;rw[hlg] at hL;have Hlg:=zj hlg;clear hlg;cases lg
 ·go_enter func8,ntmps8;go_wp2_with (go_at_call 14;refine (hL.out _ HA.out).mono ?_;rintro e w1 ⟨rfl,hb1⟩;have b0:=zh hb1 b0;have b1:=zh hb1 b1;have hbw:=zj (zf HA.out hb1));obtain⟨bn,bi,bt⟩:=zhj Hlg.out;refine (zdJ t _ _ w1 (HT.out.below hbw.out) HI.out (by omega) (by omega) (fun x hx=>by have:=(bt x hx).1;omega)).mono ?_;rintro e w2 ⟨nv2,iv2,rfl,⟨kv2,hO2⟩,hb2⟩;have hok:ut t:=⟨H8.out,fun x hx=>by have:=(bt x hx).2;omega,fun x hx=>by have:=(bt x hx).1;omega,by omega,by omega⟩;have hT2:=hO2.tr;have hcp:=zjz hO2.n;have hk1:∀x∈t.nodes,x.kids.length<=1000:=fun x hx=>by have:=(bt x hx).1;omega
  have hCu:=zj (fun W (hW:Below w2.heap.size w2 W) (hGW:qG W)=>zkb t nv2 iv2 item W (hT2.below hW) hGW hok hk1 hcp);have hIw:=zj (fun W (hW:Below w2.heap.size w2 W) (hGW:qG W)=>ziU t nv2 iv2 item W (hT2.below hW) hGW hok);have hRc:=zj (fun W (hW:Below w.heap.size w W)=>zhH t _ _ item W (HT.out.below hW) hok hk1);have hRi:=zj (fun W (hW:Below w.heap.size w W)=>zdH t _ _ item W (HT.out.below hW) hok (fun x hx=>by have:=bt x hx;omega));have hSa:=zj (fun W (hW:Below w2.heap.size w2 W) (hW2:Below w.heap.size w W)=>JT t t nv2 iv2 _ _ W (hT2.o.below hW) (HT.out.below hW2) (by omega) (by omega) (fun x hx=>by have:=(bt x hx).1;omega));have hcut:zgD t item=KH t item:=zlo hk1 item;have hite:VY t item=YL t item:=zig hk1 item;have hsm:=zj (zex (t:=t) item hk1);rw[hcut] at hCu;rw[hite] at hIw;generalize KH t item=rc at *;generalize YL t item=ri at *;have hb20:=zj (show rc.1.nodes.length<=1200/\rc.1.items.length<=1 from ⟨pQ hsm.out.1 bn,hsm.out.2.1⟩);obtain⟨p2,c2,q2,d2,rfl,rfl⟩:=hT2.form;have b0:=zh hb2 b0;have b1:=zh hb2 b1;rw[Hn.out,Hm.out] at *;have hx0:=zl w2 (.cells #[.slice p2 n c2,.slice q2 m d2] 26 (0,0));have hxA:=zg w2 (.cells #[.slice p2 n c2,.slice q2 m d2] 26 (0,0));have b0:=zh hxA b0;have b1:=zh hxA b1;have x0:=zd hx0 0;have x1:=zd hx0 1;have hw2:=zf hbw.out hb2;have hwx:=zf hw2 hxA;clear hcut hite hx0 hO2 hcp hk1 hT2 hok bt bn bi;go_wp2_with fail;generalize w2.alloc (.cells #[.slice p2 n c2,.slice q2 m d2] 26 (0,0))=wx at *;refine (hCu.out wx hxA (HG.out.later hwx)).mono ?_;rintro e w3 ⟨hb3,nv3,iv3,rfl,hT3⟩;have hA3:=zg w3 (.cells #[nv3,iv3] 26 (0,0));have hZ3:=zl w3 (.cells #[nv3,iv3] 26 (0,0));have hb3A:=zf hb3 hA3;have b0:=zh hb3A b0;have b1:=zh hb3A b1;have x0:=zh hb3A x0;have x1:=zh hb3A x1;have hw3:=zf hwx hb3A;have hx3:=zf hxA hb3A;have HT3:=zj (hT3.below hA3);clear hb3 hA3 hb3A hT3 hCu;obtain⟨p3,c3,q3,d3,rfl,rfl⟩:=HT3.out.form;go_wp2_with fail;generalize hW3:w3.alloc (.cells #[.slice p3 rc.1.nodes.length c3,.slice q3 rc.1.items.length d3] 26 (0,0))=w4 at *;have y0:=zd hZ3 0;have y1:=zd hZ3 1;refine (hIw.out w4 hx3 (HG.out.later hw3)).mono ?_;rintro e w5 ⟨rfl,hb5⟩;have b0:=zh hb5 b0;have b1:=zh hb5 b1;have x0:=zh hb5 x0;have x1:=zh hb5 x1;have y0:=zh hb5 y0;have y1:=zh hb5 y1;have hw5:=zf hw3 hb5;have hx5:=zf hx3 hb5;have HT5:=zj (HT3.out.below hb5);clear hb5 HT3 hIw hZ3 hW3;go_wp2_with fail;refine (hRc.out w5 hw5).mono ?_;rintro e w6 ⟨hb6,nv6,iv6,rfl,hT6⟩;have hA6:=zg w6 (.cells #[nv6,iv6] 26 (0,0));have hZ6:=zl w6 (.cells #[nv6,iv6] 26 (0,0));have hb6A:=zf hb6 hA6;have b0:=zh hb6A b0;have b1:=zh hb6A b1;have x0:=zh hb6A x0;have x1:=zh hb6A x1;have y0:=zh hb6A y0;have y1:=zh hb6A y1;have hw6:=zf hw5 hb6A;have hx6:=zf hx5 hb6A;have HT5:=zj (HT5.out.below hb6A);have HT6:=zj (hT6.below hA6);clear hb6 hA6 hb6A hT6 hRc;obtain⟨p6,c6,q6,d6,rfl,rfl⟩:=HT6.out.form;go_wp2_with fail;generalize hW6:w6.alloc (.cells #[.slice p6 rc.1.nodes.length c6,.slice q6 rc.1.items.length d6] 26 (0,0))=w7 at *;have v0:=zd hZ6 0;have v1:=zd hZ6 1;refine (hRi.out w7 hw6).mono ?_;rintro e w8 ⟨rfl,hb8⟩;have b0:=zh hb8 b0;have b1:=zh hb8 b1;have x0:=zh hb8 x0;have x1:=zh hb8 x1;have y0:=zh hb8 y0;have y1:=zh hb8 y1;have v0:=zh hb8 v0;have v1:=zh hb8 v1;have hw8:=zf hw6 hb8;have hx8:=zf hx6 hb8;have hSo:=zj (JT rc.1 rc.1 _ _ _ _ w8 (HT5.out.below hb8).o (HT6.out.below hb8).o (by have:=hb20.out;omega) (by have:=hb20.out;omega) (fun x hx=>by have:=hsm.out.2.2 x hx;omega));clear hb8 HT5 HT6 hRi hZ6 hW6;obtain⟨rs,re⟩:=ri;go_wp2_with fail;refine hSo.out.mono ?_;rintro e w9 ⟨sb,rfl,hsb,hb9⟩;have hst:sb=true:=hsb.2 (by first|rfl|trivial);subst hst;have b0:=zh hb9 b0;have b1:=zh hb9 b1;have x0:=zh hb9 x0;have x1:=zh hb9 x1;have hw9:=zf hw8 hb9;have hx9:=zf hx8 hb9;clear hb9 hsb hSo y0 y1 v0 v1;go_wp2_with fail;refine (hSa.out w9 hx9 hw9).mono ?_;rintro e w10 ⟨sb,rfl,hsb,hb10⟩;have hst:sb=true:=hsb.2 (by first|rfl|trivial);subst hst;have hw10:=zf hw9 hb10;go_wp2_with fail;refine (hKn.out w10 hw10).mono ?_;rintro e w11 ⟨rfl,hb11⟩;have hw11:=zf hw10 hb11;go_wp2;go_ret;exact⟨rfl,hw11⟩
 ·go_enter func8,ntmps8;go_wp2_with (first
   |(go_at_call 14;refine (hL.out _ HA.out).mono ?_;rintro e w1 ⟨rfl,hb1⟩;have hbw:=zj (zf HA.out hb1))
   |(go_at_call 10;refine (hKn.out _ hbw.out).mono ?_;rintro e w2 ⟨rfl,hb2⟩))
  go_ret;exact⟨rfl,zf hbw.out hb2⟩
end
end Go.Proofs.YtcagibbaeageoaaGreatDoor
