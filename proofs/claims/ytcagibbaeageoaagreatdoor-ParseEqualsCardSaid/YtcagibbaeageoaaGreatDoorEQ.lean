/-
  A part of the proof: contracts of functions; no conditions.
-/
import Derived.Test.YtcagibbaeageoaaGreatDoorEK
import Derived.Test.YtcagibbaeageoaaGreatDoorEP
import Derived.OwnWalkIn
set_option maxRecDepth 100000
set_option maxHeartbeats 40000000
set_option linter.unusedSimpArgs false
set_option linter.unusedVariables false
namespace Go.Proofs.YtcagibbaeageoaaGreatDoor
section
open Go.RowKit Lode Go.Shelf
attribute [local go_sem] Oper.semAt_some
open Go.Proofs.Tryz
theorem Bd.cells{w0 w:World}{b:Nat}{ob:ByteArray}(h:Bd w0 b ob w):∃cs T fr,w.heap[b]? =some (.cells cs T fr):=by
 rcases h.1 with⟨_,v,h,_⟩|⟨_,v,h,_⟩ <;> exact⟨_,_,_,h⟩
def PnI(line:Int->List UInt8)(its:List Int)(wB:World)(b:Nat)(pre:List ByteArray)(W:World):Prop:=∃ob:ByteArray,Bd wB b ob W/\ob.data.toList=(its.take pre.length).flatMap line/\ob.size<=3200001*pre.length/\pre.length<=its.length/\(pre=[]->W.heap[b]? =some (.cells #[.pointer none,.slice none 0 0] 78 (0,0)))/\(pre≠[]->ob.size≠0)
theorem PnI.own{line:Int->List UInt8}{its:List Int}{wB:World}{b B:Nat}(hB:wB.heap.size<=B):Yn (fun _=>False) B (PnI line its wB b):=by
 intro pre W W' row ⟨ob,h1,h2,h3,h4,h5,h6⟩ hg hr;have hr2:∀r,row=some r->wB.heap.size<=r/\∃o:Obj,W.heap[r]? =some o/\o.isCells=false:=fun r e=>by
  rcases hr r e with h|⟨h,o,ho,hc⟩
  ·exact h.elim
  ·exact⟨pR hB h,o,ho,hc⟩
 refine⟨ob,h1.grown hg hr2,h2,h3,h4,fun hp=>?_,h6⟩;have hh:=h5 hp;rw[hg.block b (gtA hh) (fun e=>by
  obtain⟨_,o,ho,hc⟩:=hr2 b e.symm;rw[hh] at ho;cases ho;cases hc)]
 exact hh
theorem zir{t:zQ}(hok:uh t)(hc:zW t=0):zl6 t:=by
 have hn:¬(1000<t.nodes.length\/40<t.items.length):=fun h=>by
  unfold zW at hc;rw[if_pos h] at hc;cases hc
 have hf:je t=true:=by
  unfold zW at hc;rw[if_neg hn] at hc;cases h:je t with
  |true=>rfl
  |false=>
   rw[h] at hc;cases hc
 have hv:=YQ hok hf;rw[za1 t hok.kids] at hf;obtain⟨hF,hI,hR⟩:=vO hf;exact⟨hF,hR,by omega,by omega,hv.2,hok.kind⟩
def zl5(w:World)(r:List UInt8×Nat)(e:Ending)(w':World):Prop:=e=.returned (.tuple #[.string ⟨r.1.toArray⟩,.int .i64 (r.2:Nat)])/\Below w.heap.size w w'
theorem zad(t:zQ)(nv iv:Value)(w:World)(hT:TR w nv iv t)(hG:qL w)(hok:uh t):Calls prog 27 #[.agg #[nv,iv]] w (zl5 w (YL t)):=by
 obtain⟨R,hR⟩:=exE (YL t);rw[hR];unfold YL at hR;obtain⟨np,nc,ip,ic,hnv,hiv⟩:=hT.form;have hz:=zl w (.cells #[nv,iv] 26 (0,0));have hA:=zg w (.cells #[nv,iv] 26 (0,0));have hC:=zi (vQ t _ _ _ (hT.below hA) (hG.later hA) hok);have hPO:=zi (fun (h:zW t=0)=>zir hok h);have c0:=zd hz 0;have c1:=zd hz 1;have HZ:=zi hz;have HT:=zi hT;have HG:=zi hG;have HR:=zi hR;clear hz hT hG hR hok hnv hiv;generalize hck:zW t=ck at *;have Hck:=zi hck;clear hck;have hfn:∀f,Fence.wide.fn f=True:=fun _=>rfl
 refine (callsIn_wide (n:=5)).1 ?_;refine callsIn_of_wp_marks func27 rfl trivial ?_ rfl;simp only[ntmps27,List.size_toArray,pQ,wD,Nat.reduceAdd,Nat.reduceSub,Array.replicate_succ,Array.replicate_zero,List.push_toArray,List.append_toArray,wW,wJ]
 gi_wp2_with fail
 refine (callsIn_wide.2 hC.out).mono ?_;rintro e w2 ⟨rfl,hb2⟩;have hB2:=zf hA hb2;clear c0 c1 hC;have hz2:=zh hb2 HZ.out;have c0:=zd hz2 0;have c1:=zd hz2 1;by_cases hck:ck=0
 ·subst hck;have hr:=HR.out;rw[if_neg (by simp)] at hr;have HPO:=zi (hPO.out rfl);have hA3:=zg w2 (.cells #[.pointer none,.slice none 0 0] 78 (0,0));have hF:=zi (Bd.fresh w2 _ rfl);have hF2:=zi (zl w2 (.cells #[.pointer none,.slice none 0 0] 78 (0,0)));have d0:=zd (zh hA3 hz2) 0;have d1:=zd (zh hA3 hz2) 1;have HRr:=zi hr;clear hr c0 c1 hz2
  gi_wp2_with fail
  refine (callsIn_wide.2 (zfK _ _ _)).mono ?_;rintro e w4 ⟨rfl,rfl⟩;clear d0 d1
  gi_wp2_with fail
  have hszC:(w2.alloc (.cells #[.pointer none,.slice none 0 0] 78 (0,0))).heap.size=w2.heap.size+1:=by simp
  obtain⟨w3,hw3⟩:=exE (w2.alloc (.cells #[.pointer none,.slice none 0 0] 78 (0,0)));rw[hw3] at hszC hA3 ⊢;have hF3:=hF.out;have hF4:=hF2.out;rw[hw3] at hF3 hF4;generalize hact:(Act.mk _ [])=a0;have hbw:=zg w3 (.cells #[nv,iv] 26 (0,0));have hCb:=zl w3 (.cells #[nv,iv] 26 (0,0));have hsz4:(w3.alloc (.cells #[nv,iv] 26 (0,0))).heap.size=w3.heap.size+1:=by simp
  rw[hszC] at hCb;generalize w3.alloc (.cells #[nv,iv] 26 (0,0))=w4 at *;have hB4:=zi (zf (zf hB2 hA3) hbw);have hI0:PnI (fun k=>prT t k ++ [10]) t.items w2 w2.heap.size [] w4:=⟨ByteArray.empty,Bd.lat hF3 hbw,by simp,by decide,pX _,fun _=>zh hbw hF4,fun h=>absurd rfl h⟩;have hws:=hB2.size;have hXs:∀k,k=w2.heap.size->k<w4.heap.size:=fun k hk=>by omega
  have hXC:¬(w2.heap.size+1=w2.heap.size):=by omega
  have hm40:=HPO.out.items;have HNl:=zi (fun (k:Int) (hk:k∈t.items)=>(show (prT t k).length<=3200000 from by
   obtain⟨h0,h1⟩:=HPO.out.its k hk;obtain⟨kn,rfl⟩:=pO h0;exact Vz HPO.out.full HPO.out.right HPO.out.nodes _ kn (by omega)))
  refine zag (encs:=fun x:ByteArray=> #[.string x]) (gf:=106) (la:= #[]) (lb:= #[.pointer (some ⟨w2.heap.size+1,0,none⟩)]) rfl (by omega) (by rw[<-hact];rfl) trivial (enters_of func106 (by kernel_rfl) rfl)
   (zfJ (fun k=>k=w2.heap.size) w (w2.heap.size+1) t nv iv HT.out HG.out HPO.out w4 hB4.out hCb hXC hXs _ (by omega)) (fun r h=>h.elim) (fun x=>rfl) KpL.trans (fun W l o o' hl ho=>KpL.put (w:=w4) (by omega) W l o o' hl ho)
   (PnI (fun k=>prT t k ++ [10]) t.items w2 w2.heap.size) (fun _ _ _=>False) (PnI.own (by omega)) (fun c s W W' row h _ _=>h) hI0
   (fun pre x a' W=>PnI (fun k=>prT t k ++ [10]) t.items w2 w2.heap.size pre W/\a'={tmps:=((a0.tmps.setIfInBounds 14 (.string x)).setIfInBounds 6 (.string x)),defers:=[]})
   (fun pre x a' W l o o' ⟨h1,h2⟩ hl ho hc=>⟨PnI.own (B:=w4.heap.size) (by omega) pre W _ (some l) h1 (grownBy_putObj' W l o') (fun r e=>by cases e;exact .inr ⟨hl,o,ho,hc⟩),h2⟩) ?assign ?body ?done ?stop
  case assign=>
   rintro L pre x W K hI hGx hK;subst hact;simp only[List.zip_toArray,List.zip_cons_cons,List.zip_nil_left,List.foldl_toArray',List.foldl_cons,List.foldl_nil,yh,yf,yg]
   gi_wp2_with fail
   refine hK _ _ (KeepsOthers.refl _) (KpL.refl _ _ _) ⟨hI,?_⟩;simp only[yh,yf,yg]
  case body=>
   rintro L pre x a' W ⟨⟨ob,hb,ho1,ho2,ho3,ho4,ho5⟩,rfl⟩ ⟨hpl,hx⟩;subst hact;simp only[yh,yf,yg];have hxs:=xS hx;have hmem:t.items.getD pre.length 0∈t.items:=by rw[pB,glE hpl];exact wK hpl
   have hnl:=HNl.out _ hmem;rw[pM,pN] at hxs;obtain⟨cs9,T9,fr9,hcells⟩:=hb.cells;have hW:=zi (hb.writeKeep x (by omega));have hstep:(t.items.take (pre ++ [x]).length).flatMap (fun k=>prT t k ++ [10])=ob.data.toList ++ x.data.toList:=by
    rw[pM,pN,wY,glE hpl,List.flatMap_append,<-ho1,hx];rw[pB,glE hpl];simp
   have Hst:=zi hstep;have Hc:=zi hcells;have Hx:=zi hxs;have hx1:x.size<=3200001:=by omega
   have Hnl:=zi hnl;clear hstep hx hmem hnl ho1 ho4 ho5 hcells hxs hb;have hfn2:∀f,(Fence.wide.inRound L).fn f=True:=fun _=>rfl
   gi_wp2_with fail
   refine (LodeX.YX hW.out).mono ?_;rintro e W' ⟨rfl,hb',hkeep,hbl⟩;have hko:KeepsOthers W W':=⟨hbl.size,fun k o hk ho=>hkeep k o (fun e=>by
    subst e;rw[Hc.out] at hk;cases hk;cases ho) (fun cs fr e=>by subst e;cases ho) hk⟩
   have hkp:KpL (fun k=>k=w2.heap.size) w.heap.size W W':=⟨hbl.mono hws,hbl.size,fun k o hX hK hk=>hkeep k o hX (fun cs fr e=>by
    subst e;rcases hK with⟨cs',T,fr',he,hT⟩|⟨es,c,he⟩
    ·cases he;exact hT rfl
    ·cases he) hk⟩
   have hI2:PnI (fun k=>prT t k ++ [10]) t.items w2 w2.heap.size (pre ++ [x]) W':=⟨ob ++ x,hb',by rw[zv,Hst.out],by rw[ByteArray.size_append,pM,pN];omega,by rw[pM,pN];omega,fun h=>by simp at h,fun _=>by rw[ByteArray.size_append];have:=Hx.out;omega⟩;clear hkeep hbl hb'
   gi_wp2_with fail
   exact⟨hko,hkp,hI2⟩
  case done=>
   intro Dd xs W hS hI hDd hdd;obtain⟨ob,hb,ho1,ho2,ho3,ho4,ho5⟩:=hI;subst hact;have htk:t.items.take xs.length=t.items:=by rw[hS];exact List.take_length
   rw[htk] at ho1;have hBW:Below w.heap.size w W:=zf (zf hA hb2) hb.2;have hxl:xs.length<=40:=by rw[hS];exact hm40
   have hsz9:ob.size<=1000000000000:=by omega
   have hlim:=fun W' (hb:Below w.heap.size w W')=>zcf ob.data.toList W' (by have:ob.data.toList.length=ob.size:=rfl;omega) (HG.out.later hb)
   rw[show (⟨ob.data.toList.toArray⟩:ByteArray)=ob from rfl,ho1,HRr.out] at hlim;have hLim:=zi hlim;have hDw:w2.heap.size<Dd:=by omega
   have hdl:Dd<W.heap.size:=(gtA hdd);have Hdd:=zi hdd;obtain⟨R1,R2⟩:=R;clear hlim ho2 ho3 htk hdd;by_cases hx0:xs=[]
   ·have he:ob=ByteArray.empty:=by
     have hil:t.items=[]:=pT (by rw[<-hS,hx0];rfl);rw[hil] at ho1;have h1:ob.data.toList=[]:=ho1;exact ByteArray.ext (Array.ext' h1)
    subst he;have hFS:=zi (zfQ (ho4 hx0));clear ho1 ho4 ho5 hx0 hb
    gi_wp2_with fail
    refine (callsIn_wide.2 hFS.out).mono ?_;rintro e W2 ⟨rfl,hb5⟩;have hL2:=zi (hLim.out W2 (zf hBW hb5))
    gi_wp2_with fail
    refine (callsIn_wide.2 hL2.out).mono ?_;rintro e W3 ⟨rfl,hb6⟩;have hdd3:W3.heap[Dd]? =some (.deferred (some [])):=((zf hb5 hb6).block _ hdl).trans Hdd.out;have hB6:=zf (zf hBW hb5) hb6
    gi_wp2_with fail
    refine⟨by simp,.inl ⟨_,_,rfl,run_takeDeferred hdd3,?_⟩⟩;refine⟨.tuple #[.string ⟨R1.toArray⟩,.int .i64 R2],by simp[results,results27,go_sem],rfl,hB6.grown (grownBy_putObj' W3 Dd _) hB6.size (fun r e=>?_)⟩;cases e;omega
   ·have hobn:ob.data.toList≠[]:=fun e=>by
     have h1:=ho5 hx0;have:ob.data.toList.length=ob.size:=rfl;rw[e] at this;exact h1 this.symm
    have hFS:=zi (hb.strKeep hobn);clear ho1 ho4 ho5 hobn hb
    gi_wp2_with fail
    refine (callsIn_wide.2 hFS.out).mono ?_;rintro e W2 ⟨rfl,hb5,hk5⟩;have hdd2:W2.heap[Dd]? =some (.deferred (some [])):=hk5 _ _ (by omega) (fun cs fr e=>by cases e) Hdd.out;have hB5:=hBW.trans (hb5.mono hws);have hL2:=zi (hLim.out W2 hB5);clear hk5
    gi_wp2_with fail
    refine (callsIn_wide.2 hL2.out).mono ?_;rintro e W3 ⟨rfl,hb6⟩;have hdd3:W3.heap[Dd]? =some (.deferred (some [])):=(hb6.block _ (gtA hdd2)).trans hdd2;have hB6:=zf hB5 hb6
    gi_wp2_with fail
    refine⟨by simp,.inl ⟨_,_,rfl,run_takeDeferred hdd3,?_⟩⟩;refine⟨.tuple #[.string ⟨R1.toArray⟩,.int .i64 R2],by simp[results,results27,go_sem],rfl,hB6.grown (grownBy_putObj' W3 Dd _) hB6.size (fun r e=>?_)⟩;cases e;omega
  case stop=>
   rintro Dd c pre W _ h _ _;exact h.elim
 ·have hck':((ck:Int) == 0)=false:=bfE (by omega)
  have hr:=HR.out;rw[if_pos hck] at hr;subst hr;clear c0 c1
  gi_wp2_with fail
  exact⟨_,by simp[results,results27,go_sem],rfl,hB2⟩
def zks(w:World)(r:List UInt8×Int×Nat)(e:Ending)(w':World):Prop:=e=.returned (.tuple #[.string ⟨r.1.toArray⟩,.int .i64 r.2.1,.int .i64 (r.2.2:Nat)])/\Below w.heap.size w w'
end
section
open Go.RowKit Lode Go.Shelf
attribute [local go_sem] Oper.semAt_some
attribute [local go_sem ↓] Go.wp_at_zero Go.wp_at_succ
open Go.Proofs.Tryz
theorem KL(s:ByteArray)(w:World)(hs:s.size<=1000000000000)(hG:qL w)(hok:(yZ s.data.toList).2.2=0->uh (yZ s.data.toList).1):Calls prog 29 #[.string s] w (zks w (ui s.data.toList)):=by
 obtain⟨R,hR⟩:=exE (ui s.data.toList);rw[hR];unfold ui at hR;have hP:=zi (uL s w hs hG);have HG:=zi hG;obtain⟨p,hp⟩:=exE (yZ s.data.toList);rw[hp] at hR hP hok;obtain⟨t,at_,ep⟩:=p;simp only at hR hok;have HR:=zi hR;have Hok:=zi hok;clear hR hok hG hp;go_enter func29,ntmps29;go_wp2_with fail;refine hP.out.mono ?_;rintro e w1 ⟨hb1,nv,iv,rfl,hT⟩;simp only at hT ⊢;obtain⟨np,nc,ip,ic,rfl,rfl⟩:=hT.form;have HT:=zi hT;clear hT;generalize t.nodes.length=nl at *;generalize t.items.length=il at *;have hz:=zl w1 (.cells #[.slice np nl nc,.slice ip il ic] 26 (0,0));have hA:=zg w1 (.cells #[.slice np nl nc,.slice ip il ic] 26 (0,0));have c0:=zd hz 0;have c1:=zd hz 1;have hB:=zf hb1 hA;clear hz;by_cases he:ep=0
 ·subst he;have hr:=HR.out;rw[if_neg (by simp)] at hr;have hPr:=zi (zad t _ _ _ (HT.out.below hA) (HG.out.later hB) (Hok.out rfl));subst hr;generalize YL t=pt at *;obtain⟨p1,p2⟩:=pt;go_wp2_with fail;refine hPr.out.mono ?_;rintro e w3 ⟨rfl,hb3⟩;go_wp2;refine bodyPost_ret (v:=.tuple #[.string ⟨p1.toArray⟩,.int .i64 0,.int .i64 p2]) (by simp[results,results29,go_sem]) rfl ?_;exact⟨rfl,zf hB hb3⟩
 ·have he':((ep:Int) == 0)=false:=bfE (by omega)
  have hr:=HR.out;rw[if_pos he] at hr;subst hr;go_wp2;refine bodyPost_ret (v:=.tuple #[.string ⟨#[]⟩,.int .i64 at_,.int .i64 ep]) (by simp[results,results29,go_sem]) rfl ?_;exact⟨rfl,hB⟩
end
end Go.Proofs.YtcagibbaeageoaaGreatDoor
