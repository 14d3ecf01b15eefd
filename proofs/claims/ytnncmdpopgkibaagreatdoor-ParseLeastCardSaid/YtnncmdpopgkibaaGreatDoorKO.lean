/-
  A part of the proof: contracts of functions; no conditions.
-/
import Derived.Test.YtnncmdpopgkibaaGreatDoorKK
import Derived.Test.YtnncmdpopgkibaaGreatDoorKL
import Derived.Test.YtnncmdpopgkibaaGreatDoorKN
import Derived.Carry
import Derived.Lib.OthersKept
import Derived.OwnWalkIn
set_option maxRecDepth 100000
set_option maxHeartbeats 40000000
set_option linter.unusedSimpArgs false
set_option linter.unusedVariables false
namespace Go.Proofs.YtnncmdpopgkibaaGreatDoor
section
open Go.RowKit Lode Go.Shelf
attribute [local go_sem ↓] Go.wp_at_zero Go.wp_at_succ
open Go.Proofs.Tryz
structure FrM(base:Nat)(w w':World):Prop where
 b:Below base w w'
 keep:∀(k:Nat) (cs:Array Value) (T:TypeId) (fr:Nat×Nat),w.heap[k]? =some (.cells cs T fr)->w'.heap[k]? =some (.cells cs T fr)
theorem FrM.refl(base:Nat)(w:World):FrM base w w:=⟨pF _ _,fun _ _ _ _ h=>h⟩
theorem FrM.drew(base:Nat)(w:World):FrM base w w.drew:=⟨bR.drew,fun _ _ _ _ h=>h⟩
theorem FrM.trans{base:Nat}{a b c:World}(h:FrM base a b)(k:FrM base b c):FrM base a c:=⟨h.b.trans k.b,fun n cs T fr hn=>k.keep n cs T fr (h.keep n cs T fr hn)⟩
def zj8(base:Nat):LodeX.Rel:=⟨FrM base,FrM.refl base,FrM.trans,Eq,fun _=>rfl,Eq.trans,fun h=>h▸FrM.refl base _⟩
theorem uL{w a b:World}(h:Below w.heap.size w a)(k:FrM w.heap.size a b):Below w.heap.size w b:=h.trans k.b
theorem zaW{base:Nat}{w:World}{r:Nat}{es:Array MapEntry}{c:Nat}(hr:w.heap[r]? =some (.map es c))(hb:base<=r)(o:Obj):({w with heap:=w.heap.setIfInBounds r o}:World).heap[r]? =some o/\(∀q,q≠r->({w with heap:=w.heap.setIfInBounds r o}:World).heap[q]? =w.heap[q]?)/\FrM base w {w with heap:=w.heap.setIfInBounds r o}:=by
 have hlt:=(gtA hr);refine⟨by simp[hlt],fun q hq=>by simp[Array.getElem?_setIfInBounds,Ne.symm hq],⟨⟨rfl,rfl,rfl,by simp,fun k hk=>?_⟩,fun k cs T fr hk=>?_⟩⟩
 ·simp[Array.getElem?_setIfInBounds,show r≠k by omega]
 ·have:r≠k:=fun e=>by subst e;rw[hr] at hk;cases hk
  simp[Array.getElem?_setIfInBounds,this];exact hk
theorem KM{base:Nat}{t kt et:TypeId}(ht:prog.underlying t=some (.map kt et))(hk:prog.underlying kt=some (.int .u8)){z:Value}(hz:∀w:World,(zeroValue et).run prog w=.ok z w){w:World}{r:Nat}{l:List (Nat×Value)}(hb:w.heap[r]? =some (ZN l))(k:Nat)(hn:∀x∈l,x.1≠k)(hr:base<=r):
 ∃w',(Instr.mapEntry t (.map (some r)) (.int .u8 k)).run prog w=.ok (.tuple #[z,.int .i64 l.length]) w'/\w'.heap[r]? =some (ZN (l ++ [(k,z)]))/\(∀q,q≠r->w'.heap[q]? =w.heap[q]?)/\FrM base w w':=by
 obtain⟨h1,h2,h3⟩:=zaW hb hr (ZN (l ++ [(k,z)]));exact⟨_,zh0 ht hk hz hb k hn,h1,h2,h3⟩
theorem JQ{base:Nat}{t:TypeId}{w:World}{r:Nat}{l:List (Nat×Value)}{z:Value}{k:Nat}(hb:w.heap[r]? =some (ZN (l ++ [(k,z)])))(v:Value)(hr:base<=r):
 ∃w',(Instr.entryStore t (.map (some r)) (.int .i64 l.length) v).run prog w=.ok () w'/\w'.heap[r]? =some (ZN (l ++ [(k,v)]))/\(∀q,q≠r->w'.heap[q]? =w.heap[q]?)/\FrM base w w':=by
 obtain⟨h1,h2,h3⟩:=zaW hb hr (ZN (l ++ [(k,v)]));exact⟨_,zhZ hb v,h1,h2,h3⟩
theorem Kf{base:Nat}{t kt et:TypeId}(ht:prog.underlying t=some (.map kt et))(hk:prog.underlying kt=some (.int .u8)){w:World}{r:Nat}{l:List (Nat×Value)}(hb:w.heap[r]? =some (ZN l))(k:Nat)(v:Value)(hn:∀x∈l,x.1≠k)(hr:base<=r):
 ∃w',(Instr.mapUpdate t (.map (some r)) (.int .u8 k) v).run prog w=.ok () w'/\w'.heap[r]? =some (ZN (l ++ [(k,v)]))/\(∀q,q≠r->w'.heap[q]? =w.heap[q]?)/\FrM base w w':=by
 obtain⟨h1,h2,h3⟩:=zaW hb hr (ZN (l ++ [(k,v)]));exact⟨_,zkM ht hk hb k v hn,h1,h2,h3⟩
structure NpW(w wr:World)(P s r:Nat)(nv iv:Value)(c d:Nat):Prop where
 p:wr.heap[P]? =some (.cells #[nv,iv,.map (some s),.map (some r)] 164 (0,0))
 s:wr.heap[s]? =some (ZN (jb.take c))
 r:wr.heap[r]? =some (ZN (yJ.take d))
 b:Below w.heap.size w wr
theorem NpW.below{w wr w':World}{P s r:Nat}{nv iv:Value}{c d:Nat}(h:NpW w wr P s r nv iv c d)(hb:Below wr.heap.size wr w'):NpW w w' P s r nv iv c d:=
 ⟨zh hb h.p,(hb.block _ (gtA h.s)).trans h.s,(hb.block _ (gtA h.r)).trans h.r,zg h.b hb⟩
def zfb(j:Nat):Nat:=[0,1,2,9,12,15].getD j 15
def zke(w:World)(P s r:Nat)(nv iv:Value)(i:Value)(wr:World):Prop:=∃j:Nat,i=.int .i64 j/\j<=5/\NpW w wr P s r nv iv (zfb j) (zfb j)
def zlF(w:World)(P s r:Nat)(nv iv:Value)(J N OFF LB BL:Nat)(i:Value)(wr:World):Prop:=∃k:Nat,i=.int .i64 k/\k<=N/\NpW w wr P s r nv iv (OFF+k) (OFF+k)/\wr.heap[LB]? =some (.cells #[jB BL N,jB (BL+1) N] 167 (0,0))/\wr.heap[BL]? =some (.cells ((yS J).map fun x=>Value.string ⟨x.toArray⟩).toArray 9 (0,0))/\wr.heap[BL+1]? =some (.cells ((jk J).map fun (k:Nat)=>Value.int .u8 k).toArray 5 (0,0))
abbrev zeB(J OFF:Nat)(rank:Int)(k:Nat):Prop:=∃(kd:Nat) (sg:List UInt8),(jk J)[k]? =some kd/\(yS J)[k]? =some sg/\jb.take (OFF+k+1)=jb.take (OFF+k) ++ [(kd,.string ⟨sg.toArray⟩)]/\yJ.take (OFF+k+1)=yJ.take (OFF+k) ++ [(kd,.int .i64 rank)]/\(∀x∈jb.take (OFF+k),x.1≠kd)/\(∀x∈yJ.take (OFF+k),x.1≠kd)
theorem Kt{J OFF:Nat}{rank:Int}{k kd:Nat}{sg:List UInt8}(h1:(jk J)[k]? =some kd)(h2:(yS J)[k]? =some sg)(h3:Qd[OFF+k]? =some (kd,sg))(h4:ui[OFF+k]? =some (kd,rank))(h5:((Qd.take (OFF+k)).all fun x=>x.1 != kd)=true)(h6:((ui.take (OFF+k)).all fun x=>x.1 != kd)=true):zeB J OFF rank k:=by
 refine⟨kd,sg,h1,h2,?_,?_,fun x hx=>?_,fun x hx=>?_⟩
 ·rw[wZ];unfold jb;rw[pZ,h3];rfl
 ·rw[wZ];unfold yJ;rw[pZ,h4];rfl
 ·unfold jb at hx;rw[<-List.map_take] at hx;obtain⟨y,hy,rfl⟩:=List.mem_map.1 hx;simpa using pO.1 h5 y hy
 ·unfold yJ at hx;rw[<-List.map_take] at hx;obtain⟨y,hy,rfl⟩:=List.mem_map.1 hx;simpa using pO.1 h6 y hy
theorem zl2:∀k,k<1->zeB 0 0 1 k:=fun k hk=>by
 obtain rfl:k=0:=by omega
 exact Kt rfl rfl rfl rfl rfl rfl
theorem zl1:∀k,k<1->zeB 1 1 2 k:=fun k hk=>by
 obtain rfl:k=0:=by omega
 exact Kt rfl rfl rfl rfl rfl rfl
theorem zl0:∀k,k<7->zeB 2 2 4 k:=fun k hk=>by
 obtain rfl|rfl|rfl|rfl|rfl|rfl|rfl:k=0\/k=1\/k=2\/k=3\/k=4\/k=5\/k=6:=by omega
 all_goals exact Kt rfl rfl rfl rfl rfl rfl
theorem zlZ:∀k,k<3->zeB 3 9 5 k:=fun k hk=>by
 obtain rfl|rfl|rfl:k=0\/k=1\/k=2:=by omega
 all_goals exact Kt rfl rfl rfl rfl rfl rfl
theorem zlY:∀k,k<3->zeB 4 12 6 k:=fun k hk=>by
 obtain rfl|rfl|rfl:k=0\/k=1\/k=2:=by omega
 all_goals exact Kt rfl rfl rfl rfl rfl rfl
def NpT(w:World)(P s r:Nat)(nv iv:Value)(D L:Nat)(ks:List Nat)(i:Value)(wr:World):Prop:=∃k:Nat,i=.int .i64 k/\k<=ks.length/\NpW w wr P s r nv iv 15 (D+k)/\wr.heap[L]? =some (.cells (ks.map fun (k:Nat)=>Value.int .u8 k).toArray 5 (0,0))
theorem zjU{D:Nat}{rank:Int}{k kd:Nat}{ks:List Nat}(h1:ks[k]? =some kd)(h4:ui[D+k]? =some (kd,rank))(h6:((ui.take (D+k)).all fun x=>x.1 != kd)=true):∃kd,ks[k]? =some kd/\yJ.take (D+k+1)=yJ.take (D+k) ++ [(kd,.int .i64 rank)]/\∀x∈yJ.take (D+k),x.1≠kd:=by
 refine⟨kd,h1,?_,fun x hx=>?_⟩
 ·rw[wZ];unfold yJ;rw[pZ,h4];rfl
 ·unfold yJ at hx;rw[<-List.map_take] at hx;obtain⟨y,hy,rfl⟩:=List.mem_map.1 hx;simpa using pO.1 h6 y hy
theorem tl1:∀k,k<4->∃kd,[6,37,38,39][k]? =some kd/\yJ.take (16+k+1)=yJ.take (16+k) ++ [(kd,.int .i64 7)]/\∀x∈yJ.take (16+k),x.1≠kd:=fun k hk=>by
 obtain rfl|rfl|rfl|rfl:k=0\/k=1\/k=2\/k=3:=by omega
 all_goals exact zjU rfl rfl rfl
theorem tl2:∀k,k<2->∃kd,[23,24][k]? =some kd/\yJ.take (20+k+1)=yJ.take (20+k) ++ [(kd,.int .i64 8)]/\∀x∈yJ.take (20+k),x.1≠kd:=fun k hk=>by
 obtain rfl|rfl:k=0\/k=1:=by omega
 all_goals exact zjU rfl rfl rfl
structure PrL(lo:Nat)(w:World)(P:Nat)(nv iv:Value):Prop where
 maps:∃s r,lo<=P/\lo<=s/\lo<=r/\w.heap[P]? =some (.cells #[nv,iv,.map (some s),.map (some r)] 164 (0,0))/\w.heap[s]? =some (ZN jb)/\w.heap[r]? =some (ZN yJ)
theorem PrL.pr{lo:Nat}{w:World}{P:Nat}{nv iv:Value}(h:PrL lo w P nv iv):PrW w P nv iv:=by
 obtain⟨s,r,_,_,_,h1,h2,h3⟩:=h.maps;exact⟨s,r,h1,h2,h3⟩
theorem Ko(nv iv:Value)(w:World):Calls prog 78 #[.agg #[nv,iv]] w fun e w'=>∃P,e=.returned (.pointer (some ⟨P,0,none⟩))/\PrL w.heap.size w' P nv iv/\Below w.heap.size w w':=by
 have h0:=zJ [.cells #[nv,iv] 26 (0,0),.map #[] 0,.map #[] 0,.cells #[nv,iv,.map (some (w.heap.size+1)),.map (some (w.heap.size+2))] 164 (0,0)] w;have hA:=zX [.cells #[nv,iv] 26 (0,0),.map #[] 0,.map #[] 0,.cells #[nv,iv,.map (some (w.heap.size+1)),.map (some (w.heap.size+2))] 164 (0,0)] w;obtain⟨P,hP⟩:=exE (w.heap.size+3);obtain⟨s,hs⟩:=exE (w.heap.size+1);obtain⟨r,hr⟩:=exE (w.heap.size+2);have hst:=zi (show zke w P s r nv iv (.int .i64 0) ([Obj.cells #[nv,iv] 26 (0,0),.map #[] 0,.map #[] 0,.cells #[nv,iv,.map (some (w.heap.size+1)),.map (some (w.heap.size+2))] 164 (0,0)].foldl World.alloc w) from ⟨0,rfl,by omega,⟨by rw[<-hP,<-hs,<-hr];exact h0 3 _ rfl,by rw[<-hs];exact h0 1 _ rfl,by rw[<-hr];exact h0 2 _ rfl,hA⟩⟩);simp only[List.foldl_cons,List.foldl_nil] at hst;clear h0 hA;have HP:=zi hP;have Hs:=zi hs;have Hr:=zi hr;clear hP hs hr;have hmm:= @run_makeMap prog;go_enter func78,ntmps78;go_wp2_with fail;rw[show w.heap.size+1+1=w.heap.size+2 from rfl,HP.out,Hr.out,Hs.out];rw[Hr.out,Hs.out] at hst;go_loopw [19] (zke w P s r nv iv) (fun i _=>5-(intOf i).toNat)
 case atStart=>exact hst.out
 case round=>
  obtain⟨j,rfl,hj,hw⟩:=hrel;have hPn:=HP.out;have hsn:=Hs.out;have hrn:=Hr.out;by_cases hlt:j<5
  ·have hy:=pJ ((j:Int)+1) (by omega);obtain⟨N,OFF,RANK,hoff,hfin,h15,hlf,hix,hi5⟩:∃(N OFF:Nat) (RANK:Int),zfb j=OFF/\Hid (zfb (j+1)=OFF+N)/\Hid (OFF+N<=15)/\Hid (∀k,k<N->zeB j OFF RANK k)/\(∀W,(Instr.index 168 (lvV (wr.heap.size+1)) (.int .i64 j)).run prog W=.ok (.agg #[jB (wr.heap.size+1+2*j) N,jB (wr.heap.size+1+2*j+1) N]) W)/\∀W,(Instr.index 165 (.agg #[.int .i64 1,.int .i64 2,.int .i64 4,.int .i64 5,.int .i64 6]) (.int .i64 j)).run prog W=.ok (.int .i64 RANK) W:=by
    obtain rfl|rfl|rfl|rfl|rfl:j=0\/j=1\/j=2\/j=3\/j=4:=by omega
    ·exact⟨1,0,1,rfl,zi rfl,zi (by decide),zi zl2,fun W=>rfl,fun W=>rfl⟩
    ·exact⟨1,1,2,rfl,zi rfl,zi (by decide),zi zl1,fun W=>rfl,fun W=>rfl⟩
    ·exact⟨7,2,4,rfl,zi rfl,zi (by decide),zi zl0,fun W=>rfl,fun W=>rfl⟩
    ·exact⟨3,9,5,rfl,zi rfl,zi (by decide),zi zlZ,fun W=>rfl,fun W=>rfl⟩
    ·exact⟨3,12,6,rfl,zi rfl,zi (by decide),zi zlY,fun W=>rfl,fun W=>rfl⟩
   rw[hoff] at hw;clear hoff;have HL:=zi (Zz wr);have HW:=zi hw;go_wp2_with fail;refine HL.out.mono ?_;rintro e w2 ⟨rfl,hlv,hb2⟩;have hw2:=hw.below hb2;have hA2:=zf w2 (.cells #[jB (wr.heap.size+1+2*j) N,jB (wr.heap.size+1+2*j+1) N] 167 (0,0));have hl2:=zk w2 (.cells #[jB (wr.heap.size+1+2*j) N,jB (wr.heap.size+1+2*j+1) N] 167 (0,0));have hlv2:=(hlv.below hA2) j hlt;have hw3:=hw2.below hA2;have c1:=zd hl2 1;have hlt2:wr.heap.size+1+2*j+1<w2.heap.size:=(Array.getElem?_eq_some_iff.1 (hlv j hlt).2).1;clear hw;have HI2:=zi hl2;have HW3:=zi hw3;have HLV:=zi hlv2;clear hw3 hlv2 hlv hl2 hw2;go_wp2_with fail;generalize w2.alloc (.cells #[jB (wr.heap.size+1+2*j) N,jB (wr.heap.size+1+2*j+1) N] 167 (0,0))=w3 at *;generalize hBL:wr.heap.size+1+2*j=BL at *;generalize hLB:w2.heap.size=LB at *;have hst:=zi (show zlF w P s r nv iv j N OFF LB BL (.int .i64 0) w3 from ⟨0,rfl,pU _,HW3.out,HI2.out,HLV.out.1,HLV.out.2⟩);clear HW3 HI2 HLV c1 hA2 HL hb2 HW;go_loopw [29] (zlF w P s r nv iv j N OFF LB BL) (fun i _=>N-(intOf i).toNat)
   case atStart=>exact hst.out
   case round=>
    obtain⟨k,rfl,hk,hw,hl,hls,hlk⟩:=hrel;by_cases hlk2:k<N
    ·have hlt':(k:Int)<(N:Int):=by omega
     have hk0:¬((k:Int)<0):=by omega
     have hy:IntKind.i64.wrap ((k:Int)+1)=(k:Int)+1:=pJ _ ⟨by omega,by have:=h15.out;omega⟩;obtain⟨kd,sg,e1,e2,h1,h2,h3,h4⟩:∃(kd:Nat) (sg:List UInt8),(jk j)[k]? =some kd/\(yS j)[k]? =some sg/\jb.take (OFF+k+1)=jb.take (OFF+k) ++ [(kd,.string ⟨sg.toArray⟩)]/\yJ.take (OFF+k+1)=yJ.take (OFF+k) ++ [(kd,.int .i64 RANK)]/\(∀x∈jb.take (OFF+k),x.1≠kd)/\(∀x∈yJ.take (OFF+k),x.1≠kd):=hlf.out k hlk2;obtain⟨c,hc⟩:=exE (OFF+k);have hcn:c<=15:=by have:=h15.out;omega
     rw[hc] at h1 h2 h3 h4 hw;have Hc:=zi hc;clear hc;have c0:wr.cell? ⟨LB,0,none⟩=some (jB BL N):=zd hl 0;have c1:wr.cell? ⟨LB,1,none⟩=some (jB (BL+1) N):=zd hl 1;have ck:wr.cell? ⟨BL+1,k,none⟩=some (.int .u8 kd):=by
      rw[zd hlk k,pV,pZ,e1];rfl
     have cs:wr.cell? ⟨BL,k,none⟩=some (.string ⟨sg.toArray⟩):=by
      rw[zd hls k,pV,pZ,e2];rfl
     have hfd:FrM w.heap.size wr wr.drew:=FrM.drew _ _;have hS:∀V,(zj8 w.heap.size).rel wr.drew V->V.cell? ⟨P,2,none⟩=some (.map (some s))/\V.cell? ⟨P,3,none⟩=some (.map (some r))/\V.cell? ⟨LB,0,none⟩=some (jB BL N)/\V.cell? ⟨BL,k,none⟩=some (.string ⟨sg.toArray⟩):=fun V hV=>by
      have hf:=hfd.trans hV;exact⟨zd (hf.keep _ _ _ _ hw.p) 2,zd (hf.keep _ _ _ _ hw.p) 3,zd (hf.keep _ _ _ _ hl) 0,by rw[zd (hf.keep _ _ _ _ hls) k,pV,pZ,e2];rfl⟩
     obtain⟨v1,r1,s1,o1,f1⟩:=KM (base:=w.heap.size) underlying161 underlying5 (z:=.string ⟨#[]⟩) (fun _=>by kernel_rfl) (w:=wr.drew) (r:=s) (l:=jb.take c) hw.s kd h3 (by omega);obtain⟨v2,r2,s2,o2,f2⟩:=JQ (base:=w.heap.size) (t:=161) s1 (.string ⟨sg.toArray⟩) (by omega);have q2:v2.heap[r]? =some (ZN (yJ.take c)):=by rw[o2 r (by omega),o1 r (by omega)];exact hw.r
     obtain⟨v3,r3,s3,o3,f3⟩:=KM (base:=w.heap.size) underlying162 underlying5 (z:=.int .i64 0) (fun _=>by kernel_rfl) q2 kd h4 (by omega);obtain⟨v4,r4,s4,o4,f4⟩:=JQ (base:=w.heap.size) (t:=162) s3 (.int .i64 RANK) (by omega);have hlens:(jb.take c).length=c:=by rw[wU,show jb.length=15 from rfl];have:=Hc.out;have:=h15.out;omega
     have hlenr:(yJ.take c).length=c:=by rw[wU,show yJ.length=22 from rfl];have:=Hc.out;have:=h15.out;omega
     rw[hlens] at r1 r2;rw[hlenr] at r3 r4;have hF:=zi ((((hfd.trans f1).trans f2).trans f3).trans f4);have G1:=zi f1;have G2:=zi f2;have G3:=zi f3;have G4:=zi f4;have hs4:=zi (show v4.heap[s]? =some (ZN (jb.take (c+1))) from by rw[o4 s (by omega),o3 s (by omega),h1];exact s2);have hr4:=zi (show v4.heap[r]? =some (ZN (yJ.take (c+1))) from by rw[h2];exact s4);have HW:=zi hw;have Hl:=zi hl;have Hls:=zi hls;have Hlk:=zi hlk;clear s1 o1 f1 s2 o2 f2 s3 o3 f3 s4 o4 f4 q2 h1 h2 h3 h4 e1 e2 hlens hlenr hw hl hls hlk hfd c0;go_wp2_with fail;refine LodeX.jm (RR:=zj8 w.heap.size) (Xp:=fun _ _=>False) [(0,0),(1,0),(2,0),(3,1),(4,0),(5,0),(6,0),(7,0),(8,1),(9,0),(10,0),(11,1),(12,0),(13,0),(14,1),(15,0),(16,2),(17,0),(18,2),(19,2),(20,0),(21,2)] ?_;refine LodeX.qT ?_;clear hS;refine LodeX.zZ rfl rfl (fun K hK V hV=>?_);cases hV;go_simp;refine⟨G1.out,hK _ _ ?_⟩;clear hK K
     try simp only[Act.put,yG,yE,yF]
     have hS:∀V:World,True->True:=fun _ h=>h
     refine LodeX.qT ?_;refine LodeX.zZ rfl rfl (fun K hK V hV=>?_);cases hV;go_simp;refine⟨G2.out,hK _ _ ?_⟩;clear hK K
     try simp only[Act.put,yG,yE,yF]
     refine LodeX.zZ rfl rfl (fun K hK V hV=>?_);cases hV;go_simp;refine⟨G3.out,hK _ _ ?_⟩;clear hK K
     try simp only[Act.put,yG,yE,yF]
     refine LodeX.qT ?_;refine LodeX.zZ rfl rfl (fun K hK V hV=>?_);cases hV;go_simp;refine⟨G4.out,hK _ _ ?_⟩;clear hK K
     try simp only[Act.put,yG,yE,yF]
     refine LodeX.zC fun V hV=>?_
     cases hV;clear r1 r2 r3 r4 hS;go_wp2;go_roundw
     case rel=>exact⟨k+1,by go_num,by omega,by rw[show OFF+(k+1)=c+1 from by have:=Hc.out;omega];exact⟨hF.out.keep _ _ _ _ HW.out.p,hs4.out,hr4.out,uL HW.out.b hF.out⟩,hF.out.keep _ _ _ _ Hl.out,hF.out.keep _ _ _ _ Hls.out,hF.out.keep _ _ _ _ Hlk.out⟩
     case measure=>simp[intOf];omega
    ·have hkn:k=N:=by omega
     have hlt':¬((k:Int)<(N:Int)):=by omega
     have HW:=zi hw;clear hw hl hls hlk;go_wp2;go_roundw
     case rel=>exact⟨j+1,by go_num,by omega,by rw[hfin.out,<-hkn];exact HW.out⟩
     case measure=>simp[intOf];omega
  ·obtain rfl:j=5:=by omega
   replace hw:NpW w wr P s r nv iv 15 15:=hw;have c3:wr.cell? ⟨P,3,none⟩=some (.map (some r)):=zd hw.p 3;obtain⟨v1,r1,s1,o1,f1⟩:=Kf (base:=w.heap.size) underlying162 underlying5 hw.r 7 (.int .i64 3) (by decide) (by omega);have hw1:=zi (show NpW w v1 P s r nv iv 15 16 from ⟨f1.keep _ _ _ _ hw.p,by rw[o1 s (by omega)];exact hw.s,s1,uL hw.b f1⟩);replace r1:(Instr.mapUpdate 162 (.map (some r)) (.int .u8 7) (.int .i64 3)).run prog wr=.ok () v1:=r1;clear s1 o1 f1 hw;go_wp2_with fail;have hwA:=zi (hw1.out.below (zf v1 (.cells #[.int .u8 6,.int .u8 37,.int .u8 38,.int .u8 39] 5 (0,0))));have hlA:=zi (zk v1 (.cells #[.int .u8 6,.int .u8 37,.int .u8 38,.int .u8 39] 5 (0,0)));clear hw1 r1 c3;generalize v1.alloc (.cells #[.int .u8 6,.int .u8 37,.int .u8 38,.int .u8 39] 5 (0,0))=v2 at *;generalize v1.heap.size=L1 at *;have hst1:=zi (show NpT w P s r nv iv 16 L1 [6,37,38,39] (.int .i64 0) v2 from ⟨0,rfl,pU _,hwA.out,hlA.out⟩);clear hwA hlA;go_loopw [62] (NpT w P s r nv iv 16 L1 [6,37,38,39]) (fun i _=>4-(intOf i).toNat)
   case atStart=>exact hst1.out
   case round=>
    obtain⟨k,rfl,hk,hw,hl⟩:=hrel;have hPn:=HP.out;have hsn:=Hs.out;have hrn:=Hr.out;have hk:k<=4:=hk;by_cases hlt:k<4
    ·have hlt':(k:Int)<4:=by omega
     have hk0:¬((k:Int)<0):=by omega
     have hy:=pJ ((k:Int)+1) (by omega);obtain⟨kd,e1,h1,h2⟩:=tl1 k hlt;have c3:wr.cell? ⟨P,3,none⟩=some (.map (some r)):=zd hw.p 3;have ck:=zd hl k;rw[pV,pZ,e1] at ck;replace ck:wr.cell? ⟨_,k,none⟩=some (.int .u8 kd):=ck;obtain⟨c,hc⟩:=exE (16+k);rw[hc] at h1 h2 hw;obtain⟨v9,r1,s1,o1,f1⟩:=Kf (base:=w.heap.size) underlying162 underlying5 hw.r kd (.int .i64 7) h2 (by omega);rw[<-h1] at s1;have hw9:=zi (show NpW w v9 P s r nv iv 15 (c+1) from ⟨f1.keep _ _ _ _ hw.p,by rw[o1 s (by omega)];exact hw.s,s1,uL hw.b f1⟩);have hl9:=zi (f1.keep _ _ _ _ hl);have Hc:=zi hc;clear s1 o1 f1 hw hl h1 h2 hc e1;go_wp2;go_roundw
     case rel=>exact⟨k+1,by go_num,by simp;omega,by rw[show 16+(k+1)=c+1 from by have:=Hc.out;omega];exact hw9.out,hl9.out⟩
     case measure=>simp[intOf];omega
    ·obtain rfl:k=4:=by omega
     have HW:=zi hw;clear hl hw;go_wp2_with fail;have hwA:=zi (HW.out.below (zf wr (.cells #[.int .u8 23,.int .u8 24] 5 (0,0))));have hlA:=zi (zk wr (.cells #[.int .u8 23,.int .u8 24] 5 (0,0)));clear HW;generalize wr.alloc (.cells #[.int .u8 23,.int .u8 24] 5 (0,0))=v3 at *;generalize wr.heap.size=L2 at *;have hst2:=zi (show NpT w P s r nv iv 20 L2 [23,24] (.int .i64 0) v3 from ⟨0,rfl,pU _,hwA.out,hlA.out⟩);clear hwA hlA;go_loopw [74] (NpT w P s r nv iv 20 L2 [23,24]) (fun i _=>2-(intOf i).toNat)
     case atStart=>exact hst2.out
     case round=>
      obtain⟨k,rfl,hk,hw,hl⟩:=hrel;have hPn:=HP.out;have hsn:=Hs.out;have hrn:=Hr.out;have hk:k<=2:=hk;by_cases hlt:k<2
      ·have hlt':(k:Int)<2:=by omega
       have hk0:¬((k:Int)<0):=by omega
       have hy:=pJ ((k:Int)+1) (by omega);obtain⟨kd,e1,h1,h2⟩:=tl2 k hlt;have c3:wr.cell? ⟨P,3,none⟩=some (.map (some r)):=zd hw.p 3;have ck:=zd hl k;rw[pV,pZ,e1] at ck;replace ck:wr.cell? ⟨_,k,none⟩=some (.int .u8 kd):=ck;obtain⟨c,hc⟩:=exE (20+k);rw[hc] at h1 h2 hw;obtain⟨v9,r1,s1,o1,f1⟩:=Kf (base:=w.heap.size) underlying162 underlying5 hw.r kd (.int .i64 8) h2 (by omega);rw[<-h1] at s1;have hw9:=zi (show NpW w v9 P s r nv iv 15 (c+1) from ⟨f1.keep _ _ _ _ hw.p,by rw[o1 s (by omega)];exact hw.s,s1,uL hw.b f1⟩);have hl9:=zi (f1.keep _ _ _ _ hl);have Hc:=zi hc;clear s1 o1 f1 hw hl h1 h2 hc e1;go_wp2;go_roundw
       case rel=>exact⟨k+1,by go_num,by simp;omega,by rw[show 20+(k+1)=c+1 from by have:=Hc.out;omega];exact hw9.out,hl9.out⟩
       case measure=>simp[intOf];omega
      ·obtain rfl:k=2:=by omega
       have HW:=zi hw;clear hl hw;go_wp2;go_ret;exact⟨P,rfl,⟨s,r,by omega,by omega,by omega,HW.out.p,HW.out.s,HW.out.r⟩,HW.out.b⟩
end
section
open Go.RowKit Lode Go.Shelf
open Go.Proofs.Tryz
def vL(b:Nat)(w w':World):Prop:=∀(k:Nat) (o:Obj),k≠b->(∀cs fr,o≠.cells cs 5 fr)->w.heap[k]? =some o->w'.heap[k]? =some o
theorem vL.refl(b:Nat)(w:World):vL b w w:=fun _ _ _ _ h=>h
theorem vL.trans{b:Nat}{x y z:World}(h:vL b x y)(k:vL b y z):vL b x z:=fun i o h1 h2 h3=>k i o h1 h2 (h i o h1 h2 h3)
theorem vL.set(b i:Nat)(v:Value)(w:World):vL b w (w.setCell ⟨b,i,none⟩ v):=fun k o h1 _ h3=>(zt h1).trans h3
theorem KT(B b:Nat)(bs:List Value)(w:World)(h:IsB B b bs w):
 Calls prog 80 #[.pointer (some ⟨b,0,none⟩)] w fun e w'=>e=.returned (.tuple #[])/\(JD B b (.pointer (some ⟨b,0,none⟩)) bs w'/\Below B w w')/\vL b w w':=by
 rcases h with h|h
 ·refine (vS b w h.cell0 h.shape h.frozen0).mono ?_;rintro e w' ⟨rfl,rfl⟩;exact⟨rfl,⟨h.used _,(pF B w).setCell (p:=⟨b,0,none⟩) h.1 _⟩,vL.set _ _ _ _⟩
 ·refine (uw b w h.cell0).mono ?_;rintro e w' ⟨rfl,rfl⟩;exact⟨rfl,⟨h,pF B _⟩,vL.refl _ _⟩
theorem VU{w:World}{B:Nat}{v:Value}{m:Nat}{xs:List Value}(h:w.ownsRow B 5 1 v m xs){g:Nat}(hg:v.ownBlock=some g):∃cs fr,w.heap[g]? =some (.cells cs 5 fr):=by
 obtain⟨_,⟨hv,_⟩|⟨g',cap,cur,hv,_,hh,_⟩⟩:=h
 ·rw[hv] at hg;cases hg
 ·rw[hv] at hg;simp only[Value.ownBlock,pQ] at hg;subst hg;exact⟨cur,_,hh⟩
theorem XW(B b:Nat)(bs:List Value)(s:ByteArray)(w:World)(h:IsB B b bs w)(hlen:bs.length+s.size<=140737488355328)(hBw:B<=w.heap.size):
 Calls prog 46 #[.pointer (some ⟨b,0,none⟩),.string s] w fun e w'=>e=.returned (.tuple #[.int .i64 s.size,.nilIface])/\(JD B b (.pointer (some ⟨b,0,none⟩)) (bs ++ Lib.strCells s) w'/\Below B w w')/\vL b w w':=by
 obtain⟨i0,hi,hz0,hz1,hz2⟩:=info_parts zbt;go_enter func46,ntmps46;go_wp2_with (go_at_call 80;refine (KT B b bs _ h).mono ?_);rintro e w1 ⟨rfl,⟨h1,hb1⟩,hk1⟩;obtain⟨hB,v,hbk,hown,hne⟩:=h1;have HK1:=zi hk1;clear hk1;have c0:w1.cell? ⟨b,0,none⟩=some (.pointer (some ⟨b,0,none⟩)):=by rw[Lib.cell_of_heap hbk];rfl
 have c1:w1.cell? ⟨b,1,none⟩=some v:=by rw[Lib.cell_of_heap hbk];rfl
 go_wp2_with (at_builtin;refine Lib.wpList_append_own_string _ rfl _ _ 82 9 rfl B 5 i0 underlying82 underlying9 hi hz0 hz1 hz2 _ _ _ rfl hown s rfl ?c3 ?c4 ?c5 ?_)
 case c3=>unfold maxLen;omega
 case c4=>omega
 case c5=>have:=hb1.size;omega
 intro v' w2 hown' hgrow _;have hlt:b<w1.heap.size:=by
  rcases Nat.lt_or_ge b w1.heap.size with h'|h'
  ·exact h'
  ·simp[Array.getElem?_eq_none h'] at hbk
 have hk2:=zi (show vL b w1 w2 from fun k o h1 h2 h3=>by
  rw[hgrow.block k (gtA h3) (fun e=>by
   obtain⟨cs,fr,hh⟩:=VU hown e.symm;rw[h3] at hh;cases hh;exact h2 _ _ rfl)]
  exact h3)
 have hb2:w2.heap[b]? =some (.cells #[.pointer (some ⟨b,0,none⟩),v] 84 (0,0)):=by
  rw[hgrow.block b hlt (fun e=>hne e.symm)];exact hbk
 have d0:w2.cell? ⟨b,0,none⟩=some (.pointer (some ⟨b,0,none⟩)):=by rw[Lib.cell_of_heap hb2];rfl
 have d1:w2.cell? ⟨b,1,none⟩=some v:=by rw[Lib.cell_of_heap hb2];rfl
 have f1:w2.frozen? ⟨b,1,none⟩=false:=Lib.frozen_of_heap hb2 1;obtain⟨ao,n',cap,rfl⟩:∃ao n' cap,v'=.slice ao n' cap:=by
  rcases hown'.2 with⟨hv,_⟩|⟨g,cap,cur,hv,_⟩
  ·exact⟨_,_,_,hv⟩
  ·exact⟨_,_,_,hv⟩
 go_wp2;go_ret2;refine⟨rfl,⟨?_,?_⟩,(HK1.out.trans hk2.out).trans (vL.set _ _ _ _)⟩
 ·exact Lib.BuilderAt.put (T:=84) (e:=5) hB hb2 (bs':=bs ++ Lib.strCells s) (by simpa[Lib.strCells_length] using hown') (by decide)
 ·exact (hb1.grown hgrow (by have:=hb1.size;omega) (fun k hk=>(hown.lt k hk).1)).setCell (p:=⟨b,1,none⟩) hB _
theorem Bd.writeKeep{w0 w:World}{b:Nat}{ob:ByteArray}(h:Bd w0 b ob w)(x:ByteArray)(hs:ob.size+x.size<=2000000000000):
 Calls prog 46 #[.pointer (some ⟨b,0,none⟩),.string x] w fun e w'=>e=.returned (.tuple #[.int .i64 x.size,.nilIface])/\Bd w0 b (ob ++ x) w'/\vL b w w'/\Below w0.heap.size w w':=
 (XW w0.heap.size b _ x w h.1 (pN (Nat.le_of_eq (by rw[Lib.byteCells_length];exact congrArg (· +x.size) (by simp:ob.data.toList.length=ob.size))) (by omega:ob.size+x.size<=140737488355328)) h.2.size).mono fun e w' ⟨h1,⟨h2,h3⟩,h4⟩=>⟨h1,⟨.inr (by
  have e:Lib.byteCells (ob ++ x).data.toList=Lib.byteCells ob.data.toList ++ Lib.strCells x:=by rw[zq];simp[Lib.byteCells,Lib.strCells]
  rw[e];exact h2),h.2.trans h3⟩,h4,h3⟩
theorem JD.grown{B b:Nat}{p:Value}{bs:List Value}{w w':World}{row:Option Nat}(h:JD B b p bs w)(hg:w.grownBy w' row)(hr:∀r,row=some r->∃o:Obj,w.heap[r]? =some o/\o.isCells=false):JD B b p bs w':=by
 obtain⟨hB,v,hbk,hown,hne⟩:=h;refine⟨hB,v,?_,World.ownsRow.kept hown hg ?_,hne⟩
 ·rw[hg.block b (gtA hbk) (fun e=>by
   obtain⟨o,ho,hc⟩:=hr b e.symm;rw[hbk] at ho;cases ho;cases hc)]
  exact hbk
 ·cases hv:v.ownBlock with
  |none=>exact .inl rfl
  |some g=>
   refine .inr (fun e=>?_);obtain⟨cs,fr,hh⟩:=VU hown hv;obtain⟨o,ho,hc⟩:=hr g e.symm;rw[hh] at ho;cases ho;cases hc
theorem Bd.grown{w0 w w':World}{b:Nat}{ob:ByteArray}{row:Option Nat}(h:Bd w0 b ob w)(hg:w.grownBy w' row)(hr:∀r,row=some r->w0.heap.size<=r/\∃o:Obj,w.heap[r]? =some o/\o.isCells=false):Bd w0 b ob w':=
 ⟨h.1.imp (fun h=>JD.grown h hg (fun r e=>(hr r e).2)) (fun h=>JD.grown h hg (fun r e=>(hr r e).2)),h.2.grown hg h.2.size (fun r e=>(hr r e).1)⟩
def KpO(o:Obj):Prop:=(∃cs T fr,o=.cells cs T fr/\T≠5)\/∃es c,o=.map es c
structure KpL(X:Nat->Prop)(base:Nat)(A B:World):Prop where
 b:Below base A B
 size:A.heap.size<=B.heap.size
 keep:∀(k:Nat) (o:Obj),¬X k->KpO o->A.heap[k]? =some o->B.heap[k]? =some o
theorem KpL.refl(X:Nat->Prop)(base:Nat)(A:World):KpL X base A A:=⟨pF _ _,pE _,fun _ _ _ _ h=>h⟩
theorem KpL.trans{X:Nat->Prop}{base:Nat}{a b c:World}(h:KpL X base a b)(k:KpL X base b c):KpL X base a c:=⟨h.b.trans k.b,pN h.size k.size,fun i o h1 h2 h3=>k.keep i o h1 h2 (h.keep i o h1 h2 h3)⟩
theorem KpL.of_below{X:Nat->Prop}{base:Nat}{a b:World}(hb:base<=a.heap.size)(h:Below a.heap.size a b):KpL X base a b:=⟨h.mono hb,h.size,fun k o _ _ hk=>(h.block k (gtA hk)).trans hk⟩
theorem KpL.put{X:Nat->Prop}{base:Nat}{w:World}(hb:base<=w.heap.size)(W:World)(l:Nat)(o:Loop)(o':Obj)(hl:w.heap.size<=l)(h:W.heap[l]? =some (.loop o)):KpL X base W (W.putObj l o'):=by
 have hlt:=(gtA h);have hg:=grownBy_putObj' W l o';refine⟨(pF _ W).grown hg (by omega) (fun k hk=>by cases hk;omega),hg.size,fun k o2 _ hK hk=>?_⟩;rw[World.putObj_heap_other (fun e'=>by
  subst e';rw[h] at hk;cases hk;rcases hK with⟨cs,T,fr,he,_⟩|⟨es,c,he⟩ <;> cases he)]
 exact hk
theorem PrL.keep{X:Nat->Prop}{base lo:Nat}{w w':World}{P:Nat}{nv iv:Value}(h:PrL lo w P nv iv)(hX:∀k,X k->k<lo)(hk:KpL X base w w'):PrL lo w' P nv iv:=by
 obtain⟨s,r,l1,l2,l3,h1,h2,h3⟩:=h.maps;have hn:∀k,lo<=k->¬X k:=fun k hk hx=>by have:=hX k hx;omega
 exact⟨s,r,l1,l2,l3,hk.keep _ _ (hn _ l1) (.inl ⟨_,_,_,rfl,by decide⟩) h1,hk.keep _ _ (hn _ l2) (.inr ⟨_,_,rfl⟩) h2,hk.keep _ _ (hn _ l3) (.inr ⟨_,_,rfl⟩) h3⟩
theorem zgu(nv iv:Value)(w:World):Calls prog 45 #[.agg #[nv,iv]] w fun e w'=>e=.returned (.func (.func 77) #[] #[.pointer (some ⟨w.heap.size,0,none⟩)])/\w'=w.alloc (.cells #[nv,iv] 26 (0,0)):=by
 have hmf:∀(fn:Fn) (first cap:Array Value) (w:World),(Instr.makeFunc fn first cap).run prog w=.ok (.func fn first cap) w:=fun _ _ _ _=>rfl
 go_enter func45,ntmps45;go_wp2;go_ret;exact⟨rfl,rfl⟩
structure zlE(t:yo):Prop where
 full:xL t.nodes t.nodes.length
 right:∀x∈t.nodes,yj t.nodes x=true
 nodes:t.nodes.length<=1000
 items:t.items.length<=40
 its:∀k∈t.items,0<=k/\k<(t.nodes.length:Int)
 kind:∀x∈t.nodes,x.kind<=255
def zkf(X:Nat->Prop)(base lo P:Nat)(nv iv:Value)(m:Nat)(J:List ByteArray->World->Prop)(Ws:World)(i:Value)(wr:World):Prop:=∃pre:List ByteArray,i=.int .i64 pre.length/\pre.length<=m/\KpL X base Ws wr/\J pre wr/\PrL lo wr P nv iv
theorem zgt(X:Nat->Prop)(w0:World)(C:Nat)(t:yo)(nv iv:Value)(hT:TR w0 nv iv t)(hG:qH w0)(hok:zlE t)(w:World)(hb0:Below w0.heap.size w0 w)(hC:w.heap[C]? =some (.cells #[nv,iv] 26 (0,0)))(hXC:¬X C)(hX:∀k,X k->k<w.heap.size)(n:Nat)(hn:1<=n):
 zgR Fence.wide n prog 77 #[] #[.pointer (some ⟨C,0,none⟩)] (fun x:ByteArray=> #[.string x]) (KpL X w0.heap.size) (fun pre x=>pre.length<t.items.length/\x.data.toList=prT t (t.items.getD pre.length 0) ++ [10]) (fun _=>False) (fun xs=>xs.length=t.items.length) (fun _=>True) w:=fun L J Jx W hW hJ hJx hY h0=>by
 have hC:=zh hW hC;have hXW:∀k,X k->k<W.heap.size:=fun k hk=>wI (hX k hk) hW.size
 have hb0:=hb0.trans (hW.mono hb0.size);obtain⟨np,nc,ip,ic,rfl,rfl⟩:=hT.form;obtain⟨kv,hN⟩:=hT.nodes;have HNode:=fun P=>zi (VS P (.slice np t.nodes.length nc) (.slice ip t.items.length ic) t.nodes kv hok.full hok.right hok.nodes hok.kind (t.nodes.length+1) t.nodes.length (by omega) (pE _))
 have c0:=zd hC 0;have c1:=zd hC 1;have HY:=zi hY;have HJ:=zi hJ;have HN:=zi hN;have HI:=zi hT.items;have HG:=zi hG;have Hits:=zi hok.its;have hm40:=hok.items;have HNP:=zi (Ko (.slice np t.nodes.length nc) (.slice ip t.items.length ic) W);have H0:=zi h0;have HC:=zi hC;clear hY hJ hN hT hG hok h0 hC;generalize hml:t.items.length=m at *;have Hml:=zi hml;clear hml;have hfn:∀f,Fence.wide.fn f=True:=fun _=>rfl
 refine callsIn_of_wp func77 rfl trivial ?_ rfl;simp only[ntmps77,List.size_toArray,pK,pR,Nat.reduceAdd,Nat.reduceSub,Array.replicate_succ,Array.replicate_zero,List.push_toArray,List.append_toArray,wJ,pT]
 gi_wp2_with fail
 refine (callsIn_wide.2 HNP.out).mono ?_;rintro e W1 ⟨P,rfl,hP,hbP⟩;clear c0 c1;have c1:=zd (zh hbP HC.out) 1;have hst:=zi (show zkf X w0.heap.size W.heap.size P (.slice np t.nodes.length nc) (.slice ip m ic) m J W (.int .i64 0) W1 from ⟨[],rfl,pU _,KpL.of_below hb0.size hbP,HJ.out [] W W1 none H0.out (uv hbP none) (fun r e=>by cases e),hP⟩);clear hP
 gi_wp2_with fail
 clear c1
 gi_loopw [11] (zkf X w0.heap.size W.heap.size P (.slice np t.nodes.length nc) (.slice ip m ic) m J W) (fun i _=>m-(intOf i).toNat)
 case atStart=>exact hst.out
 case round=>
  obtain⟨pre,rfl,hpre,hkp,hj,hP⟩:=hrel;have hb0r:=hb0.trans hkp.b;by_cases hlt:pre.length<m
  ·have hlt':(pre.length:Int)<(m:Int):=by omega
   have hj0:¬((pre.length:Int)<0):=by omega
   have hy:=pJ ((pre.length:Int)+1) (by omega);have hjl:pre.length<t.items.length:=by rw[Hml.out];exact hlt
   obtain⟨g2,off2,rfl,_,d0⟩:=(HI.out.below hb0r).at hjl;have hz:=Hits.out (t.items.getD pre.length 0) (by rw[pA,glE hjl];exact wC hjl);have HYp:=zi (fun (b:ByteArray) (w2:World) (hb:b.data.toList=prT t (t.items.getD pre.length 0) ++ [10]) (hj2:J pre w2)=>HY.out pre b w2 hj2 ⟨hlt,hb⟩);generalize t.items.getD pre.length 0=z at *;obtain⟨zn,rfl⟩:=pP hz.1;have hNd:=zi ((HNode P).out.ok wr zn (by omega) ⟨hP.pr,HN.out.below hb0r,HG.out.later hb0r⟩);have hlen:=(HNode P).out.len zn (by omega);have HKP:=zi hkp;have HJp:=zi hj;have HP:=zi hP;clear hkp hj hP
   gi_wp2_with fail
   refine (callsIn_wide.2 hNd.out).mono ?_;rintro e w2 ⟨b,rfl,hb,hf⟩;have hsz:=xo hb;have HB:=zi hb;clear hb;obtain⟨fn,tm,asg,bo,hyy,hRR⟩:=HYp.out (b ++ ⟨#[10]⟩) w2 (by rw[zq,HB.out];rfl) (HJ.out pre wr w2 none HJp.out (uv hf none) (fun r e=>by cases e));have hRR:=zi hRR;have hk2:=zi (KpL.of_below (X:=X) hb0r.size hf)
   gi_wp2_with fail
   refine hRR.out.mono ?_;rintro e W' (⟨rfl,hJ',hk'⟩|⟨rfl,hJx'⟩)
   ·have hK:=zi ((HKP.out.trans hk2.out).trans hk');have hP':=zi ((HP.out.keep hXW hk2.out).keep hXW hk');have HJ':=zi hJ';clear hJ' hk'
    gi_wp2_with fail
    go_roundw
    case rel=>exact⟨pre ++ [b ++ ⟨#[10]⟩],by rw[pC,pI];go_num,by rw[pC,pI];omega,hK.out,HJ'.out,hP'.out⟩
    case measure=>simp only[intOf];omega
   ·gi_wp2_with fail
    first|go_end0|refine bodyPost_ret (results_none rfl _ _ _) rfl ?_
    exact⟨⟨_,rfl⟩,.inr ⟨_,trivial,hJx'⟩⟩
  ·have hlt':¬((pre.length:Int)<(m:Int)):=by omega
   gi_wp2_with fail
   first|go_end0|refine bodyPost_ret (results_none rfl _ _ _) rfl ?_
   exact⟨⟨_,rfl⟩,.inl ⟨pre,by omega,hj⟩⟩
theorem Tryz.cellsU8:prog.cellsOf 5=1:=by kernel_rfl
theorem zgB{w:World}{b:Nat}{p:Value}(hbk:w.heap[b]? =some (.cells #[p,.slice none 0 0] 84 (0,0))):
 Calls prog 48 #[.pointer (some ⟨b,0,none⟩)] w fun e w'=>e=.returned (.string .empty)/\Below w.heap.size w w':=by
 have mixed:prog.follows .mixedOrders=true:=by kernel_rfl
 have hUS:(Builtin.unsafeString_ #[133,3] 9 #[.pointer none,.int .i64 0]).run prog w.drew=.ok (.string .empty) w.drew:=Lib.run_unsafeString_none _ _ _ _ _;have hSD:(Builtin.unsafeSliceData_ #[82] 133 #[.slice none 0 0]).run prog w.drew=.ok (.pointer none) w.drew:=rfl;have c1:w.drew.cell? ⟨b,1,none⟩=some (.slice none 0 0):=zd (show w.drew.heap[b]? =_ from hbk) 1;clear hbk;go_enter func48,ntmps48;go_wp2;go_region_o
 all_goals (go_wp2;go_ret;exact⟨rfl,bR.drew⟩)
theorem Bd.strKeep{w0 w:World}{b:Nat}{ob:ByteArray}(h:Bd w0 b ob w)(h0:ob.data.toList≠[]):
 Calls prog 48 #[.pointer (some ⟨b,0,none⟩)] w fun e w'=>e=.returned (.string ob)/\Below w0.heap.size w w'/\vL b w w':=by
 obtain⟨l,hl⟩:=exE (ob.data.toList);have hob:ob=⟨l.toArray⟩:=by rw[<-hl]
 subst hob;obtain⟨p,hAt⟩:∃p,JD w0.heap.size b p (Lib.byteCells l) w:=by
  have h1:=h.1;rw[hl] at h1;rcases h1 with h1|h1
  ·exact⟨_,h1⟩
  ·exact⟨_,h1⟩
 obtain⟨hB,v,hbk,hown,hne⟩:=hAt;rw[Lib.byteCells_length] at hown;have hbw:=h.2.size;clear h hl;have mixed:prog.follows .mixedOrders=true:=by kernel_rfl
 have h0:l≠[]:=h0;have hl0:l.length≠0:=by simpa using h0
 obtain⟨g,cap,cur,rfl,hbg,hg,hnc,hcm,hcs,htake⟩:∃g cap cur,v=.slice (some ⟨g,0,none⟩) l.length cap/\w0.heap.size<=g/\w.heap[g]? =some (.cells cur 5 (0,0))/\l.length<=cap/\cap<=maxLen/\cur.size=cap*1/\cur.toList.take (l.length*1)=Lib.byteCells l:=by
  rcases hown.2 with⟨_,hz⟩|⟨g,cap,cur,hv,r⟩
  ·exact absurd hz hl0
  ·exact⟨g,cap,cur,hv,r⟩
 have c1:w.drew.cell? ⟨b,1,none⟩=some (.slice (some ⟨g,0,none⟩) l.length cap):=zd (show w.drew.heap[b]? =_ from hbk) 1;have hSD:(Builtin.unsafeSliceData_ #[82] 133 #[.slice (some ⟨g,0,none⟩) l.length cap]).run prog w.drew=.ok (.pointer (some ⟨g,0,none⟩)) w.drew:=Lib.run_unsafeSliceData_row _ _ _ _ _ _ (by omega);have hUS:(Builtin.unsafeString_ #[133,3] 9 #[.pointer (some ⟨g,0,none⟩),.int .i64 l.length]).run prog w.drew=.ok (.string ⟨l.toArray⟩) (w.drew.freeze ⟨g,0,none⟩ l.length):=by
  refine Lib.run_unsafeString_row _ 133 3 9 5 underlying133 Tryz.cellsU8 g cur.size (by have hg':w.drew.heap[g]? =some (.cells cur 5 (0,0)):=hg;simp[World.shape?,hg']) l h0 (by omega) (by unfold maxLen at hcm;omega) ?_;intro j x hx;have:=hown.cells (g:=g) rfl j (.int .u8 x.toNat) (by simp[Lib.byteCells,hx]);exact this
 have hk:=zi (show vL b w (w.drew.freeze ⟨g,0,none⟩ l.length) from fun k o h1 h2 h3=>Lib.OthersKept.freeze (e:=5) (b:=none) (a:=w) (w:=w.drew) (Lib.OthersKept.refl _ _ w).drew ⟨g,0,none⟩ l.length ⟨cur,(0,0),hg⟩ k o h3 (by simp) (fun c fz=>h2 c fz));have hb:=zi (Lib.below_freeze (Below.drew (pF w0.heap.size w)) (p:=⟨g,0,none⟩) hbg l.length);clear hown hg hcs htake hbk;go_enter func48,ntmps48;go_wp2;go_region_o
 all_goals (go_wp2;go_ret;exact⟨rfl,hb.out,hk.out⟩)
end
section
open Go.RowKit Lode Go.Shelf
attribute [local go_sem] Oper.semAt_some
open Go.Proofs.Tryz
theorem Bd.cells{w0 w:World}{b:Nat}{ob:ByteArray}(h:Bd w0 b ob w):∃cs T fr,w.heap[b]? =some (.cells cs T fr):=by
 rcases h.1 with⟨_,v,h,_⟩|⟨_,v,h,_⟩ <;> exact⟨_,_,_,h⟩
def PnI(line:Int->List UInt8)(its:List Int)(wB:World)(b:Nat)(pre:List ByteArray)(W:World):Prop:=∃ob:ByteArray,Bd wB b ob W/\ob.data.toList=(its.take pre.length).flatMap line/\ob.size<=3200001*pre.length/\pre.length<=its.length/\(pre=[]->W.heap[b]? =some (.cells #[.pointer none,.slice none 0 0] 84 (0,0)))/\(pre≠[]->ob.size≠0)
theorem PnI.own{line:Int->List UInt8}{its:List Int}{wB:World}{b B:Nat}(hB:wB.heap.size<=B):YE (fun _=>False) B (PnI line its wB b):=by
 intro pre W W' row ⟨ob,h1,h2,h3,h4,h5,h6⟩ hg hr;have hr2:∀r,row=some r->wB.heap.size<=r/\∃o:Obj,W.heap[r]? =some o/\o.isCells=false:=fun r e=>by
  rcases hr r e with h|⟨h,o,ho,hc⟩
  ·exact h.elim
  ·exact⟨pN hB h,o,ho,hc⟩
 refine⟨ob,h1.grown hg hr2,h2,h3,h4,fun hp=>?_,h6⟩;have hh:=h5 hp;rw[hg.block b (gtA hh) (fun e=>by
  obtain⟨_,o,ho,hc⟩:=hr2 b e.symm;rw[hh] at ho;cases ho;cases hc)]
 exact hh
theorem zjg{t:yo}(hok:Zo t)(hc:zR t=0):zlE t:=by
 have hn:¬(1000<t.nodes.length\/40<t.items.length):=fun h=>by
  unfold zR at hc;rw[if_pos h] at hc;cases hc
 have hf:qD t=true:=by
  unfold zR at hc;rw[if_neg hn] at hc;cases h:qD t with
  |true=>rfl
  |false=>
   rw[h] at hc;cases hc
 have hv:=Xh hok hf;rw[Yy t hok.kids] at hf;obtain⟨hF,hI,hR⟩:=Zj hf;exact⟨hF,hR,by omega,by omega,hv.2,hok.kind⟩
def zlD(w:World)(r:List UInt8×Nat)(e:Ending)(w':World):Prop:=e=.returned (.tuple #[.string ⟨r.1.toArray⟩,.int .i64 (r.2:Nat)])/\Below w.heap.size w w'
theorem zay(t:yo)(nv iv:Value)(w:World)(hT:TR w nv iv t)(hG:qH w)(hok:Zo t):Calls prog 20 #[.agg #[nv,iv]] w (zlD w (YZ t)):=by
 obtain⟨R,hR⟩:=exE (YZ t);rw[hR];unfold YZ at hR;obtain⟨np,nc,ip,ic,hnv,hiv⟩:=hT.form;have hz:=zk w (.cells #[nv,iv] 26 (0,0));have hA:=zf w (.cells #[nv,iv] 26 (0,0));have hC:=zi (ub t _ _ _ (hT.below hA) (hG.later hA) hok);have hPO:=zi (fun (h:zR t=0)=>zjg hok h);have c0:=zd hz 0;have c1:=zd hz 1;have HZ:=zi hz;have HT:=zi hT;have HG:=zi hG;have HR:=zi hR;clear hz hT hG hR hok hnv hiv;generalize hck:zR t=ck at *;have Hck:=zi hck;clear hck;have hfn:∀f,Fence.wide.fn f=True:=fun _=>rfl
 refine (callsIn_wide (n:=5)).1 ?_;refine callsIn_of_wp_marks func20 rfl trivial ?_ rfl;simp only[ntmps20,List.size_toArray,pK,pR,Nat.reduceAdd,Nat.reduceSub,Array.replicate_succ,Array.replicate_zero,List.push_toArray,List.append_toArray,wJ,pT]
 gi_wp2_with fail
 refine (callsIn_wide.2 hC.out).mono ?_;rintro e w2 ⟨rfl,hb2⟩;have hB2:=zg hA hb2;clear c0 c1 hC;have hz2:=zh hb2 HZ.out;have c0:=zd hz2 0;have c1:=zd hz2 1;by_cases hck:ck=0
 ·subst hck;have hr:=HR.out;rw[if_neg (by simp)] at hr;have HPO:=zi (hPO.out rfl);have hA3:=zf w2 (.cells #[.pointer none,.slice none 0 0] 84 (0,0));have hF:=zi (Bd.fresh w2 _ rfl);have hF2:=zi (zk w2 (.cells #[.pointer none,.slice none 0 0] 84 (0,0)));have d0:=zd (zh hA3 hz2) 0;have d1:=zd (zh hA3 hz2) 1;have HRr:=zi hr;clear hr c0 c1 hz2
  gi_wp2_with fail
  refine (callsIn_wide.2 (zgu _ _ _)).mono ?_;rintro e w4 ⟨rfl,rfl⟩;clear d0 d1
  gi_wp2_with fail
  have hszC:(w2.alloc (.cells #[.pointer none,.slice none 0 0] 84 (0,0))).heap.size=w2.heap.size+1:=by simp
  obtain⟨w3,hw3⟩:=exE (w2.alloc (.cells #[.pointer none,.slice none 0 0] 84 (0,0)));rw[hw3] at hszC hA3 ⊢;have hF3:=hF.out;have hF4:=hF2.out;rw[hw3] at hF3 hF4;generalize hact:(Act.mk _ [])=a0;have hbw:=zf w3 (.cells #[nv,iv] 26 (0,0));have hCb:=zk w3 (.cells #[nv,iv] 26 (0,0));have hsz4:(w3.alloc (.cells #[nv,iv] 26 (0,0))).heap.size=w3.heap.size+1:=by simp
  rw[hszC] at hCb;generalize w3.alloc (.cells #[nv,iv] 26 (0,0))=w4 at *;have hB4:=zi (zg (zg hB2 hA3) hbw);have hI0:PnI (fun k=>prT t k ++ [10]) t.items w2 w2.heap.size [] w4:=⟨ByteArray.empty,Bd.lat hF3 hbw,by simp,by decide,pU _,fun _=>zh hbw hF4,fun h=>absurd rfl h⟩;have hws:=hB2.size;have hXs:∀k,k=w2.heap.size->k<w4.heap.size:=fun k hk=>by omega
  have hXC:¬(w2.heap.size+1=w2.heap.size):=by omega
  have hm40:=HPO.out.items;have HNl:=zi (fun (k:Int) (hk:k∈t.items)=>(show (prT t k).length<=3200000 from by
   obtain⟨h0,h1⟩:=HPO.out.its k hk;obtain⟨kn,rfl⟩:=pP h0;exact VR HPO.out.full HPO.out.right HPO.out.nodes _ kn (by omega)))
  refine zaA (encs:=fun x:ByteArray=> #[.string x]) (gf:=77) (la:= #[]) (lb:= #[.pointer (some ⟨w2.heap.size+1,0,none⟩)]) rfl (by omega) (by rw[<-hact];rfl) trivial (enters_of func77 (by kernel_rfl) rfl)
   (zgt (fun k=>k=w2.heap.size) w (w2.heap.size+1) t nv iv HT.out HG.out HPO.out w4 hB4.out hCb hXC hXs _ (by omega)) (fun r h=>h.elim) (fun x=>rfl) KpL.trans (fun W l o o' hl ho=>KpL.put (w:=w4) (by omega) W l o o' hl ho)
   (PnI (fun k=>prT t k ++ [10]) t.items w2 w2.heap.size) (fun _ _ _=>False) (PnI.own (by omega)) (fun c s W W' row h _ _=>h) hI0
   (fun pre x a' W=>PnI (fun k=>prT t k ++ [10]) t.items w2 w2.heap.size pre W/\a'={tmps:=((a0.tmps.setIfInBounds 14 (.string x)).setIfInBounds 6 (.string x)),defers:=[]})
   (fun pre x a' W l o o' ⟨h1,h2⟩ hl ho hc=>⟨PnI.own (B:=w4.heap.size) (by omega) pre W _ (some l) h1 (grownBy_putObj' W l o') (fun r e=>by cases e;exact .inr ⟨hl,o,ho,hc⟩),h2⟩) ?assign ?body ?done ?stop
  case assign=>
   rintro L pre x W K hI hGx hK;subst hact;simp only[List.zip_toArray,List.zip_cons_cons,List.zip_nil_left,List.foldl_toArray',List.foldl_cons,List.foldl_nil,yG,yE,yF]
   gi_wp2_with fail
   refine hK _ _ (KeepsOthers.refl _) (KpL.refl _ _ _) ⟨hI,?_⟩;simp only[yG,yE,yF]
  case body=>
   rintro L pre x a' W ⟨⟨ob,hb,ho1,ho2,ho3,ho4,ho5⟩,rfl⟩ ⟨hpl,hx⟩;subst hact;simp only[yG,yE,yF];have hxs:=xo hx;have hmem:t.items.getD pre.length 0∈t.items:=by rw[pA,glE hpl];exact wC hpl
   have hnl:=HNl.out _ hmem;rw[pC,pI] at hxs;obtain⟨cs9,T9,fr9,hcells⟩:=hb.cells;have hW:=zi (hb.writeKeep x (by omega));have hstep:(t.items.take (pre ++ [x]).length).flatMap (fun k=>prT t k ++ [10])=ob.data.toList ++ x.data.toList:=by
    rw[pC,pI,wZ,glE hpl,List.flatMap_append,<-ho1,hx];rw[pA,glE hpl];simp
   have Hst:=zi hstep;have Hc:=zi hcells;have Hx:=zi hxs;have hx1:x.size<=3200001:=by omega
   have Hnl:=zi hnl;clear hstep hx hmem hnl ho1 ho4 ho5 hcells hxs hb;have hfn2:∀f,(Fence.wide.inRound L).fn f=True:=fun _=>rfl
   gi_wp2_with fail
   refine (LodeX.Xl hW.out).mono ?_;rintro e W' ⟨rfl,hb',hkeep,hbl⟩;have hko:KeepsOthers W W':=⟨hbl.size,fun k o hk ho=>hkeep k o (fun e=>by
    subst e;rw[Hc.out] at hk;cases hk;cases ho) (fun cs fr e=>by subst e;cases ho) hk⟩
   have hkp:KpL (fun k=>k=w2.heap.size) w.heap.size W W':=⟨hbl.mono hws,hbl.size,fun k o hX hK hk=>hkeep k o hX (fun cs fr e=>by
    subst e;rcases hK with⟨cs',T,fr',he,hT⟩|⟨es,c,he⟩
    ·cases he;exact hT rfl
    ·cases he) hk⟩
   have hI2:PnI (fun k=>prT t k ++ [10]) t.items w2 w2.heap.size (pre ++ [x]) W':=⟨ob ++ x,hb',by rw[zq,Hst.out],by rw[ByteArray.size_append,pC,pI];omega,by rw[pC,pI];omega,fun h=>by simp at h,fun _=>by rw[ByteArray.size_append];have:=Hx.out;omega⟩;clear hkeep hbl hb'
   gi_wp2_with fail
   exact⟨hko,hkp,hI2⟩
  case done=>
   intro Dd xs W hS hI hDd hdd;obtain⟨ob,hb,ho1,ho2,ho3,ho4,ho5⟩:=hI;subst hact;have htk:t.items.take xs.length=t.items:=by rw[hS];exact List.take_length
   rw[htk] at ho1;have hBW:Below w.heap.size w W:=zg (zg hA hb2) hb.2;have hxl:xs.length<=40:=by rw[hS];exact hm40
   have hsz9:ob.size<=1000000000000:=by omega
   have hlim:=fun W' (hb:Below w.heap.size w W')=>zcM ob.data.toList W' (by have:ob.data.toList.length=ob.size:=rfl;omega) (HG.out.later hb)
   rw[show (⟨ob.data.toList.toArray⟩:ByteArray)=ob from rfl,ho1,HRr.out] at hlim;have hLim:=zi hlim;have hDw:w2.heap.size<Dd:=by omega
   have hdl:Dd<W.heap.size:=(gtA hdd);have Hdd:=zi hdd;obtain⟨R1,R2⟩:=R;clear hlim ho2 ho3 htk hdd;by_cases hx0:xs=[]
   ·have he:ob=ByteArray.empty:=by
     have hil:t.items=[]:=pM (by rw[<-hS,hx0];rfl);rw[hil] at ho1;have h1:ob.data.toList=[]:=ho1;exact ByteArray.ext (Array.ext' h1)
    subst he;have hFS:=zi (zgB (ho4 hx0));clear ho1 ho4 ho5 hx0 hb
    gi_wp2_with fail
    refine (callsIn_wide.2 hFS.out).mono ?_;rintro e W2 ⟨rfl,hb5⟩;have hL2:=zi (hLim.out W2 (zg hBW hb5))
    gi_wp2_with fail
    refine (callsIn_wide.2 hL2.out).mono ?_;rintro e W3 ⟨rfl,hb6⟩;have hdd3:W3.heap[Dd]? =some (.deferred (some [])):=((zg hb5 hb6).block _ hdl).trans Hdd.out;have hB6:=zg (zg hBW hb5) hb6
    gi_wp2_with fail
    refine⟨by simp,.inl ⟨_,_,rfl,run_takeDeferred hdd3,?_⟩⟩;refine⟨.tuple #[.string ⟨R1.toArray⟩,.int .i64 R2],by simp[results,results20,go_sem],rfl,hB6.grown (grownBy_putObj' W3 Dd _) hB6.size (fun r e=>?_)⟩;cases e;omega
   ·have hobn:ob.data.toList≠[]:=fun e=>by
     have h1:=ho5 hx0;have:ob.data.toList.length=ob.size:=rfl;rw[e] at this;exact h1 this.symm
    have hFS:=zi (hb.strKeep hobn);clear ho1 ho4 ho5 hobn hb
    gi_wp2_with fail
    refine (callsIn_wide.2 hFS.out).mono ?_;rintro e W2 ⟨rfl,hb5,hk5⟩;have hdd2:W2.heap[Dd]? =some (.deferred (some [])):=hk5 _ _ (by omega) (fun cs fr e=>by cases e) Hdd.out;have hB5:=hBW.trans (hb5.mono hws);have hL2:=zi (hLim.out W2 hB5);clear hk5
    gi_wp2_with fail
    refine (callsIn_wide.2 hL2.out).mono ?_;rintro e W3 ⟨rfl,hb6⟩;have hdd3:W3.heap[Dd]? =some (.deferred (some [])):=(hb6.block _ (gtA hdd2)).trans hdd2;have hB6:=zg hB5 hb6
    gi_wp2_with fail
    refine⟨by simp,.inl ⟨_,_,rfl,run_takeDeferred hdd3,?_⟩⟩;refine⟨.tuple #[.string ⟨R1.toArray⟩,.int .i64 R2],by simp[results,results20,go_sem],rfl,hB6.grown (grownBy_putObj' W3 Dd _) hB6.size (fun r e=>?_)⟩;cases e;omega
  case stop=>
   rintro Dd c pre W _ h _ _;exact h.elim
 ·have hck':((ck:Int) == 0)=false:=bfE (by omega)
  have hr:=HR.out;rw[if_pos hck] at hr;subst hr;clear c0 c1
  gi_wp2_with fail
  exact⟨_,by simp[results,results20,go_sem],rfl,hB2⟩
def zk2(w:World)(r:List UInt8×Int×Nat)(e:Ending)(w':World):Prop:=e=.returned (.tuple #[.string ⟨r.1.toArray⟩,.int .i64 r.2.1,.int .i64 (r.2.2:Nat)])/\Below w.heap.size w w'
end
section
open Go.RowKit Lode Go.Shelf
attribute [local go_sem] Oper.semAt_some
attribute [local go_sem ↓] Go.wp_at_zero Go.wp_at_succ
open Go.Proofs.Tryz
theorem Vg(s:ByteArray)(w:World)(hs:s.size<=1000000000000)(hG:qH w)(hok:(zW s.data.toList).2.2=0->Zo (zW s.data.toList).1):Calls prog 21 #[.string s] w (zk2 w (uD s.data.toList)):=by
 obtain⟨R,hR⟩:=exE (uD s.data.toList);rw[hR];unfold uD at hR;have hP:=zi (kW s w hs hG);have HG:=zi hG;obtain⟨p,hp⟩:=exE (zW s.data.toList);rw[hp] at hR hP hok;obtain⟨t,at_,ep⟩:=p;simp only at hR hok;have HR:=zi hR;have Hok:=zi hok;clear hR hok hG hp;go_enter func21,ntmps21;go_wp2_with fail;refine hP.out.mono ?_;rintro e w1 ⟨hb1,nv,iv,rfl,hT⟩;simp only at hT ⊢;obtain⟨np,nc,ip,ic,rfl,rfl⟩:=hT.form;have HT:=zi hT;clear hT;generalize t.nodes.length=nl at *;generalize t.items.length=il at *;have hz:=zk w1 (.cells #[.slice np nl nc,.slice ip il ic] 26 (0,0));have hA:=zf w1 (.cells #[.slice np nl nc,.slice ip il ic] 26 (0,0));have c0:=zd hz 0;have c1:=zd hz 1;have hB:=zg hb1 hA;clear hz;by_cases he:ep=0
 ·subst he;have hr:=HR.out;rw[if_neg (by simp)] at hr;have hPr:=zi (zay t _ _ _ (HT.out.below hA) (HG.out.later hB) (Hok.out rfl));subst hr;generalize YZ t=pt at *;obtain⟨p1,p2⟩:=pt;go_wp2_with fail;refine hPr.out.mono ?_;rintro e w3 ⟨rfl,hb3⟩;go_wp2;refine bodyPost_ret (v:=.tuple #[.string ⟨p1.toArray⟩,.int .i64 0,.int .i64 p2]) (by simp[results,results21,go_sem]) rfl ?_;exact⟨rfl,zg hB hb3⟩
 ·have he':((ep:Int) == 0)=false:=bfE (by omega)
  have hr:=HR.out;rw[if_pos he] at hr;subst hr;go_wp2;refine bodyPost_ret (v:=.tuple #[.string ⟨#[]⟩,.int .i64 at_,.int .i64 ep]) (by simp[results,results21,go_sem]) rfl ?_;exact⟨rfl,hB⟩
end
end Go.Proofs.YtnncmdpopgkibaaGreatDoor
