import Derived.Test.YtcagibbaeageoaaGreatDoorSK
import Derived.Test.YtcagibbaeageoaaGreatDoorSL
import Derived.Test.YtcagibbaeageoaaGreatDoorSN
import Derived.Carry
import Derived.Lib.OthersKept
import Derived.OwnWalkIn
set_option maxRecDepth 100000
set_option maxHeartbeats 0
set_option linter.all false
variable{B D J P base c g k kd lo m:Nat}{a w w' w0 wB:Go.World}{et kt t:Go.TypeId}{iv nv v z:Go.Value}{l:List (Nat×Go.Value)}{rank:Int}{sg:List UInt8}{ks:List Nat}{bs xs:List Go.Value}{ob:ByteArray}{row:Option Nat}{X:Nat->Prop}{line:Int->List UInt8}
namespace Go.Proofs.YtcagibbaeageoaaGreatDoor
section
open Go.RowKit Lode Go.Shelf
attribute [local go_sem ↓] wp_at_zero wp_at_succ
open Go.Proofs.Tryz
structure FrM(base:Nat)(w w':World):Prop where
 b:Below base w w'
 keep:∀(k:Nat) (cs:Array Value) (T:TypeId) (fr:Nat×Nat),w.heap[k]? =some (.cells cs T fr)->w'.heap[k]? =some (.cells cs T fr)
def FrM.refl(base:Nat)(w:World):FrM base w w:=⟨pG _ _,λ_ _ _ _ h=>h⟩
theorem FrM.drew(base:Nat)(w:World):FrM base w w.drew:=⟨bR.drew,λ_ _ _ _ h=>h⟩
theorem FrM.trans{b c:World}(h:FrM base a b)(k:FrM base b c):FrM base a c:=⟨h.b.trans k.b,λn cs T fr hn=>k.keep n cs T fr (h.keep n cs T fr hn)⟩
def zmH(base:Nat):LodeX.Rel:=⟨FrM base,FrM.refl base,FrM.trans,Eq,λ_=>rfl,Eq.trans,λh=>h▸FrM.refl base _⟩
def ZA{b:World}(h:Below w.heap.size w a)(k:FrM w.heap.size a b):Below w.heap.size w b:=h.trans k.b
def zcc{r:Nat}{es:Array MapEntry}(hr:w.heap[r]? =some (.map es c))(hb:base<=r)(o:Obj):({w with heap:=w.heap.setIfInBounds r o}:World).heap[r]? =some o/\(∀q,q≠r->({w with heap:=w.heap.setIfInBounds r o}:World).heap[q]? =w.heap[q]?)/\FrM base w {w with heap:=w.heap.setIfInBounds r o}:=by
 have mD:=(gtA hr);refine⟨by simp[mD],λq hq=>by simp[Array.getElem?_setIfInBounds,Ne.symm hq],⟨⟨rfl,rfl,rfl,by simp,λk hk=>?_⟩,λk cs T fr hk=>?_⟩⟩
 ·simp[Array.getElem?_setIfInBounds,show r≠k by omega]
 ·have:r≠k:=λe=>by subst e;rw[hr] at hk;cases hk
  simp[Array.getElem?_setIfInBounds,this];exact hk
def zah(ht:prog.underlying t=some (.map kt et))(hk:prog.underlying kt=some (.int .u8))(hz:∀w:World,(zeroValue et).run prog w=.ok z w){r:Nat}(hb:w.heap[r]? =some (YF l))(k:Nat)(hn:∀x∈l,x.1≠k)(hr:base<=r):
 ∃w',(Instr.mapEntry t (.map (some r)) (.int .u8 k)).run prog w=.ok (.tuple #[z,.int .i64 l.length]) w'/\w'.heap[r]? =some (YF (l ++ [(k,z)]))/\(∀q,q≠r->w'.heap[q]? =w.heap[q]?)/\FrM base w w':=by
 obtain⟨h1,h2,h3⟩:=zcc hb hr (YF (l ++ [(k,z)]));exact⟨_,zkc ht hk hz hb k hn,h1,h2,h3⟩
def Vm{r:Nat}(hb:w.heap[r]? =some (YF (l ++ [(k,z)])))(v:Value)(hr:base<=r):
 ∃w',(Instr.entryStore t (.map (some r)) (.int .i64 l.length) v).run prog w=.ok () w'/\w'.heap[r]? =some (YF (l ++ [(k,v)]))/\(∀q,q≠r->w'.heap[q]? =w.heap[q]?)/\FrM base w w':=by
 obtain⟨h1,h2,h3⟩:=zcc hb hr (YF (l ++ [(k,v)]));exact⟨_,zkb hb v,h1,h2,h3⟩
def VB(ht:prog.underlying t=some (.map kt et))(hk:prog.underlying kt=some (.int .u8)){r:Nat}(hb:w.heap[r]? =some (YF l))(k:Nat)(v:Value)(hn:∀x∈l,x.1≠k)(hr:base<=r):
 ∃w',(Instr.mapUpdate t (.map (some r)) (.int .u8 k) v).run prog w=.ok () w'/\w'.heap[r]? =some (YF (l ++ [(k,v)]))/\(∀q,q≠r->w'.heap[q]? =w.heap[q]?)/\FrM base w w':=by
 obtain⟨h1,h2,h3⟩:=zcc hb hr (YF (l ++ [(k,v)]));exact⟨_,znq ht hk hb k v hn,h1,h2,h3⟩
structure NpW(w wr:World)(P s r:Nat)(nv iv:Value)(c d:Nat):Prop where
 p:wr.heap[P]? =some (.cells #[nv,iv,.map (some s),.map (some r)] 166 (0,0))
 s:wr.heap[s]? =some (YF (js.take c))
 r:wr.heap[r]? =some (YF (yZ.take d))
 b:Below w.heap.size w wr
def NpW.below{wr:World}{s r:Nat}{d:Nat}(h:NpW w wr P s r nv iv c d)(hb:Below wr.heap.size wr w'):NpW w w' P s r nv iv c d:=
 ⟨zi hb h.p,(hb.block _ (gtA h.s)).trans h.s,(hb.block _ (gtA h.r)).trans h.r,zg h.b hb⟩
def zg5(j:Nat):Nat:=[0,1,2,9,12,15].getD j 15
def zmM(w:World)(P s r:Nat)(nv iv:Value)(i:Value)(wr:World):Prop:=∃j:Nat,i=.int .i64 j/\j<=5/\NpW w wr P s r nv iv (zg5 j) (zg5 j)
def zoB(w:World)(P s r:Nat)(nv iv:Value)(J N OFF LB BL:Nat)(i:Value)(wr:World):Prop:=∃k:Nat,i=.int .i64 k/\k<=N/\NpW w wr P s r nv iv (OFF+k) (OFF+k)/\wr.heap[LB]? =some (.cells #[jU BL N,jU (BL+1) N] 169 (0,0))/\wr.heap[BL]? =some (.cells ((yD J).map λx=>Value.string ⟨x.toArray⟩).toArray 9 (0,0))/\wr.heap[BL+1]? =some (.cells ((qv J).map λ(k:Nat)=>Value.int .u8 k).toArray 5 (0,0))
abbrev zgt(J OFF:Nat)(rank:Int)(k:Nat):Prop:=∃(kd:Nat) (sg:List UInt8),(qv J)[k]? =some kd/\(yD J)[k]? =some sg/\js.take (OFF+k+1)=js.take (OFF+k) ++ [(kd,.string ⟨sg.toArray⟩)]/\yZ.take (OFF+k+1)=yZ.take (OFF+k) ++ [(kd,.int .i64 rank)]/\(∀x∈js.take (OFF+k),x.1≠kd)/\(∀x∈yZ.take (OFF+k),x.1≠kd)
def VP{OFF:Nat}(h1:(qv J)[k]? =some kd)(h2:(yD J)[k]? =some sg)(h3:Jq[OFF+k]? =some (kd,sg))(h4:uY[OFF+k]? =some (kd,rank))(h5:((Jq.take (OFF+k)).all λx=>x.1 != kd)=true)(h6:((uY.take (OFF+k)).all λx=>x.1 != kd)=true):zgt J OFF rank k:=by
 refine⟨kd,sg,h1,h2,?_,?_,λx hx=>?_,λx hx=>?_⟩
 ·rw[gB];unfold js;rw[wC,h3];rfl
 ·rw[gB];unfold yZ;rw[wC,h4];rfl
 ·unfold js at hx;rw[<-List.map_take] at hx;obtain⟨y,hy,rfl⟩:=List.mem_map.1 hx;simpa using pY.1 h5 y hy
 ·unfold yZ at hx;rw[<-List.map_take] at hx;obtain⟨y,hy,rfl⟩:=List.mem_map.1 hx;simpa using pY.1 h6 y hy
def zoX:∀k,k<1->zgt 0 0 1 k:=λk hk=>by
 obtain rfl:k=0:=by omega
 exact VP rfl rfl rfl rfl rfl rfl
def zoW:∀k,k<1->zgt 1 1 2 k:=λk hk=>by
 obtain rfl:k=0:=by omega
 exact VP rfl rfl rfl rfl rfl rfl
def zoV:∀k,k<7->zgt 2 2 4 k:=λk hk=>by
 obtain rfl|rfl|rfl|rfl|rfl|rfl|rfl:k=0\/k=1\/k=2\/k=3\/k=4\/k=5\/k=6:=by omega
 all_goals exact VP rfl rfl rfl rfl rfl rfl
def zoU:∀k,k<3->zgt 3 9 5 k:=λk hk=>by
 obtain rfl|rfl|rfl:k=0\/k=1\/k=2:=by omega
 all_goals exact VP rfl rfl rfl rfl rfl rfl
def zoT:∀k,k<3->zgt 4 12 6 k:=λk hk=>by
 obtain rfl|rfl|rfl:k=0\/k=1\/k=2:=by omega
 all_goals exact VP rfl rfl rfl rfl rfl rfl
def NpT(w:World)(P s r:Nat)(nv iv:Value)(D L:Nat)(ks:List Nat)(i:Value)(wr:World):Prop:=∃k:Nat,i=.int .i64 k/\k<=ks.length/\NpW w wr P s r nv iv 15 (D+k)/\wr.heap[L]? =some (.cells (ks.map λ(k:Nat)=>Value.int .u8 k).toArray 5 (0,0))
def zmj(h1:ks[k]? =some kd)(h4:uY[D+k]? =some (kd,rank))(h6:((uY.take (D+k)).all λx=>x.1 != kd)=true):∃kd,ks[k]? =some kd/\yZ.take (D+k+1)=yZ.take (D+k) ++ [(kd,.int .i64 rank)]/\∀x∈yZ.take (D+k),x.1≠kd:=by
 refine⟨kd,h1,?_,λx hx=>?_⟩
 ·rw[gB];unfold yZ;rw[wC,h4];rfl
 ·unfold yZ at hx;rw[<-List.map_take] at hx;obtain⟨y,hy,rfl⟩:=List.mem_map.1 hx;simpa using pY.1 h6 y hy
def tl1:∀k,k<4->∃kd,[6,37,38,39][k]? =some kd/\yZ.take (16+k+1)=yZ.take (16+k) ++ [(kd,.int .i64 7)]/\∀x∈yZ.take (16+k),x.1≠kd:=λk hk=>by
 obtain rfl|rfl|rfl|rfl:k=0\/k=1\/k=2\/k=3:=by omega
 all_goals exact zmj rfl rfl rfl
def tl2:∀k,k<2->∃kd,[23,24][k]? =some kd/\yZ.take (20+k+1)=yZ.take (20+k) ++ [(kd,.int .i64 8)]/\∀x∈yZ.take (20+k),x.1≠kd:=λk hk=>by
 obtain rfl|rfl:k=0\/k=1:=by omega
 all_goals exact zmj rfl rfl rfl
structure PrL(lo:Nat)(w:World)(P:Nat)(nv iv:Value):Prop where
 maps:∃s r,lo<=P/\lo<=s/\lo<=r/\w.heap[P]? =some (.cells #[nv,iv,.map (some s),.map (some r)] 166 (0,0))/\w.heap[s]? =some (YF js)/\w.heap[r]? =some (YF yZ)
def PrL.pr(h:PrL lo w P nv iv):PrW w P nv iv:=by
 obtain⟨s,r,_,_,_,h1,h2,h3⟩:=h.maps;exact⟨s,r,h1,h2,h3⟩
def VK(nv iv:Value)(w:World):Calls prog 107 #[.agg #[nv,iv]] w λe w'=>∃P,e=.returned (.pointer (some ⟨P,0,none⟩))/\PrL w.heap.size w' P nv iv/\Below w.heap.size w w':=by
 have h0:=zV [.cells #[nv,iv] 26 (0,0),.map #[] 0,.map #[] 0,.cells #[nv,iv,.map (some (w.heap.size+1)),.map (some (w.heap.size+2))] 166 (0,0)] w;have hA:=yw [.cells #[nv,iv] 26 (0,0),.map #[] 0,.map #[] 0,.cells #[nv,iv,.map (some (w.heap.size+1)),.map (some (w.heap.size+2))] 166 (0,0)] w;obtain⟨P,hP⟩:=exE (w.heap.size+3);obtain⟨s,hs⟩:=exE (w.heap.size+1);obtain⟨r,hr⟩:=exE (w.heap.size+2);have mK:=zh (show zmM w P s r nv iv (.int .i64 0) ([Obj.cells #[nv,iv] 26 (0,0),.map #[] 0,.map #[] 0,.cells #[nv,iv,.map (some (w.heap.size+1)),.map (some (w.heap.size+2))] 166 (0,0)].foldl World.alloc w) from ⟨0,rfl,by omega,⟨by rw[<-hP,<-hs,<-hr];exact h0 3 _ rfl,by rw[<-hs];exact h0 1 _ rfl,by rw[<-hr];exact h0 2 _ rfl,hA⟩⟩);simp only[List.foldl_cons,List.foldl_nil] at mK;clear h0 hA;have HP:=zh hP;have Hs:=zh hs;have Hr:=zh hr;clear hP hs hr;have hmm:= @run_makeMap prog;go_enter func107,ntmps107;go_wp2_with fail;rw[show w.heap.size+1+1=w.heap.size+2 from rfl,HP.q,Hr.q,Hs.q];rw[Hr.q,Hs.q] at mK;go_loopw [19] (zmM w P s r nv iv) (λi _=>5-(intOf i).toNat)
 case atStart=>exact mK.q
 case round=>
  obtain⟨j,rfl,hj,hw⟩:=hrel;have Lb:=HP.q;have Id:=Hs.q;have Ia:=Hr.q;by_cases mD:j<5
  ·have hy:=pF ((j:Int)+1) (by omega);obtain⟨N,OFF,RANK,Wu,nZ,rA,hlf,bU,SP⟩:∃(N OFF:Nat) (RANK:Int),zg5 j=OFF/\Hid (zg5 (j+1)=OFF+N)/\Hid (OFF+N<=15)/\Hid (∀k,k<N->zgt j OFF RANK k)/\(∀W,(Instr.index 170 (lvV (wr.heap.size+1)) (.int .i64 j)).run prog W=.ok (.agg #[jU (wr.heap.size+1+2*j) N,jU (wr.heap.size+1+2*j+1) N]) W)/\∀W,(Instr.index 167 (.agg #[.int .i64 1,.int .i64 2,.int .i64 4,.int .i64 5,.int .i64 6]) (.int .i64 j)).run prog W=.ok (.int .i64 RANK) W:=by
    obtain rfl|rfl|rfl|rfl|rfl:j=0\/j=1\/j=2\/j=3\/j=4:=by omega
    ·exact⟨1,0,1,rfl,zh rfl,zh (by decide),zh zoX,λW=>rfl,λW=>rfl⟩
    ·exact⟨1,1,2,rfl,zh rfl,zh (by decide),zh zoW,λW=>rfl,λW=>rfl⟩
    ·exact⟨7,2,4,rfl,zh rfl,zh (by decide),zh zoV,λW=>rfl,λW=>rfl⟩
    ·exact⟨3,9,5,rfl,zh rfl,zh (by decide),zh zoU,λW=>rfl,λW=>rfl⟩
    ·exact⟨3,12,6,rfl,zh rfl,zh (by decide),zh zoT,λW=>rfl,λW=>rfl⟩
   rw[Wu] at hw;clear Wu;have HL:=zh (Yn wr);have HW:=zh hw;go_wp2_with fail;refine HL.q.mono ?_;rintro e w2 ⟨rfl,Ng,mM⟩;have tK:=hw.below mM;have ND:=zf w2 (.cells #[jU (wr.heap.size+1+2*j) N,jU (wr.heap.size+1+2*j+1) N] 169 (0,0));have eT:=zk w2 (.cells #[jU (wr.heap.size+1+2*j) N,jU (wr.heap.size+1+2*j+1) N] 169 (0,0));have Wh:=(Ng.below ND) j mD;have Rb:=tK.below ND;have c1:=zd eT 1;have pf:wr.heap.size+1+2*j+1<w2.heap.size:=(Array.getElem?_eq_some_iff.1 (Ng j mD).2).1;clear hw;have GP:=zh eT;have GR:=zh Rb;have HLV:=zh Wh;clear Rb Wh Ng eT tK;go_wp2_with fail;generalize w2.alloc (.cells #[jU (wr.heap.size+1+2*j) N,jU (wr.heap.size+1+2*j+1) N] 169 (0,0))=w3 at *;generalize hBL:wr.heap.size+1+2*j=BL at *;generalize hLB:w2.heap.size=LB at *;have mK:=zh (show zoB w P s r nv iv j N OFF LB BL (.int .i64 0) w3 from ⟨0,rfl,pU _,GR.q,GP.q,HLV.q.1,HLV.q.2⟩);clear GR GP HLV c1 ND HL mM HW;go_loopw [29] (zoB w P s r nv iv j N OFF LB BL) (λi _=>N-(intOf i).toNat)
   case atStart=>exact mK.q
   case round=>
    obtain⟨k,rfl,hk,hw,hl,Wd,dY⟩:=hrel;by_cases EM:k<N
    ·have me:(k:Int)<(N:Int):=by omega
     have hk0:¬((k:Int)<0):=by omega
     have hy:IntKind.i64.wrap ((k:Int)+1)=(k:Int)+1:=pF _ ⟨by omega,by have:=rA.q;omega⟩;obtain⟨kd,sg,e1,e2,h1,h2,h3,h4⟩:∃(kd:Nat) (sg:List UInt8),(qv j)[k]? =some kd/\(yD j)[k]? =some sg/\js.take (OFF+k+1)=js.take (OFF+k) ++ [(kd,.string ⟨sg.toArray⟩)]/\yZ.take (OFF+k+1)=yZ.take (OFF+k) ++ [(kd,.int .i64 RANK)]/\(∀x∈js.take (OFF+k),x.1≠kd)/\(∀x∈yZ.take (OFF+k),x.1≠kd):=hlf.q k EM;obtain⟨c,hc⟩:=exE (OFF+k);have ax:c<=15:=by have:=rA.q;omega
     rw[hc] at h1 h2 h3 h4 hw;have Hc:=zh hc;clear hc;have c0:wr.cell? ⟨LB,0,none⟩=some (jU BL N):=zd hl 0;have c1:wr.cell? ⟨LB,1,none⟩=some (jU (BL+1) N):=zd hl 1;have ck:wr.cell? ⟨BL+1,k,none⟩=some (.int .u8 kd):=by
      rw[zd dY k,pS,wC,e1];rfl
     have cs:wr.cell? ⟨BL,k,none⟩=some (.string ⟨sg.toArray⟩):=by
      rw[zd Wd k,pS,wC,e2];rfl
     have fW:FrM w.heap.size wr wr.drew:=FrM.drew _ _;have hS:∀V,(zmH w.heap.size).rel wr.drew V->V.cell? ⟨P,2,none⟩=some (.map (some s))/\V.cell? ⟨P,3,none⟩=some (.map (some r))/\V.cell? ⟨LB,0,none⟩=some (jU BL N)/\V.cell? ⟨BL,k,none⟩=some (.string ⟨sg.toArray⟩):=λV hV=>by
      have hf:=fW.trans hV;exact⟨zd (hf.keep _ _ _ _ hw.p) 2,zd (hf.keep _ _ _ _ hw.p) 3,zd (hf.keep _ _ _ _ hl) 0,by rw[zd (hf.keep _ _ _ _ Wd) k,pS,wC,e2];rfl⟩
     obtain⟨v1,r1,s1,o1,f1⟩:=zah (base:=w.heap.size) underlying163 underlying5 (z:=.string ⟨#[]⟩) (λ_=>by kernel_rfl) (w:=wr.drew) (r:=s) (l:=js.take c) hw.s kd h3 (by omega);obtain⟨v2,r2,s2,o2,f2⟩:=Vm (base:=w.heap.size) (t:=163) s1 (.string ⟨sg.toArray⟩) (by omega);have q2:v2.heap[r]? =some (YF (yZ.take c)):=by rw[o2 r (by omega),o1 r (by omega)];exact hw.r
     obtain⟨v3,r3,s3,o3,f3⟩:=zah (base:=w.heap.size) underlying164 underlying5 (z:=.int .i64 0) (λ_=>by kernel_rfl) q2 kd h4 (by omega);obtain⟨v4,r4,s4,o4,f4⟩:=Vm (base:=w.heap.size) (t:=164) s3 (.int .i64 RANK) (by omega);have Nf:(js.take c).length=c:=by rw[gE,show js.length=15 from rfl];have:=Hc.q;have:=rA.q;omega
     have Nc:(yZ.take c).length=c:=by rw[gE,show yZ.length=22 from rfl];have:=Hc.q;have:=rA.q;omega
     rw[Nf] at r1 r2;rw[Nc] at r3 r4;have hF:=zh ((((fW.trans f1).trans f2).trans f3).trans f4);have G1:=zh f1;have G2:=zh f2;have G3:=zh f3;have G4:=zh f4;have hs4:=zh (show v4.heap[s]? =some (YF (js.take (c+1))) from by rw[o4 s (by omega),o3 s (by omega),h1];exact s2);have pu:=zh (show v4.heap[r]? =some (YF (yZ.take (c+1))) from by rw[h2];exact s4);have HW:=zh hw;have Hl:=zh hl;have Hls:=zh Wd;have Hlk:=zh dY;clear s1 o1 f1 s2 o2 f2 s3 o3 f3 s4 o4 f4 q2 h1 h2 h3 h4 e1 e2 Nf Nc hw hl Wd dY fW c0;go_wp2_with fail;refine LodeX.xC (RR:=zmH w.heap.size) (Xp:=λ_ _=>False) [(0,0),(1,0),(2,0),(3,1),(4,0),(5,0),(6,0),(7,0),(8,1),(9,0),(10,0),(11,1),(12,0),(13,0),(14,1),(15,0),(16,2),(17,0),(18,2),(19,2),(20,0),(21,2)] ?_;refine LodeX.xt ?_;clear hS;refine LodeX.yH rfl rfl (λK hK V hV=>?_);cases hV;go_simp;refine⟨G1.q,hK _ _ ?_⟩;clear hK K
     try simp only[Act.put,yh,yf,yg]
     have hS:∀V:World,True->True:=λ_ h=>h
     refine LodeX.xt ?_;refine LodeX.yH rfl rfl (λK hK V hV=>?_);cases hV;go_simp;refine⟨G2.q,hK _ _ ?_⟩;clear hK K
     try simp only[Act.put,yh,yf,yg]
     refine LodeX.yH rfl rfl (λK hK V hV=>?_);cases hV;go_simp;refine⟨G3.q,hK _ _ ?_⟩;clear hK K
     try simp only[Act.put,yh,yf,yg]
     refine LodeX.xt ?_;refine LodeX.yH rfl rfl (λK hK V hV=>?_);cases hV;go_simp;refine⟨G4.q,hK _ _ ?_⟩;clear hK K
     try simp only[Act.put,yh,yf,yg]
     refine LodeX.zF λV hV=>?_
     cases hV;clear r1 r2 r3 r4 hS;go_wp2;go_roundw
     case rel=>exact⟨k+1,by go_num,by omega,by rw[show OFF+(k+1)=c+1 from by have:=Hc.q;omega];exact⟨hF.q.keep _ _ _ _ HW.q.p,hs4.q,pu.q,ZA HW.q.b hF.q⟩,hF.q.keep _ _ _ _ Hl.q,hF.q.keep _ _ _ _ Hls.q,hF.q.keep _ _ _ _ Hlk.q⟩
     case measure=>simp[intOf];omega
    ·have sC:k=N:=by omega
     have me:¬((k:Int)<(N:Int)):=by omega
     have HW:=zh hw;clear hw hl Wd dY;go_wp2;go_roundw
     case rel=>exact⟨j+1,by go_num,by omega,by rw[nZ.q,<-sC];exact HW.q⟩
     case measure=>simp[intOf];omega
  ·obtain rfl:j=5:=by omega
   replace hw:NpW w wr P s r nv iv 15 15:=hw;have c3:wr.cell? ⟨P,3,none⟩=some (.map (some r)):=zd hw.p 3;obtain⟨v1,r1,s1,o1,f1⟩:=VB (base:=w.heap.size) underlying164 underlying5 hw.r 7 (.int .i64 3) (by decide) (by omega);have rE:=zh (show NpW w v1 P s r nv iv 15 16 from ⟨f1.keep _ _ _ _ hw.p,by rw[o1 s (by omega)];exact hw.s,s1,ZA hw.b f1⟩);replace r1:(Instr.mapUpdate 164 (.map (some r)) (.int .u8 7) (.int .i64 3)).run prog wr=.ok () v1:=r1;clear s1 o1 f1 hw;go_wp2_with fail;have sS:=zh (rE.q.below (zf v1 (.cells #[.int .u8 6,.int .u8 37,.int .u8 38,.int .u8 39] 5 (0,0))));have WV:=zh (zk v1 (.cells #[.int .u8 6,.int .u8 37,.int .u8 38,.int .u8 39] 5 (0,0)));clear rE r1 c3;generalize v1.alloc (.cells #[.int .u8 6,.int .u8 37,.int .u8 38,.int .u8 39] 5 (0,0))=v2 at *;generalize v1.heap.size=L1 at *;have FA:=zh (show NpT w P s r nv iv 16 L1 [6,37,38,39] (.int .i64 0) v2 from ⟨0,rfl,pU _,sS.q,WV.q⟩);clear sS WV;go_loopw [62] (NpT w P s r nv iv 16 L1 [6,37,38,39]) (λi _=>4-(intOf i).toNat)
   case atStart=>exact FA.q
   case round=>
    obtain⟨k,rfl,hk,hw,hl⟩:=hrel;have Lb:=HP.q;have Id:=Hs.q;have Ia:=Hr.q;have hk:k<=4:=hk;by_cases mD:k<4
    ·have me:(k:Int)<4:=by omega
     have hk0:¬((k:Int)<0):=by omega
     have hy:=pF ((k:Int)+1) (by omega);obtain⟨kd,e1,h1,h2⟩:=tl1 k mD;have c3:wr.cell? ⟨P,3,none⟩=some (.map (some r)):=zd hw.p 3;have ck:=zd hl k;rw[pS,wC,e1] at ck;replace ck:wr.cell? ⟨_,k,none⟩=some (.int .u8 kd):=ck;obtain⟨c,hc⟩:=exE (16+k);rw[hc] at h1 h2 hw;obtain⟨v9,r1,s1,o1,f1⟩:=VB (base:=w.heap.size) underlying164 underlying5 hw.r kd (.int .i64 7) h2 (by omega);rw[<-h1] at s1;have Rc:=zh (show NpW w v9 P s r nv iv 15 (c+1) from ⟨f1.keep _ _ _ _ hw.p,by rw[o1 s (by omega)];exact hw.s,s1,ZA hw.b f1⟩);have MR:=zh (f1.keep _ _ _ _ hl);have Hc:=zh hc;clear s1 o1 f1 hw hl h1 h2 hc e1;go_wp2;go_roundw
     case rel=>exact⟨k+1,by go_num,by simp;omega,by rw[show 16+(k+1)=c+1 from by have:=Hc.q;omega];exact Rc.q,MR.q⟩
     case measure=>simp[intOf];omega
    ·obtain rfl:k=4:=by omega
     have HW:=zh hw;clear hl hw;go_wp2_with fail;have sS:=zh (HW.q.below (zf wr (.cells #[.int .u8 23,.int .u8 24] 5 (0,0))));have WV:=zh (zk wr (.cells #[.int .u8 23,.int .u8 24] 5 (0,0)));clear HW;generalize wr.alloc (.cells #[.int .u8 23,.int .u8 24] 5 (0,0))=v3 at *;generalize wr.heap.size=L2 at *;have rv:=zh (show NpT w P s r nv iv 20 L2 [23,24] (.int .i64 0) v3 from ⟨0,rfl,pU _,sS.q,WV.q⟩);clear sS WV;go_loopw [74] (NpT w P s r nv iv 20 L2 [23,24]) (λi _=>2-(intOf i).toNat)
     case atStart=>exact rv.q
     case round=>
      obtain⟨k,rfl,hk,hw,hl⟩:=hrel;have Lb:=HP.q;have Id:=Hs.q;have Ia:=Hr.q;have hk:k<=2:=hk;by_cases mD:k<2
      ·have me:(k:Int)<2:=by omega
       have hk0:¬((k:Int)<0):=by omega
       have hy:=pF ((k:Int)+1) (by omega);obtain⟨kd,e1,h1,h2⟩:=tl2 k mD;have c3:wr.cell? ⟨P,3,none⟩=some (.map (some r)):=zd hw.p 3;have ck:=zd hl k;rw[pS,wC,e1] at ck;replace ck:wr.cell? ⟨_,k,none⟩=some (.int .u8 kd):=ck;obtain⟨c,hc⟩:=exE (20+k);rw[hc] at h1 h2 hw;obtain⟨v9,r1,s1,o1,f1⟩:=VB (base:=w.heap.size) underlying164 underlying5 hw.r kd (.int .i64 8) h2 (by omega);rw[<-h1] at s1;have Rc:=zh (show NpW w v9 P s r nv iv 15 (c+1) from ⟨f1.keep _ _ _ _ hw.p,by rw[o1 s (by omega)];exact hw.s,s1,ZA hw.b f1⟩);have MR:=zh (f1.keep _ _ _ _ hl);have Hc:=zh hc;clear s1 o1 f1 hw hl h1 h2 hc e1;go_wp2;go_roundw
       case rel=>exact⟨k+1,by go_num,by simp;omega,by rw[show 20+(k+1)=c+1 from by have:=Hc.q;omega];exact Rc.q,MR.q⟩
       case measure=>simp[intOf];omega
      ·obtain rfl:k=2:=by omega
       have HW:=zh hw;clear hl hw;go_wp2;go_ret;exact⟨P,rfl,⟨s,r,by omega,by omega,by omega,HW.q.p,HW.q.s,HW.q.r⟩,HW.q.b⟩
end
section
open Go.RowKit Lode Go.Shelf
open Go.Proofs.Tryz
def ut(b:Nat)(w w':World):Prop:=∀(k:Nat) (o:Obj),k≠b->(∀cs fr,o≠.cells cs 5 fr)->w.heap[k]? =some o->w'.heap[k]? =some o
def ut.refl(b:Nat)(w:World):ut b w w:=λ_ _ _ _ h=>h
def ut.trans{b:Nat}{x y z:World}(h:ut b x y)(k:ut b y z):ut b x z:=λi o h1 h2 h3=>k i o h1 h2 (h i o h1 h2 h3)
def ut.set(b i:Nat)(v:Value)(w:World):ut b w (w.setCell ⟨b,i,none⟩ v):=λk o h1 _ h3=>(zv h1).trans h3
def zal(B b:Nat)(bs:List Value)(w:World)(h:IsB B b bs w):
 Calls prog 109 #[.pointer (some ⟨b,0,none⟩)] w λe w'=>e=.returned (.tuple #[])/\(BAt B b (.pointer (some ⟨b,0,none⟩)) bs w'/\Below B w w')/\ut b w w':=by
 rcases h with h|h
 ·refine (YC b w h.cell0 h.shape h.frozen0).mono ?_;rintro e w' ⟨rfl,rfl⟩;exact⟨rfl,⟨h.used _,(pG B w).setCell (p:=⟨b,0,none⟩) h.1 _⟩,ut.set _ _ _ _⟩
 ·refine (Xi b w h.cell0).mono ?_;rintro e w' ⟨rfl,rfl⟩;exact⟨rfl,⟨h,pG B _⟩,ut.refl _ _⟩
def zbh(h:w.ownsRow B 5 1 v m xs)(hg:v.ownBlock=some g):∃cs fr,w.heap[g]? =some (.cells cs 5 fr):=by
 obtain⟨_,⟨hv,_⟩|⟨g',cap,cur,hv,_,hh,_⟩⟩:=h
 ·rw[hv] at hg;cases hg
 ·rw[hv] at hg;simp only[Value.ownBlock,wO] at hg;subst hg;exact⟨cur,_,hh⟩
def Jl(B b:Nat)(bs:List Value)(s:ByteArray)(w:World)(h:IsB B b bs w)(mV:bs.length+s.size<=140737488355328)(Gx:B<=w.heap.size):
 Calls prog 65 #[.pointer (some ⟨b,0,none⟩),.string s] w λe w'=>e=.returned (.tuple #[.int .i64 s.size,.nilIface])/\(BAt B b (.pointer (some ⟨b,0,none⟩)) (bs ++ Lib.strCells s) w'/\Below B w w')/\ut b w w':=by
 obtain⟨i0,hi,pe,mY,mT⟩:=info_parts zgb;go_enter func65,ntmps65;go_wp2_with (go_at_call 109;refine (zal B b bs _ h).mono ?_);rintro e w1 ⟨rfl,⟨h1,mF⟩,nO⟩;obtain⟨hB,v,sn,mG,mu⟩:=h1;have HK1:=zh nO;clear nO;have c0:w1.cell? ⟨b,0,none⟩=some (.pointer (some ⟨b,0,none⟩)):=by rw[Lib.cell_of_heap sn];rfl
 have c1:w1.cell? ⟨b,1,none⟩=some v:=by rw[Lib.cell_of_heap sn];rfl
 go_wp2_with (at_builtin;refine Lib.wpList_append_own_string _ rfl _ _ 76 9 rfl B 5 i0 underlying76 underlying9 hi pe mY mT _ _ _ rfl mG s rfl ?c3 ?c4 ?c5 ?_)
 case c3=>unfold maxLen;omega
 case c4=>omega
 case c5=>have:=mF.size;omega
 intro v' w2 nC mA _;have mD:b<w1.heap.size:=by
  rcases Nat.lt_or_ge b w1.heap.size with h'|h'
  ·exact h'
  ·simp[Array.getElem?_eq_none h'] at sn
 have nj:=zh (show ut b w1 w2 from λk o h1 h2 h3=>by
  rw[mA.block k (gtA h3) (λe=>by
   obtain⟨cs,fr,hh⟩:=zbh mG e.symm;rw[h3] at hh;cases hh;exact h2 _ _ rfl)]
  exact h3)
 have mM:w2.heap[b]? =some (.cells #[.pointer (some ⟨b,0,none⟩),v] 78 (0,0)):=by
  rw[mA.block b mD (λe=>mu e.symm)];exact sn
 have d0:w2.cell? ⟨b,0,none⟩=some (.pointer (some ⟨b,0,none⟩)):=by rw[Lib.cell_of_heap mM];rfl
 have d1:w2.cell? ⟨b,1,none⟩=some v:=by rw[Lib.cell_of_heap mM];rfl
 have f1:w2.frozen? ⟨b,1,none⟩=false:=Lib.frozen_of_heap mM 1;obtain⟨ao,n',cap,rfl⟩:∃ao n' cap,v'=.slice ao n' cap:=by
  rcases nC.2 with⟨hv,_⟩|⟨g,cap,cur,hv,_⟩
  ·exact⟨_,_,_,hv⟩
  ·exact⟨_,_,_,hv⟩
 go_wp2;go_ret2;refine⟨rfl,⟨?_,?_⟩,(HK1.q.trans nj.q).trans (ut.set _ _ _ _)⟩
 ·exact Lib.BuilderAt.put (T:=78) (e:=5) hB mM (bs':=bs ++ Lib.strCells s) (by simpa[Lib.strCells_length] using nC) (by decide)
 ·exact (mF.grown mA (by have:=mF.size;omega) (λk hk=>(mG.lt k hk).1)).setCell (p:=⟨b,1,none⟩) hB _
def Bd.writeKeep{b:Nat}(h:Bd w0 b ob w)(x:ByteArray)(hs:ob.size+x.size<=2000000000000):
 Calls prog 65 #[.pointer (some ⟨b,0,none⟩),.string x] w λe w'=>e=.returned (.tuple #[.int .i64 x.size,.nilIface])/\Bd w0 b (ob ++ x) w'/\ut b w w'/\Below w0.heap.size w w':=
 (Jl w0.heap.size b _ x w h.1 (pN (Nat.le_of_eq (by rw[Lib.byteCells_length];exact congrArg (· +x.size) (by simp:ob.data.toList.length=ob.size))) (by omega:ob.size+x.size<=140737488355328)) h.2.size).mono λe w' ⟨h1,⟨h2,h3⟩,h4⟩=>⟨h1,⟨.inr (by
  have e:Lib.byteCells (ob ++ x).data.toList=Lib.byteCells ob.data.toList ++ Lib.strCells x:=by rw[zu];simp[Lib.byteCells,Lib.strCells]
  rw[e];exact h2),h.2.trans h3⟩,h4,h3⟩
def BAt.grown{b:Nat}{p:Value}(h:BAt B b p bs w)(hg:w.grownBy w' row)(hr:∀r,row=some r->∃o:Obj,w.heap[r]? =some o/\o.isCells=false):BAt B b p bs w':=by
 obtain⟨hB,v,sn,mG,mu⟩:=h;refine⟨hB,v,?_,World.ownsRow.kept mG hg ?_,mu⟩
 ·rw[hg.block b (gtA sn) (λe=>by
   obtain⟨o,ho,hc⟩:=hr b e.symm;rw[sn] at ho;cases ho;cases hc)]
  exact sn
 ·cases hv:v.ownBlock with
  |none=>exact .inl rfl
  |some g=>
   refine .inr (λe=>?_);obtain⟨cs,fr,hh⟩:=zbh mG hv;obtain⟨o,ho,hc⟩:=hr g e.symm;rw[hh] at ho;cases ho;cases hc
theorem Bd.grown{b:Nat}(h:Bd w0 b ob w)(hg:w.grownBy w' row)(hr:∀r,row=some r->w0.heap.size<=r/\∃o:Obj,w.heap[r]? =some o/\o.isCells=false):Bd w0 b ob w':=
 ⟨h.1.imp (λh=>BAt.grown h hg (λr e=>(hr r e).2)) (λh=>BAt.grown h hg (λr e=>(hr r e).2)),h.2.grown hg h.2.size (λr e=>(hr r e).1)⟩
def KpO(o:Obj):Prop:=(∃cs T fr,o=.cells cs T fr/\T≠5)\/∃es c,o=.map es c
structure KpL(X:Nat->Prop)(base:Nat)(A B:World):Prop where
 b:Below base A B
 size:A.heap.size<=B.heap.size
 keep:∀(k:Nat) (o:Obj),¬X k->KpO o->A.heap[k]? =some o->B.heap[k]? =some o
def KpL.refl(X:Nat->Prop)(base:Nat)(A:World):KpL X base A A:=⟨pG _ _,pC _,λ_ _ _ _ h=>h⟩
theorem KpL.trans{b c:World}(h:KpL X base a b)(k:KpL X base b c):KpL X base a c:=⟨h.b.trans k.b,pN h.size k.size,λi o h1 h2 h3=>k.keep i o h1 h2 (h.keep i o h1 h2 h3)⟩
def KpL.of_below{b:World}(hb:base<=a.heap.size)(h:Below a.heap.size a b):KpL X base a b:=⟨h.mono hb,h.size,λk o _ _ hk=>(h.block k (gtA hk)).trans hk⟩
def KpL.put(hb:base<=w.heap.size)(W:World)(l:Nat)(o:Loop)(o':Obj)(hl:w.heap.size<=l)(h:W.heap[l]? =some (.loop o)):KpL X base W (W.putObj l o'):=by
 have mD:=(gtA h);have hg:=grownBy_putObj' W l o';refine⟨(pG _ W).grown hg (by omega) (λk hk=>by cases hk;omega),hg.size,λk o2 _ hK hk=>?_⟩;rw[World.putObj_heap_other (λe'=>by
  subst e';rw[h] at hk;cases hk;rcases hK with⟨cs,T,fr,he,_⟩|⟨es,c,he⟩ <;> cases he)]
 exact hk
theorem PrL.keep(h:PrL lo w P nv iv)(hX:∀k,X k->k<lo)(hk:KpL X base w w'):PrL lo w' P nv iv:=by
 obtain⟨s,r,l1,l2,l3,h1,h2,h3⟩:=h.maps;have hn:∀k,lo<=k->¬X k:=λk hk hx=>by have:=hX k hx;omega
 exact⟨s,r,l1,l2,l3,hk.keep _ _ (hn _ l1) (.inl ⟨_,_,_,rfl,by decide⟩) h1,hk.keep _ _ (hn _ l2) (.inr ⟨_,_,rfl⟩) h2,hk.keep _ _ (hn _ l3) (.inr ⟨_,_,rfl⟩) h3⟩
def zir(nv iv:Value)(w:World):Calls prog 64 #[.agg #[nv,iv]] w λe w'=>e=.returned (.func (.func 106) #[] #[.pointer (some ⟨w.heap.size,0,none⟩)])/\w'=w.alloc (.cells #[nv,iv] 26 (0,0)):=by
 have MS:∀(fn:Fn) (first cap:Array Value) (w:World),(Instr.makeFunc fn first cap).run prog w=.ok (.func fn first cap) w:=λ_ _ _ _=>rfl
 go_enter func64,ntmps64;go_wp2;go_ret;exact⟨rfl,rfl⟩
structure zoz(t:yJ):Prop where
 full:qm t.nz t.nz.length
 right:∀x∈t.nz,yF t.nz x=true
 nz:t.nz.length<=1000
 iz:t.iz.length<=40
 its:∀k∈t.iz,0<=k/\k<(t.nz.length:Int)
 kind:∀x∈t.nz,x.kind<=255
def zmN(X:Nat->Prop)(base lo P:Nat)(nv iv:Value)(m:Nat)(J:List ByteArray->World->Prop)(Ws:World)(i:Value)(wr:World):Prop:=∃pre:List ByteArray,i=.int .i64 pre.length/\pre.length<=m/\KpL X base Ws wr/\J pre wr/\PrL lo wr P nv iv
def ziq(X:Nat->Prop)(w0:World)(C:Nat)(t:yJ)(nv iv:Value)(hT:TR w0 nv iv t)(hG:jQ w0)(nW:zoz t)(w:World)(nA:Below w0.heap.size w0 w)(hC:w.heap[C]? =some (.cells #[nv,iv] 26 (0,0)))(Lj:¬X C)(hX:∀k,X k->k<w.heap.size)(n:Nat)(hn:1<=n):
 ziQ Fence.wide n prog 106 #[] #[.pointer (some ⟨C,0,none⟩)] (λx:ByteArray=> #[.string x]) (KpL X w0.heap.size) (λpre x=>pre.length<t.iz.length/\x.data.toList=prT t (t.iz.getD pre.length 0) ++ [10]) (λ_=>False) (λxs=>xs.length=t.iz.length) (λ_=>True) w:=λL J Jx W hW hJ DM hY h0=>by
 have hC:=zi hW hC;have Lk:∀k,X k->k<W.heap.size:=λk hk=>pX (hX k hk) hW.size
 have nA:=nA.trans (hW.mono nA.size);obtain⟨np,nc,ip,ic,rfl,rfl⟩:=hT.form;obtain⟨kv,hN⟩:=hT.nz;have HNode:=λP=>zh (zbe P (.slice np t.nz.length nc) (.slice ip t.iz.length ic) t.nz kv nW.full nW.right nW.nz nW.kind (t.nz.length+1) t.nz.length (by omega) (pC _))
 have c0:=zd hC 0;have c1:=zd hC 1;have HY:=zh hY;have HJ:=zh hJ;have HN:=zh hN;have HI:=zh hT.iz;have HG:=zh hG;have Hits:=zh nW.its;have Wj:=nW.iz;have HNP:=zh (VK (.slice np t.nz.length nc) (.slice ip t.iz.length ic) W);have H0:=zh h0;have HC:=zh hC;clear hY hJ hN hT hG nW h0 hC;generalize IN:t.iz.length=m at *;have Hml:=zh IN;clear IN;have fX:∀f,Fence.wide.fn f=True:=λ_=>rfl
 refine callsIn_of_wp func106 rfl trivial ?_ rfl;simp only[ntmps106,List.size_toArray,pH,pM,Nat.reduceAdd,Nat.reduceSub,Array.replicate_succ,Array.replicate_zero,List.push_toArray,List.append_toArray,pV,pQ]
 gi_wp2_with fail
 refine (callsIn_wide.2 HNP.q).mono ?_;rintro e W1 ⟨P,rfl,hP,Di⟩;clear c0 c1;have c1:=zd (zi Di HC.q) 1;have mK:=zh (show zmN X w0.heap.size W.heap.size P (.slice np t.nz.length nc) (.slice ip m ic) m J W (.int .i64 0) W1 from ⟨[],rfl,pU _,KpL.of_below nA.size Di,HJ.q [] W W1 none H0.q (Zl Di none) (λr e=>by cases e),hP⟩);clear hP
 gi_wp2_with fail
 clear c1
 gi_loopw [11] (zmN X w0.heap.size W.heap.size P (.slice np t.nz.length nc) (.slice ip m ic) m J W) (λi _=>m-(intOf i).toNat)
 case atStart=>exact mK.q
 case round=>
  obtain⟨pre,rfl,Ww,bV,hj,hP⟩:=hrel;have MH:=nA.trans bV.b;by_cases mD:pre.length<m
  ·have me:(pre.length:Int)<(m:Int):=by omega
   have th:¬((pre.length:Int)<0):=by omega
   have hy:=pF ((pre.length:Int)+1) (by omega);have py:pre.length<t.iz.length:=by rw[Hml.q];exact mD
   obtain⟨g2,off2,rfl,_,d0⟩:=(HI.q.below MH).at py;have hz:=Hits.q (t.iz.getD pre.length 0) (by rw[pA,glE py];exact wE py);have HYp:=zh (λ(b:ByteArray) (w2:World) (hb:b.data.toList=prT t (t.iz.getD pre.length 0) ++ [10]) (MP:J pre w2)=>HY.q pre b w2 MP ⟨mD,hb⟩);generalize t.iz.getD pre.length 0=z at *;obtain⟨zn,rfl⟩:=pO hz.1;have hNd:=zh ((HNode P).q.ok wr zn (by omega) ⟨hP.pr,HN.q.below MH,HG.q.later MH⟩);have mV:=(HNode P).q.len zn (by omega);have HKP:=zh bV;have HJp:=zh hj;have HP:=zh hP;clear bV hj hP
   gi_wp2_with fail
   refine (callsIn_wide.2 hNd.q).mono ?_;rintro e w2 ⟨b,rfl,hb,hf⟩;have nX:=xH hb;have HB:=zh hb;clear hb;obtain⟨fn,tm,asg,bo,cx,bL⟩:=HYp.q (b ++ ⟨#[10]⟩) w2 (by rw[zu,HB.q];rfl) (HJ.q pre wr w2 none HJp.q (Zl hf none) (λr e=>by cases e));have bL:=zh bL;have nj:=zh (KpL.of_below (X:=X) MH.size hf)
   gi_wp2_with fail
   refine bL.q.mono ?_;rintro e W' (⟨rfl,NI,rU⟩|⟨rfl,dF⟩)
   ·have hK:=zh ((HKP.q.trans nj.q).trans rU);have hP':=zh ((HP.q.keep Lk nj.q).keep Lk rU);have HJ':=zh NI;clear NI rU
    gi_wp2_with fail
    go_roundw
    case rel=>exact⟨pre ++ [b ++ ⟨#[10]⟩],by rw[pE,pI];go_num,by rw[pE,pI];omega,hK.q,HJ'.q,hP'.q⟩
    case measure=>simp only[intOf];omega
   ·gi_wp2_with fail
    first|go_end0|refine bodyPost_ret (results_none rfl _ _ _) rfl ?_
    exact⟨⟨_,rfl⟩,.inr ⟨_,trivial,dF⟩⟩
  ·have me:¬((pre.length:Int)<(m:Int)):=by omega
   gi_wp2_with fail
   first|go_end0|refine bodyPost_ret (results_none rfl _ _ _) rfl ?_
   exact⟨⟨_,rfl⟩,.inl ⟨pre,by omega,hj⟩⟩
def Tryz.cellsU8:prog.cellsOf 5=1:=by kernel_rfl
def zix{b:Nat}{p:Value}(sn:w.heap[b]? =some (.cells #[p,.slice none 0 0] 78 (0,0))):
 Calls prog 67 #[.pointer (some ⟨b,0,none⟩)] w λe w'=>e=.returned (.string .empty)/\Below w.heap.size w w':=by
 have mixed:prog.follows .mixedOrders=true:=by kernel_rfl
 have hUS:(Builtin.unsafeString_ #[128,3] 9 #[.pointer none,.int .i64 0]).run prog w.drew=.ok (.string .empty) w.drew:=Lib.run_unsafeString_none _ _ _ _ _;have hSD:(Builtin.unsafeSliceData_ #[76] 128 #[.slice none 0 0]).run prog w.drew=.ok (.pointer none) w.drew:=rfl;have c1:w.drew.cell? ⟨b,1,none⟩=some (.slice none 0 0):=zd (show w.drew.heap[b]? =_ from sn) 1;clear sn;go_enter func67,ntmps67;go_wp2;go_region_o
 all_goals (go_wp2;go_ret;exact⟨rfl,bR.drew⟩)
def Bd.strKeep{b:Nat}(h:Bd w0 b ob w)(h0:ob.data.toList≠[]):
 Calls prog 67 #[.pointer (some ⟨b,0,none⟩)] w λe w'=>e=.returned (.string ob)/\Below w0.heap.size w w'/\ut b w w':=by
 obtain⟨l,hl⟩:=exE (ob.data.toList);have bf:ob=⟨l.toArray⟩:=by rw[<-hl]
 subst bf;obtain⟨p,DH⟩:∃p,BAt w0.heap.size b p (Lib.byteCells l) w:=by
  have h1:=h.1;rw[hl] at h1;rcases h1 with h1|h1
  ·exact⟨_,h1⟩
  ·exact⟨_,h1⟩
 obtain⟨hB,v,sn,mG,mu⟩:=DH;rw[Lib.byteCells_length] at mG;have nh:=h.2.size;clear h hl;have mixed:prog.follows .mixedOrders=true:=by kernel_rfl
 have h0:l≠[]:=h0;have EK:l.length≠0:=by simpa using h0
 obtain⟨g,cap,cur,rfl,hbg,hg,Ni,SJ,ae,cd⟩:∃g cap cur,v=.slice (some ⟨g,0,none⟩) l.length cap/\w0.heap.size<=g/\w.heap[g]? =some (.cells cur 5 (0,0))/\l.length<=cap/\cap<=maxLen/\cur.size=cap*1/\cur.toList.take (l.length*1)=Lib.byteCells l:=by
  rcases mG.2 with⟨_,hz⟩|⟨g,cap,cur,hv,r⟩
  ·exact absurd hz EK
  ·exact⟨g,cap,cur,hv,r⟩
 have c1:w.drew.cell? ⟨b,1,none⟩=some (.slice (some ⟨g,0,none⟩) l.length cap):=zd (show w.drew.heap[b]? =_ from sn) 1;have hSD:(Builtin.unsafeSliceData_ #[76] 128 #[.slice (some ⟨g,0,none⟩) l.length cap]).run prog w.drew=.ok (.pointer (some ⟨g,0,none⟩)) w.drew:=Lib.run_unsafeSliceData_row _ _ _ _ _ _ (by omega);have hUS:(Builtin.unsafeString_ #[128,3] 9 #[.pointer (some ⟨g,0,none⟩),.int .i64 l.length]).run prog w.drew=.ok (.string ⟨l.toArray⟩) (w.drew.freeze ⟨g,0,none⟩ l.length):=by
  refine Lib.run_unsafeString_row _ 128 3 9 5 underlying128 Tryz.cellsU8 g cur.size (by have mJ:w.drew.heap[g]? =some (.cells cur 5 (0,0)):=hg;simp[World.shape?,mJ]) l h0 (by omega) (by unfold maxLen at SJ;omega) ?_;intro j x hx;have:=mG.cells (g:=g) rfl j (.int .u8 x.toNat) (by simp[Lib.byteCells,hx]);exact this
 have hk:=zh (show ut b w (w.drew.freeze ⟨g,0,none⟩ l.length) from λk o h1 h2 h3=>Lib.OthersKept.freeze (e:=5) (b:=none) (a:=w) (w:=w.drew) (Lib.OthersKept.refl _ _ w).drew ⟨g,0,none⟩ l.length ⟨cur,(0,0),hg⟩ k o h3 (by simp) (λc fz=>h2 c fz));have hb:=zh (Lib.below_freeze (Below.drew (pG w0.heap.size w)) (p:=⟨g,0,none⟩) hbg l.length);clear mG hg ae cd sn;go_enter func67,ntmps67;go_wp2;go_region_o
 all_goals (go_wp2;go_ret;exact⟨rfl,hb.q,hk.q⟩)
end
section
open Go.RowKit Lode Go.Shelf
attribute [local go_sem] Oper.semAt_some
open Go.Proofs.Tryz
theorem Bd.cells{b:Nat}(h:Bd w0 b ob w):∃cs T fr,w.heap[b]? =some (.cells cs T fr):=by
 rcases h.1 with⟨_,v,h,_⟩|⟨_,v,h,_⟩ <;> exact⟨_,_,_,h⟩
def PnI(line:Int->List UInt8)(its:List Int)(wB:World)(b:Nat)(pre:List ByteArray)(W:World):Prop:=∃ob:ByteArray,Bd wB b ob W/\ob.data.toList=(its.take pre.length).flatMap line/\ob.size<=3200001*pre.length/\pre.length<=its.length/\(pre=[]->W.heap[b]? =some (.cells #[.pointer none,.slice none 0 0] 78 (0,0)))/\(pre≠[]->ob.size≠0)
def PnI.own{its:List Int}{b:Nat}(hB:wB.heap.size<=B):XF (λ_=>False) B (PnI line its wB b):=by
 intro pre W W' row ⟨ob,h1,h2,h3,h4,h5,h6⟩ hg hr;have mO:∀r,row=some r->wB.heap.size<=r/\∃o:Obj,W.heap[r]? =some o/\o.isCells=false:=λr e=>by
  rcases hr r e with h|⟨h,o,ho,hc⟩
  ·exact h.elim
  ·exact⟨pN hB h,o,ho,hc⟩
 refine⟨ob,h1.grown hg mO,h2,h3,h4,λhp=>?_,h6⟩;have hh:=h5 hp;rw[hg.block b (gtA hh) (λe=>by
  obtain⟨_,o,ho,hc⟩:=mO b e.symm;rw[hh] at ho;cases ho;cases hc)]
 exact hh
def zlw{t:yJ}(nW:Qt t)(hc:yU t=0):zoz t:=by
 have hn:¬(1000<t.nz.length\/40<t.iz.length):=λh=>by
  unfold yU at hc;rw[if_pos h] at hc;cases hc
 have hf:jN t=true:=by
  unfold yU at hc;rw[if_neg hn] at hc;cases h:jN t with
  |true=>rfl
  |false=>
   rw[h] at hc;cases hc
 have hv:=Qo nW hf;rw[zcK t nW.kz] at hf;obtain⟨hF,hI,hR⟩:=Xz hf;exact⟨hF,hR,by omega,by omega,hv.2,nW.kind⟩
def zox(w:World)(r:List UInt8×Nat)(e:Ending)(w':World):Prop:=e=.returned (.tuple #[.string ⟨r.1.toArray⟩,.int .i64 (r.2:Nat)])/\Below w.heap.size w w'
def zbK(t:yJ)(nv iv:Value)(w:World)(hT:TR w nv iv t)(hG:jQ w)(nW:Qt t):Calls prog 27 #[.agg #[nv,iv]] w (zox w (Qi t)):=by
 obtain⟨R,hR⟩:=exE (Qi t);rw[hR];unfold Qi at hR;obtain⟨np,nc,ip,ic,MY,Pv⟩:=hT.form;have hz:=zk w (.cells #[nv,iv] 26 (0,0));have hA:=zf w (.cells #[nv,iv] 26 (0,0));have hC:=zh (XD t _ _ _ (hT.below hA) (hG.later hA) nW);have hPO:=zh (λ(h:yU t=0)=>zlw nW h);have c0:=zd hz 0;have c1:=zd hz 1;have HZ:=zh hz;have HT:=zh hT;have HG:=zh hG;have HR:=zh hR;clear hz hT hG hR nW MY Pv;generalize dr:yU t=ck at *;have Hck:=zh dr;clear dr;have fX:∀f,Fence.wide.fn f=True:=λ_=>rfl
 refine (callsIn_wide (n:=5)).1 ?_;refine callsIn_of_wp_marks func27 rfl trivial ?_ rfl;simp only[ntmps27,List.size_toArray,pH,pM,Nat.reduceAdd,Nat.reduceSub,Array.replicate_succ,Array.replicate_zero,List.push_toArray,List.append_toArray,pV,pQ]
 gi_wp2_with fail
 refine (callsIn_wide.2 hC.q).mono ?_;rintro e w2 ⟨rfl,mM⟩;have rB:=zg hA mM;clear c0 c1 hC;have mT:=zi mM HZ.q;have c0:=zd mT 0;have c1:=zd mT 1;by_cases dr:ck=0
 ·subst dr;have hr:=HR.q;rw[if_neg (by simp)] at hr;have HPO:=zh (hPO.q rfl);have BJ:=zf w2 (.cells #[.pointer none,.slice none 0 0] 78 (0,0));have hF:=zh (Bd.fresh w2 _ rfl);have TJ:=zh (zk w2 (.cells #[.pointer none,.slice none 0 0] 78 (0,0)));have d0:=zd (zi BJ mT) 0;have d1:=zd (zi BJ mT) 1;have HRr:=zh hr;clear hr c0 c1 mT
  gi_wp2_with fail
  refine (callsIn_wide.2 (zir _ _ _)).mono ?_;rintro e w4 ⟨rfl,rfl⟩;clear d0 d1
  gi_wp2_with fail
  have AH:(w2.alloc (.cells #[.pointer none,.slice none 0 0] 78 (0,0))).heap.size=w2.heap.size+1:=by simp
  obtain⟨w3,Rb⟩:=exE (w2.alloc (.cells #[.pointer none,.slice none 0 0] 78 (0,0)));rw[Rb] at AH BJ ⊢;have LH:=hF.q;have LI:=TJ.q;rw[Rb] at LH LI;generalize rI:(Act.mk _ [])=a0;have nh:=zf w3 (.cells #[nv,iv] 26 (0,0));have LE:=zk w3 (.cells #[nv,iv] 26 (0,0));have gR:(w3.alloc (.cells #[nv,iv] 26 (0,0))).heap.size=w3.heap.size+1:=by simp
  rw[AH] at LE;generalize w3.alloc (.cells #[nv,iv] 26 (0,0))=w4 at *;have cG:=zh (zg (zg rB BJ) nh);have hI0:PnI (λk=>prT t k ++ [10]) t.iz w2 w2.heap.size [] w4:=⟨ByteArray.empty,Bd.lat LH nh,by simp,by decide,pU _,λ_=>zi nh LI,λh=>absurd rfl h⟩;have Bo:=rB.size;have hXs:∀k,k=w2.heap.size->k<w4.heap.size:=λk hk=>by omega
  have Lj:¬(w2.heap.size+1=w2.heap.size):=by omega
  have Wj:=HPO.q.iz;have HNl:=zh (λ(k:Int) (hk:k∈t.iz)=>(show (prT t k).length<=3200000 from by
   obtain⟨h0,h1⟩:=HPO.q.its k hk;obtain⟨kn,rfl⟩:=pO h0;exact zbd HPO.q.full HPO.q.right HPO.q.nz _ kn (by omega)))
  refine zbM (encs:=λx:ByteArray=> #[.string x]) (gf:=106) (la:= #[]) (lb:= #[.pointer (some ⟨w2.heap.size+1,0,none⟩)]) rfl (by omega) (by rw[<-rI];rfl) trivial (enters_of func106 (by kernel_rfl) rfl)
   (ziq (λk=>k=w2.heap.size) w (w2.heap.size+1) t nv iv HT.q HG.q HPO.q w4 cG.q LE Lj hXs _ (by omega)) (λr h=>h.elim) (λx=>rfl) KpL.trans (λW l o o' hl ho=>KpL.put (w:=w4) (by omega) W l o o' hl ho)
   (PnI (λk=>prT t k ++ [10]) t.iz w2 w2.heap.size) (λ_ _ _=>False) (PnI.own (by omega)) (λc s W W' row h _ _=>h) hI0
   (λpre x a' W=>PnI (λk=>prT t k ++ [10]) t.iz w2 w2.heap.size pre W/\a'={tmps:=((a0.tmps.setIfInBounds 14 (.string x)).setIfInBounds 6 (.string x)),defers:=[]})
   (λpre x a' W l o o' ⟨h1,h2⟩ hl ho hc=>⟨PnI.own (B:=w4.heap.size) (by omega) pre W _ (some l) h1 (grownBy_putObj' W l o') (λr e=>by cases e;exact .inr ⟨hl,o,ho,hc⟩),h2⟩) ?assign ?body ?done ?stop
  case assign=>
   rintro L pre x W K hI hGx hK;subst rI;simp only[List.zip_toArray,List.zip_cons_cons,List.zip_nil_left,List.foldl_toArray',List.foldl_cons,List.foldl_nil,yh,yf,yg]
   gi_wp2_with fail
   refine hK _ _ (KeepsOthers.refl _) (KpL.refl _ _ _) ⟨hI,?_⟩;simp only[yh,yf,yg]
  case body=>
   rintro L pre x a' W ⟨⟨ob,hb,MZ,Ma,IR,gJ,Wq⟩,rfl⟩ ⟨aI,hx⟩;subst rI;simp only[yh,yf,yg];have eD:=xH hx;have tY:t.iz.getD pre.length 0∈t.iz:=by rw[pA,glE aI];exact wE aI
   have bD:=HNl.q _ tY;rw[pE,pI] at eD;obtain⟨cs9,T9,fr9,sM⟩:=hb.cells;have hW:=zh (hb.writeKeep x (by omega));have Nr:(t.iz.take (pre ++ [x]).length).flatMap (λk=>prT t k ++ [10])=ob.data.toList ++ x.data.toList:=by
    rw[pE,pI,gB,glE aI,List.flatMap_append,<-MZ,hx];rw[pA,glE aI];simp
   have Hst:=zh Nr;have Hc:=zh sM;have Hx:=zh eD;have Hj:x.size<=3200001:=by omega
   have Hnl:=zh bD;clear Nr hx tY bD MZ gJ Wq sM eD hb;have hfn2:∀f,(Fence.wide.inRound L).fn f=True:=λ_=>rfl
   gi_wp2_with fail
   refine (LodeX.Qr hW.q).mono ?_;rintro e W' ⟨rfl,BT,ff,BU⟩;have Py:KeepsOthers W W':=⟨BU.size,λk o hk ho=>ff k o (λe=>by
    subst e;rw[Hc.q] at hk;cases hk;cases ho) (λcs fr e=>by subst e;cases ho) hk⟩
   have bV:KpL (λk=>k=w2.heap.size) w.heap.size W W':=⟨BU.mono Bo,BU.size,λk o hX hK hk=>ff k o hX (λcs fr e=>by
    subst e;rcases hK with⟨cs',T,fr',he,hT⟩|⟨es,c,he⟩
    ·cases he;exact hT rfl
    ·cases he) hk⟩
   have cp:PnI (λk=>prT t k ++ [10]) t.iz w2 w2.heap.size (pre ++ [x]) W':=⟨ob ++ x,BT,by rw[zu,Hst.q],by rw[ByteArray.size_append,pE,pI];omega,by rw[pE,pI];omega,λh=>by simp at h,λ_=>by rw[ByteArray.size_append];have:=Hx.q;omega⟩;clear ff BU BT
   gi_wp2_with fail
   exact⟨Py,bV,cp⟩
  case done=>
   intro Dd xs W hS hI PT pi;obtain⟨ob,hb,MZ,Ma,IR,gJ,Wq⟩:=hI;subst rI;have tN:t.iz.take xs.length=t.iz:=by rw[hS];exact List.take_length
   rw[tN] at MZ;have Rw:Below w.heap.size w W:=zg (zg hA mM) hb.2;have FS:xs.length<=40:=by rw[hS];exact Wj
   have hsz9:ob.size<=1000000000000:=by omega
   have nK:=λW' (hb:Below w.heap.size w W')=>zd5 ob.data.toList W' (by have:ob.data.toList.length=ob.size:=rfl;omega) (HG.q.later hb)
   rw[show (⟨ob.data.toList.toArray⟩:ByteArray)=ob from rfl,MZ,HRr.q] at nK;have TU:=zh nK;have DJ:w2.heap.size<Dd:=by omega
   have dt:Dd<W.heap.size:=(gtA pi);have Hdd:=zh pi;obtain⟨R1,R2⟩:=R;clear nK Ma IR tN pi;by_cases eC:xs=[]
   ·have he:ob=ByteArray.empty:=by
     have sT:t.iz=[]:=pT (by rw[<-hS,eC];rfl);rw[sT] at MZ;have h1:ob.data.toList=[]:=MZ;exact ByteArray.ext (Array.ext' h1)
    subst he;have DK:=zh (zix (gJ eC));clear MZ gJ Wq eC hb
    gi_wp2_with fail
    refine (callsIn_wide.2 DK.q).mono ?_;rintro e W2 ⟨rfl,mt⟩;have PY:=zh (TU.q W2 (zg Rw mt))
    gi_wp2_with fail
    refine (callsIn_wide.2 PY.q).mono ?_;rintro e W3 ⟨rfl,nR⟩;have Pl:W3.heap[Dd]? =some (.deferred (some [])):=((zg mt nR).block _ dt).trans Hdd.q;have fG:=zg (zg Rw mt) nR
    gi_wp2_with fail
    refine⟨by simp,.inl ⟨_,_,rfl,run_takeDeferred Pl,?_⟩⟩;refine⟨.tuple #[.string ⟨R1.toArray⟩,.int .i64 R2],by simp[results,results27,go_sem],rfl,fG.grown (grownBy_putObj' W3 Dd _) fG.size (λr e=>?_)⟩;cases e;omega
   ·have Wt:ob.data.toList≠[]:=λe=>by
     have h1:=Wq eC;have:ob.data.toList.length=ob.size:=rfl;rw[e] at this;exact h1 this.symm
    have DK:=zh (hb.strKeep Wt);clear MZ gJ Wq Wt hb
    gi_wp2_with fail
    refine (callsIn_wide.2 DK.q).mono ?_;rintro e W2 ⟨rfl,mt,dU⟩;have WE:W2.heap[Dd]? =some (.deferred (some [])):=dU _ _ (by omega) (λcs fr e=>by cases e) Hdd.q;have ek:=Rw.trans (mt.mono Bo);have PY:=zh (TU.q W2 ek);clear dU
    gi_wp2_with fail
    refine (callsIn_wide.2 PY.q).mono ?_;rintro e W3 ⟨rfl,nR⟩;have Pl:W3.heap[Dd]? =some (.deferred (some [])):=(nR.block _ (gtA WE)).trans WE;have fG:=zg ek nR
    gi_wp2_with fail
    refine⟨by simp,.inl ⟨_,_,rfl,run_takeDeferred Pl,?_⟩⟩;refine⟨.tuple #[.string ⟨R1.toArray⟩,.int .i64 R2],by simp[results,results27,go_sem],rfl,fG.grown (grownBy_putObj' W3 Dd _) fG.size (λr e=>?_)⟩;cases e;omega
  case stop=>
   rintro Dd c pre W _ h _ _;exact h.elim
 ·have Pj:((ck:Int) == 0)=false:=bfE (by omega)
  have hr:=HR.q;rw[if_pos dr] at hr;subst hr;clear c0 c1
  gi_wp2_with fail
  exact⟨_,by simp[results,results27,go_sem],rfl,rB⟩
def znP(w:World)(r:List UInt8×Int×Nat)(e:Ending)(w':World):Prop:=e=.returned (.tuple #[.string ⟨r.1.toArray⟩,.int .i64 r.2.1,.int .i64 (r.2.2:Nat)])/\Below w.heap.size w w'
end
section
open Go.RowKit Lode Go.Shelf
attribute [local go_sem] Oper.semAt_some
attribute [local go_sem ↓] wp_at_zero wp_at_succ
open Go.Proofs.Tryz
def zau(s:ByteArray)(w:World)(hs:s.size<=1000000000000)(hG:jQ w)(nW:(yQ s.data.toList).2.2=0->Qt (yQ s.data.toList).1):Calls prog 29 #[.string s] w (znP w (Zw s.data.toList)):=by
 obtain⟨R,hR⟩:=exE (Zw s.data.toList);rw[hR];unfold Zw at hR;have hP:=zh (uN s w hs hG);have HG:=zh hG;obtain⟨p,hp⟩:=exE (yQ s.data.toList);rw[hp] at hR hP nW;obtain⟨t,at_,ep⟩:=p;simp only at hR nW;have HR:=zh hR;have Hok:=zh nW;clear hR nW hG hp;go_enter func29,ntmps29;go_wp2_with fail;refine hP.q.mono ?_;rintro e w1 ⟨mF,nv,iv,rfl,hT⟩;simp only at hT ⊢;obtain⟨np,nc,ip,ic,rfl,rfl⟩:=hT.form;have HT:=zh hT;clear hT;generalize t.nz.length=nl at *;generalize t.iz.length=il at *;have hz:=zk w1 (.cells #[.slice np nl nc,.slice ip il ic] 26 (0,0));have hA:=zf w1 (.cells #[.slice np nl nc,.slice ip il ic] 26 (0,0));have c0:=zd hz 0;have c1:=zd hz 1;have hB:=zg mF hA;clear hz;by_cases he:ep=0
 ·subst he;have hr:=HR.q;rw[if_neg (by simp)] at hr;have hPr:=zh (zbK t _ _ _ (HT.q.below hA) (HG.q.later hB) (Hok.q rfl));subst hr;generalize Qi t=pt at *;obtain⟨p1,p2⟩:=pt;go_wp2_with fail;refine hPr.q.mono ?_;rintro e w3 ⟨rfl,mU⟩;go_wp2;refine bodyPost_ret (v:=.tuple #[.string ⟨p1.toArray⟩,.int .i64 0,.int .i64 p2]) (by simp[results,results29,go_sem]) rfl ?_;exact⟨rfl,zg hB mU⟩
 ·have SL:((ep:Int) == 0)=false:=bfE (by omega)
  have hr:=HR.q;rw[if_pos he] at hr;subst hr;go_wp2;refine bodyPost_ret (v:=.tuple #[.string ⟨#[]⟩,.int .i64 at_,.int .i64 ep]) (by simp[results,results29,go_sem]) rfl ?_;exact⟨rfl,hB⟩
