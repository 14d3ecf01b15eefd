/-
  A part of the proof: contracts of functions; no conditions.
-/
import Derived.Test.YtnncmdpopgkibaaGreatDoorMA
import Derived.Lib.AtoiAll
import Derived.Lib.ItoaNum
import GoSem.Op.String
import Derived.Lib.LastIndexByte
import Derived.Lib.Bytealg
import Derived.Laws.Runes
import Derived.Deep.RegionHeld3
import Derived.Deep.DrawnRows
import Derived.Deep.AppendLies
import Derived.Maps.Range
import Derived.WalkMore
import Derived.Deep.LoopGhost
import Derived.Shelf.Strings.BuilderF
import Derived.Test.YtnncmdpopgkibaaGreatDoorProg
import Derived.WalkKit
import Derived.WalkLawsBesides
import Derived.WalkSpells
import Derived.Lib.ConvBytes
import Derived.Shelf.Abstract
import Derived.Deep.RegionWith
import Derived.Deep.Light
import Derived.Deep.QuietTactic
import Derived.BigQuiet
import Derived.Lib.AppendIntMem
import Derived.Shelf.RegionOpen
import Derived.OwnWalkIn
import Derived.TacticsInMore
import Derived.LoopNIn
import Derived.LoopIn
import Derived.Deep.Onto
set_option maxRecDepth 100000
set_option maxHeartbeats 40000000
set_option linter.unusedSimpArgs false
set_option linter.unusedVariables false
namespace Lode
def zef(t:yo)(item:Int):List UInt8×Nat:=if zR t≠0 then ([],zR t) else if item<0\/(t.items.length:Int)<=item then ([],7) else Yb (prT t (t.items.getD item.toNat 0))
theorem zmR{t:yo}(h:Qv t=0):xL t.nodes t.nodes.length/\(∀x∈t.nodes,yj t.nodes x=true)/\∀k∈t.items,0<=k/\k<t.nodes.length:=by
 unfold Qv at h;split at h
 ·cases h
 ·split at h
  ·cases h
  ·rename_i hf;obtain⟨hF,hI,hR⟩:=Zj (by simpa using hf);refine⟨hF,hR,fun k hk=>?_⟩;have:=zbp _ _ _ _ hI k (wY.2 hk);omega
def zbP(l:List Nd)(by_:Int):List Nd:=l.map fun x=>{x with kids:=x.kids.map fun k=>k+by_}
def zey(a b:yo):yo:=⟨zbP a.nodes 0 ++ zbP b.nodes a.nodes.length,a.items ++ b.items.map fun k=>k+(a.nodes.length:Int)⟩
def zlV(a b:yo):yo×Nat:=if zR a≠0 then (⟨[],[]⟩,zR a) else if zR b≠0 then (⟨[],[]⟩,zR b) else
 if 1000<a.nodes.length+b.nodes.length\/40<a.items.length+b.items.length then (⟨[],[]⟩,5) else (zey a b,0)
def zez(t:yo)(first last:Int):yo:=⟨zbP ((t.nodes.drop first.toNat).take (last+1-first).toNat) (-first),[last-first]⟩
def zew(t:yo)(item:Int):Int:=if 0<item then t.items.getD (item-1).toNat 0+1 else 0
def znn(t:yo)(item:Int):yo×Nat:=if zR t≠0 then (⟨[],[]⟩,zR t) else if item<0\/(t.items.length:Int)<=item then (⟨[],[]⟩,7) else
 (zez t (zew t item) (t.items.getD item.toNat 0),0)
def zmP(t:yo)(item:Int):Int:=t.items.getD item.toNat 0+1-((jH t.nodes t.nodes.length).getD (t.items.getD item.toNat 0).toNat 0:Nat)
theorem zmE(l:List Nd){out:List Nat}:∀(rk:List Int) (p e:Int),Vk l out rk p=some e->(∀k,rk.head? =some k->k=p)/\(rk=[]->p=e)/\∀j,j<rk.length->rk.getD j 0-(out.getD (rk.getD j 0).toNat 0:Nat)=if j+1<rk.length then rk.getD (j+1) 0 else e
 |[],p,e,h=>by
  cases h;exact⟨fun k hk=>by (cases hk),fun _=>rfl,fun j hj=>absurd hj (wG _)⟩
 |k :: r,p,e,h=>by
  unfold Vk at h;split at h
  ·cases h
  ·rename_i hc;have hk0:0<=p/\k=p:=by omega
   obtain⟨h1,h2,h3⟩:=zmE l r _ e h;refine⟨fun q hq=>by (cases hq;exact hk0.2),fun hq=>by (cases hq),fun j hj=>?_⟩;cases j with
   |zero=>
    simp only[List.getD_cons_zero,pK];rw[hk0.2];cases r with
    |nil=>
     have:=h2 rfl;simp only[pR,Nat.lt_irrefl,Nat.zero_add,if_false];exact this
    |cons q r=>
     have:=h1 q rfl;simp only[pK,List.getD_cons_succ,List.getD_cons_zero];rw[if_pos (by omega)];exact this.symm
   |succ j=>
    have hj':j<r.length:=by simpa using hj
    have:=h3 j hj';simp only[List.getD_cons_succ,pK];rw[this];by_cases hjr:j+1<r.length
    ·rw[if_pos hjr,if_pos (by omega)]
    ·rw[if_neg hjr,if_neg (by omega)]
theorem znm{t:yo}(h:Qv t=0){item:Int}(hi:0<=item/\item<t.items.length):zew t item=zmP t item:=by
 have hf:YM t=true:=by
  unfold Qv at h;split at h
  ·cases h
  ·split at h
   ·cases h
   ·rename_i hf;simpa using hf
 obtain⟨hF,hI,hR⟩:=Zj hf;obtain⟨_,_,h3⟩:=zmE _ _ _ _ hI;obtain⟨i,rfl⟩:=pP hi.1;have hi2:i<t.items.length:=by omega
 have hrev:∀j,j<t.items.length->t.items.reverse.getD j 0=t.items.getD (t.items.length-1-j) 0:=fun j hj=>by
  rw[pA,pA,List.getElem?_reverse hj]
 have h4:=h3 (t.items.length-1-i) (by rw[gB];omega);rw[hrev _ (by omega),show t.items.length-1-(t.items.length-1-i)=i by omega,gB] at h4;unfold zew zmP;rw[wE];by_cases h0:i=0
 ·subst h0;rw[if_neg (by omega)] at h4 ⊢;omega
 ·rw[if_pos (by omega)] at h4 ⊢;rw[hrev _ (by omega),show t.items.length-1-(t.items.length-1-i+1)=i-1 by omega] at h4;rw[show ((i:Int)-1).toNat=i-1 by omega];omega
end Lode
