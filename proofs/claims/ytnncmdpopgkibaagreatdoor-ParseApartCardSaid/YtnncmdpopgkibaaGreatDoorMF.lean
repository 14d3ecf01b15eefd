/-
  A part of the proof: contracts of functions; no conditions.
-/
import Derived.Test.YtnncmdpopgkibaaGreatDoorME
import Derived.OwnWalk
import Derived.OneCell
import Derived.Lib.AtoiAll
import Derived.Lib.ItoaNum
import GoSem.Op.String
import Derived.Lib.LastIndexByte
import Derived.Lib.Bytealg
import Derived.Lib.AppendIntMem
import Derived.Deep.RegionHeld3
import Derived.Deep.DrawnRows
import Derived.Deep.AppendLies
import Derived.Maps.Range
import Derived.WalkMore
import Derived.Deep.LoopGhost
import Derived.Shelf.Strings.BuilderF
import Derived.Test.YtnncmdpopgkibaaGreatDoorProg
import Derived.WalkKit
import Derived.WalkLawsBesides
import Derived.WalkSpells
import Derived.Lib.ConvBytes
import Derived.Shelf.Abstract
import Derived.Deep.RegionWith
import Derived.Deep.Light
import Derived.Deep.QuietTactic
import Derived.BigQuiet
import Derived.Laws.Runes
import Derived.Shelf.RegionOpen
import Derived.OwnWalkIn
import Derived.TacticsInMore
import Derived.LoopNIn
import Derived.LoopIn
import Derived.Deep.Onto
import Derived.OrdersIn
import Derived.TacticsIn
import Derived.Laws.CopyOwn
import Derived.Laws.MakeOwn
import Derived.Laws.OwnMore
set_option maxRecDepth 100000
set_option maxHeartbeats 40000000
set_option linter.unusedSimpArgs false
set_option linter.unusedVariables false
namespace Go.Proofs.YtnncmdpopgkibaaGreatDoor
section
open Go.RowKit Lode Go.Shelf
attribute [local go_sem ↓] Go.wp_at_zero Go.wp_at_succ
open Go.Proofs.Tryz
theorem zkH(l:List Nd):zbP l 0=l:=by
 unfold zbP;have:(fun x:Nd=>{x with kids:=x.kids.map fun k=>k+0})=id:=by
  funext x;obtain⟨_,_,_,_,_⟩:=x;simp
 rw[this,List.map_id]
def jn2(a b:yo)(j:Nat):yo:=⟨a.nodes ++ zbP b.nodes a.nodes.length,a.items ++ (b.items.take j).map (· +(a.nodes.length:Int))⟩
theorem znr(a b:yo){j:Nat}(h:j<=b.items.length):(jn2 a b j).items.length=a.items.length+j:=by
 unfold jn2;simp;omega
theorem znk(a b:yo){j:Nat}(h:j<b.items.length):jn2 a b (j+1)=⟨(jn2 a b j).nodes,(jn2 a b j).items ++ [b.items.getD j 0+(a.nodes.length:Int)]⟩:=by
 unfold jn2;rw[wZ,glE h,pA,glE h,List.map_append,wS];rfl
theorem zns(a b:yo):jn2 a b b.items.length=zey a b:=by simp[jn2,zey,zkH]
end
end Go.Proofs.YtnncmdpopgkibaaGreatDoor
