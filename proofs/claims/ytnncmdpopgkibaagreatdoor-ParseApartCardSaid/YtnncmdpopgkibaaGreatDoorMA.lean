/-
  A part of the proof: contracts of functions; no conditions.
-/
import Derived.Test.YtnncmdpopgkibaaGreatDoorKA
import Derived.Test.YtnncmdpopgkibaaGreatDoorKB
import Derived.Test.YtnncmdpopgkibaaGreatDoorKC
import Derived.Test.YtnncmdpopgkibaaGreatDoorKD
import Derived.Test.YtnncmdpopgkibaaGreatDoorKE
import Derived.Test.YtnncmdpopgkibaaGreatDoorKF
import Derived.Test.YtnncmdpopgkibaaGreatDoorKG
import Derived.Test.YtnncmdpopgkibaaGreatDoorKH
import Derived.Test.YtnncmdpopgkibaaGreatDoorKI
import Derived.Test.YtnncmdpopgkibaaGreatDoorKJ
import Derived.Test.YtnncmdpopgkibaaGreatDoorKK
import Derived.Test.YtnncmdpopgkibaaGreatDoorKL
import Derived.Test.YtnncmdpopgkibaaGreatDoorKM
import Derived.Test.YtnncmdpopgkibaaGreatDoorKN
import Derived.Test.YtnncmdpopgkibaaGreatDoorKO
import Derived.Test.YtnncmdpopgkibaaGreatDoorKP
import Derived.Test.YtnncmdpopgkibaaGreatDoorKQ
import Derived.Shelf.Strings.Builder1
import Derived.Shelf.Strings.Builder2
import Derived.Shelf.Strings.OnBuilder
import Derived.Shelf.Small.Strs
import Derived.Shelf.Small.Wraps
import Derived.Shelf.Strings.BuilderF
import Derived.Shelf.Strconv.Atoi
import Derived.Shelf.Strconv.Itoa0
import Derived.Shelf.Strconv.Itoa1
import Derived.Shelf.LaysM
import Derived.Shelf.Strconv.Itoa2
import Derived.Shelf.Strconv.Itoa3
import Derived.Shelf.Strconv.AtoiErrFast
import Derived.Shelf.Strconv.ParseIntEmpty
import Derived.Shelf.Strconv.AtoiFail
import Derived.Shelf.Strconv.Clone
import Derived.Shelf.Strconv.SyntaxError
import Derived.Shelf.LaysC
import Derived.Shelf.Strconv.ToError
import Derived.Shelf.Strconv.Lower
import Derived.Shelf.Strconv.ParseUint10
import Derived.Shelf.Strconv.ParseUint10Empty
import Derived.Shelf.Strconv.ParseUint10Any
import Derived.Shelf.Strconv.ParseInt10
import Derived.Shelf.Strconv.AtoiLong
import Derived.Shelf.Strconv.AtoiInnerAll
import Derived.Shelf.Strconv.RangeError
import Derived.Shelf.Strconv.ToErrorRange
import Derived.Shelf.Strconv.AtoiAll
import Derived.Shelf.Strconv.ErrVarAll
import Derived.Shelf.Strings.Search1
import Derived.Shelf.Strings.Search2
import Derived.Shelf.Strings.Search3
import Derived.Shelf.Strings.Shaped
import Derived.Shelf.Strings.Prefix
import Derived.Shelf.Strings.Fields
import Derived.Shelf.Strings.SplitShaped
import Derived.Shelf.Unicode.Latin
import Derived.Shelf.Bits.Mul64
import Derived.Shelf.Unicode.Is16White
import Derived.Shelf.Unicode.IsSpaceAny
import Derived.Shelf.Unicode.Is16Any
import Derived.Shelf.Unicode.Is32Any
import Derived.Shelf.Unicode.ExclAny
import Derived.Shelf.Slices.Turned
import Derived.Shelf.Slices.Reverse
import Derived.Shelf.Slices.Equal
import Derived.Ground.Names2Prog
import Derived.Shelf.Slices.Clone
import Derived.Shelf.Slices.Cells
import Derived.Shelf.Slices.Empties2
import Derived.Ground.SlgnProg
import Derived.Shelf.SlicesE.Index
import Derived.Shelf.SlicesE.Clone
import Derived.Test.YtnncmdpopgkibaaGreatDoorProg
import Derived.Lib.QuietBelow
import Derived.Deep.QuietTactic
import Derived.RegionTactic
import Derived.Still
import Derived.RangeFuncNested
import Derived.RangeFuncBound
import Derived.RangeFuncCalls
import Derived.RangeFuncLeaves
import Derived.RangeFuncKeeps
import Derived.Deep.MidRow
set_option maxRecDepth 100000
set_option maxHeartbeats 40000000
set_option linter.unusedSimpArgs false
set_option linter.unusedVariables false
namespace Go.Proofs
section
open Go.Shelf
def Tryz.lays102_ren:Go.Shelf.Ren:=⟨fun|102=>57|209=>84|207=>120|n=>n,fun|9=>9|4=>4|3=>3|n=>n,fun|n=>n⟩
theorem Tryz.lays102:Go.Proofs.Lays.n102 prog Tryz.lays102_ren:={
 mixed:=by kernel_rfl
 f102:=func57.trans (congrArg some (by kernel_rfl))
 f207:=func120.trans (congrArg some (by kernel_rfl))
 f209:=func84.trans (congrArg some (by kernel_rfl))
 t3:=underlying3
 a3:=Tryz.isAgg3
 z3:=Tryz.sizeOf3
 v3:=Tryz.zeroValue3
 t4:=underlying4
 a4:=Tryz.isAgg4
 z4:=Tryz.sizeOf4
 v4:=Tryz.zeroValue4
 t9:=underlying9
 a9:=Tryz.isAgg9
 z9:=Tryz.sizeOf9
 v9:=Tryz.zeroValue9}
open Go.RowKit Go.Lib in
theorem Tryz.strings_TrimSuffix (s p:ByteArray) (w:World) (hs:s.size<=9223372036854775807) :
 Calls prog 57 #[.string s,.string p] w fun e w'=>e=.returned (.string ⟨(Lib.trimSuffix s.data.toList p.data.toList).toArray⟩)/\w'=w:=Any.strings_TrimSuffix Tryz.lays102 s p w hs
end
end Go.Proofs
namespace LodeX
section
open Go Go.RowKit Go.Sort
section
variable {RR:Rel} {Xp:List PanicEntry→World→Prop} {P:Program} {l:List Oper} {Q:Act→World→Prop} {r:List (Nat×Nat)} {b w:World} {a:Act}
theorem zld{i:Nat}{o:Oper}{v:Value}(hi':l[i]? =some o)(hw:Region.wanted o (yielded l.toArray a.tmps)=true)(hy:∀w,(execOp a.eval o).run P w=.ok (.value v) w)(h:wpE Xp P l.toArray Q r (a.put o.dst v) w):wpE Xp P l.toArray Q ((i,0) :: r) a w:=by
 have hi:l.toArray[i]? =some o:=by rw[pV];exact hi'
 unfold wpE;exact vv (next:=fun a'=>wpE Xp P l.toArray Q r a' w) hi (.inl ⟨hw,fun w=>by rw[hy w];exact⟨rfl,rfl⟩⟩) h
theorem ziU{i f:Nat}{o:Oper}(hi':l[i]? =some o)(hw:Region.wanted o (yielded l.toArray a.tmps)=true)(h:o.wp P a w (wpE Xp P l.toArray Q r) (xOf Xp)):wpE Xp P l.toArray Q ((i,f+1) :: r) a w:=by
 have hi:l.toArray[i]? =some o:=by rw[pV];exact hi'
 unfold wpE;simp only[Xv,hi,hw,if_true];exact h
end
end
end LodeX
namespace Lode
section
open Go Go.RowKit Go.Sort
section
variable {P:Program} {l:List Oper} {Q:Act→World→Prop} {r:List (Nat×Nat)} {b w:World} {a:Act}
theorem zld{i:Nat}{o:Oper}{v:Value}(hi':l[i]? =some o)(hw:Region.wanted o (yielded l.toArray a.tmps)=true)(hy:∀w,(execOp a.eval o).run P w=.ok (.value v) w)(h:wpE P l.toArray Q r (a.put o.dst v) w):wpE P l.toArray Q ((i,0) :: r) a w:=LodeX.zld hi' hw hy h
theorem ziU{i f:Nat}{o:Oper}(hi':l[i]? =some o)(hw:Region.wanted o (yielded l.toArray a.tmps)=true)(h:o.wp P a w (wpE P l.toArray Q r) (fun _ _ _=>False)):wpE P l.toArray Q ((i,f+1) :: r) a w:=LodeX.ziU hi' hw (zjT h)
end
end
end Lode
namespace Go.Proofs.YtnncmdpopgkibaaGreatDoor
section
open Go.RowKit
open Go.Proofs.Tryz
variable {F:Fence} {n:Nat} {P:Program}
end
end Go.Proofs.YtnncmdpopgkibaaGreatDoor
