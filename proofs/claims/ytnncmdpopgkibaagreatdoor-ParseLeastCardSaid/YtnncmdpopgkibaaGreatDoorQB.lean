/-
  A part of the proof: contracts of functions; no conditions.
-/
import Derived.Test.YtnncmdpopgkibaaGreatDoorQA
import Derived.WalkKit
import Derived.WalkLawsBesides
import Derived.WalkSpells
import Derived.Lib.ConvBytes
import Derived.Shelf.Abstract
import Derived.Deep.RegionWith
import Derived.Deep.Light
import Derived.Deep.QuietTactic
import Derived.BigQuiet
import Derived.Lib.AtoiAll
import Derived.Lib.ItoaNum
import GoSem.Op.String
import Derived.Lib.LastIndexByte
import Derived.Lib.Bytealg
import Derived.Laws.Runes
import Derived.Deep.RegionHeld3
import Derived.Deep.DrawnRows
import Derived.Deep.AppendLies
import Derived.Maps.Range
import Derived.WalkMore
import Derived.Deep.LoopGhost
import Derived.Shelf.Strings.BuilderF
import Derived.Test.YtnncmdpopgkibaaGreatDoorProg
import Derived.Lib.AppendIntMem
import Derived.Shelf.RegionOpen
import Derived.OwnWalkIn
import Derived.TacticsInMore
import Derived.LoopNIn
import Derived.LoopIn
import Derived.Deep.Onto
set_option maxRecDepth 100000
set_option maxHeartbeats 40000000
set_option linter.unusedSimpArgs false
set_option linter.unusedVariables false
namespace Go.Proofs.YtnncmdpopgkibaaGreatDoor
section
open Go.RowKit Lode
open Go.Proofs.Tryz
theorem zpO(z:List UInt8):QF (10 :: z):=fun c r h=>by cases h;exact⟨by decide,by decide,by decide,by decide,by decide⟩
end
end Go.Proofs.YtnncmdpopgkibaaGreatDoor
