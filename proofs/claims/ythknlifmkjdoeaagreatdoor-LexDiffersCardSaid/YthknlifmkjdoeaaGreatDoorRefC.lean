/-
  THE REFERENCE'S IsNumber AND Quoted.
-/
import Derived.Test.YthknlifmkjdoeaaGreatDoorRefB
import Derived.Test.YthknlifmkjdoeaaGreatDoorNum
namespace Go.Proofs.YthknlifmkjdoeaaGreatDoor
open Go.RowKit Lode Go.Shelf
theorem risNumber_any (s : ByteArray) (w : World) (hs : s.size ≤ 1000000000000) :
    Calls Tryz.prog 93 #[.string s] w fun e w' => e = .returned (.bool (isNum s.data.toList)) ∧ w = w' := by
  generalize hr : isNum s.data.toList = r
  have Hr := hid hr; clear hr
  go_enter Tryz.func93, Tryz.ntmps93
  go_wp2_with (go_at_call 89; refine (rrun_any _ 0 false _ hs (Nat.zero_le _)).mono ?_; rintro e w' ⟨rfl, rfl⟩)
  all_goals
    go_ret
    go_light
    refine ⟨congrArg (fun b => Ending.returned (Value.bool b)) ?_, rfl⟩
    rw [← Hr.out, isNum_ref]
    simp only [ByteArray.toList_eq] at *
    have hlen : s.data.toList.length = s.size := by simp
    have hh := bhead' s 48 (by omega)
    rw [show UInt8.ofNat 48 = 48 from rfl] at hh
    have hrl : ((runLen digit s.data.toList : Int) == (s.size : Int)) = decide (runLen digit s.data.toList = s.size) := by rw [Bool.eq_iff_iff]; simp; omega
    rw [hlen, hh]
    clear hh Hr hlen
    show _ = _
    first
      | (simp_all [maxDigits]; done)
      | (simp_all [maxDigits]; omega)

end Go.Proofs.YthknlifmkjdoeaaGreatDoor
