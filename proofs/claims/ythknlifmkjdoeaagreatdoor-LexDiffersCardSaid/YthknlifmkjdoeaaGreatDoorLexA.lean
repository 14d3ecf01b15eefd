/-
  THE SMALL FUNCTIONS ON BYTES, of the program and of the reference: each call hands back what Lode's functions say, and turns nothing.
-/
import Derived.Test.YthknlifmkjdoeaaGreatDoorProg
import Derived.Test.YthknlifmkjdoeaaGreatDoorBase
namespace Go.Proofs.YthknlifmkjdoeaaGreatDoor
open Go.RowKit Lode Go.Shelf
theorem within_any (c lo hi : Int) (w : World) :
    Calls Tryz.prog 77 #[.int .u8 c, .int .u8 lo, .int .u8 hi] w fun e w' => e = .returned (.bool (decide (lo ≤ c) && decide (c ≤ hi))) ∧ w = w' := by
  by_cases h1 : lo ≤ c
  · go_enter Tryz.func77, Tryz.ntmps77
    go_wp2
    go_ret
    exact ⟨by simp [h1], rfl⟩
  · have h2 : decide (lo ≤ c) = false := by simpa using h1
    rw [h2]
    go_enter Tryz.func77, Tryz.ntmps77
    go_wp2
    go_ret
    exact ⟨rfl, rfl⟩
theorem isByte_any (c : UInt8) (w : World) :
    Calls Tryz.prog 47 #[.int .u8 (c.toNat : Int)] w fun e w' => e = .returned (.bool (isB c)) ∧ w = w' := by
  by_cases h : (decide ((32 : Int) ≤ (c.toNat : Int)) && decide ((c.toNat : Int) ≤ 126)) = true
  · have hs : isB c = true := by simp at h; simp [isB]; omega
    rw [hs]
    go_enter Tryz.func47, Tryz.ntmps47
    go_wp2_with (go_at_call 77; refine (within_any _ _ _ _).mono ?_; rintro e w' ⟨rfl, rfl⟩; rw [h])
    go_ret
    exact ⟨rfl, rfl⟩
  · have h' : (decide ((32 : Int) ≤ (c.toNat : Int)) && decide ((c.toNat : Int) ≤ 126)) = false := by simpa using h
    have hs : isB c = ((c.toNat : Int) == 10) := by simp at h'; simp [isB]; rw [Bool.eq_iff_iff]; simp; omega
    rw [hs]
    go_enter Tryz.func47, Tryz.ntmps47
    go_wp2_with (go_at_call 77; refine (within_any _ _ _ _).mono ?_; rintro e w' ⟨rfl, rfl⟩; rw [h'])
    go_ret
    exact ⟨rfl, rfl⟩
def clsOf (c : UInt8) : Int := if small c then 1 else if big c then 2 else if digit c then 3 else 0
theorem classOf_any (c : UInt8) (w : World) :
    Calls Tryz.prog 104 #[.int .u8 (c.toNat : Int)] w fun e w' => e = .returned (.int .u8 (clsOf c)) ∧ w = w' := by
  have e1 : (decide ((97 : Int) ≤ (c.toNat : Int)) && decide ((c.toNat : Int) ≤ 122)) = small c := by unfold small; rw [Bool.eq_iff_iff]; simp; omega
  have e2 : (decide ((65 : Int) ≤ (c.toNat : Int)) && decide ((c.toNat : Int) ≤ 90)) = big c := by unfold big; rw [Bool.eq_iff_iff]; simp; omega
  have e3 : (decide ((48 : Int) ≤ (c.toNat : Int)) && decide ((c.toNat : Int) ≤ 57)) = digit c := by unfold digit; rw [Bool.eq_iff_iff]; simp; omega
  have E1 := hid e1; have E2 := hid e2; have E3 := hid e3
  clear e1 e2 e3
  go_enter Tryz.func104, Tryz.ntmps104
  go_wp2_with (go_at_call 77; refine (within_any _ _ _ _).mono ?_; rintro e w' ⟨rfl, rfl⟩; first | rw [E1.out] | rw [E2.out] | rw [E3.out])
  all_goals go_ret
  all_goals exact ⟨by simp [clsOf, *], rfl⟩
end Go.Proofs.YthknlifmkjdoeaaGreatDoor
