/-
  THE REFERENCE'S Quoted.
-/
import Derived.Test.YthknlifmkjdoeaaGreatDoorRefC
import Derived.Test.YthknlifmkjdoeaaGreatDoorBase2
namespace Go.Proofs.YthknlifmkjdoeaaGreatDoor
open Go.RowKit Lode Go.Shelf
def RQPost (q : Option (List UInt8 × Nat)) (w : World) (e : Ending) (w' : World) : Prop :=
  ∃ n t ok, e = .returned (.tuple #[.int .i64 n, .string t, .bool ok]) ∧ QRes q n t ok ∧ w = w'
set_option maxRecDepth 100000 in
theorem rquoted_any (s : ByteArray) (a : Nat) (w : World) (hs : s.size ≤ 1000000000000) (ha : a < s.size) :
    Calls Tryz.prog 61 #[.string s, .int .i64 a] w (RQPost (Lode.quoted (s.data.toList.drop a)) w) := by
  have Hq := QInv.start s a
  generalize Lode.quoted (s.data.toList.drop a) = q at *
  go_enter Tryz.func61, Tryz.ntmps61
  go_wp2_with fail
  go_loop [7, 8] (fun s7 s8 => ∃ (k : Nat) (ob : ByteArray), a + 1 + k ≤ s.size + 1 ∧ s8 = .int .i64 ((a + 1 + k : Nat) : Int) ∧ s7 = .string ob ∧ ob.size ≤ k ∧ QInv s a k ob q) (fun _ s8 => s.size + 1 - (intOf s8).toNat)
  case atStart => exact ⟨0, _, by omega, by go_num, rfl, by decide, Hq⟩
  case round =>
    obtain ⟨k, ob, hk, rfl, rfl, hob, hq⟩ := hrel
    by_cases hlt : a + 1 + k < s.size
    · have hx : ∀ i, i < s.size → (s.extract i (i + 1)).size = 1 := fun i hi => by simp; omega
      have Hx := hid hx; clear hx
      go_wp2_with fail
      · go_ret3
        exact ⟨_, _, _, rfl, q_close hq hlt ‹_› ‹_› ‹_› _ (by omega), rfl⟩
      · go_round
        case rel => exact ⟨k + 1, _, by omega, by go_num, rfl, by rw [ByteArray.size_append, Hx.out _ hlt]; omega, q_plain hq hlt ‹_› ‹_› ‹_› ‹_›⟩
        case measure => go_light; simp [intOf]; omega
      · go_round
        case rel => exact ⟨k + 2, _, by omega, by go_num, rfl, by rw [ByteArray.size_append, Hx.out _ (by omega)]; omega, q_esc hq hlt ‹_› ‹_› ‹_› ‹_› (by omega) (.inl ‹_›)⟩
        case measure => go_light; simp [intOf]; omega
      · go_round
        case rel => exact ⟨k + 2, _, by omega, by go_num, rfl, by rw [ByteArray.size_append, Hx.out _ (by omega)]; omega, q_esc hq hlt ‹_› ‹_› ‹_› ‹_› (by omega) (by have h := ‹(_ == (34 : Int)) = true ∨ _›; simpa only [beq_iff_eq] using h)⟩
        case measure => go_light; simp [intOf]; omega
      · go_round
        case rel => exact ⟨k + 2, _, by omega, by go_num, rfl, by rw [ByteArray.size_append]; show ob.size + 1 ≤ k + 2; omega, q_escn hq hlt ‹_› ‹_› ‹_› ‹_› (by omega) (by have h := ‹(_ == _) = false ∧ _›; simpa only [beq_eq_false_iff_ne] using h) (by have h := ‹(_ == (110 : Int)) = true›; simpa only [beq_iff_eq] using h)⟩
        case measure => go_light; simp [intOf]; omega
      · go_ret3
        exact ⟨_, _, _, rfl, by rw [q_bad hq hlt ‹_› ‹_› ‹_› ‹_› (by omega) (by have h := ‹(_ == _) = false ∧ _›; simpa only [beq_eq_false_iff_ne] using h) (by have h := ‹(_ == (110 : Int)) = false›; simpa only [beq_eq_false_iff_ne] using h)]; rfl, rfl⟩
      · go_ret3
        exact ⟨_, _, _, rfl, by rw [q_esc_end hq hlt ‹_› ‹_› ‹_› ‹_› (by omega)]; rfl, rfl⟩
      · go_ret3
        exact ⟨_, _, _, rfl, by rw [q_high hq hlt ‹_›]; rfl, rfl⟩
      · go_ret3
        exact ⟨_, _, _, rfl, by rw [q_low hq hlt ‹_›]; rfl, rfl⟩
    · go_wp2_with fail
      go_ret3
      exact ⟨_, _, _, rfl, by rw [q_out hq (by omega)]; rfl, rfl⟩
end Go.Proofs.YthknlifmkjdoeaaGreatDoor
