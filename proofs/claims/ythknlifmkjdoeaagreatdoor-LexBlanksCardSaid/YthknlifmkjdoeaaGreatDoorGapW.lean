/-
  THE LAWS' gap: whether all bytes of a text are a gap.
-/
import Derived.Test.YthknlifmkjdoeaaGreatDoorFlP
namespace Go.Proofs.YthknlifmkjdoeaaGreatDoor
open Go.RowKit Lode Go.Shelf
attribute [local go_sem ↓] Go.wp_at_zero Go.wp_at_succ
theorem gapSt_next {s : ByteArray} {k : Nat} (hlt : k < s.size) {cm : Bool} (h : gapSt false (s.data.toList.take k) = some cm) : gapSt false (s.data.toList.take (k + 1)) = gapSt cm [s[k]] ∧ (gapSt cm [s[k]] = none → gapSt false s.data.toList = none) := by
  have h1 : gapSt false (s.data.toList.take (k + 1)) = gapSt cm [s[k]] := by rw [take_one s k hlt, gapSt_app, h]; rfl
  refine ⟨h1, fun h2 => ?_⟩
  rw [← List.take_append_drop (k + 1) s.data.toList, gapSt_app, h1, h2]; rfl
def GapRel (s : ByteArray) (w : World) (c i : Value) (wr : World) : Prop := ∃ (k : Nat) (cm : Bool), c = .bool cm ∧ i = .int .i64 k ∧ k ≤ s.size ∧ gapSt false (s.data.toList.take k) = some cm ∧ wr = w
set_option maxRecDepth 100000 in
theorem kgap_any (s : ByteArray) (last : Bool) (w : World) (hs : s.size ≤ 1000000000000) :
    Calls Tryz.prog 38 #[.string s, .bool last] w fun e w' => e = .returned (.bool (gapB s.data.toList last)) ∧ w' = w := by
  generalize hr : gapB s.data.toList last = r
  have Hr := hid hr; clear hr
  go_enter Tryz.func38, Tryz.ntmps38
  go_wp2_with fail
  go_loopw [5, 6] (GapRel s w) (fun _ i _ => s.size - (intOf i).toNat)
  case atStart => exact ⟨0, false, rfl, rfl, by omega, by simp [gapSt], rfl⟩
  case round =>
    obtain ⟨k, cm, rfl, rfl, hk, hg, rfl⟩ := hrel
    by_cases hlt : k < s.size
    · obtain ⟨h1, h2⟩ := gapSt_next hlt hg
      have h10 := c10 s[k]
      have h35 := ceq s[k] 35 (by omega)
      have h32 := ceq s[k] 32 (by omega)
      have H10 : Hid (((s[k].toNat : Int) = 10) = (s[k] = 10)) := hid h10
      have H35 : Hid (((s[k].toNat : Int) = 35) = (s[k] = 35)) := hid h35
      have H32 : Hid (((s[k].toNat : Int) = 32) = (s[k] = 32)) := hid h32
      have H1 := hid h1
      have H2 := hid h2
      clear h1 h2 h10 h35 h32 hg
      by_cases e10 : s[k] = 10
      · have t10 : ((s[k].toNat : Int) == 10) = true := by rw [beq_iff_eq, H10.out]; exact e10
        have hn : Hid (gapSt false (s.data.toList.take (k + 1)) = some false) := hid (by rw [H1.out]; simp [gapSt, e10])
        clear e10
        go_wp2_with fail
        go_roundw
        case rel => exact ⟨k + 1, false, rfl, by go_num, by omega, hn.out, rfl⟩
        case measure => simp [intOf]; omega
      · have t10 : ((s[k].toNat : Int) == 10) = false := by rw [beq_eq_false_iff_ne, ne_eq, H10.out]; exact e10
        by_cases e35 : s[k] = 35
        · have t35 : ((s[k].toNat : Int) == 35) = true := by rw [beq_iff_eq, H35.out]; exact e35
          have hn : Hid (gapSt false (s.data.toList.take (k + 1)) = some true) := hid (by rw [H1.out]; simp [gapSt, e35])
          clear e10 e35
          go_wp2_with fail
          go_roundw
          case rel => exact ⟨k + 1, true, rfl, by go_num, by omega, hn.out, rfl⟩
          case measure => simp [intOf]; omega
        · have t35 : ((s[k].toNat : Int) == 35) = false := by rw [beq_eq_false_iff_ne, ne_eq, H35.out]; exact e35
          by_cases e32 : s[k] = 32
          · have t32 : ((s[k].toNat : Int) != 32) = false := by rw [bne_eq_false_iff_eq, H32.out]; exact e32
            have hn : Hid (gapSt false (s.data.toList.take (k + 1)) = some cm) := hid (by rw [H1.out]; simp [gapSt, e32])
            clear e10 e35 e32
            go_wp2_with fail
            go_roundw
            case rel => exact ⟨k + 1, cm, rfl, by go_num, by omega, hn.out, rfl⟩
            case measure => simp [intOf]; omega
          · have t32 : ((s[k].toNat : Int) != 32) = true := by rw [bne_iff_ne, ne_eq, H32.out]; exact e32
            cases cm with
            | true =>
              have hn : Hid (gapSt false (s.data.toList.take (k + 1)) = some true) := hid (by rw [H1.out]; simp [gapSt, e10, e35])
              clear e10 e35 e32
              go_wp2_with fail
              go_roundw
              case rel => exact ⟨k + 1, true, rfl, by go_num, by omega, hn.out, rfl⟩
              case measure => simp [intOf]; omega
            | false =>
              have hn : Hid (r = false) := hid (by
                rw [← Hr.out, gapB, H2.out (by simp [gapSt, e10, e35, e32])])
              clear e10 e35 e32
              go_wp2_with fail
              go_ret
              exact ⟨by rw [hn.out]; rfl, rfl⟩
    · have hks : k = s.size := by omega
      subst hks
      have hn : Hid (r = (last || !cm)) := hid (by
        rw [List.take_of_length_le (by simp)] at hg
        rw [← Hr.out, gapB, hg])
      clear hg
      cases last with
      | true =>
        go_wp2_with fail
        go_ret
        exact ⟨by rw [hn.out]; rfl, rfl⟩
      | false =>
        go_wp2_with fail
        go_ret
        exact ⟨by rw [hn.out]; rfl, rfl⟩
end Go.Proofs.YthknlifmkjdoeaaGreatDoor
