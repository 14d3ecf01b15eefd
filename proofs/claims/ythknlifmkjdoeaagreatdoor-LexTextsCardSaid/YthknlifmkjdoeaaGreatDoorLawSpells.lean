/-
  LexSpells: the law's walk.
-/
import Derived.Test.YthknlifmkjdoeaaGreatDoorLexX
import Derived.Test.YthknlifmkjdoeaaGreatDoorLexP
import Derived.Test.YthknlifmkjdoeaaGreatDoorRefN
namespace Lode
theorem rspell_err (k : Nat) (t : List UInt8) : (rspell k t).2 = 0 ∨ (rspell k t).2 = 4 := by
  unfold rspell
  split
  · split
    · exact .inl rfl
    · exact .inr rfl
  · split
    · exact .inr rfl
    · split
      · split
        · exact .inl rfl
        · exact .inr rfl
      · exact .inr rfl
end Lode
namespace Go.Proofs.YthknlifmkjdoeaaGreatDoor
open Go.RowKit Lode Go.Shelf
attribute [local go_sem ↓] Go.wp_at_zero Go.wp_at_succ
/-- the reference's Apart is the program's -/
theorem rapart_eq {x y : Nat × List UInt8} (hx : spelt x) (hy : spelt y) : rapart x.1 x.2 (spl x) y.1 y.2 (spl y) = apartK x y := by
  unfold rapart
  by_cases hn : apartK x y = false
  · have h := hn
    simp only [apartK, lapart, Bool.not_eq_false', Bool.and_eq_true, decide_eq_true_eq] at h
    obtain ⟨h1, h2⟩ := h
    rw [hn, if_neg (by rw [h1]; simp), h2]
    simp
  · have hn2 : apartK x y = true := by simpa using hn
    rw [hn2]
    by_cases h0 : (Lode.read (spl x ++ spl y)).2.2 = 0
    · rw [if_neg (by rw [h0]; simp)]
      split
      · rename_i a b hL
        by_cases hA : (a.kind = x.1 ∧ a.text = x.2) ∧ (b.kind = y.1 ∧ b.text = y.2) ∧ b.at_ = ((spl x).length : Int)
        · exfalso
          obtain ⟨⟨e1, e2⟩, ⟨e3, e4⟩, e5⟩ := hA
          have hr := (read_rd h0).1
          rw [hL] at hr
          have hk := hr.k
          have hkt : List.map kt [a, b] = [x, y] := by simp [kt, e1, e2, e3, e4]
          rw [hkt] at hk
          have := (RdK.peel hx hk).1
          rw [← apart_no hx hy] at this
          exact hn this
        · by_cases e1 : a.kind = x.1 ∧ a.text = x.2
          · by_cases e2 : b.kind = y.1 ∧ b.text = y.2
            · have e3 : b.at_ ≠ ((spl x).length : Int) := fun e => hA ⟨e1, e2, e⟩
              simp [e3]
            · simp only [Bool.or_eq_true, Bool.not_eq_true']
              left; rw [Bool.and_eq_false_iff]; right
              rw [← Bool.not_eq_true, Bool.and_eq_true, decide_eq_true_eq, decide_eq_true_eq]; exact e2
          · simp only [Bool.or_eq_true, Bool.not_eq_true']
            left; rw [Bool.and_eq_false_iff]; left
            rw [← Bool.not_eq_true, Bool.and_eq_true, decide_eq_true_eq, decide_eq_true_eq]; exact e1
      · rfl
    · rw [if_pos h0]
theorem rApart_eq (k1 : Nat) (t1 : List UInt8) (a1 : Int) (k2 : Nat) (t2 : List UInt8) (a2 : Int) : rApart (k1, t1) (k2, t2) = lApart ⟨k1, t1, a1⟩ ⟨k2, t2, a2⟩ := by
  have h1 := rspell_err k1 t1
  have h2 := rspell_err k2 t2
  have hA : lspellAll [⟨k1, t1, a1⟩, ⟨k2, t2, a2⟩] = if (rspell k1 t1).2 = 0 ∧ (rspell k2 t2).2 = 0 then 0 else 4 := by
    unfold lspellAll
    rw [if_neg (by simp)]
    simp [okSp, lspell_eq]
  unfold rApart lApart
  rw [hA]
  by_cases e1 : (rspell k1 t1).2 = 0
  · by_cases e2 : (rspell k2 t2).2 = 0
    · have hx : spelt (k1, t1) := by unfold spelt; rw [lspell_eq]; exact e1
      have hy : spelt (k2, t2) := by unfold spelt; rw [lspell_eq]; exact e2
      have := rapart_eq hx hy
      simp only [apartK, spl, lspell_eq] at this
      simp [e1, e2, lspell_eq, this]
    · simp [e1, h2.resolve_left e2]
  · simp [h1.resolve_left e1]
set_option maxRecDepth 100000 in
theorem law_spells (k1 : Nat) (t1 : List UInt8) (a1 : Int) (k2 : Nat) (t2 : List UInt8) (a2 : Int) (w : World) (hG : Glob w) :
    Calls Tryz.prog 10 #[.agg #[.int .u8 k1, .string ⟨t1.toArray⟩, .int .i64 a1], .agg #[.int .u8 k2, .string ⟨t2.toArray⟩, .int .i64 a2]] w fun e w' => e = .returned (.bool true) ∧ Below w.heap.size w w' := by
  have HK := hid (fun (W : World) (hb : Below w.heap.size w W) => known_any W (hG.later hb))
  have HB := hid (fun W h => box3 w 46 (.int .u8 k1) (.string ⟨t1.toArray⟩) (.int .i64 a1) (.int .u8 k2) (.string ⟨t2.toArray⟩) (.int .i64 a2) W h)
  have hs1 : (⟨t1.toArray⟩ : ByteArray).size = t1.length := rfl
  have hs2 : (⟨t2.toArray⟩ : ByteArray).size = t2.length := rfl
  by_cases hbig : 80 < t1.length
  · go_enter Tryz.func10, Tryz.ntmps10
    go_wp2_with (go_at_call 15; refine (HK.out _ (HB.out _ (Below.refl _ _)).1).mono ?_; rintro e w1 ⟨rfl, hb1⟩)
    go_ret
    exact ⟨rfl, below_then (HB.out _ (Below.refl _ _)).1 hb1⟩
  by_cases hbig2 : 80 < t2.length
  · go_enter Tryz.func10, Tryz.ntmps10
    go_wp2_with (go_at_call 15; refine (HK.out _ (HB.out _ (Below.refl _ _)).1).mono ?_; rintro e w1 ⟨rfl, hb1⟩)
    go_ret
    exact ⟨rfl, below_then (HB.out _ (Below.refl _ _)).1 hb1⟩
  have H1 := hid (fun (W : World) (hb : Below w.heap.size w W) => lSpell_any k1 t1 a1 W (by omega) (hG.later hb))
  have H2 := hid (fun (W : World) (hb : Below w.heap.size w W) => lApart_any k1 k2 t1 t2 a1 a2 W (by omega) (by omega) (hG.later hb))
  have H3 := hid (fun (W : World) => rspell_s' k1 t1 a1 W (by omega))
  have H4 := hid (fun (W : World) => rapart_any k1 t1 a1 k2 t2 a2 W (by omega) (by omega))
  rw [lspell_eq] at H1
  rw [rApart_eq k1 t1 a1 k2 t2 a2] at H4
  generalize rspell k1 t1 = x at *
  generalize lApart ⟨k1, t1, a1⟩ ⟨k2, t2, a2⟩ = y at *
  obtain ⟨x1, x2⟩ := x
  obtain ⟨y1, y2⟩ := y
  clear hG
  go_enter Tryz.func10, Tryz.ntmps10
  go_wp2_with fail
  refine (H1.out _ (HB.out _ (Below.refl _ _)).1).mono ?_
  rintro e w1 ⟨rfl, hb1⟩
  obtain ⟨hbw, ⟨c0, c1, c2⟩, d0, d1, d2⟩ := HB.out w1 hb1
  go_wp2_with fail
  refine (H2.out _ hbw).mono ?_
  rintro e w2 ⟨rfl, hb2⟩
  have hb2 := below_then hb1 hb2
  clear hb1 hbw c0 c1 c2 d0 d1 d2
  obtain ⟨hbw, ⟨c0, c1, c2⟩, d0, d1, d2⟩ := HB.out w2 hb2
  go_wp2_with fail
  refine (H3.out _).mono ?_
  rintro e w3 ⟨rfl, hb3⟩
  have hb3 := below_then hb2 hb3
  clear hb2 hbw c0 c1 c2 d0 d1 d2
  obtain ⟨hbw, ⟨c0, c1, c2⟩, d0, d1, d2⟩ := HB.out w3 hb3
  go_wp2_with fail
  refine (H4.out _).mono ?_
  rintro e w4 ⟨rfl, hb4⟩
  have hb4 := below_then hb3 hb4
  clear hb3 hbw c0 c1 c2 d0 d1 d2
  obtain ⟨hbw, _, _⟩ := HB.out w4 hb4
  go_wp2_with fail
  refine (HK.out _ hbw).mono ?_
  rintro e w5 ⟨rfl, hb5⟩
  go_wp2_with fail
  go_ret
  exact ⟨rfl, below_then hbw hb5⟩
end Go.Proofs.YthknlifmkjdoeaaGreatDoor
