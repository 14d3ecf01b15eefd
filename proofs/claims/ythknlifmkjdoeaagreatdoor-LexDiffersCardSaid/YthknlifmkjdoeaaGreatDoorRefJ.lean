/-
  THE REFERENCE: Same.
-/
import Derived.Test.YthknlifmkjdoeaaGreatDoorRefI
namespace Go.Proofs.YthknlifmkjdoeaaGreatDoor
open Go.RowKit Lode Go.Shelf
attribute [local go_sem ↓] Go.wp_at_zero Go.wp_at_succ
/-- the tokens of a slice, as cells -/
def TCells (w : World) (g : Nat) (l : List Tok) : Prop := ∀ (j : Nat) (h : j < l.length), w.cell? ⟨g, j * 3, none⟩ = some (.int .u8 l[j].kind) ∧ w.cell? ⟨g, j * 3 + 1, none⟩ = some (.string ⟨l[j].text.toArray⟩) ∧ w.cell? ⟨g, j * 3 + 2, none⟩ = some (.int .i64 l[j].at_)
theorem tokCells_get : ∀ (l : List Tok) (j : Nat) (h : j < l.length), (tokCells l)[j * 3]? = some (.int .u8 l[j].kind) ∧ (tokCells l)[j * 3 + 1]? = some (.string ⟨l[j].text.toArray⟩) ∧ (tokCells l)[j * 3 + 2]? = some (.int .i64 l[j].at_)
  | [], _, h => by cases h
  | t :: l, 0, _ => ⟨rfl, rfl, rfl⟩
  | t :: l, j + 1, h => by
    have := tokCells_get l j (by simpa using h)
    have e : tokCells (t :: l) = tokVals t ++ tokCells l := rfl
    rw [e]
    have e0 : (j + 1) * 3 = (tokVals t).length + j * 3 := by simp [tokVals]; omega
    refine ⟨?_, ?_, ?_⟩
    · rw [e0, List.getElem?_append_right (by omega), Nat.add_sub_cancel_left]; exact this.1
    · rw [e0, List.getElem?_append_right (by omega), show (tokVals t).length + j * 3 + 1 - (tokVals t).length = j * 3 + 1 from by omega]; exact this.2.1
    · rw [e0, List.getElem?_append_right (by omega), show (tokVals t).length + j * 3 + 2 - (tokVals t).length = j * 3 + 2 from by omega]; exact this.2.2
/-- a slice of tokens: nil, or its cells -/
def TSl (w : World) (v : Value) (l : List Tok) : Prop := ∃ (p : Option Addr) (cap : Nat), v = .slice p l.length cap ∧ (l = [] ∨ ∃ g, p = some ⟨g, 0, none⟩ ∧ TCells w g l)
theorem Toks.sl {w : World} {b : Nat} {v : Value} {l : List Tok} (h : Toks w b v l) : TSl w v l := by
  obtain ⟨_, ⟨hv, h0⟩ | ⟨g, cap, cur, rfl, h1⟩⟩ := id h
  · have : l = [] := List.eq_nil_of_length_eq_zero h0
    subst this; exact ⟨none, 0, hv, .inl rfl⟩
  · refine ⟨_, cap, rfl, .inr ⟨g, rfl, fun j hj => ?_⟩⟩
    have hc := tokCells_get l j hj
    exact ⟨(World.ownsRow.cellAt h (j * 3) (by omega)).trans hc.1, (World.ownsRow.cellAt h (j * 3 + 1) (by omega)).trans hc.2.1, (World.ownsRow.cellAt h (j * 3 + 2) (by omega)).trans hc.2.2⟩
set_option maxRecDepth 100000 in
theorem rsame_any (v1 v2 : Value) (l m : List Tok) (w : World) (h1 : TSl w v1 l) (h2 : TSl w v2 m) (hl : l.length ≤ 1000000) :
    Calls Tryz.prog 25 #[v1, v2] w fun e w' => e = .returned (.bool (decide (l = m))) ∧ Below w.heap.size w w' := by
  obtain ⟨p1, c1, rfl, h1⟩ := h1
  obtain ⟨p2, c2, rfl, h2⟩ := h2
  by_cases hlen : l.length = m.length
  · have H1 := hid h1
    have H2 := hid h2
    clear h1 h2
    have Hlen := hid hlen
    rw [← hlen]
    generalize hn : l.length = n at *
    have Hn := hid hn
    clear hlen hn
    go_enter Tryz.func25, Tryz.ntmps25
    go_wp2_with fail
    go_loopw [5] (fun i wr => ∃ k : Nat, i = .int .i64 k ∧ k ≤ n ∧ Below w.heap.size w wr ∧ Hid (∀ j, j < k → l[j]? = m[j]?)) (fun i _ => n - (intOf i).toNat)
    case atStart => exact ⟨0, rfl, by omega, Below.refl _ _, hid (fun j hj => absurd hj (Nat.not_lt_zero _))⟩
    case round =>
      obtain ⟨k, rfl, hk, hb, hall⟩ := hrel
      by_cases hlt : k < n
      · have hl0 : l ≠ [] := fun e => by have := Hn.out; rw [e] at this; simp at this; omega
        have hm0 : m ≠ [] := fun e => by have := Hlen.out; rw [e] at this; simp at this; omega
        obtain ⟨g1, rfl, q1⟩ := H1.out.resolve_left hl0
        obtain ⟨g2, rfl, q2⟩ := H2.out.resolve_left hm0
        have q1 := q1 k (by rw [Hn.out]; exact hlt)
        have q2 := q2 k (by rw [← Hlen.out]; exact hlt)
        have hx : l[k]? = some (l[k]'(by rw [Hn.out]; exact hlt)) := List.getElem?_eq_getElem _
        have hy : m[k]? = some (m[k]'(by rw [← Hlen.out]; exact hlt)) := List.getElem?_eq_getElem _
        generalize l[k]'(by rw [Hn.out]; exact hlt) = x at *
        generalize m[k]'(by rw [← Hlen.out]; exact hlt) = y at *
        obtain ⟨k1, t1, a1⟩ := x
        obtain ⟨k2, t2, a2⟩ := y
        obtain ⟨c0, c1, c2⟩ := q1
        obtain ⟨d0, d1, d2⟩ := q2
        have c0 := cell_later hb c0
        have c1 := cell_later hb c1
        have c2 := cell_later hb c2
        have d0 := cell_later hb d0
        have d1 := cell_later hb d1
        have d2 := cell_later hb d2
        simp only at c0 c1 c2 d0 d1 d2
        have Hx := hid hx
        have Hy := hid hy
        clear hx hy hl0 hm0
        by_cases he : k1 = k2 ∧ t1 = t2 ∧ a1 = a2
        · obtain ⟨rfl, rfl, rfl⟩ := he
          go_wp2_with fail
          go_quiet (fail)
          go_wp2_with fail
          go_roundw
          case rel =>
            refine ⟨k + 1, by go_num, by omega, bl_drewN hb nq, hid (fun j hj => ?_)⟩
            by_cases e : j = k
            · subst e; rw [Hx.out, Hy.out]
            · exact hall.out j (by omega)
          case measure => simp [intOf]; omega
        · have hd : decide (l = m) = false := decide_eq_false (fun e => he (by
            have h1 := Hx.out
            rw [e, Hy.out] at h1
            simp only [Option.some.injEq, Tok.mk.injEq] at h1
            exact ⟨h1.1.symm, h1.2.1.symm, h1.2.2.symm⟩))
          have hd := hid hd
          have hne : ((k1 : Int) == (k2 : Int)) = false ∨ (k1 = k2 ∧ t1 ≠ t2) ∨ (k1 = k2 ∧ t1 = t2 ∧ (a1 == a2) = false) := by
            by_cases e1 : k1 = k2
            · by_cases e2 : t1 = t2
              · exact .inr (.inr ⟨e1, e2, by rw [beq_eq_false_iff_ne]; exact fun e3 => he ⟨e1, e2, e3⟩⟩)
              · exact .inr (.inl ⟨e1, e2⟩)
            · exact .inl (by rw [beq_eq_false_iff_ne]; omega)
          clear he
          rcases hne with hne | ⟨rfl, hne⟩ | ⟨rfl, rfl, hne⟩
          all_goals
            go_wp2_with fail
            go_quiet (fail)
            go_wp2_with fail
            go_ret
            exact ⟨by rw [hd.out]; rfl, bl_drewN hb nq⟩
      · have hkn : k = n := by omega
        go_wp2_with fail
        go_ret
        refine ⟨?_, hb⟩
        have : l = m := List.ext_getElem? (fun j => by
          by_cases hj : j < k
          · exact hall.out j hj
          · have e1 : l[j]? = none := List.getElem?_eq_none (by rw [Hn.out]; omega)
            have e2 : m[j]? = none := List.getElem?_eq_none (by have := Hlen.out; omega)
            rw [e1, e2])
        rw [decide_eq_true this]
        rfl
  · have hne : ((l.length : Int) != (m.length : Int)) = true := by rw [bne_iff_ne]; omega
    have hd : decide (l = m) = false := decide_eq_false (fun e => hlen (by rw [e]))
    rw [hd]
    clear h1 h2 hd
    go_enter Tryz.func25, Tryz.ntmps25
    go_wp2_with fail
    go_ret
    exact ⟨rfl, Below.refl _ _⟩
end Go.Proofs.YthknlifmkjdoeaaGreatDoor
