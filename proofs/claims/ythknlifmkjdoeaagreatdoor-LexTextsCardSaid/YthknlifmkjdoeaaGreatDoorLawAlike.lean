/-
  THE LAWS' alike: whether tokens have the same kinds and texts.
-/
import Derived.Test.YthknlifmkjdoeaaGreatDoorLexR
import Derived.Test.YthknlifmkjdoeaaGreatDoorText
namespace Go.Proofs.YthknlifmkjdoeaaGreatDoor
open Go.RowKit Lode Go.Shelf
attribute [local go_sem ↓] Go.wp_at_zero Go.wp_at_succ
set_option maxRecDepth 100000 in
theorem kalike_any (v1 v2 : Value) (l m : List Tok) (w : World) (h1 : OSl w v1 l) (h2 : OSl w v2 m) (hl : l.length ≤ 1000000) :
    Calls Tryz.prog 32 #[v1, v2] w fun e w' => e = .returned (.bool (decide (l.map kt = m.map kt))) ∧ Below w.heap.size w w' := by
  obtain ⟨p1, c1, rfl, h1⟩ := h1
  obtain ⟨p2, c2, rfl, h2⟩ := h2
  by_cases hlen : l.length = m.length
  · have H1 := hid h1
    have H2 := hid h2
    clear h1 h2
    have Hlen := hid hlen
    rw [← hlen]
    generalize hn : l.length = n at *
    have Hn := hid hn
    clear hlen hn
    go_enter Tryz.func32, Tryz.ntmps32
    go_wp2_with fail
    go_loopw [5] (fun i wr => ∃ k : Nat, i = .int .i64 k ∧ k ≤ n ∧ Below w.heap.size w wr ∧ Hid (∀ j, j < k → (l.map kt)[j]? = (m.map kt)[j]?)) (fun i _ => n - (intOf i).toNat)
    case atStart => exact ⟨0, rfl, by omega, Below.refl _ _, hid (fun j hj => absurd hj (Nat.not_lt_zero _))⟩
    case round =>
      obtain ⟨k, rfl, hk, hb, hall⟩ := hrel
      by_cases hlt : k < n
      · have hl0 : l ≠ [] := fun e => by have := Hn.out; rw [e] at this; simp at this; omega
        have hm0 : m ≠ [] := fun e => by have := Hlen.out; rw [e] at this; simp at this; omega
        obtain ⟨g1, o1, rfl, q1⟩ := H1.out.resolve_left hl0
        obtain ⟨g2, o2, rfl, q2⟩ := H2.out.resolve_left hm0
        have q1 := q1 k (by rw [Hn.out]; exact hlt)
        have q2 := q2 k (by rw [← Hlen.out]; exact hlt)
        have hx : (l.map kt)[k]? = some (kt (l[k]'(by rw [Hn.out]; exact hlt))) := by rw [List.getElem?_map, List.getElem?_eq_getElem (by rw [Hn.out]; exact hlt)]; rfl
        have hy : (m.map kt)[k]? = some (kt (m[k]'(by rw [← Hlen.out]; exact hlt))) := by rw [List.getElem?_map, List.getElem?_eq_getElem (by rw [← Hlen.out]; exact hlt)]; rfl
        generalize l[k]'(by rw [Hn.out]; exact hlt) = x at *
        generalize m[k]'(by rw [← Hlen.out]; exact hlt) = y at *
        obtain ⟨k1, t1, a1⟩ := x
        obtain ⟨k2, t2, a2⟩ := y
        obtain ⟨c0, c1, c2⟩ := q1
        obtain ⟨d0, d1, d2⟩ := q2
        have c0 := cell_later hb c0
        have c1 := cell_later hb c1
        have d0 := cell_later hb d0
        have d1 := cell_later hb d1
        simp only at c0 c1 d0 d1
        have Hx := hid hx
        have Hy := hid hy
        clear hx hy hl0 hm0
        by_cases he : k1 = k2 ∧ t1 = t2
        · obtain ⟨rfl, rfl⟩ := he
          go_wp2_with fail
          go_quiet (fail)
          go_wp2_with fail
          go_roundw
          case rel =>
            refine ⟨k + 1, by go_num, by omega, bl_drewN hb nq, hid (fun j hj => ?_)⟩
            by_cases e : j = k
            · subst e; rw [Hx.out, Hy.out]; rfl
            · exact hall.out j (by omega)
          case measure => simp [intOf]; omega
        · have hd : decide (l.map kt = m.map kt) = false := decide_eq_false (fun e => he (by
            have h1 := Hx.out
            rw [e, Hy.out] at h1
            simp only [kt, Option.some.injEq, Prod.mk.injEq] at h1
            exact ⟨h1.1.symm, h1.2.symm⟩))
          have hd := hid hd
          have hne : ((k1 : Int) != (k2 : Int)) = true ∨ (k1 = k2 ∧ (t1 == t2) = false) := by
            by_cases e1 : k1 = k2
            · exact .inr ⟨e1, by rw [beq_eq_false_iff_ne]; exact fun e2 => he ⟨e1, e2⟩⟩
            · exact .inl (by rw [bne_iff_ne]; omega)
          clear he
          rcases hne with hne | ⟨rfl, hne⟩
          all_goals
            go_wp2_with fail
            go_quiet (fail)
            go_wp2_with fail
            go_ret
            exact ⟨by rw [hd.out]; rfl, bl_drewN hb nq⟩
      · have hkn : k = n := by omega
        go_wp2_with fail
        go_ret
        refine ⟨?_, hb⟩
        have : l.map kt = m.map kt := List.ext_getElem? (fun j => by
          by_cases hj : j < k
          · exact hall.out j hj
          · have e1 : (l.map kt)[j]? = none := List.getElem?_eq_none (by rw [List.length_map, Hn.out]; omega)
            have e2 : (m.map kt)[j]? = none := List.getElem?_eq_none (by have := Hlen.out; rw [List.length_map]; omega)
            rw [e1, e2])
        rw [decide_eq_true this]
        rfl
  · have hne : ((l.length : Int) != (m.length : Int)) = true := by rw [bne_iff_ne]; omega
    have hd : decide (l.map kt = m.map kt) = false := decide_eq_false (fun e => hlen (by have := congrArg List.length e; simpa using this))
    rw [hd]
    clear h1 h2 hd
    go_enter Tryz.func32, Tryz.ntmps32
    go_wp2_with fail
    go_ret
    exact ⟨rfl, Below.refl _ _⟩
end Go.Proofs.YthknlifmkjdoeaaGreatDoor
