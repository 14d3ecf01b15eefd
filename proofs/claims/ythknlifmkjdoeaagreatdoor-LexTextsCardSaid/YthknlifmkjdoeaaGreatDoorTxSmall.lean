/-
  SMALL FUNCTIONS OF THE LAW OF TEXTS: the reference's Closing, Ints; the laws' vast.
-/
import Derived.Test.YthknlifmkjdoeaaGreatDoorNestW
import Derived.Test.YthknlifmkjdoeaaGreatDoorLawAlike
namespace Go.Proofs.YthknlifmkjdoeaaGreatDoor
open Go.RowKit Lode Go.Shelf
attribute [local go_sem ↓] Go.wp_at_zero Go.wp_at_succ
theorem closing_any (t : List UInt8) (w : World) (h : closeOf t ≠ []) : Calls Tryz.prog 74 #[.string ⟨t.toArray⟩] w fun e w' => e = .returned (.string ⟨(closeOf t).toArray⟩) ∧ w' = w := by
  unfold closeOf at h ⊢
  by_cases h1 : t = [40]
  · subst h1
    go_enter Tryz.func74, Tryz.ntmps74
    go_wp2_with fail
    go_ret
    exact ⟨rfl, rfl⟩
  · by_cases h2 : t = [91]
    · subst h2
      go_enter Tryz.func74, Tryz.ntmps74
      go_wp2_with fail
      go_ret
      exact ⟨rfl, rfl⟩
    · by_cases h3 : t = [123]
      · subst h3
        go_enter Tryz.func74, Tryz.ntmps74
        go_wp2_with fail
        go_ret
        exact ⟨rfl, rfl⟩
      · rw [if_neg h1, if_neg h2, if_neg h3] at h; exact absurd rfl h
/-- integers in memory -/
def ISl (w : World) (v : Value) (l : List Int) : Prop := ∃ (p : Option Addr) (cap : Nat), v = .slice p l.length cap ∧ (l = [] ∨ ∃ g, p = some ⟨g, 0, none⟩ ∧ ∀ (j : Nat) (z : Int), l[j]? = some z → w.cell? ⟨g, j, none⟩ = some (.int .i64 z))
theorem ISl.later {w w' : World} {v : Value} {l : List Int} (h : ISl w v l) (hb : Below w.heap.size w w') : ISl w' v l := by
  obtain ⟨p, cap, hv, h⟩ := h
  exact ⟨p, cap, hv, h.imp id fun ⟨g, hp, hc⟩ => ⟨g, hp, fun j z hz => cell_later hb (hc j z hz)⟩⟩
set_option maxRecDepth 100000 in
theorem rints_any (v1 v2 : Value) (l m : List Int) (w : World) (h1 : ISl w v1 l) (h2 : ISl w v2 m) (hl : l.length ≤ 1000000) :
    Calls Tryz.prog 44 #[v1, v2] w fun e w' => e = .returned (.bool (decide (l = m))) ∧ Below w.heap.size w w' := by
  obtain ⟨p1, c1, rfl, h1⟩ := h1
  obtain ⟨p2, c2, rfl, h2⟩ := h2
  by_cases hlen : l.length = m.length
  · have H1 := hid h1
    have H2 := hid h2
    clear h1 h2
    have Hlen := hid hlen
    rw [← hlen]
    generalize hn : l.length = n at *
    have Hn := hid hn
    clear hlen hn
    go_enter Tryz.func44, Tryz.ntmps44
    go_wp2_with fail
    go_loopw [5] (fun i wr => ∃ k : Nat, i = .int .i64 k ∧ k ≤ n ∧ Below w.heap.size w wr ∧ Hid (∀ j, j < k → l[j]? = m[j]?)) (fun i _ => n - (intOf i).toNat)
    case atStart => exact ⟨0, rfl, by omega, Below.refl _ _, hid (fun j hj => absurd hj (Nat.not_lt_zero _))⟩
    case round =>
      obtain ⟨k, rfl, hk, hb, hall⟩ := hrel
      by_cases hlt : k < n
      · have hl0 : l ≠ [] := fun e => by have := Hn.out; rw [e] at this; simp at this; omega
        have hm0 : m ≠ [] := fun e => by have := Hlen.out; rw [e] at this; simp at this; omega
        obtain ⟨g1, rfl, q1⟩ := H1.out.resolve_left hl0
        obtain ⟨g2, rfl, q2⟩ := H2.out.resolve_left hm0
        have hx : l[k]? = some (l[k]'(by rw [Hn.out]; exact hlt)) := List.getElem?_eq_getElem _
        have hy : m[k]? = some (m[k]'(by rw [← Hlen.out]; exact hlt)) := List.getElem?_eq_getElem _
        have c0 := cell_later hb (q1 k _ hx)
        have d0 := cell_later hb (q2 k _ hy)
        generalize l[k]'(by rw [Hn.out]; exact hlt) = x at *
        generalize m[k]'(by rw [← Hlen.out]; exact hlt) = y at *
        have Hx := hid hx
        have Hy := hid hy
        clear hx hy hl0 hm0
        by_cases he : x = y
        · subst he
          go_wp2_with fail
          go_quiet (fail)
          go_wp2_with fail
          go_roundw
          case rel =>
            refine ⟨k + 1, by go_num, by omega, bl_drewN hb nq, hid (fun j hj => ?_)⟩
            by_cases e : j = k
            · subst e; rw [Hx.out, Hy.out]
            · exact hall.out j (by omega)
          case measure => simp [intOf]; omega
        · have hd := hid (decide_eq_false (p := l = m) (fun e => he (by
            have h1 := Hx.out
            rw [e, Hy.out] at h1
            exact (Option.some.inj h1).symm)))
          have hne : (x != y) = true := by rw [bne_iff_ne]; exact he
          clear he
          go_wp2_with fail
          go_quiet (fail)
          go_wp2_with fail
          go_ret
          exact ⟨by rw [hd.out]; rfl, bl_drewN hb nq⟩
      · have hkn : k = n := by omega
        go_wp2_with fail
        go_ret
        refine ⟨?_, hb⟩
        have : l = m := List.ext_getElem? (fun j => by
          by_cases hj : j < k
          · exact hall.out j hj
          · have e1 : l[j]? = none := List.getElem?_eq_none (by rw [Hn.out]; omega)
            have e2 : m[j]? = none := List.getElem?_eq_none (by have := Hlen.out; omega)
            rw [e1, e2])
        rw [decide_eq_true this]
        rfl
  · have hne : ((l.length : Int) != (m.length : Int)) = true := by rw [bne_iff_ne]; omega
    have hd : decide (l = m) = false := decide_eq_false (fun e => hlen (by rw [e]))
    rw [hd]
    clear h1 h2 hd
    go_enter Tryz.func44, Tryz.ntmps44
    go_wp2_with fail
    go_ret
    exact ⟨rfl, Below.refl _ _⟩
/-- more than the laws look at -/
def vastB (l : List Tok) : Bool := decide (1400 < l.length) || l.any fun t => decide (80 < t.text.length)
set_option maxRecDepth 100000 in
theorem kvast_any (v : Value) (l : List Tok) (w : World) (h : OSl w v l) :
    Calls Tryz.prog 41 #[v] w fun e w' => e = .returned (.bool (vastB l)) ∧ Below w.heap.size w w' := by
  obtain ⟨p, cap, rfl, hc⟩ := h
  generalize hr : vastB l = r
  replace hr := hr.symm
  unfold vastB at hr
  by_cases hbig : 1400 < l.length
  · have hr2 : r = true := by rw [hr, decide_eq_true hbig]; rfl
    subst hr2
    clear hc hr
    go_enter Tryz.func41, Tryz.ntmps41
    go_wp2_with fail
    go_ret
    exact ⟨rfl, Below.refl _ _⟩
  · rw [decide_eq_false hbig, Bool.false_or] at hr
    have Hr := hid hr
    have HC := hid hc
    clear hr hc
    generalize hn : l.length = n at *
    have Hn := hid hn
    clear hn
    go_enter Tryz.func41, Tryz.ntmps41
    go_wp2_with fail
    go_loopw [3] (fun i wr => ∃ k : Nat, i = .int .i64 k ∧ k ≤ n ∧ Below w.heap.size w wr ∧ Hid ((l.take k).any (fun t => decide (80 < t.text.length)) = false)) (fun i _ => n - (intOf i).toNat)
    case atStart => exact ⟨0, rfl, by omega, Below.refl _ _, hid rfl⟩
    case round =>
      obtain ⟨k, rfl, hk, hb, hall⟩ := hrel
      by_cases hlt : k < n
      · have hkl : k < l.length := by rw [Hn.out]; exact hlt
        have hl0 : l ≠ [] := fun e => by rw [e] at hkl; simp at hkl
        obtain ⟨g, off, rfl, q⟩ := HC.out.resolve_left hl0
        obtain ⟨_, i1, _⟩ := q k hkl
        have c1 := cell_later hb i1
        have htk := List.take_append_getElem hkl
        have hmem : l[k] ∈ l := List.getElem_mem _
        clear i1 q hl0
        have Htk := hid htk
        have Hmem := hid hmem
        clear htk hmem
        generalize l[k] = x at *
        obtain ⟨k1, t1, a1⟩ := x
        simp only at c1
        by_cases h80 : 80 < t1.length
        · have hn2 : Hid (r = true) := hid (by
            rw [Hr.out, List.any_eq_true]
            exact ⟨_, Hmem.out, by simpa using h80⟩)
          go_wp2_with fail
          go_ret
          exact ⟨by rw [hn2.out]; rfl, hb⟩
        · have hn2 : Hid ((l.take (k + 1)).any (fun t => decide (80 < t.text.length)) = false) := hid (by
            rw [← Htk.out, List.any_append, hall.out]
            simp; omega)
          go_wp2_with fail
          go_roundw
          case rel => exact ⟨k + 1, by go_num, by omega, hb, hn2⟩
          case measure => simp [intOf]; omega
      · have hkn : k = n := by omega
        have hn2 : Hid (r = false) := hid (by
          rw [Hr.out]
          have := hall.out
          rwa [List.take_of_length_le (by rw [Hn.out]; omega)] at this)
        go_wp2_with fail
        go_ret
        exact ⟨by rw [hn2.out]; rfl, hb⟩
end Go.Proofs.YthknlifmkjdoeaaGreatDoor
