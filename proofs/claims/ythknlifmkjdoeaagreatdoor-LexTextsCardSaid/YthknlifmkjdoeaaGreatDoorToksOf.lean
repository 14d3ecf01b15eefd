/-
  TOKENS THAT CAME IN AS AN ARGUMENT; the reference's Same on tokens wherever they lie.
-/
import Derived.Deep.Slices
import Derived.Deep.Fields
import Derived.ChangeSame
import Derived.Test.YthknlifmkjdoeaaGreatDoorLexX
import Derived.Test.YthknlifmkjdoeaaGreatDoorTxSmall
namespace Go.Proofs.YthknlifmkjdoeaaGreatDoor
open Go.RowKit Go.ChangeShapes Go.WideShapes Go.Deep Lode
set_option maxRecDepth 100000 in
theorem toks_of {H : Type} {enc : TypeId × Value → H} {w : World} {base : Nat} {spare : Nat → Bool} {held : Bool} {r : Reach} {b : Nat} {v : Value} {d : DataW H} {p : List MemPlace} (hv : Value.okWide Tryz.prog w r b 33 v) (h : DataW.Trod enc Tryz.prog w base spare held 33 v d p) : ∃ l, OSl w v l ∧ ∀ c, v = .slice none 0 c → c = 0 := by
  obtain ⟨a, len, cap, rfl⟩ := okWide_slice Tryz.underlying33 hv
  obtain ⟨fuel, hf⟩ := h
  rcases open_slice Tryz.underlying33 hf with ⟨hcs, _⟩ | ⟨a', len', cap', m, n, D, Pl, hcs, _, hl, _, hm, _, hi⟩
  · simp only [Value.cells, List.cons.injEq, Value.slice.injEq, and_true] at hcs
    obtain ⟨rfl, rfl, rfl⟩ := hcs
    exact ⟨[], ⟨none, 0, rfl, .inl rfl⟩, fun c h => by cases h; rfl⟩
  · simp only [Value.cells, List.cons.injEq, Value.slice.injEq, and_true] at hcs
    obtain ⟨rfl, rfl, rfl⟩ := hcs
    have hlm : len ≤ m := by rw [hm]; split <;> omega
    have hC : Tryz.prog.cellsOf 46 = 3 := by kernel_rfl
    rw [hC] at hi
    have hone : ∀ i, i < len → ∃ t : Tok, w.cell? (a'.add (i * 3)) = some (.int .u8 t.kind) ∧ w.cell? ((a'.add (i * 3)).add 1) = some (.string ⟨t.text.toArray⟩) ∧ w.cell? ((a'.add (i * 3)).add 2) = some (.int .i64 t.at_) := fun i hi' => by
      obtain ⟨cs', hc, ht⟩ := hi i (by omega)
      obtain ⟨_, hcl, hat⟩ := World.cells?_some hc
      obtain ⟨ys, n', _, _, _, hyl, hfs⟩ := DataW.trod_struct Tryz.underlying46 ht
      match cs', hcl with
      | [v0, v1, v2], _ =>
        match ys, hyl with
        | [y0, y1, y2], _ =>
          have k5 : Tryz.prog.cellsOf 5 = 1 := by kernel_rfl
          have k9 : Tryz.prog.cellsOf 9 = 1 := by kernel_rfl
          have k3 : Tryz.prog.cellsOf 3 = 1 := by kernel_rfl
          have e0 : DataW.trod enc Tryz.prog w base spare held n' 5 (([v0, v1, v2].drop 0).take (Tryz.prog.cellsOf 5)) = some y0 := hfs 0 _ rfl
          have e1 : DataW.trod enc Tryz.prog w base spare held n' 9 (([v0, v1, v2].drop 1).take (Tryz.prog.cellsOf 9)) = some y1 := hfs 1 _ rfl
          have e2 : DataW.trod enc Tryz.prog w base spare held n' 3 (([v0, v1, v2].drop 2).take (Tryz.prog.cellsOf 3)) = some y2 := hfs 2 _ rfl
          rw [k5] at e0
          rw [k9] at e1
          rw [k3] at e2
          obtain ⟨x0, q0, _, w0⟩ := DataW.trod_int Tryz.underlying5 e0
          obtain ⟨x1, q1, _, _⟩ := DataW.trod_string Tryz.underlying9 e1
          obtain ⟨x2, q2, _, _⟩ := DataW.trod_int Tryz.underlying3 e2
          have r0 : v0 = .int .u8 x0 := by simpa using q0
          have r1 : v1 = .string x1 := by simpa using q1
          have r2 : v2 = .int .i64 x2 := by simpa using q2
          subst r0 r1 r2
          obtain ⟨k0, rfl⟩ : ∃ y : Nat, x0 = (y : Int) := Int.eq_ofNat_of_zero_le (wf_u8_nonneg w0)
          exact ⟨⟨k0, x1.data.toList, x2⟩, hat 0 (by decide), hat 1 (by decide), hat 2 (by decide)⟩
    by_cases h0 : len = 0
    · subst h0
      exact ⟨[], ⟨some a', cap, rfl, .inl rfl⟩, fun c h => by cases h⟩
    · have hsp : a'.spot = none := World.cell?_spot (w := w) (v := .int .u8 ((Classical.choose (hone 0 (by omega))).kind : Int)) (by
        have h1 := (Classical.choose_spec (hone 0 (by omega))).1
        have e0 : a'.add (0 * 3) = a' := by unfold Addr.add; simp
        exact (congrArg w.cell? e0).symm.trans h1)
      obtain ⟨g, off, sp⟩ := a'
      simp only at hsp
      subst hsp
      have hadd : ∀ j, (⟨g, off, none⟩ : Addr).add j = ⟨g, off + j, none⟩ := fun j => by
        unfold Addr.add; split
        · rename_i h; subst h; rfl
        · rfl
      have hadd2 : ∀ j k, ((⟨g, off, none⟩ : Addr).add j).add k = ⟨g, off + j + k, none⟩ := fun j k => by
        rw [hadd]; unfold Addr.add; split
        · rename_i h; subst h; rfl
        · rfl
      refine ⟨List.ofFn fun i : Fin len => Classical.choose (hone i.1 i.2), ⟨some ⟨g, off, none⟩, cap, by rw [List.length_ofFn], .inr ⟨g, off, rfl, fun j hj => ?_⟩⟩, fun c h => by cases h⟩
      rw [List.length_ofFn] at hj
      obtain ⟨q0, q1, q2⟩ := Classical.choose_spec (hone j hj)
      rw [List.getElem_ofFn]
      exact ⟨(congrArg w.cell? (hadd (j * 3))).symm.trans q0, (congrArg w.cell? (hadd2 (j * 3) 1)).symm.trans q1, (congrArg w.cell? (hadd2 (j * 3) 2)).symm.trans q2⟩
end Go.Proofs.YthknlifmkjdoeaaGreatDoor
namespace Go.Proofs.YthknlifmkjdoeaaGreatDoor
open Go.RowKit Lode Go.Shelf
attribute [local go_sem ↓] Go.wp_at_zero Go.wp_at_succ
set_option maxRecDepth 100000 in
theorem rsameO_any (v1 v2 : Value) (l m : List Tok) (w : World) (h1 : OSl w v1 l) (h2 : OSl w v2 m) (hl : l.length ≤ 1000000) :
    Calls Tryz.prog 25 #[v1, v2] w fun e w' => e = .returned (.bool (decide (l = m))) ∧ Below w.heap.size w w' := by
  obtain ⟨p1, c1, rfl, h1⟩ := h1
  obtain ⟨p2, c2, rfl, h2⟩ := h2
  by_cases hlen : l.length = m.length
  · have H1 := hid h1
    have H2 := hid h2
    clear h1 h2
    have Hlen := hid hlen
    rw [← hlen]
    generalize hn : l.length = n at *
    have Hn := hid hn
    clear hlen hn
    go_enter Tryz.func25, Tryz.ntmps25
    go_wp2_with fail
    go_loopw [5] (fun i wr => ∃ k : Nat, i = .int .i64 k ∧ k ≤ n ∧ Below w.heap.size w wr ∧ Hid (∀ j, j < k → l[j]? = m[j]?)) (fun i _ => n - (intOf i).toNat)
    case atStart => exact ⟨0, rfl, by omega, Below.refl _ _, hid (fun j hj => absurd hj (Nat.not_lt_zero _))⟩
    case round =>
      obtain ⟨k, rfl, hk, hb, hall⟩ := hrel
      by_cases hlt : k < n
      · have hl0 : l ≠ [] := fun e => by have := Hn.out; rw [e] at this; simp at this; omega
        have hm0 : m ≠ [] := fun e => by have := Hlen.out; rw [e] at this; simp at this; omega
        obtain ⟨g1, o1, rfl, q1⟩ := H1.out.resolve_left hl0
        obtain ⟨g2, o2, rfl, q2⟩ := H2.out.resolve_left hm0
        have q1 := q1 k (by rw [Hn.out]; exact hlt)
        have q2 := q2 k (by rw [← Hlen.out]; exact hlt)
        have hx : l[k]? = some (l[k]'(by rw [Hn.out]; exact hlt)) := List.getElem?_eq_getElem _
        have hy : m[k]? = some (m[k]'(by rw [← Hlen.out]; exact hlt)) := List.getElem?_eq_getElem _
        generalize l[k]'(by rw [Hn.out]; exact hlt) = x at *
        generalize m[k]'(by rw [← Hlen.out]; exact hlt) = y at *
        obtain ⟨k1, t1, a1⟩ := x
        obtain ⟨k2, t2, a2⟩ := y
        obtain ⟨c0, c1, c2⟩ := q1
        obtain ⟨d0, d1, d2⟩ := q2
        have c0 := cell_later hb c0
        have c1 := cell_later hb c1
        have c2 := cell_later hb c2
        have d0 := cell_later hb d0
        have d1 := cell_later hb d1
        have d2 := cell_later hb d2
        simp only at c0 c1 c2 d0 d1 d2
        have Hx := hid hx
        have Hy := hid hy
        clear hx hy hl0 hm0
        by_cases he : k1 = k2 ∧ t1 = t2 ∧ a1 = a2
        · obtain ⟨rfl, rfl, rfl⟩ := he
          go_wp2_with fail
          go_quiet (fail)
          go_wp2_with fail
          go_roundw
          case rel =>
            refine ⟨k + 1, by go_num, by omega, bl_drewN hb nq, hid (fun j hj => ?_)⟩
            by_cases e : j = k
            · subst e; rw [Hx.out, Hy.out]
            · exact hall.out j (by omega)
          case measure => simp [intOf]; omega
        · have hd : decide (l = m) = false := decide_eq_false (fun e => he (by
            have h1 := Hx.out
            rw [e, Hy.out] at h1
            simp only [Option.some.injEq, Tok.mk.injEq] at h1
            exact ⟨h1.1.symm, h1.2.1.symm, h1.2.2.symm⟩))
          have hd := hid hd
          have hne : ((k1 : Int) == (k2 : Int)) = false ∨ (k1 = k2 ∧ t1 ≠ t2) ∨ (k1 = k2 ∧ t1 = t2 ∧ (a1 == a2) = false) := by
            by_cases e1 : k1 = k2
            · by_cases e2 : t1 = t2
              · exact .inr (.inr ⟨e1, e2, by rw [beq_eq_false_iff_ne]; exact fun e3 => he ⟨e1, e2, e3⟩⟩)
              · exact .inr (.inl ⟨e1, e2⟩)
            · exact .inl (by rw [beq_eq_false_iff_ne]; omega)
          clear he
          rcases hne with hne | ⟨rfl, hne⟩ | ⟨rfl, rfl, hne⟩
          all_goals
            go_wp2_with fail
            go_quiet (fail)
            go_wp2_with fail
            go_ret
            exact ⟨by rw [hd.out]; rfl, bl_drewN hb nq⟩
      · have hkn : k = n := by omega
        go_wp2_with fail
        go_ret
        refine ⟨?_, hb⟩
        have : l = m := List.ext_getElem? (fun j => by
          by_cases hj : j < k
          · exact hall.out j hj
          · have e1 : l[j]? = none := List.getElem?_eq_none (by rw [Hn.out]; omega)
            have e2 : m[j]? = none := List.getElem?_eq_none (by have := Hlen.out; omega)
            rw [e1, e2])
        rw [decide_eq_true this]
        rfl
  · have hne : ((l.length : Int) != (m.length : Int)) = true := by rw [bne_iff_ne]; omega
    have hd : decide (l = m) = false := decide_eq_false (fun e => hlen (by rw [e]))
    rw [hd]
    clear h1 h2 hd
    go_enter Tryz.func25, Tryz.ntmps25
    go_wp2_with fail
    go_ret
    exact ⟨rfl, Below.refl _ _⟩
end Go.Proofs.YthknlifmkjdoeaaGreatDoor
