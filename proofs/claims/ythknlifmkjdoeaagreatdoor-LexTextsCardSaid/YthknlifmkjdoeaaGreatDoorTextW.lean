/-
  THE PROGRAM'S Text.
-/
import Derived.Test.YthknlifmkjdoeaaGreatDoorFlP
import Derived.Test.YthknlifmkjdoeaaGreatDoorRegion
import Derived.Test.YthknlifmkjdoeaaGreatDoorBldrF
namespace Go.Proofs.YthknlifmkjdoeaaGreatDoor
open Go.RowKit Lode Go.Shelf
attribute [local go_sem ↓] Go.wp_at_zero Go.wp_at_succ
theorem sCells_get : ∀ (l : List Tok) (j : Nat) (h : j < l.length), (sCells l)[j * 4]? = some (.int .u8 l[j].kind) ∧ (sCells l)[j * 4 + 1]? = some (.string ⟨l[j].text.toArray⟩) ∧ (sCells l)[j * 4 + 2]? = some (.int .i64 l[j].at_) ∧ (sCells l)[j * 4 + 3]? = some (.string ⟨(lspell l[j].kind l[j].text).1.toArray⟩)
  | t :: l, 0, _ => ⟨rfl, rfl, rfl, rfl⟩
  | t :: l, j + 1, h => by
    have := sCells_get l j (by simpa using h)
    have e : sCells (t :: l) = sVals t ++ sCells l := rfl
    have e4 : ∀ i, (sCells (t :: l))[i + 4]? = (sCells l)[i]? := fun i => by
      rw [e, List.getElem?_append_right (by simp)]; simp
    rw [show (j + 1) * 4 = j * 4 + 4 by omega, show j * 4 + 4 + 1 = j * 4 + 1 + 4 by omega, show j * 4 + 4 + 2 = j * 4 + 2 + 4 by omega, show j * 4 + 4 + 3 = j * 4 + 3 + 4 by omega, e4, e4, e4, e4]
    exact this
/-- spelt tokens in memory, block g -/
def SpC (g : Nat) (l : List Tok) (w : World) : Prop := ∀ (j : Nat) (h : j < l.length), w.cell? ⟨g, j * 4, none⟩ = some (.int .u8 l[j].kind) ∧ w.cell? ⟨g, j * 4 + 1, none⟩ = some (.string ⟨l[j].text.toArray⟩) ∧ w.cell? ⟨g, j * 4 + 2, none⟩ = some (.int .i64 l[j].at_) ∧ w.cell? ⟨g, j * 4 + 3, none⟩ = some (.string ⟨(spl (kt l[j])).toArray⟩)
theorem SpC.later {g : Nat} {l : List Tok} {w w' : World} (h : SpC g l w) (hb : Below w.heap.size w w') : SpC g l w' := fun j hj => by
  obtain ⟨a, b, c, d⟩ := h j hj
  exact ⟨cell_later hb a, cell_later hb b, cell_later hb c, cell_later hb d⟩
theorem spC_of {w : World} {b : Nat} {v : Value} {l : List Tok} (h : w.ownsRow b 96 4 v l.length (sCells l)) : ∃ p cap, v = .slice p l.length cap ∧ (l = [] ∨ ∃ g, p = some ⟨g, 0, none⟩ ∧ SpC g l w) := by
  obtain ⟨_, ⟨hv, h0⟩ | ⟨g, cap, cur, rfl, h1⟩⟩ := id h
  · have : l = [] := List.eq_nil_of_length_eq_zero h0
    subst this; exact ⟨none, 0, hv, .inl rfl⟩
  · refine ⟨_, cap, rfl, .inr ⟨g, rfl, fun j hj => ?_⟩⟩
    have hc := sCells_get l j hj
    exact ⟨(World.ownsRow.cellAt h (j * 4) (by omega)).trans hc.1, (World.ownsRow.cellAt h (j * 4 + 1) (by omega)).trans hc.2.1, (World.ownsRow.cellAt h (j * 4 + 2) (by omega)).trans hc.2.2.1, (World.ownsRow.cellAt h (j * 4 + 3) (by omega)).trans hc.2.2.2⟩
def LtRel (l : List Tok) (n : Nat) (w : World) (i : Value) (wr : World) : Prop := ∃ (k : Nat) (ob : ByteArray), i = .int .i64 k ∧ k ≤ n ∧ Bd w w.heap.size ob wr ∧ ob.data.toList = textOf ((l.take k).map kt) ∧ ob.size ≤ 1000 * k
def LtPost (r : List UInt8 × Nat) (w : World) (e : Ending) (w' : World) : Prop := e = .returned (.tuple #[.string ⟨r.1.toArray⟩, .int .i64 r.2]) ∧ Below w.heap.size w w'
theorem spelt_len {x : Nat × List UInt8} (h : spelt x) : (spl x).length ≤ 122 := spell_len h.eq
set_option maxHeartbeats 4000000 in
set_option maxRecDepth 100000 in
theorem ltext_any (v : Value) (l : List Tok) (w : World) (hv : TSl w v l) (hl : l.length ≤ 1000000) (ht : ∀ t ∈ l, t.text.length ≤ 1000000000000) (hG : Glob w) :
    Calls Tryz.prog 39 #[v] w (LtPost (lText l) w) := by
  have HA := hid (lspellAll_any v l w hv hl ht hG)
  obtain ⟨p0, cp0, rfl, _⟩ := hv
  generalize hr : lText l = r
  replace hr := hr.symm
  unfold lText at hr
  unfold SaPost at HA
  by_cases h0 : lspellAll l = 0
  · rw [if_neg (by simp [h0])] at hr
    have hlen : l.length ≤ 1200 := by
      unfold lspellAll at h0
      rcases Nat.lt_or_ge 1200 l.length with h | h
      · rw [if_pos h] at h0; cases h0
      · exact h
    have hsp : ∀ x ∈ l.map kt, spelt x := fun x hx => by
      unfold lspellAll at h0
      rw [if_neg (by omega)] at h0
      split at h0
      · rename_i hall
        rw [List.all_eq_true] at hall
        obtain ⟨t, ht, rfl⟩ := List.mem_map.1 hx
        have := hall t ht
        simpa [okSp, spelt, kt] using this
      · cases h0
    have HG := hid hG
    have Hr := hid hr
    have Hsp := hid hsp
    have HA2 := HA.out.mono (R' := fun e w' => (∃ v, e = .returned (.tuple #[v, .int .i64 0]) ∧ w'.ownsRow w.heap.size 96 4 v l.length (sCells l)) ∧ Below w.heap.size w w') (fun e w' ⟨h, hb⟩ => by
      rcases h with ⟨_, h⟩ | ⟨h, _⟩
      · exact ⟨h, hb⟩
      · exact absurd h0 h)
    have HA2 := hid HA2
    clear hr hG hsp HA h0 ht hl
    generalize hn : l.length = n at *
    have Hn := hid hn; clear hn
    go_enter Tryz.func39, Tryz.ntmps39
    go_wp2_with fail
    refine HA2.out.mono ?_
    rintro e w1 ⟨⟨v1, rfl, hrow⟩, hb1⟩
    rw [← Hn.out] at hrow
    obtain ⟨p1, cp1, rfl, hcells⟩ := spC_of hrow
    rw [Hn.out]
    have HC := hid hcells
    clear hrow hcells
    go_wp2_with fail
    go_loopw [19] (LtRel l n w1) (fun i _ => n - (intOf i).toNat)
    case atStart => exact ⟨0, ByteArray.empty, rfl, by omega, Bd.fresh w1 _ rfl, by simp [textOf], by decide⟩
    case round =>
      obtain ⟨k, ob, rfl, hk, hb, hob, hsz⟩ := hrel
      by_cases hlt : k < n
      · have hkl : k < l.length := by rw [Hn.out]; exact hlt
        have hl0 : l ≠ [] := fun e => by rw [e] at hkl; simp at hkl
        obtain ⟨g, rfl, q⟩ := HC.out.resolve_left hl0
        have q := q.later hb.2
        obtain ⟨c0, c1, c2, c3⟩ := q k hkl
        have hstep := text_snoc ((l.take k).map kt) (kt l[k])
        rw [show (l.take k).map kt ++ [kt l[k]] = (l.take (k + 1)).map kt from by rw [← List.take_append_getElem hkl, List.map_append]; rfl, ← hob] at hstep
        have hsep0 : k = 0 → sepOf ((l.take k).map kt) (kt l[k]) = [] := fun e => by subst e; rfl
        have hsepS : ∀ m (hm : m < l.length), k = m + 1 → sepOf ((l.take k).map kt) (kt l[k]) = cond (apartK (kt l[m]) (kt l[k])) [32] [] := fun m hm e => by
          have : (l.take k).map kt = (l.take m).map kt ++ [kt l[m]] := by rw [e, ← List.take_append_getElem hm, List.map_append]; rfl
          unfold sepOf
          rw [this, List.getLast?_concat]
          cases h9 : apartK (kt l[m]) (kt l[k]) <;> simp [h9]
        have hxl := spelt_len (Hsp.out (kt l[k]) (List.mem_map_of_mem (List.getElem_mem hkl)))
        have Hob := hid hob
        clear hob hl0
        by_cases hk0 : k = 0
        · have hsep := hsep0 hk0
          rw [hsep, List.nil_append] at hstep
          clear hsep hsep0 hsepS
          subst hk0
          generalize l[0] = x at *
          obtain ⟨k1, t1, a1⟩ := x
          simp only [kt] at c0 c1 c2 c3 hstep hxl
          generalize spl (k1, t1) = s1 at *
          have Hstep := hid hstep
          have hsz1 : (⟨s1.toArray⟩ : ByteArray).size = s1.length := rfl
          have hb2 := hb.later (below_alloc wr (.cells #[.int .u8 k1, .string ⟨t1.toArray⟩, .int .i64 a1, .string ⟨s1.toArray⟩] 96 (0, 0)))
          clear hstep q
          go_wp2_with fail
          go_quiet (fail)
          have hb3 := hb2.later (bl_drewN (Below.refl _ _) nq)
          have hW := hid (hb3.writeStr ⟨s1.toArray⟩ (by omega))
          go_wp2_with (go_at_call 56; refine hW.out.mono ?_; rintro e w2 ⟨rfl, hb4⟩)
          go_roundw
          case rel => exact ⟨1, _, by go_num, by omega, hb4, by rw [app_data, Hstep.out], by rw [ByteArray.size_append, hsz1]; omega⟩
          case measure => simp [intOf]; omega
        · obtain ⟨m, hm⟩ : ∃ m, k = m + 1 := ⟨k - 1, by omega⟩
          have hml : m < l.length := by omega
          have hmn : m < n := by omega
          obtain ⟨d0, d1, d2, d3⟩ := q m hml
          have hsep := hsepS m hml hm
          rw [hsep] at hstep
          have hsx := Hsp.out (kt l[m]) (List.mem_map_of_mem (List.getElem_mem hml))
          have hsy := Hsp.out (kt l[k]) (List.mem_map_of_mem (List.getElem_mem hkl))
          have hxl1 := spelt_len hsx
          clear hsep0 hsepS hsep
          generalize l[m] = y at *
          generalize l[k] = x at *
          obtain ⟨k2, t2, a2⟩ := x
          obtain ⟨k1, t1, a1⟩ := y
          simp only [kt] at c0 c1 c2 c3 d0 d1 d2 d3 hstep hxl hxl1
          have HAp := hid (fun (W : World) (hb : Below w.heap.size w W) => lapart1_any k1 t1 a1 (spl (k1, t1)) k2 t2 a2 (spl (k2, t2)) W (by omega) (by omega) (HG.out.later hb))
          rw [show lapart k1 t1 (spl (k1, t1)) k2 t2 (spl (k2, t2)) = apartK (k1, t1) (k2, t2) from rfl] at HAp
          generalize spl (k1, t1) = s1 at *
          generalize spl (k2, t2) = s2 at *
          generalize apartK (k1, t1) (k2, t2) = ap at *
          have Hstep := hid hstep
          have hsz1 : (⟨s2.toArray⟩ : ByteArray).size = s2.length := rfl
          have hba := below_alloc wr (.cells #[.int .u8 k2, .string ⟨t2.toArray⟩, .int .i64 a2, .string ⟨s2.toArray⟩] 96 (0, 0))
          have hb2 := hb.later hba
          have hx0 := heap_new wr (.cells #[.int .u8 k2, .string ⟨t2.toArray⟩, .int .i64 a2, .string ⟨s2.toArray⟩] 96 (0, 0))
          have hbw := below_then (below_then hb1 hb.2) hba
          have z1 : decide ((0 : Int) < (k : Int)) = true := by rw [decide_eq_true_eq]; omega
          have z1' : decide (0 < k) = true := by rw [decide_eq_true_eq]; omega
          have z2 : IntKind.i64.wrap ((k : Int) - 1) = (m : Int) := by rw [IntWalk.i64_in _ ⟨by omega, by omega⟩]; omega
          have Hm := hid hm
          clear hstep q hsx hsy hm
          go_wp2_with fail
          have hS : ∀ W, Cl (wr.alloc (.cells #[.int .u8 k2, .string ⟨t2.toArray⟩, .int .i64 a2, .string ⟨s2.toArray⟩] 96 (0, 0))).drew W → (W.cell? ⟨g, m * 4, none⟩ = some (.int .u8 k1) ∧ W.cell? ⟨g, m * 4 + 1, none⟩ = some (.string ⟨t1.toArray⟩) ∧ W.cell? ⟨g, m * 4 + 2, none⟩ = some (.int .i64 a1) ∧ W.cell? ⟨g, m * 4 + 3, none⟩ = some (.string ⟨s1.toArray⟩) ∧ W.cell? ⟨wr.heap.size, 0, none⟩ = some (.int .u8 k2) ∧ W.cell? ⟨wr.heap.size, 1, none⟩ = some (.string ⟨t2.toArray⟩) ∧ W.cell? ⟨wr.heap.size, 2, none⟩ = some (.int .i64 a2) ∧ W.cell? ⟨wr.heap.size, 3, none⟩ = some (.string ⟨s2.toArray⟩)) := fun W h => ⟨cell_later h.below (cell_later hba d0), cell_later h.below (cell_later hba d1), cell_later h.below (cell_later hba d2), cell_later h.below (cell_later hba d3), cell_later h.below (cell_heap hx0 0), cell_later h.below (cell_heap hx0 1), cell_later h.below (cell_heap hx0 2), cell_later h.below (cell_heap hx0 3)⟩
          clear d0 d1 d2 d3 c0 c1 c2 c3
          refine wp_region_mix [(0, 0), (1, 0), (2, 0), (3, 0), (4, 0), (5, 0), (6, 0), (7, 1), (8, 1), (9, 2), (10, 0)] (by kernel_rfl) (by kernel_rfl) ?_
          iterate 9 (first
            | (refine wpM_skip rfl (by rfl) (by decide) ?_; simp only [Act.put, List.setIfInBounds_toArray, List.set_cons_zero, List.set_cons_succ])
            | (refine wpM_take rfl (by rfl) (v := ?_) ?_ ?_; rotate_left; (· (intro w'; go_simp; first | done | with_reducible rfl | (rw [if_neg (by first | omega | (simp; omega))]; try with_reducible rfl))); simp only [Act.put, List.setIfInBounds_toArray, List.set_cons_zero, List.set_cons_succ])
            | (refine wpM_load hS rfl (by rfl) (v := ?_) ?_ ?_; rotate_left; (· (intro w' hw'; go_split_ands; go_simp; try with_reducible rfl)); simp only [Act.put, List.setIfInBounds_toArray, List.set_cons_zero, List.set_cons_succ])
            | fail)
          refine wpM_call rfl (by rfl) (fun K hK W hW => ?_)
          go_simp
          refine (HAp.out _ (below_then hbw.drew hW.below)).mono ?_
          rintro e w4 ⟨rfl, hb4⟩
          go_simp
          refine ⟨cl_iff.2 hb4, hK _ _ ?_⟩
          clear hK K
          try simp only [Act.put, List.setIfInBounds_toArray, List.set_cons_zero, List.set_cons_succ]
          iterate 1 (first
            | (refine wpM_skip rfl (by rfl) (by decide) ?_; simp only [Act.put, List.setIfInBounds_toArray, List.set_cons_zero, List.set_cons_succ])
            | (refine wpM_take rfl (by rfl) (v := ?_) ?_ ?_; rotate_left; (· (intro w'; go_simp; first | done | with_reducible rfl | (rw [if_neg (by first | omega | (simp; omega))]; try with_reducible rfl))); simp only [Act.put, List.setIfInBounds_toArray, List.set_cons_zero, List.set_cons_succ])
            | fail)
          refine wpM_done fun W' hW' => ?_
          have hbx := below_then (below_then (below_then (Below.refl _ _).drew hW.below) hb4) hW'.below
          have hb5 := hb2.later hbx
          have hx5 := heap_later hbx hx0
          have e3 : W'.cell? ⟨wr.heap.size, 3, none⟩ = some (.string ⟨s2.toArray⟩) := cell_heap hx5 3
          cases ap with
          | true =>
            have hW1 := hid (hb5.writeFar (by omega) 32 hx5 (BFar.of hb (below_then hba hbx) (Nat.le_refl _)))
            go_wp2_with fail
            refine hW1.out.mono ?_
            rintro e w5 ⟨rfl, hb6, hx6⟩
            have hW2 := hid (hb6.writeStr ⟨s2.toArray⟩ (by rw [ByteArray.size_append]; have e1 : (⟨#[32]⟩ : ByteArray).size = 1 := rfl; omega))
            have e4 : w5.cell? ⟨wr.heap.size, 3, none⟩ = some (.string ⟨s2.toArray⟩) := cell_heap hx6 3
            go_wp2_with fail
            refine hW2.out.mono ?_
            rintro e w6 ⟨rfl, hb7⟩
            go_wp2_with fail
            go_roundw
            case rel => exact ⟨k + 1, _, by go_num, by omega, hb7, by rw [app_data, app_data, Hstep.out, List.append_assoc]; rfl, by rw [ByteArray.size_append, ByteArray.size_append, hsz1]; have e1 : (⟨#[32]⟩ : ByteArray).size = 1 := rfl; omega⟩
            case measure => simp [intOf]; omega
          | false =>
            have hW2 := hid (hb5.writeStr ⟨s2.toArray⟩ (by omega))
            go_wp2_with fail
            refine hW2.out.mono ?_
            rintro e w5 ⟨rfl, hb6⟩
            go_wp2_with fail
            go_roundw
            case rel => exact ⟨k + 1, _, by go_num, by omega, hb6, by rw [app_data, Hstep.out]; rfl, by rw [ByteArray.size_append, hsz1]; omega⟩
            case measure => simp [intOf]; omega
      · have hkn : k = n := by omega
        have htk : l.take k = l := List.take_of_length_le (by rw [Hn.out]; omega)
        rw [htk] at hob
        have hL := hid hb.len
        have hb2 := below_then hb1 hb.2
        have Hob := hid hob
        subst hkn
        have hobl : ob.size = (textOf (l.map kt)).length := by rw [← hob]; simp
        clear hob htk
        by_cases h3 : 3000 < ob.size
        · have hr2 : r = ([], 5) := by rw [Hr.out, if_pos (by omega)]
          subst hr2
          have z1 : decide ((3000 : Int) < (ob.size : Int)) = true := by rw [decide_eq_true_eq]; omega
          clear hobl
          go_wp2_with (go_at_call 70; refine hL.out.mono ?_; rintro e w2 ⟨rfl, rfl⟩)
          go_ret2
          exact ⟨rfl, hb2⟩
        · have hr2 : r = (ob.data.toList, 0) := by rw [Hr.out, if_neg (by omega), Hob.out]
          subst hr2
          have z1 : decide ((3000 : Int) < (ob.size : Int)) = false := by rw [decide_eq_false_iff_not]; omega
          have hS := hid hb.str
          clear hobl
          go_wp2_with (first | (go_at_call 70; refine hL.out.mono ?_; rintro e w2 ⟨rfl, rfl⟩) | (go_at_call 58; refine hS.out.mono ?_; rintro e w2 ⟨rfl, hf2⟩))
          go_ret2
          exact ⟨by rw [show (⟨ob.data.toList.toArray⟩ : ByteArray) = ob from (ba_eta ob).symm]; rfl, below_then hb1 hf2.2⟩
  · have hr2 : r = ([], lspellAll l) := by rw [hr, if_pos h0]
    subst hr2
    have HA2 := HA.mono (R' := fun e w' => e = .returned (.tuple #[.slice none 0 0, .int .i64 (lspellAll l)]) ∧ Below w.heap.size w w') (fun e w' ⟨h, hb⟩ => by
      rcases h with ⟨h, _⟩ | ⟨_, h⟩
      · exact absurd h h0
      · exact ⟨h, hb⟩)
    have HA2 := hid HA2
    generalize lspellAll l = se at *
    have h0' : ((se : Int) != 0) = true := by rw [bne_iff_ne]; omega
    clear hr HA
    go_enter Tryz.func39, Tryz.ntmps39
    go_wp2_with fail
    refine HA2.out.mono ?_
    rintro e w1 ⟨rfl, hb1⟩
    go_wp2_with fail
    go_ret2
    exact ⟨rfl, hb1⟩
end Go.Proofs.YthknlifmkjdoeaaGreatDoor
