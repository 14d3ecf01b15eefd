/-
  THE REFERENCE'S Text.
-/
import Derived.Test.YthknlifmkjdoeaaGreatDoorTextW
import Derived.Test.YthknlifmkjdoeaaGreatDoorRefN
import Derived.Test.YthknlifmkjdoeaaGreatDoorLawSpells
namespace Go.Proofs.YthknlifmkjdoeaaGreatDoor
open Go.RowKit Lode Go.Shelf
attribute [local go_sem ↓] Go.wp_at_zero Go.wp_at_succ
theorem rApart_sp {x y : Nat × List UInt8} (hx : spelt x) (hy : spelt y) : rApart x y = (apartK x y, 0) := by
  have h1 := hx.eq
  have h2 := hy.eq
  have h3 := rapart_eq hx hy
  unfold rApart
  rw [h1, h2]
  simp only [ne_eq, not_true, if_false]
  rw [h3]
theorem spellAll_bad {l : List Tok} (hl : l.length ≤ 1200) {t : Tok} (ht : t ∈ l) (h : ¬ spelt (kt t)) : lspellAll l = 4 := by
  unfold lspellAll
  rw [if_neg (by omega), if_neg]
  intro h2
  rw [List.all_eq_true] at h2
  have := h2 t ht
  apply h
  simpa [okSp, spelt, kt] using this
theorem rspell_cases (x : Nat × List UInt8) : (spelt x ∧ rspell x.1 x.2 = (spl x, 0)) ∨ (¬ spelt x ∧ ∃ T, rspell x.1 x.2 = (T, 4)) := by
  by_cases h : spelt x
  · exact .inl ⟨h, h.eq⟩
  · refine .inr ⟨h, (rspell x.1 x.2).1, ?_⟩
    have h1 : (rspell x.1 x.2).2 ≠ 0 := fun e => h (by unfold spelt; rw [lspell_eq]; exact e)
    have h2 := (rspell_err x.1 x.2).resolve_left h1
    exact Prod.ext rfl h2
def RtRel (l : List Tok) (n : Nat) (w : World) (o i : Value) (wr : World) : Prop := ∃ (k : Nat) (ob : ByteArray), o = .string ob ∧ i = .int .i64 k ∧ k ≤ n ∧ Hid (ob.data.toList = textOf ((l.take k).map kt)) ∧ ob.size ≤ 1000 * k ∧ Hid (∀ x ∈ (l.take k).map kt, spelt x) ∧ Below w.heap.size w wr
set_option maxHeartbeats 4000000 in
set_option maxRecDepth 100000 in
theorem rtext_any (v : Value) (l : List Tok) (w : World) (hv : OSl w v l) (hl : l.length ≤ 1000000) (ht : ∀ t ∈ l, t.text.length ≤ 100000000) :
    Calls Tryz.prog 42 #[v] w (LtPost (lText l) w) := by
  obtain ⟨p0, cp0, rfl, hcells⟩ := hv
  generalize hr : lText l = r
  replace hr := hr.symm
  by_cases hbig : 1200 < l.length
  · have hr2 : r = ([], 5) := by
      have h5 : lspellAll l = 5 := by unfold lspellAll; rw [if_pos hbig]
      rw [hr, lText, h5]; rfl
    subst hr2
    clear hcells hr ht
    go_enter Tryz.func42, Tryz.ntmps42
    go_wp2_with fail
    go_ret2
    exact ⟨rfl, Below.refl _ _⟩
  have HSp := hid (fun (k : Nat) (t : List UInt8) (a : Int) (W : World) (h : t.length ≤ 100000000) => rspell_s' k t a W (by omega))
  have HAp := hid (fun (k1 : Nat) (t1 : List UInt8) (a1 : Int) (k2 : Nat) (t2 : List UInt8) (a2 : Int) (W : World) (h1 : spelt (k1, t1)) (h2 : spelt (k2, t2)) => (show Calls Tryz.prog 37 #[.agg #[.int .u8 k1, .string ⟨t1.toArray⟩, .int .i64 a1], .agg #[.int .u8 k2, .string ⟨t2.toArray⟩, .int .i64 a2]] W (fun e w' => e = .returned (.tuple #[.bool (apartK (k1, t1) (k2, t2)), .int .i64 0]) ∧ Below W.heap.size W w') from by
    have := rapart_any k1 t1 a1 k2 t2 a2 W (Nat.le_trans (spelt_text_len h1) (by omega)) (Nat.le_trans (spelt_text_len h2) (by omega))
    rw [rApart_sp h1 h2] at this
    exact this))
  have HC := hid hcells
  have HT := hid ht
  have Hr := hid hr
  obtain ⟨n, hn⟩ : ∃ n, l.length = n := ⟨_, rfl⟩
  rw [hn] at hbig ⊢
  have Hn := hid hn
  clear hcells ht hr hn hl
  go_enter Tryz.func42, Tryz.ntmps42
  go_wp2_with fail
  go_loopw [4, 5] (RtRel l n w) (fun _ i _ => n - (intOf i).toNat)
  case atStart => exact ⟨0, ByteArray.empty, rfl, rfl, by omega, hid (by simp [textOf]), by decide, hid (by simp), Below.refl _ _⟩
  case round =>
    obtain ⟨k, ob, rfl, rfl, hk, hob, hsz, hsp, hb⟩ := hrel
    by_cases hlt : k < n
    · have hkl : k < l.length := by rw [Hn.out]; exact hlt
      have hl0 : l ≠ [] := fun e => by rw [e] at hkl; simp at hkl
      obtain ⟨g, off, rfl, q⟩ := HC.out.resolve_left hl0
      obtain ⟨i0, i1, i2⟩ := q k hkl
      have c0 := cell_later hb i0
      have c1 := cell_later hb i1
      have c2 := cell_later hb i2
      have htk := List.take_append_getElem hkl
      have hstep := text_snoc ((l.take k).map kt) (kt l[k])
      rw [show (l.take k).map kt ++ [kt l[k]] = (l.take (k + 1)).map kt from by rw [← htk, List.map_append]; rfl, ← hob.out] at hstep
      have hlen := HT.out l[k] (List.getElem_mem _)
      have hmem : l[k] ∈ l := List.getElem_mem _
      have hspS : spelt (kt l[k]) → ∀ x ∈ (l.take (k + 1)).map kt, spelt x := fun h x hx => by
        rw [← htk, List.map_append, List.mem_append] at hx
        rcases hx with hx | hx
        · exact hsp.out x hx
        · simp only [List.map_cons, List.map_nil, List.mem_singleton] at hx
          rw [hx]; exact h
      have hsep0 : k = 0 → sepOf ((l.take k).map kt) (kt l[k]) = [] := fun e => by subst e; rfl
      have hprev : ∀ m (hm : m + 1 = k), ∃ y : Tok, sepOf ((l.take k).map kt) (kt l[k]) = cond (apartK (kt y) (kt l[k])) [32] [] ∧ spelt (kt y) ∧ wr.cell? ⟨g, off + m * 3, none⟩ = some (.int .u8 y.kind) ∧ wr.cell? ⟨g, off + m * 3 + 1, none⟩ = some (.string ⟨y.text.toArray⟩) ∧ wr.cell? ⟨g, off + m * 3 + 2, none⟩ = some (.int .i64 y.at_) := fun m hm => by
        have hml : m < l.length := by omega
        obtain ⟨i0, i1, i2⟩ := q m hml
        have e1 : (l.take k).map kt = (l.take m).map kt ++ [kt l[m]] := by rw [← hm, ← List.take_append_getElem hml, List.map_append]; rfl
        refine ⟨l[m], ?_, hsp.out _ (by rw [e1]; simp), cell_later hb i0, cell_later hb i1, cell_later hb i2⟩
        unfold sepOf
        rw [e1, List.getLast?_concat]
        cases h9 : apartK (kt l[m]) (kt l[k]) <;> simp [h9]
      clear i0 i1 i2 q hl0 htk
      generalize l[k] = x at *
      obtain ⟨k1, t1, a1⟩ := x
      simp only [kt] at c0 c1 c2 hlen hstep hspS hsep0 hprev
      rcases rspell_cases (k1, t1) with ⟨hs, he⟩ | ⟨hs, T, he⟩
      · have hS := hid (fun (W : World) => HSp.out k1 t1 a1 W hlen)
        simp only at he
        rw [he] at hS
        have hsl := spelt_len hs
        have hspN := hid (hspS hs)
        have Hstep := hid hstep
        clear hstep hspS he
        generalize hS9 : spl (k1, t1) = S at *
        have hsz1 : (⟨S.toArray⟩ : ByteArray).size = S.length := rfl
        by_cases hk0 : k = 0
        · have hsep := hsep0 hk0
          rw [hsep, List.nil_append] at Hstep
          have z1 : decide ((0 : Int) < (k : Int)) = false := by rw [decide_eq_false_iff_not]; omega
          have z2 : decide (0 < k) = false := by rw [decide_eq_false_iff_not]; omega
          have hz : ¬ (9223372036854775807 < ob.size + S.length) := by omega
          have Hk0 := hid hk0
          clear hsep hsep0 hprev hk0 hS9
          go_wp2_with fail
          refine (hS.out _).mono ?_
          rintro e1 w1 ⟨rfl, hb1⟩
          have hb2 := below_then hb hb1
          go_wp2_with fail
          go_roundw
          case rel => exact ⟨k + 1, ob ++ ⟨S.toArray⟩, rfl, by go_num, by omega, hid (by rw [app_data, Hstep.out]), by rw [ByteArray.size_append, hsz1]; omega, hspN, hb2⟩
          case measure => simp [intOf]; omega
        · obtain ⟨m, hm⟩ : ∃ m, m + 1 = k := ⟨k - 1, by omega⟩
          obtain ⟨⟨k0, t0, a0⟩, hy1, hy2, d0, d1, d2⟩ := hprev m hm
          simp only at hy1 hy2 d0 d1 d2
          have hA2 := hid (fun (W : World) => HAp.out k0 t0 a0 k1 t1 a1 W hy2 hs)
          rw [hy1] at Hstep
          have z1 : decide ((0 : Int) < (k : Int)) = true := by rw [decide_eq_true_eq]; omega
          have z2 : decide (0 < k) = true := by rw [decide_eq_true_eq]; omega
          have y2 : IntKind.i64.wrap ((k : Int) - 1) = (m : Int) := by rw [IntWalk.i64_in _ ⟨by omega, by omega⟩]; omega
          have hmn : m < n := by omega
          have hz : ¬ (9223372036854775807 < ob.size + S.length) := by omega
          have hz1 : ¬ (9223372036854775807 < ob.size + 1) := by omega
          have hz2 : ¬ (9223372036854775807 < ob.size + 1 + S.length) := by omega
          have Hm := hid hm
          clear hprev hk0 hm hy1 hsep0 hS9
          go_wp2_with fail
          refine (hS.out _).mono ?_
          rintro e4 w4 ⟨rfl, hb4⟩
          replace c0 := cell_later hb4 c0
          replace c1 := cell_later hb4 c1
          replace c2 := cell_later hb4 c2
          replace d0 := cell_later hb4 d0
          replace d1 := cell_later hb4 d1
          replace d2 := cell_later hb4 d2
          go_wp2_with fail
          have hS2 : ∀ W, Cl w4.drew W → (W.cell? ⟨g, off + m * 3, none⟩ = some (.int .u8 k0) ∧ W.cell? ⟨g, off + m * 3 + 1, none⟩ = some (.string ⟨t0.toArray⟩) ∧ W.cell? ⟨g, off + m * 3 + 2, none⟩ = some (.int .i64 a0) ∧ W.cell? ⟨g, off + k * 3, none⟩ = some (.int .u8 k1) ∧ W.cell? ⟨g, off + k * 3 + 1, none⟩ = some (.string ⟨t1.toArray⟩) ∧ W.cell? ⟨g, off + k * 3 + 2, none⟩ = some (.int .i64 a1)) := fun W h => ⟨cell_later h.below d0, cell_later h.below d1, cell_later h.below d2, cell_later h.below c0, cell_later h.below c1, cell_later h.below c2⟩
          clear c0 c1 c2 d0 d1 d2 hS
          have hS := hS2
          clear hS2
          refine wp_region_mix [(0, 0), (1, 0), (2, 0), (3, 0), (4, 1), (5, 0), (6, 0), (7, 0), (8, 1), (9, 2), (10, 0), (11, 0), (12, 0), (13, 0), (14, 0)] (by kernel_rfl) (by kernel_rfl) ?_
          iterate 9 (first
            | (refine wpM_skip rfl (by rfl) (by decide) ?_; simp only [Act.put, List.setIfInBounds_toArray, List.set_cons_zero, List.set_cons_succ])
            | (refine wpM_take rfl (by rfl) (v := ?_) ?_ ?_; rotate_left; (· (intro w'; go_simp; first | done | with_reducible rfl | (rw [if_neg (by first | omega | (simp; omega))]; try with_reducible rfl) | (rw [if_pos (by omega)]; try with_reducible rfl))); simp only [Act.put, List.setIfInBounds_toArray, List.set_cons_zero, List.set_cons_succ])
            | (refine wpM_load hS rfl (by rfl) (v := ?_) ?_ ?_; rotate_left; (· (intro w' hw'; go_split_ands; go_simp; try with_reducible rfl)); simp only [Act.put, List.setIfInBounds_toArray, List.set_cons_zero, List.set_cons_succ])
            | fail)
          refine wpM_call rfl (by rfl) (fun K hK W hW => ?_)
          go_simp
          have hbW : Below wr.heap.size wr W := below_then hb4.drew hW.below
          refine (hA2.out _).mono ?_
          rintro e5 w5 ⟨rfl, hb5⟩
          go_simp
          refine ⟨cl_iff.2 hb5, hK _ _ ?_⟩
          clear hK K hS
          try simp only [Act.put, List.setIfInBounds_toArray, List.set_cons_zero, List.set_cons_succ]
          iterate 5 (first
            | (refine wpM_skip rfl (by rfl) (by decide) ?_; simp only [Act.put, List.setIfInBounds_toArray, List.set_cons_zero, List.set_cons_succ])
            | (refine wpM_take rfl (by rfl) (v := ?_) ?_ ?_; rotate_left; (· (intro w'; go_simp; first | done | with_reducible rfl | (rw [if_neg (by first | omega | (simp; omega))]; try with_reducible rfl))); simp only [Act.put, List.setIfInBounds_toArray, List.set_cons_zero, List.set_cons_succ])
            | fail)
          refine wpM_done fun W' hW' => ?_
          have hbz := below_then hb (below_then (below_then hbW hb5) hW'.below)
          generalize apartK (k0, t0) (k1, t1) = ap at *
          cases ap with
          | true =>
            go_wp2_with fail
            go_roundw
            case rel => exact ⟨k + 1, ob ++ ⟨#[32]⟩ ++ ⟨S.toArray⟩, rfl, by go_num, by omega, hid (by rw [app_data, app_data, Hstep.out, List.append_assoc]; rfl), by rw [ByteArray.size_append, ByteArray.size_append, hsz1]; have e1 : (⟨#[32]⟩ : ByteArray).size = 1 := rfl; omega, hspN, hbz⟩
            case measure => simp [intOf]; omega
          | false =>
            go_wp2_with fail
            go_roundw
            case rel => exact ⟨k + 1, ob ++ ⟨S.toArray⟩, rfl, by go_num, by omega, hid (by rw [app_data, Hstep.out]; rfl), by rw [ByteArray.size_append, hsz1]; omega, hspN, hbz⟩
            case measure => simp [intOf]; omega
      · have hS := hid (fun (W : World) => HSp.out k1 t1 a1 W hlen)
        simp only at he
        rw [he] at hS
        have hn2 : Hid (r = ([], 4)) := hid (by
          have h4 := spellAll_bad (by rw [Hn.out]; omega) hmem hs
          rw [Hr.out, lText, h4]; rfl)
        clear hstep hspS he hprev hsep0 hs hmem
        go_wp2_with fail
        refine (hS.out _).mono ?_
        rintro e1 w1 ⟨rfl, hb1⟩
        go_wp2_with fail
        go_ret2
        exact ⟨by rw [hn2.out]; rfl, below_then hb hb1⟩
    · have hkn : k = n := by omega
      have htk : l.take k = l := List.take_of_length_le (by rw [Hn.out]; omega)
      rw [htk] at hob hsp
      have h0 := spellAll_of (by rw [Hn.out]; omega) hsp.out
      have hobl : ob.size = (textOf (l.map kt)).length := by rw [← hob.out]; simp
      by_cases h3 : 3000 < ob.size
      · have hn2 : Hid (r = ([], 5)) := hid (by rw [Hr.out, lText, h0, if_neg (by simp), if_pos (by omega)])
        have z1 : decide ((3000 : Int) < (ob.size : Int)) = true := by rw [decide_eq_true_eq]; omega
        clear hobl h0 htk
        go_wp2_with fail
        go_ret2
        exact ⟨by rw [hn2.out]; rfl, hb⟩
      · have hn2 : Hid (r = (ob.data.toList, 0)) := hid (by rw [Hr.out, lText, h0, if_neg (by simp), if_neg (by omega), hob.out])
        have z1 : decide ((3000 : Int) < (ob.size : Int)) = false := by rw [decide_eq_false_iff_not]; omega
        clear hobl h0 htk
        go_wp2_with fail
        go_ret2
        exact ⟨by rw [hn2.out, show (⟨ob.data.toList.toArray⟩ : ByteArray) = ob from (ba_eta ob).symm]; rfl, hb⟩
end Go.Proofs.YthknlifmkjdoeaaGreatDoor
