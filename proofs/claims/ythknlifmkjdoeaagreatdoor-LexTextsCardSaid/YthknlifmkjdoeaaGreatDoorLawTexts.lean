/-
  LexTexts: the law's walk.
-/
import Derived.Test.YthknlifmkjdoeaaGreatDoorToksOf
import Derived.Test.YthknlifmkjdoeaaGreatDoorRNestW
import Derived.Test.YthknlifmkjdoeaaGreatDoorLawOwn
namespace Go.Proofs.YthknlifmkjdoeaaGreatDoor
open Go.RowKit Lode Go.Shelf
attribute [local go_sem ↓] Go.wp_at_zero Go.wp_at_succ
theorem OSl.later {w w' : World} {v : Value} {l : List Tok} (h : OSl w v l) (hb : Below w.heap.size w w') : OSl w' v l := by
  obtain ⟨p, cap, hv, h⟩ := h
  refine ⟨p, cap, hv, h.imp id fun ⟨g, off, hp, hc⟩ => ⟨g, off, hp, fun j hj => ?_⟩⟩
  obtain ⟨a, b, c⟩ := hc j hj
  exact ⟨cell_later hb a, cell_later hb b, cell_later hb c⟩
theorem vast_no {l : List Tok} (h : vastB l = false) : l.length ≤ 1400 ∧ ∀ t ∈ l, t.text.length ≤ 80 := by
  unfold vastB at h
  simp only [Bool.or_eq_false_iff, decide_eq_false_iff_not, List.any_eq_false, decide_eq_true_eq] at h
  exact ⟨by omega, fun t ht => by have := h.2 t ht; omega⟩
theorem nest_isl {r : List Int × Nat} {e : Ending} {w' : World} (h : (r.2 = 0 ∧ ∃ g, e = .returned (.tuple #[.slice (some ⟨g, 0, none⟩) r.1.length r.1.length, .int .i64 0]) ∧ w'.heap[g]? = some (.cells (ints r.1).toArray 3 (0, 0))) ∨ (r.2 ≠ 0 ∧ r.1 = [] ∧ e = .returned (.tuple #[.slice none 0 0, .int .i64 r.2]))) : ∃ v, ISl w' v r.1 ∧ e = .returned (.tuple #[v, .int .i64 r.2]) := by
  rcases h with ⟨h0, g, he, hg⟩ | ⟨_, h1, he⟩
  · refine ⟨_, ⟨some ⟨g, 0, none⟩, r.1.length, rfl, .inr ⟨g, rfl, fun j z hz => ?_⟩⟩, by rw [h0]; exact he⟩
    rw [cell_heap hg j, List.getElem?_toArray, ints, List.getElem?_map, hz]; rfl
  · exact ⟨_, by rw [h1]; exact isl_nil _, he⟩
theorem nest_len (l : List Tok) : (nest l).1.length ≤ l.length := by
  unfold nest
  split
  · simp
  · cases h : nestAt l l.length with
    | none => simp
    | some x =>
      obtain ⟨out, op⟩ := x
      simp only
      split
      · exact Nat.le_of_eq (nestAt_inv _ out op (Nat.le_refl _) h).len
      · simp
set_option maxHeartbeats 20000000 in
set_option maxRecDepth 100000 in
theorem law_texts (v : Value) (w : World) (hv : ∃ l, OSl w v l ∧ ∀ c, v = .slice none 0 c → c = 0) (hG : Glob w) (mm : Int) (hm : w.cell? ⟨0, 0, none⟩ = some (.int .i64 mm)) : Calls Tryz.prog 14 #[v] w fun e w' => e = .returned (.bool true) ∧ Below w.heap.size w w' := by
  have HK := hid (fun (W : World) (hb : Below w.heap.size w W) => known_any W (hG.later hb))
  obtain ⟨l, hl, hnil⟩ := hv
  have HV := hid (kvast_any v l w hl)
  cases hvast : vastB l with
  | true =>
    rw [hvast] at HV
    clear hl hnil hG hm
    go_enter Tryz.func14, Tryz.ntmps14
    go_wp2_with fail
    refine HV.out.mono ?_
    rintro e w1 ⟨rfl, hb1⟩
    go_wp2_with fail
    refine (HK.out _ hb1).mono ?_
    rintro e wk ⟨rfl, hbk⟩
    go_wp2_with fail
    go_ret
    exact ⟨rfl, below_then hb1 hbk⟩
  | false =>
    rw [hvast] at HV
    obtain ⟨hlen, htx⟩ := vast_no hvast
    have HT := hid (fun (v : Value) (W : World) (hv : TSl W v l) (hb : Below w.heap.size w W) => ltext_any v l W hv (by omega) (fun t ht => Nat.le_trans (htx t ht) (by omega)) (hG.later hb))
    have HN := hid (fun (v : Value) (W : World) (hv : TSl W v l) (hb : Below w.heap.size w W) => lnest_any v l W hv (by omega) (fun t ht => Nat.le_trans (htx t ht) (by omega)) (hG.later hb) mm (cell_later hb hm))
    have HL := hid hl
    have HRT := hid (fun (W : World) (hb : Below w.heap.size w W) => rtext_any v l W (hl.later hb) (by omega) (fun t ht => Nat.le_trans (htx t ht) (by omega)))
    have HRN := hid (fun (W : World) (hb : Below w.heap.size w W) => rnest_any v l W (hl.later hb) (by omega) (fun t ht => Nat.le_trans (htx t ht) (by omega)))
    have hNl := hid (Nat.le_trans (nest_len l) hlen)
    clear hvast htx hG hm
    obtain ⟨i0, hi, hz0, hz1, hz2⟩ := info_parts Tryz.infoTok
    have Hi := hid (And.intro hi (And.intro hz0 (And.intro hz1 hz2)))
    clear hi hz0 hz1 hz2
    obtain ⟨p, cap, rfl, h⟩ := hl
    have fin : ∀ (w1 : World) (hb1 : Below w.heap.size w w1) (v' : Value) (w' : World), w'.ownsRow w1.heap.size 46 3 v' (0 + l.length) ([] ++ tokCells l) → (w1.alloc (.cells #[] 46 (0, 0))).grownBy w' (Value.slice (some ⟨w1.heap.size, 0, none⟩) 0 0).ownBlock → Toks w' w1.heap.size v' l ∧ Below w.heap.size w w' := fun w1 hb1 v' w' h1 h2 => by
      rw [Nat.zero_add, List.nil_append] at h1
      have hown : (w1.alloc (.cells #[] 46 (0, 0))).ownsRow w1.heap.size 46 3 (.slice (some ⟨w1.heap.size, 0, none⟩) 0 0) 0 [] :=
        ⟨rfl, .inr ⟨w1.heap.size, 0, #[], rfl, Nat.le_refl _, heap_new _ _, Nat.le_refl _, Nat.zero_le _, rfl, rfl⟩⟩
      exact ⟨h1, below_then hb1 (below_grown (below_alloc w1 _) hown h2)⟩
    have Fin := hid fin
    clear fin
    have hownA := hid (fun (w1 : World) => (show (w1.alloc (.cells #[] 46 (0, 0))).ownsRow w1.heap.size 46 3 (.slice (some ⟨w1.heap.size, 0, none⟩) 0 0) 0 [] from
        ⟨rfl, .inr ⟨w1.heap.size, 0, #[], rfl, Nat.le_refl _, heap_new _ _, Nat.le_refl _, Nat.zero_le _, rfl, rfl⟩⟩))
    by_cases hl0 : l = []
    · cases p with
      | none =>
        subst hl0
        have hc0 := hnil cap rfl
        subst hc0
        clear h hnil
        go_enter Tryz.func14, Tryz.ntmps14
        go_wp2_with fail
        refine HV.out.mono ?_
        rintro e w1 ⟨rfl, hb1⟩
        have hown := hownA.out w1
        go_wp2_with (at_builtin; refine wpList_append_own_none rfl _ _ 33 rfl w1.heap.size 46 i0 3 Tryz.underlying33 Hi.out.1 _ 0 [] rfl hown rfl ?_)
        have hb3 := below_then hb1 (below_alloc w1 (.cells #[] 46 (0, 0)))
        obtain ⟨v3, hv3⟩ : ∃ v3, v3 = Value.slice (some ⟨w1.heap.size, 0, none⟩) 0 0 := ⟨_, rfl⟩
        obtain ⟨w3, hw3⟩ : ∃ w3, w3 = w1.alloc (.cells #[] 46 (0, 0)) := ⟨_, rfl⟩
        have ht3 : Toks w3 w1.heap.size v3 [] := by rw [hv3, hw3]; exact hown
        rw [← hw3] at hb3
        rw [← hw3, ← hv3]
        clear hw3 hv3 hown
        go_wp2_with fail
        have Ht3 := hid ht3
        have hT3 := hid (HT.out v3 w3 ht3.sl hb3)
        have hN3 := hid (fun (W : World) (h : Below w3.heap.size w3 W) => HN.out v3 W (ht3.below h).sl (below_then hb3 h))
        clear ht3
        refine hT3.out.mono ?_
        rintro e4 w4 ⟨rfl, hb4⟩
        go_wp2_with fail
        refine (hN3.out _ hb4).mono ?_
        rintro e5 w5 ⟨hp5, hb5⟩
        have hp5 := nest_isl hp5
        obtain ⟨v5, hi5, rfl⟩ := hp5
        have hi5 := hid hi5
        have hb5 := below_then hb4 hb5
        have hb5w := below_then hb3 hb5
        go_wp2_with fail
        refine (HRT.out _ hb5w).mono ?_
        rintro e6 w6 ⟨rfl, hb6⟩
        have hb6w := below_then hb5w hb6
        go_wp2_with fail
        refine (HRN.out _ hb6w).mono ?_
        rintro e7 w7 ⟨⟨v7, hi7, rfl⟩, hb7⟩
        have hi7 := hid hi7
        have hb7w := below_then hb6w hb7
        have hb37 := below_then hb5 (below_then hb6 hb7)
        have hS := hid (rsameO_any v3 _ (([] : List Tok)) (([] : List Tok)) w7 (Ht3.out.below hb37).sl.o (HL.out.later hb7w) (by omega))
        rw [decide_eq_true rfl] at hS
        have hi57 := hid (hi5.out.later (below_then hb6 hb7))
        generalize lText (([] : List Tok)) = T at *
        generalize nest (([] : List Tok)) = N at *
        obtain ⟨T1, T2⟩ := T
        obtain ⟨N1, N2⟩ := N
        simp only at hi57 hi7
        go_wp2_with fail
        refine hS.out.mono ?_
        rintro e8 w8 ⟨rfl, hb8⟩
        have hI := hid (rints_any v5 v7 N1 N1 w8 (hi57.out.later hb8) (hi7.out.later hb8) (by have := hNl.out; first | omega | (simp only at this; omega)))
        rw [decide_eq_true rfl] at hI
        have hb8w := below_then hb7w hb8
        go_wp2_with fail
        refine hI.out.mono ?_
        rintro e9 w9 ⟨rfl, hb9⟩
        have hb9w := below_then hb8w hb9
        go_wp2_with fail
        refine (HK.out _ hb9w).mono ?_
        rintro e wk ⟨rfl, hbk⟩
        go_wp2_with fail
        go_ret
        exact ⟨rfl, below_then hb9w hbk⟩
      | some ad =>
        subst hl0
        clear h hnil
        go_enter Tryz.func14, Tryz.ntmps14
        go_wp2_with fail
        refine HV.out.mono ?_
        rintro e w1 ⟨rfl, hb1⟩
        have hown := hownA.out w1
        go_wp2_with (at_builtin; refine wpList_append_own _ rfl _ _ 33 rfl w1.heap.size 46 i0 _ 3 32 Tryz.underlying33 Hi.out.1 Hi.out.2.1 Hi.out.2.2.1 Hi.out.2.2.2 rfl (by decide) _ 0 [] rfl hown ad 0 cap [] rfl rfl ?c1 ?c2 ?c3 ?c4 ?c5 ?_)
        case c1 => intro j u h; cases h
        case c2 => intro u hu; cases hu
        case c3 => exact Nat.zero_le _
        case c4 => omega
        case c5 => exact (below_alloc w1 _).size
        intro v3 w3 h1 h2 _
        obtain ⟨ht3, hb3⟩ := Fin.out w1 hb1 v3 w3 h1 h2
        clear h1 h2 hown
        go_wp2_with fail
        have Ht3 := hid ht3
        have hT3 := hid (HT.out v3 w3 ht3.sl hb3)
        have hN3 := hid (fun (W : World) (h : Below w3.heap.size w3 W) => HN.out v3 W (ht3.below h).sl (below_then hb3 h))
        clear ht3
        refine hT3.out.mono ?_
        rintro e4 w4 ⟨rfl, hb4⟩
        go_wp2_with fail
        refine (hN3.out _ hb4).mono ?_
        rintro e5 w5 ⟨hp5, hb5⟩
        have hp5 := nest_isl hp5
        obtain ⟨v5, hi5, rfl⟩ := hp5
        have hi5 := hid hi5
        have hb5 := below_then hb4 hb5
        have hb5w := below_then hb3 hb5
        go_wp2_with fail
        refine (HRT.out _ hb5w).mono ?_
        rintro e6 w6 ⟨rfl, hb6⟩
        have hb6w := below_then hb5w hb6
        go_wp2_with fail
        refine (HRN.out _ hb6w).mono ?_
        rintro e7 w7 ⟨⟨v7, hi7, rfl⟩, hb7⟩
        have hi7 := hid hi7
        have hb7w := below_then hb6w hb7
        have hb37 := below_then hb5 (below_then hb6 hb7)
        have hS := hid (rsameO_any v3 _ (([] : List Tok)) (([] : List Tok)) w7 (Ht3.out.below hb37).sl.o (HL.out.later hb7w) (by omega))
        rw [decide_eq_true rfl] at hS
        have hi57 := hid (hi5.out.later (below_then hb6 hb7))
        generalize lText (([] : List Tok)) = T at *
        generalize nest (([] : List Tok)) = N at *
        obtain ⟨T1, T2⟩ := T
        obtain ⟨N1, N2⟩ := N
        simp only at hi57 hi7
        go_wp2_with fail
        refine hS.out.mono ?_
        rintro e8 w8 ⟨rfl, hb8⟩
        have hI := hid (rints_any v5 v7 N1 N1 w8 (hi57.out.later hb8) (hi7.out.later hb8) (by have := hNl.out; first | omega | (simp only at this; omega)))
        rw [decide_eq_true rfl] at hI
        have hb8w := below_then hb7w hb8
        go_wp2_with fail
        refine hI.out.mono ?_
        rintro e9 w9 ⟨rfl, hb9⟩
        have hb9w := below_then hb8w hb9
        go_wp2_with fail
        refine (HK.out _ hb9w).mono ?_
        rintro e wk ⟨rfl, hbk⟩
        go_wp2_with fail
        go_ret
        exact ⟨rfl, below_then hb9w hbk⟩
    · obtain ⟨g, off, rfl, hc⟩ := h.resolve_left hl0
      have Hc := hid hc
      clear hc h hnil
      obtain ⟨n, hn⟩ : ∃ n, l.length = n := ⟨_, rfl⟩
      rw [hn] at HRT HRN HL HV ⊢
      go_enter Tryz.func14, Tryz.ntmps14
      go_wp2_with fail
      refine HV.out.mono ?_
      rintro e w1 ⟨rfl, hb1⟩
      have hown := hownA.out w1
      go_wp2_with (at_builtin; refine wpList_append_own _ rfl _ _ 33 rfl w1.heap.size 46 i0 _ 3 32 Tryz.underlying33 Hi.out.1 Hi.out.2.1 Hi.out.2.2.1 Hi.out.2.2.2 rfl (by decide) _ 0 [] rfl hown ⟨g, off, none⟩ n cap (tokCells l) rfl ?c0 ?c1 ?c2 ?c3 ?c4 ?c5 ?_)
      case c0 => rw [tokCells_length, hn]
      case c1 => exact fun j u hu => cell_later (below_then hb1 (below_alloc w1 _)) (ocells_at Hc.out j u hu)
      case c2 => exact tokCells_one l
      case c3 => unfold maxLen; omega
      case c4 => omega
      case c5 => exact (below_alloc w1 _).size
      intro v3 w3 h1 h2 _
      obtain ⟨ht3, hb3⟩ := Fin.out w1 hb1 v3 w3 (by first | exact h1 | (rw [hn, Nat.zero_add, List.nil_append]; exact h1) | (rw [Nat.zero_add, List.nil_append]; exact h1)) h2
      clear h1 h2 hown
      have Hn := hid hn
      clear hn
      go_wp2_with fail
      have Ht3 := hid ht3
      have hT3 := hid (HT.out v3 w3 ht3.sl hb3)
      have hN3 := hid (fun (W : World) (h : Below w3.heap.size w3 W) => HN.out v3 W (ht3.below h).sl (below_then hb3 h))
      clear ht3
      refine hT3.out.mono ?_
      rintro e4 w4 ⟨rfl, hb4⟩
      go_wp2_with fail
      refine (hN3.out _ hb4).mono ?_
      rintro e5 w5 ⟨hp5, hb5⟩
      have hp5 := nest_isl hp5
      obtain ⟨v5, hi5, rfl⟩ := hp5
      have hi5 := hid hi5
      have hb5 := below_then hb4 hb5
      have hb5w := below_then hb3 hb5
      go_wp2_with fail
      refine (HRT.out _ hb5w).mono ?_
      rintro e6 w6 ⟨rfl, hb6⟩
      have hb6w := below_then hb5w hb6
      go_wp2_with fail
      refine (HRN.out _ hb6w).mono ?_
      rintro e7 w7 ⟨⟨v7, hi7, rfl⟩, hb7⟩
      have hi7 := hid hi7
      have hb7w := below_then hb6w hb7
      have hb37 := below_then hb5 (below_then hb6 hb7)
      have hS := hid (rsameO_any v3 _ (l) (l) w7 (Ht3.out.below hb37).sl.o (HL.out.later hb7w) (by omega))
      rw [decide_eq_true rfl] at hS
      have hi57 := hid (hi5.out.later (below_then hb6 hb7))
      generalize lText (l) = T at *
      generalize nest (l) = N at *
      obtain ⟨T1, T2⟩ := T
      obtain ⟨N1, N2⟩ := N
      simp only at hi57 hi7
      go_wp2_with fail
      refine hS.out.mono ?_
      rintro e8 w8 ⟨rfl, hb8⟩
      have hI := hid (rints_any v5 v7 N1 N1 w8 (hi57.out.later hb8) (hi7.out.later hb8) (by have := hNl.out; first | omega | (simp only at this; omega)))
      rw [decide_eq_true rfl] at hI
      have hb8w := below_then hb7w hb8
      go_wp2_with fail
      refine hI.out.mono ?_
      rintro e9 w9 ⟨rfl, hb9⟩
      have hb9w := below_then hb8w hb9
      go_wp2_with fail
      refine (HK.out _ hb9w).mono ?_
      rintro e wk ⟨rfl, hbk⟩
      go_wp2_with fail
      go_ret
      exact ⟨rfl, below_then hb9w hbk⟩
end Go.Proofs.YthknlifmkjdoeaaGreatDoor
