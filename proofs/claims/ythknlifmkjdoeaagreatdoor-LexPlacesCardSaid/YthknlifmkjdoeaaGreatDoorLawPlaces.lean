/-
  LexPlaces: the law's walk.
-/
import Derived.Test.YthknlifmkjdoeaaGreatDoorLexX
import Derived.Test.YthknlifmkjdoeaaGreatDoorRefL
import Derived.Test.YthknlifmkjdoeaaGreatDoorRegion
namespace Go.Proofs.YthknlifmkjdoeaaGreatDoor
open Go.RowKit Lode Go.Shelf
attribute [local go_sem ↓] Go.wp_at_zero Go.wp_at_succ
theorem offset_found {s : List UInt8} {ln col : Int} (h : (check s).2 = 0) (h2 : (offset s ln col).2 = 0) : (offset s ln col).1 ≤ s.length ∧ ((spot s (offset s ln col).1).1 : Int) = ln ∧ ((spot s (offset s ln col).1).2 : Int) = col := by
  have e : offset s ln col = offF ln col (1, 1) 0 s := by rw [offset, if_neg (by simp [h])]
  rw [e] at h2 ⊢
  have := offF_ok ln col s s 0 (by simp) (by omega) (offF ln col (1, 1) 0 s).1 (by rw [spot_zero]; exact Prod.ext rfl h2)
  exact this
theorem offset_err {s : List UInt8} {ln col : Int} (h : (check s).2 ≠ 0) : (offset s ln col).2 = (check s).2 := by rw [offset, if_pos h]
set_option maxHeartbeats 20000000 in
set_option maxRecDepth 100000 in
theorem law_places (s : ByteArray) (a ln col : Int) (w : World) (hG : Glob w) : Calls Tryz.prog 3 #[.string s, .int .i64 a, .agg #[.int .i64 ln, .int .i64 col]] w fun e w' => e = .returned (.bool true) ∧ Below w.heap.size w w' := by
  have HK := hid (fun (W : World) (hb : Below w.heap.size w W) => known_any W (hG.later hb))
  have hbw := below_alloc w (.cells #[.int .i64 ln, .int .i64 col] 23 (0, 0))
  have m0 := heap_new w (.cells #[.int .i64 ln, .int .i64 col] 23 (0, 0))
  clear hG
  by_cases hbig : 4000 < s.size
  · go_enter Tryz.func3, Tryz.ntmps3
    go_wp2_with (go_at_call 15; refine (HK.out _ hbw).mono ?_; rintro e w1 ⟨rfl, hb1⟩)
    go_ret
    exact ⟨rfl, below_then hbw hb1⟩
  have H1 := hid (fun (W : World) => check_any s W (by omega))
  have H2 := hid (fun (W : World) => lplace_any s a W (by omega))
  have H3 := hid (fun (W : World) => loffset_any s ln col W (by omega))
  have H4 := hid (fun (W : World) => rcheck_any s W (by omega))
  have H5 := hid (fun (W : World) => rplace_any s a W (by omega))
  have H6 := hid (fun (W : World) => roffset_any s ln col W (by omega))
  have H7 := hid (fun (k : Nat) (W : World) (hk : k ≤ s.size) => rspot_any s k W (by omega) hk)
  have hfo := @offset_found s.data.toList ln col
  have hfe := @offset_err s.data.toList ln col
  have hl : s.data.toList.length = s.size := by simp
  rw [hl] at hfo
  generalize place s.data.toList a = pl at *
  generalize offset s.data.toList ln col = of at *
  generalize check s.data.toList = c at *
  obtain ⟨ca, ce⟩ := c
  obtain ⟨⟨pa, pb⟩, pe⟩ := pl
  obtain ⟨oa, oe⟩ := of
  simp only at hfo hfe
  go_enter Tryz.func3, Tryz.ntmps3
  go_wp2_with fail
  refine (H1.out _).mono ?_
  rintro e w1 ⟨rfl, hb1⟩
  have hb := below_then hbw hb1
  have m1 := heap_later hb1 m0
  go_wp2_with fail
  refine (H2.out _).mono ?_
  rintro e w2 ⟨rfl, hb2⟩
  have hb := below_then hb hb2
  have m2 := heap_later hb2 m1
  have hb3 := below_alloc w2 (.cells #[.int .i64 pa, .int .i64 pb] 23 (0, 0))
  have hb := below_then hb hb3
  have m3 := heap_later hb3 m2
  have s3 := heap_new w2 (.cells #[.int .i64 pa, .int .i64 pb] 23 (0, 0))
  have c0 := cell_heap m3 0
  have c1 := cell_heap m3 1
  simp only [List.getElem?_toArray, List.getElem?_cons_zero, List.getElem?_cons_succ] at c0 c1
  have M3 := hid m3
  have S3 := hid s3
  clear m0 m1 m2 m3 s3
  go_wp2_with fail
  refine (H3.out _).mono ?_
  rintro e w4 ⟨rfl, hb4⟩
  have hb := below_then hb hb4
  have M4 := hid (heap_later hb4 M3.out)
  have S4 := hid (heap_later hb4 S3.out)
  clear c0 c1
  go_wp2_with fail
  refine (H4.out _).mono ?_
  rintro e w5 ⟨rfl, rfl⟩
  go_wp2_with fail
  refine (H5.out _).mono ?_
  rintro e w6 ⟨rfl, hb6⟩
  have hb := below_then hb hb6
  have hb7 := below_alloc w6 (.cells #[.int .i64 pa, .int .i64 pb] 23 (0, 0))
  have hb := below_then hb hb7
  have M7 := heap_later hb7 (heap_later hb6 M4.out)
  have S7 := heap_later hb7 (heap_later hb6 S4.out)
  have T7 := heap_new w6 (.cells #[.int .i64 pa, .int .i64 pb] 23 (0, 0))
  have c0 := cell_heap M7 0
  have c1 := cell_heap M7 1
  simp only [List.getElem?_toArray, List.getElem?_cons_zero, List.getElem?_cons_succ] at c0 c1
  have M7 := hid M7
  have S7 := hid S7
  have T7 := hid T7
  clear M3 S3 M4 S4 hb1 hb2 hb3 hb4 hb6 hb7
  by_cases h400 : s.size ≤ 400
  · go_wp2_with fail
    refine (H6.out _).mono ?_
    rintro e w8 ⟨rfl, hb8⟩
    have hb := below_then hb hb8
    have S8 := heap_later hb8 S7.out
    have T8 := heap_later hb8 T7.out
    have x0 := cell_heap S8 0
    have x1 := cell_heap S8 1
    have y0 := cell_heap T8 0
    have y1 := cell_heap T8 1
    simp only [List.getElem?_toArray, List.getElem?_cons_zero, List.getElem?_cons_succ] at x0 x1 y0 y1
    clear c0 c1 S8 T8
    go_wp2_with fail
    refine (HK.out _ hb).mono ?_
    rintro e w9 ⟨rfl, hb9⟩
    go_wp2_with fail
    go_ret
    exact ⟨rfl, below_then hb hb9⟩
  · clear H1 H2 H3 H4 H5 H6
    by_cases hce : ce = 0
    · subst hce
      by_cases hoe : oe = 0
      · subst hoe
        obtain ⟨hoa, h1, h2⟩ := hfo rfl rfl
        have HS := hid (fun (W : World) => H7.out oa W hoa)
        clear hfo hfe H7
        generalize spot s.data.toList oa = sp at *
        obtain ⟨p1, p2⟩ := sp
        simp only at h1 h2
        subst h1 h2
        have hoa0 : decide ((oa : Int) < 0) = false := by rw [decide_eq_false_iff_not]; omega
        have hoa1 : decide ((s.size : Int) < (oa : Int)) = false := by rw [decide_eq_false_iff_not]; omega
        have hoa2 : decide (s.size < oa) = false := by rw [decide_eq_false_iff_not]; omega
        go_wp2_with fail
        have hS : ∀ W, Cl (w6.alloc (.cells #[.int .i64 pa, .int .i64 pb] 23 (0, 0))).drew W → (W.cell? ⟨w.heap.size, 0, none⟩ = some (.int .i64 p1) ∧ W.cell? ⟨w.heap.size, 1, none⟩ = some (.int .i64 p2)) := fun W h => ⟨cell_later h.below c0, cell_later h.below c1⟩
        clear c0 c1
        refine wp_region_mix [(0, 0), (1, 0), (2, 0), (3, 0), (4, 0), (5, 0), (6, 0), (7, 0), (8, 0), (9, 0), (10, 0), (11, 0), (12, 0), (13, 0), (14, 0), (15, 0), (16, 0), (17, 0), (19, 1), (18, 2), (20, 0), (21, 0), (22, 0), (23, 0), (24, 0), (25, 0), (26, 0), (27, 0), (28, 0), (29, 0), (30, 0), (31, 0)] (by kernel_rfl) (by kernel_rfl) ?_
        iterate 19 (first
          | (refine wpM_skip rfl (by rfl) (by decide) ?_; simp only [Act.put, List.setIfInBounds_toArray, List.set_cons_zero, List.set_cons_succ])
          | (refine wpM_take rfl (by rfl) (v := ?_) ?_ ?_; rotate_left; (· (intro w'; go_simp; try with_reducible rfl)); simp only [Act.put, List.setIfInBounds_toArray, List.set_cons_zero, List.set_cons_succ])
          | (refine wpM_load hS rfl (by rfl) (v := ?_) ?_ ?_; rotate_left; (· (intro w' hw'; go_split_ands; go_simp; try with_reducible rfl)); simp only [Act.put, List.setIfInBounds_toArray, List.set_cons_zero, List.set_cons_succ])
                    | fail)
        refine wpM_call rfl (by rfl) (fun K hK W hW => ?_)
        go_simp
        refine (HS.out _).mono ?_
        rintro e w8 ⟨rfl, hb8⟩
        go_simp
        refine ⟨cl_iff.2 hb8, hK _ _ ?_⟩
        replace hS := fun W' h => hS W' (Cl.trans hW (Cl.trans (cl_iff.2 hb8) h))
        clear hK K
        try simp only [Act.put, List.setIfInBounds_toArray, List.set_cons_zero, List.set_cons_succ]
        iterate 12 (first
          | (refine wpM_skip rfl (by rfl) (by decide) ?_; simp only [Act.put, List.setIfInBounds_toArray, List.set_cons_zero, List.set_cons_succ])
          | (refine wpM_take rfl (by rfl) (v := ?_) ?_ ?_; rotate_left; (· (intro w'; go_simp; try with_reducible rfl)); simp only [Act.put, List.setIfInBounds_toArray, List.set_cons_zero, List.set_cons_succ])
          | (refine wpM_load hS rfl (by rfl) (v := ?_) ?_ ?_; rotate_left; (· (intro w' hw'; go_split_ands; go_simp; try with_reducible rfl)); simp only [Act.put, List.setIfInBounds_toArray, List.set_cons_zero, List.set_cons_succ])
                    | fail)
        refine wpM_done fun W' hW' => ?_
        have hb := below_then (below_then (below_then hb.drew hW.below) hb8) hW'.below
        have S8 := heap_later (below_then (below_then hW.below hb8) hW'.below) S7.out
        have T8 := heap_later (below_then (below_then hW.below hb8) hW'.below) T7.out
        have x0 := cell_heap S8 0
        have x1 := cell_heap S8 1
        have y0 := cell_heap T8 0
        have y1 := cell_heap T8 1
        simp only [List.getElem?_toArray, List.getElem?_cons_zero, List.getElem?_cons_succ] at x0 x1 y0 y1
        clear S8 T8 hS
        go_wp2_with fail
        refine (HK.out _ hb).mono ?_
        rintro e w9 ⟨rfl, hb9⟩
        go_wp2_with fail
        go_ret
        exact ⟨rfl, below_then hb hb9⟩
      · have hoe2 : ((oe : Int) == 0) = false := by rw [beq_eq_false_iff_ne]; omega
        clear hfo hfe H7
        go_wp2_with fail
        go_quiet (fail)
        have hb := bl_drewN hb nq
        have S8 := (congrArg (fun h => h[w2.heap.size]?) (drewN_heap (w6.alloc (.cells #[.int .i64 pa, .int .i64 pb] 23 (0, 0))) nq)).trans S7.out
        have T8 := (congrArg (fun h => h[w6.heap.size]?) (drewN_heap (w6.alloc (.cells #[.int .i64 pa, .int .i64 pb] 23 (0, 0))) nq)).trans T7.out
        have x0 := cell_heap S8 0
        have x1 := cell_heap S8 1
        have y0 := cell_heap T8 0
        have y1 := cell_heap T8 1
        simp only [List.getElem?_toArray, List.getElem?_cons_zero, List.getElem?_cons_succ] at x0 x1 y0 y1
        clear S8 T8 c0 c1
        go_wp2_with fail
        refine (HK.out _ hb).mono ?_
        rintro e w9 ⟨rfl, hb9⟩
        go_wp2_with fail
        go_ret
        exact ⟨rfl, below_then hb hb9⟩
    · have hce2 : ((ce : Int) == 0) = false := by rw [beq_eq_false_iff_ne]; omega
      have hce3 : ((ce : Int) != 0) = true := by rw [bne_iff_ne]; omega
      have he := hfe hce
      subst he
      clear hfo hfe H7
      go_wp2_with fail
      go_quiet (fail)
      have hb := bl_drewN hb nq
      have S8 := (congrArg (fun h => h[w2.heap.size]?) (drewN_heap (w6.alloc (.cells #[.int .i64 pa, .int .i64 pb] 23 (0, 0))) nq)).trans S7.out
      have T8 := (congrArg (fun h => h[w6.heap.size]?) (drewN_heap (w6.alloc (.cells #[.int .i64 pa, .int .i64 pb] 23 (0, 0))) nq)).trans T7.out
      have x0 := cell_heap S8 0
      have x1 := cell_heap S8 1
      have y0 := cell_heap T8 0
      have y1 := cell_heap T8 1
      simp only [List.getElem?_toArray, List.getElem?_cons_zero, List.getElem?_cons_succ] at x0 x1 y0 y1
      clear S8 T8 c0 c1
      go_wp2_with fail
      refine (HK.out _ hb).mono ?_
      rintro e w9 ⟨rfl, hb9⟩
      go_wp2_with fail
      go_ret
      exact ⟨rfl, below_then hb hb9⟩
end Go.Proofs.YthknlifmkjdoeaaGreatDoor
