/-
  THE REFERENCE: Spell.
-/
import Derived.Test.YthknlifmkjdoeaaGreatDoorText
import Derived.Test.YthknlifmkjdoeaaGreatDoorRefK
import Derived.Test.YthknlifmkjdoeaaGreatDoorRefI
import Derived.Test.YthknlifmkjdoeaaGreatDoorRegion
namespace Go.Proofs.YthknlifmkjdoeaaGreatDoor
open Go.RowKit Lode Go.Shelf
attribute [local go_sem ↓] Go.wp_at_zero Go.wp_at_succ
abbrev RSpPost (r : List UInt8 × Nat) (w : World) (e : Ending) (w' : World) : Prop := e = .returned (.tuple #[.string ⟨r.1.toArray⟩, .int .i64 r.2]) ∧ Below w.heap.size w w'
set_option maxHeartbeats 1000000 in
set_option maxRecDepth 100000 in
theorem rspell_s (k : Nat) (s : ByteArray) (a : Int) (w : World) (hs : s.size ≤ 1000000000000) :
    Calls Tryz.prog 36 #[.agg #[.int .u8 k, .string s, .int .i64 a]] w (RSpPost (Lode.rspell k s.data.toList) w) := by
  generalize hr : Lode.rspell k s.data.toList = r
  replace hr := hr.symm
  unfold Lode.rspell at hr
  have hbw := below_alloc w (.cells #[.int .u8 k, .string s, .int .i64 a] 46 (0, 0))
  have hl : s.data.toList.length = s.size := by simp
  by_cases hk : k = 4
  · rw [if_pos hk] at hr
    have Hq := hid (fun w => rquote_any s w hs)
    subst hk
    generalize quote s.data.toList = q at *
    obtain ⟨q1, q2⟩ := q
    simp only at hr
    by_cases h0 : q2 = 0
    · rw [if_pos h0] at hr
      subst h0 hr
      go_enter Tryz.func36, Tryz.ntmps36
      go_wp2_with (go_at_call 28; refine (Hq.out _).mono ?_; rintro e w1 ⟨rfl, rfl⟩)
      go_ret2
      exact ⟨rfl, hbw⟩
    · rw [if_neg h0] at hr
      subst hr
      have h0' : ((q2 : Int) != 0) = true := by rw [bne_iff_ne]; omega
      go_enter Tryz.func36, Tryz.ntmps36
      go_wp2_with (go_at_call 28; refine (Hq.out _).mono ?_; rintro e w1 ⟨rfl, rfl⟩)
      go_ret2
      exact ⟨rfl, hbw⟩
  · rw [if_neg hk] at hr
    have hk' : ((k : Int) == 4) = false := by rw [beq_eq_false_iff_ne]; omega
    by_cases h0 : s.size = 0
    · have hs0 : s = ⟨#[]⟩ := ByteArray.ext (Array.size_eq_zero_iff.1 h0)
      have hr2 : r = ([], 4) := by rw [hr, if_pos (.inl (by rw [hs0]))]
      subst hr2 hs0
      clear hr h0 hl
      go_enter Tryz.func36, Tryz.ntmps36
      go_wp2_with fail
      go_ret2
      exact ⟨rfl, hbw⟩
    · have hpos : 0 < s.size := by omega
      have hne := not_empty hpos
      have hh := head34 s hpos
      have hnil : s.data.toList ≠ [] := fun e => by rw [e] at hl; simp at hl; omega
      by_cases h20 : 20 < s.size
      · have hr2 : r = ([], 4) := by rw [hr, if_pos (.inr (.inl (by rw [hl]; exact h20)))]
        subst hr2
        clear hr
        go_enter Tryz.func36, Tryz.ntmps36
        go_wp2_with fail
        go_ret2
        exact ⟨rfl, hbw⟩
      · by_cases h34 : s[0] = 34
        · have hr2 : r = ([], 4) := by rw [hr, if_pos (.inr (.inr (by rw [hh, h34])))]
          subst hr2
          have hb : ((s[0].toNat : Int) == 34) = true := by rw [h34]; rfl
          clear hr hh h34
          go_enter Tryz.func36, Tryz.ntmps36
          go_wp2_with fail
          go_ret2
          exact ⟨rfl, hbw⟩
        · have hb : ((s[0].toNat : Int) == 34) = false := by
            rw [beq_eq_false_iff_ne]; intro e; exact h34 ((c34 _).mp e)
          rw [if_neg (by rintro (h | h | h) <;> first | exact hnil h | omega | (rw [hh, Option.some.injEq] at h; exact h34 h))] at hr
          have hd0 : s.data.toList.drop 0 = s.data.toList := rfl
          cases ht : tok1 s.data.toList with
          | none =>
            rw [ht] at hr
            have hr2 : r = ([], 4) := hr
            subst hr2
            have HF := hid (fun (W : World) => rfirst_none s 0 hs hpos ht W)
            clear hr hh h34 ht hnil
            go_enter Tryz.func36, Tryz.ntmps36
            go_wp2_with (go_at_call 54; refine (HF.out _).mono ?_; rintro e w1 ⟨⟨kk, tt, a', n, rfl⟩, hb1⟩; have hbx := below_then hbw hb1)
            go_ret2
            exact ⟨rfl, bl_alloc hbx _⟩
          | some x =>
            obtain ⟨k', x, m⟩ := x
            rw [ht] at hr
            replace hr : r = if m = s.size ∧ k' = k then (s.data.toList, 0) else ([], 4) := by rw [hr, ← hl]
            have HF := hid (fun (W : World) => rfirst_some s 0 hs hpos k' x m ht W)
            have m0 := heap_new w (.cells #[.int .u8 k, .string s, .int .i64 a] 46 (0, 0))
            clear hh h34 ht hnil
            by_cases hm : m = s.size
            · by_cases hk2 : k' = k
              · rw [if_pos ⟨hm, hk2⟩] at hr
                have hk3 := hk2.symm
                subst hr hk3 hm
                go_enter Tryz.func36, Tryz.ntmps36
                go_wp2_with (go_at_call 54; refine (HF.out _).mono ?_; rintro e w1 ⟨rfl, hb1⟩; have hbx := below_then hbw hb1; have q0 : ∀ o, (w1.alloc o).cell? ⟨w.heap.size, 0, none⟩ = some (.int .u8 k) := fun o => cell_heap (heap_old o (heap_later hb1 m0)) 0; have q1 : ∀ o, (w1.alloc o).cell? ⟨w.heap.size, 1, none⟩ = some (.string s) := fun o => cell_heap (heap_old o (heap_later hb1 m0)) 1)
                go_ret2
                exact ⟨by rw [← ba_eta]; rfl, bl_alloc hbx _⟩
              · rw [if_neg (fun e => hk2 e.2)] at hr
                subst hr hm
                have hk3 : ((k' : Int) == (k : Int)) = false := by rw [beq_eq_false_iff_ne]; omega
                go_enter Tryz.func36, Tryz.ntmps36
                go_wp2_with (go_at_call 54; refine (HF.out _).mono ?_; rintro e w1 ⟨rfl, hb1⟩; have hbx := below_then hbw hb1; have q0 : ∀ o, (w1.alloc o).cell? ⟨w.heap.size, 0, none⟩ = some (.int .u8 k) := fun o => cell_heap (heap_old o (heap_later hb1 m0)) 0; have q1 : ∀ o, (w1.alloc o).cell? ⟨w.heap.size, 1, none⟩ = some (.string s) := fun o => cell_heap (heap_old o (heap_later hb1 m0)) 1)
                refine bodyPost_ret (v := .tuple #[.string ⟨#[]⟩, .int .i64 4]) (by simp [results, Tryz.results36, go_sem]) rfl ⟨rfl, bl_alloc hbx _⟩
            · rw [if_neg (fun e => hm e.1)] at hr
              subst hr
              have hm2 : ((m : Int) != (s.size : Int)) = true := by rw [bne_iff_ne]; omega
              go_enter Tryz.func36, Tryz.ntmps36
              go_wp2_with (go_at_call 54; refine (HF.out _).mono ?_; rintro e w1 ⟨rfl, hb1⟩; have hbx := below_then hbw hb1; have q0 : ∀ o, (w1.alloc o).cell? ⟨w.heap.size, 0, none⟩ = some (.int .u8 k) := fun o => cell_heap (heap_old o (heap_later hb1 m0)) 0; have q1 : ∀ o, (w1.alloc o).cell? ⟨w.heap.size, 1, none⟩ = some (.string s) := fun o => cell_heap (heap_old o (heap_later hb1 m0)) 1)
              go_ret2
              exact ⟨rfl, bl_alloc hbx _⟩
end Go.Proofs.YthknlifmkjdoeaaGreatDoor

/-
  THE REFERENCE: Apart.
-/
namespace Lode
/-- whether two tokens, spelt, must be apart, by the reference -/
def rapart (k1 : Nat) (t1 s1 : List UInt8) (k2 : Nat) (t2 s2 : List UInt8) : Bool :=
  if (read (s1 ++ s2)).2.2 ≠ 0 then true else
  match (read (s1 ++ s2)).1 with
  | [x, y] => !((decide (x.kind = k1) && decide (x.text = t1)) && (decide (y.kind = k2) && decide (y.text = t2))) || (y.at_ != (s1.length : Int))
  | _ => true
def rApart (a b : Nat × List UInt8) : Bool × Nat :=
  if (rspell a.1 a.2).2 ≠ 0 then (false, (rspell a.1 a.2).2) else
  if (rspell b.1 b.2).2 ≠ 0 then (false, (rspell b.1 b.2).2) else
  (rapart a.1 a.2 (rspell a.1 a.2).1 b.1 b.2 (rspell b.1 b.2).1, 0)
end Lode
namespace Go.Proofs.YthknlifmkjdoeaaGreatDoor
open Go.RowKit Lode Go.Shelf
attribute [local go_sem ↓] Go.wp_at_zero Go.wp_at_succ
theorem box3 (w : World) (T : TypeId) (c0 c1 c2 d0 d1 d2 : Value) (W : World) (h : Below ((w.alloc (.cells #[c0, c1, c2] T (0, 0))).alloc (.cells #[d0, d1, d2] T (0, 0))).heap.size ((w.alloc (.cells #[c0, c1, c2] T (0, 0))).alloc (.cells #[d0, d1, d2] T (0, 0))) W) :
    Below w.heap.size w W ∧ (W.cell? ⟨w.heap.size, 0, none⟩ = some c0 ∧ W.cell? ⟨w.heap.size, 1, none⟩ = some c1 ∧ W.cell? ⟨w.heap.size, 2, none⟩ = some c2) ∧
    (W.cell? ⟨w.heap.size + 1, 0, none⟩ = some d0 ∧ W.cell? ⟨w.heap.size + 1, 1, none⟩ = some d1 ∧ W.cell? ⟨w.heap.size + 1, 2, none⟩ = some d2) := by
  have h0 := heap_later h (heap_old (.cells #[d0, d1, d2] T (0, 0)) (heap_new w (.cells #[c0, c1, c2] T (0, 0))))
  have h1 := heap_later h (b := w.heap.size + 1) (o := .cells #[d0, d1, d2] T (0, 0)) (heap_at _ _ _ (by simp))
  exact ⟨below_then (bl_alloc (below_alloc _ _) _) h, ⟨cell_heap h0 0, cell_heap h0 1, cell_heap h0 2⟩, ⟨cell_heap h1 0, cell_heap h1 1, cell_heap h1 2⟩⟩
theorem rspell_s' (k : Nat) (t : List UInt8) (a : Int) (w : World) (hs : t.length ≤ 1000000000000) :
    Calls Tryz.prog 36 #[.agg #[.int .u8 k, .string ⟨t.toArray⟩, .int .i64 a]] w (RSpPost (Lode.rspell k t) w) := rspell_s k ⟨t.toArray⟩ a w hs
set_option maxHeartbeats 4000000 in
set_option maxRecDepth 100000 in
theorem rapart_any (k1 : Nat) (t1 : List UInt8) (a1 : Int) (k2 : Nat) (t2 : List UInt8) (a2 : Int) (w : World) (h1 : t1.length ≤ 100000000000) (h2 : t2.length ≤ 100000000000) :
    Calls Tryz.prog 37 #[.agg #[.int .u8 k1, .string ⟨t1.toArray⟩, .int .i64 a1], .agg #[.int .u8 k2, .string ⟨t2.toArray⟩, .int .i64 a2]] w fun e w' =>
      e = .returned (.tuple #[.bool (rApart (k1, t1) (k2, t2)).1, .int .i64 (rApart (k1, t1) (k2, t2)).2]) ∧ Below w.heap.size w w' := by
  generalize hr : rApart (k1, t1) (k2, t2) = r
  replace hr := hr.symm
  unfold rApart at hr
  simp only at hr
  have HS1 := hid (fun (W : World) => rspell_s' k1 t1 a1 W (by omega))
  have HS2 := hid (fun (W : World) => rspell_s' k2 t2 a2 W (by omega))
  have HL1 := hid (fun T => @spell_len k1 t1 T)
  have HL2 := hid (fun T => @spell_len k2 t2 T)
  generalize rspell k1 t1 = x1 at *
  generalize rspell k2 t2 = x2 at *
  obtain ⟨s1, e1⟩ := x1
  obtain ⟨s2, e2⟩ := x2
  simp only at hr
  have HB := hid (fun W h => box3 w 46 (.int .u8 k1) (.string ⟨t1.toArray⟩) (.int .i64 a1) (.int .u8 k2) (.string ⟨t2.toArray⟩) (.int .i64 a2) W h)
  by_cases he1 : e1 = 0
  · subst he1
    by_cases he2 : e2 = 0
    · subst he2
      have l1 := HL1.out s1 rfl
      have l2 := HL2.out s2 rfl
      clear HL1 HL2
      simp only [ne_eq, not_true, if_false] at hr
      have hsz1 : (⟨s1.toArray⟩ : ByteArray).size = s1.length := rfl
      have hsz2 : (⟨s2.toArray⟩ : ByteArray).size = s2.length := rfl
      have HR := hid (fun (W : World) => rread_any (⟨s1.toArray⟩ ++ ⟨s2.toArray⟩) W (by rw [ByteArray.size_append]; omega))
      rw [show ((⟨s1.toArray⟩ : ByteArray) ++ ⟨s2.toArray⟩).data.toList = s1 ++ s2 from by rw [app_data]] at HR
      unfold rapart at hr
      generalize read (s1 ++ s2) = x at *
      obtain ⟨L, xa, xe⟩ := x
      simp only at hr
      by_cases h0 : xe = 0
      · subst h0
        simp only [ne_eq, not_true, if_false] at hr
        by_cases hL : L.length = 2
        · obtain ⟨⟨j1, u1, b1⟩, ⟨j2, u2, b2⟩, rfl⟩ : ∃ x y, L = [x, y] := by
            match L, hL with
            | [x, y], _ => exact ⟨x, y, rfl⟩
          clear hL
          simp only at hr
          have HA1 := hid (fun w => ralike_any j1 k1 u1 t1 b1 a1 w)
          have HA2 := hid (fun w => ralike_any j2 k2 u2 t2 b2 a2 w)
          generalize (decide (j1 = k1) && decide (u1 = t1)) = bb1 at *
          generalize (decide (j2 = k2) && decide (u2 = t2)) = bb2 at *
          have Hr := hid hr; clear hr
          go_enter Tryz.func37, Tryz.ntmps37
          go_wp2_with fail
          refine (HS1.out _).mono ?_
          rintro e w1 ⟨rfl, hb1⟩
          obtain ⟨_, _, d0, d1, d2⟩ := HB.out w1 hb1
          go_wp2_with fail
          refine (HS2.out _).mono ?_
          rintro e w2 ⟨rfl, hb2⟩
          clear d0 d1 d2
          have hb2 := below_then hb1 hb2
          clear hb1
          go_wp2_with fail
          refine (HR.out _).mono ?_
          rintro e w3 ⟨v, rfl, htok, hb3⟩
          obtain ⟨g, cap, rfl, e0, e1, e2, e3, e4, e5⟩ := two_tok htok
          have hb3 := below_then hb2 hb3
          obtain ⟨hbw, ⟨c0, c1, c2⟩, d0, d1, d2⟩ := HB.out w3 hb3
          clear hb2 hb3 HS1 HS2 HR HB htok
          go_wp2_with fail
          have hS : ∀ W, Cl w3.drew W → (W.cell? ⟨w.heap.size, 0, none⟩ = some (.int .u8 k1) ∧ W.cell? ⟨w.heap.size, 1, none⟩ = some (.string ⟨t1.toArray⟩) ∧ W.cell? ⟨w.heap.size, 2, none⟩ = some (.int .i64 a1) ∧ W.cell? ⟨g, 0, none⟩ = some (.int .u8 j1) ∧ W.cell? ⟨g, 1, none⟩ = some (.string ⟨u1.toArray⟩) ∧ W.cell? ⟨g, 2, none⟩ = some (.int .i64 b1) ∧ W.cell? ⟨w.heap.size + 1, 0, none⟩ = some (.int .u8 k2) ∧ W.cell? ⟨w.heap.size + 1, 1, none⟩ = some (.string ⟨t2.toArray⟩) ∧ W.cell? ⟨w.heap.size + 1, 2, none⟩ = some (.int .i64 a2) ∧ W.cell? ⟨g, 3, none⟩ = some (.int .u8 j2) ∧ W.cell? ⟨g, 4, none⟩ = some (.string ⟨u2.toArray⟩) ∧ W.cell? ⟨g, 5, none⟩ = some (.int .i64 b2)) := fun W h => ⟨cell_later h.below c0, cell_later h.below c1, cell_later h.below c2, cell_later h.below e0, cell_later h.below e1, cell_later h.below e2, cell_later h.below d0, cell_later h.below d1, cell_later h.below d2, cell_later h.below e3, cell_later h.below e4, cell_later h.below e5⟩
          clear c0 c1 c2 d0 d1 d2 e0 e1 e2 e3 e4 e5
          refine wp_region_mix [(0, 0), (1, 0), (2, 0), (3, 0), (4, 0), (5, 0), (6, 0), (7, 0), (8, 0), (9, 0), (10, 1), (11, 1), (12, 2), (13, 0), (14, 0), (15, 0), (16, 0), (17, 0), (18, 1), (19, 1), (20, 2), (21, 0), (22, 0), (23, 0), (24, 0), (25, 0), (26, 0), (27, 1), (28, 0), (29, 0), (30, 0), (31, 0), (32, 0), (33, 0)] (by kernel_rfl) (by kernel_rfl) ?_
          iterate 12 (first
            | (refine wpM_skip rfl (by rfl) (by decide) ?_; simp only [Act.put, List.setIfInBounds_toArray, List.set_cons_zero, List.set_cons_succ])
            | (refine wpM_take rfl (by rfl) (v := ?_) ?_ ?_; rotate_left; (· (intro w'; go_simp; try with_reducible rfl)); simp only [Act.put, List.setIfInBounds_toArray, List.set_cons_zero, List.set_cons_succ])
            | (refine wpM_load hS rfl (by rfl) (v := ?_) ?_ ?_; rotate_left; (· (intro w' hw'; go_split_ands; go_simp; try with_reducible rfl)); simp only [Act.put, List.setIfInBounds_toArray, List.set_cons_zero, List.set_cons_succ]))
          refine wpM_call rfl (by rfl) (fun K hK W hW => ?_)
          go_simp
          refine (HA1.out _).mono ?_
          rintro e w4 ⟨rfl, hb4⟩
          go_simp
          refine ⟨cl_iff.2 hb4, hK _ _ ?_⟩
          replace hS := fun W' h => hS W' (Cl.trans hW (Cl.trans (cl_iff.2 hb4) h))
          clear hK K
          try simp only [Act.put, List.setIfInBounds_toArray, List.set_cons_zero, List.set_cons_succ]
          cases bb1 with
          | false =>
            iterate 21 (first
              | (refine wpM_skip rfl (by rfl) (by decide) ?_; simp only [Act.put, List.setIfInBounds_toArray, List.set_cons_zero, List.set_cons_succ])
              | (refine wpM_take rfl (by rfl) (v := ?_) ?_ ?_; rotate_left; (· (intro w'; go_simp; try with_reducible rfl)); simp only [Act.put, List.setIfInBounds_toArray, List.set_cons_zero, List.set_cons_succ])
              | (refine wpM_load hS rfl (by rfl) (v := ?_) ?_ ?_; rotate_left; (· (intro w' hw'; go_split_ands; go_simp; try with_reducible rfl)); simp only [Act.put, List.setIfInBounds_toArray, List.set_cons_zero, List.set_cons_succ]))
            refine wpM_done fun W' hW' => ?_
            go_wp2_with fail
            go_ret2
            exact ⟨by rw [Hr.out]; rfl, below_then (below_then (below_then hbw.drew hW.below) hb4) hW'.below⟩
          | true =>
            iterate 7 (first
              | (refine wpM_skip rfl (by rfl) (by decide) ?_; simp only [Act.put, List.setIfInBounds_toArray, List.set_cons_zero, List.set_cons_succ])
              | (refine wpM_take rfl (by rfl) (v := ?_) ?_ ?_; rotate_left; (· (intro w'; go_simp; try with_reducible rfl)); simp only [Act.put, List.setIfInBounds_toArray, List.set_cons_zero, List.set_cons_succ])
              | (refine wpM_load hS rfl (by rfl) (v := ?_) ?_ ?_; rotate_left; (· (intro w' hw'; go_split_ands; go_simp; try with_reducible rfl)); simp only [Act.put, List.setIfInBounds_toArray, List.set_cons_zero, List.set_cons_succ]))
            refine wpM_call rfl (by rfl) (fun K hK W2 hW2 => ?_)
            go_simp
            refine (HA2.out _).mono ?_
            rintro e w5 ⟨rfl, hb5⟩
            go_simp
            refine ⟨cl_iff.2 hb5, hK _ _ ?_⟩
            replace hS := fun W' h => hS W' (Cl.trans hW2 (Cl.trans (cl_iff.2 hb5) h))
            clear hK K
            try simp only [Act.put, List.setIfInBounds_toArray, List.set_cons_zero, List.set_cons_succ]
            cases bb2 with
            | false =>
              iterate 13 (first
                | (refine wpM_skip rfl (by rfl) (by decide) ?_; simp only [Act.put, List.setIfInBounds_toArray, List.set_cons_zero, List.set_cons_succ])
                | (refine wpM_take rfl (by rfl) (v := ?_) ?_ ?_; rotate_left; (· (intro w'; go_simp; try with_reducible rfl)); simp only [Act.put, List.setIfInBounds_toArray, List.set_cons_zero, List.set_cons_succ])
                | (refine wpM_load hS rfl (by rfl) (v := ?_) ?_ ?_; rotate_left; (· (intro w' hw'; go_split_ands; go_simp; try with_reducible rfl)); simp only [Act.put, List.setIfInBounds_toArray, List.set_cons_zero, List.set_cons_succ]))
              refine wpM_done fun W' hW' => ?_
              go_wp2_with fail
              go_ret2
              exact ⟨by rw [Hr.out]; rfl, below_then (below_then (below_then (below_then (below_then hbw.drew hW.below) hb4) hW2.below) hb5) hW'.below⟩
            | true =>
              iterate 13 (first
                | (refine wpM_skip rfl (by rfl) (by decide) ?_; simp only [Act.put, List.setIfInBounds_toArray, List.set_cons_zero, List.set_cons_succ])
                | (refine wpM_take rfl (by rfl) (v := ?_) ?_ ?_; rotate_left; (· (intro w'; go_simp; try with_reducible rfl)); simp only [Act.put, List.setIfInBounds_toArray, List.set_cons_zero, List.set_cons_succ])
                | (refine wpM_load hS rfl (by rfl) (v := ?_) ?_ ?_; rotate_left; (· (intro w' hw'; go_split_ands; go_simp; try with_reducible rfl)); simp only [Act.put, List.setIfInBounds_toArray, List.set_cons_zero, List.set_cons_succ]))
              refine wpM_done fun W' hW' => ?_
              go_wp2_with fail
              go_ret2
              exact ⟨by rw [Hr.out]; rfl, below_then (below_then (below_then (below_then (below_then hbw.drew hW.below) hb4) hW2.below) hb5) hW'.below⟩
        · have hr2 : r = (true, 0) := by
            rw [hr]
            match L, hL with
            | [], _ => rfl
            | [_], _ => rfl
            | _ :: _ :: _ :: _, _ => rfl
            | [_, _], h => exact absurd rfl h
          subst hr2
          have hL' : ((L.length : Int) != 2) = true := by rw [bne_iff_ne]; omega
          clear hr hL
          go_enter Tryz.func37, Tryz.ntmps37
          go_wp2_with fail
          refine (HS1.out _).mono ?_
          rintro e w1 ⟨rfl, hb1⟩
          obtain ⟨_, _, d0, d1, d2⟩ := HB.out w1 hb1
          go_wp2_with fail
          refine (HS2.out _).mono ?_
          rintro e w2 ⟨rfl, hb2⟩
          have hb2 := below_then hb1 hb2
          clear d0 d1 d2 hb1
          go_wp2_with fail
          refine (HR.out _).mono ?_
          rintro e w3 ⟨v, rfl, htok, hb3⟩
          obtain ⟨p, cap, rfl⟩ := htok.form
          have hb3 := below_then hb2 hb3
          obtain ⟨hbw, _, _⟩ := HB.out w3 hb3
          go_wp2_with fail
          go_quiet (fail)
          go_wp2_with fail
          go_ret2
          exact ⟨rfl, bl_drewN hbw nq⟩
      · rw [if_pos h0] at hr
        subst hr
        have h0' : ((xe : Int) != 0) = true := by rw [bne_iff_ne]; omega
        go_enter Tryz.func37, Tryz.ntmps37
        go_wp2_with fail
        refine (HS1.out _).mono ?_
        rintro e w1 ⟨rfl, hb1⟩
        obtain ⟨_, _, d0, d1, d2⟩ := HB.out w1 hb1
        go_wp2_with fail
        refine (HS2.out _).mono ?_
        rintro e w2 ⟨rfl, hb2⟩
        have hb2 := below_then hb1 hb2
        clear d0 d1 d2 hb1
        go_wp2_with fail
        refine (HR.out _).mono ?_
        rintro e w3 ⟨v, rfl, htok, hb3⟩
        obtain ⟨p, cap, rfl⟩ := htok.form
        have hb3 := below_then hb2 hb3
        obtain ⟨hbw, _, _⟩ := HB.out w3 hb3
        go_wp2_with fail
        go_quiet (fail)
        go_wp2_with fail
        go_ret2
        exact ⟨rfl, bl_drewN hbw nq⟩
    · simp only [ne_eq, not_true, if_false] at hr
      rw [if_pos he2] at hr
      subst hr
      have h0' : ((e2 : Int) != 0) = true := by rw [bne_iff_ne]; omega
      clear HL1 HL2
      go_enter Tryz.func37, Tryz.ntmps37
      go_wp2_with fail
      refine (HS1.out _).mono ?_
      rintro e w1 ⟨rfl, hb1⟩
      obtain ⟨_, _, d0, d1, d2⟩ := HB.out w1 hb1
      go_wp2_with fail
      refine (HS2.out _).mono ?_
      rintro e w2 ⟨rfl, hb2⟩
      have hb2 := below_then hb1 hb2
      obtain ⟨hbw, _, _⟩ := HB.out w2 hb2
      clear d0 d1 d2 hb1
      go_wp2_with fail
      go_ret2
      exact ⟨rfl, hbw⟩
  · rw [if_pos he1] at hr
    subst hr
    have h0' : ((e1 : Int) != 0) = true := by rw [bne_iff_ne]; omega
    clear HL1 HL2
    go_enter Tryz.func37, Tryz.ntmps37
    go_wp2_with fail
    refine (HS1.out _).mono ?_
    rintro e w1 ⟨rfl, hb1⟩
    obtain ⟨hbw, _, d0, d1, d2⟩ := HB.out w1 hb1
    go_wp2_with fail
    go_ret2
    exact ⟨rfl, hbw⟩
end Go.Proofs.YthknlifmkjdoeaaGreatDoor
