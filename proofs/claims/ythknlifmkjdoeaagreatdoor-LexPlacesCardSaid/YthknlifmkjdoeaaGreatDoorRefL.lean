/-
  THE REFERENCE: Offset.
-/
import Derived.Test.YthknlifmkjdoeaaGreatDoorRefK
namespace Go.Proofs.YthknlifmkjdoeaaGreatDoor
open Go.RowKit Lode Go.Shelf
attribute [local go_sem ↓] Go.wp_at_zero Go.wp_at_succ
theorem spot_eqb (s : ByteArray) (k : Nat) (ln col : Int) : (((spot s.data.toList k).1 : Int) = ln ∧ ((spot s.data.toList k).2 : Int) = col) ∨ ((((spot s.data.toList k).1 : Int) == ln) = false) ∨ (((spot s.data.toList k).1 : Int) = ln ∧ (((spot s.data.toList k).2 : Int) == col) = false) := by
  by_cases h1 : ((spot s.data.toList k).1 : Int) = ln
  · by_cases h2 : ((spot s.data.toList k).2 : Int) = col
    · exact .inl ⟨h1, h2⟩
    · exact .inr (.inr ⟨h1, by rw [beq_eq_false_iff_ne]; exact h2⟩)
  · exact .inr (.inl (by rw [beq_eq_false_iff_ne]; exact h1))
theorem offF_at {s : List UInt8} {ln col : Int} {k : Nat} (_hk : k ≤ s.length) (h1 : ((spot s k).1 : Int) = ln) (h2 : ((spot s k).2 : Int) = col) : offF ln col (spot s k) k (s.drop k) = (k, 0) := by
  cases hd : s.drop k with
  | nil => rw [offF, if_pos ⟨h1, h2⟩]
  | cons c r => rw [offF, if_pos ⟨h1, h2⟩]
theorem offF_next {s : List UInt8} {ln col : Int} {k : Nat} (hk : k ≤ s.length) (h : ¬ (((spot s k).1 : Int) = ln ∧ ((spot s k).2 : Int) = col)) : offF ln col (spot s k) k (s.drop k) = if k < s.length then offF ln col (spot s (k + 1)) (k + 1) (s.drop (k + 1)) else (0, 3) := by
  by_cases hlt : k < s.length
  · rw [if_pos hlt, List.drop_eq_getElem_cons hlt, offF, if_neg h, ← spot_succ s k hlt]
  · rw [if_neg hlt, List.drop_eq_nil_of_le (by omega), offF, if_neg h]
def RoRel (s : ByteArray) (ln col : Int) (r : Nat × Nat) (w : World) (i : Value) (wr : World) : Prop :=
  ∃ k : Nat, i = .int .i64 k ∧ k ≤ s.size + 1 ∧ Below w.heap.size w wr ∧ wr.heap[w.heap.size]? = some (.cells #[.int .i64 ln, .int .i64 col] 23 (0, 0)) ∧ r = if k ≤ s.size then offF ln col (spot s.data.toList k) k (s.data.toList.drop k) else (0, 3)
set_option maxHeartbeats 2000000 in
set_option maxRecDepth 100000 in
theorem roffset_any (s : ByteArray) (ln col : Int) (w : World) (hs : s.size ≤ 1000000000000) :
    Calls Tryz.prog 21 #[.string s, .agg #[.int .i64 ln, .int .i64 col]] w fun e w' => e = .returned (.tuple #[.int .i64 (offset s.data.toList ln col).1, .int .i64 (offset s.data.toList ln col).2]) ∧ Below w.heap.size w w' := by
  have Hc := hid (fun w => rcheck_any s w (by omega))
  generalize hr : offset s.data.toList ln col = r
  replace hr := hr.symm
  unfold offset at hr
  generalize check s.data.toList = c at *
  obtain ⟨ca, ce⟩ := c
  simp only at hr
  have m0 := hid (heap_new w (.cells #[.int .i64 ln, .int .i64 col] 23 (0, 0)))
  have hbw := below_alloc w (.cells #[.int .i64 ln, .int .i64 col] 23 (0, 0))
  by_cases h0 : ce = 0
  · subst h0
    simp only [ne_eq, not_true, if_false] at hr
    have Hr := hid hr; clear hr
    have hl : s.data.toList.length = s.size := by simp
    go_enter Tryz.func21, Tryz.ntmps21
    go_wp2_with (go_at_call 19; refine (Hc.out _).mono ?_; rintro e w1 ⟨rfl, rfl⟩)
    go_loopw [8] (RoRel s ln col r w) (fun i _ => s.size + 1 - (intOf i).toNat)
    case atStart => exact ⟨0, rfl, by omega, hbw, m0.out, by rw [if_pos (by omega), spot_zero, List.drop_zero]; exact Hr.out⟩
    case round =>
      obtain ⟨k, rfl, hk, hb, hm, hrr⟩ := hrel
      by_cases hle : k ≤ s.size
      · rw [if_pos hle] at hrr
        have HS := hid (fun W => rspot_any s k W hs hle)
        have hcase := spot_eqb s k ln col
        have hat := fun h1 h2 => offF_at (s := s.data.toList) (ln := ln) (col := col) (k := k) (by rw [hl]; exact hle) h1 h2
        have hnx := fun h => offF_next (s := s.data.toList) (ln := ln) (col := col) (k := k) (by rw [hl]; exact hle) h
        generalize offF ln col (spot s.data.toList k) k (s.data.toList.drop k) = x at *
        have Hnx := hid (fun h => (hnx h)); clear hnx
        have Hat := hid hat; clear hat
        generalize hp : spot s.data.toList k = p at *
        have Hp := hid hp; clear hp
        obtain ⟨p1, p2⟩ := p
        simp only at hcase
        have c0 := cell_heap hm 0
        have c1 := cell_heap hm 1
        simp only [List.getElem?_toArray, List.getElem?_cons_zero, List.getElem?_cons_succ] at c0 c1
        have Hm := hid hm; clear hm
        have Hrr := hid hrr; clear hrr
        rcases hcase with ⟨rfl, rfl⟩ | hne | ⟨rfl, hne⟩
        · go_wp2_with fail
          refine wp_calm ?_
          go_region_held3 (fun w' => w'.cell? ⟨w.heap.size, 0, none⟩ = some (.int .i64 p1) ∧ w'.cell? ⟨w.heap.size, 1, none⟩ = some (.int .i64 p2))
            (first | (go_keep; done) | (go_split_ands; refine ⟨?_, ?_⟩ <;> exact cell_later hb4 (by assumption)))
            (first | (go_at_call 22; refine (HS.out _).mono ?_; rintro e w4 ⟨rfl, hb4⟩))
          have hb5 := hid (below_then hb.drew hb4)
          go_wp2_with fail
          go_ret2
          exact ⟨by rw [Hrr.out, Hat.out trivial trivial]; rfl, hb5.out⟩
        · go_wp2_with fail
          refine wp_calm ?_
          go_region_held3 (fun w' => w'.cell? ⟨w.heap.size, 0, none⟩ = some (.int .i64 ln) ∧ w'.cell? ⟨w.heap.size, 1, none⟩ = some (.int .i64 col))
            (first | (go_keep; done) | (go_split_ands; refine ⟨?_, ?_⟩ <;> exact cell_later hb4 (by assumption)))
            (first | (go_at_call 22; refine (HS.out _).mono ?_; rintro e w4 ⟨rfl, hb4⟩))
          have hb5 := hid (below_then hb.drew hb4)
          have hm5 := hid (heap_later hb4 (w := wr.drew) Hm.out)
          have hne2 := hid hne
          clear hb4 c0 c1 hb
          go_wp2_with fail
          go_roundw
          case rel =>
            refine ⟨k + 1, by go_num, by omega, hb5.out, hm5.out, ?_⟩
            rw [Hrr.out, Hnx.out (by have h := hne2.out; rw [beq_eq_false_iff_ne] at h; rintro ⟨e1, e2⟩; first | exact h e1 | exact h e2), hl]
            by_cases hkl : k < s.size
            · rw [if_pos hkl, if_pos (by omega)]
            · rw [if_neg hkl, if_neg (by omega)]
          case measure => simp [intOf]; omega
        · go_wp2_with fail
          refine wp_calm ?_
          go_region_held3 (fun w' => w'.cell? ⟨w.heap.size, 0, none⟩ = some (.int .i64 p1) ∧ w'.cell? ⟨w.heap.size, 1, none⟩ = some (.int .i64 col))
            (first | (go_keep; done) | (go_split_ands; refine ⟨?_, ?_⟩ <;> exact cell_later hb4 (by assumption)))
            (first | (go_at_call 22; refine (HS.out _).mono ?_; rintro e w4 ⟨rfl, hb4⟩))
          have hb5 := hid (below_then hb.drew hb4)
          have hm5 := hid (heap_later hb4 (w := wr.drew) Hm.out)
          have hne2 := hid hne
          clear hb4 c0 c1 hb
          go_wp2_with fail
          go_roundw
          case rel =>
            refine ⟨k + 1, by go_num, by omega, hb5.out, hm5.out, ?_⟩
            rw [Hrr.out, Hnx.out (by have h := hne2.out; rw [beq_eq_false_iff_ne] at h; rintro ⟨e1, e2⟩; first | exact h e1 | exact h e2), hl]
            by_cases hkl : k < s.size
            · rw [if_pos hkl, if_pos (by omega)]
            · rw [if_neg hkl, if_neg (by omega)]
          case measure => simp [intOf]; omega
      · rw [if_neg hle] at hrr
        have hk1 : k = s.size + 1 := by omega
        have Hrr := hid hrr; clear hrr
        go_wp2_with fail
        go_ret2
        exact ⟨by rw [Hrr.out]; rfl, hb⟩
  · have hr2 : r = (0, ce) := by rw [hr, if_pos h0]
    clear hr
    subst hr2
    have h0' : ((ce : Int) != 0) = true := by rw [bne_iff_ne]; omega
    go_enter Tryz.func21, Tryz.ntmps21
    go_wp2_with (go_at_call 19; refine (Hc.out _).mono ?_; rintro e w1 ⟨rfl, rfl⟩)
    go_ret2
    exact ⟨rfl, hbw⟩
end Go.Proofs.YthknlifmkjdoeaaGreatDoor
