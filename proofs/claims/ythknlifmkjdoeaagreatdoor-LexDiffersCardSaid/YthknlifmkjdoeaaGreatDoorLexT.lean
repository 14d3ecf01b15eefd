/-
  THE PROGRAM'S Place; THE REFERENCE'S Place and Offset.
-/
import Derived.Test.YthknlifmkjdoeaaGreatDoorLexB
import Derived.Test.YthknlifmkjdoeaaGreatDoorLexG
import Derived.Test.YthknlifmkjdoeaaGreatDoorRefI
namespace Lode
def place (s : List UInt8) (a : Int) : (Nat × Nat) × Nat := if (check s).2 ≠ 0 then ((0, 0), (check s).2) else if a < 0 ∨ (s.length : Int) < a then ((0, 0), 3) else (spot s a.toNat, 0)
end Lode
namespace Go.Proofs.YthknlifmkjdoeaaGreatDoor
open Go.RowKit Lode Go.Shelf
attribute [local go_sem ↓] Go.wp_at_zero Go.wp_at_succ
theorem spot_pre (s : ByteArray) (k : Nat) (hk : k ≤ s.size) : Lib.countByte (s.extract 0 k).data.toList 10 ≤ k ∧ -1 ≤ Lib.lastIndexByte (s.extract 0 k) 10 ∧ Lib.lastIndexByte (s.extract 0 k) 10 < k ∧
    spot s.data.toList k = (1 + Lib.countByte (s.extract 0 k).data.toList 10, ((k : Int) - Lib.lastIndexByte (s.extract 0 k) 10).toNat) := by
  have hsz : (s.extract 0 k).size = k := by simp; omega
  have hd : (s.extract 0 k).data.toList = s.data.toList.take k := by simp [List.extract_eq_take_drop]
  have h := spot_count (s.extract 0 k) k (by omega)
  have e : spot (s.extract 0 k).data.toList k = spot s.data.toList k := by rw [spot_eq, spot_eq, hd, List.take_take, Nat.min_self]
  rw [e, List.take_of_length_le (by rw [hd]; simp; omega)] at h
  have hl : Lib.lastIndexByte (s.extract 0 k) 10 = Lib.lastIdx (s.extract 0 k) 10 k := by unfold Lib.lastIndexByte; rw [hsz]
  rw [hl]
  refine ⟨?_, h.2.2, h.2.1, h.1⟩
  have := List.count_le_length (a := (10 : UInt8)) (l := (s.extract 0 k).data.toList)
  rw [hd] at this ⊢
  simp at this
  unfold Lib.countByte
  exact Nat.le_trans this (Nat.min_le_left _ _)
def PlPost (r : (Nat × Nat) × Nat) (w : World) (e : Ending) (w' : World) : Prop := e = .returned (.tuple #[.agg #[.int .i64 r.1.1, .int .i64 r.1.2], .int .i64 r.2]) ∧ Below w.heap.size w w'
theorem sp_cells {w W : World} (h : Below (w.alloc (.cells #[.int .i64 0, .int .i64 0] 23 (0, 0))).heap.size (w.alloc (.cells #[.int .i64 0, .int .i64 0] 23 (0, 0))) W) : W.heap[w.heap.size]? = some (.cells #[.int .i64 0, .int .i64 0] 23 (0, 0)) ∧ Below w.heap.size w W := ⟨heap_later h (heap_new _ _), below_then (below_alloc _ _) h⟩
theorem sp_set {w W : World} {x y : Value} (h : W.heap[w.heap.size]? = some (.cells #[x, y] 23 (0, 0))) (hb : Below w.heap.size w W) (a b : Int) (W9 : World) (e : W9 = (W.setCell ⟨w.heap.size, 0, none⟩ (.int .i64 a)).setCell ⟨w.heap.size, 1, none⟩ (.int .i64 b)) :
    W9.cell? ⟨w.heap.size, 0, none⟩ = some (.int .i64 a) ∧ W9.cell? ⟨w.heap.size, 1, none⟩ = some (.int .i64 b) ∧ Below w.heap.size w W9 := by
  subst e
  have h2 := set_heap (set_heap h 0 (.int .i64 a)) 1 (.int .i64 b)
  exact ⟨cell_heap h2 0, cell_heap h2 1, bl_set (bl_set hb _ _ (Nat.le_refl _) _) _ _ (Nat.le_refl _) _⟩
set_option maxRecDepth 100000 in
theorem lplace_any (s : ByteArray) (a : Int) (w : World) (hs : s.size ≤ 1000000000000) :
    Calls Tryz.prog 17 #[.string s, .int .i64 a] w (PlPost (place s.data.toList a) w) := by
  have Hc := hid (fun w => check_any s w (by omega))
  generalize hr : place s.data.toList a = r
  replace hr := hr.symm
  unfold place at hr
  generalize check s.data.toList = c at *
  obtain ⟨ca, ce⟩ := c
  simp only at hr
  by_cases h0 : ce = 0
  · subst h0
    simp only [ne_eq, not_true, if_false, Array.length_toList] at hr
    by_cases ha : a < 0 ∨ (s.size : Int) < a
    · have hr2 : r = ((0, 0), 3) := by rw [hr, if_pos (by simpa using ha)]
      clear hr
      subst hr2
      go_enter Tryz.func17, Tryz.ntmps17
      go_wp2_with (go_at_call 16; refine (Hc.out _).mono ?_; rintro e w1 ⟨rfl, hb1⟩; obtain ⟨m0, hbw⟩ := sp_cells hb1; have c0 := cell_heap m0 0; have c1 := cell_heap m0 1; have f0 := frozen_heap m0 0; have f1 := frozen_heap m0 1; have M0 := hid m0; clear m0)
      all_goals
        obtain ⟨u0, u1, hbf⟩ := sp_set M0.out hbw 0 0 _ rfl
        generalize World.setCell _ ⟨_, 1, none⟩ _ = W9 at *
        refine bodyPost_ret (v := .tuple #[.agg #[.int .i64 0, .int .i64 0], .int .i64 3]) (by simp [results, Tryz.results17, go_sem, u0, u1]) rfl ⟨rfl, hbf⟩
    · obtain ⟨k, rfl, hk⟩ : ∃ k : Nat, a = k ∧ k ≤ s.size := ⟨a.toNat, by omega, by omega⟩
      have hr2 : r = (spot s.data.toList k, 0) := by rw [hr, if_neg (by simpa using ha)]; rfl
      clear hr
      subst hr2
      obtain ⟨b1, b2, b3, b4⟩ := spot_pre s k hk
      have HC := hid (fun w => Tryz.strings_Count_one (s.extract 0 k) 10 w)
      have HL := hid (fun w => Tryz.strings_LastIndexByte (s.extract 0 k) 10 (by simp; omega) w)
      generalize Lib.countByte (s.extract 0 k).data.toList 10 = cnt at *
      generalize Lib.lastIndexByte (s.extract 0 k) 10 = li at *
      have hkI : ¬ ((k : Int) < 0) := by omega
      have hkI2 : ¬ ((s.size : Int) < k) := by omega
      go_enter Tryz.func17, Tryz.ntmps17
      go_wp2_with (first
        | (go_at_call 16; refine (Hc.out _).mono ?_; rintro e w1 ⟨rfl, hb1⟩; obtain ⟨m0, hbw⟩ := sp_cells hb1; have c0 := cell_heap m0 0; have c1 := cell_heap m0 1; have f0 := frozen_heap m0 0; have f1 := frozen_heap m0 1; have M0 := hid m0; clear m0)
        | (go_at_call 48; refine (HC.out _).mono ?_; rintro e w2 ⟨rfl, rfl⟩)
        | (go_at_call 49; refine (HL.out _).mono ?_; rintro e w2 ⟨rfl, rfl⟩))
      obtain ⟨u0, u1, hbf⟩ := sp_set M0.out hbw (1 + cnt) (k - li) _ rfl
      generalize World.setCell _ ⟨_, 1, none⟩ _ = W9 at *
      refine bodyPost_ret (v := .tuple #[.agg #[.int .i64 (1 + cnt), .int .i64 (k - li)], .int .i64 0]) (by simp [results, Tryz.results17, go_sem, u0, u1]) rfl ⟨?_, hbf⟩
      rw [b4]
      have e2 : (((k : Int) - li).toNat : Int) = k - li := by omega
      simp only [e2]
      rfl
  · have hr2 : r = ((0, 0), ce) := by rw [hr, if_pos h0]
    clear hr
    subst hr2
    have h0' : ((ce : Int) != 0) = true := by rw [bne_iff_ne]; omega
    go_enter Tryz.func17, Tryz.ntmps17
    go_wp2_with (go_at_call 16; refine (Hc.out _).mono ?_; rintro e w1 ⟨rfl, hb1⟩; obtain ⟨m0, hbw⟩ := sp_cells hb1; have c0 := cell_heap m0 0; have c1 := cell_heap m0 1; have f0 := frozen_heap m0 0; have f1 := frozen_heap m0 1; have M0 := hid m0; clear m0)
    obtain ⟨u0, u1, hbf⟩ := sp_set M0.out hbw 0 0 _ rfl
    generalize World.setCell _ ⟨_, 1, none⟩ _ = W9 at *
    refine bodyPost_ret (v := .tuple #[.agg #[.int .i64 0, .int .i64 0], .int .i64 ce]) (by simp [results, Tryz.results17, go_sem, u0, u1]) rfl ⟨rfl, hbf⟩
end Go.Proofs.YthknlifmkjdoeaaGreatDoor
