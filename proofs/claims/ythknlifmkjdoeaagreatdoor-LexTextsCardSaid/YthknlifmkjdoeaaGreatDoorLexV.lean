/-
  THE PROGRAM'S Place; THE REFERENCE'S Place and Offset.
-/
import Derived.Shelf.Abstract
import Derived.Shelf.RegionOpen
import Derived.WalkKit
import Derived.OwnWalkIn
import Derived.TacticsInMore
import Derived.LoopNIn
import Derived.LoopIn
import Derived.Test.YthknlifmkjdoeaaGreatDoorLexA
import Derived.Test.YthknlifmkjdoeaaGreatDoorLexE
import Derived.Test.YthknlifmkjdoeaaGreatDoorRefI
import Derived.Test.YthknlifmkjdoeaaGreatDoorLexJ
import Derived.Test.YthknlifmkjdoeaaGreatDoorRegion
import Derived.Test.YthknlifmkjdoeaaGreatDoorSpec
import Derived.Test.YthknlifmkjdoeaaGreatDoorLexL
namespace Lode
def place (s : List UInt8) (a : Int) : (Nat × Nat) × Nat := if (check s).2 ≠ 0 then ((0, 0), (check s).2) else if a < 0 ∨ (s.length : Int) < a then ((0, 0), 3) else (spot s a.toNat, 0)
end Lode
namespace Go.Proofs.YthknlifmkjdoeaaGreatDoor
open Go.RowKit Lode Go.Shelf
attribute [local go_sem ↓] Go.wp_at_zero Go.wp_at_succ
theorem spot_pre (s : ByteArray) (k : Nat) (hk : k ≤ s.size) : Lib.countByte (s.extract 0 k).data.toList 10 ≤ k ∧ -1 ≤ Lib.lastIndexByte (s.extract 0 k) 10 ∧ Lib.lastIndexByte (s.extract 0 k) 10 < k ∧
    spot s.data.toList k = (1 + Lib.countByte (s.extract 0 k).data.toList 10, ((k : Int) - Lib.lastIndexByte (s.extract 0 k) 10).toNat) := by
  have hsz : (s.extract 0 k).size = k := by simp; omega
  have hd : (s.extract 0 k).data.toList = s.data.toList.take k := by simp [List.extract_eq_take_drop]
  have h := spot_count (s.extract 0 k) k (by omega)
  have e : spot (s.extract 0 k).data.toList k = spot s.data.toList k := by rw [spot_eq, spot_eq, hd, List.take_take, Nat.min_self]
  rw [e, List.take_of_length_le (by rw [hd]; simp; omega)] at h
  have hl : Lib.lastIndexByte (s.extract 0 k) 10 = Lib.lastIdx (s.extract 0 k) 10 k := by unfold Lib.lastIndexByte; rw [hsz]
  rw [hl]
  refine ⟨?_, h.2.2, h.2.1, h.1⟩
  have := List.count_le_length (a := (10 : UInt8)) (l := (s.extract 0 k).data.toList)
  rw [hd] at this ⊢
  simp at this
  unfold Lib.countByte
  exact Nat.le_trans this (Nat.min_le_left _ _)
def PlPost (r : (Nat × Nat) × Nat) (w : World) (e : Ending) (w' : World) : Prop := e = .returned (.tuple #[.agg #[.int .i64 r.1.1, .int .i64 r.1.2], .int .i64 r.2]) ∧ Below w.heap.size w w'
theorem sp_cells {w W : World} (h : Below (w.alloc (.cells #[.int .i64 0, .int .i64 0] 23 (0, 0))).heap.size (w.alloc (.cells #[.int .i64 0, .int .i64 0] 23 (0, 0))) W) : W.heap[w.heap.size]? = some (.cells #[.int .i64 0, .int .i64 0] 23 (0, 0)) ∧ Below w.heap.size w W := ⟨heap_later h (heap_new _ _), below_then (below_alloc _ _) h⟩
theorem sp_set {w W : World} {x y : Value} (h : W.heap[w.heap.size]? = some (.cells #[x, y] 23 (0, 0))) (hb : Below w.heap.size w W) (a b : Int) (W9 : World) (e : W9 = (W.setCell ⟨w.heap.size, 0, none⟩ (.int .i64 a)).setCell ⟨w.heap.size, 1, none⟩ (.int .i64 b)) :
    W9.cell? ⟨w.heap.size, 0, none⟩ = some (.int .i64 a) ∧ W9.cell? ⟨w.heap.size, 1, none⟩ = some (.int .i64 b) ∧ Below w.heap.size w W9 := by
  subst e
  have h2 := set_heap (set_heap h 0 (.int .i64 a)) 1 (.int .i64 b)
  exact ⟨cell_heap h2 0, cell_heap h2 1, bl_set (bl_set hb _ _ (Nat.le_refl _) _) _ _ (Nat.le_refl _) _⟩
set_option maxRecDepth 100000 in
theorem lplace_any (s : ByteArray) (a : Int) (w : World) (hs : s.size ≤ 1000000000000) :
    Calls Tryz.prog 17 #[.string s, .int .i64 a] w (PlPost (place s.data.toList a) w) := by
  have Hc := hid (fun w => check_any s w (by omega))
  generalize hr : place s.data.toList a = r
  replace hr := hr.symm
  unfold place at hr
  generalize check s.data.toList = c at *
  obtain ⟨ca, ce⟩ := c
  simp only at hr
  by_cases h0 : ce = 0
  · subst h0
    simp only [ne_eq, not_true, if_false, Array.length_toList] at hr
    by_cases ha : a < 0 ∨ (s.size : Int) < a
    · have hr2 : r = ((0, 0), 3) := by rw [hr, if_pos (by simpa using ha)]
      clear hr
      subst hr2
      go_enter Tryz.func17, Tryz.ntmps17
      go_wp2_with (go_at_call 16; refine (Hc.out _).mono ?_; rintro e w1 ⟨rfl, hb1⟩; obtain ⟨m0, hbw⟩ := sp_cells hb1; have c0 := cell_heap m0 0; have c1 := cell_heap m0 1; have f0 := frozen_heap m0 0; have f1 := frozen_heap m0 1; have M0 := hid m0; clear m0)
      all_goals
        obtain ⟨u0, u1, hbf⟩ := sp_set M0.out hbw 0 0 _ rfl
        generalize World.setCell _ ⟨_, 1, none⟩ _ = W9 at *
        refine bodyPost_ret (v := .tuple #[.agg #[.int .i64 0, .int .i64 0], .int .i64 3]) (by simp [results, Tryz.results17, go_sem, u0, u1]) rfl ⟨rfl, hbf⟩
    · obtain ⟨k, rfl, hk⟩ : ∃ k : Nat, a = k ∧ k ≤ s.size := ⟨a.toNat, by omega, by omega⟩
      have hr2 : r = (spot s.data.toList k, 0) := by rw [hr, if_neg (by simpa using ha)]; rfl
      clear hr
      subst hr2
      obtain ⟨b1, b2, b3, b4⟩ := spot_pre s k hk
      have HC := hid (fun w => Tryz.strings_Count_one (s.extract 0 k) 10 w)
      have HL := hid (fun w => Tryz.strings_LastIndexByte (s.extract 0 k) 10 (by simp; omega) w)
      generalize Lib.countByte (s.extract 0 k).data.toList 10 = cnt at *
      generalize Lib.lastIndexByte (s.extract 0 k) 10 = li at *
      have hkI : ¬ ((k : Int) < 0) := by omega
      have hkI2 : ¬ ((s.size : Int) < k) := by omega
      go_enter Tryz.func17, Tryz.ntmps17
      go_wp2_with (first
        | (go_at_call 16; refine (Hc.out _).mono ?_; rintro e w1 ⟨rfl, hb1⟩; obtain ⟨m0, hbw⟩ := sp_cells hb1; have c0 := cell_heap m0 0; have c1 := cell_heap m0 1; have f0 := frozen_heap m0 0; have f1 := frozen_heap m0 1; have M0 := hid m0; clear m0)
        | (go_at_call 48; refine (HC.out _).mono ?_; rintro e w2 ⟨rfl, rfl⟩)
        | (go_at_call 49; refine (HL.out _).mono ?_; rintro e w2 ⟨rfl, rfl⟩))
      obtain ⟨u0, u1, hbf⟩ := sp_set M0.out hbw (1 + cnt) (k - li) _ rfl
      generalize World.setCell _ ⟨_, 1, none⟩ _ = W9 at *
      refine bodyPost_ret (v := .tuple #[.agg #[.int .i64 (1 + cnt), .int .i64 (k - li)], .int .i64 0]) (by simp [results, Tryz.results17, go_sem, u0, u1]) rfl ⟨?_, hbf⟩
      rw [b4]
      have e2 : (((k : Int) - li).toNat : Int) = k - li := by omega
      simp only [e2]
      rfl
  · have hr2 : r = ((0, 0), ce) := by rw [hr, if_pos h0]
    clear hr
    subst hr2
    have h0' : ((ce : Int) != 0) = true := by rw [bne_iff_ne]; omega
    go_enter Tryz.func17, Tryz.ntmps17
    go_wp2_with (go_at_call 16; refine (Hc.out _).mono ?_; rintro e w1 ⟨rfl, hb1⟩; obtain ⟨m0, hbw⟩ := sp_cells hb1; have c0 := cell_heap m0 0; have c1 := cell_heap m0 1; have f0 := frozen_heap m0 0; have f1 := frozen_heap m0 1; have M0 := hid m0; clear m0)
    obtain ⟨u0, u1, hbf⟩ := sp_set M0.out hbw 0 0 _ rfl
    generalize World.setCell _ ⟨_, 1, none⟩ _ = W9 at *
    refine bodyPost_ret (v := .tuple #[.agg #[.int .i64 0, .int .i64 0], .int .i64 ce]) (by simp [results, Tryz.results17, go_sem, u0, u1]) rfl ⟨rfl, hbf⟩
end Go.Proofs.YthknlifmkjdoeaaGreatDoor

/-
  strings.SplitSeq at one byte, for every loop body.
-/
namespace Go.Proofs.YthknlifmkjdoeaaGreatDoor
open Go.RowKit Lode Go.Shelf
attribute [local go_sem] Oper.semAt_some
theorem lines_ix : ∀ r : List UInt8, (Lib.indexByte r 10 = -1 ∧ lines r = [r]) ∨ ∃ n : Nat, Lib.indexByte r 10 = n ∧ n < r.length ∧ lines r = r.take n :: lines (r.drop (n + 1))
  | [] => .inl ⟨rfl, rfl⟩
  | c :: r => by
    by_cases hc : c = 10
    · subst hc
      exact .inr ⟨0, by simp [Lib.indexByte], by simp, by simp [lines]⟩
    · have hc' : (c == 10) = false := by simpa using hc
      rcases lines_ix r with ⟨h1, h2⟩ | ⟨n, h1, h2, h3⟩
      · exact .inl ⟨by simp [Lib.indexByte, hc', h1], by simp [lines, hc, h2]⟩
      · refine .inr ⟨n + 1, ?_, by simp; omega, by simp [lines, hc, h3]⟩
        have : ¬ ((n : Int) = -1) := by omega
        simp [Lib.indexByte, hc', h1, this]
/-- the iterator's three variables: what is split, by what, and a number -/
structure SpB (w : World) (P Q V : Nat) (t : ByteArray) : Prop where
  p : w.heap[P]? = some (.cells #[.string ⟨#[10]⟩] 9 (0, 0))
  q : w.heap[Q]? = some (.cells #[.string t] 9 (0, 0))
  v : w.heap[V]? = some (.cells #[.int .i64 0] 3 (0, 0))
  ne1 : P ≠ Q
  ne2 : V ≠ Q
theorem SpB.below {w w' : World} {P Q V : Nat} {t : ByteArray} (h : SpB w P Q V t) (hb : Below w.heap.size w w') : SpB w' P Q V t := ⟨heap_later hb h.p, heap_later hb h.q, heap_later hb h.v, h.ne1, h.ne2⟩
theorem SpB.set {w : World} {P Q V : Nat} {t : ByteArray} (h : SpB w P Q V t) (t' : ByteArray) : SpB (w.setCell ⟨Q, 0, none⟩ (.string t')) P Q V t' := ⟨(set_far h.ne1).trans h.p, set_heap h.q 0 _, (set_far h.ne2).trans h.v, h.ne1, h.ne2⟩
def strLen (Q : Nat) (w : World) : Nat := match w.cell? ⟨Q, 0, none⟩ with | some (.string t) => t.size | _ => 0
theorem SpB.len {w : World} {P Q V : Nat} {t : ByteArray} (h : SpB w P Q V t) : strLen Q w = t.size := by
  have := cell_heap h.q 0
  simp [strLen, this]
def KpS (P Q V : Nat) (W W' : World) : Prop := ∀ t, SpB W P Q V t → SpB W' P Q V t
def SsRel (P Q V : Nat) (s : List UInt8) (J : List (List UInt8) → World → Prop) (wr : World) : Prop :=
  ∃ (pre : List (List UInt8)) (t : ByteArray), lines s = pre ++ lines t.data.toList ∧ t.size ≤ s.length ∧ SpB wr P Q V t ∧ J pre wr
abbrev strV (l : List UInt8) : Value := .string ⟨l.toArray⟩
set_option maxHeartbeats 2000000 in
set_option maxRecDepth 100000 in
theorem split_seq (P Q V : Nat) (s : ByteArray) (w : World) (hs : s.size ≤ 1000000000000) (hB : SpB w P Q V s) (n : Nat) (hn : 1 ≤ n) :
    SeqR Fence.wide n Tryz.prog 100 #[] #[.pointer (some ⟨P, 0, none⟩), .pointer (some ⟨Q, 0, none⟩), .pointer (some ⟨V, 0, none⟩)] strV (KpS P Q V) (fun pre x => ∃ post, lines s.data.toList = pre ++ x :: post) Q (fun xs => xs = lines s.data.toList) (fun _ => True) w := fun l J Jx W hW hJ hJx hY h0 => by
  have hB : SpB W P Q V s := hB.below hW
  refine callsIn_of_wp Tryz.func100 rfl trivial ?_ rfl
  simp only [Tryz.ntmps100, List.size_toArray, List.length_cons, List.length_nil, Nat.reduceAdd, Nat.reduceSub, Array.replicate_succ, Array.replicate_zero, List.push_toArray, List.append_toArray, List.nil_append, List.cons_append]
  have HJ := hid hJ
  have c1 := cell_heap hB.p 0
  clear hJ
  gi_wp2_with fail
  clear c1
  gi_loopw [] (fun wr => SsRel P Q V s.data.toList J wr) (fun wr => strLen Q wr)
  case atStart => exact ⟨[], s, by simp, by simp, hB, h0⟩
  case round =>
    obtain ⟨pre, t, hli, hts, hb, hj⟩ := hrel
    have c0 := cell_heap hb.p 0
    have c1 := cell_heap hb.q 0
    have c2 := cell_heap hb.v 0
    have f1 := frozen_heap hb.q 0
    have HI := hid (Tryz.strings_Index_one t 10 wr)
    simp only [Array.length_toList] at hts
    have htsz : t.size ≤ s.size := hts
    rcases lines_ix t.data.toList with ⟨h1, h2⟩ | ⟨k, h1, h2, h3⟩
    · rw [h1] at HI
      obtain ⟨fn, tm, asg, bo, hy, hRR⟩ := hY pre t.data.toList wr hj ⟨[], by rw [hli, h2]⟩
      rw [show strV t.data.toList = .string t from congrArg Value.string (ba_eta t).symm] at hy
      have hRR := hid hRR
      gi_wp2_with (refine ⟨trivial, ?_⟩; gi_at_call 80; refine (callsIn_wide.2 (HI.out)).mono ?_; rintro e W1 ⟨rfl, rfl⟩)
      refine hRR.out.mono ?_
      rintro e W' (⟨rfl, hJ', _⟩ | ⟨rfl, hJx'⟩)
      · gi_wp2
        go_end0
        exact ⟨⟨_, rfl⟩, .inl ⟨_, by rw [hli, h2], hJ'⟩⟩
      · gi_wp2
        go_end0
        exact ⟨⟨_, rfl⟩, .inr ⟨_, trivial, hJx'⟩⟩
    · rw [h1] at HI
      have h2' : k < t.size := by simpa using h2
      obtain ⟨fn, tm, asg, bo, hy, hRR⟩ := hY pre (t.data.toList.take k) wr hj ⟨lines (t.data.toList.drop (k + 1)), by rw [hli, h3]⟩
      have hex : (t.extract 0 k).data.toList = t.data.toList.take k := by simp [List.extract_eq_take_drop]
      rw [show strV (t.data.toList.take k) = .string (t.extract 0 k) from by show Value.string _ = _; rw [← hex, ← ba_eta]] at hy
      have hRR := hid hRR
      have hdr : (t.extract (k + 1) t.size).data.toList = t.data.toList.drop (k + 1) := by rw [show (t.extract (k + 1) t.size).data.toList = (t.data.toList.drop (k + 1)).take (t.size - (k + 1)) from by simp [List.extract_eq_take_drop]]; exact List.take_of_length_le (by simp)
      have hnext := hid (show lines s.data.toList = (pre ++ [t.data.toList.take k]) ++ lines (t.extract (k + 1) t.size).data.toList by rw [hli, h3, hdr]; simp)
      have e1 : ((k : Int) + 1) ≤ (t.size : Int) := by omega
      gi_wp2_with (refine ⟨trivial, ?_⟩; gi_at_call 80; refine (callsIn_wide.2 (HI.out)).mono ?_; rintro e W1 ⟨rfl, rfl⟩)
      refine hRR.out.mono ?_
      rintro e W6 (⟨rfl, hJ6, hk6⟩ | ⟨rfl, hJx6⟩)
      · have hb6 := hk6 _ hb
        clear c0 c1 c2 f1
        have c0 := cell_heap hb6.p 0
        have c1 := cell_heap hb6.q 0
        have c2 := cell_heap hb6.v 0
        have f1 := frozen_heap hb6.q 0
        gi_wp2
        go_roundw
        case rel => exact ⟨_, _, hnext.out, by simp; omega, hb6.set _, HJ.out _ _ _ (some Q) hJ6 (grown_set _ Q 0 _) (fun r e => by cases e; rfl)⟩
        case measure => rw [(hb6.set _).len, hb.len]; simp; omega
      · gi_wp2
        refine bodyPost_ret (results_none rfl _ _ _) rfl ?_
        exact ⟨⟨_, rfl⟩, .inr ⟨_, trivial, hJx6⟩⟩
/-- SplitSeq hands back the iterator, over three new variables -/
theorem splitSeq_any (s : ByteArray) (w : World) :
    Calls Tryz.prog 50 #[.string s, .string ⟨#[10]⟩] w fun e w' => e = .returned (.func (.func 100) #[] #[.pointer (some ⟨w.heap.size + 1, 0, none⟩), .pointer (some ⟨w.heap.size, 0, none⟩), .pointer (some ⟨w.heap.size + 2, 0, none⟩)]) ∧ SpB w' (w.heap.size + 1) w.heap.size (w.heap.size + 2) s ∧ Below w.heap.size w w' := by
  have HS : Hid (Calls Tryz.prog 82 #[.string s, .string ⟨#[10]⟩, .int .i64 0] w fun e w' => e = .returned (.func (.func 100) #[] #[.pointer (some ⟨w.heap.size + 1, 0, none⟩), .pointer (some ⟨w.heap.size, 0, none⟩), .pointer (some ⟨w.heap.size + 2, 0, none⟩)]) ∧ SpB w' (w.heap.size + 1) w.heap.size (w.heap.size + 2) s ∧ Below w.heap.size w w') := hid (by
    go_enter Tryz.func82, Tryz.ntmps82
    go_wp2_with fail
    go_ret
    refine ⟨rfl, ⟨heap_old _ (heap_at _ _ _ (by simp)), heap_old _ (heap_old _ (heap_new _ _)), heap_at _ _ _ (by simp), by omega, by omega⟩, bl_alloc (bl_alloc (below_alloc _ _) _) _⟩)
  go_enter Tryz.func50, Tryz.ntmps50
  go_wp2_with (go_at_call 82; refine HS.out.mono ?_; rintro e w1 ⟨rfl, h1, h2⟩)
  go_ret
  exact ⟨rfl, h1, h2⟩
end Go.Proofs.YthknlifmkjdoeaaGreatDoor

/-
  THE PROGRAM'S Offset.
-/
namespace Lode
/-- how many bytes lines have, with their ends -/
def span : List (List UInt8) → Nat
  | [] => 0
  | l :: ls => l.length + 1 + span ls
theorem span_app : ∀ a b, span (a ++ b) = span a + span b
  | [], b => by simp [span]
  | l :: a, b => by simp only [List.cons_append, span, span_app a b]; omega
theorem span_len : ∀ a, a.length ≤ span a
  | [] => by simp
  | l :: a => by have := span_len a; simp only [List.length_cons, span]; omega
theorem span_lines : ∀ r, span (lines r) = r.length + 1
  | [] => rfl
  | c :: r => by
    have ih := span_lines r
    simp only [lines]
    split
    · simp only [span, List.length_nil, List.length_cons, ih]; omega
    · split
      · rename_i l ls h
        rw [h] at ih
        simp only [span, List.length_cons] at *; omega
      · rename_i h; exact absurd h (lines_ne r)
end Lode
namespace Go.Proofs.YthknlifmkjdoeaaGreatDoor
open Go.RowKit Lode Go.Shelf
attribute [local go_sem] Oper.semAt_some
/-- between two lines: the place and the number of the next line -/
structure OfI (w : World) (b : Nat) (ln col : Int) (s : List UInt8) (r : Nat × Nat) (pre : List (List UInt8)) (W : World) : Prop where
  rest : ∃ rest, lines s = pre ++ rest ∧ r = offL ln col (span pre) (1 + pre.length) rest
  below : Below w.heap.size w W
  p : W.heap[w.heap.size]? = some (.cells #[.int .i64 ln, .int .i64 col] 23 (0, 0))
  r0 : W.heap[w.heap.size + 1]? = some (.cells #[.int .i64 0] 3 (0, 0))
  r1 : W.heap[w.heap.size + 1 + 1]? = some (.cells #[.int .i64 0] 25 (0, 0))
  a : W.heap[b]? = some (.cells #[.int .i64 (span pre : Nat)] 3 (0, 0))
  n : W.heap[b + 1]? = some (.cells #[.int .i64 (1 + pre.length : Nat)] 3 (0, 0))
theorem OfI.own (w : World) (b : Nat) (ln col : Int) (s : List UInt8) (r : Nat × Nat) (R B : Nat) (h1 : w.heap.size + 1 + 1 < b) (h2 : b + 1 < R) (h3 : R < B) : OwnR R B (OfI w b ln col s r) := fun pre W W' row h hg hr =>
  ⟨h.rest, grown_belowR h.below hg hr (by omega) (by omega), grown_keep hg hr h.p (by omega) (by omega), grown_keep hg hr h.r0 (by omega) (by omega), grown_keep hg hr h.r1 (by omega) (by omega), grown_keep hg hr h.a (by omega) (by omega), grown_keep hg hr h.n (by omega) (by omega)⟩
structure OfR (w : World) (r : Nat × Nat) (W : World) : Prop where
  below : Below w.heap.size w W
  r0 : W.heap[w.heap.size + 1]? = some (.cells #[.int .i64 r.1] 3 (0, 0))
  r1 : W.heap[w.heap.size + 1 + 1]? = some (.cells #[.int .i64 r.2] 25 (0, 0))
theorem OfR.own (w : World) (r : Nat × Nat) (R B : Nat) (h1 : w.heap.size + 1 + 1 < R) (h3 : R < B) (c c' : Code) : OwnR R B (fun (_ : List (List UInt8)) W => c = c' ∧ OfR w r W) := fun pre W W' row ⟨hc, h⟩ hg hr =>
  ⟨hc, grown_belowR h.below hg hr (by omega) (by omega), grown_keep hg hr h.r0 (by omega) (by omega), grown_keep hg hr h.r1 (by omega) (by omega)⟩
theorem KpS.put {P Q V : Nat} {W : World} {l : Nat} {o o' : Obj} (ho : W.heap[l]? = some o) (hc : o.isCells = false) : KpS P Q V W (W.putObj l o') := by
  have key : ∀ {k : Nat} {cs : Array Value} {T : TypeId} {fr : Nat × Nat}, W.heap[k]? = some (.cells cs T fr) → (W.putObj l o').heap[k]? = some (.cells cs T fr) := fun hk =>
    (World.putObj_heap_other (fun e => by subst e; rw [hk] at ho; cases ho; cases hc)).trans hk
  exact fun t h => ⟨key h.p, key h.q, key h.v, h.ne1, h.ne2⟩
theorem KpS.far {P Q V b : Nat} {W : World} {i : Nat} {v : Value} (h1 : P ≠ b) (h2 : Q ≠ b) (h3 : V ≠ b) : KpS P Q V W (W.setCell ⟨b, i, none⟩ v) := fun _ h => ⟨(set_far h1).trans h.p, (set_far h2).trans h.q, (set_far h3).trans h.v, h.ne1, h.ne2⟩
theorem of_res {w W : World} {x y : Value} {r : Nat × Nat} (hb : Below w.heap.size w W) (h0 : W.heap[w.heap.size + 1]? = some (.cells #[x] 3 (0, 0))) (h1 : W.heap[w.heap.size + 1 + 1]? = some (.cells #[y] 25 (0, 0))) (a : Int) (e : Int) (ha : a = r.1) (he : e = r.2) (W9 : World)
    (h9 : W9 = (W.setCell ⟨w.heap.size + 1, 0, none⟩ (.int .i64 a)).setCell ⟨w.heap.size + 1 + 1, 0, none⟩ (.int .i64 e)) : KeepsOthers W W9 ∧ OfR w r W9 := by
  subst h9 ha he
  exact ⟨(KeepsOthers.setCell W ⟨w.heap.size + 1, 0, none⟩ _).trans (KeepsOthers.setCell _ ⟨w.heap.size + 1 + 1, 0, none⟩ _), bl_set (bl_set hb _ _ (by omega) _) _ _ (by omega) _, (set_far (by omega)).trans (set_heap h0 0 _), set_heap ((set_far (by omega)).trans h1) 0 _⟩
theorem of_next {w W : World} {b : Nat} {ln col : Int} {s : List UInt8} {r : Nat × Nat} {pre : List (List UInt8)} {x : List UInt8} (h : OfI w b ln col s r pre W) (hlt : w.heap.size + 1 + 1 < b) (hr : ∃ rest, lines s = (pre ++ [x]) ++ rest ∧ r = offL ln col (span (pre ++ [x])) (1 + (pre ++ [x]).length) rest) (a n : Int) (ha : a = span (pre ++ [x])) (hn : n = (1 + (pre ++ [x]).length : Nat)) (W9 : World)
    (h9 : W9 = ((W.setCell ⟨b, 0, none⟩ (.int .i64 a)).setCell ⟨b + 1, 0, none⟩ (.int .i64 n)).drew) : KeepsOthers W W9 ∧ KpS (b + 1 + 1 + 1) (b + 1 + 1) (b + 1 + 1 + 2) W W9 ∧ OfI w b ln col s r (pre ++ [x]) W9 := by
  subst h9 ha hn
  have hk := (KeepsOthers.setCell W ⟨b, 0, none⟩ (.int .i64 (span (pre ++ [x]) : Nat))).trans (KeepsOthers.setCell _ ⟨b + 1, 0, none⟩ (.int .i64 (1 + (pre ++ [x]).length : Nat)))
  have key : ∀ {k : Nat} {o : Option Obj}, W.heap[k]? = o → k ≠ b → k ≠ b + 1 → ((W.setCell ⟨b, 0, none⟩ (.int .i64 (span (pre ++ [x]) : Nat))).setCell ⟨b + 1, 0, none⟩ (.int .i64 (1 + (pre ++ [x]).length : Nat))).heap[k]? = o := fun h h1 h2 => (set_far h2).trans ((set_far h1).trans h)
  refine ⟨⟨hk.size, hk.same⟩, fun t ht => ⟨key ht.p (by omega) (by omega), key ht.q (by omega) (by omega), key ht.v (by omega) (by omega), ht.ne1, ht.ne2⟩, hr, ?_, key h.p (by omega) (by omega), key h.r0 (by omega) (by omega), key h.r1 (by omega) (by omega), ?_, ?_⟩
  · exact (bl_set (bl_set h.below _ _ (by omega) _) _ _ (by omega) _).drew
  · exact (set_far (by omega)).trans (set_heap h.a 0 _)
  · exact set_heap ((set_far (by omega)).trans h.n) 0 _
theorem of3 {w W1 : World} {ln col : Int} (h : Below (((w.alloc (.cells #[.int .i64 ln, .int .i64 col] 23 (0, 0))).alloc (.cells #[.int .i64 0] 3 (0, 0))).alloc (.cells #[.int .i64 0] 25 (0, 0))).heap.size (((w.alloc (.cells #[.int .i64 ln, .int .i64 col] 23 (0, 0))).alloc (.cells #[.int .i64 0] 3 (0, 0))).alloc (.cells #[.int .i64 0] 25 (0, 0))) W1) :
    W1.heap[w.heap.size]? = some (.cells #[.int .i64 ln, .int .i64 col] 23 (0, 0)) ∧ W1.heap[w.heap.size + 1]? = some (.cells #[.int .i64 0] 3 (0, 0)) ∧ W1.heap[w.heap.size + 1 + 1]? = some (.cells #[.int .i64 0] 25 (0, 0)) ∧ Below w.heap.size w W1 ∧ w.heap.size + 1 + 1 < W1.heap.size :=
  ⟨heap_later h (heap_old _ (heap_old _ (heap_new _ _))), heap_later h (heap_old _ (heap_at _ _ _ (by simp))), heap_later h (heap_at _ _ _ (by simp)), below_then (bl_alloc (bl_alloc (below_alloc _ _) _) _) h, by have := h.size; simp at this; omega⟩
def ofAct (s : ByteArray) (ln col : Int) (w W1 : World) (ca : Nat) (x : List UInt8) : Act := { tmps := #[.string s, .agg #[.int .i64 ln, .int .i64 col], undef, .pointer (some ⟨w.heap.size, 0, none⟩), .pointer (some ⟨w.heap.size + 1, 0, none⟩), .pointer (some ⟨w.heap.size + 1 + 1, 0, none⟩), .int .i64 ca, .int .i64 0, .pointer (some ⟨W1.heap.size, 0, none⟩), .pointer (some ⟨W1.heap.size + 1, 0, none⟩), strV x, .tuple #[.int .i64 ca, .int .i64 0], .string s, .tuple #[.int .i64 ca, .int .i64 0], .int .i64 ca, .int .i64 0, .int .i64 0, .bool false, undef, .string s, .func (.func 100) #[] #[.pointer (some ⟨W1.heap.size + 1 + 1 + 1, 0, none⟩), .pointer (some ⟨W1.heap.size + 1 + 1, 0, none⟩), .pointer (some ⟨W1.heap.size + 1 + 1 + 2, 0, none⟩)], strV x, undef, undef, undef, undef, undef, undef, undef, undef, undef, undef, undef, undef, undef, undef, undef, undef, undef, undef, undef, undef, undef, undef, undef, undef, undef, undef, undef], defers := [] }
def OPost (r : Nat × Nat) (w : World) (e : Ending) (w' : World) : Prop := e = .returned (.tuple #[.int .i64 r.1, .int .i64 r.2]) ∧ Below w.heap.size w w'
set_option maxHeartbeats 2000000 in
set_option maxRecDepth 100000 in
theorem loffset_any (s : ByteArray) (ln col : Int) (w : World) (hs : s.size ≤ 1000000000000) :
    Calls Tryz.prog 18 #[.string s, .agg #[.int .i64 ln, .int .i64 col]] w (OPost (offset s.data.toList ln col) w) := by
  generalize hr : offset s.data.toList ln col = r
  have Hr := hid hr; clear hr
  have Hc := hid (fun w => check_any s w (by omega))
  generalize hc : check s.data.toList = c at *
  obtain ⟨ca, ce⟩ := c
  have Hcc := hid hc; clear hc
  refine (callsIn_wide (n := 5)).1 ?_
  refine callsIn_of_wp_marks Tryz.func18 rfl trivial ?_ rfl
  simp only [Tryz.ntmps18, List.size_toArray, List.length_cons, List.length_nil, Nat.reduceAdd, Nat.reduceSub, Array.replicate_succ, Array.replicate_zero, List.push_toArray, List.append_toArray, List.nil_append, List.cons_append]
  by_cases he : ce = 0
  · subst he
    gi_wp2_with (first
      | (refine ⟨trivial, ?_⟩; gi_at_call 16; refine (callsIn_wide.2 (Hc.out _)).mono ?_; rintro e W1 ⟨rfl, hb1⟩; obtain ⟨m0, m1, m2, hbw1, hlt1⟩ := of3 hb1)
      | (refine ⟨trivial, ?_⟩; gi_at_call 50; refine (callsIn_wide.2 (splitSeq_any s _)).mono ?_; rintro e W2 ⟨rfl, hsp, hb2⟩))
    have hs2 := hb2.size
    simp only [World.size_alloc] at hs2 hsp
    have hRlt : W1.heap.size + 1 + 1 < W2.heap.size := (Array.getElem?_eq_some_iff.1 hsp.q).1
    have hbW := below_then (bl_alloc (below_alloc W1 (.cells #[.int .i64 0] 3 (0, 0))) (.cells #[.int .i64 1] 3 (0, 0))) hb2
    have m0 := heap_later hbW m0
    have m1 := heap_later hbW m1
    have m2 := heap_later hbW m2
    have m3 : W2.heap[W1.heap.size]? = some (.cells #[.int .i64 0] 3 (0, 0)) := heap_later hb2 (heap_old _ (heap_new _ _))
    have m4 : W2.heap[W1.heap.size + 1]? = some (.cells #[.int .i64 1] 3 (0, 0)) := heap_later hb2 (heap_at _ _ _ (by simp))
    have hbw2 := below_then hbw1 hbW
    have hrr : r = offL ln col 0 1 (lines s.data.toList) := by rw [← Hr.out, offset, Hcc.out, offL_lines]; rfl
    have Hrr := hid hrr; clear hrr
    refine wpIn_range_R rfl (by omega) (gf := 100) (la := #[]) (lb := #[.pointer (some ⟨W1.heap.size + 1 + 1 + 1, 0, none⟩), .pointer (some ⟨W1.heap.size + 1 + 1, 0, none⟩), .pointer (some ⟨W1.heap.size + 1 + 1 + 2, 0, none⟩)]) rfl trivial (enters_of Tryz.func100 (by kernel_rfl) rfl)
      (split_seq _ _ _ s W2 hs hsp _ (by omega)) hRlt (fun h k t x => k t (h t x)) (fun W l o o' _ ho hc => KpS.put ho hc)
      (OfI w W1.heap.size ln col s.data.toList r) (fun c _ W => c = .ret ∧ OfR w r W) (OfI.own w _ ln col _ r _ _ hlt1 (by omega) hRlt) (fun c => OfR.own w r _ _ (by omega) hRlt c .ret)
      ⟨⟨lines s.data.toList, rfl, Hrr.out⟩, hbw2, m0, m1, m2, m3, m4⟩
      (fun pre x a' W => OfI w W1.heap.size ln col s.data.toList r pre W ∧ a' = ofAct s ln col w W1 ca x)
      (fun pre x a' W l o o' ⟨h1, h4⟩ hl ho hc => ⟨OfI.own w _ ln col _ r _ _ hlt1 (by omega) hRlt pre W _ (some l) h1 (grownBy_putObj' W l o') (fun r e => by cases e; exact .inr ⟨hl, o, ho, hc⟩), h4⟩) ?assign ?body ?done ?stop
    case assign =>
      intro l pre x W K hI hG hK
      gi_wp2
      exact hK _ _ (KeepsOthers.refl _) (fun t h => h) ⟨hI, rfl⟩
    case body =>
      rintro l pre x a' W ⟨hI, rfl⟩ ⟨post, hG⟩
      obtain ⟨rest, hrest, hr⟩ := hI.rest
      rw [hG, List.append_cancel_left_eq] at hrest
      subst hrest
      have hspan : span pre + (x.length + 1) + span post = s.size + 1 := by
        have := span_lines s.data.toList
        rw [hG, span_app, span] at this
        simp at this; omega
      have hpl := span_len pre
      simp only [offL] at hr
      have c0 := cell_heap hI.p 0
      have c1 := cell_heap hI.p 1
      have d0 := cell_heap hI.r0 0
      have d1 := cell_heap hI.r1 0
      have f0 := frozen_heap hI.r0 0
      have f1 := frozen_heap hI.r1 0
      have e0 := cell_heap hI.a 0
      have e1 := cell_heap hI.n 0
      have g0 := frozen_heap hI.a 0
      have g1 := frozen_heap hI.n 0
      have HI := hid hI
      clear hI
      have hxs : (⟨x.toArray⟩ : ByteArray).size = x.length := rfl
      have hpre2 : span (pre ++ [x]) = span pre + x.length + 1 := by rw [span_app]; simp [span]; omega
      have hlen2 : 1 + (pre ++ [x]).length = 1 + pre.length + 1 := by simp; omega
      have HG := hid hG; clear hG
      have HP := hid (And.intro hpre2 hlen2); clear hpre2 hlen2
      obtain ⟨sp, hsp2⟩ : ∃ sp, span pre = sp := ⟨_, rfl⟩
      obtain ⟨nl, hnl⟩ : ∃ nl, 1 + pre.length = nl := ⟨_, rfl⟩
      rw [hsp2] at hspan hr e0 HP
      rw [hnl] at hr e1 HP
      have hnl' : nl ≤ sp + 1 := by omega
      have Hsp2 := hid hsp2
      have Hnl := hid hnl
      clear hsp2 hnl hpl
      unfold ofAct
      by_cases hln : (nl : Int) = ln
      · rw [if_pos hln] at hr
        by_cases hcol : col < 1 ∨ (x.length : Int) + 1 < col
        · rw [if_pos hcol] at hr
          have Hr2 := hid hr; clear hr
          gi_wp2
          all_goals
            have h := of_res HI.out.below HI.out.r0 HI.out.r1 (r := r) 0 3 (by rw [Hr2.out]; rfl) (by rw [Hr2.out]; rfl) _ rfl
            exact ⟨h.1, rfl, h.2⟩
        · rw [if_neg hcol] at hr
          have Hr2 := hid hr; clear hr
          gi_wp2
          all_goals
            have h := of_res HI.out.below HI.out.r0 HI.out.r1 (r := r) (sp + col - 1) 0 (by rw [Hr2.out]; simp only []; omega) (by rw [Hr2.out]; rfl) _ rfl
            exact ⟨h.1, rfl, h.2⟩
      · rw [if_neg hln] at hr
        have Hr2 := hid hr; clear hr
        have hnln : ((nl : Int) == ln) = false := by rw [beq_eq_false_iff_ne]; exact hln
        have hfin := hid (of_next (pre := pre) (x := x) HI.out hlt1 ⟨post, by rw [HG.out]; simp, by rw [HP.out.1, HP.out.2, ← Hr2.out]⟩ (sp + x.length + 1) (nl + 1) (by rw [HP.out.1]; omega) (by rw [HP.out.2]; omega) _ rfl)
        have w1 : IntKind.i64.wrap ((sp : Int) + x.length) = sp + x.length := IntWalk.i64_in _ (by omega)
        have w2 : IntKind.i64.wrap ((sp : Int) + x.length + 1) = sp + x.length + 1 := IntWalk.i64_in _ (by omega)
        have w3 : IntKind.i64.wrap ((nl : Int) + 1) = nl + 1 := IntWalk.i64_in _ (by omega)
        gi_wp2
        clear HI HG HP Hsp2 Hnl Hr2 hxs c0 c1 d0 d1 f0 f1
        gi_region
        all_goals
          gi_wp2
          exact ⟨hfin.out.1, hfin.out.2.1, hfin.out.2.2⟩
    case done =>
      rintro D xs W rfl hI hD hK
      obtain ⟨rest, hrest, hr⟩ := hI.rest
      have hn : rest = [] := by simpa using hrest
      subst hn
      simp only [offL] at hr
      subst hr
      have d0 := cell_heap hI.r0 0
      have d1 := cell_heap hI.r1 0
      have f0 := frozen_heap hI.r0 0
      have f1 := frozen_heap hI.r1 0
      have HI := hid hI
      clear hI hrest
      gi_wp2
      have hx := (of_res HI.out.below HI.out.r0 HI.out.r1 (r := (0, 3)) 0 3 rfl rfl _ rfl)
      generalize World.setCell _ ⟨w.heap.size + 1 + 1, 0, none⟩ _ = W9 at hx ⊢
      obtain ⟨hko, hx⟩ := hx
      have hK := hko.same D _ hK rfl
      have u0 := cell_heap (put_heap (l := D) (o' := .deferred none) hx.r0 (by omega)) 0
      have u1 := cell_heap (put_heap (l := D) (o' := .deferred none) hx.r1 (by omega)) 0
      refine ⟨by simp, .inl ⟨_, _, rfl, run_takeDeferred hK, ?_⟩⟩
      refine ⟨.tuple #[.int .i64 0, .int .i64 3], by simp [results, Tryz.results18, go_sem, u0, u1], rfl, ?_⟩
      exact grown_belowR hx.below (grownBy_putObj' W9 D _) (R := D) (B := D) (fun r e => by cases e; exact .inl rfl) (by omega) (by omega)
    case stop =>
      rintro D c pre W _ ⟨rfl, hx⟩ hD hK
      gi_wp2
      have u0 := cell_heap (put_heap (l := D) (o' := .deferred none) hx.r0 (by omega)) 0
      have u1 := cell_heap (put_heap (l := D) (o' := .deferred none) hx.r1 (by omega)) 0
      refine ⟨by simp, .inl ⟨_, _, rfl, run_takeDeferred hK, ?_⟩⟩
      refine ⟨.tuple #[.int .i64 r.1, .int .i64 r.2], by simp [results, Tryz.results18, go_sem, u0, u1], rfl, ?_⟩
      exact grown_belowR hx.below (grownBy_putObj' W D _) (R := D) (B := D) (fun r e => by cases e; exact .inl rfl) (by omega) (by omega)
  · have he' : ((ce : Int) != 0) = true := by simpa using he
    gi_wp2_with (first
      | (refine ⟨trivial, ?_⟩; gi_at_call 16; refine (callsIn_wide.2 (Hc.out _)).mono ?_; rintro e W1 ⟨rfl, hb1⟩; obtain ⟨m0, m1, m2, hbw1, hlt1⟩ := of3 hb1; have c0 := cell_heap m1 0; have c1 := cell_heap m2 0; have f0 := frozen_heap m1 0; have f1 := frozen_heap m2 0; have M := hid (And.intro m1 m2); clear m0 m1 m2))
    have hx := (of_res hbw1 M.out.1 M.out.2 (r := r) 0 ce (by rw [← Hr.out, offset, Hcc.out]; simp [he]) (by rw [← Hr.out, offset, Hcc.out]; simp [he]) _ rfl).2
    generalize World.setCell _ ⟨w.heap.size + 1 + 1, 0, none⟩ _ = W9 at hx ⊢
    have u0 := cell_heap hx.r0 0
    have u1 := cell_heap hx.r1 0
    exact ⟨.tuple #[.int .i64 r.1, .int .i64 r.2], by simp [results, Tryz.results18, go_sem, u0, u1], rfl, hx.below⟩
end Go.Proofs.YthknlifmkjdoeaaGreatDoor
