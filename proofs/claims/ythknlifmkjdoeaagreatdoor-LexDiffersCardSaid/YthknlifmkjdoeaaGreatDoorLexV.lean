/-
  strings.SplitSeq at one byte, for every loop body.
-/
import Derived.Test.YthknlifmkjdoeaaGreatDoorLexK
import Derived.Test.YthknlifmkjdoeaaGreatDoorSeq
import Derived.Test.YthknlifmkjdoeaaGreatDoorPlaceP
import Derived.Shelf.Abstract
import Derived.Shelf.RegionOpen
import Derived.WalkKit
import Derived.OwnWalkIn
import Derived.TacticsInMore
import Derived.LoopNIn
import Derived.LoopIn
namespace Go.Proofs.YthknlifmkjdoeaaGreatDoor
open Go.RowKit Lode Go.Shelf
attribute [local go_sem] Oper.semAt_some
theorem lines_ix : ∀ r : List UInt8, (Lib.indexByte r 10 = -1 ∧ lines r = [r]) ∨ ∃ n : Nat, Lib.indexByte r 10 = n ∧ n < r.length ∧ lines r = r.take n :: lines (r.drop (n + 1))
  | [] => .inl ⟨rfl, rfl⟩
  | c :: r => by
    by_cases hc : c = 10
    · subst hc
      exact .inr ⟨0, by simp [Lib.indexByte], by simp, by simp [lines]⟩
    · have hc' : (c == 10) = false := by simpa using hc
      rcases lines_ix r with ⟨h1, h2⟩ | ⟨n, h1, h2, h3⟩
      · exact .inl ⟨by simp [Lib.indexByte, hc', h1], by simp [lines, hc, h2]⟩
      · refine .inr ⟨n + 1, ?_, by simp; omega, by simp [lines, hc, h3]⟩
        have : ¬ ((n : Int) = -1) := by omega
        simp [Lib.indexByte, hc', h1, this]
/-- the iterator's three variables: what is split, by what, and a number -/
structure SpB (w : World) (P Q V : Nat) (t : ByteArray) : Prop where
  p : w.heap[P]? = some (.cells #[.string ⟨#[10]⟩] 9 (0, 0))
  q : w.heap[Q]? = some (.cells #[.string t] 9 (0, 0))
  v : w.heap[V]? = some (.cells #[.int .i64 0] 3 (0, 0))
  ne1 : P ≠ Q
  ne2 : V ≠ Q
theorem SpB.below {w w' : World} {P Q V : Nat} {t : ByteArray} (h : SpB w P Q V t) (hb : Below w.heap.size w w') : SpB w' P Q V t := ⟨heap_later hb h.p, heap_later hb h.q, heap_later hb h.v, h.ne1, h.ne2⟩
theorem SpB.set {w : World} {P Q V : Nat} {t : ByteArray} (h : SpB w P Q V t) (t' : ByteArray) : SpB (w.setCell ⟨Q, 0, none⟩ (.string t')) P Q V t' := ⟨(set_far h.ne1).trans h.p, set_heap h.q 0 _, (set_far h.ne2).trans h.v, h.ne1, h.ne2⟩
def strLen (Q : Nat) (w : World) : Nat := match w.cell? ⟨Q, 0, none⟩ with | some (.string t) => t.size | _ => 0
theorem SpB.len {w : World} {P Q V : Nat} {t : ByteArray} (h : SpB w P Q V t) : strLen Q w = t.size := by
  have := cell_heap h.q 0
  simp [strLen, this]
def KpS (P Q V : Nat) (W W' : World) : Prop := ∀ t, SpB W P Q V t → SpB W' P Q V t
def SsRel (P Q V : Nat) (s : List UInt8) (J : List (List UInt8) → World → Prop) (wr : World) : Prop :=
  ∃ (pre : List (List UInt8)) (t : ByteArray), lines s = pre ++ lines t.data.toList ∧ t.size ≤ s.length ∧ SpB wr P Q V t ∧ J pre wr
abbrev strV (l : List UInt8) : Value := .string ⟨l.toArray⟩
set_option maxHeartbeats 2000000 in
set_option maxRecDepth 100000 in
theorem split_seq (P Q V : Nat) (s : ByteArray) (w : World) (hs : s.size ≤ 1000000000000) (hB : SpB w P Q V s) (n : Nat) (hn : 1 ≤ n) :
    SeqR Fence.wide n Tryz.prog 100 #[] #[.pointer (some ⟨P, 0, none⟩), .pointer (some ⟨Q, 0, none⟩), .pointer (some ⟨V, 0, none⟩)] strV (KpS P Q V) (fun pre x => ∃ post, lines s.data.toList = pre ++ x :: post) Q (fun xs => xs = lines s.data.toList) (fun _ => True) w := fun l J Jx W hW hJ hJx hY h0 => by
  have hB : SpB W P Q V s := hB.below hW
  refine callsIn_of_wp Tryz.func100 rfl trivial ?_ rfl
  simp only [Tryz.ntmps100, List.size_toArray, List.length_cons, List.length_nil, Nat.reduceAdd, Nat.reduceSub, Array.replicate_succ, Array.replicate_zero, List.push_toArray, List.append_toArray, List.nil_append, List.cons_append]
  have HJ := hid hJ
  have c1 := cell_heap hB.p 0
  clear hJ
  gi_wp2_with fail
  clear c1
  gi_loopw [] (fun wr => SsRel P Q V s.data.toList J wr) (fun wr => strLen Q wr)
  case atStart => exact ⟨[], s, by simp, by simp, hB, h0⟩
  case round =>
    obtain ⟨pre, t, hli, hts, hb, hj⟩ := hrel
    have c0 := cell_heap hb.p 0
    have c1 := cell_heap hb.q 0
    have c2 := cell_heap hb.v 0
    have f1 := frozen_heap hb.q 0
    have HI := hid (Tryz.strings_Index_one t 10 wr)
    simp only [Array.length_toList] at hts
    have htsz : t.size ≤ s.size := hts
    rcases lines_ix t.data.toList with ⟨h1, h2⟩ | ⟨k, h1, h2, h3⟩
    · rw [h1] at HI
      obtain ⟨fn, tm, asg, bo, hy, hRR⟩ := hY pre t.data.toList wr hj ⟨[], by rw [hli, h2]⟩
      rw [show strV t.data.toList = .string t from congrArg Value.string (ba_eta t).symm] at hy
      have hRR := hid hRR
      gi_wp2_with (refine ⟨trivial, ?_⟩; gi_at_call 80; refine (callsIn_wide.2 (HI.out)).mono ?_; rintro e W1 ⟨rfl, rfl⟩)
      refine hRR.out.mono ?_
      rintro e W' (⟨rfl, hJ', _⟩ | ⟨rfl, hJx'⟩)
      · gi_wp2
        go_end0
        exact ⟨⟨_, rfl⟩, .inl ⟨_, by rw [hli, h2], hJ'⟩⟩
      · gi_wp2
        go_end0
        exact ⟨⟨_, rfl⟩, .inr ⟨_, trivial, hJx'⟩⟩
    · rw [h1] at HI
      have h2' : k < t.size := by simpa using h2
      obtain ⟨fn, tm, asg, bo, hy, hRR⟩ := hY pre (t.data.toList.take k) wr hj ⟨lines (t.data.toList.drop (k + 1)), by rw [hli, h3]⟩
      have hex : (t.extract 0 k).data.toList = t.data.toList.take k := by simp [List.extract_eq_take_drop]
      rw [show strV (t.data.toList.take k) = .string (t.extract 0 k) from by show Value.string _ = _; rw [← hex, ← ba_eta]] at hy
      have hRR := hid hRR
      have hdr : (t.extract (k + 1) t.size).data.toList = t.data.toList.drop (k + 1) := by rw [show (t.extract (k + 1) t.size).data.toList = (t.data.toList.drop (k + 1)).take (t.size - (k + 1)) from by simp [List.extract_eq_take_drop]]; exact List.take_of_length_le (by simp)
      have hnext := hid (show lines s.data.toList = (pre ++ [t.data.toList.take k]) ++ lines (t.extract (k + 1) t.size).data.toList by rw [hli, h3, hdr]; simp)
      have e1 : ((k : Int) + 1) ≤ (t.size : Int) := by omega
      gi_wp2_with (refine ⟨trivial, ?_⟩; gi_at_call 80; refine (callsIn_wide.2 (HI.out)).mono ?_; rintro e W1 ⟨rfl, rfl⟩)
      refine hRR.out.mono ?_
      rintro e W6 (⟨rfl, hJ6, hk6⟩ | ⟨rfl, hJx6⟩)
      · have hb6 := hk6 _ hb
        clear c0 c1 c2 f1
        have c0 := cell_heap hb6.p 0
        have c1 := cell_heap hb6.q 0
        have c2 := cell_heap hb6.v 0
        have f1 := frozen_heap hb6.q 0
        gi_wp2
        go_roundw
        case rel => exact ⟨_, _, hnext.out, by simp; omega, hb6.set _, HJ.out _ _ _ (some Q) hJ6 (grown_set _ Q 0 _) (fun r e => by cases e; rfl)⟩
        case measure => rw [(hb6.set _).len, hb.len]; simp; omega
      · gi_wp2
        refine bodyPost_ret (results_none rfl _ _ _) rfl ?_
        exact ⟨⟨_, rfl⟩, .inr ⟨_, trivial, hJx6⟩⟩
/-- SplitSeq hands back the iterator, over three new variables -/
theorem splitSeq_any (s : ByteArray) (w : World) :
    Calls Tryz.prog 50 #[.string s, .string ⟨#[10]⟩] w fun e w' => e = .returned (.func (.func 100) #[] #[.pointer (some ⟨w.heap.size + 1, 0, none⟩), .pointer (some ⟨w.heap.size, 0, none⟩), .pointer (some ⟨w.heap.size + 2, 0, none⟩)]) ∧ SpB w' (w.heap.size + 1) w.heap.size (w.heap.size + 2) s ∧ Below w.heap.size w w' := by
  have HS : Hid (Calls Tryz.prog 82 #[.string s, .string ⟨#[10]⟩, .int .i64 0] w fun e w' => e = .returned (.func (.func 100) #[] #[.pointer (some ⟨w.heap.size + 1, 0, none⟩), .pointer (some ⟨w.heap.size, 0, none⟩), .pointer (some ⟨w.heap.size + 2, 0, none⟩)]) ∧ SpB w' (w.heap.size + 1) w.heap.size (w.heap.size + 2) s ∧ Below w.heap.size w w') := hid (by
    go_enter Tryz.func82, Tryz.ntmps82
    go_wp2_with fail
    go_ret
    refine ⟨rfl, ⟨heap_old _ (heap_at _ _ _ (by simp)), heap_old _ (heap_old _ (heap_new _ _)), heap_at _ _ _ (by simp), by omega, by omega⟩, bl_alloc (bl_alloc (below_alloc _ _) _) _⟩)
  go_enter Tryz.func50, Tryz.ntmps50
  go_wp2_with (go_at_call 82; refine HS.out.mono ?_; rintro e w1 ⟨rfl, h1, h2⟩)
  go_ret
  exact ⟨rfl, h1, h2⟩
end Go.Proofs.YthknlifmkjdoeaaGreatDoor
