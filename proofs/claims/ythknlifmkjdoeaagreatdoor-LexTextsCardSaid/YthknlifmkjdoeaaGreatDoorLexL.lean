/-
  THE READER: tokens, for every loop body.
-/
import Derived.Shelf.Abstract
import Derived.Shelf.RegionOpen
import Derived.WalkKit
import Derived.OwnWalkIn
import Derived.TacticsInMore
import Derived.LoopNIn
import Derived.LoopIn
import Derived.Deep.Onto
import Derived.Test.YthknlifmkjdoeaaGreatDoorLexJ
import Derived.Test.YthknlifmkjdoeaaGreatDoorRegion
import Derived.Test.YthknlifmkjdoeaaGreatDoorRefH
namespace Go.Proofs.YthknlifmkjdoeaaGreatDoor
open Go.RowKit Lode Go.Shelf
attribute [local go_sem] Oper.semAt_some
/-- the world behind a token, its variable laid and the reader moved on -/
theorem tok_world (W2 W3 : World) (R k m : Nat) (o : Obj) (hb : Below W2.heap.size W2 W3) (hc1 : W2.cell? ⟨R, 1, none⟩ = some (.int .i64 k)) (hf1 : W2.frozen? ⟨R, 1, none⟩ = false) (hRlt : R < W2.heap.size) :
    ∃ W5, (W3.alloc o).setCell ⟨R, 1, none⟩ (.int .i64 ((k : Int) + m)) = W5 ∧ (W5.cell? ⟨W3.heap.size, 0, none⟩ = (W3.alloc o).cell? ⟨W3.heap.size, 0, none⟩ ∧ W5.cell? ⟨W3.heap.size, 1, none⟩ = (W3.alloc o).cell? ⟨W3.heap.size, 1, none⟩ ∧ W5.cell? ⟨W3.heap.size, 2, none⟩ = (W3.alloc o).cell? ⟨W3.heap.size, 2, none⟩) ∧
      (∀ o, (W3.alloc o).cell? ⟨R, 1, none⟩ = some (.int .i64 k)) ∧ (∀ o, (W3.alloc o).frozen? ⟨R, 1, none⟩ = false) := by
  have hs := hb.size
  have ne : W3.heap.size ≠ R := by omega
  refine ⟨_, rfl, ⟨cell_set_far ne _ _ _ _, cell_set_far ne _ _ _ _, cell_set_far ne _ _ _ _⟩, fun o => cell_later (below_then hb (below_alloc W3 o)) hc1, fun o => frozen_later (below_then hb (below_alloc W3 o)) hRlt hf1⟩
def TsRel (w0 : World) (R : Nat) (s : ByteArray) (J : List Tok → World → Prop) (wr : World) : Prop :=
  ∃ pre k, AtP s.data.toList pre k ∧ Rd wr R s k ∧ Below w0.heap.size w0 wr ∧ J pre wr
set_option maxHeartbeats 2000000 in
set_option maxRecDepth 100000 in
theorem tokens_seq (R : Nat) (s : ByteArray) (w0 w : World) (hs : s.size ≤ 1000000000000) (hB : ∀ c, c ∈ s.data.toList → isB c = true) (hG : Glob w0) (hb0 : Below w0.heap.size w0 w) (hR0 : w0.heap.size ≤ R) (hRd : Rd w R s 0) (n : Nat) (hn : 1 ≤ n) :
    SeqR Fence.wide n Tryz.prog 52 #[.pointer (some ⟨R, 0, none⟩)] #[] tokV (KpT w0 R) (GTok s.data.toList) R (STok s.data.toList) (fun _ => True) w := fun l J Jx W hW hJ hJx hY h0 => by
  have hRd : Rd W R s 0 := hRd.below hW
  have hb0 := below_then hb0 (hW.mono (Nat.le_refl _))
  refine callsIn_of_wp Tryz.func52 rfl trivial ?_ rfl
  simp only [Tryz.ntmps52, List.size_toArray, List.length_cons, List.length_nil, Nat.reduceAdd, Nat.reduceSub, Array.replicate_succ, Array.replicate_zero, List.push_toArray, List.append_toArray, List.nil_append, List.cons_append, List.append_nil]
  have Hsk := hid (skip_rd R s 0 W hs (Nat.zero_le _) hRd)
  have HJ := hid hJ
  clear hRd hJ
  gi_wp2_with (refine ⟨trivial, ?_⟩; gi_at_call 85; refine (callsIn_wide.2 (Hsk.out)).mono ?_; rintro e W1 ⟨rfl, hrd, hgr⟩)
  gi_loopw [] (fun wr => TsRel w0 R s J wr) (fun wr => s.size - rdrPos R wr)
  case atStart => exact ⟨[], _, by simpa using AtP.start, by simpa using hrd, below_grownR hb0 hgr hR0, HJ.out _ _ _ _ h0 hgr (fun r e => by cases e; rfl)⟩
  case round =>
    obtain ⟨pre, k, hat, hr, hb, hj⟩ := hrel
    obtain ⟨wb, sb, hR, hwb, hsb, hne1, hne2⟩ := id hr
    have hc0 : wr.cell? ⟨R, 0, none⟩ = some (.string s) := cell_heap hR 0
    have hc1 : wr.cell? ⟨R, 1, none⟩ = some (.int .i64 k) := cell_heap hR 1
    have hf1 : wr.frozen? ⟨R, 1, none⟩ = false := frozen_heap hR 1
    by_cases hlt : k < s.size
    · have hlt' : (k : Int) < (s.size : Int) := by omega
      have hltL : k < s.data.toList.length := by simpa using hlt
      have hbD : Below wr.heap.size wr wr.drew := (Below.refl _ _).drew
      have hrD := hr.below hbD
      have hb0D := below_then hb hbD
      have hjD := HJ.out _ _ _ none hj (grown_below hbD none) (fun r e => by cases e)
      cases ht : tok1 (s.data.toList.drop k) with
      | none =>
        have HT := hid (ltoken_none R s k wr.drew hs hB hlt hrD (hG.later hb0D) ht)
        have HY := hid (fun (W4 : World) (hb4 : Below wr.drew.heap.size wr.drew W4) => hY pre ⟨0, [], (k : Nat)⟩ W4 (HJ.out _ _ _ none hjD (grown_below hb4 none) (fun r e => by cases e)) ⟨k, hat, hltL, .inl ⟨ht, rfl⟩⟩)
        clear hR hwb hsb
        gi_wp2_with fail
        gi_region
        clear hc0 hc1 hf1 hY
        generalize wr.drew = W2 at *
        obtain ⟨wb, sb, hR, hwb, hsb, hne1, hne2⟩ := id hrD
        have hc1 : W2.cell? ⟨R, 1, none⟩ = some (.int .i64 k) := cell_heap hR 1
        gi_wp2_with (refine ⟨trivial, ?_⟩; gi_at_call 86; refine (callsIn_wide.2 (HT.out)).mono ?_; rintro e W3 ⟨⟨kk, tt, aa, nn, rfl⟩, hb3⟩; have hc4 : ∀ o, (W3.alloc o).cell? ⟨R, 1, none⟩ = some (.int .i64 k) := fun o => cell_later (below_then hb3 (below_alloc W3 o)) hc1; obtain ⟨fn, tm, asg, bo, hy, hRR⟩ := HY.out (W3.alloc (.cells #[.int .u8 kk, .string tt, .int .i64 aa] 46)) (below_then hb3 (below_alloc _ _)); change (Instr.yield l #[.agg #[.int .u8 0, .string ⟨#[]⟩, .int .i64 k]]).run _ _ = _ at hy; have hRR := hid hRR)
        refine hRR.out.mono ?_
        rintro e W' (⟨rfl, hJ', _⟩ | ⟨rfl, hJx'⟩)
        · gi_wp2
          refine bodyPost_ret (results_none rfl _ _ _) rfl ?_
          exact ⟨⟨_, rfl⟩, .inl ⟨_, .inr ⟨pre, k, rfl⟩, hJ'⟩⟩
        · gi_wp2
          refine bodyPost_ret (results_none rfl _ _ _) rfl ?_
          exact ⟨⟨_, rfl⟩, .inr ⟨_, trivial, hJx'⟩⟩
      | some x =>
        obtain ⟨kk, t, m⟩ := x
        have hm := tok1_wide ht
        simp only [List.length_drop, Array.length_toList] at hm
        have hsz : s.data.size = s.size := rfl
        have HT := hid (ltoken_some R s k wr.drew hs hB hlt hrD (hG.later hb0D) kk t m ht)
        have HY := hid (fun (W4 : World) (hj4 : J pre W4) => hY pre ⟨kk, t, (k : Nat)⟩ W4 hj4 ⟨k, hat, hltL, .inr ⟨kk, t, m, ht, rfl⟩⟩)
        have hnext := hid (hat.next hltL ht)
        clear hR hwb hsb
        gi_wp2_with fail
        gi_region
        clear hc0 hc1 hf1 hY
        generalize wr.drew = W2 at *
        obtain ⟨wb, sb, hR, hwb, hsb, hne1, hne2⟩ := id hrD
        have hc1 : W2.cell? ⟨R, 1, none⟩ = some (.int .i64 k) := cell_heap hR 1
        have hf1 : W2.frozen? ⟨R, 1, none⟩ = false := frozen_heap hR 1
        clear hR hwb hsb hne1 hne2
        have e1 : IntKind.i64.wrap ((k : Int) + m) = k + m := IntWalk.i64_in _ (by omega)
        have hRlt := World.block_lt_of_cell? W2 _ hc1
        have hrD := hid hrD
        have hb0D := hid hb0D
        gi_wp2_with (refine ⟨trivial, ?_⟩; gi_at_call 86; refine (callsIn_wide.2 (HT.out)).mono ?_; rintro e W3 ⟨rfl, hb3⟩; obtain ⟨W5, hW5, hst, hc4, hf4⟩ := tok_world W2 W3 R k m (.cells #[.int .u8 kk, .string ⟨t.toArray⟩, .int .i64 k] 46) hb3 hc1 hf1 hRlt; obtain ⟨q0, q1, q2⟩ := hst; rw [cell_heap (heap_new _ _) 0] at q0; rw [cell_heap (heap_new _ _) 1] at q1; rw [cell_heap (heap_new _ _) 2] at q2; simp only [List.getElem?_toArray] at q0 q1 q2; obtain ⟨fn, tm, asg, bo, hy, hRR⟩ := HY.out W5 (by rw [← hW5]; exact HJ.out _ _ _ (some R) (HJ.out _ _ _ none hjD (grown_below (below_then hb3 (below_alloc _ _)) none) (fun r e => by cases e)) (grown_set _ R 1 _) (fun r e => by cases e; rfl)); change (Instr.yield l #[.agg #[.int .u8 kk, .string ⟨t.toArray⟩, .int .i64 k]]).run _ _ = _ at hy; have hRR := hid hRR; have HW5 := hid hW5; have hb3 := hid hb3)
        refine hRR.out.mono ?_
        have hrd5 : Rd W5 R s (k + m) := by rw [← HW5.out]; exact (hrD.out.below (below_then hb3.out (below_alloc _ _))).step _ _ (by omega)
        have hb5 : Below w0.heap.size w0 W5 := by rw [← HW5.out]; exact below_grownR (below_then hb0D.out (below_then hb3.out (below_alloc _ _))) (grown_set _ R 1 _) hR0
        rintro e W6 (⟨rfl, hJ6, hk6⟩ | ⟨rfl, hJx6⟩)
        · have hrd6 := hk6.1 _ _ hrd5
          have hb6 := hk6.2 hb5
          gi_wp2_with (refine ⟨trivial, ?_⟩; gi_at_call 85; refine (callsIn_wide.2 (skip_rd R s (k + m) W6 hs (by omega) hrd6)).mono ?_; rintro e W7 ⟨rfl, hr7, hg7⟩)
          go_roundw
          case rel => exact ⟨_, _, hnext.out, hr7, below_grownR hb6 hg7 hR0, HJ.out _ _ _ _ hJ6 hg7 (fun r e => by cases e; rfl)⟩
          case measure => rw [hr7.pos, hr.pos]; omega
        · gi_wp2
          refine bodyPost_ret (results_none rfl _ _ _) rfl ?_
          exact ⟨⟨_, rfl⟩, .inr ⟨_, trivial, hJx6⟩⟩
    · clear hR hwb hsb
      gi_wp2_with fail
      gi_region
      gi_wp2
      go_end0
      exact ⟨⟨_, rfl⟩, .inl ⟨pre, .inl ⟨k, hat, by simpa using hlt⟩, HJ.out _ _ _ none hj (grown_below ((Below.refl _ _).drew) none) (fun r e => by cases e)⟩⟩
end Go.Proofs.YthknlifmkjdoeaaGreatDoor

/-
  THE PROGRAM'S Read.
-/
namespace Go.Proofs.YthknlifmkjdoeaaGreatDoor
open Go.RowKit Lode Go.Shelf
attribute [local go_sem] Oper.semAt_some
/-- the tokens read so far, in the result's cells -/
structure LRd (w : World) (B : Nat) (s : List UInt8) (pre : List Tok) (W : World) : Prop where
  at_ : ∃ k, AtP s pre k
  len : pre.length ≤ 1200
  big : B ≤ W.heap.size
  below : Below w.heap.size w W
  n1 : W.heap[w.heap.size + 1]? = some (.cells #[.int .i64 0] 3 (0, 0))
  n2 : W.heap[w.heap.size + 1 + 1]? = some (.cells #[.int .i64 0] 25 (0, 0))
  v : ∃ v, W.heap[w.heap.size]? = some (.cells #[v] 33 (0, 0)) ∧ Toks W B v pre
/-- a result in its cells -/
structure LRx (w : World) (r : List Tok × Nat × Nat) (W : World) : Prop where
  below : Below w.heap.size w W
  nil : r.1 = []
  n0 : W.heap[w.heap.size]? = some (.cells #[.slice none 0 0] 33 (0, 0))
  n1 : W.heap[w.heap.size + 1]? = some (.cells #[.int .i64 r.2.1] 3 (0, 0))
  n2 : W.heap[w.heap.size + 1 + 1]? = some (.cells #[.int .i64 r.2.2] 25 (0, 0))
theorem grown_keep {W W' : World} {row : Option Nat} (hg : W.grownBy W' row) {k R B : Nat} {o : Obj} (hr : ∀ r, row = some r → r = R ∨ (B ≤ r ∧ ∃ o : Obj, W.heap[r]? = some o ∧ o.isCells = false)) (hk : W.heap[k]? = some o) (h1 : k ≠ R) (h2 : k < B) : W'.heap[k]? = some o :=
  (hg.block k (Array.getElem?_eq_some_iff.1 hk).1 (fun e => by rcases hr k e.symm with h | ⟨h, _⟩ <;> omega)).trans hk
theorem grown_belowR {w W W' : World} {row : Option Nat} (hb : Below w.heap.size w W) (hg : W.grownBy W' row) {R B : Nat} (hr : ∀ r, row = some r → r = R ∨ (B ≤ r ∧ ∃ o : Obj, W.heap[r]? = some o ∧ o.isCells = false)) (h1 : w.heap.size ≤ R) (h2 : w.heap.size ≤ B) : Below w.heap.size w W' :=
  ⟨hg.os.trans hb.os, hg.tape.trans hb.tape, hg.output.trans hb.output, Nat.le_trans hb.size hg.size, fun k hk => (hg.block k (Nat.lt_of_lt_of_le hk hb.size) (fun e => by rcases hr k e.symm with h | ⟨h, _⟩ <;> omega)).trans (hb.block k hk)⟩
theorem LRd.own (w : World) (R B : Nat) (s : List UInt8) (hR : w.heap.size + 2 < R) (hRB : R < B) : OwnR R B (LRd w B s) := fun pre W W' row h hg hr => by
  obtain ⟨h1, h2, h0, h3, h4, h5, v, h6, h7⟩ := h
  refine ⟨h1, h2, Nat.le_trans h0 hg.size, grown_belowR h3 hg hr (by omega) (by omega), grown_keep hg hr h4 (by omega) (by omega), grown_keep hg hr h5 (by omega) (by omega), v, grown_keep hg hr h6 (by omega) (by omega), ?_⟩
  refine World.ownsRow.kept h7 hg ?_
  cases hv : v.ownBlock with
  | none => exact .inl rfl
  | some b =>
    refine .inr fun e => ?_
    have hlt := h7.lt b hv
    rcases hr b e.symm with h | ⟨_, o, ho, hc⟩
    · omega
    · obtain ⟨_, ⟨rfl, _⟩ | ⟨g, cap, cur, rfl, _, hgc, _⟩⟩ := h7
      · cases hv
      · cases hv
        simp only [] at ho
        rw [hgc] at ho; cases ho; cases hc
theorem LRx.own (w : World) (R B : Nat) (r : List Tok × Nat × Nat) (hR : w.heap.size + 2 < R) (hRB : R < B) (c c' : Code) : OwnR R B (fun (_ : List Tok) W => c = c' ∧ LRx w r W) := fun pre W W' row ⟨hc, h⟩ hg hr =>
  ⟨hc, grown_belowR h.below hg hr (by omega) (by omega), h.nil, grown_keep hg hr h.n0 (by omega) (by omega), grown_keep hg hr h.n1 (by omega) (by omega), grown_keep hg hr h.n2 (by omega) (by omega)⟩
theorem all_isB {s : ByteArray} (h : (check s.data.toList).2 = 0) : ∀ c, c ∈ s.data.toList → isB c = true := by
  intro c hc
  unfold check at h
  split at h
  · cases h
  · cases hf : findIx (fun c => !isB c) s.data.toList with
    | some i => rw [hf] at h; cases h
    | none =>
      have : ∀ (l : List UInt8), findIx (fun c => !isB c) l = none → ∀ c ∈ l, isB c = true := by
        intro l
        induction l with
        | nil => intro _ c hc; cases hc
        | cons d l ih =>
          intro h c hc
          simp only [findIx] at h
          split at h
          · cases h
          · rename_i hd
            rcases List.mem_cons.1 hc with rfl | hc
            · simpa using hd
            · exact ih (by cases hx : findIx (fun c => !isB c) l with
                | none => rfl
                | some x => rw [hx] at h; cases h) c hc
      exact this _ hf c hc
theorem res3 {w W1 : World} (h : Below (((w.alloc (.cells #[.slice none 0 0] 33 (0, 0))).alloc (.cells #[.int .i64 0] 3 (0, 0))).alloc (.cells #[.int .i64 0] 25 (0, 0))).heap.size (((w.alloc (.cells #[.slice none 0 0] 33 (0, 0))).alloc (.cells #[.int .i64 0] 3 (0, 0))).alloc (.cells #[.int .i64 0] 25 (0, 0))) W1) :
    W1.heap[w.heap.size]? = some (.cells #[.slice none 0 0] 33 (0, 0)) ∧ W1.heap[w.heap.size + 1]? = some (.cells #[.int .i64 0] 3 (0, 0)) ∧ W1.heap[w.heap.size + 1 + 1]? = some (.cells #[.int .i64 0] 25 (0, 0)) ∧ Below w.heap.size w W1 :=
  ⟨heap_later h (heap_old _ (heap_old _ (heap_new _ _))), heap_later h (heap_old _ (heap_at _ _ _ (by simp))), heap_later h (heap_at _ _ _ (by simp)), below_then (bl_alloc (bl_alloc (below_alloc _ _) _) _) h⟩
theorem rd_stop {w W : World} {v : Value} {a e : Nat} {r : List Tok × Nat × Nat} (hb : Below w.heap.size w W) (h0 : W.heap[w.heap.size]? = some (.cells #[v] 33 (0, 0))) (h1 : W.heap[w.heap.size + 1]? = some (.cells #[.int .i64 0] 3 (0, 0))) (h2 : W.heap[w.heap.size + 1 + 1]? = some (.cells #[.int .i64 0] 25 (0, 0))) (hr : r = ([], a, e)) (W' : World)
    (hW : W' = ((W.setCell ⟨w.heap.size, 0, none⟩ (.slice none 0 0)).setCell ⟨w.heap.size + 1, 0, none⟩ (.int .i64 a)).setCell ⟨w.heap.size + 1 + 1, 0, none⟩ (.int .i64 e)) : KeepsOthers W W'.drew ∧ LRx w r W'.drew ∧ KeepsOthers W W' ∧ LRx w r W' := by
  subst hW hr
  have q0 := set_heap h0 0 (.slice none 0 0)
  have q1 : (W.setCell ⟨w.heap.size, 0, none⟩ (.slice none 0 0)).heap[w.heap.size + 1]? = _ := (set_far (by omega)).trans h1
  have q2 : (W.setCell ⟨w.heap.size, 0, none⟩ (.slice none 0 0)).heap[w.heap.size + 1 + 1]? = _ := (set_far (by omega)).trans h2
  have r0 := (set_far (b := w.heap.size + 1) (i := 0) (v := .int .i64 a) (by omega)).trans q0
  have r1 := set_heap q1 0 (.int .i64 a)
  have r2 := (set_far (b := w.heap.size + 1) (i := 0) (v := .int .i64 a) (by omega)).trans q2
  have s0 := (set_far (b := w.heap.size + 1 + 1) (i := 0) (v := .int .i64 e) (by omega)).trans r0
  have s1 := (set_far (b := w.heap.size + 1 + 1) (i := 0) (v := .int .i64 e) (by omega)).trans r1
  have s2 := set_heap r2 0 (.int .i64 e)
  have kk := ((KeepsOthers.setCell W ⟨w.heap.size, 0, none⟩ (.slice none 0 0)).trans (KeepsOthers.setCell _ ⟨w.heap.size + 1, 0, none⟩ (.int .i64 a))).trans (KeepsOthers.setCell _ ⟨w.heap.size + 1 + 1, 0, none⟩ (.int .i64 e))
  have bb := bl_set (bl_set (bl_set hb w.heap.size 0 (Nat.le_refl _) (.slice none 0 0)) (w.heap.size + 1) 0 (by omega) (.int .i64 a)) (w.heap.size + 1 + 1) 0 (by omega) (.int .i64 e)
  exact ⟨⟨kk.size, kk.same⟩, ⟨bb.drew, rfl, s0, s1, s2⟩, kk, ⟨bb, rfl, s0, s1, s2⟩⟩
theorem put_heap {W : World} {k l : Nat} {o' : Obj} {x : Option Obj} (h : W.heap[k]? = x) (hne : k < l) : (W.putObj l o').heap[k]? = x := (World.putObj_heap_other (by omega)).trans h
def rdAct (s : ByteArray) (w W1 : World) (ca b : Nat) (x : Tok) : Act := { tmps := #[.string s, undef, .pointer (some ⟨w.heap.size, 0, none⟩), .pointer (some ⟨w.heap.size + 1, 0, none⟩), .pointer (some ⟨w.heap.size + 1 + 1, 0, none⟩), .int .i64 ca, .int .i64 0, .pointer (some ⟨b, 0, none⟩), .tuple #[.int .i64 ca, .int .i64 0], .string s, .tuple #[.int .i64 ca, .int .i64 0], .int .i64 ca, .int .i64 0, .int .i64 0, .bool false, undef, undef, .string s, .pointer (some ⟨W1.heap.size + 2, 0, none⟩), .func (.func 52) #[.pointer (some ⟨W1.heap.size + 2, 0, none⟩)] #[], tokV x, undef, undef, undef, undef, undef, undef, undef, undef, undef, undef, undef, undef, undef, undef, undef, undef, undef], defers := [] }
theorem KpT.below {w0 : World} {R : Nat} {W W' : World} (hb : Below W.heap.size W W') : KpT w0 R W W' := ⟨fun _ _ h => h.below hb, fun h => below_then h hb⟩
theorem KpT.put {w0 : World} {R : Nat} {W : World} {l : Nat} {o o' : Obj} (hl : w0.heap.size ≤ l) (ho : W.heap[l]? = some o) (hc : o.isCells = false) : KpT w0 R W (W.putObj l o') := by
  have key : ∀ {k : Nat} {cs : Array Value} {T : TypeId} {fr : Nat × Nat}, W.heap[k]? = some (.cells cs T fr) → (W.putObj l o').heap[k]? = some (.cells cs T fr) := fun hk =>
    (World.putObj_heap_other (fun e => by subst e; rw [hk] at ho; cases ho; cases hc)).trans hk
  refine ⟨fun s a ⟨wb, sb, h1, h2, h3, h4, h5⟩ => ⟨wb, sb, key h1, key h2, key h3, h4, h5⟩, fun hb => ?_⟩
  exact grown_belowR hb (grownBy_putObj' W l o') (R := w0.heap.size) (B := w0.heap.size) (fun r e => by cases e; exact .inr ⟨hl, o, ho, hc⟩) (Nat.le_refl _) (Nat.le_refl _)
theorem Toks.own {W : World} {B : Nat} {v : Value} {pre : List Tok} (h : Toks W B v pre) (g : Nat) (hg : v.ownBlock = some g) : B ≤ g ∧ ∃ cur, W.heap[g]? = some (.cells cur 46 (0, 0)) := by
  obtain ⟨_, ⟨rfl, _⟩ | ⟨g', cap, cur, rfl, h1, h2, _⟩⟩ := h
  · cases hg
  · cases hg; exact ⟨h1, cur, h2⟩
theorem app_key {W w2 : World} {B : Nat} {v : Value} {pre : List Tok} (htok : Toks W B v pre) (o : Obj) (hgrow : (W.alloc o).grownBy w2 v.ownBlock) {k : Nat} {o' : Obj} (hk : W.heap[k]? = some o') (hne : ∀ cur, o' ≠ .cells cur 46 (0, 0)) : w2.heap[k]? = some o' := by
  refine (hgrow.block k (by have := (Array.getElem?_eq_some_iff.1 hk).1; simp; omega) (fun e => ?_)).trans (heap_old _ hk)
  obtain ⟨_, cur, h⟩ := htok.own k e.symm
  rw [hk] at h; cases h; exact hne _ rfl
theorem rd_app {w W w2 : World} {B R : Nat} {s : List UInt8} {pre : List Tok} {x : Tok} {v v' : Value} (hL : LRd w B s pre W) (hR : w.heap.size + 2 < R) (hRB : R < B) (hv : W.heap[w.heap.size]? = some (.cells #[v] 33 (0, 0))) (htok : Toks W B v pre) (o : Obj) (hgrow : (W.alloc o).grownBy w2 v.ownBlock)
    (hown : w2.ownsRow B 46 3 v' (pre.length + 1) (tokCells pre ++ tokVals x)) (hat : ∃ k, AtP s (pre ++ [x]) k) (hlen : pre.length + 1 ≤ 1200) (W9 : World) (h9 : W9 = w2.setCell ⟨w.heap.size, 0, none⟩ v') :
    KeepsOthers W W9 ∧ KpT w R W W9 ∧ LRd w B s (pre ++ [x]) W9 := by
  subst h9
  have hsz : W.heap.size ≤ w2.heap.size := by have := hgrow.size; simp at this; omega
  have hv2 := app_key htok o hgrow hv (fun cur e => by cases e)
  have hn1 := app_key htok o hgrow hL.n1 (fun cur e => by cases e)
  have hn2 := app_key htok o hgrow hL.n2 (fun cur e => by cases e)
  have hb2 : Below w.heap.size w w2 := below_grown (bl_alloc hL.below o) (World.ownsRow.alloc (World.ownsRow.mono htok (by omega)) o) hgrow
  have cellne : ∀ {k : Nat} {o' : Obj}, W.heap[k]? = some o' → (∀ cur, o' ≠ .cells cur 33 (0, 0)) → k ≠ w.heap.size := fun hk hne e => by
    subst e; rw [hv] at hk; cases hk; exact hne _ rfl
  refine ⟨⟨by simp [World.setCell]; omega, fun k o' hk ho => (set_far (cellne hk (fun cur e => by subst e; cases ho))).trans (app_key htok o hgrow hk (fun cur e => by subst e; cases ho))⟩, ⟨fun s a ⟨wb, sb, h1, h2, h3, h4, h5⟩ => ⟨wb, sb, ?_, ?_, ?_, h4, h5⟩, fun _ => bl_set hb2 _ _ (Nat.le_refl _) _⟩, ⟨hat, by simpa using hlen, by simp [World.setCell]; have := hL.big; omega, bl_set hb2 _ _ (Nat.le_refl _) _, (set_far (by omega)).trans hn1, (set_far (by omega)).trans hn2, v', set_heap hv2 0 v', ?_⟩⟩
  · exact (set_far (cellne h1 (fun cur e => by cases e))).trans (app_key htok o hgrow h1 (fun cur e => by cases e))
  · exact (set_far (cellne h2 (fun cur e => by cases e))).trans (app_key htok o hgrow h2 (fun cur e => by cases e))
  · exact (set_far (cellne h3 (fun cur e => by cases e))).trans (app_key htok o hgrow h3 (fun cur e => by cases e))
  · refine Toks.snoc (World.ownsRow.kept hown (grown_set w2 w.heap.size 0 v') ?_)
    cases hvv : v'.ownBlock with
    | none => exact .inl rfl
    | some g => exact .inr fun e => by have := (hown.lt g hvv).1; cases e; omega
set_option maxHeartbeats 2000000 in
set_option maxRecDepth 100000 in
theorem lread_any (s : ByteArray) (w : World) (hs : s.size ≤ 1000000000000) (hG : Glob w) :
    Calls Tryz.prog 23 #[.string s] w (RdPost (Lode.read s.data.toList) w) := by
  generalize hr : Lode.read s.data.toList = r
  have Hr := hid hr; clear hr
  have Hc := hid (fun w => check_any s w (by omega))
  generalize hc : check s.data.toList = c at *
  obtain ⟨ca, ce⟩ := c
  have Hcc := hid hc; clear hc
  obtain ⟨i0, hi, hz0, hz1, hz2⟩ := info_parts Tryz.infoTok
  have Hi := hid (And.intro hi (And.intro hz0 (And.intro hz1 hz2)))
  clear hi hz0 hz1 hz2
  have HG := hid hG; clear hG
  refine (callsIn_wide (n := 5)).1 ?_
  refine callsIn_of_wp_marks Tryz.func23 rfl trivial ?_ rfl
  simp only [Tryz.ntmps23, List.size_toArray, List.length_cons, List.length_nil, Nat.reduceAdd, Nat.reduceSub, Array.replicate_succ, Array.replicate_zero, List.push_toArray, List.append_toArray, List.nil_append, List.cons_append]
  by_cases he : ce = 0
  · subst he
    have hBs := hid (all_isB (s := s) (by rw [Hcc.out]))
    gi_wp2_with (first
      | (refine ⟨trivial, ?_⟩; gi_at_call 16; refine (callsIn_wide.2 (Hc.out _)).mono ?_; rintro e W1 ⟨rfl, hb1⟩; obtain ⟨m0, m1, m2, hbw1⟩ := res3 hb1)
      | (refine ⟨trivial, ?_⟩; gi_at_call 51; refine (callsIn_wide.2 (newReader_any s W1 (HG.out.later hbw1))).mono ?_; rintro e W2 ⟨rfl, hrd, hb2⟩))
    have hbw2 := below_then hbw1 hb2
    have hs1 := hb1.size
    simp only [World.size_alloc] at hs1
    have hRlt : W1.heap.size + 2 < W2.heap.size := by obtain ⟨_, _, h, _⟩ := hrd; exact (Array.getElem?_eq_some_iff.1 h).1
    have m0 := heap_later hb2 m0
    have m1 := heap_later hb2 m1
    have m2 := heap_later hb2 m2
    refine wpIn_range_R rfl (by omega) (gf := 52) (la := #[.pointer (some ⟨W1.heap.size + 2, 0, none⟩)]) (lb := #[]) rfl trivial (enters_of Tryz.func52 (by kernel_rfl) rfl)
      (tokens_seq (W1.heap.size + 2) s w W2 hs hBs.out HG.out hbw2 (by omega) hrd _ (by omega)) hRlt KpT.trans (fun W l o o' hl ho hc => KpT.put (by omega) ho hc)
      (LRd w W2.heap.size s.data.toList) (fun c _ W => c = .ret ∧ LRx w r W) (LRd.own w _ _ _ (by omega) hRlt) (fun c => LRx.own w _ _ r (by omega) hRlt c .ret)
      ⟨⟨_, .start⟩, by simp, Nat.le_refl _, hbw2, m1, m2, _, m0, World.ownsRow_nil _ _ _ _⟩
      (fun pre x a' W => ∃ b, LRd w W2.heap.size s.data.toList pre W ∧ W2.heap.size ≤ b ∧ W.heap[b]? = some (.cells #[.int .u8 x.kind, .string ⟨x.text.toArray⟩, .int .i64 x.at_] 46 (0, 0)) ∧ a' = rdAct s w W1 ca b x)
      (fun pre x a' W l o o' ⟨b, h1, h2, h3, h4⟩ hl ho hc => ⟨b, LRd.own w (W1.heap.size + 2) _ _ (by omega) hRlt pre W _ (some l) h1 (grownBy_putObj' W l o') (fun r e => by cases e; exact .inr ⟨hl, o, ho, hc⟩), h2, (World.putObj_heap_other (fun e => by subst e; rw [h3] at ho; cases ho; cases hc)).trans h3, h4⟩) ?assign ?body ?done ?stop
    case assign =>
      intro l pre x W K hI hG hK
      gi_wp2
      exact hK _ _ (KeepsOthers.alloc _ _) (KpT.below (below_alloc _ _)) ⟨W.heap.size, LRd.own w (W1.heap.size + 2) _ _ (by omega) hRlt pre W _ none hI (World.grownBy_alloc W _ none) (fun r e => by cases e), hI.big, heap_new _ _, rfl⟩
    case body =>
      rintro l pre ⟨kk, t, aa⟩ a' W ⟨b, hL, hb, hx, rfl⟩ ⟨k, hat, hlt, hG⟩
      have hrinv := hat.rinv (by rw [Hcc.out]) hL.len
      rw [Hr.out] at hrinv
      have c0 : W.cell? ⟨b, 0, none⟩ = some (.int .u8 kk) := cell_heap hx 0
      have c1 : W.cell? ⟨b, 1, none⟩ = some (.string ⟨t.toArray⟩) := cell_heap hx 1
      have c2 : W.cell? ⟨b, 2, none⟩ = some (.int .i64 aa) := cell_heap hx 2
      obtain ⟨v, hv, htok⟩ := hL.v
      have d0 : W.cell? ⟨w.heap.size, 0, none⟩ = some v := cell_heap hv 0
      have d1 : W.cell? ⟨w.heap.size + 1, 0, none⟩ = some (.int .i64 0) := cell_heap hL.n1 0
      have d2 : W.cell? ⟨w.heap.size + 1 + 1, 0, none⟩ = some (.int .i64 0) := cell_heap hL.n2 0
      have f0 : W.frozen? ⟨w.heap.size, 0, none⟩ = false := frozen_heap hv 0
      have f1 : W.frozen? ⟨w.heap.size + 1, 0, none⟩ = false := frozen_heap hL.n1 0
      have f2 : W.frozen? ⟨w.heap.size + 1 + 1, 0, none⟩ = false := frozen_heap hL.n2 0
      unfold rdAct
      rcases hG with ⟨ht, hx'⟩ | ⟨kk', t', m, ht, hx'⟩
      · simp only [Tok.mk.injEq] at hx'
        obtain ⟨rfl, rfl, rfl⟩ := hx'
        have He := hid (hrinv.bad hlt ht)
        have HL := hid hL
        have Hv := hid hv
        clear hL hrinv hat hv
        gi_wp2
        try gi_region
        all_goals
          gi_wp2
          have h := rd_stop HL.out.below Hv.out HL.out.n1 HL.out.n2 He.out _ rfl
          exact ⟨h.1, rfl, h.2.1⟩
      · simp only [Tok.mk.injEq] at hx'
        obtain ⟨rfl, rfl, rfl⟩ := hx'
        have hm := tok1_wide ht
        have hkk : ((kk : Int) == 0) = false := by rw [beq_eq_false_iff_ne]; omega
        obtain ⟨p, cap, rfl⟩ := htok.form
        have HL := hid hL
        have Hv := hid hv
        by_cases hL12 : pre.length = 1200
        · have He := hid (hrinv.full hlt ht hL12)
          clear hL hrinv hat hv
          gi_wp2
          try gi_region
          all_goals
            gi_wp2
            have h := rd_stop HL.out.below Hv.out HL.out.n1 HL.out.n2 He.out _ rfl
            exact ⟨h.1, rfl, h.2.1⟩
        · have hL' : ((pre.length : Int) == 1200) = false := by rw [beq_eq_false_iff_ne]; omega
          have hlen := hL.len
          have hbig := hL.big
          have hnext := hid (hat.next hlt ht)
          clear hL hrinv hat hv
          gi_wp2_with (gi_at_builtin; refine wpListIn_append_own _ rfl _ _ 33 rfl W2.heap.size 46 i0 _ 3 32 Tryz.underlying33 Hi.out.1 Hi.out.2.1 Hi.out.2.2.1 Hi.out.2.2.2 rfl (by decide) _ _ _ rfl (World.ownsRow.alloc htok _) ⟨W.heap.size, 0, none⟩ 1 1 (tokVals ⟨kk, t, (k : Nat)⟩) rfl rfl ?c1 ?c2 ?c3 ?c4 ?c5 ?_)
          case c1 => exact fun j u h => h
          case c2 => intro u hu; simp [tokVals] at hu; rcases hu with rfl | rfl | rfl <;> rfl
          case c3 => unfold maxLen; omega
          case c4 => omega
          case c5 => omega
          · intro v' w2 hown' hgrow _
            obtain ⟨g', cap', rfl⟩ := ownsRow_succ hown'
            have hv2 := app_key htok _ hgrow Hv.out (fun cur e => by cases e)
            have g0 := cell_heap hv2 0
            have gf := frozen_heap hv2 0
            have hfin := hid (rd_app HL.out (by omega) hRlt Hv.out htok _ hgrow hown' ⟨_, hnext.out⟩ (by omega) _ rfl)
            clear hown' hgrow htok hv2 d0 f0
            gi_wp2
            exact hfin.out
    case done =>
      rintro D xs W hS hI hD hK
      have hr : r = (xs, 0, 0) := by
        rcases hS with ⟨k, hat, hk⟩ | ⟨pre, k, rfl⟩
        · have h := hat.rinv (by rw [Hcc.out]) hI.len
          rw [Hr.out] at h
          exact h.done hk
        · obtain ⟨k', hat⟩ := hI.at_
          have := hat.kinds ⟨0, [], (k : Nat)⟩ (by simp)
          simp at this
      subst hr
      obtain ⟨v, hv, htok⟩ := hI.v
      have d0 : W.cell? ⟨w.heap.size, 0, none⟩ = some v := cell_heap hv 0
      have d1 : W.cell? ⟨w.heap.size + 1, 0, none⟩ = some (.int .i64 0) := cell_heap hI.n1 0
      have d2 : W.cell? ⟨w.heap.size + 1 + 1, 0, none⟩ = some (.int .i64 0) := cell_heap hI.n2 0
      have f0 : W.frozen? ⟨w.heap.size, 0, none⟩ = false := frozen_heap hv 0
      have f1 : W.frozen? ⟨w.heap.size + 1, 0, none⟩ = false := frozen_heap hI.n1 0
      have f2 : W.frozen? ⟨w.heap.size + 1 + 1, 0, none⟩ = false := frozen_heap hI.n2 0
      have Hv := hid hv
      have HI := hid hI
      obtain ⟨p, cap, rfl⟩ := htok.form
      have hsame := hid (show ((W.setCell ⟨w.heap.size, 0, none⟩ (.slice p xs.length cap)).setCell ⟨w.heap.size + 1, 0, none⟩ (.int .i64 0)).setCell ⟨w.heap.size + 1 + 1, 0, none⟩ (.int .i64 0) = W by
        rw [set_id d0, set_id d1, set_id d2])
      clear hI hv hS
      gi_wp2
      rw [hsame.out]
      have u0 := cell_heap (put_heap (l := D) (o' := .deferred none) Hv.out (by omega)) 0
      have u1 := cell_heap (put_heap (l := D) (o' := .deferred none) HI.out.n1 (by omega)) 0
      have u2 := cell_heap (put_heap (l := D) (o' := .deferred none) HI.out.n2 (by omega)) 0
      refine ⟨by simp, .inl ⟨_, _, rfl, run_takeDeferred hK, ?_⟩⟩
      refine ⟨.tuple #[.slice p xs.length cap, .int .i64 0, .int .i64 0], by simp [results, Tryz.results23, go_sem, u0, u1, u2], ?_⟩
      refine ⟨_, rfl, ?_, ?_⟩
      · refine World.ownsRow.mono (World.ownsRow.kept htok (grownBy_putObj' W D _) ?_) (by omega)
        refine .inr fun e => ?_
        cases p with
        | none => cases e
        | some a =>
          obtain ⟨_, cur, h⟩ := htok.own a.block rfl
          cases e; rw [hK] at h; cases h
      · exact grown_belowR HI.out.below (grownBy_putObj' W D _) (R := D) (B := D) (fun r e => by cases e; exact .inl rfl) (by omega) (by omega)
    case stop =>
      rintro D c pre W _ ⟨rfl, hx⟩ hD hK
      gi_wp2
      have u0 := cell_heap (put_heap (l := D) (o' := .deferred none) hx.n0 (by omega)) 0
      have u1 := cell_heap (put_heap (l := D) (o' := .deferred none) hx.n1 (by omega)) 0
      have u2 := cell_heap (put_heap (l := D) (o' := .deferred none) hx.n2 (by omega)) 0
      refine ⟨by simp, .inl ⟨_, _, rfl, run_takeDeferred hK, ?_⟩⟩
      refine ⟨.tuple #[.slice none 0 0, .int .i64 r.2.1, .int .i64 r.2.2], by simp [results, Tryz.results23, go_sem, u0, u1, u2], ?_⟩
      refine ⟨_, rfl, by rw [hx.nil]; exact toks_nil _ _, ?_⟩
      exact grown_belowR hx.below (grownBy_putObj' W D _) (R := D) (B := D) (fun r e => by cases e; exact .inl rfl) (by omega) (by omega)
  · have he' : ((ce : Int) != 0) = true := by simpa using he
    gi_wp2_with (first
      | (refine ⟨trivial, ?_⟩; gi_at_call 16; refine (callsIn_wide.2 (Hc.out _)).mono ?_; rintro e W1 ⟨rfl, hb1⟩; obtain ⟨m0, m1, m2, hbw1⟩ := res3 hb1; have c0 := cell_heap m0 0; have c1 := cell_heap m1 0; have c2 := cell_heap m2 0; have f0 := frozen_heap m0 0; have f1 := frozen_heap m1 0; have f2 := frozen_heap m2 0; have HM := hid (And.intro m0 (And.intro m1 m2)); clear m0 m1 m2))
    have hx := (rd_stop hbw1 HM.out.1 HM.out.2.1 HM.out.2.2 (r := r) (a := ca) (e := ce) (by rw [← Hr.out, Lode.read, Hcc.out]; simp [he]) _ rfl).2.2.2
    generalize World.setCell _ ⟨w.heap.size + 1 + 1, 0, none⟩ _ = W9 at hx ⊢
    have u0 := cell_heap hx.n0 0
    have u1 := cell_heap hx.n1 0
    have u2 := cell_heap hx.n2 0
    refine ⟨.tuple #[.slice none 0 0, .int .i64 r.2.1, .int .i64 r.2.2], by simp [results, Tryz.results23, go_sem, u0, u1, u2], ?_⟩
    exact ⟨_, rfl, by rw [hx.nil]; exact toks_nil _ _, hx.below⟩
end Go.Proofs.YthknlifmkjdoeaaGreatDoor
