/-
  THE READER: tokens, for every loop body.
-/
import Derived.Test.YthknlifmkjdoeaaGreatDoorLexK
import Derived.Test.YthknlifmkjdoeaaGreatDoorSeq
import Derived.Shelf.Abstract
import Derived.Shelf.RegionOpen
import Derived.WalkKit
import Derived.OwnWalkIn
import Derived.TacticsInMore
import Derived.LoopNIn
import Derived.LoopIn
namespace Go.Proofs.YthknlifmkjdoeaaGreatDoor
open Go.RowKit Lode Go.Shelf
attribute [local go_sem] Oper.semAt_some
/-- the world behind a token, its variable laid and the reader moved on -/
theorem tok_world (W2 W3 : World) (R k m : Nat) (o : Obj) (hb : Below W2.heap.size W2 W3) (hc1 : W2.cell? ⟨R, 1, none⟩ = some (.int .i64 k)) (hf1 : W2.frozen? ⟨R, 1, none⟩ = false) (hRlt : R < W2.heap.size) :
    ∃ W5, (W3.alloc o).setCell ⟨R, 1, none⟩ (.int .i64 ((k : Int) + m)) = W5 ∧ (W5.cell? ⟨W3.heap.size, 0, none⟩ = (W3.alloc o).cell? ⟨W3.heap.size, 0, none⟩ ∧ W5.cell? ⟨W3.heap.size, 1, none⟩ = (W3.alloc o).cell? ⟨W3.heap.size, 1, none⟩ ∧ W5.cell? ⟨W3.heap.size, 2, none⟩ = (W3.alloc o).cell? ⟨W3.heap.size, 2, none⟩) ∧
      (∀ o, (W3.alloc o).cell? ⟨R, 1, none⟩ = some (.int .i64 k)) ∧ (∀ o, (W3.alloc o).frozen? ⟨R, 1, none⟩ = false) := by
  have hs := hb.size
  have ne : W3.heap.size ≠ R := by omega
  refine ⟨_, rfl, ⟨cell_set_far ne _ _ _ _, cell_set_far ne _ _ _ _, cell_set_far ne _ _ _ _⟩, fun o => cell_later (below_then hb (below_alloc W3 o)) hc1, fun o => frozen_later (below_then hb (below_alloc W3 o)) hRlt hf1⟩
def TsRel (w0 : World) (R : Nat) (s : ByteArray) (J : List Tok → World → Prop) (wr : World) : Prop :=
  ∃ pre k, AtP s.data.toList pre k ∧ Rd wr R s k ∧ Below w0.heap.size w0 wr ∧ J pre wr
set_option maxHeartbeats 2000000 in
set_option maxRecDepth 100000 in
theorem tokens_seq (R : Nat) (s : ByteArray) (w0 w : World) (hs : s.size ≤ 1000000000000) (hB : ∀ c, c ∈ s.data.toList → isB c = true) (hG : Glob w0) (hb0 : Below w0.heap.size w0 w) (hR0 : w0.heap.size ≤ R) (hRd : Rd w R s 0) (n : Nat) (hn : 1 ≤ n) :
    SeqR Fence.wide n Tryz.prog 52 #[.pointer (some ⟨R, 0, none⟩)] #[] tokV (KpT w0 R) (GTok s.data.toList) R (STok s.data.toList) (fun _ => True) w := fun l J Jx W hW hJ hJx hY h0 => by
  have hRd : Rd W R s 0 := hRd.below hW
  have hb0 := below_then hb0 (hW.mono (Nat.le_refl _))
  refine callsIn_of_wp Tryz.func52 rfl trivial ?_ rfl
  simp only [Tryz.ntmps52, List.size_toArray, List.length_cons, List.length_nil, Nat.reduceAdd, Nat.reduceSub, Array.replicate_succ, Array.replicate_zero, List.push_toArray, List.append_toArray, List.nil_append, List.cons_append, List.append_nil]
  have Hsk := hid (skip_rd R s 0 W hs (Nat.zero_le _) hRd)
  have HJ := hid hJ
  clear hRd hJ
  gi_wp2_with (refine ⟨trivial, ?_⟩; gi_at_call 85; refine (callsIn_wide.2 (Hsk.out)).mono ?_; rintro e W1 ⟨rfl, hrd, hgr⟩)
  gi_loopw [] (fun wr => TsRel w0 R s J wr) (fun wr => s.size - rdrPos R wr)
  case atStart => exact ⟨[], _, by simpa using AtP.start, by simpa using hrd, below_grownR hb0 hgr hR0, HJ.out _ _ _ _ h0 hgr (fun r e => by cases e; rfl)⟩
  case round =>
    obtain ⟨pre, k, hat, hr, hb, hj⟩ := hrel
    obtain ⟨wb, sb, hR, hwb, hsb, hne1, hne2⟩ := id hr
    have hc0 : wr.cell? ⟨R, 0, none⟩ = some (.string s) := cell_heap hR 0
    have hc1 : wr.cell? ⟨R, 1, none⟩ = some (.int .i64 k) := cell_heap hR 1
    have hf1 : wr.frozen? ⟨R, 1, none⟩ = false := frozen_heap hR 1
    by_cases hlt : k < s.size
    · have hlt' : (k : Int) < (s.size : Int) := by omega
      have hltL : k < s.data.toList.length := by simpa using hlt
      have hbD : Below wr.heap.size wr wr.drew := (Below.refl _ _).drew
      have hrD := hr.below hbD
      have hb0D := below_then hb hbD
      have hjD := HJ.out _ _ _ none hj (grown_below hbD none) (fun r e => by cases e)
      cases ht : tok1 (s.data.toList.drop k) with
      | none =>
        have HT := hid (ltoken_none R s k wr.drew hs hB hlt hrD (hG.later hb0D) ht)
        have HY := hid (fun (W4 : World) (hb4 : Below wr.drew.heap.size wr.drew W4) => hY pre ⟨0, [], (k : Nat)⟩ W4 (HJ.out _ _ _ none hjD (grown_below hb4 none) (fun r e => by cases e)) ⟨k, hat, hltL, .inl ⟨ht, rfl⟩⟩)
        clear hR hwb hsb
        gi_wp2_with fail
        gi_region
        clear hc0 hc1 hf1 hY
        generalize wr.drew = W2 at *
        obtain ⟨wb, sb, hR, hwb, hsb, hne1, hne2⟩ := id hrD
        have hc1 : W2.cell? ⟨R, 1, none⟩ = some (.int .i64 k) := cell_heap hR 1
        gi_wp2_with (refine ⟨trivial, ?_⟩; gi_at_call 86; refine (callsIn_wide.2 (HT.out)).mono ?_; rintro e W3 ⟨⟨kk, tt, aa, nn, rfl⟩, hb3⟩; have hc4 : ∀ o, (W3.alloc o).cell? ⟨R, 1, none⟩ = some (.int .i64 k) := fun o => cell_later (below_then hb3 (below_alloc W3 o)) hc1; obtain ⟨fn, tm, asg, bo, hy, hRR⟩ := HY.out (W3.alloc (.cells #[.int .u8 kk, .string tt, .int .i64 aa] 46)) (below_then hb3 (below_alloc _ _)); change (Instr.yield l #[.agg #[.int .u8 0, .string ⟨#[]⟩, .int .i64 k]]).run _ _ = _ at hy; have hRR := hid hRR)
        refine hRR.out.mono ?_
        rintro e W' (⟨rfl, hJ', _⟩ | ⟨rfl, hJx'⟩)
        · gi_wp2
          refine bodyPost_ret (results_none rfl _ _ _) rfl ?_
          exact ⟨⟨_, rfl⟩, .inl ⟨_, .inr ⟨pre, k, rfl⟩, hJ'⟩⟩
        · gi_wp2
          refine bodyPost_ret (results_none rfl _ _ _) rfl ?_
          exact ⟨⟨_, rfl⟩, .inr ⟨_, trivial, hJx'⟩⟩
      | some x =>
        obtain ⟨kk, t, m⟩ := x
        have hm := tok1_wide ht
        simp only [List.length_drop, Array.length_toList] at hm
        have hsz : s.data.size = s.size := rfl
        have HT := hid (ltoken_some R s k wr.drew hs hB hlt hrD (hG.later hb0D) kk t m ht)
        have HY := hid (fun (W4 : World) (hj4 : J pre W4) => hY pre ⟨kk, t, (k : Nat)⟩ W4 hj4 ⟨k, hat, hltL, .inr ⟨kk, t, m, ht, rfl⟩⟩)
        have hnext := hid (hat.next hltL ht)
        clear hR hwb hsb
        gi_wp2_with fail
        gi_region
        clear hc0 hc1 hf1 hY
        generalize wr.drew = W2 at *
        obtain ⟨wb, sb, hR, hwb, hsb, hne1, hne2⟩ := id hrD
        have hc1 : W2.cell? ⟨R, 1, none⟩ = some (.int .i64 k) := cell_heap hR 1
        have hf1 : W2.frozen? ⟨R, 1, none⟩ = false := frozen_heap hR 1
        clear hR hwb hsb hne1 hne2
        have e1 : IntKind.i64.wrap ((k : Int) + m) = k + m := IntWalk.i64_in _ (by omega)
        have hRlt := World.block_lt_of_cell? W2 _ hc1
        have hrD := hid hrD
        have hb0D := hid hb0D
        gi_wp2_with (refine ⟨trivial, ?_⟩; gi_at_call 86; refine (callsIn_wide.2 (HT.out)).mono ?_; rintro e W3 ⟨rfl, hb3⟩; obtain ⟨W5, hW5, hst, hc4, hf4⟩ := tok_world W2 W3 R k m (.cells #[.int .u8 kk, .string ⟨t.toArray⟩, .int .i64 k] 46) hb3 hc1 hf1 hRlt; obtain ⟨q0, q1, q2⟩ := hst; rw [cell_heap (heap_new _ _) 0] at q0; rw [cell_heap (heap_new _ _) 1] at q1; rw [cell_heap (heap_new _ _) 2] at q2; simp only [List.getElem?_toArray] at q0 q1 q2; obtain ⟨fn, tm, asg, bo, hy, hRR⟩ := HY.out W5 (by rw [← hW5]; exact HJ.out _ _ _ (some R) (HJ.out _ _ _ none hjD (grown_below (below_then hb3 (below_alloc _ _)) none) (fun r e => by cases e)) (grown_set _ R 1 _) (fun r e => by cases e; rfl)); change (Instr.yield l #[.agg #[.int .u8 kk, .string ⟨t.toArray⟩, .int .i64 k]]).run _ _ = _ at hy; have hRR := hid hRR; have HW5 := hid hW5; have hb3 := hid hb3)
        refine hRR.out.mono ?_
        have hrd5 : Rd W5 R s (k + m) := by rw [← HW5.out]; exact (hrD.out.below (below_then hb3.out (below_alloc _ _))).step _ _ (by omega)
        have hb5 : Below w0.heap.size w0 W5 := by rw [← HW5.out]; exact below_grownR (below_then hb0D.out (below_then hb3.out (below_alloc _ _))) (grown_set _ R 1 _) hR0
        rintro e W6 (⟨rfl, hJ6, hk6⟩ | ⟨rfl, hJx6⟩)
        · have hrd6 := hk6.1 _ _ hrd5
          have hb6 := hk6.2 hb5
          gi_wp2_with (refine ⟨trivial, ?_⟩; gi_at_call 85; refine (callsIn_wide.2 (skip_rd R s (k + m) W6 hs (by omega) hrd6)).mono ?_; rintro e W7 ⟨rfl, hr7, hg7⟩)
          go_roundw
          case rel => exact ⟨_, _, hnext.out, hr7, below_grownR hb6 hg7 hR0, HJ.out _ _ _ _ hJ6 hg7 (fun r e => by cases e; rfl)⟩
          case measure => rw [hr7.pos, hr.pos]; omega
        · gi_wp2
          refine bodyPost_ret (results_none rfl _ _ _) rfl ?_
          exact ⟨⟨_, rfl⟩, .inr ⟨_, trivial, hJx6⟩⟩
    · clear hR hwb hsb
      gi_wp2_with fail
      gi_region
      gi_wp2
      go_end0
      exact ⟨⟨_, rfl⟩, .inl ⟨pre, .inl ⟨k, hat, by simpa using hlt⟩, HJ.out _ _ _ none hj (grown_below ((Below.refl _ _).drew) none) (fun r e => by cases e)⟩⟩
end Go.Proofs.YthknlifmkjdoeaaGreatDoor
