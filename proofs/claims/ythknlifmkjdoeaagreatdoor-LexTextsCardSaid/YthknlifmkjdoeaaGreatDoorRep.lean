/-
  slices.Repeat of one integer: the row that it makes.
-/
import Derived.Laws.CopyOwn
import Derived.Laws.MakeOwn
import Derived.Laws.OwnMore
import Derived.Test.YthknlifmkjdoeaaGreatDoorShelf
import Derived.Test.YthknlifmkjdoeaaGreatDoorRefG
import Derived.Test.YthknlifmkjdoeaaGreatDoorLexE
import Derived.Test.YthknlifmkjdoeaaGreatDoorLate
namespace Go.Proofs.YthknlifmkjdoeaaGreatDoor
open Go.RowKit Lode Go.Shelf
attribute [local go_sem ↓] Go.wp_at_zero Go.wp_at_succ
theorem Tryz.infoInt : (Tryz.prog.info? 3).map (fun i => (i.zero, i.size, i.bytes)) = some (some (.int .i64 0), 1, 8) := by kernel_rfl
theorem szInt : (Tryz.prog.info? 3).map (·.size) = some 1 := by kernel_rfl
set_option maxRecDepth 100000 in
theorem make_ints (n : Nat) (hn : n ≤ 1000000) (W : World) : (Instr.makeSlice 60 (.int .i64 (n : Int)) (.int .i64 (n : Int))).run Tryz.prog W = .ok (.slice (some ⟨W.heap.size, 0, none⟩) n n) (W.alloc (.cells (List.replicate n (Value.int .i64 0)).toArray 3)) := by
  obtain ⟨i0, hi, hz0, hz1, hz2⟩ := info_parts Tryz.infoInt
  have h := run_make (P := Tryz.prog) W 60 3 i0 _ Tryz.underlying60 hi hz0 .i64 .i64 n n (by omega) (Int.le_refl _) (by rw [hz2]; omega) (by omega)
  simp only [Int.toNat_natCast, hz1, Nat.mul_one] at h
  rw [h]
  congr 3
  rw [← Array.toList_inj]
  exact toList_madeCells_one _ n
/-- k are written -/
def repRow (x : Value) (n k : Nat) : List Value := List.replicate k x ++ List.replicate (n - k) (Value.int .i64 0)
def RpRel (x : Value) (n : Nat) (w : World) (i : Value) (wr : World) : Prop := ∃ k : Nat, i = .int .i64 k ∧ 1 ≤ k ∧ k ≤ n ∧ wr.heap[w.heap.size]? = some (.cells (repRow x n k).toArray 3 (0, 0)) ∧ Below w.heap.size w wr
theorem wp_copy_row {o : Oper} {a : Act} {w : World} {K : Act → World → Prop} {Q : Exit → Act → World → Prop} (d s : Operand)
    (ho : o.op = .call { callee := .builtin .copy, args := #[d, s], argTypes := #[60, 60] })
    (g off dLen dCap : Nat) (ad : Addr) (sLen sCap : Nat) (hd : a.eval d = .slice (some ⟨g, off, none⟩) dLen dCap) (hs : a.eval s = .slice (some ad) sLen sCap)
    (cur : Array Value) (hg : w.heap[g]? = some (.cells cur 3 (0, 0))) (cs : List Value) (hn : cs.length = Nat.min sLen dLen)
    (hsrc : ∀ j v, cs[j]? = some v → w.cell? (ad.add j) = some v) (hfit : off + cs.length ≤ cur.size) (h1 : ∀ v ∈ cs, v.oneCell' = true)
    (h : K (a.put o.dst (goInt cs.length)) (w.setRow g (cur.toList.take off ++ cs ++ cur.toList.drop (off + cs.length)).toArray)) : o.wp Tryz.prog a w K Q := by
  have hrun := run_copy_row (P := Tryz.prog) w 60 60 o.type 3 g off dLen dCap ad sLen sCap cur 3 cs Tryz.underlying60 szInt hg hn hsrc hfit h1
  unfold Oper.wp execOp
  simp only [ho, resolve, invoke, builtin, Sem.run_bind, Sem.run_pure, Result.andThen_ok, List.map_toArray, List.map_cons, List.map_nil, hd, hs, hrun]
  exact h
theorem repRow_copy (x : Value) (n k c : Nat) : ((repRow x n k).take k ++ List.replicate c x ++ (repRow x n k).drop (k + c)) = repRow x n (k + c) := by
  have h1 : (repRow x n k).take k = List.replicate k x := by unfold repRow; exact List.take_left' (by simp)
  have h2 : (repRow x n k).drop (k + c) = List.replicate (n - k - c) (Value.int .i64 0) := by
    unfold repRow
    have := List.drop_length_add_append (l₁ := List.replicate k x) (l₂ := List.replicate (n - k) (Value.int .i64 0)) (i := c)
    rw [List.length_replicate, List.drop_replicate] at this
    exact this
  rw [h1, h2]
  unfold repRow
  rw [← List.replicate_append_replicate, show n - (k + c) = n - k - c by omega]
theorem repRow_get (x : Value) (n k j : Nat) (hj : j < k) : (repRow x n k)[j]? = some x := by
  unfold repRow
  rw [List.getElem?_append_left (by simpa using hj), List.getElem?_replicate, if_pos hj]
theorem repRow_len (x : Value) (n k : Nat) (hk : k ≤ n) : (repRow x n k).length = n := by unfold repRow; simp; omega
set_option maxHeartbeats 1000000 in
set_option maxRecDepth 100000 in
theorem repeat_any (b : Nat) (z : Int) (n : Nat) (hn : n ≤ 1000000) (w : World) (hc : w.cell? ⟨b, 0, none⟩ = some (.int .i64 z)) :
    Calls Tryz.prog 72 #[.slice (some ⟨b, 0, none⟩) 1 1, .int .i64 n] w fun e w' => e = .returned (.slice (some ⟨w.heap.size, 0, none⟩) n n) ∧ w'.heap[w.heap.size]? = some (.cells (List.replicate n (Value.int .i64 z)).toArray 3 (0, 0)) ∧ Below w.heap.size w w' := by
  have hmk := make_ints n hn
  have HM := hid (fun W => Tryz.bits_Mul 1 n (by omega) (by omega) W)
  have hq : ((1 * n / 18446744073709551616 : Nat) : Int) = 0 := by rw [Nat.one_mul, Nat.div_eq_of_lt (by omega)]; rfl
  have hr : ((1 * n % 18446744073709551616 : Nat) : Int) = n := by rw [Nat.one_mul, Nat.mod_eq_of_lt (by omega)]
  rw [hq, hr] at HM
  clear hq hr
  have y1 : IntKind.u64.wrap (n : Int) = (n : Int) := by rw [IntWalk.u64_in _ ⟨by omega, by omega⟩]
  have y2 : IntKind.i64.wrap (n : Int) = (n : Int) := IntWalk.i64_in _ ⟨by omega, by omega⟩
  have y3 : decide ((9223372036854775807 : Int) < (n : Int)) = false := by rw [decide_eq_false_iff_not]; omega
  have y4 : decide ((n : Int) < 0) = false := by rw [decide_eq_false_iff_not]; omega
  have hmk : ∀ W : World, (Instr.makeSlice 60 (.int .i64 (n : Int)) (.int .i64 (n : Int))).run Tryz.prog W = .ok (.slice (some ⟨W.heap.size, 0, none⟩) n n) (W.alloc (.cells (Array.replicate n (Value.int .i64 0)) 3)) := fun W => by
    rw [hmk W]; simp
  have hb0 := below_alloc w (.cells (Array.replicate n (Value.int .i64 0)) 3 (0, 0))
  have hnew := heap_new w (.cells (Array.replicate n (Value.int .i64 0)) 3 (0, 0))
  by_cases hn0 : n = 0
  · subst hn0
    have hcp : (Builtin.copy_ #[60, 60] 3 #[.slice (some ⟨w.heap.size, 0, none⟩) 0 0, .slice (some ⟨b, 0, none⟩) 1 1]).run Tryz.prog (w.alloc (.cells #[] 3 (0, 0))) = .ok (goInt 0) (w.alloc (.cells #[] 3 (0, 0))) :=
      run_copy_none (P := Tryz.prog) _ 60 60 3 3 _ _ 0 0 1 1 Tryz.underlying60 szInt rfl
    have Hnew := hid hnew
    have hmk : ∀ W : World, (Instr.makeSlice 60 (.int .i64 0) (.int .i64 0)).run Tryz.prog W = .ok (.slice (some ⟨W.heap.size, 0, none⟩) 0 0) (W.alloc (.cells #[] 3)) := fun W => hmk W
    clear hnew
    go_enter Tryz.func72, Tryz.ntmps72
    go_wp2_with fail
    refine (HM.out _).mono ?_
    rintro e w1 ⟨rfl, rfl⟩
    go_wp2_with fail
    go_loopw [8] (fun i wr => i = .int .i64 0 ∧ wr = w1.alloc (.cells #[] 3 (0, 0))) (fun _ _ => 0)
    case atStart => exact ⟨rfl, rfl⟩
    case round =>
      obtain ⟨rfl, rfl⟩ := hrel
      go_wp2_with fail
      go_ret
      exact ⟨rfl, by simpa using Hnew.out, hb0⟩
  · have h1 : 1 ≤ n := by omega
    have hget : ∀ j v, [Value.int .i64 z][j]? = some v → (w.alloc (.cells (Array.replicate n (Value.int .i64 0)) 3 (0, 0))).cell? ((⟨b, 0, none⟩ : Addr).add j) = some v := fun j v h => by
      match j, h with
      | 0, h =>
        simp at h; subst h
        exact cell_later hb0 hc
    obtain ⟨W2, hcp, hW2, hbW2⟩ : ∃ W2, (Builtin.copy_ #[60, 60] 3 #[.slice (some ⟨w.heap.size, 0, none⟩) n n, .slice (some ⟨b, 0, none⟩) 1 1]).run Tryz.prog (w.alloc (.cells (Array.replicate n (Value.int .i64 0)) 3 (0, 0))) = .ok (.int .i64 1) W2 ∧ W2.heap[w.heap.size]? = some (.cells (repRow (.int .i64 z) n 1).toArray 3 (0, 0)) ∧ Below w.heap.size w W2 := by
      have hrun := run_copy_row (P := Tryz.prog) _ 60 60 3 3 w.heap.size 0 n n ⟨b, 0, none⟩ 1 1 _ 3 [.int .i64 z] Tryz.underlying60 szInt hnew (by show 1 = Nat.min 1 n; exact (Nat.min_eq_left h1).symm) hget (by simp; omega) (by intro v hv; simp at hv; subst hv; rfl)
      refine ⟨_, hrun, ?_, below_setRow hb0 (Nat.le_refl _) _⟩
      have := setRow_heap _ w.heap.size _ (List.take 0 (Array.replicate n (Value.int .i64 0)).toList ++ [Value.int .i64 z] ++ List.drop (0 + [Value.int .i64 z].length) (Array.replicate n (Value.int .i64 0)).toList).toArray 3 (0, 0) hnew
      rw [this]
      simp [repRow]
    have HW2 := hid hW2
    clear hnew hget hW2
    go_enter Tryz.func72, Tryz.ntmps72
    go_wp2_with fail
    refine (HM.out _).mono ?_
    rintro e w1 ⟨rfl, rfl⟩
    go_wp2_with fail
    go_loopw [8] (RpRel (.int .i64 z) n w1) (fun i _ => n - (intOf i).toNat)
    case atStart => exact ⟨1, rfl, Nat.le_refl _, h1, HW2.out, hbW2⟩
    case round =>
      obtain ⟨k, rfl, hk1, hk, hrow, hb⟩ := hrel
      by_cases hlt : k < n
      · obtain ⟨c, hcd⟩ : ∃ c, Nat.min k (n - k) = c := ⟨_, rfl⟩
        have hc1 : 1 ≤ c ∧ c ≤ k ∧ k + c ≤ n := by
          have h1 : c ≤ k := by rw [← hcd]; exact Nat.min_le_left k (n - k)
          have h2 : c ≤ n - k := by rw [← hcd]; exact Nat.min_le_right k (n - k)
          have h3 : 1 ≤ c := by rw [← hcd]; exact Nat.le_min.2 ⟨hk1, by omega⟩
          exact ⟨h3, h1, by omega⟩
        have Hrow := hid hrow
        have Hcd := hid hcd
        have hnk : ¬ n = k := by omega
        clear hrow hcd
        go_wp2_with fail
        refine wp_region_mix [(0, 0), (1, 0), (2, 0), (3, 0), (4, 0), (5, 0), (6, 0), (7, 3), (8, 0), (9, 0)] (by kernel_rfl) (by kernel_rfl) ?_
        iterate 7 (first
          | (refine wpM_skip rfl (by rfl) (by decide) ?_; simp only [Act.put, List.setIfInBounds_toArray, List.set_cons_zero, List.set_cons_succ])
          | (refine wpM_take rfl (by rfl) (v := ?_) ?_ ?_; rotate_left; (· (intro w'; go_simp; first | done | with_reducible rfl | (rw [if_neg (by first | omega | (simp; omega))]; try with_reducible rfl))); simp only [Act.put, List.setIfInBounds_toArray, List.set_cons_zero, List.set_cons_succ])
          | fail)
        refine wpM_late rfl (by rfl) (fun W5 hW5 => ?_)
        have hb5 := below_then (hb.drew) hW5.below
        have hrow5 : W5.heap[w1.heap.size]? = some (.cells (repRow (.int .i64 z) n k).toArray 3 (0, 0)) := heap_later hW5.below Hrow.out
        refine wp_copy_row (.tmp 41) (.tmp 44) rfl w1.heap.size k (n - k) (n - k) ⟨w1.heap.size, 0, none⟩ k n (by simp [Act.eval]) rfl _ hrow5 (List.replicate c (.int .i64 z)) (by rw [List.length_replicate]; exact Hcd.out.symm) ?_ (by rw [List.length_replicate]; simp [repRow_len _ _ _ hk]; omega) (by intro v hv; rw [List.mem_replicate] at hv; rw [hv.2]; rfl) ?_
        · intro j v hj
          rw [List.getElem?_replicate] at hj
          split at hj
          · cases hj
            have e0 : (⟨w1.heap.size, 0, none⟩ : Addr).add j = ⟨w1.heap.size, 0 + j, none⟩ := by
              unfold Addr.add; split
              · rename_i h; subst h; rfl
              · rfl
            rw [e0, Nat.zero_add, cell_heap hrow5 j, List.getElem?_toArray]
            exact repRow_get _ _ _ _ (by omega)
          · cases hj
        · have hnew := setRow_heap W5 w1.heap.size _ (List.take k (repRow (.int .i64 z) n k).toArray.toList ++ List.replicate c (Value.int .i64 z) ++ List.drop (k + (List.replicate c (Value.int .i64 z)).length) (repRow (.int .i64 z) n k).toArray.toList).toArray 3 (0, 0) hrow5
          have hbn := below_setRow hb5 (Nat.le_refl _) (List.take k (repRow (.int .i64 z) n k).toArray.toList ++ List.replicate c (Value.int .i64 z) ++ List.drop (k + (List.replicate c (Value.int .i64 z)).length) (repRow (.int .i64 z) n k).toArray.toList).toArray
          generalize World.setRow W5 w1.heap.size _ = W6 at *
          rw [List.length_replicate] at hnew
          have e1 : (repRow (Value.int .i64 z) n k).toArray.toList = repRow (.int .i64 z) n k := rfl
          rw [e1, repRow_copy] at hnew
          have y5 : IntKind.i64.wrap ((k : Int) + (c : Int)) = ((k + c : Nat) : Int) := by rw [IntWalk.i64_in _ ⟨by omega, by omega⟩]; omega
          have Hnew := hid hnew
          rw [List.length_replicate]
          clear hnew hrow5
          try simp only [Act.put, List.setIfInBounds_toArray, List.set_cons_zero, List.set_cons_succ]
          refine wpE_take rfl (by rfl) (v := .int .i64 ((k + c : Nat) : Int)) (fun _ => by go_simp) ?_
          try simp only [Act.put, List.setIfInBounds_toArray, List.set_cons_zero, List.set_cons_succ]
          refine wpE_take rfl (by rfl) (v := .int .i64 ((k + c : Nat) : Int)) (fun _ => by go_simp) ?_
          try simp only [Act.put, List.setIfInBounds_toArray, List.set_cons_zero, List.set_cons_succ]
          refine wpE_done ?_
          go_wp2_with fail
          go_roundw
          case rel => exact ⟨k + c, by first | rfl | go_num, by omega, by omega, Hnew.out, hbn⟩
          case measure => simp [intOf]; omega
      · have hkn : k = n := by omega
        subst hkn
        have hrow2 : repRow (.int .i64 z) k k = List.replicate k (.int .i64 z) := by unfold repRow; simp
        rw [hrow2] at hrow
        have Hrow := hid hrow
        clear hrow hrow2
        go_wp2_with fail
        go_ret
        exact ⟨rfl, Hrow.out, hb⟩
end Go.Proofs.YthknlifmkjdoeaaGreatDoor
