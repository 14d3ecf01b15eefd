/-
  THE READER: token.
-/
import Derived.Test.YthknlifmkjdoeaaGreatDoorLexE
namespace Go.Proofs.YthknlifmkjdoeaaGreatDoor
open Go.RowKit Lode Go.Shelf
attribute [local go_sem ↓] Go.wp_at_zero Go.wp_at_succ
set_option maxRecDepth 100000 in
theorem ltoken_small (R : Nat) (s : ByteArray) (a : Nat) (w : World) (hs : s.size ≤ 1000000000000) (ha : a < s.size) (hRd : Rd w R s a) (h1 : small s[a] = true) :
    Calls Tryz.prog 86 #[.pointer (some ⟨R, 0, none⟩)] w (RFPost (tok1 (s.data.toList.drop a)) a w) := by
  obtain ⟨wb, sb, hR, hwb, hsb, hne1, hne2⟩ := hRd
  have hc : clsOf s[a] = 1 := by simp [clsOf, h1]
  have hc0 : w.cell? ⟨R, 0, none⟩ = some (.string s) := cell_heap hR 0
  have hc1 : w.cell? ⟨R, 1, none⟩ = some (.int .i64 a) := cell_heap hR 1
  have hc2 : w.cell? ⟨R, 2, none⟩ = some (.slice (some ⟨wb, 0, none⟩) 44 44) := cell_heap hR 2
  have hn0 : ∀ o, (w.alloc o).cell? ⟨R, 0, none⟩ = some (.string s) := fun o => cell_later (below_alloc w o) hc0
  have hn1 : ∀ o, (w.alloc o).cell? ⟨R, 1, none⟩ = some (.int .i64 a) := fun o => cell_later (below_alloc w o) hc1
  have hlt : (a : Int) < (s.size : Int) := by omega
  obtain ⟨m, hm, hmb⟩ : ∃ m, runLen (inCls [1, 3]) (s.data.toList.drop (a + 1)) = m ∧ a + 1 + m ≤ s.size := ⟨_, rfl, by
    have := runLen_le (inCls [1, 3]) (s.data.toList.drop (a + 1)); simp at this ⊢; omega⟩
  have Hrun := hid (fun (W : World) (q : ∃ n, W = ((w.alloc (T0 a)).drewN n).alloc (CL [1, 3])) => run_at_rdr R s a _ _ [1, 3] w W hs ha hR (by decide) m hm q (w.heap.size + 1) rfl)
  rw [inCls13] at hm
  have Hq := hid (tok1_small s a m ha h1 hm); clear hm
  have Hw := hid (fun (x : ByteArray) (W : World) (hW : Below w.heap.size w W) => words_has x W wb (heap_later hW hwb))
  generalize tok1 (s.data.toList.drop a) = q at *
  have HR := hid hR; clear hR hwb hsb
  go_enter Tryz.func86, Tryz.ntmps86
  go_wp2_with fail
  go_quiet (fail)
  go_wp2_with (first
    | (go_at_call 104; refine (classOf_any _ _).mono ?_; rintro e w' ⟨rfl, rfl⟩; rw [hc])
    | (go_at_call 105; refine (Hrun.out _ ⟨_, rfl⟩).mono ?_; rintro e w1 ⟨rfl, hr⟩))
  clear hn0 hn1
  obtain ⟨d0, d1, d2, _⟩ := hr.rdr HR.out
  obtain ⟨t0, t1, t2, f0, f1, f2⟩ := hr.cells
  have ne := rdr_ne HR.out
  clear hc0 hc1 hc2
  have e1 : IntKind.i64.wrap ((a : Int) + (1 + m)) = a + (1 + m) := IntWalk.i64_in _ (by omega)
  have e2 : (0 : Int) ≤ (a : Int) + (1 + m) := by omega
  have e3 : ((a : Int) + (1 + m)).toNat = a + (1 + m) := by omega
  have e4 : (a : Int) ≤ (a : Int) + (1 + m) := by omega
  have e5 : a ≤ a + (1 + m) := by omega
  have e6 : (a : Int) + (1 + m) ≤ (s.size : Int) := by omega
  refine wp_calm ?_
  go_region_held3 (fun w' => w'.cell? ⟨R, 0, none⟩ = some (.string s) ∧ w'.cell? ⟨R, 1, none⟩ = some (.int .i64 a)) (first | (go_keep; done) | (go_split_ands; refine ⟨?_, ?_⟩ <;> (simp only [cell_drew, cell_set_far ne]; assumption))) (fail)
  clear e1 e2 e3 e4 e5 e6 d0 d1 d2 t0 t1 t2 f0 f1 f2
  have hr2 := ((hr.kind 1).text (s.extract a (a + (1 + m)))).drew
  generalize World.drew _ = W2 at *
  obtain ⟨d0, d1, d2, _⟩ := hr2.rdr HR.out
  obtain ⟨t0, t1, t2, f0, f1, f2⟩ := hr2.cells
  have hr2 := hid hr2
  have Hw2 := hid (fun x => Hw.out x W2 hr2.out.b)
  go_wp2_with fail
  go_quiet ((go_at_call 106; refine (Hw.out _ _ (by exact bl_drewN hr2.out.b _)).mono ?_; rintro e w' ⟨rfl, rfl⟩; exact ⟨rfl, _, rfl⟩))
  go_wp2_with fail
  · have hr3 := ((((hr2.out.drewN nq).kind 5).kind 5).text (s.extract a (a + (1 + m)))).at
    generalize World.setCell _ ⟨_, 2, none⟩ _ = W3 at hr3 ⊢
    obtain ⟨u0, u1, u2, v0, v1, v2⟩ := hr3.cells
    have hw : wordList.contains (s.extract a (a + (1 + m))).data.toList = true := by assumption
    refine bodyPost_ret (v := .tuple #[.agg #[.int .u8 5, .string (s.extract a (a + (1 + m))), .int .i64 a], .int .i64 (1 + m), .bool (decide (1 + (m : Int) ≤ 12))]) (by simp [results, Tryz.results86, go_sem, u0, u1, u2]) rfl ?_
    refine ⟨_, _, _, _, _, rfl, ?_, hr3.b⟩
    exact tres_small (k := 5) (by rw [Hq.out]; simp only [hw, if_true])
  · have hr3 := (((hr2.out.drewN nq).kind 1).text (s.extract a (a + (1 + m)))).at
    generalize World.setCell _ ⟨_, 2, none⟩ _ = W3 at hr3 ⊢
    obtain ⟨u0, u1, u2, v0, v1, v2⟩ := hr3.cells
    have hw : wordList.contains (s.extract a (a + (1 + m))).data.toList = false := by assumption
    refine bodyPost_ret (v := .tuple #[.agg #[.int .u8 1, .string (s.extract a (a + (1 + m))), .int .i64 a], .int .i64 (1 + m), .bool (decide (1 + (m : Int) ≤ 12))]) (by simp [results, Tryz.results86, go_sem, u0, u1, u2]) rfl ?_
    refine ⟨_, _, _, _, _, rfl, ?_, hr3.b⟩
    exact tres_small (k := 1) (by rw [Hq.out]; simp only [hw, Bool.false_eq_true, if_false])
end Go.Proofs.YthknlifmkjdoeaaGreatDoor

/-
  THE READER: token: type names, numbers, quoted texts.
-/
namespace Go.Proofs.YthknlifmkjdoeaaGreatDoor
open Go.RowKit Lode Go.Shelf
attribute [local go_sem ↓] Go.wp_at_zero Go.wp_at_succ
set_option maxRecDepth 100000 in
theorem ltoken_big (R : Nat) (s : ByteArray) (a : Nat) (w : World) (hs : s.size ≤ 1000000000000) (ha : a < s.size) (hRd : Rd w R s a) (h1 : small s[a] = false) (h2 : big s[a] = true) :
    Calls Tryz.prog 86 #[.pointer (some ⟨R, 0, none⟩)] w (RFPost (tok1 (s.data.toList.drop a)) a w) := by
  have hc : clsOf s[a] = 2 := by simp [clsOf, h1, h2]
  obtain ⟨wb, sb, hR, hwb, hsb, hne1, hne2⟩ := hRd
  have hc0 : w.cell? ⟨R, 0, none⟩ = some (.string s) := cell_heap hR 0
  have hc1 : w.cell? ⟨R, 1, none⟩ = some (.int .i64 a) := cell_heap hR 1
  have hn0 : ∀ o, (w.alloc o).cell? ⟨R, 0, none⟩ = some (.string s) := fun o => cell_later (below_alloc w o) hc0
  have hn1 : ∀ o, (w.alloc o).cell? ⟨R, 1, none⟩ = some (.int .i64 a) := fun o => cell_later (below_alloc w o) hc1
  have hlt : (a : Int) < (s.size : Int) := by omega
  obtain ⟨m, hm, hmb⟩ : ∃ m, runLen (inCls [1, 3]) (s.data.toList.drop (a + 1)) = m ∧ a + 1 + m ≤ s.size := ⟨_, rfl, by
    have := runLen_le (inCls [1, 3]) (s.data.toList.drop (a + 1)); simp at this ⊢; omega⟩
  have Hrun := hid (fun (W : World) (q : ∃ n, W = ((w.alloc (T0 a)).drewN n).alloc (CL [1, 3])) => run_at_rdr R s a _ _ [1, 3] w W hs ha hR (by decide) m hm q (w.heap.size + 1) rfl)
  rw [inCls13] at hm
  have Hq := hid (tok1_big s a m ha h1 h2 hm); clear hm
  generalize tok1 (s.data.toList.drop a) = q at *
  have HR := hid hR; clear hR hwb hsb
  go_enter Tryz.func86, Tryz.ntmps86
  go_wp2_with fail
  go_quiet (fail)
  go_wp2_with (first
    | (go_at_call 104; refine (classOf_any _ _).mono ?_; rintro e w' ⟨rfl, rfl⟩; rw [hc])
    | (go_at_call 105; refine (Hrun.out _ ⟨_, rfl⟩).mono ?_; rintro e w1 ⟨rfl, hr⟩))
  clear hn0 hn1
  obtain ⟨d0, d1, d2, _⟩ := hr.rdr HR.out
  obtain ⟨t0, t1, t2, f0, f1, f2⟩ := hr.cells
  have ne := rdr_ne HR.out
  clear hc0 hc1
  have e1 : IntKind.i64.wrap ((a : Int) + (1 + m)) = a + (1 + m) := IntWalk.i64_in _ (by omega)
  have e2 : (0 : Int) ≤ (a : Int) + (1 + m) := by omega
  have e3 : ((a : Int) + (1 + m)).toNat = a + (1 + m) := by omega
  have e4 : (a : Int) ≤ (a : Int) + (1 + m) := by omega
  have e5 : a ≤ a + (1 + m) := by omega
  have e6 : (a : Int) + (1 + m) ≤ (s.size : Int) := by omega
  refine wp_calm ?_
  go_region_held3 (fun w' => w'.cell? ⟨R, 0, none⟩ = some (.string s) ∧ w'.cell? ⟨R, 1, none⟩ = some (.int .i64 a)) (first | (go_keep; done) | (go_split_ands; refine ⟨?_, ?_⟩ <;> (simp only [cell_drew, cell_set_far ne]; assumption))) (fail)
  clear e1 e2 e3 e4 e5 e6 d0 d1 d2 t0 t1 t2 f0 f1 f2
  have hr2 := ((hr.kind 2).text (s.extract a (a + (1 + m)))).drew
  generalize World.drew _ = W2 at *
  obtain ⟨t0, t1, t2, f0, f1, f2⟩ := hr2.cells
  have hr2 := hid hr2
  go_wp2_with fail
  have hr3 := ((hr2.out.kind 2).text (s.extract a (a + (1 + m)))).at
  generalize World.setCell _ ⟨_, 2, none⟩ _ = W3 at hr3 ⊢
  obtain ⟨u0, u1, u2, v0, v1, v2⟩ := hr3.cells
  refine bodyPost_ret (v := .tuple #[.agg #[.int .u8 2, .string (s.extract a (a + (1 + m))), .int .i64 a], .int .i64 (1 + m), .bool (decide (1 + (m : Int) ≤ 12))]) (by simp [results, Tryz.results86, go_sem, u0, u1, u2]) rfl ?_
  refine ⟨_, _, _, _, _, rfl, ?_, hr3.b⟩
  exact tres_small (k := 2) Hq.out
theorem take_all (p : UInt8 → Bool) : ∀ r : List UInt8, (r.take (runLen p r)).all p = true
  | [] => rfl
  | c :: r => by
    by_cases h : p c = true
    · simp only [runLen, h, if_true, List.take_succ_cons, List.all_cons, take_all p r, Bool.and_self]
    · simp [runLen, h]
theorem digits_of (s : ByteArray) (a m : Nat) (ha : a < s.size) (h3 : digit s[a] = true) (hm : runLen digit (s.data.toList.drop (a + 1)) = m) :
    (s.extract a (a + (1 + m))).data.toList ≠ [] ∧ (s.extract a (a + (1 + m))).data.toList.all digit = true := by
  rw [extract_data, bdrop s a ha, Nat.add_comm 1 m, List.take_succ_cons]
  refine ⟨by simp, ?_⟩
  rw [List.all_cons, h3, ← hm, take_all]; rfl
theorem tok1_digit' (s : ByteArray) (a m : Nat) (ha : a < s.size) (h1 : small s[a] = false) (h2 : big s[a] = false) (h3 : digit s[a] = true) (hm : runLen digit (s.data.toList.drop (a + 1)) = m) :
    tok1 (s.data.toList.drop a) = if isNum (s.extract a (a + (1 + m))).data.toList then some (3, (s.extract a (a + (1 + m))).data.toList, 1 + m) else none := by
  rw [extract_data, bdrop s a ha]
  simp only [tok1, h1, h2, h3, if_true, Bool.false_eq_true, if_false, hm]
set_option maxHeartbeats 2000000 in
set_option maxRecDepth 100000 in
theorem ltoken_digit (R : Nat) (s : ByteArray) (a : Nat) (w : World) (hs : s.size ≤ 1000000000000) (ha : a < s.size) (hRd : Rd w R s a) (hG : Glob w) (h1 : small s[a] = false) (h2 : big s[a] = false) (h3 : digit s[a] = true) :
    Calls Tryz.prog 86 #[.pointer (some ⟨R, 0, none⟩)] w (RFPost (tok1 (s.data.toList.drop a)) a w) := by
  have hc : clsOf s[a] = 3 := by simp [clsOf, h1, h2, h3]
  obtain ⟨wb, sb, hR, hwb, hsb, hne1, hne2⟩ := hRd
  have hc0 : w.cell? ⟨R, 0, none⟩ = some (.string s) := cell_heap hR 0
  have hc1 : w.cell? ⟨R, 1, none⟩ = some (.int .i64 a) := cell_heap hR 1
  have hn0 : ∀ o, (w.alloc o).cell? ⟨R, 0, none⟩ = some (.string s) := fun o => cell_later (below_alloc w o) hc0
  have hn1 : ∀ o, (w.alloc o).cell? ⟨R, 1, none⟩ = some (.int .i64 a) := fun o => cell_later (below_alloc w o) hc1
  have hlt : (a : Int) < (s.size : Int) := by omega
  obtain ⟨m, hm, hmb⟩ : ∃ m, runLen (inCls [3]) (s.data.toList.drop (a + 1)) = m ∧ a + 1 + m ≤ s.size := ⟨_, rfl, by
    have := runLen_le (inCls [3]) (s.data.toList.drop (a + 1)); simp at this ⊢; omega⟩
  have Hrun := hid (fun (W : World) (q : ∃ n, W = ((w.alloc (T0 a)).drewN n).alloc (CL [3])) => run_at_rdr R s a _ _ [3] w W hs ha hR (by decide) m hm q (w.heap.size + 1) rfl)
  rw [inCls3] at hm
  have hdig := digits_of s a m ha h3 hm
  have hq := tok1_digit' s a m ha h1 h2 h3 hm
  have hxs : (s.extract a (a + (1 + m))).size ≤ 1000000000000 := by simp; omega
  obtain ⟨bb, hbb⟩ : ∃ bb, isNum (s.extract a (a + (1 + m))).data.toList = bb := ⟨_, rfl⟩
  rw [hbb] at hq
  have Hnum := hid (fun (W : World) (hW : Below w.heap.size w W) => hbb ▸ isNumber_any (s.extract a (a + (1 + m))) W hxs (hG.later hW) hdig.1 hdig.2)
  have Hq := hid hq
  clear hm hq hdig hbb hxs
  generalize tok1 (s.data.toList.drop a) = q at *
  have HR := hid hR; clear hR hwb hsb
  have HG := hid hG; clear hG
  go_enter Tryz.func86, Tryz.ntmps86
  go_wp2_with fail
  go_quiet (fail)
  go_wp2_with (first
    | (go_at_call 104; refine (classOf_any _ _).mono ?_; rintro e w' ⟨rfl, rfl⟩; rw [hc])
    | (go_at_call 105; refine (Hrun.out _ ⟨_, rfl⟩).mono ?_; rintro e w1 ⟨rfl, hr⟩))
  clear hn0 hn1
  obtain ⟨d0, d1, d2, _⟩ := hr.rdr HR.out
  obtain ⟨t0, t1, t2, f0, f1, f2⟩ := hr.cells
  have ne := rdr_ne HR.out
  clear hc0 hc1
  have e1 : IntKind.i64.wrap ((a : Int) + (1 + m)) = a + (1 + m) := IntWalk.i64_in _ (by omega)
  have e2 : (0 : Int) ≤ (a : Int) + (1 + m) := by omega
  have e3 : ((a : Int) + (1 + m)).toNat = a + (1 + m) := by omega
  have e4 : (a : Int) ≤ (a : Int) + (1 + m) := by omega
  have e5 : a ≤ a + (1 + m) := by omega
  have e6 : (a : Int) + (1 + m) ≤ (s.size : Int) := by omega
  refine wp_calm ?_
  go_region_held3 (fun w' => w'.cell? ⟨R, 0, none⟩ = some (.string s) ∧ w'.cell? ⟨R, 1, none⟩ = some (.int .i64 a)) (first | (go_keep; done) | (go_split_ands; refine ⟨?_, ?_⟩ <;> (simp only [cell_drew, cell_set_far ne]; assumption))) (fail)
  clear e1 e2 e3 e4 e5 e6 d0 d1 d2 t0 t1 t2 f0 f1 f2
  have hr2 := ((hr.kind 3).text (s.extract a (a + (1 + m)))).drew
  generalize World.drew _ = W2 at *
  obtain ⟨t0, t1, t2, f0, f1, f2⟩ := hr2.cells
  have hr2 := hid hr2
  go_wp2_with fail
  have hTlt : w.heap.size < W2.heap.size := World.block_lt_of_cell? W2 _ t0
  have Hn2 := hid (fun (W : World) (hW : Below W2.heap.size W2 W) => Hnum.out W (below_then hr2.out.b hW))
  refine wp_calm ?_
  go_region_held3 (fun w' => w'.cell? ⟨w.heap.size, 0, none⟩ = some (.int .u8 3) ∧ w'.cell? ⟨w.heap.size, 1, none⟩ = some (.string (s.extract a (a + (1 + m)))) ∧ w'.cell? ⟨w.heap.size, 2, none⟩ = some (.int .i64 a))
    (first | (go_keep; done) | (go_split_ands; refine ⟨?_, ?_, ?_⟩ <;> exact cell_later hb4 (by assumption)) | (obtain ⟨u0, u1, u2⟩ := ‹w4.cell? ⟨w.heap.size, 0, none⟩ = some (.int .u8 3) ∧ w4.cell? ⟨w.heap.size, 1, none⟩ = some (.string (s.extract a (a + (1 + m)))) ∧ w4.cell? ⟨w.heap.size, 2, none⟩ = some (.int .i64 a)›; rw [set_id u0, set_id u1, set_id u2]; exact ⟨u0, u1, u2⟩))
    (first | (go_at_call 107; refine (Hn2.out _ (Below.drew (Below.refl _ _))).mono ?_; rintro e w4 ⟨rfl, hb4⟩; have g0 := frozen_later (w := W2.drew) hb4 hTlt f0; have g1 := frozen_later (w := W2.drew) hb4 hTlt f1; have g2 := frozen_later (w := W2.drew) hb4 hTlt f2))
  have hr4 := (((hr2.out.drew.later hb4).kind 3).text (s.extract a (a + (1 + m)))).at
  go_wp2_with fail
  generalize World.setCell _ ⟨_, 2, none⟩ _ = W5 at hr4 ⊢
  obtain ⟨u0, u1, u2, v0, v1, v2⟩ := hr4.cells
  refine bodyPost_ret (v := .tuple #[.agg #[.int .u8 3, .string (s.extract a (a + (1 + m))), .int .i64 a], .int .i64 (1 + m), .bool bb]) (by simp [results, Tryz.results86, go_sem, u0, u1, u2]) rfl ?_
  refine ⟨_, _, _, _, _, rfl, ?_, hr4.b⟩
  rw [Hq.out]
  cases bb
  · exact rfl
  · exact ⟨rfl, rfl, ba_eta _, rfl, by omega⟩
end Go.Proofs.YthknlifmkjdoeaaGreatDoor
