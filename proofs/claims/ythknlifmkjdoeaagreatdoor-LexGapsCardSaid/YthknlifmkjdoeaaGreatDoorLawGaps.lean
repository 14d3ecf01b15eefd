/-
  LexGaps: the law's walk.
-/
import Derived.Test.YthknlifmkjdoeaaGreatDoorLawQuoted
import Derived.Test.YthknlifmkjdoeaaGreatDoorLawAlike
namespace Lode
/-- what a drawn byte adds: bytes so far, and whether a comment is open -/
def bstep (x : List UInt8 × Bool) (b : UInt8) : List UInt8 × Bool :=
  (x.1 ++ [if b.toNat % 3 = 0 then 32 else if b.toNat % 3 = 1 then 10 else 35] ++ (if (b.toNat % 3 == 2 || (x.2 && b.toNat % 3 != 1)) = true then [UInt8.ofNat (32 + b.toNat % 95)] else []), b.toNat % 3 == 2 || (x.2 && b.toNat % 3 != 1))
def btw (l : List UInt8) : List UInt8 × Bool := l.foldl bstep ([], false)
end Lode
namespace Go.Proofs.YthknlifmkjdoeaaGreatDoor
open Go.RowKit Lode Go.Shelf
attribute [local go_sem ↓] Go.wp_at_zero Go.wp_at_succ
theorem btw_snoc (l : List UInt8) (b : UInt8) : btw (l ++ [b]) = bstep (btw l) b := by unfold btw; rw [List.foldl_append]; rfl
theorem print_toNat (b : UInt8) : (UInt8.ofNat (32 + b.toNat % 95)).toNat = 32 + b.toNat % 95 := by rw [UInt8.toNat_ofNat']; omega
theorem gapSt_print (b : UInt8) : gapSt true [UInt8.ofNat (32 + b.toNat % 95)] = some true := by
  have h := print_toNat b
  have h10 : UInt8.ofNat (32 + b.toNat % 95) ≠ 10 := fun e => by rw [e] at h; have : (10 : UInt8).toNat = 10 := rfl; omega
  simp only [gapSt]
  rw [if_neg h10]
  split
  · rfl
  · simp
theorem bstep_gap {x : List UInt8 × Bool} (b : UInt8) (h : gapSt false x.1 = some x.2) : gapSt false (bstep x b).1 = some (bstep x b).2 := by
  obtain ⟨s, c⟩ := x
  simp only at h
  have hm : b.toNat % 3 = 0 ∨ b.toNat % 3 = 1 ∨ b.toNat % 3 = 2 := by omega
  unfold bstep
  simp only [gapSt_app, h, Option.bind_some]
  rcases hm with hm | hm | hm
  · rw [hm]
    cases c with
    | false => rfl
    | true => exact gapSt_print b
  · rw [hm]
    cases c <;> rfl
  · rw [hm]
    cases c with
    | false => exact gapSt_print b
    | true => exact gapSt_print b
theorem bstep_isB {x : List UInt8 × Bool} (b : UInt8) (h : x.1.all isB = true) : (bstep x b).1.all isB = true := by
  have hp : isB (UInt8.ofNat (32 + b.toNat % 95)) = true := by rw [isB_iff, print_toNat]; omega
  unfold bstep
  simp only [List.all_append, h, Bool.true_and, Bool.and_eq_true]
  constructor
  · split
    · decide
    · split <;> decide
  · split
    · rw [List.all_cons, List.all_nil, hp]; rfl
    · rfl
theorem bstep_len (x : List UInt8 × Bool) (b : UInt8) : (bstep x b).1.length ≤ x.1.length + 2 := by
  unfold bstep
  simp only [List.length_append, List.length_cons, List.length_nil]
  split <;> simp
theorem fold_all : ∀ (l : List UInt8) (x : List UInt8 × Bool), gapSt false x.1 = some x.2 → x.1.all isB = true → gapSt false (l.foldl bstep x).1 = some (l.foldl bstep x).2 ∧ (l.foldl bstep x).1.all isB = true ∧ (l.foldl bstep x).1.length ≤ x.1.length + 2 * l.length
  | [], x, h1, h2 => ⟨h1, h2, by simp⟩
  | b :: l, x, h1, h2 => by
    obtain ⟨i1, i2, i3⟩ := fold_all l (bstep x b) (bstep_gap b h1) (bstep_isB b h2)
    have := bstep_len x b
    exact ⟨i1, i2, by rw [List.length_cons]; simp only [List.foldl_cons]; omega⟩
theorem btw_all (l : List UInt8) : gapSt false (btw l).1 = some (btw l).2 ∧ (btw l).1.all isB = true ∧ (btw l).1.length ≤ 2 * l.length := by
  have := fold_all l ([], false) rfl rfl
  simpa [btw] using this
/-- a gap put in: the tokens stay -/
theorem gaps_plain (s l : List UInt8) (h : (Lode.read s).2.2 = 0) (hs : s.length ≤ 600) (hl : l.length ≤ 20) (i : Nat) (hi : i ≤ (Lode.read s).1.length) : ∃ p, p ≤ s.length ∧ (∀ x, (Lode.read s).1[i]? = some x → x.at_ = (p : Nat)) ∧ (i = (Lode.read s).1.length → p = s.length) ∧
    ∃ m, Lode.read (s.take p ++ [10] ++ (btw l).1 ++ [10] ++ s.drop p) = (m, 0, 0) ∧ m.map kt = (Lode.read s).1.map kt := by
  obtain ⟨h1, h2, h3, _⟩ := read_rd h
  obtain ⟨b1, b2, b3⟩ := btw_all l
  have hz : gapSt false (10 :: ((btw l).1 ++ [10])) = some false := by
    have e : gapSt false (10 :: ((btw l).1 ++ [10])) = gapSt false ((btw l).1 ++ [10]) := by simp [gapSt]
    rw [e, gapSt_app, b1]; rfl
  obtain ⟨p, hp, hat, hend, hk⟩ := h1.put _ hz i hi
  refine ⟨p, hp, fun x hx => by obtain ⟨hi, rfl⟩ := List.getElem?_eq_some_iff.1 hx; rw [hat hi, Nat.zero_add], hend, ?_⟩
  have e : s.take p ++ [10] ++ (btw l).1 ++ [10] ++ s.drop p = s.take p ++ ((10 :: ((btw l).1 ++ [10])) ++ s.drop p) := by simp
  rw [e]
  obtain ⟨m, hm, hmk⟩ := hk
  obtain ⟨c1, c2⟩ := chk_ok.1 h3
  have hml : m.length ≤ 1200 := by have := congrArg List.length hmk; simp only [List.length_map] at this; omega
  refine ⟨m, rd_read (chk_ok.2 ⟨?_, ?_⟩) hm hml, hmk⟩
  · simp only [List.length_append, List.length_cons, List.length_take, List.length_drop, List.length_nil]; omega
  · have ht : (s.take p).all isB = true := by rw [List.all_eq_true] at c2 ⊢; exact fun x hx => c2 x (List.mem_of_mem_take hx)
    have hd : (s.drop p).all isB = true := by rw [List.all_eq_true] at c2 ⊢; exact fun x hx => c2 x (List.mem_of_mem_drop hx)
    simp only [List.all_append, List.all_cons, List.all_nil, ht, hd, b2, Bool.and_true, Bool.true_and]
    decide
theorem wf_u16_lt {n : Nat} (h : (Lit.int .u16 (n : Int)).wf = true) : n < 65536 := by
  have h2 : IntKind.u16.max = 65535 := by decide
  simp only [Lit.wf, Bool.and_eq_true, decide_eq_true_eq, h2] at h
  omega
def GRel (l : List UInt8) (w : World) (s c i : Value) (wr : World) : Prop := ∃ k : Nat, s = .string ⟨(btw (l.take k)).1.toArray⟩ ∧ c = .bool (btw (l.take k)).2 ∧ i = .int .i64 k ∧ k ≤ l.length ∧ Below w.heap.size w wr
theorem ix3 (m : Nat) (hm : m < 3) (W : World) : (Instr.index 48 (.agg #[.int .u8 0, .int .u8 1, .int .u8 2]) (.int .u8 (m : Int))).run Tryz.prog W = .ok (.int .u8 (m : Int)) W := by
  have h : m = 0 ∨ m = 1 ∨ m = 2 := by omega
  rcases h with rfl | rfl | rfl <;> (show (_ : Result Value) = _; kernel_rfl)
theorem ix5 (m : Nat) (hm : m < 3) (W : World) : (Instr.index 47 (.agg #[.string ⟨#[32]⟩, .string ⟨#[10]⟩, .string ⟨#[35]⟩, .string ⟨#[34]⟩, .string ⟨#[120]⟩]) (.int .u8 (m : Int))).run Tryz.prog W = .ok (.string ⟨#[if m = 0 then 32 else if m = 1 then 10 else 35]⟩) W := by
  have h : m = 0 ∨ m = 1 ∨ m = 2 := by omega
  rcases h with rfl | rfl | rfl <;> (show (_ : Result Value) = _; kernel_rfl)
theorem conv_new (x : Nat) (hx : x < 256) (W : World) : (Go.convert 44 9 (.slice (some ⟨W.heap.size, 0, none⟩) 1 1)).run Tryz.prog (W.alloc (.cells #[.int .u8 (x : Int)] 5 (0, 0))) = .ok (.string ⟨#[UInt8.ofNat x]⟩) (W.alloc (.cells #[.int .u8 (x : Int)] 5 (0, 0))) := by
  refine conv_one (UInt8.ofNat x) W.heap.size _ ?_
  have e : ((UInt8.ofNat x).toNat : Int) = x := by rw [UInt8.toNat_ofNat']; omega
  rw [e]
  exact cell_heap (heap_new W _) 0
set_option maxHeartbeats 8000000 in
set_option maxRecDepth 100000 in
theorem law_gaps (s : ByteArray) (at_ : Nat) (v : Value) (w : World) (hat : at_ < 65536) (hb : ∃ l, BSl w v l) (hG : Glob w) : Calls Tryz.prog 7 #[.string s, .int .u16 at_, v] w fun e w' => e = .returned (.bool true) ∧ Below w.heap.size w w' := by
  have HK := hid (fun (W : World) (hb : Below w.heap.size w W) => known_any W (hG.later hb))
  obtain ⟨l, p, cap, rfl, hc⟩ := hb
  by_cases hbig : 600 < s.size
  · clear hc
    go_enter Tryz.func7, Tryz.ntmps7
    go_wp2_with (go_at_call 15; refine (HK.out _ (Below.refl _ _)).mono ?_; rintro e w1 ⟨rfl, hb1⟩)
    go_ret
    exact ⟨rfl, hb1⟩
  by_cases hbig2 : 20 < l.length
  · clear hc
    go_enter Tryz.func7, Tryz.ntmps7
    go_wp2_with (go_at_call 15; refine (HK.out _ (Below.refl _ _)).mono ?_; rintro e w1 ⟨rfl, hb1⟩)
    go_ret
    exact ⟨rfl, hb1⟩
  have HR := hid (lread_any s w (by omega) hG)
  have hsl : s.data.toList.length = s.size := by simp
  by_cases herr : (Lode.read s.data.toList).2.2 = 0
  · obtain ⟨_, hL1200, _, _⟩ := read_rd herr
    obtain ⟨pl, hp1, hp2, hp3, M, hM, hmk⟩ := gaps_plain s.data.toList l herr (by omega) (by omega) (at_ % ((Lode.read s.data.toList).1.length + 1)) (by have := Nat.mod_lt at_ (show 0 < (Lode.read s.data.toList).1.length + 1 by omega); omega)
    have HR2 := hid (fun (t : ByteArray) (W : World) (ht : t.data.toList = s.data.toList.take pl ++ [10] ++ (btw l).1 ++ [10] ++ s.data.toList.drop pl) (hb : Below w.heap.size w W) => (show Calls Tryz.prog 23 #[.string t] W (RdPost (M, 0, 0) W) from by
      have hsz := congrArg List.length ht
      have hbl := (btw_all l).2.2
      simp only [List.length_append, List.length_take, List.length_drop, List.length_cons, List.length_nil] at hsz
      have := lread_any t W (by have e : t.data.toList.length = t.size := by simp
                                omega) (hG.later hb)
      rw [ht, hM] at this; exact this))
    rw [hsl] at hp1 hp3
    clear hM
    generalize hr : Lode.read s.data.toList = R at *
    clear hr
    obtain ⟨L, ra, re⟩ := R
    simp only at herr hL1200 hp2 hp3 hmk
    subst herr
    obtain ⟨n, hn⟩ : ∃ n, L.length = n := ⟨_, rfl⟩
    rw [hn] at hL1200 hp3
    obtain ⟨i, hi⟩ : ∃ i, at_ % (n + 1) = i := ⟨_, rfl⟩
    obtain ⟨nl, hnl⟩ : ∃ nl, l.length = nl := ⟨_, rfl⟩
    rw [hnl] at hbig2 ⊢
    have Hnl := hid hnl
    have Hc := hid hc
    have hin : i ≤ n := by have := Nat.mod_lt at_ (show 0 < n + 1 by omega); omega
    have y1 : IntKind.i64.wrap (at_ : Int) = (at_ : Int) := IntWalk.i64_in _ ⟨by omega, by omega⟩
    have y2 : IntKind.i64.wrap ((n : Int) + 1) = (n : Int) + 1 := IntWalk.i64_in _ ⟨by omega, by omega⟩
    have y3 : (at_ : Int).tmod ((n : Int) + 1) = (i : Int) := by rw [Int.tmod_eq_emod_of_nonneg (by omega), ← hi, Int.natCast_emod]; simp
    rw [hn] at hp2
    rw [hi] at hp2 hp3
    clear hc hnl hG
    go_enter Tryz.func7, Tryz.ntmps7
    go_wp2_with fail
    refine HR.out.mono ?_
    rintro e w1 ⟨v1, rfl, ht1, hb1⟩
    obtain ⟨p1, cp1, hv1, hcells⟩ := ht1.sl
    rw [hn] at hv1
    by_cases hlt : i < n
    · have hiL : i < L.length := by rw [hn]; exact hlt
      have hL0 : L ≠ [] := fun e => by rw [e] at hiL; simp at hiL
      obtain ⟨g1, rfl, hcc⟩ := hcells.resolve_left hL0
      obtain ⟨_, _, a2⟩ := hcc i hiL
      rw [hp2 _ (List.getElem?_eq_getElem hiL)] at a2
      subst hv1
      have q1 : (pl : Int) ≤ (s.size : Int) := by omega
      have q2 : decide ((s.size : Int) < (pl : Int)) = false := by rw [decide_eq_false_iff_not]; omega
      have Hp2 := hid hp2
      have Hp3 := hid hp3
      clear hp2 hp3 hcells hcc hL0
      go_wp2_with fail
      go_loopw [12, 13, 14] (GRel l w1) (fun _ _ i _ => nl - (intOf i).toNat)
      case atStart => exact ⟨0, rfl, rfl, rfl, by omega, Below.refl _ _⟩
      case round =>
        obtain ⟨k, rfl, rfl, rfl, hk, hb⟩ := hrel
        rw [Hnl.out] at hk
        by_cases hlt : k < nl
        · have hkl : k < l.length := by rw [Hnl.out]; exact hlt
          have hl0 : l ≠ [] := fun e => by rw [e] at hkl; simp at hkl
          obtain ⟨gv, ov, rfl, hcell⟩ := Hc.out.resolve_left hl0
          have c0 := cell_later (below_then hb1 hb) (hcell k hkl)
          have hstep : btw (l.take (k + 1)) = bstep (btw (l.take k)) l[k] := by rw [← List.take_append_getElem hkl, btw_snoc]
          have hlen := (btw_all (l.take k)).2.2
          rw [List.length_take] at hlen
          clear hcell hl0
          generalize l[k] = b at *
          have Hstep := hid hstep
          clear hstep
          generalize btw (l.take k) = x at *
          obtain ⟨o, c⟩ := x
          simp only at hlen
          obtain ⟨m, em⟩ : ∃ m, b.toNat % 3 = m := ⟨_, rfl⟩
          obtain ⟨r, er⟩ : ∃ r, b.toNat % 95 = r := ⟨_, rfl⟩
          obtain ⟨y, ey⟩ : ∃ y, 32 + r = y := ⟨_, rfl⟩
          have hb8 := b.toNat_lt
          have z5 : (b.toNat : Int).tmod 3 = (m : Int) := by rw [Int.tmod_eq_emod_of_nonneg (by omega)]; omega
          have z3 : (b.toNat : Int).tmod 95 = (r : Int) := by rw [Int.tmod_eq_emod_of_nonneg (by omega)]; omega
          have z4 : IntKind.u8.wrap (32 + (r : Int)) = (y : Int) := by rw [IntWalk.u8_in _ (by omega)]; omega
          have z6 : ¬ (9223372036854775807 < o.length + 1) := by omega
          have z7 : ¬ (9223372036854775807 < o.length + 1 + 1) := by omega
          have hi30 : ∀ W, (Instr.index 48 (.agg #[.int .u8 0, .int .u8 1, .int .u8 2]) (.int .u8 0)).run Tryz.prog W = .ok (.int .u8 0) W := fun W => ix3 0 (by omega) W
          have hi50 : ∀ W, (Instr.index 47 (.agg #[.string ⟨#[32]⟩, .string ⟨#[10]⟩, .string ⟨#[35]⟩, .string ⟨#[34]⟩, .string ⟨#[120]⟩]) (.int .u8 0)).run Tryz.prog W = .ok (.string ⟨#[32]⟩) W := fun W => ix5 0 (by omega) W
          have hi31 : ∀ W, (Instr.index 48 (.agg #[.int .u8 0, .int .u8 1, .int .u8 2]) (.int .u8 1)).run Tryz.prog W = .ok (.int .u8 1) W := fun W => ix3 1 (by omega) W
          have hi51 : ∀ W, (Instr.index 47 (.agg #[.string ⟨#[32]⟩, .string ⟨#[10]⟩, .string ⟨#[35]⟩, .string ⟨#[34]⟩, .string ⟨#[120]⟩]) (.int .u8 1)).run Tryz.prog W = .ok (.string ⟨#[10]⟩) W := fun W => ix5 1 (by omega) W
          have hi32 : ∀ W, (Instr.index 48 (.agg #[.int .u8 0, .int .u8 1, .int .u8 2]) (.int .u8 2)).run Tryz.prog W = .ok (.int .u8 2) W := fun W => ix3 2 (by omega) W
          have hi52 : ∀ W, (Instr.index 47 (.agg #[.string ⟨#[32]⟩, .string ⟨#[10]⟩, .string ⟨#[35]⟩, .string ⟨#[34]⟩, .string ⟨#[120]⟩]) (.int .u8 2)).run Tryz.prog W = .ok (.string ⟨#[35]⟩) W := fun W => ix5 2 (by omega) W
          have hcn := fun W => conv_new y (by omega) W
          have hbx : ∀ o : Obj, Below w1.heap.size w1 (wr.alloc o) := fun o => bl_alloc hb o
          have Hst : Hid (btw (l.take (k + 1)) = (o ++ [if m = 0 then 32 else if m = 1 then 10 else 35] ++ (if (m == 2 || (c && m != 1)) = true then [UInt8.ofNat y] else []), m == 2 || (c && m != 1))) := hid (by rw [Hstep.out]; unfold bstep; rw [em, er, ey])
          have hm : m = 0 ∨ m = 1 ∨ m = 2 := by omega
          clear em er ey Hstep
          rcases hm with rfl | rfl | rfl
          all_goals
            cases c
            all_goals
              go_wp2_with fail
              go_roundw
              case rel => exact ⟨k + 1, by rw [Hst.out]; first | rfl | (show _ = Value.string ⟨(o ++ [_] ++ []).toArray⟩; rw [List.append_nil]; rfl), by rw [Hst.out]; rfl, by go_num, by omega, by first | exact hb | exact hbx _⟩
              case measure => simp [intOf]; omega
        · have hkn : k = nl := by omega
          subst hkn
          have htk : l.take k = l := List.take_of_length_le (by rw [Hnl.out]; exact Nat.le_refl _)
          rw [htk]
          have hbl := (btw_all l).2.2
          rw [Hnl.out] at hbl
          generalize btw l = bt at *
          obtain ⟨o, c⟩ := bt
          simp only at hbl
          go_wp2_with fail
          refine wp_region_mix [(0, 0), (1, 0), (2, 0), (3, 0), (4, 0), (5, 0), (6, 0), (7, 0), (8, 0), (9, 0), (10, 0), (11, 2), (12, 0), (13, 0), (14, 0), (15, 0), (16, 0), (17, 0), (18, 0)] (by kernel_rfl) (by kernel_rfl) ?_
          iterate 11 (first
            | (refine wpM_skip rfl (by rfl) (by decide) ?_; simp only [Act.put, List.setIfInBounds_toArray, List.set_cons_zero, List.set_cons_succ])
            | (refine wpM_take rfl (by rfl) (v := ?_) ?_ ?_; rotate_left; (· (intro w'; go_simp; first | done | with_reducible rfl | (rw [if_neg (by first | omega | (simp; omega))]; try with_reducible rfl))); simp only [Act.put, List.setIfInBounds_toArray, List.set_cons_zero, List.set_cons_succ]) | fail)
          refine wpM_call rfl (by rfl) (fun K hK W hW => ?_)
          go_simp
          refine (HR2.out _ W ?ht (below_then (below_then hb1 hb.drew) hW.below)).mono ?_
          case ht => rw [app_data, app_data, app_data, app_data, Go.Lib.extract_data, Go.Lib.extract_data, List.drop_zero, Nat.sub_zero, List.take_of_length_le (l := s.data.toList.drop pl) (by simp)]
          rintro e w2 ⟨v2, rfl, ht2, hb2⟩
          go_simp
          refine ⟨cl_iff.2 hb2, hK _ _ ?_⟩
          clear hK K
          try simp only [Act.put, List.setIfInBounds_toArray, List.set_cons_zero, List.set_cons_succ]
          iterate 7 (first
            | (refine wpM_skip rfl (by rfl) (by decide) ?_; simp only [Act.put, List.setIfInBounds_toArray, List.set_cons_zero, List.set_cons_succ])
            | (refine wpM_take rfl (by rfl) (v := ?_) ?_ ?_; rotate_left; (· (intro w'; go_simp; first | done | with_reducible rfl | (rw [if_neg (by first | omega | (simp; omega))]; try with_reducible rfl))); simp only [Act.put, List.setIfInBounds_toArray, List.set_cons_zero, List.set_cons_succ]) | fail)
          refine wpM_done fun W' hW' => ?_
          have hb3 := below_then (below_then (below_then hb.drew hW.below) hb2) hW'.below
          have HA := hid (kalike_any _ v2 L M W' (ht1.below hb3).sl.o (ht2.below hW'.below).sl.o (by omega))
          rw [hmk, decide_eq_true rfl] at HA
          obtain ⟨p2, cp2, rfl, _⟩ := ht2.sl
          go_wp2_with fail
          refine HA.out.mono ?_
          rintro e w3 ⟨rfl, hb4⟩
          have hb5 := below_then (below_then hb1 hb3) hb4
          go_wp2_with fail
          refine (HK.out _ hb5).mono ?_
          rintro e w4 ⟨rfl, hb6⟩
          go_wp2_with fail
          go_ret
          exact ⟨rfl, below_then hb5 hb6⟩
    · have hie : i = n := by omega
      subst hv1
      have hpe := hp3 hie
      subst hpe hie
      clear hp2 hp3 hcells
      go_wp2_with fail
      go_loopw [12, 13, 14] (GRel l w1) (fun _ _ i _ => nl - (intOf i).toNat)
      case atStart => exact ⟨0, rfl, rfl, rfl, by omega, Below.refl _ _⟩
      case round =>
        obtain ⟨k, rfl, rfl, rfl, hk, hb⟩ := hrel
        rw [Hnl.out] at hk
        by_cases hlt : k < nl
        · have hkl : k < l.length := by rw [Hnl.out]; exact hlt
          have hl0 : l ≠ [] := fun e => by rw [e] at hkl; simp at hkl
          obtain ⟨gv, ov, rfl, hcell⟩ := Hc.out.resolve_left hl0
          have c0 := cell_later (below_then hb1 hb) (hcell k hkl)
          have hstep : btw (l.take (k + 1)) = bstep (btw (l.take k)) l[k] := by rw [← List.take_append_getElem hkl, btw_snoc]
          have hlen := (btw_all (l.take k)).2.2
          rw [List.length_take] at hlen
          clear hcell hl0
          generalize l[k] = b at *
          have Hstep := hid hstep
          clear hstep
          generalize btw (l.take k) = x at *
          obtain ⟨o, c⟩ := x
          simp only at hlen
          obtain ⟨m, em⟩ : ∃ m, b.toNat % 3 = m := ⟨_, rfl⟩
          obtain ⟨r, er⟩ : ∃ r, b.toNat % 95 = r := ⟨_, rfl⟩
          obtain ⟨y, ey⟩ : ∃ y, 32 + r = y := ⟨_, rfl⟩
          have hb8 := b.toNat_lt
          have z5 : (b.toNat : Int).tmod 3 = (m : Int) := by rw [Int.tmod_eq_emod_of_nonneg (by omega)]; omega
          have z3 : (b.toNat : Int).tmod 95 = (r : Int) := by rw [Int.tmod_eq_emod_of_nonneg (by omega)]; omega
          have z4 : IntKind.u8.wrap (32 + (r : Int)) = (y : Int) := by rw [IntWalk.u8_in _ (by omega)]; omega
          have z6 : ¬ (9223372036854775807 < o.length + 1) := by omega
          have z7 : ¬ (9223372036854775807 < o.length + 1 + 1) := by omega
          have hi30 : ∀ W, (Instr.index 48 (.agg #[.int .u8 0, .int .u8 1, .int .u8 2]) (.int .u8 0)).run Tryz.prog W = .ok (.int .u8 0) W := fun W => ix3 0 (by omega) W
          have hi50 : ∀ W, (Instr.index 47 (.agg #[.string ⟨#[32]⟩, .string ⟨#[10]⟩, .string ⟨#[35]⟩, .string ⟨#[34]⟩, .string ⟨#[120]⟩]) (.int .u8 0)).run Tryz.prog W = .ok (.string ⟨#[32]⟩) W := fun W => ix5 0 (by omega) W
          have hi31 : ∀ W, (Instr.index 48 (.agg #[.int .u8 0, .int .u8 1, .int .u8 2]) (.int .u8 1)).run Tryz.prog W = .ok (.int .u8 1) W := fun W => ix3 1 (by omega) W
          have hi51 : ∀ W, (Instr.index 47 (.agg #[.string ⟨#[32]⟩, .string ⟨#[10]⟩, .string ⟨#[35]⟩, .string ⟨#[34]⟩, .string ⟨#[120]⟩]) (.int .u8 1)).run Tryz.prog W = .ok (.string ⟨#[10]⟩) W := fun W => ix5 1 (by omega) W
          have hi32 : ∀ W, (Instr.index 48 (.agg #[.int .u8 0, .int .u8 1, .int .u8 2]) (.int .u8 2)).run Tryz.prog W = .ok (.int .u8 2) W := fun W => ix3 2 (by omega) W
          have hi52 : ∀ W, (Instr.index 47 (.agg #[.string ⟨#[32]⟩, .string ⟨#[10]⟩, .string ⟨#[35]⟩, .string ⟨#[34]⟩, .string ⟨#[120]⟩]) (.int .u8 2)).run Tryz.prog W = .ok (.string ⟨#[35]⟩) W := fun W => ix5 2 (by omega) W
          have hcn := fun W => conv_new y (by omega) W
          have hbx : ∀ o : Obj, Below w1.heap.size w1 (wr.alloc o) := fun o => bl_alloc hb o
          have Hst : Hid (btw (l.take (k + 1)) = (o ++ [if m = 0 then 32 else if m = 1 then 10 else 35] ++ (if (m == 2 || (c && m != 1)) = true then [UInt8.ofNat y] else []), m == 2 || (c && m != 1))) := hid (by rw [Hstep.out]; unfold bstep; rw [em, er, ey])
          have hm : m = 0 ∨ m = 1 ∨ m = 2 := by omega
          clear em er ey Hstep
          rcases hm with rfl | rfl | rfl
          all_goals
            cases c
            all_goals
              go_wp2_with fail
              go_roundw
              case rel => exact ⟨k + 1, by rw [Hst.out]; first | rfl | (show _ = Value.string ⟨(o ++ [_] ++ []).toArray⟩; rw [List.append_nil]; rfl), by rw [Hst.out]; rfl, by go_num, by omega, by first | exact hb | exact hbx _⟩
              case measure => simp [intOf]; omega
        · have hkn : k = nl := by omega
          subst hkn
          have htk : l.take k = l := List.take_of_length_le (by rw [Hnl.out]; exact Nat.le_refl _)
          rw [htk]
          have hbl := (btw_all l).2.2
          rw [Hnl.out] at hbl
          generalize btw l = bt at *
          obtain ⟨o, c⟩ := bt
          simp only at hbl
          go_wp2_with fail
          refine wp_region_mix [(0, 0), (1, 0), (2, 0), (3, 0), (4, 0), (5, 0), (6, 0), (7, 0), (8, 0), (9, 0), (10, 0), (11, 2), (12, 0), (13, 0), (14, 0), (15, 0), (16, 0), (17, 0), (18, 0)] (by kernel_rfl) (by kernel_rfl) ?_
          iterate 11 (first
            | (refine wpM_skip rfl (by rfl) (by decide) ?_; simp only [Act.put, List.setIfInBounds_toArray, List.set_cons_zero, List.set_cons_succ])
            | (refine wpM_take rfl (by rfl) (v := ?_) ?_ ?_; rotate_left; (· (intro w'; go_simp; first | done | with_reducible rfl | (rw [if_neg (by first | omega | (simp; omega))]; try with_reducible rfl))); simp only [Act.put, List.setIfInBounds_toArray, List.set_cons_zero, List.set_cons_succ]) | fail)
          refine wpM_call rfl (by rfl) (fun K hK W hW => ?_)
          go_simp
          refine (HR2.out _ W ?ht (below_then (below_then hb1 hb.drew) hW.below)).mono ?_
          case ht => rw [show s.data.toList.take s.size = s.data.toList from List.take_of_length_le (by simp), show s.data.toList.drop s.size = [] from List.drop_eq_nil_of_le (by simp)]; simp
          rintro e w2 ⟨v2, rfl, ht2, hb2⟩
          go_simp
          refine ⟨cl_iff.2 hb2, hK _ _ ?_⟩
          clear hK K
          try simp only [Act.put, List.setIfInBounds_toArray, List.set_cons_zero, List.set_cons_succ]
          iterate 7 (first
            | (refine wpM_skip rfl (by rfl) (by decide) ?_; simp only [Act.put, List.setIfInBounds_toArray, List.set_cons_zero, List.set_cons_succ])
            | (refine wpM_take rfl (by rfl) (v := ?_) ?_ ?_; rotate_left; (· (intro w'; go_simp; first | done | with_reducible rfl | (rw [if_neg (by first | omega | (simp; omega))]; try with_reducible rfl))); simp only [Act.put, List.setIfInBounds_toArray, List.set_cons_zero, List.set_cons_succ]) | fail)
          refine wpM_done fun W' hW' => ?_
          have hb3 := below_then (below_then (below_then hb.drew hW.below) hb2) hW'.below
          have HA := hid (kalike_any _ v2 L M W' (ht1.below hb3).sl.o (ht2.below hW'.below).sl.o (by omega))
          rw [hmk, decide_eq_true rfl] at HA
          obtain ⟨p2, cp2, rfl, _⟩ := ht2.sl
          go_wp2_with fail
          refine HA.out.mono ?_
          rintro e w3 ⟨rfl, hb4⟩
          have hb5 := below_then (below_then hb1 hb3) hb4
          go_wp2_with fail
          refine (HK.out _ hb5).mono ?_
          rintro e w4 ⟨rfl, hb6⟩
          go_wp2_with fail
          go_ret
          exact ⟨rfl, below_then hb5 hb6⟩
  · generalize hr : Lode.read s.data.toList = R at *
    clear hr
    obtain ⟨L, ra, re⟩ := R
    simp only at herr
    have h0' : ((re : Int) != 0) = true := by rw [bne_iff_ne]; omega
    go_enter Tryz.func7, Tryz.ntmps7
    go_wp2_with fail
    refine HR.out.mono ?_
    rintro e w1 ⟨v1, rfl, ht1, hb1⟩
    go_wp2_with fail
    refine (HK.out _ hb1).mono ?_
    rintro e w2 ⟨rfl, hb2⟩
    go_wp2_with fail
    go_ret
    exact ⟨rfl, below_then hb1 hb2⟩
end Go.Proofs.YthknlifmkjdoeaaGreatDoor
