/-
  LexDiffered: the law's walk.
-/
import Derived.Deep.CutBlock
import Derived.Deep.CutRange
import Derived.Deep.Cut
import Derived.Test.YthknlifmkjdoeaaGreatDoorLexX
import Derived.Test.YthknlifmkjdoeaaGreatDoorLawOwn
import Derived.Test.YthknlifmkjdoeaaGreatDoorLawAlike
import Derived.Test.YthknlifmkjdoeaaGreatDoorDfP
import Derived.Test.YthknlifmkjdoeaaGreatDoorLate
import Derived.Test.YthknlifmkjdoeaaGreatDoorCut
namespace Go.Proofs.YthknlifmkjdoeaaGreatDoor
open Go.RowKit Lode Go.Shelf
attribute [local go_sem ↓] Go.wp_at_zero Go.wp_at_succ
set_option maxHeartbeats 4000000 in
set_option maxRecDepth 100000 in
theorem law_differed (s t : ByteArray) (v : Nat) (w : World) (hv : v < 65536) (hG : Glob w) : Calls Tryz.prog 9 #[.string s, .string t, .int .u16 v] w fun e w' => e = .returned (.bool true) ∧ Below w.heap.size w w' := by
  have HK := hid (fun (W : World) (hb : Below w.heap.size w W) => known_any W (hG.later hb))
  by_cases hbig : 400 < s.size
  · go_enter Tryz.func9, Tryz.ntmps9
    go_wp2_with (go_at_call 15; refine (HK.out _ (Below.refl _ _)).mono ?_; rintro e w1 ⟨rfl, hb1⟩)
    go_ret
    exact ⟨rfl, hb1⟩
  by_cases hbig2 : 400 < t.size
  · go_enter Tryz.func9, Tryz.ntmps9
    go_wp2_with (go_at_call 15; refine (HK.out _ (Below.refl _ _)).mono ?_; rintro e w1 ⟨rfl, hb1⟩)
    go_ret
    exact ⟨rfl, hb1⟩
  go_enter Tryz.func9, Tryz.ntmps9
  go_upto_region 3 with fail
  go_cut [35] from 28 to 34 (fun x wx => x = .bool (decide (0 < v % 3) && decide (0 < s.size)) ∧ w = wx)
  case first =>
    have hm : v % 3 = 0 ∨ 0 < v % 3 := by omega
    rcases hm with hm | hm
    · have z1 : (v : Int) % 3 = 0 := by omega
      go_wp2_with fail
      go_meet
      case rel => exact ⟨by rw [hm]; rfl, rfl⟩
    · have z1 : decide ((0 : Int) < (v : Int) % 3) = true := by rw [decide_eq_true_eq]; omega
      have z2 : (0 : Int) < (v : Int) % 3 := by omega
      go_wp2_with fail
      go_meet
      case rel => exact ⟨by rw [decide_eq_true hm]; rfl, rfl⟩
  case rest =>
    obtain ⟨rfl, rfl⟩ := hcut
    go_upto_if 35 with fail
    go_cut [1] from 7 to 50 (fun x wx => (∃ t' : ByteArray, t'.size ≤ 800 ∧ x = .string t') ∧ Below w.heap.size w wx)
    case first =>
      cases hbb : (decide (0 < v % 3) && decide (0 < s.size)) with
      | false =>
        go_wp2_with fail
        go_meet
        case rel => exact ⟨⟨t, by omega, rfl⟩, Below.refl _ _⟩
      | true =>
        rw [Bool.and_eq_true, decide_eq_true_eq, decide_eq_true_eq] at hbb
        obtain ⟨at_, hat⟩ : ∃ a, v / 3 % s.size = a := ⟨_, rfl⟩
        have hlt : at_ < s.size := by rw [← hat]; exact Nat.mod_lt _ hbb.2
        have z3 : (v : Int) / 3 % (s.size : Int) = (at_ : Int) := by rw [← hat, Int.natCast_emod, Int.natCast_ediv]; rfl
        have z4 : (at_ : Int) ≤ (s.size : Int) := by omega
        have z5 : decide ((s.size : Int) < (at_ : Int)) = false := by rw [decide_eq_false_iff_not]; omega
        clear hat
        go_wp2_with fail
        refine wp_region_mix [(0, 0), (1, 0), (2, 0), (3, 0), (4, 0), (5, 0), (6, 0), (7, 0), (8, 0), (9, 0)] (by kernel_rfl) (by kernel_rfl) ?_
        iterate 10 (first
          | (refine wpM_take rfl (by rfl) (v := ?_) ?_ ?_; rotate_left; (· (intro w'; go_simp; first | done | with_reducible rfl | (rw [if_neg (by first | omega | (simp; omega))]; try with_reducible rfl))); simp only [Act.put, List.setIfInBounds_toArray, List.set_cons_zero, List.set_cons_succ]) | fail)
        refine wpM_done fun W' hW' => ?_
        have hb := below_then (Below.refl w.heap.size w).drew hW'.below
        go_wp2_with fail
        go_meet
        case rel => exact ⟨⟨_, by simp; omega, rfl⟩, hb⟩
    case rest =>
      obtain ⟨⟨t', ht', rfl⟩, hb0⟩ := hcut
      have H1 := hid (fun (W : World) (hb : Below w.heap.size w W) => lread_any s W (by omega) (hG.later hb))
      have H2 := hid (fun (W : World) (hb : Below w.heap.size w W) => lread_any t' W (by omega) (hG.later hb))
      have H3 := hid (fun (W : World) (hb : Below w.heap.size w W) => ldiffer_any s t' W (by omega) (by omega) (hG.later hb))
      have hl1 := @read_rd s.data.toList
      have hl2 := @read_rd t'.data.toList
      clear hG
      generalize hd : Lode.differ s.data.toList t'.data.toList = d at *
      replace hd := hd.symm
      unfold Lode.differ at hd
      generalize Lode.read s.data.toList = x at *
      generalize Lode.read t'.data.toList = y at *
      obtain ⟨L, xa, xe⟩ := x
      obtain ⟨M, ya, ye⟩ := y
      simp only at hd hl1 hl2
      by_cases hx : xe = 0
      · by_cases hy : ye = 0
        · subst hx hy
          obtain ⟨_, hL, _, _⟩ := hl1 rfl
          obtain ⟨_, hM, _, _⟩ := hl2 rfl
          clear hl1 hl2
          simp only [ne_eq, not_true, if_false] at hd
          obtain ⟨f, hf⟩ : ∃ f, commonL L M = f := ⟨_, rfl⟩
          obtain ⟨c, hc⟩ : ∃ c, commonL (L.drop f).reverse (M.drop f).reverse = c := ⟨_, rfl⟩
          have hP := hid (differed_plain L M f c hf hc)
          rw [hf, hc] at hd
          subst hd
          obtain ⟨q1, q2, q3, q4, _⟩ := hP.out
          obtain ⟨n, hn⟩ : ∃ n, L.length = n := ⟨_, rfl⟩
          obtain ⟨m, hm⟩ : ∃ m, M.length = m := ⟨_, rfl⟩
          obtain ⟨ct, hct⟩ : ∃ ct, n - f - c = ct := ⟨_, rfl⟩
          obtain ⟨pt, hpt⟩ : ∃ pt, m - f - c = pt := ⟨_, rfl⟩
          rw [hn, hm, hct, hpt] at hP
          rw [hn, hm, hct, hpt] at H3
          have Hn := hid hn
          have Hm := hid hm
          rw [hn] at q1 q3 hL
          rw [hm] at q2 q4 hM
          obtain ⟨a1, ha1⟩ : ∃ a1, f + ct = a1 := ⟨_, rfl⟩
          obtain ⟨b1, hb1'⟩ : ∃ b1, f + pt = b1 := ⟨_, rfl⟩
          have z1 : IntKind.i64.wrap ((f : Int) + (ct : Int)) = (a1 : Int) := by rw [IntWalk.i64_in _ ⟨by omega, by omega⟩]; omega
          have z2 : IntKind.i64.wrap ((f : Int) + (pt : Int)) = (b1 : Int) := by rw [IntWalk.i64_in _ ⟨by omega, by omega⟩]; omega
          have z3 : decide ((n : Int) < (a1 : Int)) = false := by rw [decide_eq_false_iff_not]; omega
          have z4 : decide ((m : Int) < (b1 : Int)) = false := by rw [decide_eq_false_iff_not]; omega
          have z5 : decide ((3000 : Int) < (t'.size : Int)) = false := by rw [decide_eq_false_iff_not]; omega
          have hle : f ≤ a1 ∧ a1 ≤ n ∧ f ≤ b1 ∧ b1 ≤ m := by omega
          have Hab := hid (And.intro ha1 hb1')
          clear ha1 hb1'
          clear hct hpt hn hm hf hc
          go_wp2_with fail
          refine (H1.out _ hb0).mono ?_
          rintro e w1 ⟨v1, rfl, ht1, hb1⟩
          have hb := below_then hb0 hb1
          go_wp2_with fail
          refine (H2.out _ hb).mono ?_
          rintro e w2 ⟨v2, rfl, ht2, hb2⟩
          have ht1 := ht1.below hb2
          have hb := below_then hb hb2
          go_wp2_with fail
          refine (H3.out _ hb).mono ?_
          rintro e w3 ⟨rfl, hb3⟩
          have ht1 := ht1.below hb3
          have ht2 := ht2.below hb3
          have hb := below_then hb hb3
          obtain ⟨p1, c1, hv1⟩ := ht1.form
          obtain ⟨p2, c2, hv2⟩ := ht2.form
          rw [Hn.out] at hv1
          rw [Hm.out] at hv2
          subst hv1 hv2
          go_wp2_with fail
          generalize hv1 : Value.slice p1 n c1 = v1 at *
          generalize hv2 : Value.slice p2 m c2 = v2 at *
          have Hv := hid (And.intro hv1 hv2)
          clear hv1 hv2
          obtain ⟨s1, e1, o1⟩ := ht1.osc.cut (lo := 0) (hi := f) (by omega) (by rw [Hn.out]; omega) none (some (.int .i64 f)) (.inr ⟨rfl, rfl⟩) (.inl rfl)
          obtain ⟨s2, e2, o2⟩ := ht2.osc.cut (lo := f) (hi := b1) (by omega) (by rw [Hm.out]; omega) (some (.int .i64 f)) (some (.int .i64 b1)) (.inl rfl) (.inl rfl)
          obtain ⟨s3, e3, o3⟩ := ht1.osc.cut (lo := a1) (hi := n) (by omega) (by rw [Hn.out]; omega) (some (.int .i64 a1)) none (.inl rfl) (.inr ⟨rfl, Hn.out.symm⟩)
          have O1 := hid o1
          have O2 := hid o2
          have O3 := hid o3
          have T1 := hid ht1
          have T2 := hid ht2
          clear o1 o2 o3 ht1 ht2
          refine wp_region_mix [(0, 0), (1, 0), (2, 0), (4, 0), (5, 0), (6, 0), (7, 0), (8, 0), (9, 0), (11, 0), (12, 0), (13, 0), (14, 0), (15, 0), (3, 2), (10, 3), (16, 3), (17, 0)] (by kernel_rfl) (by kernel_rfl) ?_
          iterate 14 (first
            | (refine wpM_skip rfl (by rfl) (by decide) ?_; simp only [Act.put, List.setIfInBounds_toArray, List.set_cons_zero, List.set_cons_succ])
            | (refine wpM_take rfl (by rfl) (v := ?_) ?_ ?_; rotate_left; (· (intro w'; go_simp; first | done | with_reducible rfl | (rw [if_neg (by first | omega | (simp; omega))]; try with_reducible rfl))); simp only [Act.put, List.setIfInBounds_toArray, List.set_cons_zero, List.set_cons_succ])
            | fail)
          refine wpM_call rfl (by rfl) (fun K hK W hW => ?_)
          go_simp
          have hbW : Below w3.heap.size w3 W := below_then (Below.refl _ _).drew hW.below
          refine (lown_any s1 _ W (O1.out.later hbW).o (by simp; omega) O1.out.nil).mono ?_
          rintro e w4 ⟨v4, rfl, ht4, hb4⟩
          go_simp
          refine ⟨cl_iff.2 hb4, hK _ _ ?_⟩
          clear hK K
          try simp only [Act.put, List.setIfInBounds_toArray, List.set_cons_zero, List.set_cons_succ]
          refine wpM_late rfl (by rfl) (fun W5 hW5 => ?_)
          have hb5 := below_then hb4 hW5.below
          have ht5 := ht4.below hW5.below
          refine wp_append_tok (.tmp 120) (.tmp 126) rfl W.heap.size v4 _ rfl ht5 s2 _ rfl (O2.out.later (below_then hbW hb5)) (by simp only [List.length_take, List.length_drop]; rw [Hn.out, Hm.out]; omega) hb5.size ?_
          intro v6 w6 ht6 hg6
          have hb6 := below_grown hb5 ht5 hg6
          try simp only [Act.put, List.setIfInBounds_toArray, List.set_cons_zero, List.set_cons_succ]
          refine wpE_step rfl (by rfl) ?_
          refine wp_append_tok (.tmp 127) (.tmp 132) rfl W.heap.size v6 _ rfl ht6 s3 _ rfl (O3.out.later (below_then hbW hb6)) (by simp only [List.length_append, List.length_take, List.length_drop]; rw [Hn.out, Hm.out]; omega) hb6.size ?_
          intro v7 w7 ht7 hg7
          have hb7 := below_grown hb6 ht6 hg7
          try simp only [Act.put, List.setIfInBounds_toArray, List.set_cons_zero, List.set_cons_succ]
          refine wpE_take rfl (by rfl) (v := v7) (fun _ => by go_simp) ?_
          try simp only [Act.put, List.setIfInBounds_toArray, List.set_cons_zero, List.set_cons_succ]
          refine wpE_done ?_
          have hw7 := below_then hbW hb7
          have hbw7 := below_then hb hw7
          have HF := hid (fun (W9 : World) (hb9 : Below w7.heap.size w7 W9) => kalike_any v7 v2 _ M W9 (ht7.osc.later hb9).o (T2.out.osc.later (below_then hw7 hb9)).o (by simp only [List.length_append, List.length_take, List.length_drop]; rw [Hn.out, Hm.out]; omega))
          have hmap : List.map kt (((L.drop 0).take (f - 0) ++ (M.drop f).take (b1 - f)) ++ (L.drop a1).take (n - a1)) = M.map kt := by
            have h9 := hP.out.2.2.2.2.1
            rw [Hab.out.1] at h9
            have e1 : b1 - f = pt := by have := Hab.out.2; omega
            have e2 : (L.drop a1).take (n - a1) = L.drop a1 := List.take_of_length_le (by rw [List.length_drop, Hn.out]; omega)
            rw [List.drop_zero, Nat.sub_zero, e1, e2]
            exact h9
          rw [hmap, decide_eq_true rfl] at HF
          clear hmap ht4 ht5 ht6 ht7 hg6 hg7 hb4 hb5 hb6 hb7 e1 e2 e3 O1 O2 O3
          by_cases h0 : 0 < ct ∧ 0 < pt
          · have g1 : decide ((0 : Int) < (ct : Int)) = true := by rw [decide_eq_true_eq]; omega
            have g2 : decide ((0 : Int) < (pt : Int)) = true := by rw [decide_eq_true_eq]; omega
            obtain ⟨hab1, hab2⟩ := Hab.out
            obtain ⟨f1, hf1⟩ : ∃ x, f + 1 = x := ⟨_, rfl⟩
            obtain ⟨a2, ha2⟩ : ∃ x, x + 1 = a1 := ⟨a1 - 1, by omega⟩
            obtain ⟨b2, hb2'⟩ : ∃ x, x + 1 = b1 := ⟨b1 - 1, by omega⟩
            have y1 : IntKind.i64.wrap ((f : Int) + 1) = (f1 : Int) := by rw [IntWalk.i64_in _ ⟨by omega, by omega⟩]; omega
            have y2 : IntKind.i64.wrap ((a1 : Int) - 1) = (a2 : Int) := by rw [IntWalk.i64_in _ ⟨by omega, by omega⟩]; omega
            have y3 : IntKind.i64.wrap ((b1 : Int) - 1) = (b2 : Int) := by rw [IntWalk.i64_in _ ⟨by omega, by omega⟩]; omega
            obtain ⟨r1, e1, o1⟩ := T1.out.osc.cut (lo := f) (hi := f1) (by omega) (by rw [Hn.out]; omega) (some (.int .i64 f)) (some (.int .i64 f1)) (.inl rfl) (.inl rfl)
            obtain ⟨r2, e2, o2⟩ := T2.out.osc.cut (lo := f) (hi := f1) (by omega) (by rw [Hm.out]; omega) (some (.int .i64 f)) (some (.int .i64 f1)) (.inl rfl) (.inl rfl)
            obtain ⟨r3, e3, o3⟩ := T1.out.osc.cut (lo := a2) (hi := a1) (by omega) (by rw [Hn.out]; omega) (some (.int .i64 a2)) (some (.int .i64 a1)) (.inl rfl) (.inl rfl)
            obtain ⟨r4, e4, o4⟩ := T2.out.osc.cut (lo := b2) (hi := b1) (by omega) (by rw [Hm.out]; omega) (some (.int .i64 b2)) (some (.int .i64 b1)) (.inl rfl) (.inl rfl)
            have one : ∀ (l : List Tok) (i j : Nat), i + 1 = j → i < l.length → ∃ x, l[i]? = some x ∧ (l.drop i).take (j - i) = [x] := fun l i j hj hi => ⟨l[i], List.getElem?_eq_getElem hi, by rw [← hj, Nat.add_sub_cancel_left, List.drop_eq_getElem_cons hi]; rfl⟩
            obtain ⟨x1, hx1, hl1⟩ := one L f f1 hf1 (by rw [Hn.out]; omega)
            obtain ⟨x2, hx2, hl2⟩ := one M f f1 hf1 (by rw [Hm.out]; omega)
            obtain ⟨x3, hx3, hl3⟩ := one L a2 a1 ha2 (by rw [Hn.out]; omega)
            obtain ⟨x4, hx4, hl4⟩ := one M b2 b1 hb2' (by rw [Hm.out]; omega)
            have n1 : decide (List.map kt [x1] = List.map kt [x2]) = false := decide_eq_false (fun e => hP.out.2.2.2.2.2.1 x1 x2 hx1 hx2 (by simpa using e))
            have n2 : decide (List.map kt [x3] = List.map kt [x4]) = false := decide_eq_false (fun e => hP.out.2.2.2.2.2.2 x3 x4 h0.1 h0.2 (by rw [hab1, ← ha2, Nat.add_sub_cancel]; exact hx3) (by rw [hab2, ← hb2', Nat.add_sub_cancel]; exact hx4) (by simpa using e))
            rw [hl1] at o1
            rw [hl2] at o2
            rw [hl3] at o3
            rw [hl4] at o4
            have HA1 := hid (fun (W9 : World) (hb9 : Below w7.heap.size w7 W9) => kalike_any r1 r2 _ _ W9 (o1.later (below_then hw7 hb9)).o (o2.later (below_then hw7 hb9)).o (by simp))
            have HA2 := hid (fun (W9 : World) (hb9 : Below w7.heap.size w7 W9) => kalike_any r3 r4 _ _ W9 (o3.later (below_then hw7 hb9)).o (o4.later (below_then hw7 hb9)).o (by simp))
            rw [n1] at HA1
            rw [n2] at HA2
            clear n1 n2 o1 o2 o3 o4 hx1 hx2 hx3 hx4 hl1 hl2 hl3 hl4 one
            go_wp2_with fail
            refine wp_region_mix [(0, 0), (1, 0), (2, 0), (3, 0), (4, 0), (5, 0), (6, 0), (7, 0), (8, 0), (9, 0), (10, 0), (11, 0), (12, 0), (13, 0), (14, 0), (15, 0), (16, 0), (17, 2), (18, 0), (19, 0), (20, 0), (21, 0), (22, 0), (23, 0), (24, 0), (25, 0), (26, 0), (27, 0), (28, 0), (29, 0), (30, 0), (31, 0), (32, 0), (33, 0), (34, 0), (35, 0), (36, 0), (37, 2), (38, 0), (39, 0)] (by kernel_rfl) (by kernel_rfl) ?_
            iterate 17 (first
              | (refine wpM_skip rfl (by rfl) (by decide) ?_; simp only [Act.put, List.setIfInBounds_toArray, List.set_cons_zero, List.set_cons_succ])
              | (refine wpM_take rfl (by rfl) (v := ?_) ?_ ?_; rotate_left; (· (intro w'; go_simp; first | done | with_reducible rfl | (rw [if_neg (by first | omega | (simp; omega))]; try with_reducible rfl))); simp only [Act.put, List.setIfInBounds_toArray, List.set_cons_zero, List.set_cons_succ])
              | fail)
            refine wpM_call rfl (by rfl) (fun K hK W8 hW8 => ?_)
            go_simp
            have hb8 : Below w7.heap.size w7 W8 := below_then (Below.refl _ _).drew hW8.below
            refine (HA1.out _ hb8).mono ?_
            rintro e w9 ⟨rfl, hb9⟩
            go_simp
            refine ⟨cl_iff.2 hb9, hK _ _ ?_⟩
            clear hK K
            try simp only [Act.put, List.setIfInBounds_toArray, List.set_cons_zero, List.set_cons_succ]
            iterate 19 (first
              | (refine wpM_skip rfl (by rfl) (by decide) ?_; simp only [Act.put, List.setIfInBounds_toArray, List.set_cons_zero, List.set_cons_succ])
              | (refine wpM_take rfl (by rfl) (v := ?_) ?_ ?_; rotate_left; (· (intro w'; go_simp; first | done | with_reducible rfl | (rw [if_neg (by first | omega | (simp; omega))]; try with_reducible rfl))); simp only [Act.put, List.setIfInBounds_toArray, List.set_cons_zero, List.set_cons_succ])
              | fail)
            refine wpM_call rfl (by rfl) (fun K hK W10 hW10 => ?_)
            go_simp
            have hb10 : Below w7.heap.size w7 W10 := below_then (below_then hb8 hb9) hW10.below
            refine (HA2.out _ hb10).mono ?_
            rintro e w11 ⟨rfl, hb11⟩
            go_simp
            refine ⟨cl_iff.2 hb11, hK _ _ ?_⟩
            clear hK K
            try simp only [Act.put, List.setIfInBounds_toArray, List.set_cons_zero, List.set_cons_succ]
            iterate 2 (first
              | (refine wpM_skip rfl (by rfl) (by decide) ?_; simp only [Act.put, List.setIfInBounds_toArray, List.set_cons_zero, List.set_cons_succ])
              | (refine wpM_take rfl (by rfl) (v := ?_) ?_ ?_; rotate_left; (· (intro w'; go_simp; first | done | with_reducible rfl | (rw [if_neg (by first | omega | (simp; omega))]; try with_reducible rfl))); simp only [Act.put, List.setIfInBounds_toArray, List.set_cons_zero, List.set_cons_succ])
              | fail)
            refine wpM_done fun W12 hW12 => ?_
            have hb12 := below_then (below_then hb10 hb11) hW12.below
            go_wp2_with fail
            refine (HF.out _ hb12).mono ?_
            rintro e w8 ⟨rfl, hb13⟩
            have hbw8 := below_then (below_then hbw7 hb12) hb13
            go_wp2_with fail
            refine (HK.out _ hbw8).mono ?_
            rintro e wk ⟨rfl, hbk⟩
            go_wp2_with fail
            go_ret
            exact ⟨rfl, below_then hbw8 hbk⟩
          · have h0' : ct = 0 ∨ (0 < ct ∧ pt = 0) := by omega
            rcases h0' with h0' | ⟨h0', h0''⟩
            · have g1 : decide ((0 : Int) < (ct : Int)) = false := by rw [decide_eq_false_iff_not]; omega
              go_wp2_with fail
              go_quiet (fail)
              go_wp2_with fail
              refine (HF.out _ (bl_drewN (Below.refl _ _) nq)).mono ?_
              rintro e w8 ⟨rfl, hb8⟩
              have hbw8 := below_then (bl_drewN hbw7 nq) hb8
              go_wp2_with fail
              refine (HK.out _ hbw8).mono ?_
              rintro e wk ⟨rfl, hbk⟩
              go_wp2_with fail
              go_ret
              exact ⟨rfl, below_then hbw8 hbk⟩
            · have g1 : decide ((0 : Int) < (ct : Int)) = true := by rw [decide_eq_true_eq]; omega
              have g2 : decide ((0 : Int) < (pt : Int)) = false := by rw [decide_eq_false_iff_not]; omega
              go_wp2_with fail
              go_quiet (fail)
              go_wp2_with fail
              refine (HF.out _ (bl_drewN (Below.refl _ _) nq)).mono ?_
              rintro e w8 ⟨rfl, hb8⟩
              have hbw8 := below_then (bl_drewN hbw7 nq) hb8
              go_wp2_with fail
              refine (HK.out _ hbw8).mono ?_
              rintro e wk ⟨rfl, hbk⟩
              go_wp2_with fail
              go_ret
              exact ⟨rfl, below_then hbw8 hbk⟩
        · have hd2 : d = ((0, 0, 0), ye) := by rw [hd]; simp [hx, hy]
          subst hd2 hx
          have h0' : ((ye : Int) != 0) = true := by rw [bne_iff_ne]; omega
          clear hd hl1 hl2
          go_wp2_with fail
          refine (H1.out _ hb0).mono ?_
          rintro e w1 ⟨v1, rfl, ht1, hb1⟩
          have hb := below_then hb0 hb1
          go_wp2_with fail
          refine (H2.out _ hb).mono ?_
          rintro e w2 ⟨v2, rfl, ht2, hb2⟩
          have hb := below_then hb hb2
          go_wp2_with fail
          refine (H3.out _ hb).mono ?_
          rintro e w3 ⟨rfl, hb3⟩
          have hb := below_then hb hb3
          go_wp2_with fail
          refine (HK.out _ hb).mono ?_
          rintro e w4 ⟨rfl, hb4⟩
          go_wp2_with fail
          go_ret
          exact ⟨rfl, below_then hb hb4⟩
      · have hd2 : d = ((0, 0, 0), xe) := by rw [hd]; simp [hx]
        subst hd2
        have h0' : ((xe : Int) != 0) = true := by rw [bne_iff_ne]; omega
        clear hd hl1 hl2
        go_wp2_with fail
        refine (H1.out _ hb0).mono ?_
        rintro e w1 ⟨v1, rfl, ht1, hb1⟩
        have hb := below_then hb0 hb1
        go_wp2_with fail
        refine (H2.out _ hb).mono ?_
        rintro e w2 ⟨v2, rfl, ht2, hb2⟩
        have hb := below_then hb hb2
        go_wp2_with fail
        refine (H3.out _ hb).mono ?_
        rintro e w3 ⟨rfl, hb3⟩
        have hb := below_then hb hb3
        go_wp2_with fail
        refine (HK.out _ hb).mono ?_
        rintro e w4 ⟨rfl, hb4⟩
        go_wp2_with fail
        go_ret
        exact ⟨rfl, below_then hb hb4⟩
end Go.Proofs.YthknlifmkjdoeaaGreatDoor
