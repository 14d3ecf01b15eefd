/-
  THE REFERENCE: Differ.
-/
import Derived.Test.YthknlifmkjdoeaaGreatDoorLexU
import Derived.Test.YthknlifmkjdoeaaGreatDoorRefI
import Derived.Deep.CutBlock
import Derived.Deep.CutRange
namespace Go.Proofs.YthknlifmkjdoeaaGreatDoor
open Go.RowKit Lode Go.Shelf
attribute [local go_sem ↓] Go.wp_at_zero Go.wp_at_succ
def RdRel2 (x y : List Tok) (w : World) (i : Value) (wr : World) : Prop := ∃ k : Nat, i = .int .i64 k ∧ Below w.heap.size w wr ∧ CInv x y k
theorem rev_get {l : List Tok} {f k j : Nat} (hj : l.length - 1 - k = j) (hk : f + k < l.length) (h1 : k < (l.drop f).reverse.length) (h2 : j < l.length) : (l.drop f).reverse[k] = l[j] := by
  rw [List.getElem_reverse, List.getElem_drop]
  congr 1
  simp only [List.length_drop]; omega
set_option maxHeartbeats 4000000 in
set_option maxRecDepth 100000 in
theorem rdiffer_any (s t : ByteArray) (w : World) (hs : s.size ≤ 1000000000000) (ht : t.size ≤ 1000000000000) :
    Calls Tryz.prog 31 #[.string s, .string t] w (DPost (Lode.differ s.data.toList t.data.toList) w) := by
  have H1 := hid (fun (W : World) => rread_any s W hs)
  have H2 := hid (fun (W : World) => rread_any t W ht)
  have L1 := read_len s.data.toList
  have L2 := read_len t.data.toList
  generalize hd : Lode.differ s.data.toList t.data.toList = d
  replace hd := hd.symm
  unfold Lode.differ at hd
  generalize Lode.read s.data.toList = x at *
  generalize Lode.read t.data.toList = y at *
  obtain ⟨l, xa, xe⟩ := x
  obtain ⟨m, ya, ye⟩ := y
  simp only at hd L1 L2
  by_cases hx : xe = 0
  · subst hx
    by_cases hy : ye = 0
    · subst hy
      have L1' := L1 rfl
      have L2' := L2 rfl
      clear L1 L2
      simp only [ne_eq, not_true, if_false] at hd
      have hf := commonL_le l m
      have hn := commonL_le (l.drop (commonL l m)).reverse (m.drop (commonL l m)).reverse
      simp only [List.length_reverse, List.length_drop] at hn
      have Hd := hid hd; clear hd
      go_enter Tryz.func31, Tryz.ntmps31
      go_wp2_with fail
      refine (H1.out _).mono ?_
      rintro e w1 ⟨v1, rfl, ht1, hb1⟩
      go_wp2_with fail
      refine (H2.out _).mono ?_
      rintro e w2 ⟨v2, rfl, ht2, hb2⟩
      have ht1 := ht1.below hb2
      have hbw := below_then hb1 hb2
      obtain ⟨p1, c1, rfl, q1⟩ := ht1.sl
      obtain ⟨p2, c2, rfl, q2⟩ := ht2.sl
      have Q1 := hid q1
      have Q2 := hid q2
      clear H1 H2 ht1 ht2 hb1 hb2 q1 q2
      obtain ⟨f, hfe⟩ : ∃ f, commonL l m = f := ⟨_, rfl⟩
      rw [hfe] at hf hn Hd
      have Hfe := hid hfe; clear hfe
      obtain ⟨nn, hnn⟩ : ∃ nn, commonL (l.drop f).reverse (m.drop f).reverse = nn := ⟨_, rfl⟩
      rw [hnn] at hn Hd
      have Hnn := hid hnn; clear hnn
      generalize hnl : l.length = n at *
      have Hn := hid hnl; clear hnl
      generalize hnm : m.length = nm at *
      have Hm := hid hnm; clear hnm
      have L1' : n ≤ 1000000 := L1'
      have L2' : nm ≤ 1000000 := L2'
      go_upto_block 0 with fail
      go_cut [13] from 33 to 55 (fun i wx => i = .int .i64 f ∧ Below w2.heap.size w2 wx)
      case first =>
        go_wp2_with fail
        go_loopw [13] (RdRel2 l m w2) (fun i _ => n - (intOf i).toNat)
        case atStart => exact ⟨0, rfl, Below.refl _ _, CInv.start l m⟩
        case round =>
          obtain ⟨k, rfl, hb, hinv⟩ := hrel
          have hkn := hinv.lx
          have hkm2 := hinv.ly
          rw [Hn.out] at hkn
          rw [Hm.out] at hkm2
          have Hend := hid (show ∀ k', commonL l m = k' → k' = f from fun k' e => e.symm.trans Hfe.out)
          by_cases hlt : k < n
          · by_cases hlt2 : k < nm
            · skip
              have hl0 : l ≠ [] := fun e => by have := Hn.out; rw [e] at this; simp at this; omega
              have hm0 : m ≠ [] := fun e => by have := Hm.out; rw [e] at this; simp at this; omega
              have hkl : k < l.length := by rw [Hn.out]; omega
              have hkm : k < m.length := by rw [Hm.out]; omega
              obtain ⟨g1, rfl, q1⟩ := Q1.out.resolve_left hl0
              obtain ⟨g2, rfl, q2⟩ := Q2.out.resolve_left hm0
              obtain ⟨c0, c1, c2⟩ := q1 k hkl
              obtain ⟨d0, d1, d2⟩ := q2 k hkm
              have Hnx := hid (fun h => hinv.next hkl hkm h)
              have Hst := hid (fun h => Hend.out _ (hinv.stop hkl hkm h))
              generalize l[k] = x at *
              generalize m[k] = y at *
              obtain ⟨j1, t1, a1⟩ := x
              obtain ⟨j2, t2, a2⟩ := y
              have c0 := cell_later hb c0
              have c1 := cell_later hb c1
              have c2 := cell_later hb c2
              have d0 := cell_later hb d0
              have d1 := cell_later hb d1
              have d2 := cell_later hb d2
              simp only at c0 c1 c2 d0 d1 d2
              have HA := hid (fun w => ralike_any j1 j2 t1 t2 a1 a2 w)
              obtain ⟨bb, hbb⟩ : ∃ bb, (decide (j1 = j2) && decide (t1 = t2)) = bb := ⟨_, rfl⟩
              rw [hbb] at HA
              have Hbb := hid (show alikeT ⟨j1, t1, a1⟩ ⟨j2, t2, a2⟩ = bb from hbb)
              clear hbb hinv hl0 hm0
              go_wp2_with fail
              refine wp_calm ?_
              go_region_held3 (fun w' => w'.cell? ⟨g1, k * 3, none⟩ = some (.int .u8 j1) ∧ w'.cell? ⟨g1, k * 3 + 1, none⟩ = some (.string ⟨t1.toArray⟩) ∧ w'.cell? ⟨g1, k * 3 + 2, none⟩ = some (.int .i64 a1) ∧ w'.cell? ⟨g2, k * 3, none⟩ = some (.int .u8 j2) ∧ w'.cell? ⟨g2, k * 3 + 1, none⟩ = some (.string ⟨t2.toArray⟩) ∧ w'.cell? ⟨g2, k * 3 + 2, none⟩ = some (.int .i64 a2))
                (first | (go_keep; done) | (go_split_ands; refine ⟨?_, ?_, ?_, ?_, ?_, ?_⟩ <;> exact cell_later hb4 (by assumption)))
                (first | (go_at_call 65; refine (HA.out _).mono ?_; rintro e w4 ⟨rfl, hb4⟩))
              have hb5 := below_then hb.drew hb4
              clear hb4 c0 c1 c2 d0 d1 d2
              cases bb with
              | true =>
                go_wp2_with fail
                go_roundw
                case rel => exact ⟨k + 1, by go_num, hb5, Hnx.out Hbb.out⟩
                case measure => simp [intOf]; omega
              | false =>
                have hkf := Hst.out Hbb.out
                subst hkf
                go_wp2_with fail
                go_meet
                case rel => exact ⟨rfl, hb5⟩
            · have hkf := Hend.out _ (hinv.out (.inr (by rw [Hm.out]; omega)))
              subst hkf
              go_wp2_with fail
              go_quiet (fail)
              go_wp2_with fail
              go_meet
              case rel => exact ⟨rfl, bl_drewN hb nq⟩
          · have hkf := Hend.out _ (hinv.out (.inl (by rw [Hn.out]; omega)))
            subst hkf
            go_wp2_with fail
            go_quiet (fail)
            go_wp2_with fail
            go_meet
            case rel => exact ⟨rfl, bl_drewN hb nq⟩
      case rest =>
        obtain ⟨rfl, hb0⟩ := hcut
        go_wp2_with fail
        go_loopw [14] (RdRel2 (l.drop f).reverse (m.drop f).reverse w2) (fun i _ => n - (intOf i).toNat)
        case atStart => exact ⟨0, rfl, hb0, CInv.start _ _⟩
        case round =>
          obtain ⟨k, rfl, hb, hinv⟩ := hrel
          have hkn := hinv.lx
          have hkm2 := hinv.ly
          simp only [List.length_reverse, List.length_drop, Hn.out, Hm.out] at hkn hkm2
          have Hend := hid (show ∀ k', commonL (l.drop f).reverse (m.drop f).reverse = k' → k' = nn from fun k' e => e.symm.trans Hnn.out)
          by_cases hlt : f + k < n
          · by_cases hlt2 : f + k < nm
            · obtain ⟨jx, hjx⟩ : ∃ jx, n - 1 - k = jx := ⟨_, rfl⟩
              obtain ⟨jx', hjx'⟩ : ∃ jx', nm - 1 - k = jx' := ⟨_, rfl⟩
              have z3 : (f : Int) + (k : Int) < (n : Int) := by omega
              have z4 : (f : Int) + (k : Int) < (nm : Int) := by omega
              have y1 : IntKind.i64.wrap ((f : Int) + (k : Int)) = (f : Int) + (k : Int) := IntWalk.i64_in _ ⟨by omega, by omega⟩
              have y2 : IntKind.i64.wrap ((n : Int) - 1) = (n : Int) - 1 := IntWalk.i64_in _ ⟨by omega, by omega⟩
              have y3 : IntKind.i64.wrap ((nm : Int) - 1) = (nm : Int) - 1 := IntWalk.i64_in _ ⟨by omega, by omega⟩
              have y4 : IntKind.i64.wrap (jx : Int) = (jx : Int) := IntWalk.i64_in _ ⟨by omega, by omega⟩
              have y5 : IntKind.i64.wrap (jx' : Int) = (jx' : Int) := IntWalk.i64_in _ ⟨by omega, by omega⟩
              have z5 : jx < n := by omega
              have z6 : jx' < nm := by omega
              have z1 : (n : Int) - 1 - k = jx := by omega
              have z2 : (nm : Int) - 1 - k = jx' := by omega
              have hl0 : l ≠ [] := fun e => by have := Hn.out; rw [e] at this; simp at this; omega
              have hm0 : m ≠ [] := fun e => by have := Hm.out; rw [e] at this; simp at this; omega
              have hkl : jx < l.length := by rw [Hn.out]; omega
              have hkm : jx' < m.length := by rw [Hm.out]; omega
              obtain ⟨g1, rfl, q1⟩ := Q1.out.resolve_left hl0
              obtain ⟨g2, rfl, q2⟩ := Q2.out.resolve_left hm0
              obtain ⟨c0, c1, c2⟩ := q1 jx hkl
              obtain ⟨d0, d1, d2⟩ := q2 jx' hkm
              have hk1 : k < (l.drop f).reverse.length := by rw [List.length_reverse, List.length_drop, Hn.out]; omega
              have hk2 : k < (m.drop f).reverse.length := by rw [List.length_reverse, List.length_drop, Hm.out]; omega
              have e1 := rev_get (l := l) (f := f) (k := k) (j := jx) (by rw [Hn.out]; omega) (by rw [Hn.out]; omega) hk1 hkl
              have e2 := rev_get (l := m) (f := f) (k := k) (j := jx') (by rw [Hm.out]; omega) (by rw [Hm.out]; omega) hk2 hkm
              have Hnx := hid (fun h => hinv.next hk1 hk2 (by rw [e1, e2]; exact h))
              have Hst := hid (fun h => Hend.out _ (hinv.stop hk1 hk2 (by rw [e1, e2]; exact h)))
              clear e1 e2
              generalize l[jx] = x at *
              generalize m[jx'] = y at *
              obtain ⟨j1, t1, a1⟩ := x
              obtain ⟨j2, t2, a2⟩ := y
              have c0 := cell_later hb c0
              have c1 := cell_later hb c1
              have c2 := cell_later hb c2
              have d0 := cell_later hb d0
              have d1 := cell_later hb d1
              have d2 := cell_later hb d2
              simp only at c0 c1 c2 d0 d1 d2
              have HA := hid (fun w => ralike_any j1 j2 t1 t2 a1 a2 w)
              obtain ⟨bb, hbb⟩ : ∃ bb, (decide (j1 = j2) && decide (t1 = t2)) = bb := ⟨_, rfl⟩
              rw [hbb] at HA
              have Hbb := hid (show alikeT ⟨j1, t1, a1⟩ ⟨j2, t2, a2⟩ = bb from hbb)
              clear hbb hinv hl0 hm0
              go_wp2_with fail
              refine wp_calm ?_
              go_region_held3 (fun w' => w'.cell? ⟨g1, jx * 3, none⟩ = some (.int .u8 j1) ∧ w'.cell? ⟨g1, jx * 3 + 1, none⟩ = some (.string ⟨t1.toArray⟩) ∧ w'.cell? ⟨g1, jx * 3 + 2, none⟩ = some (.int .i64 a1) ∧ w'.cell? ⟨g2, jx' * 3, none⟩ = some (.int .u8 j2) ∧ w'.cell? ⟨g2, jx' * 3 + 1, none⟩ = some (.string ⟨t2.toArray⟩) ∧ w'.cell? ⟨g2, jx' * 3 + 2, none⟩ = some (.int .i64 a2))
                (first | (go_keep; done) | (go_split_ands; refine ⟨?_, ?_, ?_, ?_, ?_, ?_⟩ <;> exact cell_later hb4 (by assumption)))
                (first | (go_at_call 65; refine (HA.out _).mono ?_; rintro e w4 ⟨rfl, hb4⟩))
              have hb5 := below_then hb.drew hb4
              clear hb4 c0 c1 c2 d0 d1 d2
              cases bb with
              | true =>
                go_wp2_with fail
                go_roundw
                case rel => exact ⟨k + 1, by go_num, hb5, Hnx.out Hbb.out⟩
                case measure => simp [intOf]; omega
              | false =>
                have hkf := Hst.out Hbb.out
                subst hkf
                go_wp2_with fail
                refine bodyPost_ret (v := .tuple #[.int .i64 d.1.1, .int .i64 d.1.2.1, .int .i64 d.1.2.2, .int .i64 d.2]) ?_ rfl ⟨rfl, below_then hbw hb5⟩
                rw [Hd.out]
                simp [results, Tryz.results31, go_sem]
                refine ⟨?_, ?_⟩
                · first | omega | (rw [IntWalk.wrap64_in _ ⟨by omega, by omega⟩]; omega)
                · first | omega | (rw [IntWalk.wrap64_in _ ⟨by omega, by omega⟩]; omega)
            · have y1 : IntKind.i64.wrap ((f : Int) + (k : Int)) = (f : Int) + (k : Int) := IntWalk.i64_in _ ⟨by omega, by omega⟩
              have z3 : (f : Int) + (k : Int) < (n : Int) := by omega
              have z4 : decide ((f : Int) + (k : Int) < (nm : Int)) = false := by rw [decide_eq_false_iff_not]; omega
              have hkf := Hend.out _ (hinv.out (.inr (by rw [List.length_reverse, List.length_drop, Hm.out]; omega)))
              subst hkf
              go_wp2_with fail
              go_quiet (fail)
              go_wp2_with fail
              refine bodyPost_ret (v := .tuple #[.int .i64 d.1.1, .int .i64 d.1.2.1, .int .i64 d.1.2.2, .int .i64 d.2]) ?_ rfl ⟨rfl, below_then hbw (bl_drewN hb nq)⟩
              rw [Hd.out]
              simp [results, Tryz.results31, go_sem]
              refine ⟨?_, ?_⟩
              · first | omega | (rw [IntWalk.wrap64_in _ ⟨by omega, by omega⟩]; omega)
              · first | omega | (rw [IntWalk.wrap64_in _ ⟨by omega, by omega⟩]; omega)
          · have y1 : IntKind.i64.wrap ((f : Int) + (k : Int)) = (f : Int) + (k : Int) := IntWalk.i64_in _ ⟨by omega, by omega⟩
            have z3 : decide ((f : Int) + (k : Int) < (n : Int)) = false := by rw [decide_eq_false_iff_not]; omega
            have hkf := Hend.out _ (hinv.out (.inl (by rw [List.length_reverse, List.length_drop, Hn.out]; omega)))
            subst hkf
            go_wp2_with fail
            go_quiet (fail)
            go_wp2_with fail
            refine bodyPost_ret (v := .tuple #[.int .i64 d.1.1, .int .i64 d.1.2.1, .int .i64 d.1.2.2, .int .i64 d.2]) ?_ rfl ⟨rfl, below_then hbw (bl_drewN hb nq)⟩
            rw [Hd.out]
            simp [results, Tryz.results31, go_sem]
            refine ⟨?_, ?_⟩
            · first | omega | (rw [IntWalk.wrap64_in _ ⟨by omega, by omega⟩]; omega)
            · first | omega | (rw [IntWalk.wrap64_in _ ⟨by omega, by omega⟩]; omega)
    · have hd2 : d = ((0, 0, 0), ye) := by rw [hd]; simp [hy]
      subst hd2
      have h0' : ((ye : Int) != 0) = true := by rw [bne_iff_ne]; omega
      clear hd L1 L2
      go_enter Tryz.func31, Tryz.ntmps31
      go_wp2_with fail
      refine (H1.out _).mono ?_
      rintro e w1 ⟨v1, rfl, ht1, hb1⟩
      go_wp2_with fail
      refine (H2.out _).mono ?_
      rintro e w2 ⟨v2, rfl, ht2, hb2⟩
      have hbw := below_then hb1 hb2
      go_wp2_with fail
      refine bodyPost_ret (v := .tuple #[.int .i64 0, .int .i64 0, .int .i64 0, .int .i64 ye]) (by simp [results, Tryz.results31, go_sem]) rfl ⟨rfl, hbw⟩
  · have hd2 : d = ((0, 0, 0), xe) := by rw [hd]; simp [hx]
    subst hd2
    have h0' : ((xe : Int) != 0) = true := by rw [bne_iff_ne]; omega
    clear hd L1 L2
    go_enter Tryz.func31, Tryz.ntmps31
    go_wp2_with fail
    refine (H1.out _).mono ?_
    rintro e w1 ⟨v1, rfl, ht1, hb1⟩
    go_wp2_with fail
    refine bodyPost_ret (v := .tuple #[.int .i64 0, .int .i64 0, .int .i64 0, .int .i64 xe]) (by simp [results, Tryz.results31, go_sem]) rfl ⟨rfl, hb1⟩
end Go.Proofs.YthknlifmkjdoeaaGreatDoor
