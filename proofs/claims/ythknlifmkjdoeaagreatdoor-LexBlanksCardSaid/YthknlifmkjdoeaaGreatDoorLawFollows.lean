/-
  LexFollows: the law's walk.
-/
import Derived.MapKept
import Derived.Test.YthknlifmkjdoeaaGreatDoorLexX
import Derived.Test.YthknlifmkjdoeaaGreatDoorTextW
import Derived.Test.YthknlifmkjdoeaaGreatDoorGapW
import Derived.Test.YthknlifmkjdoeaaGreatDoorLawOwn
import Derived.Test.YthknlifmkjdoeaaGreatDoorLawAlike
import Derived.Test.YthknlifmkjdoeaaGreatDoorCut
namespace Go.Proofs.YthknlifmkjdoeaaGreatDoor
open Go.RowKit Lode Go.Shelf
attribute [local go_sem ↓] Go.wp_at_zero Go.wp_at_succ
theorem ba_len (t : List UInt8) : (⟨t.toArray⟩ : ByteArray).size = t.length := rfl
def FoRel (s : ByteArray) (L : List Tok) (n : Nat) (w : World) (end_ i : Value) (wr : World) : Prop := ∃ k e : Nat, end_ = .int .i64 e ∧ i = .int .i64 k ∧ k ≤ n ∧ e ≤ s.size ∧ Rdg e (s.data.toList.drop e) (L.drop k) ∧ Below w.heap.size w wr
def FoRel2 (s : ByteArray) (w : World) (i : Value) (wr : World) : Prop := ∃ k : Nat, i = .int .i64 k ∧ k ≤ s.size + 1 ∧ Below w.heap.size w wr
set_option maxHeartbeats 8000000 in
set_option maxRecDepth 100000 in
theorem law_follows (s : ByteArray) (w : World) (hG : Glob w) : Calls Tryz.prog 11 #[.string s] w fun e w' => e = .returned (.bool true) ∧ Below w.heap.size w w' := by
  have HK := hid (fun (W : World) (hb : Below w.heap.size w W) => known_any W (hG.later hb))
  by_cases hbig : 600 < s.size
  · go_enter Tryz.func11, Tryz.ntmps11
    go_wp2_with (go_at_call 15; refine (HK.out _ (Below.refl _ _)).mono ?_; rintro e w1 ⟨rfl, hb1⟩)
    go_ret
    exact ⟨rfl, hb1⟩
  have HR := hid (lread_any s w (by omega) hG)
  have hsl : s.data.toList.length = s.size := by simp
  by_cases herr : (Lode.read s.data.toList).2.2 = 0
  · obtain ⟨hrd, hL1200, hchk, _⟩ := read_rd herr
    obtain ⟨hlt1, hlt2, M, hM, hMk⟩ := text_plain herr
    rw [hsl] at hlt2
    have HP := hid (fun (k : Nat) (hk : k ≤ s.size) (W : World) => (show Calls Tryz.prog 17 #[.string s, .int .i64 k] W (PlPost (spot s.data.toList k, 0) W) from by
      have := lplace_any s k W (by omega)
      rw [(offset_back hchk (by omega)).1] at this
      exact this))
    have HO := hid (fun (k : Nat) (hk : k ≤ s.size) (W : World) => (show Calls Tryz.prog 18 #[.string s, .agg #[.int .i64 (spot s.data.toList k).1, .int .i64 (spot s.data.toList k).2]] W (OPost (k, 0) W) from by
      have := loffset_any s (spot s.data.toList k).1 (spot s.data.toList k).2 W (by omega)
      rw [(offset_back hchk (by omega)).2] at this
      exact this))
    have HT := hid (fun (v : Value) (W : World) (hv : TSl W v (Lode.read s.data.toList).1) (hb : Below w.heap.size w W) => (show Calls Tryz.prog 39 #[v] W (LtPost (textOf ((Lode.read s.data.toList).1.map kt), 0) W) from by
      have := ltext_any v _ W hv (by omega) (fun t ht => by
        have h1 := hrd.k.allSpelt _ (List.mem_map_of_mem ht)
        have h2 := spelt_text_len h1
        exact Nat.le_trans h2 (by omega)) (hG.later hb)
      rw [hlt1] at this; exact this))
    have HR2 := hid (fun (W : World) (hb : Below w.heap.size w W) => (show Calls Tryz.prog 23 #[.string ⟨(textOf ((Lode.read s.data.toList).1.map kt)).toArray⟩] W (RdPost (M, 0, 0) W) from by
      have := lread_any ⟨(textOf ((Lode.read s.data.toList).1.map kt)).toArray⟩ W (by rw [ba_len]; omega) (hG.later hb)
      rw [show (⟨(textOf ((Lode.read s.data.toList).1.map kt)).toArray⟩ : ByteArray).data.toList = textOf ((Lode.read s.data.toList).1.map kt) from rfl, hM] at this
      exact this))
    have HSp := hid (fun (k : Nat) (t : List UInt8) (a : Int) (W : World) (h : spelt (k, t)) (hb : Below w.heap.size w W) => (show Calls Tryz.prog 34 #[.agg #[.int .u8 k, .string ⟨t.toArray⟩, .int .i64 a]] W (fun e w' => e = .returned (.tuple #[.string ⟨(spl (k, t)).toArray⟩, .int .i64 0]) ∧ Below W.heap.size W w') from by
      have := lSpell_any k t a W (Nat.le_trans (spelt_text_len h) (by omega)) (hG.later hb)
      rw [show (lspell k t).2 = 0 from h] at this
      exact this))
    clear hM hlt1 hchk
    generalize textOf ((Lode.read s.data.toList).1.map kt) = T at *
    generalize Lode.read s.data.toList = R at *
    obtain ⟨L, ra, re⟩ := R
    simp only at herr hL1200 hrd hMk
    subst herr
    obtain ⟨n, hn⟩ : ∃ n, L.length = n := ⟨_, rfl⟩
    have Hn := hid hn
    have Hrd := hid hrd
    have HMk := hid hMk
    rw [hn] at hL1200
    clear hn hrd hMk hG
    go_enter Tryz.func11, Tryz.ntmps11
    go_wp2_with fail
    refine HR.out.mono ?_
    rintro e w1 ⟨v1, rfl, ht1, hb1⟩
    obtain ⟨p1, cp1, hv1, hcells⟩ := ht1.sl
    rw [Hn.out] at hv1
    subst hv1
    have HC := hid hcells
    have HT1 := hid ht1
    clear hcells ht1
    go_wp2_with fail
    go_loopw [6, 7] (FoRel s L n w1) (fun _ i _ => n - (intOf i).toNat)
    case atStart => exact ⟨0, 0, rfl, rfl, by omega, by omega, by simpa using Hrd.out, Below.refl _ _⟩
    case round =>
      obtain ⟨k, e, rfl, rfl, hk, he, hrd, hb⟩ := hrel
      by_cases hlt : k < n
      · have hkl : k < L.length := by rw [Hn.out]; exact hlt
        have hL0 : L ≠ [] := fun e => by rw [e] at hkl; simp at hkl
        obtain ⟨g, rfl, q⟩ := HC.out.resolve_left hL0
        obtain ⟨i0, i1, i2⟩ := q k hkl
        rw [List.drop_eq_getElem_cons hkl] at hrd
        obtain ⟨a, ha, hea, has, hgap, hin, hsp, hne, hrest⟩ := follow_step (by omega) hrd
        have c0 := cell_later hb i0
        have c1 := cell_later hb i1
        have c2 := cell_later hb i2
        clear i0 i1 i2 q
        generalize L[k] = x at *
        obtain ⟨k1, t1, a1⟩ := x
        simp only at c0 c1 c2 ha
        subst ha
        simp only [kt] at has hin hsp hne hrest
        have HS := hid (fun (W : World) (hb' : Below wr.heap.size wr W) => HSp.out k1 t1 (a : Int) W hsp (below_then (below_then hb1 hb) hb'))
        generalize spl (k1, t1) = S at *
        obtain ⟨b, hbdef⟩ : ∃ b, a + S.length = b := ⟨_, rfl⟩
        rw [hbdef] at has hrest
        have has : b ≤ s.size := has
        have hS0 : 0 < S.length := List.length_pos_iff.2 hne
        have hsz : (⟨S.toArray⟩ : ByteArray).size = S.length := rfl
        have hex : s.extract a b = ⟨S.toArray⟩ := by
          rw [← hbdef]
          apply ByteArray.ext
          rw [← Array.toList_inj, extract_data, hin]
        have hneq : (⟨S.toArray⟩ : ByteArray).toList.isEmpty = false := by
          rw [ByteArray.toList_eq, List.isEmpty_eq_false_iff]
          exact hne
        have HGp := hid (fun (W : World) => kgap_any (s.extract e a) false W (by rw [ByteArray.size_extract]; omega))
        rw [Go.Lib.extract_data, hgap] at HGp
        generalize (⟨S.toArray⟩ : ByteArray) = Sb at *
        have y1 : IntKind.i64.wrap ((a : Int) + (S.length : Int)) = (b : Int) := by rw [IntWalk.i64_in _ ⟨by omega, by omega⟩]; omega
        have hab1 : a ≤ b := by omega
        have hab2 : a ≤ s.size := by omega
        have Hrest := hid hrest
        rw [← hsz] at y1
        clear hrd hrest hgap hin hsp hne hL0 hS0 hbdef hsz
        go_wp2_with fail
        refine (HS.out _ (Below.refl _ _)).mono ?_
        rintro e2 w2 ⟨rfl, hb2⟩
        replace c0 := cell_later hb2 c0
        replace c1 := cell_later hb2 c1
        replace c2 := cell_later hb2 c2
        have hbw := below_then hb hb2
        go_wp2_with fail
        have hr1 : (Sb == Sb) = true := (Go.MapKept.bytes_beq _ _).2 rfl
        have hr2 : (Sb != Sb) = false := by unfold bne; rw [hr1]; rfl
        have u1 : decide (a < e) = false := by rw [decide_eq_false_iff_not]; omega
        have u1' : decide ((a : Int) < (e : Int)) = false := by rw [decide_eq_false_iff_not]; omega
        have u2 : decide (s.size < a) = false := by rw [decide_eq_false_iff_not]; omega
        have u2' : decide ((s.size : Int) < (a : Int)) = false := by rw [decide_eq_false_iff_not]; omega
        have u3 : decide (s.size < b) = false := by rw [decide_eq_false_iff_not]; omega
        have u3' : decide ((s.size : Int) < (b : Int)) = false := by rw [decide_eq_false_iff_not]; omega
        have hS : ∀ W, Cl w2.drew W → (W.cell? ⟨g, k * 3 + 2, none⟩ = some (.int .i64 (a : Int)) ∧ True) := fun W h => ⟨cell_later h.below c2, trivial⟩
        refine wp_region_mix [(0, 0), (1, 0), (2, 0), (3, 0), (4, 0), (5, 0), (6, 0), (7, 1), (8, 0), (9, 0), (10, 0), (11, 0), (12, 0), (13, 0), (14, 0), (15, 0), (16, 1), (17, 0), (18, 0), (19, 0), (20, 0), (21, 0), (22, 0), (23, 0), (24, 0), (25, 0), (26, 0), (27, 0), (28, 1), (29, 0), (30, 2), (31, 0), (32, 0), (33, 0), (34, 0), (35, 0), (36, 0), (37, 0), (38, 1), (39, 0), (40, 0), (41, 0), (42, 0), (43, 0), (44, 0), (45, 0), (46, 0), (47, 0), (48, 0), (49, 0), (50, 0), (51, 0), (52, 1), (53, 0), (54, 0), (55, 0), (56, 0), (57, 1), (58, 0), (59, 0), (60, 0), (61, 0), (62, 0), (63, 0), (64, 0), (65, 0), (66, 0), (67, 0), (68, 0)] (by kernel_rfl) (by kernel_rfl) ?_
        iterate 30 (first
          | (refine wpM_skip rfl (by rfl) (by decide) ?_; simp only [Act.put, List.setIfInBounds_toArray, List.set_cons_zero, List.set_cons_succ])
          | (refine wpM_take rfl (by rfl) (v := ?_) ?_ ?_; rotate_left; (· (intro w'; go_simp; first | done | with_reducible rfl | (rw [if_neg (by first | omega | (simp; omega))]; try with_reducible rfl))); simp only [Act.put, List.setIfInBounds_toArray, List.set_cons_zero, List.set_cons_succ])
          | (refine wpM_load hS rfl (by rfl) (v := ?_) ?_ ?_; rotate_left; (· (intro w' hw'; go_split_ands; go_simp; try with_reducible rfl)); simp only [Act.put, List.setIfInBounds_toArray, List.set_cons_zero, List.set_cons_succ])
          | fail)
        refine wpM_call rfl (by rfl) (fun K hK W hW => ?_)
        go_simp
        refine (HGp.out _).mono ?_
        rintro e3 w3 ⟨rfl, rfl⟩
        go_simp
        refine ⟨Cl.refl _, hK _ _ ?_⟩
        replace hS := fun W' h => hS W' (Cl.trans hW h)
        clear hK K
        try simp only [Act.put, List.setIfInBounds_toArray, List.set_cons_zero, List.set_cons_succ]
        iterate 38 (first
          | (refine wpM_skip rfl (by rfl) (by decide) ?_; simp only [Act.put, List.setIfInBounds_toArray, List.set_cons_zero, List.set_cons_succ])
          | (refine wpM_take rfl (by rfl) (v := ?_) ?_ ?_; rotate_left; (· (intro w'; go_simp; first | done | with_reducible rfl | (rw [if_neg (by first | omega | (simp; omega))]; try with_reducible rfl))); simp only [Act.put, List.setIfInBounds_toArray, List.set_cons_zero, List.set_cons_succ])
          | (refine wpM_load hS rfl (by rfl) (v := ?_) ?_ ?_; rotate_left; (· (intro w' hw'; go_split_ands; go_simp; try with_reducible rfl)); simp only [Act.put, List.setIfInBounds_toArray, List.set_cons_zero, List.set_cons_succ])
          | fail)
        refine wpM_done fun W' hW' => ?_
        have hbW := below_then (below_then (Below.refl _ _).drew hW.below) hW'.below
        replace c0 := cell_later hbW c0
        replace c1 := cell_later hbW c1
        replace c2 := cell_later hbW c2
        replace hbw := below_then hbw hbW
        go_wp2_with fail
        go_roundw
        case rel => exact ⟨k + 1, b, rfl, by go_num, by omega, by omega, Hrest.out, hbw⟩
        case measure => simp [intOf]; omega
      · have hkn : k = n := by omega
        subst hkn
        have hnil : L.drop k = [] := List.drop_eq_nil_of_le (by rw [Hn.out]; exact Nat.le_refl _)
        rw [hnil] at hrd
        have hlast := hrd.last
        have HGp := hid (fun (W : World) => kgap_any (s.extract e s.size) true W (by rw [ByteArray.size_extract]; omega))
        rw [Go.Lib.extract_data, List.take_of_length_le (by simp), hlast] at HGp
        clear hlast hrd
        have hb2 := below_then hb1 hb
        go_wp2_with fail
        refine (HGp.out _).mono ?_
        rintro e3 w3 ⟨rfl, rfl⟩
        go_wp2_with fail
        go_loopw [10] (FoRel2 s w3) (fun i _ => s.size + 1 - (intOf i).toNat)
        case atStart => exact ⟨0, rfl, by omega, Below.refl _ _⟩
        case round =>
          obtain ⟨k, rfl, hk, hbk⟩ := hrel
          by_cases hlt : k ≤ s.size
          · have hP := hid (HP.out k hlt)
            have hO := hid (HO.out k hlt)
            generalize spot s.data.toList k = sp at *
            obtain ⟨sp1, sp2⟩ := sp
            go_wp2_with fail
            refine (hP.out _).mono ?_
            rintro e4 w4 ⟨rfl, hb4⟩
            have hb5 := below_then (below_then hbk hb4) (below_alloc w4 (.cells #[.int .i64 sp1, .int .i64 sp2] 23 (0, 0)))
            go_wp2_with fail
            refine (hO.out _).mono ?_
            rintro e5 w5 ⟨rfl, hb6⟩
            have hb7 := below_then hb5 hb6
            go_wp2_with fail
            go_roundw
            case rel => exact ⟨k + 1, by go_num, by omega, hb7⟩
            case measure => simp [intOf]; omega
          · have hb3 := below_then hb hbk
            have hb13 := below_then hb1 hb3
            have ht3 := HT1.out.below hb3
            have hOw := hid (lown_any _ L wr ht3.osc.o (by rw [Hn.out]; omega) ht3.osc.nil)
            clear ht3
            go_wp2_with fail
            refine hOw.out.mono ?_
            rintro e4 w4 ⟨v4, rfl, ht4, hb4⟩
            have hb14 := below_then hb13 hb4
            have hTx := hid (HT.out v4 w4 ht4.sl hb14)
            go_wp2_with fail
            refine hTx.out.mono ?_
            rintro e5 w5 ⟨rfl, hb5⟩
            have hb15 := below_then hb14 hb5
            go_wp2_with fail
            refine (HR2.out _ hb15).mono ?_
            rintro e6 w6 ⟨v6, rfl, ht6, hb6⟩
            have hb16 := below_then hb15 hb6
            have hA := hid (kalike_any _ v6 L M w6 (HT1.out.below (below_then (below_then (below_then hb3 hb4) hb5) hb6)).osc.o ht6.osc.o (by rw [Hn.out]; omega))
            rw [HMk.out, decide_eq_true rfl] at hA
            have hsz : (⟨T.toArray⟩ : ByteArray).size = T.length := rfl
            have u1 : decide ((T.length : Int) ≤ (s.size : Int)) = true := by rw [decide_eq_true_eq]; omega
            have u2 : decide (T.length ≤ s.size) = true := by rw [decide_eq_true_eq]; omega
            clear ht4 ht6
            go_wp2_with fail
            refine hA.out.mono ?_
            rintro e7 w7 ⟨rfl, hb7⟩
            have hb17 := below_then hb16 hb7
            go_wp2_with fail
            refine (HK.out _ hb17).mono ?_
            rintro e wk ⟨rfl, hbk⟩
            go_wp2_with fail
            go_ret
            exact ⟨rfl, below_then hb17 hbk⟩
  · generalize hr : Lode.read s.data.toList = R at *
    clear hr
    obtain ⟨L, ra, re⟩ := R
    simp only at herr
    have h0' : ((re : Int) != 0) = true := by rw [bne_iff_ne]; omega
    go_enter Tryz.func11, Tryz.ntmps11
    go_wp2_with fail
    refine HR.out.mono ?_
    rintro e w1 ⟨v1, rfl, ht1, hb1⟩
    go_wp2_with fail
    refine (HK.out _ hb1).mono ?_
    rintro e wk ⟨rfl, hbk⟩
    go_wp2_with fail
    go_ret
    exact ⟨rfl, below_then hb1 hbk⟩
end Go.Proofs.YthknlifmkjdoeaaGreatDoor
