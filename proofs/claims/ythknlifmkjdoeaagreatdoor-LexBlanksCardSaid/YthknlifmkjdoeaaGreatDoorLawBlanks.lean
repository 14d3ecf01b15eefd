/-
  LexBlanks: the law's walk.
-/
import Derived.Test.YthknlifmkjdoeaaGreatDoorLawFollows
import Derived.Test.YthknlifmkjdoeaaGreatDoorBlP
namespace Go.Proofs.YthknlifmkjdoeaaGreatDoor
open Go.RowKit Lode Go.Shelf
attribute [local go_sem ↓] Go.wp_at_zero Go.wp_at_succ
theorem lApart_sp {x y : Nat × List UInt8} (hx : spelt x) (hy : spelt y) (a1 a2 : Int) : lApart ⟨x.1, x.2, a1⟩ ⟨y.1, y.2, a2⟩ = (apartK x y, 0) := by
  have h0 : lspellAll [⟨x.1, x.2, a1⟩, ⟨y.1, y.2, a2⟩] = 0 := spellAll_of (by simp) (by
    intro z hz
    simp only [List.map_cons, List.map_nil, List.mem_cons, List.not_mem_nil, or_false] at hz
    rcases hz with rfl | rfl
    · exact hx
    · exact hy)
  unfold lApart
  rw [h0]; rfl
def BlRel (ks : List (Nat × List UInt8)) (n : Nat) (w : World) (at_ i : Value) (wr : World) : Prop := ∃ k : Nat, at_ = .int .i64 ((textOf (ks.take k)).length : Nat) ∧ i = .int .i64 k ∧ k ≤ n ∧ Below w.heap.size w wr
set_option maxHeartbeats 8000000 in
set_option maxRecDepth 100000 in
theorem law_blanks (s : ByteArray) (w : World) (hG : Glob w) : Calls Tryz.prog 12 #[.string s] w fun e w' => e = .returned (.bool true) ∧ Below w.heap.size w w' := by
  have HK := hid (fun (W : World) (hb : Below w.heap.size w W) => known_any W (hG.later hb))
  by_cases hbig : 300 < s.size
  · go_enter Tryz.func12, Tryz.ntmps12
    go_wp2_with (go_at_call 15; refine (HK.out _ (Below.refl _ _)).mono ?_; rintro e w1 ⟨rfl, hb1⟩)
    go_ret
    exact ⟨rfl, hb1⟩
  have HR := hid (lread_any s w (by omega) hG)
  have hsl : s.data.toList.length = s.size := by simp
  by_cases herr : (Lode.read s.data.toList).2.2 = 0
  · obtain ⟨hrd, hL1200, hchk, _⟩ := read_rd herr
    obtain ⟨hlt1, hlt2, _, _, _⟩ := text_plain herr
    rw [hsl] at hlt2
    have hsp := hrd.k.allSpelt
    have HT := hid (fun (v : Value) (W : World) (hv : TSl W v (Lode.read s.data.toList).1) (hb : Below w.heap.size w W) => (show Calls Tryz.prog 39 #[v] W (LtPost (textOf ((Lode.read s.data.toList).1.map kt), 0) W) from by
      have := ltext_any v _ W hv (by omega) (fun t ht => Nat.le_trans (spelt_text_len (hsp _ (List.mem_map_of_mem ht))) (by omega)) (hG.later hb)
      rw [hlt1] at this; exact this))
    have HSp := hid (fun (k : Nat) (t : List UInt8) (a : Int) (W : World) (h : spelt (k, t)) (hb : Below w.heap.size w W) => (show Calls Tryz.prog 34 #[.agg #[.int .u8 k, .string ⟨t.toArray⟩, .int .i64 a]] W (fun e w' => e = .returned (.tuple #[.string ⟨(spl (k, t)).toArray⟩, .int .i64 0]) ∧ Below W.heap.size W w') from by
      have := lSpell_any k t a W (Nat.le_trans (spelt_text_len h) (by omega)) (hG.later hb)
      rw [show (lspell k t).2 = 0 from h] at this
      exact this))
    have HAp := hid (fun (k1 : Nat) (t1 : List UInt8) (a1 : Int) (k2 : Nat) (t2 : List UInt8) (a2 : Int) (W : World) (h1 : spelt (k1, t1)) (h2 : spelt (k2, t2)) (hb : Below w.heap.size w W) => (show Calls Tryz.prog 35 #[.agg #[.int .u8 k1, .string ⟨t1.toArray⟩, .int .i64 a1], .agg #[.int .u8 k2, .string ⟨t2.toArray⟩, .int .i64 a2]] W (fun e w' => e = .returned (.tuple #[.bool (apartK (k1, t1) (k2, t2)), .int .i64 0]) ∧ Below W.heap.size W w') from by
      have := lApart_any k1 k2 t1 t2 a1 a2 W (Nat.le_trans (spelt_text_len h1) (by omega)) (Nat.le_trans (spelt_text_len h2) (by omega)) (hG.later hb)
      rw [lApart_sp h1 h2] at this
      exact this))
    have HRa := hid (fun (t : ByteArray) (W : World) (h : t.size ≤ 100000) (hb : Below w.heap.size w W) => lread_any t W (by omega) (hG.later hb))
    have HO := hid (fun (v : Value) (l : List Tok) (W : World) (h : OSl W v l) (hl : l.length ≤ 100000) (hv : ∀ c, v = .slice none 0 c → c = 0) => lown_any v l W h hl hv)
    have HAl := hid (fun (v1 v2 : Value) (l m : List Tok) (W : World) (h1 : OSl W v1 l) (h2 : OSl W v2 m) (hl : l.length ≤ 1000000) => kalike_any v1 v2 l m W h1 h2 hl)
    have HB := hid (fun i hi => blank_step ((Lode.read s.data.toList).1.map kt) hsp i hi)
    have Hsp := hid hsp
    clear hlt1 hchk hrd hsp
    generalize hks : (Lode.read s.data.toList).1.map kt = ks at *
    obtain ⟨T, hT⟩ : ∃ T, textOf ks = T := ⟨_, rfl⟩
    rw [hT] at hlt2 HT
    generalize Lode.read s.data.toList = R at *
    obtain ⟨L, ra, re⟩ := R
    simp only at herr hL1200 hks
    subst herr
    obtain ⟨n, hn⟩ : ∃ n, L.length = n := ⟨_, rfl⟩
    have Hn := hid hn
    have Hks := hid hks
    have HT0 := hid hT
    have Hkn : Hid (ks.length = n) := hid (by rw [← hks, List.length_map, hn])
    rw [hn] at hL1200
    clear hn hks hT hG
    go_enter Tryz.func12, Tryz.ntmps12
    go_wp2_with fail
    refine HR.out.mono ?_
    rintro e w1 ⟨v1, rfl, ht1, hb1⟩
    have hnil : ∀ c, v1 = .slice none 0 c → c = 0 := fun c e => by
      obtain ⟨_, ⟨hv, _⟩ | ⟨g, cap, cur, hv, _⟩⟩ := id ht1
      · rw [hv] at e; cases e; rfl
      · rw [hv] at e; cases e
    have HOw := hid (HO.out v1 L w1 ht1.sl.o (by rw [Hn.out]; omega) hnil)
    obtain ⟨p1, cp1, hv1, hcells⟩ := ht1.sl
    rw [Hn.out] at hv1
    subst hv1
    have HC := hid hcells
    have HT1 := hid ht1
    clear hcells ht1 hnil
    go_wp2_with fail
    refine HOw.out.mono ?_
    rintro e w2 ⟨v2, rfl, ht2, hb2⟩
    have hb12 := below_then hb1 hb2
    have HTw := hid (HT.out v2 w2 ht2.sl hb12)
    go_wp2_with fail
    refine HTw.out.mono ?_
    rintro e w3 ⟨rfl, hb3⟩
    have hb23 := below_then hb2 hb3
    have hb13 := below_then hb1 hb23
    have HTs : Hid ((⟨T.toArray⟩ : ByteArray).size = T.length) := hid rfl
    have HTd : Hid ((⟨T.toArray⟩ : ByteArray).data.toList = T) := hid rfl
    generalize (⟨T.toArray⟩ : ByteArray) = Tb at *
    go_wp2_with fail
    go_loopw [8, 9] (BlRel ks n w3) (fun _ i _ => n - (intOf i).toNat)
    case atStart => exact ⟨0, rfl, rfl, by omega, Below.refl _ _⟩
    case round =>
      obtain ⟨k, rfl, rfl, hk, hb⟩ := hrel
      by_cases hlt : k < n
      · have hkl : k < L.length := by rw [Hn.out]; exact hlt
        have hkk : k < ks.length := by rw [Hkn.out]; exact hlt
        have hL0 : L ≠ [] := fun e => by rw [e] at hkl; simp at hkl
        obtain ⟨g, rfl, q⟩ := HC.out.resolve_left hL0
        obtain ⟨i0, i1, i2⟩ := q k hkl
        have hbw := below_then hb23 hb
        have c0 := cell_later hbw i0
        have c1 := cell_later hbw i1
        have c2 := cell_later hbw i2
        clear i0 i1 i2
        have hkx : ks[k] = kt L[k] := by
          have h9 : ks[k]? = (L.map kt)[k]? := by rw [Hks.out]
          rw [List.getElem?_eq_getElem hkk, List.getElem?_map, List.getElem?_eq_getElem hkl] at h9
          simpa using h9
        obtain ⟨bs1, bs2, ⟨Z, bs3, bs4⟩, bs5⟩ := HB.out k hkk
        rw [HT0.out] at bs3
        have hprev : ∀ m (hm : m + 1 = k), ∃ y : Tok, ks[m]'(by omega) = kt y ∧ spelt (kt y) ∧ wr.cell? ⟨g, m * 3, none⟩ = some (.int .u8 y.kind) ∧ wr.cell? ⟨g, m * 3 + 1, none⟩ = some (.string ⟨y.text.toArray⟩) ∧ wr.cell? ⟨g, m * 3 + 2, none⟩ = some (.int .i64 y.at_) := fun m hm => by
          have hml : m < L.length := by omega
          have hmk : m < ks.length := by omega
          obtain ⟨i0, i1, i2⟩ := q m hml
          have e1 : ks[m] = kt L[m] := by
            have h9 : ks[m]? = (L.map kt)[m]? := by rw [Hks.out]
            rw [List.getElem?_eq_getElem hmk, List.getElem?_map, List.getElem?_eq_getElem hml] at h9
            simpa using h9
          exact ⟨L[m], e1, by rw [← e1]; exact Hsp.out _ (List.getElem_mem _), cell_later hbw i0, cell_later hbw i1, cell_later hbw i2⟩
        rw [hkx] at bs1 bs2 bs3 bs4 bs5
        generalize L[k] = x at *
        obtain ⟨k1, t1, a1⟩ := x
        simp only [kt] at c0 c1 c2 bs1 bs2 bs3 bs4 bs5
        have HS := hid (fun (W : World) (hb' : Below wr.heap.size wr W) => HSp.out k1 t1 a1 W bs1 (below_then (below_then hb1 hbw) hb'))
        obtain ⟨A, hA⟩ : ∃ A, textOf (ks.take k) = A := ⟨_, rfl⟩
        rw [hA] at bs2 bs3 bs4 ⊢
        -- what stands at a place
        have hexG : ∀ A', T = A' ++ (spl (k1, t1) ++ Z) → A'.length + (spl (k1, t1)).length ≤ T.length ∧ Tb.extract A'.length (A'.length + (spl (k1, t1)).length) = ⟨(spl (k1, t1)).toArray⟩ := fun A' h => by
          constructor
          · rw [h]; simp only [List.length_append]; omega
          · apply ByteArray.ext
            rw [← Array.toList_inj, extract_data, HTd.out, h, List.drop_left, List.take_left]
        generalize spl (k1, t1) = S at *
        have hsz : (⟨S.toArray⟩ : ByteArray).size = S.length := rfl
        generalize (⟨S.toArray⟩ : ByteArray) = Sb at *
        have hr1 : (Sb == Sb) = true := (Go.MapKept.bytes_beq _ _).2 rfl
        have hr2 : (Sb != Sb) = false := by unfold bne; rw [hr1]; rfl
        have HT9 := hid (show ∀ A', T = A' ++ (S ++ Z) → textOf (ks.take (k + 1)) = A' ++ S → ∃ b', A'.length + S.length = b' ∧ b' ≤ Tb.size ∧ Tb.extract A'.length b' = Sb ∧ IntKind.i64.wrap ((A'.length : Int) + (Sb.size : Int)) = (b' : Int) ∧ decide (Tb.size < b') = false ∧ decide ((Tb.size : Int) < (b' : Int)) = false ∧ (textOf (ks.take (k + 1))).length = b' from fun A' h1 h2 => by
          obtain ⟨h3, h4⟩ := hexG A' h1
          refine ⟨_, rfl, by rw [HTs.out]; exact h3, h4, ?_, ?_, ?_, by rw [h2, List.length_append]⟩
          · rw [hsz, IntWalk.i64_in _ ⟨by omega, by omega⟩]; omega
          · rw [decide_eq_false_iff_not, HTs.out]; omega
          · rw [decide_eq_false_iff_not, HTs.out]; omega)
        obtain ⟨α, hα⟩ : ∃ α, A.length = α := ⟨_, rfl⟩
        clear hexG q hsz
        by_cases hk0 : k = 0
        · have bs6 : T = A ++ (S ++ Z) := by rw [bs3, bs5 hk0]; rfl
          have bs7 : textOf (ks.take (k + 1)) = A ++ S := by rw [bs2, bs5 hk0]; rfl
          obtain ⟨b', hb1', hb2', hex, y1, u1, u2, hnext⟩ := HT9.out A bs6 bs7
          have Hnext := hid hnext
          have hab : List.length A ≤ b' := by omega
          clear hb1' hnext
          rw [hα] at hex y1 hab ⊢
          have z1 : decide ((0 : Int) < (k : Int)) = false := by rw [decide_eq_false_iff_not]; omega
          have z2 : decide (0 < k) = false := by rw [decide_eq_false_iff_not]; omega
          have Hk0 := hid hk0
          clear bs2 bs3 bs4 bs5 bs6 bs7 hprev HT9 hα hA hk0
          go_wp2_with fail
          refine (HS.out _ (Below.refl _ _)).mono ?_
          rintro e4 w4 ⟨rfl, hb4⟩
          have hbt := below_then hb hb4
          go_wp2_with fail
          go_roundw
          case rel => exact ⟨k + 1, by rw [Hnext.out], by go_num, by omega, hbt⟩
          case measure => simp [intOf]; omega
        · obtain ⟨m, hm⟩ : ∃ m, m + 1 = k := ⟨k - 1, by omega⟩
          obtain ⟨y, hy1, hy2, d0, d1, d2⟩ := hprev m hm
          obtain ⟨bs8, bs9⟩ := bs4 (by omega)
          have e1 : ks[k - 1]'(by omega) = kt y := by
            have hk1 : k - 1 = m := by omega
            subst hk1
            exact hy1
          rw [e1] at bs8 bs9
          obtain ⟨k0, t0, a0⟩ := y
          simp only [kt] at d0 d1 d2 hy2 bs8 bs9
          have hA2 := hid (fun (W : World) (hb' : Below wr.heap.size wr W) => HAp.out k0 t0 a0 k1 t1 a1 W hy2 bs1 (below_then (below_then hb1 hbw) hb'))
          have z1 : decide ((0 : Int) < (k : Int)) = true := by rw [decide_eq_true_eq]; omega
          have z2 : decide (0 < k) = true := by rw [decide_eq_true_eq]; omega
          have y2 : IntKind.i64.wrap ((k : Int) - 1) = (m : Int) := by rw [IntWalk.i64_in _ ⟨by omega, by omega⟩]; omega
          have hmn : m < n := by omega
          have Hm := hid hm
          clear hprev hk0 hm e1 hy1 bs4 bs5
          cases hap : apartK (k0, t0) (k1, t1) with
          | false =>
            rw [hap] at bs8 hA2
            have bs6 : T = A ++ (S ++ Z) := by rw [bs3, bs8]; rfl
            have bs7 : textOf (ks.take (k + 1)) = A ++ S := by rw [bs2, bs8]; rfl
            obtain ⟨b', hb1', hb2', hex, y1, u1, u2, hnext⟩ := HT9.out A bs6 bs7
            have Hnext := hid hnext
            have hab : List.length A ≤ b' := by omega
            clear hb1' hnext
            rw [hα] at hex y1 hab ⊢
            clear bs2 bs3 bs6 bs7 bs8 bs9 HT9 hα hA hap
            go_wp2_with fail
            refine (HS.out _ (Below.refl _ _)).mono ?_
            rintro e4 w4 ⟨rfl, hb4⟩
            replace c0 := cell_later hb4 c0
            replace c1 := cell_later hb4 c1
            replace c2 := cell_later hb4 c2
            replace d0 := cell_later hb4 d0
            replace d1 := cell_later hb4 d1
            replace d2 := cell_later hb4 d2
            go_wp2_with fail
            have hS : ∀ W, Cl w4.drew W → (W.cell? ⟨g, m * 3, none⟩ = some (.int .u8 k0) ∧ W.cell? ⟨g, m * 3 + 1, none⟩ = some (.string ⟨t0.toArray⟩) ∧ W.cell? ⟨g, m * 3 + 2, none⟩ = some (.int .i64 a0) ∧ W.cell? ⟨g, k * 3, none⟩ = some (.int .u8 k1) ∧ W.cell? ⟨g, k * 3 + 1, none⟩ = some (.string ⟨t1.toArray⟩) ∧ W.cell? ⟨g, k * 3 + 2, none⟩ = some (.int .i64 a1)) := fun W h => ⟨cell_later h.below d0, cell_later h.below d1, cell_later h.below d2, cell_later h.below c0, cell_later h.below c1, cell_later h.below c2⟩
            clear c0 c1 c2 d0 d1 d2
            refine wp_region_mix [(0, 0), (1, 0), (2, 0), (3, 0), (4, 1), (5, 0), (6, 0), (7, 0), (8, 1), (9, 2), (10, 0), (11, 0), (12, 0), (13, 0), (14, 0)] (by kernel_rfl) (by kernel_rfl) ?_
            iterate 9 (first
              | (refine wpM_skip rfl (by rfl) (by decide) ?_; simp only [Act.put, List.setIfInBounds_toArray, List.set_cons_zero, List.set_cons_succ])
              | (refine wpM_take rfl (by rfl) (v := ?_) ?_ ?_; rotate_left; (· (intro w'; go_simp; first | done | with_reducible rfl | (rw [if_neg (by first | omega | (simp; omega))]; try with_reducible rfl))); simp only [Act.put, List.setIfInBounds_toArray, List.set_cons_zero, List.set_cons_succ])
              | (refine wpM_load hS rfl (by rfl) (v := ?_) ?_ ?_; rotate_left; (· (intro w' hw'; go_split_ands; go_simp; try with_reducible rfl)); simp only [Act.put, List.setIfInBounds_toArray, List.set_cons_zero, List.set_cons_succ])
              | fail)
            refine wpM_call rfl (by rfl) (fun K hK W hW => ?_)
            go_simp
            have hbW : Below wr.heap.size wr W := below_then hb4.drew hW.below
            refine (hA2.out _ hbW).mono ?_
            rintro e5 w5 ⟨rfl, hb5⟩
            go_simp
            refine ⟨cl_iff.2 hb5, hK _ _ ?_⟩
            clear hK K hS
            try simp only [Act.put, List.setIfInBounds_toArray, List.set_cons_zero, List.set_cons_succ]
            iterate 5 (first
              | (refine wpM_skip rfl (by rfl) (by decide) ?_; simp only [Act.put, List.setIfInBounds_toArray, List.set_cons_zero, List.set_cons_succ])
              | (refine wpM_take rfl (by rfl) (v := ?_) ?_ ?_; rotate_left; (· (intro w'; go_simp; first | done | with_reducible rfl | (rw [if_neg (by first | omega | (simp; omega))]; try with_reducible rfl))); simp only [Act.put, List.setIfInBounds_toArray, List.set_cons_zero, List.set_cons_succ])
              | fail)
            refine wpM_done fun W' hW' => ?_
            have hbz := below_then (below_then hbW hb5) hW'.below
            have hbt := below_then hb hbz
            go_wp2_with fail
            go_roundw
            case rel => exact ⟨k + 1, by rw [Hnext.out], by go_num, by omega, hbt⟩
            case measure => simp [intOf]; omega
          | true =>
            rw [hap] at bs8 hA2
            have bs6 : T = (A ++ [32]) ++ (S ++ Z) := by rw [bs3, bs8, List.append_assoc]; rfl
            have bs7 : textOf (ks.take (k + 1)) = (A ++ [32]) ++ S := by rw [bs2, bs8, List.append_assoc]; rfl
            obtain ⟨b', hb1', hb2', hex, y1, u1, u2, hnext⟩ := HT9.out (A ++ [32]) bs6 bs7
            have Hnext := hid hnext
            have hab : List.length (A ++ [32]) ≤ b' := by omega
            clear hb1' hnext
            obtain ⟨α1, hα1⟩ : ∃ x, α + 1 = x := ⟨_, rfl⟩
            have hAl : (A ++ [32]).length = α1 := by rw [List.length_append, hα]; exact hα1
            rw [hAl] at hex y1 hab
            rw [hα]
            have hTs9 : Tb.size ≤ 300 := by rw [HTs.out]; omega
            have y3 : IntKind.i64.wrap ((α : Int) + 1) = (α1 : Int) := by rw [IntWalk.i64_in _ ⟨by omega, by omega⟩]; omega
            have hαT : α < Tb.size := by omega
            have u3 : decide ((Tb.size : Int) ≤ (α : Int)) = false := by rw [decide_eq_false_iff_not]; omega
            have u4 : decide (Tb.size ≤ α) = false := by rw [decide_eq_false_iff_not]; omega
            have hd0 : Tb.data.toList.drop α = 32 :: (S ++ Z) := by
              rw [HTd.out, bs6, List.append_assoc, ← hα, List.drop_left]; rfl
            have hx : ((Tb[α]'hαT).toNat : Int) = 32 := by
              have := bdrop Tb α hαT
              rw [hd0] at this
              simp only [List.cons.injEq] at this
              rw [← this.1]; rfl
            have hα1T : α1 ≤ Tb.size := by omega
            have hαT2 : α ≤ Tb.size := by omega
            have hrd9 : (Tb.extract 0 α ++ Tb.extract α1 Tb.size).data.toList = A ++ (S ++ Z) := by
              have h1 : Tb.data.toList.drop α1 = S ++ Z := by rw [← hα1, ← List.drop_drop, hd0]; rfl
              have h2 : Tb.data.toList.take α = A := by rw [HTd.out, bs6, List.append_assoc, ← hα, List.take_left]
              rw [app_data, Go.Lib.extract_data, Go.Lib.extract_data, List.drop_zero, Nat.sub_zero, h2, h1, List.take_of_length_le]
              rw [← h1, List.length_drop]; simp
            have hsz9 : (Tb.extract 0 α ++ Tb.extract α1 Tb.size).size ≤ 100000 := by
              rw [ByteArray.size_append, ByteArray.size_extract, ByteArray.size_extract]
              have := HTs.out
              omega
            have HRd := hid (fun (W : World) (hb' : Below w.heap.size w W) => HRa.out (Tb.extract 0 α ++ Tb.extract α1 Tb.size) W hsz9 hb')
            rw [hrd9] at HRd
            have hX := bs9 hap
            generalize Lode.read (A ++ (S ++ Z)) = X at *
            obtain ⟨M, mp, me⟩ := X
            clear bs2 bs3 bs6 bs7 bs8 bs9 HT9 hα hα1 hA hap hAl hd0 hrd9 hsz9
            have Hconcat : Hid (Tb.size + 1 < 9223372036854775807) := hid (by have := HTs.out; omega)
            go_wp2_with fail
            refine (HS.out _ (Below.refl _ _)).mono ?_
            rintro e4 w4 ⟨rfl, hb4⟩
            replace c0 := cell_later hb4 c0
            replace c1 := cell_later hb4 c1
            replace c2 := cell_later hb4 c2
            replace d0 := cell_later hb4 d0
            replace d1 := cell_later hb4 d1
            replace d2 := cell_later hb4 d2
            go_wp2_with fail
            have hS : ∀ W, Cl w4.drew W → (W.cell? ⟨g, m * 3, none⟩ = some (.int .u8 k0) ∧ W.cell? ⟨g, m * 3 + 1, none⟩ = some (.string ⟨t0.toArray⟩) ∧ W.cell? ⟨g, m * 3 + 2, none⟩ = some (.int .i64 a0) ∧ W.cell? ⟨g, k * 3, none⟩ = some (.int .u8 k1) ∧ W.cell? ⟨g, k * 3 + 1, none⟩ = some (.string ⟨t1.toArray⟩) ∧ W.cell? ⟨g, k * 3 + 2, none⟩ = some (.int .i64 a1)) := fun W h => ⟨cell_later h.below d0, cell_later h.below d1, cell_later h.below d2, cell_later h.below c0, cell_later h.below c1, cell_later h.below c2⟩
            clear c0 c1 c2 d0 d1 d2
            refine wp_region_mix [(0, 0), (1, 0), (2, 0), (3, 0), (4, 1), (5, 0), (6, 0), (7, 0), (8, 1), (9, 2), (10, 0), (11, 0), (12, 0), (13, 0), (14, 0)] (by kernel_rfl) (by kernel_rfl) ?_
            iterate 9 (first
              | (refine wpM_skip rfl (by rfl) (by decide) ?_; simp only [Act.put, List.setIfInBounds_toArray, List.set_cons_zero, List.set_cons_succ])
              | (refine wpM_take rfl (by rfl) (v := ?_) ?_ ?_; rotate_left; (· (intro w'; go_simp; first | done | with_reducible rfl | (rw [if_neg (by first | omega | (simp; omega))]; try with_reducible rfl))); simp only [Act.put, List.setIfInBounds_toArray, List.set_cons_zero, List.set_cons_succ])
              | (refine wpM_load hS rfl (by rfl) (v := ?_) ?_ ?_; rotate_left; (· (intro w' hw'; go_split_ands; go_simp; try with_reducible rfl)); simp only [Act.put, List.setIfInBounds_toArray, List.set_cons_zero, List.set_cons_succ])
              | fail)
            refine wpM_call rfl (by rfl) (fun K hK W hW => ?_)
            go_simp
            have hbW : Below wr.heap.size wr W := below_then hb4.drew hW.below
            refine (hA2.out _ hbW).mono ?_
            rintro e5 w5 ⟨rfl, hb5⟩
            go_simp
            refine ⟨cl_iff.2 hb5, hK _ _ ?_⟩
            clear hK K hS
            try simp only [Act.put, List.setIfInBounds_toArray, List.set_cons_zero, List.set_cons_succ]
            iterate 5 (first
              | (refine wpM_skip rfl (by rfl) (by decide) ?_; simp only [Act.put, List.setIfInBounds_toArray, List.set_cons_zero, List.set_cons_succ])
              | (refine wpM_take rfl (by rfl) (v := ?_) ?_ ?_; rotate_left; (· (intro w'; go_simp; first | done | with_reducible rfl | (rw [if_neg (by first | omega | (simp; omega))]; try with_reducible rfl))); simp only [Act.put, List.setIfInBounds_toArray, List.set_cons_zero, List.set_cons_succ])
              | fail)
            refine wpM_done fun W' hW' => ?_
            have hbz := below_then (below_then hbW hb5) hW'.below
            have hbx := below_then (below_then hb1 hbw) hbz
            go_wp2_with fail
            refine wp_region_mix [(0, 0), (1, 0), (2, 0), (3, 0), (4, 0), (5, 0), (6, 0), (7, 0), (8, 2), (9, 0), (10, 0), (11, 0), (12, 0), (13, 0), (14, 0), (15, 0)] (by kernel_rfl) (by kernel_rfl) ?_
            iterate 8 (first
              | (refine wpM_skip rfl (by rfl) (by decide) ?_; simp only [Act.put, List.setIfInBounds_toArray, List.set_cons_zero, List.set_cons_succ])
              | (refine wpM_take rfl (by rfl) (v := ?_) ?_ ?_; rotate_left; (· (intro w'; go_simp; first | done | with_reducible rfl | (rw [if_neg (by first | omega | (simp; omega))]; try with_reducible rfl))); simp only [Act.put, List.setIfInBounds_toArray, List.set_cons_zero, List.set_cons_succ])
              | fail)
            refine wpM_call rfl (by rfl) (fun K hK W8 hW8 => ?_)
            go_simp
            have hb8 := below_then hbx.drew hW8.below
            refine (HRd.out _ hb8).mono ?_
            rintro e8 w8 ⟨v8, rfl, ht8, hb9⟩
            go_simp
            refine ⟨cl_iff.2 hb9, hK _ _ ?_⟩
            clear hK K
            try simp only [Act.put, List.setIfInBounds_toArray, List.set_cons_zero, List.set_cons_succ]
            iterate 7 (first
              | (refine wpM_skip rfl (by rfl) (by decide) ?_; simp only [Act.put, List.setIfInBounds_toArray, List.set_cons_zero, List.set_cons_succ])
              | (refine wpM_take rfl (by rfl) (v := ?_) ?_ ?_; rotate_left; (· (intro w'; go_simp; first | done | with_reducible rfl | (rw [if_neg (by first | omega | (simp; omega))]; try with_reducible rfl))); simp only [Act.put, List.setIfInBounds_toArray, List.set_cons_zero, List.set_cons_succ])
              | fail)
            refine wpM_done fun W9 hW9 => ?_
            have hb10 := below_then (below_then hb8 hb9) hW9.below
            have hbq := below_then (below_then (below_then hbz.drew hW8.below) hb9) hW9.below
            have ht9 := ht8.below hW9.below
            simp only at hX ht9
            by_cases hme : me = 0
            · subst hme
              have hbw9 := below_then hbw hbq
              have hAl := hid (HAl.out _ v8 L M W9 (HT1.out.below hbw9).sl.o ht9.sl.o (by rw [Hn.out]; omega))
              rw [Hks.out, decide_eq_false (fun e => hX M mp rfl e.symm)] at hAl
              clear ht8 ht9
              go_wp2_with fail
              refine hAl.out.mono ?_
              rintro e10 w10 ⟨rfl, hb11⟩
              have hbt := below_then hb (below_then hbq hb11)
              go_wp2_with fail
              go_roundw
              case rel => exact ⟨k + 1, by rw [Hnext.out], by go_num, by omega, hbt⟩
              case measure => simp [intOf]; omega
            · have h0' : ((me : Int) == 0) = false := by rw [beq_eq_false_iff_ne]; omega
              have hbt := below_then hb hbq
              clear ht8 ht9
              go_wp2_with fail
              go_roundw
              case rel => exact ⟨k + 1, by rw [Hnext.out], by go_num, by omega, hbt⟩
              case measure => simp [intOf]; omega
      · have hkn : k = n := by omega
        subst hkn
        have htk : ks.take k = ks := List.take_of_length_le (by rw [Hkn.out]; exact Nat.le_refl _)
        rw [htk, HT0.out]
        have hTs := HTs.out
        have hb3' := below_then hb13 hb
        clear htk
        go_wp2_with fail
        refine (HK.out _ hb3').mono ?_
        rintro e wk ⟨rfl, hbk⟩
        go_wp2_with fail
        go_ret
        exact ⟨rfl, below_then hb3' hbk⟩
  · generalize hr : Lode.read s.data.toList = R at *
    clear hr
    obtain ⟨L, ra, re⟩ := R
    simp only at herr
    have h0' : ((re : Int) != 0) = true := by rw [bne_iff_ne]; omega
    go_enter Tryz.func12, Tryz.ntmps12
    go_wp2_with fail
    refine HR.out.mono ?_
    rintro e w1 ⟨v1, rfl, ht1, hb1⟩
    go_wp2_with fail
    refine (HK.out _ hb1).mono ?_
    rintro e wk ⟨rfl, hbk⟩
    go_wp2_with fail
    go_ret
    exact ⟨rfl, below_then hb1 hbk⟩
end Go.Proofs.YthknlifmkjdoeaaGreatDoor
