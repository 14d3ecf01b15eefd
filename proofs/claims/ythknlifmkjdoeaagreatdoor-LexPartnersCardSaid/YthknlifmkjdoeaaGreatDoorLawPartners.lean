/-
  LexPartners: the law's walk.
-/
import Derived.Test.YthknlifmkjdoeaaGreatDoorLexX
import Derived.Test.YthknlifmkjdoeaaGreatDoorNestW
import Derived.Test.YthknlifmkjdoeaaGreatDoorPartP
import Derived.Test.YthknlifmkjdoeaaGreatDoorCut
namespace Go.Proofs.YthknlifmkjdoeaaGreatDoor
open Go.RowKit Lode Go.Shelf
attribute [local go_sem ↓] Go.wp_at_zero Go.wp_at_succ
theorem sym_index (m : Nat) (hm : m < 7) (W : World) : (Instr.index 9 (.string ⟨#[40, 41, 91, 93, 123, 125, 97]⟩) (.int .u8 (m : Int))).run Tryz.prog W = .ok (.int .u8 ((symM m).toNat : Int)) W := by
  have h : m = 0 ∨ m = 1 ∨ m = 2 ∨ m = 3 ∨ m = 4 ∨ m = 5 ∨ m = 6 := by omega
  rcases h with rfl | rfl | rfl | rfl | rfl | rfl | rfl <;> (show (_ : Result Value) = _; kernel_rfl)
theorem sym_index2 (m : Nat) (hm : m < 6) (W : World) : (Instr.index 9 (.string ⟨#[40, 41, 91, 93, 123, 125]⟩) (.int .i64 (m : Int))).run Tryz.prog W = .ok (.int .u8 ((symM m).toNat : Int)) W := by
  have h : m = 0 ∨ m = 1 ∨ m = 2 ∨ m = 3 ∨ m = 4 ∨ m = 5 := by omega
  rcases h with rfl | rfl | rfl | rfl | rfl | rfl <;> (show (_ : Result Value) = _; kernel_rfl)
theorem conv_two (c d : UInt8) (x : Int) (hd : x = (d.toNat : Int)) (W : World) : (Go.convert 44 9 (.slice (some ⟨W.heap.size, 0, none⟩) 2 2)).run Tryz.prog (W.alloc (.cells #[.int .u8 (c.toNat : Int), .int .u8 x] 5 (0, 0))) = .ok (.string ⟨#[c, d]⟩) (W.alloc (.cells #[.int .u8 (c.toNat : Int), .int .u8 x] 5 (0, 0))) := by
  subst hd
  have hn := heap_new W (.cells #[.int .u8 (c.toNat : Int), .int .u8 (d.toNat : Int)] 5 (0, 0))
  exact run_convert_bytes_back (P := Tryz.prog) _ 44 9 5 ⟨W.heap.size, 0, none⟩ 2 [c, d] Tryz.underlying44 Tryz.underlying5 Tryz.underlying9 (fun j hj => by
    have hj0 : j = 0 ∨ j = 1 := by simp at hj; omega
    rcases hj0 with rfl | rfl
    · exact cell_heap hn 0
    · have e : (⟨W.heap.size, 0, none⟩ : Addr).add 1 = ⟨W.heap.size, 1, none⟩ := rfl
      exact cell_heap hn 1)
theorem conv_sgl (c : UInt8) (W : World) : (Go.convert 44 9 (.slice (some ⟨W.heap.size, 0, none⟩) 1 1)).run Tryz.prog (W.alloc (.cells #[.int .u8 (c.toNat : Int)] 5 (0, 0))) = .ok (.string ⟨#[c]⟩) (W.alloc (.cells #[.int .u8 (c.toNat : Int)] 5 (0, 0))) := by
  have hn := heap_new W (.cells #[.int .u8 (c.toNat : Int)] 5 (0, 0))
  exact run_convert_bytes_back (P := Tryz.prog) _ 44 9 5 ⟨W.heap.size, 0, none⟩ 1 [c] Tryz.underlying44 Tryz.underlying5 Tryz.underlying9 (fun j hj => by
    have hj0 : j = 0 := by simpa using hj
    subst hj0; exact cell_heap hn 0)
def PaRel (l : List UInt8) (n : Nat) (w : World) (s op cl i : Value) (wr : World) : Prop := Below w.heap.size w wr ∧
  ((∃ (k : Nat) (ops : List UInt8), s = .string ⟨(symText (l.take k)).toArray⟩ ∧ op = .string ⟨ops.toArray⟩ ∧ cl = .bool true ∧ i = .int .i64 k ∧ k ≤ n ∧ ops.length ≤ k ∧ Hid (symRun (l.take k) = some ops)) ∨
   (∃ k : Nat, k ≤ n ∧ s = .string ⟨(symText (l.take k)).toArray⟩ ∧ op = .string ⟨#[]⟩ ∧ cl = .bool false ∧ i = .int .i64 ((n : Int) + 1) ∧ Hid (symRun (l.take k) = none)))
set_option maxHeartbeats 8000000 in
set_option maxRecDepth 100000 in
theorem law_partners (v : Value) (w : World) (hb : ∃ l, BSl w v l) (hG : Glob w) (mm : Int) (hm : w.cell? ⟨0, 0, none⟩ = some (.int .i64 mm)) : Calls Tryz.prog 13 #[v] w fun e w' => e = .returned (.bool true) ∧ Below w.heap.size w w' := by
  have HK := hid (fun (W : World) (hb : Below w.heap.size w W) => known_any W (hG.later hb))
  obtain ⟨l, p, cap, rfl, hc⟩ := hb
  by_cases hbig : 60 < l.length
  · clear hc
    go_enter Tryz.func13, Tryz.ntmps13
    go_wp2_with (go_at_call 15; refine (HK.out _ (Below.refl _ _)).mono ?_; rintro e w1 ⟨rfl, hb1⟩)
    go_ret
    exact ⟨rfl, hb1⟩
  have HRd := hid (fun (u : List UInt8) (W : World) (hu : u.length ≤ 60) (hb : Below w.heap.size w W) => (show Calls Tryz.prog 23 #[.string ⟨(symText u).toArray⟩] W (RdPost (symToks 0 u, 0, 0) W) from by
    have := lread_any ⟨(symText u).toArray⟩ W (by show (symText u).length ≤ _; rw [symText_length]; omega) (hG.later hb)
    rw [show (⟨(symText u).toArray⟩ : ByteArray).data.toList = symText u from rfl, sym_read hu] at this
    exact this))
  have HN := hid (fun (v : Value) (u : List UInt8) (W : World) (hv : TSl W v (symToks 0 u)) (hu : u.length ≤ 60) (hb : Below w.heap.size w W) => lnest_any v (symToks 0 u) W hv (by rw [symToks_length]; omega) (fun t ht => Nat.le_trans (spelt_text_len ((sym_rd 0 u).k.allSpelt _ (List.mem_map_of_mem ht))) (by omega)) (hG.later hb) mm (cell_later hb hm))
  have Hc := hid hc
  clear hc hG hm
  obtain ⟨n, hn⟩ : ∃ n, l.length = n := ⟨_, rfl⟩
  rw [hn] at hbig ⊢
  have Hn := hid hn
  clear hn
  go_enter Tryz.func13, Tryz.ntmps13
  go_wp2_with fail
  go_loopw [3, 4, 5, 6] (PaRel l n w) (fun _ _ _ i _ => n + 1 - (intOf i).toNat)
  case atStart => exact ⟨Below.refl _ _, .inl ⟨0, [], rfl, rfl, rfl, rfl, by omega, by simp, hid rfl⟩⟩
  case round =>
    obtain ⟨hb, ⟨k, ops, rfl, rfl, rfl, rfl, hk, hopk, hrun⟩ | ⟨k, hk, rfl, rfl, rfl, rfl, hrun⟩⟩ := hrel
    · by_cases hlt : k < n
      · have hkl : k < l.length := by rw [Hn.out]; exact hlt
        have hl0 : l ≠ [] := fun e => by rw [e] at hkl; simp at hkl
        obtain ⟨gv, ov, rfl, hcell⟩ := Hc.out.resolve_left hl0
        have c0 := cell_later hb (hcell k hkl)
        have htk := List.take_append_getElem hkl
        have hstx : symText (l.take (k + 1)) = symText (l.take k) ++ [symOf l[k], 32] := by rw [← htk, symText_snoc]
        have hsr : symRun (l.take (k + 1)) = symStep ops l[k] := by rw [← htk, symRun_snoc, hrun.out]; rfl
        have hsl : (symText (l.take k)).length = 2 * k := by rw [symText_length, List.length_take]; omega
        generalize symText (l.take k) = st at *
        have Hsr := hid hsr
        clear hcell hl0 htk hsr
        generalize l[k] = b at *
        have c0' : ∀ o : Obj, (wr.alloc o).cell? ⟨gv, ov + k, none⟩ = some (.int .u8 (b.toNat : Int)) := fun o => cell_later (below_alloc wr o) c0
        unfold symOf at hstx
        obtain ⟨m, em⟩ : ∃ m, b.toNat % 7 = m := ⟨_, rfl⟩
        have hm7 : m < 7 := by omega
        rw [em] at hstx
        have z7 : (b.toNat : Int).tmod 7 = (m : Int) := by rw [Int.tmod_eq_emod_of_nonneg (by omega)]; omega
        have hi1 := sym_index m hm7
        have y8 : IntKind.i64.wrap (m : Int) = (m : Int) := IntWalk.i64_in _ ⟨by omega, by omega⟩
        have hcv := fun W => conv_two (symM m) 32 32 rfl W
        have hss : (⟨st.toArray⟩ : ByteArray).size = 2 * k := hsl
        have hst2 : (⟨st.toArray⟩ : ByteArray) ++ ⟨#[symM m, 32]⟩ = ⟨(symText (l.take (k + 1))).toArray⟩ := by rw [hstx]; apply ByteArray.ext; simp
        have hstep : symStep ops b = if m = 6 then some ops else if m % 2 = 0 then some (ops ++ [symM (m + 1)]) else match ops.getLast? with
          | none => none
          | some x => if x = symM m then some ops.dropLast else none := by unfold symStep symOf; rw [em]; rfl
        have Hstep := hid (Hsr.out.trans hstep)
        have Hst2 := hid hst2
        have hz : ¬ (9223372036854775807 < (⟨st.toArray⟩ : ByteArray).size + 2) := by omega
        have hz' : ¬ (9223372036854775807 < st.length + 2) := by omega
        have hz'' : ¬ (9223372036854775807 < st.length + 1 + 1) := by omega
        have hbx : ∀ o : Obj, Below w.heap.size w (wr.alloc o) := fun o => bl_alloc hb o
        clear hstx em hstep Hsr hst2 hss
        by_cases h6 : m = 6
        · have hn2 : Hid (symRun (l.take (k + 1)) = some ops) := hid (by rw [Hstep.out, if_pos h6])
          have z1 : ((m : Int) == 6) = true := by rw [beq_iff_eq]; omega
          generalize symM m = c at *
          clear h6
          go_wp2_with fail
          rw [Hst2.out]
          go_roundw
          case rel => exact ⟨hbx _, .inl ⟨k + 1, ops, rfl, rfl, rfl, by go_num, by omega, by omega, hn2⟩⟩
          case measure => simp [intOf]; omega
        · have z1 : ((m : Int) == 6) = false := by rw [beq_eq_false_iff_ne]; omega
          by_cases h2 : m % 2 = 0
          · have hn2 : Hid (symRun (l.take (k + 1)) = some (ops ++ [symM (m + 1)])) := hid (by rw [Hstep.out, if_neg h6, if_pos h2])
            have zt : (m : Int).tmod 2 = 0 := by rw [Int.tmod_eq_emod_of_nonneg (by omega)]; omega
            obtain ⟨m1, hm1⟩ : ∃ x, m + 1 = x := ⟨_, rfl⟩
            have y9 : IntKind.i64.wrap ((m : Int) + 1) = (m1 : Int) := by rw [IntWalk.i64_in _ ⟨by omega, by omega⟩]; omega
            have hi2 := sym_index2 m1 (by omega)
            rw [hm1] at hn2
            have hcv1 := fun W => conv_sgl (symM m1) W
            have hop2 : (⟨ops.toArray⟩ : ByteArray) ++ ⟨#[symM m1]⟩ = ⟨(ops ++ [symM m1]).toArray⟩ := by apply ByteArray.ext; simp
            have hzo : ¬ (9223372036854775807 < ops.length + 1) := by omega
            have hbx2 : ∀ o o' : Obj, Below w.heap.size w ((wr.alloc o).alloc o') := fun o o' => bl_alloc (bl_alloc hb o) o'
            have hsz2 : ∀ o : Obj, (wr.alloc o).heap.size = wr.heap.size + 1 := fun o => by simp
            have Hop2 := hid hop2
            generalize symM m = c at *
            generalize symM m1 = d at *
            have hcv1' : ∀ o : Obj, (Go.convert 44 9 (.slice (some ⟨wr.heap.size + 1, 0, none⟩) 1 1)).run Tryz.prog ((wr.alloc o).alloc (.cells #[.int .u8 (d.toNat : Int)] 5 (0, 0))) = .ok (.string ⟨#[d]⟩) ((wr.alloc o).alloc (.cells #[.int .u8 (d.toNat : Int)] 5 (0, 0))) := fun o => by
              have := hcv1 (wr.alloc o)
              rw [hsz2] at this; exact this
            clear h6 h2 hop2 hm1
            go_wp2_with fail
            rw [Hst2.out]
            rw [Hop2.out]
            go_roundw
            case rel => exact ⟨hbx2 _ _, .inl ⟨k + 1, ops ++ [d], rfl, rfl, rfl, by go_num, by omega, by simp; omega, hn2⟩⟩
            case measure => simp [intOf]; omega
          · have zt : (m : Int).tmod 2 = 1 := by rw [Int.tmod_eq_emod_of_nonneg (by omega)]; omega
            rw [if_neg h6, if_neg h2] at Hstep
            cases hlast : ops.getLast? with
            | none =>
              have hop0 : ops = [] := List.getLast?_eq_none_iff.1 hlast
              subst hop0
              have hn2 : Hid (symRun (l.take (k + 1)) = none) := hid (by rw [Hstep.out]; rfl)
              generalize symM m = c at *
              clear h6 h2 hlast
              go_wp2_with fail
              try rw [Hst2.out]
              go_roundw
              case rel => exact ⟨hbx _, .inr ⟨k + 1, by omega, rfl, rfl, rfl, rfl, hn2⟩⟩
              case measure => simp [intOf]; omega
            | some x =>
              obtain ⟨ops', hops⟩ : ∃ ops', ops = ops' ++ [x] := ⟨ops.dropLast, by
                have hne : ops ≠ [] := fun e => by subst e; cases hlast
                rw [List.getLast?_eq_some_getLast hne] at hlast
                cases hlast
                exact (List.dropLast_concat_getLast hne).symm⟩
              subst hops
              rw [hlast] at Hstep
              simp only [List.dropLast_concat] at Hstep
              obtain ⟨j, hj⟩ : ∃ j, ops'.length = j := ⟨_, rfl⟩
              have hsz : (⟨(ops' ++ [x]).toArray⟩ : ByteArray).size = j + 1 := by show (ops' ++ [x]).length = j + 1; simp [hj]
              have hjlt : j < (⟨(ops' ++ [x]).toArray⟩ : ByteArray).size := by omega
              have hget : (((⟨(ops' ++ [x]).toArray⟩ : ByteArray)[j]'hjlt).toNat : Int) = (x.toNat : Int) := by
                have := bget ⟨(ops' ++ [x]).toArray⟩ j hjlt
                rw [← this]
                simp [List.getD, ← hj]
              have hext : (⟨(ops' ++ [x]).toArray⟩ : ByteArray).extract 0 j = ⟨ops'.toArray⟩ := by
                apply ByteArray.ext
                rw [← Array.toList_inj, Go.Lib.extract_data]
                simp [← hj]
              have hne : (⟨(ops' ++ [x]).toArray⟩ : ByteArray).toList.isEmpty = false := by
                rw [ByteArray.toList_eq]
                simp
              have hopk2 : j + 1 ≤ k := by simpa [hj] using hopk
              have Hj := hid hj
              clear hopk hlast hj
              generalize (⟨(ops' ++ [x]).toArray⟩ : ByteArray) = oB at *
              have y9 : IntKind.i64.wrap (((j + 1 : Nat) : Int) - 1) = (j : Int) := by rw [IntWalk.i64_in _ ⟨by omega, by omega⟩]; omega
              have y9' : IntKind.i64.wrap ((j : Int) + 1 - 1) = (j : Int) := by rw [IntWalk.i64_in _ ⟨by omega, by omega⟩]; omega
              have hjle : j ≤ oB.size := by omega
              by_cases hxc : x = symM m
              · have hn2 : Hid (symRun (l.take (k + 1)) = some ops') := hid (by rw [Hstep.out, if_pos hxc])
                have zc : ((x.toNat : Int) != ((symM m).toNat : Int)) = false := by rw [hxc]; simp
                generalize symM m = c at *
                clear h6 h2 hxc
                go_wp2_with fail
                try rw [Hst2.out]
                go_roundw
                case rel => exact ⟨hbx _, .inl ⟨k + 1, ops', rfl, rfl, rfl, by go_num, by omega, by rw [Hj.out]; omega, hn2⟩⟩
                case measure => simp [intOf]; omega
              · have hn2 : Hid (symRun (l.take (k + 1)) = none) := hid (by rw [Hstep.out, if_neg hxc])
                have zc : ((x.toNat : Int) != ((symM m).toNat : Int)) = true := by
                  rw [bne_iff_ne]
                  intro e
                  exact hxc (UInt8.toNat_inj.1 (by omega))
                generalize symM m = c at *
                clear h6 h2 hxc
                go_wp2_with fail
                try rw [Hst2.out]
                go_roundw
                case rel => exact ⟨hbx _, .inr ⟨k + 1, by omega, rfl, rfl, rfl, rfl, hn2⟩⟩
                case measure => simp [intOf]; omega
      · have hkn : k = n := by omega
        have htk : l.take k = l := List.take_of_length_le (by rw [Hn.out]; omega)
        rw [htk] at hrun ⊢
        have hll : l.length ≤ 60 := by rw [Hn.out]; omega
        cases ops with
        | nil =>
          obtain ⟨out, hNo, hP⟩ := partners_ok hll hrun.out
          have hlen := hP.len
          have hSl : (symToks 0 l).length = n := by rw [symToks_length, Hn.out]
          rw [hSl] at hlen
          have HP := hid hP
          clear hP
          go_wp2_with fail
          refine (HRd.out l wr hll hb).mono ?_
          rintro e2 w2 ⟨v2, rfl, ht2, hb2⟩
          have hb3 := below_then hb hb2
          obtain ⟨p2, c2, hv2⟩ := ht2.form
          have hOw := hid (lown_any v2 _ w2 ht2.osc.o (by rw [hSl]; omega) ht2.osc.nil)
          have HT2 := hid ht2.sl
          clear ht2
          rw [hSl] at hv2
          subst hv2
          go_wp2_with fail
          refine hOw.out.mono ?_
          rintro e3 w3 ⟨v3, rfl, ht3, hb4⟩
          have hb5 := below_then hb3 hb4
          have hN := hid (HN.out v3 l w3 ht3.sl hll hb5)
          rw [hNo] at hN
          clear ht3
          go_wp2_with fail
          refine hN.out.mono ?_
          rintro e4 w4 ⟨⟨_, g4, rfl, hg4⟩ | ⟨h, _⟩, hb6⟩
          · simp only at hg4
            have hb7 := below_then hb5 hb6
            have hb24 := below_then hb4 hb6
            rw [hlen]
            have Hg4 := hid hg4
            have Hlen := hid hlen
            have HSl := hid hSl
            clear hg4 hlen hSl
            go_wp2_with fail
            go_loopw [14] (fun i wr => ∃ k : Nat, i = .int .i64 k ∧ k ≤ n ∧ Below w4.heap.size w4 wr) (fun i _ => n - (intOf i).toNat)
            case atStart => exact ⟨0, rfl, by omega, Below.refl _ _⟩
            case round =>
              obtain ⟨i, rfl, hin, hbr⟩ := hrel
              by_cases hlt : i < n
              · have hil : i < (symToks 0 l).length := by rw [HSl.out]; exact hlt
                have hL0 : symToks 0 l ≠ [] := fun e => by rw [e] at hil; simp at hil
                obtain ⟨p3, c3, hv3, hq⟩ := HT2.out
                simp only [Value.slice.injEq] at hv3
                obtain ⟨rfl, hxx, rfl⟩ := hv3
                clear hxx
                obtain ⟨gt, rfl, q⟩ := hq.resolve_left hL0
                have hb2r := below_then hb24 hbr
                have hcell : ∀ (j : Nat) (t : Tok), (symToks 0 l)[j]? = some t → wr.cell? ⟨gt, j * 3, none⟩ = some (.int .u8 t.kind) ∧ wr.cell? ⟨gt, j * 3 + 1, none⟩ = some (.string ⟨t.text.toArray⟩) := fun j t h => by
                  obtain ⟨hj, rfl⟩ := List.getElem?_eq_some_iff.1 h
                  obtain ⟨i0, i1, _⟩ := q j hj
                  exact ⟨cell_later hb2r i0, cell_later hb2r i1⟩
                have hocell : ∀ (j : Nat) (z : Int), out[j]? = some z → wr.cell? ⟨g4, j, none⟩ = some (.int .i64 z) := fun j z h => by
                  rw [cell_heap (heap_later hbr Hg4.out) j, List.getElem?_toArray, ints, List.getElem?_map, h]; rfl
                have hxi : (symToks 0 l)[i]? = some (symToks 0 l)[i] := List.getElem?_eq_getElem hil
                obtain ⟨c0, c1⟩ := hcell i _ hxi
                have hnon := HP.out.non i _ hxi
                have hpar := fun h6 => HP.out.lohi hxi h6
                have Hcell := hid hcell
                have Hocell := hid hocell
                clear hcell hocell hL0 hq q hxi
                generalize (symToks 0 l)[i] = x at *
                obtain ⟨k1, t1, a1⟩ := x
                simp only at c0 c1 hnon hpar
                by_cases hk6 : k1 = 6
                · obtain ⟨p, lo, hi, tk, uk, hp1, hp2, hp3, hmn, hmx, hlh, hhn, hq1, hq2, hpt, hnest⟩ := hpar hk6
                  rw [HSl.out] at hp2 hhn
                  have z1 : ((k1 : Int) != 6) = false := by rw [hk6]; rfl
                  have d1 := (Hcell.out lo _ hq1).2
                  have d2 := (Hcell.out hi _ hq2).2
                  obtain ⟨tl, htl⟩ : ∃ x, tk.text = x := ⟨_, rfl⟩
                  obtain ⟨th, hth⟩ : ∃ x, uk.text = x := ⟨_, rfl⟩
                  rw [htl] at d1 hpt
                  rw [hth] at d2 hpt
                  have hnest := hid hnest
                  clear htl hth hq1 hq2
                  have o1 := Hocell.out i _ hp1
                  have o2 := Hocell.out p _ hp3
                  have u1 : decide ((p : Int) < 0) = false := by rw [decide_eq_false_iff_not]; omega
                  have u2 : decide ((n : Int) ≤ (p : Int)) = false := by rw [decide_eq_false_iff_not]; omega
                  have u3 : decide (n ≤ p) = false := by rw [decide_eq_false_iff_not]; omega
                  have hlon : lo < n := by omega
                  have y1 : IntKind.i64.wrap ((lo : Int) + 1) = ((lo + 1 : Nat) : Int) := by rw [IntWalk.i64_in _ ⟨by omega, by omega⟩]; omega
                  have Hmn := hid hmn
                  have Hmx := hid hmx
                  clear hp1 hp3 hpar hnon hk6 c1
                  rcases hpt with ⟨rfl, rfl⟩ | ⟨rfl, rfl⟩ | ⟨rfl, rfl⟩
                  · have happ : (⟨#[40]⟩ : ByteArray) ++ ⟨#[41]⟩ = ⟨#[40, 41]⟩ := rfl
                    as_aux_lemma =>
                      go_wp2_with fail
                      dsimp only [List.append]
                      go_big_quiet (fail)
                      have hbz := bl_drewN hbr nq
                      go_wp2_with fail
                      go_loopw [16] (fun q wr => ∃ k : Nat, q = .int .i64 k ∧ lo < k ∧ k ≤ hi ∧ Below w4.heap.size w4 wr) (fun q _ => hi - (intOf q).toNat)
                      case atStart => exact ⟨lo + 1, rfl, by omega, by omega, hbz⟩
                      case round =>
                        obtain ⟨k, rfl, hk1, hk2, hbk⟩ := hrel
                        by_cases hkh : k < hi
                        · obtain ⟨z, hz⟩ : ∃ z, out[k]? = some z := ⟨_, List.getElem?_eq_getElem (by rw [Hlen.out]; omega)⟩
                          have hz2 := hnest.out k z hk1 hkh hz
                          have o3 : _ = _ := cell_heap (heap_later hbk Hg4.out) k
                          simp only [List.getElem?_toArray, ints, List.getElem?_map, hz, Option.map_some] at o3
                          have hkn : k < n := by omega
                          clear hz
                          rcases hz2 with rfl | ⟨r, rfl, hr1, hr2⟩
                          · go_wp2_with fail
                            go_roundw
                            case rel => exact ⟨k + 1, by go_num, by omega, by omega, hbk⟩
                            case measure => simp [intOf]; omega
                          · have v1 : decide ((0 : Int) ≤ (r : Int)) = true := by rw [decide_eq_true_eq]; omega
                            have v2 : decide ((r : Int) < (lo : Int)) = false := by rw [decide_eq_false_iff_not]; omega
                            have v3 : decide (r < lo) = false := by rw [decide_eq_false_iff_not]; omega
                            have v4 : decide ((hi : Int) < (r : Int)) = false := by rw [decide_eq_false_iff_not]; omega
                            have v5 : decide (hi < r) = false := by rw [decide_eq_false_iff_not]; omega
                            go_wp2_with fail
                            go_roundw
                            case rel => exact ⟨k + 1, by go_num, by omega, by omega, hbk⟩
                            case measure => simp [intOf]; omega
                        · have hkh2 : k = hi := by omega
                          go_wp2_with fail
                          go_roundw
                          case rel => exact ⟨i + 1, by go_num, by omega, hbk⟩
                          case measure => simp [intOf]; omega
                  · have happ : (⟨#[91]⟩ : ByteArray) ++ ⟨#[93]⟩ = ⟨#[91, 93]⟩ := rfl
                    as_aux_lemma =>
                      go_wp2_with fail
                      dsimp only [List.append]
                      go_big_quiet (fail)
                      have hbz := bl_drewN hbr nq
                      go_wp2_with fail
                      go_loopw [16] (fun q wr => ∃ k : Nat, q = .int .i64 k ∧ lo < k ∧ k ≤ hi ∧ Below w4.heap.size w4 wr) (fun q _ => hi - (intOf q).toNat)
                      case atStart => exact ⟨lo + 1, rfl, by omega, by omega, hbz⟩
                      case round =>
                        obtain ⟨k, rfl, hk1, hk2, hbk⟩ := hrel
                        by_cases hkh : k < hi
                        · obtain ⟨z, hz⟩ : ∃ z, out[k]? = some z := ⟨_, List.getElem?_eq_getElem (by rw [Hlen.out]; omega)⟩
                          have hz2 := hnest.out k z hk1 hkh hz
                          have o3 : _ = _ := cell_heap (heap_later hbk Hg4.out) k
                          simp only [List.getElem?_toArray, ints, List.getElem?_map, hz, Option.map_some] at o3
                          have hkn : k < n := by omega
                          clear hz
                          rcases hz2 with rfl | ⟨r, rfl, hr1, hr2⟩
                          · go_wp2_with fail
                            go_roundw
                            case rel => exact ⟨k + 1, by go_num, by omega, by omega, hbk⟩
                            case measure => simp [intOf]; omega
                          · have v1 : decide ((0 : Int) ≤ (r : Int)) = true := by rw [decide_eq_true_eq]; omega
                            have v2 : decide ((r : Int) < (lo : Int)) = false := by rw [decide_eq_false_iff_not]; omega
                            have v3 : decide (r < lo) = false := by rw [decide_eq_false_iff_not]; omega
                            have v4 : decide ((hi : Int) < (r : Int)) = false := by rw [decide_eq_false_iff_not]; omega
                            have v5 : decide (hi < r) = false := by rw [decide_eq_false_iff_not]; omega
                            go_wp2_with fail
                            go_roundw
                            case rel => exact ⟨k + 1, by go_num, by omega, by omega, hbk⟩
                            case measure => simp [intOf]; omega
                        · have hkh2 : k = hi := by omega
                          go_wp2_with fail
                          go_roundw
                          case rel => exact ⟨i + 1, by go_num, by omega, hbk⟩
                          case measure => simp [intOf]; omega
                  · have happ : (⟨#[123]⟩ : ByteArray) ++ ⟨#[125]⟩ = ⟨#[123, 125]⟩ := rfl
                    as_aux_lemma =>
                      go_wp2_with fail
                      dsimp only [List.append]
                      go_big_quiet (fail)
                      have hbz := bl_drewN hbr nq
                      go_wp2_with fail
                      go_loopw [16] (fun q wr => ∃ k : Nat, q = .int .i64 k ∧ lo < k ∧ k ≤ hi ∧ Below w4.heap.size w4 wr) (fun q _ => hi - (intOf q).toNat)
                      case atStart => exact ⟨lo + 1, rfl, by omega, by omega, hbz⟩
                      case round =>
                        obtain ⟨k, rfl, hk1, hk2, hbk⟩ := hrel
                        by_cases hkh : k < hi
                        · obtain ⟨z, hz⟩ : ∃ z, out[k]? = some z := ⟨_, List.getElem?_eq_getElem (by rw [Hlen.out]; omega)⟩
                          have hz2 := hnest.out k z hk1 hkh hz
                          have o3 : _ = _ := cell_heap (heap_later hbk Hg4.out) k
                          simp only [List.getElem?_toArray, ints, List.getElem?_map, hz, Option.map_some] at o3
                          have hkn : k < n := by omega
                          clear hz
                          rcases hz2 with rfl | ⟨r, rfl, hr1, hr2⟩
                          · go_wp2_with fail
                            go_roundw
                            case rel => exact ⟨k + 1, by go_num, by omega, by omega, hbk⟩
                            case measure => simp [intOf]; omega
                          · have v1 : decide ((0 : Int) ≤ (r : Int)) = true := by rw [decide_eq_true_eq]; omega
                            have v2 : decide ((r : Int) < (lo : Int)) = false := by rw [decide_eq_false_iff_not]; omega
                            have v3 : decide (r < lo) = false := by rw [decide_eq_false_iff_not]; omega
                            have v4 : decide ((hi : Int) < (r : Int)) = false := by rw [decide_eq_false_iff_not]; omega
                            have v5 : decide (hi < r) = false := by rw [decide_eq_false_iff_not]; omega
                            go_wp2_with fail
                            go_roundw
                            case rel => exact ⟨k + 1, by go_num, by omega, by omega, hbk⟩
                            case measure => simp [intOf]; omega
                        · have hkh2 : k = hi := by omega
                          go_wp2_with fail
                          go_roundw
                          case rel => exact ⟨i + 1, by go_num, by omega, hbk⟩
                          case measure => simp [intOf]; omega
                · have z1 : ((k1 : Int) != 6) = true := by rw [bne_iff_ne]; omega
                  have o1 := Hocell.out i _ (hnon hk6)
                  clear hnon hpar hk6
                  go_wp2_with fail
                  go_roundw
                  case rel => exact ⟨i + 1, by go_num, by omega, hbr⟩
                  case measure => simp [intOf]; omega
              · have hin2 : i = n := by omega
                have hb8 := below_then hb7 hbr
                go_wp2_with fail
                refine (HK.out _ hb8).mono ?_
                rintro e wk ⟨rfl, hbk⟩
                go_wp2_with fail
                go_ret
                exact ⟨rfl, below_then hb8 hbk⟩
          · exact absurd rfl h
        | cons o1 os1 =>
          have hne : (⟨(o1 :: os1).toArray⟩ : ByteArray).toList.isEmpty = false := by
            rw [ByteArray.toList_eq]
            simp
          have hNo := partners_no hll (by rw [hrun.out]; simp)
          generalize (⟨(o1 :: os1).toArray⟩ : ByteArray) = oB at *
          go_wp2_with fail
          refine (HRd.out (l) wr hll hb).mono ?_
          rintro e2 w2 ⟨v2, rfl, ht2, hb2⟩
          have hb3 := below_then hb hb2
          obtain ⟨p2, c2, hv2⟩ := ht2.form
          have hOw := hid (lown_any v2 _ w2 ht2.osc.o (by rw [symToks_length]; omega) ht2.osc.nil)
          clear ht2
          subst hv2
          go_wp2_with fail
          refine hOw.out.mono ?_
          rintro e3 w3 ⟨v3, rfl, ht3, hb4⟩
          have hb5 := below_then hb3 hb4
          have hN := hid (HN.out v3 (l) w3 ht3.sl hll hb5)
          rw [hNo] at hN
          clear ht3
          go_wp2_with fail
          refine hN.out.mono ?_
          rintro e4 w4 ⟨⟨h, _⟩ | ⟨_, _, rfl⟩, hb6⟩
          · cases h
          · have hb7 := below_then hb5 hb6
            go_wp2_with fail
            refine (HK.out _ hb7).mono ?_
            rintro e wk ⟨rfl, hbk⟩
            go_wp2_with fail
            go_ret
            exact ⟨rfl, below_then hb7 hbk⟩
    · have hll : (l.take k).length ≤ 60 := by rw [List.length_take]; omega
      have hNo := partners_no hll (by rw [hrun.out]; simp)
      go_wp2_with fail
      refine (HRd.out ((l.take k)) wr hll hb).mono ?_
      rintro e2 w2 ⟨v2, rfl, ht2, hb2⟩
      have hb3 := below_then hb hb2
      obtain ⟨p2, c2, hv2⟩ := ht2.form
      have hOw := hid (lown_any v2 _ w2 ht2.osc.o (by rw [symToks_length]; omega) ht2.osc.nil)
      clear ht2
      subst hv2
      go_wp2_with fail
      refine hOw.out.mono ?_
      rintro e3 w3 ⟨v3, rfl, ht3, hb4⟩
      have hb5 := below_then hb3 hb4
      have hN := hid (HN.out v3 ((l.take k)) w3 ht3.sl hll hb5)
      rw [hNo] at hN
      clear ht3
      go_wp2_with fail
      refine hN.out.mono ?_
      rintro e4 w4 ⟨⟨h, _⟩ | ⟨_, _, rfl⟩, hb6⟩
      · cases h
      · have hb7 := below_then hb5 hb6
        go_wp2_with fail
        refine (HK.out _ hb7).mono ?_
        rintro e wk ⟨rfl, hbk⟩
        go_wp2_with fail
        go_ret
        exact ⟨rfl, below_then hb7 hbk⟩
end Go.Proofs.YthknlifmkjdoeaaGreatDoor
