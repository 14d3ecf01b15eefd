/-
  THE REFERENCE'S Nest.
-/
import Derived.Test.YthknlifmkjdoeaaGreatDoorTxSmall
import Derived.Test.YthknlifmkjdoeaaGreatDoorRTextW
namespace Go.Proofs.YthknlifmkjdoeaaGreatDoor
open Go.RowKit Lode Go.Shelf
attribute [local go_sem ↓] Go.wp_at_zero Go.wp_at_succ
def RnPost (r : List Int × Nat) (w : World) (e : Ending) (w' : World) : Prop := (∃ v, ISl w' v r.1 ∧ e = .returned (.tuple #[v, .int .i64 r.2])) ∧ Below w.heap.size w w'
theorem isl_nil (w : World) : ISl w (.slice none 0 0) [] := ⟨none, 0, rfl, .inl rfl⟩
def RnRel (l : List Tok) (n : Nat) (w : World) (ov pv wv i : Value) (wr : World) : Prop := ∃ (k g1 cap1 : Nat) (xs : List Int), ov = .slice (some ⟨g1, 0, none⟩) k cap1 ∧ i = .int .i64 k ∧ k ≤ n ∧ Hid (wr.ownsRow w.heap.size 3 1 (.slice (some ⟨g1, 0, none⟩) k cap1) k (ints xs)) ∧ Hid (∀ x ∈ (l.take k).map kt, spelt x) ∧ Below w.heap.size w wr ∧
  ((∃ (out : List Int) (op : List Nat) (g2 cap2 : Nat), wv = .bool false ∧ pv = .slice (some ⟨g2, 0, none⟩) op.length cap2 ∧ Hid (nestAt l k = some (out, op)) ∧ Hid (xs = out.take k) ∧ Hid (wr.ownsRow w.heap.size 3 1 (.slice (some ⟨g2, 0, none⟩) op.length cap2) op.length (nats op)) ∧ g1 ≠ g2) ∨
   (wv = .bool true ∧ Hid (nestAt l k = none)))
set_option maxHeartbeats 8000000 in
set_option maxRecDepth 100000 in
theorem rnest_any (v : Value) (l : List Tok) (w : World) (hv : OSl w v l) (hl : l.length ≤ 1000000) (ht : ∀ t ∈ l, t.text.length ≤ 100000000) :
    Calls Tryz.prog 43 #[v] w (RnPost (nest l) w) := by
  obtain ⟨p0, cp0, rfl, hcells⟩ := hv
  generalize hr : nest l = r
  replace hr := hr.symm
  by_cases hbig : 1200 < l.length
  · have hr2 : r = ([], 5) := by
      have h5 : lspellAll l = 5 := by unfold lspellAll; rw [if_pos hbig]
      rw [hr, nest, h5]; rfl
    subst hr2
    clear hcells hr ht
    go_enter Tryz.func43, Tryz.ntmps43
    go_wp2_with fail
    go_ret2
    exact ⟨⟨_, isl_nil _, rfl⟩, Below.refl _ _⟩
  have HSp := hid (fun (k : Nat) (t : List UInt8) (a : Int) (W : World) (h : t.length ≤ 100000000) => rspell_s' k t a W (by omega))
  have HC := hid hcells
  have HT := hid ht
  have Hr := hid hr
  obtain ⟨n, hn⟩ : ∃ n, l.length = n := ⟨_, rfl⟩
  rw [hn] at hbig ⊢
  have Hn := hid hn
  clear hcells ht hr hn hl
  go_enter Tryz.func43, Tryz.ntmps43
  go_wp2_with fail
  have hba := below_alloc w (.cells #[] 3 (0, 0))
  have hbb := below_alloc (w.alloc (.cells #[] 3 (0, 0))) (.cells #[] 3 (0, 0))
  have hsz : (w.alloc (.cells #[] 3 (0, 0))).heap.size = w.heap.size + 1 := by simp
  have hr1 := row_below (World.ownsRow_lit (base := w.heap.size) (e := 3) (size := 1) w #[] 0 (Nat.le_refl _) (by decide) rfl) hbb
  have hr2 := World.ownsRow_lit (base := w.heap.size) (e := 3) (size := 1) (w.alloc (.cells #[] 3 (0, 0))) #[] 0 (by rw [hsz]; omega) (by decide) rfl
  rw [hsz] at hr2
  have hb0 := below_then hba hbb
  go_loopw [4, 5, 6, 7] (RnRel l n w) (fun _ _ _ i _ => n - (intOf i).toNat)
  case atStart =>
    refine ⟨0, w.heap.size, 0, [], rfl, rfl, by omega, hid hr1, hid (by simp), hb0, .inl ⟨List.replicate l.length (-1), [], w.heap.size + 1, 0, rfl, rfl, hid rfl, hid rfl, hid hr2, by omega⟩⟩
  case round =>
    obtain ⟨k, g1, cap1, xs, rfl, rfl, hk, hrow, hsp, hb, hst⟩ := hrel
    by_cases hlt : k < n
    · have hkl : k < l.length := by rw [Hn.out]; exact hlt
      have hl0 : l ≠ [] := fun e => by rw [e] at hkl; simp at hkl
      obtain ⟨g, off, rfl, q⟩ := HC.out.resolve_left hl0
      obtain ⟨i0, i1, i2⟩ := q k hkl
      have c0 := cell_later hb i0
      have c1 := cell_later hb i1
      have c2 := cell_later hb i2
      have htk := List.take_append_getElem hkl
      have hlen := HT.out l[k] (List.getElem_mem _)
      have hmem : l[k] ∈ l := List.getElem_mem _
      have hspS : spelt (kt l[k]) → ∀ x ∈ (l.take (k + 1)).map kt, spelt x := fun h x hx => by
        rw [← htk, List.map_append, List.mem_append] at hx
        rcases hx with hx | hx
        · exact hsp.out x hx
        · simp only [List.map_cons, List.map_nil, List.mem_singleton] at hx
          rw [hx]; exact h
      clear hl0 htk
      have HQ := hid q
      have Hxk : Hid (l[k]? = some l[k]) := hid (List.getElem?_eq_getElem hkl)
      have hns : ∀ out op, nestAt l k = some (out, op) → nestAt l (k + 1) = nestStep l k l[k] out op := fun out op h => nestAt_succ h hkl
      generalize l[k] = x at *
      obtain ⟨k1, t1, a1⟩ := x
      simp only [kt] at c0 c1 c2 i0 i1 i2 hlen hspS
      rcases rspell_cases (k1, t1) with ⟨hs, he⟩ | ⟨hs, T, he⟩
      · have hS := hid (fun (W : World) => HSp.out k1 t1 a1 W hlen)
        simp only at he
        rw [he] at hS
        have hspN := hid (hspS hs)
        have Hs6 : Hid (k1 = 6 → (lspell 6 t1).2 = 0) := hid (fun e => by subst e; exact hs)
        clear hspS he hs hmem
        generalize spl (k1, t1) = S at *
        rcases hst with ⟨out, op, g2, cap2, rfl, rfl, hnest, hxs, hop, hg⟩ | ⟨rfl, hnest⟩
        · have hI := nestAt_inv k out op (by omega) hnest.out
          have HI := hid hI
          have Hns := hid (hns out op hnest.out)
          have hopb : op.length ≤ 1200 := Nat.le_trans (sorted_len op l.length hI.sorted (fun o ho => (hI.lt o ho).2)) (by rw [Hn.out]; omega)
          have hfk := hI.fut k (Nat.le_refl _) hkl
          have hxs2 : Hid (xs ++ [-1] = out.take (k + 1)) := hid (by rw [hxs.out, List.take_add_one, hfk]; rfl)
          clear hI hns hfk q
          go_wp2_with fail
          refine (hS.out _).mono ?_
          rintro e1 w1 ⟨rfl, hb1⟩
          have hb2 := below_then hb hb1
          have hbn := below_alloc w1 (.cells #[.int .i64 (-1)] 3 (0, 0))
          have hb3 := below_then hb2 hbn
          have hnk := heap_new w1 (.cells #[.int .i64 (-1)] 3 (0, 0))
          have hrowA := row_below (row_below hrow.out hb1) hbn
          have hws := hb3.size
          have hk1200 : k ≤ 1000000 := by omega
          go_wp2_with (at_builtin; refine wpList_append_one rfl _ _ rfl rfl hrowA rfl (cell_heap hnk 0) rfl rfl hk1200 hws ?_)
          intro g' cap' w5 hrowB hgrow hg'
          have hb6 : Below w.heap.size w w5 := below_grown hb3 hrowA hgrow
          have c0 := cell_later hb6 i0
          have c1 := cell_later hb6 i1
          have hrow5 : Hid (w5.ownsRow w.heap.size 3 1 (.slice (some ⟨g', 0, none⟩) (k + 1) cap') (k + 1) (ints (xs ++ [-1]))) := hid (by simpa [ints] using hrowB)
          have hopB := hid (World.ownsRow.kept (row_below (row_below hop.out hb1) hbn) hgrow (.inr (by simp [Value.ownBlock]; exact fun e => hg e.symm)))
          have hgg : g' ≠ g2 := by
            have := (hop.out.lt g2 rfl).2
            have h1 := hb1.size
            rcases hg' with rfl | rfl
            · exact hg
            · simp; omega
          clear hrowA hrowB hnk hgrow hg' hS
          by_cases hk6 : k1 = 6
          · have z1 : ((k1 : Int) != 6) = false := by rw [hk6]; rfl
            have hst : nestStep l k ⟨k1, t1, a1⟩ out op = if closeOf t1 ≠ [] then some (out, op ++ [k]) else if closes t1 = true then (match op.getLast? with
                | none => none
                | some o => if (l[o]?.map fun u => closeOf u.text) = some t1 then some ((out.set k (o : Int)).set o (k : Int), op.dropLast) else none) else some (out, op) := by
              unfold nestStep
              rw [if_neg (by simp [hk6])]
              rfl
            have Hst := hid (Hns.out.trans hst)
            have hcs := closes_spelt (Hs6.out hk6)
            clear hst hk6
            by_cases hcl : closeOf t1 = []
            · have o1 : (t1 == [40]) = false := by rw [beq_eq_false_iff_ne]; intro e; subst e; exact absurd hcl (by decide)
              have o2 : (t1 == [91]) = false := by rw [beq_eq_false_iff_ne]; intro e; subst e; exact absurd hcl (by decide)
              have o3 : (t1 == [123]) = false := by rw [beq_eq_false_iff_ne]; intro e; subst e; exact absurd hcl (by decide)
              rw [if_neg (by simp [hcl])] at Hst
              cases hcc : closes t1 with
              | false =>
                have hn2 : Hid (nestAt l (k + 1) = some (out, op)) := hid (by rw [Hst.out, if_neg (by simp [hcc])])
                rw [hcc] at hcs
                replace hcs := hcs.symm
                simp only [Bool.or_eq_false_iff] at hcs
                obtain ⟨⟨p1, p2⟩, p3⟩ := hcs
                clear hcl hcc Hst
                go_wp2_with fail
                go_roundw
                case rel => exact ⟨k + 1, g', cap', xs ++ [-1], rfl, by go_num, by omega, hrow5, hspN, hb6, .inl ⟨out, op, g2, cap2, rfl, rfl, hn2, hxs2, hopB, hgg⟩⟩
                case measure => simp [intOf]; omega
              | true =>
                rw [if_pos hcc] at Hst
                rw [hcc] at hcs
                replace hcs := hcs.symm
                simp only [Bool.or_eq_true, beq_iff_eq] at hcs
                clear hcl hcc o1 o2 o3
                cases hop9 : op.getLast? with
                | none =>
                  rw [hop9] at Hst
                  have hop2 : op = [] := List.getLast?_eq_none_iff.1 hop9
                  have hn2 : Hid (nestAt l (k + 1) = none) := Hst
                  subst hop2
                  clear hop9
                  rcases hcs with (rfl | rfl) | rfl
                  · go_wp2_with fail
                    go_roundw
                    case rel => exact ⟨k + 1, g', cap', xs ++ [-1], rfl, by go_num, by omega, hrow5, hspN, hb6, .inr ⟨rfl, hn2⟩⟩
                    case measure => simp [intOf]; omega
                  · go_wp2_with fail
                    go_roundw
                    case rel => exact ⟨k + 1, g', cap', xs ++ [-1], rfl, by go_num, by omega, hrow5, hspN, hb6, .inr ⟨rfl, hn2⟩⟩
                    case measure => simp [intOf]; omega
                  · go_wp2_with fail
                    go_roundw
                    case rel => exact ⟨k + 1, g', cap', xs ++ [-1], rfl, by go_num, by omega, hrow5, hspN, hb6, .inr ⟨rfl, hn2⟩⟩
                    case measure => simp [intOf]; omega
                | some o =>
                  rw [hop9] at Hst
                  simp only at Hst
                  have hsplit := dropLast_getLast hop9
                  have hoin : o ∈ op := List.mem_of_getLast? hop9
                  obtain ⟨hok, hol⟩ := HI.out.lt o hoin
                  obtain ⟨op2, hop2⟩ : ∃ x, op.dropLast = x := ⟨_, rfl⟩
                  rw [hop2] at hsplit Hst
                  obtain ⟨m, hm⟩ : ∃ m, op2.length = m := ⟨_, rfl⟩
                  have hopl : op.length = m + 1 := by rw [hsplit, List.length_append, List.length_singleton, hm]
                  have hro : w5.cell? ⟨g2, m, none⟩ = some (.int .i64 (o : Int)) := by
                    have h1 := World.ownsRow.cellAt hopB.out m (by omega)
                    rw [h1, hsplit]
                    simp only [nats, List.map_append, List.map_cons, List.map_nil]
                    rw [List.getElem?_append_right (by simp; omega)]
                    simp [hm]
                  obtain ⟨j0, j1, j2⟩ := HQ.out o hol
                  have d1 := cell_later hb6 j1
                  have hxo : l[o]? = some l[o] := List.getElem?_eq_getElem hol
                  obtain ⟨hoo, t9, ht9, _, hcl9⟩ := HI.out.opn o hoin
                  rw [hxo] at ht9 Hst
                  cases ht9
                  generalize hlo : l[o] = y at *
                  obtain ⟨k2, t2, a2⟩ := y
                  simp only at d1 hcl9
                  simp only [Option.map_some, Option.some.injEq] at Hst
                  have hCl := hid (fun (W : World) => closing_any t2 W hcl9)
                  have hon : o < n := by rw [← Hn.out]; exact hol
                  have y1 : IntKind.i64.wrap (((m + 1 : Nat) : Int) - 1) = (m : Int) := by rw [IntWalk.i64_in _ ⟨by omega, by omega⟩]; omega
                  have y1' : IntKind.i64.wrap ((m : Int) + 1 - 1) = (m : Int) := by rw [IntWalk.i64_in _ ⟨by omega, by omega⟩]; omega
                  have y2 : decide ((m : Int) < 0) = false := by rw [decide_eq_false_iff_not]; omega
                  have hmn : m < m + 1 := by omega
                  have hcap : m ≤ cap2 := by
                    obtain ⟨_, ⟨h, _⟩ | ⟨g', cap', cur, h, _, _, hnc, _⟩⟩ := id hopB.out
                    · simp at h
                    · simp only [Value.slice.injEq, Option.some.injEq, Addr.mk.injEq, and_true, true_and] at h
                      obtain ⟨_, rfl⟩ := h
                      omega
                  have Hsp2 := hid hsplit
                  have Hoo := hid hoo
                  clear j0 j1 j2 hxo hlo hsplit hop9 hop2 hoo hoin hcl9
                  rw [hopl]
                  by_cases hmt : closeOf t2 = t1
                  · have hn2 : Hid (nestAt l (k + 1) = some ((out.set k (o : Int)).set o (k : Int), op2)) := hid (by rw [Hst.out, if_pos hmt])
                    have hr1 : (closeOf t2 == t1) = true := by rw [beq_iff_eq]; exact hmt
                    have hr2 : (closeOf t2 != t1) = false := by rw [bne_eq_false_iff_eq]; exact hmt
                    have hgw : w.heap.size ≤ g' := (hrow5.out.lt g' rfl).1
                    have u0 := World.ownsRow.cellAt hrow5.out k (by omega)
                    have u1 := World.ownsRow.cellAt hrow5.out o (by omega)
                    have f0 := World.ownsRow.frozenAt hrow5.out k
                    have f1 := World.ownsRow.frozenAt hrow5.out o
                    have hxk9 : (xs ++ [-1])[k]? = some (-1) := by rw [hxs2.out, List.getElem?_take, if_pos (by omega)]; exact HI.out.fut k (Nat.le_refl _) hkl
                    have hxo9 : (xs ++ [-1])[o]? = some (-1) := by rw [hxs2.out, List.getElem?_take, if_pos (by omega)]; exact Hoo.out
                    simp only [ints, List.getElem?_map, hxk9, hxo9, Option.map_some] at u0 u1
                    obtain ⟨hs1, hs2⟩ := World.ownsRow.stored hrow5.out k (.int .i64 (o : Int))
                    obtain ⟨hs3, hs4⟩ := World.ownsRow.stored hs1 o (.int .i64 (k : Int))
                    have hop9 : Hid (((w5.setCell ⟨g', k, none⟩ (.int .i64 (o : Int))).setCell ⟨g', o, none⟩ (.int .i64 (k : Int))).ownsRow w.heap.size 3 1 (.slice (some ⟨g2, 0, none⟩) op2.length cap2) op2.length (nats op2)) := hid (by
                      have h1 := World.ownsRow.kept (World.ownsRow.kept hopB.out hs2 (.inr (by simp [Value.ownBlock]; exact fun e => hgg e.symm))) hs4 (.inr (by simp [Value.ownBlock]; exact fun e => hgg e.symm))
                      have h2 : op.length = op2.length + 1 := by rw [Hsp2.out]; simp
                      have h3 : nats op = nats op2 ++ [.int .i64 (o : Int)] := by rw [Hsp2.out]; simp [nats]
                      rw [h2, h3] at h1
                      exact ownsRow_pop h1)
                    have hrow9 : Hid (((w5.setCell ⟨g', k, none⟩ (.int .i64 (o : Int))).setCell ⟨g', o, none⟩ (.int .i64 (k : Int))).ownsRow w.heap.size 3 1 (.slice (some ⟨g', 0, none⟩) (k + 1) cap') (k + 1) (ints (((xs ++ [-1]).set k (o : Int)).set o (k : Int)))) := hid (by
                      simpa only [ints, List.map_set] using hs3)
                    have hbs := hid ((hb6.setCell (p := ⟨g', k, none⟩) hgw (.int .i64 (o : Int))).setCell (p := ⟨g', o, none⟩) hgw (.int .i64 (k : Int)))
                    have hxs9 : Hid (((xs ++ [-1]).set k (o : Int)).set o (k : Int) = ((out.set k (o : Int)).set o (k : Int)).take (k + 1)) := hid (by rw [hxs2.out, List.take_set, List.take_set])
                    have hm9 := hid hm
                    clear hmt Hst hs1 hs2 hs3 hs4 hxk9 hxo9 hm
                    rcases hcs with (rfl | rfl) | rfl
                    · go_wp2_with fail
                      refine (hCl.out _).mono ?_
                      rintro e5 w7 ⟨rfl, rfl⟩
                      go_wp2_with fail
                      go_region
                      clear hro f0 f1 u0 u1
                      generalize World.setCell _ ⟨g', o, none⟩ _ = W9 at *
                      have hcap2 : (m : Int) ≤ (cap2 : Int) := by omega
                      go_wp2_with fail
                      go_roundw
                      case rel => exact ⟨k + 1, g', cap', ((xs ++ [-1]).set k (o : Int)).set o (k : Int), rfl, by go_num, by omega, hid (World.ownsRow.drew hrow9.out), hspN, hbs.out.drew, .inl ⟨(out.set k (o : Int)).set o (k : Int), op2, g2, cap2, rfl, by rw [hm9.out], hn2, hxs9, hid (World.ownsRow.drew hop9.out), hgg⟩⟩
                      case measure => simp [intOf]; omega
                    · go_wp2_with fail
                      refine (hCl.out _).mono ?_
                      rintro e5 w7 ⟨rfl, rfl⟩
                      go_wp2_with fail
                      go_region
                      clear hro f0 f1 u0 u1
                      generalize World.setCell _ ⟨g', o, none⟩ _ = W9 at *
                      have hcap2 : (m : Int) ≤ (cap2 : Int) := by omega
                      go_wp2_with fail
                      go_roundw
                      case rel => exact ⟨k + 1, g', cap', ((xs ++ [-1]).set k (o : Int)).set o (k : Int), rfl, by go_num, by omega, hid (World.ownsRow.drew hrow9.out), hspN, hbs.out.drew, .inl ⟨(out.set k (o : Int)).set o (k : Int), op2, g2, cap2, rfl, by rw [hm9.out], hn2, hxs9, hid (World.ownsRow.drew hop9.out), hgg⟩⟩
                      case measure => simp [intOf]; omega
                    · go_wp2_with fail
                      refine (hCl.out _).mono ?_
                      rintro e5 w7 ⟨rfl, rfl⟩
                      go_wp2_with fail
                      go_region
                      clear hro f0 f1 u0 u1
                      generalize World.setCell _ ⟨g', o, none⟩ _ = W9 at *
                      have hcap2 : (m : Int) ≤ (cap2 : Int) := by omega
                      go_wp2_with fail
                      go_roundw
                      case rel => exact ⟨k + 1, g', cap', ((xs ++ [-1]).set k (o : Int)).set o (k : Int), rfl, by go_num, by omega, hid (World.ownsRow.drew hrow9.out), hspN, hbs.out.drew, .inl ⟨(out.set k (o : Int)).set o (k : Int), op2, g2, cap2, rfl, by rw [hm9.out], hn2, hxs9, hid (World.ownsRow.drew hop9.out), hgg⟩⟩
                      case measure => simp [intOf]; omega
                  · have hn2 : Hid (nestAt l (k + 1) = none) := hid (by rw [Hst.out, if_neg hmt])
                    have hr1 : (closeOf t2 == t1) = false := by rw [beq_eq_false_iff_ne]; exact hmt
                    have hr2 : (closeOf t2 != t1) = true := by rw [bne_iff_ne]; exact hmt
                    have hm9 := hid hm
                    clear hmt Hst hm
                    rcases hcs with (rfl | rfl) | rfl
                    · go_wp2_with fail
                      refine (hCl.out _).mono ?_
                      rintro e5 w7 ⟨rfl, rfl⟩
                      go_wp2_with fail
                      go_roundw
                      case rel => exact ⟨k + 1, g', cap', xs ++ [-1], rfl, by go_num, by omega, hrow5, hspN, hb6, .inr ⟨rfl, hn2⟩⟩
                      case measure => simp [intOf]; omega
                    · go_wp2_with fail
                      refine (hCl.out _).mono ?_
                      rintro e5 w7 ⟨rfl, rfl⟩
                      go_wp2_with fail
                      go_roundw
                      case rel => exact ⟨k + 1, g', cap', xs ++ [-1], rfl, by go_num, by omega, hrow5, hspN, hb6, .inr ⟨rfl, hn2⟩⟩
                      case measure => simp [intOf]; omega
                    · go_wp2_with fail
                      refine (hCl.out _).mono ?_
                      rintro e5 w7 ⟨rfl, rfl⟩
                      go_wp2_with fail
                      go_roundw
                      case rel => exact ⟨k + 1, g', cap', xs ++ [-1], rfl, by go_num, by omega, hrow5, hspN, hb6, .inr ⟨rfl, hn2⟩⟩
                      case measure => simp [intOf]; omega
            · have hn2 : Hid (nestAt l (k + 1) = some (out, op ++ [k])) := hid (by rw [Hst.out, if_pos hcl])
              have hcl3 : t1 = [40] ∨ t1 = [91] ∨ t1 = [123] := by
                unfold closeOf at hcl
                by_cases e1 : t1 = [40]
                · exact .inl e1
                · by_cases e2 : t1 = [91]
                  · exact .inr (.inl e2)
                  · by_cases e3 : t1 = [123]
                    · exact .inr (.inr e3)
                    · simp [e1, e2, e3] at hcl
              clear hcs
              rcases hcl3 with rfl | rfl | rfl
              · clear hcl Hst
                have hbn2 := below_alloc w5 (.cells #[.int .i64 (k : Int)] 3 (0, 0))
                have hb7 := below_then hb6 hbn2
                have hopC := row_below hopB.out hbn2
                have hnk2 := heap_new w5 (.cells #[.int .i64 (k : Int)] 3 (0, 0))
                have hws2 := hb7.size
                go_wp2_with (at_builtin; refine wpList_append_one rfl _ _ rfl rfl hopC rfl (cell_heap hnk2 0) rfl rfl (by omega) hws2 ?_)
                intro g3 cap3 w6 hopD hgrow2 hg3
                have hb8 : Below w.heap.size w w6 := below_grown hb7 hopC hgrow2
                have hrow6 := hid (World.ownsRow.kept (row_below hrow5.out hbn2) hgrow2 (.inr (by simp [Value.ownBlock]; exact hgg)))
                have hgg2 : g' ≠ g3 := by
                  have := (hrow5.out.lt g' rfl).2
                  rcases hg3 with rfl | rfl
                  · exact hgg
                  · simp; omega
                have hopE : Hid (w6.ownsRow w.heap.size 3 1 (.slice (some ⟨g3, 0, none⟩) (op ++ [k]).length cap3) (op ++ [k]).length (nats (op ++ [k]))) := hid (by
                  rw [List.length_append, List.length_singleton]
                  simp only [nats, List.map_append, List.map_cons, List.map_nil]
                  exact hopD)
                clear hopC hopD hnk2 hgrow2 hg3
                go_wp2_with fail
                go_roundw
                case rel => exact ⟨k + 1, g', cap', xs ++ [-1], rfl, by go_num, by omega, hrow6, hspN, hb8, .inl ⟨out, op ++ [k], g3, cap3, rfl, by simp, hn2, hxs2, hopE, hgg2⟩⟩
                case measure => simp [intOf]; omega
              · clear hcl Hst
                have hbn2 := below_alloc w5 (.cells #[.int .i64 (k : Int)] 3 (0, 0))
                have hb7 := below_then hb6 hbn2
                have hopC := row_below hopB.out hbn2
                have hnk2 := heap_new w5 (.cells #[.int .i64 (k : Int)] 3 (0, 0))
                have hws2 := hb7.size
                go_wp2_with (at_builtin; refine wpList_append_one rfl _ _ rfl rfl hopC rfl (cell_heap hnk2 0) rfl rfl (by omega) hws2 ?_)
                intro g3 cap3 w6 hopD hgrow2 hg3
                have hb8 : Below w.heap.size w w6 := below_grown hb7 hopC hgrow2
                have hrow6 := hid (World.ownsRow.kept (row_below hrow5.out hbn2) hgrow2 (.inr (by simp [Value.ownBlock]; exact hgg)))
                have hgg2 : g' ≠ g3 := by
                  have := (hrow5.out.lt g' rfl).2
                  rcases hg3 with rfl | rfl
                  · exact hgg
                  · simp; omega
                have hopE : Hid (w6.ownsRow w.heap.size 3 1 (.slice (some ⟨g3, 0, none⟩) (op ++ [k]).length cap3) (op ++ [k]).length (nats (op ++ [k]))) := hid (by
                  rw [List.length_append, List.length_singleton]
                  simp only [nats, List.map_append, List.map_cons, List.map_nil]
                  exact hopD)
                clear hopC hopD hnk2 hgrow2 hg3
                go_wp2_with fail
                go_roundw
                case rel => exact ⟨k + 1, g', cap', xs ++ [-1], rfl, by go_num, by omega, hrow6, hspN, hb8, .inl ⟨out, op ++ [k], g3, cap3, rfl, by simp, hn2, hxs2, hopE, hgg2⟩⟩
                case measure => simp [intOf]; omega
              · clear hcl Hst
                have hbn2 := below_alloc w5 (.cells #[.int .i64 (k : Int)] 3 (0, 0))
                have hb7 := below_then hb6 hbn2
                have hopC := row_below hopB.out hbn2
                have hnk2 := heap_new w5 (.cells #[.int .i64 (k : Int)] 3 (0, 0))
                have hws2 := hb7.size
                go_wp2_with (at_builtin; refine wpList_append_one rfl _ _ rfl rfl hopC rfl (cell_heap hnk2 0) rfl rfl (by omega) hws2 ?_)
                intro g3 cap3 w6 hopD hgrow2 hg3
                have hb8 : Below w.heap.size w w6 := below_grown hb7 hopC hgrow2
                have hrow6 := hid (World.ownsRow.kept (row_below hrow5.out hbn2) hgrow2 (.inr (by simp [Value.ownBlock]; exact hgg)))
                have hgg2 : g' ≠ g3 := by
                  have := (hrow5.out.lt g' rfl).2
                  rcases hg3 with rfl | rfl
                  · exact hgg
                  · simp; omega
                have hopE : Hid (w6.ownsRow w.heap.size 3 1 (.slice (some ⟨g3, 0, none⟩) (op ++ [k]).length cap3) (op ++ [k]).length (nats (op ++ [k]))) := hid (by
                  rw [List.length_append, List.length_singleton]
                  simp only [nats, List.map_append, List.map_cons, List.map_nil]
                  exact hopD)
                clear hopC hopD hnk2 hgrow2 hg3
                go_wp2_with fail
                go_roundw
                case rel => exact ⟨k + 1, g', cap', xs ++ [-1], rfl, by go_num, by omega, hrow6, hspN, hb8, .inl ⟨out, op ++ [k], g3, cap3, rfl, by simp, hn2, hxs2, hopE, hgg2⟩⟩
                case measure => simp [intOf]; omega
          · have z1 : ((k1 : Int) != 6) = true := by rw [bne_iff_ne]; omega
            have hn2 : Hid (nestAt l (k + 1) = some (out, op)) := hid (by rw [Hns.out]; unfold nestStep; rw [if_pos (by simpa using hk6)])
            clear hk6
            go_wp2_with fail
            go_roundw
            case rel => exact ⟨k + 1, g', cap', xs ++ [-1], rfl, by go_num, by omega, hrow5, hspN, hb6, .inl ⟨out, op, g2, cap2, rfl, rfl, hn2, hxs2, hopB, hgg⟩⟩
            case measure => simp [intOf]; omega
        · have hn2 : Hid (nestAt l (k + 1) = none) := hid (nestAt_none hnest.out (k + 1) (by omega))
          clear hns q
          go_wp2_with fail
          refine (hS.out _).mono ?_
          rintro e1 w1 ⟨rfl, hb1⟩
          have hb2 := below_then hb hb1
          have hbn := below_alloc w1 (.cells #[.int .i64 (-1)] 3 (0, 0))
          have hb3 := below_then hb2 hbn
          have hnk := heap_new w1 (.cells #[.int .i64 (-1)] 3 (0, 0))
          have hrowA := row_below (row_below hrow.out hb1) hbn
          have hws := hb3.size
          have hk1200 : k ≤ 1000000 := by omega
          go_wp2_with (at_builtin; refine wpList_append_one rfl _ _ rfl rfl hrowA rfl (cell_heap hnk 0) rfl rfl hk1200 hws ?_)
          intro g' cap' w5 hrowB hgrow hg'
          have hb6 : Below w.heap.size w w5 := below_grown hb3 hrowA hgrow
          have c0 := cell_later hb6 i0
          have c1 := cell_later hb6 i1
          have hrow5 : Hid (w5.ownsRow w.heap.size 3 1 (.slice (some ⟨g', 0, none⟩) (k + 1) cap') (k + 1) (ints (xs ++ [-1]))) := hid (by simpa [ints] using hrowB)
          clear hrowA hrowB hnk hgrow hg' hS
          by_cases hk6 : k1 = 6
          · have z1 : ((k1 : Int) != 6) = false := by rw [hk6]; rfl
            clear hk6
            go_wp2_with fail
            go_roundw
            case rel => exact ⟨k + 1, g', cap', xs ++ [-1], rfl, by go_num, by omega, hrow5, hspN, hb6, .inr ⟨rfl, hn2⟩⟩
            case measure => simp [intOf]; omega
          · have z1 : ((k1 : Int) != 6) = true := by rw [bne_iff_ne]; omega
            clear hk6
            go_wp2_with fail
            go_roundw
            case rel => exact ⟨k + 1, g', cap', xs ++ [-1], rfl, by go_num, by omega, hrow5, hspN, hb6, .inr ⟨rfl, hn2⟩⟩
            case measure => simp [intOf]; omega
      · have hS := hid (fun (W : World) => HSp.out k1 t1 a1 W hlen)
        simp only at he
        rw [he] at hS
        have hn2 : Hid (r = ([], 4)) := hid (by
          have h4 := spellAll_bad (by rw [Hn.out]; omega) hmem hs
          rw [Hr.out, nest, h4]; rfl)
        clear hspS he hs hmem hns hst q
        go_wp2_with fail
        refine (hS.out _).mono ?_
        rintro e1 w1 ⟨rfl, hb1⟩
        go_wp2_with fail
        go_ret2
        exact ⟨⟨_, by rw [hn2.out]; exact isl_nil _, by rw [hn2.out]; rfl⟩, below_then hb hb1⟩
    · have hkn : k = n := by omega
      subst hkn
      have htk : l.take k = l := List.take_of_length_le (by rw [Hn.out]; omega)
      rw [htk] at hsp
      have h0 := spellAll_of (by rw [Hn.out]; omega) hsp.out
      rcases hst with ⟨out, op, g2, cap2, rfl, rfl, hnest, hxs, hop, hg⟩ | ⟨rfl, hnest⟩
      · have hI := nestAt_inv k out op (by rw [Hn.out]; exact Nat.le_refl _) hnest.out
        have hol : out.length = k := by rw [hI.len, Hn.out]
        have hxo : xs = out := by rw [hxs.out]; exact List.take_of_length_le (by omega)
        cases op with
        | nil =>
          have hn2 : Hid (r = (out, 0)) := hid (by rw [Hr.out, nest, h0, Hn.out, hnest.out]; rfl)
          have hISl : ISl wr (.slice (some ⟨g1, 0, none⟩) k cap1) out := ⟨_, cap1, by rw [hol], .inr ⟨g1, rfl, fun j z hz => by
            have hj := (List.getElem?_eq_some_iff.1 hz).1
            rw [World.ownsRow.cellAt hrow.out j (by omega), ints, List.getElem?_map, hxo, hz]; rfl⟩⟩
          have HISl := hid hISl
          clear h0 htk hI hol hxo hISl
          go_wp2_with fail
          go_ret2
          exact ⟨⟨_, by rw [hn2.out]; exact HISl.out, by rw [hn2.out]; rfl⟩, hb⟩
        | cons o1 op1 =>
          have hn2 : Hid (r = ([], 9)) := hid (by rw [Hr.out, nest, h0, Hn.out, hnest.out]; rfl)
          have z10 : (0 : Int) < (op1.length : Int) + 1 := by omega
          clear h0 htk hI hol hxo
          go_wp2_with fail
          go_ret2
          exact ⟨⟨_, by rw [hn2.out]; exact isl_nil _, by rw [hn2.out]; rfl⟩, hb⟩
      · have hn2 : Hid (r = ([], 9)) := hid (by rw [Hr.out, nest, h0, Hn.out, hnest.out]; rfl)
        clear h0 htk
        go_wp2_with fail
        go_ret2
        exact ⟨⟨_, by rw [hn2.out]; exact isl_nil _, by rw [hn2.out]; rfl⟩, hb⟩
end Go.Proofs.YthknlifmkjdoeaaGreatDoor
