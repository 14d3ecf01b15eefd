/-
  THE PROGRAM'S Nest.
-/
import Derived.Test.YthknlifmkjdoeaaGreatDoorMapStr
import Derived.Test.YthknlifmkjdoeaaGreatDoorIntRow
import Derived.Test.YthknlifmkjdoeaaGreatDoorLexP
import Derived.Test.YthknlifmkjdoeaaGreatDoorRegion
namespace Go.Proofs.YthknlifmkjdoeaaGreatDoor
open Go.RowKit Lode Go.Shelf
attribute [local go_sem ↓] Go.wp_at_zero Go.wp_at_succ
abbrev ints (l : List Int) : List Value := l.map (Value.int .i64)
abbrev nats (l : List Nat) : List Value := l.map fun (o : Nat) => Value.int .i64 (o : Int)
def NsPost (r : List Int × Nat) (w : World) (e : Ending) (w' : World) : Prop :=
  ((r.2 = 0 ∧ ∃ g, e = .returned (.tuple #[.slice (some ⟨g, 0, none⟩) r.1.length r.1.length, .int .i64 0]) ∧ w'.heap[g]? = some (.cells (ints r.1).toArray 3 (0, 0))) ∨ (r.2 ≠ 0 ∧ r.1 = [] ∧ e = .returned (.tuple #[.slice none 0 0, .int .i64 r.2]))) ∧ Below w.heap.size w w'
def NsRel (l : List Tok) (n : Nat) (w : World) (mb go : Nat) (vo i : Value) (wr : World) : Prop := ∃ (k : Nat) (out : List Int) (op : List Nat) (g cap : Nat), vo = .slice (some ⟨g, 0, none⟩) op.length cap ∧ i = .int .i64 k ∧ k ≤ n ∧ Hid (nestAt l k = some (out, op)) ∧ Hid (wr.heap[mb]? = some brMap) ∧ Hid (wr.heap[go]? = some (.cells (ints out).toArray 3 (0, 0))) ∧
  Hid (wr.ownsRow w.heap.size 3 1 (.slice (some ⟨g, 0, none⟩) op.length cap) op.length (nats op)) ∧ g ≠ go ∧ g ≠ mb ∧ Below w.heap.size w wr
theorem ns_lt {w : World} {g : Nat} {o : Obj} (h : w.heap[g]? = some o) : g < w.heap.size := (Array.getElem?_eq_some_iff.1 h).1
theorem sorted_len : ∀ (l : List Nat) (n : Nat), l.Pairwise (· < ·) → (∀ o ∈ l, o < n) → l.length ≤ n
  | [], _, _, _ => Nat.zero_le _
  | a :: l, n, h, hb => by
    rw [List.pairwise_cons] at h
    obtain ⟨n', rfl⟩ : ∃ n', n = n' + 1 := ⟨n - 1, by have := hb a (List.mem_cons_self ..); omega⟩
    have ih := sorted_len (l.map (· - 1)) n' (by
      rw [List.pairwise_map]
      exact h.2.imp_of_mem (fun {x y} hx hy hxy => by have := h.1 x hx; omega)) (fun o ho => by
        obtain ⟨x, hx, rfl⟩ := List.mem_map.1 ho
        have h1 := h.1 x hx
        have h2 := hb x (List.mem_cons_of_mem _ hx)
        omega)
    rw [List.length_map] at ih
    simp only [List.length_cons]; omega
set_option maxHeartbeats 8000000 in
set_option maxRecDepth 100000 in
theorem lnest_any (v : Value) (l : List Tok) (w : World) (hv : TSl w v l) (hl : l.length ≤ 1000000) (ht : ∀ t ∈ l, t.text.length ≤ 1000000000000) (hG : Glob w) (mm : Int) (hm : w.cell? ⟨0, 0, none⟩ = some (.int .i64 mm)) :
    Calls Tryz.prog 40 #[v] w (NsPost (nest l) w) := by
  have HA := hid (lspellAll_any v l w hv hl ht hG)
  have HV := hid hv
  obtain ⟨p0, cp0, rfl, hcells⟩ := hv
  generalize hr : nest l = r
  replace hr := hr.symm
  unfold nest at hr
  unfold SaPost at HA
  by_cases h0 : lspellAll l = 0
  · rw [if_neg (by simp [h0])] at hr
    have hlen : l.length ≤ 1200 := by
      unfold lspellAll at h0
      rcases Nat.lt_or_ge 1200 l.length with h | h
      · rw [if_pos h] at h0; cases h0
      · exact h
    have HA2 := HA.out.mono (R' := fun e w' => (∃ v, e = .returned (.tuple #[v, .int .i64 0])) ∧ Below w.heap.size w w') (fun e w' ⟨h, hb⟩ => by
      rcases h with ⟨_, v, h, _⟩ | ⟨h, _⟩
      · exact ⟨⟨v, h⟩, hb⟩
      · exact absurd h0 h)
    have HA2 := hid HA2
    have Hr := hid hr
    have HC := hid hcells
    have hCt := hid (fun (t : List UInt8) (W : World) (hb : Below w.heap.size w W) => Tryz.strings_Contains ⟨#[41, 93, 125]⟩ ⟨t.toArray⟩ mm W (by decide) (cell_later hb hm))
    clear hr HA HV h0 ht hl hcells hm hG
    generalize hn : l.length = n at *
    have Hn := hid hn; clear hn
    go_enter Tryz.func40, Tryz.ntmps40
    go_wp2_with fail
    refine HA2.out.mono ?_
    rintro e w1 ⟨⟨v1, rfl⟩, hb1⟩
    go_wp2_with fail
    refine (brackets_any _).mono ?_
    rintro e w2 ⟨rfl, hmb, hb2⟩
    go_wp2_with fail
    have hbo := below_alloc w2 (.cells #[] 3 (0, 0))
    have hrow := World.ownsRow_lit (base := w1.heap.size) (e := 3) (size := 1) w2 #[] 0 hb2.size (by decide) rfl
    have hmb := heap_later hbo hmb
    have hmlt := ns_lt hmb
    have hb3 := below_then hb2 hbo
    have hbx := below_alloc (w2.alloc (.cells #[] 3 (0, 0))) (.cells #[.int .i64 (-1)] 3 (0, 0))
    have hnew := heap_new (w2.alloc (.cells #[] 3 (0, 0))) (.cells #[.int .i64 (-1)] 3 (0, 0))
    have hRp := repeat_any (w2.alloc (.cells #[] 3 (0, 0))).heap.size (-1) n (by omega) ((w2.alloc (.cells #[] 3 (0, 0))).alloc (.cells #[.int .i64 (-1)] 3 (0, 0))) (cell_heap hnew 0)
    have e1 : (w2.alloc (.cells #[] 3 (0, 0))).heap.size = w2.heap.size + 1 := by simp
    have e2 : ((w2.alloc (.cells #[] 3 (0, 0))).alloc (.cells #[.int .i64 (-1)] 3 (0, 0))).heap.size = w2.heap.size + 2 := by simp
    rw [e2, e1] at hRp
    rw [e1] at hmlt
    have hmb := heap_later hbx hmb
    have hrow := row_below hrow hbx
    refine hRp.mono ?_
    rintro e w3 ⟨rfl, hout, hb4⟩
    have hb4' : Below ((w2.alloc (.cells #[] 3 (0, 0))).alloc (.cells #[.int .i64 (-1)] 3 (0, 0))).heap.size ((w2.alloc (.cells #[] 3 (0, 0))).alloc (.cells #[.int .i64 (-1)] 3 (0, 0))) w3 := by rw [e2]; exact hb4
    have HM0 := hid (heap_later hb4' hmb)
    have HR0 := hid (row_below hrow hb4')
    have HO0 := hid hout
    clear hmb hrow hout
    have hb5 := below_then (below_then hb3 hbx) hb4'
    obtain ⟨go, hgo⟩ : ∃ go, w2.heap.size + 2 = go := ⟨_, rfl⟩
    obtain ⟨g0, hg0⟩ : ∃ g0, w2.heap.size = g0 := ⟨_, rfl⟩
    obtain ⟨mb, hmbe⟩ : ∃ mb, w1.heap.size = mb := ⟨_, rfl⟩
    have hbm := hb2.size
    have hmb2 := ns_lt HM0.out
    have hg0m : g0 ≠ mb := fun e => by
      rw [← e, ← hg0] at hmbe
      have h1 := HR0.out
      obtain ⟨_, ⟨h, _⟩ | ⟨g', cap', cur, h, _, hg, _⟩⟩ := h1
      · simp at h
      · simp only [Value.slice.injEq, Option.some.injEq, Addr.mk.injEq, and_true] at h
        rw [← h.1] at hg
        have h2 := HM0.out
        rw [hmbe, hg] at h2
        cases h2
    rw [hgo] at HO0 ⊢
    rw [hg0] at HR0 ⊢
    have hg1 : g0 ≠ go := by omega
    have hg1w : w1.heap.size ≤ go := by have := hb2.size; omega
    rw [hmbe]
    have Hmbe := hid hmbe
    clear hRp hnew hbx hbo e1 e2 hb3 hb4 hb4' hmlt hmb2 hgo hg0 hmbe
    go_wp2_with fail
    go_loopw [7, 28] (NsRel l n w1 mb go) (fun _ i _ => n - (intOf i).toNat)
    case atStart =>
      refine ⟨0, List.replicate n (-1), [], g0, 0, rfl, rfl, by omega, hid ?_, ?_, hid ?_, HR0, hg1, hg0m, hb5⟩
      · rw [← Hn.out]; rfl
      · rw [← Hmbe.out]; exact HM0
      · have := HO0.out
        rw [this]
        simp [ints]
    case round =>
      obtain ⟨k, out, op, g, cap, rfl, rfl, hk, hnest, hmb, hout, hrow, hg1, hg2, hb⟩ := hrel
      by_cases hlt : k < n
      · have hkl : k < l.length := by rw [Hn.out]; exact hlt
        have hl0 : l ≠ [] := fun e => by rw [e] at hkl; simp at hkl
        obtain ⟨gt, rfl, q⟩ := HC.out.resolve_left hl0
        obtain ⟨i0, i1, i2⟩ := q k hkl
        have hbw := below_then hb1 hb
        have c0 := cell_later hbw i0
        have c1 := cell_later hbw i1
        have c2 := cell_later hbw i2
        have hns := nestAt_succ hnest.out hkl
        have hI := nestAt_inv k out op (by omega) hnest.out
        have hopb : op.length ≤ 1200 := Nat.le_trans (sorted_len op l.length hI.sorted (fun o ho => (hI.lt o ho).2)) (by rw [Hn.out]; exact hlen)
        have hgl : g < wr.heap.size := (hrow.out.lt g rfl).2
        have hgol := ns_lt hout.out
        have hbt := below_alloc wr (.cells #[.int .u8 l[k].kind, .string ⟨l[k].text.toArray⟩, .int .i64 l[k].at_] 46 (0, 0))
        have hnt := heap_new wr (.cells #[.int .u8 l[k].kind, .string ⟨l[k].text.toArray⟩, .int .i64 l[k].at_] 46 (0, 0))
        have hmb2 := hid (heap_later hbt hmb.out)
        have hout2 := hid (heap_later hbt hout.out)
        have hrow2 := hid (row_below hrow.out hbt)
        have hb2' := below_then hb hbt
        have HQ := hid q
        clear i0 i1 i2 q hl0
        have hxk : l[k]? = some l[k] := List.getElem?_eq_getElem hkl
        have Hxk := hid hxk
        clear hxk
        generalize l[k] = x at *
        obtain ⟨k1, t1, a1⟩ := x
        simp only at c0 c1 c2 hnt
        have Hns := hid hns
        have HI := hid hI
        have Hnt := hid hnt
        clear hns hI hnt
        by_cases hk6 : k1 = 6
        · have z1 : ((k1 : Int) != 6) = false := by rw [hk6]; rfl
          have hlk := br_look hmb2.out t1
          have hst : nestStep l k ⟨k1, t1, a1⟩ out op = if closeOf t1 ≠ [] then some (out, op ++ [k]) else if closes t1 = true then (match op.getLast? with
              | none => none
              | some o => if (l[o]?.map fun u => closeOf u.text) = some t1 then some ((out.set k (o : Int)).set o (k : Int), op.dropLast) else none) else some (out, op) := by
            unfold nestStep
            rw [if_neg (by simp [hk6])]
            rfl
          have Hst := hid hst
          clear hst hk6
          by_cases hcl : closeOf t1 = []
          · rw [hcl] at hlk
            have hCn := hid (fun (W : World) (hb' : Below w.heap.size w W) => hCt.out t1 W hb')
            rw [contains_br] at hCn
            cases hcc : closes t1 with
            | false =>
              rw [hcc] at hCn
              have hn2 : Hid (nestAt l (k + 1) = some (out, op)) := hid (by rw [Hns.out, Hst.out, if_neg (by simp [hcl]), if_neg (by simp [hcc])])
              clear hcl hcc
              go_wp2_with fail
              refine (hCn.out _ (below_then hbw hbt)).mono ?_
              rintro e5 w5 ⟨rfl, rfl⟩
              go_wp2_with fail
              go_roundw
              case rel => exact ⟨k + 1, out, op, g, cap, rfl, by go_num, by omega, hn2, hmb2, hout2, hrow2, hg1, hg2, hb2'⟩
              case measure => simp [intOf]; omega
            | true =>
              rw [hcc] at hCn
              cases hop : op.getLast? with
              | none =>
                have hop2 : op = [] := List.getLast?_eq_none_iff.1 hop
                have hn2 : Hid (r = ([], 9)) := hid (by
                  have h9 : nestAt l (k + 1) = none := by rw [Hns.out, Hst.out, if_neg (by simp [hcl]), if_pos hcc, hop]
                  rw [Hr.out, nestAt_none h9 n (by omega)])
                subst hop2
                clear hcl hcc hop
                go_wp2_with fail
                refine (hCn.out _ (below_then hbw hbt)).mono ?_
                rintro e5 w5 ⟨rfl, rfl⟩
                go_wp2_with fail
                go_quiet (fail)
                go_wp2_with fail
                go_ret2
                exact ⟨.inr ⟨by rw [hn2.out]; decide, by rw [hn2.out], by rw [hn2.out]; rfl⟩, bl_drewN (below_then hbw hbt) nq⟩
              | some o =>
                have hsplit := dropLast_getLast hop
                have hoin : o ∈ op := List.mem_of_getLast? hop
                obtain ⟨hok, hol⟩ := HI.out.lt o hoin
                obtain ⟨op2, hop2⟩ : ∃ x, op.dropLast = x := ⟨_, rfl⟩
                rw [hop2] at hsplit
                have hHI := HI.out.len
                obtain ⟨m, hm9⟩ : ∃ m, op2.length = m := ⟨_, rfl⟩
                have hopl : op.length = m + 1 := by rw [hsplit, List.length_append, List.length_singleton, hm9]
                have hro : wr.cell? ⟨g, m, none⟩ = some (.int .i64 (o : Int)) := by
                  have h1 := World.ownsRow.cellAt hrow.out m (by omega)
                  rw [h1, hsplit]
                  simp only [nats, List.map_append, List.map_cons, List.map_nil]
                  rw [List.getElem?_append_right (by simp; omega)]
                  simp [hm9]
                have hro2 := cell_later hbt hro
                obtain ⟨j0, j1, j2⟩ := HQ.out o hol
                have d1 := cell_later (below_then hbw hbt) j1
                have hxo : l[o]? = some l[o] := List.getElem?_eq_getElem hol
                have e0 := cell_heap Hnt.out 0
                have e1 := cell_heap Hnt.out 1
                have e2 := cell_heap Hnt.out 2
                simp only [List.getElem?_toArray, List.getElem?_cons_zero, List.getElem?_cons_succ] at e0 e1 e2
                generalize hlo : l[o] = y at *
                obtain ⟨k2, t2, a2⟩ := y
                simp only at d1
                have hlk2 := br_look hmb2.out t2
                have hon : o < n := by rw [← Hn.out]; exact hol
                have hfzo : ∀ j, (wr.alloc (.cells #[.int .u8 (k1 : Int), .string ⟨t1.toArray⟩, .int .i64 a1] 46 (0, 0))).frozen? ⟨go, j, none⟩ = false := fun j => frozen_heap hout2.out j
                have y1 : IntKind.i64.wrap (((m + 1 : Nat) : Int) - 1) = (m : Int) := by rw [IntWalk.i64_in _ ⟨by omega, by omega⟩]; omega
                have y1' : IntKind.i64.wrap ((m : Int) + 1 - 1) = (m : Int) := by rw [IntWalk.i64_in _ ⟨by omega, by omega⟩]; omega
                have y2 : decide ((m : Int) < 0) = false := by rw [decide_eq_false_iff_not]; omega
                have hmn : m < m + 1 := by omega
                have hHop := hid (And.intro hsplit (And.intro hop2 hop))
                have hHr := hid hrow2.out
                have hHxo := hid hxo
                have hcap : m ≤ cap := by
                  obtain ⟨_, ⟨h, _⟩ | ⟨g', cap', cur, h, _, _, hnc, _⟩⟩ := id hrow.out
                  · simp at h
                  · simp only [Value.slice.injEq, Option.some.injEq, Addr.mk.injEq, and_true, true_and] at h
                    obtain ⟨_, rfl⟩ := h
                    omega
                have hHc := hid (And.intro hcl hcc)
                clear j0 j1 j2 hxo hro hlo hcl hop hop2 hsplit hcc
                rw [hopl]
                by_cases hmt : closeOf t2 = t1
                · have hn2 : Hid (nestAt l (k + 1) = some ((out.set k (o : Int)).set o (k : Int), op2)) := hid (by
                    rw [Hns.out, Hst.out, if_neg (by simp [hHc.out.1]), if_pos hHc.out.2, hHop.out.2.2]
                    simp [hmt, hHxo.out, hHop.out.2.1])
                  have hr1 : (closeOf t2 == t1) = true := by rw [beq_iff_eq]; exact hmt
                  have hr2 : (closeOf t2 != t1) = false := by rw [bne_eq_false_iff_eq]; exact hmt
                  clear hmt
                  go_wp2_with fail
                  refine (hCn.out _ (below_then hbw hbt)).mono ?_
                  rintro e5 w5 ⟨rfl, rfl⟩
                  go_wp2_with fail
                  have hS : ∀ W, Cl (wr.alloc (.cells #[.int .u8 (k1 : Int), .string ⟨t1.toArray⟩, .int .i64 a1] 46 (0, 0))).drew W → (W.cell? ⟨g, m, none⟩ = some (.int .i64 (o : Int)) ∧ W.cell? ⟨gt, o * 3 + 1, none⟩ = some (.string ⟨t2.toArray⟩) ∧ W.cell? ⟨wr.heap.size, 0, none⟩ = some (.int .u8 (k1 : Int)) ∧ W.cell? ⟨wr.heap.size, 1, none⟩ = some (.string ⟨t1.toArray⟩) ∧ (Instr.lookup 105 (.map (some mb)) (.string ⟨t2.toArray⟩) false).run Tryz.prog W = .ok (.string ⟨(closeOf t2).toArray⟩) W) := fun W h => ⟨cell_later h.below hro2, cell_later h.below d1, cell_later h.below e0, cell_later h.below e1, br_look (heap_later h.below hmb2.out) t2⟩
                  refine wp_region_mix [(0, 0), (1, 0), (2, 0), (3, 0), (4, 0), (5, 0), (6, 0), (7, 0), (8, 1), (9, 0), (10, 0), (11, 1), (12, 1), (13, 0), (14, 1), (15, 0), (16, 0)] (by kernel_rfl) (by kernel_rfl) ?_
                  iterate 17 (first
                    | (refine wpM_skip rfl (by rfl) (by decide) ?_; simp only [Act.put, List.setIfInBounds_toArray, List.set_cons_zero, List.set_cons_succ])
                    | (refine wpM_take rfl (by rfl) (v := ?_) ?_ ?_; rotate_left; (· (intro w'; go_simp; first | done | with_reducible rfl | (rw [if_neg (by first | omega | (simp; omega))]; try with_reducible rfl) | (rw [if_pos (by omega)]; try with_reducible rfl))); simp only [Act.put, List.setIfInBounds_toArray, List.set_cons_zero, List.set_cons_succ])
                    | (refine wpM_load hS rfl (by rfl) (v := ?_) ?_ ?_; rotate_left; (· (intro w' hw'; go_split_ands; go_simp; try with_reducible rfl)); simp only [Act.put, List.setIfInBounds_toArray, List.set_cons_zero, List.set_cons_succ])
                    | fail)
                  refine wpM_done fun W' hW' => ?_
                  have hbW : Below (wr.alloc (.cells #[.int .u8 (k1 : Int), .string ⟨t1.toArray⟩, .int .i64 a1] 46 (0, 0))).heap.size (wr.alloc (.cells #[.int .u8 (k1 : Int), .string ⟨t1.toArray⟩, .int .i64 a1] 46 (0, 0))) W' := below_then (Below.refl _ _).drew hW'.below
                  have q0 := cell_later hbW hro2
                  have hout5 := heap_later hbW hout2.out
                  have hmb5 := hid (heap_later hbW hmb2.out)
                  have hrow5 := row_below hrow2.out hbW
                  have hb5 := below_then hb2' hbW
                  have f0 := frozen_heap hout5 k
                  have f1 := frozen_heap hout5 o
                  have u0 := cell_heap hout5 k
                  have u1 := cell_heap hout5 o
                  have hfk := HI.out.fut k (Nat.le_refl _) hkl
                  have hoo := (HI.out.opn o (by rw [hHop.out.1]; simp)).1
                  simp only [List.getElem?_toArray, ints, List.getElem?_map, hfk, hoo, Option.map_some] at u0 u1
                  have hgw : w1.heap.size ≤ go := hg1w
                  have hset := hid (set_heap (set_heap hout5 k (.int .i64 (o : Int))) o (.int .i64 (k : Int)))
                  have hbs := hid ((hb5.setCell (p := ⟨go, k, none⟩) hgw (.int .i64 (o : Int))).setCell (p := ⟨go, o, none⟩) hgw (.int .i64 (k : Int)))
                  have hmg : mb ≠ go := fun e => by
                    have h1 := hmb.out
                    rw [e, hout.out] at h1
                    cases h1
                  have hms := hid ((set_far (b := go) (k := mb) hmg (w := W'.setCell ⟨go, k, none⟩ (.int .i64 (o : Int))) (i := o) (v := .int .i64 (k : Int))).trans ((set_far (b := go) (k := mb) hmg (w := W') (i := k) (v := .int .i64 (o : Int))).trans hmb5.out))
                  have hrs := hid (World.ownsRow.kept (World.ownsRow.kept hrow5 (grown_set W' go k (.int .i64 (o : Int))) (.inr (by simp [Value.ownBlock]; exact hg1))) (grown_set (W'.setCell ⟨go, k, none⟩ (.int .i64 (o : Int))) go o (.int .i64 (k : Int))) (.inr (by simp [Value.ownBlock]; exact hg1)))
                  have hHrow := hid hrow5
                  have hOut5 := hid hout5
                  clear hout5 hrow5 hfk hoo
                  go_wp2_with fail
                  go_region
                  clear q0 f0 f1 u0 u1
                  generalize World.setCell _ ⟨go, o, none⟩ _ = W9 at *
                  have hset2 : W9.heap[go]? = some (.cells (ints ((out.set k (o : Int)).set o (k : Int))).toArray 3 (0, 0)) := by
                    have := hset.out
                    rw [this]
                    simp [ints, List.map_set]
                  have hset3 := hid hset2
                  have hop9 : op2.length = m := hm9
                  have hcap2 : (m : Int) ≤ (cap : Int) := by omega
                  clear hset2
                  have hrs2 : W9.ownsRow w1.heap.size 3 1 (.slice (some ⟨g, 0, none⟩) m cap) m (nats op2) := by
                    have h1 := hrs.out
                    have h2 : op.length = op2.length + 1 := by rw [hHop.out.1]; simp
                    have h3 : nats op = nats op2 ++ [.int .i64 (o : Int)] := by rw [hHop.out.1]; simp [nats]
                    rw [h2, h3] at h1
                    have h4 := ownsRow_pop h1
                    rw [hop9] at h4
                    exact h4
                  have hrs3 := hid hrs2
                  clear hrs2
                  go_wp2_with fail
                  go_roundw
                  case rel => exact ⟨k + 1, (out.set k (o : Int)).set o (k : Int), op2, g, cap, by rw [hop9], by go_num, by omega, hn2, hms, hset3, by rw [hop9]; exact hrs3, hg1, hg2, hbs.out.drew⟩
                  case measure => simp [intOf]; omega
                · have hn2 : Hid (r = ([], 9)) := hid (by
                    have h9 : nestAt l (k + 1) = none := by
                      rw [Hns.out, Hst.out, if_neg (by simp [hHc.out.1]), if_pos hHc.out.2, hHop.out.2.2]
                      simp [hmt, hHxo.out]
                    rw [Hr.out, nestAt_none h9 n (by omega)])
                  have hr1 : (closeOf t2 == t1) = false := by rw [beq_eq_false_iff_ne]; exact hmt
                  have hr2 : (closeOf t2 != t1) = true := by rw [bne_iff_ne]; exact hmt
                  clear hmt
                  go_wp2_with fail
                  refine (hCn.out _ (below_then hbw hbt)).mono ?_
                  rintro e5 w5 ⟨rfl, rfl⟩
                  go_wp2_with fail
                  have hS : ∀ W, Cl (wr.alloc (.cells #[.int .u8 (k1 : Int), .string ⟨t1.toArray⟩, .int .i64 a1] 46 (0, 0))).drew W → (W.cell? ⟨g, m, none⟩ = some (.int .i64 (o : Int)) ∧ W.cell? ⟨gt, o * 3 + 1, none⟩ = some (.string ⟨t2.toArray⟩) ∧ W.cell? ⟨wr.heap.size, 0, none⟩ = some (.int .u8 (k1 : Int)) ∧ W.cell? ⟨wr.heap.size, 1, none⟩ = some (.string ⟨t1.toArray⟩) ∧ (Instr.lookup 105 (.map (some mb)) (.string ⟨t2.toArray⟩) false).run Tryz.prog W = .ok (.string ⟨(closeOf t2).toArray⟩) W) := fun W h => ⟨cell_later h.below hro2, cell_later h.below d1, cell_later h.below e0, cell_later h.below e1, br_look (heap_later h.below hmb2.out) t2⟩
                  refine wp_region_mix [(0, 0), (1, 0), (2, 0), (3, 0), (4, 0), (5, 0), (6, 0), (7, 0), (8, 1), (9, 0), (10, 0), (11, 1), (12, 1), (13, 0), (14, 1), (15, 0), (16, 0)] (by kernel_rfl) (by kernel_rfl) ?_
                  iterate 17 (first
                    | (refine wpM_skip rfl (by rfl) (by decide) ?_; simp only [Act.put, List.setIfInBounds_toArray, List.set_cons_zero, List.set_cons_succ])
                    | (refine wpM_take rfl (by rfl) (v := ?_) ?_ ?_; rotate_left; (· (intro w'; go_simp; first | done | with_reducible rfl | (rw [if_neg (by first | omega | (simp; omega))]; try with_reducible rfl) | (rw [if_pos (by omega)]; try with_reducible rfl))); simp only [Act.put, List.setIfInBounds_toArray, List.set_cons_zero, List.set_cons_succ])
                    | (refine wpM_load hS rfl (by rfl) (v := ?_) ?_ ?_; rotate_left; (· (intro w' hw'; go_split_ands; go_simp; try with_reducible rfl)); simp only [Act.put, List.setIfInBounds_toArray, List.set_cons_zero, List.set_cons_succ])
                    | fail)
                  refine wpM_done fun W' hW' => ?_
                  go_wp2_with fail
                  go_ret2
                  exact ⟨.inr ⟨by rw [hn2.out]; decide, by rw [hn2.out], by rw [hn2.out]; rfl⟩, below_then (below_then (below_then hbw hbt).drew hW'.below) (Below.refl _ _)⟩
          · have hn2 : Hid (nestAt l (k + 1) = some (out, op ++ [k])) := hid (by rw [Hns.out, Hst.out, if_pos hcl])
            have hne : (⟨(closeOf t1).toArray⟩ : ByteArray).toList.isEmpty = false := by
              rw [ByteArray.toList_eq, List.isEmpty_eq_false_iff]
              exact hcl
            generalize (⟨(closeOf t1).toArray⟩ : ByteArray) = cb at *
            clear hcl
            have hbn := below_alloc (wr.alloc (.cells #[.int .u8 (k1 : Int), .string ⟨t1.toArray⟩, .int .i64 a1] 46 (0, 0))) (.cells #[.int .i64 (k : Int)] 3 (0, 0))
            have hbw2 := below_then hb2' hbn
            have hrow3 := row_below hrow2.out hbn
            have hsz1 : (wr.alloc (.cells #[.int .u8 (k1 : Int), .string ⟨t1.toArray⟩, .int .i64 a1] 46 (0, 0))).heap.size = wr.heap.size + 1 := by simp
            have hnk := heap_new (wr.alloc (.cells #[.int .u8 (k1 : Int), .string ⟨t1.toArray⟩, .int .i64 a1] 46 (0, 0))) (.cells #[.int .i64 (k : Int)] 3 (0, 0))
            rw [hsz1] at hnk
            have hw1s := hbw2.size
            go_wp2_with (at_builtin; refine wpList_append_one rfl _ _ rfl rfl hrow3 rfl (cell_heap hnk 0) rfl rfl (by omega) hw1s ?_)
            intro g' cap' w5 hrow4 hgrow hg'
            have hmb3 := heap_later hbn hmb2.out
            have hout3 := heap_later hbn hout2.out
            have hb6 : Below w1.heap.size w1 w5 := below_grown hbw2 hrow3 hgrow
            have hmb4 : w5.heap[mb]? = some brMap := by rw [hgrow.block mb (ns_lt hmb3) (by simp; exact fun e => hg2 e.symm)]; exact hmb3
            have hout4 : w5.heap[go]? = some (.cells (ints out).toArray 3 (0, 0)) := by rw [hgrow.block go (ns_lt hout3) (by simp; exact fun e => hg1 e.symm)]; exact hout3
            have hmb5 := ns_lt hmb.out
            have hg3 : g' ≠ go ∧ g' ≠ mb := by
              rcases hg' with rfl | rfl
              · exact ⟨hg1, hg2⟩
              · constructor <;> omega
            have hrow5 : w5.ownsRow w1.heap.size 3 1 (.slice (some ⟨g', 0, none⟩) (op ++ [k]).length cap') (op ++ [k]).length (nats (op ++ [k])) := by
              rw [List.length_append, List.length_singleton]
              simp only [nats, List.map_append, List.map_cons, List.map_nil]
              exact hrow4
            have hopk : op.length + 1 = (op ++ [k]).length := by simp
            rw [hopk]
            have hrow6 := hid hrow5
            have hmb6 := hid hmb4
            have hout6 := hid hout4
            clear hrow3 hrow4 hrow5 hgrow hmb3 hout3 hmb4 hout4 hnk hsz1 hopk
            go_wp2_with fail
            go_roundw
            case rel => exact ⟨k + 1, out, op ++ [k], g', cap', rfl, by go_num, by omega, hn2, hmb6, hout6, hrow6, hg3.1, hg3.2, hb6⟩
            case measure => simp [intOf]; omega
        · have z1 : ((k1 : Int) != 6) = true := by rw [bne_iff_ne]; omega
          have hn2 : Hid (nestAt l (k + 1) = some (out, op)) := hid (by rw [Hns.out]; unfold nestStep; rw [if_pos (by simpa using hk6)])
          clear hk6
          go_wp2_with fail
          go_roundw
          case rel => exact ⟨k + 1, out, op, g, cap, rfl, by go_num, by omega, hn2, hmb2, hout2, hrow2, hg1, hg2, hb2'⟩
          case measure => simp [intOf]; omega
      · have hkn : k = n := by omega
        subst hkn
        have hb6 := below_then hb1 hb
        cases hop : op with
        | nil =>
          subst hop
          have hn2 : Hid (r = (out, 0)) := hid (by rw [Hr.out, hnest.out]; rfl)
          have hlo : Hid (out.length = k) := hid (by rw [(nestAt_inv k out [] (by rw [Hn.out]; exact Nat.le_refl _) hnest.out).len, Hn.out])
          go_wp2_with fail
          go_ret2
          exact ⟨.inl ⟨by rw [hn2.out], go, by rw [hn2.out, hlo.out]; rfl, by rw [hn2.out]; exact hout.out⟩, hb6⟩
        | cons o1 op1 =>
          subst hop
          have hn2 : Hid (r = ([], 9)) := hid (by rw [Hr.out, hnest.out]; rfl)
          have z9 : decide ((0 : Int) < ((op1.length + 1 : Nat) : Int)) = true := by rw [decide_eq_true_eq]; omega
          have z10 : (0 : Int) < (op1.length : Int) + 1 := by omega
          go_wp2_with fail
          go_ret2
          exact ⟨.inr ⟨by rw [hn2.out]; decide, by rw [hn2.out], by rw [hn2.out]; rfl⟩, hb6⟩
  · have hr2 : r = ([], lspellAll l) := by rw [hr, if_pos h0]
    subst hr2
    have HA2 := HA.out.mono (R' := fun e w' => e = .returned (.tuple #[.slice none 0 0, .int .i64 (lspellAll l)]) ∧ Below w.heap.size w w') (fun e w' ⟨h, hb⟩ => by
      rcases h with ⟨h, _⟩ | ⟨_, h⟩
      · exact absurd h h0
      · exact ⟨h, hb⟩)
    have HA2 := hid HA2
    generalize lspellAll l = se at *
    have h0' : ((se : Int) != 0) = true := by rw [bne_iff_ne]; omega
    clear hr HA HV hm
    go_enter Tryz.func40, Tryz.ntmps40
    go_wp2_with fail
    refine HA2.out.mono ?_
    rintro e w1 ⟨rfl, hb1⟩
    go_wp2_with fail
    go_ret2
    exact ⟨.inr ⟨h0, rfl, rfl⟩, hb1⟩
end Go.Proofs.YthknlifmkjdoeaaGreatDoor
