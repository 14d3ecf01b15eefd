/-
  THE PROGRAM'S Offset.
-/
import Derived.Test.YthknlifmkjdoeaaGreatDoorLexV
import Derived.Test.YthknlifmkjdoeaaGreatDoorLexB
import Derived.Test.YthknlifmkjdoeaaGreatDoorLexM
namespace Lode
/-- how many bytes lines have, with their ends -/
def span : List (List UInt8) → Nat
  | [] => 0
  | l :: ls => l.length + 1 + span ls
theorem span_app : ∀ a b, span (a ++ b) = span a + span b
  | [], b => by simp [span]
  | l :: a, b => by simp only [List.cons_append, span, span_app a b]; omega
theorem span_len : ∀ a, a.length ≤ span a
  | [] => by simp
  | l :: a => by have := span_len a; simp only [List.length_cons, span]; omega
theorem span_lines : ∀ r, span (lines r) = r.length + 1
  | [] => rfl
  | c :: r => by
    have ih := span_lines r
    simp only [lines]
    split
    · simp only [span, List.length_nil, List.length_cons, ih]; omega
    · split
      · rename_i l ls h
        rw [h] at ih
        simp only [span, List.length_cons] at *; omega
      · rename_i h; exact absurd h (lines_ne r)
end Lode
namespace Go.Proofs.YthknlifmkjdoeaaGreatDoor
open Go.RowKit Lode Go.Shelf
attribute [local go_sem] Oper.semAt_some
/-- between two lines: the place and the number of the next line -/
structure OfI (w : World) (b : Nat) (ln col : Int) (s : List UInt8) (r : Nat × Nat) (pre : List (List UInt8)) (W : World) : Prop where
  rest : ∃ rest, lines s = pre ++ rest ∧ r = offL ln col (span pre) (1 + pre.length) rest
  below : Below w.heap.size w W
  p : W.heap[w.heap.size]? = some (.cells #[.int .i64 ln, .int .i64 col] 23 (0, 0))
  r0 : W.heap[w.heap.size + 1]? = some (.cells #[.int .i64 0] 3 (0, 0))
  r1 : W.heap[w.heap.size + 1 + 1]? = some (.cells #[.int .i64 0] 25 (0, 0))
  a : W.heap[b]? = some (.cells #[.int .i64 (span pre : Nat)] 3 (0, 0))
  n : W.heap[b + 1]? = some (.cells #[.int .i64 (1 + pre.length : Nat)] 3 (0, 0))
theorem OfI.own (w : World) (b : Nat) (ln col : Int) (s : List UInt8) (r : Nat × Nat) (R B : Nat) (h1 : w.heap.size + 1 + 1 < b) (h2 : b + 1 < R) (h3 : R < B) : OwnR R B (OfI w b ln col s r) := fun pre W W' row h hg hr =>
  ⟨h.rest, grown_belowR h.below hg hr (by omega) (by omega), grown_keep hg hr h.p (by omega) (by omega), grown_keep hg hr h.r0 (by omega) (by omega), grown_keep hg hr h.r1 (by omega) (by omega), grown_keep hg hr h.a (by omega) (by omega), grown_keep hg hr h.n (by omega) (by omega)⟩
structure OfR (w : World) (r : Nat × Nat) (W : World) : Prop where
  below : Below w.heap.size w W
  r0 : W.heap[w.heap.size + 1]? = some (.cells #[.int .i64 r.1] 3 (0, 0))
  r1 : W.heap[w.heap.size + 1 + 1]? = some (.cells #[.int .i64 r.2] 25 (0, 0))
theorem OfR.own (w : World) (r : Nat × Nat) (R B : Nat) (h1 : w.heap.size + 1 + 1 < R) (h3 : R < B) (c c' : Code) : OwnR R B (fun (_ : List (List UInt8)) W => c = c' ∧ OfR w r W) := fun pre W W' row ⟨hc, h⟩ hg hr =>
  ⟨hc, grown_belowR h.below hg hr (by omega) (by omega), grown_keep hg hr h.r0 (by omega) (by omega), grown_keep hg hr h.r1 (by omega) (by omega)⟩
theorem KpS.put {P Q V : Nat} {W : World} {l : Nat} {o o' : Obj} (ho : W.heap[l]? = some o) (hc : o.isCells = false) : KpS P Q V W (W.putObj l o') := by
  have key : ∀ {k : Nat} {cs : Array Value} {T : TypeId} {fr : Nat × Nat}, W.heap[k]? = some (.cells cs T fr) → (W.putObj l o').heap[k]? = some (.cells cs T fr) := fun hk =>
    (World.putObj_heap_other (fun e => by subst e; rw [hk] at ho; cases ho; cases hc)).trans hk
  exact fun t h => ⟨key h.p, key h.q, key h.v, h.ne1, h.ne2⟩
theorem KpS.far {P Q V b : Nat} {W : World} {i : Nat} {v : Value} (h1 : P ≠ b) (h2 : Q ≠ b) (h3 : V ≠ b) : KpS P Q V W (W.setCell ⟨b, i, none⟩ v) := fun _ h => ⟨(set_far h1).trans h.p, (set_far h2).trans h.q, (set_far h3).trans h.v, h.ne1, h.ne2⟩
theorem of_res {w W : World} {x y : Value} {r : Nat × Nat} (hb : Below w.heap.size w W) (h0 : W.heap[w.heap.size + 1]? = some (.cells #[x] 3 (0, 0))) (h1 : W.heap[w.heap.size + 1 + 1]? = some (.cells #[y] 25 (0, 0))) (a : Int) (e : Int) (ha : a = r.1) (he : e = r.2) (W9 : World)
    (h9 : W9 = (W.setCell ⟨w.heap.size + 1, 0, none⟩ (.int .i64 a)).setCell ⟨w.heap.size + 1 + 1, 0, none⟩ (.int .i64 e)) : KeepsOthers W W9 ∧ OfR w r W9 := by
  subst h9 ha he
  exact ⟨(KeepsOthers.setCell W ⟨w.heap.size + 1, 0, none⟩ _).trans (KeepsOthers.setCell _ ⟨w.heap.size + 1 + 1, 0, none⟩ _), bl_set (bl_set hb _ _ (by omega) _) _ _ (by omega) _, (set_far (by omega)).trans (set_heap h0 0 _), set_heap ((set_far (by omega)).trans h1) 0 _⟩
theorem of_next {w W : World} {b : Nat} {ln col : Int} {s : List UInt8} {r : Nat × Nat} {pre : List (List UInt8)} {x : List UInt8} (h : OfI w b ln col s r pre W) (hlt : w.heap.size + 1 + 1 < b) (hr : ∃ rest, lines s = (pre ++ [x]) ++ rest ∧ r = offL ln col (span (pre ++ [x])) (1 + (pre ++ [x]).length) rest) (a n : Int) (ha : a = span (pre ++ [x])) (hn : n = (1 + (pre ++ [x]).length : Nat)) (W9 : World)
    (h9 : W9 = ((W.setCell ⟨b, 0, none⟩ (.int .i64 a)).setCell ⟨b + 1, 0, none⟩ (.int .i64 n)).drew) : KeepsOthers W W9 ∧ KpS (b + 1 + 1 + 1) (b + 1 + 1) (b + 1 + 1 + 2) W W9 ∧ OfI w b ln col s r (pre ++ [x]) W9 := by
  subst h9 ha hn
  have hk := (KeepsOthers.setCell W ⟨b, 0, none⟩ (.int .i64 (span (pre ++ [x]) : Nat))).trans (KeepsOthers.setCell _ ⟨b + 1, 0, none⟩ (.int .i64 (1 + (pre ++ [x]).length : Nat)))
  have key : ∀ {k : Nat} {o : Option Obj}, W.heap[k]? = o → k ≠ b → k ≠ b + 1 → ((W.setCell ⟨b, 0, none⟩ (.int .i64 (span (pre ++ [x]) : Nat))).setCell ⟨b + 1, 0, none⟩ (.int .i64 (1 + (pre ++ [x]).length : Nat))).heap[k]? = o := fun h h1 h2 => (set_far h2).trans ((set_far h1).trans h)
  refine ⟨⟨hk.size, hk.same⟩, fun t ht => ⟨key ht.p (by omega) (by omega), key ht.q (by omega) (by omega), key ht.v (by omega) (by omega), ht.ne1, ht.ne2⟩, hr, ?_, key h.p (by omega) (by omega), key h.r0 (by omega) (by omega), key h.r1 (by omega) (by omega), ?_, ?_⟩
  · exact (bl_set (bl_set h.below _ _ (by omega) _) _ _ (by omega) _).drew
  · exact (set_far (by omega)).trans (set_heap h.a 0 _)
  · exact set_heap ((set_far (by omega)).trans h.n) 0 _
theorem of3 {w W1 : World} {ln col : Int} (h : Below (((w.alloc (.cells #[.int .i64 ln, .int .i64 col] 23 (0, 0))).alloc (.cells #[.int .i64 0] 3 (0, 0))).alloc (.cells #[.int .i64 0] 25 (0, 0))).heap.size (((w.alloc (.cells #[.int .i64 ln, .int .i64 col] 23 (0, 0))).alloc (.cells #[.int .i64 0] 3 (0, 0))).alloc (.cells #[.int .i64 0] 25 (0, 0))) W1) :
    W1.heap[w.heap.size]? = some (.cells #[.int .i64 ln, .int .i64 col] 23 (0, 0)) ∧ W1.heap[w.heap.size + 1]? = some (.cells #[.int .i64 0] 3 (0, 0)) ∧ W1.heap[w.heap.size + 1 + 1]? = some (.cells #[.int .i64 0] 25 (0, 0)) ∧ Below w.heap.size w W1 ∧ w.heap.size + 1 + 1 < W1.heap.size :=
  ⟨heap_later h (heap_old _ (heap_old _ (heap_new _ _))), heap_later h (heap_old _ (heap_at _ _ _ (by simp))), heap_later h (heap_at _ _ _ (by simp)), below_then (bl_alloc (bl_alloc (below_alloc _ _) _) _) h, by have := h.size; simp at this; omega⟩
def ofAct (s : ByteArray) (ln col : Int) (w W1 : World) (ca : Nat) (x : List UInt8) : Act := { tmps := #[.string s, .agg #[.int .i64 ln, .int .i64 col], undef, .pointer (some ⟨w.heap.size, 0, none⟩), .pointer (some ⟨w.heap.size + 1, 0, none⟩), .pointer (some ⟨w.heap.size + 1 + 1, 0, none⟩), .int .i64 ca, .int .i64 0, .pointer (some ⟨W1.heap.size, 0, none⟩), .pointer (some ⟨W1.heap.size + 1, 0, none⟩), strV x, .tuple #[.int .i64 ca, .int .i64 0], .string s, .tuple #[.int .i64 ca, .int .i64 0], .int .i64 ca, .int .i64 0, .int .i64 0, .bool false, undef, .string s, .func (.func 100) #[] #[.pointer (some ⟨W1.heap.size + 1 + 1 + 1, 0, none⟩), .pointer (some ⟨W1.heap.size + 1 + 1, 0, none⟩), .pointer (some ⟨W1.heap.size + 1 + 1 + 2, 0, none⟩)], strV x, undef, undef, undef, undef, undef, undef, undef, undef, undef, undef, undef, undef, undef, undef, undef, undef, undef, undef, undef, undef, undef, undef, undef, undef, undef, undef, undef], defers := [] }
def OPost (r : Nat × Nat) (w : World) (e : Ending) (w' : World) : Prop := e = .returned (.tuple #[.int .i64 r.1, .int .i64 r.2]) ∧ Below w.heap.size w w'
set_option maxHeartbeats 2000000 in
set_option maxRecDepth 100000 in
theorem loffset_any (s : ByteArray) (ln col : Int) (w : World) (hs : s.size ≤ 1000000000000) :
    Calls Tryz.prog 18 #[.string s, .agg #[.int .i64 ln, .int .i64 col]] w (OPost (offset s.data.toList ln col) w) := by
  generalize hr : offset s.data.toList ln col = r
  have Hr := hid hr; clear hr
  have Hc := hid (fun w => check_any s w (by omega))
  generalize hc : check s.data.toList = c at *
  obtain ⟨ca, ce⟩ := c
  have Hcc := hid hc; clear hc
  refine (callsIn_wide (n := 5)).1 ?_
  refine callsIn_of_wp_marks Tryz.func18 rfl trivial ?_ rfl
  simp only [Tryz.ntmps18, List.size_toArray, List.length_cons, List.length_nil, Nat.reduceAdd, Nat.reduceSub, Array.replicate_succ, Array.replicate_zero, List.push_toArray, List.append_toArray, List.nil_append, List.cons_append]
  by_cases he : ce = 0
  · subst he
    gi_wp2_with (first
      | (refine ⟨trivial, ?_⟩; gi_at_call 16; refine (callsIn_wide.2 (Hc.out _)).mono ?_; rintro e W1 ⟨rfl, hb1⟩; obtain ⟨m0, m1, m2, hbw1, hlt1⟩ := of3 hb1)
      | (refine ⟨trivial, ?_⟩; gi_at_call 50; refine (callsIn_wide.2 (splitSeq_any s _)).mono ?_; rintro e W2 ⟨rfl, hsp, hb2⟩))
    have hs2 := hb2.size
    simp only [World.size_alloc] at hs2 hsp
    have hRlt : W1.heap.size + 1 + 1 < W2.heap.size := (Array.getElem?_eq_some_iff.1 hsp.q).1
    have hbW := below_then (bl_alloc (below_alloc W1 (.cells #[.int .i64 0] 3 (0, 0))) (.cells #[.int .i64 1] 3 (0, 0))) hb2
    have m0 := heap_later hbW m0
    have m1 := heap_later hbW m1
    have m2 := heap_later hbW m2
    have m3 : W2.heap[W1.heap.size]? = some (.cells #[.int .i64 0] 3 (0, 0)) := heap_later hb2 (heap_old _ (heap_new _ _))
    have m4 : W2.heap[W1.heap.size + 1]? = some (.cells #[.int .i64 1] 3 (0, 0)) := heap_later hb2 (heap_at _ _ _ (by simp))
    have hbw2 := below_then hbw1 hbW
    have hrr : r = offL ln col 0 1 (lines s.data.toList) := by rw [← Hr.out, offset, Hcc.out, offL_lines]; rfl
    have Hrr := hid hrr; clear hrr
    refine wpIn_range_R rfl (by omega) (gf := 100) (la := #[]) (lb := #[.pointer (some ⟨W1.heap.size + 1 + 1 + 1, 0, none⟩), .pointer (some ⟨W1.heap.size + 1 + 1, 0, none⟩), .pointer (some ⟨W1.heap.size + 1 + 1 + 2, 0, none⟩)]) rfl trivial (enters_of Tryz.func100 (by kernel_rfl) rfl)
      (split_seq _ _ _ s W2 hs hsp _ (by omega)) hRlt (fun h k t x => k t (h t x)) (fun W l o o' _ ho hc => KpS.put ho hc)
      (OfI w W1.heap.size ln col s.data.toList r) (fun c _ W => c = .ret ∧ OfR w r W) (OfI.own w _ ln col _ r _ _ hlt1 (by omega) hRlt) (fun c => OfR.own w r _ _ (by omega) hRlt c .ret)
      ⟨⟨lines s.data.toList, rfl, Hrr.out⟩, hbw2, m0, m1, m2, m3, m4⟩
      (fun pre x a' W => OfI w W1.heap.size ln col s.data.toList r pre W ∧ a' = ofAct s ln col w W1 ca x)
      (fun pre x a' W l o o' ⟨h1, h4⟩ hl ho hc => ⟨OfI.own w _ ln col _ r _ _ hlt1 (by omega) hRlt pre W _ (some l) h1 (grownBy_putObj' W l o') (fun r e => by cases e; exact .inr ⟨hl, o, ho, hc⟩), h4⟩) ?assign ?body ?done ?stop
    case assign =>
      intro l pre x W K hI hG hK
      gi_wp2
      exact hK _ _ (KeepsOthers.refl _) (fun t h => h) ⟨hI, rfl⟩
    case body =>
      rintro l pre x a' W ⟨hI, rfl⟩ ⟨post, hG⟩
      obtain ⟨rest, hrest, hr⟩ := hI.rest
      rw [hG, List.append_cancel_left_eq] at hrest
      subst hrest
      have hspan : span pre + (x.length + 1) + span post = s.size + 1 := by
        have := span_lines s.data.toList
        rw [hG, span_app, span] at this
        simp at this; omega
      have hpl := span_len pre
      simp only [offL] at hr
      have c0 := cell_heap hI.p 0
      have c1 := cell_heap hI.p 1
      have d0 := cell_heap hI.r0 0
      have d1 := cell_heap hI.r1 0
      have f0 := frozen_heap hI.r0 0
      have f1 := frozen_heap hI.r1 0
      have e0 := cell_heap hI.a 0
      have e1 := cell_heap hI.n 0
      have g0 := frozen_heap hI.a 0
      have g1 := frozen_heap hI.n 0
      have HI := hid hI
      clear hI
      have hxs : (⟨x.toArray⟩ : ByteArray).size = x.length := rfl
      have hpre2 : span (pre ++ [x]) = span pre + x.length + 1 := by rw [span_app]; simp [span]; omega
      have hlen2 : 1 + (pre ++ [x]).length = 1 + pre.length + 1 := by simp; omega
      have HG := hid hG; clear hG
      have HP := hid (And.intro hpre2 hlen2); clear hpre2 hlen2
      obtain ⟨sp, hsp2⟩ : ∃ sp, span pre = sp := ⟨_, rfl⟩
      obtain ⟨nl, hnl⟩ : ∃ nl, 1 + pre.length = nl := ⟨_, rfl⟩
      rw [hsp2] at hspan hr e0 HP
      rw [hnl] at hr e1 HP
      have hnl' : nl ≤ sp + 1 := by omega
      have Hsp2 := hid hsp2
      have Hnl := hid hnl
      clear hsp2 hnl hpl
      unfold ofAct
      by_cases hln : (nl : Int) = ln
      · rw [if_pos hln] at hr
        by_cases hcol : col < 1 ∨ (x.length : Int) + 1 < col
        · rw [if_pos hcol] at hr
          have Hr2 := hid hr; clear hr
          gi_wp2
          all_goals
            have h := of_res HI.out.below HI.out.r0 HI.out.r1 (r := r) 0 3 (by rw [Hr2.out]; rfl) (by rw [Hr2.out]; rfl) _ rfl
            exact ⟨h.1, rfl, h.2⟩
        · rw [if_neg hcol] at hr
          have Hr2 := hid hr; clear hr
          gi_wp2
          all_goals
            have h := of_res HI.out.below HI.out.r0 HI.out.r1 (r := r) (sp + col - 1) 0 (by rw [Hr2.out]; simp only []; omega) (by rw [Hr2.out]; rfl) _ rfl
            exact ⟨h.1, rfl, h.2⟩
      · rw [if_neg hln] at hr
        have Hr2 := hid hr; clear hr
        have hnln : ((nl : Int) == ln) = false := by rw [beq_eq_false_iff_ne]; exact hln
        have hfin := hid (of_next (pre := pre) (x := x) HI.out hlt1 ⟨post, by rw [HG.out]; simp, by rw [HP.out.1, HP.out.2, ← Hr2.out]⟩ (sp + x.length + 1) (nl + 1) (by rw [HP.out.1]; omega) (by rw [HP.out.2]; omega) _ rfl)
        have w1 : IntKind.i64.wrap ((sp : Int) + x.length) = sp + x.length := IntWalk.i64_in _ (by omega)
        have w2 : IntKind.i64.wrap ((sp : Int) + x.length + 1) = sp + x.length + 1 := IntWalk.i64_in _ (by omega)
        have w3 : IntKind.i64.wrap ((nl : Int) + 1) = nl + 1 := IntWalk.i64_in _ (by omega)
        gi_wp2
        clear HI HG HP Hsp2 Hnl Hr2 hxs c0 c1 d0 d1 f0 f1
        gi_region
        all_goals
          gi_wp2
          exact ⟨hfin.out.1, hfin.out.2.1, hfin.out.2.2⟩
    case done =>
      rintro D xs W rfl hI hD hK
      obtain ⟨rest, hrest, hr⟩ := hI.rest
      have hn : rest = [] := by simpa using hrest
      subst hn
      simp only [offL] at hr
      subst hr
      have d0 := cell_heap hI.r0 0
      have d1 := cell_heap hI.r1 0
      have f0 := frozen_heap hI.r0 0
      have f1 := frozen_heap hI.r1 0
      have HI := hid hI
      clear hI hrest
      gi_wp2
      have hx := (of_res HI.out.below HI.out.r0 HI.out.r1 (r := (0, 3)) 0 3 rfl rfl _ rfl)
      generalize World.setCell _ ⟨w.heap.size + 1 + 1, 0, none⟩ _ = W9 at hx ⊢
      obtain ⟨hko, hx⟩ := hx
      have hK := hko.same D _ hK rfl
      have u0 := cell_heap (put_heap (l := D) (o' := .deferred none) hx.r0 (by omega)) 0
      have u1 := cell_heap (put_heap (l := D) (o' := .deferred none) hx.r1 (by omega)) 0
      refine ⟨by simp, .inl ⟨_, _, rfl, run_takeDeferred hK, ?_⟩⟩
      refine ⟨.tuple #[.int .i64 0, .int .i64 3], by simp [results, Tryz.results18, go_sem, u0, u1], rfl, ?_⟩
      exact grown_belowR hx.below (grownBy_putObj' W9 D _) (R := D) (B := D) (fun r e => by cases e; exact .inl rfl) (by omega) (by omega)
    case stop =>
      rintro D c pre W _ ⟨rfl, hx⟩ hD hK
      gi_wp2
      have u0 := cell_heap (put_heap (l := D) (o' := .deferred none) hx.r0 (by omega)) 0
      have u1 := cell_heap (put_heap (l := D) (o' := .deferred none) hx.r1 (by omega)) 0
      refine ⟨by simp, .inl ⟨_, _, rfl, run_takeDeferred hK, ?_⟩⟩
      refine ⟨.tuple #[.int .i64 r.1, .int .i64 r.2], by simp [results, Tryz.results18, go_sem, u0, u1], rfl, ?_⟩
      exact grown_belowR hx.below (grownBy_putObj' W D _) (R := D) (B := D) (fun r e => by cases e; exact .inl rfl) (by omega) (by omega)
  · have he' : ((ce : Int) != 0) = true := by simpa using he
    gi_wp2_with (first
      | (refine ⟨trivial, ?_⟩; gi_at_call 16; refine (callsIn_wide.2 (Hc.out _)).mono ?_; rintro e W1 ⟨rfl, hb1⟩; obtain ⟨m0, m1, m2, hbw1, hlt1⟩ := of3 hb1; have c0 := cell_heap m1 0; have c1 := cell_heap m2 0; have f0 := frozen_heap m1 0; have f1 := frozen_heap m2 0; have M := hid (And.intro m1 m2); clear m0 m1 m2))
    have hx := (of_res hbw1 M.out.1 M.out.2 (r := r) 0 ce (by rw [← Hr.out, offset, Hcc.out]; simp [he]) (by rw [← Hr.out, offset, Hcc.out]; simp [he]) _ rfl).2
    generalize World.setCell _ ⟨w.heap.size + 1 + 1, 0, none⟩ _ = W9 at hx ⊢
    have u0 := cell_heap hx.r0 0
    have u1 := cell_heap hx.r1 0
    exact ⟨.tuple #[.int .i64 r.1, .int .i64 r.2], by simp [results, Tryz.results18, go_sem, u0, u1], rfl, hx.below⟩
end Go.Proofs.YthknlifmkjdoeaaGreatDoor
