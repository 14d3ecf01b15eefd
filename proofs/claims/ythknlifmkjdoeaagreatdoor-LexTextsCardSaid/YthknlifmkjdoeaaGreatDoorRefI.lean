/-
  THE REFERENCE: Spot, Place, Offset, Alike, Quote, Unquote.
-/
import Derived.Test.YthknlifmkjdoeaaGreatDoorRefH
import Derived.Test.YthknlifmkjdoeaaGreatDoorLexE
import Derived.Test.YthknlifmkjdoeaaGreatDoorSpec
namespace Go.Proofs.YthknlifmkjdoeaaGreatDoor
open Go.RowKit Lode Go.Shelf
attribute [local go_sem ↓] Go.wp_at_zero Go.wp_at_succ
theorem ralike_any (k1 k2 : Nat) (t1 t2 : List UInt8) (a1 a2 : Int) (w : World) :
    Calls Tryz.prog 65 #[.agg #[.int .u8 k1, .string ⟨t1.toArray⟩, .int .i64 a1], .agg #[.int .u8 k2, .string ⟨t2.toArray⟩, .int .i64 a2]] w fun e w' => e = .returned (.bool (decide (k1 = k2) && decide (t1 = t2))) ∧ Below w.heap.size w w' := by
  by_cases h1 : k1 = k2
  · subst h1
    by_cases h2 : t1 = t2
    · subst h2
      go_enter Tryz.func65, Tryz.ntmps65
      go_wp2
      go_ret
      exact ⟨by simp, bl_alloc (below_alloc _ _) _⟩
    · go_enter Tryz.func65, Tryz.ntmps65
      go_wp2
      go_ret
      exact ⟨by simp [h2], bl_alloc (below_alloc _ _) _⟩
  · have h1' : ((k1 : Int) == (k2 : Int)) = false := by rw [beq_eq_false_iff_ne]; omega
    go_enter Tryz.func65, Tryz.ntmps65
    go_wp2
    go_ret
    exact ⟨by simp [h1], bl_alloc (below_alloc _ _) _⟩
/-- the two cells of a place at block b -/
def SpRel (s : ByteArray) (a : Nat) (w : World) (i : Value) (wr : World) : Prop :=
  ∃ k : Nat, i = .int .i64 k ∧ k ≤ a ∧ Below w.heap.size w wr ∧ wr.heap[w.heap.size]? = some (.cells #[.int .i64 0, .int .i64 0] 23 (0, 0)) ∧
    wr.heap[w.heap.size + 1]? = some (.cells #[.int .i64 (spot s.data.toList k).1, .int .i64 (spot s.data.toList k).2] 23 (0, 0))
theorem spot_small (s : List UInt8) : ∀ k, k ≤ s.length → (spot s k).1 ≤ k + 1 ∧ (spot s k).2 ≤ k + 1
  | 0, _ => by simp [spot_zero]
  | k + 1, h => by
    have := spot_small s k (by omega)
    rw [spot_succ s k (by omega)]
    unfold step1
    split
    · simp only []; omega
    · simp only []; omega
theorem rspot_any (s : ByteArray) (a : Nat) (w : World) (hs : s.size ≤ 1000000000000) (ha : a ≤ s.size) :
    Calls Tryz.prog 22 #[.string s, .int .i64 a] w fun e w' => e = .returned (.agg #[.int .i64 (spot s.data.toList a).1, .int .i64 (spot s.data.toList a).2]) ∧ Below w.heap.size w w' := by
  generalize hr : spot s.data.toList a = r
  have Hr := hid hr; clear hr
  go_enter Tryz.func22, Tryz.ntmps22
  go_wp2_with fail
  go_loopw [6] (SpRel s a w) (fun i _ => a - (intOf i).toNat)
  case atStart =>
    exact ⟨0, rfl, by omega, bl_alloc (below_alloc _ _) _, heap_old _ (heap_new _ _), by rw [spot_zero]; exact heap_at _ _ _ (by simp)⟩
  case round =>
    obtain ⟨k, rfl, hka, hb, h0, h1⟩ := hrel
    have hk : k ≤ s.size := by omega
    have hsm := spot_small s.data.toList k (by simpa using hk)
    by_cases hlt : k < a
    · have hss := spot_succ s.data.toList k (by simp; omega)
      have hgk : s.data.toList[k]'(by simp; omega) = s[k]'(by omega) := by simp; rfl
      rw [hgk] at hss
      have hb1 := hid (fun (v : Value) => bl_set hb (w.heap.size + 1) 0 (by omega) v)
      generalize spot s.data.toList k = p at *
      obtain ⟨p1, p2⟩ := p
      simp only at hsm h1
      have c0 : wr.cell? ⟨w.heap.size + 1, 0, none⟩ = some (.int .i64 p1) := cell_heap h1 0
      have c1 : wr.cell? ⟨w.heap.size + 1, 1, none⟩ = some (.int .i64 p2) := cell_heap h1 1
      have f0 : wr.frozen? ⟨w.heap.size + 1, 0, none⟩ = false := frozen_heap h1 0
      have f1 : wr.frozen? ⟨w.heap.size + 1, 1, none⟩ = false := frozen_heap h1 1
      have Hss := hid hss; clear hss hgk
      have hlt' : k < s.size := by omega
      have H0 := hid h0
      have H1 := hid h1
      have Hb := hid hb
      clear h0 h1 hb
      go_wp2_with fail
      · have h10 : s[k] = 10 := (c10 _).mp (by have h := ‹((s[k].toNat : Int) == 10) = true›; simpa using h)
        go_roundw
        case rel =>
          refine ⟨k + 1, by go_num, by omega, bl_set (bl_set (bl_set Hb.out _ _ (by omega) _) _ _ (by omega) _) _ _ (by omega) _, ?_, ?_⟩
          · rw [set_far (by omega), set_far (by omega), set_far (by omega)]; exact H0.out
          · rw [Hss.out]
            have := set_heap (set_heap (set_heap H1.out 1 (.int .i64 (p2 + 1))) 0 (.int .i64 (p1 + 1))) 1 (.int .i64 1)
            simpa [step1, h10] using this
        case measure => simp [intOf]; omega
      · have h10 : ¬ s[k] = 10 := fun e => by have h := ‹((s[k].toNat : Int) == 10) = false›; rw [e] at h; cases h
        go_roundw
        case rel =>
          refine ⟨k + 1, by go_num, by omega, bl_set Hb.out _ _ (by omega) _, ?_, ?_⟩
          · rw [set_far (by omega)]; exact H0.out
          · rw [Hss.out]
            have := set_heap H1.out 1 (.int .i64 (p2 + 1))
            simpa [step1, h10] using this
        case measure => simp [intOf]; omega
    · obtain rfl : k = a := by
        have := hka; omega
      rw [Hr.out] at h1
      have c0 : wr.cell? ⟨w.heap.size + 1, 0, none⟩ = some (.int .i64 r.1) := cell_heap h1 0
      have c1 : wr.cell? ⟨w.heap.size + 1, 1, none⟩ = some (.int .i64 r.2) := cell_heap h1 1
      have d0 : wr.cell? ⟨w.heap.size, 0, none⟩ = some (.int .i64 0) := cell_heap h0 0
      have d1 : wr.cell? ⟨w.heap.size, 1, none⟩ = some (.int .i64 0) := cell_heap h0 1
      have f0 : wr.frozen? ⟨w.heap.size, 0, none⟩ = false := frozen_heap h0 0
      have f1 : wr.frozen? ⟨w.heap.size, 1, none⟩ = false := frozen_heap h0 1
      have h3 := set_heap (set_heap h0 0 (.int .i64 r.1)) 1 (.int .i64 r.2)
      have hb3 := hid (bl_set (bl_set hb w.heap.size 0 (Nat.le_refl _) (.int .i64 r.1)) w.heap.size 1 (Nat.le_refl _) (.int .i64 r.2))
      have H3 := hid h3
      clear h0 h1 h3 hb
      go_wp2_with fail
      generalize World.setCell _ ⟨_, 1, none⟩ _ = W3 at *
      have u0 : W3.cell? ⟨w.heap.size, 0, none⟩ = some (.int .i64 r.1) := cell_heap H3.out 0
      have u1 : W3.cell? ⟨w.heap.size, 1, none⟩ = some (.int .i64 r.2) := cell_heap H3.out 1
      refine bodyPost_ret (v := .agg #[.int .i64 r.1, .int .i64 r.2]) (by simp [results, Tryz.results22, go_sem, u0, u1]) rfl ?_
      exact ⟨rfl, hb3.out⟩
/-- k bytes have been quoted -/
def QtRel (s : ByteArray) (x i : Value) : Prop := ∃ (k : Nat) (ob : ByteArray), k ≤ s.size ∧ i = .int .i64 k ∧ x = .string ob ∧ (s.data.toList.take k).all isB = true ∧ ob.data.toList = 34 :: (s.data.toList.take k).flatMap quoteByte ∧ ob.size ≤ 2 * k + 1
theorem quoteByte_le (c : UInt8) : (quoteByte c).length ≤ 2 := by unfold quoteByte; split; · simp
                                                                  · split <;> simp
theorem take_one (s : ByteArray) (k : Nat) (hlt : k < s.size) : s.data.toList.take (k + 1) = s.data.toList.take k ++ [s[k]] := by
  have hk : k < s.data.toList.length := by simpa using hlt
  rw [← List.take_append_getElem hk]; congr 2
theorem qt_next {s : ByteArray} {k : Nat} {ob : ByteArray} (hlt : k < s.size) (hall : (s.data.toList.take k).all isB = true) (hob : ob.data.toList = 34 :: (s.data.toList.take k).flatMap quoteByte) (hsz : ob.size ≤ 2 * k + 1) (x : ByteArray) (hx : x.data.toList = quoteByte s[k]) (hB : isB s[k] = true) :
    QtRel s (.string (ob ++ x)) (.int .i64 ((k : Int) + 1)) := by
  refine ⟨k + 1, _, by omega, by go_num, rfl, ?_, ?_, ?_⟩
  · rw [take_one s k hlt, List.all_append, hall]; simp [hB]
  · rw [app_data, hob, hx, take_one s k hlt]; simp
  · have h1 : x.size = (quoteByte s[k]).length := by rw [← hx]; simp
    have := quoteByte_le s[k]
    rw [ByteArray.size_append]; omega
theorem isB_byte (c : UInt8) (h1 : 32 ≤ (c.toNat : Int)) (h2 : (c.toNat : Int) ≤ 126) : isB c = true := (isB_iff c).2 (.inl ⟨h1, h2⟩)
theorem quote_bad {s : ByteArray} {k : Nat} (h60 : ¬ 60 < s.size) (hlt : k < s.size) (hB : isB s[k] = false) : quote s.data.toList = ([], 4) := by
  rw [quote, if_neg (by simpa using h60), if_neg]
  intro h
  rw [List.all_eq_true] at h
  have := h s[k] (by have : s[k] = s.data.toList[k]'(by simpa using hlt) := by simp; rfl
                     rw [this]; exact List.getElem_mem _)
  rw [hB] at this; cases this
theorem quote_end {s : ByteArray} {k : Nat} {ob : ByteArray} (h60 : ¬ 60 < s.size) (hk : s.size ≤ k) (hall : (s.data.toList.take k).all isB = true) (hob : ob.data.toList = 34 :: (s.data.toList.take k).flatMap quoteByte) : quote s.data.toList = ((ob ++ ⟨#[34]⟩).data.toList, 0) := by
  rw [List.take_of_length_le (by simpa using hk)] at hall hob
  rw [quote, if_neg (by simpa using h60), if_pos hall, app_data, hob]; rfl
theorem rquote_any (s : ByteArray) (w : World) (hs : s.size ≤ 1000000000000) :
    Calls Tryz.prog 28 #[.string s] w fun e w' => e = .returned (.tuple #[.string ⟨(quote s.data.toList).1.toArray⟩, .int .i64 (quote s.data.toList).2]) ∧ w = w' := by
  generalize hr : quote s.data.toList = r
  have Hr := hid hr; clear hr
  by_cases h60 : 60 < s.size
  · have e : r = ([], 5) := by rw [← Hr.out, quote, if_pos (by simpa using h60)]
    subst e
    go_enter Tryz.func28, Tryz.ntmps28
    go_wp2_with fail
    go_ret2
    exact ⟨rfl, rfl⟩
  · go_enter Tryz.func28, Tryz.ntmps28
    go_wp2_with fail
    go_loop [4, 5] (QtRel s) (fun _ i => s.size - (intOf i).toNat)
    case atStart => exact ⟨0, _, by omega, rfl, rfl, by simp, by simp, by decide⟩
    case round =>
      obtain ⟨k, ob, hk, rfl, rfl, hall, hob, hsz⟩ := hrel
      have Hall := hid hall
      have Hob := hid hob
      clear hall hob
      by_cases hlt : k < s.size
      · have hx : ∀ i, i < s.size → (s.extract i (i + 1)).size = 1 := fun i hi => by simp; omega
        have hx1 := hx k hlt
        have Hx := hid hx; clear hx
        have Hx1 := hid (show (s.extract k (k + 1)).data.toList = [s[k]] from extract_one s k hlt)
        go_wp2_with fail
        · have h10 : s[k] = 10 := (c10 _).mp (by have h := ‹((s[k].toNat : Int) == 10) = true›; simpa using h)
          go_round
          case rel => exact qt_next hlt Hall.out Hob.out hsz _ (by rw [h10]; rfl) (by rw [h10]; rfl)
          case measure => simp [intOf]; omega
        · go_ret2
          exact ⟨by rw [← Hr.out, quote_bad h60 hlt (by have h10 := ‹((s[k].toNat : Int) == 10) = false›; rw [beq_eq_false_iff_ne] at h10; exact (isB_no _).2 ⟨by omega, h10⟩)]; rfl, rfl⟩
        · have h34 : s[k] = 34 := (c34 _).mp (by omega)
          go_round
          case rel => exact qt_next hlt Hall.out Hob.out hsz _ (by rw [app_data, Hx1.out, h34]; rfl) (by rw [h34]; rfl)
          case measure => simp [intOf]; omega
        · have h92 : s[k] = 92 := (c92 _).mp (by have h := ‹_ ∨ ((s[k].toNat : Int) == 92) = true›; simp only [beq_iff_eq] at h; omega)
          go_round
          case rel => exact qt_next hlt Hall.out Hob.out hsz _ (by rw [app_data, Hx1.out, h92]; rfl) (by rw [h92]; rfl)
          case measure => simp [intOf]; omega
        · have h10 : ¬ s[k] = 10 := fun e => by have h := ‹((s[k].toNat : Int) == 10) = false›; rw [e] at h; cases h
          go_round
          case rel => exact qt_next hlt Hall.out Hob.out hsz _ (by rw [Hx1.out]; have h := ‹((s[k].toNat : Int) == 34) = false ∧ _›; simp only [beq_eq_false_iff_ne] at h; have h34 := mt (c34 _).mpr h.1; have h92 := mt (c92 _).mpr h.2; simp [quoteByte, h10, h34, h92]) (isB_byte _ (by omega) (by omega))
          case measure => simp [intOf]; omega
        · go_ret2
          exact ⟨by rw [← Hr.out, quote_bad h60 hlt (by have h10 := ‹((s[k].toNat : Int) == 10) = false›; rw [beq_eq_false_iff_ne] at h10; exact (isB_no _).2 ⟨by omega, h10⟩)]; rfl, rfl⟩
      · go_wp2_with fail
        go_ret2
        exact ⟨by rw [← Hr.out, quote_end h60 (by omega) Hall.out Hob.out, ← ba_eta]; rfl, rfl⟩
end Go.Proofs.YthknlifmkjdoeaaGreatDoor

/-
  THE REFERENCE: Same.
-/
namespace Go.Proofs.YthknlifmkjdoeaaGreatDoor
open Go.RowKit Lode Go.Shelf
attribute [local go_sem ↓] Go.wp_at_zero Go.wp_at_succ
/-- the tokens of a slice, as cells -/
def TCells (w : World) (g : Nat) (l : List Tok) : Prop := ∀ (j : Nat) (h : j < l.length), w.cell? ⟨g, j * 3, none⟩ = some (.int .u8 l[j].kind) ∧ w.cell? ⟨g, j * 3 + 1, none⟩ = some (.string ⟨l[j].text.toArray⟩) ∧ w.cell? ⟨g, j * 3 + 2, none⟩ = some (.int .i64 l[j].at_)
theorem tokCells_get : ∀ (l : List Tok) (j : Nat) (h : j < l.length), (tokCells l)[j * 3]? = some (.int .u8 l[j].kind) ∧ (tokCells l)[j * 3 + 1]? = some (.string ⟨l[j].text.toArray⟩) ∧ (tokCells l)[j * 3 + 2]? = some (.int .i64 l[j].at_)
  | [], _, h => by cases h
  | t :: l, 0, _ => ⟨rfl, rfl, rfl⟩
  | t :: l, j + 1, h => by
    have := tokCells_get l j (by simpa using h)
    have e : tokCells (t :: l) = tokVals t ++ tokCells l := rfl
    rw [e]
    have e0 : (j + 1) * 3 = (tokVals t).length + j * 3 := by simp [tokVals]; omega
    refine ⟨?_, ?_, ?_⟩
    · rw [e0, List.getElem?_append_right (by omega), Nat.add_sub_cancel_left]; exact this.1
    · rw [e0, List.getElem?_append_right (by omega), show (tokVals t).length + j * 3 + 1 - (tokVals t).length = j * 3 + 1 from by omega]; exact this.2.1
    · rw [e0, List.getElem?_append_right (by omega), show (tokVals t).length + j * 3 + 2 - (tokVals t).length = j * 3 + 2 from by omega]; exact this.2.2
/-- a slice of tokens: nil, or its cells -/
def TSl (w : World) (v : Value) (l : List Tok) : Prop := ∃ (p : Option Addr) (cap : Nat), v = .slice p l.length cap ∧ (l = [] ∨ ∃ g, p = some ⟨g, 0, none⟩ ∧ TCells w g l)
theorem Toks.sl {w : World} {b : Nat} {v : Value} {l : List Tok} (h : Toks w b v l) : TSl w v l := by
  obtain ⟨_, ⟨hv, h0⟩ | ⟨g, cap, cur, rfl, h1⟩⟩ := id h
  · have : l = [] := List.eq_nil_of_length_eq_zero h0
    subst this; exact ⟨none, 0, hv, .inl rfl⟩
  · refine ⟨_, cap, rfl, .inr ⟨g, rfl, fun j hj => ?_⟩⟩
    have hc := tokCells_get l j hj
    exact ⟨(World.ownsRow.cellAt h (j * 3) (by omega)).trans hc.1, (World.ownsRow.cellAt h (j * 3 + 1) (by omega)).trans hc.2.1, (World.ownsRow.cellAt h (j * 3 + 2) (by omega)).trans hc.2.2⟩
set_option maxRecDepth 100000 in
theorem rsame_any (v1 v2 : Value) (l m : List Tok) (w : World) (h1 : TSl w v1 l) (h2 : TSl w v2 m) (hl : l.length ≤ 1000000) :
    Calls Tryz.prog 25 #[v1, v2] w fun e w' => e = .returned (.bool (decide (l = m))) ∧ Below w.heap.size w w' := by
  obtain ⟨p1, c1, rfl, h1⟩ := h1
  obtain ⟨p2, c2, rfl, h2⟩ := h2
  by_cases hlen : l.length = m.length
  · have H1 := hid h1
    have H2 := hid h2
    clear h1 h2
    have Hlen := hid hlen
    rw [← hlen]
    generalize hn : l.length = n at *
    have Hn := hid hn
    clear hlen hn
    go_enter Tryz.func25, Tryz.ntmps25
    go_wp2_with fail
    go_loopw [5] (fun i wr => ∃ k : Nat, i = .int .i64 k ∧ k ≤ n ∧ Below w.heap.size w wr ∧ Hid (∀ j, j < k → l[j]? = m[j]?)) (fun i _ => n - (intOf i).toNat)
    case atStart => exact ⟨0, rfl, by omega, Below.refl _ _, hid (fun j hj => absurd hj (Nat.not_lt_zero _))⟩
    case round =>
      obtain ⟨k, rfl, hk, hb, hall⟩ := hrel
      by_cases hlt : k < n
      · have hl0 : l ≠ [] := fun e => by have := Hn.out; rw [e] at this; simp at this; omega
        have hm0 : m ≠ [] := fun e => by have := Hlen.out; rw [e] at this; simp at this; omega
        obtain ⟨g1, rfl, q1⟩ := H1.out.resolve_left hl0
        obtain ⟨g2, rfl, q2⟩ := H2.out.resolve_left hm0
        have q1 := q1 k (by rw [Hn.out]; exact hlt)
        have q2 := q2 k (by rw [← Hlen.out]; exact hlt)
        have hx : l[k]? = some (l[k]'(by rw [Hn.out]; exact hlt)) := List.getElem?_eq_getElem _
        have hy : m[k]? = some (m[k]'(by rw [← Hlen.out]; exact hlt)) := List.getElem?_eq_getElem _
        generalize l[k]'(by rw [Hn.out]; exact hlt) = x at *
        generalize m[k]'(by rw [← Hlen.out]; exact hlt) = y at *
        obtain ⟨k1, t1, a1⟩ := x
        obtain ⟨k2, t2, a2⟩ := y
        obtain ⟨c0, c1, c2⟩ := q1
        obtain ⟨d0, d1, d2⟩ := q2
        have c0 := cell_later hb c0
        have c1 := cell_later hb c1
        have c2 := cell_later hb c2
        have d0 := cell_later hb d0
        have d1 := cell_later hb d1
        have d2 := cell_later hb d2
        simp only at c0 c1 c2 d0 d1 d2
        have Hx := hid hx
        have Hy := hid hy
        clear hx hy hl0 hm0
        by_cases he : k1 = k2 ∧ t1 = t2 ∧ a1 = a2
        · obtain ⟨rfl, rfl, rfl⟩ := he
          go_wp2_with fail
          go_quiet (fail)
          go_wp2_with fail
          go_roundw
          case rel =>
            refine ⟨k + 1, by go_num, by omega, bl_drewN hb nq, hid (fun j hj => ?_)⟩
            by_cases e : j = k
            · subst e; rw [Hx.out, Hy.out]
            · exact hall.out j (by omega)
          case measure => simp [intOf]; omega
        · have hd : decide (l = m) = false := decide_eq_false (fun e => he (by
            have h1 := Hx.out
            rw [e, Hy.out] at h1
            simp only [Option.some.injEq, Tok.mk.injEq] at h1
            exact ⟨h1.1.symm, h1.2.1.symm, h1.2.2.symm⟩))
          have hd := hid hd
          have hne : ((k1 : Int) == (k2 : Int)) = false ∨ (k1 = k2 ∧ t1 ≠ t2) ∨ (k1 = k2 ∧ t1 = t2 ∧ (a1 == a2) = false) := by
            by_cases e1 : k1 = k2
            · by_cases e2 : t1 = t2
              · exact .inr (.inr ⟨e1, e2, by rw [beq_eq_false_iff_ne]; exact fun e3 => he ⟨e1, e2, e3⟩⟩)
              · exact .inr (.inl ⟨e1, e2⟩)
            · exact .inl (by rw [beq_eq_false_iff_ne]; omega)
          clear he
          rcases hne with hne | ⟨rfl, hne⟩ | ⟨rfl, rfl, hne⟩
          all_goals
            go_wp2_with fail
            go_quiet (fail)
            go_wp2_with fail
            go_ret
            exact ⟨by rw [hd.out]; rfl, bl_drewN hb nq⟩
      · have hkn : k = n := by omega
        go_wp2_with fail
        go_ret
        refine ⟨?_, hb⟩
        have : l = m := List.ext_getElem? (fun j => by
          by_cases hj : j < k
          · exact hall.out j hj
          · have e1 : l[j]? = none := List.getElem?_eq_none (by rw [Hn.out]; omega)
            have e2 : m[j]? = none := List.getElem?_eq_none (by have := Hlen.out; omega)
            rw [e1, e2])
        rw [decide_eq_true this]
        rfl
  · have hne : ((l.length : Int) != (m.length : Int)) = true := by rw [bne_iff_ne]; omega
    have hd : decide (l = m) = false := decide_eq_false (fun e => hlen (by rw [e]))
    rw [hd]
    clear h1 h2 hd
    go_enter Tryz.func25, Tryz.ntmps25
    go_wp2_with fail
    go_ret
    exact ⟨rfl, Below.refl _ _⟩
end Go.Proofs.YthknlifmkjdoeaaGreatDoor
