/-
  THE PROGRAM'S escape, Quote, Unquote.
-/
import Derived.Laws.Runes
import Derived.Test.YthknlifmkjdoeaaGreatDoorLexC
import Derived.Test.YthknlifmkjdoeaaGreatDoorRefI
import Derived.Test.YthknlifmkjdoeaaGreatDoorLexL
namespace Go.Proofs.YthknlifmkjdoeaaGreatDoor
open Go.RowKit Lode Go.Shelf
attribute [local go_sem ↓] Go.wp_at_zero Go.wp_at_succ
set_option maxRecDepth 100000 in
theorem escape_any (c : UInt8) (w : World) (hc : isB c = true) :
    Calls Tryz.prog 57 #[.int .u8 (c.toNat : Int)] w fun e w' => e = .returned (.string ⟨(quoteByte c).toArray⟩) ∧ w' = w := by
  have h0 : (0 : Int) ≤ (c.toNat : Int) := by omega
  have h1 : (c.toNat : Int) ≤ 126 := by rcases (isB_iff c).1 hc with h | h <;> omega
  have he : Utf8.encode (c.toNat : Int) = ⟨#[c]⟩ := by
    have hv : Utf8.valid (c.toNat : Int) = true := by rw [validRune_eq]; simp [validRune]; omega
    simp only [Utf8.encode, hv, if_true]
    rw [if_pos (by simp; omega)]
    simp
  have hw : wrap32 (c.toNat : Int) = c.toNat := IntWalk.wrap32_in _ ⟨by omega, by omega⟩
  clear hc
  have q : quoteByte c = if ((c.toNat : Int) == 10) = true then [92, 110] else if ((c.toNat : Int) == 34) = true then [92, 34] else if ((c.toNat : Int) == 92) = true then [92, 92] else [c] := by
    simp only [beq_iff_eq, c10, c34, c92, quoteByte]
    by_cases h1 : c = 10
    · simp [h1]
    · by_cases h2 : c = 34
      · simp [h2]
      · by_cases h3 : c = 92 <;> simp [h1, h2, h3]
  rw [q]; clear q
  by_cases h10 : ((c.toNat : Int) == 10) = true
  · rw [if_pos h10]
    go_enter Tryz.func57, Tryz.ntmps57
    go_wp2_with fail
    go_ret
    exact ⟨rfl, rfl⟩
  rw [if_neg h10]
  simp only [Bool.not_eq_true] at h10
  by_cases h34 : ((c.toNat : Int) == 34) = true
  · rw [if_pos h34]
    go_enter Tryz.func57, Tryz.ntmps57
    go_wp2_with fail
    go_ret
    have e34 : c = 34 := (c34 _).mp (by simpa using h34)
    subst e34
    exact ⟨rfl, rfl⟩
  rw [if_neg h34]
  simp only [Bool.not_eq_true] at h34
  by_cases h92 : ((c.toNat : Int) == 92) = true
  · rw [if_pos h92]
    go_enter Tryz.func57, Tryz.ntmps57
    go_wp2_with fail
    go_ret
    have e92 : c = 92 := (c92 _).mp (by simpa using h92)
    subst e92
    exact ⟨rfl, rfl⟩
  rw [if_neg h92]
  simp only [Bool.not_eq_true] at h92
  go_enter Tryz.func57, Tryz.ntmps57
  go_wp2_with fail
  go_ret
  exact ⟨rfl, rfl⟩
theorem Bd.writeStr {w0 w : World} {b : Nat} {ob : ByteArray} (h : Bd w0 b ob w) (x : ByteArray) (hs : ob.size + x.size ≤ 2000000000000) :
    Calls Tryz.prog 56 #[.pointer (some ⟨b, 0, none⟩), .string x] w fun e w' => e = .returned (.tuple #[.int .i64 x.size, .nilIface]) ∧ Bd w0 b (ob ++ x) w' :=
  (writeString_any w0.heap.size b _ x w h.1 (Nat.le_trans (Nat.le_of_eq (by rw [Lib.byteCells_length]; exact congrArg (· + x.size) (by simp : ob.data.toList.length = ob.size))) (by omega : ob.size + x.size ≤ 140737488355328)) h.2.size).mono fun e w' ⟨h1, h2, h3⟩ => ⟨h1, .inr (by
    have e : Lib.byteCells (ob ++ x).data.toList = Lib.byteCells ob.data.toList ++ Lib.strCells x := by rw [app_data]; simp [Lib.byteCells, Lib.strCells]
    rw [e]; exact h2), h.2.trans h3⟩
theorem findIx_all : ∀ l : List UInt8, decide (findIx (fun c => !isB c) l = none) = l.all isB
  | [] => rfl
  | c :: l => by
    have := findIx_all l
    simp only [findIx, List.all_cons]
    by_cases hc : isB c = true
    · simp only [hc, Bool.not_true, Bool.false_eq_true, if_false, Bool.true_and, ← this]
      cases findIx (fun c => !isB c) l <;> simp
    · simp [hc]
theorem quoteByte_size (c : UInt8) : (⟨(quoteByte c).toArray⟩ : ByteArray).size ≤ 2 := quoteByte_le c
theorem bytes_of (x : ByteArray) (l : List UInt8) (h : x.data.toList = l) : x = ⟨l.toArray⟩ := by subst h; exact ba_eta x
theorem lall_any (s : ByteArray) (w : World) (hs : s.size ≤ 1000000000000) :
    Calls Tryz.prog 55 #[.string s, .func (.func 47) #[] #[]] w fun e w' => e = .returned (.bool (s.data.toList.all isB)) ∧ Below w.heap.size w w' :=
  (all_any s 47 #[] isB w (isByteP w) (by omega)).mono fun e w' ⟨h1, h2⟩ => ⟨by rw [h1, findIx_all], h2⟩
/-- k bytes have been quoted into the builder -/
def LqRel (s : ByteArray) (w : World) (i : Value) (wr : World) : Prop :=
  ∃ (k : Nat) (ob : ByteArray), i = .int .i64 k ∧ k ≤ s.size ∧ Bd w w.heap.size ob wr ∧ ob.data.toList = (s.data.toList.take k).flatMap quoteByte ∧ ob.size ≤ 2 * k
set_option maxRecDepth 100000 in
theorem lquote_any (s : ByteArray) (w : World) (hs : s.size ≤ 1000000000000) :
    Calls Tryz.prog 26 #[.string s] w fun e w' => e = .returned (.tuple #[.string ⟨(quote s.data.toList).1.toArray⟩, .int .i64 (quote s.data.toList).2]) ∧ Below w.heap.size w w' := by
  generalize hr : quote s.data.toList = r
  have Hr := hid hr; clear hr
  by_cases h60 : 60 < s.size
  · have e : r = ([], 5) := by rw [← Hr.out, quote, if_pos (by simpa using h60)]
    subst e
    go_enter Tryz.func26, Tryz.ntmps26
    go_wp2_with fail
    go_ret2
    exact ⟨rfl, Below.refl _ _⟩
  have HA := hid (lall_any s w (by omega))
  cases hall : s.data.toList.all isB with
  | false =>
    have e : r = ([], 4) := by rw [← Hr.out, quote, if_neg (by simpa using h60), if_neg (by simp [hall])]
    subst e
    rw [hall] at HA
    go_enter Tryz.func26, Tryz.ntmps26
    go_wp2_with (go_at_call 55; refine HA.out.mono ?_; rintro e w1 ⟨rfl, hb1⟩)
    go_ret2
    exact ⟨rfl, hb1⟩
  | true =>
    have hB : Hid (∀ (k : Nat) (h : k < s.size), isB s[k] = true) := hid (fun k h => by
      rw [List.all_eq_true] at hall
      exact hall _ (by have : s[k] = s.data.toList[k]'(by simpa using h) := by simp; rfl
                       rw [this]; exact List.getElem_mem _))
    have Hr2 := hid (show r = (34 :: s.data.toList.flatMap quoteByte ++ [34], 0) by rw [← Hr.out, quote, if_neg (by simpa using h60), if_pos hall]; rfl)
    rw [hall] at HA
    clear hall
    go_enter Tryz.func26, Tryz.ntmps26
    go_wp2_with (go_at_call 55; refine HA.out.mono ?_; rintro e w1 ⟨rfl, hb1⟩)
    go_loopw [16] (LqRel s w1) (fun i _ => s.size - (intOf i).toNat)
    case atStart => exact ⟨0, ByteArray.empty, rfl, by omega, Bd.fresh w1 _ rfl, by simp, by decide⟩
    case round =>
      obtain ⟨k, ob, rfl, hk, hb, hob, hsz⟩ := hrel
      have Hob := hid hob; clear hob
      by_cases hlt : k < s.size
      · have hE := hid (fun w => escape_any s[k] w (hB.out k hlt))
        have hq2 := quoteByte_size s[k]
        have hW := hid (hb.writeStr ⟨(quoteByte s[k]).toArray⟩ (by omega))
        go_wp2_with (first
          | (go_at_call 57; refine (hE.out _).mono ?_; rintro e w' ⟨rfl, rfl⟩)
          | (go_at_call 56; refine hW.out.mono ?_; rintro e w2 ⟨rfl, hb2⟩))
        go_roundw
        case rel => exact ⟨k + 1, _, by go_num, by omega, hb2, by rw [app_data, Hob.out, take_one s k hlt]; simp, by rw [ByteArray.size_append]; omega⟩
        case measure => simp [intOf]; omega
      · have hf : Hid (r = (34 :: ob.data.toList ++ [34], 0)) := hid (by rw [Hr2.out, Hob.out, List.take_of_length_le (by simp; omega)])
        go_wp2_with (go_at_call 58; refine hb.str.mono ?_; rintro e w2 ⟨rfl, hf2⟩)
        go_ret2
        refine ⟨?_, below_then hb1 hf2.2⟩
        rw [hf.out, bytes_of (⟨#[34]⟩ ++ ob ++ ⟨#[34]⟩) (34 :: ob.data.toList ++ [34]) (by rw [app_data, app_data]; rfl)]
        rfl
theorem quo_isB : ∀ (m : Nat) (r : List UInt8), r.length ≤ m → ∀ t n, quo r = some (t, n) → (r.take n).all isB = true
  | 0, r, hm, t, n, h => by
    have : r = [] := List.eq_nil_of_length_eq_zero (by omega)
    subst this; simp [quo] at h
  | m + 1, [], _, t, n, h => by simp [quo] at h
  | m + 1, c :: r, hm, t, n, h => by
    simp only [List.length_cons] at hm
    unfold quo at h
    split at h
    · cases h
    · rename_i hc
      have hcB : isB c = true := by simp [isB]; omega
      split at h
      · cases h; simp [hcB]
      · split at h
        · cases r with
          | nil => cases h
          | cons d r' =>
            simp only [List.length_cons] at hm
            simp only at h
            have hd : ∀ y, (d = 34 ∨ d = 92 ∨ d = 110) → (r'.take y).all isB = true → ((c :: d :: r').take (y + 2)).all isB = true := fun y hd hy => by
              have hdB : isB d = true := by rcases hd with rfl | rfl | rfl <;> rfl
              simp [hcB, hdB]; simpa using hy
            split at h
            · rename_i h1
              cases hq : quo r' with
              | none => rw [hq] at h; cases h
              | some x =>
                rw [hq] at h; cases h
                exact hd _ (by rcases h1 with h | h <;> simp [h]) (quo_isB m r' (by omega) _ _ hq)
            · split at h
              · rename_i h1
                cases hq : quo r' with
                | none => rw [hq] at h; cases h
                | some x =>
                  rw [hq] at h; cases h
                  exact hd _ (by simp [h1]) (quo_isB m r' (by omega) _ _ hq)
              · cases h
        · cases hq : quo r with
          | none => rw [hq] at h; cases h
          | some x =>
            rw [hq] at h; cases h
            have := quo_isB m r (by omega) _ _ hq
            simp [hcB]; simpa using this
theorem unquote_bad (s : List UInt8) (h : s.all isB = false) : unquote s = ([], 4) := by
  unfold unquote
  split
  · rename_i h34
    cases hq : Lode.quoted s with
    | none => rfl
    | some x =>
      obtain ⟨t, n⟩ := x
      simp only
      split
      · rename_i hn
        exfalso
        unfold Lode.quoted at hq
        cases s with
        | nil => cases h34
        | cons c r =>
          simp only [List.head?_cons, Option.some.injEq] at h34
          subst h34
          simp only [List.drop_succ_cons, List.drop_zero] at hq
          cases hqq : quo r with
          | none => rw [hqq] at hq; cases hq
          | some y =>
            rw [hqq] at hq
            simp only at hq
            split at hq
            · cases hq
              have := quo_isB _ r (Nat.le_refl _) _ _ hqq
              simp only [List.length_cons, Nat.add_right_cancel_iff] at hn
              rw [hn, List.take_length] at this
              simp only [List.all_cons, this] at h
              cases h
            · cases hq
      · rfl
  · rfl
theorem pre34 (s : List UInt8) : Lib.hasPrefix s [34] = decide (s.head? = some 34) := by
  cases s with
  | nil => rfl
  | cons c r =>
    by_cases h : c = 34
    · subst h; simp [Lib.hasPrefix, List.isPrefixOf]
    · simp [Lib.hasPrefix, List.isPrefixOf, h]; exact fun e => h e.symm
def UPost (r : List UInt8 × Nat) (w : World) (e : Ending) (w' : World) : Prop := e = .returned (.tuple #[.string ⟨r.1.toArray⟩, .int .i64 r.2]) ∧ Below w.heap.size w w'
set_option maxRecDepth 100000 in
theorem lunquote_any (s : ByteArray) (w : World) (hs : s.size ≤ 1000000000000) :
    Calls Tryz.prog 27 #[.string s] w (UPost (unquote s.data.toList) w) := by
  generalize hr : unquote s.data.toList = r
  have HP := hid (Tryz.strings_HasPrefix s ⟨#[34]⟩ w)
  rw [show (⟨#[34]⟩ : ByteArray).data.toList = [34] from rfl, pre34] at HP
  have HA := hid (lall_any s w (by omega))
  by_cases h34 : s.data.toList.head? = some 34
  · rw [decide_eq_true h34] at HP
    cases hall : s.data.toList.all isB with
    | false =>
      rw [unquote_bad _ hall] at hr
      subst hr
      rw [hall] at HA
      clear h34 hall
      go_enter Tryz.func27, Tryz.ntmps27
      go_wp2_with (first
        | (go_at_call 59; refine HP.out.mono ?_; rintro e w1 ⟨rfl, rfl⟩)
        | (go_at_call 55; refine HA.out.mono ?_; rintro e w1 ⟨rfl, hb1⟩))
      go_ret2
      exact ⟨rfl, hb1⟩
    | true =>
      have hB : ∀ c, c ∈ s.data.toList → isB c = true := fun c hc => by rw [List.all_eq_true] at hall; exact hall c hc
      rw [hall] at HA
      have HQ := hid (fun w => lquoted_any s w hs hB)
      clear hall hB
      have hl : s.data.toList.length = s.size := by simp
      cases hq : Lode.quoted s.data.toList with
      | none =>
        have hun : r = ([], 4) := by rw [← hr, unquote, if_pos h34, hq]
        rw [hq] at HQ
        subst hun
        clear hq hr h34
        go_enter Tryz.func27, Tryz.ntmps27
        go_wp2_with (first
          | (go_at_call 59; refine HP.out.mono ?_; rintro e w1 ⟨rfl, rfl⟩)
          | (go_at_call 55; refine HA.out.mono ?_; rintro e w1 ⟨rfl, hb1⟩)
          | (go_at_call 60; refine (HQ.out _).mono ?_; rintro e w2 ⟨tt, nn, okk, rfl, hqr, hb2⟩; obtain rfl : okk = false := hqr))
        go_ret2
        exact ⟨rfl, below_then hb1 hb2⟩
      | some x =>
        obtain ⟨t', n'⟩ := x
        have hun : r = if n' = s.size then (t', 0) else ([], 4) := by rw [← hr, unquote, if_pos h34, hq, ← hl]
        rw [hq] at HQ
        clear hq hr h34
        by_cases hn : n' = s.size
        · rw [if_pos hn] at hun
          subst hun
          go_enter Tryz.func27, Tryz.ntmps27
          go_wp2_with (first
            | (go_at_call 59; refine HP.out.mono ?_; rintro e w1 ⟨rfl, rfl⟩)
            | (go_at_call 55; refine HA.out.mono ?_; rintro e w1 ⟨rfl, hb1⟩)
            | (go_at_call 60; refine (HQ.out _).mono ?_; rintro e w2 ⟨tt, nn, okk, rfl, hqr, hb2⟩; obtain ⟨rfl, rfl, rfl⟩ : okk = true ∧ nn = n' ∧ tt = ⟨t'.toArray⟩ := hqr))
          go_ret2
          exact ⟨rfl, below_then hb1 hb2⟩
        · rw [if_neg hn] at hun
          subst hun
          have hn' : ((n' : Int) != (s.size : Int)) = true := by rw [bne_iff_ne]; omega
          go_enter Tryz.func27, Tryz.ntmps27
          go_wp2_with (first
            | (go_at_call 59; refine HP.out.mono ?_; rintro e w1 ⟨rfl, rfl⟩)
            | (go_at_call 55; refine HA.out.mono ?_; rintro e w1 ⟨rfl, hb1⟩)
            | (go_at_call 60; refine (HQ.out _).mono ?_; rintro e w2 ⟨tt, nn, okk, rfl, hqr, hb2⟩; obtain ⟨rfl, rfl, rfl⟩ : okk = true ∧ nn = n' ∧ tt = ⟨t'.toArray⟩ := hqr))
          go_ret2
          exact ⟨rfl, below_then hb1 hb2⟩
  · rw [decide_eq_false h34] at HP
    have e : r = ([], 4) := by rw [← hr, unquote, if_neg h34]
    subst e
    clear h34 hr
    go_enter Tryz.func27, Tryz.ntmps27
    go_wp2_with (first
      | (go_at_call 59; refine HP.out.mono ?_; rintro e w1 ⟨rfl, rfl⟩)
      | (go_at_call 55; refine HA.out.mono ?_; rintro e w1 ⟨rfl, hb1⟩))
    go_ret2
    exact ⟨rfl, Below.refl _ _⟩
end Go.Proofs.YthknlifmkjdoeaaGreatDoor

/-
  THE PROGRAM'S spell, spellAll, apart, Apart.
-/
namespace Lode
/-- a token's spelling, or the error -/
def lspell (k : Nat) (t : List UInt8) : List UInt8 × Nat :=
  if k = 4 then (if (quote t).2 = 0 then ((quote t).1, 0) else ([], 4)) else
  if (read t).1 = [⟨k, t, 0⟩] ∧ (read t).2.2 = 0 then (t, 0) else ([], 4)
end Lode
namespace Go.Proofs.YthknlifmkjdoeaaGreatDoor
open Go.RowKit Lode Go.Shelf
attribute [local go_sem ↓] Go.wp_at_zero Go.wp_at_succ
abbrev SV (k : Int) (t : List UInt8) (a : Int) (sp : List UInt8) : Value := .agg #[.int .u8 k, .string ⟨t.toArray⟩, .int .i64 a, .string ⟨sp.toArray⟩]
/-- the token's box and the result's cells -/
structure SpW (w W : World) (k : Int) (t : List UInt8) (a : Int) (k' : Int) (t' : List UInt8) (a' : Int) (sp : List UInt8) : Prop where
  b : Below w.heap.size w W
  tok : W.heap[w.heap.size]? = some (.cells #[.int .u8 k, .string ⟨t.toArray⟩, .int .i64 a] 46 (0, 0))
  out : W.heap[w.heap.size + 1]? = some (.cells #[.int .u8 k', .string ⟨t'.toArray⟩, .int .i64 a', .string ⟨sp.toArray⟩] 96 (0, 0))
theorem SpW.start (w : World) (k : Int) (t : List UInt8) (a : Int) (k' : Int) (t' : List UInt8) (a' : Int) (sp : List UInt8) : SpW w ((w.alloc (.cells #[.int .u8 k, .string ⟨t.toArray⟩, .int .i64 a] 46 (0, 0))).alloc (.cells #[.int .u8 k', .string ⟨t'.toArray⟩, .int .i64 a', .string ⟨sp.toArray⟩] 96 (0, 0))) k t a k' t' a' sp :=
  ⟨bl_alloc (below_alloc _ _) _, heap_old _ (heap_new _ _), heap_at _ _ _ (by simp)⟩
theorem SpW.later {w W W' : World} {k : Int} {t : List UInt8} {a : Int} {k' : Int} {t' : List UInt8} {a' : Int} {sp : List UInt8} (h : SpW w W k t a k' t' a' sp) (hb : Below W.heap.size W W') : SpW w W' k t a k' t' a' sp := ⟨below_then h.b hb, heap_later hb h.tok, heap_later hb h.out⟩
theorem SpW.toks {w W : World} {k : Int} {t : List UInt8} {a : Int} {k' : Int} {t' : List UInt8} {a' : Int} {sp : List UInt8} (h : SpW w W k t a k' t' a' sp) : W.cell? ⟨w.heap.size, 0, none⟩ = some (.int .u8 k) ∧ W.cell? ⟨w.heap.size, 1, none⟩ = some (.string ⟨t.toArray⟩) ∧ W.cell? ⟨w.heap.size, 2, none⟩ = some (.int .i64 a) := ⟨cell_heap h.tok 0, cell_heap h.tok 1, cell_heap h.tok 2⟩
theorem SpW.outs {w W : World} {k : Int} {t : List UInt8} {a : Int} {k' : Int} {t' : List UInt8} {a' : Int} {sp : List UInt8} (h : SpW w W k t a k' t' a' sp) : W.cell? ⟨w.heap.size + 1, 0, none⟩ = some (.int .u8 k') ∧ W.cell? ⟨w.heap.size + 1, 1, none⟩ = some (.string ⟨t'.toArray⟩) ∧ W.cell? ⟨w.heap.size + 1, 2, none⟩ = some (.int .i64 a') ∧ W.cell? ⟨w.heap.size + 1, 3, none⟩ = some (.string ⟨sp.toArray⟩) ∧
    W.frozen? ⟨w.heap.size + 1, 0, none⟩ = false ∧ W.frozen? ⟨w.heap.size + 1, 1, none⟩ = false ∧ W.frozen? ⟨w.heap.size + 1, 2, none⟩ = false ∧ W.frozen? ⟨w.heap.size + 1, 3, none⟩ = false := ⟨cell_heap h.out 0, cell_heap h.out 1, cell_heap h.out 2, cell_heap h.out 3, frozen_heap h.out 0, frozen_heap h.out 1, frozen_heap h.out 2, frozen_heap h.out 3⟩
theorem SpW.sp {w W : World} {k : Int} {t : List UInt8} {a : Int} {k' : Int} {t' : List UInt8} {a' : Int} {sp : List UInt8} (h : SpW w W k t a k' t' a' sp) (sp2 : List UInt8) : SpW w (W.setCell ⟨w.heap.size + 1, 3, none⟩ (.string ⟨sp2.toArray⟩)) k t a k' t' a' sp2 :=
  ⟨bl_set h.b _ _ (by omega) _, (set_far (by omega)).trans h.tok, set_heap h.out 3 _⟩
theorem SpW.all {w W : World} {k : Int} {t : List UInt8} {a : Int} {k' : Int} {t' : List UInt8} {a' : Int} {sp : List UInt8} (h : SpW w W k t a k' t' a' sp) (k2 : Int) (t2 : List UInt8) (a2 : Int) (sp2 : List UInt8) : SpW w ((((W.setCell ⟨w.heap.size + 1, 0, none⟩ (.int .u8 k2)).setCell ⟨w.heap.size + 1, 1, none⟩ (.string ⟨t2.toArray⟩)).setCell ⟨w.heap.size + 1, 2, none⟩ (.int .i64 a2)).setCell ⟨w.heap.size + 1, 3, none⟩ (.string ⟨sp2.toArray⟩)) k t a k2 t2 a2 sp2 :=
  ⟨bl_set (bl_set (bl_set (bl_set h.b _ _ (by omega) _) _ _ (by omega) _) _ _ (by omega) _) _ _ (by omega) _, (set_far (by omega)).trans ((set_far (by omega)).trans ((set_far (by omega)).trans ((set_far (by omega)).trans h.tok))), set_heap (set_heap (set_heap (set_heap h.out 0 _) 1 _) 2 _) 3 _⟩
/-- what spell hands back -/
def SpPost (k : Int) (t : List UInt8) (a : Int) (r : List UInt8 × Nat) (w : World) (e : Ending) (w' : World) : Prop :=
  (r.2 = 0 ∧ e = .returned (.tuple #[SV k t a r.1, .int .i64 0]) ∨ r.2 = 4 ∧ e = .returned (.tuple #[SV 0 [] 0 [], .int .i64 4])) ∧ Below w.heap.size w w'
theorem one_tok {w : World} {b : Nat} {v : Value} {k : Nat} {t : List UInt8} {a : Int} (h : Toks w b v [⟨k, t, a⟩]) : ∃ g cap, v = .slice (some ⟨g, 0, none⟩) 1 cap ∧ w.cell? ⟨g, 0, none⟩ = some (.int .u8 k) ∧ w.cell? ⟨g, 1, none⟩ = some (.string ⟨t.toArray⟩) ∧ w.cell? ⟨g, 2, none⟩ = some (.int .i64 a) := by
  obtain ⟨_, ⟨_, h⟩ | ⟨g, cap, cur, rfl, h⟩⟩ := id h
  · cases h
  · exact ⟨g, cap, rfl, World.ownsRow.cellAt h 0 (by simp), World.ownsRow.cellAt h 1 (by simp), World.ownsRow.cellAt h 2 (by simp)⟩
set_option maxHeartbeats 2000000 in
set_option maxRecDepth 100000 in
theorem lspell_any (k : Nat) (t : List UInt8) (a : Int) (w : World) (hs : t.length ≤ 1000000000000) (hG : Glob w) :
    Calls Tryz.prog 66 #[.agg #[.int .u8 k, .string ⟨t.toArray⟩, .int .i64 a]] w (SpPost k t a (lspell k t) w) := by
  generalize hr : lspell k t = r
  have Hr := hid hr; clear hr
  have HG := hid hG; clear hG
  by_cases hk : k = 4
  · subst hk
    have Hq := hid (fun w => lquote_any ⟨t.toArray⟩ w hs)
    rw [show (⟨t.toArray⟩ : ByteArray).data.toList = t from rfl] at Hq
    by_cases h0 : (quote t).2 = 0
    · have hre : r = ((quote t).1, 0) := by rw [← Hr.out, lspell, if_pos rfl, if_pos h0]
      generalize quote t = q at *
      obtain ⟨q1, q2⟩ := q
      simp only at h0 hre
      subst h0 hre
      go_enter Tryz.func66, Tryz.ntmps66
      go_wp2_with (go_at_call 26; refine (Hq.out _).mono ?_; rintro e w1 ⟨rfl, hb1⟩; have hS := (SpW.start w _ _ _ _ _ _ _).later hb1; obtain ⟨c0, c1, c2, c3, f0, f1, f2, f3⟩ := hS.outs)
      have hS2 := (hS.sp q1).all 4 t a q1
      generalize World.setCell _ ⟨w.heap.size + 1, 3, none⟩ _ = W9 at hS2 ⊢
      obtain ⟨u0, u1, u2, u3, _⟩ := hS2.outs
      refine bodyPost_ret (v := .tuple #[SV 4 t a q1, .int .i64 0]) (by simp [results, Tryz.results66, go_sem, u0, u1, u2, u3]) rfl ?_
      exact ⟨.inl ⟨rfl, rfl⟩, hS2.b⟩
    · have hre : r = ([], 4) := by rw [← Hr.out, lspell, if_pos rfl, if_neg h0]
      generalize quote t = q at *
      obtain ⟨q1, q2⟩ := q
      simp only at h0
      subst hre
      have h0' : ((q2 : Int) != 0) = true := by rw [bne_iff_ne]; omega
      go_enter Tryz.func66, Tryz.ntmps66
      go_wp2_with (go_at_call 26; refine (Hq.out _).mono ?_; rintro e w1 ⟨rfl, hb1⟩; have hS := (SpW.start w _ _ _ _ _ _ _).later hb1; obtain ⟨c0, c1, c2, c3, f0, f1, f2, f3⟩ := hS.outs)
      have hS2 := (hS.sp q1).all 0 [] 0 []
      generalize World.setCell _ ⟨w.heap.size + 1, 3, none⟩ (.string ⟨#[]⟩) = W9 at hS2 ⊢
      obtain ⟨u0, u1, u2, u3, _⟩ := hS2.outs
      refine bodyPost_ret (v := .tuple #[SV 0 [] 0 [], .int .i64 4]) (by simp [results, Tryz.results66, go_sem, u0, u1, u2, u3]) rfl ?_
      exact ⟨.inr ⟨rfl, rfl⟩, hS2.b⟩
  · have hk' : ((k : Int) == 4) = false := by rw [beq_eq_false_iff_ne]; omega
    have hre : r = if (read t).1 = [⟨k, t, 0⟩] ∧ (read t).2.2 = 0 then (t, 0) else ([], 4) := by rw [← Hr.out, lspell, if_neg hk]
    have HR := hid (fun (W : World) (hb : Below w.heap.size w W) => lread_any ⟨t.toArray⟩ W hs (HG.out.later hb))
    rw [show (⟨t.toArray⟩ : ByteArray).data.toList = t from rfl] at HR
    have hb0 : ∀ o o', Below w.heap.size w ((w.alloc o).alloc o') := fun o o' => bl_alloc (below_alloc _ _) _
    generalize read t = x at *
    obtain ⟨L, xa, xe⟩ := x
    by_cases h0 : xe = 0
    · subst h0
      by_cases h1 : L.length = 1
      · obtain ⟨⟨k1, t1, a1⟩, rfl⟩ := List.length_eq_one_iff.1 h1
        clear h1
        by_cases he : k1 = k ∧ t1 = t ∧ a1 = 0
        · obtain ⟨rfl, rfl, rfl⟩ := he
          have hr2 : r = (t1, 0) := by rw [hre, if_pos ⟨rfl, rfl⟩]
          subst hr2
          clear hre
          go_enter Tryz.func66, Tryz.ntmps66
          go_wp2_with (go_at_call 23; refine (HR.out _ (hb0 _ _)).mono ?_; rintro e w1 ⟨v, rfl, htok, hb1⟩; obtain ⟨g, cap, rfl, e0, e1, e2⟩ := one_tok htok; have hS := (SpW.start w _ _ _ _ _ _ _).later hb1; obtain ⟨c0, c1, c2, c3, f0, f1, f2, f3⟩ := hS.outs; obtain ⟨d0, d1, d2⟩ := hS.toks)
          go_quiet (fail)
          have hS3 := (hS.later (bl_drewN (Below.refl _ _) nq)).all k1 t1 a t1
          go_wp2_with fail
          generalize World.setCell _ ⟨w.heap.size + 1, 3, none⟩ _ = W9 at hS3 ⊢
          obtain ⟨u0, u1, u2, u3, _⟩ := hS3.outs
          refine bodyPost_ret (v := .tuple #[SV k1 t1 a t1, .int .i64 0]) (by simp [results, Tryz.results66, go_sem, u0, u1, u2, u3]) rfl ?_
          exact ⟨.inl ⟨rfl, rfl⟩, hS3.b⟩
        · have hr2 : r = ([], 4) := by
            rw [hre, if_neg]
            rintro ⟨e, _⟩
            simp only [List.cons.injEq, Tok.mk.injEq, and_true] at e
            exact he e
          subst hr2
          clear hre
          have hne : ((k1 : Int) == (k : Int)) = false ∨ (k1 = k ∧ t1 ≠ t) ∨ (k1 = k ∧ t1 = t ∧ (a1 == 0) = false) := by
            by_cases e1 : k1 = k
            · by_cases e2 : t1 = t
              · exact .inr (.inr ⟨e1, e2, by rw [beq_eq_false_iff_ne]; exact fun e3 => he ⟨e1, e2, e3⟩⟩)
              · exact .inr (.inl ⟨e1, e2⟩)
            · exact .inl (by rw [beq_eq_false_iff_ne]; omega)
          clear he
          rcases hne with hne | ⟨rfl, hne⟩ | ⟨rfl, rfl, hne⟩
          all_goals
            go_enter Tryz.func66, Tryz.ntmps66
            go_wp2_with (go_at_call 23; refine (HR.out _ (hb0 _ _)).mono ?_; rintro e w1 ⟨v, rfl, htok, hb1⟩; obtain ⟨g, cap, rfl, e0, e1, e2⟩ := one_tok htok; have hS := (SpW.start w _ _ _ _ _ _ _).later hb1; obtain ⟨c0, c1, c2, c3, f0, f1, f2, f3⟩ := hS.outs; obtain ⟨d0, d1, d2⟩ := hS.toks)
            go_quiet (fail)
            have hS3 := (hS.later (bl_drewN (Below.refl _ _) nq)).all 0 [] 0 []
            go_wp2_with fail
            generalize World.setCell _ ⟨w.heap.size + 1, 3, none⟩ (.string ⟨#[]⟩) = W9 at hS3 ⊢
            obtain ⟨u0, u1, u2, u3, _⟩ := hS3.outs
            refine bodyPost_ret (v := .tuple #[SV 0 [] 0 [], .int .i64 4]) (by simp [results, Tryz.results66, go_sem, u0, u1, u2, u3]) rfl ?_
            exact ⟨.inr ⟨rfl, rfl⟩, hS3.b⟩
      · have hr2 : r = ([], 4) := by rw [hre, if_neg (fun e => h1 (by have e1 := e.1; simp only at e1; rw [e1]; rfl))]
        subst hr2
        have h1' : ((L.length : Int) != 1) = true := by rw [bne_iff_ne]; omega
        clear hre h1
        go_enter Tryz.func66, Tryz.ntmps66
        go_wp2_with (go_at_call 23; refine (HR.out _ (hb0 _ _)).mono ?_; rintro e w1 ⟨v, rfl, htok, hb1⟩; obtain ⟨p, cap, rfl⟩ := htok.form; have hS := (SpW.start w _ _ _ _ _ _ _).later hb1; obtain ⟨c0, c1, c2, c3, f0, f1, f2, f3⟩ := hS.outs; obtain ⟨d0, d1, d2⟩ := hS.toks)
        go_quiet (fail)
        have hS3 := (hS.later (bl_drewN (Below.refl _ _) nq)).all 0 [] 0 []
        go_wp2_with fail
        generalize World.setCell _ ⟨w.heap.size + 1, 3, none⟩ (.string ⟨#[]⟩) = W9 at hS3 ⊢
        obtain ⟨u0, u1, u2, u3, _⟩ := hS3.outs
        refine bodyPost_ret (v := .tuple #[SV 0 [] 0 [], .int .i64 4]) (by simp [results, Tryz.results66, go_sem, u0, u1, u2, u3]) rfl ?_
        exact ⟨.inr ⟨rfl, rfl⟩, hS3.b⟩
    · have hr2 : r = ([], 4) := by rw [hre, if_neg (fun e => h0 e.2)]
      subst hr2
      have h0' : ((xe : Int) != 0) = true := by rw [bne_iff_ne]; omega
      clear hre
      go_enter Tryz.func66, Tryz.ntmps66
      go_wp2_with (go_at_call 23; refine (HR.out _ (hb0 _ _)).mono ?_; rintro e w1 ⟨v, rfl, htok, hb1⟩; obtain ⟨p, cap, rfl⟩ := htok.form; have hS := (SpW.start w _ _ _ _ _ _ _).later hb1; obtain ⟨c0, c1, c2, c3, f0, f1, f2, f3⟩ := hS.outs; obtain ⟨d0, d1, d2⟩ := hS.toks)
      go_quiet (fail)
      have hS3 := (hS.later (bl_drewN (Below.refl _ _) nq)).all 0 [] 0 []
      go_wp2_with fail
      generalize World.setCell _ ⟨w.heap.size + 1, 3, none⟩ (.string ⟨#[]⟩) = W9 at hS3 ⊢
      obtain ⟨u0, u1, u2, u3, _⟩ := hS3.outs
      refine bodyPost_ret (v := .tuple #[SV 0 [] 0 [], .int .i64 4]) (by simp [results, Tryz.results66, go_sem, u0, u1, u2, u3]) rfl ?_
      exact ⟨.inr ⟨rfl, rfl⟩, hS3.b⟩
end Go.Proofs.YthknlifmkjdoeaaGreatDoor
