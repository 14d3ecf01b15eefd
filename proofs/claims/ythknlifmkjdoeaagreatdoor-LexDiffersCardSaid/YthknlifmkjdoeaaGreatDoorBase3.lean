/-
  READING A TEXT, as both programs do it, token by token, beside Lode's 'scan'; tokens in memory.
-/
import Derived.Test.YthknlifmkjdoeaaGreatDoorBase2
namespace Go.Proofs.YthknlifmkjdoeaaGreatDoor
open Go.RowKit Lode Go.Shelf
/-! ### how wide a token is -/
theorem quo_wide : ∀ (m : Nat) (r : List UInt8), r.length ≤ m → ∀ t n, quo r = some (t, n) → 1 ≤ n ∧ n ≤ r.length ∧ t.length ≤ n - 1
  | 0, r, hm, t, n, h => by
    have : r = [] := List.eq_nil_of_length_eq_zero (by omega)
    subst this; simp [quo] at h
  | m + 1, [], _, t, n, h => by simp [quo] at h
  | m + 1, c :: r, hm, t, n, h => by
    simp only [List.length_cons] at hm
    unfold quo at h
    split at h
    · cases h
    · split at h
      · cases h; simp
      · split at h
        · cases r with
          | nil => cases h
          | cons d r' =>
            simp only [List.length_cons] at hm
            simp only at h
            split at h
            · cases hq : quo r' with
              | none => rw [hq] at h; cases h
              | some x =>
                rw [hq] at h; cases h
                have := quo_wide m r' (by omega) _ _ hq
                simp only [List.length_cons]; omega
            · split at h
              · cases hq : quo r' with
                | none => rw [hq] at h; cases h
                | some x =>
                  rw [hq] at h; cases h
                  have := quo_wide m r' (by omega) _ _ hq
                  simp only [List.length_cons]; omega
              · cases h
        · cases hq : quo r with
          | none => rw [hq] at h; cases h
          | some x =>
            rw [hq] at h; cases h
            have := quo_wide m r (by omega) _ _ hq
            simp only [List.length_cons]; omega
theorem quoted_wide {r : List UInt8} {t : List UInt8} {n : Nat} (h : Lode.quoted r = some (t, n)) : 2 ≤ n ∧ n ≤ r.length ∧ t.length ≤ 60 := by
  unfold Lode.quoted at h
  cases hq : quo (r.drop 1) with
  | none => rw [hq] at h; cases h
  | some x =>
    obtain ⟨t', n'⟩ := x
    rw [hq] at h
    simp only at h
    split at h
    · cases h
      have := quo_wide _ _ (Nat.le_refl _) _ _ hq
      simp only [List.length_drop] at this
      omega
    · cases h
theorem runLen_le' (p : UInt8 → Bool) : ∀ m : List UInt8, runLen p m ≤ m.length
  | [] => by simp [runLen]
  | d :: m => by simp only [runLen]; have := runLen_le' p m; split <;> simp; omega
theorem isPre_le : ∀ (g r : List UInt8), isPre g r = true → g.length ≤ r.length
  | [], _, _ => by simp
  | _ :: _, [], h => by simp [isPre] at h
  | a :: g, b :: r, h => by
    simp only [isPre, Bool.and_eq_true] at h
    have := isPre_le g r h.2
    simp; omega
theorem sign_pos : ∀ g, g ∈ signList → 1 ≤ g.length := by decide
theorem tok1_wide {r : List UInt8} {k : Nat} {t : List UInt8} {m : Nat} (h : tok1 r = some (k, t, m)) : 1 ≤ m ∧ m ≤ r.length ∧ 1 ≤ k ∧ k ≤ 6 := by
  cases r with
  | nil => cases h
  | cons c r =>
    simp only [tok1] at h
    have r1 := runLen_le' (fun c => small c || digit c) r
    have r2 := runLen_le' digit r
    split at h
    · split at h
      · cases h; refine ⟨by omega, by simp; omega, by split <;> simp, by split <;> simp⟩
      · cases h
    · split at h
      · split at h
        · cases h; refine ⟨by omega, by simp; omega, by omega, by omega⟩
        · cases h
      · split at h
        · split at h
          · rename_i hn
            cases h
            exact ⟨by omega, by simp; omega, by omega, by omega⟩
          · cases h
        · split at h
          · cases hq : Lode.quoted (c :: r) with
            | none => rw [hq] at h; cases h
            | some x =>
              rw [hq] at h; cases h
              have := quoted_wide hq
              exact ⟨by omega, this.2.1, by omega, by omega⟩
          · cases hg : signList.find? (fun g => isPre g (c :: r)) with
            | none => rw [hg] at h; cases h
            | some g =>
              rw [hg] at h; cases h
              have h1 := List.find?_some hg
              have h2 := List.mem_of_find?_eq_some hg
              have h3 := sign_pos _ h2
              exact ⟨h3, isPre_le _ _ h1, by omega, by omega⟩
/-! ### reading, step by step -/
def addPre (L : List Tok) (x : List Tok × Nat × Nat) : List Tok × Nat × Nat := if x.2.2 = 0 then (L ++ x.1, 0, 0) else ([], x.2)
theorem scan_norm (f n a : Nat) (r : List UInt8) : addPre [] (scan f n a r) = scan f n a r := by
  cases f with
  | zero => simp [scan, addPre]
  | succ f =>
    simp only [scan]
    split
    · simp [addPre]
    · split
      · simp [addPre]
      · split
        · simp [addPre]
        · generalize scan f (n + 1) _ _ = x
          by_cases hx : x.2.2 = 0 <;> simp [addPre, hx]
theorem addPre_next (L : List Tok) (t : Tok) (x : List Tok × Nat × Nat) : addPre L (if x.2.2 = 0 then (t :: x.1, 0, 0) else ([], x.2)) = addPre (L ++ [t]) x := by
  by_cases hx : x.2.2 = 0 <;> simp [addPre, hx]
/-- L has been read, and a is where the next token begins (or the end) -/
def RInv (s : List UInt8) (r : List Tok × Nat × Nat) (L : List Tok) (a : Nat) : Prop :=
  ∃ a' fuel, a = a' + gapLen false (s.drop a') ∧ s.length < fuel + a' ∧ a' ≤ s.length ∧ L.length ≤ 1200 ∧ r = addPre L (scan fuel L.length a' (s.drop a'))
theorem gapLen_le : ∀ (b : Bool) (m : List UInt8), gapLen b m ≤ m.length
  | _, [] => by simp [gapLen]
  | b, c :: m => by
    have h1 := gapLen_le false m
    have h2 := gapLen_le true m
    have h3 := gapLen_le b m
    simp only [gapLen, List.length_cons]
    split
    · omega
    · split
      · omega
      · split <;> omega
theorem RInv.le {s : List UInt8} {r : List Tok × Nat × Nat} {L : List Tok} {a : Nat} (h : RInv s r L a) : a ≤ s.length := by
  obtain ⟨a', f, e, _, h2, _⟩ := h
  have := gapLen_le false (s.drop a')
  simp at this; omega
theorem RInv.start {s : List UInt8} (h : (check s).2 = 0) : RInv s (Lode.read s) [] (gapLen false s) := by
  refine ⟨0, s.length + 1, by simp, by omega, by omega, by simp, ?_⟩
  simp only [List.length_nil, List.drop_zero, scan_norm, Lode.read, h, ne_eq, not_true, if_false]
theorem scan_at {s : List UInt8} {a' a f n : Nat} (e : a = a' + gapLen false (s.drop a')) (hf : s.length < f + a') (h : a' ≤ s.length) :
    ∃ g, f = g + 1 ∧ scan f n a' (s.drop a') = match s.drop a with
      | [] => ([], 0, 0)
      | r1 => match tok1 r1 with
        | none => ([], a, 4)
        | some (k, t, m) => if n = 1200 then ([], a, 5) else
          let x := scan g (n + 1) (a + m) (r1.drop m)
          if x.2.2 = 0 then (⟨k, t, (a : Nat)⟩ :: x.1, 0, 0) else ([], x.2) := by
  obtain ⟨g, rfl⟩ : ∃ g, f = g + 1 := ⟨f - 1, by omega⟩
  refine ⟨g, rfl, ?_⟩
  subst e
  simp only [scan, List.drop_drop]
  rfl
theorem RInv.done {s : List UInt8} {r : List Tok × Nat × Nat} {L : List Tok} {a : Nat} (h : RInv s r L a) (ha : s.length ≤ a) : r = (L, 0, 0) := by
  obtain ⟨a', f, e, h1, h2, _, h4⟩ := h
  obtain ⟨g, _, h5⟩ := scan_at (n := L.length) e h1 h2
  rw [h5, List.drop_eq_nil_of_le ha] at h4
  simpa [addPre] using h4
theorem drop_cons' {s : List UInt8} {a : Nat} (ha : a < s.length) : ∃ c r, s.drop a = c :: r := ⟨s[a], s.drop (a + 1), List.drop_eq_getElem_cons ha⟩
theorem RInv.bad {s : List UInt8} {r : List Tok × Nat × Nat} {L : List Tok} {a : Nat} (h : RInv s r L a) (ha : a < s.length) (ht : tok1 (s.drop a) = none) : r = ([], a, 4) := by
  obtain ⟨a', f, e, h1, h2, _, h4⟩ := h
  obtain ⟨g, _, h5⟩ := scan_at (n := L.length) e h1 h2
  obtain ⟨c, q, hq⟩ := drop_cons' ha
  rw [hq] at ht h5
  simp only [ht] at h5
  rw [h5] at h4
  simpa [addPre] using h4
theorem RInv.full {s : List UInt8} {r : List Tok × Nat × Nat} {L : List Tok} {a : Nat} (h : RInv s r L a) (ha : a < s.length) {x : Nat × List UInt8 × Nat} (ht : tok1 (s.drop a) = some x) (hL : L.length = 1200) : r = ([], a, 5) := by
  obtain ⟨a', f, e, h1, h2, _, h4⟩ := h
  obtain ⟨g, _, h5⟩ := scan_at (n := L.length) e h1 h2
  obtain ⟨c, q, hq⟩ := drop_cons' ha
  rw [hq] at ht h5
  simp only [ht, hL, if_true] at h5
  rw [hL, h5] at h4
  simpa [addPre] using h4
theorem RInv.next {s : List UInt8} {r : List Tok × Nat × Nat} {L : List Tok} {a : Nat} (h : RInv s r L a) (ha : a < s.length) {k : Nat} {t : List UInt8} {m : Nat} (ht : tok1 (s.drop a) = some (k, t, m)) (hL : L.length ≠ 1200) :
    RInv s r (L ++ [⟨k, t, (a : Nat)⟩]) (a + m + gapLen false (s.drop (a + m))) := by
  obtain ⟨a', f, e, h1, h2, h3, h4⟩ := h
  obtain ⟨g, hg, h5⟩ := scan_at (n := L.length) e h1 h2
  have hw := tok1_wide ht
  simp only [List.length_drop] at hw
  obtain ⟨c, q, hq⟩ := drop_cons' ha
  have hd : s.drop (a + m) = (s.drop a).drop m := by rw [List.drop_drop]
  refine ⟨a + m, g, rfl, by omega, by omega, by simp; omega, ?_⟩
  rw [hd, hq]
  rw [hq] at ht h5
  simp only [ht, hL, if_false] at h5
  rw [h4, h5, addPre_next]
  simp
/-! ### tokens in memory -/
def tokVals (t : Tok) : List Value := [.int .u8 t.kind, .string ⟨t.text.toArray⟩, .int .i64 t.at_]
def tokCells (l : List Tok) : List Value := l.flatMap tokVals
def Toks (w : World) (base : Nat) (v : Value) (l : List Tok) : Prop := w.ownsRow base 46 3 v l.length (tokCells l)
theorem tokCells_length (l : List Tok) : (tokCells l).length = l.length * 3 := by
  induction l with
  | nil => rfl
  | cons t l ih => simp only [tokCells, List.flatMap_cons, List.length_append] at *; rw [ih]; simp [tokVals]; omega
theorem Toks.below {w w' : World} {b : Nat} {v : Value} {l : List Tok} (h : Toks w b v l) (hb : Below w.heap.size w w') : Toks w' b v l :=
  World.ownsRow.kept (row := none) h ⟨hb.os, hb.tape, hb.output, hb.size, fun k hk _ => hb.block k hk⟩ (by cases v.ownBlock <;> simp)
theorem below_grown {w0 W W' : World} {v : Value} {e : TypeId} {n m : Nat} {xs : List Value} (h : Below w0.heap.size w0 W) (ho : W.ownsRow w0.heap.size e n v m xs) (hg : W.grownBy W' v.ownBlock) : Below w0.heap.size w0 W' :=
  ⟨hg.os.trans h.os, hg.tape.trans h.tape, hg.output.trans h.output, Nat.le_trans h.size hg.size, fun k hk => (hg.block k (Nat.lt_of_lt_of_le hk h.size) (fun e => by have := (ho.lt k e.symm).1; omega)).trans (h.block k hk)⟩
theorem Toks.snoc {w : World} {b : Nat} {v : Value} {l : List Tok} {t : Tok} (h : w.ownsRow b 46 3 v (l.length + 1) (tokCells l ++ tokVals t)) : Toks w b v (l ++ [t]) := by
  unfold Toks
  rw [List.length_append]
  simpa [tokCells] using h
end Go.Proofs.YthknlifmkjdoeaaGreatDoor
