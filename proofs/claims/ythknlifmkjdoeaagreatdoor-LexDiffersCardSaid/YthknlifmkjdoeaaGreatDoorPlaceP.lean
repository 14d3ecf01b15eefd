/-
  LINES AND COLUMNS (plain laws): what both programs compute of them.
-/
import Derived.Lib.LastIndexByte
import Derived.Lib.Bytealg
import Derived.Test.YthknlifmkjdoeaaGreatDoorSpec
namespace Lode
def step1 (p : Nat × Nat) (c : UInt8) : Nat × Nat := if c = 10 then (p.1 + 1, 1) else (p.1, p.2 + 1)
theorem spot_eq (s : List UInt8) (k : Nat) : spot s k = (s.take k).foldl step1 (1, 1) := rfl
theorem spot_zero (s : List UInt8) : spot s 0 = (1, 1) := by simp [spot]
theorem spot_succ (s : List UInt8) (k : Nat) (h : k < s.length) : spot s (k + 1) = step1 (spot s k) s[k] := by
  rw [spot_eq, spot_eq, ← List.take_append_getElem h, List.foldl_append]; rfl
/-- all places, one after another -/
def offF (line col : Int) : Nat × Nat → Nat → List UInt8 → Nat × Nat
  | p, a, [] => if (p.1 : Int) = line ∧ (p.2 : Int) = col then (a, 0) else (0, 3)
  | p, a, c :: r => if (p.1 : Int) = line ∧ (p.2 : Int) = col then (a, 0) else offF line col (step1 p c) (a + 1) r
/-- the place of a line and a column, or the error -/
def offset (s : List UInt8) (line col : Int) : Nat × Nat := if (check s).2 ≠ 0 then (0, (check s).2) else offF line col (1, 1) 0 s
def lines : List UInt8 → List (List UInt8)
  | [] => [[]]
  | c :: r => if c = 10 then [] :: lines r else match lines r with
    | l :: ls => (c :: l) :: ls
    | [] => [[c]]
theorem lines_ne : ∀ r, lines r ≠ []
  | [] => by simp [lines]
  | c :: r => by
    simp only [lines]
    split
    · simp
    · split <;> simp
/-- line by line -/
def offL (line col : Int) : Nat → Nat → List (List UInt8) → Nat × Nat
  | _, _, [] => (0, 3)
  | a, ln, l :: ls => if (ln : Int) = line then (if col < 1 ∨ (l.length : Int) + 1 < col then (0, 3) else ((a + col - 1).toNat, 0)) else offL line col (a + l.length + 1) (ln + 1) ls
theorem offF_past (line col : Int) : ∀ (r : List UInt8) (p : Nat × Nat) (a : Nat), line < p.1 → offF line col p a r = (0, 3)
  | [], p, a, h => by rw [offF, if_neg (by omega)]
  | c :: r, p, a, h => by
    rw [offF, if_neg (by omega)]
    apply offF_past line col r
    unfold step1
    split
    · simp only []; omega
    · exact h
theorem offF_lines (line col : Int) : ∀ (r l : List UInt8) (ls : List (List UInt8)) (ln c0 a : Nat), lines r = l :: ls → 1 ≤ c0 →
    offF line col (ln, c0) a r = if (ln : Int) = line then (if col < c0 ∨ (c0 : Int) + l.length < col then (0, 3) else ((a + col - c0).toNat, 0)) else offL line col (a + l.length + 1) (ln + 1) ls
  | [], l, ls, ln, c0, a, h, h1 => by
    simp only [lines, List.cons.injEq] at h
    obtain ⟨rfl, rfl⟩ := h
    simp only [offF, offL, List.length_nil]
    by_cases hl : (ln : Int) = line
    · rw [if_pos hl]
      by_cases hc : (c0 : Int) = col
      · rw [if_pos ⟨hl, hc⟩, if_neg (by omega)]
        simp only [Prod.mk.injEq, and_true]; omega
      · rw [if_neg (by omega), if_pos (by omega)]
    · rw [if_neg (by omega), if_neg hl]
  | c :: r, l, ls, ln, c0, a, h, h1 => by
    simp only [lines] at h
    simp only [offF]
    by_cases h10 : c = 10
    · rw [if_pos h10, List.cons.injEq] at h
      obtain ⟨rfl, rfl⟩ := h
      simp only [List.length_nil]
      have hs : step1 (ln, c0) c = (ln + 1, 1) := by simp [step1, h10]
      rw [hs]
      by_cases hl : (ln : Int) = line
      · rw [if_pos hl]
        by_cases hc : (c0 : Int) = col
        · rw [if_pos ⟨hl, hc⟩, if_neg (by omega)]
          simp only [Prod.mk.injEq, and_true]; omega
        · rw [if_neg (by omega), if_pos (by omega)]
          exact offF_past line col r _ _ (by simp only []; omega)
      · rw [if_neg (by omega), if_neg hl]
        cases hL : lines r with
        | nil => exact absurd hL (lines_ne r)
        | cons l' ls' =>
          rw [offF_lines line col r l' ls' (ln + 1) 1 (a + 1) hL (by omega)]
          simp only [offL]
          by_cases hl2 : ((ln + 1 : Nat) : Int) = line
          · rw [if_pos hl2, if_pos hl2]
            have e : (col < ((1 : Nat) : Int) ∨ ((1 : Nat) : Int) + l'.length < col) ↔ (col < 1 ∨ (l'.length : Int) + 1 < col) := by omega
            simp only [e]
            split
            · rfl
            · simp only [Prod.mk.injEq, and_true]; omega
          · rw [if_neg hl2, if_neg hl2]
    · rw [if_neg h10] at h
      cases hL : lines r with
      | nil => exact absurd hL (lines_ne r)
      | cons l' ls' =>
        rw [hL] at h
        simp only [List.cons.injEq] at h
        obtain ⟨rfl, rfl⟩ := h
        have hs : step1 (ln, c0) c = (ln, c0 + 1) := by simp [step1, h10]
        rw [hs, offF_lines line col r l' ls' ln (c0 + 1) (a + 1) hL (by omega)]
        simp only [List.length_cons]
        by_cases hl : (ln : Int) = line
        · rw [if_pos hl, if_pos hl]
          by_cases hc : (c0 : Int) = col
          · rw [if_pos ⟨hl, hc⟩, if_neg (by omega)]
            simp only [Prod.mk.injEq, and_true]; omega
          · rw [if_neg (by omega)]
            have e : (col < ((c0 + 1 : Nat) : Int) ∨ ((c0 + 1 : Nat) : Int) + l'.length < col) ↔ (col < (c0 : Int) ∨ (c0 : Int) + ((l'.length + 1 : Nat) : Int) < col) := by omega
            simp only [e]
            split
            · rfl
            · simp only [Prod.mk.injEq, and_true]; omega
        · rw [if_neg hl, if_neg hl, if_neg (by omega), show a + 1 + l'.length + 1 = a + (l'.length + 1) + 1 from by omega]
theorem offL_lines (s : List UInt8) (line col : Int) : offL line col 0 1 (lines s) = offF line col (1, 1) 0 s := by
  cases hL : lines s with
  | nil => exact absurd hL (lines_ne s)
  | cons l ls =>
    rw [offF_lines line col s l ls 1 1 0 hL (by omega)]
    simp only [offL]
    by_cases hl : ((1 : Nat) : Int) = line
    · rw [if_pos hl, if_pos hl]
      have e : (col < ((1 : Nat) : Int) ∨ ((1 : Nat) : Int) + l.length < col) ↔ (col < 1 ∨ (l.length : Int) + 1 < col) := by omega
      simp only [e]
      rfl
    · rw [if_neg hl, if_neg hl]
/-- what is found is the place of it -/
theorem offF_ok (line col : Int) (s : List UInt8) : ∀ (r : List UInt8) (a : Nat), r = s.drop a → a ≤ s.length → ∀ k, offF line col (spot s a) a r = (k, 0) → k ≤ s.length ∧ ((spot s k).1 : Int) = line ∧ ((spot s k).2 : Int) = col
  | [], a, hr, ha, k, h => by
    simp only [offF] at h
    split at h
    · cases h; exact ⟨ha, by assumption⟩
    · cases h
  | c :: r, a, hr, ha, k, h => by
    simp only [offF] at h
    split at h
    · cases h; exact ⟨ha, by assumption⟩
    · have hlt : a < s.length := by
        rcases Nat.lt_or_ge a s.length with h | h
        · exact h
        · rw [List.drop_eq_nil_of_le h] at hr; cases hr
      rw [List.drop_eq_getElem_cons hlt, List.cons.injEq] at hr
      rw [hr.1, ← spot_succ s a hlt] at h
      exact offF_ok line col s r (a + 1) hr.2 (by omega) k h
theorem spot_count (s : ByteArray) : ∀ k, k ≤ s.size → spot s.data.toList k = (1 + Go.Lib.countByte (s.data.toList.take k) 10, ((k : Int) - Go.Lib.lastIdx s 10 k).toNat) ∧ Go.Lib.lastIdx s 10 k < k ∧ -1 ≤ Go.Lib.lastIdx s 10 k
  | 0, _ => by simp [spot, Go.Lib.countByte, Go.Lib.lastIdx]
  | k + 1, h => by
    have hlt : k < s.data.toList.length := by simp; omega
    obtain ⟨h1, h2, h3⟩ := spot_count s k (by omega)
    have hg : s.data.toList[k] = s[k]'(by omega) := by simp; rfl
    have hd : s.data[k]! = s[k]'(by omega) := by rw [getElem!_pos s.data k (by simpa using hlt)]; rfl
    have hcnt : Go.Lib.countByte (s.data.toList.take (k + 1)) 10 = Go.Lib.countByte (s.data.toList.take k) 10 + (if s[k]'(by omega) = 10 then 1 else 0) := by
      unfold Go.Lib.countByte
      rw [← List.take_append_getElem hlt, List.count_append, hg]
      by_cases hc : s[k]'(by omega) = 10 <;> simp [hc]
    rw [spot_succ _ _ hlt, h1, hg, hcnt]
    generalize s[k]'(by omega) = c at *
    have hv : (((c.toNat : Nat) : Int) = 10) ↔ c = 10 := by
      constructor
      · intro h; exact UInt8.toNat_inj.1 (by have : (10 : UInt8).toNat = 10 := rfl; omega)
      · rintro rfl; rfl
    simp only [Go.Lib.lastIdx, step1, hd, hv]
    by_cases hc : c = 10
    · simp only [hc, if_true, Prod.mk.injEq]; clear hcnt hv hc hg hd h1 hlt; exact ⟨⟨by omega, by omega⟩, by omega, by omega⟩
    · simp only [hc, if_false, Prod.mk.injEq]; omega
end Lode
