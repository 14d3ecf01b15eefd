/-
  NUMBERS (plain laws): what Atoi and Itoa do to digits, and the reference's comparison of spellings, both come to Lode.isNum.
-/
import Derived.Lib.AtoiAll
import Derived.Lib.ItoaNum
import GoSem.Op.String
import Derived.Test.YthknlifmkjdoeaaGreatDoorSpec
namespace Lode
def valFrom (a : Nat) (l : List UInt8) : Nat := l.foldl (fun a c => 10 * a + (c.toNat - 48)) a
theorem numVal_eq (l : List UInt8) : numVal l = valFrom 0 l := by unfold numVal valFrom; exact rfl
theorem valFrom_cons (a : Nat) (c : UInt8) (l : List UInt8) : valFrom a (c :: l) = valFrom (10 * a + (c.toNat - 48)) l := by simp only [valFrom, List.foldl_cons]
theorem valFrom_acc (l : List UInt8) : ∀ (a : Nat), valFrom a l = a * 10 ^ l.length + valFrom 0 l := by
  induction l with
  | nil => intro a; simp [valFrom]
  | cons c l ih =>
    intro a
    have h1 := ih (10 * a + (c.toNat - 48))
    have h2 := ih (10 * 0 + (c.toNat - 48))
    rw [valFrom_cons, valFrom_cons, h1, h2, List.length_cons, Nat.pow_succ]
    clear ih h1 h2
    generalize 10 ^ l.length = p
    generalize c.toNat - 48 = d
    generalize valFrom 0 l = v
    have : a * (p * 10) = 10 * a * p := by rw [Nat.mul_comm p 10, ← Nat.mul_assoc, Nat.mul_comm a 10]
    rw [this, Nat.add_mul, Nat.add_mul, Nat.mul_zero, Nat.zero_mul, Nat.zero_add, Nat.add_assoc]
theorem valFrom_snoc (a : Nat) (l : List UInt8) (c : UInt8) : valFrom a (l ++ [c]) = 10 * valFrom a l + (c.toNat - 48) := by simp [valFrom]
theorem digit_iff (c : UInt8) : digit c = true ↔ 48 ≤ c.toNat ∧ c.toNat ≤ 57 := by simp [digit]
theorem val_lt : ∀ (l : List UInt8), l.all digit = true → valFrom 0 l < 10 ^ l.length
  | [], _ => by simp [valFrom]
  | c :: l, h => by
    simp only [List.all_cons, Bool.and_eq_true] at h
    have h1 := (digit_iff c).1 h.1
    have h2 := val_lt l h.2
    rw [valFrom_cons, valFrom_acc, List.length_cons, Nat.pow_succ]
    have : (10 * 0 + (c.toNat - 48)) * 10 ^ l.length ≤ 9 * 10 ^ l.length := Nat.mul_le_mul_right _ (by omega)
    omega
theorem val_ge (c : UInt8) (l : List UInt8) (h : 49 ≤ c.toNat) : 10 ^ l.length ≤ valFrom 0 (c :: l) := by
  rw [valFrom_cons, valFrom_acc]
  have : 1 * 10 ^ l.length ≤ (10 * 0 + (c.toNat - 48)) * 10 ^ l.length := Nat.mul_le_mul_right _ (by omega)
  omega
theorem decDigits_val : ∀ (n : Nat) (l : List UInt8), l.length = n → l ≠ [] → l.all digit = true → (l.length = 1 ∨ l.head? ≠ some 48) → Go.Lib.decDigits (valFrom 0 l) = l := by
  intro n
  induction n with
  | zero => intro l hl h0; exact absurd (List.eq_nil_of_length_eq_zero hl) h0
  | succ n ih =>
    intro l hl h0 hd hh
    obtain ⟨m, c, rfl⟩ : ∃ m c, l = m ++ [c] := ⟨l.dropLast, l.getLast h0, (List.dropLast_concat_getLast h0).symm⟩
    simp only [List.all_append, List.all_cons, List.all_nil, Bool.and_true, Bool.and_eq_true] at hd
    have hc := (digit_iff c).1 hd.2
    have hcc : UInt8.ofNat (48 + (c.toNat - 48)) = c := by rw [show 48 + (c.toNat - 48) = c.toNat from by omega]; simp
    rw [valFrom_snoc]
    cases m with
    | nil =>
      rw [Go.Lib.decDigits, dif_pos (by simp [valFrom]; omega)]
      simp [valFrom, hcc]
    | cons a m =>
      have hh' : (a :: m).head? ≠ some 48 := by
        rcases hh with h | h
        · simp at h
        · simpa using h
      have ha : 49 ≤ a.toNat := by
        have h1 := (digit_iff a).1 (by simp only [List.all_cons, Bool.and_eq_true] at hd; exact hd.1.1)
        rcases Nat.lt_or_ge 48 a.toNat with h | h
        · exact h
        · exfalso; apply hh'; simp; apply UInt8.toNat_inj.1; simp; omega
      have hge := val_ge a m ha
      have hpos : 1 ≤ 10 ^ m.length := Nat.pow_pos (by decide)
      rw [Go.Lib.decDigits, dif_neg (by omega)]
      rw [show (10 * valFrom 0 (a :: m) + (c.toNat - 48)) / 10 = valFrom 0 (a :: m) by omega, show (10 * valFrom 0 (a :: m) + (c.toNat - 48)) % 10 = c.toNat - 48 by omega, hcc]
      rw [ih (a :: m) (by simpa using hl) (by simp) hd.1 (.inr hh')]
theorem decDigits_head : ∀ (n u : Nat), u ≤ n → 1 ≤ u → (Go.Lib.decDigits u).head? ≠ some 48 := by
  intro n
  induction n with
  | zero => intro u h1 h2; omega
  | succ n ih =>
    intro u h1 h2
    rw [Go.Lib.decDigits]
    split
    · simp
      intro h
      have := congrArg UInt8.toNat h
      simp at this; omega
    · have h3 := ih (u / 10) (by omega) (by omega)
      cases hx : Go.Lib.decDigits (u / 10) with
      | nil => rw [Go.Lib.decDigits] at hx; split at hx <;> simp at hx
      | cons a m => rw [hx] at h3; simpa using h3
theorem decDigits_lead (u : Nat) (h : 1 < (Go.Lib.decDigits u).length) : (Go.Lib.decDigits u).head? ≠ some 48 := by
  rcases Nat.lt_or_ge u 10 with h1 | h1
  · rw [Go.Lib.decDigits, dif_pos h1] at h; simp at h
  · exact decDigits_head u u (Nat.le_refl _) (by omega)
theorem parse_digits : ∀ (l : List UInt8) (a : Nat), l.all digit = true → a < 18446744073709551616 → Go.Lib.parseUint10 a l = if valFrom a l < 18446744073709551616 then .ok (valFrom a l) else .range
  | [], a, _, h => by simp [Go.Lib.parseUint10, valFrom, h]
  | c :: l, a, hd, h => by
    simp only [List.all_cons, Bool.and_eq_true] at hd
    have hc := (digit_iff c).1 hd.1
    have hbig : ∀ b, b ≤ valFrom b l := fun b => by
      rw [valFrom_acc]
      have : 1 ≤ 10 ^ l.length := Nat.pow_pos (by decide)
      have := Nat.mul_le_mul_left b this
      omega
    rw [Go.Lib.parseUint10, if_pos hc, valFrom_cons]
    have hb := hbig (10 * a + (c.toNat - 48))
    by_cases h1 : 1844674407370955162 ≤ a
    · rw [if_pos h1, if_neg (by omega)]
    · rw [if_neg h1]
      by_cases h2 : 18446744073709551616 ≤ a * 10 + (c.toNat - 48)
      · rw [if_pos h2, if_neg (by omega)]
      · rw [if_neg h2, parse_digits l _ hd.2 (by omega), show a * 10 + (c.toNat - 48) = 10 * a + (c.toNat - 48) by omega]
theorem atoi_digits (l : List UInt8) (h0 : l ≠ []) (hd : l.all digit = true) :
    Go.Lib.atoiAll l = if numVal l < 9223372036854775808 then .ok (numVal l) else .range := by
  cases l with
  | nil => exact absurd rfl h0
  | cons c r =>
    have hc := (digit_iff c).1 (by simp only [List.all_cons, Bool.and_eq_true] at hd; exact hd.1)
    unfold Go.Lib.atoiAll
    simp only []
    rw [if_neg (by omega)]
    unfold Go.Lib.parseMag
    rw [if_neg (by simp), parse_digits _ 0 hd (by omega), numVal_eq]
    by_cases h1 : valFrom 0 (c :: r) < 9223372036854775808
    · rw [if_pos (by omega), if_pos h1]
      simp only []
      rw [if_neg (by omega), if_neg (by omega), if_neg (by omega)]
    · rw [if_neg h1]
      by_cases h2 : valFrom 0 (c :: r) < 18446744073709551616
      · rw [if_pos h2]
        simp only []
        rw [if_pos (by omega)]
      · rw [if_neg h2]
/-- digits that are read back as they stand -/
theorem isNum_itoa (l : List UInt8) (h0 : l ≠ []) (hd : l.all digit = true) : isNum l = (decide (numVal l ≤ 1000000000) && decide (Go.Lib.itoa (numVal l) = l)) := by
  have e : Go.Lib.itoa (numVal l) = Go.Lib.decDigits (numVal l) := by unfold Go.Lib.itoa; rw [if_neg (by omega)]; simp
  rw [e]
  unfold isNum
  have e0 : l.isEmpty = false := by cases l <;> simp_all
  rw [e0, hd]
  simp only [Bool.not_false, Bool.true_and, Bool.and_true]
  congr 1
  rw [Bool.eq_iff_iff]
  simp only [Bool.or_eq_true, decide_eq_true_eq, Bool.not_eq_true', beq_eq_false_iff_ne]
  constructor
  · intro h
    exact decDigits_val _ l rfl h0 hd h
  · intro h
    rcases Nat.lt_or_ge 1 l.length with h1 | h1
    · right; rw [← h] at h1 ⊢; exact decDigits_lead _ h1
    · left; have : l.length ≠ 0 := fun h => h0 (List.eq_nil_of_length_eq_zero h); omega
theorem bytesLess_val : ∀ (l m : List UInt8), l.length = m.length → l.all digit = true → m.all digit = true → Go.Op.bytesLess l m = decide (valFrom 0 l < valFrom 0 m)
  | [], [], _, _, _ => by simp [Go.Op.bytesLess, valFrom]
  | [], _ :: _, h, _, _ => by simp at h
  | _ :: _, [], h, _, _ => by simp at h
  | a :: l, b :: m, h, ha, hb => by
    simp only [List.all_cons, Bool.and_eq_true] at ha hb
    have hl : l.length = m.length := by simpa using h
    have h1 := (digit_iff a).1 ha.1
    have h2 := (digit_iff b).1 hb.1
    have v1 := val_lt l ha.2
    have v2 := val_lt m hb.2
    rw [Go.Op.bytesLess, bytesLess_val l m hl ha.2 hb.2, valFrom_cons, valFrom_cons, valFrom_acc l (10 * 0 + (a.toNat - 48)), valFrom_acc m (10 * 0 + (b.toNat - 48)), hl]
    rw [hl] at v1
    rw [Bool.eq_iff_iff]
    simp only [Bool.or_eq_true, Bool.and_eq_true, decide_eq_true_eq, beq_iff_eq, UInt8.lt_iff_toNat_lt]
    have hp : 1 ≤ 10 ^ m.length := Nat.pow_pos (by decide)
    generalize 10 ^ m.length = p at *
    rcases Nat.lt_trichotomy a.toNat b.toNat with hlt | heq | hgt
    · have : (10 * 0 + (a.toNat - 48) + 1) * p ≤ (10 * 0 + (b.toNat - 48)) * p := Nat.mul_le_mul_right _ (by omega)
      rw [Nat.add_mul] at this
      constructor
      · intro _; omega
      · intro _; exact .inl hlt
    · have hab : a = b := UInt8.toNat_inj.1 heq
      subst hab
      constructor
      · rintro (h | ⟨_, h⟩)
        · omega
        · omega
      · intro h; exact .inr ⟨rfl, by omega⟩
    · have : (10 * 0 + (b.toNat - 48) + 1) * p ≤ (10 * 0 + (a.toNat - 48)) * p := Nat.mul_le_mul_right _ (by omega)
      rw [Nat.add_mul] at this
      constructor
      · rintro (h | ⟨h, _⟩)
        · omega
        · rw [h] at hgt; omega
      · intro h; omega
theorem runLen_all (p : UInt8 → Bool) : ∀ l : List UInt8, (runLen p l = l.length) ↔ l.all p = true
  | [] => by simp [runLen]
  | c :: l => by
    have hle : ∀ m : List UInt8, runLen p m ≤ m.length := by
      intro m
      induction m with
      | nil => simp [runLen]
      | cons d m ih => simp only [runLen]; split <;> simp; omega
    simp only [runLen, List.all_cons, Bool.and_eq_true, List.length_cons]
    split
    · rename_i h; rw [← runLen_all p l]; simp [h]
    · rename_i h; simp [h]
def maxDigits : List UInt8 := [49, 48, 48, 48, 48, 48, 48, 48, 48, 48]
/-- the reference's way to say so -/
theorem isNum_ref (l : List UInt8) : isNum l = (!(l.isEmpty || decide (10 < l.length) || (decide (1 < l.length) && (l.head? == some 48)) || (decide (l.length = 10) && (!Go.Op.bytesLess l maxDigits && !(l == maxDigits)))) && decide (runLen digit l = l.length)) := by
  have e1 : decide (runLen digit l = l.length) = l.all digit := by rw [Bool.eq_iff_iff]; simp only [decide_eq_true_eq]; exact runLen_all _ _
  rw [e1]
  unfold isNum
  cases hd : l.all digit with
  | false => simp
  | true =>
    cases hl : l with
    | nil => simp
    | cons c r =>
      rw [← hl]
      have e0 : l.isEmpty = false := by rw [hl]; rfl
      rw [e0]
      have hlt := val_lt l hd
      rw [← numVal_eq] at hlt
      by_cases hz : l.head? = some 48
      · rw [hz]
        by_cases h1 : l.length = 1
        · have : numVal l ≤ 1000000000 := by rw [h1] at hlt; omega
          simp [h1, this]
        · have : 1 < l.length := by rw [hl] at h1 ⊢; simp at h1 ⊢; cases r <;> simp_all
          simp [h1, this]
      · have hz' : (l.head? == some 48) = false := by simpa using hz
        rw [hz']
        have hc : 49 ≤ c.toNat := by
          have h1 := (digit_iff c).1 (by rw [hl] at hd; simp only [List.all_cons, Bool.and_eq_true] at hd; exact hd.1)
          rcases Nat.lt_or_ge 48 c.toNat with h | h
          · exact h
          · exfalso; apply hz; rw [hl]; simp; apply UInt8.toNat_inj.1; simp; omega
        have hge : 10 ^ r.length ≤ numVal l := by rw [hl]; exact val_ge c r hc
        have hlen : l.length = r.length + 1 := by rw [hl]; rfl
        rcases Nat.lt_trichotomy l.length 10 with h | h | h
        · have : numVal l ≤ 1000000000 := by
            have : 10 ^ l.length ≤ 10 ^ 9 := Nat.pow_le_pow_right (by omega) (by omega)
            omega
          have h2 : ¬ 10 < l.length := by omega
          have h3 : ¬ l.length = 10 := by omega
          simp [this, h2, h3]
        · have hb := bytesLess_val l maxDigits (by rw [h]; rfl) hd (by decide)
          have hm : valFrom 0 maxDigits = 1000000000 := by decide
          rw [hb, hm, ← numVal_eq]
          have heq : (l == maxDigits) = decide (numVal l = 1000000000) := by
            rw [Bool.eq_iff_iff]
            simp only [beq_iff_eq, decide_eq_true_eq]
            constructor
            · intro h; rw [h]; decide
            · intro hv
              have h1 := decDigits_val _ l rfl (by rw [hl]; simp) hd (.inr hz)
              have h2 := decDigits_val _ maxDigits rfl (by decide) (by decide) (.inr (by decide))
              rw [← h1, ← h2, ← numVal_eq, ← numVal_eq, hv]; rfl
          rw [heq]
          simp [h]
          rw [Bool.eq_iff_iff]; simp; omega
        · have hbig : ¬ numVal l ≤ 1000000000 := by
            have : 10 ^ 10 ≤ 10 ^ r.length := Nat.pow_le_pow_right (by omega) (by omega)
            omega
          simp [h, hbig]
end Lode
