/-
  THE MATHEMATICS OF CHAPTER 1 (lex): what a text's error, its gaps, tokens and quoted texts are, as plain Lean functions on lists of bytes. No program is in sight here.
-/
import Derived.Lib.AtoiAll
import Derived.Lib.ItoaNum
import GoSem.Op.String
import Derived.Lib.LastIndexByte
import Derived.Lib.Bytealg
namespace Lode
def isB (c : UInt8) : Bool := (decide (32 ≤ c.toNat) && decide (c.toNat ≤ 126)) || c.toNat == 10
def small (c : UInt8) : Bool := decide (97 ≤ c.toNat) && decide (c.toNat ≤ 122)
def big (c : UInt8) : Bool := decide (65 ≤ c.toNat) && decide (c.toNat ≤ 90)
def digit (c : UInt8) : Bool := decide (48 ≤ c.toNat) && decide (c.toNat ≤ 57)
def findIx (p : UInt8 → Bool) : List UInt8 → Option Nat
  | [] => none
  | c :: r => if p c then some 0 else (findIx p r).map (· + 1)
def ixOf : Option Nat → Int
  | none => -1
  | some k => k
/-- the error of a text, and its place -/
def check (s : List UInt8) : Nat × Nat :=
  if 3000 < s.length then (3000, 5) else
  match findIx (fun c => !isB c) s with
  | some i => (i, 4)
  | none => (0, 0)
def runLen (p : UInt8 → Bool) : List UInt8 → Nat
  | [] => 0
  | c :: r => if p c then runLen p r + 1 else 0
def gapLen : Bool → List UInt8 → Nat
  | _, [] => 0
  | cm, c :: r => if c = 10 then gapLen false r + 1 else if c = 35 then gapLen true r + 1 else if c = 32 ∨ cm = true then gapLen cm r + 1 else 0
/-- behind an opening quote: what stands for what, and how many bytes, the closing quote with them -/
def quo : List UInt8 → Option (List UInt8 × Nat)
  | [] => none
  | c :: r =>
    if c.toNat < 32 ∨ 126 < c.toNat then none
    else if c = 34 then some ([], 1)
    else if c = 92 then
      match r with
      | [] => none
      | d :: r' => if d = 34 ∨ d = 92 then (quo r').map fun x => (d :: x.1, x.2 + 2) else if d = 110 then (quo r').map fun x => (10 :: x.1, x.2 + 2) else none
    else (quo r).map fun x => (c :: x.1, x.2 + 1)
/-- a quoted text at the beginning: its text, its bytes -/
def quoted (s : List UInt8) : Option (List UInt8 × Nat) :=
  match quo (s.drop 1) with
  | some (t, n) => if t.length ≤ 60 then some (t, n + 1) else none
  | none => none
def bytesOf (s : String) : List UInt8 := s.toUTF8.data.toList
def wordList : List (List UInt8) := [[97, 110, 100], [97, 115], [98, 111, 111, 108], [98, 121, 116, 101], [99, 97, 116, 99, 104], [99, 104, 97, 110], [99, 108, 97, 115, 115], [99, 111, 108, 108, 101, 99, 116], [99, 117, 116], [101, 108, 115, 101], [101, 120, 116, 101, 114, 110], [102, 97, 108, 115, 101], [102, 110], [102, 117, 110], [104, 111, 108, 100], [105, 102], [105, 110], [105, 110, 116], [105, 115], [107, 105, 110, 100], [108, 101, 116], [109, 97, 116, 99, 104], [110, 101, 119], [110, 111, 116], [111, 114], [111, 117, 116], [112, 117, 114, 101], [114, 101, 97, 100], [114, 101, 99, 118], [114, 111, 111, 116], [115, 101, 108, 101, 99, 116], [115, 101, 110, 100], [115, 104, 111, 119], [115, 105, 122, 101], [115, 112, 97, 119, 110], [116, 101, 120, 116], [116, 104, 114, 111, 119], [116, 114, 117, 101], [116, 114, 121], [117, 110, 105, 116], [118, 97, 114], [119, 101, 97, 107], [119, 104, 105, 108, 101], [121, 105, 101, 108, 100]]
def signList : List (List UInt8) := [[58, 61], [61, 62], [61, 61], [33, 61], [60, 61], [62, 61], [43, 43], [43], [45], [42], [47], [37], [60], [62], [61], [40], [41], [91], [93], [123], [125], [44], [58], [59], [46]]
/-- the number that digits say -/
def numVal (l : List UInt8) : Nat := l.foldl (fun a c => 10 * a + (c.toNat - 48)) 0
def isNum (l : List UInt8) : Bool := !l.isEmpty && l.all digit && decide (numVal l ≤ 1000000000) && (decide (l.length = 1) || !(l.head? == some 48))
def isPre : List UInt8 → List UInt8 → Bool
  | [], _ => true
  | _ :: _, [] => false
  | a :: l, b :: m => decide (a = b) && isPre l m
/-- the token that begins a text: its kind, what it stands for, its bytes -/
def tok1 (s : List UInt8) : Option (Nat × List UInt8 × Nat) :=
  match s with
  | [] => none
  | c :: r =>
    if small c then
      let n := 1 + runLen (fun c => small c || digit c) r
      if n ≤ 12 then some (if wordList.contains (s.take n) then 5 else 1, s.take n, n) else none
    else if big c then
      let n := 1 + runLen (fun c => small c || digit c) r
      if n ≤ 12 then some (2, s.take n, n) else none
    else if digit c then
      let n := 1 + runLen digit r
      if isNum (s.take n) then some (3, s.take n, n) else none
    else if c = 34 then (quoted s).map fun x => (4, x.1, x.2)
    else (signList.find? fun g => isPre g s).map fun g => (6, g, g.length)
structure Tok where
  kind : Nat
  text : List UInt8
  at_ : Int
  deriving DecidableEq, Inhabited
/-- the tokens of the rest of a text that begins at a place, n tokens having been read: (tokens, place of the error, error) -/
def scan : Nat → Nat → Nat → List UInt8 → List Tok × Nat × Nat
  | 0, _, _, _ => ([], 0, 0)
  | fuel + 1, n, at_, r =>
    let g := gapLen false r
    match r.drop g with
    | [] => ([], 0, 0)
    | r1 =>
      match tok1 r1 with
      | none => ([], at_ + g, 4)
      | some (k, t, m) =>
        if n = 1200 then ([], at_ + g, 5) else
        let x := scan fuel (n + 1) (at_ + g + m) (r1.drop m)
        if x.2.2 = 0 then (⟨k, t, (at_ + g : Nat)⟩ :: x.1, 0, 0) else ([], x.2)
/-- the tokens of a text, or the place of the error, and it -/
def read (s : List UInt8) : List Tok × Nat × Nat :=
  if (check s).2 ≠ 0 then ([], check s) else scan (s.length + 1) 0 0 s
/-- lines and columns -/
def spot (s : List UInt8) (at_ : Nat) : Nat × Nat := (s.take at_).foldl (fun p c => if c = 10 then (p.1 + 1, 1) else (p.1, p.2 + 1)) (1, 1)
def quoteByte (c : UInt8) : List UInt8 := if c = 10 then [92, 110] else if c = 34 ∨ c = 92 then [92, c] else [c]
def quote (s : List UInt8) : List UInt8 × Nat :=
  if 60 < s.length then ([], 5) else if s.all isB then ([34] ++ s.flatMap quoteByte ++ [34], 0) else ([], 4)
def unquote (s : List UInt8) : List UInt8 × Nat :=
  if s.head? = some 34 then
    match quoted s with
    | some (t, n) => if n = s.length then (t, 0) else ([], 4)
    | none => ([], 4)
  else ([], 4)
end Lode

/-
  NUMBERS (plain laws): what Atoi and Itoa do to digits, and the reference's comparison of spellings, both come to Lode.isNum.
-/
namespace Lode
def valFrom (a : Nat) (l : List UInt8) : Nat := l.foldl (fun a c => 10 * a + (c.toNat - 48)) a
theorem numVal_eq (l : List UInt8) : numVal l = valFrom 0 l := by unfold numVal valFrom; exact rfl
theorem valFrom_cons (a : Nat) (c : UInt8) (l : List UInt8) : valFrom a (c :: l) = valFrom (10 * a + (c.toNat - 48)) l := by simp only [valFrom, List.foldl_cons]
theorem valFrom_acc (l : List UInt8) : ∀ (a : Nat), valFrom a l = a * 10 ^ l.length + valFrom 0 l := by
  induction l with
  | nil => intro a; simp [valFrom]
  | cons c l ih =>
    intro a
    have h1 := ih (10 * a + (c.toNat - 48))
    have h2 := ih (10 * 0 + (c.toNat - 48))
    rw [valFrom_cons, valFrom_cons, h1, h2, List.length_cons, Nat.pow_succ]
    clear ih h1 h2
    generalize 10 ^ l.length = p
    generalize c.toNat - 48 = d
    generalize valFrom 0 l = v
    have : a * (p * 10) = 10 * a * p := by rw [Nat.mul_comm p 10, ← Nat.mul_assoc, Nat.mul_comm a 10]
    rw [this, Nat.add_mul, Nat.add_mul, Nat.mul_zero, Nat.zero_mul, Nat.zero_add, Nat.add_assoc]
theorem valFrom_snoc (a : Nat) (l : List UInt8) (c : UInt8) : valFrom a (l ++ [c]) = 10 * valFrom a l + (c.toNat - 48) := by simp [valFrom]
theorem digit_iff (c : UInt8) : digit c = true ↔ 48 ≤ c.toNat ∧ c.toNat ≤ 57 := by simp [digit]
theorem val_lt : ∀ (l : List UInt8), l.all digit = true → valFrom 0 l < 10 ^ l.length
  | [], _ => by simp [valFrom]
  | c :: l, h => by
    simp only [List.all_cons, Bool.and_eq_true] at h
    have h1 := (digit_iff c).1 h.1
    have h2 := val_lt l h.2
    rw [valFrom_cons, valFrom_acc, List.length_cons, Nat.pow_succ]
    have : (10 * 0 + (c.toNat - 48)) * 10 ^ l.length ≤ 9 * 10 ^ l.length := Nat.mul_le_mul_right _ (by omega)
    omega
theorem val_ge (c : UInt8) (l : List UInt8) (h : 49 ≤ c.toNat) : 10 ^ l.length ≤ valFrom 0 (c :: l) := by
  rw [valFrom_cons, valFrom_acc]
  have : 1 * 10 ^ l.length ≤ (10 * 0 + (c.toNat - 48)) * 10 ^ l.length := Nat.mul_le_mul_right _ (by omega)
  omega
theorem decDigits_val : ∀ (n : Nat) (l : List UInt8), l.length = n → l ≠ [] → l.all digit = true → (l.length = 1 ∨ l.head? ≠ some 48) → Go.Lib.decDigits (valFrom 0 l) = l := by
  intro n
  induction n with
  | zero => intro l hl h0; exact absurd (List.eq_nil_of_length_eq_zero hl) h0
  | succ n ih =>
    intro l hl h0 hd hh
    obtain ⟨m, c, rfl⟩ : ∃ m c, l = m ++ [c] := ⟨l.dropLast, l.getLast h0, (List.dropLast_concat_getLast h0).symm⟩
    simp only [List.all_append, List.all_cons, List.all_nil, Bool.and_true, Bool.and_eq_true] at hd
    have hc := (digit_iff c).1 hd.2
    have hcc : UInt8.ofNat (48 + (c.toNat - 48)) = c := by rw [show 48 + (c.toNat - 48) = c.toNat from by omega]; simp
    rw [valFrom_snoc]
    cases m with
    | nil =>
      rw [Go.Lib.decDigits, dif_pos (by simp [valFrom]; omega)]
      simp [valFrom, hcc]
    | cons a m =>
      have hh' : (a :: m).head? ≠ some 48 := by
        rcases hh with h | h
        · simp at h
        · simpa using h
      have ha : 49 ≤ a.toNat := by
        have h1 := (digit_iff a).1 (by simp only [List.all_cons, Bool.and_eq_true] at hd; exact hd.1.1)
        rcases Nat.lt_or_ge 48 a.toNat with h | h
        · exact h
        · exfalso; apply hh'; simp; apply UInt8.toNat_inj.1; simp; omega
      have hge := val_ge a m ha
      have hpos : 1 ≤ 10 ^ m.length := Nat.pow_pos (by decide)
      rw [Go.Lib.decDigits, dif_neg (by omega)]
      rw [show (10 * valFrom 0 (a :: m) + (c.toNat - 48)) / 10 = valFrom 0 (a :: m) by omega, show (10 * valFrom 0 (a :: m) + (c.toNat - 48)) % 10 = c.toNat - 48 by omega, hcc]
      rw [ih (a :: m) (by simpa using hl) (by simp) hd.1 (.inr hh')]
theorem decDigits_head : ∀ (n u : Nat), u ≤ n → 1 ≤ u → (Go.Lib.decDigits u).head? ≠ some 48 := by
  intro n
  induction n with
  | zero => intro u h1 h2; omega
  | succ n ih =>
    intro u h1 h2
    rw [Go.Lib.decDigits]
    split
    · simp
      intro h
      have := congrArg UInt8.toNat h
      simp at this; omega
    · have h3 := ih (u / 10) (by omega) (by omega)
      cases hx : Go.Lib.decDigits (u / 10) with
      | nil => rw [Go.Lib.decDigits] at hx; split at hx <;> simp at hx
      | cons a m => rw [hx] at h3; simpa using h3
theorem decDigits_lead (u : Nat) (h : 1 < (Go.Lib.decDigits u).length) : (Go.Lib.decDigits u).head? ≠ some 48 := by
  rcases Nat.lt_or_ge u 10 with h1 | h1
  · rw [Go.Lib.decDigits, dif_pos h1] at h; simp at h
  · exact decDigits_head u u (Nat.le_refl _) (by omega)
theorem parse_digits : ∀ (l : List UInt8) (a : Nat), l.all digit = true → a < 18446744073709551616 → Go.Lib.parseUint10 a l = if valFrom a l < 18446744073709551616 then .ok (valFrom a l) else .range
  | [], a, _, h => by simp [Go.Lib.parseUint10, valFrom, h]
  | c :: l, a, hd, h => by
    simp only [List.all_cons, Bool.and_eq_true] at hd
    have hc := (digit_iff c).1 hd.1
    have hbig : ∀ b, b ≤ valFrom b l := fun b => by
      rw [valFrom_acc]
      have : 1 ≤ 10 ^ l.length := Nat.pow_pos (by decide)
      have := Nat.mul_le_mul_left b this
      omega
    rw [Go.Lib.parseUint10, if_pos hc, valFrom_cons]
    have hb := hbig (10 * a + (c.toNat - 48))
    by_cases h1 : 1844674407370955162 ≤ a
    · rw [if_pos h1, if_neg (by omega)]
    · rw [if_neg h1]
      by_cases h2 : 18446744073709551616 ≤ a * 10 + (c.toNat - 48)
      · rw [if_pos h2, if_neg (by omega)]
      · rw [if_neg h2, parse_digits l _ hd.2 (by omega), show a * 10 + (c.toNat - 48) = 10 * a + (c.toNat - 48) by omega]
theorem atoi_digits (l : List UInt8) (h0 : l ≠ []) (hd : l.all digit = true) :
    Go.Lib.atoiAll l = if numVal l < 9223372036854775808 then .ok (numVal l) else .range := by
  cases l with
  | nil => exact absurd rfl h0
  | cons c r =>
    have hc := (digit_iff c).1 (by simp only [List.all_cons, Bool.and_eq_true] at hd; exact hd.1)
    unfold Go.Lib.atoiAll
    simp only []
    rw [if_neg (by omega)]
    unfold Go.Lib.parseMag
    rw [if_neg (by simp), parse_digits _ 0 hd (by omega), numVal_eq]
    by_cases h1 : valFrom 0 (c :: r) < 9223372036854775808
    · rw [if_pos (by omega), if_pos h1]
      simp only []
      rw [if_neg (by omega), if_neg (by omega), if_neg (by omega)]
    · rw [if_neg h1]
      by_cases h2 : valFrom 0 (c :: r) < 18446744073709551616
      · rw [if_pos h2]
        simp only []
        rw [if_pos (by omega)]
      · rw [if_neg h2]
/-- digits that are read back as they stand -/
theorem isNum_itoa (l : List UInt8) (h0 : l ≠ []) (hd : l.all digit = true) : isNum l = (decide (numVal l ≤ 1000000000) && decide (Go.Lib.itoa (numVal l) = l)) := by
  have e : Go.Lib.itoa (numVal l) = Go.Lib.decDigits (numVal l) := by unfold Go.Lib.itoa; rw [if_neg (by omega)]; simp
  rw [e]
  unfold isNum
  have e0 : l.isEmpty = false := by cases l <;> simp_all
  rw [e0, hd]
  simp only [Bool.not_false, Bool.true_and, Bool.and_true]
  congr 1
  rw [Bool.eq_iff_iff]
  simp only [Bool.or_eq_true, decide_eq_true_eq, Bool.not_eq_true', beq_eq_false_iff_ne]
  constructor
  · intro h
    exact decDigits_val _ l rfl h0 hd h
  · intro h
    rcases Nat.lt_or_ge 1 l.length with h1 | h1
    · right; rw [← h] at h1 ⊢; exact decDigits_lead _ h1
    · left; have : l.length ≠ 0 := fun h => h0 (List.eq_nil_of_length_eq_zero h); omega
theorem bytesLess_val : ∀ (l m : List UInt8), l.length = m.length → l.all digit = true → m.all digit = true → Go.Op.bytesLess l m = decide (valFrom 0 l < valFrom 0 m)
  | [], [], _, _, _ => by simp [Go.Op.bytesLess, valFrom]
  | [], _ :: _, h, _, _ => by simp at h
  | _ :: _, [], h, _, _ => by simp at h
  | a :: l, b :: m, h, ha, hb => by
    simp only [List.all_cons, Bool.and_eq_true] at ha hb
    have hl : l.length = m.length := by simpa using h
    have h1 := (digit_iff a).1 ha.1
    have h2 := (digit_iff b).1 hb.1
    have v1 := val_lt l ha.2
    have v2 := val_lt m hb.2
    rw [Go.Op.bytesLess, bytesLess_val l m hl ha.2 hb.2, valFrom_cons, valFrom_cons, valFrom_acc l (10 * 0 + (a.toNat - 48)), valFrom_acc m (10 * 0 + (b.toNat - 48)), hl]
    rw [hl] at v1
    rw [Bool.eq_iff_iff]
    simp only [Bool.or_eq_true, Bool.and_eq_true, decide_eq_true_eq, beq_iff_eq, UInt8.lt_iff_toNat_lt]
    have hp : 1 ≤ 10 ^ m.length := Nat.pow_pos (by decide)
    generalize 10 ^ m.length = p at *
    rcases Nat.lt_trichotomy a.toNat b.toNat with hlt | heq | hgt
    · have : (10 * 0 + (a.toNat - 48) + 1) * p ≤ (10 * 0 + (b.toNat - 48)) * p := Nat.mul_le_mul_right _ (by omega)
      rw [Nat.add_mul] at this
      constructor
      · intro _; omega
      · intro _; exact .inl hlt
    · have hab : a = b := UInt8.toNat_inj.1 heq
      subst hab
      constructor
      · rintro (h | ⟨_, h⟩)
        · omega
        · omega
      · intro h; exact .inr ⟨rfl, by omega⟩
    · have : (10 * 0 + (b.toNat - 48) + 1) * p ≤ (10 * 0 + (a.toNat - 48)) * p := Nat.mul_le_mul_right _ (by omega)
      rw [Nat.add_mul] at this
      constructor
      · rintro (h | ⟨h, _⟩)
        · omega
        · rw [h] at hgt; omega
      · intro h; omega
theorem runLen_all (p : UInt8 → Bool) : ∀ l : List UInt8, (runLen p l = l.length) ↔ l.all p = true
  | [] => by simp [runLen]
  | c :: l => by
    have hle : ∀ m : List UInt8, runLen p m ≤ m.length := by
      intro m
      induction m with
      | nil => simp [runLen]
      | cons d m ih => simp only [runLen]; split <;> simp; omega
    simp only [runLen, List.all_cons, Bool.and_eq_true, List.length_cons]
    split
    · rename_i h; rw [← runLen_all p l]; simp [h]
    · rename_i h; simp [h]
def maxDigits : List UInt8 := [49, 48, 48, 48, 48, 48, 48, 48, 48, 48]
/-- the reference's way to say so -/
theorem isNum_ref (l : List UInt8) : isNum l = (!(l.isEmpty || decide (10 < l.length) || (decide (1 < l.length) && (l.head? == some 48)) || (decide (l.length = 10) && (!Go.Op.bytesLess l maxDigits && !(l == maxDigits)))) && decide (runLen digit l = l.length)) := by
  have e1 : decide (runLen digit l = l.length) = l.all digit := by rw [Bool.eq_iff_iff]; simp only [decide_eq_true_eq]; exact runLen_all _ _
  rw [e1]
  unfold isNum
  cases hd : l.all digit with
  | false => simp
  | true =>
    cases hl : l with
    | nil => simp
    | cons c r =>
      rw [← hl]
      have e0 : l.isEmpty = false := by rw [hl]; rfl
      rw [e0]
      have hlt := val_lt l hd
      rw [← numVal_eq] at hlt
      by_cases hz : l.head? = some 48
      · rw [hz]
        by_cases h1 : l.length = 1
        · have : numVal l ≤ 1000000000 := by rw [h1] at hlt; omega
          simp [h1, this]
        · have : 1 < l.length := by rw [hl] at h1 ⊢; simp at h1 ⊢; cases r <;> simp_all
          simp [h1, this]
      · have hz' : (l.head? == some 48) = false := by simpa using hz
        rw [hz']
        have hc : 49 ≤ c.toNat := by
          have h1 := (digit_iff c).1 (by rw [hl] at hd; simp only [List.all_cons, Bool.and_eq_true] at hd; exact hd.1)
          rcases Nat.lt_or_ge 48 c.toNat with h | h
          · exact h
          · exfalso; apply hz; rw [hl]; simp; apply UInt8.toNat_inj.1; simp; omega
        have hge : 10 ^ r.length ≤ numVal l := by rw [hl]; exact val_ge c r hc
        have hlen : l.length = r.length + 1 := by rw [hl]; rfl
        rcases Nat.lt_trichotomy l.length 10 with h | h | h
        · have : numVal l ≤ 1000000000 := by
            have : 10 ^ l.length ≤ 10 ^ 9 := Nat.pow_le_pow_right (by omega) (by omega)
            omega
          have h2 : ¬ 10 < l.length := by omega
          have h3 : ¬ l.length = 10 := by omega
          simp [this, h2, h3]
        · have hb := bytesLess_val l maxDigits (by rw [h]; rfl) hd (by decide)
          have hm : valFrom 0 maxDigits = 1000000000 := by decide
          rw [hb, hm, ← numVal_eq]
          have heq : (l == maxDigits) = decide (numVal l = 1000000000) := by
            rw [Bool.eq_iff_iff]
            simp only [beq_iff_eq, decide_eq_true_eq]
            constructor
            · intro h; rw [h]; decide
            · intro hv
              have h1 := decDigits_val _ l rfl (by rw [hl]; simp) hd (.inr hz)
              have h2 := decDigits_val _ maxDigits rfl (by decide) (by decide) (.inr (by decide))
              rw [← h1, ← h2, ← numVal_eq, ← numVal_eq, hv]; rfl
          rw [heq]
          simp [h]
          rw [Bool.eq_iff_iff]; simp; omega
        · have hbig : ¬ numVal l ≤ 1000000000 := by
            have : 10 ^ 10 ≤ 10 ^ r.length := Nat.pow_le_pow_right (by omega) (by omega)
            omega
          simp [h, hbig]
end Lode

/-
  LINES AND COLUMNS (plain laws): what both programs compute of them.
-/
namespace Lode
def step1 (p : Nat × Nat) (c : UInt8) : Nat × Nat := if c = 10 then (p.1 + 1, 1) else (p.1, p.2 + 1)
theorem spot_eq (s : List UInt8) (k : Nat) : spot s k = (s.take k).foldl step1 (1, 1) := rfl
theorem spot_zero (s : List UInt8) : spot s 0 = (1, 1) := by simp [spot]
theorem spot_succ (s : List UInt8) (k : Nat) (h : k < s.length) : spot s (k + 1) = step1 (spot s k) s[k] := by
  rw [spot_eq, spot_eq, ← List.take_append_getElem h, List.foldl_append]; rfl
/-- all places, one after another -/
def offF (line col : Int) : Nat × Nat → Nat → List UInt8 → Nat × Nat
  | p, a, [] => if (p.1 : Int) = line ∧ (p.2 : Int) = col then (a, 0) else (0, 3)
  | p, a, c :: r => if (p.1 : Int) = line ∧ (p.2 : Int) = col then (a, 0) else offF line col (step1 p c) (a + 1) r
/-- the place of a line and a column, or the error -/
def offset (s : List UInt8) (line col : Int) : Nat × Nat := if (check s).2 ≠ 0 then (0, (check s).2) else offF line col (1, 1) 0 s
def lines : List UInt8 → List (List UInt8)
  | [] => [[]]
  | c :: r => if c = 10 then [] :: lines r else match lines r with
    | l :: ls => (c :: l) :: ls
    | [] => [[c]]
theorem lines_ne : ∀ r, lines r ≠ []
  | [] => by simp [lines]
  | c :: r => by
    simp only [lines]
    split
    · simp
    · split <;> simp
/-- line by line -/
def offL (line col : Int) : Nat → Nat → List (List UInt8) → Nat × Nat
  | _, _, [] => (0, 3)
  | a, ln, l :: ls => if (ln : Int) = line then (if col < 1 ∨ (l.length : Int) + 1 < col then (0, 3) else ((a + col - 1).toNat, 0)) else offL line col (a + l.length + 1) (ln + 1) ls
theorem offF_past (line col : Int) : ∀ (r : List UInt8) (p : Nat × Nat) (a : Nat), line < p.1 → offF line col p a r = (0, 3)
  | [], p, a, h => by rw [offF, if_neg (by omega)]
  | c :: r, p, a, h => by
    rw [offF, if_neg (by omega)]
    apply offF_past line col r
    unfold step1
    split
    · simp only []; omega
    · exact h
theorem offF_lines (line col : Int) : ∀ (r l : List UInt8) (ls : List (List UInt8)) (ln c0 a : Nat), lines r = l :: ls → 1 ≤ c0 →
    offF line col (ln, c0) a r = if (ln : Int) = line then (if col < c0 ∨ (c0 : Int) + l.length < col then (0, 3) else ((a + col - c0).toNat, 0)) else offL line col (a + l.length + 1) (ln + 1) ls
  | [], l, ls, ln, c0, a, h, h1 => by
    simp only [lines, List.cons.injEq] at h
    obtain ⟨rfl, rfl⟩ := h
    simp only [offF, offL, List.length_nil]
    by_cases hl : (ln : Int) = line
    · rw [if_pos hl]
      by_cases hc : (c0 : Int) = col
      · rw [if_pos ⟨hl, hc⟩, if_neg (by omega)]
        simp only [Prod.mk.injEq, and_true]; omega
      · rw [if_neg (by omega), if_pos (by omega)]
    · rw [if_neg (by omega), if_neg hl]
  | c :: r, l, ls, ln, c0, a, h, h1 => by
    simp only [lines] at h
    simp only [offF]
    by_cases h10 : c = 10
    · rw [if_pos h10, List.cons.injEq] at h
      obtain ⟨rfl, rfl⟩ := h
      simp only [List.length_nil]
      have hs : step1 (ln, c0) c = (ln + 1, 1) := by simp [step1, h10]
      rw [hs]
      by_cases hl : (ln : Int) = line
      · rw [if_pos hl]
        by_cases hc : (c0 : Int) = col
        · rw [if_pos ⟨hl, hc⟩, if_neg (by omega)]
          simp only [Prod.mk.injEq, and_true]; omega
        · rw [if_neg (by omega), if_pos (by omega)]
          exact offF_past line col r _ _ (by simp only []; omega)
      · rw [if_neg (by omega), if_neg hl]
        cases hL : lines r with
        | nil => exact absurd hL (lines_ne r)
        | cons l' ls' =>
          rw [offF_lines line col r l' ls' (ln + 1) 1 (a + 1) hL (by omega)]
          simp only [offL]
          by_cases hl2 : ((ln + 1 : Nat) : Int) = line
          · rw [if_pos hl2, if_pos hl2]
            have e : (col < ((1 : Nat) : Int) ∨ ((1 : Nat) : Int) + l'.length < col) ↔ (col < 1 ∨ (l'.length : Int) + 1 < col) := by omega
            simp only [e]
            split
            · rfl
            · simp only [Prod.mk.injEq, and_true]; omega
          · rw [if_neg hl2, if_neg hl2]
    · rw [if_neg h10] at h
      cases hL : lines r with
      | nil => exact absurd hL (lines_ne r)
      | cons l' ls' =>
        rw [hL] at h
        simp only [List.cons.injEq] at h
        obtain ⟨rfl, rfl⟩ := h
        have hs : step1 (ln, c0) c = (ln, c0 + 1) := by simp [step1, h10]
        rw [hs, offF_lines line col r l' ls' ln (c0 + 1) (a + 1) hL (by omega)]
        simp only [List.length_cons]
        by_cases hl : (ln : Int) = line
        · rw [if_pos hl, if_pos hl]
          by_cases hc : (c0 : Int) = col
          · rw [if_pos ⟨hl, hc⟩, if_neg (by omega)]
            simp only [Prod.mk.injEq, and_true]; omega
          · rw [if_neg (by omega)]
            have e : (col < ((c0 + 1 : Nat) : Int) ∨ ((c0 + 1 : Nat) : Int) + l'.length < col) ↔ (col < (c0 : Int) ∨ (c0 : Int) + ((l'.length + 1 : Nat) : Int) < col) := by omega
            simp only [e]
            split
            · rfl
            · simp only [Prod.mk.injEq, and_true]; omega
        · rw [if_neg hl, if_neg hl, if_neg (by omega), show a + 1 + l'.length + 1 = a + (l'.length + 1) + 1 from by omega]
theorem offL_lines (s : List UInt8) (line col : Int) : offL line col 0 1 (lines s) = offF line col (1, 1) 0 s := by
  cases hL : lines s with
  | nil => exact absurd hL (lines_ne s)
  | cons l ls =>
    rw [offF_lines line col s l ls 1 1 0 hL (by omega)]
    simp only [offL]
    by_cases hl : ((1 : Nat) : Int) = line
    · rw [if_pos hl, if_pos hl]
      have e : (col < ((1 : Nat) : Int) ∨ ((1 : Nat) : Int) + l.length < col) ↔ (col < 1 ∨ (l.length : Int) + 1 < col) := by omega
      simp only [e]
      rfl
    · rw [if_neg hl, if_neg hl]
/-- what is found is the place of it -/
theorem offF_ok (line col : Int) (s : List UInt8) : ∀ (r : List UInt8) (a : Nat), r = s.drop a → a ≤ s.length → ∀ k, offF line col (spot s a) a r = (k, 0) → k ≤ s.length ∧ ((spot s k).1 : Int) = line ∧ ((spot s k).2 : Int) = col
  | [], a, hr, ha, k, h => by
    simp only [offF] at h
    split at h
    · cases h; exact ⟨ha, by assumption⟩
    · cases h
  | c :: r, a, hr, ha, k, h => by
    simp only [offF] at h
    split at h
    · cases h; exact ⟨ha, by assumption⟩
    · have hlt : a < s.length := by
        rcases Nat.lt_or_ge a s.length with h | h
        · exact h
        · rw [List.drop_eq_nil_of_le h] at hr; cases hr
      rw [List.drop_eq_getElem_cons hlt, List.cons.injEq] at hr
      rw [hr.1, ← spot_succ s a hlt] at h
      exact offF_ok line col s r (a + 1) hr.2 (by omega) k h
theorem spot_count (s : ByteArray) : ∀ k, k ≤ s.size → spot s.data.toList k = (1 + Go.Lib.countByte (s.data.toList.take k) 10, ((k : Int) - Go.Lib.lastIdx s 10 k).toNat) ∧ Go.Lib.lastIdx s 10 k < k ∧ -1 ≤ Go.Lib.lastIdx s 10 k
  | 0, _ => by simp [spot, Go.Lib.countByte, Go.Lib.lastIdx]
  | k + 1, h => by
    have hlt : k < s.data.toList.length := by simp; omega
    obtain ⟨h1, h2, h3⟩ := spot_count s k (by omega)
    have hg : s.data.toList[k] = s[k]'(by omega) := by simp; rfl
    have hd : s.data[k]! = s[k]'(by omega) := by rw [getElem!_pos s.data k (by simpa using hlt)]; rfl
    have hcnt : Go.Lib.countByte (s.data.toList.take (k + 1)) 10 = Go.Lib.countByte (s.data.toList.take k) 10 + (if s[k]'(by omega) = 10 then 1 else 0) := by
      unfold Go.Lib.countByte
      rw [← List.take_append_getElem hlt, List.count_append, hg]
      by_cases hc : s[k]'(by omega) = 10 <;> simp [hc]
    rw [spot_succ _ _ hlt, h1, hg, hcnt]
    generalize s[k]'(by omega) = c at *
    have hv : (((c.toNat : Nat) : Int) = 10) ↔ c = 10 := by
      constructor
      · intro h; exact UInt8.toNat_inj.1 (by have : (10 : UInt8).toNat = 10 := rfl; omega)
      · rintro rfl; rfl
    simp only [Go.Lib.lastIdx, step1, hd, hv]
    by_cases hc : c = 10
    · simp only [hc, if_true, Prod.mk.injEq]; clear hcnt hv hc hg hd h1 hlt; exact ⟨⟨by omega, by omega⟩, by omega, by omega⟩
    · simp only [hc, if_false, Prod.mk.injEq]; omega
end Lode

/-
  WHERE LISTS OF TOKENS DIFFER (plain laws).
-/
namespace Lode
def alikeT (a b : Tok) : Bool := decide (a.kind = b.kind) && decide (a.text = b.text)
def commonL : List Tok → List Tok → Nat
  | a :: l, b :: m => if alikeT a b then commonL l m + 1 else 0
  | [], _ => 0
  | _ :: _, [] => 0
theorem commonL_nil (x : List Tok) : commonL x [] = 0 := by cases x <;> rfl
theorem commonL_le : ∀ x y : List Tok, commonL x y ≤ x.length ∧ commonL x y ≤ y.length
  | [], y => by simp [commonL]
  | _ :: _, [] => by simp [commonL]
  | a :: l, b :: m => by
    have := commonL_le l m
    simp only [commonL, List.length_cons]
    split <;> omega
def differ (a b : List UInt8) : (Nat × Nat × Nat) × Nat :=
  if (read a).2.2 ≠ 0 then ((0, 0, 0), (read a).2.2) else
  if (read b).2.2 ≠ 0 then ((0, 0, 0), (read b).2.2) else
  let f := commonL (read a).1 (read b).1
  let n := commonL ((read a).1.drop f).reverse ((read b).1.drop f).reverse
  ((f, (read a).1.length - f - n, (read b).1.length - f - n), 0)
/-- k have been compared, all alike -/
structure CInv (x y : List Tok) (k : Nat) : Prop where
  eq : commonL x y = k + commonL (x.drop k) (y.drop k)
  lx : k ≤ x.length
  ly : k ≤ y.length
theorem CInv.start (x y : List Tok) : CInv x y 0 := ⟨by simp, by omega, by omega⟩
theorem CInv.next {x y : List Tok} {k : Nat} (h : CInv x y k) (hx : k < x.length) (hy : k < y.length) (ha : alikeT x[k] y[k] = true) : CInv x y (k + 1) := by
  refine ⟨?_, by omega, by omega⟩
  rw [h.eq, List.drop_eq_getElem_cons hx, List.drop_eq_getElem_cons hy, commonL, if_pos ha]; omega
theorem CInv.stop {x y : List Tok} {k : Nat} (h : CInv x y k) (hx : k < x.length) (hy : k < y.length) (ha : alikeT x[k] y[k] = false) : commonL x y = k := by
  rw [h.eq, List.drop_eq_getElem_cons hx, List.drop_eq_getElem_cons hy, commonL, ha]; rfl
theorem CInv.out {x y : List Tok} {k : Nat} (h : CInv x y k) (he : x.length ≤ k ∨ y.length ≤ k) : commonL x y = k := by
  rw [h.eq]
  rcases he with he | he
  · rw [List.drop_eq_nil_of_le he]; rfl
  · rw [List.drop_eq_nil_of_le (as := y) he, commonL_nil]; rfl
end Lode
