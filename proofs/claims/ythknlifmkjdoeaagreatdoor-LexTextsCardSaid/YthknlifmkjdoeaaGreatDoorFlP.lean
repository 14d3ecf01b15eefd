/-
  THERE AND BACK (plain laws): tokens follow one another, each with its spelling at its place; places lead back; the shortest text.
-/
import Derived.Test.YthknlifmkjdoeaaGreatDoorText
import Derived.Test.YthknlifmkjdoeaaGreatDoorLexV
namespace Lode
/-- what the laws' gap says -/
def gapB (l : List UInt8) (last : Bool) : Bool := match gapSt false l with
  | none => false
  | some c => last || !c
/-- the program's shortest text of tokens, or the error -/
def lText (l : List Tok) : List UInt8 × Nat :=
  if lspellAll l ≠ 0 then ([], lspellAll l) else
  if 3000 < (textOf (l.map kt)).length then ([], 5) else (textOf (l.map kt), 0)
/-- what stands ahead of a token in the shortest text -/
def sepOf (l : List (Nat × List UInt8)) (y : Nat × List UInt8) : List UInt8 := match l.getLast? with
  | none => []
  | some x => if apartK x y then [32] else []
end Lode
namespace Go.Proofs.YthknlifmkjdoeaaGreatDoor
open Go.RowKit Lode
def lastOf (x : Nat × List UInt8) : List (Nat × List UInt8) → Nat × List UInt8
  | [] => x
  | z :: l => lastOf z l
theorem getLast_of : ∀ (l : List (Nat × List UInt8)) (x : Nat × List UInt8), (x :: l).getLast? = some (lastOf x l)
  | [], _ => rfl
  | z :: l, x => by rw [List.getLast?_cons_cons]; exact getLast_of l z
theorem tail_split : ∀ (l : List (Nat × List UInt8)) (x y : Nat × List UInt8) (m : List (Nat × List UInt8)), tailOf x (l ++ y :: m) = tailOf x l ++ ((if apartK (lastOf x l) y then [32] else []) ++ (spl y ++ tailOf y m))
  | [], x, y, m => rfl
  | z :: l, x, y, m => by
    show (if apartK x z then [32] else []) ++ (spl z ++ tailOf z (l ++ y :: m)) = ((if apartK x z then [32] else []) ++ (spl z ++ tailOf z l)) ++ ((if apartK (lastOf z l) y then [32] else []) ++ (spl y ++ tailOf y m))
    rw [tail_split l z y m, List.append_assoc, List.append_assoc]
theorem text_split (l : List (Nat × List UInt8)) (y : Nat × List UInt8) (m : List (Nat × List UInt8)) : textOf (l ++ y :: m) = textOf l ++ (sepOf l y ++ (spl y ++ tailOf y m)) := by
  cases l with
  | nil => rfl
  | cons x l =>
    rw [List.cons_append, textOf, textOf, tail_split, sepOf, getLast_of]
    simp only [List.append_assoc]
theorem text_snoc (l : List (Nat × List UInt8)) (y : Nat × List UInt8) : textOf (l ++ [y]) = textOf l ++ (sepOf l y ++ spl y) := by
  rw [text_split]
  simp [tailOf]
theorem Rdg.head {e : Nat} {r : List UInt8} {x : Tok} {l : List Tok} (h : Rdg e r (x :: l)) : ∃ G R, r = G ++ (spl (kt x) ++ R) ∧ gapSt false G = some false ∧ x.at_ = (e + G.length : Nat) ∧ spelt (kt x) ∧ spl (kt x) ≠ [] ∧ Rdg (e + G.length + (spl (kt x)).length) R l := by
  cases h with
  | @tok _ G T R k t l h1 h2 h3 =>
    obtain ⟨h4, h5⟩ := tok1_T h2
    have h6 : spl (kt ⟨k, t, (e + G.length : Nat)⟩) = T := h5
    rw [h6]
    refine ⟨G, R, rfl, h1, rfl, h4, ?_, h3⟩
    have := spell_pos h4.eq
    rw [h5] at this
    exact this
theorem Rdg.last {e : Nat} {r : List UInt8} (h : Rdg e r []) : gapB r true = true := by
  cases h with
  | done h => unfold gapB; rw [h]; rfl
/-- one token of a text, as the law asks -/
theorem follow_step {s : List UInt8} {e : Nat} {x : Tok} {l : List Tok} (he : e ≤ s.length) (h : Rdg e (s.drop e) (x :: l)) : ∃ a : Nat, x.at_ = (a : Int) ∧ e ≤ a ∧ a + (spl (kt x)).length ≤ s.length ∧ gapB ((s.drop e).take (a - e)) false = true ∧ (s.drop a).take (spl (kt x)).length = spl (kt x) ∧ spelt (kt x) ∧ spl (kt x) ≠ [] ∧
    Rdg (a + (spl (kt x)).length) (s.drop (a + (spl (kt x)).length)) l := by
  obtain ⟨G, R, h1, h2, h3, h4, h5, h6⟩ := h.head
  have hl := congrArg List.length h1
  simp only [List.length_drop, List.length_append] at hl
  have hd : s.drop (e + G.length) = spl (kt x) ++ R := by rw [← List.drop_drop, h1, List.drop_left]
  refine ⟨e + G.length, h3, by omega, by omega, ?_, ?_, h4, h5, ?_⟩
  · rw [h1, Nat.add_sub_cancel_left, List.take_left]
    unfold gapB; rw [h2]; rfl
  · rw [hd, List.take_left]
  · rw [← List.drop_drop, hd, List.drop_left]; exact h6
/-! ### places lead back -/
theorem step1_lt (p : Nat × Nat) (c : UInt8) : p.1 < (step1 p c).1 ∨ (p.1 = (step1 p c).1 ∧ p.2 < (step1 p c).2) := by
  unfold step1; split
  · left; simp
  · right; simp
theorem spot_lt (s : List UInt8) (a : Nat) : ∀ d, a + d + 1 ≤ s.length → (spot s a).1 < (spot s (a + d + 1)).1 ∨ ((spot s a).1 = (spot s (a + d + 1)).1 ∧ (spot s a).2 < (spot s (a + d + 1)).2)
  | 0, h => by rw [Nat.add_zero, spot_succ s a (by omega)]; exact step1_lt _ _
  | d + 1, h => by
    have ih := spot_lt s a d (by omega)
    rw [show a + (d + 1) + 1 = a + d + 1 + 1 by omega, spot_succ s (a + d + 1) (by omega)]
    have := step1_lt (spot s (a + d + 1)) (s[a + d + 1]'(by omega))
    omega
theorem offF_back (s : List UInt8) (k : Nat) (hk : k ≤ s.length) : ∀ d a, a + d = k → offF ((spot s k).1 : Nat) ((spot s k).2 : Nat) (spot s a) a (s.drop a) = (k, 0)
  | 0, a, h => by
    have h : a = k := by omega
    subst h
    cases s.drop a <;> simp [offF]
  | d + 1, a, h => by
    have hlt : a < s.length := by omega
    have hs := spot_lt s a d (by omega)
    rw [show a + d + 1 = k by omega] at hs
    rw [List.drop_eq_getElem_cons hlt, offF, if_neg (by omega), ← spot_succ s a hlt]
    exact offF_back s k hk d (a + 1) (by omega)
theorem offset_back {s : List UInt8} (hc : (check s).2 = 0) {k : Nat} (hk : k ≤ s.length) : place s (k : Int) = (spot s k, 0) ∧ offset s ((spot s k).1 : Nat) ((spot s k).2 : Nat) = (k, 0) := by
  constructor
  · rw [place, if_neg (by simp [hc]), if_neg (by omega)]; rfl
  · rw [offset, if_neg (by simp [hc])]
    have := offF_back s k hk k 0 (by omega)
    rwa [List.drop_zero, spot_zero] at this
/-! ### the shortest text -/
theorem spelt_text_len {x : Nat × List UInt8} (h : spelt x) : x.2.length ≤ 122 := by
  obtain ⟨k, t⟩ := x
  have he := h.eq
  unfold rspell at he
  simp only at he ⊢
  generalize spl (k, t) = z at he
  by_cases hk : k = 4
  · rw [if_pos hk] at he
    split at he
    · rename_i hq
      unfold quote at hq
      split at hq
      · cases hq
      · omega
    · cases he
  · rw [if_neg hk] at he
    split at he
    · cases he
    · rename_i h20
      have : ¬ 20 < t.length := fun e => h20 (.inr (.inl e))
      omega
theorem spellAll_of {l : List Tok} (hl : l.length ≤ 1200) (h : ∀ x ∈ l.map kt, spelt x) : lspellAll l = 0 := by
  unfold lspellAll
  rw [if_neg (by omega), if_pos]
  rw [List.all_eq_true]
  intro t ht
  have := h (kt t) (List.mem_map_of_mem ht)
  unfold spelt kt at this
  simp [okSp, this]
/-- tokens that were read from a text of at most 3000 bytes -/
theorem text_plain {s : List UInt8} (h : (Lode.read s).2.2 = 0) : lText (Lode.read s).1 = (textOf ((Lode.read s).1.map kt), 0) ∧ (textOf ((Lode.read s).1.map kt)).length ≤ s.length ∧
    ∃ m, Lode.read (textOf ((Lode.read s).1.map kt)) = (m, 0, 0) ∧ m.map kt = (Lode.read s).1.map kt := by
  obtain ⟨h1, h2, h3, _⟩ := read_rd h
  have hk := h1.k
  have hsp := hk.allSpelt
  have hle := text_le hk
  obtain ⟨c1, c2⟩ := chk_ok.1 h3
  refine ⟨?_, hle, ?_⟩
  · unfold lText
    rw [spellAll_of h2 hsp, if_neg (by simp), if_neg (by omega)]
  · obtain ⟨m, hm, hmk⟩ := read_text _ hsp
    have hml : m.length ≤ 1200 := by have := congrArg List.length hmk; simp only [List.length_map] at this; omega
    exact ⟨m, rd_read (chk_ok.2 ⟨by omega, text_isB _ hsp⟩) hm hml, hmk⟩
end Go.Proofs.YthknlifmkjdoeaaGreatDoor
