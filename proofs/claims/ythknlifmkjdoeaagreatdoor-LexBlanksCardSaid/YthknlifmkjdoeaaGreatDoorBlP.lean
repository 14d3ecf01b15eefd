/-
  NO BLANK TOO MANY (plain laws): where each token of the shortest text stands; what a blank is for.
-/
import Derived.Test.YthknlifmkjdoeaaGreatDoorFlP
namespace Go.Proofs.YthknlifmkjdoeaaGreatDoor
open Go.RowKit Lode
theorem blank_law : ∀ (pre : List (Nat × List UInt8)) (x y : Nat × List UInt8) (post : List (Nat × List UInt8)) (Z : List UInt8), (∀ z ∈ pre ++ [x], spelt z) → spelt y → apartK x y = true → ¬ RdK (textOf (pre ++ [x]) ++ (spl y ++ Z)) (pre ++ x :: y :: post)
  | [], x, y, post, Z, hl, hy, ha => by
    have := blank_needed0 x y post Z (hl x (by simp)) hy ha
    simpa [textOf, tailOf] using this
  | w :: pre, x, y, post, Z, hl, hy, ha => blank_needed pre w x y post Z hl hy ha
/-- one token of the shortest text, as the law asks -/
theorem blank_step (ks : List (Nat × List UInt8)) (hsp : ∀ x ∈ ks, spelt x) (i : Nat) (hi : i < ks.length) :
    spelt ks[i] ∧ textOf (ks.take (i + 1)) = textOf (ks.take i) ++ (sepOf (ks.take i) ks[i] ++ spl ks[i]) ∧
    (∃ Z, textOf ks = textOf (ks.take i) ++ (sepOf (ks.take i) ks[i] ++ (spl ks[i] ++ Z)) ∧
    (∀ (h0 : 0 < i), sepOf (ks.take i) ks[i] = cond (apartK (ks[i - 1]'(by omega)) ks[i]) [32] [] ∧
      (apartK (ks[i - 1]'(by omega)) ks[i] = true → ∀ m p, Lode.read (textOf (ks.take i) ++ (spl ks[i] ++ Z)) = (m, p, 0) → m.map kt ≠ ks))) ∧
    (i = 0 → sepOf (ks.take i) ks[i] = []) := by
  have hs := List.take_append_getElem hi
  have hd : ks = ks.take i ++ ks[i] :: ks.drop (i + 1) := by
    conv => lhs; rw [← List.take_append_drop i ks, List.drop_eq_getElem_cons hi]
  refine ⟨hsp _ (List.getElem_mem _), ?_, ⟨tailOf ks[i] (ks.drop (i + 1)), ?_, ?_⟩, ?_⟩
  · rw [← hs, text_snoc]
  · conv => lhs; rw [hd]
    exact text_split _ _ _
  · intro h0
    have hlt : i - 1 < ks.length := by omega
    have ht : ks.take i = ks.take (i - 1) ++ [ks[i - 1]] := by
      have := List.take_append_getElem hlt
      rw [show i - 1 + 1 = i by omega] at this
      exact this.symm
    constructor
    · unfold sepOf
      rw [ht, List.getLast?_concat]
      show (if apartK ks[i - 1] ks[i] then [32] else []) = cond (apartK ks[i - 1] ks[i]) [32] []
      cases apartK ks[i - 1] ks[i] <;> rfl
    · intro ha m p hr he
      have h1 : (Lode.read (textOf (ks.take i) ++ (spl ks[i] ++ tailOf ks[i] (ks.drop (i + 1))))).2.2 = 0 := by rw [hr]
      have h2 := (read_rd h1).1.k
      rw [hr] at h2
      simp only at h2
      rw [he] at h2
      have h3 := blank_law (ks.take (i - 1)) ks[i - 1] ks[i] (ks.drop (i + 1)) (tailOf ks[i] (ks.drop (i + 1))) (by
        intro z hz
        rw [← ht] at hz
        exact hsp z (List.mem_of_mem_take hz)) (hsp _ (List.getElem_mem _)) ha
      apply h3
      rw [← ht]
      have e : ks.take (i - 1) ++ ks[i - 1] :: ks[i] :: ks.drop (i + 1) = ks := by
        have h9 : ks.take (i - 1) ++ ks[i - 1] :: ks[i] :: ks.drop (i + 1) = (ks.take (i - 1) ++ [ks[i - 1]]) ++ ks[i] :: ks.drop (i + 1) := by rw [List.append_assoc]; rfl
        rw [h9, ← ht]
        exact hd.symm
      rw [e]
      exact h2
  · intro h0
    subst h0
    rfl
end Go.Proofs.YthknlifmkjdoeaaGreatDoor
