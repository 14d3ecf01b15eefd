/-
  WHERE LISTS OF TOKENS DIFFER (plain laws).
-/
import Derived.Test.YthknlifmkjdoeaaGreatDoorSpec
namespace Lode
def alikeT (a b : Tok) : Bool := decide (a.kind = b.kind) && decide (a.text = b.text)
def commonL : List Tok → List Tok → Nat
  | a :: l, b :: m => if alikeT a b then commonL l m + 1 else 0
  | [], _ => 0
  | _ :: _, [] => 0
theorem commonL_nil (x : List Tok) : commonL x [] = 0 := by cases x <;> rfl
theorem commonL_le : ∀ x y : List Tok, commonL x y ≤ x.length ∧ commonL x y ≤ y.length
  | [], y => by simp [commonL]
  | _ :: _, [] => by simp [commonL]
  | a :: l, b :: m => by
    have := commonL_le l m
    simp only [commonL, List.length_cons]
    split <;> omega
def differ (a b : List UInt8) : (Nat × Nat × Nat) × Nat :=
  if (read a).2.2 ≠ 0 then ((0, 0, 0), (read a).2.2) else
  if (read b).2.2 ≠ 0 then ((0, 0, 0), (read b).2.2) else
  let f := commonL (read a).1 (read b).1
  let n := commonL ((read a).1.drop f).reverse ((read b).1.drop f).reverse
  ((f, (read a).1.length - f - n, (read b).1.length - f - n), 0)
/-- k have been compared, all alike -/
structure CInv (x y : List Tok) (k : Nat) : Prop where
  eq : commonL x y = k + commonL (x.drop k) (y.drop k)
  lx : k ≤ x.length
  ly : k ≤ y.length
theorem CInv.start (x y : List Tok) : CInv x y 0 := ⟨by simp, by omega, by omega⟩
theorem CInv.next {x y : List Tok} {k : Nat} (h : CInv x y k) (hx : k < x.length) (hy : k < y.length) (ha : alikeT x[k] y[k] = true) : CInv x y (k + 1) := by
  refine ⟨?_, by omega, by omega⟩
  rw [h.eq, List.drop_eq_getElem_cons hx, List.drop_eq_getElem_cons hy, commonL, if_pos ha]; omega
theorem CInv.stop {x y : List Tok} {k : Nat} (h : CInv x y k) (hx : k < x.length) (hy : k < y.length) (ha : alikeT x[k] y[k] = false) : commonL x y = k := by
  rw [h.eq, List.drop_eq_getElem_cons hx, List.drop_eq_getElem_cons hy, commonL, ha]; rfl
theorem CInv.out {x y : List Tok} {k : Nat} (h : CInv x y k) (he : x.length ≤ k ∨ y.length ≤ k) : commonL x y = k := by
  rw [h.eq]
  rcases he with he | he
  · rw [List.drop_eq_nil_of_le he]; rfl
  · rw [List.drop_eq_nil_of_le (as := y) he, commonL_nil]; rfl
end Lode
