/-
  WHERE TWO TEXTS DIFFER (plain laws): what is cut and put makes the one of the other.
-/
import Derived.Test.YthknlifmkjdoeaaGreatDoorText
namespace Go.Proofs.YthknlifmkjdoeaaGreatDoor
open Go.RowKit Lode
theorem alikeT_kt (a b : Tok) : alikeT a b = true ↔ kt a = kt b := by
  simp [alikeT, kt]
theorem common_take : ∀ L M : List Tok, (L.take (commonL L M)).map kt = (M.take (commonL L M)).map kt
  | [], M => by simp [commonL]
  | _ :: _, [] => by simp [commonL]
  | a :: L, b :: M => by
    simp only [commonL]
    split
    · rename_i h
      simp only [List.take_succ_cons, List.map_cons, (alikeT_kt a b).1 h, common_take L M]
    · simp
theorem common_stop : ∀ (L M : List Tok) (x y : Tok), L[commonL L M]? = some x → M[commonL L M]? = some y → kt x ≠ kt y
  | [], M, x, y, hx, _ => by simp at hx
  | _ :: _, [], x, y, _, hy => by simp at hy
  | a :: L, b :: M, x, y, hx, hy => by
    by_cases h : alikeT a b = true
    · simp only [commonL, h, if_true, List.getElem?_cons_succ] at hx hy
      exact common_stop L M x y hx hy
    · simp only [commonL, h, Bool.false_eq_true, if_false, List.getElem?_cons_zero, Option.some.injEq] at hx hy
      subst hx hy
      exact fun e => h ((alikeT_kt _ _).2 e)
theorem differed_plain (L M : List Tok) (f e : Nat) (hf : commonL L M = f) (he : commonL (L.drop f).reverse (M.drop f).reverse = e) :
    f ≤ L.length ∧ f ≤ M.length ∧ e ≤ L.length - f ∧ e ≤ M.length - f ∧
    (L.take f ++ (M.drop f).take (M.length - f - e) ++ L.drop (f + (L.length - f - e))).map kt = M.map kt ∧
    (∀ x y, L[f]? = some x → M[f]? = some y → kt x ≠ kt y) ∧
    (∀ x y, 0 < L.length - f - e → 0 < M.length - f - e → L[f + (L.length - f - e) - 1]? = some x → M[f + (M.length - f - e) - 1]? = some y → kt x ≠ kt y) := by
  have h1 := commonL_le L M
  have h2 := commonL_le (L.drop f).reverse (M.drop f).reverse
  have h3 := common_take L M
  have h4 := common_take (L.drop f).reverse (M.drop f).reverse
  have h5 := common_stop L M
  have h6 := common_stop (L.drop f).reverse (M.drop f).reverse
  rw [hf] at h1 h3 h5
  rw [he] at h2 h4 h6
  simp only [List.length_reverse, List.length_drop] at h2
  refine ⟨h1.1, h1.2, h2.1, h2.2, ?_, fun x y => h5 x y, fun x y hl hm hx hy => h6 x y ?_ ?_⟩
  · rw [List.take_reverse, List.take_reverse, List.map_reverse, List.map_reverse, List.reverse_inj] at h4
    simp only [List.length_drop, List.drop_drop] at h4
    rw [List.map_append, List.map_append, h3, h4, ← List.map_append, ← List.map_append]
    congr 1
    rw [List.append_assoc]
    conv => rhs; rw [← List.take_append_drop f M]
    congr 1
    conv => rhs; rw [← List.take_append_drop (M.length - f - e) (M.drop f)]
    rw [List.drop_drop]
  · rw [List.getElem?_reverse (by simp; omega), List.length_drop, List.getElem?_drop, ← hx]
    congr 1; omega
  · rw [List.getElem?_reverse (by simp; omega), List.length_drop, List.getElem?_drop, ← hy]
    congr 1; omega
end Go.Proofs.YthknlifmkjdoeaaGreatDoor
