/-
  A REGION WALKED BY A PLAN, ITS LATE STEPS: stores and appends, in a forced order at the end.
-/
import Derived.Test.YthknlifmkjdoeaaGreatDoorRegion
namespace Lode
open Go Go.RowKit Go.Sort
section
variable {P : Program} {l : List Oper} {Q : Act → World → Prop} {r : List (Nat × Nat)} {b w : World} {a : Act}
theorem wpM_late {i f : Nat} {o : Oper} (hi' : l[i]? = some o) (hw : Region.wanted o (yielded l.toArray a.tmps) = true) (h : ∀ w, Cl b w → o.wp P a w (wpE P l.toArray Q r) (fun _ _ _ => False)) : wpM P l.toArray Q ((i, f + 3) :: r) b a := by
  have hi : l.toArray[i]? = some o := by rw [List.getElem?_toArray]; exact hi'
  unfold wpM
  intro w hc
  simp only [stepX, hi, hw, if_true]
  exact h w hc
theorem wpE_take {i : Nat} {o : Oper} {v : Value} (hi' : l[i]? = some o) (hw : Region.wanted o (yielded l.toArray a.tmps) = true) (hy : ∀ w, (execOp a.eval o).run P w = .ok (.value v) w) (h : wpE P l.toArray Q r (a.put o.dst v) w) : wpE P l.toArray Q ((i, 0) :: r) a w := by
  have hi : l.toArray[i]? = some o := by rw [List.getElem?_toArray]; exact hi'
  unfold wpE
  exact stepW_of (next := fun a' => wpE P l.toArray Q r a' w) hi (.inl ⟨hw, fun w => by rw [hy w]; exact ⟨rfl, rfl⟩⟩) h
theorem wpE_skip {i : Nat} {o : Oper} (hi' : l[i]? = some o) (hw : Region.wanted o (yielded l.toArray a.tmps) = false) (h : wpE P l.toArray Q r (a.put o.dst undef) w) : wpE P l.toArray Q ((i, 0) :: r) a w := by
  have hi : l.toArray[i]? = some o := by rw [List.getElem?_toArray]; exact hi'
  unfold wpE
  exact stepW_of (next := fun a' => wpE P l.toArray Q r a' w) hi (.inr ⟨hw, rfl⟩) h
theorem wpE_step {i f : Nat} {o : Oper} (hi' : l[i]? = some o) (hw : Region.wanted o (yielded l.toArray a.tmps) = true) (h : o.wp P a w (wpE P l.toArray Q r) (fun _ _ _ => False)) : wpE P l.toArray Q ((i, f + 1) :: r) a w := by
  have hi : l.toArray[i]? = some o := by rw [List.getElem?_toArray]; exact hi'
  unfold wpE
  simp only [stepX, hi, hw, if_true]
  exact h
theorem wpE_done (h : Q a w) : wpE P l.toArray Q [] a w := h
end
end Lode
