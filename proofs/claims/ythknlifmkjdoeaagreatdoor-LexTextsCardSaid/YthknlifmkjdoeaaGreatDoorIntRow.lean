/-
  A ROW OF INTEGERS OF THE CALL'S OWN: one appended, the last one taken off; which block it lies in. Whether a text lies in ")]}".
-/
import Derived.OwnWalk
import Derived.Lib.IndexMore
import Derived.Test.YthknlifmkjdoeaaGreatDoorRep
import Derived.Test.YthknlifmkjdoeaaGreatDoorNestP
namespace Go.Proofs.YthknlifmkjdoeaaGreatDoor
open Go.RowKit Lode Go.Shelf
theorem append_one {w : World} {base g n cap : Nat} {xs : List Value} (hown : w.ownsRow base 3 1 (.slice (some ⟨g, 0, none⟩) n cap) n xs) {ad : Addr} {u : Value} (hu : w.cell? ad = some u) (hs : ad.spot = none) (h1 : u.oneCell' = true) (hn : n ≤ 1000000) (hbase : base ≤ w.heap.size) (ty : TypeId) :
    ∃ g' cap' w', (Builtin.append_ #[60, 60] ty #[.slice (some ⟨g, 0, none⟩) n cap, .slice (some ad) 1 1]).run Tryz.prog w = .ok (.slice (some ⟨g', 0, none⟩) (n + 1) cap') w' ∧ w'.ownsRow base 3 1 (.slice (some ⟨g', 0, none⟩) (n + 1) cap') (n + 1) (xs ++ [u]) ∧ w.grownBy w' (some g) ∧ (g' = g ∨ g' = w.heap.size) := by
  obtain ⟨i0, hi, hz0, hz1, hz2⟩ := info_parts Tryz.infoInt
  have hnews : ∀ j x, [u][j]? = some x → w.cell? (ad.add j) = some x := fun j x h => by
    match j, h with
    | 0, h =>
      simp at h; subst h
      obtain ⟨b, o, s⟩ := ad
      simp only at hs
      subst hs
      exact hu
  have h1' : ∀ x ∈ [u], x.oneCell' = true := fun x hx => by rw [List.mem_singleton] at hx; subst hx; exact h1
  obtain ⟨v', w', hr, h2, h3, _⟩ := run_append_own (P := Tryz.prog) w base 60 ty 3 i0 _ 1 8 Tryz.underlying60 hi hz0 hz1 hz2 rfl (by decide) _ n xs hown ad 1 1 [u] rfl hnews h1' (by unfold maxLen; omega) (by omega) hbase
  have key : ∃ g' cap', v' = .slice (some ⟨g', 0, none⟩) (n + 1) cap' ∧ (g' = g ∨ g' = w.heap.size) := by
    rcases id hown.2 with ⟨h, _⟩ | ⟨g2, cap2, cur, h, _, hg, hnc, hcm, hcs, htake⟩
    · simp at h
    · simp only [Value.slice.injEq, Option.some.injEq, Addr.mk.injEq, and_true, true_and] at h
      obtain ⟨rfl, rfl⟩ := h
      by_cases hroom : n + 1 ≤ cap
      · have hr2 := run_append_room (P := Tryz.prog) w 60 ty 3 i0 Tryz.underlying60 hi g n cap cur hg ad 1 1 [u] (by rw [hz1]; rfl) hnews h1' hroom (by rw [hz1, hcs]; simp; omega)
        rw [hr] at hr2
        simp only [Result.ok.injEq] at hr2
        exact ⟨g, cap, hr2.1, .inl rfl⟩
      · have hr2 := run_append_grow (P := Tryz.prog) w 60 ty 3 i0 _ Tryz.underlying60 hi hz0 ⟨g, 0, none⟩ n cap xs (by rw [hz1]; exact hown.1) (hown.cells (g := g) rfl) ad 1 1 [u] (by rw [hz1]; rfl) hnews (by omega) (by omega) (growslice_fits (by omega) (by rw [hz2]; omega))
        rw [hr] at hr2
        simp only [Result.ok.injEq] at hr2
        exact ⟨_, _, hr2.1, .inr rfl⟩
  obtain ⟨g', cap', rfl, hg'⟩ := key
  exact ⟨g', cap', w', hr, h2, h3, hg'⟩
theorem wpList_append_one {w : World} {ops : Array Oper} {rest : List Oper} {o : Oper} {a : Act} {Q : Exit → Act → World → Prop} (hgd : o.guard = none) (s x : Operand)
    (ho : o.op = .call { callee := .builtin .append, args := #[s, x], argTypes := #[60, 60] })
    {base g n cap : Nat} {xs : List Value} (hs : a.eval s = .slice (some ⟨g, 0, none⟩) n cap) (hown : w.ownsRow base 3 1 (.slice (some ⟨g, 0, none⟩) n cap) n xs) {ad : Addr} {u : Value} (hx : a.eval x = .slice (some ad) 1 1) (hu : w.cell? ad = some u) (hsp : ad.spot = none) (h1 : u.oneCell' = true) (hn : n ≤ 1000000) (hbase : base ≤ w.heap.size)
    (h : ∀ g' cap' w', w'.ownsRow base 3 1 (.slice (some ⟨g', 0, none⟩) (n + 1) cap') (n + 1) (xs ++ [u]) → w.grownBy w' (some g) → (g' = g ∨ g' = w.heap.size) → wpList Tryz.prog ops Q rest (a.put o.dst (.slice (some ⟨g', 0, none⟩) (n + 1) cap')) w') : wpList Tryz.prog ops Q (o :: rest) a w := by
  refine wpList_plain hgd fun K hK => ?_
  obtain ⟨g', cap', w', hr, h2, h3, h4⟩ := append_one hown hu hsp h1 hn hbase o.type
  unfold Oper.wp
  simp [execOp, ho, resolve, invoke, builtin, hs, hx, hr, Result.andThen]
  exact hK _ _ (h g' cap' w' h2 h3 h4)
theorem ownsRow_pop {w : World} {base g n cap : Nat} {xs : List Value} {u : Value} (h : w.ownsRow base 3 1 (.slice (some ⟨g, 0, none⟩) (n + 1) cap) (n + 1) (xs ++ [u])) : w.ownsRow base 3 1 (.slice (some ⟨g, 0, none⟩) n cap) n xs := by
  obtain ⟨hl, ⟨h', _⟩ | ⟨g', cap', cur, h', hb, hg, hnc, hcm, hcs, ht⟩⟩ := h
  · simp at h'
  · simp only [Value.slice.injEq, Option.some.injEq, Addr.mk.injEq, and_true, true_and] at h'
    obtain ⟨rfl, rfl⟩ := h'
    rw [List.length_append, List.length_singleton] at hl
    refine ⟨by omega, .inr ⟨g, cap, cur, rfl, hb, hg, by omega, hcm, hcs, ?_⟩⟩
    have e := congrArg (List.take (n * 1)) ht
    rw [List.take_take, Nat.min_eq_left (by omega), List.take_left' (by omega)] at e
    exact e
theorem contains_br (t : List UInt8) : Go.Lib.contains [41, 93, 125] t = closes t := by
  match t with
  | [] => rfl
  | [a] =>
    by_cases h1 : a = 41
    · subst h1; rfl
    · by_cases h2 : a = 93
      · subst h2; rfl
      · by_cases h3 : a = 125
        · subst h3; rfl
        · simp [Go.Lib.contains, Go.Lib.index, closes, List.isPrefixOf, h1, h2, h3]
  | [a, b] =>
    by_cases h1 : a = 41
    · subst h1
      by_cases h2 : b = 93
      · subst h2; rfl
      · simp [Go.Lib.contains, Go.Lib.index, closes, List.isPrefixOf, h2]
    · by_cases h2 : a = 93
      · subst h2
        by_cases h3 : b = 125
        · subst h3; rfl
        · simp [Go.Lib.contains, Go.Lib.index, closes, List.isPrefixOf, h3]
      · simp [Go.Lib.contains, Go.Lib.index, closes, List.isPrefixOf, h1, h2]
  | [a, b, c] =>
    by_cases h1 : a = 41 ∧ b = 93 ∧ c = 125
    · obtain ⟨rfl, rfl, rfl⟩ := h1; rfl
    · simp [Go.Lib.contains, Go.Lib.index, closes, List.isPrefixOf]
      simp only [not_and] at h1
      by_cases h2 : a = 41 <;> by_cases h3 : b = 93 <;> by_cases h4 : c = 125 <;> simp_all
  | a :: b :: c :: d :: r => simp [Go.Lib.contains, Go.Lib.index, closes, List.isPrefixOf]
end Go.Proofs.YthknlifmkjdoeaaGreatDoor
