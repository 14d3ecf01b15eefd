/-
  TOKENS ONE AFTER ANOTHER (plain laws).
-/
import Derived.Test.YthknlifmkjdoeaaGreatDoorBase3
namespace Go.Proofs.YthknlifmkjdoeaaGreatDoor
open Go.RowKit Lode Go.Shelf
/-- pre are the tokens read, and k is where the next begins (or the end) -/
inductive AtP (s : List UInt8) : List Tok → Nat → Prop
  | start : AtP s [] (gapLen false s)
  | next {pre : List Tok} {k kk m : Nat} {t : List UInt8} : AtP s pre k → k < s.length → tok1 (s.drop k) = some (kk, t, m) → AtP s (pre ++ [⟨kk, t, (k : Nat)⟩]) (k + m + gapLen false (s.drop (k + m)))
theorem AtP.le {s : List UInt8} {L : List Tok} {k : Nat} (h : AtP s L k) : k ≤ s.length := by
  cases h with
  | start => have := gapLen_le false s; omega
  | @next pre k0 kk m t h1 h2 h3 =>
    have := tok1_wide h3
    have h5 := gapLen_le false (s.drop (k0 + m))
    simp only [List.length_drop] at this h5
    omega
theorem AtP.rinv {s : List UInt8} {L : List Tok} {k : Nat} (hc : (check s).2 = 0) (h : AtP s L k) : L.length ≤ 1200 → RInv s (Lode.read s) L k := by
  induction h with
  | start => intro _; exact RInv.start hc
  | next h1 h2 h3 ih =>
    intro hl
    simp only [List.length_append, List.length_cons, List.length_nil] at hl
    exact (ih (by omega)).next h2 h3 (by omega)
theorem AtP.kinds {s : List UInt8} {L : List Tok} {k : Nat} (h : AtP s L k) : ∀ t ∈ L, 1 ≤ t.kind := by
  induction h with
  | start => intro t ht; cases ht
  | next h1 h2 h3 ih =>
    intro t ht
    rcases List.mem_append.1 ht with h | h
    · exact ih t h
    · rw [List.mem_singleton] at h; subst h; exact (tok1_wide h3).2.2.1
/-- what the iterator hands over behind pre -/
def GTok (s : List UInt8) (pre : List Tok) (x : Tok) : Prop := ∃ k, AtP s pre k ∧ k < s.length ∧ ((tok1 (s.drop k) = none ∧ x = ⟨0, [], (k : Nat)⟩) ∨ ∃ kk t m, tok1 (s.drop k) = some (kk, t, m) ∧ x = ⟨kk, t, (k : Nat)⟩)
/-- all that it hands over -/
def STok (s : List UInt8) (xs : List Tok) : Prop := (∃ k, AtP s xs k ∧ s.length ≤ k) ∨ ∃ pre k, xs = pre ++ [⟨0, [], (k : Nat)⟩]
abbrev tokV (t : Tok) : Value := .agg #[.int .u8 t.kind, .string ⟨t.text.toArray⟩, .int .i64 t.at_]
end Go.Proofs.YthknlifmkjdoeaaGreatDoor
