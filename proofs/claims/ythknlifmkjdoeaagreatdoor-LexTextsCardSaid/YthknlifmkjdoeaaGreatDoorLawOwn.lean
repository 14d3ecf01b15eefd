/-
  THE LAWS' own: a copy of tokens.
-/
import Derived.Laws.AppendOwnNone
import Derived.OwnWalk
import Derived.Test.YthknlifmkjdoeaaGreatDoorLexR
import Derived.Test.YthknlifmkjdoeaaGreatDoorLexL
namespace Go.Proofs.YthknlifmkjdoeaaGreatDoor
open Go.RowKit Lode Go.Shelf
attribute [local go_sem ↓] Go.wp_at_zero Go.wp_at_succ
theorem tokCells_one : ∀ (l : List Tok), ∀ u ∈ tokCells l, u.oneCell' = true
  | [], u, h => by cases h
  | t :: l, u, h => by
    have e : tokCells (t :: l) = tokVals t ++ tokCells l := rfl
    rw [e, List.mem_append] at h
    rcases h with h | h
    · simp only [tokVals, List.mem_cons, List.not_mem_nil, or_false] at h
      rcases h with rfl | rfl | rfl <;> rfl
    · exact tokCells_one l u h
theorem ocells_at {w : World} {g off : Nat} {l : List Tok} (h : OCells w g off l) (j : Nat) (u : Value) (hu : (tokCells l)[j]? = some u) : w.cell? ((⟨g, off, none⟩ : Addr).add j) = some u := by
  have e1 : (⟨g, off, none⟩ : Addr).add j = ⟨g, off + j, none⟩ := by
    unfold Addr.add; split
    · rename_i h; subst h; rfl
    · rfl
  rw [e1]
  have hj : j < (tokCells l).length := (List.getElem?_eq_some_iff.1 hu).1
  rw [tokCells_length] at hj
  have hk : j / 3 < l.length := by omega
  obtain ⟨c0, c1, c2⟩ := h (j / 3) hk
  obtain ⟨t0, t1, t2⟩ := tokCells_get l (j / 3) hk
  have hr : j = j / 3 * 3 ∨ j = j / 3 * 3 + 1 ∨ j = j / 3 * 3 + 2 := by omega
  rcases hr with hr | hr | hr
  · rw [hr] at hu; rw [t0] at hu; cases hu
    rw [← hr] at c0; exact c0
  · rw [hr] at hu; rw [t1] at hu; cases hu
    rw [Nat.add_assoc, ← hr] at c1; exact c1
  · rw [hr] at hu; rw [t2] at hu; cases hu
    rw [Nat.add_assoc, ← hr] at c2; exact c2
set_option maxRecDepth 100000 in
theorem lown_any (v : Value) (l : List Tok) (w : World) (h : OSl w v l) (hl : l.length ≤ 100000) (hv : ∀ c, v = .slice none 0 c → c = 0) :
    Calls Tryz.prog 33 #[v] w fun e w' => ∃ v', e = .returned v' ∧ Toks w' w.heap.size v' l ∧ Below w.heap.size w w' := by
  obtain ⟨i0, hi, hz0, hz1, hz2⟩ := info_parts Tryz.infoTok
  obtain ⟨p, cap, rfl, h⟩ := h
  have hown : (w.alloc (.cells #[] 46 (0, 0))).ownsRow w.heap.size 46 3 (.slice (some ⟨w.heap.size, 0, none⟩) 0 0) 0 [] :=
    ⟨rfl, .inr ⟨w.heap.size, 0, #[], rfl, Nat.le_refl _, heap_new _ _, Nat.le_refl _, Nat.zero_le _, rfl, rfl⟩⟩
  have hbw := below_alloc w (.cells #[] 46 (0, 0))
  have Hi := hid (And.intro hi (And.intro hz0 (And.intro hz1 hz2)))
  clear hi hz0 hz1 hz2
  have fin : ∀ (v' : Value) (w' : World), w'.ownsRow w.heap.size 46 3 v' (0 + l.length) ([] ++ tokCells l) → (w.alloc (.cells #[] 46 (0, 0))).grownBy w' (Value.slice (some ⟨w.heap.size, 0, none⟩) 0 0).ownBlock → Toks w' w.heap.size v' l ∧ Below w.heap.size w w' := fun v' w' h1 h2 => by
    rw [Nat.zero_add, List.nil_append] at h1
    exact ⟨h1, below_grown hbw hown h2⟩
  have Fin := hid fin
  clear fin
  by_cases hl0 : l = []
  · cases p with
    | none =>
      subst hl0
      have hc0 := hv cap rfl
      subst hc0
      clear h hv
      go_enter Tryz.func33, Tryz.ntmps33
      go_wp2_with (at_builtin; refine wpList_append_own_none rfl _ _ 33 rfl w.heap.size 46 i0 3 Tryz.underlying33 Hi.out.1 _ 0 [] rfl hown rfl ?_)
      go_wp2_with fail
      go_ret
      exact ⟨_, rfl, hown, hbw⟩
    | some ad =>
      subst hl0
      clear h hv
      go_enter Tryz.func33, Tryz.ntmps33
      go_wp2_with (at_builtin; refine wpList_append_own _ rfl _ _ 33 rfl w.heap.size 46 i0 _ 3 32 Tryz.underlying33 Hi.out.1 Hi.out.2.1 Hi.out.2.2.1 Hi.out.2.2.2 rfl (by decide) _ 0 [] rfl hown ad 0 cap [] rfl rfl ?c1 ?c2 ?c3 ?c4 ?c5 ?_)
      case c1 => intro j u h; cases h
      case c2 => intro u hu; cases hu
      case c3 => exact Nat.zero_le _
      case c4 => omega
      case c5 => exact hbw.size
      intro v' w' h1 h2 _
      have hf := Fin.out v' w' h1 h2
      go_wp2_with fail
      go_ret
      exact ⟨v', rfl, hf.1, hf.2⟩
  · obtain ⟨g, off, rfl, hc⟩ := h.resolve_left hl0
    have Hc := hid hc
    clear hc h hv
    generalize hn : l.length = n at *
    go_enter Tryz.func33, Tryz.ntmps33
    go_wp2_with (at_builtin; refine wpList_append_own _ rfl _ _ 33 rfl w.heap.size 46 i0 _ 3 32 Tryz.underlying33 Hi.out.1 Hi.out.2.1 Hi.out.2.2.1 Hi.out.2.2.2 rfl (by decide) _ 0 [] rfl hown ⟨g, off, none⟩ n cap (tokCells l) rfl ?c0 ?c1 ?c2 ?c3 ?c4 ?c5 ?_)
    case c0 => rw [tokCells_length, hn]
    case c1 => exact fun j u hu => cell_later hbw (ocells_at Hc.out j u hu)
    case c2 => exact tokCells_one l
    case c3 => unfold maxLen; omega
    case c4 => omega
    case c5 => exact hbw.size
    intro v' w' h1 h2 _
    have hf := Fin.out v' w' (by first | exact h1 | (rw [Nat.zero_add, List.nil_append]; exact h1)) h2
    go_wp2_with fail
    go_ret
    exact ⟨v', rfl, hf.1, hf.2⟩
end Go.Proofs.YthknlifmkjdoeaaGreatDoor
