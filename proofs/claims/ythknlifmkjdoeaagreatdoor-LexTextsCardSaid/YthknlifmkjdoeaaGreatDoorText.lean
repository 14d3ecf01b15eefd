/-
  THE SPELLING OF A TOKEN (plain laws): the reference's, by its first token, is the program's, by its reading.
-/
import Derived.Test.YthknlifmkjdoeaaGreatDoorBase
import Derived.Test.YthknlifmkjdoeaaGreatDoorSpec
import Derived.Test.YthknlifmkjdoeaaGreatDoorLexN
import Derived.Test.YthknlifmkjdoeaaGreatDoorLexP
namespace Lode
def rspell (k : Nat) (t : List UInt8) : List UInt8 × Nat :=
  if k = 4 then (if (quote t).2 = 0 then ((quote t).1, 0) else ([], 4)) else
  if t = [] ∨ 20 < t.length ∨ t.head? = some 34 then ([], 4) else
  match tok1 t with
  | some (k', _, n) => if n = t.length ∧ k' = k then (t, 0) else ([], 4)
  | none => ([], 4)
end Lode
namespace Go.Proofs.YthknlifmkjdoeaaGreatDoor
open Go.RowKit Lode Go.Shelf
theorem isB_small {c : UInt8} (h : small c = true) : isB c = true ∧ c ≠ 10 ∧ c ≠ 35 ∧ c ≠ 32 ∧ c ≠ 34 := by
  simp only [small, Bool.and_eq_true, decide_eq_true_eq] at h
  refine ⟨by simp [isB]; omega, ?_, ?_, ?_, ?_⟩ <;> (rintro rfl; revert h; decide)
theorem isB_big {c : UInt8} (h : big c = true) : isB c = true ∧ c ≠ 10 ∧ c ≠ 35 ∧ c ≠ 32 ∧ c ≠ 34 := by
  simp only [big, Bool.and_eq_true, decide_eq_true_eq] at h
  refine ⟨by simp [isB]; omega, ?_, ?_, ?_, ?_⟩ <;> (rintro rfl; revert h; decide)
theorem isB_digit {c : UInt8} (h : digit c = true) : isB c = true ∧ c ≠ 10 ∧ c ≠ 35 ∧ c ≠ 32 ∧ c ≠ 34 := by
  simp only [digit, Bool.and_eq_true, decide_eq_true_eq] at h
  refine ⟨by simp [isB]; omega, ?_, ?_, ?_, ?_⟩ <;> (rintro rfl; revert h; decide)
theorem all_of {p q : UInt8 → Bool} (h : ∀ c, p c = true → q c = true) : ∀ l : List UInt8, l.all p = true → l.all q = true := by
  intro l hl
  rw [List.all_eq_true] at hl ⊢
  exact fun c hc => h c (hl c hc)
theorem sign_good : ∀ g, g ∈ signList → g.all isB = true ∧ g.length ≤ 2 ∧ ∃ c r, g = c :: r ∧ c ≠ 10 ∧ c ≠ 35 ∧ c ≠ 32 ∧ c ≠ 34 := by
  intro g hg
  simp only [signList, List.mem_cons, List.not_mem_nil, or_false] at hg
  rcases hg with rfl | rfl | rfl | rfl | rfl | rfl | rfl | rfl | rfl | rfl | rfl | rfl | rfl | rfl | rfl | rfl | rfl | rfl | rfl | rfl | rfl | rfl | rfl | rfl | rfl <;> exact ⟨by decide, by decide, _, _, rfl, by decide, by decide, by decide, by decide⟩
theorem isPre_take : ∀ (g r : List UInt8), isPre g r = true → r.take g.length = g
  | [], _, _ => by simp
  | _ :: _, [], h => by simp [isPre] at h
  | a :: g, b :: r, h => by
    simp only [isPre, Bool.and_eq_true, decide_eq_true_eq] at h
    simp [h.1, isPre_take g r h.2]
theorem num_len {l : List UInt8} (h : isNum l = true) : l.length ≤ 10 := by
  simp only [isNum, Bool.and_eq_true, Bool.not_eq_true', decide_eq_true_eq, Bool.or_eq_true] at h
  obtain ⟨⟨⟨h1, h2⟩, h3⟩, h4⟩ := h
  cases l with
  | nil => simp
  | cons c l =>
    rcases h4 with h4 | h4
    · omega
    · simp only [List.head?_cons] at h4
      have hc : c ≠ 48 := fun e => by subst e; simp at h4
      simp only [List.all_cons, Bool.and_eq_true] at h2
      have hd := (digit_iff c).1 h2.1
      have h49 : 49 ≤ c.toNat := by
        rcases Nat.lt_or_ge c.toNat 49 with h | h
        · exfalso; apply hc; apply UInt8.toNat_inj.1; have : (48 : UInt8).toNat = 48 := rfl; omega
        · exact h
      have := val_ge c l h49
      rw [numVal_eq] at h3
      have hp : 10 ^ l.length ≤ 10 ^ 9 := by omega
      have := (Nat.pow_le_pow_iff_right (by omega : 1 < 10)).1 hp
      simp; omega
theorem tok1_plain {c : UInt8} {r : List UInt8} {k m : Nat} {x : List UInt8} (h : tok1 (c :: r) = some (k, x, m)) (hk : k ≠ 4) :
    x = (c :: r).take m ∧ ((c :: r).take m).all isB = true ∧ m ≤ 20 ∧ c ≠ 10 ∧ c ≠ 35 ∧ c ≠ 32 ∧ c ≠ 34 := by
  have sd : ∀ c, (small c || digit c) = true → isB c = true := fun c h => by
    rw [Bool.or_eq_true] at h
    rcases h with h | h
    · exact (isB_small h).1
    · exact (isB_digit h).1
  simp only [tok1] at h
  split at h
  · rename_i hs
    have hb := isB_small hs
    split at h
    · rename_i hn
      cases h
      refine ⟨rfl, ?_, by omega, hb.2⟩
      rw [Nat.add_comm, List.take_succ_cons, List.all_cons, hb.1, all_of sd _ (take_all _ r)]; rfl
    · cases h
  · split at h
    · rename_i hs
      have hb := isB_big hs
      split at h
      · rename_i hn
        cases h
        refine ⟨rfl, ?_, by omega, hb.2⟩
        rw [Nat.add_comm, List.take_succ_cons, List.all_cons, hb.1, all_of sd _ (take_all _ r)]; rfl
      · cases h
    · split at h
      · rename_i hs
        have hb := isB_digit hs
        split at h
        · rename_i hn
          cases h
          have hl := num_len hn
          have hr := runLen_le' digit r
          refine ⟨rfl, ?_, by simp at hl; omega, hb.2⟩
          rw [Nat.add_comm, List.take_succ_cons, List.all_cons, hb.1, all_of (fun c h => (isB_digit h).1) _ (take_all _ r)]; rfl
        · cases h
      · split at h
        · cases hq : Lode.quoted (c :: r) with
          | none => rw [hq] at h; cases h
          | some y => rw [hq] at h; cases h; exact absurd rfl hk
        · rename_i h34
          cases hg : signList.find? (fun g => isPre g (c :: r)) with
          | none => rw [hg] at h; cases h
          | some g =>
            rw [hg] at h; cases h
            have h1 := List.find?_some hg
            obtain ⟨g1, g2, d, q, rfl, g3⟩ := sign_good _ (List.mem_of_find?_eq_some hg)
            have ht := isPre_take _ _ h1
            have hdc : d = c := by
              simp only [isPre, Bool.and_eq_true, decide_eq_true_eq] at h1; exact h1.1
            refine ⟨ht.symm, by rw [ht]; exact g1, by omega, ?_⟩
            rw [← hdc]; exact g3
theorem RInv.pre {s : List UInt8} {r : List Tok × Nat × Nat} {L : List Tok} {a : Nat} (h : RInv s r L a) (h0 : r.2.2 = 0) : ∃ M, r.1 = L ++ M := by
  obtain ⟨a', f, _, _, _, _, e⟩ := h
  generalize scan f L.length a' (s.drop a') = x at e
  subst e
  unfold addPre at h0 ⊢
  by_cases hx : x.2.2 = 0
  · rw [if_pos hx]; exact ⟨x.1, rfl⟩
  · rw [if_neg hx] at h0; exact absurd h0 hx
theorem read_check {s : List UInt8} (h : (Lode.read s).2.2 = 0) : (check s).2 = 0 := by
  unfold Lode.read at h
  split at h
  · exact h
  · rename_i hc; simpa using hc
/-- the first token of what has been read -/
theorem read_head {s : List UInt8} (h : (Lode.read s).2.2 = 0) {k : Nat} {t : List UInt8} (hr : (Lode.read s).1 = [⟨k, t, 0⟩]) : ∃ m, tok1 s = some (k, t, m) := by
  have hi := RInv.start (read_check h)
  have hg := gapLen_le false s
  rcases Nat.lt_or_ge (gapLen false s) s.length with hlt | hge
  · cases ht : tok1 (s.drop (gapLen false s)) with
    | none => have := hi.bad hlt ht; rw [this] at h; cases h
    | some x =>
      obtain ⟨k', t', m⟩ := x
      obtain ⟨M, hM⟩ := (hi.next hlt ht (by simp)).pre h
      rw [hr] at hM
      simp only [List.nil_append, List.cons_append, List.cons.injEq, Tok.mk.injEq] at hM
      obtain ⟨⟨rfl, rfl, h0⟩, _⟩ := hM
      have h0 : gapLen false s = 0 := by omega
      rw [h0, List.drop_zero] at ht
      exact ⟨m, ht⟩
  · have := hi.done hge
    rw [this] at hr; cases hr
theorem gap_none {c : UInt8} {r : List UInt8} (h1 : c ≠ 10) (h2 : c ≠ 35) (h3 : c ≠ 32) : gapLen false (c :: r) = 0 := by simp [gapLen, h1, h2, h3]
theorem read_nil : Lode.read [] = ([], 0, 0) := by decide +kernel
theorem lspell_eq (k : Nat) (t : List UInt8) : lspell k t = rspell k t := by
  unfold lspell rspell
  by_cases hk : k = 4
  · rw [if_pos hk, if_pos hk]
  · rw [if_neg hk, if_neg hk]
    cases t with
    | nil => rw [if_pos (Or.inl rfl), if_neg (by rintro ⟨h, _⟩; rw [read_nil] at h; cases h)]
    | cons c r =>
      cases ht : tok1 (c :: r) with
      | none =>
        rw [if_neg (by rintro ⟨h1, h2⟩; obtain ⟨m, h⟩ := read_head h2 h1; rw [ht] at h; cases h)]
        split <;> rfl
      | some x =>
        obtain ⟨k', x, m⟩ := x
        have hw := tok1_wide ht
        by_cases h4 : k' = 4
        · rw [if_neg (by rintro ⟨h1, h2⟩; obtain ⟨m, h⟩ := read_head h2 h1; rw [ht] at h; cases h; exact hk h4)]
          split
          · rfl
          · show ([], 4) = if m = (c :: r).length ∧ k' = k then (c :: r, 0) else ([], 4)
            rw [if_neg (by rintro ⟨_, h⟩; exact hk (h ▸ h4))]
        · obtain ⟨hx, hall, hm, hc⟩ := tok1_plain ht h4
          by_cases hfit : m = (c :: r).length ∧ k' = k
          · obtain ⟨hm2, rfl⟩ := hfit
            have htk : (c :: r).take m = c :: r := by rw [hm2]; exact List.take_length
            rw [htk] at hx hall
            have hchk : (check (c :: r)).2 = 0 := by
              unfold check
              rw [if_neg (by omega)]
              have := findIx_all (c :: r)
              rw [hall] at this
              rw [of_decide_eq_true this]
            have hi := RInv.start hchk
            rw [gap_none hc.1 hc.2.1 hc.2.2.1] at hi
            have hn := hi.next (by simp) (by rw [List.drop_zero]; exact ht) (by simp)
            have hd := hn.done (by rw [hm2]; omega)
            rw [if_pos (by rw [hd, hx]; exact ⟨rfl, rfl⟩), if_neg (by
              rintro (h | h | h)
              · cases h
              · omega
              · simp only [List.head?_cons, Option.some.injEq] at h; exact hc.2.2.2 h)]
            show (c :: r, 0) = if m = (c :: r).length ∧ k' = k' then (c :: r, 0) else ([], 4)
            rw [if_pos ⟨hm2, rfl⟩]
          · rw [if_neg (by
              rintro ⟨h1, h2⟩
              obtain ⟨m', h⟩ := read_head h2 h1
              rw [ht] at h; cases h
              apply hfit
              refine ⟨?_, rfl⟩
              have := congrArg List.length hx
              rw [List.length_take] at this
              omega)]
            split
            · rfl
            · show ([], 4) = if m = (c :: r).length ∧ k' = k then (c :: r, 0) else ([], 4)
              rw [if_neg hfit]
end Go.Proofs.YthknlifmkjdoeaaGreatDoor

/-
  A TOKEN IS KNOWN BY ITS OWN BYTES AND THE NEXT ONE (plain laws); its spelling; reading without fuel.
-/
namespace Go.Proofs.YthknlifmkjdoeaaGreatDoor
open Go.RowKit Lode
theorem take_eq_le {x y : List UInt8} {m n : Nat} (h : x.take m = y.take m) (hn : n ≤ m) : x.take n = y.take n := by
  have := congrArg (List.take n) h
  simpa [List.take_take, Nat.min_eq_left hn] using this
theorem runLen_loc (p : UInt8 → Bool) : ∀ (x y : List UInt8), x.take (runLen p x + 1) = y.take (runLen p x + 1) → runLen p y = runLen p x
  | [], y, h => by
    cases y with
    | nil => rfl
    | cons c y => simp [runLen] at h
  | c :: r, y, h => by
    simp only [runLen] at h ⊢
    cases y with
    | nil => simp at h
    | cons d y =>
      by_cases hp : p c = true
      · simp only [hp, if_true, List.take_succ_cons, List.cons.injEq] at h ⊢
        obtain ⟨rfl, h⟩ := h
        simp only [runLen, hp, if_true]
        rw [runLen_loc p r y h]
      · simp only [hp, Bool.false_eq_true, if_false, List.take_succ_cons, List.cons.injEq] at h ⊢
        obtain ⟨rfl, h⟩ := h
        simp [runLen, hp]
theorem runLen_stop (p : UInt8 → Bool) (z : List UInt8) (hz : runLen p z = 0) : ∀ (x : List UInt8), runLen p (x.take (runLen p x) ++ z) = runLen p x
  | [] => by simp [runLen, hz]
  | c :: r => by
    simp only [runLen]
    by_cases hp : p c = true
    · simp only [hp, if_true, List.take_succ_cons, List.cons_append, runLen, runLen_stop p z hz r]
    · simp [hp, hz]
theorem quo_loc : ∀ (m : Nat) (x y : List UInt8), x.length ≤ m → ∀ t n, quo x = some (t, n) → x.take n = y.take n → quo y = some (t, n)
  | 0, x, y, hm, t, n, h, _ => by
    have : x = [] := List.eq_nil_of_length_eq_zero (by omega)
    subst this; simp [quo] at h
  | m + 1, [], y, _, t, n, h, _ => by simp [quo] at h
  | m + 1, c :: r, y, hm, t, n, h, he => by
    simp only [List.length_cons] at hm
    have hw := quo_wide _ _ (Nat.le_refl _) _ _ h
    obtain ⟨n, rfl⟩ : ∃ n', n = n' + 1 := ⟨n - 1, by omega⟩
    cases y with
    | nil => simp at he
    | cons d y =>
      simp only [List.take_succ_cons, List.cons.injEq] at he
      obtain ⟨rfl, he⟩ := he
      unfold quo at h ⊢
      split at h
      · cases h
      · rename_i h1
        rw [if_neg h1]
        split at h
        · rename_i h2
          rw [if_pos h2]; exact h
        · rename_i h2
          rw [if_neg h2]
          split at h
          · rename_i h3
            rw [if_pos h3]
            cases r with
            | nil => cases h
            | cons d r' =>
              simp only [List.length_cons] at hm
              simp only at h
              have fin : ∀ (b : UInt8), (quo r').map (fun x => (b :: x.1, x.2 + 2)) = some (t, n + 1) → ∃ y', y = d :: y' ∧ (quo y').map (fun x => (b :: x.1, x.2 + 2)) = some (t, n + 1) := by
                intro b hb
                cases hq : quo r' with
                | none => rw [hq] at hb; cases hb
                | some q =>
                  obtain ⟨t', n'⟩ := q
                  rw [hq] at hb
                  simp only [Option.map_some, Option.some.injEq, Prod.mk.injEq] at hb
                  obtain ⟨rfl, hn⟩ := hb
                  have hn' : n = n' + 1 := by omega
                  subst hn'
                  cases y with
                  | nil => simp at he
                  | cons e y' =>
                    simp only [List.take_succ_cons, List.cons.injEq] at he
                    obtain ⟨rfl, he⟩ := he
                    refine ⟨y', rfl, ?_⟩
                    rw [quo_loc m r' y' (by omega) t' n' hq he]; rfl
              split at h
              · rename_i h4
                obtain ⟨y', rfl, h5⟩ := fin d h
                simp only [if_pos h4]; exact h5
              · rename_i h4
                split at h
                · rename_i h6
                  obtain ⟨y', rfl, h5⟩ := fin 10 h
                  simp only [if_neg h4, if_pos h6]; exact h5
                · cases h
          · rename_i h3
            rw [if_neg h3]
            cases hq : quo r with
            | none => rw [hq] at h; cases h
            | some q =>
              obtain ⟨t', n'⟩ := q
              rw [hq] at h
              simp only [Option.map_some, Option.some.injEq, Prod.mk.injEq] at h
              obtain ⟨rfl, hn⟩ := h
              have hn' : n' = n := by omega
              subst hn'
              rw [quo_loc m r y (by omega) t' n' hq he]; rfl
theorem quoted_loc {x y : List UInt8} {t : List UInt8} {n : Nat} (h : Lode.quoted x = some (t, n)) (he : x.take n = y.take n) : Lode.quoted y = some (t, n) := by
  have hw := quoted_wide h
  unfold Lode.quoted at h ⊢
  cases hq : quo (x.drop 1) with
  | none => rw [hq] at h; cases h
  | some q =>
    obtain ⟨t', n'⟩ := q
    rw [hq] at h
    simp only at h
    split at h
    · rename_i h60
      cases h
      have hd : (x.drop 1).take n' = (y.drop 1).take n' := by
        have := congrArg (List.drop 1) he
        simpa [List.drop_take] using this
      rw [quo_loc _ _ _ (Nat.le_refl _) _ _ hq hd]
      simp only [h60, if_true]
    · cases h
theorem isPre_loc : ∀ (g x y : List UInt8), x.take g.length = y.take g.length → isPre g x = isPre g y
  | [], _, _, _ => rfl
  | a :: g, [], y, h => by
    cases y with
    | nil => rfl
    | cons d y => simp at h
  | a :: g, c :: x, y, h => by
    cases y with
    | nil => simp at h
    | cons d y =>
      simp only [List.length_cons, List.take_succ_cons, List.cons.injEq] at h
      obtain ⟨rfl, h⟩ := h
      simp only [isPre, isPre_loc g x y h]
theorem sign_two : ∀ g, g ∈ signList → g.length ≤ 2 := fun g hg => (sign_good g hg).2.1
/-- a token is known by its own bytes and the next one -/
theorem tok1_loc {x y : List UInt8} {k n : Nat} {t : List UInt8} (h : tok1 x = some (k, t, n)) (he : x.take (n + 1) = y.take (n + 1)) : tok1 y = some (k, t, n) := by
  have hw := tok1_wide h
  cases x with
  | nil => cases h
  | cons c r =>
    cases y with
    | nil => simp at he
    | cons d q =>
      have hcd : c = d := by simp only [List.take_succ_cons, List.cons.injEq] at he; exact he.1
      subst hcd
      have het : r.take n = q.take n := by simp only [List.take_succ_cons, List.cons.injEq] at he; exact he.2
      have hen := take_eq_le he (n := n) (by omega)
      simp only [tok1] at h ⊢
      split at h
      · rename_i hs
        rw [if_pos hs]
        split at h
        · rename_i hn
          simp only [Option.some.injEq, Prod.mk.injEq] at h
          obtain ⟨hk, ht, hn2⟩ := h
          rw [runLen_loc _ r q (by rw [Nat.add_comm _ 1, hn2]; exact het), if_pos hn, hn2, ← hen]
          rw [hn2] at hk ht
          rw [hk, ht]
        · cases h
      · rename_i hs
        rw [if_neg hs]
        split at h
        · rename_i hs2
          rw [if_pos hs2]
          split at h
          · rename_i hn
            simp only [Option.some.injEq, Prod.mk.injEq] at h
            obtain ⟨hk, ht, hn2⟩ := h
            rw [runLen_loc _ r q (by rw [Nat.add_comm _ 1, hn2]; exact het), if_pos hn, hn2, ← hen]
            rw [hn2] at ht
            rw [hk, ht]
          · cases h
        · rename_i hs2
          rw [if_neg hs2]
          split at h
          · rename_i hs3
            rw [if_pos hs3]
            split at h
            · rename_i hn
              simp only [Option.some.injEq, Prod.mk.injEq] at h
              obtain ⟨hk, ht, hn2⟩ := h
              rw [runLen_loc _ r q (by rw [Nat.add_comm _ 1, hn2]; exact het), hn2, ← hen]
              rw [hn2] at hn ht
              rw [if_pos hn, hk, ht]
            · cases h
          · rename_i hs3
            rw [if_neg hs3]
            split at h
            · rename_i h34
              rw [if_pos h34]
              cases hq : Lode.quoted (c :: r) with
              | none => rw [hq] at h; cases h
              | some z =>
                obtain ⟨t', n'⟩ := z
                rw [hq] at h
                simp only [Option.map_some, Option.some.injEq, Prod.mk.injEq] at h
                obtain ⟨rfl, rfl, rfl⟩ := h
                rw [quoted_loc hq hen]; rfl
            · rename_i h34
              rw [if_neg h34]
              have hp : ∀ g, g ∈ signList → isPre g (c :: r) = isPre g (c :: q) := fun g hg => isPre_loc g _ _ (take_eq_le he (by have := sign_two g hg; omega))
              have hf : signList.find? (fun g => isPre g (c :: r)) = signList.find? (fun g => isPre g (c :: q)) := by
                have aux : ∀ l : List (List UInt8), (∀ g, g ∈ l → isPre g (c :: r) = isPre g (c :: q)) → l.find? (fun g => isPre g (c :: r)) = l.find? (fun g => isPre g (c :: q)) := by
                  intro l
                  induction l with
                  | nil => intro _; rfl
                  | cons g l ih =>
                    intro hl
                    simp only [List.find?_cons, hl g (List.mem_cons_self ..)]
                    rw [ih (fun g' hg' => hl g' (List.mem_cons_of_mem _ hg'))]
                exact aux _ hp
              rw [← hf]; exact h
/-- what no token goes on with -/
def stopB (c : UInt8) : Prop := small c = false ∧ digit c = false ∧ c ≠ 61 ∧ c ≠ 62 ∧ c ≠ 43
def stopL (z : List UInt8) : Prop := ∀ c r, z = c :: r → stopB c
theorem stopL.run {z : List UInt8} (h : stopL z) : runLen (fun c => small c || digit c) z = 0 ∧ runLen digit z = 0 := by
  cases z with
  | nil => exact ⟨rfl, rfl⟩
  | cons c r => obtain ⟨h1, h2, _⟩ := h c r rfl; simp [runLen, h1, h2]
theorem sign_second : ∀ g, g ∈ signList → ∀ a b r, g = a :: b :: r → b = 61 ∨ b = 62 ∨ b = 43 := by
  intro g hg a b r hr
  simp only [signList, List.mem_cons, List.not_mem_nil, or_false] at hg
  rcases hg with rfl | rfl | rfl | rfl | rfl | rfl | rfl | rfl | rfl | rfl | rfl | rfl | rfl | rfl | rfl | rfl | rfl | rfl | rfl | rfl | rfl | rfl | rfl | rfl | rfl <;> simp at hr <;> simp [← hr.2.1]
theorem isPre_second {g : List UInt8} (hg : g ∈ signList) {c : UInt8} {z : List UInt8} (hz : stopL z) (h2 : g.length = 2) : isPre g (c :: z) = false := by
  cases g with
  | nil => cases h2
  | cons a g =>
    cases g with
    | nil => cases h2
    | cons b g =>
      have := sign_second _ hg a b g rfl
      cases z with
      | nil => simp [isPre]
      | cons d z =>
        obtain ⟨_, _, h3, h4, h5⟩ := hz d z rfl
        have hbd : b ≠ d := by rintro rfl; rcases this with h | h | h <;> contradiction
        simp [isPre, hbd]
/-- a token ended by something else -/
theorem tok1_stop {x z : List UInt8} {k n : Nat} {t : List UInt8} (h : tok1 x = some (k, t, n)) (hz : stopL z) : tok1 (x.take n ++ z) = some (k, t, n) := by
  have hw := tok1_wide h
  obtain ⟨hz1, hz2⟩ := hz.run
  cases x with
  | nil => cases h
  | cons c r =>
    obtain ⟨n, rfl⟩ : ∃ n', n = n' + 1 := ⟨n - 1, by omega⟩
    have hlen : ((c :: r).take (n + 1) ++ z).take (n + 1) = (c :: r).take (n + 1) := by
      rw [List.take_append_of_le_length (by rw [List.length_take]; omega), List.take_take, Nat.min_self]
    rw [List.take_succ_cons, List.cons_append] at hlen ⊢
    simp only [tok1] at h ⊢
    split at h
    · rename_i hs
      rw [if_pos hs]
      split at h
      · rename_i hn
        simp only [Option.some.injEq, Prod.mk.injEq] at h
        obtain ⟨hk, ht, hn2⟩ := h
        have hn3 : runLen (fun c => small c || digit c) r = n := by omega
        rw [hn3] at hn hk ht
        have := runLen_stop (fun c => small c || digit c) z hz1 r
        rw [hn3] at this
        rw [this, if_pos hn, Nat.add_comm 1 n, hlen]
        rw [Nat.add_comm 1 n] at hk ht
        rw [List.take_succ_cons] at hk ht
        rw [hk, ht]
      · cases h
    · rename_i hs
      rw [if_neg hs]
      split at h
      · rename_i hs2
        rw [if_pos hs2]
        split at h
        · rename_i hn
          simp only [Option.some.injEq, Prod.mk.injEq] at h
          obtain ⟨hk, ht, hn2⟩ := h
          have hn3 : runLen (fun c => small c || digit c) r = n := by omega
          rw [hn3] at hn ht
          have := runLen_stop (fun c => small c || digit c) z hz1 r
          rw [hn3] at this
          rw [this, if_pos hn, Nat.add_comm 1 n, hlen]
          rw [Nat.add_comm 1 n, List.take_succ_cons] at ht
          rw [hk, ht]
        · cases h
      · rename_i hs2
        rw [if_neg hs2]
        split at h
        · rename_i hs3
          rw [if_pos hs3]
          split at h
          · rename_i hn
            simp only [Option.some.injEq, Prod.mk.injEq] at h
            obtain ⟨hk, ht, hn2⟩ := h
            have hn3 : runLen digit r = n := by omega
            rw [hn3] at hn ht
            have := runLen_stop digit z hz2 r
            rw [hn3] at this
            rw [this, Nat.add_comm 1 n, hlen]
            rw [Nat.add_comm 1 n, List.take_succ_cons] at ht hn
            rw [if_pos hn, hk, ht]
          · cases h
        · rename_i hs3
          rw [if_neg hs3]
          split at h
          · rename_i h34
            rw [if_pos h34]
            cases hq : Lode.quoted (c :: r) with
            | none => rw [hq] at h; cases h
            | some z' =>
              obtain ⟨t', n'⟩ := z'
              rw [hq] at h
              simp only [Option.map_some, Option.some.injEq, Prod.mk.injEq] at h
              obtain ⟨rfl, rfl, rfl⟩ := h
              rw [quoted_loc hq (y := c :: (r.take n ++ z)) (by rw [hlen, List.take_succ_cons])]; rfl
          · rename_i h34
            rw [if_neg h34]
            cases hg : signList.find? (fun g => isPre g (c :: r)) with
            | none => rw [hg] at h; cases h
            | some g =>
              rw [hg] at h
              simp only [Option.map_some, Option.some.injEq, Prod.mk.injEq] at h
              obtain ⟨rfl, rfl, hgn⟩ := h
              have key : signList.find? (fun g => isPre g (c :: (r.take n ++ z))) = some g := by
                rw [List.find?_eq_some_iff_append] at hg ⊢
                obtain ⟨h1, us, vs, h2, h3⟩ := hg
                refine ⟨?_, us, vs, h2, fun a ha => ?_⟩
                · have : isPre g (c :: r) = isPre g (c :: (r.take n ++ z)) := isPre_loc g _ _ (by rw [hgn, hlen, List.take_succ_cons])
                  rw [← this]; exact h1
                · have ha2 := h3 a ha
                  have ham : a ∈ signList := by rw [h2]; exact List.mem_append_left _ ha
                  have hal := sign_two a ham
                  by_cases hle : a.length ≤ n + 1
                  · have : isPre a (c :: r) = isPre a (c :: (r.take n ++ z)) := isPre_loc a _ _ (by
                      have h5 := congrArg (List.take a.length) hlen
                      rw [List.take_take, Nat.min_eq_left hle] at h5
                      rw [h5, show c :: r.take n = (c :: r).take (n + 1) from rfl, List.take_take, Nat.min_eq_left hle])
                    rw [← this]; exact ha2
                  · have hn0 : n = 0 := by omega
                    subst hn0
                    have := isPre_second ham (c := c) hz (by omega)
                    simp only [List.take_zero, List.nil_append]
                    rw [this]; rfl
              rw [key]
              simp only [Option.map_some, hgn]
end Go.Proofs.YthknlifmkjdoeaaGreatDoor

/-
  READING AS A RELATION (plain laws): gaps and tokens one behind another; what is read is spelt as it stands; a shortest text is read as the same tokens.
-/
namespace Lode
/-- whether bytes are a gap, and whether a comment is open behind them -/
def gapSt : Bool → List UInt8 → Option Bool
  | cm, [] => some cm
  | cm, c :: r => if c = 10 then gapSt false r else if c = 35 then gapSt true r else if c = 32 ∨ cm = true then gapSt cm r else none
end Lode
namespace Go.Proofs.YthknlifmkjdoeaaGreatDoor
open Go.RowKit Lode
theorem gapSt_app : ∀ (cm : Bool) (x y : List UInt8), gapSt cm (x ++ y) = (gapSt cm x).bind fun c => gapSt c y
  | _, [], _ => rfl
  | cm, c :: r, y => by
    simp only [List.cons_append, gapSt]
    split
    · exact gapSt_app _ r y
    · split
      · exact gapSt_app _ r y
      · split
        · exact gapSt_app _ r y
        · rfl
theorem gapLen_app : ∀ (cm cm' : Bool) (x y : List UInt8), gapSt cm x = some cm' → gapLen cm (x ++ y) = x.length + gapLen cm' y
  | cm, cm', [], y, h => by cases h; simp
  | cm, cm', c :: r, y, h => by
    simp only [gapSt] at h
    simp only [List.cons_append, gapLen, List.length_cons]
    split at h
    · rename_i h1
      rw [if_pos h1, gapLen_app _ _ r y h]; omega
    · rename_i h1
      rw [if_neg h1]
      split at h
      · rename_i h2
        rw [if_pos h2, gapLen_app _ _ r y h]; omega
      · rename_i h2
        rw [if_neg h2]
        split at h
        · rename_i h3
          rw [if_pos h3, gapLen_app _ _ r y h]; omega
        · cases h
theorem gapSt_take : ∀ (cm : Bool) (r : List UInt8), ∃ c, gapSt cm (r.take (gapLen cm r)) = some c ∧ (r.drop (gapLen cm r) = [] ∨ c = false)
  | cm, [] => ⟨cm, by simp [gapLen, gapSt], .inl rfl⟩
  | cm, c :: r => by
    simp only [gapLen]
    split
    · rename_i h1
      simp only [List.take_succ_cons, List.drop_succ_cons, gapSt, if_pos h1]
      exact gapSt_take false r
    · rename_i h1
      split
      · rename_i h2
        simp only [List.take_succ_cons, List.drop_succ_cons, gapSt, if_neg h1, if_pos h2]
        exact gapSt_take true r
      · rename_i h2
        split
        · rename_i h3
          simp only [List.take_succ_cons, List.drop_succ_cons, gapSt, if_neg h1, if_neg h2, if_pos h3]
          exact gapSt_take cm r
        · rename_i h3
          refine ⟨cm, rfl, .inr ?_⟩
          cases cm with
          | false => rfl
          | true => exact absurd (Or.inr rfl) h3
theorem tok1_nogap {r : List UInt8} {k n : Nat} {t : List UInt8} (h : tok1 r = some (k, t, n)) : gapLen false r = 0 := by
  cases r with
  | nil => rfl
  | cons c r =>
    by_cases h1 : c = 10
    · subst h1; exfalso; revert h
      have e : signList.find? (fun g => isPre g (10 :: r)) = none := by simp [signList, isPre]
      simp [tok1, small, big, digit, e]
    by_cases h2 : c = 35
    · subst h2; exfalso; revert h
      have e : signList.find? (fun g => isPre g (35 :: r)) = none := by simp [signList, isPre]
      simp [tok1, small, big, digit, e]
    by_cases h3 : c = 32
    · subst h3; exfalso; revert h
      have e : signList.find? (fun g => isPre g (32 :: r)) = none := by simp [signList, isPre]
      simp [tok1, small, big, digit, e]
    exact gap_none h1 h2 h3
/-- gaps and tokens, one behind another, from a place on -/
inductive Rdg : Nat → List UInt8 → List Tok → Prop
  | done {a : Nat} {G : List UInt8} {c : Bool} : gapSt false G = some c → Rdg a G []
  | tok {a : Nat} {G T R : List UInt8} {k : Nat} {t : List UInt8} {l : List Tok} : gapSt false G = some false → tok1 (T ++ R) = some (k, t, T.length) → Rdg (a + G.length + T.length) R l → Rdg a (G ++ (T ++ R)) (⟨k, t, (a + G.length : Nat)⟩ :: l)
theorem Rdg.shift {a : Nat} {r : List UInt8} {l : List Tok} (h : Rdg a r l) : ∀ b, ∃ l', Rdg b r l' ∧ l'.map (fun t => (t.kind, t.text)) = l.map (fun t => (t.kind, t.text)) := by
  induction h with
  | done h => exact fun b => ⟨[], .done h, rfl⟩
  | @tok a G T R k t l h1 h2 h3 ih =>
    intro b
    obtain ⟨l', h4, h5⟩ := ih (b + G.length + T.length)
    exact ⟨_, .tok h1 h2 h4, by simp [h5]⟩
theorem scan_rd : ∀ (f n a : Nat) (r : List UInt8) (l : List Tok) (p : Nat), r.length < f → n ≤ 1200 → scan f n a r = (l, p, 0) → Rdg a r l ∧ n + l.length ≤ 1200 ∧ p = 0
  | 0, _, _, _, _, _, hf, _, _ => absurd hf (Nat.not_lt_zero _)
  | f + 1, n, a, r, l, p, hf, hn, h => by
    obtain ⟨c, hg, hc⟩ := gapSt_take false r
    have hle := gapLen_le false r
    have hsplit : r.take (gapLen false r) ++ r.drop (gapLen false r) = r := List.take_append_drop _ _
    have hlen : (r.take (gapLen false r)).length = gapLen false r := by rw [List.length_take]; omega
    simp only [scan] at h
    generalize gapLen false r = g at *
    cases hd : r.drop g with
    | nil =>
      rw [hd] at h hsplit
      cases h
      rw [List.append_nil] at hsplit
      rw [hsplit] at hg
      exact ⟨.done hg, by simpa using hn, rfl⟩
    | cons d q =>
      have hcf : c = false := by
        rcases hc with h | h
        · rw [hd] at h; cases h
        · exact h
      subst hcf
      rw [hd] at h
      simp only at h
      rw [hd] at hsplit
      have hqlen := congrArg List.length hsplit
      rw [List.length_append, hlen] at hqlen
      cases ht : tok1 (d :: q) with
      | none => rw [ht] at h; cases h
      | some x =>
        obtain ⟨k, t, m⟩ := x
        rw [ht] at h
        simp only at h
        have hw := tok1_wide ht
        split at h
        · cases h
        · rename_i hn2
          generalize hx : scan f (n + 1) (a + g + m) ((d :: q).drop m) = x at h
          obtain ⟨l', p', e'⟩ := x
          simp only at h
          split at h
          · rename_i he
            subst he
            obtain ⟨h5, h6, h7⟩ := scan_rd f (n + 1) _ _ l' p' (by rw [List.length_drop]; omega) (by omega) hx
            cases h
            have hm : ((d :: q).take m).length = m := by rw [List.length_take]; omega
            have hTR : (d :: q).take m ++ (d :: q).drop m = d :: q := List.take_append_drop _ _
            refine ⟨?_, by simp; omega, rfl⟩
            have := Rdg.tok (a := a) (G := r.take g) (T := (d :: q).take m) (R := (d :: q).drop m) (k := k) (t := t) (l := l') hg (by rw [hTR, hm]; exact ht) (by rw [hlen, hm]; exact h5)
            rw [hTR, hsplit, hlen] at this
            exact this
          · cases h
            rename_i he
            exact absurd rfl he
theorem Rdg.scan {a : Nat} {r : List UInt8} {l : List Tok} (h : Rdg a r l) : ∀ (f n : Nat), r.length < f → n + l.length ≤ 1200 → Lode.scan f n a r = (l, 0, 0) := by
  induction h with
  | @done a G c h =>
    intro f n hf hn
    obtain ⟨f, rfl⟩ : ∃ f', f = f' + 1 := ⟨f - 1, by omega⟩
    have := gapLen_app false c G [] h
    simp only [List.append_nil, gapLen, Nat.add_zero] at this
    simp only [Lode.scan, this, List.drop_length]
  | @tok a G T R k t l h1 h2 h3 ih =>
    intro f n hf hn
    obtain ⟨f, rfl⟩ : ∃ f', f = f' + 1 := ⟨f - 1, by omega⟩
    have hg := gapLen_app false false G (T ++ R) h1
    rw [tok1_nogap h2, Nat.add_zero] at hg
    simp only [List.length_append, List.length_cons] at hf hn
    have hw := tok1_wide h2
    have hi := ih f (n + 1) (by omega) (by omega)
    simp only [Lode.scan, hg, List.drop_left]
    cases hT : T ++ R with
    | nil => rw [hT] at h2; cases h2
    | cons d q =>
      rw [hT] at h2
      simp only [h2]
      rw [if_neg (by omega), ← hT, List.drop_left, hi]
      rfl
theorem read_rd {s : List UInt8} (h : (Lode.read s).2.2 = 0) : Rdg 0 s (Lode.read s).1 ∧ (Lode.read s).1.length ≤ 1200 ∧ (check s).2 = 0 ∧ (Lode.read s).2.1 = 0 := by
  have hc := read_check h
  have e : Lode.read s = Lode.scan (s.length + 1) 0 0 s := by simp [Lode.read, hc]
  rw [e] at h ⊢
  generalize hx : Lode.scan (s.length + 1) 0 0 s = x at *
  obtain ⟨l, p, e'⟩ := x
  simp only at h
  subst h
  obtain ⟨h1, h2, h3⟩ := scan_rd _ _ _ _ _ _ (by omega) (by omega) hx
  exact ⟨h1, by simpa using h2, hc, h3⟩
theorem rd_read {s : List UInt8} {l : List Tok} (hc : (check s).2 = 0) (h : Rdg 0 s l) (hl : l.length ≤ 1200) : Lode.read s = (l, 0, 0) := by
  have e : Lode.read s = Lode.scan (s.length + 1) 0 0 s := by simp [Lode.read, hc]
  rw [e]
  exact h.scan _ _ (by omega) (by omega)
theorem chk_ok {s : List UInt8} : (check s).2 = 0 ↔ s.length ≤ 3000 ∧ s.all isB = true := by
  unfold check
  by_cases h : 3000 < s.length
  · rw [if_pos h]; simp; omega
  · rw [if_neg h]
    have hf := findIx_all s
    cases hx : findIx (fun c => !isB c) s with
    | none =>
      rw [hx] at hf
      have : s.all isB = true := by rw [← hf]; rfl
      simp [this]; omega
    | some i =>
      rw [hx] at hf
      have : s.all isB = false := by rw [← hf]; rfl
      simp [this]
/-! ### spelling -/
theorem quo_spell : ∀ (m : Nat) (x : List UInt8), x.length ≤ m → ∀ t n, quo x = some (t, n) → x.take n = t.flatMap quoteByte ++ [34] ∧ t.all isB = true
  | 0, x, hm, t, n, h => by
    have : x = [] := List.eq_nil_of_length_eq_zero (by omega)
    subst this; simp [quo] at h
  | m + 1, [], _, t, n, h => by simp [quo] at h
  | m + 1, c :: r, hm, t, n, h => by
    simp only [List.length_cons] at hm
    unfold quo at h
    split at h
    · cases h
    · rename_i h1
      split at h
      · rename_i h2
        cases h; subst h2; exact ⟨rfl, rfl⟩
      · rename_i h2
        split at h
        · rename_i h3
          subst h3
          cases r with
          | nil => cases h
          | cons d r' =>
            simp only [List.length_cons] at hm
            simp only at h
            split at h
            · rename_i h4
              cases hq : quo r' with
              | none => rw [hq] at h; cases h
              | some q =>
                obtain ⟨t', n'⟩ := q
                rw [hq] at h
                cases h
                obtain ⟨i1, i2⟩ := quo_spell m r' (by omega) _ _ hq
                have hd10 : d ≠ 10 := by rcases h4 with rfl | rfl <;> decide
                have hB : isB d = true := by rcases h4 with rfl | rfl <;> decide
                simp only [List.take_succ_cons, List.flatMap_cons, quoteByte, if_neg hd10, if_pos h4, List.all_cons, hB, i2, i1, Bool.and_self, and_true]
                rfl
            · rename_i h4
              split at h
              · rename_i h5
                cases hq : quo r' with
                | none => rw [hq] at h; cases h
                | some q =>
                  obtain ⟨t', n'⟩ := q
                  rw [hq] at h
                  cases h
                  obtain ⟨i1, i2⟩ := quo_spell m r' (by omega) _ _ hq
                  subst h5
                  simp only [List.take_succ_cons, List.flatMap_cons, List.all_cons, i2, i1, Bool.and_true]
                  exact ⟨rfl, by decide⟩
              · cases h
        · rename_i h3
          cases hq : quo r with
          | none => rw [hq] at h; cases h
          | some q =>
            obtain ⟨t', n'⟩ := q
            rw [hq] at h
            cases h
            obtain ⟨i1, i2⟩ := quo_spell m r (by omega) _ _ hq
            have hc10 : c ≠ 10 := by rintro rfl; exact h1 (.inl (by decide))
            have hB : isB c = true := isB_byte c (by omega) (by omega)
            simp only [List.take_succ_cons, List.flatMap_cons, quoteByte, if_neg hc10, if_neg (not_or.2 ⟨h2, h3⟩), List.all_cons, hB, i2, i1, Bool.and_self, and_true]
            rfl
theorem quo_of_quote : ∀ (t R : List UInt8), t.all isB = true → quo (t.flatMap quoteByte ++ (34 :: R)) = some (t, (t.flatMap quoteByte).length + 1)
  | [], R, _ => by rw [List.flatMap_nil, List.nil_append, quo.eq_def]; rfl
  | c :: t, R, h => by
    simp only [List.all_cons, Bool.and_eq_true] at h
    have ih := quo_of_quote t R h.2
    have hb := (isB_iff c).1 h.1
    simp only [List.flatMap_cons]
    by_cases h10 : c = 10
    · subst h10
      simp only [quoteByte, if_true, List.cons_append, List.nil_append]
      rw [quo]
      simp [ih]
    · by_cases h34 : c = 34 ∨ c = 92
      · simp only [quoteByte, if_neg h10, if_pos h34, List.cons_append, List.nil_append]
        rw [quo]
        simp only [ih, if_pos h34]
        simp
      · simp only [quoteByte, if_neg h10, if_neg h34, List.cons_append, List.nil_append]
        have hc10 : ¬ (c.toNat : Int) = 10 := fun e => h10 ((c10 c).mp e)
        have hx : 32 ≤ (c.toNat : Int) ∧ (c.toNat : Int) ≤ 126 := by omega
        rw [quo.eq_def]
        simp only [ih]
        rw [if_neg (by omega), if_neg (fun e => h34 (.inl e)), if_neg (fun e => h34 (.inr e))]
        simp
theorem quoted_spell {x : List UInt8} {t : List UInt8} {n : Nat} (h : Lode.quoted (34 :: x) = some (t, n)) : quote t = ((34 :: x).take n, 0) ∧ t.length ≤ 60 := by
  unfold Lode.quoted at h
  simp only [List.drop_succ_cons, List.drop_zero] at h
  cases hq : quo x with
  | none => rw [hq] at h; cases h
  | some q =>
    obtain ⟨t', n'⟩ := q
    rw [hq] at h
    simp only at h
    split at h
    · rename_i h60
      cases h
      obtain ⟨h1, h2⟩ := quo_spell _ _ (Nat.le_refl _) _ _ hq
      refine ⟨?_, h60⟩
      rw [quote, if_neg (by omega), if_pos h2, List.take_succ_cons, h1]
      simp
    · cases h
theorem tok1_text {r : List UInt8} {k n : Nat} {t : List UInt8} (h : tok1 r = some (k, t, n)) (hk : k = 4) : ∃ x, r = 34 :: x ∧ Lode.quoted (34 :: x) = some (t, n) := by
  subst hk
  cases r with
  | nil => cases h
  | cons c r =>
    simp only [tok1] at h
    split at h
    · split at h
      · simp only [Option.some.injEq, Prod.mk.injEq] at h
        obtain ⟨h, _⟩ := h
        split at h <;> cases h
      · cases h
    · split at h
      · split at h
        · cases h
        · cases h
      · split at h
        · split at h
          · cases h
          · cases h
        · split at h
          · rename_i h34
            subst h34
            refine ⟨r, rfl, ?_⟩
            cases hq : Lode.quoted (34 :: r) with
            | none => rw [hq] at h; cases h
            | some z =>
              rw [hq] at h
              simp only [Option.map_some, Option.some.injEq, Prod.mk.injEq] at h
              obtain ⟨_, h1, h2⟩ := h
              rw [← h1, ← h2]
          · cases hg : signList.find? (fun g => isPre g (c :: r)) with
            | none => rw [hg] at h; cases h
            | some g => rw [hg] at h; cases h
/-- what is read is spelt as it stands -/
theorem tok1_spell {r : List UInt8} {k n : Nat} {t : List UInt8} (h : tok1 r = some (k, t, n)) : rspell k t = (r.take n, 0) ∧ (k = 4 → t.length ≤ 60) := by
  by_cases hk : k = 4
  · obtain ⟨x, rfl, h1⟩ := tok1_text h hk
    obtain ⟨h2, h3⟩ := quoted_spell h1
    subst hk
    refine ⟨?_, fun _ => h3⟩
    rw [rspell, if_pos rfl, h2]; rfl
  · refine ⟨?_, fun e => absurd e hk⟩
    have hs := tok1_stop h (z := []) (fun c r h => by cases h)
    rw [List.append_nil] at hs
    have hw := tok1_wide h
    cases r with
    | nil => cases h
    | cons c r =>
      obtain ⟨h1, h2, h3, h4⟩ := tok1_plain h hk
      subst h1
      have hlen : ((c :: r).take n).length = n := by rw [List.length_take]; omega
      rw [rspell, if_neg hk, if_neg ?_, hs]
      · show (if n = ((c :: r).take n).length ∧ k = k then ((c :: r).take n, 0) else ([], 4)) = _
        rw [if_pos ⟨hlen.symm, rfl⟩]
      · rintro (h | h | h)
        · rw [h] at hlen; simp at hlen; omega
        · omega
        · obtain ⟨n', rfl⟩ : ∃ n', n = n' + 1 := ⟨n - 1, by omega⟩
          rw [List.take_succ_cons, List.head?_cons, Option.some.injEq] at h
          exact h4.2.2.2 h
/-- a spelling is read as its token, if it is ended -/
theorem spell_tok1 {k : Nat} {t T : List UInt8} (h : rspell k t = (T, 0)) {R : List UInt8} (hR : stopL R ∨ k = 4) : tok1 (T ++ R) = some (k, t, T.length) := by
  unfold rspell at h
  by_cases hk : k = 4
  · subst hk
    rw [if_pos rfl] at h
    split at h
    · rename_i hq
      cases h
      unfold quote at hq
      split at hq
      · cases hq
      · split at hq
        · rename_i h60 hall
          rw [quote, if_neg h60, if_pos hall]
          have e : ([34] ++ t.flatMap quoteByte ++ [34] ++ R) = 34 :: (t.flatMap quoteByte ++ (34 :: R)) := by simp
          show tok1 ([34] ++ t.flatMap quoteByte ++ [34] ++ R) = _
          rw [e]
          have hqd : Lode.quoted (34 :: (t.flatMap quoteByte ++ (34 :: R))) = some (t, (t.flatMap quoteByte).length + 2) := by
            unfold Lode.quoted
            rw [List.drop_succ_cons, List.drop_zero, quo_of_quote t R hall]
            simp only
            rw [if_pos (by omega)]
          simp only [tok1]
          rw [if_neg (by decide), if_neg (by decide), if_neg (by decide), if_pos trivial, hqd]
          simp
        · cases hq
    · cases h
  · rw [if_neg hk] at h
    have hR2 : stopL R := hR.resolve_right hk
    clear hR
    split at h
    · cases h
    · cases ht : tok1 t with
      | none => rw [ht] at h; cases h
      | some x =>
        obtain ⟨k', x, n⟩ := x
        rw [ht] at h
        simp only at h
        split at h
        · rename_i hn
          obtain ⟨rfl, rfl⟩ := hn
          cases h
          have hx : x = t := by
            cases t with
            | nil => cases ht
            | cons c r => rw [(tok1_plain ht hk).1, List.take_length]
          subst hx
          have := tok1_stop ht hR2
          rw [List.take_length] at this
          exact this
        · cases h
theorem spell_pos {k : Nat} {t T : List UInt8} (h : rspell k t = (T, 0)) : T ≠ [] := by
  have := spell_tok1 h (R := []) (.inl (fun c r h => by cases h))
  have hw := tok1_wide this
  rintro rfl
  simp at hw
theorem spell_isB {k : Nat} {t T : List UInt8} (h : rspell k t = (T, 0)) : T.all isB = true := by
  unfold rspell at h
  by_cases hk : k = 4
  · rw [if_pos hk] at h
    split at h
    · rename_i hq
      cases h
      unfold quote at hq ⊢
      split at hq
      · cases hq
      · split at hq
        · rename_i h60 hall
          rw [if_neg h60, if_pos hall]
          simp only [List.all_append, Bool.and_eq_true]
          refine ⟨⟨by decide, ?_⟩, by decide⟩
          rw [List.all_flatMap, List.all_eq_true]
          intro c hc
          have hB := (List.all_eq_true.1 hall) c hc
          unfold quoteByte
          split
          · decide
          · split
            · simp [hB]; decide
            · simp [hB]
        · cases hq
    · cases h
  · rw [if_neg hk] at h
    split at h
    · cases h
    · cases ht : tok1 t with
      | none => rw [ht] at h; cases h
      | some x =>
        obtain ⟨k', x, n⟩ := x
        rw [ht] at h
        simp only at h
        split at h
        · rename_i hn
          obtain ⟨rfl, rfl⟩ := hn
          cases h
          cases t with
          | nil => cases ht
          | cons c r => have := (tok1_plain ht hk).2.1; rwa [List.take_length] at this
        · cases h
end Go.Proofs.YthknlifmkjdoeaaGreatDoor

/-
  THE SHORTEST TEXT OF TOKENS (plain laws): it is read as them, it is no longer than a text with them, and no blank of it is too many; a gap within a text changes no token.
-/
namespace Lode
def kt (t : Tok) : Nat × List UInt8 := (t.kind, t.text)
/-- a token's spelling -/
def spl (x : Nat × List UInt8) : List UInt8 := (lspell x.1 x.2).1
def apartK (x y : Nat × List UInt8) : Bool := lapart x.1 x.2 (spl x) y.1 y.2 (spl y)
/-- what follows a token in the shortest text -/
def tailOf (x : Nat × List UInt8) : List (Nat × List UInt8) → List UInt8
  | [] => []
  | y :: l => (if apartK x y then [32] else []) ++ (spl y ++ tailOf y l)
def textOf : List (Nat × List UInt8) → List UInt8
  | [] => []
  | x :: l => spl x ++ tailOf x l
/-- a token that is spelt -/
def spelt (x : Nat × List UInt8) : Prop := (lspell x.1 x.2).2 = 0
end Lode
namespace Go.Proofs.YthknlifmkjdoeaaGreatDoor
open Go.RowKit Lode
theorem _root_.Lode.spelt.eq {x : Nat × List UInt8} (h : spelt x) : rspell x.1 x.2 = (spl x, 0) := by
  unfold spelt at h; unfold spl; rw [lspell_eq] at h ⊢; exact Prod.ext rfl h
theorem _root_.Lode.spelt.of {x : Nat × List UInt8} {T : List UInt8} (h : rspell x.1 x.2 = (T, 0)) : spelt x ∧ spl x = T := by
  unfold spelt spl; rw [lspell_eq, h]; exact ⟨rfl, rfl⟩
theorem Rdg.gap {a : Nat} {Z r : List UInt8} {l : List Tok} (hz : gapSt false Z = some false) (h : Rdg (a + Z.length) r l) : Rdg a (Z ++ r) l := by
  generalize hb : a + Z.length = b at h
  cases h with
  | @done _ _ c hg => exact .done (c := c) (by rw [gapSt_app, hz]; exact hg)
  | @tok _ G T R k t l h1 h2 h3 =>
    subst hb
    have := Rdg.tok (a := a) (G := Z ++ G) (T := T) (R := R) (by rw [gapSt_app, hz]; exact h1) h2 (by rw [List.length_append, ← Nat.add_assoc]; exact h3)
    rw [List.append_assoc, List.length_append, ← Nat.add_assoc] at this
    exact this
/-- read, wherever it stands -/
def RdK (r : List UInt8) (ks : List (Nat × List UInt8)) : Prop := ∃ l, Rdg 0 r l ∧ l.map kt = ks
theorem Rdg.k {a : Nat} {r : List UInt8} {l : List Tok} (h : Rdg a r l) : RdK r (l.map kt) := by
  obtain ⟨l', h1, h2⟩ := h.shift 0
  exact ⟨l', h1, h2⟩
theorem RdK.done {G : List UInt8} {c : Bool} (h : gapSt false G = some c) : RdK G [] := ⟨[], .done h, rfl⟩
theorem RdK.tok {G T R : List UInt8} {k : Nat} {t : List UInt8} {ks : List (Nat × List UInt8)} (h1 : gapSt false G = some false) (h2 : tok1 (T ++ R) = some (k, t, T.length)) (h3 : RdK R ks) : RdK (G ++ (T ++ R)) ((k, t) :: ks) := by
  obtain ⟨l, h4, rfl⟩ := h3
  obtain ⟨l', h5, h6⟩ := h4.shift (0 + G.length + T.length)
  exact ⟨_, .tok h1 h2 h5, by simp only [List.map_cons, List.cons.injEq]; exact ⟨rfl, h6⟩⟩
theorem RdK.gap {Z r : List UInt8} {ks : List (Nat × List UInt8)} (hz : gapSt false Z = some false) (h : RdK r ks) : RdK (Z ++ r) ks := by
  obtain ⟨l, h4, rfl⟩ := h
  obtain ⟨l', h5, h6⟩ := h4.shift (0 + Z.length)
  exact ⟨l', h5.gap hz, h6⟩
theorem RdK.inv {r : List UInt8} {ks : List (Nat × List UInt8)} (h : RdK r ks) : (∃ c, ks = [] ∧ gapSt false r = some c) ∨ ∃ G T R k t ks', r = G ++ (T ++ R) ∧ ks = (k, t) :: ks' ∧ gapSt false G = some false ∧ tok1 (T ++ R) = some (k, t, T.length) ∧ RdK R ks' := by
  obtain ⟨l, h, rfl⟩ := h
  cases h with
  | @done _ _ c hg => exact .inl ⟨c, rfl, hg⟩
  | @tok _ G T R k t l h1 h2 h3 => exact .inr ⟨G, T, R, k, t, _, rfl, rfl, h1, h2, h3.k⟩
theorem tok1_T {T R : List UInt8} {k : Nat} {t : List UInt8} (h : tok1 (T ++ R) = some (k, t, T.length)) : spelt (k, t) ∧ spl (k, t) = T := by
  have := (tok1_spell h).1
  rw [List.take_left] at this
  exact spelt.of this
theorem RdK.allSpelt {r : List UInt8} {ks : List (Nat × List UInt8)} (h : RdK r ks) : ∀ x ∈ ks, spelt x := by
  induction ks generalizing r with
  | nil => intro x hx; cases hx
  | cons y ks ih =>
    rcases h.inv with ⟨c, h1, _⟩ | ⟨G, T, R, k, t, ks', rfl, h1, h2, h3, h4⟩
    · cases h1
    · cases h1
      intro x hx
      rcases List.mem_cons.1 hx with rfl | hx
      · exact (tok1_T h3).1
      · exact ih h4 x hx
/-! ### a gap put into a text -/
theorem gapSt_nl (c : Bool) (z : List UInt8) : gapSt c (10 :: z) = gapSt false (10 :: z) := by simp [gapSt]
theorem stop10 (z : List UInt8) : stopL (10 :: z) := fun c r h => by cases h; exact ⟨by decide, by decide, by decide, by decide, by decide⟩
theorem stop32 (z : List UInt8) : stopL (32 :: z) := fun c r h => by cases h; exact ⟨by decide, by decide, by decide, by decide, by decide⟩
theorem stop34 (z : List UInt8) : stopL (34 :: z) := fun c r h => by cases h; exact ⟨by decide, by decide, by decide, by decide, by decide⟩
theorem stop0 : stopL [] := fun c r h => by cases h
theorem Rdg.put {a : Nat} {r : List UInt8} {l : List Tok} (h : Rdg a r l) (z : List UInt8) (hz : gapSt false (10 :: z) = some false) : ∀ i, i ≤ l.length → ∃ p, p ≤ r.length ∧ (∀ hi : i < l.length, l[i].at_ = (a + p : Nat)) ∧ (i = l.length → p = r.length) ∧ RdK (r.take p ++ ((10 :: z) ++ r.drop p)) (l.map kt) := by
  induction h with
  | @done a G c hg =>
    intro i hi
    refine ⟨G.length, Nat.le_refl _, fun hi => absurd hi (Nat.not_lt_zero _), fun _ => rfl, ?_⟩
    rw [List.take_length, List.drop_length, List.append_nil]
    exact .done (c := false) (by rw [gapSt_app, hg]; exact (gapSt_nl c z).trans hz)
  | @tok a G T R k t l h1 h2 h3 ih =>
    intro i hi
    cases i with
    | zero =>
      refine ⟨G.length, by simp, fun _ => rfl, fun h => by simp at h, ?_⟩
      rw [List.take_left, List.drop_left, ← List.append_assoc]
      exact .tok (by rw [gapSt_app, h1]; exact hz) h2 h3.k
    | succ j =>
      obtain ⟨p, hp, hat, hend, hk⟩ := ih j (by simpa using hi)
      refine ⟨G.length + (T.length + p), by simp; omega, fun hi => ?_, fun e => ?_, ?_⟩
      · rw [List.getElem_cons_succ, hat (by simpa using hi)]; congr 1; omega
      · rw [hend (by simpa using e)]; simp
      · have e1 : (G ++ (T ++ R)).take (G.length + (T.length + p)) = G ++ (T ++ R.take p) := by
          rw [List.take_length_add_append, List.take_length_add_append]
        have e2 : (G ++ (T ++ R)).drop (G.length + (T.length + p)) = R.drop p := by
          rw [List.drop_length_add_append, List.drop_length_add_append]
        rw [e1, e2, List.append_assoc, List.append_assoc]
        refine .tok h1 ?_ hk
        cases p with
        | zero =>
          have := tok1_stop h2 (stop10 (z ++ R.drop 0))
          rw [List.take_left] at this
          simpa using this
        | succ p =>
          refine tok1_loc h2 ?_
          rw [List.take_length_add_append, List.take_length_add_append, List.take_append_of_le_length (by rw [List.length_take]; omega), List.take_take, Nat.min_eq_left (by omega)]
/-! ### the shortest text -/
theorem spell_len {k : Nat} {t T : List UInt8} (h : rspell k t = (T, 0)) : T.length ≤ 122 := by
  unfold rspell at h
  by_cases hk : k = 4
  · rw [if_pos hk] at h
    split at h
    · rename_i hq
      cases h
      unfold quote at hq ⊢
      split at hq
      · cases hq
      · split at hq
        · rename_i h60 hall
          rw [if_neg h60, if_pos hall]
          have aux : ∀ l : List UInt8, (l.flatMap quoteByte).length ≤ 2 * l.length := by
            intro l
            induction l with
            | nil => simp
            | cons c l ih => have := quoteByte_le c; simp only [List.flatMap_cons, List.length_append, List.length_cons]; omega
          have := aux t
          simp only [List.length_append, List.length_cons, List.length_nil]; omega
        · cases hq
    · cases h
  · rw [if_neg hk] at h
    split at h
    · cases h
    · rename_i h20
      split at h
      · split at h
        · cases h; have : ¬ 20 < t.length := fun e => h20 (.inr (.inl e)); omega
        · cases h
      · cases h
theorem app_inj_len {A B C D : List UInt8} (h : A ++ B = C ++ D) (hl : A.length = C.length) : A = C ∧ B = D := List.append_inj h hl
/-- a token at the head of a text, its spelling ahead -/
theorem RdK.peel {x : Nat × List UInt8} (hx : spelt x) {V : List UInt8} {ks : List (Nat × List UInt8)} (h : RdK (spl x ++ V) (x :: ks)) : tok1 (spl x ++ V) = some (x.1, x.2, (spl x).length) ∧ RdK V ks := by
  obtain ⟨k, t⟩ := x
  have hs := hx.eq
  have h0 := spell_tok1 hs (R := []) (.inl stop0)
  rw [List.append_nil] at h0
  have hg0 := tok1_nogap h0
  have hpos := spell_pos hs
  rcases h.inv with ⟨c, h1, _⟩ | ⟨G, T, R, k', t', ks', hr, h1, h2, h3, h4⟩
  · cases h1
  · cases h1
    have hT := (tok1_T h3).2
    have hGL := gapLen_app false false G (T ++ R) h2
    rw [← hr, tok1_nogap h3, Nat.add_zero] at hGL
    have hz : gapLen false (spl (k, t) ++ V) = 0 := by
      cases hsp : spl (k, t) with
      | nil => exact absurd hsp hpos
      | cons c q =>
        rw [hsp] at hg0
        simp only [List.cons_append, gapLen] at hg0 ⊢
        split
        · rename_i h; rw [if_pos h] at hg0; omega
        · rename_i h
          rw [if_neg h] at hg0
          split
          · rename_i h'; rw [if_pos h'] at hg0; omega
          · rename_i h'
            rw [if_neg h'] at hg0
            split
            · rename_i h''; rw [if_pos h''] at hg0; omega
            · rfl
    have hG : G = [] := List.eq_nil_of_length_eq_zero (by omega)
    subst hG
    rw [List.nil_append] at hr
    rw [← hT] at hr h3
    have := List.append_cancel_left hr
    subst this
    exact ⟨h3, h4⟩
theorem RdK.ungap {J V : List UInt8} (hJ : gapSt false J = some false) {ks : List (Nat × List UInt8)} (h : RdK (J ++ V) ks) : RdK V ks := by
  rcases h.inv with ⟨c, rfl, h1⟩ | ⟨G, T, R, k', t', ks', hr, rfl, h2, h3, h4⟩
  · rw [gapSt_app, hJ] at h1
    exact .done h1
  · have hGL := gapLen_app false false G (T ++ R) h2
    rw [← hr, tok1_nogap h3, Nat.add_zero, gapLen_app false false J V hJ] at hGL
    obtain ⟨G', rfl⟩ : ∃ G', G = J ++ G' := by
      refine ⟨G.drop J.length, ?_⟩
      have := congrArg (List.take J.length) hr
      rw [List.take_left, List.take_append_of_le_length (by omega)] at this
      conv => lhs; rw [← List.take_append_drop J.length G, ← this]
    rw [List.append_assoc] at hr
    have := List.append_cancel_left hr
    subst this
    rw [gapSt_app, hJ] at h2
    exact .tok h2 h3 h4
theorem apart_no {x y : Nat × List UInt8} (hx : spelt x) (hy : spelt y) : apartK x y = false ↔ tok1 (spl x ++ spl y) = some (x.1, x.2, (spl x).length) := by
  obtain ⟨k, t⟩ := x
  obtain ⟨k2, t2⟩ := y
  have hs := hx.eq
  have hs2 := hy.eq
  have hy1 := spell_tok1 hs2 (R := []) (.inl stop0)
  constructor
  · intro h
    simp only [apartK, lapart, Bool.not_eq_false', Bool.and_eq_true, decide_eq_true_eq] at h
    obtain ⟨h1, h2⟩ := h
    have h3 := (read_rd h1).1
    rw [h2] at h3
    have h4 := h3.k
    exact (RdK.peel hx h4).1
  · intro h
    have h5 : Rdg 0 (spl (k, t) ++ spl (k2, t2)) [⟨k, t, 0⟩, ⟨k2, t2, (spl (k, t)).length⟩] := by
      have a2 := Rdg.tok (a := 0 + 0 + (spl (k, t)).length) (G := []) (T := spl (k2, t2)) (R := []) rfl hy1 (Rdg.done (c := false) rfl)
      have a1 := Rdg.tok (a := 0) (G := []) (T := spl (k, t)) (R := [] ++ (spl (k2, t2) ++ [])) rfl (by simpa using h) a2
      simpa using a1
    have hl1 := spell_len hs
    have hl2 := spell_len hs2
    have hc : (check (spl (k, t) ++ spl (k2, t2))).2 = 0 := chk_ok.2 ⟨by rw [List.length_append]; omega, by rw [List.all_append, spell_isB hs, spell_isB hs2]; rfl⟩
    have := rd_read hc h5 (by simp)
    simp [apartK, lapart, this]
theorem tok1_head {S A B : List UInt8} {k : Nat} {t : List UInt8} (h : tok1 (S ++ A) = some (k, t, S.length)) (hA : A ≠ []) : tok1 (S ++ (A ++ B)) = some (k, t, S.length) := by
  refine tok1_loc h ?_
  rw [List.take_length_add_append, List.take_length_add_append]
  cases A with
  | nil => exact absurd rfl hA
  | cons c A => simp
theorem rd_text : ∀ (l : List (Nat × List UInt8)) (x : Nat × List UInt8), spelt x → (∀ y ∈ l, spelt y) → RdK (spl x ++ tailOf x l) (x :: l)
  | [], (k, t), hx, _ => by
    have := RdK.tok (G := []) (R := []) rfl (spell_tok1 hx.eq (R := []) (.inl stop0)) (RdK.done (c := false) rfl)
    exact this
  | y :: l, (k, t), hx, hl => by
    have hy := hl y (List.mem_cons_self ..)
    have ih := rd_text l y hy (fun z hz => hl z (List.mem_cons_of_mem _ hz))
    simp only [tailOf]
    by_cases ha : apartK (k, t) y = true
    · rw [if_pos ha]
      exact RdK.tok (G := []) rfl (spell_tok1 hx.eq (.inl (stop32 _))) (RdK.gap (Z := [32]) rfl ih)
    · have ha' : apartK (k, t) y = false := by simpa using ha
      rw [if_neg ha]
      have h1 := (apart_no hx hy).1 ha'
      exact RdK.tok (G := []) (R := spl y ++ tailOf y l) rfl (tok1_head h1 (spell_pos hy.eq)) ih
theorem read_text (l : List (Nat × List UInt8)) (hl : ∀ y ∈ l, spelt y) : RdK (textOf l) l := by
  cases l with
  | nil => exact RdK.done (c := false) rfl
  | cons x l => exact rd_text l x (hl x (List.mem_cons_self ..)) (fun y hy => hl y (List.mem_cons_of_mem _ hy))
theorem tail_isB : ∀ (l : List (Nat × List UInt8)) (x : Nat × List UInt8), (∀ y ∈ l, spelt y) → (tailOf x l).all isB = true
  | [], _, _ => rfl
  | y :: l, x, hl => by
    simp only [tailOf, List.all_append, Bool.and_eq_true]
    refine ⟨?_, spell_isB (hl y (List.mem_cons_self ..)).eq, tail_isB l y (fun z hz => hl z (List.mem_cons_of_mem _ hz))⟩
    split
    · decide
    · rfl
theorem text_isB (l : List (Nat × List UInt8)) (hl : ∀ y ∈ l, spelt y) : (textOf l).all isB = true := by
  cases l with
  | nil => rfl
  | cons x l =>
    simp only [textOf, List.all_append, Bool.and_eq_true]
    exact ⟨spell_isB (hl x (List.mem_cons_self ..)).eq, tail_isB l x (fun y hy => hl y (List.mem_cons_of_mem _ hy))⟩
/-- the shortest text is no longer -/
theorem text_short : ∀ (l : List (Nat × List UInt8)) (x : Nat × List UInt8) (G T R : List UInt8), gapSt false G = some false → tok1 (T ++ R) = some (x.1, x.2, T.length) → RdK R l → (spl x ++ tailOf x l).length ≤ (T ++ R).length
  | [], (k, t), G, T, R, _, h2, _ => by
    have := (tok1_T h2).2
    rw [this]
    simp [tailOf]
  | y :: l, (k, t), G, T, R, h1, h2, h3 => by
    obtain ⟨hx, hT⟩ := tok1_T h2
    rcases h3.inv with ⟨c, h, _⟩ | ⟨G2, T2, R2, k2, t2, ks', rfl, h, h4, h5, h6⟩
    · cases h
    · cases h
      obtain ⟨hy, hT2⟩ := tok1_T h5
      have ih := text_short l (k2, t2) G2 T2 R2 h4 h5 h6
      simp only [tailOf, List.length_append] at ih ⊢
      rw [hT]
      by_cases ha : apartK (k, t) (k2, t2) = true
      · rw [if_pos ha]
        cases G2 with
        | nil =>
          exfalso
          have : apartK (k, t) (k2, t2) = false := by
            rw [apart_no hx hy, hT, hT2]
            refine tok1_loc h2 ?_
            rw [List.take_length_add_append, List.take_length_add_append, List.nil_append]
            have hp := spell_pos hy.eq
            rw [hT2] at hp
            cases T2 with
            | nil => exact absurd rfl hp
            | cons c q => simp
          rw [this] at ha; cases ha
        | cons c q => simp only [List.length_cons, List.length_nil]; omega
      · rw [if_neg ha]; simp only [List.length_nil]; omega
theorem text_le {r : List UInt8} {l : List (Nat × List UInt8)} (h : RdK r l) : (textOf l).length ≤ r.length := by
  cases l with
  | nil => simp [textOf]
  | cons x l =>
    rcases h.inv with ⟨c, h, _⟩ | ⟨G, T, R, k, t, ks', rfl, h1, h2, h3, h4⟩
    · cases h
    · cases h1
      have := text_short l (k, t) G T R h2 h3 h4
      simp only [textOf, List.length_append] at this ⊢
      omega
/-- without a blank that stands between two that must be apart, no text is read as the tokens -/
theorem blank_needed : ∀ (pre : List (Nat × List UInt8)) (w x y : Nat × List UInt8) (post : List (Nat × List UInt8)) (Z : List UInt8), (∀ z ∈ w :: (pre ++ [x]), spelt z) → spelt y → apartK x y = true → ¬ RdK (spl w ++ tailOf w (pre ++ [x]) ++ (spl y ++ Z)) (w :: (pre ++ x :: y :: post))
  | [], w, x, y, post, Z, hl, hy, ha, h => by
    have hw := hl w (List.mem_cons_self ..)
    have hx := hl x (by simp)
    simp only [List.nil_append, tailOf, List.append_nil] at h
    rw [List.append_assoc] at h
    have h1 := (RdK.peel hw h).2
    have h2 : RdK (spl x ++ (spl y ++ Z)) (x :: y :: post) := by
      rw [List.append_assoc] at h1
      refine RdK.ungap ?_ h1
      split <;> rfl
    have h3 := (RdK.peel hx h2).1
    have : apartK x y = false := by
      rw [apart_no hx hy]
      refine tok1_loc h3 ?_
      rw [List.take_length_add_append, List.take_length_add_append]
      have hp := spell_pos hy.eq
      cases hsy : spl y with
      | nil => exact absurd hsy hp
      | cons c q => simp
    rw [this] at ha; cases ha
  | v :: pre, w, x, y, post, Z, hl, hy, ha, h => by
    have hw := hl w (List.mem_cons_self ..)
    simp only [List.cons_append, tailOf] at h
    rw [List.append_assoc] at h
    have h1 := (RdK.peel hw h).2
    have h2 : RdK (spl v ++ tailOf v (pre ++ [x]) ++ (spl y ++ Z)) (v :: (pre ++ x :: y :: post)) := by
      rw [List.append_assoc] at h1
      refine RdK.ungap ?_ h1
      split <;> rfl
    exact blank_needed pre v x y post Z (fun z hz => hl z (List.mem_cons_of_mem _ hz)) hy ha h2
/-- and if it is the first of two -/
theorem blank_needed0 (x y : Nat × List UInt8) (post : List (Nat × List UInt8)) (Z : List UInt8) (hx : spelt x) (hy : spelt y) (ha : apartK x y = true) : ¬ RdK (spl x ++ (spl y ++ Z)) (x :: y :: post) := fun h => by
  have h3 := (RdK.peel hx h).1
  have : apartK x y = false := by
    rw [apart_no hx hy]
    refine tok1_loc h3 ?_
    rw [List.take_length_add_append, List.take_length_add_append]
    have hp := spell_pos hy.eq
    cases hsy : spl y with
    | nil => exact absurd hsy hp
    | cons c q => simp
  rw [this] at ha; cases ha
end Go.Proofs.YthknlifmkjdoeaaGreatDoor
