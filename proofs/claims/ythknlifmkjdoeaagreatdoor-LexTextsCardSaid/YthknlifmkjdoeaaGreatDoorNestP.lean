/-
  PARTNERS (plain laws): what both programs compute of tokens; its properties.
-/
import Derived.Test.YthknlifmkjdoeaaGreatDoorText
import Derived.Test.YthknlifmkjdoeaaGreatDoorLexP
namespace Lode
/-- what closes a bracket, or nothing -/
def closeOf (t : List UInt8) : List UInt8 := if t = [40] then [41] else if t = [91] then [93] else if t = [123] then [125] else []
/-- whether a text lies in ")]}" -/
def closes (t : List UInt8) : Bool := t == [] || t == [41] || t == [93] || t == [125] || t == [41, 93] || t == [93, 125] || t == [41, 93, 125]
def nestStep (l : List Tok) (i : Nat) (t : Tok) (out : List Int) (op : List Nat) : Option (List Int × List Nat) :=
  if t.kind ≠ 6 then some (out, op) else
  if closeOf t.text ≠ [] then some (out, op ++ [i]) else
  if closes t.text = true then match op.getLast? with
    | none => none
    | some o => if (l[o]?.map fun u => closeOf u.text) = some t.text then some ((out.set i (o : Int)).set o (i : Int), op.dropLast) else none
  else some (out, op)
def nestAt (l : List Tok) : Nat → Option (List Int × List Nat)
  | 0 => some (List.replicate l.length (-1), [])
  | k + 1 => (nestAt l k).bind fun x => match l[k]? with
    | none => some x
    | some t => nestStep l k t x.1 x.2
/-- the partners of tokens, or the error -/
def nest (l : List Tok) : List Int × Nat :=
  if lspellAll l ≠ 0 then ([], lspellAll l) else
  match nestAt l l.length with
  | none => ([], 9)
  | some (out, op) => if op = [] then (out, 0) else ([], 9)
end Lode
namespace Go.Proofs.YthknlifmkjdoeaaGreatDoor
open Go.RowKit Lode
theorem nestAt_succ {l : List Tok} {k : Nat} {out : List Int} {op : List Nat} (h : nestAt l k = some (out, op)) (hk : k < l.length) : nestAt l (k + 1) = nestStep l k l[k] out op := by
  simp only [nestAt, h, Option.bind_some, List.getElem?_eq_getElem hk]
theorem nestAt_none {l : List Tok} {k : Nat} (h : nestAt l k = none) : ∀ n, k ≤ n → nestAt l n = none
  | 0, hn => by
    have : k = 0 := by omega
    subst this; exact h
  | n + 1, hn => by
    by_cases e : k = n + 1
    · subst e; exact h
    · simp only [nestAt, nestAt_none h n (by omega), Option.bind_none]
theorem dropLast_getLast {op : List Nat} {o : Nat} (h : op.getLast? = some o) : op = op.dropLast ++ [o] := by
  have hne : op ≠ [] := fun e => by subst e; cases h
  rw [List.getLast?_eq_some_getLast hne] at h
  cases h
  exact (List.dropLast_concat_getLast hne).symm
/-- what holds of the partners of the first k tokens, if all went well -/
structure NInv (l : List Tok) (k : Nat) (out : List Int) (op : List Nat) : Prop where
  len : out.length = l.length
  lt : ∀ o ∈ op, o < k ∧ o < l.length
  sorted : op.Pairwise (· < ·)
  opn : ∀ o ∈ op, out[o]? = some (-1) ∧ ∃ t, l[o]? = some t ∧ t.kind = 6 ∧ closeOf t.text ≠ []
  fut : ∀ j, k ≤ j → j < l.length → out[j]? = some (-1)
  non : ∀ (j : Nat) (t : Tok), l[j]? = some t → t.kind ≠ 6 → out[j]? = some (-1)
  pair : ∀ j p : Nat, out[j]? = some (p : Int) → p < k ∧ j < k ∧ p ≠ j ∧ out[p]? = some (j : Int) ∧ (j < p → ∃ t u, l[j]? = some t ∧ l[p]? = some u ∧ t.kind = 6 ∧ u.kind = 6 ∧ closeOf t.text = u.text ∧ u.text ≠ [])
  vals : ∀ (j : Nat) (x : Int), out[j]? = some x → x = -1 ∨ ∃ p : Nat, x = p
  done : ∀ (j : Nat) (t : Tok), j < k → l[j]? = some t → t.kind = 6 → (closeOf t.text ≠ [] ∨ closes t.text = true) → j ∉ op → ∃ p : Nat, out[j]? = some (p : Int)
  nest : ∀ j p q r : Nat, out[j]? = some (p : Int) → j < q → q < p → out[q]? = some (r : Int) → j < r ∧ r < p
  above : ∀ o ∈ op, ∀ q r : Nat, o < q → out[q]? = some (r : Int) → o < r
theorem NInv.start (l : List Tok) : NInv l 0 (List.replicate l.length (-1)) [] := by
  have hm : ∀ (j : Nat) (x : Int), (List.replicate l.length (-1 : Int))[j]? = some x → x = -1 := fun j x h => by
    rw [List.getElem?_replicate] at h
    split at h
    · cases h; rfl
    · cases h
  have hp : ∀ (j p : Nat), (List.replicate l.length (-1 : Int))[j]? = some (p : Int) → False := fun j p h => by
    have := hm j _ h; omega
  refine ⟨by simp, fun o h => (by cases h), List.Pairwise.nil, fun o h => (by cases h), fun j _ hj => (by rw [List.getElem?_replicate, if_pos hj]), fun j t ht _ => ?_, fun j p h => (hp j p h).elim, fun j x h => .inl (hm j x h), fun j t h => absurd h (Nat.not_lt_zero _), fun j p q r h => (hp j p h).elim, fun o h => (by cases h)⟩
  have := (List.getElem?_eq_some_iff.1 ht).1
  rw [List.getElem?_replicate, if_pos this]
theorem nestStep_inv {l : List Tok} {k : Nat} {out out' : List Int} {op op' : List Nat} (I : NInv l k out op) (hk : k < l.length) (h : nestStep l k l[k] out op = some (out', op')) : NInv l (k + 1) out' op' := by
  have hlk : l[k]? = some l[k] := List.getElem?_eq_getElem hk
  unfold nestStep at h
  split at h
  · rename_i hkind
    cases h
    refine ⟨I.len, fun o ho => ⟨by have := (I.lt o ho).1; omega, (I.lt o ho).2⟩, I.sorted, I.opn, fun j h1 h2 => I.fut j (by omega) h2, I.non, fun j p hj => ?_, I.vals, fun j t hj ht h6 hb ho => ?_, I.nest, I.above⟩
    · obtain ⟨a, b, c⟩ := I.pair j p hj
      exact ⟨by omega, by omega, c⟩
    · by_cases e : j = k
      · subst e
        rw [hlk] at ht
        cases ht
        exact absurd h6 hkind
      · exact I.done j t (by omega) ht h6 hb ho
  · rename_i hkind
    have h6 : l[k].kind = 6 := by simpa using hkind
    split at h
    · rename_i hop
      cases h
      have hmem : ∀ o, o ∈ op ++ [k] ↔ o ∈ op ∨ o = k := fun o => by simp
      have hfk := I.fut k (Nat.le_refl _) hk
      refine ⟨I.len, fun o ho => ?_, ?_, fun o ho => ?_, fun j h1 h2 => I.fut j (by omega) h2, I.non, fun j p hj => ?_, I.vals, fun j t hj ht h6' hb ho => ?_, I.nest, fun o ho q r hq hr => ?_⟩
      · rcases (hmem o).1 ho with h | rfl
        · exact ⟨by have := (I.lt o h).1; omega, (I.lt o h).2⟩
        · exact ⟨by omega, hk⟩
      · rw [List.pairwise_append]
        refine ⟨I.sorted, by simp, fun a ha b hb => ?_⟩
        rw [List.mem_singleton] at hb
        subst hb
        exact (I.lt a ha).1
      · rcases (hmem o).1 ho with h | rfl
        · exact I.opn o h
        · exact ⟨hfk, _, hlk, h6, hop⟩
      · obtain ⟨a, b, c⟩ := I.pair j p hj
        exact ⟨by omega, by omega, c⟩
      · by_cases e : j = k
        · exact absurd ((hmem j).2 (.inr e)) ho
        · exact I.done j t (by omega) ht h6' hb (fun hh => ho ((hmem j).2 (.inl hh)))
      · rcases (hmem o).1 ho with h | rfl
        · exact I.above o h q r hq hr
        · have := (I.pair q r hr).2.1; omega
    · rename_i hop
      split at h
      · rename_i hcl
        cases hlast : op.getLast? with
        | none => rw [hlast] at h; cases h
        | some o =>
          rw [hlast] at h
          simp only at h
          split at h
          · rename_i hmatch
            cases h
            have hsplit := dropLast_getLast hlast
            have hoin : o ∈ op := List.mem_of_getLast? hlast
            have hok := I.lt o hoin
            have hsort := I.sorted
            rw [hsplit, List.pairwise_append] at hsort
            have hbelow : ∀ a ∈ op.dropLast, a < o := fun a ha => hsort.2.2 a ha o (by simp)
            have hsub : ∀ a ∈ op.dropLast, a ∈ op := fun a ha => by rw [hsplit]; exact List.mem_append_left _ ha
            have hmemop : ∀ a, a ∈ op → a ∈ op.dropLast ∨ a = o := fun a ha => by rw [hsplit] at ha; simpa using ha
            have hkl : k < out.length := by rw [I.len]; exact hk
            have hol : o < out.length := by rw [I.len]; exact hok.2
            have hne : o ≠ k := by omega
            have hget : ∀ j : Nat, ((out.set k (o : Int)).set o (k : Int))[j]? = if j = o then some (k : Int) else if j = k then some (o : Int) else out[j]? := fun j => by
              rw [List.getElem?_set, List.getElem?_set]
              by_cases e1 : j = o
              · subst e1
                simp [hol]
              · rw [if_neg (fun e => e1 e.symm), if_neg e1]
                by_cases e2 : j = k
                · subst e2
                  simp [hkl]
                · rw [if_neg (fun e => e2 e.symm), if_neg e2]
            obtain ⟨hoo, u, hu, hu6, huc⟩ := I.opn o hoin
            have hfk := I.fut k (Nat.le_refl _) hk
            have hm2 : closeOf u.text = l[k].text := by rw [hu] at hmatch; simpa using hmatch
            -- no value of out is o or k
            have hno : ∀ j p : Nat, out[j]? = some (p : Int) → p ≠ o ∧ p ≠ k ∧ j ≠ o ∧ j ≠ k := fun j p hj => by
              obtain ⟨a, b, c, d, _⟩ := I.pair j p hj
              refine ⟨fun e => ?_, by omega, fun e => ?_, by omega⟩
              · subst e; rw [hoo] at d; simp only [Option.some.injEq] at d; omega
              · subst e; rw [hoo] at hj; simp only [Option.some.injEq] at hj; omega
            refine ⟨by simp [I.len], fun a ha => ⟨by have := (I.lt a (hsub a ha)).1; omega, (I.lt a (hsub a ha)).2⟩, hsort.1, fun a ha => ?_, fun j h1 h2 => ?_, fun j t ht h6' => ?_, fun j p hj => ?_, fun j x hj => ?_, fun j t hj ht h6' hb ho => ?_, fun j p q r hj hq hp hr => ?_, fun a ha q r hq hr => ?_⟩
            · have h1 := hbelow a ha
              rw [hget, if_neg (by omega), if_neg (by omega)]
              exact I.opn a (hsub a ha)
            · rw [hget, if_neg (by omega), if_neg (by omega)]
              exact I.fut j (by omega) h2
            · rw [hget, if_neg, if_neg]
              · exact I.non j t ht h6'
              · intro e; subst e; rw [hlk] at ht; cases ht; exact h6' h6
              · intro e; subst e; rw [hu] at ht; cases ht; exact h6' hu6
            · rw [hget] at hj
              by_cases e1 : j = o
              · rw [if_pos e1] at hj
                simp only [Option.some.injEq] at hj
                have hp : p = k := by omega
                subst hp e1
                refine ⟨by omega, by omega, by omega, by rw [hget, if_neg (by omega), if_pos rfl], fun _ => ⟨u, l[p], hu, hlk, hu6, h6, hm2, by rw [← hm2]; exact huc⟩⟩
              · rw [if_neg e1] at hj
                by_cases e2 : j = k
                · rw [if_pos e2] at hj
                  simp only [Option.some.injEq] at hj
                  have hp : p = o := by omega
                  subst hp e2
                  exact ⟨by omega, by omega, by omega, by rw [hget, if_pos rfl], fun h => by omega⟩
                · rw [if_neg e2] at hj
                  obtain ⟨a, b, c, d, e⟩ := I.pair j p hj
                  obtain ⟨n1, n2, _, _⟩ := hno j p hj
                  exact ⟨by omega, by omega, c, by rw [hget, if_neg n1, if_neg n2]; exact d, e⟩
            · rw [hget] at hj
              split at hj
              · cases hj; exact .inr ⟨k, rfl⟩
              · split at hj
                · cases hj; exact .inr ⟨o, rfl⟩
                · exact I.vals j x hj
            · rw [hget]
              by_cases e1 : j = o
              · rw [if_pos e1]; exact ⟨k, rfl⟩
              · rw [if_neg e1]
                by_cases e2 : j = k
                · rw [if_pos e2]; exact ⟨o, rfl⟩
                · rw [if_neg e2]
                  exact I.done j t (by omega) ht h6' hb (fun hh => by rcases hmemop j hh with h | h; exact ho h; exact e1 h)
            · rw [hget] at hj hr
              by_cases q1 : q = o
              · rw [if_pos q1] at hr
                simp only [Option.some.injEq] at hr
                have hr' : r = k := by omega
                subst hr'
                exfalso
                by_cases e1 : j = o
                · omega
                · rw [if_neg e1] at hj
                  by_cases e2 : j = r
                  · omega
                  · rw [if_neg e2] at hj
                    obtain ⟨_, _, _, d, _⟩ := I.pair j p hj
                    have := I.above o hoin p j (by omega) d
                    omega
              · rw [if_neg q1] at hr
                by_cases q2 : q = k
                · exfalso
                  by_cases e1 : j = o
                  · rw [if_pos e1] at hj
                    simp only [Option.some.injEq] at hj
                    omega
                  · rw [if_neg e1] at hj
                    by_cases e2 : j = k
                    · omega
                    · rw [if_neg e2] at hj
                      have := (I.pair j p hj).1
                      omega
                · rw [if_neg q2] at hr
                  by_cases e1 : j = o
                  · rw [if_pos e1] at hj
                    simp only [Option.some.injEq] at hj
                    have hp' : p = k := by omega
                    subst hp' e1
                    exact ⟨I.above j hoin q r hq hr, by have := (I.pair q r hr).1; omega⟩
                  · rw [if_neg e1] at hj
                    by_cases e2 : j = k
                    · rw [if_pos e2] at hj
                      simp only [Option.some.injEq] at hj
                      omega
                    · rw [if_neg e2] at hj
                      exact I.nest j p q r hj hq hp hr
            · rw [hget] at hr
              have h1 := hbelow a ha
              by_cases q1 : q = o
              · rw [if_pos q1] at hr
                simp only [Option.some.injEq] at hr
                omega
              · rw [if_neg q1] at hr
                by_cases q2 : q = k
                · rw [if_pos q2] at hr
                  simp only [Option.some.injEq] at hr
                  omega
                · rw [if_neg q2] at hr
                  exact I.above a (hsub a ha) q r hq hr
          · cases h
      · rename_i hcl
        cases h
        refine ⟨I.len, fun o ho => ⟨by have := (I.lt o ho).1; omega, (I.lt o ho).2⟩, I.sorted, I.opn, fun j h1 h2 => I.fut j (by omega) h2, I.non, fun j p hj => ?_, I.vals, fun j t hj ht h6 hb ho => ?_, I.nest, I.above⟩
        · obtain ⟨a, b, c⟩ := I.pair j p hj
          exact ⟨by omega, by omega, c⟩
        · by_cases e : j = k
          · subst e
            rw [hlk] at ht
            cases ht
            rcases hb with hb | hb
            · exact absurd hb hop
            · exact absurd hb hcl
          · exact I.done j t (by omega) ht h6 hb ho
theorem nestAt_inv {l : List Tok} : ∀ (k : Nat) (out : List Int) (op : List Nat), k ≤ l.length → nestAt l k = some (out, op) → NInv l k out op
  | 0, out, op, _, h => by
    cases h
    exact NInv.start l
  | k + 1, out, op, hk, h => by
    cases hp : nestAt l k with
    | none => rw [nestAt_none hp (k + 1) (by omega)] at h; cases h
    | some x =>
      obtain ⟨o1, o2⟩ := x
      have I := nestAt_inv k o1 o2 (by omega) hp
      rw [nestAt_succ hp (by omega)] at h
      exact nestStep_inv I (by omega) h
/-- a spelt sign lies in ")]}" just if it is one of the three -/
theorem closes_spelt {t : List UInt8} (h : (lspell 6 t).2 = 0) : closes t = (t == [41] || t == [93] || t == [125]) := by
  have h1 : t ≠ [] := fun e => by subst e; revert h; decide +kernel
  have h2 : t ≠ [41, 93] := fun e => by subst e; revert h; decide +kernel
  have h3 : t ≠ [93, 125] := fun e => by subst e; revert h; decide +kernel
  have h4 : t ≠ [41, 93, 125] := fun e => by subst e; revert h; decide +kernel
  unfold closes
  rw [beq_false_of_ne h1, beq_false_of_ne h2, beq_false_of_ne h3, beq_false_of_ne h4]
  simp
end Go.Proofs.YthknlifmkjdoeaaGreatDoor
