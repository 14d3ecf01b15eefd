/-
  PARTNERS OF DRAWN BRACKETS (plain laws): what the law's own stack says, and what the partners are.
-/
import Derived.Test.YthknlifmkjdoeaaGreatDoorNestP
import Derived.Test.YthknlifmkjdoeaaGreatDoorFlP
namespace Lode
/-- a drawn byte's sign -/
def symM (m : Nat) : UInt8 := if m = 0 then 40 else if m = 1 then 41 else if m = 2 then 91 else if m = 3 then 93 else if m = 4 then 123 else if m = 5 then 125 else 97
def symOf (b : UInt8) : UInt8 := symM (b.toNat % 7)
def symText (u : List UInt8) : List UInt8 := u.flatMap fun b => [symOf b, 32]
def symTok (b : UInt8) (a : Nat) : Tok := ⟨if b.toNat % 7 = 6 then 1 else 6, [symOf b], a⟩
def symToks : Nat → List UInt8 → List Tok
  | _, [] => []
  | a, b :: u => symTok b a :: symToks (a + 2) u
def symStep (op : List UInt8) (b : UInt8) : Option (List UInt8) :=
  if b.toNat % 7 = 6 then some op else if b.toNat % 7 % 2 = 0 then some (op ++ [symM (b.toNat % 7 + 1)]) else match op.getLast? with
    | none => none
    | some x => if x = symOf b then some op.dropLast else none
def symRun (u : List UInt8) : Option (List UInt8) := u.foldl (fun x b => x.bind fun op => symStep op b) (some [])
end Lode
namespace Go.Proofs.YthknlifmkjdoeaaGreatDoor
open Go.RowKit Lode
theorem symRun_snoc (u : List UInt8) (b : UInt8) : symRun (u ++ [b]) = (symRun u).bind fun op => symStep op b := by unfold symRun; rw [List.foldl_append]; rfl
theorem symText_snoc (u : List UInt8) (b : UInt8) : symText (u ++ [b]) = symText u ++ [symOf b, 32] := by unfold symText; simp
theorem symText_length (u : List UInt8) : (symText u).length = 2 * u.length := by
  induction u with
  | nil => rfl
  | cons b u ih => simp only [symText, List.flatMap_cons, List.length_append, List.length_cons, List.length_nil] at ih ⊢; omega
theorem symToks_length : ∀ (a : Nat) (u : List UInt8), (symToks a u).length = u.length
  | _, [] => rfl
  | a, b :: u => by simp only [symToks, List.length_cons, symToks_length (a + 2) u]
theorem symToks_get : ∀ (a : Nat) (u : List UInt8) (k : Nat), (symToks a u)[k]? = u[k]?.map fun b => symTok b (a + 2 * k)
  | _, [], k => by simp [symToks]
  | a, b :: u, 0 => by simp [symToks]
  | a, b :: u, k + 1 => by
    simp only [symToks, List.getElem?_cons_succ, symToks_get (a + 2) u k]
    congr 1; funext b; congr 1; omega
theorem seven (b : UInt8) : b.toNat % 7 = 0 ∨ b.toNat % 7 = 1 ∨ b.toNat % 7 = 2 ∨ b.toNat % 7 = 3 ∨ b.toNat % 7 = 4 ∨ b.toNat % 7 = 5 ∨ b.toNat % 7 = 6 := by omega
theorem sym_tok1 (b : UInt8) (z : List UInt8) : tok1 ([symOf b] ++ (32 :: z)) = some (if b.toNat % 7 = 6 then 1 else 6, [symOf b], 1) := by
  have aux : ∀ (c : UInt8) (k : Nat), tok1 [c] = some (k, [c], 1) → tok1 ([c] ++ (32 :: z)) = some (k, [c], 1) := fun c k h => tok1_stop h (stop32 z)
  unfold symOf
  rcases seven b with h | h | h | h | h | h | h <;> rw [h] <;> exact aux _ _ (by decide +kernel)
theorem sym_rd : ∀ (a : Nat) (u : List UInt8), Rdg a (symText u) (symToks a u)
  | a, [] => Rdg.done (c := false) rfl
  | a, b :: u => by
    have h1 : Rdg (a + 0 + 1) (32 :: symText u) (symToks (a + 2) u) := Rdg.gap (Z := [32]) rfl (sym_rd (a + 2) u)
    exact Rdg.tok (G := []) (T := [symOf b]) (R := 32 :: symText u) rfl (sym_tok1 b _) h1
theorem sym_isB (b : UInt8) : isB (symOf b) = true := by
  unfold symOf
  rcases seven b with h | h | h | h | h | h | h <;> rw [h] <;> decide
theorem sym_read {u : List UInt8} (h : u.length ≤ 60) : Lode.read (symText u) = (symToks 0 u, 0, 0) := by
  refine rd_read (chk_ok.2 ⟨by rw [symText_length]; omega, ?_⟩) (sym_rd 0 u) (by rw [symToks_length]; omega)
  rw [List.all_eq_true]
  intro x hx
  unfold symText at hx
  rw [List.mem_flatMap] at hx
  obtain ⟨b, _, hb⟩ := hx
  simp only [List.mem_cons, List.not_mem_nil, or_false] at hb
  rcases hb with rfl | rfl
  · exact sym_isB b
  · decide
theorem sym_spellAll {u : List UInt8} (h : u.length ≤ 60) : lspellAll (symToks 0 u) = 0 :=
  spellAll_of (by rw [symToks_length]; omega) (sym_rd 0 u).k.allSpelt
/-- the law's stack beside the partners' -/
def symOp (l : List Tok) (op : List Nat) : List UInt8 := op.map fun o => match l[o]? with
  | none => 0
  | some t => (closeOf t.text).headD 0
theorem sym_step (u : List UInt8) (k : Nat) (hk : k < u.length) (out : List Int) (op : List Nat) (I : NInv (symToks 0 u) k out op) :
    symStep (symOp (symToks 0 u) op) u[k] = (nestStep (symToks 0 u) k (symTok u[k] (0 + 2 * k)) out op).map fun x => symOp (symToks 0 u) x.2 := by
  have hg : (symToks 0 u)[k]? = some (symTok u[k] (0 + 2 * k)) := by rw [symToks_get, List.getElem?_eq_getElem hk]; rfl
  have hopen : ∀ m, u[k].toNat % 7 = m → (m = 0 ∨ m = 2 ∨ m = 4) → symStep (symOp (symToks 0 u) op) u[k] = (nestStep (symToks 0 u) k (symTok u[k] (0 + 2 * k)) out op).map fun x => symOp (symToks 0 u) x.2 := fun m hm h => by
    have e1 : closeOf (symTok u[k] (0 + 2 * k)).text = [symM (m + 1)] := by
      unfold symTok symOf; rw [hm]
      rcases h with rfl | rfl | rfl <;> rfl
    unfold symStep nestStep
    rw [if_neg (by omega), if_pos (by omega), if_neg (by unfold symTok; rw [if_neg (by omega)]; simp), if_pos (by rw [e1]; simp)]
    simp only [Option.map_some, symOp, List.map_append, List.map_cons, List.map_nil, hg, e1, hm, List.headD_cons]
  have hclose : ∀ m, u[k].toNat % 7 = m → (m = 1 ∨ m = 3 ∨ m = 5) → symStep (symOp (symToks 0 u) op) u[k] = (nestStep (symToks 0 u) k (symTok u[k] (0 + 2 * k)) out op).map fun x => symOp (symToks 0 u) x.2 := fun m hm h => by
    have e0 : symOf u[k] = symM m := by unfold symOf; rw [hm]
    have e1 : closeOf (symTok u[k] (0 + 2 * k)).text = [] := by
      unfold symTok; rw [e0]
      rcases h with rfl | rfl | rfl <;> rfl
    have e2 : closes (symTok u[k] (0 + 2 * k)).text = true := by
      unfold symTok; rw [e0]
      rcases h with rfl | rfl | rfl <;> rfl
    unfold symStep nestStep
    rw [if_neg (by omega), if_neg (by omega), if_neg (by unfold symTok; rw [if_neg (by omega)]; simp), if_neg (by rw [e1]; simp), if_pos e2]
    cases hlast : op.getLast? with
    | none =>
      have : op = [] := List.getLast?_eq_none_iff.1 hlast
      subst this
      rfl
    | some o =>
      have hsplit := dropLast_getLast hlast
      have hoin : o ∈ op := List.mem_of_getLast? hlast
      obtain ⟨_, t, ht, _, hc⟩ := I.opn o hoin
      have e3 : symOp (symToks 0 u) op = symOp (symToks 0 u) op.dropLast ++ [(closeOf t.text).headD 0] := by
        conv => lhs; rw [hsplit]
        simp only [symOp, List.map_append, List.map_cons, List.map_nil, ht]
      rw [e3, List.getLast?_concat, List.dropLast_concat]
      simp only [ht, Option.map_some, Option.some.injEq]
      have e4 : ∃ c, closeOf t.text = [c] := by
        unfold closeOf at hc ⊢
        split
        · exact ⟨_, rfl⟩
        · split
          · exact ⟨_, rfl⟩
          · split
            · exact ⟨_, rfl⟩
            · rename_i h1 h2 h3; rw [if_neg h1, if_neg h2, if_neg h3] at hc; exact absurd rfl hc
      obtain ⟨c, e4⟩ := e4
      rw [e4, show ([c] : List UInt8).headD 0 = c from rfl]
      have e5 : (symTok u[k] (0 + 2 * k)).text = [symOf u[k]] := rfl
      rw [e5]
      simp only [List.cons.injEq, and_true]
      by_cases hcc : c = symOf u[k]
      · rw [if_pos hcc, if_pos hcc]; rfl
      · rw [if_neg hcc, if_neg hcc]; rfl
  rcases seven u[k] with h | h | h | h | h | h | h
  · exact hopen 0 h (by omega)
  · exact hclose 1 h (by omega)
  · exact hopen 2 h (by omega)
  · exact hclose 3 h (by omega)
  · exact hopen 4 h (by omega)
  · exact hclose 5 h (by omega)
  · unfold symStep nestStep
    rw [if_pos h, if_pos (by unfold symTok; rw [if_pos h]; simp)]
    rfl
theorem sym_nest (u : List UInt8) : ∀ k, k ≤ u.length → symRun (u.take k) = (nestAt (symToks 0 u) k).map fun x => symOp (symToks 0 u) x.2
  | 0, _ => by simp [nestAt, symRun, symOp]
  | k + 1, hk => by
    have ih := sym_nest u k (by omega)
    have hlt : k < u.length := by omega
    rw [← List.take_append_getElem hlt, symRun_snoc, ih]
    cases hn : nestAt (symToks 0 u) k with
    | none => rw [nestAt_none hn (k + 1) (by omega)]; rfl
    | some x =>
      obtain ⟨out, op⟩ := x
      have hlk : k < (symToks 0 u).length := by rw [symToks_length]; exact hlt
      have I := nestAt_inv k out op (by omega) hn
      rw [nestAt_succ hn hlk]
      have hg : (symToks 0 u)[k] = symTok u[k] (0 + 2 * k) := by
        have := symToks_get 0 u k
        rw [List.getElem?_eq_getElem hlk, List.getElem?_eq_getElem hlt] at this
        simpa using this
      rw [hg]
      exact sym_step u k hlt out op I
/-- the texts of two brackets that belong together -/
def pairT (s t : List UInt8) : Prop := (s = [40] ∧ t = [41]) ∨ (s = [91] ∧ t = [93]) ∨ (s = [123] ∧ t = [125])
theorem closeOf_pair {s t : List UInt8} (h : closeOf s = t) (ht : t ≠ []) : pairT s t := by
  unfold closeOf at h
  subst h
  split
  · exact .inl ⟨by assumption, rfl⟩
  · split
    · exact .inr (.inl ⟨by assumption, rfl⟩)
    · split
      · exact .inr (.inr ⟨by assumption, rfl⟩)
      · rename_i h1 h2 h3; rw [if_neg h1, if_neg h2, if_neg h3] at ht; exact absurd rfl ht
/-- the partners of drawn brackets, as the law asks -/
structure PartOk (l : List Tok) (out : List Int) : Prop where
  len : out.length = l.length
  non : ∀ (i : Nat) (t : Tok), l[i]? = some t → t.kind ≠ 6 → out[i]? = some (-1)
  par : ∀ (i : Nat) (t : Tok), l[i]? = some t → t.kind = 6 → ∃ (p : Nat) (u : Tok), out[i]? = some (p : Int) ∧ p < l.length ∧ out[p]? = some (i : Int) ∧ l[p]? = some u ∧ p ≠ i ∧ (i < p → pairT t.text u.text) ∧ (p < i → pairT u.text t.text) ∧
    ∀ (k : Nat) (x : Int), min i p < k → k < max i p → out[k]? = some x → x = -1 ∨ ∃ r : Nat, x = (r : Int) ∧ min i p < r ∧ r < max i p
theorem partners_ok {u : List UInt8} (hu : u.length ≤ 60) (h : symRun u = some []) : ∃ out, nest (symToks 0 u) = (out, 0) ∧ PartOk (symToks 0 u) out := by
  have hn := sym_nest u u.length (Nat.le_refl _)
  rw [List.take_length, h] at hn
  unfold nest
  rw [sym_spellAll hu, symToks_length]
  cases hx : nestAt (symToks 0 u) u.length with
  | none => rw [hx] at hn; cases hn
  | some x =>
    obtain ⟨out, op⟩ := x
    rw [hx] at hn
    simp only [Option.map_some, Option.some.injEq, symOp] at hn
    have hop : op = [] := List.map_eq_nil_iff.1 hn.symm
    subst hop
    have I := nestAt_inv u.length out [] (by rw [symToks_length]; exact Nat.le_refl _) hx
    refine ⟨out, by simp, I.len, I.non, fun i t ht h6 => ?_⟩
    have hi : i < u.length := by have := (List.getElem?_eq_some_iff.1 ht).1; rwa [symToks_length] at this
    have hbr : closeOf t.text ≠ [] ∨ closes t.text = true := by
      rw [symToks_get, List.getElem?_eq_getElem hi] at ht
      simp only [Option.map_some, Option.some.injEq] at ht
      subst ht
      have : (symTok u[i] (0 + 2 * i)).text = [symM (u[i].toNat % 7)] := rfl
      rw [this]
      have h7 := seven u[i]
      unfold symTok at h6
      rcases h7 with h | h | h | h | h | h | h
      · rw [h]; exact .inl (by decide)
      · rw [h]; exact .inr (by decide)
      · rw [h]; exact .inl (by decide)
      · rw [h]; exact .inr (by decide)
      · rw [h]; exact .inl (by decide)
      · rw [h]; exact .inr (by decide)
      · simp [h] at h6
    obtain ⟨p, hp⟩ := I.done i t hi ht h6 hbr (by simp)
    obtain ⟨a, b, c, d, e⟩ := I.pair i p hp
    obtain ⟨a2, b2, c2, d2, e2⟩ := I.pair p i d
    have hpl : p < (symToks 0 u).length := by rw [symToks_length]; exact a
    refine ⟨p, (symToks 0 u)[p], hp, hpl, d, List.getElem?_eq_getElem hpl, c, fun hlt => ?_, fun hlt => ?_, fun k x h1 h2 hk => ?_⟩
    · obtain ⟨t', u', h1, h2, _, _, h3, h4⟩ := e hlt
      rw [ht] at h1; cases h1
      rw [List.getElem?_eq_getElem hpl] at h2; cases h2
      exact closeOf_pair h3 h4
    · obtain ⟨t', u', h1, h2, _, _, h3, h4⟩ := e2 hlt
      rw [ht] at h2; cases h2
      rw [List.getElem?_eq_getElem hpl] at h1; cases h1
      exact closeOf_pair h3 h4
    · rcases I.vals k x hk with rfl | ⟨r, rfl⟩
      · exact .inl rfl
      · right
        refine ⟨r, rfl, ?_⟩
        rcases Nat.lt_or_ge i p with hlt | hge
        · rw [Nat.min_eq_left (by omega), Nat.max_eq_right (by omega)] at *
          exact I.nest i p k r hp h1 h2 hk
        · rw [Nat.min_eq_right (by omega), Nat.max_eq_left (by omega)] at *
          exact I.nest p i k r d h1 h2 hk
theorem partners_no {u : List UInt8} (hu : u.length ≤ 60) (h : symRun u ≠ some []) : nest (symToks 0 u) = ([], 9) := by
  have hn := sym_nest u u.length (Nat.le_refl _)
  rw [List.take_length] at hn
  unfold nest
  rw [sym_spellAll hu, symToks_length]
  cases hx : nestAt (symToks 0 u) u.length with
  | none => rfl
  | some x =>
    obtain ⟨out, op⟩ := x
    rw [hx] at hn
    simp only [Option.map_some] at hn
    have : op ≠ [] := fun e => by subst e; exact h hn
    simp [this]
end Go.Proofs.YthknlifmkjdoeaaGreatDoor
namespace Go.Proofs.YthknlifmkjdoeaaGreatDoor
open Go.RowKit Lode
/-- one bracket and its partner, the lower one and the higher one -/
theorem PartOk.lohi {l : List Tok} {out : List Int} (h : PartOk l out) {i : Nat} {t : Tok} (ht : l[i]? = some t) (h6 : t.kind = 6) : ∃ (p lo hi : Nat) (tl th : Tok), out[i]? = some (p : Int) ∧ p < l.length ∧ out[p]? = some (i : Int) ∧ min (i : Int) (p : Int) = (lo : Int) ∧ max (i : Int) (p : Int) = (hi : Int) ∧ lo < hi ∧ hi < l.length ∧ l[lo]? = some tl ∧ l[hi]? = some th ∧ pairT tl.text th.text ∧
    ∀ (k : Nat) (x : Int), lo < k → k < hi → out[k]? = some x → x = -1 ∨ ∃ r : Nat, x = (r : Int) ∧ lo < r ∧ r < hi := by
  have hil : i < l.length := (List.getElem?_eq_some_iff.1 ht).1
  obtain ⟨p, u, hp1, hp2, hp3, hp4, hp5, hp6, hp7, hp8⟩ := h.par i t ht h6
  rcases Nat.lt_or_ge i p with hlt | hge
  · refine ⟨p, i, p, t, u, hp1, hp2, hp3, by omega, by omega, hlt, hp2, ht, hp4, hp6 hlt, fun k x h1 h2 h3 => ?_⟩
    rcases hp8 k x (by omega) (by omega) h3 with h4 | ⟨r, h4, h5, h6⟩
    · exact .inl h4
    · exact .inr ⟨r, h4, by omega, by omega⟩
  · have hlt : p < i := by omega
    refine ⟨p, p, i, u, t, hp1, hp2, hp3, by omega, by omega, hlt, hil, hp4, ht, hp7 hlt, fun k x h1 h2 h3 => ?_⟩
    rcases hp8 k x (by omega) (by omega) h3 with h4 | ⟨r, h4, h5, h6⟩
    · exact .inl h4
    · exact .inr ⟨r, h4, by omega, by omega⟩
end Go.Proofs.YthknlifmkjdoeaaGreatDoor
