/-
  WHAT THE WALKS SHARE: facts kept from the walk, function values on bytes, cells of bytes. Nothing here names a function of the program.
-/
import Derived.WalkKit
import Derived.WalkLawsBesides
import Derived.WalkSpells
import Derived.Lib.ConvBytes
import Derived.Shelf.Abstract
import Derived.Deep.RegionWith
import Derived.Deep.Light
import Derived.Deep.QuietTactic
import Derived.BigQuiet
import Derived.Test.YthknlifmkjdoeaaGreatDoorSpec
namespace Lode
open Go Go.RowKit
theorem hid {p : Prop} (h : p) : Hid p := h
/-- a function value on bytes that answers p, and turns nothing -/
structure PredB (P : Program) (g : Nat) (lb : Array Value) (p : UInt8 → Bool) (w : World) : Prop where
  eg : ∀ args w, (callFunc g args).run P w = .ok (.enter g args) w
  calls : ∀ (W : World) (c : UInt8), Below w.heap.size w W → Calls P g (#[.int .u8 (c.toNat : Int)] ++ lb) W fun e W' => e = .returned (.bool (p c)) ∧ Below W.heap.size W W'
theorem findIx_drop (p : UInt8 → Bool) : ∀ (l : List UInt8) (k : Nat), (∀ j, j < k → p (l.getD j 0) = false) → k ≤ l.length → findIx p l = (findIx p (l.drop k)).map (· + k)
  | l, 0, _, _ => by simp
  | [], k + 1, _, h => by simp at h
  | c :: r, k + 1, h, hk => by
    have h0 : p c = false := h 0 (by omega)
    have := findIx_drop p r k (fun j hj => h (j + 1) (by omega)) (by simpa using hk)
    simp only [findIx, h0, List.drop_succ_cons, Bool.false_eq_true, if_false]
    rw [this]
    simp [Option.map_map, Function.comp_def]; rfl
theorem below_then {w w1 w2 : World} (h : Below w.heap.size w w1) (k : Below w1.heap.size w1 w2) : Below w.heap.size w w2 := h.trans (k.mono h.size)
theorem below_alloc (w : World) (o : Obj) : Below w.heap.size w (w.alloc o) := (Below.refl _ _).alloc (Nat.le_refl _) _
theorem below_bytes (w : World) (e : TypeId) (s : ByteArray) : Below w.heap.size w (Lib.bytesWorld w e s) :=
  ⟨rfl, rfl, rfl, by rw [Lib.bytesWorld_size]; omega, fun k hk => Lib.bytesWorld_at_old w e s k hk⟩
theorem u8_nat (c : UInt8) : c.toNat < 256 := c.toNat_lt
theorem byte_eq (c : UInt8) (n : Nat) (h : n < 256) : (c.toNat = n) = (c = UInt8.ofNat n) := by
  rw [eq_iff_iff]
  constructor
  · intro e; subst e; simp
  · intro e; subst e; simp; omega
theorem bget (s : ByteArray) (k : Nat) (h : k < s.size) : s.data.toList.getD k 0 = s[k] := by
  have h' : k < s.data.toList.length := by simpa using h
  simp [List.getD, h]; rfl
theorem bdrop (s : ByteArray) (k : Nat) (h : k < s.size) : s.data.toList.drop k = s[k] :: s.data.toList.drop (k + 1) := by
  have h' : k < s.data.toList.length := by simpa using h
  rw [List.drop_eq_getElem_cons h']
  simp; rfl
theorem bdrop_end (s : ByteArray) (k : Nat) (h : s.size ≤ k) : s.data.toList.drop k = [] := by
  simp; exact h
theorem isB_iff (c : UInt8) : isB c = true ↔ ((32 ≤ (c.toNat : Int) ∧ (c.toNat : Int) ≤ 126) ∨ (c.toNat : Int) = 10) := by
  unfold isB; simp; omega
theorem isB_no (c : UInt8) : isB c = false ↔ (((c.toNat : Int) < 32 ∨ 126 < (c.toNat : Int)) ∧ (c.toNat : Int) ≠ 10) := by
  rw [← Bool.not_eq_true, isB_iff]; omega
theorem check_at (s : ByteArray) (k : Nat) (h : ¬ 3000 < s.size) (hall : ∀ j, j < k → (!isB (s.data.toList.getD j 0)) = false) (hlt : k < s.size) (hb : isB s[k] = false) : check s.data.toList = (k, 4) := by
  unfold check
  rw [if_neg (by simpa using h), findIx_drop _ _ k hall (by simpa using (Nat.le_of_lt hlt)), bdrop s k hlt]
  simp [findIx, hb]
theorem check_end (s : ByteArray) (h : ¬ 3000 < s.size) (hall : ∀ j, j < s.size → (!isB (s.data.toList.getD j 0)) = false) : check s.data.toList = (0, 0) := by
  unfold check
  rw [if_neg (by simpa using h), findIx_drop _ _ s.size hall (by simp), bdrop_end s s.size (Nat.le_refl _)]
  rfl
theorem upto_succ (s : ByteArray) (p : UInt8 → Bool) (b : Bool) (a k : Nat) (hall : ∀ j, j < k → p (s.data.toList.getD (a + j) 0) = b) (hlt : a + k < s.size) (hk : p s[a + k] = b) : ∀ j, j < k + 1 → p (s.data.toList.getD (a + j) 0) = b := by
  intro j hj
  by_cases e : j = k
  · subst e; rw [bget s _ hlt]; exact hk
  · exact hall j (by omega)
theorem upto_succ0 (s : ByteArray) (p : UInt8 → Bool) (b : Bool) (k : Nat) (hall : ∀ j, j < k → p (s.data.toList.getD j 0) = b) (hlt : k < s.size) (hk : p s[k] = b) : ∀ j, j < k + 1 → p (s.data.toList.getD j 0) = b := by
  intro j hj
  by_cases e : j = k
  · subst e; rw [bget s _ hlt]; exact hk
  · exact hall j (by omega)
theorem runLen_at (s : ByteArray) (p : UInt8 → Bool) (a : Nat) : ∀ (k : Nat), (∀ j, j < k → p (s.data.toList.getD (a + j) 0) = true) → a + k ≤ s.size → runLen p (s.data.toList.drop a) = k + runLen p (s.data.toList.drop (a + k))
  | 0, _, _ => by simp
  | k + 1, h, hk => by
    have h1 := runLen_at s p a k (fun j hj => h j (by omega)) (by omega)
    have h2 := h k (by omega)
    have hlt : a + k < s.size := by omega
    rw [bget s _ hlt] at h2
    rw [h1, bdrop s (a + k) hlt]
    simp [runLen, h2]
    rw [Nat.add_assoc]; omega
theorem gapLen_at (c : UInt8) (cm : Bool) (r : List UInt8) : gapLen cm (c :: r) = if (c.toNat : Int) = 10 then gapLen false r + 1 else if (c.toNat : Int) = 35 then gapLen true r + 1 else if (c.toNat : Int) = 32 ∨ cm = true then gapLen cm r + 1 else 0 := by
  have e1 : (c = 10) = ((c.toNat : Int) = 10) := by rw [show ((c.toNat : Int) = 10) = (c.toNat = 10) from by simp; omega, byte_eq c 10 (by omega)]; rfl
  have e2 : (c = 35) = ((c.toNat : Int) = 35) := by rw [show ((c.toNat : Int) = 35) = (c.toNat = 35) from by simp; omega, byte_eq c 35 (by omega)]; rfl
  have e3 : (c = 32) = ((c.toNat : Int) = 32) := by rw [show ((c.toNat : Int) = 32) = (c.toNat = 32) from by simp; omega, byte_eq c 32 (by omega)]; rfl
  simp only [gapLen, e1, e2, e3]
section
variable {n k : Nat} {cm : Bool} {c : UInt8} {r : List UInt8}
theorem gap_nl (h : n = k + gapLen cm (c :: r)) (a : ((c.toNat : Int) == 10) = true) : n = (k + 1) + gapLen false r := by rw [gapLen_at, if_pos (by simpa using a)] at h; omega
theorem gap_hash (h : n = k + gapLen cm (c :: r)) (a : ((c.toNat : Int) == 10) = false) (b : ((c.toNat : Int) == 35) = true) : n = (k + 1) + gapLen true r := by rw [gapLen_at, if_neg (by simpa using a), if_pos (by simpa using b)] at h; omega
theorem gap_blank (h : n = k + gapLen cm (c :: r)) (a : ((c.toNat : Int) == 10) = false) (b : ((c.toNat : Int) == 35) = false) (d : (c.toNat : Int) = 32) : n = (k + 1) + gapLen cm r := by
  rw [gapLen_at, if_neg (by simpa using a), if_neg (by simpa using b), if_pos (.inl d)] at h; omega
theorem gap_in (h : n = k + gapLen cm (c :: r)) (a : ((c.toNat : Int) == 10) = false) (b : ((c.toNat : Int) == 35) = false) (d : ((c.toNat : Int) != 32) = false ∨ (!cm) = false) : n = (k + 1) + gapLen cm r := by
  rw [gapLen_at, if_neg (by simpa using a), if_neg (by simpa using b), if_pos (by simpa using d)] at h; omega
theorem gap_end (h : n = k + gapLen cm (c :: r)) (a : ((c.toNat : Int) == 10) = false) (b : ((c.toNat : Int) == 35) = false) (d : ((c.toNat : Int) != 32) = true ∧ (!cm) = true) : n = k := by
  rw [gapLen_at, if_neg (by simpa using a), if_neg (by simpa using b), if_neg (by simpa using d)] at h; omega
end
theorem bhead (s : ByteArray) (h : 0 < s.size) (n : Nat) (hn : n < 256) : (s.data.toList.head? == some (UInt8.ofNat n)) = ((s[0].toNat : Int) == n) := by
  have := bdrop s 0 h
  rw [List.drop_zero] at this
  rw [this, Bool.eq_iff_iff]
  simp only [List.head?_cons, Option.some_beq_some, beq_iff_eq]
  rw [← byte_eq _ n hn]; omega
theorem bhead' (s : ByteArray) (n : Nat) (hn : n < 256) : (s.data.toList.head? == some (UInt8.ofNat n)) = if h : 0 < s.size then ((s[0].toNat : Int) == n) else false := by
  split
  · exact bhead s ‹_› n hn
  · have := bdrop_end s 0 (by omega); rw [List.drop_zero] at this; rw [this]; rfl
end Lode

/-
  STEP LAWS FOR THE READERS OF QUOTED TEXTS, in the walk's own forms.
-/
namespace Lode
open Go Go.RowKit
theorem ceq (c : UInt8) (n : Nat) (hn : n < 256) : (((c.toNat : Int)) = n) = (c = UInt8.ofNat n) := by
  rw [← byte_eq c n hn]; simp only [eq_iff_iff]; omega
theorem c34 (c : UInt8) : ((c.toNat : Int) = 34) = (c = 34) := ceq c 34 (by omega)
theorem c92 (c : UInt8) : ((c.toNat : Int) = 92) = (c = 92) := ceq c 92 (by omega)
theorem c110 (c : UInt8) : ((c.toNat : Int) = 110) = (c = 110) := ceq c 110 (by omega)
theorem c10 (c : UInt8) : ((c.toNat : Int) = 10) = (c = 10) := ceq c 10 (by omega)
theorem extract_one (s : ByteArray) (i : Nat) (h : i < s.size) : (s.extract i (i + 1)).data.toList = [s[i]] := by
  have := bdrop s i h
  simp only [ByteArray.data_extract, Array.toList_extract, List.extract_eq_take_drop]
  rw [this]; simp
theorem app_data (a b : ByteArray) : (a ++ b).data.toList = a.data.toList ++ b.data.toList := by simp
theorem quo_cons (c : UInt8) (r : List UInt8) : quo (c :: r) = if c.toNat < 32 ∨ 126 < c.toNat then none else if c = 34 then some ([], 1) else if c = 92 then
      (match r with
      | [] => none
      | d :: r' => if d = 34 ∨ d = 92 then (quo r').map fun x => (d :: x.1, x.2 + 2) else if d = 110 then (quo r').map fun x => (10 :: x.1, x.2 + 2) else none)
    else (quo r).map fun x => (c :: x.1, x.2 + 1) := by
  rw [quo.eq_def]
  rfl
def qfin : Option (List UInt8 × Nat) → Option (List UInt8 × Nat)
  | some (t, n) => if t.length ≤ 60 then some (t, n + 1) else none
  | none => none
theorem quoted_eq (s : List UInt8) : quoted s = qfin (quo (s.drop 1)) := by
  unfold quoted qfin
  cases quo (s.drop 1) <;> rfl
/-- how a reader of quoted texts answers -/
def QRes (q : Option (List UInt8 × Nat)) (n : Int) (t : ByteArray) (ok : Bool) : Prop :=
  match q with
  | some (t', n') => ok = true ∧ n = n' ∧ t = ⟨t'.toArray⟩
  | none => ok = false
/-- k bytes behind the opening quote at a have been read as ob -/
def QInv (s : ByteArray) (a k : Nat) (ob : ByteArray) (q : Option (List UInt8 × Nat)) : Prop :=
  q = qfin ((quo (s.data.toList.drop (a + 1 + k))).map fun x => (ob.data.toList ++ x.1, k + x.2))
theorem QInv.start (s : ByteArray) (a : Nat) : QInv s a 0 ByteArray.empty (quoted (s.data.toList.drop a)) := by
  unfold QInv
  rw [quoted_eq, List.drop_drop]
  cases quo (s.data.toList.drop (a + 1)) <;> simp
section
variable {s : ByteArray} {a k : Nat} {ob : ByteArray} {q : Option (List UInt8 × Nat)}
theorem q_none (h : QInv s a k ob q) (e : quo (s.data.toList.drop (a + 1 + k)) = none) : q = none := by
  unfold QInv at h; rw [e] at h; exact h
theorem q_out (h : QInv s a k ob q) (he : s.size ≤ a + 1 + k) : q = none := q_none h (by rw [bdrop_end s _ he]; rfl)
theorem q_low (h : QInv s a k ob q) (hlt : a + 1 + k < s.size) (b : (s[a + 1 + k].toNat : Int) < 32) : q = none := q_none h (by rw [bdrop s _ hlt, quo_cons, if_pos (by omega)])
theorem q_high (h : QInv s a k ob q) (hlt : a + 1 + k < s.size) (b : 126 < (s[a + 1 + k].toNat : Int)) : q = none := q_none h (by rw [bdrop s _ hlt, quo_cons, if_pos (by omega)])
theorem q_close (h : QInv s a k ob q) (hlt : a + 1 + k < s.size) (b1 : 32 ≤ (s[a + 1 + k].toNat : Int)) (b2 : (s[a + 1 + k].toNat : Int) ≤ 126) (b3 : ((s[a + 1 + k].toNat : Int) == 34) = true) (n : Int) (hn : n = k + 2) :
    QRes q n ob (decide ((ob.size : Int) ≤ 60)) := by
  have e : quo (s.data.toList.drop (a + 1 + k)) = some ([], 1) := by
    rw [bdrop s _ hlt, quo_cons, if_neg (by omega), if_pos (by rw [beq_iff_eq, c34] at b3; exact b3)]
  unfold QInv at h
  rw [e] at h
  simp only [Option.map_some, qfin, List.append_nil] at h
  subst h
  by_cases hl : ob.size ≤ 60
  · rw [if_pos (by simpa using hl)]
    exact ⟨by simp; omega, by omega, rfl⟩
  · rw [if_neg (by simpa using hl)]
    show _ = _
    simp; omega
theorem q_plain (h : QInv s a k ob q) (hlt : a + 1 + k < s.size) (b1 : 32 ≤ (s[a + 1 + k].toNat : Int)) (b2 : (s[a + 1 + k].toNat : Int) ≤ 126) (b3 : ((s[a + 1 + k].toNat : Int) == 34) = false) (b4 : ((s[a + 1 + k].toNat : Int) != 92) = true) :
    QInv s a (k + 1) (ob ++ s.extract (a + 1 + k) (a + 1 + k + 1)) q := by
  unfold QInv at *
  rw [h, bdrop s _ hlt, quo_cons, if_neg (by omega), if_neg (by rw [beq_eq_false_iff_ne, ne_eq, c34] at b3; exact b3), if_neg (by rw [bne_iff_ne, ne_eq, c92] at b4; exact b4), app_data, extract_one s _ hlt]
  cases quo (s.data.toList.drop (a + 1 + k + 1)) <;> simp [Nat.add_assoc, Nat.add_comm 1, Option.map]
theorem q_esc_end (h : QInv s a k ob q) (hlt : a + 1 + k < s.size) (b1 : 32 ≤ (s[a + 1 + k].toNat : Int)) (b2 : (s[a + 1 + k].toNat : Int) ≤ 126) (b3 : ((s[a + 1 + k].toNat : Int) == 34) = false) (b4 : ((s[a + 1 + k].toNat : Int) != 92) = false) (he : s.size ≤ a + 1 + k + 1) : q = none :=
  q_none h (by
    rw [bdrop s _ hlt, quo_cons, if_neg (by omega), if_neg (by rw [beq_eq_false_iff_ne, ne_eq, c34] at b3; exact b3), if_pos (by rw [bne_eq_false_iff_eq, c92] at b4; exact b4), bdrop_end s _ he])
theorem q_esc (h : QInv s a k ob q) (hlt : a + 1 + k < s.size) (b1 : 32 ≤ (s[a + 1 + k].toNat : Int)) (b2 : (s[a + 1 + k].toNat : Int) ≤ 126) (b3 : ((s[a + 1 + k].toNat : Int) == 34) = false) (b4 : ((s[a + 1 + k].toNat : Int) != 92) = false) (h2 : a + 1 + k + 1 < s.size)
    (b5 : (s[a + 1 + k + 1].toNat : Int) = 34 ∨ (s[a + 1 + k + 1].toNat : Int) = 92) : QInv s a (k + 2) (ob ++ s.extract (a + 1 + k + 1) (a + 1 + k + 1 + 1)) q := by
  unfold QInv at *
  rw [h, bdrop s _ hlt, quo_cons, if_neg (by omega), if_neg (by rw [beq_eq_false_iff_ne, ne_eq, c34] at b3; exact b3), if_pos (by rw [bne_eq_false_iff_eq, c92] at b4; exact b4), app_data, extract_one s _ h2, bdrop s _ h2]
  simp only []
  rw [if_pos (by rw [c34, c92] at b5; exact b5)]
  rw [show a + 1 + k + 1 + 1 = a + 1 + (k + 2) by omega]
  cases quo (s.data.toList.drop (a + 1 + (k + 2))) <;> simp [Nat.add_assoc, Nat.add_comm 2]
theorem q_escn (h : QInv s a k ob q) (hlt : a + 1 + k < s.size) (b1 : 32 ≤ (s[a + 1 + k].toNat : Int)) (b2 : (s[a + 1 + k].toNat : Int) ≤ 126) (b3 : ((s[a + 1 + k].toNat : Int) == 34) = false) (b4 : ((s[a + 1 + k].toNat : Int) != 92) = false) (h2 : a + 1 + k + 1 < s.size)
    (b5 : (s[a + 1 + k + 1].toNat : Int) ≠ 34 ∧ (s[a + 1 + k + 1].toNat : Int) ≠ 92) (b6 : (s[a + 1 + k + 1].toNat : Int) = 110) : QInv s a (k + 2) (ob ++ ⟨#[10]⟩) q := by
  unfold QInv at *
  rw [h, bdrop s _ hlt, quo_cons, if_neg (by omega), if_neg (by rw [beq_eq_false_iff_ne, ne_eq, c34] at b3; exact b3), if_pos (by rw [bne_eq_false_iff_eq, c92] at b4; exact b4), app_data, bdrop s _ h2]
  simp only []
  rw [if_neg (by rw [ne_eq, ne_eq, c34, c92] at b5; rintro (e | e); exact b5.1 e; exact b5.2 e), if_pos (by rw [c110] at b6; exact b6)]
  rw [show a + 1 + k + 1 + 1 = a + 1 + (k + 2) by omega]
  cases quo (s.data.toList.drop (a + 1 + (k + 2))) <;> simp [Nat.add_assoc, Nat.add_comm 2]
theorem q_bad (h : QInv s a k ob q) (hlt : a + 1 + k < s.size) (b1 : 32 ≤ (s[a + 1 + k].toNat : Int)) (b2 : (s[a + 1 + k].toNat : Int) ≤ 126) (b3 : ((s[a + 1 + k].toNat : Int) == 34) = false) (b4 : ((s[a + 1 + k].toNat : Int) != 92) = false) (h2 : a + 1 + k + 1 < s.size)
    (b5 : (s[a + 1 + k + 1].toNat : Int) ≠ 34 ∧ (s[a + 1 + k + 1].toNat : Int) ≠ 92) (b6 : (s[a + 1 + k + 1].toNat : Int) ≠ 110) : q = none :=
  q_none h (by
    rw [bdrop s _ hlt, quo_cons, if_neg (by omega), if_neg (by rw [beq_eq_false_iff_ne, ne_eq, c34] at b3; exact b3), if_pos (by rw [bne_eq_false_iff_eq, c92] at b4; exact b4), bdrop s _ h2]
    simp only []
    rw [if_neg (by rw [ne_eq, ne_eq, c34, c92] at b5; rintro (e | e); exact b5.1 e; exact b5.2 e), if_neg (by rw [ne_eq, c110] at b6; exact b6)])
end
end Lode

/-
  READING A TEXT, as both programs do it, token by token, beside Lode's 'scan'; tokens in memory.
-/
namespace Go.Proofs.YthknlifmkjdoeaaGreatDoor
open Go.RowKit Lode Go.Shelf
/-! ### how wide a token is -/
theorem quo_wide : ∀ (m : Nat) (r : List UInt8), r.length ≤ m → ∀ t n, quo r = some (t, n) → 1 ≤ n ∧ n ≤ r.length ∧ t.length ≤ n - 1
  | 0, r, hm, t, n, h => by
    have : r = [] := List.eq_nil_of_length_eq_zero (by omega)
    subst this; simp [quo] at h
  | m + 1, [], _, t, n, h => by simp [quo] at h
  | m + 1, c :: r, hm, t, n, h => by
    simp only [List.length_cons] at hm
    unfold quo at h
    split at h
    · cases h
    · split at h
      · cases h; simp
      · split at h
        · cases r with
          | nil => cases h
          | cons d r' =>
            simp only [List.length_cons] at hm
            simp only at h
            split at h
            · cases hq : quo r' with
              | none => rw [hq] at h; cases h
              | some x =>
                rw [hq] at h; cases h
                have := quo_wide m r' (by omega) _ _ hq
                simp only [List.length_cons]; omega
            · split at h
              · cases hq : quo r' with
                | none => rw [hq] at h; cases h
                | some x =>
                  rw [hq] at h; cases h
                  have := quo_wide m r' (by omega) _ _ hq
                  simp only [List.length_cons]; omega
              · cases h
        · cases hq : quo r with
          | none => rw [hq] at h; cases h
          | some x =>
            rw [hq] at h; cases h
            have := quo_wide m r (by omega) _ _ hq
            simp only [List.length_cons]; omega
theorem quoted_wide {r : List UInt8} {t : List UInt8} {n : Nat} (h : Lode.quoted r = some (t, n)) : 2 ≤ n ∧ n ≤ r.length ∧ t.length ≤ 60 := by
  unfold Lode.quoted at h
  cases hq : quo (r.drop 1) with
  | none => rw [hq] at h; cases h
  | some x =>
    obtain ⟨t', n'⟩ := x
    rw [hq] at h
    simp only at h
    split at h
    · cases h
      have := quo_wide _ _ (Nat.le_refl _) _ _ hq
      simp only [List.length_drop] at this
      omega
    · cases h
theorem runLen_le' (p : UInt8 → Bool) : ∀ m : List UInt8, runLen p m ≤ m.length
  | [] => by simp [runLen]
  | d :: m => by simp only [runLen]; have := runLen_le' p m; split <;> simp; omega
theorem isPre_le : ∀ (g r : List UInt8), isPre g r = true → g.length ≤ r.length
  | [], _, _ => by simp
  | _ :: _, [], h => by simp [isPre] at h
  | a :: g, b :: r, h => by
    simp only [isPre, Bool.and_eq_true] at h
    have := isPre_le g r h.2
    simp; omega
theorem sign_pos : ∀ g, g ∈ signList → 1 ≤ g.length := by decide
theorem tok1_wide {r : List UInt8} {k : Nat} {t : List UInt8} {m : Nat} (h : tok1 r = some (k, t, m)) : 1 ≤ m ∧ m ≤ r.length ∧ 1 ≤ k ∧ k ≤ 6 := by
  cases r with
  | nil => cases h
  | cons c r =>
    simp only [tok1] at h
    have r1 := runLen_le' (fun c => small c || digit c) r
    have r2 := runLen_le' digit r
    split at h
    · split at h
      · cases h; refine ⟨by omega, by simp; omega, by split <;> simp, by split <;> simp⟩
      · cases h
    · split at h
      · split at h
        · cases h; refine ⟨by omega, by simp; omega, by omega, by omega⟩
        · cases h
      · split at h
        · split at h
          · rename_i hn
            cases h
            exact ⟨by omega, by simp; omega, by omega, by omega⟩
          · cases h
        · split at h
          · cases hq : Lode.quoted (c :: r) with
            | none => rw [hq] at h; cases h
            | some x =>
              rw [hq] at h; cases h
              have := quoted_wide hq
              exact ⟨by omega, this.2.1, by omega, by omega⟩
          · cases hg : signList.find? (fun g => isPre g (c :: r)) with
            | none => rw [hg] at h; cases h
            | some g =>
              rw [hg] at h; cases h
              have h1 := List.find?_some hg
              have h2 := List.mem_of_find?_eq_some hg
              have h3 := sign_pos _ h2
              exact ⟨h3, isPre_le _ _ h1, by omega, by omega⟩
/-! ### reading, step by step -/
def addPre (L : List Tok) (x : List Tok × Nat × Nat) : List Tok × Nat × Nat := if x.2.2 = 0 then (L ++ x.1, 0, 0) else ([], x.2)
theorem scan_norm (f n a : Nat) (r : List UInt8) : addPre [] (scan f n a r) = scan f n a r := by
  cases f with
  | zero => simp [scan, addPre]
  | succ f =>
    simp only [scan]
    split
    · simp [addPre]
    · split
      · simp [addPre]
      · split
        · simp [addPre]
        · generalize scan f (n + 1) _ _ = x
          by_cases hx : x.2.2 = 0 <;> simp [addPre, hx]
theorem addPre_next (L : List Tok) (t : Tok) (x : List Tok × Nat × Nat) : addPre L (if x.2.2 = 0 then (t :: x.1, 0, 0) else ([], x.2)) = addPre (L ++ [t]) x := by
  by_cases hx : x.2.2 = 0 <;> simp [addPre, hx]
/-- L has been read, and a is where the next token begins (or the end) -/
def RInv (s : List UInt8) (r : List Tok × Nat × Nat) (L : List Tok) (a : Nat) : Prop :=
  ∃ a' fuel, a = a' + gapLen false (s.drop a') ∧ s.length < fuel + a' ∧ a' ≤ s.length ∧ L.length ≤ 1200 ∧ r = addPre L (scan fuel L.length a' (s.drop a'))
theorem gapLen_le : ∀ (b : Bool) (m : List UInt8), gapLen b m ≤ m.length
  | _, [] => by simp [gapLen]
  | b, c :: m => by
    have h1 := gapLen_le false m
    have h2 := gapLen_le true m
    have h3 := gapLen_le b m
    simp only [gapLen, List.length_cons]
    split
    · omega
    · split
      · omega
      · split <;> omega
theorem RInv.le {s : List UInt8} {r : List Tok × Nat × Nat} {L : List Tok} {a : Nat} (h : RInv s r L a) : a ≤ s.length := by
  obtain ⟨a', f, e, _, h2, _⟩ := h
  have := gapLen_le false (s.drop a')
  simp at this; omega
theorem RInv.start {s : List UInt8} (h : (check s).2 = 0) : RInv s (Lode.read s) [] (gapLen false s) := by
  refine ⟨0, s.length + 1, by simp, by omega, by omega, by simp, ?_⟩
  simp only [List.length_nil, List.drop_zero, scan_norm, Lode.read, h, ne_eq, not_true, if_false]
theorem scan_at {s : List UInt8} {a' a f n : Nat} (e : a = a' + gapLen false (s.drop a')) (hf : s.length < f + a') (h : a' ≤ s.length) :
    ∃ g, f = g + 1 ∧ scan f n a' (s.drop a') = match s.drop a with
      | [] => ([], 0, 0)
      | r1 => match tok1 r1 with
        | none => ([], a, 4)
        | some (k, t, m) => if n = 1200 then ([], a, 5) else
          let x := scan g (n + 1) (a + m) (r1.drop m)
          if x.2.2 = 0 then (⟨k, t, (a : Nat)⟩ :: x.1, 0, 0) else ([], x.2) := by
  obtain ⟨g, rfl⟩ : ∃ g, f = g + 1 := ⟨f - 1, by omega⟩
  refine ⟨g, rfl, ?_⟩
  subst e
  simp only [scan, List.drop_drop]
  rfl
theorem RInv.done {s : List UInt8} {r : List Tok × Nat × Nat} {L : List Tok} {a : Nat} (h : RInv s r L a) (ha : s.length ≤ a) : r = (L, 0, 0) := by
  obtain ⟨a', f, e, h1, h2, _, h4⟩ := h
  obtain ⟨g, _, h5⟩ := scan_at (n := L.length) e h1 h2
  rw [h5, List.drop_eq_nil_of_le ha] at h4
  simpa [addPre] using h4
theorem drop_cons' {s : List UInt8} {a : Nat} (ha : a < s.length) : ∃ c r, s.drop a = c :: r := ⟨s[a], s.drop (a + 1), List.drop_eq_getElem_cons ha⟩
theorem RInv.bad {s : List UInt8} {r : List Tok × Nat × Nat} {L : List Tok} {a : Nat} (h : RInv s r L a) (ha : a < s.length) (ht : tok1 (s.drop a) = none) : r = ([], a, 4) := by
  obtain ⟨a', f, e, h1, h2, _, h4⟩ := h
  obtain ⟨g, _, h5⟩ := scan_at (n := L.length) e h1 h2
  obtain ⟨c, q, hq⟩ := drop_cons' ha
  rw [hq] at ht h5
  simp only [ht] at h5
  rw [h5] at h4
  simpa [addPre] using h4
theorem RInv.full {s : List UInt8} {r : List Tok × Nat × Nat} {L : List Tok} {a : Nat} (h : RInv s r L a) (ha : a < s.length) {x : Nat × List UInt8 × Nat} (ht : tok1 (s.drop a) = some x) (hL : L.length = 1200) : r = ([], a, 5) := by
  obtain ⟨a', f, e, h1, h2, _, h4⟩ := h
  obtain ⟨g, _, h5⟩ := scan_at (n := L.length) e h1 h2
  obtain ⟨c, q, hq⟩ := drop_cons' ha
  rw [hq] at ht h5
  simp only [ht, hL, if_true] at h5
  rw [hL, h5] at h4
  simpa [addPre] using h4
theorem RInv.next {s : List UInt8} {r : List Tok × Nat × Nat} {L : List Tok} {a : Nat} (h : RInv s r L a) (ha : a < s.length) {k : Nat} {t : List UInt8} {m : Nat} (ht : tok1 (s.drop a) = some (k, t, m)) (hL : L.length ≠ 1200) :
    RInv s r (L ++ [⟨k, t, (a : Nat)⟩]) (a + m + gapLen false (s.drop (a + m))) := by
  obtain ⟨a', f, e, h1, h2, h3, h4⟩ := h
  obtain ⟨g, hg, h5⟩ := scan_at (n := L.length) e h1 h2
  have hw := tok1_wide ht
  simp only [List.length_drop] at hw
  obtain ⟨c, q, hq⟩ := drop_cons' ha
  have hd : s.drop (a + m) = (s.drop a).drop m := by rw [List.drop_drop]
  refine ⟨a + m, g, rfl, by omega, by omega, by simp; omega, ?_⟩
  rw [hd, hq]
  rw [hq] at ht h5
  simp only [ht, hL, if_false] at h5
  rw [h4, h5, addPre_next]
  simp
/-! ### tokens in memory -/
def tokVals (t : Tok) : List Value := [.int .u8 t.kind, .string ⟨t.text.toArray⟩, .int .i64 t.at_]
def tokCells (l : List Tok) : List Value := l.flatMap tokVals
def Toks (w : World) (base : Nat) (v : Value) (l : List Tok) : Prop := w.ownsRow base 46 3 v l.length (tokCells l)
theorem tokCells_length (l : List Tok) : (tokCells l).length = l.length * 3 := by
  induction l with
  | nil => rfl
  | cons t l ih => simp only [tokCells, List.flatMap_cons, List.length_append] at *; rw [ih]; simp [tokVals]; omega
theorem Toks.below {w w' : World} {b : Nat} {v : Value} {l : List Tok} (h : Toks w b v l) (hb : Below w.heap.size w w') : Toks w' b v l :=
  World.ownsRow.kept (row := none) h ⟨hb.os, hb.tape, hb.output, hb.size, fun k hk _ => hb.block k hk⟩ (by cases v.ownBlock <;> simp)
theorem below_grown {w0 W W' : World} {v : Value} {e : TypeId} {n m : Nat} {xs : List Value} (h : Below w0.heap.size w0 W) (ho : W.ownsRow w0.heap.size e n v m xs) (hg : W.grownBy W' v.ownBlock) : Below w0.heap.size w0 W' :=
  ⟨hg.os.trans h.os, hg.tape.trans h.tape, hg.output.trans h.output, Nat.le_trans h.size hg.size, fun k hk => (hg.block k (Nat.lt_of_lt_of_le hk h.size) (fun e => by have := (ho.lt k e.symm).1; omega)).trans (h.block k hk)⟩
theorem Toks.snoc {w : World} {b : Nat} {v : Value} {l : List Tok} {t : Tok} (h : w.ownsRow b 46 3 v (l.length + 1) (tokCells l ++ tokVals t)) : Toks w b v (l ++ [t]) := by
  unfold Toks
  rw [List.length_append]
  simpa [tokCells] using h
end Go.Proofs.YthknlifmkjdoeaaGreatDoor

/-
  TOKENS ONE AFTER ANOTHER (plain laws).
-/
namespace Go.Proofs.YthknlifmkjdoeaaGreatDoor
open Go.RowKit Lode Go.Shelf
/-- pre are the tokens read, and k is where the next begins (or the end) -/
inductive AtP (s : List UInt8) : List Tok → Nat → Prop
  | start : AtP s [] (gapLen false s)
  | next {pre : List Tok} {k kk m : Nat} {t : List UInt8} : AtP s pre k → k < s.length → tok1 (s.drop k) = some (kk, t, m) → AtP s (pre ++ [⟨kk, t, (k : Nat)⟩]) (k + m + gapLen false (s.drop (k + m)))
theorem AtP.le {s : List UInt8} {L : List Tok} {k : Nat} (h : AtP s L k) : k ≤ s.length := by
  cases h with
  | start => have := gapLen_le false s; omega
  | @next pre k0 kk m t h1 h2 h3 =>
    have := tok1_wide h3
    have h5 := gapLen_le false (s.drop (k0 + m))
    simp only [List.length_drop] at this h5
    omega
theorem AtP.rinv {s : List UInt8} {L : List Tok} {k : Nat} (hc : (check s).2 = 0) (h : AtP s L k) : L.length ≤ 1200 → RInv s (Lode.read s) L k := by
  induction h with
  | start => intro _; exact RInv.start hc
  | next h1 h2 h3 ih =>
    intro hl
    simp only [List.length_append, List.length_cons, List.length_nil] at hl
    exact (ih (by omega)).next h2 h3 (by omega)
theorem AtP.kinds {s : List UInt8} {L : List Tok} {k : Nat} (h : AtP s L k) : ∀ t ∈ L, 1 ≤ t.kind := by
  induction h with
  | start => intro t ht; cases ht
  | next h1 h2 h3 ih =>
    intro t ht
    rcases List.mem_append.1 ht with h | h
    · exact ih t h
    · rw [List.mem_singleton] at h; subst h; exact (tok1_wide h3).2.2.1
/-- what the iterator hands over behind pre -/
def GTok (s : List UInt8) (pre : List Tok) (x : Tok) : Prop := ∃ k, AtP s pre k ∧ k < s.length ∧ ((tok1 (s.drop k) = none ∧ x = ⟨0, [], (k : Nat)⟩) ∨ ∃ kk t m, tok1 (s.drop k) = some (kk, t, m) ∧ x = ⟨kk, t, (k : Nat)⟩)
/-- all that it hands over -/
def STok (s : List UInt8) (xs : List Tok) : Prop := (∃ k, AtP s xs k ∧ s.length ≤ k) ∨ ∃ pre k, xs = pre ++ [⟨0, [], (k : Nat)⟩]
abbrev tokV (t : Tok) : Value := .agg #[.int .u8 t.kind, .string ⟨t.text.toArray⟩, .int .i64 t.at_]
end Go.Proofs.YthknlifmkjdoeaaGreatDoor
