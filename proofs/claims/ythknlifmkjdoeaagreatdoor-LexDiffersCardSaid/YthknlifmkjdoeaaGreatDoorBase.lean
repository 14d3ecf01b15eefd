/-
  WHAT THE WALKS SHARE: facts kept from the walk, function values on bytes, cells of bytes. Nothing here names a function of the program.
-/
import Derived.WalkKit
import Derived.WalkLawsBesides
import Derived.WalkSpells
import Derived.Lib.ConvBytes
import Derived.Shelf.Abstract
import Derived.Deep.RegionWith
import Derived.Deep.Light
import Derived.Deep.QuietTactic
import Derived.BigQuiet
import Derived.Test.YthknlifmkjdoeaaGreatDoorSpec
namespace Lode
open Go Go.RowKit
theorem hid {p : Prop} (h : p) : Hid p := h
/-- a function value on bytes that answers p, and turns nothing -/
structure PredB (P : Program) (g : Nat) (lb : Array Value) (p : UInt8 → Bool) (w : World) : Prop where
  eg : ∀ args w, (callFunc g args).run P w = .ok (.enter g args) w
  calls : ∀ (W : World) (c : UInt8), Below w.heap.size w W → Calls P g (#[.int .u8 (c.toNat : Int)] ++ lb) W fun e W' => e = .returned (.bool (p c)) ∧ Below W.heap.size W W'
theorem findIx_drop (p : UInt8 → Bool) : ∀ (l : List UInt8) (k : Nat), (∀ j, j < k → p (l.getD j 0) = false) → k ≤ l.length → findIx p l = (findIx p (l.drop k)).map (· + k)
  | l, 0, _, _ => by simp
  | [], k + 1, _, h => by simp at h
  | c :: r, k + 1, h, hk => by
    have h0 : p c = false := h 0 (by omega)
    have := findIx_drop p r k (fun j hj => h (j + 1) (by omega)) (by simpa using hk)
    simp only [findIx, h0, List.drop_succ_cons, Bool.false_eq_true, if_false]
    rw [this]
    simp [Option.map_map, Function.comp_def]; rfl
theorem below_then {w w1 w2 : World} (h : Below w.heap.size w w1) (k : Below w1.heap.size w1 w2) : Below w.heap.size w w2 := h.trans (k.mono h.size)
theorem below_alloc (w : World) (o : Obj) : Below w.heap.size w (w.alloc o) := (Below.refl _ _).alloc (Nat.le_refl _) _
theorem below_bytes (w : World) (e : TypeId) (s : ByteArray) : Below w.heap.size w (Lib.bytesWorld w e s) :=
  ⟨rfl, rfl, rfl, by rw [Lib.bytesWorld_size]; omega, fun k hk => Lib.bytesWorld_at_old w e s k hk⟩
theorem u8_nat (c : UInt8) : c.toNat < 256 := c.toNat_lt
theorem byte_eq (c : UInt8) (n : Nat) (h : n < 256) : (c.toNat = n) = (c = UInt8.ofNat n) := by
  rw [eq_iff_iff]
  constructor
  · intro e; subst e; simp
  · intro e; subst e; simp; omega
theorem bget (s : ByteArray) (k : Nat) (h : k < s.size) : s.data.toList.getD k 0 = s[k] := by
  have h' : k < s.data.toList.length := by simpa using h
  simp [List.getD, h]; rfl
theorem bdrop (s : ByteArray) (k : Nat) (h : k < s.size) : s.data.toList.drop k = s[k] :: s.data.toList.drop (k + 1) := by
  have h' : k < s.data.toList.length := by simpa using h
  rw [List.drop_eq_getElem_cons h']
  simp; rfl
theorem bdrop_end (s : ByteArray) (k : Nat) (h : s.size ≤ k) : s.data.toList.drop k = [] := by
  simp; exact h
theorem isB_iff (c : UInt8) : isB c = true ↔ ((32 ≤ (c.toNat : Int) ∧ (c.toNat : Int) ≤ 126) ∨ (c.toNat : Int) = 10) := by
  unfold isB; simp; omega
theorem isB_no (c : UInt8) : isB c = false ↔ (((c.toNat : Int) < 32 ∨ 126 < (c.toNat : Int)) ∧ (c.toNat : Int) ≠ 10) := by
  rw [← Bool.not_eq_true, isB_iff]; omega
theorem check_at (s : ByteArray) (k : Nat) (h : ¬ 3000 < s.size) (hall : ∀ j, j < k → (!isB (s.data.toList.getD j 0)) = false) (hlt : k < s.size) (hb : isB s[k] = false) : check s.data.toList = (k, 4) := by
  unfold check
  rw [if_neg (by simpa using h), findIx_drop _ _ k hall (by simpa using (Nat.le_of_lt hlt)), bdrop s k hlt]
  simp [findIx, hb]
theorem check_end (s : ByteArray) (h : ¬ 3000 < s.size) (hall : ∀ j, j < s.size → (!isB (s.data.toList.getD j 0)) = false) : check s.data.toList = (0, 0) := by
  unfold check
  rw [if_neg (by simpa using h), findIx_drop _ _ s.size hall (by simp), bdrop_end s s.size (Nat.le_refl _)]
  rfl
theorem upto_succ (s : ByteArray) (p : UInt8 → Bool) (b : Bool) (a k : Nat) (hall : ∀ j, j < k → p (s.data.toList.getD (a + j) 0) = b) (hlt : a + k < s.size) (hk : p s[a + k] = b) : ∀ j, j < k + 1 → p (s.data.toList.getD (a + j) 0) = b := by
  intro j hj
  by_cases e : j = k
  · subst e; rw [bget s _ hlt]; exact hk
  · exact hall j (by omega)
theorem upto_succ0 (s : ByteArray) (p : UInt8 → Bool) (b : Bool) (k : Nat) (hall : ∀ j, j < k → p (s.data.toList.getD j 0) = b) (hlt : k < s.size) (hk : p s[k] = b) : ∀ j, j < k + 1 → p (s.data.toList.getD j 0) = b := by
  intro j hj
  by_cases e : j = k
  · subst e; rw [bget s _ hlt]; exact hk
  · exact hall j (by omega)
theorem runLen_at (s : ByteArray) (p : UInt8 → Bool) (a : Nat) : ∀ (k : Nat), (∀ j, j < k → p (s.data.toList.getD (a + j) 0) = true) → a + k ≤ s.size → runLen p (s.data.toList.drop a) = k + runLen p (s.data.toList.drop (a + k))
  | 0, _, _ => by simp
  | k + 1, h, hk => by
    have h1 := runLen_at s p a k (fun j hj => h j (by omega)) (by omega)
    have h2 := h k (by omega)
    have hlt : a + k < s.size := by omega
    rw [bget s _ hlt] at h2
    rw [h1, bdrop s (a + k) hlt]
    simp [runLen, h2]
    rw [Nat.add_assoc]; omega
theorem gapLen_at (c : UInt8) (cm : Bool) (r : List UInt8) : gapLen cm (c :: r) = if (c.toNat : Int) = 10 then gapLen false r + 1 else if (c.toNat : Int) = 35 then gapLen true r + 1 else if (c.toNat : Int) = 32 ∨ cm = true then gapLen cm r + 1 else 0 := by
  have e1 : (c = 10) = ((c.toNat : Int) = 10) := by rw [show ((c.toNat : Int) = 10) = (c.toNat = 10) from by simp; omega, byte_eq c 10 (by omega)]; rfl
  have e2 : (c = 35) = ((c.toNat : Int) = 35) := by rw [show ((c.toNat : Int) = 35) = (c.toNat = 35) from by simp; omega, byte_eq c 35 (by omega)]; rfl
  have e3 : (c = 32) = ((c.toNat : Int) = 32) := by rw [show ((c.toNat : Int) = 32) = (c.toNat = 32) from by simp; omega, byte_eq c 32 (by omega)]; rfl
  simp only [gapLen, e1, e2, e3]
section
variable {n k : Nat} {cm : Bool} {c : UInt8} {r : List UInt8}
theorem gap_nl (h : n = k + gapLen cm (c :: r)) (a : ((c.toNat : Int) == 10) = true) : n = (k + 1) + gapLen false r := by rw [gapLen_at, if_pos (by simpa using a)] at h; omega
theorem gap_hash (h : n = k + gapLen cm (c :: r)) (a : ((c.toNat : Int) == 10) = false) (b : ((c.toNat : Int) == 35) = true) : n = (k + 1) + gapLen true r := by rw [gapLen_at, if_neg (by simpa using a), if_pos (by simpa using b)] at h; omega
theorem gap_blank (h : n = k + gapLen cm (c :: r)) (a : ((c.toNat : Int) == 10) = false) (b : ((c.toNat : Int) == 35) = false) (d : (c.toNat : Int) = 32) : n = (k + 1) + gapLen cm r := by
  rw [gapLen_at, if_neg (by simpa using a), if_neg (by simpa using b), if_pos (.inl d)] at h; omega
theorem gap_in (h : n = k + gapLen cm (c :: r)) (a : ((c.toNat : Int) == 10) = false) (b : ((c.toNat : Int) == 35) = false) (d : ((c.toNat : Int) != 32) = false ∨ (!cm) = false) : n = (k + 1) + gapLen cm r := by
  rw [gapLen_at, if_neg (by simpa using a), if_neg (by simpa using b), if_pos (by simpa using d)] at h; omega
theorem gap_end (h : n = k + gapLen cm (c :: r)) (a : ((c.toNat : Int) == 10) = false) (b : ((c.toNat : Int) == 35) = false) (d : ((c.toNat : Int) != 32) = true ∧ (!cm) = true) : n = k := by
  rw [gapLen_at, if_neg (by simpa using a), if_neg (by simpa using b), if_neg (by simpa using d)] at h; omega
end
theorem bhead (s : ByteArray) (h : 0 < s.size) (n : Nat) (hn : n < 256) : (s.data.toList.head? == some (UInt8.ofNat n)) = ((s[0].toNat : Int) == n) := by
  have := bdrop s 0 h
  rw [List.drop_zero] at this
  rw [this, Bool.eq_iff_iff]
  simp only [List.head?_cons, Option.some_beq_some, beq_iff_eq]
  rw [← byte_eq _ n hn]; omega
theorem bhead' (s : ByteArray) (n : Nat) (hn : n < 256) : (s.data.toList.head? == some (UInt8.ofNat n)) = if h : 0 < s.size then ((s[0].toNat : Int) == n) else false := by
  split
  · exact bhead s ‹_› n hn
  · have := bdrop_end s 0 (by omega); rw [List.drop_zero] at this; rw [this]; rfl
end Lode
