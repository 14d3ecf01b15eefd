/-
  STEP LAWS FOR THE READERS OF QUOTED TEXTS, in the walk's own forms.
-/
import Derived.Test.YthknlifmkjdoeaaGreatDoorBase
namespace Lode
open Go Go.RowKit
theorem ceq (c : UInt8) (n : Nat) (hn : n < 256) : (((c.toNat : Int)) = n) = (c = UInt8.ofNat n) := by
  rw [← byte_eq c n hn]; simp only [eq_iff_iff]; omega
theorem c34 (c : UInt8) : ((c.toNat : Int) = 34) = (c = 34) := ceq c 34 (by omega)
theorem c92 (c : UInt8) : ((c.toNat : Int) = 92) = (c = 92) := ceq c 92 (by omega)
theorem c110 (c : UInt8) : ((c.toNat : Int) = 110) = (c = 110) := ceq c 110 (by omega)
theorem c10 (c : UInt8) : ((c.toNat : Int) = 10) = (c = 10) := ceq c 10 (by omega)
theorem extract_one (s : ByteArray) (i : Nat) (h : i < s.size) : (s.extract i (i + 1)).data.toList = [s[i]] := by
  have := bdrop s i h
  simp only [ByteArray.data_extract, Array.toList_extract, List.extract_eq_take_drop]
  rw [this]; simp
theorem app_data (a b : ByteArray) : (a ++ b).data.toList = a.data.toList ++ b.data.toList := by simp
theorem quo_cons (c : UInt8) (r : List UInt8) : quo (c :: r) = if c.toNat < 32 ∨ 126 < c.toNat then none else if c = 34 then some ([], 1) else if c = 92 then
      (match r with
      | [] => none
      | d :: r' => if d = 34 ∨ d = 92 then (quo r').map fun x => (d :: x.1, x.2 + 2) else if d = 110 then (quo r').map fun x => (10 :: x.1, x.2 + 2) else none)
    else (quo r).map fun x => (c :: x.1, x.2 + 1) := by
  rw [quo.eq_def]
  rfl
def qfin : Option (List UInt8 × Nat) → Option (List UInt8 × Nat)
  | some (t, n) => if t.length ≤ 60 then some (t, n + 1) else none
  | none => none
theorem quoted_eq (s : List UInt8) : quoted s = qfin (quo (s.drop 1)) := by
  unfold quoted qfin
  cases quo (s.drop 1) <;> rfl
/-- how a reader of quoted texts answers -/
def QRes (q : Option (List UInt8 × Nat)) (n : Int) (t : ByteArray) (ok : Bool) : Prop :=
  match q with
  | some (t', n') => ok = true ∧ n = n' ∧ t = ⟨t'.toArray⟩
  | none => ok = false
/-- k bytes behind the opening quote at a have been read as ob -/
def QInv (s : ByteArray) (a k : Nat) (ob : ByteArray) (q : Option (List UInt8 × Nat)) : Prop :=
  q = qfin ((quo (s.data.toList.drop (a + 1 + k))).map fun x => (ob.data.toList ++ x.1, k + x.2))
theorem QInv.start (s : ByteArray) (a : Nat) : QInv s a 0 ByteArray.empty (quoted (s.data.toList.drop a)) := by
  unfold QInv
  rw [quoted_eq, List.drop_drop]
  cases quo (s.data.toList.drop (a + 1)) <;> simp
section
variable {s : ByteArray} {a k : Nat} {ob : ByteArray} {q : Option (List UInt8 × Nat)}
theorem q_none (h : QInv s a k ob q) (e : quo (s.data.toList.drop (a + 1 + k)) = none) : q = none := by
  unfold QInv at h; rw [e] at h; exact h
theorem q_out (h : QInv s a k ob q) (he : s.size ≤ a + 1 + k) : q = none := q_none h (by rw [bdrop_end s _ he]; rfl)
theorem q_low (h : QInv s a k ob q) (hlt : a + 1 + k < s.size) (b : (s[a + 1 + k].toNat : Int) < 32) : q = none := q_none h (by rw [bdrop s _ hlt, quo_cons, if_pos (by omega)])
theorem q_high (h : QInv s a k ob q) (hlt : a + 1 + k < s.size) (b : 126 < (s[a + 1 + k].toNat : Int)) : q = none := q_none h (by rw [bdrop s _ hlt, quo_cons, if_pos (by omega)])
theorem q_close (h : QInv s a k ob q) (hlt : a + 1 + k < s.size) (b1 : 32 ≤ (s[a + 1 + k].toNat : Int)) (b2 : (s[a + 1 + k].toNat : Int) ≤ 126) (b3 : ((s[a + 1 + k].toNat : Int) == 34) = true) (n : Int) (hn : n = k + 2) :
    QRes q n ob (decide ((ob.size : Int) ≤ 60)) := by
  have e : quo (s.data.toList.drop (a + 1 + k)) = some ([], 1) := by
    rw [bdrop s _ hlt, quo_cons, if_neg (by omega), if_pos (by rw [beq_iff_eq, c34] at b3; exact b3)]
  unfold QInv at h
  rw [e] at h
  simp only [Option.map_some, qfin, List.append_nil] at h
  subst h
  by_cases hl : ob.size ≤ 60
  · rw [if_pos (by simpa using hl)]
    exact ⟨by simp; omega, by omega, rfl⟩
  · rw [if_neg (by simpa using hl)]
    show _ = _
    simp; omega
theorem q_plain (h : QInv s a k ob q) (hlt : a + 1 + k < s.size) (b1 : 32 ≤ (s[a + 1 + k].toNat : Int)) (b2 : (s[a + 1 + k].toNat : Int) ≤ 126) (b3 : ((s[a + 1 + k].toNat : Int) == 34) = false) (b4 : ((s[a + 1 + k].toNat : Int) != 92) = true) :
    QInv s a (k + 1) (ob ++ s.extract (a + 1 + k) (a + 1 + k + 1)) q := by
  unfold QInv at *
  rw [h, bdrop s _ hlt, quo_cons, if_neg (by omega), if_neg (by rw [beq_eq_false_iff_ne, ne_eq, c34] at b3; exact b3), if_neg (by rw [bne_iff_ne, ne_eq, c92] at b4; exact b4), app_data, extract_one s _ hlt]
  cases quo (s.data.toList.drop (a + 1 + k + 1)) <;> simp [Nat.add_assoc, Nat.add_comm 1, Option.map]
theorem q_esc_end (h : QInv s a k ob q) (hlt : a + 1 + k < s.size) (b1 : 32 ≤ (s[a + 1 + k].toNat : Int)) (b2 : (s[a + 1 + k].toNat : Int) ≤ 126) (b3 : ((s[a + 1 + k].toNat : Int) == 34) = false) (b4 : ((s[a + 1 + k].toNat : Int) != 92) = false) (he : s.size ≤ a + 1 + k + 1) : q = none :=
  q_none h (by
    rw [bdrop s _ hlt, quo_cons, if_neg (by omega), if_neg (by rw [beq_eq_false_iff_ne, ne_eq, c34] at b3; exact b3), if_pos (by rw [bne_eq_false_iff_eq, c92] at b4; exact b4), bdrop_end s _ he])
theorem q_esc (h : QInv s a k ob q) (hlt : a + 1 + k < s.size) (b1 : 32 ≤ (s[a + 1 + k].toNat : Int)) (b2 : (s[a + 1 + k].toNat : Int) ≤ 126) (b3 : ((s[a + 1 + k].toNat : Int) == 34) = false) (b4 : ((s[a + 1 + k].toNat : Int) != 92) = false) (h2 : a + 1 + k + 1 < s.size)
    (b5 : (s[a + 1 + k + 1].toNat : Int) = 34 ∨ (s[a + 1 + k + 1].toNat : Int) = 92) : QInv s a (k + 2) (ob ++ s.extract (a + 1 + k + 1) (a + 1 + k + 1 + 1)) q := by
  unfold QInv at *
  rw [h, bdrop s _ hlt, quo_cons, if_neg (by omega), if_neg (by rw [beq_eq_false_iff_ne, ne_eq, c34] at b3; exact b3), if_pos (by rw [bne_eq_false_iff_eq, c92] at b4; exact b4), app_data, extract_one s _ h2, bdrop s _ h2]
  simp only []
  rw [if_pos (by rw [c34, c92] at b5; exact b5)]
  rw [show a + 1 + k + 1 + 1 = a + 1 + (k + 2) by omega]
  cases quo (s.data.toList.drop (a + 1 + (k + 2))) <;> simp [Nat.add_assoc, Nat.add_comm 2]
theorem q_escn (h : QInv s a k ob q) (hlt : a + 1 + k < s.size) (b1 : 32 ≤ (s[a + 1 + k].toNat : Int)) (b2 : (s[a + 1 + k].toNat : Int) ≤ 126) (b3 : ((s[a + 1 + k].toNat : Int) == 34) = false) (b4 : ((s[a + 1 + k].toNat : Int) != 92) = false) (h2 : a + 1 + k + 1 < s.size)
    (b5 : (s[a + 1 + k + 1].toNat : Int) ≠ 34 ∧ (s[a + 1 + k + 1].toNat : Int) ≠ 92) (b6 : (s[a + 1 + k + 1].toNat : Int) = 110) : QInv s a (k + 2) (ob ++ ⟨#[10]⟩) q := by
  unfold QInv at *
  rw [h, bdrop s _ hlt, quo_cons, if_neg (by omega), if_neg (by rw [beq_eq_false_iff_ne, ne_eq, c34] at b3; exact b3), if_pos (by rw [bne_eq_false_iff_eq, c92] at b4; exact b4), app_data, bdrop s _ h2]
  simp only []
  rw [if_neg (by rw [ne_eq, ne_eq, c34, c92] at b5; rintro (e | e); exact b5.1 e; exact b5.2 e), if_pos (by rw [c110] at b6; exact b6)]
  rw [show a + 1 + k + 1 + 1 = a + 1 + (k + 2) by omega]
  cases quo (s.data.toList.drop (a + 1 + (k + 2))) <;> simp [Nat.add_assoc, Nat.add_comm 2]
theorem q_bad (h : QInv s a k ob q) (hlt : a + 1 + k < s.size) (b1 : 32 ≤ (s[a + 1 + k].toNat : Int)) (b2 : (s[a + 1 + k].toNat : Int) ≤ 126) (b3 : ((s[a + 1 + k].toNat : Int) == 34) = false) (b4 : ((s[a + 1 + k].toNat : Int) != 92) = false) (h2 : a + 1 + k + 1 < s.size)
    (b5 : (s[a + 1 + k + 1].toNat : Int) ≠ 34 ∧ (s[a + 1 + k + 1].toNat : Int) ≠ 92) (b6 : (s[a + 1 + k + 1].toNat : Int) ≠ 110) : q = none :=
  q_none h (by
    rw [bdrop s _ hlt, quo_cons, if_neg (by omega), if_neg (by rw [beq_eq_false_iff_ne, ne_eq, c34] at b3; exact b3), if_pos (by rw [bne_eq_false_iff_eq, c92] at b4; exact b4), bdrop s _ h2]
    simp only []
    rw [if_neg (by rw [ne_eq, ne_eq, c34, c92] at b5; rintro (e | e); exact b5.1 e; exact b5.2 e), if_neg (by rw [ne_eq, c110] at b6; exact b6)])
end
end Lode
