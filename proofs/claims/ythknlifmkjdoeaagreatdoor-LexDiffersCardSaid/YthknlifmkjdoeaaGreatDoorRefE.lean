/-
  THE REFERENCE'S First.
-/
import Derived.Test.YthknlifmkjdoeaaGreatDoorRefD
namespace Go.Proofs.YthknlifmkjdoeaaGreatDoor
open Go.RowKit Lode Go.Shelf
theorem rrun_at (s : ByteArray) (x : Int) (a : Nat) (lt : Bool) (w : World) (hx : x = a) (hs : s.size ≤ 1000000000000) (ha : a ≤ s.size) :
    Calls Tryz.prog 89 #[.string s, .int .i64 x, .bool lt] w fun e w' => e = .returned (.int .i64 (runLen (fun c => digit c || (lt && small c)) (s.data.toList.drop a))) ∧ w = w' := by
  subst hx; exact rrun_any s a lt w hs ha
def TRes (q : Option (Nat × List UInt8 × Nat)) (a : Int) (k : Int) (t : ByteArray) (a' n : Int) (ok : Bool) : Prop :=
  match q with
  | some (k', t', n') => ok = true ∧ k = k' ∧ t = ⟨t'.toArray⟩ ∧ a' = a ∧ n = n'
  | none => ok = false
def RFPost (q : Option (Nat × List UInt8 × Nat)) (a : Nat) (w : World) (e : Ending) (w' : World) : Prop :=
  ∃ k t a' n ok, e = .returned (.tuple #[.agg #[.int .u8 k, .string t, .int .i64 a'], .int .i64 n, .bool ok]) ∧ TRes q a k t a' n ok ∧ Below w.heap.size w w'
theorem runLen_le (p : UInt8 → Bool) : ∀ m : List UInt8, runLen p m ≤ m.length
  | [] => by simp [runLen]
  | d :: m => by simp only [runLen]; have := runLen_le p m; split <;> simp; omega
theorem strs_cell (V : World) (l : List (List UInt8)) (T : TypeId) (j : Nat) (hj : j < l.length) : (V.alloc (.cells (strs l) T)).cell? ⟨V.heap.size, j, none⟩ = some (.string ⟨(l[j]?.getD []).toArray⟩) := by
  simp [strs, hj]
theorem strs_cell' (V : World) (l : List (List UInt8)) (T : TypeId) (b : Nat) (hb : b = V.heap.size) (j : Nat) (hj : j < l.length) : (V.alloc (.cells (strs l) T)).drew.cell? ⟨b, j, none⟩ = some (.string ⟨(l[j]?.getD []).toArray⟩) := by
  subst hb; simp [strs, hj]
theorem extract_data (s : ByteArray) (a n : Nat) : (s.extract a (a + n)).data.toList = (s.data.toList.drop a).take n := by
  simp [List.extract_eq_take_drop]
theorem ba_eta (s : ByteArray) : s = ⟨s.data.toList.toArray⟩ := by simp
theorem tok1_small (s : ByteArray) (a m : Nat) (ha : a < s.size) (h1 : small s[a] = true) (hm : runLen (fun c => digit c || (true && small c)) (s.data.toList.drop (a + 1)) = m) :
    tok1 (s.data.toList.drop a) = if 1 + m ≤ 12 then some (if wordList.contains (s.extract a (a + (1 + m))).data.toList then 5 else 1, (s.extract a (a + (1 + m))).data.toList, 1 + m) else none := by
  have e : (fun c => digit c || (true && small c)) = (fun c => small c || digit c) := by funext c; simp [Bool.or_comm]
  rw [e] at hm
  rw [extract_data, bdrop s a ha]
  simp only [tok1, h1, if_true, hm]
theorem bl_alloc {w w1 : World} (h : Below w.heap.size w w1) (o : Obj) : Below w.heap.size w (w1.alloc o) := h.alloc h.size o
theorem tres_small {s : ByteArray} {a m k : Nat} {q : Option (Nat × List UInt8 × Nat)} (hq : q = if 1 + m ≤ 12 then some (k, (s.extract a (a + (1 + m))).data.toList, 1 + m) else none) :
    TRes q a k (s.extract a (a + (1 + m))) a (1 + (m : Int)) (decide (1 + (m : Int) ≤ 12)) := by
  subst hq
  by_cases h : 1 + m ≤ 12
  · rw [if_pos h]; exact ⟨by simp; omega, rfl, ba_eta _, rfl, by omega⟩
  · rw [if_neg h]; show _ = _; simp; omega
set_option maxRecDepth 100000 in
theorem rfirst_small (s : ByteArray) (a : Nat) (w : World) (hs : s.size ≤ 1000000000000) (ha : a < s.size) (h1 : small s[a] = true) :
    Calls Tryz.prog 54 #[.string s, .int .i64 a] w (RFPost (tok1 (s.data.toList.drop a)) a w) := by
  have h2 : big s[a] = false := by simp [small] at h1; simp [big]; omega
  have hc : (0 : Int) ≤ (s[a].toNat : Int) := by omega
  obtain ⟨m, hm, hmb⟩ : ∃ m, runLen (fun c => digit c || (true && small c)) (s.data.toList.drop (a + 1)) = m ∧ a + 1 + m ≤ s.size := ⟨_, rfl, by
    have := runLen_le (fun c => digit c || (true && small c)) (s.data.toList.drop (a + 1)); simp at this ⊢; omega⟩
  have Hrun := hid (show ∀ w, Calls Tryz.prog 89 #[.string s, .int .i64 ((a : Int) + 1), .bool true] w fun e w' => e = .returned (.int .i64 m) ∧ w = w' from fun w => hm ▸ rrun_at s _ (a + 1) true _ (by omega) hs (by omega))
  have Hm := hid hm; clear hm
  generalize hq : tok1 (s.data.toList.drop a) = q at *
  have Hq := hid hq; clear hq
  go_enter Tryz.func54, Tryz.ntmps54
  go_wp2_with (first
    | (go_at_call 87; refine (rsmall_any _ _).mono ?_; rintro e w' ⟨rfl, rfl⟩; rw [h1])
    | (go_at_call 88; refine (rbig_any _ _).mono ?_; rintro e w' ⟨rfl, rfl⟩; rw [h2])
    | (go_at_call 89; refine (Hrun.out _).mono ?_; rintro e w' ⟨rfl, rfl⟩))
  go_region_with (first
    | (go_at_call 91; refine (rwords_any _).mono ?_; rintro e w' ⟨rfl, rfl⟩)
    | (go_at_call 90; refine (rin_any _ 44 44 wordList _ _ rfl (by decide) (fun j hj => strs_cell' _ _ _ _ (by simp) j hj)).mono ?_; rintro e w' ⟨rfl, rfl⟩))
  all_goals
    go_wp2_with fail
  all_goals
    first
      | (have hw : List.take (1 + m) (List.drop a s.data.toList) ∈ wordList := by assumption
         refine bodyPost_ret (v := .tuple #[.agg #[.int .u8 5, .string (s.extract a (a + (1 + m))), .int .i64 a], .int .i64 (1 + m), .bool (decide (1 + (m : Int) ≤ 12))]) (by simp [results, Tryz.results54, go_sem]) rfl ?_
         refine ⟨_, _, _, _, _, rfl, ?_, ?_⟩
         · exact tres_small (k := 5) (by rw [← Hq.out, tok1_small s a m ha h1 Hm.out, extract_data]; simp [hw])
         · repeat (first | exact Below.refl _ _ | apply Below.drew | apply bl_alloc))
      | (have hw : ¬ List.take (1 + m) (List.drop a s.data.toList) ∈ wordList := by assumption
         refine bodyPost_ret (v := .tuple #[.agg #[.int .u8 1, .string (s.extract a (a + (1 + m))), .int .i64 a], .int .i64 (1 + m), .bool (decide (1 + (m : Int) ≤ 12))]) (by simp [results, Tryz.results54, go_sem]) rfl ?_
         refine ⟨_, _, _, _, _, rfl, ?_, ?_⟩
         · exact tres_small (k := 1) (by rw [← Hq.out, tok1_small s a m ha h1 Hm.out, extract_data]; simp [hw])
         · repeat (first | exact Below.refl _ _ | apply Below.drew | apply bl_alloc))
end Go.Proofs.YthknlifmkjdoeaaGreatDoor
