/-
  THE REFERENCE'S Quoted.
-/
import Derived.Test.YthknlifmkjdoeaaGreatDoorRefA
import Derived.Test.YthknlifmkjdoeaaGreatDoorBase
namespace Go.Proofs.YthknlifmkjdoeaaGreatDoor
open Go.RowKit Lode Go.Shelf
def RQPost (q : Option (List UInt8 × Nat)) (w : World) (e : Ending) (w' : World) : Prop :=
  ∃ n t ok, e = .returned (.tuple #[.int .i64 n, .string t, .bool ok]) ∧ QRes q n t ok ∧ w = w'
set_option maxRecDepth 100000 in
theorem rquoted_any (s : ByteArray) (a : Nat) (w : World) (hs : s.size ≤ 1000000000000) (ha : a < s.size) :
    Calls Tryz.prog 61 #[.string s, .int .i64 a] w (RQPost (Lode.quoted (s.data.toList.drop a)) w) := by
  have Hq := QInv.start s a
  generalize Lode.quoted (s.data.toList.drop a) = q at *
  go_enter Tryz.func61, Tryz.ntmps61
  go_wp2_with fail
  go_loop [7, 8] (fun s7 s8 => ∃ (k : Nat) (ob : ByteArray), a + 1 + k ≤ s.size + 1 ∧ s8 = .int .i64 ((a + 1 + k : Nat) : Int) ∧ s7 = .string ob ∧ ob.size ≤ k ∧ QInv s a k ob q) (fun _ s8 => s.size + 1 - (intOf s8).toNat)
  case atStart => exact ⟨0, _, by omega, by go_num, rfl, by decide, Hq⟩
  case round =>
    obtain ⟨k, ob, hk, rfl, rfl, hob, hq⟩ := hrel
    by_cases hlt : a + 1 + k < s.size
    · have hx : ∀ i, i < s.size → (s.extract i (i + 1)).size = 1 := fun i hi => by simp; omega
      have Hx := hid hx; clear hx
      go_wp2_with fail
      · go_ret3
        exact ⟨_, _, _, rfl, q_close hq hlt ‹_› ‹_› ‹_› _ (by omega), rfl⟩
      · go_round
        case rel => exact ⟨k + 1, _, by omega, by go_num, rfl, by rw [ByteArray.size_append, Hx.out _ hlt]; omega, q_plain hq hlt ‹_› ‹_› ‹_› ‹_›⟩
        case measure => go_light; simp [intOf]; omega
      · go_round
        case rel => exact ⟨k + 2, _, by omega, by go_num, rfl, by rw [ByteArray.size_append, Hx.out _ (by omega)]; omega, q_esc hq hlt ‹_› ‹_› ‹_› ‹_› (by omega) (.inl ‹_›)⟩
        case measure => go_light; simp [intOf]; omega
      · go_round
        case rel => exact ⟨k + 2, _, by omega, by go_num, rfl, by rw [ByteArray.size_append, Hx.out _ (by omega)]; omega, q_esc hq hlt ‹_› ‹_› ‹_› ‹_› (by omega) (by have h := ‹(_ == (34 : Int)) = true ∨ _›; simpa only [beq_iff_eq] using h)⟩
        case measure => go_light; simp [intOf]; omega
      · go_round
        case rel => exact ⟨k + 2, _, by omega, by go_num, rfl, by rw [ByteArray.size_append]; show ob.size + 1 ≤ k + 2; omega, q_escn hq hlt ‹_› ‹_› ‹_› ‹_› (by omega) (by have h := ‹(_ == _) = false ∧ _›; simpa only [beq_eq_false_iff_ne] using h) (by have h := ‹(_ == (110 : Int)) = true›; simpa only [beq_iff_eq] using h)⟩
        case measure => go_light; simp [intOf]; omega
      · go_ret3
        exact ⟨_, _, _, rfl, by rw [q_bad hq hlt ‹_› ‹_› ‹_› ‹_› (by omega) (by have h := ‹(_ == _) = false ∧ _›; simpa only [beq_eq_false_iff_ne] using h) (by have h := ‹(_ == (110 : Int)) = false›; simpa only [beq_eq_false_iff_ne] using h)]; rfl, rfl⟩
      · go_ret3
        exact ⟨_, _, _, rfl, by rw [q_esc_end hq hlt ‹_› ‹_› ‹_› ‹_› (by omega)]; rfl, rfl⟩
      · go_ret3
        exact ⟨_, _, _, rfl, by rw [q_high hq hlt ‹_›]; rfl, rfl⟩
      · go_ret3
        exact ⟨_, _, _, rfl, by rw [q_low hq hlt ‹_›]; rfl, rfl⟩
    · go_wp2_with fail
      go_ret3
      exact ⟨_, _, _, rfl, by rw [q_out hq (by omega)]; rfl, rfl⟩
end Go.Proofs.YthknlifmkjdoeaaGreatDoor

/-
  THE REFERENCE'S First.
-/
namespace Go.Proofs.YthknlifmkjdoeaaGreatDoor
open Go.RowKit Lode Go.Shelf
theorem rrun_at (s : ByteArray) (x : Int) (a : Nat) (lt : Bool) (w : World) (hx : x = a) (hs : s.size ≤ 1000000000000) (ha : a ≤ s.size) :
    Calls Tryz.prog 89 #[.string s, .int .i64 x, .bool lt] w fun e w' => e = .returned (.int .i64 (runLen (fun c => digit c || (lt && small c)) (s.data.toList.drop a))) ∧ w = w' := by
  subst hx; exact rrun_any s a lt w hs ha
def TRes (q : Option (Nat × List UInt8 × Nat)) (a : Int) (k : Int) (t : ByteArray) (a' n : Int) (ok : Bool) : Prop :=
  match q with
  | some (k', t', n') => ok = true ∧ k = k' ∧ t = ⟨t'.toArray⟩ ∧ a' = a ∧ n = n'
  | none => ok = false
def RFPost (q : Option (Nat × List UInt8 × Nat)) (a : Nat) (w : World) (e : Ending) (w' : World) : Prop :=
  ∃ k t a' n ok, e = .returned (.tuple #[.agg #[.int .u8 k, .string t, .int .i64 a'], .int .i64 n, .bool ok]) ∧ TRes q a k t a' n ok ∧ Below w.heap.size w w'
theorem runLen_le (p : UInt8 → Bool) : ∀ m : List UInt8, runLen p m ≤ m.length
  | [] => by simp [runLen]
  | d :: m => by simp only [runLen]; have := runLen_le p m; split <;> simp; omega
theorem strs_cell (V : World) (l : List (List UInt8)) (T : TypeId) (j : Nat) (hj : j < l.length) : (V.alloc (.cells (strs l) T)).cell? ⟨V.heap.size, j, none⟩ = some (.string ⟨(l[j]?.getD []).toArray⟩) := by
  simp [strs, hj]
theorem strs_cell' (V : World) (l : List (List UInt8)) (T : TypeId) (b : Nat) (hb : b = V.heap.size) (j : Nat) (hj : j < l.length) : (V.alloc (.cells (strs l) T)).drew.cell? ⟨b, j, none⟩ = some (.string ⟨(l[j]?.getD []).toArray⟩) := by
  subst hb; simp [strs, hj]
theorem extract_data (s : ByteArray) (a n : Nat) : (s.extract a (a + n)).data.toList = (s.data.toList.drop a).take n := by
  simp [List.extract_eq_take_drop]
theorem ba_eta (s : ByteArray) : s = ⟨s.data.toList.toArray⟩ := by simp
theorem tok1_small (s : ByteArray) (a m : Nat) (ha : a < s.size) (h1 : small s[a] = true) (hm : runLen (fun c => digit c || (true && small c)) (s.data.toList.drop (a + 1)) = m) :
    tok1 (s.data.toList.drop a) = if 1 + m ≤ 12 then some (if wordList.contains (s.extract a (a + (1 + m))).data.toList then 5 else 1, (s.extract a (a + (1 + m))).data.toList, 1 + m) else none := by
  have e : (fun c => digit c || (true && small c)) = (fun c => small c || digit c) := by funext c; simp [Bool.or_comm]
  rw [e] at hm
  rw [extract_data, bdrop s a ha]
  simp only [tok1, h1, if_true, hm]
theorem bl_alloc {w w1 : World} (h : Below w.heap.size w w1) (o : Obj) : Below w.heap.size w (w1.alloc o) := h.alloc h.size o
theorem tres_small {s : ByteArray} {a m k : Nat} {q : Option (Nat × List UInt8 × Nat)} (hq : q = if 1 + m ≤ 12 then some (k, (s.extract a (a + (1 + m))).data.toList, 1 + m) else none) :
    TRes q a k (s.extract a (a + (1 + m))) a (1 + (m : Int)) (decide (1 + (m : Int) ≤ 12)) := by
  subst hq
  by_cases h : 1 + m ≤ 12
  · rw [if_pos h]; exact ⟨by simp; omega, rfl, ba_eta _, rfl, by omega⟩
  · rw [if_neg h]; show _ = _; simp; omega
set_option maxRecDepth 100000 in
theorem rfirst_small (s : ByteArray) (a : Nat) (w : World) (hs : s.size ≤ 1000000000000) (ha : a < s.size) (h1 : small s[a] = true) :
    Calls Tryz.prog 54 #[.string s, .int .i64 a] w (RFPost (tok1 (s.data.toList.drop a)) a w) := by
  have h2 : big s[a] = false := by simp [small] at h1; simp [big]; omega
  have hc : (0 : Int) ≤ (s[a].toNat : Int) := by omega
  obtain ⟨m, hm, hmb⟩ : ∃ m, runLen (fun c => digit c || (true && small c)) (s.data.toList.drop (a + 1)) = m ∧ a + 1 + m ≤ s.size := ⟨_, rfl, by
    have := runLen_le (fun c => digit c || (true && small c)) (s.data.toList.drop (a + 1)); simp at this ⊢; omega⟩
  have Hrun := hid (show ∀ w, Calls Tryz.prog 89 #[.string s, .int .i64 ((a : Int) + 1), .bool true] w fun e w' => e = .returned (.int .i64 m) ∧ w = w' from fun w => hm ▸ rrun_at s _ (a + 1) true _ (by omega) hs (by omega))
  have Hm := hid hm; clear hm
  generalize hq : tok1 (s.data.toList.drop a) = q at *
  have Hq := hid hq; clear hq
  go_enter Tryz.func54, Tryz.ntmps54
  go_wp2_with (first
    | (go_at_call 87; refine (rsmall_any _ _).mono ?_; rintro e w' ⟨rfl, rfl⟩; rw [h1])
    | (go_at_call 88; refine (rbig_any _ _).mono ?_; rintro e w' ⟨rfl, rfl⟩; rw [h2])
    | (go_at_call 89; refine (Hrun.out _).mono ?_; rintro e w' ⟨rfl, rfl⟩))
  go_region_with (first
    | (go_at_call 91; refine (rwords_any _).mono ?_; rintro e w' ⟨rfl, rfl⟩)
    | (go_at_call 90; refine (rin_any _ 44 44 wordList _ _ rfl (by decide) (fun j hj => strs_cell' _ _ _ _ (by simp) j hj)).mono ?_; rintro e w' ⟨rfl, rfl⟩))
  all_goals
    go_wp2_with fail
  all_goals
    first
      | (have hw : List.take (1 + m) (List.drop a s.data.toList) ∈ wordList := by assumption
         refine bodyPost_ret (v := .tuple #[.agg #[.int .u8 5, .string (s.extract a (a + (1 + m))), .int .i64 a], .int .i64 (1 + m), .bool (decide (1 + (m : Int) ≤ 12))]) (by simp [results, Tryz.results54, go_sem]) rfl ?_
         refine ⟨_, _, _, _, _, rfl, ?_, ?_⟩
         · exact tres_small (k := 5) (by rw [← Hq.out, tok1_small s a m ha h1 Hm.out, extract_data]; simp [hw])
         · repeat (first | exact Below.refl _ _ | apply Below.drew | apply bl_alloc))
      | (have hw : ¬ List.take (1 + m) (List.drop a s.data.toList) ∈ wordList := by assumption
         refine bodyPost_ret (v := .tuple #[.agg #[.int .u8 1, .string (s.extract a (a + (1 + m))), .int .i64 a], .int .i64 (1 + m), .bool (decide (1 + (m : Int) ≤ 12))]) (by simp [results, Tryz.results54, go_sem]) rfl ?_
         refine ⟨_, _, _, _, _, rfl, ?_, ?_⟩
         · exact tres_small (k := 1) (by rw [← Hq.out, tok1_small s a m ha h1 Hm.out, extract_data]; simp [hw])
         · repeat (first | exact Below.refl _ _ | apply Below.drew | apply bl_alloc))
end Go.Proofs.YthknlifmkjdoeaaGreatDoor

/-
  THE REFERENCE'S First: type names, numbers, quoted texts.
-/
namespace Go.Proofs.YthknlifmkjdoeaaGreatDoor
open Go.RowKit Lode Go.Shelf
theorem tok1_big (s : ByteArray) (a m : Nat) (ha : a < s.size) (h1 : small s[a] = false) (h2 : big s[a] = true) (hm : runLen (fun c => digit c || (true && small c)) (s.data.toList.drop (a + 1)) = m) :
    tok1 (s.data.toList.drop a) = if 1 + m ≤ 12 then some (2, (s.extract a (a + (1 + m))).data.toList, 1 + m) else none := by
  have e : (fun c => digit c || (true && small c)) = (fun c => small c || digit c) := by funext c; simp [Bool.or_comm]
  rw [e] at hm
  rw [extract_data, bdrop s a ha]
  simp only [tok1, h1, h2, if_true, hm, Bool.false_eq_true, if_false]
theorem tok1_digit (s : ByteArray) (a m : Nat) (ha : a < s.size) (h1 : small s[a] = false) (h2 : big s[a] = false) (h3 : digit s[a] = true) (hm : runLen (fun c => digit c || (false && small c)) (s.data.toList.drop a) = m) :
    tok1 (s.data.toList.drop a) = if isNum (s.extract a (a + m)).data.toList then some (3, (s.extract a (a + m)).data.toList, m) else none := by
  have e : (fun c => digit c || (false && small c)) = digit := by funext c; simp
  rw [e, bdrop s a ha] at hm
  rw [extract_data, bdrop s a ha]
  simp only [runLen, h3, if_true] at hm
  subst hm
  simp only [tok1, h1, h2, h3, if_true, Bool.false_eq_true, if_false, Nat.add_comm 1]
theorem tok1_quote (s : ByteArray) (a : Nat) (ha : a < s.size) (h : s[a] = 34) :
    tok1 (s.data.toList.drop a) = (Lode.quoted (s.data.toList.drop a)).map fun x => (4, x.1, x.2) := by
  rw [bdrop s a ha, h]
  simp only [tok1, show small 34 = false from rfl, show big 34 = false from rfl, show digit 34 = false from rfl, if_true, Bool.false_eq_true, if_false]
theorem tok1_sign (s : ByteArray) (a : Nat) (ha : a < s.size) (h1 : small s[a] = false) (h2 : big s[a] = false) (h3 : digit s[a] = false) (h4 : s[a] ≠ 34) :
    tok1 (s.data.toList.drop a) = (signList.find? fun g => isPre g (s.data.toList.drop a)).map fun g => (6, g, g.length) := by
  rw [bdrop s a ha]
  simp only [tok1, h1, h2, h3, h4, Bool.false_eq_true, if_false]
set_option maxRecDepth 100000 in
theorem rfirst_big (s : ByteArray) (a : Nat) (w : World) (hs : s.size ≤ 1000000000000) (ha : a < s.size) (h1 : small s[a] = false) (h2 : big s[a] = true) :
    Calls Tryz.prog 54 #[.string s, .int .i64 a] w (RFPost (tok1 (s.data.toList.drop a)) a w) := by
  have hc : (0 : Int) ≤ (s[a].toNat : Int) := by omega
  obtain ⟨m, hm, hmb⟩ : ∃ m, runLen (fun c => digit c || (true && small c)) (s.data.toList.drop (a + 1)) = m ∧ a + 1 + m ≤ s.size := ⟨_, rfl, by
    have := runLen_le (fun c => digit c || (true && small c)) (s.data.toList.drop (a + 1)); simp at this ⊢; omega⟩
  have Hrun := hid (show ∀ w, Calls Tryz.prog 89 #[.string s, .int .i64 ((a : Int) + 1), .bool true] w fun e w' => e = .returned (.int .i64 m) ∧ w = w' from fun w => hm ▸ rrun_at s _ (a + 1) true _ (by omega) hs (by omega))
  have Hm := hid hm; clear hm
  generalize hq : tok1 (s.data.toList.drop a) = q at *
  have Hq := hid hq; clear hq
  go_enter Tryz.func54, Tryz.ntmps54
  go_wp2_with (first
    | (go_at_call 87; refine (rsmall_any _ _).mono ?_; rintro e w' ⟨rfl, rfl⟩; rw [h1])
    | (go_at_call 88; refine (rbig_any _ _).mono ?_; rintro e w' ⟨rfl, rfl⟩; rw [h2])
    | (go_at_call 89; refine (Hrun.out _).mono ?_; rintro e w' ⟨rfl, rfl⟩))
  refine bodyPost_ret (v := .tuple #[.agg #[.int .u8 2, .string (s.extract a (a + (1 + m))), .int .i64 a], .int .i64 (1 + m), .bool (decide (1 + (m : Int) ≤ 12))]) (by simp [results, Tryz.results54, go_sem]) rfl ?_
  refine ⟨_, _, _, _, _, rfl, ?_, ?_⟩
  · exact tres_small (k := 2) (by rw [← Hq.out, tok1_big s a m ha h1 h2 Hm.out])
  · repeat (first | exact Below.refl _ _ | apply Below.drew | apply bl_alloc)
set_option maxRecDepth 100000 in
theorem rfirst_digit (s : ByteArray) (a : Nat) (w : World) (hs : s.size ≤ 1000000000000) (ha : a < s.size) (h1 : small s[a] = false) (h2 : big s[a] = false) (h3 : digit s[a] = true) :
    Calls Tryz.prog 54 #[.string s, .int .i64 a] w (RFPost (tok1 (s.data.toList.drop a)) a w) := by
  have hc : (0 : Int) ≤ (s[a].toNat : Int) := by omega
  obtain ⟨m, hm, hmb⟩ : ∃ m, runLen (fun c => digit c || (false && small c)) (s.data.toList.drop a) = m ∧ a + m ≤ s.size := ⟨_, rfl, by
    have := runLen_le (fun c => digit c || (false && small c)) (s.data.toList.drop a); simp at this ⊢; omega⟩
  have Hrun := hid (show ∀ w, Calls Tryz.prog 89 #[.string s, .int .i64 (a : Int), .bool false] w fun e w' => e = .returned (.int .i64 m) ∧ w = w' from fun w => hm ▸ rrun_at s _ a false _ (by omega) hs (by omega))
  have Hm := hid hm; clear hm
  obtain ⟨b, hb⟩ : ∃ b, isNum (s.extract a (a + m)).data.toList = b := ⟨_, rfl⟩
  have Hnum := hid (show ∀ w, Calls Tryz.prog 93 #[.string (s.extract a (a + m))] w fun e w' => e = .returned (.bool b) ∧ w = w' from fun w => hb ▸ risNumber_any _ w (by simp; omega))
  have Hb := hid hb; clear hb
  generalize hq : tok1 (s.data.toList.drop a) = q at *
  have Hq := hid hq; clear hq
  go_enter Tryz.func54, Tryz.ntmps54
  go_wp2_with (first
    | (go_at_call 87; refine (rsmall_any _ _).mono ?_; rintro e w' ⟨rfl, rfl⟩; rw [h1])
    | (go_at_call 88; refine (rbig_any _ _).mono ?_; rintro e w' ⟨rfl, rfl⟩; rw [h2])
    | (go_at_call 92; refine (rdigit_any _ _).mono ?_; rintro e w' ⟨rfl, rfl⟩; rw [h3])
    | (go_at_call 89; refine (Hrun.out _).mono ?_; rintro e w' ⟨rfl, rfl⟩))
  have e1 : IntKind.i64.wrap ((a : Int) + (m : Int)) = a + m := IntWalk.i64_in _ (by omega)
  have e2 : (0 : Int) ≤ (a : Int) + m := by omega
  have e3 : ((a : Int) + (m : Int)).toNat = a + m := by omega
  have e4 : (a : Int) ≤ (a : Int) + m := by omega
  have e5 : a ≤ a + m := by omega
  have e6 : (a : Int) + m ≤ (s.size : Int) := by omega
  have e7 : a + m ≤ s.size := by omega
  go_region_with (go_at_call 93; refine (Hnum.out _).mono ?_; rintro e w' ⟨rfl, rfl⟩)
  all_goals
    go_wp2_with fail
  all_goals
    refine bodyPost_ret (v := .tuple #[.agg #[.int .u8 3, .string (s.extract a (a + m)), .int .i64 a], .int .i64 m, .bool b]) (by simp [results, Tryz.results54, go_sem]) rfl ?_
    refine ⟨_, _, _, _, _, rfl, ?_, ?_⟩
    · rw [← Hq.out, tok1_digit s a m ha h1 h2 h3 Hm.out, Hb.out]
      cases b
      · exact rfl
      · exact ⟨rfl, rfl, ba_eta _, rfl, rfl⟩
    · repeat (first | exact Below.refl _ _ | apply Below.drew | apply bl_alloc)
set_option maxRecDepth 100000 in
theorem rfirst_quote (s : ByteArray) (a : Nat) (w : World) (hs : s.size ≤ 1000000000000) (ha : a < s.size) (h : s[a] = 34) :
    Calls Tryz.prog 54 #[.string s, .int .i64 a] w (RFPost (tok1 (s.data.toList.drop a)) a w) := by
  have h1 : small s[a] = false := by rw [h]; rfl
  have h2 : big s[a] = false := by rw [h]; rfl
  have h3 : digit s[a] = false := by rw [h]; rfl
  have h4 : ((s[a].toNat : Int) == 34) = true := by rw [beq_iff_eq, c34]; exact h
  have Hq := hid (tok1_quote s a ha h)
  have Hquo := hid (rquoted_any s a · hs ha)
  have H := hid h; clear h
  generalize hq : tok1 (s.data.toList.drop a) = q at *
  generalize hq : Lode.quoted (s.data.toList.drop a) = q2 at *
  go_enter Tryz.func54, Tryz.ntmps54
  go_wp2_with (first
    | (go_at_call 87; refine (rsmall_any _ _).mono ?_; rintro e w' ⟨rfl, rfl⟩; rw [h1])
    | (go_at_call 88; refine (rbig_any _ _).mono ?_; rintro e w' ⟨rfl, rfl⟩; rw [h2])
    | (go_at_call 92; refine (rdigit_any _ _).mono ?_; rintro e w' ⟨rfl, rfl⟩; rw [h3]))
  refine (Hquo.out _).mono ?_
  rintro e w' ⟨n, t, ok, rfl, hres, rfl⟩
  have Hres := hid hres; clear hres
  go_wp2_with fail
  refine bodyPost_ret (v := .tuple #[.agg #[.int .u8 4, .string t, .int .i64 a], .int .i64 n, .bool ok]) (by simp [results, Tryz.results54, go_sem]) rfl ?_
  refine ⟨_, _, _, _, _, rfl, ?_, ?_⟩
  · rw [Hq.out]
    have hr := Hres.out
    cases q2 with
    | none => exact hr
    | some x => exact ⟨hr.1, rfl, hr.2.2, rfl, hr.2.1⟩
  · repeat (first | exact Below.refl _ _ | apply Below.drew | apply bl_alloc)
end Go.Proofs.YthknlifmkjdoeaaGreatDoor
