/-
  THE REFERENCE'S First: signs; and First whole.
-/
import Derived.Deep.RegionHeld3
import Derived.Deep.DrawnRows
import Derived.Test.YthknlifmkjdoeaaGreatDoorRefD
namespace Go.Proofs.YthknlifmkjdoeaaGreatDoor
open Go.RowKit Lode Go.Shelf
attribute [local go_sem ↓] Go.wp_at_zero Go.wp_at_succ
theorem isPre_iff : ∀ (g r : List UInt8), isPre g r = decide (r.take g.length = g)
  | [], r => by simp [isPre]
  | _ :: _, [] => by simp [isPre]
  | a :: g, b :: r => by
    simp only [isPre, isPre_iff g r, List.length_cons, List.take_succ_cons, List.cons.injEq]
    rw [Bool.eq_iff_iff]; simp
    intro _; exact eq_comm
theorem find_len (r : List UInt8) (k : Nat) : ∀ (L : List (List UInt8)), (∀ g, g ∈ L → g.length = k) → L.find? (fun g => isPre g r) = if L.contains (r.take k) then some (r.take k) else none
  | [], _ => by simp
  | g :: L, h => by
    have hg := h g (by simp)
    have ih := find_len r k L (fun x hx => h x (by simp [hx]))
    rw [List.find?_cons, isPre_iff, hg, ih]
    by_cases e : r.take k = g
    · simp [e]
    · have e' : (g == r.take k) = false := by simpa using fun h => e h.symm
      simp only [e, decide_false, List.contains_cons]
      have e2 : (r.take k == g) = false := by simpa using e
      rw [e2, Bool.false_or]
def signs2 : List (List UInt8) := signList.take 7
def signs1 : List (List UInt8) := signList.drop 7
theorem sign_find (r : List UInt8) : (signList.find? fun g => isPre g r) = if 2 ≤ r.length ∧ signList.contains (r.take 2) = true then some (r.take 2) else if 1 ≤ r.length ∧ signList.contains (r.take 1) = true then some (r.take 1) else none := by
  have h2 : ∀ g, g ∈ signs2 → g.length = 2 := by decide
  have h1 : ∀ g, g ∈ signs1 → g.length = 1 := by decide
  have e : signList = signs2 ++ signs1 := by decide
  have c2 : ∀ x : List UInt8, x ∈ signList ↔ x ∈ signs2 ∨ x ∈ signs1 := fun x => by rw [e]; simp
  rw [show signList.find? (fun g => isPre g r) = (signs2 ++ signs1).find? fun g => isPre g r by rw [← e], List.find?_append, find_len r 2 signs2 h2, find_len r 1 signs1 h1]
  by_cases hl2 : 2 ≤ r.length
  · have hn : r.take 2 ∉ signs1 := fun h => by have := h1 _ h; simp at this; omega
    have hn1 : r.take 1 ∉ signs2 := fun h => by have := h2 _ h; simp at this; omega
    have q2 : signList.contains (r.take 2) = signs2.contains (r.take 2) := by rw [Bool.eq_iff_iff]; simp [c2, hn]
    have q1 : signList.contains (r.take 1) = signs1.contains (r.take 1) := by rw [Bool.eq_iff_iff]; simp [c2, hn1]
    rw [q2, q1]
    cases signs2.contains (r.take 2) with
    | true => simp [hl2]
    | false =>
      have : 1 ≤ r.length := by omega
      cases signs1.contains (r.take 1) <;> simp [this]
  · have hn2 : r.take 2 ∉ signs2 := fun h => by have := h2 _ h; simp at this; omega
    have hc2 : signs2.contains (r.take 2) = false := by simpa using hn2
    rw [hc2]
    by_cases hl1 : 1 ≤ r.length
    · have hn1 : r.take 1 ∉ signs2 := fun h => by have := h2 _ h; simp at this; omega
      have q1 : signList.contains (r.take 1) = signs1.contains (r.take 1) := by rw [Bool.eq_iff_iff]; simp [c2, hn1]
      rw [q1]
      cases signs1.contains (r.take 1) <;> simp [hl1, hl2]
    · have : r = [] := List.eq_nil_of_length_eq_zero (by omega)
      subst this
      have hc : ([] : List UInt8) ∉ signs1 := by decide
      simp [hc]
/-- in the walk's words: the bytes n of the text at a -/
def signAt (s : ByteArray) (a n : Nat) : Bool := decide (a + n ≤ s.size) && signList.contains (s.extract a (a + n)).data.toList
theorem tok1_signAt (s : ByteArray) (a : Nat) (ha : a < s.size) (h1 : small s[a] = false) (h2 : big s[a] = false) (h3 : digit s[a] = false) (h4 : s[a] ≠ 34) :
    tok1 (s.data.toList.drop a) = if signAt s a 2 = true then some (6, (s.extract a (a + 2)).data.toList, 2) else if signAt s a 1 = true then some (6, (s.extract a (a + 1)).data.toList, 1) else none := by
  rw [tok1_sign s a ha h1 h2 h3 h4, sign_find]
  have hl : (s.data.toList.drop a).length = s.size - a := by simp
  have e2 : (2 ≤ s.size - a) = (a + 2 ≤ s.size) := by simp only [eq_iff_iff]; omega
  have e1 : (1 ≤ s.size - a) = (a + 1 ≤ s.size) := by simp only [eq_iff_iff]; omega
  simp only [signAt, Bool.and_eq_true, decide_eq_true_eq, extract_data, hl, e2, e1]
  split
  · rename_i h; simp [hl]; omega
  · split
    · rename_i h; simp [hl]; omega
    · rfl
theorem heap_new (w : World) (o : Obj) : (w.alloc o).heap[w.heap.size]? = some o := by
  show (w.heap.push o)[w.heap.size]? = _; simp
theorem heap_old {w : World} {b : Nat} {o : Obj} (o' : Obj) (h : w.heap[b]? = some o) : (w.alloc o').heap[b]? = some o := by
  rw [Below.heap_alloc w o' b (Array.getElem?_eq_some_iff.1 h).1]; exact h
theorem bl_set {w w1 : World} (h : Below w.heap.size w w1) (b o : Nat) (hb : w.heap.size ≤ b) (v : Value) : Below w.heap.size w (w1.setCell ⟨b, o, none⟩ v) := h.setCell (p := ⟨b, o, none⟩) hb v
theorem bl_drewN {w w1 : World} (h : Below w.heap.size w w1) (n : Nat) : Below w.heap.size w (w1.drewN n) := by
  induction n with
  | zero => exact h
  | succ n ih => exact ih.drew
theorem tres_none (q : Option (Nat × List UInt8 × Nat)) (a k : Int) (t : ByteArray) (a' n : Int) (h : q = none) : TRes q a k t a' n false := by subst h; exact rfl
theorem cell_heap {w : World} {b : Nat} {cs : Array Value} {T : TypeId} {fr : Nat × Nat} (hb : w.heap[b]? = some (.cells cs T fr)) (j : Nat) : w.cell? ⟨b, j, none⟩ = cs[j]? := by
  simp [World.cell?, hb]
theorem frozen_heap {w : World} {b : Nat} {cs : Array Value} {T : TypeId} (hb : w.heap[b]? = some (.cells cs T (0, 0))) (j : Nat) : w.frozen? ⟨b, j, none⟩ = false := by
  simp [World.frozen?, hb]
/-- a piece of code that ends normally: of its other ends nothing need be asked -/
theorem wp_calm {P : Program} {c : Code} {Q : Exit → Act → World → Prop} {a : Act} {w : World} (h : c.wp P (fun e a w => match e with | .normal => Q .normal a w | _ => False) a w) : c.wp P Q a w :=
  Code.wp_mono (fun e a w q => by cases e <;> first | exact q | exact q.elim) h
theorem drew_heap (w : World) : w.drew.heap = w.heap := rfl
theorem drewN_heap (w : World) (n : Nat) : (w.drewN n).heap = w.heap := by
  induction n with
  | zero => rfl
  | succ n ih => exact ih
theorem heap_at (V : World) (o : Obj) (b : Nat) (h : b = V.heap.size) : (V.alloc o).heap[b]? = some o := by subst h; exact heap_new V o
/-- what the reference asks of the n bytes at a -/
theorem rin_sign (s : ByteArray) (a n : Nat) (h : a + n ≤ s.size) (W : World) (bk : Nat) (hW : W.heap[bk]? = some (.cells (strs signList) 9 (0, 0))) :
    Calls Tryz.prog 90 #[.slice (some ⟨bk, 0, none⟩) 25 25, .string (s.extract a (a + n))] W fun e w' => e = .returned (.bool (signAt s a n)) ∧ W = w' := by
  have e : signAt s a n = signList.contains (s.extract a (a + n)).data.toList := by unfold signAt; simp [h]
  rw [e]
  exact rin_any bk 25 25 signList _ _ rfl (by decide) (fun j hj => by rw [cell_heap hW]; simp only [strs, List.getElem?_toArray, List.getElem?_map]; rw [List.getElem?_eq_getElem (show j < signList.length from hj)]; rfl)
set_option maxRecDepth 100000 in
theorem rsign2 (s : ByteArray) (a : Nat) (w : World) (q : Option (Nat × List UInt8 × Nat)) (hs : s.size ≤ 1000000000000) (ha : a < s.size) (h1 : small s[a] = false) (h2 : big s[a] = false) (h3 : digit s[a] = false) (h4 : ((s[a].toNat : Int) == 34) = false)
(hfit : a + 2 ≤ s.size) (hb : signAt s a 2 = true) (Hq : Hid (q = some (6, (s.extract a (a + 2)).data.toList, 2))) :
    Calls Tryz.prog 54 #[.string s, .int .i64 a] w (RFPost q a w) := by
  have Hin := hid (rin_sign s a 2 hfit)
  rw [hb] at Hin
  clear hb
  go_enter Tryz.func54, Tryz.ntmps54
  go_wp2_with (first
    | (go_at_call 87; refine (rsmall_any _ _).mono ?_; rintro e w' ⟨rfl, rfl⟩; rw [h1])
    | (go_at_call 88; refine (rbig_any _ _).mono ?_; rintro e w' ⟨rfl, rfl⟩; rw [h2])
    | (go_at_call 92; refine (rdigit_any _ _).mono ?_; rintro e w' ⟨rfl, rfl⟩; rw [h3]))
  refine wp_loop_rounds 1 ?_
  rw [rounds_succ]
  go_wp2_with fail
  have e1 : IntKind.i64.wrap ((a : Int) + 2) = a + 2 := IntWalk.i64_in _ (by omega)
  have e2 : (0 : Int) ≤ (a : Int) + 2 := by omega
  have e3 : ((a : Int) + 2).toNat = a + 2 := by omega
  have e4 : (a : Int) ≤ (a : Int) + 2 := by omega
  have e5 : a ≤ a + 2 := by omega
  have e6 : (a : Int) + 2 ≤ (s.size : Int) := by omega
  have e8 : decide ((a : Int) + 2 ≤ (s.size : Int)) = true := by simp; omega
  refine wp_calm ?_
  go_region_held3 (fun _ => True) (go_keep) (first
    | (go_at_call 94; refine (rsigns_any _).mono ?_; rintro e w' ⟨rfl, rfl⟩)
    | (go_at_call 90; refine (Hin.out _ _ (by (try simp only [drew_heap]); exact heap_at _ _ _ (by simp))).mono ?_; rintro e w' ⟨rfl, rfl⟩))
  clear e1 e2 e3 e4
  go_wp2_with fail
  refine bodyPost_ret (v := .tuple #[.agg #[.int .u8 6, .string (s.extract a (a + 2)), .int .i64 a], .int .i64 2, .bool true]) (by simp [results, Tryz.results54, go_sem]) rfl ?_
  refine ⟨_, _, _, _, _, rfl, ?_, ?_⟩
  · rw [Hq.out]; exact ⟨rfl, rfl, ba_eta _, rfl, rfl⟩
  · repeat (first | exact Below.refl _ _ | with_reducible apply Below.drew | with_reducible apply bl_drewN | with_reducible apply bl_alloc | with_reducible refine bl_set ?_ _ _ (by omega) _)
set_option maxRecDepth 100000 in
theorem rsign21 (s : ByteArray) (a : Nat) (w : World) (q : Option (Nat × List UInt8 × Nat)) (hs : s.size ≤ 1000000000000) (ha : a < s.size) (h1 : small s[a] = false) (h2 : big s[a] = false) (h3 : digit s[a] = false) (h4 : ((s[a].toNat : Int) == 34) = false)
(hfit : a + 2 ≤ s.size) (hb : signAt s a 2 = false) (hc : signAt s a 1 = true) (Hq : Hid (q = some (6, (s.extract a (a + 1)).data.toList, 1))) :
    Calls Tryz.prog 54 #[.string s, .int .i64 a] w (RFPost q a w) := by
  have Hin := hid (rin_sign s a 2 hfit)
  have Hjn := hid (rin_sign s a 1 (by omega))
  rw [hb] at Hin
  rw [hc] at Hjn
  clear hb hc
  go_enter Tryz.func54, Tryz.ntmps54
  go_wp2_with (first
    | (go_at_call 87; refine (rsmall_any _ _).mono ?_; rintro e w' ⟨rfl, rfl⟩; rw [h1])
    | (go_at_call 88; refine (rbig_any _ _).mono ?_; rintro e w' ⟨rfl, rfl⟩; rw [h2])
    | (go_at_call 92; refine (rdigit_any _ _).mono ?_; rintro e w' ⟨rfl, rfl⟩; rw [h3]))
  refine wp_loop_rounds 2 ?_
  rw [rounds_succ]
  go_wp2_with fail
  have e1 : IntKind.i64.wrap ((a : Int) + 2) = a + 2 := IntWalk.i64_in _ (by omega)
  have e2 : (0 : Int) ≤ (a : Int) + 2 := by omega
  have e3 : ((a : Int) + 2).toNat = a + 2 := by omega
  have e4 : (a : Int) ≤ (a : Int) + 2 := by omega
  have e5 : a ≤ a + 2 := by omega
  have e6 : (a : Int) + 2 ≤ (s.size : Int) := by omega
  have e8 : decide ((a : Int) + 2 ≤ (s.size : Int)) = true := by simp; omega
  refine wp_calm ?_
  go_region_held3 (fun _ => True) (go_keep) (first
    | (go_at_call 94; refine (rsigns_any _).mono ?_; rintro e w' ⟨rfl, rfl⟩)
    | (go_at_call 90; refine (Hin.out _ _ (by (try simp only [drew_heap]); exact heap_at _ _ _ (by simp))).mono ?_; rintro e w' ⟨rfl, rfl⟩))
  clear e1 e2 e3 e4 e5 e6 e8
  go_wp2_with fail
  rw [rounds_succ]
  go_wp2_with fail
  have e1 : IntKind.i64.wrap ((a : Int) + 1) = a + 1 := IntWalk.i64_in _ (by omega)
  have e2 : (0 : Int) ≤ (a : Int) + 1 := by omega
  have e3 : ((a : Int) + 1).toNat = a + 1 := by omega
  have e4 : (a : Int) ≤ (a : Int) + 1 := by omega
  have e5 : a ≤ a + 1 := by omega
  have e6 : (a : Int) + 1 ≤ (s.size : Int) := by omega
  have e8 : decide ((a : Int) + 1 ≤ (s.size : Int)) = true := by simp; omega
  refine wp_calm ?_
  go_region_held3 (fun _ => True) (go_keep) (first
    | (go_at_call 94; refine (rsigns_any _).mono ?_; rintro e w' ⟨rfl, rfl⟩)
    | (go_at_call 90; refine (Hjn.out _ _ (by (try simp only [drew_heap]); exact heap_at _ _ _ (by simp))).mono ?_; rintro e w' ⟨rfl, rfl⟩))
  clear e1 e2 e3 e4
  go_wp2_with fail
  refine bodyPost_ret (v := .tuple #[.agg #[.int .u8 6, .string (s.extract a (a + 1)), .int .i64 a], .int .i64 1, .bool true]) (by simp [results, Tryz.results54, go_sem]) rfl ?_
  refine ⟨_, _, _, _, _, rfl, ?_, ?_⟩
  · rw [Hq.out]; exact ⟨rfl, rfl, ba_eta _, rfl, rfl⟩
  · repeat (first | exact Below.refl _ _ | with_reducible apply Below.drew | with_reducible apply bl_drewN | with_reducible apply bl_alloc | with_reducible refine bl_set ?_ _ _ (by omega) _)
set_option maxRecDepth 100000 in
theorem rsign20 (s : ByteArray) (a : Nat) (w : World) (q : Option (Nat × List UInt8 × Nat)) (hs : s.size ≤ 1000000000000) (ha : a < s.size) (h1 : small s[a] = false) (h2 : big s[a] = false) (h3 : digit s[a] = false) (h4 : ((s[a].toNat : Int) == 34) = false)
(hfit : a + 2 ≤ s.size) (hb : signAt s a 2 = false) (hc : signAt s a 1 = false) (Hq : Hid (q = none)) :
    Calls Tryz.prog 54 #[.string s, .int .i64 a] w (RFPost q a w) := by
  have Hin := hid (rin_sign s a 2 hfit)
  have Hjn := hid (rin_sign s a 1 (by omega))
  rw [hb] at Hin
  rw [hc] at Hjn
  clear hb hc
  go_enter Tryz.func54, Tryz.ntmps54
  go_wp2_with (first
    | (go_at_call 87; refine (rsmall_any _ _).mono ?_; rintro e w' ⟨rfl, rfl⟩; rw [h1])
    | (go_at_call 88; refine (rbig_any _ _).mono ?_; rintro e w' ⟨rfl, rfl⟩; rw [h2])
    | (go_at_call 92; refine (rdigit_any _ _).mono ?_; rintro e w' ⟨rfl, rfl⟩; rw [h3]))
  refine wp_loop_rounds 3 ?_
  rw [rounds_succ]
  go_wp2_with fail
  have e1 : IntKind.i64.wrap ((a : Int) + 2) = a + 2 := IntWalk.i64_in _ (by omega)
  have e2 : (0 : Int) ≤ (a : Int) + 2 := by omega
  have e3 : ((a : Int) + 2).toNat = a + 2 := by omega
  have e4 : (a : Int) ≤ (a : Int) + 2 := by omega
  have e5 : a ≤ a + 2 := by omega
  have e6 : (a : Int) + 2 ≤ (s.size : Int) := by omega
  have e8 : decide ((a : Int) + 2 ≤ (s.size : Int)) = true := by simp; omega
  refine wp_calm ?_
  go_region_held3 (fun _ => True) (go_keep) (first
    | (go_at_call 94; refine (rsigns_any _).mono ?_; rintro e w' ⟨rfl, rfl⟩)
    | (go_at_call 90; refine (Hin.out _ _ (by (try simp only [drew_heap]); exact heap_at _ _ _ (by simp))).mono ?_; rintro e w' ⟨rfl, rfl⟩))
  clear e1 e2 e3 e4 e5 e6 e8
  go_wp2_with fail
  rw [rounds_succ]
  go_wp2_with fail
  have e1 : IntKind.i64.wrap ((a : Int) + 1) = a + 1 := IntWalk.i64_in _ (by omega)
  have e2 : (0 : Int) ≤ (a : Int) + 1 := by omega
  have e3 : ((a : Int) + 1).toNat = a + 1 := by omega
  have e4 : (a : Int) ≤ (a : Int) + 1 := by omega
  have e5 : a ≤ a + 1 := by omega
  have e6 : (a : Int) + 1 ≤ (s.size : Int) := by omega
  have e8 : decide ((a : Int) + 1 ≤ (s.size : Int)) = true := by simp; omega
  refine wp_calm ?_
  go_region_held3 (fun _ => True) (go_keep) (first
    | (go_at_call 94; refine (rsigns_any _).mono ?_; rintro e w' ⟨rfl, rfl⟩)
    | (go_at_call 90; refine (Hjn.out _ _ (by (try simp only [drew_heap]); exact heap_at _ _ _ (by simp))).mono ?_; rintro e w' ⟨rfl, rfl⟩))
  clear e1 e2 e3 e4
  go_wp2_with fail
  rw [rounds_succ]
  go_wp2_with fail
  refine bodyPost_ret (v := .tuple #[.agg #[.int .u8 0, .string ⟨#[]⟩, .int .i64 0], .int .i64 0, .bool false]) (by simp [results, Tryz.results54, go_sem]) rfl ?_
  refine ⟨_, _, _, _, _, rfl, tres_none _ _ _ _ _ _ Hq.out, ?_⟩
  repeat (first | exact Below.refl _ _ | with_reducible apply Below.drew | with_reducible apply bl_drewN | with_reducible apply bl_alloc | with_reducible refine bl_set ?_ _ _ (by omega) _)
set_option maxRecDepth 100000 in
theorem rsign11 (s : ByteArray) (a : Nat) (w : World) (q : Option (Nat × List UInt8 × Nat)) (hs : s.size ≤ 1000000000000) (ha : a < s.size) (h1 : small s[a] = false) (h2 : big s[a] = false) (h3 : digit s[a] = false) (h4 : ((s[a].toNat : Int) == 34) = false)
(hfit : a + 1 ≤ s.size) (hno : s.size < a + 2) (hc : signAt s a 1 = true) (Hq : Hid (q = some (6, (s.extract a (a + 1)).data.toList, 1))) :
    Calls Tryz.prog 54 #[.string s, .int .i64 a] w (RFPost q a w) := by
  have Hjn := hid (rin_sign s a 1 (by omega))
  rw [hc] at Hjn
  clear hc
  go_enter Tryz.func54, Tryz.ntmps54
  go_wp2_with (first
    | (go_at_call 87; refine (rsmall_any _ _).mono ?_; rintro e w' ⟨rfl, rfl⟩; rw [h1])
    | (go_at_call 88; refine (rbig_any _ _).mono ?_; rintro e w' ⟨rfl, rfl⟩; rw [h2])
    | (go_at_call 92; refine (rdigit_any _ _).mono ?_; rintro e w' ⟨rfl, rfl⟩; rw [h3]))
  refine wp_loop_rounds 2 ?_
  rw [rounds_succ]
  go_wp2_with fail
  have e9 : IntKind.i64.wrap ((a : Int) + 2) = a + 2 := IntWalk.i64_in _ (by omega)
  have e8 : decide ((a : Int) + 2 ≤ (s.size : Int)) = false := by simp; omega
  have e7 : ¬ ((a : Int) + 2 ≤ (s.size : Int)) := by omega
  have e6 : s.size < a + 2 := by omega
  have e5 : (s.size : Int) < (a : Int) + 2 := by omega
  refine wp_calm ?_
  go_quiet (fail)
  clear e5 e6 e7 e8 e9 hno
  go_wp2_with fail
  rw [rounds_succ]
  go_wp2_with fail
  have e1 : IntKind.i64.wrap ((a : Int) + 1) = a + 1 := IntWalk.i64_in _ (by omega)
  have e2 : (0 : Int) ≤ (a : Int) + 1 := by omega
  have e3 : ((a : Int) + 1).toNat = a + 1 := by omega
  have e4 : (a : Int) ≤ (a : Int) + 1 := by omega
  have e5 : a ≤ a + 1 := by omega
  have e6 : (a : Int) + 1 ≤ (s.size : Int) := by omega
  have e8 : decide ((a : Int) + 1 ≤ (s.size : Int)) = true := by simp; omega
  refine wp_calm ?_
  go_region_held3 (fun _ => True) (go_keep) (first
    | (go_at_call 94; refine (rsigns_any _).mono ?_; rintro e w' ⟨rfl, rfl⟩)
    | (go_at_call 90; refine (Hjn.out _ _ (by (try simp only [drew_heap, drewN_heap]); exact heap_at _ _ _ (by simp))).mono ?_; rintro e w' ⟨rfl, rfl⟩))
  clear e1 e2 e3 e4
  go_wp2_with fail
  refine bodyPost_ret (v := .tuple #[.agg #[.int .u8 6, .string (s.extract a (a + 1)), .int .i64 a], .int .i64 1, .bool true]) (by simp [results, Tryz.results54, go_sem]) rfl ?_
  refine ⟨_, _, _, _, _, rfl, ?_, ?_⟩
  · rw [Hq.out]; exact ⟨rfl, rfl, ba_eta _, rfl, rfl⟩
  · repeat (first | exact Below.refl _ _ | with_reducible apply Below.drew | with_reducible apply bl_drewN | with_reducible apply bl_alloc | with_reducible refine bl_set ?_ _ _ (by omega) _)
set_option maxRecDepth 100000 in
theorem rsign10 (s : ByteArray) (a : Nat) (w : World) (q : Option (Nat × List UInt8 × Nat)) (hs : s.size ≤ 1000000000000) (ha : a < s.size) (h1 : small s[a] = false) (h2 : big s[a] = false) (h3 : digit s[a] = false) (h4 : ((s[a].toNat : Int) == 34) = false)
(hfit : a + 1 ≤ s.size) (hno : s.size < a + 2) (hc : signAt s a 1 = false) (Hq : Hid (q = none)) :
    Calls Tryz.prog 54 #[.string s, .int .i64 a] w (RFPost q a w) := by
  have Hjn := hid (rin_sign s a 1 (by omega))
  rw [hc] at Hjn
  clear hc
  go_enter Tryz.func54, Tryz.ntmps54
  go_wp2_with (first
    | (go_at_call 87; refine (rsmall_any _ _).mono ?_; rintro e w' ⟨rfl, rfl⟩; rw [h1])
    | (go_at_call 88; refine (rbig_any _ _).mono ?_; rintro e w' ⟨rfl, rfl⟩; rw [h2])
    | (go_at_call 92; refine (rdigit_any _ _).mono ?_; rintro e w' ⟨rfl, rfl⟩; rw [h3]))
  refine wp_loop_rounds 3 ?_
  rw [rounds_succ]
  go_wp2_with fail
  have e9 : IntKind.i64.wrap ((a : Int) + 2) = a + 2 := IntWalk.i64_in _ (by omega)
  have e8 : decide ((a : Int) + 2 ≤ (s.size : Int)) = false := by simp; omega
  have e7 : ¬ ((a : Int) + 2 ≤ (s.size : Int)) := by omega
  have e6 : s.size < a + 2 := by omega
  have e5 : (s.size : Int) < (a : Int) + 2 := by omega
  refine wp_calm ?_
  go_quiet (fail)
  clear e5 e6 e7 e8 e9 hno
  go_wp2_with fail
  rw [rounds_succ]
  go_wp2_with fail
  have e1 : IntKind.i64.wrap ((a : Int) + 1) = a + 1 := IntWalk.i64_in _ (by omega)
  have e2 : (0 : Int) ≤ (a : Int) + 1 := by omega
  have e3 : ((a : Int) + 1).toNat = a + 1 := by omega
  have e4 : (a : Int) ≤ (a : Int) + 1 := by omega
  have e5 : a ≤ a + 1 := by omega
  have e6 : (a : Int) + 1 ≤ (s.size : Int) := by omega
  have e8 : decide ((a : Int) + 1 ≤ (s.size : Int)) = true := by simp; omega
  refine wp_calm ?_
  go_region_held3 (fun _ => True) (go_keep) (first
    | (go_at_call 94; refine (rsigns_any _).mono ?_; rintro e w' ⟨rfl, rfl⟩)
    | (go_at_call 90; refine (Hjn.out _ _ (by (try simp only [drew_heap, drewN_heap]); exact heap_at _ _ _ (by simp))).mono ?_; rintro e w' ⟨rfl, rfl⟩))
  clear e1 e2 e3 e4
  go_wp2_with fail
  rw [rounds_succ]
  go_wp2_with fail
  refine bodyPost_ret (v := .tuple #[.agg #[.int .u8 0, .string ⟨#[]⟩, .int .i64 0], .int .i64 0, .bool false]) (by simp [results, Tryz.results54, go_sem]) rfl ?_
  refine ⟨_, _, _, _, _, rfl, tres_none _ _ _ _ _ _ Hq.out, ?_⟩
  repeat (first | exact Below.refl _ _ | with_reducible apply Below.drew | with_reducible apply bl_drewN | with_reducible apply bl_alloc | with_reducible refine bl_set ?_ _ _ (by omega) _)
theorem rfirst_sign (s : ByteArray) (a : Nat) (w : World) (hs : s.size ≤ 1000000000000) (ha : a < s.size) (h1 : small s[a] = false) (h2 : big s[a] = false) (h3 : digit s[a] = false) (hne : s[a] ≠ 34) :
    Calls Tryz.prog 54 #[.string s, .int .i64 a] w (RFPost (tok1 (s.data.toList.drop a)) a w) := by
  have h4 : ((s[a].toNat : Int) == 34) = false := by rw [beq_eq_false_iff_ne, ne_eq, c34]; exact hne
  have hq := tok1_signAt s a ha h1 h2 h3 hne
  by_cases hfit : a + 2 ≤ s.size
  · cases hb : signAt s a 2 with
    | true => rw [hb] at hq; exact rsign2 s a w _ hs ha h1 h2 h3 h4 hfit hb (hid hq)
    | false =>
      rw [hb] at hq
      cases hc : signAt s a 1 with
      | true => rw [hc] at hq; exact rsign21 s a w _ hs ha h1 h2 h3 h4 hfit hb hc (hid hq)
      | false => rw [hc] at hq; exact rsign20 s a w _ hs ha h1 h2 h3 h4 hfit hb hc (hid hq)
  · have hb : signAt s a 2 = false := by simp [signAt, hfit]
    rw [hb] at hq
    cases hc : signAt s a 1 with
    | true => rw [hc] at hq; exact rsign11 s a w _ hs ha h1 h2 h3 h4 (by omega) (by omega) hc (hid hq)
    | false => rw [hc] at hq; exact rsign10 s a w _ hs ha h1 h2 h3 h4 (by omega) (by omega) hc (hid hq)
/-- First, whole -/
theorem rfirst_any (s : ByteArray) (a : Nat) (w : World) (hs : s.size ≤ 1000000000000) (ha : a < s.size) :
    Calls Tryz.prog 54 #[.string s, .int .i64 a] w (RFPost (tok1 (s.data.toList.drop a)) a w) := by
  by_cases h1 : small s[a] = true
  · exact rfirst_small s a w hs ha h1
  · have h1 : small s[a] = false := by simpa using h1
    by_cases h2 : big s[a] = true
    · exact rfirst_big s a w hs ha h1 h2
    · have h2 : big s[a] = false := by simpa using h2
      by_cases h3 : digit s[a] = true
      · exact rfirst_digit s a w hs ha h1 h2 h3
      · have h3 : digit s[a] = false := by simpa using h3
        by_cases h4 : s[a] = 34
        · exact rfirst_quote s a w hs ha h4
        · exact rfirst_sign s a w hs ha h1 h2 h3 h4
end Go.Proofs.YthknlifmkjdoeaaGreatDoor
