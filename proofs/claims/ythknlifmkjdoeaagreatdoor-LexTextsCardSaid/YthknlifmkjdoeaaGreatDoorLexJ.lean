/-
  THE READER: token: quoted texts, signs.
-/
import Derived.Test.YthknlifmkjdoeaaGreatDoorLexE
import Derived.Test.YthknlifmkjdoeaaGreatDoorLexH
import Derived.Test.YthknlifmkjdoeaaGreatDoorBase
namespace Go.Proofs.YthknlifmkjdoeaaGreatDoor
open Go.RowKit Lode Go.Shelf
attribute [local go_sem ↓] Go.wp_at_zero Go.wp_at_succ
theorem isPre_eq : ∀ g r : List UInt8, Lib.hasPrefix r g = isPre g r
  | [], r => by cases r <;> rfl
  | _ :: _, [] => rfl
  | a :: g, b :: r => by
    have := isPre_eq g r
    unfold Lib.hasPrefix at this
    simp only [Lib.hasPrefix, List.isPrefixOf, isPre, this]
    congr 1
theorem find_at {α : Type} (p : α → Bool) (d : α) : ∀ (l : List α) (k : Nat), (∀ j, j < k → p (l.getD j d) = false) → k < l.length → p (l.getD k d) = true → l.find? p = some (l.getD k d)
  | [], k, _, h, _ => by cases h
  | a :: l, 0, _, _, h => by simp at h ⊢; exact .inl h
  | a :: l, k + 1, h, hk, hp => by
    have h0 := h 0 (by omega)
    simp only [List.getD_cons_zero] at h0
    rw [List.find?_cons, h0]
    exact find_at p d l k (fun j hj => by have := h (j + 1) (by omega); simpa using this) (by simpa using hk) (by simpa using hp)
theorem find_no {α : Type} (p : α → Bool) (d : α) (l : List α) (h : ∀ j, j < l.length → p (l.getD j d) = false) : l.find? p = none := by
  rw [List.find?_eq_none]
  intro x hx
  obtain ⟨j, hj, rfl⟩ := List.getElem_of_mem hx
  have := h j hj
  simpa [List.getD_eq_getElem?_getD, hj] using this
theorem signs_cell {w W : World} {b : Nat} (h : Below w.heap.size w W) (hb : w.heap[b]? = some (.cells (strs signList) 9 (0, 0))) (k : Nat) (hk : k < 25) : W.cell? ⟨b, k, none⟩ = some (.string ⟨(signList.getD k []).toArray⟩) := by
  refine cell_later h ?_
  rw [cell_heap hb k]
  have hk' : k < signList.length := hk
  simp only [strs, List.getElem?_toArray, List.getElem?_map, List.getD_eq_getElem?_getD]
  rw [List.getElem?_eq_getElem hk']; rfl
theorem has_pre (s : ByteArray) (a : Nat) (_ha : a < s.size) (g : List UInt8) (W : World) :
    Calls Tryz.prog 59 #[.string (s.extract a s.size), .string ⟨g.toArray⟩] W fun e w' => e = .returned (.bool (isPre g (s.data.toList.drop a))) ∧ w' = W := by
  have h := Tryz.strings_HasPrefix (s.extract a s.size) ⟨g.toArray⟩ W
  have e : (s.extract a s.size).data.toList = s.data.toList.drop a := by rw [show (s.extract a s.size).data.toList = (s.data.toList.drop a).take (s.size - a) from by simp [List.extract_eq_take_drop]]; exact List.take_of_length_le (by simp)
  rw [e, show (⟨g.toArray⟩ : ByteArray).data.toList = g from rfl, isPre_eq] at h
  exact h
theorem tres_quote {q : Option (List UInt8 × Nat)} {n : Int} {t : ByteArray} {ok : Bool} (h : QRes q n t ok) (a : Int) : TRes (q.map fun x => (4, x.1, x.2)) a 4 t a n ok := by
  cases q with
  | none => exact h
  | some x => obtain ⟨h1, h2, h3⟩ := h; exact ⟨h1, rfl, h3, rfl, h2⟩
set_option maxHeartbeats 1000000 in
set_option maxRecDepth 100000 in
theorem ltoken_quote (R : Nat) (s : ByteArray) (a : Nat) (w : World) (hs : s.size ≤ 1000000000000) (hB : ∀ c, c ∈ s.data.toList → isB c = true) (ha : a < s.size) (hRd : Rd w R s a) (h4 : s[a] = 34) :
    Calls Tryz.prog 86 #[.pointer (some ⟨R, 0, none⟩)] w (RFPost (tok1 (s.data.toList.drop a)) a w) := by
  have hc : clsOf s[a] = 0 := by rw [h4]; rfl
  obtain ⟨wb, sb, hR, hwb, hsb, hne1, hne2⟩ := hRd
  have hc0 : w.cell? ⟨R, 0, none⟩ = some (.string s) := cell_heap hR 0
  have hc1 : w.cell? ⟨R, 1, none⟩ = some (.int .i64 a) := cell_heap hR 1
  have hn0 : ∀ o, (w.alloc o).cell? ⟨R, 0, none⟩ = some (.string s) := fun o => cell_later (below_alloc w o) hc0
  have hn1 : ∀ o, (w.alloc o).cell? ⟨R, 1, none⟩ = some (.int .i64 a) := fun o => cell_later (below_alloc w o) hc1
  have hlt : (a : Int) < (s.size : Int) := by omega
  have h34 : ((s[a].toNat : Int) == 34) = true := by rw [h4]; rfl
  have hq := tok1_quote s a ha h4
  have Hcls := hid (fun (W : World) => (show Calls Tryz.prog 104 #[.int .u8 34] W (fun e w' => e = .returned (.int .u8 0) ∧ W = w') from classOf_any 34 W))
  have hex : (s.extract a s.size).data.toList = s.data.toList.drop a := by rw [show (s.extract a s.size).data.toList = (s.data.toList.drop a).take (s.size - a) from by simp [List.extract_eq_take_drop]]; exact List.take_of_length_le (by simp)
  have Hqd := hid (fun (W : World) => hex ▸ lquoted_any (s.extract a s.size) W (by simp; omega) (fun c hc => hB c (by rw [hex] at hc; exact List.mem_of_mem_drop hc)))
  generalize Lode.quoted (s.data.toList.drop a) = q0 at *
  have Hq := hid hq; clear hq hB hex
  generalize tok1 (s.data.toList.drop a) = q at *
  have HR := hid hR; clear hR hwb hsb
  go_enter Tryz.func86, Tryz.ntmps86
  go_wp2_with fail
  go_quiet (fail)
  go_wp2_with (first
    | (go_at_call 104; refine (Hcls.out _).mono ?_; rintro e w' ⟨rfl, rfl⟩))
  have hr := (Tk.mk (a := a) (k := 0) (t := ⟨#[]⟩) (bl_drewN (below_alloc w (T0 a)) nq) (by rw [drewN_heap]; exact heap_new _ _)).kind 4
  generalize World.setCell _ _ _ = W2 at hr ⊢
  clear hn0 hn1
  obtain ⟨d0, d1, d2, _⟩ := hr.rdr HR.out
  obtain ⟨t0, t1, t2, f0, f1, f2⟩ := hr.cells
  have ne := rdr_ne HR.out
  clear hc0 hc1
  have hr := hid hr
  have hTlt : w.heap.size < W2.heap.size := World.block_lt_of_cell? W2 _ t0
  have e4 : (a : Int) ≤ (s.size : Int) := by omega
  refine wp_calm ?_
  go_region_held3 (fun w' => w'.cell? ⟨R, 0, none⟩ = some (.string s) ∧ w'.cell? ⟨R, 1, none⟩ = some (.int .i64 a)) (first | (go_keep; done) | (go_split_ands; refine ⟨?_, ?_⟩ <;> exact cell_later hb4 (by assumption)) | (go_split_ands; refine ⟨?_, ?_⟩ <;> (simp only [cell_set_far ne]; assumption)))
    (first | (go_at_call 60; refine (Hqd.out _).mono ?_; rintro e w4 ⟨tq, nq4, okq, rfl, hQ, hb4⟩; have g1 := frozen_later (w := W2.drew) hb4 hTlt f1; have c1 := cell_later (w := W2.drew) hb4 t1))
  have hr4 := (hr.out.drew.later hb4).text tq
  generalize World.setCell _ ⟨_, 1, none⟩ _ = W5 at hr4 ⊢
  clear t0 t1 t2 f0 f1 f2 c1 g1
  obtain ⟨t0, t1, t2, f0, f1, f2⟩ := hr4.cells
  have hr4 := hid hr4
  go_wp2_with fail
  have hr6 := ((hr4.out.kind 4).text tq).at
  generalize World.setCell _ ⟨_, 2, none⟩ _ = W6 at hr6 ⊢
  obtain ⟨u0, u1, u2, v0, v1, v2⟩ := hr6.cells
  refine bodyPost_ret (v := .tuple #[.agg #[.int .u8 4, .string tq, .int .i64 a], .int .i64 nq4, .bool okq]) (by simp [results, Tryz.results86, go_sem, u0, u1, u2]) rfl ?_
  refine ⟨_, _, _, _, _, rfl, ?_, hr6.b⟩
  rw [Hq.out]
  exact tres_quote hQ a
set_option maxHeartbeats 1000000 in
set_option maxRecDepth 100000 in
theorem ltoken_sign (R : Nat) (s : ByteArray) (a : Nat) (w : World) (_hs : s.size ≤ 1000000000000) (ha : a < s.size) (hRd : Rd w R s a) (h1 : small s[a] = false) (h2 : big s[a] = false) (h3 : digit s[a] = false) (h4 : s[a] ≠ 34) :
    Calls Tryz.prog 86 #[.pointer (some ⟨R, 0, none⟩)] w (RFPost (tok1 (s.data.toList.drop a)) a w) := by
  have hc : clsOf s[a] = 0 := by simp [clsOf, h1, h2, h3]
  obtain ⟨wb, sb, hR, hwb, hsb, hne1, hne2⟩ := hRd
  have hc0 : w.cell? ⟨R, 0, none⟩ = some (.string s) := cell_heap hR 0
  have hc1 : w.cell? ⟨R, 1, none⟩ = some (.int .i64 a) := cell_heap hR 1
  have hc3 : w.cell? ⟨R, 3, none⟩ = some (.slice (some ⟨sb, 0, none⟩) 25 25) := cell_heap hR 3
  have hn0 : ∀ o, (w.alloc o).cell? ⟨R, 0, none⟩ = some (.string s) := fun o => cell_later (below_alloc w o) hc0
  have hn1 : ∀ o, (w.alloc o).cell? ⟨R, 1, none⟩ = some (.int .i64 a) := fun o => cell_later (below_alloc w o) hc1
  have hn3 : ∀ o n, ((w.alloc o).drewN n).cell? ⟨R, 3, none⟩ = some (.slice (some ⟨sb, 0, none⟩) 25 25) := fun o n => cell_later (bl_drewN (below_alloc w o) n) hc3
  have hlt : (a : Int) < (s.size : Int) := by omega
  have h34 : ((s[a].toNat : Int) == 34) = false := by
    rw [beq_eq_false_iff_ne]; intro h; exact h4 (UInt8.toNat_inj.1 (by have : (34 : UInt8).toNat = 34 := rfl; omega))
  have Hq := hid (tok1_sign s a ha h1 h2 h3 h4)
  generalize tok1 (s.data.toList.drop a) = q at *
  have HR := hid hR; have Hsb := hid hsb; clear hR hwb hsb
  go_enter Tryz.func86, Tryz.ntmps86
  go_wp2_with fail
  go_quiet (fail)
  go_wp2_with (first
    | (go_at_call 104; refine (classOf_any _ _).mono ?_; rintro e w' ⟨rfl, rfl⟩; rw [hc]))
  have hr := Tk.mk (a := a) (k := 0) (t := ⟨#[]⟩) (bl_drewN (below_alloc w (T0 a)) nq) (by rw [drewN_heap]; exact heap_new _ _)
  generalize World.drewN _ _ = W2 at hr ⊢
  clear hn0 hn1 hn3
  obtain ⟨d0, d1, d2, d3⟩ := hr.rdr HR.out
  obtain ⟨t0, t1, t2, f0, f1, f2⟩ := hr.cells
  clear d0 d1 d2 d3 t0 t1 t2 f0 f1 f2 hc0 hc1 hc3
  have hr := hid hr
  go_loopw [140] (fun i wr => ∃ k : Nat, k ≤ 25 ∧ i = .int .i64 k ∧ Tk w wr 0 ⟨#[]⟩ a ∧ Hid (∀ j, j < k → isPre (signList.getD j []) (s.data.toList.drop a) = false)) (fun i _ => 25 - (intOf i).toNat)
  case atStart => exact ⟨0, by omega, rfl, hr.out, hid (fun j hj => absurd hj (Nat.not_lt_zero _))⟩
  case round =>
    obtain ⟨k, hk, rfl, hr, hall⟩ := hrel
    by_cases hlt : k < 25
    · have hg := signs_cell hr.b Hsb.out k hlt
      obtain ⟨g, hgg⟩ : ∃ g, signList.getD k [] = g := ⟨_, rfl⟩
      have Hp0 := hid (fun W => has_pre s a ha g W)
      rw [hgg] at hg
      have Hgg := hid hgg; clear hgg
      obtain ⟨d0, d1, d2, d3⟩ := hr.rdr HR.out
      obtain ⟨t0, t1, t2, f0, f1, f2⟩ := hr.cells
      have ne := rdr_ne HR.out
      have hr := hid hr
      have e4 : (a : Int) ≤ (s.size : Int) := by omega
      obtain ⟨bb, hbb⟩ : ∃ bb, isPre g (s.data.toList.drop a) = bb := ⟨_, rfl⟩
      have Hp := hid (fun W => hbb ▸ Hp0.out W)
      have Hbb := hid hbb; clear Hp0 hbb
      go_wp2_with fail
      go_quiet ((go_at_call 59; refine (Hp.out _).mono ?_; rintro e w' ⟨rfl, rfl⟩; exact ⟨rfl, _, rfl⟩))
      clear Hp
      cases bb with
      | true =>
        go_wp2_with fail
        have hr3 := (((((hr.out.drewN nq).kind 6).text ⟨g.toArray⟩).kind 6).text ⟨g.toArray⟩).at
        generalize World.setCell _ ⟨_, 2, none⟩ _ = W6 at hr3 ⊢
        obtain ⟨u0, u1, u2, v0, v1, v2⟩ := hr3.cells
        refine bodyPost_ret (v := .tuple #[.agg #[.int .u8 6, .string ⟨g.toArray⟩, .int .i64 a], .int .i64 g.length, .bool true]) (by simp [results, Tryz.results86, go_sem, u0, u1, u2]) rfl ?_
        refine ⟨_, _, _, _, _, rfl, ?_, hr3.b⟩
        rw [Hq.out, find_at (fun g => isPre g (s.data.toList.drop a)) [] signList k hall.out hlt (by rw [Hgg.out]; exact Hbb.out), Hgg.out]
        exact ⟨rfl, rfl, rfl, rfl, rfl⟩
      | false =>
        go_wp2_with fail
        go_roundw
        case rel =>
          refine ⟨k + 1, by omega, by go_num, hr.out.drewN nq, hid (fun j hj => ?_)⟩
          by_cases e : j = k
          · subst e; rw [Hgg.out]; exact Hbb.out
          · exact hall.out j (by omega)
        case measure => simp [intOf]; omega
    · obtain ⟨t0, t1, t2, f0, f1, f2⟩ := hr.cells
      have hk25 : k = 25 := by omega
      have hr := hid hr
      go_wp2_with fail
      have hr3 := ((hr.out.kind 0).text ⟨#[]⟩).at
      generalize World.setCell _ ⟨_, 2, none⟩ _ = W6 at hr3 ⊢
      obtain ⟨u0, u1, u2, v0, v1, v2⟩ := hr3.cells
      refine bodyPost_ret (v := .tuple #[.agg #[.int .u8 0, .string ⟨#[]⟩, .int .i64 a], .int .i64 0, .bool false]) (by simp [results, Tryz.results86, go_sem, u0, u1, u2]) rfl ?_
      refine ⟨_, _, _, _, _, rfl, ?_, hr3.b⟩
      rw [Hq.out, find_no (fun g => isPre g (s.data.toList.drop a)) [] signList (fun j hj => hall.out j (by rw [hk25]; exact hj))]
      exact rfl
end Go.Proofs.YthknlifmkjdoeaaGreatDoor

/-
  THE READER: token, whole.
-/
namespace Go.Proofs.YthknlifmkjdoeaaGreatDoor
open Go.RowKit Lode Go.Shelf
theorem ltoken_any (R : Nat) (s : ByteArray) (a : Nat) (w : World) (hs : s.size ≤ 1000000000000) (hB : ∀ c, c ∈ s.data.toList → isB c = true) (ha : a < s.size) (hRd : Rd w R s a) (hG : Glob w) :
    Calls Tryz.prog 86 #[.pointer (some ⟨R, 0, none⟩)] w (RFPost (tok1 (s.data.toList.drop a)) a w) := by
  by_cases h1 : small s[a] = true
  · exact ltoken_small R s a w hs ha hRd h1
  · have h1 : small s[a] = false := by simpa using h1
    by_cases h2 : big s[a] = true
    · exact ltoken_big R s a w hs ha hRd h1 h2
    · have h2 : big s[a] = false := by simpa using h2
      by_cases h3 : digit s[a] = true
      · exact ltoken_digit R s a w hs ha hRd hG h1 h2 h3
      · have h3 : digit s[a] = false := by simpa using h3
        by_cases h4 : s[a] = 34
        · exact ltoken_quote R s a w hs hB ha hRd h4
        · exact ltoken_sign R s a w hs ha hRd h1 h2 h3 h4
theorem ltoken_none (R : Nat) (s : ByteArray) (a : Nat) (w : World) (hs : s.size ≤ 1000000000000) (hB : ∀ c, c ∈ s.data.toList → isB c = true) (ha : a < s.size) (hRd : Rd w R s a) (hG : Glob w) (ht : tok1 (s.data.toList.drop a) = none) :
    Calls Tryz.prog 86 #[.pointer (some ⟨R, 0, none⟩)] w fun e w' => (∃ k t a' n, e = .returned (.tuple #[.agg #[.int .u8 k, .string t, .int .i64 a'], .int .i64 n, .bool false])) ∧ Below w.heap.size w w' :=
  (ltoken_any R s a w hs hB ha hRd hG).mono fun e w' ⟨k, t, a', n, ok, h1, h2, h3⟩ => by
    rw [ht] at h2
    exact ⟨⟨k, t, a', n, by rw [h1, show ok = false from h2]⟩, h3⟩
theorem ltoken_some (R : Nat) (s : ByteArray) (a : Nat) (w : World) (hs : s.size ≤ 1000000000000) (hB : ∀ c, c ∈ s.data.toList → isB c = true) (ha : a < s.size) (hRd : Rd w R s a) (hG : Glob w) (k : Nat) (t : List UInt8) (m : Nat) (ht : tok1 (s.data.toList.drop a) = some (k, t, m)) :
    Calls Tryz.prog 86 #[.pointer (some ⟨R, 0, none⟩)] w fun e w' => e = .returned (.tuple #[.agg #[.int .u8 k, .string ⟨t.toArray⟩, .int .i64 a], .int .i64 m, .bool true]) ∧ Below w.heap.size w w' :=
  (ltoken_any R s a w hs hB ha hRd hG).mono fun e w' ⟨k', t', a', n, ok, h1, h2, h3⟩ => by
    rw [ht] at h2
    obtain ⟨rfl, rfl, rfl, rfl, rfl⟩ := h2
    exact ⟨h1, h3⟩
/-- what a round that goes on keeps -/
def KpT (w0 : World) (R : Nat) (W W' : World) : Prop := (∀ s a, Rd W R s a → Rd W' R s a) ∧ (Below w0.heap.size w0 W → Below w0.heap.size w0 W')
theorem KpT.trans {w0 : World} {R : Nat} {A B C : World} (h : KpT w0 R A B) (k : KpT w0 R B C) : KpT w0 R A C := ⟨fun s a x => k.1 s a (h.1 s a x), fun x => k.2 (h.2 x)⟩
theorem skip_rd (R : Nat) (s : ByteArray) (a : Nat) (w : World) (hs : s.size ≤ 1000000000000) (ha : a ≤ s.size) (hR : Rd w R s a) :
    Calls Tryz.prog 85 #[.pointer (some ⟨R, 0, none⟩)] w fun e w' => e = .returned (.tuple #[]) ∧ Rd w' R s (a + gapLen false (s.data.toList.drop a)) ∧ w.grownBy w' (some R) := by
  obtain ⟨wb, sb, hR, hwb, hsb, hne1, hne2⟩ := hR
  refine (skip_any R s a _ _ w hs ha hR).mono fun e w' ⟨h1, h2, h3⟩ => ⟨h1, ⟨wb, sb, h2, ?_, ?_, hne1, hne2⟩, h3⟩
  · exact (h3.block _ (Array.getElem?_eq_some_iff.1 hwb).1 (fun e => hne1 (by cases e; rfl))).trans hwb
  · exact (h3.block _ (Array.getElem?_eq_some_iff.1 hsb).1 (fun e => hne2 (by cases e; rfl))).trans hsb
theorem Rd.below {w w' : World} {R : Nat} {s : ByteArray} {a : Nat} (h : Rd w R s a) (hb : Below w.heap.size w w') : Rd w' R s a := by
  obtain ⟨wb, sb, hR, hwb, hsb, hne1, hne2⟩ := h
  exact ⟨wb, sb, heap_later hb hR, heap_later hb hwb, heap_later hb hsb, hne1, hne2⟩
theorem Rd.step {w : World} {R : Nat} {s : ByteArray} {a : Nat} (h : Rd w R s a) (k : Int) (k' : Nat) (hk : k = k') : Rd (w.setCell ⟨R, 1, none⟩ (.int .i64 k)) R s k' := by
  obtain ⟨wb, sb, hR, hwb, hsb, hne1, hne2⟩ := h
  have g := grown_set w R 1 (.int .i64 k)
  exact ⟨wb, sb, hR.set k k' hk, (g.block _ (Array.getElem?_eq_some_iff.1 hwb).1 (fun e => hne1 (by cases e; rfl))).trans hwb, (g.block _ (Array.getElem?_eq_some_iff.1 hsb).1 (fun e => hne2 (by cases e; rfl))).trans hsb, hne1, hne2⟩
theorem Rd.pos {w : World} {R : Nat} {s : ByteArray} {a : Nat} (h : Rd w R s a) : rdrPos R w = a := by
  obtain ⟨wb, sb, hR, _⟩ := h; exact hR.pos
theorem grown_below {w w' : World} (h : Below w.heap.size w w') (r : Option Nat) : w.grownBy w' r := ⟨h.os, h.tape, h.output, h.size, fun k hk _ => h.block k hk⟩
theorem below_grownR {w0 w w' : World} {R : Nat} (h : Below w0.heap.size w0 w) (g : w.grownBy w' (some R)) (hR : w0.heap.size ≤ R) : Below w0.heap.size w0 w' :=
  ⟨g.os.trans h.os, g.tape.trans h.tape, g.output.trans h.output, Nat.le_trans h.size g.size, fun k hk => (g.block k (Nat.lt_of_lt_of_le hk h.size) (fun e => by cases e; omega)).trans (h.block k hk)⟩
end Go.Proofs.YthknlifmkjdoeaaGreatDoor
