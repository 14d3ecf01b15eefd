/-
  THE PROGRAM'S apart, spellAll, Apart.
-/
import Derived.Test.YthknlifmkjdoeaaGreatDoorLexO
import Derived.Test.YthknlifmkjdoeaaGreatDoorRefJ
namespace Lode
/-- whether two tokens, spelt, must be apart -/
def lapart (k1 : Nat) (t1 s1 : List UInt8) (k2 : Nat) (t2 s2 : List UInt8) : Bool :=
  !(decide ((read (s1 ++ s2)).2.2 = 0) && decide ((read (s1 ++ s2)).1 = [⟨k1, t1, 0⟩, ⟨k2, t2, s1.length⟩]))
end Lode
namespace Go.Proofs.YthknlifmkjdoeaaGreatDoor
open Go.RowKit Lode Go.Shelf
attribute [local go_sem ↓] Go.wp_at_zero Go.wp_at_succ
theorem two_tok {w : World} {b : Nat} {v : Value} {k1 k2 : Nat} {t1 t2 : List UInt8} {a1 a2 : Int} (h : Toks w b v [⟨k1, t1, a1⟩, ⟨k2, t2, a2⟩]) : ∃ g cap, v = .slice (some ⟨g, 0, none⟩) 2 cap ∧ w.cell? ⟨g, 0, none⟩ = some (.int .u8 k1) ∧ w.cell? ⟨g, 1, none⟩ = some (.string ⟨t1.toArray⟩) ∧ w.cell? ⟨g, 2, none⟩ = some (.int .i64 a1) ∧
    w.cell? ⟨g, 3, none⟩ = some (.int .u8 k2) ∧ w.cell? ⟨g, 4, none⟩ = some (.string ⟨t2.toArray⟩) ∧ w.cell? ⟨g, 5, none⟩ = some (.int .i64 a2) := by
  obtain ⟨_, ⟨_, h⟩ | ⟨g, cap, cur, rfl, h⟩⟩ := id h
  · cases h
  · exact ⟨g, cap, rfl, World.ownsRow.cellAt h 0 (by simp), World.ownsRow.cellAt h 1 (by simp), World.ownsRow.cellAt h 2 (by simp), World.ownsRow.cellAt h 3 (by simp), World.ownsRow.cellAt h 4 (by simp), World.ownsRow.cellAt h 5 (by simp)⟩
theorem box4 (w : World) (T : TypeId) (x y : Array Value) (c0 c1 c2 c3 d0 d1 d2 d3 : Value) (W : World) (hx : x = #[c0, c1, c2, c3]) (hy : y = #[d0, d1, d2, d3]) (h : Below ((w.alloc (.cells x T (0, 0))).alloc (.cells y T (0, 0))).heap.size ((w.alloc (.cells x T (0, 0))).alloc (.cells y T (0, 0))) W) :
    Below w.heap.size w W ∧ (W.cell? ⟨w.heap.size, 0, none⟩ = some c0 ∧ W.cell? ⟨w.heap.size, 1, none⟩ = some c1 ∧ W.cell? ⟨w.heap.size, 2, none⟩ = some c2 ∧ W.cell? ⟨w.heap.size, 3, none⟩ = some c3) ∧
    (W.cell? ⟨w.heap.size + 1, 0, none⟩ = some d0 ∧ W.cell? ⟨w.heap.size + 1, 1, none⟩ = some d1 ∧ W.cell? ⟨w.heap.size + 1, 2, none⟩ = some d2 ∧ W.cell? ⟨w.heap.size + 1, 3, none⟩ = some d3) := by
  subst hx hy
  have h0 := heap_later h (heap_old (.cells #[d0, d1, d2, d3] T (0, 0)) (heap_new w (.cells #[c0, c1, c2, c3] T (0, 0))))
  have h1 := heap_later h (b := w.heap.size + 1) (o := .cells #[d0, d1, d2, d3] T (0, 0)) (heap_at _ _ _ (by simp))
  exact ⟨below_then (bl_alloc (below_alloc _ _) _) h, ⟨cell_heap h0 0, cell_heap h0 1, cell_heap h0 2, cell_heap h0 3⟩, ⟨cell_heap h1 0, cell_heap h1 1, cell_heap h1 2, cell_heap h1 3⟩⟩
set_option maxHeartbeats 2000000 in
set_option maxRecDepth 100000 in
theorem lapart1_any (k1 : Nat) (t1 : List UInt8) (a1 : Int) (s1 : List UInt8) (k2 : Nat) (t2 : List UInt8) (a2 : Int) (s2 : List UInt8) (w : World) (h1 : s1.length ≤ 100000000000) (h2 : s2.length ≤ 100000000000) (hG : Glob w) :
    Calls Tryz.prog 68 #[SV k1 t1 a1 s1, SV k2 t2 a2 s2] w fun e w' => e = .returned (.bool (lapart k1 t1 s1 k2 t2 s2)) ∧ Below w.heap.size w w' := by
  generalize hr : lapart k1 t1 s1 k2 t2 s2 = r
  replace hr : r = !(decide ((read (s1 ++ s2)).2.2 = 0) && decide ((read (s1 ++ s2)).1 = [⟨k1, t1, 0⟩, ⟨k2, t2, s1.length⟩])) := hr.symm
  have hsz1 : (⟨s1.toArray⟩ : ByteArray).size = s1.length := rfl
  have hsz2 : (⟨s2.toArray⟩ : ByteArray).size = s2.length := rfl
  have HR := hid (fun (W : World) (hb : Below w.heap.size w W) => lread_any (⟨s1.toArray⟩ ++ ⟨s2.toArray⟩) W (by rw [ByteArray.size_append]; omega) (hG.later hb))
  rw [show ((⟨s1.toArray⟩ : ByteArray) ++ ⟨s2.toArray⟩).data.toList = s1 ++ s2 from by rw [app_data]] at HR
  have hb0 : ∀ o o', Below w.heap.size w ((w.alloc o).alloc o') := fun o o' => bl_alloc (below_alloc _ _) _
  generalize read (s1 ++ s2) = x at *
  clear hG
  obtain ⟨L, xa, xe⟩ := x
  simp only at hr
  by_cases h0 : xe = 0
  · subst h0
    by_cases hL : L.length = 2
    · obtain ⟨⟨j1, u1, b1⟩, ⟨j2, u2, b2⟩, rfl⟩ : ∃ x y, L = [x, y] := by
        match L, hL with
        | [x, y], _ => exact ⟨x, y, rfl⟩
      clear hL
      have tri : ∀ (i k : Nat) (u t : List UInt8) (b c : Int), ¬ (i = k ∧ u = t ∧ b = c) → ((i : Int) == (k : Int)) = false ∨ (i = k ∧ u ≠ t) ∨ (i = k ∧ u = t ∧ (b == c) = false) := fun i k u t b c he => by
        by_cases e1 : i = k
        · by_cases e2 : u = t
          · exact .inr (.inr ⟨e1, e2, by rw [beq_eq_false_iff_ne]; exact fun e3 => he ⟨e1, e2, e3⟩⟩)
          · exact .inr (.inl ⟨e1, e2⟩)
        · exact .inl (by rw [beq_eq_false_iff_ne]; omega)
      simp only [decide_true, Bool.true_and, List.cons.injEq, Tok.mk.injEq, and_true] at hr
      by_cases hA : j1 = k1 ∧ u1 = t1 ∧ b1 = 0
      · by_cases hB : j2 = k2 ∧ u2 = t2 ∧ b2 = (s1.length : Int)
        · rw [decide_eq_true (p := _ ∧ _) ⟨hA, hB⟩] at hr
          obtain ⟨rfl, rfl, rfl⟩ := hA
          obtain ⟨rfl, rfl, rfl⟩ := hB
          have hr2 : r = false := hr
          clear hr
          subst hr2
          clear tri
          go_enter Tryz.func68, Tryz.ntmps68
          go_wp2_with (go_at_call 23; refine (HR.out _ (hb0 _ _)).mono ?_; rintro e w1 ⟨v, rfl, htok, hb1⟩; obtain ⟨g, cap, rfl, e0, e1, e2, e3, e4, e5⟩ := two_tok htok; obtain ⟨hbw, ⟨c0, c1, c2, c3⟩, d0, d1, d2, d3⟩ := box4 w _ _ _ _ _ _ _ _ _ _ _ _ rfl rfl hb1)
          go_quiet (fail)
          go_wp2_with fail
          go_ret
          exact ⟨rfl, bl_drewN hbw nq⟩
        · rw [decide_eq_false (p := _ ∧ _) (fun e => hB e.2)] at hr
          obtain ⟨rfl, rfl, rfl⟩ := hA
          have hr2 : r = true := hr
          clear hr
          subst hr2
          have hne := tri _ _ _ _ _ _ hB
          clear tri hB
          rcases hne with hne | ⟨rfl, hne⟩ | ⟨rfl, rfl, hne⟩
          all_goals
            go_enter Tryz.func68, Tryz.ntmps68
            go_wp2_with (go_at_call 23; refine (HR.out _ (hb0 _ _)).mono ?_; rintro e w1 ⟨v, rfl, htok, hb1⟩; obtain ⟨g, cap, rfl, e0, e1, e2, e3, e4, e5⟩ := two_tok htok; obtain ⟨hbw, ⟨c0, c1, c2, c3⟩, d0, d1, d2, d3⟩ := box4 w _ _ _ _ _ _ _ _ _ _ _ _ rfl rfl hb1)
            go_quiet (fail)
            go_wp2_with fail
            go_ret
            exact ⟨rfl, bl_drewN hbw nq⟩
      · rw [decide_eq_false (p := _ ∧ _) (fun e => hA e.1)] at hr
        have hr2 : r = true := hr
        clear hr
        subst hr2
        have hne := tri _ _ _ _ _ _ hA
        clear tri hA
        rcases hne with hne | ⟨rfl, hne⟩ | ⟨rfl, rfl, hne⟩
        all_goals
          go_enter Tryz.func68, Tryz.ntmps68
          go_wp2_with (go_at_call 23; refine (HR.out _ (hb0 _ _)).mono ?_; rintro e w1 ⟨v, rfl, htok, hb1⟩; obtain ⟨g, cap, rfl, e0, e1, e2, e3, e4, e5⟩ := two_tok htok; obtain ⟨hbw, ⟨c0, c1, c2, c3⟩, d0, d1, d2, d3⟩ := box4 w _ _ _ _ _ _ _ _ _ _ _ _ rfl rfl hb1)
          go_quiet (fail)
          go_wp2_with fail
          go_ret
          exact ⟨rfl, bl_drewN hbw nq⟩
    · have hr2 : r = true := by rw [hr, decide_eq_false (p := L = _) (fun e => hL (by rw [e]; rfl))]; simp
      subst hr2
      have hL' : ((L.length : Int) != 2) = true := by rw [bne_iff_ne]; omega
      clear hr hL
      go_enter Tryz.func68, Tryz.ntmps68
      go_wp2_with (go_at_call 23; refine (HR.out _ (hb0 _ _)).mono ?_; rintro e w1 ⟨v, rfl, htok, hb1⟩; obtain ⟨p, cap, rfl⟩ := htok.form; obtain ⟨hbw, _, _⟩ := box4 w _ _ _ _ _ _ _ _ _ _ _ _ rfl rfl hb1)
      go_ret
      exact ⟨rfl, hbw⟩
  · have hr2 : r = true := by rw [hr, decide_eq_false (p := xe = 0) h0]; rfl
    subst hr2
    have h0' : ((xe : Int) != 0) = true := by rw [bne_iff_ne]; omega
    clear hr
    go_enter Tryz.func68, Tryz.ntmps68
    go_wp2_with (go_at_call 23; refine (HR.out _ (hb0 _ _)).mono ?_; rintro e w1 ⟨v, rfl, htok, hb1⟩; obtain ⟨p, cap, rfl⟩ := htok.form; obtain ⟨hbw, _, _⟩ := box4 w _ _ _ _ _ _ _ _ _ _ _ _ rfl rfl hb1)
    go_ret
    exact ⟨rfl, hbw⟩
abbrev sVals (t : Tok) : List Value := [.int .u8 t.kind, .string ⟨t.text.toArray⟩, .int .i64 t.at_, .string ⟨(lspell t.kind t.text).1.toArray⟩]
theorem Tryz.infoSp : (Tryz.prog.info? 96).map (fun i => (i.zero, i.size, i.bytes)) = some (some (.agg #[.int .u8 0, .string ⟨#[]⟩, .int .i64 0, .string ⟨#[]⟩]), 4, 48) := by kernel_rfl
end Go.Proofs.YthknlifmkjdoeaaGreatDoor
