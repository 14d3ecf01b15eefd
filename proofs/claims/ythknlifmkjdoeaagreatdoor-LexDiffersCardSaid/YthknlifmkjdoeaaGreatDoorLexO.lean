/-
  THE PROGRAM'S spell, spellAll, apart, Apart.
-/
import Derived.Test.YthknlifmkjdoeaaGreatDoorLexM
import Derived.Test.YthknlifmkjdoeaaGreatDoorLexN
namespace Lode
/-- a token's spelling, or the error -/
def lspell (k : Nat) (t : List UInt8) : List UInt8 × Nat :=
  if k = 4 then (if (quote t).2 = 0 then ((quote t).1, 0) else ([], 4)) else
  if (read t).1 = [⟨k, t, 0⟩] ∧ (read t).2.2 = 0 then (t, 0) else ([], 4)
end Lode
namespace Go.Proofs.YthknlifmkjdoeaaGreatDoor
open Go.RowKit Lode Go.Shelf
attribute [local go_sem ↓] Go.wp_at_zero Go.wp_at_succ
abbrev SV (k : Int) (t : List UInt8) (a : Int) (sp : List UInt8) : Value := .agg #[.int .u8 k, .string ⟨t.toArray⟩, .int .i64 a, .string ⟨sp.toArray⟩]
/-- the token's box and the result's cells -/
structure SpW (w W : World) (k : Int) (t : List UInt8) (a : Int) (k' : Int) (t' : List UInt8) (a' : Int) (sp : List UInt8) : Prop where
  b : Below w.heap.size w W
  tok : W.heap[w.heap.size]? = some (.cells #[.int .u8 k, .string ⟨t.toArray⟩, .int .i64 a] 46 (0, 0))
  out : W.heap[w.heap.size + 1]? = some (.cells #[.int .u8 k', .string ⟨t'.toArray⟩, .int .i64 a', .string ⟨sp.toArray⟩] 96 (0, 0))
theorem SpW.start (w : World) (k : Int) (t : List UInt8) (a : Int) (k' : Int) (t' : List UInt8) (a' : Int) (sp : List UInt8) : SpW w ((w.alloc (.cells #[.int .u8 k, .string ⟨t.toArray⟩, .int .i64 a] 46 (0, 0))).alloc (.cells #[.int .u8 k', .string ⟨t'.toArray⟩, .int .i64 a', .string ⟨sp.toArray⟩] 96 (0, 0))) k t a k' t' a' sp :=
  ⟨bl_alloc (below_alloc _ _) _, heap_old _ (heap_new _ _), heap_at _ _ _ (by simp)⟩
theorem SpW.later {w W W' : World} {k : Int} {t : List UInt8} {a : Int} {k' : Int} {t' : List UInt8} {a' : Int} {sp : List UInt8} (h : SpW w W k t a k' t' a' sp) (hb : Below W.heap.size W W') : SpW w W' k t a k' t' a' sp := ⟨below_then h.b hb, heap_later hb h.tok, heap_later hb h.out⟩
theorem SpW.toks {w W : World} {k : Int} {t : List UInt8} {a : Int} {k' : Int} {t' : List UInt8} {a' : Int} {sp : List UInt8} (h : SpW w W k t a k' t' a' sp) : W.cell? ⟨w.heap.size, 0, none⟩ = some (.int .u8 k) ∧ W.cell? ⟨w.heap.size, 1, none⟩ = some (.string ⟨t.toArray⟩) ∧ W.cell? ⟨w.heap.size, 2, none⟩ = some (.int .i64 a) := ⟨cell_heap h.tok 0, cell_heap h.tok 1, cell_heap h.tok 2⟩
theorem SpW.outs {w W : World} {k : Int} {t : List UInt8} {a : Int} {k' : Int} {t' : List UInt8} {a' : Int} {sp : List UInt8} (h : SpW w W k t a k' t' a' sp) : W.cell? ⟨w.heap.size + 1, 0, none⟩ = some (.int .u8 k') ∧ W.cell? ⟨w.heap.size + 1, 1, none⟩ = some (.string ⟨t'.toArray⟩) ∧ W.cell? ⟨w.heap.size + 1, 2, none⟩ = some (.int .i64 a') ∧ W.cell? ⟨w.heap.size + 1, 3, none⟩ = some (.string ⟨sp.toArray⟩) ∧
    W.frozen? ⟨w.heap.size + 1, 0, none⟩ = false ∧ W.frozen? ⟨w.heap.size + 1, 1, none⟩ = false ∧ W.frozen? ⟨w.heap.size + 1, 2, none⟩ = false ∧ W.frozen? ⟨w.heap.size + 1, 3, none⟩ = false := ⟨cell_heap h.out 0, cell_heap h.out 1, cell_heap h.out 2, cell_heap h.out 3, frozen_heap h.out 0, frozen_heap h.out 1, frozen_heap h.out 2, frozen_heap h.out 3⟩
theorem SpW.sp {w W : World} {k : Int} {t : List UInt8} {a : Int} {k' : Int} {t' : List UInt8} {a' : Int} {sp : List UInt8} (h : SpW w W k t a k' t' a' sp) (sp2 : List UInt8) : SpW w (W.setCell ⟨w.heap.size + 1, 3, none⟩ (.string ⟨sp2.toArray⟩)) k t a k' t' a' sp2 :=
  ⟨bl_set h.b _ _ (by omega) _, (set_far (by omega)).trans h.tok, set_heap h.out 3 _⟩
theorem SpW.all {w W : World} {k : Int} {t : List UInt8} {a : Int} {k' : Int} {t' : List UInt8} {a' : Int} {sp : List UInt8} (h : SpW w W k t a k' t' a' sp) (k2 : Int) (t2 : List UInt8) (a2 : Int) (sp2 : List UInt8) : SpW w ((((W.setCell ⟨w.heap.size + 1, 0, none⟩ (.int .u8 k2)).setCell ⟨w.heap.size + 1, 1, none⟩ (.string ⟨t2.toArray⟩)).setCell ⟨w.heap.size + 1, 2, none⟩ (.int .i64 a2)).setCell ⟨w.heap.size + 1, 3, none⟩ (.string ⟨sp2.toArray⟩)) k t a k2 t2 a2 sp2 :=
  ⟨bl_set (bl_set (bl_set (bl_set h.b _ _ (by omega) _) _ _ (by omega) _) _ _ (by omega) _) _ _ (by omega) _, (set_far (by omega)).trans ((set_far (by omega)).trans ((set_far (by omega)).trans ((set_far (by omega)).trans h.tok))), set_heap (set_heap (set_heap (set_heap h.out 0 _) 1 _) 2 _) 3 _⟩
/-- what spell hands back -/
def SpPost (k : Int) (t : List UInt8) (a : Int) (r : List UInt8 × Nat) (w : World) (e : Ending) (w' : World) : Prop :=
  (r.2 = 0 ∧ e = .returned (.tuple #[SV k t a r.1, .int .i64 0]) ∨ r.2 = 4 ∧ e = .returned (.tuple #[SV 0 [] 0 [], .int .i64 4])) ∧ Below w.heap.size w w'
theorem one_tok {w : World} {b : Nat} {v : Value} {k : Nat} {t : List UInt8} {a : Int} (h : Toks w b v [⟨k, t, a⟩]) : ∃ g cap, v = .slice (some ⟨g, 0, none⟩) 1 cap ∧ w.cell? ⟨g, 0, none⟩ = some (.int .u8 k) ∧ w.cell? ⟨g, 1, none⟩ = some (.string ⟨t.toArray⟩) ∧ w.cell? ⟨g, 2, none⟩ = some (.int .i64 a) := by
  obtain ⟨_, ⟨_, h⟩ | ⟨g, cap, cur, rfl, h⟩⟩ := id h
  · cases h
  · exact ⟨g, cap, rfl, World.ownsRow.cellAt h 0 (by simp), World.ownsRow.cellAt h 1 (by simp), World.ownsRow.cellAt h 2 (by simp)⟩
set_option maxHeartbeats 2000000 in
set_option maxRecDepth 100000 in
theorem lspell_any (k : Nat) (t : List UInt8) (a : Int) (w : World) (hs : t.length ≤ 1000000000000) (hG : Glob w) :
    Calls Tryz.prog 66 #[.agg #[.int .u8 k, .string ⟨t.toArray⟩, .int .i64 a]] w (SpPost k t a (lspell k t) w) := by
  generalize hr : lspell k t = r
  have Hr := hid hr; clear hr
  have HG := hid hG; clear hG
  by_cases hk : k = 4
  · subst hk
    have Hq := hid (fun w => lquote_any ⟨t.toArray⟩ w hs)
    rw [show (⟨t.toArray⟩ : ByteArray).data.toList = t from rfl] at Hq
    by_cases h0 : (quote t).2 = 0
    · have hre : r = ((quote t).1, 0) := by rw [← Hr.out, lspell, if_pos rfl, if_pos h0]
      generalize quote t = q at *
      obtain ⟨q1, q2⟩ := q
      simp only at h0 hre
      subst h0 hre
      go_enter Tryz.func66, Tryz.ntmps66
      go_wp2_with (go_at_call 26; refine (Hq.out _).mono ?_; rintro e w1 ⟨rfl, hb1⟩; have hS := (SpW.start w _ _ _ _ _ _ _).later hb1; obtain ⟨c0, c1, c2, c3, f0, f1, f2, f3⟩ := hS.outs)
      have hS2 := (hS.sp q1).all 4 t a q1
      generalize World.setCell _ ⟨w.heap.size + 1, 3, none⟩ _ = W9 at hS2 ⊢
      obtain ⟨u0, u1, u2, u3, _⟩ := hS2.outs
      refine bodyPost_ret (v := .tuple #[SV 4 t a q1, .int .i64 0]) (by simp [results, Tryz.results66, go_sem, u0, u1, u2, u3]) rfl ?_
      exact ⟨.inl ⟨rfl, rfl⟩, hS2.b⟩
    · have hre : r = ([], 4) := by rw [← Hr.out, lspell, if_pos rfl, if_neg h0]
      generalize quote t = q at *
      obtain ⟨q1, q2⟩ := q
      simp only at h0
      subst hre
      have h0' : ((q2 : Int) != 0) = true := by rw [bne_iff_ne]; omega
      go_enter Tryz.func66, Tryz.ntmps66
      go_wp2_with (go_at_call 26; refine (Hq.out _).mono ?_; rintro e w1 ⟨rfl, hb1⟩; have hS := (SpW.start w _ _ _ _ _ _ _).later hb1; obtain ⟨c0, c1, c2, c3, f0, f1, f2, f3⟩ := hS.outs)
      have hS2 := (hS.sp q1).all 0 [] 0 []
      generalize World.setCell _ ⟨w.heap.size + 1, 3, none⟩ (.string ⟨#[]⟩) = W9 at hS2 ⊢
      obtain ⟨u0, u1, u2, u3, _⟩ := hS2.outs
      refine bodyPost_ret (v := .tuple #[SV 0 [] 0 [], .int .i64 4]) (by simp [results, Tryz.results66, go_sem, u0, u1, u2, u3]) rfl ?_
      exact ⟨.inr ⟨rfl, rfl⟩, hS2.b⟩
  · have hk' : ((k : Int) == 4) = false := by rw [beq_eq_false_iff_ne]; omega
    have hre : r = if (read t).1 = [⟨k, t, 0⟩] ∧ (read t).2.2 = 0 then (t, 0) else ([], 4) := by rw [← Hr.out, lspell, if_neg hk]
    have HR := hid (fun (W : World) (hb : Below w.heap.size w W) => lread_any ⟨t.toArray⟩ W hs (HG.out.later hb))
    rw [show (⟨t.toArray⟩ : ByteArray).data.toList = t from rfl] at HR
    have hb0 : ∀ o o', Below w.heap.size w ((w.alloc o).alloc o') := fun o o' => bl_alloc (below_alloc _ _) _
    generalize read t = x at *
    obtain ⟨L, xa, xe⟩ := x
    by_cases h0 : xe = 0
    · subst h0
      by_cases h1 : L.length = 1
      · obtain ⟨⟨k1, t1, a1⟩, rfl⟩ := List.length_eq_one_iff.1 h1
        clear h1
        by_cases he : k1 = k ∧ t1 = t ∧ a1 = 0
        · obtain ⟨rfl, rfl, rfl⟩ := he
          have hr2 : r = (t1, 0) := by rw [hre, if_pos ⟨rfl, rfl⟩]
          subst hr2
          clear hre
          go_enter Tryz.func66, Tryz.ntmps66
          go_wp2_with (go_at_call 23; refine (HR.out _ (hb0 _ _)).mono ?_; rintro e w1 ⟨v, rfl, htok, hb1⟩; obtain ⟨g, cap, rfl, e0, e1, e2⟩ := one_tok htok; have hS := (SpW.start w _ _ _ _ _ _ _).later hb1; obtain ⟨c0, c1, c2, c3, f0, f1, f2, f3⟩ := hS.outs; obtain ⟨d0, d1, d2⟩ := hS.toks)
          go_quiet (fail)
          have hS3 := (hS.later (bl_drewN (Below.refl _ _) nq)).all k1 t1 a t1
          go_wp2_with fail
          generalize World.setCell _ ⟨w.heap.size + 1, 3, none⟩ _ = W9 at hS3 ⊢
          obtain ⟨u0, u1, u2, u3, _⟩ := hS3.outs
          refine bodyPost_ret (v := .tuple #[SV k1 t1 a t1, .int .i64 0]) (by simp [results, Tryz.results66, go_sem, u0, u1, u2, u3]) rfl ?_
          exact ⟨.inl ⟨rfl, rfl⟩, hS3.b⟩
        · have hr2 : r = ([], 4) := by
            rw [hre, if_neg]
            rintro ⟨e, _⟩
            simp only [List.cons.injEq, Tok.mk.injEq, and_true] at e
            exact he e
          subst hr2
          clear hre
          have hne : ((k1 : Int) == (k : Int)) = false ∨ (k1 = k ∧ t1 ≠ t) ∨ (k1 = k ∧ t1 = t ∧ (a1 == 0) = false) := by
            by_cases e1 : k1 = k
            · by_cases e2 : t1 = t
              · exact .inr (.inr ⟨e1, e2, by rw [beq_eq_false_iff_ne]; exact fun e3 => he ⟨e1, e2, e3⟩⟩)
              · exact .inr (.inl ⟨e1, e2⟩)
            · exact .inl (by rw [beq_eq_false_iff_ne]; omega)
          clear he
          rcases hne with hne | ⟨rfl, hne⟩ | ⟨rfl, rfl, hne⟩
          all_goals
            go_enter Tryz.func66, Tryz.ntmps66
            go_wp2_with (go_at_call 23; refine (HR.out _ (hb0 _ _)).mono ?_; rintro e w1 ⟨v, rfl, htok, hb1⟩; obtain ⟨g, cap, rfl, e0, e1, e2⟩ := one_tok htok; have hS := (SpW.start w _ _ _ _ _ _ _).later hb1; obtain ⟨c0, c1, c2, c3, f0, f1, f2, f3⟩ := hS.outs; obtain ⟨d0, d1, d2⟩ := hS.toks)
            go_quiet (fail)
            have hS3 := (hS.later (bl_drewN (Below.refl _ _) nq)).all 0 [] 0 []
            go_wp2_with fail
            generalize World.setCell _ ⟨w.heap.size + 1, 3, none⟩ (.string ⟨#[]⟩) = W9 at hS3 ⊢
            obtain ⟨u0, u1, u2, u3, _⟩ := hS3.outs
            refine bodyPost_ret (v := .tuple #[SV 0 [] 0 [], .int .i64 4]) (by simp [results, Tryz.results66, go_sem, u0, u1, u2, u3]) rfl ?_
            exact ⟨.inr ⟨rfl, rfl⟩, hS3.b⟩
      · have hr2 : r = ([], 4) := by rw [hre, if_neg (fun e => h1 (by have e1 := e.1; simp only at e1; rw [e1]; rfl))]
        subst hr2
        have h1' : ((L.length : Int) != 1) = true := by rw [bne_iff_ne]; omega
        clear hre h1
        go_enter Tryz.func66, Tryz.ntmps66
        go_wp2_with (go_at_call 23; refine (HR.out _ (hb0 _ _)).mono ?_; rintro e w1 ⟨v, rfl, htok, hb1⟩; obtain ⟨p, cap, rfl⟩ := htok.form; have hS := (SpW.start w _ _ _ _ _ _ _).later hb1; obtain ⟨c0, c1, c2, c3, f0, f1, f2, f3⟩ := hS.outs; obtain ⟨d0, d1, d2⟩ := hS.toks)
        go_quiet (fail)
        have hS3 := (hS.later (bl_drewN (Below.refl _ _) nq)).all 0 [] 0 []
        go_wp2_with fail
        generalize World.setCell _ ⟨w.heap.size + 1, 3, none⟩ (.string ⟨#[]⟩) = W9 at hS3 ⊢
        obtain ⟨u0, u1, u2, u3, _⟩ := hS3.outs
        refine bodyPost_ret (v := .tuple #[SV 0 [] 0 [], .int .i64 4]) (by simp [results, Tryz.results66, go_sem, u0, u1, u2, u3]) rfl ?_
        exact ⟨.inr ⟨rfl, rfl⟩, hS3.b⟩
    · have hr2 : r = ([], 4) := by rw [hre, if_neg (fun e => h0 e.2)]
      subst hr2
      have h0' : ((xe : Int) != 0) = true := by rw [bne_iff_ne]; omega
      clear hre
      go_enter Tryz.func66, Tryz.ntmps66
      go_wp2_with (go_at_call 23; refine (HR.out _ (hb0 _ _)).mono ?_; rintro e w1 ⟨v, rfl, htok, hb1⟩; obtain ⟨p, cap, rfl⟩ := htok.form; have hS := (SpW.start w _ _ _ _ _ _ _).later hb1; obtain ⟨c0, c1, c2, c3, f0, f1, f2, f3⟩ := hS.outs; obtain ⟨d0, d1, d2⟩ := hS.toks)
      go_quiet (fail)
      have hS3 := (hS.later (bl_drewN (Below.refl _ _) nq)).all 0 [] 0 []
      go_wp2_with fail
      generalize World.setCell _ ⟨w.heap.size + 1, 3, none⟩ (.string ⟨#[]⟩) = W9 at hS3 ⊢
      obtain ⟨u0, u1, u2, u3, _⟩ := hS3.outs
      refine bodyPost_ret (v := .tuple #[SV 0 [] 0 [], .int .i64 4]) (by simp [results, Tryz.results66, go_sem, u0, u1, u2, u3]) rfl ?_
      exact ⟨.inr ⟨rfl, rfl⟩, hS3.b⟩
end Go.Proofs.YthknlifmkjdoeaaGreatDoor
