/-
  THE PROGRAM'S apart, spellAll, Apart.
-/
import Derived.Test.YthknlifmkjdoeaaGreatDoorLexN
import Derived.Test.YthknlifmkjdoeaaGreatDoorRefI
namespace Lode
/-- whether two tokens, spelt, must be apart -/
def lapart (k1 : Nat) (t1 s1 : List UInt8) (k2 : Nat) (t2 s2 : List UInt8) : Bool :=
  !(decide ((read (s1 ++ s2)).2.2 = 0) && decide ((read (s1 ++ s2)).1 = [⟨k1, t1, 0⟩, ⟨k2, t2, s1.length⟩]))
end Lode
namespace Go.Proofs.YthknlifmkjdoeaaGreatDoor
open Go.RowKit Lode Go.Shelf
attribute [local go_sem ↓] Go.wp_at_zero Go.wp_at_succ
theorem two_tok {w : World} {b : Nat} {v : Value} {k1 k2 : Nat} {t1 t2 : List UInt8} {a1 a2 : Int} (h : Toks w b v [⟨k1, t1, a1⟩, ⟨k2, t2, a2⟩]) : ∃ g cap, v = .slice (some ⟨g, 0, none⟩) 2 cap ∧ w.cell? ⟨g, 0, none⟩ = some (.int .u8 k1) ∧ w.cell? ⟨g, 1, none⟩ = some (.string ⟨t1.toArray⟩) ∧ w.cell? ⟨g, 2, none⟩ = some (.int .i64 a1) ∧
    w.cell? ⟨g, 3, none⟩ = some (.int .u8 k2) ∧ w.cell? ⟨g, 4, none⟩ = some (.string ⟨t2.toArray⟩) ∧ w.cell? ⟨g, 5, none⟩ = some (.int .i64 a2) := by
  obtain ⟨_, ⟨_, h⟩ | ⟨g, cap, cur, rfl, h⟩⟩ := id h
  · cases h
  · exact ⟨g, cap, rfl, World.ownsRow.cellAt h 0 (by simp), World.ownsRow.cellAt h 1 (by simp), World.ownsRow.cellAt h 2 (by simp), World.ownsRow.cellAt h 3 (by simp), World.ownsRow.cellAt h 4 (by simp), World.ownsRow.cellAt h 5 (by simp)⟩
theorem box4 (w : World) (T : TypeId) (x y : Array Value) (c0 c1 c2 c3 d0 d1 d2 d3 : Value) (W : World) (hx : x = #[c0, c1, c2, c3]) (hy : y = #[d0, d1, d2, d3]) (h : Below ((w.alloc (.cells x T (0, 0))).alloc (.cells y T (0, 0))).heap.size ((w.alloc (.cells x T (0, 0))).alloc (.cells y T (0, 0))) W) :
    Below w.heap.size w W ∧ (W.cell? ⟨w.heap.size, 0, none⟩ = some c0 ∧ W.cell? ⟨w.heap.size, 1, none⟩ = some c1 ∧ W.cell? ⟨w.heap.size, 2, none⟩ = some c2 ∧ W.cell? ⟨w.heap.size, 3, none⟩ = some c3) ∧
    (W.cell? ⟨w.heap.size + 1, 0, none⟩ = some d0 ∧ W.cell? ⟨w.heap.size + 1, 1, none⟩ = some d1 ∧ W.cell? ⟨w.heap.size + 1, 2, none⟩ = some d2 ∧ W.cell? ⟨w.heap.size + 1, 3, none⟩ = some d3) := by
  subst hx hy
  have h0 := heap_later h (heap_old (.cells #[d0, d1, d2, d3] T (0, 0)) (heap_new w (.cells #[c0, c1, c2, c3] T (0, 0))))
  have h1 := heap_later h (b := w.heap.size + 1) (o := .cells #[d0, d1, d2, d3] T (0, 0)) (heap_at _ _ _ (by simp))
  exact ⟨below_then (bl_alloc (below_alloc _ _) _) h, ⟨cell_heap h0 0, cell_heap h0 1, cell_heap h0 2, cell_heap h0 3⟩, ⟨cell_heap h1 0, cell_heap h1 1, cell_heap h1 2, cell_heap h1 3⟩⟩
set_option maxHeartbeats 2000000 in
set_option maxRecDepth 100000 in
theorem lapart1_any (k1 : Nat) (t1 : List UInt8) (a1 : Int) (s1 : List UInt8) (k2 : Nat) (t2 : List UInt8) (a2 : Int) (s2 : List UInt8) (w : World) (h1 : s1.length ≤ 100000000000) (h2 : s2.length ≤ 100000000000) (hG : Glob w) :
    Calls Tryz.prog 68 #[SV k1 t1 a1 s1, SV k2 t2 a2 s2] w fun e w' => e = .returned (.bool (lapart k1 t1 s1 k2 t2 s2)) ∧ Below w.heap.size w w' := by
  generalize hr : lapart k1 t1 s1 k2 t2 s2 = r
  replace hr : r = !(decide ((read (s1 ++ s2)).2.2 = 0) && decide ((read (s1 ++ s2)).1 = [⟨k1, t1, 0⟩, ⟨k2, t2, s1.length⟩])) := hr.symm
  have hsz1 : (⟨s1.toArray⟩ : ByteArray).size = s1.length := rfl
  have hsz2 : (⟨s2.toArray⟩ : ByteArray).size = s2.length := rfl
  have HR := hid (fun (W : World) (hb : Below w.heap.size w W) => lread_any (⟨s1.toArray⟩ ++ ⟨s2.toArray⟩) W (by rw [ByteArray.size_append]; omega) (hG.later hb))
  rw [show ((⟨s1.toArray⟩ : ByteArray) ++ ⟨s2.toArray⟩).data.toList = s1 ++ s2 from by rw [app_data]] at HR
  have hb0 : ∀ o o', Below w.heap.size w ((w.alloc o).alloc o') := fun o o' => bl_alloc (below_alloc _ _) _
  generalize read (s1 ++ s2) = x at *
  clear hG
  obtain ⟨L, xa, xe⟩ := x
  simp only at hr
  by_cases h0 : xe = 0
  · subst h0
    by_cases hL : L.length = 2
    · obtain ⟨⟨j1, u1, b1⟩, ⟨j2, u2, b2⟩, rfl⟩ : ∃ x y, L = [x, y] := by
        match L, hL with
        | [x, y], _ => exact ⟨x, y, rfl⟩
      clear hL
      have tri : ∀ (i k : Nat) (u t : List UInt8) (b c : Int), ¬ (i = k ∧ u = t ∧ b = c) → ((i : Int) == (k : Int)) = false ∨ (i = k ∧ u ≠ t) ∨ (i = k ∧ u = t ∧ (b == c) = false) := fun i k u t b c he => by
        by_cases e1 : i = k
        · by_cases e2 : u = t
          · exact .inr (.inr ⟨e1, e2, by rw [beq_eq_false_iff_ne]; exact fun e3 => he ⟨e1, e2, e3⟩⟩)
          · exact .inr (.inl ⟨e1, e2⟩)
        · exact .inl (by rw [beq_eq_false_iff_ne]; omega)
      simp only [decide_true, Bool.true_and, List.cons.injEq, Tok.mk.injEq, and_true] at hr
      by_cases hA : j1 = k1 ∧ u1 = t1 ∧ b1 = 0
      · by_cases hB : j2 = k2 ∧ u2 = t2 ∧ b2 = (s1.length : Int)
        · rw [decide_eq_true (p := _ ∧ _) ⟨hA, hB⟩] at hr
          obtain ⟨rfl, rfl, rfl⟩ := hA
          obtain ⟨rfl, rfl, rfl⟩ := hB
          have hr2 : r = false := hr
          clear hr
          subst hr2
          clear tri
          go_enter Tryz.func68, Tryz.ntmps68
          go_wp2_with (go_at_call 23; refine (HR.out _ (hb0 _ _)).mono ?_; rintro e w1 ⟨v, rfl, htok, hb1⟩; obtain ⟨g, cap, rfl, e0, e1, e2, e3, e4, e5⟩ := two_tok htok; obtain ⟨hbw, ⟨c0, c1, c2, c3⟩, d0, d1, d2, d3⟩ := box4 w _ _ _ _ _ _ _ _ _ _ _ _ rfl rfl hb1)
          go_quiet (fail)
          go_wp2_with fail
          go_ret
          exact ⟨rfl, bl_drewN hbw nq⟩
        · rw [decide_eq_false (p := _ ∧ _) (fun e => hB e.2)] at hr
          obtain ⟨rfl, rfl, rfl⟩ := hA
          have hr2 : r = true := hr
          clear hr
          subst hr2
          have hne := tri _ _ _ _ _ _ hB
          clear tri hB
          rcases hne with hne | ⟨rfl, hne⟩ | ⟨rfl, rfl, hne⟩
          all_goals
            go_enter Tryz.func68, Tryz.ntmps68
            go_wp2_with (go_at_call 23; refine (HR.out _ (hb0 _ _)).mono ?_; rintro e w1 ⟨v, rfl, htok, hb1⟩; obtain ⟨g, cap, rfl, e0, e1, e2, e3, e4, e5⟩ := two_tok htok; obtain ⟨hbw, ⟨c0, c1, c2, c3⟩, d0, d1, d2, d3⟩ := box4 w _ _ _ _ _ _ _ _ _ _ _ _ rfl rfl hb1)
            go_quiet (fail)
            go_wp2_with fail
            go_ret
            exact ⟨rfl, bl_drewN hbw nq⟩
      · rw [decide_eq_false (p := _ ∧ _) (fun e => hA e.1)] at hr
        have hr2 : r = true := hr
        clear hr
        subst hr2
        have hne := tri _ _ _ _ _ _ hA
        clear tri hA
        rcases hne with hne | ⟨rfl, hne⟩ | ⟨rfl, rfl, hne⟩
        all_goals
          go_enter Tryz.func68, Tryz.ntmps68
          go_wp2_with (go_at_call 23; refine (HR.out _ (hb0 _ _)).mono ?_; rintro e w1 ⟨v, rfl, htok, hb1⟩; obtain ⟨g, cap, rfl, e0, e1, e2, e3, e4, e5⟩ := two_tok htok; obtain ⟨hbw, ⟨c0, c1, c2, c3⟩, d0, d1, d2, d3⟩ := box4 w _ _ _ _ _ _ _ _ _ _ _ _ rfl rfl hb1)
          go_quiet (fail)
          go_wp2_with fail
          go_ret
          exact ⟨rfl, bl_drewN hbw nq⟩
    · have hr2 : r = true := by rw [hr, decide_eq_false (p := L = _) (fun e => hL (by rw [e]; rfl))]; simp
      subst hr2
      have hL' : ((L.length : Int) != 2) = true := by rw [bne_iff_ne]; omega
      clear hr hL
      go_enter Tryz.func68, Tryz.ntmps68
      go_wp2_with (go_at_call 23; refine (HR.out _ (hb0 _ _)).mono ?_; rintro e w1 ⟨v, rfl, htok, hb1⟩; obtain ⟨p, cap, rfl⟩ := htok.form; obtain ⟨hbw, _, _⟩ := box4 w _ _ _ _ _ _ _ _ _ _ _ _ rfl rfl hb1)
      go_ret
      exact ⟨rfl, hbw⟩
  · have hr2 : r = true := by rw [hr, decide_eq_false (p := xe = 0) h0]; rfl
    subst hr2
    have h0' : ((xe : Int) != 0) = true := by rw [bne_iff_ne]; omega
    clear hr
    go_enter Tryz.func68, Tryz.ntmps68
    go_wp2_with (go_at_call 23; refine (HR.out _ (hb0 _ _)).mono ?_; rintro e w1 ⟨v, rfl, htok, hb1⟩; obtain ⟨p, cap, rfl⟩ := htok.form; obtain ⟨hbw, _, _⟩ := box4 w _ _ _ _ _ _ _ _ _ _ _ _ rfl rfl hb1)
    go_ret
    exact ⟨rfl, hbw⟩
abbrev sVals (t : Tok) : List Value := [.int .u8 t.kind, .string ⟨t.text.toArray⟩, .int .i64 t.at_, .string ⟨(lspell t.kind t.text).1.toArray⟩]
theorem Tryz.infoSp : (Tryz.prog.info? 96).map (fun i => (i.zero, i.size, i.bytes)) = some (some (.agg #[.int .u8 0, .string ⟨#[]⟩, .int .i64 0, .string ⟨#[]⟩]), 4, 48) := by kernel_rfl
end Go.Proofs.YthknlifmkjdoeaaGreatDoor

/-
  THE PROGRAM'S spellAll, Apart.
-/
namespace Lode
def okSp (t : Tok) : Bool := (lspell t.kind t.text).2 == 0
def lspellAll (l : List Tok) : Nat := if 1200 < l.length then 5 else if l.all okSp then 0 else 4
def lApart (a b : Tok) : Bool × Nat := if lspellAll [a, b] ≠ 0 then (false, lspellAll [a, b]) else (lapart a.kind a.text (lspell a.kind a.text).1 b.kind b.text (lspell b.kind b.text).1, 0)
end Lode
namespace Go.Proofs.YthknlifmkjdoeaaGreatDoor
open Go.RowKit Lode Go.Shelf
attribute [local go_sem ↓] Go.wp_at_zero Go.wp_at_succ
def sCells (l : List Tok) : List Value := l.flatMap sVals
theorem lspell_err (k : Nat) (t : List UInt8) : (lspell k t).2 = 0 ∨ (lspell k t).2 = 4 := by
  unfold lspell
  split
  · split <;> simp
  · split <;> simp
theorem row_below {w W : World} {b : Nat} {e : TypeId} {sz : Nat} {v : Value} {n : Nat} {xs : List Value} (h : w.ownsRow b e sz v n xs) (hb : Below w.heap.size w W) : W.ownsRow b e sz v n xs :=
  World.ownsRow.kept (row := none) h ⟨hb.os, hb.tape, hb.output, hb.size, fun k hk _ => hb.block k hk⟩ (by cases v.ownBlock <;> simp)
def SaPost (l : List Tok) (w : World) (e : Ending) (w' : World) : Prop :=
  ((lspellAll l = 0 ∧ ∃ v, e = .returned (.tuple #[v, .int .i64 0]) ∧ w'.ownsRow w.heap.size 96 4 v l.length (sCells l)) ∨ (lspellAll l ≠ 0 ∧ e = .returned (.tuple #[.slice none 0 0, .int .i64 (lspellAll l)]))) ∧ Below w.heap.size w w'
def SaRel (l : List Tok) (n : Nat) (w : World) (v i : Value) (wr : World) : Prop :=
  ∃ k : Nat, i = .int .i64 k ∧ k ≤ n ∧ Below w.heap.size w wr ∧ wr.ownsRow w.heap.size 96 4 v k (sCells (l.take k)) ∧ (l.take k).all okSp = true
set_option maxHeartbeats 2000000 in
set_option maxRecDepth 100000 in
theorem lspellAll_any (v : Value) (l : List Tok) (w : World) (hv : TSl w v l) (hl : l.length ≤ 1000000) (ht : ∀ t ∈ l, t.text.length ≤ 1000000000000) (hG : Glob w) :
    Calls Tryz.prog 67 #[v] w (SaPost l w) := by
  obtain ⟨p, cap, rfl, hv⟩ := hv
  by_cases hbig : 1200 < l.length
  · have hr : lspellAll l = 5 := by rw [lspellAll, if_pos hbig]
    clear hv
    go_enter Tryz.func67, Tryz.ntmps67
    go_wp2_with fail
    go_ret2
    exact ⟨.inr ⟨by rw [hr]; decide, by rw [hr]; rfl⟩, Below.refl _ _⟩
  have HV := hid hv; clear hv
  have HT := hid ht; clear ht
  have HG := hid hG; clear hG
  generalize hn : l.length = n at *
  have Hn := hid hn; clear hn
  obtain ⟨i0, hi, hz0, hz1, hz2⟩ := info_parts Tryz.infoSp
  have Hi := hid (And.intro hi (And.intro hz0 (And.intro hz1 hz2)))
  clear hi hz0 hz1 hz2
  go_enter Tryz.func67, Tryz.ntmps67
  go_wp2_with fail
  go_loopw [2, 13] (SaRel l n w) (fun _ i _ => n - (intOf i).toNat)
  case atStart => exact ⟨0, rfl, by omega, Below.refl _ _, World.ownsRow_nil _ _ _ _, rfl⟩
  case round =>
    obtain ⟨k, rfl, hk, hb, hrow, hall⟩ := hrel
    by_cases hlt : k < n
    · have hl0 : l ≠ [] := fun e => by have := Hn.out; rw [e] at this; simp at this; omega
      have hkl : k < l.length := by rw [Hn.out]; exact hlt
      obtain ⟨g, rfl, q⟩ := HV.out.resolve_left hl0
      obtain ⟨c0, c1, c2⟩ := q k hkl
      have htk := l.take_append_getElem hkl
      have hmem : l[k] ∈ l := List.getElem_mem _
      have hlen := HT.out _ hmem
      have Hlk := hid (show l[k]? = some l[k] from List.getElem?_eq_getElem _)
      generalize l[k] = x at *
      have htk := hid htk
      have hall := hid hall
      have hmem := hid hmem
      obtain ⟨k1, t1, a1⟩ := x
      simp only at c0 c1 c2 hlen
      have c0 := cell_later hb c0
      have c1 := cell_later hb c1
      have c2 := cell_later hb c2
      rcases lspell_err k1 t1 with he | he
      · have hS := hid (fun (W : World) (hW : Below wr.heap.size wr W) => (lspell_any k1 t1 a1 W hlen (HG.out.later (below_then hb hW))).mono (R' := fun e w' => e = .returned (.tuple #[.agg #[.int .u8 k1, .string ⟨t1.toArray⟩, .int .i64 a1, .string ⟨(lspell k1 t1).1.toArray⟩], .int .i64 0]) ∧ Below W.heap.size W w') (fun e w' ⟨h, hbb⟩ => by
          rcases h with ⟨_, h⟩ | ⟨h, _⟩
          · exact ⟨h, hbb⟩
          · rw [he] at h; cases h))
        have Hok := hid (show okSp ⟨k1, t1, a1⟩ = true by simp [okSp, he])
        have Hsv := hid (show sVals ⟨k1, t1, a1⟩ = [.int .u8 k1, .string ⟨t1.toArray⟩, .int .i64 a1, .string ⟨(lspell k1 t1).1.toArray⟩] from rfl)
        generalize (lspell k1 t1).1 = r1 at *
        clear he
        go_wp2_with (first
          | (go_at_call 66; refine (hS.out _ (below_alloc _ _)).mono ?_; rintro e w1 ⟨rfl, hb1⟩; have hbw1 := below_then (below_alloc wr (.cells #[.int .u8 k1, .string ⟨t1.toArray⟩, .int .i64 a1] 46)) hb1; have hb2 := below_then hb hbw1; have hrow1 := row_below hrow hbw1)
          | (at_builtin; refine wpList_append_own _ rfl _ _ 99 rfl w.heap.size 96 i0 _ 4 48 Tryz.underlying99 Hi.out.1 Hi.out.2.1 Hi.out.2.2.1 Hi.out.2.2.2 rfl (by decide) _ _ _ rfl ((World.ownsRow.alloc hrow1 _).alloc _) ⟨w1.heap.size + 1, 0, none⟩ 1 1 [.int .u8 k1, .string ⟨t1.toArray⟩, .int .i64 a1, .string ⟨r1.toArray⟩] rfl rfl ?c1 ?c2 ?c3 ?c4 ?c5 ?_))
        case c1 => exact World.news_of_block (cs := #[.int .u8 k1, .string ⟨t1.toArray⟩, .int .i64 a1, .string ⟨r1.toArray⟩]) (t := 96) (fr := (0, 0)) (heap_at _ _ _ (by simp))
        case c2 => intro u hu; simp at hu; rcases hu with rfl | rfl | rfl | rfl <;> rfl
        case c3 => unfold maxLen; omega
        case c4 => omega
        case c5 => have := hb2.size; simp; omega
        · intro v' w2 hown' hgrow _
          have hb3 := below_grown (bl_alloc (bl_alloc hb2 _) _) ((World.ownsRow.alloc hrow1 _).alloc _) hgrow
          have hrow2 : w2.ownsRow w.heap.size 96 4 v' (k + 1) (sCells (l.take (k + 1))) := by
            rw [← htk.out]
            unfold sCells at hown' ⊢
            rw [List.flatMap_append, List.flatMap_singleton, Hsv.out]
            exact hown'
          have hall2 : (l.take (k + 1)).all okSp = true := by
            rw [← htk.out, List.all_append, hall.out]
            simp [Hok.out]
          have hrow2 := hid hrow2
          have hall2 := hid hall2
          have hb3 := hid hb3
          clear hown' hgrow hrow1 hrow hb2 hbw1 hb1 hb
          go_wp2_with fail
          go_roundw
          case rel => exact ⟨k + 1, by go_num, by omega, hb3.out, hrow2.out, hall2.out⟩
          case measure => simp [intOf]; omega
      · have hS := hid (fun (W : World) (hW : Below wr.heap.size wr W) => (lspell_any k1 t1 a1 W hlen (HG.out.later (below_then hb hW))).mono (R' := fun e w' => e = .returned (.tuple #[.agg #[.int .u8 0, .string ⟨#[]⟩, .int .i64 0, .string ⟨#[]⟩], .int .i64 4]) ∧ Below W.heap.size W w') (fun e w' ⟨h, hbb⟩ => by
          rcases h with ⟨h, _⟩ | ⟨_, h⟩
          · rw [he] at h; cases h
          · exact ⟨h, hbb⟩))
        have Hr := hid (show lspellAll l = 4 by
          rw [lspellAll, if_neg (by rw [Hn.out]; omega), if_neg]
          intro h
          rw [List.all_eq_true] at h
          have := h _ hmem.out
          simp [okSp, he] at this)
        clear he
        go_wp2_with (go_at_call 66; refine (hS.out _ (below_alloc _ _)).mono ?_; rintro e w1 ⟨rfl, hb1⟩; have hbw1 := below_then (below_alloc wr (.cells #[.int .u8 k1, .string ⟨t1.toArray⟩, .int .i64 a1] 46)) hb1; have hb2 := below_then hb hbw1)
        go_ret2
        exact ⟨.inr ⟨by rw [Hr.out]; decide, by rw [Hr.out]; rfl⟩, bl_alloc hb2 _⟩
    · have hkn : k = n := by omega
      go_wp2_with fail
      go_ret2
      subst hkn
      have hfull : l.take k = l := List.take_of_length_le (by rw [Hn.out]; exact Nat.le_refl _)
      rw [hfull] at hrow hall
      refine ⟨.inl ⟨by rw [lspellAll, if_neg (by rw [Hn.out]; omega), if_pos hall], _, rfl, by rw [Hn.out]; exact hrow⟩, hb⟩
theorem flat_le : ∀ l : List UInt8, (l.flatMap quoteByte).length ≤ 2 * l.length
  | [] => by simp
  | c :: l => by
    have := flat_le l
    have h2 := quoteByte_le c
    simp only [List.flatMap_cons, List.length_append, List.length_cons]; omega
theorem lspell_len (k : Nat) (t : List UInt8) : (lspell k t).1.length ≤ t.length + 200 := by
  unfold lspell
  split
  · split
    · unfold quote
      split
      · simp
      · split
        · have := flat_le t
          simp only [List.length_append, List.length_cons, List.length_nil]; omega
        · simp
    · simp
  · split <;> simp
theorem tsl_two (W : World) (b : Nat) (hb : b = W.heap.size) (k1 k2 : Nat) (t1 t2 : List UInt8) (a1 a2 : Int) : TSl (W.alloc (.cells #[.int .u8 k1, .string ⟨t1.toArray⟩, .int .i64 a1, .int .u8 k2, .string ⟨t2.toArray⟩, .int .i64 a2] 46 (0, 0))) (.slice (some ⟨b, 0, none⟩) 2 2) [⟨k1, t1, a1⟩, ⟨k2, t2, a2⟩] := by
  subst hb
  have h := heap_new W (.cells #[.int .u8 k1, .string ⟨t1.toArray⟩, .int .i64 a1, .int .u8 k2, .string ⟨t2.toArray⟩, .int .i64 a2] 46 (0, 0))
  refine ⟨_, 2, rfl, .inr ⟨_, rfl, fun j hj => ?_⟩⟩
  match j, hj with
  | 0, _ => exact ⟨cell_heap h 0, cell_heap h 1, cell_heap h 2⟩
  | 1, _ => exact ⟨cell_heap h 3, cell_heap h 4, cell_heap h 5⟩
set_option maxHeartbeats 2000000 in
set_option maxRecDepth 100000 in
theorem lApart_any (k1 k2 : Nat) (t1 t2 : List UInt8) (a1 a2 : Int) (w : World) (h1 : t1.length ≤ 10000000000) (h2 : t2.length ≤ 10000000000) (hG : Glob w) :
    Calls Tryz.prog 35 #[.agg #[.int .u8 k1, .string ⟨t1.toArray⟩, .int .i64 a1], .agg #[.int .u8 k2, .string ⟨t2.toArray⟩, .int .i64 a2]] w fun e w' => e = .returned (.tuple #[.bool (lApart ⟨k1, t1, a1⟩ ⟨k2, t2, a2⟩).1, .int .i64 (lApart ⟨k1, t1, a1⟩ ⟨k2, t2, a2⟩).2]) ∧ Below w.heap.size w w' := by
  have l1 := lspell_len k1 t1
  have l2 := lspell_len k2 t2
  have HA := hid (fun (W : World) (hb : Below w.heap.size w W) => lapart1_any k1 t1 a1 (lspell k1 t1).1 k2 t2 a2 (lspell k2 t2).1 W (by omega) (by omega) (hG.later hb))
  have HS := hid (fun (v : Value) (W : World) (hv : TSl W v [⟨k1, t1, a1⟩, ⟨k2, t2, a2⟩]) (hb : Below w.heap.size w W) => lspellAll_any v [⟨k1, t1, a1⟩, ⟨k2, t2, a2⟩] W hv (by simp) (by simp; omega) (hG.later hb))
  generalize hr : lApart ⟨k1, t1, a1⟩ ⟨k2, t2, a2⟩ = r
  replace hr : r = if lspellAll [⟨k1, t1, a1⟩, ⟨k2, t2, a2⟩] ≠ 0 then (false, lspellAll [⟨k1, t1, a1⟩, ⟨k2, t2, a2⟩]) else (lapart k1 t1 (lspell k1 t1).1 k2 t2 (lspell k2 t2).1, 0) := hr.symm
  have HC := hid (show sCells [⟨k1, t1, a1⟩, ⟨k2, t2, a2⟩] = [.int .u8 k1, .string ⟨t1.toArray⟩, .int .i64 a1, .string ⟨(lspell k1 t1).1.toArray⟩, .int .u8 k2, .string ⟨t2.toArray⟩, .int .i64 a2, .string ⟨(lspell k2 t2).1.toArray⟩] from rfl)
  generalize lapart k1 t1 (lspell k1 t1).1 k2 t2 (lspell k2 t2).1 = bb at *
  generalize (lspell k1 t1).1 = s1 at *
  generalize (lspell k2 t2).1 = s2 at *
  clear l1 l2 hG
  unfold SaPost at HS
  generalize lspellAll [⟨k1, t1, a1⟩, ⟨k2, t2, a2⟩] = se at *
  by_cases h0 : se = 0
  · subst h0
    have hr2 : r = (bb, 0) := hr
    clear hr
    subst hr2
    have HS := hid (fun (v : Value) (W : World) (hv : TSl W v [⟨k1, t1, a1⟩, ⟨k2, t2, a2⟩]) (hb : Below w.heap.size w W) => (HS.out v W hv hb).mono (R' := fun e w' => ∃ g cap, e = .returned (.tuple #[.slice (some ⟨g, 0, none⟩) 2 cap, .int .i64 0]) ∧ w'.ownsRow W.heap.size 96 4 (.slice (some ⟨g, 0, none⟩) 2 cap) 2 (sCells [⟨k1, t1, a1⟩, ⟨k2, t2, a2⟩]) ∧ Below W.heap.size W w') (fun e w' ⟨h, hbb⟩ => by
      rcases h with ⟨_, v', rfl, hrow⟩ | ⟨h, _⟩
      · obtain ⟨_, ⟨_, h⟩ | ⟨g, cap, cur, rfl, h⟩⟩ := id hrow
        · cases h
        · exact ⟨g, cap, rfl, hrow, hbb⟩
      · exact absurd rfl h))
    rw [HC.out] at HS
    go_enter Tryz.func35, Tryz.ntmps35
    go_wp2_with (go_at_call 67; refine (HS.out _ _ (tsl_two _ _ (by simp) _ _ _ _ _ _) (bl_alloc (bl_alloc (below_alloc _ _) _) _)).mono ?_; rintro e w1 ⟨g, cap, rfl, hrow, hb1⟩; have hbw := below_then (bl_alloc (bl_alloc (below_alloc _ _) _) _) hb1)
    have c0 := World.ownsRow.cellAt hrow 0 (by decide)
    have c1 := World.ownsRow.cellAt hrow 1 (by decide)
    have c2 := World.ownsRow.cellAt hrow 2 (by decide)
    have c3 := World.ownsRow.cellAt hrow 3 (by decide)
    have c4 := World.ownsRow.cellAt hrow 4 (by decide)
    have c5 := World.ownsRow.cellAt hrow 5 (by decide)
    have c6 := World.ownsRow.cellAt hrow 6 (by decide)
    have c7 := World.ownsRow.cellAt hrow 7 (by decide)
    simp only [List.getElem?_cons_zero, List.getElem?_cons_succ] at c0 c1 c2 c3 c4 c5 c6 c7
    have HA2 := hid (fun (W : World) (hb : Below w1.heap.size w1 W) => HA.out W (below_then hbw hb))
    clear hrow hb1
    refine wp_calm ?_
    go_region_held3 (fun w' => w'.cell? ⟨g, 0, none⟩ = some (.int .u8 k1) ∧ w'.cell? ⟨g, 1, none⟩ = some (.string ⟨t1.toArray⟩) ∧ w'.cell? ⟨g, 2, none⟩ = some (.int .i64 a1) ∧ w'.cell? ⟨g, 3, none⟩ = some (.string ⟨s1.toArray⟩) ∧ w'.cell? ⟨g, 4, none⟩ = some (.int .u8 k2) ∧ w'.cell? ⟨g, 5, none⟩ = some (.string ⟨t2.toArray⟩) ∧ w'.cell? ⟨g, 6, none⟩ = some (.int .i64 a2) ∧ w'.cell? ⟨g, 7, none⟩ = some (.string ⟨s2.toArray⟩))
      (first | (go_keep; done) | (go_split_ands; refine ⟨?_, ?_, ?_, ?_, ?_, ?_, ?_, ?_⟩ <;> exact cell_later hb4 (by assumption)))
      (first | (go_at_call 68; refine (HA2.out _ (Below.drew (Below.refl _ _))).mono ?_; rintro e w4 ⟨rfl, hb4⟩))
    go_wp2_with fail
    go_ret2
    exact ⟨rfl, below_then hbw.drew hb4⟩
  · have hr2 : r = (false, se) := by rw [hr, if_pos h0]
    clear hr
    subst hr2
    have HS := hid (fun (v : Value) (W : World) (hv : TSl W v [⟨k1, t1, a1⟩, ⟨k2, t2, a2⟩]) (hb : Below w.heap.size w W) => (HS.out v W hv hb).mono (R' := fun e w' => e = .returned (.tuple #[.slice none 0 0, .int .i64 se]) ∧ Below W.heap.size W w') (fun e w' ⟨h, hbb⟩ => by
      rcases h with ⟨h, _⟩ | ⟨_, h⟩
      · exact absurd h h0
      · exact ⟨h, hbb⟩))
    have h0' : ((se : Int) != 0) = true := by rw [bne_iff_ne]; omega
    go_enter Tryz.func35, Tryz.ntmps35
    go_wp2_with (go_at_call 67; refine (HS.out _ _ (tsl_two _ _ (by simp) _ _ _ _ _ _) (bl_alloc (bl_alloc (below_alloc _ _) _) _)).mono ?_; rintro e w1 ⟨rfl, hb1⟩; have hbw := below_then (bl_alloc (bl_alloc (below_alloc _ _) _) _) hb1)
    go_ret2
    exact ⟨rfl, hbw⟩
end Go.Proofs.YthknlifmkjdoeaaGreatDoor

/-
  THE PROGRAM'S Spell.
-/
namespace Go.Proofs.YthknlifmkjdoeaaGreatDoor
open Go.RowKit Lode Go.Shelf
attribute [local go_sem ↓] Go.wp_at_zero Go.wp_at_succ
set_option maxRecDepth 100000 in
theorem lSpell_any (k : Nat) (t : List UInt8) (a : Int) (w : World) (hs : t.length ≤ 1000000000000) (hG : Glob w) :
    Calls Tryz.prog 34 #[.agg #[.int .u8 k, .string ⟨t.toArray⟩, .int .i64 a]] w fun e w' =>
      e = .returned (.tuple #[.string ⟨(lspell k t).1.toArray⟩, .int .i64 (lspell k t).2]) ∧ Below w.heap.size w w' := by
  have hbw := below_alloc w (.cells #[.int .u8 k, .string ⟨t.toArray⟩, .int .i64 a] 46 (0, 0))
  have HS := hid (lspell_any k t a _ hs (hG.later hbw))
  have he := lspell_err k t
  have h4 : (lspell k t).2 = 4 → (lspell k t).1 = [] := by
    unfold lspell
    split
    · split
      · intro h; cases h
      · intro _; rfl
    · split
      · intro h; cases h
      · intro _; rfl
  clear hG
  generalize lspell k t = r at *
  obtain ⟨r1, r2⟩ := r
  simp only at he h4
  rcases he with rfl | rfl
  · go_enter Tryz.func34, Tryz.ntmps34
    go_wp2_with fail
    refine (HS.out).mono ?_
    rintro e w1 ⟨⟨_, rfl⟩ | ⟨h, _⟩, hb1⟩
    · have hb := below_then hbw hb1
      go_wp2_with fail
      go_ret2
      exact ⟨rfl, bl_alloc hb _⟩
    · cases h
  · have h4 := h4 rfl
    subst h4
    go_enter Tryz.func34, Tryz.ntmps34
    go_wp2_with fail
    refine (HS.out).mono ?_
    rintro e w1 ⟨⟨h, _⟩ | ⟨_, rfl⟩, hb1⟩
    · cases h
    · have hb := below_then hbw hb1
      go_wp2_with fail
      go_ret2
      exact ⟨rfl, bl_alloc hb _⟩
end Go.Proofs.YthknlifmkjdoeaaGreatDoor
