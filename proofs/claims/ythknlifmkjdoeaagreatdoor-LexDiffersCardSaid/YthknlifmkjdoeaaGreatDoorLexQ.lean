/-
  THE PROGRAM'S spellAll, Apart.
-/
import Derived.Test.YthknlifmkjdoeaaGreatDoorLexP
namespace Lode
def okSp (t : Tok) : Bool := (lspell t.kind t.text).2 == 0
def lspellAll (l : List Tok) : Nat := if 1200 < l.length then 5 else if l.all okSp then 0 else 4
def lApart (a b : Tok) : Bool × Nat := if lspellAll [a, b] ≠ 0 then (false, lspellAll [a, b]) else (lapart a.kind a.text (lspell a.kind a.text).1 b.kind b.text (lspell b.kind b.text).1, 0)
end Lode
namespace Go.Proofs.YthknlifmkjdoeaaGreatDoor
open Go.RowKit Lode Go.Shelf
attribute [local go_sem ↓] Go.wp_at_zero Go.wp_at_succ
def sCells (l : List Tok) : List Value := l.flatMap sVals
theorem lspell_err (k : Nat) (t : List UInt8) : (lspell k t).2 = 0 ∨ (lspell k t).2 = 4 := by
  unfold lspell
  split
  · split <;> simp
  · split <;> simp
theorem row_below {w W : World} {b : Nat} {e : TypeId} {sz : Nat} {v : Value} {n : Nat} {xs : List Value} (h : w.ownsRow b e sz v n xs) (hb : Below w.heap.size w W) : W.ownsRow b e sz v n xs :=
  World.ownsRow.kept (row := none) h ⟨hb.os, hb.tape, hb.output, hb.size, fun k hk _ => hb.block k hk⟩ (by cases v.ownBlock <;> simp)
def SaPost (l : List Tok) (w : World) (e : Ending) (w' : World) : Prop :=
  ((lspellAll l = 0 ∧ ∃ v, e = .returned (.tuple #[v, .int .i64 0]) ∧ w'.ownsRow w.heap.size 96 4 v l.length (sCells l)) ∨ (lspellAll l ≠ 0 ∧ e = .returned (.tuple #[.slice none 0 0, .int .i64 (lspellAll l)]))) ∧ Below w.heap.size w w'
def SaRel (l : List Tok) (n : Nat) (w : World) (v i : Value) (wr : World) : Prop :=
  ∃ k : Nat, i = .int .i64 k ∧ k ≤ n ∧ Below w.heap.size w wr ∧ wr.ownsRow w.heap.size 96 4 v k (sCells (l.take k)) ∧ (l.take k).all okSp = true
set_option maxHeartbeats 2000000 in
set_option maxRecDepth 100000 in
theorem lspellAll_any (v : Value) (l : List Tok) (w : World) (hv : TSl w v l) (hl : l.length ≤ 1000000) (ht : ∀ t ∈ l, t.text.length ≤ 1000000000000) (hG : Glob w) :
    Calls Tryz.prog 67 #[v] w (SaPost l w) := by
  obtain ⟨p, cap, rfl, hv⟩ := hv
  by_cases hbig : 1200 < l.length
  · have hr : lspellAll l = 5 := by rw [lspellAll, if_pos hbig]
    clear hv
    go_enter Tryz.func67, Tryz.ntmps67
    go_wp2_with fail
    go_ret2
    exact ⟨.inr ⟨by rw [hr]; decide, by rw [hr]; rfl⟩, Below.refl _ _⟩
  have HV := hid hv; clear hv
  have HT := hid ht; clear ht
  have HG := hid hG; clear hG
  generalize hn : l.length = n at *
  have Hn := hid hn; clear hn
  obtain ⟨i0, hi, hz0, hz1, hz2⟩ := info_parts Tryz.infoSp
  have Hi := hid (And.intro hi (And.intro hz0 (And.intro hz1 hz2)))
  clear hi hz0 hz1 hz2
  go_enter Tryz.func67, Tryz.ntmps67
  go_wp2_with fail
  go_loopw [2, 13] (SaRel l n w) (fun _ i _ => n - (intOf i).toNat)
  case atStart => exact ⟨0, rfl, by omega, Below.refl _ _, World.ownsRow_nil _ _ _ _, rfl⟩
  case round =>
    obtain ⟨k, rfl, hk, hb, hrow, hall⟩ := hrel
    by_cases hlt : k < n
    · have hl0 : l ≠ [] := fun e => by have := Hn.out; rw [e] at this; simp at this; omega
      have hkl : k < l.length := by rw [Hn.out]; exact hlt
      obtain ⟨g, rfl, q⟩ := HV.out.resolve_left hl0
      obtain ⟨c0, c1, c2⟩ := q k hkl
      have htk := l.take_append_getElem hkl
      have hmem : l[k] ∈ l := List.getElem_mem _
      have hlen := HT.out _ hmem
      have Hlk := hid (show l[k]? = some l[k] from List.getElem?_eq_getElem _)
      generalize l[k] = x at *
      have htk := hid htk
      have hall := hid hall
      have hmem := hid hmem
      obtain ⟨k1, t1, a1⟩ := x
      simp only at c0 c1 c2 hlen
      have c0 := cell_later hb c0
      have c1 := cell_later hb c1
      have c2 := cell_later hb c2
      rcases lspell_err k1 t1 with he | he
      · have hS := hid (fun (W : World) (hW : Below wr.heap.size wr W) => (lspell_any k1 t1 a1 W hlen (HG.out.later (below_then hb hW))).mono (R' := fun e w' => e = .returned (.tuple #[.agg #[.int .u8 k1, .string ⟨t1.toArray⟩, .int .i64 a1, .string ⟨(lspell k1 t1).1.toArray⟩], .int .i64 0]) ∧ Below W.heap.size W w') (fun e w' ⟨h, hbb⟩ => by
          rcases h with ⟨_, h⟩ | ⟨h, _⟩
          · exact ⟨h, hbb⟩
          · rw [he] at h; cases h))
        have Hok := hid (show okSp ⟨k1, t1, a1⟩ = true by simp [okSp, he])
        have Hsv := hid (show sVals ⟨k1, t1, a1⟩ = [.int .u8 k1, .string ⟨t1.toArray⟩, .int .i64 a1, .string ⟨(lspell k1 t1).1.toArray⟩] from rfl)
        generalize (lspell k1 t1).1 = r1 at *
        clear he
        go_wp2_with (first
          | (go_at_call 66; refine (hS.out _ (below_alloc _ _)).mono ?_; rintro e w1 ⟨rfl, hb1⟩; have hbw1 := below_then (below_alloc wr (.cells #[.int .u8 k1, .string ⟨t1.toArray⟩, .int .i64 a1] 46)) hb1; have hb2 := below_then hb hbw1; have hrow1 := row_below hrow hbw1)
          | (at_builtin; refine wpList_append_own _ rfl _ _ 99 rfl w.heap.size 96 i0 _ 4 48 Tryz.underlying99 Hi.out.1 Hi.out.2.1 Hi.out.2.2.1 Hi.out.2.2.2 rfl (by decide) _ _ _ rfl ((World.ownsRow.alloc hrow1 _).alloc _) ⟨w1.heap.size + 1, 0, none⟩ 1 1 [.int .u8 k1, .string ⟨t1.toArray⟩, .int .i64 a1, .string ⟨r1.toArray⟩] rfl rfl ?c1 ?c2 ?c3 ?c4 ?c5 ?_))
        case c1 => exact World.news_of_block (cs := #[.int .u8 k1, .string ⟨t1.toArray⟩, .int .i64 a1, .string ⟨r1.toArray⟩]) (t := 96) (fr := (0, 0)) (heap_at _ _ _ (by simp))
        case c2 => intro u hu; simp at hu; rcases hu with rfl | rfl | rfl | rfl <;> rfl
        case c3 => unfold maxLen; omega
        case c4 => omega
        case c5 => have := hb2.size; simp; omega
        · intro v' w2 hown' hgrow _
          have hb3 := below_grown (bl_alloc (bl_alloc hb2 _) _) ((World.ownsRow.alloc hrow1 _).alloc _) hgrow
          have hrow2 : w2.ownsRow w.heap.size 96 4 v' (k + 1) (sCells (l.take (k + 1))) := by
            rw [← htk.out]
            unfold sCells at hown' ⊢
            rw [List.flatMap_append, List.flatMap_singleton, Hsv.out]
            exact hown'
          have hall2 : (l.take (k + 1)).all okSp = true := by
            rw [← htk.out, List.all_append, hall.out]
            simp [Hok.out]
          have hrow2 := hid hrow2
          have hall2 := hid hall2
          have hb3 := hid hb3
          clear hown' hgrow hrow1 hrow hb2 hbw1 hb1 hb
          go_wp2_with fail
          go_roundw
          case rel => exact ⟨k + 1, by go_num, by omega, hb3.out, hrow2.out, hall2.out⟩
          case measure => simp [intOf]; omega
      · have hS := hid (fun (W : World) (hW : Below wr.heap.size wr W) => (lspell_any k1 t1 a1 W hlen (HG.out.later (below_then hb hW))).mono (R' := fun e w' => e = .returned (.tuple #[.agg #[.int .u8 0, .string ⟨#[]⟩, .int .i64 0, .string ⟨#[]⟩], .int .i64 4]) ∧ Below W.heap.size W w') (fun e w' ⟨h, hbb⟩ => by
          rcases h with ⟨h, _⟩ | ⟨_, h⟩
          · rw [he] at h; cases h
          · exact ⟨h, hbb⟩))
        have Hr := hid (show lspellAll l = 4 by
          rw [lspellAll, if_neg (by rw [Hn.out]; omega), if_neg]
          intro h
          rw [List.all_eq_true] at h
          have := h _ hmem.out
          simp [okSp, he] at this)
        clear he
        go_wp2_with (go_at_call 66; refine (hS.out _ (below_alloc _ _)).mono ?_; rintro e w1 ⟨rfl, hb1⟩; have hbw1 := below_then (below_alloc wr (.cells #[.int .u8 k1, .string ⟨t1.toArray⟩, .int .i64 a1] 46)) hb1; have hb2 := below_then hb hbw1)
        go_ret2
        exact ⟨.inr ⟨by rw [Hr.out]; decide, by rw [Hr.out]; rfl⟩, bl_alloc hb2 _⟩
    · have hkn : k = n := by omega
      go_wp2_with fail
      go_ret2
      subst hkn
      have hfull : l.take k = l := List.take_of_length_le (by rw [Hn.out]; exact Nat.le_refl _)
      rw [hfull] at hrow hall
      refine ⟨.inl ⟨by rw [lspellAll, if_neg (by rw [Hn.out]; omega), if_pos hall], _, rfl, by rw [Hn.out]; exact hrow⟩, hb⟩
theorem flat_le : ∀ l : List UInt8, (l.flatMap quoteByte).length ≤ 2 * l.length
  | [] => by simp
  | c :: l => by
    have := flat_le l
    have h2 := quoteByte_le c
    simp only [List.flatMap_cons, List.length_append, List.length_cons]; omega
theorem lspell_len (k : Nat) (t : List UInt8) : (lspell k t).1.length ≤ t.length + 200 := by
  unfold lspell
  split
  · split
    · unfold quote
      split
      · simp
      · split
        · have := flat_le t
          simp only [List.length_append, List.length_cons, List.length_nil]; omega
        · simp
    · simp
  · split <;> simp
theorem tsl_two (W : World) (b : Nat) (hb : b = W.heap.size) (k1 k2 : Nat) (t1 t2 : List UInt8) (a1 a2 : Int) : TSl (W.alloc (.cells #[.int .u8 k1, .string ⟨t1.toArray⟩, .int .i64 a1, .int .u8 k2, .string ⟨t2.toArray⟩, .int .i64 a2] 46 (0, 0))) (.slice (some ⟨b, 0, none⟩) 2 2) [⟨k1, t1, a1⟩, ⟨k2, t2, a2⟩] := by
  subst hb
  have h := heap_new W (.cells #[.int .u8 k1, .string ⟨t1.toArray⟩, .int .i64 a1, .int .u8 k2, .string ⟨t2.toArray⟩, .int .i64 a2] 46 (0, 0))
  refine ⟨_, 2, rfl, .inr ⟨_, rfl, fun j hj => ?_⟩⟩
  match j, hj with
  | 0, _ => exact ⟨cell_heap h 0, cell_heap h 1, cell_heap h 2⟩
  | 1, _ => exact ⟨cell_heap h 3, cell_heap h 4, cell_heap h 5⟩
set_option maxHeartbeats 2000000 in
set_option maxRecDepth 100000 in
theorem lApart_any (k1 k2 : Nat) (t1 t2 : List UInt8) (a1 a2 : Int) (w : World) (h1 : t1.length ≤ 10000000000) (h2 : t2.length ≤ 10000000000) (hG : Glob w) :
    Calls Tryz.prog 35 #[.agg #[.int .u8 k1, .string ⟨t1.toArray⟩, .int .i64 a1], .agg #[.int .u8 k2, .string ⟨t2.toArray⟩, .int .i64 a2]] w fun e w' => e = .returned (.tuple #[.bool (lApart ⟨k1, t1, a1⟩ ⟨k2, t2, a2⟩).1, .int .i64 (lApart ⟨k1, t1, a1⟩ ⟨k2, t2, a2⟩).2]) ∧ Below w.heap.size w w' := by
  have l1 := lspell_len k1 t1
  have l2 := lspell_len k2 t2
  have HA := hid (fun (W : World) (hb : Below w.heap.size w W) => lapart1_any k1 t1 a1 (lspell k1 t1).1 k2 t2 a2 (lspell k2 t2).1 W (by omega) (by omega) (hG.later hb))
  have HS := hid (fun (v : Value) (W : World) (hv : TSl W v [⟨k1, t1, a1⟩, ⟨k2, t2, a2⟩]) (hb : Below w.heap.size w W) => lspellAll_any v [⟨k1, t1, a1⟩, ⟨k2, t2, a2⟩] W hv (by simp) (by simp; omega) (hG.later hb))
  generalize hr : lApart ⟨k1, t1, a1⟩ ⟨k2, t2, a2⟩ = r
  replace hr : r = if lspellAll [⟨k1, t1, a1⟩, ⟨k2, t2, a2⟩] ≠ 0 then (false, lspellAll [⟨k1, t1, a1⟩, ⟨k2, t2, a2⟩]) else (lapart k1 t1 (lspell k1 t1).1 k2 t2 (lspell k2 t2).1, 0) := hr.symm
  have HC := hid (show sCells [⟨k1, t1, a1⟩, ⟨k2, t2, a2⟩] = [.int .u8 k1, .string ⟨t1.toArray⟩, .int .i64 a1, .string ⟨(lspell k1 t1).1.toArray⟩, .int .u8 k2, .string ⟨t2.toArray⟩, .int .i64 a2, .string ⟨(lspell k2 t2).1.toArray⟩] from rfl)
  generalize lapart k1 t1 (lspell k1 t1).1 k2 t2 (lspell k2 t2).1 = bb at *
  generalize (lspell k1 t1).1 = s1 at *
  generalize (lspell k2 t2).1 = s2 at *
  clear l1 l2 hG
  unfold SaPost at HS
  generalize lspellAll [⟨k1, t1, a1⟩, ⟨k2, t2, a2⟩] = se at *
  by_cases h0 : se = 0
  · subst h0
    have hr2 : r = (bb, 0) := hr
    clear hr
    subst hr2
    have HS := hid (fun (v : Value) (W : World) (hv : TSl W v [⟨k1, t1, a1⟩, ⟨k2, t2, a2⟩]) (hb : Below w.heap.size w W) => (HS.out v W hv hb).mono (R' := fun e w' => ∃ g cap, e = .returned (.tuple #[.slice (some ⟨g, 0, none⟩) 2 cap, .int .i64 0]) ∧ w'.ownsRow W.heap.size 96 4 (.slice (some ⟨g, 0, none⟩) 2 cap) 2 (sCells [⟨k1, t1, a1⟩, ⟨k2, t2, a2⟩]) ∧ Below W.heap.size W w') (fun e w' ⟨h, hbb⟩ => by
      rcases h with ⟨_, v', rfl, hrow⟩ | ⟨h, _⟩
      · obtain ⟨_, ⟨_, h⟩ | ⟨g, cap, cur, rfl, h⟩⟩ := id hrow
        · cases h
        · exact ⟨g, cap, rfl, hrow, hbb⟩
      · exact absurd rfl h))
    rw [HC.out] at HS
    go_enter Tryz.func35, Tryz.ntmps35
    go_wp2_with (go_at_call 67; refine (HS.out _ _ (tsl_two _ _ (by simp) _ _ _ _ _ _) (bl_alloc (bl_alloc (below_alloc _ _) _) _)).mono ?_; rintro e w1 ⟨g, cap, rfl, hrow, hb1⟩; have hbw := below_then (bl_alloc (bl_alloc (below_alloc _ _) _) _) hb1)
    have c0 := World.ownsRow.cellAt hrow 0 (by decide)
    have c1 := World.ownsRow.cellAt hrow 1 (by decide)
    have c2 := World.ownsRow.cellAt hrow 2 (by decide)
    have c3 := World.ownsRow.cellAt hrow 3 (by decide)
    have c4 := World.ownsRow.cellAt hrow 4 (by decide)
    have c5 := World.ownsRow.cellAt hrow 5 (by decide)
    have c6 := World.ownsRow.cellAt hrow 6 (by decide)
    have c7 := World.ownsRow.cellAt hrow 7 (by decide)
    simp only [List.getElem?_cons_zero, List.getElem?_cons_succ] at c0 c1 c2 c3 c4 c5 c6 c7
    have HA2 := hid (fun (W : World) (hb : Below w1.heap.size w1 W) => HA.out W (below_then hbw hb))
    clear hrow hb1
    refine wp_calm ?_
    go_region_held3 (fun w' => w'.cell? ⟨g, 0, none⟩ = some (.int .u8 k1) ∧ w'.cell? ⟨g, 1, none⟩ = some (.string ⟨t1.toArray⟩) ∧ w'.cell? ⟨g, 2, none⟩ = some (.int .i64 a1) ∧ w'.cell? ⟨g, 3, none⟩ = some (.string ⟨s1.toArray⟩) ∧ w'.cell? ⟨g, 4, none⟩ = some (.int .u8 k2) ∧ w'.cell? ⟨g, 5, none⟩ = some (.string ⟨t2.toArray⟩) ∧ w'.cell? ⟨g, 6, none⟩ = some (.int .i64 a2) ∧ w'.cell? ⟨g, 7, none⟩ = some (.string ⟨s2.toArray⟩))
      (first | (go_keep; done) | (go_split_ands; refine ⟨?_, ?_, ?_, ?_, ?_, ?_, ?_, ?_⟩ <;> exact cell_later hb4 (by assumption)))
      (first | (go_at_call 68; refine (HA2.out _ (Below.drew (Below.refl _ _))).mono ?_; rintro e w4 ⟨rfl, hb4⟩))
    go_wp2_with fail
    go_ret2
    exact ⟨rfl, below_then hbw.drew hb4⟩
  · have hr2 : r = (false, se) := by rw [hr, if_pos h0]
    clear hr
    subst hr2
    have HS := hid (fun (v : Value) (W : World) (hv : TSl W v [⟨k1, t1, a1⟩, ⟨k2, t2, a2⟩]) (hb : Below w.heap.size w W) => (HS.out v W hv hb).mono (R' := fun e w' => e = .returned (.tuple #[.slice none 0 0, .int .i64 se]) ∧ Below W.heap.size W w') (fun e w' ⟨h, hbb⟩ => by
      rcases h with ⟨h, _⟩ | ⟨_, h⟩
      · exact absurd h h0
      · exact ⟨h, hbb⟩))
    have h0' : ((se : Int) != 0) = true := by rw [bne_iff_ne]; omega
    go_enter Tryz.func35, Tryz.ntmps35
    go_wp2_with (go_at_call 67; refine (HS.out _ _ (tsl_two _ _ (by simp) _ _ _ _ _ _) (bl_alloc (bl_alloc (below_alloc _ _) _) _)).mono ?_; rintro e w1 ⟨rfl, hb1⟩; have hbw := below_then (bl_alloc (bl_alloc (below_alloc _ _) _) _) hb1)
    go_ret2
    exact ⟨rfl, hbw⟩
end Go.Proofs.YthknlifmkjdoeaaGreatDoor
