/-
  THE REFERENCE'S Read.
-/
import Derived.Deep.AppendLies
import Derived.Test.YthknlifmkjdoeaaGreatDoorRefG
import Derived.Test.YthknlifmkjdoeaaGreatDoorBase
namespace Go.Proofs.YthknlifmkjdoeaaGreatDoor
open Go.RowKit Lode Go.Shelf
attribute [local go_sem ↓] Go.wp_at_zero Go.wp_at_succ
def RdPost (r : List Tok × Nat × Nat) (w : World) (e : Ending) (w' : World) : Prop :=
  ∃ v, e = .returned (.tuple #[v, .int .i64 r.2.1, .int .i64 r.2.2]) ∧ Toks w' w.heap.size v r.1 ∧ Below w.heap.size w w'
theorem check_ok {s : ByteArray} (h : (check s.data.toList).2 = 0) : s.size ≤ 3000 := by
  rcases Nat.lt_or_ge 3000 s.size with h1 | h1
  · unfold check at h; rw [if_pos (by simpa using h1)] at h; cases h
  · exact h1
theorem Toks.form {w : World} {b : Nat} {v : Value} {l : List Tok} (h : Toks w b v l) : ∃ p cap, v = .slice p l.length cap := by
  obtain ⟨_, ⟨h1, h2⟩ | ⟨g, cap, cur, h1, _⟩⟩ := h
  · exact ⟨none, 0, by rw [h1, h2]⟩
  · exact ⟨_, cap, h1⟩
theorem toks_nil (w : World) (b : Nat) : Toks w b (.slice none 0 0) [] := World.ownsRow_nil _ _ _ _
theorem toks_lit (w : World) (b : Nat) (h : b ≤ w.heap.size) : Toks (w.alloc (.cells #[] 46)) b (.slice (some ⟨w.heap.size, 0, none⟩) 0 0) [] := World.ownsRow_lit w #[] 0 h (by decide) (by decide)
theorem Tryz.infoTok : (Tryz.prog.info? 46).map (fun i => (i.zero, i.size, i.bytes)) = some (some (.agg #[.int .u8 0, .string ⟨#[]⟩, .int .i64 0]), 3, 32) := by kernel_rfl
theorem rfirst_none (s : ByteArray) (a : Nat) (hs : s.size ≤ 1000000000000) (ha : a < s.size) (ht : tok1 (s.data.toList.drop a) = none) (w : World) :
    Calls Tryz.prog 54 #[.string s, .int .i64 a] w fun e w' => (∃ k t a' n, e = .returned (.tuple #[.agg #[.int .u8 k, .string t, .int .i64 a'], .int .i64 n, .bool false])) ∧ Below w.heap.size w w' :=
  (rfirst_any s a w hs ha).mono fun e w' ⟨k, t, a', n, ok, h1, h2, h3⟩ => by
    rw [ht] at h2
    exact ⟨⟨k, t, a', n, by rw [h1, show ok = false from h2]⟩, h3⟩
theorem rfirst_some (s : ByteArray) (a : Nat) (hs : s.size ≤ 1000000000000) (ha : a < s.size) (k : Nat) (t : List UInt8) (m : Nat) (ht : tok1 (s.data.toList.drop a) = some (k, t, m)) (w : World) :
    Calls Tryz.prog 54 #[.string s, .int .i64 a] w fun e w' => e = .returned (.tuple #[.agg #[.int .u8 k, .string ⟨t.toArray⟩, .int .i64 a], .int .i64 m, .bool true]) ∧ Below w.heap.size w w' :=
  (rfirst_any s a w hs ha).mono fun e w' ⟨k', t', a', n, ok, h1, h2, h3⟩ => by
    rw [ht] at h2
    obtain ⟨rfl, rfl, rfl, rfl, rfl⟩ := h2
    exact ⟨h1, h3⟩
def RRel (s : ByteArray) (r : List Tok × Nat × Nat) (w : World) (v a : Value) (wr : World) : Prop :=
  ∃ (L : List Tok) (k : Nat), a = .int .i64 k ∧ RInv s.data.toList r L k ∧ Toks wr w.heap.size v L ∧ Below w.heap.size w wr
set_option maxRecDepth 100000 in
theorem rread_any (s : ByteArray) (w : World) (hs : s.size ≤ 1000000000000) :
    Calls Tryz.prog 24 #[.string s] w (RdPost (Lode.read s.data.toList) w) := by
  generalize hr : Lode.read s.data.toList = r
  have Hr := hid hr; clear hr
  have Hc := hid (fun w => rcheck_any s w (by omega))
  generalize hc : check s.data.toList = c at *
  obtain ⟨ca, ce⟩ := c
  have Hcc := hid hc; clear hc
  by_cases he : ce = 0
  · subst he
    have h3 := check_ok (by rw [Hcc.out])
    have Hst := hid (RInv.start (s := s.data.toList) (by rw [Hcc.out]))
    rw [Hr.out] at Hst
    have Hg := hid (fun (a : Nat) w (ha : a ≤ s.size) => rgap_any s a w (by omega) ha)
    have Hf := hid (fun (a : Nat) w (ha : a < s.size) => rfirst_any s a w (by omega) ha)
    obtain ⟨i0, hi, hz0, hz1, hz2⟩ := info_parts Tryz.infoTok
    have Hi := hid (And.intro hi (And.intro hz0 (And.intro hz1 hz2)))
    clear hi hz0 hz1 hz2
    go_enter Tryz.func24, Tryz.ntmps24
    go_wp2_with (first
      | (go_at_call 19; refine (Hc.out _).mono ?_; rintro e w' ⟨rfl, rfl⟩)
      | (go_at_call 53; refine (Hg.out 0 _ (by omega)).mono ?_; rintro e w' ⟨rfl, rfl⟩))
    go_loopw [7, 8] (RRel s r w) (fun _ a _ => s.size - (intOf a).toNat)
    case atStart => exact ⟨[], _, rfl, by simpa using Hst.out, toks_lit _ _ (by simp), (Below.refl _ _).alloc (Nat.le_refl _) _⟩
    case round =>
      obtain ⟨L, k, rfl, hinv, htok, hbel⟩ := hrel
      have hk : k ≤ s.size := by simpa using hinv.le
      by_cases hlt : k < s.size
      · have hlt' : k < s.data.toList.length := by simpa using hlt
        cases ht : tok1 (s.data.toList.drop k) with
        | none =>
          have HF := hid (rfirst_none s k (by omega) hlt ht)
          have He := hid (hinv.bad hlt' ht)
          go_wp2_with (go_at_call 54; refine (HF.out _).mono ?_; rintro e w1 ⟨⟨kk, t, a', n, rfl⟩, hb⟩; have hb1 := hbel.trans (hb.mono hbel.size))
          go_ret3
          rw [He.out]
          exact ⟨_, rfl, toks_nil _ _, by repeat (first | exact hb1 | with_reducible apply Below.drew | with_reducible apply bl_alloc | with_reducible refine bl_set ?_ _ _ (by omega) _)⟩
        | some x =>
          obtain ⟨kk, t, m⟩ := x
          have HF := hid (rfirst_some s k (by omega) hlt kk t m ht)
          have hm := tok1_wide ht
          obtain ⟨p, cap, rfl⟩ := htok.form
          simp only [List.length_drop, Array.length_toList] at hm
          by_cases hL : L.length = 1200
          · have He := hid (hinv.full hlt' ht hL)
            go_wp2_with (go_at_call 54; refine (HF.out _).mono ?_; rintro e w1 ⟨rfl, hb⟩; have hb1 := hbel.trans (hb.mono hbel.size))
            go_ret3
            rw [He.out]
            exact ⟨_, rfl, toks_nil _ _, by repeat (first | exact hb1 | with_reducible apply Below.drew | with_reducible apply bl_alloc | with_reducible refine bl_set ?_ _ _ (by omega) _)⟩
          · have hn := hid (hinv.next hlt' ht hL)
            have hLle := hid hinv
            clear hinv ht
            have hL' : ((L.length : Int) == 1200) = false := by rw [beq_eq_false_iff_ne]; omega
            have hL12 : L.length ≤ 1200 := by obtain ⟨_, _, _, _, _, h, _⟩ := hLle.out; exact h
            go_wp2_with (first
              | (go_at_call 54; refine (HF.out _).mono ?_; rintro e w1 ⟨rfl, hb⟩; have hb1 := hbel.trans (hb.mono hbel.size); have htok1 := htok.below hb)
              | (go_at_call 53; refine (Hg.out (k + m) _ (by omega)).mono ?_; rintro e w' ⟨rfl, rfl⟩)
              | (at_builtin; refine wpList_append_own _ rfl _ _ 33 rfl w.heap.size 46 i0 _ 3 32 Tryz.underlying33 Hi.out.1 Hi.out.2.1 Hi.out.2.2.1 Hi.out.2.2.2 rfl (by decide) _ _ _ rfl ((World.ownsRow.alloc htok1 _).alloc _) ⟨w1.heap.size + 1, 0, none⟩ 1 1 (tokVals ⟨kk, t, (k : Nat)⟩) rfl rfl ?c1 ?c2 ?c3 ?c4 ?c5 ?_))
            case c1 => exact World.news_of_block (cs := #[.int .u8 kk, .string ⟨t.toArray⟩, .int .i64 k]) (t := 46) (fr := (0, 0)) (heap_at _ _ _ (by simp))
            case c2 => intro u hu; simp [tokVals] at hu; rcases hu with rfl | rfl | rfl <;> rfl
            case c3 => unfold maxLen; omega
            case c4 => omega
            case c5 => have := hb1.size; simp; omega
            · intro v' w2 hown' hgrow _
              have hb2 := hid (below_grown (bl_alloc (bl_alloc hb1 _) _) ((World.ownsRow.alloc htok1 _).alloc _) hgrow)
              have hown2 := hid (Toks.snoc (t := ⟨kk, t, (k : Nat)⟩) hown')
              clear hown' hgrow htok1 hb hb1 hbel htok hL hL'
              generalize hgg : gapLen false (s.data.toList.drop (k + m)) = gg at *
              have hgb : k + m + gg ≤ s.size := by have := hn.out.le; simpa using this
              have Hgg := hid (fun w => hgg ▸ Hg.out (k + m) w (by omega))
              clear hgg
              go_wp2_with (go_at_call 53; refine (Hgg.out _).mono ?_; rintro e w' ⟨rfl, rfl⟩)
              go_roundw
              case rel => exact ⟨_, _, by go_num, hn.out, hown2.out, hb2.out⟩
              case measure => simp [intOf]; omega
      · have He := hid (hinv.done (by simp; omega))
        go_wp2_with fail
        go_ret3
        rw [He.out]
        exact ⟨_, rfl, htok, hbel⟩
  · have Hrr : Hid (r = ([], ca, ce)) := hid (by rw [← Hr.out, Lode.read, Hcc.out]; simp [he])
    have he' : ((ce : Int) != 0) = true := by simpa using he
    go_enter Tryz.func24, Tryz.ntmps24
    go_wp2_with (go_at_call 19; refine (Hc.out _).mono ?_; rintro e w' ⟨rfl, rfl⟩)
    go_ret3
    rw [Hrr.out]
    exact ⟨_, rfl, toks_nil _ _, Below.refl _ _⟩
end Go.Proofs.YthknlifmkjdoeaaGreatDoor
