/-
  THE PROGRAM'S alike, common.
-/
import Derived.Test.YthknlifmkjdoeaaGreatDoorLexE
import Derived.Test.YthknlifmkjdoeaaGreatDoorSpec
import Derived.Test.YthknlifmkjdoeaaGreatDoorRefI
import Derived.Test.YthknlifmkjdoeaaGreatDoorLexL
namespace Go.Proofs.YthknlifmkjdoeaaGreatDoor
open Go.RowKit Lode Go.Shelf
attribute [local go_sem ↓] Go.wp_at_zero Go.wp_at_succ
theorem isNaN_any (j : Nat) (w : World) : Calls Tryz.prog 109 #[.int .u8 j] w fun e w' => e = .returned (.bool false) ∧ w = w' := by
  go_enter Tryz.func109, Tryz.ntmps109
  go_wp2_with fail
  go_ret
  exact ⟨rfl, rfl⟩
set_option maxRecDepth 100000 in
theorem compare_any (j k : Nat) (w : World) :
    Calls Tryz.prog 97 #[.int .u8 j, .int .u8 k] w fun e w' => (∃ c : Int, e = .returned (.int .i64 c) ∧ (c = 0 ↔ j = k)) ∧ w = w' := by
  by_cases h1 : (j : Int) < k
  · go_enter Tryz.func97, Tryz.ntmps97
    go_wp2_with (go_at_call 109; refine (isNaN_any _ _).mono ?_; rintro e w' ⟨rfl, rfl⟩)
    go_ret
    exact ⟨⟨-1, rfl, by omega⟩, rfl⟩
  · by_cases h2 : (k : Int) < j
    · go_enter Tryz.func97, Tryz.ntmps97
      go_wp2_with (go_at_call 109; refine (isNaN_any _ _).mono ?_; rintro e w' ⟨rfl, rfl⟩)
      go_ret
      exact ⟨⟨1, rfl, by omega⟩, rfl⟩
    · go_enter Tryz.func97, Tryz.ntmps97
      go_wp2_with (go_at_call 109; refine (isNaN_any _ _).mono ?_; rintro e w' ⟨rfl, rfl⟩)
      go_ret
      exact ⟨⟨0, rfl, by omega⟩, rfl⟩
theorem compare_is (j k : Nat) (w : World) :
    Calls Tryz.prog 97 #[.int .u8 j, .int .u8 k] w fun e w' => (∃ c : Int, e = .returned (.int .i64 c) ∧ (c == 0) = decide (j = k)) ∧ w = w' :=
  (compare_any j k w).mono fun e w' ⟨⟨c, h1, h2⟩, h3⟩ => ⟨⟨c, h1, by rw [Bool.eq_iff_iff]; simp [h2]⟩, h3⟩
theorem alike_any (k1 k2 : Nat) (t1 t2 : List UInt8) (a1 a2 : Int) (w : World) :
    Calls Tryz.prog 63 #[.agg #[.int .u8 k1, .string ⟨t1.toArray⟩, .int .i64 a1], .agg #[.int .u8 k2, .string ⟨t2.toArray⟩, .int .i64 a2]] w fun e w' => e = .returned (.bool (decide (k1 = k2) && decide (t1 = t2))) ∧ Below w.heap.size w w' := by
  have HC := hid (fun w => compare_is k1 k2 w)
  by_cases h1 : k1 = k2
  · subst h1
    rw [decide_eq_true rfl] at HC
    by_cases h2 : t1 = t2
    · subst h2
      go_enter Tryz.func63, Tryz.ntmps63
      go_wp2_with (go_at_call 97; refine (HC.out _).mono ?_; rintro e w' ⟨⟨c, rfl, hc⟩, rfl⟩)
      go_ret
      exact ⟨by simp, bl_alloc (below_alloc _ _) _⟩
    · go_enter Tryz.func63, Tryz.ntmps63
      go_wp2_with (go_at_call 97; refine (HC.out _).mono ?_; rintro e w' ⟨⟨c, rfl, hc⟩, rfl⟩)
      go_ret
      exact ⟨by simp [h2], bl_alloc (below_alloc _ _) _⟩
  · rw [decide_eq_false h1] at HC
    go_enter Tryz.func63, Tryz.ntmps63
    go_wp2_with (go_at_call 97; refine (HC.out _).mono ?_; rintro e w' ⟨⟨c, rfl, hc⟩, rfl⟩)
    go_ret
    exact ⟨by simp [h1], bl_alloc (below_alloc _ _) _⟩
/-- tokens as cells from a place on -/
def OCells (w : World) (g off : Nat) (l : List Tok) : Prop := ∀ (j : Nat) (h : j < l.length), w.cell? ⟨g, off + j * 3, none⟩ = some (.int .u8 l[j].kind) ∧ w.cell? ⟨g, off + j * 3 + 1, none⟩ = some (.string ⟨l[j].text.toArray⟩) ∧ w.cell? ⟨g, off + j * 3 + 2, none⟩ = some (.int .i64 l[j].at_)
def OSl (w : World) (v : Value) (l : List Tok) : Prop := ∃ (p : Option Addr) (cap : Nat), v = .slice p l.length cap ∧ (l = [] ∨ ∃ g off, p = some ⟨g, off, none⟩ ∧ OCells w g off l)
theorem TSl.o {w : World} {v : Value} {l : List Tok} (h : TSl w v l) : OSl w v l := by
  obtain ⟨p, cap, hv, h⟩ := h
  refine ⟨p, cap, hv, h.imp id fun ⟨g, hp, hc⟩ => ⟨g, 0, hp, fun j hj => ?_⟩⟩
  have := hc j hj
  simpa using this
set_option maxHeartbeats 1000000 in
set_option maxRecDepth 100000 in
theorem common_any (v1 v2 : Value) (l m : List Tok) (w : World) (h1 : OSl w v1 l) (h2 : OSl w v2 m) (hl : l.length ≤ 1000000) (_hm : m.length ≤ 1000000) :
    Calls Tryz.prog 62 #[v1, v2, .func (.func 63) #[] #[]] w fun e w' => e = .returned (.int .i64 (commonL l m)) ∧ Below w.heap.size w w' := by
  obtain ⟨p1, c1, rfl, h1⟩ := h1
  obtain ⟨p2, c2, rfl, h2⟩ := h2
  have H1 := hid h1
  have H2 := hid h2
  clear h1 h2
  generalize hr : commonL l m = r
  have Hr := hid hr; clear hr
  generalize hn : l.length = n at *
  have Hn := hid hn; clear hn
  generalize hnm : m.length = nm at *
  have Hm := hid hnm; clear hnm
  go_enter Tryz.func62, Tryz.ntmps62
  go_wp2_with fail
  go_loopw [7] (fun i wr => ∃ k : Nat, i = .int .i64 k ∧ Below w.heap.size w wr ∧ CInv l m k) (fun i _ => n - (intOf i).toNat)
  case atStart => exact ⟨0, rfl, Below.refl _ _, CInv.start l m⟩
  case round =>
    obtain ⟨k, rfl, hb, hinv⟩ := hrel
    have hkn := hinv.lx
    rw [Hn.out] at hkn
    have hkm := hinv.ly
    rw [Hm.out] at hkm
    by_cases hlt : k < n
    · by_cases hlt2 : k < nm
      · have hl0 : l ≠ [] := fun e => by have := Hn.out; rw [e] at this; simp at this; omega
        have hm0 : m ≠ [] := fun e => by have := Hm.out; rw [e] at this; simp at this; omega
        have hkl : k < l.length := by rw [Hn.out]; exact hlt
        have hkm : k < m.length := by rw [Hm.out]; exact hlt2
        obtain ⟨g1, o1, rfl, q1⟩ := H1.out.resolve_left hl0
        obtain ⟨g2, o2, rfl, q2⟩ := H2.out.resolve_left hm0
        obtain ⟨c0, c1, c2⟩ := q1 k hkl
        obtain ⟨d0, d1, d2⟩ := q2 k hkm
        have Hnx := hid (fun h => hinv.next hkl hkm h)
        have Hst := hid (fun h => hinv.stop hkl hkm h)
        generalize l[k] = x at *
        generalize m[k] = y at *
        obtain ⟨j1, t1, a1⟩ := x
        obtain ⟨j2, t2, a2⟩ := y
        have c0 := cell_later hb c0
        have c1 := cell_later hb c1
        have c2 := cell_later hb c2
        have d0 := cell_later hb d0
        have d1 := cell_later hb d1
        have d2 := cell_later hb d2
        simp only at c0 c1 c2 d0 d1 d2
        have HA := hid (fun w => alike_any j1 j2 t1 t2 a1 a2 w)
        have hltm : (k : Int) < min (n : Int) (nm : Int) := by omega
        clear hinv hl0 hm0
        obtain ⟨bb, hbb⟩ : ∃ bb, (decide (j1 = j2) && decide (t1 = t2)) = bb := ⟨_, rfl⟩
        rw [hbb] at HA
        have Hbb := hid (show alikeT ⟨j1, t1, a1⟩ ⟨j2, t2, a2⟩ = bb from hbb)
        clear hbb
        go_wp2_with fail
        refine wp_calm ?_
        go_region_held3 (fun w' => w'.cell? ⟨g1, o1 + k * 3, none⟩ = some (.int .u8 j1) ∧ w'.cell? ⟨g1, o1 + k * 3 + 1, none⟩ = some (.string ⟨t1.toArray⟩) ∧ w'.cell? ⟨g1, o1 + k * 3 + 2, none⟩ = some (.int .i64 a1) ∧ w'.cell? ⟨g2, o2 + k * 3, none⟩ = some (.int .u8 j2) ∧ w'.cell? ⟨g2, o2 + k * 3 + 1, none⟩ = some (.string ⟨t2.toArray⟩) ∧ w'.cell? ⟨g2, o2 + k * 3 + 2, none⟩ = some (.int .i64 a2))
          (first | (go_keep; done) | (go_split_ands; refine ⟨?_, ?_, ?_, ?_, ?_, ?_⟩ <;> exact cell_later hb4 (by assumption)))
          (first | (go_at_call 63; refine (HA.out _).mono ?_; rintro e w4 ⟨rfl, hb4⟩))
        have hb5 := hid (below_then hb.drew hb4)
        clear hb4 c0 c1 c2 d0 d1 d2
        cases bb with
        | true =>
          go_wp2_with fail
          go_roundw
          case rel => exact ⟨k + 1, by go_num, hb5.out, Hnx.out Hbb.out⟩
          case measure => simp [intOf]; omega
        | false =>
          go_wp2_with fail
          go_ret
          exact ⟨by rw [← Hr.out, Hst.out Hbb.out]; rfl, hb5.out⟩
      · have hmin : min (n : Int) (nm : Int) = nm := by omega
        have hnl : ¬ (k : Int) < (nm : Int) := by omega
        have Ho := hid (hinv.out (.inr (by rw [Hm.out]; omega)))
        go_wp2_with fail
        go_quiet (fail)
        go_wp2_with fail
        go_ret
        exact ⟨by rw [← Hr.out, Ho.out]; rfl, bl_drewN hb nq⟩
    · have hmin : min (n : Int) (nm : Int) = n := by omega
      have hnl : ¬ (k : Int) < (n : Int) := by omega
      have Ho := hid (hinv.out (.inl (by rw [Hn.out]; omega)))
      go_wp2_with fail
      go_quiet (fail)
      go_wp2_with fail
      go_ret
      exact ⟨by rw [← Hr.out, Ho.out]; rfl, bl_drewN hb nq⟩
end Go.Proofs.YthknlifmkjdoeaaGreatDoor

/-
  slices.Reverse on tokens.
-/
namespace Go.Proofs.YthknlifmkjdoeaaGreatDoor
open Go.RowKit Lode Go.Shelf
attribute [local go_sem ↓] Go.wp_at_zero Go.wp_at_succ
/-- tokens in a row of cells -/
def CurAt (cur : Array Value) (off : Nat) (M : List Tok) : Prop := ∀ (j : Nat) (h : j < M.length), cur[off + j * 3]? = some (.int .u8 M[j].kind) ∧ cur[off + j * 3 + 1]? = some (.string ⟨M[j].text.toArray⟩) ∧ cur[off + j * 3 + 2]? = some (.int .i64 M[j].at_)
def RowAt (w : World) (g off : Nat) (M : List Tok) : Prop := ∃ cur, w.heap[g]? = some (.cells cur 46 (0, 0)) ∧ CurAt cur off M
/-- the first i and the last i have been turned -/
def Mix (l M : List Tok) (i : Nat) : Prop := M.length = l.length ∧ ∀ k, k < l.length → M[k]? = if k < i ∨ l.length < k + i + 1 then l[l.length - 1 - k]? else l[k]?
theorem Mix.start (l : List Tok) : Mix l l 0 := ⟨rfl, fun k hk => by rw [if_neg (by omega)]⟩
theorem Mix.done {l M : List Tok} {i : Nat} (h : Mix l M i) (hi : l.length ≤ 2 * i + 1) : M = l.reverse := by
  apply List.ext_getElem? 
  intro k
  by_cases hk : k < l.length
  · rw [h.2 k hk, List.getElem?_reverse hk]
    split
    · rfl
    · have : l.length - 1 - k = k := by omega
      rw [this]
  · rw [List.getElem?_eq_none (by rw [h.1]; omega), List.getElem?_eq_none (by simp; omega)]
theorem Mix.swap {l M : List Tok} {i : Nat} (h : Mix l M i) (hi : 2 * i + 1 < l.length) (hx : i < M.length) (hy : l.length - 1 - i < M.length) : Mix l ((M.set i M[l.length - 1 - i]).set (l.length - 1 - i) M[i]) (i + 1) := by
  refine ⟨by simp [h.1], fun k hk => ?_⟩
  have e1 : M[l.length - 1 - i]? = some M[l.length - 1 - i] := List.getElem?_eq_getElem _
  have e2 : M[i]? = some M[i] := List.getElem?_eq_getElem _
  have q1 := h.2 (l.length - 1 - i) (by omega)
  have q2 := h.2 i (by omega)
  rw [if_neg (by omega)] at q1 q2
  by_cases k1 : k = l.length - 1 - i
  · subst k1
    rw [List.getElem?_set_self (by simpa using hy), if_pos (by omega), ← e2, q2]
    congr 1; omega
  · rw [List.getElem?_set_ne (Ne.symm k1)]
    by_cases k2 : k = i
    · subst k2
      rw [List.getElem?_set_self hx, if_pos (by omega), ← e1, q1]
    · rw [List.getElem?_set_ne (Ne.symm k2), h.2 k hk]
      have : (k < i ∨ l.length < k + i + 1) ↔ (k < i + 1 ∨ l.length < k + (i + 1) + 1) := by omega
      simp only [this]
theorem CurAt.set {cur : Array Value} {off : Nat} {M : List Tok} (h : CurAt cur off M) (i : Nat) (hi : i < M.length) (x : Tok) : CurAt (((cur.setIfInBounds (off + i * 3) (.int .u8 x.kind)).setIfInBounds (off + i * 3 + 1) (.string ⟨x.text.toArray⟩)).setIfInBounds (off + i * 3 + 2) (.int .i64 x.at_)) off (M.set i x) := by
  intro j hj
  have hj' : j < M.length := by simpa using hj
  obtain ⟨c0, c1, c2⟩ := h i hi
  have s0 := (Array.getElem?_eq_some_iff.1 c0).1
  have s1 := (Array.getElem?_eq_some_iff.1 c1).1
  have s2 := (Array.getElem?_eq_some_iff.1 c2).1
  by_cases e : j = i
  · subst e
    simp only [List.getElem_set_self]
    refine ⟨?_, ?_, ?_⟩
    · rw [Array.getElem?_setIfInBounds_ne (by omega), Array.getElem?_setIfInBounds_ne (by omega), Array.getElem?_setIfInBounds_self_of_lt (by simpa using s0)]
    · rw [Array.getElem?_setIfInBounds_ne (by omega), Array.getElem?_setIfInBounds_self_of_lt (by simpa using s1)]
    · rw [Array.getElem?_setIfInBounds_self_of_lt (by simpa using s2)]
  · rw [List.getElem_set_ne (Ne.symm e)]
    obtain ⟨d0, d1, d2⟩ := h j hj'
    refine ⟨?_, ?_, ?_⟩
    · rw [Array.getElem?_setIfInBounds_ne (by omega), Array.getElem?_setIfInBounds_ne (by omega), Array.getElem?_setIfInBounds_ne (by omega)]; exact d0
    · rw [Array.getElem?_setIfInBounds_ne (by omega), Array.getElem?_setIfInBounds_ne (by omega), Array.getElem?_setIfInBounds_ne (by omega)]; exact d1
    · rw [Array.getElem?_setIfInBounds_ne (by omega), Array.getElem?_setIfInBounds_ne (by omega), Array.getElem?_setIfInBounds_ne (by omega)]; exact d2
def RvRel (l : List Tok) (n : Nat) (g off : Nat) (w : World) (i j : Value) (wr : World) : Prop :=
  ∃ (k : Nat) (M : List Tok), i = .int .i64 k ∧ j = .int .i64 ((n : Int) - 1 - k) ∧ k ≤ n ∧ Mix l M k ∧ RowAt wr g off M ∧ w.grownBy wr (some g)
set_option maxHeartbeats 2000000 in
set_option maxRecDepth 100000 in
theorem reverse_any (g off cap : Nat) (l : List Tok) (w : World) (hl : l.length ≤ 1000000) (hR : RowAt w g off l) :
    Calls Tryz.prog 64 #[.slice (some ⟨g, off, none⟩) l.length cap] w fun e w' => e = .returned (.tuple #[]) ∧ RowAt w' g off l.reverse ∧ w.grownBy w' (some g) := by
  have HR := hid hR; clear hR
  generalize hn : l.length = n at *
  have Hn := hid hn; clear hn
  go_enter Tryz.func64, Tryz.ntmps64
  go_wp2_with fail
  go_loopw [2, 3] (RvRel l n g off w) (fun i _ _ => n - (intOf i).toNat)
  case atStart => exact ⟨0, l, rfl, by simp, by omega, Mix.start l, HR.out, World.grownBy.refl _ _⟩
  case round =>
    obtain ⟨k, M, rfl, rfl, hk, hmix, hrow, hg⟩ := hrel
    by_cases hlt : 2 * k + 1 < n
    · have hML : M.length = n := hmix.1.trans Hn.out
      have hx : k < M.length := by omega
      have hy : n - 1 - k < M.length := by omega
      have hsw := hmix.swap (by rw [Hn.out]; exact hlt) hx (by rw [Hn.out]; exact hy)
      simp only [Hn.out] at hsw
      obtain ⟨cur, hcur, hat⟩ := hrow
      have c := hat k hx
      have d := hat (n - 1 - k) hy
      have hset := (hat.set k hx M[n - 1 - k]).set (n - 1 - k) (by simpa using hy) M[k]
      have Hset := hid (And.intro hsw hset)
      clear hsw hset hmix
      generalize M[k] = x at *
      generalize M[n - 1 - k] = y at *
      obtain ⟨k1, t1, a1⟩ := x
      obtain ⟨k2, t2, a2⟩ := y
      obtain ⟨c0, c1, c2⟩ := c
      obtain ⟨d0, d1, d2⟩ := d
      obtain ⟨jj, hjj⟩ : ∃ jj, n - 1 - k = jj := ⟨_, rfl⟩
      have hji : (n : Int) - 1 - k = jj := by omega
      rw [hjj] at d0 d1 d2 Hset
      rw [hji]
      have c0 : wr.cell? ⟨g, off + k * 3, none⟩ = some (.int .u8 k1) := (cell_heap hcur _).trans c0
      have c1 : wr.cell? ⟨g, off + k * 3 + 1, none⟩ = some (.string ⟨t1.toArray⟩) := (cell_heap hcur _).trans c1
      have c2 : wr.cell? ⟨g, off + k * 3 + 2, none⟩ = some (.int .i64 a1) := (cell_heap hcur _).trans c2
      have d0 : wr.cell? ⟨g, off + jj * 3, none⟩ = some (.int .u8 k2) := (cell_heap hcur _).trans d0
      have d1 : wr.cell? ⟨g, off + jj * 3 + 1, none⟩ = some (.string ⟨t2.toArray⟩) := (cell_heap hcur _).trans d1
      have d2 : wr.cell? ⟨g, off + jj * 3 + 2, none⟩ = some (.int .i64 a2) := (cell_heap hcur _).trans d2
      have hkj : k < jj := by omega
      have hjn : jj < n := by omega
      have f := fun o => frozen_heap hcur o
      have f0 := f (off + k * 3)
      have f1 := f (off + k * 3 + 1)
      have f2 := f (off + k * 3 + 2)
      have f3 := f (off + jj * 3)
      have f4 := f (off + jj * 3 + 1)
      have f5 := f (off + jj * 3 + 2)
      clear f
      go_wp2_with fail
      have hgr := hid ((((((hg.trans (grown_set wr g (off + k * 3) (.int .u8 k2))).trans (grown_set _ g (off + k * 3 + 1) (.string ⟨t2.toArray⟩))).trans (grown_set _ g (off + k * 3 + 2) (.int .i64 a2))).trans (grown_set _ g (off + jj * 3) (.int .u8 k1))).trans (grown_set _ g (off + jj * 3 + 1) (.string ⟨t1.toArray⟩))).trans (grown_set _ g (off + jj * 3 + 2) (.int .i64 a1)))
      have hsh := hid (set_heap (set_heap (set_heap (set_heap (set_heap (set_heap hcur (off + k * 3) (.int .u8 k2)) (off + k * 3 + 1) (.string ⟨t2.toArray⟩)) (off + k * 3 + 2) (.int .i64 a2)) (off + jj * 3) (.int .u8 k1)) (off + jj * 3 + 1) (.string ⟨t1.toArray⟩)) (off + jj * 3 + 2) (.int .i64 a1))
      go_region
      clear c0 c1 c2 d0 d1 d2 f0 f1 f2 f3 f4 f5
      generalize World.setCell _ ⟨g, off + jj * 3 + 2, none⟩ _ = W9 at *
      go_wp2_with fail
      go_roundw
      case rel => exact ⟨k + 1, _, by go_num, by congr 1; omega, by omega, Hset.out.1, ⟨_, hsh.out, Hset.out.2⟩, grown_like hgr.out rfl rfl rfl rfl⟩
      case measure => simp [intOf]; omega
    · go_wp2_with fail
      go_end0
      refine ⟨rfl, ?_, hg⟩
      rw [← hmix.done (by rw [Hn.out]; omega)]
      exact hrow
end Go.Proofs.YthknlifmkjdoeaaGreatDoor

/-
  THE PROGRAM'S Differ.
-/
namespace Go.Proofs.YthknlifmkjdoeaaGreatDoor
open Go.RowKit Lode Go.Shelf
attribute [local go_sem ↓] Go.wp_at_zero Go.wp_at_succ
theorem reverse_nil (p : Option Addr) (cap : Nat) (w : World) :
    Calls Tryz.prog 64 #[.slice p 0 cap] w fun e w' => e = .returned (.tuple #[]) ∧ w = w' := by
  go_enter Tryz.func64, Tryz.ntmps64
  go_wp2_with fail
  go_loop [2, 3] (fun i j => i = .int .i64 0 ∧ j = .int .i64 (-1)) (fun _ _ => 0)
  case atStart => exact ⟨rfl, rfl⟩
  case round =>
    obtain ⟨rfl, rfl⟩ := hrel
    go_wp2_with fail
    go_end0
    exact ⟨rfl, rfl⟩
theorem Toks.two {w : World} {b : Nat} {v : Value} {l : List Tok} (h : Toks w b v l) : (v = .slice none 0 0 ∧ l = []) ∨ ∃ g cap, v = .slice (some ⟨g, 0, none⟩) l.length cap ∧ b ≤ g ∧ l.length ≤ cap ∧ RowAt w g 0 l := by
  obtain ⟨_, ⟨h1, h2⟩ | ⟨g, cap, cur, h1, h2, h3, h4, h5, h6, h7⟩⟩ := id h
  · exact .inl ⟨h1, List.eq_nil_of_length_eq_zero h2⟩
  · refine .inr ⟨g, cap, h1, h2, h4, cur, h3, fun j hj => ?_⟩
    have hc := tokCells_get l j hj
    subst h1
    have key : ∀ i, i < l.length * 3 → cur[i]? = (tokCells l)[i]? := fun i hi => by
      have := World.ownsRow.cellAt h i hi
      rw [cell_heap h3] at this; exact this
    simp only [Nat.zero_add]
    exact ⟨(key _ (by omega)).trans hc.1, (key _ (by omega)).trans hc.2.1, (key _ (by omega)).trans hc.2.2⟩
theorem RowAt.sub {w : World} {g : Nat} {l : List Tok} (h : RowAt w g 0 l) (f : Nat) : RowAt w g (f * 3) (l.drop f) := by
  obtain ⟨cur, h1, h2⟩ := h
  refine ⟨cur, h1, fun j hj => ?_⟩
  simp only [List.length_drop] at hj
  have := h2 (f + j) (by omega)
  simp only [List.getElem_drop]
  rw [show f * 3 + j * 3 = 0 + (f + j) * 3 from by omega]
  exact this
theorem RowAt.cells {w : World} {g off : Nat} {l : List Tok} (h : RowAt w g off l) : OCells w g off l := by
  obtain ⟨cur, h1, h2⟩ := h
  intro j hj
  obtain ⟨a, b, c⟩ := h2 j hj
  exact ⟨(cell_heap h1 _).trans a, (cell_heap h1 _).trans b, (cell_heap h1 _).trans c⟩
theorem RowAt.kept {w w' : World} {g off : Nat} {l : List Tok} {r : Option Nat} (h : RowAt w g off l) (hg : w.grownBy w' r) (hne : r ≠ some g) : RowAt w' g off l := by
  obtain ⟨cur, h1, h2⟩ := h
  exact ⟨cur, (hg.block g (Array.getElem?_eq_some_iff.1 h1).1 (fun e => hne e.symm)).trans h1, h2⟩
/-- a slice of own tokens, in a block from lo up to hi -/
def RSub (w : World) (lo hi : Nat) (v : Value) (l : List Tok) : Prop := (l = [] ∧ ∃ p cap, v = .slice p 0 cap) ∨ (l ≠ [] ∧ ∃ g off cap, v = .slice (some ⟨g, off, none⟩) l.length cap ∧ lo ≤ g ∧ g < hi ∧ RowAt w g off l)
theorem RSub.o {w : World} {lo hi : Nat} {v : Value} {l : List Tok} (h : RSub w lo hi v l) : OSl w v l := by
  rcases h with ⟨rfl, p, cap, rfl⟩ | ⟨_, g, off, cap, rfl, _, _, hr⟩
  · exact ⟨p, cap, rfl, .inl rfl⟩
  · exact ⟨_, cap, rfl, .inr ⟨g, off, rfl, hr.cells⟩⟩
/-- at most a block from lo up to hi has turned -/
def Turned (w w' : World) (lo hi : Nat) : Prop := w.grownBy w' none ∨ ∃ g, lo ≤ g ∧ g < hi ∧ w.grownBy w' (some g)
theorem RSub.kept {w w' : World} {lo hi a b : Nat} {v : Value} {l : List Tok} (h : RSub w lo hi v l) (hg : Turned w w' a b) (hr : b ≤ lo ∨ hi ≤ a) : RSub w' lo hi v l := by
  rcases h with h | ⟨h1, g, off, cap, h2, h3, h4, h5⟩
  · exact .inl h
  · rcases hg with hg | ⟨k, k1, k2, hg⟩
    · exact .inr ⟨h1, g, off, cap, h2, h3, h4, h5.kept hg (fun e => by cases e)⟩
    · exact .inr ⟨h1, g, off, cap, h2, h3, h4, h5.kept hg (fun e => by cases e; omega)⟩
theorem Turned.below {w w1 w2 : World} {a b : Nat} (h : Below w.heap.size w w1) (hg : Turned w1 w2 a b) (ha : w.heap.size ≤ a) : Below w.heap.size w w2 := by
  rcases hg with hg | ⟨g, k1, _, hg⟩
  · exact ⟨hg.os.trans h.os, hg.tape.trans h.tape, hg.output.trans h.output, Nat.le_trans h.size hg.size, fun k hk => (hg.block k (Nat.lt_of_lt_of_le hk h.size) (fun e => by cases e)).trans (h.block k hk)⟩
  · exact ⟨hg.os.trans h.os, hg.tape.trans h.tape, hg.output.trans h.output, Nat.le_trans h.size hg.size, fun k hk => (hg.block k (Nat.lt_of_lt_of_le hk h.size) (fun e => by cases e; omega)).trans (h.block k hk)⟩
theorem reverse_sub (lo hi : Nat) (v : Value) (l : List Tok) (w : World) (hl : l.length ≤ 1000000) (h : RSub w lo hi v l) :
    Calls Tryz.prog 64 #[v] w fun e w' => e = .returned (.tuple #[]) ∧ RSub w' lo hi v l.reverse ∧ Turned w w' lo hi := by
  rcases h with ⟨rfl, p, cap, rfl⟩ | ⟨h1, g, off, cap, rfl, hb, hb2, hr⟩
  · exact (reverse_nil p cap w).mono fun e w' ⟨h1, h2⟩ => by subst h2; exact ⟨h1, .inl ⟨rfl, p, cap, rfl⟩, .inl (World.grownBy.refl _ _)⟩
  · exact (reverse_any g off cap l w hl hr).mono fun e w' ⟨h2, h3, h4⟩ => ⟨h2, .inr ⟨by simpa using h1, g, off, cap, by rw [List.length_reverse], hb, hb2, h3⟩, .inr ⟨g, hb, hb2, h4⟩⟩
/-- how a slice lies before its first f are cut off -/
def Cut (w : World) (lo hi f : Nat) (v : Value) (l : List Tok) : Prop :=
  (∃ g cap, v = .slice (some ⟨g, 0, none⟩) l.length cap ∧ f < l.length ∧ f < cap ∧ l.length ≤ cap ∧ lo ≤ g ∧ g < hi ∧ RowAt w g 0 l) ∨ (v = .slice none 0 0 ∧ l = [] ∧ f = 0) ∨ (∃ g, v = .slice (some ⟨g, 0, none⟩) f f ∧ l.length = f) ∨ (∃ g cap, v = .slice (some ⟨g, 0, none⟩) f cap ∧ l.length = f ∧ f < cap)
theorem Toks.cut {w : World} {lo hi f : Nat} {v : Value} {l : List Tok} (h : Toks w lo v l) (hf : f ≤ l.length) (hhi : ∀ g, v.ownBlock = some g → g < hi) : Cut w lo hi f v l := by
  rcases h.two with ⟨h1, h2⟩ | ⟨g, cap, h1, h2, h3, h4⟩
  · exact .inr (.inl ⟨h1, h2, by rw [h2] at hf; simpa using hf⟩)
  · by_cases e : f < l.length
    · exact .inl ⟨g, cap, h1, e, by omega, h3, h2, hhi g (by rw [h1]; rfl), h4⟩
    · have e : l.length = f := by omega
      rw [e] at h1
      by_cases e2 : f = cap
      · subst e2; exact .inr (.inr (.inl ⟨g, h1, e⟩))
      · exact .inr (.inr (.inr ⟨g, cap, h1, e, by omega⟩))
theorem rsub_row {w : World} {lo hi g f cap : Nat} {l : List Tok} (hlt : f < l.length) (hb : lo ≤ g) (hb2 : g < hi) (h : RowAt w g 0 l) : RSub w lo hi (.slice (some ⟨g, f * 3, none⟩) (l.length - f) cap) (l.drop f) :=
  .inr ⟨fun e => by have := congrArg List.length e; simp at this; omega, g, f * 3, cap, by rw [List.length_drop], hb, hb2, h.sub f⟩
theorem rsub_row0 {w : World} {lo hi g cap : Nat} {l : List Tok} (hlt : 0 < l.length) (hb : lo ≤ g) (hb2 : g < hi) (h : RowAt w g 0 l) : RSub w lo hi (.slice (some ⟨g, 0, none⟩) l.length cap) (l.drop 0) :=
  .inr ⟨fun e => absurd hlt (by rw [List.drop_zero] at e; rw [e]; simp), g, 0, cap, rfl, hb, hb2, h⟩
theorem rsub_end {w : World} {lo hi f cap : Nat} {p : Option Addr} {l : List Tok} (he : l.length = f) : RSub w lo hi (.slice p 0 cap) (l.drop f) :=
  .inl ⟨List.drop_eq_nil_of_le (by omega), p, cap, rfl⟩
theorem RowAt.drewN {w : World} {g off : Nat} {l : List Tok} (h : RowAt w g off l) (n : Nat) : RowAt (w.drewN n) g off l := h.kept (grown_drewN w n none) (fun e => by cases e)
def DPost (d : (Nat × Nat × Nat) × Nat) (w : World) (e : Ending) (w' : World) : Prop := e = .returned (.tuple #[.int .i64 d.1.1, .int .i64 d.1.2.1, .int .i64 d.1.2.2, .int .i64 d.2]) ∧ Below w.heap.size w w'
theorem scan_len : ∀ (f n a : Nat) (r : List UInt8), n ≤ 1200 → (scan f n a r).1.length + n ≤ 1200
  | 0, n, a, r, h => by simp [scan]; omega
  | f + 1, n, a, r, h => by
    simp only [scan]
    split
    · simp; omega
    · split
      · simp; omega
      · split
        · simp; omega
        · generalize hx : scan f (n + 1) _ _ = x
          have := scan_len f (n + 1) _ _ (by omega : n + 1 ≤ 1200) |> (hx ▸ ·)
          split
          · simp only [List.length_cons]; omega
          · simp; omega
theorem read_len (s : List UInt8) (_h : (Lode.read s).2.2 = 0) : (Lode.read s).1.length ≤ 1000000 := by
  unfold Lode.read
  split
  · simp
  · have := scan_len (s.length + 1) 0 0 s (by omega); omega
set_option maxHeartbeats 2000000 in
set_option maxRecDepth 100000 in
theorem ldiffer_any (s t : ByteArray) (w : World) (hs : s.size ≤ 1000000000000) (ht : t.size ≤ 1000000000000) (hG : Glob w) :
    Calls Tryz.prog 30 #[.string s, .string t] w (DPost (Lode.differ s.data.toList t.data.toList) w) := by
  have H1 := hid (fun (W : World) (hb : Below w.heap.size w W) => lread_any s W hs (hG.later hb))
  have H2 := hid (fun (W : World) (hb : Below w.heap.size w W) => lread_any t W ht (hG.later hb))
  have L1 := read_len s.data.toList
  have L2 := read_len t.data.toList
  generalize hd : Lode.differ s.data.toList t.data.toList = d
  replace hd := hd.symm
  unfold Lode.differ at hd
  generalize Lode.read s.data.toList = x at *
  generalize Lode.read t.data.toList = y at *
  obtain ⟨l, xa, xe⟩ := x
  obtain ⟨m, ya, ye⟩ := y
  simp only at hd L1 L2
  clear hG
  by_cases hx : xe = 0
  · subst hx
    by_cases hy : ye = 0
    · subst hy
      have L1' := L1 rfl
      have L2' := L2 rfl
      clear L1 L2
      simp only [ne_eq, not_true, if_false] at hd
      have hf := commonL_le l m
      have hn := commonL_le (l.drop (commonL l m)).reverse (m.drop (commonL l m)).reverse
      simp only [List.length_reverse, List.length_drop] at hn
      have HC1 := hid (fun (v1 v2 : Value) (W : World) h1 h2 => common_any v1 v2 l m W h1 h2 L1' L2')
      have HC2 := hid (fun (v1 v2 : Value) (W : World) h1 h2 => common_any v1 v2 (l.drop (commonL l m)).reverse (m.drop (commonL l m)).reverse W h1 h2 (by simp; omega) (by simp; omega))
      have Hd := hid hd; clear hd
      go_enter Tryz.func30, Tryz.ntmps30
      go_wp2_with fail
      refine (H1.out _ (Below.refl _ _)).mono ?_
      rintro e w1 ⟨v1, rfl, ht1, hb1⟩
      have hhi1 := fun g hg => (ht1.lt g hg).2
      go_wp2_with fail
      refine (H2.out _ hb1).mono ?_
      rintro e w2 ⟨v2, rfl, ht2, hb2⟩
      have ht1 := ht1.below hb2
      have hbw := below_then hb1 hb2
      go_wp2_with fail
      refine (HC1.out _ _ _ ht1.sl.o ht2.sl.o).mono ?_
      rintro e w3 ⟨rfl, hb3⟩
      have ht1 := ht1.below hb3
      have ht2 := ht2.below hb3
      have hbw3 := below_then hbw hb3
      have hsz := hb3.size
      have hsz2 := hb2.size
      have hsz1 := hb1.size
      obtain ⟨f, hfe⟩ : ∃ f, commonL l m = f := ⟨_, rfl⟩
      rw [hfe] at hf hn HC2 Hd
      rw [hfe]
      clear HC1 H1 H2 hb1 hb2 hb3 hbw hfe
      have hc1 := ht1.cut (hi := w1.heap.size) hf.1 hhi1
      have hc2 := ht2.cut (hi := w3.heap.size) hf.2 (fun g hg => (ht2.lt g hg).2)
      obtain ⟨hf1, hf2⟩ := hf
      have e1 : (0 : Int) ≤ (f : Int) := by omega
      have e2 : (f : Int) ≤ (l.length : Int) := by omega
      have e3 : (f : Int) ≤ (m.length : Int) := by omega
      clear ht1 ht2
      have hlx1 : (l.drop f).length ≤ 1000000 := by simp; omega
      have hmx1 : (m.drop f).length ≤ 1000000 := by simp; omega
      generalize hlx : l.drop f = lx at *
      generalize hmx : m.drop f = mx at *
      have Hlx := hid hlx
      have Hmx := hid hmx
      clear hlx hmx
      rcases hc1 with ⟨g1, cap1, rfl, hl1, hk1, hj1, hg1, hh1, hr1⟩ | ⟨rfl, hle, rfl⟩ | ⟨g1, rfl, hle⟩ | ⟨g1, cap1, rfl, hle, hk1⟩
      all_goals rcases hc2 with ⟨g2, cap2, rfl, hl2, hk2, hj2, hg2, hh2, hr2⟩ | ⟨rfl, hme, hf0⟩ | ⟨g2, rfl, hme⟩ | ⟨g2, cap2, rfl, hme, hk2⟩
      all_goals try subst hf0
      all_goals try (have hle' : l.length = _ := hle)
      all_goals
        go_wp2_with fail
        go_quiet (fail)
        go_wp2_with fail
        have hbq := bl_drewN hbw3 nq
        refine (reverse_sub w.heap.size w1.heap.size _ lx _ hlx1 ?hx).mono ?_
        case hx => rw [← Hlx.out]; first | exact rsub_row hl1 hg1 hh1 (hr1.drewN nq) | exact rsub_row0 hl1 hg1 hh1 (hr1.drewN nq) | exact rsub_end hle | exact rsub_end (by rw [hle]; rfl)
        rintro e w4 ⟨rfl, hx4, hg4⟩
        have hbq := hg4.below hbq (Nat.le_refl _)
        go_wp2_with fail
        refine (reverse_sub w1.heap.size w3.heap.size _ mx _ hmx1 ?hy).mono ?_
        case hy => refine RSub.kept (w := w3.drewN nq) ?_ hg4 (.inl (Nat.le_refl _)); rw [← Hmx.out]; first | exact rsub_row hl2 hg2 hh2 (hr2.drewN nq) | exact rsub_row0 hl2 hg2 hh2 (hr2.drewN nq) | exact rsub_end hme | exact rsub_end (by rw [hme]; rfl)
        rintro e w5 ⟨rfl, hy5, hg5⟩
        have hx5 := hx4.kept hg5 (.inr (Nat.le_refl _))
        have hbq := hg5.below hbq hsz1
        go_wp2_with fail
        refine (HC2.out _ _ _ hx5.o hy5.o).mono ?_
        rintro e w6 ⟨rfl, hb6⟩
        have hbq := below_then hbq hb6
        clear hx4 hy5 hx5 hg4 hg5
        go_wp2_with fail
        generalize commonL lx.reverse mx.reverse = nn at *
        try (have hle2 : l.length = 0 := by rw [hle]; rfl)
        try (have hme2 : m.length = 0 := by rw [hme]; rfl)
        refine bodyPost_ret (v := .tuple #[.int .i64 d.1.1, .int .i64 d.1.2.1, .int .i64 d.1.2.2, .int .i64 d.2]) ?_ rfl ⟨rfl, hbq⟩
        rw [Hd.out]
        simp [results, Tryz.results30, go_sem]
        refine ⟨?_, ?_⟩
        · first | omega | (rw [IntWalk.wrap64_in _ ⟨by omega, by omega⟩]; omega)
        · first | omega | (rw [IntWalk.wrap64_in _ ⟨by omega, by omega⟩]; omega)
    · have hd2 : d = ((0, 0, 0), ye) := by rw [hd]; simp [hy]
      subst hd2
      have h0' : ((ye : Int) != 0) = true := by rw [bne_iff_ne]; omega
      clear hd L1 L2
      go_enter Tryz.func30, Tryz.ntmps30
      go_wp2_with fail
      refine (H1.out _ (Below.refl _ _)).mono ?_
      rintro e w1 ⟨v1, rfl, ht1, hb1⟩
      go_wp2_with fail
      refine (H2.out _ hb1).mono ?_
      rintro e w2 ⟨v2, rfl, ht2, hb2⟩
      have hbw := below_then hb1 hb2
      go_wp2_with fail
      refine bodyPost_ret (v := .tuple #[.int .i64 0, .int .i64 0, .int .i64 0, .int .i64 ye]) (by simp [results, Tryz.results30, go_sem]) rfl ⟨rfl, hbw⟩
  · have hd2 : d = ((0, 0, 0), xe) := by rw [hd]; simp [hx]
    subst hd2
    have h0' : ((xe : Int) != 0) = true := by rw [bne_iff_ne]; omega
    clear hd L1 L2
    go_enter Tryz.func30, Tryz.ntmps30
    go_wp2_with fail
    refine (H1.out _ (Below.refl _ _)).mono ?_
    rintro e w1 ⟨v1, rfl, ht1, hb1⟩
    go_wp2_with fail
    refine bodyPost_ret (v := .tuple #[.int .i64 0, .int .i64 0, .int .i64 0, .int .i64 xe]) (by simp [results, Tryz.results30, go_sem]) rfl ⟨rfl, hb1⟩
end Go.Proofs.YthknlifmkjdoeaaGreatDoor
