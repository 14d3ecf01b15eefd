/-
  slices.Reverse on tokens.
-/
import Derived.Test.YthknlifmkjdoeaaGreatDoorLexR
namespace Go.Proofs.YthknlifmkjdoeaaGreatDoor
open Go.RowKit Lode Go.Shelf
attribute [local go_sem ↓] Go.wp_at_zero Go.wp_at_succ
/-- tokens in a row of cells -/
def CurAt (cur : Array Value) (off : Nat) (M : List Tok) : Prop := ∀ (j : Nat) (h : j < M.length), cur[off + j * 3]? = some (.int .u8 M[j].kind) ∧ cur[off + j * 3 + 1]? = some (.string ⟨M[j].text.toArray⟩) ∧ cur[off + j * 3 + 2]? = some (.int .i64 M[j].at_)
def RowAt (w : World) (g off : Nat) (M : List Tok) : Prop := ∃ cur, w.heap[g]? = some (.cells cur 46 (0, 0)) ∧ CurAt cur off M
/-- the first i and the last i have been turned -/
def Mix (l M : List Tok) (i : Nat) : Prop := M.length = l.length ∧ ∀ k, k < l.length → M[k]? = if k < i ∨ l.length < k + i + 1 then l[l.length - 1 - k]? else l[k]?
theorem Mix.start (l : List Tok) : Mix l l 0 := ⟨rfl, fun k hk => by rw [if_neg (by omega)]⟩
theorem Mix.done {l M : List Tok} {i : Nat} (h : Mix l M i) (hi : l.length ≤ 2 * i + 1) : M = l.reverse := by
  apply List.ext_getElem? 
  intro k
  by_cases hk : k < l.length
  · rw [h.2 k hk, List.getElem?_reverse hk]
    split
    · rfl
    · have : l.length - 1 - k = k := by omega
      rw [this]
  · rw [List.getElem?_eq_none (by rw [h.1]; omega), List.getElem?_eq_none (by simp; omega)]
theorem Mix.swap {l M : List Tok} {i : Nat} (h : Mix l M i) (hi : 2 * i + 1 < l.length) (hx : i < M.length) (hy : l.length - 1 - i < M.length) : Mix l ((M.set i M[l.length - 1 - i]).set (l.length - 1 - i) M[i]) (i + 1) := by
  refine ⟨by simp [h.1], fun k hk => ?_⟩
  have e1 : M[l.length - 1 - i]? = some M[l.length - 1 - i] := List.getElem?_eq_getElem _
  have e2 : M[i]? = some M[i] := List.getElem?_eq_getElem _
  have q1 := h.2 (l.length - 1 - i) (by omega)
  have q2 := h.2 i (by omega)
  rw [if_neg (by omega)] at q1 q2
  by_cases k1 : k = l.length - 1 - i
  · subst k1
    rw [List.getElem?_set_self (by simpa using hy), if_pos (by omega), ← e2, q2]
    congr 1; omega
  · rw [List.getElem?_set_ne (Ne.symm k1)]
    by_cases k2 : k = i
    · subst k2
      rw [List.getElem?_set_self hx, if_pos (by omega), ← e1, q1]
    · rw [List.getElem?_set_ne (Ne.symm k2), h.2 k hk]
      have : (k < i ∨ l.length < k + i + 1) ↔ (k < i + 1 ∨ l.length < k + (i + 1) + 1) := by omega
      simp only [this]
theorem CurAt.set {cur : Array Value} {off : Nat} {M : List Tok} (h : CurAt cur off M) (i : Nat) (hi : i < M.length) (x : Tok) : CurAt (((cur.setIfInBounds (off + i * 3) (.int .u8 x.kind)).setIfInBounds (off + i * 3 + 1) (.string ⟨x.text.toArray⟩)).setIfInBounds (off + i * 3 + 2) (.int .i64 x.at_)) off (M.set i x) := by
  intro j hj
  have hj' : j < M.length := by simpa using hj
  obtain ⟨c0, c1, c2⟩ := h i hi
  have s0 := (Array.getElem?_eq_some_iff.1 c0).1
  have s1 := (Array.getElem?_eq_some_iff.1 c1).1
  have s2 := (Array.getElem?_eq_some_iff.1 c2).1
  by_cases e : j = i
  · subst e
    simp only [List.getElem_set_self]
    refine ⟨?_, ?_, ?_⟩
    · rw [Array.getElem?_setIfInBounds_ne (by omega), Array.getElem?_setIfInBounds_ne (by omega), Array.getElem?_setIfInBounds_self_of_lt (by simpa using s0)]
    · rw [Array.getElem?_setIfInBounds_ne (by omega), Array.getElem?_setIfInBounds_self_of_lt (by simpa using s1)]
    · rw [Array.getElem?_setIfInBounds_self_of_lt (by simpa using s2)]
  · rw [List.getElem_set_ne (Ne.symm e)]
    obtain ⟨d0, d1, d2⟩ := h j hj'
    refine ⟨?_, ?_, ?_⟩
    · rw [Array.getElem?_setIfInBounds_ne (by omega), Array.getElem?_setIfInBounds_ne (by omega), Array.getElem?_setIfInBounds_ne (by omega)]; exact d0
    · rw [Array.getElem?_setIfInBounds_ne (by omega), Array.getElem?_setIfInBounds_ne (by omega), Array.getElem?_setIfInBounds_ne (by omega)]; exact d1
    · rw [Array.getElem?_setIfInBounds_ne (by omega), Array.getElem?_setIfInBounds_ne (by omega), Array.getElem?_setIfInBounds_ne (by omega)]; exact d2
def RvRel (l : List Tok) (n : Nat) (g off : Nat) (w : World) (i j : Value) (wr : World) : Prop :=
  ∃ (k : Nat) (M : List Tok), i = .int .i64 k ∧ j = .int .i64 ((n : Int) - 1 - k) ∧ k ≤ n ∧ Mix l M k ∧ RowAt wr g off M ∧ w.grownBy wr (some g)
set_option maxHeartbeats 2000000 in
set_option maxRecDepth 100000 in
theorem reverse_any (g off cap : Nat) (l : List Tok) (w : World) (hl : l.length ≤ 1000000) (hR : RowAt w g off l) :
    Calls Tryz.prog 64 #[.slice (some ⟨g, off, none⟩) l.length cap] w fun e w' => e = .returned (.tuple #[]) ∧ RowAt w' g off l.reverse ∧ w.grownBy w' (some g) := by
  have HR := hid hR; clear hR
  generalize hn : l.length = n at *
  have Hn := hid hn; clear hn
  go_enter Tryz.func64, Tryz.ntmps64
  go_wp2_with fail
  go_loopw [2, 3] (RvRel l n g off w) (fun i _ _ => n - (intOf i).toNat)
  case atStart => exact ⟨0, l, rfl, by simp, by omega, Mix.start l, HR.out, World.grownBy.refl _ _⟩
  case round =>
    obtain ⟨k, M, rfl, rfl, hk, hmix, hrow, hg⟩ := hrel
    by_cases hlt : 2 * k + 1 < n
    · have hML : M.length = n := hmix.1.trans Hn.out
      have hx : k < M.length := by omega
      have hy : n - 1 - k < M.length := by omega
      have hsw := hmix.swap (by rw [Hn.out]; exact hlt) hx (by rw [Hn.out]; exact hy)
      simp only [Hn.out] at hsw
      obtain ⟨cur, hcur, hat⟩ := hrow
      have c := hat k hx
      have d := hat (n - 1 - k) hy
      have hset := (hat.set k hx M[n - 1 - k]).set (n - 1 - k) (by simpa using hy) M[k]
      have Hset := hid (And.intro hsw hset)
      clear hsw hset hmix
      generalize M[k] = x at *
      generalize M[n - 1 - k] = y at *
      obtain ⟨k1, t1, a1⟩ := x
      obtain ⟨k2, t2, a2⟩ := y
      obtain ⟨c0, c1, c2⟩ := c
      obtain ⟨d0, d1, d2⟩ := d
      obtain ⟨jj, hjj⟩ : ∃ jj, n - 1 - k = jj := ⟨_, rfl⟩
      have hji : (n : Int) - 1 - k = jj := by omega
      rw [hjj] at d0 d1 d2 Hset
      rw [hji]
      have c0 : wr.cell? ⟨g, off + k * 3, none⟩ = some (.int .u8 k1) := (cell_heap hcur _).trans c0
      have c1 : wr.cell? ⟨g, off + k * 3 + 1, none⟩ = some (.string ⟨t1.toArray⟩) := (cell_heap hcur _).trans c1
      have c2 : wr.cell? ⟨g, off + k * 3 + 2, none⟩ = some (.int .i64 a1) := (cell_heap hcur _).trans c2
      have d0 : wr.cell? ⟨g, off + jj * 3, none⟩ = some (.int .u8 k2) := (cell_heap hcur _).trans d0
      have d1 : wr.cell? ⟨g, off + jj * 3 + 1, none⟩ = some (.string ⟨t2.toArray⟩) := (cell_heap hcur _).trans d1
      have d2 : wr.cell? ⟨g, off + jj * 3 + 2, none⟩ = some (.int .i64 a2) := (cell_heap hcur _).trans d2
      have hkj : k < jj := by omega
      have hjn : jj < n := by omega
      have f := fun o => frozen_heap hcur o
      have f0 := f (off + k * 3)
      have f1 := f (off + k * 3 + 1)
      have f2 := f (off + k * 3 + 2)
      have f3 := f (off + jj * 3)
      have f4 := f (off + jj * 3 + 1)
      have f5 := f (off + jj * 3 + 2)
      clear f
      go_wp2_with fail
      have hgr := hid ((((((hg.trans (grown_set wr g (off + k * 3) (.int .u8 k2))).trans (grown_set _ g (off + k * 3 + 1) (.string ⟨t2.toArray⟩))).trans (grown_set _ g (off + k * 3 + 2) (.int .i64 a2))).trans (grown_set _ g (off + jj * 3) (.int .u8 k1))).trans (grown_set _ g (off + jj * 3 + 1) (.string ⟨t1.toArray⟩))).trans (grown_set _ g (off + jj * 3 + 2) (.int .i64 a1)))
      have hsh := hid (set_heap (set_heap (set_heap (set_heap (set_heap (set_heap hcur (off + k * 3) (.int .u8 k2)) (off + k * 3 + 1) (.string ⟨t2.toArray⟩)) (off + k * 3 + 2) (.int .i64 a2)) (off + jj * 3) (.int .u8 k1)) (off + jj * 3 + 1) (.string ⟨t1.toArray⟩)) (off + jj * 3 + 2) (.int .i64 a1))
      go_region
      clear c0 c1 c2 d0 d1 d2 f0 f1 f2 f3 f4 f5
      generalize World.setCell _ ⟨g, off + jj * 3 + 2, none⟩ _ = W9 at *
      go_wp2_with fail
      go_roundw
      case rel => exact ⟨k + 1, _, by go_num, by congr 1; omega, by omega, Hset.out.1, ⟨_, hsh.out, Hset.out.2⟩, grown_like hgr.out rfl rfl rfl rfl⟩
      case measure => simp [intOf]; omega
    · go_wp2_with fail
      go_end0
      refine ⟨rfl, ?_, hg⟩
      rw [← hmix.done (by rw [Hn.out]; omega)]
      exact hrow
end Go.Proofs.YthknlifmkjdoeaaGreatDoor
