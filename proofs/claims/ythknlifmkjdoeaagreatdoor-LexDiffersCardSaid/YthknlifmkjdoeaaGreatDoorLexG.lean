/-
  THE READER: token, what its ways share.
-/
import Derived.Test.YthknlifmkjdoeaaGreatDoorLexF
namespace Go.Proofs.YthknlifmkjdoeaaGreatDoor
open Go.RowKit Lode Go.Shelf
theorem inCls13 : inCls [1, 3] = fun c => digit c || (true && small c) := by
  funext c
  rw [Bool.eq_iff_iff]
  by_cases h1 : small c = true
  · simp [inCls, clsOf, h1]
  · by_cases h2 : big c = true
    · have h3 : digit c = false := by simp [big] at h2; simp [digit]; omega
      simp [inCls, clsOf, h1, h2, h3]
    · by_cases h3 : digit c = true <;> simp [inCls, clsOf, h1, h2, h3]
theorem inCls3 : inCls [3] = digit := by
  funext c
  rw [Bool.eq_iff_iff]
  by_cases h1 : small c = true
  · have h3 : digit c = false := by simp [small] at h1; simp [digit]; omega
    simp [inCls, clsOf, h1, h3]
  · by_cases h2 : big c = true
    · have h3 : digit c = false := by simp [big] at h2; simp [digit]; omega
      simp [inCls, clsOf, h1, h2, h3]
    · by_cases h3 : digit c = true <;> simp [inCls, clsOf, h1, h2, h3]
/-- the result's cells before anything has been found -/
abbrev T0 (a : Nat) : Obj := .cells #[.int .u8 0, .string ⟨#[]⟩, .int .i64 a] 46 (0, 0)
abbrev CL (zs : List Int) : Obj := .cells (zs.map (Value.int .u8)).toArray 129 (0, 0)
/-- the result's cells at the first new block, in a world that has grown from w -/
structure Tk (w W : World) (k : Int) (t : ByteArray) (a : Nat) : Prop where
  b : Below w.heap.size w W
  h : W.heap[w.heap.size]? = some (.cells #[.int .u8 k, .string t, .int .i64 a] 46 (0, 0))
theorem Tk.cells {w W : World} {k : Int} {t : ByteArray} {a : Nat} (h : Tk w W k t a) : W.cell? ⟨w.heap.size, 0, none⟩ = some (.int .u8 k) ∧ W.cell? ⟨w.heap.size, 1, none⟩ = some (.string t) ∧ W.cell? ⟨w.heap.size, 2, none⟩ = some (.int .i64 a) ∧
    W.frozen? ⟨w.heap.size, 0, none⟩ = false ∧ W.frozen? ⟨w.heap.size, 1, none⟩ = false ∧ W.frozen? ⟨w.heap.size, 2, none⟩ = false := ⟨cell_heap h.h 0, cell_heap h.h 1, cell_heap h.h 2, frozen_heap h.h 0, frozen_heap h.h 1, frozen_heap h.h 2⟩
theorem Tk.rdr {w W : World} {k : Int} {t : ByteArray} {a : Nat} (h : Tk w W k t a) {R : Nat} {s : ByteArray} {p : Nat} {wv sv : Value} (hR : RdrAt w R s p wv sv) : W.cell? ⟨R, 0, none⟩ = some (.string s) ∧ W.cell? ⟨R, 1, none⟩ = some (.int .i64 p) ∧ W.cell? ⟨R, 2, none⟩ = some wv ∧ W.cell? ⟨R, 3, none⟩ = some sv :=
  ⟨cell_later h.b (cell_heap hR 0), cell_later h.b (cell_heap hR 1), cell_later h.b (cell_heap hR 2), cell_later h.b (cell_heap hR 3)⟩
theorem rdr_ne {w : World} {R : Nat} {s : ByteArray} {p : Nat} {wv sv : Value} (hR : RdrAt w R s p wv sv) : R ≠ w.heap.size :=
  fun e => by have := World.block_lt_of_cell? w _ (cell_heap hR 0 : w.cell? ⟨R, 0, none⟩ = some _); rw [e] at this; exact Nat.lt_irrefl _ this
theorem Tk.drew {w W : World} {k : Int} {t : ByteArray} {a : Nat} (h : Tk w W k t a) : Tk w W.drew k t a := ⟨h.b.drew, h.h⟩
theorem Tk.kind {w W : World} {k : Int} {t : ByteArray} {a : Nat} (h : Tk w W k t a) (k' : Int) : Tk w (W.setCell ⟨w.heap.size, 0, none⟩ (.int .u8 k')) k' t a := ⟨bl_set h.b _ _ (Nat.le_refl _) _, set_heap h.h 0 _⟩
theorem Tk.text {w W : World} {k : Int} {t : ByteArray} {a : Nat} (h : Tk w W k t a) (t' : ByteArray) : Tk w (W.setCell ⟨w.heap.size, 1, none⟩ (.string t')) k t' a := ⟨bl_set h.b _ _ (Nat.le_refl _) _, set_heap h.h 1 _⟩
theorem Tk.at {w W : World} {k : Int} {t : ByteArray} {a : Nat} (h : Tk w W k t a) : Tk w (W.setCell ⟨w.heap.size, 2, none⟩ (.int .i64 a)) k t a := ⟨bl_set h.b _ _ (Nat.le_refl _) _, set_heap h.h 2 _⟩
theorem Tk.drewN {w W : World} {k : Int} {t : ByteArray} {a : Nat} (h : Tk w W k t a) (n : Nat) : Tk w (W.drewN n) k t a := ⟨bl_drewN h.b n, by rw [drewN_heap]; exact h.h⟩
theorem Tk.later {w W W' : World} {k : Int} {t : ByteArray} {a : Nat} (h : Tk w W k t a) (hb : Below W.heap.size W W') : Tk w W' k t a := ⟨below_then h.b hb, heap_later hb h.h⟩
theorem cell_set_far {R b : Nat} (h : R ≠ b) (w : World) (i j : Nat) (v : Value) : (w.setCell ⟨b, i, none⟩ v).cell? ⟨R, j, none⟩ = w.cell? ⟨R, j, none⟩ := by
  refine World.cell?_of_block (a := ⟨R, j, none⟩) ?_
  simp [World.setCell, Array.getElem?_modify, Ne.symm h]
theorem cell_drew (w : World) (a : Addr) : w.drew.cell? a = w.cell? a := rfl
theorem cell_drewN (w : World) (n : Nat) (a : Addr) : (w.drewN n).cell? a = w.cell? a := by simp [World.cell?]
theorem run_at_rdr (R : Nat) (s : ByteArray) (a : Nat) (wv sv : Value) (zs : List Int) (w W : World) (hs : s.size ≤ 1000000000000) (ha : a < s.size) (hR : RdrAt w R s a wv sv) (hz : zs.length ≤ 1000) (m : Nat) (hm : runLen (inCls zs) (s.data.toList.drop (a + 1)) = m)
    (q : ∃ n, W = ((w.alloc (T0 a)).drewN n).alloc (CL zs)) (b : Nat) (hbb : b = w.heap.size + 1) :
    Calls Tryz.prog 105 #[.pointer (some ⟨R, 0, none⟩), .slice (some ⟨b, 0, none⟩) zs.length zs.length] W fun e w1 => e = .returned (.int .i64 m) ∧ Tk w w1 0 ⟨#[]⟩ a := by
  obtain ⟨n, rfl⟩ := q
  subst hbb
  have hb : Below w.heap.size w (((w.alloc (T0 a)).drewN n).alloc (CL zs)) := bl_alloc (bl_drewN (below_alloc _ _) _) _
  have hC : (((w.alloc (T0 a)).drewN n).alloc (CL zs)).heap[w.heap.size + 1]? = some (CL zs) := heap_at _ _ _ (by simp)
  refine (run_any R s a wv sv zs (w.heap.size + 1) _ hs ha (heap_later hb hR) hz (fun j hj => by rw [cell_heap hC j]; simp [hj])).mono fun e w1 ⟨h1, h2⟩ => ⟨by rw [h1, hm], ?_⟩
  exact ⟨below_then hb h2, heap_later h2 (heap_old _ (by rw [drewN_heap]; exact heap_new _ _))⟩
theorem words_has (x : ByteArray) (W : World) (b : Nat) (hb : W.heap[b]? = some (.cells (strs wordList) 9 (0, 0))) :
    Calls Tryz.prog 106 #[.slice (some ⟨b, 0, none⟩) 44 44, .string x] W fun e w' => e = .returned (.bool (wordList.contains x.data.toList)) ∧ w' = W := by
  have h := Tryz.slices_Contains_string b 0 44 44 (wordList.map fun l => ⟨l.toArray⟩) x W (by decide) (by decide) (fun j hj => by
    rw [Nat.zero_add, cell_heap hb j]
    have hj' : j < wordList.length := by simpa using hj
    simp only [strs, List.getElem?_toArray, List.getElem?_map, List.getD_eq_getElem?_getD]
    rw [List.getElem?_eq_getElem hj']; rfl)
  have hh : Lib.containsS (List.take 44 (wordList.map fun l => ⟨l.toArray⟩)) x = wordList.contains x.data.toList := by
    rw [List.take_of_length_le (by decide), Bool.eq_iff_iff, Lib.containsS_iff]
    simp only [List.mem_map, List.contains_iff_mem]
    constructor
    · rintro ⟨l, hl, rfl⟩; simpa using hl
    · intro h; exact ⟨_, h, (ba_eta x).symm⟩
  rw [hh] at h
  exact h
theorem frozen_later {w W : World} (h : Below w.heap.size w W) {a : Addr} (hlt : a.block < w.heap.size) (hc : w.frozen? a = false) : W.frozen? a = false := by
  rw [World.frozen?_of_block (h.block _ hlt)]; exact hc
theorem set_id {w : World} {a : Addr} {v : Value} (h : w.cell? a = some v) : w.setCell a v = w := by
  unfold World.cell? at h
  have hh : (w.setCell a v).heap = w.heap := by
    apply Array.ext (by simp [World.setCell])
    intro i h1 h2
    simp only [World.setCell, Array.getElem_modify]
    split
    · rename_i e
      subst e
      rw [Array.getElem?_eq_getElem h2] at h
      generalize w.heap[a.block] = o at *
      cases o <;> simp_all
      rename_i c _ _
      obtain ⟨hlt, hv⟩ := Array.getElem?_eq_some_iff.1 h.2
      apply Array.ext (by simp)
      intro i h1 h2
      rw [Array.getElem_setIfInBounds]
      split
      · rename_i e; subst e; exact hv.symm
      · rfl
    · rfl
  have e : w.setCell a v = { w with heap := (w.setCell a v).heap } := rfl
  rw [e, hh]
theorem set_far {b k : Nat} (h : k ≠ b) {w : World} {i : Nat} {v : Value} : (w.setCell ⟨b, i, none⟩ v).heap[k]? = w.heap[k]? := Below.heap_setCell w ⟨b, i, none⟩ v k h
end Go.Proofs.YthknlifmkjdoeaaGreatDoor
