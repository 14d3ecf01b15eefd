/-
  THE READER: run.
-/
import Derived.Lib.AppendIntMem
import Derived.Test.YthknlifmkjdoeaaGreatDoorLexC
import Derived.Test.YthknlifmkjdoeaaGreatDoorRefH
namespace Go.Proofs.YthknlifmkjdoeaaGreatDoor
open Go.RowKit Lode Go.Shelf
attribute [local go_sem ↓] Go.wp_at_zero Go.wp_at_succ
def inCls (zs : List Int) (c : UInt8) : Bool := zs.any fun y => clsOf c == y
theorem cell_later {w W : World} (h : Below w.heap.size w W) {a : Addr} {v : Value} (hc : w.cell? a = some v) : W.cell? a = some v := by
  rw [World.cell?_of_block (h.block _ (World.block_lt_of_cell? w _ hc))]; exact hc
theorem heap_later {w W : World} (h : Below w.heap.size w W) {b : Nat} {o : Obj} (hc : w.heap[b]? = some o) : W.heap[b]? = some o := by
  rw [h.block b (Array.getElem?_eq_some_iff.1 hc).1]; exact hc
theorem run1P (zs : List Int) (b x : Nat) (w : World) (hx : w.cell? ⟨x, 0, none⟩ = some (.slice (some ⟨b, 0, none⟩) zs.length zs.length)) (hz : zs.length ≤ 1000)
    (hc : ∀ j, j < zs.length → w.cell? ⟨b, j, none⟩ = some (.int .u8 zs[j]!)) : PredB Tryz.prog 119 #[.pointer (some ⟨x, 0, none⟩)] (inCls zs) w := by
  refine ⟨enters_of Tryz.func119 (by kernel_rfl) rfl, fun W c hbW => ?_⟩
  have hx' : W.cell? ⟨x, 0, none⟩ = some (.slice (some ⟨b, 0, none⟩) zs.length zs.length) := cell_later hbW hx
  have hc' : ∀ j, j < zs.length → W.cell? ⟨b, 0 + j, none⟩ = some (.int .u8 zs[j]!) := fun j hj => by rw [Nat.zero_add]; exact cell_later hbW (hc j hj)
  have Hc := hid (fun (W' : World) (q : ∃ n, W' = W.drewN n) => Tryz.slices_Contains_class (Value.int .u8) _ (EqlAt.int Tryz.prog _ .u8) b 0 zs.length zs.length zs (clsOf c) W' (Nat.le_refl _) (by omega) (fun j hj => by obtain ⟨n, rfl⟩ := q; exact hc' j hj))
  clear hc hc'
  go_enter Tryz.func119, Tryz.ntmps119
  go_wp2_with fail
  go_quiet ((first
    | (go_at_call 104; refine (classOf_any c _).mono ?_; rintro e w' ⟨rfl, rfl⟩; exact ⟨rfl, _, rfl⟩)
    | (go_at_call 120; refine (Hc.out _ ⟨_, rfl⟩).mono ?_; rintro e w' ⟨rfl, rfl⟩; exact ⟨rfl, _, rfl⟩)))
  go_wp2_with fail
  go_ret
  exact ⟨by simp [inCls], by repeat (first | exact Below.refl _ _ | with_reducible apply Below.drew | with_reducible apply bl_drewN)⟩
theorem runLen_find (p : UInt8 → Bool) : ∀ l : List UInt8, runLen p l = (findIx (fun c => !p c) l).getD l.length
  | [] => rfl
  | c :: r => by
    by_cases h : p c = true
    · simp [runLen, findIx, h, runLen_find p r]
    · have h : p c = false := by simpa using h
      simp [runLen, findIx, h]
set_option maxRecDepth 100000 in
theorem run_any (R : Nat) (s : ByteArray) (a : Nat) (wv sv : Value) (zs : List Int) (b : Nat) (w : World) (hs : s.size ≤ 1000000000000) (ha : a < s.size) (hR : RdrAt w R s a wv sv) (hz : zs.length ≤ 1000)
    (hc : ∀ j, j < zs.length → w.cell? ⟨b, j, none⟩ = some (.int .u8 zs[j]!)) :
    Calls Tryz.prog 105 #[.pointer (some ⟨R, 0, none⟩), .slice (some ⟨b, 0, none⟩) zs.length zs.length] w fun e w' => e = .returned (.int .i64 (runLen (inCls zs) (s.data.toList.drop (a + 1)))) ∧ Below w.heap.size w w' := by
  have hc0 : w.cell? ⟨R, 0, none⟩ = some (.string s) := cell_heap hR 0
  have hc1 : w.cell? ⟨R, 1, none⟩ = some (.int .i64 a) := cell_heap hR 1
  have hxe : (s.extract (a + 1) s.size).data.toList = s.data.toList.drop (a + 1) := by simp [List.extract_eq_take_drop]; exact List.take_of_length_le (by simp)
  have hsz : (s.extract (a + 1) s.size).size = s.size - (a + 1) := by simp
  have hn0 : ∀ o, (w.alloc o).cell? ⟨R, 0, none⟩ = some (.string s) := fun o => cell_later ((Below.refl _ _).alloc (Nat.le_refl _) o) hc0
  have hn1 : ∀ o, (w.alloc o).cell? ⟨R, 1, none⟩ = some (.int .i64 a) := fun o => cell_later ((Below.refl _ _).alloc (Nat.le_refl _) o) hc1
  rw [runLen_find]
  have HF := hid (fun (W : World) (q : ∃ n, W = (w.alloc (.cells #[.slice (some ⟨b, 0, none⟩) zs.length zs.length] 144)).drewN n) => first_any (s.extract (a + 1) s.size) 119 #[.pointer (some ⟨w.heap.size, 0, none⟩)] (inCls zs) W
    (run1P zs b w.heap.size W (by obtain ⟨n, rfl⟩ := q; simp) hz (fun j hj => by obtain ⟨n, rfl⟩ := q; exact cell_later (((Below.refl _ _).alloc (Nat.le_refl _) _).trans (bl_drewN (Below.refl _ _) n |>.mono (by simp))) (hc j hj))) (by rw [hsz]; omega))
  rw [hxe] at HF
  have hl : (s.data.toList.drop (a + 1)).length = s.size - (a + 1) := by simp
  generalize hf : findIx (fun c => !inCls zs c) (s.data.toList.drop (a + 1)) = f at *
  rw [hl]
  clear hR hc hl hf hxe
  have h1 : (a : Int) + 1 ≤ (s.size : Int) := by omega
  have h2 : (0 : Int) ≤ (a : Int) + 1 := by omega
  have h3 : IntKind.i64.wrap ((a : Int) + 1) = a + 1 := IntWalk.i64_in _ (by omega)
  have h4 : ((a : Int) + 1).toNat = a + 1 := by omega
  have h5 : a + 1 ≤ s.size := by omega
  cases f with
  | none =>
    simp only [ixOf, Option.getD_none] at *
    go_enter Tryz.func105, Tryz.ntmps105
    go_wp2_with fail
    go_quiet (fail)
    clear h1 h2 h3 h4
    go_wp2_with (go_at_call 46; refine (HF.out _ ⟨_, rfl⟩).mono ?_; rintro e w1 ⟨rfl, hb⟩)
    go_ret
    exact ⟨rfl, (bl_drewN (bl_alloc (Below.refl _ _) _) nq).trans (hb.mono (by simp))⟩
  | some i =>
    simp only [ixOf, Option.getD_some] at *
    go_enter Tryz.func105, Tryz.ntmps105
    go_wp2_with fail
    go_quiet (fail)
    clear h1 h2 h3 h4
    go_wp2_with (go_at_call 46; refine (HF.out _ ⟨_, rfl⟩).mono ?_; rintro e w1 ⟨rfl, hb⟩)
    go_ret
    exact ⟨rfl, (bl_drewN (bl_alloc (Below.refl _ _) _) nq).trans (hb.mono (by simp))⟩
end Go.Proofs.YthknlifmkjdoeaaGreatDoor

/-
  What the globals hold; isNumber, words, signs, newReader.
-/
namespace Go.Proofs.YthknlifmkjdoeaaGreatDoor
open Go.RowKit Lode Go.Shelf
attribute [local go_sem ↓] Go.wp_at_zero Go.wp_at_succ
/-- what the package variables that the chapter reads hold -/
structure Glob (w : World) : Prop where
  space : Lib.TabIs Tryz.prog w "strings.asciiSpace" .u8 Lib.asciiSpaceTab
  pow : Lib.TabIs Tryz.prog w "internal/strconv.uint64pow10" .u64 Lib.pow10Tab
  erange : ∃ tp p, w.var? Tryz.prog "strconv.ErrRange" = some #[.iface tp p]
theorem var_later {n : String} {g : Nat} (hg : Tryz.prog.globalNamed n = some g) {w w' : World} (hb : Below w.heap.size w w') {r : Array Value} (h : w.var? Tryz.prog n = some r) : w'.var? Tryz.prog n = some r := by
  unfold World.var? at *
  rw [hg] at h ⊢
  simp only [Option.bind_some] at h ⊢
  have hlt : g < w.heap.size := by
    rcases Nat.lt_or_ge g w.heap.size with h' | h'
    · exact h'
    · rw [Array.getElem?_eq_none h'] at h; cases h
  rw [hb.block g hlt]
  exact h
theorem Glob.later {w w' : World} (h : Glob w) (hb : Below w.heap.size w w') : Glob w' :=
  ⟨var_later (g := 1) (by kernel_rfl) hb h.space, var_later (g := 7) (by kernel_rfl) hb h.pow, by
    obtain ⟨tp, p, h⟩ := h.erange
    exact ⟨tp, p, var_later (g := 6) (by kernel_rfl) hb h⟩⟩
set_option maxRecDepth 100000 in
theorem isNumber_any (s : ByteArray) (w : World) (hs : s.size ≤ 1000000000000) (hG : Glob w) (h0 : s.data.toList ≠ []) (hd : s.data.toList.all digit = true) :
    Calls Tryz.prog 107 #[.string s] w fun e w' => e = .returned (.bool (isNum s.data.toList)) ∧ Below w.heap.size w w' := by
  have ha := atoi_digits s.data.toList h0 hd
  rw [isNum_itoa _ h0 hd]
  generalize hv : numVal s.data.toList = v at *
  have hG := hid hG
  by_cases hlt : v < 9223372036854775808
  · rw [if_pos hlt] at ha
    have Ha := hid (Tryz.strconv_Atoi_ok s (by omega) v ha)
    clear ha hv h0 hd
    by_cases hle : v ≤ 1000000000
    · have hI := hid (fun (W : World) (hb : Below w.heap.size w W) => Tryz.strconv_Itoa v (by omega) (by omega) W (hG.out.later hb).pow)
      have hle' : ((v : Int) ≤ 1000000000) := by omega
      have hr : (decide (v ≤ 1000000000) && decide (Go.Lib.itoa v = s.data.toList)) = decide (Go.Lib.itoa v = s.data.toList) := by simp [hle]
      rw [hr]
      clear hr hle
      go_enter Tryz.func107, Tryz.ntmps107
      go_wp2_with (first
        | (go_at_call 122; refine (Ha.out _).mono ?_; rintro e w1 ⟨rfl, hw⟩; have hb : Below w.heap.size w w1 := (by rcases hw with rfl | ⟨t, rfl⟩; exact Below.refl _ _; exact below_bytes _ _ _); clear hw)
        | (go_at_call 123; refine (hI.out _ hb).mono ?_; rintro e w2 ⟨rfl, hw2⟩; have hb2 : Below w.heap.size w w2 := (by obtain ⟨k, os, rfl⟩ := hw2; exact below_then hb (Lib.below_grow _ _ (Nat.le_refl _) k os)); clear hw2))
      go_ret
      exact ⟨congrArg (fun b => Ending.returned (.bool b)) (by rw [Bool.eq_iff_iff]; simp [ByteArray.toList_eq]), hb2⟩
    · have hr : (decide (v ≤ 1000000000) && decide (Go.Lib.itoa v = s.data.toList)) = false := by simp [hle]
      rw [hr]
      have hle' : ¬ ((v : Int) ≤ 1000000000) := by omega
      clear hr hle
      go_enter Tryz.func107, Tryz.ntmps107
      go_wp2_with (go_at_call 122; refine (Ha.out _).mono ?_; rintro e w1 ⟨rfl, hw⟩; have hb : Below w.heap.size w w1 := (by rcases hw with rfl | ⟨t, rfl⟩; exact Below.refl _ _; exact below_bytes _ _ _); clear hw)
      go_ret
      exact ⟨rfl, hb⟩
  · rw [if_neg hlt] at ha
    have hr : (decide (v ≤ 1000000000) && decide (Go.Lib.itoa v = s.data.toList)) = false := by simp; omega
    rw [hr]
    obtain ⟨tp, p, hE⟩ := hG.out.erange
    have Ha := hid (Tryz.strconv_Atoi_range_var s (by omega) ha tp p w hE)
    clear hr ha hE hv h0 hd
    go_enter Tryz.func107, Tryz.ntmps107
    go_wp2_with (go_at_call 122; refine Ha.out.mono ?_; rintro e w1 ⟨N, rfl, _, _, hb⟩)
    go_ret
    exact ⟨rfl, hb⟩
theorem fields_lit (s : ByteArray) (l : List (List UInt8)) (hf : Lib.fields s.data.toList = l) (hs : decide (s.size < 4294967281) = true) (ha : s.data.toList.all (fun b => decide (b.toNat < 128)) = true) (w : World) (hG : Glob w) :
    Calls Tryz.prog 102 #[.string s] w fun e w' => e = .returned (.slice (some ⟨w.heap.size, 0, none⟩) l.length l.length) ∧ w.alloc (.cells (strs l) 9) = w' := by
  subst hf
  exact (Tryz.strings_Fields s w (of_decide_eq_true hs) (fun j b hb => by
    have := List.all_eq_true.1 ha b (List.mem_of_getElem? hb)
    simpa using this) hG.space).mono fun e w' ⟨h1, h2⟩ => ⟨h1, h2.symm⟩
set_option maxRecDepth 100000 in
theorem words_any (w : World) (hG : Glob w) :
    Calls Tryz.prog 83 #[] w fun e w' => e = .returned (.slice (some ⟨w.heap.size, 0, none⟩) 44 44) ∧ w.alloc (.cells (strs wordList) 9) = w' := by
  have hG := hid hG
  go_enter Tryz.func83, Tryz.ntmps83
  go_wp2_with (go_at_call 102; go_loud (refine (fields_lit _ wordList ?_ ?_ ?_ _ hG.out).mono ?_; rotate_left 3; rintro e w' ⟨rfl, rfl⟩; rotate_right 3; kernel_rfl; kernel_rfl; kernel_rfl))
  go_ret
  exact ⟨rfl, rfl⟩
set_option maxRecDepth 100000 in
theorem signs_any (w : World) (hG : Glob w) :
    Calls Tryz.prog 84 #[] w fun e w' => e = .returned (.slice (some ⟨w.heap.size, 0, none⟩) 25 25) ∧ w.alloc (.cells (strs signList) 9) = w' := by
  have hG := hid hG
  go_enter Tryz.func84, Tryz.ntmps84
  go_wp2_with (go_at_call 102; go_loud (refine (fields_lit _ signList ?_ ?_ ?_ _ hG.out).mono ?_; rotate_left 3; rintro e w' ⟨rfl, rfl⟩; rotate_right 3; kernel_rfl; kernel_rfl; kernel_rfl))
  go_ret
  exact ⟨rfl, rfl⟩
/-- the reader at block R, with its lists -/
def Rd (w : World) (R : Nat) (s : ByteArray) (a : Nat) : Prop :=
  ∃ wb sb, RdrAt w R s a (.slice (some ⟨wb, 0, none⟩) 44 44) (.slice (some ⟨sb, 0, none⟩) 25 25) ∧ w.heap[wb]? = some (.cells (strs wordList) 9 (0, 0)) ∧ w.heap[sb]? = some (.cells (strs signList) 9 (0, 0)) ∧ wb ≠ R ∧ sb ≠ R
set_option maxRecDepth 100000 in
theorem newReader_any (s : ByteArray) (w : World) (hG : Glob w) :
    Calls Tryz.prog 51 #[.string s] w fun e w' => e = .returned (.pointer (some ⟨w.heap.size + 2, 0, none⟩)) ∧ Rd w' (w.heap.size + 2) s 0 ∧ Below w.heap.size w w' := by
  have HW := hid (fun (W : World) (hb : Below w.heap.size w W) => words_any W (hG.later hb))
  have HS := hid (fun (W : World) (hb : Below w.heap.size w W) => signs_any W (hG.later hb))
  have hG := hid hG
  go_enter Tryz.func51, Tryz.ntmps51
  go_wp2_with (first
    | (go_at_call 83; refine (HW.out _ (Below.refl _ _)).mono ?_; rintro e w' ⟨rfl, rfl⟩)
    | (go_at_call 84; refine (HS.out _ (below_alloc _ _)).mono ?_; rintro e w' ⟨rfl, rfl⟩))
  go_ret
  refine ⟨rfl, ⟨w.heap.size, w.heap.size + 1, ?_, ?_, ?_, by omega, by omega⟩, bl_alloc (bl_alloc (below_alloc _ _) _) _⟩
  · exact heap_at _ _ _ (by simp)
  · exact heap_old _ (heap_old _ (heap_new _ _))
  · exact heap_old _ (heap_at _ _ _ (by simp))
end Go.Proofs.YthknlifmkjdoeaaGreatDoor

/-
  THE READER: token, what its ways share.
-/
namespace Go.Proofs.YthknlifmkjdoeaaGreatDoor
open Go.RowKit Lode Go.Shelf
theorem inCls13 : inCls [1, 3] = fun c => digit c || (true && small c) := by
  funext c
  rw [Bool.eq_iff_iff]
  by_cases h1 : small c = true
  · simp [inCls, clsOf, h1]
  · by_cases h2 : big c = true
    · have h3 : digit c = false := by simp [big] at h2; simp [digit]; omega
      simp [inCls, clsOf, h1, h2, h3]
    · by_cases h3 : digit c = true <;> simp [inCls, clsOf, h1, h2, h3]
theorem inCls3 : inCls [3] = digit := by
  funext c
  rw [Bool.eq_iff_iff]
  by_cases h1 : small c = true
  · have h3 : digit c = false := by simp [small] at h1; simp [digit]; omega
    simp [inCls, clsOf, h1, h3]
  · by_cases h2 : big c = true
    · have h3 : digit c = false := by simp [big] at h2; simp [digit]; omega
      simp [inCls, clsOf, h1, h2, h3]
    · by_cases h3 : digit c = true <;> simp [inCls, clsOf, h1, h2, h3]
/-- the result's cells before anything has been found -/
abbrev T0 (a : Nat) : Obj := .cells #[.int .u8 0, .string ⟨#[]⟩, .int .i64 a] 46 (0, 0)
abbrev CL (zs : List Int) : Obj := .cells (zs.map (Value.int .u8)).toArray 129 (0, 0)
/-- the result's cells at the first new block, in a world that has grown from w -/
structure Tk (w W : World) (k : Int) (t : ByteArray) (a : Nat) : Prop where
  b : Below w.heap.size w W
  h : W.heap[w.heap.size]? = some (.cells #[.int .u8 k, .string t, .int .i64 a] 46 (0, 0))
theorem Tk.cells {w W : World} {k : Int} {t : ByteArray} {a : Nat} (h : Tk w W k t a) : W.cell? ⟨w.heap.size, 0, none⟩ = some (.int .u8 k) ∧ W.cell? ⟨w.heap.size, 1, none⟩ = some (.string t) ∧ W.cell? ⟨w.heap.size, 2, none⟩ = some (.int .i64 a) ∧
    W.frozen? ⟨w.heap.size, 0, none⟩ = false ∧ W.frozen? ⟨w.heap.size, 1, none⟩ = false ∧ W.frozen? ⟨w.heap.size, 2, none⟩ = false := ⟨cell_heap h.h 0, cell_heap h.h 1, cell_heap h.h 2, frozen_heap h.h 0, frozen_heap h.h 1, frozen_heap h.h 2⟩
theorem Tk.rdr {w W : World} {k : Int} {t : ByteArray} {a : Nat} (h : Tk w W k t a) {R : Nat} {s : ByteArray} {p : Nat} {wv sv : Value} (hR : RdrAt w R s p wv sv) : W.cell? ⟨R, 0, none⟩ = some (.string s) ∧ W.cell? ⟨R, 1, none⟩ = some (.int .i64 p) ∧ W.cell? ⟨R, 2, none⟩ = some wv ∧ W.cell? ⟨R, 3, none⟩ = some sv :=
  ⟨cell_later h.b (cell_heap hR 0), cell_later h.b (cell_heap hR 1), cell_later h.b (cell_heap hR 2), cell_later h.b (cell_heap hR 3)⟩
theorem rdr_ne {w : World} {R : Nat} {s : ByteArray} {p : Nat} {wv sv : Value} (hR : RdrAt w R s p wv sv) : R ≠ w.heap.size :=
  fun e => by have := World.block_lt_of_cell? w _ (cell_heap hR 0 : w.cell? ⟨R, 0, none⟩ = some _); rw [e] at this; exact Nat.lt_irrefl _ this
theorem Tk.drew {w W : World} {k : Int} {t : ByteArray} {a : Nat} (h : Tk w W k t a) : Tk w W.drew k t a := ⟨h.b.drew, h.h⟩
theorem Tk.kind {w W : World} {k : Int} {t : ByteArray} {a : Nat} (h : Tk w W k t a) (k' : Int) : Tk w (W.setCell ⟨w.heap.size, 0, none⟩ (.int .u8 k')) k' t a := ⟨bl_set h.b _ _ (Nat.le_refl _) _, set_heap h.h 0 _⟩
theorem Tk.text {w W : World} {k : Int} {t : ByteArray} {a : Nat} (h : Tk w W k t a) (t' : ByteArray) : Tk w (W.setCell ⟨w.heap.size, 1, none⟩ (.string t')) k t' a := ⟨bl_set h.b _ _ (Nat.le_refl _) _, set_heap h.h 1 _⟩
theorem Tk.at {w W : World} {k : Int} {t : ByteArray} {a : Nat} (h : Tk w W k t a) : Tk w (W.setCell ⟨w.heap.size, 2, none⟩ (.int .i64 a)) k t a := ⟨bl_set h.b _ _ (Nat.le_refl _) _, set_heap h.h 2 _⟩
theorem Tk.drewN {w W : World} {k : Int} {t : ByteArray} {a : Nat} (h : Tk w W k t a) (n : Nat) : Tk w (W.drewN n) k t a := ⟨bl_drewN h.b n, by rw [drewN_heap]; exact h.h⟩
theorem Tk.later {w W W' : World} {k : Int} {t : ByteArray} {a : Nat} (h : Tk w W k t a) (hb : Below W.heap.size W W') : Tk w W' k t a := ⟨below_then h.b hb, heap_later hb h.h⟩
theorem cell_set_far {R b : Nat} (h : R ≠ b) (w : World) (i j : Nat) (v : Value) : (w.setCell ⟨b, i, none⟩ v).cell? ⟨R, j, none⟩ = w.cell? ⟨R, j, none⟩ := by
  refine World.cell?_of_block (a := ⟨R, j, none⟩) ?_
  simp [World.setCell, Array.getElem?_modify, Ne.symm h]
theorem cell_drew (w : World) (a : Addr) : w.drew.cell? a = w.cell? a := rfl
theorem cell_drewN (w : World) (n : Nat) (a : Addr) : (w.drewN n).cell? a = w.cell? a := by simp [World.cell?]
theorem run_at_rdr (R : Nat) (s : ByteArray) (a : Nat) (wv sv : Value) (zs : List Int) (w W : World) (hs : s.size ≤ 1000000000000) (ha : a < s.size) (hR : RdrAt w R s a wv sv) (hz : zs.length ≤ 1000) (m : Nat) (hm : runLen (inCls zs) (s.data.toList.drop (a + 1)) = m)
    (q : ∃ n, W = ((w.alloc (T0 a)).drewN n).alloc (CL zs)) (b : Nat) (hbb : b = w.heap.size + 1) :
    Calls Tryz.prog 105 #[.pointer (some ⟨R, 0, none⟩), .slice (some ⟨b, 0, none⟩) zs.length zs.length] W fun e w1 => e = .returned (.int .i64 m) ∧ Tk w w1 0 ⟨#[]⟩ a := by
  obtain ⟨n, rfl⟩ := q
  subst hbb
  have hb : Below w.heap.size w (((w.alloc (T0 a)).drewN n).alloc (CL zs)) := bl_alloc (bl_drewN (below_alloc _ _) _) _
  have hC : (((w.alloc (T0 a)).drewN n).alloc (CL zs)).heap[w.heap.size + 1]? = some (CL zs) := heap_at _ _ _ (by simp)
  refine (run_any R s a wv sv zs (w.heap.size + 1) _ hs ha (heap_later hb hR) hz (fun j hj => by rw [cell_heap hC j]; simp [hj])).mono fun e w1 ⟨h1, h2⟩ => ⟨by rw [h1, hm], ?_⟩
  exact ⟨below_then hb h2, heap_later h2 (heap_old _ (by rw [drewN_heap]; exact heap_new _ _))⟩
theorem words_has (x : ByteArray) (W : World) (b : Nat) (hb : W.heap[b]? = some (.cells (strs wordList) 9 (0, 0))) :
    Calls Tryz.prog 106 #[.slice (some ⟨b, 0, none⟩) 44 44, .string x] W fun e w' => e = .returned (.bool (wordList.contains x.data.toList)) ∧ w' = W := by
  have h := Tryz.slices_Contains_string b 0 44 44 (wordList.map fun l => ⟨l.toArray⟩) x W (by decide) (by decide) (fun j hj => by
    rw [Nat.zero_add, cell_heap hb j]
    have hj' : j < wordList.length := by simpa using hj
    simp only [strs, List.getElem?_toArray, List.getElem?_map, List.getD_eq_getElem?_getD]
    rw [List.getElem?_eq_getElem hj']; rfl)
  have hh : Lib.containsS (List.take 44 (wordList.map fun l => ⟨l.toArray⟩)) x = wordList.contains x.data.toList := by
    rw [List.take_of_length_le (by decide), Bool.eq_iff_iff, Lib.containsS_iff]
    simp only [List.mem_map, List.contains_iff_mem]
    constructor
    · rintro ⟨l, hl, rfl⟩; simpa using hl
    · intro h; exact ⟨_, h, (ba_eta x).symm⟩
  rw [hh] at h
  exact h
theorem frozen_later {w W : World} (h : Below w.heap.size w W) {a : Addr} (hlt : a.block < w.heap.size) (hc : w.frozen? a = false) : W.frozen? a = false := by
  rw [World.frozen?_of_block (h.block _ hlt)]; exact hc
theorem set_id {w : World} {a : Addr} {v : Value} (h : w.cell? a = some v) : w.setCell a v = w := by
  unfold World.cell? at h
  have hh : (w.setCell a v).heap = w.heap := by
    apply Array.ext (by simp [World.setCell])
    intro i h1 h2
    simp only [World.setCell, Array.getElem_modify]
    split
    · rename_i e
      subst e
      rw [Array.getElem?_eq_getElem h2] at h
      generalize w.heap[a.block] = o at *
      cases o <;> simp_all
      rename_i c _ _
      obtain ⟨hlt, hv⟩ := Array.getElem?_eq_some_iff.1 h.2
      apply Array.ext (by simp)
      intro i h1 h2
      rw [Array.getElem_setIfInBounds]
      split
      · rename_i e; subst e; exact hv.symm
      · rfl
    · rfl
  have e : w.setCell a v = { w with heap := (w.setCell a v).heap } := rfl
  rw [e, hh]
theorem set_far {b k : Nat} (h : k ≠ b) {w : World} {i : Nat} {v : Value} : (w.setCell ⟨b, i, none⟩ v).heap[k]? = w.heap[k]? := Below.heap_setCell w ⟨b, i, none⟩ v k h
end Go.Proofs.YthknlifmkjdoeaaGreatDoor
