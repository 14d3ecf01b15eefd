/-
  What the globals hold; isNumber, words, signs, newReader.
-/
import Derived.Test.YthknlifmkjdoeaaGreatDoorLexE
import Derived.Test.YthknlifmkjdoeaaGreatDoorRefH
import Derived.Lib.AppendIntMem
namespace Go.Proofs.YthknlifmkjdoeaaGreatDoor
open Go.RowKit Lode Go.Shelf
attribute [local go_sem ↓] Go.wp_at_zero Go.wp_at_succ
/-- what the package variables that the chapter reads hold -/
structure Glob (w : World) : Prop where
  space : Lib.TabIs Tryz.prog w "strings.asciiSpace" .u8 Lib.asciiSpaceTab
  pow : Lib.TabIs Tryz.prog w "internal/strconv.uint64pow10" .u64 Lib.pow10Tab
  erange : ∃ tp p, w.var? Tryz.prog "strconv.ErrRange" = some #[.iface tp p]
theorem var_later {n : String} {g : Nat} (hg : Tryz.prog.globalNamed n = some g) {w w' : World} (hb : Below w.heap.size w w') {r : Array Value} (h : w.var? Tryz.prog n = some r) : w'.var? Tryz.prog n = some r := by
  unfold World.var? at *
  rw [hg] at h ⊢
  simp only [Option.bind_some] at h ⊢
  have hlt : g < w.heap.size := by
    rcases Nat.lt_or_ge g w.heap.size with h' | h'
    · exact h'
    · rw [Array.getElem?_eq_none h'] at h; cases h
  rw [hb.block g hlt]
  exact h
theorem Glob.later {w w' : World} (h : Glob w) (hb : Below w.heap.size w w') : Glob w' :=
  ⟨var_later (g := 1) (by kernel_rfl) hb h.space, var_later (g := 7) (by kernel_rfl) hb h.pow, by
    obtain ⟨tp, p, h⟩ := h.erange
    exact ⟨tp, p, var_later (g := 6) (by kernel_rfl) hb h⟩⟩
set_option maxRecDepth 100000 in
theorem isNumber_any (s : ByteArray) (w : World) (hs : s.size ≤ 1000000000000) (hG : Glob w) (h0 : s.data.toList ≠ []) (hd : s.data.toList.all digit = true) :
    Calls Tryz.prog 107 #[.string s] w fun e w' => e = .returned (.bool (isNum s.data.toList)) ∧ Below w.heap.size w w' := by
  have ha := atoi_digits s.data.toList h0 hd
  rw [isNum_itoa _ h0 hd]
  generalize hv : numVal s.data.toList = v at *
  have hG := hid hG
  by_cases hlt : v < 9223372036854775808
  · rw [if_pos hlt] at ha
    have Ha := hid (Tryz.strconv_Atoi_ok s (by omega) v ha)
    clear ha hv h0 hd
    by_cases hle : v ≤ 1000000000
    · have hI := hid (fun (W : World) (hb : Below w.heap.size w W) => Tryz.strconv_Itoa v (by omega) (by omega) W (hG.out.later hb).pow)
      have hle' : ((v : Int) ≤ 1000000000) := by omega
      have hr : (decide (v ≤ 1000000000) && decide (Go.Lib.itoa v = s.data.toList)) = decide (Go.Lib.itoa v = s.data.toList) := by simp [hle]
      rw [hr]
      clear hr hle
      go_enter Tryz.func107, Tryz.ntmps107
      go_wp2_with (first
        | (go_at_call 122; refine (Ha.out _).mono ?_; rintro e w1 ⟨rfl, hw⟩; have hb : Below w.heap.size w w1 := (by rcases hw with rfl | ⟨t, rfl⟩; exact Below.refl _ _; exact below_bytes _ _ _); clear hw)
        | (go_at_call 123; refine (hI.out _ hb).mono ?_; rintro e w2 ⟨rfl, hw2⟩; have hb2 : Below w.heap.size w w2 := (by obtain ⟨k, os, rfl⟩ := hw2; exact below_then hb (Lib.below_grow _ _ (Nat.le_refl _) k os)); clear hw2))
      go_ret
      exact ⟨congrArg (fun b => Ending.returned (.bool b)) (by rw [Bool.eq_iff_iff]; simp [ByteArray.toList_eq]), hb2⟩
    · have hr : (decide (v ≤ 1000000000) && decide (Go.Lib.itoa v = s.data.toList)) = false := by simp [hle]
      rw [hr]
      have hle' : ¬ ((v : Int) ≤ 1000000000) := by omega
      clear hr hle
      go_enter Tryz.func107, Tryz.ntmps107
      go_wp2_with (go_at_call 122; refine (Ha.out _).mono ?_; rintro e w1 ⟨rfl, hw⟩; have hb : Below w.heap.size w w1 := (by rcases hw with rfl | ⟨t, rfl⟩; exact Below.refl _ _; exact below_bytes _ _ _); clear hw)
      go_ret
      exact ⟨rfl, hb⟩
  · rw [if_neg hlt] at ha
    have hr : (decide (v ≤ 1000000000) && decide (Go.Lib.itoa v = s.data.toList)) = false := by simp; omega
    rw [hr]
    obtain ⟨tp, p, hE⟩ := hG.out.erange
    have Ha := hid (Tryz.strconv_Atoi_range_var s (by omega) ha tp p w hE)
    clear hr ha hE hv h0 hd
    go_enter Tryz.func107, Tryz.ntmps107
    go_wp2_with (go_at_call 122; refine Ha.out.mono ?_; rintro e w1 ⟨N, rfl, _, _, hb⟩)
    go_ret
    exact ⟨rfl, hb⟩
theorem fields_lit (s : ByteArray) (l : List (List UInt8)) (hf : Lib.fields s.data.toList = l) (hs : decide (s.size < 4294967281) = true) (ha : s.data.toList.all (fun b => decide (b.toNat < 128)) = true) (w : World) (hG : Glob w) :
    Calls Tryz.prog 102 #[.string s] w fun e w' => e = .returned (.slice (some ⟨w.heap.size, 0, none⟩) l.length l.length) ∧ w.alloc (.cells (strs l) 9) = w' := by
  subst hf
  exact (Tryz.strings_Fields s w (of_decide_eq_true hs) (fun j b hb => by
    have := List.all_eq_true.1 ha b (List.mem_of_getElem? hb)
    simpa using this) hG.space).mono fun e w' ⟨h1, h2⟩ => ⟨h1, h2.symm⟩
set_option maxRecDepth 100000 in
theorem words_any (w : World) (hG : Glob w) :
    Calls Tryz.prog 83 #[] w fun e w' => e = .returned (.slice (some ⟨w.heap.size, 0, none⟩) 44 44) ∧ w.alloc (.cells (strs wordList) 9) = w' := by
  have hG := hid hG
  go_enter Tryz.func83, Tryz.ntmps83
  go_wp2_with (go_at_call 102; go_loud (refine (fields_lit _ wordList ?_ ?_ ?_ _ hG.out).mono ?_; rotate_left 3; rintro e w' ⟨rfl, rfl⟩; rotate_right 3; kernel_rfl; kernel_rfl; kernel_rfl))
  go_ret
  exact ⟨rfl, rfl⟩
set_option maxRecDepth 100000 in
theorem signs_any (w : World) (hG : Glob w) :
    Calls Tryz.prog 84 #[] w fun e w' => e = .returned (.slice (some ⟨w.heap.size, 0, none⟩) 25 25) ∧ w.alloc (.cells (strs signList) 9) = w' := by
  have hG := hid hG
  go_enter Tryz.func84, Tryz.ntmps84
  go_wp2_with (go_at_call 102; go_loud (refine (fields_lit _ signList ?_ ?_ ?_ _ hG.out).mono ?_; rotate_left 3; rintro e w' ⟨rfl, rfl⟩; rotate_right 3; kernel_rfl; kernel_rfl; kernel_rfl))
  go_ret
  exact ⟨rfl, rfl⟩
/-- the reader at block R, with its lists -/
def Rd (w : World) (R : Nat) (s : ByteArray) (a : Nat) : Prop :=
  ∃ wb sb, RdrAt w R s a (.slice (some ⟨wb, 0, none⟩) 44 44) (.slice (some ⟨sb, 0, none⟩) 25 25) ∧ w.heap[wb]? = some (.cells (strs wordList) 9 (0, 0)) ∧ w.heap[sb]? = some (.cells (strs signList) 9 (0, 0)) ∧ wb ≠ R ∧ sb ≠ R
set_option maxRecDepth 100000 in
theorem newReader_any (s : ByteArray) (w : World) (hG : Glob w) :
    Calls Tryz.prog 51 #[.string s] w fun e w' => e = .returned (.pointer (some ⟨w.heap.size + 2, 0, none⟩)) ∧ Rd w' (w.heap.size + 2) s 0 ∧ Below w.heap.size w w' := by
  have HW := hid (fun (W : World) (hb : Below w.heap.size w W) => words_any W (hG.later hb))
  have HS := hid (fun (W : World) (hb : Below w.heap.size w W) => signs_any W (hG.later hb))
  have hG := hid hG
  go_enter Tryz.func51, Tryz.ntmps51
  go_wp2_with (first
    | (go_at_call 83; refine (HW.out _ (Below.refl _ _)).mono ?_; rintro e w' ⟨rfl, rfl⟩)
    | (go_at_call 84; refine (HS.out _ (below_alloc _ _)).mono ?_; rintro e w' ⟨rfl, rfl⟩))
  go_ret
  refine ⟨rfl, ⟨w.heap.size, w.heap.size + 1, ?_, ?_, ?_, by omega, by omega⟩, bl_alloc (bl_alloc (below_alloc _ _) _) _⟩
  · exact heap_at _ _ _ (by simp)
  · exact heap_old _ (heap_old _ (heap_new _ _))
  · exact heap_old _ (heap_at _ _ _ (by simp))
end Go.Proofs.YthknlifmkjdoeaaGreatDoor
