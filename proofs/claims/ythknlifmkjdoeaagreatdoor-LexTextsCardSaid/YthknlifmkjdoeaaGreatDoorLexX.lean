/-
  known: the document's examples.
-/
import Derived.ChangeSlices
import Derived.Lib.LaidTab
import Derived.LaidSub
import Derived.Stop.LaidErr
import Derived.WalkKit
import Derived.Test.YthknlifmkjdoeaaGreatDoorLexP
import Derived.Test.YthknlifmkjdoeaaGreatDoorLexV
import Derived.Test.YthknlifmkjdoeaaGreatDoorLexR
import Derived.Test.YthknlifmkjdoeaaGreatDoorRows
import Derived.Test.YthknlifmkjdoeaaGreatDoorProg
namespace Go.Proofs.YthknlifmkjdoeaaGreatDoor
open Go.RowKit Lode Go.Shelf
attribute [local go_sem ↓] Go.wp_at_zero Go.wp_at_succ
theorem read1 : Lode.read (⟨#[108, 101, 116, 32, 97, 49, 32, 61, 32, 34, 120, 92, 110, 35, 34, 59, 32, 35, 32, 115, 111]⟩ : ByteArray).data.toList = ([⟨5, [108, 101, 116], 0⟩, ⟨1, [97, 49], 4⟩, ⟨6, [61], 7⟩, ⟨4, [120, 10, 35], 9⟩, ⟨6, [59], 15⟩], 0, 0) := by decide +kernel
theorem read2 : Lode.read (⟨#[49, 50, 97, 98]⟩ : ByteArray).data.toList = ([⟨3, [49, 50], 0⟩, ⟨1, [97, 98], 2⟩], 0, 0) := by decide +kernel
theorem read3 : Lode.read (⟨#[120, 32, 61, 32, 34, 92, 116, 34]⟩ : ByteArray).data.toList = ([], 4, 4) := by decide +kernel
theorem place4 : place (⟨#[97, 10, 98, 99]⟩ : ByteArray).data.toList 3 = ((2, 2), 0) := by decide +kernel
theorem offset4 : offset (⟨#[97, 10, 98, 99]⟩ : ByteArray).data.toList 2 2 = (3, 0) := by decide +kernel
theorem quote5 : quote (⟨#[97, 34, 98]⟩ : ByteArray).data.toList = ([34, 97, 92, 34, 98, 34], 0) := by decide +kernel
theorem unquote6 : unquote (⟨#[34, 97, 92, 34, 98, 34]⟩ : ByteArray).data.toList = ([97, 34, 98], 0) := by decide +kernel
theorem apart7 : lApart ⟨6, [58], 0⟩ ⟨6, [61], 0⟩ = (true, 0) := by decide +kernel
theorem apart8 : lApart ⟨6, [45], 0⟩ ⟨6, [45], 0⟩ = (false, 0) := by decide +kernel
theorem differ9 : Lode.differ (⟨#[102, 40, 97, 44, 32, 98, 41]⟩ : ByteArray).data.toList (⟨#[102, 40, 97, 44, 32, 99, 44, 32, 100, 41]⟩ : ByteArray).data.toList = ((4, 1, 3), 0) := by decide +kernel
theorem ltok_any (k : Int) (t : ByteArray) (w : World) : Calls Tryz.prog 45 #[.int .u8 k, .string t] w fun e w' => e = .returned (.agg #[.int .u8 k, .string t, .int .i64 0]) ∧ Below w.heap.size w w' := by
  go_enter Tryz.func45, Tryz.ntmps45
  go_wp2_with fail
  generalize hW : World.alloc _ _ = W9
  have h := heap_new w (.cells #[.int .u8 k, .string t, .int .i64 0] 46 (0, 0))
  rw [hW] at h
  have u0 := cell_heap h 0
  have u1 := cell_heap h 1
  have u2 := cell_heap h 2
  refine bodyPost_ret (v := .agg #[.int .u8 k, .string t, .int .i64 0]) (by simp [results, Tryz.results45, go_sem, u0, u1, u2]) rfl ⟨rfl, by rw [← hW]; exact below_alloc _ _⟩
set_option maxHeartbeats 4000000 in
set_option maxRecDepth 100000 in
theorem known_any (w : World) (hG : Glob w) : Calls Tryz.prog 15 #[] w fun e w' => e = .returned (.bool true) ∧ Below w.heap.size w w' := by
  have K1 := hid (fun (W : World) (hb : Below w.heap.size w W) => (lread_any ⟨#[108, 101, 116, 32, 97, 49, 32, 61, 32, 34, 120, 92, 110, 35, 34, 59, 32, 35, 32, 115, 111]⟩ W (by decide) (hG.later hb)).mono (R' := fun e w' => ∃ g cap, e = .returned (.tuple #[.slice (some ⟨g, 0, none⟩) 5 cap, .int .i64 0, .int .i64 0]) ∧ (w'.cell? ⟨g, 9, none⟩ = some (.int .u8 4) ∧ w'.cell? ⟨g, 10, none⟩ = some (.string ⟨#[120, 10, 35]⟩) ∧ w'.cell? ⟨g, 11, none⟩ = some (.int .i64 9) ∧ w'.cell? ⟨g, 12, none⟩ = some (.int .u8 6) ∧ w'.cell? ⟨g, 13, none⟩ = some (.string ⟨#[59]⟩) ∧ w'.cell? ⟨g, 14, none⟩ = some (.int .i64 15)) ∧ Below w.heap.size w w' ∧ Below W.heap.size W w') (fun e w' ⟨v, he, ht, hb2⟩ => by
    rw [read1] at he ht
    obtain ⟨_, ⟨_, h⟩ | ⟨g, cap, cur, rfl, _⟩⟩ := id ht
    · cases h
    · exact ⟨g, cap, he, ⟨World.ownsRow.cellAt ht 9 (by decide), World.ownsRow.cellAt ht 10 (by decide), World.ownsRow.cellAt ht 11 (by decide), World.ownsRow.cellAt ht 12 (by decide), World.ownsRow.cellAt ht 13 (by decide), World.ownsRow.cellAt ht 14 (by decide)⟩, below_then hb hb2, hb2⟩))
  have K2 := hid (fun (W : World) (hb : Below w.heap.size w W) => (lread_any ⟨#[49, 50, 97, 98]⟩ W (by decide) (hG.later hb)).mono (R' := fun e w' => ∃ g cap, e = .returned (.tuple #[.slice (some ⟨g, 0, none⟩) 2 cap, .int .i64 0, .int .i64 0]) ∧ (w'.cell? ⟨g, 3, none⟩ = some (.int .u8 1) ∧ w'.cell? ⟨g, 4, none⟩ = some (.string ⟨#[97, 98]⟩) ∧ w'.cell? ⟨g, 5, none⟩ = some (.int .i64 2)) ∧ Below w.heap.size w w' ∧ Below W.heap.size W w') (fun e w' ⟨v, he, ht, hb2⟩ => by
    rw [read2] at he ht
    obtain ⟨_, ⟨_, h⟩ | ⟨g, cap, cur, rfl, _⟩⟩ := id ht
    · cases h
    · exact ⟨g, cap, he, ⟨World.ownsRow.cellAt ht 3 (by decide), World.ownsRow.cellAt ht 4 (by decide), World.ownsRow.cellAt ht 5 (by decide)⟩, below_then hb hb2, hb2⟩))
  have K3 := hid (fun (W : World) (hb : Below w.heap.size w W) => (lread_any ⟨#[120, 32, 61, 32, 34, 92, 116, 34]⟩ W (by decide) (hG.later hb)).mono (R' := fun e w' => ∃ v, e = .returned (.tuple #[v, .int .i64 4, .int .i64 4]) ∧ Below w.heap.size w w' ∧ Below W.heap.size W w') (fun e w' ⟨v, he, ht, hb2⟩ => by
    rw [read3] at he
    exact ⟨v, he, below_then hb hb2, hb2⟩))
  have K4 := hid (fun (W : World) => place4 ▸ lplace_any ⟨#[97, 10, 98, 99]⟩ 3 W (by decide))
  have K5 := hid (fun (W : World) => offset4 ▸ loffset_any ⟨#[97, 10, 98, 99]⟩ 2 2 W (by decide))
  have K6 := hid (fun (W : World) => quote5 ▸ lquote_any ⟨#[97, 34, 98]⟩ W (by decide))
  have K7 := hid (fun (W : World) => unquote6 ▸ lunquote_any ⟨#[34, 97, 92, 34, 98, 34]⟩ W (by decide))
  have K8 := hid (fun (W : World) (hb : Below w.heap.size w W) => apart7 ▸ lApart_any 6 6 [58] [61] 0 0 W (by decide) (by decide) (hG.later hb))
  have K9 := hid (fun (W : World) (hb : Below w.heap.size w W) => apart8 ▸ lApart_any 6 6 [45] [45] 0 0 W (by decide) (by decide) (hG.later hb))
  have K10 := hid (fun (W : World) (hb : Below w.heap.size w W) => differ9 ▸ ldiffer_any ⟨#[102, 40, 97, 44, 32, 98, 41]⟩ ⟨#[102, 40, 97, 44, 32, 99, 44, 32, 100, 41]⟩ W (by decide) (by decide) (hG.later hb))
  clear hG
  go_enter Tryz.func15, Tryz.ntmps15
  go_wp2_with fail
  refine (K1.out _ (Below.refl _ _)).mono ?_
  rintro e w1 ⟨g1, cap1, rfl, cc1, hb, _⟩
  have cc1 := hid cc1
  have B1 := Below.refl w1.heap.size w1
  go_wp2_with fail
  refine (K2.out _ hb).mono ?_
  rintro e w2 ⟨g2, cap2, rfl, cc2, hb, hn⟩
  have cc2 := hid cc2
  have B1 := below_then B1 hn
  have B2 := Below.refl w2.heap.size w2
  go_wp2_with fail
  refine (K3.out _ hb).mono ?_
  rintro e w3 ⟨v3, rfl, hb, hn⟩
  have B1 := below_then B1 hn
  have B2 := below_then B2 hn
  go_wp2_with fail
  refine (K4.out _).mono ?_
  rintro e w4 ⟨rfl, hn⟩
  have hn := bl_alloc hn (.cells #[.int .i64 2, .int .i64 2] 23 (0, 0))
  have hS := hid (heap_new w4 (.cells #[.int .i64 2, .int .i64 2] 23 (0, 0)))
  have hb := below_then hb hn
  have B1 := below_then B1 hn
  have B2 := below_then B2 hn
  have B4 := Below.refl (w4.alloc (.cells #[.int .i64 2, .int .i64 2] 23 (0, 0))).heap.size (w4.alloc (.cells #[.int .i64 2, .int .i64 2] 23 (0, 0)))
  go_wp2_with fail
  refine (K5.out _).mono ?_
  rintro e w5 ⟨rfl, hn⟩
  have hb := below_then hb hn
  have B1 := below_then B1 hn
  have B2 := below_then B2 hn
  have B4 := below_then B4 hn
  go_wp2_with fail
  refine (K6.out _).mono ?_
  rintro e w6 ⟨rfl, hn⟩
  have hb := below_then hb hn
  have B1 := below_then B1 hn
  have B2 := below_then B2 hn
  have B4 := below_then B4 hn
  go_wp2_with fail
  refine (K7.out _).mono ?_
  rintro e w7 ⟨rfl, hn⟩
  have hb := below_then hb hn
  have B1 := below_then B1 hn
  have B2 := below_then B2 hn
  have B4 := below_then B4 hn
  go_wp2_with fail
  refine (ltok_any _ _ _).mono ?_
  rintro e w8 ⟨rfl, hn⟩
  have hb := below_then hb hn
  have B1 := below_then B1 hn
  have B2 := below_then B2 hn
  have B4 := below_then B4 hn
  go_wp2_with fail
  refine (ltok_any _ _ _).mono ?_
  rintro e w9 ⟨rfl, hn⟩
  have hb := below_then hb hn
  have B1 := below_then B1 hn
  have B2 := below_then B2 hn
  have B4 := below_then B4 hn
  go_wp2_with fail
  refine (K8.out _ hb).mono ?_
  rintro e w10 ⟨rfl, hn⟩
  have hb := below_then hb hn
  have B1 := below_then B1 hn
  have B2 := below_then B2 hn
  have B4 := below_then B4 hn
  go_wp2_with fail
  refine (ltok_any _ _ _).mono ?_
  rintro e w11 ⟨rfl, hn⟩
  have hb := below_then hb hn
  have B1 := below_then B1 hn
  have B2 := below_then B2 hn
  have B4 := below_then B4 hn
  go_wp2_with fail
  refine (ltok_any _ _ _).mono ?_
  rintro e w12 ⟨rfl, hn⟩
  have hb := below_then hb hn
  have B1 := below_then B1 hn
  have B2 := below_then B2 hn
  have B4 := below_then B4 hn
  go_wp2_with fail
  refine (K9.out _ hb).mono ?_
  rintro e w13 ⟨rfl, hn⟩
  have hb := below_then hb hn
  have B1 := below_then B1 hn
  have B2 := below_then B2 hn
  have B4 := below_then B4 hn
  go_wp2_with fail
  refine (K10.out _ hb).mono ?_
  rintro e w14 ⟨rfl, hn⟩
  have hb := below_then hb hn
  have B1 := below_then B1 hn
  have B2 := below_then B2 hn
  have B4 := below_then B4 hn
  obtain ⟨x0, x1, x2, x3, x4, x5⟩ := cc1.out
  obtain ⟨y0, y1, y2⟩ := cc2.out
  have x0 := cell_later B1 x0
  have x1 := cell_later B1 x1
  have x2 := cell_later B1 x2
  have x3 := cell_later B1 x3
  have x4 := cell_later B1 x4
  have x5 := cell_later B1 x5
  have y0 := cell_later B2 y0
  have y1 := cell_later B2 y1
  have y2 := cell_later B2 y2
  have hS := heap_later B4 hS.out
  have z0 := cell_heap hS 0
  have z1 := cell_heap hS 1
  have hb := hid hb
  clear B1 B2 B4 hn hS
  go_wp2_with fail
  go_ret
  exact ⟨rfl, hb.out⟩
end Go.Proofs.YthknlifmkjdoeaaGreatDoor

/-
  What the rows say of the library's variables.
-/
namespace Go.Proofs.YthknlifmkjdoeaaGreatDoor
open Go.RowKit Lode Go.Shelf
theorem starES : "*" ++ "errors.errorString" = "*errors.errorString" := by decide
theorem rowES (u : TypeId) (h : Tryz.prog.typeName? 3 u = some "*errors.errorString") : u = 189 :=
  typeName_ptr_named (nm := "errors.errorString") (by rw [starES]; kernel_rfl) (by kernel_rfl) (by decide) u (by rw [starES]; exact h)
set_option maxRecDepth 100000 in
theorem glob_of (w : World) (hL : laidMet Tryz.prog Rows.lexReadsRow.laid w) : Glob w := by
  refine ⟨?_, ?_, ?_⟩
  · have h := hL.filter (fun x => x.1 == "strings.asciiSpace")
    have e : (Rows.lexReadsRow.laid.filter fun x => x.1 == "strings.asciiSpace") = [("strings.asciiSpace", Lib.tabData .u8 Lib.asciiSpaceTab)] := by rfl
    rw [e] at h
    exact Lib.tabIs_of_head (g := 1) (t := 141) (e := 5) (n := 256) (by kernel_rfl) (by kernel_rfl) (by kernel_rfl) (by kernel_rfl) (by kernel_rfl) (by kernel_rfl) h
  · have h := hL.filter (fun x => x.1 == "internal/strconv.uint64pow10")
    have e : (Rows.lexReadsRow.laid.filter fun x => x.1 == "internal/strconv.uint64pow10") = [("internal/strconv.uint64pow10", Lib.tabData .u64 Lib.pow10Tab)] := by rfl
    rw [e] at h
    exact Lib.tabIs_of_head (g := 7) (t := 193) (e := 137) (n := 20) (by kernel_rfl) (by kernel_rfl) (by kernel_rfl) (by kernel_rfl) (by kernel_rfl) (by kernel_rfl) h
  · have h := hL.filter (fun x => x.1 == "strconv.ErrRange")
    have e : (Rows.lexReadsRow.laid.filter fun x => x.1 == "strconv.ErrRange") = [("strconv.ErrRange", .iface "*errors.errorString" (.ptr (.agg [.lit (.string [118, 97, 108, 117, 101, 32, 111, 117, 116, 32, 111, 102, 32, 114, 97, 110, 103, 101])])))] := by rfl
    rw [e] at h
    obtain ⟨a, s, hv, _⟩ := laid_sentinel (g := 6) (tp := 189) (te := 191) (ts := 9) (ti := 84) h (by kernel_rfl) (by kernel_rfl) Tryz.underlying84 rowES Tryz.underlying189 Tryz.underlying191 rfl rfl (by kernel_rfl) (by kernel_rfl) (by kernel_rfl)
    exact ⟨_, _, hv⟩
end Go.Proofs.YthknlifmkjdoeaaGreatDoor

/-
  ARGUMENTS OPENED: what the cards' walks need of integers that came in.
-/
namespace Go.Proofs.YthknlifmkjdoeaaGreatDoor
open Go.RowKit
theorem wf_u8_nonneg {n : Int} (h : (Lit.int .u8 n).wf = true) : 0 ≤ n := by
  have h1 : IntKind.u8.min = 0 := by decide
  simp only [Lit.wf, Bool.and_eq_true, decide_eq_true_eq, h1] at h
  exact h.1
theorem wf_u16_nonneg {n : Int} (h : (Lit.int .u16 n).wf = true) : 0 ≤ n := by
  have h1 : IntKind.u16.min = 0 := by decide
  simp only [Lit.wf, Bool.and_eq_true, decide_eq_true_eq, h1] at h
  exact h.1
theorem Tryz.laidOut : laidOutB Tryz.prog = true := by kernel_rfl
end Go.Proofs.YthknlifmkjdoeaaGreatDoor
namespace Go.Proofs.YthknlifmkjdoeaaGreatDoor
open Go.RowKit Go.ChangeShapes Go.WideShapes
/-- bytes that came in: nil, or their cells -/
def BSl (w : World) (v : Value) (l : List UInt8) : Prop := ∃ (p : Option Addr) (cap : Nat), v = .slice p l.length cap ∧ (l = [] ∨ ∃ g off, p = some ⟨g, off, none⟩ ∧ ∀ (j : Nat) (h : j < l.length), w.cell? ⟨g, off + j, none⟩ = some (.int .u8 (l[j].toNat : Int)))
theorem wf_u8_byte {n : Int} (h : (Lit.int .u8 n).wf = true) : ((UInt8.ofNat n.toNat).toNat : Int) = n := by
  have h1 : IntKind.u8.min = 0 := by decide
  have h2 : IntKind.u8.max = 255 := by decide
  simp only [Lit.wf, Bool.and_eq_true, decide_eq_true_eq, h1, h2] at h
  rw [UInt8.toNat_ofNat']
  omega
theorem bsl_of {H : Type} {enc : TypeId × Value → H} {P : Program} {w : World} {base : Nat} {spare : Nat → Bool} {held : Bool} {r : Reach} {b : Nat} {t e : TypeId} {v : Value} {d : DataW H} {p : List MemPlace} (ht : P.underlying t = some (.slice e)) (he : P.underlying e = some (.int .u8)) (hv : Value.okWide P w r b t v) (h : DataW.Trod enc P w base spare held t v d p) (hc : P.cellsOf e = 1) : ∃ l, BSl w v l := by
  obtain ⟨a, len, cap, rfl⟩ := okWide_slice ht hv
  obtain ⟨fuel, hf⟩ := h
  rcases open_ints ht he hc hf with ⟨hcs, _⟩ | ⟨a', len', cap', zs, hcs, _, hl, _, hz, _, hcell, hwz⟩
  · simp only [Value.cells, List.cons.injEq, Value.slice.injEq, and_true] at hcs
    obtain ⟨rfl, rfl, rfl⟩ := hcs
    exact ⟨[], none, 0, rfl, .inl rfl⟩
  · simp only [Value.cells, List.cons.injEq, Value.slice.injEq, and_true] at hcs
    obtain ⟨rfl, rfl, rfl⟩ := hcs
    have hlen : len ≤ zs.length := by rw [hz]; split <;> omega
    have hL : ((zs.take len).map (fun z => UInt8.ofNat z.toNat)).length = len := by simp; omega
    refine ⟨(zs.take len).map (fun z => UInt8.ofNat z.toNat), some a', cap, by rw [hL], ?_⟩
    by_cases h0 : len = 0
    · left; subst h0; simp
    · right
      have hs : a'.spot = none := World.cell?_spot (by have := hcell 0 (by omega); exact this)
      obtain ⟨g, off, sp⟩ := a'
      simp only at hs
      subst hs
      refine ⟨g, off, rfl, fun j hj => ?_⟩
      rw [hL] at hj
      have hcj := hcell j (by omega)
      have e1 : (⟨g, off, none⟩ : Addr).add j = ⟨g, off + j, none⟩ := by
        unfold Addr.add; split
        · rename_i h; subst h; rfl
        · rfl
      rw [e1] at hcj
      rw [hcj]
      have hjz : j < zs.length := by omega
      have hg : zs.getD j 0 = zs[j] := by simp [List.getD, List.getElem?_eq_getElem hjz]
      have hw := wf_u8_byte (hwz zs[j] (List.getElem_mem hjz))
      simp only [List.getElem_map, List.getElem_take]
      rw [hw, hg]
end Go.Proofs.YthknlifmkjdoeaaGreatDoor
