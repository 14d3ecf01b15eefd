/-
  THE READER: run.
-/
import Derived.Test.YthknlifmkjdoeaaGreatDoorLexD
namespace Go.Proofs.YthknlifmkjdoeaaGreatDoor
open Go.RowKit Lode Go.Shelf
attribute [local go_sem ↓] Go.wp_at_zero Go.wp_at_succ
def inCls (zs : List Int) (c : UInt8) : Bool := zs.any fun y => clsOf c == y
theorem cell_later {w W : World} (h : Below w.heap.size w W) {a : Addr} {v : Value} (hc : w.cell? a = some v) : W.cell? a = some v := by
  rw [World.cell?_of_block (h.block _ (World.block_lt_of_cell? w _ hc))]; exact hc
theorem heap_later {w W : World} (h : Below w.heap.size w W) {b : Nat} {o : Obj} (hc : w.heap[b]? = some o) : W.heap[b]? = some o := by
  rw [h.block b (Array.getElem?_eq_some_iff.1 hc).1]; exact hc
theorem run1P (zs : List Int) (b x : Nat) (w : World) (hx : w.cell? ⟨x, 0, none⟩ = some (.slice (some ⟨b, 0, none⟩) zs.length zs.length)) (hz : zs.length ≤ 1000)
    (hc : ∀ j, j < zs.length → w.cell? ⟨b, j, none⟩ = some (.int .u8 zs[j]!)) : PredB Tryz.prog 119 #[.pointer (some ⟨x, 0, none⟩)] (inCls zs) w := by
  refine ⟨enters_of Tryz.func119 (by kernel_rfl) rfl, fun W c hbW => ?_⟩
  have hx' : W.cell? ⟨x, 0, none⟩ = some (.slice (some ⟨b, 0, none⟩) zs.length zs.length) := cell_later hbW hx
  have hc' : ∀ j, j < zs.length → W.cell? ⟨b, 0 + j, none⟩ = some (.int .u8 zs[j]!) := fun j hj => by rw [Nat.zero_add]; exact cell_later hbW (hc j hj)
  have Hc := hid (fun (W' : World) (q : ∃ n, W' = W.drewN n) => Tryz.slices_Contains_class (Value.int .u8) _ (EqlAt.int Tryz.prog _ .u8) b 0 zs.length zs.length zs (clsOf c) W' (Nat.le_refl _) (by omega) (fun j hj => by obtain ⟨n, rfl⟩ := q; exact hc' j hj))
  clear hc hc'
  go_enter Tryz.func119, Tryz.ntmps119
  go_wp2_with fail
  go_quiet ((first
    | (go_at_call 104; refine (classOf_any c _).mono ?_; rintro e w' ⟨rfl, rfl⟩; exact ⟨rfl, _, rfl⟩)
    | (go_at_call 120; refine (Hc.out _ ⟨_, rfl⟩).mono ?_; rintro e w' ⟨rfl, rfl⟩; exact ⟨rfl, _, rfl⟩)))
  go_wp2_with fail
  go_ret
  exact ⟨by simp [inCls], by repeat (first | exact Below.refl _ _ | with_reducible apply Below.drew | with_reducible apply bl_drewN)⟩
theorem runLen_find (p : UInt8 → Bool) : ∀ l : List UInt8, runLen p l = (findIx (fun c => !p c) l).getD l.length
  | [] => rfl
  | c :: r => by
    by_cases h : p c = true
    · simp [runLen, findIx, h, runLen_find p r]
    · have h : p c = false := by simpa using h
      simp [runLen, findIx, h]
set_option maxRecDepth 100000 in
theorem run_any (R : Nat) (s : ByteArray) (a : Nat) (wv sv : Value) (zs : List Int) (b : Nat) (w : World) (hs : s.size ≤ 1000000000000) (ha : a < s.size) (hR : RdrAt w R s a wv sv) (hz : zs.length ≤ 1000)
    (hc : ∀ j, j < zs.length → w.cell? ⟨b, j, none⟩ = some (.int .u8 zs[j]!)) :
    Calls Tryz.prog 105 #[.pointer (some ⟨R, 0, none⟩), .slice (some ⟨b, 0, none⟩) zs.length zs.length] w fun e w' => e = .returned (.int .i64 (runLen (inCls zs) (s.data.toList.drop (a + 1)))) ∧ Below w.heap.size w w' := by
  have hc0 : w.cell? ⟨R, 0, none⟩ = some (.string s) := cell_heap hR 0
  have hc1 : w.cell? ⟨R, 1, none⟩ = some (.int .i64 a) := cell_heap hR 1
  have hxe : (s.extract (a + 1) s.size).data.toList = s.data.toList.drop (a + 1) := by simp [List.extract_eq_take_drop]; exact List.take_of_length_le (by simp)
  have hsz : (s.extract (a + 1) s.size).size = s.size - (a + 1) := by simp
  have hn0 : ∀ o, (w.alloc o).cell? ⟨R, 0, none⟩ = some (.string s) := fun o => cell_later ((Below.refl _ _).alloc (Nat.le_refl _) o) hc0
  have hn1 : ∀ o, (w.alloc o).cell? ⟨R, 1, none⟩ = some (.int .i64 a) := fun o => cell_later ((Below.refl _ _).alloc (Nat.le_refl _) o) hc1
  rw [runLen_find]
  have HF := hid (fun (W : World) (q : ∃ n, W = (w.alloc (.cells #[.slice (some ⟨b, 0, none⟩) zs.length zs.length] 144)).drewN n) => first_any (s.extract (a + 1) s.size) 119 #[.pointer (some ⟨w.heap.size, 0, none⟩)] (inCls zs) W
    (run1P zs b w.heap.size W (by obtain ⟨n, rfl⟩ := q; simp) hz (fun j hj => by obtain ⟨n, rfl⟩ := q; exact cell_later (((Below.refl _ _).alloc (Nat.le_refl _) _).trans (bl_drewN (Below.refl _ _) n |>.mono (by simp))) (hc j hj))) (by rw [hsz]; omega))
  rw [hxe] at HF
  have hl : (s.data.toList.drop (a + 1)).length = s.size - (a + 1) := by simp
  generalize hf : findIx (fun c => !inCls zs c) (s.data.toList.drop (a + 1)) = f at *
  rw [hl]
  clear hR hc hl hf hxe
  have h1 : (a : Int) + 1 ≤ (s.size : Int) := by omega
  have h2 : (0 : Int) ≤ (a : Int) + 1 := by omega
  have h3 : IntKind.i64.wrap ((a : Int) + 1) = a + 1 := IntWalk.i64_in _ (by omega)
  have h4 : ((a : Int) + 1).toNat = a + 1 := by omega
  have h5 : a + 1 ≤ s.size := by omega
  cases f with
  | none =>
    simp only [ixOf, Option.getD_none] at *
    go_enter Tryz.func105, Tryz.ntmps105
    go_wp2_with fail
    go_quiet (fail)
    clear h1 h2 h3 h4
    go_wp2_with (go_at_call 46; refine (HF.out _ ⟨_, rfl⟩).mono ?_; rintro e w1 ⟨rfl, hb⟩)
    go_ret
    exact ⟨rfl, (bl_drewN (bl_alloc (Below.refl _ _) _) nq).trans (hb.mono (by simp))⟩
  | some i =>
    simp only [ixOf, Option.getD_some] at *
    go_enter Tryz.func105, Tryz.ntmps105
    go_wp2_with fail
    go_quiet (fail)
    clear h1 h2 h3 h4
    go_wp2_with (go_at_call 46; refine (HF.out _ ⟨_, rfl⟩).mono ?_; rintro e w1 ⟨rfl, hb⟩)
    go_ret
    exact ⟨rfl, (bl_drewN (bl_alloc (Below.refl _ _) _) nq).trans (hb.mono (by simp))⟩
end Go.Proofs.YthknlifmkjdoeaaGreatDoor
