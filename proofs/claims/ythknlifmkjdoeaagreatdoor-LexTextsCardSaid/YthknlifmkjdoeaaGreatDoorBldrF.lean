/-
  strings.Builder's WriteByte: a block that is not the builder's stays (one made behind the builder).
-/
import Derived.Test.YthknlifmkjdoeaaGreatDoorFlP
import Derived.Test.YthknlifmkjdoeaaGreatDoorLexE
namespace Go.Proofs.YthknlifmkjdoeaaGreatDoor
open Go.RowKit Lode Go.Shelf
theorem BAt.later {B b : Nat} {p : Value} {bs : List Value} {w w' : World} (h : BAt B b p bs w) (hb : Below w.heap.size w w') : BAt B b p bs w' := by
  obtain ⟨hB, v, hbk, hown, hne⟩ := h
  exact ⟨hB, v, heap_later hb hbk, row_below hown hb, hne⟩
theorem Bd.later {w0 w w' : World} {b : Nat} {ob : ByteArray} (h : Bd w0 b ob w) (hb : Below w.heap.size w w') : Bd w0 b ob w' := ⟨h.1.imp (fun h => BAt.later h hb) (fun h => BAt.later h hb), below_then h.2 hb⟩
/-- block t is neither the builder's own nor that of its bytes -/
def BFar (b t : Nat) (w : World) : Prop := t ≠ b ∧ ∀ p v, w.heap[b]? = some (.cells #[p, v] 82 (0, 0)) → v.ownBlock ≠ some t
theorem BFar.of {w0 w w' : World} {b : Nat} {ob : ByteArray} (h : Bd w0 b ob w) (hb : Below w.heap.size w w') {t : Nat} (ht : w.heap.size ≤ t) : BFar b t w' := by
  have key : ∀ p, BAt w0.heap.size b p (Lib.byteCells ob.data.toList) w → BFar b t w' := fun p ⟨hB, v, hbk, hown, hne⟩ => by
    have hlt := (Array.getElem?_eq_some_iff.1 hbk).1
    refine ⟨by omega, fun p' v' h' e => ?_⟩
    rw [heap_later hb hbk] at h'
    simp only [Option.some.injEq, Obj.cells.injEq, Array.mk.injEq, List.cons.injEq, and_true] at h'
    obtain ⟨_, rfl⟩ := h'
    have := (hown.lt t e).2
    omega
  rcases h.1 with h | h
  · exact key _ h
  · exact key _ h
theorem copyCheck_far (B b t : Nat) (o : Obj) (bs : List Value) (w : World) (h : IsB B b bs w) (ht : w.heap[t]? = some o) (hf : BFar b t w) :
    Calls Tryz.prog 95 #[.pointer (some ⟨b, 0, none⟩)] w fun e w' => e = .returned (.tuple #[]) ∧ (BAt B b (.pointer (some ⟨b, 0, none⟩)) bs w' ∧ Below B w w') ∧ w'.heap[t]? = some o ∧ BFar b t w' := by
  rcases h with h | h
  · refine (copyCheck_fresh b w h.cell0 h.shape h.frozen0).mono ?_
    rintro e w' ⟨rfl, rfl⟩
    refine ⟨rfl, ⟨h.used _, (Below.refl B w).setCell (p := ⟨b, 0, none⟩) h.1 _⟩, (set_far hf.1).trans ht, hf.1, fun p v hv => ?_⟩
    obtain ⟨_, v0, hbk, _, _⟩ := h
    rw [set_heap hbk 0] at hv
    simp only [List.setIfInBounds_toArray, List.set_cons_zero, Option.some.injEq, Obj.cells.injEq, Array.mk.injEq, List.cons.injEq, and_true] at hv
    obtain ⟨_, rfl⟩ := hv
    exact hf.2 _ _ hbk
  · refine (copyCheck_used b w h.cell0).mono ?_
    rintro e w' ⟨rfl, rfl⟩
    exact ⟨rfl, ⟨h, Below.refl B _⟩, ht, hf⟩
set_option maxRecDepth 100000 in
theorem writeByte_far (B b t : Nat) (o : Obj) (bs : List Value) (c : Int) (w : World) (h : IsB B b bs w) (hlen : bs.length + 1 ≤ 140737488355328) (hBw : B ≤ w.heap.size) (ht : w.heap[t]? = some o) (hf : BFar b t w) :
    Calls Tryz.prog 69 #[.pointer (some ⟨b, 0, none⟩), .int .u8 c] w fun e w' => e = .returned .nilIface ∧ (BAt B b (.pointer (some ⟨b, 0, none⟩)) (bs ++ [.int .u8 c]) w' ∧ Below B w w') ∧ w'.heap[t]? = some o := by
  obtain ⟨i0, hi, hz0, hz1, hz2⟩ := info_parts infoU8
  go_enter Tryz.func69, Tryz.ntmps69
  go_wp2_with (go_at_call 95; refine (copyCheck_far B b t o bs _ h ht hf).mono ?_)
  rintro e w1 ⟨rfl, ⟨h1, hb1⟩, ht1, hf1⟩
  obtain ⟨hB, v, hbk, hown, hne⟩ := h1
  have hvt := hf1.2 _ _ hbk
  have c0 : w1.cell? ⟨b, 0, none⟩ = some (.pointer (some ⟨b, 0, none⟩)) := by rw [Lib.cell_of_heap hbk]; rfl
  have c1 : w1.cell? ⟨b, 1, none⟩ = some v := by rw [Lib.cell_of_heap hbk]; rfl
  have HT := hid ht1
  have HF := hid hf1
  clear ht1 hf1
  go_wp2_with (at_builtin; refine wpList_append_own _ rfl _ _ 44 rfl B 5 i0 (.int .u8 0) 1 1 Tryz.underlying44 hi hz0 hz1 hz2 rfl (by decide) _ _ _ rfl (hown.alloc _) ⟨w1.heap.size, 0, none⟩ 1 1 [.int .u8 c] rfl rfl ?c1 ?c2 ?c3 ?c4 ?c5 ?_)
  case c1 =>
    intro j u hj
    match j, hj with
    | 0, hj => simp at hj; subst hj; simp [Addr.add]
  case c2 => intro u hu; simp at hu; subst hu; rfl
  case c3 => unfold maxLen; omega
  case c4 => omega
  case c5 => have := hb1.size; simp; omega
  intro v' w2 hown' hgrow _
  have hlt : b < w1.heap.size := by
    rcases Nat.lt_or_ge b w1.heap.size with h' | h'
    · exact h'
    · simp [Array.getElem?_eq_none h'] at hbk
  have hlt2 : t < w1.heap.size := by
    rcases Nat.lt_or_ge t w1.heap.size with h' | h'
    · exact h'
    · have := HT.out; simp [Array.getElem?_eq_none h'] at this
  have hb2 : w2.heap[b]? = some (.cells #[.pointer (some ⟨b, 0, none⟩), v] 82 (0, 0)) := by
    rw [hgrow.block b (by simp; omega) (fun e => hne e.symm), Lib.alloc_old w1 _ b hlt]
    exact hbk
  have ht2 : Hid (w2.heap[t]? = some o) := hid (by
    rw [hgrow.block t (by simp; omega) (fun e => hvt e.symm), Lib.alloc_old w1 _ t hlt2]
    exact HT.out)
  have d0 : w2.cell? ⟨b, 0, none⟩ = some (.pointer (some ⟨b, 0, none⟩)) := by rw [Lib.cell_of_heap hb2]; rfl
  have d1 : w2.cell? ⟨b, 1, none⟩ = some v := by rw [Lib.cell_of_heap hb2]; rfl
  have f1 : w2.frozen? ⟨b, 1, none⟩ = false := Lib.frozen_of_heap hb2 1
  obtain ⟨g, cap, rfl⟩ : ∃ g cap, v' = .slice (some ⟨g, 0, none⟩) (bs.length + 1) cap := by
    rcases hown'.2 with ⟨_, h0⟩ | ⟨g, cap, cur, hv, _⟩
    · omega
    · exact ⟨g, cap, hv⟩
  go_wp2
  go_ret
  refine ⟨rfl, ⟨?_, ?_⟩, (set_far HF.out.1).trans ht2.out⟩
  · exact Lib.BuilderAt.put (T := 82) (e := 5) hB hb2 (bs' := bs ++ [.int .u8 c]) (by simpa using hown') (by decide)
  · exact ((hb1.alloc (by have := hb1.size; omega) _).grown hgrow (by have := hb1.size; simp; omega) (fun k hk => (hown.lt k hk).1)).setCell (p := ⟨b, 1, none⟩) hB _
theorem Bd.writeFar {w0 w : World} {b t : Nat} {o : Obj} {ob : ByteArray} (h : Bd w0 b ob w) (hs : ob.size ≤ 2000000000000) (c : UInt8) (ht : w.heap[t]? = some o) (hf : BFar b t w) :
    Calls Tryz.prog 69 #[.pointer (some ⟨b, 0, none⟩), .int .u8 (c.toNat : Int)] w fun e w' => e = .returned .nilIface ∧ Bd w0 b (ob ++ ⟨#[c]⟩) w' ∧ w'.heap[t]? = some o :=
  (writeByte_far w0.heap.size b t o _ (c.toNat : Int) w h.1 (Nat.le_trans (Nat.le_of_eq (by rw [Lib.byteCells_length]; exact congrArg (· + 1) (by simp : ob.data.toList.length = ob.size))) (by omega : ob.size + 1 ≤ 140737488355328)) h.2.size ht hf).mono fun e w' ⟨h1, ⟨h2, h3⟩, h4⟩ => ⟨h1, ⟨.inr (by
    have e : Lib.byteCells (ob ++ ⟨#[c]⟩).data.toList = Lib.byteCells ob.data.toList ++ [.int .u8 c.toNat] := by rw [app_data]; simp [Lib.byteCells]
    rw [e]; exact h2), h.2.trans h3⟩, h4⟩
end Go.Proofs.YthknlifmkjdoeaaGreatDoor
