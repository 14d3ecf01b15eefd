/-
  THE READER: token, whole.
-/
import Derived.Test.YthknlifmkjdoeaaGreatDoorLexI
import Derived.Test.YthknlifmkjdoeaaGreatDoorLexJ
import Derived.Test.YthknlifmkjdoeaaGreatDoorBase4
namespace Go.Proofs.YthknlifmkjdoeaaGreatDoor
open Go.RowKit Lode Go.Shelf
theorem ltoken_any (R : Nat) (s : ByteArray) (a : Nat) (w : World) (hs : s.size ≤ 1000000000000) (hB : ∀ c, c ∈ s.data.toList → isB c = true) (ha : a < s.size) (hRd : Rd w R s a) (hG : Glob w) :
    Calls Tryz.prog 86 #[.pointer (some ⟨R, 0, none⟩)] w (RFPost (tok1 (s.data.toList.drop a)) a w) := by
  by_cases h1 : small s[a] = true
  · exact ltoken_small R s a w hs ha hRd h1
  · have h1 : small s[a] = false := by simpa using h1
    by_cases h2 : big s[a] = true
    · exact ltoken_big R s a w hs ha hRd h1 h2
    · have h2 : big s[a] = false := by simpa using h2
      by_cases h3 : digit s[a] = true
      · exact ltoken_digit R s a w hs ha hRd hG h1 h2 h3
      · have h3 : digit s[a] = false := by simpa using h3
        by_cases h4 : s[a] = 34
        · exact ltoken_quote R s a w hs hB ha hRd h4
        · exact ltoken_sign R s a w hs ha hRd h1 h2 h3 h4
theorem ltoken_none (R : Nat) (s : ByteArray) (a : Nat) (w : World) (hs : s.size ≤ 1000000000000) (hB : ∀ c, c ∈ s.data.toList → isB c = true) (ha : a < s.size) (hRd : Rd w R s a) (hG : Glob w) (ht : tok1 (s.data.toList.drop a) = none) :
    Calls Tryz.prog 86 #[.pointer (some ⟨R, 0, none⟩)] w fun e w' => (∃ k t a' n, e = .returned (.tuple #[.agg #[.int .u8 k, .string t, .int .i64 a'], .int .i64 n, .bool false])) ∧ Below w.heap.size w w' :=
  (ltoken_any R s a w hs hB ha hRd hG).mono fun e w' ⟨k, t, a', n, ok, h1, h2, h3⟩ => by
    rw [ht] at h2
    exact ⟨⟨k, t, a', n, by rw [h1, show ok = false from h2]⟩, h3⟩
theorem ltoken_some (R : Nat) (s : ByteArray) (a : Nat) (w : World) (hs : s.size ≤ 1000000000000) (hB : ∀ c, c ∈ s.data.toList → isB c = true) (ha : a < s.size) (hRd : Rd w R s a) (hG : Glob w) (k : Nat) (t : List UInt8) (m : Nat) (ht : tok1 (s.data.toList.drop a) = some (k, t, m)) :
    Calls Tryz.prog 86 #[.pointer (some ⟨R, 0, none⟩)] w fun e w' => e = .returned (.tuple #[.agg #[.int .u8 k, .string ⟨t.toArray⟩, .int .i64 a], .int .i64 m, .bool true]) ∧ Below w.heap.size w w' :=
  (ltoken_any R s a w hs hB ha hRd hG).mono fun e w' ⟨k', t', a', n, ok, h1, h2, h3⟩ => by
    rw [ht] at h2
    obtain ⟨rfl, rfl, rfl, rfl, rfl⟩ := h2
    exact ⟨h1, h3⟩
/-- what a round that goes on keeps -/
def KpT (w0 : World) (R : Nat) (W W' : World) : Prop := (∀ s a, Rd W R s a → Rd W' R s a) ∧ (Below w0.heap.size w0 W → Below w0.heap.size w0 W')
theorem KpT.trans {w0 : World} {R : Nat} {A B C : World} (h : KpT w0 R A B) (k : KpT w0 R B C) : KpT w0 R A C := ⟨fun s a x => k.1 s a (h.1 s a x), fun x => k.2 (h.2 x)⟩
theorem skip_rd (R : Nat) (s : ByteArray) (a : Nat) (w : World) (hs : s.size ≤ 1000000000000) (ha : a ≤ s.size) (hR : Rd w R s a) :
    Calls Tryz.prog 85 #[.pointer (some ⟨R, 0, none⟩)] w fun e w' => e = .returned (.tuple #[]) ∧ Rd w' R s (a + gapLen false (s.data.toList.drop a)) ∧ w.grownBy w' (some R) := by
  obtain ⟨wb, sb, hR, hwb, hsb, hne1, hne2⟩ := hR
  refine (skip_any R s a _ _ w hs ha hR).mono fun e w' ⟨h1, h2, h3⟩ => ⟨h1, ⟨wb, sb, h2, ?_, ?_, hne1, hne2⟩, h3⟩
  · exact (h3.block _ (Array.getElem?_eq_some_iff.1 hwb).1 (fun e => hne1 (by cases e; rfl))).trans hwb
  · exact (h3.block _ (Array.getElem?_eq_some_iff.1 hsb).1 (fun e => hne2 (by cases e; rfl))).trans hsb
theorem Rd.below {w w' : World} {R : Nat} {s : ByteArray} {a : Nat} (h : Rd w R s a) (hb : Below w.heap.size w w') : Rd w' R s a := by
  obtain ⟨wb, sb, hR, hwb, hsb, hne1, hne2⟩ := h
  exact ⟨wb, sb, heap_later hb hR, heap_later hb hwb, heap_later hb hsb, hne1, hne2⟩
theorem Rd.step {w : World} {R : Nat} {s : ByteArray} {a : Nat} (h : Rd w R s a) (k : Int) (k' : Nat) (hk : k = k') : Rd (w.setCell ⟨R, 1, none⟩ (.int .i64 k)) R s k' := by
  obtain ⟨wb, sb, hR, hwb, hsb, hne1, hne2⟩ := h
  have g := grown_set w R 1 (.int .i64 k)
  exact ⟨wb, sb, hR.set k k' hk, (g.block _ (Array.getElem?_eq_some_iff.1 hwb).1 (fun e => hne1 (by cases e; rfl))).trans hwb, (g.block _ (Array.getElem?_eq_some_iff.1 hsb).1 (fun e => hne2 (by cases e; rfl))).trans hsb, hne1, hne2⟩
theorem Rd.pos {w : World} {R : Nat} {s : ByteArray} {a : Nat} (h : Rd w R s a) : rdrPos R w = a := by
  obtain ⟨wb, sb, hR, _⟩ := h; exact hR.pos
theorem grown_below {w w' : World} (h : Below w.heap.size w w') (r : Option Nat) : w.grownBy w' r := ⟨h.os, h.tape, h.output, h.size, fun k hk _ => h.block k hk⟩
theorem below_grownR {w0 w w' : World} {R : Nat} (h : Below w0.heap.size w0 w) (g : w.grownBy w' (some R)) (hR : w0.heap.size ≤ R) : Below w0.heap.size w0 w' :=
  ⟨g.os.trans h.os, g.tape.trans h.tape, g.output.trans h.output, Nat.le_trans h.size g.size, fun k hk => (g.block k (Nat.lt_of_lt_of_le hk h.size) (fun e => by cases e; omega)).trans (h.block k hk)⟩
end Go.Proofs.YthknlifmkjdoeaaGreatDoor
