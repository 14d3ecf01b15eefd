/-
  A MAP OF STRINGS TO STRINGS THAT THE CALL MAKES: its block's very entries; a look-up; brackets.
-/
import Derived.MapKept
import Derived.Carry
import Derived.Test.YthknlifmkjdoeaaGreatDoorBase
import Derived.Test.YthknlifmkjdoeaaGreatDoorNestP
import Derived.Test.YthknlifmkjdoeaaGreatDoorRefG
namespace Lode
open Go Go.RowKit
section
variable {P : Program} {w : World}
theorem ms_isKey (s : ByteArray) : Go.MapKept.IsKey .string (.string s) := by simp [Go.MapKept.IsKey]
theorem ms_lookup {t k e : TypeId} (ht : P.underlying t = some (.map k e)) (hk : P.underlying k = some .string) (hz : (zeroValue e).run P w = .ok (.string ⟨#[]⟩) w) {r : Nat} {es : Array MapEntry} {clock : Nat} (hb : w.heap[r]? = some (.map es clock)) (s : ByteArray) {a : Option (Nat × Value)}
    (hf : Instr.findNow .string (.string s) es.toList 0 = some a) : (Instr.lookup t (.map (some r)) (.string s) false).run P w = .ok ((a.map Prod.snd).getD (.string ⟨#[]⟩)) w := by
  have h1 : (Instr.checkKey es.isEmpty 10000 k (.string s)).run P w = .ok () w := Go.MapKept.run_checkKey hk (ms_isKey s) _ 9999
  cases a with
  | none => simp [Instr.lookup, run_underlying ht, Go.MapKept.run_getObj_map hb, h1, Go.MapKept.run_findKey hk hf, hz, Result.andThen]
  | some x => simp [Instr.lookup, run_underlying ht, Go.MapKept.run_getObj_map hb, h1, Go.MapKept.run_findKey hk hf, Result.andThen]
theorem ms_put {t k e : TypeId} (ht : P.underlying t = some (.map k e)) (hk : P.underlying k = some .string) {r : Nat} {es : Array MapEntry} {clock : Nat} (hb : w.heap[r]? = some (.map es clock)) (s : ByteArray) (x : Value)
    (hf : Instr.findNow .string (.string s) es.toList 0 = some none) : (Instr.mapUpdate t (.map (some r)) (.string s) x).run P w = .ok () { w with heap := w.heap.setIfInBounds r (.map (es.push { key := .string s, val := x, born := clock }) (clock + 1)) } := by
  have h1 : (Instr.checkKey false 10000 k (.string s)).run P w = .ok () w := Go.MapKept.run_checkKey hk (ms_isKey s) _ 9999
  simp [Instr.mapUpdate, run_underlying ht, Go.MapKept.run_getObj_map hb, h1, Go.MapKept.run_findKey hk hf, Go.MapKept.run_setObj_map _ hb, Result.andThen]
end
/-- the map of brackets -/
def brMap : Obj := .map #[⟨.string ⟨#[40]⟩, .string ⟨#[41]⟩, 0⟩, ⟨.string ⟨#[91]⟩, .string ⟨#[93]⟩, 1⟩, ⟨.string ⟨#[123]⟩, .string ⟨#[125]⟩, 2⟩] 3
theorem br_find (t : List UInt8) : ∃ a, Instr.findNow .string (.string ⟨t.toArray⟩) [⟨.string ⟨#[40]⟩, .string ⟨#[41]⟩, 0⟩, ⟨.string ⟨#[91]⟩, .string ⟨#[93]⟩, 1⟩, ⟨.string ⟨#[123]⟩, .string ⟨#[125]⟩, 2⟩] 0 = some a ∧ (a.map Prod.snd).getD (.string ⟨#[]⟩) = .string ⟨(closeOf t).toArray⟩ := by
  have e : ∀ c : UInt8, ((⟨t.toArray⟩ : ByteArray) == ⟨#[c]⟩) = decide (t = [c]) := fun c => by
    rw [Bool.eq_iff_iff, Go.MapKept.bytes_beq, decide_eq_true_eq]
    constructor
    · intro h
      have := congrArg (fun b => b.data.toList) h
      simpa using this
    · rintro rfl; rfl
  simp only [Instr.findNow, Instr.sameNow, e, closeOf]
  by_cases h1 : t = [40]
  · subst h1; exact ⟨_, rfl, rfl⟩
  · by_cases h2 : t = [91]
    · subst h2; exact ⟨_, rfl, rfl⟩
    · by_cases h3 : t = [123]
      · subst h3; exact ⟨_, rfl, rfl⟩
      · simp only [h1, h2, h3, decide_false, if_false]
        exact ⟨_, rfl, rfl⟩
theorem br_lookup {P : Program} {w : World} {t k e : TypeId} (ht : P.underlying t = some (.map k e)) (hk : P.underlying k = some .string) (hz : (zeroValue e).run P w = .ok (.string ⟨#[]⟩) w) {r : Nat} (hb : w.heap[r]? = some brMap) (s : List UInt8) :
    (Instr.lookup t (.map (some r)) (.string ⟨s.toArray⟩) false).run P w = .ok (.string ⟨(closeOf s).toArray⟩) w := by
  obtain ⟨a, h1, h2⟩ := br_find s
  have := ms_lookup ht hk hz (es := #[⟨.string ⟨#[40]⟩, .string ⟨#[41]⟩, 0⟩, ⟨.string ⟨#[91]⟩, .string ⟨#[93]⟩, 1⟩, ⟨.string ⟨#[123]⟩, .string ⟨#[125]⟩, 2⟩]) (clock := 3) hb ⟨s.toArray⟩ h1
  rw [this, h2]
end Lode
namespace Go.Proofs.YthknlifmkjdoeaaGreatDoor
open Go.RowKit Lode Go.Shelf
attribute [local go_sem ↓] Go.wp_at_zero Go.wp_at_succ
theorem zeroS (w : World) : (zeroValue 9).run Tryz.prog w = .ok (.string ⟨#[]⟩) w := by kernel_rfl
theorem br_look {w : World} {r : Nat} (hb : w.heap[r]? = some brMap) (s : List UInt8) : (Instr.lookup 105 (.map (some r)) (.string ⟨s.toArray⟩) false).run Tryz.prog w = .ok (.string ⟨(closeOf s).toArray⟩) w :=
  br_lookup Tryz.underlying105 Tryz.underlying9 (zeroS w) hb s
set_option maxRecDepth 100000 in
theorem brackets_any (w : World) : Calls Tryz.prog 71 #[] w fun e w' => e = .returned (.map (some w.heap.size)) ∧ w'.heap[w.heap.size]? = some brMap ∧ Below w.heap.size w w' := by
  have hmm := @run_makeMap Tryz.prog
  have step : ∀ (W : World) (es : Array MapEntry) (clock : Nat) (s : ByteArray) (x : Value), W.heap[w.heap.size]? = some (.map es clock) → Below w.heap.size w W → Instr.findNow .string (.string s) es.toList 0 = some none →
      ∃ W', (Instr.mapUpdate 105 (.map (some w.heap.size)) (.string s) x).run Tryz.prog W = .ok () W' ∧ W'.heap[w.heap.size]? = some (.map (es.push { key := .string s, val := x, born := clock }) (clock + 1)) ∧ Below w.heap.size w W' := fun W es clock s x hb hB hf => by
    refine ⟨_, ms_put Tryz.underlying105 Tryz.underlying9 hb s x hf, (Go.MapKept.heap_set hb).1, ?_⟩
    exact ⟨hB.os, hB.tape, hB.output, by simpa using hB.size, fun k hk => ((Go.MapKept.heap_set (o' := .map (es.push { key := .string s, val := x, born := clock }) (clock + 1)) hb).2 k (by omega)).trans (hB.block k hk)⟩
  obtain ⟨W1, e1, h1, b1⟩ := step (w.alloc (.map #[] 0)) #[] 0 ⟨#[40]⟩ (.string ⟨#[41]⟩) (heap_new _ _) (below_alloc _ _) rfl
  obtain ⟨W2, e2, h2, b2⟩ := step W1 _ _ ⟨#[91]⟩ (.string ⟨#[93]⟩) h1 b1 (by kernel_rfl)
  obtain ⟨W3, e3, h3, b3⟩ := step W2 _ _ ⟨#[123]⟩ (.string ⟨#[125]⟩) h2 b2 (by kernel_rfl)
  have H3 := hid h3
  clear step h1 h2 h3
  go_enter Tryz.func71, Tryz.ntmps71
  go_wp2_with fail
  go_ret
  exact ⟨rfl, H3.out, b3⟩
end Go.Proofs.YthknlifmkjdoeaaGreatDoor
