/-
  TOKENS CUT AND JOINED: 'l[a:b]', 'append(l, m...)' on tokens in memory.
-/
import Derived.Laws.AppendOwnNone
import Derived.Test.YthknlifmkjdoeaaGreatDoorLawOwn
namespace Go.Proofs.YthknlifmkjdoeaaGreatDoor
open Go.RowKit Lode Go.Shelf
/-- tokens in memory from a place on, with the slice's room -/
def OSc (w : World) (v : Value) (l : List Tok) : Prop := ∃ (p : Option Addr) (cap : Nat), v = .slice p l.length cap ∧ l.length ≤ cap ∧ ((p = none ∧ cap = 0) ∨ ∃ g off, p = some ⟨g, off, none⟩ ∧ OCells w g off l)
theorem Toks.osc {w : World} {b : Nat} {v : Value} {l : List Tok} (h : Toks w b v l) : OSc w v l := by
  obtain ⟨_, ⟨hv, h0⟩ | ⟨g, cap, cur, rfl, h1⟩⟩ := id h
  · have : l = [] := List.eq_nil_of_length_eq_zero h0
    subst this; exact ⟨none, 0, hv, Nat.le_refl _, .inl ⟨rfl, rfl⟩⟩
  · refine ⟨_, cap, rfl, h1.2.2.1, .inr ⟨g, 0, rfl, fun j hj => ?_⟩⟩
    have hc := tokCells_get l j hj
    have e0 : 0 + j * 3 = j * 3 := Nat.zero_add _
    rw [e0]
    exact ⟨(World.ownsRow.cellAt h (j * 3) (by omega)).trans hc.1, (World.ownsRow.cellAt h (j * 3 + 1) (by omega)).trans hc.2.1, (World.ownsRow.cellAt h (j * 3 + 2) (by omega)).trans hc.2.2⟩
theorem OSc.o {w : World} {v : Value} {l : List Tok} (h : OSc w v l) : OSl w v l := by
  obtain ⟨p, cap, hv, hl, ⟨rfl, hc⟩ | ⟨g, off, rfl, h⟩⟩ := h
  · exact ⟨none, cap, hv, .inl (List.eq_nil_of_length_eq_zero (by omega))⟩
  · exact ⟨_, cap, hv, .inr ⟨g, off, rfl, h⟩⟩
theorem OSc.nil {w : World} {v : Value} {l : List Tok} (h : OSc w v l) : ∀ c, v = .slice none 0 c → c = 0 := by
  intro c e
  obtain ⟨p, cap, rfl, hl, ⟨rfl, hc⟩ | ⟨g, off, rfl, h⟩⟩ := h
  · simp only [Value.slice.injEq] at e
    omega
  · simp at e
theorem OSc.later {w w' : World} {v : Value} {l : List Tok} (h : OSc w v l) (hb : Below w.heap.size w w') : OSc w' v l := by
  obtain ⟨p, cap, hv, hl, h⟩ := h
  refine ⟨p, cap, hv, hl, h.imp id fun ⟨g, off, hp, hc⟩ => ⟨g, off, hp, fun j hj => ?_⟩⟩
  obtain ⟨a, b, c⟩ := hc j hj
  exact ⟨cell_later hb a, cell_later hb b, cell_later hb c⟩
theorem add_lit (g off n : Nat) : (⟨g, off, none⟩ : Addr).add n = ⟨g, off + n, none⟩ := by
  unfold Addr.add; split
  · rename_i h; subst h; rfl
  · rfl
theorem cut_bounds (n cap lo hi : Nat) (h1 : lo ≤ hi) (h2 : hi ≤ n) (h3 : n ≤ cap) (lv hv : Option Value) (hl : lv = some (.int .i64 lo) ∨ (lv = none ∧ lo = 0)) (hh : hv = some (.int .i64 hi) ∨ (hv = none ∧ hi = n)) (W : World) : (Instr.sliceBounds true n cap lv hv none).run Tryz.prog W = .ok (lo, hi, cap) W := by
  rcases hl with rfl | ⟨rfl, rfl⟩ <;> rcases hh with rfl | ⟨rfl, rfl⟩
  · have a1 : (hi : Int) ≤ (cap : Int) := by omega
    have a2 : (lo : Int) ≤ (hi : Int) := by omega
    have a3 : (0 : Int) ≤ (hi : Int) := by omega
    have a4 : (0 : Int) ≤ (lo : Int) := by omega
    simp [Instr.sliceBounds, run_sliceBound, a1, a2, a3, a4]
  · have a2 : (lo : Int) ≤ (hi : Int) := by omega
    have a4 : (0 : Int) ≤ (lo : Int) := by omega
    simp [Instr.sliceBounds, run_sliceBound, a2, a4]
  · have a1 : (hi : Int) ≤ (cap : Int) := by omega
    have a3 : (0 : Int) ≤ (hi : Int) := by omega
    simp [Instr.sliceBounds, run_sliceBound, a1, a3]
  · simp [Instr.sliceBounds]
theorem OSc.cut {w : World} {v : Value} {l : List Tok} (h : OSc w v l) {lo hi : Nat} (h1 : lo ≤ hi) (h2 : hi ≤ l.length) (lv hv : Option Value) (hl : lv = some (.int .i64 lo) ∨ (lv = none ∧ lo = 0)) (hh : hv = some (.int .i64 hi) ∨ (hv = none ∧ hi = l.length)) :
    ∃ v', (∀ W, (Instr.slice 33 v lv hv none).run Tryz.prog W = .ok v' W) ∧ OSc w v' ((l.drop lo).take (hi - lo)) := by
  obtain ⟨p, cap, rfl, hcap, hp⟩ := h
  have hlen : ((l.drop lo).take (hi - lo)).length = hi - lo := by rw [List.length_take, List.length_drop]; omega
  refine ⟨.slice (if cap = lo then p else p.map (·.add (lo * 3))) (hi - lo) (cap - lo), fun W => ?_, ?_⟩
  · have hb := cut_bounds l.length cap lo hi h1 h2 hcap lv hv hl hh W
    simp [Instr.slice, run_underlying Tryz.underlying33, hb, Result.andThen]
  · refine ⟨_, cap - lo, by rw [hlen], by omega, ?_⟩
    rcases hp with ⟨rfl, rfl⟩ | ⟨g, off, rfl, hc⟩
    · left
      refine ⟨by split <;> rfl, by omega⟩
    · right
      by_cases hcl : cap = lo
      · rw [if_pos hcl]
        exact ⟨g, off, rfl, fun j hj => by rw [hlen] at hj; omega⟩
      · rw [if_neg hcl]
        refine ⟨g, off + lo * 3, by rw [Option.map_some, add_lit], fun j hj => ?_⟩
        have hj' := hj
        rw [hlen] at hj'
        have hg := hc (lo + j) (by omega)
        have e : ((l.drop lo).take (hi - lo))[j] = l[lo + j]'(by omega) := by rw [List.getElem_take, List.getElem_drop]
        rw [e, show off + lo * 3 + j * 3 = off + (lo + j) * 3 by omega]
        exact hg
theorem tokCells_append (l m : List Tok) : tokCells (l ++ m) = tokCells l ++ tokCells m := by unfold tokCells; exact List.flatMap_append
/-- 'append(own, m...)' -/
theorem run_append_tok (w : World) (base : Nat) (ty : TypeId) (v : Value) (l : List Tok) (hown : Toks w base v l) (x : Value) (m : List Tok) (hx : OSc w x m) (hlen : l.length + m.length ≤ 1000000) (hbase : base ≤ w.heap.size) :
    ∃ v' w', (Builtin.append_ #[33, 33] ty #[v, x]).run Tryz.prog w = .ok v' w' ∧ Toks w' base v' (l ++ m) ∧ w.grownBy w' v.ownBlock := by
  obtain ⟨i0, hi, hz0, hz1, hz2⟩ := info_parts Tryz.infoTok
  obtain ⟨p, cap, rfl, hcap, ⟨rfl, rfl⟩ | ⟨g, off, rfl, hc⟩⟩ := hx
  · have hm : m = [] := List.eq_nil_of_length_eq_zero (by omega)
    subst hm
    refine ⟨v, w, run_append_owned_none (P := Tryz.prog) (w := w) base 33 ty 46 i0 3 Tryz.underlying33 hi v _ _ hown, by rw [List.append_nil]; exact hown, ⟨rfl, rfl, rfl, Nat.le_refl _, fun _ _ _ => rfl⟩⟩
  · obtain ⟨v', w', h1, h2, h3, _⟩ := run_append_own (P := Tryz.prog) w base 33 ty 46 i0 _ 3 32 Tryz.underlying33 hi hz0 hz1 hz2 rfl (by decide) v l.length (tokCells l) hown ⟨g, off, none⟩ m.length cap (tokCells m)
      (tokCells_length m) (fun j u hu => ocells_at hc j u hu) (tokCells_one m) (by unfold maxLen; omega) (by omega) hbase
    refine ⟨v', w', h1, ?_, h3⟩
    unfold Toks
    rw [List.length_append, tokCells_append]
    exact h2
theorem wp_append_tok {o : Oper} {a : Act} {w : World} {K : Act → World → Prop} {Q : Exit → Act → World → Prop} (s x : Operand) (ho : o.op = .call { callee := .builtin .append, args := #[s, x], argTypes := #[33, 33] })
    (base : Nat) (v : Value) (l : List Tok) (hs : a.eval s = v) (hown : Toks w base v l) (xv : Value) (m : List Tok) (hxv : a.eval x = xv) (hx : OSc w xv m) (hlen : l.length + m.length ≤ 1000000) (hbase : base ≤ w.heap.size)
    (h : ∀ v' w', Toks w' base v' (l ++ m) → w.grownBy w' v.ownBlock → K (a.put o.dst v') w') : o.wp Tryz.prog a w K Q := by
  obtain ⟨v', w', hr, h2, h3⟩ := run_append_tok w base o.type v l hown xv m hx hlen hbase
  unfold Oper.wp execOp
  simp only [ho, resolve, invoke, builtin, Sem.run_bind, Sem.run_pure, Result.andThen_ok, List.map_toArray, List.map_cons, List.map_nil, hs, hxv, hr]
  exact h v' w' h2 h3
end Go.Proofs.YthknlifmkjdoeaaGreatDoor
