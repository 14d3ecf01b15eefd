/-
  A REGION THAT DRAWS ITS ORDER, WALKED ONCE BY A PLAN: operations that yield one value in every world that has only grown (loads, arithmetic, quiet calls: 'true') may come in any order; those that make memory ('false') come in one forced order; stores come last, in one forced order (the tail). A plan is checked by the kernel.
-/
import Derived.Lib.QuietBelow
import Derived.Deep.QuietTactic
import Derived.RegionTactic
import Derived.Still
import Derived.RangeFuncNested
import Derived.RangeFuncBound
import Derived.RangeFuncCalls
import Derived.RangeFuncLeaves
import Derived.RangeFuncKeeps
namespace Lode
open Go Go.RowKit Go.Sort
/-- the worlds that have only grown since w -/
def Cl (w : World) : World → Prop := fun w' => ∃ p : Regrown, w' = grow (redrawn w p.d) p.os
theorem cl_iff {w w' : World} : Cl w w' ↔ Below w.heap.size w w' := ⟨fun ⟨p, h⟩ => h ▸ below_regrown w p.d p.os, fun h => regrown_of_below h⟩
theorem Cl.refl (w : World) : Cl w w := cl_iff.2 (Below.refl _ _)
theorem Cl.trans {a b c : World} (h : Cl a b) (k : Cl b c) : Cl a c := by
  rw [cl_iff] at *; exact h.trans (k.mono h.size)
/-- in every world that has only grown since b the operation yields ONE value, and the world only grows -/
def quietG (P : Program) (o : Oper) (a : Act) (b : World) (next : Act → Prop) : Prop := ∃ v, (∀ w, Cl b w → o.quietAt P a (Cl w) w v) ∧ next (a.put o.dst v)
/-- it leaves the world as it is, and the value -/
def stillV (P : Program) (w : World) (v : Value) : Result Next → Prop
  | .ok (.value u) w' => w' = w ∧ u = v
  | .ok .skip w' => w' = w ∧ v = undef
  | .ok (.enter f args) w' => w' = w ∧ Calls P f args w (fun e w'' => e = .returned v ∧ w'' = w)
  | _ => False
section
variable {P : Program} {ops : Array Oper} {md : Region.Mode}
/-- the kinds of a plan: 0: one value in whatever world; 1: one value in every world that has only grown; 2: makes memory, in a forced order; 3: stores, in a forced order -/
def stepW (P : Program) (ops : Array Oper) (i : Nat) (next : Act → Prop) (a : Act) : Prop :=
  match ops[i]? with
  | none => next a
  | some o => if Region.wanted o (yielded ops a.tmps) then ∃ v, (∀ w, stillV P w v ((execOp a.eval o).run P w)) ∧ next (a.put o.dst v) else next (a.put o.dst undef)
def stepX (P : Program) (ops : Array Oper) (i : Nat) (next : Act → World → Prop) (a : Act) (w : World) : Prop :=
  match ops[i]? with
  | none => next a w
  | some o => if Region.wanted o (yielded ops a.tmps) then o.wp P a w next (fun _ _ _ => False) else next (a.put o.dst undef) w
def wpE (P : Program) (ops : Array Oper) (Q : Act → World → Prop) : List (Nat × Nat) → Act → World → Prop
  | [], a, w => Q a w
  | (i, 0) :: r, a, w => stepW P ops i (fun a' => wpE P ops Q r a' w) a
  | (i, _ + 1) :: r, a, w => stepX P ops i (wpE P ops Q r) a w
def stepM (P : Program) (ops : Array Oper) (f : Nat) (j : Nat) (b : World) (K : World → Act → Prop) (KE : Act → World → Prop) (a : Act) : Prop :=
  match f with
  | 0 => stepW P ops j (K b) a
  | 1 => (match ops[j]? with
    | none => K b a
    | some o => if Region.wanted o (yielded ops a.tmps) then quietG P o a b (K b) else K b (a.put o.dst undef))
  | 2 => (match ops[j]? with
    | none => K b a
    | some o => if Region.wanted o (yielded ops a.tmps) then ∀ w, Cl b w → o.wp P a w (fun a' w' => Cl w w' ∧ K w' a') (fun _ _ _ => False) else K b (a.put o.dst undef))
  | _ => ∀ w, Cl b w → stepX P ops j KE a w
def wpM (P : Program) (ops : Array Oper) (Q : Act → World → Prop) : List (Nat × Nat) → World → Act → Prop
  | [], b, a => ∀ w, Cl b w → Q a w
  | (i, f) :: r, b, a => stepM P ops f i b (wpM P ops Q r) (wpE P ops Q r) a
def mixOk (md : Region.Mode) (ops : Array Oper) : List (Nat × Nat) → Array Bool → Bool
  | [], listed => (Region.ready md ops listed) == []
  | (i, f) :: r, listed => (if f ≤ 1 then (Region.ready md ops listed).contains i && Region.free md ops listed i else Region.ready md ops listed == [i]) && mixOk md ops r (listed.setIfInBounds i true)
def waits (md : Region.Mode) (ops : Array Oper) (t i : Nat) : Bool := (ops[t]?).any fun o => o.after.any fun e => Region.binds md e && e.on == i
def waitsT (md : Region.Mode) (ops : Array Oper) : Nat → Nat → Nat → Bool
  | 0, t, i => waits md ops t i
  | n + 1, t, i => waits md ops t i || (ops[t]?).any fun o => o.after.any fun e => Region.binds md e && waitsT md ops n e.on i
def sinkOk (md : Region.Mode) (ops : Array Oper) (ord : List (Nat × Nat)) : Bool :=
  ord.all fun x => x.2 != 1 || ord.all fun t => decide (t.2 ≤ 2) || waitsT md ops 12 t.1 x.1
/-- behind a store nothing is quiet in a class alone, and nothing makes memory -/
def lateOk : List (Nat × Nat) → Bool
  | [] => true
  | (_, f) :: r => (decide (f ≤ 2) || r.all fun x => x.2 == 0 || decide (3 ≤ x.2)) && lateOk r
def covOk (ops : Array Oper) (ord : List (Nat × Nat)) : Bool := (List.range ops.size).all fun i => ord.any (fun x => x.1 == i)
def Closed (md : Region.Mode) (ops : Array Oper) (listed : Array Bool) : Prop := ∀ k o, ops[k]? = some o → listed.getD k false = true → ∀ e ∈ o.after, Region.binds md e = true → listed.getD e.on false = true
theorem getD_false {listed : Array Bool} {i : Nat} (h : listed.getD i true = false) : listed.getD i false = false := by
  rcases Nat.lt_or_ge i listed.size with h' | h'
  · simp [h'] at h ⊢; exact h
  · simp [Array.getElem?_eq_none h'] at h
theorem waitsT_listed {listed : Array Bool} (hc : Closed md ops listed) : ∀ (n t i : Nat) (o : Oper), waitsT md ops n t i = true → ops[t]? = some o → (∀ e ∈ o.after, Region.binds md e = true → listed.getD e.on false = true) → listed.getD i false = true
  | n, t, i, o, h, ho, hall => by
    have h1 : waits md ops t i = true → listed.getD i false = true := fun h => by
      unfold waits at h
      rw [ho] at h
      simp only [Option.any_some] at h
      obtain ⟨e, he, hb⟩ := Array.any_eq_true'.1 h
      simp only [Bool.and_eq_true, beq_iff_eq] at hb
      rw [← hb.2]; exact hall e he hb.1
    cases n with
    | zero => exact h1 h
    | succ n =>
      simp only [waitsT, Bool.or_eq_true] at h
      rcases h with h | h
      · exact h1 h
      · rw [ho] at h
        simp only [Option.any_some] at h
        obtain ⟨e, he, hb⟩ := Array.any_eq_true'.1 h
        simp only [Bool.and_eq_true] at hb
        have h2 := hall e he hb.1
        cases ho2 : ops[e.on]? with
        | none =>
          have : waitsT md ops n e.on i = false := by cases n <;> simp [waitsT, waits, ho2]
          rw [this] at hb; exact absurd hb.2 (by simp)
        | some o2 => exact waitsT_listed hc n e.on i o2 hb.2 ho2 (hc e.on o2 ho2 h2)
theorem waitsT_not_ready {n t i : Nat} {listed : Array Bool} (hc : Closed md ops listed) (h : waitsT md ops n t i = true) (hi : listed.getD i true = false) (ht : t ∈ Region.ready md ops listed) : False := by
  obtain ⟨_, o, ho, hall⟩ := mem_ready.1 ht
  have := waitsT_listed hc n t i o h ho hall
  rw [getD_false hi] at this; cases this
theorem Closed.set {listed : Array Bool} {j : Nat} (hc : Closed md ops listed) (hj : j ∈ Region.ready md ops listed) : Closed md ops (listed.setIfInBounds j true) := by
  intro k o ho hk e he hb
  obtain ⟨_, oj, hoj, hall⟩ := mem_ready.1 hj
  by_cases e1 : j = k
  · subst e1
    rw [hoj] at ho; cases ho
    exact getD_set_true (hall e he hb)
  · rw [getD_set_ne false e1] at hk
    exact getD_set_true (hc k o ho hk e he hb)
theorem free_mono {i j : Nat} {listed : Array Bool} (h : Region.free md ops listed i = true) : Region.free md ops (listed.setIfInBounds j true) i = true := by
  unfold Region.free at *
  cases ho : ops[i]? with
  | none => rw [ho] at h; exact h
  | some oi =>
    rw [ho] at h
    simp only [List.all_eq_true, List.mem_range] at h ⊢
    intro k hk
    have := h k hk
    simp only [Bool.or_eq_true] at this ⊢
    rcases this with (h1 | h1) | h1
    · exact .inl (.inl h1)
    · refine .inl (.inr ?_)
      by_cases e : j = k
      · subst e
        rcases Nat.lt_or_ge j listed.size with h' | h'
        · simp [h']
        · simp [h']
      · rw [getD_set_ne true e]; exact h1
    · exact .inr h1
theorem mix_advance {j f : Nat} {l2 : List (Nat × Nat)} : ∀ (l1 : List (Nat × Nat)) (listed : Array Bool), mixOk md ops (l1 ++ (j, f) :: l2) listed = true → j ∈ Region.ready md ops listed → (∀ x, x ∈ l1 → x.1 ≠ j) →
    mixOk md ops (l1 ++ l2) (listed.setIfInBounds j true) = true ∧ ∀ x, x ∈ l1 → x.2 ≤ 1 ∧ ∃ oi oj, ops[x.1]? = some oi ∧ ops[j]? = some oj ∧ oi.apart ops oj = true
  | [], listed, h, hj, _ => by
    refine ⟨?_, fun x hx => absurd hx (List.not_mem_nil)⟩
    simp only [List.nil_append, mixOk, Bool.and_eq_true] at h ⊢
    exact h.2
  | (i, g) :: l1, listed, h, hj, hne => by
    have hij : i ≠ j := hne (i, g) (by simp)
    simp only [List.cons_append, mixOk, Bool.and_eq_true] at h ⊢
    obtain ⟨hi, hr⟩ := h
    by_cases hg : g ≤ 1
    · rw [if_pos hg] at hi ⊢
      simp only [Bool.and_eq_true] at hi ⊢
      obtain ⟨hi, hf⟩ := hi
      have hi' : i ∈ Region.ready md ops listed := by simpa using hi
      obtain ⟨h1, h2⟩ := mix_advance l1 (listed.setIfInBounds i true) hr (ready_mono hj hij.symm) (fun x hx => hne x (by simp [hx]))
      refine ⟨⟨⟨by simpa using ready_mono hi' hij, free_mono hf⟩, by rw [← Array.setIfInBounds_comm _ _ hij]; exact h1⟩, fun x hx => ?_⟩
      rcases List.mem_cons.1 hx with rfl | hx
      · obtain ⟨_, oi, hoi, _⟩ := mem_ready.1 hi'
        obtain ⟨hju, oj, hoj, hall⟩ := mem_ready.1 hj
        refine ⟨hg, oi, oj, hoi, hoj, Region.free_spec hoi hf j oj hoj (Ne.symm hij) hju fun e he hb hon => ?_⟩
        have h3 := hall e he hb
        have h4 := (mem_ready.1 hi').1
        rw [hon] at h3
        rw [getD_false h4] at h3; cases h3
      · exact h2 x hx
    · rw [if_neg hg, beq_iff_eq] at hi
      rw [hi] at hj
      exact absurd (List.mem_singleton.1 hj).symm hij
/-- an operation may be moved over a quiet one -/
theorem upon_moved' {o : Oper} {a : Act} {d : Option Tmp} {v : Value} {next next' : Act → World → Prop} {r : Result Next} (hne : ∀ x, d = some x → o.dst ≠ some x)
    (h : ∀ (a' : Act) w', (∃ (c : Act) (u : Value), c.tmps = a.tmps ∧ a' = c.put o.dst u) → next (a'.put d v) w' → next' a' w') (hh : o.upon P (a.put d v) next (fun _ _ _ => False) r) : o.upon P a next' (fun _ _ _ => False) r := by
  have e : ∀ (b : Act) u, ((b.put d v).put o.dst u) = (b.put o.dst u).put d v := fun b u => Act.put_comm b v u hne
  cases r with
  | ok n w =>
    cases n <;> simp only [Oper.upon] at hh ⊢
    case value u => exact h _ _ ⟨a, u, rfl, rfl⟩ (by rw [← e]; exact hh)
    case skip => exact h _ _ ⟨a, undef, rfl, rfl⟩ (by rw [← e]; exact hh)
    case defer dd =>
      refine h _ _ ⟨{ a with defers := dd :: a.defers }, undef, rfl, rfl⟩ ?_
      have e2 : ({ a with defers := dd :: a.defers }.put o.dst undef).put d v = ({ a.put d v with defers := dd :: (a.put d v).defers } : Act).put o.dst undef := by
        rw [← e]; cases d <;> rfl
      rw [e2]; exact hh
    case enter f args =>
      refine hh.mono fun e1 w1 h1 => ?_
      cases e1 with
      | returned u => exact h _ _ ⟨a, u, rfl, rfl⟩ (by rw [← e]; exact h1)
      | panicked c => exact h1
      | outgrown => exact h1
    case row row args => exact hh.mono fun u w1 h1 => h _ _ ⟨a, u, rfl, rfl⟩ (by rw [← e]; exact h1)
  | halt x w =>
    cases x <;> simp only [Oper.upon] at hh ⊢
def YG (P : Program) (ops : Array Oper) (b : World) (o : Oper) (v : Value) (a : Act) : Prop :=
  (Region.wanted o (yielded ops a.tmps) = true ∧ ∀ w, Cl b w → o.quietAt P a (Cl w) w v) ∨ (Region.wanted o (yielded ops a.tmps) = false ∧ v = undef)
def YW (P : Program) (ops : Array Oper) (o : Oper) (v : Value) (a : Act) : Prop :=
  (Region.wanted o (yielded ops a.tmps) = true ∧ ∀ w, stillV P w v ((execOp a.eval o).run P w)) ∨ (Region.wanted o (yielded ops a.tmps) = false ∧ v = undef)
theorem YG.grown {b b' : World} {o : Oper} {v : Value} {a : Act} (h : YG P ops b o v a) (hb : Cl b b') : YG P ops b' o v a := by
  rcases h with ⟨h1, h2⟩ | h
  · exact .inl ⟨h1, fun w hw => h2 w (hb.trans hw)⟩
  · exact .inr h
theorem YG.same {b : World} {o : Oper} {v : Value} {a a' : Act} (h : YG P ops b o v a) (he : execOp a'.eval o = execOp a.eval o) (hw : Region.wanted o (yielded ops a'.tmps) = Region.wanted o (yielded ops a.tmps)) : YG P ops b o v a' := by
  unfold YG Oper.quietAt at *
  rw [he, hw]; exact h
theorem YW.same {o : Oper} {v : Value} {a a' : Act} (h : YW P ops o v a) (he : execOp a'.eval o = execOp a.eval o) (hw : Region.wanted o (yielded ops a'.tmps) = Region.wanted o (yielded ops a.tmps)) : YW P ops o v a' := by
  unfold YW at *
  rw [he, hw]; exact h
theorem stepW_of {i : Nat} {oi : Oper} {v : Value} {next : Act → Prop} {a : Act} (hi : ops[i]? = some oi) (hy : YW P ops oi v a) (h : next (a.put oi.dst v)) : stepW P ops i next a := by
  simp only [stepW, hi]
  rcases hy with ⟨hw, hv⟩ | ⟨hw, rfl⟩
  · rw [if_pos hw]; exact ⟨v, hv, h⟩
  · rw [if_neg (by simp [hw])]; exact h
theorem of_stepW {i : Nat} {oi : Oper} {next : Act → Prop} {a : Act} (hi : ops[i]? = some oi) (h : stepW P ops i next a) : ∃ v, YW P ops oi v a ∧ next (a.put oi.dst v) := by
  simp only [stepW, hi] at h
  by_cases hw : Region.wanted oi (yielded ops a.tmps) = true
  · rw [if_pos hw] at h
    obtain ⟨v, h1, h2⟩ := h
    exact ⟨v, .inl ⟨hw, h1⟩, h2⟩
  · rw [if_neg hw] at h
    exact ⟨undef, .inr ⟨by simpa using hw, rfl⟩, h⟩
theorem step1_of {i : Nat} {oi : Oper} {v : Value} {b : World} {K : World → Act → Prop} {KE : Act → World → Prop} {a : Act} (hi : ops[i]? = some oi) (hy : YG P ops b oi v a) (h : K b (a.put oi.dst v)) : stepM P ops 1 i b K KE a := by
  simp only [stepM, hi]
  rcases hy with ⟨hw, hv⟩ | ⟨hw, rfl⟩
  · rw [if_pos hw]; exact ⟨v, hv, h⟩
  · rw [if_neg (by simp [hw])]; exact h
theorem of_step1 {i : Nat} {oi : Oper} {b : World} {K : World → Act → Prop} {KE : Act → World → Prop} {a : Act} (hi : ops[i]? = some oi) (h : stepM P ops 1 i b K KE a) : ∃ v, YG P ops b oi v a ∧ K b (a.put oi.dst v) := by
  simp only [stepM, hi] at h
  by_cases hw : Region.wanted oi (yielded ops a.tmps) = true
  · rw [if_pos hw] at h
    obtain ⟨v, h1, h2⟩ := h
    exact ⟨v, .inl ⟨hw, h1⟩, h2⟩
  · rw [if_neg hw] at h
    exact ⟨undef, .inr ⟨by simpa using hw, rfl⟩, h⟩
/-- the quiet one oi commutes: what its slot's writing turns for another -/
structure Apart (ops : Array Oper) (oi oj : Oper) : Prop where
  ei : ∀ (c : Act) u, execOp (c.put oj.dst u).eval oi = execOp c.eval oi
  wi : ∀ (c : Act) u, Region.wanted oi (yielded ops (c.put oj.dst u).tmps) = Region.wanted oi (yielded ops c.tmps)
  ej : ∀ (c : Act) u, execOp (c.put oi.dst u).eval oj = execOp c.eval oj
  wj : ∀ (c : Act) u, Region.wanted oj (yielded ops (c.put oi.dst u).tmps) = Region.wanted oj (yielded ops c.tmps)
  hd : ∀ d, oi.dst = some d → oj.dst ≠ some d
theorem apart_of (hs : Region.noSelect ops = true) {i j : Nat} {oi oj : Oper} (hoi : ops[i]? = some oi) (hoj : ops[j]? = some oj) (hap : oi.apart ops oj = true) : Apart ops oi oj := by
  obtain ⟨h1, h2, h3⟩ := Oper.apart_spec hap
  have si : ∀ cs bb, oi.op ≠ .select cs bb := fun cs bb => Region.noSelect_spec hs i oi cs bb hoi
  have sj : ∀ cs bb, oj.op ≠ .select cs bb := fun cs bb => Region.noSelect_spec hs j oj cs bb hoj
  exact ⟨fun c u => execOp_put oi si c oj.dst u h3, fun c u => wanted_put oi c oj.dst u h3, fun c u => execOp_put oj sj c oi.dst u h1, fun c u => wanted_put oj c oi.dst u h1, h2⟩
/-- a step of whichever kind, moved over the putting of a value -/
theorem stepX_moved {j : Nat} {oi oj : Oper} {v : Value} {next next' : Act → World → Prop} {a : Act} {w : World} (hoj : ops[j]? = some oj) (A : Apart ops oi oj)
    (h : ∀ (a' : Act) w', (∃ (c : Act) (u : Value), c.tmps = a.tmps ∧ a' = c.put oj.dst u) → next (a'.put oi.dst v) w' → next' a' w') (hh : stepX P ops j next (a.put oi.dst v) w) : stepX P ops j next' a w := by
  simp only [stepX, hoj] at hh ⊢
  rw [A.wj] at hh
  by_cases hw : Region.wanted oj (yielded ops a.tmps) = true
  · rw [if_pos hw] at hh ⊢
    unfold Oper.wp at *
    rw [A.ej] at hh
    exact upon_moved' A.hd h hh
  · rw [if_neg hw] at hh ⊢
    exact h _ _ ⟨a, undef, rfl, rfl⟩ (by rw [← Act.put_comm a v undef A.hd]; exact hh)
theorem wpE_advance (hs : Region.noSelect ops = true) {Q : Act → World → Prop} {j f : Nat} {l2 : List (Nat × Nat)} :
    ∀ (l1 : List (Nat × Nat)) (a : Act) (w : World), (∀ x, x ∈ l1 → x.2 = 0 ∧ ∃ oi oj, ops[x.1]? = some oi ∧ ops[j]? = some oj ∧ oi.apart ops oj = true) → wpE P ops Q (l1 ++ (j, f) :: l2) a w →
      (match f with | 0 => stepW P ops j (fun a' => wpE P ops Q (l1 ++ l2) a' w) a | _ + 1 => stepX P ops j (wpE P ops Q (l1 ++ l2)) a w)
  | [], a, w, _, h => by cases f <;> exact h
  | (i, g) :: l1, a, w, hx, h => by
    obtain ⟨hg, oi, oj, hoi, hoj, hap⟩ := hx (i, g) (by simp)
    simp only at hg
    subst hg
    have A := apart_of hs hoi hoj hap
    simp only [List.cons_append, wpE] at h
    obtain ⟨v, hy, h'⟩ := of_stepW hoi h
    have ih := wpE_advance hs l1 (a.put oi.dst v) w (fun x hx' => hx x (by simp [hx'])) h'
    cases f with
    | zero =>
      simp only at ih ⊢
      obtain ⟨u, hu, hn⟩ := of_stepW hoj ih
      refine stepW_of hoj (hu.same (A.ej a v).symm (A.wj a v).symm) ?_
      simp only [List.cons_append, wpE]
      exact stepW_of hoi (hy.same (A.ei a u) (A.wi a u)) (by rw [← Act.put_comm a v u A.hd]; exact hn)
    | succ f =>
      simp only at ih ⊢
      refine stepX_moved hoj A (fun a' w' hb hc => ?_) ih
      obtain ⟨c, u, hc1, hc2⟩ := hb
      subst hc2
      simp only [List.cons_append, wpE]
      refine stepW_of hoi (hy.same ?_ ?_) hc
      · rw [A.ei c u]; cases c; cases a; simp only at hc1; subst hc1; rfl
      · rw [A.wi c u, hc1]
theorem wpM_advance (hs : Region.noSelect ops = true) {Q : Act → World → Prop} {j f : Nat} {l2 : List (Nat × Nat)} {b : World} :
    ∀ (l1 : List (Nat × Nat)) (a : Act), (∀ x, x ∈ l1 → (x.2 ≤ 1 ∧ (3 ≤ f → x.2 = 0)) ∧ ∃ oi oj, ops[x.1]? = some oi ∧ ops[j]? = some oj ∧ oi.apart ops oj = true) → wpM P ops Q (l1 ++ (j, f) :: l2) b a →
      stepM P ops f j b (wpM P ops Q (l1 ++ l2)) (wpE P ops Q (l1 ++ l2)) a
  | [], a, _, h => h
  | (i, g) :: l1, a, hx, h => by
    obtain ⟨⟨hg, hg3⟩, oi, oj, hoi, hoj, hap⟩ := hx (i, g) (by simp)
    simp only at hg hg3
    have A := apart_of hs hoi hoj hap
    -- the head is quiet, of either kind
    have key : ∃ v, YG P ops b oi v a ∧ (g = 0 → YW P ops oi v a) ∧ wpM P ops Q (l1 ++ (j, f) :: l2) b (a.put oi.dst v) := by
      simp only [List.cons_append, wpM] at h
      match g, hg with
      | 0, _ =>
        obtain ⟨v, hy, h'⟩ := of_stepW hoi h
        refine ⟨v, ?_, fun _ => hy, h'⟩
        rcases hy with ⟨h1, h2⟩ | h1
        · refine .inl ⟨h1, fun w _ => ?_⟩
          have := h2 w
          unfold Oper.quietAt
          generalize (execOp a.eval oi).run P w = r at *
          cases r with
          | ok n w' =>
            cases n <;> simp only [stillV] at this <;> simp only [Oper.quietUpon]
            case value u => exact this
            case skip => exact this
            case enter gg args => exact ⟨this.1, this.2.mono fun e w'' ⟨he, hw''⟩ => ⟨he, by subst hw''; exact Cl.refl _⟩⟩
          | halt x w' => simp only [stillV] at this
        · exact .inr h1
      | 1, _ =>
        obtain ⟨v, hy, h'⟩ := of_step1 hoi h
        exact ⟨v, hy, fun h => (by cases h), h'⟩
    obtain ⟨v, hy, hy0, h'⟩ := key
    have back : ∀ (b' : World) (a' : Act), YG P ops b' oi v a' → (g = 0 → YW P ops oi v a') → wpM P ops Q (l1 ++ l2) b' (a'.put oi.dst v) → wpM P ops Q ((i, g) :: l1 ++ l2) b' a' := by
      intro b' a' h1 h2 h3
      simp only [List.cons_append, wpM]
      match g, hg, h2 with
      | 0, _, h2 => exact stepW_of hoi (h2 rfl) h3
      | 1, _, _ => exact step1_of hoi h1 h3
    have ih := wpM_advance hs l1 (a.put oi.dst v) (fun x hx' => hx x (by simp [hx'])) h'
    match f, hg3, ih with
    | 0, _, ih =>
      obtain ⟨u, hu, hn⟩ := of_stepW hoj ih
      exact stepW_of hoj (hu.same (A.ej a v).symm (A.wj a v).symm) (back b _ (hy.same (A.ei a u) (A.wi a u)) (fun h0 => (hy0 h0).same (A.ei a u) (A.wi a u)) (by rw [← Act.put_comm a v u A.hd]; exact hn))
    | 1, _, ih =>
      obtain ⟨u, hu, hn⟩ := of_step1 hoj ih
      exact step1_of hoj (hu.same (A.ej a v).symm (A.wj a v).symm) (back b _ (hy.same (A.ei a u) (A.wi a u)) (fun h0 => (hy0 h0).same (A.ei a u) (A.wi a u)) (by rw [← Act.put_comm a v u A.hd]; exact hn))
    | 2, _, ih =>
      simp only [stepM, hoj] at ih ⊢
      rw [A.wj] at ih
      by_cases hw : Region.wanted oj (yielded ops a.tmps) = true
      · rw [if_pos hw] at ih ⊢
        intro w hw'
        have := ih w hw'
        unfold Oper.wp at *
        rw [A.ej] at this
        refine upon_moved' A.hd (fun a' w' hb hc => ?_) this
        obtain ⟨c, u, hc1, hc2⟩ := hb
        subst hc2
        have e1 : execOp (c.put oj.dst u).eval oi = execOp a.eval oi := by rw [A.ei c u]; cases c; cases a; simp only at hc1; subst hc1; rfl
        have e2 : Region.wanted oi (yielded ops (c.put oj.dst u).tmps) = Region.wanted oi (yielded ops a.tmps) := by rw [A.wi c u, hc1]
        exact ⟨hc.1, back _ _ ((hy.grown (hw'.trans hc.1)).same e1 e2) (fun h0 => (hy0 h0).same e1 e2) hc.2⟩
      · rw [if_neg hw] at ih ⊢
        exact back b _ (hy.same (A.ei a undef) (A.wi a undef)) (fun h0 => (hy0 h0).same (A.ei a undef) (A.wi a undef)) (by rw [← Act.put_comm a v undef A.hd]; exact ih)
    | f + 3, hg3, ih =>
      have g0 : g = 0 := hg3 (by omega)
      subst g0
      simp only [stepM] at ih ⊢
      intro w hw'
      refine stepX_moved hoj A (fun a' w' hb hc => ?_) (ih w hw')
      obtain ⟨c, u, hc1, hc2⟩ := hb
      subst hc2
      simp only [List.cons_append, wpE]
      refine stepW_of hoi ((hy0 rfl).same ?_ ?_) hc
      · rw [A.ei c u]; cases c; cases a; simp only at hc1; subst hc1; rfl
      · rw [A.wi c u, hc1]
/-! ### Any order -/
structure Inv (md : Region.Mode) (ops : Array Oper) (ord : List (Nat × Nat)) (listed : Array Bool) : Prop where
  ok : mixOk md ops ord listed = true
  nd : (ord.map Prod.fst).Nodup
  un : ∀ x, x ∈ ord → listed.getD x.1 true = false
  cov : ∀ i, i < ops.size → listed.getD i true = false → ∃ f, (i, f) ∈ ord
  cl : Closed md ops listed
  sk : ∀ x, x ∈ ord → x.2 = 1 → ∀ t, t ∈ ord → 3 ≤ t.2 → waitsT md ops 12 t.1 x.1 = true
  late : lateOk ord = true
theorem getD_set_self (listed : Array Bool) (j : Nat) : (listed.setIfInBounds j true).getD j true = true := by
  rcases Nat.lt_or_ge j listed.size with h' | h'
  · simp [h']
  · simp [h']
theorem late_drop {x : Nat × Nat} {l2 : List (Nat × Nat)} : ∀ (l1 : List (Nat × Nat)), lateOk (l1 ++ x :: l2) = true → lateOk (l1 ++ l2) = true ∧ (3 ≤ x.2 → ∀ y, y ∈ l2 → y.2 = 0 ∨ 3 ≤ y.2)
  | [], h => by
    simp only [List.nil_append, lateOk, Bool.and_eq_true] at h ⊢
    refine ⟨h.2, fun h3 y hy => ?_⟩
    have h1 := h.1
    simp only [Bool.or_eq_true, decide_eq_true_eq, List.all_eq_true, beq_iff_eq] at h1
    rcases h1 with h1 | h1
    · omega
    · exact h1 y hy
  | y :: l1, h => by
    simp only [List.cons_append, lateOk, Bool.and_eq_true] at h ⊢
    obtain ⟨ha, hb⟩ := late_drop l1 h.2
    refine ⟨⟨?_, ha⟩, hb⟩
    have h1 := h.1
    simp only [Bool.or_eq_true, decide_eq_true_eq, List.all_eq_true] at h1 ⊢
    rcases h1 with h1 | h1
    · exact .inl h1
    · refine .inr fun z hz => h1 z ?_
      rcases List.mem_append.1 hz with hz | hz
      · exact List.mem_append.2 (.inl hz)
      · exact List.mem_append.2 (.inr (List.mem_cons_of_mem _ hz))
theorem Inv.split {ord : List (Nat × Nat)} {listed : Array Bool} (I : Inv md ops ord listed) {j : Nat} (hj : j ∈ Region.ready md ops listed) :
    ∃ l1 f l2, ord = l1 ++ (j, f) :: l2 ∧ Inv md ops (l1 ++ l2) (listed.setIfInBounds j true) ∧ (∀ x, x ∈ l1 → (x.2 ≤ 1 ∧ (3 ≤ f → x.2 = 0)) ∧ ∃ oi oj, ops[x.1]? = some oi ∧ ops[j]? = some oj ∧ oi.apart ops oj = true) ∧ (3 ≤ f → ∀ y, y ∈ l1 ++ l2 → y.2 = 0 ∨ 3 ≤ y.2) ∧ (l1 ++ l2).length + 1 = ord.length := by
  obtain ⟨hju, o, ho, hall⟩ := mem_ready.1 hj
  have hlt : j < ops.size := (Array.getElem?_eq_some_iff.1 ho).1
  obtain ⟨f, hf⟩ := I.cov j hlt hju
  obtain ⟨l1, l2, rfl⟩ := List.append_of_mem hf
  have nd := I.nd
  rw [List.map_append, List.map_cons, List.nodup_append] at nd
  obtain ⟨nd1, nd2, nd3⟩ := nd
  rw [List.nodup_cons] at nd2
  have hne1 : ∀ x, x ∈ l1 → x.1 ≠ j := fun x hx => nd3 _ (List.mem_map_of_mem hx) _ (by simp)
  have hne2 : ∀ x, x ∈ l2 → x.1 ≠ j := fun x hx e => nd2.1 (by rw [← e]; exact List.mem_map.2 ⟨x, hx, rfl⟩)
  have hne : ∀ x, x ∈ l1 ++ l2 → x.1 ≠ j := fun x hx => (List.mem_append.1 hx).elim (hne1 x) (hne2 x)
  have sub : ∀ x, x ∈ l1 ++ l2 → x ∈ l1 ++ (j, f) :: l2 := fun x hx => by
    rcases List.mem_append.1 hx with hx | hx
    · exact List.mem_append.2 (.inl hx)
    · exact List.mem_append.2 (.inr (List.mem_cons_of_mem _ hx))
  obtain ⟨m1, m2⟩ := mix_advance l1 listed I.ok hj hne1
  obtain ⟨d1, d2⟩ := late_drop l1 I.late
  have h0 : 3 ≤ f → ∀ x, x ∈ l1 → x.2 = 0 := fun h3 x hx => by
    have h1 := (m2 x hx).1
    rcases Nat.lt_or_ge x.2 1 with h2 | h2
    · omega
    · exact (waitsT_not_ready I.cl (I.sk x (sub x (List.mem_append.2 (.inl hx))) (by omega) (j, f) hf h3) (I.un x (sub x (List.mem_append.2 (.inl hx)))) hj).elim
  refine ⟨l1, f, l2, rfl, ⟨m1, ?_, ?_, ?_, I.cl.set hj, ?_, d1⟩, fun x hx => ⟨⟨(m2 x hx).1, fun h3 => h0 h3 x hx⟩, (m2 x hx).2⟩, ?_, by simp; omega⟩
  · rw [List.map_append, List.nodup_append]
    exact ⟨nd1, nd2.2, fun a ha b hb => nd3 a ha b (List.mem_cons_of_mem _ hb)⟩
  · exact fun x hx => by rw [getD_set_ne true (Ne.symm (hne x hx))]; exact I.un x (sub x hx)
  · intro i hi hu
    have hij : j ≠ i := fun e => by subst e; rw [getD_set_self] at hu; cases hu
    rw [getD_set_ne true hij] at hu
    obtain ⟨g, hg⟩ := I.cov i hi hu
    refine ⟨g, ?_⟩
    rcases List.mem_append.1 hg with hg | hg
    · exact List.mem_append.2 (.inl hg)
    · rcases List.mem_cons.1 hg with hg | hg
      · exact absurd (congrArg Prod.fst hg).symm hij
      · exact List.mem_append.2 (.inr hg)
  · exact fun x hx h1 t ht h3 => I.sk x (sub x hx) h1 t (sub t ht) h3
  · intro h3 y hy
    rcases List.mem_append.1 hy with hy | hy
    · exact .inl (h0 h3 y hy)
    · exact d2 h3 y hy
/-- of the other ends nothing is asked -/
def calmQ (Q : Act → World → Prop) : Exit → Act → World → Prop := fun e a w => match e with | .normal => Q a w | _ => False
theorem upon_calm {o : Oper} {a : Act} {next next' : Act → World → Prop} {Q : Act → World → Prop} {r : Result Next} (h : ∀ a w, next a w → next' a w) (hh : o.upon P a next (fun _ _ _ => False) r) : o.upon P a next' (calmQ Q) r := by
  cases r with
  | ok n w =>
    cases n <;> simp only [Oper.upon] at hh ⊢
    case value u => exact h _ _ hh
    case skip => exact h _ _ hh
    case defer dd => exact h _ _ hh
    case enter f args =>
      refine hh.mono fun e1 w1 h1 => ?_
      cases e1 with
      | returned u => exact h _ _ h1
      | panicked c => exact h1.elim
      | outgrown => obtain ⟨_, _, h2⟩ := h1; exact h2.elim
    case row row args => exact hh.mono fun u w1 h1 => h _ _ h1
  | halt x w =>
    cases x <;> simp only [Oper.upon] at hh
theorem wpOp_of_stepX {i : Nat} {next next' : Act → World → Prop} {Q : Act → World → Prop} {a : Act} {w : World} (h : ∀ a w, next a w → next' a w) (hh : stepX P ops i next a w) : wpOp P ops (calmQ Q) i next' a w := by
  unfold stepX at hh
  unfold wpOp
  cases ho : ops[i]? with
  | none => rw [ho] at hh; exact h _ _ hh
  | some o =>
    rw [ho] at hh
    simp only at hh ⊢
    by_cases hw : Region.wanted o (yielded ops a.tmps) = true
    · rw [if_pos hw] at hh ⊢; exact .inl (upon_calm h hh)
    · rw [if_neg hw] at hh ⊢; exact h _ _ hh
theorem wpOp_of_stepW {i : Nat} {next : Act → Prop} {next' : Act → World → Prop} {Q : Act → World → Prop} {a : Act} {w : World} (h : ∀ a, next a → next' a w) (hh : stepW P ops i next a) : wpOp P ops (calmQ Q) i next' a w := by
  unfold stepW at hh
  unfold wpOp
  cases ho : ops[i]? with
  | none => rw [ho] at hh; exact h _ hh
  | some o =>
    rw [ho] at hh
    simp only at hh ⊢
    by_cases hw : Region.wanted o (yielded ops a.tmps) = true
    · rw [if_pos hw] at hh ⊢
      obtain ⟨v, h1, h2⟩ := hh
      refine .inl ?_
      have h1 := h1 w
      unfold Oper.wp
      generalize (execOp a.eval o).run P w = r at *
      cases r with
      | ok n w' =>
        cases n <;> simp only [stillV] at h1 <;> simp only [Oper.upon]
        case value u => obtain ⟨e1, e2⟩ := h1; subst e1; subst e2; exact h _ h2
        case skip => obtain ⟨e1, e2⟩ := h1; subst e1; subst e2; exact h _ h2
        case enter g args => obtain ⟨e1, e2⟩ := h1; subst e1; exact e2.mono fun e w'' ⟨e1, e2⟩ => by subst e1; subst e2; exact h _ h2
      | halt x w' => simp only [stillV] at h1
    · rw [if_neg hw] at hh ⊢; exact h _ hh
theorem wpOp_of_step1 {i : Nat} {b : World} {K : World → Act → Prop} {KE next' : Act → World → Prop} {Q : Act → World → Prop} {a : Act} {w : World} (hb : Cl b w) (h : ∀ a w, Cl b w → K b a → next' a w) (hh : stepM P ops 1 i b K KE a) : wpOp P ops (calmQ Q) i next' a w := by
  unfold stepM at hh
  unfold wpOp
  cases ho : ops[i]? with
  | none => rw [ho] at hh; exact h _ _ hb hh
  | some o =>
    rw [ho] at hh
    simp only at hh ⊢
    by_cases hw : Region.wanted o (yielded ops a.tmps) = true
    · rw [if_pos hw] at hh ⊢
      obtain ⟨v, h1, h2⟩ := hh
      refine .inl ?_
      have h1 := h1 w hb
      unfold Oper.quietAt at h1
      unfold Oper.wp
      generalize (execOp a.eval o).run P w = r at *
      cases r with
      | ok n w' =>
        cases n <;> simp only [Oper.quietUpon] at h1 <;> simp only [Oper.upon]
        case value u => obtain ⟨e1, e2⟩ := h1; subst e1; subst e2; exact h _ _ hb h2
        case skip => obtain ⟨e1, e2⟩ := h1; subst e1; subst e2; exact h _ _ hb h2
        case enter g args => obtain ⟨e0, h1⟩ := h1; subst e0; exact h1.mono fun e w'' ⟨e1, e2⟩ => by subst e1; exact h _ _ (hb.trans e2) h2
      | halt x w' => simp only [Oper.quietUpon] at h1
    · rw [if_neg hw] at hh ⊢; exact h _ _ hb hh
theorem wpOp_of_step2 {i : Nat} {b : World} {K : World → Act → Prop} {KE next' : Act → World → Prop} {Q : Act → World → Prop} {a : Act} {w : World} (hb : Cl b w) (h : ∀ a w', Cl b w' → (∃ b', Cl b' w' ∧ K b' a) → next' a w') (hh : stepM P ops 2 i b K KE a) : wpOp P ops (calmQ Q) i next' a w := by
  unfold stepM at hh
  unfold wpOp
  cases ho : ops[i]? with
  | none => rw [ho] at hh; exact h _ _ hb ⟨b, hb, hh⟩
  | some o =>
    rw [ho] at hh
    simp only at hh ⊢
    by_cases hw : Region.wanted o (yielded ops a.tmps) = true
    · rw [if_pos hw] at hh ⊢
      exact .inl (upon_calm (fun a w' h1 => h _ _ (hb.trans h1.1) ⟨w', Cl.refl _, h1.2⟩) (hh w hb))
    · rw [if_neg hw] at hh ⊢; exact h _ _ hb ⟨b, hb, hh⟩
theorem Inv.head {x : Nat × Nat} {ord : List (Nat × Nat)} {listed : Array Bool} (I : Inv md ops (x :: ord) listed) : Region.ready md ops listed ≠ [] := by
  have h := I.ok
  obtain ⟨i, f⟩ := x
  simp only [mixOk, Bool.and_eq_true] at h
  intro e
  have h1 := h.1
  rw [e] at h1
  by_cases hf : f ≤ 1
  · rw [if_pos hf] at h1; simp at h1
  · rw [if_neg hf] at h1; simp at h1
theorem any_exact (hs : Region.noSelect ops = true) {Q : Act → World → Prop} : ∀ (n : Nat) (ord : List (Nat × Nat)) (listed : Array Bool) (fuel : Nat) (a : Act) (w : World), ord.length = n → n ≤ fuel → Inv md ops ord listed → (∀ y, y ∈ ord → y.2 = 0 ∨ 3 ≤ y.2) →
    wpE P ops Q ord a w → wpAny P md ops (calmQ Q) fuel listed a w
  | 0, ord, listed, fuel, a, w, hn, _, I, _, h => by
    cases List.eq_nil_of_length_eq_zero hn
    have hr : Region.ready md ops listed = [] := by simpa [mixOk] using I.ok
    cases fuel with
    | zero => exact ⟨hr, h⟩
    | succ k => exact ⟨fun _ => h, fun i hi => by rw [hr] at hi; cases hi⟩
  | n + 1, ord, listed, fuel, a, w, hn, hf, I, hl, h => by
    obtain ⟨k, rfl⟩ : ∃ k, fuel = k + 1 := ⟨fuel - 1, by omega⟩
    obtain ⟨x, r, rfl⟩ : ∃ x r, ord = x :: r := by cases ord with | nil => simp at hn | cons x r => exact ⟨x, r, rfl⟩
    refine ⟨fun e => absurd e I.head, fun i hi => ?_⟩
    obtain ⟨l1, f, l2, e, I', hx, _, hlen⟩ := I.split hi
    rw [e] at h hl
    have hl' : ∀ y, y ∈ l1 ++ l2 → y.2 = 0 ∨ 3 ≤ y.2 := fun y hy => hl y (by
      rcases List.mem_append.1 hy with hy | hy
      · exact List.mem_append.2 (.inl hy)
      · exact List.mem_append.2 (.inr (List.mem_cons_of_mem _ hy)))
    have ih := fun a' w' => any_exact hs (Q := Q) n (l1 ++ l2) (listed.setIfInBounds i true) k a' w' (by omega) (by omega) I' hl'
    have hx' : ∀ x, x ∈ l1 → x.2 = 0 ∧ ∃ oi oj, ops[x.1]? = some oi ∧ ops[i]? = some oj ∧ oi.apart ops oj = true := fun x hx1 => ⟨by have := (hx x hx1).1.1; have := hl' x (List.mem_append.2 (.inl hx1)); omega, (hx x hx1).2⟩
    have st := wpE_advance hs l1 a w hx' h
    cases f with
    | zero => exact wpOp_of_stepW (fun a' h' => ih a' w h') st
    | succ f => exact wpOp_of_stepX ih st
theorem any_mix (hs : Region.noSelect ops = true) {Q : Act → World → Prop} : ∀ (n : Nat) (ord : List (Nat × Nat)) (listed : Array Bool) (fuel : Nat) (b : World) (a : Act) (w : World), ord.length = n → n ≤ fuel → Inv md ops ord listed → Cl b w →
    wpM P ops Q ord b a → wpAny P md ops (calmQ Q) fuel listed a w
  | 0, ord, listed, fuel, b, a, w, hn, _, I, hb, h => by
    cases List.eq_nil_of_length_eq_zero hn
    have hr : Region.ready md ops listed = [] := by simpa [mixOk] using I.ok
    cases fuel with
    | zero => exact ⟨hr, h w hb⟩
    | succ k => exact ⟨fun _ => h w hb, fun i hi => by rw [hr] at hi; cases hi⟩
  | n + 1, ord, listed, fuel, b, a, w, hn, hf, I, hb, h => by
    obtain ⟨k, rfl⟩ : ∃ k, fuel = k + 1 := ⟨fuel - 1, by omega⟩
    obtain ⟨x, r, rfl⟩ : ∃ x r, ord = x :: r := by cases ord with | nil => simp at hn | cons x r => exact ⟨x, r, rfl⟩
    refine ⟨fun e => absurd e I.head, fun i hi => ?_⟩
    obtain ⟨l1, f, l2, e, I', hx, hlate, hlen⟩ := I.split hi
    rw [e] at h
    have ih := fun b' a' w' => any_mix hs (Q := Q) n (l1 ++ l2) (listed.setIfInBounds i true) k b' a' w' (by omega) (by omega) I'
    have st := wpM_advance hs l1 a hx h
    match f, st, hlate with
    | 0, st, _ => exact wpOp_of_stepW (fun a' h' => ih b a' w hb h') st
    | 1, st, _ => exact wpOp_of_step1 hb (fun a' w' hw' h' => ih b a' w' hw' h') st
    | 2, st, _ => exact wpOp_of_step2 hb (fun a' w' hw' ⟨b', h1, h2⟩ => ih b' a' w' h1 h2) st
    | f + 3, st, hlate =>
      exact wpOp_of_stepX (fun a' w' h' => any_exact hs n (l1 ++ l2) (listed.setIfInBounds i true) k a' w' (by omega) (by omega) I' (hlate (by omega)) h') (st w hb)
def mixChecks (ops : Array Oper) (ord : List (Nat × Nat)) : Bool :=
  Region.noSelect ops && mixOk .any ops ord (Array.replicate ops.size false) && covOk ops ord && decide ((ord.map Prod.fst).Nodup) && (ord.all fun x => decide (x.1 < ops.size)) && sinkOk .any ops ord && lateOk ord && decide (ord.length ≤ ops.size)
theorem inv_of_checks {ord : List (Nat × Nat)} (h : mixChecks ops ord = true) : Region.noSelect ops = true ∧ Inv .any ops ord (Array.replicate ops.size false) ∧ ord.length ≤ ops.size := by
  simp only [mixChecks, Bool.and_eq_true, decide_eq_true_eq, List.all_eq_true] at h
  obtain ⟨⟨⟨⟨⟨⟨⟨h1, h2⟩, h3⟩, h4⟩, h5⟩, h6⟩, h7⟩, h8⟩ := h
  refine ⟨h1, ⟨h2, h4, fun x hx => ?_, fun i hi _ => ?_, fun k o ho hk => ?_, fun x hx hx1 t ht ht3 => ?_, h7⟩, ?_⟩
  · simp [h5 x hx]
  · simp only [covOk, List.all_eq_true, List.mem_range, List.any_eq_true, beq_iff_eq] at h3
    obtain ⟨x, hx, e⟩ := h3 i hi
    exact ⟨x.2, by rw [← e]; exact hx⟩
  · exfalso
    rcases Nat.lt_or_ge k ops.size with h' | h'
    · simp [h'] at hk
    · simp [Array.getElem?_eq_none h'] at ho
  · simp only [sinkOk, List.all_eq_true, Bool.or_eq_true, decide_eq_true_eq] at h6
    rcases h6 x hx with hz | hz
    · simp [hx1] at hz
    · rcases hz t ht with h9 | h9
      · omega
      · exact h9
  · exact h8
/-- **the law** -/
theorem wp_region_mix {id : Nat} {l : List Oper} {Q : Exit → Act → World → Prop} {a : Act} {w : World} (ord : List (Nat × Nat)) (hm : P.follows .mixedOrders = true) (hc : mixChecks l.toArray ord = true)
    (h : wpM P l.toArray (Q .normal) ord w.drew a) : (Code.region id l.toArray true).wp P Q a w := by
  obtain ⟨h1, h2, h3⟩ := inv_of_checks hc
  refine Code.wp_mono (fun e a w q => ?_) (wp_region_any (Q := calmQ (Q .normal)) hm (any_mix h1 _ ord _ _ w.drew a _ rfl h3 h2 (Cl.refl _) h))
  cases e <;> first | exact q | exact q.elim
end
end Lode

/-
  A REGION WALKED BY A PLAN, STEP BY STEP: what is skipped, what yields, what is read, what is called.
-/
namespace Lode
open Go Go.RowKit Go.Sort
section
variable {P : Program} {l : List Oper} {Q : Act → World → Prop} {r : List (Nat × Nat)} {b : World} {a : Act}
theorem wpM_skip {i f : Nat} {o : Oper} (hi' : l[i]? = some o) (hw : Region.wanted o (yielded l.toArray a.tmps) = false) (hf : f ≤ 2) (h : wpM P l.toArray Q r b (a.put o.dst undef)) : wpM P l.toArray Q ((i, f) :: r) b a := by
  have hi : l.toArray[i]? = some o := by rw [List.getElem?_toArray]; exact hi'
  unfold wpM
  match f, hf with
  | 0, _ => exact stepW_of hi (.inr ⟨hw, rfl⟩) h
  | 1, _ => exact step1_of hi (.inr ⟨hw, rfl⟩) h
  | 2, _ => simp only [stepM, hi, hw]; exact h
theorem wpM_take {i : Nat} {o : Oper} {v : Value} (hi' : l[i]? = some o) (hw : Region.wanted o (yielded l.toArray a.tmps) = true) (hy : ∀ w, (execOp a.eval o).run P w = .ok (.value v) w) (h : wpM P l.toArray Q r b (a.put o.dst v)) : wpM P l.toArray Q ((i, 0) :: r) b a := by
  have hi : l.toArray[i]? = some o := by rw [List.getElem?_toArray]; exact hi'
  unfold wpM
  exact stepW_of hi (.inl ⟨hw, fun w => by rw [hy w]; exact ⟨rfl, rfl⟩⟩) h
theorem wpM_load {i : Nat} {o : Oper} {v : Value} {S : World → Prop} (hS : ∀ w, Cl b w → S w) (hi' : l[i]? = some o) (hw : Region.wanted o (yielded l.toArray a.tmps) = true) (hy : ∀ w, S w → (execOp a.eval o).run P w = .ok (.value v) w) (h : wpM P l.toArray Q r b (a.put o.dst v)) : wpM P l.toArray Q ((i, 1) :: r) b a := by
  have hi : l.toArray[i]? = some o := by rw [List.getElem?_toArray]; exact hi'
  unfold wpM
  refine step1_of hi (.inl ⟨hw, fun w hc => ?_⟩) h
  unfold Oper.quietAt
  rw [hy w (hS w hc)]
  exact ⟨rfl, rfl⟩
theorem wpM_call {i : Nat} {o : Oper} (hi' : l[i]? = some o) (hw : Region.wanted o (yielded l.toArray a.tmps) = true) (h : ∀ K : World → Act → Prop, (∀ w' a', wpM P l.toArray Q r w' a' → K w' a') → ∀ w, Cl b w → o.wp P a w (fun a' w' => Cl w w' ∧ K w' a') (fun _ _ _ => False)) : wpM P l.toArray Q ((i, 2) :: r) b a := by
  have hi : l.toArray[i]? = some o := by rw [List.getElem?_toArray]; exact hi'
  unfold wpM
  simp only [stepM, hi, hw]
  exact fun w hc => h _ (fun _ _ h => h) w hc
theorem wpM_done (h : ∀ w, Cl b w → Q a w) : wpM P l.toArray Q [] b a := h
theorem Cl.below {w w' : World} (h : Cl w w') : Below w.heap.size w w' := cl_iff.1 h
end
end Lode

/-
  A RANGE OVER A FUNCTION whose iterator keeps its state in a block of cells that lay before the loop (block R).
-/
namespace Go.Proofs.YthknlifmkjdoeaaGreatDoor
open Go.RowKit
/-- an invariant that minds neither new blocks nor the state's block -/
def AbR {β : Type} (R : Nat) (J : β → World → Prop) : Prop := ∀ s A B row, J s A → A.grownBy B row → (∀ r, row = some r → r = R) → J s B
/-- one that minds, besides, no change of a block beyond B that is no cells -/
def OwnR {β : Type} (R B : Nat) (I : β → World → Prop) : Prop := ∀ s W W' row, I s W → W.grownBy W' row → (∀ r, row = some r → r = R ∨ (B ≤ r ∧ ∃ o : Obj, W.heap[r]? = some o ∧ o.isCells = false)) → I s W'
theorem OwnR.put {β : Type} {R B : Nat} {I : β → World → Prop} (h : OwnR R B I) {s : β} {W : World} {l : Nat} {o : Obj} (o' : Obj) (hs : I s W) (hl : W.heap[l]? = some o) (ho : o.isCells = false) (hb : B ≤ l) : I s (W.putObj l o') :=
  h s W _ (some l) hs (grownBy_putObj' W l o') (fun r e => by cases e; exact .inr ⟨hb, o, hl, ho⟩)
theorem OwnR.alloc {β : Type} {R B : Nat} {I : β → World → Prop} (h : OwnR R B I) {s : β} {W : World} (o : Obj) (hs : I s W) : I s (W.alloc o) :=
  h s W _ none hs (World.grownBy_alloc W o none) (fun r e => by cases e)
/-- what the iterator promises: it hands over one x after another, each with G -/
def SeqR {α : Type} (F : Fence) (n : Nat) (P : Program) (g : Nat) (la lb : Array Value) (enc : α → Value) (Kp : World → World → Prop) (G : List α → α → Prop) (R : Nat) (S Sp : List α → Prop) (w : World) : Prop :=
  ∀ (l : Nat) (J Jx : List α → World → Prop) (W : World), Below w.heap.size w W → AbR R J → AbR R Jx →
    (∀ pre x W1, J pre W1 → G pre x → YieldAt F (n - 1) P l #[enc x] W1 fun e W' =>
      (e = .returned (.bool true) ∧ J (pre ++ [x]) W' ∧ Kp W1 W') ∨ (e = .returned (.bool false) ∧ Jx (pre ++ [x]) W')) →
    J [] W →
    CallsIn F n P g (la ++ #[.func (.yield l) #[] #[]] ++ lb) W fun e W' => (∃ v, e = .returned v) ∧ ((∃ xs, S xs ∧ J xs W') ∨ (∃ pre, Sp pre ∧ Jx pre W'))
variable {F : Fence} {n : Nat} {P : Program}
theorem wpIn_range_R {α : Type} {g : Operand} {p0 : Tmp} {assign body : Code} {Q : Exit → Act → World → Prop} {a : Act} {w : World}
    (hro : F.round = none) (h1 : 1 ≤ n) {gf : Nat} {la lb : Array Value} (hg : a.eval g = .func (.func gf) la lb) (hFg : F.fn gf) (eg : ∀ args w, (callFunc gf args).run P w = .ok (.enter gf args) w)
    {enc : α → Value} {Kp : World → World → Prop} {G : List α → α → Prop} {R : Nat} {S Sp : List α → Prop} (hseq : SeqR F (n - 1) P gf la lb enc Kp G R S Sp w) (hR : R < w.heap.size)
    (hKt : ∀ {A B C : World}, Kp A B → Kp B C → Kp A C) (hKb : ∀ (W : World) (l : Nat) (o o' : Obj), w.heap.size ≤ l → W.heap[l]? = some o → o.isCells = false → Kp W (W.putObj l o'))
    (I : List α → World → Prop) (Ix : Code → List α → World → Prop) (hI : OwnR R w.heap.size I) (hIx : ∀ c, OwnR R w.heap.size (Ix c)) (h0 : I [] w) (Ax : List α → α → Act → World → Prop)
    (hAx : ∀ pre x a' (W : World) (l : Nat) (o o' : Obj), Ax pre x a' W → w.heap.size ≤ l → W.heap[l]? = some o → o.isCells = false → Ax pre x a' (W.putObj l o'))
    (hassign : ∀ (l : Nat) (pre : List α) (x : α) (W : World) (K : Act → World → Prop), I pre W → G pre x → (∀ a' W', KeepsOthers W W' → Kp W W' → Ax pre x a' W' → K a' W') →
      assign.wpIn (F.inRound l) (n - 1 - 1) P (Exit.then K (fun _ _ _ => False)) { tmps := a.tmps.setIfInBounds p0 (enc x), defers := [] } W)
    (hbody : ∀ (l : Nat) (pre : List α) (x : α) (a' : Act) (W : World), Ax pre x a' W → G pre x → body.wpIn (F.inRound l) (n - 1 - 1) P (ownPostK Kp I Ix (pre ++ [x]) W) a' W)
    (hdone : ∀ (D : Nat) (xs : List α) (W : World), S xs → I xs W → w.heap.size ≤ D → W.heap[D]? = some (.deferred (some [])) → Q .normal { a with defers := { target := .collected D, args := #[] } :: a.defers } W)
    (hstop : ∀ (D : Nat) (c : Code) (pre : List α) (W : World), Sp pre → Ix c pre W → w.heap.size ≤ D → W.heap[D]? = some (.deferred (some [])) → c.wpIn F n P Q { a with defers := { target := .collected D, args := #[] } :: a.defers } W) :
    (Code.rangeFunc g #[p0] assign body).wpIn F n P Q a w := by
  refine wpIn_rangeFunc ?_
  intro fn hfn
  -- the loop's record, by its state and its pending jump
  obtain ⟨rec, hrec⟩ : ∃ rec : LoopState → Option Code → Loop, rec = fun st pd => { state := st, pending := pd, fn, tmps := a.tmps, params := #[p0], assign, body, defers := w.heap.size } := ⟨_, rfl⟩
  obtain ⟨W1, hW1⟩ : ∃ W1, W1 = (w.alloc (.deferred (some []))).alloc (.loop (rec .ready none)) := ⟨_, rfl⟩
  have sz : W1.heap.size = w.heap.size + 2 := by rw [hW1]; simp
  have hL1 : W1.heap[w.heap.size + 1]? = some (.loop (rec .ready none)) := by
    rw [hW1]; have := World.alloc_heap_new (w.alloc (.deferred (some []))) (.loop (rec .ready none)); simpa using this
  have hK1 : W1.heap[w.heap.size]? = some (.deferred (some [])) := by
    rw [hW1]; exact (Below.heap_alloc _ _ _ (by simp)).trans (World.alloc_heap_new w _)
  have hI1 : I [] W1 := by rw [hW1]; exact hI.alloc _ (hI.alloc _ h0)
  have hb1 : Below w.heap.size w W1 := by rw [hW1]; exact ((Below.refl _ w).alloc (Nat.le_refl _) _).alloc (by simp) _
  have far : ∀ {A B : World} {row : Option Nat} {k : Nat} {o : Obj}, A.heap[k]? = some o → A.grownBy B row → (∀ r, row = some r → r = R) → w.heap.size ≤ k → B.heap[k]? = some o :=
    fun hk hg' hr hle => (hg'.block _ (Array.getElem?_eq_some_iff.1 hk).1 (fun e => by have := hr _ e.symm; omega)).trans hk
  refine ⟨w.heap.size + 1, [{ target := .collected w.heap.size, args := #[] }], W1, { target := .fn (.func gf) lb, args := la ++ #[.func (.yield (w.heap.size + 1)) #[] #[]] }, W1, gf,
    la ++ #[.func (.yield (w.heap.size + 1)) #[] #[]] ++ lb, W1, ?_, ?_, ?_, ?_, fun _ => h1, ?_⟩
  · rw [hro, hW1, hrec]; exact run_enterLoop_outer _ _ _ _ _
  · simp only [resolve, hg]
    simp [go_sem]
  · intro f' hf'; simp [Target.leads] at hf'; subst hf'; exact hFg
  · simp [invoke, go_sem, eg]
  refine (hseq (w.heap.size + 1)
    (fun pre W => I pre W ∧ W.heap[w.heap.size + 1]? = some (.loop (rec .ready none)) ∧ W.heap[w.heap.size]? = some (.deferred (some [])))
    (fun pre W => ∃ c, Ix c pre W ∧ W.heap[w.heap.size + 1]? = some (.loop (rec .done (some c))) ∧ W.heap[w.heap.size]? = some (.deferred (some [])))
    W1 hb1
    (fun s A B row hs hg' hr => ⟨hI s A B row hs.1 hg' (fun r e => .inl (hr r e)), far hs.2.1 hg' hr (by omega), far hs.2.2 hg' hr (by omega)⟩)
    (fun s A B row ⟨c, hc, hl, hk⟩ hg' hr => ⟨c, hIx c s A B row hc hg' (fun r e => .inl (hr r e)), far hl hg' hr (by omega), far hk hg' hr (by omega)⟩)
    ?_ ⟨hI1, hL1, hK1⟩).mono ?_
  · rintro pre x W ⟨hi, hl, hk⟩ hG
    have hlt : w.heap.size + 1 < W.heap.size := (Array.getElem?_eq_some_iff.1 hl).1
    have hy := run_yield (P := P) (args := #[enc x]) hl (by rw [hrec]; rfl)
    rw [hrec] at hy
    have ez : ((#[p0].zip #[enc x]).foldl (fun tmps (t, a) => tmps.setIfInBounds t a) a.tmps) = a.tmps.setIfInBounds p0 (enc x) := by simp
    simp only [ez] at hy
    refine ⟨fn, _, assign, body, hy, roundIn_of_wpIn hfn (hassign _ pre x W _ hi hG fun a' Wa hka hpa hax => ?_)⟩
    have hla := hka.same _ _ hl rfl
    have hkk := hka.same _ _ hk rfl
    have hlta : w.heap.size + 1 < Wa.heap.size := (Array.getElem?_eq_some_iff.1 hla).1
    refine ⟨_, run_beginRound hla (by rw [hrec]), ?_⟩
    have hl2 : (Wa.putObj (w.heap.size + 1) (.loop { rec .ready none with state := .busy })).heap[w.heap.size + 1]? = some (.loop { rec .ready none with state := .busy }) := World.putObj_heap_same hlta
    have hk2 : (Wa.putObj (w.heap.size + 1) (.loop { rec .ready none with state := .busy })).heap[w.heap.size]? = some (.deferred (some [])) := (World.putObj_heap_other (by omega)).trans hkk
    have hw2 : Kp W (Wa.putObj (w.heap.size + 1) (.loop { rec .ready none with state := .busy })) := hKt hpa (hKb _ _ _ _ (by omega) hla rfl)
    refine wpIn_mono (hbody _ pre x a' _ (hAx _ _ _ _ _ _ _ hax (by omega) hla rfl) hG) ?_
    have fin : ∀ (jump : Option Code) (W3 : World), KeepsOthers (Wa.putObj (w.heap.size + 1) (.loop { rec .ready none with state := .busy })) W3 →
        (Instr.endRound (w.heap.size + 1) jump).run P W3 = .ok (.bool jump.isNone) (W3.putObj (w.heap.size + 1) (.loop (rec (if jump.isNone then .ready else .done) jump))) ∧
        W3.heap[w.heap.size + 1]? = some (.loop { rec .ready none with state := .busy }) ∧
        (W3.putObj (w.heap.size + 1) (.loop (rec (if jump.isNone then .ready else .done) jump))).heap[w.heap.size + 1]? = some (.loop (rec (if jump.isNone then .ready else .done) jump)) ∧
        (W3.putObj (w.heap.size + 1) (.loop (rec (if jump.isNone then .ready else .done) jump))).heap[w.heap.size]? = some (.deferred (some [])) := fun jump W3 hk3 => by
      have hl3 := hk3.same _ _ hl2 rfl
      have := run_endRound (P := P) jump hl3
      rw [hrec] at this ⊢
      exact ⟨this, by rw [hrec] at hl3; exact hl3, World.putObj_heap_same (Array.getElem?_eq_some_iff.1 hl3).1, (World.putObj_heap_other (by omega)).trans (hk3.same _ _ hk2 rfl)⟩
    rintro e a3 W3 hp
    cases e with
    | normal =>
      obtain ⟨hk3, hkp3, hi3⟩ := hp
      obtain ⟨hr, hl3, hl4, hk4⟩ := fin none W3 hk3
      exact ⟨_, _, hr, .inl ⟨rfl, ⟨hI.put _ hi3 hl3 rfl (by omega), hl4, hk4⟩, hKt (hKt hw2 hkp3) (hKb _ _ _ _ (by omega) hl3 rfl)⟩⟩
    | ret =>
      obtain ⟨hk3, hi3⟩ := hp
      obtain ⟨hr, hl3, hl4, hk4⟩ := fin (some .ret) W3 hk3
      exact ⟨_, _, hr, .inr ⟨rfl, .ret, (hIx _).put _ hi3 hl3 rfl (by omega), hl4, hk4⟩⟩
    | exit id =>
      obtain ⟨hk3, hi3⟩ := hp
      obtain ⟨hr, hl3, hl4, hk4⟩ := fin (some (.exit id)) W3 hk3
      exact ⟨_, _, hr, .inr ⟨rfl, .exit id, (hIx _).put _ hi3 hl3 rfl (by omega), hl4, hk4⟩⟩
    | goto t =>
      obtain ⟨hk3, hi3⟩ := hp
      obtain ⟨hr, hl3, hl4, hk4⟩ := fin (some (.goto t)) W3 hk3
      exact ⟨_, _, hr, .inr ⟨rfl, .goto t, (hIx _).put _ hi3 hl3 rfl (by omega), hl4, hk4⟩⟩
    | panic ch => exact hp.elim
    | outgrown => exact hp.elim
  · rintro e W2 ⟨⟨v, rfl⟩, (⟨xs, hS, hi, hl, hk⟩ | ⟨pre, hSp, c, hi, hl, hk⟩)⟩
    · exact ⟨none, _, by have := run_endLoop (P := P) hl (by rw [hrec]; simp); rw [hrec] at this; exact this, hdone _ xs _ hS (hI.put _ hi hl rfl (by omega)) (Nat.le_refl _) ((World.putObj_heap_other (by omega)).trans hk)⟩
    · exact ⟨some c, _, by have := run_endLoop (P := P) hl (by rw [hrec]; simp); rw [hrec] at this; exact this, hstop _ c pre _ hSp ((hIx c).put _ hi hl rfl (by omega)) (Nat.le_refl _) ((World.putObj_heap_other (by omega)).trans hk)⟩
end Go.Proofs.YthknlifmkjdoeaaGreatDoor
