/-
  THE PROGRAM'S alike, common.
-/
import Derived.Test.YthknlifmkjdoeaaGreatDoorLexG
import Derived.Test.YthknlifmkjdoeaaGreatDoorDiffP
import Derived.Test.YthknlifmkjdoeaaGreatDoorRefJ
namespace Go.Proofs.YthknlifmkjdoeaaGreatDoor
open Go.RowKit Lode Go.Shelf
attribute [local go_sem ↓] Go.wp_at_zero Go.wp_at_succ
theorem isNaN_any (j : Nat) (w : World) : Calls Tryz.prog 109 #[.int .u8 j] w fun e w' => e = .returned (.bool false) ∧ w = w' := by
  go_enter Tryz.func109, Tryz.ntmps109
  go_wp2_with fail
  go_ret
  exact ⟨rfl, rfl⟩
set_option maxRecDepth 100000 in
theorem compare_any (j k : Nat) (w : World) :
    Calls Tryz.prog 97 #[.int .u8 j, .int .u8 k] w fun e w' => (∃ c : Int, e = .returned (.int .i64 c) ∧ (c = 0 ↔ j = k)) ∧ w = w' := by
  by_cases h1 : (j : Int) < k
  · go_enter Tryz.func97, Tryz.ntmps97
    go_wp2_with (go_at_call 109; refine (isNaN_any _ _).mono ?_; rintro e w' ⟨rfl, rfl⟩)
    go_ret
    exact ⟨⟨-1, rfl, by omega⟩, rfl⟩
  · by_cases h2 : (k : Int) < j
    · go_enter Tryz.func97, Tryz.ntmps97
      go_wp2_with (go_at_call 109; refine (isNaN_any _ _).mono ?_; rintro e w' ⟨rfl, rfl⟩)
      go_ret
      exact ⟨⟨1, rfl, by omega⟩, rfl⟩
    · go_enter Tryz.func97, Tryz.ntmps97
      go_wp2_with (go_at_call 109; refine (isNaN_any _ _).mono ?_; rintro e w' ⟨rfl, rfl⟩)
      go_ret
      exact ⟨⟨0, rfl, by omega⟩, rfl⟩
theorem compare_is (j k : Nat) (w : World) :
    Calls Tryz.prog 97 #[.int .u8 j, .int .u8 k] w fun e w' => (∃ c : Int, e = .returned (.int .i64 c) ∧ (c == 0) = decide (j = k)) ∧ w = w' :=
  (compare_any j k w).mono fun e w' ⟨⟨c, h1, h2⟩, h3⟩ => ⟨⟨c, h1, by rw [Bool.eq_iff_iff]; simp [h2]⟩, h3⟩
theorem alike_any (k1 k2 : Nat) (t1 t2 : List UInt8) (a1 a2 : Int) (w : World) :
    Calls Tryz.prog 63 #[.agg #[.int .u8 k1, .string ⟨t1.toArray⟩, .int .i64 a1], .agg #[.int .u8 k2, .string ⟨t2.toArray⟩, .int .i64 a2]] w fun e w' => e = .returned (.bool (decide (k1 = k2) && decide (t1 = t2))) ∧ Below w.heap.size w w' := by
  have HC := hid (fun w => compare_is k1 k2 w)
  by_cases h1 : k1 = k2
  · subst h1
    rw [decide_eq_true rfl] at HC
    by_cases h2 : t1 = t2
    · subst h2
      go_enter Tryz.func63, Tryz.ntmps63
      go_wp2_with (go_at_call 97; refine (HC.out _).mono ?_; rintro e w' ⟨⟨c, rfl, hc⟩, rfl⟩)
      go_ret
      exact ⟨by simp, bl_alloc (below_alloc _ _) _⟩
    · go_enter Tryz.func63, Tryz.ntmps63
      go_wp2_with (go_at_call 97; refine (HC.out _).mono ?_; rintro e w' ⟨⟨c, rfl, hc⟩, rfl⟩)
      go_ret
      exact ⟨by simp [h2], bl_alloc (below_alloc _ _) _⟩
  · rw [decide_eq_false h1] at HC
    go_enter Tryz.func63, Tryz.ntmps63
    go_wp2_with (go_at_call 97; refine (HC.out _).mono ?_; rintro e w' ⟨⟨c, rfl, hc⟩, rfl⟩)
    go_ret
    exact ⟨by simp [h1], bl_alloc (below_alloc _ _) _⟩
/-- tokens as cells from a place on -/
def OCells (w : World) (g off : Nat) (l : List Tok) : Prop := ∀ (j : Nat) (h : j < l.length), w.cell? ⟨g, off + j * 3, none⟩ = some (.int .u8 l[j].kind) ∧ w.cell? ⟨g, off + j * 3 + 1, none⟩ = some (.string ⟨l[j].text.toArray⟩) ∧ w.cell? ⟨g, off + j * 3 + 2, none⟩ = some (.int .i64 l[j].at_)
def OSl (w : World) (v : Value) (l : List Tok) : Prop := ∃ (p : Option Addr) (cap : Nat), v = .slice p l.length cap ∧ (l = [] ∨ ∃ g off, p = some ⟨g, off, none⟩ ∧ OCells w g off l)
theorem TSl.o {w : World} {v : Value} {l : List Tok} (h : TSl w v l) : OSl w v l := by
  obtain ⟨p, cap, hv, h⟩ := h
  refine ⟨p, cap, hv, h.imp id fun ⟨g, hp, hc⟩ => ⟨g, 0, hp, fun j hj => ?_⟩⟩
  have := hc j hj
  simpa using this
set_option maxHeartbeats 1000000 in
set_option maxRecDepth 100000 in
theorem common_any (v1 v2 : Value) (l m : List Tok) (w : World) (h1 : OSl w v1 l) (h2 : OSl w v2 m) (hl : l.length ≤ 1000000) (_hm : m.length ≤ 1000000) :
    Calls Tryz.prog 62 #[v1, v2, .func (.func 63) #[] #[]] w fun e w' => e = .returned (.int .i64 (commonL l m)) ∧ Below w.heap.size w w' := by
  obtain ⟨p1, c1, rfl, h1⟩ := h1
  obtain ⟨p2, c2, rfl, h2⟩ := h2
  have H1 := hid h1
  have H2 := hid h2
  clear h1 h2
  generalize hr : commonL l m = r
  have Hr := hid hr; clear hr
  generalize hn : l.length = n at *
  have Hn := hid hn; clear hn
  generalize hnm : m.length = nm at *
  have Hm := hid hnm; clear hnm
  go_enter Tryz.func62, Tryz.ntmps62
  go_wp2_with fail
  go_loopw [7] (fun i wr => ∃ k : Nat, i = .int .i64 k ∧ Below w.heap.size w wr ∧ CInv l m k) (fun i _ => n - (intOf i).toNat)
  case atStart => exact ⟨0, rfl, Below.refl _ _, CInv.start l m⟩
  case round =>
    obtain ⟨k, rfl, hb, hinv⟩ := hrel
    have hkn := hinv.lx
    rw [Hn.out] at hkn
    have hkm := hinv.ly
    rw [Hm.out] at hkm
    by_cases hlt : k < n
    · by_cases hlt2 : k < nm
      · have hl0 : l ≠ [] := fun e => by have := Hn.out; rw [e] at this; simp at this; omega
        have hm0 : m ≠ [] := fun e => by have := Hm.out; rw [e] at this; simp at this; omega
        have hkl : k < l.length := by rw [Hn.out]; exact hlt
        have hkm : k < m.length := by rw [Hm.out]; exact hlt2
        obtain ⟨g1, o1, rfl, q1⟩ := H1.out.resolve_left hl0
        obtain ⟨g2, o2, rfl, q2⟩ := H2.out.resolve_left hm0
        obtain ⟨c0, c1, c2⟩ := q1 k hkl
        obtain ⟨d0, d1, d2⟩ := q2 k hkm
        have Hnx := hid (fun h => hinv.next hkl hkm h)
        have Hst := hid (fun h => hinv.stop hkl hkm h)
        generalize l[k] = x at *
        generalize m[k] = y at *
        obtain ⟨j1, t1, a1⟩ := x
        obtain ⟨j2, t2, a2⟩ := y
        have c0 := cell_later hb c0
        have c1 := cell_later hb c1
        have c2 := cell_later hb c2
        have d0 := cell_later hb d0
        have d1 := cell_later hb d1
        have d2 := cell_later hb d2
        simp only at c0 c1 c2 d0 d1 d2
        have HA := hid (fun w => alike_any j1 j2 t1 t2 a1 a2 w)
        have hltm : (k : Int) < min (n : Int) (nm : Int) := by omega
        clear hinv hl0 hm0
        obtain ⟨bb, hbb⟩ : ∃ bb, (decide (j1 = j2) && decide (t1 = t2)) = bb := ⟨_, rfl⟩
        rw [hbb] at HA
        have Hbb := hid (show alikeT ⟨j1, t1, a1⟩ ⟨j2, t2, a2⟩ = bb from hbb)
        clear hbb
        go_wp2_with fail
        refine wp_calm ?_
        go_region_held3 (fun w' => w'.cell? ⟨g1, o1 + k * 3, none⟩ = some (.int .u8 j1) ∧ w'.cell? ⟨g1, o1 + k * 3 + 1, none⟩ = some (.string ⟨t1.toArray⟩) ∧ w'.cell? ⟨g1, o1 + k * 3 + 2, none⟩ = some (.int .i64 a1) ∧ w'.cell? ⟨g2, o2 + k * 3, none⟩ = some (.int .u8 j2) ∧ w'.cell? ⟨g2, o2 + k * 3 + 1, none⟩ = some (.string ⟨t2.toArray⟩) ∧ w'.cell? ⟨g2, o2 + k * 3 + 2, none⟩ = some (.int .i64 a2))
          (first | (go_keep; done) | (go_split_ands; refine ⟨?_, ?_, ?_, ?_, ?_, ?_⟩ <;> exact cell_later hb4 (by assumption)))
          (first | (go_at_call 63; refine (HA.out _).mono ?_; rintro e w4 ⟨rfl, hb4⟩))
        have hb5 := hid (below_then hb.drew hb4)
        clear hb4 c0 c1 c2 d0 d1 d2
        cases bb with
        | true =>
          go_wp2_with fail
          go_roundw
          case rel => exact ⟨k + 1, by go_num, hb5.out, Hnx.out Hbb.out⟩
          case measure => simp [intOf]; omega
        | false =>
          go_wp2_with fail
          go_ret
          exact ⟨by rw [← Hr.out, Hst.out Hbb.out]; rfl, hb5.out⟩
      · have hmin : min (n : Int) (nm : Int) = nm := by omega
        have hnl : ¬ (k : Int) < (nm : Int) := by omega
        have Ho := hid (hinv.out (.inr (by rw [Hm.out]; omega)))
        go_wp2_with fail
        go_quiet (fail)
        go_wp2_with fail
        go_ret
        exact ⟨by rw [← Hr.out, Ho.out]; rfl, bl_drewN hb nq⟩
    · have hmin : min (n : Int) (nm : Int) = n := by omega
      have hnl : ¬ (k : Int) < (n : Int) := by omega
      have Ho := hid (hinv.out (.inl (by rw [Hn.out]; omega)))
      go_wp2_with fail
      go_quiet (fail)
      go_wp2_with fail
      go_ret
      exact ⟨by rw [← Hr.out, Ho.out]; rfl, bl_drewN hb nq⟩
end Go.Proofs.YthknlifmkjdoeaaGreatDoor
