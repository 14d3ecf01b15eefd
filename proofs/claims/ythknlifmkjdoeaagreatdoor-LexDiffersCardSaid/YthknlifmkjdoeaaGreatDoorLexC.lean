/-
  THE READER: skip.
-/
import Derived.Test.YthknlifmkjdoeaaGreatDoorLexB
import Derived.Test.YthknlifmkjdoeaaGreatDoorShelf
import Derived.Test.YthknlifmkjdoeaaGreatDoorRefG
import Derived.Test.YthknlifmkjdoeaaGreatDoorBase3
import Derived.Deep.RegionHeld3
import Derived.Deep.DrawnRows
import Derived.Deep.AppendLies
import Derived.Maps.Range
import Derived.WalkMore
import Derived.Deep.LoopGhost
namespace Go.Proofs.YthknlifmkjdoeaaGreatDoor
open Go.RowKit Lode Go.Shelf
attribute [local go_sem ↓] Go.wp_at_zero Go.wp_at_succ
/-- the reader at block R -/
def RdrAt (w : World) (R : Nat) (s : ByteArray) (a : Nat) (wv sv : Value) : Prop := w.heap[R]? = some (.cells #[.string s, .int .i64 a, wv, sv] 116 (0, 0))
theorem gap_line : ∀ (m : List UInt8), (Lib.indexByte m 10 = -1 ∧ gapLen true m = m.length) ∨ ∃ n : Nat, Lib.indexByte m 10 = n ∧ n < m.length ∧ gapLen true m = n + gapLen false (m.drop n)
  | [] => .inl ⟨rfl, rfl⟩
  | c :: m => by
    by_cases hc : c = 10
    · subst hc
      exact .inr ⟨0, by simp [Lib.indexByte], by simp, by simp [gapLen]⟩
    · have hc' : (c == 10) = false := by simpa using hc
      have hg : gapLen true (c :: m) = gapLen true m + 1 := by simp only [gapLen, if_neg hc]; by_cases h : c = 35 <;> simp [h]
      rcases gap_line m with ⟨h1, h2⟩ | ⟨n, h1, h2, h3⟩
      · refine .inl ⟨by simp [Lib.indexByte, hc', h1], by rw [hg, h2]; simp⟩
      · refine .inr ⟨n + 1, ?_, by simp; omega, by rw [hg, h3]; simp; omega⟩
        have : ¬ ((n : Int) = -1) := by omega
        simp [Lib.indexByte, hc', h1, this]
theorem gap_hash2 (c : UInt8) (r : List UInt8) : (Lib.indexByte (c :: r) 10 = -1 ∧ (c = 35 → gapLen false (c :: r) = r.length + 1)) ∨ ∃ n : Nat, Lib.indexByte (c :: r) 10 = n ∧ n < r.length + 1 ∧ (c = 35 → 0 < n ∧ gapLen false (c :: r) = n + gapLen false ((c :: r).drop n)) := by
  by_cases hc : c = 35
  · subst hc
    have hg : gapLen false (35 :: r) = gapLen true r + 1 := by simp [gapLen]
    rcases gap_line r with ⟨h1, h2⟩ | ⟨n, h1, h2, h3⟩
    · exact .inl ⟨by simp [Lib.indexByte, h1], fun _ => by rw [hg, h2]⟩
    · refine .inr ⟨n + 1, ?_, by omega, fun _ => ⟨by omega, by rw [hg, h3]; simp; omega⟩⟩
      have : ¬ ((n : Int) = -1) := by omega
      simp [Lib.indexByte, h1, this]
  · rcases gap_line (c :: r) with ⟨h1, _⟩ | ⟨n, h1, h2, _⟩
    · exact .inl ⟨h1, fun h => absurd h hc⟩
    · exact .inr ⟨n, h1, by simpa using h2, fun h => absurd h hc⟩
theorem set_heap {w : World} {R : Nat} {cs : Array Value} {T : TypeId} {fr : Nat × Nat} (h : w.heap[R]? = some (.cells cs T fr)) (i : Nat) (v : Value) : (w.setCell ⟨R, i, none⟩ v).heap[R]? = some (.cells (cs.setIfInBounds i v) T fr) := by
  simp [World.setCell, Array.getElem?_modify, h]
theorem grown_set (w : World) (R i : Nat) (v : Value) : w.grownBy (w.setCell ⟨R, i, none⟩ v) (some R) :=
  ⟨rfl, rfl, rfl, by simp [World.setCell], fun k _ hne => by
    have : R ≠ k := fun e => hne (by rw [e])
    simp [World.setCell, Array.getElem?_modify, this]⟩
theorem grown_drewN (w : World) (n : Nat) (r : Option Nat) : w.grownBy (w.drewN n) r := ⟨rfl, rfl, rfl, Nat.le_refl _, fun _ _ _ => rfl⟩
theorem grown_like {w w1 w2 : World} {r : Option Nat} (h : w.grownBy w1 r) (e : w2.heap = w1.heap) (e1 : w2.os = w1.os) (e2 : w2.tape = w1.tape) (e3 : w2.output = w1.output) : w.grownBy w2 r :=
  ⟨e1.trans h.os, e2.trans h.tape, e3.trans h.output, by rw [e]; exact h.size, by rw [e]; exact h.block⟩
theorem RdrAt.like {w1 w2 : World} {R : Nat} {s : ByteArray} {a : Nat} {wv sv : Value} (h : RdrAt w1 R s a wv sv) (e : w2.heap = w1.heap) : RdrAt w2 R s a wv sv := by unfold RdrAt at *; rw [e]; exact h
theorem RdrAt.set {w : World} {R : Nat} {s : ByteArray} {a : Nat} {wv sv : Value} (h : RdrAt w R s a wv sv) (k : Int) (k' : Nat) (hk : k = k') : RdrAt (w.setCell ⟨R, 1, none⟩ (.int .i64 k)) R s k' wv sv := by
  subst hk; exact set_heap h 1 _
def SkRel (w : World) (R : Nat) (s : ByteArray) (g : Nat) (wv sv : Value) (m : Nat) (wr : World) : Prop :=
  ∃ k, k ≤ s.size ∧ RdrAt wr R s k wv sv ∧ w.grownBy wr (some R) ∧ g = k + gapLen false (s.data.toList.drop k) ∧ m = s.size - k
def rdrPos (R : Nat) (w : World) : Nat := match w.cell? ⟨R, 1, none⟩ with | some (.int _ i) => i.toNat | _ => 0
theorem RdrAt.pos {w : World} {R : Nat} {s : ByteArray} {a : Nat} {wv sv : Value} (h : RdrAt w R s a wv sv) : rdrPos R w = a := by
  simp [rdrPos, World.cell?, show w.heap[R]? = _ from h]
set_option maxRecDepth 100000 in
theorem skip_any (R : Nat) (s : ByteArray) (a : Nat) (wv sv : Value) (w : World) (hs : s.size ≤ 1000000000000) (ha : a ≤ s.size) (hR : RdrAt w R s a wv sv) :
    Calls Tryz.prog 85 #[.pointer (some ⟨R, 0, none⟩)] w fun e w' => e = .returned (.tuple #[]) ∧ RdrAt w' R s (a + gapLen false (s.data.toList.drop a)) wv sv ∧ w.grownBy w' (some R) := by
  generalize hg : a + gapLen false (s.data.toList.drop a) = g
  have Hg := hid hg.symm; clear hg
  have HR := hid hR; clear hR
  go_enter Tryz.func85, Tryz.ntmps85
  go_wp2_with fail
  go_step3
  go_wp2_with fail
  try go_step3
  go_wp2_with fail
  go_loopg [] (s.size - a) (fun m wr => SkRel w R s g wv sv m wr)
  case atStart => exact ⟨a, ha, HR.out, World.grownBy.refl _ _, Hg.out, rfl⟩
  case round =>
    obtain ⟨k, hk, hr, hgr, hgk, rfl⟩ := hrel
    have hc0 : wr.cell? ⟨R, 0, none⟩ = some (.string s) := cell_heap hr 0
    have hc1 : wr.cell? ⟨R, 1, none⟩ = some (.int .i64 k) := cell_heap hr 1
    have hf1 : wr.frozen? ⟨R, 1, none⟩ = false := frozen_heap hr 1
    have hr := hid hr
    by_cases hlt : k < s.size
    · have hki : (k : Int) < (s.size : Int) := by omega
      have Hix := hid (fun w => Tryz.strings_IndexByte (s.extract k s.size) 10 w)
      have hxe : (s.extract k s.size).data.toList = s[k] :: s.data.toList.drop (k + 1) := by rw [← bdrop s k hlt]; simp [List.extract_eq_take_drop]; exact List.take_of_length_le (by simp)
      rw [hxe] at Hix
      have hg2 := gap_hash2 s[k] (s.data.toList.drop (k + 1))
      rw [bdrop s k hlt] at hgk
      have hgk := hid hgk
      clear hxe
      have hc35 : ∀ h : ((s[k].toNat : Int) == 35) = true, s[k] = 35 := fun h => by rw [beq_iff_eq] at h; exact UInt8.toNat_inj.1 (by simpa using (by omega : s[k].toNat = 35))
      have hc35 := hid hc35
      rcases hg2 with ⟨h1, h2⟩ | ⟨n, h1, h2, h3⟩
      · rw [show ((10 : Int).toNat.toUInt8) = 10 from rfl, h1] at Hix
        have h2 := hid h2
        clear h1
        go_wp2_with fail
        go_quiet (fail)
        go_wp2_with fail
        go_quiet (fail)
        go_wp2_with fail
        · go_roundg (s.size - (k + 1))
          case rel => exact ⟨k + 1, by omega, (hr.out.set _ (k + 1) (by omega)).like rfl, grown_like (hgr.trans (grown_set wr R 1 _)) rfl rfl rfl rfl, gap_blank hgk.out (by rename_i h _; rw [beq_iff_eq] at h; rw [h]; rfl) (by rename_i h _; rw [beq_iff_eq] at h; rw [h]; rfl) (by rename_i h _; rw [beq_iff_eq] at h; exact h), rfl⟩
          case measure => omega
        · go_roundg (s.size - (k + 1))
          case rel => exact ⟨k + 1, by omega, (hr.out.set _ (k + 1) (by omega)).like rfl, grown_like (hgr.trans (grown_set wr R 1 _)) rfl rfl rfl rfl, gap_nl hgk.out ‹_›, rfl⟩
          case measure => omega
        · go_quiet ((go_at_call 103; refine (Hix.out _).mono ?_; rintro e w' ⟨rfl, rfl⟩; exact ⟨rfl, _, rfl⟩))
          go_wp2_with fail
          go_roundg (s.size - s.size)
          case rel => exact ⟨s.size, Nat.le_refl _, (hr.out.set _ s.size rfl).like rfl, grown_like (hgr.trans (grown_set wr R 1 _)) rfl rfl rfl rfl, by
            rw [hgk.out, h2.out (hc35.out ‹_›), bdrop_end s _ (Nat.le_refl _)]; simp [gapLen]; omega, rfl⟩
          case measure => omega
        · rw [Exit.noGoto_normal]
          go_end0
          obtain rfl := gap_end hgk.out ‹_› ‹_› ⟨by have h := ‹((s[k].toNat : Int) == 32) = false›; rw [bne, h]; rfl, rfl⟩
          exact ⟨rfl, hr.out.like rfl, grown_like hgr rfl rfl rfl rfl⟩
      · rw [show ((10 : Int).toNat.toUInt8) = 10 from rfl, h1] at Hix
        have h2 : k + n < s.size := by simp at h2; omega
        have h3 := hid h3
        clear h1
        go_wp2_with fail
        go_quiet (fail)
        go_wp2_with fail
        go_quiet (fail)
        go_wp2_with fail
        · go_roundg (s.size - (k + 1))
          case rel => exact ⟨k + 1, by omega, (hr.out.set _ (k + 1) (by omega)).like rfl, grown_like (hgr.trans (grown_set wr R 1 _)) rfl rfl rfl rfl, gap_blank hgk.out (by rename_i h _; rw [beq_iff_eq] at h; rw [h]; rfl) (by rename_i h _; rw [beq_iff_eq] at h; rw [h]; rfl) (by rename_i h _; rw [beq_iff_eq] at h; exact h), rfl⟩
          case measure => omega
        · go_roundg (s.size - (k + 1))
          case rel => exact ⟨k + 1, by omega, (hr.out.set _ (k + 1) (by omega)).like rfl, grown_like (hgr.trans (grown_set wr R 1 _)) rfl rfl rfl rfl, gap_nl hgk.out ‹_›, rfl⟩
          case measure => omega
        · go_quiet ((go_at_call 103; refine (Hix.out _).mono ?_; rintro e w' ⟨rfl, rfl⟩; exact ⟨rfl, _, rfl⟩))
          go_wp2_with fail
          go_roundg (s.size - (k + n))
          case rel => exact ⟨k + n, by omega, (hr.out.set _ (k + n) (by omega)).like rfl, grown_like (hgr.trans (grown_set wr R 1 _)) rfl rfl rfl rfl, by
            rw [hgk.out, (h3.out (hc35.out ‹_›)).2, ← bdrop s k hlt, List.drop_drop]; omega, rfl⟩
          case measure => have := (h3.out (hc35.out ‹_›)).1; omega
        · rw [Exit.noGoto_normal]
          go_end0
          obtain rfl := gap_end hgk.out ‹_› ‹_› ⟨by have h := ‹((s[k].toNat : Int) == 32) = false›; rw [bne, h]; rfl, rfl⟩
          exact ⟨rfl, hr.out.like rfl, grown_like hgr rfl rfl rfl rfl⟩
    · obtain rfl : k = s.size := by omega
      have hge : ¬ ((s.size : Int) < (s.size : Int)) := by omega
      have hgk := hid hgk
      go_wp2_with fail
      go_quiet (fail)
      go_wp2_with fail
      rw [Exit.noGoto_normal]
      go_end0
      obtain rfl : g = s.size := by rw [hgk.out, bdrop_end s _ (Nat.le_refl _)]; rfl
      exact ⟨rfl, hr.out.like rfl, grown_like hgr rfl rfl rfl rfl⟩
end Go.Proofs.YthknlifmkjdoeaaGreatDoor
