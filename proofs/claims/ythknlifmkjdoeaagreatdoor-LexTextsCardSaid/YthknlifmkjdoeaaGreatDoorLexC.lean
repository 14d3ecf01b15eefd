/-
  THE READER: skip.
-/
import Derived.Deep.RegionHeld3
import Derived.Deep.DrawnRows
import Derived.Deep.AppendLies
import Derived.Maps.Range
import Derived.WalkMore
import Derived.Deep.LoopGhost
import Derived.Shelf.Strings.BuilderF
import Derived.Test.YthknlifmkjdoeaaGreatDoorLexA
import Derived.Test.YthknlifmkjdoeaaGreatDoorShelf
import Derived.Test.YthknlifmkjdoeaaGreatDoorRefG
import Derived.Test.YthknlifmkjdoeaaGreatDoorBase
import Derived.Test.YthknlifmkjdoeaaGreatDoorBldr
namespace Go.Proofs.YthknlifmkjdoeaaGreatDoor
open Go.RowKit Lode Go.Shelf
attribute [local go_sem ↓] Go.wp_at_zero Go.wp_at_succ
/-- the reader at block R -/
def RdrAt (w : World) (R : Nat) (s : ByteArray) (a : Nat) (wv sv : Value) : Prop := w.heap[R]? = some (.cells #[.string s, .int .i64 a, wv, sv] 116 (0, 0))
theorem gap_line : ∀ (m : List UInt8), (Lib.indexByte m 10 = -1 ∧ gapLen true m = m.length) ∨ ∃ n : Nat, Lib.indexByte m 10 = n ∧ n < m.length ∧ gapLen true m = n + gapLen false (m.drop n)
  | [] => .inl ⟨rfl, rfl⟩
  | c :: m => by
    by_cases hc : c = 10
    · subst hc
      exact .inr ⟨0, by simp [Lib.indexByte], by simp, by simp [gapLen]⟩
    · have hc' : (c == 10) = false := by simpa using hc
      have hg : gapLen true (c :: m) = gapLen true m + 1 := by simp only [gapLen, if_neg hc]; by_cases h : c = 35 <;> simp [h]
      rcases gap_line m with ⟨h1, h2⟩ | ⟨n, h1, h2, h3⟩
      · refine .inl ⟨by simp [Lib.indexByte, hc', h1], by rw [hg, h2]; simp⟩
      · refine .inr ⟨n + 1, ?_, by simp; omega, by rw [hg, h3]; simp; omega⟩
        have : ¬ ((n : Int) = -1) := by omega
        simp [Lib.indexByte, hc', h1, this]
theorem gap_hash2 (c : UInt8) (r : List UInt8) : (Lib.indexByte (c :: r) 10 = -1 ∧ (c = 35 → gapLen false (c :: r) = r.length + 1)) ∨ ∃ n : Nat, Lib.indexByte (c :: r) 10 = n ∧ n < r.length + 1 ∧ (c = 35 → 0 < n ∧ gapLen false (c :: r) = n + gapLen false ((c :: r).drop n)) := by
  by_cases hc : c = 35
  · subst hc
    have hg : gapLen false (35 :: r) = gapLen true r + 1 := by simp [gapLen]
    rcases gap_line r with ⟨h1, h2⟩ | ⟨n, h1, h2, h3⟩
    · exact .inl ⟨by simp [Lib.indexByte, h1], fun _ => by rw [hg, h2]⟩
    · refine .inr ⟨n + 1, ?_, by omega, fun _ => ⟨by omega, by rw [hg, h3]; simp; omega⟩⟩
      have : ¬ ((n : Int) = -1) := by omega
      simp [Lib.indexByte, h1, this]
  · rcases gap_line (c :: r) with ⟨h1, _⟩ | ⟨n, h1, h2, _⟩
    · exact .inl ⟨h1, fun h => absurd h hc⟩
    · exact .inr ⟨n, h1, by simpa using h2, fun h => absurd h hc⟩
theorem set_heap {w : World} {R : Nat} {cs : Array Value} {T : TypeId} {fr : Nat × Nat} (h : w.heap[R]? = some (.cells cs T fr)) (i : Nat) (v : Value) : (w.setCell ⟨R, i, none⟩ v).heap[R]? = some (.cells (cs.setIfInBounds i v) T fr) := by
  simp [World.setCell, Array.getElem?_modify, h]
theorem grown_set (w : World) (R i : Nat) (v : Value) : w.grownBy (w.setCell ⟨R, i, none⟩ v) (some R) :=
  ⟨rfl, rfl, rfl, by simp [World.setCell], fun k _ hne => by
    have : R ≠ k := fun e => hne (by rw [e])
    simp [World.setCell, Array.getElem?_modify, this]⟩
theorem grown_drewN (w : World) (n : Nat) (r : Option Nat) : w.grownBy (w.drewN n) r := ⟨rfl, rfl, rfl, Nat.le_refl _, fun _ _ _ => rfl⟩
theorem grown_like {w w1 w2 : World} {r : Option Nat} (h : w.grownBy w1 r) (e : w2.heap = w1.heap) (e1 : w2.os = w1.os) (e2 : w2.tape = w1.tape) (e3 : w2.output = w1.output) : w.grownBy w2 r :=
  ⟨e1.trans h.os, e2.trans h.tape, e3.trans h.output, by rw [e]; exact h.size, by rw [e]; exact h.block⟩
theorem RdrAt.like {w1 w2 : World} {R : Nat} {s : ByteArray} {a : Nat} {wv sv : Value} (h : RdrAt w1 R s a wv sv) (e : w2.heap = w1.heap) : RdrAt w2 R s a wv sv := by unfold RdrAt at *; rw [e]; exact h
theorem RdrAt.set {w : World} {R : Nat} {s : ByteArray} {a : Nat} {wv sv : Value} (h : RdrAt w R s a wv sv) (k : Int) (k' : Nat) (hk : k = k') : RdrAt (w.setCell ⟨R, 1, none⟩ (.int .i64 k)) R s k' wv sv := by
  subst hk; exact set_heap h 1 _
def SkRel (w : World) (R : Nat) (s : ByteArray) (g : Nat) (wv sv : Value) (m : Nat) (wr : World) : Prop :=
  ∃ k, k ≤ s.size ∧ RdrAt wr R s k wv sv ∧ w.grownBy wr (some R) ∧ g = k + gapLen false (s.data.toList.drop k) ∧ m = s.size - k
def rdrPos (R : Nat) (w : World) : Nat := match w.cell? ⟨R, 1, none⟩ with | some (.int _ i) => i.toNat | _ => 0
theorem RdrAt.pos {w : World} {R : Nat} {s : ByteArray} {a : Nat} {wv sv : Value} (h : RdrAt w R s a wv sv) : rdrPos R w = a := by
  simp [rdrPos, World.cell?, show w.heap[R]? = _ from h]
set_option maxRecDepth 100000 in
theorem skip_any (R : Nat) (s : ByteArray) (a : Nat) (wv sv : Value) (w : World) (hs : s.size ≤ 1000000000000) (ha : a ≤ s.size) (hR : RdrAt w R s a wv sv) :
    Calls Tryz.prog 85 #[.pointer (some ⟨R, 0, none⟩)] w fun e w' => e = .returned (.tuple #[]) ∧ RdrAt w' R s (a + gapLen false (s.data.toList.drop a)) wv sv ∧ w.grownBy w' (some R) := by
  generalize hg : a + gapLen false (s.data.toList.drop a) = g
  have Hg := hid hg.symm; clear hg
  have HR := hid hR; clear hR
  go_enter Tryz.func85, Tryz.ntmps85
  go_wp2_with fail
  go_step3
  go_wp2_with fail
  try go_step3
  go_wp2_with fail
  go_loopg [] (s.size - a) (fun m wr => SkRel w R s g wv sv m wr)
  case atStart => exact ⟨a, ha, HR.out, World.grownBy.refl _ _, Hg.out, rfl⟩
  case round =>
    obtain ⟨k, hk, hr, hgr, hgk, rfl⟩ := hrel
    have hc0 : wr.cell? ⟨R, 0, none⟩ = some (.string s) := cell_heap hr 0
    have hc1 : wr.cell? ⟨R, 1, none⟩ = some (.int .i64 k) := cell_heap hr 1
    have hf1 : wr.frozen? ⟨R, 1, none⟩ = false := frozen_heap hr 1
    have hr := hid hr
    by_cases hlt : k < s.size
    · have hki : (k : Int) < (s.size : Int) := by omega
      have Hix := hid (fun w => Tryz.strings_IndexByte (s.extract k s.size) 10 w)
      have hxe : (s.extract k s.size).data.toList = s[k] :: s.data.toList.drop (k + 1) := by rw [← bdrop s k hlt]; simp [List.extract_eq_take_drop]; exact List.take_of_length_le (by simp)
      rw [hxe] at Hix
      have hg2 := gap_hash2 s[k] (s.data.toList.drop (k + 1))
      rw [bdrop s k hlt] at hgk
      have hgk := hid hgk
      clear hxe
      have hc35 : ∀ h : ((s[k].toNat : Int) == 35) = true, s[k] = 35 := fun h => by rw [beq_iff_eq] at h; exact UInt8.toNat_inj.1 (by simpa using (by omega : s[k].toNat = 35))
      have hc35 := hid hc35
      rcases hg2 with ⟨h1, h2⟩ | ⟨n, h1, h2, h3⟩
      · rw [show ((10 : Int).toNat.toUInt8) = 10 from rfl, h1] at Hix
        have h2 := hid h2
        clear h1
        go_wp2_with fail
        go_quiet (fail)
        go_wp2_with fail
        go_quiet (fail)
        go_wp2_with fail
        · go_roundg (s.size - (k + 1))
          case rel => exact ⟨k + 1, by omega, (hr.out.set _ (k + 1) (by omega)).like rfl, grown_like (hgr.trans (grown_set wr R 1 _)) rfl rfl rfl rfl, gap_blank hgk.out (by rename_i h _; rw [beq_iff_eq] at h; rw [h]; rfl) (by rename_i h _; rw [beq_iff_eq] at h; rw [h]; rfl) (by rename_i h _; rw [beq_iff_eq] at h; exact h), rfl⟩
          case measure => omega
        · go_roundg (s.size - (k + 1))
          case rel => exact ⟨k + 1, by omega, (hr.out.set _ (k + 1) (by omega)).like rfl, grown_like (hgr.trans (grown_set wr R 1 _)) rfl rfl rfl rfl, gap_nl hgk.out ‹_›, rfl⟩
          case measure => omega
        · go_quiet ((go_at_call 103; refine (Hix.out _).mono ?_; rintro e w' ⟨rfl, rfl⟩; exact ⟨rfl, _, rfl⟩))
          go_wp2_with fail
          go_roundg (s.size - s.size)
          case rel => exact ⟨s.size, Nat.le_refl _, (hr.out.set _ s.size rfl).like rfl, grown_like (hgr.trans (grown_set wr R 1 _)) rfl rfl rfl rfl, by
            rw [hgk.out, h2.out (hc35.out ‹_›), bdrop_end s _ (Nat.le_refl _)]; simp [gapLen]; omega, rfl⟩
          case measure => omega
        · rw [Exit.noGoto_normal]
          go_end0
          obtain rfl := gap_end hgk.out ‹_› ‹_› ⟨by have h := ‹((s[k].toNat : Int) == 32) = false›; rw [bne, h]; rfl, rfl⟩
          exact ⟨rfl, hr.out.like rfl, grown_like hgr rfl rfl rfl rfl⟩
      · rw [show ((10 : Int).toNat.toUInt8) = 10 from rfl, h1] at Hix
        have h2 : k + n < s.size := by simp at h2; omega
        have h3 := hid h3
        clear h1
        go_wp2_with fail
        go_quiet (fail)
        go_wp2_with fail
        go_quiet (fail)
        go_wp2_with fail
        · go_roundg (s.size - (k + 1))
          case rel => exact ⟨k + 1, by omega, (hr.out.set _ (k + 1) (by omega)).like rfl, grown_like (hgr.trans (grown_set wr R 1 _)) rfl rfl rfl rfl, gap_blank hgk.out (by rename_i h _; rw [beq_iff_eq] at h; rw [h]; rfl) (by rename_i h _; rw [beq_iff_eq] at h; rw [h]; rfl) (by rename_i h _; rw [beq_iff_eq] at h; exact h), rfl⟩
          case measure => omega
        · go_roundg (s.size - (k + 1))
          case rel => exact ⟨k + 1, by omega, (hr.out.set _ (k + 1) (by omega)).like rfl, grown_like (hgr.trans (grown_set wr R 1 _)) rfl rfl rfl rfl, gap_nl hgk.out ‹_›, rfl⟩
          case measure => omega
        · go_quiet ((go_at_call 103; refine (Hix.out _).mono ?_; rintro e w' ⟨rfl, rfl⟩; exact ⟨rfl, _, rfl⟩))
          go_wp2_with fail
          go_roundg (s.size - (k + n))
          case rel => exact ⟨k + n, by omega, (hr.out.set _ (k + n) (by omega)).like rfl, grown_like (hgr.trans (grown_set wr R 1 _)) rfl rfl rfl rfl, by
            rw [hgk.out, (h3.out (hc35.out ‹_›)).2, ← bdrop s k hlt, List.drop_drop]; omega, rfl⟩
          case measure => have := (h3.out (hc35.out ‹_›)).1; omega
        · rw [Exit.noGoto_normal]
          go_end0
          obtain rfl := gap_end hgk.out ‹_› ‹_› ⟨by have h := ‹((s[k].toNat : Int) == 32) = false›; rw [bne, h]; rfl, rfl⟩
          exact ⟨rfl, hr.out.like rfl, grown_like hgr rfl rfl rfl rfl⟩
    · obtain rfl : k = s.size := by omega
      have hge : ¬ ((s.size : Int) < (s.size : Int)) := by omega
      have hgk := hid hgk
      go_wp2_with fail
      go_quiet (fail)
      go_wp2_with fail
      rw [Exit.noGoto_normal]
      go_end0
      obtain rfl : g = s.size := by rw [hgk.out, bdrop_end s _ (Nat.le_refl _)]; rfl
      exact ⟨rfl, hr.out.like rfl, grown_like hgr rfl rfl rfl rfl⟩
end Go.Proofs.YthknlifmkjdoeaaGreatDoor

/-
  lex.quoted.
-/
namespace Go.Proofs.YthknlifmkjdoeaaGreatDoor
open Go.RowKit Lode Go.Shelf
attribute [local go_sem ↓] Go.wp_at_zero Go.wp_at_succ
/-- the reader stands at j, ob has been read -/
def QJ (s : ByteArray) (j : Nat) (ob : ByteArray) (q : Option (List UInt8 × Nat)) : Prop := ∃ k, j = 0 + 1 + k ∧ QInv s 0 k ob q ∧ ob.size ≤ k
theorem ext_one (s : ByteArray) (i : Nat) (h : i < s.size) : s.extract i (i + 1) = ⟨#[s[i]]⟩ := ByteArray.ext (Array.toList_inj.1 (extract_one s i h))
theorem isB_get {s : ByteArray} (hB : ∀ c, c ∈ s.data.toList → isB c = true) (j : Nat) (hj : j < s.size) : (s[j].toNat : Int) = 10 ∨ (32 ≤ (s[j].toNat : Int) ∧ (s[j].toNat : Int) ≤ 126) := by
  have h : isB s[j] = true := hB _ (by show s.data[j] ∈ s.data.toList; simp)
  simp only [isB, Bool.or_eq_true, Bool.and_eq_true, decide_eq_true_eq, beq_iff_eq] at h
  omega
section
variable {s : ByteArray} {j : Nat} {ob : ByteArray} {q : Option (List UInt8 × Nat)}
theorem lq_out (h : QJ s j ob q) (he : s.size ≤ j) : q = none := by obtain ⟨k, rfl, h, _⟩ := h; exact q_out h he
theorem lq_nl (h : QJ s j ob q) (hlt : j < s.size) (b : ((s[j].toNat : Int) == 10) = true) : q = none := by
  obtain ⟨k, rfl, h, _⟩ := h; rw [beq_iff_eq] at b; exact q_low h hlt (by omega)
theorem lq_close (h : QJ s j ob q) (hB : ∀ c, c ∈ s.data.toList → isB c = true) (hlt : j < s.size) (b : ((s[j].toNat : Int) == 10) = false) (b3 : ((s[j].toNat : Int) == 34) = true) : QRes q (j + 1) ob (decide ((ob.size : Int) ≤ 60)) := by
  have := isB_get hB j hlt
  rw [beq_eq_false_iff_ne] at b
  obtain ⟨k, rfl, h, _⟩ := h; exact q_close h hlt (by omega) (by omega) b3 _ (by omega)
theorem lq_plain (h : QJ s j ob q) (hB : ∀ c, c ∈ s.data.toList → isB c = true) (hlt : j < s.size) (b : ((s[j].toNat : Int) == 10) = false) (b3 : ((s[j].toNat : Int) == 34) = false) (b4 : ((s[j].toNat : Int) == 92) = false) : QJ s (j + 1) (ob ++ ⟨#[s[j]]⟩) q := by
  rw [← ext_one s j hlt]
  have := isB_get hB j hlt
  rw [beq_eq_false_iff_ne] at b
  obtain ⟨k, rfl, h, ho⟩ := h; exact ⟨k + 1, by omega, q_plain h hlt (by omega) (by omega) b3 (by rw [bne, b4]; rfl), by rw [ByteArray.size_append, ByteArray.size_extract]; omega⟩
theorem lq_end (h : QJ s j ob q) (hB : ∀ c, c ∈ s.data.toList → isB c = true) (hlt : j < s.size) (b : ((s[j].toNat : Int) == 10) = false) (b3 : ((s[j].toNat : Int) == 34) = false) (b4 : ((s[j].toNat : Int) == 92) = true) (he : s.size ≤ j + 1) : q = none := by
  have := isB_get hB j hlt
  rw [beq_eq_false_iff_ne] at b
  obtain ⟨k, rfl, h, ho⟩ := h; exact q_esc_end h hlt (by omega) (by omega) b3 (by rw [bne, b4]; rfl) he
theorem lq_esc (h : QJ s j ob q) (hB : ∀ c, c ∈ s.data.toList → isB c = true) (hlt : j < s.size) (b : ((s[j].toNat : Int) == 10) = false) (b3 : ((s[j].toNat : Int) == 34) = false) (b4 : ((s[j].toNat : Int) == 92) = true) (h2 : j + 1 < s.size)
    (b5 : ((s[j + 1].toNat : Int) == 34) = true ∨ ((s[j + 1].toNat : Int) == 92) = true) : QJ s (j + 2) (ob ++ ⟨#[s[j + 1]]⟩) q := by
  rw [← ext_one s (j + 1) h2]
  have := isB_get hB j hlt
  rw [beq_eq_false_iff_ne] at b
  obtain ⟨k, rfl, h, ho⟩ := h; exact ⟨k + 2, by omega, q_esc h hlt (by omega) (by omega) b3 (by rw [bne, b4]; rfl) h2 (by simpa only [beq_iff_eq] using b5), by rw [ByteArray.size_append, ByteArray.size_extract]; omega⟩
theorem lq_escn (h : QJ s j ob q) (hB : ∀ c, c ∈ s.data.toList → isB c = true) (hlt : j < s.size) (b : ((s[j].toNat : Int) == 10) = false) (b3 : ((s[j].toNat : Int) == 34) = false) (b4 : ((s[j].toNat : Int) == 92) = true) (h2 : j + 1 < s.size)
    (b5 : ((s[j + 1].toNat : Int) == 34) = false) (b6 : ((s[j + 1].toNat : Int) == 92) = false) (b7 : ((s[j + 1].toNat : Int) == 110) = true) : QJ s (j + 2) (ob ++ ⟨#[10]⟩) q := by
  have := isB_get hB j hlt
  rw [beq_eq_false_iff_ne] at b b5 b6
  rw [beq_iff_eq] at b7
  obtain ⟨k, rfl, h, ho⟩ := h; exact ⟨k + 2, by omega, q_escn h hlt (by omega) (by omega) b3 (by rw [bne, b4]; rfl) h2 ⟨b5, b6⟩ b7, by rw [ByteArray.size_append]; show ob.size + 1 ≤ k + 2; omega⟩
theorem lq_bad (h : QJ s j ob q) (hB : ∀ c, c ∈ s.data.toList → isB c = true) (hlt : j < s.size) (b : ((s[j].toNat : Int) == 10) = false) (b3 : ((s[j].toNat : Int) == 34) = false) (b4 : ((s[j].toNat : Int) == 92) = true) (h2 : j + 1 < s.size)
    (b5 : ((s[j + 1].toNat : Int) == 34) = false) (b6 : ((s[j + 1].toNat : Int) == 92) = false) (b7 : ((s[j + 1].toNat : Int) == 110) = false) : q = none := by
  have := isB_get hB j hlt
  rw [beq_eq_false_iff_ne] at b b5 b6 b7
  obtain ⟨k, rfl, h, ho⟩ := h; exact q_bad h hlt (by omega) (by omega) b3 (by rw [bne, b4]; rfl) h2 ⟨b5, b6⟩ b7
end
/-- the builder at b holds ob -/
def Bd (w0 : World) (b : Nat) (ob : ByteArray) (w : World) : Prop := IsB w0.heap.size b (Lib.byteCells ob.data.toList) w ∧ Below w0.heap.size w0 w
theorem Bd.fresh (w : World) (b : Nat) (hb : b = w.heap.size) : Bd w b ByteArray.empty (w.alloc (.cells #[.pointer none, .slice none 0 0] 82)) := by
  subst hb
  exact ⟨.inl ⟨Nat.le_refl _, _, heap_new _ _, World.ownsRow_nil _ _ _ _, by simp [Value.ownBlock]⟩, (Below.refl _ _).alloc (Nat.le_refl _) _⟩
theorem Bd.write {w0 w : World} {b : Nat} {ob : ByteArray} (h : Bd w0 b ob w) (hs : ob.size ≤ 2000000000000) (c : UInt8) :
    Calls Tryz.prog 69 #[.pointer (some ⟨b, 0, none⟩), .int .u8 (c.toNat : Int)] w fun e w' => e = .returned .nilIface ∧ Bd w0 b (ob ++ ⟨#[c]⟩) w' :=
  (writeByte_any w0.heap.size b _ (c.toNat : Int) w h.1 (Nat.le_trans (Nat.le_of_eq (by rw [Lib.byteCells_length]; exact congrArg (· + 1) (by simp : ob.data.toList.length = ob.size))) (by omega : ob.size + 1 ≤ 140737488355328)) h.2.size).mono fun e w' ⟨h1, h2, h3⟩ => ⟨h1, .inr (by
    have e : Lib.byteCells (ob ++ ⟨#[c]⟩).data.toList = Lib.byteCells ob.data.toList ++ [.int .u8 c.toNat] := by rw [app_data]; simp [Lib.byteCells]
    rw [e]; exact h2), h.2.trans h3⟩
def BdF (w0 : World) (b : Nat) (ob : ByteArray) (w : World) : Prop := Lib.IsBuilderF 82 5 w0.heap.size b (Lib.byteCells ob.data.toList) w ∧ Below w0.heap.size w0 w
theorem Bd.str {w0 w : World} {b : Nat} {ob : ByteArray} (h : Bd w0 b ob w) :
    Calls Tryz.prog 58 #[.pointer (some ⟨b, 0, none⟩)] w fun e w' => e = .returned (.string ob) ∧ BdF w0 b ob w' :=
  (Any.Builder_String_any_f Tryz.lays169 Tryz.Builder_Extra_169 w0.heap.size b _ w (Lib.IsBuilderF.of h.1) h.2.size).mono fun e w' ⟨h1, h2, h3⟩ => ⟨by rw [h1], h2, h.2.trans h3⟩
theorem BdF.len {w0 w : World} {b : Nat} {ob : ByteArray} (h : BdF w0 b ob w) :
    Calls Tryz.prog 70 #[.pointer (some ⟨b, 0, none⟩)] w fun e w' => e = .returned (.int .i64 ob.size) ∧ w' = w :=
  (Any.Builder_Len_f Tryz.lays170 w0.heap.size b _ w h.1).mono fun e w' ⟨h1, h2⟩ => ⟨by rw [h1, Lib.byteCells_length]; exact congrArg (fun n : Nat => Ending.returned (.int .i64 n)) (by simp : ob.data.toList.length = ob.size), h2⟩
theorem Bd.len {w0 w : World} {b : Nat} {ob : ByteArray} (h : Bd w0 b ob w) :
    Calls Tryz.prog 70 #[.pointer (some ⟨b, 0, none⟩)] w fun e w' => e = .returned (.int .i64 ob.size) ∧ w' = w :=
  (Tryz.Builder_Len w0.heap.size b _ w h.1).mono fun e w' ⟨h1, h2⟩ => ⟨by rw [h1, Lib.byteCells_length]; exact congrArg (fun n : Nat => Ending.returned (.int .i64 n)) (by simp : ob.data.toList.length = ob.size), h2⟩
def LQPost (q : Option (List UInt8 × Nat)) (w : World) (e : Ending) (w' : World) : Prop :=
  ∃ t n ok, e = .returned (.tuple #[.string t, .int .i64 n, .bool ok]) ∧ QRes q n t ok ∧ Below w.heap.size w w'
def LQRel (s : ByteArray) (q : Option (List UInt8 × Nat)) (w : World) (i : Value) (wr : World) : Prop :=
  ∃ (j : Nat) (ob : ByteArray), i = .int .i64 j ∧ j ≤ s.size + 1 ∧ QJ s j ob q ∧ Bd w w.heap.size ob wr
theorem none_res (q : Option (List UInt8 × Nat)) (n : Int) (t : ByteArray) (h : q = none) : QRes q n t false := by subst h; exact rfl
set_option maxRecDepth 100000 in
theorem lquoted_any (s : ByteArray) (w : World) (hs : s.size ≤ 1000000000000) (hB : ∀ c, c ∈ s.data.toList → isB c = true) :
    Calls Tryz.prog 60 #[.string s] w (LQPost (Lode.quoted s.data.toList) w) := by
  have HB := hid hB; clear hB
  generalize hq : Lode.quoted s.data.toList = q
  have Hq : Hid (QJ s 1 ByteArray.empty q) := hid ⟨0, rfl, hq ▸ QInv.start s 0, Nat.le_refl _⟩
  clear hq
  go_enter Tryz.func60, Tryz.ntmps60
  go_wp2_with fail
  go_loopw [6] (LQRel s q w) (fun i _ => s.size + 1 - (intOf i).toNat)
  case atStart => exact ⟨1, _, rfl, by omega, Hq.out, Bd.fresh w _ rfl⟩
  case round =>
    obtain ⟨j, ob, rfl, hj, hq, hb⟩ := hrel
    have hob : ob.size ≤ s.size + 1 := by obtain ⟨k, _, _, h⟩ := hq; omega
    by_cases hlt : j < s.size
    · have hW := hid (fun c => hb.write (by omega) c)
      have hW10 := hid (show Calls Tryz.prog 69 #[.pointer (some ⟨w.heap.size, 0, none⟩), .int .u8 10] wr _ from hb.write (by omega) 10)
      go_wp2_with (first
        | (go_at_call 58; refine hb.str.mono ?_; rintro e w1 ⟨rfl, hf⟩)
        | (go_at_call 70; refine hf.len.mono ?_; rintro e w' ⟨rfl, rfl⟩)
        | (go_at_call 69; with_reducible refine (hW.out _).mono ?_; rintro e w1 ⟨rfl, hb1⟩)
        | (go_at_call 69; refine hW10.out.mono ?_; rintro e w1 ⟨rfl, hb1⟩))
      · go_ret3
        exact ⟨_, _, _, rfl, none_res _ _ _ (lq_nl hq hlt ‹_›), hb.2⟩
      · go_ret3
        exact ⟨_, _, _, rfl, lq_close hq HB.out hlt ‹_› ‹_›, hf.2⟩
      · go_ret3
        exact ⟨_, _, _, rfl, none_res _ _ _ (lq_end hq HB.out hlt ‹_› ‹_› ‹_› (by have h := ‹((j : Int) + 1 == (s.size : Int)) = true›; rw [beq_iff_eq] at h; omega)), hb.2⟩
      · have hj2 : j + 1 < s.size := by omega
        go_roundw
        case rel => exact ⟨j + 2, _, by go_num, by omega, lq_esc hq HB.out hlt ‹_› ‹_› ‹_› hj2 (.inl ‹_›), hb1⟩
        case measure => go_light; simp [intOf]; omega
      · have hj2 : j + 1 < s.size := by omega
        go_roundw
        case rel => exact ⟨j + 2, _, by go_num, by omega, lq_esc hq HB.out hlt ‹_› ‹_› ‹_› hj2 (.inr ‹_›), hb1⟩
        case measure => go_light; simp [intOf]; omega
      · have hj2 : j + 1 < s.size := by omega
        go_roundw
        case rel => exact ⟨j + 2, _, by go_num, by omega, lq_escn hq HB.out hlt ‹_› ‹_› ‹_› hj2 ‹_› ‹_› ‹_›, hb1⟩
        case measure => go_light; simp [intOf]; omega
      · have hj2 : j + 1 < s.size := by omega
        go_ret3
        exact ⟨_, _, _, rfl, none_res _ _ _ (lq_bad hq HB.out hlt ‹_› ‹_› ‹_› hj2 ‹_› ‹_› ‹_›), hb.2⟩
      · exfalso
        have h := ‹((j : Int) + 1 == (s.size : Int)) = false›
        rw [beq_eq_false_iff_ne] at h
        omega
      · go_roundw
        case rel => exact ⟨j + 1, _, by go_num, by omega, lq_plain hq HB.out hlt ‹_› ‹_› ‹_›, hb1⟩
        case measure => go_light; simp [intOf]; omega
    · go_wp2_with fail
      go_ret3
      exact ⟨_, _, _, rfl, none_res _ _ _ (lq_out hq (by omega)), hb.2⟩
end Go.Proofs.YthknlifmkjdoeaaGreatDoor
