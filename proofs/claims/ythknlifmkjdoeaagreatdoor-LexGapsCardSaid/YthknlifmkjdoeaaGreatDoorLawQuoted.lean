/-
  LexQuoted: the law's walk.
-/
import Derived.Laws.IdiomStrings
import Derived.Test.YthknlifmkjdoeaaGreatDoorLexX
import Derived.Test.YthknlifmkjdoeaaGreatDoorText
namespace Lode
/-- the byte that a drawn one stands for -/
def qf (b : UInt8) : UInt8 := if b.toNat % 8 = 0 then 34 else if b.toNat % 8 = 1 then 92 else if b.toNat % 8 = 2 then 10 else if b.toNat % 8 = 3 then 110 else if b.toNat % 8 = 4 then 35 else if b.toNat % 8 = 5 then 32 else if b.toNat % 8 = 6 then 97 else UInt8.ofNat (32 + b.toNat / 8 * 3 % 95)
end Lode
namespace Go.Proofs.YthknlifmkjdoeaaGreatDoor
open Go.RowKit Lode Go.Shelf
attribute [local go_sem ↓] Go.wp_at_zero Go.wp_at_succ
theorem qf_isB (b : UInt8) : isB (qf b) = true := by
  unfold qf
  split; · decide
  split; · decide
  split; · decide
  split; · decide
  split; · decide
  split; · decide
  split; · decide
  have hb := b.toNat_lt
  have h3 : (32 + b.toNat / 8 * 3 % 95) % 256 = 32 + b.toNat / 8 * 3 % 95 := by omega
  rw [isB_iff, UInt8.toNat_ofNat', h3]
  omega
/-- quoted bytes -/
theorem quoted_plain (s : List UInt8) (h60 : s.length ≤ 60) (hall : s.all isB = true) : ∃ q, quote s = (q, 0) ∧ unquote q = (s, 0) ∧ q.length ≤ 122 ∧ Lode.read ([120] ++ q ++ [121]) = ([⟨1, [120], 0⟩, ⟨4, s, 1⟩, ⟨1, [121], ((1 + q.length : Nat) : Int)⟩], 0, 0) := by
  have hq : quote s = ([34] ++ s.flatMap quoteByte ++ [34], 0) := by rw [quote, if_neg (by omega), if_pos hall]
  refine ⟨_, hq, ?_, ?_, ?_⟩
  · have e : ([34] ++ s.flatMap quoteByte ++ [34] : List UInt8) = 34 :: (s.flatMap quoteByte ++ (34 :: [])) := by simp
    have hqd : Lode.quoted (34 :: (s.flatMap quoteByte ++ (34 :: []))) = some (s, (s.flatMap quoteByte).length + 2) := by
      unfold Lode.quoted
      rw [List.drop_succ_cons, List.drop_zero, quo_of_quote s [] hall]
      simp only
      rw [if_pos h60]
    rw [e, unquote, List.head?_cons, if_pos rfl, hqd]
    simp
  · have hr : rspell 4 s = ([34] ++ s.flatMap quoteByte ++ [34], 0) := by rw [rspell, if_pos rfl, hq]; rfl
    exact spell_len hr
  · have hr : rspell 4 s = ([34] ++ s.flatMap quoteByte ++ [34], 0) := by rw [rspell, if_pos rfl, hq]; rfl
    have hlen := spell_len hr
    have hB := spell_isB hr
    generalize hQ : ([34] ++ s.flatMap quoteByte ++ [34] : List UInt8) = Q at *
    have h1 : tok1 ([120] ++ (Q ++ [121])) = some (1, [120], 1) := by
      have := tok1_stop (x := [120]) (z := Q ++ [121]) (show tok1 [120] = some (1, [120], 1) by decide) (by rw [← hQ]; exact stop34 _)
      exact this
    have h2 := spell_tok1 hr (R := [121]) (.inr rfl)
    have h3 : Rdg (0 + 0 + 1 + 0 + Q.length) [121] [⟨1, [121], ((0 + 0 + 1 + 0 + Q.length + 0 : Nat) : Int)⟩] := Rdg.tok (G := []) (T := [121]) (R := []) rfl (show tok1 [121] = some (1, [121], 1) by decide) (.done (c := false) rfl)
    have h4 := Rdg.tok (a := 0 + 0 + 1) (G := []) (T := Q) (R := [121]) rfl h2 h3
    have h5 := Rdg.tok (a := 0) (G := []) (T := [120]) (R := [] ++ (Q ++ [121])) rfl h1 h4
    have h6 : Rdg 0 ([120] ++ Q ++ [121]) [⟨1, [120], 0⟩, ⟨4, s, 1⟩, ⟨1, [121], ((1 + Q.length : Nat) : Int)⟩] := by simpa using h5
    refine rd_read (chk_ok.2 ⟨by simp; omega, ?_⟩) h6 (by simp)
    simp only [List.all_append, hB, Bool.and_true]
    decide
theorem three_tok {w : World} {b : Nat} {v : Value} {x y z : Tok} (h : Toks w b v [x, y, z]) : ∃ g cap, v = .slice (some ⟨g, 0, none⟩) 3 cap ∧ w.cell? ⟨g, 3, none⟩ = some (.int .u8 y.kind) ∧ w.cell? ⟨g, 4, none⟩ = some (.string ⟨y.text.toArray⟩) ∧ w.cell? ⟨g, 5, none⟩ = some (.int .i64 y.at_) ∧ w.cell? ⟨g, 8, none⟩ = some (.int .i64 z.at_) := by
  obtain ⟨_, ⟨_, h⟩ | ⟨g, cap, cur, rfl, h⟩⟩ := id h
  · cases h
  · exact ⟨g, cap, rfl, World.ownsRow.cellAt h 3 (by simp), World.ownsRow.cellAt h 4 (by simp), World.ownsRow.cellAt h 5 (by simp), World.ownsRow.cellAt h 8 (by simp)⟩
def QRel (L : List UInt8) (w : World) (s i : Value) (wr : World) : Prop := ∃ k : Nat, s = .string ⟨(L.take k).toArray⟩ ∧ i = .int .i64 k ∧ k ≤ L.length ∧ Below w.heap.size w wr
/-- one byte as a text -/
theorem conv_one (c : UInt8) (g : Nat) (W : World) (h : W.cell? ⟨g, 0, none⟩ = some (.int .u8 (c.toNat : Int))) : (Go.convert 44 9 (.slice (some ⟨g, 0, none⟩) 1 1)).run Tryz.prog W = .ok (.string ⟨#[c]⟩) W := by
  have := run_convert_bytes_back (P := Tryz.prog) W 44 9 5 ⟨g, 0, none⟩ 1 [c] Tryz.underlying44 Tryz.underlying5 Tryz.underlying9 (fun j hj => by
    have hj0 : j = 0 := by simpa using hj
    subst hj0; exact h)
  exact this
set_option maxRecDepth 100000 in
theorem qf_index (b : UInt8) (m x : Nat) (hm : b.toNat % 8 = m) (hx : 32 + b.toNat / 8 * 3 % 95 = x) (W : World) : (Instr.index 50 (.agg #[.int .u8 34, .int .u8 92, .int .u8 10, .int .u8 110, .int .u8 35, .int .u8 32, .int .u8 97, .int .u8 (x : Int)]) (.int .u8 (m : Int))).run Tryz.prog W = .ok (.int .u8 ((qf b).toNat : Int)) W := by
  have h : m = 0 ∨ m = 1 ∨ m = 2 ∨ m = 3 ∨ m = 4 ∨ m = 5 ∨ m = 6 ∨ m = 7 := by omega
  unfold qf
  rw [hm, hx]
  rcases h with rfl | rfl | rfl | rfl | rfl | rfl | rfl | rfl
  · show (_ : Result Value) = _; kernel_rfl
  · show (_ : Result Value) = _; kernel_rfl
  · show (_ : Result Value) = _; kernel_rfl
  · show (_ : Result Value) = _; kernel_rfl
  · show (_ : Result Value) = _; kernel_rfl
  · show (_ : Result Value) = _; kernel_rfl
  · show (_ : Result Value) = _; kernel_rfl
  · have e : ((UInt8.ofNat x).toNat : Int) = x := by rw [UInt8.toNat_ofNat']; omega
    rw [if_neg (by decide), if_neg (by decide), if_neg (by decide), if_neg (by decide), if_neg (by decide), if_neg (by decide), if_neg (by decide), e]
    show (_ : Result Value) = _; kernel_rfl
set_option maxHeartbeats 2000000 in
set_option maxRecDepth 100000 in
theorem law_quoted (v : Value) (w : World) (hb : ∃ l, BSl w v l) (hG : Glob w) : Calls Tryz.prog 8 #[v] w fun e w' => e = .returned (.bool true) ∧ Below w.heap.size w w' := by
  have HK := hid (fun (W : World) (hb : Below w.heap.size w W) => known_any W (hG.later hb))
  obtain ⟨l, p, cap, rfl, hc⟩ := hb
  by_cases hbig : 60 < l.length
  · clear hc
    go_enter Tryz.func8, Tryz.ntmps8
    go_wp2_with (go_at_call 15; refine (HK.out _ (Below.refl _ _)).mono ?_; rintro e w1 ⟨rfl, hb1⟩)
    go_ret
    exact ⟨rfl, hb1⟩
  obtain ⟨q, hq1, hq2, hq3, hq4⟩ := quoted_plain (l.map qf) (by simpa using hbig) (by rw [List.all_map, List.all_eq_true]; exact fun b _ => qf_isB b)
  have hLl : (l.map qf).length = l.length := by simp
  have HQ := hid (fun (W : World) => lquote_any ⟨(l.map qf).toArray⟩ W (show (l.map qf).length ≤ _ by omega))
  rw [show (⟨(l.map qf).toArray⟩ : ByteArray).data.toList = l.map qf from rfl, hq1] at HQ
  have HU := hid (fun (W : World) => lunquote_any ⟨q.toArray⟩ W (show q.length ≤ _ by omega))
  rw [show (⟨q.toArray⟩ : ByteArray).data.toList = q from rfl, hq2] at HU
  have HR := hid (fun (t : ByteArray) (W : World) (ht : t.data.toList = [120] ++ q ++ [121]) (hb : Below w.heap.size w W) => (show Calls Tryz.prog 23 #[.string t] W (RdPost ([⟨1, [120], 0⟩, ⟨4, l.map qf, 1⟩, ⟨1, [121], ((1 + q.length : Nat) : Int)⟩], 0, 0) W) from by
    have := lread_any t W (by have := congrArg List.length ht; simp at this; omega) (hG.later hb)
    rw [ht, hq4] at this; exact this))
  have Hc := hid hc
  clear hc hG hq1 hq2 hq4
  obtain ⟨n, hn⟩ : ∃ n, l.length = n := ⟨_, rfl⟩
  have HL : Hid (∀ (k : Nat) (hk : k < l.length), (⟨((l.map qf).take k).toArray⟩ : ByteArray) ++ ⟨#[qf l[k]]⟩ = ⟨((l.map qf).take (k + 1)).toArray⟩) := hid (fun k hk => by
    have : (l.map qf).take (k + 1) = (l.map qf).take k ++ [qf l[k]] := by
      rw [← List.take_append_getElem (by simpa using hk)]; simp
    rw [this]; rfl)
  generalize hL : l.map qf = L at *
  clear hL
  rw [hn] at hbig hLl ⊢
  have Hn := hid hn
  clear hn
  go_enter Tryz.func8, Tryz.ntmps8
  go_wp2_with fail
  go_loopw [3, 4] (QRel L w) (fun _ i _ => n - (intOf i).toNat)
  case atStart => exact ⟨0, rfl, rfl, by omega, Below.refl _ _⟩
  case round =>
    obtain ⟨k, rfl, rfl, hk, hb⟩ := hrel
    by_cases hlt : k < n
    · have hkl : k < l.length := by rw [Hn.out]; exact hlt
      have hl0 : l ≠ [] := fun e => by rw [e] at hkl; simp at hkl
      obtain ⟨g, off, rfl, hcell⟩ := Hc.out.resolve_left hl0
      have c0 := cell_later hb (hcell k hkl)
      have Happ := hid (HL.out k hkl)
      clear hcell hl0
      generalize l[k] = b at *
      obtain ⟨q8, e8⟩ : ∃ q8, b.toNat / 8 = q8 := ⟨_, rfl⟩
      obtain ⟨q3, e3⟩ : ∃ q3, q8 * 3 = q3 := ⟨_, rfl⟩
      obtain ⟨r, er⟩ : ∃ r, q3 % 95 = r := ⟨_, rfl⟩
      obtain ⟨x, ex⟩ : ∃ x, 32 + r = x := ⟨_, rfl⟩
      obtain ⟨m, em⟩ : ∃ m, b.toNat % 8 = m := ⟨_, rfl⟩
      have hb8 := b.toNat_lt
      have z1 : IntKind.u8.wrap ((b.toNat : Int) / 8) = (q8 : Int) := by rw [IntWalk.u8_in _ (by omega)]; omega
      have z2 : IntKind.u8.wrap ((q8 : Int) * 3) = (q3 : Int) := by rw [IntWalk.u8_in _ (by omega)]; omega
      have z3 : (q3 : Int).tmod 95 = (r : Int) := by rw [Int.tmod_eq_emod_of_nonneg (by omega)]; omega
      have z4 : IntKind.u8.wrap (32 + (r : Int)) = (x : Int) := by rw [IntWalk.u8_in _ (by omega)]; omega
      have z5 : (b.toNat : Int).tmod 8 = (m : Int) := by rw [Int.tmod_eq_emod_of_nonneg (by omega)]; omega
      have z6 : ¬ (9223372036854775807 < min k n + 1) := by omega
      have hix := fun W => qf_index b m x em (by rw [e8, e3, er, ex]) W
      clear e8 e3 er ex em
      generalize qf b = c at *
      have hcv := conv_one c
      go_wp2_with fail
      have hS : ∀ W, Cl wr.drew W → (W.cell? ⟨g, off + k, none⟩ = some (.int .u8 (b.toNat : Int))) := fun W h => cell_later h.below c0
      clear c0
      refine wp_region_mix [(0, 0), (1, 0), (2, 0), (3, 0), (4, 1), (5, 0), (6, 0), (7, 0), (8, 0), (9, 0), (10, 0), (11, 0), (12, 0), (13, 1), (14, 0), (15, 0), (16, 2), (17, 1), (18, 0), (19, 0)] (by kernel_rfl) (by kernel_rfl) ?_
      iterate 16 (first
        | (refine wpM_skip rfl (by rfl) (by decide) ?_; simp only [Act.put, List.setIfInBounds_toArray, List.set_cons_zero, List.set_cons_succ])
        | (refine wpM_take rfl (by rfl) (v := ?_) ?_ ?_; rotate_left; (· (intro w'; go_simp; try with_reducible rfl)); simp only [Act.put, List.setIfInBounds_toArray, List.set_cons_zero, List.set_cons_succ])
        | (refine wpM_load hS rfl (by rfl) (v := ?_) ?_ ?_; rotate_left; (· (intro w' hw'; go_split_ands; go_simp; try with_reducible rfl)); simp only [Act.put, List.setIfInBounds_toArray, List.set_cons_zero, List.set_cons_succ]))
      refine wpM_call rfl (by rfl) (fun K hK W hW => ?_)
      go_simp
      refine ⟨cl_iff.2 (below_alloc _ _), hK _ _ ?_⟩
      have hS2 : ∀ W', Cl (W.alloc (.cells #[.int .u8 (c.toNat : Int)] 5 (0, 0))) W' → (W'.cell? ⟨W.heap.size, 0, none⟩ = some (.int .u8 (c.toNat : Int))) := fun W' h => cell_later h.below (cell_heap (heap_new W _) 0)
      clear hK K hS
      try simp only [Act.put, List.setIfInBounds_toArray, List.set_cons_zero, List.set_cons_succ]
      iterate 3 (first
        | (refine wpM_skip rfl (by rfl) (by decide) ?_; simp only [Act.put, List.setIfInBounds_toArray, List.set_cons_zero, List.set_cons_succ])
        | (refine wpM_take rfl (by rfl) (v := ?_) ?_ ?_; rotate_left; (· (intro w'; go_simp; try with_reducible rfl)); simp only [Act.put, List.setIfInBounds_toArray, List.set_cons_zero, List.set_cons_succ])
        | (refine wpM_load hS2 rfl (by rfl) (v := ?_) ?_ ?_; rotate_left; (· (intro w' hw'; go_split_ands; go_simp; try with_reducible rfl)); simp only [Act.put, List.setIfInBounds_toArray, List.set_cons_zero, List.set_cons_succ]))
      refine wpM_done fun W' hW' => ?_
      have hb2 := hid (below_then (below_then (below_then hb.drew hW.below) (below_alloc _ _)) hW'.below)
      clear hS2 hix hcv z1 z2 z3 z4 z5 z6
      go_wp2_with fail
      go_roundw
      case rel => exact ⟨k + 1, by first | rw [← Happ.out] | (rw [← Happ.out]; rfl), by go_num, by omega, hb2.out⟩
      case measure => simp [intOf]; omega
    · have hkn : k = n := by omega
      subst hkn
      have htk : L.take k = L := List.take_of_length_le (by omega)
      rw [htk]
      go_wp2_with fail
      refine (HQ.out _).mono ?_
      rintro e w1 ⟨rfl, hb1⟩
      have hb := below_then hb hb1
      go_wp2_with fail
      refine (HU.out _).mono ?_
      rintro e w2 ⟨rfl, hb2⟩
      have hb := below_then hb hb2
      go_wp2_with fail
      refine (HQ.out _).mono ?_
      rintro e w3 ⟨rfl, hb3⟩
      have hb := below_then hb hb3
      go_wp2_with fail
      refine (HR.out _ _ ?hr hb).mono ?_
      case hr => simp
      rintro e w4 ⟨v4, rfl, ht4, hb4⟩
      have hb := below_then hb hb4
      obtain ⟨g4, cap4, rfl, c3, c4, c5, c8⟩ := three_tok ht4
      have y1 : IntKind.i64.wrap (1 + (q.length : Int)) = 1 + (q.length : Int) := IntWalk.i64_in _ ⟨by omega, by omega⟩
      go_wp2_with fail
      refine (HK.out _ hb).mono ?_
      rintro e w5 ⟨rfl, hb5⟩
      go_wp2_with fail
      go_ret
      exact ⟨rfl, below_then hb hb5⟩
end Go.Proofs.YthknlifmkjdoeaaGreatDoor
