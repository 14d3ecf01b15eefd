/-
  THE REFERENCE: Unquote, Place, Offset.
-/
import Derived.Test.YthknlifmkjdoeaaGreatDoorLexV
import Derived.Test.YthknlifmkjdoeaaGreatDoorLexN
namespace Go.Proofs.YthknlifmkjdoeaaGreatDoor
open Go.RowKit Lode Go.Shelf
attribute [local go_sem ↓] Go.wp_at_zero Go.wp_at_succ
theorem not_empty {s : ByteArray} (hpos : 0 < s.size) : s.toList.isEmpty = false := by
  rw [ByteArray.toList_eq, List.isEmpty_eq_false_iff]
  intro e
  have h1 : s.data.toList.length = 0 := by rw [e]; rfl
  have h2 : s.data.toList.length = s.size := by simp
  omega
theorem head34 (s : ByteArray) (h : 0 < s.size) : s.data.toList.head? = some s[0] := by
  have hl : 0 < s.data.toList.length := by simpa using h
  rw [List.head?_eq_getElem?, List.getElem?_eq_getElem hl]; simp; rfl
set_option maxRecDepth 100000 in
theorem runquote_any (s : ByteArray) (w : World) (hs : s.size ≤ 1000000000000) :
    Calls Tryz.prog 29 #[.string s] w (UPost (unquote s.data.toList) w) := by
  generalize hr : unquote s.data.toList = r
  by_cases h0 : s.size = 0
  · have hs0 : s = ⟨#[]⟩ := ByteArray.ext (Array.size_eq_zero_iff.1 h0)
    have hr2 : r = ([], 4) := by rw [← hr, hs0]; rfl
    subst hr2 hs0
    clear hr h0
    go_enter Tryz.func29, Tryz.ntmps29
    go_wp2_with fail
    go_ret2
    exact ⟨rfl, Below.refl _ _⟩
  · have hpos : 0 < s.size := by omega
    have hne := not_empty hpos
    have hh := head34 s hpos
    by_cases h34 : s[0] = 34
    · rw [h34] at hh
      have HQ := hid (rquoted_any s 0 w hs hpos)
      rw [List.drop_zero] at HQ
      have hl : s.data.toList.length = s.size := by simp
      have hb : ((s[0].toNat : Int) == 34) = true := by rw [h34]; rfl
      cases hq : Lode.quoted s.data.toList with
      | none =>
        have hun : r = ([], 4) := by rw [← hr, unquote, if_pos hh, hq]
        rw [hq] at HQ
        subst hun
        clear hq hr hh h34
        go_enter Tryz.func29, Tryz.ntmps29
        go_wp2_with (go_at_call 61; refine HQ.out.mono ?_; rintro e w2 ⟨nn, tt, okk, rfl, hqr, rfl⟩; obtain rfl : okk = false := hqr)
        go_ret2
        exact ⟨rfl, Below.refl _ _⟩
      | some x =>
        obtain ⟨t', n'⟩ := x
        have hun : r = if n' = s.size then (t', 0) else ([], 4) := by rw [← hr, unquote, if_pos hh, hq, ← hl]
        rw [hq] at HQ
        clear hq hr hh h34
        by_cases hn : n' = s.size
        · rw [if_pos hn] at hun
          subst hun
          go_enter Tryz.func29, Tryz.ntmps29
          go_wp2_with (go_at_call 61; refine HQ.out.mono ?_; rintro e w2 ⟨nn, tt, okk, rfl, hqr, rfl⟩; obtain ⟨rfl, rfl, rfl⟩ : okk = true ∧ nn = n' ∧ tt = ⟨t'.toArray⟩ := hqr)
          go_ret2
          exact ⟨rfl, Below.refl _ _⟩
        · rw [if_neg hn] at hun
          subst hun
          have hn' : ((n' : Int) != (s.size : Int)) = true := by rw [bne_iff_ne]; omega
          go_enter Tryz.func29, Tryz.ntmps29
          go_wp2_with (go_at_call 61; refine HQ.out.mono ?_; rintro e w2 ⟨nn, tt, okk, rfl, hqr, rfl⟩; obtain ⟨rfl, rfl, rfl⟩ : okk = true ∧ nn = n' ∧ tt = ⟨t'.toArray⟩ := hqr)
          go_ret2
          exact ⟨rfl, Below.refl _ _⟩
    · have hr2 : r = ([], 4) := by rw [← hr, unquote, if_neg (by rw [hh]; simpa using h34)]
      subst hr2
      have hb : ((s[0].toNat : Int) != 34) = true := by
        rw [bne_iff_ne]; intro e; exact h34 ((c34 _).mp e)
      clear hr hh h34
      go_enter Tryz.func29, Tryz.ntmps29
      go_wp2_with fail
      go_ret2
      exact ⟨rfl, Below.refl _ _⟩
set_option maxRecDepth 100000 in
theorem rplace_any (s : ByteArray) (a : Int) (w : World) (hs : s.size ≤ 1000000000000) :
    Calls Tryz.prog 20 #[.string s, .int .i64 a] w (PlPost (place s.data.toList a) w) := by
  have Hc := hid (fun w => rcheck_any s w (by omega))
  have HSp := hid (fun (k : Nat) (W : World) (hk : k ≤ s.size) => rspot_any s k W hs hk)
  generalize hr : place s.data.toList a = r
  replace hr := hr.symm
  unfold place at hr
  generalize check s.data.toList = c at *
  obtain ⟨ca, ce⟩ := c
  simp only at hr
  have m0 := hid (heap_new w (.cells #[.int .i64 0, .int .i64 0] 23 (0, 0)))
  have hbw := below_alloc w (.cells #[.int .i64 0, .int .i64 0] 23 (0, 0))
  by_cases h0 : ce = 0
  · subst h0
    simp only [ne_eq, not_true, if_false, Array.length_toList] at hr
    by_cases ha : a < 0 ∨ (s.size : Int) < a
    · have hr2 : r = ((0, 0), 3) := by rw [hr, if_pos (by simpa using ha)]
      clear hr
      subst hr2
      go_enter Tryz.func20, Tryz.ntmps20
      go_wp2_with (go_at_call 19; refine (Hc.out _).mono ?_; rintro e w1 ⟨rfl, rfl⟩)
      all_goals
        first
          | (obtain ⟨u0, u1, hbf⟩ := sp_set m0.out hbw 0 0 _ rfl
             generalize World.setCell _ ⟨_, 1, none⟩ _ = W9 at *
             refine bodyPost_ret (v := .tuple #[.agg #[.int .i64 0, .int .i64 0], .int .i64 3]) (by simp [results, Tryz.results20, go_sem, u0, u1]) rfl ⟨rfl, hbf⟩)
          | (refine bodyPost_ret (v := .tuple #[.agg #[.int .i64 0, .int .i64 0], .int .i64 3]) (by simp [results, Tryz.results20, go_sem]) rfl ⟨rfl, hbw⟩)
    · obtain ⟨k, rfl, hk⟩ : ∃ k : Nat, a = k ∧ k ≤ s.size := ⟨a.toNat, by omega, by omega⟩
      have hr2 : r = (spot s.data.toList k, 0) := by rw [hr, if_neg (by simpa using ha)]; rfl
      clear hr
      subst hr2
      have HS := hid (fun W => HSp.out k W hk)
      generalize spot s.data.toList k = p at *
      have hkI : ¬ ((k : Int) < 0) := by omega
      have hkI2 : ¬ ((s.size : Int) < k) := by omega
      go_enter Tryz.func20, Tryz.ntmps20
      go_wp2_with (first
        | (go_at_call 19; refine (Hc.out _).mono ?_; rintro e w1 ⟨rfl, rfl⟩)
        | (go_at_call 22; refine (HS.out _).mono ?_; rintro e w2 ⟨rfl, hb2⟩; have m2 := heap_later hb2 m0.out; have c0 := cell_heap m2 0; have c1 := cell_heap m2 1; have f0 := frozen_heap m2 0; have f1 := frozen_heap m2 1; have M2 := hid m2; clear m2))
      obtain ⟨u0, u1, hbf⟩ := sp_set M2.out (below_then hbw hb2) p.1 p.2 _ rfl
      generalize World.setCell _ ⟨_, 1, none⟩ _ = W9 at *
      refine bodyPost_ret (v := .tuple #[.agg #[.int .i64 p.1, .int .i64 p.2], .int .i64 0]) (by simp [results, Tryz.results20, go_sem, u0, u1]) rfl ⟨rfl, hbf⟩
  · have hr2 : r = ((0, 0), ce) := by rw [hr, if_pos h0]
    clear hr
    subst hr2
    have h0' : ((ce : Int) != 0) = true := by rw [bne_iff_ne]; omega
    go_enter Tryz.func20, Tryz.ntmps20
    go_wp2_with (go_at_call 19; refine (Hc.out _).mono ?_; rintro e w1 ⟨rfl, rfl⟩)
    first
      | (obtain ⟨u0, u1, hbf⟩ := sp_set m0.out hbw 0 0 _ rfl
         generalize World.setCell _ ⟨_, 1, none⟩ _ = W9 at *
         refine bodyPost_ret (v := .tuple #[.agg #[.int .i64 0, .int .i64 0], .int .i64 ce]) (by simp [results, Tryz.results20, go_sem, u0, u1]) rfl ⟨rfl, hbf⟩)
      | (refine bodyPost_ret (v := .tuple #[.agg #[.int .i64 0, .int .i64 0], .int .i64 ce]) (by simp [results, Tryz.results20, go_sem]) rfl ⟨rfl, hbw⟩)
end Go.Proofs.YthknlifmkjdoeaaGreatDoor
