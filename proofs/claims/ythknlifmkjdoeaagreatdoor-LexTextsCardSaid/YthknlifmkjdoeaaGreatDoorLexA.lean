/-
  THE SMALL FUNCTIONS ON BYTES, of the program and of the reference: each call hands back what Lode's functions say, and turns nothing.
-/
import Derived.Test.YthknlifmkjdoeaaGreatDoorProg
import Derived.Test.YthknlifmkjdoeaaGreatDoorBase
namespace Go.Proofs.YthknlifmkjdoeaaGreatDoor
open Go.RowKit Lode Go.Shelf
theorem within_any (c lo hi : Int) (w : World) :
    Calls Tryz.prog 77 #[.int .u8 c, .int .u8 lo, .int .u8 hi] w fun e w' => e = .returned (.bool (decide (lo ≤ c) && decide (c ≤ hi))) ∧ w = w' := by
  by_cases h1 : lo ≤ c
  · go_enter Tryz.func77, Tryz.ntmps77
    go_wp2
    go_ret
    exact ⟨by simp [h1], rfl⟩
  · have h2 : decide (lo ≤ c) = false := by simpa using h1
    rw [h2]
    go_enter Tryz.func77, Tryz.ntmps77
    go_wp2
    go_ret
    exact ⟨rfl, rfl⟩
theorem isByte_any (c : UInt8) (w : World) :
    Calls Tryz.prog 47 #[.int .u8 (c.toNat : Int)] w fun e w' => e = .returned (.bool (isB c)) ∧ w = w' := by
  by_cases h : (decide ((32 : Int) ≤ (c.toNat : Int)) && decide ((c.toNat : Int) ≤ 126)) = true
  · have hs : isB c = true := by simp at h; simp [isB]; omega
    rw [hs]
    go_enter Tryz.func47, Tryz.ntmps47
    go_wp2_with (go_at_call 77; refine (within_any _ _ _ _).mono ?_; rintro e w' ⟨rfl, rfl⟩; rw [h])
    go_ret
    exact ⟨rfl, rfl⟩
  · have h' : (decide ((32 : Int) ≤ (c.toNat : Int)) && decide ((c.toNat : Int) ≤ 126)) = false := by simpa using h
    have hs : isB c = ((c.toNat : Int) == 10) := by simp at h'; simp [isB]; rw [Bool.eq_iff_iff]; simp; omega
    rw [hs]
    go_enter Tryz.func47, Tryz.ntmps47
    go_wp2_with (go_at_call 77; refine (within_any _ _ _ _).mono ?_; rintro e w' ⟨rfl, rfl⟩; rw [h'])
    go_ret
    exact ⟨rfl, rfl⟩
def clsOf (c : UInt8) : Int := if small c then 1 else if big c then 2 else if digit c then 3 else 0
theorem classOf_any (c : UInt8) (w : World) :
    Calls Tryz.prog 104 #[.int .u8 (c.toNat : Int)] w fun e w' => e = .returned (.int .u8 (clsOf c)) ∧ w = w' := by
  have e1 : (decide ((97 : Int) ≤ (c.toNat : Int)) && decide ((c.toNat : Int) ≤ 122)) = small c := by unfold small; rw [Bool.eq_iff_iff]; simp; omega
  have e2 : (decide ((65 : Int) ≤ (c.toNat : Int)) && decide ((c.toNat : Int) ≤ 90)) = big c := by unfold big; rw [Bool.eq_iff_iff]; simp; omega
  have e3 : (decide ((48 : Int) ≤ (c.toNat : Int)) && decide ((c.toNat : Int) ≤ 57)) = digit c := by unfold digit; rw [Bool.eq_iff_iff]; simp; omega
  have E1 := hid e1; have E2 := hid e2; have E3 := hid e3
  clear e1 e2 e3
  go_enter Tryz.func104, Tryz.ntmps104
  go_wp2_with (go_at_call 77; refine (within_any _ _ _ _).mono ?_; rintro e w' ⟨rfl, rfl⟩; first | rw [E1.out] | rw [E2.out] | rw [E3.out])
  all_goals go_ret
  all_goals exact ⟨by simp [clsOf, *], rfl⟩
end Go.Proofs.YthknlifmkjdoeaaGreatDoor

/-
  slices.IndexFunc ON BYTES, the program's first, all and Check: each call hands back what Lode's functions say; of what lay before nothing is turned.
-/
namespace Go.Proofs.YthknlifmkjdoeaaGreatDoor
open Go.RowKit Lode Go.Shelf
set_option maxHeartbeats 400000 in
theorem indexFunc_any (b n cap : Nat) (l : List UInt8) (g : Nat) (lb : Array Value) (p : UInt8 → Bool) (w : World) (hp : PredB Tryz.prog g lb p w) (hn : n = l.length) (hm : n ≤ 9223372036854775807)
    (hc : ∀ j, j < n → w.cell? ⟨b, j, none⟩ = some (.int .u8 (l[j]?.getD 0).toNat)) :
    Calls Tryz.prog 75 #[.slice (some ⟨b, 0, none⟩) n cap, .func (.func g) #[] lb] w fun e w' => e = .returned (.int .i64 (ixOf (findIx p l))) ∧ Below w.heap.size w w' := by
  obtain ⟨eg, hcall⟩ := hp
  have Hn := hid hn; clear hn
  have Hc := hid hc; clear hc
  have Hcall := hid hcall; clear hcall
  go_enter Tryz.func75, Tryz.ntmps75
  go_wp2_with fail
  go_loopw [5, 8] (fun _ s8 wr => ∃ k : Nat, k ≤ n ∧ s8 = .int .i64 k ∧ Hid (∀ j, j < k → p (l.getD j 0) = false) ∧ Below w.heap.size w wr) (fun _ s8 _ => n - (intOf s8).toNat)
  case atStart => exact ⟨0, Nat.zero_le _, rfl, fun j hj => absurd hj (Nat.not_lt_zero _), Below.refl _ _⟩
  case round =>
    obtain ⟨k, hk, rfl, hall, hb⟩ := hrel
    by_cases hlt : k < n
    · have hcell : wr.cell? ⟨b, k, none⟩ = some (.int .u8 (l[k]?.getD 0).toNat) := by
        have := Hc.out k hlt
        rw [hb.cell (block_lt_of_cell this)]; exact this
      have hcl := Hcall.out wr (l[k]?.getD 0) hb
      have hltz : (k : Int) < (n : Int) := by omega
      go_wp2_with fail
      refine hcl.mono ?_
      rintro e W2 ⟨rfl, hb2⟩
      clear hcl hcell
      have hb3 := hb.trans (hb2.mono hb.size)
      by_cases hpk : p (l[k]?.getD 0) = true
      · go_wp2_with fail
        go_ret
        refine ⟨?_, hb3⟩
        have := findIx_drop p l k hall.out (by rw [← Hn.out]; exact hk)
        rw [Hn.out] at hlt
        rw [this, List.drop_eq_getElem_cons hlt]
        simp [hlt] at hpk
        simp [findIx, hpk, ixOf]
      · have hpk' : p (l[k]?.getD 0) = false := by simpa using hpk
        clear hpk
        go_wp2_with fail
        go_roundw
        case rel => exact ⟨k + 1, by omega, by go_num, fun j hj => by
            by_cases e : j = k
            · subst e; simpa using hpk'
            · exact hall.out j (by omega), hb3⟩
        case measure => simp [intOf]; omega
    · go_wp2_with fail
      go_ret
      refine ⟨?_, hb⟩
      have := findIx_drop p l k hall.out (by rw [← Hn.out]; exact hk)
      have hkl : l.drop k = [] := by have := Hn.out; simp; omega
      rw [this, hkl]; rfl
/-- The closure 'not is': is lies in a box. -/
theorem notP (g : Nat) (lb : Array Value) (p : UInt8 → Bool) (w : World) (hp : PredB Tryz.prog g lb p w) (b : Nat) (hb : w.cell? ⟨b, 0, none⟩ = some (.func (.func g) #[] lb)) :
    PredB Tryz.prog 76 #[.pointer (some ⟨b, 0, none⟩)] (fun c => !p c) w := by
  refine ⟨enters_of Tryz.func76 (by kernel_rfl) rfl, fun W c hbW => ?_⟩
  obtain ⟨eg, hcall⟩ := hp
  have hcl := hcall W c hbW
  have hcell : W.cell? ⟨b, 0, none⟩ = some (.func (.func g) #[] lb) := by rw [hbW.cell (block_lt_of_cell hb)]; exact hb
  clear hcall hb
  have HW := hid hbW; clear hbW
  show Calls Tryz.prog 76 #[.int .u8 (c.toNat : Int), .pointer (some ⟨b, 0, none⟩)] W _
  go_enter Tryz.func76, Tryz.ntmps76
  go_wp2_with fail
  refine hcl.mono ?_
  rintro e W2 ⟨rfl, hb2⟩
  clear hcl
  go_wp2_with fail
  go_ret
  exact ⟨rfl, hb2⟩
theorem predB_later {g : Nat} {lb : Array Value} {p : UInt8 → Bool} {w W : World} (h : PredB Tryz.prog g lb p w) (hb : Below w.heap.size w W) : PredB Tryz.prog g lb p W :=
  ⟨h.eg, fun W' c hW => h.calls W' c (below_then hb hW)⟩
theorem first_any (s : ByteArray) (g : Nat) (lb : Array Value) (p : UInt8 → Bool) (w : World) (hp : PredB Tryz.prog g lb p w) (hs : s.size ≤ 9223372036854775807) :
    Calls Tryz.prog 46 #[.string s, .func (.func g) #[] lb] w fun e w' => e = .returned (.int .i64 (ixOf (findIx (fun c => !p c) s.data.toList))) ∧ Below w.heap.size w w' := by
  have kc := fun (w : World) => Lib.run_convert_string_bytes (P := Tryz.prog) w 9 44 5 s Tryz.underlying9 Tryz.underlying44 Tryz.underlying5
  have Hp := hid hp; clear hp
  go_enter Tryz.func46, Tryz.ntmps46
  go_wp2_with fail
  have hbB := below_alloc w (.cells #[.func (.func g) #[] lb] 67)
  have hbA := below_bytes (w.alloc (.cells #[.func (.func g) #[] lb] 67)) 5 s
  have hp2 := predB_later Hp.out (below_then hbB hbA)
  have hcell : (Lib.bytesWorld (w.alloc (.cells #[.func (.func g) #[] lb] 67)) 5 s).cell? ⟨w.heap.size, 0, none⟩ = some (.func (.func g) #[] lb) := by
    rw [Lib.bytesWorld_old _ _ _ _ (by simp)]; simp
  refine (indexFunc_any _ _ _ s.data.toList _ _ _ _ (notP _ _ _ _ hp2 _ hcell) (by simp) hs (fun j hj => ?_)).mono ?_
  · have := Lib.bytesWorld_cell (w.alloc (.cells #[.func (.func g) #[] lb] 67)) 5 s j hj
    simp only [World.size_alloc] at this
    simpa using this
  · rintro e W2 ⟨rfl, hb2⟩
    clear kc hp2 hcell
    go_wp2_with fail
    go_ret
    exact ⟨rfl, below_then (below_then hbB hbA) hb2⟩
theorem all_any (s : ByteArray) (g : Nat) (lb : Array Value) (p : UInt8 → Bool) (w : World) (hp : PredB Tryz.prog g lb p w) (hs : s.size ≤ 9223372036854775807) :
    Calls Tryz.prog 55 #[.string s, .func (.func g) #[] lb] w fun e w' => e = .returned (.bool (decide (findIx (fun c => !p c) s.data.toList = none))) ∧ Below w.heap.size w w' := by
  have Hp := hid hp; clear hp
  go_enter Tryz.func55, Tryz.ntmps55
  go_wp2_with fail
  refine (first_any s g lb p _ Hp.out hs).mono ?_
  rintro e W2 ⟨rfl, hb2⟩
  cases hf : findIx (fun c => !p c) s.data.toList with
  | none =>
    simp only [ixOf]
    go_wp2_with fail
    go_ret
    exact ⟨by simp [hf], hb2⟩
  | some k =>
    simp only [ixOf]
    go_wp2_with fail
    go_ret
    exact ⟨by simp [hf], hb2⟩
theorem isByteP (w : World) : PredB Tryz.prog 47 #[] isB w :=
  ⟨enters_of Tryz.func47 (by kernel_rfl) rfl, fun W c _ => (isByte_any c W).mono fun e w' ⟨he, hw⟩ => ⟨he, hw ▸ Below.refl _ _⟩⟩
theorem check_any (s : ByteArray) (w : World) (hs : s.size ≤ 9223372036854775807) :
    Calls Tryz.prog 16 #[.string s] w fun e w' => e = .returned (.tuple #[.int .i64 (check s.data.toList).1, .int .i64 (check s.data.toList).2]) ∧ Below w.heap.size w w' := by
  by_cases h : 3000 < s.size
  · have e1 : check s.data.toList = (3000, 5) := by unfold check; rw [if_pos (by simpa using h)]
    rw [e1]
    clear e1
    go_enter Tryz.func16, Tryz.ntmps16
    go_wp2_with fail
    go_ret2
    exact ⟨rfl, Below.refl _ _⟩
  · have e1 := show check s.data.toList = match findIx (fun c => !isB c) s.data.toList with | some i => (i, 4) | none => (0, 0) by unfold check; rw [if_neg (by simpa using h)]; rfl
    have E1 := hid e1; clear e1
    go_enter Tryz.func16, Tryz.ntmps16
    go_wp2_with fail
    refine (first_any s _ _ _ _ (isByteP _) hs).mono ?_
    rintro e W2 ⟨rfl, hb2⟩
    cases hf : findIx (fun c => !isB c) s.data.toList with
    | none =>
      simp only [ixOf]
      go_wp2_with fail
      go_ret2
      exact ⟨by rw [E1.out, hf]; rfl, hb2⟩
    | some k =>
      simp only [ixOf]
      go_wp2_with fail
      go_ret2
      exact ⟨by rw [E1.out, hf]; rfl, hb2⟩
end Go.Proofs.YthknlifmkjdoeaaGreatDoor
