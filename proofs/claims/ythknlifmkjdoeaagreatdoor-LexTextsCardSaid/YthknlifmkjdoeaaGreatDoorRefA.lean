/-
  THE REFERENCE'S FUNCTIONS ON BYTES: each call hands back what Lode's functions say.
-/
import Derived.Test.YthknlifmkjdoeaaGreatDoorLexA
import Derived.Test.YthknlifmkjdoeaaGreatDoorSpec
namespace Go.Proofs.YthknlifmkjdoeaaGreatDoor
open Go.RowKit Lode Go.Shelf
theorem rsmall_any (c : UInt8) (w : World) :
    Calls Tryz.prog 87 #[.int .u8 (c.toNat : Int)] w fun e w' => e = .returned (.bool (small c)) ∧ w = w' := by
  by_cases h1 : (97 : Int) ≤ c.toNat
  · have : small c = decide ((c.toNat : Int) ≤ 122) := by unfold small; rw [Bool.eq_iff_iff]; simp; omega
    rw [this]; clear this
    go_enter Tryz.func87, Tryz.ntmps87
    go_wp2
    go_ret
    exact ⟨rfl, rfl⟩
  · have : small c = false := by unfold small; simp; omega
    rw [this]; clear this
    go_enter Tryz.func87, Tryz.ntmps87
    go_wp2
    go_ret
    exact ⟨rfl, rfl⟩
theorem rbig_any (c : UInt8) (w : World) :
    Calls Tryz.prog 88 #[.int .u8 (c.toNat : Int)] w fun e w' => e = .returned (.bool (big c)) ∧ w = w' := by
  by_cases h1 : (65 : Int) ≤ c.toNat
  · have : big c = decide ((c.toNat : Int) ≤ 90) := by unfold big; rw [Bool.eq_iff_iff]; simp; omega
    rw [this]; clear this
    go_enter Tryz.func88, Tryz.ntmps88
    go_wp2
    go_ret
    exact ⟨rfl, rfl⟩
  · have : big c = false := by unfold big; simp; omega
    rw [this]; clear this
    go_enter Tryz.func88, Tryz.ntmps88
    go_wp2
    go_ret
    exact ⟨rfl, rfl⟩
theorem rdigit_any (c : UInt8) (w : World) :
    Calls Tryz.prog 92 #[.int .u8 (c.toNat : Int)] w fun e w' => e = .returned (.bool (digit c)) ∧ w = w' := by
  by_cases h1 : (48 : Int) ≤ c.toNat
  · have : digit c = decide ((c.toNat : Int) ≤ 57) := by unfold digit; rw [Bool.eq_iff_iff]; simp; omega
    rw [this]; clear this
    go_enter Tryz.func92, Tryz.ntmps92
    go_wp2
    go_ret
    exact ⟨rfl, rfl⟩
  · have : digit c = false := by unfold digit; simp; omega
    rw [this]; clear this
    go_enter Tryz.func92, Tryz.ntmps92
    go_wp2
    go_ret
    exact ⟨rfl, rfl⟩
theorem rcheck_any (s : ByteArray) (w : World) (hs : s.size ≤ 9223372036854775807) :
    Calls Tryz.prog 19 #[.string s] w fun e w' => e = .returned (.tuple #[.int .i64 (check s.data.toList).1, .int .i64 (check s.data.toList).2]) ∧ w = w' := by
  by_cases h : 3000 < s.size
  · have e1 : check s.data.toList = (3000, 5) := by unfold check; rw [if_pos (by simpa using h)]
    rw [e1]
    clear e1
    go_enter Tryz.func19, Tryz.ntmps19
    go_wp2_with fail
    go_ret2
    exact ⟨rfl, rfl⟩
  · have e1 := show check s.data.toList = match findIx (fun c => !isB c) s.data.toList with | some i => (i, 4) | none => (0, 0) by unfold check; rw [if_neg (by simpa using h)]; rfl
    have E1 := hid e1; clear e1
    go_enter Tryz.func19, Tryz.ntmps19
    go_wp2_with fail
    go_loop [4] (fun s4 => ∃ k : Nat, k ≤ s.size ∧ s4 = .int .i64 k ∧ Hid (∀ j, j < k → (fun c => !isB c) (s.data.toList.getD j 0) = false)) (fun s4 => s.size - (intOf s4).toNat)
    case atStart => exact ⟨0, by omega, rfl, fun j hj => absurd hj (Nat.not_lt_zero _)⟩
    case round =>
      obtain ⟨k, hk, rfl, hall⟩ := hrel
      by_cases hlt : k < s.size
      · go_wp2_with fail
        all_goals first
          | (go_round
             case rel => exact ⟨k + 1, by omega, by go_num, upto_succ0 s (fun c => !isB c) false k hall.out hlt (by
               have : isB s[k] = true := by rw [isB_iff]; first | omega | (simp only [bne_eq_false_iff_eq] at *; omega)
               simp [this])⟩
             case measure => simp [intOf]; omega)
          | (go_ret2
             rw [check_at s k h hall.out hlt (by rw [isB_no]; first | omega | (simp only [bne_iff_ne, bne_eq_false_iff_eq, ne_eq] at *; omega))]
             exact ⟨rfl, rfl⟩)
      · obtain rfl : k = s.size := by omega
        go_wp2_with fail
        go_ret2
        rw [check_end s h hall.out]
        exact ⟨rfl, rfl⟩
theorem rrun_any (s : ByteArray) (a : Nat) (lt : Bool) (w : World) (hs : s.size ≤ 1000000000000) (ha : a ≤ s.size) :
    Calls Tryz.prog 89 #[.string s, .int .i64 a, .bool lt] w fun e w' => e = .returned (.int .i64 (runLen (fun c => digit c || (lt && small c)) (s.data.toList.drop a))) ∧ w = w' := by
  generalize hn : runLen (fun c => digit c || (lt && small c)) (s.data.toList.drop a) = n
  have Hn := hid hn; clear hn
  cases lt
  all_goals
    go_enter Tryz.func89, Tryz.ntmps89
    go_wp2_with fail
  · go_loop [7] (fun s7 => ∃ k : Nat, a + k ≤ s.size ∧ s7 = .int .i64 k ∧ Hid (∀ j, j < k → (fun c => digit c || (false && small c)) (s.data.toList.getD (a + j) 0) = true)) (fun s7 => s.size - (intOf s7).toNat)
    case atStart => exact ⟨0, by omega, rfl, fun j hj => absurd hj (Nat.not_lt_zero _)⟩
    case round =>
      obtain ⟨k, hk, rfl, hall⟩ := hrel
      have Hr := hid (runLen_at s (fun c => digit c || (false && small c)) a k hall.out (by omega))
      by_cases hlt : a + k < s.size
      · go_wp2_with (go_at_call 92; refine (rdigit_any _ _).mono ?_; rintro e w' ⟨rfl, rfl⟩)
        · go_round
          case rel => exact ⟨k + 1, by omega, by go_num, upto_succ s (fun c => digit c || (false && small c)) true a k hall.out hlt (by simp [*])⟩
          case measure => simp [intOf]; omega
        · go_ret
          rw [← Hn.out, Hr.out, bdrop s _ hlt]
          exact ⟨by simp [runLen, *], rfl⟩
      · go_wp2_with fail
        go_ret
        rw [← Hn.out, Hr.out, bdrop_end s _ (by omega)]
        exact ⟨by simp [runLen], rfl⟩
  · go_loop [7] (fun s7 => ∃ k : Nat, a + k ≤ s.size ∧ s7 = .int .i64 k ∧ Hid (∀ j, j < k → (fun c => digit c || (true && small c)) (s.data.toList.getD (a + j) 0) = true)) (fun s7 => s.size - (intOf s7).toNat)
    case atStart => exact ⟨0, by omega, rfl, fun j hj => absurd hj (Nat.not_lt_zero _)⟩
    case round =>
      obtain ⟨k, hk, rfl, hall⟩ := hrel
      have Hr := hid (runLen_at s (fun c => digit c || (true && small c)) a k hall.out (by omega))
      by_cases hlt : a + k < s.size
      · go_wp2_with (first | (go_at_call 92; refine (rdigit_any _ _).mono ?_; rintro e w' ⟨rfl, rfl⟩) | (go_at_call 87; refine (rsmall_any _ _).mono ?_; rintro e w' ⟨rfl, rfl⟩))
        all_goals first
          | (go_round
             case rel => exact ⟨k + 1, by omega, by go_num, upto_succ s (fun c => digit c || (true && small c)) true a k hall.out hlt (by simp [*])⟩
             case measure => simp [intOf]; omega)
          | (go_ret
             rw [← Hn.out, Hr.out, bdrop s _ hlt]
             exact ⟨by simp [runLen, *], rfl⟩)
      · go_wp2_with fail
        go_ret
        rw [← Hn.out, Hr.out, bdrop_end s _ (by omega)]
        exact ⟨by simp [runLen], rfl⟩
end Go.Proofs.YthknlifmkjdoeaaGreatDoor

/-
  THE REFERENCE'S WORDS, SIGNS, In, Gap, IsNumber: each call hands back what Lode's functions say.
-/
namespace Go.Proofs.YthknlifmkjdoeaaGreatDoor
open Go.RowKit Lode Go.Shelf
/-- the cells of texts -/
def strs (l : List (List UInt8)) : Array Value := (l.map fun x => Value.string ⟨x.toArray⟩).toArray
theorem rwords_any (w : World) : Calls Tryz.prog 91 #[] w fun e w' => e = .returned (.slice (some ⟨w.heap.size, 0, none⟩) 44 44) ∧ w.alloc (.cells (strs wordList) 9) = w' := by
  go_enter Tryz.func91, Tryz.ntmps91
  go_wp2
  go_ret
  exact ⟨rfl, rfl⟩
theorem rsigns_any (w : World) : Calls Tryz.prog 94 #[] w fun e w' => e = .returned (.slice (some ⟨w.heap.size, 0, none⟩) 25 25) ∧ w.alloc (.cells (strs signList) 9) = w' := by
  go_enter Tryz.func94, Tryz.ntmps94
  go_wp2
  go_ret
  exact ⟨rfl, rfl⟩
theorem rin_any (b n cap : Nat) (l : List (List UInt8)) (s : ByteArray) (w : World) (hn : n = l.length) (hm : n ≤ 1000000000000) (hc : ∀ j, j < n → w.cell? ⟨b, j, none⟩ = some (.string ⟨(l[j]?.getD []).toArray⟩)) :
    Calls Tryz.prog 90 #[.slice (some ⟨b, 0, none⟩) n cap, .string s] w fun e w' => e = .returned (.bool (l.contains s.data.toList)) ∧ w = w' := by
  generalize hr : l.contains s.data.toList = r
  have Hr := hid hr; clear hr
  have Hn := hid hn; clear hn
  have Hc := hid hc; clear hc
  go_enter Tryz.func90, Tryz.ntmps90
  go_wp2_with fail
  go_loop [5] (fun s5 => ∃ k : Nat, k ≤ n ∧ s5 = .int .i64 k ∧ Hid (∀ j, j < k → l[j]?.getD [] ≠ s.data.toList)) (fun s5 => n - (intOf s5).toNat)
  case atStart => exact ⟨0, by omega, rfl, fun j hj => absurd hj (Nat.not_lt_zero _)⟩
  case round =>
    obtain ⟨k, hk, rfl, hall⟩ := hrel
    by_cases hlt : k < n
    · have hcell := Hc.out k hlt
      go_wp2_with fail
      · go_ret
        have h1 : l[k]?.getD [] = s.data.toList := by have h := ‹(_ == _) = true›; rw [ByteArray.toList_eq] at h; simpa using h
        have hk' : k < l.length := by have := Hn.out; omega
        refine ⟨?_, rfl⟩
        rw [← Hr.out]
        have : s.data.toList ∈ l := by rw [← h1]; simp [hk']
        simp [this]
      · have h1 : l[k]?.getD [] ≠ s.data.toList := by have h := ‹(_ == _) = false›; rw [ByteArray.toList_eq] at h; simpa using h
        go_round
        case rel => exact ⟨k + 1, by omega, by go_num, fun j hj => by
          by_cases e : j = k
          · subst e; exact h1
          · exact hall.out j (by omega)⟩
        case measure => simp [intOf]; omega
    · go_wp2_with fail
      go_ret
      refine ⟨?_, rfl⟩
      rw [← Hr.out]
      have : s.data.toList ∉ l := by
        intro h
        obtain ⟨j, hj, e⟩ := List.getElem_of_mem h
        exact hall.out j (by have := Hn.out; omega) (by simp [hj, e])
      simp [this]
theorem rgap_any (s : ByteArray) (a : Nat) (w : World) (hs : s.size ≤ 1000000000000) (ha : a ≤ s.size) :
    Calls Tryz.prog 53 #[.string s, .int .i64 a] w fun e w' => e = .returned (.int .i64 (gapLen false (s.data.toList.drop a))) ∧ w = w' := by
  generalize hn : gapLen false (s.data.toList.drop a) = n
  have Hn := hid hn; clear hn
  go_enter Tryz.func53, Tryz.ntmps53
  go_wp2_with fail
  go_loop [5, 6] (fun s5 s6 => ∃ (k : Nat) (cm : Bool), a + k ≤ s.size ∧ s5 = .int .i64 k ∧ s6 = .bool cm ∧ Hid (n = k + gapLen cm (s.data.toList.drop (a + k)))) (fun s5 _ => s.size - (intOf s5).toNat)
  case atStart => exact ⟨0, false, by omega, rfl, rfl, by rw [Nat.zero_add]; exact Hn.out.symm⟩
  case round =>
    obtain ⟨k, cm, hk, rfl, rfl, hall⟩ := hrel
    by_cases hlt : a + k < s.size
    · have Hg := hid (show n = k + gapLen cm (s[a + k] :: s.data.toList.drop (a + k + 1)) by rw [← bdrop s _ hlt]; exact hall.out)
      go_wp2_with fail
      · go_round
        case rel => exact ⟨k + 1, false, by omega, by go_num, rfl, gap_nl Hg.out ‹_›⟩
        case measure => simp [intOf]; omega
      · go_round
        case rel => exact ⟨k + 1, true, by omega, by go_num, rfl, gap_hash Hg.out ‹_› ‹_›⟩
        case measure => simp [intOf]; omega
      · go_round
        case rel => exact ⟨k + 1, cm, by omega, by go_num, rfl, gap_blank Hg.out ‹_› ‹_› ‹_›⟩
        case measure => simp [intOf]; omega
      · go_ret
        obtain rfl := gap_end Hg.out ‹_› ‹_› ‹_›
        exact ⟨rfl, rfl⟩
      · go_round
        case rel => exact ⟨k + 1, cm, by omega, by go_num, rfl, gap_in Hg.out ‹_› ‹_› ‹_›⟩
        case measure => simp [intOf]; omega
    · go_wp2_with fail
      go_ret
      have hg := hall.out
      rw [bdrop_end s _ (by omega)] at hg
      exact ⟨by rw [hg]; simp [gapLen], rfl⟩
end Go.Proofs.YthknlifmkjdoeaaGreatDoor

/-
  THE REFERENCE'S IsNumber AND Quoted.
-/
namespace Go.Proofs.YthknlifmkjdoeaaGreatDoor
open Go.RowKit Lode Go.Shelf
theorem risNumber_any (s : ByteArray) (w : World) (hs : s.size ≤ 1000000000000) :
    Calls Tryz.prog 93 #[.string s] w fun e w' => e = .returned (.bool (isNum s.data.toList)) ∧ w = w' := by
  generalize hr : isNum s.data.toList = r
  have Hr := hid hr; clear hr
  go_enter Tryz.func93, Tryz.ntmps93
  go_wp2_with (go_at_call 89; refine (rrun_any _ 0 false _ hs (Nat.zero_le _)).mono ?_; rintro e w' ⟨rfl, rfl⟩)
  all_goals
    go_ret
    go_light
    refine ⟨congrArg (fun b => Ending.returned (Value.bool b)) ?_, rfl⟩
    rw [← Hr.out, isNum_ref]
    simp only [ByteArray.toList_eq] at *
    have hlen : s.data.toList.length = s.size := by simp
    have hh := bhead' s 48 (by omega)
    rw [show UInt8.ofNat 48 = 48 from rfl] at hh
    have hrl : ((runLen digit s.data.toList : Int) == (s.size : Int)) = decide (runLen digit s.data.toList = s.size) := by rw [Bool.eq_iff_iff]; simp; omega
    rw [hlen, hh]
    clear hh Hr hlen
    show _ = _
    first
      | (simp_all [maxDigits]; done)
      | (simp_all [maxDigits]; omega)

end Go.Proofs.YthknlifmkjdoeaaGreatDoor
