/-
  THE REFERENCE'S WORDS, SIGNS, In, Gap, IsNumber: each call hands back what Lode's functions say.
-/
import Derived.Test.YthknlifmkjdoeaaGreatDoorRefA
namespace Go.Proofs.YthknlifmkjdoeaaGreatDoor
open Go.RowKit Lode Go.Shelf
/-- the cells of texts -/
def strs (l : List (List UInt8)) : Array Value := (l.map fun x => Value.string ⟨x.toArray⟩).toArray
theorem rwords_any (w : World) : Calls Tryz.prog 91 #[] w fun e w' => e = .returned (.slice (some ⟨w.heap.size, 0, none⟩) 44 44) ∧ w.alloc (.cells (strs wordList) 9) = w' := by
  go_enter Tryz.func91, Tryz.ntmps91
  go_wp2
  go_ret
  exact ⟨rfl, rfl⟩
theorem rsigns_any (w : World) : Calls Tryz.prog 94 #[] w fun e w' => e = .returned (.slice (some ⟨w.heap.size, 0, none⟩) 25 25) ∧ w.alloc (.cells (strs signList) 9) = w' := by
  go_enter Tryz.func94, Tryz.ntmps94
  go_wp2
  go_ret
  exact ⟨rfl, rfl⟩
theorem rin_any (b n cap : Nat) (l : List (List UInt8)) (s : ByteArray) (w : World) (hn : n = l.length) (hm : n ≤ 1000000000000) (hc : ∀ j, j < n → w.cell? ⟨b, j, none⟩ = some (.string ⟨(l[j]?.getD []).toArray⟩)) :
    Calls Tryz.prog 90 #[.slice (some ⟨b, 0, none⟩) n cap, .string s] w fun e w' => e = .returned (.bool (l.contains s.data.toList)) ∧ w = w' := by
  generalize hr : l.contains s.data.toList = r
  have Hr := hid hr; clear hr
  have Hn := hid hn; clear hn
  have Hc := hid hc; clear hc
  go_enter Tryz.func90, Tryz.ntmps90
  go_wp2_with fail
  go_loop [5] (fun s5 => ∃ k : Nat, k ≤ n ∧ s5 = .int .i64 k ∧ Hid (∀ j, j < k → l[j]?.getD [] ≠ s.data.toList)) (fun s5 => n - (intOf s5).toNat)
  case atStart => exact ⟨0, by omega, rfl, fun j hj => absurd hj (Nat.not_lt_zero _)⟩
  case round =>
    obtain ⟨k, hk, rfl, hall⟩ := hrel
    by_cases hlt : k < n
    · have hcell := Hc.out k hlt
      go_wp2_with fail
      · go_ret
        have h1 : l[k]?.getD [] = s.data.toList := by have h := ‹(_ == _) = true›; rw [ByteArray.toList_eq] at h; simpa using h
        have hk' : k < l.length := by have := Hn.out; omega
        refine ⟨?_, rfl⟩
        rw [← Hr.out]
        have : s.data.toList ∈ l := by rw [← h1]; simp [hk']
        simp [this]
      · have h1 : l[k]?.getD [] ≠ s.data.toList := by have h := ‹(_ == _) = false›; rw [ByteArray.toList_eq] at h; simpa using h
        go_round
        case rel => exact ⟨k + 1, by omega, by go_num, fun j hj => by
          by_cases e : j = k
          · subst e; exact h1
          · exact hall.out j (by omega)⟩
        case measure => simp [intOf]; omega
    · go_wp2_with fail
      go_ret
      refine ⟨?_, rfl⟩
      rw [← Hr.out]
      have : s.data.toList ∉ l := by
        intro h
        obtain ⟨j, hj, e⟩ := List.getElem_of_mem h
        exact hall.out j (by have := Hn.out; omega) (by simp [hj, e])
      simp [this]
theorem rgap_any (s : ByteArray) (a : Nat) (w : World) (hs : s.size ≤ 1000000000000) (ha : a ≤ s.size) :
    Calls Tryz.prog 53 #[.string s, .int .i64 a] w fun e w' => e = .returned (.int .i64 (gapLen false (s.data.toList.drop a))) ∧ w = w' := by
  generalize hn : gapLen false (s.data.toList.drop a) = n
  have Hn := hid hn; clear hn
  go_enter Tryz.func53, Tryz.ntmps53
  go_wp2_with fail
  go_loop [5, 6] (fun s5 s6 => ∃ (k : Nat) (cm : Bool), a + k ≤ s.size ∧ s5 = .int .i64 k ∧ s6 = .bool cm ∧ Hid (n = k + gapLen cm (s.data.toList.drop (a + k)))) (fun s5 _ => s.size - (intOf s5).toNat)
  case atStart => exact ⟨0, false, by omega, rfl, rfl, by rw [Nat.zero_add]; exact Hn.out.symm⟩
  case round =>
    obtain ⟨k, cm, hk, rfl, rfl, hall⟩ := hrel
    by_cases hlt : a + k < s.size
    · have Hg := hid (show n = k + gapLen cm (s[a + k] :: s.data.toList.drop (a + k + 1)) by rw [← bdrop s _ hlt]; exact hall.out)
      go_wp2_with fail
      · go_round
        case rel => exact ⟨k + 1, false, by omega, by go_num, rfl, gap_nl Hg.out ‹_›⟩
        case measure => simp [intOf]; omega
      · go_round
        case rel => exact ⟨k + 1, true, by omega, by go_num, rfl, gap_hash Hg.out ‹_› ‹_›⟩
        case measure => simp [intOf]; omega
      · go_round
        case rel => exact ⟨k + 1, cm, by omega, by go_num, rfl, gap_blank Hg.out ‹_› ‹_› ‹_›⟩
        case measure => simp [intOf]; omega
      · go_ret
        obtain rfl := gap_end Hg.out ‹_› ‹_› ‹_›
        exact ⟨rfl, rfl⟩
      · go_round
        case rel => exact ⟨k + 1, cm, by omega, by go_num, rfl, gap_in Hg.out ‹_› ‹_› ‹_›⟩
        case measure => simp [intOf]; omega
    · go_wp2_with fail
      go_ret
      have hg := hall.out
      rw [bdrop_end s _ (by omega)] at hg
      exact ⟨by rw [hg]; simp [gapLen], rfl⟩
end Go.Proofs.YthknlifmkjdoeaaGreatDoor
