/-
  LexReads: the law's walk.
-/
import Derived.Test.YthknlifmkjdoeaaGreatDoorLexX
import Derived.Test.YthknlifmkjdoeaaGreatDoorRefJ
namespace Go.Proofs.YthknlifmkjdoeaaGreatDoor
open Go.RowKit Lode Go.Shelf
attribute [local go_sem ↓] Go.wp_at_zero Go.wp_at_succ
theorem read_any_len2 (s : List UInt8) : (Lode.read s).1.length ≤ 1000000 := by
  unfold Lode.read
  split
  · simp
  · have := scan_len (s.length + 1) 0 0 s (by omega); omega
set_option maxRecDepth 100000 in
theorem law_reads (s : ByteArray) (w : World) (hG : Glob w) : Calls Tryz.prog 4 #[.string s] w fun e w' => e = .returned (.bool true) ∧ Below w.heap.size w w' := by
  have HK := hid (fun (W : World) (hb : Below w.heap.size w W) => known_any W (hG.later hb))
  by_cases hbig : 4000 < s.size
  · clear hG
    go_enter Tryz.func4, Tryz.ntmps4
    go_wp2_with (go_at_call 15; refine (HK.out _ (Below.refl _ _)).mono ?_; rintro e w1 ⟨rfl, hb1⟩)
    go_ret
    exact ⟨rfl, hb1⟩
  · have H1 := hid (fun (W : World) (hb : Below w.heap.size w W) => lread_any s W (by omega) (hG.later hb))
    have H2 := hid (fun (W : World) => rread_any s W (by omega))
    have hlen := read_any_len2 s.data.toList
    clear hG
    generalize Lode.read s.data.toList = r at *
    go_enter Tryz.func4, Tryz.ntmps4
    go_wp2_with fail
    refine (H1.out _ (Below.refl _ _)).mono ?_
    rintro e w1 ⟨v1, rfl, ht1, hb1⟩
    go_wp2_with fail
    refine (H2.out _).mono ?_
    rintro e w2 ⟨v2, rfl, ht2, hb2⟩
    have hb := below_then hb1 hb2
    have HS := hid (fun (W : World) (hW : Below w2.heap.size w2 W) => rsame_any v1 v2 r.1 r.1 W ((ht1.below hb2).below hW).sl (ht2.below hW).sl hlen)
    rw [decide_eq_true rfl] at HS
    go_wp2_with fail
    refine (HS.out _ (Below.refl _ _)).mono ?_
    rintro e w3 ⟨rfl, hb3⟩
    have hb := below_then hb hb3
    go_wp2_with fail
    refine (HK.out _ hb).mono ?_
    rintro e w4 ⟨rfl, hb4⟩
    have hb := below_then hb hb4
    go_wp2_with fail
    go_ret
    exact ⟨rfl, hb⟩
end Go.Proofs.YthknlifmkjdoeaaGreatDoor
