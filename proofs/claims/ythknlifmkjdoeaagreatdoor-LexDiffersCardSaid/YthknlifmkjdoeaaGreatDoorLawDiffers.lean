/-
  LexDiffers: the law's walk.
-/
import Derived.Test.YthknlifmkjdoeaaGreatDoorLexX
import Derived.Test.YthknlifmkjdoeaaGreatDoorRefM
namespace Go.Proofs.YthknlifmkjdoeaaGreatDoor
open Go.RowKit Lode Go.Shelf
attribute [local go_sem ↓] Go.wp_at_zero Go.wp_at_succ
set_option maxRecDepth 100000 in
theorem law_differs (s t : ByteArray) (w : World) (hG : Glob w) : Calls Tryz.prog 6 #[.string s, .string t] w fun e w' => e = .returned (.bool true) ∧ Below w.heap.size w w' := by
  have HK := hid (fun (W : World) (hb : Below w.heap.size w W) => known_any W (hG.later hb))
  by_cases hbig : 4000 < s.size
  · go_enter Tryz.func6, Tryz.ntmps6
    go_wp2_with (go_at_call 15; refine (HK.out _ (Below.refl _ _)).mono ?_; rintro e w1 ⟨rfl, hb1⟩)
    go_ret
    exact ⟨rfl, hb1⟩
  by_cases hbig2 : 4000 < t.size
  · go_enter Tryz.func6, Tryz.ntmps6
    go_wp2_with (go_at_call 15; refine (HK.out _ (Below.refl _ _)).mono ?_; rintro e w1 ⟨rfl, hb1⟩)
    go_ret
    exact ⟨rfl, hb1⟩
  have H1 := hid (fun (W : World) (hb : Below w.heap.size w W) => ldiffer_any s t W (by omega) (by omega) (hG.later hb))
  have H2 := hid (fun (W : World) => rdiffer_any s t W (by omega) (by omega))
  generalize Lode.differ s.data.toList t.data.toList = d at *
  clear hG
  go_enter Tryz.func6, Tryz.ntmps6
  go_wp2_with fail
  refine (H1.out _ (Below.refl _ _)).mono ?_
  rintro e w1 ⟨rfl, hb1⟩
  go_wp2_with fail
  refine (H2.out _).mono ?_
  rintro e w2 ⟨rfl, hb2⟩
  have hb := below_then hb1 hb2
  go_wp2_with fail
  refine (HK.out _ hb).mono ?_
  rintro e w3 ⟨rfl, hb3⟩
  have hb := below_then hb hb3
  go_wp2_with fail
  go_ret
  exact ⟨rfl, hb⟩
end Go.Proofs.YthknlifmkjdoeaaGreatDoor
