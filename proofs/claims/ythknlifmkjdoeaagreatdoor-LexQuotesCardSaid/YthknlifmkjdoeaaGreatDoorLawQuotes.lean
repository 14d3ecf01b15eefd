/-
  LexQuotes: the law's walk.
-/
import Derived.Test.YthknlifmkjdoeaaGreatDoorLexX
import Derived.Test.YthknlifmkjdoeaaGreatDoorRefK
namespace Go.Proofs.YthknlifmkjdoeaaGreatDoor
open Go.RowKit Lode Go.Shelf
attribute [local go_sem ↓] Go.wp_at_zero Go.wp_at_succ
set_option maxRecDepth 100000 in
theorem law_quotes (s : ByteArray) (w : World) (hG : Glob w) : Calls Tryz.prog 5 #[.string s] w fun e w' => e = .returned (.bool true) ∧ Below w.heap.size w w' := by
  have HK := hid (fun (W : World) (hb : Below w.heap.size w W) => known_any W (hG.later hb))
  clear hG
  by_cases hbig : 200 < s.size
  · go_enter Tryz.func5, Tryz.ntmps5
    go_wp2_with (go_at_call 15; refine (HK.out _ (Below.refl _ _)).mono ?_; rintro e w1 ⟨rfl, hb1⟩)
    go_ret
    exact ⟨rfl, hb1⟩
  · have H1 := hid (fun (W : World) => lquote_any s W (by omega))
    have H2 := hid (fun (W : World) => lunquote_any s W (by omega))
    have H3 := hid (fun (W : World) => rquote_any s W (by omega))
    have H4 := hid (fun (W : World) => runquote_any s W (by omega))
    generalize quote s.data.toList = q at *
    generalize unquote s.data.toList = u at *
    go_enter Tryz.func5, Tryz.ntmps5
    go_wp2_with fail
    refine (H1.out _).mono ?_
    rintro e w1 ⟨rfl, hb1⟩
    go_wp2_with fail
    refine (H2.out _).mono ?_
    rintro e w2 ⟨rfl, hb2⟩
    have hb := below_then hb1 hb2
    go_wp2_with fail
    refine (H3.out _).mono ?_
    rintro e w3 ⟨rfl, rfl⟩
    go_wp2_with fail
    refine (H4.out _).mono ?_
    rintro e w4 ⟨rfl, hb4⟩
    have hb := below_then hb hb4
    go_wp2_with fail
    refine (HK.out _ hb).mono ?_
    rintro e w5 ⟨rfl, hb5⟩
    have hb := below_then hb hb5
    go_wp2_with fail
    go_ret
    exact ⟨rfl, hb⟩
end Go.Proofs.YthknlifmkjdoeaaGreatDoor
