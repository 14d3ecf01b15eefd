/-
  LexSpells returns true for every two tokens: the spelling of the first, and whether there must be a gap between them, or the errors, are the reference's.
-/
import Derived.WalkKit
import Derived.ProofKit
import Derived.OpenShut
import Derived.ShutString
import Derived.Lay
import Derived.LaidOnce
import Derived.SevenTiedAt
import Derived.Lib.SmallJoins
import Derived.Test.YthknlifmkjdoeaaGreatDoorCards
import Derived.Test.YthknlifmkjdoeaaGreatDoorTie
import Derived.Test.YthknlifmkjdoeaaGreatDoorLexX
import Derived.Test.YthknlifmkjdoeaaGreatDoorLawSpells
namespace Go.Proofs.YthknlifmkjdoeaaGreatDoor
open Go.ChangeShapes Go.WideShapes Go.ChangeAt Go.RowKit Go.WideMaps Go.WideElems Go.Joins
open Go.ChangeMaps (setBlock shut_map_nil open_string shut_string keptBut_setBlock frozen?_setBlock heap_setBlock_same)
theorem own : ownKnob Tryz.prog.godebug = none := by kernel_rfl
abbrev theLaid : List (String × DataW Unit) := Rows.lexSpellsRow.laid
set_option maxRecDepth 100000 in
theorem lifted (os : Os) (started : os.Started) (H : Type) (enc : TypeId × Value → H) :
    ReturnsInHanded {} Tryz.checked os 10 .any (fun w args => (Rows.lexSpellsSpec.pre enc Tryz.prog Tryz.f10 [] false w args ∧ laidMetH Tryz.prog theLaid w) ∧ sizedMet enc Tryz.prog Tryz.f10 (OpenSpec.ofChange Rows.lexSpellsSpec) false w args)
      (Rows.lexSpellsSpec.post enc Tryz.prog Tryz.f10 false true false false) := by
  refine returnsInHanded_of_change_and (C := Tryz.checked) (X := fun w _ => laidMetH Tryz.prog theLaid w) (fun _ _ _ hh h => h.of_heap hh) own started (by kernel_rfl) Tryz.func10
    (ChangeSpec.witness_shaped (enc := enc) (C := Tryz.checked) (os := os) (X := fun w _ => laidMetH Tryz.prog theLaid w) false (World.laidAll Tryz.prog os theLaid) #[.agg #[.int .u8 0, .string ⟨#[]⟩, .int .i64 0], .agg #[.int .u8 0, .string ⟨#[]⟩, .int .i64 0]] 8 (World.laidAll_os _ _ _)
      (World.shaped_of_ZipB (by kernel_rfl) (by kernel_rfl)) (by kernel_rfl) (by kernel_rfl) (by kernel_rfl)
      (by rw [MakeChecks.laidMetH_plain _ _ _ (by kernel_rfl)]; exact laidMet_laidAll _ (by kernel_rfl) (by kernel_rfl))) ?_
  intro W base args ds gs before hval0 hW _ _ hL _
  have hval : ∀ (j : Nat) t v, Tryz.f10.params[j]? = some t → args[j]? = some v → Value.okWide Tryz.prog W .any base t v := hval0
  have hW' := hW
  obtain ⟨p, q, hA0, hV, rfl, _, _⟩ := hW
  have hA : DataW.TrodAll enc Tryz.prog W 0 (fun _ => true) true Tryz.f10.params.toList args.toList ds p := hA0
  rw [Tryz.params10] at hA hval
  have hlt0 := fun x hx => hW'.lt x hx
  obtain ⟨v0, v1, d0, d1, p0, p1, rfl, rfl, rfl, h0, h1⟩ := trodAll_two hA
  obtain ⟨rfl, rfl⟩ := trodVars_none hV
  simp only [List.append_nil] at hW' hlt0
  clear hlt0
  have g0 := h0
  have g1 := h1
  obtain ⟨c00, c01, c02, y00, y01, y02, m0, rfl, rfl, rfl, e00, e01, e02⟩ := open_agg3 Tryz.underlying46 (by kernel_rfl) (show Tryz.prog.cellsOf 46 = 3 by kernel_rfl) (hval 0 46 v0 rfl rfl) h0
  obtain ⟨a0, q00, rfl, wa0⟩ := DataW.trod_int Tryz.underlying5 e00
  obtain ⟨b0, q01, rfl, _⟩ := DataW.trod_string Tryz.underlying9 e01
  obtain ⟨z0, q02, rfl, _⟩ := DataW.trod_int Tryz.underlying3 e02
  simp only [List.cons.injEq, and_true] at q00 q01 q02
  subst q00 q01 q02
  obtain ⟨k0, rfl⟩ : ∃ y : Nat, a0 = (y : Int) := Int.eq_ofNat_of_zero_le (wf_u8_nonneg wa0)
  obtain ⟨c10, c11, c12, y10, y11, y12, m1, rfl, rfl, rfl, e10, e11, e12⟩ := open_agg3 Tryz.underlying46 (by kernel_rfl) (show Tryz.prog.cellsOf 46 = 3 by kernel_rfl) (hval 1 46 v1 rfl rfl) h1
  obtain ⟨a1, q10, rfl, wa1⟩ := DataW.trod_int Tryz.underlying5 e10
  obtain ⟨b1, q11, rfl, _⟩ := DataW.trod_string Tryz.underlying9 e11
  obtain ⟨z1, q12, rfl, _⟩ := DataW.trod_int Tryz.underlying3 e12
  simp only [List.cons.injEq, and_true] at q10 q11 q12
  subst q10 q11 q12
  obtain ⟨k1, rfl⟩ : ∃ y : Nat, a1 = (y : Int) := Int.eq_ofNat_of_zero_le (wf_u8_nonneg wa1)
  rw [MakeChecks.laidMetH_plain _ _ _ (by kernel_rfl)] at hL
  refine (law_spells k0 b0.data.toList z0 k1 b1.data.toList z1 W (glob_of W hL)).mono fun e W' ⟨he, hb⟩ => ?_
  subst he
  exact ⟨_, rfl, _, _, _, [], _, [], hW', trodAll_mk1 (shut_bool Tryz.underlying4 _), trodAll_mk2 (Below.trod Tryz.laidOut (by kernel_rfl) (of_decide_eq_true (by kernel_rfl)) g0 hb (fun x hx => by simp at hx)) (Below.trod Tryz.laidOut (by kernel_rfl) (of_decide_eq_true (by kernel_rfl)) g1 hb (fun x hx => by simp at hx)), rfl, hb.frame _, fun h => by cases h⟩

theorem holds : Rows.LexSpellsSaid :=
  OpenClaim.holds_of_wide 10 Tryz.f10 rfl rfl rfl rfl rfl rfl rfl ⟨rfl, rfl, rfl, rfl, rfl⟩ rfl rfl rfl rfl rfl (by kernel_rfl) Tryz.func10 (by kernel_rfl)
    (of_decide_eq_true (by kernel_rfl)) (by unfold Func.isWrapper; first | (rw [if_pos (by decide +kernel)]; kernel_rfl) | (rw [if_neg (by decide +kernel)]; exact ⟨rfl, rfl⟩))
    (fun os started H enc _ => lifted os started H enc)
theorem card_holds : Rows.LexSpellsCardSaid :=
  Claim7.holds_tied_plain_at .later [] _ _ _ _ holds (fun _ h => by cases h) (by kernel_rfl) (fun _ h => by cases h) lexSpells_row_tie rfl ⟨rfl, rfl⟩ (by kernel_rfl) rfl
    (fun f fn hf hfn => by
      obtain rfl : f = 10 := Option.some.inj ((show Tryz.prog.funcNamed "lode/lodelaw01.LexSpells" = some 10 by kernel_rfl).symm.trans hf) |>.symm
      obtain rfl : fn = Tryz.f10 := (Option.some.inj (Tryz.func10.symm.trans hfn)).symm
      exact ⟨by kernel_rfl, fun j t ht => by
        rw [Tryz.params10] at ht
        have hm : t ∈ [46, 46] := by have := Array.mem_of_getElem? ht; simpa using this
        have hall : ([46, 46].all fun u => !Tryz.prog.wantsStandIn u) = true := by kernel_rfl
        exact (show Tryz.prog.wantsStandIn t = false by simpa using List.all_eq_true.1 hall t hm)⟩)
    (by kernel_rfl)
end Go.Proofs.YthknlifmkjdoeaaGreatDoor
