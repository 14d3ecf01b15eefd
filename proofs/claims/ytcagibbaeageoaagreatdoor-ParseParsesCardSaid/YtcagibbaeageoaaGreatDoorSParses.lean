import Derived.Test.YtcagibbaeageoaaGreatDoorST
import Derived.Test.YtcagibbaeageoaaGreatDoorCards
import Derived.Test.YtcagibbaeageoaaGreatDoorTie
import Derived.WalkKit
import Derived.ProofKit
import Derived.OpenShut
import Derived.ShutString
import Derived.Lay
import Derived.LaidOnce
import Derived.SevenTiedAt
import Derived.Lib.SmallJoins
import Derived.Deep.Slices
import Derived.Deep.Fields
import Derived.ChangeSame
import Derived.ChangeSlices
set_option maxRecDepth 100000
set_option maxHeartbeats 0
set_option linter.all false
namespace Go.Proofs.YtcagibbaeageoaaGreatDoor
section
open Go.ChangeShapes Go.WideShapes Go.ChangeAt Go.RowKit Go.WideMaps Go.WideElems Go.Joins
open Go.ChangeMaps (setBlock shut_map_nil open_string shut_string keptBut_setBlock frozen?_setBlock heap_setBlock_same)
open Go.Proofs.Tryz
def own:ownKnob prog.godebug=none:=by kernel_rfl
abbrev theLaid:List (String×DataW Unit):=Rows.parseParsesRow.laid
def lifted(os:Os)(started:os.Started)(H:Type)(enc:TypeId×Value->H):
 ReturnsInHanded {} Tryz.checked os 3 .any (λw args=>(Rows.parseParsesSpec.pre enc prog Tryz.f3 [] false w args/\laidMetH prog theLaid w)/\sizedMet enc prog Tryz.f3 (OpenSpec.ofChange Rows.parseParsesSpec) false w args)
  (Rows.parseParsesSpec.post enc prog Tryz.f3 false true false false):=by
 refine returnsInHanded_of_change_and (C:=Tryz.checked) (X:=λw _=>laidMetH prog theLaid w) (λ_ _ _ hh h=>h.of_heap hh) own started (by kernel_rfl) func3
  (ChangeSpec.witness_shaped (enc:=enc) (C:=Tryz.checked) (os:=os) (X:=λw _=>laidMetH prog theLaid w) false (World.laidAll prog os theLaid) #[.string ⟨#[]⟩] 8 (World.laidAll_os _ _ _)
    (World.shaped_of_ZipB (by kernel_rfl) (by kernel_rfl)) (by kernel_rfl) (by kernel_rfl) (by kernel_rfl)
    (by rw[MakeChecks.laidMetH_plain _ _ _ (by kernel_rfl)];exact laidMet_laidAll _ (by kernel_rfl) (by kernel_rfl))) ?_
 intro W base args ds gs before AL hW _ _ hL _;have AK:∀(j:Nat) t v,Tryz.f3.params[j]? =some t->args[j]? =some v->Value.okWide prog W .any base t v:=AL;have Th:=hW;obtain⟨p,q,sR,hV,rfl,_,_⟩:=hW;have hA:DataW.TrodAll enc prog W 0 (λ_=>true) true Tryz.f3.params.toList args.toList ds p:=sR;rw[params3] at hA AK;have We:=λx hx=>Th.lt x hx
 obtain⟨v0,d0,rfl,rfl,h0⟩:=trodAll_one hA;obtain⟨rfl,rfl⟩:=trodVars_none hV;simp only[gD] at Th We;clear We;have g0:=h0;obtain⟨x0,rfl,rfl,rfl,_⟩:=open_string underlying9 (AK 0 9 v0 rfl rfl) h0;rw[MakeChecks.laidMetH_plain _ _ _ (by kernel_rfl)] at hL;refine (zfT x0 W (zlT W hL)).mono λe W' ⟨he,hb⟩=>?_
 subst he;exact⟨_,rfl,_,_,_,[],_,[],Th,trodAll_mk1 (shut_bool underlying4 _),trodAll_mk1 (Below.trod Tryz.laidOut (by kernel_rfl) (of_decide_eq_true (by kernel_rfl)) g0 hb (λx hx=>by simp at hx)),rfl,hb.frame _,λh=>by cases h⟩
theorem holds:Rows.ParseParsesSaid:=
 OpenClaim.holds_of_wide 3 Tryz.f3 rfl rfl rfl rfl rfl rfl rfl ⟨rfl,rfl,rfl,rfl,rfl⟩ rfl rfl rfl rfl rfl (by as_aux_lemma=>kernel_rfl) func3 (by as_aux_lemma=>kernel_rfl)
  (of_decide_eq_true (by as_aux_lemma=>kernel_rfl)) (by unfold Func.isWrapper;first|(rw[if_pos (by decide +kernel)];as_aux_lemma=>kernel_rfl)|(rw[if_neg (by decide +kernel)];exact⟨rfl,rfl⟩))
  (λos started H enc _=>lifted os started H enc)
theorem card_holds:Rows.ParseParsesCardSaid:=
 Claim7.holds_tied_plain_at .later [] _ _ _ _ holds (λ_ h=>by cases h) (by as_aux_lemma=>kernel_rfl) (λ_ h=>by cases h) parseParses_row_tie rfl ⟨rfl,rfl⟩ (by as_aux_lemma=>kernel_rfl) rfl
  (λf fn hf fX=>by
    obtain rfl:f=3:=Option.some.inj ((show prog.funcNamed "lode/lodelaw02.ParseParses" =some 3 by kernel_rfl).symm.trans hf) |>.symm;obtain rfl:fn=Tryz.f3:=(Option.some.inj (func3.symm.trans fX)).symm;exact⟨by kernel_rfl,λj t ht=>by
     rw[params3] at ht;have hm:t∈[9]:=by have:=Array.mem_of_getElem? ht;simpa using this
     have mP:([9].all λu=> !prog.wantsStandIn u)=true:=by kernel_rfl
     exact (show prog.wantsStandIn t=false by simpa using pY.1 mP t hm)⟩)
  (by as_aux_lemma=>kernel_rfl)
