/-
  A part of the proof: contracts of functions; no conditions.
-/
import Derived.Test.YtnncmdpopgkibaaGreatDoorQD
import Derived.Test.YtnncmdpopgkibaaGreatDoorCards
import Derived.Test.YtnncmdpopgkibaaGreatDoorTie
import Derived.WalkKit
import Derived.ProofKit
import Derived.OpenShut
import Derived.ShutString
import Derived.Lay
import Derived.LaidOnce
import Derived.SevenTiedAt
import Derived.Lib.SmallJoins
import Derived.Shelf.Vars
import Derived.ChangeSlices
import Derived.Lib.LaidTab
import Derived.LaidSub
import Derived.Stop.LaidErr
import Derived.Lib.AppendIntMem
import Derived.Deep.RegionHeld3
import Derived.Deep.DrawnRows
import Derived.Deep.AppendLies
import Derived.Maps.Range
import Derived.WalkMore
import Derived.Deep.LoopGhost
import Derived.Shelf.Strings.BuilderF
import Derived.Test.YtnncmdpopgkibaaGreatDoorProg
import Derived.WalkLawsBesides
import Derived.WalkSpells
import Derived.Lib.ConvBytes
import Derived.Shelf.Abstract
import Derived.Deep.RegionWith
import Derived.Deep.Light
import Derived.Deep.QuietTactic
import Derived.BigQuiet
import Derived.Lib.AtoiAll
import Derived.Lib.ItoaNum
import GoSem.Op.String
import Derived.Lib.LastIndexByte
import Derived.Lib.Bytealg
import Derived.Test.YtnncmdpopgkibaaGreatDoorRows
set_option maxRecDepth 100000
set_option maxHeartbeats 40000000
set_option linter.unusedSimpArgs false
set_option linter.unusedVariables false
namespace Go.Proofs.YtnncmdpopgkibaaGreatDoor
section
open Go.ChangeShapes Go.WideShapes Go.ChangeAt Go.RowKit Go.WideMaps Go.WideElems Go.Joins
open Go.ChangeMaps (setBlock shut_map_nil open_string shut_string keptBut_setBlock frozen?_setBlock heap_setBlock_same)
open Go.Proofs.Tryz
theorem own:ownKnob prog.godebug=none:=by kernel_rfl
abbrev theLaid:List (String×DataW Unit):=Rows.parseLeastRow.laid
theorem lifted(os:Os)(started:os.Started)(H:Type)(enc:TypeId×Value->H):
 ReturnsInHanded {} Tryz.checked os 9 .any (fun w args=>(Rows.parseLeastSpec.pre enc prog Tryz.f9 [] false w args/\laidMetH prog theLaid w)/\sizedMet enc prog Tryz.f9 (OpenSpec.ofChange Rows.parseLeastSpec) false w args)
  (Rows.parseLeastSpec.post enc prog Tryz.f9 false true false false):=by
 refine returnsInHanded_of_calls own started (by kernel_rfl)
  (ChangeSpec.witness_shaped (enc:=enc) (C:=Tryz.checked) (os:=os) (X:=fun w _=>laidMetH prog theLaid w) false (World.laidAll prog os theLaid) #[.string ⟨#[]⟩] 8 (World.laidAll_os _ _ _)
    (World.shaped_of_ZipB (by kernel_rfl) (by kernel_rfl)) (by kernel_rfl) (by kernel_rfl) (by kernel_rfl)
    (by rw[MakeChecks.laidMetH_plain _ _ _ (by kernel_rfl)];exact laidMet_laidAll _ (by kernel_rfl) (by kernel_rfl))) ?_
 intro w0 tape i _ hsh _ hok hpre _;obtain⟨_,_,_,fn',hfn',_,_,_,_,hval0⟩:=hok;have efn:fn'=Tryz.f9:=Option.some.inj (hfn'.symm.trans func9);subst efn;obtain⟨⟨⟨ds,gs,before,hWm,_⟩,hLm⟩,_⟩:=hpre;have hW:=DataW.Whole.of_heap (w':=w0.forCall tape i) (by rfl) hWm;have hL:laidMetH prog theLaid (w0.forCall tape i):=hLm.of_heap (by rfl);obtain⟨mm,hm⟩:=Go.Proofs.cell_of_shapedOpen_int (g:=1) (zero:= #[.int .i64 0]) (t:=3) hsh (of_decide_eq_true (by kernel_rfl)) (by kernel_rfl) rfl (by kernel_rfl) (by kernel_rfl) underlying3;generalize w0.heap.size=base at hval0;generalize hWe:w0.forCall tape i=W at *;generalize hAe:i.args=args at *;refine Calls.mono (R:=fun e W'=>∃v,e=.returned v/\Rows.parseLeastSpec.post enc prog Tryz.f9 false true false false W args v W') ?_ (fun e W' ⟨v,he,hp⟩=>by subst he;exact ChangeSpec.post_blind hp);have hval:∀(j:Nat) t v,Tryz.f9.params[j]? =some t->args[j]? =some v->Value.okWide prog W .any base t v:=hval0;have hW':=hW;obtain⟨p,q,hA0,hV,rfl,_,_⟩:=hW;have hA:DataW.TrodAll enc prog W 0 (fun _=>true) true Tryz.f9.params.toList args.toList ds p:=hA0;rw[params9] at hA hval;have hlt0:=fun x hx=>hW'.lt x hx
 obtain⟨v0,d0,rfl,rfl,h0⟩:=trodAll_one hA;obtain⟨rfl,rfl⟩:=trodVars_none hV;simp only[wN] at hW' hlt0;clear hlt0;have g0:=h0;obtain⟨x0,rfl,rfl,rfl,_⟩:=open_string underlying9 (hval 0 9 v0 rfl rfl) h0;rw[MakeChecks.laidMetH_plain _ _ _ (by kernel_rfl)] at hL;refine (zoN x0 W (zjB W hL) mm hm).mono fun e W' ⟨he,hb⟩=>?_
 subst he;exact⟨_,rfl,_,_,_,[],_,[],hW',trodAll_mk1 (shut_bool underlying4 _),trodAll_mk1 (Below.trod Tryz.laidOut (by kernel_rfl) (of_decide_eq_true (by kernel_rfl)) g0 hb (fun x hx=>by simp at hx)),rfl,hb.frame _,fun h=>by cases h⟩
theorem holds:Rows.ParseLeastSaid:=
 OpenClaim.holds_of_wide 9 Tryz.f9 rfl rfl rfl rfl rfl rfl rfl ⟨rfl,rfl,rfl,rfl,rfl⟩ rfl rfl rfl rfl rfl (by as_aux_lemma=>kernel_rfl) func9 (by as_aux_lemma=>kernel_rfl)
  (of_decide_eq_true (by as_aux_lemma=>kernel_rfl)) (by unfold Func.isWrapper;first|(rw[if_pos (by decide +kernel)];as_aux_lemma=>kernel_rfl)|(rw[if_neg (by decide +kernel)];exact⟨rfl,rfl⟩))
  (fun os started H enc _=>lifted os started H enc)
theorem card_holds:Rows.ParseLeastCardSaid:=
 Claim7.holds_tied_plain_at .later [] _ _ _ _ holds (fun _ h=>by cases h) (by as_aux_lemma=>kernel_rfl) (fun _ h=>by cases h) parseLeast_row_tie rfl ⟨rfl,rfl⟩ (by as_aux_lemma=>kernel_rfl) rfl
  (fun f fn hf hfn=>by
    obtain rfl:f=9:=Option.some.inj ((show prog.funcNamed "lode/lodelaw02.ParseLeast" =some 9 by kernel_rfl).symm.trans hf) |>.symm;obtain rfl:fn=Tryz.f9:=(Option.some.inj (func9.symm.trans hfn)).symm;exact⟨by kernel_rfl,fun j t ht=>by
     rw[params9] at ht;have hm:t∈[9]:=by have:=Array.mem_of_getElem? ht;simpa using this
     have hall:([9].all fun u=> !prog.wantsStandIn u)=true:=by kernel_rfl
     exact (show prog.wantsStandIn t=false by simpa using pO.1 hall t hm)⟩)
  (by as_aux_lemma=>kernel_rfl)
end
end Go.Proofs.YtnncmdpopgkibaaGreatDoor
