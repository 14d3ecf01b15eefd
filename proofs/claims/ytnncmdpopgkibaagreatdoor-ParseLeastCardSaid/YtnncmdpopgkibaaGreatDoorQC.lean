/-
  A part of the proof: contracts of functions; no conditions.
-/
import Derived.Test.YtnncmdpopgkibaaGreatDoorQB
import Derived.Lib.AtoiAll
import Derived.Lib.ItoaNum
import GoSem.Op.String
import Derived.Lib.LastIndexByte
import Derived.Lib.Bytealg
import Derived.Laws.Runes
import Derived.Deep.RegionHeld3
import Derived.Deep.DrawnRows
import Derived.Deep.AppendLies
import Derived.Maps.Range
import Derived.WalkMore
import Derived.Deep.LoopGhost
import Derived.Shelf.Strings.BuilderF
import Derived.Test.YtnncmdpopgkibaaGreatDoorProg
import Derived.WalkKit
import Derived.WalkLawsBesides
import Derived.WalkSpells
import Derived.Lib.ConvBytes
import Derived.Shelf.Abstract
import Derived.Deep.RegionWith
import Derived.Deep.Light
import Derived.Deep.QuietTactic
import Derived.BigQuiet
import Derived.Lib.AppendIntMem
import Derived.Shelf.RegionOpen
import Derived.OwnWalkIn
import Derived.TacticsInMore
import Derived.LoopNIn
import Derived.LoopIn
import Derived.Deep.Onto
import Derived.MapKept
import Derived.Carry
import Derived.OwnWalk
import Derived.Lib.IndexMore
set_option maxRecDepth 100000
set_option maxHeartbeats 40000000
set_option linter.unusedSimpArgs false
set_option linter.unusedVariables false
namespace Lode
section
variable {l l':List Nd} {pr pr':Int→List UInt8} {φ:Int→Int}
theorem zmX{k:Nat}(h:yz k=true):k∈[1,2,3,4,5,6,7,8,9,10,11,12,13,14,15,16,17,18,19,20,21,22,23,24,25,26,27,28,29,30,31,32,33,34,35,36,37,38,39,40,41,42,43,44,45,46,47,48,49,50,51,60,61,62,63,64,65,66,67,68,69,70,80,81,82,83,84,85,86,87,88,89,100,101,102,103,104]:=by
 have:∀k,k<=104->yz k=true->k∈[1,2,3,4,5,6,7,8,9,10,11,12,13,14,15,16,17,18,19,20,21,22,23,24,25,26,27,28,29,30,31,32,33,34,35,36,37,38,39,40,41,42,43,44,45,46,47,48,49,50,51,60,61,62,63,64,65,66,67,68,69,70,80,81,82,83,84,85,86,87,88,89,100,101,102,103,104]:=by decide +kernel
 exact this k (uH h) h
end
def zcN(t:List UInt8):List UInt8:=if t=[40] then [41] else if t=[91] then [93] else if t=[123] then [125] else []
def zkh(t:List UInt8):Bool:=t == [] || t == [41] || t == [93] || t == [125] || t == [41,93] || t == [93,125] || t == [41,93,125]
def ziV(l:List yp)(i:Nat)(t:yp)(out:List Int)(op:List Nat):Option (List Int×List Nat):=
 if t.kind≠6 then some (out,op) else
 if zcN t.text≠[] then some (out,op ++ [i]) else
 if zkh t.text=true then match op.getLast? with
  |none=>none
  |some o=>if (l[o]?.map fun u=>zcN u.text)=some t.text then some ((out.set i (o:Int)).set o (i:Int),op.dropLast) else none
 else some (out,op)
def ziT(l:List yp):Nat->Option (List Int×List Nat)
 |0=>some (List.replicate l.length (-1),[])
 |k+1=>(ziT l k).bind fun x=>match l[k]? with
  |none=>some x
  |some t=>ziV l k t x.1 x.2
def znt(l:List yp):List Int×Nat:=
 if yT l≠0 then ([],yT l) else
 match ziT l l.length with
 |none=>([],9)
 |some (out,op)=>if op=[] then (out,0) else ([],9)
end Lode
namespace Go.Proofs.YtnncmdpopgkibaaGreatDoor
section
open Go.RowKit Lode
open Go.Proofs.Tryz
theorem zmF{l:List yp}{k:Nat}{out:List Int}{op:List Nat}(h:ziT l k=some (out,op))(hk:k<l.length):ziT l (k+1)=ziV l k l[k] out op:=by
 simp only[ziT,h,Option.bind_some,glE hk]
theorem zmt{l:List yp}{k:Nat}(h:ziT l k=none):∀n,k<=n->ziT l n=none
 |0,hn=>by
  have:k=0:=by omega
  subst this;exact h
 |n+1,hn=>by
  by_cases e:k=n+1
  ·subst e;exact h
  ·simp only[ziT,zmt h n (by omega),Option.bind_none]
theorem zlR{op:List Nat}{o:Nat}(h:op.getLast? =some o):op=op.dropLast ++ [o]:=by
 have hne:op≠[]:=fun e=>by subst e;cases h
 rw[List.getLast?_eq_some_getLast hne] at h;cases h;exact (List.dropLast_concat_getLast hne).symm
structure znr(l:List yp)(k:Nat)(out:List Int)(op:List Nat):Prop where
 len:out.length=l.length
 lt:∀o∈op,o<k/\o<l.length
 sorted:op.Pairwise (· < ·)
 opn:∀o∈op,out[o]? =some (-1)/\∃t,l[o]? =some t/\t.kind=6/\zcN t.text≠[]
 fut:∀j,k<=j->j<l.length->out[j]? =some (-1)
 non:∀(j:Nat) (t:yp),l[j]? =some t->t.kind≠6->out[j]? =some (-1)
 pair:∀j p:Nat,out[j]? =some (p:Int)->p<k/\j<k/\p≠j/\out[p]? =some (j:Int)/\(j<p->∃t u,l[j]? =some t/\l[p]? =some u/\t.kind=6/\u.kind=6/\zcN t.text=u.text/\u.text≠[])
 vals:∀(j:Nat) (x:Int),out[j]? =some x->x= -1\/∃p:Nat,x=p
 done:∀(j:Nat) (t:yp),j<k->l[j]? =some t->t.kind=6->(zcN t.text≠[]\/zkh t.text=true)->j∉op->∃p:Nat,out[j]? =some (p:Int)
 znt:∀j p q r:Nat,out[j]? =some (p:Int)->j<q->q<p->out[q]? =some (r:Int)->j<r/\r<p
 above:∀o∈op,∀q r:Nat,o<q->out[q]? =some (r:Int)->o<r
theorem znr.start(l:List yp):znr l 0 (List.replicate l.length (-1)) []:=by
 have hm:∀(j:Nat) (x:Int),(List.replicate l.length (-1:Int))[j]? =some x->x= -1:=fun j x h=>by
  rw[List.getElem?_replicate] at h;split at h
  ·cases h;rfl
  ·cases h
 have hp:∀(j p:Nat),(List.replicate l.length (-1:Int))[j]? =some (p:Int)->False:=fun j p h=>by
  have:=hm j _ h;omega
 refine⟨by simp,fun o h=>(by cases h),List.Pairwise.nil,fun o h=>(by cases h),fun j _ hj=>(by rw[List.getElem?_replicate,if_pos hj]),fun j t ht _=>?_,fun j p h=>(hp j p h).elim,fun j x h=>.inl (hm j x h),fun j t h=>absurd h (wG _),fun j p q r h=>(hp j p h).elim,fun o h=>(by cases h)⟩;have:=(gtL ht);rw[List.getElem?_replicate,if_pos this]
theorem zmW{l:List yp}{k:Nat}{out out':List Int}{op op':List Nat}(I:znr l k out op)(hk:k<l.length)(h:ziV l k l[k] out op=some (out',op')):znr l (k+1) out' op':=by
 have hlk:l[k]? =some l[k]:=glE hk;unfold ziV at h;split at h
 ·rename_i hkind;cases h;refine⟨I.len,fun o ho=>⟨by have:=(I.lt o ho).1;omega,(I.lt o ho).2⟩,I.sorted,I.opn,fun j h1 h2=>I.fut j (by omega) h2,I.non,fun j p hj=>?_,I.vals,fun j t hj ht h6 hb ho=>?_,I.znt,I.above⟩
  ·obtain⟨a,b,c⟩:=I.pair j p hj;exact⟨by omega,by omega,c⟩
  ·by_cases e:j=k
   ·subst e;rw[hlk] at ht;cases ht;exact absurd h6 hkind
   ·exact I.done j t (by omega) ht h6 hb ho
 ·rename_i hkind;have h6:l[k].kind=6:=by simpa using hkind
  split at h
  ·rename_i hop;cases h;have hmem:∀o,o∈op ++ [k]↔o∈op\/o=k:=fun o=>by simp
   have hfk:=I.fut k (pE _) hk;refine⟨I.len,fun o ho=>?_,?_,fun o ho=>?_,fun j h1 h2=>I.fut j (by omega) h2,I.non,fun j p hj=>?_,I.vals,fun j t hj ht h6' hb ho=>?_,I.znt,fun o ho q r hq hr=>?_⟩
   ·rcases (hmem o).1 ho with h|rfl
    ·exact⟨by have:=(I.lt o h).1;omega,(I.lt o h).2⟩
    ·exact⟨by omega,hk⟩
   ·rw[List.pairwise_append];refine⟨I.sorted,by simp,fun a ha b hb=>?_⟩;rw[wL] at hb;subst hb;exact (I.lt a ha).1
   ·rcases (hmem o).1 ho with h|rfl
    ·exact I.opn o h
    ·exact⟨hfk,_,hlk,h6,hop⟩
   ·obtain⟨a,b,c⟩:=I.pair j p hj;exact⟨by omega,by omega,c⟩
   ·by_cases e:j=k
    ·exact absurd ((hmem j).2 (.inr e)) ho
    ·exact I.done j t (by omega) ht h6' hb (fun hh=>ho ((hmem j).2 (.inl hh)))
   ·rcases (hmem o).1 ho with h|rfl
    ·exact I.above o h q r hq hr
    ·have:=(I.pair q r hr).2.1;omega
  ·rename_i hop;split at h
   ·rename_i hcl;cases hlast:op.getLast? with
    |none=>rw[hlast] at h;cases h
    |some o=>
     rw[hlast] at h;simp only at h;split at h
     ·rename_i hmatch;cases h;have hsplit:=zlR hlast;have hoin:o∈op:=List.mem_of_getLast? hlast;have hok:=I.lt o hoin;have hsort:=I.sorted;rw[hsplit,List.pairwise_append] at hsort;have hbelow:∀a∈op.dropLast,a<o:=fun a ha=>hsort.2.2 a ha o (by simp)
      have hsub:∀a∈op.dropLast,a∈op:=fun a ha=>by rw[hsplit];exact List.mem_append_left _ ha
      have hmemop:∀a,a∈op->a∈op.dropLast\/a=o:=fun a ha=>by rw[hsplit] at ha;simpa using ha
      have hkl:k<out.length:=by rw[I.len];exact hk
      have hol:o<out.length:=by rw[I.len];exact hok.2
      have hne:o≠k:=by omega
      have hget:∀j:Nat,((out.set k (o:Int)).set o (k:Int))[j]? =if j=o then some (k:Int) else if j=k then some (o:Int) else out[j]? :=fun j=>by
       rw[List.getElem?_set,List.getElem?_set];by_cases e1:j=o
       ·subst e1;simp[hol]
       ·rw[if_neg (fun e=>e1 e.symm),if_neg e1];by_cases e2:j=k
        ·subst e2;simp[hkl]
        ·rw[if_neg (fun e=>e2 e.symm),if_neg e2]
      obtain⟨hoo,u,hu,hu6,huc⟩:=I.opn o hoin;have hfk:=I.fut k (pE _) hk;have hm2:zcN u.text=l[k].text:=by rw[hu] at hmatch;simpa using hmatch
      have hno:∀j p:Nat,out[j]? =some (p:Int)->p≠o/\p≠k/\j≠o/\j≠k:=fun j p hj=>by
       obtain⟨a,b,c,d,_⟩:=I.pair j p hj;refine⟨fun e=>?_,by omega,fun e=>?_,by omega⟩
       ·subst e;rw[hoo] at d;simp only[pQ] at d;omega
       ·subst e;rw[hoo] at hj;simp only[pQ] at hj;omega
      refine⟨by simp[I.len],fun a ha=>⟨by have:=(I.lt a (hsub a ha)).1;omega,(I.lt a (hsub a ha)).2⟩,hsort.1,fun a ha=>?_,fun j h1 h2=>?_,fun j t ht h6'=>?_,fun j p hj=>?_,fun j x hj=>?_,fun j t hj ht h6' hb ho=>?_,fun j p q r hj hq hp hr=>?_,fun a ha q r hq hr=>?_⟩
      ·have h1:=hbelow a ha;rw[hget,if_neg (by omega),if_neg (by omega)];exact I.opn a (hsub a ha)
      ·rw[hget,if_neg (by omega),if_neg (by omega)];exact I.fut j (by omega) h2
      ·rw[hget,if_neg,if_neg]
       ·exact I.non j t ht h6'
       ·intro e;subst e;rw[hlk] at ht;cases ht;exact h6' h6
       ·intro e;subst e;rw[hu] at ht;cases ht;exact h6' hu6
      ·rw[hget] at hj;by_cases e1:j=o
       ·rw[if_pos e1] at hj;simp only[pQ] at hj;have hp:p=k:=by omega
        subst hp e1;refine⟨by omega,by omega,by omega,by rw[hget,if_neg (by omega),if_pos rfl],fun _=>⟨u,l[p],hu,hlk,hu6,h6,hm2,by rw[<-hm2];exact huc⟩⟩
       ·rw[if_neg e1] at hj;by_cases e2:j=k
        ·rw[if_pos e2] at hj;simp only[pQ] at hj;have hp:p=o:=by omega
         subst hp e2;exact⟨by omega,by omega,by omega,by rw[hget,if_pos rfl],fun h=>by omega⟩
        ·rw[if_neg e2] at hj;obtain⟨a,b,c,d,e⟩:=I.pair j p hj;obtain⟨n1,n2,_,_⟩:=hno j p hj;exact⟨by omega,by omega,c,by rw[hget,if_neg n1,if_neg n2];exact d,e⟩
      ·rw[hget] at hj;split at hj
       ·cases hj;exact .inr ⟨k,rfl⟩
       ·split at hj
        ·cases hj;exact .inr ⟨o,rfl⟩
        ·exact I.vals j x hj
      ·rw[hget];by_cases e1:j=o
       ·rw[if_pos e1];exact⟨k,rfl⟩
       ·rw[if_neg e1];by_cases e2:j=k
        ·rw[if_pos e2];exact⟨o,rfl⟩
        ·rw[if_neg e2];exact I.done j t (by omega) ht h6' hb (fun hh=>by rcases hmemop j hh with h|h;exact ho h;exact e1 h)
      ·rw[hget] at hj hr;by_cases q1:q=o
       ·rw[if_pos q1] at hr;simp only[pQ] at hr;have hr':r=k:=by omega
        subst hr';exfalso;by_cases e1:j=o
        ·omega
        ·rw[if_neg e1] at hj;by_cases e2:j=r
         ·omega
         ·rw[if_neg e2] at hj;obtain⟨_,_,_,d,_⟩:=I.pair j p hj;have:=I.above o hoin p j (by omega) d;omega
       ·rw[if_neg q1] at hr;by_cases q2:q=k
        ·exfalso;by_cases e1:j=o
         ·rw[if_pos e1] at hj;simp only[pQ] at hj;omega
         ·rw[if_neg e1] at hj;by_cases e2:j=k
          ·omega
          ·rw[if_neg e2] at hj;have:=(I.pair j p hj).1;omega
        ·rw[if_neg q2] at hr;by_cases e1:j=o
         ·rw[if_pos e1] at hj;simp only[pQ] at hj;have hp':p=k:=by omega
          subst hp' e1;exact⟨I.above j hoin q r hq hr,by have:=(I.pair q r hr).1;omega⟩
         ·rw[if_neg e1] at hj;by_cases e2:j=k
          ·rw[if_pos e2] at hj;simp only[pQ] at hj;omega
          ·rw[if_neg e2] at hj;exact I.znt j p q r hj hq hp hr
      ·rw[hget] at hr;have h1:=hbelow a ha;by_cases q1:q=o
       ·rw[if_pos q1] at hr;simp only[pQ] at hr;omega
       ·rw[if_neg q1] at hr;by_cases q2:q=k
        ·rw[if_pos q2] at hr;simp only[pQ] at hr;omega
        ·rw[if_neg q2] at hr;exact I.above a (hsub a ha) q r hq hr
     ·cases h
   ·rename_i hcl;cases h;refine⟨I.len,fun o ho=>⟨by have:=(I.lt o ho).1;omega,(I.lt o ho).2⟩,I.sorted,I.opn,fun j h1 h2=>I.fut j (by omega) h2,I.non,fun j p hj=>?_,I.vals,fun j t hj ht h6 hb ho=>?_,I.znt,I.above⟩
    ·obtain⟨a,b,c⟩:=I.pair j p hj;exact⟨by omega,by omega,c⟩
    ·by_cases e:j=k
     ·subst e;rw[hlk] at ht;cases ht;rcases hb with hb|hb
      ·exact absurd hb hop
      ·exact absurd hb hcl
     ·exact I.done j t (by omega) ht h6 hb ho
theorem zmP{l:List yp}:∀(k:Nat) (out:List Int) (op:List Nat),k<=l.length->ziT l k=some (out,op)->znr l k out op
 |0,out,op,_,h=>by
  cases h;exact znr.start l
 |k+1,out,op,hk,h=>by
  cases hp:ziT l k with
  |none=>rw[zmt hp (k+1) (by omega)] at h;cases h
  |some x=>
   obtain⟨o1,o2⟩:=x;have I:=zmP k o1 o2 (by omega) hp;rw[zmF hp (by omega)] at h;exact zmW I (by omega) h
end
end Go.Proofs.YtnncmdpopgkibaaGreatDoor
namespace Lode
section
open Go Go.RowKit
section
variable {P:Program} {w:World}
theorem zn5(s:ByteArray):Go.MapKept.IsKey .string (.string s):=by simp[Go.MapKept.IsKey]
theorem zoK{t k e:TypeId}(ht:P.underlying t=some (.map k e))(hk:P.underlying k=some .string)(hz:(zeroValue e).run P w=.ok (.string ⟨#[]⟩) w){r:Nat}{es:Array MapEntry}{clock:Nat}(hb:w.heap[r]? =some (.map es clock))(s:ByteArray){a:Option (Nat×Value)}
 (hf:Instr.findNow .string (.string s) es.toList 0=some a):(Instr.lookup t (.map (some r)) (.string s) false).run P w=.ok ((a.map Prod.snd).getD (.string ⟨#[]⟩)) w:=by
 have h1:(Instr.checkKey es.isEmpty 10000 k (.string s)).run P w=.ok () w:=Go.MapKept.run_checkKey hk (zn5 s) _ 9999;cases a with
 |none=>simp[Instr.lookup,run_underlying ht,Go.MapKept.run_getObj_map hb,h1,Go.MapKept.run_findKey hk hf,hz,Result.andThen]
 |some x=>simp[Instr.lookup,run_underlying ht,Go.MapKept.run_getObj_map hb,h1,Go.MapKept.run_findKey hk hf,Result.andThen]
theorem zpU{t k e:TypeId}(ht:P.underlying t=some (.map k e))(hk:P.underlying k=some .string){r:Nat}{es:Array MapEntry}{clock:Nat}(hb:w.heap[r]? =some (.map es clock))(s:ByteArray)(x:Value)
 (hf:Instr.findNow .string (.string s) es.toList 0=some none):(Instr.mapUpdate t (.map (some r)) (.string s) x).run P w=.ok () {w with heap:=w.heap.setIfInBounds r (.map (es.push {key:=.string s,val:=x,born:=clock}) (clock+1))}:=by
 have h1:(Instr.checkKey false 10000 k (.string s)).run P w=.ok () w:=Go.MapKept.run_checkKey hk (zn5 s) _ 9999;simp[Instr.mapUpdate,run_underlying ht,Go.MapKept.run_getObj_map hb,h1,Go.MapKept.run_findKey hk hf,Go.MapKept.run_setObj_map _ hb,Result.andThen]
end
def zoa:Obj:=.map #[⟨.string ⟨#[40]⟩,.string ⟨#[41]⟩,0⟩,⟨.string ⟨#[91]⟩,.string ⟨#[93]⟩,1⟩,⟨.string ⟨#[123]⟩,.string ⟨#[125]⟩,2⟩] 3
theorem zpH(t:List UInt8):∃a,Instr.findNow .string (.string ⟨t.toArray⟩) [⟨.string ⟨#[40]⟩,.string ⟨#[41]⟩,0⟩,⟨.string ⟨#[91]⟩,.string ⟨#[93]⟩,1⟩,⟨.string ⟨#[123]⟩,.string ⟨#[125]⟩,2⟩] 0=some a/\(a.map Prod.snd).getD (.string ⟨#[]⟩)=.string ⟨(zcN t).toArray⟩:=by
 have e:∀c:UInt8,((⟨t.toArray⟩:ByteArray) == ⟨#[c]⟩)=decide (t=[c]):=fun c=>by
  rw[pW,Go.MapKept.bytes_beq,pH];constructor
  ·intro h;have:=congrArg (fun b=>b.data.toList) h;simpa using this
  ·rintro rfl;rfl
 simp only[Instr.findNow,Instr.sameNow,e,zcN];by_cases h1:t=[40]
 ·subst h1;exact⟨_,rfl,rfl⟩
 ·by_cases h2:t=[91]
  ·subst h2;exact⟨_,rfl,rfl⟩
  ·by_cases h3:t=[123]
   ·subst h3;exact⟨_,rfl,rfl⟩
   ·simp only[h1,h2,h3,decide_false,if_false];exact⟨_,rfl,rfl⟩
theorem zoV{P:Program}{w:World}{t k e:TypeId}(ht:P.underlying t=some (.map k e))(hk:P.underlying k=some .string)(hz:(zeroValue e).run P w=.ok (.string ⟨#[]⟩) w){r:Nat}(hb:w.heap[r]? =some zoa)(s:List UInt8):
 (Instr.lookup t (.map (some r)) (.string ⟨s.toArray⟩) false).run P w=.ok (.string ⟨(zcN s).toArray⟩) w:=by
 obtain⟨a,h1,h2⟩:=zpH s;have:=zoK ht hk hz (es:= #[⟨.string ⟨#[40]⟩,.string ⟨#[41]⟩,0⟩,⟨.string ⟨#[91]⟩,.string ⟨#[93]⟩,1⟩,⟨.string ⟨#[123]⟩,.string ⟨#[125]⟩,2⟩]) (clock:=3) hb ⟨s.toArray⟩ h1;rw[this,h2]
end
end Lode
namespace Go.Proofs.YtnncmdpopgkibaaGreatDoor
section
open Go.RowKit Lode Go.Shelf
attribute [local go_sem ↓] Go.wp_at_zero Go.wp_at_succ
open Go.Proofs.Tryz
theorem zp7(w:World):(zeroValue 9).run prog w=.ok (.string ⟨#[]⟩) w:=by kernel_rfl
theorem znf{w:World}{r:Nat}(hb:w.heap[r]? =some zoa)(s:List UInt8):(Instr.lookup 105 (.map (some r)) (.string ⟨s.toArray⟩) false).run prog w=.ok (.string ⟨(zcN s).toArray⟩) w:=
 zoV underlying105 underlying9 (zp7 w) hb s
theorem znO(w:World):Calls prog 58 #[] w fun e w'=>e=.returned (.map (some w.heap.size))/\w'.heap[w.heap.size]? =some zoa/\Below w.heap.size w w':=by
 have hmm:= @run_makeMap prog;have step:∀(W:World) (es:Array MapEntry) (clock:Nat) (s:ByteArray) (x:Value),W.heap[w.heap.size]? =some (.map es clock)->Below w.heap.size w W->Instr.findNow .string (.string s) es.toList 0=some none->
  ∃W',(Instr.mapUpdate 105 (.map (some w.heap.size)) (.string s) x).run prog W=.ok () W'/\W'.heap[w.heap.size]? =some (.map (es.push {key:=.string s,val:=x,born:=clock}) (clock+1))/\Below w.heap.size w W':=fun W es clock s x hb hB hf=>by
  refine⟨_,zpU underlying105 underlying9 hb s x hf,(Go.MapKept.heap_set hb).1,?_⟩;exact⟨hB.os,hB.tape,hB.output,by simpa using hB.size,fun k hk=>((Go.MapKept.heap_set (o':=.map (es.push {key:=.string s,val:=x,born:=clock}) (clock+1)) hb).2 k (by omega)).trans (hB.block k hk)⟩
 obtain⟨W1,e1,h1,b1⟩:=step (w.alloc (.map #[] 0)) #[] 0 ⟨#[40]⟩ (.string ⟨#[41]⟩) (zk _ _) (zf _ _) rfl;obtain⟨W2,e2,h2,b2⟩:=step W1 _ _ ⟨#[91]⟩ (.string ⟨#[93]⟩) h1 b1 (by kernel_rfl);obtain⟨W3,e3,h3,b3⟩:=step W2 _ _ ⟨#[123]⟩ (.string ⟨#[125]⟩) h2 b2 (by kernel_rfl);have H3:=zi h3;clear step h1 h2 h3;go_enter func58,ntmps58;go_wp2;go_ret;exact⟨rfl,H3.out,b3⟩
end
section
open Go.RowKit Lode Go.Shelf
open Go.Proofs.Tryz
theorem zos{w:World}{base g n cap:Nat}{xs:List Value}(hown:w.ownsRow base 3 1 (.slice (some ⟨g,0,none⟩) n cap) n xs){ad:Addr}{u:Value}(hu:w.cell? ad=some u)(hs:ad.spot=none)(h1:u.oneCell'=true)(hn:n<=1000000)(hbase:base<=w.heap.size)(ty:TypeId):
 ∃g' cap' w',(Builtin.append_ #[24,24] ty #[.slice (some ⟨g,0,none⟩) n cap,.slice (some ad) 1 1]).run prog w=.ok (.slice (some ⟨g',0,none⟩) (n+1) cap') w'/\w'.ownsRow base 3 1 (.slice (some ⟨g',0,none⟩) (n+1) cap') (n+1) (xs ++ [u])/\w.grownBy w' (some g)/\(g'=g\/g'=w.heap.size):=by
 obtain⟨i0,hi,hz0,hz1,hz2⟩:=info_parts Tryz.infoInt;have hnews:∀j x,[u][j]? =some x->w.cell? (ad.add j)=some x:=fun j x h=>by
  match j,h with
  |0,h=>
   simp at h;subst h;obtain⟨b,o,s⟩:=ad;simp only at hs;subst hs;exact hu
 have h1':∀x∈[u],x.oneCell'=true:=fun x hx=>by rw[wL] at hx;subst hx;exact h1
 obtain⟨v',w',hr,h2,h3,_⟩:=run_append_own (P:=prog) w base 24 ty 3 i0 _ 1 8 underlying24 hi hz0 hz1 hz2 rfl (by decide) _ n xs hown ad 1 1 [u] rfl hnews h1' (by unfold maxLen;omega) (by omega) hbase;have key:∃g' cap',v'=.slice (some ⟨g',0,none⟩) (n+1) cap'/\(g'=g\/g'=w.heap.size):=by
  rcases id hown.2 with⟨h,_⟩|⟨g2,cap2,cur,h,_,hg,hnc,hcm,hcs,htake⟩
  ·simp at h
  ·simp only[Value.slice.injEq,pQ,Addr.mk.injEq,and_true,true_and] at h;obtain⟨rfl,rfl⟩:=h;by_cases hroom:n+1<=cap
   ·have hr2:=run_append_room (P:=prog) w 24 ty 3 i0 underlying24 hi g n cap cur hg ad 1 1 [u] (by rw[hz1];rfl) hnews h1' hroom (by rw[hz1,hcs];simp;omega);rw[hr] at hr2;simp only[Result.ok.injEq] at hr2;exact⟨g,cap,hr2.1,.inl rfl⟩
   ·have hr2:=run_append_grow (P:=prog) w 24 ty 3 i0 _ underlying24 hi hz0 ⟨g,0,none⟩ n cap xs (by rw[hz1];exact hown.1) (hown.cells (g:=g) rfl) ad 1 1 [u] (by rw[hz1];rfl) hnews (by omega) (by omega) (growslice_fits (by omega) (by rw[hz2];omega));rw[hr] at hr2;simp only[Result.ok.injEq] at hr2;exact⟨_,_,hr2.1,.inr rfl⟩
 obtain⟨g',cap',rfl,hg'⟩:=key;exact⟨g',cap',w',hr,h2,h3,hg'⟩
theorem zmR{w:World}{ops:Array Oper}{rest:List Oper}{o:Oper}{a:Act}{Q:Exit->Act->World->Prop}(hgd:o.guard=none)(s x:Operand)
 (ho:o.op=.call {callee:=.builtin .append,args:= #[s,x],argTypes:= #[24,24]})
 {base g n cap:Nat} {xs:List Value} (hs:a.eval s=.slice (some ⟨g,0,none⟩) n cap) (hown:w.ownsRow base 3 1 (.slice (some ⟨g,0,none⟩) n cap) n xs) {ad:Addr} {u:Value} (hx:a.eval x=.slice (some ad) 1 1) (hu:w.cell? ad=some u) (hsp:ad.spot=none) (h1:u.oneCell'=true) (hn:n<=1000000) (hbase:base<=w.heap.size)
 (h:∀g' cap' w',w'.ownsRow base 3 1 (.slice (some ⟨g',0,none⟩) (n+1) cap') (n+1) (xs ++ [u])->w.grownBy w' (some g)->(g'=g\/g'=w.heap.size)->wpList prog ops Q rest (a.put o.dst (.slice (some ⟨g',0,none⟩) (n+1) cap')) w'):wpList prog ops Q (o :: rest) a w:=by
 refine wpList_plain hgd fun K hK=>?_
 obtain⟨g',cap',w',hr,h2,h3,h4⟩:=zos hown hu hsp h1 hn hbase o.type;unfold Oper.wp;simp[execOp,ho,resolve,invoke,builtin,hs,hx,hr,Result.andThen];exact hK _ _ (h g' cap' w' h2 h3 h4)
theorem zn0{w:World}{base g n cap:Nat}{xs:List Value}{u:Value}(h:w.ownsRow base 3 1 (.slice (some ⟨g,0,none⟩) (n+1) cap) (n+1) (xs ++ [u])):w.ownsRow base 3 1 (.slice (some ⟨g,0,none⟩) n cap) n xs:=by
 obtain⟨hl,⟨h',_⟩|⟨g',cap',cur,h',hb,hg,hnc,hcm,hcs,ht⟩⟩:=h
 ·simp at h'
 ·simp only[Value.slice.injEq,pQ,Addr.mk.injEq,and_true,true_and] at h';obtain⟨rfl,rfl⟩:=h';rw[pC,pI] at hl;refine⟨by omega,.inr ⟨g,cap,cur,rfl,hb,hg,by omega,hcm,hcs,?_⟩⟩;have e:=congrArg (List.take (n*1)) ht;rw[List.take_take,Nat.min_eq_left (by omega),List.take_left' (by omega)] at e;exact e
theorem zn9(t:List UInt8):Go.Lib.contains [41,93,125] t=zkh t:=by
 match t with
 |[]=>rfl
 |[a]=>
  by_cases h1:a=41
  ·subst h1;rfl
  ·by_cases h2:a=93
   ·subst h2;rfl
   ·by_cases h3:a=125
    ·subst h3;rfl
    ·simp[Go.Lib.contains,Go.Lib.index,zkh,List.isPrefixOf,h1,h2,h3]
 |[a,b]=>
  by_cases h1:a=41
  ·subst h1;by_cases h2:b=93
   ·subst h2;rfl
   ·simp[Go.Lib.contains,Go.Lib.index,zkh,List.isPrefixOf,h2]
  ·by_cases h2:a=93
   ·subst h2;by_cases h3:b=125
    ·subst h3;rfl
    ·simp[Go.Lib.contains,Go.Lib.index,zkh,List.isPrefixOf,h3]
   ·simp[Go.Lib.contains,Go.Lib.index,zkh,List.isPrefixOf,h1,h2]
 |[a,b,c]=>
  by_cases h1:a=41/\b=93/\c=125
  ·obtain⟨rfl,rfl,rfl⟩:=h1;rfl
  ·simp[Go.Lib.contains,Go.Lib.index,zkh,List.isPrefixOf];simp only[not_and] at h1;by_cases h2:a=41 <;> by_cases h3:b=93 <;> by_cases h4:c=125 <;> simp_all
 |a :: b :: c :: d :: r=>simp[Go.Lib.contains,Go.Lib.index,zkh,List.isPrefixOf]
end
section
open Go.RowKit Lode Go.Shelf
attribute [local go_sem ↓] Go.wp_at_zero Go.wp_at_succ
open Go.Proofs.Tryz
abbrev zna(l:List Int):List Value:=l.map (Value.int .i64)
abbrev zn4(l:List Nat):List Value:=l.map fun (o:Nat)=>Value.int .i64 (o:Int)
def zpq(r:List Int×Nat)(w:World)(e:Ending)(w':World):Prop:=
 ((r.2=0/\∃g,e=.returned (.tuple #[.slice (some ⟨g,0,none⟩) r.1.length r.1.length,.int .i64 0])/\w'.heap[g]? =some (.cells (zna r.1).toArray 3 (0,0)))\/(r.2≠0/\r.1=[]/\e=.returned (.tuple #[.slice none 0 0,.int .i64 r.2])))/\Below w.heap.size w w'
def zqe(l:List yp)(n:Nat)(w:World)(mb go:Nat)(voo i:Value)(wr:World):Prop:=∃(k:Nat) (out:List Int) (op:List Nat) (g cap:Nat),voo=.slice (some ⟨g,0,none⟩) op.length cap/\i=.int .i64 k/\k<=n/\Hid (ziT l k=some (out,op))/\Hid (wr.heap[mb]? =some zoa)/\Hid (wr.heap[go]? =some (.cells (zna out).toArray 3 (0,0)))/\
 Hid (wr.ownsRow w.heap.size 3 1 (.slice (some ⟨g,0,none⟩) op.length cap) op.length (zn4 op))/\g≠go/\g≠mb/\Below w.heap.size w wr
theorem znx{w:World}{g:Nat}{o:Obj}(h:w.heap[g]? =some o):g<w.heap.size:=(gtA h)
theorem znm:∀(l:List Nat) (n:Nat),l.Pairwise (· < ·)->(∀o∈l,o<n)->l.length<=n
 |[],_,_,_=>pU _
 |a :: l,n,h,hb=>by
  rw[List.pairwise_cons] at h;obtain⟨n',rfl⟩:∃n',n=n'+1:=⟨n-1,by have:=hb a (List.mem_cons_self ..);omega⟩;have ih:=znm (l.map (· -1)) n' (by
   rw[List.pairwise_map];exact h.2.imp_of_mem (fun {x y} hx hy hxy=>by have:=h.1 x hx;omega)) (fun o ho=>by
    obtain⟨x,hx,rfl⟩:=List.mem_map.1 ho;have h1:=h.1 x hx;have h2:=hb x (pY _ hx);omega)
  rw[wV] at ih;simp only[pK];omega
theorem zoL(v:Value)(l:List yp)(w:World)(hv:TSl w v l)(hl:l.length<=1000000)(ht:∀t∈l,t.text.length<=1000000000000)(hG:qH w)(mm:Int)(hm:w.cell? ⟨1,0,none⟩=some (.int .i64 mm)):
 Calls prog 27 #[v] w (zpq (znt l) w):=by
 have HA:=zi (Vt v l w hv hl ht hG);have HV:=zi hv;obtain⟨p0,cp0,rfl,hcells⟩:=hv;generalize hr:znt l=r;replace hr:=hr.symm;unfold znt at hr;unfold ziC at HA;by_cases h0:yT l=0
 ·rw[if_neg (by simp[h0])] at hr;have hlen:l.length<=1200:=by
   unfold yT at h0;rcases Nat.lt_or_ge 1200 l.length with h|h
   ·rw[if_pos h] at h0;cases h0
   ·exact h
  have HA2:=HA.out.mono (R':=fun e w'=>(∃v,e=.returned (.tuple #[v,.int .i64 0]))/\Below w.heap.size w w') (fun e w' ⟨h,hb⟩=>by
   rcases h with⟨_,v,h,_⟩|⟨h,_⟩
   ·exact⟨⟨v,h⟩,hb⟩
   ·exact absurd h0 h)
  have HA2:=zi HA2;have Hr:=zi hr;have HC:=zi hcells;have hCt:=zi (fun (t:List UInt8) (W:World) (hb:Below w.heap.size w W)=>Tryz.strings_Contains ⟨#[41,93,125]⟩ ⟨t.toArray⟩ mm W (by decide) (zj hb hm));clear hr HA HV h0 ht hl hcells hm hG;generalize hn:l.length=n at *;have Hn:=zi hn;clear hn;go_enter func27,ntmps27;go_wp2_with fail;refine HA2.out.mono ?_;rintro e w1 ⟨⟨v1,rfl⟩,hb1⟩;go_wp2_with fail;refine (znO _).mono ?_;rintro e w2 ⟨rfl,hmb,hb2⟩;go_wp2_with fail;have hbo:=zf w2 (.cells #[] 3 (0,0));have hrow:=World.ownsRow_lit (base:=w1.heap.size) (e:=3) (size:=1) w2 #[] 0 hb2.size (by decide) rfl;have hmb:=zh hbo hmb;have hmlt:=znx hmb;have hb3:=zg hb2 hbo;have hbx:=zf (w2.alloc (.cells #[] 3 (0,0))) (.cells #[.int .i64 (-1)] 3 (0,0));have hnew:=zk (w2.alloc (.cells #[] 3 (0,0))) (.cells #[.int .i64 (-1)] 3 (0,0));have hRp:=zoh (w2.alloc (.cells #[] 3 (0,0))).heap.size (-1) n (by omega) ((w2.alloc (.cells #[] 3 (0,0))).alloc (.cells #[.int .i64 (-1)] 3 (0,0))) (zd hnew 0);have e1:(w2.alloc (.cells #[] 3 (0,0))).heap.size=w2.heap.size+1:=by simp
  have e2:((w2.alloc (.cells #[] 3 (0,0))).alloc (.cells #[.int .i64 (-1)] 3 (0,0))).heap.size=w2.heap.size+2:=by simp
  rw[e2,e1] at hRp;rw[e1] at hmlt;have hmb:=zh hbx hmb;have hrow:=VN hrow hbx;refine hRp.mono ?_;rintro e w3 ⟨rfl,hout,hb4⟩;have hb4':Below ((w2.alloc (.cells #[] 3 (0,0))).alloc (.cells #[.int .i64 (-1)] 3 (0,0))).heap.size ((w2.alloc (.cells #[] 3 (0,0))).alloc (.cells #[.int .i64 (-1)] 3 (0,0))) w3:=by rw[e2];exact hb4
  have HM0:=zi (zh hb4' hmb);have HR0:=zi (VN hrow hb4');have HO0:=zi hout;clear hmb hrow hout;have hb5:=zg (zg hb3 hbx) hb4';obtain⟨go,hgo⟩:=exE (w2.heap.size+2);obtain⟨g0,hg0⟩:=exE (w2.heap.size);obtain⟨mb,hmbe⟩:=exE (w1.heap.size);have hbm:=hb2.size;have hmb2:=znx HM0.out;have hg0m:g0≠mb:=fun e=>by
   rw[<-e,<-hg0] at hmbe;have h1:=HR0.out;obtain⟨_,⟨h,_⟩|⟨g',cap',cur,h,_,hg,_⟩⟩:=h1
   ·simp at h
   ·simp only[Value.slice.injEq,pQ,Addr.mk.injEq,and_true] at h;rw[<-h.1] at hg;have h2:=HM0.out;rw[hmbe,hg] at h2;cases h2
  rw[hgo] at HO0 ⊢;rw[hg0] at HR0 ⊢;have hg1:g0≠go:=by omega
  have hg1w:w1.heap.size<=go:=by have:=hb2.size;omega
  rw[hmbe];have Hmbe:=zi hmbe;clear hRp hnew hbx hbo e1 e2 hb3 hb4 hb4' hmlt hmb2 hgo hg0 hmbe;go_wp2;go_loopw [7,28] (zqe l n w1 mb go) (fun _ i _=>n-(intOf i).toNat)
  case atStart=>
   refine⟨0,List.replicate n (-1),[],g0,0,rfl,rfl,by omega,zi ?_,?_,zi ?_,HR0,hg1,hg0m,hb5⟩
   ·rw[<-Hn.out];rfl
   ·rw[<-Hmbe.out];exact HM0
   ·have:=HO0.out;rw[this];simp[zna]
  case round=>
   obtain⟨k,out,op,g,cap,rfl,rfl,hk,hnest,hmb,hout,hrow,hg1,hg2,hb⟩:=hrel;by_cases hlt:k<n
   ·have hkl:k<l.length:=by rw[Hn.out];exact hlt
    have hl0:l≠[]:=fun e=>by rw[e] at hkl;simp at hkl
    obtain⟨gt,rfl,q⟩:=HC.out.resolve_left hl0;obtain⟨i0,i1,i2⟩:=q k hkl;have hbw:=zg hb1 hb;have c0:=zj hbw i0;have c1:=zj hbw i1;have c2:=zj hbw i2;have hns:=zmF hnest.out hkl;have hI:=zmP k out op (by omega) hnest.out;have hopb:op.length<=1200:=pN (znm op l.length hI.sorted (fun o ho=>(hI.lt o ho).2)) (by rw[Hn.out];exact hlen);have hgl:g<wr.heap.size:=(hrow.out.lt g rfl).2;have hgol:=znx hout.out;have hbt:=zf wr (.cells #[.int .u8 l[k].kind,.string ⟨l[k].text.toArray⟩,.int .i64 l[k].at_] 37 (0,0));have hnt:=zk wr (.cells #[.int .u8 l[k].kind,.string ⟨l[k].text.toArray⟩,.int .i64 l[k].at_] 37 (0,0));have hmb2:=zi (zh hbt hmb.out);have hout2:=zi (zh hbt hout.out);have hrow2:=zi (VN hrow.out hbt);have hb2':=zg hb hbt;have HQ:=zi q;clear i0 i1 i2 q hl0;have hxk:l[k]? =some l[k]:=glE hkl;have Hxk:=zi hxk;clear hxk;generalize l[k]=x at *;obtain⟨k1,t1,a1⟩:=x;simp only at c0 c1 c2 hnt;have Hns:=zi hns;have HI:=zi hI;have Hnt:=zi hnt;clear hns hI hnt;by_cases hk6:k1=6
    ·have z1:((k1:Int) != 6)=false:=by rw[hk6];rfl
     have hlk:=znf hmb2.out t1;have hst:ziV l k ⟨k1,t1,a1⟩ out op=if zcN t1≠[] then some (out,op ++ [k]) else if zkh t1=true then (match op.getLast? with
      |none=>none
      |some o=>if (l[o]?.map fun u=>zcN u.text)=some t1 then some ((out.set k (o:Int)).set o (k:Int),op.dropLast) else none) else some (out,op):=by
      unfold ziV;rw[if_neg (by simp[hk6])]
      try rfl
     have Hst:=zi hst;clear hst hk6;by_cases hcl:zcN t1=[]
     ·rw[hcl] at hlk;have hCn:=zi (fun (W:World) (hb':Below w.heap.size w W)=>hCt.out t1 W hb');rw[zn9] at hCn;cases hcc:zkh t1 with
      |false=>
       rw[hcc] at hCn;have hn2:Hid (ziT l (k+1)=some (out,op)):=zi (by rw[Hns.out,Hst.out,if_neg (by simp[hcl]),if_neg (by simp[hcc])]);clear hcl hcc;go_wp2_with fail;refine (hCn.out _ (zg hbw hbt)).mono ?_;rintro e5 w5 ⟨rfl,rfl⟩;go_wp2;go_roundw
       case rel=>exact⟨k+1,out,op,g,cap,rfl,by go_num,by omega,hn2,hmb2,hout2,hrow2,hg1,hg2,hb2'⟩
       case measure=>simp[intOf];omega
      |true=>
       rw[hcc] at hCn;cases hop:op.getLast? with
       |none=>
        have hop2:op=[]:=List.getLast?_eq_none_iff.1 hop;have hn2:Hid (r=([],9)):=zi (by
         have h9:ziT l (k+1)=none:=by rw[Hns.out,Hst.out,if_neg (by simp[hcl]),if_pos hcc,hop]
         rw[Hr.out,zmt h9 n (by omega)])
        subst hop2;clear hcl hcc hop;go_wp2_with fail;refine (hCn.out _ (zg hbw hbt)).mono ?_;rintro e5 w5 ⟨rfl,rfl⟩;go_wp2_with fail;go_quiet (fail);go_wp2;go_ret2;exact⟨.inr ⟨by rw[hn2.out];decide,by rw[hn2.out],by rw[hn2.out];rfl⟩,ym (zg hbw hbt) nq⟩
       |some o=>
        have hsplit:=zlR hop;have hoin:o∈op:=List.mem_of_getLast? hop;obtain⟨hok,hol⟩:=HI.out.lt o hoin;obtain⟨op2,hop2⟩:∃x,op.dropLast=x:=⟨_,rfl⟩;rw[hop2] at hsplit;have hHI:=HI.out.len;obtain⟨m,hm9⟩:=exE (op2.length);have hopl:op.length=m+1:=by rw[hsplit,pC,pI,hm9]
        have hro:wr.cell? ⟨g,m,none⟩=some (.int .i64 (o:Int)):=by
         have h1:=World.ownsRow.cellAt hrow.out m (by omega);rw[h1,hsplit];simp only[zn4,List.map_append,List.map_cons,List.map_nil];rw[wM (by simp;omega)];simp[hm9]
        have hro2:=zj hbt hro;obtain⟨j0,j1,j2⟩:=HQ.out o hol;have d1:=zj (zg hbw hbt) j1;have hxo:l[o]? =some l[o]:=glE hol;have e0:=zd Hnt.out 0;have e1:=zd Hnt.out 1;have e2:=zd Hnt.out 2;simp only[pV,List.getElem?_cons_zero,List.getElem?_cons_succ] at e0 e1 e2;generalize hlo:l[o]=y at *;obtain⟨k2,t2,a2⟩:=y;simp only at d1;have hlk2:=znf hmb2.out t2;have hon:o<n:=by rw[<-Hn.out];exact hol
        have hfzo:∀j,(wr.alloc (.cells #[.int .u8 (k1:Int),.string ⟨t1.toArray⟩,.int .i64 a1] 37 (0,0))).frozen? ⟨go,j,none⟩=false:=fun j=>zl hout2.out j
        have y1:IntKind.i64.wrap (((m+1:Nat):Int)-1)=(m:Int):=by rw[pJ _ ⟨by omega,by omega⟩];omega
        have y1':IntKind.i64.wrap ((m:Int)+1-1)=(m:Int):=by rw[pJ _ ⟨by omega,by omega⟩];omega
        have y2:decide ((m:Int)<0)=false:=by rw[wO];omega
        have hmn:m<m+1:=by omega
        have hHop:=zi (And.intro hsplit (And.intro hop2 hop));have hHr:=zi hrow2.out;have hHxo:=zi hxo;have hcap:m<=cap:=by
         obtain⟨_,⟨h,_⟩|⟨g',cap',cur,h,_,_,hnc,_⟩⟩:=id hrow.out
         ·simp at h
         ·simp only[Value.slice.injEq,pQ,Addr.mk.injEq,and_true,true_and] at h;obtain⟨_,rfl⟩:=h;omega
        have hHc:=zi (And.intro hcl hcc);clear j0 j1 j2 hxo hro hlo hcl hop hop2 hsplit hcc;rw[hopl];by_cases hmt:zcN t2=t1
        ·have hn2:Hid (ziT l (k+1)=some ((out.set k (o:Int)).set o (k:Int),op2)):=zi (by
          rw[Hns.out,Hst.out,if_neg (by simp[hHc.out.1]),if_pos hHc.out.2,hHop.out.2.2];simp[hmt,hHxo.out,hHop.out.2.1])
         have hr1:(zcN t2 == t1)=true:=by rw[pS];exact hmt
         have hr2:(zcN t2 != t1)=false:=by rw[gD];exact hmt
         clear hmt;go_wp2_with fail;refine (hCn.out _ (zg hbw hbt)).mono ?_;rintro e5 w5 ⟨rfl,rfl⟩;go_wp2_with fail;have hS:∀W,Cl (wr.alloc (.cells #[.int .u8 (k1:Int),.string ⟨t1.toArray⟩,.int .i64 a1] 37 (0,0))).drew W->(W.cell? ⟨g,m,none⟩=some (.int .i64 (o:Int))/\W.cell? ⟨gt,o*3+1,none⟩=some (.string ⟨t2.toArray⟩)/\W.cell? ⟨wr.heap.size,0,none⟩=some (.int .u8 (k1:Int))/\W.cell? ⟨wr.heap.size,1,none⟩=some (.string ⟨t1.toArray⟩)/\(Instr.lookup 105 (.map (some mb)) (.string ⟨t2.toArray⟩) false).run prog W=.ok (.string ⟨(zcN t2).toArray⟩) W):=fun W h=>⟨zj h.below hro2,zj h.below d1,zj h.below e0,zj h.below e1,znf (zh h.below hmb2.out) t2⟩
         refine zaQ [(0,0),(1,0),(2,0),(3,0),(4,0),(5,0),(6,0),(7,0),(8,1),(9,0),(10,0),(11,1),(12,1),(13,0),(14,1),(15,0),(16,0)] ?_;refine goM ?_;refine zC fun W' hW'=>?_
         have hbW:Below (wr.alloc (.cells #[.int .u8 (k1:Int),.string ⟨t1.toArray⟩,.int .i64 a1] 37 (0,0))).heap.size (wr.alloc (.cells #[.int .u8 (k1:Int),.string ⟨t1.toArray⟩,.int .i64 a1] 37 (0,0))) W':=zg bR.drew hW'.below;have q0:=zj hbW hro2;have hout5:=zh hbW hout2.out;have hmb5:=zi (zh hbW hmb2.out);have hrow5:=VN hrow2.out hbW;have hb5:=zg hb2' hbW;have f0:=zl hout5 k;have f1:=zl hout5 o;have u0:=zd hout5 k;have u1:=zd hout5 o;have hfk:=HI.out.fut k (pE _) hkl;have hoo:=(HI.out.opn o (by rw[hHop.out.1];simp)).1;simp only[pV,zna,pZ,hfk,hoo,Option.map_some] at u0 u1;have hgw:w1.heap.size<=go:=hg1w;have hset:=zi (zr (zr hout5 k (.int .i64 (o:Int))) o (.int .i64 (k:Int)));have hbs:=zi ((hb5.setCell (p:=⟨go,k,none⟩) hgw (.int .i64 (o:Int))).setCell (p:=⟨go,o,none⟩) hgw (.int .i64 (k:Int)));have hmg:mb≠go:=fun e=>by
          have h1:=hmb.out;rw[e,hout.out] at h1;cases h1
         have hms:=zi ((zt (b:=go) (k:=mb) hmg (w:=W'.setCell ⟨go,k,none⟩ (.int .i64 (o:Int))) (i:=o) (v:=.int .i64 (k:Int))).trans ((zt (b:=go) (k:=mb) hmg (w:=W') (i:=k) (v:=.int .i64 (o:Int))).trans hmb5.out));have hrs:=zi (World.ownsRow.kept (World.ownsRow.kept hrow5 (qZ W' go k (.int .i64 (o:Int))) (.inr (by simp[Value.ownBlock];exact hg1))) (qZ (W'.setCell ⟨go,k,none⟩ (.int .i64 (o:Int))) go o (.int .i64 (k:Int))) (.inr (by simp[Value.ownBlock];exact hg1)));have hHrow:=zi hrow5;have hOut5:=zi hout5;clear hout5 hrow5 hfk hoo;go_wp2_with fail;go_region;clear q0 f0 f1 u0 u1;generalize World.setCell _ ⟨go,o,none⟩ _=W9 at *;have hset2:W9.heap[go]? =some (.cells (zna ((out.set k (o:Int)).set o (k:Int))).toArray 3 (0,0)):=by
          have:=hset.out;rw[this];simp[zna,List.map_set]
         have hset3:=zi hset2;have hop9:op2.length=m:=hm9;have hcap2:(m:Int)<=(cap:Int):=by omega
         clear hset2;have hrs2:W9.ownsRow w1.heap.size 3 1 (.slice (some ⟨g,0,none⟩) m cap) m (zn4 op2):=by
          have h1:=hrs.out;have h2:op.length=op2.length+1:=by rw[hHop.out.1];simp
          have h3:zn4 op=zn4 op2 ++ [.int .i64 (o:Int)]:=by rw[hHop.out.1];simp[zn4]
          rw[h2,h3] at h1;have h4:=zn0 h1;rw[hop9] at h4;exact h4
         have hrs3:=zi hrs2;clear hrs2;go_wp2;go_roundw
         case rel=>exact⟨k+1,(out.set k (o:Int)).set o (k:Int),op2,g,cap,by rw[hop9],by go_num,by omega,hn2,hms,hset3,by rw[hop9];exact hrs3,hg1,hg2,hbs.out.drew⟩
         case measure=>simp[intOf];omega
        ·have hn2:Hid (r=([],9)):=zi (by
          have h9:ziT l (k+1)=none:=by
           rw[Hns.out,Hst.out,if_neg (by simp[hHc.out.1]),if_pos hHc.out.2,hHop.out.2.2];simp[hmt,hHxo.out]
          rw[Hr.out,zmt h9 n (by omega)])
         have hr1:(zcN t2 == t1)=false:=bfE hmt
         have hr2:(zcN t2 != t1)=true:=by rw[wT];exact hmt
         clear hmt;go_wp2_with fail;refine (hCn.out _ (zg hbw hbt)).mono ?_;rintro e5 w5 ⟨rfl,rfl⟩;go_wp2_with fail;have hS:∀W,Cl (wr.alloc (.cells #[.int .u8 (k1:Int),.string ⟨t1.toArray⟩,.int .i64 a1] 37 (0,0))).drew W->(W.cell? ⟨g,m,none⟩=some (.int .i64 (o:Int))/\W.cell? ⟨gt,o*3+1,none⟩=some (.string ⟨t2.toArray⟩)/\W.cell? ⟨wr.heap.size,0,none⟩=some (.int .u8 (k1:Int))/\W.cell? ⟨wr.heap.size,1,none⟩=some (.string ⟨t1.toArray⟩)/\(Instr.lookup 105 (.map (some mb)) (.string ⟨t2.toArray⟩) false).run prog W=.ok (.string ⟨(zcN t2).toArray⟩) W):=fun W h=>⟨zj h.below hro2,zj h.below d1,zj h.below e0,zj h.below e1,znf (zh h.below hmb2.out) t2⟩
         refine zaQ [(0,0),(1,0),(2,0),(3,0),(4,0),(5,0),(6,0),(7,0),(8,1),(9,0),(10,0),(11,1),(12,1),(13,0),(14,1),(15,0),(16,0)] ?_;refine goM ?_;refine zC fun W' hW'=>?_
         go_wp2;go_ret2;exact⟨.inr ⟨by rw[hn2.out];decide,by rw[hn2.out],by rw[hn2.out];rfl⟩,zg (zg (zg hbw hbt).drew hW'.below) bR⟩
     ·have hn2:Hid (ziT l (k+1)=some (out,op ++ [k])):=zi (by rw[Hns.out,Hst.out,if_pos hcl]);have hne:(⟨(zcN t1).toArray⟩:ByteArray).toList.isEmpty=false:=by
       rw[ByteArray.toList_eq,List.isEmpty_eq_false_iff];exact hcl
      generalize (⟨(zcN t1).toArray⟩:ByteArray)=cb at *;clear hcl;have hbn:=zf (wr.alloc (.cells #[.int .u8 (k1:Int),.string ⟨t1.toArray⟩,.int .i64 a1] 37 (0,0))) (.cells #[.int .i64 (k:Int)] 3 (0,0));have hbw2:=zg hb2' hbn;have hrow3:=VN hrow2.out hbn;have hsz1:(wr.alloc (.cells #[.int .u8 (k1:Int),.string ⟨t1.toArray⟩,.int .i64 a1] 37 (0,0))).heap.size=wr.heap.size+1:=by simp
      have hnk:=zk (wr.alloc (.cells #[.int .u8 (k1:Int),.string ⟨t1.toArray⟩,.int .i64 a1] 37 (0,0))) (.cells #[.int .i64 (k:Int)] 3 (0,0));rw[hsz1] at hnk;have hw1s:=hbw2.size;go_wp2_with (at_builtin;refine zmR rfl _ _ rfl rfl hrow3 rfl (zd hnk 0) rfl rfl (by omega) hw1s ?_);intro g' cap' w5 hrow4 hgrow hg';have hmb3:=zh hbn hmb2.out;have hout3:=zh hbn hout2.out;have hb6:Below w1.heap.size w1 w5:=vJ hbw2 hrow3 hgrow;have hmb4:w5.heap[mb]? =some zoa:=by rw[hgrow.block mb (znx hmb3) (by simp;exact fun e=>hg2 e.symm)];exact hmb3
      have hout4:w5.heap[go]? =some (.cells (zna out).toArray 3 (0,0)):=by rw[hgrow.block go (znx hout3) (by simp;exact fun e=>hg1 e.symm)];exact hout3
      have hmb5:=znx hmb.out;have hg3:g'≠go/\g'≠mb:=by
       rcases hg' with rfl|rfl
       ·exact⟨hg1,hg2⟩
       ·constructor <;> omega
      have hrow5:w5.ownsRow w1.heap.size 3 1 (.slice (some ⟨g',0,none⟩) (op ++ [k]).length cap') (op ++ [k]).length (zn4 (op ++ [k])):=by
       rw[pC,pI];simp only[zn4,List.map_append,List.map_cons,List.map_nil];exact hrow4
      have hopk:op.length+1=(op ++ [k]).length:=by simp
      rw[hopk];have hrow6:=zi hrow5;have hmb6:=zi hmb4;have hout6:=zi hout4;clear hrow3 hrow4 hrow5 hgrow hmb3 hout3 hmb4 hout4 hnk hsz1 hopk;go_wp2;go_roundw
      case rel=>exact⟨k+1,out,op ++ [k],g',cap',rfl,by go_num,by omega,hn2,hmb6,hout6,hrow6,hg3.1,hg3.2,hb6⟩
      case measure=>simp[intOf];omega
    ·have z1:((k1:Int) != 6)=true:=by rw[wT];omega
     have hn2:Hid (ziT l (k+1)=some (out,op)):=zi (by rw[Hns.out];unfold ziV;rw[if_pos (by simpa using hk6)]);clear hk6;go_wp2;go_roundw
     case rel=>exact⟨k+1,out,op,g,cap,rfl,by go_num,by omega,hn2,hmb2,hout2,hrow2,hg1,hg2,hb2'⟩
     case measure=>simp[intOf];omega
   ·have hkn:k=n:=by omega
    subst hkn;have hb6:=zg hb1 hb;cases hop:op with
    |nil=>
     subst hop;have hn2:Hid (r=(out,0)):=zi (by rw[Hr.out,hnest.out];rfl);have hlo:Hid (out.length=k):=zi (by rw[(zmP k out [] (by rw[Hn.out];exact pE _) hnest.out).len,Hn.out]);go_wp2;go_ret2;exact⟨.inl ⟨by rw[hn2.out],go,by rw[hn2.out,hlo.out];rfl,by rw[hn2.out];exact hout.out⟩,hb6⟩
    |cons o1 op1=>
     subst hop;have hn2:Hid (r=([],9)):=zi (by rw[Hr.out,hnest.out];rfl);have z9:decide ((0:Int)<((op1.length+1:Nat):Int))=true:=by rw[pH];omega
     have z10:(0:Int)<(op1.length:Int)+1:=by omega
     go_wp2;go_ret2;exact⟨.inr ⟨by rw[hn2.out];decide,by rw[hn2.out],by rw[hn2.out];rfl⟩,hb6⟩
 ·have hr2:r=([],yT l):=by rw[hr,if_pos h0]
  subst hr2;have HA2:=HA.out.mono (R':=fun e w'=>e=.returned (.tuple #[.slice none 0 0,.int .i64 (yT l)])/\Below w.heap.size w w') (fun e w' ⟨h,hb⟩=>by
   rcases h with⟨h,_⟩|⟨_,h⟩
   ·exact absurd h h0
   ·exact⟨h,hb⟩)
  have HA2:=zi HA2;generalize yT l=se at *;have h0':((se:Int) != 0)=true:=by rw[wT];omega
  clear hr HA HV hm;go_enter func27,ntmps27;go_wp2_with fail;refine HA2.out.mono ?_;rintro e w1 ⟨rfl,hb1⟩;go_wp2;go_ret2;exact⟨.inr ⟨h0,rfl,rfl⟩,hb1⟩
end
end Go.Proofs.YtnncmdpopgkibaaGreatDoor
namespace Lode
abbrev Pc:=List UInt8×Option (Nat×List UInt8)
def kwd(s:List UInt8):Pc:=(s,some (5,s))
def sg(s:List UInt8):Pc:=(s,some (6,s))
def nm(s:List UInt8):Pc:=(s,some (1,s))
def bg(s:List UInt8):Pc:=(s,some (2,s))
def nu(n:Int):Pc:=(Go.Lib.itoa n,some (3,Go.Lib.itoa n))
def tx(s:List UInt8):Pc:=((qA s).1,some (4,s))
def sp:Pc:=([32],none)
def pcB(p:List Pc):List UInt8:=p.flatMap fun x=>x.1
def pcT(p:List Pc):List (Nat×List UInt8):=p.filterMap fun x=>x.2
theorem zmn(a b:List Pc):pcB (a ++ b)=pcB a ++ pcB b:=by simp[pcB]
theorem zmL:pcB []=[]:=rfl
theorem zii(x:Pc)(b:List Pc):pcB (x :: b)=x.1 ++ pcB b:=by simp[pcB]
def zmx(s:List UInt8):Pc:=if s=[111,114]\/s=[97,110,100]\/s=[105,115] then kwd s else sg s
section
variable (l:List Nd) (pc:Int→List Pc)
def zlQ(node:Int)(least:Nat):List Pc:=if qj (zE l node)<least then sg [40] :: (pc node ++ [sg [41]]) else pc node
def zmE:List (List Pc)->List Pc
 |[]=>[]
 |[x]=>x
 |x :: r=>x ++ sg [44] :: sp :: zmE r
def zme(k:List Int):List Pc:=zmE (k.map pc)
def zlP(k:List Int):List Pc:=if k=[] then [] else sg [40] :: (zme pc k ++ [sg [41]])
def zlV(last:Bool):List Int->List Pc
 |[]=>[]
 |[k]=>pc k ++ (if last then [sp] else [sg [59],sp])
 |k :: r=>pc k ++ sg [59] :: sp :: zlV last r
def zmd(x:Nd):List Pc:=if x.kids=[] then [sg [123],sg [125]] else sg [123] :: sp :: (zlV pc (x.n != 0) x.kids ++ [sg [125]])
def zjf(x:Nd)(without:Nat):List Pc:=sg [40] :: (zme pc (x.kids.take (x.kids.length-1-without)) ++ sg [41] :: sg [58] :: sp :: pc (zN x (x.kids.length-1-without)))
def zk5(x:Nd):List Pc:=
 if x.kind == 60 then kwd [108,101,116] :: sp :: nm x.text :: sp :: sg [61] :: sp :: pc (zN x 0)
 else if x.kind == 61 then kwd [118,97,114] :: sp :: nm x.text :: sp :: sg [61] :: sp :: pc (zN x 0)
 else if x.kind == 62 then pc (zN x 0) ++ sp :: sg [58,61] :: sp :: pc (zN x 1)
 else if x.kind == 63 then kwd [114,101,99,118] :: sp :: (pc (zN x 0) ++ sp :: kwd [97,115] :: sp :: nm x.text :: sp :: sg [61,62] :: sp :: pc (zN x 1))
 else if x.kind == 64 then kwd [115,101,110,100] :: sp :: (zme pc (x.kids.take 2) ++ sp :: sg [61,62] :: sp :: pc (zN x 2))
 else kwd [101,108,115,101] :: sp :: sg [61,62] :: sp :: pc (zN x 0)
def zhY(x:Nd):List Pc:=
 if x.kind == 80 then [kwd [105,110,116]] else if x.kind == 81 then [kwd [98,111,111,108]] else if x.kind == 82 then [kwd [116,101,120,116]] else if x.kind == 83 then [kwd [117,110,105,116]]
 else if x.kind == 85 then kwd [102,110] :: zjf pc x 0
 else if x.kind == 86 then kwd [99,104,97,110] :: sp :: pc (zN x 0)
 else if x.kind == 87 then kwd [119,101,97,107] :: sp :: pc (zN x 0)
 else if x.kind == 88 then nm x.text :: sg [58] :: sp :: pc (zN x 0)
 else if x.kind == 100 then kwd [99,108,97,115,115] :: sp :: bg x.text :: sp :: sg [123] :: sp :: (zme pc x.kids ++ [sp,sg [125]])
 else if x.kind == 101 then kwd [107,105,110,100] :: sp :: bg x.text :: sp :: sg [123] :: sp :: (zme pc x.kids ++ [sp,sg [125]])
 else if x.kind == 103 then kwd [101,120,116,101,114,110] :: sp :: kwd [102,117,110] :: sp :: nm x.text :: (zjf pc x 0 ++ [sg [59]])
 else if x.kind == 104 then kwd [114,111,111,116] :: sp :: nm x.text :: sg [58] :: sp :: (pc (zN x 0) ++ sp :: sg [61] :: sp :: (pc (zN x 1) ++ [sg [59]]))
 else (if x.n == 1 then [kwd [112,117,114,101],sp] else []) ++ kwd [102,117,110] :: sp :: nm x.text :: (zjf pc x 1 ++ sp :: pc (zN x (x.kids.length-1)))
def zeC(x:Nd):List Pc:=
 if x.kind == 29 then kwd [105,102] :: sp :: (pc (zN x 0) ++ sp :: (pc (zN x 1) ++ (if x.kids.length == 3 then sp :: kwd [101,108,115,101] :: sp :: pc (zN x 2) else [])))
 else if x.kind == 30 then kwd [119,104,105,108,101] :: sp :: (pc (zN x 0) ++ sp :: pc (zN x 1))
 else if x.kind == 31 then kwd [109,97,116,99,104] :: sp :: (pc (zN x 0) ++ sp :: sg [123] :: sp :: (zme pc (x.kids.drop 1) ++ [sp,sg [125]]))
 else if x.kind == 32 then pc (zN x 0) ++ sp :: sg [61,62] :: sp :: pc (zN x 1)
 else if x.kind == 33 then kwd [102,110] :: (zjf pc x 1 ++ sp :: pc (zN x (x.kids.length-1)))
 else if x.kind == 34 then kwd [116,114,121] :: sp :: (pc (zN x 0) ++ sp :: kwd [99,97,116,99,104] :: sp :: nm x.text :: sp :: pc (zN x 1))
 else if x.kind == 35 then kwd [115,101,108,101,99,116] :: sp :: sg [123] :: sp :: (zme pc x.kids ++ [sp,sg [125]])
 else if x.kind == 36 then kwd [104,111,108,100] :: sp :: (pc (zN x 0) ++ sp :: kwd [97,115] :: sp :: nm x.text :: sp :: (pc (zN x 1) ++ sp :: kwd [101,108,115,101] :: sp :: pc (zN x 2)))
 else if x.kind == 26 then kwd [110,101,119] :: sp :: bg x.text :: sp :: sg [123] :: sp :: (zme pc x.kids ++ [sp,sg [125]])
 else if x.kind == 27 then nm x.text :: sg [58] :: sp :: pc (zN x 0)
 else kwd [99,104,97,110] :: sp :: (pc (zN x 0) ++ [sg [40],nu x.n,sg [41]])
def zfI(x:Nd):List Pc:=
 match xE x.kind with
 |some s=>zlQ l pc (zN x 0) (if qj x.kind == 4 then 5 else qj x.kind) ++ sp :: zmx s :: sp :: zlQ l pc (zN x 1) (qj x.kind+1)
 |none=>
  if x.kind == 1 then [nu x.n]
  else if x.kind == 67 then (if x.n<0 then [sg [45],nu (-x.n)] else [nu x.n])
  else if x.kind == 2 || x.kind == 68 then [tx x.text]
  else if x.kind == 3 || x.kind == 69 then [if x.n == 1 then kwd [116,114,117,101] else kwd [102,97,108,115,101]]
  else if x.kind == 4 then [sg [40],sg [41]]
  else if x.kind == 5 || x.kind == 66 then [nm x.text]
  else if x.kind == 84 then [bg x.text]
  else if x.kind == 6 then sg [45] :: (if zE l (zN x 0) == 6 then sp :: pc (zN x 0) else zlQ l pc (zN x 0) 7)
  else if x.kind == 7 then kwd [110,111,116] :: sp :: zlQ l pc (zN x 0) 3
  else if x.kind == 23 then zlQ l pc (zN x 0) 8 ++ [sg [46],nm x.text]
  else if x.kind == 24 then (if zE l (zN x 0) == 25 && ((l[(zN x 0).toNat]?).elim [] Nd.kids).isEmpty then sg [40] :: (zlQ l pc (zN x 0) 8 ++ [sg [41]]) else zlQ l pc (zN x 0) 8) ++ sg [40] :: (zme pc (x.kids.drop 1) ++ [sg [41]])
  else if x.kind == 25 || x.kind == 70 || x.kind == 89 then bg x.text :: zlP pc x.kids
  else if x.kind == 28 then zmd pc x
  else match zM.find? fun w=>w.2.1 == x.kind with
   |some w=>if w.2.2<0 then kwd w.1 :: sp :: zlQ l pc (zN x 0) 7 else if w.2.2 == 0 then [kwd w.1] else kwd w.1 :: sg [40] :: (zme pc x.kids ++ [sg [41]])
   |none=>
    if decide (60<=x.kind) && decide (x.kind<=65) then zk5 pc x
    else if 80<=x.kind then zhY pc x
    else zeC pc x
end
def pcN(l:List Nd):Nat->Int->List Pc
 |0,_=>[]
 |f+1,node=>match l[node.toNat]? with
  |some x=>zfI l (pcN l f) x
  |none=>[]
section
variable {l:List Nd} {pc:Int→List Pc} {pr:Int→List UInt8} (H:∀k,pcB (pc k)=pr k)
include H
theorem zqb(k:Int)(r:Nat):pcB (zlQ l pc k r)=jq l pr k r:=by
 unfold zlQ jq;split
 ·simp[zii,zmn,zmL,H,sg]
 ·exact H k
theorem zpM:∀(ks:List Int),pcB (zmE (ks.map pc))=kZ (ks.map pr)
 |[]=>rfl
 |[k]=>H k
 |k :: j :: r=>by
  show pcB (pc k ++ sg [44] :: sp :: zmE ((j :: r).map pc))=pr k ++ [44,32] ++ kZ ((j :: r).map pr)
  rw[zmn,H k,zii,zii,zpM (j :: r)];simp[sg,sp]
theorem zqc(ks:List Int):pcB (zme pc ks)=xY pr ks:=zpM H ks
theorem zox(last:Bool):∀(ks:List Int),pcB (zlV pc last ks)=qo pr last ks
 |[]=>rfl
 |[k]=>by
  show pcB (pc k ++ _)=pr k ++ _ ++ _
  rw[zmn,H k];cases last <;> simp[zii,zmL,sg,sp]
 |k :: j :: r=>by
  show pcB (pc k ++ sg [59] :: sp :: zlV pc last (j :: r))=pr k ++ [59] ++ [32] ++ qo pr last (j :: r)
  rw[zmn,H k,zii,zii,zox last (j :: r)];simp[sg,sp]
end
section
abbrev KTt:=Nat×List UInt8
def ktt(t:yp):KTt:=(t.kind,t.text)
variable {l:List Nd} {n:Nat}
section
end
def zmJ(l:List Nd):Nat->List Int->Nat->Prop
 |p,[],q=>p=q
 |p,k :: r,q=>0<=k/\k<l.length/\loN l k+1=(p:Int)/\zmJ l (k+1).toNat r q
theorem zmN{l:List Nd}:∀(a b:List Int) (p q:Nat),zmJ l p (a ++ b) q↔∃m,zmJ l p a m/\zmJ l m b q
 |[],b,p,q=>⟨fun h=>⟨p,rfl,h⟩,fun ⟨m,h1,h2⟩=>by cases h1;exact h2⟩
 |k :: a,b,p,q=>by
  constructor
  ·rintro ⟨h1,h2,h3,h4⟩;obtain⟨m,h5,h6⟩:=(zmN a b _ _).1 h4;exact⟨m,⟨h1,h2,h3,h5⟩,h6⟩
  ·rintro ⟨m,⟨h1,h2,h3,h4⟩,h5⟩;exact⟨h1,h2,h3,(zmN a b _ _).2 ⟨m,h4,h5⟩⟩
theorem znv{l:List Nd}(hF:xL l l.length):∀(rk:List Int) (p e:Int),p<l.length->-1<=e->ZM (jH l l.length) rk p=some e->zmJ l (e+1).toNat rk.reverse (p+1).toNat
 |[],p,e,_,_,h=>by
  cases h;rfl
 |k :: r,p,e,hp,he,h=>by
  unfold ZM at h;split at h
  ·cases h
  ·rename_i hc;have hk:k=p:=by omega
   have hpos:=(zbH hF (i:=p.toNat) (by omega)).2;have hlo:loN l p=p-((jH l l.length).getD p.toNat 0:Nat):=rfl;rw[show ((p.toNat:Nat):Int)=p by omega] at hpos;have h1:=znv hF r _ e (by omega) he h;have h2:=VG _ _ _ h;rw[List.reverse_cons,zmN];refine⟨_,h1,by omega,by omega,?_,?_⟩
   ·rw[hk,hlo];omega
   ·rw[hk];rfl
theorem znX{l:List Nd}:∀(rk:List Int) (p e:Int),-1<=p->(∀j:Nat,(j:Int)<=p->-1<=loN l j)->ZM (jH l l.length) rk p=some e->-1<=e
 |[],p,e,hp,_,h=>by
  cases h;exact hp
 |k :: r,p,e,hp,hj,h=>by
  unfold ZM at h;split at h
  ·cases h
  ·have h1:=hj p.toNat (by omega);have h2:loN l (p.toNat:Nat)=((p.toNat:Nat):Int)-((jH l l.length).getD ((p.toNat:Nat):Int).toNat 0:Nat):=rfl;rw[show ((p.toNat:Nat):Int).toNat=p.toNat by omega] at h2;exact znX r _ e (by omega) (fun j h3=>hj j (by omega)) h
theorem zqa{l:List Nd}(hF:xL l l.length):∀i:Nat,i<l.length->-1<=loN l i:=by
 intro i;induction i using Nat.strongRecOn with
 |ind i ih=>
  intro hi;exact znX _ _ _ (by omega) (fun j hj=>ih j (by omega) (by omega)) (zbH hF hi).1
theorem zon{l:List Nd}(hF:xL l l.length){i:Nat}(hi:i<l.length):zmJ l (loN l i+1).toNat (l[i]'hi).kids i:=by
 have:=znv hF _ _ _ (by omega) (zqa hF i hi) (zbH hF hi).1;rw[List.reverse_reverse,show (((i:Int)-1)+1).toNat=i by omega] at this;exact this
end
section
variable {E E':zv} {M:Nat→Bool} {b:Bool} {R R':xN}
theorem zpx{k:Nat}{acc:List Int}:qB R (k+1) false acc=ZO (isS [[44]]) (fun _=>R.expr >>= fun x=>qB R k false (acc ++ [x])) kL:=by
 rw[<-yX];refine ZY fun E s=>?_
 show PM.bind (PM.bind (zL [44]) fun _=>PM.ret ()) (fun _=>R.expr >>= fun x=>qB R k false (acc ++ [x])) E s=PM.bind (zL [44]) _ E s
 unfold PM.bind;cases zL [44] E s <;> rfl
end
section
variable {E E':zv} {M:Nat→Bool} {b:Bool} {R R':xN}
section
variable {α:Type}
theorem zpP{p:yp->Bool}{A:yp->PM α}{B:PM α}{s:zY}(h:p (zy E s)=false):ZO p A B E s=B E s:=by
 unfold ZO;rw[h,if_neg (by decide)]
theorem zpy{p:yp->Bool}{A:yp->PM α}{B:PM α}{s:zY}(h:p (zy E s)=true):ZO p A B E s=A (zy E s) E {s with next:=s.next+1}:=by
 unfold ZO;rw[h,if_pos rfl]
end
end
section
def zjS(x:KTt):Bool:=(x.1 == 5 || x.1 == 6) && x.2 == [40]
def opK(l:List KTt):Nat:=l.countP zjS
variable (N:List Nd)
def pk(a:Int)(r:Nat):Nat:=if qj (zE N a)<r then 1 else 0
def pkC(a:Int):Nat:=if (zE N a == 25 && ((N[a.toNat]?).elim [] Nd.kids).isEmpty)=true then 1 else pk N a 8
def ziU(x:Nd):Nat:=
 match xE x.kind with
 |some _=>pk N (zN x 0) (if qj x.kind == 4 then 5 else qj x.kind)+pk N (zN x 1) (qj x.kind+1)
 |none=>
  if x.kind == 4 then 1
  else if x.kind == 6 then (if zE N (zN x 0) == 6 then 0 else pk N (zN x 0) 7)
  else if x.kind == 7 then pk N (zN x 0) 3
  else if x.kind == 23 then pk N (zN x 0) 8
  else if x.kind == 24 then pkC N (zN x 0)+1
  else if x.kind == 25 || x.kind == 70 || x.kind == 89 then (if x.kids=[] then 0 else 1)
  else match zM.find? fun w=>w.2.1 == x.kind with
   |some w=>if w.2.2<0 then pk N (zN x 0) 7 else if w.2.2 == 0 then 0 else 1
   |none=>if [33,40,85,102,103].contains x.kind then 1 else 0
def ziS(l:List Nd):Nat:=(l.map (ziU N)).sum
end
section
variable {N:List Nd} {E:zv}
theorem zkH(a b:List Nd):ziS N (a ++ b)=ziS N a+ziS N b:=by simp[ziS]
theorem zpK(a:Int)(r:Nat):pk N a r<=1:=by unfold pk;split <;> omega
theorem znd{a:Int}{r q:Nat}(h:r<=q):pk N a r<=pk N a q:=by
 unfold pk;split
 ·rw[if_pos (by omega)];exact pE _
 ·exact pU _
theorem zms{a:Int}{r:Nat}(h:r<=qj (zE N a)):pk N a r=0:=by
 unfold pk;rw[if_neg (by omega)]
theorem zpa(a:Int):pkC N a<=1:=by
 unfold pkC;split
 ·exact pE _
 ·exact zpK a 8
def zmA(E:zv)(i:Nat):Nat:=opK ((E.toks.take i).map ktt)
theorem zgQ{s:zY}:zmA E (s.next+1)=zmA E s.next+if zjS (ktt (zy E s)) then 1 else 0:=by
 unfold zmA zy;rw[wZ];cases h:E.toks[s.next]? with
 |none=>simp[zjS,ktt]
 |some t=>
  simp only[Option.toList_some,List.map_append,List.map_cons,List.map_nil,opK,List.countP_append,Option.getD_some];rw[List.countP_singleton]
variable {α β:Type}
def TC(N:List Nd)(E:zv)(k:Nat)(m:PM α)(g:α->Nat):Prop:=∀(s:zY) (a:α) (s1:zY),m E s=.ok a s1->∃r,s1.nodes=s.nodes ++ r/\((∃q,N=s1.nodes ++ q)->zmA E s.next+ziS N r+g a<=zmA E s1.next+k)
variable {k:Nat} {g:α→Nat}
theorem zdi{a:α}(h:g a<=k):TC N E k (pure a) g:=fun s x s1 e=>by
 obtain⟨rfl,rfl⟩:=zD e;exact⟨[],(wN _).symm,fun _=>by simp only[ziS,List.map_nil,List.sum_nil];omega⟩
theorem zez:TC N E k (kL:PM α) g:=fun _ _ _ e=>by cases e
theorem zmo{p:Int}:TC N E k (fun _ _=>.bad p:PM α) g:=fun _ _ _ e=>by cases e
theorem zmq{s1:List Nd}{x:Nd}(h:∃q,N=(s1 ++ [x]) ++ q):N[s1.length]? =some x:=by
 obtain⟨q,rfl⟩:=h;simp
theorem zmh{kd:Nat}{x:List UInt8}{n q:Int}{ks:List Int}{g:Int->Nat}(h:∀a:Int,N[a.toNat]? =some ⟨kd,x,n,ks,q⟩->zE N a=kd->ziU N ⟨kd,x,n,ks,q⟩+g a<=k):TC N E k (zG kd x n q ks) g:=fun s a s1 e=>by
 cases e;refine⟨_,rfl,fun hq=>?_⟩;have h1:=zmq hq;have h2:=h (s.nodes.length:Int) (by rw[wE];exact h1) (by unfold zE;rw[wE,h1];rfl);simp only[ziS,List.map_cons,List.map_nil,List.sum_cons,List.sum_nil];omega
theorem zlw{m:PM α}{f:α->PM β}{g:α->Nat}{h:β->Nat}(hm:TC N E k m g)(hf:∀a,TC N E (g a) (f a) h):TC N E k (m >>= f) h:=fun s a s1 e=>by
 obtain⟨x,s2,e1,e2⟩:=zm e;obtain⟨r,h1,h2⟩:=hm s x s2 e1;obtain⟨q,h3,h4⟩:=hf x s2 a s1 e2;refine⟨r ++ q,by rw[h3,h1,wS],fun ⟨p,hp⟩=>?_⟩;have:=h2 ⟨q ++ p,by rw[hp,h3,wS]⟩;have:=h4 ⟨p,hp⟩;rw[zkH];omega
variable {p:yp→Bool}
theorem zki{A:yp->PM α}{B:PM α}(hA:∀t,TC N E k (A t) g)(hB:TC N E k B g):TC N E k (ZO p A B) g:=fun s a s1 e=>by
 unfold ZO at e;split at e
 ·obtain⟨r,h1,h2⟩:=hA _ _ _ _ e;refine⟨r,h1,fun hq=>?_⟩;have:=h2 hq;simp only at this;rw[zgQ] at this;omega
 ·exact hB _ _ _ e
theorem zld{A:yp->PM α}{B:PM α}(hA:∀t,TC N E (k+1) (A t) g)(hB:TC N E k B g):TC N E k (ZO (isS [[40]]) A B) g:=fun s a s1 e=>by
 unfold ZO at e;split at e
 ·rename_i hp;obtain⟨r,h1,h2⟩:=hA _ _ _ _ e;refine⟨r,h1,fun hq=>?_⟩;have:=h2 hq;simp only at this;rw[zgQ] at this;have ho:zjS (ktt (zy E s))=true:=by
   unfold isS uq at hp;unfold zjS ktt;simpa using hp
  rw[ho,if_pos rfl] at this;omega
 ·exact hB _ _ _ e
end
section
variable {N:List Nd} {E:zv} {R:xN}
section
variable {α β:Type} {k:Nat} {g:α→Nat}
theorem zmv{l:List (List UInt8)}{f:Bool->PM α}(ht:TC N E k (f true) g)(hf:TC N E k (f false) g):TC N E k (uU l >>= f) g:=fun s a s1 e=>by
 change f (uq (zy E s) l) E s=_ at e;cases h:uq (zy E s) l with
 |true=>rw[h] at e;exact ht s a s1 e
 |false=>rw[h] at e;exact hf s a s1 e
theorem zmj{i:Int}{f:Nat->PM α}(h:∀k',TC N E k (f k') g):TC N E k (YJ i >>= f) g:=fun s a s1 e=>h _ s a s1 e
theorem zkj{c:Prop}[Decidable c]{m n:PM α}(h:TC N E k m g)(h':TC N E k n g):TC N E k (if c then m else n) g:=by
 split
 ·exact h
 ·exact h'
theorem zps{m:PM α}(h:TC N E 0 m fun _=>0):TC N E k m fun _=>k:=fun s a s1 e=>by
 obtain⟨r,h1,h2⟩:=h s a s1 e;exact⟨r,h1,fun hq=>by have h3:=h2 hq;simp only at h3 ⊢;omega⟩
theorem zbM{m:PM α}{f:α->PM β}{h:β->Nat}(hm:TC N E 0 m fun _=>0)(hf:∀a,TC N E k (f a) h):TC N E k (m >>= f) h:=zlw (zps hm) hf
theorem znc{m:Nat->PM α}(h:∀j,TC N E k (m j) g):TC N E k (fun E s=>m (E.toks.length+1) E s) g:=fun s a s1 e=>h _ s a s1 e
theorem zlH{kd:Nat}{x:List UInt8}{n q:Int}{ks:List Int}(h:(fun y=>ziU N ⟨kd,x,y,ks,q⟩)=fun _=>0:=by rfl):TC N E k (zG kd x n q ks) fun _=>0:=zmh fun a _ _=>by
 have h1:ziU N ⟨kd,x,n,ks,q⟩=0:=congrFun h n;show ziU N ⟨kd,x,n,ks,q⟩+0<=k
 omega
theorem zmk{kd:Nat}{x:List UInt8}{n q:Int}{ks:List Int}(h:(fun y=>ziU N ⟨kd,x,y,ks,q⟩)=fun _=>1:=by rfl):TC N E (0+1) (zG kd x n q ks) fun _=>0:=zmh fun a _ _=>by
 have h1:ziU N ⟨kd,x,n,ks,q⟩=1:=congrFun h n;show ziU N ⟨kd,x,n,ks,q⟩+0<=0+1
 omega
end
theorem znU{part:PM Int}(hp:TC N E 0 part fun _=>0):∀(j:Nat) (acc:List Int),TC N E 0 (qm j part acc) fun _=>0
 |0,_=>zmo
 |j+1,acc=>by
  simp only[qm,xT];exact zbM hp fun x=>zki (fun _=>znU hp j _) (zdi (pE _))
theorem zey{part:PM Int}(hp:TC N E 0 part fun _=>0):TC N E 0 (kC part) fun _=>0:=znc (m:=fun j=>qm j part []) fun j=>znU hp j []
structure RT(N:List Nd)(E:zv)(R:xN):Prop where
 expr:TC N E 0 R.expr fun _=>0
 unary:TC N E 0 R.unary fun a=>pk N a 7
 unaryH:∀s a s1,R.unary E s=.ok a s1->uq (zy E s1) [[46]]=false/\uq (zy E s1) [[40]]=false
 bin2:TC N E 0 R.bin2 fun a=>pk N a 3
 block:TC N E 0 R.block fun _=>0
 branch:TC N E 0 R.branch fun _=>0
 kind:TC N E 0 R.kind fun _=>0
 pattern:TC N E 0 R.pattern fun _=>0
theorem zm1{kd:Nat}(hk:kd=25\/kd=70\/kd=89){x:List UInt8}{n q:Int}{ks:List Int}:ziU N ⟨kd,x,n,ks,q⟩=if ks=[] then 0 else 1:=by rcases hk with rfl|rfl|rfl <;> rfl
theorem znT{part:PM Int}(hp:TC N E 0 part fun _=>0):TC N E 0 (qk part) fun l=>if l=[] then 0 else 1:=by
 try simp only[qk,yX,xA,xT,xm,jC,qi,qu,qt,xB,if_true,if_false,Bool.false_eq_true]
 refine zld (fun _=>zbM (zey hp) fun l=>zki (fun _=>zdi (by split <;> omega)) zez) (zdi (by rw[if_pos rfl];exact pE _))
section
variable (hR:RT N E R)
include hR
theorem zmT:TC N E 0 (jE R) (fun _=>0)/\TC N E 0 (ul R) (fun _=>0)/\TC N E 0 (Xa R) (fun _=>0)/\TC N E 0 (Xb R) (fun _=>0)/\TC N E 0 (vw R) (fun _=>0)/\TC N E 0 (qh R) (fun _=>0):=by
 have hks:TC N E 0 (qk R.kind) fun l=>if l=[] then 0 else 1:=znT hR.kind
 obtain⟨h1,h2,_,h3,h4,h5,h6,h7⟩:=hR;refine⟨?_,?_,?_,?_,?_,?_⟩
 ·try simp only[jE,yX,xA,xT,xm,jC,qi,qu,qt,xB,if_true,if_false,Bool.false_eq_true]
  repeat' first|exact zez|exact zdi (by omega)|exact zlH|exact zmk|assumption|refine zld (fun _=>?_) ?_|refine zki (fun _=>?_) ?_|refine zmv ?_ ?_|exact zey (by assumption)|refine zmj fun _=>?_|refine zkj ?_ ?_|refine zbM (by assumption) fun _=>?_|refine zbM (zey (by assumption)) fun _=>?_|refine zbM ?_ fun _=>?_
 ·try simp only[ul,yX,xA,xT,xm,jC,qi,qu,qt,xB,if_true,if_false,Bool.false_eq_true]
  exact zki (fun _=>zlw hks fun l=>zmh fun a _ _=>by rw[zm1 (.inr (.inr rfl))];omega) zez
 ·try simp only[Xa,yX,xA,xT,xm,jC,qi,qu,qt,xB,if_true,if_false,Bool.false_eq_true]
  repeat' first|exact zez|exact zdi (by omega)|exact zlH|exact zmk|assumption|refine zld (fun _=>?_) ?_|refine zki (fun _=>?_) ?_|refine zmv ?_ ?_|exact zey (by assumption)|refine zmj fun _=>?_|refine zkj ?_ ?_|refine zbM (by assumption) fun _=>?_|refine zbM (zey (by assumption)) fun _=>?_|refine zbM ?_ fun _=>?_
 ·try simp only[Xb,yX,xA,xT,xm,jC,qi,qu,qt,xB,if_true,if_false,Bool.false_eq_true]
  repeat' first|exact zez|exact zdi (by omega)|exact zlH|exact zmk|assumption|refine zld (fun _=>?_) ?_|refine zki (fun _=>?_) ?_|refine zmv ?_ ?_|exact zey (by assumption)|refine zmj fun _=>?_|refine zkj ?_ ?_|refine zbM (by assumption) fun _=>?_|refine zbM (zey (by assumption)) fun _=>?_|refine zbM ?_ fun _=>?_
 ·try simp only[vw,yX,xA,xT,xm,jC,qi,qu,qt,xB,if_true,if_false,Bool.false_eq_true]
  repeat' first|exact zez|exact zdi (by omega)|exact zlH|exact zmk|assumption|refine zld (fun _=>?_) ?_|refine zki (fun _=>?_) ?_|refine zmv ?_ ?_|exact zey (by assumption)|refine zmj fun _=>?_|refine zkj ?_ ?_|refine zbM (by assumption) fun _=>?_|refine zbM (zey (by assumption)) fun _=>?_|refine zbM ?_ fun _=>?_
 ·try simp only[qh,yX,xA,xT,xm,jC,qi,qu,qt,xB,if_true,if_false,Bool.false_eq_true]
  repeat' first|exact zez|exact zdi (by omega)|exact zlH|exact zmk|assumption|refine zld (fun _=>?_) ?_|refine zki (fun _=>?_) ?_|refine zmv ?_ ?_|exact zey (by assumption)|refine zmj fun _=>?_|refine zkj ?_ ?_|refine zbM (by assumption) fun _=>?_|refine zbM (zey (by assumption)) fun _=>?_|refine zbM ?_ fun _=>?_
theorem zo5:TC N E 0 (vG R) fun _=>0:=by
 obtain⟨h1,h2,_,h3,h4,h5,h6,h7⟩:=hR
 try simp only[vG,yX,xA,xT,xm,jC,qi,qu,qt,xB,if_true,if_false,Bool.false_eq_true]
 repeat' first|exact zez|exact zdi (by omega)|exact zlH|exact zmk|assumption|refine zld (fun _=>?_) ?_|refine zki (fun _=>?_) ?_|refine zmv ?_ ?_|exact zey (by assumption)|refine zmj fun _=>?_|refine zkj ?_ ?_|refine zbM (by assumption) fun _=>?_|refine zbM (zey (by assumption)) fun _=>?_|refine zbM ?_ fun _=>?_
theorem znW:TC N E 0 (xI R) fun _=>0:=by
 have hks:TC N E 0 (qk R.pattern) fun l=>if l=[] then 0 else 1:=znT hR.pattern
 try simp only[xI,yX,xA,xT,xm,jC,qi,qu,qt,xB,if_true,if_false,Bool.false_eq_true]
 repeat' first|exact zez|exact zlH|(refine zlw hks fun l=>zmh fun a _ _=>?_;rw[zm1 (.inr (.inl rfl))];omega)|refine zki (fun _=>?_) ?_
end
end
section
variable {N:List Nd} {E:zv} {R:xN}
theorem zmV{a:Int}(h:8<=qj (zE N a))(h5:(zE N a == 25)=false):pkC N a=0:=by
 unfold pkC;rw[h5];exact zms h
theorem zo9{a:Int}:pk N a 8<=pkC N a:=by
 unfold pkC;split
 ·exact zpK a 8
 ·exact pE _
section
variable {k:Nat}
theorem zmr{kd:Nat}{x:List UInt8}{n q:Int}{ks:List Int}(h:(fun y=>ziU N ⟨kd,x,y,ks,q⟩)=fun _=>0:=by rfl)(hr:(decide (8<=qj kd) && !(kd == 25))=true:=by rfl):TC N E k (zG kd x n q ks) fun a=>pkC N a:=zmh fun a _ hk=>by
 have h1:ziU N ⟨kd,x,n,ks,q⟩=0:=congrFun h n;simp only[pG,pH,Bool.not_eq_true'] at hr;rw[zmV (by rw[hk];exact hr.1) (by rw[hk];exact hr.2),h1];omega
theorem znj{kd:Nat}{x:List UInt8}{n q:Int}{ks:List Int}(h:(fun y=>ziU N ⟨kd,x,y,ks,q⟩)=fun _=>1:=by rfl)(hr:(decide (8<=qj kd) && !(kd == 25))=true:=by rfl):TC N E (0+1) (zG kd x n q ks) fun a=>pkC N a:=zmh fun a _ hk=>by
 have h1:ziU N ⟨kd,x,n,ks,q⟩=1:=congrFun h n;simp only[pG,pH,Bool.not_eq_true'] at hr;rw[zmV (by rw[hk];exact hr.1) (by rw[hk];exact hr.2),h1];omega
end
section
variable (hR:RT N E R)
include hR
theorem zov:∀(n:Nat) (acc:List Int),TC N E 0 (qB R n false acc) fun _=>0
 |0,_=>zdi (pE _)
 |n+1,acc=>by
  rw[zpx];exact zki (fun _=>zbM hR.expr fun x=>zov n _) zez
theorem zo2(n:Nat)(acc:List Int):TC N E 0 (qB R n true acc) fun _=>0:=by
 cases n with
 |zero=>exact zdi (pE _)
 |succ n=>exact zbM (m:=R.expr) (f:=fun x=>qB R n false (acc ++ [x])) hR.expr fun x=>zov hR n _
theorem znS:∀(j:Nat) (acc:List Int),TC N E 0 (yR R j acc) fun _=>0
 |0,_=>zmo
 |j+1,acc=>by
  have h1:=(zmT hR).2.2.2.2.1;have h2:=fun acc=>znS j acc
  have h0:∀a:List Int×Int,TC N E 0 (pure a) fun _=>0:=fun a=>zdi (pE _)
  simp only[yR,yX];refine zmv (zkj (h0 _) ?_) (zkj (h0 _) ?_) <;> exact zbM h1 fun x=>zmv (zkj (h0 _) (zki (fun _=>h2 _) zez)) (zkj (h0 _) (zki (fun _=>h2 _) zez))
theorem zou:∀(j:Nat) (acc:List Int),TC N E 0 (jf R j acc) fun _=>0
 |0,_=>zmo
 |j+1,acc=>by
  have h1:=hR.expr;have h2:=fun acc=>zou j acc
  try simp only[jf,yX,xA,xT,xm,jC,qi,qu,qt,xB,if_true,if_false,Bool.false_eq_true]
  repeat' first|exact h2 _|exact zez|exact zdi (pE _)|refine zki (fun _=>?_) ?_|refine zbM zlH fun _=>?_|refine zbM h1 fun _=>?_
theorem zo6:TC N E 0 (qE R) fun a=>pkC N a:=by
 have h0:TC N E 0 (fun E s=>yR R (E.toks.length+1) [] E s) fun _=>0:=znc (m:=fun j=>yR R j []) fun j=>znS hR j []
 try simp only[qE,yX,xA,xT,xm,jC,qi,qu,qt,xB,if_true,if_false,Bool.false_eq_true]
 exact zki (fun _=>zbM h0 fun x=>zki (fun _=>zmr) zez) zez
theorem znI:TC N E 0 (vA R) fun _=>1:=by
 have h1:=(zmT hR).1;have h2:=hR.kind;have hp:TC N E 0 (uU [[41]] >>= fun b=>if b=true then pure [] else kC (jE R)) fun _=>0:=zmv (zkj (zdi (pE _)) (zey h1)) (zkj (zdi (pE _)) (zey h1))
 try simp only[vA,yX,xA,xT,xm,jC,qi,qu,qt,xB,if_true,if_false,Bool.false_eq_true]
 exact zld (fun _=>zbM hp fun l=>zki (fun _=>zki (fun _=>zbM h2 fun _=>zdi (pE _)) zez) zez) zez
theorem znu:TC N E 0 (qh R) fun a=>pkC N a:=by
 have hH:=znI hR;obtain⟨h1,h2,_,h3,h4,h5,h6,h7⟩:=hR
 try simp only[qh,yX,xA,xT,xm,jC,qi,qu,qt,xB,if_true,if_false,Bool.false_eq_true]
 repeat' first|exact zez|exact zdi (by omega)|exact zlH|exact zmk|exact zmr|exact znj|assumption|refine zld (fun _=>?_) ?_|refine zki (fun _=>?_) ?_|refine zmv ?_ ?_|exact zey (by assumption)|refine zmj fun _=>?_|refine zkj ?_ ?_|refine zlw hH fun _=>?_|refine zbM (by assumption) fun _=>?_|refine zbM (zey (by assumption)) fun _=>?_|refine zbM ?_ fun _=>?_
theorem zod(t:yp):TC N E 0 (yA R t) fun a=>pkC N a:=by
 have h0:TC N E 0 (fun E s=>jf R (E.toks.length+1) [] E s) fun _=>0:=znc (m:=fun j=>jf R j []) fun j=>zou hR j []
 obtain⟨_,_,a3,a4,_,_⟩:=zmT hR;have hH:=znI hR;have hB:=znu hR;obtain⟨h1,h2,_,h3,h4,h5,h6,h7⟩:=hR
 try simp only[yA,xQ,jP,yX,xA,xT,xm,jC,qi,qu,qt,xB,if_true,if_false,Bool.false_eq_true]
 repeat' first|exact zez|exact zdi (by omega)|exact zlH|exact zmk|exact zmr|exact znj|assumption|refine zld (fun _=>?_) ?_|refine zki (fun _=>?_) ?_|refine zmv ?_ ?_|exact zey (by assumption)|refine zmj fun _=>?_|refine zkj ?_ ?_|refine zlw hH fun _=>?_|refine zbM (by assumption) fun _=>?_|refine zbM (zey (by assumption)) fun _=>?_|refine zbM ?_ fun _=>?_
end
end
section
variable {N:List Nd} {E:zv} {R:xN}
def zmw(N:List Nd)(a:Int)(t:yp):Nat:=if uq t [[46]]=true then pk N a 8 else if uq t [[40]]=true then pkC N a else pk N a 7
theorem zne{a:Int}{t:yp}:zmw N a t<=pkC N a:=by
 unfold zmw;split
 ·exact zo9
 ·split
  ·exact pE _
  ·exact pN (znd (by omega)) zo9
def znp(E:zv)(s:zY):Prop:=uq (zy E s) [[46]]=false/\uq (zy E s) [[40]]=false
theorem znz{a:Int}{s:zY}(h:znp E s):zmw N a (zy E s)=pk N a 7:=by
 unfold zmw;rw[h.1,h.2,if_neg (by decide),if_neg (by decide)]
def TA(N:List Nd)(E:zv)(k:Nat)(m:PM Int):Prop:=∀(s:zY) (a:Int) (s1:zY),m E s=.ok a s1->∃r,s1.nodes=s.nodes ++ r/\((∃q,N=s1.nodes ++ q)->zmA E s.next+ziS N r+zmw N a (zy E s1)<=zmA E s1.next+k)
theorem zm9{k:Nat}{m:PM Int}(h:TC N E k m fun a=>pkC N a):TA N E k m:=fun s a s1 e=>by
 obtain⟨r,h1,h2⟩:=h s a s1 e;refine⟨r,h1,fun hq=>?_⟩;have h3:=h2 hq;have:=zne (N:=N) (a:=a) (t:=zy E s1);simp only at h3;omega
theorem znk{k:Nat}{p:yp->Bool}{A:yp->PM Int}{B:PM Int}(hA:∀t,TA N E k (A t))(hB:TA N E k B):TA N E k (ZO p A B):=fun s a s1 e=>by
 unfold ZO at e;split at e
 ·obtain⟨r,h1,h2⟩:=hA _ _ _ _ e;refine⟨r,h1,fun hq=>?_⟩;have:=h2 hq;simp only at this;rw[zgQ] at this;omega
 ·exact hB _ _ _ e
theorem zpv{k:Nat}{A:yp->PM Int}{B:PM Int}(hA:∀t,TA N E (k+1) (A t))(hB:TA N E k B):TA N E k (ZO (isS [[40]]) A B):=fun s a s1 e=>by
 unfold ZO at e;split at e
 ·rename_i hp;obtain⟨r,h1,h2⟩:=hA _ _ _ _ e;refine⟨r,h1,fun hq=>?_⟩;have:=h2 hq;simp only at this;rw[zgQ] at this;have ho:zjS (ktt (zy E s))=true:=by
   unfold isS uq at hp;unfold zjS ktt;simpa using hp
  rw[ho,if_pos rfl] at this;omega
 ·exact hB _ _ _ e
theorem zo0(x:List UInt8){w:Nat×Int}(h:xV x=some w):(w.2<0/\(w.1=37\/w.1=38\/w.1=39))\/(0<=w.2/\40<w.1/\w.1<52):=by
 unfold xV at h;cases hf:zM.find? fun w=>w.1 == x with
 |none=>rw[hf] at h;cases h
 |some u=>
  rw[hf] at h;cases h;have hm:=List.mem_of_find?_eq_some hf;have:∀u∈zM,(decide (u.2.2<0) && (u.2.1 == 37 || u.2.1 == 38 || u.2.1 == 39)) || (decide (0<=u.2.2) && decide (40<u.2.1) && decide (u.2.1<52)):=by decide
  have h2:=this u hm;simp only[wF,pG,pH,pS] at h2;rcases h2 with⟨a,(b|b)|b⟩|⟨⟨a,b⟩,c⟩
  ·exact .inl ⟨a,.inl b⟩
  ·exact .inl ⟨a,.inr (.inl b)⟩
  ·exact .inl ⟨a,.inr (.inr b)⟩
  ·exact .inr ⟨a,b,c⟩
theorem zn1{w:Nat×Int}{x:List UInt8}(h:xV x=some w){n q:Int}{ks:List Int}:ziU N ⟨w.1,[],n,ks,q⟩=if w.2<0 then pk N (zN ⟨w.1,[],n,ks,q⟩ 0) 7 else if w.2=0 then 0 else 1:=by
 unfold xV at h;cases hf:zM.find? fun w=>w.1 == x with
 |none=>rw[hf] at h;cases h
 |some u=>
  rw[hf] at h;cases h;have hm:=List.mem_of_find?_eq_some hf;simp only[zM,wD,wH,or_false] at hm;rcases hm with rfl|rfl|rfl|rfl|rfl|rfl|rfl|rfl|rfl|rfl|rfl|rfl|rfl|rfl <;> rfl
section
variable (hR:RT N E R)
include hR
theorem zpu(t:yp){w:Nat×Int}{x:List UInt8}(hw:xV x=some w):TA N E 0 (jK R t w):=by
 rcases zo0 x hw with⟨h1,h2⟩|⟨h1,h2,h3⟩
 ·intro s a s1 e;have e':(R.unary >>= fun y=>zG w.1 [] 0 t.at_ [y]) E s=.ok a s1:=by
   unfold jK at e;rw[if_pos h1] at e;obtain⟨l,s2,e1,e2⟩:=zm e;obtain⟨y,s3,e3,e4⟩:=zm e1;obtain⟨rfl,rfl⟩:=zD e4;exact (zbD e3).trans e2
  obtain⟨y,s2,e1,e2⟩:=zm e';obtain⟨r,g1,g2⟩:=hR.unary s y s2 e1;have hh:=hR.unaryH s y s2 e1;obtain⟨q,g3,g4⟩:=(zmh (N:=N) (E:=E) (k:=pk N y 7) (kd:=w.1) (x:=[]) (n:=0) (q:=t.at_) (ks:=[y]) (g:=fun a=>pk N a 7) fun a _ hk=>by
   rw[zn1 hw,if_pos h1,zms (a:=a) (by rw[hk];rcases h2 with h|h|h <;> rw[h] <;> decide)];exact pE _) s2 a s1 e2
  refine⟨r ++ q,by rw[g3,g1,wS],fun ⟨p,hp⟩=>?_⟩;have a1:=g2 ⟨q ++ p,by rw[hp,g3,wS]⟩;have a2:=g4 ⟨p,hp⟩;have hs:zy E s1=zy E s2:=by cases e2;rfl
  rw[znz (s:=s1) (by unfold znp;rw[hs];exact hh),zkH];simp only at a1 a2;omega
 ·refine zm9 ?_;have h4:∀(n q:Int) ks,ziU N ⟨w.1,[],n,ks,q⟩=if w.2=0 then 0 else 1:=fun n q ks=>by rw[zn1 hw,if_neg (by omega)]
  have h5:∀a:Int,zE N a=w.1->pkC N a=0:=fun a hk=>by
   have:∀j,j<52->40<j->(decide (8<=qj j) && !(j == 25))=true:=by decide
   have h6:=this w.1 h3 h2;simp only[pG,pH,Bool.not_eq_true'] at h6;exact zmV (by rw[hk];exact h6.1) (by rw[hk];exact h6.2)
  unfold jK;rw[if_neg (by omega)];by_cases h0:w.2=0
  ·rw[if_neg (by omega)];exact zbM (zdi (pE _)) fun l=>zmh fun a _ hk=>by rw[h4,if_pos h0,h5 a hk];exact pE _
  ·rw[if_pos (by omega)];refine zlw (g:=fun _=>1) ?_ fun l=>zmh fun a _ hk=>by rw[h4,if_neg h0,h5 a hk];exact pE _
   rw[yX];refine zld (fun _=>zbM (zo2 hR _ _) fun l=>?_) zez;rw[yX];exact zki (fun _=>zdi (pE _)) zez
theorem zpw:TA N E 0 (vB R):=by
 rw[zbE];refine znk (fun _=>zm9 zmr) (znk (fun _=>zm9 zmr) (znk (fun _=>zm9 zmr) (znk (fun t=>?_) (zpv (fun t=>znk (fun _=>zm9 znj) ?_) (znk (fun _=>zm9 zmr) (znk (fun _=>zm9 zmr) ?_))))))
 ·intro s a s1 e;unfold qk at e;simp only[xT,if_true,if_false,Bool.false_eq_true] at e;obtain⟨l,s2,e1,e2⟩:=zm e;unfold ZO at e1;split at e1
  ·rename_i hp;obtain⟨l',s3,e3,e4⟩:=zm e1;obtain⟨r,g1,g2⟩:=zey hR.expr {s with next:=s.next+1} l' s3 e3;simp only[yX] at e4;unfold ZO at e4;split at e4
   ·obtain⟨rfl,rfl⟩:=zD e4;cases e2;refine⟨r ++ [⟨25,t.text,0,l,t.at_⟩],by simp only[g1,wS],fun hq=>?_⟩;have hN:=zmq (s1:=s3.nodes) hq;have a1:=g2 (by obtain⟨q,hq⟩:=hq;exact⟨_,by rw[hq];simp only[wS];rfl⟩);have ho:zjS (ktt (zy E s))=true:=by
     unfold isS uq at hp;unfold zjS ktt;simpa using hp
    simp only at a1;rw[zgQ,ho,if_pos rfl] at a1;have hk:zE N (s3.nodes.length:Int)=25:=by unfold zE;rw[wE,hN];rfl
    have h6:=zne (N:=N) (a:=(s3.nodes.length:Int)) (t:=zy E {nodes:=s3.nodes ++ [⟨25,t.text,0,l,t.at_⟩],items:=s3.items,next:=s3.next+1});have h7:zmA E s3.next<=zmA E (s3.next+1):=by rw[zgQ];omega
    rw[zkH];have h8:ziS N [⟨25,t.text,0,l,t.at_⟩]=if l=[] then 0 else 1:=by
     simp only[ziS,List.map_cons,List.map_nil,List.sum_cons,List.sum_nil,Nat.add_zero];exact zm1 (.inl rfl)
    have h9:l≠[]->pkC N (s3.nodes.length:Int)=0:=fun hl=>by
     unfold pkC;rw[hk,wE,hN];cases l with
     |nil=>exact absurd rfl hl
     |cons _ _=>
      simp only[Option.elim,List.isEmpty_cons,Bool.and_false,Bool.false_eq_true,if_false];exact zms (by rw[hk];decide)
    have h10:=zpa (N:=N) (s3.nodes.length:Int);rw[h8];by_cases hl:l=[]
    ·rw[if_pos hl];simp only at h6 ⊢;omega
    ·rw[if_neg hl];have:=h9 hl;simp only at h6 ⊢;omega
   ·cases e4
  ·rename_i hp;obtain⟨rfl,rfl⟩:=zD e1;cases e2;refine⟨_,rfl,fun hq=>?_⟩;have hN:=zmq (s1:=s2.nodes) hq;have hk:zE N (s2.nodes.length:Int)=25:=by unfold zE;rw[wE,hN];rfl
   have hz:∀r,r<=9->pk N (s2.nodes.length:Int) r=0:=fun r hr=>zms (by rw[hk];exact hr)
   have hnd:zmw N (s2.nodes.length:Int) (zy E {nodes:=s2.nodes ++ [⟨25,t.text,0,[],t.at_⟩],items:=s2.items,next:=s2.next})=0:=by
    unfold zmw;split
    ·exact hz 8 (by omega)
    ·split
     ·rename_i h;exact absurd h hp
     ·exact hz 7 (by omega)
   have h8:ziS N [⟨25,t.text,0,[],t.at_⟩]=0:=rfl;rw[hnd,h8];exact pE _
 ·intro s a s1 e;obtain⟨x,s2,e1,e2⟩:=zm e;obtain⟨r,g1,g2⟩:=hR.expr s x s2 e1;unfold ZO at e2;split at e2
  ·obtain⟨rfl,rfl⟩:=zD e2;refine⟨r,g1,fun hq=>?_⟩;have a1:=g2 hq;have h6:=zne (N:=N) (a:=a) (t:=zy E {nodes:=s2.nodes,items:=s2.items,next:=s2.next+1});have h10:=zpa (N:=N) a;have h7:zmA E s2.next<=zmA E (s2.next+1):=by rw[zgQ];omega
   simp only at a1 ⊢;omega
  ·cases e2
 ·intro s a s1 e;unfold ZO at e;split at e
  ·rename_i hp;cases hw:xV (zy E s).text with
   |none=>unfold isO at hp;rw[hw] at hp;simp at hp
   |some w=>
    change jK R (zy E s) ((xV (zy E s).text).getD (0,0)) E {s with next:=s.next+1}=_ at e;rw[hw] at e;obtain⟨r,h1,h2⟩:=zpu hR (zy E s) hw _ _ _ e;refine⟨r,h1,fun hq=>?_⟩;have:=h2 hq;simp only at this;rw[zgQ] at this;omega
  ·exact zm9 (zod hR (zy E s)) s a s1 e
end
end
section
variable {N:List Nd} {E:zv} {R:xN}
theorem zno{α:Type}{p:yp->Bool}{A:yp->PM α}{B:PM α}{s:zY}{a:α}{s1:zY}(h:ZO p A B E s=.ok a s1):(p (zy E s)=true/\A (zy E s) E {s with next:=s.next+1}=.ok a s1)\/(p (zy E s)=false/\B E s=.ok a s1):=by
 cases hp:p (zy E s) with
 |true=>exact .inl ⟨rfl,(zpy hp).symm.trans h⟩
 |false=>exact .inr ⟨rfl,(zpP (A:=A) hp).symm.trans h⟩
def TP(N:List Nd)(E:zv)(left:Int)(m:PM Int):Prop:=∀(s:zY) (a:Int) (s1:zY),m E s=.ok a s1->znp E s1/\∃r,s1.nodes=s.nodes ++ r/\((∃q,N=s1.nodes ++ q)->zmA E s.next+ziS N r+pk N a 7<=zmA E s1.next+zmw N left (zy E s))
theorem zny{a:Int}{t:yp}(h:8<=qj (zE N a))(h5:(zE N a == 25)=false):zmw N a t=0:=by
 have:=zne (N:=N) (a:=a) (t:=t);rw[zmV h h5] at this;omega
theorem zot(hR:RT N E R):∀(j:Nat) (left:Int),TP N E left (jL R j left)
 |0,_=>fun _ _ _ e=>by cases e
 |j+1,left=>by
  have ih:=fun left=>zot hR j left
  have hl:TC N E 0 (uU [[41]] >>= fun b=>if b=true then pure [] else kC R.expr) fun _=>0:=zmv (zkj (zdi (pE _)) (zey hR.expr)) (zkj (zdi (pE _)) (zey hR.expr))
  try simp only[jL,yX,xA,xT,xm,jC,qi,qu,qt,xB,if_true,if_false,Bool.false_eq_true]
  intro s a s1 e;rcases zno e with⟨hd,e⟩|⟨hd,e⟩
  ·rcases zno e with⟨_,e⟩|⟨_,e⟩
   ·obtain⟨x,s2,e1,e2⟩:=zm e;obtain⟨h1,r,g1,g2⟩:=ih x s2 a s1 e2;cases e1;refine⟨h1,_,by rw[g1,wS],fun ⟨q,hq⟩=>?_⟩;have a2:=g2 ⟨q,hq⟩;have hN:=zmq (N:=N) (s1:=s.nodes) ⟨r ++ q,by rw[hq,g1,wS]⟩;have hk:zE N (s.nodes.length:Int)=23:=by unfold zE;rw[wE,hN];rfl
    rw[zny (by rw[hk];decide) (by rw[hk];rfl)] at a2;simp only at a2;rw[zgQ (s:={s with next:=s.next+1}),zgQ] at a2;have hn:zmw N left (zy E s)=pk N left 8:=by
     unfold zmw;exact if_pos hd
    rw[hn,zkH];have h8:∀x q,ziS N [⟨23,x,0,[left],q⟩]=pk N left 8:=fun x q=>Nat.add_zero _
    rw[h8];omega
   ·cases e
  ·rcases zno e with⟨hd2,e⟩|⟨hd2,e⟩
   ·obtain⟨l,s2,e1,e2⟩:=zm e;obtain⟨r0,g3,g4⟩:=hl _ _ _ e1;rcases zno e2 with⟨_,e2⟩|⟨_,e2⟩
    ·obtain⟨x,s3,e3,e4⟩:=zm e2;obtain⟨h1,r,g1,g2⟩:=ih x s3 a s1 e4;cases e3;refine⟨h1,r0 ++ ([⟨24,[],0,left :: l,(zy E s).at_⟩] ++ r),by rw[g1];simp only[g3,wS],fun ⟨q,hq⟩=>?_⟩;have a2:=g2 ⟨q,hq⟩;have a3:=g4 ⟨[⟨24,[],0,left :: l,(zy E s).at_⟩] ++ (r ++ q),by rw[hq,g1];simp only[wS]⟩;have hN:=zmq (N:=N) (s1:=s2.nodes) ⟨r ++ q,by rw[hq,g1,wS]⟩;have hk:zE N (s2.nodes.length:Int)=24:=by unfold zE;rw[wE,hN];rfl
     rw[zny (by rw[hk];decide) (by rw[hk];rfl)] at a2;simp only at a2 a3;rw[zgQ (s:=s2)] at a2;have ho:zjS (ktt (zy E s))=true:=by
      unfold isS uq at hd2;unfold zjS ktt;simpa using hd2
     rw[zgQ,ho,if_pos rfl] at a3;have hn:zmw N left (zy E s)=pkC N left:=by
      unfold zmw;exact (if_neg (by intro h;exact absurd (h.symm.trans hd) (by decide))).trans (if_pos hd2)
     rw[hn,zkH,zkH];have h8:∀q,ziS N [⟨24,[],0,left :: l,q⟩]=pkC N left+1:=fun q=>Nat.add_zero _
     rw[h8];omega
    ·cases e2
   ·obtain⟨rfl,rfl⟩:=zD e;have hf:znp E s1:=⟨hd,hd2⟩;refine⟨hf,[],(wN _).symm,fun _=>?_⟩;rw[znz hf];exact pE _
section
variable (hR:RT N E R)
include hR
theorem znh:TC N E 0 (jc R) (fun a=>pk N a 7)/\∀s a s1,jc R E s=.ok a s1->znp E s1:=by
 have key:∀s a s1,jc R E s=.ok a s1->znp E s1/\∃r,s1.nodes=s.nodes ++ r/\((∃q,N=s1.nodes ++ q)->zmA E s.next+ziS N r+pk N a 7<=zmA E s1.next+0):=by
  try simp only[jc,yX,xA,xT,xm,jC,qi,qu,qt,xB,if_true,if_false,Bool.false_eq_true]
  intro s a s1 e;rcases zno e with⟨_,e⟩|⟨_,e⟩
  ·obtain⟨y,s2,e1,e2⟩:=zm e;obtain⟨r,g1,g2⟩:=hR.unary _ y s2 e1;have hh:=hR.unaryH _ y s2 e1;obtain⟨q,g3,g4⟩:=(zmh (N:=N) (E:=E) (k:=pk N y 7) (kd:=6) (x:=[]) (n:=0) (q:=(zy E s).at_) (ks:=[y]) (g:=fun a=>pk N a 7) fun a _ hk=>by
    rw[zms (a:=a) (by rw[hk];decide)];show (if zE N y == 6 then 0 else pk N y 7)+0<=pk N y 7
    split <;> omega) s2 a s1 e2
   have hs:zy E s1=zy E s2:=by cases e2;rfl
   refine⟨by unfold znp;rw[hs];exact hh,r ++ q,by rw[g3,g1,wS],fun ⟨p,hp⟩=>?_⟩;have a1:=g2 ⟨q ++ p,by rw[hp,g3,wS]⟩;have a2:=g4 ⟨p,hp⟩;rw[zkH];simp only at a1 a2;rw[zgQ] at a1;omega
  ·obtain⟨y,s2,e1,e2⟩:=zm e;obtain⟨r,g1,g2⟩:=zpw hR _ y s2 e1;obtain⟨h1,q,g3,g4⟩:=zot hR _ y s2 a s1 e2;refine⟨h1,r ++ q,by rw[g3,g1,wS],fun ⟨p,hp⟩=>?_⟩;have a1:=g2 ⟨q ++ p,by rw[hp,g3,wS]⟩;have a2:=g4 ⟨p,hp⟩;rw[zkH];omega
 exact⟨fun s a s1 e=>(key s a s1 e).2,fun s a s1 e=>(key s a s1 e).1⟩
omit hR in
theorem zpV(lv:Nat)(t:List UInt8):Qj lv t∈jk lv\/Qj lv t=0:=by
 unfold Qj;rw[pA];cases h:(jk lv)[(yS lv).idxOf t]? with
 |none=>exact .inr rfl
 |some y=>exact .inl (wK h)
def ziR(lv:Nat):Nat:=match lv with
 |0=>1
 |1=>2
 |2=>4
 |3=>5
 |_=>6
def zmp(lv:Nat):Nat:=if ziR lv == 4 then 5 else ziR lv
omit hR in
theorem zpS(lv:Nat)(kd:Nat)(h:kd∈jk lv\/kd=0){x:List UInt8}{n q:Int}{l r:Int}:ziU N ⟨kd,x,n,[l,r],q⟩<=pk N l (zmp lv)+pk N r (ziR lv+1)/\ziR lv<=qj kd:=by
 rcases h with h|rfl
 ·unfold jk at h;split at h <;> simp only[wD,wH,or_false] at h
  ·subst h;exact⟨pE _,by decide⟩
  ·subst h;exact⟨pE _,by decide⟩
  ·rcases h with rfl|rfl|rfl|rfl|rfl|rfl|rfl <;> exact⟨pE _,by decide⟩
  ·rcases h with rfl|rfl|rfl <;> exact⟨pE _,by decide⟩
  ·rename_i h1 h2 h3 h4;have e:ziR lv=6:=by
    unfold ziR;split
    ·exact absurd rfl h1
    ·exact absurd rfl h2
    ·exact absurd rfl h3
    ·exact absurd rfl h4
    ·rfl
   unfold zmp;rw[e];rcases h with rfl|rfl|rfl <;> exact⟨pE _,by decide⟩
 ·refine⟨pU _,?_⟩;show ziR lv<=9
  unfold ziR;split <;> omega
omit hR in
theorem zo4{tight:PM Int}(lv:Nat)(ht:TC N E 0 tight fun a=>pk N a (ziR lv+1)):∀(j:Nat) (left:Int),TC N E (pk N left (zmp lv)) (uR lv tight j left) fun a=>pk N a (ziR lv)
 |0,_=>zmo
 |j+1,left=>by
  have hle:ziR lv<=zmp lv:=by unfold zmp;split <;> rename_i h <;> simp at h <;> omega
  simp only[uR,xm];refine zki (fun t=>?_) (zdi (znd hle));refine zlw (g:=fun r=>pk N left (zmp lv)+pk N r (ziR lv+1)) (fun s a s1 e=>?_) fun r=>?_
  ·obtain⟨r,h1,h2⟩:=ht s a s1 e;exact⟨r,h1,fun hq=>by have h3:=h2 hq;simp only at h3 ⊢;omega⟩
  ·refine zlw (g:=fun x=>pk N x (ziR lv)) (zmh fun a _ hk=>?_) fun x=>?_
   ·obtain⟨h1,h2⟩:=zpS (N:=N) lv _ (zpV lv t.text) (x:=[]) (n:=0) (q:=t.at_) (l:=left) (r:=r);rw[zms (a:=a) (by rw[hk];exact h2)];omega
   ·by_cases h2:lv=2
    ·subst h2;exact zdi (pE _)
    ·have e:(lv == 2)=false:=by simpa using h2
     rw[e,if_neg (by decide)];have e2:zmp lv=ziR lv:=by
      unfold zmp;split
      ·rename_i h;have h3:ziR lv=4:=by simpa using h
       unfold ziR at h3;split at h3
       ·cases h3
       ·cases h3
       ·exact absurd rfl h2
       ·cases h3
       ·cases h3
      ·rfl
     have:=zo4 lv ht j x;rw[e2] at this;exact this
omit hR in
theorem zni{tight:PM Int}(lv:Nat)(ht:TC N E 0 tight fun a=>pk N a (ziR lv+1)):TC N E 0 (uy lv tight) fun a=>pk N a (ziR lv):=by
 have hle:zmp lv<=ziR lv+1:=by unfold zmp;split <;> rename_i h <;> simp at h <;> omega
 refine zlw (g:=fun a=>pk N a (zmp lv)) (fun s a s1 e=>?_) fun left=>znc (m:=fun j=>uR lv tight j left) fun j=>zo4 lv ht j left
 obtain⟨r,h1,h2⟩:=ht s a s1 e;refine⟨r,h1,fun hq=>?_⟩;have h3:=h2 hq;have:=znd (N:=N) (a:=a) hle;simp only at h3 ⊢;omega
theorem zow:TC N E 0 (kP R) fun a=>pk N a 3:=by
 try simp only[kP,yX,xA,xT,xm,jC,qi,qu,qt,xB,if_true,if_false,Bool.false_eq_true]
 refine zki (fun t=>zlw hR.bin2 fun x=>zmh fun a _ hk=>?_) ?_
 ·rw[zms (a:=a) (by rw[hk];decide)];exact pE _
 ·have h:=zni 2 (zni 3 (zni 4 (znh hR).1));intro s a s1 e;obtain⟨r,h1,h2⟩:=h s a s1 e;refine⟨r,h1,fun hq=>?_⟩;have h3:=h2 hq;have:=znd (N:=N) (a:=a) (r:=3) (q:=ziR 2) (by decide);simp only at h3 ⊢;omega
omit hR in
theorem znJ{k:Nat}{m:PM Int}{g:Int->Nat}(h:TC N E k m g):TC N E k m fun _=>0:=fun s a s1 e=>by
 obtain⟨r,h1,h2⟩:=h s a s1 e;exact⟨r,h1,fun hq=>by have h3:=h2 hq;simp only at h3 ⊢;omega⟩
theorem zpr:RT N E (⟨zaj R,jc R,kP R,qE R,qh R,vG R,xI R⟩:xN):=
 ⟨znJ (zni 0 (zni 1 (zow hR))),(znh hR).1,(znh hR).2,zow hR,znJ (zo6 hR),znJ (znu hR),zo5 hR,znW hR⟩
theorem zpt:TC N E 0 (jT R) fun _=>0:=by
 obtain⟨a1,a2,_,_,_,_⟩:=zmT hR;have hH:=znI hR;obtain⟨h1,h2,_,h3,h4,h5,h6,h7⟩:=hR
 try simp only[jT,xQ,yX,xA,xT,xm,jC,qi,qu,qt,xB,if_true,if_false,Bool.false_eq_true]
 repeat' first|exact zez|exact zdi (by omega)|exact zlH|exact zmk|assumption|refine zld (fun _=>?_) ?_|refine zki (fun _=>?_) ?_|refine zmv ?_ ?_|exact zey (by assumption)|refine zmj fun _=>?_|refine zkj ?_ ?_|refine zlw hH fun _=>?_|refine zbM (by assumption) fun _=>?_|refine zbM (zey (by assumption)) fun _=>?_|refine zbM ?_ fun _=>?_
end
theorem zo3:∀k:Nat,RT N E (jA k)
 |0=>⟨zmo,zmo,fun _ _ _ e=>(by cases e),zmo,zmo,zmo,zmo,zmo⟩
 |k+1=>zpr (zo3 k)
theorem znV(m:Nat):∀(k:Nat) (s t:zY),qn (jA m) k E s=.ok () t->∃r,t.nodes=s.nodes ++ r/\((∃q,N=t.nodes ++ q)->zmA E s.next+ziS N r<=zmA E t.next)
 |0,_,_,e=>by cases e
 |k+1,s,t,e=>by
  unfold qn at e;split at e
  ·cases hi:jT (jA m) E s with
   |bad p=>rw[hi] at e;cases e
   |ok x s1=>
    rw[hi] at e;dsimp only at e;obtain⟨r,h1,h2⟩:=zpt (N:=N) (zo3 m) s x s1 hi;obtain⟨q,h3,h4⟩:=znV m k {s1 with items:=s1.items ++ [x]} t e;refine⟨r ++ q,by rw[h3];simp only[h1,wS],fun ⟨p,hp⟩=>?_⟩;have a1:=h2 ⟨q ++ p,by rw[hp,h3,wS]⟩;have a2:=h4 ⟨p,hp⟩;simp only at a1 a2;rw[zkH];omega
  ·cases e;exact⟨[],(wN _).symm,fun _=>pE _⟩
theorem zpF{l:List yp}{len:Nat}{t:zY}(h:xO l len=.ok () t):ziS t.nodes t.nodes<=opK (l.map ktt):=by
 obtain⟨r,h1,h2⟩:=znV (N:=t.nodes) (E:=⟨l,len⟩) (l.length+1) (l.length+1) ⟨[],[],0⟩ t h;have h3:=h2 ⟨[],(wN _).symm⟩;rw[wJ] at h1;rw[<-h1] at h3;have h4:zmA ⟨l,len⟩ t.next<=opK (l.map ktt):=by
  unfold zmA opK;exact List.Sublist.countP_le ((List.take_sublist _ _).map _)
 omega
end
section
def wNd(l:List Nd)(f:Nat)(k:Int):List KTt:=pcT (pcN l f k)
structure Hl(l:List Nd):Prop where
 full:xL l l.length
 right:∀x∈l,yj l x=true
variable {l:List Nd} {n:Nat} {R:xN}
structure NF(l:List Nd)(j:Nat)(k:Nat)(t:List UInt8)(m:Int)(ks:List Int)(p:Nat):Prop where
 len:(xd k).1<=ks.length/\ks.length<=(xd k).2
 num:xw k m ks.length=true
 ttl:if xf k=0 then t=[] else (yV (xf k) t).2=0
 sut:∀i,i<ks.length->zS k m ks.length i (zE l (ks.getD i 0))=true
 chn:zmJ l p ks j
 inn:∀k∈ks,0<=k/\k<(j:Int)
theorem zp9(H:Hl l){j:Nat}{x:Nd}(hx:l[j]? =some x){p:Nat}(hp:loN l j+1=(p:Int)):NF l j x.kind x.text x.n x.kids p:=by
 obtain⟨hj,rfl⟩:=gE.1 hx;obtain⟨_,h2,h3,h4,h5,h6⟩:=yY (H.right _ (wC hj));have h7:=zon H.full hj;rw[show (loN l j+1).toNat=p by omega] at h7;refine⟨⟨h2,h3⟩,h4,?_,h6,h7,jY H.full hj⟩;unfold jz at h5;split at h5
 ·rename_i h;rw[if_pos (by simpa using h)];simpa using h5
 ·rename_i h;rw[if_neg (by simpa using h)];simpa using h5
end
theorem zn2(x:List UInt8)(c:UInt8):xR (x ++ [c])=10*xR x+(c.toNat-48):=by simp[xR]
theorem znM{u:Nat}(h:u<10):(UInt8.ofNat (48+u)).toNat=48+u:=by
 simp[UInt8.toNat_ofNat'];omega
theorem znq{u:Nat}(h:¬u<10):Go.Lib.decDigits u=Go.Lib.decDigits (u / 10) ++ [UInt8.ofNat (48+u % 10)]:=by
 conv=>lhs;rw[Go.Lib.decDigits,dif_neg h]
theorem zpD:∀u:Nat,xR (Go.Lib.decDigits u)=u:=by
 intro u;induction u using Nat.strongRecOn with
 |ind u ih=>
  by_cases h:u<10
  ·rw[Go.Lib.decDigits,dif_pos h];show 10*0+((UInt8.ofNat (48+u)).toNat-48)=u
   rw[znM h];omega
  ·rw[znq h,zn2,ih (u / 10) (by omega),znM (by omega)];omega
theorem zop:∀u:Nat,(Go.Lib.decDigits u).all yf=true:=by
 intro u;induction u using Nat.strongRecOn with
 |ind u ih=>
  have hd:∀v,v<10->yf (UInt8.ofNat (48+v))=true:=fun v hv=>by
   unfold yf;rw[znM hv];simp;omega
  by_cases h:u<10
  ·rw[Go.Lib.decDigits,dif_pos h,List.all_cons,hd u h];rfl
  ·rw[znq h,List.all_append,ih (u / 10) (by omega),List.all_cons,hd (u % 10) (by omega)];rfl
theorem zpl:∀u:Nat,u=0\/∃c r,Go.Lib.decDigits u=c :: r/\c≠48:=by
 intro u;induction u using Nat.strongRecOn with
 |ind u ih=>
  by_cases h0:u=0
  ·exact .inl h0
  ·refine .inr ?_;by_cases h:u<10
   ·rw[Go.Lib.decDigits,dif_pos h];refine⟨_,[],rfl,fun e=>?_⟩;have:=congrArg UInt8.toNat e;rw[znM h,show (48:UInt8).toNat=48 from rfl] at this;omega
   ·rcases ih (u / 10) (by omega) with h1|⟨c,r,h1,h2⟩
    ·omega
    ·exact⟨c,r ++ [UInt8.ofNat (48+u % 10)],by rw[znq h,h1];rfl,h2⟩
theorem zpE{u:Nat}(h:u<=1000000000):ur (Go.Lib.decDigits u)=true:=by
 unfold ur;rw[zop,zpD];rcases zpl u with rfl|⟨c,r,h1,h2⟩
 ·rw[show Go.Lib.decDigits 0=[48] by rw[Go.Lib.decDigits,dif_pos (by decide)];rfl];rfl
 ·rw[h1];simp[h,h2]
theorem zpd{n:Int}(h:0<=n)(h2:n<=1000000000):ur (Go.Lib.itoa n)=true:=by
 unfold Go.Lib.itoa;rw[if_neg (by omega)];exact zpE (by omega)
section
variable {l:List Nd} {n:Nat} {R:xN}
theorem znA{l:List Nd}(hF:xL l l.length):∀(rk:List Int) (p e:Int),p<l.length->-1<=e->Vk l (jH l l.length) rk p=some e->zmJ l (e+1).toNat rk.reverse (p+1).toNat/\(∀k∈rk,yN.item.is (zE l k)=true)/\e<=p
 |[],p,e,_,_,h=>by
  cases h;exact⟨rfl,fun k hk=>by (cases hk),Int.le_refl _⟩
 |k :: r,p,e,hp,he,h=>by
  unfold Vk at h;split at h
  ·cases h
  ·rename_i hc;simp only[not_or,Decidable.not_not,Bool.not_eq_false] at hc;obtain⟨hc1,hk,hki⟩:=hc;have hpos:=(zbH hF (i:=p.toNat) (by omega)).2;have hlo:loN l p=p-((jH l l.length).getD p.toNat 0:Nat):=rfl;rw[show ((p.toNat:Nat):Int)=p by omega] at hpos;obtain⟨h1,h2,h3⟩:=znA hF r _ e (by omega) he h;refine⟨?_,fun x hx=>?_,by omega⟩
   ·rw[List.reverse_cons,zmN];refine⟨_,h1,by omega,by omega,?_,?_⟩
    ·rw[hk,hlo];omega
    ·rw[hk];rfl
   ·rcases wD.1 hx with rfl|hx
    ·rw[hk];exact hki
    ·exact h2 x hx
def zmG(t:yo):List KTt:=t.items.flatMap (wNd t.nodes (t.nodes.length+1))
theorem Fm.hl{t:yo}(h:Fm t):Hl t.nodes:=⟨h.full,h.right⟩
end
section
def zkb(p:List Pc):Nat:=opK (pcT p)
theorem zef(a b:List Pc):zkb (a ++ b)=zkb a+zkb b:=by simp[zkb,opK,pcT]
theorem zhE:zkb []=0:=rfl
theorem zbP(s:List UInt8)(k:KTt)(b:List Pc):zkb ((s,some k) :: b)=(if zjS k=true then 1 else 0)+zkb b:=by
 show opK (k :: pcT b)=_
 unfold opK zkb opK;rw[List.countP_cons];omega
theorem zew(s:List UInt8)(b:List Pc):zkb ((s,none) :: b)=zkb b:=rfl
variable {l:List Nd} {pc:Int→List Pc}
def zml(pc:Int->List Pc)(ks:List Int):Nat:=(ks.map fun k=>zkb (pc k)).sum
theorem zgW:zml pc []=0:=rfl
theorem zdf(k:Int)(ks:List Int):zml pc (k :: ks)=zkb (pc k)+zml pc ks:=by simp[zml]
theorem zo8(a b:List Int):zml pc (a ++ b)=zml pc a+zml pc b:=by simp[zml]
theorem zpG(k:Int)(r:Nat):zkb (zlQ l pc k r)=pk l k r+zkb (pc k):=by
 unfold zlQ pk;split
 ·rw[sg,zbP,zef,sg,zbP,zhE];simp[zjS]
 ·omega
theorem zoC:∀ks:List (List Pc),zkb (zmE ks)=(ks.map zkb).sum
 |[]=>rfl
 |[x]=>by simp[zmE]
 |x :: y :: r=>by
  show zkb (x ++ sg [44] :: sp :: zmE (y :: r))=_
  rw[zef,sg,zbP,sp,zew,zoC (y :: r)];simp[zjS]
theorem znN(ks:List Int):zkb (zme pc ks)=zml pc ks:=by
 unfold zme zml;rw[zoC,List.map_map];rfl
theorem znE(last:Bool):∀ks:List Int,zkb (zlV pc last ks)=zml pc ks
 |[]=>rfl
 |[k]=>by
  show zkb (pc k ++ (if last then [sp] else [sg [59],sp]))=_
  rw[zef,zdf,zgW];cases last <;> rfl
 |k :: j :: r=>by
  show zkb (pc k ++ sg [59] :: sp :: zlV pc last (j :: r))=_
  rw[zef,sg,zbP,sp,zew,znE last (j :: r),zdf,zdf,zdf];simp[zjS]
theorem zoT(ks:List Int):zkb (zlP pc ks)=(if ks=[] then 0 else 1)+zml pc ks:=by
 unfold zlP;split
 ·rename_i h;rw[h];rfl
 ·rw[sg,zbP,zef,znN,sg,zbP,zhE];simp[zjS]
theorem zoU(x:Nd):zkb (zmd pc x)=zml pc x.kids:=by
 unfold zmd;split
 ·rename_i h;rw[h];rfl
 ·rw[sg,zbP,sp,zew,zef,znE,sg,zbP,zhE];simp[zjS]
theorem zpm(x:Nd)(m:Nat):zkb (zjf pc x m)=1+zml pc (x.kids.take (x.kids.length-1-m))+zkb (pc (zN x (x.kids.length-1-m))):=by
 unfold zjf;rw[sg,zbP,zef,znN,sg,zbP,sg,zbP,sp,zew];simp[zjS];omega
theorem zmK{ks:List Int}{m:Nat}(h:m<ks.length):zml pc (ks.take m)+zkb (pc (ks.getD m 0))=zml pc (ks.take (m+1)):=by
 rw[wZ,glE h,Option.toList_some,zo8,zdf,zgW,pA,glE h];rfl
theorem znC{ks:List Int}(h:1<=ks.length):zml pc (ks.take (ks.length-1-0))+zkb (pc (ks.getD (ks.length-1-0) 0))=zml pc ks:=by
 rw[zmK (by omega),show ks.length-1-0+1=ks.length by omega,List.take_length]
theorem znB{ks:List Int}(h:2<=ks.length):zml pc (ks.take (ks.length-1-1))+zkb (pc (ks.getD (ks.length-1-1) 0))+zkb (pc (ks.getD (ks.length-1) 0))=zml pc ks:=by
 rw[zmK (by omega),show ks.length-1-1+1=ks.length-1 by omega,zmK (by omega),show ks.length-1+1=ks.length by omega,List.take_length]
theorem zpc{k:Nat}{t:List UInt8}{n:Int}{ks:List Int}{a:Int}(hkn:yz k=true)(hl1:(xd k).1<=ks.length)(hl2:ks.length<=(xd k).2):zkb (zfI l pc ⟨k,t,n,ks,a⟩)<=ziU l ⟨k,t,n,ks,a⟩+zml pc ks:=by
 have hq:=fun (k:Int) r=>zpG (l:=l) (pc:=pc) k r
 have ha:=fun ks=>znN (pc:=pc) ks
 have hs:=fun x=>zoU (pc:=pc) x
 have hp:=fun ks=>zoT (pc:=pc) ks
 have hh:=fun x m=>zpm (pc:=pc) x m
 have hz:=fun m=>zmK (pc:=pc) (ks:=ks) (m:=m)
 have hm:=zmX hkn;clear hkn;simp only[wD,wH,or_false] at hm;rcases hm with rfl|rfl|rfl|rfl|rfl|rfl|rfl|rfl|rfl|rfl|rfl|rfl|rfl|rfl|rfl|rfl|rfl|rfl|rfl|rfl|rfl|rfl|rfl|rfl|rfl|rfl|rfl|rfl|rfl|rfl|rfl|rfl|rfl|rfl|rfl|rfl|rfl|rfl|rfl|rfl|rfl|rfl|rfl|rfl|rfl|rfl|rfl|rfl|rfl|rfl|rfl|rfl|rfl|rfl|rfl|rfl|rfl|rfl|rfl|rfl|rfl|rfl|rfl|rfl|rfl|rfl|rfl|rfl|rfl|rfl|rfl|rfl|rfl|rfl|rfl|rfl|rfl
 all_goals simp[xd] at hl1 hl2
 all_goals first
  |(simp[zfI,ziU,xE,qj,zM,zk5,zhY,zeC,zN,zef,zbP,zew,zhE,kwd,sg,nm,bg,nu,tx,sp,zmx,zjS,pkC,hq,ha,hs,hp,hh,zgW,zdf];done)
  |(simp[zfI,ziU,xE,qj,zM,zk5,zhY,zeC,zN,zef,zbP,zew,zhE,kwd,sg,nm,bg,nu,tx,sp,zmx,zjS,pkC,hq,ha,hs,hp,hh,zgW,zdf];omega)
  |(rcases ks with _|⟨b,ks⟩
    ·simp at hl1 hl2
    ·simp[zfI,ziU,xE,qj,zM,zk5,zhY,zeC,zN,zef,zbP,zew,zhE,kwd,sg,nm,bg,nu,tx,sp,zmx,zjS,pkC,hq,ha,hs,hp,hh,zgW,zdf]
     (try split) <;> omega)
  |(rcases ks with _|⟨b,_|⟨c,_|⟨d,_|⟨e,ks⟩⟩⟩⟩ <;> first|(simp at hl1 hl2;done)|(exfalso;simp at hl1 hl2;omega)|(simp[zfI,ziU,xE,qj,zM,zk5,zhY,zeC,zN,zef,zbP,zew,zhE,kwd,sg,nm,bg,nu,tx,sp,zmx,zjS,pkC,hq,ha,hs,hp,hh,zgW,zdf];done)|(simp[zfI,ziU,xE,qj,zM,zk5,zhY,zeC,zN,zef,zbP,zew,zhE,kwd,sg,nm,bg,nu,tx,sp,zmx,zjS,pkC,hq,ha,hs,hp,hh,zgW,zdf];omega)|(simp[zfI,ziU,xE,qj,zM,zk5,zhY,zeC,zN,zef,zbP,zew,zhE,kwd,sg,nm,bg,nu,tx,sp,zmx,zjS,pkC,hq,ha,hs,hp,hh,zgW,zdf];(repeat' split) <;> omega))
  |skip
 ·by_cases h1:n=1 <;> simp[zfI,ziU,xE,qj,zM,zk5,zhY,zeC,zN,zef,zbP,zew,zhE,kwd,sg,nm,bg,nu,tx,sp,zmx,zjS,pkC,hq,ha,hs,hp,hh,zgW,zdf,h1]
 ·rcases ks with _|⟨b,ks⟩
  ·simp at hl1
  ·by_cases h6:zE l b=6
   ·simp[zfI,ziU,xE,qj,zM,zk5,zhY,zeC,zN,zef,zbP,zew,zhE,kwd,sg,nm,bg,nu,tx,sp,zmx,zjS,pkC,hq,ha,hs,hp,hh,zgW,zdf,h6]
   ·simp[zfI,ziU,xE,qj,zM,zk5,zhY,zeC,zN,zef,zbP,zew,zhE,kwd,sg,nm,bg,nu,tx,sp,zmx,zjS,pkC,hq,ha,hs,hp,hh,zgW,zdf,h6]
 ·rcases ks with _|⟨b,ks⟩
  ·simp at hl1
  ·have e:zfI l pc ⟨24,t,n,b :: ks,a⟩=(if (zE l b == 25 && ((l[b.toNat]?).elim [] Nd.kids).isEmpty)=true then sg [40] :: (zlQ l pc b 8 ++ [sg [41]]) else zlQ l pc b 8) ++ sg [40] :: (zme pc ks ++ [sg [41]]):=rfl;have e2:ziU l ⟨24,t,n,b :: ks,a⟩=pkC l b+1:=rfl;rw[e,e2,zef,zdf];have e3:zkb (sg [40] :: (zme pc ks ++ [sg [41]]))=1+zml pc ks:=by
    rw[sg,zbP,zef,ha,sg,zbP,zhE];simp[zjS]
   rw[e3];unfold pkC;split
   ·rename_i h;have h25:zE l b=25:=by
     simp only[pG,pS] at h;exact h.1
    have e4:zkb (sg [40] :: (zlQ l pc b 8 ++ [sg [41]]))=1+zkb (pc b):=by
     rw[sg,zbP,zef,hq,zms (by rw[h25];decide),sg,zbP,zhE];simp[zjS]
    rw[e4];omega
   ·rw[hq];omega
 ·have e:zfI l pc ⟨33,t,n,ks,a⟩=kwd [102,110] :: (zjf pc ⟨33,t,n,ks,a⟩ 1 ++ sp :: pc (ks.getD (ks.length-1) 0)):=rfl;have e2:ziU l ⟨33,t,n,ks,a⟩=1:=rfl;have:=znB (pc:=pc) hl1;rw[e,e2,kwd,zbP,zef,hh,sp,zew];simp only[zN,zjS];simp at this ⊢;omega
 ·by_cases h1:n<0 <;> simp[zfI,ziU,xE,qj,zM,zk5,zhY,zeC,zN,zef,zbP,zew,zhE,kwd,sg,nm,bg,nu,tx,sp,zmx,zjS,pkC,hq,ha,hs,hp,hh,zgW,zdf,h1]
 ·by_cases h1:n=1 <;> simp[zfI,ziU,xE,qj,zM,zk5,zhY,zeC,zN,zef,zbP,zew,zhE,kwd,sg,nm,bg,nu,tx,sp,zmx,zjS,pkC,hq,ha,hs,hp,hh,zgW,zdf,h1]
 ·have e:zfI l pc ⟨85,t,n,ks,a⟩=kwd [102,110] :: zjf pc ⟨85,t,n,ks,a⟩ 0:=rfl;have e2:ziU l ⟨85,t,n,ks,a⟩=1:=rfl;have:=znC (pc:=pc) hl1;rw[e,e2,kwd,zbP,hh];simp only[zN,zjS];simp at this ⊢;omega
 ·have e:zfI l pc ⟨102,t,n,ks,a⟩=(if n == 1 then [kwd [112,117,114,101],sp] else []) ++ kwd [102,117,110] :: sp :: nm t :: (zjf pc ⟨102,t,n,ks,a⟩ 1 ++ sp :: pc (ks.getD (ks.length-1) 0)):=rfl;have e2:ziU l ⟨102,t,n,ks,a⟩=1:=rfl;have:=znB (pc:=pc) hl1;have e3:zkb (if n == 1 then [kwd [112,117,114,101],sp] else [])=0:=by split <;> rfl
  rw[e,e2,zef,e3,kwd,zbP,sp,zew,nm,zbP,zef,hh,zew];simp only[zN,zjS];simp at this ⊢;omega
 ·have e:zfI l pc ⟨103,t,n,ks,a⟩=kwd [101,120,116,101,114,110] :: sp :: kwd [102,117,110] :: sp :: nm t :: (zjf pc ⟨103,t,n,ks,a⟩ 0 ++ [sg [59]]):=rfl;have e2:ziU l ⟨103,t,n,ks,a⟩=1:=rfl;have:=znC (pc:=pc) hl1;rw[e,e2,kwd,zbP,sp,zew,kwd,zbP,zew,nm,zbP,zef,hh,sg,zbP,zhE];simp only[zN,zjS];simp at this ⊢;omega
def zmC(l:List Nd)(q:Nat):Nat:=((l.take q).map (ziU l)).sum
omit pc in
theorem zoq{j:Nat}{x:Nd}(h:l[j]? =some x):zmC l (j+1)=zmC l j+ziU l x:=by
 unfold zmC;rw[wZ,h];simp
theorem zm6:∀(ks:List Int) (p q:Nat),zmJ l p ks q->(∀k∈ks,∀p':Nat,loN l k+1=(p':Int)->zkb (pc k)+zmC l p'<=zmC l (k+1).toNat)->zml pc ks+zmC l p<=zmC l q
 |[],p,q,h,_=>by
  cases h;rw[zgW];omega
 |k :: ks,p,q,h,hk=>by
  obtain⟨_,_,h3,h4⟩:=h;have a1:=hk k (List.mem_cons_self ..) p h3;have a2:=zm6 ks _ q h4 fun x hx=>hk x (pY _ hx)
  rw[zdf];omega
theorem zo1(H:Hl l):∀(f:Nat) (k:Int) (p:Nat),0<=k->k<l.length->k<f->loN l k+1=(p:Int)->zkb (pcN l f k)+zmC l p<=zmC l (k+1).toNat
 |0,k,p,h0,_,hf,_=>by omega
 |f+1,k,p,h0,hl,hf,hp=>by
  obtain⟨j,rfl⟩:=pP h0;obtain⟨⟨kd,t,m,ks,a⟩,hx⟩:∃x,l[j]? =some x:=⟨_,glE (by omega)⟩;have F:=zp9 H hx hp;have hkn:=(yY (H.right _ (wK hx))).1;simp only at F hkn;have e:pcN l (f+1) (j:Int)=zfI l (pcN l f) ⟨kd,t,m,ks,a⟩:=by
   show (match l[((j:Nat):Int).toNat]? with|some x=>zfI l (pcN l f) x|none=>[])=_
   rw[wE,hx]
  have h1:=zpc (l:=l) (pc:=pcN l f) (t:=t) (n:=m) (a:=a) hkn F.len.1 F.len.2;have h2:=zm6 (pc:=pcN l f) ks p j F.chn fun x hx p' hp'=>zo1 H f x p' (F.inn x hx).1 (by have:=(F.inn x hx).2;omega) (by have:=(F.inn x hx).2;omega) hp'
  rw[e,show ((j:Int)+1).toNat=j+1 by omega,zoq hx];omega
theorem zoI{t:yo}(h:Fm t):opK (zmG t)<=ziS t.nodes t.nodes:=by
 obtain⟨hc,_,_⟩:=znA h.full _ _ _ (by omega) (by omega) h.its;rw[List.reverse_reverse] at hc;have hc:zmJ t.nodes 0 t.items t.nodes.length:=by
  have e:((t.nodes.length:Int)-1+1).toNat=t.nodes.length:=by omega
  rw[e] at hc;exact hc
 have hin:∀(ks:List Int) (p q:Nat),zmJ t.nodes p ks q->∀k∈ks,0<=k/\k<t.nodes.length:=by
  intro ks;induction ks with
  |nil=>intro p q _ k hk;cases hk
  |cons x ks ih=>
   rintro p q ⟨h1,h2,_,h4⟩ k hk;rcases wD.1 hk with rfl|hk
   ·exact⟨h1,h2⟩
   ·exact ih _ _ h4 k hk
 have h1:=zm6 (pc:=pcN t.nodes (t.nodes.length+1)) t.items 0 t.nodes.length hc fun k hk p hp=>zo1 h.hl _ k p (hin _ _ _ hc k hk).1 (hin _ _ _ hc k hk).2 (by have:=(hin _ _ _ hc k hk).2;omega) hp
 have h2:opK (zmG t)=zml (pcN t.nodes (t.nodes.length+1)) t.items:=by
  unfold zmG;generalize t.items=ks;induction ks with
  |nil=>rfl
  |cons k ks ih=>
   rw[List.flatMap_cons,zdf,<-ih];unfold opK zkb opK wNd;rw[List.countP_append]
 have h3:zmC t.nodes t.nodes.length=ziS t.nodes t.nodes:=by
  unfold zmC ziS;rw[List.take_length]
 have h4:zmC t.nodes 0=0:=rfl;omega
end
theorem zpe{n:Int}(h:n<0):Go.Lib.itoa n=45 :: Go.Lib.itoa (-n):=by
 unfold Go.Lib.itoa;rw[if_pos h,if_neg (by omega),show n.natAbs=(-n).toNat by omega]
section
variable {l:List Nd} {pc:Int→List Pc} {pr:Int→List UInt8} (H:∀k,pcB (pc k)=pr k)
include H
theorem zpT{k:Nat}{t:List UInt8}{n:Int}{ks:List Int}{a:Int}(hkn:yz k=true):pcB (zfI l pc ⟨k,t,n,ks,a⟩)=yU l pr ⟨k,t,n,ks,a⟩:=by
 have hq:=fun (k:Int) r=>zqb (l:=l) H k r
 have ha:=fun ks=>zqc H ks
 have hs:=fun last ks=>zox H last ks
 have hm:=zmX hkn;clear hkn;simp only[wD,wH,or_false] at hm;rcases hm with rfl|rfl|rfl|rfl|rfl|rfl|rfl|rfl|rfl|rfl|rfl|rfl|rfl|rfl|rfl|rfl|rfl|rfl|rfl|rfl|rfl|rfl|rfl|rfl|rfl|rfl|rfl|rfl|rfl|rfl|rfl|rfl|rfl|rfl|rfl|rfl|rfl|rfl|rfl|rfl|rfl|rfl|rfl|rfl|rfl|rfl|rfl|rfl|rfl|rfl|rfl|rfl|rfl|rfl|rfl|rfl|rfl|rfl|rfl|rfl|rfl|rfl|rfl|rfl|rfl|rfl|rfl|rfl|rfl|rfl|rfl|rfl|rfl|rfl|rfl|rfl|rfl
 all_goals first
  |rfl
  |(simp[yU,zfI,xE,qj,zM,jR,qe,xu,qO,Ys,vX,zk5,zhY,zeC,zjf,zmd,zlP,zmn,zii,zmL,kwd,sg,nm,bg,nu,tx,sp,zmx,H,hq,ha,hs];done)
  |(simp[yU,zfI,xE,qj,zM,jR,qe,xu,qO,Ys,vX,zk5,zhY,zeC,zjf,zmd,zlP,zmn,zii,zmL,kwd,sg,nm,bg,nu,tx,sp,zmx,H,hq,ha,hs]
    (repeat' split) <;> simp_all [zmn,zii,zmL,kwd,sg,nm,bg,nu,tx,sp,zpe];done)
  |(by_cases h0:ks=[] <;> simp[yU,zfI,xE,zM,Ys,zmd,zmn,zii,zmL,sg,sp,hs,h0];done)
end
end Lode
