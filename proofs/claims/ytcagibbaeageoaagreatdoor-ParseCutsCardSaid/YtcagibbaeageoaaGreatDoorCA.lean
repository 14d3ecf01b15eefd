/-
  A part of the proof: contracts of functions; no conditions.
-/
import Derived.Lib.AtoiAll
import Derived.Lib.ItoaNum
import GoSem.Op.String
import Derived.Lib.LastIndexByte
import Derived.Lib.Bytealg
import Derived.WalkKit
import Derived.WalkLawsBesides
import Derived.WalkSpells
import Derived.Lib.ConvBytes
import Derived.Shelf.Abstract
import Derived.Deep.RegionWith
import Derived.Deep.Light
import Derived.Deep.QuietTactic
import Derived.BigQuiet
import Derived.Test.YtcagibbaeageoaaGreatDoorProg
import Derived.Shelf.Strings.Builder1
import Derived.Shelf.Strings.Builder2
import Derived.Shelf.Strings.OnBuilder
import Derived.Shelf.Small.Strs
import Derived.Shelf.Small.Wraps
import Derived.Shelf.Strings.BuilderF
import Derived.Shelf.Strconv.Atoi
import Derived.Shelf.Strconv.Itoa0
import Derived.Shelf.Strconv.Itoa1
import Derived.Shelf.LaysM
import Derived.Shelf.Strconv.Itoa2
import Derived.Shelf.Strconv.Itoa3
import Derived.Shelf.Strconv.AtoiErrFast
import Derived.Shelf.Strconv.ParseIntEmpty
import Derived.Shelf.Strconv.AtoiFail
import Derived.Shelf.Strconv.Clone
import Derived.Shelf.Strconv.SyntaxError
import Derived.Shelf.LaysC
import Derived.Shelf.Strconv.ToError
import Derived.Shelf.Strconv.Lower
import Derived.Shelf.Strconv.ParseUint10
import Derived.Shelf.Strconv.ParseUint10Empty
import Derived.Shelf.Strconv.ParseUint10Any
import Derived.Shelf.Strconv.ParseInt10
import Derived.Shelf.Strconv.AtoiLong
import Derived.Shelf.Strconv.AtoiInnerAll
import Derived.Shelf.Strconv.RangeError
import Derived.Shelf.Strconv.ToErrorRange
import Derived.Shelf.Strconv.AtoiAll
import Derived.Shelf.Strconv.ErrVarAll
import Derived.Shelf.Strings.Search1
import Derived.Shelf.Strings.Prefix
import Derived.Shelf.Strings.Fields
import Derived.Shelf.Strings.SplitShaped
import Derived.Shelf.Unicode.Latin
import Derived.Shelf.Unicode.Is16White
import Derived.Shelf.Unicode.IsSpaceAny
import Derived.Shelf.Unicode.Is16Any
import Derived.Shelf.Unicode.Is32Any
import Derived.Shelf.Unicode.ExclAny
import Derived.Shelf.Slices.Turned
import Derived.Shelf.Slices.Reverse
import Derived.Shelf.Slices.Equal
import Derived.Ground.Names2Prog
import Derived.Shelf.Slices.Clone
import Derived.Shelf.Slices.Cells
import Derived.Shelf.Slices.Empties2
import Derived.Ground.SlgnProg
import Derived.Shelf.SlicesE.Index
import Derived.Shelf.SlicesE.Clone
import Derived.Deep.RegionHeld3
import Derived.Deep.DrawnRows
set_option maxRecDepth 100000
set_option maxHeartbeats 40000000
set_option linter.unusedSimpArgs false
set_option linter.unusedVariables false
theorem exE{α:Sort _}(x:α):∃y,x=y:=⟨x,rfl⟩
theorem bfE{α:Type _}[BEq α][LawfulBEq α]{a b:α}(h:a≠b):(a==b)=false:=beq_eq_false_iff_ne.2 h
theorem gtA{α:Type _}{xs:Array α}{i:Nat}{a:α}(h:xs[i]?=some a):i<xs.size:=(Array.getElem?_eq_some_iff.1 h).1
theorem gtL{α:Type _}{xs:List α}{i:Nat}{a:α}(h:xs[i]?=some a):i<xs.length:=(List.getElem?_eq_some_iff.1 h).1
theorem glE{α:Type _}{xs:List α}{i:Nat}(h:i<xs.length):xs[i]?=some xs[i]:=List.getElem?_eq_getElem h
theorem pA:type_of% @beq_eq_false_iff_ne:=@beq_eq_false_iff_ne
theorem pB:type_of% @List.getD_eq_getElem?_getD:=@List.getD_eq_getElem?_getD
theorem pF:type_of% @Nat.le_refl:=@Nat.le_refl
theorem pG:type_of% @List.length_append:=@List.length_append
theorem pH:type_of% @decide_eq_true_eq:=@decide_eq_true_eq
theorem pI:type_of% @Bool.and_eq_true:=@Bool.and_eq_true
theorem pJ:type_of% @Int.eq_ofNat_of_zero_le:=@Int.eq_ofNat_of_zero_le
theorem pK:type_of% @List.length_singleton:=@List.length_singleton
theorem pM:type_of% @List.mem_of_getElem?:=@List.mem_of_getElem?
theorem pN:type_of% @List.length_cons:=@List.length_cons
theorem pO:type_of% @Int.toNat_natCast:=@Int.toNat_natCast
theorem pP:type_of% @Bool.eq_iff_iff:=@Bool.eq_iff_iff
theorem pQ:type_of% @Nat.le_trans:=@Nat.le_trans
theorem pR:type_of% @List.not_mem_nil:=@List.not_mem_nil
theorem pS:type_of% @List.mem_cons:=@List.mem_cons
theorem pT:type_of% @decide_eq_false:=@decide_eq_false
theorem pU:type_of% @List.eq_nil_of_length_eq_zero:=@List.eq_nil_of_length_eq_zero
theorem pV:type_of% @Nat.zero_le:=@Nat.zero_le
theorem pW:type_of% @List.getElem?_toArray:=@List.getElem?_toArray
theorem pX:type_of% @beq_iff_eq:=@beq_iff_eq
theorem pY:type_of% @Nat.not_lt_zero:=@Nat.not_lt_zero
theorem pZ:type_of% @List.all_eq_true:=@List.all_eq_true
theorem wC:type_of% @List.length_nil:=@List.length_nil
theorem wD:type_of% @List.getElem?_map:=@List.getElem?_map
theorem wE:type_of% @decide_eq_true:=@decide_eq_true
theorem wF:type_of% @List.getElem_mem:=@List.getElem_mem
theorem wG:type_of% @List.cons_append:=@List.cons_append
theorem wH:type_of% @Bool.or_eq_true:=@Bool.or_eq_true
theorem wI:type_of% @Nat.lt_of_lt_of_le:=@Nat.lt_of_lt_of_le
theorem wJ:type_of% @List.mem_cons_of_mem:=@List.mem_cons_of_mem
theorem wL:type_of% @List.getElem?_append_right:=@List.getElem?_append_right
theorem wM:type_of% @List.mem_append:=@List.mem_append
theorem wN:type_of% @Option.some.injEq:=@Option.some.injEq
theorem wO:type_of% @List.length_map:=@List.length_map
theorem wP:type_of% @List.nil_append:=@List.nil_append
theorem wQ:type_of% @List.getElem?_append_left:=@List.getElem?_append_left
theorem wR:type_of% @List.forall_mem_cons:=@List.forall_mem_cons
theorem wT:type_of% @decide_eq_false_iff_not:=@decide_eq_false_iff_not
theorem wU:type_of% @List.mem_singleton:=@List.mem_singleton
theorem wV:type_of% @List.length_drop:=@List.length_drop
theorem wX:type_of% @List.take_add_one:=@List.take_add_one
theorem wY:type_of% @List.getElem?_eq_none:=@List.getElem?_eq_none
theorem wZ:type_of% @List.length_take:=@List.length_take
theorem gB:type_of% @bne_iff_ne:=@bne_iff_ne
theorem gC:type_of% @List.any_eq_true:=@List.any_eq_true
theorem gD:type_of% @List.mem_reverse:=@List.mem_reverse
theorem gE:type_of% @bne_eq_false_iff_eq:=@bne_eq_false_iff_eq
theorem gF:type_of% @List.length_reverse:=@List.length_reverse
theorem gG:type_of% @Array.getElem?_eq_some_iff:=@Array.getElem?_eq_some_iff
theorem gH:type_of% @List.getElem?_eq_some_iff:=@List.getElem?_eq_some_iff
theorem gI:type_of% @List.append_nil:=@List.append_nil
theorem bR{B:Nat}{w:Go.World}:Go.RowKit.Below B w w:=Go.RowKit.Below.refl _ _
theorem pC:type_of% @Go.IntWalk.i64_in:=@Go.IntWalk.i64_in
theorem pE:type_of% @Go.RowKit.Below.refl:=@Go.RowKit.Below.refl
namespace Lode
def ju(c:UInt8):Bool:=(decide (32<=c.toNat) && decide (c.toNat<=126)) || c.toNat == 10
def zM(c:UInt8):Bool:=decide (97<=c.toNat) && decide (c.toNat<=122)
def kZ(c:UInt8):Bool:=decide (65<=c.toNat) && decide (c.toNat<=90)
def zL(c:UInt8):Bool:=decide (48<=c.toNat) && decide (c.toNat<=57)
def xL(p:UInt8->Bool):List UInt8->Option Nat
 |[]=>none
 |c :: r=>if p c then some 0 else (xL p r).map (· +1)
def zbc:Option Nat->Int
 |none=> -1
 |some k=>k
def xP(s:List UInt8):Nat×Nat:=
 if 3000<s.length then (3000,5) else
 match xL (fun c=> !ju c) s with
 |some i=>(i,4)
 |none=>(0,0)
def yd(p:UInt8->Bool):List UInt8->Nat
 |[]=>0
 |c :: r=>if p c then yd p r+1 else 0
def zT:Bool->List UInt8->Nat
 |_,[]=>0
 |cm,c :: r=>if c=10 then zT false r+1 else if c=35 then zT true r+1 else if c=32\/cm=true then zT cm r+1 else 0
def QL:List UInt8->Option (List UInt8×Nat)
 |[]=>none
 |c :: r=>
  if c.toNat<32\/126<c.toNat then none
  else if c=34 then some ([],1)
  else if c=92 then
   match r with
   |[]=>none
   |d :: r'=>if d=34\/d=92 then (QL r').map fun x=>(d :: x.1,x.2+2) else if d=110 then (QL r').map fun x=>(10 :: x.1,x.2+2) else none
  else (QL r).map fun x=>(c :: x.1,x.2+1)
def jk(s:List UInt8):Option (List UInt8×Nat):=
 match QL (s.drop 1) with
 |some (t,n)=>if t.length<=60 then some (t,n+1) else none
 |none=>none
def xE:List (List UInt8):=[[97,110,100],[97,115],[98,111,111,108],[98,121,116,101],[99,97,116,99,104],[99,104,97,110],[99,108,97,115,115],[99,111,108,108,101,99,116],[99,117,116],[101,108,115,101],[101,120,116,101,114,110],[102,97,108,115,101],[102,110],[102,117,110],[104,111,108,100],[105,102],[105,110],[105,110,116],[105,115],[107,105,110,100],[108,101,116],[109,97,116,99,104],[110,101,119],[110,111,116],[111,114],[111,117,116],[112,117,114,101],[114,101,97,100],[114,101,99,118],[114,111,111,116],[115,101,108,101,99,116],[115,101,110,100],[115,104,111,119],[115,105,122,101],[115,112,97,119,110],[116,101,120,116],[116,104,114,111,119],[116,114,117,101],[116,114,121],[117,110,105,116],[118,97,114],[119,101,97,107],[119,104,105,108,101],[121,105,101,108,100]]
def yb:List (List UInt8):=[[58,61],[61,62],[61,61],[33,61],[60,61],[62,61],[43,43],[43],[45],[42],[47],[37],[60],[62],[61],[40],[41],[91],[93],[123],[125],[44],[58],[59],[46]]
def xy(l:List UInt8):Nat:=l.foldl (fun a c=>10*a+(c.toNat-48)) 0
def jR(l:List UInt8):Bool:= !l.isEmpty && l.all zL && decide (xy l<=1000000000) && (decide (l.length=1) || !(l.head? == some 48))
def qd:List UInt8->List UInt8->Bool
 |[],_=>true
 |_ :: _,[]=>false
 |a :: l,b :: m=>decide (a=b) && qd l m
def xd(s:List UInt8):Option (Nat×List UInt8×Nat):=
 match s with
 |[]=>none
 |c :: r=>
  if zM c then
   let n:=1+yd (fun c=>zM c || zL c) r
   if n<=12 then some (if xE.contains (s.take n) then 5 else 1,s.take n,n) else none
  else if kZ c then
   let n:=1+yd (fun c=>zM c || zL c) r
   if n<=12 then some (2,s.take n,n) else none
  else if zL c then
   let n:=1+yd zL r
   if jR (s.take n) then some (3,s.take n,n) else none
  else if c=34 then (jk s).map fun x=>(4,x.1,x.2)
  else (yb.find? fun g=>qd g s).map fun g=>(6,g,g.length)
structure xQ where
 kind:Nat
 text:List UInt8
 at_:Int
 deriving DecidableEq,Inhabited
def ZA:Nat->Nat->Nat->List UInt8->List xQ×Nat×Nat
 |0,_,_,_=>([],0,0)
 |fuel+1,n,at_,r=>
  let g:=zT false r
  match r.drop g with
  |[]=>([],0,0)
  |r1=>
   match xd r1 with
   |none=>([],at_+g,4)
   |some (k,t,m)=>
    if n=1200 then ([],at_+g,5) else
    let x:=ZA fuel (n+1) (at_+g+m) (r1.drop m)
    if x.2.2=0 then (⟨k,t,(at_+g:Nat)⟩ :: x.1,0,0) else ([],x.2)
def jp(s:List UInt8):List xQ×Nat×Nat:=
 if (xP s).2≠0 then ([],xP s) else ZA (s.length+1) 0 0 s
def Vb(s:List UInt8)(at_:Nat):Nat×Nat:=(s.take at_).foldl (fun p c=>if c=10 then (p.1+1,1) else (p.1,p.2+1)) (1,1)
def yR(c:UInt8):List UInt8:=if c=10 then [92,110] else if c=34\/c=92 then [92,c] else [c]
def xr(s:List UInt8):List UInt8×Nat:=
 if 60<s.length then ([],5) else if s.all ju then ([34] ++ s.flatMap yR ++ [34],0) else ([],4)
def yx(a:Nat)(l:List UInt8):Nat:=l.foldl (fun a c=>10*a+(c.toNat-48)) a
theorem vv(l:List UInt8):xy l=yx 0 l:=by unfold xy yx;exact rfl
theorem qA(a:Nat)(c:UInt8)(l:List UInt8):yx a (c :: l)=yx (10*a+(c.toNat-48)) l:=by simp only[yx,List.foldl_cons]
theorem kB(l:List UInt8):∀(a:Nat),yx a l=a*10 ^ l.length+yx 0 l:=by
 induction l with
 |nil=>intro a;simp[yx]
 |cons c l ih=>
  intro a;have h1:=ih (10*a+(c.toNat-48));have h2:=ih (10*0+(c.toNat-48));rw[qA,qA,h1,h2,pN,Nat.pow_succ];clear ih h1 h2;generalize 10 ^ l.length=p;generalize c.toNat-48=d;generalize yx 0 l=v;have:a*(p*10)=10*a*p:=by rw[Nat.mul_comm p 10,<-Nat.mul_assoc,Nat.mul_comm a 10]
  rw[this,Nat.add_mul,Nat.add_mul,Nat.mul_zero,Nat.zero_mul,Nat.zero_add,Nat.add_assoc]
theorem zaE(a:Nat)(l:List UInt8)(c:UInt8):yx a (l ++ [c])=10*yx a l+(c.toNat-48):=by simp[yx]
theorem jh(c:UInt8):zL c=true↔48<=c.toNat/\c.toNat<=57:=by simp[zL]
theorem zaD:∀(l:List UInt8),l.all zL=true->yx 0 l<10 ^ l.length
 |[],_=>by simp[yx]
 |c :: l,h=>by
  simp only[List.all_cons,pI] at h;have h1:=(jh c).1 h.1;have h2:=zaD l h.2;rw[qA,kB,pN,Nat.pow_succ];have:(10*0+(c.toNat-48))*10 ^ l.length<=9*10 ^ l.length:=Nat.mul_le_mul_right _ (by omega);omega
theorem zc6(c:UInt8)(l:List UInt8)(h:49<=c.toNat):10 ^ l.length<=yx 0 (c :: l):=by
 rw[qA,kB];have:1*10 ^ l.length<=(10*0+(c.toNat-48))*10 ^ l.length:=Nat.mul_le_mul_right _ (by omega);omega
theorem uq:∀(n:Nat) (l:List UInt8),l.length=n->l≠[]->l.all zL=true->(l.length=1\/l.head? ≠some 48)->Go.Lib.decDigits (yx 0 l)=l:=by
 intro n;induction n with
 |zero=>intro l hl h0;exact absurd (pU hl) h0
 |succ n ih=>
  intro l hl h0 hd hh;obtain⟨m,c,rfl⟩:∃m c,l=m ++ [c]:=⟨l.dropLast,l.getLast h0,(List.dropLast_concat_getLast h0).symm⟩;simp only[List.all_append,List.all_cons,List.all_nil,Bool.and_true,pI] at hd;have hc:=(jh c).1 hd.2;have hcc:UInt8.ofNat (48+(c.toNat-48))=c:=by rw[show 48+(c.toNat-48)=c.toNat from by omega];simp
  rw[zaE];cases m with
  |nil=>
   rw[Go.Lib.decDigits,dif_pos (by simp[yx];omega)];simp[yx,hcc]
  |cons a m=>
   have hh':(a :: m).head? ≠some 48:=by
    rcases hh with h|h
    ·simp at h
    ·simpa using h
   have ha:49<=a.toNat:=by
    have h1:=(jh a).1 (by simp only[List.all_cons,pI] at hd;exact hd.1.1);rcases Nat.lt_or_ge 48 a.toNat with h|h
    ·exact h
    ·exfalso;apply hh';simp;apply UInt8.toNat_inj.1;simp;omega
   have hge:=zc6 a m ha;have hpos:1<=10 ^ m.length:=Nat.pow_pos (by decide);rw[Go.Lib.decDigits,dif_neg (by omega)];rw[show (10*yx 0 (a :: m)+(c.toNat-48)) / 10=yx 0 (a :: m) by omega,show (10*yx 0 (a :: m)+(c.toNat-48)) % 10=c.toNat-48 by omega,hcc];rw[ih (a :: m) (by simpa using hl) (by simp) hd.1 (.inr hh')]
theorem KG:∀(n u:Nat),u<=n->1<=u->(Go.Lib.decDigits u).head? ≠some 48:=by
 intro n;induction n with
 |zero=>intro u h1 h2;omega
 |succ n ih=>
  intro u h1 h2;rw[Go.Lib.decDigits];split
  ·simp;intro h;have:=congrArg UInt8.toNat h;simp at this;omega
  ·have h3:=ih (u / 10) (by omega) (by omega);cases hx:Go.Lib.decDigits (u / 10) with
   |nil=>rw[Go.Lib.decDigits] at hx;split at hx <;> simp at hx
   |cons a m=>rw[hx] at h3;simpa using h3
theorem KF(u:Nat)(h:1<(Go.Lib.decDigits u).length):(Go.Lib.decDigits u).head? ≠some 48:=by
 rcases Nat.lt_or_ge u 10 with h1|h1
 ·rw[Go.Lib.decDigits,dif_pos h1] at h;simp at h
 ·exact KG u u (pF _) (by omega)
theorem Xo:∀(l:List UInt8) (a:Nat),l.all zL=true->a<18446744073709551616->Go.Lib.parseUint10 a l=if yx a l<18446744073709551616 then .ok (yx a l) else .range
 |[],a,_,h=>by simp[Go.Lib.parseUint10,yx,h]
 |c :: l,a,hd,h=>by
  simp only[List.all_cons,pI] at hd;have hc:=(jh c).1 hd.1;have hbig:∀b,b<=yx b l:=fun b=>by
   rw[kB];have:1<=10 ^ l.length:=Nat.pow_pos (by decide);have:=Nat.mul_le_mul_left b this;omega
  rw[Go.Lib.parseUint10,if_pos hc,qA];have hb:=hbig (10*a+(c.toNat-48));by_cases h1:1844674407370955162<=a
  ·rw[if_pos h1,if_neg (by omega)]
  ·rw[if_neg h1];by_cases h2:18446744073709551616<=a*10+(c.toNat-48)
   ·rw[if_pos h2,if_neg (by omega)]
   ·rw[if_neg h2,Xo l _ hd.2 (by omega),show a*10+(c.toNat-48)=10*a+(c.toNat-48) by omega]
theorem Ja(l:List UInt8)(h0:l≠[])(hd:l.all zL=true):
 Go.Lib.atoiAll l=if xy l<9223372036854775808 then .ok (xy l) else .range:=by
 cases l with
 |nil=>exact absurd rfl h0
 |cons c r=>
  have hc:=(jh c).1 (by simp only[List.all_cons,pI] at hd;exact hd.1);unfold Go.Lib.atoiAll;simp only[];rw[if_neg (by omega)];unfold Go.Lib.parseMag;rw[if_neg (by simp),Xo _ 0 hd (by omega),vv];by_cases h1:yx 0 (c :: r)<9223372036854775808
  ·rw[if_pos (by omega),if_pos h1];simp only[];rw[if_neg (by omega),if_neg (by omega),if_neg (by omega)]
  ·rw[if_neg h1];by_cases h2:yx 0 (c :: r)<18446744073709551616
   ·rw[if_pos h2];simp only[];rw[if_pos (by omega)]
   ·rw[if_neg h2]
theorem zeh(l:List UInt8)(h0:l≠[])(hd:l.all zL=true):jR l=(decide (xy l<=1000000000) && decide (Go.Lib.itoa (xy l)=l)):=by
 have e:Go.Lib.itoa (xy l)=Go.Lib.decDigits (xy l):=by unfold Go.Lib.itoa;rw[if_neg (by omega)];simp
 rw[e];unfold jR;have e0:l.isEmpty=false:=by cases l <;> simp_all
 rw[e0,hd];simp only[Bool.not_false,Bool.true_and,Bool.and_true];congr 1;rw[pP];simp only[wH,pH,Bool.not_eq_true',pA];constructor
 ·intro h;exact uq _ l rfl h0 hd h
 ·intro h;rcases Nat.lt_or_ge 1 l.length with h1|h1
  ·right;rw[<-h] at h1 ⊢;exact KF _ h1
  ·left;have:l.length≠0:=fun h=>h0 (pU h);omega
theorem Yu:∀(l m:List UInt8),l.length=m.length->l.all zL=true->m.all zL=true->Go.Op.bytesLess l m=decide (yx 0 l<yx 0 m)
 |[],[],_,_,_=>by simp[Go.Op.bytesLess,yx]
 |[],_ :: _,h,_,_=>by simp at h
 |_ :: _,[],h,_,_=>by simp at h
 |a :: l,b :: m,h,ha,hb=>by
  simp only[List.all_cons,pI] at ha hb;have hl:l.length=m.length:=by simpa using h
  have h1:=(jh a).1 ha.1;have h2:=(jh b).1 hb.1;have v1:=zaD l ha.2;have v2:=zaD m hb.2;rw[Go.Op.bytesLess,Yu l m hl ha.2 hb.2,qA,qA,kB l (10*0+(a.toNat-48)),kB m (10*0+(b.toNat-48)),hl];rw[hl] at v1;rw[pP];simp only[wH,pI,pH,pX,UInt8.lt_iff_toNat_lt];have hp:1<=10 ^ m.length:=Nat.pow_pos (by decide);generalize 10 ^ m.length=p at *;rcases Nat.lt_trichotomy a.toNat b.toNat with hlt|heq|hgt
  ·have:(10*0+(a.toNat-48)+1)*p<=(10*0+(b.toNat-48))*p:=Nat.mul_le_mul_right _ (by omega);rw[Nat.add_mul] at this;constructor
   ·intro _;omega
   ·intro _;exact .inl hlt
  ·have hab:a=b:=UInt8.toNat_inj.1 heq;subst hab;constructor
   ·rintro (h|⟨_,h⟩)
    ·omega
    ·omega
   ·intro h;exact .inr ⟨rfl,by omega⟩
  ·have:(10*0+(b.toNat-48)+1)*p<=(10*0+(a.toNat-48))*p:=Nat.mul_le_mul_right _ (by omega);rw[Nat.add_mul] at this;constructor
   ·rintro (h|⟨h,_⟩)
    ·omega
    ·rw[h] at hgt;omega
   ·intro h;omega
theorem JO(p:UInt8->Bool):∀l:List UInt8,(yd p l=l.length)↔l.all p=true
 |[]=>by simp[yd]
 |c :: l=>by
  have hle:∀m:List UInt8,yd p m<=m.length:=by
   intro m;induction m with
   |nil=>simp[yd]
   |cons d m ih=>simp only[yd];split <;> simp;omega
  simp only[yd,List.all_cons,pI,pN];split
  ·rename_i h;rw[<-JO p l];simp[h]
  ·rename_i h;simp[h]
def jB:List UInt8:=[49,48,48,48,48,48,48,48,48,48]
theorem zgw(l:List UInt8):jR l=(!(l.isEmpty || decide (10<l.length) || (decide (1<l.length) && (l.head? == some 48)) || (decide (l.length=10) && (!Go.Op.bytesLess l jB && !(l == jB)))) && decide (yd zL l=l.length)):=by
 have e1:decide (yd zL l=l.length)=l.all zL:=by rw[pP];simp only[pH];exact JO _ _
 rw[e1];unfold jR;cases hd:l.all zL with
 |false=>simp
 |true=>
  cases hl:l with
  |nil=>simp
  |cons c r=>
   rw[<-hl];have e0:l.isEmpty=false:=by rw[hl];rfl
   rw[e0];have hlt:=zaD l hd;rw[<-vv] at hlt;by_cases hz:l.head? =some 48
   ·rw[hz];by_cases h1:l.length=1
    ·have:xy l<=1000000000:=by rw[h1] at hlt;omega
     simp[h1,this]
    ·have:1<l.length:=by rw[hl] at h1 ⊢;simp at h1 ⊢;cases r <;> simp_all
     simp[h1,this]
   ·have hz':(l.head? == some 48)=false:=by simpa using hz
    rw[hz'];have hc:49<=c.toNat:=by
     have h1:=(jh c).1 (by rw[hl] at hd;simp only[List.all_cons,pI] at hd;exact hd.1);rcases Nat.lt_or_ge 48 c.toNat with h|h
     ·exact h
     ·exfalso;apply hz;rw[hl];simp;apply UInt8.toNat_inj.1;simp;omega
    have hge:10 ^ r.length<=xy l:=by rw[hl];exact zc6 c r hc
    have hlen:l.length=r.length+1:=by rw[hl];rfl
    rcases Nat.lt_trichotomy l.length 10 with h|h|h
    ·have:xy l<=1000000000:=by
      have:10 ^ l.length<=10 ^ 9:=Nat.pow_le_pow_right (by omega) (by omega);omega
     have h2:¬10<l.length:=by omega
     have h3:¬l.length=10:=by omega
     simp[this,h2,h3]
    ·have hb:=Yu l jB (by rw[h];rfl) hd (by decide);have hm:yx 0 jB=1000000000:=by decide
     rw[hb,hm,<-vv];have heq:(l == jB)=decide (xy l=1000000000):=by
      rw[pP];simp only[pX,pH];constructor
      ·intro h;rw[h];decide
      ·intro hv;have h1:=uq _ l rfl (by rw[hl];simp) hd (.inr hz);have h2:=uq _ jB rfl (by decide) (by decide) (.inr (by decide));rw[<-h1,<-h2,<-vv,<-vv,hv];rfl
     rw[heq];simp[h];rw[pP];simp;omega
    ·have hbig:¬xy l<=1000000000:=by
      have:10 ^ 10<=10 ^ r.length:=Nat.pow_le_pow_right (by omega) (by omega);omega
     simp[h,hbig]
section
open Go Go.RowKit
theorem zj{p:Prop}(h:p):Hid p:=h
structure XK(P:Program)(g:Nat)(lb:Array Value)(p:UInt8->Bool)(w:World):Prop where
 eg:∀args w,(callFunc g args).run P w=.ok (.enter g args) w
 calls:∀(W:World) (c:UInt8),Below w.heap.size w W->Calls P g (#[.int .u8 (c.toNat:Int)] ++ lb) W fun e W'=>e=.returned (.bool (p c))/\Below W.heap.size W W'
theorem kO(p:UInt8->Bool):∀(l:List UInt8) (k:Nat),(∀j,j<k->p (l.getD j 0)=false)->k<=l.length->xL p l=(xL p (l.drop k)).map (· +k)
 |l,0,_,_=>by simp
 |[],k+1,_,h=>by simp at h
 |c :: r,k+1,h,hk=>by
  have h0:p c=false:=h 0 (by omega);have:=kO p r k (fun j hj=>h (j+1) (by omega)) (by simpa using hk);simp only[xL,h0,List.drop_succ_cons,Bool.false_eq_true,if_false];rw[this];simp[Option.map_map,Function.comp_def];rfl
theorem zf{w w1 w2:World}(h:Below w.heap.size w w1)(k:Below w1.heap.size w1 w2):Below w.heap.size w w2:=h.trans (k.mono h.size)
theorem zg(w:World)(o:Obj):Below w.heap.size w (w.alloc o):=bR.alloc (pF _) _
theorem uj(w:World)(e:TypeId)(s:ByteArray):Below w.heap.size w (Lib.bytesWorld w e s):=
 ⟨rfl,rfl,rfl,by rw[Lib.bytesWorld_size];omega,fun k hk=>Lib.bytesWorld_at_old w e s k hk⟩
theorem XG(c:UInt8)(n:Nat)(h:n<256):(c.toNat=n)=(c=UInt8.ofNat n):=by
 rw[eq_iff_iff];constructor
 ·intro e;subst e;simp
 ·intro e;subst e;simp;omega
theorem zlq(s:ByteArray)(k:Nat)(h:k<s.size):s.data.toList.getD k 0=s[k]:=by
 have h':k<s.data.toList.length:=by simpa using h
 simp[List.getD,h];rfl
theorem qh(s:ByteArray)(k:Nat)(h:k<s.size):s.data.toList.drop k=s[k] :: s.data.toList.drop (k+1):=by
 have h':k<s.data.toList.length:=by simpa using h
 rw[List.drop_eq_getElem_cons h'];simp;rfl
theorem jj(s:ByteArray)(k:Nat)(h:s.size<=k):s.data.toList.drop k=[]:=by
 simp;exact h
theorem Jp(c:UInt8):ju c=true↔((32<=(c.toNat:Int)/\(c.toNat:Int)<=126)\/(c.toNat:Int)=10):=by
 unfold ju;simp;omega
theorem zem(c:UInt8):ju c=false↔(((c.toNat:Int)<32\/126<(c.toNat:Int))/\(c.toNat:Int)≠10):=by
 rw[<-Bool.not_eq_true,Jp];omega
theorem zix(s:ByteArray)(k:Nat)(h:¬3000<s.size)(hall:∀j,j<k->(!ju (s.data.toList.getD j 0))=false)(hlt:k<s.size)(hb:ju s[k]=false):xP s.data.toList=(k,4):=by
 unfold xP;rw[if_neg (by simpa using h),kO _ _ k hall (by simpa using (Nat.le_of_lt hlt)),qh s k hlt];simp[xL,hb]
theorem zgH(s:ByteArray)(h:¬3000<s.size)(hall:∀j,j<s.size->(!ju (s.data.toList.getD j 0))=false):xP s.data.toList=(0,0):=by
 unfold xP;rw[if_neg (by simpa using h),kO _ _ s.size hall (by simp),jj s s.size (pF _)];rfl
theorem Vt(s:ByteArray)(p:UInt8->Bool)(b:Bool)(a k:Nat)(hall:∀j,j<k->p (s.data.toList.getD (a+j) 0)=b)(hlt:a+k<s.size)(hk:p s[a+k]=b):∀j,j<k+1->p (s.data.toList.getD (a+j) 0)=b:=by
 intro j hj;by_cases e:j=k
 ·subst e;rw[zlq s _ hlt];exact hk
 ·exact hall j (by omega)
theorem zc7(s:ByteArray)(p:UInt8->Bool)(b:Bool)(k:Nat)(hall:∀j,j<k->p (s.data.toList.getD j 0)=b)(hlt:k<s.size)(hk:p s[k]=b):∀j,j<k+1->p (s.data.toList.getD j 0)=b:=by
 intro j hj;by_cases e:j=k
 ·subst e;rw[zlq s _ hlt];exact hk
 ·exact hall j (by omega)
theorem Qc(s:ByteArray)(p:UInt8->Bool)(a:Nat):∀(k:Nat),(∀j,j<k->p (s.data.toList.getD (a+j) 0)=true)->a+k<=s.size->yd p (s.data.toList.drop a)=k+yd p (s.data.toList.drop (a+k))
 |0,_,_=>by simp
 |k+1,h,hk=>by
  have h1:=Qc s p a k (fun j hj=>h j (by omega)) (by omega);have h2:=h k (by omega);have hlt:a+k<s.size:=by omega
  rw[zlq s _ hlt] at h2;rw[h1,qh s (a+k) hlt];simp[yd,h2];rw[Nat.add_assoc];omega
theorem uM(c:UInt8)(cm:Bool)(r:List UInt8):zT cm (c :: r)=if (c.toNat:Int)=10 then zT false r+1 else if (c.toNat:Int)=35 then zT true r+1 else if (c.toNat:Int)=32\/cm=true then zT cm r+1 else 0:=by
 have e1:(c=10)=((c.toNat:Int)=10):=by rw[show ((c.toNat:Int)=10)=(c.toNat=10) from by simp;omega,XG c 10 (by omega)];rfl
 have e2:(c=35)=((c.toNat:Int)=35):=by rw[show ((c.toNat:Int)=35)=(c.toNat=35) from by simp;omega,XG c 35 (by omega)];rfl
 have e3:(c=32)=((c.toNat:Int)=32):=by rw[show ((c.toNat:Int)=32)=(c.toNat=32) from by simp;omega,XG c 32 (by omega)];rfl
 simp only[zT,e1,e2,e3]
section
variable {n k:Nat} {cm:Bool} {c:UInt8} {r:List UInt8}
theorem zes(h:n=k+zT cm (c :: r))(a:((c.toNat:Int) == 10)=true):n=(k+1)+zT false r:=by rw[uM,if_pos (by simpa using a)] at h;omega
theorem zio(h:n=k+zT cm (c :: r))(a:((c.toNat:Int) == 10)=false)(b:((c.toNat:Int) == 35)=true):n=(k+1)+zT true r:=by rw[uM,if_neg (by simpa using a),if_pos (by simpa using b)] at h;omega
theorem Qs(h:n=k+zT cm (c :: r))(a:((c.toNat:Int) == 10)=false)(b:((c.toNat:Int) == 35)=false)(d:(c.toNat:Int)=32):n=(k+1)+zT cm r:=by
 rw[uM,if_neg (by simpa using a),if_neg (by simpa using b),if_pos (.inl d)] at h;omega
theorem zll(h:n=k+zT cm (c :: r))(a:((c.toNat:Int) == 10)=false)(b:((c.toNat:Int) == 35)=false)(d:((c.toNat:Int) != 32)=false\/(!cm)=false):n=(k+1)+zT cm r:=by
 rw[uM,if_neg (by simpa using a),if_neg (by simpa using b),if_pos (by simpa using d)] at h;omega
theorem zbg(h:n=k+zT cm (c :: r))(a:((c.toNat:Int) == 10)=false)(b:((c.toNat:Int) == 35)=false)(d:((c.toNat:Int) != 32)=true/\(!cm)=true):n=k:=by
 rw[uM,if_neg (by simpa using a),if_neg (by simpa using b),if_neg (by simpa using d)] at h;omega
end
theorem zlX(s:ByteArray)(h:0<s.size)(n:Nat)(hn:n<256):(s.data.toList.head? == some (UInt8.ofNat n))=((s[0].toNat:Int) == n):=by
 have:=qh s 0 h;rw[List.drop_zero] at this;rw[this,pP];simp only[List.head?_cons,Option.some_beq_some,pX];rw[<-XG _ n hn];omega
theorem zlp(s:ByteArray)(n:Nat)(hn:n<256):(s.data.toList.head? == some (UInt8.ofNat n))=if h:0<s.size then ((s[0].toNat:Int) == n) else false:=by
 split
 ·exact zlX s ‹_› n hn
 ·have:=jj s 0 (by omega);rw[List.drop_zero] at this;rw[this];rfl
theorem ceq(c:UInt8)(n:Nat)(hn:n<256):(((c.toNat:Int))=n)=(c=UInt8.ofNat n):=by
 rw[<-XG c n hn];simp only[eq_iff_iff];omega
theorem c34(c:UInt8):((c.toNat:Int)=34)=(c=34):=ceq c 34 (by omega)
theorem c92(c:UInt8):((c.toNat:Int)=92)=(c=92):=ceq c 92 (by omega)
theorem zlW(c:UInt8):((c.toNat:Int)=110)=(c=110):=ceq c 110 (by omega)
theorem c10(c:UInt8):((c.toNat:Int)=10)=(c=10):=ceq c 10 (by omega)
theorem uh(s:ByteArray)(i:Nat)(h:i<s.size):(s.extract i (i+1)).data.toList=[s[i]]:=by
 have:=qh s i h;simp only[ByteArray.data_extract,Array.toList_extract,List.extract_eq_take_drop];rw[this];simp
theorem zm(a b:ByteArray):(a ++ b).data.toList=a.data.toList ++ b.data.toList:=by simp
theorem kF(c:UInt8)(r:List UInt8):QL (c :: r)=if c.toNat<32\/126<c.toNat then none else if c=34 then some ([],1) else if c=92 then
 (match r with
 |[]=>none
 |d :: r'=>if d=34\/d=92 then (QL r').map fun x=>(d :: x.1,x.2+2) else if d=110 then (QL r').map fun x=>(10 :: x.1,x.2+2) else none)
 else (QL r).map fun x=>(c :: x.1,x.2+1):=by
 rw[QL.eq_def]
 first|done|rfl
def zjv:Option (List UInt8×Nat)->Option (List UInt8×Nat)
 |some (t,n)=>if t.length<=60 then some (t,n+1) else none
 |none=>none
theorem zga(s:List UInt8):jk s=zjv (QL (s.drop 1)):=by
 unfold jk zjv;cases QL (s.drop 1) <;> rfl
def zgS(q:Option (List UInt8×Nat))(n:Int)(t:ByteArray)(ok:Bool):Prop:=
 match q with
 |some (t',n')=>ok=true/\n=n'/\t=⟨t'.toArray⟩
 |none=>ok=false
def kW(s:ByteArray)(a k:Nat)(ob:ByteArray)(q:Option (List UInt8×Nat)):Prop:=
 q=zjv ((QL (s.data.toList.drop (a+1+k))).map fun x=>(ob.data.toList ++ x.1,k+x.2))
theorem kW.start(s:ByteArray)(a:Nat):kW s a 0 ByteArray.empty (jk (s.data.toList.drop a)):=by
 unfold kW;rw[zga,List.drop_drop];cases QL (s.data.toList.drop (a+1)) <;> simp
section
variable {s:ByteArray} {a k:Nat} {ob:ByteArray} {q:Option (List UInt8×Nat)}
theorem JZ(h:kW s a k ob q)(e:QL (s.data.toList.drop (a+1+k))=none):q=none:=by
 unfold kW at h;rw[e] at h;exact h
theorem zkg(h:kW s a k ob q)(he:s.size<=a+1+k):q=none:=JZ h (by rw[jj s _ he];rfl)
theorem zkh(h:kW s a k ob q)(hlt:a+1+k<s.size)(b:(s[a+1+k].toNat:Int)<32):q=none:=JZ h (by rw[qh s _ hlt,kF,if_pos (by omega)])
theorem zk0(h:kW s a k ob q)(hlt:a+1+k<s.size)(b:126<(s[a+1+k].toNat:Int)):q=none:=JZ h (by rw[qh s _ hlt,kF,if_pos (by omega)])
theorem zeY(h:kW s a k ob q)(hlt:a+1+k<s.size)(b1:32<=(s[a+1+k].toNat:Int))(b2:(s[a+1+k].toNat:Int)<=126)(b3:((s[a+1+k].toNat:Int) == 34)=true)(n:Int)(hn:n=k+2):
 zgS q n ob (decide ((ob.size:Int)<=60)):=by
 have e:QL (s.data.toList.drop (a+1+k))=some ([],1):=by
  rw[qh s _ hlt,kF,if_neg (by omega),if_pos (by rw[pX,c34] at b3;exact b3)]
 unfold kW at h;rw[e] at h;simp only[Option.map_some,zjv,gI] at h;subst h;by_cases hl:ob.size<=60
 ·rw[if_pos (by simpa using hl)];exact⟨by simp;omega,by omega,rfl⟩
 ·rw[if_neg (by simpa using hl)];show _=_
  simp;omega
theorem zeX(h:kW s a k ob q)(hlt:a+1+k<s.size)(b1:32<=(s[a+1+k].toNat:Int))(b2:(s[a+1+k].toNat:Int)<=126)(b3:((s[a+1+k].toNat:Int) == 34)=false)(b4:((s[a+1+k].toNat:Int) != 92)=true):
 kW s a (k+1) (ob ++ s.extract (a+1+k) (a+1+k+1)) q:=by
 unfold kW at *;rw[h,qh s _ hlt,kF,if_neg (by omega),if_neg (by rw[pA,ne_eq,c34] at b3;exact b3),if_neg (by rw[gB,ne_eq,c92] at b4;exact b4),zm,uh s _ hlt];cases QL (s.data.toList.drop (a+1+k+1)) <;> simp[Nat.add_assoc,Nat.add_comm 1,Option.map]
theorem VL(h:kW s a k ob q)(hlt:a+1+k<s.size)(b1:32<=(s[a+1+k].toNat:Int))(b2:(s[a+1+k].toNat:Int)<=126)(b3:((s[a+1+k].toNat:Int) == 34)=false)(b4:((s[a+1+k].toNat:Int) != 92)=false)(he:s.size<=a+1+k+1):q=none:=
 JZ h (by
  rw[qh s _ hlt,kF,if_neg (by omega),if_neg (by rw[pA,ne_eq,c34] at b3;exact b3),if_pos (by rw[gE,c92] at b4;exact b4),jj s _ he])
theorem zhL(h:kW s a k ob q)(hlt:a+1+k<s.size)(b1:32<=(s[a+1+k].toNat:Int))(b2:(s[a+1+k].toNat:Int)<=126)(b3:((s[a+1+k].toNat:Int) == 34)=false)(b4:((s[a+1+k].toNat:Int) != 92)=false)(h2:a+1+k+1<s.size)
 (b5:(s[a+1+k+1].toNat:Int)=34\/(s[a+1+k+1].toNat:Int)=92):kW s a (k+2) (ob ++ s.extract (a+1+k+1) (a+1+k+1+1)) q:=by
 unfold kW at *;rw[h,qh s _ hlt,kF,if_neg (by omega),if_neg (by rw[pA,ne_eq,c34] at b3;exact b3),if_pos (by rw[gE,c92] at b4;exact b4),zm,uh s _ h2,qh s _ h2];simp only[];rw[if_pos (by rw[c34,c92] at b5;exact b5)];rw[show a+1+k+1+1=a+1+(k+2) by omega];cases QL (s.data.toList.drop (a+1+(k+2))) <;> simp[Nat.add_assoc,Nat.add_comm 2]
theorem zhK(h:kW s a k ob q)(hlt:a+1+k<s.size)(b1:32<=(s[a+1+k].toNat:Int))(b2:(s[a+1+k].toNat:Int)<=126)(b3:((s[a+1+k].toNat:Int) == 34)=false)(b4:((s[a+1+k].toNat:Int) != 92)=false)(h2:a+1+k+1<s.size)
 (b5:(s[a+1+k+1].toNat:Int)≠34/\(s[a+1+k+1].toNat:Int)≠92) (b6:(s[a+1+k+1].toNat:Int)=110):kW s a (k+2) (ob ++ ⟨#[10]⟩) q:=by
 unfold kW at *;rw[h,qh s _ hlt,kF,if_neg (by omega),if_neg (by rw[pA,ne_eq,c34] at b3;exact b3),if_pos (by rw[gE,c92] at b4;exact b4),zm,qh s _ h2];simp only[];rw[if_neg (by rw[ne_eq,ne_eq,c34,c92] at b5;rintro (e|e);exact b5.1 e;exact b5.2 e),if_pos (by rw[zlW] at b6;exact b6)];rw[show a+1+k+1+1=a+1+(k+2) by omega];cases QL (s.data.toList.drop (a+1+(k+2))) <;> simp[Nat.add_assoc,Nat.add_comm 2]
theorem zki(h:kW s a k ob q)(hlt:a+1+k<s.size)(b1:32<=(s[a+1+k].toNat:Int))(b2:(s[a+1+k].toNat:Int)<=126)(b3:((s[a+1+k].toNat:Int) == 34)=false)(b4:((s[a+1+k].toNat:Int) != 92)=false)(h2:a+1+k+1<s.size)
 (b5:(s[a+1+k+1].toNat:Int)≠34/\(s[a+1+k+1].toNat:Int)≠92) (b6:(s[a+1+k+1].toNat:Int)≠110):q=none:=
 JZ h (by
  rw[qh s _ hlt,kF,if_neg (by omega),if_neg (by rw[pA,ne_eq,c34] at b3;exact b3),if_pos (by rw[gE,c92] at b4;exact b4),qh s _ h2];simp only[];rw[if_neg (by rw[ne_eq,ne_eq,c34,c92] at b5;rintro (e|e);exact b5.1 e;exact b5.2 e),if_neg (by rw[ne_eq,zlW] at b6;exact b6)])
end
end
end Lode
namespace Go.Proofs.YtcagibbaeageoaaGreatDoor
section
open Go.RowKit Lode Go.Shelf
open Go.Proofs.Tryz
theorem Xn:∀(m:Nat) (r:List UInt8),r.length<=m->∀t n,QL r=some (t,n)->1<=n/\n<=r.length/\t.length<=n-1
 |0,r,hm,t,n,h=>by
  have:r=[]:=pU (by omega);subst this;simp[QL] at h
 |m+1,[],_,t,n,h=>by simp[QL] at h
 |m+1,c :: r,hm,t,n,h=>by
  simp only[pN] at hm;unfold QL at h;split at h
  ·cases h
  ·split at h
   ·cases h;simp
   ·split at h
    ·cases r with
     |nil=>cases h
     |cons d r'=>
      simp only[pN] at hm;simp only at h;split at h
      ·cases hq:QL r' with
       |none=>rw[hq] at h;cases h
       |some x=>
        rw[hq] at h;cases h;have:=Xn m r' (by omega) _ _ hq;simp only[pN];omega
      ·split at h
       ·cases hq:QL r' with
        |none=>rw[hq] at h;cases h
        |some x=>
         rw[hq] at h;cases h;have:=Xn m r' (by omega) _ _ hq;simp only[pN];omega
       ·cases h
    ·cases hq:QL r with
     |none=>rw[hq] at h;cases h
     |some x=>
      rw[hq] at h;cases h;have:=Xn m r (by omega) _ _ hq;simp only[pN];omega
theorem zb8{r:List UInt8}{t:List UInt8}{n:Nat}(h:Lode.jk r=some (t,n)):2<=n/\n<=r.length/\t.length<=60:=by
 unfold Lode.jk at h;cases hq:QL (r.drop 1) with
 |none=>rw[hq] at h;cases h
 |some x=>
  obtain⟨t',n'⟩:=x;rw[hq] at h;simp only at h;split at h
  ·cases h;have:=Xn _ _ (pF _) _ _ hq;simp only[wV] at this;omega
  ·cases h
theorem uY(p:UInt8->Bool):∀m:List UInt8,yd p m<=m.length
 |[]=>by simp[yd]
 |d :: m=>by simp only[yd];have:=uY p m;split <;> simp;omega
theorem zcC:∀(g r:List UInt8),qd g r=true->g.length<=r.length
 |[],_,_=>by simp
 |_ :: _,[],h=>by simp[qd] at h
 |a :: g,b :: r,h=>by
  simp only[qd,pI] at h;have:=zcC g r h.2;simp;omega
theorem zho:∀g,g∈yb->1<=g.length:=by decide
theorem vu{r:List UInt8}{k:Nat}{t:List UInt8}{m:Nat}(h:xd r=some (k,t,m)):1<=m/\m<=r.length/\1<=k/\k<=6:=by
 cases r with
 |nil=>cases h
 |cons c r=>
  simp only[xd] at h;have r1:=uY (fun c=>zM c || zL c) r;have r2:=uY zL r;split at h
  ·split at h
   ·cases h;refine⟨by omega,by simp;omega,by split <;> simp,by split <;> simp⟩
   ·cases h
  ·split at h
   ·split at h
    ·cases h;refine⟨by omega,by simp;omega,by omega,by omega⟩
    ·cases h
   ·split at h
    ·split at h
     ·rename_i hn;cases h;exact⟨by omega,by simp;omega,by omega,by omega⟩
     ·cases h
    ·split at h
     ·cases hq:Lode.jk (c :: r) with
      |none=>rw[hq] at h;cases h
      |some x=>
       rw[hq] at h;cases h;have:=zb8 hq;exact⟨by omega,this.2.1,by omega,by omega⟩
     ·cases hg:yb.find? (fun g=>qd g (c :: r)) with
      |none=>rw[hg] at h;cases h
      |some g=>
       rw[hg] at h;cases h;have h1:=List.find?_some hg;have h2:=List.mem_of_find?_eq_some hg;have h3:=zho _ h2;exact⟨h3,zcC _ _ h1,by omega,by omega⟩
def jX(L:List xQ)(x:List xQ×Nat×Nat):List xQ×Nat×Nat:=if x.2.2=0 then (L ++ x.1,0,0) else ([],x.2)
theorem zfS(f n a:Nat)(r:List UInt8):jX [] (ZA f n a r)=ZA f n a r:=by
 cases f with
 |zero=>simp[ZA,jX]
 |succ f=>
  simp only[ZA];split
  ·simp[jX]
  ·split
   ·simp[jX]
   ·split
    ·simp[jX]
    ·generalize ZA f (n+1) _ _=x;by_cases hx:x.2.2=0 <;> simp[jX,hx]
theorem zcS(L:List xQ)(t:xQ)(x:List xQ×Nat×Nat):jX L (if x.2.2=0 then (t :: x.1,0,0) else ([],x.2))=jX (L ++ [t]) x:=by
 by_cases hx:x.2.2=0 <;> simp[jX,hx]
def uu(s:List UInt8)(r:List xQ×Nat×Nat)(L:List xQ)(a:Nat):Prop:=
 ∃a' fuel,a=a'+zT false (s.drop a')/\s.length<fuel+a'/\a'<=s.length/\L.length<=1200/\r=jX L (ZA fuel L.length a' (s.drop a'))
theorem uL:∀(b:Bool) (m:List UInt8),zT b m<=m.length
 |_,[]=>by simp[zT]
 |b,c :: m=>by
  have h1:=uL false m;have h2:=uL true m;have h3:=uL b m;simp only[zT,pN];split
  ·omega
  ·split
   ·omega
   ·split <;> omega
theorem uu.le{s:List UInt8}{r:List xQ×Nat×Nat}{L:List xQ}{a:Nat}(h:uu s r L a):a<=s.length:=by
 obtain⟨a',f,e,_,h2,_⟩:=h;have:=uL false (s.drop a');simp at this;omega
theorem uu.start{s:List UInt8}(h:(xP s).2=0):uu s (Lode.jp s) [] (zT false s):=by
 refine⟨0,s.length+1,by simp,by omega,by omega,by simp,?_⟩;simp only[wC,List.drop_zero,zfS,Lode.jp,h,ne_eq,not_true,if_false]
theorem Jm{s:List UInt8}{a' a f n:Nat}(e:a=a'+zT false (s.drop a'))(hf:s.length<f+a')(h:a'<=s.length):
 ∃g,f=g+1/\ZA f n a' (s.drop a')=match s.drop a with
  |[]=>([],0,0)
  |r1=>match xd r1 with
   |none=>([],a,4)
   |some (k,t,m)=>if n=1200 then ([],a,5) else
    let x:=ZA g (n+1) (a+m) (r1.drop m)
    if x.2.2=0 then (⟨k,t,(a:Nat)⟩ :: x.1,0,0) else ([],x.2):=by
 obtain⟨g,rfl⟩:∃g,f=g+1:=⟨f-1,by omega⟩;refine⟨g,rfl,?_⟩;subst e;simp only[ZA,List.drop_drop]
 first|done|rfl
theorem uu.done{s:List UInt8}{r:List xQ×Nat×Nat}{L:List xQ}{a:Nat}(h:uu s r L a)(ha:s.length<=a):r=(L,0,0):=by
 obtain⟨a',f,e,h1,h2,_,h4⟩:=h;obtain⟨g,_,h5⟩:=Jm (n:=L.length) e h1 h2;rw[h5,List.drop_eq_nil_of_le ha] at h4;simpa[jX] using h4
theorem YQ{s:List UInt8}{a:Nat}(ha:a<s.length):∃c r,s.drop a=c :: r:=⟨s[a],s.drop (a+1),List.drop_eq_getElem_cons ha⟩
theorem uu.bad{s:List UInt8}{r:List xQ×Nat×Nat}{L:List xQ}{a:Nat}(h:uu s r L a)(ha:a<s.length)(ht:xd (s.drop a)=none):r=([],a,4):=by
 obtain⟨a',f,e,h1,h2,_,h4⟩:=h;obtain⟨g,_,h5⟩:=Jm (n:=L.length) e h1 h2;obtain⟨c,q,hq⟩:=YQ ha;rw[hq] at ht h5;simp only[ht] at h5;rw[h5] at h4;simpa[jX] using h4
theorem uu.full{s:List UInt8}{r:List xQ×Nat×Nat}{L:List xQ}{a:Nat}(h:uu s r L a)(ha:a<s.length){x:Nat×List UInt8×Nat}(ht:xd (s.drop a)=some x)(hL:L.length=1200):r=([],a,5):=by
 obtain⟨a',f,e,h1,h2,_,h4⟩:=h;obtain⟨g,_,h5⟩:=Jm (n:=L.length) e h1 h2;obtain⟨c,q,hq⟩:=YQ ha;rw[hq] at ht h5;simp only[ht,hL,if_true] at h5;rw[hL,h5] at h4;simpa[jX] using h4
theorem uu.next{s:List UInt8}{r:List xQ×Nat×Nat}{L:List xQ}{a:Nat}(h:uu s r L a)(ha:a<s.length){k:Nat}{t:List UInt8}{m:Nat}(ht:xd (s.drop a)=some (k,t,m))(hL:L.length≠1200):
 uu s r (L ++ [⟨k,t,(a:Nat)⟩]) (a+m+zT false (s.drop (a+m))):=by
 obtain⟨a',f,e,h1,h2,h3,h4⟩:=h;obtain⟨g,hg,h5⟩:=Jm (n:=L.length) e h1 h2;have hw:=vu ht;simp only[wV] at hw;obtain⟨c,q,hq⟩:=YQ ha;have hd:s.drop (a+m)=(s.drop a).drop m:=by rw[List.drop_drop]
 refine⟨a+m,g,rfl,by omega,by omega,by simp;omega,?_⟩;rw[hd,hq];rw[hq] at ht h5;simp only[ht,hL,if_false] at h5;rw[h4,h5,zcS];simp
def qS(t:xQ):List Value:=[.int .u8 t.kind,.string ⟨t.text.toArray⟩,.int .i64 t.at_]
def jn(l:List xQ):List Value:=l.flatMap qS
def vU(w:World)(base:Nat)(v:Value)(l:List xQ):Prop:=w.ownsRow base 66 3 v l.length (jn l)
theorem vU.below{w w':World}{b:Nat}{v:Value}{l:List xQ}(h:vU w b v l)(hb:Below w.heap.size w w'):vU w' b v l:=
 World.ownsRow.kept (row:=none) h ⟨hb.os,hb.tape,hb.output,hb.size,fun k hk _=>hb.block k hk⟩ (by cases v.ownBlock <;> simp)
theorem jH{w0 W W':World}{v:Value}{e:TypeId}{n m:Nat}{xs:List Value}(h:Below w0.heap.size w0 W)(ho:W.ownsRow w0.heap.size e n v m xs)(hg:W.grownBy W' v.ownBlock):Below w0.heap.size w0 W':=
 ⟨hg.os.trans h.os,hg.tape.trans h.tape,hg.output.trans h.output,pQ h.size hg.size,fun k hk=>(hg.block k (wI hk h.size) (fun e=>by have:=(ho.lt k e.symm).1;omega)).trans (h.block k hk)⟩
theorem vU.snoc{w:World}{b:Nat}{v:Value}{l:List xQ}{t:xQ}(h:w.ownsRow b 66 3 v (l.length+1) (jn l ++ qS t)):vU w b v (l ++ [t]):=by
 unfold vU;rw[pG];simpa[jn] using h
inductive AtP (s:List UInt8):List xQ->Nat->Prop
 |start:AtP s [] (zT false s)
 |next {pre:List xQ} {k kk m:Nat} {t:List UInt8}:AtP s pre k->k<s.length->xd (s.drop k)=some (kk,t,m)->AtP s (pre ++ [⟨kk,t,(k:Nat)⟩]) (k+m+zT false (s.drop (k+m)))
theorem AtP.rinv{s:List UInt8}{L:List xQ}{k:Nat}(hc:(xP s).2=0)(h:AtP s L k):L.length<=1200->uu s (Lode.jp s) L k:=by
 induction h with
 |start=>intro _;exact uu.start hc
 |next h1 h2 h3 ih=>
  intro hl;simp only[pG,pN,wC] at hl;exact (ih (by omega)).next h2 h3 (by omega)
theorem AtP.kinds{s:List UInt8}{L:List xQ}{k:Nat}(h:AtP s L k):∀t∈L,1<=t.kind:=by
 induction h with
 |start=>intro t ht;cases ht
 |next h1 h2 h3 ih=>
  intro t ht;rcases wM.1 ht with h|h
  ·exact ih t h
  ·rw[wU] at h;subst h;exact (vu h3).2.2.1
def zmL(s:List UInt8)(pre:List xQ)(x:xQ):Prop:=∃k,AtP s pre k/\k<s.length/\((xd (s.drop k)=none/\x=⟨0,[],(k:Nat)⟩)\/∃kk t m,xd (s.drop k)=some (kk,t,m)/\x=⟨kk,t,(k:Nat)⟩)
def zmH(s:List UInt8)(xs:List xQ):Prop:=(∃k,AtP s xs k/\s.length<=k)\/∃pre k,xs=pre ++ [⟨0,[],(k:Nat)⟩]
abbrev zlL(t:xQ):Value:=.agg #[.int .u8 t.kind,.string ⟨t.text.toArray⟩,.int .i64 t.at_]
theorem Yw(c lo hi:Int)(w:World):
 Calls prog 179 #[.int .u8 c,.int .u8 lo,.int .u8 hi] w fun e w'=>e=.returned (.bool (decide (lo<=c) && decide (c<=hi)))/\w=w':=by
 by_cases h1:lo<=c
 ·go_enter func179,ntmps179;go_wp2;go_ret;exact⟨by simp[h1],rfl⟩
 ·have h2:decide (lo<=c)=false:=by simpa using h1
  rw[h2];go_enter func179,ntmps179;go_wp2;go_ret;exact⟨rfl,rfl⟩
theorem zel(c:UInt8)(w:World):
 Calls prog 123 #[.int .u8 (c.toNat:Int)] w fun e w'=>e=.returned (.bool (ju c))/\w=w':=by
 by_cases h:(decide ((32:Int)<=(c.toNat:Int)) && decide ((c.toNat:Int)<=126))=true
 ·have hs:ju c=true:=by simp at h;simp[ju];omega
  rw[hs];go_enter func123,ntmps123;go_wp2_with (go_at_call 179;refine (Yw _ _ _ _).mono ?_;rintro e w' ⟨rfl,rfl⟩;rw[h]);go_ret;exact⟨rfl,rfl⟩
 ·have h':(decide ((32:Int)<=(c.toNat:Int)) && decide ((c.toNat:Int)<=126))=false:=by simpa using h
  have hs:ju c=((c.toNat:Int) == 10):=by simp at h';simp[ju];rw[pP];simp;omega
  rw[hs];go_enter func123,ntmps123;go_wp2_with (go_at_call 179;refine (Yw _ _ _ _).mono ?_;rintro e w' ⟨rfl,rfl⟩;rw[h']);go_ret;exact⟨rfl,rfl⟩
def jW(c:UInt8):Int:=if zM c then 1 else if kZ c then 2 else if zL c then 3 else 0
theorem jF(c:UInt8)(w:World):
 Calls prog 182 #[.int .u8 (c.toNat:Int)] w fun e w'=>e=.returned (.int .u8 (jW c))/\w=w':=by
 have e1:(decide ((97:Int)<=(c.toNat:Int)) && decide ((c.toNat:Int)<=122))=zM c:=by unfold zM;rw[pP];simp;omega
 have e2:(decide ((65:Int)<=(c.toNat:Int)) && decide ((c.toNat:Int)<=90))=kZ c:=by unfold kZ;rw[pP];simp;omega
 have e3:(decide ((48:Int)<=(c.toNat:Int)) && decide ((c.toNat:Int)<=57))=zL c:=by unfold zL;rw[pP];simp;omega
 have E1:=zj e1;have E2:=zj e2;have E3:=zj e3;clear e1 e2 e3;go_enter func182,ntmps182;go_wp2_with (go_at_call 179;refine (Yw _ _ _ _).mono ?_;rintro e w' ⟨rfl,rfl⟩;first|rw[E1.out]|rw[E2.out]|rw[E3.out])
 all_goals go_ret
 all_goals exact⟨by simp[jW, *],rfl⟩
theorem Vm(b n cap:Nat)(l:List UInt8)(g:Nat)(lb:Array Value)(p:UInt8->Bool)(w:World)(hp:XK prog g lb p w)(hn:n=l.length)(hm:n<=9223372036854775807)
 (hc:∀j,j<n->w.cell? ⟨b,j,none⟩=some (.int .u8 (l[j]?.getD 0).toNat)) :
 Calls prog 177 #[.slice (some ⟨b,0,none⟩) n cap,.func (.func g) #[] lb] w fun e w'=>e=.returned (.int .i64 (zbc (xL p l)))/\Below w.heap.size w w':=by
 obtain⟨eg,hcall⟩:=hp;have Hn:=zj hn;clear hn;have Hc:=zj hc;clear hc;have Hcall:=zj hcall;clear hcall;go_enter func177,ntmps177;go_wp2;go_loopw [5,8] (fun _ s8 wr=>∃k:Nat,k<=n/\s8=.int .i64 k/\Hid (∀j,j<k->p (l.getD j 0)=false)/\Below w.heap.size w wr) (fun _ s8 _=>n-(intOf s8).toNat)
 case atStart=>exact⟨0,pV _,rfl,fun j hj=>absurd hj (pY _),pE _ _⟩
 case round=>
  obtain⟨k,hk,rfl,hall,hb⟩:=hrel;by_cases hlt:k<n
  ·have hcell:wr.cell? ⟨b,k,none⟩=some (.int .u8 (l[k]?.getD 0).toNat):=by
    have:=Hc.out k hlt;rw[hb.cell (block_lt_of_cell this)];exact this
   have hcl:=Hcall.out wr (l[k]?.getD 0) hb;have hltz:(k:Int)<(n:Int):=by omega
   go_wp2_with fail;refine hcl.mono ?_;rintro e W2 ⟨rfl,hb2⟩;clear hcl hcell;have hb3:=hb.trans (hb2.mono hb.size);by_cases hpk:p (l[k]?.getD 0)=true
   ·go_wp2;go_ret;refine⟨?_,hb3⟩;have:=kO p l k hall.out (by rw[<-Hn.out];exact hk);rw[Hn.out] at hlt;rw[this,List.drop_eq_getElem_cons hlt];simp[hlt] at hpk;simp[xL,hpk,zbc]
   ·have hpk':p (l[k]?.getD 0)=false:=by simpa using hpk
    clear hpk;go_wp2;go_roundw
    case rel=>exact⟨k+1,by omega,by go_num,fun j hj=>by
     by_cases e:j=k
     ·subst e;simpa using hpk'
     ·exact hall.out j (by omega),hb3⟩
    case measure=>simp[intOf];omega
  ·go_wp2;go_ret;refine⟨?_,hb⟩;have:=kO p l k hall.out (by rw[<-Hn.out];exact hk);have hkl:l.drop k=[]:=by have:=Hn.out;simp;omega
   rw[this,hkl];rfl
theorem zmo(g:Nat)(lb:Array Value)(p:UInt8->Bool)(w:World)(hp:XK prog g lb p w)(b:Nat)(hb:w.cell? ⟨b,0,none⟩=some (.func (.func g) #[] lb)):
 XK prog 178 #[.pointer (some ⟨b,0,none⟩)] (fun c=> !p c) w:=by
 refine⟨enters_of func178 (by kernel_rfl) rfl,fun W c hbW=>?_⟩;obtain⟨eg,hcall⟩:=hp;have hcl:=hcall W c hbW;have hcell:W.cell? ⟨b,0,none⟩=some (.func (.func g) #[] lb):=by rw[hbW.cell (block_lt_of_cell hb)];exact hb
 clear hcall hb;have HW:=zj hbW;clear hbW;show Calls prog 178 #[.int .u8 (c.toNat:Int),.pointer (some ⟨b,0,none⟩)] W _
 go_enter func178,ntmps178;go_wp2_with fail;refine hcl.mono ?_;rintro e W2 ⟨rfl,hb2⟩;clear hcl;go_wp2;go_ret;exact⟨rfl,hb2⟩
theorem zca{g:Nat}{lb:Array Value}{p:UInt8->Bool}{w W:World}(h:XK prog g lb p w)(hb:Below w.heap.size w W):XK prog g lb p W:=
 ⟨h.eg,fun W' c hW=>h.calls W' c (zf hb hW)⟩
theorem Qt(s:ByteArray)(g:Nat)(lb:Array Value)(p:UInt8->Bool)(w:World)(hp:XK prog g lb p w)(hs:s.size<=9223372036854775807):
 Calls prog 122 #[.string s,.func (.func g) #[] lb] w fun e w'=>e=.returned (.int .i64 (zbc (xL (fun c=> !p c) s.data.toList)))/\Below w.heap.size w w':=by
 have kc:=fun (w:World)=>Lib.run_convert_string_bytes (P:=prog) w 9 76 5 s underlying9 underlying76 underlying5
 have Hp:=zj hp;clear hp;go_enter func122,ntmps122;go_wp2_with fail;have hbB:=zg w (.cells #[.func (.func g) #[] lb] 122);have hbA:=uj (w.alloc (.cells #[.func (.func g) #[] lb] 122)) 5 s;have hp2:=zca Hp.out (zf hbB hbA);have hcell:(Lib.bytesWorld (w.alloc (.cells #[.func (.func g) #[] lb] 122)) 5 s).cell? ⟨w.heap.size,0,none⟩=some (.func (.func g) #[] lb):=by
  rw[Lib.bytesWorld_old _ _ _ _ (by simp)];simp
 refine (Vm _ _ _ s.data.toList _ _ _ _ (zmo _ _ _ _ hp2 _ hcell) (by simp) hs (fun j hj=>?_)).mono ?_
 ·have:=Lib.bytesWorld_cell (w.alloc (.cells #[.func (.func g) #[] lb] 122)) 5 s j hj;simp only[World.size_alloc] at this;simpa using this
 ·rintro e W2 ⟨rfl,hb2⟩;clear kc hp2 hcell;go_wp2;go_ret;exact⟨rfl,zf (zf hbB hbA) hb2⟩
theorem zj6(s:ByteArray)(g:Nat)(lb:Array Value)(p:UInt8->Bool)(w:World)(hp:XK prog g lb p w)(hs:s.size<=9223372036854775807):
 Calls prog 254 #[.string s,.func (.func g) #[] lb] w fun e w'=>e=.returned (.bool (decide (xL (fun c=> !p c) s.data.toList=none)))/\Below w.heap.size w w':=by
 have Hp:=zj hp;clear hp;go_enter func254,ntmps254;go_wp2_with fail;refine (Qt s g lb p _ Hp.out hs).mono ?_;rintro e W2 ⟨rfl,hb2⟩;cases hf:xL (fun c=> !p c) s.data.toList with
 |none=>
  simp only[zbc];go_wp2;go_ret;exact⟨by simp[hf],hb2⟩
 |some k=>
  simp only[zbc];go_wp2;go_ret;exact⟨by simp[hf],hb2⟩
theorem zff(w:World):XK prog 123 #[] ju w:=
 ⟨enters_of func123 (by kernel_rfl) rfl,fun W c _=>(zel c W).mono fun e w' ⟨he,hw⟩=>⟨he,hw▸pE _ _⟩⟩
theorem zgI(s:ByteArray)(w:World)(hs:s.size<=9223372036854775807):
 Calls prog 77 #[.string s] w fun e w'=>e=.returned (.tuple #[.int .i64 (xP s.data.toList).1,.int .i64 (xP s.data.toList).2])/\Below w.heap.size w w':=by
 by_cases h:3000<s.size
 ·have e1:xP s.data.toList=(3000,5):=by unfold xP;rw[if_pos (by simpa using h)]
  rw[e1];clear e1;go_enter func77,ntmps77;go_wp2;go_ret2;exact⟨rfl,pE _ _⟩
 ·have e1:=show xP s.data.toList=match xL (fun c=> !ju c) s.data.toList with|some i=>(i,4)|none=>(0,0) by unfold xP;rw[if_neg (by simpa using h)];first|done|rfl
  have E1:=zj e1;clear e1;go_enter func77,ntmps77;go_wp2_with fail;refine (Qt s _ _ _ _ (zff _) hs).mono ?_;rintro e W2 ⟨rfl,hb2⟩;cases hf:xL (fun c=> !ju c) s.data.toList with
  |none=>
   simp only[zbc];go_wp2;go_ret2;exact⟨by rw[E1.out,hf];rfl,hb2⟩
  |some k=>
   simp only[zbc];go_wp2;go_ret2;exact⟨by rw[E1.out,hf];rfl,hb2⟩
end
end Go.Proofs.YtcagibbaeageoaaGreatDoor
namespace Go.Proofs
section
open Go.Shelf
def Tryz.lays170_ren:Go.Shelf.Ren:=⟨fun|170=>240|n=>n,fun|70=>75|3=>3|0=>0|72=>78|37=>76|5=>5|n=>n,fun|n=>n⟩
theorem Tryz.lays170:Go.Proofs.Lays.n170 prog Tryz.lays170_ren:={
 mixed:=by kernel_rfl
 f170:=func240.trans (congrArg some (by kernel_rfl))
 t0:=underlying0
 a0:=Tryz.isAgg0
 z0:=Tryz.sizeOf0
 v0:=Tryz.zeroValue0
 t3:=underlying3
 a3:=Tryz.isAgg3
 z3:=Tryz.sizeOf3
 v3:=Tryz.zeroValue3
 t37:=underlying76
 a37:=Tryz.isAgg76
 z37:=Tryz.sizeOf76
 v37:=Tryz.zeroValue76
 t70:=underlying75
 a70:=Tryz.isAgg75
 z70:=Tryz.sizeOf75
 v70:=Tryz.zeroValue75
 t72:=underlying78
 a72:=Tryz.isAgg78
 z72:=Tryz.sizeOf78
 v72:=Tryz.zeroValue78}
def Tryz.lays169_ren:Go.Shelf.Ren:=⟨fun|169=>67|n=>n,fun|70=>75|9=>9|0=>0|72=>78|37=>76|127=>128|3=>3|5=>5|n=>n,fun|n=>n⟩
theorem Tryz.lays169:Go.Proofs.Lays.n169 prog Tryz.lays169_ren:={
 mixed:=by kernel_rfl
 f169:=func67.trans (congrArg some (by kernel_rfl))
 t0:=underlying0
 a0:=Tryz.isAgg0
 z0:=Tryz.sizeOf0
 v0:=Tryz.zeroValue0
 t3:=underlying3
 a3:=Tryz.isAgg3
 z3:=Tryz.sizeOf3
 v3:=Tryz.zeroValue3
 t9:=underlying9
 a9:=Tryz.isAgg9
 z9:=Tryz.sizeOf9
 v9:=Tryz.zeroValue9
 t37:=underlying76
 a37:=Tryz.isAgg76
 z37:=Tryz.sizeOf76
 v37:=Tryz.zeroValue76
 t70:=underlying75
 a70:=Tryz.isAgg75
 z70:=Tryz.sizeOf75
 v70:=Tryz.zeroValue75
 t72:=underlying78
 a72:=Tryz.isAgg78
 z72:=Tryz.sizeOf78
 v72:=Tryz.zeroValue78
 t127:=underlying128
 a127:=Tryz.isAgg128
 z127:=Tryz.sizeOf128
 v127:=Tryz.zeroValue128}
theorem Tryz.Builder_Extra_169:Builder.Extra prog Tryz.lays169_ren:={
 sizeBuilder:=by kernel_rfl
 liesBuilder:=by kernel_rfl
 t5:=underlying5
 a5:=Tryz.isAgg5
 z5:=Tryz.sizeOf5
 v5:=Tryz.zeroValue5
 infoByte:=by kernel_rfl
 cellsByte:=by kernel_rfl
 sizeByte:=by kernel_rfl
 neB5:=by decide}
def Tryz.lays156_ren:Go.Shelf.Ren:=⟨fun|156=>226|165=>256|166=>65|169=>67|240=>109|241=>270|276=>170|277=>285|n=>n,fun|31=>133|9=>9|3=>3|4=>4|0=>0|20=>20|72=>78|76=>83|70=>75|37=>76|75=>82|127=>128|164=>183|5=>5|80=>86|n=>n,fun|n=>n⟩
theorem Tryz.lays156:Go.Proofs.Lays.n156 prog Tryz.lays156_ren:={
 mixed:=by kernel_rfl
 f156:=func226.trans (congrArg some (by kernel_rfl))
 f165:=func256.trans (congrArg some (by kernel_rfl))
 f166:=func65.trans (congrArg some (by kernel_rfl))
 f169:=func67.trans (congrArg some (by kernel_rfl))
 f240:=func109.trans (congrArg some (by kernel_rfl))
 f241:=func270.trans (congrArg some (by kernel_rfl))
 f276:=func170.trans (congrArg some (by kernel_rfl))
 f277:=func285.trans (congrArg some (by kernel_rfl))
 t0:=underlying0
 a0:=Tryz.isAgg0
 z0:=Tryz.sizeOf0
 v0:=Tryz.zeroValue0
 t3:=underlying3
 a3:=Tryz.isAgg3
 z3:=Tryz.sizeOf3
 v3:=Tryz.zeroValue3
 t4:=underlying4
 a4:=Tryz.isAgg4
 z4:=Tryz.sizeOf4
 v4:=Tryz.zeroValue4
 t9:=underlying9
 a9:=Tryz.isAgg9
 z9:=Tryz.sizeOf9
 v9:=Tryz.zeroValue9
 t20:=underlying20
 a20:=Tryz.isAgg20
 z20:=Tryz.sizeOf20
 v20:=Tryz.zeroValue20
 t31:=underlying133
 a31:=Tryz.isAgg133
 z31:=Tryz.sizeOf133
 v31:=Tryz.zeroValue133
 t37:=underlying76
 a37:=Tryz.isAgg76
 z37:=Tryz.sizeOf76
 v37:=Tryz.zeroValue76
 t70:=underlying75
 a70:=Tryz.isAgg75
 z70:=Tryz.sizeOf75
 v70:=Tryz.zeroValue75
 t72:=underlying78
 a72:=Tryz.isAgg78
 z72:=Tryz.sizeOf78
 v72:=Tryz.zeroValue78
 t75:=underlying82
 a75:=Tryz.isAgg82
 z75:=Tryz.sizeOf82
 v75:=Tryz.zeroValue82
 t76:=underlying83
 a76:=Tryz.isAgg83
 z76:=Tryz.sizeOf83
 v76:=Tryz.zeroValue83
 t127:=underlying128
 a127:=Tryz.isAgg128
 z127:=Tryz.sizeOf128
 v127:=Tryz.zeroValue128
 t164:=underlying183
 a164:=Tryz.isAgg183
 z164:=Tryz.sizeOf183
 v164:=Tryz.zeroValue183}
theorem Tryz.Builder_Extra_156:Builder.Extra prog Tryz.lays156_ren:={
 sizeBuilder:=by kernel_rfl
 liesBuilder:=by kernel_rfl
 t5:=underlying5
 a5:=Tryz.isAgg5
 z5:=Tryz.sizeOf5
 v5:=Tryz.zeroValue5
 infoByte:=by kernel_rfl
 cellsByte:=by kernel_rfl
 sizeByte:=by kernel_rfl
 neB5:=by decide}
open Go.RowKit in
theorem Tryz.strings_Join_none (a:Option Addr) (c:Nat) (sep:ByteArray) (w:World) :
 Calls prog 226 #[.slice a 0 c,.string sep] w fun e w'=>e=.returned (.string ⟨#[]⟩)/\w'=w:=Any.strings_Join_none Tryz.lays156 Tryz.Builder_Extra_156 a c sep w
open Go.RowKit in
theorem Tryz.strings_Join (bk o c:Nat) (xs:List ByteArray) (sep:ByteArray) (w:World) (hcells:∀(j:Nat) x,xs[j]? =some x->w.cell? ⟨bk,o+j,none⟩=some (.string x)) (hbk:bk<w.heap.size) (hN:xs.length<=140737488355328) (hcap:xs.length<=c) (hlen:(Lib.join (xs.map (·.data.toList)) sep.data.toList).length<=140737488355328) :
 Calls prog 226 #[.slice (some ⟨bk,o,none⟩) xs.length c,.string sep] w fun e w'=>e=.returned (.string ⟨(Lib.join (xs.map (·.data.toList)) sep.data.toList).toArray⟩)/\Below w.heap.size w w':=Any.strings_Join Tryz.lays156 Tryz.Builder_Extra_156 bk o c xs sep w hcells hbk hN hcap hlen
def Tryz.lays137_ren:Go.Shelf.Ren:=⟨fun|137=>181|217=>235|266=>259|n=>n,fun|9=>9|5=>5|3=>3|n=>n,fun|n=>n⟩
theorem Tryz.lays137:Go.Proofs.Lays.n137 prog Tryz.lays137_ren:={
 mixed:=by kernel_rfl
 f137:=func181.trans (congrArg some (by kernel_rfl))
 f217:=func235.trans (congrArg some (by kernel_rfl))
 f266:=func259.trans (congrArg some (by kernel_rfl))
 t3:=underlying3
 a3:=Tryz.isAgg3
 z3:=Tryz.sizeOf3
 v3:=Tryz.zeroValue3
 t5:=underlying5
 a5:=Tryz.isAgg5
 z5:=Tryz.sizeOf5
 v5:=Tryz.zeroValue5
 t9:=underlying9
 a9:=Tryz.isAgg9
 z9:=Tryz.sizeOf9
 v9:=Tryz.zeroValue9}
open Go.RowKit in
theorem Tryz.strings_IndexByte (s:ByteArray) (c:Int) (w:World) :
 Calls prog 181 #[.string s,.int .u8 c] w fun e w'=>e=.returned (.int .i64 (Lib.indexByte s.data.toList c.toNat.toUInt8))/\w'=w:=Any.strings_IndexByte Tryz.lays137 s c w
def Tryz.lays214_ren:Go.Shelf.Ren:=⟨fun|214=>225|n=>n,fun|4=>4|9=>9|n=>n,fun|n=>n⟩
def Tryz.lays121_ren:Go.Shelf.Ren:=⟨fun|121=>162|214=>225|n=>n,fun|4=>4|9=>9|n=>n,fun|n=>n⟩
theorem Tryz.lays121:Go.Proofs.Lays.n121 prog Tryz.lays121_ren:={
 mixed:=by kernel_rfl
 f121:=func162.trans (congrArg some (by kernel_rfl))
 f214:=func225.trans (congrArg some (by kernel_rfl))
 t4:=underlying4
 a4:=Tryz.isAgg4
 z4:=Tryz.sizeOf4
 v4:=Tryz.zeroValue4
 t9:=underlying9
 a9:=Tryz.isAgg9
 z9:=Tryz.sizeOf9
 v9:=Tryz.zeroValue9}
open Go.RowKit in
theorem Tryz.strconv_FormatBool (b:Bool) (w:World) :
 Calls prog 162 #[.bool b] w fun e w'=>e=.returned (.string ⟨(Lib.formatBool b).toArray⟩)/\w'=w:=Any.strconv_FormatBool Tryz.lays121 b w
def Tryz.lays172_ren:Go.Shelf.Ren:=⟨fun|172=>239|244=>261|245=>262|247=>273|279=>274|280=>275|281=>276|282=>277|287=>286|316=>287|171=>160|205=>288|321=>296|322=>297|243=>223|246=>253|283=>266|284=>267|285=>268|286=>269|129=>281|317=>280|318=>282|319=>283|320=>284|337=>294|338=>295|n=>n,fun|9=>9|3=>3|75=>82|76=>83|4=>4|5=>5|167=>261|37=>76|0=>0|85=>262|2=>2|168=>264|53=>245|175=>275|46=>270|210=>278|127=>128|145=>286|143=>284|21=>21|171=>244|173=>248|212=>268|51=>238|20=>20|213=>269|232=>287|233=>288|80=>86|n=>n,fun|15=>4|16=>5|17=>3|18=>6|19=>7|n=>n⟩
def Tryz.laysM246_ren:Go.Shelf.Ren:=⟨fun|246=>253|283=>266|284=>267|285=>268|286=>269|129=>281|317=>280|318=>282|319=>283|320=>284|337=>294|338=>295|n=>n,fun|2=>2|3=>3|9=>9|4=>4|171=>244|0=>0|53=>245|37=>76|5=>5|173=>248|212=>268|51=>238|20=>20|213=>269|46=>270|232=>287|233=>288|n=>n,fun|17=>3|18=>6|19=>7|n=>n⟩
def Tryz.laysM243_ren:Go.Shelf.Ren:=⟨fun|243=>223|246=>253|283=>266|284=>267|285=>268|286=>269|129=>281|317=>280|318=>282|319=>283|320=>284|337=>294|338=>295|n=>n,fun|3=>3|9=>9|2=>2|4=>4|171=>244|0=>0|53=>245|37=>76|5=>5|173=>248|212=>268|51=>238|20=>20|213=>269|46=>270|232=>287|233=>288|n=>n,fun|17=>3|18=>6|19=>7|n=>n⟩
def Tryz.laysM171_ren:Go.Shelf.Ren:=⟨fun|171=>160|243=>223|246=>253|283=>266|284=>267|285=>268|286=>269|129=>281|317=>280|318=>282|319=>283|320=>284|337=>294|338=>295|n=>n,fun|3=>3|9=>9|2=>2|4=>4|171=>244|0=>0|53=>245|37=>76|5=>5|173=>248|212=>268|51=>238|20=>20|213=>269|46=>270|232=>287|233=>288|n=>n,fun|17=>3|18=>6|19=>7|n=>n⟩
theorem Tryz.laysM171:Go.Proofs.LaysM.n171 prog Tryz.laysM171_ren:={
 mixed:=by kernel_rfl
 f129:=func281.trans (congrArg some (by kernel_rfl))
 f171:=func160.trans (congrArg some (by kernel_rfl))
 f243:=func223.trans (congrArg some (by kernel_rfl))
 f246:=func253.trans (congrArg some (by kernel_rfl))
 f283:=func266.trans (congrArg some (by kernel_rfl))
 f284:=func267.trans (congrArg some (by kernel_rfl))
 f285:=func268.trans (congrArg some (by kernel_rfl))
 f286:=func269.trans (congrArg some (by kernel_rfl))
 f317:=func280.trans (congrArg some (by kernel_rfl))
 f318:=func282.trans (congrArg some (by kernel_rfl))
 f319:=func283.trans (congrArg some (by kernel_rfl))
 f320:=func284.trans (congrArg some (by kernel_rfl))
 f337:=func294.trans (congrArg some (by kernel_rfl))
 f338:=func295.trans (congrArg some (by kernel_rfl))
 t0:=underlying0
 a0:=Tryz.isAgg0
 z0:=Tryz.sizeOf0
 v0:=Tryz.zeroValue0
 t2:=underlying2
 a2:=Tryz.isAgg2
 z2:=Tryz.sizeOf2
 v2:=Tryz.zeroValue2
 t3:=underlying3
 a3:=Tryz.isAgg3
 z3:=Tryz.sizeOf3
 v3:=Tryz.zeroValue3
 t4:=underlying4
 a4:=Tryz.isAgg4
 z4:=Tryz.sizeOf4
 v4:=Tryz.zeroValue4
 t5:=underlying5
 a5:=Tryz.isAgg5
 z5:=Tryz.sizeOf5
 v5:=Tryz.zeroValue5
 t9:=underlying9
 a9:=Tryz.isAgg9
 z9:=Tryz.sizeOf9
 v9:=Tryz.zeroValue9
 t20:=underlying20
 a20:=Tryz.isAgg20
 z20:=Tryz.sizeOf20
 v20:=Tryz.zeroValue20
 t37:=underlying76
 a37:=Tryz.isAgg76
 z37:=Tryz.sizeOf76
 v37:=Tryz.zeroValue76
 t46:=underlying270
 a46:=Tryz.isAgg270
 z46:=Tryz.sizeOf270
 v46:=Tryz.zeroValue270
 t51:=underlying238
 a51:=Tryz.isAgg238
 z51:=Tryz.sizeOf238
 v51:=Tryz.zeroValue238
 t53:=underlying245
 a53:=Tryz.isAgg245
 z53:=Tryz.sizeOf245
 v53:=Tryz.zeroValue245
 t171:=underlying244
 a171:=Tryz.isAgg244
 z171:=Tryz.sizeOf244
 v171:=Tryz.zeroValue244
 t173:=underlying248
 a173:=Tryz.isAgg248
 z173:=Tryz.sizeOf248
 v173:=Tryz.zeroValue248
 t212:=underlying268
 a212:=Tryz.isAgg268
 z212:=Tryz.sizeOf268
 v212:=Tryz.zeroValue268
 t213:=underlying269
 a213:=Tryz.isAgg269
 z213:=Tryz.sizeOf269
 t232:=underlying287
 a232:=Tryz.isAgg287
 z232:=Tryz.sizeOf287
 v232:=Tryz.zeroValue287
 t233:=underlying288
 a233:=Tryz.isAgg288
 z233:=Tryz.sizeOf288
 v233:=Tryz.zeroValue288
 g17:=by kernel_rfl
 g18:=by kernel_rfl
 g19:=by kernel_rfl
 i0:=by kernel_rfl
 i2:=by kernel_rfl
 i3:=by kernel_rfl
 i4:=by kernel_rfl
 i5:=by kernel_rfl
 i9:=by kernel_rfl
 i20:=by kernel_rfl
 i37:=by kernel_rfl
 i46:=by kernel_rfl
 i51:=by kernel_rfl
 i53:=by kernel_rfl
 i171:=by kernel_rfl
 i173:=by kernel_rfl
 i212:=by kernel_rfl
 i232:=by kernel_rfl
 i233:=by kernel_rfl
 m17:=by kernel_rfl
 m18:=by kernel_rfl
 m19:=by kernel_rfl}
open Go.RowKit Go.Sort Go.Lib in
theorem Tryz.strconv_Itoa (n:Int) (h0: -9223372036854775808<=n) (h1:n<=9223372036854775807) (w:World) (htab:Lib.TabIs prog w "internal/strconv.uint64pow10" .u64 Lib.pow10Tab) :
 Calls prog 160 #[.int .i64 n] w fun e w'=>e=.returned (.string ⟨(Lib.itoa n).toArray⟩)/\∃k os,w'=grow (w.drewN k) os:=Any.strconv_Itoa Tryz.laysM171 n h0 h1 w htab
def Tryz.laysC172_ren:Go.Shelf.Ren:=⟨fun|172=>239|244=>261|245=>262|247=>273|279=>274|280=>275|281=>276|282=>277|287=>286|316=>287|171=>160|205=>288|321=>296|322=>297|243=>223|246=>253|283=>266|284=>267|285=>268|286=>269|129=>281|317=>280|318=>282|319=>283|320=>284|337=>294|338=>295|n=>n,fun|9=>9|3=>3|75=>82|76=>83|4=>4|5=>5|167=>261|37=>76|0=>0|85=>262|2=>2|168=>264|53=>245|175=>275|46=>270|210=>278|127=>128|145=>286|143=>284|21=>21|171=>244|173=>248|212=>268|51=>238|20=>20|213=>269|232=>287|233=>288|80=>86|n=>n,fun|15=>4|16=>5|17=>3|18=>6|19=>7|n=>n⟩
theorem Tryz.laysC172:Go.Proofs.LaysC.n172 prog Tryz.laysC172_ren:={
 mixed:=by kernel_rfl
 f129:=func281.trans (congrArg some (by kernel_rfl))
 f171:=func160.trans (congrArg some (by kernel_rfl))
 f172:=func239.trans (congrArg some (by kernel_rfl))
 f205:=func288.trans (congrArg some (by kernel_rfl))
 f243:=func223.trans (congrArg some (by kernel_rfl))
 f244:=func261.trans (congrArg some (by kernel_rfl))
 f245:=func262.trans (congrArg some (by kernel_rfl))
 f246:=func253.trans (congrArg some (by kernel_rfl))
 f247:=func273.trans (congrArg some (by kernel_rfl))
 f279:=func274.trans (congrArg some (by kernel_rfl))
 f280:=func275.trans (congrArg some (by kernel_rfl))
 f281:=func276.trans (congrArg some (by kernel_rfl))
 f282:=func277.trans (congrArg some (by kernel_rfl))
 f283:=func266.trans (congrArg some (by kernel_rfl))
 f284:=func267.trans (congrArg some (by kernel_rfl))
 f285:=func268.trans (congrArg some (by kernel_rfl))
 f286:=func269.trans (congrArg some (by kernel_rfl))
 f287:=func286.trans (congrArg some (by kernel_rfl))
 f316:=func287.trans (congrArg some (by kernel_rfl))
 f317:=func280.trans (congrArg some (by kernel_rfl))
 f318:=func282.trans (congrArg some (by kernel_rfl))
 f319:=func283.trans (congrArg some (by kernel_rfl))
 f320:=func284.trans (congrArg some (by kernel_rfl))
 f321:=func296.trans (congrArg some (by kernel_rfl))
 f322:=func297.trans (congrArg some (by kernel_rfl))
 f337:=func294.trans (congrArg some (by kernel_rfl))
 f338:=func295.trans (congrArg some (by kernel_rfl))
 t0:=underlying0
 a0:=Tryz.isAgg0
 z0:=Tryz.sizeOf0
 v0:=Tryz.zeroValue0
 t2:=underlying2
 a2:=Tryz.isAgg2
 z2:=Tryz.sizeOf2
 v2:=Tryz.zeroValue2
 t3:=underlying3
 a3:=Tryz.isAgg3
 z3:=Tryz.sizeOf3
 v3:=Tryz.zeroValue3
 t4:=underlying4
 a4:=Tryz.isAgg4
 z4:=Tryz.sizeOf4
 v4:=Tryz.zeroValue4
 t5:=underlying5
 a5:=Tryz.isAgg5
 z5:=Tryz.sizeOf5
 v5:=Tryz.zeroValue5
 t9:=underlying9
 a9:=Tryz.isAgg9
 z9:=Tryz.sizeOf9
 v9:=Tryz.zeroValue9
 t20:=underlying20
 a20:=Tryz.isAgg20
 z20:=Tryz.sizeOf20
 v20:=Tryz.zeroValue20
 t21:=underlying21
 a21:=Tryz.isAgg21
 z21:=Tryz.sizeOf21
 v21:=Tryz.zeroValue21
 t37:=underlying76
 a37:=Tryz.isAgg76
 z37:=Tryz.sizeOf76
 v37:=Tryz.zeroValue76
 t46:=underlying270
 a46:=Tryz.isAgg270
 z46:=Tryz.sizeOf270
 v46:=Tryz.zeroValue270
 t51:=underlying238
 a51:=Tryz.isAgg238
 z51:=Tryz.sizeOf238
 v51:=Tryz.zeroValue238
 t53:=underlying245
 a53:=Tryz.isAgg245
 z53:=Tryz.sizeOf245
 v53:=Tryz.zeroValue245
 t75:=underlying82
 a75:=Tryz.isAgg82
 z75:=Tryz.sizeOf82
 v75:=Tryz.zeroValue82
 t76:=underlying83
 a76:=Tryz.isAgg83
 z76:=Tryz.sizeOf83
 v76:=Tryz.zeroValue83
 t85:=underlying262
 a85:=Tryz.isAgg262
 z85:=Tryz.sizeOf262
 v85:=Tryz.zeroValue262
 t127:=underlying128
 a127:=Tryz.isAgg128
 z127:=Tryz.sizeOf128
 v127:=Tryz.zeroValue128
 t143:=underlying284
 a143:=Tryz.isAgg284
 z143:=Tryz.sizeOf284
 v143:=Tryz.zeroValue284
 t145:=underlying286
 a145:=Tryz.isAgg286
 z145:=Tryz.sizeOf286
 v145:=Tryz.zeroValue286
 t167:=underlying261
 a167:=Tryz.isAgg261
 z167:=Tryz.sizeOf261
 v167:=Tryz.zeroValue261
 t168:=underlying264
 a168:=Tryz.isAgg264
 z168:=Tryz.sizeOf264
 v168:=Tryz.zeroValue264
 t171:=underlying244
 a171:=Tryz.isAgg244
 z171:=Tryz.sizeOf244
 v171:=Tryz.zeroValue244
 t173:=underlying248
 a173:=Tryz.isAgg248
 z173:=Tryz.sizeOf248
 v173:=Tryz.zeroValue248
 t175:=underlying275
 a175:=Tryz.isAgg275
 z175:=Tryz.sizeOf275
 v175:=Tryz.zeroValue275
 t210:=underlying278
 a210:=Tryz.isAgg278
 z210:=Tryz.sizeOf278
 v210:=Tryz.zeroValue278
 t212:=underlying268
 a212:=Tryz.isAgg268
 z212:=Tryz.sizeOf268
 v212:=Tryz.zeroValue268
 t213:=underlying269
 a213:=Tryz.isAgg269
 z213:=Tryz.sizeOf269
 t232:=underlying287
 a232:=Tryz.isAgg287
 z232:=Tryz.sizeOf287
 v232:=Tryz.zeroValue287
 t233:=underlying288
 a233:=Tryz.isAgg288
 z233:=Tryz.sizeOf288
 v233:=Tryz.zeroValue288
 g15:=by kernel_rfl
 g16:=by kernel_rfl
 g17:=by kernel_rfl
 g18:=by kernel_rfl
 g19:=by kernel_rfl
 t80:=underlying86
 a80:=Tryz.isAgg86
 z80:=Tryz.sizeOf86
 v80:=Tryz.zeroValue86
 i0:=by kernel_rfl
 i2:=by kernel_rfl
 i3:=by kernel_rfl
 i4:=by kernel_rfl
 i5:=by kernel_rfl
 i9:=by kernel_rfl
 i20:=by kernel_rfl
 i21:=by kernel_rfl
 i37:=by kernel_rfl
 i46:=by kernel_rfl
 i51:=by kernel_rfl
 i53:=by kernel_rfl
 i75:=by kernel_rfl
 i76:=by kernel_rfl
 i80:=by kernel_rfl
 i85:=by kernel_rfl
 i127:=by kernel_rfl
 i143:=by kernel_rfl
 i145:=by kernel_rfl
 i167:=by kernel_rfl
 i168:=by kernel_rfl
 i171:=by kernel_rfl
 i173:=by kernel_rfl
 i175:=by kernel_rfl
 i210:=by kernel_rfl
 i212:=by kernel_rfl
 i232:=by kernel_rfl
 i233:=by kernel_rfl
 m15:=by kernel_rfl
 m16:=by kernel_rfl
 m17:=by kernel_rfl
 m18:=by kernel_rfl
 m19:=by kernel_rfl
 c0:=by kernel_rfl
 c2:=by kernel_rfl
 c3:=by kernel_rfl
 c4:=by kernel_rfl
 c5:=by kernel_rfl
 c9:=by kernel_rfl
 c20:=by kernel_rfl
 c21:=by kernel_rfl
 c37:=by kernel_rfl
 c46:=by kernel_rfl
 c51:=by kernel_rfl
 c53:=by kernel_rfl
 c75:=by kernel_rfl
 c76:=by kernel_rfl
 c80:=by kernel_rfl
 c85:=by kernel_rfl
 c127:=by kernel_rfl
 c143:=by kernel_rfl
 c145:=by kernel_rfl
 c167:=by kernel_rfl
 c168:=by kernel_rfl
 c171:=by kernel_rfl
 c173:=by kernel_rfl
 c175:=by kernel_rfl
 c210:=by kernel_rfl
 c212:=by kernel_rfl
 c213:=by kernel_rfl
 c232:=by kernel_rfl
 c233:=by kernel_rfl}
open Go.RowKit in
theorem Tryz.strconv_Atoi_ok (s:ByteArray) (hmax:s.size<=9223372036854775806) (v:Int) (h:Lib.atoiAll s.data.toList=.ok v) (w:World) :
 Calls prog 239 #[.string s] w fun e w'=>e=.returned (.tuple #[.int .i64 v,.nilIface])/\(w'=w\/∃t,w'=Lib.bytesWorld w 5 t):=Any.strconv_Atoi_ok Tryz.laysC172 s hmax v h w
open Go.RowKit in
theorem Tryz.strconv_Atoi_range_var (s:ByteArray) (hlim:s.size<=281474976710656) (h:Lib.atoiAll s.data.toList=.range) (tp:TypeId) (p:Value) (w:World) (hvar:w.var? prog "strconv.ErrRange" =some #[.iface tp p]) :
 Calls prog 239 #[.string s] w fun e w'=>∃N,e=.returned (.tuple #[.int .i64 (Lib.atoiSat s.data.toList),.iface 264 (.pointer (some ⟨N,0,none⟩))])/\w.heap.size<=N/\w'.heap[N]? =some (.cells #[.string ⟨#[65,116,111,105]⟩,.string s,.iface tp p] 278 (0,0))/\Below w.heap.size w w':=Any.strconv_Atoi_range_var Tryz.laysC172 s hlim h tp p w hvar
def Tryz.lays206_ren:Go.Shelf.Ren:=⟨fun|206=>241|n=>n,fun|9=>9|4=>4|3=>3|n=>n,fun|n=>n⟩
def Tryz.lays99_ren:Go.Shelf.Ren:=⟨fun|99=>187|206=>241|n=>n,fun|9=>9|4=>4|3=>3|n=>n,fun|n=>n⟩
theorem Tryz.lays99:Go.Proofs.Lays.n99 prog Tryz.lays99_ren:={
 mixed:=by kernel_rfl
 f99:=func187.trans (congrArg some (by kernel_rfl))
 f206:=func241.trans (congrArg some (by kernel_rfl))
 t3:=underlying3
 a3:=Tryz.isAgg3
 z3:=Tryz.sizeOf3
 v3:=Tryz.zeroValue3
 t4:=underlying4
 a4:=Tryz.isAgg4
 z4:=Tryz.sizeOf4
 v4:=Tryz.zeroValue4
 t9:=underlying9
 a9:=Tryz.isAgg9
 z9:=Tryz.sizeOf9
 v9:=Tryz.zeroValue9}
open Go.RowKit Go.Lib in
theorem Tryz.strings_HasPrefix (s p:ByteArray) (w:World) :
 Calls prog 187 #[.string s,.string p] w fun e w'=>e=.returned (.bool (Lib.hasPrefix s.data.toList p.data.toList))/\w'=w:=Any.strings_HasPrefix Tryz.lays99 s p w
def Tryz.lays102_ren:Go.Shelf.Ren:=⟨fun|102=>71|209=>121|207=>176|n=>n,fun|9=>9|4=>4|3=>3|n=>n,fun|n=>n⟩
theorem Tryz.lays102:Go.Proofs.Lays.n102 prog Tryz.lays102_ren:={
 mixed:=by kernel_rfl
 f102:=func71.trans (congrArg some (by kernel_rfl))
 f207:=func176.trans (congrArg some (by kernel_rfl))
 f209:=func121.trans (congrArg some (by kernel_rfl))
 t3:=underlying3
 a3:=Tryz.isAgg3
 z3:=Tryz.sizeOf3
 v3:=Tryz.zeroValue3
 t4:=underlying4
 a4:=Tryz.isAgg4
 z4:=Tryz.sizeOf4
 v4:=Tryz.zeroValue4
 t9:=underlying9
 a9:=Tryz.isAgg9
 z9:=Tryz.sizeOf9
 v9:=Tryz.zeroValue9}
open Go.RowKit Go.Lib in
theorem Tryz.strings_TrimSuffix (s p:ByteArray) (w:World) (hs:s.size<=9223372036854775807) :
 Calls prog 71 #[.string s,.string p] w fun e w'=>e=.returned (.string ⟨(Lib.trimSuffix s.data.toList p.data.toList).toArray⟩)/\w'=w:=Any.strings_TrimSuffix Tryz.lays102 s p w hs
def Tryz.lays157_ren:Go.Shelf.Ren:=⟨fun|157=>180|229=>233|199=>234|261=>258|311=>271|312=>272|n=>n,fun|9=>9|31=>133|3=>3|5=>5|4=>4|119=>220|0=>0|40=>222|152=>235|21=>21|154=>237|51=>238|141=>240|196=>253|193=>250|198=>256|49=>254|194=>251|201=>259|226=>273|46=>270|227=>274|n=>n,fun|0=>0|6=>1|n=>n⟩
theorem Tryz.lays157:Go.Proofs.Lays.n157 prog Tryz.lays157_ren:={
 mixed:=by kernel_rfl
 f157:=func180.trans (congrArg some (by kernel_rfl))
 f199:=func234.trans (congrArg some (by kernel_rfl))
 f229:=func233.trans (congrArg some (by kernel_rfl))
 f261:=func258.trans (congrArg some (by kernel_rfl))
 f311:=func271.trans (congrArg some (by kernel_rfl))
 f312:=func272.trans (congrArg some (by kernel_rfl))
 t0:=underlying0
 a0:=Tryz.isAgg0
 z0:=Tryz.sizeOf0
 v0:=Tryz.zeroValue0
 t3:=underlying3
 a3:=Tryz.isAgg3
 z3:=Tryz.sizeOf3
 v3:=Tryz.zeroValue3
 t4:=underlying4
 a4:=Tryz.isAgg4
 z4:=Tryz.sizeOf4
 v4:=Tryz.zeroValue4
 t5:=underlying5
 a5:=Tryz.isAgg5
 z5:=Tryz.sizeOf5
 v5:=Tryz.zeroValue5
 t9:=underlying9
 a9:=Tryz.isAgg9
 z9:=Tryz.sizeOf9
 v9:=Tryz.zeroValue9
 t21:=underlying21
 a21:=Tryz.isAgg21
 z21:=Tryz.sizeOf21
 v21:=Tryz.zeroValue21
 t31:=underlying133
 a31:=Tryz.isAgg133
 z31:=Tryz.sizeOf133
 v31:=Tryz.zeroValue133
 t40:=underlying222
 a40:=Tryz.isAgg222
 z40:=Tryz.sizeOf222
 v40:=Tryz.zeroValue222
 t46:=underlying270
 a46:=Tryz.isAgg270
 z46:=Tryz.sizeOf270
 v46:=Tryz.zeroValue270
 t49:=underlying254
 a49:=Tryz.isAgg254
 z49:=Tryz.sizeOf254
 v49:=Tryz.zeroValue254
 t51:=underlying238
 a51:=Tryz.isAgg238
 z51:=Tryz.sizeOf238
 v51:=Tryz.zeroValue238
 t119:=underlying220
 a119:=Tryz.isAgg220
 z119:=Tryz.sizeOf220
 t141:=underlying240
 a141:=Tryz.isAgg240
 z141:=Tryz.sizeOf240
 v141:=Tryz.zeroValue240
 t152:=underlying235
 a152:=Tryz.isAgg235
 z152:=Tryz.sizeOf235
 v152:=Tryz.zeroValue235
 t154:=underlying237
 a154:=Tryz.isAgg237
 z154:=Tryz.sizeOf237
 v154:=Tryz.zeroValue237
 t193:=underlying250
 a193:=Tryz.isAgg250
 z193:=Tryz.sizeOf250
 v193:=Tryz.zeroValue250
 t194:=underlying251
 a194:=Tryz.isAgg251
 z194:=Tryz.sizeOf251
 v194:=Tryz.zeroValue251
 t196:=underlying253
 a196:=Tryz.isAgg253
 z196:=Tryz.sizeOf253
 v196:=Tryz.zeroValue253
 t198:=underlying256
 a198:=Tryz.isAgg256
 z198:=Tryz.sizeOf256
 v198:=Tryz.zeroValue256
 t201:=underlying259
 a201:=Tryz.isAgg259
 z201:=Tryz.sizeOf259
 v201:=Tryz.zeroValue259
 t226:=underlying273
 a226:=Tryz.isAgg273
 z226:=Tryz.sizeOf273
 v226:=Tryz.zeroValue273
 t227:=underlying274
 a227:=Tryz.isAgg274
 z227:=Tryz.sizeOf274
 v227:=Tryz.zeroValue274
 g0:=by kernel_rfl
 g6:=by kernel_rfl}
open Go.RowKit Go.Lib in
theorem Tryz.strings_Fields (s:ByteArray) (w:World) (hs:s.size<4294967281) (hascii:∀(j:Nat) b,s.data.toList[j]? =some b->b.toNat<128) (htab:Lib.TabIs prog w "strings.asciiSpace" .u8 Lib.asciiSpaceTab) :
 Calls prog 180 #[.string s] w fun e w'=>
  e=.returned (.slice (some ⟨w.heap.size,0,none⟩) (Lib.fields s.data.toList).length (Lib.fields s.data.toList).length)/\w'=w.alloc (.cells ((Lib.fields s.data.toList).map fun l=>Value.string ⟨l.toArray⟩).toArray 9):=Any.strings_Fields Tryz.lays157 (by kernel_rfl) (by kernel_rfl) s w hs hascii htab
def Tryz.lays109_ren:Go.Shelf.Ren:=⟨fun|109=>238|n=>n,fun|31=>133|9=>9|3=>3|0=>0|4=>4|n=>n,fun|n=>n⟩
theorem Tryz.lays109:Go.Proofs.Lays.n109 prog Tryz.lays109_ren:={
 mixed:=by kernel_rfl
 f109:=func238.trans (congrArg some (by kernel_rfl))
 t0:=underlying0
 a0:=Tryz.isAgg0
 z0:=Tryz.sizeOf0
 v0:=Tryz.zeroValue0
 t3:=underlying3
 a3:=Tryz.isAgg3
 z3:=Tryz.sizeOf3
 v3:=Tryz.zeroValue3
 t4:=underlying4
 a4:=Tryz.isAgg4
 z4:=Tryz.sizeOf4
 v4:=Tryz.zeroValue4
 t9:=underlying9
 a9:=Tryz.isAgg9
 z9:=Tryz.sizeOf9
 v9:=Tryz.zeroValue9
 t31:=underlying133
 a31:=Tryz.isAgg133
 z31:=Tryz.sizeOf133
 v31:=Tryz.zeroValue133}
open Go.Lib in
theorem Tryz.slices_Index_string (b off n c:Nat) (zs:List ByteArray) (x:ByteArray) (w:World) (hz:n<=zs.length) (hbig:n<=9223372036854775807) (hc:∀j,j<zs.length->w.cell? ⟨b,off+j,none⟩=some (.string (zs.getD j ByteArray.empty))) :
 Calls prog 238 #[.slice (some ⟨b,off,none⟩) n c,.string x] w fun e w'=>e=.returned (.int .i64 (Lib.idxOfS (zs.take n) x))/\w'=w:=Any.slices_Index_string Tryz.lays109 b off n c zs x w hz hbig hc
def Tryz.lays110_ren:Go.Shelf.Ren:=⟨fun|110=>184|109=>238|n=>n,fun|31=>133|9=>9|4=>4|3=>3|0=>0|n=>n,fun|n=>n⟩
theorem Tryz.lays110:Go.Proofs.Lays.n110 prog Tryz.lays110_ren:={
 mixed:=by kernel_rfl
 f109:=func238.trans (congrArg some (by kernel_rfl))
 f110:=func184.trans (congrArg some (by kernel_rfl))
 t0:=underlying0
 a0:=Tryz.isAgg0
 z0:=Tryz.sizeOf0
 v0:=Tryz.zeroValue0
 t3:=underlying3
 a3:=Tryz.isAgg3
 z3:=Tryz.sizeOf3
 v3:=Tryz.zeroValue3
 t4:=underlying4
 a4:=Tryz.isAgg4
 z4:=Tryz.sizeOf4
 v4:=Tryz.zeroValue4
 t9:=underlying9
 a9:=Tryz.isAgg9
 z9:=Tryz.sizeOf9
 v9:=Tryz.zeroValue9
 t31:=underlying133
 a31:=Tryz.isAgg133
 z31:=Tryz.sizeOf133
 v31:=Tryz.zeroValue133}
open Go.Lib in
theorem Tryz.slices_Contains_string (b off n c:Nat) (zs:List ByteArray) (x:ByteArray) (w:World) (hz:n<=zs.length) (hbig:n<=9223372036854775807) (hc:∀j,j<zs.length->w.cell? ⟨b,off+j,none⟩=some (.string (zs.getD j ByteArray.empty))) :
 Calls prog 184 #[.slice (some ⟨b,off,none⟩) n c,.string x] w fun e w'=>e=.returned (.bool (Lib.containsS (zs.take n) x))/\w'=w:=Any.slices_Contains_string Tryz.lays110 b off n c zs x w hz hbig hc
def Tryz.laysSlE31_f104_ren:Go.Shelf.Ren:=⟨fun|31=>104|29=>157|n=>n,fun|22=>24|23=>3|4=>4|3=>3|0=>0|n=>n,fun|n=>n⟩
def Tryz.laysSlE31_class2_ren:Go.Shelf.Ren:=⟨fun|31=>237|29=>260|n=>n,fun|22=>223|23=>194|4=>4|3=>3|0=>0|n=>n,fun|n=>n⟩
theorem Tryz.laysSlE31_class2:Go.Proofs.SlLaysE.n31 prog Tryz.laysSlE31_class2_ren:={
 mixed:=by kernel_rfl
 f29:=⟨Tryz.f260.name,by decide,func260.trans (congrArg some (by kernel_rfl))⟩
 f31:=⟨Tryz.f237.name,by decide,func237.trans (congrArg some (by kernel_rfl))⟩
 t0:=underlying0
 a0:=Tryz.isAgg0
 z0:=Tryz.sizeOf0
 v0:=Tryz.zeroValue0
 t3:=underlying3
 a3:=Tryz.isAgg3
 z3:=Tryz.sizeOf3
 v3:=Tryz.zeroValue3
 t4:=underlying4
 a4:=Tryz.isAgg4
 z4:=Tryz.sizeOf4
 v4:=Tryz.zeroValue4
 t22:=underlying223
 a22:=Tryz.isAgg223
 z22:=Tryz.sizeOf223
 v22:=Tryz.zeroValue223
 a23:=Tryz.isAgg194
 z23:=Tryz.sizeOf194}
open Go.Lib in
theorem Tryz.slices_Contains_class {α:Type} [Inhabited α] (enc:α->Value) (eq:α->α->Bool) (heq:EqlAt prog 194 enc eq) (b off n c:Nat) (zs:List α) (x:α) (w:World) (hz:n<=zs.length) (hbig:n<=9223372036854775807) (hc:∀j,j<zs.length->w.cell? ⟨b,off+j,none⟩=some (enc zs[j]!)) :
 Calls prog 237 #[.slice (some ⟨b,off,none⟩) n c,enc x] w fun e w'=>e=.returned (.bool ((zs.take n).any fun y=>eq x y))/\w'=w:=AnyE.slices_Contains Tryz.laysSlE31_class2 enc eq heq b off n c zs x w hz hbig hc
end
end Go.Proofs
namespace Go.Proofs.YtcagibbaeageoaaGreatDoor
section
open Go.RowKit Lode Go.Shelf
open Go.Proofs.Tryz
theorem qj(c:UInt8)(w:World):
 Calls prog 130 #[.int .u8 (c.toNat:Int)] w fun e w'=>e=.returned (.bool (zM c))/\w=w':=by
 by_cases h1:(97:Int)<=c.toNat
 ·have:zM c=decide ((c.toNat:Int)<=122):=by unfold zM;rw[pP];simp;omega
  rw[this];clear this;go_enter func130,ntmps130;go_wp2;go_ret;exact⟨rfl,rfl⟩
 ·have:zM c=false:=by unfold zM;simp;omega
  rw[this];clear this;go_enter func130,ntmps130;go_wp2;go_ret;exact⟨rfl,rfl⟩
theorem jP(c:UInt8)(w:World):
 Calls prog 131 #[.int .u8 (c.toNat:Int)] w fun e w'=>e=.returned (.bool (kZ c))/\w=w':=by
 by_cases h1:(65:Int)<=c.toNat
 ·have:kZ c=decide ((c.toNat:Int)<=90):=by unfold kZ;rw[pP];simp;omega
  rw[this];clear this;go_enter func131,ntmps131;go_wp2;go_ret;exact⟨rfl,rfl⟩
 ·have:kZ c=false:=by unfold kZ;simp;omega
  rw[this];clear this;go_enter func131,ntmps131;go_wp2;go_ret;exact⟨rfl,rfl⟩
theorem qB(c:UInt8)(w:World):
 Calls prog 135 #[.int .u8 (c.toNat:Int)] w fun e w'=>e=.returned (.bool (zL c))/\w=w':=by
 by_cases h1:(48:Int)<=c.toNat
 ·have:zL c=decide ((c.toNat:Int)<=57):=by unfold zL;rw[pP];simp;omega
  rw[this];clear this;go_enter func135,ntmps135;go_wp2;go_ret;exact⟨rfl,rfl⟩
 ·have:zL c=false:=by unfold zL;simp;omega
  rw[this];clear this;go_enter func135,ntmps135;go_wp2;go_ret;exact⟨rfl,rfl⟩
theorem zdw(s:ByteArray)(w:World)(hs:s.size<=9223372036854775807):
 Calls prog 83 #[.string s] w fun e w'=>e=.returned (.tuple #[.int .i64 (xP s.data.toList).1,.int .i64 (xP s.data.toList).2])/\w=w':=by
 by_cases h:3000<s.size
 ·have e1:xP s.data.toList=(3000,5):=by unfold xP;rw[if_pos (by simpa using h)]
  rw[e1];clear e1;go_enter func83,ntmps83;go_wp2;go_ret2;exact⟨rfl,rfl⟩
 ·have e1:=show xP s.data.toList=match xL (fun c=> !ju c) s.data.toList with|some i=>(i,4)|none=>(0,0) by unfold xP;rw[if_neg (by simpa using h)];first|done|rfl
  have E1:=zj e1;clear e1;go_enter func83,ntmps83;go_wp2_with fail;go_loop [4] (fun s4=>∃k:Nat,k<=s.size/\s4=.int .i64 k/\Hid (∀j,j<k->(fun c=> !ju c) (s.data.toList.getD j 0)=false)) (fun s4=>s.size-(intOf s4).toNat)
  case atStart=>exact⟨0,by omega,rfl,fun j hj=>absurd hj (pY _)⟩
  case round=>
   obtain⟨k,hk,rfl,hall⟩:=hrel;by_cases hlt:k<s.size
   ·go_wp2_with fail
    all_goals first
     |(go_round
       case rel=>exact⟨k+1,by omega,by go_num,zc7 s (fun c=> !ju c) false k hall.out hlt (by
        have:ju s[k]=true:=by rw[Jp];first|omega|(simp only[gE] at *;omega)
        simp[this])⟩
       case measure=>simp[intOf];omega)
     |(go_ret2
       rw[zix s k h hall.out hlt (by rw[zem];first|omega|(simp only[gB,gE,ne_eq] at *;omega))];exact⟨rfl,rfl⟩)
   ·obtain rfl:k=s.size:=by omega
    go_wp2;go_ret2;rw[zgH s h hall.out];exact⟨rfl,rfl⟩
theorem zbX(s:ByteArray)(a:Nat)(lt:Bool)(w:World)(hs:s.size<=1000000000000)(ha:a<=s.size):
 Calls prog 132 #[.string s,.int .i64 a,.bool lt] w fun e w'=>e=.returned (.int .i64 (yd (fun c=>zL c || (lt && zM c)) (s.data.toList.drop a)))/\w=w':=by
 generalize hn:yd (fun c=>zL c || (lt && zM c)) (s.data.toList.drop a)=n;have Hn:=zj hn;clear hn;cases lt
 all_goals
  go_enter func132,ntmps132;go_wp2_with fail
 ·go_loop [7] (fun s7=>∃k:Nat,a+k<=s.size/\s7=.int .i64 k/\Hid (∀j,j<k->(fun c=>zL c || (false && zM c)) (s.data.toList.getD (a+j) 0)=true)) (fun s7=>s.size-(intOf s7).toNat)
  case atStart=>exact⟨0,by omega,rfl,fun j hj=>absurd hj (pY _)⟩
  case round=>
   obtain⟨k,hk,rfl,hall⟩:=hrel;have Hr:=zj (Qc s (fun c=>zL c || (false && zM c)) a k hall.out (by omega));by_cases hlt:a+k<s.size
   ·go_wp2_with (go_at_call 135;refine (qB _ _).mono ?_;rintro e w' ⟨rfl,rfl⟩)
    ·go_round
     case rel=>exact⟨k+1,by omega,by go_num,Vt s (fun c=>zL c || (false && zM c)) true a k hall.out hlt (by simp[*])⟩
     case measure=>simp[intOf];omega
    ·go_ret;rw[<-Hn.out,Hr.out,qh s _ hlt];exact⟨by simp[yd, *],rfl⟩
   ·go_wp2;go_ret;rw[<-Hn.out,Hr.out,jj s _ (by omega)];exact⟨by simp[yd],rfl⟩
 ·go_loop [7] (fun s7=>∃k:Nat,a+k<=s.size/\s7=.int .i64 k/\Hid (∀j,j<k->(fun c=>zL c || (true && zM c)) (s.data.toList.getD (a+j) 0)=true)) (fun s7=>s.size-(intOf s7).toNat)
  case atStart=>exact⟨0,by omega,rfl,fun j hj=>absurd hj (pY _)⟩
  case round=>
   obtain⟨k,hk,rfl,hall⟩:=hrel;have Hr:=zj (Qc s (fun c=>zL c || (true && zM c)) a k hall.out (by omega));by_cases hlt:a+k<s.size
   ·go_wp2_with (first|(go_at_call 135;refine (qB _ _).mono ?_;rintro e w' ⟨rfl,rfl⟩)|(go_at_call 130;refine (qj _ _).mono ?_;rintro e w' ⟨rfl,rfl⟩))
    all_goals first
     |(go_round
       case rel=>exact⟨k+1,by omega,by go_num,Vt s (fun c=>zL c || (true && zM c)) true a k hall.out hlt (by simp[*])⟩
       case measure=>simp[intOf];omega)
     |(go_ret
       rw[<-Hn.out,Hr.out,qh s _ hlt];exact⟨by simp[yd, *],rfl⟩)
   ·go_wp2;go_ret;rw[<-Hn.out,Hr.out,jj s _ (by omega)];exact⟨by simp[yd],rfl⟩
def Yy(l:List (List UInt8)):Array Value:=(l.map fun x=>Value.string ⟨x.toArray⟩).toArray
theorem zds(w:World):Calls prog 134 #[] w fun e w'=>e=.returned (.slice (some ⟨w.heap.size,0,none⟩) 44 44)/\w.alloc (.cells (Yy xE) 9)=w':=by
 go_enter func134,ntmps134;go_wp2;go_ret;exact⟨rfl,rfl⟩
theorem jw(w:World):Calls prog 138 #[] w fun e w'=>e=.returned (.slice (some ⟨w.heap.size,0,none⟩) 25 25)/\w.alloc (.cells (Yy yb) 9)=w':=by
 go_enter func138,ntmps138;go_wp2;go_ret;exact⟨rfl,rfl⟩
theorem zeV(b n cap:Nat)(l:List (List UInt8))(s:ByteArray)(w:World)(hn:n=l.length)(hm:n<=1000000000000)(hc:∀j,j<n->w.cell? ⟨b,j,none⟩=some (.string ⟨(l[j]?.getD []).toArray⟩)):
 Calls prog 133 #[.slice (some ⟨b,0,none⟩) n cap,.string s] w fun e w'=>e=.returned (.bool (l.contains s.data.toList))/\w=w':=by
 generalize hr:l.contains s.data.toList=r;have Hr:=zj hr;clear hr;have Hn:=zj hn;clear hn;have Hc:=zj hc;clear hc;go_enter func133,ntmps133;go_wp2_with fail;go_loop [5] (fun s5=>∃k:Nat,k<=n/\s5=.int .i64 k/\Hid (∀j,j<k->l[j]?.getD []≠s.data.toList)) (fun s5=>n-(intOf s5).toNat)
 case atStart=>exact⟨0,by omega,rfl,fun j hj=>absurd hj (pY _)⟩
 case round=>
  obtain⟨k,hk,rfl,hall⟩:=hrel;by_cases hlt:k<n
  ·have hcell:=Hc.out k hlt;go_wp2_with fail
   ·go_ret;have h1:l[k]?.getD []=s.data.toList:=by have h:=‹(_ == _)=true›;rw[ByteArray.toList_eq] at h;simpa using h
    have hk':k<l.length:=by have:=Hn.out;omega
    refine⟨?_,rfl⟩;rw[<-Hr.out];have:s.data.toList∈l:=by rw[<-h1];simp[hk']
    simp[this]
   ·have h1:l[k]?.getD []≠s.data.toList:=by have h:=‹(_ == _)=false›;rw[ByteArray.toList_eq] at h;simpa using h
    go_round
    case rel=>exact⟨k+1,by omega,by go_num,fun j hj=>by
     by_cases e:j=k
     ·subst e;exact h1
     ·exact hall.out j (by omega)⟩
    case measure=>simp[intOf];omega
  ·go_wp2;go_ret;refine⟨?_,rfl⟩;rw[<-Hr.out];have:s.data.toList∉l:=by
    intro h;obtain⟨j,hj,e⟩:=List.getElem_of_mem h;exact hall.out j (by have:=Hn.out;omega) (by simp[hj,e])
   simp[this]
theorem zhA(s:ByteArray)(a:Nat)(w:World)(hs:s.size<=1000000000000)(ha:a<=s.size):
 Calls prog 84 #[.string s,.int .i64 a] w fun e w'=>e=.returned (.int .i64 (zT false (s.data.toList.drop a)))/\w=w':=by
 generalize hn:zT false (s.data.toList.drop a)=n;have Hn:=zj hn;clear hn;go_enter func84,ntmps84;go_wp2_with fail;go_loop [5,6] (fun s5 s6=>∃(k:Nat) (cm:Bool),a+k<=s.size/\s5=.int .i64 k/\s6=.bool cm/\Hid (n=k+zT cm (s.data.toList.drop (a+k)))) (fun s5 _=>s.size-(intOf s5).toNat)
 case atStart=>exact⟨0,false,by omega,rfl,rfl,by rw[Nat.zero_add];exact Hn.out.symm⟩
 case round=>
  obtain⟨k,cm,hk,rfl,rfl,hall⟩:=hrel;by_cases hlt:a+k<s.size
  ·have Hg:=zj (show n=k+zT cm (s[a+k] :: s.data.toList.drop (a+k+1)) by rw[<-qh s _ hlt];exact hall.out);go_wp2_with fail
   ·go_round
    case rel=>exact⟨k+1,false,by omega,by go_num,rfl,zes Hg.out ‹_›⟩
    case measure=>simp[intOf];omega
   ·go_round
    case rel=>exact⟨k+1,true,by omega,by go_num,rfl,zio Hg.out ‹_› ‹_›⟩
    case measure=>simp[intOf];omega
   ·go_round
    case rel=>exact⟨k+1,cm,by omega,by go_num,rfl,Qs Hg.out ‹_› ‹_› ‹_›⟩
    case measure=>simp[intOf];omega
   ·go_ret;obtain rfl:=zbg Hg.out ‹_› ‹_› ‹_›;exact⟨rfl,rfl⟩
   ·go_round
    case rel=>exact⟨k+1,cm,by omega,by go_num,rfl,zll Hg.out ‹_› ‹_› ‹_›⟩
    case measure=>simp[intOf];omega
  ·go_wp2;go_ret;have hg:=hall.out;rw[jj s _ (by omega)] at hg;exact⟨by rw[hg];simp[zT],rfl⟩
theorem Ve(s:ByteArray)(w:World)(hs:s.size<=1000000000000):
 Calls prog 136 #[.string s] w fun e w'=>e=.returned (.bool (jR s.data.toList))/\w=w':=by
 generalize hr:jR s.data.toList=r;have Hr:=zj hr;clear hr;go_enter func136,ntmps136;go_wp2_with (go_at_call 132;refine (zbX _ 0 false _ hs (pV _)).mono ?_;rintro e w' ⟨rfl,rfl⟩)
 all_goals
  go_ret;go_light;refine⟨congrArg (fun b=>Ending.returned (Value.bool b)) ?_,rfl⟩;rw[<-Hr.out,zgw];simp only[ByteArray.toList_eq] at *;have hlen:s.data.toList.length=s.size:=by simp
  have hh:=zlp s 48 (by omega);rw[show UInt8.ofNat 48=48 from rfl] at hh;have hrl:((yd zL s.data.toList:Int) == (s.size:Int))=decide (yd zL s.data.toList=s.size):=by rw[pP];simp;omega
  rw[hlen,hh];clear hh Hr hlen;show _=_
  first
   |(simp_all [jB];done)
   |(simp_all [jB];omega)
def zlx(q:Option (List UInt8×Nat))(w:World)(e:Ending)(w':World):Prop:=
 ∃n t ok,e=.returned (.tuple #[.int .i64 n,.string t,.bool ok])/\zgS q n t ok/\w=w'
theorem zbY(s:ByteArray)(a:Nat)(w:World)(hs:s.size<=1000000000000)(ha:a<s.size):
 Calls prog 137 #[.string s,.int .i64 a] w (zlx (Lode.jk (s.data.toList.drop a)) w):=by
 have Hq:=kW.start s a;generalize Lode.jk (s.data.toList.drop a)=q at *;go_enter func137,ntmps137;go_wp2_with fail;go_loop [7,8] (fun s7 s8=>∃(k:Nat) (ob:ByteArray),a+1+k<=s.size+1/\s8=.int .i64 ((a+1+k:Nat):Int)/\s7=.string ob/\ob.size<=k/\kW s a k ob q) (fun _ s8=>s.size+1-(intOf s8).toNat)
 case atStart=>exact⟨0,_,by omega,by go_num,rfl,by decide,Hq⟩
 case round=>
  obtain⟨k,ob,hk,rfl,rfl,hob,hq⟩:=hrel;by_cases hlt:a+1+k<s.size
  ·have hx:∀i,i<s.size->(s.extract i (i+1)).size=1:=fun i hi=>by simp;omega
   have Hx:=zj hx;clear hx;go_wp2_with fail
   ·go_ret3;exact⟨_,_,_,rfl,zeY hq hlt ‹_› ‹_› ‹_› _ (by omega),rfl⟩
   ·go_round
    case rel=>exact⟨k+1,_,by omega,by go_num,rfl,by rw[ByteArray.size_append,Hx.out _ hlt];omega,zeX hq hlt ‹_› ‹_› ‹_› ‹_›⟩
    case measure=>go_light;simp[intOf];omega
   ·go_round
    case rel=>exact⟨k+2,_,by omega,by go_num,rfl,by rw[ByteArray.size_append,Hx.out _ (by omega)];omega,zhL hq hlt ‹_› ‹_› ‹_› ‹_› (by omega) (.inl ‹_›)⟩
    case measure=>go_light;simp[intOf];omega
   ·go_round
    case rel=>exact⟨k+2,_,by omega,by go_num,rfl,by rw[ByteArray.size_append,Hx.out _ (by omega)];omega,zhL hq hlt ‹_› ‹_› ‹_› ‹_› (by omega) (by have h:=‹(_ == (34:Int))=true\/_›;simpa only[pX] using h)⟩
    case measure=>go_light;simp[intOf];omega
   ·go_round
    case rel=>exact⟨k+2,_,by omega,by go_num,rfl,by rw[ByteArray.size_append];show ob.size+1<=k+2;omega,zhK hq hlt ‹_› ‹_› ‹_› ‹_› (by omega) (by have h:=‹(_ == _)=false/\_›;simpa only[pA] using h) (by have h:=‹(_ == (110:Int))=true›;simpa only[pX] using h)⟩
    case measure=>go_light;simp[intOf];omega
   ·go_ret3;exact⟨_,_,_,rfl,by rw[zki hq hlt ‹_› ‹_› ‹_› ‹_› (by omega) (by have h:=‹(_ == _)=false/\_›;simpa only[pA] using h) (by have h:=‹(_ == (110:Int))=false›;simpa only[pA] using h)];rfl,rfl⟩
   ·go_ret3;exact⟨_,_,_,rfl,by rw[VL hq hlt ‹_› ‹_› ‹_› ‹_› (by omega)];rfl,rfl⟩
   ·go_ret3;exact⟨_,_,_,rfl,by rw[zk0 hq hlt ‹_›];rfl,rfl⟩
   ·go_ret3;exact⟨_,_,_,rfl,by rw[zkh hq hlt ‹_›];rfl,rfl⟩
  ·go_wp2_with fail;go_ret3;exact⟨_,_,_,rfl,by rw[zkg hq (by omega)];rfl,rfl⟩
theorem zaJ(s:ByteArray)(x:Int)(a:Nat)(lt:Bool)(w:World)(hx:x=a)(hs:s.size<=1000000000000)(ha:a<=s.size):
 Calls prog 132 #[.string s,.int .i64 x,.bool lt] w fun e w'=>e=.returned (.int .i64 (yd (fun c=>zL c || (lt && zM c)) (s.data.toList.drop a)))/\w=w':=by
 subst hx;exact zbX s a lt w hs ha
def zj7(q:Option (Nat×List UInt8×Nat))(a:Int)(k:Int)(t:ByteArray)(a' n:Int)(ok:Bool):Prop:=
 match q with
 |some (k',t',n')=>ok=true/\k=k'/\t=⟨t'.toArray⟩/\a'=a/\n=n'
 |none=>ok=false
def jd(q:Option (Nat×List UInt8×Nat))(a:Nat)(w:World)(e:Ending)(w':World):Prop:=
 ∃k t a' n ok,e=.returned (.tuple #[.agg #[.int .u8 k,.string t,.int .i64 a'],.int .i64 n,.bool ok])/\zj7 q a k t a' n ok/\Below w.heap.size w w'
theorem ki(p:UInt8->Bool):∀m:List UInt8,yd p m<=m.length
 |[]=>by simp[yd]
 |d :: m=>by simp only[yd];have:=ki p m;split <;> simp;omega
theorem zdh(V:World)(l:List (List UInt8))(T:TypeId)(b:Nat)(hb:b=V.heap.size)(j:Nat)(hj:j<l.length):(V.alloc (.cells (Yy l) T)).drew.cell? ⟨b,j,none⟩=some (.string ⟨(l[j]?.getD []).toArray⟩):=by
 subst hb;simp[Yy,hj]
theorem qg(s:ByteArray)(a n:Nat):(s.extract a (a+n)).data.toList=(s.data.toList.drop a).take n:=by
 simp[List.extract_eq_take_drop]
theorem ur(s:ByteArray):s=⟨s.data.toList.toArray⟩:=by simp
theorem Yx(s:ByteArray)(a m:Nat)(ha:a<s.size)(h1:zM s[a]=true)(hm:yd (fun c=>zL c || (true && zM c)) (s.data.toList.drop (a+1))=m):
 xd (s.data.toList.drop a)=if 1+m<=12 then some (if xE.contains (s.extract a (a+(1+m))).data.toList then 5 else 1,(s.extract a (a+(1+m))).data.toList,1+m) else none:=by
 have e:(fun c=>zL c || (true && zM c))=(fun c=>zM c || zL c):=by funext c;simp[Bool.or_comm]
 rw[e] at hm;rw[qg,qh s a ha];simp only[xd,h1,if_true,hm]
theorem yc{w w1:World}(h:Below w.heap.size w w1)(o:Obj):Below w.heap.size w (w1.alloc o):=h.alloc h.size o
theorem kf{s:ByteArray}{a m k:Nat}{q:Option (Nat×List UInt8×Nat)}(hq:q=if 1+m<=12 then some (k,(s.extract a (a+(1+m))).data.toList,1+m) else none):
 zj7 q a k (s.extract a (a+(1+m))) a (1+(m:Int)) (decide (1+(m:Int)<=12)):=by
 subst hq;by_cases h:1+m<=12
 ·rw[if_pos h];exact⟨by simp;omega,rfl,ur _,rfl,by omega⟩
 ·rw[if_neg h];show _=_;simp;omega
theorem zaK(s:ByteArray)(a:Nat)(w:World)(hs:s.size<=1000000000000)(ha:a<s.size)(h1:zM s[a]=true):
 Calls prog 85 #[.string s,.int .i64 a] w (jd (xd (s.data.toList.drop a)) a w):=by
 have h2:kZ s[a]=false:=by simp[zM] at h1;simp[kZ];omega
 have hc:(0:Int)<=(s[a].toNat:Int):=by omega
 obtain⟨m,hm,hmb⟩:∃m,yd (fun c=>zL c || (true && zM c)) (s.data.toList.drop (a+1))=m/\a+1+m<=s.size:=⟨_,rfl,by
  have:=ki (fun c=>zL c || (true && zM c)) (s.data.toList.drop (a+1));simp at this ⊢;omega⟩
 have Hrun:=zj (show ∀w,Calls prog 132 #[.string s,.int .i64 ((a:Int)+1),.bool true] w fun e w'=>e=.returned (.int .i64 m)/\w=w' from fun w=>hm▸zaJ s _ (a+1) true _ (by omega) hs (by omega));have Hm:=zj hm;clear hm;generalize hq:xd (s.data.toList.drop a)=q at *;have Hq:=zj hq;clear hq;go_enter func85,ntmps85;go_wp2_with (first
  |(go_at_call 130;refine (qj _ _).mono ?_;rintro e w' ⟨rfl,rfl⟩;rw[h1])
  |(go_at_call 131;refine (jP _ _).mono ?_;rintro e w' ⟨rfl,rfl⟩;rw[h2])
  |(go_at_call 132;refine (Hrun.out _).mono ?_;rintro e w' ⟨rfl,rfl⟩))
 go_region_with (first
  |(go_at_call 134;refine (zds _).mono ?_;rintro e w' ⟨rfl,rfl⟩)
  |(go_at_call 133;refine (zeV _ 44 44 xE _ _ rfl (by decide) (fun j hj=>zdh _ _ _ _ (by simp) j hj)).mono ?_;rintro e w' ⟨rfl,rfl⟩))
 all_goals
  go_wp2_with fail
 all_goals
  first
   |(have hw:List.take (1+m) (List.drop a s.data.toList)∈xE:=by assumption
     refine bodyPost_ret (v:=.tuple #[.agg #[.int .u8 5,.string (s.extract a (a+(1+m))),.int .i64 a],.int .i64 (1+m),.bool (decide (1+(m:Int)<=12))]) (by simp[results,results85,go_sem]) rfl ?_;refine⟨_,_,_,_,_,rfl,?_,?_⟩
     ·exact kf (k:=5) (by rw[<-Hq.out,Yx s a m ha h1 Hm.out,qg];simp[hw])
     ·repeat (first|exact pE _ _|apply Below.drew|apply yc))
   |(have hw:¬List.take (1+m) (List.drop a s.data.toList)∈xE:=by assumption
     refine bodyPost_ret (v:=.tuple #[.agg #[.int .u8 1,.string (s.extract a (a+(1+m))),.int .i64 a],.int .i64 (1+m),.bool (decide (1+(m:Int)<=12))]) (by simp[results,results85,go_sem]) rfl ?_;refine⟨_,_,_,_,_,rfl,?_,?_⟩
     ·exact kf (k:=1) (by rw[<-Hq.out,Yx s a m ha h1 Hm.out,qg];simp[hw])
     ·repeat (first|exact pE _ _|apply Below.drew|apply yc))
theorem zbL(s:ByteArray)(a m:Nat)(ha:a<s.size)(h1:zM s[a]=false)(h2:kZ s[a]=true)(hm:yd (fun c=>zL c || (true && zM c)) (s.data.toList.drop (a+1))=m):
 xd (s.data.toList.drop a)=if 1+m<=12 then some (2,(s.extract a (a+(1+m))).data.toList,1+m) else none:=by
 have e:(fun c=>zL c || (true && zM c))=(fun c=>zM c || zL c):=by funext c;simp[Bool.or_comm]
 rw[e] at hm;rw[qg,qh s a ha];simp only[xd,h1,h2,if_true,hm,Bool.false_eq_true,if_false]
theorem zdb(s:ByteArray)(a m:Nat)(ha:a<s.size)(h1:zM s[a]=false)(h2:kZ s[a]=false)(h3:zL s[a]=true)(hm:yd (fun c=>zL c || (false && zM c)) (s.data.toList.drop a)=m):
 xd (s.data.toList.drop a)=if jR (s.extract a (a+m)).data.toList then some (3,(s.extract a (a+m)).data.toList,m) else none:=by
 have e:(fun c=>zL c || (false && zM c))=zL:=by funext c;simp
 rw[e,qh s a ha] at hm;rw[qg,qh s a ha];simp only[yd,h3,if_true] at hm;subst hm;simp only[xd,h1,h2,h3,if_true,Bool.false_eq_true,if_false,Nat.add_comm 1]
theorem JI(s:ByteArray)(a:Nat)(ha:a<s.size)(h:s[a]=34):
 xd (s.data.toList.drop a)=(Lode.jk (s.data.toList.drop a)).map fun x=>(4,x.1,x.2):=by
 rw[qh s a ha,h];simp only[xd,show zM 34=false from rfl,show kZ 34=false from rfl,show zL 34=false from rfl,if_true,Bool.false_eq_true,if_false]
theorem Vw(s:ByteArray)(a:Nat)(ha:a<s.size)(h1:zM s[a]=false)(h2:kZ s[a]=false)(h3:zL s[a]=false)(h4:s[a]≠34):
 xd (s.data.toList.drop a)=(yb.find? fun g=>qd g (s.data.toList.drop a)).map fun g=>(6,g,g.length):=by
 rw[qh s a ha];simp only[xd,h1,h2,h3,h4,Bool.false_eq_true,if_false]
theorem zdu(s:ByteArray)(a:Nat)(w:World)(hs:s.size<=1000000000000)(ha:a<s.size)(h1:zM s[a]=false)(h2:kZ s[a]=true):
 Calls prog 85 #[.string s,.int .i64 a] w (jd (xd (s.data.toList.drop a)) a w):=by
 have hc:(0:Int)<=(s[a].toNat:Int):=by omega
 obtain⟨m,hm,hmb⟩:∃m,yd (fun c=>zL c || (true && zM c)) (s.data.toList.drop (a+1))=m/\a+1+m<=s.size:=⟨_,rfl,by
  have:=ki (fun c=>zL c || (true && zM c)) (s.data.toList.drop (a+1));simp at this ⊢;omega⟩
 have Hrun:=zj (show ∀w,Calls prog 132 #[.string s,.int .i64 ((a:Int)+1),.bool true] w fun e w'=>e=.returned (.int .i64 m)/\w=w' from fun w=>hm▸zaJ s _ (a+1) true _ (by omega) hs (by omega));have Hm:=zj hm;clear hm;generalize hq:xd (s.data.toList.drop a)=q at *;have Hq:=zj hq;clear hq;go_enter func85,ntmps85;go_wp2_with (first
  |(go_at_call 130;refine (qj _ _).mono ?_;rintro e w' ⟨rfl,rfl⟩;rw[h1])
  |(go_at_call 131;refine (jP _ _).mono ?_;rintro e w' ⟨rfl,rfl⟩;rw[h2])
  |(go_at_call 132;refine (Hrun.out _).mono ?_;rintro e w' ⟨rfl,rfl⟩))
 refine bodyPost_ret (v:=.tuple #[.agg #[.int .u8 2,.string (s.extract a (a+(1+m))),.int .i64 a],.int .i64 (1+m),.bool (decide (1+(m:Int)<=12))]) (by simp[results,results85,go_sem]) rfl ?_;refine⟨_,_,_,_,_,rfl,?_,?_⟩
 ·exact kf (k:=2) (by rw[<-Hq.out,zbL s a m ha h1 h2 Hm.out])
 ·repeat (first|exact pE _ _|apply Below.drew|apply yc)
theorem zaM(s:ByteArray)(a:Nat)(w:World)(hs:s.size<=1000000000000)(ha:a<s.size)(h1:zM s[a]=false)(h2:kZ s[a]=false)(h3:zL s[a]=true):
 Calls prog 85 #[.string s,.int .i64 a] w (jd (xd (s.data.toList.drop a)) a w):=by
 have hc:(0:Int)<=(s[a].toNat:Int):=by omega
 obtain⟨m,hm,hmb⟩:∃m,yd (fun c=>zL c || (false && zM c)) (s.data.toList.drop a)=m/\a+m<=s.size:=⟨_,rfl,by
  have:=ki (fun c=>zL c || (false && zM c)) (s.data.toList.drop a);simp at this ⊢;omega⟩
 have Hrun:=zj (show ∀w,Calls prog 132 #[.string s,.int .i64 (a:Int),.bool false] w fun e w'=>e=.returned (.int .i64 m)/\w=w' from fun w=>hm▸zaJ s _ a false _ (by omega) hs (by omega));have Hm:=zj hm;clear hm;obtain⟨b,hb⟩:=exE (jR (s.extract a (a+m)).data.toList);have Hnum:=zj (show ∀w,Calls prog 136 #[.string (s.extract a (a+m))] w fun e w'=>e=.returned (.bool b)/\w=w' from fun w=>hb▸Ve _ w (by simp;omega));have Hb:=zj hb;clear hb;generalize hq:xd (s.data.toList.drop a)=q at *;have Hq:=zj hq;clear hq;go_enter func85,ntmps85;go_wp2_with (first
  |(go_at_call 130;refine (qj _ _).mono ?_;rintro e w' ⟨rfl,rfl⟩;rw[h1])
  |(go_at_call 131;refine (jP _ _).mono ?_;rintro e w' ⟨rfl,rfl⟩;rw[h2])
  |(go_at_call 135;refine (qB _ _).mono ?_;rintro e w' ⟨rfl,rfl⟩;rw[h3])
  |(go_at_call 132;refine (Hrun.out _).mono ?_;rintro e w' ⟨rfl,rfl⟩))
 have e1:IntKind.i64.wrap ((a:Int)+(m:Int))=a+m:=pC _ (by omega);have e2:(0:Int)<=(a:Int)+m:=by omega
 have e3:((a:Int)+(m:Int)).toNat=a+m:=by omega
 have e4:(a:Int)<=(a:Int)+m:=by omega
 have e5:a<=a+m:=by omega
 have e6:(a:Int)+m<=(s.size:Int):=by omega
 have e7:a+m<=s.size:=by omega
 go_region_with (go_at_call 136;refine (Hnum.out _).mono ?_;rintro e w' ⟨rfl,rfl⟩)
 all_goals
  go_wp2_with fail
 all_goals
  refine bodyPost_ret (v:=.tuple #[.agg #[.int .u8 3,.string (s.extract a (a+m)),.int .i64 a],.int .i64 m,.bool b]) (by simp[results,results85,go_sem]) rfl ?_;refine⟨_,_,_,_,_,rfl,?_,?_⟩
  ·rw[<-Hq.out,zdb s a m ha h1 h2 h3 Hm.out,Hb.out];cases b
   ·exact rfl
   ·exact⟨rfl,rfl,ur _,rfl,rfl⟩
  ·repeat (first|exact pE _ _|apply Below.drew|apply yc)
theorem zaL(s:ByteArray)(a:Nat)(w:World)(hs:s.size<=1000000000000)(ha:a<s.size)(h:s[a]=34):
 Calls prog 85 #[.string s,.int .i64 a] w (jd (xd (s.data.toList.drop a)) a w):=by
 have h1:zM s[a]=false:=by rw[h];rfl
 have h2:kZ s[a]=false:=by rw[h];rfl
 have h3:zL s[a]=false:=by rw[h];rfl
 have h4:((s[a].toNat:Int) == 34)=true:=by rw[pX,c34];exact h
 have Hq:=zj (JI s a ha h);have Hquo:=zj (zbY s a · hs ha);have H:=zj h;clear h;generalize hq:xd (s.data.toList.drop a)=q at *;generalize hq:Lode.jk (s.data.toList.drop a)=q2 at *;go_enter func85,ntmps85;go_wp2_with (first
  |(go_at_call 130;refine (qj _ _).mono ?_;rintro e w' ⟨rfl,rfl⟩;rw[h1])
  |(go_at_call 131;refine (jP _ _).mono ?_;rintro e w' ⟨rfl,rfl⟩;rw[h2])
  |(go_at_call 135;refine (qB _ _).mono ?_;rintro e w' ⟨rfl,rfl⟩;rw[h3]))
 refine (Hquo.out _).mono ?_;rintro e w' ⟨n,t,ok,rfl,hres,rfl⟩;have Hres:=zj hres;clear hres;go_wp2;refine bodyPost_ret (v:=.tuple #[.agg #[.int .u8 4,.string t,.int .i64 a],.int .i64 n,.bool ok]) (by simp[results,results85,go_sem]) rfl ?_;refine⟨_,_,_,_,_,rfl,?_,?_⟩
 ·rw[Hq.out];have hr:=Hres.out;cases q2 with
  |none=>exact hr
  |some x=>exact⟨hr.1,rfl,hr.2.2,rfl,hr.2.1⟩
 ·repeat (first|exact pE _ _|apply Below.drew|apply yc)
end
section
open Go.RowKit Lode Go.Shelf
attribute [local go_sem ↓] Go.wp_at_zero Go.wp_at_succ
open Go.Proofs.Tryz
theorem zac:∀(g r:List UInt8),qd g r=decide (r.take g.length=g)
 |[],r=>by simp[qd]
 |_ :: _,[]=>by simp[qd]
 |a :: g,b :: r=>by
  simp only[qd,zac g r,pN,List.take_succ_cons,List.cons.injEq];rw[pP];simp;intro _;exact eq_comm
theorem KA(r:List UInt8)(k:Nat):∀(L:List (List UInt8)),(∀g,g∈L->g.length=k)->L.find? (fun g=>qd g r)=if L.contains (r.take k) then some (r.take k) else none
 |[],_=>by simp
 |g :: L,h=>by
  have hg:=h g (by simp);have ih:=KA r k L (fun x hx=>h x (by simp[hx]));rw[List.find?_cons,zac,hg,ih];by_cases e:r.take k=g
  ·simp[e]
  ·have e':(g == r.take k)=false:=by simpa using fun h=>e h.symm
   simp only[e,decide_false,List.contains_cons];have e2:(r.take k == g)=false:=by simpa using e
   rw[e2,Bool.false_or]
def vF:List (List UInt8):=yb.take 7
def vG:List (List UInt8):=yb.drop 7
theorem zfQ(r:List UInt8):(yb.find? fun g=>qd g r)=if 2<=r.length/\yb.contains (r.take 2)=true then some (r.take 2) else if 1<=r.length/\yb.contains (r.take 1)=true then some (r.take 1) else none:=by
 have h2:∀g,g∈vF->g.length=2:=by decide
 have h1:∀g,g∈vG->g.length=1:=by decide
 have e:yb=vF ++ vG:=by decide
 have c2:∀x:List UInt8,x∈yb↔x∈vF\/x∈vG:=fun x=>by rw[e];simp
 rw[show yb.find? (fun g=>qd g r)=(vF ++ vG).find? fun g=>qd g r by rw[<-e],List.find?_append,KA r 2 vF h2,KA r 1 vG h1];by_cases hl2:2<=r.length
 ·have hn:r.take 2∉vG:=fun h=>by have:=h1 _ h;simp at this;omega
  have hn1:r.take 1∉vF:=fun h=>by have:=h2 _ h;simp at this;omega
  have q2:yb.contains (r.take 2)=vF.contains (r.take 2):=by rw[pP];simp[c2,hn]
  have q1:yb.contains (r.take 1)=vG.contains (r.take 1):=by rw[pP];simp[c2,hn1]
  rw[q2,q1];cases vF.contains (r.take 2) with
  |true=>simp[hl2]
  |false=>
   have:1<=r.length:=by omega
   cases vG.contains (r.take 1) <;> simp[this]
 ·have hn2:r.take 2∉vF:=fun h=>by have:=h2 _ h;simp at this;omega
  have hc2:vF.contains (r.take 2)=false:=by simpa using hn2
  rw[hc2];by_cases hl1:1<=r.length
  ·have hn1:r.take 1∉vF:=fun h=>by have:=h2 _ h;simp at this;omega
   have q1:yb.contains (r.take 1)=vG.contains (r.take 1):=by rw[pP];simp[c2,hn1]
   rw[q1];cases vG.contains (r.take 1) <;> simp[hl1,hl2]
  ·have:r=[]:=pU (by omega);subst this;have hc:([]:List UInt8)∉vG:=by decide
   simp[hc]
def qO(s:ByteArray)(a n:Nat):Bool:=decide (a+n<=s.size) && yb.contains (s.extract a (a+n)).data.toList
theorem zbJ(s:ByteArray)(a:Nat)(ha:a<s.size)(h1:zM s[a]=false)(h2:kZ s[a]=false)(h3:zL s[a]=false)(h4:s[a]≠34):
 xd (s.data.toList.drop a)=if qO s a 2=true then some (6,(s.extract a (a+2)).data.toList,2) else if qO s a 1=true then some (6,(s.extract a (a+1)).data.toList,1) else none:=by
 rw[Vw s a ha h1 h2 h3 h4,zfQ];have hl:(s.data.toList.drop a).length=s.size-a:=by simp
 have e2:(2<=s.size-a)=(a+2<=s.size):=by simp only[eq_iff_iff];omega
 have e1:(1<=s.size-a)=(a+1<=s.size):=by simp only[eq_iff_iff];omega
 simp only[qO,pI,pH,qg,hl,e2,e1];split
 ·rename_i h;simp[hl];omega
 ·split
  ·rename_i h;simp[hl];omega
  ·rfl
theorem zl(w:World)(o:Obj):(w.alloc o).heap[w.heap.size]? =some o:=by
 show (w.heap.push o)[w.heap.size]? =_;simp
theorem xN{w:World}{b:Nat}{o:Obj}(o':Obj)(h:w.heap[b]? =some o):(w.alloc o').heap[b]? =some o:=by
 rw[Below.heap_alloc w o' b (gtA h)];exact h
theorem qo{w w1:World}(h:Below w.heap.size w w1)(b o:Nat)(hb:w.heap.size<=b)(v:Value):Below w.heap.size w (w1.setCell ⟨b,o,none⟩ v):=h.setCell (p:=⟨b,o,none⟩) hb v
theorem ye{w w1:World}(h:Below w.heap.size w w1)(n:Nat):Below w.heap.size w (w1.drewN n):=by
 induction n with
 |zero=>exact h
 |succ n ih=>exact ih.drew
theorem Vv(q:Option (Nat×List UInt8×Nat))(a k:Int)(t:ByteArray)(a' n:Int)(h:q=none):zj7 q a k t a' n false:=by subst h;exact rfl
theorem zd{w:World}{b:Nat}{cs:Array Value}{T:TypeId}{fr:Nat×Nat}(hb:w.heap[b]? =some (.cells cs T fr))(j:Nat):w.cell? ⟨b,j,none⟩=cs[j]? :=by
 simp[World.cell?,hb]
theorem zk{w:World}{b:Nat}{cs:Array Value}{T:TypeId}(hb:w.heap[b]? =some (.cells cs T (0,0)))(j:Nat):w.frozen? ⟨b,j,none⟩=false:=by
 simp[World.frozen?,hb]
theorem qz{P:Program}{c:Code}{Q:Exit->Act->World->Prop}{a:Act}{w:World}(h:c.wp P (fun e a w=>match e with| .normal=>Q .normal a w|_=>False) a w):c.wp P Q a w:=
 Code.wp_mono (fun e a w q=>by cases e <;> first|exact q|exact q.elim) h
theorem km(w:World):w.drew.heap=w.heap:=rfl
theorem ko(w:World)(n:Nat):(w.drewN n).heap=w.heap:=by
 induction n with
 |zero=>rfl
 |succ n ih=>exact ih
theorem qe(V:World)(o:Obj)(b:Nat)(h:b=V.heap.size):(V.alloc o).heap[b]? =some o:=by subst h;exact zl V o
theorem vH(s:ByteArray)(a n:Nat)(h:a+n<=s.size)(W:World)(bk:Nat)(hW:W.heap[bk]? =some (.cells (Yy yb) 9 (0,0))):
 Calls prog 133 #[.slice (some ⟨bk,0,none⟩) 25 25,.string (s.extract a (a+n))] W fun e w'=>e=.returned (.bool (qO s a n))/\W=w':=by
 have e:qO s a n=yb.contains (s.extract a (a+n)).data.toList:=by unfold qO;simp[h]
 rw[e];exact zeV bk 25 25 yb _ _ rfl (by decide) (fun j hj=>by rw[zd hW];simp only[Yy,pW,wD];rw[glE (show j<yb.length from hj)];rfl)
theorem zkW(s:ByteArray)(a:Nat)(w:World)(q:Option (Nat×List UInt8×Nat))(hs:s.size<=1000000000000)(ha:a<s.size)(h1:zM s[a]=false)(h2:kZ s[a]=false)(h3:zL s[a]=false)(h4:((s[a].toNat:Int) == 34)=false)
(hfit:a+2<=s.size) (hb:qO s a 2=true) (Hq:Hid (q=some (6,(s.extract a (a+2)).data.toList,2))) :
 Calls prog 85 #[.string s,.int .i64 a] w (jd q a w):=by
 have Hin:=zj (vH s a 2 hfit);rw[hb] at Hin;clear hb;go_enter func85,ntmps85;go_wp2_with (first
  |(go_at_call 130;refine (qj _ _).mono ?_;rintro e w' ⟨rfl,rfl⟩;rw[h1])
  |(go_at_call 131;refine (jP _ _).mono ?_;rintro e w' ⟨rfl,rfl⟩;rw[h2])
  |(go_at_call 135;refine (qB _ _).mono ?_;rintro e w' ⟨rfl,rfl⟩;rw[h3]))
 refine wp_loop_rounds 1 ?_;rw[rounds_succ];go_wp2_with fail;have e1:IntKind.i64.wrap ((a:Int)+2)=a+2:=pC _ (by omega);have e2:(0:Int)<=(a:Int)+2:=by omega
 have e3:((a:Int)+2).toNat=a+2:=by omega
 have e4:(a:Int)<=(a:Int)+2:=by omega
 have e5:a<=a+2:=by omega
 have e6:(a:Int)+2<=(s.size:Int):=by omega
 have e8:decide ((a:Int)+2<=(s.size:Int))=true:=by simp;omega
 refine qz ?_;go_region_held3 (fun _=>True) (go_keep) (first
  |(go_at_call 138;refine (jw _).mono ?_;rintro e w' ⟨rfl,rfl⟩)
  |(go_at_call 133;refine (Hin.out _ _ (by (try simp only[km]);exact qe _ _ _ (by simp))).mono ?_;rintro e w' ⟨rfl,rfl⟩))
 clear e1 e2 e3 e4;go_wp2;refine bodyPost_ret (v:=.tuple #[.agg #[.int .u8 6,.string (s.extract a (a+2)),.int .i64 a],.int .i64 2,.bool true]) (by simp[results,results85,go_sem]) rfl ?_;refine⟨_,_,_,_,_,rfl,?_,?_⟩
 ·rw[Hq.out];exact⟨rfl,rfl,ur _,rfl,rfl⟩
 ·repeat (first|exact pE _ _|with_reducible apply Below.drew|with_reducible apply ye|with_reducible apply yc|with_reducible refine qo ?_ _ _ (by omega) _)
theorem zjn(s:ByteArray)(a:Nat)(w:World)(q:Option (Nat×List UInt8×Nat))(hs:s.size<=1000000000000)(ha:a<s.size)(h1:zM s[a]=false)(h2:kZ s[a]=false)(h3:zL s[a]=false)(h4:((s[a].toNat:Int) == 34)=false)
(hfit:a+2<=s.size) (hb:qO s a 2=false) (hc:qO s a 1=true) (Hq:Hid (q=some (6,(s.extract a (a+1)).data.toList,1))) :
 Calls prog 85 #[.string s,.int .i64 a] w (jd q a w):=by
 have Hin:=zj (vH s a 2 hfit);have Hjn:=zj (vH s a 1 (by omega));rw[hb] at Hin;rw[hc] at Hjn;clear hb hc;go_enter func85,ntmps85;go_wp2_with (first
  |(go_at_call 130;refine (qj _ _).mono ?_;rintro e w' ⟨rfl,rfl⟩;rw[h1])
  |(go_at_call 131;refine (jP _ _).mono ?_;rintro e w' ⟨rfl,rfl⟩;rw[h2])
  |(go_at_call 135;refine (qB _ _).mono ?_;rintro e w' ⟨rfl,rfl⟩;rw[h3]))
 refine wp_loop_rounds 2 ?_;rw[rounds_succ];go_wp2_with fail;have e1:IntKind.i64.wrap ((a:Int)+2)=a+2:=pC _ (by omega);have e2:(0:Int)<=(a:Int)+2:=by omega
 have e3:((a:Int)+2).toNat=a+2:=by omega
 have e4:(a:Int)<=(a:Int)+2:=by omega
 have e5:a<=a+2:=by omega
 have e6:(a:Int)+2<=(s.size:Int):=by omega
 have e8:decide ((a:Int)+2<=(s.size:Int))=true:=by simp;omega
 refine qz ?_;go_region_held3 (fun _=>True) (go_keep) (first
  |(go_at_call 138;refine (jw _).mono ?_;rintro e w' ⟨rfl,rfl⟩)
  |(go_at_call 133;refine (Hin.out _ _ (by (try simp only[km]);exact qe _ _ _ (by simp))).mono ?_;rintro e w' ⟨rfl,rfl⟩))
 clear e1 e2 e3 e4 e5 e6 e8;go_wp2_with fail;rw[rounds_succ];go_wp2_with fail;have e1:IntKind.i64.wrap ((a:Int)+1)=a+1:=pC _ (by omega);have e2:(0:Int)<=(a:Int)+1:=by omega
 have e3:((a:Int)+1).toNat=a+1:=by omega
 have e4:(a:Int)<=(a:Int)+1:=by omega
 have e5:a<=a+1:=by omega
 have e6:(a:Int)+1<=(s.size:Int):=by omega
 have e8:decide ((a:Int)+1<=(s.size:Int))=true:=by simp;omega
 refine qz ?_;go_region_held3 (fun _=>True) (go_keep) (first
  |(go_at_call 138;refine (jw _).mono ?_;rintro e w' ⟨rfl,rfl⟩)
  |(go_at_call 133;refine (Hjn.out _ _ (by (try simp only[km]);exact qe _ _ _ (by simp))).mono ?_;rintro e w' ⟨rfl,rfl⟩))
 clear e1 e2 e3 e4;go_wp2;refine bodyPost_ret (v:=.tuple #[.agg #[.int .u8 6,.string (s.extract a (a+1)),.int .i64 a],.int .i64 1,.bool true]) (by simp[results,results85,go_sem]) rfl ?_;refine⟨_,_,_,_,_,rfl,?_,?_⟩
 ·rw[Hq.out];exact⟨rfl,rfl,ur _,rfl,rfl⟩
 ·repeat (first|exact pE _ _|with_reducible apply Below.drew|with_reducible apply ye|with_reducible apply yc|with_reducible refine qo ?_ _ _ (by omega) _)
theorem zjo(s:ByteArray)(a:Nat)(w:World)(q:Option (Nat×List UInt8×Nat))(hs:s.size<=1000000000000)(ha:a<s.size)(h1:zM s[a]=false)(h2:kZ s[a]=false)(h3:zL s[a]=false)(h4:((s[a].toNat:Int) == 34)=false)
(hfit:a+2<=s.size) (hb:qO s a 2=false) (hc:qO s a 1=false) (Hq:Hid (q=none)) :
 Calls prog 85 #[.string s,.int .i64 a] w (jd q a w):=by
 have Hin:=zj (vH s a 2 hfit);have Hjn:=zj (vH s a 1 (by omega));rw[hb] at Hin;rw[hc] at Hjn;clear hb hc;go_enter func85,ntmps85;go_wp2_with (first
  |(go_at_call 130;refine (qj _ _).mono ?_;rintro e w' ⟨rfl,rfl⟩;rw[h1])
  |(go_at_call 131;refine (jP _ _).mono ?_;rintro e w' ⟨rfl,rfl⟩;rw[h2])
  |(go_at_call 135;refine (qB _ _).mono ?_;rintro e w' ⟨rfl,rfl⟩;rw[h3]))
 refine wp_loop_rounds 3 ?_;rw[rounds_succ];go_wp2_with fail;have e1:IntKind.i64.wrap ((a:Int)+2)=a+2:=pC _ (by omega);have e2:(0:Int)<=(a:Int)+2:=by omega
 have e3:((a:Int)+2).toNat=a+2:=by omega
 have e4:(a:Int)<=(a:Int)+2:=by omega
 have e5:a<=a+2:=by omega
 have e6:(a:Int)+2<=(s.size:Int):=by omega
 have e8:decide ((a:Int)+2<=(s.size:Int))=true:=by simp;omega
 refine qz ?_;go_region_held3 (fun _=>True) (go_keep) (first
  |(go_at_call 138;refine (jw _).mono ?_;rintro e w' ⟨rfl,rfl⟩)
  |(go_at_call 133;refine (Hin.out _ _ (by (try simp only[km]);exact qe _ _ _ (by simp))).mono ?_;rintro e w' ⟨rfl,rfl⟩))
 clear e1 e2 e3 e4 e5 e6 e8;go_wp2_with fail;rw[rounds_succ];go_wp2_with fail;have e1:IntKind.i64.wrap ((a:Int)+1)=a+1:=pC _ (by omega);have e2:(0:Int)<=(a:Int)+1:=by omega
 have e3:((a:Int)+1).toNat=a+1:=by omega
 have e4:(a:Int)<=(a:Int)+1:=by omega
 have e5:a<=a+1:=by omega
 have e6:(a:Int)+1<=(s.size:Int):=by omega
 have e8:decide ((a:Int)+1<=(s.size:Int))=true:=by simp;omega
 refine qz ?_;go_region_held3 (fun _=>True) (go_keep) (first
  |(go_at_call 138;refine (jw _).mono ?_;rintro e w' ⟨rfl,rfl⟩)
  |(go_at_call 133;refine (Hjn.out _ _ (by (try simp only[km]);exact qe _ _ _ (by simp))).mono ?_;rintro e w' ⟨rfl,rfl⟩))
 clear e1 e2 e3 e4;go_wp2_with fail;rw[rounds_succ];go_wp2;refine bodyPost_ret (v:=.tuple #[.agg #[.int .u8 0,.string ⟨#[]⟩,.int .i64 0],.int .i64 0,.bool false]) (by simp[results,results85,go_sem]) rfl ?_;refine⟨_,_,_,_,_,rfl,Vv _ _ _ _ _ _ Hq.out,?_⟩
 repeat (first|exact pE _ _|with_reducible apply Below.drew|with_reducible apply ye|with_reducible apply yc|with_reducible refine qo ?_ _ _ (by omega) _)
theorem zjp(s:ByteArray)(a:Nat)(w:World)(q:Option (Nat×List UInt8×Nat))(hs:s.size<=1000000000000)(ha:a<s.size)(h1:zM s[a]=false)(h2:kZ s[a]=false)(h3:zL s[a]=false)(h4:((s[a].toNat:Int) == 34)=false)
(hfit:a+1<=s.size) (hno:s.size<a+2) (hc:qO s a 1=true) (Hq:Hid (q=some (6,(s.extract a (a+1)).data.toList,1))) :
 Calls prog 85 #[.string s,.int .i64 a] w (jd q a w):=by
 have Hjn:=zj (vH s a 1 (by omega));rw[hc] at Hjn;clear hc;go_enter func85,ntmps85;go_wp2_with (first
  |(go_at_call 130;refine (qj _ _).mono ?_;rintro e w' ⟨rfl,rfl⟩;rw[h1])
  |(go_at_call 131;refine (jP _ _).mono ?_;rintro e w' ⟨rfl,rfl⟩;rw[h2])
  |(go_at_call 135;refine (qB _ _).mono ?_;rintro e w' ⟨rfl,rfl⟩;rw[h3]))
 refine wp_loop_rounds 2 ?_;rw[rounds_succ];go_wp2_with fail;have e9:IntKind.i64.wrap ((a:Int)+2)=a+2:=pC _ (by omega);have e8:decide ((a:Int)+2<=(s.size:Int))=false:=by simp;omega
 have e7:¬((a:Int)+2<=(s.size:Int)):=by omega
 have e6:s.size<a+2:=by omega
 have e5:(s.size:Int)<(a:Int)+2:=by omega
 refine qz ?_;go_quiet (fail);clear e5 e6 e7 e8 e9 hno;go_wp2_with fail;rw[rounds_succ];go_wp2_with fail;have e1:IntKind.i64.wrap ((a:Int)+1)=a+1:=pC _ (by omega);have e2:(0:Int)<=(a:Int)+1:=by omega
 have e3:((a:Int)+1).toNat=a+1:=by omega
 have e4:(a:Int)<=(a:Int)+1:=by omega
 have e5:a<=a+1:=by omega
 have e6:(a:Int)+1<=(s.size:Int):=by omega
 have e8:decide ((a:Int)+1<=(s.size:Int))=true:=by simp;omega
 refine qz ?_;go_region_held3 (fun _=>True) (go_keep) (first
  |(go_at_call 138;refine (jw _).mono ?_;rintro e w' ⟨rfl,rfl⟩)
  |(go_at_call 133;refine (Hjn.out _ _ (by (try simp only[km,ko]);exact qe _ _ _ (by simp))).mono ?_;rintro e w' ⟨rfl,rfl⟩))
 clear e1 e2 e3 e4;go_wp2;refine bodyPost_ret (v:=.tuple #[.agg #[.int .u8 6,.string (s.extract a (a+1)),.int .i64 a],.int .i64 1,.bool true]) (by simp[results,results85,go_sem]) rfl ?_;refine⟨_,_,_,_,_,rfl,?_,?_⟩
 ·rw[Hq.out];exact⟨rfl,rfl,ur _,rfl,rfl⟩
 ·repeat (first|exact pE _ _|with_reducible apply Below.drew|with_reducible apply ye|with_reducible apply yc|with_reducible refine qo ?_ _ _ (by omega) _)
theorem zjq(s:ByteArray)(a:Nat)(w:World)(q:Option (Nat×List UInt8×Nat))(hs:s.size<=1000000000000)(ha:a<s.size)(h1:zM s[a]=false)(h2:kZ s[a]=false)(h3:zL s[a]=false)(h4:((s[a].toNat:Int) == 34)=false)
(hfit:a+1<=s.size) (hno:s.size<a+2) (hc:qO s a 1=false) (Hq:Hid (q=none)) :
 Calls prog 85 #[.string s,.int .i64 a] w (jd q a w):=by
 have Hjn:=zj (vH s a 1 (by omega));rw[hc] at Hjn;clear hc;go_enter func85,ntmps85;go_wp2_with (first
  |(go_at_call 130;refine (qj _ _).mono ?_;rintro e w' ⟨rfl,rfl⟩;rw[h1])
  |(go_at_call 131;refine (jP _ _).mono ?_;rintro e w' ⟨rfl,rfl⟩;rw[h2])
  |(go_at_call 135;refine (qB _ _).mono ?_;rintro e w' ⟨rfl,rfl⟩;rw[h3]))
 refine wp_loop_rounds 3 ?_;rw[rounds_succ];go_wp2_with fail;have e9:IntKind.i64.wrap ((a:Int)+2)=a+2:=pC _ (by omega);have e8:decide ((a:Int)+2<=(s.size:Int))=false:=by simp;omega
 have e7:¬((a:Int)+2<=(s.size:Int)):=by omega
 have e6:s.size<a+2:=by omega
 have e5:(s.size:Int)<(a:Int)+2:=by omega
 refine qz ?_;go_quiet (fail);clear e5 e6 e7 e8 e9 hno;go_wp2_with fail;rw[rounds_succ];go_wp2_with fail;have e1:IntKind.i64.wrap ((a:Int)+1)=a+1:=pC _ (by omega);have e2:(0:Int)<=(a:Int)+1:=by omega
 have e3:((a:Int)+1).toNat=a+1:=by omega
 have e4:(a:Int)<=(a:Int)+1:=by omega
 have e5:a<=a+1:=by omega
 have e6:(a:Int)+1<=(s.size:Int):=by omega
 have e8:decide ((a:Int)+1<=(s.size:Int))=true:=by simp;omega
 refine qz ?_;go_region_held3 (fun _=>True) (go_keep) (first
  |(go_at_call 138;refine (jw _).mono ?_;rintro e w' ⟨rfl,rfl⟩)
  |(go_at_call 133;refine (Hjn.out _ _ (by (try simp only[km,ko]);exact qe _ _ _ (by simp))).mono ?_;rintro e w' ⟨rfl,rfl⟩))
 clear e1 e2 e3 e4;go_wp2_with fail;rw[rounds_succ];go_wp2;refine bodyPost_ret (v:=.tuple #[.agg #[.int .u8 0,.string ⟨#[]⟩,.int .i64 0],.int .i64 0,.bool false]) (by simp[results,results85,go_sem]) rfl ?_;refine⟨_,_,_,_,_,rfl,Vv _ _ _ _ _ _ Hq.out,?_⟩
 repeat (first|exact pE _ _|with_reducible apply Below.drew|with_reducible apply ye|with_reducible apply yc|with_reducible refine qo ?_ _ _ (by omega) _)
theorem zb1(s:ByteArray)(a:Nat)(w:World)(hs:s.size<=1000000000000)(ha:a<s.size)(h1:zM s[a]=false)(h2:kZ s[a]=false)(h3:zL s[a]=false)(hne:s[a]≠34):
 Calls prog 85 #[.string s,.int .i64 a] w (jd (xd (s.data.toList.drop a)) a w):=by
 have h4:((s[a].toNat:Int) == 34)=false:=by rw[pA,ne_eq,c34];exact hne
 have hq:=zbJ s a ha h1 h2 h3 hne;by_cases hfit:a+2<=s.size
 ·cases hb:qO s a 2 with
  |true=>rw[hb] at hq;exact zkW s a w _ hs ha h1 h2 h3 h4 hfit hb (zj hq)
  |false=>
   rw[hb] at hq;cases hc:qO s a 1 with
   |true=>rw[hc] at hq;exact zjn s a w _ hs ha h1 h2 h3 h4 hfit hb hc (zj hq)
   |false=>rw[hc] at hq;exact zjo s a w _ hs ha h1 h2 h3 h4 hfit hb hc (zj hq)
 ·have hb:qO s a 2=false:=by simp[qO,hfit]
  rw[hb] at hq;cases hc:qO s a 1 with
  |true=>rw[hc] at hq;exact zjp s a w _ hs ha h1 h2 h3 h4 (by omega) (by omega) hc (zj hq)
  |false=>rw[hc] at hq;exact zjq s a w _ hs ha h1 h2 h3 h4 (by omega) (by omega) hc (zj hq)
theorem YD(s:ByteArray)(a:Nat)(w:World)(hs:s.size<=1000000000000)(ha:a<s.size):
 Calls prog 85 #[.string s,.int .i64 a] w (jd (xd (s.data.toList.drop a)) a w):=by
 by_cases h1:zM s[a]=true
 ·exact zaK s a w hs ha h1
 ·have h1:zM s[a]=false:=by simpa using h1
  by_cases h2:kZ s[a]=true
  ·exact zdu s a w hs ha h1 h2
  ·have h2:kZ s[a]=false:=by simpa using h2
   by_cases h3:zL s[a]=true
   ·exact zaM s a w hs ha h1 h2 h3
   ·have h3:zL s[a]=false:=by simpa using h3
    by_cases h4:s[a]=34
    ·exact zaL s a w hs ha h4
    ·exact zb1 s a w hs ha h1 h2 h3 h4
end
end Go.Proofs.YtcagibbaeageoaaGreatDoor
