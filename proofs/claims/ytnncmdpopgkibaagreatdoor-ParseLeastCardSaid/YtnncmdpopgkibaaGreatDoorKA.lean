/-
  A part of the proof: contracts of functions; no conditions.
-/
import Derived.Lib.AtoiAll
import Derived.Lib.ItoaNum
import GoSem.Op.String
import Derived.Lib.LastIndexByte
import Derived.Lib.Bytealg
import Derived.WalkKit
import Derived.WalkLawsBesides
import Derived.WalkSpells
import Derived.Lib.ConvBytes
import Derived.Shelf.Abstract
import Derived.Deep.RegionWith
import Derived.Deep.Light
import Derived.Deep.QuietTactic
import Derived.BigQuiet
import Derived.Test.YtnncmdpopgkibaaGreatDoorProg
import Derived.Shelf.Strings.Builder1
import Derived.Shelf.Strings.Builder2
import Derived.Shelf.Strings.OnBuilder
import Derived.Shelf.Small.Strs
import Derived.Shelf.Small.Wraps
import Derived.Shelf.Strings.BuilderF
import Derived.Shelf.Strconv.Atoi
import Derived.Shelf.Strconv.Itoa0
import Derived.Shelf.Strconv.Itoa1
import Derived.Shelf.LaysM
import Derived.Shelf.Strconv.Itoa2
import Derived.Shelf.Strconv.Itoa3
import Derived.Shelf.Strconv.AtoiErrFast
import Derived.Shelf.Strconv.ParseIntEmpty
import Derived.Shelf.Strconv.AtoiFail
import Derived.Shelf.Strconv.Clone
import Derived.Shelf.Strconv.SyntaxError
import Derived.Shelf.LaysC
import Derived.Shelf.Strconv.ToError
import Derived.Shelf.Strconv.Lower
import Derived.Shelf.Strconv.ParseUint10
import Derived.Shelf.Strconv.ParseUint10Empty
import Derived.Shelf.Strconv.ParseUint10Any
import Derived.Shelf.Strconv.ParseInt10
import Derived.Shelf.Strconv.AtoiLong
import Derived.Shelf.Strconv.AtoiInnerAll
import Derived.Shelf.Strconv.RangeError
import Derived.Shelf.Strconv.ToErrorRange
import Derived.Shelf.Strconv.AtoiAll
import Derived.Shelf.Strconv.ErrVarAll
import Derived.Shelf.Strings.Search1
import Derived.Shelf.Strings.Search2
import Derived.Shelf.Strings.Search3
import Derived.Shelf.Strings.Shaped
import Derived.Shelf.Strings.Prefix
import Derived.Shelf.Strings.Fields
import Derived.Shelf.Strings.SplitShaped
import Derived.Shelf.Unicode.Latin
import Derived.Shelf.Bits.Mul64
import Derived.Shelf.Unicode.Is16White
import Derived.Shelf.Unicode.IsSpaceAny
import Derived.Shelf.Unicode.Is16Any
import Derived.Shelf.Unicode.Is32Any
import Derived.Shelf.Unicode.ExclAny
import Derived.Shelf.Slices.Turned
import Derived.Shelf.Slices.Reverse
import Derived.Shelf.Slices.Equal
import Derived.Ground.Names2Prog
import Derived.Shelf.Slices.Clone
import Derived.Shelf.Slices.Cells
import Derived.Shelf.Slices.Empties2
import Derived.Ground.SlgnProg
import Derived.Shelf.SlicesE.Index
import Derived.Shelf.SlicesE.Clone
import Derived.Deep.RegionHeld3
import Derived.Deep.DrawnRows
import Derived.Deep.AppendLies
import Derived.Maps.Range
import Derived.WalkMore
import Derived.Deep.LoopGhost
import Derived.Lib.AppendIntMem
set_option maxRecDepth 100000
set_option maxHeartbeats 40000000
set_option linter.unusedSimpArgs false
set_option linter.unusedVariables false
theorem exE{α:Sort _}(x:α):∃y,x=y:=⟨x,rfl⟩
theorem bfE{α:Type _}[BEq α][LawfulBEq α]{a b:α}(h:a≠b):(a==b)=false:=beq_eq_false_iff_ne.2 h
theorem gtA{α:Type _}{xs:Array α}{i:Nat}{a:α}(h:xs[i]?=some a):i<xs.size:=(Array.getElem?_eq_some_iff.1 h).1
theorem gtL{α:Type _}{xs:List α}{i:Nat}{a:α}(h:xs[i]?=some a):i<xs.length:=(List.getElem?_eq_some_iff.1 h).1
theorem glE{α:Type _}{xs:List α}{i:Nat}(h:i<xs.length):xs[i]?=some xs[i]:=List.getElem?_eq_getElem h
theorem pA:type_of% @List.getD_eq_getElem?_getD:=@List.getD_eq_getElem?_getD
theorem pB:type_of% @beq_eq_false_iff_ne:=@beq_eq_false_iff_ne
theorem pC:type_of% @List.length_append:=@List.length_append
theorem pE:type_of% @Nat.le_refl:=@Nat.le_refl
theorem pG:type_of% @Bool.and_eq_true:=@Bool.and_eq_true
theorem pH:type_of% @decide_eq_true_eq:=@decide_eq_true_eq
theorem pI:type_of% @List.length_singleton:=@List.length_singleton
theorem pK:type_of% @List.length_cons:=@List.length_cons
theorem pM:type_of% @List.eq_nil_of_length_eq_zero:=@List.eq_nil_of_length_eq_zero
theorem pP:type_of% @Int.eq_ofNat_of_zero_le:=@Int.eq_ofNat_of_zero_le
theorem pN:type_of% @Nat.le_trans:=@Nat.le_trans
theorem pO:type_of% @List.all_eq_true:=@List.all_eq_true
theorem pR:type_of% @List.length_nil:=@List.length_nil
theorem pS:type_of% @beq_iff_eq:=@beq_iff_eq
theorem pQ:type_of% @Option.some.injEq:=@Option.some.injEq
theorem pU:type_of% @Nat.zero_le:=@Nat.zero_le
theorem pT:type_of% @List.cons_append:=@List.cons_append
theorem pW:type_of% @Bool.eq_iff_iff:=@Bool.eq_iff_iff
theorem pV:type_of% @List.getElem?_toArray:=@List.getElem?_toArray
theorem pY:type_of% @List.mem_cons_of_mem:=@List.mem_cons_of_mem
theorem pX:type_of% @List.mem_append:=@List.mem_append
theorem pZ:type_of% @List.getElem?_map:=@List.getElem?_map
theorem wD:type_of% @List.mem_cons:=@List.mem_cons
theorem wC:type_of% @List.getElem_mem:=@List.getElem_mem
theorem wE:type_of% @Int.toNat_natCast:=@Int.toNat_natCast
theorem wF:type_of% @Bool.or_eq_true:=@Bool.or_eq_true
theorem wG:type_of% @Nat.not_lt_zero:=@Nat.not_lt_zero
theorem wK:type_of% @List.mem_of_getElem?:=@List.mem_of_getElem?
theorem wH:type_of% @List.not_mem_nil:=@List.not_mem_nil
theorem wI:type_of% @Nat.lt_of_lt_of_le:=@Nat.lt_of_lt_of_le
theorem wJ:type_of% @List.nil_append:=@List.nil_append
theorem wL:type_of% @List.mem_singleton:=@List.mem_singleton
theorem wM:type_of% @List.getElem?_append_right:=@List.getElem?_append_right
theorem wN:type_of% @List.append_nil:=@List.append_nil
theorem wO:type_of% @decide_eq_false_iff_not:=@decide_eq_false_iff_not
theorem wP:type_of% @List.getElem?_eq_none:=@List.getElem?_eq_none
theorem wQ:type_of% @List.getElem?_append_left:=@List.getElem?_append_left
theorem wU:type_of% @List.length_take:=@List.length_take
theorem wR:type_of% @decide_eq_false:=@decide_eq_false
theorem wS:type_of% @List.append_assoc:=@List.append_assoc
theorem wT:type_of% @bne_iff_ne:=@bne_iff_ne
theorem wV:type_of% @List.length_map:=@List.length_map
theorem wY:type_of% @List.mem_reverse:=@List.mem_reverse
theorem wW:type_of% @List.length_drop:=@List.length_drop
theorem wX:type_of% @decide_eq_true:=@decide_eq_true
theorem wZ:type_of% @List.take_add_one:=@List.take_add_one
theorem gB:type_of% @List.length_reverse:=@List.length_reverse
theorem gC:type_of% @List.any_eq_true:=@List.any_eq_true
theorem gE:type_of% @List.getElem?_eq_some_iff:=@List.getElem?_eq_some_iff
theorem gD:type_of% @bne_eq_false_iff_eq:=@bne_eq_false_iff_eq
theorem bR{B:Nat}{w:Go.World}:Go.RowKit.Below B w w:=Go.RowKit.Below.refl _ _
theorem pF:type_of% @Go.RowKit.Below.refl:=@Go.RowKit.Below.refl
theorem pJ:type_of% @Go.IntWalk.i64_in:=@Go.IntWalk.i64_in
namespace Lode
def jW(c:UInt8):Bool:=(decide (32<=c.toNat) && decide (c.toNat<=126)) || c.toNat == 10
def yg(c:UInt8):Bool:=decide (97<=c.toNat) && decide (c.toNat<=122)
def YQ(c:UInt8):Bool:=decide (65<=c.toNat) && decide (c.toNat<=90)
def yf(c:UInt8):Bool:=decide (48<=c.toNat) && decide (c.toNat<=57)
def xU(p:UInt8->Bool):List UInt8->Option Nat
 |[]=>none
 |c :: r=>if p c then some 0 else (xU p r).map (· +1)
def zbm:Option Nat->Int
 |none=> -1
 |some k=>k
def qr(s:List UInt8):Nat×Nat:=
 if 3000<s.length then (3000,5) else
 match xU (fun c=> !jW c) s with
 |some i=>(i,4)
 |none=>(0,0)
def yc(p:UInt8->Bool):List UInt8->Nat
 |[]=>0
 |c :: r=>if p c then yc p r+1 else 0
def zI:Bool->List UInt8->Nat
 |_,[]=>0
 |cm,c :: r=>if c=10 then zI false r+1 else if c=35 then zI true r+1 else if c=32\/cm=true then zI cm r+1 else 0
def vW:List UInt8->Option (List UInt8×Nat)
 |[]=>none
 |c :: r=>
  if c.toNat<32\/126<c.toNat then none
  else if c=34 then some ([],1)
  else if c=92 then
   match r with
   |[]=>none
   |d :: r'=>if d=34\/d=92 then (vW r').map fun x=>(d :: x.1,x.2+2) else if d=110 then (vW r').map fun x=>(10 :: x.1,x.2+2) else none
  else (vW r).map fun x=>(c :: x.1,x.2+1)
def xP(s:List UInt8):Option (List UInt8×Nat):=
 match vW (s.drop 1) with
 |some (t,n)=>if t.length<=60 then some (t,n+1) else none
 |none=>none
def qx:List (List UInt8):=[[97,110,100],[97,115],[98,111,111,108],[98,121,116,101],[99,97,116,99,104],[99,104,97,110],[99,108,97,115,115],[99,111,108,108,101,99,116],[99,117,116],[101,108,115,101],[101,120,116,101,114,110],[102,97,108,115,101],[102,110],[102,117,110],[104,111,108,100],[105,102],[105,110],[105,110,116],[105,115],[107,105,110,100],[108,101,116],[109,97,116,99,104],[110,101,119],[110,111,116],[111,114],[111,117,116],[112,117,114,101],[114,101,97,100],[114,101,99,118],[114,111,111,116],[115,101,108,101,99,116],[115,101,110,100],[115,104,111,119],[115,105,122,101],[115,112,97,119,110],[116,101,120,116],[116,104,114,111,119],[116,114,117,101],[116,114,121],[117,110,105,116],[118,97,114],[119,101,97,107],[119,104,105,108,101],[121,105,101,108,100]]
def zT:List (List UInt8):=[[58,61],[61,62],[61,61],[33,61],[60,61],[62,61],[43,43],[43],[45],[42],[47],[37],[60],[62],[61],[40],[41],[91],[93],[123],[125],[44],[58],[59],[46]]
def xR(l:List UInt8):Nat:=l.foldl (fun a c=>10*a+(c.toNat-48)) 0
def ur(l:List UInt8):Bool:= !l.isEmpty && l.all yf && decide (xR l<=1000000000) && (decide (l.length=1) || !(l.head? == some 48))
def yL:List UInt8->List UInt8->Bool
 |[],_=>true
 |_ :: _,[]=>false
 |a :: l,b :: m=>decide (a=b) && yL l m
def yM(s:List UInt8):Option (Nat×List UInt8×Nat):=
 match s with
 |[]=>none
 |c :: r=>
  if yg c then
   let n:=1+yc (fun c=>yg c || yf c) r
   if n<=12 then some (if qx.contains (s.take n) then 5 else 1,s.take n,n) else none
  else if YQ c then
   let n:=1+yc (fun c=>yg c || yf c) r
   if n<=12 then some (2,s.take n,n) else none
  else if yf c then
   let n:=1+yc yf r
   if ur (s.take n) then some (3,s.take n,n) else none
  else if c=34 then (xP s).map fun x=>(4,x.1,x.2)
  else (zT.find? fun g=>yL g s).map fun g=>(6,g,g.length)
structure yp where
 kind:Nat
 text:List UInt8
 at_:Int
 deriving DecidableEq,Inhabited
def kU:Nat->Nat->Nat->List UInt8->List yp×Nat×Nat
 |0,_,_,_=>([],0,0)
 |fuel+1,n,at_,r=>
  let g:=zI false r
  match r.drop g with
  |[]=>([],0,0)
  |r1=>
   match yM r1 with
   |none=>([],at_+g,4)
   |some (k,t,m)=>
    if n=1200 then ([],at_+g,5) else
    let x:=kU fuel (n+1) (at_+g+m) (r1.drop m)
    if x.2.2=0 then (⟨k,t,(at_+g:Nat)⟩ :: x.1,0,0) else ([],x.2)
def yQ(s:List UInt8):List yp×Nat×Nat:=
 if (qr s).2≠0 then ([],qr s) else kU (s.length+1) 0 0 s
def zcb(s:List UInt8)(at_:Nat):Nat×Nat:=(s.take at_).foldl (fun p c=>if c=10 then (p.1+1,1) else (p.1,p.2+1)) (1,1)
def zV(c:UInt8):List UInt8:=if c=10 then [92,110] else if c=34\/c=92 then [92,c] else [c]
def qA(s:List UInt8):List UInt8×Nat:=
 if 60<s.length then ([],5) else if s.all jW then ([34] ++ s.flatMap zV ++ [34],0) else ([],4)
def yW(a:Nat)(l:List UInt8):Nat:=l.foldl (fun a c=>10*a+(c.toNat-48)) a
theorem VV(l:List UInt8):xR l=yW 0 l:=by unfold xR yW;exact rfl
theorem vV(a:Nat)(c:UInt8)(l:List UInt8):yW a (c :: l)=yW (10*a+(c.toNat-48)) l:=by simp only[yW,List.foldl_cons]
theorem QD(l:List UInt8):∀(a:Nat),yW a l=a*10 ^ l.length+yW 0 l:=by
 induction l with
 |nil=>intro a;simp[yW]
 |cons c l ih=>
  intro a;have h1:=ih (10*a+(c.toNat-48));have h2:=ih (10*0+(c.toNat-48));rw[vV,vV,h1,h2,pK,Nat.pow_succ];clear ih h1 h2;generalize 10 ^ l.length=p;generalize c.toNat-48=d;generalize yW 0 l=v;have:a*(p*10)=10*a*p:=by rw[Nat.mul_comm p 10,<-Nat.mul_assoc,Nat.mul_comm a 10]
  rw[this,Nat.add_mul,Nat.add_mul,Nat.mul_zero,Nat.zero_mul,Nat.zero_add,Nat.add_assoc]
theorem zaG(a:Nat)(l:List UInt8)(c:UInt8):yW a (l ++ [c])=10*yW a l+(c.toNat-48):=by simp[yW]
theorem Zn(c:UInt8):yf c=true↔48<=c.toNat/\c.toNat<=57:=by simp[yf]
theorem zg4(c:UInt8)(l:List UInt8)(h:49<=c.toNat):10 ^ l.length<=yW 0 (c :: l):=by
 rw[vV,QD];have:1*10 ^ l.length<=(10*0+(c.toNat-48))*10 ^ l.length:=Nat.mul_le_mul_right _ (by omega);omega
theorem Vy:∀(n:Nat) (l:List UInt8),l.length=n->l≠[]->l.all yf=true->(l.length=1\/l.head? ≠some 48)->Go.Lib.decDigits (yW 0 l)=l:=by
 intro n;induction n with
 |zero=>intro l hl h0;exact absurd (pM hl) h0
 |succ n ih=>
  intro l hl h0 hd hh;obtain⟨m,c,rfl⟩:∃m c,l=m ++ [c]:=⟨l.dropLast,l.getLast h0,(List.dropLast_concat_getLast h0).symm⟩;simp only[List.all_append,List.all_cons,List.all_nil,Bool.and_true,pG] at hd;have hc:=(Zn c).1 hd.2;have hcc:UInt8.ofNat (48+(c.toNat-48))=c:=by rw[show 48+(c.toNat-48)=c.toNat from by omega];simp
  rw[zaG];cases m with
  |nil=>
   rw[Go.Lib.decDigits,dif_pos (by simp[yW];omega)];simp[yW,hcc]
  |cons a m=>
   have hh':(a :: m).head? ≠some 48:=by
    rcases hh with h|h
    ·simp at h
    ·simpa using h
   have ha:49<=a.toNat:=by
    have h1:=(Zn a).1 (by simp only[List.all_cons,pG] at hd;exact hd.1.1);rcases Nat.lt_or_ge 48 a.toNat with h|h
    ·exact h
    ·exfalso;apply hh';simp;apply UInt8.toNat_inj.1;simp;omega
   have hge:=zg4 a m ha;have hpos:1<=10 ^ m.length:=Nat.pow_pos (by decide);rw[Go.Lib.decDigits,dif_neg (by omega)];rw[show (10*yW 0 (a :: m)+(c.toNat-48)) / 10=yW 0 (a :: m) by omega,show (10*yW 0 (a :: m)+(c.toNat-48)) % 10=c.toNat-48 by omega,hcc];rw[ih (a :: m) (by simpa using hl) (by simp) hd.1 (.inr hh')]
theorem KQ:∀(n u:Nat),u<=n->1<=u->(Go.Lib.decDigits u).head? ≠some 48:=by
 intro n;induction n with
 |zero=>intro u h1 h2;omega
 |succ n ih=>
  intro u h1 h2;rw[Go.Lib.decDigits];split
  ·simp;intro h;have:=congrArg UInt8.toNat h;simp at this;omega
  ·have h3:=ih (u / 10) (by omega) (by omega);cases hx:Go.Lib.decDigits (u / 10) with
   |nil=>rw[Go.Lib.decDigits] at hx;split at hx <;> simp at hx
   |cons a m=>rw[hx] at h3;simpa using h3
theorem KO(u:Nat)(h:1<(Go.Lib.decDigits u).length):(Go.Lib.decDigits u).head? ≠some 48:=by
 rcases Nat.lt_or_ge u 10 with h1|h1
 ·rw[Go.Lib.decDigits,dif_pos h1] at h;simp at h
 ·exact KQ u u (pE _) (by omega)
theorem XC:∀(l:List UInt8) (a:Nat),l.all yf=true->a<18446744073709551616->Go.Lib.parseUint10 a l=if yW a l<18446744073709551616 then .ok (yW a l) else .range
 |[],a,_,h=>by simp[Go.Lib.parseUint10,yW,h]
 |c :: l,a,hd,h=>by
  simp only[List.all_cons,pG] at hd;have hc:=(Zn c).1 hd.1;have hbig:∀b,b<=yW b l:=fun b=>by
   rw[QD];have:1<=10 ^ l.length:=Nat.pow_pos (by decide);have:=Nat.mul_le_mul_left b this;omega
  rw[Go.Lib.parseUint10,if_pos hc,vV];have hb:=hbig (10*a+(c.toNat-48));by_cases h1:1844674407370955162<=a
  ·rw[if_pos h1,if_neg (by omega)]
  ·rw[if_neg h1];by_cases h2:18446744073709551616<=a*10+(c.toNat-48)
   ·rw[if_pos h2,if_neg (by omega)]
   ·rw[if_neg h2,XC l _ hd.2 (by omega),show a*10+(c.toNat-48)=10*a+(c.toNat-48) by omega]
theorem Jd(l:List UInt8)(h0:l≠[])(hd:l.all yf=true):
 Go.Lib.atoiAll l=if xR l<9223372036854775808 then .ok (xR l) else .range:=by
 cases l with
 |nil=>exact absurd rfl h0
 |cons c r=>
  have hc:=(Zn c).1 (by simp only[List.all_cons,pG] at hd;exact hd.1);unfold Go.Lib.atoiAll;simp only[];rw[if_neg (by omega)];unfold Go.Lib.parseMag;rw[if_neg (by simp),XC _ 0 hd (by omega),VV];by_cases h1:yW 0 (c :: r)<9223372036854775808
  ·rw[if_pos (by omega),if_pos h1];simp only[];rw[if_neg (by omega),if_neg (by omega),if_neg (by omega)]
  ·rw[if_neg h1];by_cases h2:yW 0 (c :: r)<18446744073709551616
   ·rw[if_pos h2];simp only[];rw[if_pos (by omega)]
   ·rw[if_neg h2]
theorem zd9(l:List UInt8)(h0:l≠[])(hd:l.all yf=true):ur l=(decide (xR l<=1000000000) && decide (Go.Lib.itoa (xR l)=l)):=by
 have e:Go.Lib.itoa (xR l)=Go.Lib.decDigits (xR l):=by unfold Go.Lib.itoa;rw[if_neg (by omega)];simp
 rw[e];unfold ur;have e0:l.isEmpty=false:=by cases l <;> simp_all
 rw[e0,hd];simp only[Bool.not_false,Bool.true_and,Bool.and_true];congr 1;rw[pW];simp only[wF,pH,Bool.not_eq_true',pB];constructor
 ·intro h;exact Vy _ l rfl h0 hd h
 ·intro h;rcases Nat.lt_or_ge 1 l.length with h1|h1
  ·right;rw[<-h] at h1 ⊢;exact KO _ h1
  ·left;have:l.length≠0:=fun h=>h0 (pM h);omega
section
open Go Go.RowKit
theorem zi{p:Prop}(h:p):Hid p:=h
structure XR(P:Program)(g:Nat)(lb:Array Value)(p:UInt8->Bool)(w:World):Prop where
 eg:∀args w,(callFunc g args).run P w=.ok (.enter g args) w
 calls:∀(W:World) (c:UInt8),Below w.heap.size w W->Calls P g (#[.int .u8 (c.toNat:Int)] ++ lb) W fun e W'=>e=.returned (.bool (p c))/\Below W.heap.size W W'
theorem Yi(p:UInt8->Bool):∀(l:List UInt8) (k:Nat),(∀j,j<k->p (l.getD j 0)=false)->k<=l.length->xU p l=(xU p (l.drop k)).map (· +k)
 |l,0,_,_=>by simp
 |[],k+1,_,h=>by simp at h
 |c :: r,k+1,h,hk=>by
  have h0:p c=false:=h 0 (by omega);have:=Yi p r k (fun j hj=>h (j+1) (by omega)) (by simpa using hk);simp only[xU,h0,List.drop_succ_cons,Bool.false_eq_true,if_false];rw[this];simp[Option.map_map,Function.comp_def];rfl
theorem zg{w w1 w2:World}(h:Below w.heap.size w w1)(k:Below w1.heap.size w1 w2):Below w.heap.size w w2:=h.trans (k.mono h.size)
theorem zf(w:World)(o:Obj):Below w.heap.size w (w.alloc o):=bR.alloc (pE _) _
theorem uM(w:World)(e:TypeId)(s:ByteArray):Below w.heap.size w (Lib.bytesWorld w e s):=
 ⟨rfl,rfl,rfl,by rw[Lib.bytesWorld_size];omega,fun k hk=>Lib.bytesWorld_at_old w e s k hk⟩
theorem JA(c:UInt8)(n:Nat)(h:n<256):(c.toNat=n)=(c=UInt8.ofNat n):=by
 rw[eq_iff_iff];constructor
 ·intro e;subst e;simp
 ·intro e;subst e;simp;omega
theorem kf(s:ByteArray)(k:Nat)(h:k<s.size):s.data.toList.drop k=s[k] :: s.data.toList.drop (k+1):=by
 have h':k<s.data.toList.length:=by simpa using h
 rw[List.drop_eq_getElem_cons h'];simp;rfl
theorem YB(s:ByteArray)(k:Nat)(h:s.size<=k):s.data.toList.drop k=[]:=by
 simp;exact h
theorem zbs(c:UInt8):jW c=true↔((32<=(c.toNat:Int)/\(c.toNat:Int)<=126)\/(c.toNat:Int)=10):=by
 unfold jW;simp;omega
theorem Qs(c:UInt8)(cm:Bool)(r:List UInt8):zI cm (c :: r)=if (c.toNat:Int)=10 then zI false r+1 else if (c.toNat:Int)=35 then zI true r+1 else if (c.toNat:Int)=32\/cm=true then zI cm r+1 else 0:=by
 have e1:(c=10)=((c.toNat:Int)=10):=by rw[show ((c.toNat:Int)=10)=(c.toNat=10) from by simp;omega,JA c 10 (by omega)];rfl
 have e2:(c=35)=((c.toNat:Int)=35):=by rw[show ((c.toNat:Int)=35)=(c.toNat=35) from by simp;omega,JA c 35 (by omega)];rfl
 have e3:(c=32)=((c.toNat:Int)=32):=by rw[show ((c.toNat:Int)=32)=(c.toNat=32) from by simp;omega,JA c 32 (by omega)];rfl
 simp only[zI,e1,e2,e3]
section
variable {n k:Nat} {cm:Bool} {c:UInt8} {r:List UInt8}
theorem zia(h:n=k+zI cm (c :: r))(a:((c.toNat:Int) == 10)=true):n=(k+1)+zI false r:=by rw[Qs,if_pos (by simpa using a)] at h;omega
theorem zai(h:n=k+zI cm (c :: r))(a:((c.toNat:Int) == 10)=false)(b:((c.toNat:Int) == 35)=false)(d:(c.toNat:Int)=32):n=(k+1)+zI cm r:=by
 rw[Qs,if_neg (by simpa using a),if_neg (by simpa using b),if_pos (.inl d)] at h;omega
theorem zft(h:n=k+zI cm (c :: r))(a:((c.toNat:Int) == 10)=false)(b:((c.toNat:Int) == 35)=false)(d:((c.toNat:Int) != 32)=true/\(!cm)=true):n=k:=by
 rw[Qs,if_neg (by simpa using a),if_neg (by simpa using b),if_neg (by simpa using d)] at h;omega
end
theorem ceq(c:UInt8)(n:Nat)(hn:n<256):(((c.toNat:Int))=n)=(c=UInt8.ofNat n):=by
 rw[<-JA c n hn];simp only[eq_iff_iff];omega
theorem c34(c:UInt8):((c.toNat:Int)=34)=(c=34):=ceq c 34 (by omega)
theorem c92(c:UInt8):((c.toNat:Int)=92)=(c=92):=ceq c 92 (by omega)
theorem zlu(c:UInt8):((c.toNat:Int)=110)=(c=110):=ceq c 110 (by omega)
theorem c10(c:UInt8):((c.toNat:Int)=10)=(c=10):=ceq c 10 (by omega)
theorem Yj(s:ByteArray)(i:Nat)(h:i<s.size):(s.extract i (i+1)).data.toList=[s[i]]:=by
 have:=kf s i h;simp only[ByteArray.data_extract,Array.toList_extract,List.extract_eq_take_drop];rw[this];simp
theorem zq(a b:ByteArray):(a ++ b).data.toList=a.data.toList ++ b.data.toList:=by simp
theorem uj(c:UInt8)(r:List UInt8):vW (c :: r)=if c.toNat<32\/126<c.toNat then none else if c=34 then some ([],1) else if c=92 then
 (match r with
 |[]=>none
 |d :: r'=>if d=34\/d=92 then (vW r').map fun x=>(d :: x.1,x.2+2) else if d=110 then (vW r').map fun x=>(10 :: x.1,x.2+2) else none)
 else (vW r).map fun x=>(c :: x.1,x.2+1):=by
 rw[vW.eq_def]
 first|done|rfl
def zja:Option (List UInt8×Nat)->Option (List UInt8×Nat)
 |some (t,n)=>if t.length<=60 then some (t,n+1) else none
 |none=>none
theorem zgi(s:List UInt8):xP s=zja (vW (s.drop 1)):=by
 unfold xP zja;cases vW (s.drop 1) <;> rfl
def ziF(q:Option (List UInt8×Nat))(n:Int)(t:ByteArray)(ok:Bool):Prop:=
 match q with
 |some (t',n')=>ok=true/\n=n'/\t=⟨t'.toArray⟩
 |none=>ok=false
def uA(s:ByteArray)(a k:Nat)(ob:ByteArray)(q:Option (List UInt8×Nat)):Prop:=
 q=zja ((vW (s.data.toList.drop (a+1+k))).map fun x=>(ob.data.toList ++ x.1,k+x.2))
theorem uA.start(s:ByteArray)(a:Nat):uA s a 0 ByteArray.empty (xP (s.data.toList.drop a)):=by
 unfold uA;rw[zgi,List.drop_drop];cases vW (s.data.toList.drop (a+1)) <;> simp
section
variable {s:ByteArray} {a k:Nat} {ob:ByteArray} {q:Option (List UInt8×Nat)}
theorem zaV(h:uA s a k ob q)(e:vW (s.data.toList.drop (a+1+k))=none):q=none:=by
 unfold uA at h;rw[e] at h;exact h
theorem zll(h:uA s a k ob q)(he:s.size<=a+1+k):q=none:=zaV h (by rw[YB s _ he];rfl)
theorem zlm(h:uA s a k ob q)(hlt:a+1+k<s.size)(b:(s[a+1+k].toNat:Int)<32):q=none:=zaV h (by rw[kf s _ hlt,uj,if_pos (by omega)])
theorem zjc(h:uA s a k ob q)(hlt:a+1+k<s.size)(b1:32<=(s[a+1+k].toNat:Int))(b2:(s[a+1+k].toNat:Int)<=126)(b3:((s[a+1+k].toNat:Int) == 34)=true)(n:Int)(hn:n=k+2):
 ziF q n ob (decide ((ob.size:Int)<=60)):=by
 have e:vW (s.data.toList.drop (a+1+k))=some ([],1):=by
  rw[kf s _ hlt,uj,if_neg (by omega),if_pos (by rw[pS,c34] at b3;exact b3)]
 unfold uA at h;rw[e] at h;simp only[Option.map_some,zja,wN] at h;subst h;by_cases hl:ob.size<=60
 ·rw[if_pos (by simpa using hl)];exact⟨by simp;omega,by omega,rfl⟩
 ·rw[if_neg (by simpa using hl)];show _=_
  simp;omega
theorem zjb(h:uA s a k ob q)(hlt:a+1+k<s.size)(b1:32<=(s[a+1+k].toNat:Int))(b2:(s[a+1+k].toNat:Int)<=126)(b3:((s[a+1+k].toNat:Int) == 34)=false)(b4:((s[a+1+k].toNat:Int) != 92)=true):
 uA s a (k+1) (ob ++ s.extract (a+1+k) (a+1+k+1)) q:=by
 unfold uA at *;rw[h,kf s _ hlt,uj,if_neg (by omega),if_neg (by rw[pB,ne_eq,c34] at b3;exact b3),if_neg (by rw[wT,ne_eq,c92] at b4;exact b4),zq,Yj s _ hlt];cases vW (s.data.toList.drop (a+1+k+1)) <;> simp[Nat.add_assoc,Nat.add_comm 1,Option.map]
theorem zgj(h:uA s a k ob q)(hlt:a+1+k<s.size)(b1:32<=(s[a+1+k].toNat:Int))(b2:(s[a+1+k].toNat:Int)<=126)(b3:((s[a+1+k].toNat:Int) == 34)=false)(b4:((s[a+1+k].toNat:Int) != 92)=false)(he:s.size<=a+1+k+1):q=none:=
 zaV h (by
  rw[kf s _ hlt,uj,if_neg (by omega),if_neg (by rw[pB,ne_eq,c34] at b3;exact b3),if_pos (by rw[gD,c92] at b4;exact b4),YB s _ he])
theorem zln(h:uA s a k ob q)(hlt:a+1+k<s.size)(b1:32<=(s[a+1+k].toNat:Int))(b2:(s[a+1+k].toNat:Int)<=126)(b3:((s[a+1+k].toNat:Int) == 34)=false)(b4:((s[a+1+k].toNat:Int) != 92)=false)(h2:a+1+k+1<s.size)
 (b5:(s[a+1+k+1].toNat:Int)=34\/(s[a+1+k+1].toNat:Int)=92):uA s a (k+2) (ob ++ s.extract (a+1+k+1) (a+1+k+1+1)) q:=by
 unfold uA at *;rw[h,kf s _ hlt,uj,if_neg (by omega),if_neg (by rw[pB,ne_eq,c34] at b3;exact b3),if_pos (by rw[gD,c92] at b4;exact b4),zq,Yj s _ h2,kf s _ h2];simp only[];rw[if_pos (by rw[c34,c92] at b5;exact b5)];rw[show a+1+k+1+1=a+1+(k+2) by omega];cases vW (s.data.toList.drop (a+1+(k+2))) <;> simp[Nat.add_assoc,Nat.add_comm 2]
theorem zkC(h:uA s a k ob q)(hlt:a+1+k<s.size)(b1:32<=(s[a+1+k].toNat:Int))(b2:(s[a+1+k].toNat:Int)<=126)(b3:((s[a+1+k].toNat:Int) == 34)=false)(b4:((s[a+1+k].toNat:Int) != 92)=false)(h2:a+1+k+1<s.size)
 (b5:(s[a+1+k+1].toNat:Int)≠34/\(s[a+1+k+1].toNat:Int)≠92) (b6:(s[a+1+k+1].toNat:Int)=110):uA s a (k+2) (ob ++ ⟨#[10]⟩) q:=by
 unfold uA at *;rw[h,kf s _ hlt,uj,if_neg (by omega),if_neg (by rw[pB,ne_eq,c34] at b3;exact b3),if_pos (by rw[gD,c92] at b4;exact b4),zq,kf s _ h2];simp only[];rw[if_neg (by rw[ne_eq,ne_eq,c34,c92] at b5;rintro (e|e);exact b5.1 e;exact b5.2 e),if_pos (by rw[zlu] at b6;exact b6)];rw[show a+1+k+1+1=a+1+(k+2) by omega];cases vW (s.data.toList.drop (a+1+(k+2))) <;> simp[Nat.add_assoc,Nat.add_comm 2]
theorem zlo(h:uA s a k ob q)(hlt:a+1+k<s.size)(b1:32<=(s[a+1+k].toNat:Int))(b2:(s[a+1+k].toNat:Int)<=126)(b3:((s[a+1+k].toNat:Int) == 34)=false)(b4:((s[a+1+k].toNat:Int) != 92)=false)(h2:a+1+k+1<s.size)
 (b5:(s[a+1+k+1].toNat:Int)≠34/\(s[a+1+k+1].toNat:Int)≠92) (b6:(s[a+1+k+1].toNat:Int)≠110):q=none:=
 zaV h (by
  rw[kf s _ hlt,uj,if_neg (by omega),if_neg (by rw[pB,ne_eq,c34] at b3;exact b3),if_pos (by rw[gD,c92] at b4;exact b4),kf s _ h2];simp only[];rw[if_neg (by rw[ne_eq,ne_eq,c34,c92] at b5;rintro (e|e);exact b5.1 e;exact b5.2 e),if_neg (by rw[ne_eq,zlu] at b6;exact b6)])
end
end
end Lode
namespace Go.Proofs.YtnncmdpopgkibaaGreatDoor
section
open Go.RowKit Lode Go.Shelf
open Go.Proofs.Tryz
theorem ZX:∀(m:Nat) (r:List UInt8),r.length<=m->∀t n,vW r=some (t,n)->1<=n/\n<=r.length/\t.length<=n-1
 |0,r,hm,t,n,h=>by
  have:r=[]:=pM (by omega);subst this;simp[vW] at h
 |m+1,[],_,t,n,h=>by simp[vW] at h
 |m+1,c :: r,hm,t,n,h=>by
  simp only[pK] at hm;unfold vW at h;split at h
  ·cases h
  ·split at h
   ·cases h;simp
   ·split at h
    ·cases r with
     |nil=>cases h
     |cons d r'=>
      simp only[pK] at hm;simp only at h;split at h
      ·cases hq:vW r' with
       |none=>rw[hq] at h;cases h
       |some x=>
        rw[hq] at h;cases h;have:=ZX m r' (by omega) _ _ hq;simp only[pK];omega
      ·split at h
       ·cases hq:vW r' with
        |none=>rw[hq] at h;cases h
        |some x=>
         rw[hq] at h;cases h;have:=ZX m r' (by omega) _ _ hq;simp only[pK];omega
       ·cases h
    ·cases hq:vW r with
     |none=>rw[hq] at h;cases h
     |some x=>
      rw[hq] at h;cases h;have:=ZX m r (by omega) _ _ hq;simp only[pK];omega
theorem QN{r:List UInt8}{t:List UInt8}{n:Nat}(h:Lode.xP r=some (t,n)):2<=n/\n<=r.length/\t.length<=60:=by
 unfold Lode.xP at h;cases hq:vW (r.drop 1) with
 |none=>rw[hq] at h;cases h
 |some x=>
  obtain⟨t',n'⟩:=x;rw[hq] at h;simp only at h;split at h
  ·cases h;have:=ZX _ _ (pE _) _ _ hq;simp only[wW] at this;omega
  ·cases h
theorem Zu(p:UInt8->Bool):∀m:List UInt8,yc p m<=m.length
 |[]=>by simp[yc]
 |d :: m=>by simp only[yc];have:=Zu p m;split <;> simp;omega
theorem zcW:∀(g r:List UInt8),yL g r=true->g.length<=r.length
 |[],_,_=>by simp
 |_ :: _,[],h=>by simp[yL] at h
 |a :: g,b :: r,h=>by
  simp only[yL,pG] at h;have:=zcW g r h.2;simp;omega
theorem zhm:∀g,g∈zT->1<=g.length:=by decide
theorem qz{r:List UInt8}{k:Nat}{t:List UInt8}{m:Nat}(h:yM r=some (k,t,m)):1<=m/\m<=r.length/\1<=k/\k<=6:=by
 cases r with
 |nil=>cases h
 |cons c r=>
  simp only[yM] at h;have r1:=Zu (fun c=>yg c || yf c) r;have r2:=Zu yf r;split at h
  ·split at h
   ·cases h;refine⟨by omega,by simp;omega,by split <;> simp,by split <;> simp⟩
   ·cases h
  ·split at h
   ·split at h
    ·cases h;refine⟨by omega,by simp;omega,by omega,by omega⟩
    ·cases h
   ·split at h
    ·split at h
     ·rename_i hn;cases h;exact⟨by omega,by simp;omega,by omega,by omega⟩
     ·cases h
    ·split at h
     ·cases hq:Lode.xP (c :: r) with
      |none=>rw[hq] at h;cases h
      |some x=>
       rw[hq] at h;cases h;have:=QN hq;exact⟨by omega,this.2.1,by omega,by omega⟩
     ·cases hg:zT.find? (fun g=>yL g (c :: r)) with
      |none=>rw[hg] at h;cases h
      |some g=>
       rw[hg] at h;cases h;have h1:=List.find?_some hg;have h2:=List.mem_of_find?_eq_some hg;have h3:=zhm _ h2;exact⟨h3,zcW _ _ h1,by omega,by omega⟩
def kI(L:List yp)(x:List yp×Nat×Nat):List yp×Nat×Nat:=if x.2.2=0 then (L ++ x.1,0,0) else ([],x.2)
theorem zf9(f n a:Nat)(r:List UInt8):kI [] (kU f n a r)=kU f n a r:=by
 cases f with
 |zero=>simp[kU,kI]
 |succ f=>
  simp only[kU];split
  ·simp[kI]
  ·split
   ·simp[kI]
   ·split
    ·simp[kI]
    ·generalize kU f (n+1) _ _=x;by_cases hx:x.2.2=0 <;> simp[kI,hx]
theorem zdd(L:List yp)(t:yp)(x:List yp×Nat×Nat):kI L (if x.2.2=0 then (t :: x.1,0,0) else ([],x.2))=kI (L ++ [t]) x:=by
 by_cases hx:x.2.2=0 <;> simp[kI,hx]
def Yk(s:List UInt8)(r:List yp×Nat×Nat)(L:List yp)(a:Nat):Prop:=
 ∃a' fuel,a=a'+zI false (s.drop a')/\s.length<fuel+a'/\a'<=s.length/\L.length<=1200/\r=kI L (kU fuel L.length a' (s.drop a'))
theorem Zi:∀(b:Bool) (m:List UInt8),zI b m<=m.length
 |_,[]=>by simp[zI]
 |b,c :: m=>by
  have h1:=Zi false m;have h2:=Zi true m;have h3:=Zi b m;simp only[zI,pK];split
  ·omega
  ·split
   ·omega
   ·split <;> omega
theorem Yk.start{s:List UInt8}(h:(qr s).2=0):Yk s (Lode.yQ s) [] (zI false s):=by
 refine⟨0,s.length+1,by simp,by omega,by omega,by simp,?_⟩;simp only[pR,List.drop_zero,zf9,Lode.yQ,h,ne_eq,not_true,if_false]
theorem Js{s:List UInt8}{a' a f n:Nat}(e:a=a'+zI false (s.drop a'))(hf:s.length<f+a')(h:a'<=s.length):
 ∃g,f=g+1/\kU f n a' (s.drop a')=match s.drop a with
  |[]=>([],0,0)
  |r1=>match yM r1 with
   |none=>([],a,4)
   |some (k,t,m)=>if n=1200 then ([],a,5) else
    let x:=kU g (n+1) (a+m) (r1.drop m)
    if x.2.2=0 then (⟨k,t,(a:Nat)⟩ :: x.1,0,0) else ([],x.2):=by
 obtain⟨g,rfl⟩:∃g,f=g+1:=⟨f-1,by omega⟩;refine⟨g,rfl,?_⟩;subst e;simp only[kU,List.drop_drop]
 first|done|rfl
theorem Yk.done{s:List UInt8}{r:List yp×Nat×Nat}{L:List yp}{a:Nat}(h:Yk s r L a)(ha:s.length<=a):r=(L,0,0):=by
 obtain⟨a',f,e,h1,h2,_,h4⟩:=h;obtain⟨g,_,h5⟩:=Js (n:=L.length) e h1 h2;rw[h5,List.drop_eq_nil_of_le ha] at h4;simpa[kI] using h4
theorem Xj{s:List UInt8}{a:Nat}(ha:a<s.length):∃c r,s.drop a=c :: r:=⟨s[a],s.drop (a+1),List.drop_eq_getElem_cons ha⟩
theorem Yk.bad{s:List UInt8}{r:List yp×Nat×Nat}{L:List yp}{a:Nat}(h:Yk s r L a)(ha:a<s.length)(ht:yM (s.drop a)=none):r=([],a,4):=by
 obtain⟨a',f,e,h1,h2,_,h4⟩:=h;obtain⟨g,_,h5⟩:=Js (n:=L.length) e h1 h2;obtain⟨c,q,hq⟩:=Xj ha;rw[hq] at ht h5;simp only[ht] at h5;rw[h5] at h4;simpa[kI] using h4
theorem Yk.full{s:List UInt8}{r:List yp×Nat×Nat}{L:List yp}{a:Nat}(h:Yk s r L a)(ha:a<s.length){x:Nat×List UInt8×Nat}(ht:yM (s.drop a)=some x)(hL:L.length=1200):r=([],a,5):=by
 obtain⟨a',f,e,h1,h2,_,h4⟩:=h;obtain⟨g,_,h5⟩:=Js (n:=L.length) e h1 h2;obtain⟨c,q,hq⟩:=Xj ha;rw[hq] at ht h5;simp only[ht,hL,if_true] at h5;rw[hL,h5] at h4;simpa[kI] using h4
theorem Yk.next{s:List UInt8}{r:List yp×Nat×Nat}{L:List yp}{a:Nat}(h:Yk s r L a)(ha:a<s.length){k:Nat}{t:List UInt8}{m:Nat}(ht:yM (s.drop a)=some (k,t,m))(hL:L.length≠1200):
 Yk s r (L ++ [⟨k,t,(a:Nat)⟩]) (a+m+zI false (s.drop (a+m))):=by
 obtain⟨a',f,e,h1,h2,h3,h4⟩:=h;obtain⟨g,hg,h5⟩:=Js (n:=L.length) e h1 h2;have hw:=qz ht;simp only[wW] at hw;obtain⟨c,q,hq⟩:=Xj ha;have hd:s.drop (a+m)=(s.drop a).drop m:=by rw[List.drop_drop]
 refine⟨a+m,g,rfl,by omega,by omega,by simp;omega,?_⟩;rw[hd,hq];rw[hq] at ht h5;simp only[ht,hL,if_false] at h5;rw[h4,h5,zdd];simp
def qM(t:yp):List Value:=[.int .u8 t.kind,.string ⟨t.text.toArray⟩,.int .i64 t.at_]
def yI(l:List yp):List Value:=l.flatMap qM
def kl(w:World)(base:Nat)(v:Value)(l:List yp):Prop:=w.ownsRow base 37 3 v l.length (yI l)
theorem ZL(l:List yp):(yI l).length=l.length*3:=by
 induction l with
 |nil=>rfl
 |cons t l ih=>simp only[yI,List.flatMap_cons,pC] at *;rw[ih];simp[qM];omega
theorem vJ{w0 W W':World}{v:Value}{e:TypeId}{n m:Nat}{xs:List Value}(h:Below w0.heap.size w0 W)(ho:W.ownsRow w0.heap.size e n v m xs)(hg:W.grownBy W' v.ownBlock):Below w0.heap.size w0 W':=
 ⟨hg.os.trans h.os,hg.tape.trans h.tape,hg.output.trans h.output,pN h.size hg.size,fun k hk=>(hg.block k (wI hk h.size) (fun e=>by have:=(ho.lt k e.symm).1;omega)).trans (h.block k hk)⟩
theorem kl.snoc{w:World}{b:Nat}{v:Value}{l:List yp}{t:yp}(h:w.ownsRow b 37 3 v (l.length+1) (yI l ++ qM t)):kl w b v (l ++ [t]):=by
 unfold kl;rw[pC];simpa[yI] using h
inductive AtP (s:List UInt8):List yp->Nat->Prop
 |start:AtP s [] (zI false s)
 |next {pre:List yp} {k kk m:Nat} {t:List UInt8}:AtP s pre k->k<s.length->yM (s.drop k)=some (kk,t,m)->AtP s (pre ++ [⟨kk,t,(k:Nat)⟩]) (k+m+zI false (s.drop (k+m)))
theorem AtP.rinv{s:List UInt8}{L:List yp}{k:Nat}(hc:(qr s).2=0)(h:AtP s L k):L.length<=1200->Yk s (Lode.yQ s) L k:=by
 induction h with
 |start=>intro _;exact Yk.start hc
 |next h1 h2 h3 ih=>
  intro hl;simp only[pC,pK,pR] at hl;exact (ih (by omega)).next h2 h3 (by omega)
theorem AtP.kinds{s:List UInt8}{L:List yp}{k:Nat}(h:AtP s L k):∀t∈L,1<=t.kind:=by
 induction h with
 |start=>intro t ht;cases ht
 |next h1 h2 h3 ih=>
  intro t ht;rcases pX.1 ht with h|h
  ·exact ih t h
  ·rw[wL] at h;subst h;exact (qz h3).2.2.1
def zmi(s:List UInt8)(pre:List yp)(x:yp):Prop:=∃k,AtP s pre k/\k<s.length/\((yM (s.drop k)=none/\x=⟨0,[],(k:Nat)⟩)\/∃kk t m,yM (s.drop k)=some (kk,t,m)/\x=⟨kk,t,(k:Nat)⟩)
def zmf(s:List UInt8)(xs:List yp):Prop:=(∃k,AtP s xs k/\s.length<=k)\/∃pre k,xs=pre ++ [⟨0,[],(k:Nat)⟩]
abbrev zlf(t:yp):Value:=.agg #[.int .u8 t.kind,.string ⟨t.text.toArray⟩,.int .i64 t.at_]
theorem YS(c lo hi:Int)(w:World):
 Calls prog 89 #[.int .u8 c,.int .u8 lo,.int .u8 hi] w fun e w'=>e=.returned (.bool (decide (lo<=c) && decide (c<=hi)))/\w=w':=by
 by_cases h1:lo<=c
 ·go_enter func89,ntmps89;go_wp2;go_ret;exact⟨by simp[h1],rfl⟩
 ·have h2:decide (lo<=c)=false:=by simpa using h1
  rw[h2];go_enter func89,ntmps89;go_wp2;go_ret;exact⟨rfl,rfl⟩
theorem zed(c:UInt8)(w:World):
 Calls prog 62 #[.int .u8 (c.toNat:Int)] w fun e w'=>e=.returned (.bool (jW c))/\w=w':=by
 by_cases h:(decide ((32:Int)<=(c.toNat:Int)) && decide ((c.toNat:Int)<=126))=true
 ·have hs:jW c=true:=by simp at h;simp[jW];omega
  rw[hs];go_enter func62,ntmps62;go_wp2_with (go_at_call 89;refine (YS _ _ _ _).mono ?_;rintro e w' ⟨rfl,rfl⟩;rw[h]);go_ret;exact⟨rfl,rfl⟩
 ·have h':(decide ((32:Int)<=(c.toNat:Int)) && decide ((c.toNat:Int)<=126))=false:=by simpa using h
  have hs:jW c=((c.toNat:Int) == 10):=by simp at h';simp[jW];rw[pW];simp;omega
  rw[hs];go_enter func62,ntmps62;go_wp2_with (go_at_call 89;refine (YS _ _ _ _).mono ?_;rintro e w' ⟨rfl,rfl⟩;rw[h']);go_ret;exact⟨rfl,rfl⟩
def kH(c:UInt8):Int:=if yg c then 1 else if YQ c then 2 else if yf c then 3 else 0
theorem jZ(c:UInt8)(w:World):
 Calls prog 92 #[.int .u8 (c.toNat:Int)] w fun e w'=>e=.returned (.int .u8 (kH c))/\w=w':=by
 have e1:(decide ((97:Int)<=(c.toNat:Int)) && decide ((c.toNat:Int)<=122))=yg c:=by unfold yg;rw[pW];simp;omega
 have e2:(decide ((65:Int)<=(c.toNat:Int)) && decide ((c.toNat:Int)<=90))=YQ c:=by unfold YQ;rw[pW];simp;omega
 have e3:(decide ((48:Int)<=(c.toNat:Int)) && decide ((c.toNat:Int)<=57))=yf c:=by unfold yf;rw[pW];simp;omega
 have E1:=zi e1;have E2:=zi e2;have E3:=zi e3;clear e1 e2 e3;go_enter func92,ntmps92;go_wp2_with (go_at_call 89;refine (YS _ _ _ _).mono ?_;rintro e w' ⟨rfl,rfl⟩;first|rw[E1.out]|rw[E2.out]|rw[E3.out])
 all_goals go_ret
 all_goals exact⟨by simp[kH, *],rfl⟩
theorem Vv(b n cap:Nat)(l:List UInt8)(g:Nat)(lb:Array Value)(p:UInt8->Bool)(w:World)(hp:XR prog g lb p w)(hn:n=l.length)(hm:n<=9223372036854775807)
 (hc:∀j,j<n->w.cell? ⟨b,j,none⟩=some (.int .u8 (l[j]?.getD 0).toNat)) :
 Calls prog 87 #[.slice (some ⟨b,0,none⟩) n cap,.func (.func g) #[] lb] w fun e w'=>e=.returned (.int .i64 (zbm (xU p l)))/\Below w.heap.size w w':=by
 obtain⟨eg,hcall⟩:=hp;have Hn:=zi hn;clear hn;have Hc:=zi hc;clear hc;have Hcall:=zi hcall;clear hcall;go_enter func87,ntmps87;go_wp2;go_loopw [5,8] (fun _ s8 wr=>∃k:Nat,k<=n/\s8=.int .i64 k/\Hid (∀j,j<k->p (l.getD j 0)=false)/\Below w.heap.size w wr) (fun _ s8 _=>n-(intOf s8).toNat)
 case atStart=>exact⟨0,pU _,rfl,fun j hj=>absurd hj (wG _),pF _ _⟩
 case round=>
  obtain⟨k,hk,rfl,hall,hb⟩:=hrel;by_cases hlt:k<n
  ·have hcell:wr.cell? ⟨b,k,none⟩=some (.int .u8 (l[k]?.getD 0).toNat):=by
    have:=Hc.out k hlt;rw[hb.cell (block_lt_of_cell this)];exact this
   have hcl:=Hcall.out wr (l[k]?.getD 0) hb;have hltz:(k:Int)<(n:Int):=by omega
   go_wp2_with fail;refine hcl.mono ?_;rintro e W2 ⟨rfl,hb2⟩;clear hcl hcell;have hb3:=hb.trans (hb2.mono hb.size);by_cases hpk:p (l[k]?.getD 0)=true
   ·go_wp2;go_ret;refine⟨?_,hb3⟩;have:=Yi p l k hall.out (by rw[<-Hn.out];exact hk);rw[Hn.out] at hlt;rw[this,List.drop_eq_getElem_cons hlt];simp[hlt] at hpk;simp[xU,hpk,zbm]
   ·have hpk':p (l[k]?.getD 0)=false:=by simpa using hpk
    clear hpk;go_wp2;go_roundw
    case rel=>exact⟨k+1,by omega,by go_num,fun j hj=>by
     by_cases e:j=k
     ·subst e;simpa using hpk'
     ·exact hall.out j (by omega),hb3⟩
    case measure=>simp[intOf];omega
  ·go_wp2;go_ret;refine⟨?_,hb⟩;have:=Yi p l k hall.out (by rw[<-Hn.out];exact hk);have hkl:l.drop k=[]:=by have:=Hn.out;simp;omega
   rw[this,hkl];rfl
theorem zlX(g:Nat)(lb:Array Value)(p:UInt8->Bool)(w:World)(hp:XR prog g lb p w)(b:Nat)(hb:w.cell? ⟨b,0,none⟩=some (.func (.func g) #[] lb)):
 XR prog 88 #[.pointer (some ⟨b,0,none⟩)] (fun c=> !p c) w:=by
 refine⟨enters_of func88 (by kernel_rfl) rfl,fun W c hbW=>?_⟩;obtain⟨eg,hcall⟩:=hp;have hcl:=hcall W c hbW;have hcell:W.cell? ⟨b,0,none⟩=some (.func (.func g) #[] lb):=by rw[hbW.cell (block_lt_of_cell hb)];exact hb
 clear hcall hb;have HW:=zi hbW;clear hbW;show Calls prog 88 #[.int .u8 (c.toNat:Int),.pointer (some ⟨b,0,none⟩)] W _
 go_enter func88,ntmps88;go_wp2_with fail;refine hcl.mono ?_;rintro e W2 ⟨rfl,hb2⟩;clear hcl;go_wp2;go_ret;exact⟨rfl,hb2⟩
theorem zcr{g:Nat}{lb:Array Value}{p:UInt8->Bool}{w W:World}(h:XR prog g lb p w)(hb:Below w.heap.size w W):XR prog g lb p W:=
 ⟨h.eg,fun W' c hW=>h.calls W' c (zg hb hW)⟩
theorem Qt(s:ByteArray)(g:Nat)(lb:Array Value)(p:UInt8->Bool)(w:World)(hp:XR prog g lb p w)(hs:s.size<=9223372036854775807):
 Calls prog 61 #[.string s,.func (.func g) #[] lb] w fun e w'=>e=.returned (.int .i64 (zbm (xU (fun c=> !p c) s.data.toList)))/\Below w.heap.size w w':=by
 have kc:=fun (w:World)=>Lib.run_convert_string_bytes (P:=prog) w 9 82 5 s underlying9 underlying82 underlying5
 have Hp:=zi hp;clear hp;go_enter func61,ntmps61;go_wp2_with fail;have hbB:=zf w (.cells #[.func (.func g) #[] lb] 110);have hbA:=uM (w.alloc (.cells #[.func (.func g) #[] lb] 110)) 5 s;have hp2:=zcr Hp.out (zg hbB hbA);have hcell:(Lib.bytesWorld (w.alloc (.cells #[.func (.func g) #[] lb] 110)) 5 s).cell? ⟨w.heap.size,0,none⟩=some (.func (.func g) #[] lb):=by
  rw[Lib.bytesWorld_old _ _ _ _ (by simp)];simp
 refine (Vv _ _ _ s.data.toList _ _ _ _ (zlX _ _ _ _ hp2 _ hcell) (by simp) hs (fun j hj=>?_)).mono ?_
 ·have:=Lib.bytesWorld_cell (w.alloc (.cells #[.func (.func g) #[] lb] 110)) 5 s j hj;simp only[World.size_alloc] at this;simpa using this
 ·rintro e W2 ⟨rfl,hb2⟩;clear kc hp2 hcell;go_wp2;go_ret;exact⟨rfl,zg (zg hbB hbA) hb2⟩
theorem zjP(s:ByteArray)(g:Nat)(lb:Array Value)(p:UInt8->Bool)(w:World)(hp:XR prog g lb p w)(hs:s.size<=9223372036854775807):
 Calls prog 98 #[.string s,.func (.func g) #[] lb] w fun e w'=>e=.returned (.bool (decide (xU (fun c=> !p c) s.data.toList=none)))/\Below w.heap.size w w':=by
 have Hp:=zi hp;clear hp;go_enter func98,ntmps98;go_wp2_with fail;refine (Qt s g lb p _ Hp.out hs).mono ?_;rintro e W2 ⟨rfl,hb2⟩;cases hf:xU (fun c=> !p c) s.data.toList with
 |none=>
  simp only[zbm];go_wp2;go_ret;exact⟨by simp[hf],hb2⟩
 |some k=>
  simp only[zbm];go_wp2;go_ret;exact⟨by simp[hf],hb2⟩
theorem zfk(w:World):XR prog 62 #[] jW w:=
 ⟨enters_of func62 (by kernel_rfl) rfl,fun W c _=>(zed c W).mono fun e w' ⟨he,hw⟩=>⟨he,hw▸pF _ _⟩⟩
theorem zgJ(s:ByteArray)(w:World)(hs:s.size<=9223372036854775807):
 Calls prog 29 #[.string s] w fun e w'=>e=.returned (.tuple #[.int .i64 (qr s.data.toList).1,.int .i64 (qr s.data.toList).2])/\Below w.heap.size w w':=by
 by_cases h:3000<s.size
 ·have e1:qr s.data.toList=(3000,5):=by unfold qr;rw[if_pos (by simpa using h)]
  rw[e1];clear e1;go_enter func29,ntmps29;go_wp2;go_ret2;exact⟨rfl,pF _ _⟩
 ·have e1:=show qr s.data.toList=match xU (fun c=> !jW c) s.data.toList with|some i=>(i,4)|none=>(0,0) by unfold qr;rw[if_neg (by simpa using h)];first|done|rfl
  have E1:=zi e1;clear e1;go_enter func29,ntmps29;go_wp2_with fail;refine (Qt s _ _ _ _ (zfk _) hs).mono ?_;rintro e W2 ⟨rfl,hb2⟩;cases hf:xU (fun c=> !jW c) s.data.toList with
  |none=>
   simp only[zbm];go_wp2;go_ret2;exact⟨by rw[E1.out,hf];rfl,hb2⟩
  |some k=>
   simp only[zbm];go_wp2;go_ret2;exact⟨by rw[E1.out,hf];rfl,hb2⟩
end
end Go.Proofs.YtnncmdpopgkibaaGreatDoor
namespace Go.Proofs
section
open Go.Shelf
def Tryz.lays170_ren:Go.Shelf.Ren:=⟨fun|170=>53|n=>n,fun|70=>81|3=>3|0=>0|72=>84|37=>82|5=>5|n=>n,fun|n=>n⟩
theorem Tryz.lays170:Go.Proofs.Lays.n170 prog Tryz.lays170_ren:={
 mixed:=by kernel_rfl
 f170:=func53.trans (congrArg some (by kernel_rfl))
 t0:=underlying0
 a0:=Tryz.isAgg0
 z0:=Tryz.sizeOf0
 v0:=Tryz.zeroValue0
 t3:=underlying3
 a3:=Tryz.isAgg3
 z3:=Tryz.sizeOf3
 v3:=Tryz.zeroValue3
 t37:=underlying82
 a37:=Tryz.isAgg82
 z37:=Tryz.sizeOf82
 v37:=Tryz.zeroValue82
 t70:=underlying81
 a70:=Tryz.isAgg81
 z70:=Tryz.sizeOf81
 v70:=Tryz.zeroValue81
 t72:=underlying84
 a72:=Tryz.isAgg84
 z72:=Tryz.sizeOf84
 v72:=Tryz.zeroValue84}
open Go.RowKit in
theorem Tryz.Builder_Len (B b:Nat) (bs:List Value) (w:World) (h:Lib.IsBuilder 84 5 B b bs w) :
 Calls prog 53 #[.pointer (some ⟨b,0,none⟩)] w fun e w'=>e=.returned (.int .i64 bs.length)/\w'=w:=Any.Builder_Len Tryz.lays170 B b bs w h
def Tryz.lays169_ren:Go.Shelf.Ren:=⟨fun|169=>48|n=>n,fun|70=>81|9=>9|0=>0|72=>84|37=>82|127=>133|3=>3|5=>5|n=>n,fun|n=>n⟩
theorem Tryz.lays169:Go.Proofs.Lays.n169 prog Tryz.lays169_ren:={
 mixed:=by kernel_rfl
 f169:=func48.trans (congrArg some (by kernel_rfl))
 t0:=underlying0
 a0:=Tryz.isAgg0
 z0:=Tryz.sizeOf0
 v0:=Tryz.zeroValue0
 t3:=underlying3
 a3:=Tryz.isAgg3
 z3:=Tryz.sizeOf3
 v3:=Tryz.zeroValue3
 t9:=underlying9
 a9:=Tryz.isAgg9
 z9:=Tryz.sizeOf9
 v9:=Tryz.zeroValue9
 t37:=underlying82
 a37:=Tryz.isAgg82
 z37:=Tryz.sizeOf82
 v37:=Tryz.zeroValue82
 t70:=underlying81
 a70:=Tryz.isAgg81
 z70:=Tryz.sizeOf81
 v70:=Tryz.zeroValue81
 t72:=underlying84
 a72:=Tryz.isAgg84
 z72:=Tryz.sizeOf84
 v72:=Tryz.zeroValue84
 t127:=underlying133
 a127:=Tryz.isAgg133
 z127:=Tryz.sizeOf133
 v127:=Tryz.zeroValue133}
theorem Tryz.Builder_Extra_169:Builder.Extra prog Tryz.lays169_ren:={
 sizeBuilder:=by kernel_rfl
 liesBuilder:=by kernel_rfl
 t5:=underlying5
 a5:=Tryz.isAgg5
 z5:=Tryz.sizeOf5
 v5:=Tryz.zeroValue5
 infoByte:=by kernel_rfl
 cellsByte:=by kernel_rfl
 sizeByte:=by kernel_rfl
 neB5:=by decide}
def Tryz.lays156_ren:Go.Shelf.Ren:=⟨fun|156=>153|165=>190|166=>46|169=>48|240=>80|241=>205|276=>119|277=>215|n=>n,fun|31=>111|9=>9|3=>3|4=>4|0=>0|20=>20|72=>84|76=>89|70=>81|37=>82|75=>88|127=>133|164=>181|5=>5|80=>92|n=>n,fun|n=>n⟩
theorem Tryz.lays156:Go.Proofs.Lays.n156 prog Tryz.lays156_ren:={
 mixed:=by kernel_rfl
 f156:=func153.trans (congrArg some (by kernel_rfl))
 f165:=func190.trans (congrArg some (by kernel_rfl))
 f166:=func46.trans (congrArg some (by kernel_rfl))
 f169:=func48.trans (congrArg some (by kernel_rfl))
 f240:=func80.trans (congrArg some (by kernel_rfl))
 f241:=func205.trans (congrArg some (by kernel_rfl))
 f276:=func119.trans (congrArg some (by kernel_rfl))
 f277:=func215.trans (congrArg some (by kernel_rfl))
 t0:=underlying0
 a0:=Tryz.isAgg0
 z0:=Tryz.sizeOf0
 v0:=Tryz.zeroValue0
 t3:=underlying3
 a3:=Tryz.isAgg3
 z3:=Tryz.sizeOf3
 v3:=Tryz.zeroValue3
 t4:=underlying4
 a4:=Tryz.isAgg4
 z4:=Tryz.sizeOf4
 v4:=Tryz.zeroValue4
 t9:=underlying9
 a9:=Tryz.isAgg9
 z9:=Tryz.sizeOf9
 v9:=Tryz.zeroValue9
 t20:=underlying20
 a20:=Tryz.isAgg20
 z20:=Tryz.sizeOf20
 v20:=Tryz.zeroValue20
 t31:=underlying111
 a31:=Tryz.isAgg111
 z31:=Tryz.sizeOf111
 v31:=Tryz.zeroValue111
 t37:=underlying82
 a37:=Tryz.isAgg82
 z37:=Tryz.sizeOf82
 v37:=Tryz.zeroValue82
 t70:=underlying81
 a70:=Tryz.isAgg81
 z70:=Tryz.sizeOf81
 v70:=Tryz.zeroValue81
 t72:=underlying84
 a72:=Tryz.isAgg84
 z72:=Tryz.sizeOf84
 v72:=Tryz.zeroValue84
 t75:=underlying88
 a75:=Tryz.isAgg88
 z75:=Tryz.sizeOf88
 v75:=Tryz.zeroValue88
 t76:=underlying89
 a76:=Tryz.isAgg89
 z76:=Tryz.sizeOf89
 v76:=Tryz.zeroValue89
 t127:=underlying133
 a127:=Tryz.isAgg133
 z127:=Tryz.sizeOf133
 v127:=Tryz.zeroValue133
 t164:=underlying181
 a164:=Tryz.isAgg181
 z164:=Tryz.sizeOf181
 v164:=Tryz.zeroValue181}
theorem Tryz.Builder_Extra_156:Builder.Extra prog Tryz.lays156_ren:={
 sizeBuilder:=by kernel_rfl
 liesBuilder:=by kernel_rfl
 t5:=underlying5
 a5:=Tryz.isAgg5
 z5:=Tryz.sizeOf5
 v5:=Tryz.zeroValue5
 infoByte:=by kernel_rfl
 cellsByte:=by kernel_rfl
 sizeByte:=by kernel_rfl
 neB5:=by decide}
open Go.RowKit in
theorem Tryz.strings_Join_none (a:Option Addr) (c:Nat) (sep:ByteArray) (w:World) :
 Calls prog 153 #[.slice a 0 c,.string sep] w fun e w'=>e=.returned (.string ⟨#[]⟩)/\w'=w:=Any.strings_Join_none Tryz.lays156 Tryz.Builder_Extra_156 a c sep w
open Go.RowKit in
theorem Tryz.strings_Join (bk o c:Nat) (xs:List ByteArray) (sep:ByteArray) (w:World) (hcells:∀(j:Nat) x,xs[j]? =some x->w.cell? ⟨bk,o+j,none⟩=some (.string x)) (hbk:bk<w.heap.size) (hN:xs.length<=140737488355328) (hcap:xs.length<=c) (hlen:(Lib.join (xs.map (·.data.toList)) sep.data.toList).length<=140737488355328) :
 Calls prog 153 #[.slice (some ⟨bk,o,none⟩) xs.length c,.string sep] w fun e w'=>e=.returned (.string ⟨(Lib.join (xs.map (·.data.toList)) sep.data.toList).toArray⟩)/\Below w.heap.size w w':=Any.strings_Join Tryz.lays156 Tryz.Builder_Extra_156 bk o c xs sep w hcells hbk hN hcap hlen
def Tryz.lays137_ren:Go.Shelf.Ren:=⟨fun|137=>91|217=>126|266=>162|n=>n,fun|9=>9|5=>5|3=>3|n=>n,fun|n=>n⟩
theorem Tryz.lays137:Go.Proofs.Lays.n137 prog Tryz.lays137_ren:={
 mixed:=by kernel_rfl
 f137:=func91.trans (congrArg some (by kernel_rfl))
 f217:=func126.trans (congrArg some (by kernel_rfl))
 f266:=func162.trans (congrArg some (by kernel_rfl))
 t3:=underlying3
 a3:=Tryz.isAgg3
 z3:=Tryz.sizeOf3
 v3:=Tryz.zeroValue3
 t5:=underlying5
 a5:=Tryz.isAgg5
 z5:=Tryz.sizeOf5
 v5:=Tryz.zeroValue5
 t9:=underlying9
 a9:=Tryz.isAgg9
 z9:=Tryz.sizeOf9
 v9:=Tryz.zeroValue9}
open Go.RowKit in
theorem Tryz.strings_IndexByte (s:ByteArray) (c:Int) (w:World) :
 Calls prog 91 #[.string s,.int .u8 c] w fun e w'=>e=.returned (.int .i64 (Lib.indexByte s.data.toList c.toNat.toUInt8))/\w'=w:=Any.strings_IndexByte Tryz.lays137 s c w
def Tryz.lays214_ren:Go.Shelf.Ren:=⟨fun|214=>152|n=>n,fun|4=>4|9=>9|n=>n,fun|n=>n⟩
def Tryz.lays121_ren:Go.Shelf.Ren:=⟨fun|121=>110|214=>152|n=>n,fun|4=>4|9=>9|n=>n,fun|n=>n⟩
theorem Tryz.lays121:Go.Proofs.Lays.n121 prog Tryz.lays121_ren:={
 mixed:=by kernel_rfl
 f121:=func110.trans (congrArg some (by kernel_rfl))
 f214:=func152.trans (congrArg some (by kernel_rfl))
 t4:=underlying4
 a4:=Tryz.isAgg4
 z4:=Tryz.sizeOf4
 v4:=Tryz.zeroValue4
 t9:=underlying9
 a9:=Tryz.isAgg9
 z9:=Tryz.sizeOf9
 v9:=Tryz.zeroValue9}
open Go.RowKit in
theorem Tryz.strconv_FormatBool (b:Bool) (w:World) :
 Calls prog 110 #[.bool b] w fun e w'=>e=.returned (.string ⟨(Lib.formatBool b).toArray⟩)/\w'=w:=Any.strconv_FormatBool Tryz.lays121 b w
def Tryz.lays172_ren:Go.Shelf.Ren:=⟨fun|172=>130|244=>164|245=>165|247=>194|279=>195|280=>196|281=>197|282=>198|287=>206|316=>207|171=>108|205=>208|321=>216|322=>217|243=>151|246=>189|283=>201|284=>202|285=>203|286=>204|129=>211|317=>210|318=>212|319=>213|320=>214|337=>222|338=>223|n=>n,fun|9=>9|3=>3|75=>88|76=>89|4=>4|5=>5|167=>247|37=>82|0=>0|85=>248|2=>2|168=>250|53=>53|175=>261|46=>54|210=>264|127=>133|145=>273|143=>271|21=>21|171=>254|173=>257|212=>267|51=>183|20=>20|213=>268|232=>278|233=>279|80=>92|n=>n,fun|15=>3|16=>4|17=>5|18=>6|19=>7|n=>n⟩
def Tryz.laysM246_ren:Go.Shelf.Ren:=⟨fun|246=>189|283=>201|284=>202|285=>203|286=>204|129=>211|317=>210|318=>212|319=>213|320=>214|337=>222|338=>223|n=>n,fun|2=>2|3=>3|9=>9|4=>4|171=>254|0=>0|53=>53|37=>82|5=>5|173=>257|212=>267|51=>183|20=>20|213=>268|46=>54|232=>278|233=>279|n=>n,fun|17=>5|18=>6|19=>7|n=>n⟩
def Tryz.laysM243_ren:Go.Shelf.Ren:=⟨fun|243=>151|246=>189|283=>201|284=>202|285=>203|286=>204|129=>211|317=>210|318=>212|319=>213|320=>214|337=>222|338=>223|n=>n,fun|3=>3|9=>9|2=>2|4=>4|171=>254|0=>0|53=>53|37=>82|5=>5|173=>257|212=>267|51=>183|20=>20|213=>268|46=>54|232=>278|233=>279|n=>n,fun|17=>5|18=>6|19=>7|n=>n⟩
def Tryz.laysM171_ren:Go.Shelf.Ren:=⟨fun|171=>108|243=>151|246=>189|283=>201|284=>202|285=>203|286=>204|129=>211|317=>210|318=>212|319=>213|320=>214|337=>222|338=>223|n=>n,fun|3=>3|9=>9|2=>2|4=>4|171=>254|0=>0|53=>53|37=>82|5=>5|173=>257|212=>267|51=>183|20=>20|213=>268|46=>54|232=>278|233=>279|n=>n,fun|17=>5|18=>6|19=>7|n=>n⟩
theorem Tryz.laysM171:Go.Proofs.LaysM.n171 prog Tryz.laysM171_ren:={
 mixed:=by kernel_rfl
 f129:=func211.trans (congrArg some (by kernel_rfl))
 f171:=func108.trans (congrArg some (by kernel_rfl))
 f243:=func151.trans (congrArg some (by kernel_rfl))
 f246:=func189.trans (congrArg some (by kernel_rfl))
 f283:=func201.trans (congrArg some (by kernel_rfl))
 f284:=func202.trans (congrArg some (by kernel_rfl))
 f285:=func203.trans (congrArg some (by kernel_rfl))
 f286:=func204.trans (congrArg some (by kernel_rfl))
 f317:=func210.trans (congrArg some (by kernel_rfl))
 f318:=func212.trans (congrArg some (by kernel_rfl))
 f319:=func213.trans (congrArg some (by kernel_rfl))
 f320:=func214.trans (congrArg some (by kernel_rfl))
 f337:=func222.trans (congrArg some (by kernel_rfl))
 f338:=func223.trans (congrArg some (by kernel_rfl))
 t0:=underlying0
 a0:=Tryz.isAgg0
 z0:=Tryz.sizeOf0
 v0:=Tryz.zeroValue0
 t2:=underlying2
 a2:=Tryz.isAgg2
 z2:=Tryz.sizeOf2
 v2:=Tryz.zeroValue2
 t3:=underlying3
 a3:=Tryz.isAgg3
 z3:=Tryz.sizeOf3
 v3:=Tryz.zeroValue3
 t4:=underlying4
 a4:=Tryz.isAgg4
 z4:=Tryz.sizeOf4
 v4:=Tryz.zeroValue4
 t5:=underlying5
 a5:=Tryz.isAgg5
 z5:=Tryz.sizeOf5
 v5:=Tryz.zeroValue5
 t9:=underlying9
 a9:=Tryz.isAgg9
 z9:=Tryz.sizeOf9
 v9:=Tryz.zeroValue9
 t20:=underlying20
 a20:=Tryz.isAgg20
 z20:=Tryz.sizeOf20
 v20:=Tryz.zeroValue20
 t37:=underlying82
 a37:=Tryz.isAgg82
 z37:=Tryz.sizeOf82
 v37:=Tryz.zeroValue82
 t46:=underlying54
 a46:=Tryz.isAgg54
 z46:=Tryz.sizeOf54
 v46:=Tryz.zeroValue54
 t51:=underlying183
 a51:=Tryz.isAgg183
 z51:=Tryz.sizeOf183
 v51:=Tryz.zeroValue183
 t53:=underlying53
 a53:=Tryz.isAgg53
 z53:=Tryz.sizeOf53
 v53:=Tryz.zeroValue53
 t171:=underlying254
 a171:=Tryz.isAgg254
 z171:=Tryz.sizeOf254
 v171:=Tryz.zeroValue254
 t173:=underlying257
 a173:=Tryz.isAgg257
 z173:=Tryz.sizeOf257
 v173:=Tryz.zeroValue257
 t212:=underlying267
 a212:=Tryz.isAgg267
 z212:=Tryz.sizeOf267
 v212:=Tryz.zeroValue267
 t213:=underlying268
 a213:=Tryz.isAgg268
 z213:=Tryz.sizeOf268
 t232:=underlying278
 a232:=Tryz.isAgg278
 z232:=Tryz.sizeOf278
 v232:=Tryz.zeroValue278
 t233:=underlying279
 a233:=Tryz.isAgg279
 z233:=Tryz.sizeOf279
 v233:=Tryz.zeroValue279
 g17:=by kernel_rfl
 g18:=by kernel_rfl
 g19:=by kernel_rfl
 i0:=by kernel_rfl
 i2:=by kernel_rfl
 i3:=by kernel_rfl
 i4:=by kernel_rfl
 i5:=by kernel_rfl
 i9:=by kernel_rfl
 i20:=by kernel_rfl
 i37:=by kernel_rfl
 i46:=by kernel_rfl
 i51:=by kernel_rfl
 i53:=by kernel_rfl
 i171:=by kernel_rfl
 i173:=by kernel_rfl
 i212:=by kernel_rfl
 i232:=by kernel_rfl
 i233:=by kernel_rfl
 m17:=by kernel_rfl
 m18:=by kernel_rfl
 m19:=by kernel_rfl}
open Go.RowKit Go.Sort Go.Lib in
theorem Tryz.strconv_Itoa (n:Int) (h0: -9223372036854775808<=n) (h1:n<=9223372036854775807) (w:World) (htab:Lib.TabIs prog w "internal/strconv.uint64pow10" .u64 Lib.pow10Tab) :
 Calls prog 108 #[.int .i64 n] w fun e w'=>e=.returned (.string ⟨(Lib.itoa n).toArray⟩)/\∃k os,w'=grow (w.drewN k) os:=Any.strconv_Itoa Tryz.laysM171 n h0 h1 w htab
def Tryz.laysC172_ren:Go.Shelf.Ren:=⟨fun|172=>130|244=>164|245=>165|247=>194|279=>195|280=>196|281=>197|282=>198|287=>206|316=>207|171=>108|205=>208|321=>216|322=>217|243=>151|246=>189|283=>201|284=>202|285=>203|286=>204|129=>211|317=>210|318=>212|319=>213|320=>214|337=>222|338=>223|n=>n,fun|9=>9|3=>3|75=>88|76=>89|4=>4|5=>5|167=>247|37=>82|0=>0|85=>248|2=>2|168=>250|53=>53|175=>261|46=>54|210=>264|127=>133|145=>273|143=>271|21=>21|171=>254|173=>257|212=>267|51=>183|20=>20|213=>268|232=>278|233=>279|80=>92|n=>n,fun|15=>3|16=>4|17=>5|18=>6|19=>7|n=>n⟩
theorem Tryz.laysC172:Go.Proofs.LaysC.n172 prog Tryz.laysC172_ren:={
 mixed:=by kernel_rfl
 f129:=func211.trans (congrArg some (by kernel_rfl))
 f171:=func108.trans (congrArg some (by kernel_rfl))
 f172:=func130.trans (congrArg some (by kernel_rfl))
 f205:=func208.trans (congrArg some (by kernel_rfl))
 f243:=func151.trans (congrArg some (by kernel_rfl))
 f244:=func164.trans (congrArg some (by kernel_rfl))
 f245:=func165.trans (congrArg some (by kernel_rfl))
 f246:=func189.trans (congrArg some (by kernel_rfl))
 f247:=func194.trans (congrArg some (by kernel_rfl))
 f279:=func195.trans (congrArg some (by kernel_rfl))
 f280:=func196.trans (congrArg some (by kernel_rfl))
 f281:=func197.trans (congrArg some (by kernel_rfl))
 f282:=func198.trans (congrArg some (by kernel_rfl))
 f283:=func201.trans (congrArg some (by kernel_rfl))
 f284:=func202.trans (congrArg some (by kernel_rfl))
 f285:=func203.trans (congrArg some (by kernel_rfl))
 f286:=func204.trans (congrArg some (by kernel_rfl))
 f287:=func206.trans (congrArg some (by kernel_rfl))
 f316:=func207.trans (congrArg some (by kernel_rfl))
 f317:=func210.trans (congrArg some (by kernel_rfl))
 f318:=func212.trans (congrArg some (by kernel_rfl))
 f319:=func213.trans (congrArg some (by kernel_rfl))
 f320:=func214.trans (congrArg some (by kernel_rfl))
 f321:=func216.trans (congrArg some (by kernel_rfl))
 f322:=func217.trans (congrArg some (by kernel_rfl))
 f337:=func222.trans (congrArg some (by kernel_rfl))
 f338:=func223.trans (congrArg some (by kernel_rfl))
 t0:=underlying0
 a0:=Tryz.isAgg0
 z0:=Tryz.sizeOf0
 v0:=Tryz.zeroValue0
 t2:=underlying2
 a2:=Tryz.isAgg2
 z2:=Tryz.sizeOf2
 v2:=Tryz.zeroValue2
 t3:=underlying3
 a3:=Tryz.isAgg3
 z3:=Tryz.sizeOf3
 v3:=Tryz.zeroValue3
 t4:=underlying4
 a4:=Tryz.isAgg4
 z4:=Tryz.sizeOf4
 v4:=Tryz.zeroValue4
 t5:=underlying5
 a5:=Tryz.isAgg5
 z5:=Tryz.sizeOf5
 v5:=Tryz.zeroValue5
 t9:=underlying9
 a9:=Tryz.isAgg9
 z9:=Tryz.sizeOf9
 v9:=Tryz.zeroValue9
 t20:=underlying20
 a20:=Tryz.isAgg20
 z20:=Tryz.sizeOf20
 v20:=Tryz.zeroValue20
 t21:=underlying21
 a21:=Tryz.isAgg21
 z21:=Tryz.sizeOf21
 v21:=Tryz.zeroValue21
 t37:=underlying82
 a37:=Tryz.isAgg82
 z37:=Tryz.sizeOf82
 v37:=Tryz.zeroValue82
 t46:=underlying54
 a46:=Tryz.isAgg54
 z46:=Tryz.sizeOf54
 v46:=Tryz.zeroValue54
 t51:=underlying183
 a51:=Tryz.isAgg183
 z51:=Tryz.sizeOf183
 v51:=Tryz.zeroValue183
 t53:=underlying53
 a53:=Tryz.isAgg53
 z53:=Tryz.sizeOf53
 v53:=Tryz.zeroValue53
 t75:=underlying88
 a75:=Tryz.isAgg88
 z75:=Tryz.sizeOf88
 v75:=Tryz.zeroValue88
 t76:=underlying89
 a76:=Tryz.isAgg89
 z76:=Tryz.sizeOf89
 v76:=Tryz.zeroValue89
 t85:=underlying248
 a85:=Tryz.isAgg248
 z85:=Tryz.sizeOf248
 v85:=Tryz.zeroValue248
 t127:=underlying133
 a127:=Tryz.isAgg133
 z127:=Tryz.sizeOf133
 v127:=Tryz.zeroValue133
 t143:=underlying271
 a143:=Tryz.isAgg271
 z143:=Tryz.sizeOf271
 v143:=Tryz.zeroValue271
 t145:=underlying273
 a145:=Tryz.isAgg273
 z145:=Tryz.sizeOf273
 v145:=Tryz.zeroValue273
 t167:=underlying247
 a167:=Tryz.isAgg247
 z167:=Tryz.sizeOf247
 v167:=Tryz.zeroValue247
 t168:=underlying250
 a168:=Tryz.isAgg250
 z168:=Tryz.sizeOf250
 v168:=Tryz.zeroValue250
 t171:=underlying254
 a171:=Tryz.isAgg254
 z171:=Tryz.sizeOf254
 v171:=Tryz.zeroValue254
 t173:=underlying257
 a173:=Tryz.isAgg257
 z173:=Tryz.sizeOf257
 v173:=Tryz.zeroValue257
 t175:=underlying261
 a175:=Tryz.isAgg261
 z175:=Tryz.sizeOf261
 v175:=Tryz.zeroValue261
 t210:=underlying264
 a210:=Tryz.isAgg264
 z210:=Tryz.sizeOf264
 v210:=Tryz.zeroValue264
 t212:=underlying267
 a212:=Tryz.isAgg267
 z212:=Tryz.sizeOf267
 v212:=Tryz.zeroValue267
 t213:=underlying268
 a213:=Tryz.isAgg268
 z213:=Tryz.sizeOf268
 t232:=underlying278
 a232:=Tryz.isAgg278
 z232:=Tryz.sizeOf278
 v232:=Tryz.zeroValue278
 t233:=underlying279
 a233:=Tryz.isAgg279
 z233:=Tryz.sizeOf279
 v233:=Tryz.zeroValue279
 g15:=by kernel_rfl
 g16:=by kernel_rfl
 g17:=by kernel_rfl
 g18:=by kernel_rfl
 g19:=by kernel_rfl
 t80:=underlying92
 a80:=Tryz.isAgg92
 z80:=Tryz.sizeOf92
 v80:=Tryz.zeroValue92
 i0:=by kernel_rfl
 i2:=by kernel_rfl
 i3:=by kernel_rfl
 i4:=by kernel_rfl
 i5:=by kernel_rfl
 i9:=by kernel_rfl
 i20:=by kernel_rfl
 i21:=by kernel_rfl
 i37:=by kernel_rfl
 i46:=by kernel_rfl
 i51:=by kernel_rfl
 i53:=by kernel_rfl
 i75:=by kernel_rfl
 i76:=by kernel_rfl
 i80:=by kernel_rfl
 i85:=by kernel_rfl
 i127:=by kernel_rfl
 i143:=by kernel_rfl
 i145:=by kernel_rfl
 i167:=by kernel_rfl
 i168:=by kernel_rfl
 i171:=by kernel_rfl
 i173:=by kernel_rfl
 i175:=by kernel_rfl
 i210:=by kernel_rfl
 i212:=by kernel_rfl
 i232:=by kernel_rfl
 i233:=by kernel_rfl
 m15:=by kernel_rfl
 m16:=by kernel_rfl
 m17:=by kernel_rfl
 m18:=by kernel_rfl
 m19:=by kernel_rfl
 c0:=by kernel_rfl
 c2:=by kernel_rfl
 c3:=by kernel_rfl
 c4:=by kernel_rfl
 c5:=by kernel_rfl
 c9:=by kernel_rfl
 c20:=by kernel_rfl
 c21:=by kernel_rfl
 c37:=by kernel_rfl
 c46:=by kernel_rfl
 c51:=by kernel_rfl
 c53:=by kernel_rfl
 c75:=by kernel_rfl
 c76:=by kernel_rfl
 c80:=by kernel_rfl
 c85:=by kernel_rfl
 c127:=by kernel_rfl
 c143:=by kernel_rfl
 c145:=by kernel_rfl
 c167:=by kernel_rfl
 c168:=by kernel_rfl
 c171:=by kernel_rfl
 c173:=by kernel_rfl
 c175:=by kernel_rfl
 c210:=by kernel_rfl
 c212:=by kernel_rfl
 c213:=by kernel_rfl
 c232:=by kernel_rfl
 c233:=by kernel_rfl}
open Go.RowKit in
theorem Tryz.strconv_Atoi_ok (s:ByteArray) (hmax:s.size<=9223372036854775806) (v:Int) (h:Lib.atoiAll s.data.toList=.ok v) (w:World) :
 Calls prog 130 #[.string s] w fun e w'=>e=.returned (.tuple #[.int .i64 v,.nilIface])/\(w'=w\/∃t,w'=Lib.bytesWorld w 5 t):=Any.strconv_Atoi_ok Tryz.laysC172 s hmax v h w
open Go.RowKit in
theorem Tryz.strconv_Atoi_range_var (s:ByteArray) (hlim:s.size<=281474976710656) (h:Lib.atoiAll s.data.toList=.range) (tp:TypeId) (p:Value) (w:World) (hvar:w.var? prog "strconv.ErrRange" =some #[.iface tp p]) :
 Calls prog 130 #[.string s] w fun e w'=>∃N,e=.returned (.tuple #[.int .i64 (Lib.atoiSat s.data.toList),.iface 250 (.pointer (some ⟨N,0,none⟩))])/\w.heap.size<=N/\w'.heap[N]? =some (.cells #[.string ⟨#[65,116,111,105]⟩,.string s,.iface tp p] 264 (0,0))/\Below w.heap.size w w':=Any.strconv_Atoi_range_var Tryz.laysC172 s hlim h tp p w hvar
def Tryz.lays206_ren:Go.Shelf.Ren:=⟨fun|206=>131|n=>n,fun|9=>9|4=>4|3=>3|n=>n,fun|n=>n⟩
def Tryz.lays99_ren:Go.Shelf.Ren:=⟨fun|99=>97|206=>131|n=>n,fun|9=>9|4=>4|3=>3|n=>n,fun|n=>n⟩
theorem Tryz.lays99:Go.Proofs.Lays.n99 prog Tryz.lays99_ren:={
 mixed:=by kernel_rfl
 f99:=func97.trans (congrArg some (by kernel_rfl))
 f206:=func131.trans (congrArg some (by kernel_rfl))
 t3:=underlying3
 a3:=Tryz.isAgg3
 z3:=Tryz.sizeOf3
 v3:=Tryz.zeroValue3
 t4:=underlying4
 a4:=Tryz.isAgg4
 z4:=Tryz.sizeOf4
 v4:=Tryz.zeroValue4
 t9:=underlying9
 a9:=Tryz.isAgg9
 z9:=Tryz.sizeOf9
 v9:=Tryz.zeroValue9}
open Go.RowKit Go.Lib in
theorem Tryz.strings_HasPrefix (s p:ByteArray) (w:World) :
 Calls prog 97 #[.string s,.string p] w fun e w'=>e=.returned (.bool (Lib.hasPrefix s.data.toList p.data.toList))/\w'=w:=Any.strings_HasPrefix Tryz.lays99 s p w
def Tryz.lays157_ren:Go.Shelf.Ren:=⟨fun|157=>90|229=>124|199=>125|261=>161|311=>192|312=>193|n=>n,fun|9=>9|31=>111|3=>3|5=>5|4=>4|119=>188|0=>0|40=>190|152=>217|21=>21|154=>219|51=>183|141=>221|196=>240|193=>237|198=>242|49=>22|194=>238|201=>245|226=>259|46=>54|227=>260|n=>n,fun|0=>0|6=>2|n=>n⟩
theorem Tryz.lays157:Go.Proofs.Lays.n157 prog Tryz.lays157_ren:={
 mixed:=by kernel_rfl
 f157:=func90.trans (congrArg some (by kernel_rfl))
 f199:=func125.trans (congrArg some (by kernel_rfl))
 f229:=func124.trans (congrArg some (by kernel_rfl))
 f261:=func161.trans (congrArg some (by kernel_rfl))
 f311:=func192.trans (congrArg some (by kernel_rfl))
 f312:=func193.trans (congrArg some (by kernel_rfl))
 t0:=underlying0
 a0:=Tryz.isAgg0
 z0:=Tryz.sizeOf0
 v0:=Tryz.zeroValue0
 t3:=underlying3
 a3:=Tryz.isAgg3
 z3:=Tryz.sizeOf3
 v3:=Tryz.zeroValue3
 t4:=underlying4
 a4:=Tryz.isAgg4
 z4:=Tryz.sizeOf4
 v4:=Tryz.zeroValue4
 t5:=underlying5
 a5:=Tryz.isAgg5
 z5:=Tryz.sizeOf5
 v5:=Tryz.zeroValue5
 t9:=underlying9
 a9:=Tryz.isAgg9
 z9:=Tryz.sizeOf9
 v9:=Tryz.zeroValue9
 t21:=underlying21
 a21:=Tryz.isAgg21
 z21:=Tryz.sizeOf21
 v21:=Tryz.zeroValue21
 t31:=underlying111
 a31:=Tryz.isAgg111
 z31:=Tryz.sizeOf111
 v31:=Tryz.zeroValue111
 t40:=underlying190
 a40:=Tryz.isAgg190
 z40:=Tryz.sizeOf190
 v40:=Tryz.zeroValue190
 t46:=underlying54
 a46:=Tryz.isAgg54
 z46:=Tryz.sizeOf54
 v46:=Tryz.zeroValue54
 t49:=underlying22
 a49:=Tryz.isAgg22
 z49:=Tryz.sizeOf22
 v49:=Tryz.zeroValue22
 t51:=underlying183
 a51:=Tryz.isAgg183
 z51:=Tryz.sizeOf183
 v51:=Tryz.zeroValue183
 t119:=underlying188
 a119:=Tryz.isAgg188
 z119:=Tryz.sizeOf188
 t141:=underlying221
 a141:=Tryz.isAgg221
 z141:=Tryz.sizeOf221
 v141:=Tryz.zeroValue221
 t152:=underlying217
 a152:=Tryz.isAgg217
 z152:=Tryz.sizeOf217
 v152:=Tryz.zeroValue217
 t154:=underlying219
 a154:=Tryz.isAgg219
 z154:=Tryz.sizeOf219
 v154:=Tryz.zeroValue219
 t193:=underlying237
 a193:=Tryz.isAgg237
 z193:=Tryz.sizeOf237
 v193:=Tryz.zeroValue237
 t194:=underlying238
 a194:=Tryz.isAgg238
 z194:=Tryz.sizeOf238
 v194:=Tryz.zeroValue238
 t196:=underlying240
 a196:=Tryz.isAgg240
 z196:=Tryz.sizeOf240
 v196:=Tryz.zeroValue240
 t198:=underlying242
 a198:=Tryz.isAgg242
 z198:=Tryz.sizeOf242
 v198:=Tryz.zeroValue242
 t201:=underlying245
 a201:=Tryz.isAgg245
 z201:=Tryz.sizeOf245
 v201:=Tryz.zeroValue245
 t226:=underlying259
 a226:=Tryz.isAgg259
 z226:=Tryz.sizeOf259
 v226:=Tryz.zeroValue259
 t227:=underlying260
 a227:=Tryz.isAgg260
 z227:=Tryz.sizeOf260
 v227:=Tryz.zeroValue260
 g0:=by kernel_rfl
 g6:=by kernel_rfl}
open Go.RowKit Go.Lib in
theorem Tryz.strings_Fields (s:ByteArray) (w:World) (hs:s.size<4294967281) (hascii:∀(j:Nat) b,s.data.toList[j]? =some b->b.toNat<128) (htab:Lib.TabIs prog w "strings.asciiSpace" .u8 Lib.asciiSpaceTab) :
 Calls prog 90 #[.string s] w fun e w'=>
  e=.returned (.slice (some ⟨w.heap.size,0,none⟩) (Lib.fields s.data.toList).length (Lib.fields s.data.toList).length)/\w'=w.alloc (.cells ((Lib.fields s.data.toList).map fun l=>Value.string ⟨l.toArray⟩).toArray 9):=Any.strings_Fields Tryz.lays157 (by kernel_rfl) (by kernel_rfl) s w hs hascii htab
def Tryz.lays109_ren:Go.Shelf.Ren:=⟨fun|109=>129|n=>n,fun|31=>111|9=>9|3=>3|0=>0|4=>4|n=>n,fun|n=>n⟩
theorem Tryz.lays109:Go.Proofs.Lays.n109 prog Tryz.lays109_ren:={
 mixed:=by kernel_rfl
 f109:=func129.trans (congrArg some (by kernel_rfl))
 t0:=underlying0
 a0:=Tryz.isAgg0
 z0:=Tryz.sizeOf0
 v0:=Tryz.zeroValue0
 t3:=underlying3
 a3:=Tryz.isAgg3
 z3:=Tryz.sizeOf3
 v3:=Tryz.zeroValue3
 t4:=underlying4
 a4:=Tryz.isAgg4
 z4:=Tryz.sizeOf4
 v4:=Tryz.zeroValue4
 t9:=underlying9
 a9:=Tryz.isAgg9
 z9:=Tryz.sizeOf9
 v9:=Tryz.zeroValue9
 t31:=underlying111
 a31:=Tryz.isAgg111
 z31:=Tryz.sizeOf111
 v31:=Tryz.zeroValue111}
open Go.Lib in
theorem Tryz.slices_Index_string (b off n c:Nat) (zs:List ByteArray) (x:ByteArray) (w:World) (hz:n<=zs.length) (hbig:n<=9223372036854775807) (hc:∀j,j<zs.length->w.cell? ⟨b,off+j,none⟩=some (.string (zs.getD j ByteArray.empty))) :
 Calls prog 129 #[.slice (some ⟨b,off,none⟩) n c,.string x] w fun e w'=>e=.returned (.int .i64 (Lib.idxOfS (zs.take n) x))/\w'=w:=Any.slices_Index_string Tryz.lays109 b off n c zs x w hz hbig hc
def Tryz.lays110_ren:Go.Shelf.Ren:=⟨fun|110=>94|109=>129|n=>n,fun|31=>111|9=>9|4=>4|3=>3|0=>0|n=>n,fun|n=>n⟩
theorem Tryz.lays110:Go.Proofs.Lays.n110 prog Tryz.lays110_ren:={
 mixed:=by kernel_rfl
 f109:=func129.trans (congrArg some (by kernel_rfl))
 f110:=func94.trans (congrArg some (by kernel_rfl))
 t0:=underlying0
 a0:=Tryz.isAgg0
 z0:=Tryz.sizeOf0
 v0:=Tryz.zeroValue0
 t3:=underlying3
 a3:=Tryz.isAgg3
 z3:=Tryz.sizeOf3
 v3:=Tryz.zeroValue3
 t4:=underlying4
 a4:=Tryz.isAgg4
 z4:=Tryz.sizeOf4
 v4:=Tryz.zeroValue4
 t9:=underlying9
 a9:=Tryz.isAgg9
 z9:=Tryz.sizeOf9
 v9:=Tryz.zeroValue9
 t31:=underlying111
 a31:=Tryz.isAgg111
 z31:=Tryz.sizeOf111
 v31:=Tryz.zeroValue111}
open Go.Lib in
theorem Tryz.slices_Contains_string (b off n c:Nat) (zs:List ByteArray) (x:ByteArray) (w:World) (hz:n<=zs.length) (hbig:n<=9223372036854775807) (hc:∀j,j<zs.length->w.cell? ⟨b,off+j,none⟩=some (.string (zs.getD j ByteArray.empty))) :
 Calls prog 94 #[.slice (some ⟨b,off,none⟩) n c,.string x] w fun e w'=>e=.returned (.bool (Lib.containsS (zs.take n) x))/\w'=w:=Any.slices_Contains_string Tryz.lays110 b off n c zs x w hz hbig hc
def Tryz.laysSlE31_f76_ren:Go.Shelf.Ren:=⟨fun|31=>76|29=>105|n=>n,fun|22=>24|23=>3|4=>4|3=>3|0=>0|n=>n,fun|n=>n⟩
def Tryz.laysSlE31_class2_ren:Go.Shelf.Ren:=⟨fun|31=>128|29=>163|n=>n,fun|22=>191|23=>144|4=>4|3=>3|0=>0|n=>n,fun|n=>n⟩
theorem Tryz.laysSlE31_class2:Go.Proofs.SlLaysE.n31 prog Tryz.laysSlE31_class2_ren:={
 mixed:=by kernel_rfl
 f29:=⟨Tryz.f163.name,by decide,func163.trans (congrArg some (by kernel_rfl))⟩
 f31:=⟨Tryz.f128.name,by decide,func128.trans (congrArg some (by kernel_rfl))⟩
 t0:=underlying0
 a0:=Tryz.isAgg0
 z0:=Tryz.sizeOf0
 v0:=Tryz.zeroValue0
 t3:=underlying3
 a3:=Tryz.isAgg3
 z3:=Tryz.sizeOf3
 v3:=Tryz.zeroValue3
 t4:=underlying4
 a4:=Tryz.isAgg4
 z4:=Tryz.sizeOf4
 v4:=Tryz.zeroValue4
 t22:=underlying191
 a22:=Tryz.isAgg191
 z22:=Tryz.sizeOf191
 v22:=Tryz.zeroValue191
 a23:=Tryz.isAgg144
 z23:=Tryz.sizeOf144}
open Go.Lib in
theorem Tryz.slices_Contains_class {α:Type} [Inhabited α] (enc:α->Value) (eq:α->α->Bool) (heq:EqlAt prog 144 enc eq) (b off n c:Nat) (zs:List α) (x:α) (w:World) (hz:n<=zs.length) (hbig:n<=9223372036854775807) (hc:∀j,j<zs.length->w.cell? ⟨b,off+j,none⟩=some (enc zs[j]!)) :
 Calls prog 128 #[.slice (some ⟨b,off,none⟩) n c,enc x] w fun e w'=>e=.returned (.bool ((zs.take n).any fun y=>eq x y))/\w'=w:=AnyE.slices_Contains Tryz.laysSlE31_class2 enc eq heq b off n c zs x w hz hbig hc
end
end Go.Proofs
namespace Go.Proofs.YtnncmdpopgkibaaGreatDoor
section
open Go.RowKit Lode Go.Shelf
open Go.Proofs.Tryz
def zaK(l:List (List UInt8)):Array Value:=(l.map fun x=>Value.string ⟨x.toArray⟩).toArray
def zkY(q:Option (Nat×List UInt8×Nat))(a:Int)(k:Int)(t:ByteArray)(a' n:Int)(ok:Bool):Prop:=
 match q with
 |some (k',t',n')=>ok=true/\k=k'/\t=⟨t'.toArray⟩/\a'=a/\n=n'
 |none=>ok=false
def Qy(q:Option (Nat×List UInt8×Nat))(a:Nat)(w:World)(e:Ending)(w':World):Prop:=
 ∃k t a' n ok,e=.returned (.tuple #[.agg #[.int .u8 k,.string t,.int .i64 a'],.int .i64 n,.bool ok])/\zkY q a k t a' n ok/\Below w.heap.size w w'
theorem Yq(p:UInt8->Bool):∀m:List UInt8,yc p m<=m.length
 |[]=>by simp[yc]
 |d :: m=>by simp only[yc];have:=Yq p m;split <;> simp;omega
theorem vY(s:ByteArray)(a n:Nat):(s.extract a (a+n)).data.toList=(s.data.toList.drop a).take n:=by
 simp[List.extract_eq_take_drop]
theorem Vb(s:ByteArray):s=⟨s.data.toList.toArray⟩:=by simp
theorem zdr(s:ByteArray)(a m:Nat)(ha:a<s.size)(h1:yg s[a]=true)(hm:yc (fun c=>yf c || (true && yg c)) (s.data.toList.drop (a+1))=m):
 yM (s.data.toList.drop a)=if 1+m<=12 then some (if qx.contains (s.extract a (a+(1+m))).data.toList then 5 else 1,(s.extract a (a+(1+m))).data.toList,1+m) else none:=by
 have e:(fun c=>yf c || (true && yg c))=(fun c=>yg c || yf c):=by funext c;simp[Bool.or_comm]
 rw[e] at hm;rw[vY,kf s a ha];simp only[yM,h1,if_true,hm]
theorem yP{w w1:World}(h:Below w.heap.size w w1)(o:Obj):Below w.heap.size w (w1.alloc o):=h.alloc h.size o
theorem YT{s:ByteArray}{a m k:Nat}{q:Option (Nat×List UInt8×Nat)}(hq:q=if 1+m<=12 then some (k,(s.extract a (a+(1+m))).data.toList,1+m) else none):
 zkY q a k (s.extract a (a+(1+m))) a (1+(m:Int)) (decide (1+(m:Int)<=12)):=by
 subst hq;by_cases h:1+m<=12
 ·rw[if_pos h];exact⟨by simp;omega,rfl,Vb _,rfl,by omega⟩
 ·rw[if_neg h];show _=_;simp;omega
theorem zg8(s:ByteArray)(a m:Nat)(ha:a<s.size)(h1:yg s[a]=false)(h2:YQ s[a]=true)(hm:yc (fun c=>yf c || (true && yg c)) (s.data.toList.drop (a+1))=m):
 yM (s.data.toList.drop a)=if 1+m<=12 then some (2,(s.extract a (a+(1+m))).data.toList,1+m) else none:=by
 have e:(fun c=>yf c || (true && yg c))=(fun c=>yg c || yf c):=by funext c;simp[Bool.or_comm]
 rw[e] at hm;rw[vY,kf s a ha];simp only[yM,h1,h2,if_true,hm,Bool.false_eq_true,if_false]
theorem zds(s:ByteArray)(a:Nat)(ha:a<s.size)(h:s[a]=34):
 yM (s.data.toList.drop a)=(Lode.xP (s.data.toList.drop a)).map fun x=>(4,x.1,x.2):=by
 rw[kf s a ha,h];simp only[yM,show yg 34=false from rfl,show YQ 34=false from rfl,show yf 34=false from rfl,if_true,Bool.false_eq_true,if_false]
theorem zfU(s:ByteArray)(a:Nat)(ha:a<s.size)(h1:yg s[a]=false)(h2:YQ s[a]=false)(h3:yf s[a]=false)(h4:s[a]≠34):
 yM (s.data.toList.drop a)=(zT.find? fun g=>yL g (s.data.toList.drop a)).map fun g=>(6,g,g.length):=by
 rw[kf s a ha];simp only[yM,h1,h2,h3,h4,Bool.false_eq_true,if_false]
end
section
open Go.RowKit Lode Go.Shelf
attribute [local go_sem ↓] Go.wp_at_zero Go.wp_at_succ
open Go.Proofs.Tryz
theorem zk(w:World)(o:Obj):(w.alloc o).heap[w.heap.size]? =some o:=by
 show (w.heap.push o)[w.heap.size]? =_;simp
theorem jw{w:World}{b:Nat}{o:Obj}(o':Obj)(h:w.heap[b]? =some o):(w.alloc o').heap[b]? =some o:=by
 rw[Below.heap_alloc w o' b (gtA h)];exact h
theorem vd{w w1:World}(h:Below w.heap.size w w1)(b o:Nat)(hb:w.heap.size<=b)(v:Value):Below w.heap.size w (w1.setCell ⟨b,o,none⟩ v):=h.setCell (p:=⟨b,o,none⟩) hb v
theorem ym{w w1:World}(h:Below w.heap.size w w1)(n:Nat):Below w.heap.size w (w1.drewN n):=by
 induction n with
 |zero=>exact h
 |succ n ih=>exact ih.drew
theorem zd{w:World}{b:Nat}{cs:Array Value}{T:TypeId}{fr:Nat×Nat}(hb:w.heap[b]? =some (.cells cs T fr))(j:Nat):w.cell? ⟨b,j,none⟩=cs[j]? :=by
 simp[World.cell?,hb]
theorem zl{w:World}{b:Nat}{cs:Array Value}{T:TypeId}(hb:w.heap[b]? =some (.cells cs T (0,0)))(j:Nat):w.frozen? ⟨b,j,none⟩=false:=by
 simp[World.frozen?,hb]
theorem Xq{P:Program}{c:Code}{Q:Exit->Act->World->Prop}{a:Act}{w:World}(h:c.wp P (fun e a w=>match e with| .normal=>Q .normal a w|_=>False) a w):c.wp P Q a w:=
 Code.wp_mono (fun e a w q=>by cases e <;> first|exact q|exact q.elim) h
theorem ZF(w:World)(n:Nat):(w.drewN n).heap=w.heap:=by
 induction n with
 |zero=>rfl
 |succ n ih=>exact ih
theorem kE(V:World)(o:Obj)(b:Nat)(h:b=V.heap.size):(V.alloc o).heap[b]? =some o:=by subst h;exact zk V o
end
section
open Go.RowKit Lode Go.Shelf
open Go.Proofs.Tryz
theorem szB:(prog.info? 84).map (·.size)=some 2:=by kernel_rfl
theorem zlq:liesAt prog prog.depth 84 (2 / prog.cellsOf 84) 0 84 1=true:=by kernel_rfl
theorem zbt:(prog.info? 5).map (fun i=>(i.zero,i.size,i.bytes))=some (some (.int .u8 0),1,1):=by kernel_rfl
abbrev JD(B b:Nat)(p:Value)(bs:List Value)(w:World):Prop:=Lib.BuilderAt 84 5 B b p bs w
abbrev IsB(B b:Nat)(bs:List Value)(w:World):Prop:=Lib.IsBuilder 84 5 B b bs w
theorem uw(b:Nat)(w:World)(h0:w.cell? ⟨b,0,none⟩=some (.pointer (some ⟨b,0,none⟩))):
 Calls prog 80 #[.pointer (some ⟨b,0,none⟩)] w fun e w'=>e=.returned (.tuple #[])/\w'=w:=by
 obtain⟨j,hj,_⟩:=Option.map_eq_some_iff.1 szB;go_enter func80,ntmps80;go_wp2;rw[Lib.run_neq_ptr_same w _ underlying81 hj];go_wp2;go_end0;exact⟨rfl,rfl⟩
theorem vS(b:Nat)(w:World)(h0:w.cell? ⟨b,0,none⟩=some (.pointer none))(hsh:w.shape? b=some (84,2))(hfz:w.frozen? ⟨b,0,none⟩=false):
 Calls prog 80 #[.pointer (some ⟨b,0,none⟩)] w fun e w'=>e=.returned (.tuple #[])/\w'=w.setCell ⟨b,0,none⟩ (.pointer (some ⟨b,0,none⟩)):=by
 obtain⟨j,hj,hjs⟩:=Option.map_eq_some_iff.1 szB;go_enter func80,ntmps80;go_wp2;rw[Lib.run_to_unsafe w ⟨b,0,none⟩ underlying81 underlying181 hj (by rw[hjs];decide) hsh (Nat.zero_lt_succ 1)];simp only[Result.andThen];rw[Oper.upon_value];go_wp2;rw[run_callFunc_extern func119 (by kernel_rfl) (by kernel_rfl) (by kernel_rfl) (e:=Extern.AbiNoEscape.same) (by kernel_rfl)];rw[Lib.run_noEscape];simp only[Result.andThen];rw[Oper.upon_value];go_wp2;rw[Lib.run_from_unsafe w ⟨b,0,none⟩ underlying181 underlying81 hj hsh zlq];simp only[Result.andThen];rw[Oper.upon_value];go_wp2;go_end0;exact⟨rfl,rfl⟩
theorem YO(B b:Nat)(bs:List Value)(w:World)(h:IsB B b bs w):
 Calls prog 80 #[.pointer (some ⟨b,0,none⟩)] w fun e w'=>e=.returned (.tuple #[])/\(JD B b (.pointer (some ⟨b,0,none⟩)) bs w'/\Below B w w'):=by
 rcases h with h|h
 ·refine (vS b w h.cell0 h.shape h.frozen0).mono ?_;rintro e w' ⟨rfl,rfl⟩;exact⟨rfl,h.used _,(pF B w).setCell (p:=⟨b,0,none⟩) h.1 _⟩
 ·refine (uw b w h.cell0).mono ?_;rintro e w' ⟨rfl,rfl⟩;exact⟨rfl,h,pF B _⟩
theorem Vm(B b:Nat)(bs:List Value)(c:Int)(w:World)(h:IsB B b bs w)(hlen:bs.length+1<=140737488355328)(hBw:B<=w.heap.size):
 Calls prog 52 #[.pointer (some ⟨b,0,none⟩),.int .u8 c] w fun e w'=>e=.returned .nilIface/\(JD B b (.pointer (some ⟨b,0,none⟩)) (bs ++ [.int .u8 c]) w'/\Below B w w'):=by
 obtain⟨i0,hi,hz0,hz1,hz2⟩:=info_parts zbt;go_enter func52,ntmps52;go_wp2_with (go_at_call 80;refine (YO B b bs _ h).mono ?_);rintro e w1 ⟨rfl,h1,hb1⟩;obtain⟨hB,v,hbk,hown,hne⟩:=h1;have c0:w1.cell? ⟨b,0,none⟩=some (.pointer (some ⟨b,0,none⟩)):=by rw[Lib.cell_of_heap hbk];rfl
 have c1:w1.cell? ⟨b,1,none⟩=some v:=by rw[Lib.cell_of_heap hbk];rfl
 go_wp2_with (at_builtin;refine wpList_append_own _ rfl _ _ 82 rfl B 5 i0 (.int .u8 0) 1 1 underlying82 hi hz0 hz1 hz2 rfl (by decide) _ _ _ rfl (hown.alloc _) ⟨w1.heap.size,0,none⟩ 1 1 [.int .u8 c] rfl rfl ?c1 ?c2 ?c3 ?c4 ?c5 ?_)
 case c1=>
  intro j u hj
  match j,hj with
  |0,hj=>simp at hj;subst hj;simp[Addr.add]
 case c2=>intro u hu;simp at hu;subst hu;rfl
 case c3=>unfold maxLen;omega
 case c4=>omega
 case c5=>have:=hb1.size;simp;omega
 intro v' w2 hown' hgrow _;have hlt:b<w1.heap.size:=by
  rcases Nat.lt_or_ge b w1.heap.size with h'|h'
  ·exact h'
  ·simp[Array.getElem?_eq_none h'] at hbk
 have hb2:w2.heap[b]? =some (.cells #[.pointer (some ⟨b,0,none⟩),v] 84 (0,0)):=by
  rw[hgrow.block b (by simp;omega) (fun e=>hne e.symm),Lib.alloc_old w1 _ b hlt];exact hbk
 have d0:w2.cell? ⟨b,0,none⟩=some (.pointer (some ⟨b,0,none⟩)):=by rw[Lib.cell_of_heap hb2];rfl
 have d1:w2.cell? ⟨b,1,none⟩=some v:=by rw[Lib.cell_of_heap hb2];rfl
 have f1:w2.frozen? ⟨b,1,none⟩=false:=Lib.frozen_of_heap hb2 1;obtain⟨g,cap,rfl⟩:∃g cap,v'=.slice (some ⟨g,0,none⟩) (bs.length+1) cap:=by
  rcases hown'.2 with⟨_,h0⟩|⟨g,cap,cur,hv,_⟩
  ·omega
  ·exact⟨g,cap,hv⟩
 go_wp2;go_ret;refine⟨rfl,?_,?_⟩
 ·exact Lib.BuilderAt.put (T:=84) (e:=5) hB hb2 (bs':=bs ++ [.int .u8 c]) (by simpa using hown') (by decide)
 ·exact ((hb1.alloc (by have:=hb1.size;omega) _).grown hgrow (by have:=hb1.size;simp;omega) (fun k hk=>(hown.lt k hk).1)).setCell (p:=⟨b,1,none⟩) hB _
theorem Jk(B b:Nat)(bs:List Value)(s:ByteArray)(w:World)(h:IsB B b bs w)(hlen:bs.length+s.size<=140737488355328)(hBw:B<=w.heap.size):
 Calls prog 46 #[.pointer (some ⟨b,0,none⟩),.string s] w fun e w'=>e=.returned (.tuple #[.int .i64 s.size,.nilIface])/\(JD B b (.pointer (some ⟨b,0,none⟩)) (bs ++ Lib.strCells s) w'/\Below B w w'):=by
 obtain⟨i0,hi,hz0,hz1,hz2⟩:=info_parts zbt;go_enter func46,ntmps46;go_wp2_with (go_at_call 80;refine (YO B b bs _ h).mono ?_);rintro e w1 ⟨rfl,h1,hb1⟩;obtain⟨hB,v,hbk,hown,hne⟩:=h1;have c0:w1.cell? ⟨b,0,none⟩=some (.pointer (some ⟨b,0,none⟩)):=by rw[Lib.cell_of_heap hbk];rfl
 have c1:w1.cell? ⟨b,1,none⟩=some v:=by rw[Lib.cell_of_heap hbk];rfl
 go_wp2_with (at_builtin;refine Lib.wpList_append_own_string _ rfl _ _ 82 9 rfl B 5 i0 underlying82 underlying9 hi hz0 hz1 hz2 _ _ _ rfl hown s rfl ?c3 ?c4 ?c5 ?_)
 case c3=>unfold maxLen;omega
 case c4=>omega
 case c5=>have:=hb1.size;omega
 intro v' w2 hown' hgrow _;have hlt:b<w1.heap.size:=by
  rcases Nat.lt_or_ge b w1.heap.size with h'|h'
  ·exact h'
  ·simp[Array.getElem?_eq_none h'] at hbk
 have hb2:w2.heap[b]? =some (.cells #[.pointer (some ⟨b,0,none⟩),v] 84 (0,0)):=by
  rw[hgrow.block b hlt (fun e=>hne e.symm)];exact hbk
 have d0:w2.cell? ⟨b,0,none⟩=some (.pointer (some ⟨b,0,none⟩)):=by rw[Lib.cell_of_heap hb2];rfl
 have d1:w2.cell? ⟨b,1,none⟩=some v:=by rw[Lib.cell_of_heap hb2];rfl
 have f1:w2.frozen? ⟨b,1,none⟩=false:=Lib.frozen_of_heap hb2 1;obtain⟨ao,n',cap,rfl⟩:∃ao n' cap,v'=.slice ao n' cap:=by
  rcases hown'.2 with⟨hv,_⟩|⟨g,cap,cur,hv,_⟩
  ·exact⟨_,_,_,hv⟩
  ·exact⟨_,_,_,hv⟩
 go_wp2;go_ret2;refine⟨rfl,?_,?_⟩
 ·exact Lib.BuilderAt.put (T:=84) (e:=5) hB hb2 (bs':=bs ++ Lib.strCells s) (by simpa[Lib.strCells_length] using hown') (by decide)
 ·exact (hb1.grown hgrow (by have:=hb1.size;omega) (fun k hk=>(hown.lt k hk).1)).setCell (p:=⟨b,1,none⟩) hB _
end
section
open Go.RowKit Lode Go.Shelf
attribute [local go_sem ↓] Go.wp_at_zero Go.wp_at_succ
open Go.Proofs.Tryz
def vK(w:World)(R:Nat)(s:ByteArray)(a:Nat)(wv sv:Value):Prop:=w.heap[R]? =some (.cells #[.string s,.int .i64 a,wv,sv] 114 (0,0))
theorem KD:∀(m:List UInt8),(Lib.indexByte m 10= -1/\zI true m=m.length)\/∃n:Nat,Lib.indexByte m 10=n/\n<m.length/\zI true m=n+zI false (m.drop n)
 |[]=>.inl ⟨rfl,rfl⟩
 |c :: m=>by
  by_cases hc:c=10
  ·subst hc;exact .inr ⟨0,by simp[Lib.indexByte],by simp,by simp[zI]⟩
  ·have hc':(c == 10)=false:=by simpa using hc
   have hg:zI true (c :: m)=zI true m+1:=by simp only[zI,if_neg hc];by_cases h:c=35 <;> simp[h]
   rcases KD m with⟨h1,h2⟩|⟨n,h1,h2,h3⟩
   ·refine .inl ⟨by simp[Lib.indexByte,hc',h1],by rw[hg,h2];simp⟩
   ·refine .inr ⟨n+1,?_,by simp;omega,by rw[hg,h3];simp;omega⟩;have:¬((n:Int)= -1):=by omega
    simp[Lib.indexByte,hc',h1,this]
theorem zgz(c:UInt8)(r:List UInt8):(Lib.indexByte (c :: r) 10= -1/\(c=35->zI false (c :: r)=r.length+1))\/∃n:Nat,Lib.indexByte (c :: r) 10=n/\n<r.length+1/\(c=35->0<n/\zI false (c :: r)=n+zI false ((c :: r).drop n)):=by
 by_cases hc:c=35
 ·subst hc;have hg:zI false (35 :: r)=zI true r+1:=by simp[zI]
  rcases KD r with⟨h1,h2⟩|⟨n,h1,h2,h3⟩
  ·exact .inl ⟨by simp[Lib.indexByte,h1],fun _=>by rw[hg,h2]⟩
  ·refine .inr ⟨n+1,?_,by omega,fun _=>⟨by omega,by rw[hg,h3];simp;omega⟩⟩;have:¬((n:Int)= -1):=by omega
   simp[Lib.indexByte,h1,this]
 ·rcases KD (c :: r) with⟨h1,_⟩|⟨n,h1,h2,_⟩
  ·exact .inl ⟨h1,fun h=>absurd h hc⟩
  ·exact .inr ⟨n,h1,by simpa using h2,fun h=>absurd h hc⟩
theorem zr{w:World}{R:Nat}{cs:Array Value}{T:TypeId}{fr:Nat×Nat}(h:w.heap[R]? =some (.cells cs T fr))(i:Nat)(v:Value):(w.setCell ⟨R,i,none⟩ v).heap[R]? =some (.cells (cs.setIfInBounds i v) T fr):=by
 simp[World.setCell,Array.getElem?_modify,h]
theorem qZ(w:World)(R i:Nat)(v:Value):w.grownBy (w.setCell ⟨R,i,none⟩ v) (some R):=
 ⟨rfl,rfl,rfl,by simp[World.setCell],fun k _ hne=>by
  have:R≠k:=fun e=>hne (by rw[e])
  simp[World.setCell,Array.getElem?_modify,this]⟩
theorem qS{w w1 w2:World}{r:Option Nat}(h:w.grownBy w1 r)(e:w2.heap=w1.heap)(e1:w2.os=w1.os)(e2:w2.tape=w1.tape)(e3:w2.output=w1.output):w.grownBy w2 r:=
 ⟨e1.trans h.os,e2.trans h.tape,e3.trans h.output,by rw[e];exact h.size,by rw[e];exact h.block⟩
theorem vK.like{w1 w2:World}{R:Nat}{s:ByteArray}{a:Nat}{wv sv:Value}(h:vK w1 R s a wv sv)(e:w2.heap=w1.heap):vK w2 R s a wv sv:=by unfold vK at *;rw[e];exact h
theorem vK.set{w:World}{R:Nat}{s:ByteArray}{a:Nat}{wv sv:Value}(h:vK w R s a wv sv)(k:Int)(k':Nat)(hk:k=k'):vK (w.setCell ⟨R,1,none⟩ (.int .i64 k)) R s k' wv sv:=by
 subst hk;exact zr h 1 _
def zly(w:World)(R:Nat)(s:ByteArray)(g:Nat)(wv sv:Value)(m:Nat)(wr:World):Prop:=
 ∃k,k<=s.size/\vK wr R s k wv sv/\w.grownBy wr (some R)/\g=k+zI false (s.data.toList.drop k)/\m=s.size-k
def zaR(R:Nat)(w:World):Nat:=match w.cell? ⟨R,1,none⟩ with|some (.int _ i)=>i.toNat|_=>0
theorem vK.pos{w:World}{R:Nat}{s:ByteArray}{a:Nat}{wv sv:Value}(h:vK w R s a wv sv):zaR R w=a:=by
 simp[zaR,World.cell?,show w.heap[R]? =_ from h]
theorem zhi(R:Nat)(s:ByteArray)(a:Nat)(wv sv:Value)(w:World)(hs:s.size<=1000000000000)(ha:a<=s.size)(hR:vK w R s a wv sv):
 Calls prog 65 #[.pointer (some ⟨R,0,none⟩)] w fun e w'=>e=.returned (.tuple #[])/\vK w' R s (a+zI false (s.data.toList.drop a)) wv sv/\w.grownBy w' (some R):=by
 generalize hg:a+zI false (s.data.toList.drop a)=g;have Hg:=zi hg.symm;clear hg;have HR:=zi hR;clear hR;go_enter func65,ntmps65;go_wp2_with fail;go_step3;go_wp2_with fail
 try go_step3
 go_wp2_with fail;go_loopg [] (s.size-a) (fun m wr=>zly w R s g wv sv m wr)
 case atStart=>exact⟨a,ha,HR.out,World.grownBy.refl _ _,Hg.out,rfl⟩
 case round=>
  obtain⟨k,hk,hr,hgr,hgk,rfl⟩:=hrel;have hc0:wr.cell? ⟨R,0,none⟩=some (.string s):=zd hr 0;have hc1:wr.cell? ⟨R,1,none⟩=some (.int .i64 k):=zd hr 1;have hf1:wr.frozen? ⟨R,1,none⟩=false:=zl hr 1;have hr:=zi hr;by_cases hlt:k<s.size
  ·have hki:(k:Int)<(s.size:Int):=by omega
   have Hix:=zi (fun w=>Tryz.strings_IndexByte (s.extract k s.size) 10 w);have hxe:(s.extract k s.size).data.toList=s[k] :: s.data.toList.drop (k+1):=by rw[<-kf s k hlt];simp[List.extract_eq_take_drop];exact List.take_of_length_le (by simp)
   rw[hxe] at Hix;have hg2:=zgz s[k] (s.data.toList.drop (k+1));rw[kf s k hlt] at hgk;have hgk:=zi hgk;clear hxe;have hc35:∀h:((s[k].toNat:Int) == 35)=true,s[k]=35:=fun h=>by rw[pS] at h;exact UInt8.toNat_inj.1 (by simpa using (by omega:s[k].toNat=35))
   have hc35:=zi hc35;rcases hg2 with⟨h1,h2⟩|⟨n,h1,h2,h3⟩
   ·rw[show ((10:Int).toNat.toUInt8)=10 from rfl,h1] at Hix;have h2:=zi h2;clear h1;go_wp2_with fail;go_quiet (fail);go_wp2_with fail;go_quiet (fail);go_wp2_with fail
    ·go_roundg (s.size-(k+1))
     case rel=>exact⟨k+1,by omega,(hr.out.set _ (k+1) (by omega)).like rfl,qS (hgr.trans (qZ wr R 1 _)) rfl rfl rfl rfl,zai hgk.out (by rename_i h _;rw[pS] at h;rw[h];rfl) (by rename_i h _;rw[pS] at h;rw[h];rfl) (by rename_i h _;rw[pS] at h;exact h),rfl⟩
     case measure=>omega
    ·go_roundg (s.size-(k+1))
     case rel=>exact⟨k+1,by omega,(hr.out.set _ (k+1) (by omega)).like rfl,qS (hgr.trans (qZ wr R 1 _)) rfl rfl rfl rfl,zia hgk.out ‹_›,rfl⟩
     case measure=>omega
    ·go_quiet ((go_at_call 91;refine (Hix.out _).mono ?_;rintro e w' ⟨rfl,rfl⟩;exact⟨rfl,_,rfl⟩));go_wp2_with fail;go_roundg (s.size-s.size)
     case rel=>exact⟨s.size,pE _,(hr.out.set _ s.size rfl).like rfl,qS (hgr.trans (qZ wr R 1 _)) rfl rfl rfl rfl,by
      rw[hgk.out,h2.out (hc35.out ‹_›),YB s _ (pE _)];simp[zI];omega,rfl⟩
     case measure=>omega
    ·rw[Exit.noGoto_normal];go_end0;obtain rfl:=zft hgk.out ‹_› ‹_› ⟨by have h:=‹((s[k].toNat:Int) == 32)=false›;rw[bne,h];rfl,rfl⟩;exact⟨rfl,hr.out.like rfl,qS hgr rfl rfl rfl rfl⟩
   ·rw[show ((10:Int).toNat.toUInt8)=10 from rfl,h1] at Hix;have h2:k+n<s.size:=by simp at h2;omega
    have h3:=zi h3;clear h1;go_wp2_with fail;go_quiet (fail);go_wp2_with fail;go_quiet (fail);go_wp2_with fail
    ·go_roundg (s.size-(k+1))
     case rel=>exact⟨k+1,by omega,(hr.out.set _ (k+1) (by omega)).like rfl,qS (hgr.trans (qZ wr R 1 _)) rfl rfl rfl rfl,zai hgk.out (by rename_i h _;rw[pS] at h;rw[h];rfl) (by rename_i h _;rw[pS] at h;rw[h];rfl) (by rename_i h _;rw[pS] at h;exact h),rfl⟩
     case measure=>omega
    ·go_roundg (s.size-(k+1))
     case rel=>exact⟨k+1,by omega,(hr.out.set _ (k+1) (by omega)).like rfl,qS (hgr.trans (qZ wr R 1 _)) rfl rfl rfl rfl,zia hgk.out ‹_›,rfl⟩
     case measure=>omega
    ·go_quiet ((go_at_call 91;refine (Hix.out _).mono ?_;rintro e w' ⟨rfl,rfl⟩;exact⟨rfl,_,rfl⟩));go_wp2_with fail;go_roundg (s.size-(k+n))
     case rel=>exact⟨k+n,by omega,(hr.out.set _ (k+n) (by omega)).like rfl,qS (hgr.trans (qZ wr R 1 _)) rfl rfl rfl rfl,by
      rw[hgk.out,(h3.out (hc35.out ‹_›)).2,<-kf s k hlt,List.drop_drop];omega,rfl⟩
     case measure=>have:=(h3.out (hc35.out ‹_›)).1;omega
    ·rw[Exit.noGoto_normal];go_end0;obtain rfl:=zft hgk.out ‹_› ‹_› ⟨by have h:=‹((s[k].toNat:Int) == 32)=false›;rw[bne,h];rfl,rfl⟩;exact⟨rfl,hr.out.like rfl,qS hgr rfl rfl rfl rfl⟩
  ·obtain rfl:k=s.size:=by omega
   have hge:¬((s.size:Int)<(s.size:Int)):=by omega
   have hgk:=zi hgk;go_wp2_with fail;go_quiet (fail);go_wp2_with fail;rw[Exit.noGoto_normal];go_end0;obtain rfl:g=s.size:=by rw[hgk.out,YB s _ (pE _)];rfl
   exact⟨rfl,hr.out.like rfl,qS hgr rfl rfl rfl rfl⟩
def QJ(s:ByteArray)(j:Nat)(ob:ByteArray)(q:Option (List UInt8×Nat)):Prop:=∃k,j=0+1+k/\uA s 0 k ob q/\ob.size<=k
theorem zfy(s:ByteArray)(i:Nat)(h:i<s.size):s.extract i (i+1)=⟨#[s[i]]⟩:=ByteArray.ext (Array.toList_inj.1 (Yj s i h))
theorem Yw{s:ByteArray}(hB:∀c,c∈s.data.toList->jW c=true)(j:Nat)(hj:j<s.size):(s[j].toNat:Int)=10\/(32<=(s[j].toNat:Int)/\(s[j].toNat:Int)<=126):=by
 have h:jW s[j]=true:=hB _ (by show s.data[j]∈s.data.toList;simp);simp only[jW,wF,pG,pH,pS] at h;omega
section
variable {s:ByteArray} {j:Nat} {ob:ByteArray} {q:Option (List UInt8×Nat)}
theorem zkI(h:QJ s j ob q)(he:s.size<=j):q=none:=by obtain⟨k,rfl,h,_⟩:=h;exact zll h he
theorem zlp(h:QJ s j ob q)(hlt:j<s.size)(b:((s[j].toNat:Int) == 10)=true):q=none:=by
 obtain⟨k,rfl,h,_⟩:=h;rw[pS] at b;exact zlm h hlt (by omega)
theorem zhS(h:QJ s j ob q)(hB:∀c,c∈s.data.toList->jW c=true)(hlt:j<s.size)(b:((s[j].toNat:Int) == 10)=false)(b3:((s[j].toNat:Int) == 34)=true):ziF q (j+1) ob (decide ((ob.size:Int)<=60)):=by
 have:=Yw hB j hlt;rw[pB] at b;obtain⟨k,rfl,h,_⟩:=h;exact zjc h hlt (by omega) (by omega) b3 _ (by omega)
theorem zhQ(h:QJ s j ob q)(hB:∀c,c∈s.data.toList->jW c=true)(hlt:j<s.size)(b:((s[j].toNat:Int) == 10)=false)(b3:((s[j].toNat:Int) == 34)=false)(b4:((s[j].toNat:Int) == 92)=false):QJ s (j+1) (ob ++ ⟨#[s[j]]⟩) q:=by
 rw[<-zfy s j hlt];have:=Yw hB j hlt;rw[pB] at b;obtain⟨k,rfl,h,ho⟩:=h;exact⟨k+1,by omega,zjb h hlt (by omega) (by omega) b3 (by rw[bne,b4];rfl),by rw[ByteArray.size_append,ByteArray.size_extract];omega⟩
theorem zkJ(h:QJ s j ob q)(hB:∀c,c∈s.data.toList->jW c=true)(hlt:j<s.size)(b:((s[j].toNat:Int) == 10)=false)(b3:((s[j].toNat:Int) == 34)=false)(b4:((s[j].toNat:Int) == 92)=true)(he:s.size<=j+1):q=none:=by
 have:=Yw hB j hlt;rw[pB] at b;obtain⟨k,rfl,h,ho⟩:=h;exact zgj h hlt (by omega) (by omega) b3 (by rw[bne,b4];rfl) he
theorem zhR(h:QJ s j ob q)(hB:∀c,c∈s.data.toList->jW c=true)(hlt:j<s.size)(b:((s[j].toNat:Int) == 10)=false)(b3:((s[j].toNat:Int) == 34)=false)(b4:((s[j].toNat:Int) == 92)=true)(h2:j+1<s.size)
 (b5:((s[j+1].toNat:Int) == 34)=true\/((s[j+1].toNat:Int) == 92)=true):QJ s (j+2) (ob ++ ⟨#[s[j+1]]⟩) q:=by
 rw[<-zfy s (j+1) h2];have:=Yw hB j hlt;rw[pB] at b;obtain⟨k,rfl,h,ho⟩:=h;exact⟨k+2,by omega,zln h hlt (by omega) (by omega) b3 (by rw[bne,b4];rfl) h2 (by simpa only[pS] using b5),by rw[ByteArray.size_append,ByteArray.size_extract];omega⟩
theorem zjk(h:QJ s j ob q)(hB:∀c,c∈s.data.toList->jW c=true)(hlt:j<s.size)(b:((s[j].toNat:Int) == 10)=false)(b3:((s[j].toNat:Int) == 34)=false)(b4:((s[j].toNat:Int) == 92)=true)(h2:j+1<s.size)
 (b5:((s[j+1].toNat:Int) == 34)=false) (b6:((s[j+1].toNat:Int) == 92)=false) (b7:((s[j+1].toNat:Int) == 110)=true):QJ s (j+2) (ob ++ ⟨#[10]⟩) q:=by
 have:=Yw hB j hlt;rw[pB] at b b5 b6;rw[pS] at b7;obtain⟨k,rfl,h,ho⟩:=h;exact⟨k+2,by omega,zkC h hlt (by omega) (by omega) b3 (by rw[bne,b4];rfl) h2 ⟨b5,b6⟩ b7,by rw[ByteArray.size_append];show ob.size+1<=k+2;omega⟩
theorem zkK(h:QJ s j ob q)(hB:∀c,c∈s.data.toList->jW c=true)(hlt:j<s.size)(b:((s[j].toNat:Int) == 10)=false)(b3:((s[j].toNat:Int) == 34)=false)(b4:((s[j].toNat:Int) == 92)=true)(h2:j+1<s.size)
 (b5:((s[j+1].toNat:Int) == 34)=false) (b6:((s[j+1].toNat:Int) == 92)=false) (b7:((s[j+1].toNat:Int) == 110)=false):q=none:=by
 have:=Yw hB j hlt;rw[pB] at b b5 b6 b7;obtain⟨k,rfl,h,ho⟩:=h;exact zlo h hlt (by omega) (by omega) b3 (by rw[bne,b4];rfl) h2 ⟨b5,b6⟩ b7
end
def Bd(w0:World)(b:Nat)(ob:ByteArray)(w:World):Prop:=IsB w0.heap.size b (Lib.byteCells ob.data.toList) w/\Below w0.heap.size w0 w
theorem Bd.fresh(w:World)(b:Nat)(hb:b=w.heap.size):Bd w b ByteArray.empty (w.alloc (.cells #[.pointer none,.slice none 0 0] 84)):=by
 subst hb;exact⟨.inl ⟨pE _,_,zk _ _,World.ownsRow_nil _ _ _ _,by simp[Value.ownBlock]⟩,bR.alloc (pE _) _⟩
theorem Bd.write{w0 w:World}{b:Nat}{ob:ByteArray}(h:Bd w0 b ob w)(hs:ob.size<=2000000000000)(c:UInt8):
 Calls prog 52 #[.pointer (some ⟨b,0,none⟩),.int .u8 (c.toNat:Int)] w fun e w'=>e=.returned .nilIface/\Bd w0 b (ob ++ ⟨#[c]⟩) w':=
 (Vm w0.heap.size b _ (c.toNat:Int) w h.1 (pN (Nat.le_of_eq (by rw[Lib.byteCells_length];exact congrArg (· +1) (by simp:ob.data.toList.length=ob.size))) (by omega:ob.size+1<=140737488355328)) h.2.size).mono fun e w' ⟨h1,h2,h3⟩=>⟨h1,.inr (by
  have e:Lib.byteCells (ob ++ ⟨#[c]⟩).data.toList=Lib.byteCells ob.data.toList ++ [.int .u8 c.toNat]:=by rw[zq];simp[Lib.byteCells]
  rw[e];exact h2),h.2.trans h3⟩
def BdF(w0:World)(b:Nat)(ob:ByteArray)(w:World):Prop:=Lib.IsBuilderF 84 5 w0.heap.size b (Lib.byteCells ob.data.toList) w/\Below w0.heap.size w0 w
theorem Bd.str{w0 w:World}{b:Nat}{ob:ByteArray}(h:Bd w0 b ob w):
 Calls prog 48 #[.pointer (some ⟨b,0,none⟩)] w fun e w'=>e=.returned (.string ob)/\BdF w0 b ob w':=
 (Any.Builder_String_any_f Tryz.lays169 Tryz.Builder_Extra_169 w0.heap.size b _ w (Lib.IsBuilderF.of h.1) h.2.size).mono fun e w' ⟨h1,h2,h3⟩=>⟨by rw[h1],h2,h.2.trans h3⟩
theorem BdF.len{w0 w:World}{b:Nat}{ob:ByteArray}(h:BdF w0 b ob w):
 Calls prog 53 #[.pointer (some ⟨b,0,none⟩)] w fun e w'=>e=.returned (.int .i64 ob.size)/\w'=w:=
 (Any.Builder_Len_f Tryz.lays170 w0.heap.size b _ w h.1).mono fun e w' ⟨h1,h2⟩=>⟨by rw[h1,Lib.byteCells_length];exact congrArg (fun n:Nat=>Ending.returned (.int .i64 n)) (by simp:ob.data.toList.length=ob.size),h2⟩
theorem Bd.len{w0 w:World}{b:Nat}{ob:ByteArray}(h:Bd w0 b ob w):
 Calls prog 53 #[.pointer (some ⟨b,0,none⟩)] w fun e w'=>e=.returned (.int .i64 ob.size)/\w'=w:=
 (Tryz.Builder_Len w0.heap.size b _ w h.1).mono fun e w' ⟨h1,h2⟩=>⟨by rw[h1,Lib.byteCells_length];exact congrArg (fun n:Nat=>Ending.returned (.int .i64 n)) (by simp:ob.data.toList.length=ob.size),h2⟩
def zk8(q:Option (List UInt8×Nat))(w:World)(e:Ending)(w':World):Prop:=
 ∃t n ok,e=.returned (.tuple #[.string t,.int .i64 n,.bool ok])/\ziF q n t ok/\Below w.heap.size w w'
def zlL(s:ByteArray)(q:Option (List UInt8×Nat))(w:World)(i:Value)(wr:World):Prop:=
 ∃(j:Nat) (ob:ByteArray),i=.int .i64 j/\j<=s.size+1/\QJ s j ob q/\Bd w w.heap.size ob wr
theorem XE(q:Option (List UInt8×Nat))(n:Int)(t:ByteArray)(h:q=none):ziF q n t false:=by subst h;exact rfl
theorem zcF(s:ByteArray)(w:World)(hs:s.size<=1000000000000)(hB:∀c,c∈s.data.toList->jW c=true):
 Calls prog 96 #[.string s] w (zk8 (Lode.xP s.data.toList) w):=by
 have HB:=zi hB;clear hB;generalize hq:Lode.xP s.data.toList=q;have Hq:Hid (QJ s 1 ByteArray.empty q):=zi ⟨0,rfl,hq▸uA.start s 0,pE _⟩;clear hq;go_enter func96,ntmps96;go_wp2;go_loopw [6] (zlL s q w) (fun i _=>s.size+1-(intOf i).toNat)
 case atStart=>exact⟨1,_,rfl,by omega,Hq.out,Bd.fresh w _ rfl⟩
 case round=>
  obtain⟨j,ob,rfl,hj,hq,hb⟩:=hrel;have hob:ob.size<=s.size+1:=by obtain⟨k,_,_,h⟩:=hq;omega
  by_cases hlt:j<s.size
  ·have hW:=zi (fun c=>hb.write (by omega) c);have hW10:=zi (show Calls prog 52 #[.pointer (some ⟨w.heap.size,0,none⟩),.int .u8 10] wr _ from hb.write (by omega) 10);go_wp2_with (first
    |(go_at_call 48;refine hb.str.mono ?_;rintro e w1 ⟨rfl,hf⟩)
    |(go_at_call 53;refine hf.len.mono ?_;rintro e w' ⟨rfl,rfl⟩)
    |(go_at_call 52;with_reducible refine (hW.out _).mono ?_;rintro e w1 ⟨rfl,hb1⟩)
    |(go_at_call 52;refine hW10.out.mono ?_;rintro e w1 ⟨rfl,hb1⟩))
   ·go_ret3;exact⟨_,_,_,rfl,XE _ _ _ (zlp hq hlt ‹_›),hb.2⟩
   ·go_ret3;exact⟨_,_,_,rfl,zhS hq HB.out hlt ‹_› ‹_›,hf.2⟩
   ·go_ret3;exact⟨_,_,_,rfl,XE _ _ _ (zkJ hq HB.out hlt ‹_› ‹_› ‹_› (by have h:=‹((j:Int)+1 == (s.size:Int))=true›;rw[pS] at h;omega)),hb.2⟩
   ·have hj2:j+1<s.size:=by omega
    go_roundw
    case rel=>exact⟨j+2,_,by go_num,by omega,zhR hq HB.out hlt ‹_› ‹_› ‹_› hj2 (.inl ‹_›),hb1⟩
    case measure=>go_light;simp[intOf];omega
   ·have hj2:j+1<s.size:=by omega
    go_roundw
    case rel=>exact⟨j+2,_,by go_num,by omega,zhR hq HB.out hlt ‹_› ‹_› ‹_› hj2 (.inr ‹_›),hb1⟩
    case measure=>go_light;simp[intOf];omega
   ·have hj2:j+1<s.size:=by omega
    go_roundw
    case rel=>exact⟨j+2,_,by go_num,by omega,zjk hq HB.out hlt ‹_› ‹_› ‹_› hj2 ‹_› ‹_› ‹_›,hb1⟩
    case measure=>go_light;simp[intOf];omega
   ·have hj2:j+1<s.size:=by omega
    go_ret3;exact⟨_,_,_,rfl,XE _ _ _ (zkK hq HB.out hlt ‹_› ‹_› ‹_› hj2 ‹_› ‹_› ‹_›),hb.2⟩
   ·exfalso;have h:=‹((j:Int)+1 == (s.size:Int))=false›;rw[pB] at h;omega
   ·go_roundw
    case rel=>exact⟨j+1,_,by go_num,by omega,zhQ hq HB.out hlt ‹_› ‹_› ‹_›,hb1⟩
    case measure=>go_light;simp[intOf];omega
  ·go_wp2_with fail;go_ret3;exact⟨_,_,_,rfl,XE _ _ _ (zkI hq (by omega)),hb.2⟩
def zk3(r:List yp×Nat×Nat)(w:World)(e:Ending)(w':World):Prop:=
 ∃v,e=.returned (.tuple #[v,.int .i64 r.2.1,.int .i64 r.2.2])/\kl w' w.heap.size v r.1/\Below w.heap.size w w'
theorem kl.form{w:World}{b:Nat}{v:Value}{l:List yp}(h:kl w b v l):∃p cap,v=.slice p l.length cap:=by
 obtain⟨_,⟨h1,h2⟩|⟨g,cap,cur,h1,_⟩⟩:=h
 ·exact⟨none,0,by rw[h1,h2]⟩
 ·exact⟨_,cap,h1⟩
theorem zb2(w:World)(b:Nat):kl w b (.slice none 0 0) []:=World.ownsRow_nil _ _ _ _
theorem zg6(w:World)(b:Nat)(h:b<=w.heap.size):kl (w.alloc (.cells #[] 37)) b (.slice (some ⟨w.heap.size,0,none⟩) 0 0) []:=World.ownsRow_lit w #[] 0 h (by decide) (by decide)
theorem Tryz.infoTok:(prog.info? 37).map (fun i=>(i.zero,i.size,i.bytes))=some (some (.agg #[.int .u8 0,.string ⟨#[]⟩,.int .i64 0]),3,32):=by kernel_rfl
def jX(zs:List Int)(c:UInt8):Bool:=zs.any fun y=>kH c == y
theorem zj{w W:World}(h:Below w.heap.size w W){a:Addr}{v:Value}(hc:w.cell? a=some v):W.cell? a=some v:=by
 rw[World.cell?_of_block (h.block _ (World.block_lt_of_cell? w _ hc))];exact hc
theorem zh{w W:World}(h:Below w.heap.size w W){b:Nat}{o:Obj}(hc:w.heap[b]? =some o):W.heap[b]? =some o:=by
 rw[h.block b (gtA hc)];exact hc
theorem zli(zs:List Int)(b x:Nat)(w:World)(hx:w.cell? ⟨x,0,none⟩=some (.slice (some ⟨b,0,none⟩) zs.length zs.length))(hz:zs.length<=1000)
 (hc:∀j,j<zs.length->w.cell? ⟨b,j,none⟩=some (.int .u8 zs[j]!)):XR prog 127 #[.pointer (some ⟨x,0,none⟩)] (jX zs) w:=by
 refine⟨enters_of func127 (by kernel_rfl) rfl,fun W c hbW=>?_⟩;have hx':W.cell? ⟨x,0,none⟩=some (.slice (some ⟨b,0,none⟩) zs.length zs.length):=zj hbW hx;have hc':∀j,j<zs.length->W.cell? ⟨b,0+j,none⟩=some (.int .u8 zs[j]!):=fun j hj=>by rw[Nat.zero_add];exact zj hbW (hc j hj)
 have Hc:=zi (fun (W':World) (q:∃n,W'=W.drewN n)=>Tryz.slices_Contains_class (Value.int .u8) _ (EqlAt.int prog _ .u8) b 0 zs.length zs.length zs (kH c) W' (pE _) (by omega) (fun j hj=>by obtain⟨n,rfl⟩:=q;exact hc' j hj));clear hc hc';go_enter func127,ntmps127;go_wp2_with fail;go_quiet ((first
  |(go_at_call 92;refine (jZ c _).mono ?_;rintro e w' ⟨rfl,rfl⟩;exact⟨rfl,_,rfl⟩)
  |(go_at_call 128;refine (Hc.out _ ⟨_,rfl⟩).mono ?_;rintro e w' ⟨rfl,rfl⟩;exact⟨rfl,_,rfl⟩)))
 go_wp2;go_ret;exact⟨by simp[jX],by repeat (first|exact pF _ _|with_reducible apply Below.drew|with_reducible apply ym)⟩
theorem QL(p:UInt8->Bool):∀l:List UInt8,yc p l=(xU (fun c=> !p c) l).getD l.length
 |[]=>rfl
 |c :: r=>by
  by_cases h:p c=true
  ·simp[yc,xU,h,QL p r]
  ·have h:p c=false:=by simpa using h
   simp[yc,xU,h]
theorem zi7(R:Nat)(s:ByteArray)(a:Nat)(wv sv:Value)(zs:List Int)(b:Nat)(w:World)(hs:s.size<=1000000000000)(ha:a<s.size)(hR:vK w R s a wv sv)(hz:zs.length<=1000)
 (hc:∀j,j<zs.length->w.cell? ⟨b,j,none⟩=some (.int .u8 zs[j]!)) :
 Calls prog 93 #[.pointer (some ⟨R,0,none⟩),.slice (some ⟨b,0,none⟩) zs.length zs.length] w fun e w'=>e=.returned (.int .i64 (yc (jX zs) (s.data.toList.drop (a+1))))/\Below w.heap.size w w':=by
 have hc0:w.cell? ⟨R,0,none⟩=some (.string s):=zd hR 0;have hc1:w.cell? ⟨R,1,none⟩=some (.int .i64 a):=zd hR 1;have hxe:(s.extract (a+1) s.size).data.toList=s.data.toList.drop (a+1):=by simp[List.extract_eq_take_drop];exact List.take_of_length_le (by simp)
 have hsz:(s.extract (a+1) s.size).size=s.size-(a+1):=by simp
 have hn0:∀o,(w.alloc o).cell? ⟨R,0,none⟩=some (.string s):=fun o=>zj (bR.alloc (pE _) o) hc0
 have hn1:∀o,(w.alloc o).cell? ⟨R,1,none⟩=some (.int .i64 a):=fun o=>zj (bR.alloc (pE _) o) hc1
 rw[QL];have HF:=zi (fun (W:World) (q:∃n,W=(w.alloc (.cells #[.slice (some ⟨b,0,none⟩) zs.length zs.length] 191)).drewN n)=>Qt (s.extract (a+1) s.size) 127 #[.pointer (some ⟨w.heap.size,0,none⟩)] (jX zs) W
  (zli zs b w.heap.size W (by obtain⟨n,rfl⟩:=q;simp) hz (fun j hj=>by obtain⟨n,rfl⟩:=q;exact zj ((bR.alloc (pE _) _).trans (ym bR n |>.mono (by simp))) (hc j hj))) (by rw[hsz];omega))
 rw[hxe] at HF;have hl:(s.data.toList.drop (a+1)).length=s.size-(a+1):=by simp
 generalize hf:xU (fun c=> !jX zs c) (s.data.toList.drop (a+1))=f at *;rw[hl];clear hR hc hl hf hxe;have h1:(a:Int)+1<=(s.size:Int):=by omega
 have h2:(0:Int)<=(a:Int)+1:=by omega
 have h3:IntKind.i64.wrap ((a:Int)+1)=a+1:=pJ _ (by omega);have h4:((a:Int)+1).toNat=a+1:=by omega
 have h5:a+1<=s.size:=by omega
 cases f with
 |none=>
  simp only[zbm,Option.getD_none] at *;go_enter func93,ntmps93;go_wp2_with fail;go_quiet (fail);clear h1 h2 h3 h4;go_wp2_with (go_at_call 61;refine (HF.out _ ⟨_,rfl⟩).mono ?_;rintro e w1 ⟨rfl,hb⟩);go_ret;exact⟨rfl,(ym (yP bR _) nq).trans (hb.mono (by simp))⟩
 |some i=>
  simp only[zbm,Option.getD_some] at *;go_enter func93,ntmps93;go_wp2_with fail;go_quiet (fail);clear h1 h2 h3 h4;go_wp2_with (go_at_call 61;refine (HF.out _ ⟨_,rfl⟩).mono ?_;rintro e w1 ⟨rfl,hb⟩);go_ret;exact⟨rfl,(ym (yP bR _) nq).trans (hb.mono (by simp))⟩
structure qH(w:World):Prop where
 space:Lib.TabIs prog w "strings.asciiSpace" .u8 Lib.asciiSpaceTab
 pow:Lib.TabIs prog w "internal/strconv.uint64pow10" .u64 Lib.pow10Tab
 erange:∃tp p,w.var? prog "strconv.ErrRange" =some #[.iface tp p]
theorem XZ{n:String}{g:Nat}(hg:prog.globalNamed n=some g){w w':World}(hb:Below w.heap.size w w'){r:Array Value}(h:w.var? prog n=some r):w'.var? prog n=some r:=by
 unfold World.var? at *;rw[hg] at h ⊢;simp only[Option.bind_some] at h ⊢;have hlt:g<w.heap.size:=by
  rcases Nat.lt_or_ge g w.heap.size with h'|h'
  ·exact h'
  ·rw[Array.getElem?_eq_none h'] at h;cases h
 rw[hb.block g hlt];exact h
theorem qH.later{w w':World}(h:qH w)(hb:Below w.heap.size w w'):qH w':=
 ⟨XZ (g:=0) (by kernel_rfl) hb h.space,XZ (g:=5) (by kernel_rfl) hb h.pow,by
  obtain⟨tp,p,h⟩:=h.erange;exact⟨tp,p,XZ (g:=4) (by kernel_rfl) hb h⟩⟩
theorem zbr(s:ByteArray)(w:World)(hs:s.size<=1000000000000)(hG:qH w)(h0:s.data.toList≠[])(hd:s.data.toList.all yf=true):
 Calls prog 95 #[.string s] w fun e w'=>e=.returned (.bool (ur s.data.toList))/\Below w.heap.size w w':=by
 have ha:=Jd s.data.toList h0 hd;rw[zd9 _ h0 hd];generalize hv:xR s.data.toList=v at *;have hG:=zi hG;by_cases hlt:v<9223372036854775808
 ·rw[if_pos hlt] at ha;have Ha:=zi (Tryz.strconv_Atoi_ok s (by omega) v ha);clear ha hv h0 hd;by_cases hle:v<=1000000000
  ·have hI:=zi (fun (W:World) (hb:Below w.heap.size w W)=>Tryz.strconv_Itoa v (by omega) (by omega) W (hG.out.later hb).pow);have hle':((v:Int)<=1000000000):=by omega
   have hr:(decide (v<=1000000000) && decide (Go.Lib.itoa v=s.data.toList))=decide (Go.Lib.itoa v=s.data.toList):=by simp[hle]
   rw[hr];clear hr hle;go_enter func95,ntmps95;go_wp2_with (first
    |(go_at_call 130;refine (Ha.out _).mono ?_;rintro e w1 ⟨rfl,hw⟩;have hb:Below w.heap.size w w1:=(by rcases hw with rfl|⟨t,rfl⟩;exact pF _ _;exact uM _ _ _);clear hw)
    |(go_at_call 108;refine (hI.out _ hb).mono ?_;rintro e w2 ⟨rfl,hw2⟩;have hb2:Below w.heap.size w w2:=(by obtain⟨k,os,rfl⟩:=hw2;exact zg hb (Lib.below_grow _ _ (pE _) k os));clear hw2))
   go_ret;exact⟨congrArg (fun b=>Ending.returned (.bool b)) (by rw[pW];simp[ByteArray.toList_eq]),hb2⟩
  ·have hr:(decide (v<=1000000000) && decide (Go.Lib.itoa v=s.data.toList))=false:=by simp[hle]
   rw[hr];have hle':¬((v:Int)<=1000000000):=by omega
   clear hr hle;go_enter func95,ntmps95;go_wp2_with (go_at_call 130;refine (Ha.out _).mono ?_;rintro e w1 ⟨rfl,hw⟩;have hb:Below w.heap.size w w1:=(by rcases hw with rfl|⟨t,rfl⟩;exact pF _ _;exact uM _ _ _);clear hw);go_ret;exact⟨rfl,hb⟩
 ·rw[if_neg hlt] at ha;have hr:(decide (v<=1000000000) && decide (Go.Lib.itoa v=s.data.toList))=false:=by simp;omega
  rw[hr];obtain⟨tp,p,hE⟩:=hG.out.erange;have Ha:=zi (Tryz.strconv_Atoi_range_var s (by omega) ha tp p w hE);clear hr ha hE hv h0 hd;go_enter func95,ntmps95;go_wp2_with (go_at_call 130;refine Ha.out.mono ?_;rintro e w1 ⟨N,rfl,_,_,hb⟩);go_ret;exact⟨rfl,hb⟩
theorem KJ(s:ByteArray)(l:List (List UInt8))(hf:Lib.fields s.data.toList=l)(hs:decide (s.size<4294967281)=true)(ha:s.data.toList.all (fun b=>decide (b.toNat<128))=true)(w:World)(hG:qH w):
 Calls prog 90 #[.string s] w fun e w'=>e=.returned (.slice (some ⟨w.heap.size,0,none⟩) l.length l.length)/\w.alloc (.cells (zaK l) 9)=w':=by
 subst hf;exact (Tryz.strings_Fields s w (of_decide_eq_true hs) (fun j b hb=>by
  have:=pO.1 ha b (wK hb);simpa using this) hG.space).mono fun e w' ⟨h1,h2⟩=>⟨h1,h2.symm⟩
theorem zfM(w:World)(hG:qH w):
 Calls prog 63 #[] w fun e w'=>e=.returned (.slice (some ⟨w.heap.size,0,none⟩) 44 44)/\w.alloc (.cells (zaK qx) 9)=w':=by
 have hG:=zi hG;go_enter func63,ntmps63;go_wp2_with (go_at_call 90;go_loud (refine (KJ _ qx ?_ ?_ ?_ _ hG.out).mono ?_;rotate_left 3;rintro e w' ⟨rfl,rfl⟩;rotate_right 3;kernel_rfl;kernel_rfl;kernel_rfl));go_ret;exact⟨rfl,rfl⟩
theorem zf4(w:World)(hG:qH w):
 Calls prog 64 #[] w fun e w'=>e=.returned (.slice (some ⟨w.heap.size,0,none⟩) 25 25)/\w.alloc (.cells (zaK zT) 9)=w':=by
 have hG:=zi hG;go_enter func64,ntmps64;go_wp2_with (go_at_call 90;go_loud (refine (KJ _ zT ?_ ?_ ?_ _ hG.out).mono ?_;rotate_left 3;rintro e w' ⟨rfl,rfl⟩;rotate_right 3;kernel_rfl;kernel_rfl;kernel_rfl));go_ret;exact⟨rfl,rfl⟩
def Rd(w:World)(R:Nat)(s:ByteArray)(a:Nat):Prop:=
 ∃wb sb,vK w R s a (.slice (some ⟨wb,0,none⟩) 44 44) (.slice (some ⟨sb,0,none⟩) 25 25)/\w.heap[wb]? =some (.cells (zaK qx) 9 (0,0))/\w.heap[sb]? =some (.cells (zaK zT) 9 (0,0))/\wb≠R/\sb≠R
theorem Vs(s:ByteArray)(w:World)(hG:qH w):
 Calls prog 30 #[.string s] w fun e w'=>e=.returned (.pointer (some ⟨w.heap.size+2,0,none⟩))/\Rd w' (w.heap.size+2) s 0/\Below w.heap.size w w':=by
 have HW:=zi (fun (W:World) (hb:Below w.heap.size w W)=>zfM W (hG.later hb));have HS:=zi (fun (W:World) (hb:Below w.heap.size w W)=>zf4 W (hG.later hb));have hG:=zi hG;go_enter func30,ntmps30;go_wp2_with (first
  |(go_at_call 63;refine (HW.out _ bR).mono ?_;rintro e w' ⟨rfl,rfl⟩)
  |(go_at_call 64;refine (HS.out _ (zf _ _)).mono ?_;rintro e w' ⟨rfl,rfl⟩))
 go_ret;refine⟨rfl,⟨w.heap.size,w.heap.size+1,?_,?_,?_,by omega,by omega⟩,yP (yP (zf _ _) _) _⟩
 ·exact kE _ _ _ (by simp)
 ·exact jw _ (jw _ (zk _ _))
 ·exact jw _ (kE _ _ _ (by simp))
end
section
open Go.RowKit Lode Go.Shelf
open Go.Proofs.Tryz
theorem zfl:jX [1,3]=fun c=>yf c || (true && yg c):=by
 funext c;rw[pW];by_cases h1:yg c=true
 ·simp[jX,kH,h1]
 ·by_cases h2:YQ c=true
  ·have h3:yf c=false:=by simp[YQ] at h2;simp[yf];omega
   simp[jX,kH,h1,h2,h3]
  ·by_cases h3:yf c=true <;> simp[jX,kH,h1,h2,h3]
theorem zkR:jX [3]=yf:=by
 funext c;rw[pW];by_cases h1:yg c=true
 ·have h3:yf c=false:=by simp[yg] at h1;simp[yf];omega
  simp[jX,kH,h1,h3]
 ·by_cases h2:YQ c=true
  ·have h3:yf c=false:=by simp[YQ] at h2;simp[yf];omega
   simp[jX,kH,h1,h2,h3]
  ·by_cases h3:yf c=true <;> simp[jX,kH,h1,h2,h3]
abbrev T0(a:Nat):Obj:=.cells #[.int .u8 0,.string ⟨#[]⟩,.int .i64 a] 37 (0,0)
abbrev CL(zs:List Int):Obj:=.cells (zs.map (Value.int .u8)).toArray 144 (0,0)
structure Tk(w W:World)(k:Int)(t:ByteArray)(a:Nat):Prop where
 b:Below w.heap.size w W
 h:W.heap[w.heap.size]? =some (.cells #[.int .u8 k,.string t,.int .i64 a] 37 (0,0))
theorem Tk.cells{w W:World}{k:Int}{t:ByteArray}{a:Nat}(h:Tk w W k t a):W.cell? ⟨w.heap.size,0,none⟩=some (.int .u8 k)/\W.cell? ⟨w.heap.size,1,none⟩=some (.string t)/\W.cell? ⟨w.heap.size,2,none⟩=some (.int .i64 a)/\
 W.frozen? ⟨w.heap.size,0,none⟩=false/\W.frozen? ⟨w.heap.size,1,none⟩=false/\W.frozen? ⟨w.heap.size,2,none⟩=false:=⟨zd h.h 0,zd h.h 1,zd h.h 2,zl h.h 0,zl h.h 1,zl h.h 2⟩
theorem Tk.rdr{w W:World}{k:Int}{t:ByteArray}{a:Nat}(h:Tk w W k t a){R:Nat}{s:ByteArray}{p:Nat}{wv sv:Value}(hR:vK w R s p wv sv):W.cell? ⟨R,0,none⟩=some (.string s)/\W.cell? ⟨R,1,none⟩=some (.int .i64 p)/\W.cell? ⟨R,2,none⟩=some wv/\W.cell? ⟨R,3,none⟩=some sv:=
 ⟨zj h.b (zd hR 0),zj h.b (zd hR 1),zj h.b (zd hR 2),zj h.b (zd hR 3)⟩
theorem Kc{w:World}{R:Nat}{s:ByteArray}{p:Nat}{wv sv:Value}(hR:vK w R s p wv sv):R≠w.heap.size:=
 fun e=>by have:=World.block_lt_of_cell? w _ (zd hR 0:w.cell? ⟨R,0,none⟩=some _);rw[e] at this;exact Nat.lt_irrefl _ this
theorem Tk.drew{w W:World}{k:Int}{t:ByteArray}{a:Nat}(h:Tk w W k t a):Tk w W.drew k t a:=⟨h.b.drew,h.h⟩
theorem Tk.kind{w W:World}{k:Int}{t:ByteArray}{a:Nat}(h:Tk w W k t a)(k':Int):Tk w (W.setCell ⟨w.heap.size,0,none⟩ (.int .u8 k')) k' t a:=⟨vd h.b _ _ (pE _) _,zr h.h 0 _⟩
theorem Tk.text{w W:World}{k:Int}{t:ByteArray}{a:Nat}(h:Tk w W k t a)(t':ByteArray):Tk w (W.setCell ⟨w.heap.size,1,none⟩ (.string t')) k t' a:=⟨vd h.b _ _ (pE _) _,zr h.h 1 _⟩
theorem Tk.at{w W:World}{k:Int}{t:ByteArray}{a:Nat}(h:Tk w W k t a):Tk w (W.setCell ⟨w.heap.size,2,none⟩ (.int .i64 a)) k t a:=⟨vd h.b _ _ (pE _) _,zr h.h 2 _⟩
theorem Tk.drewN{w W:World}{k:Int}{t:ByteArray}{a:Nat}(h:Tk w W k t a)(n:Nat):Tk w (W.drewN n) k t a:=⟨ym h.b n,by rw[ZF];exact h.h⟩
theorem Tk.later{w W W':World}{k:Int}{t:ByteArray}{a:Nat}(h:Tk w W k t a)(hb:Below W.heap.size W W'):Tk w W' k t a:=⟨zg h.b hb,zh hb h.h⟩
theorem qU{R b:Nat}(h:R≠b)(w:World)(i j:Nat)(v:Value):(w.setCell ⟨b,i,none⟩ v).cell? ⟨R,j,none⟩=w.cell? ⟨R,j,none⟩:=by
 refine World.cell?_of_block (a:=⟨R,j,none⟩) ?_;simp[World.setCell,Array.getElem?_modify,Ne.symm h]
theorem Qw(w:World)(a:Addr):w.drew.cell? a=w.cell? a:=rfl
theorem YX(R:Nat)(s:ByteArray)(a:Nat)(wv sv:Value)(zs:List Int)(w W:World)(hs:s.size<=1000000000000)(ha:a<s.size)(hR:vK w R s a wv sv)(hz:zs.length<=1000)(m:Nat)(hm:yc (jX zs) (s.data.toList.drop (a+1))=m)
 (q:∃n,W=((w.alloc (T0 a)).drewN n).alloc (CL zs)) (b:Nat) (hbb:b=w.heap.size+1) :
 Calls prog 93 #[.pointer (some ⟨R,0,none⟩),.slice (some ⟨b,0,none⟩) zs.length zs.length] W fun e w1=>e=.returned (.int .i64 m)/\Tk w w1 0 ⟨#[]⟩ a:=by
 obtain⟨n,rfl⟩:=q;subst hbb;have hb:Below w.heap.size w (((w.alloc (T0 a)).drewN n).alloc (CL zs)):=yP (ym (zf _ _) _) _;have hC:(((w.alloc (T0 a)).drewN n).alloc (CL zs)).heap[w.heap.size+1]? =some (CL zs):=kE _ _ _ (by simp);refine (zi7 R s a wv sv zs (w.heap.size+1) _ hs ha (zh hb hR) hz (fun j hj=>by rw[zd hC j];simp[hj])).mono fun e w1 ⟨h1,h2⟩=>⟨by rw[h1,hm],?_⟩
 exact⟨zg hb h2,zh h2 (jw _ (by rw[ZF];exact zk _ _))⟩
theorem zfL(x:ByteArray)(W:World)(b:Nat)(hb:W.heap[b]? =some (.cells (zaK qx) 9 (0,0))):
 Calls prog 94 #[.slice (some ⟨b,0,none⟩) 44 44,.string x] W fun e w'=>e=.returned (.bool (qx.contains x.data.toList))/\w'=W:=by
 have h:=Tryz.slices_Contains_string b 0 44 44 (qx.map fun l=>⟨l.toArray⟩) x W (by decide) (by decide) (fun j hj=>by
  rw[Nat.zero_add,zd hb j];have hj':j<qx.length:=by simpa using hj
  simp only[zaK,pV,pZ,pA];rw[glE hj'];rfl)
 have hh:Lib.containsS (List.take 44 (qx.map fun l=>⟨l.toArray⟩)) x=qx.contains x.data.toList:=by
  rw[List.take_of_length_le (by decide),pW,Lib.containsS_iff];simp only[List.mem_map,List.contains_iff_mem];constructor
  ·rintro ⟨l,hl,rfl⟩;simpa using hl
  ·intro h;exact⟨_,h,(Vb x).symm⟩
 rw[hh] at h;exact h
theorem kG{w W:World}(h:Below w.heap.size w W){a:Addr}(hlt:a.block<w.heap.size)(hc:w.frozen? a=false):W.frozen? a=false:=by
 rw[World.frozen?_of_block (h.block _ hlt)];exact hc
theorem Qe{w:World}{a:Addr}{v:Value}(h:w.cell? a=some v):w.setCell a v=w:=by
 unfold World.cell? at h;have hh:(w.setCell a v).heap=w.heap:=by
  apply Array.ext (by simp[World.setCell]);intro i h1 h2;simp only[World.setCell,Array.getElem_modify];split
  ·rename_i e;subst e;rw[Array.getElem?_eq_getElem h2] at h;generalize w.heap[a.block]=o at *;cases o <;> simp_all;rename_i c _ _;obtain⟨hlt,hv⟩:=Array.getElem?_eq_some_iff.1 h.2;apply Array.ext (by simp);intro i h1 h2;rw[Array.getElem_setIfInBounds];split
   ·rename_i e;subst e;exact hv.symm
   ·rfl
  ·rfl
 have e:w.setCell a v={w with heap:=(w.setCell a v).heap}:=rfl;rw[e,hh]
theorem zt{b k:Nat}(h:k≠b){w:World}{i:Nat}{v:Value}:(w.setCell ⟨b,i,none⟩ v).heap[k]? =w.heap[k]? :=Below.heap_setCell w ⟨b,i,none⟩ v k h
end
end Go.Proofs.YtnncmdpopgkibaaGreatDoor
