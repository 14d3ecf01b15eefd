import Derived.Lib.AtoiAll
import Derived.Lib.ItoaNum
import GoSem.Op.String
import Derived.Lib.LastIndexByte
import Derived.Lib.Bytealg
import Derived.WalkKit
import Derived.WalkLawsBesides
import Derived.WalkSpells
import Derived.Lib.ConvBytes
import Derived.Shelf.Abstract
import Derived.Deep.RegionWith
import Derived.Deep.Light
import Derived.Deep.QuietTactic
import Derived.BigQuiet
import Derived.Test.YtcagibbaeageoaaGreatDoorProg
import Derived.Shelf.Strings.Builder1
import Derived.Shelf.Strings.Builder2
import Derived.Shelf.Strings.OnBuilder
import Derived.Shelf.Small.Strs
import Derived.Shelf.Small.Wraps
import Derived.Shelf.Strings.BuilderF
import Derived.Shelf.Strconv.Atoi
import Derived.Shelf.Strconv.Itoa0
import Derived.Shelf.Strconv.Itoa1
import Derived.Shelf.LaysM
import Derived.Shelf.Strconv.Itoa2
import Derived.Shelf.Strconv.Itoa3
import Derived.Shelf.Strconv.AtoiErrFast
import Derived.Shelf.Strconv.ParseIntEmpty
import Derived.Shelf.Strconv.AtoiFail
import Derived.Shelf.Strconv.Clone
import Derived.Shelf.Strconv.SyntaxError
import Derived.Shelf.LaysC
import Derived.Shelf.Strconv.ToError
import Derived.Shelf.Strconv.Lower
import Derived.Shelf.Strconv.ParseUint10
import Derived.Shelf.Strconv.ParseUint10Empty
import Derived.Shelf.Strconv.ParseUint10Any
import Derived.Shelf.Strconv.ParseInt10
import Derived.Shelf.Strconv.AtoiLong
import Derived.Shelf.Strconv.AtoiInnerAll
import Derived.Shelf.Strconv.RangeError
import Derived.Shelf.Strconv.ToErrorRange
import Derived.Shelf.Strconv.AtoiAll
import Derived.Shelf.Strconv.ErrVarAll
import Derived.Shelf.Strings.Search1
import Derived.Shelf.Strings.Prefix
import Derived.Shelf.Strings.Fields
import Derived.Shelf.Strings.SplitShaped
import Derived.Shelf.Unicode.Latin
import Derived.Shelf.Unicode.Is16White
import Derived.Shelf.Unicode.IsSpaceAny
import Derived.Shelf.Unicode.Is16Any
import Derived.Shelf.Unicode.Is32Any
import Derived.Shelf.Unicode.ExclAny
import Derived.Shelf.Slices.Turned
import Derived.Shelf.Slices.Reverse
import Derived.Shelf.Slices.Equal
import Derived.Ground.Names2Prog
import Derived.Shelf.Slices.Clone
import Derived.Shelf.Slices.Cells
import Derived.Shelf.Slices.Empties2
import Derived.Ground.SlgnProg
import Derived.Shelf.SlicesE.Index
import Derived.Shelf.SlicesE.Clone
import Derived.Deep.RegionHeld3
import Derived.Deep.DrawnRows
set_option maxRecDepth 100000
set_option maxHeartbeats 0
set_option linter.all false
variable{B a b g i k m n:Nat}{p:UInt8->Bool}{r t:List UInt8}{x:Nat×List UInt8×Nat}{α:Type}{s:ByteArray}{fr:Nat×Nat}
def exE{α:Sort _}(x:α):∃y,x=y:=⟨x,rfl⟩
def bfE{α:Type _}[BEq α][LawfulBEq α]{a b:α}(h:a≠b):(a==b)=false:=beq_eq_false_iff_ne.2 h
def gtA{α:Type _}{xs:Array α}{a:α}(h:xs[i]?=some a):i<xs.size:=(Array.getElem?_eq_some_iff.1 h).1
def gtL{α:Type _}{xs:List α}{a:α}(h:xs[i]?=some a):i<xs.length:=(List.getElem?_eq_some_iff.1 h).1
def glE{α:Type _}{xs:List α}(h:i<xs.length):xs[i]?=some xs[i]:=List.getElem?_eq_getElem h
def pA:type_of% @List.getD_eq_getElem?_getD:=@List.getD_eq_getElem?_getD
def pB:type_of% @beq_eq_false_iff_ne:=@beq_eq_false_iff_ne
def pC:type_of% @Nat.le_refl:=@Nat.le_refl
def pE:type_of% @List.length_append:=@List.length_append
def pH:type_of% @List.length_cons:=@List.length_cons
def pI:type_of% @List.length_singleton:=@List.length_singleton
def pJ:type_of% @Bool.and_eq_true:=@Bool.and_eq_true
def pK:type_of% @decide_eq_true_eq:=@decide_eq_true_eq
def pM:type_of% @List.length_nil:=@List.length_nil
def pN:type_of% @Nat.le_trans:=@Nat.le_trans
def pO:type_of% @Int.eq_ofNat_of_zero_le:=@Int.eq_ofNat_of_zero_le
def pP:type_of% @Bool.eq_iff_iff:=@Bool.eq_iff_iff
def pQ:type_of% @List.cons_append:=@List.cons_append
def pR:type_of% @beq_iff_eq:=@beq_iff_eq
def pS:type_of% @List.getElem?_toArray:=@List.getElem?_toArray
def pT:type_of% @List.eq_nil_of_length_eq_zero:=@List.eq_nil_of_length_eq_zero
def pU:type_of% @Nat.zero_le:=@Nat.zero_le
def pV:type_of% @List.nil_append:=@List.nil_append
def pW:type_of% @List.mem_append:=@List.mem_append
def pX:type_of% @Nat.lt_of_lt_of_le:=@Nat.lt_of_lt_of_le
def pY:type_of% @List.all_eq_true:=@List.all_eq_true
def pZ:type_of% @Int.toNat_natCast:=@Int.toNat_natCast
def wC:type_of% @List.getElem?_map:=@List.getElem?_map
def wD:type_of% @List.mem_singleton:=@List.mem_singleton
def wE:type_of% @List.getElem_mem:=@List.getElem_mem
def wF:type_of% @Nat.not_lt_zero:=@Nat.not_lt_zero
def wG:type_of% @Bool.or_eq_true:=@Bool.or_eq_true
def wH:type_of% @List.mem_of_getElem?:=@List.mem_of_getElem?
def wI:type_of% @List.mem_cons:=@List.mem_cons
def wJ:type_of% @List.mem_cons_of_mem:=@List.mem_cons_of_mem
def wL:type_of% @List.not_mem_nil:=@List.not_mem_nil
def wM:type_of% @List.getElem?_append_right:=@List.getElem?_append_right
def wN:type_of% @List.getElem?_append_left:=@List.getElem?_append_left
def wO:type_of% @Option.some.injEq:=@Option.some.injEq
def wP:type_of% @List.getElem?_eq_none:=@List.getElem?_eq_none
def wQ:type_of% @decide_eq_false_iff_not:=@decide_eq_false_iff_not
def wR:type_of% @decide_eq_false:=@decide_eq_false
def wT:type_of% @List.length_drop:=@List.length_drop
def wU:type_of% @decide_eq_true:=@decide_eq_true
def wV:type_of% @bne_iff_ne:=@bne_iff_ne
def wX:type_of% @bne_eq_false_iff_eq:=@bne_eq_false_iff_eq
def wY:type_of% @List.mem_reverse:=@List.mem_reverse
def wZ:type_of% @List.length_map:=@List.length_map
def gB:type_of% @List.take_add_one:=@List.take_add_one
def gC:type_of% @List.length_reverse:=@List.length_reverse
def gD:type_of% @List.append_nil:=@List.append_nil
def gE:type_of% @List.length_take:=@List.length_take
def gF:type_of% @List.any_eq_true:=@List.any_eq_true
theorem Go.RowKit.Hid.q{p:Prop}(h:Go.RowKit.Hid p):p:=h
def bR{w:Go.World}:Go.RowKit.Below B w w:=Go.RowKit.Below.refl _ _
def pF:type_of% @Go.IntWalk.i64_in:=@Go.IntWalk.i64_in
def pG:type_of% @Go.RowKit.Below.refl:=@Go.RowKit.Below.refl
namespace Lode
def uK(c:UInt8):Bool:=(decide (32<=c.toNat) && decide (c.toNat<=126)) || c.toNat == 10
def zR(c:UInt8):Bool:=decide (97<=c.toNat) && decide (c.toNat<=122)
def Zn(c:UInt8):Bool:=decide (65<=c.toNat) && decide (c.toNat<=90)
def zL(c:UInt8):Bool:=decide (48<=c.toNat) && decide (c.toNat<=57)
def qg(p:UInt8->Bool):List UInt8->Option Nat
 |[]=>none
 |c :: r=>if p c then some 0 else (qg p r).map (· +1)
def zcA:Option Nat->Int
 |none=> -1
 |some k=>k
def qF(s:List UInt8):Nat×Nat:=
 if 3000<s.length then (3000,5) else
 match qg (λc=> !uK c) s with
 |some i=>(i,4)
 |none=>(0,0)
def yj(p:UInt8->Bool):List UInt8->Nat
 |[]=>0
 |c :: r=>if p c then yj p r+1 else 0
def yb:Bool->List UInt8->Nat
 |_,[]=>0
 |cm,c :: r=>if c=10 then yb false r+1 else if c=35 then yb true r+1 else if c=32\/cm=true then yb cm r+1 else 0
def Kg:List UInt8->Option (List UInt8×Nat)
 |[]=>none
 |c :: r=>
  if c.toNat<32\/126<c.toNat then none
  else if c=34 then some ([],1)
  else if c=92 then
   match r with
   |[]=>none
   |d :: r'=>if d=34\/d=92 then (Kg r').map λx=>(d :: x.1,x.2+2) else if d=110 then (Kg r').map λx=>(10 :: x.1,x.2+2) else none
  else (Kg r).map λx=>(c :: x.1,x.2+1)
def jZ(s:List UInt8):Option (List UInt8×Nat):=
 match Kg (s.drop 1) with
 |some (t,n)=>if t.length<=60 then some (t,n+1) else none
 |none=>none
def xS:List (List UInt8):=[[97,110,100],[97,115],[98,111,111,108],[98,121,116,101],[99,97,116,99,104],[99,104,97,110],[99,108,97,115,115],[99,111,108,108,101,99,116],[99,117,116],[101,108,115,101],[101,120,116,101,114,110],[102,97,108,115,101],[102,110],[102,117,110],[104,111,108,100],[105,102],[105,110],[105,110,116],[105,115],[107,105,110,100],[108,101,116],[109,97,116,99,104],[110,101,119],[110,111,116],[111,114],[111,117,116],[112,117,114,101],[114,101,97,100],[114,101,99,118],[114,111,111,116],[115,101,108,101,99,116],[115,101,110,100],[115,104,111,119],[115,105,122,101],[115,112,97,119,110],[116,101,120,116],[116,104,114,111,119],[116,114,117,101],[116,114,121],[117,110,105,116],[118,97,114],[119,101,97,107],[119,104,105,108,101],[121,105,101,108,100]]
def yd:List (List UInt8):=[[58,61],[61,62],[61,61],[33,61],[60,61],[62,61],[43,43],[43],[45],[42],[47],[37],[60],[62],[61],[40],[41],[91],[93],[123],[125],[44],[58],[59],[46]]
def ym(l:List UInt8):Nat:=l.foldl (λa c=>10*a+(c.toNat-48)) 0
def kj(l:List UInt8):Bool:= !l.isEmpty && l.all zL && decide (ym l<=1000000000) && (decide (l.length=1) || !(l.head? == some 48))
def jy:List UInt8->List UInt8->Bool
 |[],_=>true
 |_ :: _,[]=>false
 |a :: l,b :: m=>decide (a=b) && jy l m
def xR(s:List UInt8):Option (Nat×List UInt8×Nat):=
 match s with
 |[]=>none
 |c :: r=>
  if zR c then
   let n:=1+yj (λc=>zR c || zL c) r
   if n<=12 then some (if xS.contains (s.take n) then 5 else 1,s.take n,n) else none
  else if Zn c then
   let n:=1+yj (λc=>zR c || zL c) r
   if n<=12 then some (2,s.take n,n) else none
  else if zL c then
   let n:=1+yj zL r
   if kj (s.take n) then some (3,s.take n,n) else none
  else if c=34 then (jZ s).map λx=>(4,x.1,x.2)
  else (yd.find? λg=>jy g s).map λg=>(6,g,g.length)
structure yO where
 kind:Nat
 text:List UInt8
 at_:Int
 deriving DecidableEq,Inhabited
def YD:Nat->Nat->Nat->List UInt8->List yO×Nat×Nat
 |0,_,_,_=>([],0,0)
 |fuel+1,n,at_,r=>
  let g:=yb false r
  match r.drop g with
  |[]=>([],0,0)
  |r1=>
   match xR r1 with
   |none=>([],at_+g,4)
   |some (k,t,m)=>
    if n=1200 then ([],at_+g,5) else
    let x:=YD fuel (n+1) (at_+g+m) (r1.drop m)
    if x.2.2=0 then (⟨k,t,(at_+g:Nat)⟩ :: x.1,0,0) else ([],x.2)
def vB(s:List UInt8):List yO×Nat×Nat:=
 if (qF s).2≠0 then ([],qF s) else YD (s.length+1) 0 0 s
def zdm(s:List UInt8)(at_:Nat):Nat×Nat:=(s.take at_).foldl (λp c=>if c=10 then (p.1+1,1) else (p.1,p.2+1)) (1,1)
def qk(c:UInt8):List UInt8:=if c=10 then [92,110] else if c=34\/c=92 then [92,c] else [c]
def vC(s:List UInt8):List UInt8×Nat:=
 if 60<s.length then ([],5) else if s.all uK then ([34] ++ s.flatMap qk ++ [34],0) else ([],4)
def yP(a:Nat)(l:List UInt8):Nat:=l.foldl (λa c=>10*a+(c.toNat-48)) a
def uO(l:List UInt8):ym l=yP 0 l:=by unfold ym yP;exact rfl
def ja(a:Nat)(c:UInt8)(l:List UInt8):yP a (c :: l)=yP (10*a+(c.toNat-48)) l:=by simp only[yP,List.foldl_cons]
def uf(l:List UInt8):∀(a:Nat),yP a l=a*10 ^ l.length+yP 0 l:=by
 induction l with
 |nil=>intro a;simp[yP]
 |cons c l ih=>
  intro a;have h1:=ih (10*a+(c.toNat-48));have h2:=ih (10*0+(c.toNat-48));rw[ja,ja,h1,h2,pH,Nat.pow_succ];clear ih h1 h2;generalize 10 ^ l.length=p;generalize c.toNat-48=d;generalize yP 0 l=v;have:a*(p*10)=10*a*p:=by rw[Nat.mul_comm p 10,<-Nat.mul_assoc,Nat.mul_comm a 10]
  rw[this,Nat.add_mul,Nat.add_mul,Nat.mul_zero,Nat.zero_mul,Nat.zero_add,Nat.add_assoc]
def zbS(a:Nat)(l:List UInt8)(c:UInt8):yP a (l ++ [c])=10*yP a l+(c.toNat-48):=by simp[yP]
def jr(c:UInt8):zL c=true↔48<=c.toNat/\c.toNat<=57:=by simp[zL]
theorem zbR:∀(l:List UInt8),l.all zL=true->yP 0 l<10 ^ l.length
 |[],_=>by simp[yP]
 |c :: l,h=>by
  simp only[List.all_cons,pJ] at h;have h1:=(jr c).1 h.1;have h2:=zbR l h.2;rw[ja,uf,pH,Nat.pow_succ];have:(10*0+(c.toNat-48))*10 ^ l.length<=9*10 ^ l.length:=Nat.mul_le_mul_right _ (by omega);omega
def zeL(c:UInt8)(l:List UInt8)(h:49<=c.toNat):10 ^ l.length<=yP 0 (c :: l):=by
 rw[ja,uf];have:1*10 ^ l.length<=(10*0+(c.toNat-48))*10 ^ l.length:=Nat.mul_le_mul_right _ (by omega);omega
def ZK:∀(n:Nat) (l:List UInt8),l.length=n->l≠[]->l.all zL=true->(l.length=1\/l.head? ≠some 48)->Go.Lib.decDigits (yP 0 l)=l:=by
 intro n;induction n with
 |zero=>intro l hl h0;exact absurd (pT hl) h0
 |succ n ih=>
  intro l hl h0 hd hh;obtain⟨m,c,rfl⟩:∃m c,l=m ++ [c]:=⟨l.dropLast,l.getLast h0,(List.dropLast_concat_getLast h0).symm⟩;simp only[List.all_append,List.all_cons,List.all_nil,Bool.and_true,pJ] at hd;have hc:=(jr c).1 hd.2;have ra:UInt8.ofNat (48+(c.toNat-48))=c:=by rw[show 48+(c.toNat-48)=c.toNat from by omega];simp
  rw[zbS];cases m with
  |nil=>
   rw[Go.Lib.decDigits,dif_pos (by simp[yP];omega)];simp[yP,ra]
  |cons a m=>
   have Lv:(a :: m).head? ≠some 48:=by
    rcases hh with h|h
    ·simp at h
    ·simpa using h
   have ha:49<=a.toNat:=by
    have h1:=(jr a).1 (by simp only[List.all_cons,pJ] at hd;exact hd.1.1);rcases Nat.lt_or_ge 48 a.toNat with h|h
    ·exact h
    ·exfalso;apply Lv;simp;apply UInt8.toNat_inj.1;simp;omega
   have dv:=zeL a m ha;have Md:1<=10 ^ m.length:=Nat.pow_pos (by decide);rw[Go.Lib.decDigits,dif_neg (by omega)];rw[show (10*yP 0 (a :: m)+(c.toNat-48)) / 10=yP 0 (a :: m) by omega,show (10*yP 0 (a :: m)+(c.toNat-48)) % 10=c.toNat-48 by omega,ra];rw[ih (a :: m) (by simpa using hl) (by simp) hd.1 (.inr Lv)]
def zak:∀(n u:Nat),u<=n->1<=u->(Go.Lib.decDigits u).head? ≠some 48:=by
 intro n;induction n with
 |zero=>intro u h1 h2;omega
 |succ n ih=>
  intro u h1 h2;rw[Go.Lib.decDigits];split
  ·simp;intro h;have:=congrArg UInt8.toNat h;simp at this;omega
  ·have h3:=ih (u / 10) (by omega) (by omega);cases hx:Go.Lib.decDigits (u / 10) with
   |nil=>rw[Go.Lib.decDigits] at hx;split at hx <;> simp at hx
   |cons a m=>rw[hx] at h3;simpa using h3
def zaj(u:Nat)(h:1<(Go.Lib.decDigits u).length):(Go.Lib.decDigits u).head? ≠some 48:=by
 rcases Nat.lt_or_ge u 10 with h1|h1
 ·rw[Go.Lib.decDigits,dif_pos h1] at h;simp at h
 ·exact zak u u (pC _) (by omega)
theorem QK:∀(l:List UInt8) (a:Nat),l.all zL=true->a<18446744073709551616->Go.Lib.parseUint10 a l=if yP a l<18446744073709551616 then .ok (yP a l) else .range
 |[],a,_,h=>by simp[Go.Lib.parseUint10,yP,h]
 |c :: l,a,hd,h=>by
  simp only[List.all_cons,pJ] at hd;have hc:=(jr c).1 hd.1;have ac:∀b,b<=yP b l:=λb=>by
   rw[uf];have:1<=10 ^ l.length:=Nat.pow_pos (by decide);have:=Nat.mul_le_mul_left b this;omega
  rw[Go.Lib.parseUint10,if_pos hc,ja];have hb:=ac (10*a+(c.toNat-48));by_cases h1:1844674407370955162<=a
  ·rw[if_pos h1,if_neg (by omega)]
  ·rw[if_neg h1];by_cases h2:18446744073709551616<=a*10+(c.toNat-48)
   ·rw[if_pos h2,if_neg (by omega)]
   ·rw[if_neg h2,QK l _ hd.2 (by omega),show a*10+(c.toNat-48)=10*a+(c.toNat-48) by omega]
def Ku(l:List UInt8)(h0:l≠[])(hd:l.all zL=true):
 Go.Lib.atoiAll l=if ym l<9223372036854775808 then .ok (ym l) else .range:=by
 cases l with
 |nil=>exact absurd rfl h0
 |cons c r=>
  have hc:=(jr c).1 (by simp only[List.all_cons,pJ] at hd;exact hd.1);unfold Go.Lib.atoiAll;simp only[];rw[if_neg (by omega)];unfold Go.Lib.parseMag;rw[if_neg (by simp),QK _ 0 hd (by omega),uO];by_cases h1:yP 0 (c :: r)<9223372036854775808
  ·rw[if_pos (by omega),if_pos h1];simp only[];rw[if_neg (by omega),if_neg (by omega),if_neg (by omega)]
  ·rw[if_neg h1];by_cases h2:yP 0 (c :: r)<18446744073709551616
   ·rw[if_pos h2];simp only[];rw[if_pos (by omega)]
   ·rw[if_neg h2]
def zf6(l:List UInt8)(h0:l≠[])(hd:l.all zL=true):kj l=(decide (ym l<=1000000000) && decide (Go.Lib.itoa (ym l)=l)):=by
 have e:Go.Lib.itoa (ym l)=Go.Lib.decDigits (ym l):=by unfold Go.Lib.itoa;rw[if_neg (by omega)];simp
 rw[e];unfold kj;have e0:l.isEmpty=false:=by cases l <;> simp_all
 rw[e0,hd];simp only[Bool.not_false,Bool.true_and,Bool.and_true];congr 1;rw[pP];simp only[wG,pK,Bool.not_eq_true',pB];constructor
 ·intro h;exact ZK _ l rfl h0 hd h
 ·intro h;rcases Nat.lt_or_ge 1 l.length with h1|h1
  ·right;rw[<-h] at h1 ⊢;exact zaj _ h1
  ·left;have:l.length≠0:=λh=>h0 (pT h);omega
theorem XU:∀(l m:List UInt8),l.length=m.length->l.all zL=true->m.all zL=true->Go.Op.bytesLess l m=decide (yP 0 l<yP 0 m)
 |[],[],_,_,_=>by simp[Go.Op.bytesLess,yP]
 |[],_ :: _,h,_,_=>by simp at h
 |_ :: _,[],h,_,_=>by simp at h
 |a :: l,b :: m,h,ha,hb=>by
  simp only[List.all_cons,pJ] at ha hb;have hl:l.length=m.length:=by simpa using h
  have h1:=(jr a).1 ha.1;have h2:=(jr b).1 hb.1;have v1:=zbR l ha.2;have v2:=zbR m hb.2;rw[Go.Op.bytesLess,XU l m hl ha.2 hb.2,ja,ja,uf l (10*0+(a.toNat-48)),uf m (10*0+(b.toNat-48)),hl];rw[hl] at v1;rw[pP];simp only[wG,pJ,pK,pR,UInt8.lt_iff_toNat_lt];have hp:1<=10 ^ m.length:=Nat.pow_pos (by decide);generalize 10 ^ m.length=p at *;rcases Nat.lt_trichotomy a.toNat b.toNat with mD|WG|hgt
  ·have:(10*0+(a.toNat-48)+1)*p<=(10*0+(b.toNat-48))*p:=Nat.mul_le_mul_right _ (by omega);rw[Nat.add_mul] at this;constructor
   ·intro _;omega
   ·intro _;exact .inl mD
  ·have BR:a=b:=UInt8.toNat_inj.1 WG;subst BR;constructor
   ·rintro (h|⟨_,h⟩)
    ·omega
    ·omega
   ·intro h;exact .inr ⟨rfl,by omega⟩
  ·have:(10*0+(b.toNat-48)+1)*p<=(10*0+(a.toNat-48))*p:=Nat.mul_le_mul_right _ (by omega);rw[Nat.add_mul] at this;constructor
   ·rintro (h|⟨h,_⟩)
    ·omega
    ·rw[h] at hgt;omega
   ·intro h;omega
theorem Vp(p:UInt8->Bool):∀l:List UInt8,(yj p l=l.length)↔l.all p=true
 |[]=>by simp[yj]
 |c :: l=>by
  have pk:∀m:List UInt8,yj p m<=m.length:=by
   intro m;induction m with
   |nil=>simp[yj]
   |cons d m ih=>simp only[yj];split <;> simp;omega
  simp only[yj,List.all_cons,pJ,pH];split
  ·rename_i h;rw[<-Vp p l];simp[h]
  ·rename_i h;simp[h]
def kK:List UInt8:=[49,48,48,48,48,48,48,48,48,48]
def ziu(l:List UInt8):kj l=(!(l.isEmpty || decide (10<l.length) || (decide (1<l.length) && (l.head? == some 48)) || (decide (l.length=10) && (!Go.Op.bytesLess l kK && !(l == kK)))) && decide (yj zL l=l.length)):=by
 have e1:decide (yj zL l=l.length)=l.all zL:=by rw[pP];simp only[pK];exact Vp _ _
 rw[e1];unfold kj;cases hd:l.all zL with
 |false=>simp
 |true=>
  cases hl:l with
  |nil=>simp
  |cons c r=>
   rw[<-hl];have e0:l.isEmpty=false:=by rw[hl];rfl
   rw[e0];have mD:=zbR l hd;rw[<-uO] at mD;by_cases hz:l.head? =some 48
   ·rw[hz];by_cases h1:l.length=1
    ·have:ym l<=1000000000:=by rw[h1] at mD;omega
     simp[h1,this]
    ·have:1<l.length:=by rw[hl] at h1 ⊢;simp at h1 ⊢;cases r <;> simp_all
     simp[h1,this]
   ·have Nu:(l.head? == some 48)=false:=by simpa using hz
    rw[Nu];have hc:49<=c.toNat:=by
     have h1:=(jr c).1 (by rw[hl] at hd;simp only[List.all_cons,pJ] at hd;exact hd.1);rcases Nat.lt_or_ge 48 c.toNat with h|h
     ·exact h
     ·exfalso;apply hz;rw[hl];simp;apply UInt8.toNat_inj.1;simp;omega
    have dv:10 ^ r.length<=ym l:=by rw[hl];exact zeL c r hc
    have mV:l.length=r.length+1:=by rw[hl];rfl
    rcases Nat.lt_trichotomy l.length 10 with h|h|h
    ·have:ym l<=1000000000:=by
      have:10 ^ l.length<=10 ^ 9:=Nat.pow_le_pow_right (by omega) (by omega);omega
     have h2:¬10<l.length:=by omega
     have h3:¬l.length=10:=by omega
     simp[this,h2,h3]
    ·have hb:=XU l kK (by rw[h];rfl) hd (by decide);have hm:yP 0 kK=1000000000:=by decide
     rw[hb,hm,<-uO];have WG:(l == kK)=decide (ym l=1000000000):=by
      rw[pP];simp only[pR,pK];constructor
      ·intro h;rw[h];decide
      ·intro hv;have h1:=ZK _ l rfl (by rw[hl];simp) hd (.inr hz);have h2:=ZK _ kK rfl (by decide) (by decide) (.inr (by decide));rw[<-h1,<-h2,<-uO,<-uO,hv];rfl
     rw[WG];simp[h];rw[pP];simp;omega
    ·have ac:¬ym l<=1000000000:=by
      have:10 ^ 10<=10 ^ r.length:=Nat.pow_le_pow_right (by omega) (by omega);omega
     simp[h,ac]
section
open Go Go.RowKit
def zh{p:Prop}(h:p):Hid p:=h
structure Jh(P:Program)(g:Nat)(lb:Array Value)(p:UInt8->Bool)(w:World):Prop where
 eg:∀args w,(callFunc g args).run P w=.ok (.enter g args) w
 calls:∀(W:World) (c:UInt8),Below w.heap.size w W->Calls P g (#[.int .u8 (c.toNat:Int)] ++ lb) W λe W'=>e=.returned (.bool (p c))/\Below W.heap.size W W'
theorem uq(p:UInt8->Bool):∀(l:List UInt8) (k:Nat),(∀j,j<k->p (l.getD j 0)=false)->k<=l.length->qg p l=(qg p (l.drop k)).map (· +k)
 |l,0,_,_=>by simp
 |[],k+1,_,h=>by simp at h
 |c :: r,k+1,h,hk=>by
  have h0:p c=false:=h 0 (by omega);have:=uq p r k (λj hj=>h (j+1) (by omega)) (by simpa using hk);simp only[qg,h0,List.drop_succ_cons,Bool.false_eq_true,if_false];rw[this];simp[Option.map_map,Function.comp_def];rfl
def zg{w w1 w2:World}(h:Below w.heap.size w w1)(k:Below w1.heap.size w1 w2):Below w.heap.size w w2:=h.trans (k.mono h.size)
def zf(w:World)(o:Obj):Below w.heap.size w (w.alloc o):=bR.alloc (pC _) _
def ZC(w:World)(e:TypeId)(s:ByteArray):Below w.heap.size w (Lib.bytesWorld w e s):=
 ⟨rfl,rfl,rfl,by rw[Lib.bytesWorld_size];omega,λk hk=>Lib.bytesWorld_at_old w e s k hk⟩
def Je(c:UInt8)(n:Nat)(h:n<256):(c.toNat=n)=(c=UInt8.ofNat n):=by
 rw[eq_iff_iff];constructor
 ·intro e;subst e;simp
 ·intro e;subst e;simp;omega
def znH(s:ByteArray)(k:Nat)(h:k<s.size):s.data.toList.getD k 0=s[k]:=by
 have h':k<s.data.toList.length:=by simpa using h
 simp[List.getD,h];rfl
def qG(s:ByteArray)(k:Nat)(h:k<s.size):s.data.toList.drop k=s[k] :: s.data.toList.drop (k+1):=by
 have h':k<s.data.toList.length:=by simpa using h
 rw[List.drop_eq_getElem_cons h'];simp;rfl
def jV(s:ByteArray)(k:Nat)(h:s.size<=k):s.data.toList.drop k=[]:=by
 simp;exact h
def zcF(c:UInt8):uK c=true↔((32<=(c.toNat:Int)/\(c.toNat:Int)<=126)\/(c.toNat:Int)=10):=by
 unfold uK;simp;omega
def znw(c:UInt8):uK c=false↔(((c.toNat:Int)<32\/126<(c.toNat:Int))/\(c.toNat:Int)≠10):=by
 rw[<-Bool.not_eq_true,zcF];omega
def zkr(s:ByteArray)(k:Nat)(h:¬3000<s.size)(mP:∀j,j<k->(!uK (s.data.toList.getD j 0))=false)(mD:k<s.size)(hb:uK s[k]=false):qF s.data.toList=(k,4):=by
 unfold qF;rw[if_neg (by simpa using h),uq _ _ k mP (by simpa using (Nat.le_of_lt mD)),qG s k mD];simp[qg,hb]
def ziG(s:ByteArray)(h:¬3000<s.size)(mP:∀j,j<s.size->(!uK (s.data.toList.getD j 0))=false):qF s.data.toList=(0,0):=by
 unfold qF;rw[if_neg (by simpa using h),uq _ _ s.size mP (by simp),jV s s.size (pC _)];rfl
def zaU(s:ByteArray)(p:UInt8->Bool)(b:Bool)(a k:Nat)(mP:∀j,j<k->p (s.data.toList.getD (a+j) 0)=b)(mD:a+k<s.size)(hk:p s[a+k]=b):∀j,j<k+1->p (s.data.toList.getD (a+j) 0)=b:=by
 intro j hj;by_cases e:j=k
 ·subst e;rw[znH s _ mD];exact hk
 ·exact mP j (by omega)
def zeN(s:ByteArray)(p:UInt8->Bool)(b:Bool)(k:Nat)(mP:∀j,j<k->p (s.data.toList.getD j 0)=b)(mD:k<s.size)(hk:p s[k]=b):∀j,j<k+1->p (s.data.toList.getD j 0)=b:=by
 intro j hj;by_cases e:j=k
 ·subst e;rw[znH s _ mD];exact hk
 ·exact mP j (by omega)
theorem Jt(s:ByteArray)(p:UInt8->Bool)(a:Nat):∀(k:Nat),(∀j,j<k->p (s.data.toList.getD (a+j) 0)=true)->a+k<=s.size->yj p (s.data.toList.drop a)=k+yj p (s.data.toList.drop (a+k))
 |0,_,_=>by simp
 |k+1,h,hk=>by
  have h1:=Jt s p a k (λj hj=>h j (by omega)) (by omega);have h2:=h k (by omega);have mD:a+k<s.size:=by omega
  rw[znH s _ mD] at h2;rw[h1,qG s (a+k) mD];simp[yj,h2];rw[Nat.add_assoc];omega
def Ya(c:UInt8)(cm:Bool)(r:List UInt8):yb cm (c :: r)=if (c.toNat:Int)=10 then yb false r+1 else if (c.toNat:Int)=35 then yb true r+1 else if (c.toNat:Int)=32\/cm=true then yb cm r+1 else 0:=by
 have e1:(c=10)=((c.toNat:Int)=10):=by rw[show ((c.toNat:Int)=10)=(c.toNat=10) from by simp;omega,Je c 10 (by omega)];rfl
 have e2:(c=35)=((c.toNat:Int)=35):=by rw[show ((c.toNat:Int)=35)=(c.toNat=35) from by simp;omega,Je c 35 (by omega)];rfl
 have e3:(c=32)=((c.toNat:Int)=32):=by rw[show ((c.toNat:Int)=32)=(c.toNat=32) from by simp;omega,Je c 32 (by omega)];rfl
 simp only[yb,e1,e2,e3]
section
variable {n k:Nat} {cm:Bool} {c:UInt8} {r:List UInt8}
def zgd(h:n=k+yb cm (c :: r))(a:((c.toNat:Int) == 10)=true):n=(k+1)+yb false r:=by rw[Ya,if_pos (by simpa using a)] at h;omega
def zkk(h:n=k+yb cm (c :: r))(a:((c.toNat:Int) == 10)=false)(b:((c.toNat:Int) == 35)=true):n=(k+1)+yb true r:=by rw[Ya,if_neg (by simpa using a),if_pos (by simpa using b)] at h;omega
def JJ(h:n=k+yb cm (c :: r))(a:((c.toNat:Int) == 10)=false)(b:((c.toNat:Int) == 35)=false)(d:(c.toNat:Int)=32):n=(k+1)+yb cm r:=by
 rw[Ya,if_neg (by simpa using a),if_neg (by simpa using b),if_pos (.inl d)] at h;omega
def znC(h:n=k+yb cm (c :: r))(a:((c.toNat:Int) == 10)=false)(b:((c.toNat:Int) == 35)=false)(d:((c.toNat:Int) != 32)=false\/(!cm)=false):n=(k+1)+yb cm r:=by
 rw[Ya,if_neg (by simpa using a),if_neg (by simpa using b),if_pos (by simpa using d)] at h;omega
def zcI(h:n=k+yb cm (c :: r))(a:((c.toNat:Int) == 10)=false)(b:((c.toNat:Int) == 35)=false)(d:((c.toNat:Int) != 32)=true/\(!cm)=true):n=k:=by
 rw[Ya,if_neg (by simpa using a),if_neg (by simpa using b),if_neg (by simpa using d)] at h;omega
end
def zon(s:ByteArray)(h:0<s.size)(n:Nat)(hn:n<256):(s.data.toList.head? == some (UInt8.ofNat n))=((s[0].toNat:Int) == n):=by
 have:=qG s 0 h;rw[List.drop_zero] at this;rw[this,pP];simp only[List.head?_cons,Option.some_beq_some,pR];rw[<-Je _ n hn];omega
def znG(s:ByteArray)(n:Nat)(hn:n<256):(s.data.toList.head? == some (UInt8.ofNat n))=if h:0<s.size then ((s[0].toNat:Int) == n) else false:=by
 split
 ·exact zon s ‹_› n hn
 ·have:=jV s 0 (by omega);rw[List.drop_zero] at this;rw[this];rfl
def ceq(c:UInt8)(n:Nat)(hn:n<256):(((c.toNat:Int))=n)=(c=UInt8.ofNat n):=by
 rw[<-Je c n hn];simp only[eq_iff_iff];omega
def c34(c:UInt8):((c.toNat:Int)=34)=(c=34):=ceq c 34 (by omega)
def c92(c:UInt8):((c.toNat:Int)=92)=(c=92):=ceq c 92 (by omega)
def zom(c:UInt8):((c.toNat:Int)=110)=(c=110):=ceq c 110 (by omega)
def c10(c:UInt8):((c.toNat:Int)=10)=(c=10):=ceq c 10 (by omega)
def Xf(s:ByteArray)(i:Nat)(h:i<s.size):(s.extract i (i+1)).data.toList=[s[i]]:=by
 have:=qG s i h;simp only[ByteArray.data_extract,Array.toList_extract,List.extract_eq_take_drop];rw[this];simp
def zu(a b:ByteArray):(a ++ b).data.toList=a.data.toList ++ b.data.toList:=by simp
def ui(c:UInt8)(r:List UInt8):Kg (c :: r)=if c.toNat<32\/126<c.toNat then none else if c=34 then some ([],1) else if c=92 then
 (match r with
 |[]=>none
 |d :: r'=>if d=34\/d=92 then (Kg r').map λx=>(d :: x.1,x.2+2) else if d=110 then (Kg r').map λx=>(10 :: x.1,x.2+2) else none)
 else (Kg r).map λx=>(c :: x.1,x.2+1):=by
 rw[Kg.eq_def]
 first|done|rfl
def zls:Option (List UInt8×Nat)->Option (List UInt8×Nat)
 |some (t,n)=>if t.length<=60 then some (t,n+1) else none
 |none=>none
def zig(s:List UInt8):jZ s=zls (Kg (s.drop 1)):=by
 unfold jZ zls;cases Kg (s.drop 1) <;> rfl
def ziR(q:Option (List UInt8×Nat))(n:Int)(t:ByteArray)(ok:Bool):Prop:=
 match q with
 |some (t',n')=>ok=true/\n=n'/\t=⟨t'.toArray⟩
 |none=>ok=false
def uD(s:ByteArray)(a k:Nat)(ob:ByteArray)(q:Option (List UInt8×Nat)):Prop:=
 q=zls ((Kg (s.data.toList.drop (a+1+k))).map λx=>(ob.data.toList ++ x.1,k+x.2))
def uD.start(s:ByteArray)(a:Nat):uD s a 0 ByteArray.empty (jZ (s.data.toList.drop a)):=by
 unfold uD;rw[zig,List.drop_drop];cases Kg (s.data.toList.drop (a+1)) <;> simp
section
variable {s:ByteArray} {a k:Nat} {ob:ByteArray} {q:Option (List UInt8×Nat)}
def VA(h:uD s a k ob q)(e:Kg (s.data.toList.drop (a+1+k))=none):q=none:=by
 unfold uD at h;rw[e] at h;exact h
def zmp(h:uD s a k ob q)(he:s.size<=a+1+k):q=none:=VA h (by rw[jV s _ he];rfl)
def zmq(h:uD s a k ob q)(mD:a+1+k<s.size)(b:(s[a+1+k].toNat:Int)<32):q=none:=VA h (by rw[qG s _ mD,ui,if_pos (by omega)])
def znc(h:uD s a k ob q)(mD:a+1+k<s.size)(b:126<(s[a+1+k].toNat:Int)):q=none:=VA h (by rw[qG s _ mD,ui,if_pos (by omega)])
def zgR(h:uD s a k ob q)(mD:a+1+k<s.size)(b1:32<=(s[a+1+k].toNat:Int))(b2:(s[a+1+k].toNat:Int)<=126)(b3:((s[a+1+k].toNat:Int) == 34)=true)(n:Int)(hn:n=k+2):
 ziR q n ob (decide ((ob.size:Int)<=60)):=by
 have e:Kg (s.data.toList.drop (a+1+k))=some ([],1):=by
  rw[qG s _ mD,ui,if_neg (by omega),if_pos (by rw[pR,c34] at b3;exact b3)]
 unfold uD at h;rw[e] at h;simp only[Option.map_some,zls,gD] at h;subst h;by_cases hl:ob.size<=60
 ·rw[if_pos (by simpa using hl)];exact⟨by simp;omega,by omega,rfl⟩
 ·rw[if_neg (by simpa using hl)];show _=_
  simp;omega
def zgQ(h:uD s a k ob q)(mD:a+1+k<s.size)(b1:32<=(s[a+1+k].toNat:Int))(b2:(s[a+1+k].toNat:Int)<=126)(b3:((s[a+1+k].toNat:Int) == 34)=false)(b4:((s[a+1+k].toNat:Int) != 92)=true):
 uD s a (k+1) (ob ++ s.extract (a+1+k) (a+1+k+1)) q:=by
 unfold uD at *;rw[h,qG s _ mD,ui,if_neg (by omega),if_neg (by rw[pB,ne_eq,c34] at b3;exact b3),if_neg (by rw[wV,ne_eq,c92] at b4;exact b4),zu,Xf s _ mD];cases Kg (s.data.toList.drop (a+1+k+1)) <;> simp[Nat.add_assoc,Nat.add_comm 1,Option.map]
def zbc(h:uD s a k ob q)(mD:a+1+k<s.size)(b1:32<=(s[a+1+k].toNat:Int))(b2:(s[a+1+k].toNat:Int)<=126)(b3:((s[a+1+k].toNat:Int) == 34)=false)(b4:((s[a+1+k].toNat:Int) != 92)=false)(he:s.size<=a+1+k+1):q=none:=
 VA h (by
  rw[qG s _ mD,ui,if_neg (by omega),if_neg (by rw[pB,ne_eq,c34] at b3;exact b3),if_pos (by rw[wX,c92] at b4;exact b4),jV s _ he])
def zjJ(h:uD s a k ob q)(mD:a+1+k<s.size)(b1:32<=(s[a+1+k].toNat:Int))(b2:(s[a+1+k].toNat:Int)<=126)(b3:((s[a+1+k].toNat:Int) == 34)=false)(b4:((s[a+1+k].toNat:Int) != 92)=false)(h2:a+1+k+1<s.size)(b5:(s[a+1+k+1].toNat:Int)=34\/(s[a+1+k+1].toNat:Int)=92):uD s a (k+2) (ob ++ s.extract (a+1+k+1) (a+1+k+1+1)) q:=by
 unfold uD at *;rw[h,qG s _ mD,ui,if_neg (by omega),if_neg (by rw[pB,ne_eq,c34] at b3;exact b3),if_pos (by rw[wX,c92] at b4;exact b4),zu,Xf s _ h2,qG s _ h2];simp only[];rw[if_pos (by rw[c34,c92] at b5;exact b5)];rw[show a+1+k+1+1=a+1+(k+2) by omega];cases Kg (s.data.toList.drop (a+1+(k+2))) <;> simp[Nat.add_assoc,Nat.add_comm 2]
def zjI(h:uD s a k ob q)(mD:a+1+k<s.size)(b1:32<=(s[a+1+k].toNat:Int))(b2:(s[a+1+k].toNat:Int)<=126)(b3:((s[a+1+k].toNat:Int) == 34)=false)(b4:((s[a+1+k].toNat:Int) != 92)=false)(h2:a+1+k+1<s.size)(b5:(s[a+1+k+1].toNat:Int)≠34/\(s[a+1+k+1].toNat:Int)≠92)(b6:(s[a+1+k+1].toNat:Int)=110):uD s a (k+2) (ob ++ ⟨#[10]⟩) q:=by
 unfold uD at *;rw[h,qG s _ mD,ui,if_neg (by omega),if_neg (by rw[pB,ne_eq,c34] at b3;exact b3),if_pos (by rw[wX,c92] at b4;exact b4),zu,qG s _ h2];simp only[];rw[if_neg (by rw[ne_eq,ne_eq,c34,c92] at b5;rintro (e|e);exact b5.1 e;exact b5.2 e),if_pos (by rw[zom] at b6;exact b6)];rw[show a+1+k+1+1=a+1+(k+2) by omega];cases Kg (s.data.toList.drop (a+1+(k+2))) <;> simp[Nat.add_assoc,Nat.add_comm 2]
def zmr(h:uD s a k ob q)(mD:a+1+k<s.size)(b1:32<=(s[a+1+k].toNat:Int))(b2:(s[a+1+k].toNat:Int)<=126)(b3:((s[a+1+k].toNat:Int) == 34)=false)(b4:((s[a+1+k].toNat:Int) != 92)=false)(h2:a+1+k+1<s.size)(b5:(s[a+1+k+1].toNat:Int)≠34/\(s[a+1+k+1].toNat:Int)≠92)(b6:(s[a+1+k+1].toNat:Int)≠110):q=none:=
 VA h (by
  rw[qG s _ mD,ui,if_neg (by omega),if_neg (by rw[pB,ne_eq,c34] at b3;exact b3),if_pos (by rw[wX,c92] at b4;exact b4),qG s _ h2];simp only[];rw[if_neg (by rw[ne_eq,ne_eq,c34,c92] at b5;rintro (e|e);exact b5.1 e;exact b5.2 e),if_neg (by rw[ne_eq,zom] at b6;exact b6)])
end
end
end Lode
namespace Go.Proofs.YtcagibbaeageoaaGreatDoor
section
open Go.RowKit Lode Go.Shelf
open Go.Proofs.Tryz
theorem QI:∀(m:Nat) (r:List UInt8),r.length<=m->∀t n,Kg r=some (t,n)->1<=n/\n<=r.length/\t.length<=n-1
 |0,r,hm,t,n,h=>by
  have:r=[]:=pT (by omega);subst this;simp[Kg] at h
 |m+1,[],_,t,n,h=>by simp[Kg] at h
 |m+1,c :: r,hm,t,n,h=>by
  simp only[pH] at hm;unfold Kg at h;split at h
  ·cases h
  ·split at h
   ·cases h;simp
   ·split at h
    ·cases r with
     |nil=>cases h
     |cons d r'=>
      simp only[pH] at hm;simp only at h;split at h
      ·cases hq:Kg r' with
       |none=>rw[hq] at h;cases h
       |some x=>
        rw[hq] at h;cases h;have:=QI m r' (by omega) _ _ hq;simp only[pH];omega
      ·split at h
       ·cases hq:Kg r' with
        |none=>rw[hq] at h;cases h
        |some x=>
         rw[hq] at h;cases h;have:=QI m r' (by omega) _ _ hq;simp only[pH];omega
       ·cases h
    ·cases hq:Kg r with
     |none=>rw[hq] at h;cases h
     |some x=>
      rw[hq] at h;cases h;have:=QI m r (by omega) _ _ hq;simp only[pH];omega
def zdI(h:Lode.jZ r=some (t,n)):2<=n/\n<=r.length/\t.length<=60:=by
 unfold Lode.jZ at h;cases hq:Kg (r.drop 1) with
 |none=>rw[hq] at h;cases h
 |some x=>
  obtain⟨t',n'⟩:=x;rw[hq] at h;simp only at h;split at h
  ·cases h;have:=QI _ _ (pC _) _ _ hq;simp only[wT] at this;omega
  ·cases h
theorem Qa(p:UInt8->Bool):∀m:List UInt8,yj p m<=m.length
 |[]=>by simp[yj]
 |d :: m=>by simp only[yj];have:=Qa p m;split <;> simp;omega
theorem zec:∀(g r:List UInt8),jy g r=true->g.length<=r.length
 |[],_,_=>by simp
 |_ :: _,[],h=>by simp[jy] at h
 |a :: g,b :: r,h=>by
  simp only[jy,pJ] at h;have:=zec g r h.2;simp;omega
def zjq:∀g,g∈yd->1<=g.length:=by decide
def ZR(h:xR r=some (k,t,m)):1<=m/\m<=r.length/\1<=k/\k<=6:=by
 cases r with
 |nil=>cases h
 |cons c r=>
  simp only[xR] at h;have r1:=Qa (λc=>zR c || zL c) r;have r2:=Qa zL r;split at h
  ·split at h
   ·cases h;refine⟨by omega,by simp;omega,by split <;> simp,by split <;> simp⟩
   ·cases h
  ·split at h
   ·split at h
    ·cases h;refine⟨by omega,by simp;omega,by omega,by omega⟩
    ·cases h
   ·split at h
    ·split at h
     ·rename_i hn;cases h;exact⟨by omega,by simp;omega,by omega,by omega⟩
     ·cases h
    ·split at h
     ·cases hq:Lode.jZ (c :: r) with
      |none=>rw[hq] at h;cases h
      |some x=>
       rw[hq] at h;cases h;have:=zdI hq;exact⟨by omega,this.2.1,by omega,by omega⟩
     ·cases hg:yd.find? (λg=>jy g (c :: r)) with
      |none=>rw[hg] at h;cases h
      |some g=>
       rw[hg] at h;cases h;have h1:=List.find?_some hg;have h2:=List.mem_of_find?_eq_some hg;have h3:=zjq _ h2;exact⟨h3,zec _ _ h1,by omega,by omega⟩
def vT(L:List yO)(x:List yO×Nat×Nat):List yO×Nat×Nat:=if x.2.2=0 then (L ++ x.1,0,0) else ([],x.2)
def zh0(f n a:Nat)(r:List UInt8):vT [] (YD f n a r)=YD f n a r:=by
 cases f with
 |zero=>simp[YD,vT]
 |succ f=>
  simp only[YD];split
  ·simp[vT]
  ·split
   ·simp[vT]
   ·split
    ·simp[vT]
    ·generalize YD f (n+1) _ _=x;by_cases hx:x.2.2=0 <;> simp[vT,hx]
def zey(L:List yO)(t:yO)(x:List yO×Nat×Nat):vT L (if x.2.2=0 then (t :: x.1,0,0) else ([],x.2))=vT (L ++ [t]) x:=by
 by_cases hx:x.2.2=0 <;> simp[vT,hx]
def Xm(s:List UInt8)(r:List yO×Nat×Nat)(L:List yO)(a:Nat):Prop:=
 ∃a' fuel,a=a'+yb false (s.drop a')/\s.length<fuel+a'/\a'<=s.length/\L.length<=1200/\r=vT L (YD fuel L.length a' (s.drop a'))
theorem Xy:∀(b:Bool) (m:List UInt8),yb b m<=m.length
 |_,[]=>by simp[yb]
 |b,c :: m=>by
  have h1:=Xy false m;have h2:=Xy true m;have h3:=Xy b m;simp only[yb,pH];split
  ·omega
  ·split
   ·omega
   ·split <;> omega
def Xm.le{s:List UInt8}{r:List yO×Nat×Nat}{L:List yO}(h:Xm s r L a):a<=s.length:=by
 obtain⟨a',f,e,_,h2,_⟩:=h;have:=Xy false (s.drop a');simp at this;omega
def Xm.start{s:List UInt8}(h:(qF s).2=0):Xm s (Lode.vB s) [] (yb false s):=by
 refine⟨0,s.length+1,by simp,by omega,by omega,by simp,?_⟩;simp only[pM,List.drop_zero,zh0,Lode.vB,h,ne_eq,not_true,if_false]
def KO{s:List UInt8}{a' f:Nat}(e:a=a'+yb false (s.drop a'))(hf:s.length<f+a')(h:a'<=s.length):
 ∃g,f=g+1/\YD f n a' (s.drop a')=match s.drop a with
  |[]=>([],0,0)
  |r1=>match xR r1 with
   |none=>([],a,4)
   |some (k,t,m)=>if n=1200 then ([],a,5) else
    let x:=YD g (n+1) (a+m) (r1.drop m)
    if x.2.2=0 then (⟨k,t,(a:Nat)⟩ :: x.1,0,0) else ([],x.2):=by
 obtain⟨g,rfl⟩:∃g,f=g+1:=⟨f-1,by omega⟩;refine⟨g,rfl,?_⟩;subst e;simp only[YD,List.drop_drop]
 first|done|rfl
def Xm.done{s:List UInt8}{r:List yO×Nat×Nat}{L:List yO}(h:Xm s r L a)(ha:s.length<=a):r=(L,0,0):=by
 obtain⟨a',f,e,h1,h2,_,h4⟩:=h;obtain⟨g,_,h5⟩:=KO (n:=L.length) e h1 h2;rw[h5,List.drop_eq_nil_of_le ha] at h4;simpa[vT] using h4
def Qp{s:List UInt8}(ha:a<s.length):∃c r,s.drop a=c :: r:=⟨s[a],s.drop (a+1),List.drop_eq_getElem_cons ha⟩
def Xm.bad{s:List UInt8}{r:List yO×Nat×Nat}{L:List yO}(h:Xm s r L a)(ha:a<s.length)(ht:xR (s.drop a)=none):r=([],a,4):=by
 obtain⟨a',f,e,h1,h2,_,h4⟩:=h;obtain⟨g,_,h5⟩:=KO (n:=L.length) e h1 h2;obtain⟨c,q,hq⟩:=Qp ha;rw[hq] at ht h5;simp only[ht] at h5;rw[h5] at h4;simpa[vT] using h4
def Xm.full{s:List UInt8}{r:List yO×Nat×Nat}{L:List yO}(h:Xm s r L a)(ha:a<s.length)(ht:xR (s.drop a)=some x)(hL:L.length=1200):r=([],a,5):=by
 obtain⟨a',f,e,h1,h2,_,h4⟩:=h;obtain⟨g,_,h5⟩:=KO (n:=L.length) e h1 h2;obtain⟨c,q,hq⟩:=Qp ha;rw[hq] at ht h5;simp only[ht,hL,if_true] at h5;rw[hL,h5] at h4;simpa[vT] using h4
def Xm.next{s:List UInt8}{r:List yO×Nat×Nat}{L:List yO}(h:Xm s r L a)(ha:a<s.length)(ht:xR (s.drop a)=some (k,t,m))(hL:L.length≠1200):
 Xm s r (L ++ [⟨k,t,(a:Nat)⟩]) (a+m+yb false (s.drop (a+m))):=by
 obtain⟨a',f,e,h1,h2,h3,h4⟩:=h;obtain⟨g,hg,h5⟩:=KO (n:=L.length) e h1 h2;have hw:=ZR ht;simp only[wT] at hw;obtain⟨c,q,hq⟩:=Qp ha;have hd:s.drop (a+m)=(s.drop a).drop m:=by rw[List.drop_drop]
 refine⟨a+m,g,rfl,by omega,by omega,by simp;omega,?_⟩;rw[hd,hq];rw[hq] at ht h5;simp only[ht,hL,if_false] at h5;rw[h4,h5,zey];simp
def jv(t:yO):List Value:=[.int .u8 t.kind,.string ⟨t.text.toArray⟩,.int .i64 t.at_]
def kf(l:List yO):List Value:=l.flatMap jv
def Zq(w:World)(base:Nat)(v:Value)(l:List yO):Prop:=w.ownsRow base 66 3 v l.length (kf l)
def Zq.below{w w':World}{v:Value}{l:List yO}(h:Zq w b v l)(hb:Below w.heap.size w w'):Zq w' b v l:=
 World.ownsRow.kept (row:=none) h ⟨hb.os,hb.tape,hb.output,hb.size,λk hk _=>hb.block k hk⟩ (by cases v.ownBlock <;> simp)
def ZB{w0 W W':World}{v:Value}{e:TypeId}{xs:List Value}(h:Below w0.heap.size w0 W)(ho:W.ownsRow w0.heap.size e n v m xs)(hg:W.grownBy W' v.ownBlock):Below w0.heap.size w0 W':=
 ⟨hg.os.trans h.os,hg.tape.trans h.tape,hg.output.trans h.output,pN h.size hg.size,λk hk=>(hg.block k (pX hk h.size) (λe=>by have:=(ho.lt k e.symm).1;omega)).trans (h.block k hk)⟩
def Zq.snoc{w:World}{v:Value}{l:List yO}{t:yO}(h:w.ownsRow b 66 3 v (l.length+1) (kf l ++ jv t)):Zq w b v (l ++ [t]):=by
 unfold Zq;rw[pE];simpa[kf] using h
inductive AtP (s:List UInt8):List yO->Nat->Prop
 |start:AtP s [] (yb false s)
 |next {pre:List yO} {k kk m:Nat} {t:List UInt8}:AtP s pre k->k<s.length->xR (s.drop k)=some (kk,t,m)->AtP s (pre ++ [⟨kk,t,(k:Nat)⟩]) (k+m+yb false (s.drop (k+m)))
def AtP.rinv{s:List UInt8}{L:List yO}(hc:(qF s).2=0)(h:AtP s L k):L.length<=1200->Xm s (Lode.vB s) L k:=by
 induction h with
 |start=>intro _;exact Xm.start hc
 |next h1 h2 h3 ih=>
  intro hl;simp only[pE,pH,pM] at hl;exact (ih (by omega)).next h2 h3 (by omega)
def AtP.kinds{s:List UInt8}{L:List yO}(h:AtP s L k):∀t∈L,1<=t.kind:=by
 induction h with
 |start=>intro t ht;cases ht
 |next h1 h2 h3 ih=>
  intro t ht;rcases pW.1 ht with h|h
  ·exact ih t h
  ·rw[wD] at h;subst h;exact (ZR h3).2.2.1
def zpe(s:List UInt8)(pre:List yO)(x:yO):Prop:=∃k,AtP s pre k/\k<s.length/\((xR (s.drop k)=none/\x=⟨0,[],(k:Nat)⟩)\/∃kk t m,xR (s.drop k)=some (kk,t,m)/\x=⟨kk,t,(k:Nat)⟩)
def zpb(s:List UInt8)(xs:List yO):Prop:=(∃k,AtP s xs k/\s.length<=k)\/∃pre k,xs=pre ++ [⟨0,[],(k:Nat)⟩]
abbrev zn5(t:yO):Value:=.agg #[.int .u8 t.kind,.string ⟨t.text.toArray⟩,.int .i64 t.at_]
def XW(c lo hi:Int)(w:World):
 Calls prog 179 #[.int .u8 c,.int .u8 lo,.int .u8 hi] w λe w'=>e=.returned (.bool (decide (lo<=c) && decide (c<=hi)))/\w=w':=by
 by_cases h1:lo<=c
 ·go_enter func179,ntmps179;go_wp2;go_ret;exact⟨by simp[h1],rfl⟩
 ·have h2:decide (lo<=c)=false:=by simpa using h1
  rw[h2];go_enter func179,ntmps179;go_wp2;go_ret;exact⟨rfl,rfl⟩
def zga(c:UInt8)(w:World):
 Calls prog 123 #[.int .u8 (c.toNat:Int)] w λe w'=>e=.returned (.bool (uK c))/\w=w':=by
 by_cases h:(decide ((32:Int)<=(c.toNat:Int)) && decide ((c.toNat:Int)<=126))=true
 ·have hs:uK c=true:=by simp at h;simp[uK];omega
  rw[hs];go_enter func123,ntmps123;go_wp2_with (go_at_call 179;refine (XW _ _ _ _).mono ?_;rintro e w' ⟨rfl,rfl⟩;rw[h]);go_ret;exact⟨rfl,rfl⟩
 ·have h':(decide ((32:Int)<=(c.toNat:Int)) && decide ((c.toNat:Int)<=126))=false:=by simpa using h
  have hs:uK c=((c.toNat:Int) == 10):=by simp at h';simp[uK];rw[pP];simp;omega
  rw[hs];go_enter func123,ntmps123;go_wp2_with (go_at_call 179;refine (XW _ _ _ _).mono ?_;rintro e w' ⟨rfl,rfl⟩;rw[h']);go_ret;exact⟨rfl,rfl⟩
def vw(c:UInt8):Int:=if zR c then 1 else if Zn c then 2 else if zL c then 3 else 0
def kO(c:UInt8)(w:World):
 Calls prog 182 #[.int .u8 (c.toNat:Int)] w λe w'=>e=.returned (.int .u8 (vw c))/\w=w':=by
 have e1:(decide ((97:Int)<=(c.toNat:Int)) && decide ((c.toNat:Int)<=122))=zR c:=by unfold zR;rw[pP];simp;omega
 have e2:(decide ((65:Int)<=(c.toNat:Int)) && decide ((c.toNat:Int)<=90))=Zn c:=by unfold Zn;rw[pP];simp;omega
 have e3:(decide ((48:Int)<=(c.toNat:Int)) && decide ((c.toNat:Int)<=57))=zL c:=by unfold zL;rw[pP];simp;omega
 have E1:=zh e1;have E2:=zh e2;have E3:=zh e3;clear e1 e2 e3;go_enter func182,ntmps182;go_wp2_with (go_at_call 179;refine (XW _ _ _ _).mono ?_;rintro e w' ⟨rfl,rfl⟩;first|rw[E1.q]|rw[E2.q]|rw[E3.q])
 all_goals go_ret
 all_goals exact⟨by simp[vw, *],rfl⟩
def zaL(b n cap:Nat)(l:List UInt8)(g:Nat)(lb:Array Value)(p:UInt8->Bool)(w:World)(hp:Jh prog g lb p w)(hn:n=l.length)(hm:n<=9223372036854775807)(hc:∀j,j<n->w.cell? ⟨b,j,none⟩=some (.int .u8 (l[j]?.getD 0).toNat)):
 Calls prog 177 #[.slice (some ⟨b,0,none⟩) n cap,.func (.func g) #[] lb] w λe w'=>e=.returned (.int .i64 (zcA (qg p l)))/\Below w.heap.size w w':=by
 obtain⟨eg,cO⟩:=hp;have Hn:=zh hn;clear hn;have Hc:=zh hc;clear hc;have Hcall:=zh cO;clear cO;go_enter func177,ntmps177;go_wp2;go_loopw [5,8] (λ_ s8 wr=>∃k:Nat,k<=n/\s8=.int .i64 k/\Hid (∀j,j<k->p (l.getD j 0)=false)/\Below w.heap.size w wr) (λ_ s8 _=>n-(intOf s8).toNat)
 case atStart=>exact⟨0,pU _,rfl,λj hj=>absurd hj (wF _),pG _ _⟩
 case round=>
  obtain⟨k,hk,rfl,mP,hb⟩:=hrel;by_cases mD:k<n
  ·have rY:wr.cell? ⟨b,k,none⟩=some (.int .u8 (l[k]?.getD 0).toNat):=by
    have:=Hc.q k mD;rw[hb.cell (block_lt_of_cell this)];exact this
   have SI:=Hcall.q wr (l[k]?.getD 0) hb;have hltz:(k:Int)<(n:Int):=by omega
   go_wp2_with fail;refine SI.mono ?_;rintro e W2 ⟨rfl,mM⟩;clear SI rY;have mU:=hb.trans (mM.mono hb.size);by_cases Bi:p (l[k]?.getD 0)=true
   ·go_wp2;go_ret;refine⟨?_,mU⟩;have:=uq p l k mP.q (by rw[<-Hn.q];exact hk);rw[Hn.q] at mD;rw[this,List.drop_eq_getElem_cons mD];simp[mD] at Bi;simp[qg,Bi,zcA]
   ·have Ei:p (l[k]?.getD 0)=false:=by simpa using Bi
    clear Bi;go_wp2;go_roundw
    case rel=>exact⟨k+1,by omega,by go_num,λj hj=>by
     by_cases e:j=k
     ·subst e;simpa using Ei
     ·exact mP.q j (by omega),mU⟩
    case measure=>simp[intOf];omega
  ·go_wp2;go_ret;refine⟨?_,hb⟩;have:=uq p l k mP.q (by rw[<-Hn.q];exact hk);have mf:l.drop k=[]:=by have:=Hn.q;simp;omega
   rw[this,mf];rfl
def zoS(g:Nat)(lb:Array Value)(p:UInt8->Bool)(w:World)(hp:Jh prog g lb p w)(b:Nat)(hb:w.cell? ⟨b,0,none⟩=some (.func (.func g) #[] lb)):
 Jh prog 178 #[.pointer (some ⟨b,0,none⟩)] (λc=> !p c) w:=by
 refine⟨enters_of func178 (by kernel_rfl) rfl,λW c er=>?_⟩;obtain⟨eg,cO⟩:=hp;have SI:=cO W c er;have rY:W.cell? ⟨b,0,none⟩=some (.func (.func g) #[] lb):=by rw[er.cell (block_lt_of_cell hb)];exact hb
 clear cO hb;have HW:=zh er;clear er;show Calls prog 178 #[.int .u8 (c.toNat:Int),.pointer (some ⟨b,0,none⟩)] W _
 go_enter func178,ntmps178;go_wp2_with fail;refine SI.mono ?_;rintro e W2 ⟨rfl,mM⟩;clear SI;go_wp2;go_ret;exact⟨rfl,mM⟩
def zdK{lb:Array Value}{w W:World}(h:Jh prog g lb p w)(hb:Below w.heap.size w W):Jh prog g lb p W:=
 ⟨h.eg,λW' c hW=>h.calls W' c (zg hb hW)⟩
def JK(s:ByteArray)(g:Nat)(lb:Array Value)(p:UInt8->Bool)(w:World)(hp:Jh prog g lb p w)(hs:s.size<=9223372036854775807):
 Calls prog 122 #[.string s,.func (.func g) #[] lb] w λe w'=>e=.returned (.int .i64 (zcA (qg (λc=> !p c) s.data.toList)))/\Below w.heap.size w w':=by
 have kc:=λ(w:World)=>Lib.run_convert_string_bytes (P:=prog) w 9 76 5 s underlying9 underlying76 underlying5
 have Hp:=zh hp;clear hp;go_enter func122,ntmps122;go_wp2_with fail;have Ll:=zf w (.cells #[.func (.func g) #[] lb] 122);have au:=ZC (w.alloc (.cells #[.func (.func g) #[] lb] 122)) 5 s;have RN:=zdK Hp.q (zg Ll au);have rY:(Lib.bytesWorld (w.alloc (.cells #[.func (.func g) #[] lb] 122)) 5 s).cell? ⟨w.heap.size,0,none⟩=some (.func (.func g) #[] lb):=by
  rw[Lib.bytesWorld_old _ _ _ _ (by simp)];simp
 refine (zaL _ _ _ s.data.toList _ _ _ _ (zoS _ _ _ _ RN _ rY) (by simp) hs (λj hj=>?_)).mono ?_
 ·have:=Lib.bytesWorld_cell (w.alloc (.cells #[.func (.func g) #[] lb] 122)) 5 s j hj;simp only[World.size_alloc] at this;simpa using this
 ·rintro e W2 ⟨rfl,mM⟩;clear kc RN rY;go_wp2;go_ret;exact⟨rfl,zg (zg Ll au) mM⟩
def zmd(s:ByteArray)(g:Nat)(lb:Array Value)(p:UInt8->Bool)(w:World)(hp:Jh prog g lb p w)(hs:s.size<=9223372036854775807):
 Calls prog 254 #[.string s,.func (.func g) #[] lb] w λe w'=>e=.returned (.bool (decide (qg (λc=> !p c) s.data.toList=none)))/\Below w.heap.size w w':=by
 have Hp:=zh hp;clear hp;go_enter func254,ntmps254;go_wp2_with fail;refine (JK s g lb p _ Hp.q hs).mono ?_;rintro e W2 ⟨rfl,mM⟩;cases hf:qg (λc=> !p c) s.data.toList with
 |none=>
  simp only[zcA];go_wp2;go_ret;exact⟨by simp[hf],mM⟩
 |some k=>
  simp only[zcA];go_wp2;go_ret;exact⟨by simp[hf],mM⟩
def zhe(w:World):Jh prog 123 #[] uK w:=
 ⟨enters_of func123 (by kernel_rfl) rfl,λW c _=>(zga c W).mono λe w' ⟨he,hw⟩=>⟨he,hw▸pG _ _⟩⟩
def ziH(s:ByteArray)(w:World)(hs:s.size<=9223372036854775807):
 Calls prog 77 #[.string s] w λe w'=>e=.returned (.tuple #[.int .i64 (qF s.data.toList).1,.int .i64 (qF s.data.toList).2])/\Below w.heap.size w w':=by
 by_cases h:3000<s.size
 ·have e1:qF s.data.toList=(3000,5):=by unfold qF;rw[if_pos (by simpa using h)]
  rw[e1];clear e1;go_enter func77,ntmps77;go_wp2;go_ret2;exact⟨rfl,pG _ _⟩
 ·have e1:=show qF s.data.toList=match qg (λc=> !uK c) s.data.toList with|some i=>(i,4)|none=>(0,0) by unfold qF;rw[if_neg (by simpa using h)];first|done|rfl
  have E1:=zh e1;clear e1;go_enter func77,ntmps77;go_wp2_with fail;refine (JK s _ _ _ _ (zhe _) hs).mono ?_;rintro e W2 ⟨rfl,mM⟩;cases hf:qg (λc=> !uK c) s.data.toList with
  |none=>
   simp only[zcA];go_wp2;go_ret2;exact⟨by rw[E1.q,hf];rfl,mM⟩
  |some k=>
   simp only[zcA];go_wp2;go_ret2;exact⟨by rw[E1.q,hf];rfl,mM⟩
end
end Go.Proofs.YtcagibbaeageoaaGreatDoor
namespace Go.Proofs
section
open Go.Shelf
def Tryz.lays170_ren:Go.Shelf.Ren:=⟨fun|170=>240|n=>n,fun|70=>75|3=>3|0=>0|72=>78|37=>76|5=>5|n=>n,fun|n=>n⟩
def Tryz.lays170:Go.Proofs.Lays.n170 prog Tryz.lays170_ren:={
 mixed:=by kernel_rfl
 f170:=func240.trans (congrArg some (by kernel_rfl))
 t0:=underlying0
 a0:=Tryz.isAgg0
 z0:=Tryz.sizeOf0
 v0:=Tryz.zeroValue0
 t3:=underlying3
 a3:=Tryz.isAgg3
 z3:=Tryz.sizeOf3
 v3:=Tryz.zeroValue3
 t37:=underlying76
 a37:=Tryz.isAgg76
 z37:=Tryz.sizeOf76
 v37:=Tryz.zeroValue76
 t70:=underlying75
 a70:=Tryz.isAgg75
 z70:=Tryz.sizeOf75
 v70:=Tryz.zeroValue75
 t72:=underlying78
 a72:=Tryz.isAgg78
 z72:=Tryz.sizeOf78
 v72:=Tryz.zeroValue78}
def Tryz.lays169_ren:Go.Shelf.Ren:=⟨fun|169=>67|n=>n,fun|70=>75|9=>9|0=>0|72=>78|37=>76|127=>128|3=>3|5=>5|n=>n,fun|n=>n⟩
def Tryz.lays169:Go.Proofs.Lays.n169 prog Tryz.lays169_ren:={
 mixed:=by kernel_rfl
 f169:=func67.trans (congrArg some (by kernel_rfl))
 t0:=underlying0
 a0:=Tryz.isAgg0
 z0:=Tryz.sizeOf0
 v0:=Tryz.zeroValue0
 t3:=underlying3
 a3:=Tryz.isAgg3
 z3:=Tryz.sizeOf3
 v3:=Tryz.zeroValue3
 t9:=underlying9
 a9:=Tryz.isAgg9
 z9:=Tryz.sizeOf9
 v9:=Tryz.zeroValue9
 t37:=underlying76
 a37:=Tryz.isAgg76
 z37:=Tryz.sizeOf76
 v37:=Tryz.zeroValue76
 t70:=underlying75
 a70:=Tryz.isAgg75
 z70:=Tryz.sizeOf75
 v70:=Tryz.zeroValue75
 t72:=underlying78
 a72:=Tryz.isAgg78
 z72:=Tryz.sizeOf78
 v72:=Tryz.zeroValue78
 t127:=underlying128
 a127:=Tryz.isAgg128
 z127:=Tryz.sizeOf128
 v127:=Tryz.zeroValue128}
def Tryz.Builder_Extra_169:Builder.Extra prog Tryz.lays169_ren:={
 sizeBuilder:=by kernel_rfl
 liesBuilder:=by kernel_rfl
 t5:=underlying5
 a5:=Tryz.isAgg5
 z5:=Tryz.sizeOf5
 v5:=Tryz.zeroValue5
 infoByte:=by kernel_rfl
 cellsByte:=by kernel_rfl
 sizeByte:=by kernel_rfl
 neB5:=by decide}
def Tryz.lays156_ren:Go.Shelf.Ren:=⟨fun|156=>226|165=>256|166=>65|169=>67|240=>109|241=>270|276=>170|277=>285|n=>n,fun|31=>133|9=>9|3=>3|4=>4|0=>0|20=>20|72=>78|76=>83|70=>75|37=>76|75=>82|127=>128|164=>183|5=>5|80=>86|n=>n,fun|n=>n⟩
def Tryz.lays156:Go.Proofs.Lays.n156 prog Tryz.lays156_ren:={
 mixed:=by kernel_rfl
 f156:=func226.trans (congrArg some (by kernel_rfl))
 f165:=func256.trans (congrArg some (by kernel_rfl))
 f166:=func65.trans (congrArg some (by kernel_rfl))
 f169:=func67.trans (congrArg some (by kernel_rfl))
 f240:=func109.trans (congrArg some (by kernel_rfl))
 f241:=func270.trans (congrArg some (by kernel_rfl))
 f276:=func170.trans (congrArg some (by kernel_rfl))
 f277:=func285.trans (congrArg some (by kernel_rfl))
 t0:=underlying0
 a0:=Tryz.isAgg0
 z0:=Tryz.sizeOf0
 v0:=Tryz.zeroValue0
 t3:=underlying3
 a3:=Tryz.isAgg3
 z3:=Tryz.sizeOf3
 v3:=Tryz.zeroValue3
 t4:=underlying4
 a4:=Tryz.isAgg4
 z4:=Tryz.sizeOf4
 v4:=Tryz.zeroValue4
 t9:=underlying9
 a9:=Tryz.isAgg9
 z9:=Tryz.sizeOf9
 v9:=Tryz.zeroValue9
 t20:=underlying20
 a20:=Tryz.isAgg20
 z20:=Tryz.sizeOf20
 v20:=Tryz.zeroValue20
 t31:=underlying133
 a31:=Tryz.isAgg133
 z31:=Tryz.sizeOf133
 v31:=Tryz.zeroValue133
 t37:=underlying76
 a37:=Tryz.isAgg76
 z37:=Tryz.sizeOf76
 v37:=Tryz.zeroValue76
 t70:=underlying75
 a70:=Tryz.isAgg75
 z70:=Tryz.sizeOf75
 v70:=Tryz.zeroValue75
 t72:=underlying78
 a72:=Tryz.isAgg78
 z72:=Tryz.sizeOf78
 v72:=Tryz.zeroValue78
 t75:=underlying82
 a75:=Tryz.isAgg82
 z75:=Tryz.sizeOf82
 v75:=Tryz.zeroValue82
 t76:=underlying83
 a76:=Tryz.isAgg83
 z76:=Tryz.sizeOf83
 v76:=Tryz.zeroValue83
 t127:=underlying128
 a127:=Tryz.isAgg128
 z127:=Tryz.sizeOf128
 v127:=Tryz.zeroValue128
 t164:=underlying183
 a164:=Tryz.isAgg183
 z164:=Tryz.sizeOf183
 v164:=Tryz.zeroValue183}
def Tryz.Builder_Extra_156:Builder.Extra prog Tryz.lays156_ren:={
 sizeBuilder:=by kernel_rfl
 liesBuilder:=by kernel_rfl
 t5:=underlying5
 a5:=Tryz.isAgg5
 z5:=Tryz.sizeOf5
 v5:=Tryz.zeroValue5
 infoByte:=by kernel_rfl
 cellsByte:=by kernel_rfl
 sizeByte:=by kernel_rfl
 neB5:=by decide}
open Go.RowKit in
theorem Tryz.strings_Join_none(a:Option Addr)(c:Nat)(sep:ByteArray)(w:World):
 Calls prog 226 #[.slice a 0 c,.string sep] w λe w'=>e=.returned (.string ⟨#[]⟩)/\w'=w:=Any.strings_Join_none Tryz.lays156 Tryz.Builder_Extra_156 a c sep w
open Go.RowKit in
theorem Tryz.strings_Join(bk o c:Nat)(xs:List ByteArray)(sep:ByteArray)(w:World)(sM:∀(j:Nat) x,xs[j]? =some x->w.cell? ⟨bk,o+j,none⟩=some (.string x))(sn:bk<w.heap.size)(hN:xs.length<=140737488355328)(ww:xs.length<=c)(mV:(Lib.join (xs.map (·.data.toList)) sep.data.toList).length<=140737488355328):
 Calls prog 226 #[.slice (some ⟨bk,o,none⟩) xs.length c,.string sep] w λe w'=>e=.returned (.string ⟨(Lib.join (xs.map (·.data.toList)) sep.data.toList).toArray⟩)/\Below w.heap.size w w':=Any.strings_Join Tryz.lays156 Tryz.Builder_Extra_156 bk o c xs sep w sM sn hN ww mV
def Tryz.lays137_ren:Go.Shelf.Ren:=⟨fun|137=>181|217=>235|266=>259|n=>n,fun|9=>9|5=>5|3=>3|n=>n,fun|n=>n⟩
def Tryz.lays137:Go.Proofs.Lays.n137 prog Tryz.lays137_ren:={
 mixed:=by kernel_rfl
 f137:=func181.trans (congrArg some (by kernel_rfl))
 f217:=func235.trans (congrArg some (by kernel_rfl))
 f266:=func259.trans (congrArg some (by kernel_rfl))
 t3:=underlying3
 a3:=Tryz.isAgg3
 z3:=Tryz.sizeOf3
 v3:=Tryz.zeroValue3
 t5:=underlying5
 a5:=Tryz.isAgg5
 z5:=Tryz.sizeOf5
 v5:=Tryz.zeroValue5
 t9:=underlying9
 a9:=Tryz.isAgg9
 z9:=Tryz.sizeOf9
 v9:=Tryz.zeroValue9}
open Go.RowKit in
theorem Tryz.strings_IndexByte(s:ByteArray)(c:Int)(w:World):
 Calls prog 181 #[.string s,.int .u8 c] w λe w'=>e=.returned (.int .i64 (Lib.indexByte s.data.toList c.toNat.toUInt8))/\w'=w:=Any.strings_IndexByte Tryz.lays137 s c w
def Tryz.lays214_ren:Go.Shelf.Ren:=⟨fun|214=>225|n=>n,fun|4=>4|9=>9|n=>n,fun|n=>n⟩
def Tryz.lays121_ren:Go.Shelf.Ren:=⟨fun|121=>162|214=>225|n=>n,fun|4=>4|9=>9|n=>n,fun|n=>n⟩
def Tryz.lays121:Go.Proofs.Lays.n121 prog Tryz.lays121_ren:={
 mixed:=by kernel_rfl
 f121:=func162.trans (congrArg some (by kernel_rfl))
 f214:=func225.trans (congrArg some (by kernel_rfl))
 t4:=underlying4
 a4:=Tryz.isAgg4
 z4:=Tryz.sizeOf4
 v4:=Tryz.zeroValue4
 t9:=underlying9
 a9:=Tryz.isAgg9
 z9:=Tryz.sizeOf9
 v9:=Tryz.zeroValue9}
open Go.RowKit in
theorem Tryz.strconv_FormatBool(b:Bool)(w:World):
 Calls prog 162 #[.bool b] w λe w'=>e=.returned (.string ⟨(Lib.formatBool b).toArray⟩)/\w'=w:=Any.strconv_FormatBool Tryz.lays121 b w
def Tryz.lays172_ren:Go.Shelf.Ren:=⟨fun|172=>239|244=>261|245=>262|247=>273|279=>274|280=>275|281=>276|282=>277|287=>286|316=>287|171=>160|205=>288|321=>296|322=>297|243=>223|246=>253|283=>266|284=>267|285=>268|286=>269|129=>281|317=>280|318=>282|319=>283|320=>284|337=>294|338=>295|n=>n,fun|9=>9|3=>3|75=>82|76=>83|4=>4|5=>5|167=>261|37=>76|0=>0|85=>262|2=>2|168=>264|53=>245|175=>275|46=>270|210=>278|127=>128|145=>286|143=>284|21=>21|171=>244|173=>248|212=>268|51=>238|20=>20|213=>269|232=>287|233=>288|80=>86|n=>n,fun|15=>4|16=>5|17=>3|18=>6|19=>7|n=>n⟩
def Tryz.laysM246_ren:Go.Shelf.Ren:=⟨fun|246=>253|283=>266|284=>267|285=>268|286=>269|129=>281|317=>280|318=>282|319=>283|320=>284|337=>294|338=>295|n=>n,fun|2=>2|3=>3|9=>9|4=>4|171=>244|0=>0|53=>245|37=>76|5=>5|173=>248|212=>268|51=>238|20=>20|213=>269|46=>270|232=>287|233=>288|n=>n,fun|17=>3|18=>6|19=>7|n=>n⟩
def Tryz.laysM243_ren:Go.Shelf.Ren:=⟨fun|243=>223|246=>253|283=>266|284=>267|285=>268|286=>269|129=>281|317=>280|318=>282|319=>283|320=>284|337=>294|338=>295|n=>n,fun|3=>3|9=>9|2=>2|4=>4|171=>244|0=>0|53=>245|37=>76|5=>5|173=>248|212=>268|51=>238|20=>20|213=>269|46=>270|232=>287|233=>288|n=>n,fun|17=>3|18=>6|19=>7|n=>n⟩
def Tryz.laysM171_ren:Go.Shelf.Ren:=⟨fun|171=>160|243=>223|246=>253|283=>266|284=>267|285=>268|286=>269|129=>281|317=>280|318=>282|319=>283|320=>284|337=>294|338=>295|n=>n,fun|3=>3|9=>9|2=>2|4=>4|171=>244|0=>0|53=>245|37=>76|5=>5|173=>248|212=>268|51=>238|20=>20|213=>269|46=>270|232=>287|233=>288|n=>n,fun|17=>3|18=>6|19=>7|n=>n⟩
def Tryz.laysM171:Go.Proofs.LaysM.n171 prog Tryz.laysM171_ren:={
 mixed:=by kernel_rfl
 f129:=func281.trans (congrArg some (by kernel_rfl))
 f171:=func160.trans (congrArg some (by kernel_rfl))
 f243:=func223.trans (congrArg some (by kernel_rfl))
 f246:=func253.trans (congrArg some (by kernel_rfl))
 f283:=func266.trans (congrArg some (by kernel_rfl))
 f284:=func267.trans (congrArg some (by kernel_rfl))
 f285:=func268.trans (congrArg some (by kernel_rfl))
 f286:=func269.trans (congrArg some (by kernel_rfl))
 f317:=func280.trans (congrArg some (by kernel_rfl))
 f318:=func282.trans (congrArg some (by kernel_rfl))
 f319:=func283.trans (congrArg some (by kernel_rfl))
 f320:=func284.trans (congrArg some (by kernel_rfl))
 f337:=func294.trans (congrArg some (by kernel_rfl))
 f338:=func295.trans (congrArg some (by kernel_rfl))
 t0:=underlying0
 a0:=Tryz.isAgg0
 z0:=Tryz.sizeOf0
 v0:=Tryz.zeroValue0
 t2:=underlying2
 a2:=Tryz.isAgg2
 z2:=Tryz.sizeOf2
 v2:=Tryz.zeroValue2
 t3:=underlying3
 a3:=Tryz.isAgg3
 z3:=Tryz.sizeOf3
 v3:=Tryz.zeroValue3
 t4:=underlying4
 a4:=Tryz.isAgg4
 z4:=Tryz.sizeOf4
 v4:=Tryz.zeroValue4
 t5:=underlying5
 a5:=Tryz.isAgg5
 z5:=Tryz.sizeOf5
 v5:=Tryz.zeroValue5
 t9:=underlying9
 a9:=Tryz.isAgg9
 z9:=Tryz.sizeOf9
 v9:=Tryz.zeroValue9
 t20:=underlying20
 a20:=Tryz.isAgg20
 z20:=Tryz.sizeOf20
 v20:=Tryz.zeroValue20
 t37:=underlying76
 a37:=Tryz.isAgg76
 z37:=Tryz.sizeOf76
 v37:=Tryz.zeroValue76
 t46:=underlying270
 a46:=Tryz.isAgg270
 z46:=Tryz.sizeOf270
 v46:=Tryz.zeroValue270
 t51:=underlying238
 a51:=Tryz.isAgg238
 z51:=Tryz.sizeOf238
 v51:=Tryz.zeroValue238
 t53:=underlying245
 a53:=Tryz.isAgg245
 z53:=Tryz.sizeOf245
 v53:=Tryz.zeroValue245
 t171:=underlying244
 a171:=Tryz.isAgg244
 z171:=Tryz.sizeOf244
 v171:=Tryz.zeroValue244
 t173:=underlying248
 a173:=Tryz.isAgg248
 z173:=Tryz.sizeOf248
 v173:=Tryz.zeroValue248
 t212:=underlying268
 a212:=Tryz.isAgg268
 z212:=Tryz.sizeOf268
 v212:=Tryz.zeroValue268
 t213:=underlying269
 a213:=Tryz.isAgg269
 z213:=Tryz.sizeOf269
 t232:=underlying287
 a232:=Tryz.isAgg287
 z232:=Tryz.sizeOf287
 v232:=Tryz.zeroValue287
 t233:=underlying288
 a233:=Tryz.isAgg288
 z233:=Tryz.sizeOf288
 v233:=Tryz.zeroValue288
 g17:=by kernel_rfl
 g18:=by kernel_rfl
 g19:=by kernel_rfl
 i0:=by kernel_rfl
 i2:=by kernel_rfl
 i3:=by kernel_rfl
 i4:=by kernel_rfl
 i5:=by kernel_rfl
 i9:=by kernel_rfl
 i20:=by kernel_rfl
 i37:=by kernel_rfl
 i46:=by kernel_rfl
 i51:=by kernel_rfl
 i53:=by kernel_rfl
 i171:=by kernel_rfl
 i173:=by kernel_rfl
 i212:=by kernel_rfl
 i232:=by kernel_rfl
 i233:=by kernel_rfl
 m17:=by kernel_rfl
 m18:=by kernel_rfl
 m19:=by kernel_rfl}
open Go.RowKit Go.Sort Go.Lib in
theorem Tryz.strconv_Itoa(n:Int)(h0: -9223372036854775808<=n)(h1:n<=9223372036854775807)(w:World)(RV:Lib.TabIs prog w "internal/strconv.uint64pow10" .u64 Lib.pow10Tab):
 Calls prog 160 #[.int .i64 n] w λe w'=>e=.returned (.string ⟨(Lib.itoa n).toArray⟩)/\∃k os,w'=grow (w.drewN k) os:=Any.strconv_Itoa Tryz.laysM171 n h0 h1 w RV
def Tryz.laysC172_ren:Go.Shelf.Ren:=⟨fun|172=>239|244=>261|245=>262|247=>273|279=>274|280=>275|281=>276|282=>277|287=>286|316=>287|171=>160|205=>288|321=>296|322=>297|243=>223|246=>253|283=>266|284=>267|285=>268|286=>269|129=>281|317=>280|318=>282|319=>283|320=>284|337=>294|338=>295|n=>n,fun|9=>9|3=>3|75=>82|76=>83|4=>4|5=>5|167=>261|37=>76|0=>0|85=>262|2=>2|168=>264|53=>245|175=>275|46=>270|210=>278|127=>128|145=>286|143=>284|21=>21|171=>244|173=>248|212=>268|51=>238|20=>20|213=>269|232=>287|233=>288|80=>86|n=>n,fun|15=>4|16=>5|17=>3|18=>6|19=>7|n=>n⟩
def Tryz.laysC172:Go.Proofs.LaysC.n172 prog Tryz.laysC172_ren:={
 mixed:=by kernel_rfl
 f129:=func281.trans (congrArg some (by kernel_rfl))
 f171:=func160.trans (congrArg some (by kernel_rfl))
 f172:=func239.trans (congrArg some (by kernel_rfl))
 f205:=func288.trans (congrArg some (by kernel_rfl))
 f243:=func223.trans (congrArg some (by kernel_rfl))
 f244:=func261.trans (congrArg some (by kernel_rfl))
 f245:=func262.trans (congrArg some (by kernel_rfl))
 f246:=func253.trans (congrArg some (by kernel_rfl))
 f247:=func273.trans (congrArg some (by kernel_rfl))
 f279:=func274.trans (congrArg some (by kernel_rfl))
 f280:=func275.trans (congrArg some (by kernel_rfl))
 f281:=func276.trans (congrArg some (by kernel_rfl))
 f282:=func277.trans (congrArg some (by kernel_rfl))
 f283:=func266.trans (congrArg some (by kernel_rfl))
 f284:=func267.trans (congrArg some (by kernel_rfl))
 f285:=func268.trans (congrArg some (by kernel_rfl))
 f286:=func269.trans (congrArg some (by kernel_rfl))
 f287:=func286.trans (congrArg some (by kernel_rfl))
 f316:=func287.trans (congrArg some (by kernel_rfl))
 f317:=func280.trans (congrArg some (by kernel_rfl))
 f318:=func282.trans (congrArg some (by kernel_rfl))
 f319:=func283.trans (congrArg some (by kernel_rfl))
 f320:=func284.trans (congrArg some (by kernel_rfl))
 f321:=func296.trans (congrArg some (by kernel_rfl))
 f322:=func297.trans (congrArg some (by kernel_rfl))
 f337:=func294.trans (congrArg some (by kernel_rfl))
 f338:=func295.trans (congrArg some (by kernel_rfl))
 t0:=underlying0
 a0:=Tryz.isAgg0
 z0:=Tryz.sizeOf0
 v0:=Tryz.zeroValue0
 t2:=underlying2
 a2:=Tryz.isAgg2
 z2:=Tryz.sizeOf2
 v2:=Tryz.zeroValue2
 t3:=underlying3
 a3:=Tryz.isAgg3
 z3:=Tryz.sizeOf3
 v3:=Tryz.zeroValue3
 t4:=underlying4
 a4:=Tryz.isAgg4
 z4:=Tryz.sizeOf4
 v4:=Tryz.zeroValue4
 t5:=underlying5
 a5:=Tryz.isAgg5
 z5:=Tryz.sizeOf5
 v5:=Tryz.zeroValue5
 t9:=underlying9
 a9:=Tryz.isAgg9
 z9:=Tryz.sizeOf9
 v9:=Tryz.zeroValue9
 t20:=underlying20
 a20:=Tryz.isAgg20
 z20:=Tryz.sizeOf20
 v20:=Tryz.zeroValue20
 t21:=underlying21
 a21:=Tryz.isAgg21
 z21:=Tryz.sizeOf21
 v21:=Tryz.zeroValue21
 t37:=underlying76
 a37:=Tryz.isAgg76
 z37:=Tryz.sizeOf76
 v37:=Tryz.zeroValue76
 t46:=underlying270
 a46:=Tryz.isAgg270
 z46:=Tryz.sizeOf270
 v46:=Tryz.zeroValue270
 t51:=underlying238
 a51:=Tryz.isAgg238
 z51:=Tryz.sizeOf238
 v51:=Tryz.zeroValue238
 t53:=underlying245
 a53:=Tryz.isAgg245
 z53:=Tryz.sizeOf245
 v53:=Tryz.zeroValue245
 t75:=underlying82
 a75:=Tryz.isAgg82
 z75:=Tryz.sizeOf82
 v75:=Tryz.zeroValue82
 t76:=underlying83
 a76:=Tryz.isAgg83
 z76:=Tryz.sizeOf83
 v76:=Tryz.zeroValue83
 t85:=underlying262
 a85:=Tryz.isAgg262
 z85:=Tryz.sizeOf262
 v85:=Tryz.zeroValue262
 t127:=underlying128
 a127:=Tryz.isAgg128
 z127:=Tryz.sizeOf128
 v127:=Tryz.zeroValue128
 t143:=underlying284
 a143:=Tryz.isAgg284
 z143:=Tryz.sizeOf284
 v143:=Tryz.zeroValue284
 t145:=underlying286
 a145:=Tryz.isAgg286
 z145:=Tryz.sizeOf286
 v145:=Tryz.zeroValue286
 t167:=underlying261
 a167:=Tryz.isAgg261
 z167:=Tryz.sizeOf261
 v167:=Tryz.zeroValue261
 t168:=underlying264
 a168:=Tryz.isAgg264
 z168:=Tryz.sizeOf264
 v168:=Tryz.zeroValue264
 t171:=underlying244
 a171:=Tryz.isAgg244
 z171:=Tryz.sizeOf244
 v171:=Tryz.zeroValue244
 t173:=underlying248
 a173:=Tryz.isAgg248
 z173:=Tryz.sizeOf248
 v173:=Tryz.zeroValue248
 t175:=underlying275
 a175:=Tryz.isAgg275
 z175:=Tryz.sizeOf275
 v175:=Tryz.zeroValue275
 t210:=underlying278
 a210:=Tryz.isAgg278
 z210:=Tryz.sizeOf278
 v210:=Tryz.zeroValue278
 t212:=underlying268
 a212:=Tryz.isAgg268
 z212:=Tryz.sizeOf268
 v212:=Tryz.zeroValue268
 t213:=underlying269
 a213:=Tryz.isAgg269
 z213:=Tryz.sizeOf269
 t232:=underlying287
 a232:=Tryz.isAgg287
 z232:=Tryz.sizeOf287
 v232:=Tryz.zeroValue287
 t233:=underlying288
 a233:=Tryz.isAgg288
 z233:=Tryz.sizeOf288
 v233:=Tryz.zeroValue288
 g15:=by kernel_rfl
 g16:=by kernel_rfl
 g17:=by kernel_rfl
 g18:=by kernel_rfl
 g19:=by kernel_rfl
 t80:=underlying86
 a80:=Tryz.isAgg86
 z80:=Tryz.sizeOf86
 v80:=Tryz.zeroValue86
 i0:=by kernel_rfl
 i2:=by kernel_rfl
 i3:=by kernel_rfl
 i4:=by kernel_rfl
 i5:=by kernel_rfl
 i9:=by kernel_rfl
 i20:=by kernel_rfl
 i21:=by kernel_rfl
 i37:=by kernel_rfl
 i46:=by kernel_rfl
 i51:=by kernel_rfl
 i53:=by kernel_rfl
 i75:=by kernel_rfl
 i76:=by kernel_rfl
 i80:=by kernel_rfl
 i85:=by kernel_rfl
 i127:=by kernel_rfl
 i143:=by kernel_rfl
 i145:=by kernel_rfl
 i167:=by kernel_rfl
 i168:=by kernel_rfl
 i171:=by kernel_rfl
 i173:=by kernel_rfl
 i175:=by kernel_rfl
 i210:=by kernel_rfl
 i212:=by kernel_rfl
 i232:=by kernel_rfl
 i233:=by kernel_rfl
 m15:=by kernel_rfl
 m16:=by kernel_rfl
 m17:=by kernel_rfl
 m18:=by kernel_rfl
 m19:=by kernel_rfl
 c0:=by kernel_rfl
 c2:=by kernel_rfl
 c3:=by kernel_rfl
 c4:=by kernel_rfl
 c5:=by kernel_rfl
 c9:=by kernel_rfl
 c20:=by kernel_rfl
 c21:=by kernel_rfl
 c37:=by kernel_rfl
 c46:=by kernel_rfl
 c51:=by kernel_rfl
 c53:=by kernel_rfl
 c75:=by kernel_rfl
 c76:=by kernel_rfl
 c80:=by kernel_rfl
 c85:=by kernel_rfl
 c127:=by kernel_rfl
 c143:=by kernel_rfl
 c145:=by kernel_rfl
 c167:=by kernel_rfl
 c168:=by kernel_rfl
 c171:=by kernel_rfl
 c173:=by kernel_rfl
 c175:=by kernel_rfl
 c210:=by kernel_rfl
 c212:=by kernel_rfl
 c213:=by kernel_rfl
 c232:=by kernel_rfl
 c233:=by kernel_rfl}
open Go.RowKit in
theorem Tryz.strconv_Atoi_ok(s:ByteArray)(ES:s.size<=9223372036854775806)(v:Int)(h:Lib.atoiAll s.data.toList=.ok v)(w:World):
 Calls prog 239 #[.string s] w λe w'=>e=.returned (.tuple #[.int .i64 v,.nilIface])/\(w'=w\/∃t,w'=Lib.bytesWorld w 5 t):=Any.strconv_Atoi_ok Tryz.laysC172 s ES v h w
open Go.RowKit in
theorem Tryz.strconv_Atoi_range_var(s:ByteArray)(nK:s.size<=281474976710656)(h:Lib.atoiAll s.data.toList=.range)(tp:TypeId)(p:Value)(w:World)(FI:w.var? prog "strconv.ErrRange" =some #[.iface tp p]):
 Calls prog 239 #[.string s] w λe w'=>∃N,e=.returned (.tuple #[.int .i64 (Lib.atoiSat s.data.toList),.iface 264 (.pointer (some ⟨N,0,none⟩))])/\w.heap.size<=N/\w'.heap[N]? =some (.cells #[.string ⟨#[65,116,111,105]⟩,.string s,.iface tp p] 278 (0,0))/\Below w.heap.size w w':=Any.strconv_Atoi_range_var Tryz.laysC172 s nK h tp p w FI
def Tryz.lays206_ren:Go.Shelf.Ren:=⟨fun|206=>241|n=>n,fun|9=>9|4=>4|3=>3|n=>n,fun|n=>n⟩
def Tryz.lays99_ren:Go.Shelf.Ren:=⟨fun|99=>187|206=>241|n=>n,fun|9=>9|4=>4|3=>3|n=>n,fun|n=>n⟩
def Tryz.lays99:Go.Proofs.Lays.n99 prog Tryz.lays99_ren:={
 mixed:=by kernel_rfl
 f99:=func187.trans (congrArg some (by kernel_rfl))
 f206:=func241.trans (congrArg some (by kernel_rfl))
 t3:=underlying3
 a3:=Tryz.isAgg3
 z3:=Tryz.sizeOf3
 v3:=Tryz.zeroValue3
 t4:=underlying4
 a4:=Tryz.isAgg4
 z4:=Tryz.sizeOf4
 v4:=Tryz.zeroValue4
 t9:=underlying9
 a9:=Tryz.isAgg9
 z9:=Tryz.sizeOf9
 v9:=Tryz.zeroValue9}
open Go.RowKit Go.Lib in
theorem Tryz.strings_HasPrefix(s p:ByteArray)(w:World):
 Calls prog 187 #[.string s,.string p] w λe w'=>e=.returned (.bool (Lib.hasPrefix s.data.toList p.data.toList))/\w'=w:=Any.strings_HasPrefix Tryz.lays99 s p w
def Tryz.lays157_ren:Go.Shelf.Ren:=⟨fun|157=>180|229=>233|199=>234|261=>258|311=>271|312=>272|n=>n,fun|9=>9|31=>133|3=>3|5=>5|4=>4|119=>220|0=>0|40=>222|152=>235|21=>21|154=>237|51=>238|141=>240|196=>253|193=>250|198=>256|49=>254|194=>251|201=>259|226=>273|46=>270|227=>274|n=>n,fun|0=>0|6=>1|n=>n⟩
def Tryz.lays157:Go.Proofs.Lays.n157 prog Tryz.lays157_ren:={
 mixed:=by kernel_rfl
 f157:=func180.trans (congrArg some (by kernel_rfl))
 f199:=func234.trans (congrArg some (by kernel_rfl))
 f229:=func233.trans (congrArg some (by kernel_rfl))
 f261:=func258.trans (congrArg some (by kernel_rfl))
 f311:=func271.trans (congrArg some (by kernel_rfl))
 f312:=func272.trans (congrArg some (by kernel_rfl))
 t0:=underlying0
 a0:=Tryz.isAgg0
 z0:=Tryz.sizeOf0
 v0:=Tryz.zeroValue0
 t3:=underlying3
 a3:=Tryz.isAgg3
 z3:=Tryz.sizeOf3
 v3:=Tryz.zeroValue3
 t4:=underlying4
 a4:=Tryz.isAgg4
 z4:=Tryz.sizeOf4
 v4:=Tryz.zeroValue4
 t5:=underlying5
 a5:=Tryz.isAgg5
 z5:=Tryz.sizeOf5
 v5:=Tryz.zeroValue5
 t9:=underlying9
 a9:=Tryz.isAgg9
 z9:=Tryz.sizeOf9
 v9:=Tryz.zeroValue9
 t21:=underlying21
 a21:=Tryz.isAgg21
 z21:=Tryz.sizeOf21
 v21:=Tryz.zeroValue21
 t31:=underlying133
 a31:=Tryz.isAgg133
 z31:=Tryz.sizeOf133
 v31:=Tryz.zeroValue133
 t40:=underlying222
 a40:=Tryz.isAgg222
 z40:=Tryz.sizeOf222
 v40:=Tryz.zeroValue222
 t46:=underlying270
 a46:=Tryz.isAgg270
 z46:=Tryz.sizeOf270
 v46:=Tryz.zeroValue270
 t49:=underlying254
 a49:=Tryz.isAgg254
 z49:=Tryz.sizeOf254
 v49:=Tryz.zeroValue254
 t51:=underlying238
 a51:=Tryz.isAgg238
 z51:=Tryz.sizeOf238
 v51:=Tryz.zeroValue238
 t119:=underlying220
 a119:=Tryz.isAgg220
 z119:=Tryz.sizeOf220
 t141:=underlying240
 a141:=Tryz.isAgg240
 z141:=Tryz.sizeOf240
 v141:=Tryz.zeroValue240
 t152:=underlying235
 a152:=Tryz.isAgg235
 z152:=Tryz.sizeOf235
 v152:=Tryz.zeroValue235
 t154:=underlying237
 a154:=Tryz.isAgg237
 z154:=Tryz.sizeOf237
 v154:=Tryz.zeroValue237
 t193:=underlying250
 a193:=Tryz.isAgg250
 z193:=Tryz.sizeOf250
 v193:=Tryz.zeroValue250
 t194:=underlying251
 a194:=Tryz.isAgg251
 z194:=Tryz.sizeOf251
 v194:=Tryz.zeroValue251
 t196:=underlying253
 a196:=Tryz.isAgg253
 z196:=Tryz.sizeOf253
 v196:=Tryz.zeroValue253
 t198:=underlying256
 a198:=Tryz.isAgg256
 z198:=Tryz.sizeOf256
 v198:=Tryz.zeroValue256
 t201:=underlying259
 a201:=Tryz.isAgg259
 z201:=Tryz.sizeOf259
 v201:=Tryz.zeroValue259
 t226:=underlying273
 a226:=Tryz.isAgg273
 z226:=Tryz.sizeOf273
 v226:=Tryz.zeroValue273
 t227:=underlying274
 a227:=Tryz.isAgg274
 z227:=Tryz.sizeOf274
 v227:=Tryz.zeroValue274
 g0:=by kernel_rfl
 g6:=by kernel_rfl}
open Go.RowKit Go.Lib in
theorem Tryz.strings_Fields(s:ByteArray)(w:World)(hs:s.size<4294967281)(Pg:∀(j:Nat) b,s.data.toList[j]? =some b->b.toNat<128)(RV:Lib.TabIs prog w "strings.asciiSpace" .u8 Lib.asciiSpaceTab):
 Calls prog 180 #[.string s] w λe w'=>
  e=.returned (.slice (some ⟨w.heap.size,0,none⟩) (Lib.fields s.data.toList).length (Lib.fields s.data.toList).length)/\w'=w.alloc (.cells ((Lib.fields s.data.toList).map λl=>Value.string ⟨l.toArray⟩).toArray 9):=Any.strings_Fields Tryz.lays157 (by kernel_rfl) (by kernel_rfl) s w hs Pg RV
def Tryz.lays109_ren:Go.Shelf.Ren:=⟨fun|109=>238|n=>n,fun|31=>133|9=>9|3=>3|0=>0|4=>4|n=>n,fun|n=>n⟩
def Tryz.lays109:Go.Proofs.Lays.n109 prog Tryz.lays109_ren:={
 mixed:=by kernel_rfl
 f109:=func238.trans (congrArg some (by kernel_rfl))
 t0:=underlying0
 a0:=Tryz.isAgg0
 z0:=Tryz.sizeOf0
 v0:=Tryz.zeroValue0
 t3:=underlying3
 a3:=Tryz.isAgg3
 z3:=Tryz.sizeOf3
 v3:=Tryz.zeroValue3
 t4:=underlying4
 a4:=Tryz.isAgg4
 z4:=Tryz.sizeOf4
 v4:=Tryz.zeroValue4
 t9:=underlying9
 a9:=Tryz.isAgg9
 z9:=Tryz.sizeOf9
 v9:=Tryz.zeroValue9
 t31:=underlying133
 a31:=Tryz.isAgg133
 z31:=Tryz.sizeOf133
 v31:=Tryz.zeroValue133}
open Go.Lib in
theorem Tryz.slices_Index_string(b off n c:Nat)(zs:List ByteArray)(x:ByteArray)(w:World)(hz:n<=zs.length)(ac:n<=9223372036854775807)(hc:∀j,j<zs.length->w.cell? ⟨b,off+j,none⟩=some (.string (zs.getD j ByteArray.empty))):
 Calls prog 238 #[.slice (some ⟨b,off,none⟩) n c,.string x] w λe w'=>e=.returned (.int .i64 (Lib.idxOfS (zs.take n) x))/\w'=w:=Any.slices_Index_string Tryz.lays109 b off n c zs x w hz ac hc
def Tryz.lays110_ren:Go.Shelf.Ren:=⟨fun|110=>184|109=>238|n=>n,fun|31=>133|9=>9|4=>4|3=>3|0=>0|n=>n,fun|n=>n⟩
def Tryz.lays110:Go.Proofs.Lays.n110 prog Tryz.lays110_ren:={
 mixed:=by kernel_rfl
 f109:=func238.trans (congrArg some (by kernel_rfl))
 f110:=func184.trans (congrArg some (by kernel_rfl))
 t0:=underlying0
 a0:=Tryz.isAgg0
 z0:=Tryz.sizeOf0
 v0:=Tryz.zeroValue0
 t3:=underlying3
 a3:=Tryz.isAgg3
 z3:=Tryz.sizeOf3
 v3:=Tryz.zeroValue3
 t4:=underlying4
 a4:=Tryz.isAgg4
 z4:=Tryz.sizeOf4
 v4:=Tryz.zeroValue4
 t9:=underlying9
 a9:=Tryz.isAgg9
 z9:=Tryz.sizeOf9
 v9:=Tryz.zeroValue9
 t31:=underlying133
 a31:=Tryz.isAgg133
 z31:=Tryz.sizeOf133
 v31:=Tryz.zeroValue133}
open Go.Lib in
theorem Tryz.slices_Contains_string(b off n c:Nat)(zs:List ByteArray)(x:ByteArray)(w:World)(hz:n<=zs.length)(ac:n<=9223372036854775807)(hc:∀j,j<zs.length->w.cell? ⟨b,off+j,none⟩=some (.string (zs.getD j ByteArray.empty))):
 Calls prog 184 #[.slice (some ⟨b,off,none⟩) n c,.string x] w λe w'=>e=.returned (.bool (Lib.containsS (zs.take n) x))/\w'=w:=Any.slices_Contains_string Tryz.lays110 b off n c zs x w hz ac hc
def Tryz.laysSlE31_f104_ren:Go.Shelf.Ren:=⟨fun|31=>104|29=>157|n=>n,fun|22=>24|23=>3|4=>4|3=>3|0=>0|n=>n,fun|n=>n⟩
def Tryz.laysSlE31_class2_ren:Go.Shelf.Ren:=⟨fun|31=>237|29=>260|n=>n,fun|22=>223|23=>194|4=>4|3=>3|0=>0|n=>n,fun|n=>n⟩
def Tryz.laysSlE31_class2:Go.Proofs.SlLaysE.n31 prog Tryz.laysSlE31_class2_ren:={
 mixed:=by kernel_rfl
 f29:=⟨Tryz.f260.name,by decide,func260.trans (congrArg some (by kernel_rfl))⟩
 f31:=⟨Tryz.f237.name,by decide,func237.trans (congrArg some (by kernel_rfl))⟩
 t0:=underlying0
 a0:=Tryz.isAgg0
 z0:=Tryz.sizeOf0
 v0:=Tryz.zeroValue0
 t3:=underlying3
 a3:=Tryz.isAgg3
 z3:=Tryz.sizeOf3
 v3:=Tryz.zeroValue3
 t4:=underlying4
 a4:=Tryz.isAgg4
 z4:=Tryz.sizeOf4
 v4:=Tryz.zeroValue4
 t22:=underlying223
 a22:=Tryz.isAgg223
 z22:=Tryz.sizeOf223
 v22:=Tryz.zeroValue223
 a23:=Tryz.isAgg194
 z23:=Tryz.sizeOf194}
open Go.Lib in
def Tryz.slices_Contains_class[Inhabited α](enc:α->Value)(eq:α->α->Bool)(WG:EqlAt prog 194 enc eq)(b off n c:Nat)(zs:List α)(x:α)(w:World)(hz:n<=zs.length)(ac:n<=9223372036854775807)(hc:∀j,j<zs.length->w.cell? ⟨b,off+j,none⟩=some (enc zs[j]!)):
 Calls prog 237 #[.slice (some ⟨b,off,none⟩) n c,enc x] w λe w'=>e=.returned (.bool ((zs.take n).any λy=>eq x y))/\w'=w:=AnyE.slices_Contains Tryz.laysSlE31_class2 enc eq WG b off n c zs x w hz ac hc
end
end Go.Proofs
namespace Go.Proofs.YtcagibbaeageoaaGreatDoor
section
open Go.RowKit Lode Go.Shelf
open Go.Proofs.Tryz
def qH(c:UInt8)(w:World):
 Calls prog 130 #[.int .u8 (c.toNat:Int)] w λe w'=>e=.returned (.bool (zR c))/\w=w':=by
 by_cases h1:(97:Int)<=c.toNat
 ·have:zR c=decide ((c.toNat:Int)<=122):=by unfold zR;rw[pP];simp;omega
  rw[this];clear this;go_enter func130,ntmps130;go_wp2;go_ret;exact⟨rfl,rfl⟩
 ·have:zR c=false:=by unfold zR;simp;omega
  rw[this];clear this;go_enter func130,ntmps130;go_wp2;go_ret;exact⟨rfl,rfl⟩
def kZ(c:UInt8)(w:World):
 Calls prog 131 #[.int .u8 (c.toNat:Int)] w λe w'=>e=.returned (.bool (Zn c))/\w=w':=by
 by_cases h1:(65:Int)<=c.toNat
 ·have:Zn c=decide ((c.toNat:Int)<=90):=by unfold Zn;rw[pP];simp;omega
  rw[this];clear this;go_enter func131,ntmps131;go_wp2;go_ret;exact⟨rfl,rfl⟩
 ·have:Zn c=false:=by unfold Zn;simp;omega
  rw[this];clear this;go_enter func131,ntmps131;go_wp2;go_ret;exact⟨rfl,rfl⟩
def jb(c:UInt8)(w:World):
 Calls prog 135 #[.int .u8 (c.toNat:Int)] w λe w'=>e=.returned (.bool (zL c))/\w=w':=by
 by_cases h1:(48:Int)<=c.toNat
 ·have:zL c=decide ((c.toNat:Int)<=57):=by unfold zL;rw[pP];simp;omega
  rw[this];clear this;go_enter func135,ntmps135;go_wp2;go_ret;exact⟨rfl,rfl⟩
 ·have:zL c=false:=by unfold zL;simp;omega
  rw[this];clear this;go_enter func135,ntmps135;go_wp2;go_ret;exact⟨rfl,rfl⟩
def zfq(s:ByteArray)(w:World)(hs:s.size<=9223372036854775807):
 Calls prog 83 #[.string s] w λe w'=>e=.returned (.tuple #[.int .i64 (qF s.data.toList).1,.int .i64 (qF s.data.toList).2])/\w=w':=by
 by_cases h:3000<s.size
 ·have e1:qF s.data.toList=(3000,5):=by unfold qF;rw[if_pos (by simpa using h)]
  rw[e1];clear e1;go_enter func83,ntmps83;go_wp2;go_ret2;exact⟨rfl,rfl⟩
 ·have e1:=show qF s.data.toList=match qg (λc=> !uK c) s.data.toList with|some i=>(i,4)|none=>(0,0) by unfold qF;rw[if_neg (by simpa using h)];first|done|rfl
  have E1:=zh e1;clear e1;go_enter func83,ntmps83;go_wp2_with fail;go_loop [4] (λs4=>∃k:Nat,k<=s.size/\s4=.int .i64 k/\Hid (∀j,j<k->(λc=> !uK c) (s.data.toList.getD j 0)=false)) (λs4=>s.size-(intOf s4).toNat)
  case atStart=>exact⟨0,by omega,rfl,λj hj=>absurd hj (wF _)⟩
  case round=>
   obtain⟨k,hk,rfl,mP⟩:=hrel;by_cases mD:k<s.size
   ·go_wp2_with fail
    all_goals first
     |(go_round
       case rel=>exact⟨k+1,by omega,by go_num,zeN s (λc=> !uK c) false k mP.q mD (by
        have:uK s[k]=true:=by rw[zcF];first|omega|(simp only[wX] at *;omega)
        simp[this])⟩
       case measure=>simp[intOf];omega)
     |(go_ret2
       rw[zkr s k h mP.q mD (by rw[znw];first|omega|(simp only[wV,wX,ne_eq] at *;omega))];exact⟨rfl,rfl⟩)
   ·obtain rfl:k=s.size:=by omega
    go_wp2;go_ret2;rw[ziG s h mP.q];exact⟨rfl,rfl⟩
def zds(s:ByteArray)(a:Nat)(lt:Bool)(w:World)(hs:s.size<=1000000000000)(ha:a<=s.size):
 Calls prog 132 #[.string s,.int .i64 a,.bool lt] w λe w'=>e=.returned (.int .i64 (yj (λc=>zL c || (lt && zR c)) (s.data.toList.drop a)))/\w=w':=by
 generalize hn:yj (λc=>zL c || (lt && zR c)) (s.data.toList.drop a)=n;have Hn:=zh hn;clear hn;cases lt
 all_goals
  go_enter func132,ntmps132;go_wp2_with fail
 ·go_loop [7] (λs7=>∃k:Nat,a+k<=s.size/\s7=.int .i64 k/\Hid (∀j,j<k->(λc=>zL c || (false && zR c)) (s.data.toList.getD (a+j) 0)=true)) (λs7=>s.size-(intOf s7).toNat)
  case atStart=>exact⟨0,by omega,rfl,λj hj=>absurd hj (wF _)⟩
  case round=>
   obtain⟨k,hk,rfl,mP⟩:=hrel;have Hr:=zh (Jt s (λc=>zL c || (false && zR c)) a k mP.q (by omega));by_cases mD:a+k<s.size
   ·go_wp2_with (go_at_call 135;refine (jb _ _).mono ?_;rintro e w' ⟨rfl,rfl⟩)
    ·go_round
     case rel=>exact⟨k+1,by omega,by go_num,zaU s (λc=>zL c || (false && zR c)) true a k mP.q mD (by simp[*])⟩
     case measure=>simp[intOf];omega
    ·go_ret;rw[<-Hn.q,Hr.q,qG s _ mD];exact⟨by simp[yj, *],rfl⟩
   ·go_wp2;go_ret;rw[<-Hn.q,Hr.q,jV s _ (by omega)];exact⟨by simp[yj],rfl⟩
 ·go_loop [7] (λs7=>∃k:Nat,a+k<=s.size/\s7=.int .i64 k/\Hid (∀j,j<k->(λc=>zL c || (true && zR c)) (s.data.toList.getD (a+j) 0)=true)) (λs7=>s.size-(intOf s7).toNat)
  case atStart=>exact⟨0,by omega,rfl,λj hj=>absurd hj (wF _)⟩
  case round=>
   obtain⟨k,hk,rfl,mP⟩:=hrel;have Hr:=zh (Jt s (λc=>zL c || (true && zR c)) a k mP.q (by omega));by_cases mD:a+k<s.size
   ·go_wp2_with (first|(go_at_call 135;refine (jb _ _).mono ?_;rintro e w' ⟨rfl,rfl⟩)|(go_at_call 130;refine (qH _ _).mono ?_;rintro e w' ⟨rfl,rfl⟩))
    all_goals first
     |(go_round
       case rel=>exact⟨k+1,by omega,by go_num,zaU s (λc=>zL c || (true && zR c)) true a k mP.q mD (by simp[*])⟩
       case measure=>simp[intOf];omega)
     |(go_ret
       rw[<-Hn.q,Hr.q,qG s _ mD];exact⟨by simp[yj, *],rfl⟩)
   ·go_wp2;go_ret;rw[<-Hn.q,Hr.q,jV s _ (by omega)];exact⟨by simp[yj],rfl⟩
def XY(l:List (List UInt8)):Array Value:=(l.map λx=>Value.string ⟨x.toArray⟩).toArray
def ze7(w:World):Calls prog 134 #[] w λe w'=>e=.returned (.slice (some ⟨w.heap.size,0,none⟩) 44 44)/\w.alloc (.cells (XY xS) 9)=w':=by
 go_enter func134,ntmps134;go_wp2;go_ret;exact⟨rfl,rfl⟩
def kG(w:World):Calls prog 138 #[] w λe w'=>e=.returned (.slice (some ⟨w.heap.size,0,none⟩) 25 25)/\w.alloc (.cells (XY yd) 9)=w':=by
 go_enter func138,ntmps138;go_wp2;go_ret;exact⟨rfl,rfl⟩
def QE(b n cap:Nat)(l:List (List UInt8))(s:ByteArray)(w:World)(hn:n=l.length)(hm:n<=1000000000000)(hc:∀j,j<n->w.cell? ⟨b,j,none⟩=some (.string ⟨(l[j]?.getD []).toArray⟩)):
 Calls prog 133 #[.slice (some ⟨b,0,none⟩) n cap,.string s] w λe w'=>e=.returned (.bool (l.contains s.data.toList))/\w=w':=by
 generalize hr:l.contains s.data.toList=r;have Hr:=zh hr;clear hr;have Hn:=zh hn;clear hn;have Hc:=zh hc;clear hc;go_enter func133,ntmps133;go_wp2_with fail;go_loop [5] (λs5=>∃k:Nat,k<=n/\s5=.int .i64 k/\Hid (∀j,j<k->l[j]?.getD []≠s.data.toList)) (λs5=>n-(intOf s5).toNat)
 case atStart=>exact⟨0,by omega,rfl,λj hj=>absurd hj (wF _)⟩
 case round=>
  obtain⟨k,hk,rfl,mP⟩:=hrel;by_cases mD:k<n
  ·have rY:=Hc.q k mD;go_wp2_with fail
   ·go_ret;have h1:l[k]?.getD []=s.data.toList:=by have h:=‹(_ == _)=true›;rw[ByteArray.toList_eq] at h;simpa using h
    have rU:k<l.length:=by have:=Hn.q;omega
    refine⟨?_,rfl⟩;rw[<-Hr.q];have:s.data.toList∈l:=by rw[<-h1];simp[rU]
    simp[this]
   ·have h1:l[k]?.getD []≠s.data.toList:=by have h:=‹(_ == _)=false›;rw[ByteArray.toList_eq] at h;simpa using h
    go_round
    case rel=>exact⟨k+1,by omega,by go_num,λj hj=>by
     by_cases e:j=k
     ·subst e;exact h1
     ·exact mP.q j (by omega)⟩
    case measure=>simp[intOf];omega
  ·go_wp2;go_ret;refine⟨?_,rfl⟩;rw[<-Hr.q];have:s.data.toList∉l:=by
    intro h;obtain⟨j,hj,e⟩:=List.getElem_of_mem h;exact mP.q j (by have:=Hn.q;omega) (by simp[hj,e])
   simp[this]
def zjD(s:ByteArray)(a:Nat)(w:World)(hs:s.size<=1000000000000)(ha:a<=s.size):
 Calls prog 84 #[.string s,.int .i64 a] w λe w'=>e=.returned (.int .i64 (yb false (s.data.toList.drop a)))/\w=w':=by
 generalize hn:yb false (s.data.toList.drop a)=n;have Hn:=zh hn;clear hn;go_enter func84,ntmps84;go_wp2_with fail;go_loop [5,6] (λs5 s6=>∃(k:Nat) (cm:Bool),a+k<=s.size/\s5=.int .i64 k/\s6=.bool cm/\Hid (n=k+yb cm (s.data.toList.drop (a+k)))) (λs5 _=>s.size-(intOf s5).toNat)
 case atStart=>exact⟨0,false,by omega,rfl,rfl,by rw[Nat.zero_add];exact Hn.q.symm⟩
 case round=>
  obtain⟨k,cm,hk,rfl,rfl,mP⟩:=hrel;by_cases mD:a+k<s.size
  ·have Hg:=zh (show n=k+yb cm (s[a+k] :: s.data.toList.drop (a+k+1)) by rw[<-qG s _ mD];exact mP.q);go_wp2_with fail
   ·go_round
    case rel=>exact⟨k+1,false,by omega,by go_num,rfl,zgd Hg.q ‹_›⟩
    case measure=>simp[intOf];omega
   ·go_round
    case rel=>exact⟨k+1,true,by omega,by go_num,rfl,zkk Hg.q ‹_› ‹_›⟩
    case measure=>simp[intOf];omega
   ·go_round
    case rel=>exact⟨k+1,cm,by omega,by go_num,rfl,JJ Hg.q ‹_› ‹_› ‹_›⟩
    case measure=>simp[intOf];omega
   ·go_ret;obtain rfl:=zcI Hg.q ‹_› ‹_› ‹_›;exact⟨rfl,rfl⟩
   ·go_round
    case rel=>exact⟨k+1,cm,by omega,by go_num,rfl,znC Hg.q ‹_› ‹_› ‹_›⟩
    case measure=>simp[intOf];omega
  ·go_wp2;go_ret;have hg:=mP.q;rw[jV s _ (by omega)] at hg;exact⟨by rw[hg];simp[yb],rfl⟩
def zaB(s:ByteArray)(w:World)(hs:s.size<=1000000000000):
 Calls prog 136 #[.string s] w λe w'=>e=.returned (.bool (kj s.data.toList))/\w=w':=by
 generalize hr:kj s.data.toList=r;have Hr:=zh hr;clear hr;go_enter func136,ntmps136;go_wp2_with (go_at_call 132;refine (zds _ 0 false _ hs (pU _)).mono ?_;rintro e w' ⟨rfl,rfl⟩)
 all_goals
  go_ret;go_light;refine⟨congrArg (λb=>Ending.returned (Value.bool b)) ?_,rfl⟩;rw[<-Hr.q,ziu];simp only[ByteArray.toList_eq] at *;have mV:s.data.toList.length=s.size:=by simp
  have hh:=znG s 48 (by omega);rw[show UInt8.ofNat 48=48 from rfl] at hh;have hrl:((yj zL s.data.toList:Int) == (s.size:Int))=decide (yj zL s.data.toList=s.size):=by rw[pP];simp;omega
  rw[mV,hh];clear hh Hr mV;show _=_
  first
   |(simp_all [kK];done)
   |(simp_all [kK];omega)
def znR(q:Option (List UInt8×Nat))(w:World)(e:Ending)(w':World):Prop:=
 ∃n t ok,e=.returned (.tuple #[.int .i64 n,.string t,.bool ok])/\ziR q n t ok/\w=w'
def zdu(s:ByteArray)(a:Nat)(w:World)(hs:s.size<=1000000000000)(ha:a<s.size):
 Calls prog 137 #[.string s,.int .i64 a] w (znR (Lode.jZ (s.data.toList.drop a)) w):=by
 have Hq:=uD.start s a;generalize Lode.jZ (s.data.toList.drop a)=q at *;go_enter func137,ntmps137;go_wp2_with fail;go_loop [7,8] (λs7 s8=>∃(k:Nat) (ob:ByteArray),a+1+k<=s.size+1/\s8=.int .i64 ((a+1+k:Nat):Int)/\s7=.string ob/\ob.size<=k/\uD s a k ob q) (λ_ s8=>s.size+1-(intOf s8).toNat)
 case atStart=>exact⟨0,_,by omega,by go_num,rfl,by decide,Hq⟩
 case round=>
  obtain⟨k,ob,hk,rfl,rfl,bf,hq⟩:=hrel;by_cases mD:a+1+k<s.size
  ·have hx:∀i,i<s.size->(s.extract i (i+1)).size=1:=λi hi=>by simp;omega
   have Hx:=zh hx;clear hx;go_wp2_with fail
   ·go_ret3;exact⟨_,_,_,rfl,zgR hq mD ‹_› ‹_› ‹_› _ (by omega),rfl⟩
   ·go_round
    case rel=>exact⟨k+1,_,by omega,by go_num,rfl,by rw[ByteArray.size_append,Hx.q _ mD];omega,zgQ hq mD ‹_› ‹_› ‹_› ‹_›⟩
    case measure=>go_light;simp[intOf];omega
   ·go_round
    case rel=>exact⟨k+2,_,by omega,by go_num,rfl,by rw[ByteArray.size_append,Hx.q _ (by omega)];omega,zjJ hq mD ‹_› ‹_› ‹_› ‹_› (by omega) (.inl ‹_›)⟩
    case measure=>go_light;simp[intOf];omega
   ·go_round
    case rel=>exact⟨k+2,_,by omega,by go_num,rfl,by rw[ByteArray.size_append,Hx.q _ (by omega)];omega,zjJ hq mD ‹_› ‹_› ‹_› ‹_› (by omega) (by have h:=‹(_ == (34:Int))=true\/_›;simpa only[pR] using h)⟩
    case measure=>go_light;simp[intOf];omega
   ·go_round
    case rel=>exact⟨k+2,_,by omega,by go_num,rfl,by rw[ByteArray.size_append];show ob.size+1<=k+2;omega,zjI hq mD ‹_› ‹_› ‹_› ‹_› (by omega) (by have h:=‹(_ == _)=false/\_›;simpa only[pB] using h) (by have h:=‹(_ == (110:Int))=true›;simpa only[pR] using h)⟩
    case measure=>go_light;simp[intOf];omega
   ·go_ret3;exact⟨_,_,_,rfl,by rw[zmr hq mD ‹_› ‹_› ‹_› ‹_› (by omega) (by have h:=‹(_ == _)=false/\_›;simpa only[pB] using h) (by have h:=‹(_ == (110:Int))=false›;simpa only[pB] using h)];rfl,rfl⟩
   ·go_ret3;exact⟨_,_,_,rfl,by rw[zbc hq mD ‹_› ‹_› ‹_› ‹_› (by omega)];rfl,rfl⟩
   ·go_ret3;exact⟨_,_,_,rfl,by rw[znc hq mD ‹_›];rfl,rfl⟩
   ·go_ret3;exact⟨_,_,_,rfl,by rw[zmq hq mD ‹_›];rfl,rfl⟩
  ·go_wp2_with fail;go_ret3;exact⟨_,_,_,rfl,by rw[zmp hq (by omega)];rfl,rfl⟩
def zb0(s:ByteArray)(x:Int)(a:Nat)(lt:Bool)(w:World)(hx:x=a)(hs:s.size<=1000000000000)(ha:a<=s.size):
 Calls prog 132 #[.string s,.int .i64 x,.bool lt] w λe w'=>e=.returned (.int .i64 (yj (λc=>zL c || (lt && zR c)) (s.data.toList.drop a)))/\w=w':=by
 subst hx;exact zds s a lt w hs ha
def zme(q:Option (Nat×List UInt8×Nat))(a:Int)(k:Int)(t:ByteArray)(a' n:Int)(ok:Bool):Prop:=
 match q with
 |some (k',t',n')=>ok=true/\k=k'/\t=⟨t'.toArray⟩/\a'=a/\n=n'
 |none=>ok=false
def jP(q:Option (Nat×List UInt8×Nat))(a:Nat)(w:World)(e:Ending)(w':World):Prop:=
 ∃k t a' n ok,e=.returned (.tuple #[.agg #[.int .u8 k,.string t,.int .i64 a'],.int .i64 n,.bool ok])/\zme q a k t a' n ok/\Below w.heap.size w w'
theorem vK(p:UInt8->Bool):∀m:List UInt8,yj p m<=m.length
 |[]=>by simp[yj]
 |d :: m=>by simp only[yj];have:=vK p m;split <;> simp;omega
def zeT(V:World)(l:List (List UInt8))(T:TypeId)(b:Nat)(hb:b=V.heap.size)(j:Nat)(hj:j<l.length):(V.alloc (.cells (XY l) T)).drew.cell? ⟨b,j,none⟩=some (.string ⟨(l[j]?.getD []).toArray⟩):=by
 subst hb;simp[XY,hj]
def qE(s:ByteArray)(a n:Nat):(s.extract a (a+n)).data.toList=(s.data.toList.drop a).take n:=by
 simp[List.extract_eq_take_drop]
def Xl(s:ByteArray):s=⟨s.data.toList.toArray⟩:=by simp
def XX(s:ByteArray)(a m:Nat)(ha:a<s.size)(h1:zR s[a]=true)(hm:yj (λc=>zL c || (true && zR c)) (s.data.toList.drop (a+1))=m):
 xR (s.data.toList.drop a)=if 1+m<=12 then some (if xS.contains (s.extract a (a+(1+m))).data.toList then 5 else 1,(s.extract a (a+(1+m))).data.toList,1+m) else none:=by
 have e:(λc=>zL c || (true && zR c))=(λc=>zR c || zL c):=by funext c;simp[Bool.or_comm]
 rw[e] at hm;rw[qE,qG s a ha];simp only[xR,h1,if_true,hm]
def yt{w w1:World}(h:Below w.heap.size w w1)(o:Obj):Below w.heap.size w (w1.alloc o):=h.alloc h.size o
def vH{q:Option (Nat×List UInt8×Nat)}(hq:q=if 1+m<=12 then some (k,(s.extract a (a+(1+m))).data.toList,1+m) else none):
 zme q a k (s.extract a (a+(1+m))) a (1+(m:Int)) (decide (1+(m:Int)<=12)):=by
 subst hq;by_cases h:1+m<=12
 ·rw[if_pos h];exact⟨by simp;omega,rfl,Xl _,rfl,by omega⟩
 ·rw[if_neg h];show _=_;simp;omega
def zb1(s:ByteArray)(a:Nat)(w:World)(hs:s.size<=1000000000000)(ha:a<s.size)(h1:zR s[a]=true):
 Calls prog 85 #[.string s,.int .i64 a] w (jP (xR (s.data.toList.drop a)) a w):=by
 have h2:Zn s[a]=false:=by simp[zR] at h1;simp[Zn];omega
 have hc:(0:Int)<=(s[a].toNat:Int):=by omega
 obtain⟨m,hm,Wk⟩:∃m,yj (λc=>zL c || (true && zR c)) (s.data.toList.drop (a+1))=m/\a+1+m<=s.size:=⟨_,rfl,by
  have:=vK (λc=>zL c || (true && zR c)) (s.data.toList.drop (a+1));simp at this ⊢;omega⟩
 have Hrun:=zh (show ∀w,Calls prog 132 #[.string s,.int .i64 ((a:Int)+1),.bool true] w λe w'=>e=.returned (.int .i64 m)/\w=w' from λw=>hm▸zb0 s _ (a+1) true _ (by omega) hs (by omega));have Hm:=zh hm;clear hm;generalize hq:xR (s.data.toList.drop a)=q at *;have Hq:=zh hq;clear hq;go_enter func85,ntmps85;go_wp2_with (first
  |(go_at_call 130;refine (qH _ _).mono ?_;rintro e w' ⟨rfl,rfl⟩;rw[h1])
  |(go_at_call 131;refine (kZ _ _).mono ?_;rintro e w' ⟨rfl,rfl⟩;rw[h2])
  |(go_at_call 132;refine (Hrun.q _).mono ?_;rintro e w' ⟨rfl,rfl⟩))
 go_region_with (first
  |(go_at_call 134;refine (ze7 _).mono ?_;rintro e w' ⟨rfl,rfl⟩)
  |(go_at_call 133;refine (QE _ 44 44 xS _ _ rfl (by decide) (λj hj=>zeT _ _ _ _ (by simp) j hj)).mono ?_;rintro e w' ⟨rfl,rfl⟩))
 all_goals
  go_wp2_with fail
 all_goals
  first
   |(have hw:List.take (1+m) (List.drop a s.data.toList)∈xS:=by assumption
     refine bodyPost_ret (v:=.tuple #[.agg #[.int .u8 5,.string (s.extract a (a+(1+m))),.int .i64 a],.int .i64 (1+m),.bool (decide (1+(m:Int)<=12))]) (by simp[results,results85,go_sem]) rfl ?_;refine⟨_,_,_,_,_,rfl,?_,?_⟩
     ·exact vH (k:=5) (by rw[<-Hq.q,XX s a m ha h1 Hm.q,qE];simp[hw])
     ·repeat (first|exact pG _ _|apply Below.drew|apply yt))
   |(have hw:¬List.take (1+m) (List.drop a s.data.toList)∈xS:=by assumption
     refine bodyPost_ret (v:=.tuple #[.agg #[.int .u8 1,.string (s.extract a (a+(1+m))),.int .i64 a],.int .i64 (1+m),.bool (decide (1+(m:Int)<=12))]) (by simp[results,results85,go_sem]) rfl ?_;refine⟨_,_,_,_,_,rfl,?_,?_⟩
     ·exact vH (k:=1) (by rw[<-Hq.q,XX s a m ha h1 Hm.q,qE];simp[hw])
     ·repeat (first|exact pG _ _|apply Below.drew|apply yt))
def zdd(s:ByteArray)(a m:Nat)(ha:a<s.size)(h1:zR s[a]=false)(h2:Zn s[a]=true)(hm:yj (λc=>zL c || (true && zR c)) (s.data.toList.drop (a+1))=m):
 xR (s.data.toList.drop a)=if 1+m<=12 then some (2,(s.extract a (a+(1+m))).data.toList,1+m) else none:=by
 have e:(λc=>zL c || (true && zR c))=(λc=>zR c || zL c):=by funext c;simp[Bool.or_comm]
 rw[e] at hm;rw[qE,qG s a ha];simp only[xR,h1,h2,if_true,hm,Bool.false_eq_true,if_false]
def zeS(s:ByteArray)(a m:Nat)(ha:a<s.size)(h1:zR s[a]=false)(h2:Zn s[a]=false)(h3:zL s[a]=true)(hm:yj (λc=>zL c || (false && zR c)) (s.data.toList.drop a)=m):
 xR (s.data.toList.drop a)=if kj (s.extract a (a+m)).data.toList then some (3,(s.extract a (a+m)).data.toList,m) else none:=by
 have e:(λc=>zL c || (false && zR c))=zL:=by funext c;simp
 rw[e,qG s a ha] at hm;rw[qE,qG s a ha];simp only[yj,h3,if_true] at hm;subst hm;simp only[xR,h1,h2,h3,if_true,Bool.false_eq_true,if_false,Nat.add_comm 1]
def Vk(s:ByteArray)(a:Nat)(ha:a<s.size)(h:s[a]=34):
 xR (s.data.toList.drop a)=(Lode.jZ (s.data.toList.drop a)).map λx=>(4,x.1,x.2):=by
 rw[qG s a ha,h];simp only[xR,show zR 34=false from rfl,show Zn 34=false from rfl,show zL 34=false from rfl,if_true,Bool.false_eq_true,if_false]
def zaX(s:ByteArray)(a:Nat)(ha:a<s.size)(h1:zR s[a]=false)(h2:Zn s[a]=false)(h3:zL s[a]=false)(h4:s[a]≠34):
 xR (s.data.toList.drop a)=(yd.find? λg=>jy g (s.data.toList.drop a)).map λg=>(6,g,g.length):=by
 rw[qG s a ha];simp only[xR,h1,h2,h3,h4,Bool.false_eq_true,if_false]
def zfb(s:ByteArray)(a:Nat)(w:World)(hs:s.size<=1000000000000)(ha:a<s.size)(h1:zR s[a]=false)(h2:Zn s[a]=true):
 Calls prog 85 #[.string s,.int .i64 a] w (jP (xR (s.data.toList.drop a)) a w):=by
 have hc:(0:Int)<=(s[a].toNat:Int):=by omega
 obtain⟨m,hm,Wk⟩:∃m,yj (λc=>zL c || (true && zR c)) (s.data.toList.drop (a+1))=m/\a+1+m<=s.size:=⟨_,rfl,by
  have:=vK (λc=>zL c || (true && zR c)) (s.data.toList.drop (a+1));simp at this ⊢;omega⟩
 have Hrun:=zh (show ∀w,Calls prog 132 #[.string s,.int .i64 ((a:Int)+1),.bool true] w λe w'=>e=.returned (.int .i64 m)/\w=w' from λw=>hm▸zb0 s _ (a+1) true _ (by omega) hs (by omega));have Hm:=zh hm;clear hm;generalize hq:xR (s.data.toList.drop a)=q at *;have Hq:=zh hq;clear hq;go_enter func85,ntmps85;go_wp2_with (first
  |(go_at_call 130;refine (qH _ _).mono ?_;rintro e w' ⟨rfl,rfl⟩;rw[h1])
  |(go_at_call 131;refine (kZ _ _).mono ?_;rintro e w' ⟨rfl,rfl⟩;rw[h2])
  |(go_at_call 132;refine (Hrun.q _).mono ?_;rintro e w' ⟨rfl,rfl⟩))
 refine bodyPost_ret (v:=.tuple #[.agg #[.int .u8 2,.string (s.extract a (a+(1+m))),.int .i64 a],.int .i64 (1+m),.bool (decide (1+(m:Int)<=12))]) (by simp[results,results85,go_sem]) rfl ?_;refine⟨_,_,_,_,_,rfl,?_,?_⟩
 ·exact vH (k:=2) (by rw[<-Hq.q,zdd s a m ha h1 h2 Hm.q])
 ·repeat (first|exact pG _ _|apply Below.drew|apply yt)
def zb3(s:ByteArray)(a:Nat)(w:World)(hs:s.size<=1000000000000)(ha:a<s.size)(h1:zR s[a]=false)(h2:Zn s[a]=false)(h3:zL s[a]=true):
 Calls prog 85 #[.string s,.int .i64 a] w (jP (xR (s.data.toList.drop a)) a w):=by
 have hc:(0:Int)<=(s[a].toNat:Int):=by omega
 obtain⟨m,hm,Wk⟩:∃m,yj (λc=>zL c || (false && zR c)) (s.data.toList.drop a)=m/\a+m<=s.size:=⟨_,rfl,by
  have:=vK (λc=>zL c || (false && zR c)) (s.data.toList.drop a);simp at this ⊢;omega⟩
 have Hrun:=zh (show ∀w,Calls prog 132 #[.string s,.int .i64 (a:Int),.bool false] w λe w'=>e=.returned (.int .i64 m)/\w=w' from λw=>hm▸zb0 s _ a false _ (by omega) hs (by omega));have Hm:=zh hm;clear hm;obtain⟨b,hb⟩:=exE (kj (s.extract a (a+m)).data.toList);have Hnum:=zh (show ∀w,Calls prog 136 #[.string (s.extract a (a+m))] w λe w'=>e=.returned (.bool b)/\w=w' from λw=>hb▸zaB _ w (by simp;omega));have Hb:=zh hb;clear hb;generalize hq:xR (s.data.toList.drop a)=q at *;have Hq:=zh hq;clear hq;go_enter func85,ntmps85;go_wp2_with (first
  |(go_at_call 130;refine (qH _ _).mono ?_;rintro e w' ⟨rfl,rfl⟩;rw[h1])
  |(go_at_call 131;refine (kZ _ _).mono ?_;rintro e w' ⟨rfl,rfl⟩;rw[h2])
  |(go_at_call 135;refine (jb _ _).mono ?_;rintro e w' ⟨rfl,rfl⟩;rw[h3])
  |(go_at_call 132;refine (Hrun.q _).mono ?_;rintro e w' ⟨rfl,rfl⟩))
 have e1:IntKind.i64.wrap ((a:Int)+(m:Int))=a+m:=pF _ (by omega);have e2:(0:Int)<=(a:Int)+m:=by omega
 have e3:((a:Int)+(m:Int)).toNat=a+m:=by omega
 have e4:(a:Int)<=(a:Int)+m:=by omega
 have e5:a<=a+m:=by omega
 have e6:(a:Int)+m<=(s.size:Int):=by omega
 have e7:a+m<=s.size:=by omega
 go_region_with (go_at_call 136;refine (Hnum.q _).mono ?_;rintro e w' ⟨rfl,rfl⟩)
 all_goals
  go_wp2_with fail
 all_goals
  refine bodyPost_ret (v:=.tuple #[.agg #[.int .u8 3,.string (s.extract a (a+m)),.int .i64 a],.int .i64 m,.bool b]) (by simp[results,results85,go_sem]) rfl ?_;refine⟨_,_,_,_,_,rfl,?_,?_⟩
  ·rw[<-Hq.q,zeS s a m ha h1 h2 h3 Hm.q,Hb.q];cases b
   ·exact rfl
   ·exact⟨rfl,rfl,Xl _,rfl,rfl⟩
  ·repeat (first|exact pG _ _|apply Below.drew|apply yt)
def zb2(s:ByteArray)(a:Nat)(w:World)(hs:s.size<=1000000000000)(ha:a<s.size)(h:s[a]=34):
 Calls prog 85 #[.string s,.int .i64 a] w (jP (xR (s.data.toList.drop a)) a w):=by
 have h1:zR s[a]=false:=by rw[h];rfl
 have h2:Zn s[a]=false:=by rw[h];rfl
 have h3:zL s[a]=false:=by rw[h];rfl
 have h4:((s[a].toNat:Int) == 34)=true:=by rw[pR,c34];exact h
 have Hq:=zh (Vk s a ha h);have Hquo:=zh (zdu s a · hs ha);have H:=zh h;clear h;generalize hq:xR (s.data.toList.drop a)=q at *;generalize hq:Lode.jZ (s.data.toList.drop a)=q2 at *;go_enter func85,ntmps85;go_wp2_with (first
  |(go_at_call 130;refine (qH _ _).mono ?_;rintro e w' ⟨rfl,rfl⟩;rw[h1])
  |(go_at_call 131;refine (kZ _ _).mono ?_;rintro e w' ⟨rfl,rfl⟩;rw[h2])
  |(go_at_call 135;refine (jb _ _).mono ?_;rintro e w' ⟨rfl,rfl⟩;rw[h3]))
 refine (Hquo.q _).mono ?_;rintro e w' ⟨n,t,ok,rfl,eX,rfl⟩;have Hres:=zh eX;clear eX;go_wp2;refine bodyPost_ret (v:=.tuple #[.agg #[.int .u8 4,.string t,.int .i64 a],.int .i64 n,.bool ok]) (by simp[results,results85,go_sem]) rfl ?_;refine⟨_,_,_,_,_,rfl,?_,?_⟩
 ·rw[Hq.q];have hr:=Hres.q;cases q2 with
  |none=>exact hr
  |some x=>exact⟨hr.1,rfl,hr.2.2,rfl,hr.2.1⟩
 ·repeat (first|exact pG _ _|apply Below.drew|apply yt)
end
section
open Go.RowKit Lode Go.Shelf
attribute [local go_sem ↓] wp_at_zero wp_at_succ
open Go.Proofs.Tryz
theorem zbt:∀(g r:List UInt8),jy g r=decide (r.take g.length=g)
 |[],r=>by simp[jy]
 |_ :: _,[]=>by simp[jy]
 |a :: g,b :: r=>by
  simp only[jy,zbt g r,pH,List.take_succ_cons,List.cons.injEq];rw[pP];simp;intro _;exact eq_comm
theorem zab(r:List UInt8)(k:Nat):∀(L:List (List UInt8)),(∀g,g∈L->g.length=k)->L.find? (λg=>jy g r)=if L.contains (r.take k) then some (r.take k) else none
 |[],_=>by simp
 |g :: L,h=>by
  have hg:=h g (by simp);have ih:=zab r k L (λx hx=>h x (by simp[hx]));rw[List.find?_cons,zbt,hg,ih];by_cases e:r.take k=g
  ·simp[e]
  ·have e':(g == r.take k)=false:=by simpa using λh=>e h.symm
   simp only[e,decide_false,List.contains_cons];have e2:(r.take k == g)=false:=by simpa using e
   rw[e2,Bool.false_or]
def uT:List (List UInt8):=yd.take 7
def uU:List (List UInt8):=yd.drop 7
def zhV(r:List UInt8):(yd.find? λg=>jy g r)=if 2<=r.length/\yd.contains (r.take 2)=true then some (r.take 2) else if 1<=r.length/\yd.contains (r.take 1)=true then some (r.take 1) else none:=by
 have h2:∀g,g∈uT->g.length=2:=by decide
 have h1:∀g,g∈uU->g.length=1:=by decide
 have e:yd=uT ++ uU:=by decide
 have c2:∀x:List UInt8,x∈yd↔x∈uT\/x∈uU:=λx=>by rw[e];simp
 rw[show yd.find? (λg=>jy g r)=(uT ++ uU).find? λg=>jy g r by rw[<-e],List.find?_append,zab r 2 uT h2,zab r 1 uU h1];by_cases eT:2<=r.length
 ·have hn:r.take 2∉uU:=λh=>by have:=h1 _ h;simp at this;omega
  have rW:r.take 1∉uT:=λh=>by have:=h2 _ h;simp at this;omega
  have q2:yd.contains (r.take 2)=uT.contains (r.take 2):=by rw[pP];simp[c2,hn]
  have q1:yd.contains (r.take 1)=uU.contains (r.take 1):=by rw[pP];simp[c2,rW]
  rw[q2,q1];cases uT.contains (r.take 2) with
  |true=>simp[eT]
  |false=>
   have:1<=r.length:=by omega
   cases uU.contains (r.take 1) <;> simp[this]
 ·have aT:r.take 2∉uT:=λh=>by have:=h2 _ h;simp at this;omega
  have eu:uT.contains (r.take 2)=false:=by simpa using aT
  rw[eu];by_cases eS:1<=r.length
  ·have rW:r.take 1∉uT:=λh=>by have:=h2 _ h;simp at this;omega
   have q1:yd.contains (r.take 1)=uU.contains (r.take 1):=by rw[pP];simp[c2,rW]
   rw[q1];cases uU.contains (r.take 1) <;> simp[eS,eT]
  ·have:r=[]:=pT (by omega);subst this;have hc:([]:List UInt8)∉uU:=by decide
   simp[hc]
def jt(s:ByteArray)(a n:Nat):Bool:=decide (a+n<=s.size) && yd.contains (s.extract a (a+n)).data.toList
def zdb(s:ByteArray)(a:Nat)(ha:a<s.size)(h1:zR s[a]=false)(h2:Zn s[a]=false)(h3:zL s[a]=false)(h4:s[a]≠34):
 xR (s.data.toList.drop a)=if jt s a 2=true then some (6,(s.extract a (a+2)).data.toList,2) else if jt s a 1=true then some (6,(s.extract a (a+1)).data.toList,1) else none:=by
 rw[zaX s a ha h1 h2 h3 h4,zhV];have hl:(s.data.toList.drop a).length=s.size-a:=by simp
 have e2:(2<=s.size-a)=(a+2<=s.size):=by simp only[eq_iff_iff];omega
 have e1:(1<=s.size-a)=(a+1<=s.size):=by simp only[eq_iff_iff];omega
 simp only[jt,pJ,pK,qE,hl,e2,e1];split
 ·rename_i h;simp[hl];omega
 ·split
  ·rename_i h;simp[hl];omega
  ·rfl
def zk(w:World)(o:Obj):(w.alloc o).heap[w.heap.size]? =some o:=by
 show (w.heap.push o)[w.heap.size]? =_;simp
def km{w:World}{o:Obj}(o':Obj)(h:w.heap[b]? =some o):(w.alloc o').heap[b]? =some o:=by
 rw[Below.heap_alloc w o' b (gtA h)];exact h
def qS{w w1:World}(h:Below w.heap.size w w1)(b o:Nat)(hb:w.heap.size<=b)(v:Value):Below w.heap.size w (w1.setCell ⟨b,o,none⟩ v):=h.setCell (p:=⟨b,o,none⟩) hb v
def zO{w w1:World}(h:Below w.heap.size w w1)(n:Nat):Below w.heap.size w (w1.drewN n):=by
 induction n with
 |zero=>exact h
 |succ n ih=>exact ih.drew
def zaW(q:Option (Nat×List UInt8×Nat))(a k:Int)(t:ByteArray)(a' n:Int)(h:q=none):zme q a k t a' n false:=by subst h;exact rfl
def zd{w:World}{cs:Array Value}{T:TypeId}(hb:w.heap[b]? =some (.cells cs T fr))(j:Nat):w.cell? ⟨b,j,none⟩=cs[j]? :=by
 simp[World.cell?,hb]
def zj{w:World}{cs:Array Value}{T:TypeId}(hb:w.heap[b]? =some (.cells cs T (0,0)))(j:Nat):w.frozen? ⟨b,j,none⟩=false:=by
 simp[World.frozen?,hb]
def qZ{P:Program}{c:Code}{Q:Exit->Act->World->Prop}{a:Act}{w:World}(h:c.wp P (λe a w=>match e with| .normal=>Q .normal a w|_=>False) a w):c.wp P Q a w:=
 Code.wp_mono (λe a w q=>by cases e <;> first|exact q|exact q.elim) h
def vQ(w:World):w.drew.heap=w.heap:=rfl
def vR(w:World)(n:Nat):(w.drewN n).heap=w.heap:=by
 induction n with
 |zero=>rfl
 |succ n ih=>exact ih
def qD(V:World)(o:Obj)(b:Nat)(h:b=V.heap.size):(V.alloc o).heap[b]? =some o:=by subst h;exact zk V o
def uW(s:ByteArray)(a n:Nat)(h:a+n<=s.size)(W:World)(bk:Nat)(hW:W.heap[bk]? =some (.cells (XY yd) 9 (0,0))):
 Calls prog 133 #[.slice (some ⟨bk,0,none⟩) 25 25,.string (s.extract a (a+n))] W λe w'=>e=.returned (.bool (jt s a n))/\W=w':=by
 have e:jt s a n=yd.contains (s.extract a (a+n)).data.toList:=by unfold jt;simp[h]
 rw[e];exact QE bk 25 25 yd _ _ rfl (by decide) (λj hj=>by rw[zd hW];simp only[XY,pS,wC];rw[glE (show j<yd.length from hj)];rfl)
def zm7(s:ByteArray)(a:Nat)(w:World)(q:Option (Nat×List UInt8×Nat))(hs:s.size<=1000000000000)(ha:a<s.size)(h1:zR s[a]=false)(h2:Zn s[a]=false)(h3:zL s[a]=false)(h4:((s[a].toNat:Int) == 34)=false)(nw:a+2<=s.size)(hb:jt s a 2=true)(Hq:Hid (q=some (6,(s.extract a (a+2)).data.toList,2))):
 Calls prog 85 #[.string s,.int .i64 a] w (jP q a w):=by
 have Hin:=zh (uW s a 2 nw);rw[hb] at Hin;clear hb;go_enter func85,ntmps85;go_wp2_with (first
  |(go_at_call 130;refine (qH _ _).mono ?_;rintro e w' ⟨rfl,rfl⟩;rw[h1])
  |(go_at_call 131;refine (kZ _ _).mono ?_;rintro e w' ⟨rfl,rfl⟩;rw[h2])
  |(go_at_call 135;refine (jb _ _).mono ?_;rintro e w' ⟨rfl,rfl⟩;rw[h3]))
 refine wp_loop_rounds 1 ?_;rw[rounds_succ];go_wp2_with fail;have e1:IntKind.i64.wrap ((a:Int)+2)=a+2:=pF _ (by omega);have e2:(0:Int)<=(a:Int)+2:=by omega
 have e3:((a:Int)+2).toNat=a+2:=by omega
 have e4:(a:Int)<=(a:Int)+2:=by omega
 have e5:a<=a+2:=by omega
 have e6:(a:Int)+2<=(s.size:Int):=by omega
 have e8:decide ((a:Int)+2<=(s.size:Int))=true:=by simp;omega
 refine qZ ?_;go_region_held3 (λ_=>True) (go_keep) (first
  |(go_at_call 138;refine (kG _).mono ?_;rintro e w' ⟨rfl,rfl⟩)
  |(go_at_call 133;refine (Hin.q _ _ (by (try simp only[vQ]);exact qD _ _ _ (by simp))).mono ?_;rintro e w' ⟨rfl,rfl⟩))
 clear e1 e2 e3 e4;go_wp2;refine bodyPost_ret (v:=.tuple #[.agg #[.int .u8 6,.string (s.extract a (a+2)),.int .i64 a],.int .i64 2,.bool true]) (by simp[results,results85,go_sem]) rfl ?_;refine⟨_,_,_,_,_,rfl,?_,?_⟩
 ·rw[Hq.q];exact⟨rfl,rfl,Xl _,rfl,rfl⟩
 ·repeat (first|exact pG _ _|with_reducible apply Below.drew|with_reducible apply zO|with_reducible apply yt|with_reducible refine qS ?_ _ _ (by omega) _)
def zlm(s:ByteArray)(a:Nat)(w:World)(q:Option (Nat×List UInt8×Nat))(hs:s.size<=1000000000000)(ha:a<s.size)(h1:zR s[a]=false)(h2:Zn s[a]=false)(h3:zL s[a]=false)(h4:((s[a].toNat:Int) == 34)=false)(nw:a+2<=s.size)(hb:jt s a 2=false)(hc:jt s a 1=true)(Hq:Hid (q=some (6,(s.extract a (a+1)).data.toList,1))):
 Calls prog 85 #[.string s,.int .i64 a] w (jP q a w):=by
 have Hin:=zh (uW s a 2 nw);have Hjn:=zh (uW s a 1 (by omega));rw[hb] at Hin;rw[hc] at Hjn;clear hb hc;go_enter func85,ntmps85;go_wp2_with (first
  |(go_at_call 130;refine (qH _ _).mono ?_;rintro e w' ⟨rfl,rfl⟩;rw[h1])
  |(go_at_call 131;refine (kZ _ _).mono ?_;rintro e w' ⟨rfl,rfl⟩;rw[h2])
  |(go_at_call 135;refine (jb _ _).mono ?_;rintro e w' ⟨rfl,rfl⟩;rw[h3]))
 refine wp_loop_rounds 2 ?_;rw[rounds_succ];go_wp2_with fail;have e1:IntKind.i64.wrap ((a:Int)+2)=a+2:=pF _ (by omega);have e2:(0:Int)<=(a:Int)+2:=by omega
 have e3:((a:Int)+2).toNat=a+2:=by omega
 have e4:(a:Int)<=(a:Int)+2:=by omega
 have e5:a<=a+2:=by omega
 have e6:(a:Int)+2<=(s.size:Int):=by omega
 have e8:decide ((a:Int)+2<=(s.size:Int))=true:=by simp;omega
 refine qZ ?_;go_region_held3 (λ_=>True) (go_keep) (first
  |(go_at_call 138;refine (kG _).mono ?_;rintro e w' ⟨rfl,rfl⟩)
  |(go_at_call 133;refine (Hin.q _ _ (by (try simp only[vQ]);exact qD _ _ _ (by simp))).mono ?_;rintro e w' ⟨rfl,rfl⟩))
 clear e1 e2 e3 e4 e5 e6 e8;go_wp2_with fail;rw[rounds_succ];go_wp2_with fail;have e1:IntKind.i64.wrap ((a:Int)+1)=a+1:=pF _ (by omega);have e2:(0:Int)<=(a:Int)+1:=by omega
 have e3:((a:Int)+1).toNat=a+1:=by omega
 have e4:(a:Int)<=(a:Int)+1:=by omega
 have e5:a<=a+1:=by omega
 have e6:(a:Int)+1<=(s.size:Int):=by omega
 have e8:decide ((a:Int)+1<=(s.size:Int))=true:=by simp;omega
 refine qZ ?_;go_region_held3 (λ_=>True) (go_keep) (first
  |(go_at_call 138;refine (kG _).mono ?_;rintro e w' ⟨rfl,rfl⟩)
  |(go_at_call 133;refine (Hjn.q _ _ (by (try simp only[vQ]);exact qD _ _ _ (by simp))).mono ?_;rintro e w' ⟨rfl,rfl⟩))
 clear e1 e2 e3 e4;go_wp2;refine bodyPost_ret (v:=.tuple #[.agg #[.int .u8 6,.string (s.extract a (a+1)),.int .i64 a],.int .i64 1,.bool true]) (by simp[results,results85,go_sem]) rfl ?_;refine⟨_,_,_,_,_,rfl,?_,?_⟩
 ·rw[Hq.q];exact⟨rfl,rfl,Xl _,rfl,rfl⟩
 ·repeat (first|exact pG _ _|with_reducible apply Below.drew|with_reducible apply zO|with_reducible apply yt|with_reducible refine qS ?_ _ _ (by omega) _)
def zln(s:ByteArray)(a:Nat)(w:World)(q:Option (Nat×List UInt8×Nat))(hs:s.size<=1000000000000)(ha:a<s.size)(h1:zR s[a]=false)(h2:Zn s[a]=false)(h3:zL s[a]=false)(h4:((s[a].toNat:Int) == 34)=false)(nw:a+2<=s.size)(hb:jt s a 2=false)(hc:jt s a 1=false)(Hq:Hid (q=none)):
 Calls prog 85 #[.string s,.int .i64 a] w (jP q a w):=by
 have Hin:=zh (uW s a 2 nw);have Hjn:=zh (uW s a 1 (by omega));rw[hb] at Hin;rw[hc] at Hjn;clear hb hc;go_enter func85,ntmps85;go_wp2_with (first
  |(go_at_call 130;refine (qH _ _).mono ?_;rintro e w' ⟨rfl,rfl⟩;rw[h1])
  |(go_at_call 131;refine (kZ _ _).mono ?_;rintro e w' ⟨rfl,rfl⟩;rw[h2])
  |(go_at_call 135;refine (jb _ _).mono ?_;rintro e w' ⟨rfl,rfl⟩;rw[h3]))
 refine wp_loop_rounds 3 ?_;rw[rounds_succ];go_wp2_with fail;have e1:IntKind.i64.wrap ((a:Int)+2)=a+2:=pF _ (by omega);have e2:(0:Int)<=(a:Int)+2:=by omega
 have e3:((a:Int)+2).toNat=a+2:=by omega
 have e4:(a:Int)<=(a:Int)+2:=by omega
 have e5:a<=a+2:=by omega
 have e6:(a:Int)+2<=(s.size:Int):=by omega
 have e8:decide ((a:Int)+2<=(s.size:Int))=true:=by simp;omega
 refine qZ ?_;go_region_held3 (λ_=>True) (go_keep) (first
  |(go_at_call 138;refine (kG _).mono ?_;rintro e w' ⟨rfl,rfl⟩)
  |(go_at_call 133;refine (Hin.q _ _ (by (try simp only[vQ]);exact qD _ _ _ (by simp))).mono ?_;rintro e w' ⟨rfl,rfl⟩))
 clear e1 e2 e3 e4 e5 e6 e8;go_wp2_with fail;rw[rounds_succ];go_wp2_with fail;have e1:IntKind.i64.wrap ((a:Int)+1)=a+1:=pF _ (by omega);have e2:(0:Int)<=(a:Int)+1:=by omega
 have e3:((a:Int)+1).toNat=a+1:=by omega
 have e4:(a:Int)<=(a:Int)+1:=by omega
 have e5:a<=a+1:=by omega
 have e6:(a:Int)+1<=(s.size:Int):=by omega
 have e8:decide ((a:Int)+1<=(s.size:Int))=true:=by simp;omega
 refine qZ ?_;go_region_held3 (λ_=>True) (go_keep) (first
  |(go_at_call 138;refine (kG _).mono ?_;rintro e w' ⟨rfl,rfl⟩)
  |(go_at_call 133;refine (Hjn.q _ _ (by (try simp only[vQ]);exact qD _ _ _ (by simp))).mono ?_;rintro e w' ⟨rfl,rfl⟩))
 clear e1 e2 e3 e4;go_wp2_with fail;rw[rounds_succ];go_wp2;refine bodyPost_ret (v:=.tuple #[.agg #[.int .u8 0,.string ⟨#[]⟩,.int .i64 0],.int .i64 0,.bool false]) (by simp[results,results85,go_sem]) rfl ?_;refine⟨_,_,_,_,_,rfl,zaW _ _ _ _ _ _ Hq.q,?_⟩
 repeat (first|exact pG _ _|with_reducible apply Below.drew|with_reducible apply zO|with_reducible apply yt|with_reducible refine qS ?_ _ _ (by omega) _)
def zlo(s:ByteArray)(a:Nat)(w:World)(q:Option (Nat×List UInt8×Nat))(hs:s.size<=1000000000000)(ha:a<s.size)(h1:zR s[a]=false)(h2:Zn s[a]=false)(h3:zL s[a]=false)(h4:((s[a].toNat:Int) == 34)=false)(nw:a+1<=s.size)(rR:s.size<a+2)(hc:jt s a 1=true)(Hq:Hid (q=some (6,(s.extract a (a+1)).data.toList,1))):
 Calls prog 85 #[.string s,.int .i64 a] w (jP q a w):=by
 have Hjn:=zh (uW s a 1 (by omega));rw[hc] at Hjn;clear hc;go_enter func85,ntmps85;go_wp2_with (first
  |(go_at_call 130;refine (qH _ _).mono ?_;rintro e w' ⟨rfl,rfl⟩;rw[h1])
  |(go_at_call 131;refine (kZ _ _).mono ?_;rintro e w' ⟨rfl,rfl⟩;rw[h2])
  |(go_at_call 135;refine (jb _ _).mono ?_;rintro e w' ⟨rfl,rfl⟩;rw[h3]))
 refine wp_loop_rounds 2 ?_;rw[rounds_succ];go_wp2_with fail;have e9:IntKind.i64.wrap ((a:Int)+2)=a+2:=pF _ (by omega);have e8:decide ((a:Int)+2<=(s.size:Int))=false:=by simp;omega
 have e7:¬((a:Int)+2<=(s.size:Int)):=by omega
 have e6:s.size<a+2:=by omega
 have e5:(s.size:Int)<(a:Int)+2:=by omega
 refine qZ ?_;go_quiet (fail);clear e5 e6 e7 e8 e9 rR;go_wp2_with fail;rw[rounds_succ];go_wp2_with fail;have e1:IntKind.i64.wrap ((a:Int)+1)=a+1:=pF _ (by omega);have e2:(0:Int)<=(a:Int)+1:=by omega
 have e3:((a:Int)+1).toNat=a+1:=by omega
 have e4:(a:Int)<=(a:Int)+1:=by omega
 have e5:a<=a+1:=by omega
 have e6:(a:Int)+1<=(s.size:Int):=by omega
 have e8:decide ((a:Int)+1<=(s.size:Int))=true:=by simp;omega
 refine qZ ?_;go_region_held3 (λ_=>True) (go_keep) (first
  |(go_at_call 138;refine (kG _).mono ?_;rintro e w' ⟨rfl,rfl⟩)
  |(go_at_call 133;refine (Hjn.q _ _ (by (try simp only[vQ,vR]);exact qD _ _ _ (by simp))).mono ?_;rintro e w' ⟨rfl,rfl⟩))
 clear e1 e2 e3 e4;go_wp2;refine bodyPost_ret (v:=.tuple #[.agg #[.int .u8 6,.string (s.extract a (a+1)),.int .i64 a],.int .i64 1,.bool true]) (by simp[results,results85,go_sem]) rfl ?_;refine⟨_,_,_,_,_,rfl,?_,?_⟩
 ·rw[Hq.q];exact⟨rfl,rfl,Xl _,rfl,rfl⟩
 ·repeat (first|exact pG _ _|with_reducible apply Below.drew|with_reducible apply zO|with_reducible apply yt|with_reducible refine qS ?_ _ _ (by omega) _)
def zlp(s:ByteArray)(a:Nat)(w:World)(q:Option (Nat×List UInt8×Nat))(hs:s.size<=1000000000000)(ha:a<s.size)(h1:zR s[a]=false)(h2:Zn s[a]=false)(h3:zL s[a]=false)(h4:((s[a].toNat:Int) == 34)=false)(nw:a+1<=s.size)(rR:s.size<a+2)(hc:jt s a 1=false)(Hq:Hid (q=none)):
 Calls prog 85 #[.string s,.int .i64 a] w (jP q a w):=by
 have Hjn:=zh (uW s a 1 (by omega));rw[hc] at Hjn;clear hc;go_enter func85,ntmps85;go_wp2_with (first
  |(go_at_call 130;refine (qH _ _).mono ?_;rintro e w' ⟨rfl,rfl⟩;rw[h1])
  |(go_at_call 131;refine (kZ _ _).mono ?_;rintro e w' ⟨rfl,rfl⟩;rw[h2])
  |(go_at_call 135;refine (jb _ _).mono ?_;rintro e w' ⟨rfl,rfl⟩;rw[h3]))
 refine wp_loop_rounds 3 ?_;rw[rounds_succ];go_wp2_with fail;have e9:IntKind.i64.wrap ((a:Int)+2)=a+2:=pF _ (by omega);have e8:decide ((a:Int)+2<=(s.size:Int))=false:=by simp;omega
 have e7:¬((a:Int)+2<=(s.size:Int)):=by omega
 have e6:s.size<a+2:=by omega
 have e5:(s.size:Int)<(a:Int)+2:=by omega
 refine qZ ?_;go_quiet (fail);clear e5 e6 e7 e8 e9 rR;go_wp2_with fail;rw[rounds_succ];go_wp2_with fail;have e1:IntKind.i64.wrap ((a:Int)+1)=a+1:=pF _ (by omega);have e2:(0:Int)<=(a:Int)+1:=by omega
 have e3:((a:Int)+1).toNat=a+1:=by omega
 have e4:(a:Int)<=(a:Int)+1:=by omega
 have e5:a<=a+1:=by omega
 have e6:(a:Int)+1<=(s.size:Int):=by omega
 have e8:decide ((a:Int)+1<=(s.size:Int))=true:=by simp;omega
 refine qZ ?_;go_region_held3 (λ_=>True) (go_keep) (first
  |(go_at_call 138;refine (kG _).mono ?_;rintro e w' ⟨rfl,rfl⟩)
  |(go_at_call 133;refine (Hjn.q _ _ (by (try simp only[vQ,vR]);exact qD _ _ _ (by simp))).mono ?_;rintro e w' ⟨rfl,rfl⟩))
 clear e1 e2 e3 e4;go_wp2_with fail;rw[rounds_succ];go_wp2;refine bodyPost_ret (v:=.tuple #[.agg #[.int .u8 0,.string ⟨#[]⟩,.int .i64 0],.int .i64 0,.bool false]) (by simp[results,results85,go_sem]) rfl ?_;refine⟨_,_,_,_,_,rfl,zaW _ _ _ _ _ _ Hq.q,?_⟩
 repeat (first|exact pG _ _|with_reducible apply Below.drew|with_reducible apply zO|with_reducible apply yt|with_reducible refine qS ?_ _ _ (by omega) _)
def zdy(s:ByteArray)(a:Nat)(w:World)(hs:s.size<=1000000000000)(ha:a<s.size)(h1:zR s[a]=false)(h2:Zn s[a]=false)(h3:zL s[a]=false)(mu:s[a]≠34):
 Calls prog 85 #[.string s,.int .i64 a] w (jP (xR (s.data.toList.drop a)) a w):=by
 have h4:((s[a].toNat:Int) == 34)=false:=by rw[pB,ne_eq,c34];exact mu
 have hq:=zdb s a ha h1 h2 h3 mu;by_cases nw:a+2<=s.size
 ·cases hb:jt s a 2 with
  |true=>rw[hb] at hq;exact zm7 s a w _ hs ha h1 h2 h3 h4 nw hb (zh hq)
  |false=>
   rw[hb] at hq;cases hc:jt s a 1 with
   |true=>rw[hc] at hq;exact zlm s a w _ hs ha h1 h2 h3 h4 nw hb hc (zh hq)
   |false=>rw[hc] at hq;exact zln s a w _ hs ha h1 h2 h3 h4 nw hb hc (zh hq)
 ·have hb:jt s a 2=false:=by simp[jt,nw]
  rw[hb] at hq;cases hc:jt s a 1 with
  |true=>rw[hc] at hq;exact zlo s a w _ hs ha h1 h2 h3 h4 (by omega) (by omega) hc (zh hq)
  |false=>rw[hc] at hq;exact zlp s a w _ hs ha h1 h2 h3 h4 (by omega) (by omega) hc (zh hq)
def Qd(s:ByteArray)(a:Nat)(w:World)(hs:s.size<=1000000000000)(ha:a<s.size):
 Calls prog 85 #[.string s,.int .i64 a] w (jP (xR (s.data.toList.drop a)) a w):=by
 by_cases h1:zR s[a]=true
 ·exact zb1 s a w hs ha h1
 ·have h1:zR s[a]=false:=by simpa using h1
  by_cases h2:Zn s[a]=true
  ·exact zfb s a w hs ha h1 h2
  ·have h2:Zn s[a]=false:=by simpa using h2
   by_cases h3:zL s[a]=true
   ·exact zb3 s a w hs ha h1 h2 h3
   ·have h3:zL s[a]=false:=by simpa using h3
    by_cases h4:s[a]=34
    ·exact zb2 s a w hs ha h4
    ·exact zdy s a w hs ha h1 h2 h3 h4
