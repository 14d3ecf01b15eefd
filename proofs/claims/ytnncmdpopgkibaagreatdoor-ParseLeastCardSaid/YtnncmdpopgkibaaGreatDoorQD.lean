/-
  A part of the proof: contracts of functions; no conditions.
-/
import Derived.Test.YtnncmdpopgkibaaGreatDoorQC
import Derived.Shelf.Abstract
import Derived.Shelf.RegionOpen
import Derived.WalkKit
import Derived.OwnWalkIn
import Derived.TacticsInMore
import Derived.LoopNIn
import Derived.LoopIn
import Derived.Test.YtnncmdpopgkibaaGreatDoorProg
import Derived.WalkLawsBesides
import Derived.WalkSpells
import Derived.Lib.ConvBytes
import Derived.Deep.RegionWith
import Derived.Deep.Light
import Derived.Deep.QuietTactic
import Derived.BigQuiet
import Derived.Lib.AtoiAll
import Derived.Lib.ItoaNum
import GoSem.Op.String
import Derived.Lib.LastIndexByte
import Derived.Lib.Bytealg
import Derived.Lib.AppendIntMem
import Derived.Deep.RegionHeld3
import Derived.Deep.DrawnRows
import Derived.Deep.AppendLies
import Derived.Maps.Range
import Derived.WalkMore
import Derived.Deep.LoopGhost
import Derived.Shelf.Strings.BuilderF
import Derived.Deep.Onto
import Derived.Laws.Runes
import Derived.Deep.Upon
import Derived.OwnWalk
import Derived.OneCell
import Derived.OrdersIn
import Derived.TacticsIn
import Derived.Recover
import Derived.Lib.OthersKept
import Derived.MapKept
import Derived.Carry
import Derived.Laws.AppendOwnNone
set_option maxRecDepth 100000
set_option maxHeartbeats 40000000
set_option linter.unusedSimpArgs false
set_option linter.unusedVariables false
namespace Go.Proofs.YtnncmdpopgkibaaGreatDoor
section
open Go.RowKit Lode
open Go.Proofs.Tryz
section
def zp8(t:List UInt8):List (List UInt8)->Option (List (List UInt8))
 |[]=>none
 |o :: r=>if zcN o=t then some r else none
def zla(st:List (List UInt8))(x:Nat×List UInt8):Option (List (List UInt8)):=
 if x.1≠6 then some st else if zcN x.2≠[] then some (x.2 :: st) else if zkh x.2=true then zp8 x.2 st else some st
def znQ:List (List UInt8)->List (Nat×List UInt8)->Option (List (List UInt8))
 |st,[]=>some st
 |st,x :: r=>(zla st x).bind fun st'=>znQ st' r
theorem zmI:∀(st:List (List UInt8)) (a b:List (Nat×List UInt8)),znQ st (a ++ b)=(znQ st a).bind fun st'=>znQ st' b
 |st,[],b=>rfl
 |st,x :: a,b=>by
  show (zla st x).bind _=((zla st x).bind _).bind _
  cases zla st x with
  |none=>rfl
  |some st'=>exact zmI st' a b
def zgl(p:List Pc):Prop:=∀st,znQ st (pcT p)=some st
theorem zgS:zgl []:=fun _=>rfl
theorem zmO{P Q:List Pc}(hP:zgl P)(hQ:zgl Q):zgl (P ++ Q):=fun st=>by
 have:pcT (P ++ Q)=pcT P ++ pcT Q:=by simp[pcT]
 rw[this,zmI,hP st];exact hQ st
theorem zoD{s:List UInt8}{x:Nat×List UInt8}{Q:List Pc}(h:∀st,zla st x=some st)(hQ:zgl Q):zgl ((s,some x) :: Q):=fun st=>by
 show (zla st x).bind _=_
 rw[h st];exact hQ st
theorem zmB{Q:List Pc}(hQ:zgl Q):zgl (sp :: Q):=hQ
theorem zmH{s:List UInt8}{k:Nat}{t:List UInt8}{Q:List Pc}(hk:k≠6)(hQ:zgl Q):zgl ((s,some (k,t)) :: Q):=zoD (fun st=>by unfold zla;rw[if_pos hk]) hQ
theorem zoE{w:List UInt8}{Q:List Pc}(hQ:zgl Q):zgl (kwd w :: Q):=zmH (fun h=>by cases h) hQ
theorem zp4{w:List UInt8}{Q:List Pc}(hQ:zgl Q):zgl (nm w :: Q):=zmH (fun h=>by cases h) hQ
theorem zp5{w:List UInt8}{Q:List Pc}(hQ:zgl Q):zgl (bg w :: Q):=zmH (fun h=>by cases h) hQ
theorem zp2{w:List UInt8}{Q:List Pc}(hQ:zgl Q):zgl (tx w :: Q):=zmH (fun h=>by cases h) hQ
theorem zpo{w:Int}{Q:List Pc}(hQ:zgl Q):zgl (nu w :: Q):=zmH (fun h=>by cases h) hQ
theorem zm7{g:List UInt8}(h:(zcN g == [] && !zkh g)=true){Q:List Pc}(hQ:zgl Q):zgl (sg g :: Q):=zoD (fun st=>by
 simp only[pG,pS,Bool.not_eq_true'] at h;unfold zla;rw[if_neg (by simp),if_neg (by simp[h.1]),if_neg (by simp[h.2])]) hQ
theorem zp3{s:List UInt8}(h:(zcN s == [] && !zkh s)=true){Q:List Pc}(hQ:zgl Q):zgl (zmx s :: Q):=by
 unfold zmx;split
 ·exact zoE hQ
 ·exact zm7 h hQ
theorem zm8{o c:List UInt8}(h:(!(zcN o == []) && zcN o == c && zcN c == [] && zkh c)=true){X Q:List Pc}(hX:zgl X)(hQ:zgl Q):zgl (sg o :: (X ++ sg c :: Q)):=fun st=>by
 simp only[pG,pS,Bool.not_eq_true',pB] at h;obtain⟨⟨⟨h1,h2⟩,h3⟩,h4⟩:=h;have e:pcT (sg o :: (X ++ sg c :: Q))=(6,o) :: (pcT X ++ (6,c) :: pcT Q):=by simp[pcT,sg]
 rw[e];show (zla st (6,o)).bind _=_
 have e1:zla st (6,o)=some (o :: st):=by
  unfold zla;rw[if_neg (by simp),if_pos h1]
 rw[e1];show znQ (o :: st) (pcT X ++ (6,c) :: pcT Q)=_
 rw[zmI,hX (o :: st)];show (zla (o :: st) (6,c)).bind _=_
 have e2:zla (o :: st) (6,c)=some st:=by
  unfold zla;rw[if_neg (by simp),if_neg (by simp[h3]),if_pos h4];exact if_pos h2
 rw[e2];exact hQ st
theorem zng{X Q:List Pc}(hX:zgl X)(hQ:zgl Q):zgl (sg [40] :: (X ++ sg [41] :: Q)):=zm8 (by decide) hX hQ
theorem zoY{X Q:List Pc}(hX:zgl X)(hQ:zgl Q):zgl (sg [123] :: sp :: (X ++ sp :: sg [125] :: Q)):=by
 have:=zm8 (o:=[123]) (c:=[125]) (by decide) (zmO (zmB hX) (zmB zgS)) hQ;simpa using this
theorem zor{X Q:List Pc}(hX:zgl X)(hQ:zgl Q):zgl (sg [123] :: sp :: (X ++ sg [125] :: Q)):=zm8 (o:=[123]) (c:=[125]) (X:=sp :: X) (by decide) (zmB hX) hQ
theorem zpn:zgl [sg [40],sg [41]]:=zm8 (o:=[40]) (c:=[41]) (X:=[]) (by decide) zgS zgS
theorem zpI{n:Int}:zgl [sg [40],nu n,sg [41]]:=zm8 (o:=[40]) (c:=[41]) (X:=[nu n]) (by decide) (zpo zgS) zgS
variable {l:List Nd} {pc:Int→List Pc} (H:∀k,zgl (pc k))
include H
theorem zpJ(k:Int)(r:Nat):zgl (zlQ l pc k r):=by
 unfold zlQ;split
 ·exact zng (H k) zgS
 ·exact H k
omit H in
theorem zoF:∀ks:List (List Pc),(∀x∈ks,zgl x)->zgl (zmE ks)
 |[],_=>zgS
 |[x],h=>h x (List.mem_singleton_self x)
 |x :: y :: r,h=>by
  show zgl (x ++ sg [44] :: sp :: zmE (y :: r))
  exact zmO (h x (List.mem_cons_self ..)) (zm7 (by decide) (zmB (zoF (y :: r) fun z hz=>h z (pY _ hz))))
theorem znP(ks:List Int):zgl (zme pc ks):=zoF _ fun x hx=>by
 obtain⟨k,_,rfl⟩:=List.mem_map.1 hx;exact H k
theorem zoW(ks:List Int):zgl (zlP pc ks):=by
 unfold zlP;split
 ·exact zgS
 ·exact zng (znP H ks) zgS
theorem znH(last:Bool):∀ks:List Int,zgl (zlV pc last ks)
 |[]=>zgS
 |[k]=>by
  show zgl (pc k ++ (if last then [sp] else [sg [59],sp]))
  cases last
  ·exact zmO (H k) (zm7 (by decide) (zmB zgS))
  ·exact zmO (H k) (zmB zgS)
 |k :: j :: r=>by
  show zgl (pc k ++ sg [59] :: sp :: zlV pc last (j :: r))
  exact zmO (H k) (zm7 (by decide) (zmB (znH last (j :: r))))
theorem zoZ(x:Nd):zgl (zmd pc x):=by
 unfold zmd;split
 ·exact zm8 (o:=[123]) (c:=[125]) (X:=[]) (by decide) zgS zgS
 ·exact zor (znH H _ _) zgS
theorem zpp(x:Nd)(m:Nat):zgl (zjf pc x m):=by
 unfold zjf;exact zng (znP H _) (zm7 (by decide) (zmB (H _)))
theorem zoX{k:Nat}{t:List UInt8}{n:Int}{ks:List Int}{a:Int}(hkn:yz k=true):zgl (zfI l pc ⟨k,t,n,ks,a⟩):=by
 have hm:=zmX hkn;clear hkn;simp only[wD,wH,or_false] at hm;rcases hm with rfl|rfl|rfl|rfl|rfl|rfl|rfl|rfl|rfl|rfl|rfl|rfl|rfl|rfl|rfl|rfl|rfl|rfl|rfl|rfl|rfl|rfl|rfl|rfl|rfl|rfl|rfl|rfl|rfl|rfl|rfl|rfl|rfl|rfl|rfl|rfl|rfl|rfl|rfl|rfl|rfl|rfl|rfl|rfl|rfl|rfl|rfl|rfl|rfl|rfl|rfl|rfl|rfl|rfl|rfl|rfl|rfl|rfl|rfl|rfl|rfl|rfl|rfl|rfl|rfl|rfl|rfl|rfl|rfl|rfl|rfl|rfl|rfl|rfl|rfl|rfl|rfl
 all_goals
  simp[zfI,xE,qj,zM,zk5,zhY,zeC]
  repeat' with_reducible first
   |exact zgS|exact H _|exact zpJ H _ _|exact znP H _|exact zoW H _|exact zoZ H _|exact zpp H _ _
   |refine zmB ?_|refine zoE ?_|refine zp4 ?_|refine zp5 ?_|refine zp2 ?_|refine zpo ?_
   |refine zp3 (by decide) ?_
   |refine zng ?_ ?_|refine zoY ?_ ?_
   |exact zpn|exact zpI
   |refine zm7 (by decide) ?_
   |refine zmO ?_ ?_
   |split
omit H in
theorem zob(hr:∀x∈l,yj l x=true):∀(f:Nat) (k:Int),zgl (pcN l f k)
 |0,_=>zgS
 |f+1,k=>by
  unfold pcN;cases hx:l[k.toNat]? with
  |none=>exact zgS
  |some x=>
   obtain⟨hk,_⟩:=yY (hr x (wK hx));obtain⟨k',t,n,ks,a⟩:=x;exact zoX (zob hr f) hk
end
section
theorem zn3{l:List yp}:∀k,k<=l.length->∀st,znQ [] ((l.take k).map kt)=some st->∃out op,ziT l k=some (out,op)/\st=op.reverse.map (fun o=>(l[o]?).elim [] yp.text)/\znr l k out op
 |0,_,st,h=>by
  cases h;exact⟨_,_,rfl,rfl,znr.start l⟩
 |k+1,hk,st,h=>by
  have hlk:l[k]? =some l[k]:=glE (by omega);rw[wZ,hlk,Option.toList_some,List.map_append,zmI] at h;cases h0:znQ [] ((l.take k).map kt) with
  |none=>rw[h0] at h;cases h
  |some st0=>
   rw[h0] at h;obtain⟨out,op,h1,h2,I⟩:=zn3 k (by omega) st0 h0;have h3:zla st0 (kt l[k])=some st:=by
    change ((zla st0 (kt l[k])).bind fun st'=>some st')=some st at h;cases hb:zla st0 (kt l[k]) with
    |none=>rw[hb] at h;cases h
    |some z=>rw[hb] at h;exact h
   have hs:=zmF h1 (show k<l.length by omega);have fin:∀out' op',ziV l k l[k] out op=some (out',op')->st=op'.reverse.map (fun o=>(l[o]?).elim [] yp.text)->∃out op,ziT l (k+1)=some (out,op)/\st=op.reverse.map (fun o=>(l[o]?).elim [] yp.text)/\znr l (k+1) out op:=fun out' op' e e2=>⟨out',op',by rw[hs,e],e2,zmW I (by omega) e⟩
   have b1:l[k].kind≠6->zla st0 (kt l[k])=some st0:=fun h=>if_pos h
   have b2:¬l[k].kind≠6->zcN l[k].text≠[]->zla st0 (kt l[k])=some (l[k].text :: st0):=fun h h'=>(if_neg h).trans (if_pos h')
   have b3:¬l[k].kind≠6->¬zcN l[k].text≠[]->zkh l[k].text=true->zla st0 (kt l[k])=zp8 l[k].text st0:=fun h h' h''=>((if_neg h).trans (if_neg h')).trans (if_pos h'')
   have b4:¬l[k].kind≠6->¬zcN l[k].text≠[]->¬zkh l[k].text=true->zla st0 (kt l[k])=some st0:=fun h h' h''=>((if_neg h).trans (if_neg h')).trans (if_neg h'')
   by_cases hkind:l[k].kind≠6
   ·rw[b1 hkind] at h3;cases h3;exact fin out op (by unfold ziV;rw[if_pos hkind]) h2
   ·by_cases hop:zcN l[k].text≠[]
    ·rw[b2 hkind hop] at h3;cases h3;refine fin out (op ++ [k]) (by unfold ziV;rw[if_neg hkind,if_pos hop]) ?_;rw[List.reverse_append,List.reverse_singleton,List.singleton_append,List.map_cons,hlk,<-h2];rfl
    ·by_cases hcl:zkh l[k].text=true
     ·rw[b3 hkind hop hcl] at h3;cases hl:op.getLast? with
      |none=>
       have:op=[]:=List.getLast?_eq_none_iff.1 hl;rw[this] at h2;rw[h2] at h3;cases h3
      |some o=>
       have hsp:=zlR hl;have hlt:=I.lt o (List.mem_of_getLast? hl);have hlo:l[o]? =some (l[o]'hlt.2):=glE _;rw[hsp,List.reverse_append,List.reverse_singleton,List.singleton_append,List.map_cons,hlo] at h2;rw[h2] at h3;change (if zcN (l[o]'hlt.2).text=l[k].text then some (op.dropLast.reverse.map fun o=>(l[o]?).elim [] yp.text) else none)=some st at h3;by_cases hm:zcN (l[o]'hlt.2).text=l[k].text
       ·have h5:=(if_pos hm).symm.trans h3;cases h5;refine fin ((out.set k (o:Int)).set o (k:Int)) op.dropLast ?_ rfl;unfold ziV;rw[if_neg hkind,if_neg hop,if_pos hcl,hl];simp only;rw[hlo,Option.map_some,if_pos (by rw[hm])]
       ·have h5:=(if_neg hm).symm.trans h3;cases h5
     ·rw[b4 hkind hop hcl] at h3;cases h3;exact fin out op (by unfold ziV;rw[if_neg hkind,if_neg hop,if_neg hcl]) h2
theorem zpQ{l:List yp}{out:List Int}(I:znr l l.length out []){i:Nat}{t:yp}(ht:l[i]? =some t)(hk:t.kind=6)(hx:t.text=[40]):∃(p:Nat) (u:yp),out[i]? =some (p:Int)/\i<p/\p<l.length/\l[p]? =some u/\u.kind=6/\u.text=[41]:=by
 have hil:=(gtL ht);obtain⟨p,hp⟩:=I.done i t hil ht hk (.inl (by rw[hx];decide)) (by simp);obtain⟨h1,_,h2,h3,h4⟩:=I.pair i p hp;rcases Nat.lt_or_gt_of_ne h2 with h|h
 ·obtain⟨_,_,_,_,h5⟩:=I.pair p i h3;obtain⟨t',u,_,g2,_,_,g5,_⟩:=h5 h;rw[ht] at g2;cases g2;rw[hx] at g5;unfold zcN at g5;split at g5
  ·cases g5
  ·split at g5
   ·cases g5
   ·split at g5 <;> cases g5
 ·obtain⟨t',u,g1,g2,_,g4,g5,_⟩:=h4 h;rw[ht] at g1;cases g1;refine⟨p,u,hp,h,h1,g2,g4,?_⟩;rw[<-g5,hx];rfl
end
def Fit(P:List Pc):Prop:=∀(V:List UInt8) (ks:List (Nat×List UInt8)),QF V->XU V ks->XU (pcB P ++ V) (pcT P ++ ks)
theorem zmu:Fit []:=fun _ _ _ h=>h
theorem zmz{P Q:List Pc}(hP:Fit P)(hQ:Fit Q)(hs:∀V,QF V->QF (pcB Q ++ V)):Fit (P ++ Q):=fun V ks hV h=>by
 have e1:pcB (P ++ Q) ++ V=pcB P ++ (pcB Q ++ V):=by rw[zmn,wS]
 have e2:pcT (P ++ Q) ++ ks=pcT P ++ (pcT Q ++ ks):=by simp[pcT]
 rw[e1,e2];exact hP _ _ (hs V hV) (hQ V ks hV h)
theorem zmy{Q:List Pc}(hQ:Fit Q):Fit (sp :: Q):=fun V ks hV h=>XU.gap (Z:=[32]) (r:=pcB Q ++ V) (ks:=pcT Q ++ ks) rfl (hQ V ks hV h)
theorem zpj{g:List UInt8}(hg:∀V,yM (g ++ V)=some (6,g,g.length)){Q:List Pc}(hQ:Fit Q):Fit (sg g :: Q):=fun V ks hV h=>by
 have e1:pcB (sg g :: Q) ++ V=[] ++ (g ++ (pcB Q ++ V)):=by rw[zii,wS];rfl
 have e2:pcT (sg g :: Q) ++ ks=(6,g) :: (pcT Q ++ ks):=rfl;rw[e1,e2];exact XU.tok rfl (hg _) (hQ V ks hV h)
theorem zmM{T:List UInt8}{x:Nat×List UInt8}(hx:yM T=some (x.1,x.2,T.length)){Q:List Pc}(hQ:Fit Q)(hs:∀V,QF V->QF (pcB Q ++ V)):Fit ((T,some x) :: Q):=fun V ks hV h=>by
 have e1:pcB ((T,some x) :: Q) ++ V=[] ++ (T ++ (pcB Q ++ V)):=by rw[zii,wS];rfl
 have e2:pcT ((T,some x) :: Q) ++ ks=(x.1,x.2) :: (pcT Q ++ ks):=rfl;rw[e1,e2];have:=VE hx (hs V hV);rw[List.take_length] at this;exact XU.tok rfl this (hQ V ks hV h)
theorem znw{T:List UInt8}{x:Option (Nat×List UInt8)}{Q:List Pc}{c:UInt8}{r:List UInt8}(e:T=c :: r)(h:zlh c):∀V,QF V->QF (pcB ((T,x) :: Q) ++ V):=fun V _ d z hd=>by
 subst e;rw[zii] at hd;cases hd;exact h
theorem zk7(c:UInt8)(h1:(fun V:List UInt8=>yM (c :: V))=fun _=>some (6,[c],1)){Q:List Pc}(hQ:Fit Q):Fit (sg [c] :: Q):=zpj (fun V=>congrFun h1 V) hQ
theorem zmY:(fun V:List UInt8=>yM (40 :: V))=fun _=>some (6,[40],1):=rfl
theorem zmZ:(fun V:List UInt8=>yM (41 :: V))=fun _=>some (6,[41],1):=rfl
theorem zn7:(fun V:List UInt8=>yM (44 :: V))=fun _=>some (6,[44],1):=rfl
theorem zm4:(fun V:List UInt8=>yM (59 :: V))=fun _=>some (6,[59],1):=rfl
theorem zpg:(fun V:List UInt8=>yM (46 :: V))=fun _=>some (6,[46],1):=rfl
theorem zm5:(fun V:List UInt8=>yM (123 :: V))=fun _=>some (6,[123],1):=rfl
theorem zm3:(fun V:List UInt8=>yM (125 :: V))=fun _=>some (6,[125],1):=rfl
theorem zpf:(fun V:List UInt8=>yM (45 :: V))=fun _=>some (6,[45],1):=rfl
end
section
open Go.Proofs.Tryz
section
open Go.RowKit Lode
def zkx(Q:List Pc):Prop:=∀V,QF V->QF (pcB Q ++ V)
theorem znY:zkx []:=fun _ h=>h
theorem zmU(Q:List Pc):zkx (sp :: Q):=znw rfl (by unfold zlh;decide)
theorem zmm{c:UInt8}(h:zlh c)(Q:List Pc):zkx (sg [c] :: Q):=znw rfl h
variable {l:List Nd} {pc:Int→List Pc}
theorem zpC{k:Int}{r:Nat}(h:Fit (pc k)):Fit (zlQ l pc k r):=by
 unfold zlQ;split
 ·exact zk7 _ zmY (zmz h (zk7 _ zmZ zmu) (zmm (by unfold zlh;decide) _))
 ·exact h
theorem zoA:∀(ks:List (List Pc)),(∀x∈ks,Fit x)->∀{Q:List Pc},Fit Q->zkx Q->Fit (zmE ks ++ Q)
 |[],_,_,hQ,_=>hQ
 |[x],h,_,hQ,hs=>zmz (h x (List.mem_singleton_self x)) hQ hs
 |x :: y :: r,h,Q,hQ,hs=>by
  have ih:=zoA (y :: r) (fun z hz=>h z (pY _ hz)) hQ hs;show Fit ((x ++ sg [44] :: sp :: zmE (y :: r)) ++ Q)
  rw[wS];exact zmz (h x (List.mem_cons_self ..)) (zk7 _ zn7 (zmy ih)) (zmm (by unfold zlh;decide) _)
theorem znL{ks:List Int}(h:∀k∈ks,Fit (pc k)){Q:List Pc}(hQ:Fit Q)(hs:zkx Q):Fit (zme pc ks ++ Q):=zoA _ (fun x hx=>by
 obtain⟨k,hk,rfl⟩:=List.mem_map.1 hx;exact h k hk) hQ hs
theorem zoQ{ks:List Int}(h:∀k∈ks,Fit (pc k)):Fit (zlP pc ks):=by
 unfold zlP;split
 ·exact zmu
 ·exact zk7 _ zmY (znL h (zk7 _ zmZ zmu) (zmm (by unfold zlh;decide) _))
theorem znD{last:Bool}:∀{ks:List Int},(∀k∈ks,Fit (pc k))->∀{Q:List Pc},Fit Q->zkx Q->Fit (zlV pc last ks ++ Q)
 |[],_,_,hQ,_=>hQ
 |[k],h,Q,hQ,hs=>by
  show Fit ((pc k ++ (if last then [sp] else [sg [59],sp])) ++ Q)
  rw[wS];cases last
  ·exact zmz (h k (List.mem_singleton_self k)) (zk7 _ zm4 (zmy hQ)) (zmm (by unfold zlh;decide) _)
  ·exact zmz (h k (List.mem_singleton_self k)) (zmy hQ) (zmU _)
 |k :: j :: r,h,Q,hQ,hs=>by
  have ih:=znD (last:=last) (ks:=j :: r) (fun z hz=>h z (pY _ hz)) hQ hs;show Fit ((pc k ++ sg [59] :: sp :: zlV pc last (j :: r)) ++ Q)
  rw[wS];exact zmz (h k (List.mem_cons_self ..)) (zk7 _ zm4 (zmy ih)) (zmm (by unfold zlh;decide) _)
theorem zoS{x:Nd}(h:∀k∈x.kids,Fit (pc k)):Fit (zmd pc x):=by
 unfold zmd;split
 ·exact zk7 _ zm5 (zk7 _ zm3 zmu)
 ·exact zk7 _ zm5 (zmy (znD h (zk7 _ zm3 zmu) (zmm (by unfold zlh;decide) _)))
end
end
section
open Go.RowKit Lode
open Go.Proofs.Tryz
theorem znK{k:Nat}{t T:List UInt8}(h:kV k t=(T,0)):yM T=some (k,t,T.length):=by
 have:=ue h (R:=[]) (.inl fun c r e=>by cases e)
 rwa [wN] at this
theorem zph{w:List UInt8}(h:yM w=some (5,w,w.length)){Q:List Pc}(hQ:Fit Q)(hs:zkx Q):Fit (kwd w :: Q):=zmM (x:=(5,w)) h hQ hs
theorem zm0{k:Nat}{t:List UInt8}(hk:k≠4)(h:(yV k t).2=0):kV k t=(t,0):=by
 rw[zlb] at h;unfold kV at h ⊢;rw[if_neg hk] at h ⊢;split at h
 ·cases h
 ·rename_i h1;rw[if_neg h1];split at h
  ·split at h
   ·rename_i h2;rw[if_pos h2]
   ·cases h
  ·cases h
theorem zp0{t:List UInt8}(h:(yV 1 t).2=0){Q:List Pc}(hQ:Fit Q)(hs:zkx Q):Fit (nm t :: Q):=zmM (x:=(1,t)) (znK (zm0 (k:=1) (fun e=>by cases e) h)) hQ hs
theorem zp1{t:List UInt8}(h:(yV 2 t).2=0){Q:List Pc}(hQ:Fit Q)(hs:zkx Q):Fit (bg t :: Q):=zmM (x:=(2,t)) (znK (zm0 (k:=2) (fun e=>by cases e) h)) hQ hs
theorem zpX{t:List UInt8}(h:(yV 4 t).2=0){Q:List Pc}(hQ:Fit Q)(hs:zkx Q):Fit (tx t :: Q):=by
 refine zmM (x:=(4,t)) (znK ?_) hQ hs;rw[zlb] at h;unfold kV at h ⊢;rw[if_pos rfl] at h ⊢;split at h
 ·rename_i h1;rw[if_pos h1]
 ·cases h
theorem zoy{p:UInt8->Bool}:∀l:List UInt8,l.all p=true->yc p l=l.length
 |[],_=>rfl
 |c :: r,h=>by
  rw[List.all_cons,pG] at h;unfold yc;rw[if_pos h.1,zoy r h.2,pK]
theorem zpk{c:UInt8}(h:yf c=true):yg c=false/\YQ c=false:=by
 simp only[yf,yg,YQ,pG,pH,Bool.and_eq_false_iff,wO] at *;omega
theorem zpz{s:List UInt8}(h:ur s=true):yM s=some (3,s,s.length):=by
 have h0:=h;unfold ur at h0;simp only[pG] at h0;obtain⟨⟨⟨h1,h2⟩,_⟩,_⟩:=h0;cases s with
 |nil=>simp at h1
 |cons c r=>
  rw[List.all_cons,pG] at h2;obtain⟨n1,n2⟩:=zpk h2.1;have hn:1+yc yf r=(c :: r).length:=by rw[zoy r h2.2,pK];omega
  unfold yM;simp only[n1,n2,h2.1,Bool.false_eq_true,if_false,if_true];rw[hn,List.take_length,if_pos h]
theorem zpZ{m:Int}(h0:0<=m)(h1:m<=1000000000){Q:List Pc}(hQ:Fit Q)(hs:zkx Q):Fit (nu m :: Q):=zmM (x:=(3,Go.Lib.itoa m)) (zpz (zpd h0 h1)) hQ hs
section
variable {mk:Int→Bool} {L:List yp} {s:List UInt8} {f:Nat→List UInt8}
theorem zoG{x y:List UInt8}(h:x.head? =y.head?):x.take 1=y.take 1:=by
 cases x <;> cases y <;> simp at h ⊢;exact h
theorem zog{k:Nat}{t:List UInt8}(hk:k≠4)(h:kK (k,t)):kV k t=(t,0):=zm0 hk h
end
end
section
open Go.Proofs.Tryz
section
open Go.RowKit Lode
variable {l:List Nd} {pc:Int→List Pc}
theorem zoo{g:List UInt8}(h:yM g=some (6,g,g.length)){Q:List Pc}(hQ:Fit Q)(hs:zkx Q):Fit (sg g :: Q):=zmM (x:=(6,g)) h hQ hs
theorem zpi{x:Nd}{m:Nat}(h:∀k∈x.kids,Fit (pc k))(h2:Fit (pc (zN x (x.kids.length-1-m)))):Fit (zjf pc x m):=by
 unfold zjf;exact zk7 _ zmY (znL (fun k hk=>h k (List.mem_of_mem_take hk)) (zk7 _ zmZ (zoo (g:=[58]) rfl (zmy h2) (zmU _))) (zmm (by unfold zlh;decide) _))
theorem zpY{k:Nat}{s:List UInt8}(hs:xE k=some s){Q:List Pc}(hQ:Fit Q):Fit (zmx s :: sp :: Q):=by
 have hk:k=22\/k=21\/k=14\/k=15\/k=16\/k=17\/k=18\/k=19\/k=20\/k=8\/k=9\/k=10\/k=11\/k=12\/k=13:=Decidable.byContradiction fun hc=>by
  simp only[not_or] at hc;simp[xE,hc] at hs
 have key:yM s=some ((if s=[111,114]\/s=[97,110,100]\/s=[105,115] then 5 else 6),s,s.length):=by
  rcases hk with rfl|rfl|rfl|rfl|rfl|rfl|rfl|rfl|rfl|rfl|rfl|rfl|rfl|rfl|rfl <;> (obtain rfl:=Option.some.inj hs.symm;decide)
 unfold zmx;split
 ·rename_i h;rw[if_pos h] at key;exact zph key (zmy hQ) (zmU _)
 ·rename_i h;rw[if_neg h] at key;exact zoo key (zmy hQ) (zmU _)
end
section
open Go.RowKit Lode
variable {l:List Nd} {pc:Int→List Pc}
theorem zpB{s:List UInt8}(hs:((List.range 23).any fun k=>xE k == some s)=true){Q:List Pc}(hQ:Fit Q):Fit (zmx s :: sp :: Q):=by
 obtain⟨k,_,h⟩:=gC.1 hs;exact zpY (pS.1 h) hQ
theorem zpA{P Q:List Pc}(hP:Fit P)(hQ:Fit Q)(hs:zkx Q):Fit (P ++ Q):=zmz hP hQ hs
theorem znl(Q:List Pc):zkx (sg [40] :: Q):=zmm (by unfold zlh;decide) _
theorem zoH{x:Nd}{m:Nat}(Q:List Pc):zkx (zjf pc x m ++ Q):=znl _
theorem zof{x:Nd}{m:Nat}:zkx (zjf pc x m):=znl _
theorem zoe{ks:List Int}:zkx (zlP pc ks):=by
 unfold zlP;split
 ·exact znY
 ·exact znl _
theorem zoR(H:∀k,Fit (pc k)){k:Nat}{t:List UInt8}{n:Int}{ks:List Int}{a:Int}(hkn:yz k=true)(ht:if xf k=0 then t=[] else (yV (xf k) t).2=0)(hn:xw k n ks.length=true):Fit (zfI l pc ⟨k,t,n,ks,a⟩):=by
 have hm:=zmX hkn;clear hkn;simp only[wD,wH,or_false] at hm;rcases hm with rfl|rfl|rfl|rfl|rfl|rfl|rfl|rfl|rfl|rfl|rfl|rfl|rfl|rfl|rfl|rfl|rfl|rfl|rfl|rfl|rfl|rfl|rfl|rfl|rfl|rfl|rfl|rfl|rfl|rfl|rfl|rfl|rfl|rfl|rfl|rfl|rfl|rfl|rfl|rfl|rfl|rfl|rfl|rfl|rfl|rfl|rfl|rfl|rfl|rfl|rfl|rfl|rfl|rfl|rfl|rfl|rfl|rfl|rfl|rfl|rfl|rfl|rfl|rfl|rfl|rfl|rfl|rfl|rfl|rfl|rfl|rfl|rfl|rfl|rfl|rfl|rfl
 all_goals
  simp[xw,xf] at hn ht
  try rcases hn with rfl|rfl
 all_goals
  simp[zfI,xE,qj,zM,zk5,zhY,zeC]
  repeat' with_reducible first
   |exact zmu|exact H _|exact zpC (H _)|exact zoQ fun _ _=>H _|exact zoS fun _ _=>H _|exact zpi (fun _ _=>H _) (H _)
   |exact znY|exact zmU _|exact zmm (by unfold zlh;decide) _|exact zoH _|exact zof|exact zoe
   |refine zmy ?_
   |refine zpB (by decide +kernel) ?_
   |refine zk7 _ zmY ?_|refine zk7 _ zmZ ?_|refine zk7 _ zn7 ?_|refine zk7 _ zm4 ?_|refine zk7 _ zpg ?_|refine zk7 _ zm5 ?_|refine zk7 _ zm3 ?_|refine zk7 _ zpf ?_
   |refine zph (by decide +kernel) ?_ ?_|refine zoo (by decide +kernel) ?_ ?_
   |refine zp0 ht ?_ ?_|refine zp1 ht ?_ ?_|refine zpX ht ?_ ?_|refine zpZ (by omega) (by omega) ?_ ?_
   |refine znL (fun _ _=>H _) ?_ ?_
   |refine zpA ?_ ?_ ?_
   |split
theorem zn8(hr:∀x∈l,yj l x=true):∀(f:Nat) (k:Int),Fit (pcN l f k)
 |0,_=>zmu
 |f+1,k=>by
  unfold pcN;cases hx:l[k.toNat]? with
  |none=>exact zmu
  |some x=>
   obtain⟨hk,_,_,hn,h5,_⟩:=yY (hr x (wK hx));obtain⟨k',t,n,ks,a⟩:=x;refine zoR (zn8 hr f) hk ?_ hn;unfold jz at h5;split at h5
   ·rename_i h;rw[if_pos (by simpa using h)];simpa using h5
   ·rename_i h;rw[if_neg (by simpa using h)];simpa using h5
end
section
open Go.RowKit Lode
theorem zoz:∀{ks ks':List (Nat×List UInt8)} {r:List UInt8},XU r ks->XU r ks'->ks=ks':=by
 have gap:∀{G T R:List UInt8} {k:Nat} {t:List UInt8},jx false G=some false->yM (T ++ R)=some (k,t,T.length)->zI false (G ++ (T ++ R))=G.length:=fun {G T R k t} h1 h2=>by
  have:=kY false false G (T ++ R) h1;rw[YU h2] at this;exact this
 have non:∀{G T R:List UInt8} {k:Nat} {t:List UInt8} {c:Bool},jx false (G ++ (T ++ R))=some c->jx false G=some false->yM (T ++ R)=some (k,t,T.length)->False:=fun {G T R k t c} h h1 h2=>by
  have e:=kY false c _ [] h;rw[wN,gap h1 h2] at e;have e0:zI c []=0:=rfl;simp only[e0,pC] at e;have:T ++ R=[]:=pM (by rw[pC];omega);rw[this] at h2;cases h2
 intro ks;induction ks with
 |nil=>
  intro ks' r h h';rcases h.inv with⟨c,_,hc⟩|⟨G,T,R,k,t,ks1,_,e,_⟩
  ·rcases h'.inv with⟨c',e',_⟩|⟨G,T,R,k,t,ks1,rfl,rfl,h1,h2,_⟩
   ·exact e'.symm
   ·exact (non hc h1 h2).elim
  ·cases e
 |cons x ks ih=>
  intro ks' r h h';rcases h.inv with⟨c,e,_⟩|⟨G,T,R,k,t,ks1,rfl,e,h1,h2,h3⟩
  ·cases e
  ·cases e;rcases h'.inv with⟨c',e',hc⟩|⟨G',T',R',k',t',ks2,e',rfl,h1',h2',h3'⟩
   ·exact (non hc h1 h2).elim
   ·have hl:G.length=G'.length:=by rw[<-gap h1 h2,e',gap h1' h2']
    obtain⟨rfl,e2⟩:=List.append_inj e' hl;rw[<-e2,h2] at h2';simp only[pQ,Prod.mk.injEq] at h2';obtain⟨rfl,rfl,hl2⟩:=h2';obtain⟨rfl,rfl⟩:=List.append_inj e2 hl2;rw[ih h3 h3']
section
variable {l:List Nd}
theorem zpL(hr:∀x∈l,yj l x=true):∀(f:Nat) (k:Int),pcB (pcN l f k)=prN l f k
 |0,_=>rfl
 |f+1,k=>by
  unfold pcN prN;cases hx:l[k.toNat]? with
  |none=>rfl
  |some x=>
   obtain⟨hk,_⟩:=yY (hr x (wK hx));obtain⟨k',t,n,ks,a⟩:=x;exact zpT (zpL hr f) hk
end
def zfQ(t:yo):List UInt8:=t.items.flatMap fun k=>prT t k ++ [10]
theorem zn6{t:yo}(h:Fm t):XU (zfQ t) (zmG t):=by
 have key:∀ks:List Int,XU (ks.flatMap fun k=>prT t k ++ [10]) (ks.flatMap (wNd t.nodes (t.nodes.length+1))):=by
  intro ks;induction ks with
  |nil=>exact XU.done (c:=false) rfl
  |cons k ks ih=>
   rw[List.flatMap_cons,List.flatMap_cons];have h1:=zn8 h.right (t.nodes.length+1) k (10 :: (ks.flatMap fun k=>prT t k ++ [10])) _ (zpO _) (XU.gap (Z:=[10]) rfl ih);rw[zpL h.right] at h1;rw[wS];exact h1
 exact key t.items
theorem znn{t:yo}(h:zR t=0):YZ t=Yb (zfQ t):=by
 unfold YZ;rw[if_neg (by simp[h])];rfl
theorem zm2(l:List Nd)(k:Int):zE (l.map qv) k=zE l k:=by
 unfold zE;rw[pZ];cases l[k.toNat]? <;> rfl
theorem zoP(l:List Nd)(k:Int):(((l.map qv)[k.toNat]?).elim [] Nd.kids)=((l[k.toNat]?).elim [] Nd.kids):=by
 rw[pZ];cases l[k.toNat]? <;> rfl
end
end
section
open Go.RowKit Lode
open Go.Proofs.Tryz
section
def zhO(r:List UInt8)(q:Nat):List UInt8:=r.take q ++ 32 :: r.drop (q+1)
theorem zlS{r:List UInt8}{q:Nat}(h:q<r.length):(zhO r q).length=r.length:=by
 unfold zhO;simp only[pC,wU,pK,wW];omega
theorem znG{r:List UInt8}{q:Nat}(h:r.all jW=true):(zhO r q).all jW=true:=by
 unfold zhO;rw[List.all_append,List.all_cons,pG,pG];rw[pO] at h;exact⟨pO.2 fun x hx=>h x (List.mem_of_mem_take hx),by decide,pO.2 fun x hx=>h x (List.mem_of_mem_drop hx)⟩
theorem znF{a:Nat}{r:List UInt8}{l:List yp}(h:Jg a r l):∀(i:Nat) (t:yp),l[i]? =some t->t.kind=6->t.text.length=1->∃q,t.at_=((a+q:Nat):Int)/\q<r.length/\Jg a (zhO r q) (l.eraseIdx i)/\((zhO r q).head? =r.head? \/(zhO r q).head? =some 32):=by
 induction h with
 |done h=>intro i t ht;simp at ht
 | @tok a G T R k t l h1 h2 h3 ih=>
  intro i u hu hk hl;have hp:0<T.length:=by
   have:=Yo (YV h2).1.eq;rw[(YV h2).2] at this;exact List.length_pos_iff.2 this
  cases i with
  |zero=>
   rw[List.getElem?_cons_zero] at hu;cases hu;simp only at hk hl;subst hk;have hT:T=t:=by
    have h5:=(YV h2).2;have h6:=(YV h2).1.eq;simp only at h6;have h7:=zog (k:=6) (t:=t) (by decide) (YV h2).1;rw[h7] at h6;injection h6 with h6 _;rw[<-h5];exact h6.symm
   have hl1:T.length=1:=by rw[hT];exact hl
   have e:zhO (G ++ (T ++ R)) G.length=(G ++ [32]) ++ R:=by
    unfold zhO;rw[List.take_left,show G.length+1=G.length+T.length by omega,List.drop_length_add_append,List.drop_left];simp
   refine⟨G.length,rfl,by simp only[pC];omega,?_,?_⟩
   ·rw[e,List.eraseIdx_cons_zero];have h4:=h3;rw[hl1] at h4;exact Jg.gap (Z:=G ++ [32]) (by rw[Zh,h1];rfl) (by rw[pC,<-Nat.add_assoc];exact h4)
   ·rw[e];cases G with
    |nil=>exact .inr rfl
    |cons c z=>exact .inl rfl
  |succ i=>
   rw[List.getElem?_cons_succ] at hu;obtain⟨q,e1,e2,e3,e4⟩:=ih i u hu hk hl;have e:zhO (G ++ (T ++ R)) (G.length+(T.length+q))=G ++ (T ++ zhO R q):=by
    unfold zhO;rw[List.take_length_add_append,List.take_length_add_append,Nat.add_assoc,List.drop_length_add_append,Nat.add_assoc,List.drop_length_add_append];simp only[wS]
   have ht:yM (T ++ zhO R q)=some (k,t,T.length):=by
    rcases e4 with e|e
    ·refine zb3 h2 ?_;rw[List.take_length_add_append,List.take_length_add_append,zoG e]
    ·cases hb:zhO R q with
     |nil=>rw[hb] at e;cases e
     |cons c z=>
      rw[hb] at e;cases e;have:=VE h2 (zkt z);rw[List.take_left] at this;exact this
   refine⟨G.length+(T.length+q),by rw[e1];congr 1;omega,by simp only[pC];omega,?_,?_⟩
   ·rw[e,List.eraseIdx_cons_succ];exact Jg.tok h1 ht e3
   ·rw[e];left;cases G with
    |nil=>
     cases T with
     |nil=>simp at hp
     |cons c z=>rfl
    |cons c z=>rfl
theorem zoJ(l:List yp)(i:Nat):opK ((l.eraseIdx i).map kt)<=opK (l.map kt):=List.Sublist.countP_le ((List.eraseIdx_sublist l i).map _)
theorem zpb{l:List yp}{i:Nat}{t:yp}(h:l[i]? =some t)(ho:zjS (kt t)=true):opK ((l.eraseIdx i).map kt)+1=opK (l.map kt):=by
 induction l generalizing i with
 |nil=>simp at h
 |cons x l ih=>
  cases i with
  |zero=>
   rw[List.getElem?_cons_zero] at h;cases h;rw[List.eraseIdx_cons_zero,List.map_cons];unfold opK;rw[List.countP_cons,if_pos ho]
  |succ i=>
   rw[List.getElem?_cons_succ] at h;rw[List.eraseIdx_cons_succ,List.map_cons,List.map_cons];have:=ih h;unfold opK at this ⊢;rw[List.countP_cons,List.countP_cons];omega
theorem zpR(l:List Nd)(x:Nd):ziU (l.map qv) (qv x)=ziU l x:=by
 have h1:pk (l.map qv)=pk l:=by
  funext k r;unfold pk;rw[zm2]
 have h2:pkC (l.map qv)=pkC l:=by
  funext k;unfold pkC;rw[zm2,zoP,h1]
 unfold ziU;rw[h1,h2];simp only[zm2];rfl
theorem zoB(l:List Nd):ziS (l.map qv) (l.map qv)=ziS l l:=by
 unfold ziS;rw[List.map_map];congr 1;exact List.map_congr_left fun x _=>zpR l x
theorem zok{t:yo}(h:Ve t)(hr:(Lode.yQ (zfQ t)).2.2=0):∃out,znt (Lode.yQ (zfQ t)).1=(out,0)/\znr (Lode.yQ (zfQ t)).1 (Lode.yQ (zfQ t)).1.length out []/\(Lode.yQ (zfQ t)).1.map kt=zmG t:=by
 obtain⟨h1,h2,_⟩:=Jt hr;have hk:(Lode.yQ (zfQ t)).1.map kt=zmG t:=zoz h1.k (zn6 h.fm);have hsp:yT (Lode.yQ (zfQ t)).1=0:=zcc h2 h1.k.allSpelt;have hb:znQ [] (zmG t)=some []:=by
  unfold zmG;generalize t.items=ks;induction ks with
  |nil=>rfl
  |cons k ks ih=>
   rw[List.flatMap_cons,zmI];have:=zob h.fm.right (t.nodes.length+1) k [];unfold wNd;rw[this];exact ih
 generalize (Lode.yQ (zfQ t)).1=L at *;obtain⟨out,op,g1,g2,g3⟩:=zn3 L.length (pE _) [] (by rw[List.take_length,hk];exact hb);have hop:op=[]:=by
  have:=congrArg List.length g2;simp only[pR,wV,gB] at this;exact pM this.symm
 subst hop;refine⟨out,?_,g3,hk⟩;unfold znt;rw[hsp,if_neg (by decide),g1];rfl
theorem zoM{t:yo}(h:Ve t)(hr:(Lode.yQ (zfQ t)).2.2=0){i p:Nat}{x y:yp}(hi:(Lode.yQ (zfQ t)).1[i]? =some x)(hp:(Lode.yQ (zfQ t)).1[p]? =some y)(hip:i<p)(hx6:x.kind=6)(hx:x.text=[40])(hy6:y.kind=6)(hy:y.text=[41]):
 ∃qia qp:Nat,x.at_=(qia:Int)/\y.at_=(qp:Int)/\qia<qp/\qp<(zfQ t).length/\∀(u:yo) (c:Int),zW (zhO (zhO (zfQ t) qia) qp)=(u,c,0)->Ve u/\QK t u=false:=by
 obtain⟨h1,h2,h3,_⟩:=Jt hr;have hk:opK ((Lode.yQ (zfQ t)).1.map kt)<=ziS t.nodes t.nodes:=by
  rw[zoz h1.k (zn6 h.fm)];exact zoI h.fm
 generalize (Lode.yQ (zfQ t)).1=L at *;obtain⟨hlen,hisb⟩:=zbB.1 h3;generalize zfQ t=s at *;obtain⟨qia,a1,a2,a3,_⟩:=znF h1 i x hi hx6 (by rw[hx];rfl);have hp':(L.eraseIdx i)[p-1]? =some y:=by
  rw[List.getElem?_eraseIdx,if_neg (by omega),show p-1+1=p by omega,hp]
 obtain⟨qp,b1,b2,b3,_⟩:=znF a3 (p-1) y hp' hy6 (by rw[hy];rfl);rw[zlS a2] at b2;rw[Nat.zero_add] at a1 b1;have hlt:qia<qp:=by
  have h5:=List.pairwise_iff_getElem.1 h1.apart.2;obtain⟨c1,rfl⟩:=gE.1 hi;obtain⟨c2,rfl⟩:=gE.1 hp;have:=h5 i p c1 c2 hip;omega
 refine⟨qia,qp,a1,b1,hlt,b2,fun u c hu=>?_⟩;have hll:(zhO (zhO s qia) qp).length=s.length:=by rw[zlS (by rw[zlS a2];exact b2),zlS a2]
 have hchk:(qr (zhO (zhO s qia) qp)).2=0:=zbB.2 ⟨by rw[hll];exact hlen,znG (znG hisb)⟩;have hel:((L.eraseIdx i).eraseIdx (p-1)).length<=1200:=by
  have e1:=(List.eraseIdx_sublist L i).length_le;have e2:=(List.eraseIdx_sublist (L.eraseIdx i) (p-1)).length_le;omega
 have hrd:=zeY hchk b3 hel;obtain⟨_,st,hst⟩:=zhG hu;refine⟨hst.well,?_⟩;have hpg:=hst.pg;rw[hrd] at hpg;have hc:=zpF hpg;have e1:=zoJ (L.eraseIdx i) (p-1);have e2:=zpb hi (by unfold zjS kt;rw[hx6,hx];rfl);have hc':ziS st.nodes st.nodes<=opK (((L.eraseIdx i).eraseIdx (p-1)).map kt):=hc;cases hs:QK t u with
 |false=>rfl
 |true=>
  unfold QK at hs;simp only[pG,pH] at hs;have hn:u.nodes=st.nodes:=by rw[hst.eq]
  have e3:ziS t.nodes t.nodes=ziS st.nodes st.nodes:=by
   rw[<-zoB t.nodes,hs.2,zoB,hn]
  omega
end
end
section
open Go.RowKit Lode Go.Shelf
attribute [local go_sem ↓] Go.wp_at_zero Go.wp_at_succ
open Go.Proofs.Tryz
theorem zom{t:yo}(h:Ve t)(hr:¬(Lode.yQ (zfQ t)).2.2=0):YZ t=([],5):=by
 rw[znn h.qr];unfold Yb;rw[if_pos hr]
theorem zol{t:yo}(h:Ve t)(hr:(Lode.yQ (zfQ t)).2.2=0):YZ t=(zfQ t,0):=by
 rw[znn h.qr];unfold Yb;rw[if_neg (by simp[hr])]
def zpN(n:Nat)(wb:World)(iv:Value)(wr:World):Prop:=∃i:Nat,i<=n/\iv=.int .i64 i/\Below wb.heap.size wb wr
theorem zpW{T:List UInt8}{qia qp:Nat}(h:qia<qp)(h2:qp<T.length):(⟨T.toArray⟩:ByteArray).extract 0 qia ++ ⟨#[32]⟩ ++ (⟨T.toArray⟩:ByteArray).extract (qia+1) qp ++ ⟨#[32]⟩ ++ (⟨T.toArray⟩:ByteArray).extract (qp+1) T.length=⟨(zhO (zhO T qia) qp).toArray⟩:=by
 refine ByteArray.ext ?_;simp only[ByteArray.data_append,Go.Lib.extract_data];rw[<-Array.toList_inj];unfold zhO;have e1:(T.take qia ++ 32 :: T.drop (qia+1)).take qp=T.take qia ++ 32 :: (T.drop (qia+1)).take (qp-qia-1):=by
  rw[List.take_append,wU,Nat.min_eq_left (by omega),List.take_of_length_le (by rw[wU];omega),show qp-qia=(qp-qia-1)+1 by omega,List.take_succ_cons];rfl
 have e2:(T.take qia ++ 32 :: T.drop (qia+1)).drop (qp+1)=T.drop (qp+1):=by
  rw[List.drop_append,wU,Nat.min_eq_left (by omega),List.drop_of_length_le (by rw[wU];omega),wJ,show qp+1-qia=(qp-qia)+1 by omega,List.drop_succ_cons,List.drop_drop];congr 1;omega
 rw[e1,e2];simp[List.take_of_length_le,Nat.sub_sub]
theorem zoN(s:ByteArray)(w:World)(hG:qH w)(mm:Int)(hm:w.cell? ⟨1,0,none⟩=some (.int .i64 mm)):Calls prog 9 #[.string s] w (kQ w (.bool true)):=by
 have hKn:=zi (fun W (hW:Below w.heap.size w W)=>zd3 W (hG.later hW));have HP:=zi (zfj s w hG);have hwell:(pdT s.data.toList).2=true->Ve (pdT s.data.toList).1:=fun h=>by
  unfold pdT at h ⊢;split at h
  ·cases h
  ·rename_i hl;rw[if_neg hl];have h0:(zW s.data.toList).2.2=0:=by simpa using h
   obtain⟨h1,st,hp⟩:=zhG (s:=s.data.toList) (t:=(zW s.data.toList).1) (p:=(zW s.data.toList).2.1) (by rw[<-h0]);exact hp.well
 have HG:=zi hG;have Hm:=zi hm;generalize pdT s.data.toList=r at *;obtain⟨t,ok⟩:=r;simp only at hwell;clear hG hm;by_cases hc:ok=true/\s.size<=400
 ·obtain⟨rfl,h400⟩:=hc;have hc4:¬((400:Int)<(s.size:Int)):=by omega
  have hW:=hwell rfl;obtain⟨hok,hkm⟩:=zeG hW;have HO:=zi (fun (nv iv:Value) W (hT:TRo W nv iv t)=>ze4 t nv iv W hT (by have:=hW.n;omega) (by have:=hW.i;omega) (fun y hy=>by have:=hkm y hy;omega));have HPr:=zi (fun (nv iv:Value) W (hT:TR W nv iv t) (hb:Below w.heap.size w W)=>zay t nv iv W hT (HG.out.later hb) hok);obtain⟨nl,hnl⟩:∃k,t.nodes.length=k:=⟨_,rfl⟩;obtain⟨il,hil⟩:∃k,t.items.length=k:=⟨_,rfl⟩;have Hnl:=zi hnl;have Hil:=zi hil;clear hwell hnl hil;by_cases hrd:(Lode.yQ (zfQ t)).2.2=0
  ·obtain⟨hrg,hL1200,hchk,_⟩:=Jt hrd;obtain⟨out,hnest,hinv,_⟩:=zok hW hrd;have hlaw:=fun (i p:Nat) (x y:yp)=>zoM (i:=i) (p:=p) (x:=x) (y:=y) hW hrd
   rw[zol hW hrd] at HPr;have hlen:=(zbB.1 hchk).1;have HRt:=zi (fun (W:World) (hb:Below w.heap.size w W)=>(show Calls prog 12 #[.string ⟨(zfQ t).toArray⟩] W (zk3 (Lode.yQ (zfQ t)) W) from Zf ⟨(zfQ t).toArray⟩ W (by show (zfQ t).length<=_;omega) (HG.out.later hb)));generalize zfQ t=T at *;generalize Lode.yQ T=R at *;obtain⟨L,ra,re⟩:=R;simp only at hrd hL1200 hnest hinv hlaw hrg;subst hrd;have HN:=zi (fun (v:Value) (W:World) (hv:TSl W v L) (hb:Below w.heap.size w W)=>(show Calls prog 27 #[v] W (zpq (out,0) W) from hnest▸zoL v L W hv (by omega) (fun x hx=>pN (ZR (hrg.k.allSpelt _ (List.mem_map_of_mem hx))) (by omega)) (HG.out.later hb) mm (zj hb Hm.out)));have hpar:=fun (i:Nat) (x:yp)=>zpQ (i:=i) (t:=x) hinv
   have hol:=hinv.len;obtain⟨len,hln⟩:∃k,L.length=k:=⟨_,rfl⟩;rw[hln] at hL1200 hol hpar;have Hln:=zi hln;have Hol:=zi hol;have Hlaw:=zi hlaw;have Hpar:=zi hpar;have HW:=zi hW;have HAl:=zi (fun (u:yo) (nv iv nv2 iv2:Value) W (ha:TRo W nv iv t) (hb:TRo W nv2 iv2 u) (h:Below w.heap.size w W) (hu:Ve u)=>zgP t u nv iv nv2 iv2 W ha hb (HG.out.later h) HW.out hu);have HPs:=zi (fun (Z:List UInt8) W (hb:Below w.heap.size w W) (hz:Z.length<=3000)=>(show Calls prog 14 #[.string ⟨Z.toArray⟩] W (Qz (zW Z) W) from kW ⟨Z.toArray⟩ W (by show Z.length<=_;omega) (HG.out.later hb)));clear hW hok hkm hrg hchk hnest hinv hlaw hpar hol hln;go_enter func9,ntmps9;go_wp2_with fail;refine HP.out.mono ?_;rintro e w1 ⟨hb1,nv,iv,rfl,hT⟩;obtain⟨p1,c1,q1,d1,rfl,rfl⟩:=hT.o.form;simp only at hT;rw[Hnl.out,Hil.out] at hT ⊢;have hz:=zk w1 (.cells #[.slice none 0 0,.slice none 0 0] 26 (0,0));have e0:=zd hz 0;have e1:=zd hz 1;have f0:=zl hz 0;have f1:=zl hz 1;have hA:=zf w1 (.cells #[.slice p1 nl c1,.slice q1 il d1] 26 (0,0));have hW1:=zi (zg hb1 hA);have HT:=zi (hT.below hA);have hbox:=zi (zk w1 (.cells #[.slice p1 nl c1,.slice q1 il d1] 26 (0,0)));have b0:=zd hbox.out 0;have b1:=zd hbox.out 1;clear hz hA hT hb1 HP;go_wp2_with fail;refine (HO.out _ _ _ HT.out.o).mono ?_;rintro e w2 ⟨nv2,iv2,rfl,⟨kv2,O2⟩,hb2⟩;have hw2:=zi (zg hW1.out hb2);have R2:=zi (zh hb2 hbox.out);have T2:=zi (HT.out.below hb2);have hX:=zi (HPr.out _ _ _ O2.tr hw2.out);obtain⟨poO,cO,qoO,dO,rfl,rfl⟩:=O2.tr.form;clear b0 b1 e0 e1 f0 f1 hbox HT O2 hb2;go_wp2_with fail;refine hX.out.mono ?_;rintro e w3 ⟨rfl,hb3⟩;have hw3:=zi (zg hw2.out hb3);have R3:=zi (zh hb3 R2.out);have T3:=zi (T2.out.below hb3);clear hX hb3 R2 T2 hw2;go_wp2_with fail;refine (HRt.out _ hw3.out).mono ?_;rintro e w4 ⟨v4,rfl,ht4,hb4⟩;obtain⟨p4,cp4,hv4,hc4'⟩:=ht4.sl;subst hv4;have hA5:=zf w4 (.cells #[] 37 (0,0));have HO1:=zi (ht4.osc.later hA5);have HO2:=zi (show kl (w4.alloc (.cells #[] 37 (0,0))) w4.heap.size (.slice (some ⟨w4.heap.size,0,none⟩) 0 0) [] from zg6 w4 w4.heap.size (pE _));have hsz4:w4.heap.size<=(w4.alloc (.cells #[] 37 (0,0))).heap.size:=by simp
   have hw4:=zi (zg hw3.out hb4);have R4:=zi (zh hb4 R3.out);have T4:=zi (T3.out.below hb4);have C4:=zi hc4';clear ht4 hb4 hA5 R3 T3 hw3 hc4';go_wp2_with (at_builtin;go_loud (refine zdj rfl _ _ rfl w4.heap.size _ [] rfl HO2.out _ L rfl HO1.out (by have:=Hln.out;simp;omega) hsz4 ?_));intro v5 w5 hT5 hg5;have hb5:=zi (vJ (zf w4 (.cells #[] 37 (0,0))) HO2.out hg5);have hw5:=zi (zg hw4.out hb5.out);have hT5':=zi hT5.sl;clear hg5 hT5 HO1 HO2 hsz4;go_wp2_with fail;refine (HN.out v5 w5 hT5'.out hw5.out).mono ?_;rintro e w6 ⟨hns,hb6⟩;rcases hns with⟨_,gn,rfl,hgn⟩|⟨h,_⟩;rotate_left
   ·exact absurd rfl h
   have hb46:=zg hb5.out hb6;have hw6:=zi (zg hw5.out hb6);have R6:=zi (zh hb46 R4.out);have T6:=zi (T4.out.below hb46);have B46:=zi hb46;have Hgn:=zi hgn;clear hb6 hb46 hgn hT5' hb5 hw5 R4 T4;simp only;rw[Hln.out,Hol.out];have hst:=zi (show zpN len w6 (.int .i64 0) w6 from ⟨0,pU _,rfl,pF _ _⟩);go_wp2;go_loopw [12] (zpN len w6) (fun i _=>len-(intOf i).toNat)
   case atStart=>exact hst.out
   case round=>
    obtain⟨i,hi,rfl,hb⟩:=hrel
    rename World=>w7
    have hb7:=zi hb;have hw7:=zi (zg hw6.out hb);by_cases hil:i<len
    ·have hil':(i:Int)<(len:Int):=by omega
     have hi0:¬((i:Int)<0):=by omega
     have hyi:=pJ ((i:Int)+1) (by omega);have hiL:i<L.length:=by rw[Hln.out];omega
     have hL0:L≠[]:=fun e=>by rw[e] at hiL;exact wG _ hiL
     obtain⟨g4,hp4,q4⟩:=C4.out.resolve_left hL0;subst hp4;obtain⟨x,hx⟩:∃x,L[i]? =some x:=⟨_,glE hiL⟩;have hxe:L[i]=x:=(gE.1 hx).2;obtain⟨i0,i1,i2⟩:=q4 i hiL;rw[hxe] at i0 i1 i2;have B47:=zi (zg B46.out hb);obtain⟨v,hv⟩:∃v,out[i]? =some v:=⟨_,glE (by rw[Hol.out];omega)⟩;have n0:w7.cell? ⟨gn,i,none⟩=some (.int .i64 v):=(zd (zh hb Hgn.out) i).trans (by simp[zna,hv]);obtain⟨xk,xtt,xa⟩:=x;simp only at i0 i1 i2;have i0:=zj B47.out i0;have i1:=zj B47.out i1;have i2:=zj B47.out i2;clear hxe hb;by_cases h6:xk=6
     ·subst h6;by_cases h40:xtt=[40]
      ·subst h40;obtain⟨p,y,r1,r2,r3,r4,r5,r6⟩:=Hpar.out i _ hx rfl rfl;rw[hv] at r1;obtain rfl:v=(p:Int):=Option.some.inj r1;obtain⟨qia,qp,s1,s2,s3,s4,s5⟩:=Hlaw.out i p _ y hx r4 r2 rfl rfl r5 r6;have hpL:p<L.length:=by rw[Hln.out];omega
       obtain⟨_,_,j2⟩:=q4 p hpL;have hye:L[p]=y:=(gE.1 r4).2;rw[hye,s2] at j2;have j2:=zj B47.out j2;simp only at s1;subst s1;have z1:¬((p:Int)<=(i:Int)):=by omega
       have z2:¬((len:Int)<=(p:Int)):=by omega
       have z3:¬((T.length:Int)<=(qp:Int)):=by omega
       have z4:¬((qia:Int)<0):=by omega
       have z5:¬((qp:Int)<=(qia:Int)):=by omega
       have z6:¬((p:Int)<0):=by omega
       have z7:(p:Int)<(len:Int):=by omega
       have z8:¬((qp:Int)<0):=by omega
       have y1:=pJ ((qia:Int)+1) (by omega);have y2:=pJ ((qp:Int)+1) (by omega);have k1:decide (p<=i)=false:=wR (by omega);have k2:decide (len<=p)=false:=wR (by omega);have k3:decide (T.length<=qp)=false:=wR (by omega);have k4:decide ((qia:Int)<0)=false:=wR z4;have k5:decide (qp<=qia)=false:=wR (by omega);have S5:=zi s5;have hS:∀V,(zj9 w7.heap.size).rel w7.drew V->(V.cell? ⟨g4,i*3+2,none⟩=some (.int .i64 qia)/\V.cell? ⟨g4,p*3+2,none⟩=some (.int .i64 qp)):=fun V h=>⟨zj (w:=w7.drew) h i2,zj (w:=w7.drew) h j2⟩
       clear hx hv r1 r4 r5 r6 hye s5 q4;go_wp2_with fail;refine LodeX.jm (RR:=zj9 w7.heap.size) (Xp:=fun _ _=>False) [(0,0),(1,0),(2,0),(3,0),(4,0),(5,0),(6,0),(7,0),(8,0),(9,0),(10,0),(11,0),(12,0),(13,0),(14,1),(15,0),(16,0),(17,0),(18,0),(19,0),(20,0),(21,0),(22,0),(23,0),(24,1),(25,0),(26,0),(27,0),(28,0),(29,0),(30,0),(31,0),(32,1),(33,0),(34,0),(35,0),(36,0),(37,1),(38,0),(39,0)] ?_;refine LodeX.qT ?_
       try simp only[k1,k2,k3,k4,k5]
       refine LodeX.qT ?_
       try simp only[k1,k2,k3,k4,k5]
       refine LodeX.qT ?_
       try simp only[k1,k2,k3,k4,k5]
       refine LodeX.qT ?_
       try simp only[k1,k2,k3,k4,k5]
       refine LodeX.qT ?_;refine LodeX.zC fun W6 hW6=>?_
       cases hW6;have B8:Below w7.heap.size w7 w7.drew:=(pF _ w7).drew;generalize hw8:w7.drew=w8 at *;have i2:=zj B8 i2;have j2:=zj B8 j2;have hb8:=zi (zg hb7.out B8);have hw8':=zi (zg hw7.out B8);clear hw8 hS;have x1:¬((T.length:Int)<(qia:Int)):=by omega
       have x2:¬((qp:Int)<(qia:Int)+1):=by omega
       have x3:¬((T.length:Int)<(qp:Int)):=by omega
       have x4:¬((T.length:Int)<(qp:Int)+1):=by omega
       have hS:∀V,(zj9 w8.heap.size).rel w8.drew V->(V.cell? ⟨g4,i*3+2,none⟩=some (.int .i64 qia)/\V.cell? ⟨g4,p*3+2,none⟩=some (.int .i64 qp)):=fun V h=>⟨zj (w:=w8.drew) h i2,zj (w:=w8.drew) h j2⟩
       go_wp2_with fail;refine LodeX.jm (RR:=zj9 w8.heap.size) (Xp:=fun _ _=>False) [(0,0),(1,0),(2,0),(3,0),(4,0),(5,1),(6,0),(7,0),(8,0),(9,0),(10,0),(11,0),(12,0),(13,1),(14,0),(15,0),(16,0),(17,0),(18,0),(19,1),(20,0),(21,0),(22,0),(23,0),(24,0),(25,0),(26,0),(27,0),(28,1),(29,0),(30,0),(31,0),(32,0)] ?_;refine LodeX.qT ?_;refine LodeX.zC fun W6 hW6=>?_
       cases hW6;have B9:Below w8.heap.size w8 w8.drew:=(pF _ w8).drew;generalize hw9:w8.drew=w9 at *;have hb9:=zi (zg hb8.out B9);have hw9':=zi (zg hw8'.out B9);clear hw9 hS i2 j2 B8 B9 hb8 hw8' n0 i0 i1;have hstr:=zpW s3 s4;have hbl:(zhO (zhO T qia) qp).length=T.length:=by rw[zlS (by rw[zlS (by omega)];exact s4),zlS (by omega)]
       have HPz:=zi (HPs.out (zhO (zhO T qia) qp) w9 hw9'.out (by rw[hbl];exact hlen));rw[<-hstr] at HPz;have S5':=zi (S5.out);clear S5 hstr hbl;generalize zhO (zhO T qia) qp=Z at *;have hb9T:=zi (zh (zg hb9.out (pF _ w9)) R6.out);have T9:=zi (T6.out.below hb9.out);go_wp2_with fail;refine HPz.out.mono ?_;rintro e w10 ⟨hb10,nvA,ivA,rfl,hTA⟩;obtain⟨pA1,cA,qA1,dA,rfl,rfl⟩:=hTA.o.form;generalize zW Z=r9 at *;obtain⟨u,cz,ez⟩:=r9;simp only at hTA S5';obtain⟨n2,hn2⟩:∃k,u.nodes.length=k:=⟨_,rfl⟩;obtain⟨i2',hi2⟩:∃k,u.items.length=k:=⟨_,rfl⟩;have Hn2:=zi hn2;have Hi2:=zi hi2;clear hn2 hi2;simp only;rw[Hn2.out,Hi2.out] at hTA ⊢;have hz:=zk w10 (.cells #[.slice none 0 0,.slice none 0 0] 26 (0,0));have e0:=zd hz 0;have e1:=zd hz 1;have f0:=zl hz 0;have f1:=zl hz 1;have hA:=zf w10 (.cells #[.slice pA1 n2 cA,.slice qA1 i2' dA] 26 (0,0));have hbA:=zg hb10 hA;have hwA:=zi (zg hw9'.out hbA);have hbB:=zi (zg hb9.out hbA);have RA:=zh hbA hb9T.out;have TA':=zi (T9.out.below hbA);have UA:=zi (hTA.below hA);have SA:=zk w10 (.cells #[.slice pA1 n2 cA,.slice qA1 i2' dA] 26 (0,0));have b0:=zd RA 0;have b1:=zd RA 1;have g0:=zd SA 0;have g1:=zd SA 1;clear hz hA hTA hb10 hbA RA SA HPz;by_cases hez:ez=0
       ·subst hez;obtain⟨hWu,hsu⟩:=S5'.out u cz rfl;have hAl:=zi (HAl.out u _ _ _ _ _ TA'.out.o UA.out.o hwA.out hWu);rw[hsu] at hAl;go_wp2_with fail;refine hAl.out.mono ?_;rintro e wB1 ⟨rfl,hbC⟩;have hbD:=zi (zg hbB.out hbC);go_wp2;go_roundw
        case rel=>exact⟨i+1,by omega,by go_num,hbD.out⟩
        case measure=>simp[intOf];omega
       ·have hez':¬((ez:Int)=0):=by omega
        go_wp2;go_roundw
        case rel=>exact⟨i+1,by omega,by go_num,hbB.out⟩
        case measure=>simp[intOf];omega
      ·have hne:(xtt == [40])=false:=by simpa using h40
       go_wp2;go_roundw
       case rel=>exact⟨i+1,by omega,by go_num,hb7.out⟩
       case measure=>simp[intOf];omega
     ·have h6':¬((xk:Int)=6):=by omega
      go_wp2;go_roundw
      case rel=>exact⟨i+1,by omega,by go_num,hb7.out⟩
      case measure=>simp[intOf];omega
    ·have hil':¬((i:Int)<(len:Int)):=by omega
     go_wp2_with fail;refine (hKn.out _ hw7.out).mono ?_;rintro e w9 ⟨rfl,hb9⟩;have hw9:=zg hw7.out hb9;go_wp2;go_ret;exact⟨rfl,hw9⟩
  ·have hpn:=zom hW hrd;rw[hpn] at HPr;clear hrd hW hok hkm hpn;go_enter func9,ntmps9;go_wp2_with fail;refine HP.out.mono ?_;rintro e w1 ⟨hb1,nv,iv,rfl,hT⟩;obtain⟨p1,c1,q1,d1,rfl,rfl⟩:=hT.o.form;simp only at hT;rw[Hnl.out,Hil.out] at hT ⊢;have hz:=zk w1 (.cells #[.slice none 0 0,.slice none 0 0] 26 (0,0));have e0:=zd hz 0;have e1:=zd hz 1;have f0:=zl hz 0;have f1:=zl hz 1;have hA:=zf w1 (.cells #[.slice p1 nl c1,.slice q1 il d1] 26 (0,0));have hW1:=zi (zg hb1 hA);have HT:=zi (hT.below hA);have hbox:=zi (zk w1 (.cells #[.slice p1 nl c1,.slice q1 il d1] 26 (0,0)));have b0:=zd hbox.out 0;have b1:=zd hbox.out 1;clear hz hA hT hb1 HP;go_wp2_with fail;refine (HO.out _ _ _ HT.out.o).mono ?_;rintro e w2 ⟨nv2,iv2,rfl,⟨kv2,O2⟩,hb2⟩;have hw2:=zi (zg hW1.out hb2);have hX:=zi (HPr.out _ _ _ O2.tr hw2.out);obtain⟨poO,cO,qoO,dO,rfl,rfl⟩:=O2.tr.form;clear b0 b1 e0 e1 f0 f1 hbox HT O2 hb2;go_wp2_with fail;refine hX.out.mono ?_;rintro e w3 ⟨rfl,hb3⟩;have hw3:=zi (zg hw2.out hb3);clear hX hb3;go_wp2_with fail;refine (hKn.out _ hw3.out).mono ?_;rintro e w9 ⟨rfl,hb9⟩;have hw9:=zg hw3.out hb9;go_wp2;go_ret;exact⟨rfl,hw9⟩
 ·go_enter func9,ntmps9;go_wp2_with fail;refine HP.out.mono ?_;rintro e w1 ⟨hb1,nv,iv,rfl,hT⟩;obtain⟨p1,c1,q1,d1,rfl,rfl⟩:=hT.o.form;simp only at hT;generalize t.nodes.length=nl at *;generalize t.items.length=il at *;have hz:=zk w1 (.cells #[.slice none 0 0,.slice none 0 0] 26 (0,0));have e0:=zd hz 0;have e1:=zd hz 1;have f0:=zl hz 0;have f1:=zl hz 1;have hA:=zf w1 (.cells #[.slice p1 nl c1,.slice q1 il d1] 26 (0,0));have hW1:=zi (zg hb1 hA);clear hz hA hT hb1 HP hwell;cases ok
  ·go_wp2_with fail;refine (hKn.out _ hW1.out).mono ?_;rintro e w9 ⟨rfl,hb9⟩;have hw9:=zg hW1.out hb9;go_wp2;go_ret;exact⟨rfl,hw9⟩
  ·have hs':(400:Int)<(s.size:Int):=by
    have h4:¬s.size<=400:=fun h=>hc ⟨rfl,h⟩
    omega
   go_wp2_with fail;refine (hKn.out _ hW1.out).mono ?_;rintro e w9 ⟨rfl,hb9⟩;have hw9:=zg hW1.out hb9;go_wp2;go_ret;exact⟨rfl,hw9⟩
end
end Go.Proofs.YtnncmdpopgkibaaGreatDoor
