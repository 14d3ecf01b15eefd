/-
  A part of the proof: contracts of functions; no conditions.
-/
import Derived.Test.YtnncmdpopgkibaaGreatDoorNA
import Derived.Lib.AtoiAll
import Derived.Lib.ItoaNum
import GoSem.Op.String
import Derived.Lib.LastIndexByte
import Derived.Lib.Bytealg
import Derived.Laws.Runes
import Derived.Deep.RegionHeld3
import Derived.Deep.DrawnRows
import Derived.Deep.AppendLies
import Derived.Maps.Range
import Derived.WalkMore
import Derived.Deep.LoopGhost
import Derived.Shelf.Strings.BuilderF
import Derived.Test.YtnncmdpopgkibaaGreatDoorProg
import Derived.WalkKit
import Derived.WalkLawsBesides
import Derived.WalkSpells
import Derived.Lib.ConvBytes
import Derived.Shelf.Abstract
import Derived.Deep.RegionWith
import Derived.Deep.Light
import Derived.Deep.QuietTactic
import Derived.BigQuiet
import Derived.Shelf.Strings.Builder1
import Derived.Shelf.Strings.Builder2
import Derived.Shelf.Strings.OnBuilder
import Derived.Shelf.Small.Strs
import Derived.Shelf.Small.Wraps
import Derived.Shelf.Strconv.Atoi
import Derived.Shelf.Strconv.Itoa0
import Derived.Shelf.Strconv.Itoa1
import Derived.Shelf.LaysM
import Derived.Shelf.Strconv.Itoa2
import Derived.Shelf.Strconv.Itoa3
import Derived.Shelf.Strconv.AtoiErrFast
import Derived.Shelf.Strconv.ParseIntEmpty
import Derived.Shelf.Strconv.AtoiFail
import Derived.Shelf.Strconv.Clone
import Derived.Shelf.Strconv.SyntaxError
import Derived.Shelf.LaysC
import Derived.Shelf.Strconv.ToError
import Derived.Shelf.Strconv.Lower
import Derived.Shelf.Strconv.ParseUint10
import Derived.Shelf.Strconv.ParseUint10Empty
import Derived.Shelf.Strconv.ParseUint10Any
import Derived.Shelf.Strconv.ParseInt10
import Derived.Shelf.Strconv.AtoiLong
import Derived.Shelf.Strconv.AtoiInnerAll
import Derived.Shelf.Strconv.RangeError
import Derived.Shelf.Strconv.ToErrorRange
import Derived.Shelf.Strconv.AtoiAll
import Derived.Shelf.Strconv.ErrVarAll
import Derived.Shelf.Strings.Search1
import Derived.Shelf.Strings.Search2
import Derived.Shelf.Strings.Search3
import Derived.Shelf.Strings.Shaped
import Derived.Shelf.Strings.Prefix
import Derived.Shelf.Strings.Fields
import Derived.Shelf.Strings.SplitShaped
import Derived.Shelf.Unicode.Latin
import Derived.Shelf.Bits.Mul64
import Derived.Shelf.Unicode.Is16White
import Derived.Shelf.Unicode.IsSpaceAny
import Derived.Shelf.Unicode.Is16Any
import Derived.Shelf.Unicode.Is32Any
import Derived.Shelf.Unicode.ExclAny
import Derived.Shelf.Slices.Turned
import Derived.Shelf.Slices.Reverse
import Derived.Shelf.Slices.Equal
import Derived.Ground.Names2Prog
import Derived.Shelf.Slices.Clone
import Derived.Shelf.Slices.Cells
import Derived.Shelf.Slices.Empties2
import Derived.Ground.SlgnProg
import Derived.Shelf.SlicesE.Index
import Derived.Shelf.SlicesE.Clone
import Derived.Lib.AppendIntMem
import Derived.Shelf.RegionOpen
import Derived.OwnWalkIn
import Derived.TacticsInMore
import Derived.LoopNIn
import Derived.LoopIn
import Derived.Deep.Onto
import Derived.Lib.QuietBelow
import Derived.RegionTactic
import Derived.Still
import Derived.RangeFuncNested
import Derived.RangeFuncBound
import Derived.RangeFuncCalls
import Derived.RangeFuncLeaves
import Derived.RangeFuncKeeps
import Derived.Deep.MidRow
set_option maxRecDepth 100000
set_option maxHeartbeats 40000000
set_option linter.unusedSimpArgs false
set_option linter.unusedVariables false
namespace Lode
section
variable {l l':List Nd} {pr pr':Int→List UInt8} {φ:Int→Int}
theorem zni{k:Nat}(h:yz k=true):k∈[1,2,3,4,5,6,7,8,9,10,11,12,13,14,15,16,17,18,19,20,21,22,23,24,25,26,27,28,29,30,31,32,33,34,35,36,37,38,39,40,41,42,43,44,45,46,47,48,49,50,51,60,61,62,63,64,65,66,67,68,69,70,80,81,82,83,84,85,86,87,88,89,100,101,102,103,104]:=by
 have:∀k,k<=104->yz k=true->k∈[1,2,3,4,5,6,7,8,9,10,11,12,13,14,15,16,17,18,19,20,21,22,23,24,25,26,27,28,29,30,31,32,33,34,35,36,37,38,39,40,41,42,43,44,45,46,47,48,49,50,51,60,61,62,63,64,65,66,67,68,69,70,80,81,82,83,84,85,86,87,88,89,100,101,102,103,104]:=by decide +kernel
 exact this k (uH h) h
end
abbrev Pc:=List UInt8×Option (Nat×List UInt8)
def kwd(s:List UInt8):Pc:=(s,some (5,s))
def sg(s:List UInt8):Pc:=(s,some (6,s))
def nm(s:List UInt8):Pc:=(s,some (1,s))
def bg(s:List UInt8):Pc:=(s,some (2,s))
def nu(n:Int):Pc:=(Go.Lib.itoa n,some (3,Go.Lib.itoa n))
def tx(s:List UInt8):Pc:=((qA s).1,some (4,s))
def sp:Pc:=([32],none)
def pcB(p:List Pc):List UInt8:=p.flatMap fun x=>x.1
def pcT(p:List Pc):List (Nat×List UInt8):=p.filterMap fun x=>x.2
theorem zld(a b:List Pc):pcB (a ++ b)=pcB a ++ pcB b:=by simp[pcB]
theorem zme:pcB []=[]:=rfl
theorem zhE(x:Pc)(b:List Pc):pcB (x :: b)=x.1 ++ pcB b:=by simp[pcB]
def zmO(s:List UInt8):Pc:=if s=[111,114]\/s=[97,110,100]\/s=[105,115] then kwd s else sg s
section
variable (l:List Nd) (pc:Int→List Pc)
def zgS(node:Int)(least:Nat):List Pc:=if qj (zE l node)<least then sg [40] :: (pc node ++ [sg [41]]) else pc node
def zmA:List (List Pc)->List Pc
 |[]=>[]
 |[x]=>x
 |x :: r=>x ++ sg [44] :: sp :: zmA r
def zgQ(k:List Int):List Pc:=zmA (k.map pc)
def ziU(k:List Int):List Pc:=if k=[] then [] else sg [40] :: (zgQ pc k ++ [sg [41]])
def zki(last:Bool):List Int->List Pc
 |[]=>[]
 |[k]=>pc k ++ (if last then [sp] else [sg [59],sp])
 |k :: r=>pc k ++ sg [59] :: sp :: zki last r
def zmd(x:Nd):List Pc:=if x.kids=[] then [sg [123],sg [125]] else sg [123] :: sp :: (zki pc (x.n != 0) x.kids ++ [sg [125]])
def zhO(x:Nd)(without:Nat):List Pc:=sg [40] :: (zgQ pc (x.kids.take (x.kids.length-1-without)) ++ sg [41] :: sg [58] :: sp :: pc (zN x (x.kids.length-1-without)))
def zm5(x:Nd):List Pc:=
 if x.kind == 60 then kwd [108,101,116] :: sp :: nm x.text :: sp :: sg [61] :: sp :: pc (zN x 0)
 else if x.kind == 61 then kwd [118,97,114] :: sp :: nm x.text :: sp :: sg [61] :: sp :: pc (zN x 0)
 else if x.kind == 62 then pc (zN x 0) ++ sp :: sg [58,61] :: sp :: pc (zN x 1)
 else if x.kind == 63 then kwd [114,101,99,118] :: sp :: (pc (zN x 0) ++ sp :: kwd [97,115] :: sp :: nm x.text :: sp :: sg [61,62] :: sp :: pc (zN x 1))
 else if x.kind == 64 then kwd [115,101,110,100] :: sp :: (zgQ pc (x.kids.take 2) ++ sp :: sg [61,62] :: sp :: pc (zN x 2))
 else kwd [101,108,115,101] :: sp :: sg [61,62] :: sp :: pc (zN x 0)
def zmE(x:Nd):List Pc:=
 if x.kind == 80 then [kwd [105,110,116]] else if x.kind == 81 then [kwd [98,111,111,108]] else if x.kind == 82 then [kwd [116,101,120,116]] else if x.kind == 83 then [kwd [117,110,105,116]]
 else if x.kind == 85 then kwd [102,110] :: zhO pc x 0
 else if x.kind == 86 then kwd [99,104,97,110] :: sp :: pc (zN x 0)
 else if x.kind == 87 then kwd [119,101,97,107] :: sp :: pc (zN x 0)
 else if x.kind == 88 then nm x.text :: sg [58] :: sp :: pc (zN x 0)
 else if x.kind == 100 then kwd [99,108,97,115,115] :: sp :: bg x.text :: sp :: sg [123] :: sp :: (zgQ pc x.kids ++ [sp,sg [125]])
 else if x.kind == 101 then kwd [107,105,110,100] :: sp :: bg x.text :: sp :: sg [123] :: sp :: (zgQ pc x.kids ++ [sp,sg [125]])
 else if x.kind == 103 then kwd [101,120,116,101,114,110] :: sp :: kwd [102,117,110] :: sp :: nm x.text :: (zhO pc x 0 ++ [sg [59]])
 else if x.kind == 104 then kwd [114,111,111,116] :: sp :: nm x.text :: sg [58] :: sp :: (pc (zN x 0) ++ sp :: sg [61] :: sp :: (pc (zN x 1) ++ [sg [59]]))
 else (if x.n == 1 then [kwd [112,117,114,101],sp] else []) ++ kwd [102,117,110] :: sp :: nm x.text :: (zhO pc x 1 ++ sp :: pc (zN x (x.kids.length-1)))
def zlV(x:Nd):List Pc:=
 if x.kind == 29 then kwd [105,102] :: sp :: (pc (zN x 0) ++ sp :: (pc (zN x 1) ++ (if x.kids.length == 3 then sp :: kwd [101,108,115,101] :: sp :: pc (zN x 2) else [])))
 else if x.kind == 30 then kwd [119,104,105,108,101] :: sp :: (pc (zN x 0) ++ sp :: pc (zN x 1))
 else if x.kind == 31 then kwd [109,97,116,99,104] :: sp :: (pc (zN x 0) ++ sp :: sg [123] :: sp :: (zgQ pc (x.kids.drop 1) ++ [sp,sg [125]]))
 else if x.kind == 32 then pc (zN x 0) ++ sp :: sg [61,62] :: sp :: pc (zN x 1)
 else if x.kind == 33 then kwd [102,110] :: (zhO pc x 1 ++ sp :: pc (zN x (x.kids.length-1)))
 else if x.kind == 34 then kwd [116,114,121] :: sp :: (pc (zN x 0) ++ sp :: kwd [99,97,116,99,104] :: sp :: nm x.text :: sp :: pc (zN x 1))
 else if x.kind == 35 then kwd [115,101,108,101,99,116] :: sp :: sg [123] :: sp :: (zgQ pc x.kids ++ [sp,sg [125]])
 else if x.kind == 36 then kwd [104,111,108,100] :: sp :: (pc (zN x 0) ++ sp :: kwd [97,115] :: sp :: nm x.text :: sp :: (pc (zN x 1) ++ sp :: kwd [101,108,115,101] :: sp :: pc (zN x 2)))
 else if x.kind == 26 then kwd [110,101,119] :: sp :: bg x.text :: sp :: sg [123] :: sp :: (zgQ pc x.kids ++ [sp,sg [125]])
 else if x.kind == 27 then nm x.text :: sg [58] :: sp :: pc (zN x 0)
 else kwd [99,104,97,110] :: sp :: (pc (zN x 0) ++ [sg [40],nu x.n,sg [41]])
def zez(x:Nd):List Pc:=
 match xE x.kind with
 |some s=>zgS l pc (zN x 0) (if qj x.kind == 4 then 5 else qj x.kind) ++ sp :: zmO s :: sp :: zgS l pc (zN x 1) (qj x.kind+1)
 |none=>
  if x.kind == 1 then [nu x.n]
  else if x.kind == 67 then (if x.n<0 then [sg [45],nu (-x.n)] else [nu x.n])
  else if x.kind == 2 || x.kind == 68 then [tx x.text]
  else if x.kind == 3 || x.kind == 69 then [if x.n == 1 then kwd [116,114,117,101] else kwd [102,97,108,115,101]]
  else if x.kind == 4 then [sg [40],sg [41]]
  else if x.kind == 5 || x.kind == 66 then [nm x.text]
  else if x.kind == 84 then [bg x.text]
  else if x.kind == 6 then sg [45] :: (if zE l (zN x 0) == 6 then sp :: pc (zN x 0) else zgS l pc (zN x 0) 7)
  else if x.kind == 7 then kwd [110,111,116] :: sp :: zgS l pc (zN x 0) 3
  else if x.kind == 23 then zgS l pc (zN x 0) 8 ++ [sg [46],nm x.text]
  else if x.kind == 24 then (if zE l (zN x 0) == 25 && ((l[(zN x 0).toNat]?).elim [] Nd.kids).isEmpty then sg [40] :: (zgS l pc (zN x 0) 8 ++ [sg [41]]) else zgS l pc (zN x 0) 8) ++ sg [40] :: (zgQ pc (x.kids.drop 1) ++ [sg [41]])
  else if x.kind == 25 || x.kind == 70 || x.kind == 89 then bg x.text :: ziU pc x.kids
  else if x.kind == 28 then zmd pc x
  else match zM.find? fun w=>w.2.1 == x.kind with
   |some w=>if w.2.2<0 then kwd w.1 :: sp :: zgS l pc (zN x 0) 7 else if w.2.2 == 0 then [kwd w.1] else kwd w.1 :: sg [40] :: (zgQ pc x.kids ++ [sg [41]])
   |none=>
    if decide (60<=x.kind) && decide (x.kind<=65) then zm5 pc x
    else if 80<=x.kind then zmE pc x
    else zlV pc x
end
def pcN(l:List Nd):Nat->Int->List Pc
 |0,_=>[]
 |f+1,node=>match l[node.toNat]? with
  |some x=>zez l (pcN l f) x
  |none=>[]
section
variable {l:List Nd} {pc:Int→List Pc} {pr:Int→List UInt8} (H:∀k,pcB (pc k)=pr k)
include H
theorem zoY(k:Int)(r:Nat):pcB (zgS l pc k r)=jq l pr k r:=by
 unfold zgS jq;split
 ·simp[zhE,zld,zme,H,sg]
 ·exact H k
theorem zoG:∀(ks:List Int),pcB (zmA (ks.map pc))=kZ (ks.map pr)
 |[]=>rfl
 |[k]=>H k
 |k :: j :: r=>by
  show pcB (pc k ++ sg [44] :: sp :: zmA ((j :: r).map pc))=pr k ++ [44,32] ++ kZ ((j :: r).map pr)
  rw[zld,H k,zhE,zhE,zoG (j :: r)];simp[sg,sp]
theorem zo0(ks:List Int):pcB (zgQ pc ks)=xY pr ks:=zoG H ks
theorem znz(last:Bool):∀(ks:List Int),pcB (zki pc last ks)=qo pr last ks
 |[]=>rfl
 |[k]=>by
  show pcB (pc k ++ _)=pr k ++ _ ++ _
  rw[zld,H k];cases last <;> simp[zhE,zme,sg,sp]
 |k :: j :: r=>by
  show pcB (pc k ++ sg [59] :: sp :: zki pc last (j :: r))=pr k ++ [59] ++ [32] ++ qo pr last (j :: r)
  rw[zld,H k,zhE,zhE,znz last (j :: r)];simp[sg,sp]
end
theorem zof{n:Int}(h:n<0):Go.Lib.itoa n=45 :: Go.Lib.itoa (-n):=by
 unfold Go.Lib.itoa;rw[if_pos h,if_neg (by omega),show n.natAbs=(-n).toNat by omega]
section
variable {l:List Nd} {pc:Int→List Pc} {pr:Int→List UInt8} (H:∀k,pcB (pc k)=pr k)
include H
theorem zoJ{k:Nat}{t:List UInt8}{n:Int}{ks:List Int}{a:Int}(hkn:yz k=true):pcB (zez l pc ⟨k,t,n,ks,a⟩)=yU l pr ⟨k,t,n,ks,a⟩:=by
 have hq:=fun (k:Int) r=>zoY (l:=l) H k r
 have ha:=fun ks=>zo0 H ks
 have hs:=fun last ks=>znz H last ks
 have hm:=zni hkn;clear hkn;simp only[wD,wH,or_false] at hm;rcases hm with rfl|rfl|rfl|rfl|rfl|rfl|rfl|rfl|rfl|rfl|rfl|rfl|rfl|rfl|rfl|rfl|rfl|rfl|rfl|rfl|rfl|rfl|rfl|rfl|rfl|rfl|rfl|rfl|rfl|rfl|rfl|rfl|rfl|rfl|rfl|rfl|rfl|rfl|rfl|rfl|rfl|rfl|rfl|rfl|rfl|rfl|rfl|rfl|rfl|rfl|rfl|rfl|rfl|rfl|rfl|rfl|rfl|rfl|rfl|rfl|rfl|rfl|rfl|rfl|rfl|rfl|rfl|rfl|rfl|rfl|rfl|rfl|rfl|rfl|rfl|rfl|rfl
 all_goals first
  |rfl
  |(simp[yU,zez,xE,qj,zM,jR,qe,xu,qO,Ys,vX,zm5,zmE,zlV,zhO,zmd,ziU,zld,zhE,zme,kwd,sg,nm,bg,nu,tx,sp,zmO,H,hq,ha,hs];done)
  |(simp[yU,zez,xE,qj,zM,jR,qe,xu,qO,Ys,vX,zm5,zmE,zlV,zhO,zmd,ziU,zld,zhE,zme,kwd,sg,nm,bg,nu,tx,sp,zmO,H,hq,ha,hs]
    (repeat' split) <;> simp_all [zld,zhE,zme,kwd,sg,nm,bg,nu,tx,sp,zof];done)
  |(by_cases h0:ks=[] <;> simp[yU,zez,xE,zM,Ys,zmd,zld,zhE,zme,sg,sp,hs,h0];done)
end
end Lode
namespace Go.Proofs.YtnncmdpopgkibaaGreatDoor
section
open Go.RowKit Lode
open Go.Proofs.Tryz
def Fit(P:List Pc):Prop:=∀(V:List UInt8) (ks:List (Nat×List UInt8)),QF V->XU V ks->XU (pcB P ++ V) (pcT P ++ ks)
theorem zlP:Fit []:=fun _ _ _ h=>h
theorem zlS{P Q:List Pc}(hP:Fit P)(hQ:Fit Q)(hs:∀V,QF V->QF (pcB Q ++ V)):Fit (P ++ Q):=fun V ks hV h=>by
 have e1:pcB (P ++ Q) ++ V=pcB P ++ (pcB Q ++ V):=by rw[zld,wS]
 have e2:pcT (P ++ Q) ++ ks=pcT P ++ (pcT Q ++ ks):=by simp[pcT]
 rw[e1,e2];exact hP _ _ (hs V hV) (hQ V ks hV h)
theorem zlR{Q:List Pc}(hQ:Fit Q):Fit (sp :: Q):=fun V ks hV h=>XU.gap (Z:=[32]) (r:=pcB Q ++ V) (ks:=pcT Q ++ ks) rfl (hQ V ks hV h)
theorem zom{g:List UInt8}(hg:∀V,yM (g ++ V)=some (6,g,g.length)){Q:List Pc}(hQ:Fit Q):Fit (sg g :: Q):=fun V ks hV h=>by
 have e1:pcB (sg g :: Q) ++ V=[] ++ (g ++ (pcB Q ++ V)):=by rw[zhE,wS];rfl
 have e2:pcT (sg g :: Q) ++ ks=(6,g) :: (pcT Q ++ ks):=rfl;rw[e1,e2];exact XU.tok rfl (hg _) (hQ V ks hV h)
theorem zmj{T:List UInt8}{x:Nat×List UInt8}(hx:yM T=some (x.1,x.2,T.length)){Q:List Pc}(hQ:Fit Q)(hs:∀V,QF V->QF (pcB Q ++ V)):Fit ((T,some x) :: Q):=fun V ks hV h=>by
 have e1:pcB ((T,some x) :: Q) ++ V=[] ++ (T ++ (pcB Q ++ V)):=by rw[zhE,wS];rfl
 have e2:pcT ((T,some x) :: Q) ++ ks=(x.1,x.2) :: (pcT Q ++ ks):=rfl;rw[e1,e2];have:=VE hx (hs V hV);rw[List.take_length] at this;exact XU.tok rfl this (hQ V ks hV h)
theorem zmR{T:List UInt8}{x:Option (Nat×List UInt8)}{Q:List Pc}{c:UInt8}{r:List UInt8}(e:T=c :: r)(h:zlh c):∀V,QF V->QF (pcB ((T,x) :: Q) ++ V):=fun V _ d z hd=>by
 subst e;rw[zhE] at hd;cases hd;exact h
theorem zjf(c:UInt8)(h1:(fun V:List UInt8=>yM (c :: V))=fun _=>some (6,[c],1)){Q:List Pc}(hQ:Fit Q):Fit (sg [c] :: Q):=zom (fun V=>congrFun h1 V) hQ
theorem zmr:(fun V:List UInt8=>yM (40 :: V))=fun _=>some (6,[40],1):=rfl
theorem zms:(fun V:List UInt8=>yM (41 :: V))=fun _=>some (6,[41],1):=rfl
theorem znj:(fun V:List UInt8=>yM (44 :: V))=fun _=>some (6,[44],1):=rfl
theorem zmx:(fun V:List UInt8=>yM (59 :: V))=fun _=>some (6,[59],1):=rfl
theorem zoj:(fun V:List UInt8=>yM (46 :: V))=fun _=>some (6,[46],1):=rfl
theorem zmy:(fun V:List UInt8=>yM (123 :: V))=fun _=>some (6,[123],1):=rfl
theorem zmw:(fun V:List UInt8=>yM (125 :: V))=fun _=>some (6,[125],1):=rfl
theorem zoi:(fun V:List UInt8=>yM (45 :: V))=fun _=>some (6,[45],1):=rfl
end
section
open Go.Proofs.Tryz
section
open Go.RowKit Lode
def ziT(Q:List Pc):Prop:=∀V,QF V->QF (pcB Q ++ V)
theorem zna:ziT []:=fun _ h=>h
theorem zmo(Q:List Pc):ziT (sp :: Q):=zmR rfl (by unfold zlh;decide)
theorem zla{c:UInt8}(h:zlh c)(Q:List Pc):ziT (sg [c] :: Q):=zmR rfl h
variable {l:List Nd} {pc:Int→List Pc}
theorem zoC{k:Int}{r:Nat}(h:Fit (pc k)):Fit (zgS l pc k r):=by
 unfold zgS;split
 ·exact zjf _ zmr (zlS h (zjf _ zms zlP) (zla (by unfold zlh;decide) _))
 ·exact h
theorem znI:∀(ks:List (List Pc)),(∀x∈ks,Fit x)->∀{Q:List Pc},Fit Q->ziT Q->Fit (zmA ks ++ Q)
 |[],_,_,hQ,_=>hQ
 |[x],h,_,hQ,hs=>zlS (h x (List.mem_singleton_self x)) hQ hs
 |x :: y :: r,h,Q,hQ,hs=>by
  have ih:=znI (y :: r) (fun z hz=>h z (pY _ hz)) hQ hs;show Fit ((x ++ sg [44] :: sp :: zmA (y :: r)) ++ Q)
  rw[wS];exact zlS (h x (List.mem_cons_self ..)) (zjf _ znj (zlR ih)) (zla (by unfold zlh;decide) _)
theorem zm7{ks:List Int}(h:∀k∈ks,Fit (pc k)){Q:List Pc}(hQ:Fit Q)(hs:ziT Q):Fit (zgQ pc ks ++ Q):=znI _ (fun x hx=>by
 obtain⟨k,hk,rfl⟩:=List.mem_map.1 hx;exact h k hk) hQ hs
theorem znU{ks:List Int}(h:∀k∈ks,Fit (pc k)):Fit (ziU pc ks):=by
 unfold ziU;split
 ·exact zlP
 ·exact zjf _ zmr (zm7 h (zjf _ zms zlP) (zla (by unfold zlh;decide) _))
theorem zm0{last:Bool}:∀{ks:List Int},(∀k∈ks,Fit (pc k))->∀{Q:List Pc},Fit Q->ziT Q->Fit (zki pc last ks ++ Q)
 |[],_,_,hQ,_=>hQ
 |[k],h,Q,hQ,hs=>by
  show Fit ((pc k ++ (if last then [sp] else [sg [59],sp])) ++ Q)
  rw[wS];cases last
  ·exact zlS (h k (List.mem_singleton_self k)) (zjf _ zmx (zlR hQ)) (zla (by unfold zlh;decide) _)
  ·exact zlS (h k (List.mem_singleton_self k)) (zlR hQ) (zmo _)
 |k :: j :: r,h,Q,hQ,hs=>by
  have ih:=zm0 (last:=last) (ks:=j :: r) (fun z hz=>h z (pY _ hz)) hQ hs;show Fit ((pc k ++ sg [59] :: sp :: zki pc last (j :: r)) ++ Q)
  rw[wS];exact zlS (h k (List.mem_cons_self ..)) (zjf _ zmx (zlR ih)) (zla (by unfold zlh;decide) _)
theorem znW{x:Nd}(h:∀k∈x.kids,Fit (pc k)):Fit (zmd pc x):=by
 unfold zmd;split
 ·exact zjf _ zmy (zjf _ zmw zlP)
 ·exact zjf _ zmy (zlR (zm0 h (zjf _ zmw zlP) (zla (by unfold zlh;decide) _)))
end
end
end Go.Proofs.YtnncmdpopgkibaaGreatDoor
namespace Lode
theorem znh(x:List UInt8)(c:UInt8):xR (x ++ [c])=10*xR x+(c.toNat-48):=by simp[xR]
theorem zm8{u:Nat}(h:u<10):(UInt8.ofNat (48+u)).toNat=48+u:=by
 simp[UInt8.toNat_ofNat'];omega
theorem zmN{u:Nat}(h:¬u<10):Go.Lib.decDigits u=Go.Lib.decDigits (u / 10) ++ [UInt8.ofNat (48+u % 10)]:=by
 conv=>lhs;rw[Go.Lib.decDigits,dif_neg h]
theorem znJ:∀u:Nat,xR (Go.Lib.decDigits u)=u:=by
 intro u;induction u using Nat.strongRecOn with
 |ind u ih=>
  by_cases h:u<10
  ·rw[Go.Lib.decDigits,dif_pos h];show 10*0+((UInt8.ofNat (48+u)).toNat-48)=u
   rw[zm8 h];omega
  ·rw[zmN h,znh,ih (u / 10) (by omega),zm8 (by omega)];omega
theorem znw:∀u:Nat,(Go.Lib.decDigits u).all yf=true:=by
 intro u;induction u using Nat.strongRecOn with
 |ind u ih=>
  have hd:∀v,v<10->yf (UInt8.ofNat (48+v))=true:=fun v hv=>by
   unfold yf;rw[zm8 hv];simp;omega
  by_cases h:u<10
  ·rw[Go.Lib.decDigits,dif_pos h,List.all_cons,hd u h];rfl
  ·rw[zmN h,List.all_append,ih (u / 10) (by omega),List.all_cons,hd (u % 10) (by omega)];rfl
theorem zoo:∀u:Nat,u=0\/∃c r,Go.Lib.decDigits u=c :: r/\c≠48:=by
 intro u;induction u using Nat.strongRecOn with
 |ind u ih=>
  by_cases h0:u=0
  ·exact .inl h0
  ·refine .inr ?_;by_cases h:u<10
   ·rw[Go.Lib.decDigits,dif_pos h];refine⟨_,[],rfl,fun e=>?_⟩;have:=congrArg UInt8.toNat e;rw[zm8 h,show (48:UInt8).toNat=48 from rfl] at this;omega
   ·rcases ih (u / 10) (by omega) with h1|⟨c,r,h1,h2⟩
    ·omega
    ·exact⟨c,r ++ [UInt8.ofNat (48+u % 10)],by rw[zmN h,h1];rfl,h2⟩
theorem zoD{u:Nat}(h:u<=1000000000):ur (Go.Lib.decDigits u)=true:=by
 unfold ur;rw[znw,znJ];rcases zoo u with rfl|⟨c,r,h1,h2⟩
 ·rw[show Go.Lib.decDigits 0=[48] by rw[Go.Lib.decDigits,dif_pos (by decide)];rfl];rfl
 ·rw[h1];simp[h,h2]
theorem zmq{n:Int}(h:0<=n):(xR (Go.Lib.itoa n):Int)=n:=by
 unfold Go.Lib.itoa;rw[if_neg (by omega),znJ];omega
theorem zoe{n:Int}(h:0<=n)(h2:n<=1000000000):ur (Go.Lib.itoa n)=true:=by
 unfold Go.Lib.itoa;rw[if_neg (by omega)];exact zoD (by omega)
end Lode
namespace Go.Proofs.YtnncmdpopgkibaaGreatDoor
section
open Go.RowKit Lode
open Go.Proofs.Tryz
theorem zm4{k:Nat}{t T:List UInt8}(h:kV k t=(T,0)):yM T=some (k,t,T.length):=by
 have:=ue h (R:=[]) (.inl fun c r e=>by cases e)
 rwa [wN] at this
theorem zok{w:List UInt8}(h:yM w=some (5,w,w.length)){Q:List Pc}(hQ:Fit Q)(hs:ziT Q):Fit (kwd w :: Q):=zmj (x:=(5,w)) h hQ hs
theorem zmW{k:Nat}{t:List UInt8}(hk:k≠4)(h:(yV k t).2=0):kV k t=(t,0):=by
 rw[zlb] at h;unfold kV at h ⊢;rw[if_neg hk] at h ⊢;split at h
 ·cases h
 ·rename_i h1;rw[if_neg h1];split at h
  ·split at h
   ·rename_i h2;rw[if_pos h2]
   ·cases h
  ·cases h
theorem zoP{t:List UInt8}(h:(yV 1 t).2=0){Q:List Pc}(hQ:Fit Q)(hs:ziT Q):Fit (nm t :: Q):=zmj (x:=(1,t)) (zm4 (zmW (k:=1) (fun e=>by cases e) h)) hQ hs
theorem zoQ{t:List UInt8}(h:(yV 2 t).2=0){Q:List Pc}(hQ:Fit Q)(hs:ziT Q):Fit (bg t :: Q):=zmj (x:=(2,t)) (zm4 (zmW (k:=2) (fun e=>by cases e) h)) hQ hs
theorem zoM{t:List UInt8}(h:(yV 4 t).2=0){Q:List Pc}(hQ:Fit Q)(hs:ziT Q):Fit (tx t :: Q):=by
 refine zmj (x:=(4,t)) (zm4 ?_) hQ hs;rw[zlb] at h;unfold kV at h ⊢;rw[if_pos rfl] at h ⊢;split at h
 ·rename_i h1;rw[if_pos h1]
 ·cases h
theorem znB{p:UInt8->Bool}:∀l:List UInt8,l.all p=true->yc p l=l.length
 |[],_=>rfl
 |c :: r,h=>by
  rw[List.all_cons,pG] at h;unfold yc;rw[if_pos h.1,znB r h.2,pK]
theorem zon{c:UInt8}(h:yf c=true):yg c=false/\YQ c=false:=by
 simp only[yf,yg,YQ,pG,pH,Bool.and_eq_false_iff,wO] at *;omega
theorem zoy{s:List UInt8}(h:ur s=true):yM s=some (3,s,s.length):=by
 have h0:=h;unfold ur at h0;simp only[pG] at h0;obtain⟨⟨⟨h1,h2⟩,_⟩,_⟩:=h0;cases s with
 |nil=>simp at h1
 |cons c r=>
  rw[List.all_cons,pG] at h2;obtain⟨n1,n2⟩:=zon h2.1;have hn:1+yc yf r=(c :: r).length:=by rw[znB r h2.2,pK];omega
  unfold yM;simp only[n1,n2,h2.1,Bool.false_eq_true,if_false,if_true];rw[hn,List.take_length,if_pos h]
theorem zoO{m:Int}(h0:0<=m)(h1:m<=1000000000){Q:List Pc}(hQ:Fit Q)(hs:ziT Q):Fit (nu m :: Q):=zmj (x:=(3,Go.Lib.itoa m)) (zoy (zoe h0 h1)) hQ hs
end
section
open Go.Proofs.Tryz
section
open Go.RowKit Lode
variable {l:List Nd} {pc:Int→List Pc}
theorem znv{g:List UInt8}(h:yM g=some (6,g,g.length)){Q:List Pc}(hQ:Fit Q)(hs:ziT Q):Fit (sg g :: Q):=zmj (x:=(6,g)) h hQ hs
theorem zol{x:Nd}{m:Nat}(h:∀k∈x.kids,Fit (pc k))(h2:Fit (pc (zN x (x.kids.length-1-m)))):Fit (zhO pc x m):=by
 unfold zhO;exact zjf _ zmr (zm7 (fun k hk=>h k (List.mem_of_mem_take hk)) (zjf _ zms (znv (g:=[58]) rfl (zlR h2) (zmo _))) (zla (by unfold zlh;decide) _))
theorem zoN{k:Nat}{s:List UInt8}(hs:xE k=some s){Q:List Pc}(hQ:Fit Q):Fit (zmO s :: sp :: Q):=by
 have hk:k=22\/k=21\/k=14\/k=15\/k=16\/k=17\/k=18\/k=19\/k=20\/k=8\/k=9\/k=10\/k=11\/k=12\/k=13:=Decidable.byContradiction fun hc=>by
  simp only[not_or] at hc;simp[xE,hc] at hs
 have key:yM s=some ((if s=[111,114]\/s=[97,110,100]\/s=[105,115] then 5 else 6),s,s.length):=by
  rcases hk with rfl|rfl|rfl|rfl|rfl|rfl|rfl|rfl|rfl|rfl|rfl|rfl|rfl|rfl|rfl <;> (obtain rfl:=Option.some.inj hs.symm;decide)
 unfold zmO;split
 ·rename_i h;rw[if_pos h] at key;exact zok key (zlR hQ) (zmo _)
 ·rename_i h;rw[if_neg h] at key;exact znv key (zlR hQ) (zmo _)
end
section
open Go.RowKit Lode
variable {l:List Nd} {pc:Int→List Pc}
theorem zoB{s:List UInt8}(hs:((List.range 23).any fun k=>xE k == some s)=true){Q:List Pc}(hQ:Fit Q):Fit (zmO s :: sp :: Q):=by
 obtain⟨k,_,h⟩:=gC.1 hs;exact zoN (pS.1 h) hQ
theorem zoA{P Q:List Pc}(hP:Fit P)(hQ:Fit Q)(hs:ziT Q):Fit (P ++ Q):=zlS hP hQ hs
theorem zmF(Q:List Pc):ziT (sg [40] :: Q):=zla (by unfold zlh;decide) _
theorem znL{x:Nd}{m:Nat}(Q:List Pc):ziT (zhO pc x m ++ Q):=zmF _
theorem znq{x:Nd}{m:Nat}:ziT (zhO pc x m):=zmF _
theorem znp{ks:List Int}:ziT (ziU pc ks):=by
 unfold ziU;split
 ·exact zna
 ·exact zmF _
theorem znV(H:∀k,Fit (pc k)){k:Nat}{t:List UInt8}{n:Int}{ks:List Int}{a:Int}(hkn:yz k=true)(ht:if xf k=0 then t=[] else (yV (xf k) t).2=0)(hn:xw k n ks.length=true):Fit (zez l pc ⟨k,t,n,ks,a⟩):=by
 have hm:=zni hkn;clear hkn;simp only[wD,wH,or_false] at hm;rcases hm with rfl|rfl|rfl|rfl|rfl|rfl|rfl|rfl|rfl|rfl|rfl|rfl|rfl|rfl|rfl|rfl|rfl|rfl|rfl|rfl|rfl|rfl|rfl|rfl|rfl|rfl|rfl|rfl|rfl|rfl|rfl|rfl|rfl|rfl|rfl|rfl|rfl|rfl|rfl|rfl|rfl|rfl|rfl|rfl|rfl|rfl|rfl|rfl|rfl|rfl|rfl|rfl|rfl|rfl|rfl|rfl|rfl|rfl|rfl|rfl|rfl|rfl|rfl|rfl|rfl|rfl|rfl|rfl|rfl|rfl|rfl|rfl|rfl|rfl|rfl|rfl|rfl
 all_goals
  simp[xw,xf] at hn ht
  try rcases hn with rfl|rfl
 all_goals
  simp[zez,xE,qj,zM,zm5,zmE,zlV]
  repeat' with_reducible first
   |exact zlP|exact H _|exact zoC (H _)|exact znU fun _ _=>H _|exact znW fun _ _=>H _|exact zol (fun _ _=>H _) (H _)
   |exact zna|exact zmo _|exact zla (by unfold zlh;decide) _|exact znL _|exact znq|exact znp
   |refine zlR ?_
   |refine zoB (by decide +kernel) ?_
   |refine zjf _ zmr ?_|refine zjf _ zms ?_|refine zjf _ znj ?_|refine zjf _ zmx ?_|refine zjf _ zoj ?_|refine zjf _ zmy ?_|refine zjf _ zmw ?_|refine zjf _ zoi ?_
   |refine zok (by decide +kernel) ?_ ?_|refine znv (by decide +kernel) ?_ ?_
   |refine zoP ht ?_ ?_|refine zoQ ht ?_ ?_|refine zoM ht ?_ ?_|refine zoO (by omega) (by omega) ?_ ?_
   |refine zm7 (fun _ _=>H _) ?_ ?_
   |refine zoA ?_ ?_ ?_
   |split
theorem znm(hr:∀x∈l,yj l x=true):∀(f:Nat) (k:Int),Fit (pcN l f k)
 |0,_=>zlP
 |f+1,k=>by
  unfold pcN;cases hx:l[k.toNat]? with
  |none=>exact zlP
  |some x=>
   obtain⟨hk,_,_,hn,h5,_⟩:=yY (hr x (wK hx));obtain⟨k',t,n,ks,a⟩:=x;refine znV (znm hr f) hk ?_ hn;unfold jz at h5;split at h5
   ·rename_i h;rw[if_pos (by simpa using h)];simpa using h5
   ·rename_i h;rw[if_neg (by simpa using h)];simpa using h5
end
end
end Go.Proofs.YtnncmdpopgkibaaGreatDoor
namespace Lode
section
abbrev KTt:=Nat×List UInt8
def ktt(t:yp):KTt:=(t.kind,t.text)
variable {l:List Nd} {n:Nat}
structure St(l:List Nd)(E:zv)(s:zY)(p:Nat)(ts:List KTt):Prop where
 nodes:s.nodes.map qv=(l.take p).map qv
 le:p<=l.length
 toks:(E.toks.drop s.next).map ktt=ts
 next:s.next<=E.toks.length
section
variable {α β:Type}
def Rn(l:List Nd)(n:Nat)(m:PM α)(w:List KTt)(p:Nat)(a:α)(q:Nat)(r:List KTt):Prop:=(w ++ r).length<n->∀(E:zv) (s:zY),St l E s p (w ++ r)->∃s',m E s=.ok a s'/\St l E s' q r/\s'.items=s.items
theorem St.tok{E:zv}{s:zY}{p:Nat}{k:Nat}{x:List UInt8}{ts:List KTt}(h:St l E s p ((k,x) :: ts)):∃q,zy E s=⟨k,x,q⟩/\s.next<E.toks.length/\St l E {s with next:=s.next+1} p ts:=by
 have h1:=h.toks;have h0:s.next<E.toks.length:=by
  have:=congrArg List.length h1;simp only[wV,wW,pK] at this;omega
 rw[List.drop_eq_getElem_cons h0,List.map_cons] at h1;injection h1 with h2 h3;refine⟨E.toks[s.next].at_,?_,h0,h.nodes,h.le,h3,h0⟩;unfold zy;rw[glE h0];simp only[ktt,Prod.mk.injEq] at h2;simp only[Option.getD_some];rw[<-h2.1,<-h2.2]
theorem St.none{E:zv}{s:zY}{p:Nat}(h:St l E s p []):∃q,zy E s=⟨0,[],q⟩:=by
 have h1:=congrArg List.length h.toks;simp only[wV,wW,pR] at h1;refine⟨E.len,?_⟩;unfold zy;rw[wP (by omega)];rfl
def hd(ts:List KTt):KTt:=ts.head?.getD (0,[])
theorem St.hd{E:zv}{s:zY}{p:Nat}{ts:List KTt}(h:St l E s p ts):∃q,zy E s=⟨(Lode.hd ts).1,(Lode.hd ts).2,q⟩:=by
 cases ts with
 |nil=>exact h.none
 |cons x ts=>
  obtain⟨k,x⟩:=x;obtain⟨q,h1,_⟩:=h.tok;exact⟨q,h1⟩
variable {w r:List KTt} {p q:Nat} {a:α}
theorem Rn.mono{m:PM α}{n':Nat}(h:Rn l n m w p a q r)(hn:n'<=n):Rn l n' m w p a q r:=fun h1=>h (by omega)
theorem zbP:Rn l n (pure a) [] p a p r:=fun _ _ s h=>⟨s,rfl,h,rfl⟩
theorem zcN{m:PM α}{f:α->PM β}{w2:List KTt}{p1:Nat}{b:β}(h:Rn l n m w p a p1 (w2 ++ r))(hf:Rn l n (f a) w2 p1 b q r):Rn l n (m >>= f) (w ++ w2) p b q r:=fun hn E s hs=>by
 rw[wS] at hn hs;obtain⟨s1,h1,h2,h3⟩:=h hn E s hs;obtain⟨s2,h4,h5,h6⟩:=hf (by rw[pC] at hn;omega) E s1 h2;exact⟨s2,(zbD h1).trans h4,h5,h6.trans h3⟩
theorem zdf{k:Nat}{x:List UInt8}{m:Int}{ks:List Int}{z:Int}{y:Nd}(hp:l[p]? =some y)(hk:y.kind=k)(hx:y.text=x)(hm:y.n=m)(hks:y.kids=ks):Rn l n (zG k x m z ks) [] p (p:Int) (p+1) r:=fun hn E s hs=>by
 obtain⟨k',x',m',ks',z'⟩:=y;simp only at hk hx hm hks;subst hk hx hm hks;have hlt:p<l.length:=(gtL hp);have hl:s.nodes.length=p:=by
  have:=congrArg List.length hs.nodes;rw[wV,wV,wU] at this;omega
 refine⟨{s with nodes:=s.nodes ++ [⟨k',x',m',ks',z⟩]},by unfold zG;rw[hl],⟨?_,hlt,hs.toks,hs.next⟩,rfl⟩;simp only[List.map_append,hs.nodes,wZ,hp,Option.toList_some,List.map_cons,List.map_nil];rfl
theorem zew{P:yp->Bool}{A:yp->PM α}{B:PM α}{k:Nat}{x:List UInt8}(hp:∀z,P ⟨k,x,z⟩=true)(h:∀z,Rn l n (A ⟨k,x,z⟩) w p a q r):Rn l (n+1) (ZO P A B) ((k,x) :: w) p a q r:=fun hn E s hs=>by
 obtain⟨z,h1,h2,h3⟩:=hs.tok;obtain⟨s',h4,h5,h6⟩:=h z (by simp only[pT,pK] at hn;omega) E _ h3;refine⟨s',?_,h5,h6⟩;unfold ZO;rw[h1,hp,if_pos rfl];exact h4
theorem zey{P:yp->Bool}{A:yp->PM α}{B:PM α}{k:Nat}{x:List UInt8}(hp:∀z,P ⟨k,x,z⟩=true)(h:∀z,Rn l n (A ⟨k,x,z⟩) w p a q r):Rn l n (ZO P A B) ((k,x) :: w) p a q r:=(zew hp h).mono (Nat.le_succ n)
theorem zbM{P:yp->Bool}{A:yp->PM α}{B:PM α}(hp:∀z,P ⟨(hd (w ++ r)).1,(hd (w ++ r)).2,z⟩=false)(h:Rn l n B w p a q r):Rn l n (ZO P A B) w p a q r:=fun hn E s hs=>by
 obtain⟨z,h1⟩:=hs.hd;obtain⟨s',h4,h5,h6⟩:=h hn E s hs;refine⟨s',?_,h5,h6⟩;unfold ZO;rw[h1,hp,if_neg (by decide)];exact h4
def isT(x:KTt)(g:List (List UInt8)):Bool:=(x.1 == 5 || x.1 == 6) && g.contains x.2
theorem zgW{g:List (List UInt8)}{f:Bool->PM α}(b:Bool)(hb:isT (hd (w ++ r)) g=b)(h:Rn l n (f b) w p a q r):Rn l n (uU g >>= f) w p a q r:=fun hn E s hs=>by
 obtain⟨z,h1⟩:=hs.hd;obtain⟨s',h4,h5,h6⟩:=h hn E s hs;refine⟨s',?_,h5,h6⟩;show f (uq (zy E s) g) E s=_
 rw[h1,show uq ⟨(hd (w ++ r)).1,(hd (w ++ r)).2,z⟩ g=b from hb];exact h4
theorem znS{l l':List Nd}(h:l.map qv=l'.map qv)(i:Nat):(l[i]?).elim 0 Nd.kind=(l'[i]?).elim 0 Nd.kind:=by
 have h1:=congrArg (fun x=>(x[i]?).elim 0 Nd.kind) h;simp only[pZ] at h1;cases h2:l[i]? <;> cases h3:l'[i]? <;> rw[h2,h3] at h1 <;> exact h1
theorem znD{i:Int}{f:Nat->PM α}(hi:i.toNat<p)(h:Rn l n (f (zE l i)) w p a q r):Rn l n (YJ i >>= f) w p a q r:=fun hn E s hs=>by
 obtain⟨s',h4,h5,h6⟩:=h hn E s hs;refine⟨s',?_,h5,h6⟩;show f ((s.nodes[i.toNat]?).elim 0 Nd.kind) E s=_
 rw[znS hs.nodes,List.getElem?_take_of_lt hi];exact h4
end
def ziV(l:List Nd):Nat->List Int->Nat->Prop
 |p,[],q=>p=q
 |p,k :: r,q=>0<=k/\k<l.length/\loN l k+1=(p:Int)/\ziV l (k+1).toNat r q
theorem zkh{l:List Nd}:∀(a b:List Int) (p q:Nat),ziV l p (a ++ b) q↔∃m,ziV l p a m/\ziV l m b q
 |[],b,p,q=>⟨fun h=>⟨p,rfl,h⟩,fun ⟨m,h1,h2⟩=>by cases h1;exact h2⟩
 |k :: a,b,p,q=>by
  constructor
  ·rintro ⟨h1,h2,h3,h4⟩;obtain⟨m,h5,h6⟩:=(zkh a b _ _).1 h4;exact⟨m,⟨h1,h2,h3,h5⟩,h6⟩
  ·rintro ⟨m,⟨h1,h2,h3,h4⟩,h5⟩;exact⟨h1,h2,h3,(zkh a b _ _).2 ⟨m,h4,h5⟩⟩
theorem zmQ{l:List Nd}(hF:xL l l.length):∀(rk:List Int) (p e:Int),p<l.length->-1<=e->ZM (jH l l.length) rk p=some e->ziV l (e+1).toNat rk.reverse (p+1).toNat
 |[],p,e,_,_,h=>by
  cases h;rfl
 |k :: r,p,e,hp,he,h=>by
  unfold ZM at h;split at h
  ·cases h
  ·rename_i hc;have hk:k=p:=by omega
   have hpos:=(zbH hF (i:=p.toNat) (by omega)).2;have hlo:loN l p=p-((jH l l.length).getD p.toNat 0:Nat):=rfl;rw[show ((p.toNat:Nat):Int)=p by omega] at hpos;have h1:=zmQ hF r _ e (by omega) he h;have h2:=VG _ _ _ h;rw[List.reverse_cons,zkh];refine⟨_,h1,by omega,by omega,?_,?_⟩
   ·rw[hk,hlo];omega
   ·rw[hk];rfl
theorem zm9{l:List Nd}:∀(rk:List Int) (p e:Int),-1<=p->(∀j:Nat,(j:Int)<=p->-1<=loN l j)->ZM (jH l l.length) rk p=some e->-1<=e
 |[],p,e,hp,_,h=>by
  cases h;exact hp
 |k :: r,p,e,hp,hj,h=>by
  unfold ZM at h;split at h
  ·cases h
  ·have h1:=hj p.toNat (by omega);have h2:loN l (p.toNat:Nat)=((p.toNat:Nat):Int)-((jH l l.length).getD ((p.toNat:Nat):Int).toNat 0:Nat):=rfl;rw[show ((p.toNat:Nat):Int).toNat=p.toNat by omega] at h2;exact zm9 r _ e (by omega) (fun j h3=>hj j (by omega)) h
theorem zoE{l:List Nd}(hF:xL l l.length):∀i:Nat,i<l.length->-1<=loN l i:=by
 intro i;induction i using Nat.strongRecOn with
 |ind i ih=>
  intro hi;exact zm9 _ _ _ (by omega) (fun j hj=>ih j (by omega) (by omega)) (zbH hF hi).1
theorem znt{l:List Nd}(hF:xL l l.length){i:Nat}(hi:i<l.length):ziV l (loN l i+1).toNat (l[i]'hi).kids i:=by
 have:=zmQ hF _ _ _ (by omega) (zoE hF i hi) (zbH hF hi).1;rw[List.reverse_reverse,show (((i:Int)-1)+1).toNat=i by omega] at this;exact this
def zgy:List (List KTt)->List KTt
 |[]=>[]
 |[x]=>x
 |x :: r=>x ++ (6,[44]) :: zgy r
theorem zdi(a b:List Pc):pcT (a ++ b)=pcT a ++ pcT b:=by simp[pcT]
theorem znn:∀(ps:List (List Pc)),pcT (zmA ps)=zgy (ps.map pcT)
 |[]=>rfl
 |[x]=>rfl
 |x :: y :: r=>by
  show pcT (x ++ sg [44] :: sp :: zmA (y :: r))=pcT x ++ (6,[44]) :: zgy ((y :: r).map pcT)
  rw[zdi,<-znn (y :: r)];rfl
variable {r:List KTt}
theorem zng{part:PM Int}{wk:Int->List KTt}(hr:isT (hd r) [[44]]=false):∀(ks:List Int) (acc:List Int) (k p q:Nat),ks≠[]->ziV l p ks q->(∀x∈ks,∀p' r',loN l x+1=((p':Nat):Int)->(hd r'=(6,[44])\/r'=r)->Rn l n part (wk x) p' x (x+1).toNat r')->
 (zgy (ks.map wk) ++ r).length<k->Rn l n (qm k part acc) (zgy (ks.map wk)) p (acc ++ ks) q r
 |[],_,_,_,_,h,_,_,_=>absurd rfl h
 |_,_,0,_,_,_,_,_,hk=>absurd hk (wG _)
 |[x],acc,k+1,p,q,_,hc,hp,hk=>by
  simp only[qm,xT];obtain⟨_,_,h3,h4⟩:=hc;have h5:(x+1).toNat=q:=h4;have:=hp x (List.mem_singleton_self x) p r h3 (.inr rfl);rw[h5] at this;have h6:=zcN (w2:=[]) (r:=r) (f:=fun x=>ZO (isS [[44]]) (fun _=>qm k part (acc ++ [x])) (pure (acc ++ [x]))) this (zbM (fun _=>hr) zbP);rw[wN] at h6;exact h6
 |x :: y :: ks,acc,k+1,p,q,_,hc,hp,hk=>by
  simp only[qm,xT];obtain⟨_,_,h3,h4⟩:=hc;have h5:=hp x (List.mem_cons_self ..) p ((6,[44]) :: (zgy ((y :: ks).map wk) ++ r)) h3 (.inl rfl);have hk2:(zgy ((y :: ks).map wk) ++ r).length<k:=by
   have e:zgy ((x :: y :: ks).map wk)=wk x ++ (6,[44]) :: zgy ((y :: ks).map wk):=rfl;rw[e] at hk;simp only[pC,pK] at hk ⊢;omega
  have h6:=zng hr (y :: ks) (acc ++ [x]) k (x+1).toNat q (by simp) h4 (fun z hz=>hp z (pY _ hz)) hk2;rw[wS] at h6;exact zcN (w2:=(6,[44]) :: zgy ((y :: ks).map wk)) (f:=fun x=>ZO (isS [[44]]) (fun _=>qm k part (acc ++ [x])) (pure (acc ++ [x]))) h5 (zey (fun _=>rfl) fun _=>h6)
theorem zmG{E:zv}{s:zY}{p:Nat}{ts:List KTt}(h:St l E s p ts):ts.length<E.toks.length+1:=by
 have:=congrArg List.length h.toks;simp only[wV,wW] at this;omega
theorem znC{part:PM Int}{wk:Int->List KTt}(hr:isT (hd r) [[44]]=false){ks:List Int}{p q:Nat}(hne:ks≠[])(hc:ziV l p ks q)(hp:∀x∈ks,∀p' r',loN l x+1=((p':Nat):Int)->(hd r'=(6,[44])\/r'=r)->Rn l n part (wk x) p' x (x+1).toNat r'):Rn l n (kC part) (zgy (ks.map wk)) p ks q r:=
 fun hn E s hs=>zng hr ks [] (E.toks.length+1) p q hne hc hp (zmG hs) hn E s hs
end
section
theorem zn8(s:List UInt8)(k:KTt)(b:List Pc):pcT ((s,some k) :: b)=k :: pcT b:=rfl
theorem zn9(s:List UInt8)(b:List Pc):pcT ((s,none) :: b)=pcT b:=rfl
def wNd(l:List Nd)(f:Nat)(k:Int):List KTt:=pcT (pcN l f k)
structure Hl(l:List Nd):Prop where
 full:xL l l.length
 right:∀x∈l,yj l x=true
variable {l:List Nd} {n:Nat} {R:xN}
theorem zeC{f j:Nat}{x:Nd}(h:l[j]? =some x):wNd l (f+1) j=pcT (zez l (pcN l f) x):=by
 unfold wNd pcN;rw[wE,h]
section
variable {α β:Type} {w r:List KTt} {p q:Nat} {a:α}
theorem zef{m:PM α}{f:α->PM β}{p1:Nat}{b:β}(h:Rn l n m w p a p1 r)(hf:Rn l n (f a) [] p1 b q r):Rn l n (m >>= f) w p b q r:=by
 have:=zcN (w2:=[]) h hf
 rwa [wN] at this
end
structure NF(l:List Nd)(j:Nat)(k:Nat)(t:List UInt8)(m:Int)(ks:List Int)(p:Nat):Prop where
 len:(xd k).1<=ks.length/\ks.length<=(xd k).2
 num:xw k m ks.length=true
 ttl:if xf k=0 then t=[] else (yV (xf k) t).2=0
 sut:∀i,i<ks.length->zS k m ks.length i (zE l (ks.getD i 0))=true
 chn:ziV l p ks j
 inn:∀k∈ks,0<=k/\k<(j:Int)
theorem zk5(H:Hl l){j:Nat}{x:Nd}(hx:l[j]? =some x){p:Nat}(hp:loN l j+1=(p:Int)):NF l j x.kind x.text x.n x.kids p:=by
 obtain⟨hj,rfl⟩:=gE.1 hx;obtain⟨_,h2,h3,h4,h5,h6⟩:=yY (H.right _ (wC hj));have h7:=znt H.full hj;rw[show (loN l j+1).toNat=p by omega] at h7;refine⟨⟨h2,h3⟩,h4,?_,h6,h7,jY H.full hj⟩;unfold jz at h5;split at h5
 ·rename_i h;rw[if_pos (by simpa using h)];simpa using h5
 ·rename_i h;rw[if_neg (by simpa using h)];simpa using h5
theorem ks0{ks:List Int}(h:ks.length<=0):ks=[]:=pM (by omega)
theorem ks1{ks:List Int}(h:1<=ks.length)(h2:ks.length<=1):∃a,ks=[a]:=by
 match ks,h,h2 with
 |[a],_,_=>exact⟨a,rfl⟩
theorem ks2{ks:List Int}(h:2<=ks.length)(h2:ks.length<=2):∃a b,ks=[a,b]:=by
 match ks,h,h2 with
 |[a,b],_,_=>exact⟨a,b,rfl⟩
theorem ks3{ks:List Int}(h:3<=ks.length)(h2:ks.length<=3):∃a b c,ks=[a,b,c]:=by
 match ks,h,h2 with
 |[a,b,c],_,_=>exact⟨a,b,c,rfl⟩
theorem zmh{ks:List Int}(h:1<=ks.length):∃zs a,ks=zs ++ [a]:=⟨ks.dropLast,ks.getLast (by intro e;rw[e] at h;simp at h),(List.dropLast_concat_getLast _).symm⟩
def Rdt(l:List Nd)(n:Nat)(m:PM Int)(is:Nat->Bool)(ok:List KTt->Bool):Prop:=∀(f:Nat) (k:Int) (p:Nat) (r:List KTt),0<=k->k<f->k<l.length->is (zE l k)=true->loN l k+1=(p:Int)->ok r=true->Rn l n m (wNd l f k) p k (k+1).toNat r
theorem Rdt.kid{m:PM Int}{is:Nat->Bool}{ok:List KTt->Bool}(h:Rdt l n m is ok){f j:Nat}{k:Int}{p:Nat}{r:List KTt}(hk:0<=k/\k<(j:Int))(hj:j<l.length)(hf:j<=f)(hs:is (zE l k)=true)(hp:loN l k+1=(p:Int))(hr:ok r=true):Rn l n m (pcT (pcN l f k)) p k (k+1).toNat r:=h f k p r hk.1 (by omega) (by omega) hs hp hr
def zny(_:List KTt):Bool:=true
def fr(x:KTt):Nat:=if isT x (yS 0) then 1 else if isT x (yS 1) then 2 else if isT x (yS 2) then 4 else if isT x (yS 3) then 5 else if isT x (yS 4) then 6 else if isT x [[46],[40]] then 8 else if isT x [[101,108,115,101]] then 9 else 0
def frF(v:Nat)(r:List KTt):Bool:=decide (fr (hd r)<v)
def noF(g:List UInt8)(r:List KTt):Bool:= !isT (hd r) [g]
structure RR(l:List Nd)(n:Nat)(R:xN):Prop where
 kind:Rdt l n R.kind yN.type.is zny
 pattern:Rdt l n R.pattern yN.pattern.is (noF [40])
 block:Rdt l n R.block (· == 28) zny
 branch:Rdt l n R.branch (· == 29) (noF [101,108,115,101])
 expr:Rdt l n R.expr zx (frF 1)
theorem zos{f:Nat}{k:Int}(h0:0<=k)(hf:k<f)(hl:k<l.length)(ht:yN.type.is (zE l k)=true):∃x w,wNd l f k=x :: w/\isT x [[41]]=false:=by
 obtain⟨j,rfl⟩:=pP h0;obtain⟨f,rfl⟩:∃f',f=f'+1:=⟨f-1,by omega⟩;have hj:j<l.length:=by omega
 obtain⟨⟨kd,t,m,ks,a⟩,hx⟩:∃x,l[j]? =some x:=⟨_,glE hj⟩;have hkd:zE l j=kd:=by unfold zE;rw[wE,hx];rfl
 rw[hkd] at ht;rw[zeC hx];have hm:kd∈[80,81,82,83,84,85,86,87]:=by
  simp only[yN.is,pG,pH] at ht;simp only[wD,wH,or_false];omega
 simp only[wD,wH,or_false] at hm;rcases hm with rfl|rfl|rfl|rfl|rfl|rfl|rfl|rfl <;> exact⟨_,_,rfl,rfl⟩
theorem znM{m:PM Int}(h:Rdt l n m yN.type.is zny){f j:Nat}(hj:j<l.length)(hf:j<=f){ks:List Int}{p q:Nat}{r:List KTt}(hc:ziV l p ks q)(hi:∀k∈ks,(0<=k/\k<(j:Int))/\yN.type.is (zE l k)=true)(hr:hd r=(6,[41])):
 Rn l n (do if <-uU [[41]] then pure [] else kC m:PM (List Int)) (zgy (ks.map (wNd l f))) p ks q r:=by
 cases ks with
 |nil=>
  cases hc;exact zgW true (by show isT (hd r) _=true;rw[hr];rfl) zbP
 |cons k ks=>
  obtain⟨⟨a1,a2⟩,a3⟩:=hi k (List.mem_cons_self ..);obtain⟨x,w,h1,h2⟩:=zos (f:=f) a1 (by omega) (by omega) a3;refine zgW false ?_ ?_
  ·have e:hd (zgy ((k :: ks).map (wNd l f)) ++ r)=x:=by
    cases ks with
    |nil=>show hd (wNd l f k ++ r)=x;rw[h1];rfl
    |cons y ks=>show hd ((wNd l f k ++ _) ++ r)=x;rw[h1];rfl
   rw[e];exact h2
  ·refine znC (by rw[hr];rfl) (by simp) hc fun y hy p' r' hp _=>?_
   obtain⟨b1,b2⟩:=hi y hy;exact h.kid b1 hj hf b2 hp rfl
variable (H:Hl l) (hR:RR l n R)
include H hR
theorem znZ:Rdt l (n+1) (vG R) yN.type.is zny:=by
 intro f k p r h0 hf hl ht hp hr;obtain⟨j,rfl⟩:=pP h0;obtain⟨f,rfl⟩:∃f',f=f'+1:=⟨f-1,by omega⟩;have hj:j<l.length:=by omega
 have hjf:j<=f:=by omega
 obtain⟨⟨kd,t,m,ks,a⟩,hx⟩:∃x,l[j]? =some x:=⟨_,glE hj⟩;have F:=zk5 H hx hp;have hkd:zE l j=kd:=by unfold zE;rw[wE,hx];rfl
 rw[hkd] at ht;rw[zeC hx,show ((j:Int)+1).toNat=j+1 by omega];simp only at F;have hm:kd∈[80,81,82,83,84,85,86,87]:=by
  simp only[yN.is,pG,pH] at ht;simp only[wD,wH,or_false];omega
 simp only[wD,wH,or_false] at hm
 try simp only[vG,yX,xA,xT,xm,jC,qi,qu,vf,qt,xB,if_true,if_false,Bool.false_eq_true]
 have leaf:∀{kd:Nat} {t:List UInt8} {m:Int} {ks:List Int},NF l j kd t m ks p->ks.length<=0->ks=[]/\p=j:=fun F h=>by
  obtain rfl:=ks0 h;exact⟨rfl,F.chn⟩
 rcases hm with rfl|rfl|rfl|rfl|rfl|rfl|rfl|rfl
 ·obtain rfl:m=0:=by simpa[xw] using F.num
  obtain rfl:t=[]:=F.ttl;obtain⟨rfl,rfl⟩:=leaf F F.len.2;show Rn l (n+1) _ [(5,[105,110,116])] _ _ _ _
  repeat' first|exact zbP|refine zew (fun _=>rfl) (fun _=>?_)|refine zey (fun _=>rfl) (fun _=>?_)|refine zbM (fun _=>rfl) ?_
  exact zdf hx rfl rfl rfl rfl
 ·obtain rfl:m=0:=by simpa[xw] using F.num
  obtain rfl:t=[]:=F.ttl;obtain⟨rfl,rfl⟩:=leaf F F.len.2;show Rn l (n+1) _ [(5,[98,111,111,108])] _ _ _ _
  repeat' first|exact zbP|refine zew (fun _=>rfl) (fun _=>?_)|refine zey (fun _=>rfl) (fun _=>?_)|refine zbM (fun _=>rfl) ?_
  exact zdf hx rfl rfl rfl rfl
 ·obtain rfl:m=0:=by simpa[xw] using F.num
  obtain rfl:t=[]:=F.ttl;obtain⟨rfl,rfl⟩:=leaf F F.len.2;show Rn l (n+1) _ [(5,[116,101,120,116])] _ _ _ _
  repeat' first|exact zbP|refine zew (fun _=>rfl) (fun _=>?_)|refine zey (fun _=>rfl) (fun _=>?_)|refine zbM (fun _=>rfl) ?_
  exact zdf hx rfl rfl rfl rfl
 ·obtain rfl:m=0:=by simpa[xw] using F.num
  obtain rfl:t=[]:=F.ttl;obtain⟨rfl,rfl⟩:=leaf F F.len.2;show Rn l (n+1) _ [(5,[117,110,105,116])] _ _ _ _
  repeat' first|exact zbP|refine zew (fun _=>rfl) (fun _=>?_)|refine zey (fun _=>rfl) (fun _=>?_)|refine zbM (fun _=>rfl) ?_
  exact zdf hx rfl rfl rfl rfl
 ·obtain rfl:m=0:=by simpa[xw] using F.num
  obtain⟨rfl,rfl⟩:=leaf F F.len.2;show Rn l (n+1) _ [(2,t)] _ _ _ _
  repeat' first|exact zbP|refine zew (fun _=>rfl) (fun _=>?_)|refine zey (fun _=>rfl) (fun _=>?_)|refine zbM (fun _=>rfl) ?_
  exact zdf hx rfl rfl rfl rfl
 ·obtain rfl:m=0:=by simpa[xw] using F.num
  obtain rfl:t=[]:=F.ttl;obtain⟨zs,b,rfl⟩:=zmh F.len.1;obtain⟨q,c1,c2,c3,c4,c5⟩:=(zkh _ _ _ _).1 F.chn;have c5:(b+1).toNat=j:=c5;have hs:∀k∈zs ++ [b],yN.type.is (zE l k)=true:=fun k hk=>by
   obtain⟨i,hi,rfl⟩:=List.mem_iff_getElem.1 hk;have:=F.sut i hi;rw[pA,glE hi] at this;exact this
  have e:pcT (zez l (pcN l f) ⟨85,[],0,zs ++ [b],a⟩)=(5,[102,110]) :: (6,[40]) :: (zgy (zs.map (wNd l f)) ++ (6,[41]) :: (6,[58]) :: wNd l f b):=by
   show (5,[102,110]) :: pcT (zhO (pcN l f) ⟨85,[],0,zs ++ [b],a⟩ 0)=_
   simp[zhO,zgQ,zN,sg,sp,zn8,zn9,zdi,znn,wNd,List.map_map];rfl
  rw[e]
  repeat' first|exact zbP|refine zew (fun _=>rfl) (fun _=>?_)|refine zey (fun _=>rfl) (fun _=>?_)|refine zbM (fun _=>rfl) ?_
  refine zcN (znM hR.kind hj hjf c1 (fun k hk=>⟨F.inn k (List.mem_append_left _ hk),hs k (List.mem_append_left _ hk)⟩) rfl) ?_
  repeat' first|exact zbP|refine zew (fun _=>rfl) (fun _=>?_)|refine zey (fun _=>rfl) (fun _=>?_)|refine zbM (fun _=>rfl) ?_
  refine zef (hR.kind.kid (F.inn b (by simp)) hj hjf (hs b (by simp)) c4 rfl) ?_;rw[c5];exact zdf hx rfl rfl rfl rfl
 ·obtain rfl:m=0:=by simpa[xw] using F.num
  obtain rfl:t=[]:=F.ttl;obtain⟨b,rfl⟩:=ks1 F.len.1 F.len.2;obtain⟨c1,c2,c3,c4⟩:=F.chn;have c4:(b+1).toNat=j:=c4;show Rn l (n+1) _ ((5,[99,104,97,110]) :: wNd l f b) _ _ _ _
  repeat' first|exact zbP|refine zew (fun _=>rfl) (fun _=>?_)|refine zey (fun _=>rfl) (fun _=>?_)|refine zbM (fun _=>rfl) ?_
  refine zef (hR.kind.kid (F.inn b (by simp)) hj hjf (F.sut 0 Nat.zero_lt_one) c3 rfl) ?_;rw[c4];exact zdf hx rfl rfl rfl rfl
 ·obtain rfl:m=0:=by simpa[xw] using F.num
  obtain rfl:t=[]:=F.ttl;obtain⟨b,rfl⟩:=ks1 F.len.1 F.len.2;obtain⟨c1,c2,c3,c4⟩:=F.chn;have c4:(b+1).toNat=j:=c4;show Rn l (n+1) _ ((5,[119,101,97,107]) :: wNd l f b) _ _ _ _
  repeat' first|exact zbP|refine zew (fun _=>rfl) (fun _=>?_)|refine zey (fun _=>rfl) (fun _=>?_)|refine zbM (fun _=>rfl) ?_
  refine zef (hR.kind.kid (F.inn b (by simp)) hj hjf (F.sut 0 Nat.zero_lt_one) c3 rfl) ?_;rw[c4];exact zdf hx rfl rfl rfl rfl
end
section
variable {l:List Nd} {n:Nat} {R:xN}
theorem zjS{j kd:Nat}{t:List UInt8}{m:Int}{ks:List Int}{p:Nat}(F:NF l j kd t m ks p)(h:ks.length<=0):ks=[]/\p=j:=by
 obtain rfl:=ks0 h;exact⟨rfl,F.chn⟩
theorem zkb{j kd:Nat}{t:List UInt8}{m:Int}{ks:List Int}{p:Nat}(F:NF l j kd t m ks p){is:Nat->Bool}(h:∀i d,zS kd m ks.length i d=is d):∀k∈ks,is (zE l k)=true:=fun k hk=>by
 obtain⟨i,hi,rfl⟩:=List.mem_iff_getElem.1 hk;have:=F.sut i hi;rw[h,pA,glE hi] at this;exact this
theorem zlQ{m:PM Int}{is:Nat->Bool}{ok:List KTt->Bool}(h:Rdt l n m is ok){f j:Nat}(hj:j<l.length)(hf:j<=f){ks:List Int}(hne:ks≠[]){p q:Nat}{r:List KTt}(hc:ziV l p ks q)(hi:∀k∈ks,0<=k/\k<(j:Int))(hs:∀k∈ks,is (zE l k)=true)(hr:isT (hd r) [[44]]=false)(ho:ok r=true)(hok:∀r',hd r'=(6,[44])->ok r'=true):
 Rn l n (kC m) (zgy (ks.map (wNd l f))) p ks q r:=
 znC hr hne hc fun y hy _ r' hp hr'=>h.kid (hi y hy) hj hf (hs y hy) hp (hr'.elim (hok r') fun e=>e▸ho)
theorem zox{f:Nat}{ks:List Int}(hne:ks≠[])(pc:Int->List Pc)(hpc:pc=pcN l f):pcT (ziU pc ks)=(6,[40]) :: (zgy (ks.map (wNd l f)) ++ [(6,[41])]):=by
 subst hpc;unfold ziU;rw[if_neg hne];show (6,[40]) :: pcT (zgQ (pcN l f) ks ++ [sg [41]])=_
 rw[zdi];unfold zgQ;rw[znn,List.map_map];rfl
theorem zmJ{m:PM Int}{is:Nat->Bool}{ok:List KTt->Bool}(h:Rdt l n m is ok){f j:Nat}(hj:j<l.length)(hf:j<=f){ks:List Int}{p q:Nat}{r:List KTt}(hc:ziV l p ks q)(hi:∀k∈ks,0<=k/\k<(j:Int))(hs:∀k∈ks,is (zE l k)=true)(hr:ks=[]->isT (hd r) [[40]]=false)(hok:∀g r',g∈[[44],[41]]->hd r'=(6,g)->ok r'=true):
 Rn l n (qk m) (pcT (ziU (pcN l f) ks)) p ks q r:=by
 try simp only[qk,yX,xA,xT,xm,jC,qi,qu,vf,qt,xB,if_true,if_false,Bool.false_eq_true]
 by_cases hne:ks=[]
 ·subst hne;cases hc;show Rn l n _ [] _ _ _ _
  exact zbM (fun _=>hr rfl) zbP
 ·rw[zox hne _ rfl];refine zey (fun _=>rfl) fun _=>?_
  refine zcN (zlQ h hj hf hne hc hi hs rfl (hok _ _ (by simp) rfl) fun r' h'=>hok _ r' (by simp) h') ?_
  repeat' first|exact zbP|refine zew (fun _=>rfl) (fun _=>?_)|refine zey (fun _=>rfl) (fun _=>?_)|refine zbM (fun _=>rfl) ?_
variable (H:Hl l) (hR:RR l n R)
include H hR
theorem znd:Rdt l (n+1) (xI R) yN.pattern.is (noF [40]):=by
 intro f k p r h0 hf hl ht hp hr;obtain⟨j,rfl⟩:=pP h0;obtain⟨f,rfl⟩:∃f',f=f'+1:=⟨f-1,by omega⟩;have hj:j<l.length:=by omega
 have hjf:j<=f:=by omega
 obtain⟨⟨kd,t,m,ks,a⟩,hx⟩:∃x,l[j]? =some x:=⟨_,glE hj⟩;have F:=zk5 H hx hp;have hkd:zE l j=kd:=by unfold zE;rw[wE,hx];rfl
 rw[hkd] at ht;rw[zeC hx,show ((j:Int)+1).toNat=j+1 by omega];simp only at F;have hm:kd∈[66,67,68,69,70]:=by
  simp only[yN.is,pG,pH] at ht;simp only[wD,wH,or_false];omega
 simp only[wD,wH,or_false] at hm
 try simp only[xI,yX,xA,xT,xm,jC,qi,qu,vf,qt,xB,if_true,if_false,Bool.false_eq_true]
 rcases hm with rfl|rfl|rfl|rfl|rfl
 ·obtain rfl:m=0:=by simpa[xw] using F.num
  obtain⟨rfl,rfl⟩:=zjS F F.len.2;show Rn l (n+1) _ [(1,t)] _ _ _ _
  repeat' first|exact zbP|refine zew (fun _=>rfl) (fun _=>?_)|refine zey (fun _=>rfl) (fun _=>?_)|refine zbM (fun _=>rfl) ?_
  exact zdf hx rfl rfl rfl rfl
 ·obtain rfl:t=[]:=F.ttl;obtain⟨rfl,rfl⟩:=zjS F F.len.2;by_cases hneg:m<0
  ·have e:pcT (zez l (pcN l f) ⟨67,[],m,[],a⟩)=[(6,[45]),(3,Go.Lib.itoa (-m))]:=by
    show pcT (if m<0 then [sg [45],nu (-m)] else [nu m])=_
    rw[if_pos hneg];rfl
   rw[e]
   repeat' first|exact zbP|refine zew (fun _=>rfl) (fun _=>?_)|refine zey (fun _=>rfl) (fun _=>?_)|refine zbM (fun _=>rfl) ?_
   refine zdf hx rfl rfl ?_ rfl;show m= -(xR (Go.Lib.itoa (-m)):Int)
   rw[zmq (by omega)];omega
  ·have e:pcT (zez l (pcN l f) ⟨67,[],m,[],a⟩)=[(3,Go.Lib.itoa m)]:=by
    show pcT (if m<0 then [sg [45],nu (-m)] else [nu m])=_
    rw[if_neg hneg];rfl
   rw[e]
   repeat' first|exact zbP|refine zew (fun _=>rfl) (fun _=>?_)|refine zey (fun _=>rfl) (fun _=>?_)|refine zbM (fun _=>rfl) ?_
   refine zdf hx rfl rfl ?_ rfl;show m=(xR (Go.Lib.itoa m):Int)
   rw[zmq (by omega)]
 ·obtain rfl:m=0:=by simpa[xw] using F.num
  obtain⟨rfl,rfl⟩:=zjS F F.len.2;show Rn l (n+1) _ [(4,t)] _ _ _ _
  repeat' first|exact zbP|refine zew (fun _=>rfl) (fun _=>?_)|refine zey (fun _=>rfl) (fun _=>?_)|refine zbM (fun _=>rfl) ?_
  exact zdf hx rfl rfl rfl rfl
 ·obtain rfl:t=[]:=F.ttl;obtain⟨rfl,rfl⟩:=zjS F F.len.2;have hm2:m=0\/m=1:=by simpa[xw] using F.num
  rcases hm2 with rfl|rfl
  ·show Rn l (n+1) _ [(5,[102,97,108,115,101])] _ _ _ _
   repeat' first|exact zbP|refine zew (fun _=>rfl) (fun _=>?_)|refine zey (fun _=>rfl) (fun _=>?_)|refine zbM (fun _=>rfl) ?_
   exact zdf hx rfl rfl rfl rfl
  ·show Rn l (n+1) _ [(5,[116,114,117,101])] _ _ _ _
   repeat' first|exact zbP|refine zew (fun _=>rfl) (fun _=>?_)|refine zey (fun _=>rfl) (fun _=>?_)|refine zbM (fun _=>rfl) ?_
   exact zdf hx rfl rfl rfl rfl
 ·obtain rfl:m=0:=by simpa[xw] using F.num
  show Rn l (n+1) _ ((2,t) :: pcT (ziU (pcN l f) ks)) _ _ _ _
  refine zbM (fun _=>rfl) (zbM (fun _=>rfl) (zbM (fun _=>rfl) (zew (fun _=>rfl) fun _=>?_)));refine zef (zmJ hR.pattern hj hjf F.chn F.inn (zkb F fun _ _=>rfl) (fun _=>by simpa[noF] using hr) fun g r' hg h'=>?_) (zdf hx rfl rfl rfl rfl);unfold noF;rw[h'];simp only[wD,wH,or_false] at hg;rcases hg with rfl|rfl <;> rfl
theorem zmU:Rdt l n (jE R) (· == 88) zny:=by
 intro f k p r h0 hf hl ht hp hr;obtain⟨j,rfl⟩:=pP h0;obtain⟨f,rfl⟩:∃f',f=f'+1:=⟨f-1,by omega⟩;have hj:j<l.length:=by omega
 have hjf:j<=f:=by omega
 obtain⟨⟨kd,t,m,ks,a⟩,hx⟩:∃x,l[j]? =some x:=⟨_,glE hj⟩;have F:=zk5 H hx hp;have hkd:zE l j=kd:=by unfold zE;rw[wE,hx];rfl
 rw[hkd] at ht;rw[zeC hx,show ((j:Int)+1).toNat=j+1 by omega];simp only at F;obtain rfl:kd=88:=by simpa using ht
 obtain rfl:m=0:=by simpa[xw] using F.num
 try simp only[jE,yX,xA,xT,xm,jC,qi,qu,vf,qt,xB,if_true,if_false,Bool.false_eq_true]
 obtain⟨b,rfl⟩:=ks1 F.len.1 F.len.2;obtain⟨_,_,q,eq⟩:=F.chn;have eq:(b+1).toNat=j:=eq;show Rn l n _ ((1,t) :: (6,[58]) :: wNd l f b) _ _ _ _
 repeat' first|exact zbP|refine zew (fun _=>rfl) (fun _=>?_)|refine zey (fun _=>rfl) (fun _=>?_)|refine zbM (fun _=>rfl) ?_
 refine zef (hR.kind.kid (F.inn b (by simp)) hj hjf (F.sut 0 Nat.zero_lt_one) q rfl) ?_;rw[eq];exact zdf hx rfl rfl rfl rfl
theorem zn2:Rdt l n (ul R) (· == 89) (noF [40]):=by
 intro f k p r h0 hf hl ht hp hr;obtain⟨j,rfl⟩:=pP h0;obtain⟨f,rfl⟩:∃f',f=f'+1:=⟨f-1,by omega⟩;have hj:j<l.length:=by omega
 have hjf:j<=f:=by omega
 obtain⟨⟨kd,t,m,ks,a⟩,hx⟩:∃x,l[j]? =some x:=⟨_,glE hj⟩;have F:=zk5 H hx hp;have hkd:zE l j=kd:=by unfold zE;rw[wE,hx];rfl
 rw[hkd] at ht;rw[zeC hx,show ((j:Int)+1).toNat=j+1 by omega];simp only at F;obtain rfl:kd=89:=by simpa using ht
 obtain rfl:m=0:=by simpa[xw] using F.num
 simp only[ul,xA];show Rn l n _ ((2,t) :: pcT (ziU (pcN l f) ks)) _ _ _ _
 refine zey (fun _=>rfl) fun _=>?_
 exact zef (zmJ hR.kind hj hjf F.chn F.inn (zkb F fun _ _=>rfl) (fun _=>by simpa[noF] using hr) fun _ _ _ _=>rfl) (zdf hx rfl rfl rfl rfl)
end
section
variable {l:List Nd} {n:Nat} {R:xN}
def zor:List (List UInt8):=[[41],[125],[108,101,116],[118,97,114]]
structure HdE(v:Nat)(w:List KTt):Prop where
 ne:w≠[]
 bad:isT (hd w) zor=false
 not_:4<=v->isT (hd w) [[110,111,116]]=false
 neg:8<=v->isT (hd w) [[45]]=false
theorem zhY{a b:List KTt}(h:a≠[]):hd (a ++ b)=hd a:=by
 cases a with
 |nil=>exact absurd rfl h
 |cons x a=>rfl
theorem HdE.app{v:Nat}{a:List KTt}(h:HdE v a)(b:List KTt):HdE v (a ++ b):=⟨fun e=>h.ne (List.append_eq_nil_iff.1 e).1,by rw[zhY h.ne];exact h.bad,fun hv=>by rw[zhY h.ne];exact h.not_ hv,fun hv=>by rw[zhY h.ne];exact h.neg hv⟩
theorem HdE.kid{pc:Int->List Pc}{k:Int}{u v:Nat}(h:HdE (qj (zE l k)) (pcT (pc k)))(hv:v<=u\/u<4/\v<4):HdE v (pcT (zgS l pc k u)):=by
 unfold zgS;split
 ·exact⟨by simp[pcT,sg],rfl,fun _=>rfl,fun _=>rfl⟩
 ·exact⟨h.ne,h.bad,fun h'=>h.not_ (by omega),fun h'=>h.neg (by omega)⟩
theorem zmt{k:Nat}(h:zx k=true):k∈[1,2,3,4,5,25,26,29,30,31,33,34,35,36,40,41,42,43,44,45,46,47,48,49,50,51,37,38,39,6,7,8,9,10,11,12,13,14,15,16,17,18,19,20,21,22,23,24]:=by
 have:∀k,k<=51->zx k=true->k∈[1,2,3,4,5,25,26,29,30,31,33,34,35,36,40,41,42,43,44,45,46,47,48,49,50,51,37,38,39,6,7,8,9,10,11,12,13,14,15,16,17,18,19,20,21,22,23,24]:=by decide
 refine this k ?_ h;unfold zx at h;simp only[pG,pH] at h;exact h.1.1.1.2
theorem zmk(H:Hl l):∀(j f:Nat),j<f->j<l.length->zx (zE l j)=true->HdE (qj (zE l j)) (wNd l f j):=by
 intro j;induction j using Nat.strongRecOn with
 |ind j ih=>
  intro f hf hj ht;obtain⟨f,rfl⟩:∃f',f=f'+1:=⟨f-1,by omega⟩;obtain⟨⟨kd,t,m,ks,a⟩,hx⟩:∃x,l[j]? =some x:=⟨_,glE hj⟩;have hp:loN l j+1=(((loN l j+1).toNat:Nat):Int):=by have:=zoE H.full j hj;omega
  have F:=zk5 H hx hp;have hkd:zE l j=kd:=by unfold zE;rw[wE,hx];rfl
  rw[hkd] at ht ⊢;rw[zeC hx];simp only at F;have hm:=zmt ht;simp only[wD,wH,or_false] at hm;have uS:1<=ks.length->zx (zE l (ks.getD 0 0))=true->HdE (qj (zE l (ks.getD 0 0))) (pcT (pcN l f (ks.getD 0 0))):=fun h1 h2=>by
   have h3:=F.inn (ks.getD 0 0) (by rw[pA,glE (by omega)];exact wC (by omega));obtain⟨q,hq⟩:=pP h3.1;rw[hq] at h2 h3 ⊢;exact ih q (by omega) f (by omega) (by omega) h2
  rcases hm with rfl|rfl|rfl|rfl|rfl|rfl|rfl|rfl|rfl|rfl|rfl|rfl|rfl|rfl|rfl|rfl|rfl|rfl|rfl|rfl|rfl|rfl|rfl|rfl|rfl|rfl|rfl|rfl|rfl|rfl|rfl|rfl|rfl|rfl|rfl|rfl|rfl|rfl|rfl|rfl|rfl|rfl|rfl|rfl|rfl|rfl|rfl|rfl
  all_goals first
   |exact⟨List.cons_ne_nil _ _,rfl,fun _=>rfl,fun _=>rfl⟩
   |exact⟨List.cons_ne_nil _ _,rfl,fun _=>rfl,fun h=>absurd h (by decide)⟩
   |exact⟨List.cons_ne_nil _ _,rfl,fun h=>absurd h (by decide),fun h=>absurd h (by decide)⟩
   |(have h1:1<=ks.length:=pN (by decide) F.len.1
     show HdE _ (pcT (zgS l (pcN l f) (ks.getD 0 0) _ ++ _))
     rw[zdi];exact ((uS h1 (F.sut 0 h1)).kid (by simp[qj])).app _)
   |skip
  ·show HdE _ (pcT [if m == 1 then kwd [116,114,117,101] else kwd [102,97,108,115,101]])
   split <;> exact⟨List.cons_ne_nil _ _,rfl,fun _=>rfl,fun _=>rfl⟩
  ·have h1:1<=ks.length:=F.len.1;have h2:=(uS h1 (F.sut 0 h1)).kid (v:=8) (u:=8) (by decide);show HdE _ (pcT ((if zE l (ks.getD 0 0) == 25 && ((l[(ks.getD 0 0).toNat]?).elim [] Nd.kids).isEmpty then sg [40] :: (zgS l (pcN l f) (ks.getD 0 0) 8 ++ [sg [41]]) else zgS l (pcN l f) (ks.getD 0 0) 8) ++ _))
   rw[zdi];split
   ·exact⟨List.cons_ne_nil _ _,rfl,fun _=>rfl,fun _=>rfl⟩
   ·exact h2.app _
end
section
variable {l:List Nd} {n:Nat} {R:xN}
variable (H:Hl l) (hR:RR l n R)
include H hR
theorem zot:Rdt l n (Xa R) (· == 27) (frF 1):=by
 intro f k p r h0 hf hl ht hp hr;obtain⟨j,rfl⟩:=pP h0;obtain⟨f,rfl⟩:∃f',f=f'+1:=⟨f-1,by omega⟩;have hj:j<l.length:=by omega
 have hjf:j<=f:=by omega
 obtain⟨⟨kd,t,m,ks,a⟩,hx⟩:∃x,l[j]? =some x:=⟨_,glE hj⟩;have F:=zk5 H hx hp;have hkd:zE l j=kd:=by unfold zE;rw[wE,hx];rfl
 rw[hkd] at ht;rw[zeC hx,show ((j:Int)+1).toNat=j+1 by omega];simp only at F;obtain rfl:kd=27:=by simpa using ht
 obtain rfl:m=0:=by simpa[xw] using F.num
 try simp only[Xa,yX,xA,xT,xm,jC,qi,qu,vf,qt,xB,if_true,if_false,Bool.false_eq_true]
 obtain⟨b,rfl⟩:=ks1 F.len.1 F.len.2;obtain⟨_,_,q,eq⟩:=F.chn;have eq:(b+1).toNat=j:=eq;show Rn l n _ ((1,t) :: (6,[58]) :: wNd l f b) _ _ _ _
 repeat' first|exact zbP|refine zew (fun _=>rfl) (fun _=>?_)|refine zey (fun _=>rfl) (fun _=>?_)|refine zbM (fun _=>rfl) ?_
 refine zef (hR.expr.kid (F.inn b (by simp)) hj hjf (F.sut 0 Nat.zero_lt_one) q hr) ?_;rw[eq];exact zdf hx rfl rfl rfl rfl
theorem zou:Rdt l n (Xb R) (· == 32) (frF 1):=by
 intro f k p r h0 hf hl ht hp hr;obtain⟨j,rfl⟩:=pP h0;obtain⟨f,rfl⟩:∃f',f=f'+1:=⟨f-1,by omega⟩;have hj:j<l.length:=by omega
 have hjf:j<=f:=by omega
 obtain⟨⟨kd,t,m,ks,a⟩,hx⟩:∃x,l[j]? =some x:=⟨_,glE hj⟩;have F:=zk5 H hx hp;have hkd:zE l j=kd:=by unfold zE;rw[wE,hx];rfl
 rw[hkd] at ht;rw[zeC hx,show ((j:Int)+1).toNat=j+1 by omega];simp only at F;obtain rfl:kd=32:=by simpa using ht
 obtain rfl:m=0:=by simpa[xw] using F.num
 obtain rfl:t=[]:=F.ttl
 try simp only[Xb,yX,xA,xT,xm,jC,qi,qu,vf,qt,xB,if_true,if_false,Bool.false_eq_true]
 obtain⟨b,c,rfl⟩:=ks2 F.len.1 F.len.2;obtain⟨_,_,q,_,_,s,es⟩:=F.chn;have es:(c+1).toNat=j:=es;have e:pcT (zez l (pcN l f) ⟨32,[],0,[b,c],a⟩)=wNd l f b ++ (6,[61,62]) :: wNd l f c:=zdi _ _;rw[e];refine zcN (hR.pattern.kid (F.inn b (by simp)) hj hjf (by simpa[zS] using F.sut 0 (by simp)) q rfl) ?_
 repeat' first|exact zbP|refine zew (fun _=>rfl) (fun _=>?_)|refine zey (fun _=>rfl) (fun _=>?_)|refine zbM (fun _=>rfl) ?_
 refine zef (hR.expr.kid (F.inn c (by simp)) hj hjf (by simpa[zS] using F.sut 1 (by simp)) s hr) ?_;rw[es];exact zdf hx rfl rfl rfl rfl
theorem zmp{f j:Nat}(hj:j<l.length)(hf:j<=f){ps:List Int}{b:Int}{p q:Nat}{r:List KTt}(hc:ziV l p (ps ++ [b]) q)(hi:∀k∈ps ++ [b],0<=k/\k<(j:Int))(hs:∀k∈ps,zE l k=88)(hb:yN.type.is (zE l b)=true):
 Rn l n (vA R) ((6,[40]) :: (zgy (ps.map (wNd l f)) ++ (6,[41]) :: (6,[58]) :: wNd l f b)) p (ps ++ [b]) q r:=by
 obtain⟨z,c1,_,_,c4,c5⟩:=(zkh _ _ _ _).1 hc;have c5:(b+1).toNat=q:=c5
 try simp only[vA,yX,xA,xT,xm,jC,qi,qu,vf,qt,xB,if_true,if_false,Bool.false_eq_true]
 refine zey (fun _=>rfl) fun _=>?_
 refine zcN (a:=ps) (p1:=z) ?_ ?_
 ·cases ps with
  |nil=>
   cases c1;exact zgW true rfl zbP
  |cons k ks=>
   refine zgW false ?_ (zlQ (zmU H hR) hj hf (by simp) c1 (fun y hy=>hi y (List.mem_append_left _ hy)) (fun y hy=>by rw[hs y hy];rfl) rfl rfl fun _ _=>rfl);have h1:=hi k (by simp);obtain⟨i,rfl⟩:=pP h1.1;obtain⟨f,rfl⟩:∃f',f=f'+1:=⟨f-1,by omega⟩;obtain⟨⟨kd,t,m,ks',a⟩,hx⟩:∃x,l[i]? =some x:=⟨_,glE (by omega)⟩;have h2:kd=88:=by
    have:=hs i (List.mem_cons_self ..);unfold zE at this;rw[wE,hx] at this;exact this
   subst h2;have e:∃w,wNd l (f+1) i=(1,t) :: w:=⟨_,zeC hx⟩;obtain⟨w,e⟩:=e;have e2:∃w,zgy (((i:Int) :: ks).map (wNd l (f+1)))=(1,t) :: w:=by
    cases ks with
    |nil=>exact⟨w,e⟩
    |cons y ks=>exact⟨_,by show wNd l (f+1) i ++ _=_;rw[e];rfl⟩
   obtain⟨w2,e2⟩:=e2;rw[e2];rfl
 ·repeat' first|exact zbP|refine zew (fun _=>rfl) (fun _=>?_)|refine zey (fun _=>rfl) (fun _=>?_)|refine zbM (fun _=>rfl) ?_
  refine zef (hR.kind.kid (hi b (by simp)) hj hf hb c4 rfl) ?_;rw[c5];exact zbP
omit H hR in
theorem znu{pc:Int->List Pc}{f:Nat}(hpc:pc=pcN l f){kd:Nat}{t:List UInt8}{m:Int}{ps:List Int}{b:Int}{tl:List Int}{a:Int}:pcT (zhO pc ⟨kd,t,m,ps ++ [b] ++ tl,a⟩ tl.length)=(6,[40]) :: (zgy (ps.map (wNd l f)) ++ (6,[41]) :: (6,[58]) :: wNd l f b):=by
 subst hpc;unfold zhO;have e1:(ps ++ [b] ++ tl).length-1-tl.length=ps.length:=by simp only[pC,pK,pR];omega
 have e2:(ps ++ [b] ++ tl).take ps.length=ps:=by simp
 have e3:zN ⟨kd,t,m,ps ++ [b] ++ tl,a⟩ ps.length=b:=by
  unfold zN;simp
 simp only[e1,e2,e3];show (6,[40]) :: pcT (zgQ (pcN l f) ps ++ sg [41] :: sg [58] :: sp :: pcN l f b)=_
 rw[zdi];unfold zgQ;rw[znn,List.map_map];rfl
omit H hR in
theorem zml{x:KTt}(h:isT x zor=false){g:List UInt8}(hg:g∈zor):isT x [g]=false:=by
 unfold isT at h ⊢;rw[Bool.and_eq_false_iff] at h ⊢;refine h.imp id fun h=>?_
 rw[List.contains_eq_mem,wO] at h ⊢;intro e;rw[wL] at e;exact h (e▸hg)
theorem zmH{f:Nat}{k:Int}{p:Nat}{r:List KTt}(h0:0<=k)(hf:k<f)(hl:k<l.length)(ht:yN.stmt.is (zE l k)=true)(hp:loN l k+1=(p:Int))(hr:frF 1 r=true)(hr2:isT (hd r) [[58,61]]=false):
 Rn l n (vw R) (wNd l f k) p (k,zx (zE l k)) (k+1).toNat r/\wNd l f k≠[]/\isT (hd (wNd l f k)) [[125]]=false:=by
 by_cases he:zx (zE l k)=true
 ·rw[he];obtain⟨i,rfl⟩:=pP h0;have hh:=zmk H i f (by omega) (by omega) he;refine⟨?_,hh.ne,zml hh.bad (by decide)⟩
  try simp only[vw,yX,xA,xT,xm,jC,qi,qu,vf,qt,xB,if_true,if_false,Bool.false_eq_true]
  refine zbM (fun z=>?_) (zbM (fun z=>?_) ?_)
  ·rw[zhY hh.ne];exact zml hh.bad (by decide)
  ·rw[zhY hh.ne];exact zml hh.bad (by decide)
  ·refine zef (hR.expr f i p r h0 hf hl he hp hr) (znD (by omega) ?_);split
   ·exact zbM (fun _=>hr2) zbP
   ·exact zgW false hr2 zbP
 ·rw[show zx (zE l k)=false by simpa using he];revert h0 hf hl hp;obtain⟨f,rfl⟩|rfl:(∃f',f=f'+1)\/f=0:=by cases f with
   |zero=>exact .inr rfl
   |succ f=>exact .inl ⟨f,rfl⟩
  ·intro h0 hf hl hp;obtain⟨j,rfl⟩:=pP h0;have hj:j<l.length:=by omega
   have hjf:j<=f:=by omega
   obtain⟨⟨kd,t,m,ks,a⟩,hx⟩:∃x,l[j]? =some x:=⟨_,glE hj⟩;have F:=zk5 H hx hp;have hkd:zE l j=kd:=by unfold zE;rw[wE,hx];rfl
   rw[hkd] at ht he;rw[zeC hx,show ((j:Int)+1).toNat=j+1 by omega];simp only at F;have hm:kd=60\/kd=61\/kd=62:=by
    simp only[yN.is,wF,pG,pH] at ht;rcases ht with h|h
    ·omega
    ·exact absurd h he
   try simp only[vw,yX,xA,xT,xm,jC,qi,qu,vf,qt,xB,if_true,if_false,Bool.false_eq_true]
   rcases hm with rfl|rfl|rfl
   ·obtain rfl:m=0:=by simpa[xw] using F.num
    obtain⟨b,rfl⟩:=ks1 F.len.1 F.len.2;obtain⟨_,_,q,eq⟩:=F.chn;have eq:(b+1).toNat=j:=eq;refine⟨?_,List.cons_ne_nil _ _,rfl⟩;show Rn l n _ ((5,[108,101,116]) :: (1,t) :: (6,[61]) :: wNd l f b) _ _ _ _
    repeat' first|exact zbP|refine zew (fun _=>rfl) (fun _=>?_)|refine zey (fun _=>rfl) (fun _=>?_)|refine zbM (fun _=>rfl) ?_
    refine zef (hR.expr.kid (F.inn b (by simp)) hj hjf (F.sut 0 Nat.zero_lt_one) q hr) ?_;rw[eq];exact zef (zdf hx rfl rfl rfl rfl) zbP
   ·obtain rfl:m=0:=by simpa[xw] using F.num
    obtain⟨b,rfl⟩:=ks1 F.len.1 F.len.2;obtain⟨_,_,q,eq⟩:=F.chn;have eq:(b+1).toNat=j:=eq;refine⟨?_,List.cons_ne_nil _ _,rfl⟩;show Rn l n _ ((5,[118,97,114]) :: (1,t) :: (6,[61]) :: wNd l f b) _ _ _ _
    repeat' first|exact zbP|refine zew (fun _=>rfl) (fun _=>?_)|refine zey (fun _=>rfl) (fun _=>?_)|refine zbM (fun _=>rfl) ?_
    refine zef (hR.expr.kid (F.inn b (by simp)) hj hjf (F.sut 0 Nat.zero_lt_one) q hr) ?_;rw[eq];exact zef (zdf hx rfl rfl rfl rfl) zbP
   ·obtain rfl:m=0:=by simpa[xw] using F.num
    obtain rfl:t=[]:=F.ttl;obtain⟨b,c,rfl⟩:=ks2 F.len.1 F.len.2;obtain⟨_,_,q,_,_,s,es⟩:=F.chn;have es:(c+1).toNat=j:=es;have e:pcT (zez l (pcN l f) ⟨62,[],0,[b,c],a⟩)=wNd l f b ++ (6,[58,61]) :: wNd l f c:=zdi _ _;have h5:(zE l b == 5 || zE l b == 23)=true:=by simpa[zS] using F.sut 0 (by simp)
    have h6:zx (zE l b)=true:=by
     rw[wF,pS,pS] at h5;rcases h5 with h|h <;> rw[h] <;> rfl
    have hb:=F.inn b (by simp);have hh:HdE (qj (zE l b)) (wNd l f b):=by
     obtain⟨i,rfl⟩:=pP hb.1;exact zmk H i f (by omega) (by omega) h6
    rw[e];refine⟨?_,fun e=>hh.ne (List.append_eq_nil_iff.1 e).1,by rw[zhY hh.ne];exact zml hh.bad (by decide)⟩;refine zbM (fun z=>?_) (zbM (fun z=>?_) ?_)
    ·rw[wS,zhY hh.ne];exact zml hh.bad (by decide)
    ·rw[wS,zhY hh.ne];exact zml hh.bad (by decide)
    ·refine zcN (hR.expr.kid hb hj hjf h6 q rfl) (znD (by omega) ?_);rw[if_pos h5]
     repeat' first|exact zbP|refine zew (fun _=>rfl) (fun _=>?_)|refine zey (fun _=>rfl) (fun _=>?_)|refine zbM (fun _=>rfl) ?_
     refine zef (hR.expr.kid (F.inn c (by simp)) hj hjf (by simpa[zS] using F.sut 1 (by simp)) s hr) ?_;rw[es];exact zef (zdf hx rfl rfl rfl rfl) zbP
  ·intro h0 hf;omega
end
section
variable {l:List Nd} {n:Nat} {R:xN}
def zmM(last:Bool):List (List KTt)->List KTt
 |[]=>[]
 |[x]=>x ++ (if last then [] else [(6,[59])])
 |x :: r=>x ++ (6,[59]) :: zmM last r
theorem zoV{pc:Int->List Pc}{f:Nat}(hpc:pc=pcN l f)(last:Bool):∀(ks:List Int),pcT (zki pc last ks)=zmM last (ks.map (wNd l f))
 |[]=>rfl
 |[k]=>by
  subst hpc;show pcT (pcN l f k ++ _)=wNd l f k ++ _
  rw[zdi];cases last <;> rfl
 |k :: j :: r=>by
  show pcT (pc k ++ sg [59] :: sp :: zki pc last (j :: r))=wNd l f k ++ (6,[59]) :: zmM last ((j :: r).map (wNd l f))
  rw[zdi,<-zoV hpc last (j :: r),hpc];rfl
variable (H:Hl l) (hR:RR l n R)
include H hR
theorem zmT{f j:Nat}(hj:j<l.length)(hf:j<=f){last:Bool}{r:List KTt}:∀(ks:List Int) (acc:List Int) (k p q:Nat),(ks=[]->last=false)->(∀z,ks.getLast? =some z->last=true->zx (zE l z)=true)->ziV l p ks q->(∀x∈ks,0<=x/\x<(j:Int))->(∀x∈ks,yN.stmt.is (zE l x)=true)->
 (zmM last (ks.map (wNd l f)) ++ (6,[125]) :: r).length<k->Rn l n (yR R k acc) (zmM last (ks.map (wNd l f))) p (acc ++ ks,if last then 1 else 0) q ((6,[125]) :: r)
 |_,_,0,_,_,_,_,_,_,_,hk=>absurd hk (wG _)
 |[],acc,k+1,p,q,h1,_,hc,_,_,_=>by
  cases hc;rw[h1 rfl,wN];simp only[yR];exact zgW true rfl (by rw[if_pos rfl];exact zbP)
 |[x],acc,k+1,p,q,_,h2,hc,hi,hs,hk=>by
  obtain⟨_,_,h3,h4⟩:=hc;have h4:(x+1).toNat=q:=h4;have hx:=hi x (List.mem_singleton_self x);have hsx:=hs x (List.mem_singleton_self x);simp only[yR,yX];cases last with
  |true=>
   obtain⟨a1,a2,a3⟩:=zmH H hR (f:=f) (r:=(6,[125]) :: r) hx.1 (by omega) (by omega) hsx h3 rfl rfl;rw[h2 x rfl rfl,h4] at a1;have e:zmM true ([x].map (wNd l f))=wNd l f x:=wN _;rw[e];refine zgW false (by rw[zhY a2];exact a3) ?_;rw[if_neg (by decide)];refine zef a1 (zgW true rfl ?_);rw[if_pos rfl];exact zbP
  |false=>
   obtain⟨a1,a2,a3⟩:=zmH H hR (f:=f) (r:=(6,[59]) :: (6,[125]) :: r) hx.1 (by omega) (by omega) hsx h3 rfl rfl;rw[h4] at a1;have e:zmM false ([x].map (wNd l f))=wNd l f x ++ [(6,[59])]:=rfl;rw[e] at hk ⊢;refine zgW false (by rw[wS,zhY a2];exact a3) ?_;rw[if_neg (by decide)];refine zcN a1 (zgW false rfl ?_);rw[Bool.and_false,if_neg (by decide)];refine zey (fun _=>rfl) fun _=>?_
   obtain⟨k,rfl⟩:∃k',k=k'+1:=⟨k-1,by simp at hk;omega⟩;simp only[yR];exact zgW true rfl (by rw[if_pos rfl];exact zbP)
 |x :: y :: ks,acc,k+1,p,q,_,h2,hc,hi,hs,hk=>by
  obtain⟨_,_,h3,h4⟩:=hc;have hx:=hi x (List.mem_cons_self ..);have hsx:=hs x (List.mem_cons_self ..);have e:zmM last ((x :: y :: ks).map (wNd l f))=wNd l f x ++ (6,[59]) :: zmM last ((y :: ks).map (wNd l f)):=rfl;obtain⟨a1,a2,a3⟩:=zmH H hR (f:=f) (r:=(6,[59]) :: (zmM last ((y :: ks).map (wNd l f)) ++ (6,[125]) :: r)) hx.1 (by omega) (by omega) hsx h3 rfl rfl;rw[e] at hk ⊢;have ih:=zmT hj hf (last:=last) (r:=r) (y :: ks) (acc ++ [x]) k (x+1).toNat q (fun h=>by cases h) (fun z hz=>h2 z (by rw[List.getLast?_cons_cons];exact hz)) h4 (fun z hz=>hi z (pY _ hz)) (fun z hz=>hs z (pY _ hz)) (by simp only[pC,pK] at hk ⊢;omega);rw[wS] at ih;simp only[yR,yX];refine zgW false (by rw[wS,zhY a2];exact a3) ?_;rw[if_neg (by decide)];refine zcN a1 (zgW false rfl ?_);rw[Bool.and_false,if_neg (by decide)];exact zey (fun _=>rfl) fun _=>ih
theorem znP:Rdt l (n+1) (qE R) (· == 28) zny:=by
 intro f k p r h0 hf hl ht hp hr;obtain⟨j,rfl⟩:=pP h0;obtain⟨f,rfl⟩:∃f',f=f'+1:=⟨f-1,by omega⟩;have hj:j<l.length:=by omega
 have hjf:j<=f:=by omega
 obtain⟨⟨kd,t,m,ks,a⟩,hx⟩:∃x,l[j]? =some x:=⟨_,glE hj⟩;have F:=zk5 H hx hp;have hkd:zE l j=kd:=by unfold zE;rw[wE,hx];rfl
 rw[hkd] at ht;rw[zeC hx,show ((j:Int)+1).toNat=j+1 by omega];simp only at F;obtain rfl:kd=28:=by simpa using ht
 obtain rfl:t=[]:=F.ttl
 try simp only[qE,yX,xA,xT,xm,jC,qi,qu,vf,qt,xB,if_true,if_false,Bool.false_eq_true]
 have hnum:m=0\/(m=1/\0<ks.length):=by simpa[xw] using F.num
 have hs:∀x∈ks,yN.stmt.is (zE l x)=true:=fun x hx=>by
  obtain⟨i,hi,rfl⟩:=List.mem_iff_getElem.1 hx;have:=F.sut i hi;rw[pA,glE hi] at this;have h2:(yN.stmt.is (zE l ks[i]) && (decide (i+1<ks.length) || m == 0 || zx (zE l ks[i])))=true:=this;rw[pG] at h2;exact h2.1
 have hlast:∀z,ks.getLast? =some z->(m != 0)=true->zx (zE l z)=true:=fun z hz hm=>by
  have hne:ks≠[]:=fun e=>by rw[e] at hz;cases hz
  have hlen:0<ks.length:=List.length_pos_iff.2 hne;have:=F.sut (ks.length-1) (by omega);rw[pA,<-List.getLast?_eq_getElem?,hz] at this;have h2:(yN.stmt.is (zE l z) && (decide (ks.length-1+1<ks.length) || m == 0 || zx (zE l z)))=true:=this;rw[pG] at h2;have h3:decide (ks.length-1+1<ks.length)=false:=by simp;omega
  have h4:(m == 0)=false:=by simpa using hm
  rw[h3,h4] at h2;simpa using h2.2
 have e:pcT (zez l (pcN l f) ⟨28,[],m,ks,a⟩)=(6,[123]) :: (zmM (m != 0) (ks.map (wNd l f)) ++ [(6,[125])]):=by
  show pcT (if ks=[] then [sg [123],sg [125]] else sg [123] :: sp :: (zki (pcN l f) (m != 0) ks ++ [sg [125]]))=_
  split
  ·rename_i h;subst h;rfl
  ·show (6,[123]) :: pcT (zki (pcN l f) (m != 0) ks ++ [sg [125]])=_
   rw[zdi,zoV rfl];rfl
 rw[e];refine zew (fun _=>rfl) fun _=>?_
 refine zcN (a:=(ks,if (m != 0) then 1 else 0)) (p1:=j) (fun hn E s hs2=>zmT H hR hj hjf ks [] (E.toks.length+1) p j (fun h=>?_) hlast F.chn F.inn hs (zmG hs2) hn E s hs2) ?_
 ·subst h;rcases hnum with h|⟨_,h⟩
  ·rw[h];rfl
  ·exact absurd h (Nat.lt_irrefl 0)
 ·refine zey (fun _=>rfl) fun _=>zdf hx rfl rfl ?_ rfl
  rcases hnum with rfl|⟨rfl,_⟩ <;> rfl
omit H hR in
theorem zmu{f:Nat}{k:Int}(h0:0<=k)(hf:k<f)(hl:k<l.length)(ht:zE l k=28):∃w,wNd l f k=(6,[123]) :: w:=by
 obtain⟨j,rfl⟩:=pP h0;obtain⟨f,rfl⟩:∃f',f=f'+1:=⟨f-1,by omega⟩;obtain⟨⟨kd,t,m,ks,a⟩,hx⟩:∃x,l[j]? =some x:=⟨_,glE (by omega)⟩;have hkd:zE l j=kd:=by unfold zE;rw[wE,hx];rfl
 rw[hkd] at ht;subst ht;rw[zeC hx];show ∃w,pcT (if ks=[] then [sg [123],sg [125]] else sg [123] :: sp :: (zki (pcN l f) (m != 0) ks ++ [sg [125]]))=_
 split <;> exact⟨_,rfl⟩
omit H hR in
theorem zm1{f:Nat}{k:Int}(h0:0<=k)(hf:k<f)(hl:k<l.length)(ht:zE l k=29):∃w,wNd l f k=(5,[105,102]) :: w:=by
 obtain⟨j,rfl⟩:=pP h0;obtain⟨f,rfl⟩:∃f',f=f'+1:=⟨f-1,by omega⟩;obtain⟨⟨kd,t,m,ks,a⟩,hx⟩:∃x,l[j]? =some x:=⟨_,glE (by omega)⟩;have hkd:zE l j=kd:=by unfold zE;rw[wE,hx];rfl
 rw[hkd] at ht;subst ht;rw[zeC hx];exact⟨_,rfl⟩
theorem zmI:Rdt l (n+1) (qh R) (· == 29) (noF [101,108,115,101]):=by
 intro f k p r h0 hf hl ht hp hr;obtain⟨j,rfl⟩:=pP h0;obtain⟨f,rfl⟩:∃f',f=f'+1:=⟨f-1,by omega⟩;have hj:j<l.length:=by omega
 have hjf:j<=f:=by omega
 obtain⟨⟨kd,t,m,ks,a⟩,hx⟩:∃x,l[j]? =some x:=⟨_,glE hj⟩;have F:=zk5 H hx hp;have hkd:zE l j=kd:=by unfold zE;rw[wE,hx];rfl
 rw[hkd] at ht;rw[zeC hx,show ((j:Int)+1).toNat=j+1 by omega];simp only at F;obtain rfl:kd=29:=by simpa using ht
 obtain rfl:m=0:=by simpa[xw] using F.num
 obtain rfl:t=[]:=F.ttl
 try simp only[qh,yX,xA,xT,xm,jC,qi,qu,vf,qt,xB,if_true,if_false,Bool.false_eq_true]
 have h2:2<=ks.length:=F.len.1;have h3:ks.length<=3:=F.len.2;by_cases h23:ks.length=2
 ·obtain⟨b,c,rfl⟩:=ks2 h2 (by omega);obtain⟨_,_,q,_,_,s,es⟩:=F.chn;have es:(c+1).toNat=j:=es;have hkc:zE l c=28:=by simpa[zS] using F.sut 1 (by simp)
  have hc:=F.inn c (by simp);obtain⟨w,hw⟩:=zmu (f:=f) hc.1 (by omega) (by omega) hkc;have e:pcT (zez l (pcN l f) ⟨29,[],0,[b,c],a⟩)=(5,[105,102]) :: (wNd l f b ++ wNd l f c):=by
   show (5,[105,102]) :: pcT (pcN l f b ++ sp :: (pcN l f c ++ []))=_
   rw[zdi,wN];rfl
  rw[e];refine zew (fun _=>rfl) fun _=>?_
  refine zcN (hR.expr.kid (F.inn b (by simp)) hj hjf (by simpa[zS] using F.sut 0 (by simp)) q (by rw[hw];rfl)) ?_;refine zef (hR.block.kid hc hj hjf (by simp[hkc]) s rfl) ?_;rw[es];exact zbM (fun _=>show isT (hd r) [[101,108,115,101]]=false by simpa[noF] using hr) (zdf hx rfl rfl rfl rfl)
 ·obtain⟨b,c,d,rfl⟩:=ks3 (by omega) h3;obtain⟨_,_,q,_,_,s,_,_,v,ev⟩:=F.chn;have ev:(d+1).toNat=j:=ev;have hkc:zE l c=28:=by simpa[zS] using F.sut 1 (by simp)
  have hkd2:zE l d=28\/zE l d=29:=by simpa[zS] using F.sut 2 (by simp)
  have hc:=F.inn c (by simp);have hd2:=F.inn d (by simp);obtain⟨w,hw⟩:=zmu (f:=f) hc.1 (by omega) (by omega) hkc;have e:pcT (zez l (pcN l f) ⟨29,[],0,[b,c,d],a⟩)=(5,[105,102]) :: (wNd l f b ++ (wNd l f c ++ (5,[101,108,115,101]) :: wNd l f d)):=by
   show (5,[105,102]) :: pcT (pcN l f b ++ sp :: (pcN l f c ++ sp :: kwd [101,108,115,101] :: sp :: pcN l f d))=_
   rw[zdi];show _ :: (_ ++ pcT (pcN l f c ++ sp :: kwd [101,108,115,101] :: sp :: pcN l f d))=_
   rw[zdi];rfl
  rw[e];refine zew (fun _=>rfl) fun _=>?_
  refine zcN (hR.expr.kid (F.inn b (by simp)) hj hjf (by simpa[zS] using F.sut 0 (by simp)) q (by rw[hw];rfl)) ?_;refine zcN (hR.block.kid hc hj hjf (by simp[hkc]) s rfl) ?_;refine zey (fun _=>rfl) fun _=>?_
  rcases hkd2 with h|h
  ·obtain⟨w2,hw2⟩:=zmu (f:=f) hd2.1 (by omega) (by omega) h;refine zgW false (by rw[hw2];rfl) ?_;rw[if_neg (by decide)];refine zef (hR.block.kid hd2 hj hjf (by simp[h]) v rfl) ?_;rw[ev];exact zdf hx rfl rfl rfl rfl
  ·obtain⟨w2,hw2⟩:=zm1 (f:=f) hd2.1 (by omega) (by omega) h;refine zgW true (by rw[hw2];rfl) ?_;rw[if_pos rfl];refine zef (hR.branch.kid hd2 hj hjf (by simp[h]) v hr) ?_;rw[ev];exact zdf hx rfl rfl rfl rfl
end
section
variable {l:List Nd} {n:Nat} {R:xN}
def zlw(w:Int->List KTt)(ks:List Int):List KTt:=ks.flatMap fun k=>(6,[44]) :: w k
theorem zlU(w:Int->List KTt):∀(x:Int) (ks:List Int),zgy ((x :: ks).map w)=w x ++ zlw w ks
 |x,[]=>(wN _).symm
 |x,y :: ks=>by
  show w x ++ (6,[44]) :: zgy ((y :: ks).map w)=_
  rw[zlU w y ks];rfl
theorem fr1{r:List KTt}(h:hd r=(6,[44])\/hd r=(6,[125])\/hd r=(6,[41])):frF 1 r=true:=by
 unfold frF;rcases h with h|h|h <;> rw[h] <;> rfl
theorem zm6(w:Int->List KTt){ks:List Int}{r:List KTt}(hr:frF 1 r=true):frF 1 (zlw w ks ++ r)=true:=by
 cases ks with
 |nil=>exact hr
 |cons k ks=>rfl
variable (H:Hl l) (hR:RR l n R)
include H hR
omit H in
theorem znc{f j:Nat}(hj:j<l.length)(hf:j<=f){r:List KTt}(hr:frF 1 r=true):∀(ks:List Int) (acc:List Int) (p q:Nat),ziV l p ks q->(∀x∈ks,0<=x/\x<(j:Int))->(∀x∈ks,zx (zE l x)=true)->
 Rn l n (qB R ks.length false acc) (zlw (wNd l f) ks) p (acc ++ ks) q r
 |[],acc,p,q,hc,_,_=>by
  cases hc;rw[wN];exact zbP
 |x :: ks,acc,p,q,hc,hi,hs=>by
  obtain⟨_,_,h3,h4⟩:=hc;have ih:=znc hj hf hr ks (acc ++ [x]) (x+1).toNat q h4 (fun z hz=>hi z (pY _ hz)) (fun z hz=>hs z (pY _ hz));rw[wS] at ih;show Rn l n (qB R (ks.length+1) false acc) ((6,[44]) :: (wNd l f x ++ zlw (wNd l f) ks)) p (acc ++ x :: ks) q r
  simp only[qB,yX,if_false,Bool.false_eq_true];refine zcN (w:=[(6,[44])]) (a:=()) (p1:=p) (zey (fun _=>rfl) fun _=>zbP) ?_;exact zcN (hR.expr.kid (hi x (List.mem_cons_self ..)) hj hf (hs x (List.mem_cons_self ..)) h3 (zm6 _ hr)) ih
omit H in
theorem znO{f j:Nat}(hj:j<l.length)(hf:j<=f){r:List KTt}(hr:frF 1 r=true){ks:List Int}(hne:ks≠[]){p q:Nat}(hc:ziV l p ks q)(hi:∀x∈ks,0<=x/\x<(j:Int))(hs:∀x∈ks,zx (zE l x)=true):
 Rn l n (qB R ks.length true []) (zgy (ks.map (wNd l f))) p ks q r:=by
 cases ks with
 |nil=>exact absurd rfl hne
 |cons x ks=>
  obtain⟨_,_,h3,h4⟩:=hc;rw[zlU];have ih:=znc hR hj hf hr ks [x] (x+1).toNat q h4 (fun z hz=>hi z (pY _ hz)) (fun z hz=>hs z (pY _ hz));show Rn l n (qB R (ks.length+1) true []) _ p _ q r
  simp only[qB,yX,if_true];refine zcN (w:=[]) (a:=()) (p1:=p) zbP ?_;exact zcN (hR.expr.kid (hi x (List.mem_cons_self ..)) hj hf (hs x (List.mem_cons_self ..)) h3 (zm6 _ hr)) ih
omit hR in
theorem zm3{f:Nat}{k:Int}{p:Nat}(h0:0<=k)(hl:k<l.length)(hp:loN l k+1=(p:Int)):∃j:Nat,k=(j:Int)/\∃x,l[j]? =some x/\zE l k=x.kind/\NF l j x.kind x.text x.n x.kids p/\wNd l (f+1) k=pcT (zez l (pcN l f) x):=by
 obtain⟨j,rfl⟩:=pP h0;obtain⟨x,hx⟩:∃x,l[j]? =some x:=⟨_,glE (by omega)⟩;exact⟨j,rfl,x,hx,by unfold zE;rw[wE,hx];rfl,zk5 H hx hp,zeC hx⟩
theorem znb{f j0:Nat}(hj0:j0<l.length)(hf:j0<=f){r:List KTt}(hr:frF 1 r=true)(hr2:isT (hd r) [[44]]=false):∀(ks:List Int) (acc:List Int) (k p q:Nat),ks≠[]->ziV l p ks q->(∀x∈ks,0<=x/\x<(j0:Int))->(∀x∈ks,yN.way.is (zE l x)=true)->(∀(i:Nat) (x:Int),ks[i]? =some x->i+1<ks.length->zE l x≠65)->
 (zgy (ks.map (wNd l f)) ++ r).length<k->Rn l n (jf R k acc) (zgy (ks.map (wNd l f))) p (acc ++ ks) q r
 |[],_,_,_,_,h,_,_,_,_,_=>absurd rfl h
 |_,_,0,_,_,_,_,_,_,_,hk=>absurd hk (wG _)
 |x :: ks,acc,k+1,p,q,_,hc,hi,hs,he,hk=>by
  obtain⟨_,hxl,h3,h4⟩:=hc;have hx:=hi x (List.mem_cons_self ..);have hsx:=hs x (List.mem_cons_self ..);obtain⟨f,rfl⟩:∃f',f=f'+1:=⟨f-1,by omega⟩;rw[zlU] at hk ⊢;have htl:Rn l n (ZO (isS [[44]]) (fun _=>jf R k (acc ++ [x])) (pure (acc ++ [x]))) (zlw (wNd l (f+1)) ks) (x+1).toNat (acc ++ x :: ks) q r:=by
   cases ks with
   |nil=>
    have h4:(x+1).toNat=q:=h4;rw[h4];exact zbM (fun _=>hr2) zbP
   |cons y ks=>
    have e:zlw (wNd l (f+1)) (y :: ks)=(6,[44]) :: zgy ((y :: ks).map (wNd l (f+1))):=by rw[zlU];rfl
    rw[e] at hk ⊢;have ih:=znb hj0 hf hr hr2 (y :: ks) (acc ++ [x]) k (x+1).toNat q (by simp) h4 (fun z hz=>hi z (pY _ hz)) (fun z hz=>hs z (pY _ hz)) (fun i z hz hl=>he (i+1) z (by rw[List.getElem?_cons_succ];exact hz) (by simp at hl ⊢;omega)) (by simp only[pC,pK] at hk ⊢;omega);rw[wS] at ih;exact zey (fun _=>rfl) fun _=>ih
  have hfr:=zm6 (wNd l (f+1)) (ks:=ks) hr;have h65:zE l x=65->ks=[]:=fun h=>by
   cases ks with
   |nil=>rfl
   |cons y ks=>exact absurd h (he 0 x rfl (by simp))
  obtain⟨j,rfl,⟨kd,t,m,kk,a⟩,hxx,hkd,F,hw⟩:=zm3 (f:=f) H hx.1 hxl h3;rw[hw];simp only at hkd F;rw[hkd] at hsx h65;have hjl:j<l.length:=by omega
  have hjf:j<=f:=by omega
  rw[show ((j:Int)+1).toNat=j+1 by omega] at htl h4;have hm:kd=63\/kd=64\/kd=65:=by
   simp only[yN.is,pG,pH] at hsx;omega
  try simp only[jf,yX,xA,xT,xm,jC,qi,qu,vf,qt,xB,if_true,if_false,Bool.false_eq_true]
  rcases hm with rfl|rfl|rfl
  ·obtain rfl:m=0:=by simpa[xw] using F.num
   obtain⟨b,c,rfl⟩:=ks2 F.len.1 F.len.2;obtain⟨_,_,u,_,_,v,ev⟩:=F.chn;have ev:(c+1).toNat=j:=ev;have e:pcT (zez l (pcN l f) ⟨63,t,0,[b,c],a⟩) ++ zlw (wNd l (f+1)) ks=(5,[114,101,99,118]) :: (wNd l f b ++ (5,[97,115]) :: (1,t) :: (6,[61,62]) :: (wNd l f c ++ zlw (wNd l (f+1)) ks)):=by
    show (5,[114,101,99,118]) :: pcT (pcN l f b ++ sp :: kwd [97,115] :: sp :: nm t :: sp :: sg [61,62] :: sp :: pcN l f c) ++ _=_
    rw[zdi,pT,wS];rfl
   rw[e];refine zey (fun _=>rfl) fun _=>?_
   refine zcN (hR.expr.kid (F.inn b (by simp)) hjl hjf (by simpa[zS] using F.sut 0 (by simp)) u rfl) ?_
   repeat' first|exact zbP|refine zew (fun _=>rfl) (fun _=>?_)|refine zey (fun _=>rfl) (fun _=>?_)|refine zbM (fun _=>rfl) ?_
   refine zcN (hR.expr.kid (F.inn c (by simp)) hjl hjf (by simpa[zS] using F.sut 1 (by simp)) v hfr) ?_;rw[ev];exact zcN (w:=[]) (zdf hxx rfl rfl rfl rfl) htl
  ·obtain rfl:m=0:=by simpa[xw] using F.num
   obtain rfl:t=[]:=F.ttl;obtain⟨b,c,d,rfl⟩:=ks3 F.len.1 F.len.2;obtain⟨_,_,u,_,_,v,_,_,y,ey⟩:=F.chn;have ey:(d+1).toNat=j:=ey;have e:pcT (zez l (pcN l f) ⟨64,[],0,[b,c,d],a⟩) ++ zlw (wNd l (f+1)) ks=(5,[115,101,110,100]) :: (wNd l f b ++ (6,[44]) :: (wNd l f c ++ (6,[61,62]) :: (wNd l f d ++ zlw (wNd l (f+1)) ks))):=by
    show (5,[115,101,110,100]) :: pcT ((pcN l f b ++ sg [44] :: sp :: pcN l f c) ++ sp :: sg [61,62] :: sp :: pcN l f d) ++ _=_
    rw[zdi,zdi,pT,wS,wS];rfl
   rw[e];refine zbM (fun _=>rfl) (zey (fun _=>rfl) fun _=>?_);refine zcN (hR.expr.kid (F.inn b (by simp)) hjl hjf (by simpa[zS] using F.sut 0 (by simp)) u rfl) ?_
   repeat' first|exact zbP|refine zew (fun _=>rfl) (fun _=>?_)|refine zey (fun _=>rfl) (fun _=>?_)|refine zbM (fun _=>rfl) ?_
   refine zcN (hR.expr.kid (F.inn c (by simp)) hjl hjf (by simpa[zS] using F.sut 1 (by simp)) v rfl) ?_
   repeat' first|exact zbP|refine zew (fun _=>rfl) (fun _=>?_)|refine zey (fun _=>rfl) (fun _=>?_)|refine zbM (fun _=>rfl) ?_
   refine zcN (hR.expr.kid (F.inn d (by simp)) hjl hjf (by simpa[zS] using F.sut 2 (by simp)) y hfr) ?_;rw[ey];exact zcN (w:=[]) (zdf hxx rfl rfl rfl rfl) htl
  ·obtain rfl:m=0:=by simpa[xw] using F.num
   obtain rfl:t=[]:=F.ttl;obtain rfl:=h65 rfl;have h4:j+1=q:=h4;obtain⟨b,rfl⟩:=ks1 F.len.1 F.len.2;obtain⟨_,_,u,eu⟩:=F.chn;have eu:(b+1).toNat=j:=eu;have e:pcT (zez l (pcN l f) ⟨65,[],0,[b],a⟩) ++ zlw (wNd l (f+1)) []=(5,[101,108,115,101]) :: (6,[61,62]) :: wNd l f b:=wN _;rw[e];refine zbM (fun _=>rfl) (zbM (fun _=>rfl) (zey (fun _=>rfl) fun _=>zey (fun _=>rfl) fun _=>?_));refine zef (hR.expr.kid (F.inn b (by simp)) hjl hjf (by simpa[zS] using F.sut 0 (by simp)) u hr) ?_;rw[eu,<-h4];exact zef (zdf hxx rfl rfl rfl rfl) zbP
end
section
variable {l:List Nd} {n:Nat} {R:xN}
def zoq(k:Nat):Bool:=[29,30,31,33,34,35,36,26,40].contains k
theorem ziS{f:Nat}(ks:List Int)(pc:Int->List Pc)(hpc:pc=pcN l f):pcT (zgQ pc ks)=zgy (ks.map (wNd l f)):=by
 subst hpc;unfold zgQ;rw[znn,List.map_map];rfl
variable (H:Hl l) (hR:RR l n R)
include H hR
theorem zne{f:Nat}{k:Int}{p:Nat}{r:List KTt}(h0:0<=k)(hf:k<f)(hl:k<l.length)(ht:zoq (zE l k)=true)(hp:loN l k+1=(p:Int))(hr:zE l k=29->noF [101,108,115,101] r=true):
 Rn l (n+1) (qP >>= fun t=>yA R t) (wNd l f k) p k (k+1).toNat r:=by
 obtain⟨f,rfl⟩:∃f',f=f'+1:=⟨f-1,by omega⟩;obtain⟨j,rfl,⟨kd,t,m,ks,a⟩,hx,hkd,F,hw⟩:=zm3 (f:=f) H h0 hl hp;simp only at hkd F;have hjl:j<l.length:=by omega
 have hjf:j<=f:=by omega
 have h29:kd=29->Rn l (n+1) (qh R) (wNd l (f+1) j) p j ((j:Int)+1).toNat r:=fun h=>zmI H hR (f+1) j p r h0 hf hl (by rw[hkd,h];rfl) hp (hr (hkd.trans h))
 have hb29:kd=29->∃w,wNd l (f+1) j=(5,[105,102]) :: w:=fun h=>zm1 h0 hf hl (hkd.trans h)
 rw[hkd] at ht;have hm:kd∈[29,30,31,33,34,35,36,26,40]:=by simpa[zoq] using ht
 simp only[wD,wH,or_false] at hm;have ej:((j:Int)+1).toNat=j+1:=by omega
 try simp only[yA,xQ,jP,yX,xA,xT,xm,jC,qi,qu,vf,qt,xB,if_true,if_false,Bool.false_eq_true]
 rcases hm with rfl|rfl|rfl|rfl|rfl|rfl|rfl|rfl|rfl
 ·obtain⟨w,e⟩:=hb29 rfl;refine zgW true (by rw[e];rfl) ?_;rw[if_pos rfl];exact h29 rfl
 ·rw[hw,ej];obtain rfl:m=0:=by simpa[xw] using F.num
  obtain rfl:t=[]:=F.ttl;obtain⟨b,c,rfl⟩:=ks2 F.len.1 F.len.2;obtain⟨_,_,q,_,_,s,es⟩:=F.chn;have es:(c+1).toNat=j:=es;have hkc:zE l c=28:=by simpa[zS] using F.sut 1 (by simp)
  have hc:=F.inn c (by simp);obtain⟨w,hw2⟩:=zmu (f:=f) hc.1 (by omega) (by omega) hkc;have e:pcT (zez l (pcN l f) ⟨30,[],0,[b,c],a⟩)=(5,[119,104,105,108,101]) :: (wNd l f b ++ wNd l f c):=by
   show (5,[119,104,105,108,101]) :: pcT (pcN l f b ++ sp :: pcN l f c)=_
   rw[zdi];rfl
  rw[e];refine zgW false rfl ?_;rw[if_neg (by decide)];refine zew (fun _=>rfl) fun _=>?_
  refine zcN (hR.expr.kid (F.inn b (by simp)) hjl hjf (by simpa[zS] using F.sut 0 (by simp)) q (by rw[hw2];rfl)) ?_;refine zef (hR.block.kid hc hjl hjf (by simp[hkc]) s rfl) ?_;rw[es];exact zdf hx rfl rfl rfl rfl
 ·rw[hw,ej];obtain rfl:m=0:=by simpa[xw] using F.num
  obtain rfl:t=[]:=F.ttl;obtain⟨b,zs,rfl⟩:∃b zs,ks=b :: zs:=by
   cases ks with
   |nil=>exact absurd F.len.1 (by decide)
   |cons b zs=>exact⟨b,zs,rfl⟩
  have hne:zs≠[]:=fun h=>by
   subst h;exact absurd (show 2<=1 from F.len.1) (by decide)
  obtain⟨_,_,q,hc2⟩:=F.chn;have has:∀x∈zs,(zE l x == 32)=true:=fun x hxx=>by
   obtain⟨i,hi,rfl⟩:=List.mem_iff_getElem.1 hxx;have:=F.sut (i+1) (by simp;omega);rw[List.getD_cons_succ,pA,glE hi] at this;simpa[zS] using this
  have e:pcT (zez l (pcN l f) ⟨31,[],0,b :: zs,a⟩)=(5,[109,97,116,99,104]) :: (wNd l f b ++ (6,[123]) :: (zgy (zs.map (wNd l f)) ++ [(6,[125])])):=by
   show (5,[109,97,116,99,104]) :: pcT (pcN l f b ++ sp :: sg [123] :: sp :: (zgQ (pcN l f) zs ++ [sp,sg [125]]))=_
   rw[zdi];show _ :: (_ ++ _ :: pcT (zgQ (pcN l f) zs ++ [sp,sg [125]]))=_
   rw[zdi,ziS _ _ rfl];rfl
  rw[e];refine zgW false rfl ?_;rw[if_neg (by decide)];refine zbM (fun _=>rfl) (zew (fun _=>rfl) fun _=>?_);refine zcN (hR.expr.kid (F.inn b (by simp)) hjl hjf (by simpa[zS] using F.sut 0 (by simp)) q rfl) ?_;refine zef (p1:=j) (a:=zs) (zey (fun _=>rfl) fun _=>?_) (zdf hx rfl rfl rfl rfl);refine zcN (zlQ (zou H hR) hjl hjf hne hc2 (fun y hy=>F.inn y (pY _ hy)) has rfl rfl fun r' h'=>fr1 (.inl h')) ?_;exact zey (fun _=>rfl) fun _=>zbP
 ·rw[hw,ej];obtain rfl:m=0:=by simpa[xw] using F.num
  obtain rfl:t=[]:=F.ttl;have h2:2<=ks.length:=F.len.1;obtain⟨zs,c,rfl⟩:=zmh (ks:=ks) (by omega);obtain⟨ps,b,rfl⟩:=zmh (ks:=zs) (by simp at h2;omega);have hsu:∀i,i<(ps ++ [b] ++ [c]).length->zS 33 0 (ps ++ [b] ++ [c]).length i (zE l ((ps ++ [b] ++ [c]).getD i 0))=true:=F.sut;obtain⟨q,c1,_,_,c4,c5⟩:=(zkh _ _ _ _).1 F.chn;have c5:(c+1).toNat=j:=c5;have hc:=F.inn c (by simp);have hkc:zE l c=28:=by
   have:=hsu (ps.length+1) (by simp);simp[zS] at this;omega
  have hkb:yN.type.is (zE l b)=true:=by
   have:=hsu ps.length (by simp);simp[zS] at this;simpa using this
  have hps:∀x∈ps,zE l x=88:=fun x hxx=>by
   obtain⟨i,hi,rfl⟩:=List.mem_iff_getElem.1 hxx;have:=hsu i (by simp;omega);rw[pA,wS,wQ hi,glE hi] at this;simp[zS] at this;omega
  have e:pcT (zez l (pcN l f) ⟨33,[],0,ps ++ [b] ++ [c],a⟩)=(5,[102,110]) :: (((6,[40]) :: (zgy (ps.map (wNd l f)) ++ (6,[41]) :: (6,[58]) :: wNd l f b)) ++ wNd l f c):=by
   show (5,[102,110]) :: pcT (zhO (pcN l f) ⟨33,[],0,ps ++ [b] ++ [c],a⟩ [c].length ++ sp :: pcN l f (zN ⟨33,[],0,ps ++ [b] ++ [c],a⟩ ((ps ++ [b] ++ [c]).length-1)))=_
   rw[zdi,znu rfl];have:zN ⟨33,[],0,ps ++ [b] ++ [c],a⟩ ((ps ++ [b] ++ [c]).length-1)=c:=by unfold zN;simp
   rw[this];rfl
  rw[e];refine zgW false rfl ?_;rw[if_neg (by decide)];refine zbM (fun _=>rfl) (zbM (fun _=>rfl) (zew (fun _=>rfl) fun _=>?_));refine zcN (zmp H hR hjl hjf c1 (fun x hxx=>F.inn x (List.mem_append_left _ hxx)) hps hkb) ?_;refine zef (hR.block.kid hc hjl hjf (by simp[hkc]) c4 rfl) ?_;rw[c5];exact zdf hx rfl rfl rfl rfl
 ·rw[hw,ej];obtain rfl:m=0:=by simpa[xw] using F.num
  obtain⟨b,c,rfl⟩:=ks2 F.len.1 F.len.2;obtain⟨_,_,q,_,_,s,es⟩:=F.chn;have es:(c+1).toNat=j:=es;have hkb:zE l b=28:=by simpa[zS] using F.sut 0 (by simp)
  have hkc:zE l c=28:=by simpa[zS] using F.sut 1 (by simp)
  have e:pcT (zez l (pcN l f) ⟨34,t,0,[b,c],a⟩)=(5,[116,114,121]) :: (wNd l f b ++ (5,[99,97,116,99,104]) :: (1,t) :: wNd l f c):=by
   show (5,[116,114,121]) :: pcT (pcN l f b ++ sp :: kwd [99,97,116,99,104] :: sp :: nm t :: sp :: pcN l f c)=_
   rw[zdi];rfl
  rw[e];refine zgW false rfl ?_;rw[if_neg (by decide)];refine zbM (fun _=>rfl) (zbM (fun _=>rfl) (zbM (fun _=>rfl) (zew (fun _=>rfl) fun _=>?_)));refine zcN (hR.block.kid (F.inn b (by simp)) hjl hjf (by simp[hkb]) q rfl) ?_
  repeat' first|exact zbP|refine zew (fun _=>rfl) (fun _=>?_)|refine zey (fun _=>rfl) (fun _=>?_)|refine zbM (fun _=>rfl) ?_
  refine zef (hR.block.kid (F.inn c (by simp)) hjl hjf (by simp[hkc]) s rfl) ?_;rw[es];exact zdf hx rfl rfl rfl rfl
 ·rw[hw,ej];obtain rfl:m=0:=by simpa[xw] using F.num
  obtain rfl:t=[]:=F.ttl;have hne:ks≠[]:=fun h=>by
   subst h;exact absurd F.len.1 (by decide)
  have hs1:∀i,(hi:i<ks.length)->yN.way.is (zE l ks[i])=true/\(i+1<ks.length->zE l ks[i]≠65):=fun i hi=>by
   have:=F.sut i hi;rw[pA,glE hi] at this;have h2:(yN.way.is (zE l ks[i]) && (decide (i+1=ks.length) || zE l ks[i] != 65))=true:=this;rw[pG] at h2;refine⟨h2.1,fun h3=>?_⟩;have h4:=h2.2;rw[show decide (i+1=ks.length)=false by simp;omega] at h4;simpa using h4
  have e:pcT (zez l (pcN l f) ⟨35,[],0,ks,a⟩)=(5,[115,101,108,101,99,116]) :: (6,[123]) :: (zgy (ks.map (wNd l f)) ++ [(6,[125])]):=by
   show (5,[115,101,108,101,99,116]) :: (6,[123]) :: pcT (zgQ (pcN l f) ks ++ [sp,sg [125]])=_
   rw[zdi,ziS _ _ rfl];rfl
  rw[e];refine zgW false rfl ?_;rw[if_neg (by decide)];refine zbM (fun _=>rfl) (zbM (fun _=>rfl) (zbM (fun _=>rfl) (zbM (fun _=>rfl) (zbM (fun _=>rfl) (zbM (fun _=>rfl) (zbM (fun _=>rfl) (zew (fun _=>rfl) fun _=>?_)))))));refine zef (p1:=j) (a:=ks) (zey (fun _=>rfl) fun _=>?_) (zdf hx rfl rfl rfl rfl);refine zcN (a:=ks) (p1:=j) (fun hn E s hs2=>znb H hR hjl hjf rfl rfl ks [] (E.toks.length+1) p j hne F.chn F.inn (fun x hxx=>?_) (fun i x hi hl=>?_) (zmG hs2) hn E s hs2) ?_
  ·obtain⟨i,hi,rfl⟩:=List.mem_iff_getElem.1 hxx;exact (hs1 i hi).1
  ·obtain⟨hi2,rfl⟩:=gE.1 hi;exact (hs1 i hi2).2 hl
  ·exact zey (fun _=>rfl) fun _=>zbP
 ·rw[hw,ej];obtain rfl:m=0:=by simpa[xw] using F.num
  obtain⟨b,c,d,rfl⟩:=ks3 F.len.1 F.len.2;obtain⟨_,_,q,_,_,s,_,_,v,ev⟩:=F.chn;have ev:(d+1).toNat=j:=ev;have hkc:zE l c=28:=by simpa[zS] using F.sut 1 (by simp)
  have hkd2:zE l d=28:=by simpa[zS] using F.sut 2 (by simp)
  have e:pcT (zez l (pcN l f) ⟨36,t,0,[b,c,d],a⟩)=(5,[104,111,108,100]) :: (wNd l f b ++ (5,[97,115]) :: (1,t) :: (wNd l f c ++ (5,[101,108,115,101]) :: wNd l f d)):=by
   show (5,[104,111,108,100]) :: pcT (pcN l f b ++ sp :: kwd [97,115] :: sp :: nm t :: sp :: (pcN l f c ++ sp :: kwd [101,108,115,101] :: sp :: pcN l f d))=_
   rw[zdi];show _ :: (_ ++ _ :: _ :: pcT (pcN l f c ++ sp :: kwd [101,108,115,101] :: sp :: pcN l f d))=_
   rw[zdi];rfl
  rw[e];refine zgW false rfl ?_;rw[if_neg (by decide)];refine zbM (fun _=>rfl) (zbM (fun _=>rfl) (zbM (fun _=>rfl) (zbM (fun _=>rfl) (zew (fun _=>rfl) fun _=>?_))));refine zcN (hR.expr.kid (F.inn b (by simp)) hjl hjf (by simpa[zS] using F.sut 0 (by simp)) q rfl) ?_
  repeat' first|exact zbP|refine zew (fun _=>rfl) (fun _=>?_)|refine zey (fun _=>rfl) (fun _=>?_)|refine zbM (fun _=>rfl) ?_
  refine zcN (hR.block.kid (F.inn c (by simp)) hjl hjf (by simp[hkc]) s rfl) ?_
  repeat' first|exact zbP|refine zew (fun _=>rfl) (fun _=>?_)|refine zey (fun _=>rfl) (fun _=>?_)|refine zbM (fun _=>rfl) ?_
  refine zef (hR.block.kid (F.inn d (by simp)) hjl hjf (by simp[hkd2]) v rfl) ?_;rw[ev];exact zdf hx rfl rfl rfl rfl
 ·rw[hw,ej];obtain rfl:m=0:=by simpa[xw] using F.num
  have hne:ks≠[]:=fun h=>by
   subst h;exact absurd F.len.1 (by decide)
  have e:pcT (zez l (pcN l f) ⟨26,t,0,ks,a⟩)=(5,[110,101,119]) :: (2,t) :: (6,[123]) :: (zgy (ks.map (wNd l f)) ++ [(6,[125])]):=by
   show (5,[110,101,119]) :: (2,t) :: (6,[123]) :: pcT (zgQ (pcN l f) ks ++ [sp,sg [125]])=_
   rw[zdi,ziS _ _ rfl];rfl
  rw[e];refine zgW false rfl ?_;rw[if_neg (by decide)];refine zbM (fun _=>rfl) (zbM (fun _=>rfl) (zbM (fun _=>rfl) (zbM (fun _=>rfl) (zbM (fun _=>rfl) (zew (fun _=>rfl) fun _=>zey (fun _=>rfl) fun _=>?_)))));refine zef (p1:=j) (a:=ks) (zey (fun _=>rfl) fun _=>?_) (zdf hx rfl rfl rfl rfl);refine zcN (zlQ (zot H hR) hjl hjf hne F.chn F.inn (zkb F fun _ _=>rfl) rfl rfl fun r' h'=>fr1 (.inl h')) ?_;exact zey (fun _=>rfl) fun _=>zbP
 ·rw[hw,ej];obtain rfl:t=[]:=F.ttl;have hnum:0<=m/\m<=1000000000:=by simpa[xw] using F.num
  obtain⟨b,rfl⟩:=ks1 F.len.1 F.len.2;obtain⟨_,_,q,eq⟩:=F.chn;have eq:(b+1).toNat=j:=eq;have e:pcT (zez l (pcN l f) ⟨40,[],m,[b],a⟩)=(5,[99,104,97,110]) :: (wNd l f b ++ [(6,[40]),(3,Go.Lib.itoa m),(6,[41])]):=by
   show (5,[99,104,97,110]) :: pcT (pcN l f b ++ [sg [40],nu m,sg [41]])=_
   rw[zdi];rfl
  rw[e];refine zgW false rfl ?_;rw[if_neg (by decide)];refine zbM (fun _=>rfl) (zbM (fun _=>rfl) (zbM (fun _=>rfl) (zbM (fun _=>rfl) (zbM (fun _=>rfl) (zbM (fun _=>rfl) (zew (fun _=>rfl) fun _=>?_))))));refine zcN (hR.kind.kid (F.inn b (by simp)) hjl hjf (by simpa[zS] using F.sut 0 (by simp)) q rfl) ?_
  repeat' first|exact zbP|refine zew (fun _=>rfl) (fun _=>?_)|refine zey (fun _=>rfl) (fun _=>?_)|refine zbM (fun _=>rfl) ?_
  rw[eq];refine zdf hx rfl rfl ?_ rfl;show m=(xR (Go.Lib.itoa m):Int)
  rw[zmq hnum.1]
end
section
variable {l:List Nd} {n:Nat} {R:xN}
def zoT(k:Nat):Bool:=[1,2,3,4,5,25,41,42,43,44,45,46,47,48,49,50,51].contains k
variable (hR:RR l n R)
include hR
theorem zk4{w:List UInt8}{kd c j f:Nat}{t:List UInt8}{m:Int}{ks:List Int}{a:Int}{p:Nat}{r:List KTt}(hj:j<l.length)(hf:j<=f)(hx:l[j]? =some ⟨kd,[],0,ks,a⟩)(F:NF l j kd t m ks p)
 (h1:(fun z:Int=>(isK 3 ⟨5,w,z⟩,isK 4 ⟨5,w,z⟩,isK 1 ⟨5,w,z⟩,isK 2 ⟨5,w,z⟩,isS [[40]] ⟨5,w,z⟩,isS [[116,114,117,101]] ⟨5,w,z⟩,isS [[102,97,108,115,101]] ⟨5,w,z⟩,isO ⟨5,w,z⟩))=fun _=>(false,false,false,false,false,false,false,true)) (h2:(xV w).getD (0,0)=(kd,(c:Int))) (hc:0<c) (hl:c=ks.length) (hs:∀k∈ks,zx (zE l k)=true)
 {u:List KTt} (hu:u=(5,w) :: (6,[40]) :: (zgy (ks.map (wNd l f)) ++ [(6,[41])])):Rn l (n+1) (vB R) u p (j:Int) (j+1) r:=by
 subst hu;have hz:=fun z=>congrFun h1 z
 simp only[Prod.mk.injEq] at hz;rw[zbE];refine zbM (fun z=>(hz z).1) (zbM (fun z=>(hz z).2.1) (zbM (fun z=>(hz z).2.2.1) (zbM (fun z=>(hz z).2.2.2.1) (zbM (fun z=>(hz z).2.2.2.2.1) (zbM (fun z=>(hz z).2.2.2.2.2.1) (zbM (fun z=>(hz z).2.2.2.2.2.2.1) (zew (fun z=>(hz z).2.2.2.2.2.2.2) fun z=>?_)))))));simp only;rw[h2];unfold jK;refine zef (a:=ks) (p1:=j) ?_ (zdf hx rfl rfl rfl rfl);simp only;rw[if_neg (by omega),if_pos (by omega)];simp only[yX];refine zey (fun _=>rfl) fun _=>?_
 rw[show ((c:Nat):Int).toNat=ks.length by omega];refine zcN (znO hR hj hf (fr1 (.inr (.inr rfl))) (fun e=>by rw[e] at hl;simp at hl;omega) F.chn F.inn hs) ?_;exact zey (fun _=>rfl) fun _=>zbP
variable (H:Hl l)
include H
theorem zn6{f:Nat}{k:Int}{p:Nat}{r:List KTt}(h0:0<=k)(hf:k<f)(hl:k<l.length)(ht:zoT (zE l k)=true)(hp:loN l k+1=(p:Int))(hr:zE l k=25->((l[k.toNat]?).elim [] Nd.kids).isEmpty=true->isT (hd r) [[40]]=false):
 Rn l (n+1) (vB R) (wNd l f k) p k (k+1).toNat r:=by
 obtain⟨f,rfl⟩:∃f',f=f'+1:=⟨f-1,by omega⟩;obtain⟨j,rfl,⟨kd,t,m,ks,a⟩,hx,hkd,F,hw⟩:=zm3 (f:=f) H h0 hl hp;simp only at hkd F;have hjl:j<l.length:=by omega
 have hjf:j<=f:=by omega
 rw[hkd] at ht hr;rw[wE,hx] at hr;have hm:kd∈[1,2,3,4,5,25,41,42,43,44,45,46,47,48,49,50,51]:=by simpa[zoT] using ht
 simp only[wD,wH,or_false] at hm;rw[hw,show ((j:Int)+1).toNat=j+1 by omega];rcases hm with rfl|rfl|rfl|rfl|rfl|rfl|rfl|rfl|rfl|rfl|rfl|rfl|rfl|rfl|rfl|rfl|rfl
 ·rw[zbE];obtain rfl:t=[]:=F.ttl;obtain⟨rfl,rfl⟩:=zjS F F.len.2;show Rn l (n+1) _ [(3,Go.Lib.itoa m)] _ _ _ _
  refine zew (fun _=>rfl) fun _=>zdf hx rfl rfl ?_ rfl
  show m=(xR (Go.Lib.itoa m):Int)
  have hm0:0<=m:=by
   have:=F.num;simp[xw] at this;omega
  rw[zmq hm0]
 ·rw[zbE];obtain rfl:m=0:=by simpa[xw] using F.num
  obtain⟨rfl,rfl⟩:=zjS F F.len.2;show Rn l (n+1) _ [(4,t)] _ _ _ _
  exact zbM (fun _=>rfl) (zew (fun _=>rfl) fun _=>zdf hx rfl rfl rfl rfl)
 ·rw[zbE];obtain rfl:t=[]:=F.ttl;obtain⟨rfl,rfl⟩:=zjS F F.len.2;have hm2:m=0\/m=1:=by simpa[xw] using F.num
  rcases hm2 with rfl|rfl
  ·show Rn l (n+1) _ [(5,[102,97,108,115,101])] _ _ _ _
   refine zbM (fun _=>rfl) (zbM (fun _=>rfl) (zbM (fun _=>rfl) (zbM (fun _=>rfl) (zbM (fun _=>rfl) (zbM (fun _=>rfl) (zew (fun _=>rfl) fun _=>?_))))));exact zdf hx rfl rfl rfl rfl
  ·show Rn l (n+1) _ [(5,[116,114,117,101])] _ _ _ _
   refine zbM (fun _=>rfl) (zbM (fun _=>rfl) (zbM (fun _=>rfl) (zbM (fun _=>rfl) (zbM (fun _=>rfl) (zew (fun _=>rfl) fun _=>?_)))));exact zdf hx rfl rfl rfl rfl
 ·rw[zbE];obtain rfl:m=0:=by simpa[xw] using F.num
  obtain rfl:t=[]:=F.ttl;obtain⟨rfl,rfl⟩:=zjS F F.len.2;show Rn l (n+1) _ [(6,[40]),(6,[41])] _ _ _ _
  refine zbM (fun _=>rfl) (zbM (fun _=>rfl) (zbM (fun _=>rfl) (zbM (fun _=>rfl) (zew (fun _=>rfl) fun _=>zey (fun _=>rfl) fun _=>?_))));exact zdf hx rfl rfl rfl rfl
 ·rw[zbE];obtain rfl:m=0:=by simpa[xw] using F.num
  obtain⟨rfl,rfl⟩:=zjS F F.len.2;show Rn l (n+1) _ [(1,t)] _ _ _ _
  exact zbM (fun _=>rfl) (zbM (fun _=>rfl) (zew (fun _=>rfl) fun _=>zdf hx rfl rfl rfl rfl))
 ·rw[zbE];obtain rfl:m=0:=by simpa[xw] using F.num
  show Rn l (n+1) _ ((2,t) :: pcT (ziU (pcN l f) ks)) _ _ _ _
  refine zbM (fun _=>rfl) (zbM (fun _=>rfl) (zbM (fun _=>rfl) (zew (fun _=>rfl) fun _=>?_)));refine zef (zmJ hR.expr hjl hjf F.chn F.inn (zkb F fun _ _=>rfl) (fun e=>hr rfl (by rw[e];rfl)) fun g r' hg h'=>?_) (zdf hx rfl rfl rfl rfl);refine fr1 ?_;simp only[wD,wH,or_false] at hg;rcases hg with rfl|rfl
  ·exact .inl h'
  ·exact .inr (.inr h')
 ·obtain rfl:m=0:=by simpa[xw] using F.num
  obtain rfl:t=[]:=F.ttl;refine zk4 hR (w:=[115,101,110,100]) (c:=2) hjl hjf hx F rfl rfl (by decide) ?_ (zkb F fun _ _=>rfl) ?_
  ·exact Nat.le_antisymm (show 2<=ks.length from F.len.1) (show ks.length<=2 from F.len.2)
  ·show (5,[115,101,110,100]) :: (6,[40]) :: pcT (zgQ (pcN l f) ks ++ [sg [41]])=_
   rw[zdi,ziS _ _ rfl];rfl
 ·obtain rfl:m=0:=by simpa[xw] using F.num
  obtain rfl:t=[]:=F.ttl;refine zk4 hR (w:=[114,101,99,118]) (c:=1) hjl hjf hx F rfl rfl (by decide) ?_ (zkb F fun _ _=>rfl) ?_
  ·exact Nat.le_antisymm (show 1<=ks.length from F.len.1) (show ks.length<=1 from F.len.2)
  ·show (5,[114,101,99,118]) :: (6,[40]) :: pcT (zgQ (pcN l f) ks ++ [sg [41]])=_
   rw[zdi,ziS _ _ rfl];rfl
 ·obtain rfl:m=0:=by simpa[xw] using F.num
  obtain rfl:t=[]:=F.ttl;refine zk4 hR (w:=[111,117,116]) (c:=1) hjl hjf hx F rfl rfl (by decide) ?_ (zkb F fun _ _=>rfl) ?_
  ·exact Nat.le_antisymm (show 1<=ks.length from F.len.1) (show ks.length<=1 from F.len.2)
  ·show (5,[111,117,116]) :: (6,[40]) :: pcT (zgQ (pcN l f) ks ++ [sg [41]])=_
   rw[zdi,ziS _ _ rfl];rfl
 ·rw[zbE];obtain rfl:m=0:=by simpa[xw] using F.num
  obtain rfl:t=[]:=F.ttl;obtain⟨rfl,rfl⟩:=zjS F F.len.2;show Rn l (n+1) _ [(5,[105,110])] _ _ _ _
  refine zbM (fun _=>rfl) (zbM (fun _=>rfl) (zbM (fun _=>rfl) (zbM (fun _=>rfl) (zbM (fun _=>rfl) (zbM (fun _=>rfl) (zbM (fun _=>rfl) (zew (fun _=>rfl) fun _=>?_)))))));exact zef (w:=[]) (p1:=p) zbP (zdf hx rfl rfl rfl rfl)
 ·rw[zbE];obtain rfl:m=0:=by simpa[xw] using F.num
  obtain rfl:t=[]:=F.ttl;obtain⟨rfl,rfl⟩:=zjS F F.len.2;show Rn l (n+1) _ [(5,[121,105,101,108,100])] _ _ _ _
  refine zbM (fun _=>rfl) (zbM (fun _=>rfl) (zbM (fun _=>rfl) (zbM (fun _=>rfl) (zbM (fun _=>rfl) (zbM (fun _=>rfl) (zbM (fun _=>rfl) (zew (fun _=>rfl) fun _=>?_)))))));exact zef (w:=[]) (p1:=p) zbP (zdf hx rfl rfl rfl rfl)
 ·rw[zbE];obtain rfl:m=0:=by simpa[xw] using F.num
  obtain rfl:t=[]:=F.ttl;obtain⟨rfl,rfl⟩:=zjS F F.len.2;show Rn l (n+1) _ [(5,[99,111,108,108,101,99,116])] _ _ _ _
  refine zbM (fun _=>rfl) (zbM (fun _=>rfl) (zbM (fun _=>rfl) (zbM (fun _=>rfl) (zbM (fun _=>rfl) (zbM (fun _=>rfl) (zbM (fun _=>rfl) (zew (fun _=>rfl) fun _=>?_)))))));exact zef (w:=[]) (p1:=p) zbP (zdf hx rfl rfl rfl rfl)
 ·obtain rfl:m=0:=by simpa[xw] using F.num
  obtain rfl:t=[]:=F.ttl;refine zk4 hR (w:=[115,105,122,101]) (c:=1) hjl hjf hx F rfl rfl (by decide) ?_ (zkb F fun _ _=>rfl) ?_
  ·exact Nat.le_antisymm (show 1<=ks.length from F.len.1) (show ks.length<=1 from F.len.2)
  ·show (5,[115,105,122,101]) :: (6,[40]) :: pcT (zgQ (pcN l f) ks ++ [sg [41]])=_
   rw[zdi,ziS _ _ rfl];rfl
 ·obtain rfl:m=0:=by simpa[xw] using F.num
  obtain rfl:t=[]:=F.ttl;refine zk4 hR (w:=[98,121,116,101]) (c:=2) hjl hjf hx F rfl rfl (by decide) ?_ (zkb F fun _ _=>rfl) ?_
  ·exact Nat.le_antisymm (show 2<=ks.length from F.len.1) (show ks.length<=2 from F.len.2)
  ·show (5,[98,121,116,101]) :: (6,[40]) :: pcT (zgQ (pcN l f) ks ++ [sg [41]])=_
   rw[zdi,ziS _ _ rfl];rfl
 ·obtain rfl:m=0:=by simpa[xw] using F.num
  obtain rfl:t=[]:=F.ttl;refine zk4 hR (w:=[99,117,116]) (c:=3) hjl hjf hx F rfl rfl (by decide) ?_ (zkb F fun _ _=>rfl) ?_
  ·exact Nat.le_antisymm (show 3<=ks.length from F.len.1) (show ks.length<=3 from F.len.2)
  ·show (5,[99,117,116]) :: (6,[40]) :: pcT (zgQ (pcN l f) ks ++ [sg [41]])=_
   rw[zdi,ziS _ _ rfl];rfl
 ·obtain rfl:m=0:=by simpa[xw] using F.num
  obtain rfl:t=[]:=F.ttl;refine zk4 hR (w:=[115,104,111,119]) (c:=1) hjl hjf hx F rfl rfl (by decide) ?_ (zkb F fun _ _=>rfl) ?_
  ·exact Nat.le_antisymm (show 1<=ks.length from F.len.1) (show ks.length<=1 from F.len.2)
  ·show (5,[115,104,111,119]) :: (6,[40]) :: pcT (zgQ (pcN l f) ks ++ [sg [41]])=_
   rw[zdi,ziS _ _ rfl];rfl
 ·obtain rfl:m=0:=by simpa[xw] using F.num
  obtain rfl:t=[]:=F.ttl;refine zk4 hR (w:=[114,101,97,100]) (c:=1) hjl hjf hx F rfl rfl (by decide) ?_ (zkb F fun _ _=>rfl) ?_
  ·exact Nat.le_antisymm (show 1<=ks.length from F.len.1) (show ks.length<=1 from F.len.2)
  ·show (5,[114,101,97,100]) :: (6,[40]) :: pcT (zgQ (pcN l f) ks ++ [sg [41]])=_
   rw[zdi,ziS _ _ rfl];rfl
end
section
variable {l:List Nd} {n:Nat} {R:xN}
abbrev wKd(l:List Nd)(f:Nat)(k:Int)(c:Nat):List KTt:=pcT (zgS l (pcN l f) k c)
def zno(l:List Nd)(n:Nat)(m:PM Int)(c:Nat):Prop:=∀(f:Nat) (k:Int) (p:Nat) (r:List KTt),0<=k->k<f->k<l.length->zx (zE l k)=true->loN l k+1=(p:Int)->frF c r=true->Rn l n m (wKd l f k c) p k (k+1).toNat r
structure RU(l:List Nd)(n:Nat)(R:xN):Prop where
 rr:RR l n R
 unary:zno l n R.unary 7
 bin2:zno l n R.bin2 3
theorem zmz{f:Nat}{k:Int}{c:Nat}(h:qj (zE l k)<c):wKd l f k c=(6,[40]) :: (wNd l f k ++ [(6,[41])]):=by
 unfold wKd zgS;rw[if_pos h];show (6,[40]) :: pcT (pcN l f k ++ [sg [41]])=_
 rw[zdi];rfl
theorem zlH{f:Nat}{k:Int}{c:Nat}(h:c<=qj (zE l k)):wKd l f k c=wNd l f k:=by
 unfold wKd zgS;rw[if_neg (by omega)];rfl
theorem znK{x:KTt}(h:isT x zor=false):isT x [[41]]=false:=by
 unfold isT zor at *;cases h5:(x.1 == 5 || x.1 == 6) with
 |false=>rfl
 |true=>
  rw[h5] at h;simp only[Bool.true_and,List.contains_cons,Bool.or_eq_false_iff] at h ⊢;exact⟨h.1,rfl⟩
variable (H:Hl l) (hR:RR l n R)
include H hR
theorem zmC{f:Nat}{k:Int}{p:Nat}{r:List KTt}(h0:0<=k)(hf:k<f)(hl:k<l.length)(ht:zx (zE l k)=true)(hp:loN l k+1=(p:Int)):Rn l (n+1) (vB R) ((6,[40]) :: (wNd l f k ++ [(6,[41])])) p k (k+1).toNat r:=by
 obtain⟨j,rfl⟩:=pP h0;have hd1:=zmk H j f (by omega) (by omega) ht;have hb:=znK hd1.bad;rw[zbE];refine zbM (fun _=>rfl) (zbM (fun _=>rfl) (zbM (fun _=>rfl) (zbM (fun _=>rfl) (zew (fun _=>rfl) fun _=>zbM (fun z=>?_) ?_))))
 ·rw[wS,zhY hd1.ne];exact hb
 ·exact zcN (hR.expr f j p _ h0 hf hl ht hp (fr1 (.inr (.inr rfl)))) (zey (fun _=>rfl) fun _=>zbP)
omit H hR in
theorem zkx{w w2:List KTt}{v:Int}{p p1 q:Nat}{b:Int}{r:List KTt}(h:Rn l (n+1) (vB R) w p v p1 (w2 ++ r))(hk:∀k,(w2 ++ r).length<k->Rn l (n+1) (jL R k v) w2 p1 b q r):Rn l (n+1) (vB R >>= fun left=>(fun E s=>jL R (E.toks.length+1) left E s:PM Int)) (w ++ w2) p b q r:=
 zcN h fun hn E s hs=>hk _ (zmG hs) hn E s hs
omit H in
theorem zn7(H:Hl l){f j:Nat}(hj:j<l.length)(hf:j<=f){ks:List Int}{p q:Nat}{r:List KTt}(hc:ziV l p ks q)(hi:∀k∈ks,0<=k/\k<(j:Int))(hs:∀k∈ks,zx (zE l k)=true)(hr:hd r=(6,[41])):
 Rn l n (uU [[41]] >>= fun b=>if b=true then pure [] else kC R.expr) (zgy (ks.map (wNd l f))) p ks q r:=by
 cases ks with
 |nil=>
  cases hc;refine zgW true ?_ zbP;show isT (hd r) _=true
  rw[hr];rfl
 |cons x zs=>
  have hx:=hi x (List.mem_cons_self ..);obtain⟨i,hxi⟩:=pP hx.1;have hd1:=zmk H i f (by omega) (by omega) (by rw[<-hxi];exact hs x (List.mem_cons_self ..));refine zgW false ?_ ?_
  ·rw[zlU,wS,hxi,zhY hd1.ne];exact znK hd1.bad
  ·rw[if_neg (by decide)];exact zlQ hR.expr hj hf (by simp) hc hi hs (by rw[hr];rfl) (fr1 (.inr (.inr hr))) fun r' h'=>fr1 (.inl h')
end
end Lode
