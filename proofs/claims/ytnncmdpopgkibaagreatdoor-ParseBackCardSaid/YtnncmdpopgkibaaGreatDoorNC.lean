/-
  A part of the proof: contracts of functions; no conditions.
-/
import Derived.Test.YtnncmdpopgkibaaGreatDoorNB
import Derived.Lib.AtoiAll
import Derived.Lib.ItoaNum
import GoSem.Op.String
import Derived.Lib.LastIndexByte
import Derived.Lib.Bytealg
import Derived.Laws.Runes
import Derived.Deep.RegionHeld3
import Derived.Deep.DrawnRows
import Derived.Deep.AppendLies
import Derived.Maps.Range
import Derived.WalkMore
import Derived.Deep.LoopGhost
import Derived.Shelf.Strings.BuilderF
import Derived.Test.YtnncmdpopgkibaaGreatDoorProg
import Derived.WalkKit
import Derived.WalkLawsBesides
import Derived.WalkSpells
import Derived.Lib.ConvBytes
import Derived.Shelf.Abstract
import Derived.Deep.RegionWith
import Derived.Deep.Light
import Derived.Deep.QuietTactic
import Derived.BigQuiet
import Derived.Shelf.Strings.Builder1
import Derived.Shelf.Strings.Builder2
import Derived.Shelf.Strings.OnBuilder
import Derived.Shelf.Small.Strs
import Derived.Shelf.Small.Wraps
import Derived.Shelf.Strconv.Atoi
import Derived.Shelf.Strconv.Itoa0
import Derived.Shelf.Strconv.Itoa1
import Derived.Shelf.LaysM
import Derived.Shelf.Strconv.Itoa2
import Derived.Shelf.Strconv.Itoa3
import Derived.Shelf.Strconv.AtoiErrFast
import Derived.Shelf.Strconv.ParseIntEmpty
import Derived.Shelf.Strconv.AtoiFail
import Derived.Shelf.Strconv.Clone
import Derived.Shelf.Strconv.SyntaxError
import Derived.Shelf.LaysC
import Derived.Shelf.Strconv.ToError
import Derived.Shelf.Strconv.Lower
import Derived.Shelf.Strconv.ParseUint10
import Derived.Shelf.Strconv.ParseUint10Empty
import Derived.Shelf.Strconv.ParseUint10Any
import Derived.Shelf.Strconv.ParseInt10
import Derived.Shelf.Strconv.AtoiLong
import Derived.Shelf.Strconv.AtoiInnerAll
import Derived.Shelf.Strconv.RangeError
import Derived.Shelf.Strconv.ToErrorRange
import Derived.Shelf.Strconv.AtoiAll
import Derived.Shelf.Strconv.ErrVarAll
import Derived.Shelf.Strings.Search1
import Derived.Shelf.Strings.Search2
import Derived.Shelf.Strings.Search3
import Derived.Shelf.Strings.Shaped
import Derived.Shelf.Strings.Prefix
import Derived.Shelf.Strings.Fields
import Derived.Shelf.Strings.SplitShaped
import Derived.Shelf.Unicode.Latin
import Derived.Shelf.Bits.Mul64
import Derived.Shelf.Unicode.Is16White
import Derived.Shelf.Unicode.IsSpaceAny
import Derived.Shelf.Unicode.Is16Any
import Derived.Shelf.Unicode.Is32Any
import Derived.Shelf.Unicode.ExclAny
import Derived.Shelf.Slices.Turned
import Derived.Shelf.Slices.Reverse
import Derived.Shelf.Slices.Equal
import Derived.Ground.Names2Prog
import Derived.Shelf.Slices.Clone
import Derived.Shelf.Slices.Cells
import Derived.Shelf.Slices.Empties2
import Derived.Ground.SlgnProg
import Derived.Shelf.SlicesE.Index
import Derived.Shelf.SlicesE.Clone
import Derived.Lib.AppendIntMem
import Derived.Shelf.RegionOpen
import Derived.OwnWalkIn
import Derived.TacticsInMore
import Derived.LoopNIn
import Derived.LoopIn
import Derived.Deep.Onto
import Derived.Lib.QuietBelow
import Derived.RegionTactic
import Derived.Still
import Derived.RangeFuncNested
import Derived.RangeFuncBound
import Derived.RangeFuncCalls
import Derived.RangeFuncLeaves
import Derived.RangeFuncKeeps
import Derived.Deep.MidRow
import Derived.Deep.Upon
import Derived.OwnWalk
import Derived.OneCell
import Derived.OrdersIn
import Derived.TacticsIn
import Derived.Laws.CopyOwn
import Derived.Laws.MakeOwn
import Derived.Laws.OwnMore
import Derived.Recover
import Derived.Lib.OthersKept
import Derived.MapKept
import Derived.Carry
set_option maxRecDepth 100000
set_option maxHeartbeats 40000000
set_option linter.unusedSimpArgs false
set_option linter.unusedVariables false
namespace Lode
section
variable {l:List Nd} {n:Nat} {R:xN}
theorem znQ{k:Nat}(h:zx k=true)(hr:7<qj k):k=23\/k=24\/zoT k=true\/zoq k=true:=by
 have hm:=zmt h;simp only[wD,wH,or_false] at hm;rcases hm with rfl|rfl|rfl|rfl|rfl|rfl|rfl|rfl|rfl|rfl|rfl|rfl|rfl|rfl|rfl|rfl|rfl|rfl|rfl|rfl|rfl|rfl|rfl|rfl|rfl|rfl|rfl|rfl|rfl|rfl|rfl|rfl|rfl|rfl|rfl|rfl|rfl|rfl|rfl|rfl|rfl|rfl|rfl|rfl|rfl|rfl|rfl|rfl
 all_goals first|exact .inr (.inr (.inl rfl))|exact .inr (.inr (.inr rfl))|exact .inl rfl|exact .inr (.inl rfl)|exact absurd hr (by decide)
theorem zop{r:List KTt}{u:List KTt}{p:Nat}{v:Int}{q:Nat}(hd1:∀z,(isK 3 ⟨(hd (u ++ r)).1,(hd (u ++ r)).2,z⟩=false/\isK 4 ⟨(hd (u ++ r)).1,(hd (u ++ r)).2,z⟩=false/\isK 1 ⟨(hd (u ++ r)).1,(hd (u ++ r)).2,z⟩=false/\isK 2 ⟨(hd (u ++ r)).1,(hd (u ++ r)).2,z⟩=false/\isS [[40]] ⟨(hd (u ++ r)).1,(hd (u ++ r)).2,z⟩=false/\isS [[116,114,117,101]] ⟨(hd (u ++ r)).1,(hd (u ++ r)).2,z⟩=false/\isS [[102,97,108,115,101]] ⟨(hd (u ++ r)).1,(hd (u ++ r)).2,z⟩=false/\isO ⟨(hd (u ++ r)).1,(hd (u ++ r)).2,z⟩=false))
 (h:Rn l n (qP >>= fun t=>yA R t) u p v q r):Rn l n (vB R) u p v q r:=by
 rw[zbE];exact zbM (fun z=>(hd1 z).1) (zbM (fun z=>(hd1 z).2.1) (zbM (fun z=>(hd1 z).2.2.1) (zbM (fun z=>(hd1 z).2.2.2.1) (zbM (fun z=>(hd1 z).2.2.2.2.1) (zbM (fun z=>(hd1 z).2.2.2.2.2.1) (zbM (fun z=>(hd1 z).2.2.2.2.2.2.1) (zbM (fun z=>(hd1 z).2.2.2.2.2.2.2) h)))))))
theorem zoR{f j:Nat}(hf:j<f)(hj:j<l.length)(ht:zoq (zE l j)=true):∃x w,wNd l f j=(5,x) :: w/\x∈[[105,102],[119,104,105,108,101],[109,97,116,99,104],[102,110],[104,111,108,100],[115,101,108,101,99,116],[116,114,121],[110,101,119],[99,104,97,110]]:=by
 obtain⟨f,rfl⟩:∃f',f=f'+1:=⟨f-1,by omega⟩;obtain⟨⟨kd,t,m,ks,a⟩,hx⟩:∃x,l[j]? =some x:=⟨_,glE hj⟩;have e0:zE l j=kd:=by unfold zE;rw[wE,hx];rfl
 rw[e0] at ht;rw[zeC hx];have hm:kd∈[29,30,31,33,34,35,36,26,40]:=by simpa[zoq] using ht
 simp only[wD,wH,or_false] at hm;rcases hm with rfl|rfl|rfl|rfl|rfl|rfl|rfl|rfl|rfl
 all_goals exact⟨_,_,rfl,by decide⟩
variable (H:Hl l) (hR:RR l n R)
include H hR
theorem zn1:∀(j f:Nat) (p:Nat) (w2 r:List KTt) (b:Int) (q:Nat),j<f->j<l.length->zx (zE l j)=true->7<qj (zE l j)->loN l j+1=(p:Int)->(zE l j=25->((l[j]?).elim [] Nd.kids).isEmpty=true->isT (hd (w2 ++ r)) [[40]]=false)->(zE l j=29->noF [101,108,115,101] (w2 ++ r)=true)->
 (∀k,(w2 ++ r).length<k->Rn l (n+1) (jL R k j) w2 (j+1) b q r)->Rn l (n+1) (vB R >>= fun left=>(fun E s=>jL R (E.toks.length+1) left E s:PM Int)) (wNd l f j ++ w2) p b q r:=by
 intro j;induction j using Nat.strongRecOn with
 |ind j ih=>
  intro f p w2 r b q hf hj ht hrk hp h25 h29 hk;obtain⟨f,rfl⟩:∃f',f=f'+1:=⟨f-1,by omega⟩;rcases znQ ht hrk with hkd|hkd|hkd|hkd
  ·obtain⟨⟨kd,t,m,ks,a⟩,hx⟩:∃x,l[j]? =some x:=⟨_,glE hj⟩;have F:=zk5 H hx hp;have e0:zE l j=kd:=by unfold zE;rw[wE,hx];rfl
   rw[hkd] at e0;subst e0;simp only at F;obtain rfl:m=0:=by simpa[xw] using F.num
   obtain⟨c,rfl⟩:=ks1 F.len.1 F.len.2;obtain⟨_,_,hc3,ec⟩:=F.chn;have ec:(c+1).toNat=j:=ec;have hci:=F.inn c (by simp);have hce:zx (zE l c)=true:=by simpa[zS] using F.sut 0 (by simp)
   have e:wNd l (f+1) j ++ w2=wKd l f c 8 ++ ((6,[46]) :: (1,t) :: w2):=by
    rw[zeC hx];show pcT (zgS l (pcN l f) c 8 ++ [sg [46],nm t]) ++ w2=_
    rw[zdi,wS];rfl
   have hpost:∀k,(((6,[46]) :: (1,t) :: w2) ++ r).length<k->Rn l (n+1) (jL R k c) ((6,[46]) :: (1,t) :: w2) (c+1).toNat b q r:=fun k hkk=>by
    obtain⟨k,rfl⟩:∃k',k=k'+1:=⟨k-1,by omega⟩
    try simp only[jL,yX,xA,xT,xm,jC,qi,qu,vf,qt,xB,if_true,if_false,Bool.false_eq_true]
    refine zey (fun _=>rfl) fun _=>zey (fun _=>rfl) fun _=>?_
    rw[ec];exact zcN (w:=[]) (zdf hx rfl rfl rfl rfl) (hk k (by simp only[pT,pK] at hkk;omega))
   rw[e];obtain⟨i,rfl⟩:=pP hci.1;rcases Nat.lt_or_ge (qj (zE l i)) 8 with h8|h8
   ·rw[zmz h8];exact zkx (zmC H hR hci.1 (by omega) (by omega) hce hc3) hpost
   ·rw[zlH h8];rw[show ((i:Int)+1).toNat=i+1 by omega] at hpost;exact ih i (by omega) f p _ r b q (by omega) (by omega) hce (by omega) hc3 (fun _ _=>rfl) (fun _=>rfl) hpost
  ·obtain⟨⟨kd,t,m,ks,a⟩,hx⟩:∃x,l[j]? =some x:=⟨_,glE hj⟩;have F:=zk5 H hx hp;have e0:zE l j=kd:=by unfold zE;rw[wE,hx];rfl
   rw[hkd] at e0;subst e0;simp only at F;obtain rfl:m=0:=by simpa[xw] using F.num
   obtain rfl:t=[]:=F.ttl;obtain⟨c,zs,rfl⟩:∃c zs,ks=c :: zs:=by
    cases ks with
    |nil=>exact absurd F.len.1 (by decide)
    |cons c zs=>exact⟨c,zs,rfl⟩
   obtain⟨_,_,hc3,hc4⟩:=F.chn;have hall:=zkb F (is:=zx) fun _ _=>rfl
   have hci:=F.inn c (List.mem_cons_self ..);have hce:=hall c (List.mem_cons_self ..);have hpost:∀k,(((6,[40]) :: (zgy (zs.map (wNd l f)) ++ (6,[41]) :: w2)) ++ r).length<k->Rn l (n+1) (jL R k c) ((6,[40]) :: (zgy (zs.map (wNd l f)) ++ (6,[41]) :: w2)) (c+1).toNat b q r:=fun k hkk=>by
    obtain⟨k,rfl⟩:∃k',k=k'+1:=⟨k-1,by omega⟩
    try simp only[jL,yX,xA,xT,xm,jC,qi,qu,vf,qt,xB,if_true,if_false,Bool.false_eq_true]
    refine zbM (fun _=>rfl) (zew (fun _=>rfl) fun _=>?_);refine zcN (zn7 hR H hj (by omega) hc4 (fun y hy=>F.inn y (pY _ hy)) (fun y hy=>hall y (pY _ hy)) rfl) ?_;refine zey (fun _=>rfl) fun _=>?_
    exact zcN (w:=[]) (zdf hx rfl rfl rfl rfl) ((hk k (by simp only[pT,pK,pC] at hkk ⊢;omega)).mono (Nat.le_succ n))
   obtain⟨i,rfl⟩:=pP hci.1;have eT:∀P:List Pc,pcT (P ++ sg [40] :: (zgQ (pcN l f) zs ++ [sg [41]])) ++ w2=pcT P ++ ((6,[40]) :: (zgy (zs.map (wNd l f)) ++ (6,[41]) :: w2)):=fun P=>by
    rw[zdi,wS];show pcT P ++ (6,[40]) :: (pcT (zgQ (pcN l f) zs ++ [sg [41]]) ++ w2)=_
    rw[zdi,ziS _ _ rfl,wS];rfl
   by_cases h25c:(zE l (i:Int) == 25 && ((l[i]?).elim [] Nd.kids).isEmpty)=true
   ·have e:wNd l (f+1) j ++ w2=((6,[40]) :: (wNd l f i ++ [(6,[41])])) ++ ((6,[40]) :: (zgy (zs.map (wNd l f)) ++ (6,[41]) :: w2)):=by
     rw[zeC hx];show pcT ((if (zE l (i:Int) == 25 && ((l[i]?).elim [] Nd.kids).isEmpty)=true then sg [40] :: (zgS l (pcN l f) i 8 ++ [sg [41]]) else zgS l (pcN l f) i 8) ++ sg [40] :: (zgQ (pcN l f) zs ++ [sg [41]])) ++ w2=_
     rw[if_pos h25c,eT];refine congrArg (· ++ _) ?_;show (6,[40]) :: pcT (zgS l (pcN l f) i 8 ++ [sg [41]])=_
     have h25k:zE l (i:Int)=25:=by
      rw[pG,pS] at h25c;exact h25c.1
     have e9:=zlH (l:=l) (f:=f) (k:=(i:Int)) (c:=8) (by rw[h25k];decide);unfold wKd at e9;rw[zdi,e9];rfl
    rw[e];exact zkx (zmC H hR hci.1 (by omega) (by omega) hce hc3) hpost
   ·have e:wNd l (f+1) j ++ w2=wKd l f i 8 ++ ((6,[40]) :: (zgy (zs.map (wNd l f)) ++ (6,[41]) :: w2)):=by
     rw[zeC hx];show pcT ((if (zE l (i:Int) == 25 && ((l[i]?).elim [] Nd.kids).isEmpty)=true then sg [40] :: (zgS l (pcN l f) i 8 ++ [sg [41]]) else zgS l (pcN l f) i 8) ++ sg [40] :: (zgQ (pcN l f) zs ++ [sg [41]])) ++ w2=_
     rw[if_neg h25c,eT]
    rw[e];rcases Nat.lt_or_ge (qj (zE l i)) 8 with h8|h8
    ·rw[zmz h8];exact zkx (zmC H hR hci.1 (by omega) (by omega) hce hc3) hpost
    ·rw[zlH h8];rw[show ((i:Int)+1).toNat=i+1 by omega] at hpost;exact ih i (by omega) f p _ r b q (by omega) (by omega) hce (by omega) hc3 (fun h1 h2=>absurd (by rw[h1,h2];rfl) h25c) (fun _=>rfl) hpost
  ·have h9:=zn6 (r:=w2 ++ r) hR H (f:=f+1) (k:=j) (p:=p) (by omega) (by omega) (by omega) hkd hp (fun h1 h2=>h25 h1 (by rw[wE] at h2;exact h2));rw[show ((j:Int)+1).toNat=j+1 by omega] at h9;exact zkx h9 hk
  ·have h9:=zne H hR (r:=w2 ++ r) (f:=f+1) (k:=j) (p:=p) (by omega) (by omega) (by omega) hkd hp h29;rw[show ((j:Int)+1).toNat=j+1 by omega] at h9;refine zkx (zop (fun z=>?_) h9) hk;obtain⟨x,w,e,hx⟩:=zoR (f:=f+1) hf hj hkd;rw[e];simp only[wD,wH,or_false] at hx;rcases hx with rfl|rfl|rfl|rfl|rfl|rfl|rfl|rfl|rfl <;> exact⟨rfl,rfl,rfl,rfl,rfl,rfl,rfl,rfl⟩
end
section
variable {l:List Nd} {n:Nat} {R:xN}
theorem zow{k:Nat}(h:zx k=true)(hr:qj k=7):k=6\/k=37\/k=38\/k=39:=by
 have hm:=zmt h;simp only[wD,wH,or_false] at hm;rcases hm with rfl|rfl|rfl|rfl|rfl|rfl|rfl|rfl|rfl|rfl|rfl|rfl|rfl|rfl|rfl|rfl|rfl|rfl|rfl|rfl|rfl|rfl|rfl|rfl|rfl|rfl|rfl|rfl|rfl|rfl|rfl|rfl|rfl|rfl|rfl|rfl|rfl|rfl|rfl|rfl|rfl|rfl|rfl|rfl|rfl|rfl|rfl|rfl
 all_goals first|exact .inl rfl|exact .inr (.inl rfl)|exact .inr (.inr (.inl rfl))|exact .inr (.inr (.inr rfl))|exact absurd hr (by decide)
theorem zoK{x:KTt}{g:List UInt8}(h:isT x [g]=true)(L:List (List UInt8)):isT x L=isT (6,g) L:=by
 unfold isT at *;rw[pG] at h;obtain⟨h1,h2⟩:=h;have h2:x.2=g:=by simpa using h2
 rw[h1,h2];rfl
theorem zoZ{x:KTt}{g:List UInt8}(h:isT x [g]=true):fr x=fr (6,g):=by
 unfold fr;simp only[zoK h]
theorem znk{x:KTt}{c:Nat}(h:fr x<c)(g:List UInt8)(hg:c<=fr (6,g)):isT x [g]=false:=by
 cases e:isT x [g] with
 |false=>rfl
 |true=>
  have:=zoZ e;omega
theorem zog(x:KTt)(g:List UInt8)(L:List (List UInt8)):isT x (g :: L)=(isT x [g] || isT x L):=by
 unfold isT;cases (x.1 == 5 || x.1 == 6) <;> simp
theorem znH{x:KTt}:∀(L:List (List UInt8)),(∀g∈L,isT x [g]=false)->isT x L=false
 |[],_=>by unfold isT;simp
 |g :: L,h=>by
  rw[zog,h g (List.mem_cons_self ..),znH L fun y hy=>h y (pY _ hy)];rfl
theorem zoF{x:KTt}{c lv:Nat}(h:fr x<c)(hc:∀g∈yS lv,c<=fr (6,g)):isT x (yS lv)=false:=znH _ fun g hg=>znk h g (hc g hg)
theorem zmK{k:Nat}{v:Int}{p:Nat}{r:List KTt}{c:Nat}(hr:frF c r=true)(hc:c<=8)(hk:0<k):Rn l n (jL R k v) [] p v p r:=by
 have h:fr (hd r)<c:=by simpa[frF] using hr
 obtain⟨k,rfl⟩:∃k',k=k'+1:=⟨k-1,by omega⟩
 try simp only[jL,yX,xA,xT,xm,jC,qi,qu,vf,qt,xB,if_true,if_false,Bool.false_eq_true]
 exact zbM (fun _=>znk h [46] (by have:fr (6,[46])=8:=rfl;omega)) (zbM (fun _=>znk h [40] (by have:fr (6,[40])=8:=rfl;omega)) zbP)
variable (H:Hl l) (hR:RU l n R)
include H hR
theorem zmS:zno l (n+1) (jc R) 7:=by
 intro f k p r h0 hf hl ht hp hr;obtain⟨j,rfl⟩:=pP h0;have hj:j<l.length:=by omega
 have hfr:fr (hd r)<7:=by simpa[frF] using hr
 have hin:frF 7 r=true:=hr;unfold jc;rcases Nat.lt_or_ge (qj (zE l j)) 7 with h7|h7
 ·rw[zmz h7];refine zgW false rfl ?_;rw[if_neg (by decide)];have:=zkx (w2:=[]) (q:=((j:Int)+1).toNat) (b:=j) (r:=r) (p:=p) (zmC H hR.rr (f:=f) (r:=[] ++ r) h0 hf hl ht hp) fun k hk=>zmK hr (by omega) (by omega)
  rw[wN] at this;exact this
 ·rw[zlH h7];have hd1:=zmk H j f (by omega) hj ht;rcases Nat.lt_or_ge 7 (qj (zE l j)) with h8|h8
  ·refine zgW false ?_ ?_
   ·rw[zhY hd1.ne];exact hd1.neg h8
   ·rw[if_neg (by decide)];have:=zn1 H hR.rr j f p [] r j (j+1) (by omega) hj ht h8 hp (fun _ _=>znk hfr _ (by have:fr (6,[40])=8:=rfl;omega)) (fun _=>by
     unfold noF;rw[wJ,znk hfr [101,108,115,101] (by have:fr (6,[101,108,115,101])=9:=rfl;omega)];rfl) fun k hk=>zmK hr (by omega) (by omega)
    rw[wN] at this;rw[show ((j:Int)+1).toNat=j+1 by omega];exact this
  ·have hm:=zow ht (by omega);obtain⟨f,rfl⟩:∃f',f=f'+1:=⟨f-1,by omega⟩;obtain⟨⟨kd,t,m,ks,a⟩,hx⟩:∃x,l[j]? =some x:=⟨_,glE hj⟩;have F:=zk5 H hx hp;have e0:zE l j=kd:=by unfold zE;rw[wE,hx];rfl
   rw[e0] at hm;simp only at F;rw[zeC hx,show ((j:Int)+1).toNat=j+1 by omega];have word:∀(w:List UInt8) (kd:Nat),l[j]? =some ⟨kd,t,m,ks,a⟩->NF l j kd t m ks p->(xd kd=(1,1))->(xw kd m ks.length=true->m=0)->xf kd=0->(∀m a b d,zS kd m a b d=zx d)->
    (fun z:Int=>(isK 3 ⟨5,w,z⟩,isK 4 ⟨5,w,z⟩,isK 1 ⟨5,w,z⟩,isK 2 ⟨5,w,z⟩,isS [[40]] ⟨5,w,z⟩,isS [[116,114,117,101]] ⟨5,w,z⟩,isS [[102,97,108,115,101]] ⟨5,w,z⟩,isO ⟨5,w,z⟩))=(fun _=>(false,false,false,false,false,false,false,true))->(xV w).getD (0,0)=(kd,-1)->isT (5,w) [[45]]=false->
    (∀c,ks=[c]->pcT (zez l (pcN l f) ⟨kd,t,m,ks,a⟩)=(5,w) :: wKd l f c 7)->Rn l (n+1) (uU [[45]] >>= fun b=>if b=true then vU >>= fun t=>R.unary >>= fun x=>zG 6 [] 0 t.at_ [x] else vB R >>= fun left=>(fun E s=>jL R (E.toks.length+1) left E s:PM Int)) (pcT (zez l (pcN l f) ⟨kd,t,m,ks,a⟩)) p j (j+1) r:=by
    intro w kd hx F h1 h2 h3 h4 hz h5 h6 h7;have hz:=fun z=>congrFun hz z
    simp only[Prod.mk.injEq] at hz;obtain rfl:=h2 F.num;have ht0:=F.ttl;rw[if_pos h3] at ht0;subst ht0;have hlen:=F.len;rw[h1] at hlen;obtain⟨c,rfl⟩:=ks1 hlen.1 hlen.2;obtain⟨_,_,hc3,ec⟩:=F.chn;have ec:(c+1).toNat=j:=ec;have hci:=F.inn c (by simp);have hce:zx (zE l c)=true:=by
     have:=F.sut 0 (by simp);rw[h4] at this;exact this
    rw[h7 c rfl];refine zgW false h6 ?_;rw[if_neg (by decide)];have hat:Rn l (n+1) (vB R) ((5,w) :: wKd l f c 7) p j (j+1) ([] ++ r):=by
     rw[zbE];refine zbM (fun z=>(hz z).1) (zbM (fun z=>(hz z).2.1) (zbM (fun z=>(hz z).2.2.1) (zbM (fun z=>(hz z).2.2.2.1) (zbM (fun z=>(hz z).2.2.2.2.1) (zbM (fun z=>(hz z).2.2.2.2.2.1) (zbM (fun z=>(hz z).2.2.2.2.2.2.1) (zew (fun z=>(hz z).2.2.2.2.2.2.2) fun z=>?_)))))));simp only;rw[h5];unfold jK;refine zef (a:=[c]) (p1:=j) ?_ (zdf hx rfl rfl rfl rfl);simp only;rw[if_pos (by decide)];have:=hR.unary f c p r hci.1 (by omega) (by omega) hce hc3 hin;rw[ec] at this;exact zef this zbP
    have:=zkx (w2:=[]) (q:=j+1) (b:=j) (r:=r) hat fun k hk=>zmK hr (by omega) (by omega)
    rw[wN] at this;exact this
   rcases hm with rfl|rfl|rfl|rfl
   ·obtain rfl:m=0:=by simpa[xw] using F.num
    obtain rfl:t=[]:=F.ttl;obtain⟨c,rfl⟩:=ks1 F.len.1 F.len.2;obtain⟨_,_,hc3,ec⟩:=F.chn;have ec:(c+1).toNat=j:=ec;have hci:=F.inn c (by simp);have hce:zx (zE l c)=true:=by simpa[zS] using F.sut 0 (by simp)
    have e:pcT (zez l (pcN l f) ⟨6,[],0,[c],a⟩)=(6,[45]) :: wKd l f c 7:=by
     show (6,[45]) :: pcT (if zE l c == 6 then sp :: pcN l f c else zgS l (pcN l f) c 7)=_
     split
     ·rename_i h6;rw[zlH (by rw[eq_of_beq h6];decide)];rfl
     ·rfl
    rw[e];rw[xm];refine zew (fun _=>rfl) fun _=>?_
    have:=hR.unary f c p r hci.1 (by omega) (by omega) hce hc3 hin;rw[ec] at this;exact zef this (zdf hx rfl rfl rfl rfl)
   ·exact word [116,104,114,111,119] 37 hx F rfl (fun h=>by simpa[xw] using h) rfl (fun _ _ _ _=>rfl) rfl rfl rfl fun c e=>by subst e;rfl
   ·exact word [115,112,97,119,110] 38 hx F rfl (fun h=>by simpa[xw] using h) rfl (fun _ _ _ _=>rfl) rfl rfl rfl fun c e=>by subst e;rfl
   ·exact word [119,101,97,107] 39 hx F rfl (fun h=>by simpa[xw] using h) rfl (fun _ _ _ _=>rfl) rfl rfl rfl fun c e=>by subst e;rfl
end
section
variable {l:List Nd} {n:Nat} {R:xN}
def opT(g:List UInt8):KTt:=if g=[111,114]\/g=[97,110,100]\/g=[105,115] then (5,g) else (6,g)
theorem zoI(g:List UInt8)(b:List Pc):pcT (zmO g :: b)=opT g :: pcT b:=by
 unfold zmO opT;split <;> rfl
structure OpK(lv c k:Nat)(g:List UInt8):Prop where
 sgn:xE k=some g
 mem:isT (opT g) (yS lv)=true
 kind:Qj lv (opT g).2=k
 ttl:xf k=0
 few:xd k=(2,2)
 num:∀(m:Int) (x:Nat),xw k m x=true->m=0
 sut:∀(m:Int) (a b d:Nat),zS k m a b d=zx d
 fr:fr (opT g)=c
def Lv(lv c:Nat):Prop:=∀k,zx k=true->qj k=c->∃g,OpK lv c k g
theorem lv0:Lv 0 1/\Lv 1 2/\Lv 3 5/\Lv 4 6/\Lv 2 4:=by
 refine⟨?_,?_,?_,?_,?_⟩
 all_goals
  intro k h hr;have hm:=zmt h;simp only[wD,wH,or_false] at hm;rcases hm with rfl|rfl|rfl|rfl|rfl|rfl|rfl|rfl|rfl|rfl|rfl|rfl|rfl|rfl|rfl|rfl|rfl|rfl|rfl|rfl|rfl|rfl|rfl|rfl|rfl|rfl|rfl|rfl|rfl|rfl|rfl|rfl|rfl|rfl|rfl|rfl|rfl|rfl|rfl|rfl|rfl|rfl|rfl|rfl|rfl|rfl|rfl|rfl
 all_goals first|exact absurd hr (by decide)|exact⟨_,⟨rfl,by decide,by decide,rfl,rfl,fun m x h=>by simpa[xw] using h,fun _ _ _ _=>rfl,by decide⟩⟩
theorem zoW{lv c k:Nat}{g:List UInt8}(o:OpK lv c k g){f j:Nat}{t:List UInt8}{m a:Int}{x y:Int}(hx:l[j]? =some ⟨k,t,m,[x,y],a⟩):wNd l (f+1) j=wKd l f x (if qj k == 4 then 5 else qj k) ++ opT g :: wKd l f y (qj k+1):=by
 rw[zeC hx];unfold zez;simp only[o.sgn];show pcT (zgS l (pcN l f) x _ ++ sp :: zmO g :: sp :: zgS l (pcN l f) y _)=_
 rw[zdi];show _ ++ pcT (zmO g :: sp :: zgS l (pcN l f) y _)=_
 rw[zoI];rfl
theorem zoh{x:KTt}{L:List (List UInt8)}(h:isT x L=true)(z:Int):isS L ⟨x.1,x.2,z⟩=true:=h
section
variable {lv c:Nat} {tight:PM Int}
theorem znG{k:Nat}{v:Int}{p:Nat}{r:List KTt}(h:isT (hd r) (yS lv)=false)(hk:0<k):Rn l n (uR lv tight k v) [] p v p r:=by
 obtain⟨k,rfl⟩:∃k',k=k'+1:=⟨k-1,by omega⟩;simp only[uR,xm];exact zbM (fun _=>h) zbP
theorem zoU{f:Nat}{k:Int}{c:Nat}(h:qj (zE l k)≠c):wKd l f k c=wKd l f k (c+1):=by
 rcases Nat.lt_or_ge (qj (zE l k)) c with h1|h1
 ·rw[zmz h1,zmz (by omega)]
 ·rw[zlH h1,zlH (by omega)]
theorem znN(H:Hl l)(hT:zno l n tight (c+1))(hL:Lv lv c)(h4:c≠4)(h2:lv≠2):∀(j f:Nat) (p:Nat) (w2 r:List KTt) (b:Int) (q:Nat),j<f->j<l.length->zx (zE l j)=true->loN l j+1=(p:Int)->frF (c+1) (w2 ++ r)=true->
 (∀k,(w2 ++ r).length<k->Rn l n (uR lv tight k j) w2 (j+1) b q r)->Rn l n (uy lv tight) (wKd l f j c ++ w2) p b q r:=by
 intro j;induction j using Nat.strongRecOn with
 |ind j ih=>
  intro f p w2 r b q hf hj ht hp hfr hk;by_cases hrk:qj (zE l j)=c
  ·obtain⟨g,o⟩:=hL _ ht hrk;obtain⟨f,rfl⟩:∃f',f=f'+1:=⟨f-1,by omega⟩;obtain⟨⟨kd,t,m,ks,a⟩,hx⟩:∃x,l[j]? =some x:=⟨_,glE hj⟩;have F:=zk5 H hx hp;have e0:zE l j=kd:=by unfold zE;rw[wE,hx];rfl
   rw[e0] at hrk o;simp only at F;obtain rfl:=o.num _ _ F.num;have ht0:=F.ttl;rw[if_pos o.ttl] at ht0;subst ht0;have hlen:=F.len;rw[o.few] at hlen;obtain⟨x,y,rfl⟩:=ks2 hlen.1 hlen.2;obtain⟨_,_,hc3,_,_,hc4,ec⟩:=F.chn;have ec:(y+1).toNat=j:=ec;have hxi:=F.inn x (by simp);have hyi:=F.inn y (by simp);have hxe:zx (zE l x)=true:=by
    have:=F.sut 0 (by simp);rw[o.sut] at this;exact this
   have hye:zx (zE l y)=true:=by
    have:=F.sut 1 (by simp);rw[o.sut] at this;exact this
   rw[zlH (by rw[e0];omega),zoW o hx,hrk,if_neg (by simpa using h4),wS];obtain⟨i,rfl⟩:=pP hxi.1;refine ih i (by omega) f p _ r b q (by omega) (by omega) hxe hc3 ?_ fun k hkk=>?_
   ·unfold frF;show decide (fr (opT g)<c+1)=true
    rw[o.fr];simp
   ·obtain⟨k,rfl⟩:∃k',k=k'+1:=⟨k-1,by omega⟩;simp only[uR,xm];refine zey (fun z=>zoh o.mem z) fun z=>?_
    have h5:=hT f y _ (w2 ++ r) hyi.1 (by omega) (by omega) hye hc4 hfr;rw[ec] at h5;rw[show ((i:Int)+1).toNat=i+1 by omega] at h5;refine zcN h5 ?_;refine zcN (w:=[]) (a:=(j:Int)) (p1:=j+1) ?_ ?_
    ·exact zdf hx o.kind.symm rfl rfl rfl
    ·rw[if_neg (by simpa using h2)];exact hk k (by simp only[wS,pT,pK,pC] at hkk ⊢;omega)
  ·rw[zoU hrk];have h5:=hT f j p (w2 ++ r) (by omega) (by omega) (by omega) ht hp hfr;rw[show ((j:Int)+1).toNat=j+1 by omega] at h5;exact zcN h5 fun hn E s hs=>hk _ (zmG hs) hn E s hs
theorem zmD(H:Hl l)(hT:zno l n tight (c+1))(hL:Lv lv c)(h4:c≠4)(h2:lv≠2)(hg:∀g∈yS lv,c<=fr (6,g)):zno l n (uy lv tight) c:=by
 intro f k p r h0 hf hl ht hp hr;obtain⟨j,rfl⟩:=pP h0;have hfr:fr (hd r)<c:=by simpa[frF] using hr
 have:=znN H hT hL h4 h2 j f p [] r j (j+1) (by omega) (by omega) ht hp (by unfold frF;simp only[wJ,pH];omega) fun k hk=>znG (zoF hfr hg) (by omega)
 rw[wN] at this;rw[show ((j:Int)+1).toNat=j+1 by omega];exact this
end
end
section
variable {l:List Nd} {n:Nat} {R:xN}
theorem znE{k:Nat}(h:zx k=true):1<=qj k/\(qj k=3->k=7):=by
 have hm:=zmt h;simp only[wD,wH,or_false] at hm;rcases hm with rfl|rfl|rfl|rfl|rfl|rfl|rfl|rfl|rfl|rfl|rfl|rfl|rfl|rfl|rfl|rfl|rfl|rfl|rfl|rfl|rfl|rfl|rfl|rfl|rfl|rfl|rfl|rfl|rfl|rfl|rfl|rfl|rfl|rfl|rfl|rfl|rfl|rfl|rfl|rfl|rfl|rfl|rfl|rfl|rfl|rfl|rfl|rfl
 all_goals exact⟨by decide,by decide⟩
theorem zoS{tight:PM Int}{x:Int}{y:Int}{g:List UInt8}{w:List KTt}{p q:Nat}{v:Int}{r:List KTt}(k:Nat)(hk:0<k)(hg:isT (opT g) (yS 2)=true){p1:Nat}(h5:Rn l n tight w p y p1 r)(ha:∀{z:Int},Rn l n (zG (Qj 2 (opT g).2) [] 0 z [x,y]) [] p1 v q r):Rn l n (uR 2 tight k x) (opT g :: w) p v q r:=by
 obtain⟨k,rfl⟩:∃k',k=k'+1:=⟨k-1,by omega⟩;simp only[uR,xm];refine zey (fun z=>zoh hg z) fun z=>?_
 refine zef h5 ?_;refine zef (a:=v) (p1:=q) ha ?_;exact zbP
variable (H:Hl l) (hR:RU l n R)
include H hR
theorem zn5:zno l (n+1) (KF R) 5:=
 zmD H (zmD H (zmS H hR) lv0.2.2.2.1 (by decide) (by decide) (by decide)) lv0.2.2.1 (by decide) (by decide) (by decide)
theorem znf:zno l (n+1) (kP R) 3:=by
 intro f k p r h0 hf hl ht hp hr;obtain⟨j,rfl⟩:=pP h0;have hj:j<l.length:=by omega
 have hfr:fr (hd r)<3:=by simpa[frF] using hr
 have hT:=zn5 H hR;have hr5:frF 5 r=true:=by unfold frF;simp only[pH];omega
 have hend:∀k,0<k->Rn l (n+1) (uR 2 (KF R) k j) [] (j+1) j (j+1) r:=fun k hk=>znG (zoF (c:=4) (by omega) (by decide)) hk
 have plain:qj (zE l j)<3\/5<=qj (zE l j)->Rn l (n+1) (uy 2 (KF R)) (wKd l f j 3) p j ((j:Int)+1).toNat r:=fun h=>by
  have e:wKd l f j 3=wKd l f j 5:=by
   rcases h with h|h
   ·rw[zmz h,zmz (by omega)]
   ·rw[zlH (by omega),zlH h]
  rw[e];have h5:=hT f j p ([] ++ r) h0 hf hl ht hp hr5;rw[show ((j:Int)+1).toNat=j+1 by omega] at h5 ⊢;have:=zcN (w2:=[]) (r:=r) (f:=fun left=>(fun E s=>uR 2 (KF R) (E.toks.length+1) left E s:PM Int)) h5 fun hn E s hs=>hend _ (Nat.succ_pos _) hn E s hs
  rw[wN] at this;exact this
 have hd1:=zmk H j f (by omega) hj ht;unfold kP;rcases Nat.lt_or_ge (qj (zE l j)) 3 with h3|h3
 ·refine zgW false ?_ ?_
  ·rw[zmz h3];rfl
  ·rw[if_neg (by decide)];exact plain (.inl h3)
 ·rcases Nat.eq_or_lt_of_le h3 with h3|h3
  ·have hkd:=(znE ht).2 h3.symm;rw[zlH (by omega)];obtain⟨f,rfl⟩:∃f',f=f'+1:=⟨f-1,by omega⟩;obtain⟨⟨kd,t,m,ks,a⟩,hx⟩:∃x,l[j]? =some x:=⟨_,glE hj⟩;have F:=zk5 H hx hp;have e0:zE l j=kd:=by unfold zE;rw[wE,hx];rfl
   rw[hkd] at e0;subst e0;simp only at F;obtain rfl:m=0:=by simpa[xw] using F.num
   obtain rfl:t=[]:=F.ttl;obtain⟨c,rfl⟩:=ks1 F.len.1 F.len.2;obtain⟨_,_,hc3,ec⟩:=F.chn;have ec:(c+1).toNat=j:=ec;have hci:=F.inn c (by simp);have hce:zx (zE l c)=true:=by simpa[zS] using F.sut 0 (by simp)
   have e:wNd l (f+1) j=(5,[110,111,116]) :: wKd l f c 3:=by
    rw[zeC hx];rfl
   rw[e,xm,show ((j:Int)+1).toNat=j+1 by omega];refine zew (fun _=>rfl) fun _=>?_
   have:=hR.bin2 f c p r hci.1 (by omega) (by omega) hce hc3 hr;rw[ec] at this;exact zef this (zdf hx rfl rfl rfl rfl)
  ·refine zgW false ?_ ?_
   ·rw[zlH (by omega),zhY hd1.ne];exact hd1.not_ h3
   ·rw[if_neg (by decide)];rcases Nat.eq_or_lt_of_le (show 4<=qj (zE l j) from h3) with h4|h4
    ·obtain⟨g,o⟩:=lv0.2.2.2.2 _ ht h4.symm;rw[zlH (by omega)];obtain⟨f,rfl⟩:∃f',f=f'+1:=⟨f-1,by omega⟩;obtain⟨⟨kd,t,m,ks,a⟩,hx⟩:∃x,l[j]? =some x:=⟨_,glE hj⟩;have F:=zk5 H hx hp;have e0:zE l j=kd:=by unfold zE;rw[wE,hx];rfl
     rw[e0] at h4 o;simp only at F;obtain rfl:=o.num _ _ F.num;have ht0:=F.ttl;rw[if_pos o.ttl] at ht0;subst ht0;have hlen:=F.len;rw[o.few] at hlen;obtain⟨x,y,rfl⟩:=ks2 hlen.1 hlen.2;obtain⟨_,_,hc3,_,_,hc4,ec⟩:=F.chn;have ec:(y+1).toNat=j:=ec;have hxi:=F.inn x (by simp);have hyi:=F.inn y (by simp);have hxe:zx (zE l x)=true:=by
      have:=F.sut 0 (by simp);rw[o.sut] at this;exact this
     have hye:zx (zE l y)=true:=by
      have:=F.sut 1 (by simp);rw[o.sut] at this;exact this
     rw[zoW o hx,<-h4,if_pos (by decide),show ((j:Int)+1).toNat=j+1 by omega];refine zcN (hT f x p _ hxi.1 (by omega) (by omega) hxe hc3 (by
      unfold frF;show decide (fr (opT g)<5)=true
      rw[o.fr];decide)) ?_
     have h5:=hT f y _ r hyi.1 (by omega) (by omega) hye hc4 hr5;rw[ec] at h5;exact fun hn E s hs=>zoS (E.toks.length+1) (Nat.succ_pos _) o.mem h5 (zdf hx o.kind.symm rfl rfl rfl) hn E s hs
    ·exact plain (.inr h4)
theorem zn4:Rdt l (n+1) (zaj R) zx (frF 1):=fun f k p r h0 hf hl ht hp hr=>by
 have h:=zmD H (zmD H (znf H hR) lv0.2.1 (by decide) (by decide) (by decide)) lv0.1 (by decide) (by decide) (by decide) f k p r h0 hf hl ht hp hr;rw[zlH (znE ht).1] at h;exact h
end
section
variable {l:List Nd}
theorem znA(H:Hl l):∀n,RU l n (jA n)
 |0=>by
  refine⟨⟨?_,?_,?_,?_,?_⟩,?_,?_⟩
  all_goals exact fun f k p r _ _ _ _ _ _ h=>absurd h (wG _)
 |n+1=>by
  have hR:=znA H n;exact⟨⟨znZ H hR.rr,znd H hR.rr,znP H hR.rr,zmI H hR.rr,zn4 H hR⟩,zmS H hR,znf H hR⟩
end
section
variable {l:List Nd} {n:Nat} {R:xN}
variable (H:Hl l) (hR:RR l n R)
include H hR
theorem zn3:Rdt l n (jT R) yN.item.is zny:=by
 intro f k p r h0 hf hl ht hp hr;obtain⟨f,rfl⟩:∃f',f=f'+1:=⟨f-1,by omega⟩;obtain⟨j,rfl,⟨kd,t,m,ks,a⟩,hx,hkd,F,hw⟩:=zm3 (f:=f) H h0 hl hp;simp only at hkd F;have hjl:j<l.length:=by omega
 have hjf:j<=f:=by omega
 rw[hkd] at ht;have hm:kd=100\/kd=101\/kd=102\/kd=103\/kd=104:=by
  simp only[yN.is,pG,pH] at ht;omega
 rw[hw,show ((j:Int)+1).toNat=j+1 by omega]
 try simp only[jT,xQ,yX,xA,xT,xm,jC,qi,qu,vf,qt,xB,if_true,if_false,Bool.false_eq_true]
 rcases hm with rfl|rfl|rfl|rfl|rfl
 ·obtain rfl:m=0:=by simpa[xw] using F.num
  have hne:ks≠[]:=fun e=>by have:=F.len.1;rw[e] at this;exact absurd this (by decide)
  have e:pcT (zez l (pcN l f) ⟨100,t,0,ks,a⟩)=(5,[99,108,97,115,115]) :: (2,t) :: (6,[123]) :: (zgy (ks.map (wNd l f)) ++ [(6,[125])]):=by
   show (5,[99,108,97,115,115]) :: (2,t) :: (6,[123]) :: pcT (zgQ (pcN l f) ks ++ [sp,sg [125]])=_
   rw[zdi,ziS _ _ rfl];rfl
  rw[e];refine zey (fun _=>rfl) fun _=>zey (fun _=>rfl) fun _=>?_
  refine zef (p1:=j) (a:=ks) (zey (fun _=>rfl) fun _=>?_) (zdf hx rfl rfl rfl rfl);exact zcN (zlQ (zmU H hR) hjl hjf hne F.chn F.inn (zkb F fun _ _=>rfl) rfl rfl fun _ _=>rfl) (zey (fun _=>rfl) fun _=>zbP)
 ·obtain rfl:m=0:=by simpa[xw] using F.num
  have hne:ks≠[]:=fun e=>by have:=F.len.1;rw[e] at this;exact absurd this (by decide)
  have e:pcT (zez l (pcN l f) ⟨101,t,0,ks,a⟩)=(5,[107,105,110,100]) :: (2,t) :: (6,[123]) :: (zgy (ks.map (wNd l f)) ++ [(6,[125])]):=by
   show (5,[107,105,110,100]) :: (2,t) :: (6,[123]) :: pcT (zgQ (pcN l f) ks ++ [sp,sg [125]])=_
   rw[zdi,ziS _ _ rfl];rfl
  rw[e];refine zbM (fun _=>rfl) (zey (fun _=>rfl) fun _=>zey (fun _=>rfl) fun _=>?_);refine zef (p1:=j) (a:=ks) (zey (fun _=>rfl) fun _=>?_) (zdf hx rfl rfl rfl rfl);exact zcN (zlQ (zn2 H hR) hjl hjf hne F.chn F.inn (zkb F fun _ _=>rfl) rfl rfl fun r' h'=>by unfold noF;rw[h'];rfl) (zey (fun _=>rfl) fun _=>zbP)
 ·have h2:2<=ks.length:=F.len.1;obtain⟨zs,c,rfl⟩:=zmh (ks:=ks) (by omega);obtain⟨ps,b,rfl⟩:=zmh (ks:=zs) (by simp at h2;omega);have hsu:∀i,i<(ps ++ [b] ++ [c]).length->zS 102 m (ps ++ [b] ++ [c]).length i (zE l ((ps ++ [b] ++ [c]).getD i 0))=true:=F.sut;obtain⟨q,c1,_,_,c4,c5⟩:=(zkh _ _ _ _).1 F.chn;have c5:(c+1).toNat=j:=c5;have hc:=F.inn c (by simp);have hkc:zE l c=28:=by
   have:=hsu (ps.length+1) (by simp);simp[zS] at this;omega
  have hkb:yN.type.is (zE l b)=true:=by
   have:=hsu ps.length (by simp);simp[zS] at this;simpa using this
  have hps:∀x∈ps,zE l x=88:=fun x hxx=>by
   obtain⟨i,hi,rfl⟩:=List.mem_iff_getElem.1 hxx;have:=hsu i (by simp;omega);rw[pA,wS,wQ hi,glE hi] at this;simp[zS] at this;omega
  have hm2:m=0\/m=1:=by simpa[xw] using F.num
  have e:pcT (zez l (pcN l f) ⟨102,t,m,ps ++ [b] ++ [c],a⟩)=(if m == 1 then [(5,[112,117,114,101])] else []) ++ (5,[102,117,110]) :: (1,t) :: (((6,[40]) :: (zgy (ps.map (wNd l f)) ++ (6,[41]) :: (6,[58]) :: wNd l f b)) ++ wNd l f c):=by
   show pcT ((if m == 1 then [kwd [112,117,114,101],sp] else []) ++ kwd [102,117,110] :: sp :: nm t :: (zhO (pcN l f) ⟨102,t,m,ps ++ [b] ++ [c],a⟩ [c].length ++ sp :: pcN l f (zN ⟨102,t,m,ps ++ [b] ++ [c],a⟩ ((ps ++ [b] ++ [c]).length-1))))=_
   rw[zdi];show _ ++ (5,[102,117,110]) :: (1,t) :: pcT (zhO (pcN l f) ⟨102,t,m,ps ++ [b] ++ [c],a⟩ [c].length ++ sp :: pcN l f (zN ⟨102,t,m,ps ++ [b] ++ [c],a⟩ ((ps ++ [b] ++ [c]).length-1)))=_
   rw[zdi,znu rfl];have:zN ⟨102,t,m,ps ++ [b] ++ [c],a⟩ ((ps ++ [b] ++ [c]).length-1)=c:=by unfold zN;simp
   rw[this];split <;> rfl
  rw[e];rcases hm2 with rfl|rfl
  ·show Rn l n _ ((5,[102,117,110]) :: (1,t) :: _) _ _ _ _
   refine zbM (fun _=>rfl) (zbM (fun _=>rfl) (zbM (fun _=>rfl) (zbM (fun _=>rfl) (zbM (fun _=>rfl) (zey (fun _=>rfl) fun _=>zey (fun _=>rfl) fun _=>?_)))));refine zcN (zmp H hR hjl hjf c1 (fun x hxx=>F.inn x (List.mem_append_left _ hxx)) hps hkb) ?_;refine zef (hR.block.kid hc hjl hjf (by simp[hkc]) c4 rfl) ?_;rw[c5];exact zdf hx rfl rfl rfl rfl
  ·show Rn l n _ ((5,[112,117,114,101]) :: (5,[102,117,110]) :: (1,t) :: _) _ _ _ _
   refine zbM (fun _=>rfl) (zbM (fun _=>rfl) (zbM (fun _=>rfl) (zbM (fun _=>rfl) (zey (fun _=>rfl) fun _=>zey (fun _=>rfl) fun _=>zey (fun _=>rfl) fun _=>?_))));refine zcN (zmp H hR hjl hjf c1 (fun x hxx=>F.inn x (List.mem_append_left _ hxx)) hps hkb) ?_;refine zef (hR.block.kid hc hjl hjf (by simp[hkc]) c4 rfl) ?_;rw[c5];exact zdf hx rfl rfl rfl rfl
 ·obtain rfl:m=0:=by simpa[xw] using F.num
  have h2:1<=ks.length:=F.len.1;obtain⟨ps,b,rfl⟩:=zmh (ks:=ks) h2;have hsu:∀i,i<(ps ++ [b]).length->zS 103 0 (ps ++ [b]).length i (zE l ((ps ++ [b]).getD i 0))=true:=F.sut;have hkb:yN.type.is (zE l b)=true:=by
   have:=hsu ps.length (by simp);simp[zS] at this;simpa using this
  have hps:∀x∈ps,zE l x=88:=fun x hxx=>by
   obtain⟨i,hi,rfl⟩:=List.mem_iff_getElem.1 hxx;have:=hsu i (by simp;omega);rw[pA,wQ hi,glE hi] at this;simp[zS] at this;omega
  have e:pcT (zez l (pcN l f) ⟨103,t,0,ps ++ [b],a⟩)=(5,[101,120,116,101,114,110]) :: (5,[102,117,110]) :: (1,t) :: (((6,[40]) :: (zgy (ps.map (wNd l f)) ++ (6,[41]) :: (6,[58]) :: wNd l f b)) ++ [(6,[59])]):=by
   show (5,[101,120,116,101,114,110]) :: (5,[102,117,110]) :: (1,t) :: pcT (zhO (pcN l f) ⟨103,t,0,ps ++ [b],a⟩ 0 ++ [sg [59]])=_
   have h9:=znu (l:=l) (pc:=pcN l f) (f:=f) rfl (kd:=103) (t:=t) (m:=0) (ps:=ps) (b:=b) (tl:=[]) (a:=a);rw[wN] at h9;rw[zdi];show _ :: _ :: _ :: (pcT (zhO (pcN l f) ⟨103,t,0,ps ++ [b],a⟩ ([]:List Int).length) ++ _)=_
   rw[h9];rfl
  rw[e];refine zbM (fun _=>rfl) (zbM (fun _=>rfl) (zey (fun _=>rfl) fun _=>zey (fun _=>rfl) fun _=>zey (fun _=>rfl) fun _=>?_));refine zcN (zmp H hR hjl hjf F.chn F.inn hps hkb) (zey (fun _=>rfl) fun _=>?_);exact zdf hx rfl rfl rfl rfl
 ·obtain rfl:m=0:=by simpa[xw] using F.num
  obtain⟨b,c,rfl⟩:=ks2 F.len.1 F.len.2;obtain⟨_,_,q,_,_,s,es⟩:=F.chn;have es:(c+1).toNat=j:=es;have e:pcT (zez l (pcN l f) ⟨104,t,0,[b,c],a⟩)=(5,[114,111,111,116]) :: (1,t) :: (6,[58]) :: (wNd l f b ++ (6,[61]) :: (wNd l f c ++ [(6,[59])])):=by
   show (5,[114,111,111,116]) :: (1,t) :: (6,[58]) :: pcT (pcN l f b ++ sp :: sg [61] :: sp :: (pcN l f c ++ [sg [59]]))=_
   rw[zdi];show _ :: _ :: _ :: (_ ++ _ :: pcT (pcN l f c ++ [sg [59]]))=_
   rw[zdi];rfl
  rw[e];refine zbM (fun _=>rfl) (zbM (fun _=>rfl) (zbM (fun _=>rfl) (zey (fun _=>rfl) fun _=>zey (fun _=>rfl) fun _=>zey (fun _=>rfl) fun _=>?_)));refine zcN (hR.kind.kid (F.inn b (by simp)) hjl hjf (by simpa[zS] using F.sut 0 (by simp)) q rfl) (zey (fun _=>rfl) fun _=>?_);refine zcN (hR.expr.kid (F.inn c (by simp)) hjl hjf (by simpa[zS] using F.sut 1 (by simp)) s rfl) (zey (fun _=>rfl) fun _=>?_);rw[es];exact zdf hx rfl rfl rfl rfl
end
section
variable {l:List Nd} {n:Nat} {R:xN}
theorem zmZ{l:List Nd}(hF:xL l l.length):∀(rk:List Int) (p e:Int),p<l.length->-1<=e->Vk l (jH l l.length) rk p=some e->ziV l (e+1).toNat rk.reverse (p+1).toNat/\(∀k∈rk,yN.item.is (zE l k)=true)/\e<=p
 |[],p,e,_,_,h=>by
  cases h;exact⟨rfl,fun k hk=>by (cases hk),Int.le_refl _⟩
 |k :: r,p,e,hp,he,h=>by
  unfold Vk at h;split at h
  ·cases h
  ·rename_i hc;simp only[not_or,Decidable.not_not,Bool.not_eq_false] at hc;obtain⟨hc1,hk,hki⟩:=hc;have hpos:=(zbH hF (i:=p.toNat) (by omega)).2;have hlo:loN l p=p-((jH l l.length).getD p.toNat 0:Nat):=rfl;rw[show ((p.toNat:Nat):Int)=p by omega] at hpos;obtain⟨h1,h2,h3⟩:=zmZ hF r _ e (by omega) he h;refine⟨?_,fun x hx=>?_,by omega⟩
   ·rw[List.reverse_cons,zkh];refine⟨_,h1,by omega,by omega,?_,?_⟩
    ·rw[hk,hlo];omega
    ·rw[hk];rfl
   ·rcases wD.1 hx with rfl|hx
    ·rw[hk];exact hki
    ·exact h2 x hx
def zmL(t:yo):List KTt:=t.items.flatMap (wNd t.nodes (t.nodes.length+1))
theorem zmV(H:Hl l)(hR:RR l n R):∀(ks:List Int) (k:Nat) (p q:Nat) (E:zv) (s:zY),ziV l p ks q->(∀x∈ks,yN.item.is (zE l x)=true)->(∀x∈ks,wNd l (l.length+1) x≠[])->(ks.flatMap (wNd l (l.length+1))).length<n->ks.length<k->St l E s p (ks.flatMap (wNd l (l.length+1)))->∃s',qn R k E s=.ok () s'/\St l E s' q []/\s'.items=s.items ++ ks
 |[],k,p,q,E,s,hc,_,_,_,hk,hs=>by
  cases hc;obtain⟨k,rfl⟩:∃k',k=k'+1:=⟨k-1,by simp at hk;omega⟩;refine⟨s,?_,hs,(wN _).symm⟩;have h1:=congrArg List.length hs.toks;simp only[List.flatMap_nil,wV,wW,pR] at h1;unfold qn;rw[if_neg (by omega)]
 |x :: ks,k,p,q,E,s,hc,hi,hne,hn,hk,hs=>by
  obtain⟨k,rfl⟩:∃k',k=k'+1:=⟨k-1,by simp at hk;omega⟩;obtain⟨h1,h2,h3,h4⟩:=hc;rw[List.flatMap_cons] at hn hs;have h0:0<(wNd l (l.length+1) x).length:=List.length_pos_iff.2 (hne x (List.mem_cons_self ..));obtain⟨s1,e1,e2,e3⟩:=zn3 H hR (l.length+1) x p (ks.flatMap (wNd l (l.length+1))) h1 (by omega) h2 (hi x (List.mem_cons_self ..)) h3 rfl hn E s hs;obtain⟨s2,e4,e5,e6⟩:=zmV H hR ks k (x+1).toNat q E {s1 with items:=s1.items ++ [x]} h4 (fun y hy=>hi y (pY _ hy)) (fun y hy=>hne y (pY _ hy)) (by rw[pC] at hn;omega) (by simp at hk;omega) ⟨e2.nodes,e2.le,e2.toks,e2.next⟩;refine⟨s2,?_,e5,by rw[e6,e3,wS];rfl⟩;have hlt:s.next<E.toks.length:=by
   have h5:=congrArg List.length hs.toks;simp only[wV,wW,pC] at h5;omega
  unfold qn;rw[if_pos hlt,e1];exact e4
theorem Fm.hl{t:yo}(h:Fm t):Hl t.nodes:=⟨h.full,h.right⟩
theorem zoz{f:Nat}{k:Int}(h0:0<=k)(hf:k<f)(hl:k<l.length)(ht:yN.item.is (zE l k)=true):wNd l f k≠[]:=by
 obtain⟨j,rfl⟩:=pP h0;obtain⟨f,rfl⟩:∃f',f=f'+1:=⟨f-1,by omega⟩;obtain⟨⟨kd,t,m,ks,a⟩,hx⟩:∃x,l[j]? =some x:=⟨_,glE (by omega)⟩;have e0:zE l j=kd:=by unfold zE;rw[wE,hx];rfl
 rw[e0] at ht;rw[zeC hx];have hm:kd=100\/kd=101\/kd=102\/kd=103\/kd=104:=by
  simp only[yN.is,pG,pH] at ht;omega
 rcases hm with rfl|rfl|rfl|rfl|rfl
 ·exact List.cons_ne_nil _ _
 ·exact List.cons_ne_nil _ _
 ·show pcT ((if m == 1 then [kwd [112,117,114,101],sp] else []) ++ kwd [102,117,110] :: _)≠[]
  split <;> exact List.cons_ne_nil _ _
 ·exact List.cons_ne_nil _ _
 ·exact List.cons_ne_nil _ _
theorem znl(w:Int->List KTt):∀ks:List Int,(∀x∈ks,w x≠[])->ks.length<=(ks.flatMap w).length
 |[],_=>pE _
 |x :: ks,h=>by
  rw[List.flatMap_cons,pC,pK];have:=List.length_pos_iff.2 (h x (List.mem_cons_self ..));have:=znl w ks fun y hy=>h y (pY _ hy)
  omega
theorem zn0{t:yo}(h:Fm t){L:List yp}{len:Nat}(hL:L.map ktt=zmL t):∃s,xO L len=.ok () s/\s.nodes.map qv=t.nodes.map qv/\s.items=t.items:=by
 have H:=h.hl;obtain⟨hc,hi,_⟩:=zmZ h.full _ _ _ (by omega) (by omega) h.its;rw[List.reverse_reverse] at hc;have hc:ziV t.nodes 0 t.items t.nodes.length:=by
  have e:((t.nodes.length:Int)-1+1).toNat=t.nodes.length:=by omega
  rw[e] at hc;exact hc
 have hin:∀(ks:List Int) (p q:Nat),ziV t.nodes p ks q->∀k∈ks,0<=k/\k<t.nodes.length:=by
  intro ks;induction ks with
  |nil=>intro p q _ k hk;cases hk
  |cons x ks ih=>
   rintro p q ⟨h1,h2,_,h4⟩ k hk;rcases wD.1 hk with rfl|hk
   ·exact⟨h1,h2⟩
   ·exact ih _ _ h4 k hk
 have hlen:=congrArg List.length hL;rw[wV] at hlen;have hne:∀x∈t.items,wNd t.nodes (t.nodes.length+1) x≠[]:=fun x hx=>by
  have:=hin _ _ _ hc x hx;exact zoz this.1 (by omega) this.2 (hi x (wY.2 hx))
 have hil:t.items.length<=(zmL t).length:=znl _ _ hne;obtain⟨s,h1,h2,h3⟩:=zmV H (znA H (L.length+1)).rr t.items (L.length+1) 0 t.nodes.length ⟨L,len⟩ ⟨[],[],0⟩ hc (fun x hx=>hi x (wY.2 hx)) hne (by unfold zmL at hlen;omega) (by omega) ⟨rfl,pU _,by rw[List.drop_zero];exact hL,pU _⟩;refine⟨s,h1,?_,h3⟩;rw[h2.nodes,List.take_length]
end
end Lode
namespace Go.Proofs.YtnncmdpopgkibaaGreatDoor
section
open Go.Proofs.Tryz
section
open Go.RowKit Lode
theorem zov:∀{ks ks':List (Nat×List UInt8)} {r:List UInt8},XU r ks->XU r ks'->ks=ks':=by
 have gap:∀{G T R:List UInt8} {k:Nat} {t:List UInt8},jx false G=some false->yM (T ++ R)=some (k,t,T.length)->zI false (G ++ (T ++ R))=G.length:=fun {G T R k t} h1 h2=>by
  have:=kY false false G (T ++ R) h1;rw[YU h2] at this;exact this
 have non:∀{G T R:List UInt8} {k:Nat} {t:List UInt8} {c:Bool},jx false (G ++ (T ++ R))=some c->jx false G=some false->yM (T ++ R)=some (k,t,T.length)->False:=fun {G T R k t c} h h1 h2=>by
  have e:=kY false c _ [] h;rw[wN,gap h1 h2] at e;have e0:zI c []=0:=rfl;simp only[e0,pC] at e;have:T ++ R=[]:=pM (by rw[pC];omega);rw[this] at h2;cases h2
 intro ks;induction ks with
 |nil=>
  intro ks' r h h';rcases h.inv with⟨c,_,hc⟩|⟨G,T,R,k,t,ks1,_,e,_⟩
  ·rcases h'.inv with⟨c',e',_⟩|⟨G,T,R,k,t,ks1,rfl,rfl,h1,h2,_⟩
   ·exact e'.symm
   ·exact (non hc h1 h2).elim
  ·cases e
 |cons x ks ih=>
  intro ks' r h h';rcases h.inv with⟨c,e,_⟩|⟨G,T,R,k,t,ks1,rfl,e,h1,h2,h3⟩
  ·cases e
  ·cases e;rcases h'.inv with⟨c',e',hc⟩|⟨G',T',R',k',t',ks2,e',rfl,h1',h2',h3'⟩
   ·exact (non hc h1 h2).elim
   ·have hl:G.length=G'.length:=by rw[<-gap h1 h2,e',gap h1' h2']
    obtain⟨rfl,e2⟩:=List.append_inj e' hl;rw[<-e2,h2] at h2';simp only[pQ,Prod.mk.injEq] at h2';obtain⟨rfl,rfl,hl2⟩:=h2';obtain⟨rfl,rfl⟩:=List.append_inj e2 hl2;rw[ih h3 h3']
section
variable {l:List Nd}
theorem znF(hr:∀x∈l,yj l x=true):∀(f:Nat) (k:Int),pcB (pcN l f k)=prN l f k
 |0,_=>rfl
 |f+1,k=>by
  unfold pcN prN;cases hx:l[k.toNat]? with
  |none=>rfl
  |some x=>
   obtain⟨hk,_⟩:=yY (hr x (wK hx));obtain⟨k',t,n,ks,a⟩:=x;exact zoJ (znF hr f) hk
end
def zii(t:yo):List UInt8:=t.items.flatMap fun k=>prT t k ++ [10]
theorem zob{t:yo}(h:Fm t):XU (zii t) (zmL t):=by
 have key:∀ks:List Int,XU (ks.flatMap fun k=>prT t k ++ [10]) (ks.flatMap (wNd t.nodes (t.nodes.length+1))):=by
  intro ks;induction ks with
  |nil=>exact XU.done (c:=false) rfl
  |cons k ks ih=>
   rw[List.flatMap_cons,List.flatMap_cons];have h1:=znm h.right (t.nodes.length+1) k (10 :: (ks.flatMap fun k=>prT t k ++ [10])) _ (zoH _) (XU.gap (Z:=[10]) rfl ih);rw[znF h.right] at h1;rw[wS];exact h1
 exact key t.items
theorem zmm{t:yo}(h:zR t=0):YZ t=Yb (zii t):=by
 unfold YZ;rw[if_neg (by simp[h])];rfl
theorem zmY(l:List Nd)(k:Int):zE (l.map qv) k=zE l k:=by
 unfold zE;rw[pZ];cases l[k.toNat]? <;> rfl
theorem znT(l:List Nd)(k:Int):(((l.map qv)[k.toNat]?).elim [] Nd.kids)=((l[k.toNat]?).elim [] Nd.kids):=by
 rw[pZ];cases l[k.toNat]? <;> rfl
theorem znr(l:List Nd):∀(f:Nat) (k:Int),pcN (l.map qv) f k=pcN l f k
 |0,_=>rfl
 |f+1,k=>by
  have h0:pcN (l.map qv) f=pcN l f:=funext (znr l f);have h1:zgS (l.map qv) (pcN l f)=zgS l (pcN l f):=by
   funext k r;unfold zgS;rw[zmY]
  unfold pcN;rw[pZ,h0];cases l[k.toNat]? with
  |none=>rfl
  |some x=>
   show zez (l.map qv) (pcN l f) (qv x)=zez l (pcN l f) x
   unfold zez;simp only[h1,zmY,znT];rfl
theorem zoc{t u:yo}(h:u.nodes.map qv=t.nodes.map qv)(hi:u.items=t.items)(ht:Fm t)(hu:Fm u):zii u=zii t:=by
 have hl:u.nodes.length=t.nodes.length:=by
  have:=congrArg List.length h;simpa using this
 unfold zii prT;rw[hi,hl];congr 1;funext k;rw[<-znF hu.right,<-znF ht.right,<-znr u.nodes,<-znr t.nodes,h]
theorem zns{t:yo}(h:Ve t)(hr:(Lode.yQ (zii t)).2.2=0):∃st,Vh (zii t) ⟨st.nodes,st.items⟩ st/\st.nodes.map qv=t.nodes.map qv/\st.items=t.items:=by
 obtain⟨h1,_⟩:=Jt hr;have hk:(Lode.yQ (zii t)).1.map ktt=zmL t:=zov h1.k (zob h.fm);obtain⟨st,h2,h3,h4⟩:=zn0 h.fm hk (len:=(zii t).length);refine⟨st,⟨hr,h2,rfl,?_,?_,?_,?_⟩,h3,h4⟩
 ·have:=congrArg List.length h3;have:=h.n;simp at *;omega
 ·rw[h4];exact h.i
 ·have hn:t.nodes.map qv=st.nodes.map qv ++ []:=by rw[h3,wN]
  have hl:st.nodes.length=t.nodes.length:=by
   have:=congrArg List.length h3;simpa using this
  have:=YN (a:=st.items) (q:=[]) (l:=t.nodes) (l':=st.nodes) (fun i hi=>VZ hn i hi) (by omega) (fun k hk=>by cases hk) (fun i h1 h2=>by omega);rw[wN,h4] at this;rw[h4];exact pN this h.d
 ·exact JU (r:=[]) (by rw[wN,h3]) h.z
end
end
section
open Go.RowKit Lode Go.Shelf
attribute [local go_sem ↓] Go.wp_at_zero Go.wp_at_succ
open Go.Proofs.Tryz
theorem znx{t:yo}(h:Ve t)(hr:(Lode.yQ (zii t)).2.2=0):∃u:yo,Ve u/\zW (zii t)=(u,0,0)/\YZ u=(zii t,0)/\YZ t=(zii t,0)/\QK t u=true/\(zii t).length<=3000:=by
 obtain⟨st,h1,h2,h3⟩:=zns h hr;have hu:=h1.well;have hl:Yb (zii t)=(zii t,0):=by
  unfold Yb;rw[if_neg (by simp[hr])]
 refine⟨_,hu,zjR h1,?_,?_,?_,?_⟩
 ·rw[zmm hu.qr,zoc h2 h3 h.fm hu.fm,hl]
 ·rw[zmm h.qr,hl]
 ·unfold QK;rw[h2,h3];simp
 ·obtain⟨_,_,h4,_⟩:=Jt hr;exact (zbB.1 h4).1
theorem znX{t:yo}(h:Ve t)(hr:¬(Lode.yQ (zii t)).2.2=0):YZ t=([],5):=by
 rw[zmm h.qr];unfold Yb;rw[if_pos hr]
theorem zod(s:ByteArray)(w:World)(hG:qH w):Calls prog 5 #[.string s] w (kQ w (.bool true)):=by
 have hKn:=zi (fun W (hW:Below w.heap.size w W)=>zd3 W (hG.later hW));have HP:=zi (zfj s w hG);have hwell:(pdT s.data.toList).2=true->Ve (pdT s.data.toList).1/\s.size<=700/\zW s.data.toList=((pdT s.data.toList).1,0,0):=fun h=>by
  unfold pdT at h ⊢;split at h
  ·cases h
  ·rename_i hl;rw[if_neg hl];have h0:(zW s.data.toList).2.2=0:=by simpa using h
   obtain⟨h1,st,hp⟩:=zhG (s:=s.data.toList) (t:=(zW s.data.toList).1) (p:=(zW s.data.toList).2.1) (by rw[<-h0]);have hl':¬700<s.size:=by simpa using hl
   exact⟨hp.well,by omega,by rw[<-h1,<-h0]⟩
 have HG:=zi hG;generalize pdT s.data.toList=r at *;obtain⟨t,ok⟩:=r;simp only at hwell;clear hG;cases ok
 ·clear hwell;go_enter func5,ntmps5;go_wp2_with fail;refine HP.out.mono ?_;rintro e w1 ⟨hb1,nv,iv,rfl,hT⟩;obtain⟨p1,c1,q1,d1,rfl,rfl⟩:=hT.o.form;simp only at hT;generalize t.nodes.length=nl at *;generalize t.items.length=il at *;have hz:=zk w1 (.cells #[.slice none 0 0,.slice none 0 0] 26 (0,0));have e0:=zd hz 0;have e1:=zd hz 1;have f0:=zl hz 0;have f1:=zl hz 1;have hA:=zf w1 (.cells #[.slice p1 nl c1,.slice q1 il d1] 26 (0,0));have hW1:=zi (zg hb1 hA);clear hz hA hT hb1 HP;go_wp2_with fail;refine (hKn.out _ hW1.out).mono ?_;rintro e w9 ⟨rfl,hb9⟩;have hw9:=zg hW1.out hb9;go_wp2;go_ret;exact⟨rfl,hw9⟩
 ·obtain⟨hW,hs,hpt⟩:=hwell rfl;obtain⟨hok,hkm⟩:=zeG hW;have HO:=zi (fun (nv iv:Value) W (hT:TRo W nv iv t)=>ze4 t nv iv W hT (by have:=hW.n;omega) (by have:=hW.i;omega) (fun y hy=>by have:=hkm y hy;omega));have HPr:=zi (fun (nv iv:Value) W (hT:TR W nv iv t) (hb:Below w.heap.size w W)=>zay t nv iv W hT (HG.out.later hb) hok);have HPy:=zi (fun W (hb:Below w.heap.size w W)=>Vg s W (by omega) (HG.out.later hb) (fun _=>by rw[hpt];exact hok));have hpy:uD s.data.toList=((YZ t).1,0,(YZ t).2):=by
   unfold uD;rw[hpt];rfl
  rw[hpy] at HPy;clear hwell hpy hpt hs;obtain⟨nl,hnl⟩:∃k,t.nodes.length=k:=⟨_,rfl⟩;obtain⟨il,hil⟩:∃k,t.items.length=k:=⟨_,rfl⟩;have Hnl:=zi hnl;have Hil:=zi hil;clear hnl hil;by_cases hrd:(Lode.yQ (zii t)).2.2=0
  ·obtain⟨u,hWu,hpu,hqu,hqt,hst,hlen⟩:=znx hW hrd;obtain⟨hoku,hkmu⟩:=zeG hWu;rw[hqt] at HPr HPy;generalize zii t=T at *;have HP2:=zi (fun (W:World) (hb:Below w.heap.size w W)=>(show Calls prog 14 #[.string ⟨T.toArray⟩] W (Qz (u,0,0) W) from hpu▸kW ⟨T.toArray⟩ W (by show T.length<=_;omega) (HG.out.later hb)));have HOu:=zi (fun (nv iv:Value) W (hT:TRo W nv iv u)=>ze4 u nv iv W hT (by have:=hWu.n;omega) (by have:=hWu.i;omega) (fun y hy=>by have:=hkmu y hy;omega));have HPu:=zi (fun (nv iv:Value) W (hT:TR W nv iv u) (hb:Below w.heap.size w W)=>hqu▸zay u nv iv W hT (HG.out.later hb) hoku);have HAl:=zi (fun (nv iv nv2 iv2:Value) W (ha:TRo W nv iv t) (hb:TRo W nv2 iv2 u) (h:Below w.heap.size w W)=>hst▸zgP t u nv iv nv2 iv2 W ha hb (HG.out.later h) hW hWu);obtain⟨n2,hn2⟩:∃k,u.nodes.length=k:=⟨_,rfl⟩;obtain⟨i2,hi2⟩:∃k,u.items.length=k:=⟨_,rfl⟩;have Hn2:=zi hn2;have Hi2:=zi hi2;clear hn2 hi2;clear hrd hW hok hkm hWu hpu hqu hqt hst hlen hoku hkmu;go_enter func5,ntmps5;go_wp2_with fail;refine HP.out.mono ?_;rintro e w1 ⟨hb1,nv,iv,rfl,hT⟩;obtain⟨p1,c1,q1,d1,rfl,rfl⟩:=hT.o.form;simp only at hT;rw[Hnl.out,Hil.out] at hT ⊢;have hz:=zk w1 (.cells #[.slice none 0 0,.slice none 0 0] 26 (0,0));have e0:=zd hz 0;have e1:=zd hz 1;have f0:=zl hz 0;have f1:=zl hz 1;have hA:=zf w1 (.cells #[.slice p1 nl c1,.slice q1 il d1] 26 (0,0));have hW1:=zi (zg hb1 hA);have HT:=zi (hT.below hA);have hbox:=zi (zk w1 (.cells #[.slice p1 nl c1,.slice q1 il d1] 26 (0,0)));have b0:=zd hbox.out 0;have b1:=zd hbox.out 1;clear hz hA hT hb1 HP;go_wp2_with fail;refine (HO.out _ _ _ HT.out.o).mono ?_;rintro e w2 ⟨nv2,iv2,rfl,⟨kv2,O2⟩,hb2⟩;have hw2:=zi (zg hW1.out hb2);have R2:=zi (zh hb2 hbox.out);have T2:=zi (HT.out.below hb2);have hX:=zi (HPr.out _ _ _ O2.tr hw2.out);obtain⟨poO,cO,qoO,dO,rfl,rfl⟩:=O2.tr.form;clear b0 b1 e0 e1 f0 f1 hbox HT O2 hb2;go_wp2_with fail;refine hX.out.mono ?_;rintro e w3 ⟨rfl,hb3⟩;have hw3:=zi (zg hw2.out hb3);have R3:=zi (zh hb3 R2.out);have T3:=zi (T2.out.below hb3);clear hX hb3 R2 T2 hw2;go_wp2_with fail;refine (HP2.out _ hw3.out).mono ?_;rintro e w4 ⟨hb4,nv4,iv4,rfl,hT4⟩;obtain⟨p4,c4,q4,d4,rfl,rfl⟩:=hT4.o.form;simp only at hT4;rw[Hn2.out,Hi2.out] at hT4 ⊢;have hz:=zk w4 (.cells #[.slice none 0 0,.slice none 0 0] 26 (0,0));have e0:=zd hz 0;have e1:=zd hz 1;have f0:=zl hz 0;have f1:=zl hz 1;have hA:=zf w4 (.cells #[.slice p4 n2 c4,.slice q4 i2 d4] 26 (0,0));have hbA:=zg hb4 hA;have hw5:=zi (zg hw3.out hbA);have R5:=zi (zh hbA R3.out);have T5:=zi (T3.out.below hbA);have U5:=zi (hT4.below hA);have S5:=zi (zk w4 (.cells #[.slice p4 n2 c4,.slice q4 i2 d4] 26 (0,0)));have b0:=zd S5.out 0;have b1:=zd S5.out 1;clear hz hA hT4 hb4 hbA R3 T3 hw3;go_wp2_with fail;refine (HOu.out _ _ _ U5.out.o).mono ?_;rintro e w6 ⟨nv6,iv6,rfl,⟨kv6,O6⟩,hb6⟩;have hw6:=zi (zg hw5.out hb6);have R6:=zi (zh hb6 R5.out);have S6:=zi (zh hb6 S5.out);have T6:=zi (T5.out.below hb6);have U6:=zi (U5.out.below hb6);have hX:=zi (HPu.out _ _ _ O6.tr hw6.out);obtain⟨poU,cU,qoU,dU,rfl,rfl⟩:=O6.tr.form;clear b0 b1 e0 e1 f0 f1 O6 hb6 R5 S5 T5 U5 hw5;go_wp2_with fail;refine hX.out.mono ?_;rintro e w7 ⟨rfl,hb7⟩;have hw7:=zi (zg hw6.out hb7);have R7:=zi (zh hb7 R6.out);have S7:=zi (zh hb7 S6.out);have T7:=zi (T6.out.below hb7);have U7:=zi (U6.out.below hb7);clear hX hb7 R6 S6 T6 U6 hw6;go_wp2_with fail;refine (HPy.out _ hw7.out).mono ?_;rintro e w8 ⟨rfl,hb8⟩;have hw8:=zi (zg hw7.out hb8);have R8:=zh hb8 R7.out;have S8:=zh hb8 S7.out;have T8:=zi (T7.out.below hb8);have U8:=zi (U7.out.below hb8);have b0:=zd R8 0;have b1:=zd R8 1;have g0:=zd S8 0;have g1:=zd S8 1;clear hb8 R7 S7 T7 U7 hw7 R8 S8;go_wp2_with fail;refine (HAl.out _ _ _ _ _ T8.out.o U8.out.o hw8.out).mono ?_;rintro e wA ⟨rfl,hbA⟩;have hwA:=zg hw8.out hbA;go_wp2_with fail;refine (hKn.out _ hwA).mono ?_;rintro e w9 ⟨rfl,hb9⟩;have hw9:=zg hwA hb9;go_wp2;go_ret;exact⟨rfl,hw9⟩
  ·have hpn:=znX hW hrd;rw[hpn] at HPr;clear hrd hW hok hkm hpn HPy;go_enter func5,ntmps5;go_wp2_with fail;refine HP.out.mono ?_;rintro e w1 ⟨hb1,nv,iv,rfl,hT⟩;obtain⟨p1,c1,q1,d1,rfl,rfl⟩:=hT.o.form;simp only at hT;rw[Hnl.out,Hil.out] at hT ⊢;have hz:=zk w1 (.cells #[.slice none 0 0,.slice none 0 0] 26 (0,0));have e0:=zd hz 0;have e1:=zd hz 1;have f0:=zl hz 0;have f1:=zl hz 1;have hA:=zf w1 (.cells #[.slice p1 nl c1,.slice q1 il d1] 26 (0,0));have hW1:=zi (zg hb1 hA);have HT:=zi (hT.below hA);have hbox:=zi (zk w1 (.cells #[.slice p1 nl c1,.slice q1 il d1] 26 (0,0)));have b0:=zd hbox.out 0;have b1:=zd hbox.out 1;clear hz hA hT hb1 HP;go_wp2_with fail;refine (HO.out _ _ _ HT.out.o).mono ?_;rintro e w2 ⟨nv2,iv2,rfl,⟨kv2,O2⟩,hb2⟩;have hw2:=zi (zg hW1.out hb2);have hX:=zi (HPr.out _ _ _ O2.tr hw2.out);obtain⟨poO,cO,qoO,dO,rfl,rfl⟩:=O2.tr.form;clear b0 b1 e0 e1 f0 f1 hbox HT O2 hb2;go_wp2_with fail;refine hX.out.mono ?_;rintro e w3 ⟨rfl,hb3⟩;have hw3:=zi (zg hw2.out hb3);clear hX hb3;go_wp2_with fail;refine (hKn.out _ hw3.out).mono ?_;rintro e w9 ⟨rfl,hb9⟩;have hw9:=zg hw3.out hb9;go_wp2;go_ret;exact⟨rfl,hw9⟩
end
end Go.Proofs.YtnncmdpopgkibaaGreatDoor
