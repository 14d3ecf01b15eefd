/-
  A part of the proof: contracts of functions; no conditions.
-/
import Derived.Test.YtnncmdpopgkibaaGreatDoorKA
import Derived.Test.YtnncmdpopgkibaaGreatDoorKB
import Derived.Test.YtnncmdpopgkibaaGreatDoorKC
import Derived.Test.YtnncmdpopgkibaaGreatDoorKD
import Derived.Test.YtnncmdpopgkibaaGreatDoorKE
import Derived.Test.YtnncmdpopgkibaaGreatDoorKF
import Derived.Test.YtnncmdpopgkibaaGreatDoorKG
import Derived.Test.YtnncmdpopgkibaaGreatDoorKH
import Derived.Test.YtnncmdpopgkibaaGreatDoorKI
import Derived.Test.YtnncmdpopgkibaaGreatDoorKJ
import Derived.Test.YtnncmdpopgkibaaGreatDoorKK
import Derived.Test.YtnncmdpopgkibaaGreatDoorKL
import Derived.Test.YtnncmdpopgkibaaGreatDoorKM
import Derived.Test.YtnncmdpopgkibaaGreatDoorKN
import Derived.Test.YtnncmdpopgkibaaGreatDoorKO
import Derived.Test.YtnncmdpopgkibaaGreatDoorKP
import Derived.Test.YtnncmdpopgkibaaGreatDoorKQ
import Derived.Test.YtnncmdpopgkibaaGreatDoorKR
import Derived.Lib.AtoiAll
import Derived.Lib.ItoaNum
import GoSem.Op.String
import Derived.Lib.LastIndexByte
import Derived.Lib.Bytealg
import Derived.Deep.Upon
import Derived.OwnWalk
import Derived.OneCell
import Derived.Lib.AppendIntMem
import Derived.Deep.RegionHeld3
import Derived.Deep.DrawnRows
import Derived.Deep.AppendLies
import Derived.Maps.Range
import Derived.WalkMore
import Derived.Deep.LoopGhost
import Derived.Shelf.Strings.BuilderF
import Derived.Test.YtnncmdpopgkibaaGreatDoorProg
import Derived.WalkKit
import Derived.WalkLawsBesides
import Derived.WalkSpells
import Derived.Lib.ConvBytes
import Derived.Shelf.Abstract
import Derived.Deep.RegionWith
import Derived.Deep.Light
import Derived.Deep.QuietTactic
import Derived.BigQuiet
import Derived.Shelf.Strings.Builder1
import Derived.Shelf.Strings.Builder2
import Derived.Shelf.Strings.OnBuilder
import Derived.Shelf.Small.Strs
import Derived.Shelf.Small.Wraps
import Derived.Shelf.Strconv.Atoi
import Derived.Shelf.Strconv.Itoa0
import Derived.Shelf.Strconv.Itoa1
import Derived.Shelf.LaysM
import Derived.Shelf.Strconv.Itoa2
import Derived.Shelf.Strconv.Itoa3
import Derived.Shelf.Strconv.AtoiErrFast
import Derived.Shelf.Strconv.ParseIntEmpty
import Derived.Shelf.Strconv.AtoiFail
import Derived.Shelf.Strconv.Clone
import Derived.Shelf.Strconv.SyntaxError
import Derived.Shelf.LaysC
import Derived.Shelf.Strconv.ToError
import Derived.Shelf.Strconv.Lower
import Derived.Shelf.Strconv.ParseUint10
import Derived.Shelf.Strconv.ParseUint10Empty
import Derived.Shelf.Strconv.ParseUint10Any
import Derived.Shelf.Strconv.ParseInt10
import Derived.Shelf.Strconv.AtoiLong
import Derived.Shelf.Strconv.AtoiInnerAll
import Derived.Shelf.Strconv.RangeError
import Derived.Shelf.Strconv.ToErrorRange
import Derived.Shelf.Strconv.AtoiAll
import Derived.Shelf.Strconv.ErrVarAll
import Derived.Shelf.Strings.Search1
import Derived.Shelf.Strings.Search2
import Derived.Shelf.Strings.Search3
import Derived.Shelf.Strings.Shaped
import Derived.Shelf.Strings.Prefix
import Derived.Shelf.Strings.Fields
import Derived.Shelf.Strings.SplitShaped
import Derived.Shelf.Unicode.Latin
import Derived.Shelf.Bits.Mul64
import Derived.Shelf.Unicode.Is16White
import Derived.Shelf.Unicode.IsSpaceAny
import Derived.Shelf.Unicode.Is16Any
import Derived.Shelf.Unicode.Is32Any
import Derived.Shelf.Unicode.ExclAny
import Derived.Shelf.Slices.Turned
import Derived.Shelf.Slices.Reverse
import Derived.Shelf.Slices.Equal
import Derived.Ground.Names2Prog
import Derived.Shelf.Slices.Clone
import Derived.Shelf.Slices.Cells
import Derived.Shelf.Slices.Empties2
import Derived.Ground.SlgnProg
import Derived.Shelf.SlicesE.Index
import Derived.Shelf.SlicesE.Clone
import Derived.Laws.Runes
import Derived.Shelf.RegionOpen
import Derived.OwnWalkIn
import Derived.TacticsInMore
import Derived.LoopNIn
import Derived.LoopIn
import Derived.Deep.Onto
import Derived.Lib.QuietBelow
import Derived.RegionTactic
import Derived.Still
import Derived.RangeFuncNested
import Derived.RangeFuncBound
import Derived.RangeFuncCalls
import Derived.RangeFuncLeaves
import Derived.RangeFuncKeeps
import Derived.Deep.MidRow
import Derived.OrdersIn
import Derived.TacticsIn
import Derived.Laws.CopyOwn
import Derived.Laws.MakeOwn
import Derived.Laws.OwnMore
import Derived.Recover
import Derived.Lib.OthersKept
import Derived.MapKept
import Derived.Carry
set_option maxRecDepth 100000
set_option maxHeartbeats 40000000
set_option linter.unusedSimpArgs false
set_option linter.unusedVariables false
namespace Lode
def plc(E:zv)(i:Nat):Int:=((E.toks[i]?).getD ⟨0,[],E.len⟩).at_
variable {E:zv} {c:Option Nat}
section
variable {α β:Type}
def Pl(E:zv)(c:Option Nat)(m:PM α):Prop:=∀(s:zY) (a:α) (s1:zY),(∀i,c=some i->i<s.next)->m E s=.ok a s1->
 s.next<=s1.next/\∃(r:List Nd) (I:List Nat),s1.nodes=s.nodes ++ r/\r.map Nd.at_=I.map (plc E)/\I.Nodup/\∀i∈I,(s.next<=i/\i<s1.next)\/c=some i
theorem zfQ{m:PM α}(h:Pl E none m):Pl E c m:=fun s a s1 _ h0=>by
 obtain⟨h1,r,I,h2,h3,h4,h5⟩:=h _ _ _ (fun _ e=>by cases e) h0;exact⟨h1,r,I,h2,h3,h4,fun i hi=>(h5 i hi).elim .inl fun e=>by cases e⟩
theorem zcN{m:PM α}{f:α->PM β}(h:Pl E none m)(hf:∀a,Pl E c (f a)):Pl E c (m >>= f):=fun s b s2 hc h0=>by
 obtain⟨a,s1,h1,h0⟩:=zm h0;obtain⟨a1,r,I,a2,a3,a4,a5⟩:=h _ _ _ (fun _ e=>by cases e) h1;obtain⟨b1,q,J,b2,b3,b4,b5⟩:=hf a _ _ _ (fun i e=>wI (hc i e) a1) h0;have a6:∀i∈I,s.next<=i/\i<s1.next:=fun i hi=>(a5 i hi).elim id fun e=>by cases e
 refine⟨pN a1 b1,r ++ q,I ++ J,by rw[b2,a2,wS],by rw[List.map_append,List.map_append,a3,b3],List.nodup_append.2 ⟨a4,b4,fun i hi j hj=>?_⟩,fun i hi=>?_⟩
 ·have h2:=a6 i hi;rcases b5 j hj with h3|h3
  ·omega
  ·have:=hc j h3;omega
 ·rcases pX.1 hi with hi|hi
  ·exact .inl ⟨(a6 i hi).1,wI (a6 i hi).2 b1⟩
  ·exact (b5 i hi).imp (fun h=>⟨by omega,h.2⟩) id
theorem zbP{a:α}:Pl E c (pure a):=fun s b s1 _ h=>by
 obtain⟨rfl,rfl⟩:=zD h;exact⟨pE _,[],[],(wN _).symm,rfl,List.nodup_nil,fun i hi=>by cases hi⟩
theorem zdi:Pl E c (kL:PM α):=fun _ _ _ _ h=>by cases h
theorem ziR{k i:Nat}{x:List UInt8}{n q:Int}{ks:List Int}(hq:q=plc E i):Pl E (some i) (zG k x n q ks):=fun _ b s1 _ h=>by
 cases h;exact⟨pE _,[⟨k,x,n,ks,q⟩],[i],rfl,by rw[hq];rfl,by simp,fun j hj=>by rw[wL] at hj;rw[hj];exact .inr rfl⟩
theorem zhO{k i:Nat}{x:List UInt8}{n q:Int}{ks:List Int}{f:Int->PM α}(hq:q=plc E i)(hf:∀a,Pl E none (f a)):Pl E (some i) (zG k x n q ks >>= f):=fun s b s1 hc h=>by
 obtain⟨a,s2,h1,h⟩:=zm h;cases h1;obtain⟨a1,r,I,a2,a3,a4,a5⟩:=hf _ _ _ _ (fun _ e=>by cases e) h;have hi:=hc i rfl;have a6:∀j∈I,s.next<=j/\j<s1.next:=fun j hj=>(a5 j hj).elim id fun e=>by cases e
 refine⟨a1,⟨k,x,n,ks,q⟩ :: r,i :: I,by rw[a2,wS];rfl,by rw[List.map_cons,List.map_cons,a3,hq],List.nodup_cons.2 ⟨fun h=>?_,a4⟩,fun j hj=>?_⟩
 ·have:=a6 i h;omega
 ·rcases wD.1 hj with rfl|hj
  ·exact .inr rfl
  ·exact .inl (a6 j hj)
theorem zk4{l:List (List UInt8)}{f:Bool->PM α}(h1:Pl E c (f true))(h2:Pl E c (f false)):Pl E c (uU l >>= f):=fun s b s1 hc h=>by
 change f (uq (zy E s) l) E s=_ at h;cases hw:uq (zy E s) l with
 |true=>rw[hw] at h;exact h1 _ _ _ hc h
 |false=>rw[hw] at h;exact h2 _ _ _ hc h
theorem zew{d:Prop}[Decidable d]{m m':PM α}(h1:Pl E c m)(h2:Pl E c m'):Pl E c (if d then m else m'):=by
 split
 ·exact h1
 ·exact h2
theorem zk5{i:Int}{f:Nat->PM α}(h:∀k,Pl E c (f k)):Pl E c (YJ i >>= f):=fun s b s1 hc h0=>h _ _ _ _ hc h0
variable {p:yp→Bool} {A:yp→PM α} {B:PM α}
theorem zey(hA:∀t,Pl E c (A t))(hB:Pl E c B):Pl E c (ZO p A B):=fun s a s1 hc h=>by
 unfold ZO at h;split at h
 ·obtain⟨a1,r,I,a2,a3,a4,a5⟩:=hA _ {s with next:=s.next+1} _ _ (fun i e=>Nat.lt_succ_of_lt (hc i e)) h;exact⟨Nat.le_of_succ_le a1,r,I,a2,a3,a4,fun i hi=>(a5 i hi).imp (fun h=>⟨by have:=h.1;simp only at this;omega,h.2⟩) id⟩
 ·exact hB _ _ _ hc h
theorem zgS(hA:∀i t,yp.at_ t=plc E i->Pl E (some i) (A t))(hB:Pl E none B):Pl E none (ZO p A B):=fun s a s1 hc h=>by
 unfold ZO at h;split at h
 ·obtain⟨a1,r,I,a2,a3,a4,a5⟩:=hA s.next _ rfl {s with next:=s.next+1} _ _ (fun i e=>by cases e;exact Nat.lt_succ_self _) h;refine⟨Nat.le_of_succ_le a1,r,I,a2,a3,a4,fun i hi=>.inl ?_⟩;simp only at a1;rcases a5 i hi with h|h
  ·simp only at h;omega
  ·cases h;omega
 ·exact hB _ _ _ hc h
end
structure PlR(E:zv)(R:xN):Prop where
 expr:Pl E none R.expr
 unary:Pl E none R.unary
 bin2:Pl E none R.bin2
 block:Pl E none R.block
 branch:Pl E none R.branch
 kind:Pl E none R.kind
 pattern:Pl E none R.pattern
theorem zmq{part:PM Int}(hp:Pl E none part):∀(k:Nat) (acc:List Int),Pl E none (qm k part acc)
 |0,_=>fun _ _ _ _ h=>by cases h
 |k+1,acc=>by
  simp only[qm,xT];exact zcN hp fun x=>zey (fun _=>zmq hp k _) zbP
theorem ziU{part:PM Int}(hp:Pl E none part):Pl E none (kC part):=zmq hp _ _
section
variable {R:xN} (hR:PlR E R)
include hR
theorem zhY:Pl E none (jE R)/\Pl E none (ul R)/\Pl E none (Xa R)/\Pl E none (Xb R)/\Pl E none (vw R)/\Pl E none (vG R)/\Pl E none (xI R)/\Pl E none (qh R):=by
 obtain⟨h1,h2,h3,h4,h5,h6,h7⟩:=hR;refine⟨?_,?_,?_,?_,?_,?_,?_,?_⟩
 all_goals
  try simp only[jE,ul,qk,Xa,Xb,vw,vG,xI,qh,yX,xA,xT,xm,jC,qi,qu,vf,qt,xB,if_true,if_false,Bool.false_eq_true]
  repeat' first|exact ziR (by assumption)|exact zbP|exact zdi|exact zfQ (by assumption)|refine zgS (fun i t ht=>?_) ?_|refine zey (fun _=>?_) ?_|refine zk4 ?_ ?_|refine ziU ?_|refine zk5 fun _=>?_|refine zew ?_ ?_|refine zhO (by assumption) fun _=>?_|refine zcN ?_ fun _=>?_
theorem zmE:∀(n:Nat) (first:Bool) (acc:List Int),Pl E none (qB R n first acc)
 |0,_,_=>zbP
 |n+1,first,acc=>by
  simp only[qB,yX];exact zcN (zew zbP (zey (fun _=>zbP) zdi)) fun _=>zcN hR.expr fun _=>zmE n false _
theorem zmn:∀(k:Nat) (acc:List Int),Pl E none (yR R k acc)
 |0,_=>fun _ _ _ _ h=>by cases h
 |k+1,acc=>by
  simp only[yR,yX];have h1:=(zhY hR).2.2.2.2.1;have h2:=fun acc=>zmn k acc
  exact zk4 (zew zbP (zcN h1 fun x=>zk4 (zew zbP (zey (fun _=>h2 _) zdi)) (zew zbP (zey (fun _=>h2 _) zdi)))) (zew zbP (zcN h1 fun x=>zk4 (zew zbP (zey (fun _=>h2 _) zdi)) (zew zbP (zey (fun _=>h2 _) zdi))))
theorem zmC:∀(k:Nat) (acc:List Int),Pl E none (jf R k acc)
 |0,_=>fun _ _ _ _ h=>by cases h
 |k+1,acc=>by
  have h1:=hR.expr;have h2:=fun acc=>zmC k acc
  try simp only[jf,yX,xA,xT,xm,jC,qi,qu,vf,qt,xB,if_true,if_false,Bool.false_eq_true]
  repeat' first|exact zfQ (h2 _)|exact zbP|exact zdi|exact zfQ (by assumption)|refine zgS (fun i t ht=>?_) ?_|refine zey (fun _=>?_) ?_|refine zhO (by assumption) fun _=>?_|refine zcN ?_ fun _=>?_
theorem zmH:∀(k:Nat) (left:Int),Pl E none (jL R k left)
 |0,_=>fun _ _ _ _ h=>by cases h
 |k+1,left=>by
  have h1:=hR.expr;have h2:=fun left=>zmH k left
  try simp only[jL,yX,xA,xT,xm,jC,qi,qu,vf,qt,xB,if_true,if_false,Bool.false_eq_true]
  repeat' first|exact zfQ (h2 _)|exact zbP|exact zdi|exact zfQ (by assumption)|refine zgS (fun i t ht=>?_) ?_|refine zey (fun _=>?_) ?_|refine zhO (by assumption) fun _=>?_|refine zk4 ?_ ?_|refine zew ?_ ?_|refine ziU ?_|refine zcN ?_ fun _=>?_
omit hR in
theorem zm9{tight:PM Int}(ht:Pl E none tight)(lv:Nat):∀(k:Nat) (left:Int),Pl E none (uR lv tight k left)
 |0,_=>fun _ _ _ _ h=>by cases h
 |k+1,left=>by
  simp only[uR,xm];exact zgS (fun i t h=>zcN ht fun r=>zhO h fun x=>zew zbP (zm9 ht lv k _)) zbP
omit hR in
theorem zlw{tight:PM Int}(ht:Pl E none tight)(lv:Nat):Pl E none (uy lv tight):=zcN ht fun left=>zm9 ht lv _ _
theorem zni:Pl E none (qE R):=by
 try simp only[qE,yX,xA,xT,xm,jC,qi,qu,vf,qt,xB,if_true,if_false,Bool.false_eq_true]
 exact zgS (fun i t h=>zcN (zmn hR _ _) fun x=>zey (fun _=>ziR h) zdi) zdi
theorem zmJ:Pl E none (vA R):=by
 have h1:=(zhY hR).1;have h2:=hR.kind
 try simp only[vA,yX,xA,xT,xm,jC,qi,qu,vf,qt,xB,if_true,if_false,Bool.false_eq_true]
 repeat' first|exact ziR (by assumption)|exact zbP|exact zdi|exact zfQ (by assumption)|refine zgS (fun i t ht=>?_) ?_|refine zey (fun _=>?_) ?_|refine zk4 ?_ ?_|refine ziU ?_|refine zk5 fun _=>?_|refine zew ?_ ?_|refine zhO (by assumption) fun _=>?_|refine zcN ?_ fun _=>?_
theorem zmA:Pl E none (qP >>= fun t=>yA R t):=by
 have h0:Pl E none (fun E s=>jf R (E.toks.length+1) [] E s):=zmC hR _ _;obtain⟨_,_,a3,a4,_,_,_,a8⟩:=zhY hR;have h8:=zmJ hR;obtain⟨h1,h2,h3,h4,h5,h6,h7⟩:=hR
 try simp only[yA,xQ,jP,yX,xA,xT,xm,jC,qi,qu,vf,qt,xB,if_true,if_false,Bool.false_eq_true]
 repeat' first|exact ziR (by assumption)|exact zbP|exact zdi|exact zfQ (by assumption)|refine zgS (fun i t ht=>?_) ?_|refine zey (fun _=>?_) ?_|refine zk4 ?_ ?_|refine ziU ?_|refine zk5 fun _=>?_|refine zew ?_ ?_|refine zhO (by assumption) fun _=>?_|refine zcN ?_ fun _=>?_
theorem zns:Pl E none (vB R):=by
 have h1:=hR.expr;have h2:=hR.unary;have h3:=fun n f acc=>zmE hR n f acc
 have h4:=zmA hR;rw[zbE]
 try simp only[qk,jK,yX,xA,xT,xm,jC,qi,qu,vf,qt,xB,if_true,if_false,Bool.false_eq_true]
 repeat' first|exact zfQ (h3 _ _ _)|exact h4|exact ziR (by assumption)|exact zbP|exact zdi|exact zfQ (by assumption)|refine zgS (fun i t ht=>?_) ?_|refine zey (fun _=>?_) ?_|refine ziU ?_|refine zew ?_ ?_|refine zcN ?_ fun _=>?_
theorem zml:Pl E none (jc R):=by
 try simp only[jc,yX,xA,xT,xm,jC,qi,qu,vf,qt,xB,if_true,if_false,Bool.false_eq_true]
 exact zgS (fun i t h=>zcN hR.unary fun _=>ziR h) (zcN (zns hR) fun left=>zmH hR _ _)
theorem zmQ:Pl E none (kP R):=by
 try simp only[kP,yX,xA,xT,xm,jC,qi,qu,vf,qt,xB,if_true,if_false,Bool.false_eq_true]
 exact zgS (fun i t h=>zcN hR.bin2 fun _=>ziR h) (zlw (zlw (zlw (zml hR) 4) 3) 2)
theorem znp:Pl E none (jT R):=by
 obtain⟨a1,a2,_,_,_,_,_,_⟩:=zhY hR;have h8:=zmJ hR;obtain⟨h1,h2,h3,h4,h5,h6,h7⟩:=hR
 try simp only[jT,xQ,yX,xA,xT,xm,jC,qi,qu,vf,qt,xB,if_true,if_false,Bool.false_eq_true]
 repeat' first|exact ziR (by assumption)|exact zbP|exact zdi|exact zfQ (by assumption)|refine zgS (fun i t ht=>?_) ?_|refine zey (fun _=>?_) ?_|refine zk4 ?_ ?_|refine ziU ?_|refine zk5 fun _=>?_|refine zew ?_ ?_|refine zhO (by assumption) fun _=>?_|refine zcN ?_ fun _=>?_
end
theorem zm6:∀n,PlR E (jA n)
 |0=>⟨fun _ _ _ _ h=>(by cases h),fun _ _ _ _ h=>(by cases h),fun _ _ _ _ h=>(by cases h),fun _ _ _ _ h=>(by cases h),fun _ _ _ _ h=>(by cases h),fun _ _ _ _ h=>(by cases h),fun _ _ _ _ h=>(by cases h)⟩
 |n+1=>by
  have hR:=zm6 n;obtain⟨_,_,_,_,_,a6,a7,a8⟩:=zhY hR;exact⟨zlw (zlw (zmQ hR) 1) 0,zml hR,zmQ hR,zni hR,a8,a6,a7⟩
theorem zms{m:Nat}:∀k,Pl E none (qn (jA m) k)
 |0=>fun _ _ _ _ h=>by cases h
 |k+1=>fun s a s1 hc h=>by
  unfold qn at h;split at h
  ·cases hm:jT (jA m) E s with
   |bad p=>rw[hm] at h;cases h
   |ok i s2=>
    rw[hm] at h;dsimp only at h;have:=zcN (f:=fun i=>(fun E s=>qn (jA m) k E {s with items:=s.items ++ [i]}:PM Unit)) (znp (zm6 m)) fun i s b s1 hc h0=>zms k {s with items:=s.items ++ [i]} b s1 hc h0
    exact this _ _ _ hc ((zbD hm).trans h)
  ·cases h;exact⟨pE _,[],[],(wN _).symm,rfl,List.nodup_nil,fun i hi=>by cases hi⟩
theorem zlV{l:List yp}{len:Nat}{t:zY}(h:xO l len=.ok () t)(hl:∀i j,i<j->j<t.next->plc ⟨l,len⟩ i≠plc ⟨l,len⟩ j):(t.nodes.map Nd.at_).Nodup:=by
 obtain⟨_,r,I,a2,a3,a4,a5⟩:=zms (E:=⟨l,len⟩) _ ⟨[],[],0⟩ _ _ (fun _ e=>by cases e) h;rw[wJ] at a2;rw[a2,a3];refine List.Pairwise.map (R:=fun i j=>i∈I/\j∈I/\i≠j) _ (fun i j hij=>?_) ?_
 ·obtain⟨hi,hj,hne⟩:=hij;have h1:=(a5 i hi).elim id fun e=>by cases e
  have h2:=(a5 j hj).elim id fun e=>by cases e
  rcases Nat.lt_or_gt_of_ne hne with h|h
  ·exact hl i j h h2.2
  ·exact fun e=>hl j i h h1.2 e.symm
 ·exact List.Pairwise.imp_of_mem (fun hi hj h=>⟨hi,hj,h⟩) a4
end Lode
namespace Go.Proofs.YtnncmdpopgkibaaGreatDoor
section
open Go.RowKit Lode
open Go.Proofs.Tryz
theorem zmt{m:Nat}:∀(k:Nat) (E:zv) (s t:zY),s.next<=E.toks.length->WFs s->qn (jA m) k E s=.ok () t->t.next<=E.toks.length
 |0,_,_,_,_,_,h=>by cases h
 |k+1,E,s,t,h0,hw,h=>by
  unfold qn at h;split at h
  ·cases hm:jT (jA m) E s with
   |bad p=>rw[hm] at h;cases h
   |ok i s1=>
    rw[hm] at h;dsimp only at h;obtain⟨N,_⟩:=Yf (qX m) h0 hw hm;exact zmt k E {s1 with items:=s1.items ++ [i]} t N.le N.wf h
  ·cases h;exact h0
theorem Vh.places{s:List UInt8}{t:yo}{st:zY}(h:Vh s t st):(t.nodes.map Nd.at_).Nodup:=by
 rw[h.eq];have hle:st.next<=(Lode.yQ s).1.length:=zmt _ ⟨_,s.length⟩ _ st (pU _) (fun i x hx=>by simp at hx) h.pg;obtain⟨hrd,_⟩:=Jt h.rd;have h5:=List.pairwise_iff_getElem.1 hrd.apart.2;refine zlV h.pg fun i j hij hj=>?_
 have:=h5 i j (by omega) (by omega) hij;unfold plc;simp only;rw[glE (by omega),glE (by omega),Option.getD_some,Option.getD_some];omega
theorem znc:(fun V:List UInt8=>yM (40 :: V))=fun _=>some (6,[40],1):=rfl
theorem znd:(fun V:List UInt8=>yM (41 :: V))=fun _=>some (6,[41],1):=rfl
theorem zmW{k:Nat}{t:List UInt8}(hk:k≠4)(h:(yV k t).2=0):kV k t=(t,0):=by
 rw[zlb] at h;unfold kV at h ⊢;rw[if_neg hk] at h ⊢;split at h
 ·cases h
 ·rename_i h1;rw[if_neg h1];split at h
  ·split at h
   ·rename_i h2;rw[if_pos h2]
   ·cases h
  ·cases h
end
end Go.Proofs.YtnncmdpopgkibaaGreatDoor
namespace Lode
section
abbrev KTt:=Nat×List UInt8
def ktt(t:yp):KTt:=(t.kind,t.text)
variable {l:List Nd} {n:Nat}
section
variable {α β:Type}
variable {w r:List KTt} {p q:Nat} {a:α}
theorem zmZ{l l':List Nd}(h:l.map qv=l'.map qv)(i:Nat):(l[i]?).elim 0 Nd.kind=(l'[i]?).elim 0 Nd.kind:=by
 have h1:=congrArg (fun x=>(x[i]?).elim 0 Nd.kind) h;simp only[pZ] at h1;cases h2:l[i]? <;> cases h3:l'[i]? <;> rw[h2,h3] at h1 <;> exact h1
end
variable {r:List KTt}
end
section
def exL(M:Nat->Bool):Nat->List yp->List KTt
 |_,[]=>[]
 |i,t :: r=>if M i then (6,[40]) :: ktt t :: (6,[41]) :: exL M (i+1) r else ktt t :: exL M (i+1) r
structure LE(E E':zv)(M:Nat->Bool):Prop where
 le:E.toks.length<=E'.toks.length
 mark:∀i,M i=true->∃t,E.toks[i]? =some t/\(t.kind=1\/t.kind=3)
 inj:∀(i j:Nat) (t u:yp),E.toks[i]? =some t->E.toks[j]? =some u->t.at_=u.at_->i=j
structure SL(E E':zv)(M:Nat->Bool)(s s':zY):Prop where
 nodes:s'.nodes.map qv=s.nodes.map qv
 items:s'.items=s.items
 toks:(E'.toks.drop s'.next).map ktt=exL M s.next (E.toks.drop s.next)
 le:s'.next<=E'.toks.length
def CN(E:zv)(s s1:zY)(i:Nat):Prop:=∃t x,E.toks[i]? =some t/\x∈s1.nodes.drop s.nodes.length/\(x.kind=1\/x.kind=5)/\x.at_=t.at_
def NKd(E:zv)(r:List Nd):Prop:=∀x∈r,x.kind=1\/x.kind=5->∃(i:Nat) (t:yp),E.toks[i]? =some t/\(t.kind=1\/t.kind=3)/\t.at_=x.at_
theorem NKd.app{E:zv}{r q:List Nd}(h:NKd E r)(k:NKd E q):NKd E (r ++ q):=fun x hx=>(pX.1 hx).elim (h x) (k x)
theorem NKd.nil{E:zv}:NKd E []:=fun _ hx=>by cases hx
variable {E E':zv} {M:Nat→Bool} {b:Bool}
section
variable {α β:Type}
def LS(E E':zv)(M:Nat->Bool)(b:Bool)(m m':PM α):Prop:=∀(s:zY) (a:α) (s1:zY),s.next<=E.toks.length->m E s=.ok a s1->
 s.next<=s1.next/\s1.next<=E.toks.length/\(∃r,s1.nodes=s.nodes ++ r/\NKd E r)/\(∀i,CN E s s1 i->s.next<=i/\i<s1.next/\(b=true->i≠s.next))/\
  ((∀i,M i=true->s.next<=i->i<s1.next->CN E s s1 i)->M s1.next=false->∀s',SL E E' M s s'->∃s1',m' E' s'=.ok a s1'/\SL E E' M s1 s1')
theorem znB{t:yp}{k:Nat}{x:List UInt8}(h:ktt t=(k,x)):t=⟨k,x,t.at_⟩:=by
 obtain⟨k',x',q⟩:=t;simp only[ktt,Prod.mk.injEq] at h;rw[h.1,h.2]
theorem zkh{L:List yp}{i:Nat}{k:Nat}{x:List UInt8}{r:List KTt}(h:(L.drop i).map ktt=(k,x) :: r):∃q,L[i]? =some ⟨k,x,q⟩/\i<L.length/\(L.drop (i+1)).map ktt=r:=by
 have hi:i<L.length:=by
  have:=congrArg List.length h;simp only[wV,wW,pK] at this;omega
 rw[List.drop_eq_getElem_cons hi,List.map_cons,List.cons.injEq] at h;refine⟨L[i].at_,?_,hi,h.2⟩;rw[glE hi,<-znB h.1]
theorem zkj{s:zY}{t:yp}(h:E.toks[s.next]? =some t):zy E s=t:=by unfold zy;rw[h];rfl
theorem SL.head{s s':zY}(h:SL E E' M s s')(hn:s.next<=E.toks.length):
 (s.next=E.toks.length/\zy E s=⟨0,[],E.len⟩/\zy E' s'=⟨0,[],E'.len⟩)\/
 (∃k x q q',s.next<E.toks.length/\E.toks[s.next]? =some ⟨k,x,q⟩/\zy E s=⟨k,x,q⟩/\
   ((M s.next=false/\zy E' s'=⟨k,x,q'⟩/\SL E E' M {s with next:=s.next+1} {s' with next:=s'.next+1})\/
    (M s.next=true/\zy E' s'=⟨6,[40],q'⟩/\s'.next<E'.toks.length/\(E'.toks.drop (s'.next+1)).map ktt=(k,x) :: (6,[41]) :: exL M (s.next+1) (E.toks.drop (s.next+1))))):=by
 rcases Nat.lt_or_ge s.next E.toks.length with hi|hi
 ·right;have h1:=h.toks;rw[List.drop_eq_getElem_cons hi] at h1;have h2:E.toks[s.next]? =some E.toks[s.next]:=glE hi;generalize E.toks[s.next]=t at h1 h2;obtain⟨k,x,q⟩:=t;unfold exL at h1;cases hm:M s.next with
  |true=>
   rw[hm,if_pos rfl] at h1;obtain⟨q',h3,h4,h5⟩:=zkh h1;exact⟨k,x,q,q',hi,h2,zkj h2,.inr ⟨rfl,zkj h3,h4,h5⟩⟩
  |false=>
   rw[hm,if_neg (by decide)] at h1;obtain⟨q',h3,h4,h5⟩:=zkh h1;exact⟨k,x,q,q',hi,h2,zkj h2,.inl ⟨rfl,zkj h3,h.nodes,h.items,h5,h4⟩⟩
 ·left;have h1:=h.toks;rw[List.drop_eq_nil_of_le hi] at h1;have h3:E'.toks.length<=s'.next:=by
   have:=congrArg List.length h1;simp only[wV,wW,exL,pR] at this;omega
  refine⟨by omega,?_,?_⟩
  ·unfold zy;rw[wP hi];rfl
  ·unfold zy;rw[wP h3];rfl
theorem zng{s s1:zY}(h:s1.nodes=s.nodes){i:Nat}:¬CN E s s1 i:=fun ⟨_,x,_,hx,_⟩=>by
 rw[h,List.drop_length] at hx;cases hx
theorem znh{s s2 s1:zY}{r q:List Nd}(h1:s2.nodes=s.nodes ++ r)(h2:s1.nodes=s2.nodes ++ q){i:Nat}:CN E s s1 i↔CN E s s2 i\/CN E s2 s1 i:=by
 unfold CN;rw[h2,h1,List.drop_left,wS,List.drop_left,<-wS,List.drop_left];constructor
 ·rintro ⟨t,x,a,hx,c⟩;rcases pX.1 hx with hx|hx
  ·exact .inl ⟨t,x,a,hx,c⟩
  ·exact .inr ⟨t,x,a,hx,c⟩
 ·rintro (⟨t,x,a,hx,c⟩|⟨t,x,a,hx,c⟩)
  ·exact⟨t,x,a,List.mem_append_left _ hx,c⟩
  ·exact⟨t,x,a,List.mem_append_right _ hx,c⟩
theorem ziT{m m':PM α}(h:LS E E' M true m m'):LS E E' M b m m':=fun s a s1 hn h0=>by
 obtain⟨h1,h2,h3,h4,h5⟩:=h s a s1 hn h0;exact⟨h1,h2,h3,fun i hi=>⟨(h4 i hi).1,(h4 i hi).2.1,fun _=>(h4 i hi).2.2 rfl⟩,h5⟩
theorem zdf{a:α}:LS E E' M b (pure a) (pure a):=fun s x s1 hn h=>by
 obtain⟨rfl,rfl⟩:=zD h;exact⟨pE _,hn,⟨[],(wN _).symm,NKd.nil⟩,fun _ h=>(zng rfl h).elim,fun _ _ s' hs=>⟨s',rfl,hs⟩⟩
theorem zgl{m':PM α}{p:Int}:LS E E' M b (fun _ _=>.bad p) m':=fun _ _ _ _ h=>by cases h
theorem zef{m':PM α}:LS E E' M b kL m':=fun _ _ _ _ h=>by cases h
theorem SL.add{s s':zY}(hs:SL E E' M s s'){k:Nat}{x:List UInt8}{n q q':Int}{ks:List Int}:∃s1',zG k x n q' ks E' s'=.ok (s.nodes.length:Int) s1'/\SL E E' M {s with nodes:=s.nodes ++ [⟨k,x,n,ks,q⟩]} s1':=by
 have hl:=congrArg List.length hs.nodes;rw[wV,wV] at hl;refine⟨{s' with nodes:=s'.nodes ++ [⟨k,x,n,ks,q'⟩]},by unfold zG;rw[hl],?_,hs.items,hs.toks,hs.le⟩;simp only[List.map_append,hs.nodes];rfl
theorem zgy{k:Nat}{x:List UInt8}{n q q':Int}{ks:List Int}(hk:(k == 1 || k == 5)=false:=by rfl):LS E E' M b (zG k x n q ks) (zG k x n q' ks):=fun s a s1 hn h=>by
 cases h;have key:∀y∈[(⟨k,x,n,ks,q⟩:Nd)],¬(y.kind=1\/y.kind=5):=fun y hy hk2=>by
  obtain rfl:=wL.1 hy;simp only at hk2;rcases hk2 with rfl|rfl <;> cases hk
 refine⟨pE _,hn,⟨_,rfl,fun y hy hk2=>(key y hy hk2).elim⟩,fun i ⟨_,y,_,hy,hk2,_⟩=>?_,fun _ _ s' hs=>hs.add⟩;rw[List.drop_left] at hy;exact (key y hy hk2).elim
variable {p:yp→Bool}
theorem znb{A A':yp->PM α}{B B':PM α}{b0:Bool}(hA:∀k x q q',LS E E' M false (A ⟨k,x,q⟩) (A' ⟨k,x,q'⟩))(hB:LS E E' M b0 B B')(hb:b=true->b0=true)(hp:∀q,p ⟨0,[],q⟩=false)
 (hq:∀k x q q',p ⟨k,x,q⟩=p ⟨k,x,q'⟩) (ho:b0=true\/∀q,p ⟨6,[40],q⟩=false):LS E E' M b (ZO p A B) (ZO p A' B'):=fun s a s1 hn h=>by
 unfold ZO at h;cases hk:p (zy E s) with
 |true=>
  rw[hk,if_pos rfl] at h;have hlt:s.next<E.toks.length:=Nat.lt_of_not_le fun hc=>by
   have:zy E s=⟨0,[],E.len⟩:=by unfold zy;rw[wP hc];rfl
   rw[this,hp] at hk;cases hk
  obtain⟨k,x,q,e0⟩:∃k x q,zy E s=⟨k,x,q⟩:=⟨_,_,_,rfl⟩;rw[e0] at h hk;have key:=fun q'=>hA k x q q' {s with next:=s.next+1} a s1 hlt h
  obtain⟨h1,h2,h3,h4,_⟩:=key 0;simp only at h1 h4;refine⟨by omega,h2,h3,fun i hi=>?_,fun hM hM1 s' hs=>?_⟩
  ·have:=h4 i hi;exact⟨by omega,this.2.1,fun _=>by omega⟩
  ·rcases hs.head hn with⟨e,_⟩|⟨k2,x2,q2,q',_,_,e1,h7⟩
   ·omega
   ·rw[e0] at e1;cases e1;rcases h7 with⟨g1,g2,g3⟩|⟨g1,_⟩
    ·unfold ZO;rw[g2,hq k x q' q,hk,if_pos rfl];obtain⟨_,_,_,_,h8⟩:=key q';exact h8 (fun i hi g5 g6=>hM i hi (by simp only at g5;omega) g6) hM1 _ g3
    ·have:=(h4 _ (hM _ g1 (pE _) (by omega))).1;omega
 |false=>
  rw[hk,if_neg (by decide)] at h;obtain⟨h1,h2,h3,h4,h6⟩:=hB s a s1 hn h;refine⟨h1,h2,h3,fun i hi=>⟨(h4 i hi).1,(h4 i hi).2.1,fun h=>(h4 i hi).2.2 (hb h)⟩,fun hM hM1 s' hs=>?_⟩;have key:p (zy E' s')=false:=by
   rcases hs.head hn with⟨_,_,e⟩|⟨k,x,q,q',_,_,e1,h7⟩
   ·rw[e,hp]
   ·rw[e1] at hk;rcases h7 with⟨_,g2,_⟩|⟨g1,g2,_⟩
    ·rw[g2,hq k x q' q,hk]
    ·rcases ho with rfl|ho
     ·rcases Nat.lt_or_ge s.next s1.next with hl|hl
      ·exact absurd rfl ((h4 _ (hM _ g1 (pE _) hl)).2.2 rfl)
      ·have:s1.next=s.next:=by omega
       rw[this,g1] at hM1;cases hM1
     ·rw[g2,ho]
  unfold ZO;rw[key,if_neg (by decide)];exact h6 hM hM1 s' hs
theorem zgQ{A A':yp->PM α}{B B':PM α}(hA:∀k x q q',LS E E' M false (A ⟨k,x,q⟩) (A' ⟨k,x,q'⟩))(hB:LS E E' M b B B')(ho:∀q,p ⟨6,[40],q⟩=false:=by exact fun _=>rfl)(hp:∀q,p ⟨0,[],q⟩=false:=by exact fun _=>rfl)
 (hq:∀k x q q',p ⟨k,x,q⟩=p ⟨k,x,q'⟩:=by exact fun _ _ _ _=>rfl):LS E E' M b (ZO p A B) (ZO p A' B'):=znb hA hB id hp hq (.inr ho)
theorem zkx{A A':yp->PM α}{B B':PM α}(hA:∀k x q q',LS E E' M false (A ⟨k,x,q⟩) (A' ⟨k,x,q'⟩))(hB:LS E E' M true B B')(hp:∀q,p ⟨0,[],q⟩=false:=by exact fun _=>rfl)
 (hq:∀k x q q',p ⟨k,x,q⟩=p ⟨k,x,q'⟩:=by exact fun _ _ _ _=>rfl):LS E E' M b (ZO p A B) (ZO p A' B'):=znb hA hB (fun _=>rfl) hp hq (.inl rfl)
theorem zbM{m m':PM α}{f f':α->PM β}(h:LS E E' M b m m')(hf:∀a,LS E E' M true (f a) (f' a)):LS E E' M b (m >>= f) (m' >>= f'):=fun s a s1 hn h0=>by
 obtain⟨x,s2,h1,h0⟩:=zm h0;obtain⟨a1,a2,⟨r,a3,k3⟩,a4,a5⟩:=h s x s2 hn h1;obtain⟨c1,c2,⟨q,c3,j3⟩,c4,c5⟩:=hf x s2 a s1 a2 h0;have hcn:=fun i=>znh (E:=E) a3 c3 (i:=i)
 refine⟨by omega,c2,⟨r ++ q,by rw[c3,a3,wS],k3.app j3⟩,fun i hi=>?_,fun hM hM1 s' hs=>?_⟩
 ·rcases (hcn i).1 hi with hi|hi
  ·have:=a4 i hi;exact⟨this.1,by omega,this.2.2⟩
  ·have:=c4 i hi;have h2:=this.2.2 rfl;exact⟨by omega,this.2.1,fun _=>by omega⟩
 ·have hmid:M s2.next=false:=by
   rcases Nat.lt_or_ge s2.next s1.next with hl|hl
   ·cases hm:M s2.next with
    |false=>rfl
    |true=>
     rcases (hcn _).1 (hM _ hm a1 hl) with hi|hi
     ·have:=(a4 _ hi).2.1;omega
     ·exact absurd rfl ((c4 _ hi).2.2 rfl)
   ·rw[show s2.next=s1.next by omega];exact hM1
  obtain⟨s2',d1,d2⟩:=a5 (fun i hi g1 g2=>by
   rcases (hcn i).1 (hM i hi g1 (by omega)) with h|h
   ·exact h
   ·have:=(c4 _ h).1;omega) hmid s' hs
  rw[zbD d1];exact c5 (fun i hi g1 g2=>by
   rcases (hcn i).1 (hM i hi (by omega) g2) with h|h
   ·have:=(a4 _ h).2.1;omega
   ·exact h) hM1 s2' d2
theorem zla(hE:LE E E' M){l:List (List UInt8)}{f f':Bool->PM α}(ht:LS E E' M b (f true) (f' true))(hf:LS E E' M b (f false) (f' false))(hl:∀q,uq ⟨6,[40],q⟩ l=false:=by exact fun _=>rfl):LS E E' M b (uU l >>= f) (uU l >>= f'):=fun s a s1 hn h=>by
 change f (uq (zy E s) l) E s=_ at h;have key:∀s',SL E E' M s s'->uq (zy E' s') l=uq (zy E s) l:=fun s' hs=>by
  rcases hs.head hn with⟨_,e0,e⟩|⟨k,x,q,q',_,e0,e1,h7⟩
  ·rw[e0,e];rfl
  ·rw[e1];rcases h7 with⟨_,g2,_⟩|⟨g1,g2,_⟩
   ·rw[g2];rfl
   ·obtain⟨t,h1,h2⟩:=hE.mark _ g1;rw[e0] at h1;cases h1;rw[g2,hl];simp only at h2;rcases h2 with rfl|rfl <;> rfl
 have hb:LS E E' M b (f (uq (zy E s) l)) (f' (uq (zy E s) l)):=by
  cases uq (zy E s) l
  ·exact hf
  ·exact ht
 obtain⟨h1,h2,h3,h4,h5⟩:=hb s a s1 hn h;refine⟨h1,h2,h3,h4,fun hM hM1 s' hs=>?_⟩;show ∃s1',f' (uq (zy E' s') l) E' s'=_/\_
 rw[key s' hs];exact h5 hM hM1 s' hs
theorem znA{f f':yp->PM α}(h:∀t t',LS E E' M b (f t) (f' t')):LS E E' M b (qP >>= f) (qP >>= f'):=fun s a s1 hn h0=>by
 change f (zy E s) E s=_ at h0;obtain⟨h1,h2,h3,h4,_⟩:=h _ (zy E s) s a s1 hn h0;exact⟨h1,h2,h3,h4,fun hM hM1 s' hs=>(h _ (zy E' s') s a s1 hn h0).2.2.2.2 hM hM1 s' hs⟩
theorem zk7{i:Int}{f f':Nat->PM α}(h:∀k,LS E E' M b (f k) (f' k)):LS E E' M b (YJ i >>= f) (YJ i >>= f'):=fun s a s1 hn h0=>by
 obtain⟨h1,h2,h3,h4,h5⟩:=h _ s a s1 hn h0;refine⟨h1,h2,h3,h4,fun hM hM1 s' hs=>?_⟩;show ∃s1',f' ((s'.nodes[i.toNat]?).elim 0 Nd.kind) E' s'=_/\_
 rw[zmZ hs.nodes];exact h5 hM hM1 s' hs
theorem zgW{c:Prop}[Decidable c]{m m' n n':PM α}(h:LS E E' M b m m')(k:LS E E' M b n n'):LS E E' M b (if c then m else n) (if c then m' else n'):=by
 split
 ·exact h
 ·exact k
end
structure RL(E E':zv)(M:Nat->Bool)(R R':xN):Prop where
 expr:LS E E' M false R.expr R'.expr
 unary:LS E E' M false R.unary R'.unary
 bin2:LS E E' M false R.bin2 R'.bin2
 block:LS E E' M true R.block R'.block
 branch:LS E E' M true R.branch R'.branch
 kind:LS E E' M true R.kind R'.kind
 pattern:LS E E' M true R.pattern R'.pattern
end
section
variable {E E':zv} {M:Nat→Bool} {b:Bool} {R R':xN}
theorem zkH{α:Type}{m m':PM α}(h:LS E E' M b m m'):LS E E' M false m m':=by
 cases b
 ·exact h
 ·exact ziT h
section
variable (hE:LE E E' M)
include hE
omit hE in
theorem zmr{part part':PM Int}(hp:LS E E' M b part part'):∀(k k':Nat) (acc:List Int),k<=k'->LS E E' M b (qm k part acc) (qm k' part' acc)
 |0,_,_,_=>zgl
 |k+1,k',acc,h=>by
  obtain⟨k',rfl⟩:∃j,k'=j+1:=⟨k'-1,by omega⟩;simp only[qm,xT];exact zbM hp fun x=>zgQ (fun _ _ _ _=>zkH (zmr hp k k' _ (by omega))) zdf
theorem zjS{α:Type}{m m':Nat->PM α}(h:∀k k',k<=k'->LS E E' M b (m k) (m' k')):LS E E' M b (fun E s=>m (E.toks.length+1) E s) (fun E s=>m' (E.toks.length+1) E s):=fun s a s1=>h (E.toks.length+1) (E'.toks.length+1) (by have:=hE.le;omega) s a s1
theorem ziV{part part':PM Int}(hp:LS E E' M b part part'):LS E E' M b (kC part) (kC part'):=zjS hE (m:=fun k=>qm k part []) (m':=fun k=>qm k part' []) fun k k' h=>zmr hp k k' [] h
end
section
variable (hE:LE E E' M) (hR:RL E E' M R R')
include hE hR
theorem zii:LS E E' M true (jE R) (jE R')/\LS E E' M true (ul R) (ul R')/\LS E E' M true (Xa R) (Xa R')/\LS E E' M true (Xb R) (Xb R')/\LS E E' M false (vw R) (vw R')/\LS E E' M true (vG R) (vG R')/\LS E E' M true (xI R) (xI R')/\LS E E' M true (qh R) (qh R'):=by
 obtain⟨h1,h2,h3,h4,h5,h6,h7⟩:=hR;refine⟨?_,?_,?_,?_,?_,?_,?_,?_⟩
 all_goals
  try simp only[jE,ul,qk,Xa,Xb,vw,vG,xI,qh,yX,xA,xT,xm,jC,qi,qu,qt,xB,if_true,if_false,Bool.false_eq_true]
  repeat' first|exact zef|exact zgy|exact zdf|assumption|exact ziT (by assumption)|exact zkH (by assumption)|refine zgQ (fun _ _ _ _=>?_) ?_|refine zkx (fun _ _ _ _=>?_) ?_|refine zla hE ?_ ?_|refine ziV hE ?_|refine zk7 fun _=>?_|refine zgW ?_ ?_|refine zbM ?_ fun _=>?_
omit hE hR in
theorem zmF{k:Nat}{acc:List Int}:qB R (k+1) false acc=ZO (isS [[44]]) (fun _=>R.expr >>= fun x=>qB R k false (acc ++ [x])) kL:=by
 rw[<-yX];refine ZY fun E s=>?_
 show PM.bind (PM.bind (zL [44]) fun _=>PM.ret ()) (fun _=>R.expr >>= fun x=>qB R k false (acc ++ [x])) E s=PM.bind (zL [44]) _ E s
 unfold PM.bind;cases zL [44] E s <;> rfl
omit hE in
theorem zmG:∀(n:Nat) (acc:List Int),LS E E' M true (qB R n false acc) (qB R' n false acc)
 |0,_=>zdf
 |n+1,acc=>by
  rw[zmF,zmF];exact zgQ (fun _ _ _ _=>zbM hR.expr fun x=>zmG n _) zef
omit hE in
theorem zm5(n:Nat)(acc:List Int):LS E E' M false (qB R n true acc) (qB R' n true acc):=by
 cases n with
 |zero=>exact zdf
 |succ n=>exact zbM (m:=R.expr) (m':=R'.expr) (f:=fun x=>qB R n false (acc ++ [x])) (f':=fun x=>qB R' n false (acc ++ [x])) hR.expr fun x=>zmG hR n _
theorem zmo:∀(k k':Nat) (acc:List Int),k<=k'->LS E E' M false (yR R k acc) (yR R' k' acc)
 |0,_,_,_=>zgl
 |k+1,k',acc,h=>by
  obtain⟨k',rfl⟩:∃j,k'=j+1:=⟨k'-1,by omega⟩;have h1:=(zii hE hR).2.2.2.2.1;have h2:=fun acc=>zmo k k' acc (by omega)
  simp only[yR,yX];refine zla hE (zgW zdf ?_) (zgW zdf ?_) <;> exact zbM h1 fun x=>zla hE (zgW zdf (zgQ (fun _ _ _ _=>h2 _) zef)) (zgW zdf (zgQ (fun _ _ _ _=>h2 _) zef))
omit hE in
theorem zmD:∀(k k':Nat) (acc:List Int),k<=k'->LS E E' M true (jf R k acc) (jf R' k' acc)
 |0,_,_,_=>zgl
 |k+1,k',acc,h=>by
  obtain⟨k',rfl⟩:∃j,k'=j+1:=⟨k'-1,by omega⟩;have h1:=hR.expr;have h2:=fun acc=>ziT (b:=false) (zmD k k' acc (by omega))
  try simp only[jf,yX,xA,xT,xm,jC,qi,qu,qt,xB,if_true,if_false,Bool.false_eq_true]
  repeat' first|exact h2 _|exact zef|exact zdf|assumption|refine zgQ (fun _ _ _ _=>?_) ?_|refine zbM zgy fun _=>?_|refine zbM ?_ fun _=>?_
theorem zmI:∀(k k':Nat) (left:Int),k<=k'->LS E E' M true (jL R k left) (jL R' k' left)
 |0,_,_,_=>zgl
 |k+1,k',left,h=>by
  obtain⟨k',rfl⟩:∃j,k'=j+1:=⟨k'-1,by omega⟩;have h1:=hR.expr;have h2:=fun left=>zmI k k' left (by omega)
  try simp only[jL,yX,xA,xT,xm,jC,qi,qu,qt,xB,if_true,if_false,Bool.false_eq_true]
  repeat' first|exact h2 _|exact zef|exact zdf|assumption|refine zgQ (fun _ _ _ _=>?_) ?_|refine zkx (fun _ _ _ _=>?_) ?_|refine zla hE ?_ ?_|refine zgW ?_ ?_|refine ziV hE ?_|refine zbM zgy fun _=>?_|refine zbM ?_ fun _=>?_
omit hE hR in
theorem znD(lv:Nat)(t:List UInt8):(Qj lv t == 1 || Qj lv t == 5)=false:=by
 unfold Qj;generalize (yS lv).idxOf t=i;have h:∀l:List Nat,(∀x∈l,(x == 1 || x == 5)=false)->(l.getD i 0 == 1 || l.getD i 0 == 5)=false:=fun l hl=>by
  rw[pA];cases hx:l[i]? with
  |none=>rfl
  |some y=>exact hl y (wK hx)
 apply h;unfold jk;split <;> decide
omit hE hR in
theorem zna{tight tight':PM Int}(ht:LS E E' M false tight tight')(lv:Nat)(hs:∀q,isS (yS lv) ⟨6,[40],q⟩=false):∀(k k':Nat) (left:Int),k<=k'->LS E E' M true (uR lv tight k left) (uR lv tight' k' left)
 |0,_,_,_=>zgl
 |k+1,k',left,h=>by
  obtain⟨k',rfl⟩:∃j,k'=j+1:=⟨k'-1,by omega⟩;simp only[uR,xm];exact zgQ (fun _ _ _ _=>zbM ht fun r=>zbM (zgy (znD _ _)) fun x=>zgW zdf (zna ht lv hs k k' _ (by omega))) zdf hs
omit hR in
theorem zlH{tight tight':PM Int}(ht:LS E E' M false tight tight')(lv:Nat)(hs:∀q,isS (yS lv) ⟨6,[40],q⟩=false:=by exact fun _=>rfl):LS E E' M false (uy lv tight) (uy lv tight'):=zbM ht fun left=>zjS hE (m:=fun k=>uR lv tight k left) (m':=fun k=>uR lv tight' k left) fun k k' h=>zna ht lv hs k k' left h
theorem znj:LS E E' M true (qE R) (qE R'):=by
 have h0:LS E E' M false (fun E s=>yR R (E.toks.length+1) [] E s) (fun E s=>yR R' (E.toks.length+1) [] E s):=zjS hE (m:=fun k=>yR R k []) (m':=fun k=>yR R' k []) fun k k' h=>zmo hE hR k k' [] h
 try simp only[qE,yX,xA,xT,xm,jC,qi,qu,qt,xB,if_true,if_false,Bool.false_eq_true]
 exact zgQ (fun _ _ _ _=>zbM h0 fun x=>zgQ (fun _ _ _ _=>zgy) zef) zef
theorem zmK:LS E E' M true (vA R) (vA R'):=by
 have h1:=(zii hE hR).1;have h2:=hR.kind
 try simp only[vA,yX,xA,xT,xm,jC,qi,qu,qt,xB,if_true,if_false,Bool.false_eq_true]
 repeat' first|exact zef|exact zgy|exact zdf|assumption|exact ziT (by assumption)|exact zkH (by assumption)|refine zgQ (fun _ _ _ _=>?_) ?_|refine zkx (fun _ _ _ _=>?_) ?_|refine zla hE ?_ ?_|refine ziV hE ?_|refine zk7 fun _=>?_|refine zgW ?_ ?_|refine zbM ?_ fun _=>?_
theorem zmB(t t':yp):LS E E' M true (yA R t) (yA R' t'):=by
 have h0:LS E E' M true (fun E s=>jf R (E.toks.length+1) [] E s) (fun E s=>jf R' (E.toks.length+1) [] E s):=zjS hE (m:=fun k=>jf R k []) (m':=fun k=>jf R' k []) fun k k' h=>zmD hR k k' [] h
 obtain⟨_,_,a3,a4,_,_,_,a8⟩:=zii hE hR;have h8:=zmK hE hR;obtain⟨h1,h2,h3,h4,h5,h6,h7⟩:=hR
 try simp only[yA,xQ,jP,yX,xA,xT,xm,jC,qi,qu,qt,xB,if_true,if_false,Bool.false_eq_true]
 repeat' first|exact zef|exact zgy|exact zdf|assumption|exact ziT (by assumption)|exact zkH (by assumption)|refine zgQ (fun _ _ _ _=>?_) ?_|refine zkx (fun _ _ _ _=>?_) ?_|refine zla hE ?_ ?_|refine ziV hE ?_|refine zk7 fun _=>?_|refine zgW ?_ ?_|refine zbM ?_ fun _=>?_
end
end
section
variable {E E':zv} {M:Nat→Bool} {b:Bool} {R R':xN}
section
variable {α:Type}
theorem zez{p:yp->Bool}{A:yp->PM α}{B:PM α}{s:zY}(h:p (zy E s)=false):ZO p A B E s=B E s:=by
 unfold ZO;rw[h,if_neg (by decide)]
theorem ziS{p:yp->Bool}{A:yp->PM α}{B:PM α}{s:zY}(h:p (zy E s)=true):ZO p A B E s=A (zy E s) E {s with next:=s.next+1}:=by
 unfold ZO;rw[h,if_pos rfl]
end
def zjf(k:Nat)(x:List UInt8)(q:Int):Nd:=if k=3 then ⟨1,[],xR x,[],q⟩ else ⟨5,x,0,[],q⟩
theorem zlP{s:zY}{k:Nat}{x:List UInt8}{q:Int}(h:zy E s=⟨k,x,q⟩)(hk:k=1\/k=3):vB R E s=.ok (s.nodes.length:Int) {s with nodes:=s.nodes ++ [zjf k x q],next:=s.next+1}:=by
 rw[zbE];rcases hk with rfl|rfl
 ·rw[zez (by rw[h];rfl),zez (by rw[h];rfl),ziS (by rw[h];rfl),h];rfl
 ·rw[ziS (by rw[h];rfl),h];rfl
theorem zm8{s:zY}{q:Int}(h:zy E s=⟨6,[41],q⟩)(k:Nat)(left:Int):jL R (k+1) left E s=.ok left s:=by
 try simp only[jL,yX,xA,xT,xm,jC,qi,qu,qt,xB,if_true,if_false,Bool.false_eq_true]
 rw[zez (by rw[h];rfl),zez (by rw[h];rfl)];rfl
theorem zki{tight:PM Int}{s s1:zY}{a:Int}{q:Int}(h0:tight E s=.ok a s1)(h:zy E s1=⟨6,[41],q⟩)(lv:Nat)(hs:isS (yS lv) ⟨6,[41],q⟩=false):uy lv tight E s=.ok a s1:=by
 refine (zbD h0).trans ?_;simp only[uR,xm];rw[zez (by rw[h];exact hs)];rfl
theorem zne{s:zY}{k:Nat}{x:List UInt8}{q q2:Int}(h:zy E s=⟨k,x,q⟩)(hk:k=1\/k=3)(h2:zy E {s with nodes:=s.nodes ++ [zjf k x q],next:=s.next+1}=⟨6,[41],q2⟩):zaj R E s=.ok (s.nodes.length:Int) {s with nodes:=s.nodes ++ [zjf k x q],next:=s.next+1}:=by
 have h3:jc R E s=.ok (s.nodes.length:Int) {s with nodes:=s.nodes ++ [zjf k x q],next:=s.next+1}:=by
  try simp only[jc,yX,xA,xT,xm,jC,qi,qu,qt,xB,if_true,if_false,Bool.false_eq_true]
  rw[zez (by rw[h];rcases hk with rfl|rfl <;> rfl)];exact (zbD (zlP h hk)).trans (zm8 h2 _ _)
 have h4:=zki (zki (zki h3 h2 4 rfl) h2 3 rfl) h2 2 rfl;have h5:kP R E s=.ok (s.nodes.length:Int) {s with nodes:=s.nodes ++ [zjf k x q],next:=s.next+1}:=by
  try simp only[kP,yX,xA,xT,xm,jC,qi,qu,qt,xB,if_true,if_false,Bool.false_eq_true]
  rw[zez (by rw[h];rcases hk with rfl|rfl <;> rfl)];exact h4
 exact zki (zki h5 h2 1 rfl) h2 0 rfl
def zlQ(R:xN):PM Int:=ZO (isK 4) (fun t=>zG 2 t.text 0 t.at_ []) (ZO (isK 2) (fun t=>qk R.expr >>= fun l=>zG 25 t.text 0 t.at_ l)
 (ZO (isS [[40]]) (fun t=>ZO (isS [[41]]) (fun _=>zG 4 [] 0 t.at_ []) (R.expr >>= fun x=>ZO (isS [[41]]) (fun _=>pure x) kL)) (ZO (isS [[116,114,117,101]]) (fun t=>zG 3 [] 1 t.at_ []) (ZO (isS [[102,97,108,115,101]]) (fun t=>zG 3 [] 0 t.at_ [])
 (ZO isO (fun t=>jK R t ((xV t.text).getD (0,0))) (qP >>= fun t=>yA R t))))))
theorem zhE{s:zY}(h1:(zy E s).kind≠1)(h3:(zy E s).kind≠3):vB R E s=zlQ R E s:=by
 have e1:isK 1 (zy E s)=false:=by unfold isK;simpa using h1
 have e3:isK 3 (zy E s)=false:=by unfold isK;simpa using h3
 rw[zbE,zez e3];unfold zlQ;cases e4:isK 4 (zy E s) with
 |true=>rw[ziS e4,ziS e4]
 |false=>rw[zez e4,zez e4,zez e1]
theorem znm(x:List UInt8):(((xV x).getD (0,0)).1 == 1 || ((xV x).getD (0,0)).1 == 5)=false:=by
 unfold xV;cases h:zM.find? fun w=>w.1 == x with
 |none=>rfl
 |some w=>
  have hm:=List.mem_of_find?_eq_some h;have:∀w∈zM,(w.2.1 == 1 || w.2.1 == 5)=false:=by decide
  exact this w hm
section
variable (hE:LE E E' M) (hR:RL E E' M R R')
include hE hR
theorem zno:LS E E' M true (zlQ R) (zlQ R'):=by
 have h1:=hR.expr;have h2:=hR.unary;have h4:LS E E' M true (qP >>= fun t=>yA R t) (qP >>= fun t=>yA R' t):=znA fun t t'=>zmB hE hR t t'
 unfold zlQ
 try simp only[qk,jK,yX,xA,xT,xm,jC,qi,qu,qt,xB,if_true,if_false,Bool.false_eq_true]
 repeat' first|exact zkH (zm5 hR _ _)|exact h4|exact zef|exact zgy|exact zgy (znm _)|exact zdf|assumption|refine zgQ (fun _ _ _ _=>?_) ?_|refine zkx (fun _ _ _ _=>?_) ?_|refine ziV hE ?_|refine zgW ?_ ?_|refine zbM ?_ fun _=>?_
theorem znt(hx:∃j,R'=jA (j+1)):LS E E' M false (vB R) (vB R'):=by
 intro s a s1 hn h;by_cases hk:(zy E s).kind=1\/(zy E s).kind=3
 ·obtain⟨k,x,q,e0⟩:∃k x q,zy E s=⟨k,x,q⟩:=⟨_,_,_,rfl⟩;rw[e0] at hk;simp only at hk;rw[zlP e0 hk] at h;cases h;have hlt:s.next<E.toks.length:=Nat.lt_of_not_le fun hc=>by
   have:zy E s=⟨0,[],E.len⟩:=by unfold zy;rw[wP hc];rfl
   rw[this] at e0;cases e0;rcases hk with h|h <;> cases h
  have e1:E.toks[s.next]? =some ⟨k,x,q⟩:=by
   unfold zy at e0;rw[glE hlt] at e0 ⊢;rw[<-e0];rfl
  have hat:(zjf k x q).at_=q:=by unfold zjf;split <;> rfl
  refine⟨Nat.le_succ _,hlt,⟨_,rfl,fun y hy _=>⟨s.next,_,e1,hk,by rw[wL.1 hy,hat]⟩⟩,fun i ⟨t,y,a1,a2,a3,a4⟩=>?_,fun hM hM1 s' hs=>?_⟩
  ·rw[List.drop_left] at a2;obtain rfl:=wL.1 a2;have:=hE.inj i s.next t _ a1 e1 (by rw[<-a4,hat]);exact⟨by omega,by simp only;omega,fun h=>by cases h⟩
  ·have hl:=congrArg List.length hs.nodes;rw[wV,wV] at hl;have hno:∀q',(s'.nodes ++ [zjf k x q']).map qv=(s.nodes ++ [zjf k x q]).map qv:=fun q'=>by
    simp only[List.map_append,hs.nodes,List.map_cons,List.map_nil];congr 2;unfold zjf;split <;> rfl
   rcases hs.head hn with⟨e,_⟩|⟨k2,x2,q2,q',_,_,e2,h7⟩
   ·omega
   ·rw[e0] at e2;cases e2;rcases h7 with⟨g1,g2,g3⟩|⟨g1,g2,g3,g4⟩
    ·refine⟨{s' with nodes:=s'.nodes ++ [zjf k x q'],next:=s'.next+1},by rw[zlP g2 hk,hl],hno q',g3.items,g3.toks,g3.le⟩
    ·obtain⟨j,rfl⟩:=hx;obtain⟨qa,b1,b2,b3⟩:=zkh g4;obtain⟨qb,c1,c2,c3⟩:=zkh b3;have t2:zy E' {s' with next:=s'.next+1}=⟨k,x,qa⟩:=zkj b1;have t3:zy E' {s' with nodes:=s'.nodes ++ [zjf k x qa],next:=s'.next+1+1}=⟨6,[41],qb⟩:=zkj c1;have key:vB (jA (j+1)) E' s'=.ok (s'.nodes.length:Int) {s' with nodes:=s'.nodes ++ [zjf k x qa],next:=s'.next+1+1+1}:=by
      have ex:(jA (j+1)).expr E' {s' with next:=s'.next+1}=.ok (s'.nodes.length:Int) {s' with nodes:=s'.nodes ++ [zjf k x qa],next:=s'.next+1+1}:=zne (R:=jA j) t2 hk t3;rw[zhE (by rw[g2];exact fun h=>by cases h) (by rw[g2];exact fun h=>by cases h)];unfold zlQ;rw[zez (by rw[g2];rfl),zez (by rw[g2];rfl),ziS (by rw[g2];rfl),zez (by rw[t2];rcases hk with rfl|rfl <;> rfl),zbD ex,ziS (by rw[t3];rfl)];rfl
     refine⟨{s' with nodes:=s'.nodes ++ [zjf k x qa],next:=s'.next+1+1+1},by rw[key,hl],hno qa,hs.items,c3,c2⟩
 ·have h1:(zy E s).kind≠1:=fun h=>hk (.inl h)
  have h3:(zy E s).kind≠3:=fun h=>hk (.inr h)
  rw[zhE h1 h3] at h;obtain⟨a1,a2,a3,a4,a5⟩:=zno hE hR s a s1 hn h;refine⟨a1,a2,a3,fun i hi=>⟨(a4 i hi).1,(a4 i hi).2.1,fun h=>by cases h⟩,fun hM hM1 s' hs=>?_⟩;have key:vB R' E' s'=zlQ R' E' s':=by
   rcases hs.head hn with⟨_,_,e⟩|⟨k,x,q,q',_,_,e1,⟨_,g2,_⟩|⟨g1,g2,_⟩⟩
   ·exact zhE (by rw[e];exact fun h=>by cases h) (by rw[e];exact fun h=>by cases h)
   ·rw[e1] at h1 h3;exact zhE (by rw[g2];exact h1) (by rw[g2];exact h3)
   ·exact zhE (by rw[g2];exact fun h=>by cases h) (by rw[g2];exact fun h=>by cases h)
  rw[key];exact a5 hM hM1 s' hs
theorem zmm(hx:∃j,R'=jA (j+1)):LS E E' M false (jc R) (jc R'):=by
 have h0:=fun left=>zjS hE (m:=fun k=>jL R k left) (m':=fun k=>jL R' k left) fun k k' h=>zmI hE hR k k' left h
 try simp only[jc,yX,xA,xT,xm,jC,qi,qu,qt,xB,if_true,if_false,Bool.false_eq_true]
 exact zgQ (fun _ _ _ _=>zbM hR.unary fun _=>zgy) (zbM (znt hE hR hx) h0)
theorem zmR(hx:∃j,R'=jA (j+1)):LS E E' M false (kP R) (kP R'):=by
 try simp only[kP,yX,xA,xT,xm,jC,qi,qu,qt,xB,if_true,if_false,Bool.false_eq_true]
 exact zgQ (fun _ _ _ _=>zbM hR.bin2 fun _=>zgy) (zlH hE (zlH hE (zlH hE (zmm hE hR hx) 4) 3) 2)
theorem znn(hx:∃j,R'=jA (j+1)):RL E E' M (⟨zaj R,jc R,kP R,qE R,qh R,vG R,xI R⟩:xN) ⟨zaj R',jc R',kP R',qE R',qh R',vG R',xI R'⟩:=by
 obtain⟨_,_,_,_,_,a6,a7,a8⟩:=zii hE hR;exact⟨zlH hE (zlH hE (zmR hE hR hx) 1) 0,zmm hE hR hx,zmR hE hR hx,znj hE hR,a8,a6,a7⟩
theorem znq:LS E E' M true (jT R) (jT R'):=by
 obtain⟨a1,a2,_,_,_,_,_,_⟩:=zii hE hR;have h8:=zmK hE hR;obtain⟨h1,h2,h3,h4,h5,h6,h7⟩:=hR
 try simp only[jT,xQ,yX,xA,xT,xm,jC,qi,qu,qt,xB,if_true,if_false,Bool.false_eq_true]
 repeat' first|exact zef|exact zgy|exact zdf|assumption|exact ziT (by assumption)|exact zkH (by assumption)|refine zgQ (fun _ _ _ _=>?_) ?_|refine zkx (fun _ _ _ _=>?_) ?_|refine zla hE ?_ ?_|refine ziV hE ?_|refine zk7 fun _=>?_|refine zgW ?_ ?_|refine zbM ?_ fun _=>?_
end
theorem zm7(hE:LE E E' M):∀k k':Nat,k<k'->RL E E' M (jA k) (jA k')
 |0,_,_=>⟨zgl,zgl,zgl,zgl,zgl,zgl,zgl⟩
 |k+1,k',h=>by
  obtain⟨j,rfl⟩:∃j,k'=j+1+1:=⟨k'-2,by omega⟩;exact znn hE (zm7 hE k (j+1) (by omega)) ⟨j,rfl⟩
theorem SL.lt{s s':zY}(h:SL E E' M s s'):s.next<E.toks.length↔s'.next<E'.toks.length:=by
 have h1:=congrArg List.length h.toks;rw[wV,wW] at h1;constructor
 ·intro hi;rw[List.drop_eq_getElem_cons hi] at h1;unfold exL at h1;split at h1 <;> simp only[pK] at h1 <;> omega
 ·intro hi;refine Nat.lt_of_not_le fun hc=>?_
  rw[List.drop_eq_nil_of_le hc] at h1;simp only[exL,pR] at h1;omega
theorem zld(hE:LE E E' M){m m':Nat}(hm:m<m'):∀(k k':Nat) (s t:zY),k<=k'->s.next<=E.toks.length->qn (jA m) k E s=.ok () t->
 (∃r,t.nodes=s.nodes ++ r/\NKd E r)/\(∀i,CN E s t i->s.next<=i/\i≠s.next)/\((∀i,M i=true->s.next<=i->CN E s t i)->∀s',SL E E' M s s'->∃t',qn (jA m') k' E' s'=.ok () t'/\SL E E' M t t')
 |0,_,_,_,_,_,h=>by cases h
 |k+1,k',s,t,hk,hn,h=>by
  obtain⟨k',rfl⟩:∃j,k'=j+1:=⟨k'-1,by omega⟩;unfold qn at h;split at h
  ·rename_i hlt;cases hi:jT (jA m) E s with
   |bad p=>rw[hi] at h;cases h
   |ok x s1=>
    rw[hi] at h;dsimp only at h;obtain⟨a1,a2,⟨r,a3,k3⟩,a4,a5⟩:=znq hE (zm7 hE m m' hm) s x s1 hn hi;obtain⟨⟨q,b1,j3⟩,b2,b3⟩:=zld hE hm k k' {s1 with items:=s1.items ++ [x]} t (by omega) a2 h;have hcn:∀i,CN E s t i↔CN E s s1 i\/CN E {s1 with items:=s1.items ++ [x]} t i:=fun i=>znh (s2:={s1 with items:=s1.items ++ [x]}) a3 b1
    refine⟨⟨r ++ q,by rw[b1];simp only[a3,wS],k3.app j3⟩,fun i hi=>?_,fun hM s' hs=>?_⟩
    ·rcases (hcn i).1 hi with h|h
     ·have:=a4 i h;exact⟨this.1,this.2.2 rfl⟩
     ·have:=b2 i h;simp only at this;omega
    ·have hmid:M s1.next=false:=by
      cases hm1:M s1.next with
      |false=>rfl
      |true=>
       rcases (hcn _).1 (hM _ hm1 a1) with h|h
       ·have:=(a4 _ h).2.1;omega
       ·exact absurd rfl (b2 _ h).2
     obtain⟨s1',c1,c2⟩:=a5 (fun i hi g1 g2=>by
      rcases (hcn i).1 (hM i hi g1) with h|h
      ·exact h
      ·have:=(b2 i h).1;simp only at this;omega) hmid s' hs
     obtain⟨t',d1,d2⟩:=b3 (fun i hi g1=>by
      simp only at g1;rcases (hcn i).1 (hM i hi (by omega)) with h|h
      ·have:=(a4 i h).2.1;omega
      ·exact h) {s1' with items:=s1'.items ++ [x]} ⟨c2.nodes,by simp only[c2.items],c2.toks,c2.le⟩
     refine⟨t',?_,d2⟩;unfold qn;rw[if_pos (hs.lt.1 hlt),c1];exact d1
  ·rename_i hge;cases h;refine⟨⟨[],(wN _).symm,NKd.nil⟩,fun i hi=>(zng rfl hi).elim,fun _ s' hs=>⟨s',?_,hs⟩⟩;unfold qn;rw[if_neg fun h=>hge (hs.lt.2 h)]
theorem zlR{l l':List yp}{len len':Nat}{t:zY}{M:Nat->Bool}(hE:LE ⟨l,len⟩ ⟨l',len'⟩ M)(hlt:l.length<l'.length)(hl:l'.map ktt=exL M 0 l)(h:xO l len=.ok () t)(hM:∀i,M i=true->CN ⟨l,len⟩ ⟨[],[],0⟩ t i):∃t',xO l' len'=.ok () t'/\t'.nodes.map qv=t.nodes.map qv/\t'.items=t.items:=by
 obtain⟨_,_,h3⟩:=zld hE (m:=l.length+1) (m':=l'.length+1) (by omega) (l.length+1) (l'.length+1) ⟨[],[],0⟩ t (by omega) (pU _) h;obtain⟨t',h4,h5⟩:=h3 (fun i hi _=>hM i hi) ⟨[],[],0⟩ ⟨rfl,rfl,hl,pU _⟩;exact⟨t',h4,h5.nodes,h5.items⟩
theorem znk{l:List yp}{len:Nat}{t:zY}(hi:∀(i j:Nat) (t u:yp),l[i]? =some t->l[j]? =some u->t.at_=u.at_->i=j)(h:xO l len=.ok () t):NKd ⟨l,len⟩ t.nodes:=by
 have hE:LE ⟨l,len⟩ ⟨l,len⟩ fun _=>false:=⟨pE _,fun _ h=>(by cases h),hi⟩
 obtain⟨⟨r,h1,h2⟩,_⟩:=zld hE (m:=l.length+1) (m':=l.length+1+1) (by omega) (l.length+1) (l.length+1) ⟨[],[],0⟩ t (by omega) (pU _) h;rw[h1];exact h2
end
end Lode
namespace Go.Proofs.YtnncmdpopgkibaaGreatDoor
section
open Go.RowKit Lode
open Go.Proofs.Tryz
section
def zmw:List UInt8:=[32,40,32,35,32,41,10]
def exM(mk:Int->Bool):List yp->List (Nat×List UInt8)
 |[]=>[]
 |t :: r=>if mk t.at_ then (6,[40]) :: kt t :: (6,[41]) :: exM mk r else kt t :: exM mk r
structure Ed(mk:Int->Bool)(L:List yp)(s:List UInt8)(f:Nat->List UInt8):Prop where
 top:f s.length=s
 no:∀j,j<s.length->mk j=false->f j=f (j+1)
 yes:∀(j:Nat) (t:yp),t∈L->t.at_=(j:Int)->mk j=true->j<s.length->j+t.text.length<=(f (j+1)).length->f j=(f (j+1)).take j ++ (zmw ++ (t.text ++ (41 :: (f (j+1)).drop (j+t.text.length))))
variable {mk:Int→Bool} {L:List yp} {s:List UInt8} {f:Nat→List UInt8}
theorem Ed.same(h:Ed mk L s f):∀(n lo hi:Nat),hi=lo+n->hi<=s.length->(∀j:Nat,lo<=j->j<hi->mk j=false)->f lo=f hi
 |0,lo,hi,e,_,_=>by rw[e];rfl
 |n+1,lo,hi,e,hl,hn=>by
  rw[h.no lo (by omega) (hn lo (pE _) (by omega))];exact h.same n (lo+1) hi (by omega) hl fun j h1 h2=>hn j (by omega) h2
theorem zny(z:List UInt8):QF (41 :: z):=fun c r h=>by cases h;exact⟨by decide,by decide,by decide,by decide,by decide⟩
theorem zmT{x y:List UInt8}(h:x.head? =y.head?):x.take 1=y.take 1:=by
 cases x <;> cases y <;> simp at h ⊢;exact h
theorem zmy{k:Nat}{t:List UInt8}(hk:k≠4)(h:kK (k,t)):kV k t=(t,0):=zmW hk h
theorem znr(hE:Ed mk L s f){a:Nat}{r:List UInt8}{l:List yp}(h:Jg a r l):∀u:List UInt8,u.length=a->s=u ++ r->(∀t∈l,t∈L)->(∀j:Nat,a<=j->mk j=true->∃t∈l,t.at_=(j:Int))->(∀t∈l,mk t.at_=true->t.kind=1\/t.kind=3)->
 ∃R',f a=u ++ R'/\XU R' (exM mk l)/\(R'.head? =r.head? \/R'.head? =some 32)/\(r.all jW=true->R'.all jW=true):=by
 induction h with
 | @done a G c hg=>
  intro u hu hs _ hm _;have hl:s.length=a+G.length:=by rw[hs,pC,hu]
  have hno:∀j:Nat,a<=j->j<s.length->mk j=false:=fun j h1 h2=>by
   cases hj:mk j with
   |false=>rfl
   |true=>
    obtain⟨t,ht,_⟩:=hm j h1 hj;cases ht
  exact⟨G,by rw[hE.same G.length a s.length hl (pE _) hno,hE.top,hs],XU.done hg,.inl rfl,id⟩
 | @tok a G T R k t l h1 h2 h3 ih=>
  intro u hu hs hL hm hk;have hp:0<T.length:=by
   have:=Yo (YV h2).1.eq;rw[(YV h2).2] at this;exact List.length_pos_iff.2 this
  have hap:=(Jg.apart h3).1;have hl:s.length=a+G.length+T.length+R.length:=by rw[hs];simp only[pC,hu];omega
  have hno:∀j:Nat,a<=j->j<a+G.length+T.length->j≠a+G.length->mk j=false:=fun j g1 g2 g3=>by
   cases hj:mk j with
   |false=>rfl
   |true=>
    obtain⟨x,hx,e⟩:=hm j g1 hj;rcases wD.1 hx with rfl|hx
    ·simp only at e;omega
    ·have:=(hap x hx).1;omega
  obtain⟨R',e1,e2,e3,e4⟩:=ih (u ++ G ++ T) (by simp only[pC,hu]) (by rw[hs];simp only[wS]) (fun x hx=>hL x (pY _ hx)) (fun j g1 g2=>by
   obtain⟨x,hx,e⟩:=hm j (by omega) g2;rcases wD.1 hx with rfl|hx
   ·simp only at e;omega
   ·exact⟨x,hx,e⟩) (fun x hx=>hk x (pY _ hx))
  have s1:f (a+G.length+1)=f (a+G.length+T.length):=hE.same (T.length-1) _ _ (by omega) (by omega) fun j g1 g2=>hno j (by omega) g2 (by omega)
  have s2:f a=f (a+G.length):=hE.same G.length _ _ rfl (by omega) fun j g1 g2=>hno j g1 (by omega) (by omega)
  have e1:f (a+G.length+1)=u ++ G ++ T ++ R':=by rw[s1,e1]
  have ht:yM (T ++ R')=some (k,t,T.length):=by
   rcases e3 with e|e
   ·refine zb3 h2 ?_;rw[List.take_length_add_append,List.take_length_add_append,zmT e]
   ·cases R' with
    |nil=>cases e
    |cons c z=>
     cases e;have:=VE h2 (zkt z);rw[List.take_left] at this;exact this
  have hhd:∀z,(G ++ (T ++ z)).head? =(G ++ (T ++ R)).head? :=fun z=>by
   cases G with
   |nil=>
    cases T with
    |nil=>simp at hp
    |cons c z=>rfl
   |cons c z=>rfl
  unfold exM;simp only;cases hmk:mk ((a+G.length:Nat):Int) with
  |false=>
   rw[if_neg (by decide)];refine⟨G ++ (T ++ R'),?_,XU.tok h1 ht e2,.inl (hhd R'),fun hb=>?_⟩
   ·rw[s2,hE.no _ (by omega) hmk,e1];simp only[wS]
   ·simp only[List.all_append,pG] at hb ⊢;exact⟨hb.1,hb.2.1,e4 hb.2.2⟩
  |true=>
   rw[if_pos rfl];have hk1:k=1\/k=3:=hk _ (List.mem_cons_self ..) hmk;have hT:T=t:=by
    have h5:=(YV h2).2;have h6:=(YV h2).1.eq;simp only at h6;have h7:=zmy (k:=k) (t:=t) (by rcases hk1 with rfl|rfl <;> decide) (YV h2).1;rw[h7] at h6;injection h6 with h6 _;rw[<-h5];exact h6.symm
   have hlen:(f (a+G.length+1)).length=a+G.length+T.length+R'.length:=by rw[e1];simp only[pC,hu]
   have hy:=hE.yes (a+G.length) _ (hL _ (List.mem_cons_self ..)) rfl hmk (by omega) (by rw[hlen,hT];simp only;omega);simp only at hy;rw[<-hT] at hy;have hd:(f (a+G.length+1)).drop (a+G.length+T.length)=R':=by
    rw[e1];exact List.drop_left' (by simp only[pC,hu])
   have htk:(f (a+G.length+1)).take (a+G.length)=u ++ G:=by
    rw[e1,wS];exact List.take_left' (by simp only[pC,hu])
   rw[hd,htk] at hy;refine⟨G ++ (zmw ++ (T ++ (41 :: R'))),?_,?_,?_,fun hb=>?_⟩
   ·rw[s2,hy];simp only[wS]
   ·refine XU.gap h1 ?_;have t1:yM (T ++ (41 :: R'))=some (k,t,T.length):=by
     have:=VE h2 (zny R');rw[List.take_left] at this;exact this
    have r3:XU ([] ++ ([41] ++ R')) ((6,[41]) :: exM mk l):=XU.tok rfl (congrFun znd R') e2;have r2:XU ([32,35,32,41,10] ++ (T ++ (41 :: R'))) ((k,t) :: (6,[41]) :: exM mk l):=XU.tok rfl t1 r3;exact XU.tok (G:=[32]) (T:=[40]) rfl (congrFun znc _) r2
   ·cases G with
    |nil=>exact .inr rfl
    |cons c z=>exact .inl rfl
   ·simp only[List.all_append,List.all_cons,pG] at hb ⊢;exact⟨hb.1,by decide,hb.2.1,by decide,e4 hb.2.2⟩
end
section
theorem zmV{a:Nat}{r:List UInt8}{l:List yp}(h:Jg a r l):∀(fu n:Nat),r.length<fu->n<=1200->1200<n+l.length->(Lode.kU fu n a r).2.2=5:=by
 induction h with
 | @done a G c h=>
  intro fu n _ h1 h2;simp only[pR] at h2;omega
 | @tok a G T R k t l h1 h2 h3 ih=>
  intro fu n hf hn hl;obtain⟨fu,rfl⟩:∃f',fu=f'+1:=⟨fu-1,by omega⟩;have hg:=kY false false G (T ++ R) h1;rw[YU h2,Nat.add_zero] at hg;simp only[pC,pK] at hf hl;have hw:=qz h2;simp only[Lode.kU,hg,List.drop_left];cases hT:T ++ R with
  |nil=>rw[hT] at h2;cases h2
  |cons d q=>
   rw[hT] at h2;simp only[h2];by_cases hn2:n=1200
   ·rw[if_pos hn2]
   ·rw[if_neg hn2,<-hT,List.drop_left];have hi:=ih fu (n+1) (by omega) (by omega) (by omega);rw[if_neg (by omega)];exact hi
theorem zmY{s:List UInt8}(h:(Lode.yQ s).2.2=5):(zW s).2.2=5:=by
 unfold zW;generalize Lode.yQ s=r at *;obtain⟨l,p,e⟩:=r;simp only at h ⊢;subst h;rfl
theorem zmL(mk:Int->Bool):∀l:List yp,l.length<=(exM mk l).length/\((∃t∈l,mk t.at_=true)->l.length<(exM mk l).length)
 |[]=>⟨pE _,fun ⟨t,ht,_⟩=>by cases ht⟩
 |t :: r=>by
  obtain⟨h1,h2⟩:=zmL mk r;unfold exM;split
  ·simp only[pK];exact⟨by omega,fun _=>by omega⟩
  ·rename_i hn;simp only[pK];refine⟨by omega,fun ⟨x,hx,hm⟩=>?_⟩;rcases wD.1 hx with rfl|hx
   ·exact absurd hm hn
   ·have:=h2 ⟨x,hx,hm⟩;omega
theorem zmu(mk:Int->Bool):∀l:List yp,(∀t∈l,mk t.at_=false)->exM mk l=l.map kt
 |[],_=>rfl
 |t :: r,h=>by
  unfold exM;rw[h t (List.mem_cons_self ..),if_neg (by decide),zmu mk r fun x hx=>h x (pY _ hx)];rfl
def zmd(mk:Int->Bool)(L:List yp)(i:Nat):Bool:=(L[i]?).elim false fun t=>mk t.at_
theorem znu(mk:Int->Bool)(L:List yp):∀(r:List yp) (i:Nat),L.drop i=r->exL (zmd mk L) i r=exM mk r
 |[],_,_=>rfl
 |t :: r,i,h=>by
  have hi:i<L.length:=by
   have:=congrArg List.length h;simp only[wW,pK] at this;omega
  rw[List.drop_eq_getElem_cons hi,List.cons.injEq] at h;unfold exL exM;rw[znu mk L r (i+1) h.2,show zmd mk L i=mk t.at_ by unfold zmd;rw[glE hi,h.1];rfl];rfl
theorem zlU{a:Nat}{r:List UInt8}{L:List yp}(h:Jg a r L):∀(i j:Nat) (t u:yp),L[i]? =some t->L[j]? =some u->t.at_=u.at_->i=j:=by
 have h5:=List.pairwise_iff_getElem.1 h.apart.2;intro i j t u h1 h2 e;obtain⟨hi,rfl⟩:=gE.1 h1;obtain⟨hj,rfl⟩:=gE.1 h2;rcases Nat.lt_trichotomy i j with h|h|h
 ·have:=h5 i j hi hj h;omega
 ·exact h
 ·have:=h5 j i hj hi h;omega
theorem zmX{s:List UInt8}{t:yo}{st:zY}(h:Ve t)(hr:(Lode.yQ s).2.2=0)(h2:xO (Lode.yQ s).1 s.length=.ok () st)(h3:st.nodes.map qv=t.nodes.map qv)(h4:st.items=t.items):Vh s ⟨st.nodes,st.items⟩ st:=by
 have hl:st.nodes.length=t.nodes.length:=by
  have:=congrArg List.length h3;simpa using this
 refine⟨hr,h2,rfl,by have:=h.n;omega,by rw[h4];exact h.i,?_,JU (r:=[]) (by rw[wN,h3]) h.z⟩;have hn:t.nodes.map qv=st.nodes.map qv ++ []:=by rw[h3,wN]
 have:=YN (a:=st.items) (q:=[]) (l:=t.nodes) (l':=st.nodes) (fun i hi=>VZ hn i hi) (by omega) (fun k hk=>by cases hk) (fun i h1 h2=>by omega);rw[wN,h4] at this;rw[h4];exact pN this h.d
theorem zm0{s:List UInt8}{t:yo}{st:zY}(h:Vh s t st){mk:Int->Bool}(hmk:∀j:Int,mk j=true->∃x∈t.nodes,(x.kind=1\/x.kind=5)/\x.at_=j){f:Nat->List UInt8}(hE:Ed mk (Lode.yQ s).1 s f)(hl:(f 0).length<=3000):
 (∃u:yo,zW (f 0)=(u,0,0)/\Ve u/\QK t u=true)\/((zW (f 0)).2.2=5/\(Lode.yQ (f 0)).2.2=5):=by
 have hw:=h.well;obtain⟨hrd,_,hchk,_⟩:=Jt h.rd;have hinj:=zlU hrd;have hat:NKd ⟨(Lode.yQ s).1,s.length⟩ t.nodes:=by
  have:=znk hinj h.pg;rw[h.eq];exact this
 have hpg:=h.pg;generalize hL:(Lode.yQ s).1=L at *;have hmt:∀j:Int,mk j=true->∃(i:Nat) (x:yp),L[i]? =some x/\(x.kind=1\/x.kind=3)/\x.at_=j:=fun j hj=>by
  obtain⟨x,hx,hk,e⟩:=hmk j hj;obtain⟨i,y,h1,h2,h3⟩:=hat x hx hk;exact⟨i,y,h1,h2,h3.trans e⟩
 have hk:∀x∈L,mk x.at_=true->x.kind=1\/x.kind=3:=fun x hx hm=>by
  obtain⟨i,y,h1,h2,h3⟩:=hmt _ hm;obtain⟨j,hj,rfl⟩:=List.mem_iff_getElem.1 hx;have e:=hinj i j y _ h1 (glE hj) h3;subst e;rw[glE hj] at h1;cases h1;exact h2
 obtain⟨R',e1,⟨l',e2,e3⟩,_,e4⟩:=znr hE hrd [] rfl rfl (fun _ hx=>hx) (fun j _ hj=>by
  obtain⟨i,x,h1,_,h3⟩:=hmt _ hj;exact⟨x,wK h1,h3⟩) hk
 rw[wJ] at e1;rw[<-e1] at e2 e4;have hchk':(qr (f 0)).2=0:=zbB.2 ⟨hl,e4 (zbB.1 hchk).2⟩;rcases Nat.lt_or_ge 1200 l'.length with hlen|hlen
 ·right;have hr:(Lode.yQ (f 0)).2.2=5:=by
   have e:Lode.yQ (f 0)=Lode.kU ((f 0).length+1) 0 0 (f 0):=by simp[Lode.yQ,hchk']
   rw[e];exact zmV e2 _ _ (by omega) (by omega) (by omega)
  exact⟨zmY hr,hr⟩
 ·left;have hr:=zeY hchk' e2 hlen;have hr0:(Lode.yQ (f 0)).2.2=0:=by rw[hr]
  by_cases hany:∃x∈L,mk x.at_=true
  ·have hlt:L.length<l'.length:=by
    have h1:=(zmL mk L).2 hany;rw[<-e3,wV] at h1;exact h1
   have k1:exL (zmd mk L) 0 L=exM mk L:=znu mk L L 0 rfl;have k2:l'.map ktt=exL (zmd mk L) 0 L:=by rw[k1];exact e3
   have k3:∀i,zmd mk L i=true->∃x,L[i]? =some x/\mk x.at_=true:=fun i hi=>by
    unfold zmd at hi;cases hx:L[i]? with
    |none=>rw[hx] at hi;cases hi
    |some x=>rw[hx] at hi;exact⟨x,rfl,hi⟩
   have k4:LE ⟨L,s.length⟩ ⟨l',(f 0).length⟩ (zmd mk L):=⟨Nat.le_of_lt hlt,fun i hi=>by
    obtain⟨x,h1,h2⟩:=k3 i hi;exact⟨x,h1,hk x (wK h1) h2⟩,hinj⟩
   have k5:∀i,zmd mk L i=true->CN ⟨L,s.length⟩ ⟨[],[],0⟩ st i:=fun i hi=>by
    obtain⟨x,h1,h2⟩:=k3 i hi;obtain⟨y,h3,h4,h5⟩:=hmk _ h2;rw[h.eq] at h3;exact⟨x,y,h1,h3,h4,h5⟩
   obtain⟨t',a1,a2,a3⟩:=zlR k4 hlt k2 hpg k5;have hnt:t.nodes=st.nodes:=by rw[h.eq]
   have hit:t.items=st.items:=by rw[h.eq]
   have hp:=zmX hw hr0 (by rw[hr];exact a1) (a2.trans (by rw[hnt])) (a3.trans (by rw[hit]));refine⟨_,zjR hp,hp.well,?_⟩;unfold QK;rw[hnt,hit,a2,a3];simp
  ·have hnone:exM mk L=L.map kt:=zmu mk L fun x hx=>by
    cases hm:mk x.at_ with
    |false=>rfl
    |true=>exact (hany ⟨x,hx,hm⟩).elim
   obtain⟨b1,b2⟩:=zdW h.rd hr0 (by rw[hr,hL,<-hnone,<-e3]);have hps:zW s=(t,0,0):=by
    have:=zjR (st:=st) (s:=s) (by rw[<-h.eq];exact h);rw[this,h.eq]
   rw[hps] at b1 b2;obtain⟨u,c,e,hpf⟩:∃u c e,zW (f 0)=(u,c,e):=⟨_,_,_,rfl⟩;rw[hpf] at b1 b2;change e=0 at b1;subst b1;obtain⟨rfl,st',c2⟩:=zhG hpf;exact⟨u,hpf,c2.well,b2 rfl⟩
end
section
def zfI(a:Nat)(out:List UInt8)(t:yp):List UInt8:=if t.at_=(a:Int)/\a+t.text.length<=out.length then out.take a ++ (zmw ++ (t.text ++ (41 :: out.drop (a+t.text.length)))) else out
def edK(L:List yp)(a k:Nat)(out:List UInt8):List UInt8:=(L.take k).foldl (zfI a) out
def zm2(bt:Nat->Bool)(j:Int)(x:Nd)(i:Nat):Bool:=decide (x.at_=j) && (x.kind == 5 || x.kind == 1) && bt i
def atI(N:List Nd)(bt:Nat->Bool)(j:Int)(i:Nat):Bool:=(N[i]?).elim false fun x=>zm2 bt j x i
def edI(L:List yp)(N:List Nd)(bt:Nat->Bool)(a:Nat):Nat->List UInt8->List UInt8
 |0,out=>out
 |i+1,out=>if atI N bt a i then edK L a L.length (edI L N bt a i out) else edI L N bt a i out
def edA(L:List yp)(N:List Nd)(bt:Nat->Bool)(s:List UInt8):Nat->List UInt8
 |0=>s
 |d+1=>edI L N bt (s.length-1-d) N.length (edA L N bt s d)
def mkL(N:List Nd)(bt:Nat->Bool)(j:Int):Bool:=(List.range N.length).any fun i=>atI N bt j i
variable {L:List yp} {N:List Nd} {bt:Nat→Bool} {s:List UInt8} {a:Nat}
theorem zmU(out:List UInt8)(t:yp):(zfI a out t).length<=out.length+8:=by
 unfold zfI;split
 ·rename_i h;simp only[pC,wU,pK,wW,zmw,pR];omega
 ·omega
theorem zkb{k:Nat}{t:yp}(h:L[k]? =some t)(out:List UInt8):edK L a (k+1) out=zfI a (edK L a k out) t:=by
 unfold edK;rw[wZ,h,Option.toList_some,List.foldl_append];rfl
theorem zme(out:List UInt8):∀k:Nat,k<=L.length->(edK L a k out).length<=out.length+8*k
 |0,_=>by unfold edK;rw[List.take_zero];exact pE _
 |k+1,h=>by
  have:=zme out k (by omega);rw[zkb (glE (by omega)) out];have:=zmU (a:=a) (edK L a k out) (L[k]'(by omega));omega
theorem zmh(hL:L.length<=1200)(out:List UInt8):∀i:Nat,(edI L N bt a i out).length<=out.length+9600*i
 |0=>pE _
 |i+1=>by
  have h1:=zmh hL out i;have h2:=zme (L:=L) (a:=a) (edI L N bt a i out) L.length (pE _);unfold edI;split <;> omega
theorem zmP(hL:L.length<=1200)(hN:N.length<=1000):∀d:Nat,(edA L N bt s d).length<=s.length+9600000*d
 |0=>pE _
 |d+1=>by
  have h1:=zmP hL hN d;have h2:=zmh (N:=N) (bt:=bt) (a:=s.length-1-d) hL (edA L N bt s d) N.length;unfold edA;omega
theorem zmM{m:Nat}{t:yp}(hm:L[m]? =some t)(ho:∀(j:Nat) (x:yp),L[j]? =some x->x.at_=(a:Int)->j=m)(out:List UInt8):∀k,k<=L.length->edK L a k out=if m<k then zfI a out t else out
 |0,_=>by unfold edK;rw[List.take_zero];rfl
 |k+1,h=>by
  have hk:L[k]? =some (L[k]'(by omega)):=glE _;rw[zkb hk out,zmM hm ho out k (by omega)];by_cases h1:k=m
  ·subst h1;rw[if_neg (by omega),if_pos (by omega)];rw[hm] at hk;injection hk with hk;rw[<-hk]
  ·have hna:¬(L[k]'(by omega)).at_=(a:Int):=fun e=>h1 (ho k _ hk e)
   have hs:∀o,zfI a o (L[k]'(by omega))=o:=fun o=>by
    unfold zfI;rw[if_neg fun h=>hna h.1]
   rw[hs];by_cases h2:m<k
   ·rw[if_pos h2,if_pos (by omega)]
   ·rw[if_neg h2,if_neg (by omega)]
theorem zmv(out:List UInt8):∀i:Nat,(∀j,j<i->atI N bt a j=false)->edI L N bt a i out=out
 |0,_=>rfl
 |i+1,h=>by
  unfold edI;rw[h i (Nat.lt_succ_self _),if_neg (by decide),zmv out i fun j hj=>h j (by omega)]
theorem zmO{m:Nat}(hm:atI N bt a m=true)(ho:∀j,atI N bt a j=true->j=m)(out:List UInt8):∀i:Nat,edI L N bt a i out=if m<i then edK L a L.length out else out
 |0=>rfl
 |i+1=>by
  unfold edI;rw[zmO hm ho out i];by_cases h1:i=m
  ·subst h1;rw[if_pos hm,if_neg (by omega),if_pos (by omega)]
  ·have:atI N bt a i=false:=by
    cases h:atI N bt a i with
    |false=>rfl
    |true=>exact (h1 (ho i h)).elim
   rw[this,if_neg (by decide)];by_cases h2:m<i
   ·rw[if_pos h2,if_pos (by omega)]
   ·rw[if_neg h2,if_neg (by omega)]
theorem zmk{j:Int}{i:Nat}(h:atI N bt j i=true):∃x,N[i]? =some x/\x.at_=j/\(x.kind=1\/x.kind=5):=by
 unfold atI at h;cases hx:N[i]? with
 |none=>rw[hx] at h;cases h
 |some x=>
  rw[hx] at h;simp only[Option.elim,zm2,pG,pH,wF,pS] at h;exact⟨x,rfl,h.1.1,h.1.2.symm⟩
theorem znE(hnd:(N.map Nd.at_).Nodup)(hinj:∀(i j:Nat) (t u:yp),L[i]? =some t->L[j]? =some u->t.at_=u.at_->i=j):Ed (mkL N bt) L s fun j=>edA L N bt s (s.length-j):=by
 have hno:∀j:Int,mkL N bt j=false->∀i,i<N.length->atI N bt j i=false:=fun j h i hi=>by
  unfold mkL at h;rw[List.any_eq_false] at h;simpa using h i (List.mem_range.2 hi)
 have huni:∀(j:Int) (i k:Nat),atI N bt j i=true->atI N bt j k=true->i=k:=fun j i k h1 h2=>by
  obtain⟨x,hx,ex,_⟩:=zmk h1;obtain⟨y,hy,ey,_⟩:=zmk h2;obtain⟨hi,rfl⟩:=gE.1 hx;obtain⟨hk,rfl⟩:=gE.1 hy;have hp:=List.pairwise_iff_getElem.1 (List.pairwise_map.1 hnd);rcases Nat.lt_trichotomy i k with h|h|h
  ·exact (hp i k hi hk h (ex.trans ey.symm)).elim
  ·exact h
  ·exact (hp k i hk hi h (ey.trans ex.symm)).elim
 have hd:∀j,j<s.length->edA L N bt s (s.length-j)=edI L N bt j N.length (edA L N bt s (s.length-(j+1))):=fun j hj=>by
  obtain⟨d,e⟩:∃d,s.length-j=d+1:=⟨s.length-j-1,by omega⟩;rw[e,show s.length-(j+1)=d by omega];show edI L N bt (s.length-1-d) N.length (edA L N bt s d)=_
  rw[show s.length-1-d=j by omega]
 refine⟨?_,fun j hj hm=>?_,fun j t ht hta hm hj hle=>?_⟩
 ·show edA L N bt s (s.length-s.length)=s
  rw[Nat.sub_self];rfl
 ·show edA L N bt s (s.length-j)=edA L N bt s (s.length-(j+1))
  rw[hd j hj,zmv _ _ fun i hi=>hno _ hm i hi]
 ·show edA L N bt s (s.length-j)=_
  rw[hd j hj];unfold mkL at hm;rw[gC] at hm;obtain⟨m,h1,h2⟩:=hm;rw[zmO h2 (fun i hi=>huni _ i m hi h2) _ N.length,if_pos (List.mem_range.1 h1)];obtain⟨k,hk,rfl⟩:=List.mem_iff_getElem.1 ht;have hkg:=glE hk;rw[zmM hkg (fun i x hi hx=>hinj i k x _ hi hkg (hx.trans hta.symm)) _ L.length (pE _),if_pos hk];unfold zfI;rw[if_pos ⟨hta,hle⟩]
theorem zmp{s:List UInt8}{t:yo}{st:zY}(h:Vh s t st)(bt:Nat->Bool){out:List UInt8}(ho:edA (Lode.yQ s).1 t.nodes bt s s.length=out)(hl:out.length<=3000):(∃u:yo,zW out=(u,0,0)/\Ve u/\QK t u=true)\/((zW out).2.2=5/\(Lode.yQ out).2.2=5):=by
 have hE:Ed (mkL t.nodes bt) (Lode.yQ s).1 s fun j=>edA (Lode.yQ s).1 t.nodes bt s (s.length-j):=znE h.places (zlU (Jt h.rd).1)
 have:=zm0 h (fun j hj=>by
  unfold mkL at hj;rw[gC] at hj;obtain⟨i,_,hi⟩:=hj;obtain⟨x,h1,h2,h3⟩:=zmk hi;exact⟨x,wK h1,h3,h2⟩) hE (by simp only[Nat.sub_zero,ho];exact hl)
 simp only[Nat.sub_zero,ho] at this;exact this
end
end
section
open Go.RowKit Lode Go.Shelf
attribute [local go_sem ↓] Go.wp_at_zero Go.wp_at_succ
open Go.Proofs.Tryz
theorem znx{n:Int}(h:(Lit.int .u64 n).wf=true):∃y:Nat,n=(y:Int)/\y<18446744073709551616:=by
 have h1:IntKind.u64.min=0:=by decide
 have h2:IntKind.u64.max=18446744073709551615:=by decide
 simp only[Lit.wf,pG,pH,h1,h2] at h;exact⟨n.toNat,by omega,by omega⟩
def znv(L:List yp)(N:List Nd)(bt:Nat->Bool)(s:List UInt8)(n:Nat)(wb:World)(ov av:Value)(wr:World):Prop:=∃d:Nat,d<=n/\av=.int .i64 ((n:Int)-1-d)/\ov=.string ⟨(edA L N bt s d).toArray⟩/\Below wb.heap.size wb wr
def znw(L:List yp)(N:List Nd)(bt:Nat->Bool)(a:Nat)(x:List UInt8)(n:Nat)(wb:World)(ov iv:Value)(wr:World):Prop:=∃i:Nat,i<=n/\iv=.int .i64 i/\ov=.string ⟨(edI L N bt a i x).toArray⟩/\Below wb.heap.size wb wr
def zmS(L:List yp)(a:Nat)(x:List UInt8)(n:Nat)(wb:World)(ov kv:Value)(wr:World):Prop:=∃k:Nat,k<=n/\kv=.int .i64 k/\ov=.string ⟨(edK L a k x).toArray⟩/\Below wb.heap.size wb wr
def zeC(b i:Nat):Bool:= !(bits BinOp.and IntKind.u64 ((b:Int) / 2 ^ (i % 60)) 1 == 0)
theorem znf{Z tt:List UInt8}{a tk:Nat}(h:a+tt.length<=Z.length):(⟨Z.toArray⟩:ByteArray).extract 0 a ++ ⟨#[32,40,32,35,32,41,10]⟩ ++ ⟨tt.toArray⟩ ++ ⟨#[41]⟩ ++ (⟨Z.toArray⟩:ByteArray).extract ((a:Int)+(tt.length:Int)).toNat Z.length=⟨(zfI a Z ⟨tk,tt,(a:Int)⟩).toArray⟩:=by
 unfold zfI;rw[if_pos ⟨rfl,h⟩,show ((a:Int)+(tt.length:Int)).toNat=a+tt.length by omega];refine ByteArray.ext ?_;simp only[ByteArray.data_append,Go.Lib.extract_data];rw[<-Array.toList_inj];simp[zmw,List.take_of_length_le]
theorem zm1(s:ByteArray)(b:Nat)(w:World)(hG:qH w):Calls prog 6 #[.string s,.int .u64 b] w (kQ w (.bool true)):=by
 have hKn:=zi (fun W (hW:Below w.heap.size w W)=>zd3 W (hG.later hW));have hsl:s.data.toList.length=s.size:=by simp
 have hPd:=zi (zfj s w hG);have hcs:=zjQ s.data.toList;generalize pdT s.data.toList=r at *;obtain⟨t,ok⟩:=r;simp only at hcs;by_cases hc:ok=true/\s.size<=600
 ·obtain⟨rfl,h600⟩:=hc;have hc6:¬((600:Int)<(s.size:Int)):=by omega
  rcases hcs with h|⟨_,_,st,hp⟩
  ·cases h
  obtain⟨hrd0,hL1200,_,_⟩:=Jt hp.rd;have HTx:=zi (fun x hx=>ZR (hrd0.k.allSpelt (kt x) (List.mem_map_of_mem hx)));clear hrd0;have hW:=hp.well;have hn1:=hW.n;have hi1:=hW.i;have HR:=zi (fun W (hW:Below w.heap.size w W)=>Zf s W (by omega) (hG.later hW));have HF:=zi (fun out (ho:edA (Lode.yQ s.data.toList).1 t.nodes (zeC b) s.data.toList s.data.toList.length=out)=>zmp hp (zeC b) ho);have herr:=hp.rd;rw[hsl] at HF;generalize Lode.yQ s.data.toList=R at *;obtain⟨L,ra,re⟩:=R;simp only at herr hL1200 HF;subst herr;obtain⟨nl,hnl⟩:∃k,t.nodes.length=k:=⟨_,rfl⟩;obtain⟨il,hil⟩:∃k,t.items.length=k:=⟨_,rfl⟩;obtain⟨len,hlen⟩:∃k,L.length=k:=⟨_,rfl⟩;have hAln:=zmP (bt:=zeC b) (s:=s.data.toList) hL1200 hn1;have hIln:=fun a out=>zmh (N:=t.nodes) (bt:=zeC b) (a:=a) hL1200 out
  have hKln:=fun a out=>zme (L:=L) (a:=a) out
  rw[hsl] at hAln;rw[hnl] at hn1;rw[hil] at hi1;rw[hlen] at hL1200 hKln;have Hnl:=zi hnl;have Hil:=zi hil;have Hlen:=zi hlen;have HG:=zi hG;have HW:=zi hW;have HAln:=zi hAln;have HIln:=zi hIln;have HKln:=zi hKln;have hy1:=pJ ((s.size:Int)-1) (by omega);have Hsl:=zi hsl;clear hG hW hp hnl hil hlen hAln hIln hKln hsl;go_enter func6,ntmps6;go_wp2_with fail;refine hPd.out.mono ?_;rintro e9 w1 ⟨hb1,nv,iv,rfl,hT1⟩;obtain⟨p1,c1,q1,d1,rfl,rfl⟩:=hT1.o.form;simp only at hT1;rw[Hnl.out,Hil.out] at hT1 ⊢;have hz:=zk w1 (.cells #[.slice none 0 0,.slice none 0 0] 26 (0,0));have e0:=zd hz 0;have e1:=zd hz 1;have f0:=zl hz 0;have f1:=zl hz 1;have hA:=zf w1 (.cells #[.slice p1 nl c1,.slice q1 il d1] 26 (0,0));have hW1:=zi (zg hb1 hA);have HT:=zi (hT1.below hA);have hbox:=zi (zk w1 (.cells #[.slice p1 nl c1,.slice q1 il d1] 26 (0,0)));have hst:=zi (show znv L t.nodes (zeC b) s.data.toList s.size (w1.alloc (.cells #[.slice p1 nl c1,.slice q1 il d1] 26 (0,0))) (.string s) (.int .i64 ((s.size:Int)-1)) (w1.alloc (.cells #[.slice p1 nl c1,.slice q1 il d1] 26 (0,0))) from ⟨0,pU _,by simp,rfl,pF _ _⟩);clear hz hA hT1 hb1 hPd;go_wp2_with fail;generalize hwb:w1.alloc (.cells #[.slice p1 nl c1,.slice q1 il d1] 26 (0,0))=wb at *;clear e0 e1 f0 f1 hwb;go_loopw [7,8] (znv L t.nodes (zeC b) s.data.toList s.size wb) (fun _ i _=>(intOf i+1).toNat)
  case atStart=>exact hst.out
  case round=>
   obtain⟨d,hd,rfl,rfl,hb⟩:=hrel
   rename World=>w4
   have hbw:=zi (zg hW1.out hb);have hb4:=zi hb;by_cases hlt:d<s.size
   ·obtain⟨a,ha⟩:∃a:Nat,s.size-1-d=a:=⟨_,rfl⟩;have ha2:(s.size:Int)-1-(d:Int)=(a:Int):=by omega
    rw[ha2];have hx0:=HAln.out d;have hA1:edA L t.nodes (zeC b) s.data.toList (d+1)=edI L t.nodes (zeC b) a nl (edA L t.nodes (zeC b) s.data.toList d):=by
     rw[<-ha,<-Hsl.out,<-Hnl.out];rfl
    have HA1:=zi hA1;have ha0:¬((a:Int)<0):=by omega
    have ha1:(0:Int)<=(a:Int):=by omega
    have hya:=pJ ((a:Int)-1) (by omega);generalize edA L t.nodes (zeC b) s.data.toList d=X at *;have hst2:=zi (show znw L t.nodes (zeC b) a X nl w4 (.string ⟨X.toArray⟩) (.int .i64 0) w4 from ⟨0,pU _,rfl,rfl,pF _ _⟩);clear hb hA1;go_wp2;go_loopw [7,9] (znw L t.nodes (zeC b) a X nl w4) (fun _ i _=>nl-(intOf i).toNat)
    case atStart=>exact hst2.out
    case round=>
     obtain⟨i,hi,rfl,rfl,hb⟩:=hrel
     rename World=>w5
     have hb5:=zi (zg hb4.out hb);have hw5:=zi (zg hbw.out hb);have hbx:=zh hb5.out hbox.out;have c0:=zd hbx 0;have c1':=zd hbx 1;by_cases hin:i<nl
     ·have hin':(i:Int)<(nl:Int):=by omega
      have hi0:¬((i:Int)<0):=by omega
      have hyi:=pJ ((i:Int)+1) (by omega);obtain⟨x,hx⟩:∃x,t.nodes[i]? =some x:=⟨_,glE (by rw[Hnl.out];omega)⟩;have hat:atI t.nodes (zeC b) a i=zm2 (zeC b) a x i:=by unfold atI;rw[hx];rfl
      obtain⟨kv,hN⟩:=HT.out.nodes;obtain⟨g,off,u,rfl,hAt⟩:=hN.at hx;obtain⟨up,uc,rfl⟩:=hAt.kids.form;obtain⟨x0,x1,x2,ks,x4⟩:=x;generalize ks.length=klen at *;have hAt5:=hAt.below hb5.out;have a0:=hAt5.c0;have a1:=hAt5.c1;have a2:=hAt5.c2;have a3:=hAt5.c3;have a4:=hAt5.c4;simp only at a0 a1 a2 a3 a4;have hz:=zk w5 (.cells #[.int .u8 0,.string ⟨#[]⟩,.int .i64 0,.slice none 0 0,.int .i64 0] 45 (0,0));have e0:=zd hz 0;have e1:=zd hz 1;have e2:=zd hz 2;have e3:=zd hz 3;have e4:=zd hz 4;have f0:=zl hz 0;have f1:=zl hz 1;have f2:=zl hz 2;have f3:=zl hz 3;have f4:=zl hz 4;have hA:=zf w5 (.cells #[.int .u8 x0,.string ⟨x1.toArray⟩,.int .i64 x2,.slice up klen uc,.int .i64 x4] 45 (0,0));have hnb:=zk w5 (.cells #[.int .u8 x0,.string ⟨x1.toArray⟩,.int .i64 x2,.slice up klen uc,.int .i64 x4] 45 (0,0));have n0:=zd hnb 0;have n4:=zd hnb 4;clear hN hAt hAt5 hz hnb hbx;have hY:=HIln.out a X i;have hNo:zm2 (zeC b) a ⟨x0,x1,x2,ks,x4⟩ i=false->edI L t.nodes (zeC b) a (i+1) X=edI L t.nodes (zeC b) a i X:=fun h=>by
       show (if atI t.nodes (zeC b) a i then _ else _)=_
       rw[hat,h];rfl
      have hYes:zm2 (zeC b) a ⟨x0,x1,x2,ks,x4⟩ i=true->edI L t.nodes (zeC b) a (i+1) X=edK L a len (edI L t.nodes (zeC b) a i X):=fun h=>by
       show (if atI t.nodes (zeC b) a i then _ else _)=_
       rw[hat,h,Hlen.out];rfl
      have hIs:zm2 (zeC b) a ⟨x0,x1,x2,ks,x4⟩ i=(decide (x4=(a:Int)) && (x0 == 5 || x0 == 1) && zeC b i):=rfl;have hwA:=zi (zg hw5.out hA);have hbA:=zi (zg hb hA);replace hNo:=zi hNo;replace hYes:=zi hYes;generalize edI L t.nodes (zeC b) a i X=Y at *;clear hat hx hb hA;by_cases hx4:x4=(a:Int)
      ·subst hx4;rcases hk:(x0 == 5 || x0 == 1) with _|_
       ·have hn:=hNo.out (by rw[hIs,hk];simp);simp only[Bool.or_eq_false_iff,pB] at hk;have k5:¬((x0:Int)=5):=by omega
        have k1:¬((x0:Int)=1):=by omega
        replace hn:=zi hn;clear hIs hNo hYes;go_wp2;go_roundw
        case rel=>exact⟨i+1,by omega,by go_num,by rw[hn.out],hbA.out⟩
        case measure=>simp[intOf];omega
       ·cases hbt:(bits BinOp.and IntKind.u64 ((b:Int) / 2 ^ (i % 60)) 1 == 0) with
        |true=>
         have hn:=hNo.out (by rw[hIs];unfold zeC;rw[hbt];simp);simp only[wF,pS] at hk;rcases hk with rfl|rfl
         ·replace hn:=zi hn;clear hIs hNo hYes;go_wp2;go_roundw
          case rel=>exact⟨i+1,by omega,by go_num,by rw[hn.out],hbA.out⟩
          case measure=>simp[intOf];omega
         ·replace hn:=zi hn;clear hIs hNo hYes;go_wp2;go_roundw
          case rel=>exact⟨i+1,by omega,by go_num,by rw[hn.out],hbA.out⟩
          case measure=>simp[intOf];omega
        |false=>
         have hn:=hYes.out (by rw[hIs];unfold zeC;rw[hbt,hk];simp);simp only[wF,pS] at hk;rcases hk with rfl|rfl
         ·replace hn:=zi hn;clear hIs hNo hYes;go_wp2_with fail;refine (HR.out _ hwA.out).mono ?_;rintro e9 w7 ⟨v7,rfl,ht7,hb7⟩;obtain⟨p7,cp7,hv7,hc7⟩:=ht7.sl;subst hv7;rw[Hlen.out];have hw7:=zi (zg hwA.out hb7);have hb7':=zi (zg hbA.out hb7);have hst3:=zi (show zmS L a Y len w7 (.string ⟨Y.toArray⟩) (.int .i64 0) w7 from ⟨0,pU _,rfl,rfl,pF _ _⟩);clear ht7 hb7 e0 e1 e2 e3 e4 f0 f1 f2 f3 f4 n0 n4 a0 a1 a2 a3 a4 c0 c1';go_wp2;go_loopw [7,14] (zmS L a Y len w7) (fun _ k _=>len-(intOf k).toNat)
          case atStart=>exact hst3.out
          case round=>
           obtain⟨k,hk,rfl,rfl,hbk⟩:=hrel
           rename World=>w8
           have hw8:=zi (zg hw7.out hbk);have hZ:=HKln.out a Y k hk;by_cases hkl:k<len
           ·have hkl':(k:Int)<(len:Int):=by omega
            have hk0:¬((k:Int)<0):=by omega
            have hyk:=pJ ((k:Int)+1) (by omega);have hkL:k<L.length:=by rw[Hlen.out];omega
            have hL0:L≠[]:=fun e=>by rw[e] at hkL;exact wG _ hkL
            obtain⟨g7,rfl,q7⟩:=hc7.resolve_left hL0;obtain⟨x,hx⟩:∃x,L[k]? =some x:=⟨_,glE hkL⟩;obtain⟨_,i1,i2⟩:=q7 k hkL;have hxe:L[k]=x:=(gE.1 hx).2;rw[hxe] at i1 i2;have hnx:=zkb (a:=a) hx Y;have htl:=HTx.out x (wK hx);obtain⟨tk,tt,ta⟩:=x;simp only[kt] at i1 i2 htl;have i1:=zj hbk i1;have i2:=zj hbk i2;generalize edK L a k Y=Z at *;have hyt:=pJ ((a:Int)+(tt.length:Int)) (by omega);replace hnx:=zi hnx;clear hx hxe q7;by_cases hta:ta=(a:Int)
            ·subst hta;by_cases hle:a+tt.length<=Z.length
             ·have hle':(a:Int)+(tt.length:Int)<=(Z.length:Int):=by omega
              have h1:¬((Z.length:Int)<(a:Int)):=by omega
              have hS:∀V,(zj9 w8.heap.size).rel w8.drew V->V.cell? ⟨g7,k*3+1,none⟩=some (.string ⟨tt.toArray⟩):=fun V h=>zj (w:=w8.drew) h i1
              go_wp2_with fail;refine LodeX.jm (RR:=zj9 w8.heap.size) (Xp:=fun _ _=>False) [(0,0),(1,0),(2,0),(3,0),(4,0),(5,0),(6,0),(7,0),(8,1),(9,0),(10,0),(11,0),(12,0),(13,0),(14,0),(15,0),(16,0),(17,1),(18,0),(19,0),(20,0),(21,0),(22,0)] ?_;refine LodeX.qT ?_;refine LodeX.zC fun W6 hW6=>?_
              cases hW6;have hbkd:=zi (zg hbk ((pF _ w8).drew));clear hS;go_wp2;go_roundw
              case rel=>exact⟨k+1,by omega,by go_num,by rw[hnx.out,<-znf (tk:=tk) hle],hbkd.out⟩
              case measure=>simp[intOf];omega
             ·have hle':¬((a:Int)+(tt.length:Int)<=(Z.length:Int)):=by omega
              have hsk:zfI a Z ⟨tk,tt,a⟩=Z:=by
               unfold zfI;rw[if_neg fun h=>hle h.2]
              go_wp2;go_roundw
              case rel=>exact⟨k+1,by omega,by go_num,by rw[hnx.out,hsk],hbk⟩
              case measure=>simp[intOf];omega
            ·have hsk:zfI a Z ⟨tk,tt,ta⟩=Z:=by
              unfold zfI;rw[if_neg fun h=>hta h.1]
             go_wp2;go_roundw
             case rel=>exact⟨k+1,by omega,by go_num,by rw[hnx.out,hsk],hbk⟩
             case measure=>simp[intOf];omega
           ·have hkl':¬((k:Int)<(len:Int)):=by omega
            have hke:k=len:=by omega
            subst hke;go_wp2;go_roundw
            case rel=>exact⟨i+1,by omega,by go_num,by rw[hn.out],zg hb7'.out hbk⟩
            case measure=>simp[intOf];omega
         ·replace hn:=zi hn;clear hIs hNo hYes;go_wp2_with fail;refine (HR.out _ hwA.out).mono ?_;rintro e9 w7 ⟨v7,rfl,ht7,hb7⟩;obtain⟨p7,cp7,hv7,hc7⟩:=ht7.sl;subst hv7;rw[Hlen.out];have hw7:=zi (zg hwA.out hb7);have hb7':=zi (zg hbA.out hb7);have hst3:=zi (show zmS L a Y len w7 (.string ⟨Y.toArray⟩) (.int .i64 0) w7 from ⟨0,pU _,rfl,rfl,pF _ _⟩);clear ht7 hb7 e0 e1 e2 e3 e4 f0 f1 f2 f3 f4 n0 n4 a0 a1 a2 a3 a4 c0 c1';go_wp2;go_loopw [7,14] (zmS L a Y len w7) (fun _ k _=>len-(intOf k).toNat)
          case atStart=>exact hst3.out
          case round=>
           obtain⟨k,hk,rfl,rfl,hbk⟩:=hrel
           rename World=>w8
           have hw8:=zi (zg hw7.out hbk);have hZ:=HKln.out a Y k hk;by_cases hkl:k<len
           ·have hkl':(k:Int)<(len:Int):=by omega
            have hk0:¬((k:Int)<0):=by omega
            have hyk:=pJ ((k:Int)+1) (by omega);have hkL:k<L.length:=by rw[Hlen.out];omega
            have hL0:L≠[]:=fun e=>by rw[e] at hkL;exact wG _ hkL
            obtain⟨g7,rfl,q7⟩:=hc7.resolve_left hL0;obtain⟨x,hx⟩:∃x,L[k]? =some x:=⟨_,glE hkL⟩;obtain⟨_,i1,i2⟩:=q7 k hkL;have hxe:L[k]=x:=(gE.1 hx).2;rw[hxe] at i1 i2;have hnx:=zkb (a:=a) hx Y;have htl:=HTx.out x (wK hx);obtain⟨tk,tt,ta⟩:=x;simp only[kt] at i1 i2 htl;have i1:=zj hbk i1;have i2:=zj hbk i2;generalize edK L a k Y=Z at *;have hyt:=pJ ((a:Int)+(tt.length:Int)) (by omega);replace hnx:=zi hnx;clear hx hxe q7;by_cases hta:ta=(a:Int)
            ·subst hta;by_cases hle:a+tt.length<=Z.length
             ·have hle':(a:Int)+(tt.length:Int)<=(Z.length:Int):=by omega
              have h1:¬((Z.length:Int)<(a:Int)):=by omega
              have hS:∀V,(zj9 w8.heap.size).rel w8.drew V->V.cell? ⟨g7,k*3+1,none⟩=some (.string ⟨tt.toArray⟩):=fun V h=>zj (w:=w8.drew) h i1
              go_wp2_with fail;refine LodeX.jm (RR:=zj9 w8.heap.size) (Xp:=fun _ _=>False) [(0,0),(1,0),(2,0),(3,0),(4,0),(5,0),(6,0),(7,0),(8,1),(9,0),(10,0),(11,0),(12,0),(13,0),(14,0),(15,0),(16,0),(17,1),(18,0),(19,0),(20,0),(21,0),(22,0)] ?_;refine LodeX.qT ?_;refine LodeX.zC fun W6 hW6=>?_
              cases hW6;have hbkd:=zi (zg hbk ((pF _ w8).drew));clear hS;go_wp2;go_roundw
              case rel=>exact⟨k+1,by omega,by go_num,by rw[hnx.out,<-znf (tk:=tk) hle],hbkd.out⟩
              case measure=>simp[intOf];omega
             ·have hle':¬((a:Int)+(tt.length:Int)<=(Z.length:Int)):=by omega
              have hsk:zfI a Z ⟨tk,tt,a⟩=Z:=by
               unfold zfI;rw[if_neg fun h=>hle h.2]
              go_wp2;go_roundw
              case rel=>exact⟨k+1,by omega,by go_num,by rw[hnx.out,hsk],hbk⟩
              case measure=>simp[intOf];omega
            ·have hsk:zfI a Z ⟨tk,tt,ta⟩=Z:=by
              unfold zfI;rw[if_neg fun h=>hta h.1]
             go_wp2;go_roundw
             case rel=>exact⟨k+1,by omega,by go_num,by rw[hnx.out,hsk],hbk⟩
             case measure=>simp[intOf];omega
           ·have hkl':¬((k:Int)<(len:Int)):=by omega
            have hke:k=len:=by omega
            subst hke;go_wp2;go_roundw
            case rel=>exact⟨i+1,by omega,by go_num,by rw[hn.out],zg hb7'.out hbk⟩
            case measure=>simp[intOf];omega
      ·have hn:=hNo.out (by rw[hIs];simp[hx4]);replace hn:=zi hn;clear hIs hNo hYes;go_wp2;go_roundw
       case rel=>exact⟨i+1,by omega,by go_num,by rw[hn.out],hbA.out⟩
       case measure=>simp[intOf];omega
     ·have hin':¬((i:Int)<(nl:Int)):=by omega
      have hie:i=nl:=by omega
      subst hie;go_wp2;go_roundw
      case rel=>exact⟨d+1,by omega,by go_num,by rw[HA1.out],hb5.out⟩
      case measure=>simp[intOf] <;> omega
   ·have hde:d=s.size:=by omega
    subst hde;have ha0:¬((0:Int)<=(s.size:Int)-1-(s.size:Int)):=by omega
    have hF:=HF.out _ rfl;generalize edA L t.nodes (zeC b) s.data.toList s.size=Z at *;have hbx:=zi (zh hb hbox.out);have hT4:=zi (HT.out.below hb);by_cases h3:Z.length<=3000
    ·have h3':¬((3000:Int)<(Z.length:Int)):=by omega
     have HP:=zi (show Calls prog 14 #[.string ⟨Z.toArray⟩] w4 (Qz (zW Z) w4) from kW ⟨Z.toArray⟩ w4 (by show Z.length<=_;omega) (HG.out.later hbw.out));have HRz:=zi (fun W (hW:Below w.heap.size w W)=>(show Calls prog 12 #[.string ⟨Z.toArray⟩] W (zk3 (Lode.yQ Z) W) from Zf ⟨Z.toArray⟩ W (by show Z.length<=_;omega) (HG.out.later hW)));rcases hF h3 with⟨u,hpu,hWu,hsu⟩|⟨h5,h5r⟩
     ·rw[hpu] at HP;have HAl:=zi (fun (nv iv nv2 iv2:Value) W (ha:TRo W nv iv t) (hb:TRo W nv2 iv2 u) (h:Below w.heap.size w W)=>hsu▸zgP t u nv iv nv2 iv2 W ha hb (HG.out.later h) HW.out hWu);obtain⟨n2,hn2⟩:∃k,u.nodes.length=k:=⟨_,rfl⟩;obtain⟨i2,hi2⟩:∃k,u.items.length=k:=⟨_,rfl⟩;have Hn2:=zi hn2;have Hi2:=zi hi2;clear hn2 hi2 hpu hsu hF hb;go_wp2_with fail;refine HP.out.mono ?_;rintro e9 w5 ⟨hb5,nv5,iv5,rfl,hT5⟩;obtain⟨p5,c5,q5,d5,rfl,rfl⟩:=hT5.o.form;simp only at hT5;rw[Hn2.out,Hi2.out] at hT5 ⊢;have hz:=zk w5 (.cells #[.slice none 0 0,.slice none 0 0] 26 (0,0));have e0:=zd hz 0;have e1:=zd hz 1;have f0:=zl hz 0;have f1:=zl hz 1;have hA:=zf w5 (.cells #[.slice p5 n2 c5,.slice q5 i2 d5] 26 (0,0));have hbA:=zg hb5 hA;have hw6:=zi (zg hbw.out hbA);have R6:=zh hbA hbx.out;have T6:=zi (hT4.out.below hbA);have U6:=zi (hT5.below hA);have S6:=zk w5 (.cells #[.slice p5 n2 c5,.slice q5 i2 d5] 26 (0,0));have b0:=zd R6 0;have b1:=zd R6 1;have g0:=zd S6 0;have g1:=zd S6 1;clear hz hA hT5 hb5 hbA R6 S6;go_wp2_with fail;refine (HAl.out _ _ _ _ _ T6.out.o U6.out.o hw6.out).mono ?_;rintro e woA1 ⟨rfl,hbA⟩;have hwA:=zg hw6.out hbA;go_wp2_with fail;refine (hKn.out _ hwA).mono ?_;rintro e w9 ⟨rfl,hb9⟩;have hw9:=zg hwA hb9;go_wp2;go_ret;exact⟨rfl,hw9⟩
     ·clear hF hb;generalize zW Z=r2 at *;obtain⟨u,pz,ez⟩:=r2;simp only at h5;subst h5;generalize Lode.yQ Z=r3 at *;obtain⟨Lz,qzz,fz⟩:=r3;simp only at h5r;subst h5r;obtain⟨n2,hn2⟩:∃k,u.nodes.length=k:=⟨_,rfl⟩;obtain⟨i2,hi2⟩:∃k,u.items.length=k:=⟨_,rfl⟩;have Hn2:=zi hn2;have Hi2:=zi hi2;clear hn2 hi2;go_wp2_with fail;refine HP.out.mono ?_;rintro e9 w5 ⟨hb5,nv5,iv5,rfl,hT5⟩;obtain⟨p5,c5,q5,d5,rfl,rfl⟩:=hT5.o.form;simp only at hT5;rw[Hn2.out,Hi2.out] at hT5 ⊢;have hz:=zk w5 (.cells #[.slice none 0 0,.slice none 0 0] 26 (0,0));have e0:=zd hz 0;have e1:=zd hz 1;have f0:=zl hz 0;have f1:=zl hz 1;have hbA:=zg hb5 (zf w5 (.cells #[.slice p5 n2 c5,.slice q5 i2 d5] 26 (0,0)));have hw6:=zi (zg hbw.out hbA);clear hz hT5 hb5 hbA;go_wp2_with fail;refine (HRz.out _ hw6.out).mono ?_;rintro e9 w7 ⟨v7,rfl,_,hb7⟩;have hw7:=zg hw6.out hb7;go_wp2_with fail;refine (hKn.out _ hw7).mono ?_;rintro e w9 ⟨rfl,hb9⟩;have hw9:=zg hw7 hb9;go_wp2;go_ret;exact⟨rfl,hw9⟩
    ·have h3':((3000:Int)<(Z.length:Int)):=by omega
     clear hF hb;go_wp2_with fail;refine (hKn.out _ hbw.out).mono ?_;rintro e w9 ⟨rfl,hb9⟩;have hw9:=zg hbw.out hb9;go_wp2;go_ret;exact⟨rfl,hw9⟩
 ·go_enter func6,ntmps6;go_wp2_with fail;refine hPd.out.mono ?_;rintro e w1 ⟨hb1,nv,iv,rfl,hT⟩;obtain⟨p1,c1,q1,d1,rfl,rfl⟩:=hT.o.form;simp only at hT;generalize t.nodes.length=nl at *;generalize t.items.length=il at *;have hz:=zk w1 (.cells #[.slice none 0 0,.slice none 0 0] 26 (0,0));have e0:=zd hz 0;have e1:=zd hz 1;have f0:=zl hz 0;have f1:=zl hz 1;have hA:=zf w1 (.cells #[.slice p1 nl c1,.slice q1 il d1] 26 (0,0));have hW1:=zi (zg hb1 hA);clear hz hA hT hb1 hPd hcs;cases ok
  ·go_wp2_with fail;refine (hKn.out _ hW1.out).mono ?_;rintro e w9 ⟨rfl,hb9⟩;have hw9:=zg hW1.out hb9;go_wp2;go_ret;exact⟨rfl,hw9⟩
  ·have hs':(600:Int)<(s.size:Int):=by
    have h4:¬s.size<=600:=fun h=>hc ⟨rfl,h⟩
    omega
   go_wp2_with fail;refine (hKn.out _ hW1.out).mono ?_;rintro e w9 ⟨rfl,hb9⟩;have hw9:=zg hW1.out hb9;go_wp2;go_ret;exact⟨rfl,hw9⟩
end
end Go.Proofs.YtnncmdpopgkibaaGreatDoor
