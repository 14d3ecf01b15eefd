/-
  A part of the proof: contracts of functions; no conditions.
-/
import Derived.Test.YtnncmdpopgkibaaGreatDoorKA
import Derived.Test.YtnncmdpopgkibaaGreatDoorKB
import Derived.Test.YtnncmdpopgkibaaGreatDoorKC
import Derived.Test.YtnncmdpopgkibaaGreatDoorKD
import Derived.Test.YtnncmdpopgkibaaGreatDoorKE
import Derived.Test.YtnncmdpopgkibaaGreatDoorKF
import Derived.Test.YtnncmdpopgkibaaGreatDoorKG
import Derived.Test.YtnncmdpopgkibaaGreatDoorKH
import Derived.Test.YtnncmdpopgkibaaGreatDoorKI
import Derived.Test.YtnncmdpopgkibaaGreatDoorKJ
import Derived.Test.YtnncmdpopgkibaaGreatDoorKK
import Derived.Test.YtnncmdpopgkibaaGreatDoorKL
import Derived.Test.YtnncmdpopgkibaaGreatDoorKM
import Derived.Test.YtnncmdpopgkibaaGreatDoorKN
import Derived.Test.YtnncmdpopgkibaaGreatDoorKO
import Derived.Test.YtnncmdpopgkibaaGreatDoorKP
import Derived.Test.YtnncmdpopgkibaaGreatDoorKQ
import Derived.Lib.AtoiAll
import Derived.Lib.ItoaNum
import GoSem.Op.String
import Derived.Lib.LastIndexByte
import Derived.Lib.Bytealg
import Derived.Laws.Runes
import Derived.Deep.RegionHeld3
import Derived.Deep.DrawnRows
import Derived.Deep.AppendLies
import Derived.Maps.Range
import Derived.WalkMore
import Derived.Deep.LoopGhost
import Derived.Shelf.Strings.BuilderF
import Derived.Test.YtnncmdpopgkibaaGreatDoorProg
import Derived.WalkKit
import Derived.WalkLawsBesides
import Derived.WalkSpells
import Derived.Lib.ConvBytes
import Derived.Shelf.Abstract
import Derived.Deep.RegionWith
import Derived.Deep.Light
import Derived.Deep.QuietTactic
import Derived.BigQuiet
import Derived.Shelf.Strings.Builder1
import Derived.Shelf.Strings.Builder2
import Derived.Shelf.Strings.OnBuilder
import Derived.Shelf.Small.Strs
import Derived.Shelf.Small.Wraps
import Derived.Shelf.Strconv.Atoi
import Derived.Shelf.Strconv.Itoa0
import Derived.Shelf.Strconv.Itoa1
import Derived.Shelf.LaysM
import Derived.Shelf.Strconv.Itoa2
import Derived.Shelf.Strconv.Itoa3
import Derived.Shelf.Strconv.AtoiErrFast
import Derived.Shelf.Strconv.ParseIntEmpty
import Derived.Shelf.Strconv.AtoiFail
import Derived.Shelf.Strconv.Clone
import Derived.Shelf.Strconv.SyntaxError
import Derived.Shelf.LaysC
import Derived.Shelf.Strconv.ToError
import Derived.Shelf.Strconv.Lower
import Derived.Shelf.Strconv.ParseUint10
import Derived.Shelf.Strconv.ParseUint10Empty
import Derived.Shelf.Strconv.ParseUint10Any
import Derived.Shelf.Strconv.ParseInt10
import Derived.Shelf.Strconv.AtoiLong
import Derived.Shelf.Strconv.AtoiInnerAll
import Derived.Shelf.Strconv.RangeError
import Derived.Shelf.Strconv.ToErrorRange
import Derived.Shelf.Strconv.AtoiAll
import Derived.Shelf.Strconv.ErrVarAll
import Derived.Shelf.Strings.Search1
import Derived.Shelf.Strings.Search2
import Derived.Shelf.Strings.Search3
import Derived.Shelf.Strings.Shaped
import Derived.Shelf.Strings.Prefix
import Derived.Shelf.Strings.Fields
import Derived.Shelf.Strings.SplitShaped
import Derived.Shelf.Unicode.Latin
import Derived.Shelf.Bits.Mul64
import Derived.Shelf.Unicode.Is16White
import Derived.Shelf.Unicode.IsSpaceAny
import Derived.Shelf.Unicode.Is16Any
import Derived.Shelf.Unicode.Is32Any
import Derived.Shelf.Unicode.ExclAny
import Derived.Shelf.Slices.Turned
import Derived.Shelf.Slices.Reverse
import Derived.Shelf.Slices.Equal
import Derived.Ground.Names2Prog
import Derived.Shelf.Slices.Clone
import Derived.Shelf.Slices.Cells
import Derived.Shelf.Slices.Empties2
import Derived.Ground.SlgnProg
import Derived.Shelf.SlicesE.Index
import Derived.Shelf.SlicesE.Clone
import Derived.Lib.AppendIntMem
import Derived.Shelf.RegionOpen
import Derived.OwnWalkIn
import Derived.TacticsInMore
import Derived.LoopNIn
import Derived.LoopIn
import Derived.Deep.Onto
import Derived.Lib.QuietBelow
import Derived.RegionTactic
import Derived.Still
import Derived.RangeFuncNested
import Derived.RangeFuncBound
import Derived.RangeFuncCalls
import Derived.RangeFuncLeaves
import Derived.RangeFuncKeeps
import Derived.Deep.MidRow
import Derived.Deep.Upon
import Derived.OwnWalk
import Derived.OneCell
import Derived.OrdersIn
import Derived.TacticsIn
import Derived.Laws.CopyOwn
import Derived.Laws.MakeOwn
import Derived.Laws.OwnMore
import Derived.Recover
import Derived.Lib.OthersKept
import Derived.MapKept
import Derived.Carry
set_option maxRecDepth 100000
set_option maxHeartbeats 40000000
set_option linter.unusedSimpArgs false
set_option linter.unusedVariables false
namespace Lode
def plc(E:zv)(i:Nat):Int:=((E.toks[i]?).getD ⟨0,[],E.len⟩).at_
variable {E:zv} {c:Option Nat}
section
variable {α β:Type}
def Pl(E:zv)(c:Option Nat)(m:PM α):Prop:=∀(s:zY) (a:α) (s1:zY),(∀i,c=some i->i<s.next)->m E s=.ok a s1->
 s.next<=s1.next/\∃(r:List Nd) (I:List Nat),s1.nodes=s.nodes ++ r/\r.map Nd.at_=I.map (plc E)/\I.Nodup/\∀i∈I,(s.next<=i/\i<s1.next)\/c=some i
theorem zef{m:PM α}(h:Pl E none m):Pl E c m:=fun s a s1 _ h0=>by
 obtain⟨h1,r,I,h2,h3,h4,h5⟩:=h _ _ _ (fun _ e=>by cases e) h0;exact⟨h1,r,I,h2,h3,h4,fun i hi=>(h5 i hi).elim .inl fun e=>by cases e⟩
theorem zbP{m:PM α}{f:α->PM β}(h:Pl E none m)(hf:∀a,Pl E c (f a)):Pl E c (m >>= f):=fun s b s2 hc h0=>by
 obtain⟨a,s1,h1,h0⟩:=zm h0;obtain⟨a1,r,I,a2,a3,a4,a5⟩:=h _ _ _ (fun _ e=>by cases e) h1;obtain⟨b1,q,J,b2,b3,b4,b5⟩:=hf a _ _ _ (fun i e=>wI (hc i e) a1) h0;have a6:∀i∈I,s.next<=i/\i<s1.next:=fun i hi=>(a5 i hi).elim id fun e=>by cases e
 refine⟨pN a1 b1,r ++ q,I ++ J,by rw[b2,a2,wS],by rw[List.map_append,List.map_append,a3,b3],List.nodup_append.2 ⟨a4,b4,fun i hi j hj=>?_⟩,fun i hi=>?_⟩
 ·have h2:=a6 i hi;rcases b5 j hj with h3|h3
  ·omega
  ·have:=hc j h3;omega
 ·rcases pX.1 hi with hi|hi
  ·exact .inl ⟨(a6 i hi).1,wI (a6 i hi).2 b1⟩
  ·exact (b5 i hi).imp (fun h=>⟨by omega,h.2⟩) id
theorem zbM{a:α}:Pl E c (pure a):=fun s b s1 _ h=>by
 obtain⟨rfl,rfl⟩:=zD h;exact⟨pE _,[],[],(wN _).symm,rfl,List.nodup_nil,fun i hi=>by cases hi⟩
theorem zcN:Pl E c (kL:PM α):=fun _ _ _ _ h=>by cases h
theorem zeC{k i:Nat}{x:List UInt8}{n q:Int}{ks:List Int}(hq:q=plc E i):Pl E (some i) (zG k x n q ks):=fun _ b s1 _ h=>by
 cases h;exact⟨pE _,[⟨k,x,n,ks,q⟩],[i],rfl,by rw[hq];rfl,by simp,fun j hj=>by rw[wL] at hj;rw[hj];exact .inr rfl⟩
theorem zey{k i:Nat}{x:List UInt8}{n q:Int}{ks:List Int}{f:Int->PM α}(hq:q=plc E i)(hf:∀a,Pl E none (f a)):Pl E (some i) (zG k x n q ks >>= f):=fun s b s1 hc h=>by
 obtain⟨a,s2,h1,h⟩:=zm h;cases h1;obtain⟨a1,r,I,a2,a3,a4,a5⟩:=hf _ _ _ _ (fun _ e=>by cases e) h;have hi:=hc i rfl;have a6:∀j∈I,s.next<=j/\j<s1.next:=fun j hj=>(a5 j hj).elim id fun e=>by cases e
 refine⟨a1,⟨k,x,n,ks,q⟩ :: r,i :: I,by rw[a2,wS];rfl,by rw[List.map_cons,List.map_cons,a3,hq],List.nodup_cons.2 ⟨fun h=>?_,a4⟩,fun j hj=>?_⟩
 ·have:=a6 i h;omega
 ·rcases wD.1 hj with rfl|hj
  ·exact .inr rfl
  ·exact .inl (a6 j hj)
theorem zfQ{l:List (List UInt8)}{f:Bool->PM α}(h1:Pl E c (f true))(h2:Pl E c (f false)):Pl E c (uU l >>= f):=fun s b s1 hc h=>by
 change f (uq (zy E s) l) E s=_ at h;cases hw:uq (zy E s) l with
 |true=>rw[hw] at h;exact h1 _ _ _ hc h
 |false=>rw[hw] at h;exact h2 _ _ _ hc h
theorem zdf{d:Prop}[Decidable d]{m m':PM α}(h1:Pl E c m)(h2:Pl E c m'):Pl E c (if d then m else m'):=by
 split
 ·exact h1
 ·exact h2
theorem zgl{i:Int}{f:Nat->PM α}(h:∀k,Pl E c (f k)):Pl E c (YJ i >>= f):=fun s b s1 hc h0=>h _ _ _ _ hc h0
variable {p:yp→Bool} {A:yp→PM α} {B:PM α}
theorem zdi(hA:∀t,Pl E c (A t))(hB:Pl E c B):Pl E c (ZO p A B):=fun s a s1 hc h=>by
 unfold ZO at h;split at h
 ·obtain⟨a1,r,I,a2,a3,a4,a5⟩:=hA _ {s with next:=s.next+1} _ _ (fun i e=>Nat.lt_succ_of_lt (hc i e)) h;exact⟨Nat.le_of_succ_le a1,r,I,a2,a3,a4,fun i hi=>(a5 i hi).imp (fun h=>⟨by have:=h.1;simp only at this;omega,h.2⟩) id⟩
 ·exact hB _ _ _ hc h
theorem zew(hA:∀i t,yp.at_ t=plc E i->Pl E (some i) (A t))(hB:Pl E none B):Pl E none (ZO p A B):=fun s a s1 hc h=>by
 unfold ZO at h;split at h
 ·obtain⟨a1,r,I,a2,a3,a4,a5⟩:=hA s.next _ rfl {s with next:=s.next+1} _ _ (fun i e=>by cases e;exact Nat.lt_succ_self _) h;refine⟨Nat.le_of_succ_le a1,r,I,a2,a3,a4,fun i hi=>.inl ?_⟩;simp only at a1;rcases a5 i hi with h|h
  ·simp only at h;omega
  ·cases h;omega
 ·exact hB _ _ _ hc h
end
structure PlR(E:zv)(R:xN):Prop where
 expr:Pl E none R.expr
 unary:Pl E none R.unary
 bin2:Pl E none R.bin2
 block:Pl E none R.block
 branch:Pl E none R.branch
 kind:Pl E none R.kind
 pattern:Pl E none R.pattern
theorem ziR{part:PM Int}(hp:Pl E none part):∀(k:Nat) (acc:List Int),Pl E none (qm k part acc)
 |0,_=>fun _ _ _ _ h=>by cases h
 |k+1,acc=>by
  simp only[qm,xT];exact zbP hp fun x=>zdi (fun _=>ziR hp k _) zbM
theorem zfI{part:PM Int}(hp:Pl E none part):Pl E none (kC part):=ziR hp _ _
section
variable {R:xN} (hR:PlR E R)
include hR
theorem zez:Pl E none (jE R)/\Pl E none (ul R)/\Pl E none (Xa R)/\Pl E none (Xb R)/\Pl E none (vw R)/\Pl E none (vG R)/\Pl E none (xI R)/\Pl E none (qh R):=by
 obtain⟨h1,h2,h3,h4,h5,h6,h7⟩:=hR;refine⟨?_,?_,?_,?_,?_,?_,?_,?_⟩
 all_goals
  try simp only[jE,ul,qk,Xa,Xb,vw,vG,xI,qh,yX,xA,xT,xm,jC,qi,qu,vf,qt,xB,if_true,if_false,Bool.false_eq_true]
  repeat' first|exact zeC (by assumption)|exact zbM|exact zcN|exact zef (by assumption)|refine zew (fun i t ht=>?_) ?_|refine zdi (fun _=>?_) ?_|refine zfQ ?_ ?_|refine zfI ?_|refine zgl fun _=>?_|refine zdf ?_ ?_|refine zey (by assumption) fun _=>?_|refine zbP ?_ fun _=>?_
theorem zkh:∀(n:Nat) (first:Bool) (acc:List Int),Pl E none (qB R n first acc)
 |0,_,_=>zbM
 |n+1,first,acc=>by
  simp only[qB,yX];exact zbP (zdf zbM (zdi (fun _=>zbM) zcN)) fun _=>zbP hR.expr fun _=>zkh n false _
theorem zii:∀(k:Nat) (acc:List Int),Pl E none (yR R k acc)
 |0,_=>fun _ _ _ _ h=>by cases h
 |k+1,acc=>by
  simp only[yR,yX];have h1:=(zez hR).2.2.2.2.1;have h2:=fun acc=>zii k acc
  exact zfQ (zdf zbM (zbP h1 fun x=>zfQ (zdf zbM (zdi (fun _=>h2 _) zcN)) (zdf zbM (zdi (fun _=>h2 _) zcN)))) (zdf zbM (zbP h1 fun x=>zfQ (zdf zbM (zdi (fun _=>h2 _) zcN)) (zdf zbM (zdi (fun _=>h2 _) zcN))))
theorem zkb:∀(k:Nat) (acc:List Int),Pl E none (jf R k acc)
 |0,_=>fun _ _ _ _ h=>by cases h
 |k+1,acc=>by
  have h1:=hR.expr;have h2:=fun acc=>zkb k acc
  try simp only[jf,yX,xA,xT,xm,jC,qi,qu,vf,qt,xB,if_true,if_false,Bool.false_eq_true]
  repeat' first|exact zef (h2 _)|exact zbM|exact zcN|exact zef (by assumption)|refine zew (fun i t ht=>?_) ?_|refine zdi (fun _=>?_) ?_|refine zey (by assumption) fun _=>?_|refine zbP ?_ fun _=>?_
theorem zki:∀(k:Nat) (left:Int),Pl E none (jL R k left)
 |0,_=>fun _ _ _ _ h=>by cases h
 |k+1,left=>by
  have h1:=hR.expr;have h2:=fun left=>zki k left
  try simp only[jL,yX,xA,xT,xm,jC,qi,qu,vf,qt,xB,if_true,if_false,Bool.false_eq_true]
  repeat' first|exact zef (h2 _)|exact zbM|exact zcN|exact zef (by assumption)|refine zew (fun i t ht=>?_) ?_|refine zdi (fun _=>?_) ?_|refine zey (by assumption) fun _=>?_|refine zfQ ?_ ?_|refine zdf ?_ ?_|refine zfI ?_|refine zbP ?_ fun _=>?_
omit hR in
theorem zla{tight:PM Int}(ht:Pl E none tight)(lv:Nat):∀(k:Nat) (left:Int),Pl E none (uR lv tight k left)
 |0,_=>fun _ _ _ _ h=>by cases h
 |k+1,left=>by
  simp only[uR,xm];exact zew (fun i t h=>zbP ht fun r=>zey h fun x=>zdf zbM (zla ht lv k _)) zbM
omit hR in
theorem zgS{tight:PM Int}(ht:Pl E none tight)(lv:Nat):Pl E none (uy lv tight):=zbP ht fun left=>zla ht lv _ _
theorem zlH:Pl E none (qE R):=by
 try simp only[qE,yX,xA,xT,xm,jC,qi,qu,vf,qt,xB,if_true,if_false,Bool.false_eq_true]
 exact zew (fun i t h=>zbP (zii hR _ _) fun x=>zdi (fun _=>zeC h) zcN) zcN
theorem zkj:Pl E none (vA R):=by
 have h1:=(zez hR).1;have h2:=hR.kind
 try simp only[vA,yX,xA,xT,xm,jC,qi,qu,vf,qt,xB,if_true,if_false,Bool.false_eq_true]
 repeat' first|exact zeC (by assumption)|exact zbM|exact zcN|exact zef (by assumption)|refine zew (fun i t ht=>?_) ?_|refine zdi (fun _=>?_) ?_|refine zfQ ?_ ?_|refine zfI ?_|refine zgl fun _=>?_|refine zdf ?_ ?_|refine zey (by assumption) fun _=>?_|refine zbP ?_ fun _=>?_
theorem zjf:Pl E none (qP >>= fun t=>yA R t):=by
 have h0:Pl E none (fun E s=>jf R (E.toks.length+1) [] E s):=zkb hR _ _;obtain⟨_,_,a3,a4,_,_,_,a8⟩:=zez hR;have h8:=zkj hR;obtain⟨h1,h2,h3,h4,h5,h6,h7⟩:=hR
 try simp only[yA,xQ,jP,yX,xA,xT,xm,jC,qi,qu,vf,qt,xB,if_true,if_false,Bool.false_eq_true]
 repeat' first|exact zeC (by assumption)|exact zbM|exact zcN|exact zef (by assumption)|refine zew (fun i t ht=>?_) ?_|refine zdi (fun _=>?_) ?_|refine zfQ ?_ ?_|refine zfI ?_|refine zgl fun _=>?_|refine zdf ?_ ?_|refine zey (by assumption) fun _=>?_|refine zbP ?_ fun _=>?_
theorem zlR:Pl E none (vB R):=by
 have h1:=hR.expr;have h2:=hR.unary;have h3:=fun n f acc=>zkh hR n f acc
 have h4:=zjf hR;rw[zbE]
 try simp only[qk,jK,yX,xA,xT,xm,jC,qi,qu,vf,qt,xB,if_true,if_false,Bool.false_eq_true]
 repeat' first|exact zef (h3 _ _ _)|exact h4|exact zeC (by assumption)|exact zbM|exact zcN|exact zef (by assumption)|refine zew (fun i t ht=>?_) ?_|refine zdi (fun _=>?_) ?_|refine zfI ?_|refine zdf ?_ ?_|refine zbP ?_ fun _=>?_
theorem zhY:Pl E none (jc R):=by
 try simp only[jc,yX,xA,xT,xm,jC,qi,qu,vf,qt,xB,if_true,if_false,Bool.false_eq_true]
 exact zew (fun i t h=>zbP hR.unary fun _=>zeC h) (zbP (zlR hR) fun left=>zki hR _ _)
theorem zkx:Pl E none (kP R):=by
 try simp only[kP,yX,xA,xT,xm,jC,qi,qu,vf,qt,xB,if_true,if_false,Bool.false_eq_true]
 exact zew (fun i t h=>zbP hR.bin2 fun _=>zeC h) (zgS (zgS (zgS (zhY hR) 4) 3) 2)
theorem zlQ:Pl E none (jT R):=by
 obtain⟨a1,a2,_,_,_,_,_,_⟩:=zez hR;have h8:=zkj hR;obtain⟨h1,h2,h3,h4,h5,h6,h7⟩:=hR
 try simp only[jT,xQ,yX,xA,xT,xm,jC,qi,qu,vf,qt,xB,if_true,if_false,Bool.false_eq_true]
 repeat' first|exact zeC (by assumption)|exact zbM|exact zcN|exact zef (by assumption)|refine zew (fun i t ht=>?_) ?_|refine zdi (fun _=>?_) ?_|refine zfQ ?_ ?_|refine zfI ?_|refine zgl fun _=>?_|refine zdf ?_ ?_|refine zey (by assumption) fun _=>?_|refine zbP ?_ fun _=>?_
end
theorem zk7:∀n,PlR E (jA n)
 |0=>⟨fun _ _ _ _ h=>(by cases h),fun _ _ _ _ h=>(by cases h),fun _ _ _ _ h=>(by cases h),fun _ _ _ _ h=>(by cases h),fun _ _ _ _ h=>(by cases h),fun _ _ _ _ h=>(by cases h),fun _ _ _ _ h=>(by cases h)⟩
 |n+1=>by
  have hR:=zk7 n;obtain⟨_,_,_,_,_,a6,a7,a8⟩:=zez hR;exact⟨zgS (zgS (zkx hR) 1) 0,zhY hR,zkx hR,zlH hR,a8,a6,a7⟩
theorem ziS{m:Nat}:∀k,Pl E none (qn (jA m) k)
 |0=>fun _ _ _ _ h=>by cases h
 |k+1=>fun s a s1 hc h=>by
  unfold qn at h;split at h
  ·cases hm:jT (jA m) E s with
   |bad p=>rw[hm] at h;cases h
   |ok i s2=>
    rw[hm] at h;dsimp only at h;have:=zbP (f:=fun i=>(fun E s=>qn (jA m) k E {s with items:=s.items ++ [i]}:PM Unit)) (zlQ (zk7 m)) fun i s b s1 hc h0=>ziS k {s with items:=s.items ++ [i]} b s1 hc h0
    exact this _ _ _ hc ((zbD hm).trans h)
  ·cases h;exact⟨pE _,[],[],(wN _).symm,rfl,List.nodup_nil,fun i hi=>by cases hi⟩
theorem zgW{l:List yp}{len:Nat}{t:zY}(h:xO l len=.ok () t)(hl:∀i j,i<j->j<t.next->plc ⟨l,len⟩ i≠plc ⟨l,len⟩ j):(t.nodes.map Nd.at_).Nodup:=by
 obtain⟨_,r,I,a2,a3,a4,a5⟩:=ziS (E:=⟨l,len⟩) _ ⟨[],[],0⟩ _ _ (fun _ e=>by cases e) h;rw[wJ] at a2;rw[a2,a3];refine List.Pairwise.map (R:=fun i j=>i∈I/\j∈I/\i≠j) _ (fun i j hij=>?_) ?_
 ·obtain⟨hi,hj,hne⟩:=hij;have h1:=(a5 i hi).elim id fun e=>by cases e
  have h2:=(a5 j hj).elim id fun e=>by cases e
  rcases Nat.lt_or_gt_of_ne hne with h|h
  ·exact hl i j h h2.2
  ·exact fun e=>hl j i h h1.2 e.symm
 ·exact List.Pairwise.imp_of_mem (fun hi hj h=>⟨hi,hj,h⟩) a4
theorem zkH{l:List Nd}(h:xL l l.length){i:Nat}(hi:i<l.length){f:Nat}(hf:l.length<f):QH l f i=1+((l[i]'hi).kids.map fun k=>QH l f k).sum:=by
 obtain⟨g,rfl⟩:∃g,f=g+1:=⟨f-1,by omega⟩;have h1:∀k∈(l[i]'hi).kids,QH l g k=QH l (g+1) k:=fun k hk=>by
  have:=jY h hi k hk;obtain⟨n,rfl⟩:=pP this.1;rw[Jr h n g (by omega) (by omega),Jr h n (g+1) (by omega) (by omega)]
 conv=>lhs;unfold QH
 rw[wE,glE hi];simp only[Option.elim];have key:∀(ks:List Int) (c:Int),(∀k∈ks,QH l g k=QH l (g+1) k)->ks.foldl (fun n k=>n+QH l g k) c=c+(ks.map fun k=>QH l (g+1) k).sum:=by
  intro ks;induction ks with
  |nil=>intro c _;simp
  |cons k r ih=>
   intro c hk;rw[List.foldl_cons,ih _ fun j hj=>hk j (pY _ hj),hk k (List.mem_cons_self ..),List.map_cons,List.sum_cons];omega
 exact key _ _ h1
theorem zme{t:yo}(h:xL t.nodes t.nodes.length)(p:Int):upT t p= -1\/(p<upT t p/\0<=upT t p/\upT t p<t.nodes.length):=by
 unfold upT Xo;cases hf:t.nodes.findIdx? (fun x=>x.kids.contains p) with
 |none=>exact .inl rfl
 |some i=>
  obtain⟨hi,h1,_⟩:=List.findIdx?_eq_some_iff_getElem.1 hf;have:=jY h hi p (by simpa using h1);exact .inr ⟨by simp only;omega,by simp only;omega,by simp only;omega⟩
structure zjS(t:yo)(l:List Int):Prop where
 head:∀k,l.head? =some k->upT t k= -1
 next:∀(i:Nat) (a b:Int),l[i]? =some a->l[i+1]? =some b->upT t b=a
 inn:∀k∈l,0<=k/\k<t.nodes.length
theorem zhE{t:yo}(h:xL t.nodes t.nodes.length):∀(f:Nat) (p:Int) (acc:List Int),-1<=p->p<t.nodes.length->1<=f->(0<=p->(t.nodes.length:Int)-p+1<=f)->(∀k,acc.head? =some k->upT t k=p)->(∀(i:Nat) (a b:Int),acc[i]? =some a->acc[i+1]? =some b->upT t b=a)->(∀k∈acc,0<=k/\k<t.nodes.length)->
 zjS t (zg3 t f p acc)/\(zg3 t f p acc).getLast? =(p :: acc).getLast?.filter (0<= ·)
 |0,p,acc,h1,h2,h3,_,_,_,_=>by omega
 |f+1,p,acc,h1,h2,h0,h3,h4,h5,h6=>by
  have hlast:acc≠[]->acc.getLast? =(p :: acc).getLast?.filter (0<= ·):=fun hn=>by
   cases acc with
   |nil=>exact absurd rfl hn
   |cons x r=>
    rw[List.getLast?_cons_cons,List.getLast?_eq_some_getLast (by simp)];rw[Option.filter_some,if_pos (by simpa using (h6 _ (List.getLast_mem (by simp))).1)]
  unfold zg3;split
  ·rename_i hp;have hp:p= -1:=by omega
   subst hp;refine⟨⟨h4,h5,h6⟩,?_⟩;cases acc with
   |nil=>rfl
   |cons x r=>exact hlast (by simp)
  ·rename_i hp;have hu:=zme h p;obtain⟨h7,h8⟩:=zhE h f (upT t p) (p :: acc) (by omega) (by omega) (by omega) (by omega) (fun k hk=>by cases hk;rfl) (fun i a b ha hb=>by
    cases i with
    |zero=>
     cases ha;exact h4 b (by rw[List.getElem?_cons_succ] at hb;rw[List.head?_eq_getElem?];exact hb)
    |succ i=>exact h5 i a b (by simpa using ha) (by simpa using hb)) (fun k hk=>by
    rcases wD.1 hk with rfl|hk
    ·omega
    ·exact h6 k hk)
   refine⟨h7,h8.trans ?_⟩;rw[List.getLast?_cons_cons]
theorem zgy{t:yo}(h:xL t.nodes t.nodes.length){i:Nat}(hi:i<t.nodes.length):zjS t (zg2 t i)/\(zg2 t i).getLast? =some (i:Int):=by
 have:=zhE h (t.nodes.length+1) i [] (by omega) (by omega) (by omega) (by omega) (fun k hk=>by cases hk) (fun i a b ha=>by cases ha) (fun k hk=>by cases hk);refine⟨this.1,this.2.trans ?_⟩;simp[Option.filter]
theorem zlw{t:yo}(hn:(t.nodes.map Nd.at_).Nodup){i:Nat}(hi:i<t.nodes.length):Xo (fun x=>x.at_ == (t.nodes[i]'hi).at_) t.nodes=i:=by
 have:t.nodes.findIdx? (fun x=>x.at_ == (t.nodes[i]'hi).at_)=some i:=by
  rw[List.findIdx?_eq_some_iff_getElem];refine⟨hi,by simp,fun j hj=>?_⟩;simp only[pS];intro e;have h1:=List.pairwise_iff_getElem.1 hn j i (by rw[wV];omega) (by rw[wV];omega) hj;simp only[List.getElem_map] at h1;exact h1 e
 unfold Xo;rw[this]
end Lode
namespace Go.Proofs.YtnncmdpopgkibaaGreatDoor
section
open Go.RowKit Lode
open Go.Proofs.Tryz
theorem ziT{m:Nat}:∀(k:Nat) (E:zv) (s t:zY),s.next<=E.toks.length->WFs s->qn (jA m) k E s=.ok () t->t.next<=E.toks.length
 |0,_,_,_,_,_,h=>by cases h
 |k+1,E,s,t,h0,hw,h=>by
  unfold qn at h;split at h
  ·cases hm:jT (jA m) E s with
   |bad p=>rw[hm] at h;cases h
   |ok i s1=>
    rw[hm] at h;dsimp only at h;obtain⟨N,_⟩:=Yf (qX m) h0 hw hm;exact ziT k E {s1 with items:=s1.items ++ [i]} t N.le N.wf h
  ·cases h;exact h0
theorem Vh.places{s:List UInt8}{t:yo}{st:zY}(h:Vh s t st):(t.nodes.map Nd.at_).Nodup:=by
 rw[h.eq];have hle:st.next<=(Lode.yQ s).1.length:=ziT _ ⟨_,s.length⟩ _ st (pU _) (fun i x hx=>by simp at hx) h.pg;obtain⟨hrd,_⟩:=Jt h.rd;have h5:=List.pairwise_iff_getElem.1 hrd.apart.2;refine zgW h.pg fun i j hij hj=>?_
 have:=h5 i j (by omega) (by omega) hij;unfold plc;simp only;rw[glE (by omega),glE (by omega),Option.getD_some,Option.getD_some];omega
theorem zmh{s:List UInt8}(h:(pdT s).2=true):Ve (pdT s).1/\((pdT s).1.nodes.map Nd.at_).Nodup:=by
 unfold pdT at h ⊢;split at h
 ·cases h
 ·rename_i hl;rw[if_neg hl];have h0:(zW s).2.2=0:=by simpa using h
  obtain⟨_,st,hp⟩:=zhG (s:=s) (t:=(zW s).1) (p:=(zW s).2.1) (by rw[<-h0]);exact⟨hp.well,hp.places⟩
theorem ziU(S:Int->Int):∀(ks:List Int) (a:Int),ks.foldl (fun n k=>n+S k) a=a+(ks.map S).sum
 |[],a=>by simp
 |k :: r,a=>by
  rw[List.foldl_cons,ziU S r,List.map_cons,List.sum_cons];omega
theorem _root_.Lode.Ve.full{t:yo}(h:Ve t):xL t.nodes t.nodes.length:=h.fm.full
theorem _root_.Lode.Ve.open{t:yo}(h:Ve t){α:Type}{j:Nat}(hj:j<t.nodes.length)(of:yo->Int->α)(d:α):zam t j of d=(of t j,0):=by
 unfold zam;rw[h.qr,if_neg (by decide),if_neg (by omega)]
theorem zk5{t:yo}(h:Ve t){j:Nat}{x:Nd}(hx:t.nodes[j]? =some x):x.kids.foldl (fun n k=>n+zeU t k) 1=zeU t j/\(∀k∈x.kids,0<=k/\k<(j:Int))/\∀k∈x.kids,0<=zeU t k/\zeU t k<=1001:=by
 obtain⟨hj,hxe⟩:=gE.1 hx;have hF:=h.full;have hn:=h.n;have hk:∀k∈x.kids,0<=k/\k<(j:Int):=fun k hk=>jY hF hj k (by rw[hxe];exact hk)
 refine⟨?_,hk,fun k hkm=>?_⟩
 ·rw[ziU];unfold zeU;rw[zkH hF hj (Nat.lt_succ_self _),hxe]
 ·have:=hk k hkm;obtain⟨n,rfl⟩:=pP this.1;unfold zeU;rw[Jr hF n _ (by omega) (by omega)];have:=zlg hF n (by omega);omega
theorem ziV{t:yo}(h:Ve t)(hn:(t.nodes.map Nd.at_).Nodup){j:Nat}{x:Nd}(hx:t.nodes[j]? =some x):zbx t x.at_=((j:Int),0):=by
 obtain⟨hj,hxe⟩:=gE.1 hx;have:=zlw hn hj;rw[hxe] at this;unfold zbx;rw[h.qr,if_neg (by decide),this,if_neg (by omega)]
end
section
open Go.RowKit Lode Go.Shelf
attribute [local go_sem ↓] Go.wp_at_zero Go.wp_at_succ
open Go.Proofs.Tryz
def zgQ(t:yo):List Int:=(List.range t.nodes.length).map fun (i:Nat)=>zeU t (i:Int)
theorem zlP(t:yo){j k:Nat}(hk:k<j)(hj:j<=t.nodes.length):((zgQ t).take j).getD k 0=zeU t k/\((zgQ t).take j).length=j:=by
 unfold zgQ;refine⟨?_,by simp;omega⟩;rw[pA,List.getElem?_take,if_pos hk,pZ,List.getElem?_range (by omega)];rfl
theorem zk4(t:yo){j:Nat}(hj:j<t.nodes.length):(zgQ t).take (j+1)=(zgQ t).take j ++ [zeU t j]:=by
 unfold zgQ;rw[wZ,pZ,List.getElem?_range hj];rfl
theorem zhO(t:yo):∀(f:Nat) (p:Int) (acc:List Int),(zg3 t f p acc).length<=acc.length+f
 |0,_,_=>pE _
 |f+1,p,acc=>by
  unfold zg3;split
  ·omega
  ·have:=zhO t f (upT t p) (p :: acc);simp only[pK] at this;omega
def zlV(t:yo)(wb:World)(sv iv:Value)(wr:World):Prop:=∃j:Nat,iv=.int .i64 j/\j<=t.nodes.length/\wr.ownsRow wb.heap.size 3 1 sv j (yZ ((zgQ t).take j))/\Below wb.heap.size wb wr
def zlU(S:Int->Int)(ks:List Int)(W:World)(sv kv:Value)(wr:World):Prop:=∃m:Nat,kv=.int .i64 m/\sv=.int .i64 ((ks.take m).foldl (fun n k=>n+S k) 1)/\m<=ks.length/\wr=W
def zlS(n:Nat)(W:World)(kv:Value)(wr:World):Prop:=∃m:Nat,kv=.int .i64 m/\m<=n/\Below W.heap.size W wr
theorem zld(s:ByteArray)(w:World)(hG:qH w):Calls prog 4 #[.string s] w (kQ w (.bool true)):=by
 have hKn:=zi (fun W (hW:Below w.heap.size w W)=>zd3 W (hG.later hW));have HP:=zi (zfj s w hG);have hwell:= @zmh s.data.toList;have HG:=zi hG;generalize pdT s.data.toList=r at *;obtain⟨t,ok⟩:=r;simp only at hwell;clear hG;by_cases hc:ok=true/\s.size<=400
 ·obtain⟨rfl,hs⟩:=hc;have hs':¬((400:Int)<(s.size:Int)):=by omega
  obtain⟨hW,hnd⟩:=hwell rfl;obtain⟨hok,hkm⟩:=zeG hW;have hn1:=hW.n;have hi1:=hW.i;have hfind:∀(j:Nat) (x:Nd),t.nodes[j]? =some x->zbx t x.at_=((j:Int),0):=fun _ _ hx=>ziV hW hnd hx
  have hkids:∀(j:Nat) (x:Nd),t.nodes[j]? =some x->x.kids.foldl (fun n k=>n+zeU t k) 1=zeU t j/\(∀k∈x.kids,0<=k/\k<(j:Int))/\∀k∈x.kids,0<=zeU t k/\zeU t k<=1001:=fun _ _ hx=>zk5 hW hx
  have hsz:∀(j:Nat),j<t.nodes.length->zdB t j=(zeU t j,0):=fun _ hj=>hW.open hj _ _
  have hpt:∀(j:Nat),j<t.nodes.length->zhF t j=(zg2 t j,0):=fun _ hj=>hW.open hj _ _
  have hpr:∀(j:Nat),j<t.nodes.length->za4 t j=(upT t j,0):=fun _ hj=>hW.open hj _ _
  have hway:∀(j:Nat),j<t.nodes.length->zjS t (zg2 t j)/\(zg2 t j).getLast? =some (j:Int)/\(zg2 t j).length<=100000:=fun j hj=>⟨(zgy hW.full hj).1,(zgy hW.full hj).2,by have:=zhO t (t.nodes.length+1) j [];unfold zg2;have:=hW.n;simp only[pR] at *;omega⟩
  have hnx:∀(j:Nat),j<t.nodes.length->(zgQ t).take (j+1)=(zgQ t).take j ++ [zeU t j]:=fun _ hj=>zk4 t hj
  obtain⟨nl,hnl⟩:∃k,t.nodes.length=k:=⟨_,rfl⟩;obtain⟨il,hil⟩:∃k,t.items.length=k:=⟨_,rfl⟩;have Hok:=zi hok;have Hkm:=zi hkm;have Hnl:=zi hnl;have Hil:=zi hil;have Hfind:=zi hfind;have Hkids:=zi hkids;have Hsz:=zi hsz;have Hpt:=zi hpt;have Hpr:=zi hpr;have Hway:=zi hway;have Hnx:=zi hnx;have Hn1:=zi hn1;have Hi1:=zi hi1;clear hwell hW hnd hok hkm hfind hkids hsz hpt hpr hway hnx hn1 hi1;go_enter func4,ntmps4;go_wp2_with fail;refine HP.out.mono ?_;rintro e w1 ⟨hb1,nv,iv,rfl,hT⟩;obtain⟨p1,c1,q1,d1,rfl,rfl⟩:=hT.o.form;simp only at hT;rw[hnl,hil] at hT ⊢;have hz:=zk w1 (.cells #[.slice none 0 0,.slice none 0 0] 26 (0,0));have e0:=zd hz 0;have e1:=zd hz 1;have f0:=zl hz 0;have f1:=zl hz 1;have hA:=zf w1 (.cells #[.slice p1 nl c1,.slice q1 il d1] 26 (0,0));have hW1:=zi (zg hb1 hA);have HT:=zi (hT.below hA);have hbox:=zi (zk w1 (.cells #[.slice p1 nl c1,.slice q1 il d1] 26 (0,0)));have hst:=zi (show zlV t (w1.alloc (.cells #[.slice p1 nl c1,.slice q1 il d1] 26 (0,0))) (.slice (some ⟨w1.heap.size+1,0,none⟩) 0 0) (.int .i64 0) ((w1.alloc (.cells #[.slice p1 nl c1,.slice q1 il d1] 26 (0,0))).alloc (.cells #[] 3 (0,0))) from ⟨0,rfl,pU _,by
   have:=zba (w1.alloc (.cells #[.slice p1 nl c1,.slice q1 il d1] 26 (0,0))) [] (by decide);rw[World.size_alloc] at this;rw[World.size_alloc];exact this,zf _ _⟩)
  clear hz hA hT hb1 HP hnl hil;go_wp2_with fail;generalize hwb:w1.alloc (.cells #[.slice p1 nl c1,.slice q1 il d1] 26 (0,0))=wb at *;clear e0 e1 f0 f1 hwb;go_loopw [5,6] (zlV t wb) (fun _ i _=>nl-(intOf i).toNat)
  case atStart=>exact hst.out
  case round=>
   obtain⟨j,rfl,hj,hown,hb⟩:=hrel;rw[Hnl.out] at hj;have hbw:=zg hW1.out hb;have hbx:=zh hb hbox.out;have c0:=zd hbx 0;have c1':=zd hbx 1;by_cases hlt:j<nl
   ·have hlt':(j:Int)<(nl:Int):=by omega
    have hj0:¬((j:Int)<0):=by omega
    have hn1:=Hn1.out;rw[Hnl.out] at hn1;have hi1:=Hi1.out;rw[Hil.out] at hi1;have hy:=pJ ((j:Int)+1) (by omega);have hjl:j<t.nodes.length:=by rw[Hnl.out];omega
    obtain⟨x,hx⟩:∃x,t.nodes[j]? =some x:=⟨_,glE hjl⟩;have hxk:=Hkm.out x (wK hx);have HO:=zi (fun W (hb:Below wb.heap.size wb W)=>ze4 t _ _ W (HT.out.below hb).o (by rw[Hnl.out];omega) (by rw[Hil.out];omega) (fun y hy=>by have:=Hkm.out y hy;omega));have hS:=Hsz.out _ hjl;have hP:=Hpt.out _ hjl;have hK:=Hkids.out _ _ hx;have hF:=Hfind.out _ _ hx;have hWy:=Hway.out _ hjl;have hNx:=Hnx.out _ hjl;obtain⟨kv,hN⟩:=HT.out.nodes;obtain⟨g,off,u,rfl,hAt⟩:=hN.at hx;obtain⟨up,uc,rfl⟩:=hAt.kids.form;have HAt:=zi hAt;have Hown:=zi hown;have Hbx:=zi hbx;have HS:=zi hS;have HPt:=zi hP;have HK:=zi hK;have HF:=zi hF;have HWy:=zi hWy;have HNx:=zi hNx;obtain⟨x0,x1,x2,ks,x4⟩:=x;obtain⟨klen,hkl⟩:∃k,ks.length=k:=⟨_,rfl⟩;simp only at HAt HK HF hxk;rw[hkl] at hxk HAt;have Hkl:=zi hkl;generalize zeU t j=zsum at *;generalize zg2 t j=wy at *;obtain⟨L,hL⟩:∃k,wy.length=k:=⟨_,rfl⟩;have HL:=zi hL;have hb0:=zi hb;clear hN hAt hown hbx hS hP hK hF hWy hNx hkl hL hb;go_wp2_with fail;refine (HO.out wr hb0.out).mono ?_;rintro e wA ⟨nvA,ivA,rfl,⟨kvA,OA⟩,hbA⟩;obtain⟨poA1,cA,qlA,dA,rfl,rfl⟩:=OA.tr.form;have hX:=ziA t _ _ j wA OA.tr (HG.out.later (zg hbw hbA)) Hok.out Hkm.out;rw[HS.out] at hX;have hb0A:=zi (zg hb0.out hbA);replace hX:=zi hX;have hrA:=zi hbA;clear OA hbA;go_wp2_with fail;refine hX.out.mono ?_;rintro e wB ⟨rfl,hbB⟩;have hb0B:=zi (zg hb0A.out hbB);have hrB:=zi (zg hrA.out hbB);have hbwB:=zi (zg hW1.out hb0B.out);have hOB:=zi (zu Hown.out hrB.out);have hbxB:=zh hrB.out Hbx.out;have HAtB:=zi (HAt.out.below hb0B.out);clear c0 c1' hX hb0A hrA hbB;have c0:=zd hbxB 0;have c1':=zd hbxB 1;have a3:=HAtB.out.c3;have a4:=HAtB.out.c4;simp only at a3 a4;have HbxB:=zi hbxB;clear hbxB;have hst2:=zi (show zlU (zeU t) ks wB (.int .i64 1) (.int .i64 0) wB from ⟨0,rfl,rfl,pU _,rfl⟩);go_wp2;go_loopw [9,10] (zlU (zeU t) ks wB) (fun _ k _=>klen-(intOf k).toNat)
    case atStart=>exact hst2.out
    case round=>
     obtain⟨m,rfl,rfl,hm,rfl⟩:=hrel;rw[Hkl.out] at hm;by_cases hmk:m<klen
     ·have hmk':(m:Int)<(klen:Int):=by omega
      have hm0:¬((m:Int)<0):=by omega
      have hym:=pJ ((m:Int)+1) (by omega);have hml:m<ks.length:=by rw[Hkl.out];omega
      obtain⟨g2,off2,rfl,_,d0⟩:=HAtB.out.kids.at hml;have hkm:ks.getD m 0∈ks:=by rw[pA,glE hml];exact wC hml
      obtain⟨_,hk1,hk2⟩:=HK.out;have hk1:=hk1 _ hkm;have hk3:=hk2 _ hkm;have hab:=KH (zeU t) 1001 (ks.take m) 1 (fun k hk=>hk2 k (List.mem_of_mem_take hk)) (by omega);have hlen:((ks.take m).length:Int)<=1000:=by rw[wU];omega
      have hnext:(ks.take (m+1)).foldl (fun n k=>n+zeU t k) 1=(ks.take m).foldl (fun n k=>n+zeU t k) 1+zeU t (ks.getD m 0):=by
       rw[wZ,glE hml,Option.toList_some,List.foldl_append,pA,glE hml];rfl
      replace hnext:=zi hnext;generalize (ks.take m).foldl (fun n k=>n+zeU t k) 1=acc at *;generalize ks.getD m 0=z at *;obtain⟨zn,rfl⟩:=pP hk1.1;have hzj:zn<j:=by omega
      obtain⟨hget,hlj⟩:=zlP t hzj (by rw[Hnl.out];omega);have hO:=hOB.out;obtain⟨g3,cap3,cs3,rfl,hc3,_,hh3,hv3⟩:=zkF (l:=(zgQ t).take j) (by rw[hlj];exact hO) (fun e=>by rw[e] at hlj;simp at hlj;omega);rw[hlj];have d1:=(zd hh3 zn).trans (hv3 zn (by rw[hlj];exact hzj));rw[hget] at d1;generalize zeU t zn=sz at *;have hws:=pJ (acc+sz) (by omega);have hz0:¬((zn:Int)<0):=by omega
      have hz1:¬((j:Int)<=(zn:Int)):=by omega
      have hz2:((zn:Int)<(j:Int)):=by omega
      clear hh3 hv3 hO hget hlj hk1 hk2;go_wp2;go_roundw
      case rel=>exact⟨m+1,by go_num,by rw[hnext.out],by rw[Hkl.out];omega,rfl⟩
      case measure=>simp[intOf];omega
     ·have hmk':¬((m:Int)<(klen:Int)):=by omega
      have hmm:m=klen:=by omega
      have htk:ks.take m=ks:=by rw[hmm,<-Hkl.out];exact List.take_length
      rw[htk,HK.out.1];clear htk hmm;go_wp2_with fail;refine (HO.out wr hb0B.out).mono ?_;rintro e woC1 ⟨nvC,ivC,rfl,⟨kvC,OC⟩,hbC⟩;obtain⟨poC1,cC,qlC,dC,rfl,rfl⟩:=OC.tr.form;have hX:=ziG t _ _ j woC1 OC.tr (HG.out.later (zg hbwB.out hbC)) Hok.out Hkm.out;rw[HPt.out] at hX;have hb0C:=zi (zg hb0B.out hbC);replace hX:=zi hX;have hrC:=zi (zg hrB.out hbC);clear OC hbC;go_wp2_with fail;refine hX.out.mono ?_;rintro e woD1 ⟨vp,rfl,hvp,hbD⟩;obtain⟨pp,pc,rfl⟩:=hvp.form;simp only at hvp;have hb0D:=zi (zg hb0C.out hbD);have hrD:=zi (zg hrC.out hbD);have hbwD:=zi (zg hW1.out hb0D.out);have hbxD:=zh hrD.out Hbx.out;have HAtD:=zi (HAt.out.below hb0D.out);have Hvp:=zi hvp;rw[HL.out] at Hvp ⊢;clear c0 c1' a3 a4 hX hb0C hrC hbD hvp;have c0:=zd hbxD 0;have c1':=zd hbxD 1;have a4:=HAtD.out.c4;simp only at a4;have HbxD:=zi hbxD;have a4lt:=HAtD.out.lt;have bxlt:=(gtA hbxD);clear hbxD;go_wp2_with fail;have hS:∀V,(zj9 woD1.heap.size).rel woD1.drew V->(V.cell? ⟨w1.heap.size,0,none⟩=some (.slice (some ⟨g,off,none⟩) nl c1)/\V.cell? ⟨w1.heap.size,1,none⟩=some (.slice q1 il d1)/\V.cell? ⟨g,off+j*5+4,none⟩=some (.int .i64 x4)):=fun V h=>⟨zj (w:=woD1.drew) h c0,zj (w:=woD1.drew) h c1',zj (w:=woD1.drew) h a4⟩
      refine LodeX.jm (RR:=zj9 woD1.heap.size) (Xp:=fun _ _=>False) [(0,1),(2,0),(3,1),(4,0),(5,0),(6,0),(7,1),(1,2),(8,2),(9,0),(10,0),(11,0),(12,0),(13,0)] ?_;refine LodeX.qT ?_;refine LodeX.zZ rfl rfl (fun K hK V hV=>?_);cases hV;go_simp;refine (HO.out woD1.drew (hb0D.out.trans ((pF _ woD1).drew.mono hb0D.out.size))).mono ?_;rintro e woE1 ⟨nvE,ivE,rfl,⟨kvE,OE⟩,hbE⟩;have hbE':Below woD1.heap.size woD1 woE1:=((pF _ woD1).drew).trans hbE;refine⟨hbE,hK _ _ ?_⟩;clear hK K
      try simp only[Act.put,yG,yE,yF]
      refine LodeX.zZ rfl rfl (fun K hK V hV=>?_);cases hV;go_simp;have hX:=ziN t nvE ivE x4 woE1 OE.tr (HG.out.later (zg hbwD.out hbE')) Hok.out;rw[HF.out] at hX;refine hX.mono ?_;rintro e woF1 ⟨rfl,hbF⟩;have hbF':Below woD1.heap.size woE1 woF1:=hbF.mono hbE'.size;refine⟨hbF',hK _ _ ?_⟩;clear hK K
      try simp only[Act.put,yG,yE,yF]
      refine LodeX.qT ?_;refine LodeX.zC fun W6 hW6=>?_
      cases hW6;have hb0F:=zi (zg hb0D.out (zg hbE' hbF));have hrF:=zi (zg hrD.out (zg hbE' hbF));have hvF:=Hvp.out.below (zg hbE' hbF);have HvF:=zi hvF;have HbxF:=zi (zh (zg hbE' hbF) HbxD.out);clear hS OE hbE hbE' hbF hbF' hX c0 c1' a4 a4lt bxlt;obtain⟨hlk,hlast,hLn⟩:=HWy.out;rw[HL.out] at hLn;have hL1:0<L:=by
       rw[<-HL.out];refine List.length_pos_iff.2 fun e=>?_
       rw[e] at hlast;cases hlast
      obtain⟨M,hM⟩:∃M,L=M+1:=⟨L-1,by omega⟩;have hL0:¬((L:Int)=0):=by omega
      have hwL:IntKind.i64.wrap ((L:Int)-1)=(M:Int):=by rw[pJ _ ⟨by omega,by omega⟩];omega
      have hML:(M:Int)<(L:Int):=by omega
      have hM0:¬((M:Int)<0):=by omega
      obtain⟨gp,offp,rfl,gplt,d2⟩:=hvF.at (j:=M) (by rw[HL.out];omega);have hgl:wy.getD M 0=(j:Int):=by
       rw[List.getLast?_eq_getElem?,HL.out,hM,Nat.add_sub_cancel] at hlast;rw[pA,hlast];rfl
      rw[hgl] at d2;have hst3:=zi (show zlS L woF1 (.int .i64 0) woF1 from ⟨0,rfl,pU _,pF _ _⟩);clear hvF hgl hlast;go_wp2;go_loopw [16] (zlS L woF1) (fun k _=>L-(intOf k).toNat)
      case atStart=>exact hst3.out
      case round=>
       obtain⟨k,rfl,hkL,hbk⟩:=hrel;have hb0k:=zi (zg hb0F.out hbk);have hrk:=zi (zg hrF.out hbk);have hbwk:=zi (zg hW1.out hb0k.out);have hbxk:=zh hbk HbxF.out;have hvk:=HvF.out.below hbk;clear d2;by_cases hk:k<L
       ·have hk':(k:Int)<(L:Int):=by omega
        have hk0:¬((k:Int)<0):=by omega
        have hyk:=pJ ((k:Int)+1) (by omega);have c0:=zd hbxk 0;have c1':=zd hbxk 1;have hkw:k<wy.length:=by rw[HL.out];omega
        obtain⟨gp2,offp2,he,_,d3⟩:=hvk.at hkw;cases he;have hkm:wy.getD k 0∈wy:=by rw[pA,glE hkw];exact wC hkw
        have hin:=hlk.inn _ hkm;have hhd:k=0->upT t (wy.getD k 0)= -1:=fun e=>by
         subst e;exact hlk.head _ (by rw[List.head?_eq_getElem?,pA,glE hkw];rfl)
        have hnext:∀q,k=q+1->upT t (wy.getD k 0)=wy.getD q 0:=fun q e=>by
         subst e;exact hlk.next q _ _ (by rw[pA,glE (by omega)];rfl) (by rw[pA,glE hkw];rfl)
        have hprev:∀q,k=q+1->wr.cell? ⟨gp,offp+q,none⟩=some (.int .i64 (wy.getD q 0)):=fun q e=>by
         obtain⟨gp3,offp3,he,_,d4⟩:=hvk.at (j:=q) (by omega);cases he;exact d4
        generalize wy.getD k 0=pk at *;obtain⟨pn,rfl⟩:=pP hin.1;have hPr:=Hpr.out pn (by omega);generalize upT t pn=un at *;replace hhd:=zi hhd;replace hnext:=zi hnext;replace hprev:=zi hprev;clear hvk;go_wp2_with fail;have hS:∀V,(zj9 wr.heap.size).rel wr.drew V->(V.cell? ⟨w1.heap.size,0,none⟩=some (.slice (some ⟨g,off,none⟩) nl c1)/\V.cell? ⟨w1.heap.size,1,none⟩=some (.slice q1 il d1)/\V.cell? ⟨gp,offp+k,none⟩=some (.int .i64 pn)):=fun V h=>⟨zj (w:=wr.drew) h c0,zj (w:=wr.drew) h c1',zj (w:=wr.drew) h d3⟩
        refine LodeX.jm (RR:=zj9 wr.heap.size) (Xp:=fun _ _=>False) [(0,1),(2,0),(3,0),(4,0),(5,1),(1,2),(6,2),(7,0),(8,0),(9,0),(10,0),(11,0)] ?_;refine LodeX.qT ?_;refine LodeX.zZ rfl rfl (fun K hK V hV=>?_);cases hV;go_simp;refine (HO.out wr.drew (hb0k.out.trans ((pF _ wr).drew.mono hb0k.out.size))).mono ?_;rintro e woG1 ⟨nvG,ivG,rfl,⟨kvG,OG⟩,hbG⟩;have hbG':Below wr.heap.size wr woG1:=((pF _ wr).drew).trans hbG;refine⟨hbG,hK _ _ ?_⟩;clear hK K
        try simp only[Act.put,yG,yE,yF]
        refine LodeX.zZ rfl rfl (fun K hK V hV=>?_);cases hV;go_simp;have hX:=zex t nvG ivG pn woG1 OG.tr (HG.out.later (zg hbwk.out hbG')) Hok.out;rw[hPr] at hX;refine hX.mono ?_;rintro e woH1 ⟨rfl,hbH⟩;refine⟨hbH.mono hbG'.size,hK _ _ ?_⟩;clear hK K
        try simp only[Act.put,yG,yE,yF]
        refine LodeX.qT ?_;refine LodeX.zC fun W6 hW6=>?_
        cases hW6;have hbkH:=zi (zg hbk (zg hbG' hbH));have hbrH:=zi (zg hbG' hbH);clear hS OG hbG hbG' hbH hX c0 c1' hPr;rcases Nat.eq_zero_or_pos k with hk00|hkp
        ·have hu:=hhd.out hk00;subst hu;subst hk00;go_wp2;go_roundw
         case rel=>exact⟨0+1,by go_num,by omega,hbkH.out⟩
         case measure=>simp[intOf];omega
        ·obtain⟨q,hq⟩:∃q,k=q+1:=⟨k-1,by omega⟩;have hu:=hnext.out q hq;have d4:=zj hbrH.out (hprev.out q hq);subst hu;have hk01:¬((k:Int)=0):=by omega
         have hk02:(0:Int)<(k:Int):=by omega
         have hkw1:IntKind.i64.wrap ((k:Int)-1)=(q:Int):=by rw[pJ _ ⟨by omega,by omega⟩];omega
         have hqL:(q:Int)<(L:Int):=by omega
         have hq0:¬((q:Int)<0):=by omega
         go_wp2;go_roundw
         case rel=>exact⟨k+1,by go_num,by omega,hbkH.out⟩
         case measure=>simp[intOf];omega
       ·have hk':¬((k:Int)<(L:Int)):=by omega
        have hOk:=zu Hown.out hrk.out;have hown2:=zu hOk (zf wr (.cells #[.int .i64 zsum] 3 (0,0)));have hbA2:=zg hb0k.out (zf wr (.cells #[.int .i64 zsum] 3 (0,0)));have hsz:=hb0k.out.size;clear hOk hvk;go_wp2_with (at_builtin;refine xC rfl _ _ rfl rfl hown2 rfl (zd (zk wr _) 0) rfl rfl (by omega) (by simp;omega) ?_);intro g' cap' w2 hrow hgrow hg';have hb2:=zi (vJ hbA2 hown2 hgrow);have hrow2:w2.ownsRow wb.heap.size 3 1 (.slice (some ⟨g',0,none⟩) (j+1) cap') (j+1) (yZ ((zgQ t).take (j+1))):=by
         rw[HNx.out];simp only[yZ,List.map_append,List.map_cons,List.map_nil,List.map_take] at hrow ⊢;exact hrow
        replace hrow2:=zi hrow2;clear hrow hgrow hg' hown2;go_wp2;go_roundw
        case rel=>exact⟨j+1,by go_num,by rw[Hnl.out];omega,hrow2.out,hb2.out⟩
        case measure=>simp[intOf];omega
   ·have hlt':¬((j:Int)<(nl:Int)):=by omega
    clear hown;go_wp2_with fail;refine (hKn.out wr hbw).mono ?_;rintro e w9 ⟨rfl,hb9⟩;have hw9:=zg hbw hb9;go_wp2;go_ret;exact⟨rfl,hw9⟩
 ·clear hwell;go_enter func4,ntmps4;go_wp2_with fail;refine HP.out.mono ?_;rintro e w1 ⟨hb1,nv,iv,rfl,hT⟩;obtain⟨p1,c1,q1,d1,rfl,rfl⟩:=hT.o.form;simp only at hT;generalize t.nodes.length=nl at *;generalize t.items.length=il at *;have hz:=zk w1 (.cells #[.slice none 0 0,.slice none 0 0] 26 (0,0));have e0:=zd hz 0;have e1:=zd hz 1;have f0:=zl hz 0;have f1:=zl hz 1;have hA:=zf w1 (.cells #[.slice p1 nl c1,.slice q1 il d1] 26 (0,0));have hW1:=zi (zg hb1 hA);clear hz hA hT hb1 HP;cases ok
  ·go_wp2_with fail;refine (hKn.out _ hW1.out).mono ?_;rintro e w9 ⟨rfl,hb9⟩;have hw9:=zg hW1.out hb9;go_wp2;go_ret;exact⟨rfl,hw9⟩
  ·have hs':(400:Int)<(s.size:Int):=by
    have h4:¬s.size<=400:=fun h=>hc ⟨rfl,h⟩
    omega
   go_wp2_with fail;refine (hKn.out _ hW1.out).mono ?_;rintro e w9 ⟨rfl,hb9⟩;have hw9:=zg hW1.out hb9;go_wp2;go_ret;exact⟨rfl,hw9⟩
end
end Go.Proofs.YtnncmdpopgkibaaGreatDoor
