/-
  A part of the proof: contracts of functions; no conditions.
-/
import Derived.Test.YtcagibbaeageoaaGreatDoorCB
import Derived.Shelf.Abstract
import Derived.Shelf.RegionOpen
import Derived.WalkKit
import Derived.OwnWalkIn
import Derived.TacticsInMore
import Derived.LoopNIn
import Derived.LoopIn
import Derived.Deep.Onto
import Derived.Laws.Runes
import Derived.OrdersIn
import Derived.TacticsIn
import Derived.Laws.CopyOwn
import Derived.Laws.MakeOwn
import Derived.Laws.OwnMore
set_option maxRecDepth 100000
set_option maxHeartbeats 40000000
set_option linter.unusedSimpArgs false
set_option linter.unusedVariables false
namespace Go.Proofs.YtcagibbaeageoaaGreatDoor
section
open Go.RowKit Lode Go.Shelf
attribute [local go_sem] Oper.semAt_some
open Go.Proofs.Tryz
theorem zfH(W2 W3:World)(R k m:Nat)(o:Obj)(hb:Below W2.heap.size W2 W3)(hc1:W2.cell? ⟨R,1,none⟩=some (.int .i64 k))(hf1:W2.frozen? ⟨R,1,none⟩=false)(hRlt:R<W2.heap.size):
 ∃W5,(W3.alloc o).setCell ⟨R,1,none⟩ (.int .i64 ((k:Int)+m))=W5/\(W5.cell? ⟨W3.heap.size,0,none⟩=(W3.alloc o).cell? ⟨W3.heap.size,0,none⟩/\W5.cell? ⟨W3.heap.size,1,none⟩=(W3.alloc o).cell? ⟨W3.heap.size,1,none⟩/\W5.cell? ⟨W3.heap.size,2,none⟩=(W3.alloc o).cell? ⟨W3.heap.size,2,none⟩)/\
  (∀o,(W3.alloc o).cell? ⟨R,1,none⟩=some (.int .i64 k))/\(∀o,(W3.alloc o).frozen? ⟨R,1,none⟩=false):=by
 have hs:=hb.size;have ne:W3.heap.size≠R:=by omega
 refine⟨_,rfl,⟨qF ne _ _ _ _,qF ne _ _ _ _,qF ne _ _ _ _⟩,fun o=>zh (zf hb (zg W3 o)) hc1,fun o=>jU (zf hb (zg W3 o)) hRlt hf1⟩
def zl0(w0:World)(R:Nat)(s:ByteArray)(J:List xQ->World->Prop)(wr:World):Prop:=
 ∃pre k,AtP s.data.toList pre k/\Rd wr R s k/\Below w0.heap.size w0 wr/\J pre wr
theorem zc9(R:Nat)(s:ByteArray)(w0 w:World)(hs:s.size<=1000000000000)(hB:∀c,c∈s.data.toList->ju c=true)(hG:qG w0)(hb0:Below w0.heap.size w0 w)(hR0:w0.heap.size<=R)(hRd:Rd w R s 0)(n:Nat)(hn:1<=n):
 zl3 Fence.wide n prog 79 #[.pointer (some ⟨R,0,none⟩)] #[] zlL (KpT w0 R) (zmL s.data.toList) R (zmH s.data.toList) (fun _=>True) w:=fun l J Jx W hW hJ hJx hY h0=>by
 have hRd:Rd W R s 0:=hRd.below hW;have hb0:=zf hb0 (hW.mono (pF _));refine callsIn_of_wp func79 rfl trivial ?_ rfl;simp only[ntmps79,List.size_toArray,pN,wC,Nat.reduceAdd,Nat.reduceSub,Array.replicate_succ,Array.replicate_zero,List.push_toArray,List.append_toArray,wP,wG,gI];have Hsk:=zj (zeT R s 0 W hs (pV _) hRd);have HJ:=zj hJ;clear hRd hJ
 gi_wp2_with (refine⟨trivial,?_⟩;gi_at_call 126;refine (callsIn_wide.2 (Hsk.out)).mono ?_;rintro e W1 ⟨rfl,hrd,hgr⟩)
 gi_loopw [] (fun wr=>zl0 w0 R s J wr) (fun wr=>s.size-zaO R wr)
 case atStart=>exact⟨[],_,by simpa using AtP.start,by simpa using hrd,Zs hb0 hgr hR0,HJ.out _ _ _ _ h0 hgr (fun r e=>by cases e;rfl)⟩
 case round=>
  obtain⟨pre,k,hat,hr,hb,hj⟩:=hrel;obtain⟨wb,sb,hR,hwb,hsb,hne1,hne2⟩:=id hr;have hc0:wr.cell? ⟨R,0,none⟩=some (.string s):=zd hR 0;have hc1:wr.cell? ⟨R,1,none⟩=some (.int .i64 k):=zd hR 1;have hf1:wr.frozen? ⟨R,1,none⟩=false:=zk hR 1;by_cases hlt:k<s.size
  ·have hlt':(k:Int)<(s.size:Int):=by omega
   have hltL:k<s.data.toList.length:=by simpa using hlt
   have hbD:Below wr.heap.size wr wr.drew:=bR.drew;have hrD:=hr.below hbD;have hb0D:=zf hb hbD;have hjD:=HJ.out _ _ _ none hj (ug hbD none) (fun r e=>by cases e);cases ht:xd (s.data.toList.drop k) with
   |none=>
    have HT:=zj (zcq R s k wr.drew hs hB hlt hrD (hG.later hb0D) ht);have HY:=zj (fun (W4:World) (hb4:Below wr.drew.heap.size wr.drew W4)=>hY pre ⟨0,[],(k:Nat)⟩ W4 (HJ.out _ _ _ none hjD (ug hb4 none) (fun r e=>by cases e)) ⟨k,hat,hltL,.inl ⟨ht,rfl⟩⟩);clear hR hwb hsb
    gi_wp2_with fail
    gi_region
    clear hc0 hc1 hf1 hY;generalize wr.drew=W2 at *;obtain⟨wb,sb,hR,hwb,hsb,hne1,hne2⟩:=id hrD;have hc1:W2.cell? ⟨R,1,none⟩=some (.int .i64 k):=zd hR 1
    gi_wp2_with (refine⟨trivial,?_⟩;gi_at_call 127;refine (callsIn_wide.2 (HT.out)).mono ?_;rintro e W3 ⟨⟨kk,tt,aa,nn,rfl⟩,hb3⟩;have hc4:∀o,(W3.alloc o).cell? ⟨R,1,none⟩=some (.int .i64 k):=fun o=>zh (zf hb3 (zg W3 o)) hc1;obtain⟨fn,tm,asg,bo,hy,hRR⟩:=HY.out (W3.alloc (.cells #[.int .u8 kk,.string tt,.int .i64 aa] 66)) (zf hb3 (zg _ _));change (Instr.yield l #[.agg #[.int .u8 0,.string ⟨#[]⟩,.int .i64 k]]).run _ _=_ at hy;have hRR:=zj hRR)
    refine hRR.out.mono ?_;rintro e W' (⟨rfl,hJ',_⟩|⟨rfl,hJx'⟩)
    ·gi_wp2
     refine bodyPost_ret (results_none rfl _ _ _) rfl ?_;exact⟨⟨_,rfl⟩,.inl ⟨_,.inr ⟨pre,k,rfl⟩,hJ'⟩⟩
    ·gi_wp2
     refine bodyPost_ret (results_none rfl _ _ _) rfl ?_;exact⟨⟨_,rfl⟩,.inr ⟨_,trivial,hJx'⟩⟩
   |some x=>
    obtain⟨kk,t,m⟩:=x;have hm:=vu ht;simp only[wV,Array.length_toList] at hm;have hsz:s.data.size=s.size:=rfl;have HT:=zj (zco R s k wr.drew hs hB hlt hrD (hG.later hb0D) kk t m ht);have HY:=zj (fun (W4:World) (hj4:J pre W4)=>hY pre ⟨kk,t,(k:Nat)⟩ W4 hj4 ⟨k,hat,hltL,.inr ⟨kk,t,m,ht,rfl⟩⟩);have hnext:=zj (hat.next hltL ht);clear hR hwb hsb
    gi_wp2_with fail
    gi_region
    clear hc0 hc1 hf1 hY;generalize wr.drew=W2 at *;obtain⟨wb,sb,hR,hwb,hsb,hne1,hne2⟩:=id hrD;have hc1:W2.cell? ⟨R,1,none⟩=some (.int .i64 k):=zd hR 1;have hf1:W2.frozen? ⟨R,1,none⟩=false:=zk hR 1;clear hR hwb hsb hne1 hne2;have e1:IntKind.i64.wrap ((k:Int)+m)=k+m:=pC _ (by omega);have hRlt:=World.block_lt_of_cell? W2 _ hc1;have hrD:=zj hrD;have hb0D:=zj hb0D
    gi_wp2_with (refine⟨trivial,?_⟩;gi_at_call 127;refine (callsIn_wide.2 (HT.out)).mono ?_;rintro e W3 ⟨rfl,hb3⟩;obtain⟨W5,hW5,hst,hc4,hf4⟩:=zfH W2 W3 R k m (.cells #[.int .u8 kk,.string ⟨t.toArray⟩,.int .i64 k] 66) hb3 hc1 hf1 hRlt;obtain⟨q0,q1,q2⟩:=hst;rw[zd (zl _ _) 0] at q0;rw[zd (zl _ _) 1] at q1;rw[zd (zl _ _) 2] at q2;simp only[pW] at q0 q1 q2;obtain⟨fn,tm,asg,bo,hy,hRR⟩:=HY.out W5 (by rw[<-hW5];exact HJ.out _ _ _ (some R) (HJ.out _ _ _ none hjD (ug (zf hb3 (zg _ _)) none) (fun r e=>by cases e)) (qM _ R 1 _) (fun r e=>by cases e;rfl));change (Instr.yield l #[.agg #[.int .u8 kk,.string ⟨t.toArray⟩,.int .i64 k]]).run _ _=_ at hy;have hRR:=zj hRR;have HW5:=zj hW5;have hb3:=zj hb3)
    refine hRR.out.mono ?_;have hrd5:Rd W5 R s (k+m):=by rw[<-HW5.out];exact (hrD.out.below (zf hb3.out (zg _ _))).step _ _ (by omega)
    have hb5:Below w0.heap.size w0 W5:=by rw[<-HW5.out];exact Zs (zf hb0D.out (zf hb3.out (zg _ _))) (qM _ R 1 _) hR0
    rintro e W6 (⟨rfl,hJ6,hk6⟩|⟨rfl,hJx6⟩)
    ·have hrd6:=hk6.1 _ _ hrd5;have hb6:=hk6.2 hb5
     gi_wp2_with (refine⟨trivial,?_⟩;gi_at_call 126;refine (callsIn_wide.2 (zeT R s (k+m) W6 hs (by omega) hrd6)).mono ?_;rintro e W7 ⟨rfl,hr7,hg7⟩)
     go_roundw
     case rel=>exact⟨_,_,hnext.out,hr7,Zs hb6 hg7 hR0,HJ.out _ _ _ _ hJ6 hg7 (fun r e=>by cases e;rfl)⟩
     case measure=>rw[hr7.pos,hr.pos];omega
    ·gi_wp2
     refine bodyPost_ret (results_none rfl _ _ _) rfl ?_;exact⟨⟨_,rfl⟩,.inr ⟨_,trivial,hJx6⟩⟩
  ·clear hR hwb hsb
   gi_wp2_with fail
   gi_region
   gi_wp2
   go_end0;exact⟨⟨_,rfl⟩,.inl ⟨pre,.inl ⟨k,hat,by simpa using hlt⟩,HJ.out _ _ _ none hj (ug (bR.drew) none) (fun r e=>by cases e)⟩⟩
structure LRd(w:World)(B:Nat)(s:List UInt8)(pre:List xQ)(W:World):Prop where
 at_:∃k,AtP s pre k
 len:pre.length<=1200
 kZ:B<=W.heap.size
 below:Below w.heap.size w W
 n1:W.heap[w.heap.size+1]? =some (.cells #[.int .i64 0] 3 (0,0))
 n2:W.heap[w.heap.size+1+1]? =some (.cells #[.int .i64 0] 27 (0,0))
 v:∃v,W.heap[w.heap.size]? =some (.cells #[v] 52 (0,0))/\vU W B v pre
structure LRx(w:World)(r:List xQ×Nat×Nat)(W:World):Prop where
 below:Below w.heap.size w W
 nil:r.1=[]
 n0:W.heap[w.heap.size]? =some (.cells #[.slice none 0 0] 52 (0,0))
 n1:W.heap[w.heap.size+1]? =some (.cells #[.int .i64 r.2.1] 3 (0,0))
 n2:W.heap[w.heap.size+1+1]? =some (.cells #[.int .i64 r.2.2] 27 (0,0))
theorem kj{W W':World}{row:Option Nat}(hg:W.grownBy W' row){k R B:Nat}{o:Obj}(hr:∀r,row=some r->r=R\/(B<=r/\∃o:Obj,W.heap[r]? =some o/\o.isCells=false))(hk:W.heap[k]? =some o)(h1:k≠R)(h2:k<B):W'.heap[k]? =some o:=
 (hg.block k (gtA hk) (fun e=>by rcases hr k e.symm with h|⟨h,_⟩ <;> omega)).trans hk
theorem jS{w W W':World}{row:Option Nat}(hb:Below w.heap.size w W)(hg:W.grownBy W' row){R B:Nat}(hr:∀r,row=some r->r=R\/(B<=r/\∃o:Obj,W.heap[r]? =some o/\o.isCells=false))(h1:w.heap.size<=R)(h2:w.heap.size<=B):Below w.heap.size w W':=
 ⟨hg.os.trans hb.os,hg.tape.trans hb.tape,hg.output.trans hb.output,pQ hb.size hg.size,fun k hk=>(hg.block k (wI hk hb.size) (fun e=>by rcases hr k e.symm with h|⟨h,_⟩ <;> omega)).trans (hb.block k hk)⟩
theorem LRd.own(w:World)(R B:Nat)(s:List UInt8)(hR:w.heap.size+2<R)(hRB:R<B):zcU R B (LRd w B s):=fun pre W W' row h hg hr=>by
 obtain⟨h1,h2,h0,h3,h4,h5,v,h6,h7⟩:=h;refine⟨h1,h2,pQ h0 hg.size,jS h3 hg hr (by omega) (by omega),kj hg hr h4 (by omega) (by omega),kj hg hr h5 (by omega) (by omega),v,kj hg hr h6 (by omega) (by omega),?_⟩;refine World.ownsRow.kept h7 hg ?_;cases hv:v.ownBlock with
 |none=>exact .inl rfl
 |some b=>
  refine .inr fun e=>?_
  have hlt:=h7.lt b hv;rcases hr b e.symm with h|⟨_,o,ho,hc⟩
  ·omega
  ·obtain⟨_,⟨rfl,_⟩|⟨g,cap,cur,rfl,_,hgc,_⟩⟩:=h7
   ·cases hv
   ·cases hv;simp only[] at ho;rw[hgc] at ho;cases ho;cases hc
theorem LRx.own(w:World)(R B:Nat)(r:List xQ×Nat×Nat)(hR:w.heap.size+2<R)(hRB:R<B)(c c':Code):zcU R B (fun (_:List xQ) W=>c=c'/\LRx w r W):=fun pre W W' row ⟨hc,h⟩ hg hr=>
 ⟨hc,jS h.below hg hr (by omega) (by omega),h.nil,kj hg hr h.n0 (by omega) (by omega),kj hg hr h.n1 (by omega) (by omega),kj hg hr h.n2 (by omega) (by omega)⟩
theorem zj5{s:ByteArray}(h:(xP s.data.toList).2=0):∀c,c∈s.data.toList->ju c=true:=by
 intro c hc;unfold xP at h;split at h
 ·cases h
 ·cases hf:xL (fun c=> !ju c) s.data.toList with
  |some i=>rw[hf] at h;cases h
  |none=>
   have:∀(l:List UInt8),xL (fun c=> !ju c) l=none->∀c∈l,ju c=true:=by
    intro l;induction l with
    |nil=>intro _ c hc;cases hc
    |cons d l ih=>
     intro h c hc;simp only[xL] at h;split at h
     ·cases h
     ·rename_i hd;rcases pS.1 hc with rfl|hc
      ·simpa using hd
      ·exact ih (by cases hx:xL (fun c=> !ju c) l with
        |none=>rfl
        |some x=>rw[hx] at h;cases h) c hc
   exact this _ hf c hc
theorem zlP{w W1:World}(h:Below (((w.alloc (.cells #[.slice none 0 0] 52 (0,0))).alloc (.cells #[.int .i64 0] 3 (0,0))).alloc (.cells #[.int .i64 0] 27 (0,0))).heap.size (((w.alloc (.cells #[.slice none 0 0] 52 (0,0))).alloc (.cells #[.int .i64 0] 3 (0,0))).alloc (.cells #[.int .i64 0] 27 (0,0))) W1):
 W1.heap[w.heap.size]? =some (.cells #[.slice none 0 0] 52 (0,0))/\W1.heap[w.heap.size+1]? =some (.cells #[.int .i64 0] 3 (0,0))/\W1.heap[w.heap.size+1+1]? =some (.cells #[.int .i64 0] 27 (0,0))/\Below w.heap.size w W1:=
 ⟨zi h (xN _ (xN _ (zl _ _))),zi h (xN _ (qe _ _ _ (by simp))),zi h (qe _ _ _ (by simp)),zf (yc (yc (zg _ _) _) _) h⟩
theorem zaP{w W:World}{v:Value}{a e:Nat}{r:List xQ×Nat×Nat}(hb:Below w.heap.size w W)(h0:W.heap[w.heap.size]? =some (.cells #[v] 52 (0,0)))(h1:W.heap[w.heap.size+1]? =some (.cells #[.int .i64 0] 3 (0,0)))(h2:W.heap[w.heap.size+1+1]? =some (.cells #[.int .i64 0] 27 (0,0)))(hr:r=([],a,e))(W':World)
 (hW:W'=((W.setCell ⟨w.heap.size,0,none⟩ (.slice none 0 0)).setCell ⟨w.heap.size+1,0,none⟩ (.int .i64 a)).setCell ⟨w.heap.size+1+1,0,none⟩ (.int .i64 e)):KeepsOthers W W'.drew/\LRx w r W'.drew/\KeepsOthers W W'/\LRx w r W':=by
 subst hW hr;have q0:=zo h0 0 (.slice none 0 0);have q1:(W.setCell ⟨w.heap.size,0,none⟩ (.slice none 0 0)).heap[w.heap.size+1]? =_:=(zw (by omega)).trans h1;have q2:(W.setCell ⟨w.heap.size,0,none⟩ (.slice none 0 0)).heap[w.heap.size+1+1]? =_:=(zw (by omega)).trans h2;have r0:=(zw (b:=w.heap.size+1) (i:=0) (v:=.int .i64 a) (by omega)).trans q0;have r1:=zo q1 0 (.int .i64 a);have r2:=(zw (b:=w.heap.size+1) (i:=0) (v:=.int .i64 a) (by omega)).trans q2;have s0:=(zw (b:=w.heap.size+1+1) (i:=0) (v:=.int .i64 e) (by omega)).trans r0;have s1:=(zw (b:=w.heap.size+1+1) (i:=0) (v:=.int .i64 e) (by omega)).trans r1;have s2:=zo r2 0 (.int .i64 e);have kk:=((KeepsOthers.setCell W ⟨w.heap.size,0,none⟩ (.slice none 0 0)).trans (KeepsOthers.setCell _ ⟨w.heap.size+1,0,none⟩ (.int .i64 a))).trans (KeepsOthers.setCell _ ⟨w.heap.size+1+1,0,none⟩ (.int .i64 e));have bb:=qo (qo (qo hb w.heap.size 0 (pF _) (.slice none 0 0)) (w.heap.size+1) 0 (by omega) (.int .i64 a)) (w.heap.size+1+1) 0 (by omega) (.int .i64 e);exact⟨⟨kk.size,kk.same⟩,⟨bb.drew,rfl,s0,s1,s2⟩,kk,⟨bb,rfl,s0,s1,s2⟩⟩
theorem qI{W:World}{k l:Nat}{o':Obj}{x:Option Obj}(h:W.heap[k]? =x)(hne:k<l):(W.putObj l o').heap[k]? =x:=(World.putObj_heap_other (by omega)).trans h
def zke(s:ByteArray)(w W1:World)(ca b:Nat)(x:xQ):Act:={tmps:= #[.string s,undef,.pointer (some ⟨w.heap.size,0,none⟩),.pointer (some ⟨w.heap.size+1,0,none⟩),.pointer (some ⟨w.heap.size+1+1,0,none⟩),.int .i64 ca,.int .i64 0,.pointer (some ⟨b,0,none⟩),.tuple #[.int .i64 ca,.int .i64 0],.string s,.tuple #[.int .i64 ca,.int .i64 0],.int .i64 ca,.int .i64 0,.int .i64 0,.bool false,undef,undef,.string s,.pointer (some ⟨W1.heap.size+2,0,none⟩),.func (.func 79) #[.pointer (some ⟨W1.heap.size+2,0,none⟩)] #[],zlL x,undef,undef,undef,undef,undef,undef,undef,undef,undef,undef,undef,undef,undef,undef,undef,undef,undef],defers:=[]}
theorem KpT.below{w0:World}{R:Nat}{W W':World}(hb:Below W.heap.size W W'):KpT w0 R W W':=⟨fun _ _ h=>h.below hb,fun h=>zf h hb⟩
theorem KpT.put{w0:World}{R:Nat}{W:World}{l:Nat}{o o':Obj}(hl:w0.heap.size<=l)(ho:W.heap[l]? =some o)(hc:o.isCells=false):KpT w0 R W (W.putObj l o'):=by
 have key:∀{k:Nat} {cs:Array Value} {T:TypeId} {fr:Nat×Nat},W.heap[k]? =some (.cells cs T fr)->(W.putObj l o').heap[k]? =some (.cells cs T fr):=fun hk=>
  (World.putObj_heap_other (fun e=>by subst e;rw[hk] at ho;cases ho;cases hc)).trans hk
 refine⟨fun s a ⟨wb,sb,h1,h2,h3,h4,h5⟩=>⟨wb,sb,key h1,key h2,key h3,h4,h5⟩,fun hb=>?_⟩;exact jS hb (grownBy_putObj' W l o') (R:=w0.heap.size) (B:=w0.heap.size) (fun r e=>by cases e;exact .inr ⟨hl,o,ho,hc⟩) (pF _) (pF _)
theorem vU.own{W:World}{B:Nat}{v:Value}{pre:List xQ}(h:vU W B v pre)(g:Nat)(hg:v.ownBlock=some g):B<=g/\∃cur,W.heap[g]? =some (.cells cur 66 (0,0)):=by
 obtain⟨_,⟨rfl,_⟩|⟨g',cap,cur,rfl,h1,h2,_⟩⟩:=h
 ·cases hg
 ·cases hg;exact⟨h1,cur,h2⟩
theorem uk{W w2:World}{B:Nat}{v:Value}{pre:List xQ}(htok:vU W B v pre)(o:Obj)(hgrow:(W.alloc o).grownBy w2 v.ownBlock){k:Nat}{o':Obj}(hk:W.heap[k]? =some o')(hne:∀cur,o'≠.cells cur 66 (0,0)):w2.heap[k]? =some o':=by
 refine (hgrow.block k (by have:=(gtA hk);simp;omega) (fun e=>?_)).trans (xN _ hk);obtain⟨_,cur,h⟩:=htok.own k e.symm;rw[hk] at h;cases h;exact hne _ rfl
theorem zkY{w W w2:World}{B R:Nat}{s:List UInt8}{pre:List xQ}{x:xQ}{v v':Value}(hL:LRd w B s pre W)(hR:w.heap.size+2<R)(hRB:R<B)(hv:W.heap[w.heap.size]? =some (.cells #[v] 52 (0,0)))(htok:vU W B v pre)(o:Obj)(hgrow:(W.alloc o).grownBy w2 v.ownBlock)
 (hown:w2.ownsRow B 66 3 v' (pre.length+1) (jn pre ++ qS x)) (hat:∃k,AtP s (pre ++ [x]) k) (hlen:pre.length+1<=1200) (W9:World) (h9:W9=w2.setCell ⟨w.heap.size,0,none⟩ v') :
 KeepsOthers W W9/\KpT w R W W9/\LRd w B s (pre ++ [x]) W9:=by
 subst h9;have hsz:W.heap.size<=w2.heap.size:=by have:=hgrow.size;simp at this;omega
 have hv2:=uk htok o hgrow hv (fun cur e=>by cases e);have hn1:=uk htok o hgrow hL.n1 (fun cur e=>by cases e);have hn2:=uk htok o hgrow hL.n2 (fun cur e=>by cases e);have hb2:Below w.heap.size w w2:=jH (yc hL.below o) (World.ownsRow.alloc (World.ownsRow.mono htok (by omega)) o) hgrow;have cellne:∀{k:Nat} {o':Obj},W.heap[k]? =some o'->(∀cur,o'≠.cells cur 52 (0,0))->k≠w.heap.size:=fun hk hne e=>by
  subst e;rw[hv] at hk;cases hk;exact hne _ rfl
 refine⟨⟨by simp[World.setCell];omega,fun k o' hk ho=>(zw (cellne hk (fun cur e=>by subst e;cases ho))).trans (uk htok o hgrow hk (fun cur e=>by subst e;cases ho))⟩,⟨fun s a ⟨wb,sb,h1,h2,h3,h4,h5⟩=>⟨wb,sb,?_,?_,?_,h4,h5⟩,fun _=>qo hb2 _ _ (pF _) _⟩,⟨hat,by simpa using hlen,by simp[World.setCell];have:=hL.kZ;omega,qo hb2 _ _ (pF _) _,(zw (by omega)).trans hn1,(zw (by omega)).trans hn2,v',zo hv2 0 v',?_⟩⟩
 ·exact (zw (cellne h1 (fun cur e=>by cases e))).trans (uk htok o hgrow h1 (fun cur e=>by cases e))
 ·exact (zw (cellne h2 (fun cur e=>by cases e))).trans (uk htok o hgrow h2 (fun cur e=>by cases e))
 ·exact (zw (cellne h3 (fun cur e=>by cases e))).trans (uk htok o hgrow h3 (fun cur e=>by cases e))
 ·refine vU.snoc (World.ownsRow.kept hown (qM w2 w.heap.size 0 v') ?_);cases hvv:v'.ownBlock with
  |none=>exact .inl rfl
  |some g=>exact .inr fun e=>by have:=(hown.lt g hvv).1;cases e;omega
theorem Qm(s:ByteArray)(w:World)(hs:s.size<=1000000000000)(hG:qG w):
 Calls prog 39 #[.string s] w (ziQ (Lode.jp s.data.toList) w):=by
 generalize hr:Lode.jp s.data.toList=r;have Hr:=zj hr;clear hr;have Hc:=zj (fun w=>zgI s w (by omega));generalize hc:xP s.data.toList=c at *;obtain⟨ca,ce⟩:=c;have Hcc:=zj hc;clear hc;obtain⟨i0,hi,hz0,hz1,hz2⟩:=info_parts Tryz.infoTok;have Hi:=zj (And.intro hi (And.intro hz0 (And.intro hz1 hz2)));clear hi hz0 hz1 hz2;have HG:=zj hG;clear hG;refine (callsIn_wide (n:=5)).1 ?_;refine callsIn_of_wp_marks func39 rfl trivial ?_ rfl;simp only[ntmps39,List.size_toArray,pN,wC,Nat.reduceAdd,Nat.reduceSub,Array.replicate_succ,Array.replicate_zero,List.push_toArray,List.append_toArray,wP,wG];by_cases he:ce=0
 ·subst he;have hBs:=zj (zj5 (s:=s) (by rw[Hcc.out]))
  gi_wp2_with (first
   |(refine⟨trivial,?_⟩;gi_at_call 77;refine (callsIn_wide.2 (Hc.out _)).mono ?_;rintro e W1 ⟨rfl,hb1⟩;obtain⟨m0,m1,m2,hbw1⟩:=zlP hb1)
   |(refine⟨trivial,?_⟩;gi_at_call 78;refine (callsIn_wide.2 (Vk s W1 (HG.out.later hbw1))).mono ?_;rintro e W2 ⟨rfl,hrd,hb2⟩))
  have hbw2:=zf hbw1 hb2;have hs1:=hb1.size;simp only[World.size_alloc] at hs1;have hRlt:W1.heap.size+2<W2.heap.size:=by obtain⟨_,_,h,_⟩:=hrd;exact (gtA h)
  have m0:=zi hb2 m0;have m1:=zi hb2 m1;have m2:=zi hb2 m2;refine zay rfl (by omega) (gf:=79) (la:= #[.pointer (some ⟨W1.heap.size+2,0,none⟩)]) (lb:= #[]) rfl trivial (enters_of func79 (by kernel_rfl) rfl)
   (zc9 (W1.heap.size+2) s w W2 hs hBs.out HG.out hbw2 (by omega) hrd _ (by omega)) hRlt KpT.trans (fun W l o o' hl ho hc=>KpT.put (by omega) ho hc)
   (LRd w W2.heap.size s.data.toList) (fun c _ W=>c=.ret/\LRx w r W) (LRd.own w _ _ _ (by omega) hRlt) (fun c=>LRx.own w _ _ r (by omega) hRlt c .ret)
   ⟨⟨_,.start⟩,by simp,pF _,hbw2,m1,m2,_,m0,World.ownsRow_nil _ _ _ _⟩
   (fun pre x a' W=>∃b,LRd w W2.heap.size s.data.toList pre W/\W2.heap.size<=b/\W.heap[b]? =some (.cells #[.int .u8 x.kind,.string ⟨x.text.toArray⟩,.int .i64 x.at_] 66 (0,0))/\a'=zke s w W1 ca b x)
   (fun pre x a' W l o o' ⟨b,h1,h2,h3,h4⟩ hl ho hc=>⟨b,LRd.own w (W1.heap.size+2) _ _ (by omega) hRlt pre W _ (some l) h1 (grownBy_putObj' W l o') (fun r e=>by cases e;exact .inr ⟨hl,o,ho,hc⟩),h2,(World.putObj_heap_other (fun e=>by subst e;rw[h3] at ho;cases ho;cases hc)).trans h3,h4⟩) ?assign ?body ?done ?stop
  case assign=>
   intro l pre x W K hI hG hK
   gi_wp2
   exact hK _ _ (KeepsOthers.alloc _ _) (KpT.below (zg _ _)) ⟨W.heap.size,LRd.own w (W1.heap.size+2) _ _ (by omega) hRlt pre W _ none hI (World.grownBy_alloc W _ none) (fun r e=>by cases e),hI.kZ,zl _ _,rfl⟩
  case body=>
   rintro l pre ⟨kk,t,aa⟩ a' W ⟨b,hL,hb,hx,rfl⟩ ⟨k,hat,hlt,hG⟩;have hrinv:=hat.rinv (by rw[Hcc.out]) hL.len;rw[Hr.out] at hrinv;have c0:W.cell? ⟨b,0,none⟩=some (.int .u8 kk):=zd hx 0;have c1:W.cell? ⟨b,1,none⟩=some (.string ⟨t.toArray⟩):=zd hx 1;have c2:W.cell? ⟨b,2,none⟩=some (.int .i64 aa):=zd hx 2;obtain⟨v,hv,htok⟩:=hL.v;have d0:W.cell? ⟨w.heap.size,0,none⟩=some v:=zd hv 0;have d1:W.cell? ⟨w.heap.size+1,0,none⟩=some (.int .i64 0):=zd hL.n1 0;have d2:W.cell? ⟨w.heap.size+1+1,0,none⟩=some (.int .i64 0):=zd hL.n2 0;have f0:W.frozen? ⟨w.heap.size,0,none⟩=false:=zk hv 0;have f1:W.frozen? ⟨w.heap.size+1,0,none⟩=false:=zk hL.n1 0;have f2:W.frozen? ⟨w.heap.size+1+1,0,none⟩=false:=zk hL.n2 0;unfold zke;rcases hG with⟨ht,hx'⟩|⟨kk',t',m,ht,hx'⟩
   ·simp only[xQ.mk.injEq] at hx';obtain⟨rfl,rfl,rfl⟩:=hx';have He:=zj (hrinv.bad hlt ht);have HL:=zj hL;have Hv:=zj hv;clear hL hrinv hat hv
    gi_wp2
    try gi_region
    all_goals
     gi_wp2
     have h:=zaP HL.out.below Hv.out HL.out.n1 HL.out.n2 He.out _ rfl;exact⟨h.1,rfl,h.2.1⟩
   ·simp only[xQ.mk.injEq] at hx';obtain⟨rfl,rfl,rfl⟩:=hx';have hm:=vu ht;have hkk:((kk:Int) == 0)=false:=bfE (by omega)
    obtain⟨p,cap,rfl⟩:=htok.form;have HL:=zj hL;have Hv:=zj hv;by_cases hL12:pre.length=1200
    ·have He:=zj (hrinv.full hlt ht hL12);clear hL hrinv hat hv
     gi_wp2
     try gi_region
     all_goals
      gi_wp2
      have h:=zaP HL.out.below Hv.out HL.out.n1 HL.out.n2 He.out _ rfl;exact⟨h.1,rfl,h.2.1⟩
    ·have hL':((pre.length:Int) == 1200)=false:=bfE (by omega)
     have hlen:=hL.len;have hbig:=hL.kZ;have hnext:=zj (hat.next hlt ht);clear hL hrinv hat hv
     gi_wp2_with (gi_at_builtin;refine wpListIn_append_own _ rfl _ _ 52 rfl W2.heap.size 66 i0 _ 3 32 underlying52 Hi.out.1 Hi.out.2.1 Hi.out.2.2.1 Hi.out.2.2.2 rfl (by decide) _ _ _ rfl (World.ownsRow.alloc htok _) ⟨W.heap.size,0,none⟩ 1 1 (qS ⟨kk,t,(k:Nat)⟩) rfl rfl ?c1 ?c2 ?c3 ?c4 ?c5 ?_)
     case c1=>exact fun j u h=>h
     case c2=>intro u hu;simp[qS] at hu;rcases hu with rfl|rfl|rfl <;> rfl
     case c3=>unfold maxLen;omega
     case c4=>omega
     case c5=>omega
     ·intro v' w2 hown' hgrow _;obtain⟨g',cap',rfl⟩:=ownsRow_succ hown';have hv2:=uk htok _ hgrow Hv.out (fun cur e=>by cases e);have g0:=zd hv2 0;have gf:=zk hv2 0;have hfin:=zj (zkY HL.out (by omega) hRlt Hv.out htok _ hgrow hown' ⟨_,hnext.out⟩ (by omega) _ rfl);clear hown' hgrow htok hv2 d0 f0
      gi_wp2
      exact hfin.out
  case done=>
   rintro D xs W hS hI hD hK;have hr:r=(xs,0,0):=by
    rcases hS with⟨k,hat,hk⟩|⟨pre,k,rfl⟩
    ·have h:=hat.rinv (by rw[Hcc.out]) hI.len;rw[Hr.out] at h;exact h.done hk
    ·obtain⟨k',hat⟩:=hI.at_;have:=hat.kinds ⟨0,[],(k:Nat)⟩ (by simp);simp at this
   subst hr;obtain⟨v,hv,htok⟩:=hI.v;have d0:W.cell? ⟨w.heap.size,0,none⟩=some v:=zd hv 0;have d1:W.cell? ⟨w.heap.size+1,0,none⟩=some (.int .i64 0):=zd hI.n1 0;have d2:W.cell? ⟨w.heap.size+1+1,0,none⟩=some (.int .i64 0):=zd hI.n2 0;have f0:W.frozen? ⟨w.heap.size,0,none⟩=false:=zk hv 0;have f1:W.frozen? ⟨w.heap.size+1,0,none⟩=false:=zk hI.n1 0;have f2:W.frozen? ⟨w.heap.size+1+1,0,none⟩=false:=zk hI.n2 0;have Hv:=zj hv;have HI:=zj hI;obtain⟨p,cap,rfl⟩:=htok.form;have hsame:=zj (show ((W.setCell ⟨w.heap.size,0,none⟩ (.slice p xs.length cap)).setCell ⟨w.heap.size+1,0,none⟩ (.int .i64 0)).setCell ⟨w.heap.size+1+1,0,none⟩ (.int .i64 0)=W by
    rw[Qa d0,Qa d1,Qa d2])
   clear hI hv hS
   gi_wp2
   rw[hsame.out];have u0:=zd (qI (l:=D) (o':=.deferred none) Hv.out (by omega)) 0;have u1:=zd (qI (l:=D) (o':=.deferred none) HI.out.n1 (by omega)) 0;have u2:=zd (qI (l:=D) (o':=.deferred none) HI.out.n2 (by omega)) 0;refine⟨by simp,.inl ⟨_,_,rfl,run_takeDeferred hK,?_⟩⟩;refine⟨.tuple #[.slice p xs.length cap,.int .i64 0,.int .i64 0],by simp[results,results39,go_sem,u0,u1,u2],?_⟩;refine⟨_,rfl,?_,?_⟩
   ·refine World.ownsRow.mono (World.ownsRow.kept htok (grownBy_putObj' W D _) ?_) (by omega);refine .inr fun e=>?_
    cases p with
    |none=>cases e
    |some a=>
     obtain⟨_,cur,h⟩:=htok.own a.block rfl;cases e;rw[hK] at h;cases h
   ·exact jS HI.out.below (grownBy_putObj' W D _) (R:=D) (B:=D) (fun r e=>by cases e;exact .inl rfl) (by omega) (by omega)
  case stop=>
   rintro D c pre W _ ⟨rfl,hx⟩ hD hK
   gi_wp2
   have u0:=zd (qI (l:=D) (o':=.deferred none) hx.n0 (by omega)) 0;have u1:=zd (qI (l:=D) (o':=.deferred none) hx.n1 (by omega)) 0;have u2:=zd (qI (l:=D) (o':=.deferred none) hx.n2 (by omega)) 0;refine⟨by simp,.inl ⟨_,_,rfl,run_takeDeferred hK,?_⟩⟩;refine⟨.tuple #[.slice none 0 0,.int .i64 r.2.1,.int .i64 r.2.2],by simp[results,results39,go_sem,u0,u1,u2],?_⟩;refine⟨_,rfl,by rw[hx.nil];exact Zy _ _,?_⟩;exact jS hx.below (grownBy_putObj' W D _) (R:=D) (B:=D) (fun r e=>by cases e;exact .inl rfl) (by omega) (by omega)
 ·have he':((ce:Int) != 0)=true:=by simpa using he
  gi_wp2_with (first
   |(refine⟨trivial,?_⟩;gi_at_call 77;refine (callsIn_wide.2 (Hc.out _)).mono ?_;rintro e W1 ⟨rfl,hb1⟩;obtain⟨m0,m1,m2,hbw1⟩:=zlP hb1;have c0:=zd m0 0;have c1:=zd m1 0;have c2:=zd m2 0;have f0:=zk m0 0;have f1:=zk m1 0;have f2:=zk m2 0;have HM:=zj (And.intro m0 (And.intro m1 m2));clear m0 m1 m2))
  have hx:=(zaP hbw1 HM.out.1 HM.out.2.1 HM.out.2.2 (r:=r) (a:=ca) (e:=ce) (by rw[<-Hr.out,Lode.jp,Hcc.out];simp[he]) _ rfl).2.2.2;generalize World.setCell _ ⟨w.heap.size+1+1,0,none⟩ _=W9 at hx ⊢;have u0:=zd hx.n0 0;have u1:=zd hx.n1 0;have u2:=zd hx.n2 0;refine⟨.tuple #[.slice none 0 0,.int .i64 r.2.1,.int .i64 r.2.2],by simp[results,results39,go_sem,u0,u1,u2],?_⟩;exact⟨_,rfl,by rw[hx.nil];exact Zy _ _,hx.below⟩
end
section
open Go.RowKit Lode Go.Shelf
attribute [local go_sem ↓] Go.wp_at_zero Go.wp_at_succ
open Go.Proofs.Tryz
theorem zev(c:UInt8)(w:World)(hc:ju c=true):
 Calls prog 255 #[.int .u8 (c.toNat:Int)] w fun e w'=>e=.returned (.string ⟨(yR c).toArray⟩)/\w'=w:=by
 have h0:(0:Int)<=(c.toNat:Int):=by omega
 have h1:(c.toNat:Int)<=126:=by rcases (Jp c).1 hc with h|h <;> omega
 have he:Utf8.encode (c.toNat:Int)=⟨#[c]⟩:=by
  have hv:Utf8.valid (c.toNat:Int)=true:=by rw[validRune_eq];simp[validRune];omega
  simp only[Utf8.encode,hv,if_true];rw[if_pos (by simp;omega)];simp
 have hw:wrap32 (c.toNat:Int)=c.toNat:=IntWalk.wrap32_in _ ⟨by omega,by omega⟩;clear hc;have q:yR c=if ((c.toNat:Int) == 10)=true then [92,110] else if ((c.toNat:Int) == 34)=true then [92,34] else if ((c.toNat:Int) == 92)=true then [92,92] else [c]:=by
  simp only[pX,c10,c34,c92,yR];by_cases h1:c=10
  ·simp[h1]
  ·by_cases h2:c=34
   ·simp[h2]
   ·by_cases h3:c=92 <;> simp[h1,h2,h3]
 rw[q];clear q;by_cases h10:((c.toNat:Int) == 10)=true
 ·rw[if_pos h10];go_enter func255,ntmps255;go_wp2;go_ret;exact⟨rfl,rfl⟩
 rw[if_neg h10];simp only[Bool.not_eq_true] at h10;by_cases h34:((c.toNat:Int) == 34)=true
 ·rw[if_pos h34];go_enter func255,ntmps255;go_wp2;go_ret;have e34:c=34:=(c34 _).mp (by simpa using h34);subst e34;exact⟨rfl,rfl⟩
 rw[if_neg h34];simp only[Bool.not_eq_true] at h34;by_cases h92:((c.toNat:Int) == 92)=true
 ·rw[if_pos h92];go_enter func255,ntmps255;go_wp2;go_ret;have e92:c=92:=(c92 _).mp (by simpa using h92);subst e92;exact⟨rfl,rfl⟩
 rw[if_neg h92];simp only[Bool.not_eq_true] at h92;go_enter func255,ntmps255;go_wp2;go_ret;exact⟨rfl,rfl⟩
theorem Bd.writeStr{w0 w:World}{b:Nat}{ob:ByteArray}(h:Bd w0 b ob w)(x:ByteArray)(hs:ob.size+x.size<=2000000000000):
 Calls prog 65 #[.pointer (some ⟨b,0,none⟩),.string x] w fun e w'=>e=.returned (.tuple #[.int .i64 x.size,.nilIface])/\Bd w0 b (ob ++ x) w':=
 (Je w0.heap.size b _ x w h.1 (pQ (Nat.le_of_eq (by rw[Lib.byteCells_length];exact congrArg (· +x.size) (by simp:ob.data.toList.length=ob.size))) (by omega:ob.size+x.size<=140737488355328)) h.2.size).mono fun e w' ⟨h1,h2,h3⟩=>⟨h1,.inr (by
  have e:Lib.byteCells (ob ++ x).data.toList=Lib.byteCells ob.data.toList ++ Lib.strCells x:=by rw[zm];simp[Lib.byteCells,Lib.strCells]
  rw[e];exact h2),h.2.trans h3⟩
theorem YP:∀l:List UInt8,decide (xL (fun c=> !ju c) l=none)=l.all ju
 |[]=>rfl
 |c :: l=>by
  have:=YP l;simp only[xL,List.all_cons];by_cases hc:ju c=true
  ·simp only[hc,Bool.not_true,Bool.false_eq_true,if_false,Bool.true_and,<-this];cases xL (fun c=> !ju c) l <;> simp
  ·simp[hc]
theorem JY(c:UInt8):(⟨(yR c).toArray⟩:ByteArray).size<=2:=Xm c
theorem ziz(x:ByteArray)(l:List UInt8)(h:x.data.toList=l):x=⟨l.toArray⟩:=by subst h;exact ur x
theorem zh9(s:ByteArray)(w:World)(hs:s.size<=1000000000000):
 Calls prog 254 #[.string s,.func (.func 123) #[] #[]] w fun e w'=>e=.returned (.bool (s.data.toList.all ju))/\Below w.heap.size w w':=
 (zj6 s 123 #[] ju w (zff w) (by omega)).mono fun e w' ⟨h1,h2⟩=>⟨by rw[h1,YP],h2⟩
def zma(s:ByteArray)(w:World)(i:Value)(wr:World):Prop:=
 ∃(k:Nat) (ob:ByteArray),i=.int .i64 k/\k<=s.size/\Bd w w.heap.size ob wr/\ob.data.toList=(s.data.toList.take k).flatMap yR/\ob.size<=2*k
theorem Kk(s:ByteArray)(w:World)(hs:s.size<=1000000000000):
 Calls prog 224 #[.string s] w fun e w'=>e=.returned (.tuple #[.string ⟨(xr s.data.toList).1.toArray⟩,.int .i64 (xr s.data.toList).2])/\Below w.heap.size w w':=by
 generalize hr:xr s.data.toList=r;have Hr:=zj hr;clear hr;by_cases h60:60<s.size
 ·have e:r=([],5):=by rw[<-Hr.out,xr,if_pos (by simpa using h60)]
  subst e;go_enter func224,ntmps224;go_wp2;go_ret2;exact⟨rfl,pE _ _⟩
 have HA:=zj (zh9 s w (by omega));cases hall:s.data.toList.all ju with
 |false=>
  have e:r=([],4):=by rw[<-Hr.out,xr,if_neg (by simpa using h60),if_neg (by simp[hall])]
  subst e;rw[hall] at HA;go_enter func224,ntmps224;go_wp2_with (go_at_call 254;refine HA.out.mono ?_;rintro e w1 ⟨rfl,hb1⟩);go_ret2;exact⟨rfl,hb1⟩
 |true=>
  have hB:Hid (∀(k:Nat) (h:k<s.size),ju s[k]=true):=zj (fun k h=>by
   rw[pZ] at hall;exact hall _ (by rw[show s[k]=s.data.toList[k]'(by simpa using h) by simp;rfl];exact wF _))
  have Hr2:=zj (show r=(34 :: s.data.toList.flatMap yR ++ [34],0) by rw[<-Hr.out,xr,if_neg (by simpa using h60),if_pos hall];rfl);rw[hall] at HA;clear hall;go_enter func224,ntmps224;go_wp2_with (go_at_call 254;refine HA.out.mono ?_;rintro e w1 ⟨rfl,hb1⟩);go_loopw [16] (zma s w1) (fun i _=>s.size-(intOf i).toNat)
  case atStart=>exact⟨0,ByteArray.empty,rfl,by omega,Bd.fresh w1 _ rfl,by simp,by decide⟩
  case round=>
   obtain⟨k,ob,rfl,hk,hb,hob,hsz⟩:=hrel;have Hob:=zj hob;clear hob;by_cases hlt:k<s.size
   ·have hE:=zj (fun w=>zev s[k] w (hB.out k hlt));have hq2:=JY s[k];have hW:=zj (hb.writeStr ⟨(yR s[k]).toArray⟩ (by omega));go_wp2_with (first
     |(go_at_call 255;refine (hE.out _).mono ?_;rintro e w' ⟨rfl,rfl⟩)
     |(go_at_call 65;refine hW.out.mono ?_;rintro e w2 ⟨rfl,hb2⟩))
    go_roundw
    case rel=>exact⟨k+1,_,by go_num,by omega,hb2,by rw[zm,Hob.out,JJ s k hlt];simp,by rw[ByteArray.size_append];omega⟩
    case measure=>simp[intOf];omega
   ·have hf:Hid (r=(34 :: ob.data.toList ++ [34],0)):=zj (by rw[Hr2.out,Hob.out,List.take_of_length_le (by simp;omega)]);go_wp2_with (go_at_call 67;refine hb.str.mono ?_;rintro e w2 ⟨rfl,hf2⟩);go_ret2;refine⟨?_,zf hb1 hf2.2⟩;rw[hf.out,ziz (⟨#[34]⟩ ++ ob ++ ⟨#[34]⟩) (34 :: ob.data.toList ++ [34]) (by rw[zm,zm];rfl)];rfl
end
end Go.Proofs.YtcagibbaeageoaaGreatDoor
namespace Lode
def xB(k:Nat)(t:List UInt8):List UInt8×Nat:=
 if k=4 then (if (xr t).2=0 then ((xr t).1,0) else ([],4)) else
 if (jp t).1=[⟨k,t,0⟩]/\(jp t).2.2=0 then (t,0) else ([],4)
end Lode
namespace Go.Proofs.YtcagibbaeageoaaGreatDoor
section
open Go.RowKit Lode Go.Shelf
attribute [local go_sem ↓] Go.wp_at_zero Go.wp_at_succ
open Go.Proofs.Tryz
abbrev SV(k:Int)(t:List UInt8)(a:Int)(sp:List UInt8):Value:=.agg #[.int .u8 k,.string ⟨t.toArray⟩,.int .i64 a,.string ⟨sp.toArray⟩]
structure Vq(w W:World)(k:Int)(t:List UInt8)(a:Int)(k':Int)(t':List UInt8)(a':Int)(sp:List UInt8):Prop where
 b:Below w.heap.size w W
 tok:W.heap[w.heap.size]? =some (.cells #[.int .u8 k,.string ⟨t.toArray⟩,.int .i64 a] 66 (0,0))
 out:W.heap[w.heap.size+1]? =some (.cells #[.int .u8 k',.string ⟨t'.toArray⟩,.int .i64 a',.string ⟨sp.toArray⟩] 228 (0,0))
theorem Vq.start(w:World)(k:Int)(t:List UInt8)(a:Int)(k':Int)(t':List UInt8)(a':Int)(sp:List UInt8):Vq w ((w.alloc (.cells #[.int .u8 k,.string ⟨t.toArray⟩,.int .i64 a] 66 (0,0))).alloc (.cells #[.int .u8 k',.string ⟨t'.toArray⟩,.int .i64 a',.string ⟨sp.toArray⟩] 228 (0,0))) k t a k' t' a' sp:=
 ⟨yc (zg _ _) _,xN _ (zl _ _),qe _ _ _ (by simp)⟩
theorem Vq.later{w W W':World}{k:Int}{t:List UInt8}{a:Int}{k':Int}{t':List UInt8}{a':Int}{sp:List UInt8}(h:Vq w W k t a k' t' a' sp)(hb:Below W.heap.size W W'):Vq w W' k t a k' t' a' sp:=⟨zf h.b hb,zi hb h.tok,zi hb h.out⟩
theorem Vq.toks{w W:World}{k:Int}{t:List UInt8}{a:Int}{k':Int}{t':List UInt8}{a':Int}{sp:List UInt8}(h:Vq w W k t a k' t' a' sp):W.cell? ⟨w.heap.size,0,none⟩=some (.int .u8 k)/\W.cell? ⟨w.heap.size,1,none⟩=some (.string ⟨t.toArray⟩)/\W.cell? ⟨w.heap.size,2,none⟩=some (.int .i64 a):=⟨zd h.tok 0,zd h.tok 1,zd h.tok 2⟩
theorem Vq.outs{w W:World}{k:Int}{t:List UInt8}{a:Int}{k':Int}{t':List UInt8}{a':Int}{sp:List UInt8}(h:Vq w W k t a k' t' a' sp):W.cell? ⟨w.heap.size+1,0,none⟩=some (.int .u8 k')/\W.cell? ⟨w.heap.size+1,1,none⟩=some (.string ⟨t'.toArray⟩)/\W.cell? ⟨w.heap.size+1,2,none⟩=some (.int .i64 a')/\W.cell? ⟨w.heap.size+1,3,none⟩=some (.string ⟨sp.toArray⟩)/\
 W.frozen? ⟨w.heap.size+1,0,none⟩=false/\W.frozen? ⟨w.heap.size+1,1,none⟩=false/\W.frozen? ⟨w.heap.size+1,2,none⟩=false/\W.frozen? ⟨w.heap.size+1,3,none⟩=false:=⟨zd h.out 0,zd h.out 1,zd h.out 2,zd h.out 3,zk h.out 0,zk h.out 1,zk h.out 2,zk h.out 3⟩
theorem Vq.sp{w W:World}{k:Int}{t:List UInt8}{a:Int}{k':Int}{t':List UInt8}{a':Int}{sp:List UInt8}(h:Vq w W k t a k' t' a' sp)(sp2:List UInt8):Vq w (W.setCell ⟨w.heap.size+1,3,none⟩ (.string ⟨sp2.toArray⟩)) k t a k' t' a' sp2:=
 ⟨qo h.b _ _ (by omega) _,(zw (by omega)).trans h.tok,zo h.out 3 _⟩
theorem Vq.all{w W:World}{k:Int}{t:List UInt8}{a:Int}{k':Int}{t':List UInt8}{a':Int}{sp:List UInt8}(h:Vq w W k t a k' t' a' sp)(k2:Int)(t2:List UInt8)(a2:Int)(sp2:List UInt8):Vq w ((((W.setCell ⟨w.heap.size+1,0,none⟩ (.int .u8 k2)).setCell ⟨w.heap.size+1,1,none⟩ (.string ⟨t2.toArray⟩)).setCell ⟨w.heap.size+1,2,none⟩ (.int .i64 a2)).setCell ⟨w.heap.size+1,3,none⟩ (.string ⟨sp2.toArray⟩)) k t a k2 t2 a2 sp2:=
 ⟨qo (qo (qo (qo h.b _ _ (by omega) _) _ _ (by omega) _) _ _ (by omega) _) _ _ (by omega) _,(zw (by omega)).trans ((zw (by omega)).trans ((zw (by omega)).trans ((zw (by omega)).trans h.tok))),zo (zo (zo (zo h.out 0 _) 1 _) 2 _) 3 _⟩
def zlt(k:Int)(t:List UInt8)(a:Int)(r:List UInt8×Nat)(w:World)(e:Ending)(w':World):Prop:=
 (r.2=0/\e=.returned (.tuple #[SV k t a r.1,.int .i64 0])\/r.2=4/\e=.returned (.tuple #[SV 0 [] 0 [],.int .i64 4]))/\Below w.heap.size w w'
theorem ze4{w:World}{b:Nat}{v:Value}{k:Nat}{t:List UInt8}{a:Int}(h:vU w b v [⟨k,t,a⟩]):∃g cap,v=.slice (some ⟨g,0,none⟩) 1 cap/\w.cell? ⟨g,0,none⟩=some (.int .u8 k)/\w.cell? ⟨g,1,none⟩=some (.string ⟨t.toArray⟩)/\w.cell? ⟨g,2,none⟩=some (.int .i64 a):=by
 obtain⟨_,⟨_,h⟩|⟨g,cap,cur,rfl,h⟩⟩:=id h
 ·cases h
 ·exact⟨g,cap,rfl,World.ownsRow.cellAt h 0 (by simp),World.ownsRow.cellAt h 1 (by simp),World.ownsRow.cellAt h 2 (by simp)⟩
theorem zd9(k:Nat)(t:List UInt8)(a:Int)(w:World)(hs:t.length<=1000000000000)(hG:qG w):
 Calls prog 252 #[.agg #[.int .u8 k,.string ⟨t.toArray⟩,.int .i64 a]] w (zlt k t a (xB k t) w):=by
 generalize hr:xB k t=r;have Hr:=zj hr;clear hr;have HG:=zj hG;clear hG;by_cases hk:k=4
 ·subst hk;have Hq:=zj (fun w=>Kk ⟨t.toArray⟩ w hs);rw[show (⟨t.toArray⟩:ByteArray).data.toList=t from rfl] at Hq;by_cases h0:(xr t).2=0
  ·have hre:r=((xr t).1,0):=by rw[<-Hr.out,xB,if_pos rfl,if_pos h0]
   generalize xr t=q at *;obtain⟨q1,q2⟩:=q;simp only at h0 hre;subst h0 hre;go_enter func252,ntmps252;go_wp2_with (go_at_call 224;refine (Hq.out _).mono ?_;rintro e w1 ⟨rfl,hb1⟩;have hS:=(Vq.start w _ _ _ _ _ _ _).later hb1;obtain⟨c0,c1,c2,c3,f0,f1,f2,f3⟩:=hS.outs);have hS2:=(hS.sp q1).all 4 t a q1;generalize World.setCell _ ⟨w.heap.size+1,3,none⟩ _=W9 at hS2 ⊢;obtain⟨u0,u1,u2,u3,_⟩:=hS2.outs;refine bodyPost_ret (v:=.tuple #[SV 4 t a q1,.int .i64 0]) (by simp[results,results252,go_sem,u0,u1,u2,u3]) rfl ?_;exact⟨.inl ⟨rfl,rfl⟩,hS2.b⟩
  ·have hre:r=([],4):=by rw[<-Hr.out,xB,if_pos rfl,if_neg h0]
   generalize xr t=q at *;obtain⟨q1,q2⟩:=q;simp only at h0;subst hre;have h0':((q2:Int) != 0)=true:=by rw[gB];omega
   go_enter func252,ntmps252;go_wp2_with (go_at_call 224;refine (Hq.out _).mono ?_;rintro e w1 ⟨rfl,hb1⟩;have hS:=(Vq.start w _ _ _ _ _ _ _).later hb1;obtain⟨c0,c1,c2,c3,f0,f1,f2,f3⟩:=hS.outs);have hS2:=(hS.sp q1).all 0 [] 0 [];generalize World.setCell _ ⟨w.heap.size+1,3,none⟩ (.string ⟨#[]⟩)=W9 at hS2 ⊢;obtain⟨u0,u1,u2,u3,_⟩:=hS2.outs;refine bodyPost_ret (v:=.tuple #[SV 0 [] 0 [],.int .i64 4]) (by simp[results,results252,go_sem,u0,u1,u2,u3]) rfl ?_;exact⟨.inr ⟨rfl,rfl⟩,hS2.b⟩
 ·have hk':((k:Int) == 4)=false:=bfE (by omega)
  have hre:r=if (jp t).1=[⟨k,t,0⟩]/\(jp t).2.2=0 then (t,0) else ([],4):=by rw[<-Hr.out,xB,if_neg hk]
  have HR:=zj (fun (W:World) (hb:Below w.heap.size w W)=>Qm ⟨t.toArray⟩ W hs (HG.out.later hb));rw[show (⟨t.toArray⟩:ByteArray).data.toList=t from rfl] at HR;have hb0:∀o o',Below w.heap.size w ((w.alloc o).alloc o'):=fun o o'=>yc (zg _ _) _
  generalize jp t=x at *;obtain⟨L,xa,xe⟩:=x;by_cases h0:xe=0
  ·subst h0;by_cases h1:L.length=1
   ·obtain⟨⟨k1,t1,a1⟩,rfl⟩:=List.length_eq_one_iff.1 h1;clear h1;by_cases he:k1=k/\t1=t/\a1=0
    ·obtain⟨rfl,rfl,rfl⟩:=he;have hr2:r=(t1,0):=by rw[hre,if_pos ⟨rfl,rfl⟩]
     subst hr2;clear hre;go_enter func252,ntmps252;go_wp2_with (go_at_call 39;refine (HR.out _ (hb0 _ _)).mono ?_;rintro e w1 ⟨v,rfl,htok,hb1⟩;obtain⟨g,cap,rfl,e0,e1,e2⟩:=ze4 htok;have hS:=(Vq.start w _ _ _ _ _ _ _).later hb1;obtain⟨c0,c1,c2,c3,f0,f1,f2,f3⟩:=hS.outs;obtain⟨d0,d1,d2⟩:=hS.toks);go_quiet (fail);have hS3:=(hS.later (ye bR nq)).all k1 t1 a t1;go_wp2_with fail;generalize World.setCell _ ⟨w.heap.size+1,3,none⟩ _=W9 at hS3 ⊢;obtain⟨u0,u1,u2,u3,_⟩:=hS3.outs;refine bodyPost_ret (v:=.tuple #[SV k1 t1 a t1,.int .i64 0]) (by simp[results,results252,go_sem,u0,u1,u2,u3]) rfl ?_;exact⟨.inl ⟨rfl,rfl⟩,hS3.b⟩
    ·have hr2:r=([],4):=by
      rw[hre,if_neg];rintro ⟨e,_⟩;simp only[List.cons.injEq,xQ.mk.injEq,and_true] at e;exact he e
     subst hr2;clear hre;have hne:((k1:Int) == (k:Int))=false\/(k1=k/\t1≠t)\/(k1=k/\t1=t/\(a1 == 0)=false):=by
      by_cases e1:k1=k
      ·by_cases e2:t1=t
       ·exact .inr (.inr ⟨e1,e2,by rw[pA];exact fun e3=>he ⟨e1,e2,e3⟩⟩)
       ·exact .inr (.inl ⟨e1,e2⟩)
      ·exact .inl (bfE (by omega))
     clear he;rcases hne with hne|⟨rfl,hne⟩|⟨rfl,rfl,hne⟩
     all_goals
      go_enter func252,ntmps252;go_wp2_with (go_at_call 39;refine (HR.out _ (hb0 _ _)).mono ?_;rintro e w1 ⟨v,rfl,htok,hb1⟩;obtain⟨g,cap,rfl,e0,e1,e2⟩:=ze4 htok;have hS:=(Vq.start w _ _ _ _ _ _ _).later hb1;obtain⟨c0,c1,c2,c3,f0,f1,f2,f3⟩:=hS.outs;obtain⟨d0,d1,d2⟩:=hS.toks);go_quiet (fail);have hS3:=(hS.later (ye bR nq)).all 0 [] 0 [];go_wp2_with fail;generalize World.setCell _ ⟨w.heap.size+1,3,none⟩ (.string ⟨#[]⟩)=W9 at hS3 ⊢;obtain⟨u0,u1,u2,u3,_⟩:=hS3.outs;refine bodyPost_ret (v:=.tuple #[SV 0 [] 0 [],.int .i64 4]) (by simp[results,results252,go_sem,u0,u1,u2,u3]) rfl ?_;exact⟨.inr ⟨rfl,rfl⟩,hS3.b⟩
   ·have hr2:r=([],4):=by rw[hre,if_neg (fun e=>h1 (by have e1:=e.1;simp only at e1;rw[e1];rfl))]
    subst hr2;have h1':((L.length:Int) != 1)=true:=by rw[gB];omega
    clear hre h1;go_enter func252,ntmps252;go_wp2_with (go_at_call 39;refine (HR.out _ (hb0 _ _)).mono ?_;rintro e w1 ⟨v,rfl,htok,hb1⟩;obtain⟨p,cap,rfl⟩:=htok.form;have hS:=(Vq.start w _ _ _ _ _ _ _).later hb1;obtain⟨c0,c1,c2,c3,f0,f1,f2,f3⟩:=hS.outs;obtain⟨d0,d1,d2⟩:=hS.toks);go_quiet (fail);have hS3:=(hS.later (ye bR nq)).all 0 [] 0 [];go_wp2_with fail;generalize World.setCell _ ⟨w.heap.size+1,3,none⟩ (.string ⟨#[]⟩)=W9 at hS3 ⊢;obtain⟨u0,u1,u2,u3,_⟩:=hS3.outs;refine bodyPost_ret (v:=.tuple #[SV 0 [] 0 [],.int .i64 4]) (by simp[results,results252,go_sem,u0,u1,u2,u3]) rfl ?_;exact⟨.inr ⟨rfl,rfl⟩,hS3.b⟩
  ·have hr2:r=([],4):=by rw[hre,if_neg (fun e=>h0 e.2)]
   subst hr2;have h0':((xe:Int) != 0)=true:=by rw[gB];omega
   clear hre;go_enter func252,ntmps252;go_wp2_with (go_at_call 39;refine (HR.out _ (hb0 _ _)).mono ?_;rintro e w1 ⟨v,rfl,htok,hb1⟩;obtain⟨p,cap,rfl⟩:=htok.form;have hS:=(Vq.start w _ _ _ _ _ _ _).later hb1;obtain⟨c0,c1,c2,c3,f0,f1,f2,f3⟩:=hS.outs;obtain⟨d0,d1,d2⟩:=hS.toks);go_quiet (fail);have hS3:=(hS.later (ye bR nq)).all 0 [] 0 [];go_wp2_with fail;generalize World.setCell _ ⟨w.heap.size+1,3,none⟩ (.string ⟨#[]⟩)=W9 at hS3 ⊢;obtain⟨u0,u1,u2,u3,_⟩:=hS3.outs;refine bodyPost_ret (v:=.tuple #[SV 0 [] 0 [],.int .i64 4]) (by simp[results,results252,go_sem,u0,u1,u2,u3]) rfl ?_;exact⟨.inr ⟨rfl,rfl⟩,hS3.b⟩
theorem zd8(k:Nat)(t:List UInt8):(xB k t).2=0\/(xB k t).2=4:=by
 unfold xB;split
 ·split <;> simp
 ·split <;> simp
theorem zea(k:Nat)(t:List UInt8)(a:Int)(w:World)(hs:t.length<=1000000000000)(hG:qG w):
 Calls prog 213 #[.agg #[.int .u8 k,.string ⟨t.toArray⟩,.int .i64 a]] w fun e w'=>
  e=.returned (.tuple #[.string ⟨(xB k t).1.toArray⟩,.int .i64 (xB k t).2])/\Below w.heap.size w w':=by
 have hbw:=zg w (.cells #[.int .u8 k,.string ⟨t.toArray⟩,.int .i64 a] 66 (0,0));have HS:=zj (zd9 k t a _ hs (hG.later hbw));have he:=zd8 k t;have h4:(xB k t).2=4->(xB k t).1=[]:=by
  unfold xB;split
  ·split
   ·intro h;cases h
   ·intro _;rfl
  ·split
   ·intro h;cases h
   ·intro _;rfl
 clear hG;generalize xB k t=r at *;obtain⟨r1,r2⟩:=r;simp only at he h4;rcases he with rfl|rfl
 ·go_enter func213,ntmps213;go_wp2_with fail;refine (HS.out).mono ?_;rintro e w1 ⟨⟨_,rfl⟩|⟨h,_⟩,hb1⟩
  ·have hb:=zf hbw hb1;go_wp2;go_ret2;exact⟨rfl,yc hb _⟩
  ·cases h
 ·have h4:=h4 rfl;subst h4;go_enter func213,ntmps213;go_wp2_with fail;refine (HS.out).mono ?_;rintro e w1 ⟨⟨h,_⟩|⟨_,rfl⟩,hb1⟩
  ·cases h
  ·have hb:=zf hbw hb1;go_wp2;go_ret2;exact⟨rfl,yc hb _⟩
end
section
open Go.RowKit
open Go.Proofs.Tryz
def AbP{β:Type}(Rs:Nat->Prop)(J:β->World->Prop):Prop:=∀s A B row,J s A->A.grownBy B row->(∀r,row=some r->Rs r)->J s B
def Yf{β:Type}(Rs:Nat->Prop)(B:Nat)(I:β->World->Prop):Prop:=∀s W W' row,I s W->W.grownBy W' row->(∀r,row=some r->Rs r\/(B<=r/\∃o:Obj,W.heap[r]? =some o/\o.isCells=false))->I s W'
theorem Yf.put{β:Type}{Rs:Nat->Prop}{B:Nat}{I:β->World->Prop}(h:Yf Rs B I){s:β}{W:World}{l:Nat}{o:Obj}(o':Obj)(hs:I s W)(hl:W.heap[l]? =some o)(ho:o.isCells=false)(hb:B<=l):I s (W.putObj l o'):=
 h s W _ (some l) hs (grownBy_putObj' W l o') (fun r e=>by cases e;exact .inr ⟨hb,o,hl,ho⟩)
theorem Yf.alloc{β:Type}{Rs:Nat->Prop}{B:Nat}{I:β->World->Prop}(h:Yf Rs B I){s:β}{W:World}(o:Obj)(hs:I s W):I s (W.alloc o):=
 h s W _ none hs (World.grownBy_alloc W o none) (fun r e=>by cases e)
def zgP{α:Type}(F:Fence)(n:Nat)(P:Program)(g:Nat)(la lb:Array Value)(encs:α->Array Value)(Kp:World->World->Prop)(G:List α->α->Prop)(Rs:Nat->Prop)(S Sp:List α->Prop)(w:World):Prop:=
 ∀(l:Nat) (J Jx:List α->World->Prop) (W:World),Below w.heap.size w W->AbP Rs J->AbP Rs Jx->
  (∀pre x W1,J pre W1->G pre x->YieldAt F (n-1) P l (encs x) W1 fun e W'=>
    (e=.returned (.bool true)/\J (pre ++ [x]) W'/\Kp W1 W')\/(e=.returned (.bool false)/\Jx (pre ++ [x]) W'))->
  J [] W->
  CallsIn F n P g (la ++ #[.func (.yield l) #[] #[]] ++ lb) W fun e W'=>(∃v,e=.returned v)/\((∃xs,S xs/\J xs W')\/(∃pre,Sp pre/\Jx pre W'))
variable {F:Fence} {n:Nat} {P:Program}
theorem zaz{α:Type}{g:Operand}{ps:Array Tmp}{assign body:Code}{Q:Exit->Act->World->Prop}{a:Act}{w:World}
 (hro:F.round=none) (h1:1<=n) {gf:Nat} {la lb:Array Value} (hg:a.eval g=.func (.func gf) la lb) (hFg:F.fn gf) (eg:∀args w,(callFunc gf args).run P w=.ok (.enter gf args) w)
 {encs:α->Array Value} {Kp:World->World->Prop} {G:List α->α->Prop} {Rs:Nat->Prop} {S Sp:List α->Prop} (hseq:zgP F (n-1) P gf la lb encs Kp G Rs S Sp w) (hR:∀r,Rs r->r<w.heap.size) (hps:∀x,(encs x).size=ps.size)
 (hKt:∀{A B C:World},Kp A B->Kp B C->Kp A C) (hKb:∀(W:World) (l:Nat) (o o':Obj),w.heap.size<=l->W.heap[l]? =some o->o.isCells=false->Kp W (W.putObj l o'))
 (I:List α->World->Prop) (Ix:Code->List α->World->Prop) (hI:Yf Rs w.heap.size I) (hIx:∀c,Yf Rs w.heap.size (Ix c)) (h0:I [] w) (Ax:List α->α->Act->World->Prop)
 (hAx:∀pre x a' (W:World) (l:Nat) (o o':Obj),Ax pre x a' W->w.heap.size<=l->W.heap[l]? =some o->o.isCells=false->Ax pre x a' (W.putObj l o'))
 (hassign:∀(l:Nat) (pre:List α) (x:α) (W:World) (K:Act->World->Prop),I pre W->G pre x->(∀a' W',KeepsOthers W W'->Kp W W'->Ax pre x a' W'->K a' W')->
   assign.wpIn (F.inRound l) (n-1-1) P (Exit.then K (fun _ _ _=>False)) {tmps:=(ps.zip (encs x)).foldl (fun tmps (t,v)=>tmps.setIfInBounds t v) a.tmps,defers:=[]} W)
 (hbody:∀(l:Nat) (pre:List α) (x:α) (a':Act) (W:World),Ax pre x a' W->G pre x->body.wpIn (F.inRound l) (n-1-1) P (ownPostK Kp I Ix (pre ++ [x]) W) a' W)
 (hdone:∀(D:Nat) (xs:List α) (W:World),S xs->I xs W->w.heap.size<=D->W.heap[D]? =some (.deferred (some []))->Q .normal {a with defers:={target:=.collected D,args:= #[]} :: a.defers} W)
 (hstop:∀(D:Nat) (c:Code) (pre:List α) (W:World),Sp pre->Ix c pre W->w.heap.size<=D->W.heap[D]? =some (.deferred (some []))->c.wpIn F n P Q {a with defers:={target:=.collected D,args:= #[]} :: a.defers} W) :
 (Code.rangeFunc g ps assign body).wpIn F n P Q a w:=by
 refine wpIn_rangeFunc ?_;intro fn hfn;obtain⟨rec,hrec⟩:∃rec:LoopState->Option Code->Loop,rec=fun st pd=>{state:=st,pending:=pd,fn,tmps:=a.tmps,params:=ps,assign,body,defers:=w.heap.size}:=⟨_,rfl⟩
 obtain⟨W1,hW1⟩:∃W1,W1=(w.alloc (.deferred (some []))).alloc (.loop (rec .ready none)):=⟨_,rfl⟩;have sz:W1.heap.size=w.heap.size+2:=by rw[hW1];simp
 have hL1:W1.heap[w.heap.size+1]? =some (.loop (rec .ready none)):=by
  rw[hW1];have:=World.alloc_heap_new (w.alloc (.deferred (some []))) (.loop (rec .ready none));simpa using this
 have hK1:W1.heap[w.heap.size]? =some (.deferred (some [])):=by
  rw[hW1];exact (Below.heap_alloc _ _ _ (by simp)).trans (World.alloc_heap_new w _)
 have hI1:I [] W1:=by rw[hW1];exact hI.alloc _ (hI.alloc _ h0)
 have hb1:Below w.heap.size w W1:=by rw[hW1];exact ((pE _ w).alloc (pF _) _).alloc (by simp) _
 have far:∀{A B:World} {row:Option Nat} {k:Nat} {o:Obj},A.heap[k]? =some o->A.grownBy B row->(∀r,row=some r->Rs r)->w.heap.size<=k->B.heap[k]? =some o:=
  fun hk hg' hr hle=>(hg'.block _ (gtA hk) (fun e=>by have:=hR _ (hr _ e.symm);omega)).trans hk
 refine⟨w.heap.size+1,[{target:=.collected w.heap.size,args:= #[]}],W1,{target:=.fn (.func gf) lb,args:=la ++ #[.func (.yield (w.heap.size+1)) #[] #[]]},W1,gf,
  la ++ #[.func (.yield (w.heap.size+1)) #[] #[]] ++ lb,W1,?_,?_,?_,?_,fun _=>h1,?_⟩
 ·rw[hro,hW1,hrec];exact run_enterLoop_outer _ _ _ _ _
 ·simp only[resolve,hg];simp[go_sem]
 ·intro f' hf';simp[Target.leads] at hf';subst hf';exact hFg
 ·simp[invoke,go_sem,eg]
 refine (hseq (w.heap.size+1)
  (fun pre W=>I pre W/\W.heap[w.heap.size+1]? =some (.loop (rec .ready none))/\W.heap[w.heap.size]? =some (.deferred (some [])))
  (fun pre W=>∃c,Ix c pre W/\W.heap[w.heap.size+1]? =some (.loop (rec .done (some c)))/\W.heap[w.heap.size]? =some (.deferred (some [])))
  W1 hb1
  (fun s A B row hs hg' hr=>⟨hI s A B row hs.1 hg' (fun r e=>.inl (hr r e)),far hs.2.1 hg' hr (by omega),far hs.2.2 hg' hr (by omega)⟩)
  (fun s A B row ⟨c,hc,hl,hk⟩ hg' hr=>⟨c,hIx c s A B row hc hg' (fun r e=>.inl (hr r e)),far hl hg' hr (by omega),far hk hg' hr (by omega)⟩)
  ?_ ⟨hI1,hL1,hK1⟩).mono ?_
 ·rintro pre x W ⟨hi,hl,hk⟩ hG;have hlt:w.heap.size+1<W.heap.size:=(gtA hl);have hy:=run_yield (P:=P) (args:=encs x) hl (by rw[hrec];exact hps x);rw[hrec] at hy;refine⟨fn,_,assign,body,hy,roundIn_of_wpIn hfn (hassign _ pre x W _ hi hG fun a' Wa hka hpa hax=>?_)⟩;have hla:=hka.same _ _ hl rfl;have hkk:=hka.same _ _ hk rfl;have hlta:w.heap.size+1<Wa.heap.size:=(gtA hla);refine⟨_,run_beginRound hla (by rw[hrec]),?_⟩;have hl2:(Wa.putObj (w.heap.size+1) (.loop {rec .ready none with state:=.busy})).heap[w.heap.size+1]? =some (.loop {rec .ready none with state:=.busy}):=World.putObj_heap_same hlta;have hk2:(Wa.putObj (w.heap.size+1) (.loop {rec .ready none with state:=.busy})).heap[w.heap.size]? =some (.deferred (some [])):=(World.putObj_heap_other (by omega)).trans hkk;have hw2:Kp W (Wa.putObj (w.heap.size+1) (.loop {rec .ready none with state:=.busy})):=hKt hpa (hKb _ _ _ _ (by omega) hla rfl);refine wpIn_mono (hbody _ pre x a' _ (hAx _ _ _ _ _ _ _ hax (by omega) hla rfl) hG) ?_;have fin:∀(jump:Option Code) (W3:World),KeepsOthers (Wa.putObj (w.heap.size+1) (.loop {rec .ready none with state:=.busy})) W3->
   (Instr.endRound (w.heap.size+1) jump).run P W3=.ok (.bool jump.isNone) (W3.putObj (w.heap.size+1) (.loop (rec (if jump.isNone then .ready else .done) jump)))/\
   W3.heap[w.heap.size+1]? =some (.loop {rec .ready none with state:=.busy})/\
   (W3.putObj (w.heap.size+1) (.loop (rec (if jump.isNone then .ready else .done) jump))).heap[w.heap.size+1]? =some (.loop (rec (if jump.isNone then .ready else .done) jump))/\
   (W3.putObj (w.heap.size+1) (.loop (rec (if jump.isNone then .ready else .done) jump))).heap[w.heap.size]? =some (.deferred (some [])):=fun jump W3 hk3=>by
   have hl3:=hk3.same _ _ hl2 rfl;have:=run_endRound (P:=P) jump hl3;rw[hrec] at this ⊢;exact⟨this,by rw[hrec] at hl3;exact hl3,World.putObj_heap_same (gtA hl3),(World.putObj_heap_other (by omega)).trans (hk3.same _ _ hk2 rfl)⟩
  rintro e a3 W3 hp;cases e with
  |normal=>
   obtain⟨hk3,hkp3,hi3⟩:=hp;obtain⟨hr,hl3,hl4,hk4⟩:=fin none W3 hk3;exact⟨_,_,hr,.inl ⟨rfl,⟨hI.put _ hi3 hl3 rfl (by omega),hl4,hk4⟩,hKt (hKt hw2 hkp3) (hKb _ _ _ _ (by omega) hl3 rfl)⟩⟩
  |ret=>
   obtain⟨hk3,hi3⟩:=hp;obtain⟨hr,hl3,hl4,hk4⟩:=fin (some .ret) W3 hk3;exact⟨_,_,hr,.inr ⟨rfl,.ret,(hIx _).put _ hi3 hl3 rfl (by omega),hl4,hk4⟩⟩
  |exit id=>
   obtain⟨hk3,hi3⟩:=hp;obtain⟨hr,hl3,hl4,hk4⟩:=fin (some (.exit id)) W3 hk3;exact⟨_,_,hr,.inr ⟨rfl,.exit id,(hIx _).put _ hi3 hl3 rfl (by omega),hl4,hk4⟩⟩
  |goto t=>
   obtain⟨hk3,hi3⟩:=hp;obtain⟨hr,hl3,hl4,hk4⟩:=fin (some (.goto t)) W3 hk3;exact⟨_,_,hr,.inr ⟨rfl,.goto t,(hIx _).put _ hi3 hl3 rfl (by omega),hl4,hk4⟩⟩
  |panic ch=>exact hp.elim
  |outgrown=>exact hp.elim
 ·rintro e W2 ⟨⟨v,rfl⟩,(⟨xs,hS,hi,hl,hk⟩|⟨pre,hSp,c,hi,hl,hk⟩)⟩
  ·exact⟨none,_,by have:=run_endLoop (P:=P) hl (by rw[hrec];simp);rw[hrec] at this;exact this,hdone _ xs _ hS (hI.put _ hi hl rfl (by omega)) (pF _) ((World.putObj_heap_other (by omega)).trans hk)⟩
  ·exact⟨some c,_,by have:=run_endLoop (P:=P) hl (by rw[hrec];simp);rw[hrec] at this;exact this,hstop _ c pre _ hSp ((hIx c).put _ hi hl rfl (by omega)) (pF _) ((World.putObj_heap_other (by omega)).trans hk)⟩
theorem ul{α:Type}{g:Operand}{p0 p1:Tmp}{assign body:Code}{Q:Exit->Act->World->Prop}{a:Act}{w:World}
 (hro:F.round=none) (h1:1<=n) {gf:Nat} {la lb:Array Value} (hg:a.eval g=.func (.func gf) la lb) (hFg:F.fn gf) (eg:∀args w,(callFunc gf args).run P w=.ok (.enter gf args) w)
 {e1 e2:α->Value} {Kp:World->World->Prop} {G:List α->α->Prop} {Rs:Nat->Prop} {S Sp:List α->Prop} (hseq:zgP F (n-1) P gf la lb (fun x=> #[e1 x,e2 x]) Kp G Rs S Sp w) (hR:∀r,Rs r->r<w.heap.size)
 (hKt:∀{A B C:World},Kp A B->Kp B C->Kp A C) (hKb:∀(W:World) (l:Nat) (o o':Obj),w.heap.size<=l->W.heap[l]? =some o->o.isCells=false->Kp W (W.putObj l o'))
 (I:List α->World->Prop) (Ix:Code->List α->World->Prop) (hI:Yf Rs w.heap.size I) (hIx:∀c,Yf Rs w.heap.size (Ix c)) (h0:I [] w) (Ax:List α->α->Act->World->Prop)
 (hAx:∀pre x a' (W:World) (l:Nat) (o o':Obj),Ax pre x a' W->w.heap.size<=l->W.heap[l]? =some o->o.isCells=false->Ax pre x a' (W.putObj l o'))
 (hassign:∀(l:Nat) (pre:List α) (x:α) (W:World) (K:Act->World->Prop),I pre W->G pre x->(∀a' W',KeepsOthers W W'->Kp W W'->Ax pre x a' W'->K a' W')->
   assign.wpIn (F.inRound l) (n-1-1) P (Exit.then K (fun _ _ _=>False)) {tmps:=(a.tmps.setIfInBounds p0 (e1 x)).setIfInBounds p1 (e2 x),defers:=[]} W)
 (hbody:∀(l:Nat) (pre:List α) (x:α) (a':Act) (W:World),Ax pre x a' W->G pre x->body.wpIn (F.inRound l) (n-1-1) P (ownPostK Kp I Ix (pre ++ [x]) W) a' W)
 (hdone:∀(D:Nat) (xs:List α) (W:World),S xs->I xs W->w.heap.size<=D->W.heap[D]? =some (.deferred (some []))->Q .normal {a with defers:={target:=.collected D,args:= #[]} :: a.defers} W)
 (hstop:∀(D:Nat) (c:Code) (pre:List α) (W:World),Sp pre->Ix c pre W->w.heap.size<=D->W.heap[D]? =some (.deferred (some []))->c.wpIn F n P Q {a with defers:={target:=.collected D,args:= #[]} :: a.defers} W) :
 (Code.rangeFunc g #[p0,p1] assign body).wpIn F n P Q a w:=by
 refine zaz hro h1 hg hFg eg hseq hR (fun x=>rfl) hKt hKb I Ix hI hIx h0 Ax hAx (fun l pre x W K h1 h2 h3=>?_) hbody hdone hstop;have ez:((#[p0,p1].zip #[e1 x,e2 x]).foldl (fun tmps (t,v)=>tmps.setIfInBounds t v) a.tmps)=(a.tmps.setIfInBounds p0 (e1 x)).setIfInBounds p1 (e2 x):=by simp
 rw[ez];exact hassign l pre x W K h1 h2 h3
end
end Go.Proofs.YtcagibbaeageoaaGreatDoor
namespace LodeX
section
open Go Go.RowKit Go.Sort
def za5(l:List Oper):Bool:=l.all fun o=>match o.op with
 | .defer _=>false
 |_=>true
theorem zfY{k n:Nat}{P:Program}{row:String}{args:Array Value}{w:World}{R:Value->World->Prop}(h:Rows P row args w R):RowsIn (Fence.wide.inRound k) n P row args w R:=
 fun c cs _=>let ⟨v,w',r,s⟩:=h c cs;⟨v,w',r,stepsIn_wide.2 s⟩
theorem vT{k n:Nat}{P:Program}{f:FuncId}{args:Array Value}{w:World}{R:Ending->World->Prop}(h:Calls P f args w R):CallsIn (Fence.wide.inRound k) n P f args w R:=
 callsIn_wide.2 h
theorem zc3{k n:Nat}{P:Program}{o:Oper}{a:Act}{w:World}{K:Act->World->Prop}{X:Exit->Act->World->Prop}(hd:∀c,o.op≠.defer c)(h:o.wp P a w K X):o.wpIn (Fence.wide.inRound k) n P a w K X:=by
 refine⟨fun _ _=>trivial,?_⟩;rw[show (Fence.wide.inRound k).round=some k from rfl,Oper.semAt_some k _ o hd];unfold Oper.wp at h;generalize (execOp a.eval o).run P w=r at *;cases r with
 |ok x w'=>
  cases x <;> simp only[Oper.upon,Oper.uponIn] at h ⊢ <;>
   first
    |exact h
    |exact⟨fun e=>(by cases e),CallsIn.mono (vT h) (fun e w' he=>by cases e <;> exact he)⟩
    |exact⟨fun e=>(by cases e),zfY h⟩
 |halt x w'=>cases x <;> simp only[Oper.upon,Oper.uponIn] at h ⊢ <;> exact h
theorem uU{k n:Nat}{P:Program}{md:Region.Mode}{l:List Oper}{Q:Exit->Act->World->Prop}(hL:¬LetsOut Q)(hd:za5 l=true):∀(fuel:Nat) (listed:Array Bool) (a:Act) (w:World),wpAny P md l.toArray Q fuel listed a w->wpAnyIn (Fence.wide.inRound k) n P md l.toArray Q fuel listed a w
 |0,_,_,_,h=>h
 |fuel+1,listed,a,w,h=>by
  refine⟨h.1,fun i hi=>?_⟩;have h2:=h.2 i hi;unfold wpOp at h2;unfold wpOpIn;cases ho:l.toArray[i]? with
  |none=>
   rw[ho] at h2;exact uU hL hd fuel _ a w h2
  |some o=>
   rw[ho] at h2;simp only at h2 ⊢;have hdo:∀c,o.op≠.defer c:=fun c e=>by
    rw[pW] at ho;unfold za5 at hd;rw[pZ] at hd;have:=hd o (pM ho);rw[e] at this;cases this
   split
   ·rename_i hw;rw[if_pos hw] at h2;rcases h2 with h2|h2
    ·exact Oper.wpIn_mono (fun a w h=>uU hL hd fuel _ a w h) (zc3 hdo h2)
    ·exact absurd h2.2 hL
   ·rename_i hw;rw[if_neg hw] at h2;exact⟨fun _ _=>trivial,uU hL hd fuel _ _ w h2⟩
theorem ziy{Xp:List PanicEntry->World->Prop}{Q:Act->World->Prop}:¬LetsOut (Yt Xp Q):=fun ⟨_,_,h⟩=>h
theorem Jf{RR:Rel}{Xp:List PanicEntry->World->Prop}{P:Program}{k n id:Nat}{l:List Oper}{Q:Exit->Act->World->Prop}{a:Act}{w:World}(ord:List (Nat×Nat))(hm:P.follows .mixedOrders=true)(hc:jA l.toArray ord=true)(hd:za5 l=true)(hX:∀c a w,a.defers=[]->Xp c w->Q (.panic c) a w)
 (h:jJ RR Xp P l.toArray (Q .normal) ord w.drew a):(Code.region id l.toArray true).wpIn (Fence.wide.inRound k) n P Q a w:=by
 obtain⟨h1,h2,h3⟩:=Yq hc;refine wpIn_mono (wpIn_region_any (Q:=Yt Xp (Q .normal)) hm (uU ziy hd _ _ _ _ (zbo h1 _ ord _ _ w.drew a _ rfl h3 h2 (RR.srefl _) h))) (fun e a w q=>?_);cases e <;> first|exact q|exact hX _ _ _ q.1 q.2|exact q.elim
end
end LodeX
namespace Go.Proofs.YtcagibbaeageoaaGreatDoor
section
open Go.RowKit Lode Go.Shelf
attribute [local go_sem ↓] Go.wp_at_zero Go.wp_at_succ
open Go.Proofs.Tryz
theorem Tryz.infoInt:(prog.info? 3).map (fun i=>(i.zero,i.size,i.bytes))=some (some (.int .i64 0),1,8):=by kernel_rfl
theorem Ql(n:Nat)(hn:n<=1000000)(W:World):(Instr.makeSlice 24 (.int .i64 (n:Int)) (.int .i64 (n:Int))).run prog W=.ok (.slice (some ⟨W.heap.size,0,none⟩) n n) (W.alloc (.cells (List.replicate n (Value.int .i64 0)).toArray 3)):=by
 obtain⟨i0,hi,hz0,hz1,hz2⟩:=info_parts Tryz.infoInt;have h:=run_make (P:=prog) W 24 3 i0 _ underlying24 hi hz0 .i64 .i64 n n (by omega) (Int.le_refl _) (by rw[hz2];omega) (by omega);simp only[pO,hz1,Nat.mul_one] at h;rw[h];congr 3;rw[<-Array.toList_inj];exact toList_madeCells_one _ n
end
end Go.Proofs.YtcagibbaeageoaaGreatDoor
namespace Lode
def Kf(s:List UInt8)(a:Int):(Nat×Nat)×Nat:=if (xP s).2≠0 then ((0,0),(xP s).2) else if a<0\/(s.length:Int)<a then ((0,0),3) else (Vb s a.toNat,0)
end Lode
namespace Go.Proofs.YtcagibbaeageoaaGreatDoor
section
open Go.RowKit Lode Go.Shelf
attribute [local go_sem ↓] Go.wp_at_zero Go.wp_at_succ
open Go.Proofs.Tryz
theorem zgi{s:ByteArray}(hpos:0<s.size):s.toList.isEmpty=false:=by
 rw[ByteArray.toList_eq,List.isEmpty_eq_false_iff];intro e;have h1:s.data.toList.length=0:=by rw[e];rfl
 have h2:s.data.toList.length=s.size:=by simp
 omega
theorem zlj(s:ByteArray)(h:0<s.size):s.data.toList.head? =some s[0]:=by
 have hl:0<s.data.toList.length:=by simpa using h
 rw[List.head?_eq_getElem?,glE hl];simp;rfl
end
section
open Go.RowKit
open Go.Proofs.Tryz
variable {F:Fence} {n:Nat} {P:Program}
theorem YX{α:Type}{g:Operand}{ps:Array Tmp}{assign body:Code}{Q:Exit->Act->World->Prop}{a:Act}{w:World}
 (hro:F.round=none) (h1:1<=n) {gf:Nat} {la lb:Array Value} (hg:a.eval g=.func (.func gf) la lb) (hFg:F.fn gf) (eg:∀args w,(callFunc gf args).run P w=.ok (.enter gf args) w)
 {encs:α->Array Value} {Kp:World->World->Prop} {G:List α->α->Prop} {Rs:Nat->Prop} {S Sp:List α->Prop} (hseq:zgP F (n-1) P gf la lb encs Kp G Rs S Sp w) (hR:∀r,Rs r->r<w.heap.size) (hps:∀x,(encs x).size=ps.size)
 (hKt:∀{A B C:World},Kp A B->Kp B C->Kp A C) (hKb:∀(W:World) (l:Nat) (o:Loop) (o':Obj),w.heap.size<=l->W.heap[l]? =some (.loop o)->Kp W (W.putObj l o'))
 (I:List α->World->Prop) (Ix:Code->List α->World->Prop) (hI:Yf Rs w.heap.size I) (hIx:∀c,Yf Rs w.heap.size (Ix c)) (h0:I [] w) (Ax:List α->α->Act->World->Prop)
 (hAx:∀pre x a' (W:World) (l:Nat) (o o':Obj),Ax pre x a' W->w.heap.size<=l->W.heap[l]? =some o->o.isCells=false->Ax pre x a' (W.putObj l o'))
 (hassign:∀(l:Nat) (pre:List α) (x:α) (W:World) (K:Act->World->Prop),I pre W->G pre x->(∀a' W',KeepsOthers W W'->Kp W W'->Ax pre x a' W'->K a' W')->
   assign.wpIn (F.inRound l) (n-1-1) P (Exit.then K (fun _ _ _=>False)) {tmps:=(ps.zip (encs x)).foldl (fun tmps (t,v)=>tmps.setIfInBounds t v) a.tmps,defers:=[]} W)
 (hbody:∀(l:Nat) (pre:List α) (x:α) (a':Act) (W:World),Ax pre x a' W->G pre x->body.wpIn (F.inRound l) (n-1-1) P (ownPostK Kp I Ix (pre ++ [x]) W) a' W)
 (hdone:∀(D:Nat) (xs:List α) (W:World),S xs->I xs W->w.heap.size<=D->W.heap[D]? =some (.deferred (some []))->Q .normal {a with defers:={target:=.collected D,args:= #[]} :: a.defers} W)
 (hstop:∀(D:Nat) (c:Code) (pre:List α) (W:World),Sp pre->Ix c pre W->w.heap.size<=D->W.heap[D]? =some (.deferred (some []))->c.wpIn F n P Q {a with defers:={target:=.collected D,args:= #[]} :: a.defers} W) :
 (Code.rangeFunc g ps assign body).wpIn F n P Q a w:=by
 refine wpIn_rangeFunc ?_;intro fn hfn;obtain⟨rec,hrec⟩:∃rec:LoopState->Option Code->Loop,rec=fun st pd=>{state:=st,pending:=pd,fn,tmps:=a.tmps,params:=ps,assign,body,defers:=w.heap.size}:=⟨_,rfl⟩
 obtain⟨W1,hW1⟩:∃W1,W1=(w.alloc (.deferred (some []))).alloc (.loop (rec .ready none)):=⟨_,rfl⟩;have sz:W1.heap.size=w.heap.size+2:=by rw[hW1];simp
 have hL1:W1.heap[w.heap.size+1]? =some (.loop (rec .ready none)):=by
  rw[hW1];have:=World.alloc_heap_new (w.alloc (.deferred (some []))) (.loop (rec .ready none));simpa using this
 have hK1:W1.heap[w.heap.size]? =some (.deferred (some [])):=by
  rw[hW1];exact (Below.heap_alloc _ _ _ (by simp)).trans (World.alloc_heap_new w _)
 have hI1:I [] W1:=by rw[hW1];exact hI.alloc _ (hI.alloc _ h0)
 have hb1:Below w.heap.size w W1:=by rw[hW1];exact ((pE _ w).alloc (pF _) _).alloc (by simp) _
 have far:∀{A B:World} {row:Option Nat} {k:Nat} {o:Obj},A.heap[k]? =some o->A.grownBy B row->(∀r,row=some r->Rs r)->w.heap.size<=k->B.heap[k]? =some o:=
  fun hk hg' hr hle=>(hg'.block _ (gtA hk) (fun e=>by have:=hR _ (hr _ e.symm);omega)).trans hk
 refine⟨w.heap.size+1,[{target:=.collected w.heap.size,args:= #[]}],W1,{target:=.fn (.func gf) lb,args:=la ++ #[.func (.yield (w.heap.size+1)) #[] #[]]},W1,gf,
  la ++ #[.func (.yield (w.heap.size+1)) #[] #[]] ++ lb,W1,?_,?_,?_,?_,fun _=>h1,?_⟩
 ·rw[hro,hW1,hrec];exact run_enterLoop_outer _ _ _ _ _
 ·simp only[resolve,hg];simp[go_sem]
 ·intro f' hf';simp[Target.leads] at hf';subst hf';exact hFg
 ·simp[invoke,go_sem,eg]
 refine (hseq (w.heap.size+1)
  (fun pre W=>I pre W/\W.heap[w.heap.size+1]? =some (.loop (rec .ready none))/\W.heap[w.heap.size]? =some (.deferred (some [])))
  (fun pre W=>∃c,Ix c pre W/\W.heap[w.heap.size+1]? =some (.loop (rec .done (some c)))/\W.heap[w.heap.size]? =some (.deferred (some [])))
  W1 hb1
  (fun s A B row hs hg' hr=>⟨hI s A B row hs.1 hg' (fun r e=>.inl (hr r e)),far hs.2.1 hg' hr (by omega),far hs.2.2 hg' hr (by omega)⟩)
  (fun s A B row ⟨c,hc,hl,hk⟩ hg' hr=>⟨c,hIx c s A B row hc hg' (fun r e=>.inl (hr r e)),far hl hg' hr (by omega),far hk hg' hr (by omega)⟩)
  ?_ ⟨hI1,hL1,hK1⟩).mono ?_
 ·rintro pre x W ⟨hi,hl,hk⟩ hG;have hlt:w.heap.size+1<W.heap.size:=(gtA hl);have hy:=run_yield (P:=P) (args:=encs x) hl (by rw[hrec];exact hps x);rw[hrec] at hy;refine⟨fn,_,assign,body,hy,roundIn_of_wpIn hfn (hassign _ pre x W _ hi hG fun a' Wa hka hpa hax=>?_)⟩;have hla:=hka.same _ _ hl rfl;have hkk:=hka.same _ _ hk rfl;have hlta:w.heap.size+1<Wa.heap.size:=(gtA hla);refine⟨_,run_beginRound hla (by rw[hrec]),?_⟩;have hl2:(Wa.putObj (w.heap.size+1) (.loop {rec .ready none with state:=.busy})).heap[w.heap.size+1]? =some (.loop {rec .ready none with state:=.busy}):=World.putObj_heap_same hlta;have hk2:(Wa.putObj (w.heap.size+1) (.loop {rec .ready none with state:=.busy})).heap[w.heap.size]? =some (.deferred (some [])):=(World.putObj_heap_other (by omega)).trans hkk;have hw2:Kp W (Wa.putObj (w.heap.size+1) (.loop {rec .ready none with state:=.busy})):=hKt hpa (hKb _ _ _ _ (by omega) hla);refine wpIn_mono (hbody _ pre x a' _ (hAx _ _ _ _ _ _ _ hax (by omega) hla rfl) hG) ?_;have fin:∀(jump:Option Code) (W3:World),KeepsOthers (Wa.putObj (w.heap.size+1) (.loop {rec .ready none with state:=.busy})) W3->
   (Instr.endRound (w.heap.size+1) jump).run P W3=.ok (.bool jump.isNone) (W3.putObj (w.heap.size+1) (.loop (rec (if jump.isNone then .ready else .done) jump)))/\
   W3.heap[w.heap.size+1]? =some (.loop {rec .ready none with state:=.busy})/\
   (W3.putObj (w.heap.size+1) (.loop (rec (if jump.isNone then .ready else .done) jump))).heap[w.heap.size+1]? =some (.loop (rec (if jump.isNone then .ready else .done) jump))/\
   (W3.putObj (w.heap.size+1) (.loop (rec (if jump.isNone then .ready else .done) jump))).heap[w.heap.size]? =some (.deferred (some [])):=fun jump W3 hk3=>by
   have hl3:=hk3.same _ _ hl2 rfl;have:=run_endRound (P:=P) jump hl3;rw[hrec] at this ⊢;exact⟨this,by rw[hrec] at hl3;exact hl3,World.putObj_heap_same (gtA hl3),(World.putObj_heap_other (by omega)).trans (hk3.same _ _ hk2 rfl)⟩
  rintro e a3 W3 hp;cases e with
  |normal=>
   obtain⟨hk3,hkp3,hi3⟩:=hp;obtain⟨hr,hl3,hl4,hk4⟩:=fin none W3 hk3;exact⟨_,_,hr,.inl ⟨rfl,⟨hI.put _ hi3 hl3 rfl (by omega),hl4,hk4⟩,hKt (hKt hw2 hkp3) (hKb _ _ _ _ (by omega) hl3)⟩⟩
  |ret=>
   obtain⟨hk3,hi3⟩:=hp;obtain⟨hr,hl3,hl4,hk4⟩:=fin (some .ret) W3 hk3;exact⟨_,_,hr,.inr ⟨rfl,.ret,(hIx _).put _ hi3 hl3 rfl (by omega),hl4,hk4⟩⟩
  |exit id=>
   obtain⟨hk3,hi3⟩:=hp;obtain⟨hr,hl3,hl4,hk4⟩:=fin (some (.exit id)) W3 hk3;exact⟨_,_,hr,.inr ⟨rfl,.exit id,(hIx _).put _ hi3 hl3 rfl (by omega),hl4,hk4⟩⟩
  |goto t=>
   obtain⟨hk3,hi3⟩:=hp;obtain⟨hr,hl3,hl4,hk4⟩:=fin (some (.goto t)) W3 hk3;exact⟨_,_,hr,.inr ⟨rfl,.goto t,(hIx _).put _ hi3 hl3 rfl (by omega),hl4,hk4⟩⟩
  |panic ch=>exact hp.elim
  |outgrown=>exact hp.elim
 ·rintro e W2 ⟨⟨v,rfl⟩,(⟨xs,hS,hi,hl,hk⟩|⟨pre,hSp,c,hi,hl,hk⟩)⟩
  ·exact⟨none,_,by have:=run_endLoop (P:=P) hl (by rw[hrec];simp);rw[hrec] at this;exact this,hdone _ xs _ hS (hI.put _ hi hl rfl (by omega)) (pF _) ((World.putObj_heap_other (by omega)).trans hk)⟩
  ·exact⟨some c,_,by have:=run_endLoop (P:=P) hl (by rw[hrec];simp);rw[hrec] at this;exact this,hstop _ c pre _ hSp ((hIx c).put _ hi hl rfl (by omega)) (pF _) ((World.putObj_heap_other (by omega)).trans hk)⟩
end
end Go.Proofs.YtcagibbaeageoaaGreatDoor
