import Derived.Test.YtcagibbaeageoaaGreatDoorSB
import Derived.Shelf.Abstract
import Derived.Shelf.RegionOpen
import Derived.WalkKit
import Derived.OwnWalkIn
import Derived.TacticsInMore
import Derived.LoopNIn
import Derived.LoopIn
import Derived.Deep.Onto
import Derived.Laws.Runes
import Derived.OrdersIn
import Derived.TacticsIn
import Derived.Laws.CopyOwn
import Derived.Laws.MakeOwn
import Derived.Laws.OwnMore
set_option maxRecDepth 100000
set_option maxHeartbeats 0
set_option linter.all false
variable{W W' w w0 w2:Go.World}{row:Option Nat}{B R gf k l n:Nat}{o o':Go.Obj}{s t t':List UInt8}{a a' k':Int}{r:List Lode.yO×Nat×Nat}{x:Option Go.Obj}{pre:List Lode.yO}{ob:ByteArray}{α β:Type}{Rs:Nat->Prop}{g:Go.Operand}{assign body:Go.Code}{Q X:Go.Exit->Go.Act->Go.World->Prop}{args la lb:Array Go.Value}{Kp:Go.World->Go.World->Prop}{P:Go.Program}{K:Go.Act->Go.World->Prop}{Xp:List Go.PanicEntry->Go.World->Prop}{RR:LodeX.Rel}
namespace Go.Proofs.YtcagibbaeageoaaGreatDoor
section
open Go.RowKit Lode Go.Shelf
attribute [local go_sem] Oper.semAt_some
open Go.Proofs.Tryz
def zhL(W2 W3:World)(R k m:Nat)(o:Obj)(hb:Below W2.heap.size W2 W3)(rT:W2.cell? ⟨R,1,none⟩=some (.int .i64 k))(Po:W2.frozen? ⟨R,1,none⟩=false)(aY:R<W2.heap.size):
 ∃W5,(W3.alloc o).setCell ⟨R,1,none⟩ (.int .i64 ((k:Int)+m))=W5/\(W5.cell? ⟨W3.heap.size,0,none⟩=(W3.alloc o).cell? ⟨W3.heap.size,0,none⟩/\W5.cell? ⟨W3.heap.size,1,none⟩=(W3.alloc o).cell? ⟨W3.heap.size,1,none⟩/\W5.cell? ⟨W3.heap.size,2,none⟩=(W3.alloc o).cell? ⟨W3.heap.size,2,none⟩)/\
  (∀o,(W3.alloc o).cell? ⟨R,1,none⟩=some (.int .i64 k))/\(∀o,(W3.alloc o).frozen? ⟨R,1,none⟩=false):=by
 have hs:=hb.size;have ne:W3.heap.size≠R:=by omega
 refine⟨_,rfl,⟨jk ne _ _ _ _,jk ne _ _ _ _,jk ne _ _ _ _⟩,λo=>zl (zg hb (zf W3 o)) rT,λo=>vv (zg hb (zf W3 o)) aY Po⟩
def zoq(w0:World)(R:Nat)(s:ByteArray)(J:List yO->World->Prop)(wr:World):Prop:=
 ∃pre k,AtP s.data.toList pre k/\Rd wr R s k/\Below w0.heap.size w0 wr/\J pre wr
def zeR(R:Nat)(s:ByteArray)(w0 w:World)(hs:s.size<=1000000000000)(hB:∀c,c∈s.data.toList->uK c=true)(hG:jQ w0)(nA:Below w0.heap.size w0 w)(PZ:w0.heap.size<=R)(rs:Rd w R s 0)(n:Nat)(hn:1<=n):
 zot Fence.wide n prog 79 #[.pointer (some ⟨R,0,none⟩)] #[] zn5 (KpT w0 R) (zpe s.data.toList) R (zpb s.data.toList) (λ_=>True) w:=λl J Jx W hW hJ DM hY h0=>by
 have rs:Rd W R s 0:=rs.below hW;have nA:=zg nA (hW.mono (pC _));refine callsIn_of_wp func79 rfl trivial ?_ rfl;simp only[ntmps79,List.size_toArray,pH,pM,Nat.reduceAdd,Nat.reduceSub,Array.replicate_succ,Array.replicate_zero,List.push_toArray,List.append_toArray,pV,pQ,gD];have Hsk:=zh (zgL R s 0 W hs (pU _) rs);have HJ:=zh hJ;clear rs hJ
 gi_wp2_with (refine⟨trivial,?_⟩;gi_at_call 126;refine (callsIn_wide.2 (Hsk.q)).mono ?_;rintro e W1 ⟨rfl,bE,dR⟩)
 gi_loopw [] (λwr=>zoq w0 R s J wr) (λwr=>s.size-zb7 R wr)
 case atStart=>exact⟨[],_,by simpa using AtP.start,by simpa using bE,Yw nA dR PZ,HJ.q _ _ _ _ h0 dR (λr e=>by cases e;rfl)⟩
 case round=>
  obtain⟨pre,k,tM,hr,hb,hj⟩:=hrel;obtain⟨wb,sb,hR,sO,sY,rP,rX⟩:=id hr;have aw:wr.cell? ⟨R,0,none⟩=some (.string s):=zd hR 0;have rT:wr.cell? ⟨R,1,none⟩=some (.int .i64 k):=zd hR 1;have Po:wr.frozen? ⟨R,1,none⟩=false:=zj hR 1;by_cases mD:k<s.size
  ·have me:(k:Int)<(s.size:Int):=by omega
   have RD:k<s.data.toList.length:=by simpa using mD
   have Dh:Below wr.heap.size wr wr.drew:=bR.drew;have RO:=hr.below Dh;have fO:=zg hb Dh;have IA:=HJ.q _ _ _ none hj (Zx Dh none) (λr e=>by cases e);cases ht:xR (s.data.toList.drop k) with
   |none=>
    have HT:=zh (zdZ R s k wr.drew hs hB mD RO (hG.later fO) ht);have HY:=zh (λ(W4:World) (mQ:Below wr.drew.heap.size wr.drew W4)=>hY pre ⟨0,[],(k:Nat)⟩ W4 (HJ.q _ _ _ none IA (Zx mQ none) (λr e=>by cases e)) ⟨k,tM,RD,.inl ⟨ht,rfl⟩⟩);clear hR sO sY
    gi_wp2_with fail
    gi_region
    clear aw rT Po hY;generalize wr.drew=W2 at *;obtain⟨wb,sb,hR,sO,sY,rP,rX⟩:=id RO;have rT:W2.cell? ⟨R,1,none⟩=some (.int .i64 k):=zd hR 1
    gi_wp2_with (refine⟨trivial,?_⟩;gi_at_call 127;refine (callsIn_wide.2 (HT.q)).mono ?_;rintro e W3 ⟨⟨kk,tt,aa,nn,rfl⟩,mU⟩;have hc4:∀o,(W3.alloc o).cell? ⟨R,1,none⟩=some (.int .i64 k):=λo=>zl (zg mU (zf W3 o)) rT;obtain⟨fn,tm,asg,bo,hy,bL⟩:=HY.q (W3.alloc (.cells #[.int .u8 kk,.string tt,.int .i64 aa] 66)) (zg mU (zf _ _));change (Instr.yield l #[.agg #[.int .u8 0,.string ⟨#[]⟩,.int .i64 k]]).run _ _=_ at hy;have bL:=zh bL)
    refine bL.q.mono ?_;rintro e W' (⟨rfl,NI,_⟩|⟨rfl,dF⟩)
    ·gi_wp2
     refine bodyPost_ret (results_none rfl _ _ _) rfl ?_;exact⟨⟨_,rfl⟩,.inl ⟨_,.inr ⟨pre,k,rfl⟩,NI⟩⟩
    ·gi_wp2
     refine bodyPost_ret (results_none rfl _ _ _) rfl ?_;exact⟨⟨_,rfl⟩,.inr ⟨_,trivial,dF⟩⟩
   |some x=>
    obtain⟨kk,t,m⟩:=x;have hm:=ZR ht;simp only[wT,Array.length_toList] at hm;have nX:s.data.size=s.size:=rfl;have HT:=zh (zdX R s k wr.drew hs hB mD RO (hG.later fO) kk t m ht);have HY:=zh (λ(W4:World) (hj4:J pre W4)=>hY pre ⟨kk,t,(k:Nat)⟩ W4 hj4 ⟨k,tM,RD,.inr ⟨kk,t,m,ht,rfl⟩⟩);have aF:=zh (tM.next RD ht);clear hR sO sY
    gi_wp2_with fail
    gi_region
    clear aw rT Po hY;generalize wr.drew=W2 at *;obtain⟨wb,sb,hR,sO,sY,rP,rX⟩:=id RO;have rT:W2.cell? ⟨R,1,none⟩=some (.int .i64 k):=zd hR 1;have Po:W2.frozen? ⟨R,1,none⟩=false:=zj hR 1;clear hR sO sY rP rX;have e1:IntKind.i64.wrap ((k:Int)+m)=k+m:=pF _ (by omega);have aY:=World.block_lt_of_cell? W2 _ rT;have RO:=zh RO;have fO:=zh fO
    gi_wp2_with (refine⟨trivial,?_⟩;gi_at_call 127;refine (callsIn_wide.2 (HT.q)).mono ?_;rintro e W3 ⟨rfl,mU⟩;obtain⟨W5,Li,mK,hc4,hf4⟩:=zhL W2 W3 R k m (.cells #[.int .u8 kk,.string ⟨t.toArray⟩,.int .i64 k] 66) mU rT Po aY;obtain⟨q0,q1,q2⟩:=mK;rw[zd (zk _ _) 0] at q0;rw[zd (zk _ _) 1] at q1;rw[zd (zk _ _) 2] at q2;simp only[pS] at q0 q1 q2;obtain⟨fn,tm,asg,bo,hy,bL⟩:=HY.q W5 (by rw[<-Li];exact HJ.q _ _ _ (some R) (HJ.q _ _ _ none IA (Zx (zg mU (zf _ _)) none) (λr e=>by cases e)) (jq _ R 1 _) (λr e=>by cases e;rfl));change (Instr.yield l #[.agg #[.int .u8 kk,.string ⟨t.toArray⟩,.int .i64 k]]).run _ _=_ at hy;have bL:=zh bL;have GS:=zh Li;have mU:=zh mU)
    refine bL.q.mono ?_;have Er:Rd W5 R s (k+m):=by rw[<-GS.q];exact (RO.q.below (zg mU.q (zf _ _))).step _ _ (by omega)
    have mt:Below w0.heap.size w0 W5:=by rw[<-GS.q];exact Yw (zg fO.q (zg mU.q (zf _ _))) (jq _ R 1 _) PZ
    rintro e W6 (⟨rfl,hJ6,WR⟩|⟨rfl,DN⟩)
    ·have Es:=WR.1 _ _ Er;have nR:=WR.2 mt
     gi_wp2_with (refine⟨trivial,?_⟩;gi_at_call 126;refine (callsIn_wide.2 (zgL R s (k+m) W6 hs (by omega) Es)).mono ?_;rintro e W7 ⟨rfl,Bj,SN⟩)
     go_roundw
     case rel=>exact⟨_,_,aF.q,Bj,Yw nR SN PZ,HJ.q _ _ _ _ hJ6 SN (λr e=>by cases e;rfl)⟩
     case measure=>rw[Bj.pos,hr.pos];omega
    ·gi_wp2
     refine bodyPost_ret (results_none rfl _ _ _) rfl ?_;exact⟨⟨_,rfl⟩,.inr ⟨_,trivial,DN⟩⟩
  ·clear hR sO sY
   gi_wp2_with fail
   gi_region
   gi_wp2
   go_end0;exact⟨⟨_,rfl⟩,.inl ⟨pre,.inl ⟨k,tM,by simpa using mD⟩,HJ.q _ _ _ none hj (Zx (bR.drew) none) (λr e=>by cases e)⟩⟩
structure LRd(w:World)(B:Nat)(s:List UInt8)(pre:List yO)(W:World):Prop where
 at_:∃k,AtP s pre k
 len:pre.length<=1200
 Zn:B<=W.heap.size
 below:Below w.heap.size w W
 n1:W.heap[w.heap.size+1]? =some (.cells #[.int .i64 0] 3 (0,0))
 n2:W.heap[w.heap.size+1+1]? =some (.cells #[.int .i64 0] 27 (0,0))
 v:∃v,W.heap[w.heap.size]? =some (.cells #[v] 52 (0,0))/\Zq W B v pre
structure LRx(w:World)(r:List yO×Nat×Nat)(W:World):Prop where
 below:Below w.heap.size w W
 nil:r.1=[]
 n0:W.heap[w.heap.size]? =some (.cells #[.slice none 0 0] 52 (0,0))
 n1:W.heap[w.heap.size+1]? =some (.cells #[.int .i64 r.2.1] 3 (0,0))
 n2:W.heap[w.heap.size+1+1]? =some (.cells #[.int .i64 r.2.2] 27 (0,0))
def vN(hg:W.grownBy W' row)(hr:∀r,row=some r->r=R\/(B<=r/\∃o:Obj,W.heap[r]? =some o/\o.isCells=false))(hk:W.heap[k]? =some o)(h1:k≠R)(h2:k<B):W'.heap[k]? =some o:=
 (hg.block k (gtA hk) (λe=>by rcases hr k e.symm with h|⟨h,_⟩ <;> omega)).trans hk
def vu(hb:Below w.heap.size w W)(hg:W.grownBy W' row)(hr:∀r,row=some r->r=R\/(B<=r/\∃o:Obj,W.heap[r]? =some o/\o.isCells=false))(h1:w.heap.size<=R)(h2:w.heap.size<=B):Below w.heap.size w W':=
 ⟨hg.os.trans hb.os,hg.tape.trans hb.tape,hg.output.trans hb.output,pN hb.size hg.size,λk hk=>(hg.block k (pX hk hb.size) (λe=>by rcases hr k e.symm with h|⟨h,_⟩ <;> omega)).trans (hb.block k hk)⟩
def LRd.own(w:World)(R B:Nat)(s:List UInt8)(hR:w.heap.size+2<R)(Lc:R<B):zez R B (LRd w B s):=λpre W W' row h hg hr=>by
 obtain⟨h1,h2,h0,h3,h4,h5,v,h6,h7⟩:=h;refine⟨h1,h2,pN h0 hg.size,vu h3 hg hr (by omega) (by omega),vN hg hr h4 (by omega) (by omega),vN hg hr h5 (by omega) (by omega),v,vN hg hr h6 (by omega) (by omega),?_⟩;refine World.ownsRow.kept h7 hg ?_;cases hv:v.ownBlock with
 |none=>exact .inl rfl
 |some b=>
  refine .inr λe=>?_
  have mD:=h7.lt b hv;rcases hr b e.symm with h|⟨_,o,ho,hc⟩
  ·omega
  ·obtain⟨_,⟨rfl,_⟩|⟨g,cap,cur,rfl,_,Pt,_⟩⟩:=h7
   ·cases hv
   ·cases hv;simp only[] at ho;rw[Pt] at ho;cases ho;cases hc
def LRx.own(w:World)(R B:Nat)(r:List yO×Nat×Nat)(hR:w.heap.size+2<R)(Lc:R<B)(c c':Code):zez R B (λ(_:List yO) W=>c=c'/\LRx w r W):=λpre W W' row ⟨hc,h⟩ hg hr=>
 ⟨hc,vu h.below hg hr (by omega) (by omega),h.nil,vN hg hr h.n0 (by omega) (by omega),vN hg hr h.n1 (by omega) (by omega),vN hg hr h.n2 (by omega) (by omega)⟩
def zmc{s:ByteArray}(h:(qF s.data.toList).2=0):∀c,c∈s.data.toList->uK c=true:=by
 intro c hc;unfold qF at h;split at h
 ·cases h
 ·cases hf:qg (λc=> !uK c) s.data.toList with
  |some i=>rw[hf] at h;cases h
  |none=>
   have:∀(l:List UInt8),qg (λc=> !uK c) l=none->∀c∈l,uK c=true:=by
    intro l;induction l with
    |nil=>intro _ c hc;cases hc
    |cons d l ih=>
     intro h c hc;simp only[qg] at h;split at h
     ·cases h
     ·rename_i hd;rcases wI.1 hc with rfl|hc
      ·simpa using hd
      ·exact ih (by cases hx:qg (λc=> !uK c) l with
        |none=>rfl
        |some x=>rw[hx] at h;cases h) c hc
   exact this _ hf c hc
def zob{W1:World}(h:Below (((w.alloc (.cells #[.slice none 0 0] 52 (0,0))).alloc (.cells #[.int .i64 0] 3 (0,0))).alloc (.cells #[.int .i64 0] 27 (0,0))).heap.size (((w.alloc (.cells #[.slice none 0 0] 52 (0,0))).alloc (.cells #[.int .i64 0] 3 (0,0))).alloc (.cells #[.int .i64 0] 27 (0,0))) W1):
 W1.heap[w.heap.size]? =some (.cells #[.slice none 0 0] 52 (0,0))/\W1.heap[w.heap.size+1]? =some (.cells #[.int .i64 0] 3 (0,0))/\W1.heap[w.heap.size+1+1]? =some (.cells #[.int .i64 0] 27 (0,0))/\Below w.heap.size w W1:=
 ⟨zi h (km _ (km _ (zk _ _))),zi h (km _ (qD _ _ _ (by simp))),zi h (qD _ _ _ (by simp)),zg (yt (yt (zf _ _) _) _) h⟩
def zb8{v:Value}{a e:Nat}(hb:Below w.heap.size w W)(h0:W.heap[w.heap.size]? =some (.cells #[v] 52 (0,0)))(h1:W.heap[w.heap.size+1]? =some (.cells #[.int .i64 0] 3 (0,0)))(h2:W.heap[w.heap.size+1+1]? =some (.cells #[.int .i64 0] 27 (0,0)))(hr:r=([],a,e))(W':World)(hW:W'=((W.setCell ⟨w.heap.size,0,none⟩ (.slice none 0 0)).setCell ⟨w.heap.size+1,0,none⟩ (.int .i64 a)).setCell ⟨w.heap.size+1+1,0,none⟩ (.int .i64 e)):KeepsOthers W W'.drew/\LRx w r W'.drew/\KeepsOthers W W'/\LRx w r W':=by
 subst hW hr;have q0:=zt h0 0 (.slice none 0 0);have q1:(W.setCell ⟨w.heap.size,0,none⟩ (.slice none 0 0)).heap[w.heap.size+1]? =_:=(zv (by omega)).trans h1;have q2:(W.setCell ⟨w.heap.size,0,none⟩ (.slice none 0 0)).heap[w.heap.size+1+1]? =_:=(zv (by omega)).trans h2;have r0:=(zv (b:=w.heap.size+1) (i:=0) (v:=.int .i64 a) (by omega)).trans q0;have r1:=zt q1 0 (.int .i64 a);have r2:=(zv (b:=w.heap.size+1) (i:=0) (v:=.int .i64 a) (by omega)).trans q2;have s0:=(zv (b:=w.heap.size+1+1) (i:=0) (v:=.int .i64 e) (by omega)).trans r0;have s1:=(zv (b:=w.heap.size+1+1) (i:=0) (v:=.int .i64 e) (by omega)).trans r1;have s2:=zt r2 0 (.int .i64 e);have kk:=((KeepsOthers.setCell W ⟨w.heap.size,0,none⟩ (.slice none 0 0)).trans (KeepsOthers.setCell _ ⟨w.heap.size+1,0,none⟩ (.int .i64 a))).trans (KeepsOthers.setCell _ ⟨w.heap.size+1+1,0,none⟩ (.int .i64 e));have bb:=qS (qS (qS hb w.heap.size 0 (pC _) (.slice none 0 0)) (w.heap.size+1) 0 (by omega) (.int .i64 a)) (w.heap.size+1+1) 0 (by omega) (.int .i64 e);exact⟨⟨kk.size,kk.same⟩,⟨bb.drew,rfl,s0,s1,s2⟩,kk,⟨bb,rfl,s0,s1,s2⟩⟩
def kh(h:W.heap[k]? =x)(mu:k<l):(W.putObj l o').heap[k]? =x:=(World.putObj_heap_other (by omega)).trans h
def zmm(s:ByteArray)(w W1:World)(ca b:Nat)(x:yO):Act:={tmps:= #[.string s,undef,.pointer (some ⟨w.heap.size,0,none⟩),.pointer (some ⟨w.heap.size+1,0,none⟩),.pointer (some ⟨w.heap.size+1+1,0,none⟩),.int .i64 ca,.int .i64 0,.pointer (some ⟨b,0,none⟩),.tuple #[.int .i64 ca,.int .i64 0],.string s,.tuple #[.int .i64 ca,.int .i64 0],.int .i64 ca,.int .i64 0,.int .i64 0,.bool false,undef,undef,.string s,.pointer (some ⟨W1.heap.size+2,0,none⟩),.func (.func 79) #[.pointer (some ⟨W1.heap.size+2,0,none⟩)] #[],zn5 x,undef,undef,undef,undef,undef,undef,undef,undef,undef,undef,undef,undef,undef,undef,undef,undef,undef],defers:=[]}
theorem KpT.below(hb:Below W.heap.size W W'):KpT w0 R W W':=⟨λ_ _ h=>h.below hb,λh=>zg h hb⟩
def KpT.put(hl:w0.heap.size<=l)(ho:W.heap[l]? =some o)(hc:o.isCells=false):KpT w0 R W (W.putObj l o'):=by
 have key:∀{k:Nat} {cs:Array Value} {T:TypeId} {fr:Nat×Nat},W.heap[k]? =some (.cells cs T fr)->(W.putObj l o').heap[k]? =some (.cells cs T fr):=λhk=>
  (World.putObj_heap_other (λe=>by subst e;rw[hk] at ho;cases ho;cases hc)).trans hk
 refine⟨λs a ⟨wb,sb,h1,h2,h3,h4,h5⟩=>⟨wb,sb,key h1,key h2,key h3,h4,h5⟩,λhb=>?_⟩;exact vu hb (grownBy_putObj' W l o') (R:=w0.heap.size) (B:=w0.heap.size) (λr e=>by cases e;exact .inr ⟨hl,o,ho,hc⟩) (pC _) (pC _)
def Zq.own{v:Value}(h:Zq W B v pre)(g:Nat)(hg:v.ownBlock=some g):B<=g/\∃cur,W.heap[g]? =some (.cells cur 66 (0,0)):=by
 obtain⟨_,⟨rfl,_⟩|⟨g',cap,cur,rfl,h1,h2,_⟩⟩:=h
 ·cases hg
 ·cases hg;exact⟨h1,cur,h2⟩
def ZD{v:Value}(nD:Zq W B v pre)(o:Obj)(mA:(W.alloc o).grownBy w2 v.ownBlock)(hk:W.heap[k]? =some o')(mu:∀cur,o'≠.cells cur 66 (0,0)):w2.heap[k]? =some o':=by
 refine (mA.block k (by have:=(gtA hk);simp;omega) (λe=>?_)).trans (km _ hk);obtain⟨_,cur,h⟩:=nD.own k e.symm;rw[hk] at h;cases h;exact mu _ rfl
def zm9{x:yO}{v v':Value}(hL:LRd w B s pre W)(hR:w.heap.size+2<R)(Lc:R<B)(hv:W.heap[w.heap.size]? =some (.cells #[v] 52 (0,0)))(nD:Zq W B v pre)(o:Obj)(mA:(W.alloc o).grownBy w2 v.ownBlock)(mG:w2.ownsRow B 66 3 v' (pre.length+1) (kf pre ++ jv x))(tM:∃k,AtP s (pre ++ [x]) k)(mV:pre.length+1<=1200)(W9:World)(h9:W9=w2.setCell ⟨w.heap.size,0,none⟩ v'):
 KeepsOthers W W9/\KpT w R W W9/\LRd w B s (pre ++ [x]) W9:=by
 subst h9;have nX:W.heap.size<=w2.heap.size:=by have:=mA.size;simp at this;omega
 have Mi:=ZD nD o mA hv (λcur e=>by cases e);have rW:=ZD nD o mA hL.n1 (λcur e=>by cases e);have aT:=ZD nD o mA hL.n2 (λcur e=>by cases e);have mM:Below w.heap.size w w2:=ZB (yt hL.below o) (World.ownsRow.alloc (World.ownsRow.mono nD (by omega)) o) mA;have cellne:∀{k:Nat} {o':Obj},W.heap[k]? =some o'->(∀cur,o'≠.cells cur 52 (0,0))->k≠w.heap.size:=λhk mu e=>by
  subst e;rw[hv] at hk;cases hk;exact mu _ rfl
 refine⟨⟨by simp[World.setCell];omega,λk o' hk ho=>(zv (cellne hk (λcur e=>by subst e;cases ho))).trans (ZD nD o mA hk (λcur e=>by subst e;cases ho))⟩,⟨λs a ⟨wb,sb,h1,h2,h3,h4,h5⟩=>⟨wb,sb,?_,?_,?_,h4,h5⟩,λ_=>qS mM _ _ (pC _) _⟩,⟨tM,by simpa using mV,by simp[World.setCell];have:=hL.Zn;omega,qS mM _ _ (pC _) _,(zv (by omega)).trans rW,(zv (by omega)).trans aT,v',zt Mi 0 v',?_⟩⟩
 ·exact (zv (cellne h1 (λcur e=>by cases e))).trans (ZD nD o mA h1 (λcur e=>by cases e))
 ·exact (zv (cellne h2 (λcur e=>by cases e))).trans (ZD nD o mA h2 (λcur e=>by cases e))
 ·exact (zv (cellne h3 (λcur e=>by cases e))).trans (ZD nD o mA h3 (λcur e=>by cases e))
 ·refine Zq.snoc (World.ownsRow.kept mG (jq w2 w.heap.size 0 v') ?_);cases hvv:v'.ownBlock with
  |none=>exact .inl rfl
  |some g=>exact .inr λe=>by have:=(mG.lt g hvv).1;cases e;omega
def JD(s:ByteArray)(w:World)(hs:s.size<=1000000000000)(hG:jQ w):
 Calls prog 39 #[.string s] w (zkN (Lode.vB s.data.toList) w):=by
 generalize hr:Lode.vB s.data.toList=r;have Hr:=zh hr;clear hr;have Hc:=zh (λw=>ziH s w (by omega));generalize hc:qF s.data.toList=c at *;obtain⟨ca,ce⟩:=c;have Hcc:=zh hc;clear hc;obtain⟨i0,hi,pe,mY,mT⟩:=info_parts Tryz.infoTok;have Hi:=zh (And.intro hi (And.intro pe (And.intro mY mT)));clear hi pe mY mT;have HG:=zh hG;clear hG;refine (callsIn_wide (n:=5)).1 ?_;refine callsIn_of_wp_marks func39 rfl trivial ?_ rfl;simp only[ntmps39,List.size_toArray,pH,pM,Nat.reduceAdd,Nat.reduceSub,Array.replicate_succ,Array.replicate_zero,List.push_toArray,List.append_toArray,pV,pQ];by_cases he:ce=0
 ·subst he;have hBs:=zh (zmc (s:=s) (by rw[Hcc.q]))
  gi_wp2_with (first
   |(refine⟨trivial,?_⟩;gi_at_call 77;refine (callsIn_wide.2 (Hc.q _)).mono ?_;rintro e W1 ⟨rfl,mF⟩;obtain⟨m0,m1,m2,dM⟩:=zob mF)
   |(refine⟨trivial,?_⟩;gi_at_call 78;refine (callsIn_wide.2 (zaI s W1 (HG.q.later dM))).mono ?_;rintro e W2 ⟨rfl,bE,mM⟩))
  have ML:=zg dM mM;have bh:=mF.size;simp only[World.size_alloc] at bh;have aY:W1.heap.size+2<W2.heap.size:=by obtain⟨_,_,h,_⟩:=bE;exact (gtA h)
  have m0:=zi mM m0;have m1:=zi mM m1;have m2:=zi mM m2;refine zbL rfl (by omega) (gf:=79) (la:= #[.pointer (some ⟨W1.heap.size+2,0,none⟩)]) (lb:= #[]) rfl trivial (enters_of func79 (by kernel_rfl) rfl)
   (zeR (W1.heap.size+2) s w W2 hs hBs.q HG.q ML (by omega) bE _ (by omega)) aY KpT.trans (λW l o o' hl ho hc=>KpT.put (by omega) ho hc)
   (LRd w W2.heap.size s.data.toList) (λc _ W=>c=.ret/\LRx w r W) (LRd.own w _ _ _ (by omega) aY) (λc=>LRx.own w _ _ r (by omega) aY c .ret)
   ⟨⟨_,.start⟩,by simp,pC _,ML,m1,m2,_,m0,World.ownsRow_nil _ _ _ _⟩
   (λpre x a' W=>∃b,LRd w W2.heap.size s.data.toList pre W/\W2.heap.size<=b/\W.heap[b]? =some (.cells #[.int .u8 x.kind,.string ⟨x.text.toArray⟩,.int .i64 x.at_] 66 (0,0))/\a'=zmm s w W1 ca b x)
   (λpre x a' W l o o' ⟨b,h1,h2,h3,h4⟩ hl ho hc=>⟨b,LRd.own w (W1.heap.size+2) _ _ (by omega) aY pre W _ (some l) h1 (grownBy_putObj' W l o') (λr e=>by cases e;exact .inr ⟨hl,o,ho,hc⟩),h2,(World.putObj_heap_other (λe=>by subst e;rw[h3] at ho;cases ho;cases hc)).trans h3,h4⟩) ?assign ?body ?done ?stop
  case assign=>
   intro l pre x W K hI hG hK
   gi_wp2
   exact hK _ _ (KeepsOthers.alloc _ _) (KpT.below (zf _ _)) ⟨W.heap.size,LRd.own w (W1.heap.size+2) _ _ (by omega) aY pre W _ none hI (World.grownBy_alloc W _ none) (λr e=>by cases e),hI.Zn,zk _ _,rfl⟩
  case body=>
   rintro l pre ⟨kk,t,aa⟩ a' W ⟨b,hL,hb,hx,rfl⟩ ⟨k,tM,mD,hG⟩;have bF:=tM.rinv (by rw[Hcc.q]) hL.len;rw[Hr.q] at bF;have c0:W.cell? ⟨b,0,none⟩=some (.int .u8 kk):=zd hx 0;have c1:W.cell? ⟨b,1,none⟩=some (.string ⟨t.toArray⟩):=zd hx 1;have c2:W.cell? ⟨b,2,none⟩=some (.int .i64 aa):=zd hx 2;obtain⟨v,hv,nD⟩:=hL.v;have d0:W.cell? ⟨w.heap.size,0,none⟩=some v:=zd hv 0;have d1:W.cell? ⟨w.heap.size+1,0,none⟩=some (.int .i64 0):=zd hL.n1 0;have d2:W.cell? ⟨w.heap.size+1+1,0,none⟩=some (.int .i64 0):=zd hL.n2 0;have f0:W.frozen? ⟨w.heap.size,0,none⟩=false:=zj hv 0;have f1:W.frozen? ⟨w.heap.size+1,0,none⟩=false:=zj hL.n1 0;have f2:W.frozen? ⟨w.heap.size+1+1,0,none⟩=false:=zj hL.n2 0;unfold zmm;rcases hG with⟨ht,aU⟩|⟨kk',t',m,ht,aU⟩
   ·simp only[yO.mk.injEq] at aU;obtain⟨rfl,rfl,rfl⟩:=aU;have He:=zh (bF.bad mD ht);have HL:=zh hL;have Hv:=zh hv;clear hL bF tM hv
    gi_wp2
    try gi_region
    all_goals
     gi_wp2
     have h:=zb8 HL.q.below Hv.q HL.q.n1 HL.q.n2 He.q _ rfl;exact⟨h.1,rfl,h.2.1⟩
   ·simp only[yO.mk.injEq] at aU;obtain⟨rfl,rfl,rfl⟩:=aU;have hm:=ZR ht;have dV:((kk:Int) == 0)=false:=bfE (by omega)
    obtain⟨p,cap,rfl⟩:=nD.form;have HL:=zh hL;have Hv:=zh hv;by_cases TT:pre.length=1200
    ·have He:=zh (bF.full mD ht TT);clear hL bF tM hv
     gi_wp2
     try gi_region
     all_goals
      gi_wp2
      have h:=zb8 HL.q.below Hv.q HL.q.n1 HL.q.n2 He.q _ rfl;exact⟨h.1,rfl,h.2.1⟩
    ·have LT:((pre.length:Int) == 1200)=false:=bfE (by omega)
     have mV:=hL.len;have ac:=hL.Zn;have aF:=zh (tM.next mD ht);clear hL bF tM hv
     gi_wp2_with (gi_at_builtin;refine wpListIn_append_own _ rfl _ _ 52 rfl W2.heap.size 66 i0 _ 3 32 underlying52 Hi.q.1 Hi.q.2.1 Hi.q.2.2.1 Hi.q.2.2.2 rfl (by decide) _ _ _ rfl (World.ownsRow.alloc nD _) ⟨W.heap.size,0,none⟩ 1 1 (jv ⟨kk,t,(k:Nat)⟩) rfl rfl ?c1 ?c2 ?c3 ?c4 ?c5 ?_)
     case c1=>exact λj u h=>h
     case c2=>intro u hu;simp[jv] at hu;rcases hu with rfl|rfl|rfl <;> rfl
     case c3=>unfold maxLen;omega
     case c4=>omega
     case c5=>omega
     ·intro v' w2 nC mA _;obtain⟨g',cap',rfl⟩:=ownsRow_succ nC;have Mi:=ZD nD _ mA Hv.q (λcur e=>by cases e);have g0:=zd Mi 0;have gf:=zj Mi 0;have nZ:=zh (zm9 HL.q (by omega) aY Hv.q nD _ mA nC ⟨_,aF.q⟩ (by omega) _ rfl);clear nC mA nD Mi d0 f0
      gi_wp2
      exact nZ.q
  case done=>
   rintro D xs W hS hI hD hK;have hr:r=(xs,0,0):=by
    rcases hS with⟨k,tM,hk⟩|⟨pre,k,rfl⟩
    ·have h:=tM.rinv (by rw[Hcc.q]) hI.len;rw[Hr.q] at h;exact h.done hk
    ·obtain⟨k',tM⟩:=hI.at_;have:=tM.kinds ⟨0,[],(k:Nat)⟩ (by simp);simp at this
   subst hr;obtain⟨v,hv,nD⟩:=hI.v;have d0:W.cell? ⟨w.heap.size,0,none⟩=some v:=zd hv 0;have d1:W.cell? ⟨w.heap.size+1,0,none⟩=some (.int .i64 0):=zd hI.n1 0;have d2:W.cell? ⟨w.heap.size+1+1,0,none⟩=some (.int .i64 0):=zd hI.n2 0;have f0:W.frozen? ⟨w.heap.size,0,none⟩=false:=zj hv 0;have f1:W.frozen? ⟨w.heap.size+1,0,none⟩=false:=zj hI.n1 0;have f2:W.frozen? ⟨w.heap.size+1+1,0,none⟩=false:=zj hI.n2 0;have Hv:=zh hv;have HI:=zh hI;obtain⟨p,cap,rfl⟩:=nD.form;have AC:=zh (show ((W.setCell ⟨w.heap.size,0,none⟩ (.slice p xs.length cap)).setCell ⟨w.heap.size+1,0,none⟩ (.int .i64 0)).setCell ⟨w.heap.size+1+1,0,none⟩ (.int .i64 0)=W by
    rw[Jr d0,Jr d1,Jr d2])
   clear hI hv hS
   gi_wp2
   rw[AC.q];have u0:=zd (kh (l:=D) (o':=.deferred none) Hv.q (by omega)) 0;have u1:=zd (kh (l:=D) (o':=.deferred none) HI.q.n1 (by omega)) 0;have u2:=zd (kh (l:=D) (o':=.deferred none) HI.q.n2 (by omega)) 0;refine⟨by simp,.inl ⟨_,_,rfl,run_takeDeferred hK,?_⟩⟩;refine⟨.tuple #[.slice p xs.length cap,.int .i64 0,.int .i64 0],by simp[results,results39,go_sem,u0,u1,u2],?_⟩;refine⟨_,rfl,?_,?_⟩
   ·refine World.ownsRow.mono (World.ownsRow.kept nD (grownBy_putObj' W D _) ?_) (by omega);refine .inr λe=>?_
    cases p with
    |none=>cases e
    |some a=>
     obtain⟨_,cur,h⟩:=nD.own a.block rfl;cases e;rw[hK] at h;cases h
   ·exact vu HI.q.below (grownBy_putObj' W D _) (R:=D) (B:=D) (λr e=>by cases e;exact .inl rfl) (by omega) (by omega)
  case stop=>
   rintro D c pre W _ ⟨rfl,hx⟩ hD hK
   gi_wp2
   have u0:=zd (kh (l:=D) (o':=.deferred none) hx.n0 (by omega)) 0;have u1:=zd (kh (l:=D) (o':=.deferred none) hx.n1 (by omega)) 0;have u2:=zd (kh (l:=D) (o':=.deferred none) hx.n2 (by omega)) 0;refine⟨by simp,.inl ⟨_,_,rfl,run_takeDeferred hK,?_⟩⟩;refine⟨.tuple #[.slice none 0 0,.int .i64 r.2.1,.int .i64 r.2.2],by simp[results,results39,go_sem,u0,u1,u2],?_⟩;refine⟨_,rfl,by rw[hx.nil];exact YK _ _,?_⟩;exact vu hx.below (grownBy_putObj' W D _) (R:=D) (B:=D) (λr e=>by cases e;exact .inl rfl) (by omega) (by omega)
 ·have SL:((ce:Int) != 0)=true:=by simpa using he
  gi_wp2_with (first
   |(refine⟨trivial,?_⟩;gi_at_call 77;refine (callsIn_wide.2 (Hc.q _)).mono ?_;rintro e W1 ⟨rfl,mF⟩;obtain⟨m0,m1,m2,dM⟩:=zob mF;have c0:=zd m0 0;have c1:=zd m1 0;have c2:=zd m2 0;have f0:=zj m0 0;have f1:=zj m1 0;have f2:=zj m2 0;have HM:=zh (And.intro m0 (And.intro m1 m2));clear m0 m1 m2))
  have hx:=(zb8 dM HM.q.1 HM.q.2.1 HM.q.2.2 (r:=r) (a:=ca) (e:=ce) (by rw[<-Hr.q,Lode.vB,Hcc.q];simp[he]) _ rfl).2.2.2;generalize World.setCell _ ⟨w.heap.size+1+1,0,none⟩ _=W9 at hx ⊢;have u0:=zd hx.n0 0;have u1:=zd hx.n1 0;have u2:=zd hx.n2 0;refine⟨.tuple #[.slice none 0 0,.int .i64 r.2.1,.int .i64 r.2.2],by simp[results,results39,go_sem,u0,u1,u2],?_⟩;exact⟨_,rfl,by rw[hx.nil];exact YK _ _,hx.below⟩
end
section
open Go.RowKit Lode Go.Shelf
attribute [local go_sem ↓] wp_at_zero wp_at_succ
open Go.Proofs.Tryz
def zgi(c:UInt8)(w:World)(hc:uK c=true):
 Calls prog 255 #[.int .u8 (c.toNat:Int)] w λe w'=>e=.returned (.string ⟨(qk c).toArray⟩)/\w'=w:=by
 have h0:(0:Int)<=(c.toNat:Int):=by omega
 have h1:(c.toNat:Int)<=126:=by rcases (zcF c).1 hc with h|h <;> omega
 have he:Utf8.encode (c.toNat:Int)=⟨#[c]⟩:=by
  have hv:Utf8.valid (c.toNat:Int)=true:=by rw[validRune_eq];simp[validRune];omega
  simp only[Utf8.encode,hv,if_true];rw[if_pos (by simp;omega)];simp
 have hw:wrap32 (c.toNat:Int)=c.toNat:=IntWalk.wrap32_in _ ⟨by omega,by omega⟩;clear hc;have q:qk c=if ((c.toNat:Int) == 10)=true then [92,110] else if ((c.toNat:Int) == 34)=true then [92,34] else if ((c.toNat:Int) == 92)=true then [92,92] else [c]:=by
  simp only[pR,c10,c34,c92,qk];by_cases h1:c=10
  ·simp[h1]
  ·by_cases h2:c=34
   ·simp[h2]
   ·by_cases h3:c=92 <;> simp[h1,h2,h3]
 rw[q];clear q;by_cases mR:((c.toNat:Int) == 10)=true
 ·rw[if_pos mR];go_enter func255,ntmps255;go_wp2;go_ret;exact⟨rfl,rfl⟩
 rw[if_neg mR];simp only[Bool.not_eq_true] at mR;by_cases Rt:((c.toNat:Int) == 34)=true
 ·rw[if_pos Rt];go_enter func255,ntmps255;go_wp2;go_ret;have e34:c=34:=(c34 _).mp (by simpa using Rt);subst e34;exact⟨rfl,rfl⟩
 rw[if_neg Rt];simp only[Bool.not_eq_true] at Rt;by_cases BI:((c.toNat:Int) == 92)=true
 ·rw[if_pos BI];go_enter func255,ntmps255;go_wp2;go_ret;have e92:c=92:=(c92 _).mp (by simpa using BI);subst e92;exact⟨rfl,rfl⟩
 rw[if_neg BI];simp only[Bool.not_eq_true] at BI;go_enter func255,ntmps255;go_wp2;go_ret;exact⟨rfl,rfl⟩
def Bd.writeStr{b:Nat}(h:Bd w0 b ob w)(x:ByteArray)(hs:ob.size+x.size<=2000000000000):
 Calls prog 65 #[.pointer (some ⟨b,0,none⟩),.string x] w λe w'=>e=.returned (.tuple #[.int .i64 x.size,.nilIface])/\Bd w0 b (ob ++ x) w':=
 (Ky w0.heap.size b _ x w h.1 (pN (Nat.le_of_eq (by rw[Lib.byteCells_length];exact congrArg (· +x.size) (by simp:ob.data.toList.length=ob.size))) (by omega:ob.size+x.size<=140737488355328)) h.2.size).mono λe w' ⟨h1,h2,h3⟩=>⟨h1,.inr (by
  have e:Lib.byteCells (ob ++ x).data.toList=Lib.byteCells ob.data.toList ++ Lib.strCells x:=by rw[zu];simp[Lib.byteCells,Lib.strCells]
  rw[e];exact h2),h.2.trans h3⟩
theorem zad:∀l:List UInt8,decide (qg (λc=> !uK c) l=none)=l.all uK
 |[]=>rfl
 |c :: l=>by
  have:=zad l;simp only[qg,List.all_cons];by_cases hc:uK c=true
  ·simp only[hc,Bool.not_true,Bool.false_eq_true,if_false,Bool.true_and,<-this];cases qg (λc=> !uK c) l <;> simp
  ·simp[hc]
def Vz(c:UInt8):(⟨(qk c).toArray⟩:ByteArray).size<=2:=zcb c
def zku(x:ByteArray)(l:List UInt8)(h:x.data.toList=l):x=⟨l.toArray⟩:=by subst h;exact Xl x
def zj9(s:ByteArray)(w:World)(hs:s.size<=1000000000000):
 Calls prog 254 #[.string s,.func (.func 123) #[] #[]] w λe w'=>e=.returned (.bool (s.data.toList.all uK))/\Below w.heap.size w w':=
 (zmd s 123 #[] uK w (zhe w) (by omega)).mono λe w' ⟨h1,h2⟩=>⟨by rw[h1,zad],h2⟩
def zoE(s:ByteArray)(w:World)(i:Value)(wr:World):Prop:=
 ∃(k:Nat) (ob:ByteArray),i=.int .i64 k/\k<=s.size/\Bd w w.heap.size ob wr/\ob.data.toList=(s.data.toList.take k).flatMap qk/\ob.size<=2*k
def VO(s:ByteArray)(w:World)(hs:s.size<=1000000000000):
 Calls prog 224 #[.string s] w λe w'=>e=.returned (.tuple #[.string ⟨(vC s.data.toList).1.toArray⟩,.int .i64 (vC s.data.toList).2])/\Below w.heap.size w w':=by
 generalize hr:vC s.data.toList=r;have Hr:=zh hr;clear hr;by_cases NC:60<s.size
 ·have e:r=([],5):=by rw[<-Hr.q,vC,if_pos (by simpa using NC)]
  subst e;go_enter func224,ntmps224;go_wp2;go_ret2;exact⟨rfl,pG _ _⟩
 have HA:=zh (zj9 s w (by omega));cases mP:s.data.toList.all uK with
 |false=>
  have e:r=([],4):=by rw[<-Hr.q,vC,if_neg (by simpa using NC),if_neg (by simp[mP])]
  subst e;rw[mP] at HA;go_enter func224,ntmps224;go_wp2_with (go_at_call 254;refine HA.q.mono ?_;rintro e w1 ⟨rfl,mF⟩);go_ret2;exact⟨rfl,mF⟩
 |true=>
  have hB:Hid (∀(k:Nat) (h:k<s.size),uK s[k]=true):=zh (λk h=>by
   rw[pY] at mP;exact mP _ (by rw[show s[k]=s.data.toList[k]'(by simpa using h) by simp;rfl];exact wE _))
  have Hr2:=zh (show r=(34 :: s.data.toList.flatMap qk ++ [34],0) by rw[<-Hr.q,vC,if_neg (by simpa using NC),if_pos mP];rfl);rw[mP] at HA;clear mP;go_enter func224,ntmps224;go_wp2_with (go_at_call 254;refine HA.q.mono ?_;rintro e w1 ⟨rfl,mF⟩);go_loopw [16] (zoE s w1) (λi _=>s.size-(intOf i).toNat)
  case atStart=>exact⟨0,ByteArray.empty,rfl,by omega,Bd.fresh w1 _ rfl,by simp,by decide⟩
  case round=>
   obtain⟨k,ob,rfl,hk,hb,bf,nX⟩:=hrel;have Hob:=zh bf;clear bf;by_cases mD:k<s.size
   ·have hE:=zh (λw=>zgi s[k] w (hB.q k mD));have rt:=Vz s[k];have hW:=zh (hb.writeStr ⟨(qk s[k]).toArray⟩ (by omega));go_wp2_with (first
     |(go_at_call 255;refine (hE.q _).mono ?_;rintro e w' ⟨rfl,rfl⟩)
     |(go_at_call 65;refine hW.q.mono ?_;rintro e w2 ⟨rfl,mM⟩))
    go_roundw
    case rel=>exact⟨k+1,_,by go_num,by omega,mM,by rw[zu,Hob.q,zjd s k mD];simp,by rw[ByteArray.size_append];omega⟩
    case measure=>simp[intOf];omega
   ·have hf:Hid (r=(34 :: ob.data.toList ++ [34],0)):=zh (by rw[Hr2.q,Hob.q,List.take_of_length_le (by simp;omega)]);go_wp2_with (go_at_call 67;refine hb.str.mono ?_;rintro e w2 ⟨rfl,fV⟩);go_ret2;refine⟨?_,zg mF fV.2⟩;rw[hf.q,zku (⟨#[34]⟩ ++ ob ++ ⟨#[34]⟩) (34 :: ob.data.toList ++ [34]) (by rw[zu,zu];rfl)];rfl
end
end Go.Proofs.YtcagibbaeageoaaGreatDoor
namespace Lode
def jf(k:Nat)(t:List UInt8):List UInt8×Nat:=
 if k=4 then (if (vC t).2=0 then ((vC t).1,0) else ([],4)) else
 if (vB t).1=[⟨k,t,0⟩]/\(vB t).2.2=0 then (t,0) else ([],4)
end Lode
namespace Go.Proofs.YtcagibbaeageoaaGreatDoor
section
open Go.RowKit Lode Go.Shelf
attribute [local go_sem ↓] wp_at_zero wp_at_succ
open Go.Proofs.Tryz
abbrev SV(k:Int)(t:List UInt8)(a:Int)(sp:List UInt8):Value:=.agg #[.int .u8 k,.string ⟨t.toArray⟩,.int .i64 a,.string ⟨sp.toArray⟩]
structure SpW(w W:World)(k:Int)(t:List UInt8)(a:Int)(k':Int)(t':List UInt8)(a':Int)(sp:List UInt8):Prop where
 b:Below w.heap.size w W
 tok:W.heap[w.heap.size]? =some (.cells #[.int .u8 k,.string ⟨t.toArray⟩,.int .i64 a] 66 (0,0))
 q:W.heap[w.heap.size+1]? =some (.cells #[.int .u8 k',.string ⟨t'.toArray⟩,.int .i64 a',.string ⟨sp.toArray⟩] 228 (0,0))
def SpW.start(w:World)(k:Int)(t:List UInt8)(a:Int)(k':Int)(t':List UInt8)(a':Int)(sp:List UInt8):SpW w ((w.alloc (.cells #[.int .u8 k,.string ⟨t.toArray⟩,.int .i64 a] 66 (0,0))).alloc (.cells #[.int .u8 k',.string ⟨t'.toArray⟩,.int .i64 a',.string ⟨sp.toArray⟩] 228 (0,0))) k t a k' t' a' sp:=
 ⟨yt (zf _ _) _,km _ (zk _ _),qD _ _ _ (by simp)⟩
def SpW.later{k:Int}{sp:List UInt8}(h:SpW w W k t a k' t' a' sp)(hb:Below W.heap.size W W'):SpW w W' k t a k' t' a' sp:=⟨zg h.b hb,zi hb h.tok,zi hb h.q⟩
def SpW.tz{k:Int}{sp:List UInt8}(h:SpW w W k t a k' t' a' sp):W.cell? ⟨w.heap.size,0,none⟩=some (.int .u8 k)/\W.cell? ⟨w.heap.size,1,none⟩=some (.string ⟨t.toArray⟩)/\W.cell? ⟨w.heap.size,2,none⟩=some (.int .i64 a):=⟨zd h.tok 0,zd h.tok 1,zd h.tok 2⟩
def SpW.outs{k:Int}{sp:List UInt8}(h:SpW w W k t a k' t' a' sp):W.cell? ⟨w.heap.size+1,0,none⟩=some (.int .u8 k')/\W.cell? ⟨w.heap.size+1,1,none⟩=some (.string ⟨t'.toArray⟩)/\W.cell? ⟨w.heap.size+1,2,none⟩=some (.int .i64 a')/\W.cell? ⟨w.heap.size+1,3,none⟩=some (.string ⟨sp.toArray⟩)/\
 W.frozen? ⟨w.heap.size+1,0,none⟩=false/\W.frozen? ⟨w.heap.size+1,1,none⟩=false/\W.frozen? ⟨w.heap.size+1,2,none⟩=false/\W.frozen? ⟨w.heap.size+1,3,none⟩=false:=⟨zd h.q 0,zd h.q 1,zd h.q 2,zd h.q 3,zj h.q 0,zj h.q 1,zj h.q 2,zj h.q 3⟩
theorem SpW.sp{w W:World}{k:Int}{t:List UInt8}{a:Int}{k':Int}{t':List UInt8}{a':Int}{sp:List UInt8}(h:SpW w W k t a k' t' a' sp)(As:List UInt8):SpW w (W.setCell ⟨w.heap.size+1,3,none⟩ (.string ⟨As.toArray⟩)) k t a k' t' a' As:=
 ⟨qS h.b _ _ (by omega) _,(zv (by omega)).trans h.tok,zt h.q 3 _⟩
def SpW.all{k:Int}{sp:List UInt8}(h:SpW w W k t a k' t' a' sp)(k2:Int)(t2:List UInt8)(a2:Int)(As:List UInt8):SpW w ((((W.setCell ⟨w.heap.size+1,0,none⟩ (.int .u8 k2)).setCell ⟨w.heap.size+1,1,none⟩ (.string ⟨t2.toArray⟩)).setCell ⟨w.heap.size+1,2,none⟩ (.int .i64 a2)).setCell ⟨w.heap.size+1,3,none⟩ (.string ⟨As.toArray⟩)) k t a k2 t2 a2 As:=
 ⟨qS (qS (qS (qS h.b _ _ (by omega) _) _ _ (by omega) _) _ _ (by omega) _) _ _ (by omega) _,(zv (by omega)).trans ((zv (by omega)).trans ((zv (by omega)).trans ((zv (by omega)).trans h.tok))),zt (zt (zt (zt h.q 0 _) 1 _) 2 _) 3 _⟩
def znN(k:Int)(t:List UInt8)(a:Int)(r:List UInt8×Nat)(w:World)(e:Ending)(w':World):Prop:=
 (r.2=0/\e=.returned (.tuple #[SV k t a r.1,.int .i64 0])\/r.2=4/\e=.returned (.tuple #[SV 0 [] 0 [],.int .i64 4]))/\Below w.heap.size w w'
def zgY{b:Nat}{v:Value}(h:Zq w b v [⟨k,t,a⟩]):∃g cap,v=.slice (some ⟨g,0,none⟩) 1 cap/\w.cell? ⟨g,0,none⟩=some (.int .u8 k)/\w.cell? ⟨g,1,none⟩=some (.string ⟨t.toArray⟩)/\w.cell? ⟨g,2,none⟩=some (.int .i64 a):=by
 obtain⟨_,⟨_,h⟩|⟨g,cap,cur,rfl,h⟩⟩:=id h
 ·cases h
 ·exact⟨g,cap,rfl,World.ownsRow.cellAt h 0 (by simp),World.ownsRow.cellAt h 1 (by simp),World.ownsRow.cellAt h 2 (by simp)⟩
def zfS(k:Nat)(t:List UInt8)(a:Int)(w:World)(hs:t.length<=1000000000000)(hG:jQ w):
 Calls prog 252 #[.agg #[.int .u8 k,.string ⟨t.toArray⟩,.int .i64 a]] w (znN k t a (jf k t) w):=by
 generalize hr:jf k t=r;have Hr:=zh hr;clear hr;have HG:=zh hG;clear hG;by_cases hk:k=4
 ·subst hk;have Hq:=zh (λw=>VO ⟨t.toArray⟩ w hs);rw[show (⟨t.toArray⟩:ByteArray).data.toList=t from rfl] at Hq;by_cases h0:(vC t).2=0
  ·have eW:r=((vC t).1,0):=by rw[<-Hr.q,jf,if_pos rfl,if_pos h0]
   generalize vC t=q at *;obtain⟨q1,q2⟩:=q;simp only at h0 eW;subst h0 eW;go_enter func252,ntmps252;go_wp2_with (go_at_call 224;refine (Hq.q _).mono ?_;rintro e w1 ⟨rfl,mF⟩;have hS:=(SpW.start w _ _ _ _ _ _ _).later mF;obtain⟨c0,c1,c2,c3,f0,f1,f2,f3⟩:=hS.outs);have ME:=(hS.sp q1).all 4 t a q1;generalize World.setCell _ ⟨w.heap.size+1,3,none⟩ _=W9 at ME ⊢;obtain⟨u0,u1,u2,u3,_⟩:=ME.outs;refine bodyPost_ret (v:=.tuple #[SV 4 t a q1,.int .i64 0]) (by simp[results,results252,go_sem,u0,u1,u2,u3]) rfl ?_;exact⟨.inl ⟨rfl,rfl⟩,ME.b⟩
  ·have eW:r=([],4):=by rw[<-Hr.q,jf,if_pos rfl,if_neg h0]
   generalize vC t=q at *;obtain⟨q1,q2⟩:=q;simp only at h0;subst eW;have Rr:((q2:Int) != 0)=true:=by rw[wV];omega
   go_enter func252,ntmps252;go_wp2_with (go_at_call 224;refine (Hq.q _).mono ?_;rintro e w1 ⟨rfl,mF⟩;have hS:=(SpW.start w _ _ _ _ _ _ _).later mF;obtain⟨c0,c1,c2,c3,f0,f1,f2,f3⟩:=hS.outs);have ME:=(hS.sp q1).all 0 [] 0 [];generalize World.setCell _ ⟨w.heap.size+1,3,none⟩ (.string ⟨#[]⟩)=W9 at ME ⊢;obtain⟨u0,u1,u2,u3,_⟩:=ME.outs;refine bodyPost_ret (v:=.tuple #[SV 0 [] 0 [],.int .i64 4]) (by simp[results,results252,go_sem,u0,u1,u2,u3]) rfl ?_;exact⟨.inr ⟨rfl,rfl⟩,ME.b⟩
 ·have rU:((k:Int) == 4)=false:=bfE (by omega)
  have eW:r=if (vB t).1=[⟨k,t,0⟩]/\(vB t).2.2=0 then (t,0) else ([],4):=by rw[<-Hr.q,jf,if_neg hk]
  have HR:=zh (λ(W:World) (hb:Below w.heap.size w W)=>JD ⟨t.toArray⟩ W hs (HG.q.later hb));rw[show (⟨t.toArray⟩:ByteArray).data.toList=t from rfl] at HR;have nA:∀o o',Below w.heap.size w ((w.alloc o).alloc o'):=λo o'=>yt (zf _ _) _
  generalize vB t=x at *;obtain⟨L,xa,xe⟩:=x;by_cases h0:xe=0
  ·subst h0;by_cases h1:L.length=1
   ·obtain⟨⟨k1,t1,a1⟩,rfl⟩:=List.length_eq_one_iff.1 h1;clear h1;by_cases he:k1=k/\t1=t/\a1=0
    ·obtain⟨rfl,rfl,rfl⟩:=he;have mO:r=(t1,0):=by rw[eW,if_pos ⟨rfl,rfl⟩]
     subst mO;clear eW;go_enter func252,ntmps252;go_wp2_with (go_at_call 39;refine (HR.q _ (nA _ _)).mono ?_;rintro e w1 ⟨v,rfl,nD,mF⟩;obtain⟨g,cap,rfl,e0,e1,e2⟩:=zgY nD;have hS:=(SpW.start w _ _ _ _ _ _ _).later mF;obtain⟨c0,c1,c2,c3,f0,f1,f2,f3⟩:=hS.outs;obtain⟨d0,d1,d2⟩:=hS.tz);go_quiet (fail);have bx:=(hS.later (zO bR nq)).all k1 t1 a t1;go_wp2_with fail;generalize World.setCell _ ⟨w.heap.size+1,3,none⟩ _=W9 at bx ⊢;obtain⟨u0,u1,u2,u3,_⟩:=bx.outs;refine bodyPost_ret (v:=.tuple #[SV k1 t1 a t1,.int .i64 0]) (by simp[results,results252,go_sem,u0,u1,u2,u3]) rfl ?_;exact⟨.inl ⟨rfl,rfl⟩,bx.b⟩
    ·have mO:r=([],4):=by
      rw[eW,if_neg];rintro ⟨e,_⟩;simp only[List.cons.injEq,yO.mk.injEq,and_true] at e;exact he e
     subst mO;clear eW;have mu:((k1:Int) == (k:Int))=false\/(k1=k/\t1≠t)\/(k1=k/\t1=t/\(a1 == 0)=false):=by
      by_cases e1:k1=k
      ·by_cases e2:t1=t
       ·exact .inr (.inr ⟨e1,e2,by rw[pB];exact λe3=>he ⟨e1,e2,e3⟩⟩)
       ·exact .inr (.inl ⟨e1,e2⟩)
      ·exact .inl (bfE (by omega))
     clear he;rcases mu with mu|⟨rfl,mu⟩|⟨rfl,rfl,mu⟩
     all_goals
      go_enter func252,ntmps252;go_wp2_with (go_at_call 39;refine (HR.q _ (nA _ _)).mono ?_;rintro e w1 ⟨v,rfl,nD,mF⟩;obtain⟨g,cap,rfl,e0,e1,e2⟩:=zgY nD;have hS:=(SpW.start w _ _ _ _ _ _ _).later mF;obtain⟨c0,c1,c2,c3,f0,f1,f2,f3⟩:=hS.outs;obtain⟨d0,d1,d2⟩:=hS.tz);go_quiet (fail);have bx:=(hS.later (zO bR nq)).all 0 [] 0 [];go_wp2_with fail;generalize World.setCell _ ⟨w.heap.size+1,3,none⟩ (.string ⟨#[]⟩)=W9 at bx ⊢;obtain⟨u0,u1,u2,u3,_⟩:=bx.outs;refine bodyPost_ret (v:=.tuple #[SV 0 [] 0 [],.int .i64 4]) (by simp[results,results252,go_sem,u0,u1,u2,u3]) rfl ?_;exact⟨.inr ⟨rfl,rfl⟩,bx.b⟩
   ·have mO:r=([],4):=by rw[eW,if_neg (λe=>h1 (by have e1:=e.1;simp only at e1;rw[e1];rfl))]
    subst mO;have sa:((L.length:Int) != 1)=true:=by rw[wV];omega
    clear eW h1;go_enter func252,ntmps252;go_wp2_with (go_at_call 39;refine (HR.q _ (nA _ _)).mono ?_;rintro e w1 ⟨v,rfl,nD,mF⟩;obtain⟨p,cap,rfl⟩:=nD.form;have hS:=(SpW.start w _ _ _ _ _ _ _).later mF;obtain⟨c0,c1,c2,c3,f0,f1,f2,f3⟩:=hS.outs;obtain⟨d0,d1,d2⟩:=hS.tz);go_quiet (fail);have bx:=(hS.later (zO bR nq)).all 0 [] 0 [];go_wp2_with fail;generalize World.setCell _ ⟨w.heap.size+1,3,none⟩ (.string ⟨#[]⟩)=W9 at bx ⊢;obtain⟨u0,u1,u2,u3,_⟩:=bx.outs;refine bodyPost_ret (v:=.tuple #[SV 0 [] 0 [],.int .i64 4]) (by simp[results,results252,go_sem,u0,u1,u2,u3]) rfl ?_;exact⟨.inr ⟨rfl,rfl⟩,bx.b⟩
  ·have mO:r=([],4):=by rw[eW,if_neg (λe=>h0 e.2)]
   subst mO;have Rr:((xe:Int) != 0)=true:=by rw[wV];omega
   clear eW;go_enter func252,ntmps252;go_wp2_with (go_at_call 39;refine (HR.q _ (nA _ _)).mono ?_;rintro e w1 ⟨v,rfl,nD,mF⟩;obtain⟨p,cap,rfl⟩:=nD.form;have hS:=(SpW.start w _ _ _ _ _ _ _).later mF;obtain⟨c0,c1,c2,c3,f0,f1,f2,f3⟩:=hS.outs;obtain⟨d0,d1,d2⟩:=hS.tz);go_quiet (fail);have bx:=(hS.later (zO bR nq)).all 0 [] 0 [];go_wp2_with fail;generalize World.setCell _ ⟨w.heap.size+1,3,none⟩ (.string ⟨#[]⟩)=W9 at bx ⊢;obtain⟨u0,u1,u2,u3,_⟩:=bx.outs;refine bodyPost_ret (v:=.tuple #[SV 0 [] 0 [],.int .i64 4]) (by simp[results,results252,go_sem,u0,u1,u2,u3]) rfl ?_;exact⟨.inr ⟨rfl,rfl⟩,bx.b⟩
def zfR(k:Nat)(t:List UInt8):(jf k t).2=0\/(jf k t).2=4:=by
 unfold jf;split
 ·split <;> simp
 ·split <;> simp
def zfU(k:Nat)(t:List UInt8)(a:Int)(w:World)(hs:t.length<=1000000000000)(hG:jQ w):
 Calls prog 213 #[.agg #[.int .u8 k,.string ⟨t.toArray⟩,.int .i64 a]] w λe w'=>
  e=.returned (.tuple #[.string ⟨(jf k t).1.toArray⟩,.int .i64 (jf k t).2])/\Below w.heap.size w w':=by
 have nh:=zf w (.cells #[.int .u8 k,.string ⟨t.toArray⟩,.int .i64 a] 66 (0,0));have HS:=zh (zfS k t a _ hs (hG.later nh));have he:=zfR k t;have h4:(jf k t).2=4->(jf k t).1=[]:=by
  unfold jf;split
  ·split
   ·intro h;cases h
   ·intro _;rfl
  ·split
   ·intro h;cases h
   ·intro _;rfl
 clear hG;generalize jf k t=r at *;obtain⟨r1,r2⟩:=r;simp only at he h4;rcases he with rfl|rfl
 ·go_enter func213,ntmps213;go_wp2_with fail;refine (HS.q).mono ?_;rintro e w1 ⟨⟨_,rfl⟩|⟨h,_⟩,mF⟩
  ·have hb:=zg nh mF;go_wp2;go_ret2;exact⟨rfl,yt hb _⟩
  ·cases h
 ·have h4:=h4 rfl;subst h4;go_enter func213,ntmps213;go_wp2_with fail;refine (HS.q).mono ?_;rintro e w1 ⟨⟨h,_⟩|⟨_,rfl⟩,mF⟩
  ·cases h
  ·have hb:=zg nh mF;go_wp2;go_ret2;exact⟨rfl,yt hb _⟩
end
section
open Go.RowKit
open Go.Proofs.Tryz
def AbP(Rs:Nat->Prop)(J:β->World->Prop):Prop:=∀s A B row,J s A->A.grownBy B row->(∀r,row=some r->Rs r)->J s B
def XF(Rs:Nat->Prop)(B:Nat)(I:β->World->Prop):Prop:=∀s W W' row,I s W->W.grownBy W' row->(∀r,row=some r->Rs r\/(B<=r/\∃o:Obj,W.heap[r]? =some o/\o.isCells=false))->I s W'
def XF.put{I:β->World->Prop}(h:XF Rs B I){s:β}(o':Obj)(hs:I s W)(hl:W.heap[l]? =some o)(ho:o.isCells=false)(hb:B<=l):I s (W.putObj l o'):=
 h s W _ (some l) hs (grownBy_putObj' W l o') (λr e=>by cases e;exact .inr ⟨hb,o,hl,ho⟩)
theorem XF.alloc{I:β->World->Prop}(h:XF Rs B I){s:β}(o:Obj)(hs:I s W):I s (W.alloc o):=
 h s W _ none hs (World.grownBy_alloc W o none) (λr e=>by cases e)
def ziQ(F:Fence)(n:Nat)(P:Program)(g:Nat)(la lb:Array Value)(encs:α->Array Value)(Kp:World->World->Prop)(G:List α->α->Prop)(Rs:Nat->Prop)(S Sp:List α->Prop)(w:World):Prop:=
 ∀(l:Nat) (J Jx:List α->World->Prop) (W:World),Below w.heap.size w W->AbP Rs J->AbP Rs Jx->
  (∀pre x W1,J pre W1->G pre x->YieldAt F (n-1) P l (encs x) W1 λe W'=>
    (e=.returned (.bool true)/\J (pre ++ [x]) W'/\Kp W1 W')\/(e=.returned (.bool false)/\Jx (pre ++ [x]) W'))->
  J [] W->
  CallsIn F n P g (la ++ #[.func (.yield l) #[] #[]] ++ lb) W λe W'=>(∃v,e=.returned v)/\((∃xs,S xs/\J xs W')\/(∃pre,Sp pre/\Jx pre W'))
variable {F:Fence} {n:Nat} {P:Program}
def zbN{ps:Array Tmp}{a:Act}(RQ:F.round=none)(h1:1<=n)(hg:a.eval g=.func (.func gf) la lb)(PU:F.fn gf)(eg:∀args w,(callFunc gf args).run P w=.ok (.enter gf args) w){encs:α->Array Value}{G:List α->α->Prop}{S Sp:List α->Prop}(dc:ziQ F (n-1) P gf la lb encs Kp G Rs S Sp w)(hR:∀r,Rs r->r<w.heap.size)(Ej:∀x,(encs x).size=ps.size)(eM:∀{A B C:World},Kp A B->Kp B C->Kp A C)(gx:∀(W:World) (l:Nat) (o o':Obj),w.heap.size<=l->W.heap[l]? =some o->o.isCells=false->Kp W (W.putObj l o'))(I:List α->World->Prop)(Ix:Code->List α->World->Prop)(hI:XF Rs w.heap.size I)(aR:∀c,XF Rs w.heap.size (Ix c))(h0:I [] w)(Ax:List α->α->Act->World->Prop)(PP:∀pre x a' (W:World) (l:Nat) (o o':Obj),Ax pre x a' W->w.heap.size<=l->W.heap[l]? =some o->o.isCells=false->Ax pre x a' (W.putObj l o'))(rS:∀(l:Nat) (pre:List α) (x:α) (W:World) (K:Act->World->Prop),I pre W->G pre x->(∀a' W',KeepsOthers W W'->Kp W W'->Ax pre x a' W'->K a' W')->
   assign.wpIn (F.inRound l) (n-1-1) P (Exit.then K (λ_ _ _=>False)) {tmps:=(ps.zip (encs x)).foldl (λtmps (t,v)=>tmps.setIfInBounds t v) a.tmps,defers:=[]} W)(wu:∀(l:Nat) (pre:List α) (x:α) (a':Act) (W:World),Ax pre x a' W->G pre x->body.wpIn (F.inRound l) (n-1-1) P (ownPostK Kp I Ix (pre ++ [x]) W) a' W)(wx:∀(D:Nat) (xs:List α) (W:World),S xs->I xs W->w.heap.size<=D->W.heap[D]? =some (.deferred (some []))->Q .normal {a with defers:={target:=.collected D,args:= #[]} :: a.defers} W)(aM:∀(D:Nat) (c:Code) (pre:List α) (W:World),Sp pre->Ix c pre W->w.heap.size<=D->W.heap[D]? =some (.deferred (some []))->c.wpIn F n P Q {a with defers:={target:=.collected D,args:= #[]} :: a.defers} W):
 (Code.rangeFunc g ps assign body).wpIn F n P Q a w:=by
 refine wpIn_rangeFunc ?_;intro fn fX;obtain⟨rec,nG⟩:∃rec:LoopState->Option Code->Loop,rec=λst pd=>{state:=st,pending:=pd,fn,tmps:=a.tmps,params:=ps,assign,body,defers:=w.heap.size}:=⟨_,rfl⟩
 obtain⟨W1,tU⟩:∃W1,W1=(w.alloc (.deferred (some []))).alloc (.loop (rec .ready none)):=⟨_,rfl⟩;have sz:W1.heap.size=w.heap.size+2:=by rw[tU];simp
 have TS:W1.heap[w.heap.size+1]? =some (.loop (rec .ready none)):=by
  rw[tU];have:=World.alloc_heap_new (w.alloc (.deferred (some []))) (.loop (rec .ready none));simpa using this
 have TP:W1.heap[w.heap.size]? =some (.deferred (some [])):=by
  rw[tU];exact (Below.heap_alloc _ _ _ (by simp)).trans (World.alloc_heap_new w _)
 have PX:I [] W1:=by rw[tU];exact hI.alloc _ (hI.alloc _ h0)
 have mF:Below w.heap.size w W1:=by rw[tU];exact ((pG _ w).alloc (pC _) _).alloc (by simp) _
 have far:∀{A B:World} {row:Option Nat} {k:Nat} {o:Obj},A.heap[k]? =some o->A.grownBy B row->(∀r,row=some r->Rs r)->w.heap.size<=k->B.heap[k]? =some o:=
  λhk mJ hr pk=>(mJ.block _ (gtA hk) (λe=>by have:=hR _ (hr _ e.symm);omega)).trans hk
 refine⟨w.heap.size+1,[{target:=.collected w.heap.size,args:= #[]}],W1,{target:=.fn (.func gf) lb,args:=la ++ #[.func (.yield (w.heap.size+1)) #[] #[]]},W1,gf,
  la ++ #[.func (.yield (w.heap.size+1)) #[] #[]] ++ lb,W1,?_,?_,?_,?_,λ_=>h1,?_⟩
 ·rw[RQ,tU,nG];exact run_enterLoop_outer _ _ _ _ _
 ·simp only[resolve,hg];simp[go_sem]
 ·intro f' NQ;simp[Target.leads] at NQ;subst NQ;exact PU
 ·simp[invoke,go_sem,eg]
 refine (dc (w.heap.size+1)
  (λpre W=>I pre W/\W.heap[w.heap.size+1]? =some (.loop (rec .ready none))/\W.heap[w.heap.size]? =some (.deferred (some [])))
  (λpre W=>∃c,Ix c pre W/\W.heap[w.heap.size+1]? =some (.loop (rec .done (some c)))/\W.heap[w.heap.size]? =some (.deferred (some [])))
  W1 mF
  (λs A B row hs mJ hr=>⟨hI s A B row hs.1 mJ (λr e=>.inl (hr r e)),far hs.2.1 mJ hr (by omega),far hs.2.2 mJ hr (by omega)⟩)
  (λs A B row ⟨c,hc,hl,hk⟩ mJ hr=>⟨c,aR c s A B row hc mJ (λr e=>.inl (hr r e)),far hl mJ hr (by omega),far hk mJ hr (by omega)⟩)
  ?_ ⟨PX,TS,TP⟩).mono ?_
 ·rintro pre x W ⟨hi,hl,hk⟩ hG;have mD:w.heap.size+1<W.heap.size:=(gtA hl);have hy:=run_yield (P:=P) (args:=encs x) hl (by rw[nG];exact Ej x);rw[nG] at hy;refine⟨fn,_,assign,body,hy,roundIn_of_wpIn fX (rS _ pre x W _ hi hG λa' Wa cW Wv Tp=>?_)⟩;have rc:=cW.same _ _ hl rfl;have dV:=cW.same _ _ hk rfl;have fy:w.heap.size+1<Wa.heap.size:=(gtA rc);refine⟨_,run_beginRound rc (by rw[nG]),?_⟩;have eT:(Wa.putObj (w.heap.size+1) (.loop {rec .ready none with state:=.busy})).heap[w.heap.size+1]? =some (.loop {rec .ready none with state:=.busy}):=World.putObj_heap_same fy;have nj:(Wa.putObj (w.heap.size+1) (.loop {rec .ready none with state:=.busy})).heap[w.heap.size]? =some (.deferred (some [])):=(World.putObj_heap_other (by omega)).trans dV;have tK:Kp W (Wa.putObj (w.heap.size+1) (.loop {rec .ready none with state:=.busy})):=eM Wv (gx _ _ _ _ (by omega) rc rfl);refine wpIn_mono (wu _ pre x a' _ (PP _ _ _ _ _ _ _ Tp (by omega) rc rfl) hG) ?_;have fin:∀(jump:Option Code) (W3:World),KeepsOthers (Wa.putObj (w.heap.size+1) (.loop {rec .ready none with state:=.busy})) W3->
   (Instr.endRound (w.heap.size+1) jump).run P W3=.ok (.bool jump.isNone) (W3.putObj (w.heap.size+1) (.loop (rec (if jump.isNone then .ready else .done) jump)))/\
   W3.heap[w.heap.size+1]? =some (.loop {rec .ready none with state:=.busy})/\
   (W3.putObj (w.heap.size+1) (.loop (rec (if jump.isNone then .ready else .done) jump))).heap[w.heap.size+1]? =some (.loop (rec (if jump.isNone then .ready else .done) jump))/\
   (W3.putObj (w.heap.size+1) (.loop (rec (if jump.isNone then .ready else .done) jump))).heap[w.heap.size]? =some (.deferred (some [])):=λjump W3 na=>by
   have pq:=na.same _ _ eT rfl;have:=run_endRound (P:=P) jump pq;rw[nG] at this ⊢;exact⟨this,by rw[nG] at pq;exact pq,World.putObj_heap_same (gtA pq),(World.putObj_heap_other (by omega)).trans (na.same _ _ nj rfl)⟩
  rintro e a3 W3 hp;cases e with
  |normal=>
   obtain⟨na,fg,nV⟩:=hp;obtain⟨hr,pq,sU,pj⟩:=fin none W3 na;exact⟨_,_,hr,.inl ⟨rfl,⟨hI.put _ nV pq rfl (by omega),sU,pj⟩,eM (eM tK fg) (gx _ _ _ _ (by omega) pq rfl)⟩⟩
  |ret=>
   obtain⟨na,nV⟩:=hp;obtain⟨hr,pq,sU,pj⟩:=fin (some .ret) W3 na;exact⟨_,_,hr,.inr ⟨rfl,.ret,(aR _).put _ nV pq rfl (by omega),sU,pj⟩⟩
  |exit id=>
   obtain⟨na,nV⟩:=hp;obtain⟨hr,pq,sU,pj⟩:=fin (some (.exit id)) W3 na;exact⟨_,_,hr,.inr ⟨rfl,.exit id,(aR _).put _ nV pq rfl (by omega),sU,pj⟩⟩
  |goto t=>
   obtain⟨na,nV⟩:=hp;obtain⟨hr,pq,sU,pj⟩:=fin (some (.goto t)) W3 na;exact⟨_,_,hr,.inr ⟨rfl,.goto t,(aR _).put _ nV pq rfl (by omega),sU,pj⟩⟩
  |panic ch=>exact hp.elim
  |outgrown=>exact hp.elim
 ·rintro e W2 ⟨⟨v,rfl⟩,(⟨xs,hS,hi,hl,hk⟩|⟨pre,NJ,c,hi,hl,hk⟩)⟩
  ·exact⟨none,_,by have:=run_endLoop (P:=P) hl (by rw[nG];simp);rw[nG] at this;exact this,wx _ xs _ hS (hI.put _ hi hl rfl (by omega)) (pC _) ((World.putObj_heap_other (by omega)).trans hk)⟩
  ·exact⟨some c,_,by have:=run_endLoop (P:=P) hl (by rw[nG];simp);rw[nG] at this;exact this,aM _ c pre _ NJ ((aR c).put _ hi hl rfl (by omega)) (pC _) ((World.putObj_heap_other (by omega)).trans hk)⟩
def ZE{p0 p1:Tmp}{a:Act}(RQ:F.round=none)(h1:1<=n)(hg:a.eval g=.func (.func gf) la lb)(PU:F.fn gf)(eg:∀args w,(callFunc gf args).run P w=.ok (.enter gf args) w){e1 e2:α->Value}{G:List α->α->Prop}{S Sp:List α->Prop}(dc:ziQ F (n-1) P gf la lb (λx=> #[e1 x,e2 x]) Kp G Rs S Sp w)(hR:∀r,Rs r->r<w.heap.size)(eM:∀{A B C:World},Kp A B->Kp B C->Kp A C)(gx:∀(W:World) (l:Nat) (o o':Obj),w.heap.size<=l->W.heap[l]? =some o->o.isCells=false->Kp W (W.putObj l o'))(I:List α->World->Prop)(Ix:Code->List α->World->Prop)(hI:XF Rs w.heap.size I)(aR:∀c,XF Rs w.heap.size (Ix c))(h0:I [] w)(Ax:List α->α->Act->World->Prop)(PP:∀pre x a' (W:World) (l:Nat) (o o':Obj),Ax pre x a' W->w.heap.size<=l->W.heap[l]? =some o->o.isCells=false->Ax pre x a' (W.putObj l o'))(rS:∀(l:Nat) (pre:List α) (x:α) (W:World) (K:Act->World->Prop),I pre W->G pre x->(∀a' W',KeepsOthers W W'->Kp W W'->Ax pre x a' W'->K a' W')->
   assign.wpIn (F.inRound l) (n-1-1) P (Exit.then K (λ_ _ _=>False)) {tmps:=(a.tmps.setIfInBounds p0 (e1 x)).setIfInBounds p1 (e2 x),defers:=[]} W)(wu:∀(l:Nat) (pre:List α) (x:α) (a':Act) (W:World),Ax pre x a' W->G pre x->body.wpIn (F.inRound l) (n-1-1) P (ownPostK Kp I Ix (pre ++ [x]) W) a' W)(wx:∀(D:Nat) (xs:List α) (W:World),S xs->I xs W->w.heap.size<=D->W.heap[D]? =some (.deferred (some []))->Q .normal {a with defers:={target:=.collected D,args:= #[]} :: a.defers} W)(aM:∀(D:Nat) (c:Code) (pre:List α) (W:World),Sp pre->Ix c pre W->w.heap.size<=D->W.heap[D]? =some (.deferred (some []))->c.wpIn F n P Q {a with defers:={target:=.collected D,args:= #[]} :: a.defers} W):
 (Code.rangeFunc g #[p0,p1] assign body).wpIn F n P Q a w:=by
 refine zbN RQ h1 hg PU eg dc hR (λx=>rfl) eM gx I Ix hI aR h0 Ax PP (λl pre x W K h1 h2 h3=>?_) wu wx aM;have ez:((#[p0,p1].zip #[e1 x,e2 x]).foldl (λtmps (t,v)=>tmps.setIfInBounds t v) a.tmps)=(a.tmps.setIfInBounds p0 (e1 x)).setIfInBounds p1 (e2 x):=by simp
 rw[ez];exact rS l pre x W K h1 h2 h3
end
end Go.Proofs.YtcagibbaeageoaaGreatDoor
namespace LodeX
section
open Go Go.RowKit Go.Sort
def zcq(l:List Oper):Bool:=l.all λo=>match o.op with
 | .defer _=>false
 |_=>true
def zh4{row:String}{R:Value->World->Prop}(h:Rows P row args w R):RowsIn (Fence.wide.inRound k) n P row args w R:=
 λc cs _=>let ⟨v,w',r,s⟩:=h c cs;⟨v,w',r,stepsIn_wide.2 s⟩
def Qr{f:FuncId}{R:Ending->World->Prop}(h:Calls P f args w R):CallsIn (Fence.wide.inRound k) n P f args w R:=
 callsIn_wide.2 h
def zeG{o:Oper}{a:Act}(hd:∀c,o.op≠.defer c)(h:o.wp P a w K X):o.wpIn (Fence.wide.inRound k) n P a w K X:=by
 refine⟨λ_ _=>trivial,?_⟩;rw[show (Fence.wide.inRound k).round=some k from rfl,Oper.semAt_some k _ o hd];unfold Oper.wp at h;generalize (execOp a.eval o).run P w=r at *;cases r with
 |ok x w'=>
  cases x <;> simp only[Oper.upon,Oper.uponIn] at h ⊢ <;>
   first
    |exact h
    |exact⟨λe=>(by cases e),CallsIn.mono (Qr h) (λe w' he=>by cases e <;> exact he)⟩
    |exact⟨λe=>(by cases e),zh4 h⟩
 |halt x w'=>cases x <;> simp only[Oper.upon,Oper.uponIn] at h ⊢ <;> exact h
theorem Yf{k n:Nat}{P:Program}{md:Region.Mode}{l:List Oper}{Q:Exit->Act->World->Prop}(hL:¬LetsOut Q)(hd:zcq l=true):∀(fuel:Nat) (listed:Array Bool) (a:Act) (w:World),wpAny P md l.toArray Q fuel listed a w->wpAnyIn (Fence.wide.inRound k) n P md l.toArray Q fuel listed a w
 |0,_,_,_,h=>h
 |fuel+1,listed,a,w,h=>by
  refine⟨h.1,λi hi=>?_⟩;have h2:=h.2 i hi;unfold wpOp at h2;unfold wpOpIn;cases ho:l.toArray[i]? with
  |none=>
   rw[ho] at h2;exact Yf hL hd fuel _ a w h2
  |some o=>
   rw[ho] at h2;simp only at h2 ⊢;have hdo:∀c,o.op≠.defer c:=λc e=>by
    rw[pS] at ho;unfold zcq at hd;rw[pY] at hd;have:=hd o (wH ho);rw[e] at this;cases this
   split
   ·rename_i hw;rw[if_pos hw] at h2;rcases h2 with h2|h2
    ·exact Oper.wpIn_mono (λa w h=>Yf hL hd fuel _ a w h) (zeG hdo h2)
    ·exact absurd h2.2 hL
   ·rename_i hw;rw[if_neg hw] at h2;exact⟨λ_ _=>trivial,Yf hL hd fuel _ _ w h2⟩
def zks{Q:Act->World->Prop}:¬LetsOut (XT Xp Q):=λ⟨_,_,h⟩=>h
def Kz{id:Nat}{l:List Oper}{a:Act}(ord:List (Nat×Nat))(hm:P.follows .mixedOrders=true)(hc:kJ l.toArray ord=true)(hd:zcq l=true)(hX:∀c a w,a.defers=[]->Xp c w->Q (.panic c) a w)(h:kR RR Xp P l.toArray (Q .normal) ord w.drew a):(Code.region id l.toArray true).wpIn (Fence.wide.inRound k) n P Q a w:=by
 obtain⟨h1,h2,h3⟩:=XO hc;refine wpIn_mono (wpIn_region_any (Q:=XT Xp (Q .normal)) hm (Yf zks hd _ _ _ _ (zcP h1 _ ord _ _ w.drew a _ rfl h3 h2 (RR.srefl _) h))) (λe a w q=>?_);cases e <;> first|exact q|exact hX _ _ _ q.1 q.2|exact q.elim
end
end LodeX
namespace Go.Proofs.YtcagibbaeageoaaGreatDoor
section
open Go.RowKit Lode Go.Shelf
attribute [local go_sem ↓] wp_at_zero wp_at_succ
open Go.Proofs.Tryz
def Tryz.infoInt:(prog.info? 3).map (λi=>(i.zero,i.size,i.bytes))=some (some (.int .i64 0),1,8):=by kernel_rfl
def zbj(n:Nat)(hn:n<=1000000)(W:World):(Instr.makeSlice 24 (.int .i64 (n:Int)) (.int .i64 (n:Int))).run prog W=.ok (.slice (some ⟨W.heap.size,0,none⟩) n n) (W.alloc (.cells (List.replicate n (Value.int .i64 0)).toArray 3)):=by
 obtain⟨i0,hi,pe,mY,mT⟩:=info_parts Tryz.infoInt;have h:=run_make (P:=prog) W 24 3 i0 _ underlying24 hi pe .i64 .i64 n n (by omega) (Int.le_refl _) (by rw[mT];omega) (by omega);simp only[pZ,mY,Nat.mul_one] at h;rw[h];congr 3;rw[<-Array.toList_inj];exact toList_madeCells_one _ n
end
end Go.Proofs.YtcagibbaeageoaaGreatDoor
namespace Lode
def jx(s:List UInt8)(a:Int):(Nat×Nat)×Nat:=if (qF s).2≠0 then ((0,0),(qF s).2) else if a<0\/(s.length:Int)<a then ((0,0),3) else (zdm s a.toNat,0)
end Lode
namespace Go.Proofs.YtcagibbaeageoaaGreatDoor
section
open Go.RowKit
open Go.Proofs.Tryz
variable {F:Fence} {n:Nat} {P:Program}
def zbM{ps:Array Tmp}{a:Act}(RQ:F.round=none)(h1:1<=n)(hg:a.eval g=.func (.func gf) la lb)(PU:F.fn gf)(eg:∀args w,(callFunc gf args).run P w=.ok (.enter gf args) w){encs:α->Array Value}{G:List α->α->Prop}{S Sp:List α->Prop}(dc:ziQ F (n-1) P gf la lb encs Kp G Rs S Sp w)(hR:∀r,Rs r->r<w.heap.size)(Ej:∀x,(encs x).size=ps.size)(eM:∀{A B C:World},Kp A B->Kp B C->Kp A C)(gx:∀(W:World) (l:Nat) (o:Loop) (o':Obj),w.heap.size<=l->W.heap[l]? =some (.loop o)->Kp W (W.putObj l o'))(I:List α->World->Prop)(Ix:Code->List α->World->Prop)(hI:XF Rs w.heap.size I)(aR:∀c,XF Rs w.heap.size (Ix c))(h0:I [] w)(Ax:List α->α->Act->World->Prop)(PP:∀pre x a' (W:World) (l:Nat) (o o':Obj),Ax pre x a' W->w.heap.size<=l->W.heap[l]? =some o->o.isCells=false->Ax pre x a' (W.putObj l o'))(rS:∀(l:Nat) (pre:List α) (x:α) (W:World) (K:Act->World->Prop),I pre W->G pre x->(∀a' W',KeepsOthers W W'->Kp W W'->Ax pre x a' W'->K a' W')->
   assign.wpIn (F.inRound l) (n-1-1) P (Exit.then K (λ_ _ _=>False)) {tmps:=(ps.zip (encs x)).foldl (λtmps (t,v)=>tmps.setIfInBounds t v) a.tmps,defers:=[]} W)(wu:∀(l:Nat) (pre:List α) (x:α) (a':Act) (W:World),Ax pre x a' W->G pre x->body.wpIn (F.inRound l) (n-1-1) P (ownPostK Kp I Ix (pre ++ [x]) W) a' W)(wx:∀(D:Nat) (xs:List α) (W:World),S xs->I xs W->w.heap.size<=D->W.heap[D]? =some (.deferred (some []))->Q .normal {a with defers:={target:=.collected D,args:= #[]} :: a.defers} W)(aM:∀(D:Nat) (c:Code) (pre:List α) (W:World),Sp pre->Ix c pre W->w.heap.size<=D->W.heap[D]? =some (.deferred (some []))->c.wpIn F n P Q {a with defers:={target:=.collected D,args:= #[]} :: a.defers} W):
 (Code.rangeFunc g ps assign body).wpIn F n P Q a w:=by
 refine wpIn_rangeFunc ?_;intro fn fX;obtain⟨rec,nG⟩:∃rec:LoopState->Option Code->Loop,rec=λst pd=>{state:=st,pending:=pd,fn,tmps:=a.tmps,params:=ps,assign,body,defers:=w.heap.size}:=⟨_,rfl⟩
 obtain⟨W1,tU⟩:∃W1,W1=(w.alloc (.deferred (some []))).alloc (.loop (rec .ready none)):=⟨_,rfl⟩;have sz:W1.heap.size=w.heap.size+2:=by rw[tU];simp
 have TS:W1.heap[w.heap.size+1]? =some (.loop (rec .ready none)):=by
  rw[tU];have:=World.alloc_heap_new (w.alloc (.deferred (some []))) (.loop (rec .ready none));simpa using this
 have TP:W1.heap[w.heap.size]? =some (.deferred (some [])):=by
  rw[tU];exact (Below.heap_alloc _ _ _ (by simp)).trans (World.alloc_heap_new w _)
 have PX:I [] W1:=by rw[tU];exact hI.alloc _ (hI.alloc _ h0)
 have mF:Below w.heap.size w W1:=by rw[tU];exact ((pG _ w).alloc (pC _) _).alloc (by simp) _
 have far:∀{A B:World} {row:Option Nat} {k:Nat} {o:Obj},A.heap[k]? =some o->A.grownBy B row->(∀r,row=some r->Rs r)->w.heap.size<=k->B.heap[k]? =some o:=
  λhk mJ hr pk=>(mJ.block _ (gtA hk) (λe=>by have:=hR _ (hr _ e.symm);omega)).trans hk
 refine⟨w.heap.size+1,[{target:=.collected w.heap.size,args:= #[]}],W1,{target:=.fn (.func gf) lb,args:=la ++ #[.func (.yield (w.heap.size+1)) #[] #[]]},W1,gf,
  la ++ #[.func (.yield (w.heap.size+1)) #[] #[]] ++ lb,W1,?_,?_,?_,?_,λ_=>h1,?_⟩
 ·rw[RQ,tU,nG];exact run_enterLoop_outer _ _ _ _ _
 ·simp only[resolve,hg];simp[go_sem]
 ·intro f' NQ;simp[Target.leads] at NQ;subst NQ;exact PU
 ·simp[invoke,go_sem,eg]
 refine (dc (w.heap.size+1)
  (λpre W=>I pre W/\W.heap[w.heap.size+1]? =some (.loop (rec .ready none))/\W.heap[w.heap.size]? =some (.deferred (some [])))
  (λpre W=>∃c,Ix c pre W/\W.heap[w.heap.size+1]? =some (.loop (rec .done (some c)))/\W.heap[w.heap.size]? =some (.deferred (some [])))
  W1 mF
  (λs A B row hs mJ hr=>⟨hI s A B row hs.1 mJ (λr e=>.inl (hr r e)),far hs.2.1 mJ hr (by omega),far hs.2.2 mJ hr (by omega)⟩)
  (λs A B row ⟨c,hc,hl,hk⟩ mJ hr=>⟨c,aR c s A B row hc mJ (λr e=>.inl (hr r e)),far hl mJ hr (by omega),far hk mJ hr (by omega)⟩)
  ?_ ⟨PX,TS,TP⟩).mono ?_
 ·rintro pre x W ⟨hi,hl,hk⟩ hG;have mD:w.heap.size+1<W.heap.size:=(gtA hl);have hy:=run_yield (P:=P) (args:=encs x) hl (by rw[nG];exact Ej x);rw[nG] at hy;refine⟨fn,_,assign,body,hy,roundIn_of_wpIn fX (rS _ pre x W _ hi hG λa' Wa cW Wv Tp=>?_)⟩;have rc:=cW.same _ _ hl rfl;have dV:=cW.same _ _ hk rfl;have fy:w.heap.size+1<Wa.heap.size:=(gtA rc);refine⟨_,run_beginRound rc (by rw[nG]),?_⟩;have eT:(Wa.putObj (w.heap.size+1) (.loop {rec .ready none with state:=.busy})).heap[w.heap.size+1]? =some (.loop {rec .ready none with state:=.busy}):=World.putObj_heap_same fy;have nj:(Wa.putObj (w.heap.size+1) (.loop {rec .ready none with state:=.busy})).heap[w.heap.size]? =some (.deferred (some [])):=(World.putObj_heap_other (by omega)).trans dV;have tK:Kp W (Wa.putObj (w.heap.size+1) (.loop {rec .ready none with state:=.busy})):=eM Wv (gx _ _ _ _ (by omega) rc);refine wpIn_mono (wu _ pre x a' _ (PP _ _ _ _ _ _ _ Tp (by omega) rc rfl) hG) ?_;have fin:∀(jump:Option Code) (W3:World),KeepsOthers (Wa.putObj (w.heap.size+1) (.loop {rec .ready none with state:=.busy})) W3->
   (Instr.endRound (w.heap.size+1) jump).run P W3=.ok (.bool jump.isNone) (W3.putObj (w.heap.size+1) (.loop (rec (if jump.isNone then .ready else .done) jump)))/\
   W3.heap[w.heap.size+1]? =some (.loop {rec .ready none with state:=.busy})/\
   (W3.putObj (w.heap.size+1) (.loop (rec (if jump.isNone then .ready else .done) jump))).heap[w.heap.size+1]? =some (.loop (rec (if jump.isNone then .ready else .done) jump))/\
   (W3.putObj (w.heap.size+1) (.loop (rec (if jump.isNone then .ready else .done) jump))).heap[w.heap.size]? =some (.deferred (some [])):=λjump W3 na=>by
   have pq:=na.same _ _ eT rfl;have:=run_endRound (P:=P) jump pq;rw[nG] at this ⊢;exact⟨this,by rw[nG] at pq;exact pq,World.putObj_heap_same (gtA pq),(World.putObj_heap_other (by omega)).trans (na.same _ _ nj rfl)⟩
  rintro e a3 W3 hp;cases e with
  |normal=>
   obtain⟨na,fg,nV⟩:=hp;obtain⟨hr,pq,sU,pj⟩:=fin none W3 na;exact⟨_,_,hr,.inl ⟨rfl,⟨hI.put _ nV pq rfl (by omega),sU,pj⟩,eM (eM tK fg) (gx _ _ _ _ (by omega) pq)⟩⟩
  |ret=>
   obtain⟨na,nV⟩:=hp;obtain⟨hr,pq,sU,pj⟩:=fin (some .ret) W3 na;exact⟨_,_,hr,.inr ⟨rfl,.ret,(aR _).put _ nV pq rfl (by omega),sU,pj⟩⟩
  |exit id=>
   obtain⟨na,nV⟩:=hp;obtain⟨hr,pq,sU,pj⟩:=fin (some (.exit id)) W3 na;exact⟨_,_,hr,.inr ⟨rfl,.exit id,(aR _).put _ nV pq rfl (by omega),sU,pj⟩⟩
  |goto t=>
   obtain⟨na,nV⟩:=hp;obtain⟨hr,pq,sU,pj⟩:=fin (some (.goto t)) W3 na;exact⟨_,_,hr,.inr ⟨rfl,.goto t,(aR _).put _ nV pq rfl (by omega),sU,pj⟩⟩
  |panic ch=>exact hp.elim
  |outgrown=>exact hp.elim
 ·rintro e W2 ⟨⟨v,rfl⟩,(⟨xs,hS,hi,hl,hk⟩|⟨pre,NJ,c,hi,hl,hk⟩)⟩
  ·exact⟨none,_,by have:=run_endLoop (P:=P) hl (by rw[nG];simp);rw[nG] at this;exact this,wx _ xs _ hS (hI.put _ hi hl rfl (by omega)) (pC _) ((World.putObj_heap_other (by omega)).trans hk)⟩
  ·exact⟨some c,_,by have:=run_endLoop (P:=P) hl (by rw[nG];simp);rw[nG] at this;exact this,aM _ c pre _ NJ ((aR c).put _ hi hl rfl (by omega)) (pC _) ((World.putObj_heap_other (by omega)).trans hk)⟩
