/-
  A part of the proof: contracts of functions; no conditions.
-/
import Derived.Test.YtcagibbaeageoaaGreatDoorCA
import Derived.Deep.RegionHeld3
import Derived.Deep.DrawnRows
import Derived.Deep.AppendLies
import Derived.Maps.Range
import Derived.WalkMore
import Derived.Deep.LoopGhost
import Derived.Shelf.Strings.BuilderF
import Derived.Lib.AppendIntMem
import Derived.Lib.QuietBelow
import Derived.Deep.QuietTactic
import Derived.RegionTactic
import Derived.Still
import Derived.RangeFuncNested
import Derived.RangeFuncBound
import Derived.RangeFuncCalls
import Derived.RangeFuncLeaves
import Derived.RangeFuncKeeps
import Derived.Deep.MidRow
set_option maxRecDepth 100000
set_option maxHeartbeats 40000000
set_option linter.unusedSimpArgs false
set_option linter.unusedVariables false
namespace Go.Proofs.YtcagibbaeageoaaGreatDoor
section
open Go.RowKit Lode Go.Shelf
open Go.Proofs.Tryz
theorem szB:(prog.info? 78).map (·.size)=some 2:=by kernel_rfl
theorem zlS:liesAt prog prog.depth 78 (2 / prog.cellsOf 78) 0 78 1=true:=by kernel_rfl
theorem zen:(prog.info? 5).map (fun i=>(i.zero,i.size,i.bytes))=some (some (.int .u8 0),1,1):=by kernel_rfl
abbrev BAt(B b:Nat)(p:Value)(bs:List Value)(w:World):Prop:=Lib.BuilderAt 78 5 B b p bs w
abbrev IsB(B b:Nat)(bs:List Value)(w:World):Prop:=Lib.IsBuilder 78 5 B b bs w
theorem ZR(b:Nat)(w:World)(h0:w.cell? ⟨b,0,none⟩=some (.pointer (some ⟨b,0,none⟩))):
 Calls prog 109 #[.pointer (some ⟨b,0,none⟩)] w fun e w'=>e=.returned (.tuple #[])/\w'=w:=by
 obtain⟨j,hj,_⟩:=Option.map_eq_some_iff.1 szB;go_enter func109,ntmps109;go_wp2;rw[Lib.run_neq_ptr_same w _ underlying75 hj];go_wp2;go_end0;exact⟨rfl,rfl⟩
theorem Zv(b:Nat)(w:World)(h0:w.cell? ⟨b,0,none⟩=some (.pointer none))(hsh:w.shape? b=some (78,2))(hfz:w.frozen? ⟨b,0,none⟩=false):
 Calls prog 109 #[.pointer (some ⟨b,0,none⟩)] w fun e w'=>e=.returned (.tuple #[])/\w'=w.setCell ⟨b,0,none⟩ (.pointer (some ⟨b,0,none⟩)):=by
 obtain⟨j,hj,hjs⟩:=Option.map_eq_some_iff.1 szB;go_enter func109,ntmps109;go_wp2;rw[Lib.run_to_unsafe w ⟨b,0,none⟩ underlying75 underlying183 hj (by rw[hjs];decide) hsh (Nat.zero_lt_succ 1)];simp only[Result.andThen];rw[Oper.upon_value];go_wp2;rw[run_callFunc_extern func170 (by kernel_rfl) (by kernel_rfl) (by kernel_rfl) (e:=Extern.AbiNoEscape.same) (by kernel_rfl)];rw[Lib.run_noEscape];simp only[Result.andThen];rw[Oper.upon_value];go_wp2;rw[Lib.run_from_unsafe w ⟨b,0,none⟩ underlying183 underlying75 hj hsh zlS];simp only[Result.andThen];rw[Oper.upon_value];go_wp2;go_end0;exact⟨rfl,rfl⟩
theorem Ys(B b:Nat)(bs:List Value)(w:World)(h:IsB B b bs w):
 Calls prog 109 #[.pointer (some ⟨b,0,none⟩)] w fun e w'=>e=.returned (.tuple #[])/\(BAt B b (.pointer (some ⟨b,0,none⟩)) bs w'/\Below B w w'):=by
 rcases h with h|h
 ·refine (Zv b w h.cell0 h.shape h.frozen0).mono ?_;rintro e w' ⟨rfl,rfl⟩;exact⟨rfl,h.used _,(pE B w).setCell (p:=⟨b,0,none⟩) h.1 _⟩
 ·refine (ZR b w h.cell0).mono ?_;rintro e w' ⟨rfl,rfl⟩;exact⟨rfl,h,pE B _⟩
theorem KX(B b:Nat)(bs:List Value)(c:Int)(w:World)(h:IsB B b bs w)(hlen:bs.length+1<=140737488355328)(hBw:B<=w.heap.size):
 Calls prog 227 #[.pointer (some ⟨b,0,none⟩),.int .u8 c] w fun e w'=>e=.returned .nilIface/\(BAt B b (.pointer (some ⟨b,0,none⟩)) (bs ++ [.int .u8 c]) w'/\Below B w w'):=by
 obtain⟨i0,hi,hz0,hz1,hz2⟩:=info_parts zen;go_enter func227,ntmps227;go_wp2_with (go_at_call 109;refine (Ys B b bs _ h).mono ?_);rintro e w1 ⟨rfl,h1,hb1⟩;obtain⟨hB,v,hbk,hown,hne⟩:=h1;have c0:w1.cell? ⟨b,0,none⟩=some (.pointer (some ⟨b,0,none⟩)):=by rw[Lib.cell_of_heap hbk];rfl
 have c1:w1.cell? ⟨b,1,none⟩=some v:=by rw[Lib.cell_of_heap hbk];rfl
 go_wp2_with (at_builtin;refine wpList_append_own _ rfl _ _ 76 rfl B 5 i0 (.int .u8 0) 1 1 underlying76 hi hz0 hz1 hz2 rfl (by decide) _ _ _ rfl (hown.alloc _) ⟨w1.heap.size,0,none⟩ 1 1 [.int .u8 c] rfl rfl ?c1 ?c2 ?c3 ?c4 ?c5 ?_)
 case c1=>
  intro j u hj
  match j,hj with
  |0,hj=>simp at hj;subst hj;simp[Addr.add]
 case c2=>intro u hu;simp at hu;subst hu;rfl
 case c3=>unfold maxLen;omega
 case c4=>omega
 case c5=>have:=hb1.size;simp;omega
 intro v' w2 hown' hgrow _;have hlt:b<w1.heap.size:=by
  rcases Nat.lt_or_ge b w1.heap.size with h'|h'
  ·exact h'
  ·simp[Array.getElem?_eq_none h'] at hbk
 have hb2:w2.heap[b]? =some (.cells #[.pointer (some ⟨b,0,none⟩),v] 78 (0,0)):=by
  rw[hgrow.block b (by simp;omega) (fun e=>hne e.symm),Lib.alloc_old w1 _ b hlt];exact hbk
 have d0:w2.cell? ⟨b,0,none⟩=some (.pointer (some ⟨b,0,none⟩)):=by rw[Lib.cell_of_heap hb2];rfl
 have d1:w2.cell? ⟨b,1,none⟩=some v:=by rw[Lib.cell_of_heap hb2];rfl
 have f1:w2.frozen? ⟨b,1,none⟩=false:=Lib.frozen_of_heap hb2 1;obtain⟨g,cap,rfl⟩:∃g cap,v'=.slice (some ⟨g,0,none⟩) (bs.length+1) cap:=by
  rcases hown'.2 with⟨_,h0⟩|⟨g,cap,cur,hv,_⟩
  ·omega
  ·exact⟨g,cap,hv⟩
 go_wp2;go_ret;refine⟨rfl,?_,?_⟩
 ·exact Lib.BuilderAt.put (T:=78) (e:=5) hB hb2 (bs':=bs ++ [.int .u8 c]) (by simpa using hown') (by decide)
 ·exact ((hb1.alloc (by have:=hb1.size;omega) _).grown hgrow (by have:=hb1.size;simp;omega) (fun k hk=>(hown.lt k hk).1)).setCell (p:=⟨b,1,none⟩) hB _
theorem Je(B b:Nat)(bs:List Value)(s:ByteArray)(w:World)(h:IsB B b bs w)(hlen:bs.length+s.size<=140737488355328)(hBw:B<=w.heap.size):
 Calls prog 65 #[.pointer (some ⟨b,0,none⟩),.string s] w fun e w'=>e=.returned (.tuple #[.int .i64 s.size,.nilIface])/\(BAt B b (.pointer (some ⟨b,0,none⟩)) (bs ++ Lib.strCells s) w'/\Below B w w'):=by
 obtain⟨i0,hi,hz0,hz1,hz2⟩:=info_parts zen;go_enter func65,ntmps65;go_wp2_with (go_at_call 109;refine (Ys B b bs _ h).mono ?_);rintro e w1 ⟨rfl,h1,hb1⟩;obtain⟨hB,v,hbk,hown,hne⟩:=h1;have c0:w1.cell? ⟨b,0,none⟩=some (.pointer (some ⟨b,0,none⟩)):=by rw[Lib.cell_of_heap hbk];rfl
 have c1:w1.cell? ⟨b,1,none⟩=some v:=by rw[Lib.cell_of_heap hbk];rfl
 go_wp2_with (at_builtin;refine Lib.wpList_append_own_string _ rfl _ _ 76 9 rfl B 5 i0 underlying76 underlying9 hi hz0 hz1 hz2 _ _ _ rfl hown s rfl ?c3 ?c4 ?c5 ?_)
 case c3=>unfold maxLen;omega
 case c4=>omega
 case c5=>have:=hb1.size;omega
 intro v' w2 hown' hgrow _;have hlt:b<w1.heap.size:=by
  rcases Nat.lt_or_ge b w1.heap.size with h'|h'
  ·exact h'
  ·simp[Array.getElem?_eq_none h'] at hbk
 have hb2:w2.heap[b]? =some (.cells #[.pointer (some ⟨b,0,none⟩),v] 78 (0,0)):=by
  rw[hgrow.block b hlt (fun e=>hne e.symm)];exact hbk
 have d0:w2.cell? ⟨b,0,none⟩=some (.pointer (some ⟨b,0,none⟩)):=by rw[Lib.cell_of_heap hb2];rfl
 have d1:w2.cell? ⟨b,1,none⟩=some v:=by rw[Lib.cell_of_heap hb2];rfl
 have f1:w2.frozen? ⟨b,1,none⟩=false:=Lib.frozen_of_heap hb2 1;obtain⟨ao,n',cap,rfl⟩:∃ao n' cap,v'=.slice ao n' cap:=by
  rcases hown'.2 with⟨hv,_⟩|⟨g,cap,cur,hv,_⟩
  ·exact⟨_,_,_,hv⟩
  ·exact⟨_,_,_,hv⟩
 go_wp2;go_ret2;refine⟨rfl,?_,?_⟩
 ·exact Lib.BuilderAt.put (T:=78) (e:=5) hB hb2 (bs':=bs ++ Lib.strCells s) (by simpa[Lib.strCells_length] using hown') (by decide)
 ·exact (hb1.grown hgrow (by have:=hb1.size;omega) (fun k hk=>(hown.lt k hk).1)).setCell (p:=⟨b,1,none⟩) hB _
end
section
open Go.RowKit Lode Go.Shelf
attribute [local go_sem ↓] Go.wp_at_zero Go.wp_at_succ
open Go.Proofs.Tryz
def kP(w:World)(R:Nat)(s:ByteArray)(a:Nat)(wv sv:Value):Prop:=w.heap[R]? =some (.cells #[.string s,.int .i64 a,wv,sv] 136 (0,0))
theorem Kv:∀(m:List UInt8),(Lib.indexByte m 10= -1/\zT true m=m.length)\/∃n:Nat,Lib.indexByte m 10=n/\n<m.length/\zT true m=n+zT false (m.drop n)
 |[]=>.inl ⟨rfl,rfl⟩
 |c :: m=>by
  by_cases hc:c=10
  ·subst hc;exact .inr ⟨0,by simp[Lib.indexByte],by simp,by simp[zT]⟩
  ·have hc':(c == 10)=false:=by simpa using hc
   have hg:zT true (c :: m)=zT true m+1:=by simp only[zT,if_neg hc];by_cases h:c=35 <;> simp[h]
   rcases Kv m with⟨h1,h2⟩|⟨n,h1,h2,h3⟩
   ·refine .inl ⟨by simp[Lib.indexByte,hc',h1],by rw[hg,h2];simp⟩
   ·refine .inr ⟨n+1,?_,by simp;omega,by rw[hg,h3];simp;omega⟩;have:¬((n:Int)= -1):=by omega
    simp[Lib.indexByte,hc',h1,this]
theorem zgx(c:UInt8)(r:List UInt8):(Lib.indexByte (c :: r) 10= -1/\(c=35->zT false (c :: r)=r.length+1))\/∃n:Nat,Lib.indexByte (c :: r) 10=n/\n<r.length+1/\(c=35->0<n/\zT false (c :: r)=n+zT false ((c :: r).drop n)):=by
 by_cases hc:c=35
 ·subst hc;have hg:zT false (35 :: r)=zT true r+1:=by simp[zT]
  rcases Kv r with⟨h1,h2⟩|⟨n,h1,h2,h3⟩
  ·exact .inl ⟨by simp[Lib.indexByte,h1],fun _=>by rw[hg,h2]⟩
  ·refine .inr ⟨n+1,?_,by omega,fun _=>⟨by omega,by rw[hg,h3];simp;omega⟩⟩;have:¬((n:Int)= -1):=by omega
   simp[Lib.indexByte,h1,this]
 ·rcases Kv (c :: r) with⟨h1,_⟩|⟨n,h1,h2,_⟩
  ·exact .inl ⟨h1,fun h=>absurd h hc⟩
  ·exact .inr ⟨n,h1,by simpa using h2,fun h=>absurd h hc⟩
theorem zo{w:World}{R:Nat}{cs:Array Value}{T:TypeId}{fr:Nat×Nat}(h:w.heap[R]? =some (.cells cs T fr))(i:Nat)(v:Value):(w.setCell ⟨R,i,none⟩ v).heap[R]? =some (.cells (cs.setIfInBounds i v) T fr):=by
 simp[World.setCell,Array.getElem?_modify,h]
theorem qM(w:World)(R i:Nat)(v:Value):w.grownBy (w.setCell ⟨R,i,none⟩ v) (some R):=
 ⟨rfl,rfl,rfl,by simp[World.setCell],fun k _ hne=>by
  have:R≠k:=fun e=>hne (by rw[e])
  simp[World.setCell,Array.getElem?_modify,this]⟩
theorem qE{w w1 w2:World}{r:Option Nat}(h:w.grownBy w1 r)(e:w2.heap=w1.heap)(e1:w2.os=w1.os)(e2:w2.tape=w1.tape)(e3:w2.output=w1.output):w.grownBy w2 r:=
 ⟨e1.trans h.os,e2.trans h.tape,e3.trans h.output,by rw[e];exact h.size,by rw[e];exact h.block⟩
theorem kP.like{w1 w2:World}{R:Nat}{s:ByteArray}{a:Nat}{wv sv:Value}(h:kP w1 R s a wv sv)(e:w2.heap=w1.heap):kP w2 R s a wv sv:=by unfold kP at *;rw[e];exact h
theorem kP.set{w:World}{R:Nat}{s:ByteArray}{a:Nat}{wv sv:Value}(h:kP w R s a wv sv)(k:Int)(k':Nat)(hk:k=k'):kP (w.setCell ⟨R,1,none⟩ (.int .i64 k)) R s k' wv sv:=by
 subst hk;exact zo h 1 _
def zl2(w:World)(R:Nat)(s:ByteArray)(g:Nat)(wv sv:Value)(m:Nat)(wr:World):Prop:=
 ∃k,k<=s.size/\kP wr R s k wv sv/\w.grownBy wr (some R)/\g=k+zT false (s.data.toList.drop k)/\m=s.size-k
def zaO(R:Nat)(w:World):Nat:=match w.cell? ⟨R,1,none⟩ with|some (.int _ i)=>i.toNat|_=>0
theorem kP.pos{w:World}{R:Nat}{s:ByteArray}{a:Nat}{wv sv:Value}(h:kP w R s a wv sv):zaO R w=a:=by
 simp[zaO,World.cell?,show w.heap[R]? =_ from h]
theorem zhk(R:Nat)(s:ByteArray)(a:Nat)(wv sv:Value)(w:World)(hs:s.size<=1000000000000)(ha:a<=s.size)(hR:kP w R s a wv sv):
 Calls prog 126 #[.pointer (some ⟨R,0,none⟩)] w fun e w'=>e=.returned (.tuple #[])/\kP w' R s (a+zT false (s.data.toList.drop a)) wv sv/\w.grownBy w' (some R):=by
 generalize hg:a+zT false (s.data.toList.drop a)=g;have Hg:=zj hg.symm;clear hg;have HR:=zj hR;clear hR;go_enter func126,ntmps126;go_wp2_with fail;go_step3;go_wp2_with fail
 try go_step3
 go_wp2_with fail;go_loopg [] (s.size-a) (fun m wr=>zl2 w R s g wv sv m wr)
 case atStart=>exact⟨a,ha,HR.out,World.grownBy.refl _ _,Hg.out,rfl⟩
 case round=>
  obtain⟨k,hk,hr,hgr,hgk,rfl⟩:=hrel;have hc0:wr.cell? ⟨R,0,none⟩=some (.string s):=zd hr 0;have hc1:wr.cell? ⟨R,1,none⟩=some (.int .i64 k):=zd hr 1;have hf1:wr.frozen? ⟨R,1,none⟩=false:=zk hr 1;have hr:=zj hr;by_cases hlt:k<s.size
  ·have hki:(k:Int)<(s.size:Int):=by omega
   have Hix:=zj (fun w=>Tryz.strings_IndexByte (s.extract k s.size) 10 w);have hxe:(s.extract k s.size).data.toList=s[k] :: s.data.toList.drop (k+1):=by rw[<-qh s k hlt];simp[List.extract_eq_take_drop];exact List.take_of_length_le (by simp)
   rw[hxe] at Hix;have hg2:=zgx s[k] (s.data.toList.drop (k+1));rw[qh s k hlt] at hgk;have hgk:=zj hgk;clear hxe;have hc35:∀h:((s[k].toNat:Int) == 35)=true,s[k]=35:=fun h=>by rw[pX] at h;exact UInt8.toNat_inj.1 (by simpa using (by omega:s[k].toNat=35))
   have hc35:=zj hc35;rcases hg2 with⟨h1,h2⟩|⟨n,h1,h2,h3⟩
   ·rw[show ((10:Int).toNat.toUInt8)=10 from rfl,h1] at Hix;have h2:=zj h2;clear h1;go_wp2_with fail;go_quiet (fail);go_wp2_with fail;go_quiet (fail);go_wp2_with fail
    ·go_roundg (s.size-(k+1))
     case rel=>exact⟨k+1,by omega,(hr.out.set _ (k+1) (by omega)).like rfl,qE (hgr.trans (qM wr R 1 _)) rfl rfl rfl rfl,Qs hgk.out (by rename_i h _;rw[pX] at h;rw[h];rfl) (by rename_i h _;rw[pX] at h;rw[h];rfl) (by rename_i h _;rw[pX] at h;exact h),rfl⟩
     case measure=>omega
    ·go_roundg (s.size-(k+1))
     case rel=>exact⟨k+1,by omega,(hr.out.set _ (k+1) (by omega)).like rfl,qE (hgr.trans (qM wr R 1 _)) rfl rfl rfl rfl,zes hgk.out ‹_›,rfl⟩
     case measure=>omega
    ·go_quiet ((go_at_call 181;refine (Hix.out _).mono ?_;rintro e w' ⟨rfl,rfl⟩;exact⟨rfl,_,rfl⟩));go_wp2_with fail;go_roundg (s.size-s.size)
     case rel=>exact⟨s.size,pF _,(hr.out.set _ s.size rfl).like rfl,qE (hgr.trans (qM wr R 1 _)) rfl rfl rfl rfl,by
      rw[hgk.out,h2.out (hc35.out ‹_›),jj s _ (pF _)];simp[zT];omega,rfl⟩
     case measure=>omega
    ·rw[Exit.noGoto_normal];go_end0;obtain rfl:=zbg hgk.out ‹_› ‹_› ⟨by have h:=‹((s[k].toNat:Int) == 32)=false›;rw[bne,h];rfl,rfl⟩;exact⟨rfl,hr.out.like rfl,qE hgr rfl rfl rfl rfl⟩
   ·rw[show ((10:Int).toNat.toUInt8)=10 from rfl,h1] at Hix;have h2:k+n<s.size:=by simp at h2;omega
    have h3:=zj h3;clear h1;go_wp2_with fail;go_quiet (fail);go_wp2_with fail;go_quiet (fail);go_wp2_with fail
    ·go_roundg (s.size-(k+1))
     case rel=>exact⟨k+1,by omega,(hr.out.set _ (k+1) (by omega)).like rfl,qE (hgr.trans (qM wr R 1 _)) rfl rfl rfl rfl,Qs hgk.out (by rename_i h _;rw[pX] at h;rw[h];rfl) (by rename_i h _;rw[pX] at h;rw[h];rfl) (by rename_i h _;rw[pX] at h;exact h),rfl⟩
     case measure=>omega
    ·go_roundg (s.size-(k+1))
     case rel=>exact⟨k+1,by omega,(hr.out.set _ (k+1) (by omega)).like rfl,qE (hgr.trans (qM wr R 1 _)) rfl rfl rfl rfl,zes hgk.out ‹_›,rfl⟩
     case measure=>omega
    ·go_quiet ((go_at_call 181;refine (Hix.out _).mono ?_;rintro e w' ⟨rfl,rfl⟩;exact⟨rfl,_,rfl⟩));go_wp2_with fail;go_roundg (s.size-(k+n))
     case rel=>exact⟨k+n,by omega,(hr.out.set _ (k+n) (by omega)).like rfl,qE (hgr.trans (qM wr R 1 _)) rfl rfl rfl rfl,by
      rw[hgk.out,(h3.out (hc35.out ‹_›)).2,<-qh s k hlt,List.drop_drop];omega,rfl⟩
     case measure=>have:=(h3.out (hc35.out ‹_›)).1;omega
    ·rw[Exit.noGoto_normal];go_end0;obtain rfl:=zbg hgk.out ‹_› ‹_› ⟨by have h:=‹((s[k].toNat:Int) == 32)=false›;rw[bne,h];rfl,rfl⟩;exact⟨rfl,hr.out.like rfl,qE hgr rfl rfl rfl rfl⟩
  ·obtain rfl:k=s.size:=by omega
   have hge:¬((s.size:Int)<(s.size:Int)):=by omega
   have hgk:=zj hgk;go_wp2_with fail;go_quiet (fail);go_wp2_with fail;rw[Exit.noGoto_normal];go_end0;obtain rfl:g=s.size:=by rw[hgk.out,jj s _ (pF _)];rfl
   exact⟨rfl,hr.out.like rfl,qE hgr rfl rfl rfl rfl⟩
def QJ(s:ByteArray)(j:Nat)(ob:ByteArray)(q:Option (List UInt8×Nat)):Prop:=∃k,j=0+1+k/\kW s 0 k ob q/\ob.size<=k
theorem zfo(s:ByteArray)(i:Nat)(h:i<s.size):s.extract i (i+1)=⟨#[s[i]]⟩:=ByteArray.ext (Array.toList_inj.1 (uh s i h))
theorem ZY{s:ByteArray}(hB:∀c,c∈s.data.toList->ju c=true)(j:Nat)(hj:j<s.size):(s[j].toNat:Int)=10\/(32<=(s[j].toNat:Int)/\(s[j].toNat:Int)<=126):=by
 have h:ju s[j]=true:=hB _ (by show s.data[j]∈s.data.toList;simp);simp only[ju,wH,pI,pH,pX] at h;omega
section
variable {s:ByteArray} {j:Nat} {ob:ByteArray} {q:Option (List UInt8×Nat)}
theorem zk8(h:QJ s j ob q)(he:s.size<=j):q=none:=by obtain⟨k,rfl,h,_⟩:=h;exact zkg h he
theorem zlR(h:QJ s j ob q)(hlt:j<s.size)(b:((s[j].toNat:Int) == 10)=true):q=none:=by
 obtain⟨k,rfl,h,_⟩:=h;rw[pX] at b;exact zkh h hlt (by omega)
theorem zh3(h:QJ s j ob q)(hB:∀c,c∈s.data.toList->ju c=true)(hlt:j<s.size)(b:((s[j].toNat:Int) == 10)=false)(b3:((s[j].toNat:Int) == 34)=true):zgS q (j+1) ob (decide ((ob.size:Int)<=60)):=by
 have:=ZY hB j hlt;rw[pA] at b;obtain⟨k,rfl,h,_⟩:=h;exact zeY h hlt (by omega) (by omega) b3 _ (by omega)
theorem zh1(h:QJ s j ob q)(hB:∀c,c∈s.data.toList->ju c=true)(hlt:j<s.size)(b:((s[j].toNat:Int) == 10)=false)(b3:((s[j].toNat:Int) == 34)=false)(b4:((s[j].toNat:Int) == 92)=false):QJ s (j+1) (ob ++ ⟨#[s[j]]⟩) q:=by
 rw[<-zfo s j hlt];have:=ZY hB j hlt;rw[pA] at b;obtain⟨k,rfl,h,ho⟩:=h;exact⟨k+1,by omega,zeX h hlt (by omega) (by omega) b3 (by rw[bne,b4];rfl),by rw[ByteArray.size_append,ByteArray.size_extract];omega⟩
theorem zk9(h:QJ s j ob q)(hB:∀c,c∈s.data.toList->ju c=true)(hlt:j<s.size)(b:((s[j].toNat:Int) == 10)=false)(b3:((s[j].toNat:Int) == 34)=false)(b4:((s[j].toNat:Int) == 92)=true)(he:s.size<=j+1):q=none:=by
 have:=ZY hB j hlt;rw[pA] at b;obtain⟨k,rfl,h,ho⟩:=h;exact VL h hlt (by omega) (by omega) b3 (by rw[bne,b4];rfl) he
theorem zh2(h:QJ s j ob q)(hB:∀c,c∈s.data.toList->ju c=true)(hlt:j<s.size)(b:((s[j].toNat:Int) == 10)=false)(b3:((s[j].toNat:Int) == 34)=false)(b4:((s[j].toNat:Int) == 92)=true)(h2:j+1<s.size)
 (b5:((s[j+1].toNat:Int) == 34)=true\/((s[j+1].toNat:Int) == 92)=true):QJ s (j+2) (ob ++ ⟨#[s[j+1]]⟩) q:=by
 rw[<-zfo s (j+1) h2];have:=ZY hB j hlt;rw[pA] at b;obtain⟨k,rfl,h,ho⟩:=h;exact⟨k+2,by omega,zhL h hlt (by omega) (by omega) b3 (by rw[bne,b4];rfl) h2 (by simpa only[pX] using b5),by rw[ByteArray.size_append,ByteArray.size_extract];omega⟩
theorem zjD(h:QJ s j ob q)(hB:∀c,c∈s.data.toList->ju c=true)(hlt:j<s.size)(b:((s[j].toNat:Int) == 10)=false)(b3:((s[j].toNat:Int) == 34)=false)(b4:((s[j].toNat:Int) == 92)=true)(h2:j+1<s.size)
 (b5:((s[j+1].toNat:Int) == 34)=false) (b6:((s[j+1].toNat:Int) == 92)=false) (b7:((s[j+1].toNat:Int) == 110)=true):QJ s (j+2) (ob ++ ⟨#[10]⟩) q:=by
 have:=ZY hB j hlt;rw[pA] at b b5 b6;rw[pX] at b7;obtain⟨k,rfl,h,ho⟩:=h;exact⟨k+2,by omega,zhK h hlt (by omega) (by omega) b3 (by rw[bne,b4];rfl) h2 ⟨b5,b6⟩ b7,by rw[ByteArray.size_append];show ob.size+1<=k+2;omega⟩
theorem zla(h:QJ s j ob q)(hB:∀c,c∈s.data.toList->ju c=true)(hlt:j<s.size)(b:((s[j].toNat:Int) == 10)=false)(b3:((s[j].toNat:Int) == 34)=false)(b4:((s[j].toNat:Int) == 92)=true)(h2:j+1<s.size)
 (b5:((s[j+1].toNat:Int) == 34)=false) (b6:((s[j+1].toNat:Int) == 92)=false) (b7:((s[j+1].toNat:Int) == 110)=false):q=none:=by
 have:=ZY hB j hlt;rw[pA] at b b5 b6 b7;obtain⟨k,rfl,h,ho⟩:=h;exact zki h hlt (by omega) (by omega) b3 (by rw[bne,b4];rfl) h2 ⟨b5,b6⟩ b7
end
def Bd(w0:World)(b:Nat)(ob:ByteArray)(w:World):Prop:=IsB w0.heap.size b (Lib.byteCells ob.data.toList) w/\Below w0.heap.size w0 w
theorem Bd.fresh(w:World)(b:Nat)(hb:b=w.heap.size):Bd w b ByteArray.empty (w.alloc (.cells #[.pointer none,.slice none 0 0] 78)):=by
 subst hb;exact⟨.inl ⟨pF _,_,zl _ _,World.ownsRow_nil _ _ _ _,by simp[Value.ownBlock]⟩,bR.alloc (pF _) _⟩
theorem Bd.write{w0 w:World}{b:Nat}{ob:ByteArray}(h:Bd w0 b ob w)(hs:ob.size<=2000000000000)(c:UInt8):
 Calls prog 227 #[.pointer (some ⟨b,0,none⟩),.int .u8 (c.toNat:Int)] w fun e w'=>e=.returned .nilIface/\Bd w0 b (ob ++ ⟨#[c]⟩) w':=
 (KX w0.heap.size b _ (c.toNat:Int) w h.1 (pQ (Nat.le_of_eq (by rw[Lib.byteCells_length];exact congrArg (· +1) (by simp:ob.data.toList.length=ob.size))) (by omega:ob.size+1<=140737488355328)) h.2.size).mono fun e w' ⟨h1,h2,h3⟩=>⟨h1,.inr (by
  have e:Lib.byteCells (ob ++ ⟨#[c]⟩).data.toList=Lib.byteCells ob.data.toList ++ [.int .u8 c.toNat]:=by rw[zm];simp[Lib.byteCells]
  rw[e];exact h2),h.2.trans h3⟩
def BdF(w0:World)(b:Nat)(ob:ByteArray)(w:World):Prop:=Lib.IsBuilderF 78 5 w0.heap.size b (Lib.byteCells ob.data.toList) w/\Below w0.heap.size w0 w
theorem Bd.str{w0 w:World}{b:Nat}{ob:ByteArray}(h:Bd w0 b ob w):
 Calls prog 67 #[.pointer (some ⟨b,0,none⟩)] w fun e w'=>e=.returned (.string ob)/\BdF w0 b ob w':=
 (Any.Builder_String_any_f Tryz.lays169 Tryz.Builder_Extra_169 w0.heap.size b _ w (Lib.IsBuilderF.of h.1) h.2.size).mono fun e w' ⟨h1,h2,h3⟩=>⟨by rw[h1],h2,h.2.trans h3⟩
theorem BdF.len{w0 w:World}{b:Nat}{ob:ByteArray}(h:BdF w0 b ob w):
 Calls prog 240 #[.pointer (some ⟨b,0,none⟩)] w fun e w'=>e=.returned (.int .i64 ob.size)/\w'=w:=
 (Any.Builder_Len_f Tryz.lays170 w0.heap.size b _ w h.1).mono fun e w' ⟨h1,h2⟩=>⟨by rw[h1,Lib.byteCells_length];exact congrArg (fun n:Nat=>Ending.returned (.int .i64 n)) (by simp:ob.data.toList.length=ob.size),h2⟩
def zlC(q:Option (List UInt8×Nat))(w:World)(e:Ending)(w':World):Prop:=
 ∃t n ok,e=.returned (.tuple #[.string t,.int .i64 n,.bool ok])/\zgS q n t ok/\Below w.heap.size w w'
def zmc(s:ByteArray)(q:Option (List UInt8×Nat))(w:World)(i:Value)(wr:World):Prop:=
 ∃(j:Nat) (ob:ByteArray),i=.int .i64 j/\j<=s.size+1/\QJ s j ob q/\Bd w w.heap.size ob wr
theorem Xw(q:Option (List UInt8×Nat))(n:Int)(t:ByteArray)(h:q=none):zgS q n t false:=by subst h;exact rfl
theorem zcr(s:ByteArray)(w:World)(hs:s.size<=1000000000000)(hB:∀c,c∈s.data.toList->ju c=true):
 Calls prog 186 #[.string s] w (zlC (Lode.jk s.data.toList) w):=by
 have HB:=zj hB;clear hB;generalize hq:Lode.jk s.data.toList=q;have Hq:Hid (QJ s 1 ByteArray.empty q):=zj ⟨0,rfl,hq▸kW.start s 0,pF _⟩;clear hq;go_enter func186,ntmps186;go_wp2;go_loopw [6] (zmc s q w) (fun i _=>s.size+1-(intOf i).toNat)
 case atStart=>exact⟨1,_,rfl,by omega,Hq.out,Bd.fresh w _ rfl⟩
 case round=>
  obtain⟨j,ob,rfl,hj,hq,hb⟩:=hrel;have hob:ob.size<=s.size+1:=by obtain⟨k,_,_,h⟩:=hq;omega
  by_cases hlt:j<s.size
  ·have hW:=zj (fun c=>hb.write (by omega) c);have hW10:=zj (show Calls prog 227 #[.pointer (some ⟨w.heap.size,0,none⟩),.int .u8 10] wr _ from hb.write (by omega) 10);go_wp2_with (first
    |(go_at_call 67;refine hb.str.mono ?_;rintro e w1 ⟨rfl,hf⟩)
    |(go_at_call 240;refine hf.len.mono ?_;rintro e w' ⟨rfl,rfl⟩)
    |(go_at_call 227;with_reducible refine (hW.out _).mono ?_;rintro e w1 ⟨rfl,hb1⟩)
    |(go_at_call 227;refine hW10.out.mono ?_;rintro e w1 ⟨rfl,hb1⟩))
   ·go_ret3;exact⟨_,_,_,rfl,Xw _ _ _ (zlR hq hlt ‹_›),hb.2⟩
   ·go_ret3;exact⟨_,_,_,rfl,zh3 hq HB.out hlt ‹_› ‹_›,hf.2⟩
   ·go_ret3;exact⟨_,_,_,rfl,Xw _ _ _ (zk9 hq HB.out hlt ‹_› ‹_› ‹_› (by have h:=‹((j:Int)+1 == (s.size:Int))=true›;rw[pX] at h;omega)),hb.2⟩
   ·have hj2:j+1<s.size:=by omega
    go_roundw
    case rel=>exact⟨j+2,_,by go_num,by omega,zh2 hq HB.out hlt ‹_› ‹_› ‹_› hj2 (.inl ‹_›),hb1⟩
    case measure=>go_light;simp[intOf];omega
   ·have hj2:j+1<s.size:=by omega
    go_roundw
    case rel=>exact⟨j+2,_,by go_num,by omega,zh2 hq HB.out hlt ‹_› ‹_› ‹_› hj2 (.inr ‹_›),hb1⟩
    case measure=>go_light;simp[intOf];omega
   ·have hj2:j+1<s.size:=by omega
    go_roundw
    case rel=>exact⟨j+2,_,by go_num,by omega,zjD hq HB.out hlt ‹_› ‹_› ‹_› hj2 ‹_› ‹_› ‹_›,hb1⟩
    case measure=>go_light;simp[intOf];omega
   ·have hj2:j+1<s.size:=by omega
    go_ret3;exact⟨_,_,_,rfl,Xw _ _ _ (zla hq HB.out hlt ‹_› ‹_› ‹_› hj2 ‹_› ‹_› ‹_›),hb.2⟩
   ·exfalso;have h:=‹((j:Int)+1 == (s.size:Int))=false›;rw[pA] at h;omega
   ·go_roundw
    case rel=>exact⟨j+1,_,by go_num,by omega,zh1 hq HB.out hlt ‹_› ‹_› ‹_›,hb1⟩
    case measure=>go_light;simp[intOf];omega
  ·go_wp2_with fail;go_ret3;exact⟨_,_,_,rfl,Xw _ _ _ (zk8 hq (by omega)),hb.2⟩
def ziQ(r:List xQ×Nat×Nat)(w:World)(e:Ending)(w':World):Prop:=
 ∃v,e=.returned (.tuple #[v,.int .i64 r.2.1,.int .i64 r.2.2])/\vU w' w.heap.size v r.1/\Below w.heap.size w w'
theorem ziw{s:ByteArray}(h:(xP s.data.toList).2=0):s.size<=3000:=by
 rcases Nat.lt_or_ge 3000 s.size with h1|h1
 ·unfold xP at h;rw[if_pos (by simpa using h1)] at h;cases h
 ·exact h1
theorem vU.form{w:World}{b:Nat}{v:Value}{l:List xQ}(h:vU w b v l):∃p cap,v=.slice p l.length cap:=by
 obtain⟨_,⟨h1,h2⟩|⟨g,cap,cur,h1,_⟩⟩:=h
 ·exact⟨none,0,by rw[h1,h2]⟩
 ·exact⟨_,cap,h1⟩
theorem Zy(w:World)(b:Nat):vU w b (.slice none 0 0) []:=World.ownsRow_nil _ _ _ _
theorem zg5(w:World)(b:Nat)(h:b<=w.heap.size):vU (w.alloc (.cells #[] 66)) b (.slice (some ⟨w.heap.size,0,none⟩) 0 0) []:=World.ownsRow_lit w #[] 0 h (by decide) (by decide)
theorem Tryz.infoTok:(prog.info? 66).map (fun i=>(i.zero,i.size,i.bytes))=some (some (.agg #[.int .u8 0,.string ⟨#[]⟩,.int .i64 0]),3,32):=by kernel_rfl
theorem QI(s:ByteArray)(a:Nat)(hs:s.size<=1000000000000)(ha:a<s.size)(ht:xd (s.data.toList.drop a)=none)(w:World):
 Calls prog 85 #[.string s,.int .i64 a] w fun e w'=>(∃k t a' n,e=.returned (.tuple #[.agg #[.int .u8 k,.string t,.int .i64 a'],.int .i64 n,.bool false]))/\Below w.heap.size w w':=
 (YD s a w hs ha).mono fun e w' ⟨k,t,a',n,ok,h1,h2,h3⟩=>by
  rw[ht] at h2;exact⟨⟨k,t,a',n,by rw[h1,show ok=false from h2]⟩,h3⟩
theorem QH(s:ByteArray)(a:Nat)(hs:s.size<=1000000000000)(ha:a<s.size)(k:Nat)(t:List UInt8)(m:Nat)(ht:xd (s.data.toList.drop a)=some (k,t,m))(w:World):
 Calls prog 85 #[.string s,.int .i64 a] w fun e w'=>e=.returned (.tuple #[.agg #[.int .u8 k,.string ⟨t.toArray⟩,.int .i64 a],.int .i64 m,.bool true])/\Below w.heap.size w w':=
 (YD s a w hs ha).mono fun e w' ⟨k',t',a',n,ok,h1,h2,h3⟩=>by
  rw[ht] at h2;obtain⟨rfl,rfl,rfl,rfl,rfl⟩:=h2;exact⟨h1,h3⟩
def zmJ(s:ByteArray)(r:List xQ×Nat×Nat)(w:World)(v a:Value)(wr:World):Prop:=
 ∃(L:List xQ) (k:Nat),a=.int .i64 k/\uu s.data.toList r L k/\vU wr w.heap.size v L/\Below w.heap.size w wr
theorem zfX(s:ByteArray)(w:World)(hs:s.size<=1000000000000):
 Calls prog 45 #[.string s] w (ziQ (Lode.jp s.data.toList) w):=by
 generalize hr:Lode.jp s.data.toList=r;have Hr:=zj hr;clear hr;have Hc:=zj (fun w=>zdw s w (by omega));generalize hc:xP s.data.toList=c at *;obtain⟨ca,ce⟩:=c;have Hcc:=zj hc;clear hc;by_cases he:ce=0
 ·subst he;have h3:=ziw (by rw[Hcc.out]);have Hst:=zj (uu.start (s:=s.data.toList) (by rw[Hcc.out]));rw[Hr.out] at Hst;have Hg:=zj (fun (a:Nat) w (ha:a<=s.size)=>zhA s a w (by omega) ha);have Hf:=zj (fun (a:Nat) w (ha:a<s.size)=>YD s a w (by omega) ha);obtain⟨i0,hi,hz0,hz1,hz2⟩:=info_parts Tryz.infoTok;have Hi:=zj (And.intro hi (And.intro hz0 (And.intro hz1 hz2)));clear hi hz0 hz1 hz2;go_enter func45,ntmps45;go_wp2_with (first
   |(go_at_call 83;refine (Hc.out _).mono ?_;rintro e w' ⟨rfl,rfl⟩)
   |(go_at_call 84;refine (Hg.out 0 _ (by omega)).mono ?_;rintro e w' ⟨rfl,rfl⟩))
  go_loopw [7,8] (zmJ s r w) (fun _ a _=>s.size-(intOf a).toNat)
  case atStart=>exact⟨[],_,rfl,by simpa using Hst.out,zg5 _ _ (by simp),bR.alloc (pF _) _⟩
  case round=>
   obtain⟨L,k,rfl,hinv,htok,hbel⟩:=hrel;have hk:k<=s.size:=by simpa using hinv.le
   by_cases hlt:k<s.size
   ·have hlt':k<s.data.toList.length:=by simpa using hlt
    cases ht:xd (s.data.toList.drop k) with
    |none=>
     have HF:=zj (QI s k (by omega) hlt ht);have He:=zj (hinv.bad hlt' ht);go_wp2_with (go_at_call 85;refine (HF.out _).mono ?_;rintro e w1 ⟨⟨kk,t,a',n,rfl⟩,hb⟩;have hb1:=hbel.trans (hb.mono hbel.size));go_ret3;rw[He.out];exact⟨_,rfl,Zy _ _,by repeat (first|exact hb1|with_reducible apply Below.drew|with_reducible apply yc|with_reducible refine qo ?_ _ _ (by omega) _)⟩
    |some x=>
     obtain⟨kk,t,m⟩:=x;have HF:=zj (QH s k (by omega) hlt kk t m ht);have hm:=vu ht;obtain⟨p,cap,rfl⟩:=htok.form;simp only[wV,Array.length_toList] at hm;by_cases hL:L.length=1200
     ·have He:=zj (hinv.full hlt' ht hL);go_wp2_with (go_at_call 85;refine (HF.out _).mono ?_;rintro e w1 ⟨rfl,hb⟩;have hb1:=hbel.trans (hb.mono hbel.size));go_ret3;rw[He.out];exact⟨_,rfl,Zy _ _,by repeat (first|exact hb1|with_reducible apply Below.drew|with_reducible apply yc|with_reducible refine qo ?_ _ _ (by omega) _)⟩
     ·have hn:=zj (hinv.next hlt' ht hL);have hLle:=zj hinv;clear hinv ht;have hL':((L.length:Int) == 1200)=false:=bfE (by omega)
      have hL12:L.length<=1200:=by obtain⟨_,_,_,_,_,h,_⟩:=hLle.out;exact h
      go_wp2_with (first
       |(go_at_call 85;refine (HF.out _).mono ?_;rintro e w1 ⟨rfl,hb⟩;have hb1:=hbel.trans (hb.mono hbel.size);have htok1:=htok.below hb)
       |(go_at_call 84;refine (Hg.out (k+m) _ (by omega)).mono ?_;rintro e w' ⟨rfl,rfl⟩)
       |(at_builtin;refine wpList_append_own _ rfl _ _ 52 rfl w.heap.size 66 i0 _ 3 32 underlying52 Hi.out.1 Hi.out.2.1 Hi.out.2.2.1 Hi.out.2.2.2 rfl (by decide) _ _ _ rfl ((World.ownsRow.alloc htok1 _).alloc _) ⟨w1.heap.size+1,0,none⟩ 1 1 (qS ⟨kk,t,(k:Nat)⟩) rfl rfl ?c1 ?c2 ?c3 ?c4 ?c5 ?_))
      case c1=>exact World.news_of_block (cs:= #[.int .u8 kk,.string ⟨t.toArray⟩,.int .i64 k]) (t:=66) (fr:=(0,0)) (qe _ _ _ (by simp))
      case c2=>intro u hu;simp[qS] at hu;rcases hu with rfl|rfl|rfl <;> rfl
      case c3=>unfold maxLen;omega
      case c4=>omega
      case c5=>have:=hb1.size;simp;omega
      ·intro v' w2 hown' hgrow _;have hb2:=zj (jH (yc (yc hb1 _) _) ((World.ownsRow.alloc htok1 _).alloc _) hgrow);have hown2:=zj (vU.snoc (t:=⟨kk,t,(k:Nat)⟩) hown');clear hown' hgrow htok1 hb hb1 hbel htok hL hL';generalize hgg:zT false (s.data.toList.drop (k+m))=gg at *;have hgb:k+m+gg<=s.size:=by have:=hn.out.le;simpa using this
       have Hgg:=zj (fun w=>hgg▸Hg.out (k+m) w (by omega));clear hgg;go_wp2_with (go_at_call 84;refine (Hgg.out _).mono ?_;rintro e w' ⟨rfl,rfl⟩);go_roundw
       case rel=>exact⟨_,_,by go_num,hn.out,hown2.out,hb2.out⟩
       case measure=>simp[intOf];omega
   ·have He:=zj (hinv.done (by simp;omega));go_wp2_with fail;go_ret3;rw[He.out];exact⟨_,rfl,htok,hbel⟩
 ·have Hrr:Hid (r=([],ca,ce)):=zj (by rw[<-Hr.out,Lode.jp,Hcc.out];simp[he]);have he':((ce:Int) != 0)=true:=by simpa using he
  go_enter func45,ntmps45;go_wp2_with (go_at_call 83;refine (Hc.out _).mono ?_;rintro e w' ⟨rfl,rfl⟩);go_ret3;rw[Hrr.out];exact⟨_,rfl,Zy _ _,pE _ _⟩
def jD(zs:List Int)(c:UInt8):Bool:=zs.any fun y=>jW c == y
theorem zh{w W:World}(h:Below w.heap.size w W){a:Addr}{v:Value}(hc:w.cell? a=some v):W.cell? a=some v:=by
 rw[World.cell?_of_block (h.block _ (World.block_lt_of_cell? w _ hc))];exact hc
theorem zi{w W:World}(h:Below w.heap.size w W){b:Nat}{o:Obj}(hc:w.heap[b]? =some o):W.heap[b]? =some o:=by
 rw[h.block b (gtA hc)];exact hc
theorem zlN(zs:List Int)(b x:Nat)(w:World)(hx:w.cell? ⟨x,0,none⟩=some (.slice (some ⟨b,0,none⟩) zs.length zs.length))(hz:zs.length<=1000)
 (hc:∀j,j<zs.length->w.cell? ⟨b,j,none⟩=some (.int .u8 zs[j]!)):XK prog 236 #[.pointer (some ⟨x,0,none⟩)] (jD zs) w:=by
 refine⟨enters_of func236 (by kernel_rfl) rfl,fun W c hbW=>?_⟩;have hx':W.cell? ⟨x,0,none⟩=some (.slice (some ⟨b,0,none⟩) zs.length zs.length):=zh hbW hx;have hc':∀j,j<zs.length->W.cell? ⟨b,0+j,none⟩=some (.int .u8 zs[j]!):=fun j hj=>by rw[Nat.zero_add];exact zh hbW (hc j hj)
 have Hc:=zj (fun (W':World) (q:∃n,W'=W.drewN n)=>Tryz.slices_Contains_class (Value.int .u8) _ (EqlAt.int prog _ .u8) b 0 zs.length zs.length zs (jW c) W' (pF _) (by omega) (fun j hj=>by obtain⟨n,rfl⟩:=q;exact hc' j hj));clear hc hc';go_enter func236,ntmps236;go_wp2_with fail;go_quiet ((first
  |(go_at_call 182;refine (jF c _).mono ?_;rintro e w' ⟨rfl,rfl⟩;exact⟨rfl,_,rfl⟩)
  |(go_at_call 237;refine (Hc.out _ ⟨_,rfl⟩).mono ?_;rintro e w' ⟨rfl,rfl⟩;exact⟨rfl,_,rfl⟩)))
 go_wp2;go_ret;exact⟨by simp[jD],by repeat (first|exact pE _ _|with_reducible apply Below.drew|with_reducible apply ye)⟩
theorem QG(p:UInt8->Bool):∀l:List UInt8,yd p l=(xL (fun c=> !p c) l).getD l.length
 |[]=>rfl
 |c :: r=>by
  by_cases h:p c=true
  ·simp[yd,xL,h,QG p r]
  ·have h:p c=false:=by simpa using h
   simp[yd,xL,h]
theorem zjm(R:Nat)(s:ByteArray)(a:Nat)(wv sv:Value)(zs:List Int)(b:Nat)(w:World)(hs:s.size<=1000000000000)(ha:a<s.size)(hR:kP w R s a wv sv)(hz:zs.length<=1000)
 (hc:∀j,j<zs.length->w.cell? ⟨b,j,none⟩=some (.int .u8 zs[j]!)) :
 Calls prog 183 #[.pointer (some ⟨R,0,none⟩),.slice (some ⟨b,0,none⟩) zs.length zs.length] w fun e w'=>e=.returned (.int .i64 (yd (jD zs) (s.data.toList.drop (a+1))))/\Below w.heap.size w w':=by
 have hc0:w.cell? ⟨R,0,none⟩=some (.string s):=zd hR 0;have hc1:w.cell? ⟨R,1,none⟩=some (.int .i64 a):=zd hR 1;have hxe:(s.extract (a+1) s.size).data.toList=s.data.toList.drop (a+1):=by simp[List.extract_eq_take_drop];exact List.take_of_length_le (by simp)
 have hsz:(s.extract (a+1) s.size).size=s.size-(a+1):=by simp
 have hn0:∀o,(w.alloc o).cell? ⟨R,0,none⟩=some (.string s):=fun o=>zh (bR.alloc (pF _) o) hc0
 have hn1:∀o,(w.alloc o).cell? ⟨R,1,none⟩=some (.int .i64 a):=fun o=>zh (bR.alloc (pF _) o) hc1
 rw[QG];have HF:=zj (fun (W:World) (q:∃n,W=(w.alloc (.cells #[.slice (some ⟨b,0,none⟩) zs.length zs.length] 223)).drewN n)=>Qt (s.extract (a+1) s.size) 236 #[.pointer (some ⟨w.heap.size,0,none⟩)] (jD zs) W
  (zlN zs b w.heap.size W (by obtain⟨n,rfl⟩:=q;simp) hz (fun j hj=>by obtain⟨n,rfl⟩:=q;exact zh ((bR.alloc (pF _) _).trans (ye bR n |>.mono (by simp))) (hc j hj))) (by rw[hsz];omega))
 rw[hxe] at HF;have hl:(s.data.toList.drop (a+1)).length=s.size-(a+1):=by simp
 generalize hf:xL (fun c=> !jD zs c) (s.data.toList.drop (a+1))=f at *;rw[hl];clear hR hc hl hf hxe;have h1:(a:Int)+1<=(s.size:Int):=by omega
 have h2:(0:Int)<=(a:Int)+1:=by omega
 have h3:IntKind.i64.wrap ((a:Int)+1)=a+1:=pC _ (by omega);have h4:((a:Int)+1).toNat=a+1:=by omega
 have h5:a+1<=s.size:=by omega
 cases f with
 |none=>
  simp only[zbc,Option.getD_none] at *;go_enter func183,ntmps183;go_wp2_with fail;go_quiet (fail);clear h1 h2 h3 h4;go_wp2_with (go_at_call 122;refine (HF.out _ ⟨_,rfl⟩).mono ?_;rintro e w1 ⟨rfl,hb⟩);go_ret;exact⟨rfl,(ye (yc bR _) nq).trans (hb.mono (by simp))⟩
 |some i=>
  simp only[zbc,Option.getD_some] at *;go_enter func183,ntmps183;go_wp2_with fail;go_quiet (fail);clear h1 h2 h3 h4;go_wp2_with (go_at_call 122;refine (HF.out _ ⟨_,rfl⟩).mono ?_;rintro e w1 ⟨rfl,hb⟩);go_ret;exact⟨rfl,(ye (yc bR _) nq).trans (hb.mono (by simp))⟩
structure qG(w:World):Prop where
 space:Lib.TabIs prog w "strings.asciiSpace" .u8 Lib.asciiSpaceTab
 pow:Lib.TabIs prog w "internal/strconv.uint64pow10" .u64 Lib.pow10Tab
 erange:∃tp p,w.var? prog "strconv.ErrRange" =some #[.iface tp p]
theorem XV{n:String}{g:Nat}(hg:prog.globalNamed n=some g){w w':World}(hb:Below w.heap.size w w'){r:Array Value}(h:w.var? prog n=some r):w'.var? prog n=some r:=by
 unfold World.var? at *;rw[hg] at h ⊢;simp only[Option.bind_some] at h ⊢;have hlt:g<w.heap.size:=by
  rcases Nat.lt_or_ge g w.heap.size with h'|h'
  ·exact h'
  ·rw[Array.getElem?_eq_none h'] at h;cases h
 rw[hb.block g hlt];exact h
theorem qG.later{w w':World}(h:qG w)(hb:Below w.heap.size w w'):qG w':=
 ⟨XV (g:=0) (by kernel_rfl) hb h.space,XV (g:=3) (by kernel_rfl) hb h.pow,by
  obtain⟨tp,p,h⟩:=h.erange;exact⟨tp,p,XV (g:=5) (by kernel_rfl) hb h⟩⟩
theorem zbe(s:ByteArray)(w:World)(hs:s.size<=1000000000000)(hG:qG w)(h0:s.data.toList≠[])(hd:s.data.toList.all zL=true):
 Calls prog 185 #[.string s] w fun e w'=>e=.returned (.bool (jR s.data.toList))/\Below w.heap.size w w':=by
 have ha:=Ja s.data.toList h0 hd;rw[zeh _ h0 hd];generalize hv:xy s.data.toList=v at *;have hG:=zj hG;by_cases hlt:v<9223372036854775808
 ·rw[if_pos hlt] at ha;have Ha:=zj (Tryz.strconv_Atoi_ok s (by omega) v ha);clear ha hv h0 hd;by_cases hle:v<=1000000000
  ·have hI:=zj (fun (W:World) (hb:Below w.heap.size w W)=>Tryz.strconv_Itoa v (by omega) (by omega) W (hG.out.later hb).pow);have hle':((v:Int)<=1000000000):=by omega
   have hr:(decide (v<=1000000000) && decide (Go.Lib.itoa v=s.data.toList))=decide (Go.Lib.itoa v=s.data.toList):=by simp[hle]
   rw[hr];clear hr hle;go_enter func185,ntmps185;go_wp2_with (first
    |(go_at_call 239;refine (Ha.out _).mono ?_;rintro e w1 ⟨rfl,hw⟩;have hb:Below w.heap.size w w1:=(by rcases hw with rfl|⟨t,rfl⟩;exact pE _ _;exact uj _ _ _);clear hw)
    |(go_at_call 160;refine (hI.out _ hb).mono ?_;rintro e w2 ⟨rfl,hw2⟩;have hb2:Below w.heap.size w w2:=(by obtain⟨k,os,rfl⟩:=hw2;exact zf hb (Lib.below_grow _ _ (pF _) k os));clear hw2))
   go_ret;exact⟨congrArg (fun b=>Ending.returned (.bool b)) (by rw[pP];simp[ByteArray.toList_eq]),hb2⟩
  ·have hr:(decide (v<=1000000000) && decide (Go.Lib.itoa v=s.data.toList))=false:=by simp[hle]
   rw[hr];have hle':¬((v:Int)<=1000000000):=by omega
   clear hr hle;go_enter func185,ntmps185;go_wp2_with (go_at_call 239;refine (Ha.out _).mono ?_;rintro e w1 ⟨rfl,hw⟩;have hb:Below w.heap.size w w1:=(by rcases hw with rfl|⟨t,rfl⟩;exact pE _ _;exact uj _ _ _);clear hw);go_ret;exact⟨rfl,hb⟩
 ·rw[if_neg hlt] at ha;have hr:(decide (v<=1000000000) && decide (Go.Lib.itoa v=s.data.toList))=false:=by simp;omega
  rw[hr];obtain⟨tp,p,hE⟩:=hG.out.erange;have Ha:=zj (Tryz.strconv_Atoi_range_var s (by omega) ha tp p w hE);clear hr ha hE hv h0 hd;go_enter func185,ntmps185;go_wp2_with (go_at_call 239;refine Ha.out.mono ?_;rintro e w1 ⟨N,rfl,_,_,hb⟩);go_ret;exact⟨rfl,hb⟩
theorem KB(s:ByteArray)(l:List (List UInt8))(hf:Lib.fields s.data.toList=l)(hs:decide (s.size<4294967281)=true)(ha:s.data.toList.all (fun b=>decide (b.toNat<128))=true)(w:World)(hG:qG w):
 Calls prog 180 #[.string s] w fun e w'=>e=.returned (.slice (some ⟨w.heap.size,0,none⟩) l.length l.length)/\w.alloc (.cells (Yy l) 9)=w':=by
 subst hf;exact (Tryz.strings_Fields s w (of_decide_eq_true hs) (fun j b hb=>by
  have:=pZ.1 ha b (pM hb);simpa using this) hG.space).mono fun e w' ⟨h1,h2⟩=>⟨h1,h2.symm⟩
theorem zfA(w:World)(hG:qG w):
 Calls prog 124 #[] w fun e w'=>e=.returned (.slice (some ⟨w.heap.size,0,none⟩) 44 44)/\w.alloc (.cells (Yy xE) 9)=w':=by
 have hG:=zj hG;go_enter func124,ntmps124;go_wp2_with (go_at_call 180;go_loud (refine (KB _ xE ?_ ?_ ?_ _ hG.out).mono ?_;rotate_left 3;rintro e w' ⟨rfl,rfl⟩;rotate_right 3;kernel_rfl;kernel_rfl;kernel_rfl));go_ret;exact⟨rfl,rfl⟩
theorem zfO(w:World)(hG:qG w):
 Calls prog 125 #[] w fun e w'=>e=.returned (.slice (some ⟨w.heap.size,0,none⟩) 25 25)/\w.alloc (.cells (Yy yb) 9)=w':=by
 have hG:=zj hG;go_enter func125,ntmps125;go_wp2_with (go_at_call 180;go_loud (refine (KB _ yb ?_ ?_ ?_ _ hG.out).mono ?_;rotate_left 3;rintro e w' ⟨rfl,rfl⟩;rotate_right 3;kernel_rfl;kernel_rfl;kernel_rfl));go_ret;exact⟨rfl,rfl⟩
def Rd(w:World)(R:Nat)(s:ByteArray)(a:Nat):Prop:=
 ∃wb sb,kP w R s a (.slice (some ⟨wb,0,none⟩) 44 44) (.slice (some ⟨sb,0,none⟩) 25 25)/\w.heap[wb]? =some (.cells (Yy xE) 9 (0,0))/\w.heap[sb]? =some (.cells (Yy yb) 9 (0,0))/\wb≠R/\sb≠R
theorem Vk(s:ByteArray)(w:World)(hG:qG w):
 Calls prog 78 #[.string s] w fun e w'=>e=.returned (.pointer (some ⟨w.heap.size+2,0,none⟩))/\Rd w' (w.heap.size+2) s 0/\Below w.heap.size w w':=by
 have HW:=zj (fun (W:World) (hb:Below w.heap.size w W)=>zfA W (hG.later hb));have HS:=zj (fun (W:World) (hb:Below w.heap.size w W)=>zfO W (hG.later hb));have hG:=zj hG;go_enter func78,ntmps78;go_wp2_with (first
  |(go_at_call 124;refine (HW.out _ bR).mono ?_;rintro e w' ⟨rfl,rfl⟩)
  |(go_at_call 125;refine (HS.out _ (zg _ _)).mono ?_;rintro e w' ⟨rfl,rfl⟩))
 go_ret;refine⟨rfl,⟨w.heap.size,w.heap.size+1,?_,?_,?_,by omega,by omega⟩,yc (yc (zg _ _) _) _⟩
 ·exact qe _ _ _ (by simp)
 ·exact xN _ (xN _ (zl _ _))
 ·exact xN _ (qe _ _ _ (by simp))
end
section
open Go.RowKit Lode Go.Shelf
open Go.Proofs.Tryz
theorem zfh:jD [1,3]=fun c=>zL c || (true && zM c):=by
 funext c;rw[pP];by_cases h1:zM c=true
 ·simp[jD,jW,h1]
 ·by_cases h2:kZ c=true
  ·have h3:zL c=false:=by simp[kZ] at h2;simp[zL];omega
   simp[jD,jW,h1,h2,h3]
  ·by_cases h3:zL c=true <;> simp[jD,jW,h1,h2,h3]
theorem zli:jD [3]=zL:=by
 funext c;rw[pP];by_cases h1:zM c=true
 ·have h3:zL c=false:=by simp[zM] at h1;simp[zL];omega
  simp[jD,jW,h1,h3]
 ·by_cases h2:kZ c=true
  ·have h3:zL c=false:=by simp[kZ] at h2;simp[zL];omega
   simp[jD,jW,h1,h2,h3]
  ·by_cases h3:zL c=true <;> simp[jD,jW,h1,h2,h3]
abbrev T0(a:Nat):Obj:=.cells #[.int .u8 0,.string ⟨#[]⟩,.int .i64 a] 66 (0,0)
abbrev CL(zs:List Int):Obj:=.cells (zs.map (Value.int .u8)).toArray 194 (0,0)
structure Tk(w W:World)(k:Int)(t:ByteArray)(a:Nat):Prop where
 b:Below w.heap.size w W
 h:W.heap[w.heap.size]? =some (.cells #[.int .u8 k,.string t,.int .i64 a] 66 (0,0))
theorem Tk.cells{w W:World}{k:Int}{t:ByteArray}{a:Nat}(h:Tk w W k t a):W.cell? ⟨w.heap.size,0,none⟩=some (.int .u8 k)/\W.cell? ⟨w.heap.size,1,none⟩=some (.string t)/\W.cell? ⟨w.heap.size,2,none⟩=some (.int .i64 a)/\
 W.frozen? ⟨w.heap.size,0,none⟩=false/\W.frozen? ⟨w.heap.size,1,none⟩=false/\W.frozen? ⟨w.heap.size,2,none⟩=false:=⟨zd h.h 0,zd h.h 1,zd h.h 2,zk h.h 0,zk h.h 1,zk h.h 2⟩
theorem Tk.rdr{w W:World}{k:Int}{t:ByteArray}{a:Nat}(h:Tk w W k t a){R:Nat}{s:ByteArray}{p:Nat}{wv sv:Value}(hR:kP w R s p wv sv):W.cell? ⟨R,0,none⟩=some (.string s)/\W.cell? ⟨R,1,none⟩=some (.int .i64 p)/\W.cell? ⟨R,2,none⟩=some wv/\W.cell? ⟨R,3,none⟩=some sv:=
 ⟨zh h.b (zd hR 0),zh h.b (zd hR 1),zh h.b (zd hR 2),zh h.b (zd hR 3)⟩
theorem JR{w:World}{R:Nat}{s:ByteArray}{p:Nat}{wv sv:Value}(hR:kP w R s p wv sv):R≠w.heap.size:=
 fun e=>by have:=World.block_lt_of_cell? w _ (zd hR 0:w.cell? ⟨R,0,none⟩=some _);rw[e] at this;exact Nat.lt_irrefl _ this
theorem Tk.drew{w W:World}{k:Int}{t:ByteArray}{a:Nat}(h:Tk w W k t a):Tk w W.drew k t a:=⟨h.b.drew,h.h⟩
theorem Tk.kind{w W:World}{k:Int}{t:ByteArray}{a:Nat}(h:Tk w W k t a)(k':Int):Tk w (W.setCell ⟨w.heap.size,0,none⟩ (.int .u8 k')) k' t a:=⟨qo h.b _ _ (pF _) _,zo h.h 0 _⟩
theorem Tk.text{w W:World}{k:Int}{t:ByteArray}{a:Nat}(h:Tk w W k t a)(t':ByteArray):Tk w (W.setCell ⟨w.heap.size,1,none⟩ (.string t')) k t' a:=⟨qo h.b _ _ (pF _) _,zo h.h 1 _⟩
theorem Tk.at{w W:World}{k:Int}{t:ByteArray}{a:Nat}(h:Tk w W k t a):Tk w (W.setCell ⟨w.heap.size,2,none⟩ (.int .i64 a)) k t a:=⟨qo h.b _ _ (pF _) _,zo h.h 2 _⟩
theorem Tk.drewN{w W:World}{k:Int}{t:ByteArray}{a:Nat}(h:Tk w W k t a)(n:Nat):Tk w (W.drewN n) k t a:=⟨ye h.b n,by rw[ko];exact h.h⟩
theorem Tk.later{w W W':World}{k:Int}{t:ByteArray}{a:Nat}(h:Tk w W k t a)(hb:Below W.heap.size W W'):Tk w W' k t a:=⟨zf h.b hb,zi hb h.h⟩
theorem qF{R b:Nat}(h:R≠b)(w:World)(i j:Nat)(v:Value):(w.setCell ⟨b,i,none⟩ v).cell? ⟨R,j,none⟩=w.cell? ⟨R,j,none⟩:=by
 refine World.cell?_of_block (a:=⟨R,j,none⟩) ?_;simp[World.setCell,Array.getElem?_modify,Ne.symm h]
theorem Qv(w:World)(a:Addr):w.drew.cell? a=w.cell? a:=rfl
theorem Yz(R:Nat)(s:ByteArray)(a:Nat)(wv sv:Value)(zs:List Int)(w W:World)(hs:s.size<=1000000000000)(ha:a<s.size)(hR:kP w R s a wv sv)(hz:zs.length<=1000)(m:Nat)(hm:yd (jD zs) (s.data.toList.drop (a+1))=m)
 (q:∃n,W=((w.alloc (T0 a)).drewN n).alloc (CL zs)) (b:Nat) (hbb:b=w.heap.size+1) :
 Calls prog 183 #[.pointer (some ⟨R,0,none⟩),.slice (some ⟨b,0,none⟩) zs.length zs.length] W fun e w1=>e=.returned (.int .i64 m)/\Tk w w1 0 ⟨#[]⟩ a:=by
 obtain⟨n,rfl⟩:=q;subst hbb;have hb:Below w.heap.size w (((w.alloc (T0 a)).drewN n).alloc (CL zs)):=yc (ye (zg _ _) _) _;have hC:(((w.alloc (T0 a)).drewN n).alloc (CL zs)).heap[w.heap.size+1]? =some (CL zs):=qe _ _ _ (by simp);refine (zjm R s a wv sv zs (w.heap.size+1) _ hs ha (zi hb hR) hz (fun j hj=>by rw[zd hC j];simp[hj])).mono fun e w1 ⟨h1,h2⟩=>⟨by rw[h1,hm],?_⟩
 exact⟨zf hb h2,zi h2 (xN _ (by rw[ko];exact zl _ _))⟩
theorem zfz(x:ByteArray)(W:World)(b:Nat)(hb:W.heap[b]? =some (.cells (Yy xE) 9 (0,0))):
 Calls prog 184 #[.slice (some ⟨b,0,none⟩) 44 44,.string x] W fun e w'=>e=.returned (.bool (xE.contains x.data.toList))/\w'=W:=by
 have h:=Tryz.slices_Contains_string b 0 44 44 (xE.map fun l=>⟨l.toArray⟩) x W (by decide) (by decide) (fun j hj=>by
  rw[Nat.zero_add,zd hb j];have hj':j<xE.length:=by simpa using hj
  simp only[Yy,pW,wD,pB];rw[glE hj'];rfl)
 have hh:Lib.containsS (List.take 44 (xE.map fun l=>⟨l.toArray⟩)) x=xE.contains x.data.toList:=by
  rw[List.take_of_length_le (by decide),pP,Lib.containsS_iff];simp only[List.mem_map,List.contains_iff_mem];constructor
  ·rintro ⟨l,hl,rfl⟩;simpa using hl
  ·intro h;exact⟨_,h,(ur x).symm⟩
 rw[hh] at h;exact h
theorem jU{w W:World}(h:Below w.heap.size w W){a:Addr}(hlt:a.block<w.heap.size)(hc:w.frozen? a=false):W.frozen? a=false:=by
 rw[World.frozen?_of_block (h.block _ hlt)];exact hc
theorem Qa{w:World}{a:Addr}{v:Value}(h:w.cell? a=some v):w.setCell a v=w:=by
 unfold World.cell? at h;have hh:(w.setCell a v).heap=w.heap:=by
  apply Array.ext (by simp[World.setCell]);intro i h1 h2;simp only[World.setCell,Array.getElem_modify];split
  ·rename_i e;subst e;rw[Array.getElem?_eq_getElem h2] at h;generalize w.heap[a.block]=o at *;cases o <;> simp_all;rename_i c _ _;obtain⟨hlt,hv⟩:=gG.1 h.2;apply Array.ext (by simp);intro i h1 h2;rw[Array.getElem_setIfInBounds];split
   ·rename_i e;subst e;exact hv.symm
   ·rfl
  ·rfl
 have e:w.setCell a v={w with heap:=(w.setCell a v).heap}:=rfl;rw[e,hh]
theorem zw{b k:Nat}(h:k≠b){w:World}{i:Nat}{v:Value}:(w.setCell ⟨b,i,none⟩ v).heap[k]? =w.heap[k]? :=Below.heap_setCell w ⟨b,i,none⟩ v k h
end
section
open Go.RowKit Lode Go.Shelf
attribute [local go_sem ↓] Go.wp_at_zero Go.wp_at_succ
open Go.Proofs.Tryz
def zkx(s:ByteArray)(x i:Value):Prop:=∃(k:Nat) (ob:ByteArray),k<=s.size/\i=.int .i64 k/\x=.string ob/\(s.data.toList.take k).all ju=true/\ob.data.toList=34 :: (s.data.toList.take k).flatMap yR/\ob.size<=2*k+1
theorem Xm(c:UInt8):(yR c).length<=2:=by
 unfold yR;split
 ·simp
 ·split <;> simp
theorem JJ(s:ByteArray)(k:Nat)(hlt:k<s.size):s.data.toList.take (k+1)=s.data.toList.take k ++ [s[k]]:=by
 have hk:k<s.data.toList.length:=by simpa using hlt
 rw[<-List.take_append_getElem hk];congr 2
theorem Jn{s:ByteArray}{k:Nat}{ob:ByteArray}(hlt:k<s.size)(hall:(s.data.toList.take k).all ju=true)(hob:ob.data.toList=34 :: (s.data.toList.take k).flatMap yR)(hsz:ob.size<=2*k+1)(x:ByteArray)(hx:x.data.toList=yR s[k])(hB:ju s[k]=true):
 zkx s (.string (ob ++ x)) (.int .i64 ((k:Int)+1)):=by
 refine⟨k+1,_,by omega,by go_num,rfl,?_,?_,?_⟩
 ·rw[JJ s k hlt,List.all_append,hall];simp[hB]
 ·rw[zm,hob,hx,JJ s k hlt];simp
 ·have h1:x.size=(yR s[k]).length:=by rw[<-hx];simp
  have:=Xm s[k];rw[ByteArray.size_append];omega
theorem zij(c:UInt8)(h1:32<=(c.toNat:Int))(h2:(c.toNat:Int)<=126):ju c=true:=(Jp c).2 (.inl ⟨h1,h2⟩)
theorem VK{s:ByteArray}{k:Nat}(h60:¬60<s.size)(hlt:k<s.size)(hB:ju s[k]=false):xr s.data.toList=([],4):=by
 rw[xr,if_neg (by simpa using h60),if_neg];intro h;rw[pZ] at h;have:=h s[k] (by rw[show s[k]=s.data.toList[k]'(by simpa using hlt) by simp;rfl];exact wF _);rw[hB] at this;cases this
theorem zgb{s:ByteArray}{k:Nat}{ob:ByteArray}(h60:¬60<s.size)(hk:s.size<=k)(hall:(s.data.toList.take k).all ju=true)(hob:ob.data.toList=34 :: (s.data.toList.take k).flatMap yR):xr s.data.toList=((ob ++ ⟨#[34]⟩).data.toList,0):=by
 rw[List.take_of_length_le (by simpa using hk)] at hall hob;rw[xr,if_neg (by simpa using h60),if_pos hall,zm,hob];rfl
theorem YB(s:ByteArray)(w:World)(hs:s.size<=1000000000000):
 Calls prog 116 #[.string s] w fun e w'=>e=.returned (.tuple #[.string ⟨(xr s.data.toList).1.toArray⟩,.int .i64 (xr s.data.toList).2])/\w=w':=by
 generalize hr:xr s.data.toList=r;have Hr:=zj hr;clear hr;by_cases h60:60<s.size
 ·have e:r=([],5):=by rw[<-Hr.out,xr,if_pos (by simpa using h60)]
  subst e;go_enter func116,ntmps116;go_wp2;go_ret2;exact⟨rfl,rfl⟩
 ·go_enter func116,ntmps116;go_wp2_with fail;go_loop [4,5] (zkx s) (fun _ i=>s.size-(intOf i).toNat)
  case atStart=>exact⟨0,_,by omega,rfl,rfl,by simp,by simp,by decide⟩
  case round=>
   obtain⟨k,ob,hk,rfl,rfl,hall,hob,hsz⟩:=hrel;have Hall:=zj hall;have Hob:=zj hob;clear hall hob;by_cases hlt:k<s.size
   ·have hx:∀i,i<s.size->(s.extract i (i+1)).size=1:=fun i hi=>by simp;omega
    have hx1:=hx k hlt;have Hx:=zj hx;clear hx;have Hx1:=zj (show (s.extract k (k+1)).data.toList=[s[k]] from uh s k hlt);go_wp2_with fail
    ·have h10:s[k]=10:=(c10 _).mp (by have h:=‹((s[k].toNat:Int) == 10)=true›;simpa using h);go_round
     case rel=>exact Jn hlt Hall.out Hob.out hsz _ (by rw[h10];rfl) (by rw[h10];rfl)
     case measure=>simp[intOf];omega
    ·go_ret2;exact⟨by rw[<-Hr.out,VK h60 hlt (by have h10:=‹((s[k].toNat:Int) == 10)=false›;rw[pA] at h10;exact (zem _).2 ⟨by omega,h10⟩)];rfl,rfl⟩
    ·have h34:s[k]=34:=(c34 _).mp (by omega);go_round
     case rel=>exact Jn hlt Hall.out Hob.out hsz _ (by rw[zm,Hx1.out,h34];rfl) (by rw[h34];rfl)
     case measure=>simp[intOf];omega
    ·have h92:s[k]=92:=(c92 _).mp (by have h:=‹_\/((s[k].toNat:Int) == 92)=true›;simp only[pX] at h;omega);go_round
     case rel=>exact Jn hlt Hall.out Hob.out hsz _ (by rw[zm,Hx1.out,h92];rfl) (by rw[h92];rfl)
     case measure=>simp[intOf];omega
    ·have h10:¬s[k]=10:=fun e=>by have h:=‹((s[k].toNat:Int) == 10)=false›;rw[e] at h;cases h
     go_round
     case rel=>exact Jn hlt Hall.out Hob.out hsz _ (by rw[Hx1.out];have h:=‹((s[k].toNat:Int) == 34)=false/\_›;simp only[pA] at h;have h34:=mt (c34 _).mpr h.1;have h92:=mt (c92 _).mpr h.2;simp[yR,h10,h34,h92]) (zij _ (by omega) (by omega))
     case measure=>simp[intOf];omega
    ·go_ret2;exact⟨by rw[<-Hr.out,VK h60 hlt (by have h10:=‹((s[k].toNat:Int) == 10)=false›;rw[pA] at h10;exact (zem _).2 ⟨by omega,h10⟩)];rfl,rfl⟩
   ·go_wp2;go_ret2;exact⟨by rw[<-Hr.out,zgb h60 (by omega) Hall.out Hob.out,<-ur];rfl,rfl⟩
theorem YZ:∀(l:List xQ) (j:Nat) (h:j<l.length),(jn l)[j*3]? =some (.int .u8 l[j].kind)/\(jn l)[j*3+1]? =some (.string ⟨l[j].text.toArray⟩)/\(jn l)[j*3+2]? =some (.int .i64 l[j].at_)
 |[],_,h=>by cases h
 |t :: l,0,_=>⟨rfl,rfl,rfl⟩
 |t :: l,j+1,h=>by
  have:=YZ l j (by simpa using h);have e:jn (t :: l)=qS t ++ jn l:=rfl;rw[e];have e0:(j+1)*3=(qS t).length+j*3:=by simp[qS];omega
  refine⟨?_,?_,?_⟩
  ·rw[e0,wL (by omega),Nat.add_sub_cancel_left];exact this.1
  ·rw[e0,wL (by omega),show (qS t).length+j*3+1-(qS t).length=j*3+1 from by omega];exact this.2.1
  ·rw[e0,wL (by omega),show (qS t).length+j*3+2-(qS t).length=j*3+2 from by omega];exact this.2.2
theorem za6(R:Nat)(s:ByteArray)(a:Nat)(w:World)(hs:s.size<=1000000000000)(ha:a<s.size)(hRd:Rd w R s a)(h1:zM s[a]=true):
 Calls prog 127 #[.pointer (some ⟨R,0,none⟩)] w (jd (xd (s.data.toList.drop a)) a w):=by
 obtain⟨wb,sb,hR,hwb,hsb,hne1,hne2⟩:=hRd;have hc:jW s[a]=1:=by simp[jW,h1]
 have hc0:w.cell? ⟨R,0,none⟩=some (.string s):=zd hR 0;have hc1:w.cell? ⟨R,1,none⟩=some (.int .i64 a):=zd hR 1;have hc2:w.cell? ⟨R,2,none⟩=some (.slice (some ⟨wb,0,none⟩) 44 44):=zd hR 2;have hn0:∀o,(w.alloc o).cell? ⟨R,0,none⟩=some (.string s):=fun o=>zh (zg w o) hc0
 have hn1:∀o,(w.alloc o).cell? ⟨R,1,none⟩=some (.int .i64 a):=fun o=>zh (zg w o) hc1
 have hlt:(a:Int)<(s.size:Int):=by omega
 obtain⟨m,hm,hmb⟩:∃m,yd (jD [1,3]) (s.data.toList.drop (a+1))=m/\a+1+m<=s.size:=⟨_,rfl,by
  have:=ki (jD [1,3]) (s.data.toList.drop (a+1));simp at this ⊢;omega⟩
 have Hrun:=zj (fun (W:World) (q:∃n,W=((w.alloc (T0 a)).drewN n).alloc (CL [1,3]))=>Yz R s a _ _ [1,3] w W hs ha hR (by decide) m hm q (w.heap.size+1) rfl);rw[zfh] at hm;have Hq:=zj (Yx s a m ha h1 hm);clear hm;have Hw:=zj (fun (x:ByteArray) (W:World) (hW:Below w.heap.size w W)=>zfz x W wb (zi hW hwb));generalize xd (s.data.toList.drop a)=q at *;have HR:=zj hR;clear hR hwb hsb;go_enter func127,ntmps127;go_wp2_with fail;go_quiet (fail);go_wp2_with (first
  |(go_at_call 182;refine (jF _ _).mono ?_;rintro e w' ⟨rfl,rfl⟩;rw[hc])
  |(go_at_call 183;refine (Hrun.out _ ⟨_,rfl⟩).mono ?_;rintro e w1 ⟨rfl,hr⟩))
 clear hn0 hn1;obtain⟨d0,d1,d2,_⟩:=hr.rdr HR.out;obtain⟨t0,t1,t2,f0,f1,f2⟩:=hr.cells;have ne:=JR HR.out;clear hc0 hc1 hc2;have e1:IntKind.i64.wrap ((a:Int)+(1+m))=a+(1+m):=pC _ (by omega);have e2:(0:Int)<=(a:Int)+(1+m):=by omega
 have e3:((a:Int)+(1+m)).toNat=a+(1+m):=by omega
 have e4:(a:Int)<=(a:Int)+(1+m):=by omega
 have e5:a<=a+(1+m):=by omega
 have e6:(a:Int)+(1+m)<=(s.size:Int):=by omega
 refine qz ?_;go_region_held3 (fun w'=>w'.cell? ⟨R,0,none⟩=some (.string s)/\w'.cell? ⟨R,1,none⟩=some (.int .i64 a)) (first|(go_keep;done)|(go_split_ands;refine⟨?_,?_⟩ <;> (simp only[Qv,qF ne];assumption))) (fail);clear e1 e2 e3 e4 e5 e6 d0 d1 d2 t0 t1 t2 f0 f1 f2;have hr2:=((hr.kind 1).text (s.extract a (a+(1+m)))).drew;generalize World.drew _=W2 at *;obtain⟨d0,d1,d2,_⟩:=hr2.rdr HR.out;obtain⟨t0,t1,t2,f0,f1,f2⟩:=hr2.cells;have hr2:=zj hr2;have Hw2:=zj (fun x=>Hw.out x W2 hr2.out.b);go_wp2_with fail;go_quiet ((go_at_call 184;refine (Hw.out _ _ (by exact ye hr2.out.b _)).mono ?_;rintro e w' ⟨rfl,rfl⟩;exact⟨rfl,_,rfl⟩));go_wp2_with fail
 ·have hr3:=((((hr2.out.drewN nq).kind 5).kind 5).text (s.extract a (a+(1+m)))).at;generalize World.setCell _ ⟨_,2,none⟩ _=W3 at hr3 ⊢;obtain⟨u0,u1,u2,v0,v1,v2⟩:=hr3.cells;have hw:xE.contains (s.extract a (a+(1+m))).data.toList=true:=by assumption
  refine bodyPost_ret (v:=.tuple #[.agg #[.int .u8 5,.string (s.extract a (a+(1+m))),.int .i64 a],.int .i64 (1+m),.bool (decide (1+(m:Int)<=12))]) (by simp[results,results127,go_sem,u0,u1,u2]) rfl ?_;refine⟨_,_,_,_,_,rfl,?_,hr3.b⟩;exact kf (k:=5) (by rw[Hq.out];simp only[hw,if_true])
 ·have hr3:=(((hr2.out.drewN nq).kind 1).text (s.extract a (a+(1+m)))).at;generalize World.setCell _ ⟨_,2,none⟩ _=W3 at hr3 ⊢;obtain⟨u0,u1,u2,v0,v1,v2⟩:=hr3.cells;have hw:xE.contains (s.extract a (a+(1+m))).data.toList=false:=by assumption
  refine bodyPost_ret (v:=.tuple #[.agg #[.int .u8 1,.string (s.extract a (a+(1+m))),.int .i64 a],.int .i64 (1+m),.bool (decide (1+(m:Int)<=12))]) (by simp[results,results127,go_sem,u0,u1,u2]) rfl ?_;refine⟨_,_,_,_,_,rfl,?_,hr3.b⟩;exact kf (k:=1) (by rw[Hq.out];simp only[hw,Bool.false_eq_true,if_false])
theorem zd7(R:Nat)(s:ByteArray)(a:Nat)(w:World)(hs:s.size<=1000000000000)(ha:a<s.size)(hRd:Rd w R s a)(h1:zM s[a]=false)(h2:kZ s[a]=true):
 Calls prog 127 #[.pointer (some ⟨R,0,none⟩)] w (jd (xd (s.data.toList.drop a)) a w):=by
 have hc:jW s[a]=2:=by simp[jW,h1,h2]
 obtain⟨wb,sb,hR,hwb,hsb,hne1,hne2⟩:=hRd;have hc0:w.cell? ⟨R,0,none⟩=some (.string s):=zd hR 0;have hc1:w.cell? ⟨R,1,none⟩=some (.int .i64 a):=zd hR 1;have hn0:∀o,(w.alloc o).cell? ⟨R,0,none⟩=some (.string s):=fun o=>zh (zg w o) hc0
 have hn1:∀o,(w.alloc o).cell? ⟨R,1,none⟩=some (.int .i64 a):=fun o=>zh (zg w o) hc1
 have hlt:(a:Int)<(s.size:Int):=by omega
 obtain⟨m,hm,hmb⟩:∃m,yd (jD [1,3]) (s.data.toList.drop (a+1))=m/\a+1+m<=s.size:=⟨_,rfl,by
  have:=ki (jD [1,3]) (s.data.toList.drop (a+1));simp at this ⊢;omega⟩
 have Hrun:=zj (fun (W:World) (q:∃n,W=((w.alloc (T0 a)).drewN n).alloc (CL [1,3]))=>Yz R s a _ _ [1,3] w W hs ha hR (by decide) m hm q (w.heap.size+1) rfl);rw[zfh] at hm;have Hq:=zj (zbL s a m ha h1 h2 hm);clear hm;generalize xd (s.data.toList.drop a)=q at *;have HR:=zj hR;clear hR hwb hsb;go_enter func127,ntmps127;go_wp2_with fail;go_quiet (fail);go_wp2_with (first
  |(go_at_call 182;refine (jF _ _).mono ?_;rintro e w' ⟨rfl,rfl⟩;rw[hc])
  |(go_at_call 183;refine (Hrun.out _ ⟨_,rfl⟩).mono ?_;rintro e w1 ⟨rfl,hr⟩))
 clear hn0 hn1;obtain⟨d0,d1,d2,_⟩:=hr.rdr HR.out;obtain⟨t0,t1,t2,f0,f1,f2⟩:=hr.cells;have ne:=JR HR.out;clear hc0 hc1;have e1:IntKind.i64.wrap ((a:Int)+(1+m))=a+(1+m):=pC _ (by omega);have e2:(0:Int)<=(a:Int)+(1+m):=by omega
 have e3:((a:Int)+(1+m)).toNat=a+(1+m):=by omega
 have e4:(a:Int)<=(a:Int)+(1+m):=by omega
 have e5:a<=a+(1+m):=by omega
 have e6:(a:Int)+(1+m)<=(s.size:Int):=by omega
 refine qz ?_;go_region_held3 (fun w'=>w'.cell? ⟨R,0,none⟩=some (.string s)/\w'.cell? ⟨R,1,none⟩=some (.int .i64 a)) (first|(go_keep;done)|(go_split_ands;refine⟨?_,?_⟩ <;> (simp only[Qv,qF ne];assumption))) (fail);clear e1 e2 e3 e4 e5 e6 d0 d1 d2 t0 t1 t2 f0 f1 f2;have hr2:=((hr.kind 2).text (s.extract a (a+(1+m)))).drew;generalize World.drew _=W2 at *;obtain⟨t0,t1,t2,f0,f1,f2⟩:=hr2.cells;have hr2:=zj hr2;go_wp2_with fail;have hr3:=((hr2.out.kind 2).text (s.extract a (a+(1+m)))).at;generalize World.setCell _ ⟨_,2,none⟩ _=W3 at hr3 ⊢;obtain⟨u0,u1,u2,v0,v1,v2⟩:=hr3.cells;refine bodyPost_ret (v:=.tuple #[.agg #[.int .u8 2,.string (s.extract a (a+(1+m))),.int .i64 a],.int .i64 (1+m),.bool (decide (1+(m:Int)<=12))]) (by simp[results,results127,go_sem,u0,u1,u2]) rfl ?_;refine⟨_,_,_,_,_,rfl,?_,hr3.b⟩;exact kf (k:=2) Hq.out
theorem Zz(p:UInt8->Bool):∀r:List UInt8,(r.take (yd p r)).all p=true
 |[]=>rfl
 |c :: r=>by
  by_cases h:p c=true
  ·simp only[yd,h,if_true,List.take_succ_cons,List.all_cons,Zz p r,Bool.and_self]
  ·simp[yd,h]
theorem zgC(s:ByteArray)(a m:Nat)(ha:a<s.size)(h3:zL s[a]=true)(hm:yd zL (s.data.toList.drop (a+1))=m):
 (s.extract a (a+(1+m))).data.toList≠[]/\(s.extract a (a+(1+m))).data.toList.all zL=true:=by
 rw[qg,qh s a ha,Nat.add_comm 1 m,List.take_succ_cons];refine⟨by simp,?_⟩;rw[List.all_cons,h3,<-hm,Zz];rfl
theorem zbK(s:ByteArray)(a m:Nat)(ha:a<s.size)(h1:zM s[a]=false)(h2:kZ s[a]=false)(h3:zL s[a]=true)(hm:yd zL (s.data.toList.drop (a+1))=m):
 xd (s.data.toList.drop a)=if jR (s.extract a (a+(1+m))).data.toList then some (3,(s.extract a (a+(1+m))).data.toList,1+m) else none:=by
 rw[qg,qh s a ha];simp only[xd,h1,h2,h3,if_true,Bool.false_eq_true,if_false,hm]
theorem za8(R:Nat)(s:ByteArray)(a:Nat)(w:World)(hs:s.size<=1000000000000)(ha:a<s.size)(hRd:Rd w R s a)(hG:qG w)(h1:zM s[a]=false)(h2:kZ s[a]=false)(h3:zL s[a]=true):
 Calls prog 127 #[.pointer (some ⟨R,0,none⟩)] w (jd (xd (s.data.toList.drop a)) a w):=by
 have hc:jW s[a]=3:=by simp[jW,h1,h2,h3]
 obtain⟨wb,sb,hR,hwb,hsb,hne1,hne2⟩:=hRd;have hc0:w.cell? ⟨R,0,none⟩=some (.string s):=zd hR 0;have hc1:w.cell? ⟨R,1,none⟩=some (.int .i64 a):=zd hR 1;have hn0:∀o,(w.alloc o).cell? ⟨R,0,none⟩=some (.string s):=fun o=>zh (zg w o) hc0
 have hn1:∀o,(w.alloc o).cell? ⟨R,1,none⟩=some (.int .i64 a):=fun o=>zh (zg w o) hc1
 have hlt:(a:Int)<(s.size:Int):=by omega
 obtain⟨m,hm,hmb⟩:∃m,yd (jD [3]) (s.data.toList.drop (a+1))=m/\a+1+m<=s.size:=⟨_,rfl,by
  have:=ki (jD [3]) (s.data.toList.drop (a+1));simp at this ⊢;omega⟩
 have Hrun:=zj (fun (W:World) (q:∃n,W=((w.alloc (T0 a)).drewN n).alloc (CL [3]))=>Yz R s a _ _ [3] w W hs ha hR (by decide) m hm q (w.heap.size+1) rfl);rw[zli] at hm;have hdig:=zgC s a m ha h3 hm;have hq:=zbK s a m ha h1 h2 h3 hm;have hxs:(s.extract a (a+(1+m))).size<=1000000000000:=by simp;omega
 obtain⟨bb,hbb⟩:=exE (jR (s.extract a (a+(1+m))).data.toList);rw[hbb] at hq;have Hnum:=zj (fun (W:World) (hW:Below w.heap.size w W)=>hbb▸zbe (s.extract a (a+(1+m))) W hxs (hG.later hW) hdig.1 hdig.2);have Hq:=zj hq;clear hm hq hdig hbb hxs;generalize xd (s.data.toList.drop a)=q at *;have HR:=zj hR;clear hR hwb hsb;have HG:=zj hG;clear hG;go_enter func127,ntmps127;go_wp2_with fail;go_quiet (fail);go_wp2_with (first
  |(go_at_call 182;refine (jF _ _).mono ?_;rintro e w' ⟨rfl,rfl⟩;rw[hc])
  |(go_at_call 183;refine (Hrun.out _ ⟨_,rfl⟩).mono ?_;rintro e w1 ⟨rfl,hr⟩))
 clear hn0 hn1;obtain⟨d0,d1,d2,_⟩:=hr.rdr HR.out;obtain⟨t0,t1,t2,f0,f1,f2⟩:=hr.cells;have ne:=JR HR.out;clear hc0 hc1;have e1:IntKind.i64.wrap ((a:Int)+(1+m))=a+(1+m):=pC _ (by omega);have e2:(0:Int)<=(a:Int)+(1+m):=by omega
 have e3:((a:Int)+(1+m)).toNat=a+(1+m):=by omega
 have e4:(a:Int)<=(a:Int)+(1+m):=by omega
 have e5:a<=a+(1+m):=by omega
 have e6:(a:Int)+(1+m)<=(s.size:Int):=by omega
 refine qz ?_;go_region_held3 (fun w'=>w'.cell? ⟨R,0,none⟩=some (.string s)/\w'.cell? ⟨R,1,none⟩=some (.int .i64 a)) (first|(go_keep;done)|(go_split_ands;refine⟨?_,?_⟩ <;> (simp only[Qv,qF ne];assumption))) (fail);clear e1 e2 e3 e4 e5 e6 d0 d1 d2 t0 t1 t2 f0 f1 f2;have hr2:=((hr.kind 3).text (s.extract a (a+(1+m)))).drew;generalize World.drew _=W2 at *;obtain⟨t0,t1,t2,f0,f1,f2⟩:=hr2.cells;have hr2:=zj hr2;go_wp2_with fail;have hTlt:w.heap.size<W2.heap.size:=World.block_lt_of_cell? W2 _ t0;have Hn2:=zj (fun (W:World) (hW:Below W2.heap.size W2 W)=>Hnum.out W (zf hr2.out.b hW));refine qz ?_;go_region_held3 (fun w'=>w'.cell? ⟨w.heap.size,0,none⟩=some (.int .u8 3)/\w'.cell? ⟨w.heap.size,1,none⟩=some (.string (s.extract a (a+(1+m))))/\w'.cell? ⟨w.heap.size,2,none⟩=some (.int .i64 a))
  (first|(go_keep;done)|(go_split_ands;refine⟨?_,?_,?_⟩ <;> exact zh hb4 (by assumption))|(obtain⟨u0,u1,u2⟩:=‹w4.cell? ⟨w.heap.size,0,none⟩=some (.int .u8 3)/\w4.cell? ⟨w.heap.size,1,none⟩=some (.string (s.extract a (a+(1+m))))/\w4.cell? ⟨w.heap.size,2,none⟩=some (.int .i64 a)›;rw[Qa u0,Qa u1,Qa u2];exact⟨u0,u1,u2⟩))
  (first|(go_at_call 185;refine (Hn2.out _ (Below.drew bR)).mono ?_;rintro e w4 ⟨rfl,hb4⟩;have g0:=jU (w:=W2.drew) hb4 hTlt f0;have g1:=jU (w:=W2.drew) hb4 hTlt f1;have g2:=jU (w:=W2.drew) hb4 hTlt f2))
 have hr4:=(((hr2.out.drew.later hb4).kind 3).text (s.extract a (a+(1+m)))).at;go_wp2_with fail;generalize World.setCell _ ⟨_,2,none⟩ _=W5 at hr4 ⊢;obtain⟨u0,u1,u2,v0,v1,v2⟩:=hr4.cells;refine bodyPost_ret (v:=.tuple #[.agg #[.int .u8 3,.string (s.extract a (a+(1+m))),.int .i64 a],.int .i64 (1+m),.bool bb]) (by simp[results,results127,go_sem,u0,u1,u2]) rfl ?_;refine⟨_,_,_,_,_,rfl,?_,hr4.b⟩;rw[Hq.out];cases bb
 ·exact rfl
 ·exact⟨rfl,rfl,ur _,rfl,by omega⟩
theorem zcD:∀g r:List UInt8,Lib.hasPrefix r g=qd g r
 |[],r=>by cases r <;> rfl
 |_ :: _,[]=>rfl
 |a :: g,b :: r=>by
  have:=zcD g r;unfold Lib.hasPrefix at this;simp only[Lib.hasPrefix,List.isPrefixOf,qd,this];congr 1
theorem zfn{α:Type}(p:α->Bool)(d:α):∀(l:List α) (k:Nat),(∀j,j<k->p (l.getD j d)=false)->k<l.length->p (l.getD k d)=true->l.find? p=some (l.getD k d)
 |[],k,_,h,_=>by cases h
 |a :: l,0,_,_,h=>by simp at h ⊢;exact .inl h
 |a :: l,k+1,h,hk,hp=>by
  have h0:=h 0 (by omega);simp only[List.getD_cons_zero] at h0;rw[List.find?_cons,h0];exact zfn p d l k (fun j hj=>by have:=h (j+1) (by omega);simpa using this) (by simpa using hk) (by simpa using hp)
theorem zjU{α:Type}(p:α->Bool)(d:α)(l:List α)(h:∀j,j<l.length->p (l.getD j d)=false):l.find? p=none:=by
 rw[List.find?_eq_none];intro x hx;obtain⟨j,hj,rfl⟩:=List.getElem_of_mem hx;have:=h j hj;simpa[pB,hj] using this
theorem zdq{w W:World}{b:Nat}(h:Below w.heap.size w W)(hb:w.heap[b]? =some (.cells (Yy yb) 9 (0,0)))(k:Nat)(hk:k<25):W.cell? ⟨b,k,none⟩=some (.string ⟨(yb.getD k []).toArray⟩):=by
 refine zh h ?_;rw[zd hb k];have hk':k<yb.length:=hk;simp only[Yy,pW,wD,pB];rw[glE hk'];rfl
theorem zjP(s:ByteArray)(a:Nat)(_ha:a<s.size)(g:List UInt8)(W:World):
 Calls prog 187 #[.string (s.extract a s.size),.string ⟨g.toArray⟩] W fun e w'=>e=.returned (.bool (qd g (s.data.toList.drop a)))/\w'=W:=by
 have h:=Tryz.strings_HasPrefix (s.extract a s.size) ⟨g.toArray⟩ W;have e:(s.extract a s.size).data.toList=s.data.toList.drop a:=by rw[show (s.extract a s.size).data.toList=(s.data.toList.drop a).take (s.size-a) from by simp[List.extract_eq_take_drop]];exact List.take_of_length_le (by simp)
 rw[e,show (⟨g.toArray⟩:ByteArray).data.toList=g from rfl,zcD] at h;exact h
theorem zc8{q:Option (List UInt8×Nat)}{n:Int}{t:ByteArray}{ok:Bool}(h:zgS q n t ok)(a:Int):zj7 (q.map fun x=>(4,x.1,x.2)) a 4 t a n ok:=by
 cases q with
 |none=>exact h
 |some x=>obtain⟨h1,h2,h3⟩:=h;exact⟨h1,rfl,h3,rfl,h2⟩
theorem za7(R:Nat)(s:ByteArray)(a:Nat)(w:World)(hs:s.size<=1000000000000)(hB:∀c,c∈s.data.toList->ju c=true)(ha:a<s.size)(hRd:Rd w R s a)(h4:s[a]=34):
 Calls prog 127 #[.pointer (some ⟨R,0,none⟩)] w (jd (xd (s.data.toList.drop a)) a w):=by
 have hc:jW s[a]=0:=by rw[h4];rfl
 obtain⟨wb,sb,hR,hwb,hsb,hne1,hne2⟩:=hRd;have hc0:w.cell? ⟨R,0,none⟩=some (.string s):=zd hR 0;have hc1:w.cell? ⟨R,1,none⟩=some (.int .i64 a):=zd hR 1;have hn0:∀o,(w.alloc o).cell? ⟨R,0,none⟩=some (.string s):=fun o=>zh (zg w o) hc0
 have hn1:∀o,(w.alloc o).cell? ⟨R,1,none⟩=some (.int .i64 a):=fun o=>zh (zg w o) hc1
 have hlt:(a:Int)<(s.size:Int):=by omega
 have h34:((s[a].toNat:Int) == 34)=true:=by rw[h4];rfl
 have hq:=JI s a ha h4;have Hcls:=zj (fun (W:World)=>(show Calls prog 182 #[.int .u8 34] W (fun e w'=>e=.returned (.int .u8 0)/\W=w') from jF 34 W));have hex:(s.extract a s.size).data.toList=s.data.toList.drop a:=by rw[show (s.extract a s.size).data.toList=(s.data.toList.drop a).take (s.size-a) from by simp[List.extract_eq_take_drop]];exact List.take_of_length_le (by simp)
 have Hqd:=zj (fun (W:World)=>hex▸zcr (s.extract a s.size) W (by simp;omega) (fun c hc=>hB c (by rw[hex] at hc;exact List.mem_of_mem_drop hc)));generalize Lode.jk (s.data.toList.drop a)=q0 at *;have Hq:=zj hq;clear hq hB hex;generalize xd (s.data.toList.drop a)=q at *;have HR:=zj hR;clear hR hwb hsb;go_enter func127,ntmps127;go_wp2_with fail;go_quiet (fail);go_wp2_with (first
  |(go_at_call 182;refine (Hcls.out _).mono ?_;rintro e w' ⟨rfl,rfl⟩))
 have hr:=(Tk.mk (a:=a) (k:=0) (t:=⟨#[]⟩) (ye (zg w (T0 a)) nq) (by rw[ko];exact zl _ _)).kind 4;generalize World.setCell _ _ _=W2 at hr ⊢;clear hn0 hn1;obtain⟨d0,d1,d2,_⟩:=hr.rdr HR.out;obtain⟨t0,t1,t2,f0,f1,f2⟩:=hr.cells;have ne:=JR HR.out;clear hc0 hc1;have hr:=zj hr;have hTlt:w.heap.size<W2.heap.size:=World.block_lt_of_cell? W2 _ t0;have e4:(a:Int)<=(s.size:Int):=by omega
 refine qz ?_;go_region_held3 (fun w'=>w'.cell? ⟨R,0,none⟩=some (.string s)/\w'.cell? ⟨R,1,none⟩=some (.int .i64 a)) (first|(go_keep;done)|(go_split_ands;refine⟨?_,?_⟩ <;> exact zh hb4 (by assumption))|(go_split_ands;refine⟨?_,?_⟩ <;> (simp only[qF ne];assumption)))
  (first|(go_at_call 186;refine (Hqd.out _).mono ?_;rintro e w4 ⟨tq,nq4,okq,rfl,hQ,hb4⟩;have g1:=jU (w:=W2.drew) hb4 hTlt f1;have c1:=zh (w:=W2.drew) hb4 t1))
 have hr4:=(hr.out.drew.later hb4).text tq;generalize World.setCell _ ⟨_,1,none⟩ _=W5 at hr4 ⊢;clear t0 t1 t2 f0 f1 f2 c1 g1;obtain⟨t0,t1,t2,f0,f1,f2⟩:=hr4.cells;have hr4:=zj hr4;go_wp2_with fail;have hr6:=((hr4.out.kind 4).text tq).at;generalize World.setCell _ ⟨_,2,none⟩ _=W6 at hr6 ⊢;obtain⟨u0,u1,u2,v0,v1,v2⟩:=hr6.cells;refine bodyPost_ret (v:=.tuple #[.agg #[.int .u8 4,.string tq,.int .i64 a],.int .i64 nq4,.bool okq]) (by simp[results,results127,go_sem,u0,u1,u2]) rfl ?_;refine⟨_,_,_,_,_,rfl,?_,hr6.b⟩;rw[Hq.out];exact zc8 hQ a
theorem zcp(R:Nat)(s:ByteArray)(a:Nat)(w:World)(_hs:s.size<=1000000000000)(ha:a<s.size)(hRd:Rd w R s a)(h1:zM s[a]=false)(h2:kZ s[a]=false)(h3:zL s[a]=false)(h4:s[a]≠34):
 Calls prog 127 #[.pointer (some ⟨R,0,none⟩)] w (jd (xd (s.data.toList.drop a)) a w):=by
 have hc:jW s[a]=0:=by simp[jW,h1,h2,h3]
 obtain⟨wb,sb,hR,hwb,hsb,hne1,hne2⟩:=hRd;have hc0:w.cell? ⟨R,0,none⟩=some (.string s):=zd hR 0;have hc1:w.cell? ⟨R,1,none⟩=some (.int .i64 a):=zd hR 1;have hc3:w.cell? ⟨R,3,none⟩=some (.slice (some ⟨sb,0,none⟩) 25 25):=zd hR 3;have hn0:∀o,(w.alloc o).cell? ⟨R,0,none⟩=some (.string s):=fun o=>zh (zg w o) hc0
 have hn1:∀o,(w.alloc o).cell? ⟨R,1,none⟩=some (.int .i64 a):=fun o=>zh (zg w o) hc1
 have hn3:∀o n,((w.alloc o).drewN n).cell? ⟨R,3,none⟩=some (.slice (some ⟨sb,0,none⟩) 25 25):=fun o n=>zh (ye (zg w o) n) hc3
 have hlt:(a:Int)<(s.size:Int):=by omega
 have h34:((s[a].toNat:Int) == 34)=false:=by
  rw[pA];intro h;exact h4 (UInt8.toNat_inj.1 (by have:(34:UInt8).toNat=34:=rfl;omega))
 have Hq:=zj (Vw s a ha h1 h2 h3 h4);generalize xd (s.data.toList.drop a)=q at *;have HR:=zj hR;have Hsb:=zj hsb;clear hR hwb hsb;go_enter func127,ntmps127;go_wp2_with fail;go_quiet (fail);go_wp2_with (first
  |(go_at_call 182;refine (jF _ _).mono ?_;rintro e w' ⟨rfl,rfl⟩;rw[hc]))
 have hr:=Tk.mk (a:=a) (k:=0) (t:=⟨#[]⟩) (ye (zg w (T0 a)) nq) (by rw[ko];exact zl _ _);generalize World.drewN _ _=W2 at hr ⊢;clear hn0 hn1 hn3;obtain⟨d0,d1,d2,d3⟩:=hr.rdr HR.out;obtain⟨t0,t1,t2,f0,f1,f2⟩:=hr.cells;clear d0 d1 d2 d3 t0 t1 t2 f0 f1 f2 hc0 hc1 hc3;have hr:=zj hr;go_loopw [140] (fun i wr=>∃k:Nat,k<=25/\i=.int .i64 k/\Tk w wr 0 ⟨#[]⟩ a/\Hid (∀j,j<k->qd (yb.getD j []) (s.data.toList.drop a)=false)) (fun i _=>25-(intOf i).toNat)
 case atStart=>exact⟨0,by omega,rfl,hr.out,zj (fun j hj=>absurd hj (pY _))⟩
 case round=>
  obtain⟨k,hk,rfl,hr,hall⟩:=hrel;by_cases hlt:k<25
  ·have hg:=zdq hr.b Hsb.out k hlt;obtain⟨g,hgg⟩:=exE (yb.getD k []);have Hp0:=zj (fun W=>zjP s a ha g W);rw[hgg] at hg;have Hgg:=zj hgg;clear hgg;obtain⟨d0,d1,d2,d3⟩:=hr.rdr HR.out;obtain⟨t0,t1,t2,f0,f1,f2⟩:=hr.cells;have ne:=JR HR.out;have hr:=zj hr;have e4:(a:Int)<=(s.size:Int):=by omega
   obtain⟨bb,hbb⟩:=exE (qd g (s.data.toList.drop a));have Hp:=zj (fun W=>hbb▸Hp0.out W);have Hbb:=zj hbb;clear Hp0 hbb;go_wp2_with fail;go_quiet ((go_at_call 187;refine (Hp.out _).mono ?_;rintro e w' ⟨rfl,rfl⟩;exact⟨rfl,_,rfl⟩));clear Hp;cases bb with
   |true=>
    go_wp2_with fail;have hr3:=(((((hr.out.drewN nq).kind 6).text ⟨g.toArray⟩).kind 6).text ⟨g.toArray⟩).at;generalize World.setCell _ ⟨_,2,none⟩ _=W6 at hr3 ⊢;obtain⟨u0,u1,u2,v0,v1,v2⟩:=hr3.cells;refine bodyPost_ret (v:=.tuple #[.agg #[.int .u8 6,.string ⟨g.toArray⟩,.int .i64 a],.int .i64 g.length,.bool true]) (by simp[results,results127,go_sem,u0,u1,u2]) rfl ?_;refine⟨_,_,_,_,_,rfl,?_,hr3.b⟩;rw[Hq.out,zfn (fun g=>qd g (s.data.toList.drop a)) [] yb k hall.out hlt (by rw[Hgg.out];exact Hbb.out),Hgg.out];exact⟨rfl,rfl,rfl,rfl,rfl⟩
   |false=>
    go_wp2;go_roundw
    case rel=>
     refine⟨k+1,by omega,by go_num,hr.out.drewN nq,zj (fun j hj=>?_)⟩;by_cases e:j=k
     ·subst e;rw[Hgg.out];exact Hbb.out
     ·exact hall.out j (by omega)
    case measure=>simp[intOf];omega
  ·obtain⟨t0,t1,t2,f0,f1,f2⟩:=hr.cells;have hk25:k=25:=by omega
   have hr:=zj hr;go_wp2_with fail;have hr3:=((hr.out.kind 0).text ⟨#[]⟩).at;generalize World.setCell _ ⟨_,2,none⟩ _=W6 at hr3 ⊢;obtain⟨u0,u1,u2,v0,v1,v2⟩:=hr3.cells;refine bodyPost_ret (v:=.tuple #[.agg #[.int .u8 0,.string ⟨#[]⟩,.int .i64 a],.int .i64 0,.bool false]) (by simp[results,results127,go_sem,u0,u1,u2]) rfl ?_;refine⟨_,_,_,_,_,rfl,?_,hr3.b⟩;rw[Hq.out,zjU (fun g=>qd g (s.data.toList.drop a)) [] yb (fun j hj=>hall.out j (by rw[hk25];exact hj))];exact rfl
end
section
open Go.RowKit Lode Go.Shelf
open Go.Proofs.Tryz
theorem Kj(R:Nat)(s:ByteArray)(a:Nat)(w:World)(hs:s.size<=1000000000000)(hB:∀c,c∈s.data.toList->ju c=true)(ha:a<s.size)(hRd:Rd w R s a)(hG:qG w):
 Calls prog 127 #[.pointer (some ⟨R,0,none⟩)] w (jd (xd (s.data.toList.drop a)) a w):=by
 by_cases h1:zM s[a]=true
 ·exact za6 R s a w hs ha hRd h1
 ·have h1:zM s[a]=false:=by simpa using h1
  by_cases h2:kZ s[a]=true
  ·exact zd7 R s a w hs ha hRd h1 h2
  ·have h2:kZ s[a]=false:=by simpa using h2
   by_cases h3:zL s[a]=true
   ·exact za8 R s a w hs ha hRd hG h1 h2 h3
   ·have h3:zL s[a]=false:=by simpa using h3
    by_cases h4:s[a]=34
    ·exact za7 R s a w hs hB ha hRd h4
    ·exact zcp R s a w hs ha hRd h1 h2 h3 h4
theorem zcq(R:Nat)(s:ByteArray)(a:Nat)(w:World)(hs:s.size<=1000000000000)(hB:∀c,c∈s.data.toList->ju c=true)(ha:a<s.size)(hRd:Rd w R s a)(hG:qG w)(ht:xd (s.data.toList.drop a)=none):
 Calls prog 127 #[.pointer (some ⟨R,0,none⟩)] w fun e w'=>(∃k t a' n,e=.returned (.tuple #[.agg #[.int .u8 k,.string t,.int .i64 a'],.int .i64 n,.bool false]))/\Below w.heap.size w w':=
 (Kj R s a w hs hB ha hRd hG).mono fun e w' ⟨k,t,a',n,ok,h1,h2,h3⟩=>by
  rw[ht] at h2;exact⟨⟨k,t,a',n,by rw[h1,show ok=false from h2]⟩,h3⟩
theorem zco(R:Nat)(s:ByteArray)(a:Nat)(w:World)(hs:s.size<=1000000000000)(hB:∀c,c∈s.data.toList->ju c=true)(ha:a<s.size)(hRd:Rd w R s a)(hG:qG w)(k:Nat)(t:List UInt8)(m:Nat)(ht:xd (s.data.toList.drop a)=some (k,t,m)):
 Calls prog 127 #[.pointer (some ⟨R,0,none⟩)] w fun e w'=>e=.returned (.tuple #[.agg #[.int .u8 k,.string ⟨t.toArray⟩,.int .i64 a],.int .i64 m,.bool true])/\Below w.heap.size w w':=
 (Kj R s a w hs hB ha hRd hG).mono fun e w' ⟨k',t',a',n,ok,h1,h2,h3⟩=>by
  rw[ht] at h2;obtain⟨rfl,rfl,rfl,rfl,rfl⟩:=h2;exact⟨h1,h3⟩
def KpT(w0:World)(R:Nat)(W W':World):Prop:=(∀s a,Rd W R s a->Rd W' R s a)/\(Below w0.heap.size w0 W->Below w0.heap.size w0 W')
theorem KpT.trans{w0:World}{R:Nat}{A B C:World}(h:KpT w0 R A B)(k:KpT w0 R B C):KpT w0 R A C:=⟨fun s a x=>k.1 s a (h.1 s a x),fun x=>k.2 (h.2 x)⟩
theorem zeT(R:Nat)(s:ByteArray)(a:Nat)(w:World)(hs:s.size<=1000000000000)(ha:a<=s.size)(hR:Rd w R s a):
 Calls prog 126 #[.pointer (some ⟨R,0,none⟩)] w fun e w'=>e=.returned (.tuple #[])/\Rd w' R s (a+zT false (s.data.toList.drop a))/\w.grownBy w' (some R):=by
 obtain⟨wb,sb,hR,hwb,hsb,hne1,hne2⟩:=hR;refine (zhk R s a _ _ w hs ha hR).mono fun e w' ⟨h1,h2,h3⟩=>⟨h1,⟨wb,sb,h2,?_,?_,hne1,hne2⟩,h3⟩
 ·exact (h3.block _ (gtA hwb) (fun e=>hne1 (by cases e;rfl))).trans hwb
 ·exact (h3.block _ (gtA hsb) (fun e=>hne2 (by cases e;rfl))).trans hsb
theorem Rd.below{w w':World}{R:Nat}{s:ByteArray}{a:Nat}(h:Rd w R s a)(hb:Below w.heap.size w w'):Rd w' R s a:=by
 obtain⟨wb,sb,hR,hwb,hsb,hne1,hne2⟩:=h;exact⟨wb,sb,zi hb hR,zi hb hwb,zi hb hsb,hne1,hne2⟩
theorem Rd.step{w:World}{R:Nat}{s:ByteArray}{a:Nat}(h:Rd w R s a)(k:Int)(k':Nat)(hk:k=k'):Rd (w.setCell ⟨R,1,none⟩ (.int .i64 k)) R s k':=by
 obtain⟨wb,sb,hR,hwb,hsb,hne1,hne2⟩:=h;have g:=qM w R 1 (.int .i64 k);exact⟨wb,sb,hR.set k k' hk,(g.block _ (gtA hwb) (fun e=>hne1 (by cases e;rfl))).trans hwb,(g.block _ (gtA hsb) (fun e=>hne2 (by cases e;rfl))).trans hsb,hne1,hne2⟩
theorem Rd.pos{w:World}{R:Nat}{s:ByteArray}{a:Nat}(h:Rd w R s a):zaO R w=a:=by
 obtain⟨wb,sb,hR,_⟩:=h;exact hR.pos
theorem ug{w w':World}(h:Below w.heap.size w w')(r:Option Nat):w.grownBy w' r:=⟨h.os,h.tape,h.output,h.size,fun k hk _=>h.block k hk⟩
theorem Zs{w0 w w':World}{R:Nat}(h:Below w0.heap.size w0 w)(g:w.grownBy w' (some R))(hR:w0.heap.size<=R):Below w0.heap.size w0 w':=
 ⟨g.os.trans h.os,g.tape.trans h.tape,g.output.trans h.output,pQ h.size g.size,fun k hk=>(g.block k (wI hk h.size) (fun e=>by cases e;omega)).trans (h.block k hk)⟩
end
end Go.Proofs.YtcagibbaeageoaaGreatDoor
namespace Lode
section
open Go Go.RowKit Go.Sort
def Cl(w:World):World->Prop:=fun w'=>∃p:Regrown,w'=grow (redrawn w p.d) p.os
theorem yC{α:Type}(l:List α)(i:Nat)(x:α):l.toArray.setIfInBounds i x=(l.set i x).toArray:=List.setIfInBounds_toArray ..
theorem yA{α:Type}(a x:α)(l:List α):(a :: l).set 0 x=x :: l:=rfl
theorem yB{α:Type}(a x:α)(l:List α)(n:Nat):(a :: l).set (n+1) x=a :: l.set n x:=rfl
theorem jm{w w':World}:Cl w w'↔Below w.heap.size w w':=⟨fun ⟨p,h⟩=>h▸below_regrown w p.d p.os,fun h=>regrown_of_below h⟩
theorem Cl.refl(w:World):Cl w w:=jm.2 bR
theorem Cl.trans{a b c:World}(h:Cl a b)(k:Cl b c):Cl a c:=by
 rw[jm] at *;exact h.trans (k.mono h.size)
end
end Lode
namespace LodeX
section
open Go Go.RowKit Go.Sort Lode
structure Rel where
 rel:World->World->Prop
 refl:∀w,rel w w
 trans:∀{a b c:World},rel a b->rel b c->rel a c
 zM:World->World->Prop
 srefl:∀w,zM w w
 strans:∀{a b c:World},zM a b->zM b c->zM a c
 kZ:∀{a b:World},zM a b->rel a b
def xOf(Xp:List PanicEntry->World->Prop):Exit->Act->World->Prop:=fun e a w=>match e with
 | .panic c=>a.defers=[]/\Xp c w
 |_=>False
def zkZ(RR:Rel)(P:Program)(o:Oper)(a:Act)(b:World)(next:Act->Prop):Prop:=∃v,(∀w,RR.rel b w->o.quietAt P a (RR.zM w) w v)/\next (a.put o.dst v)
def XX(P:Program)(w:World)(v:Value):Result Next->Prop
 | .ok (.value u) w'=>w'=w/\u=v
 | .ok .skip w'=>w'=w/\v=undef
 | .ok (.enter f args) w'=>w'=w/\Calls P f args w (fun e w''=>e=.returned v/\w''=w)
 |_=>False
section
variable {RR:Rel} {Xp:List PanicEntry→World→Prop} {P:Program} {ops:Array Oper} {md:Region.Mode}
def Xg(P:Program)(ops:Array Oper)(i:Nat)(next:Act->Prop)(a:Act):Prop:=
 match ops[i]? with
 |none=>next a
 |some o=>if Region.wanted o (yielded ops a.tmps) then ∃v,(∀w,XX P w v ((execOp a.eval o).run P w))/\next (a.put o.dst v) else next (a.put o.dst undef)
def Xf(Xp:List PanicEntry->World->Prop)(P:Program)(ops:Array Oper)(i:Nat)(next:Act->World->Prop)(a:Act)(w:World):Prop:=
 match ops[i]? with
 |none=>next a w
 |some o=>if Region.wanted o (yielded ops a.tmps) then o.wp P a w next (xOf Xp) else next (a.put o.dst undef) w
def wpE(Xp:List PanicEntry->World->Prop)(P:Program)(ops:Array Oper)(Q:Act->World->Prop):List (Nat×Nat)->Act->World->Prop
 |[],a,w=>Q a w
 |(i,0) :: r,a,w=>Xg P ops i (fun a'=>wpE Xp P ops Q r a' w) a
 |(i,_+1) :: r,a,w=>Xf Xp P ops i (wpE Xp P ops Q r) a w
def vW(RR:Rel)(Xp:List PanicEntry->World->Prop)(P:Program)(ops:Array Oper)(f:Nat)(j:Nat)(b:World)(K:World->Act->Prop)(KE:Act->World->Prop)(a:Act):Prop:=
 match f with
 |0=>Xg P ops j (K b) a
 |1=>(match ops[j]? with
  |none=>K b a
  |some o=>if Region.wanted o (yielded ops a.tmps) then zkZ RR P o a b (K b) else K b (a.put o.dst undef))
 |2=>(match ops[j]? with
  |none=>K b a
  |some o=>if Region.wanted o (yielded ops a.tmps) then ∀w,RR.zM b w->o.wp P a w (fun a' w'=>RR.rel w w'/\K w' a') (xOf Xp) else K b (a.put o.dst undef))
 |_=>∀w,RR.zM b w->Xf Xp P ops j KE a w
def jJ(RR:Rel)(Xp:List PanicEntry->World->Prop)(P:Program)(ops:Array Oper)(Q:Act->World->Prop):List (Nat×Nat)->World->Act->Prop
 |[],b,a=>∀w,RR.zM b w->Q a w
 |(i,f) :: r,b,a=>vW RR Xp P ops f i b (jJ RR Xp P ops Q r) (wpE Xp P ops Q r) a
def Yp(md:Region.Mode)(ops:Array Oper):List (Nat×Nat)->Array Bool->Bool
 |[],listed=>(Region.ready md ops listed) == []
 |(i,f) :: r,listed=>(if f<=1 then (Region.ready md ops listed).contains i && Region.free md ops listed i else Region.ready md ops listed == [i]) && Yp md ops r (listed.setIfInBounds i true)
def zbH(md:Region.Mode)(ops:Array Oper)(t i:Nat):Bool:=(ops[t]?).any fun o=>o.after.any fun e=>Region.binds md e && e.on == i
def Zx(md:Region.Mode)(ops:Array Oper):Nat->Nat->Nat->Bool
 |0,t,i=>zbH md ops t i
 |n+1,t,i=>zbH md ops t i || (ops[t]?).any fun o=>o.after.any fun e=>Region.binds md e && Zx md ops n e.on i
def zhn(md:Region.Mode)(ops:Array Oper)(ord:List (Nat×Nat)):Bool:=
 ord.all fun x=>x.2 != 1 || ord.all fun t=>decide (t.2<=2) || Zx md ops 12 t.1 x.1
def YJ:List (Nat×Nat)->Bool
 |[]=>true
 |(_,f) :: r=>(decide (f<=2) || r.all fun x=>x.2 == 0 || decide (3<=x.2)) && YJ r
def zkn(ops:Array Oper)(ord:List (Nat×Nat)):Bool:=(List.range ops.size).all fun i=>ord.any (fun x=>x.1 == i)
def Qx(md:Region.Mode)(ops:Array Oper)(listed:Array Bool):Prop:=∀k o,ops[k]? =some o->listed.getD k false=true->∀e∈o.after,Region.binds md e=true->listed.getD e.on false=true
theorem Ku{listed:Array Bool}{i:Nat}(h:listed.getD i true=false):listed.getD i false=false:=by
 rcases Nat.lt_or_ge i listed.size with h'|h'
 ·simp[h'] at h ⊢;exact h
 ·simp[Array.getElem?_eq_none h'] at h
theorem Yi{listed:Array Bool}(hc:Qx md ops listed):∀(n t i:Nat) (o:Oper),Zx md ops n t i=true->ops[t]? =some o->(∀e∈o.after,Region.binds md e=true->listed.getD e.on false=true)->listed.getD i false=true
 |n,t,i,o,h,ho,hall=>by
  have h1:zbH md ops t i=true->listed.getD i false=true:=fun h=>by
   unfold zbH at h;rw[ho] at h;simp only[Option.any_some] at h;obtain⟨e,he,hb⟩:=Array.any_eq_true'.1 h;simp only[pI,pX] at hb;rw[<-hb.2];exact hall e he hb.1
  cases n with
  |zero=>exact h1 h
  |succ n=>
   simp only[Zx,wH] at h;rcases h with h|h
   ·exact h1 h
   ·rw[ho] at h;simp only[Option.any_some] at h;obtain⟨e,he,hb⟩:=Array.any_eq_true'.1 h;simp only[pI] at hb;have h2:=hall e he hb.1;cases ho2:ops[e.on]? with
    |none=>
     have:Zx md ops n e.on i=false:=by cases n <;> simp[Zx,zbH,ho2]
     rw[this] at hb;exact absurd hb.2 (by simp)
    |some o2=>exact Yi hc n e.on i o2 hb.2 ho2 (hc e.on o2 ho2 h2)
theorem XU{n t i:Nat}{listed:Array Bool}(hc:Qx md ops listed)(h:Zx md ops n t i=true)(hi:listed.getD i true=false)(ht:t∈Region.ready md ops listed):False:=by
 obtain⟨_,o,ho,hall⟩:=mem_ready.1 ht;have:=Yi hc n t i o h ho hall;rw[Ku hi] at this;cases this
theorem Qx.set{listed:Array Bool}{j:Nat}(hc:Qx md ops listed)(hj:j∈Region.ready md ops listed):Qx md ops (listed.setIfInBounds j true):=by
 intro k o ho hk e he hb;obtain⟨_,oj,hoj,hall⟩:=mem_ready.1 hj;by_cases e1:j=k
 ·subst e1;rw[hoj] at ho;cases ho;exact getD_set_true (hall e he hb)
 ·rw[getD_set_ne false e1] at hk;exact getD_set_true (hc k o ho hk e he hb)
theorem zgz{i j:Nat}{listed:Array Bool}(h:Region.free md ops listed i=true):Region.free md ops (listed.setIfInBounds j true) i=true:=by
 unfold Region.free at *;cases ho:ops[i]? with
 |none=>rw[ho] at h;exact h
 |some oi=>
  rw[ho] at h;simp only[pZ,List.mem_range] at h ⊢;intro k hk;have:=h k hk;simp only[wH] at this ⊢;rcases this with (h1|h1)|h1
  ·exact .inl (.inl h1)
  ·refine .inl (.inr ?_);by_cases e:j=k
   ·subst e;rcases Nat.lt_or_ge j listed.size with h'|h'
    ·simp[h']
    ·simp[h']
   ·rw[getD_set_ne true e];exact h1
  ·exact .inr h1
theorem QQ{j f:Nat}{l2:List (Nat×Nat)}:∀(l1:List (Nat×Nat)) (listed:Array Bool),Yp md ops (l1 ++ (j,f) :: l2) listed=true->j∈Region.ready md ops listed->(∀x,x∈l1->x.1≠j)->
 Yp md ops (l1 ++ l2) (listed.setIfInBounds j true)=true/\∀x,x∈l1->x.2<=1/\∃oi oj,ops[x.1]? =some oi/\ops[j]? =some oj/\oi.apart ops oj=true
 |[],listed,h,hj,_=>by
  refine⟨?_,fun x hx=>absurd hx (pR)⟩;simp only[wP,Yp,pI] at h ⊢;exact h.2
 |(i,g) :: l1,listed,h,hj,hne=>by
  have hij:i≠j:=hne (i,g) (by simp);simp only[wG,Yp,pI] at h ⊢;obtain⟨hi,hr⟩:=h;by_cases hg:g<=1
  ·rw[if_pos hg] at hi ⊢;simp only[pI] at hi ⊢;obtain⟨hi,hf⟩:=hi;have hi':i∈Region.ready md ops listed:=by simpa using hi
   obtain⟨h1,h2⟩:=QQ l1 (listed.setIfInBounds i true) hr (ready_mono hj hij.symm) (fun x hx=>hne x (by simp[hx]));refine⟨⟨⟨by simpa using ready_mono hi' hij,zgz hf⟩,by rw[<-Array.setIfInBounds_comm _ _ hij];exact h1⟩,fun x hx=>?_⟩;rcases pS.1 hx with rfl|hx
   ·obtain⟨_,oi,hoi,_⟩:=mem_ready.1 hi';obtain⟨hju,oj,hoj,hall⟩:=mem_ready.1 hj;refine⟨hg,oi,oj,hoi,hoj,Region.free_spec hoi hf j oj hoj (Ne.symm hij) hju fun e he hb hon=>?_⟩;have h3:=hall e he hb;have h4:=(mem_ready.1 hi').1;rw[hon] at h3;rw[Ku h4] at h3;cases h3
   ·exact h2 x hx
  ·rw[if_neg hg,pX] at hi;rw[hi] at hj;exact absurd (wU.1 hj).symm hij
theorem zeL{Xp:List PanicEntry->World->Prop}{c:List PanicEntry}{a:Act}{d:Option Tmp}{v:Value}{w:World}(h:xOf Xp (.panic c) (a.put d v) w):xOf Xp (.panic c) a w:=by
 cases d <;> exact h
theorem QA{o:Oper}{a:Act}{d:Option Tmp}{v:Value}{next next':Act->World->Prop}{r:Result Next}(hne:∀x,d=some x->o.dst≠some x)
 (h:∀(a':Act) w',(∃(c:Act) (u:Value),c.tmps=a.tmps/\a'=c.put o.dst u)->next (a'.put d v) w'->next' a' w') (hh:o.upon P (a.put d v) next (xOf Xp) r):o.upon P a next' (xOf Xp) r:=by
 have e:∀(b:Act) u,((b.put d v).put o.dst u)=(b.put o.dst u).put d v:=fun b u=>Act.put_comm b v u hne
 cases r with
 |ok n w=>
  cases n <;> simp only[Oper.upon] at hh ⊢
  case value u=>exact h _ _ ⟨a,u,rfl,rfl⟩ (by rw[<-e];exact hh)
  case skip=>exact h _ _ ⟨a,undef,rfl,rfl⟩ (by rw[<-e];exact hh)
  case defer dd=>
   refine h _ _ ⟨{a with defers:=dd :: a.defers},undef,rfl,rfl⟩ ?_;have e2:({a with defers:=dd :: a.defers}.put o.dst undef).put d v=({a.put d v with defers:=dd :: (a.put d v).defers}:Act).put o.dst undef:=by
    rw[<-e];cases d <;> rfl
   rw[e2];exact hh
  case enter f args=>
   refine hh.mono fun e1 w1 h1=>?_
   cases e1 with
   |returned u=>exact h _ _ ⟨a,u,rfl,rfl⟩ (by rw[<-e];exact h1)
   |panicked c=>exact zeL h1
   |outgrown=>exact h1
  case row row args=>exact hh.mono fun u w1 h1=>h _ _ ⟨a,u,rfl,rfl⟩ (by rw[<-e];exact h1)
 |halt x w=>
  cases x <;> simp only[Oper.upon] at hh ⊢
  all_goals exact zeL hh
def YG(RR:Rel)(P:Program)(ops:Array Oper)(b:World)(o:Oper)(v:Value)(a:Act):Prop:=
 (Region.wanted o (yielded ops a.tmps)=true/\∀w,RR.rel b w->o.quietAt P a (RR.zM w) w v)\/(Region.wanted o (yielded ops a.tmps)=false/\v=undef)
def YW(P:Program)(ops:Array Oper)(o:Oper)(v:Value)(a:Act):Prop:=
 (Region.wanted o (yielded ops a.tmps)=true/\∀w,XX P w v ((execOp a.eval o).run P w))\/(Region.wanted o (yielded ops a.tmps)=false/\v=undef)
theorem YG.grown{b b':World}{o:Oper}{v:Value}{a:Act}(h:YG RR P ops b o v a)(hb:RR.rel b b'):YG RR P ops b' o v a:=by
 rcases h with⟨h1,h2⟩|h
 ·exact .inl ⟨h1,fun w hw=>h2 w (RR.trans hb hw)⟩
 ·exact .inr h
theorem YG.same{b:World}{o:Oper}{v:Value}{a a':Act}(h:YG RR P ops b o v a)(he:execOp a'.eval o=execOp a.eval o)(hw:Region.wanted o (yielded ops a'.tmps)=Region.wanted o (yielded ops a.tmps)):YG RR P ops b o v a':=by
 unfold YG Oper.quietAt at *;rw[he,hw];exact h
theorem YW.same{o:Oper}{v:Value}{a a':Act}(h:YW P ops o v a)(he:execOp a'.eval o=execOp a.eval o)(hw:Region.wanted o (yielded ops a'.tmps)=Region.wanted o (yielded ops a.tmps)):YW P ops o v a':=by
 unfold YW at *;rw[he,hw];exact h
theorem kE{i:Nat}{oi:Oper}{v:Value}{next:Act->Prop}{a:Act}(hi:ops[i]? =some oi)(hy:YW P ops oi v a)(h:next (a.put oi.dst v)):Xg P ops i next a:=by
 simp only[Xg,hi];rcases hy with⟨hw,hv⟩|⟨hw,rfl⟩
 ·rw[if_pos hw];exact⟨v,hv,h⟩
 ·rw[if_neg (by simp[hw])];exact h
theorem Xv{i:Nat}{oi:Oper}{next:Act->Prop}{a:Act}(hi:ops[i]? =some oi)(h:Xg P ops i next a):∃v,YW P ops oi v a/\next (a.put oi.dst v):=by
 simp only[Xg,hi] at h;by_cases hw:Region.wanted oi (yielded ops a.tmps)=true
 ·rw[if_pos hw] at h;obtain⟨v,h1,h2⟩:=h;exact⟨v,.inl ⟨hw,h1⟩,h2⟩
 ·rw[if_neg hw] at h;exact⟨undef,.inr ⟨by simpa using hw,rfl⟩,h⟩
theorem Xh{i:Nat}{oi:Oper}{v:Value}{b:World}{K:World->Act->Prop}{KE:Act->World->Prop}{a:Act}(hi:ops[i]? =some oi)(hy:YG RR P ops b oi v a)(h:K b (a.put oi.dst v)):vW RR Xp P ops 1 i b K KE a:=by
 simp only[vW,hi];rcases hy with⟨hw,hv⟩|⟨hw,rfl⟩
 ·rw[if_pos hw];exact⟨v,hv,h⟩
 ·rw[if_neg (by simp[hw])];exact h
theorem zck{i:Nat}{oi:Oper}{b:World}{K:World->Act->Prop}{KE:Act->World->Prop}{a:Act}(hi:ops[i]? =some oi)(h:vW RR Xp P ops 1 i b K KE a):∃v,YG RR P ops b oi v a/\K b (a.put oi.dst v):=by
 simp only[vW,hi] at h;by_cases hw:Region.wanted oi (yielded ops a.tmps)=true
 ·rw[if_pos hw] at h;obtain⟨v,h1,h2⟩:=h;exact⟨v,.inl ⟨hw,h1⟩,h2⟩
 ·rw[if_neg hw] at h;exact⟨undef,.inr ⟨by simpa using hw,rfl⟩,h⟩
structure zkN(ops:Array Oper)(oi oj:Oper):Prop where
 ei:∀(c:Act) u,execOp (c.put oj.dst u).eval oi=execOp c.eval oi
 wi:∀(c:Act) u,Region.wanted oi (yielded ops (c.put oj.dst u).tmps)=Region.wanted oi (yielded ops c.tmps)
 ej:∀(c:Act) u,execOp (c.put oi.dst u).eval oj=execOp c.eval oj
 wj:∀(c:Act) u,Region.wanted oj (yielded ops (c.put oi.dst u).tmps)=Region.wanted oj (yielded ops c.tmps)
 hd:∀d,oi.dst=some d->oj.dst≠some d
theorem zcQ(hs:Region.noSelect ops=true){i j:Nat}{oi oj:Oper}(hoi:ops[i]? =some oi)(hoj:ops[j]? =some oj)(hap:oi.apart ops oj=true):zkN ops oi oj:=by
 obtain⟨h1,h2,h3⟩:=Oper.apart_spec hap;have si:∀cs bb,oi.op≠.select cs bb:=fun cs bb=>Region.noSelect_spec hs i oi cs bb hoi
 have sj:∀cs bb,oj.op≠.select cs bb:=fun cs bb=>Region.noSelect_spec hs j oj cs bb hoj
 exact⟨fun c u=>execOp_put oi si c oj.dst u h3,fun c u=>wanted_put oi c oj.dst u h3,fun c u=>execOp_put oj sj c oi.dst u h1,fun c u=>wanted_put oj c oi.dst u h1,h2⟩
theorem QC{j:Nat}{oi oj:Oper}{v:Value}{next next':Act->World->Prop}{a:Act}{w:World}(hoj:ops[j]? =some oj)(A:zkN ops oi oj)
 (h:∀(a':Act) w',(∃(c:Act) (u:Value),c.tmps=a.tmps/\a'=c.put oj.dst u)->next (a'.put oi.dst v) w'->next' a' w') (hh:Xf Xp P ops j next (a.put oi.dst v) w):Xf Xp P ops j next' a w:=by
 simp only[Xf,hoj] at hh ⊢;rw[A.wj] at hh;by_cases hw:Region.wanted oj (yielded ops a.tmps)=true
 ·rw[if_pos hw] at hh ⊢;unfold Oper.wp at *;rw[A.ej] at hh;exact QA A.hd h hh
 ·rw[if_neg hw] at hh ⊢;exact h _ _ ⟨a,undef,rfl,rfl⟩ (by rw[<-Act.put_comm a v undef A.hd];exact hh)
theorem Qz(hs:Region.noSelect ops=true){Q:Act->World->Prop}{j f:Nat}{l2:List (Nat×Nat)}:
 ∀(l1:List (Nat×Nat)) (a:Act) (w:World),(∀x,x∈l1->x.2=0/\∃oi oj,ops[x.1]? =some oi/\ops[j]? =some oj/\oi.apart ops oj=true)->wpE Xp P ops Q (l1 ++ (j,f) :: l2) a w->
  (match f with|0=>Xg P ops j (fun a'=>wpE Xp P ops Q (l1 ++ l2) a' w) a|_+1=>Xf Xp P ops j (wpE Xp P ops Q (l1 ++ l2)) a w)
 |[],a,w,_,h=>by cases f <;> exact h
 |(i,g) :: l1,a,w,hx,h=>by
  obtain⟨hg,oi,oj,hoi,hoj,hap⟩:=hx (i,g) (by simp);simp only at hg;subst hg;have A:=zcQ hs hoi hoj hap;simp only[wG,wpE] at h;obtain⟨v,hy,h'⟩:=Xv hoi h;have ih:=Qz hs l1 (a.put oi.dst v) w (fun x hx'=>hx x (by simp[hx'])) h';cases f with
  |zero=>
   simp only at ih ⊢;obtain⟨u,hu,hn⟩:=Xv hoj ih;refine kE hoj (hu.same (A.ej a v).symm (A.wj a v).symm) ?_;simp only[wG,wpE];exact kE hoi (hy.same (A.ei a u) (A.wi a u)) (by rw[<-Act.put_comm a v u A.hd];exact hn)
  |succ f=>
   simp only at ih ⊢;refine QC hoj A (fun a' w' hb hc=>?_) ih;obtain⟨c,u,hc1,hc2⟩:=hb;subst hc2;simp only[wG,wpE];refine kE hoi (hy.same ?_ ?_) hc
   ·rw[A.ei c u];cases c;cases a;simp only at hc1;subst hc1;rfl
   ·rw[A.wi c u,hc1]
theorem Qy(hs:Region.noSelect ops=true){Q:Act->World->Prop}{j f:Nat}{l2:List (Nat×Nat)}{b:World}:
 ∀(l1:List (Nat×Nat)) (a:Act),(∀x,x∈l1->(x.2<=1/\(3<=f->x.2=0))/\∃oi oj,ops[x.1]? =some oi/\ops[j]? =some oj/\oi.apart ops oj=true)->jJ RR Xp P ops Q (l1 ++ (j,f) :: l2) b a->
  vW RR Xp P ops f j b (jJ RR Xp P ops Q (l1 ++ l2)) (wpE Xp P ops Q (l1 ++ l2)) a
 |[],a,_,h=>h
 |(i,g) :: l1,a,hx,h=>by
  obtain⟨⟨hg,hg3⟩,oi,oj,hoi,hoj,hap⟩:=hx (i,g) (by simp);simp only at hg hg3;have A:=zcQ hs hoi hoj hap;have key:∃v,YG RR P ops b oi v a/\(g=0->YW P ops oi v a)/\jJ RR Xp P ops Q (l1 ++ (j,f) :: l2) b (a.put oi.dst v):=by
   simp only[wG,jJ] at h
   match g,hg with
   |0,_=>
    obtain⟨v,hy,h'⟩:=Xv hoi h;refine⟨v,?_,fun _=>hy,h'⟩;rcases hy with⟨h1,h2⟩|h1
    ·refine .inl ⟨h1,fun w _=>?_⟩;have:=h2 w;unfold Oper.quietAt;generalize (execOp a.eval oi).run P w=r at *;cases r with
     |ok n w'=>
      cases n <;> simp only[XX] at this <;> simp only[Oper.quietUpon]
      case value u=>exact this
      case skip=>exact this
      case enter gg args=>exact⟨this.1,this.2.mono fun e w'' ⟨he,hw''⟩=>⟨he,by subst hw'';exact RR.srefl _⟩⟩
     |halt x w'=>simp only[XX] at this
    ·exact .inr h1
   |1,_=>
    obtain⟨v,hy,h'⟩:=zck hoi h;exact⟨v,hy,fun h=>(by cases h),h'⟩
  obtain⟨v,hy,hy0,h'⟩:=key;have back:∀(b':World) (a':Act),YG RR P ops b' oi v a'->(g=0->YW P ops oi v a')->jJ RR Xp P ops Q (l1 ++ l2) b' (a'.put oi.dst v)->jJ RR Xp P ops Q ((i,g) :: l1 ++ l2) b' a':=by
   intro b' a' h1 h2 h3;simp only[wG,jJ]
   match g,hg,h2 with
   |0,_,h2=>exact kE hoi (h2 rfl) h3
   |1,_,_=>exact Xh hoi h1 h3
  have ih:=Qy hs l1 (a.put oi.dst v) (fun x hx'=>hx x (by simp[hx'])) h'
  match f,hg3,ih with
  |0,_,ih=>
   obtain⟨u,hu,hn⟩:=Xv hoj ih;exact kE hoj (hu.same (A.ej a v).symm (A.wj a v).symm) (back b _ (hy.same (A.ei a u) (A.wi a u)) (fun h0=>(hy0 h0).same (A.ei a u) (A.wi a u)) (by rw[<-Act.put_comm a v u A.hd];exact hn))
  |1,_,ih=>
   obtain⟨u,hu,hn⟩:=zck hoj ih;exact Xh hoj (hu.same (A.ej a v).symm (A.wj a v).symm) (back b _ (hy.same (A.ei a u) (A.wi a u)) (fun h0=>(hy0 h0).same (A.ei a u) (A.wi a u)) (by rw[<-Act.put_comm a v u A.hd];exact hn))
  |2,_,ih=>
   simp only[vW,hoj] at ih ⊢;rw[A.wj] at ih;by_cases hw:Region.wanted oj (yielded ops a.tmps)=true
   ·rw[if_pos hw] at ih ⊢;intro w hw';have:=ih w hw';unfold Oper.wp at *;rw[A.ej] at this;refine QA A.hd (fun a' w' hb hc=>?_) this;obtain⟨c,u,hc1,hc2⟩:=hb;subst hc2;have e1:execOp (c.put oj.dst u).eval oi=execOp a.eval oi:=by rw[A.ei c u];cases c;cases a;simp only at hc1;subst hc1;rfl
    have e2:Region.wanted oi (yielded ops (c.put oj.dst u).tmps)=Region.wanted oi (yielded ops a.tmps):=by rw[A.wi c u,hc1]
    exact⟨hc.1,back _ _ ((hy.grown (RR.trans (RR.kZ hw') hc.1)).same e1 e2) (fun h0=>(hy0 h0).same e1 e2) hc.2⟩
   ·rw[if_neg hw] at ih ⊢;exact back b _ (hy.same (A.ei a undef) (A.wi a undef)) (fun h0=>(hy0 h0).same (A.ei a undef) (A.wi a undef)) (by rw[<-Act.put_comm a v undef A.hd];exact ih)
  |f+3,hg3,ih=>
   have g0:g=0:=hg3 (by omega);subst g0;simp only[vW] at ih ⊢;intro w hw';refine QC hoj A (fun a' w' hb hc=>?_) (ih w hw');obtain⟨c,u,hc1,hc2⟩:=hb;subst hc2;simp only[wG,wpE];refine kE hoi ((hy0 rfl).same ?_ ?_) hc
   ·rw[A.ei c u];cases c;cases a;simp only at hc1;subst hc1;rfl
   ·rw[A.wi c u,hc1]
structure Inv(md:Region.Mode)(ops:Array Oper)(ord:List (Nat×Nat))(listed:Array Bool):Prop where
 ok:Yp md ops ord listed=true
 nd:(ord.map Prod.fst).Nodup
 un:∀x,x∈ord->listed.getD x.1 true=false
 cov:∀i,i<ops.size->listed.getD i true=false->∃f,(i,f)∈ord
 cl:Qx md ops listed
 sk:∀x,x∈ord->x.2=1->∀t,t∈ord->3<=t.2->Zx md ops 12 t.1 x.1=true
 late:YJ ord=true
theorem Vn(listed:Array Bool)(j:Nat):(listed.setIfInBounds j true).getD j true=true:=by
 rcases Nat.lt_or_ge j listed.size with h'|h'
 ·simp[h']
 ·simp[h']
theorem VS{x:Nat×Nat}{l2:List (Nat×Nat)}:∀(l1:List (Nat×Nat)),YJ (l1 ++ x :: l2)=true->YJ (l1 ++ l2)=true/\(3<=x.2->∀y,y∈l2->y.2=0\/3<=y.2)
 |[],h=>by
  simp only[wP,YJ,pI] at h ⊢;refine⟨h.2,fun h3 y hy=>?_⟩;have h1:=h.1;simp only[wH,pH,pZ,pX] at h1;rcases h1 with h1|h1
  ·omega
  ·exact h1 y hy
 |y :: l1,h=>by
  simp only[wG,YJ,pI] at h ⊢;obtain⟨ha,hb⟩:=VS l1 h.2;refine⟨⟨?_,ha⟩,hb⟩;have h1:=h.1;simp only[wH,pH,pZ] at h1 ⊢;rcases h1 with h1|h1
  ·exact .inl h1
  ·refine .inr fun z hz=>h1 z ?_
   rcases wM.1 hz with hz|hz
   ·exact wM.2 (.inl hz)
   ·exact wM.2 (.inr (wJ _ hz))
theorem Inv.split{ord:List (Nat×Nat)}{listed:Array Bool}(I:Inv md ops ord listed){j:Nat}(hj:j∈Region.ready md ops listed):
 ∃l1 f l2,ord=l1 ++ (j,f) :: l2/\Inv md ops (l1 ++ l2) (listed.setIfInBounds j true)/\(∀x,x∈l1->(x.2<=1/\(3<=f->x.2=0))/\∃oi oj,ops[x.1]? =some oi/\ops[j]? =some oj/\oi.apart ops oj=true)/\(3<=f->∀y,y∈l1 ++ l2->y.2=0\/3<=y.2)/\(l1 ++ l2).length+1=ord.length:=by
 obtain⟨hju,o,ho,hall⟩:=mem_ready.1 hj;have hlt:j<ops.size:=(gtA ho);obtain⟨f,hf⟩:=I.cov j hlt hju;obtain⟨l1,l2,rfl⟩:=List.append_of_mem hf;have nd:=I.nd;rw[List.map_append,List.map_cons,List.nodup_append] at nd;obtain⟨nd1,nd2,nd3⟩:=nd;rw[List.nodup_cons] at nd2;have hne1:∀x,x∈l1->x.1≠j:=fun x hx=>nd3 _ (List.mem_map_of_mem hx) _ (by simp)
 have hne2:∀x,x∈l2->x.1≠j:=fun x hx e=>nd2.1 (by rw[<-e];exact List.mem_map.2 ⟨x,hx,rfl⟩)
 have hne:∀x,x∈l1 ++ l2->x.1≠j:=fun x hx=>(wM.1 hx).elim (hne1 x) (hne2 x)
 have sub:∀x,x∈l1 ++ l2->x∈l1 ++ (j,f) :: l2:=fun x hx=>by
  rcases wM.1 hx with hx|hx
  ·exact wM.2 (.inl hx)
  ·exact wM.2 (.inr (wJ _ hx))
 obtain⟨m1,m2⟩:=QQ l1 listed I.ok hj hne1;obtain⟨d1,d2⟩:=VS l1 I.late;have h0:3<=f->∀x,x∈l1->x.2=0:=fun h3 x hx=>by
  have h1:=(m2 x hx).1;rcases Nat.lt_or_ge x.2 1 with h2|h2
  ·omega
  ·exact (XU I.cl (I.sk x (sub x (wM.2 (.inl hx))) (by omega) (j,f) hf h3) (I.un x (sub x (wM.2 (.inl hx)))) hj).elim
 refine⟨l1,f,l2,rfl,⟨m1,?_,?_,?_,I.cl.set hj,?_,d1⟩,fun x hx=>⟨⟨(m2 x hx).1,fun h3=>h0 h3 x hx⟩,(m2 x hx).2⟩,?_,by simp;omega⟩
 ·rw[List.map_append,List.nodup_append];exact⟨nd1,nd2.2,fun a ha b hb=>nd3 a ha b (wJ _ hb)⟩
 ·exact fun x hx=>by rw[getD_set_ne true (Ne.symm (hne x hx))];exact I.un x (sub x hx)
 ·intro i hi hu;have hij:j≠i:=fun e=>by subst e;rw[Vn] at hu;cases hu
  rw[getD_set_ne true hij] at hu;obtain⟨g,hg⟩:=I.cov i hi hu;refine⟨g,?_⟩;rcases wM.1 hg with hg|hg
  ·exact wM.2 (.inl hg)
  ·rcases pS.1 hg with hg|hg
   ·exact absurd (congrArg Prod.fst hg).symm hij
   ·exact wM.2 (.inr hg)
 ·exact fun x hx h1 t ht h3=>I.sk x (sub x hx) h1 t (sub t ht) h3
 ·intro h3 y hy;rcases wM.1 hy with hy|hy
  ·exact .inl (h0 h3 y hy)
  ·exact d2 h3 y hy
def Yt(Xp:List PanicEntry->World->Prop)(Q:Act->World->Prop):Exit->Act->World->Prop:=fun e a w=>match e with
 | .normal=>Q a w
 | .panic c=>a.defers=[]/\Xp c w
 |_=>False
theorem Vu{o:Oper}{a:Act}{next next':Act->World->Prop}{Q:Act->World->Prop}{r:Result Next}(h:∀a w,next a w->next' a w)(hh:o.upon P a next (xOf Xp) r):o.upon P a next' (Yt Xp Q) r:=by
 cases r with
 |ok n w=>
  cases n <;> simp only[Oper.upon] at hh ⊢
  case value u=>exact h _ _ hh
  case skip=>exact h _ _ hh
  case defer dd=>exact h _ _ hh
  case enter f args=>
   refine hh.mono fun e1 w1 h1=>?_
   cases e1 with
   |returned u=>exact h _ _ h1
   |panicked c=>exact h1
   |outgrown=>obtain⟨_,_,h2⟩:=h1;exact h2.elim
  case row row args=>exact hh.mono fun u w1 h1=>h _ _ h1
 |halt x w=>
  cases x <;> simp only[Oper.upon] at hh ⊢
  all_goals exact hh
theorem Yg{i:Nat}{next next':Act->World->Prop}{Q:Act->World->Prop}{a:Act}{w:World}(h:∀a w,next a w->next' a w)(hh:Xf Xp P ops i next a w):wpOp P ops (Yt Xp Q) i next' a w:=by
 unfold Xf at hh;unfold wpOp;cases ho:ops[i]? with
 |none=>rw[ho] at hh;exact h _ _ hh
 |some o=>
  rw[ho] at hh;simp only at hh ⊢;by_cases hw:Region.wanted o (yielded ops a.tmps)=true
  ·rw[if_pos hw] at hh ⊢;exact .inl (Vu h hh)
  ·rw[if_neg hw] at hh ⊢;exact h _ _ hh
theorem Yh{i:Nat}{next:Act->Prop}{next':Act->World->Prop}{Q:Act->World->Prop}{a:Act}{w:World}(h:∀a,next a->next' a w)(hh:Xg P ops i next a):wpOp P ops (Yt Xp Q) i next' a w:=by
 unfold Xg at hh;unfold wpOp;cases ho:ops[i]? with
 |none=>rw[ho] at hh;exact h _ hh
 |some o=>
  rw[ho] at hh;simp only at hh ⊢;by_cases hw:Region.wanted o (yielded ops a.tmps)=true
  ·rw[if_pos hw] at hh ⊢;obtain⟨v,h1,h2⟩:=hh;refine .inl ?_;have h1:=h1 w;unfold Oper.wp;generalize (execOp a.eval o).run P w=r at *;cases r with
   |ok n w'=>
    cases n <;> simp only[XX] at h1 <;> simp only[Oper.upon]
    case value u=>obtain⟨e1,e2⟩:=h1;subst e1;subst e2;exact h _ h2
    case skip=>obtain⟨e1,e2⟩:=h1;subst e1;subst e2;exact h _ h2
    case enter g args=>obtain⟨e1,e2⟩:=h1;subst e1;exact e2.mono fun e w'' ⟨e1,e2⟩=>by subst e1;subst e2;exact h _ h2
   |halt x w'=>simp only[XX] at h1
  ·rw[if_neg hw] at hh ⊢;exact h _ hh
theorem KZ{i:Nat}{b:World}{K:World->Act->Prop}{KE next':Act->World->Prop}{Q:Act->World->Prop}{a:Act}{w:World}(hb:RR.zM b w)(h:∀a w,RR.zM b w->K b a->next' a w)(hh:vW RR Xp P ops 1 i b K KE a):wpOp P ops (Yt Xp Q) i next' a w:=by
 unfold vW at hh;unfold wpOp;cases ho:ops[i]? with
 |none=>rw[ho] at hh;exact h _ _ hb hh
 |some o=>
  rw[ho] at hh;simp only at hh ⊢;by_cases hw:Region.wanted o (yielded ops a.tmps)=true
  ·rw[if_pos hw] at hh ⊢;obtain⟨v,h1,h2⟩:=hh;refine .inl ?_;have h1:=h1 w (RR.kZ hb);unfold Oper.quietAt at h1;unfold Oper.wp;generalize (execOp a.eval o).run P w=r at *;cases r with
   |ok n w'=>
    cases n <;> simp only[Oper.quietUpon] at h1 <;> simp only[Oper.upon]
    case value u=>obtain⟨e1,e2⟩:=h1;subst e1;subst e2;exact h _ _ hb h2
    case skip=>obtain⟨e1,e2⟩:=h1;subst e1;subst e2;exact h _ _ hb h2
    case enter g args=>obtain⟨e0,h1⟩:=h1;subst e0;exact h1.mono fun e w'' ⟨e1,e2⟩=>by subst e1;exact h _ _ (RR.strans hb e2) h2
   |halt x w'=>simp only[Oper.quietUpon] at h1
  ·rw[if_neg hw] at hh ⊢;exact h _ _ hb hh
theorem KY{i:Nat}{b:World}{K:World->Act->Prop}{KE next':Act->World->Prop}{Q:Act->World->Prop}{a:Act}{w:World}(hb:RR.zM b w)(h:∀a w',RR.rel b w'->(∃b',RR.zM b' w'/\K b' a)->next' a w')(hh:vW RR Xp P ops 2 i b K KE a):wpOp P ops (Yt Xp Q) i next' a w:=by
 unfold vW at hh;unfold wpOp;cases ho:ops[i]? with
 |none=>rw[ho] at hh;exact h _ _ (RR.kZ hb) ⟨b,hb,hh⟩
 |some o=>
  rw[ho] at hh;simp only at hh ⊢;by_cases hw:Region.wanted o (yielded ops a.tmps)=true
  ·rw[if_pos hw] at hh ⊢;exact .inl (Vu (fun a w' h1=>h _ _ (RR.trans (RR.kZ hb) h1.1) ⟨w',RR.srefl _,h1.2⟩) (hh w hb))
  ·rw[if_neg hw] at hh ⊢;exact h _ _ (RR.kZ hb) ⟨b,hb,hh⟩
theorem Inv.head{x:Nat×Nat}{ord:List (Nat×Nat)}{listed:Array Bool}(I:Inv md ops (x :: ord) listed):Region.ready md ops listed≠[]:=by
 have h:=I.ok;obtain⟨i,f⟩:=x;simp only[Yp,pI] at h;intro e;have h1:=h.1;rw[e] at h1;by_cases hf:f<=1
 ·rw[if_pos hf] at h1;simp at h1
 ·rw[if_neg hf] at h1;simp at h1
theorem zau(hs:Region.noSelect ops=true){Q:Act->World->Prop}:∀(n:Nat) (ord:List (Nat×Nat)) (listed:Array Bool) (fuel:Nat) (a:Act) (w:World),ord.length=n->n<=fuel->Inv md ops ord listed->(∀y,y∈ord->y.2=0\/3<=y.2)->
 wpE Xp P ops Q ord a w->wpAny P md ops (Yt Xp Q) fuel listed a w
 |0,ord,listed,fuel,a,w,hn,_,I,_,h=>by
  cases pU hn;have hr:Region.ready md ops listed=[]:=by simpa[Yp] using I.ok
  cases fuel with
  |zero=>exact⟨hr,h⟩
  |succ k=>exact⟨fun _=>h,fun i hi=>by rw[hr] at hi;cases hi⟩
 |n+1,ord,listed,fuel,a,w,hn,hf,I,hl,h=>by
  obtain⟨k,rfl⟩:∃k,fuel=k+1:=⟨fuel-1,by omega⟩;obtain⟨x,r,rfl⟩:∃x r,ord=x :: r:=by cases ord with|nil=>simp at hn|cons x r=>exact⟨x,r,rfl⟩
  refine⟨fun e=>absurd e I.head,fun i hi=>?_⟩;obtain⟨l1,f,l2,e,I',hx,_,hlen⟩:=I.split hi;rw[e] at h hl;have hl':∀y,y∈l1 ++ l2->y.2=0\/3<=y.2:=fun y hy=>hl y (by
   rcases wM.1 hy with hy|hy
   ·exact wM.2 (.inl hy)
   ·exact wM.2 (.inr (wJ _ hy)))
  have ih:=fun a' w'=>zau hs (Q:=Q) n (l1 ++ l2) (listed.setIfInBounds i true) k a' w' (by omega) (by omega) I' hl'
  have hx':∀x,x∈l1->x.2=0/\∃oi oj,ops[x.1]? =some oi/\ops[i]? =some oj/\oi.apart ops oj=true:=fun x hx1=>⟨by have:=(hx x hx1).1.1;have:=hl' x (wM.2 (.inl hx1));omega,(hx x hx1).2⟩
  have st:=Qz hs l1 a w hx' h;cases f with
  |zero=>exact Yh (fun a' h'=>ih a' w h') st
  |succ f=>exact Yg ih st
theorem zbo(hs:Region.noSelect ops=true){Q:Act->World->Prop}:∀(n:Nat) (ord:List (Nat×Nat)) (listed:Array Bool) (fuel:Nat) (b:World) (a:Act) (w:World),ord.length=n->n<=fuel->Inv md ops ord listed->RR.zM b w->
 jJ RR Xp P ops Q ord b a->wpAny P md ops (Yt Xp Q) fuel listed a w
 |0,ord,listed,fuel,b,a,w,hn,_,I,hb,h=>by
  cases pU hn;have hr:Region.ready md ops listed=[]:=by simpa[Yp] using I.ok
  cases fuel with
  |zero=>exact⟨hr,h w hb⟩
  |succ k=>exact⟨fun _=>h w hb,fun i hi=>by rw[hr] at hi;cases hi⟩
 |n+1,ord,listed,fuel,b,a,w,hn,hf,I,hb,h=>by
  obtain⟨k,rfl⟩:∃k,fuel=k+1:=⟨fuel-1,by omega⟩;obtain⟨x,r,rfl⟩:∃x r,ord=x :: r:=by cases ord with|nil=>simp at hn|cons x r=>exact⟨x,r,rfl⟩
  refine⟨fun e=>absurd e I.head,fun i hi=>?_⟩;obtain⟨l1,f,l2,e,I',hx,hlate,hlen⟩:=I.split hi;rw[e] at h;have ih:=fun b' a' w'=>zbo hs (Q:=Q) n (l1 ++ l2) (listed.setIfInBounds i true) k b' a' w' (by omega) (by omega) I'
  have st:=Qy hs l1 a hx h
  match f,st,hlate with
  |0,st,_=>exact Yh (fun a' h'=>ih b a' w hb h') st
  |1,st,_=>exact KZ hb (fun a' w' hw' h'=>ih b a' w' hw' h') st
  |2,st,_=>exact KY hb (fun a' w' hw' ⟨b',h1,h2⟩=>ih b' a' w' h1 h2) st
  |f+3,st,hlate=>
   exact Yg (fun a' w' h'=>zau hs n (l1 ++ l2) (listed.setIfInBounds i true) k a' w' (by omega) (by omega) I' (hlate (by omega)) h') (st w hb)
def jA(ops:Array Oper)(ord:List (Nat×Nat)):Bool:=
 Region.noSelect ops && Yp .any ops ord (Array.replicate ops.size false) && zkn ops ord && decide ((ord.map Prod.fst).Nodup) && (ord.all fun x=>decide (x.1<ops.size)) && zhn .any ops ord && YJ ord && decide (ord.length<=ops.size)
theorem Yq{ord:List (Nat×Nat)}(h:jA ops ord=true):Region.noSelect ops=true/\Inv .any ops ord (Array.replicate ops.size false)/\ord.length<=ops.size:=by
 simp only[jA,pI,pH,pZ] at h;obtain⟨⟨⟨⟨⟨⟨⟨h1,h2⟩,h3⟩,h4⟩,h5⟩,h6⟩,h7⟩,h8⟩:=h;refine⟨h1,⟨h2,h4,fun x hx=>?_,fun i hi _=>?_,fun k o ho hk=>?_,fun x hx hx1 t ht ht3=>?_,h7⟩,?_⟩
 ·simp[h5 x hx]
 ·simp only[zkn,pZ,List.mem_range,gC,pX] at h3;obtain⟨x,hx,e⟩:=h3 i hi;exact⟨x.2,by rw[<-e];exact hx⟩
 ·exfalso;rcases Nat.lt_or_ge k ops.size with h'|h'
  ·simp[h'] at hk
  ·simp[Array.getElem?_eq_none h'] at ho
 ·simp only[zhn,pZ,wH,pH] at h6;rcases h6 x hx with hz|hz
  ·simp[hx1] at hz
  ·rcases hz t ht with h9|h9
   ·omega
   ·exact h9
 ·exact h8
theorem qL{id:Nat}{l:List Oper}{Q:Exit->Act->World->Prop}{a:Act}{w:World}(ord:List (Nat×Nat))(hm:P.follows .mixedOrders=true)(hc:jA l.toArray ord=true)(hX:∀c a w,a.defers=[]->Xp c w->Q (.panic c) a w)
 (h:jJ RR Xp P l.toArray (Q .normal) ord w.drew a):(Code.region id l.toArray true).wp P Q a w:=by
 obtain⟨h1,h2,h3⟩:=Yq hc;refine Code.wp_mono (fun e a w q=>?_) (wp_region_any (Q:=Yt Xp (Q .normal)) hm (zbo h1 _ ord _ _ w.drew a _ rfl h3 h2 (RR.srefl _) h));cases e <;> first|exact q|exact hX _ _ _ q.1 q.2|exact q.elim
theorem qH{id:Nat}{l:List Oper}{Q:Exit->Act->World->Prop}{a:Act}{w:World}(ord:List (Nat×Nat))(h:jJ RR Xp P l.toArray (Q .normal) ord w.drew a)(hm:P.follows .mixedOrders=true:=by kernel_rfl)(hc:jA l.toArray ord=true:=by kernel_rfl)(hX:∀c a w,a.defers=[]->Xp c w->Q (.panic c) a w:=by first|(rintro c a W hd ⟨p,rfl,rfl,hb⟩;go_wp2_with fail;exact⟨hd,rfl,hb⟩)|(rintro c a V hd h;exact h.elim)):(Code.region id l.toArray true).wp P Q a w:=qL ord hm hc hX h
end
end
section
open Go Go.RowKit Go.Sort
section
variable {RR:Rel} {Xp:List PanicEntry→World→Prop} {P:Program} {l:List Oper} {Q:Act→World→Prop} {r:List (Nat×Nat)} {b w:World} {a:Act}
theorem uC{i f:Nat}{o:Oper}(hi':l[i]? =some o)(hw:Region.wanted o (yielded l.toArray a.tmps)=false)(hf:Nat.ble f 2=true)(h:jJ RR Xp P l.toArray Q r b (a.put o.dst undef)):jJ RR Xp P l.toArray Q ((i,f) :: r) b a:=by
 have hi:l.toArray[i]? =some o:=by rw[pW];exact hi'
 unfold jJ
 match f,Nat.le_of_ble_eq_true hf with
 |0,_=>exact kE hi (.inr ⟨hw,rfl⟩) h
 |1,_=>exact Xh hi (.inr ⟨hw,rfl⟩) h
 |2,_=>simp only[vW,hi,hw];exact h
theorem uB{i:Nat}{o:Oper}{v:Value}(hi':l[i]? =some o)(hw:Region.wanted o (yielded l.toArray a.tmps)=true)(hy:∀w,(execOp a.eval o).run P w=.ok (.value v) w)(h:jJ RR Xp P l.toArray Q r b (a.put o.dst v)):jJ RR Xp P l.toArray Q ((i,0) :: r) b a:=by
 have hi:l.toArray[i]? =some o:=by rw[pW];exact hi'
 unfold jJ;exact kE hi (.inl ⟨hw,fun w=>by rw[hy w];exact⟨rfl,rfl⟩⟩) h
theorem uD{i:Nat}{o:Oper}{v:Value}{S:World->Prop}(hS:∀w,RR.rel b w->S w)(hi':l[i]? =some o)(hw:Region.wanted o (yielded l.toArray a.tmps)=true)(hy:∀w,S w->(execOp a.eval o).run P w=.ok (.value v) w)(h:jJ RR Xp P l.toArray Q r b (a.put o.dst v)):jJ RR Xp P l.toArray Q ((i,1) :: r) b a:=by
 have hi:l.toArray[i]? =some o:=by rw[pW];exact hi'
 unfold jJ;refine Xh hi (.inl ⟨hw,fun w hc=>?_⟩) h;unfold Oper.quietAt;rw[hy w (hS w hc)];exact⟨rfl,rfl⟩
theorem qr{r':List (Nat×Nat)}{a':Act}(h:jJ RR Xp P l.toArray Q r' b a')(hh:jJ RR Xp P l.toArray Q r' b a'->jJ RR Xp P l.toArray Q r b a:=by
 intro hM
 repeat ((first|refine LodeX.uC rfl rfl rfl ?_|(apply LodeX.uB rfl rfl;intro _;(go_simp <;> first|rfl|rw[if_neg (by first|omega|(simp;omega))]|rw[if_pos (by omega)]))|(apply LodeX.uD hS rfl rfl;intro _ _;go_split_ands;(go_simp <;> rfl)));simp only[Act.put,yC,yA,yB])
 exact hM):jJ RR Xp P l.toArray Q r b a:=hh h
theorem ya{i:Nat}{o:Oper}(hi':l[i]? =some o)(hw:Region.wanted o (yielded l.toArray a.tmps)=true)(h:∀K:World->Act->Prop,(∀w' a',jJ RR Xp P l.toArray Q r w' a'->K w' a')->∀w,RR.zM b w->o.wp P a w (fun a' w'=>RR.rel w w'/\K w' a') (xOf Xp)):jJ RR Xp P l.toArray Q ((i,2) :: r) b a:=by
 have hi:l.toArray[i]? =some o:=by rw[pW];exact hi'
 unfold jJ;simp only[vW,hi,hw];exact fun w hc=>h _ (fun _ _ h=>h) w hc
theorem zC(h:∀w,RR.zM b w->Q a w):jJ RR Xp P l.toArray Q [] b a:=h
theorem kA{i f:Nat}{o:Oper}(hi':l[i]? =some o)(hw:Region.wanted o (yielded l.toArray a.tmps)=true)(h:∀w,RR.zM b w->o.wp P a w (wpE Xp P l.toArray Q r) (xOf Xp)):jJ RR Xp P l.toArray Q ((i,f+3) :: r) b a:=by
 have hi:l.toArray[i]? =some o:=by rw[pW];exact hi'
 unfold jJ;intro w hc;simp only[Xf,hi,hw,if_true];exact h w hc
theorem vC(h:Q a w):wpE Xp P l.toArray Q [] a w:=h
end
end
end LodeX
namespace Lode
section
open Go Go.RowKit Go.Sort
section
variable {P:Program} {l:List Oper} {Q:Act→World→Prop} {r:List (Nat×Nat)} {b w:World} {a:Act}
theorem zkc{o:Oper}{K:Act->World->Prop}{Q:Exit->Act->World->Prop}(hh:o.wp P a w K (fun _ _ _=>False)):o.wp P a w K Q:=by
 unfold Oper.wp at *;generalize (execOp a.eval o).run P w=r at *;cases r with
 |ok n w'=>
  cases n <;> simp only[Oper.upon] at hh ⊢ <;>
   first
    |exact hh
    |exact Calls.mono hh (fun e w'' he=>by cases e <;> first|exact he|(obtain⟨_,_,h⟩:=he;exact h.elim)|exact False.elim he)
    |exact hh.elim
 |halt x w'=>cases x <;> simp only[Oper.upon] at hh ⊢ <;> first|exact hh|exact hh.elim
def RC:LodeX.Rel:=⟨Cl,Cl.refl,Cl.trans,Cl,Cl.refl,Cl.trans,fun h=>h⟩
abbrev NX:List PanicEntry->World->Prop:=fun _ _=>False
abbrev jJ(P:Program)(ops:Array Oper)(Q:Act->World->Prop)(ord:List (Nat×Nat))(b:World)(a:Act):Prop:=LodeX.jJ RC NX P ops Q ord b a
abbrev wpE(P:Program)(ops:Array Oper)(Q:Act->World->Prop)(ord:List (Nat×Nat))(a:Act)(w:World):Prop:=LodeX.wpE NX P ops Q ord a w
theorem qL{id:Nat}{Q:Exit->Act->World->Prop}(ord:List (Nat×Nat))(hm:P.follows .mixedOrders=true)(hc:LodeX.jA l.toArray ord=true)
 (h:jJ P l.toArray (Q .normal) ord w.drew a):(Code.region id l.toArray true).wp P Q a w:=LodeX.qL (RR:=RC) (Xp:=NX) ord hm hc (fun _ _ _ _ h=>h.elim) h
theorem Xk{id:Nat}{Q:Exit->Act->World->Prop}(ord:List (Nat×Nat))(h:jJ P l.toArray (Q .normal) ord w.drew a)(hm:P.follows .mixedOrders=true:=by kernel_rfl)(hc:LodeX.jA l.toArray ord=true:=by kernel_rfl):(Code.region id l.toArray true).wp P Q a w:=qL ord hm hc h
theorem uC{i f:Nat}{o:Oper}(hi':l[i]? =some o)(hw:Region.wanted o (yielded l.toArray a.tmps)=false)(hf:Nat.ble f 2=true)(h:jJ P l.toArray Q r b (a.put o.dst undef)):jJ P l.toArray Q ((i,f) :: r) b a:=LodeX.uC hi' hw hf h
theorem uB{i:Nat}{o:Oper}{v:Value}(hi':l[i]? =some o)(hw:Region.wanted o (yielded l.toArray a.tmps)=true)(hy:∀w,(execOp a.eval o).run P w=.ok (.value v) w)(h:jJ P l.toArray Q r b (a.put o.dst v)):jJ P l.toArray Q ((i,0) :: r) b a:=LodeX.uB hi' hw hy h
theorem uD{i:Nat}{o:Oper}{v:Value}{S:World->Prop}(hS:∀w,Cl b w->S w)(hi':l[i]? =some o)(hw:Region.wanted o (yielded l.toArray a.tmps)=true)(hy:∀w,S w->(execOp a.eval o).run P w=.ok (.value v) w)(h:jJ P l.toArray Q r b (a.put o.dst v)):jJ P l.toArray Q ((i,1) :: r) b a:=LodeX.uD (RR:=RC) hS hi' hw hy h
theorem XQ{r':List (Nat×Nat)}{a':Act}(h:jJ P l.toArray Q r' b a')(hh:jJ P l.toArray Q r' b a'->jJ P l.toArray Q r b a:=by
 intro hM
 repeat ((first|refine uC rfl rfl rfl ?_|(apply uB rfl rfl;intro _;(go_simp <;> first|rfl|rw[if_neg (by first|omega|(simp;omega))]|rw[if_pos (by omega)]))|(apply uD hS rfl rfl;intro _ _;go_split_ands;(go_simp <;> rfl)));simp only[Act.put,yC,yA,yB])
 exact hM):jJ P l.toArray Q r b a:=hh h
theorem ya{i:Nat}{o:Oper}(hi':l[i]? =some o)(hw:Region.wanted o (yielded l.toArray a.tmps)=true)(h:∀K:World->Act->Prop,(∀w' a',jJ P l.toArray Q r w' a'->K w' a')->∀w,Cl b w->o.wp P a w (fun a' w'=>Cl w w'/\K w' a') (fun _ _ _=>False)):jJ P l.toArray Q ((i,2) :: r) b a:=LodeX.ya (RR:=RC) hi' hw (fun K hK w hw=>zkc (h K hK w hw))
theorem zC(h:∀w,Cl b w->Q a w):jJ P l.toArray Q [] b a:=h
theorem Cl.below{w w':World}(h:Cl w w'):Below w.heap.size w w':=jm.1 h
theorem kA{i f:Nat}{o:Oper}(hi':l[i]? =some o)(hw:Region.wanted o (yielded l.toArray a.tmps)=true)(h:∀w,Cl b w->o.wp P a w (wpE P l.toArray Q r) (fun _ _ _=>False)):jJ P l.toArray Q ((i,f+3) :: r) b a:=LodeX.kA (RR:=RC) hi' hw (fun w hw=>zkc (h w hw))
theorem vC(h:Q a w):wpE P l.toArray Q [] a w:=h
end
end
end Lode
namespace Go.Proofs.YtcagibbaeageoaaGreatDoor
section
open Go.RowKit
open Go.Proofs.Tryz
def AbR{β:Type}(R:Nat)(J:β->World->Prop):Prop:=∀s A B row,J s A->A.grownBy B row->(∀r,row=some r->r=R)->J s B
def zcU{β:Type}(R B:Nat)(I:β->World->Prop):Prop:=∀s W W' row,I s W->W.grownBy W' row->(∀r,row=some r->r=R\/(B<=r/\∃o:Obj,W.heap[r]? =some o/\o.isCells=false))->I s W'
theorem zcU.put{β:Type}{R B:Nat}{I:β->World->Prop}(h:zcU R B I){s:β}{W:World}{l:Nat}{o:Obj}(o':Obj)(hs:I s W)(hl:W.heap[l]? =some o)(ho:o.isCells=false)(hb:B<=l):I s (W.putObj l o'):=
 h s W _ (some l) hs (grownBy_putObj' W l o') (fun r e=>by cases e;exact .inr ⟨hb,o,hl,ho⟩)
theorem zcU.alloc{β:Type}{R B:Nat}{I:β->World->Prop}(h:zcU R B I){s:β}{W:World}(o:Obj)(hs:I s W):I s (W.alloc o):=
 h s W _ none hs (World.grownBy_alloc W o none) (fun r e=>by cases e)
def zl3{α:Type}(F:Fence)(n:Nat)(P:Program)(g:Nat)(la lb:Array Value)(enc:α->Value)(Kp:World->World->Prop)(G:List α->α->Prop)(R:Nat)(S Sp:List α->Prop)(w:World):Prop:=
 ∀(l:Nat) (J Jx:List α->World->Prop) (W:World),Below w.heap.size w W->AbR R J->AbR R Jx->
  (∀pre x W1,J pre W1->G pre x->YieldAt F (n-1) P l #[enc x] W1 fun e W'=>
    (e=.returned (.bool true)/\J (pre ++ [x]) W'/\Kp W1 W')\/(e=.returned (.bool false)/\Jx (pre ++ [x]) W'))->
  J [] W->
  CallsIn F n P g (la ++ #[.func (.yield l) #[] #[]] ++ lb) W fun e W'=>(∃v,e=.returned v)/\((∃xs,S xs/\J xs W')\/(∃pre,Sp pre/\Jx pre W'))
variable {F:Fence} {n:Nat} {P:Program}
theorem zay{α:Type}{g:Operand}{p0:Tmp}{assign body:Code}{Q:Exit->Act->World->Prop}{a:Act}{w:World}
 (hro:F.round=none) (h1:1<=n) {gf:Nat} {la lb:Array Value} (hg:a.eval g=.func (.func gf) la lb) (hFg:F.fn gf) (eg:∀args w,(callFunc gf args).run P w=.ok (.enter gf args) w)
 {enc:α->Value} {Kp:World->World->Prop} {G:List α->α->Prop} {R:Nat} {S Sp:List α->Prop} (hseq:zl3 F (n-1) P gf la lb enc Kp G R S Sp w) (hR:R<w.heap.size)
 (hKt:∀{A B C:World},Kp A B->Kp B C->Kp A C) (hKb:∀(W:World) (l:Nat) (o o':Obj),w.heap.size<=l->W.heap[l]? =some o->o.isCells=false->Kp W (W.putObj l o'))
 (I:List α->World->Prop) (Ix:Code->List α->World->Prop) (hI:zcU R w.heap.size I) (hIx:∀c,zcU R w.heap.size (Ix c)) (h0:I [] w) (Ax:List α->α->Act->World->Prop)
 (hAx:∀pre x a' (W:World) (l:Nat) (o o':Obj),Ax pre x a' W->w.heap.size<=l->W.heap[l]? =some o->o.isCells=false->Ax pre x a' (W.putObj l o'))
 (hassign:∀(l:Nat) (pre:List α) (x:α) (W:World) (K:Act->World->Prop),I pre W->G pre x->(∀a' W',KeepsOthers W W'->Kp W W'->Ax pre x a' W'->K a' W')->
   assign.wpIn (F.inRound l) (n-1-1) P (Exit.then K (fun _ _ _=>False)) {tmps:=a.tmps.setIfInBounds p0 (enc x),defers:=[]} W)
 (hbody:∀(l:Nat) (pre:List α) (x:α) (a':Act) (W:World),Ax pre x a' W->G pre x->body.wpIn (F.inRound l) (n-1-1) P (ownPostK Kp I Ix (pre ++ [x]) W) a' W)
 (hdone:∀(D:Nat) (xs:List α) (W:World),S xs->I xs W->w.heap.size<=D->W.heap[D]? =some (.deferred (some []))->Q .normal {a with defers:={target:=.collected D,args:= #[]} :: a.defers} W)
 (hstop:∀(D:Nat) (c:Code) (pre:List α) (W:World),Sp pre->Ix c pre W->w.heap.size<=D->W.heap[D]? =some (.deferred (some []))->c.wpIn F n P Q {a with defers:={target:=.collected D,args:= #[]} :: a.defers} W) :
 (Code.rangeFunc g #[p0] assign body).wpIn F n P Q a w:=by
 refine wpIn_rangeFunc ?_;intro fn hfn;obtain⟨rec,hrec⟩:∃rec:LoopState->Option Code->Loop,rec=fun st pd=>{state:=st,pending:=pd,fn,tmps:=a.tmps,params:= #[p0],assign,body,defers:=w.heap.size}:=⟨_,rfl⟩
 obtain⟨W1,hW1⟩:∃W1,W1=(w.alloc (.deferred (some []))).alloc (.loop (rec .ready none)):=⟨_,rfl⟩;have sz:W1.heap.size=w.heap.size+2:=by rw[hW1];simp
 have hL1:W1.heap[w.heap.size+1]? =some (.loop (rec .ready none)):=by
  rw[hW1];have:=World.alloc_heap_new (w.alloc (.deferred (some []))) (.loop (rec .ready none));simpa using this
 have hK1:W1.heap[w.heap.size]? =some (.deferred (some [])):=by
  rw[hW1];exact (Below.heap_alloc _ _ _ (by simp)).trans (World.alloc_heap_new w _)
 have hI1:I [] W1:=by rw[hW1];exact hI.alloc _ (hI.alloc _ h0)
 have hb1:Below w.heap.size w W1:=by rw[hW1];exact ((pE _ w).alloc (pF _) _).alloc (by simp) _
 have far:∀{A B:World} {row:Option Nat} {k:Nat} {o:Obj},A.heap[k]? =some o->A.grownBy B row->(∀r,row=some r->r=R)->w.heap.size<=k->B.heap[k]? =some o:=
  fun hk hg' hr hle=>(hg'.block _ (gtA hk) (fun e=>by have:=hr _ e.symm;omega)).trans hk
 refine⟨w.heap.size+1,[{target:=.collected w.heap.size,args:= #[]}],W1,{target:=.fn (.func gf) lb,args:=la ++ #[.func (.yield (w.heap.size+1)) #[] #[]]},W1,gf,
  la ++ #[.func (.yield (w.heap.size+1)) #[] #[]] ++ lb,W1,?_,?_,?_,?_,fun _=>h1,?_⟩
 ·rw[hro,hW1,hrec];exact run_enterLoop_outer _ _ _ _ _
 ·simp only[resolve,hg];simp[go_sem]
 ·intro f' hf';simp[Target.leads] at hf';subst hf';exact hFg
 ·simp[invoke,go_sem,eg]
 refine (hseq (w.heap.size+1)
  (fun pre W=>I pre W/\W.heap[w.heap.size+1]? =some (.loop (rec .ready none))/\W.heap[w.heap.size]? =some (.deferred (some [])))
  (fun pre W=>∃c,Ix c pre W/\W.heap[w.heap.size+1]? =some (.loop (rec .done (some c)))/\W.heap[w.heap.size]? =some (.deferred (some [])))
  W1 hb1
  (fun s A B row hs hg' hr=>⟨hI s A B row hs.1 hg' (fun r e=>.inl (hr r e)),far hs.2.1 hg' hr (by omega),far hs.2.2 hg' hr (by omega)⟩)
  (fun s A B row ⟨c,hc,hl,hk⟩ hg' hr=>⟨c,hIx c s A B row hc hg' (fun r e=>.inl (hr r e)),far hl hg' hr (by omega),far hk hg' hr (by omega)⟩)
  ?_ ⟨hI1,hL1,hK1⟩).mono ?_
 ·rintro pre x W ⟨hi,hl,hk⟩ hG;have hlt:w.heap.size+1<W.heap.size:=(gtA hl);have hy:=run_yield (P:=P) (args:= #[enc x]) hl (by rw[hrec];rfl);rw[hrec] at hy;have ez:((#[p0].zip #[enc x]).foldl (fun tmps (t,a)=>tmps.setIfInBounds t a) a.tmps)=a.tmps.setIfInBounds p0 (enc x):=by simp
  simp only[ez] at hy;refine⟨fn,_,assign,body,hy,roundIn_of_wpIn hfn (hassign _ pre x W _ hi hG fun a' Wa hka hpa hax=>?_)⟩;have hla:=hka.same _ _ hl rfl;have hkk:=hka.same _ _ hk rfl;have hlta:w.heap.size+1<Wa.heap.size:=(gtA hla);refine⟨_,run_beginRound hla (by rw[hrec]),?_⟩;have hl2:(Wa.putObj (w.heap.size+1) (.loop {rec .ready none with state:=.busy})).heap[w.heap.size+1]? =some (.loop {rec .ready none with state:=.busy}):=World.putObj_heap_same hlta;have hk2:(Wa.putObj (w.heap.size+1) (.loop {rec .ready none with state:=.busy})).heap[w.heap.size]? =some (.deferred (some [])):=(World.putObj_heap_other (by omega)).trans hkk;have hw2:Kp W (Wa.putObj (w.heap.size+1) (.loop {rec .ready none with state:=.busy})):=hKt hpa (hKb _ _ _ _ (by omega) hla rfl);refine wpIn_mono (hbody _ pre x a' _ (hAx _ _ _ _ _ _ _ hax (by omega) hla rfl) hG) ?_;have fin:∀(jump:Option Code) (W3:World),KeepsOthers (Wa.putObj (w.heap.size+1) (.loop {rec .ready none with state:=.busy})) W3->
   (Instr.endRound (w.heap.size+1) jump).run P W3=.ok (.bool jump.isNone) (W3.putObj (w.heap.size+1) (.loop (rec (if jump.isNone then .ready else .done) jump)))/\
   W3.heap[w.heap.size+1]? =some (.loop {rec .ready none with state:=.busy})/\
   (W3.putObj (w.heap.size+1) (.loop (rec (if jump.isNone then .ready else .done) jump))).heap[w.heap.size+1]? =some (.loop (rec (if jump.isNone then .ready else .done) jump))/\
   (W3.putObj (w.heap.size+1) (.loop (rec (if jump.isNone then .ready else .done) jump))).heap[w.heap.size]? =some (.deferred (some [])):=fun jump W3 hk3=>by
   have hl3:=hk3.same _ _ hl2 rfl;have:=run_endRound (P:=P) jump hl3;rw[hrec] at this ⊢;exact⟨this,by rw[hrec] at hl3;exact hl3,World.putObj_heap_same (gtA hl3),(World.putObj_heap_other (by omega)).trans (hk3.same _ _ hk2 rfl)⟩
  rintro e a3 W3 hp;cases e with
  |normal=>
   obtain⟨hk3,hkp3,hi3⟩:=hp;obtain⟨hr,hl3,hl4,hk4⟩:=fin none W3 hk3;exact⟨_,_,hr,.inl ⟨rfl,⟨hI.put _ hi3 hl3 rfl (by omega),hl4,hk4⟩,hKt (hKt hw2 hkp3) (hKb _ _ _ _ (by omega) hl3 rfl)⟩⟩
  |ret=>
   obtain⟨hk3,hi3⟩:=hp;obtain⟨hr,hl3,hl4,hk4⟩:=fin (some .ret) W3 hk3;exact⟨_,_,hr,.inr ⟨rfl,.ret,(hIx _).put _ hi3 hl3 rfl (by omega),hl4,hk4⟩⟩
  |exit id=>
   obtain⟨hk3,hi3⟩:=hp;obtain⟨hr,hl3,hl4,hk4⟩:=fin (some (.exit id)) W3 hk3;exact⟨_,_,hr,.inr ⟨rfl,.exit id,(hIx _).put _ hi3 hl3 rfl (by omega),hl4,hk4⟩⟩
  |goto t=>
   obtain⟨hk3,hi3⟩:=hp;obtain⟨hr,hl3,hl4,hk4⟩:=fin (some (.goto t)) W3 hk3;exact⟨_,_,hr,.inr ⟨rfl,.goto t,(hIx _).put _ hi3 hl3 rfl (by omega),hl4,hk4⟩⟩
  |panic ch=>exact hp.elim
  |outgrown=>exact hp.elim
 ·rintro e W2 ⟨⟨v,rfl⟩,(⟨xs,hS,hi,hl,hk⟩|⟨pre,hSp,c,hi,hl,hk⟩)⟩
  ·exact⟨none,_,by have:=run_endLoop (P:=P) hl (by rw[hrec];simp);rw[hrec] at this;exact this,hdone _ xs _ hS (hI.put _ hi hl rfl (by omega)) (pF _) ((World.putObj_heap_other (by omega)).trans hk)⟩
  ·exact⟨some c,_,by have:=run_endLoop (P:=P) hl (by rw[hrec];simp);rw[hrec] at this;exact this,hstop _ c pre _ hSp ((hIx c).put _ hi hl rfl (by omega)) (pF _) ((World.putObj_heap_other (by omega)).trans hk)⟩
end
end Go.Proofs.YtcagibbaeageoaaGreatDoor
