import Derived.Test.YtcagibbaeageoaaGreatDoorSA
import Derived.Deep.RegionHeld3
import Derived.Deep.DrawnRows
import Derived.Deep.AppendLies
import Derived.Maps.Range
import Derived.WalkMore
import Derived.Deep.LoopGhost
import Derived.Shelf.Strings.BuilderF
import Derived.Lib.AppendIntMem
import Derived.Lib.QuietBelow
import Derived.Deep.QuietTactic
import Derived.RegionTactic
import Derived.Still
import Derived.RangeFuncNested
import Derived.RangeFuncBound
import Derived.RangeFuncCalls
import Derived.RangeFuncLeaves
import Derived.RangeFuncKeeps
import Derived.Deep.MidRow
set_option maxRecDepth 100000
set_option maxHeartbeats 0
set_option linter.all false
variable{W w w' w0 w1 w2:Go.World}{B R f gf i id j p:Nat}{cs la lb:Array Go.Value}{T:Go.TypeId}{fr x:Nat×Nat}{ob s t:ByteArray}{sv v wv:Go.Value}{o oi oj:Go.Oper}{g:Go.Operand}{k:Int}{α β:Type}{q:Option (List UInt8×Nat)}{listed:Array Bool}{Xp:List Go.PanicEntry->Go.World->Prop}{c:List Go.PanicEntry}{a a':Go.Act}{KE Q next next':Go.Act->Go.World->Prop}{K:Go.World->Go.Act->Prop}{ord r':List (Nat×Nat)}{l:List Go.Oper}{S:Go.World->Prop}{body:Go.Code}{Kp:Go.World->Go.World->Prop}
namespace Go.Proofs.YtcagibbaeageoaaGreatDoor
section
open Go.RowKit Lode Go.Shelf
open Go.Proofs.Tryz
def szB:(prog.info? 78).map (·.size)=some 2:=by kernel_rfl
def zoh:liesAt prog prog.depth 78 (2 / prog.cellsOf 78) 0 78 1=true:=by kernel_rfl
def zgb:(prog.info? 5).map (λi=>(i.zero,i.size,i.bytes))=some (some (.int .u8 0),1,1):=by kernel_rfl
abbrev BAt(B b:Nat)(p:Value)(bs:List Value)(w:World):Prop:=Lib.BuilderAt 78 5 B b p bs w
abbrev IsB(B b:Nat)(bs:List Value)(w:World):Prop:=Lib.IsBuilder 78 5 B b bs w
def Xi(b:Nat)(w:World)(h0:w.cell? ⟨b,0,none⟩=some (.pointer (some ⟨b,0,none⟩))):
 Calls prog 109 #[.pointer (some ⟨b,0,none⟩)] w λe w'=>e=.returned (.tuple #[])/\w'=w:=by
 obtain⟨j,hj,_⟩:=Option.map_eq_some_iff.1 szB;go_enter func109,ntmps109;go_wp2;rw[Lib.run_neq_ptr_same w _ underlying75 hj];go_wp2;go_end0;exact⟨rfl,rfl⟩
def YC(b:Nat)(w:World)(h0:w.cell? ⟨b,0,none⟩=some (.pointer none))(bG:w.shape? b=some (78,2))(hfz:w.frozen? ⟨b,0,none⟩=false):
 Calls prog 109 #[.pointer (some ⟨b,0,none⟩)] w λe w'=>e=.returned (.tuple #[])/\w'=w.setCell ⟨b,0,none⟩ (.pointer (some ⟨b,0,none⟩)):=by
 obtain⟨j,hj,hjs⟩:=Option.map_eq_some_iff.1 szB;go_enter func109,ntmps109;go_wp2;rw[Lib.run_to_unsafe w ⟨b,0,none⟩ underlying75 underlying183 hj (by rw[hjs];decide) bG (Nat.zero_lt_succ 1)];simp only[Result.andThen];rw[Oper.upon_value];go_wp2;rw[run_callFunc_extern func170 (by kernel_rfl) (by kernel_rfl) (by kernel_rfl) (e:=Extern.AbiNoEscape.same) (by kernel_rfl)];rw[Lib.run_noEscape];simp only[Result.andThen];rw[Oper.upon_value];go_wp2;rw[Lib.run_from_unsafe w ⟨b,0,none⟩ underlying183 underlying75 hj bG zoh];simp only[Result.andThen];rw[Oper.upon_value];go_wp2;go_end0;exact⟨rfl,rfl⟩
def XS(B b:Nat)(bs:List Value)(w:World)(h:IsB B b bs w):
 Calls prog 109 #[.pointer (some ⟨b,0,none⟩)] w λe w'=>e=.returned (.tuple #[])/\(BAt B b (.pointer (some ⟨b,0,none⟩)) bs w'/\Below B w w'):=by
 rcases h with h|h
 ·refine (YC b w h.cell0 h.shape h.frozen0).mono ?_;rintro e w' ⟨rfl,rfl⟩;exact⟨rfl,h.used _,(pG B w).setCell (p:=⟨b,0,none⟩) h.1 _⟩
 ·refine (Xi b w h.cell0).mono ?_;rintro e w' ⟨rfl,rfl⟩;exact⟨rfl,h,pG B _⟩
def zax(B b:Nat)(bs:List Value)(c:Int)(w:World)(h:IsB B b bs w)(mV:bs.length+1<=140737488355328)(Gx:B<=w.heap.size):
 Calls prog 227 #[.pointer (some ⟨b,0,none⟩),.int .u8 c] w λe w'=>e=.returned .nilIface/\(BAt B b (.pointer (some ⟨b,0,none⟩)) (bs ++ [.int .u8 c]) w'/\Below B w w'):=by
 obtain⟨i0,hi,pe,mY,mT⟩:=info_parts zgb;go_enter func227,ntmps227;go_wp2_with (go_at_call 109;refine (XS B b bs _ h).mono ?_);rintro e w1 ⟨rfl,h1,mF⟩;obtain⟨hB,v,sn,mG,mu⟩:=h1;have c0:w1.cell? ⟨b,0,none⟩=some (.pointer (some ⟨b,0,none⟩)):=by rw[Lib.cell_of_heap sn];rfl
 have c1:w1.cell? ⟨b,1,none⟩=some v:=by rw[Lib.cell_of_heap sn];rfl
 go_wp2_with (at_builtin;refine wpList_append_own _ rfl _ _ 76 rfl B 5 i0 (.int .u8 0) 1 1 underlying76 hi pe mY mT rfl (by decide) _ _ _ rfl (mG.alloc _) ⟨w1.heap.size,0,none⟩ 1 1 [.int .u8 c] rfl rfl ?c1 ?c2 ?c3 ?c4 ?c5 ?_)
 case c1=>
  intro j u hj
  match j,hj with
  |0,hj=>simp at hj;subst hj;simp[Addr.add]
 case c2=>intro u hu;simp at hu;subst hu;rfl
 case c3=>unfold maxLen;omega
 case c4=>omega
 case c5=>have:=mF.size;simp;omega
 intro v' w2 nC mA _;have mD:b<w1.heap.size:=by
  rcases Nat.lt_or_ge b w1.heap.size with h'|h'
  ·exact h'
  ·simp[Array.getElem?_eq_none h'] at sn
 have mM:w2.heap[b]? =some (.cells #[.pointer (some ⟨b,0,none⟩),v] 78 (0,0)):=by
  rw[mA.block b (by simp;omega) (λe=>mu e.symm),Lib.alloc_old w1 _ b mD];exact sn
 have d0:w2.cell? ⟨b,0,none⟩=some (.pointer (some ⟨b,0,none⟩)):=by rw[Lib.cell_of_heap mM];rfl
 have d1:w2.cell? ⟨b,1,none⟩=some v:=by rw[Lib.cell_of_heap mM];rfl
 have f1:w2.frozen? ⟨b,1,none⟩=false:=Lib.frozen_of_heap mM 1;obtain⟨g,cap,rfl⟩:∃g cap,v'=.slice (some ⟨g,0,none⟩) (bs.length+1) cap:=by
  rcases nC.2 with⟨_,h0⟩|⟨g,cap,cur,hv,_⟩
  ·omega
  ·exact⟨g,cap,hv⟩
 go_wp2;go_ret;refine⟨rfl,?_,?_⟩
 ·exact Lib.BuilderAt.put (T:=78) (e:=5) hB mM (bs':=bs ++ [.int .u8 c]) (by simpa using nC) (by decide)
 ·exact ((mF.alloc (by have:=mF.size;omega) _).grown mA (by have:=mF.size;simp;omega) (λk hk=>(mG.lt k hk).1)).setCell (p:=⟨b,1,none⟩) hB _
def Ky(B b:Nat)(bs:List Value)(s:ByteArray)(w:World)(h:IsB B b bs w)(mV:bs.length+s.size<=140737488355328)(Gx:B<=w.heap.size):
 Calls prog 65 #[.pointer (some ⟨b,0,none⟩),.string s] w λe w'=>e=.returned (.tuple #[.int .i64 s.size,.nilIface])/\(BAt B b (.pointer (some ⟨b,0,none⟩)) (bs ++ Lib.strCells s) w'/\Below B w w'):=by
 obtain⟨i0,hi,pe,mY,mT⟩:=info_parts zgb;go_enter func65,ntmps65;go_wp2_with (go_at_call 109;refine (XS B b bs _ h).mono ?_);rintro e w1 ⟨rfl,h1,mF⟩;obtain⟨hB,v,sn,mG,mu⟩:=h1;have c0:w1.cell? ⟨b,0,none⟩=some (.pointer (some ⟨b,0,none⟩)):=by rw[Lib.cell_of_heap sn];rfl
 have c1:w1.cell? ⟨b,1,none⟩=some v:=by rw[Lib.cell_of_heap sn];rfl
 go_wp2_with (at_builtin;refine Lib.wpList_append_own_string _ rfl _ _ 76 9 rfl B 5 i0 underlying76 underlying9 hi pe mY mT _ _ _ rfl mG s rfl ?c3 ?c4 ?c5 ?_)
 case c3=>unfold maxLen;omega
 case c4=>omega
 case c5=>have:=mF.size;omega
 intro v' w2 nC mA _;have mD:b<w1.heap.size:=by
  rcases Nat.lt_or_ge b w1.heap.size with h'|h'
  ·exact h'
  ·simp[Array.getElem?_eq_none h'] at sn
 have mM:w2.heap[b]? =some (.cells #[.pointer (some ⟨b,0,none⟩),v] 78 (0,0)):=by
  rw[mA.block b mD (λe=>mu e.symm)];exact sn
 have d0:w2.cell? ⟨b,0,none⟩=some (.pointer (some ⟨b,0,none⟩)):=by rw[Lib.cell_of_heap mM];rfl
 have d1:w2.cell? ⟨b,1,none⟩=some v:=by rw[Lib.cell_of_heap mM];rfl
 have f1:w2.frozen? ⟨b,1,none⟩=false:=Lib.frozen_of_heap mM 1;obtain⟨ao,n',cap,rfl⟩:∃ao n' cap,v'=.slice ao n' cap:=by
  rcases nC.2 with⟨hv,_⟩|⟨g,cap,cur,hv,_⟩
  ·exact⟨_,_,_,hv⟩
  ·exact⟨_,_,_,hv⟩
 go_wp2;go_ret2;refine⟨rfl,?_,?_⟩
 ·exact Lib.BuilderAt.put (T:=78) (e:=5) hB mM (bs':=bs ++ Lib.strCells s) (by simpa[Lib.strCells_length] using nC) (by decide)
 ·exact (mF.grown mA (by have:=mF.size;omega) (λk hk=>(mG.lt k hk).1)).setCell (p:=⟨b,1,none⟩) hB _
end
section
open Go.RowKit Lode Go.Shelf
attribute [local go_sem ↓] wp_at_zero wp_at_succ
open Go.Proofs.Tryz
def ur(w:World)(R:Nat)(s:ByteArray)(a:Nat)(wv sv:Value):Prop:=w.heap[R]? =some (.cells #[.string s,.int .i64 a,wv,sv] 136 (0,0))
theorem VX:∀(m:List UInt8),(Lib.indexByte m 10= -1/\yb true m=m.length)\/∃n:Nat,Lib.indexByte m 10=n/\n<m.length/\yb true m=n+yb false (m.drop n)
 |[]=>.inl ⟨rfl,rfl⟩
 |c :: m=>by
  by_cases hc:c=10
  ·subst hc;exact .inr ⟨0,by simp[Lib.indexByte],by simp,by simp[yb]⟩
  ·have Ty:(c == 10)=false:=by simpa using hc
   have hg:yb true (c :: m)=yb true m+1:=by simp only[yb,if_neg hc];by_cases h:c=35 <;> simp[h]
   rcases VX m with⟨h1,h2⟩|⟨n,h1,h2,h3⟩
   ·refine .inl ⟨by simp[Lib.indexByte,Ty,h1],by rw[hg,h2];simp⟩
   ·refine .inr ⟨n+1,?_,by simp;omega,by rw[hg,h3];simp;omega⟩;have:¬((n:Int)= -1):=by omega
    simp[Lib.indexByte,Ty,h1,this]
def ziv(c:UInt8)(r:List UInt8):(Lib.indexByte (c :: r) 10= -1/\(c=35->yb false (c :: r)=r.length+1))\/∃n:Nat,Lib.indexByte (c :: r) 10=n/\n<r.length+1/\(c=35->0<n/\yb false (c :: r)=n+yb false ((c :: r).drop n)):=by
 by_cases hc:c=35
 ·subst hc;have hg:yb false (35 :: r)=yb true r+1:=by simp[yb]
  rcases VX r with⟨h1,h2⟩|⟨n,h1,h2,h3⟩
  ·exact .inl ⟨by simp[Lib.indexByte,h1],λ_=>by rw[hg,h2]⟩
  ·refine .inr ⟨n+1,?_,by omega,λ_=>⟨by omega,by rw[hg,h3];simp;omega⟩⟩;have:¬((n:Int)= -1):=by omega
   simp[Lib.indexByte,h1,this]
 ·rcases VX (c :: r) with⟨h1,_⟩|⟨n,h1,h2,_⟩
  ·exact .inl ⟨h1,λh=>absurd h hc⟩
  ·exact .inr ⟨n,h1,by simpa using h2,λh=>absurd h hc⟩
def zt(h:w.heap[R]? =some (.cells cs T fr))(i:Nat)(v:Value):(w.setCell ⟨R,i,none⟩ v).heap[R]? =some (.cells (cs.setIfInBounds i v) T fr):=by
 simp[World.setCell,Array.getElem?_modify,h]
def jq(w:World)(R i:Nat)(v:Value):w.grownBy (w.setCell ⟨R,i,none⟩ v) (some R):=
 ⟨rfl,rfl,rfl,by simp[World.setCell],λk _ mu=>by
  have:R≠k:=λe=>mu (by rw[e])
  simp[World.setCell,Array.getElem?_modify,this]⟩
def jj{r:Option Nat}(h:w.grownBy w1 r)(e:w2.heap=w1.heap)(e1:w2.os=w1.os)(e2:w2.tape=w1.tape)(e3:w2.output=w1.output):w.grownBy w2 r:=
 ⟨e1.trans h.os,e2.trans h.tape,e3.trans h.output,by rw[e];exact h.size,by rw[e];exact h.block⟩
def ur.like{a:Nat}(h:ur w1 R s a wv sv)(e:w2.heap=w1.heap):ur w2 R s a wv sv:=by unfold ur at *;rw[e];exact h
def ur.set{a:Nat}(h:ur w R s a wv sv)(k:Int)(k':Nat)(hk:k=k'):ur (w.setCell ⟨R,1,none⟩ (.int .i64 k)) R s k' wv sv:=by
 subst hk;exact zt h 1 _
def zos(w:World)(R:Nat)(s:ByteArray)(g:Nat)(wv sv:Value)(m:Nat)(wr:World):Prop:=
 ∃k,k<=s.size/\ur wr R s k wv sv/\w.grownBy wr (some R)/\g=k+yb false (s.data.toList.drop k)/\m=s.size-k
def zb7(R:Nat)(w:World):Nat:=match w.cell? ⟨R,1,none⟩ with|some (.int _ i)=>i.toNat|_=>0
def ur.pos{a:Nat}(h:ur w R s a wv sv):zb7 R w=a:=by
 simp[zb7,World.cell?,show w.heap[R]? =_ from h]
def zjm(R:Nat)(s:ByteArray)(a:Nat)(wv sv:Value)(w:World)(hs:s.size<=1000000000000)(ha:a<=s.size)(hR:ur w R s a wv sv):
 Calls prog 126 #[.pointer (some ⟨R,0,none⟩)] w λe w'=>e=.returned (.tuple #[])/\ur w' R s (a+yb false (s.data.toList.drop a)) wv sv/\w.grownBy w' (some R):=by
 generalize hg:a+yb false (s.data.toList.drop a)=g;have Hg:=zh hg.symm;clear hg;have HR:=zh hR;clear hR;go_enter func126,ntmps126;go_wp2_with fail;go_step3;go_wp2_with fail
 try go_step3
 go_wp2_with fail;go_loopg [] (s.size-a) (λm wr=>zos w R s g wv sv m wr)
 case atStart=>exact⟨a,ha,HR.q,World.grownBy.refl _ _,Hg.q,rfl⟩
 case round=>
  obtain⟨k,hk,hr,dR,dw,rfl⟩:=hrel;have aw:wr.cell? ⟨R,0,none⟩=some (.string s):=zd hr 0;have rT:wr.cell? ⟨R,1,none⟩=some (.int .i64 k):=zd hr 1;have Po:wr.frozen? ⟨R,1,none⟩=false:=zj hr 1;have hr:=zh hr;by_cases mD:k<s.size
  ·have hki:(k:Int)<(s.size:Int):=by omega
   have Hix:=zh (λw=>Tryz.strings_IndexByte (s.extract k s.size) 10 w);have Ho:(s.extract k s.size).data.toList=s[k] :: s.data.toList.drop (k+1):=by rw[<-qG s k mD];simp[List.extract_eq_take_drop];exact List.take_of_length_le (by simp)
   rw[Ho] at Hix;have cT:=ziv s[k] (s.data.toList.drop (k+1));rw[qG s k mD] at dw;have dw:=zh dw;clear Ho;have fS:∀h:((s[k].toNat:Int) == 35)=true,s[k]=35:=λh=>by rw[pR] at h;exact UInt8.toNat_inj.1 (by simpa using (by omega:s[k].toNat=35))
   have fS:=zh fS;rcases cT with⟨h1,h2⟩|⟨n,h1,h2,h3⟩
   ·rw[show ((10:Int).toNat.toUInt8)=10 from rfl,h1] at Hix;have h2:=zh h2;clear h1;go_wp2_with fail;go_quiet (fail);go_wp2_with fail;go_quiet (fail);go_wp2_with fail
    ·go_roundg (s.size-(k+1))
     case rel=>exact⟨k+1,by omega,(hr.q.set _ (k+1) (by omega)).like rfl,jj (dR.trans (jq wr R 1 _)) rfl rfl rfl rfl,JJ dw.q (by rename_i h _;rw[pR] at h;rw[h];rfl) (by rename_i h _;rw[pR] at h;rw[h];rfl) (by rename_i h _;rw[pR] at h;exact h),rfl⟩
     case measure=>omega
    ·go_roundg (s.size-(k+1))
     case rel=>exact⟨k+1,by omega,(hr.q.set _ (k+1) (by omega)).like rfl,jj (dR.trans (jq wr R 1 _)) rfl rfl rfl rfl,zgd dw.q ‹_›,rfl⟩
     case measure=>omega
    ·go_quiet ((go_at_call 181;refine (Hix.q _).mono ?_;rintro e w' ⟨rfl,rfl⟩;exact⟨rfl,_,rfl⟩));go_wp2_with fail;go_roundg (s.size-s.size)
     case rel=>exact⟨s.size,pC _,(hr.q.set _ s.size rfl).like rfl,jj (dR.trans (jq wr R 1 _)) rfl rfl rfl rfl,by
      rw[dw.q,h2.q (fS.q ‹_›),jV s _ (pC _)];simp[yb];omega,rfl⟩
     case measure=>omega
    ·rw[Exit.noGoto_normal];go_end0;obtain rfl:=zcI dw.q ‹_› ‹_› ⟨by have h:=‹((s[k].toNat:Int) == 32)=false›;rw[bne,h];rfl,rfl⟩;exact⟨rfl,hr.q.like rfl,jj dR rfl rfl rfl rfl⟩
   ·rw[show ((10:Int).toNat.toUInt8)=10 from rfl,h1] at Hix;have h2:k+n<s.size:=by simp at h2;omega
    have h3:=zh h3;clear h1;go_wp2_with fail;go_quiet (fail);go_wp2_with fail;go_quiet (fail);go_wp2_with fail
    ·go_roundg (s.size-(k+1))
     case rel=>exact⟨k+1,by omega,(hr.q.set _ (k+1) (by omega)).like rfl,jj (dR.trans (jq wr R 1 _)) rfl rfl rfl rfl,JJ dw.q (by rename_i h _;rw[pR] at h;rw[h];rfl) (by rename_i h _;rw[pR] at h;rw[h];rfl) (by rename_i h _;rw[pR] at h;exact h),rfl⟩
     case measure=>omega
    ·go_roundg (s.size-(k+1))
     case rel=>exact⟨k+1,by omega,(hr.q.set _ (k+1) (by omega)).like rfl,jj (dR.trans (jq wr R 1 _)) rfl rfl rfl rfl,zgd dw.q ‹_›,rfl⟩
     case measure=>omega
    ·go_quiet ((go_at_call 181;refine (Hix.q _).mono ?_;rintro e w' ⟨rfl,rfl⟩;exact⟨rfl,_,rfl⟩));go_wp2_with fail;go_roundg (s.size-(k+n))
     case rel=>exact⟨k+n,by omega,(hr.q.set _ (k+n) (by omega)).like rfl,jj (dR.trans (jq wr R 1 _)) rfl rfl rfl rfl,by
      rw[dw.q,(h3.q (fS.q ‹_›)).2,<-qG s k mD,List.drop_drop];omega,rfl⟩
     case measure=>have:=(h3.q (fS.q ‹_›)).1;omega
    ·rw[Exit.noGoto_normal];go_end0;obtain rfl:=zcI dw.q ‹_› ‹_› ⟨by have h:=‹((s[k].toNat:Int) == 32)=false›;rw[bne,h];rfl,rfl⟩;exact⟨rfl,hr.q.like rfl,jj dR rfl rfl rfl rfl⟩
  ·obtain rfl:k=s.size:=by omega
   have dv:¬((s.size:Int)<(s.size:Int)):=by omega
   have dw:=zh dw;go_wp2_with fail;go_quiet (fail);go_wp2_with fail;rw[Exit.noGoto_normal];go_end0;obtain rfl:g=s.size:=by rw[dw.q,jV s _ (pC _)];rfl
   exact⟨rfl,hr.q.like rfl,jj dR rfl rfl rfl rfl⟩
def QJ(s:ByteArray)(j:Nat)(ob:ByteArray)(q:Option (List UInt8×Nat)):Prop:=∃k,j=0+1+k/\uD s 0 k ob q/\ob.size<=k
def zhs(s:ByteArray)(i:Nat)(h:i<s.size):s.extract i (i+1)=⟨#[s[i]]⟩:=ByteArray.ext (Array.toList_inj.1 (Xf s i h))
def Xw(hB:∀c,c∈s.data.toList->uK c=true)(j:Nat)(hj:j<s.size):(s[j].toNat:Int)=10\/(32<=(s[j].toNat:Int)/\(s[j].toNat:Int)<=126):=by
 have h:uK s[j]=true:=hB _ (by show s.data[j]∈s.data.toList;simp);simp only[uK,wG,pJ,pK,pR] at h;omega
section
variable {s:ByteArray} {j:Nat} {ob:ByteArray} {q:Option (List UInt8×Nat)}
def znm(h:QJ s j ob q)(he:s.size<=j):q=none:=by obtain⟨k,rfl,h,_⟩:=h;exact zmp h he
def zog(h:QJ s j ob q)(mD:j<s.size)(b:((s[j].toNat:Int) == 10)=true):q=none:=by
 obtain⟨k,rfl,h,_⟩:=h;rw[pR] at b;exact zmq h mD (by omega)
def zj4(h:QJ s j ob q)(hB:∀c,c∈s.data.toList->uK c=true)(mD:j<s.size)(b:((s[j].toNat:Int) == 10)=false)(b3:((s[j].toNat:Int) == 34)=true):ziR q (j+1) ob (decide ((ob.size:Int)<=60)):=by
 have:=Xw hB j mD;rw[pB] at b;obtain⟨k,rfl,h,_⟩:=h;exact zgR h mD (by omega) (by omega) b3 _ (by omega)
def zj2(h:QJ s j ob q)(hB:∀c,c∈s.data.toList->uK c=true)(mD:j<s.size)(b:((s[j].toNat:Int) == 10)=false)(b3:((s[j].toNat:Int) == 34)=false)(b4:((s[j].toNat:Int) == 92)=false):QJ s (j+1) (ob ++ ⟨#[s[j]]⟩) q:=by
 rw[<-zhs s j mD];have:=Xw hB j mD;rw[pB] at b;obtain⟨k,rfl,h,ho⟩:=h;exact⟨k+1,by omega,zgQ h mD (by omega) (by omega) b3 (by rw[bne,b4];rfl),by rw[ByteArray.size_append,ByteArray.size_extract];omega⟩
def znn(h:QJ s j ob q)(hB:∀c,c∈s.data.toList->uK c=true)(mD:j<s.size)(b:((s[j].toNat:Int) == 10)=false)(b3:((s[j].toNat:Int) == 34)=false)(b4:((s[j].toNat:Int) == 92)=true)(he:s.size<=j+1):q=none:=by
 have:=Xw hB j mD;rw[pB] at b;obtain⟨k,rfl,h,ho⟩:=h;exact zbc h mD (by omega) (by omega) b3 (by rw[bne,b4];rfl) he
def zj3(h:QJ s j ob q)(hB:∀c,c∈s.data.toList->uK c=true)(mD:j<s.size)(b:((s[j].toNat:Int) == 10)=false)(b3:((s[j].toNat:Int) == 34)=false)(b4:((s[j].toNat:Int) == 92)=true)(h2:j+1<s.size)(b5:((s[j+1].toNat:Int) == 34)=true\/((s[j+1].toNat:Int) == 92)=true):QJ s (j+2) (ob ++ ⟨#[s[j+1]]⟩) q:=by
 rw[<-zhs s (j+1) h2];have:=Xw hB j mD;rw[pB] at b;obtain⟨k,rfl,h,ho⟩:=h;exact⟨k+2,by omega,zjJ h mD (by omega) (by omega) b3 (by rw[bne,b4];rfl) h2 (by simpa only[pR] using b5),by rw[ByteArray.size_append,ByteArray.size_extract];omega⟩
def zlE(h:QJ s j ob q)(hB:∀c,c∈s.data.toList->uK c=true)(mD:j<s.size)(b:((s[j].toNat:Int) == 10)=false)(b3:((s[j].toNat:Int) == 34)=false)(b4:((s[j].toNat:Int) == 92)=true)(h2:j+1<s.size)(b5:((s[j+1].toNat:Int) == 34)=false)(b6:((s[j+1].toNat:Int) == 92)=false)(b7:((s[j+1].toNat:Int) == 110)=true):QJ s (j+2) (ob ++ ⟨#[10]⟩) q:=by
 have:=Xw hB j mD;rw[pB] at b b5 b6;rw[pR] at b7;obtain⟨k,rfl,h,ho⟩:=h;exact⟨k+2,by omega,zjI h mD (by omega) (by omega) b3 (by rw[bne,b4];rfl) h2 ⟨b5,b6⟩ b7,by rw[ByteArray.size_append];show ob.size+1<=k+2;omega⟩
def zno(h:QJ s j ob q)(hB:∀c,c∈s.data.toList->uK c=true)(mD:j<s.size)(b:((s[j].toNat:Int) == 10)=false)(b3:((s[j].toNat:Int) == 34)=false)(b4:((s[j].toNat:Int) == 92)=true)(h2:j+1<s.size)(b5:((s[j+1].toNat:Int) == 34)=false)(b6:((s[j+1].toNat:Int) == 92)=false)(b7:((s[j+1].toNat:Int) == 110)=false):q=none:=by
 have:=Xw hB j mD;rw[pB] at b b5 b6 b7;obtain⟨k,rfl,h,ho⟩:=h;exact zmr h mD (by omega) (by omega) b3 (by rw[bne,b4];rfl) h2 ⟨b5,b6⟩ b7
end
def Bd(w0:World)(b:Nat)(ob:ByteArray)(w:World):Prop:=IsB w0.heap.size b (Lib.byteCells ob.data.toList) w/\Below w0.heap.size w0 w
def Bd.fresh(w:World)(b:Nat)(hb:b=w.heap.size):Bd w b ByteArray.empty (w.alloc (.cells #[.pointer none,.slice none 0 0] 78)):=by
 subst hb;exact⟨.inl ⟨pC _,_,zk _ _,World.ownsRow_nil _ _ _ _,by simp[Value.ownBlock]⟩,bR.alloc (pC _) _⟩
def Bd.write{b:Nat}(h:Bd w0 b ob w)(hs:ob.size<=2000000000000)(c:UInt8):
 Calls prog 227 #[.pointer (some ⟨b,0,none⟩),.int .u8 (c.toNat:Int)] w λe w'=>e=.returned .nilIface/\Bd w0 b (ob ++ ⟨#[c]⟩) w':=
 (zax w0.heap.size b _ (c.toNat:Int) w h.1 (pN (Nat.le_of_eq (by rw[Lib.byteCells_length];exact congrArg (· +1) (by simp:ob.data.toList.length=ob.size))) (by omega:ob.size+1<=140737488355328)) h.2.size).mono λe w' ⟨h1,h2,h3⟩=>⟨h1,.inr (by
  have e:Lib.byteCells (ob ++ ⟨#[c]⟩).data.toList=Lib.byteCells ob.data.toList ++ [.int .u8 c.toNat]:=by rw[zu];simp[Lib.byteCells]
  rw[e];exact h2),h.2.trans h3⟩
def BdF(w0:World)(b:Nat)(ob:ByteArray)(w:World):Prop:=Lib.IsBuilderF 78 5 w0.heap.size b (Lib.byteCells ob.data.toList) w/\Below w0.heap.size w0 w
def Bd.str{b:Nat}(h:Bd w0 b ob w):
 Calls prog 67 #[.pointer (some ⟨b,0,none⟩)] w λe w'=>e=.returned (.string ob)/\BdF w0 b ob w':=
 (Any.Builder_String_any_f Tryz.lays169 Tryz.Builder_Extra_169 w0.heap.size b _ w (Lib.IsBuilderF.of h.1) h.2.size).mono λe w' ⟨h1,h2,h3⟩=>⟨by rw[h1],h2,h.2.trans h3⟩
def BdF.len{b:Nat}(h:BdF w0 b ob w):
 Calls prog 240 #[.pointer (some ⟨b,0,none⟩)] w λe w'=>e=.returned (.int .i64 ob.size)/\w'=w:=
 (Any.Builder_Len_f Tryz.lays170 w0.heap.size b _ w h.1).mono λe w' ⟨h1,h2⟩=>⟨by rw[h1,Lib.byteCells_length];exact congrArg (λn:Nat=>Ending.returned (.int .i64 n)) (by simp:ob.data.toList.length=ob.size),h2⟩
def znU(q:Option (List UInt8×Nat))(w:World)(e:Ending)(w':World):Prop:=
 ∃t n ok,e=.returned (.tuple #[.string t,.int .i64 n,.bool ok])/\ziR q n t ok/\Below w.heap.size w w'
def zoG(s:ByteArray)(q:Option (List UInt8×Nat))(w:World)(i:Value)(wr:World):Prop:=
 ∃(j:Nat) (ob:ByteArray),i=.int .i64 j/\j<=s.size+1/\QJ s j ob q/\Bd w w.heap.size ob wr
def QP(q:Option (List UInt8×Nat))(n:Int)(t:ByteArray)(h:q=none):ziR q n t false:=by subst h;exact rfl
def zd0(s:ByteArray)(w:World)(hs:s.size<=1000000000000)(hB:∀c,c∈s.data.toList->uK c=true):
 Calls prog 186 #[.string s] w (znU (Lode.jZ s.data.toList) w):=by
 have HB:=zh hB;clear hB;generalize hq:Lode.jZ s.data.toList=q;have Hq:Hid (QJ s 1 ByteArray.empty q):=zh ⟨0,rfl,hq▸uD.start s 0,pC _⟩;clear hq;go_enter func186,ntmps186;go_wp2;go_loopw [6] (zoG s q w) (λi _=>s.size+1-(intOf i).toNat)
 case atStart=>exact⟨1,_,rfl,by omega,Hq.q,Bd.fresh w _ rfl⟩
 case round=>
  obtain⟨j,ob,rfl,hj,hq,hb⟩:=hrel;have bf:ob.size<=s.size+1:=by obtain⟨k,_,_,h⟩:=hq;omega
  by_cases mD:j<s.size
  ·have hW:=zh (λc=>hb.write (by omega) c);have Da:=zh (show Calls prog 227 #[.pointer (some ⟨w.heap.size,0,none⟩),.int .u8 10] wr _ from hb.write (by omega) 10);go_wp2_with (first
    |(go_at_call 67;refine hb.str.mono ?_;rintro e w1 ⟨rfl,hf⟩)
    |(go_at_call 240;refine hf.len.mono ?_;rintro e w' ⟨rfl,rfl⟩)
    |(go_at_call 227;with_reducible refine (hW.q _).mono ?_;rintro e w1 ⟨rfl,mF⟩)
    |(go_at_call 227;refine Da.q.mono ?_;rintro e w1 ⟨rfl,mF⟩))
   ·go_ret3;exact⟨_,_,_,rfl,QP _ _ _ (zog hq mD ‹_›),hb.2⟩
   ·go_ret3;exact⟨_,_,_,rfl,zj4 hq HB.q mD ‹_› ‹_›,hf.2⟩
   ·go_ret3;exact⟨_,_,_,rfl,QP _ _ _ (znn hq HB.q mD ‹_› ‹_› ‹_› (by have h:=‹((j:Int)+1 == (s.size:Int))=true›;rw[pR] at h;omega)),hb.2⟩
   ·have MP:j+1<s.size:=by omega
    go_roundw
    case rel=>exact⟨j+2,_,by go_num,by omega,zj3 hq HB.q mD ‹_› ‹_› ‹_› MP (.inl ‹_›),mF⟩
    case measure=>go_light;simp[intOf];omega
   ·have MP:j+1<s.size:=by omega
    go_roundw
    case rel=>exact⟨j+2,_,by go_num,by omega,zj3 hq HB.q mD ‹_› ‹_› ‹_› MP (.inr ‹_›),mF⟩
    case measure=>go_light;simp[intOf];omega
   ·have MP:j+1<s.size:=by omega
    go_roundw
    case rel=>exact⟨j+2,_,by go_num,by omega,zlE hq HB.q mD ‹_› ‹_› ‹_› MP ‹_› ‹_› ‹_›,mF⟩
    case measure=>go_light;simp[intOf];omega
   ·have MP:j+1<s.size:=by omega
    go_ret3;exact⟨_,_,_,rfl,QP _ _ _ (zno hq HB.q mD ‹_› ‹_› ‹_› MP ‹_› ‹_› ‹_›),hb.2⟩
   ·exfalso;have h:=‹((j:Int)+1 == (s.size:Int))=false›;rw[pB] at h;omega
   ·go_roundw
    case rel=>exact⟨j+1,_,by go_num,by omega,zj2 hq HB.q mD ‹_› ‹_› ‹_›,mF⟩
    case measure=>go_light;simp[intOf];omega
  ·go_wp2_with fail;go_ret3;exact⟨_,_,_,rfl,QP _ _ _ (znm hq (by omega)),hb.2⟩
def zkN(r:List yO×Nat×Nat)(w:World)(e:Ending)(w':World):Prop:=
 ∃v,e=.returned (.tuple #[v,.int .i64 r.2.1,.int .i64 r.2.2])/\Zq w' w.heap.size v r.1/\Below w.heap.size w w'
def zkq(h:(qF s.data.toList).2=0):s.size<=3000:=by
 rcases Nat.lt_or_ge 3000 s.size with h1|h1
 ·unfold qF at h;rw[if_pos (by simpa using h1)] at h;cases h
 ·exact h1
def Zq.form{b:Nat}{l:List yO}(h:Zq w b v l):∃p cap,v=.slice p l.length cap:=by
 obtain⟨_,⟨h1,h2⟩|⟨g,cap,cur,h1,_⟩⟩:=h
 ·exact⟨none,0,by rw[h1,h2]⟩
 ·exact⟨_,cap,h1⟩
def YK(w:World)(b:Nat):Zq w b (.slice none 0 0) []:=World.ownsRow_nil _ _ _ _
def zjb(w:World)(b:Nat)(h:b<=w.heap.size):Zq (w.alloc (.cells #[] 66)) b (.slice (some ⟨w.heap.size,0,none⟩) 0 0) []:=World.ownsRow_lit w #[] 0 h (by decide) (by decide)
def Tryz.infoTok:(prog.info? 66).map (λi=>(i.zero,i.size,i.bytes))=some (some (.agg #[.int .u8 0,.string ⟨#[]⟩,.int .i64 0]),3,32):=by kernel_rfl
def zdz(s:ByteArray)(a:Nat)(hs:s.size<=1000000000000)(ha:a<s.size)(ht:xR (s.data.toList.drop a)=none)(w:World):
 Calls prog 85 #[.string s,.int .i64 a] w λe w'=>(∃k t a' n,e=.returned (.tuple #[.agg #[.int .u8 k,.string t,.int .i64 a'],.int .i64 n,.bool false]))/\Below w.heap.size w w':=
 (Qd s a w hs ha).mono λe w' ⟨k,t,a',n,ok,h1,h2,h3⟩=>by
  rw[ht] at h2;exact⟨⟨k,t,a',n,by rw[h1,show ok=false from h2]⟩,h3⟩
def zdx(s:ByteArray)(a:Nat)(hs:s.size<=1000000000000)(ha:a<s.size)(k:Nat)(t:List UInt8)(m:Nat)(ht:xR (s.data.toList.drop a)=some (k,t,m))(w:World):
 Calls prog 85 #[.string s,.int .i64 a] w λe w'=>e=.returned (.tuple #[.agg #[.int .u8 k,.string ⟨t.toArray⟩,.int .i64 a],.int .i64 m,.bool true])/\Below w.heap.size w w':=
 (Qd s a w hs ha).mono λe w' ⟨k',t',a',n,ok,h1,h2,h3⟩=>by
  rw[ht] at h2;obtain⟨rfl,rfl,rfl,rfl,rfl⟩:=h2;exact⟨h1,h3⟩
def zpd(s:ByteArray)(r:List yO×Nat×Nat)(w:World)(v a:Value)(wr:World):Prop:=
 ∃(L:List yO) (k:Nat),a=.int .i64 k/\Xm s.data.toList r L k/\Zq wr w.heap.size v L/\Below w.heap.size w wr
def zh3(s:ByteArray)(w:World)(hs:s.size<=1000000000000):
 Calls prog 45 #[.string s] w (zkN (Lode.vB s.data.toList) w):=by
 generalize hr:Lode.vB s.data.toList=r;have Hr:=zh hr;clear hr;have Hc:=zh (λw=>zfq s w (by omega));generalize hc:qF s.data.toList=c at *;obtain⟨ca,ce⟩:=c;have Hcc:=zh hc;clear hc;by_cases he:ce=0
 ·subst he;have h3:=zkq (by rw[Hcc.q]);have Hst:=zh (Xm.start (s:=s.data.toList) (by rw[Hcc.q]));rw[Hr.q] at Hst;have Hg:=zh (λ(a:Nat) w (ha:a<=s.size)=>zjD s a w (by omega) ha);have Hf:=zh (λ(a:Nat) w (ha:a<s.size)=>Qd s a w (by omega) ha);obtain⟨i0,hi,pe,mY,mT⟩:=info_parts Tryz.infoTok;have Hi:=zh (And.intro hi (And.intro pe (And.intro mY mT)));clear hi pe mY mT;go_enter func45,ntmps45;go_wp2_with (first
   |(go_at_call 83;refine (Hc.q _).mono ?_;rintro e w' ⟨rfl,rfl⟩)
   |(go_at_call 84;refine (Hg.q 0 _ (by omega)).mono ?_;rintro e w' ⟨rfl,rfl⟩))
  go_loopw [7,8] (zpd s r w) (λ_ a _=>s.size-(intOf a).toNat)
  case atStart=>exact⟨[],_,rfl,by simpa using Hst.q,zjb _ _ (by simp),bR.alloc (pC _) _⟩
  case round=>
   obtain⟨L,k,rfl,dT,nD,cN⟩:=hrel;have hk:k<=s.size:=by simpa using dT.le
   by_cases mD:k<s.size
   ·have me:k<s.data.toList.length:=by simpa using mD
    cases ht:xR (s.data.toList.drop k) with
    |none=>
     have HF:=zh (zdz s k (by omega) mD ht);have He:=zh (dT.bad me ht);go_wp2_with (go_at_call 85;refine (HF.q _).mono ?_;rintro e w1 ⟨⟨kk,t,a',n,rfl⟩,hb⟩;have mF:=cN.trans (hb.mono cN.size));go_ret3;rw[He.q];exact⟨_,rfl,YK _ _,by repeat (first|exact mF|with_reducible apply Below.drew|with_reducible apply yt|with_reducible refine qS ?_ _ _ (by omega) _)⟩
    |some x=>
     obtain⟨kk,t,m⟩:=x;have HF:=zh (zdx s k (by omega) mD kk t m ht);have hm:=ZR ht;obtain⟨p,cap,rfl⟩:=nD.form;simp only[wT,Array.length_toList] at hm;by_cases hL:L.length=1200
     ·have He:=zh (dT.full me ht hL);go_wp2_with (go_at_call 85;refine (HF.q _).mono ?_;rintro e w1 ⟨rfl,hb⟩;have mF:=cN.trans (hb.mono cN.size));go_ret3;rw[He.q];exact⟨_,rfl,YK _ _,by repeat (first|exact mF|with_reducible apply Below.drew|with_reducible apply yt|with_reducible refine qS ?_ _ _ (by omega) _)⟩
     ·have hn:=zh (dT.next me ht hL);have DQ:=zh dT;clear dT ht;have LT:((L.length:Int) == 1200)=false:=bfE (by omega)
      have TT:L.length<=1200:=by obtain⟨_,_,_,_,_,h,_⟩:=DQ.q;exact h
      go_wp2_with (first
       |(go_at_call 85;refine (HF.q _).mono ?_;rintro e w1 ⟨rfl,hb⟩;have mF:=cN.trans (hb.mono cN.size);have gV:=nD.below hb)
       |(go_at_call 84;refine (Hg.q (k+m) _ (by omega)).mono ?_;rintro e w' ⟨rfl,rfl⟩)
       |(at_builtin;refine wpList_append_own _ rfl _ _ 52 rfl w.heap.size 66 i0 _ 3 32 underlying52 Hi.q.1 Hi.q.2.1 Hi.q.2.2.1 Hi.q.2.2.2 rfl (by decide) _ _ _ rfl ((World.ownsRow.alloc gV _).alloc _) ⟨w1.heap.size+1,0,none⟩ 1 1 (jv ⟨kk,t,(k:Nat)⟩) rfl rfl ?c1 ?c2 ?c3 ?c4 ?c5 ?_))
      case c1=>exact World.news_of_block (cs:= #[.int .u8 kk,.string ⟨t.toArray⟩,.int .i64 k]) (t:=66) (fr:=(0,0)) (qD _ _ _ (by simp))
      case c2=>intro u hu;simp[jv] at hu;rcases hu with rfl|rfl|rfl <;> rfl
      case c3=>unfold maxLen;omega
      case c4=>omega
      case c5=>have:=mF.size;simp;omega
      ·intro v' w2 nC mA _;have mM:=zh (ZB (yt (yt mF _) _) ((World.ownsRow.alloc gV _).alloc _) mA);have my:=zh (Zq.snoc (t:=⟨kk,t,(k:Nat)⟩) nC);clear nC mA gV hb mF cN nD hL LT;generalize fa:yb false (s.data.toList.drop (k+m))=gg at *;have dQ:k+m+gg<=s.size:=by have:=hn.q.le;simpa using this
       have Hgg:=zh (λw=>fa▸Hg.q (k+m) w (by omega));clear fa;go_wp2_with (go_at_call 84;refine (Hgg.q _).mono ?_;rintro e w' ⟨rfl,rfl⟩);go_roundw
       case rel=>exact⟨_,_,by go_num,hn.q,my.q,mM.q⟩
       case measure=>simp[intOf];omega
   ·have He:=zh (dT.done (by simp;omega));go_wp2_with fail;go_ret3;rw[He.q];exact⟨_,rfl,nD,cN⟩
 ·have Hrr:Hid (r=([],ca,ce)):=zh (by rw[<-Hr.q,Lode.vB,Hcc.q];simp[he]);have SL:((ce:Int) != 0)=true:=by simpa using he
  go_enter func45,ntmps45;go_wp2_with (go_at_call 83;refine (Hc.q _).mono ?_;rintro e w' ⟨rfl,rfl⟩);go_ret3;rw[Hrr.q];exact⟨_,rfl,YK _ _,pG _ _⟩
def kM(zs:List Int)(c:UInt8):Bool:=zs.any λy=>vw c == y
def zl(h:Below w.heap.size w W){a:Addr}(hc:w.cell? a=some v):W.cell? a=some v:=by
 rw[World.cell?_of_block (h.block _ (World.block_lt_of_cell? w _ hc))];exact hc
def zi(h:Below w.heap.size w W){b:Nat}{o:Obj}(hc:w.heap[b]? =some o):W.heap[b]? =some o:=by
 rw[h.block b (gtA hc)];exact hc
def zn9(zs:List Int)(b x:Nat)(w:World)(hx:w.cell? ⟨x,0,none⟩=some (.slice (some ⟨b,0,none⟩) zs.length zs.length))(hz:zs.length<=1000)(hc:∀j,j<zs.length->w.cell? ⟨b,j,none⟩=some (.int .u8 zs[j]!)):Jh prog 236 #[.pointer (some ⟨x,0,none⟩)] (kM zs) w:=by
 refine⟨enters_of func236 (by kernel_rfl) rfl,λW c er=>?_⟩;have aU:W.cell? ⟨x,0,none⟩=some (.slice (some ⟨b,0,none⟩) zs.length zs.length):=zl er hx;have Ty:∀j,j<zs.length->W.cell? ⟨b,0+j,none⟩=some (.int .u8 zs[j]!):=λj hj=>by rw[Nat.zero_add];exact zl er (hc j hj)
 have Hc:=zh (λ(W':World) (q:∃n,W'=W.drewN n)=>Tryz.slices_Contains_class (Value.int .u8) _ (EqlAt.int prog _ .u8) b 0 zs.length zs.length zs (vw c) W' (pC _) (by omega) (λj hj=>by obtain⟨n,rfl⟩:=q;exact Ty j hj));clear hc Ty;go_enter func236,ntmps236;go_wp2_with fail;go_quiet ((first
  |(go_at_call 182;refine (kO c _).mono ?_;rintro e w' ⟨rfl,rfl⟩;exact⟨rfl,_,rfl⟩)
  |(go_at_call 237;refine (Hc.q _ ⟨_,rfl⟩).mono ?_;rintro e w' ⟨rfl,rfl⟩;exact⟨rfl,_,rfl⟩)))
 go_wp2;go_ret;exact⟨by simp[kM],by repeat (first|exact pG _ _|with_reducible apply Below.drew|with_reducible apply zO)⟩
theorem JY(p:UInt8->Bool):∀l:List UInt8,yj p l=(qg (λc=> !p c) l).getD l.length
 |[]=>rfl
 |c :: r=>by
  by_cases h:p c=true
  ·simp[yj,qg,h,JY p r]
  ·have h:p c=false:=by simpa using h
   simp[yj,qg,h]
def zll(R:Nat)(s:ByteArray)(a:Nat)(wv sv:Value)(zs:List Int)(b:Nat)(w:World)(hs:s.size<=1000000000000)(ha:a<s.size)(hR:ur w R s a wv sv)(hz:zs.length<=1000)(hc:∀j,j<zs.length->w.cell? ⟨b,j,none⟩=some (.int .u8 zs[j]!)):
 Calls prog 183 #[.pointer (some ⟨R,0,none⟩),.slice (some ⟨b,0,none⟩) zs.length zs.length] w λe w'=>e=.returned (.int .i64 (yj (kM zs) (s.data.toList.drop (a+1))))/\Below w.heap.size w w':=by
 have aw:w.cell? ⟨R,0,none⟩=some (.string s):=zd hR 0;have rT:w.cell? ⟨R,1,none⟩=some (.int .i64 a):=zd hR 1;have Ho:(s.extract (a+1) s.size).data.toList=s.data.toList.drop (a+1):=by simp[List.extract_eq_take_drop];exact List.take_of_length_le (by simp)
 have nX:(s.extract (a+1) s.size).size=s.size-(a+1):=by simp
 have rp:∀o,(w.alloc o).cell? ⟨R,0,none⟩=some (.string s):=λo=>zl (bR.alloc (pC _) o) aw
 have rW:∀o,(w.alloc o).cell? ⟨R,1,none⟩=some (.int .i64 a):=λo=>zl (bR.alloc (pC _) o) rT
 rw[JY];have HF:=zh (λ(W:World) (q:∃n,W=(w.alloc (.cells #[.slice (some ⟨b,0,none⟩) zs.length zs.length] 223)).drewN n)=>JK (s.extract (a+1) s.size) 236 #[.pointer (some ⟨w.heap.size,0,none⟩)] (kM zs) W
  (zn9 zs b w.heap.size W (by obtain⟨n,rfl⟩:=q;simp) hz (λj hj=>by obtain⟨n,rfl⟩:=q;exact zl ((bR.alloc (pC _) _).trans (zO bR n |>.mono (by simp))) (hc j hj))) (by rw[nX];omega))
 rw[Ho] at HF;have hl:(s.data.toList.drop (a+1)).length=s.size-(a+1):=by simp
 generalize hf:qg (λc=> !kM zs c) (s.data.toList.drop (a+1))=f at *;rw[hl];clear hR hc hl hf Ho;have h1:(a:Int)+1<=(s.size:Int):=by omega
 have h2:(0:Int)<=(a:Int)+1:=by omega
 have h3:IntKind.i64.wrap ((a:Int)+1)=a+1:=pF _ (by omega);have h4:((a:Int)+1).toNat=a+1:=by omega
 have h5:a+1<=s.size:=by omega
 cases f with
 |none=>
  simp only[zcA,Option.getD_none] at *;go_enter func183,ntmps183;go_wp2_with fail;go_quiet (fail);clear h1 h2 h3 h4;go_wp2_with (go_at_call 122;refine (HF.q _ ⟨_,rfl⟩).mono ?_;rintro e w1 ⟨rfl,hb⟩);go_ret;exact⟨rfl,(zO (yt bR _) nq).trans (hb.mono (by simp))⟩
 |some i=>
  simp only[zcA,Option.getD_some] at *;go_enter func183,ntmps183;go_wp2_with fail;go_quiet (fail);clear h1 h2 h3 h4;go_wp2_with (go_at_call 122;refine (HF.q _ ⟨_,rfl⟩).mono ?_;rintro e w1 ⟨rfl,hb⟩);go_ret;exact⟨rfl,(zO (yt bR _) nq).trans (hb.mono (by simp))⟩
structure jQ(w:World):Prop where
 space:Lib.TabIs prog w "strings.asciiSpace" .u8 Lib.asciiSpaceTab
 pow:Lib.TabIs prog w "internal/strconv.uint64pow10" .u64 Lib.pow10Tab
 erange:∃tp p,w.var? prog "strconv.ErrRange" =some #[.iface tp p]
def Jo{n:String}{g:Nat}(hg:prog.globalNamed n=some g)(hb:Below w.heap.size w w'){r:Array Value}(h:w.var? prog n=some r):w'.var? prog n=some r:=by
 unfold World.var? at *;rw[hg] at h ⊢;simp only[Option.bind_some] at h ⊢;have mD:g<w.heap.size:=by
  rcases Nat.lt_or_ge g w.heap.size with h'|h'
  ·exact h'
  ·rw[Array.getElem?_eq_none h'] at h;cases h
 rw[hb.block g mD];exact h
def jQ.later(h:jQ w)(hb:Below w.heap.size w w'):jQ w':=
 ⟨Jo (g:=0) (by kernel_rfl) hb h.space,Jo (g:=3) (by kernel_rfl) hb h.pow,by
  obtain⟨tp,p,h⟩:=h.erange;exact⟨tp,p,Jo (g:=5) (by kernel_rfl) hb h⟩⟩
def zcE(s:ByteArray)(w:World)(hs:s.size<=1000000000000)(hG:jQ w)(h0:s.data.toList≠[])(hd:s.data.toList.all zL=true):
 Calls prog 185 #[.string s] w λe w'=>e=.returned (.bool (kj s.data.toList))/\Below w.heap.size w w':=by
 have ha:=Ku s.data.toList h0 hd;rw[zf6 _ h0 hd];generalize hv:ym s.data.toList=v at *;have hG:=zh hG;by_cases mD:v<9223372036854775808
 ·rw[if_pos mD] at ha;have Ha:=zh (Tryz.strconv_Atoi_ok s (by omega) v ha);clear ha hv h0 hd;by_cases pk:v<=1000000000
  ·have hI:=zh (λ(W:World) (hb:Below w.heap.size w W)=>Tryz.strconv_Itoa v (by omega) (by omega) W (hG.q.later hb).pow);have RA:((v:Int)<=1000000000):=by omega
   have hr:(decide (v<=1000000000) && decide (Go.Lib.itoa v=s.data.toList))=decide (Go.Lib.itoa v=s.data.toList):=by simp[pk]
   rw[hr];clear hr pk;go_enter func185,ntmps185;go_wp2_with (first
    |(go_at_call 239;refine (Ha.q _).mono ?_;rintro e w1 ⟨rfl,hw⟩;have hb:Below w.heap.size w w1:=(by rcases hw with rfl|⟨t,rfl⟩;exact pG _ _;exact ZC _ _ _);clear hw)
    |(go_at_call 160;refine (hI.q _ hb).mono ?_;rintro e w2 ⟨rfl,tK⟩;have mM:Below w.heap.size w w2:=(by obtain⟨k,os,rfl⟩:=tK;exact zg hb (Lib.below_grow _ _ (pC _) k os));clear tK))
   go_ret;exact⟨congrArg (λb=>Ending.returned (.bool b)) (by rw[pP];simp[ByteArray.toList_eq]),mM⟩
  ·have hr:(decide (v<=1000000000) && decide (Go.Lib.itoa v=s.data.toList))=false:=by simp[pk]
   rw[hr];have RA:¬((v:Int)<=1000000000):=by omega
   clear hr pk;go_enter func185,ntmps185;go_wp2_with (go_at_call 239;refine (Ha.q _).mono ?_;rintro e w1 ⟨rfl,hw⟩;have hb:Below w.heap.size w w1:=(by rcases hw with rfl|⟨t,rfl⟩;exact pG _ _;exact ZC _ _ _);clear hw);go_ret;exact⟨rfl,hb⟩
 ·rw[if_neg mD] at ha;have hr:(decide (v<=1000000000) && decide (Go.Lib.itoa v=s.data.toList))=false:=by simp;omega
  rw[hr];obtain⟨tp,p,hE⟩:=hG.q.erange;have Ha:=zh (Tryz.strconv_Atoi_range_var s (by omega) ha tp p w hE);clear hr ha hE hv h0 hd;go_enter func185,ntmps185;go_wp2_with (go_at_call 239;refine Ha.q.mono ?_;rintro e w1 ⟨N,rfl,_,_,hb⟩);go_ret;exact⟨rfl,hb⟩
def zae(s:ByteArray)(l:List (List UInt8))(hf:Lib.fields s.data.toList=l)(hs:decide (s.size<4294967281)=true)(ha:s.data.toList.all (λb=>decide (b.toNat<128))=true)(w:World)(hG:jQ w):
 Calls prog 180 #[.string s] w λe w'=>e=.returned (.slice (some ⟨w.heap.size,0,none⟩) l.length l.length)/\w.alloc (.cells (XY l) 9)=w':=by
 subst hf;exact (Tryz.strings_Fields s w (of_decide_eq_true hs) (λj b hb=>by
  have:=pY.1 ha b (wH hb);simpa using this) hG.space).mono λe w' ⟨h1,h2⟩=>⟨h1,h2.symm⟩
def zhE(w:World)(hG:jQ w):
 Calls prog 124 #[] w λe w'=>e=.returned (.slice (some ⟨w.heap.size,0,none⟩) 44 44)/\w.alloc (.cells (XY xS) 9)=w':=by
 have hG:=zh hG;go_enter func124,ntmps124;go_wp2_with (go_at_call 180;go_loud (refine (zae _ xS ?_ ?_ ?_ _ hG.q).mono ?_;rotate_left 3;rintro e w' ⟨rfl,rfl⟩;rotate_right 3;kernel_rfl;kernel_rfl;kernel_rfl));go_ret;exact⟨rfl,rfl⟩
def zhT(w:World)(hG:jQ w):
 Calls prog 125 #[] w λe w'=>e=.returned (.slice (some ⟨w.heap.size,0,none⟩) 25 25)/\w.alloc (.cells (XY yd) 9)=w':=by
 have hG:=zh hG;go_enter func125,ntmps125;go_wp2_with (go_at_call 180;go_loud (refine (zae _ yd ?_ ?_ ?_ _ hG.q).mono ?_;rotate_left 3;rintro e w' ⟨rfl,rfl⟩;rotate_right 3;kernel_rfl;kernel_rfl;kernel_rfl));go_ret;exact⟨rfl,rfl⟩
def Rd(w:World)(R:Nat)(s:ByteArray)(a:Nat):Prop:=
 ∃wb sb,ur w R s a (.slice (some ⟨wb,0,none⟩) 44 44) (.slice (some ⟨sb,0,none⟩) 25 25)/\w.heap[wb]? =some (.cells (XY xS) 9 (0,0))/\w.heap[sb]? =some (.cells (XY yd) 9 (0,0))/\wb≠R/\sb≠R
def zaI(s:ByteArray)(w:World)(hG:jQ w):
 Calls prog 78 #[.string s] w λe w'=>e=.returned (.pointer (some ⟨w.heap.size+2,0,none⟩))/\Rd w' (w.heap.size+2) s 0/\Below w.heap.size w w':=by
 have HW:=zh (λ(W:World) (hb:Below w.heap.size w W)=>zhE W (hG.later hb));have HS:=zh (λ(W:World) (hb:Below w.heap.size w W)=>zhT W (hG.later hb));have hG:=zh hG;go_enter func78,ntmps78;go_wp2_with (first
  |(go_at_call 124;refine (HW.q _ bR).mono ?_;rintro e w' ⟨rfl,rfl⟩)
  |(go_at_call 125;refine (HS.q _ (zf _ _)).mono ?_;rintro e w' ⟨rfl,rfl⟩))
 go_ret;refine⟨rfl,⟨w.heap.size,w.heap.size+1,?_,?_,?_,by omega,by omega⟩,yt (yt (zf _ _) _) _⟩
 ·exact qD _ _ _ (by simp)
 ·exact km _ (km _ (zk _ _))
 ·exact km _ (qD _ _ _ (by simp))
end
section
open Go.RowKit Lode Go.Shelf
open Go.Proofs.Tryz
def zhf:kM [1,3]=λc=>zL c || (true && zR c):=by
 funext c;rw[pP];by_cases h1:zR c=true
 ·simp[kM,vw,h1]
 ·by_cases h2:Zn c=true
  ·have h3:zL c=false:=by simp[Zn] at h2;simp[zL];omega
   simp[kM,vw,h1,h2,h3]
  ·by_cases h3:zL c=true <;> simp[kM,vw,h1,h2,h3]
def zny:kM [3]=zL:=by
 funext c;rw[pP];by_cases h1:zR c=true
 ·have h3:zL c=false:=by simp[zR] at h1;simp[zL];omega
  simp[kM,vw,h1,h3]
 ·by_cases h2:Zn c=true
  ·have h3:zL c=false:=by simp[Zn] at h2;simp[zL];omega
   simp[kM,vw,h1,h2,h3]
  ·by_cases h3:zL c=true <;> simp[kM,vw,h1,h2,h3]
abbrev T0(a:Nat):Obj:=.cells #[.int .u8 0,.string ⟨#[]⟩,.int .i64 a] 66 (0,0)
abbrev CL(zs:List Int):Obj:=.cells (zs.map (Value.int .u8)).toArray 194 (0,0)
structure Tk(w W:World)(k:Int)(t:ByteArray)(a:Nat):Prop where
 b:Below w.heap.size w W
 h:W.heap[w.heap.size]? =some (.cells #[.int .u8 k,.string t,.int .i64 a] 66 (0,0))
def Tk.cells{a:Nat}(h:Tk w W k t a):W.cell? ⟨w.heap.size,0,none⟩=some (.int .u8 k)/\W.cell? ⟨w.heap.size,1,none⟩=some (.string t)/\W.cell? ⟨w.heap.size,2,none⟩=some (.int .i64 a)/\
 W.frozen? ⟨w.heap.size,0,none⟩=false/\W.frozen? ⟨w.heap.size,1,none⟩=false/\W.frozen? ⟨w.heap.size,2,none⟩=false:=⟨zd h.h 0,zd h.h 1,zd h.h 2,zj h.h 0,zj h.h 1,zj h.h 2⟩
def Tk.rdr{a:Nat}(h:Tk w W k t a)(hR:ur w R s p wv sv):W.cell? ⟨R,0,none⟩=some (.string s)/\W.cell? ⟨R,1,none⟩=some (.int .i64 p)/\W.cell? ⟨R,2,none⟩=some wv/\W.cell? ⟨R,3,none⟩=some sv:=
 ⟨zl h.b (zd hR 0),zl h.b (zd hR 1),zl h.b (zd hR 2),zl h.b (zd hR 3)⟩
def Vr(hR:ur w R s p wv sv):R≠w.heap.size:=
 λe=>by have:=World.block_lt_of_cell? w _ (zd hR 0:w.cell? ⟨R,0,none⟩=some _);rw[e] at this;exact Nat.lt_irrefl _ this
theorem Tk.drew{a:Nat}(h:Tk w W k t a):Tk w W.drew k t a:=⟨h.b.drew,h.h⟩
def Tk.kind{a:Nat}(h:Tk w W k t a)(k':Int):Tk w (W.setCell ⟨w.heap.size,0,none⟩ (.int .u8 k')) k' t a:=⟨qS h.b _ _ (pC _) _,zt h.h 0 _⟩
def Tk.text{a:Nat}(h:Tk w W k t a)(t':ByteArray):Tk w (W.setCell ⟨w.heap.size,1,none⟩ (.string t')) k t' a:=⟨qS h.b _ _ (pC _) _,zt h.h 1 _⟩
def Tk.at{a:Nat}(h:Tk w W k t a):Tk w (W.setCell ⟨w.heap.size,2,none⟩ (.int .i64 a)) k t a:=⟨qS h.b _ _ (pC _) _,zt h.h 2 _⟩
theorem Tk.drewN{a:Nat}(h:Tk w W k t a)(n:Nat):Tk w (W.drewN n) k t a:=⟨zO h.b n,by rw[vR];exact h.h⟩
def Tk.later{W':World}{a:Nat}(h:Tk w W k t a)(hb:Below W.heap.size W W'):Tk w W' k t a:=⟨zg h.b hb,zi hb h.h⟩
def jk{R b:Nat}(h:R≠b)(w:World)(i j:Nat)(v:Value):(w.setCell ⟨b,i,none⟩ v).cell? ⟨R,j,none⟩=w.cell? ⟨R,j,none⟩:=by
 refine World.cell?_of_block (a:=⟨R,j,none⟩) ?_;simp[World.setCell,Array.getElem?_modify,Ne.symm h]
def JN(w:World)(a:Addr):w.drew.cell? a=w.cell? a:=rfl
def XZ(R:Nat)(s:ByteArray)(a:Nat)(wv sv:Value)(zs:List Int)(w W:World)(hs:s.size<=1000000000000)(ha:a<s.size)(hR:ur w R s a wv sv)(hz:zs.length<=1000)(m:Nat)(hm:yj (kM zs) (s.data.toList.drop (a+1))=m)(q:∃n,W=((w.alloc (T0 a)).drewN n).alloc (CL zs))(b:Nat)(pn:b=w.heap.size+1):
 Calls prog 183 #[.pointer (some ⟨R,0,none⟩),.slice (some ⟨b,0,none⟩) zs.length zs.length] W λe w1=>e=.returned (.int .i64 m)/\Tk w w1 0 ⟨#[]⟩ a:=by
 obtain⟨n,rfl⟩:=q;subst pn;have hb:Below w.heap.size w (((w.alloc (T0 a)).drewN n).alloc (CL zs)):=yt (zO (zf _ _) _) _;have hC:(((w.alloc (T0 a)).drewN n).alloc (CL zs)).heap[w.heap.size+1]? =some (CL zs):=qD _ _ _ (by simp);refine (zll R s a wv sv zs (w.heap.size+1) _ hs ha (zi hb hR) hz (λj hj=>by rw[zd hC j];simp[hj])).mono λe w1 ⟨h1,h2⟩=>⟨by rw[h1,hm],?_⟩
 exact⟨zg hb h2,zi h2 (km _ (by rw[vR];exact zk _ _))⟩
def zhD(x:ByteArray)(W:World)(b:Nat)(hb:W.heap[b]? =some (.cells (XY xS) 9 (0,0))):
 Calls prog 184 #[.slice (some ⟨b,0,none⟩) 44 44,.string x] W λe w'=>e=.returned (.bool (xS.contains x.data.toList))/\w'=W:=by
 have h:=Tryz.slices_Contains_string b 0 44 44 (xS.map λl=>⟨l.toArray⟩) x W (by decide) (by decide) (λj hj=>by
  rw[Nat.zero_add,zd hb j];have NW:j<xS.length:=by simpa using hj
  simp only[XY,pS,wC,pA];rw[glE NW];rfl)
 have hh:Lib.containsS (List.take 44 (xS.map λl=>⟨l.toArray⟩)) x=xS.contains x.data.toList:=by
  rw[List.take_of_length_le (by decide),pP,Lib.containsS_iff];simp only[List.mem_map,List.contains_iff_mem];constructor
  ·rintro ⟨l,hl,rfl⟩;simpa using hl
  ·intro h;exact⟨_,h,(Xl x).symm⟩
 rw[hh] at h;exact h
def vv(h:Below w.heap.size w W){a:Addr}(mD:a.block<w.heap.size)(hc:w.frozen? a=false):W.frozen? a=false:=by
 rw[World.frozen?_of_block (h.block _ mD)];exact hc
def Jr{a:Addr}(h:w.cell? a=some v):w.setCell a v=w:=by
 unfold World.cell? at h;have hh:(w.setCell a v).heap=w.heap:=by
  apply Array.ext (by simp[World.setCell]);intro i h1 h2;simp only[World.setCell,Array.getElem_modify];split
  ·rename_i e;subst e;rw[Array.getElem?_eq_getElem h2] at h;generalize w.heap[a.block]=o at *;cases o <;> simp_all;rename_i c _ _;obtain⟨mD,hv⟩:=Array.getElem?_eq_some_iff.1 h.2;apply Array.ext (by simp);intro i h1 h2;rw[Array.getElem_setIfInBounds];split
   ·rename_i e;subst e;exact hv.symm
   ·rfl
  ·rfl
 have e:w.setCell a v={w with heap:=(w.setCell a v).heap}:=rfl;rw[e,hh]
def zv{b k:Nat}(h:k≠b):(w.setCell ⟨b,i,none⟩ v).heap[k]? =w.heap[k]? :=Below.heap_setCell w ⟨b,i,none⟩ v k h
end
section
open Go.RowKit Lode Go.Shelf
attribute [local go_sem ↓] wp_at_zero wp_at_succ
open Go.Proofs.Tryz
def zcb(c:UInt8):(qk c).length<=2:=by
 unfold qk;split
 ·simp
 ·split <;> simp
def zjd(s:ByteArray)(k:Nat)(mD:k<s.size):s.data.toList.take (k+1)=s.data.toList.take k ++ [s[k]]:=by
 have hk:k<s.data.toList.length:=by simpa using mD
 rw[<-List.take_append_getElem hk];congr 2
theorem Qy:∀(l:List yO) (j:Nat) (h:j<l.length),(kf l)[j*3]? =some (.int .u8 l[j].kind)/\(kf l)[j*3+1]? =some (.string ⟨l[j].text.toArray⟩)/\(kf l)[j*3+2]? =some (.int .i64 l[j].at_)
 |[],_,h=>by cases h
 |t :: l,0,_=>⟨rfl,rfl,rfl⟩
 |t :: l,j+1,h=>by
  have:=Qy l j (by simpa using h);have e:kf (t :: l)=jv t ++ kf l:=rfl;rw[e];have e0:(j+1)*3=(jv t).length+j*3:=by simp[jv];omega
  refine⟨?_,?_,?_⟩
  ·rw[e0,wM (by omega),Nat.add_sub_cancel_left];exact this.1
  ·rw[e0,wM (by omega),show (jv t).length+j*3+1-(jv t).length=j*3+1 from by omega];exact this.2.1
  ·rw[e0,wM (by omega),show (jv t).length+j*3+2-(jv t).length=j*3+2 from by omega];exact this.2.2
def zcs(R:Nat)(s:ByteArray)(a:Nat)(w:World)(hs:s.size<=1000000000000)(ha:a<s.size)(rs:Rd w R s a)(h1:zR s[a]=true):
 Calls prog 127 #[.pointer (some ⟨R,0,none⟩)] w (jP (xR (s.data.toList.drop a)) a w):=by
 obtain⟨wb,sb,hR,sO,sY,rP,rX⟩:=rs;have hc:vw s[a]=1:=by simp[vw,h1]
 have aw:w.cell? ⟨R,0,none⟩=some (.string s):=zd hR 0;have rT:w.cell? ⟨R,1,none⟩=some (.int .i64 a):=zd hR 1;have eu:w.cell? ⟨R,2,none⟩=some (.slice (some ⟨wb,0,none⟩) 44 44):=zd hR 2;have rp:∀o,(w.alloc o).cell? ⟨R,0,none⟩=some (.string s):=λo=>zl (zf w o) aw
 have rW:∀o,(w.alloc o).cell? ⟨R,1,none⟩=some (.int .i64 a):=λo=>zl (zf w o) rT
 have mD:(a:Int)<(s.size:Int):=by omega
 obtain⟨m,hm,Wk⟩:∃m,yj (kM [1,3]) (s.data.toList.drop (a+1))=m/\a+1+m<=s.size:=⟨_,rfl,by
  have:=vK (kM [1,3]) (s.data.toList.drop (a+1));simp at this ⊢;omega⟩
 have Hrun:=zh (λ(W:World) (q:∃n,W=((w.alloc (T0 a)).drewN n).alloc (CL [1,3]))=>XZ R s a _ _ [1,3] w W hs ha hR (by decide) m hm q (w.heap.size+1) rfl);rw[zhf] at hm;have Hq:=zh (XX s a m ha h1 hm);clear hm;have Hw:=zh (λ(x:ByteArray) (W:World) (hW:Below w.heap.size w W)=>zhD x W wb (zi hW sO));generalize xR (s.data.toList.drop a)=q at *;have HR:=zh hR;clear hR sO sY;go_enter func127,ntmps127;go_wp2_with fail;go_quiet (fail);go_wp2_with (first
  |(go_at_call 182;refine (kO _ _).mono ?_;rintro e w' ⟨rfl,rfl⟩;rw[hc])
  |(go_at_call 183;refine (Hrun.q _ ⟨_,rfl⟩).mono ?_;rintro e w1 ⟨rfl,hr⟩))
 clear rp rW;obtain⟨d0,d1,d2,_⟩:=hr.rdr HR.q;obtain⟨t0,t1,t2,f0,f1,f2⟩:=hr.cells;have ne:=Vr HR.q;clear aw rT eu;have e1:IntKind.i64.wrap ((a:Int)+(1+m))=a+(1+m):=pF _ (by omega);have e2:(0:Int)<=(a:Int)+(1+m):=by omega
 have e3:((a:Int)+(1+m)).toNat=a+(1+m):=by omega
 have e4:(a:Int)<=(a:Int)+(1+m):=by omega
 have e5:a<=a+(1+m):=by omega
 have e6:(a:Int)+(1+m)<=(s.size:Int):=by omega
 refine qZ ?_;go_region_held3 (λw'=>w'.cell? ⟨R,0,none⟩=some (.string s)/\w'.cell? ⟨R,1,none⟩=some (.int .i64 a)) (first|(go_keep;done)|(go_split_ands;refine⟨?_,?_⟩ <;> (simp only[JN,jk ne];assumption))) (fail);clear e1 e2 e3 e4 e5 e6 d0 d1 d2 t0 t1 t2 f0 f1 f2;have mO:=((hr.kind 1).text (s.extract a (a+(1+m)))).drew;generalize World.drew _=W2 at *;obtain⟨d0,d1,d2,_⟩:=mO.rdr HR.q;obtain⟨t0,t1,t2,f0,f1,f2⟩:=mO.cells;have mO:=zh mO;have Hw2:=zh (λx=>Hw.q x W2 mO.q.b);go_wp2_with fail;go_quiet ((go_at_call 184;refine (Hw.q _ _ (by exact zO mO.q.b _)).mono ?_;rintro e w' ⟨rfl,rfl⟩;exact⟨rfl,_,rfl⟩));go_wp2_with fail
 ·have mS:=((((mO.q.drewN nq).kind 5).kind 5).text (s.extract a (a+(1+m)))).at;generalize World.setCell _ ⟨_,2,none⟩ _=W3 at mS ⊢;obtain⟨u0,u1,u2,v0,v1,v2⟩:=mS.cells;have hw:xS.contains (s.extract a (a+(1+m))).data.toList=true:=by assumption
  refine bodyPost_ret (v:=.tuple #[.agg #[.int .u8 5,.string (s.extract a (a+(1+m))),.int .i64 a],.int .i64 (1+m),.bool (decide (1+(m:Int)<=12))]) (by simp[results,results127,go_sem,u0,u1,u2]) rfl ?_;refine⟨_,_,_,_,_,rfl,?_,mS.b⟩;exact vH (k:=5) (by rw[Hq.q];simp only[hw,if_true])
 ·have mS:=(((mO.q.drewN nq).kind 1).text (s.extract a (a+(1+m)))).at;generalize World.setCell _ ⟨_,2,none⟩ _=W3 at mS ⊢;obtain⟨u0,u1,u2,v0,v1,v2⟩:=mS.cells;have hw:xS.contains (s.extract a (a+(1+m))).data.toList=false:=by assumption
  refine bodyPost_ret (v:=.tuple #[.agg #[.int .u8 1,.string (s.extract a (a+(1+m))),.int .i64 a],.int .i64 (1+m),.bool (decide (1+(m:Int)<=12))]) (by simp[results,results127,go_sem,u0,u1,u2]) rfl ?_;refine⟨_,_,_,_,_,rfl,?_,mS.b⟩;exact vH (k:=1) (by rw[Hq.q];simp only[hw,Bool.false_eq_true,if_false])
def zfQ(R:Nat)(s:ByteArray)(a:Nat)(w:World)(hs:s.size<=1000000000000)(ha:a<s.size)(rs:Rd w R s a)(h1:zR s[a]=false)(h2:Zn s[a]=true):
 Calls prog 127 #[.pointer (some ⟨R,0,none⟩)] w (jP (xR (s.data.toList.drop a)) a w):=by
 have hc:vw s[a]=2:=by simp[vw,h1,h2]
 obtain⟨wb,sb,hR,sO,sY,rP,rX⟩:=rs;have aw:w.cell? ⟨R,0,none⟩=some (.string s):=zd hR 0;have rT:w.cell? ⟨R,1,none⟩=some (.int .i64 a):=zd hR 1;have rp:∀o,(w.alloc o).cell? ⟨R,0,none⟩=some (.string s):=λo=>zl (zf w o) aw
 have rW:∀o,(w.alloc o).cell? ⟨R,1,none⟩=some (.int .i64 a):=λo=>zl (zf w o) rT
 have mD:(a:Int)<(s.size:Int):=by omega
 obtain⟨m,hm,Wk⟩:∃m,yj (kM [1,3]) (s.data.toList.drop (a+1))=m/\a+1+m<=s.size:=⟨_,rfl,by
  have:=vK (kM [1,3]) (s.data.toList.drop (a+1));simp at this ⊢;omega⟩
 have Hrun:=zh (λ(W:World) (q:∃n,W=((w.alloc (T0 a)).drewN n).alloc (CL [1,3]))=>XZ R s a _ _ [1,3] w W hs ha hR (by decide) m hm q (w.heap.size+1) rfl);rw[zhf] at hm;have Hq:=zh (zdd s a m ha h1 h2 hm);clear hm;generalize xR (s.data.toList.drop a)=q at *;have HR:=zh hR;clear hR sO sY;go_enter func127,ntmps127;go_wp2_with fail;go_quiet (fail);go_wp2_with (first
  |(go_at_call 182;refine (kO _ _).mono ?_;rintro e w' ⟨rfl,rfl⟩;rw[hc])
  |(go_at_call 183;refine (Hrun.q _ ⟨_,rfl⟩).mono ?_;rintro e w1 ⟨rfl,hr⟩))
 clear rp rW;obtain⟨d0,d1,d2,_⟩:=hr.rdr HR.q;obtain⟨t0,t1,t2,f0,f1,f2⟩:=hr.cells;have ne:=Vr HR.q;clear aw rT;have e1:IntKind.i64.wrap ((a:Int)+(1+m))=a+(1+m):=pF _ (by omega);have e2:(0:Int)<=(a:Int)+(1+m):=by omega
 have e3:((a:Int)+(1+m)).toNat=a+(1+m):=by omega
 have e4:(a:Int)<=(a:Int)+(1+m):=by omega
 have e5:a<=a+(1+m):=by omega
 have e6:(a:Int)+(1+m)<=(s.size:Int):=by omega
 refine qZ ?_;go_region_held3 (λw'=>w'.cell? ⟨R,0,none⟩=some (.string s)/\w'.cell? ⟨R,1,none⟩=some (.int .i64 a)) (first|(go_keep;done)|(go_split_ands;refine⟨?_,?_⟩ <;> (simp only[JN,jk ne];assumption))) (fail);clear e1 e2 e3 e4 e5 e6 d0 d1 d2 t0 t1 t2 f0 f1 f2;have mO:=((hr.kind 2).text (s.extract a (a+(1+m)))).drew;generalize World.drew _=W2 at *;obtain⟨t0,t1,t2,f0,f1,f2⟩:=mO.cells;have mO:=zh mO;go_wp2_with fail;have mS:=((mO.q.kind 2).text (s.extract a (a+(1+m)))).at;generalize World.setCell _ ⟨_,2,none⟩ _=W3 at mS ⊢;obtain⟨u0,u1,u2,v0,v1,v2⟩:=mS.cells;refine bodyPost_ret (v:=.tuple #[.agg #[.int .u8 2,.string (s.extract a (a+(1+m))),.int .i64 a],.int .i64 (1+m),.bool (decide (1+(m:Int)<=12))]) (by simp[results,results127,go_sem,u0,u1,u2]) rfl ?_;refine⟨_,_,_,_,_,rfl,?_,mS.b⟩;exact vH (k:=2) Hq.q
theorem zde(p:UInt8->Bool):∀r:List UInt8,(r.take (yj p r)).all p=true
 |[]=>rfl
 |c :: r=>by
  by_cases h:p c=true
  ·simp only[yj,h,if_true,List.take_succ_cons,List.all_cons,zde p r,Bool.and_self]
  ·simp[yj,h]
def ziC(s:ByteArray)(a m:Nat)(ha:a<s.size)(h3:zL s[a]=true)(hm:yj zL (s.data.toList.drop (a+1))=m):
 (s.extract a (a+(1+m))).data.toList≠[]/\(s.extract a (a+(1+m))).data.toList.all zL=true:=by
 rw[qE,qG s a ha,Nat.add_comm 1 m,List.take_succ_cons];refine⟨by simp,?_⟩;rw[List.all_cons,h3,<-hm,zde];rfl
def zdc(s:ByteArray)(a m:Nat)(ha:a<s.size)(h1:zR s[a]=false)(h2:Zn s[a]=false)(h3:zL s[a]=true)(hm:yj zL (s.data.toList.drop (a+1))=m):
 xR (s.data.toList.drop a)=if kj (s.extract a (a+(1+m))).data.toList then some (3,(s.extract a (a+(1+m))).data.toList,1+m) else none:=by
 rw[qE,qG s a ha];simp only[xR,h1,h2,h3,if_true,Bool.false_eq_true,if_false,hm]
def zcu(R:Nat)(s:ByteArray)(a:Nat)(w:World)(hs:s.size<=1000000000000)(ha:a<s.size)(rs:Rd w R s a)(hG:jQ w)(h1:zR s[a]=false)(h2:Zn s[a]=false)(h3:zL s[a]=true):
 Calls prog 127 #[.pointer (some ⟨R,0,none⟩)] w (jP (xR (s.data.toList.drop a)) a w):=by
 have hc:vw s[a]=3:=by simp[vw,h1,h2,h3]
 obtain⟨wb,sb,hR,sO,sY,rP,rX⟩:=rs;have aw:w.cell? ⟨R,0,none⟩=some (.string s):=zd hR 0;have rT:w.cell? ⟨R,1,none⟩=some (.int .i64 a):=zd hR 1;have rp:∀o,(w.alloc o).cell? ⟨R,0,none⟩=some (.string s):=λo=>zl (zf w o) aw
 have rW:∀o,(w.alloc o).cell? ⟨R,1,none⟩=some (.int .i64 a):=λo=>zl (zf w o) rT
 have mD:(a:Int)<(s.size:Int):=by omega
 obtain⟨m,hm,Wk⟩:∃m,yj (kM [3]) (s.data.toList.drop (a+1))=m/\a+1+m<=s.size:=⟨_,rfl,by
  have:=vK (kM [3]) (s.data.toList.drop (a+1));simp at this ⊢;omega⟩
 have Hrun:=zh (λ(W:World) (q:∃n,W=((w.alloc (T0 a)).drewN n).alloc (CL [3]))=>XZ R s a _ _ [3] w W hs ha hR (by decide) m hm q (w.heap.size+1) rfl);rw[zny] at hm;have Pm:=ziC s a m ha h3 hm;have hq:=zdc s a m ha h1 h2 h3 hm;have eD:(s.extract a (a+(1+m))).size<=1000000000000:=by simp;omega
 obtain⟨bb,pn⟩:=exE (kj (s.extract a (a+(1+m))).data.toList);rw[pn] at hq;have Hnum:=zh (λ(W:World) (hW:Below w.heap.size w W)=>pn▸zcE (s.extract a (a+(1+m))) W eD (hG.later hW) Pm.1 Pm.2);have Hq:=zh hq;clear hm hq Pm pn eD;generalize xR (s.data.toList.drop a)=q at *;have HR:=zh hR;clear hR sO sY;have HG:=zh hG;clear hG;go_enter func127,ntmps127;go_wp2_with fail;go_quiet (fail);go_wp2_with (first
  |(go_at_call 182;refine (kO _ _).mono ?_;rintro e w' ⟨rfl,rfl⟩;rw[hc])
  |(go_at_call 183;refine (Hrun.q _ ⟨_,rfl⟩).mono ?_;rintro e w1 ⟨rfl,hr⟩))
 clear rp rW;obtain⟨d0,d1,d2,_⟩:=hr.rdr HR.q;obtain⟨t0,t1,t2,f0,f1,f2⟩:=hr.cells;have ne:=Vr HR.q;clear aw rT;have e1:IntKind.i64.wrap ((a:Int)+(1+m))=a+(1+m):=pF _ (by omega);have e2:(0:Int)<=(a:Int)+(1+m):=by omega
 have e3:((a:Int)+(1+m)).toNat=a+(1+m):=by omega
 have e4:(a:Int)<=(a:Int)+(1+m):=by omega
 have e5:a<=a+(1+m):=by omega
 have e6:(a:Int)+(1+m)<=(s.size:Int):=by omega
 refine qZ ?_;go_region_held3 (λw'=>w'.cell? ⟨R,0,none⟩=some (.string s)/\w'.cell? ⟨R,1,none⟩=some (.int .i64 a)) (first|(go_keep;done)|(go_split_ands;refine⟨?_,?_⟩ <;> (simp only[JN,jk ne];assumption))) (fail);clear e1 e2 e3 e4 e5 e6 d0 d1 d2 t0 t1 t2 f0 f1 f2;have mO:=((hr.kind 3).text (s.extract a (a+(1+m)))).drew;generalize World.drew _=W2 at *;obtain⟨t0,t1,t2,f0,f1,f2⟩:=mO.cells;have mO:=zh mO;go_wp2_with fail;have fK:w.heap.size<W2.heap.size:=World.block_lt_of_cell? W2 _ t0;have BB:=zh (λ(W:World) (hW:Below W2.heap.size W2 W)=>Hnum.q W (zg mO.q.b hW));refine qZ ?_;go_region_held3 (λw'=>w'.cell? ⟨w.heap.size,0,none⟩=some (.int .u8 3)/\w'.cell? ⟨w.heap.size,1,none⟩=some (.string (s.extract a (a+(1+m))))/\w'.cell? ⟨w.heap.size,2,none⟩=some (.int .i64 a))
  (first|(go_keep;done)|(go_split_ands;refine⟨?_,?_,?_⟩ <;> exact zl mQ (by assumption))|(obtain⟨u0,u1,u2⟩:=‹w4.cell? ⟨w.heap.size,0,none⟩=some (.int .u8 3)/\w4.cell? ⟨w.heap.size,1,none⟩=some (.string (s.extract a (a+(1+m))))/\w4.cell? ⟨w.heap.size,2,none⟩=some (.int .i64 a)›;rw[Jr u0,Jr u1,Jr u2];exact⟨u0,u1,u2⟩))
  (first|(go_at_call 185;refine (BB.q _ (Below.drew bR)).mono ?_;rintro e w4 ⟨rfl,mQ⟩;have g0:=vv (w:=W2.drew) mQ fK f0;have g1:=vv (w:=W2.drew) mQ fK f1;have g2:=vv (w:=W2.drew) mQ fK f2))
 have pu:=(((mO.q.drew.later mQ).kind 3).text (s.extract a (a+(1+m)))).at;go_wp2_with fail;generalize World.setCell _ ⟨_,2,none⟩ _=W5 at pu ⊢;obtain⟨u0,u1,u2,v0,v1,v2⟩:=pu.cells;refine bodyPost_ret (v:=.tuple #[.agg #[.int .u8 3,.string (s.extract a (a+(1+m))),.int .i64 a],.int .i64 (1+m),.bool bb]) (by simp[results,results127,go_sem,u0,u1,u2]) rfl ?_;refine⟨_,_,_,_,_,rfl,?_,pu.b⟩;rw[Hq.q];cases bb
 ·exact rfl
 ·exact⟨rfl,rfl,Xl _,rfl,by omega⟩
theorem zed:∀g r:List UInt8,Lib.hasPrefix r g=jy g r
 |[],r=>by cases r <;> rfl
 |_ :: _,[]=>rfl
 |a :: g,b :: r=>by
  have:=zed g r;unfold Lib.hasPrefix at this;simp only[Lib.hasPrefix,List.isPrefixOf,jy,this];congr 1
theorem zhr{α:Type}(p:α->Bool)(d:α):∀(l:List α) (k:Nat),(∀j,j<k->p (l.getD j d)=false)->k<l.length->p (l.getD k d)=true->l.find? p=some (l.getD k d)
 |[],k,_,h,_=>by cases h
 |a :: l,0,_,_,h=>by simp at h ⊢;exact .inl h
 |a :: l,k+1,h,hk,hp=>by
  have h0:=h 0 (by omega);simp only[List.getD_cons_zero] at h0;rw[List.find?_cons,h0];exact zhr p d l k (λj hj=>by have:=h (j+1) (by omega);simpa using this) (by simpa using hk) (by simpa using hp)
def zlU(p:α->Bool)(d:α)(l:List α)(h:∀j,j<l.length->p (l.getD j d)=false):l.find? p=none:=by
 rw[List.find?_eq_none];intro x hx;obtain⟨j,hj,rfl⟩:=List.getElem_of_mem hx;have:=h j hj;simpa[pA,hj] using this
def ze3{b:Nat}(h:Below w.heap.size w W)(hb:w.heap[b]? =some (.cells (XY yd) 9 (0,0)))(k:Nat)(hk:k<25):W.cell? ⟨b,k,none⟩=some (.string ⟨(yd.getD k []).toArray⟩):=by
 refine zl h ?_;rw[zd hb k];have rU:k<yd.length:=hk;simp only[XY,pS,wC,pA];rw[glE rU];rfl
def zlR(s:ByteArray)(a:Nat)(_ha:a<s.size)(g:List UInt8)(W:World):
 Calls prog 187 #[.string (s.extract a s.size),.string ⟨g.toArray⟩] W λe w'=>e=.returned (.bool (jy g (s.data.toList.drop a)))/\w'=W:=by
 have h:=Tryz.strings_HasPrefix (s.extract a s.size) ⟨g.toArray⟩ W;have e:(s.extract a s.size).data.toList=s.data.toList.drop a:=by rw[show (s.extract a s.size).data.toList=(s.data.toList.drop a).take (s.size-a) from by simp[List.extract_eq_take_drop]];exact List.take_of_length_le (by simp)
 rw[e,show (⟨g.toArray⟩:ByteArray).data.toList=g from rfl,zed] at h;exact h
def zeQ{n:Int}{ok:Bool}(h:ziR q n t ok)(a:Int):zme (q.map λx=>(4,x.1,x.2)) a 4 t a n ok:=by
 cases q with
 |none=>exact h
 |some x=>obtain⟨h1,h2,h3⟩:=h;exact⟨h1,rfl,h3,rfl,h2⟩
def zct(R:Nat)(s:ByteArray)(a:Nat)(w:World)(hs:s.size<=1000000000000)(hB:∀c,c∈s.data.toList->uK c=true)(ha:a<s.size)(rs:Rd w R s a)(h4:s[a]=34):
 Calls prog 127 #[.pointer (some ⟨R,0,none⟩)] w (jP (xR (s.data.toList.drop a)) a w):=by
 have hc:vw s[a]=0:=by rw[h4];rfl
 obtain⟨wb,sb,hR,sO,sY,rP,rX⟩:=rs;have aw:w.cell? ⟨R,0,none⟩=some (.string s):=zd hR 0;have rT:w.cell? ⟨R,1,none⟩=some (.int .i64 a):=zd hR 1;have rp:∀o,(w.alloc o).cell? ⟨R,0,none⟩=some (.string s):=λo=>zl (zf w o) aw
 have rW:∀o,(w.alloc o).cell? ⟨R,1,none⟩=some (.int .i64 a):=λo=>zl (zf w o) rT
 have mD:(a:Int)<(s.size:Int):=by omega
 have Rt:((s[a].toNat:Int) == 34)=true:=by rw[h4];rfl
 have hq:=Vk s a ha h4;have Hcls:=zh (λ(W:World)=>(show Calls prog 182 #[.int .u8 34] W (λe w'=>e=.returned (.int .u8 0)/\W=w') from kO 34 W));have Ds:(s.extract a s.size).data.toList=s.data.toList.drop a:=by rw[show (s.extract a s.size).data.toList=(s.data.toList.drop a).take (s.size-a) from by simp[List.extract_eq_take_drop]];exact List.take_of_length_le (by simp)
 have Hqd:=zh (λ(W:World)=>Ds▸zd0 (s.extract a s.size) W (by simp;omega) (λc hc=>hB c (by rw[Ds] at hc;exact List.mem_of_mem_drop hc)));generalize Lode.jZ (s.data.toList.drop a)=q0 at *;have Hq:=zh hq;clear hq hB Ds;generalize xR (s.data.toList.drop a)=q at *;have HR:=zh hR;clear hR sO sY;go_enter func127,ntmps127;go_wp2_with fail;go_quiet (fail);go_wp2_with (first
  |(go_at_call 182;refine (Hcls.q _).mono ?_;rintro e w' ⟨rfl,rfl⟩))
 have hr:=(Tk.mk (a:=a) (k:=0) (t:=⟨#[]⟩) (zO (zf w (T0 a)) nq) (by rw[vR];exact zk _ _)).kind 4;generalize World.setCell _ _ _=W2 at hr ⊢;clear rp rW;obtain⟨d0,d1,d2,_⟩:=hr.rdr HR.q;obtain⟨t0,t1,t2,f0,f1,f2⟩:=hr.cells;have ne:=Vr HR.q;clear aw rT;have hr:=zh hr;have fK:w.heap.size<W2.heap.size:=World.block_lt_of_cell? W2 _ t0;have e4:(a:Int)<=(s.size:Int):=by omega
 refine qZ ?_;go_region_held3 (λw'=>w'.cell? ⟨R,0,none⟩=some (.string s)/\w'.cell? ⟨R,1,none⟩=some (.int .i64 a)) (first|(go_keep;done)|(go_split_ands;refine⟨?_,?_⟩ <;> exact zl mQ (by assumption))|(go_split_ands;refine⟨?_,?_⟩ <;> (simp only[jk ne];assumption)))
  (first|(go_at_call 186;refine (Hqd.q _).mono ?_;rintro e w4 ⟨tq,OS,okq,rfl,hQ,mQ⟩;have g1:=vv (w:=W2.drew) mQ fK f1;have c1:=zl (w:=W2.drew) mQ t1))
 have pu:=(hr.q.drew.later mQ).text tq;generalize World.setCell _ ⟨_,1,none⟩ _=W5 at pu ⊢;clear t0 t1 t2 f0 f1 f2 c1 g1;obtain⟨t0,t1,t2,f0,f1,f2⟩:=pu.cells;have pu:=zh pu;go_wp2_with fail;have bg:=((pu.q.kind 4).text tq).at;generalize World.setCell _ ⟨_,2,none⟩ _=W6 at bg ⊢;obtain⟨u0,u1,u2,v0,v1,v2⟩:=bg.cells;refine bodyPost_ret (v:=.tuple #[.agg #[.int .u8 4,.string tq,.int .i64 a],.int .i64 OS,.bool okq]) (by simp[results,results127,go_sem,u0,u1,u2]) rfl ?_;refine⟨_,_,_,_,_,rfl,?_,bg.b⟩;rw[Hq.q];exact zeQ hQ a
def zdY(R:Nat)(s:ByteArray)(a:Nat)(w:World)(_hs:s.size<=1000000000000)(ha:a<s.size)(rs:Rd w R s a)(h1:zR s[a]=false)(h2:Zn s[a]=false)(h3:zL s[a]=false)(h4:s[a]≠34):
 Calls prog 127 #[.pointer (some ⟨R,0,none⟩)] w (jP (xR (s.data.toList.drop a)) a w):=by
 have hc:vw s[a]=0:=by simp[vw,h1,h2,h3]
 obtain⟨wb,sb,hR,sO,sY,rP,rX⟩:=rs;have aw:w.cell? ⟨R,0,none⟩=some (.string s):=zd hR 0;have rT:w.cell? ⟨R,1,none⟩=some (.int .i64 a):=zd hR 1;have Lo:w.cell? ⟨R,3,none⟩=some (.slice (some ⟨sb,0,none⟩) 25 25):=zd hR 3;have rp:∀o,(w.alloc o).cell? ⟨R,0,none⟩=some (.string s):=λo=>zl (zf w o) aw
 have rW:∀o,(w.alloc o).cell? ⟨R,1,none⟩=some (.int .i64 a):=λo=>zl (zf w o) rT
 have bC:∀o n,((w.alloc o).drewN n).cell? ⟨R,3,none⟩=some (.slice (some ⟨sb,0,none⟩) 25 25):=λo n=>zl (zO (zf w o) n) Lo
 have mD:(a:Int)<(s.size:Int):=by omega
 have Rt:((s[a].toNat:Int) == 34)=false:=by
  rw[pB];intro h;exact h4 (UInt8.toNat_inj.1 (by have:(34:UInt8).toNat=34:=rfl;omega))
 have Hq:=zh (zaX s a ha h1 h2 h3 h4);generalize xR (s.data.toList.drop a)=q at *;have HR:=zh hR;have Hsb:=zh sY;clear hR sO sY;go_enter func127,ntmps127;go_wp2_with fail;go_quiet (fail);go_wp2_with (first
  |(go_at_call 182;refine (kO _ _).mono ?_;rintro e w' ⟨rfl,rfl⟩;rw[hc]))
 have hr:=Tk.mk (a:=a) (k:=0) (t:=⟨#[]⟩) (zO (zf w (T0 a)) nq) (by rw[vR];exact zk _ _);generalize World.drewN _ _=W2 at hr ⊢;clear rp rW bC;obtain⟨d0,d1,d2,d3⟩:=hr.rdr HR.q;obtain⟨t0,t1,t2,f0,f1,f2⟩:=hr.cells;clear d0 d1 d2 d3 t0 t1 t2 f0 f1 f2 aw rT Lo;have hr:=zh hr;go_loopw [140] (λi wr=>∃k:Nat,k<=25/\i=.int .i64 k/\Tk w wr 0 ⟨#[]⟩ a/\Hid (∀j,j<k->jy (yd.getD j []) (s.data.toList.drop a)=false)) (λi _=>25-(intOf i).toNat)
 case atStart=>exact⟨0,by omega,rfl,hr.q,zh (λj hj=>absurd hj (wF _))⟩
 case round=>
  obtain⟨k,hk,rfl,hr,mP⟩:=hrel;by_cases mD:k<25
  ·have hg:=ze3 hr.b Hsb.q k mD;obtain⟨g,fa⟩:=exE (yd.getD k []);have GW:=zh (λW=>zlR s a ha g W);rw[fa] at hg;have Hgg:=zh fa;clear fa;obtain⟨d0,d1,d2,d3⟩:=hr.rdr HR.q;obtain⟨t0,t1,t2,f0,f1,f2⟩:=hr.cells;have ne:=Vr HR.q;have hr:=zh hr;have e4:(a:Int)<=(s.size:Int):=by omega
   obtain⟨bb,pn⟩:=exE (jy g (s.data.toList.drop a));have Hp:=zh (λW=>pn▸GW.q W);have Hbb:=zh pn;clear GW pn;go_wp2_with fail;go_quiet ((go_at_call 187;refine (Hp.q _).mono ?_;rintro e w' ⟨rfl,rfl⟩;exact⟨rfl,_,rfl⟩));clear Hp;cases bb with
   |true=>
    go_wp2_with fail;have mS:=(((((hr.q.drewN nq).kind 6).text ⟨g.toArray⟩).kind 6).text ⟨g.toArray⟩).at;generalize World.setCell _ ⟨_,2,none⟩ _=W6 at mS ⊢;obtain⟨u0,u1,u2,v0,v1,v2⟩:=mS.cells;refine bodyPost_ret (v:=.tuple #[.agg #[.int .u8 6,.string ⟨g.toArray⟩,.int .i64 a],.int .i64 g.length,.bool true]) (by simp[results,results127,go_sem,u0,u1,u2]) rfl ?_;refine⟨_,_,_,_,_,rfl,?_,mS.b⟩;rw[Hq.q,zhr (λg=>jy g (s.data.toList.drop a)) [] yd k mP.q mD (by rw[Hgg.q];exact Hbb.q),Hgg.q];exact⟨rfl,rfl,rfl,rfl,rfl⟩
   |false=>
    go_wp2;go_roundw
    case rel=>
     refine⟨k+1,by omega,by go_num,hr.q.drewN nq,zh (λj hj=>?_)⟩;by_cases e:j=k
     ·subst e;rw[Hgg.q];exact Hbb.q
     ·exact mP.q j (by omega)
    case measure=>simp[intOf];omega
  ·obtain⟨t0,t1,t2,f0,f1,f2⟩:=hr.cells;have ED:k=25:=by omega
   have hr:=zh hr;go_wp2_with fail;have mS:=((hr.q.kind 0).text ⟨#[]⟩).at;generalize World.setCell _ ⟨_,2,none⟩ _=W6 at mS ⊢;obtain⟨u0,u1,u2,v0,v1,v2⟩:=mS.cells;refine bodyPost_ret (v:=.tuple #[.agg #[.int .u8 0,.string ⟨#[]⟩,.int .i64 a],.int .i64 0,.bool false]) (by simp[results,results127,go_sem,u0,u1,u2]) rfl ?_;refine⟨_,_,_,_,_,rfl,?_,mS.b⟩;rw[Hq.q,zlU (λg=>jy g (s.data.toList.drop a)) [] yd (λj hj=>mP.q j (by rw[ED];exact hj))];exact rfl
end
section
open Go.RowKit Lode Go.Shelf
open Go.Proofs.Tryz
def VN(R:Nat)(s:ByteArray)(a:Nat)(w:World)(hs:s.size<=1000000000000)(hB:∀c,c∈s.data.toList->uK c=true)(ha:a<s.size)(rs:Rd w R s a)(hG:jQ w):
 Calls prog 127 #[.pointer (some ⟨R,0,none⟩)] w (jP (xR (s.data.toList.drop a)) a w):=by
 by_cases h1:zR s[a]=true
 ·exact zcs R s a w hs ha rs h1
 ·have h1:zR s[a]=false:=by simpa using h1
  by_cases h2:Zn s[a]=true
  ·exact zfQ R s a w hs ha rs h1 h2
  ·have h2:Zn s[a]=false:=by simpa using h2
   by_cases h3:zL s[a]=true
   ·exact zcu R s a w hs ha rs hG h1 h2 h3
   ·have h3:zL s[a]=false:=by simpa using h3
    by_cases h4:s[a]=34
    ·exact zct R s a w hs hB ha rs h4
    ·exact zdY R s a w hs ha rs h1 h2 h3 h4
def zdZ(R:Nat)(s:ByteArray)(a:Nat)(w:World)(hs:s.size<=1000000000000)(hB:∀c,c∈s.data.toList->uK c=true)(ha:a<s.size)(rs:Rd w R s a)(hG:jQ w)(ht:xR (s.data.toList.drop a)=none):
 Calls prog 127 #[.pointer (some ⟨R,0,none⟩)] w λe w'=>(∃k t a' n,e=.returned (.tuple #[.agg #[.int .u8 k,.string t,.int .i64 a'],.int .i64 n,.bool false]))/\Below w.heap.size w w':=
 (VN R s a w hs hB ha rs hG).mono λe w' ⟨k,t,a',n,ok,h1,h2,h3⟩=>by
  rw[ht] at h2;exact⟨⟨k,t,a',n,by rw[h1,show ok=false from h2]⟩,h3⟩
def zdX(R:Nat)(s:ByteArray)(a:Nat)(w:World)(hs:s.size<=1000000000000)(hB:∀c,c∈s.data.toList->uK c=true)(ha:a<s.size)(rs:Rd w R s a)(hG:jQ w)(k:Nat)(t:List UInt8)(m:Nat)(ht:xR (s.data.toList.drop a)=some (k,t,m)):
 Calls prog 127 #[.pointer (some ⟨R,0,none⟩)] w λe w'=>e=.returned (.tuple #[.agg #[.int .u8 k,.string ⟨t.toArray⟩,.int .i64 a],.int .i64 m,.bool true])/\Below w.heap.size w w':=
 (VN R s a w hs hB ha rs hG).mono λe w' ⟨k',t',a',n,ok,h1,h2,h3⟩=>by
  rw[ht] at h2;obtain⟨rfl,rfl,rfl,rfl,rfl⟩:=h2;exact⟨h1,h3⟩
def KpT(w0:World)(R:Nat)(W W':World):Prop:=(∀s a,Rd W R s a->Rd W' R s a)/\(Below w0.heap.size w0 W->Below w0.heap.size w0 W')
def KpT.trans{A B C:World}(h:KpT w0 R A B)(k:KpT w0 R B C):KpT w0 R A C:=⟨λs a x=>k.1 s a (h.1 s a x),λx=>k.2 (h.2 x)⟩
def zgL(R:Nat)(s:ByteArray)(a:Nat)(w:World)(hs:s.size<=1000000000000)(ha:a<=s.size)(hR:Rd w R s a):
 Calls prog 126 #[.pointer (some ⟨R,0,none⟩)] w λe w'=>e=.returned (.tuple #[])/\Rd w' R s (a+yb false (s.data.toList.drop a))/\w.grownBy w' (some R):=by
 obtain⟨wb,sb,hR,sO,sY,rP,rX⟩:=hR;refine (zjm R s a _ _ w hs ha hR).mono λe w' ⟨h1,h2,h3⟩=>⟨h1,⟨wb,sb,h2,?_,?_,rP,rX⟩,h3⟩
 ·exact (h3.block _ (gtA sO) (λe=>rP (by cases e;rfl))).trans sO
 ·exact (h3.block _ (gtA sY) (λe=>rX (by cases e;rfl))).trans sY
def Rd.below{a:Nat}(h:Rd w R s a)(hb:Below w.heap.size w w'):Rd w' R s a:=by
 obtain⟨wb,sb,hR,sO,sY,rP,rX⟩:=h;exact⟨wb,sb,zi hb hR,zi hb sO,zi hb sY,rP,rX⟩
def Rd.step{a:Nat}(h:Rd w R s a)(k:Int)(k':Nat)(hk:k=k'):Rd (w.setCell ⟨R,1,none⟩ (.int .i64 k)) R s k':=by
 obtain⟨wb,sb,hR,sO,sY,rP,rX⟩:=h;have g:=jq w R 1 (.int .i64 k);exact⟨wb,sb,hR.set k k' hk,(g.block _ (gtA sO) (λe=>rP (by cases e;rfl))).trans sO,(g.block _ (gtA sY) (λe=>rX (by cases e;rfl))).trans sY,rP,rX⟩
theorem Rd.pos{a:Nat}(h:Rd w R s a):zb7 R w=a:=by
 obtain⟨wb,sb,hR,_⟩:=h;exact hR.pos
def Zx(h:Below w.heap.size w w')(r:Option Nat):w.grownBy w' r:=⟨h.os,h.tape,h.output,h.size,λk hk _=>h.block k hk⟩
def Yw(h:Below w0.heap.size w0 w)(g:w.grownBy w' (some R))(hR:w0.heap.size<=R):Below w0.heap.size w0 w':=
 ⟨g.os.trans h.os,g.tape.trans h.tape,g.output.trans h.output,pN h.size g.size,λk hk=>(g.block k (pX hk h.size) (λe=>by cases e;omega)).trans (h.block k hk)⟩
end
end Go.Proofs.YtcagibbaeageoaaGreatDoor
namespace Lode
section
open Go Go.RowKit Go.Sort
def Cl(w:World):World->Prop:=λw'=>∃p:Regrown,w'=grow (redrawn w p.d) p.os
def yh(l:List α)(i:Nat)(x:α):l.toArray.setIfInBounds i x=(l.set i x).toArray:=List.setIfInBounds_toArray ..
def yf(a x:α)(l:List α):(a :: l).set 0 x=x :: l:=rfl
def yg(a x:α)(l:List α)(n:Nat):(a :: l).set (n+1) x=a :: l.set n x:=rfl
def ZL:Cl w w'↔Below w.heap.size w w':=⟨λ⟨p,h⟩=>h▸below_regrown w p.d p.os,λh=>regrown_of_below h⟩
def Cl.refl(w:World):Cl w w:=ZL.2 bR
theorem Cl.trans{a b c:World}(h:Cl a b)(k:Cl b c):Cl a c:=by
 rw[ZL] at *;exact h.trans (k.mono h.size)
end
end Lode
namespace LodeX
section
open Go Go.RowKit Go.Sort Lode
structure Rel where
 rel:World->World->Prop
 refl:∀w,rel w w
 trans:∀{a b c:World},rel a b->rel b c->rel a c
 zR:World->World->Prop
 srefl:∀w,zR w w
 strans:∀{a b c:World},zR a b->zR b c->zR a c
 Zn:∀{a b:World},zR a b->rel a b
def xOf(Xp:List PanicEntry->World->Prop):Exit->Act->World->Prop:=λe a w=>match e with
 | .panic c=>a.defers=[]/\Xp c w
 |_=>False
def znb(RR:Rel)(P:Program)(o:Oper)(a:Act)(b:World)(next:Act->Prop):Prop:=∃v,(∀w,RR.rel b w->o.quietAt P a (RR.zR w) w v)/\next (a.put o.dst v)
def Jp(P:Program)(w:World)(v:Value):Result Next->Prop
 | .ok (.value u) w'=>w'=w/\u=v
 | .ok .skip w'=>w'=w/\v=undef
 | .ok (.enter f args) w'=>w'=w/\Calls P f args w (λe w''=>e=.returned v/\w''=w)
 |_=>False
section
variable {RR:Rel} {Xp:List PanicEntry→World→Prop} {P:Program} {ops:Array Oper} {md:Region.Mode}
def Qz(P:Program)(ops:Array Oper)(i:Nat)(next:Act->Prop)(a:Act):Prop:=
 match ops[i]? with
 |none=>next a
 |some o=>if Region.wanted o (yielded ops a.tmps) then ∃v,(∀w,Jp P w v ((execOp a.eval o).run P w))/\next (a.put o.dst v) else next (a.put o.dst undef)
def XJ(Xp:List PanicEntry->World->Prop)(P:Program)(ops:Array Oper)(i:Nat)(next:Act->World->Prop)(a:Act)(w:World):Prop:=
 match ops[i]? with
 |none=>next a w
 |some o=>if Region.wanted o (yielded ops a.tmps) then o.wp P a w next (xOf Xp) else next (a.put o.dst undef) w
def Qw(Xp:List PanicEntry->World->Prop)(P:Program)(ops:Array Oper)(Q:Act->World->Prop):List (Nat×Nat)->Act->World->Prop
 |[],a,w=>Q a w
 |(i,0) :: r,a,w=>Qz P ops i (λa'=>Qw Xp P ops Q r a' w) a
 |(i,_+1) :: r,a,w=>XJ Xp P ops i (Qw Xp P ops Q r) a w
def Zr(RR:Rel)(Xp:List PanicEntry->World->Prop)(P:Program)(ops:Array Oper)(f:Nat)(j:Nat)(b:World)(K:World->Act->Prop)(KE:Act->World->Prop)(a:Act):Prop:=
 match f with
 |0=>Qz P ops j (K b) a
 |1=>(match ops[j]? with
  |none=>K b a
  |some o=>if Region.wanted o (yielded ops a.tmps) then znb RR P o a b (K b) else K b (a.put o.dst undef))
 |2=>(match ops[j]? with
  |none=>K b a
  |some o=>if Region.wanted o (yielded ops a.tmps) then ∀w,RR.zR b w->o.wp P a w (λa' w'=>RR.rel w w'/\K w' a') (xOf Xp) else K b (a.put o.dst undef))
 |_=>∀w,RR.zR b w->XJ Xp P ops j KE a w
def kR(RR:Rel)(Xp:List PanicEntry->World->Prop)(P:Program)(ops:Array Oper)(Q:Act->World->Prop):List (Nat×Nat)->World->Act->Prop
 |[],b,a=>∀w,RR.zR b w->Q a w
 |(i,f) :: r,b,a=>Zr RR Xp P ops f i b (kR RR Xp P ops Q r) (Qw Xp P ops Q r) a
def XN(md:Region.Mode)(ops:Array Oper):List (Nat×Nat)->Array Bool->Bool
 |[],listed=>(Region.ready md ops listed) == []
 |(i,f) :: r,listed=>(if f<=1 then (Region.ready md ops listed).contains i && Region.free md ops listed i else Region.ready md ops listed == [i]) && XN md ops r (listed.setIfInBounds i true)
def zc6(md:Region.Mode)(ops:Array Oper)(t i:Nat):Bool:=(ops[t]?).any λo=>o.after.any λe=>Region.binds md e && e.on == i
def YI(md:Region.Mode)(ops:Array Oper):Nat->Nat->Nat->Bool
 |0,t,i=>zc6 md ops t i
 |n+1,t,i=>zc6 md ops t i || (ops[t]?).any λo=>o.after.any λe=>Region.binds md e && YI md ops n e.on i
def zjp(md:Region.Mode)(ops:Array Oper)(ord:List (Nat×Nat)):Bool:=
 ord.all λx=>x.2 != 1 || ord.all λt=>decide (t.2<=2) || YI md ops 12 t.1 x.1
def Qk:List (Nat×Nat)->Bool
 |[]=>true
 |(_,f) :: r=>(decide (f<=2) || r.all λx=>x.2 == 0 || decide (3<=x.2)) && Qk r
def zmz(ops:Array Oper)(ord:List (Nat×Nat)):Bool:=(List.range ops.size).all λi=>ord.any (λx=>x.1 == i)
def JQ(md:Region.Mode)(ops:Array Oper)(listed:Array Bool):Prop:=∀k o,ops[k]? =some o->listed.getD k false=true->∀e∈o.after,Region.binds md e=true->listed.getD e.on false=true
def VW(h:listed.getD i true=false):listed.getD i false=false:=by
 rcases Nat.lt_or_ge i listed.size with h'|h'
 ·simp[h'] at h ⊢;exact h
 ·simp[Array.getElem?_eq_none h'] at h
theorem XI{listed:Array Bool}(hc:JQ md ops listed):∀(n t i:Nat) (o:Oper),YI md ops n t i=true->ops[t]? =some o->(∀e∈o.after,Region.binds md e=true->listed.getD e.on false=true)->listed.getD i false=true
 |n,t,i,o,h,ho,mP=>by
  have h1:zc6 md ops t i=true->listed.getD i false=true:=λh=>by
   unfold zc6 at h;rw[ho] at h;simp only[Option.any_some] at h;obtain⟨e,he,hb⟩:=Array.any_eq_true'.1 h;simp only[pJ,pR] at hb;rw[<-hb.2];exact mP e he hb.1
  cases n with
  |zero=>exact h1 h
  |succ n=>
   simp only[YI,wG] at h;rcases h with h|h
   ·exact h1 h
   ·rw[ho] at h;simp only[Option.any_some] at h;obtain⟨e,he,hb⟩:=Array.any_eq_true'.1 h;simp only[pJ] at hb;have h2:=mP e he hb.1;cases Ma:ops[e.on]? with
    |none=>
     have:YI md ops n e.on i=false:=by cases n <;> simp[YI,zc6,Ma]
     rw[this] at hb;exact absurd hb.2 (by simp)
    |some o2=>exact XI hc n e.on i o2 hb.2 Ma (hc e.on o2 Ma h2)
def Jn{n t:Nat}(hc:JQ md ops listed)(h:YI md ops n t i=true)(hi:listed.getD i true=false)(ht:t∈Region.ready md ops listed):False:=by
 obtain⟨_,o,ho,mP⟩:=mem_ready.1 ht;have:=XI hc n t i o h ho mP;rw[VW hi] at this;cases this
def JQ.set(hc:JQ md ops listed)(hj:j∈Region.ready md ops listed):JQ md ops (listed.setIfInBounds j true):=by
 intro k o ho hk e he hb;obtain⟨_,oj,ah,mP⟩:=mem_ready.1 hj;by_cases e1:j=k
 ·subst e1;rw[ah] at ho;cases ho;exact getD_set_true (mP e he hb)
 ·rw[getD_set_ne false e1] at hk;exact getD_set_true (hc k o ho hk e he hb)
def ziy(h:Region.free md ops listed i=true):Region.free md ops (listed.setIfInBounds j true) i=true:=by
 unfold Region.free at *;cases ho:ops[i]? with
 |none=>rw[ho] at h;exact h
 |some oi=>
  rw[ho] at h;simp only[pY,List.mem_range] at h ⊢;intro k hk;have:=h k hk;simp only[wG] at this ⊢;rcases this with (h1|h1)|h1
  ·exact .inl (.inl h1)
  ·refine .inl (.inr ?_);by_cases e:j=k
   ·subst e;rcases Nat.lt_or_ge j listed.size with h'|h'
    ·simp[h']
    ·simp[h']
   ·rw[getD_set_ne true e];exact h1
  ·exact .inr h1
theorem Km{j f:Nat}{l2:List (Nat×Nat)}:∀(l1:List (Nat×Nat)) (listed:Array Bool),XN md ops (l1 ++ (j,f) :: l2) listed=true->j∈Region.ready md ops listed->(∀x,x∈l1->x.1≠j)->
 XN md ops (l1 ++ l2) (listed.setIfInBounds j true)=true/\∀x,x∈l1->x.2<=1/\∃oi oj,ops[x.1]? =some oi/\ops[j]? =some oj/\oi.apart ops oj=true
 |[],listed,h,hj,_=>by
  refine⟨?_,λx hx=>absurd hx (wL)⟩;simp only[pV,XN,pJ] at h ⊢;exact h.2
 |(i,g) :: l1,listed,h,hj,mu=>by
  have NV:i≠j:=mu (i,g) (by simp);simp only[pQ,XN,pJ] at h ⊢;obtain⟨hi,hr⟩:=h;by_cases hg:g<=1
  ·rw[if_pos hg] at hi ⊢;simp only[pJ] at hi ⊢;obtain⟨hi,hf⟩:=hi;have po:i∈Region.ready md ops listed:=by simpa using hi
   obtain⟨h1,h2⟩:=Km l1 (listed.setIfInBounds i true) hr (ready_mono hj NV.symm) (λx hx=>mu x (by simp[hx]));refine⟨⟨⟨by simpa using ready_mono po NV,ziy hf⟩,by rw[<-Array.setIfInBounds_comm _ _ NV];exact h1⟩,λx hx=>?_⟩;rcases wI.1 hx with rfl|hx
   ·obtain⟨_,oi,cv,_⟩:=mem_ready.1 po;obtain⟨EC,oj,ah,mP⟩:=mem_ready.1 hj;refine⟨hg,oi,oj,cv,ah,Region.free_spec cv hf j oj ah (Ne.symm NV) EC λe he hb hon=>?_⟩;have h3:=mP e he hb;have h4:=(mem_ready.1 po).1;rw[hon] at h3;rw[VW h4] at h3;cases h3
   ·exact h2 x hx
  ·rw[if_neg hg,pR] at hi;rw[hi] at hj;exact absurd (wD.1 hj).symm NV
def zgv{d:Option Tmp}(h:xOf Xp (.panic c) (a.put d v) w):xOf Xp (.panic c) a w:=by
 cases d <;> exact h
def JU{d:Option Tmp}{r:Result Next}(mu:∀x,d=some x->o.dst≠some x)(h:∀(a':Act) w',(∃(c:Act) (u:Value),c.tmps=a.tmps/\a'=c.put o.dst u)->next (a'.put d v) w'->next' a' w')(hh:o.upon P (a.put d v) next (xOf Xp) r):o.upon P a next' (xOf Xp) r:=by
 have e:∀(b:Act) u,((b.put d v).put o.dst u)=(b.put o.dst u).put d v:=λb u=>Act.put_comm b v u mu
 cases r with
 |ok n w=>
  cases n <;> simp only[Oper.upon] at hh ⊢
  case value u=>exact h _ _ ⟨a,u,rfl,rfl⟩ (by rw[<-e];exact hh)
  case skip=>exact h _ _ ⟨a,undef,rfl,rfl⟩ (by rw[<-e];exact hh)
  case defer dd=>
   refine h _ _ ⟨{a with defers:=dd :: a.defers},undef,rfl,rfl⟩ ?_;have e2:({a with defers:=dd :: a.defers}.put o.dst undef).put d v=({a.put d v with defers:=dd :: (a.put d v).defers}:Act).put o.dst undef:=by
    rw[<-e];cases d <;> rfl
   rw[e2];exact hh
  case enter f args=>
   refine hh.mono λe1 w1 h1=>?_
   cases e1 with
   |returned u=>exact h _ _ ⟨a,u,rfl,rfl⟩ (by rw[<-e];exact h1)
   |panicked c=>exact zgv h1
   |outgrown=>exact h1
  case row row args=>exact hh.mono λu w1 h1=>h _ _ ⟨a,u,rfl,rfl⟩ (by rw[<-e];exact h1)
 |halt x w=>
  cases x <;> simp only[Oper.upon] at hh ⊢
  all_goals exact zgv hh
def YG(RR:Rel)(P:Program)(ops:Array Oper)(b:World)(o:Oper)(v:Value)(a:Act):Prop:=
 (Region.wanted o (yielded ops a.tmps)=true/\∀w,RR.rel b w->o.quietAt P a (RR.zR w) w v)\/(Region.wanted o (yielded ops a.tmps)=false/\v=undef)
def YW(P:Program)(ops:Array Oper)(o:Oper)(v:Value)(a:Act):Prop:=
 (Region.wanted o (yielded ops a.tmps)=true/\∀w,Jp P w v ((execOp a.eval o).run P w))\/(Region.wanted o (yielded ops a.tmps)=false/\v=undef)
def YG.grown{b b':World}(h:YG RR P ops b o v a)(hb:RR.rel b b'):YG RR P ops b' o v a:=by
 rcases h with⟨h1,h2⟩|h
 ·exact .inl ⟨h1,λw hw=>h2 w (RR.trans hb hw)⟩
 ·exact .inr h
def YG.same{b:World}(h:YG RR P ops b o v a)(he:execOp a'.eval o=execOp a.eval o)(hw:Region.wanted o (yielded ops a'.tmps)=Region.wanted o (yielded ops a.tmps)):YG RR P ops b o v a':=by
 unfold YG Oper.quietAt at *;rw[he,hw];exact h
def YW.same(h:YW P ops o v a)(he:execOp a'.eval o=execOp a.eval o)(hw:Region.wanted o (yielded ops a'.tmps)=Region.wanted o (yielded ops a.tmps)):YW P ops o v a':=by
 unfold YW at *;rw[he,hw];exact h
def kW{next:Act->Prop}(hi:ops[i]? =some oi)(hy:YW P ops oi v a)(h:next (a.put oi.dst v)):Qz P ops i next a:=by
 simp only[Qz,hi];rcases hy with⟨hw,hv⟩|⟨hw,rfl⟩
 ·rw[if_pos hw];exact⟨v,hv,h⟩
 ·rw[if_neg (by simp[hw])];exact h
def QO{next:Act->Prop}(hi:ops[i]? =some oi)(h:Qz P ops i next a):∃v,YW P ops oi v a/\next (a.put oi.dst v):=by
 simp only[Qz,hi] at h;by_cases hw:Region.wanted oi (yielded ops a.tmps)=true
 ·rw[if_pos hw] at h;obtain⟨v,h1,h2⟩:=h;exact⟨v,.inl ⟨hw,h1⟩,h2⟩
 ·rw[if_neg hw] at h;exact⟨undef,.inr ⟨by simpa using hw,rfl⟩,h⟩
def QA{b:World}(hi:ops[i]? =some oi)(hy:YG RR P ops b oi v a)(h:K b (a.put oi.dst v)):Zr RR Xp P ops 1 i b K KE a:=by
 simp only[Zr,hi];rcases hy with⟨hw,hv⟩|⟨hw,rfl⟩
 ·rw[if_pos hw];exact⟨v,hv,h⟩
 ·rw[if_neg (by simp[hw])];exact h
def zdV{b:World}(hi:ops[i]? =some oi)(h:Zr RR Xp P ops 1 i b K KE a):∃v,YG RR P ops b oi v a/\K b (a.put oi.dst v):=by
 simp only[Zr,hi] at h;by_cases hw:Region.wanted oi (yielded ops a.tmps)=true
 ·rw[if_pos hw] at h;obtain⟨v,h1,h2⟩:=h;exact⟨v,.inl ⟨hw,h1⟩,h2⟩
 ·rw[if_neg hw] at h;exact⟨undef,.inr ⟨by simpa using hw,rfl⟩,h⟩
structure zmU(ops:Array Oper)(oi oj:Oper):Prop where
 ei:∀(c:Act) u,execOp (c.put oj.dst u).eval oi=execOp c.eval oi
 wi:∀(c:Act) u,Region.wanted oi (yielded ops (c.put oj.dst u).tmps)=Region.wanted oi (yielded ops c.tmps)
 ej:∀(c:Act) u,execOp (c.put oi.dst u).eval oj=execOp c.eval oj
 wj:∀(c:Act) u,Region.wanted oj (yielded ops (c.put oi.dst u).tmps)=Region.wanted oj (yielded ops c.tmps)
 hd:∀d,oi.dst=some d->oj.dst≠some d
def zew(hs:Region.noSelect ops=true)(cv:ops[i]? =some oi)(ah:ops[j]? =some oj)(To:oi.apart ops oj=true):zmU ops oi oj:=by
 obtain⟨h1,h2,h3⟩:=Oper.apart_spec To;have si:∀cs bb,oi.op≠.select cs bb:=λcs bb=>Region.noSelect_spec hs i oi cs bb cv
 have sj:∀cs bb,oj.op≠.select cs bb:=λcs bb=>Region.noSelect_spec hs j oj cs bb ah
 exact⟨λc u=>execOp_put oi si c oj.dst u h3,λc u=>wanted_put oi c oj.dst u h3,λc u=>execOp_put oj sj c oi.dst u h1,λc u=>wanted_put oj c oi.dst u h1,h2⟩
def JV(ah:ops[j]? =some oj)(A:zmU ops oi oj)(h:∀(a':Act) w',(∃(c:Act) (u:Value),c.tmps=a.tmps/\a'=c.put oj.dst u)->next (a'.put oi.dst v) w'->next' a' w')(hh:XJ Xp P ops j next (a.put oi.dst v) w):XJ Xp P ops j next' a w:=by
 simp only[XJ,ah] at hh ⊢;rw[A.wj] at hh;by_cases hw:Region.wanted oj (yielded ops a.tmps)=true
 ·rw[if_pos hw] at hh ⊢;unfold Oper.wp at *;rw[A.ej] at hh;exact JU A.hd h hh
 ·rw[if_neg hw] at hh ⊢;exact h _ _ ⟨a,undef,rfl,rfl⟩ (by rw[<-Act.put_comm a v undef A.hd];exact hh)
theorem JS(hs:Region.noSelect ops=true){Q:Act->World->Prop}{j f:Nat}{l2:List (Nat×Nat)}:
 ∀(l1:List (Nat×Nat)) (a:Act) (w:World),(∀x,x∈l1->x.2=0/\∃oi oj,ops[x.1]? =some oi/\ops[j]? =some oj/\oi.apart ops oj=true)->Qw Xp P ops Q (l1 ++ (j,f) :: l2) a w->
  (match f with|0=>Qz P ops j (λa'=>Qw Xp P ops Q (l1 ++ l2) a' w) a|_+1=>XJ Xp P ops j (Qw Xp P ops Q (l1 ++ l2)) a w)
 |[],a,w,_,h=>by cases f <;> exact h
 |(i,g) :: l1,a,w,hx,h=>by
  obtain⟨hg,oi,oj,cv,ah,To⟩:=hx (i,g) (by simp);simp only at hg;subst hg;have A:=zew hs cv ah To;simp only[pQ,Qw] at h;obtain⟨v,hy,h'⟩:=QO cv h;have ih:=JS hs l1 (a.put oi.dst v) w (λx aU=>hx x (by simp[aU])) h';cases f with
  |zero=>
   simp only at ih ⊢;obtain⟨u,hu,hn⟩:=QO ah ih;refine kW ah (hu.same (A.ej a v).symm (A.wj a v).symm) ?_;simp only[pQ,Qw];exact kW cv (hy.same (A.ei a u) (A.wi a u)) (by rw[<-Act.put_comm a v u A.hd];exact hn)
  |succ f=>
   simp only at ih ⊢;refine JV ah A (λa' w' hb hc=>?_) ih;obtain⟨c,u,rT,eu⟩:=hb;subst eu;simp only[pQ,Qw];refine kW cv (hy.same ?_ ?_) hc
   ·rw[A.ei c u];cases c;cases a;simp only at rT;subst rT;rfl
   ·rw[A.wi c u,rT]
theorem JR(hs:Region.noSelect ops=true){Q:Act->World->Prop}{j f:Nat}{l2:List (Nat×Nat)}{b:World}:
 ∀(l1:List (Nat×Nat)) (a:Act),(∀x,x∈l1->(x.2<=1/\(3<=f->x.2=0))/\∃oi oj,ops[x.1]? =some oi/\ops[j]? =some oj/\oi.apart ops oj=true)->kR RR Xp P ops Q (l1 ++ (j,f) :: l2) b a->
  Zr RR Xp P ops f j b (kR RR Xp P ops Q (l1 ++ l2)) (Qw Xp P ops Q (l1 ++ l2)) a
 |[],a,_,h=>h
 |(i,g) :: l1,a,hx,h=>by
  obtain⟨⟨hg,BW⟩,oi,oj,cv,ah,To⟩:=hx (i,g) (by simp);simp only at hg BW;have A:=zew hs cv ah To;have key:∃v,YG RR P ops b oi v a/\(g=0->YW P ops oi v a)/\kR RR Xp P ops Q (l1 ++ (j,f) :: l2) b (a.put oi.dst v):=by
   simp only[pQ,kR] at h
   match g,hg with
   |0,_=>
    obtain⟨v,hy,h'⟩:=QO cv h;refine⟨v,?_,λ_=>hy,h'⟩;rcases hy with⟨h1,h2⟩|h1
    ·refine .inl ⟨h1,λw _=>?_⟩;have:=h2 w;unfold Oper.quietAt;generalize (execOp a.eval oi).run P w=r at *;cases r with
     |ok n w'=>
      cases n <;> simp only[Jp] at this <;> simp only[Oper.quietUpon]
      case value u=>exact this
      case skip=>exact this
      case enter gg args=>exact⟨this.1,this.2.mono λe w'' ⟨he,FL⟩=>⟨he,by subst FL;exact RR.srefl _⟩⟩
     |halt x w'=>simp only[Jp] at this
    ·exact .inr h1
   |1,_=>
    obtain⟨v,hy,h'⟩:=zdV cv h;exact⟨v,hy,λh=>(by cases h),h'⟩
  obtain⟨v,hy,cw,h'⟩:=key;have back:∀(b':World) (a':Act),YG RR P ops b' oi v a'->(g=0->YW P ops oi v a')->kR RR Xp P ops Q (l1 ++ l2) b' (a'.put oi.dst v)->kR RR Xp P ops Q ((i,g) :: l1 ++ l2) b' a':=by
   intro b' a' h1 h2 h3;simp only[pQ,kR]
   match g,hg,h2 with
   |0,_,h2=>exact kW cv (h2 rfl) h3
   |1,_,_=>exact QA cv h1 h3
  have ih:=JR hs l1 (a.put oi.dst v) (λx aU=>hx x (by simp[aU])) h'
  match f,BW,ih with
  |0,_,ih=>
   obtain⟨u,hu,hn⟩:=QO ah ih;exact kW ah (hu.same (A.ej a v).symm (A.wj a v).symm) (back b _ (hy.same (A.ei a u) (A.wi a u)) (λh0=>(cw h0).same (A.ei a u) (A.wi a u)) (by rw[<-Act.put_comm a v u A.hd];exact hn))
  |1,_,ih=>
   obtain⟨u,hu,hn⟩:=zdV ah ih;exact QA ah (hu.same (A.ej a v).symm (A.wj a v).symm) (back b _ (hy.same (A.ei a u) (A.wi a u)) (λh0=>(cw h0).same (A.ei a u) (A.wi a u)) (by rw[<-Act.put_comm a v u A.hd];exact hn))
  |2,_,ih=>
   simp only[Zr,ah] at ih ⊢;rw[A.wj] at ih;by_cases hw:Region.wanted oj (yielded ops a.tmps)=true
   ·rw[if_pos hw] at ih ⊢;intro w Ra;have:=ih w Ra;unfold Oper.wp at *;rw[A.ej] at this;refine JU A.hd (λa' w' hb hc=>?_) this;obtain⟨c,u,rT,eu⟩:=hb;subst eu;have e1:execOp (c.put oj.dst u).eval oi=execOp a.eval oi:=by rw[A.ei c u];cases c;cases a;simp only at rT;subst rT;rfl
    have e2:Region.wanted oi (yielded ops (c.put oj.dst u).tmps)=Region.wanted oi (yielded ops a.tmps):=by rw[A.wi c u,rT]
    exact⟨hc.1,back _ _ ((hy.grown (RR.trans (RR.Zn Ra) hc.1)).same e1 e2) (λh0=>(cw h0).same e1 e2) hc.2⟩
   ·rw[if_neg hw] at ih ⊢;exact back b _ (hy.same (A.ei a undef) (A.wi a undef)) (λh0=>(cw h0).same (A.ei a undef) (A.wi a undef)) (by rw[<-Act.put_comm a v undef A.hd];exact ih)
  |f+3,BW,ih=>
   have g0:g=0:=BW (by omega);subst g0;simp only[Zr] at ih ⊢;intro w Ra;refine JV ah A (λa' w' hb hc=>?_) (ih w Ra);obtain⟨c,u,rT,eu⟩:=hb;subst eu;simp only[pQ,Qw];refine kW cv ((cw rfl).same ?_ ?_) hc
   ·rw[A.ei c u];cases c;cases a;simp only at rT;subst rT;rfl
   ·rw[A.wi c u,rT]
structure Inv(md:Region.Mode)(ops:Array Oper)(ord:List (Nat×Nat))(listed:Array Bool):Prop where
 ok:XN md ops ord listed=true
 nd:(ord.map Prod.fst).Nodup
 un:∀x,x∈ord->listed.getD x.1 true=false
 cov:∀i,i<ops.size->listed.getD i true=false->∃f,(i,f)∈ord
 cl:JQ md ops listed
 sk:∀x,x∈ord->x.2=1->∀t,t∈ord->3<=t.2->YI md ops 12 t.1 x.1=true
 late:Qk ord=true
def zaM(listed:Array Bool)(j:Nat):(listed.setIfInBounds j true).getD j true=true:=by
 rcases Nat.lt_or_ge j listed.size with h'|h'
 ·simp[h']
 ·simp[h']
theorem zbm{x:Nat×Nat}{l2:List (Nat×Nat)}:∀(l1:List (Nat×Nat)),Qk (l1 ++ x :: l2)=true->Qk (l1 ++ l2)=true/\(3<=x.2->∀y,y∈l2->y.2=0\/3<=y.2)
 |[],h=>by
  simp only[pV,Qk,pJ] at h ⊢;refine⟨h.2,λh3 y hy=>?_⟩;have h1:=h.1;simp only[wG,pK,pY,pR] at h1;rcases h1 with h1|h1
  ·omega
  ·exact h1 y hy
 |y :: l1,h=>by
  simp only[pQ,Qk,pJ] at h ⊢;obtain⟨ha,hb⟩:=zbm l1 h.2;refine⟨⟨?_,ha⟩,hb⟩;have h1:=h.1;simp only[wG,pK,pY] at h1 ⊢;rcases h1 with h1|h1
  ·exact .inl h1
  ·refine .inr λz hz=>h1 z ?_
   rcases pW.1 hz with hz|hz
   ·exact pW.2 (.inl hz)
   ·exact pW.2 (.inr (wJ _ hz))
def Inv.split(I:Inv md ops ord listed)(hj:j∈Region.ready md ops listed):
 ∃l1 f l2,ord=l1 ++ (j,f) :: l2/\Inv md ops (l1 ++ l2) (listed.setIfInBounds j true)/\(∀x,x∈l1->(x.2<=1/\(3<=f->x.2=0))/\∃oi oj,ops[x.1]? =some oi/\ops[j]? =some oj/\oi.apart ops oj=true)/\(3<=f->∀y,y∈l1 ++ l2->y.2=0\/3<=y.2)/\(l1 ++ l2).length+1=ord.length:=by
 obtain⟨EC,o,ho,mP⟩:=mem_ready.1 hj;have mD:j<ops.size:=(gtA ho);obtain⟨f,hf⟩:=I.cov j mD EC;obtain⟨l1,l2,rfl⟩:=List.append_of_mem hf;have nd:=I.nd;rw[List.map_append,List.map_cons,List.nodup_append] at nd;obtain⟨nd1,Fs,OO⟩:=nd;rw[List.nodup_cons] at Fs;have rP:∀x,x∈l1->x.1≠j:=λx hx=>OO _ (List.mem_map_of_mem hx) _ (by simp)
 have rX:∀x,x∈l2->x.1≠j:=λx hx e=>Fs.1 (by rw[<-e];exact List.mem_map.2 ⟨x,hx,rfl⟩)
 have mu:∀x,x∈l1 ++ l2->x.1≠j:=λx hx=>(pW.1 hx).elim (rP x) (rX x)
 have sub:∀x,x∈l1 ++ l2->x∈l1 ++ (j,f) :: l2:=λx hx=>by
  rcases pW.1 hx with hx|hx
  ·exact pW.2 (.inl hx)
  ·exact pW.2 (.inr (wJ _ hx))
 obtain⟨m1,m2⟩:=Km l1 listed I.ok hj rP;obtain⟨d1,d2⟩:=zbm l1 I.late;have h0:3<=f->∀x,x∈l1->x.2=0:=λh3 x hx=>by
  have h1:=(m2 x hx).1;rcases Nat.lt_or_ge x.2 1 with h2|h2
  ·omega
  ·exact (Jn I.cl (I.sk x (sub x (pW.2 (.inl hx))) (by omega) (j,f) hf h3) (I.un x (sub x (pW.2 (.inl hx)))) hj).elim
 refine⟨l1,f,l2,rfl,⟨m1,?_,?_,?_,I.cl.set hj,?_,d1⟩,λx hx=>⟨⟨(m2 x hx).1,λh3=>h0 h3 x hx⟩,(m2 x hx).2⟩,?_,by simp;omega⟩
 ·rw[List.map_append,List.nodup_append];exact⟨nd1,Fs.2,λa ha b hb=>OO a ha b (wJ _ hb)⟩
 ·exact λx hx=>by rw[getD_set_ne true (Ne.symm (mu x hx))];exact I.un x (sub x hx)
 ·intro i hi hu;have NV:j≠i:=λe=>by subst e;rw[zaM] at hu;cases hu
  rw[getD_set_ne true NV] at hu;obtain⟨g,hg⟩:=I.cov i hi hu;refine⟨g,?_⟩;rcases pW.1 hg with hg|hg
  ·exact pW.2 (.inl hg)
  ·rcases wI.1 hg with hg|hg
   ·exact absurd (congrArg Prod.fst hg).symm NV
   ·exact pW.2 (.inr hg)
 ·exact λx hx h1 t ht h3=>I.sk x (sub x hx) h1 t (sub t ht) h3
 ·intro h3 y hy;rcases pW.1 hy with hy|hy
  ·exact .inl (h0 h3 y hy)
  ·exact d2 h3 y hy
def XT(Xp:List PanicEntry->World->Prop)(Q:Act->World->Prop):Exit->Act->World->Prop:=λe a w=>match e with
 | .normal=>Q a w
 | .panic c=>a.defers=[]/\Xp c w
 |_=>False
def zaV{r:Result Next}(h:∀a w,next a w->next' a w)(hh:o.upon P a next (xOf Xp) r):o.upon P a next' (XT Xp Q) r:=by
 cases r with
 |ok n w=>
  cases n <;> simp only[Oper.upon] at hh ⊢
  case value u=>exact h _ _ hh
  case skip=>exact h _ _ hh
  case defer dd=>exact h _ _ hh
  case enter f args=>
   refine hh.mono λe1 w1 h1=>?_
   cases e1 with
   |returned u=>exact h _ _ h1
   |panicked c=>exact h1
   |outgrown=>obtain⟨_,_,h2⟩:=h1;exact h2.elim
  case row row args=>exact hh.mono λu w1 h1=>h _ _ h1
 |halt x w=>
  cases x <;> simp only[Oper.upon] at hh ⊢
  all_goals exact hh
def XG(h:∀a w,next a w->next' a w)(hh:XJ Xp P ops i next a w):wpOp P ops (XT Xp Q) i next' a w:=by
 unfold XJ at hh;unfold wpOp;cases ho:ops[i]? with
 |none=>rw[ho] at hh;exact h _ _ hh
 |some o=>
  rw[ho] at hh;simp only at hh ⊢;by_cases hw:Region.wanted o (yielded ops a.tmps)=true
  ·rw[if_pos hw] at hh ⊢;exact .inl (zaV h hh)
  ·rw[if_neg hw] at hh ⊢;exact h _ _ hh
def XH{next:Act->Prop}(h:∀a,next a->next' a w)(hh:Qz P ops i next a):wpOp P ops (XT Xp Q) i next' a w:=by
 unfold Qz at hh;unfold wpOp;cases ho:ops[i]? with
 |none=>rw[ho] at hh;exact h _ hh
 |some o=>
  rw[ho] at hh;simp only at hh ⊢;by_cases hw:Region.wanted o (yielded ops a.tmps)=true
  ·rw[if_pos hw] at hh ⊢;obtain⟨v,h1,h2⟩:=hh;refine .inl ?_;have h1:=h1 w;unfold Oper.wp;generalize (execOp a.eval o).run P w=r at *;cases r with
   |ok n w'=>
    cases n <;> simp only[Jp] at h1 <;> simp only[Oper.upon]
    case value u=>obtain⟨e1,e2⟩:=h1;subst e1;subst e2;exact h _ h2
    case skip=>obtain⟨e1,e2⟩:=h1;subst e1;subst e2;exact h _ h2
    case enter g args=>obtain⟨e1,e2⟩:=h1;subst e1;exact e2.mono λe w'' ⟨e1,e2⟩=>by subst e1;subst e2;exact h _ h2
   |halt x w'=>simp only[Jp] at h1
  ·rw[if_neg hw] at hh ⊢;exact h _ hh
def zaz{b:World}(hb:RR.zR b w)(h:∀a w,RR.zR b w->K b a->next' a w)(hh:Zr RR Xp P ops 1 i b K KE a):wpOp P ops (XT Xp Q) i next' a w:=by
 unfold Zr at hh;unfold wpOp;cases ho:ops[i]? with
 |none=>rw[ho] at hh;exact h _ _ hb hh
 |some o=>
  rw[ho] at hh;simp only at hh ⊢;by_cases hw:Region.wanted o (yielded ops a.tmps)=true
  ·rw[if_pos hw] at hh ⊢;obtain⟨v,h1,h2⟩:=hh;refine .inl ?_;have h1:=h1 w (RR.Zn hb);unfold Oper.quietAt at h1;unfold Oper.wp;generalize (execOp a.eval o).run P w=r at *;cases r with
   |ok n w'=>
    cases n <;> simp only[Oper.quietUpon] at h1 <;> simp only[Oper.upon]
    case value u=>obtain⟨e1,e2⟩:=h1;subst e1;subst e2;exact h _ _ hb h2
    case skip=>obtain⟨e1,e2⟩:=h1;subst e1;subst e2;exact h _ _ hb h2
    case enter g args=>obtain⟨e0,h1⟩:=h1;subst e0;exact h1.mono λe w'' ⟨e1,e2⟩=>by subst e1;exact h _ _ (RR.strans hb e2) h2
   |halt x w'=>simp only[Oper.quietUpon] at h1
  ·rw[if_neg hw] at hh ⊢;exact h _ _ hb hh
def zay{b:World}(hb:RR.zR b w)(h:∀a w',RR.rel b w'->(∃b',RR.zR b' w'/\K b' a)->next' a w')(hh:Zr RR Xp P ops 2 i b K KE a):wpOp P ops (XT Xp Q) i next' a w:=by
 unfold Zr at hh;unfold wpOp;cases ho:ops[i]? with
 |none=>rw[ho] at hh;exact h _ _ (RR.Zn hb) ⟨b,hb,hh⟩
 |some o=>
  rw[ho] at hh;simp only at hh ⊢;by_cases hw:Region.wanted o (yielded ops a.tmps)=true
  ·rw[if_pos hw] at hh ⊢;exact .inl (zaV (λa w' h1=>h _ _ (RR.trans (RR.Zn hb) h1.1) ⟨w',RR.srefl _,h1.2⟩) (hh w hb))
  ·rw[if_neg hw] at hh ⊢;exact h _ _ (RR.Zn hb) ⟨b,hb,hh⟩
def Inv.head(I:Inv md ops (x :: ord) listed):Region.ready md ops listed≠[]:=by
 have h:=I.ok;obtain⟨i,f⟩:=x;simp only[XN,pJ] at h;intro e;have h1:=h.1;rw[e] at h1;by_cases hf:f<=1
 ·rw[if_pos hf] at h1;simp at h1
 ·rw[if_neg hf] at h1;simp at h1
theorem zbH(hs:Region.noSelect ops=true){Q:Act->World->Prop}:∀(n:Nat) (ord:List (Nat×Nat)) (listed:Array Bool) (fuel:Nat) (a:Act) (w:World),ord.length=n->n<=fuel->Inv md ops ord listed->(∀y,y∈ord->y.2=0\/3<=y.2)->
 Qw Xp P ops Q ord a w->wpAny P md ops (XT Xp Q) fuel listed a w
 |0,ord,listed,fuel,a,w,hn,_,I,_,h=>by
  cases pT hn;have hr:Region.ready md ops listed=[]:=by simpa[XN] using I.ok
  cases fuel with
  |zero=>exact⟨hr,h⟩
  |succ k=>exact⟨λ_=>h,λi hi=>by rw[hr] at hi;cases hi⟩
 |n+1,ord,listed,fuel,a,w,hn,hf,I,hl,h=>by
  obtain⟨k,rfl⟩:∃k,fuel=k+1:=⟨fuel-1,by omega⟩;obtain⟨x,r,rfl⟩:∃x r,ord=x :: r:=by cases ord with|nil=>simp at hn|cons x r=>exact⟨x,r,rfl⟩
  refine⟨λe=>absurd e I.head,λi hi=>?_⟩;obtain⟨l1,f,l2,e,I',hx,_,mV⟩:=I.split hi;rw[e] at h hl;have IE:∀y,y∈l1 ++ l2->y.2=0\/3<=y.2:=λy hy=>hl y (by
   rcases pW.1 hy with hy|hy
   ·exact pW.2 (.inl hy)
   ·exact pW.2 (.inr (wJ _ hy)))
  have ih:=λa' w'=>zbH hs (Q:=Q) n (l1 ++ l2) (listed.setIfInBounds i true) k a' w' (by omega) (by omega) I' IE
  have aU:∀x,x∈l1->x.2=0/\∃oi oj,ops[x.1]? =some oi/\ops[i]? =some oj/\oi.apart ops oj=true:=λx Hj=>⟨by have:=(hx x Hj).1.1;have:=IE x (pW.2 (.inl Hj));omega,(hx x Hj).2⟩
  have st:=JS hs l1 a w aU h;cases f with
  |zero=>exact XH (λa' h'=>ih a' w h') st
  |succ f=>exact XG ih st
theorem zcP(hs:Region.noSelect ops=true){Q:Act->World->Prop}:∀(n:Nat) (ord:List (Nat×Nat)) (listed:Array Bool) (fuel:Nat) (b:World) (a:Act) (w:World),ord.length=n->n<=fuel->Inv md ops ord listed->RR.zR b w->
 kR RR Xp P ops Q ord b a->wpAny P md ops (XT Xp Q) fuel listed a w
 |0,ord,listed,fuel,b,a,w,hn,_,I,hb,h=>by
  cases pT hn;have hr:Region.ready md ops listed=[]:=by simpa[XN] using I.ok
  cases fuel with
  |zero=>exact⟨hr,h w hb⟩
  |succ k=>exact⟨λ_=>h w hb,λi hi=>by rw[hr] at hi;cases hi⟩
 |n+1,ord,listed,fuel,b,a,w,hn,hf,I,hb,h=>by
  obtain⟨k,rfl⟩:∃k,fuel=k+1:=⟨fuel-1,by omega⟩;obtain⟨x,r,rfl⟩:∃x r,ord=x :: r:=by cases ord with|nil=>simp at hn|cons x r=>exact⟨x,r,rfl⟩
  refine⟨λe=>absurd e I.head,λi hi=>?_⟩;obtain⟨l1,f,l2,e,I',hx,fh,mV⟩:=I.split hi;rw[e] at h;have ih:=λb' a' w'=>zcP hs (Q:=Q) n (l1 ++ l2) (listed.setIfInBounds i true) k b' a' w' (by omega) (by omega) I'
  have st:=JR hs l1 a hx h
  match f,st,fh with
  |0,st,_=>exact XH (λa' h'=>ih b a' w hb h') st
  |1,st,_=>exact zaz hb (λa' w' Ra h'=>ih b a' w' Ra h') st
  |2,st,_=>exact zay hb (λa' w' Ra ⟨b',h1,h2⟩=>ih b' a' w' h1 h2) st
  |f+3,st,fh=>
   exact XG (λa' w' h'=>zbH hs n (l1 ++ l2) (listed.setIfInBounds i true) k a' w' (by omega) (by omega) I' (fh (by omega)) h') (st w hb)
def kJ(ops:Array Oper)(ord:List (Nat×Nat)):Bool:=
 Region.noSelect ops && XN .any ops ord (Array.replicate ops.size false) && zmz ops ord && decide ((ord.map Prod.fst).Nodup) && (ord.all λx=>decide (x.1<ops.size)) && zjp .any ops ord && Qk ord && decide (ord.length<=ops.size)
def XO(h:kJ ops ord=true):Region.noSelect ops=true/\Inv .any ops ord (Array.replicate ops.size false)/\ord.length<=ops.size:=by
 simp only[kJ,pJ,pK,pY] at h;obtain⟨⟨⟨⟨⟨⟨⟨h1,h2⟩,h3⟩,h4⟩,h5⟩,h6⟩,h7⟩,h8⟩:=h;refine⟨h1,⟨h2,h4,λx hx=>?_,λi hi _=>?_,λk o ho hk=>?_,λx hx Hj t ht gU=>?_,h7⟩,?_⟩
 ·simp[h5 x hx]
 ·simp only[zmz,pY,List.mem_range,gF,pR] at h3;obtain⟨x,hx,e⟩:=h3 i hi;exact⟨x.2,by rw[<-e];exact hx⟩
 ·exfalso;rcases Nat.lt_or_ge k ops.size with h'|h'
  ·simp[h'] at hk
  ·simp[Array.getElem?_eq_none h'] at ho
 ·simp only[zjp,pY,wG,pK] at h6;rcases h6 x hx with hz|hz
  ·simp[Hj] at hz
  ·rcases hz t ht with h9|h9
   ·omega
   ·exact h9
 ·exact h8
def jp{Q:Exit->Act->World->Prop}(ord:List (Nat×Nat))(hm:P.follows .mixedOrders=true)(hc:kJ l.toArray ord=true)(hX:∀c a w,a.defers=[]->Xp c w->Q (.panic c) a w)(h:kR RR Xp P l.toArray (Q .normal) ord w.drew a):(Code.region id l.toArray true).wp P Q a w:=by
 obtain⟨h1,h2,h3⟩:=XO hc;refine Code.wp_mono (λe a w q=>?_) (wp_region_any (Q:=XT Xp (Q .normal)) hm (zcP h1 _ ord _ _ w.drew a _ rfl h3 h2 (RR.srefl _) h));cases e <;> first|exact q|exact hX _ _ _ q.1 q.2|exact q.elim
def xC{Q:Exit->Act->World->Prop}(ord:List (Nat×Nat))(h:kR RR Xp P l.toArray (Q .normal) ord w.drew a)(hm:P.follows .mixedOrders=true:=by kernel_rfl)(hc:kJ l.toArray ord=true:=by kernel_rfl)(hX:∀c a w,a.defers=[]->Xp c w->Q (.panic c) a w:=by first|(rintro c a W hd ⟨p,rfl,rfl,hb⟩;go_wp2_with fail;exact⟨hd,rfl,hb⟩)|(rintro c a V hd h;exact h.elim)):(Code.region id l.toArray true).wp P Q a w:=jp ord hm hc hX h
end
end
section
open Go Go.RowKit Go.Sort
section
variable {RR:Rel} {Xp:List PanicEntry→World→Prop} {P:Program} {l:List Oper} {Q:Act→World→Prop} {r:List (Nat×Nat)} {b w:World} {a:Act}
def ZP(po:l[i]? =some o)(hw:Region.wanted o (yielded l.toArray a.tmps)=false)(hf:Nat.ble f 2=true)(h:kR RR Xp P l.toArray Q r b (a.put o.dst undef)):kR RR Xp P l.toArray Q ((i,f) :: r) b a:=by
 have hi:l.toArray[i]? =some o:=by rw[pS];exact po
 unfold kR
 match f,Nat.le_of_ble_eq_true hf with
 |0,_=>exact kW hi (.inr ⟨hw,rfl⟩) h
 |1,_=>exact QA hi (.inr ⟨hw,rfl⟩) h
 |2,_=>simp only[Zr,hi,hw];exact h
def ZO(po:l[i]? =some o)(hw:Region.wanted o (yielded l.toArray a.tmps)=true)(hy:∀w,(execOp a.eval o).run P w=.ok (.value v) w)(h:kR RR Xp P l.toArray Q r b (a.put o.dst v)):kR RR Xp P l.toArray Q ((i,0) :: r) b a:=by
 have hi:l.toArray[i]? =some o:=by rw[pS];exact po
 unfold kR;exact kW hi (.inl ⟨hw,λw=>by rw[hy w];exact⟨rfl,rfl⟩⟩) h
def ZQ(hS:∀w,RR.rel b w->S w)(po:l[i]? =some o)(hw:Region.wanted o (yielded l.toArray a.tmps)=true)(hy:∀w,S w->(execOp a.eval o).run P w=.ok (.value v) w)(h:kR RR Xp P l.toArray Q r b (a.put o.dst v)):kR RR Xp P l.toArray Q ((i,1) :: r) b a:=by
 have hi:l.toArray[i]? =some o:=by rw[pS];exact po
 unfold kR;refine QA hi (.inl ⟨hw,λw hc=>?_⟩) h;unfold Oper.quietAt;rw[hy w (hS w hc)];exact⟨rfl,rfl⟩
def xt(h:kR RR Xp P l.toArray Q r' b a')(hh:kR RR Xp P l.toArray Q r' b a'->kR RR Xp P l.toArray Q r b a:=by
 intro hM
 repeat ((first|refine LodeX.ZP rfl rfl rfl ?_|(apply LodeX.ZO rfl rfl;intro _;(go_simp <;> first|rfl|rw[if_neg (by first|omega|(simp;omega))]|rw[if_pos (by omega)]))|(apply LodeX.ZQ hS rfl rfl;intro _ _;go_split_ands;(go_simp <;> rfl)));simp only[Act.put,yh,yf,yg])
 exact hM):kR RR Xp P l.toArray Q r b a:=hh h
def yH(po:l[i]? =some o)(hw:Region.wanted o (yielded l.toArray a.tmps)=true)(h:∀K:World->Act->Prop,(∀w' a',kR RR Xp P l.toArray Q r w' a'->K w' a')->∀w,RR.zR b w->o.wp P a w (λa' w'=>RR.rel w w'/\K w' a') (xOf Xp)):kR RR Xp P l.toArray Q ((i,2) :: r) b a:=by
 have hi:l.toArray[i]? =some o:=by rw[pS];exact po
 unfold kR;simp only[Zr,hi,hw];exact λw hc=>h _ (λ_ _ h=>h) w hc
def zF(h:∀w,RR.zR b w->Q a w):kR RR Xp P l.toArray Q [] b a:=h
def yG(po:l[i]? =some o)(hw:Region.wanted o (yielded l.toArray a.tmps)=true)(h:∀w,RR.zR b w->o.wp P a w (Qw Xp P l.toArray Q r) (xOf Xp)):kR RR Xp P l.toArray Q ((i,f+3) :: r) b a:=by
 have hi:l.toArray[i]? =some o:=by rw[pS];exact po
 unfold kR;intro w hc;simp only[XJ,hi,hw,if_true];exact h w hc
def KZ(po:l[i]? =some o)(hw:Region.wanted o (yielded l.toArray a.tmps)=true)(hy:∀w,(execOp a.eval o).run P w=.ok (.value v) w)(h:Qw Xp P l.toArray Q r (a.put o.dst v) w):Qw Xp P l.toArray Q ((i,0) :: r) a w:=by
 have hi:l.toArray[i]? =some o:=by rw[pS];exact po
 unfold Qw;exact kW (next:=λa'=>Qw Xp P l.toArray Q r a' w) hi (.inl ⟨hw,λw=>by rw[hy w];exact⟨rfl,rfl⟩⟩) h
def Va(po:l[i]? =some o)(hw:Region.wanted o (yielded l.toArray a.tmps)=true)(h:o.wp P a w (Qw Xp P l.toArray Q r) (xOf Xp)):Qw Xp P l.toArray Q ((i,f+1) :: r) a w:=by
 have hi:l.toArray[i]? =some o:=by rw[pS];exact po
 unfold Qw;simp only[XJ,hi,hw,if_true];exact h
def yL(h:Q a w):Qw Xp P l.toArray Q [] a w:=h
end
end
end LodeX
namespace Lode
section
open Go Go.RowKit Go.Sort
section
variable {P:Program} {l:List Oper} {Q:Act→World→Prop} {r:List (Nat×Nat)} {b w:World} {a:Act}
def zi0{K:Act->World->Prop}{Q:Exit->Act->World->Prop}(hh:o.wp P a w K (λ_ _ _=>False)):o.wp P a w K Q:=by
 unfold Oper.wp at *;generalize (execOp a.eval o).run P w=r at *;cases r with
 |ok n w'=>
  cases n <;> simp only[Oper.upon] at hh ⊢ <;>
   first
    |exact hh
    |exact Calls.mono hh (λe w'' he=>by cases e <;> first|exact he|(obtain⟨_,_,h⟩:=he;exact h.elim)|exact False.elim he)
    |exact hh.elim
 |halt x w'=>cases x <;> simp only[Oper.upon] at hh ⊢ <;> first|exact hh|exact hh.elim
def RC:LodeX.Rel:=⟨Cl,Cl.refl,Cl.trans,Cl,Cl.refl,Cl.trans,λh=>h⟩
abbrev NX:List PanicEntry->World->Prop:=λ_ _=>False
abbrev kR(P:Program)(ops:Array Oper)(Q:Act->World->Prop)(ord:List (Nat×Nat))(b:World)(a:Act):Prop:=LodeX.kR RC NX P ops Q ord b a
abbrev Qw(P:Program)(ops:Array Oper)(Q:Act->World->Prop)(ord:List (Nat×Nat))(a:Act)(w:World):Prop:=LodeX.Qw NX P ops Q ord a w
theorem jp{Q:Exit->Act->World->Prop}(ord:List (Nat×Nat))(hm:P.follows .mixedOrders=true)(hc:LodeX.kJ l.toArray ord=true)(h:kR P l.toArray (Q .normal) ord w.drew a):(Code.region id l.toArray true).wp P Q a w:=LodeX.jp (RR:=RC) (Xp:=NX) ord hm hc (λ_ _ _ _ h=>h.elim) h
def zb6{Q:Exit->Act->World->Prop}(ord:List (Nat×Nat))(h:kR P l.toArray (Q .normal) ord w.drew a)(hm:P.follows .mixedOrders=true:=by kernel_rfl)(hc:LodeX.kJ l.toArray ord=true:=by kernel_rfl):(Code.region id l.toArray true).wp P Q a w:=jp ord hm hc h
theorem ZP(po:l[i]? =some o)(hw:Region.wanted o (yielded l.toArray a.tmps)=false)(hf:Nat.ble f 2=true)(h:kR P l.toArray Q r b (a.put o.dst undef)):kR P l.toArray Q ((i,f) :: r) b a:=LodeX.ZP po hw hf h
theorem ZO(po:l[i]? =some o)(hw:Region.wanted o (yielded l.toArray a.tmps)=true)(hy:∀w,(execOp a.eval o).run P w=.ok (.value v) w)(h:kR P l.toArray Q r b (a.put o.dst v)):kR P l.toArray Q ((i,0) :: r) b a:=LodeX.ZO po hw hy h
theorem ZQ(hS:∀w,Cl b w->S w)(po:l[i]? =some o)(hw:Region.wanted o (yielded l.toArray a.tmps)=true)(hy:∀w,S w->(execOp a.eval o).run P w=.ok (.value v) w)(h:kR P l.toArray Q r b (a.put o.dst v)):kR P l.toArray Q ((i,1) :: r) b a:=LodeX.ZQ (RR:=RC) hS po hw hy h
def goM(h:kR P l.toArray Q r' b a')(hh:kR P l.toArray Q r' b a'->kR P l.toArray Q r b a:=by
 intro hM
 repeat ((first|refine ZP rfl rfl rfl ?_|(apply ZO rfl rfl;intro _;(go_simp <;> first|rfl|rw[if_neg (by first|omega|(simp;omega))]|rw[if_pos (by omega)]))|(apply ZQ hS rfl rfl;intro _ _;go_split_ands;(go_simp <;> rfl)));simp only[Act.put,yh,yf,yg])
 exact hM):kR P l.toArray Q r b a:=hh h
theorem yH(po:l[i]? =some o)(hw:Region.wanted o (yielded l.toArray a.tmps)=true)(h:∀K:World->Act->Prop,(∀w' a',kR P l.toArray Q r w' a'->K w' a')->∀w,Cl b w->o.wp P a w (λa' w'=>Cl w w'/\K w' a') (λ_ _ _=>False)):kR P l.toArray Q ((i,2) :: r) b a:=LodeX.yH (RR:=RC) po hw (λK hK w hw=>zi0 (h K hK w hw))
def zF(h:∀w,Cl b w->Q a w):kR P l.toArray Q [] b a:=h
def Cl.below(h:Cl w w'):Below w.heap.size w w':=ZL.1 h
theorem yG(po:l[i]? =some o)(hw:Region.wanted o (yielded l.toArray a.tmps)=true)(h:∀w,Cl b w->o.wp P a w (Qw P l.toArray Q r) (λ_ _ _=>False)):kR P l.toArray Q ((i,f+3) :: r) b a:=LodeX.yG (RR:=RC) po hw (λw hw=>zi0 (h w hw))
theorem KZ(po:l[i]? =some o)(hw:Region.wanted o (yielded l.toArray a.tmps)=true)(hy:∀w,(execOp a.eval o).run P w=.ok (.value v) w)(h:Qw P l.toArray Q r (a.put o.dst v) w):Qw P l.toArray Q ((i,0) :: r) a w:=LodeX.KZ po hw hy h
theorem Va(po:l[i]? =some o)(hw:Region.wanted o (yielded l.toArray a.tmps)=true)(h:o.wp P a w (Qw P l.toArray Q r) (λ_ _ _=>False)):Qw P l.toArray Q ((i,f+1) :: r) a w:=LodeX.Va po hw (zi0 h)
def yL(h:Q a w):Qw P l.toArray Q [] a w:=h
end
end
end Lode
namespace Go.Proofs.YtcagibbaeageoaaGreatDoor
section
open Go.RowKit
open Go.Proofs.Tryz
def AbR(R:Nat)(J:β->World->Prop):Prop:=∀s A B row,J s A->A.grownBy B row->(∀r,row=some r->r=R)->J s B
def zez(R B:Nat)(I:β->World->Prop):Prop:=∀s W W' row,I s W->W.grownBy W' row->(∀r,row=some r->r=R\/(B<=r/\∃o:Obj,W.heap[r]? =some o/\o.isCells=false))->I s W'
def zez.put{I:β->World->Prop}(h:zez R B I){s:β}{l:Nat}{o:Obj}(o':Obj)(hs:I s W)(hl:W.heap[l]? =some o)(ho:o.isCells=false)(hb:B<=l):I s (W.putObj l o'):=
 h s W _ (some l) hs (grownBy_putObj' W l o') (λr e=>by cases e;exact .inr ⟨hb,o,hl,ho⟩)
theorem zez.alloc{I:β->World->Prop}(h:zez R B I){s:β}(o:Obj)(hs:I s W):I s (W.alloc o):=
 h s W _ none hs (World.grownBy_alloc W o none) (λr e=>by cases e)
def zot(F:Fence)(n:Nat)(P:Program)(g:Nat)(la lb:Array Value)(enc:α->Value)(Kp:World->World->Prop)(G:List α->α->Prop)(R:Nat)(S Sp:List α->Prop)(w:World):Prop:=
 ∀(l:Nat) (J Jx:List α->World->Prop) (W:World),Below w.heap.size w W->AbR R J->AbR R Jx->
  (∀pre x W1,J pre W1->G pre x->YieldAt F (n-1) P l #[enc x] W1 λe W'=>
    (e=.returned (.bool true)/\J (pre ++ [x]) W'/\Kp W1 W')\/(e=.returned (.bool false)/\Jx (pre ++ [x]) W'))->
  J [] W->
  CallsIn F n P g (la ++ #[.func (.yield l) #[] #[]] ++ lb) W λe W'=>(∃v,e=.returned v)/\((∃xs,S xs/\J xs W')\/(∃pre,Sp pre/\Jx pre W'))
variable {F:Fence} {n:Nat} {P:Program}
def zbL{p0:Tmp}{assign:Code}{Q:Exit->Act->World->Prop}(RQ:F.round=none)(h1:1<=n)(hg:a.eval g=.func (.func gf) la lb)(PU:F.fn gf)(eg:∀args w,(callFunc gf args).run P w=.ok (.enter gf args) w){enc:α->Value}{G:List α->α->Prop}{S Sp:List α->Prop}(dc:zot F (n-1) P gf la lb enc Kp G R S Sp w)(hR:R<w.heap.size)(eM:∀{A B C:World},Kp A B->Kp B C->Kp A C)(gx:∀(W:World) (l:Nat) (o o':Obj),w.heap.size<=l->W.heap[l]? =some o->o.isCells=false->Kp W (W.putObj l o'))(I:List α->World->Prop)(Ix:Code->List α->World->Prop)(hI:zez R w.heap.size I)(aR:∀c,zez R w.heap.size (Ix c))(h0:I [] w)(Ax:List α->α->Act->World->Prop)(PP:∀pre x a' (W:World) (l:Nat) (o o':Obj),Ax pre x a' W->w.heap.size<=l->W.heap[l]? =some o->o.isCells=false->Ax pre x a' (W.putObj l o'))(rS:∀(l:Nat) (pre:List α) (x:α) (W:World) (K:Act->World->Prop),I pre W->G pre x->(∀a' W',KeepsOthers W W'->Kp W W'->Ax pre x a' W'->K a' W')->
   assign.wpIn (F.inRound l) (n-1-1) P (Exit.then K (λ_ _ _=>False)) {tmps:=a.tmps.setIfInBounds p0 (enc x),defers:=[]} W)(wu:∀(l:Nat) (pre:List α) (x:α) (a':Act) (W:World),Ax pre x a' W->G pre x->body.wpIn (F.inRound l) (n-1-1) P (ownPostK Kp I Ix (pre ++ [x]) W) a' W)(wx:∀(D:Nat) (xs:List α) (W:World),S xs->I xs W->w.heap.size<=D->W.heap[D]? =some (.deferred (some []))->Q .normal {a with defers:={target:=.collected D,args:= #[]} :: a.defers} W)(aM:∀(D:Nat) (c:Code) (pre:List α) (W:World),Sp pre->Ix c pre W->w.heap.size<=D->W.heap[D]? =some (.deferred (some []))->c.wpIn F n P Q {a with defers:={target:=.collected D,args:= #[]} :: a.defers} W):
 (Code.rangeFunc g #[p0] assign body).wpIn F n P Q a w:=by
 refine wpIn_rangeFunc ?_;intro fn fX;obtain⟨rec,nG⟩:∃rec:LoopState->Option Code->Loop,rec=λst pd=>{state:=st,pending:=pd,fn,tmps:=a.tmps,params:= #[p0],assign,body,defers:=w.heap.size}:=⟨_,rfl⟩
 obtain⟨W1,tU⟩:∃W1,W1=(w.alloc (.deferred (some []))).alloc (.loop (rec .ready none)):=⟨_,rfl⟩;have sz:W1.heap.size=w.heap.size+2:=by rw[tU];simp
 have TS:W1.heap[w.heap.size+1]? =some (.loop (rec .ready none)):=by
  rw[tU];have:=World.alloc_heap_new (w.alloc (.deferred (some []))) (.loop (rec .ready none));simpa using this
 have TP:W1.heap[w.heap.size]? =some (.deferred (some [])):=by
  rw[tU];exact (Below.heap_alloc _ _ _ (by simp)).trans (World.alloc_heap_new w _)
 have PX:I [] W1:=by rw[tU];exact hI.alloc _ (hI.alloc _ h0)
 have mF:Below w.heap.size w W1:=by rw[tU];exact ((pG _ w).alloc (pC _) _).alloc (by simp) _
 have far:∀{A B:World} {row:Option Nat} {k:Nat} {o:Obj},A.heap[k]? =some o->A.grownBy B row->(∀r,row=some r->r=R)->w.heap.size<=k->B.heap[k]? =some o:=
  λhk mJ hr pk=>(mJ.block _ (gtA hk) (λe=>by have:=hr _ e.symm;omega)).trans hk
 refine⟨w.heap.size+1,[{target:=.collected w.heap.size,args:= #[]}],W1,{target:=.fn (.func gf) lb,args:=la ++ #[.func (.yield (w.heap.size+1)) #[] #[]]},W1,gf,
  la ++ #[.func (.yield (w.heap.size+1)) #[] #[]] ++ lb,W1,?_,?_,?_,?_,λ_=>h1,?_⟩
 ·rw[RQ,tU,nG];exact run_enterLoop_outer _ _ _ _ _
 ·simp only[resolve,hg];simp[go_sem]
 ·intro f' NQ;simp[Target.leads] at NQ;subst NQ;exact PU
 ·simp[invoke,go_sem,eg]
 refine (dc (w.heap.size+1)
  (λpre W=>I pre W/\W.heap[w.heap.size+1]? =some (.loop (rec .ready none))/\W.heap[w.heap.size]? =some (.deferred (some [])))
  (λpre W=>∃c,Ix c pre W/\W.heap[w.heap.size+1]? =some (.loop (rec .done (some c)))/\W.heap[w.heap.size]? =some (.deferred (some [])))
  W1 mF
  (λs A B row hs mJ hr=>⟨hI s A B row hs.1 mJ (λr e=>.inl (hr r e)),far hs.2.1 mJ hr (by omega),far hs.2.2 mJ hr (by omega)⟩)
  (λs A B row ⟨c,hc,hl,hk⟩ mJ hr=>⟨c,aR c s A B row hc mJ (λr e=>.inl (hr r e)),far hl mJ hr (by omega),far hk mJ hr (by omega)⟩)
  ?_ ⟨PX,TS,TP⟩).mono ?_
 ·rintro pre x W ⟨hi,hl,hk⟩ hG;have mD:w.heap.size+1<W.heap.size:=(gtA hl);have hy:=run_yield (P:=P) (args:= #[enc x]) hl (by rw[nG];rfl);rw[nG] at hy;have ez:((#[p0].zip #[enc x]).foldl (λtmps (t,a)=>tmps.setIfInBounds t a) a.tmps)=a.tmps.setIfInBounds p0 (enc x):=by simp
  simp only[ez] at hy;refine⟨fn,_,assign,body,hy,roundIn_of_wpIn fX (rS _ pre x W _ hi hG λa' Wa cW Wv Tp=>?_)⟩;have rc:=cW.same _ _ hl rfl;have dV:=cW.same _ _ hk rfl;have fy:w.heap.size+1<Wa.heap.size:=(gtA rc);refine⟨_,run_beginRound rc (by rw[nG]),?_⟩;have eT:(Wa.putObj (w.heap.size+1) (.loop {rec .ready none with state:=.busy})).heap[w.heap.size+1]? =some (.loop {rec .ready none with state:=.busy}):=World.putObj_heap_same fy;have nj:(Wa.putObj (w.heap.size+1) (.loop {rec .ready none with state:=.busy})).heap[w.heap.size]? =some (.deferred (some [])):=(World.putObj_heap_other (by omega)).trans dV;have tK:Kp W (Wa.putObj (w.heap.size+1) (.loop {rec .ready none with state:=.busy})):=eM Wv (gx _ _ _ _ (by omega) rc rfl);refine wpIn_mono (wu _ pre x a' _ (PP _ _ _ _ _ _ _ Tp (by omega) rc rfl) hG) ?_;have fin:∀(jump:Option Code) (W3:World),KeepsOthers (Wa.putObj (w.heap.size+1) (.loop {rec .ready none with state:=.busy})) W3->
   (Instr.endRound (w.heap.size+1) jump).run P W3=.ok (.bool jump.isNone) (W3.putObj (w.heap.size+1) (.loop (rec (if jump.isNone then .ready else .done) jump)))/\
   W3.heap[w.heap.size+1]? =some (.loop {rec .ready none with state:=.busy})/\
   (W3.putObj (w.heap.size+1) (.loop (rec (if jump.isNone then .ready else .done) jump))).heap[w.heap.size+1]? =some (.loop (rec (if jump.isNone then .ready else .done) jump))/\
   (W3.putObj (w.heap.size+1) (.loop (rec (if jump.isNone then .ready else .done) jump))).heap[w.heap.size]? =some (.deferred (some [])):=λjump W3 na=>by
   have pq:=na.same _ _ eT rfl;have:=run_endRound (P:=P) jump pq;rw[nG] at this ⊢;exact⟨this,by rw[nG] at pq;exact pq,World.putObj_heap_same (gtA pq),(World.putObj_heap_other (by omega)).trans (na.same _ _ nj rfl)⟩
  rintro e a3 W3 hp;cases e with
  |normal=>
   obtain⟨na,fg,nV⟩:=hp;obtain⟨hr,pq,sU,pj⟩:=fin none W3 na;exact⟨_,_,hr,.inl ⟨rfl,⟨hI.put _ nV pq rfl (by omega),sU,pj⟩,eM (eM tK fg) (gx _ _ _ _ (by omega) pq rfl)⟩⟩
  |ret=>
   obtain⟨na,nV⟩:=hp;obtain⟨hr,pq,sU,pj⟩:=fin (some .ret) W3 na;exact⟨_,_,hr,.inr ⟨rfl,.ret,(aR _).put _ nV pq rfl (by omega),sU,pj⟩⟩
  |exit id=>
   obtain⟨na,nV⟩:=hp;obtain⟨hr,pq,sU,pj⟩:=fin (some (.exit id)) W3 na;exact⟨_,_,hr,.inr ⟨rfl,.exit id,(aR _).put _ nV pq rfl (by omega),sU,pj⟩⟩
  |goto t=>
   obtain⟨na,nV⟩:=hp;obtain⟨hr,pq,sU,pj⟩:=fin (some (.goto t)) W3 na;exact⟨_,_,hr,.inr ⟨rfl,.goto t,(aR _).put _ nV pq rfl (by omega),sU,pj⟩⟩
  |panic ch=>exact hp.elim
  |outgrown=>exact hp.elim
 ·rintro e W2 ⟨⟨v,rfl⟩,(⟨xs,hS,hi,hl,hk⟩|⟨pre,NJ,c,hi,hl,hk⟩)⟩
  ·exact⟨none,_,by have:=run_endLoop (P:=P) hl (by rw[nG];simp);rw[nG] at this;exact this,wx _ xs _ hS (hI.put _ hi hl rfl (by omega)) (pC _) ((World.putObj_heap_other (by omega)).trans hk)⟩
  ·exact⟨some c,_,by have:=run_endLoop (P:=P) hl (by rw[nG];simp);rw[nG] at this;exact this,aM _ c pre _ NJ ((aR c).put _ hi hl rfl (by omega)) (pC _) ((World.putObj_heap_other (by omega)).trans hk)⟩
