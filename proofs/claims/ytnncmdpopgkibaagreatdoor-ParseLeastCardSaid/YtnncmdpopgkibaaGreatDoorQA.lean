/-
  A part of the proof: contracts of functions; no conditions.
-/
import Derived.Test.YtnncmdpopgkibaaGreatDoorKA
import Derived.Test.YtnncmdpopgkibaaGreatDoorKB
import Derived.Test.YtnncmdpopgkibaaGreatDoorKC
import Derived.Test.YtnncmdpopgkibaaGreatDoorKD
import Derived.Test.YtnncmdpopgkibaaGreatDoorKE
import Derived.Test.YtnncmdpopgkibaaGreatDoorKF
import Derived.Test.YtnncmdpopgkibaaGreatDoorKG
import Derived.Test.YtnncmdpopgkibaaGreatDoorKH
import Derived.Test.YtnncmdpopgkibaaGreatDoorKI
import Derived.Test.YtnncmdpopgkibaaGreatDoorKJ
import Derived.Test.YtnncmdpopgkibaaGreatDoorKK
import Derived.Test.YtnncmdpopgkibaaGreatDoorKL
import Derived.Test.YtnncmdpopgkibaaGreatDoorKM
import Derived.Test.YtnncmdpopgkibaaGreatDoorKN
import Derived.Test.YtnncmdpopgkibaaGreatDoorKO
import Derived.Test.YtnncmdpopgkibaaGreatDoorKP
import Derived.Test.YtnncmdpopgkibaaGreatDoorKQ
import Derived.Test.YtnncmdpopgkibaaGreatDoorKT
import Derived.Shelf.Strings.Builder1
import Derived.Shelf.Strings.Builder2
import Derived.Shelf.Strings.OnBuilder
import Derived.Shelf.Small.Strs
import Derived.Shelf.Small.Wraps
import Derived.Shelf.Strings.BuilderF
import Derived.Shelf.Strconv.Atoi
import Derived.Shelf.Strconv.Itoa0
import Derived.Shelf.Strconv.Itoa1
import Derived.Shelf.LaysM
import Derived.Shelf.Strconv.Itoa2
import Derived.Shelf.Strconv.Itoa3
import Derived.Shelf.Strconv.AtoiErrFast
import Derived.Shelf.Strconv.ParseIntEmpty
import Derived.Shelf.Strconv.AtoiFail
import Derived.Shelf.Strconv.Clone
import Derived.Shelf.Strconv.SyntaxError
import Derived.Shelf.LaysC
import Derived.Shelf.Strconv.ToError
import Derived.Shelf.Strconv.Lower
import Derived.Shelf.Strconv.ParseUint10
import Derived.Shelf.Strconv.ParseUint10Empty
import Derived.Shelf.Strconv.ParseUint10Any
import Derived.Shelf.Strconv.ParseInt10
import Derived.Shelf.Strconv.AtoiLong
import Derived.Shelf.Strconv.AtoiInnerAll
import Derived.Shelf.Strconv.RangeError
import Derived.Shelf.Strconv.ToErrorRange
import Derived.Shelf.Strconv.AtoiAll
import Derived.Shelf.Strconv.ErrVarAll
import Derived.Shelf.Strings.Search1
import Derived.Shelf.Strings.Search2
import Derived.Shelf.Strings.Search3
import Derived.Shelf.Strings.Shaped
import Derived.Shelf.Strings.Prefix
import Derived.Shelf.Strings.Fields
import Derived.Shelf.Strings.SplitShaped
import Derived.Shelf.Unicode.Latin
import Derived.Shelf.Bits.Mul64
import Derived.Shelf.Unicode.Is16White
import Derived.Shelf.Unicode.IsSpaceAny
import Derived.Shelf.Unicode.Is16Any
import Derived.Shelf.Unicode.Is32Any
import Derived.Shelf.Unicode.ExclAny
import Derived.Shelf.Slices.Turned
import Derived.Shelf.Slices.Reverse
import Derived.Shelf.Slices.Equal
import Derived.Ground.Names2Prog
import Derived.Shelf.Slices.Clone
import Derived.Shelf.Slices.Cells
import Derived.Shelf.Slices.Empties2
import Derived.Ground.SlgnProg
import Derived.Shelf.SlicesE.Index
import Derived.Shelf.SlicesE.Clone
import Derived.Test.YtnncmdpopgkibaaGreatDoorProg
import Derived.Lib.QuietBelow
import Derived.Deep.QuietTactic
import Derived.RegionTactic
import Derived.Still
import Derived.RangeFuncNested
import Derived.RangeFuncBound
import Derived.RangeFuncCalls
import Derived.RangeFuncLeaves
import Derived.RangeFuncKeeps
import Derived.Deep.MidRow
import Derived.Laws.CopyOwn
import Derived.Laws.MakeOwn
import Derived.Laws.OwnMore
import Derived.Deep.RegionHeld3
import Derived.Deep.DrawnRows
import Derived.WalkKit
import Derived.WalkLawsBesides
import Derived.WalkSpells
import Derived.Lib.ConvBytes
import Derived.Shelf.Abstract
import Derived.Deep.RegionWith
import Derived.Deep.Light
import Derived.BigQuiet
import Derived.Lib.AtoiAll
import Derived.Lib.ItoaNum
import GoSem.Op.String
import Derived.Lib.LastIndexByte
import Derived.Lib.Bytealg
import Derived.Lib.AppendIntMem
import Derived.Deep.AppendLies
import Derived.Maps.Range
import Derived.WalkMore
import Derived.Deep.LoopGhost
set_option maxRecDepth 100000
set_option maxHeartbeats 40000000
set_option linter.unusedSimpArgs false
set_option linter.unusedVariables false
namespace Go.Proofs
section
open Go.Shelf
def Tryz.lays219_ren:Go.Shelf.Ren:=⟨fun|219=>123|217=>126|225=>158|224=>159|267=>160|266=>162|314=>191|n=>n,fun|9=>9|3=>3|4=>4|5=>5|46=>54|146=>184|51=>183|n=>n,fun|1=>1|n=>n⟩
def Tryz.lays144_ren:Go.Shelf.Ren:=⟨fun|144=>60|143=>86|219=>123|217=>126|225=>158|224=>159|267=>160|266=>162|314=>191|n=>n,fun|9=>9|4=>4|3=>3|5=>5|46=>54|146=>184|51=>183|n=>n,fun|1=>1|n=>n⟩
theorem Tryz.lays144:Go.Proofs.Lays.n144 prog Tryz.lays144_ren:={
 mixed:=by kernel_rfl
 f143:=func86.trans (congrArg some (by kernel_rfl))
 f144:=func60.trans (congrArg some (by kernel_rfl))
 f217:=func126.trans (congrArg some (by kernel_rfl))
 f219:=func123.trans (congrArg some (by kernel_rfl))
 f224:=func159.trans (congrArg some (by kernel_rfl))
 f225:=func158.trans (congrArg some (by kernel_rfl))
 f266:=func162.trans (congrArg some (by kernel_rfl))
 f267:=func160.trans (congrArg some (by kernel_rfl))
 f314:=func191.trans (congrArg some (by kernel_rfl))
 t3:=underlying3
 a3:=Tryz.isAgg3
 z3:=Tryz.sizeOf3
 v3:=Tryz.zeroValue3
 t4:=underlying4
 a4:=Tryz.isAgg4
 z4:=Tryz.sizeOf4
 v4:=Tryz.zeroValue4
 t5:=underlying5
 a5:=Tryz.isAgg5
 z5:=Tryz.sizeOf5
 v5:=Tryz.zeroValue5
 t9:=underlying9
 a9:=Tryz.isAgg9
 z9:=Tryz.sizeOf9
 v9:=Tryz.zeroValue9
 t46:=underlying54
 a46:=Tryz.isAgg54
 z46:=Tryz.sizeOf54
 v46:=Tryz.zeroValue54
 t51:=underlying183
 a51:=Tryz.isAgg183
 z51:=Tryz.sizeOf183
 v51:=Tryz.zeroValue183
 t146:=underlying184
 a146:=Tryz.isAgg184
 z146:=Tryz.sizeOf184
 v146:=Tryz.zeroValue184
 g1:=by kernel_rfl}
open Go.RowKit Go.Lib in
theorem Tryz.strings_Contains (s sub:ByteArray) (m:Int) (w:World) (hs:s.size<4294967281) (hm:w.cell? ⟨1,0,none⟩=some (.int .i64 m)) :
 Calls prog 60 #[.string s,.string sub] w fun e w'=>e=.returned (.bool (Lib.contains s.data.toList sub.data.toList))/\w'=w:=Any.strings_Contains Tryz.lays144 s sub m w hs hm
def Tryz.lays212_ren:Go.Shelf.Ren:=⟨fun|212=>85|263=>121|264=>122|n=>n,fun|46=>54|51=>183|146=>184|53=>53|148=>186|n=>n,fun|n=>n⟩
theorem Tryz.lays212:Go.Proofs.Lays.n212 prog Tryz.lays212_ren:={
 mixed:=by kernel_rfl
 f212:=func85.trans (congrArg some (by kernel_rfl))
 f263:=func121.trans (congrArg some (by kernel_rfl))
 f264:=func122.trans (congrArg some (by kernel_rfl))
 t46:=underlying54
 a46:=Tryz.isAgg54
 z46:=Tryz.sizeOf54
 v46:=Tryz.zeroValue54
 t51:=underlying183
 a51:=Tryz.isAgg183
 z51:=Tryz.sizeOf183
 v51:=Tryz.zeroValue183
 t53:=underlying53
 a53:=Tryz.isAgg53
 z53:=Tryz.sizeOf53
 v53:=Tryz.zeroValue53
 t146:=underlying184
 a146:=Tryz.isAgg184
 z146:=Tryz.sizeOf184
 v146:=Tryz.zeroValue184
 t148:=underlying186
 a148:=Tryz.isAgg186
 z148:=Tryz.sizeOf186
 v148:=Tryz.zeroValue186}
open Go.RowKit Go.Lib in
theorem Tryz.bits_Mul (x y:Nat) (hx:x<18446744073709551616) (hy:y<18446744073709551616) (w:World) :
 Calls prog 85 #[.int .u64 x,.int .u64 y] w fun e w'=>e=.returned (.tuple #[.int .u64 ((x*y / 18446744073709551616:Nat):Int),.int .u64 ((x*y % 18446744073709551616:Nat):Int)])/\w'=w:=Any.bits_Mul Tryz.lays212 x y hx hy w
end
end Go.Proofs
namespace LodeX
section
open Go Go.RowKit Go.Sort
section
variable {RR:Rel} {Xp:List PanicEntry→World→Prop} {P:Program} {l:List Oper} {Q:Act→World→Prop} {r:List (Nat×Nat)} {b w:World} {a:Act}
theorem zmS{i:Nat}{o:Oper}{v:Value}(hi':l[i]? =some o)(hw:Region.wanted o (yielded l.toArray a.tmps)=true)(hy:∀w,(execOp a.eval o).run P w=.ok (.value v) w)(h:wpE Xp P l.toArray Q r (a.put o.dst v) w):wpE Xp P l.toArray Q ((i,0) :: r) a w:=by
 have hi:l.toArray[i]? =some o:=by rw[pV];exact hi'
 unfold wpE;exact vv (next:=fun a'=>wpE Xp P l.toArray Q r a' w) hi (.inl ⟨hw,fun w=>by rw[hy w];exact⟨rfl,rfl⟩⟩) h
end
end
end LodeX
namespace Lode
section
open Go Go.RowKit Go.Sort
section
variable {P:Program} {l:List Oper} {Q:Act→World→Prop} {r:List (Nat×Nat)} {b w:World} {a:Act}
theorem zmS{i:Nat}{o:Oper}{v:Value}(hi':l[i]? =some o)(hw:Region.wanted o (yielded l.toArray a.tmps)=true)(hy:∀w,(execOp a.eval o).run P w=.ok (.value v) w)(h:wpE P l.toArray Q r (a.put o.dst v) w):wpE P l.toArray Q ((i,0) :: r) a w:=LodeX.zmS hi' hw hy h
end
end
end Lode
namespace Go.Proofs.YtnncmdpopgkibaaGreatDoor
section
open Go.RowKit
open Go.Proofs.Tryz
end
section
open Go.RowKit Lode Go.Shelf
attribute [local go_sem ↓] Go.wp_at_zero Go.wp_at_succ
open Go.Proofs.Tryz
theorem zo7:(prog.info? 3).map (·.size)=some 1:=by kernel_rfl
def zgy(x:Value)(n k:Nat):List Value:=List.replicate k x ++ List.replicate (n-k) (Value.int .i64 0)
def zqd(x:Value)(n:Nat)(w:World)(i:Value)(wr:World):Prop:=∃k:Nat,i=.int .i64 k/\1<=k/\k<=n/\wr.heap[w.heap.size]? =some (.cells (zgy x n k).toArray 3 (0,0))/\Below w.heap.size w wr
theorem znR{o:Oper}{a:Act}{w:World}{K:Act->World->Prop}{Q:Exit->Act->World->Prop}(d s:Operand)
 (ho:o.op=.call {callee:=.builtin .copy,args:= #[d,s],argTypes:= #[24,24]})
 (g off dLen dCap:Nat) (ad:Addr) (sLen sCap:Nat) (hd:a.eval d=.slice (some ⟨g,off,none⟩) dLen dCap) (hs:a.eval s=.slice (some ad) sLen sCap)
 (cur:Array Value) (hg:w.heap[g]? =some (.cells cur 3 (0,0))) (cs:List Value) (hn:cs.length=Nat.min sLen dLen)
 (hsrc:∀j v,cs[j]? =some v->w.cell? (ad.add j)=some v) (hfit:off+cs.length<=cur.size) (h1:∀v∈cs,v.oneCell'=true)
 (h:K (a.put o.dst (goInt cs.length)) (w.setRow g (cur.toList.take off ++ cs ++ cur.toList.drop (off+cs.length)).toArray)):o.wp prog a w K Q:=by
 have hrun:=run_copy_row (P:=prog) w 24 24 o.type 3 g off dLen dCap ad sLen sCap cur 3 cs underlying24 zo7 hg hn hsrc hfit h1;unfold Oper.wp execOp;simp only[ho,resolve,invoke,builtin,Sem.run_bind,Sem.run_pure,Result.andThen_ok,List.map_toArray,List.map_cons,List.map_nil,hd,hs,hrun];exact h
theorem znZ(x:Value)(n k c:Nat):((zgy x n k).take k ++ List.replicate c x ++ (zgy x n k).drop (k+c))=zgy x n (k+c):=by
 have h1:(zgy x n k).take k=List.replicate k x:=by unfold zgy;exact List.take_left' (by simp)
 have h2:(zgy x n k).drop (k+c)=List.replicate (n-k-c) (Value.int .i64 0):=by
  unfold zgy;have:=List.drop_length_add_append (l₁:=List.replicate k x) (l₂:=List.replicate (n-k) (Value.int .i64 0)) (i:=c);rw[List.length_replicate,List.drop_replicate] at this;exact this
 rw[h1,h2];unfold zgy;rw[<-List.replicate_append_replicate,show n-(k+c)=n-k-c by omega]
theorem zoj(x:Value)(n k j:Nat)(hj:j<k):(zgy x n k)[j]? =some x:=by
 unfold zgy;rw[wQ (by simpa using hj),List.getElem?_replicate,if_pos hj]
theorem zoi(x:Value)(n k:Nat)(hk:k<=n):(zgy x n k).length=n:=by unfold zgy;simp;omega
theorem zoh(b:Nat)(z:Int)(n:Nat)(hn:n<=1000000)(w:World)(hc:w.cell? ⟨b,0,none⟩=some (.int .i64 z)):
 Calls prog 59 #[.slice (some ⟨b,0,none⟩) 1 1,.int .i64 n] w fun e w'=>e=.returned (.slice (some ⟨w.heap.size,0,none⟩) n n)/\w'.heap[w.heap.size]? =some (.cells (List.replicate n (Value.int .i64 z)).toArray 3 (0,0))/\Below w.heap.size w w':=by
 have hmk:=zgr n hn;have HM:=zi (fun W=>Tryz.bits_Mul 1 n (by omega) (by omega) W);have hq:((1*n / 18446744073709551616:Nat):Int)=0:=by rw[Nat.one_mul,Nat.div_eq_of_lt (by omega)];rfl
 have hr:((1*n % 18446744073709551616:Nat):Int)=n:=by rw[Nat.one_mul,Nat.mod_eq_of_lt (by omega)]
 rw[hq,hr] at HM;clear hq hr;have y1:IntKind.u64.wrap (n:Int)=(n:Int):=by rw[IntWalk.u64_in _ ⟨by omega,by omega⟩]
 have y2:IntKind.i64.wrap (n:Int)=(n:Int):=pJ _ ⟨by omega,by omega⟩;have y3:decide ((9223372036854775807:Int)<(n:Int))=false:=by rw[wO];omega
 have y4:decide ((n:Int)<0)=false:=by rw[wO];omega
 have hmk:∀W:World,(Instr.makeSlice 24 (.int .i64 (n:Int)) (.int .i64 (n:Int))).run prog W=.ok (.slice (some ⟨W.heap.size,0,none⟩) n n) (W.alloc (.cells (Array.replicate n (Value.int .i64 0)) 3)):=fun W=>by
  rw[hmk W];simp
 have hb0:=zf w (.cells (Array.replicate n (Value.int .i64 0)) 3 (0,0));have hnew:=zk w (.cells (Array.replicate n (Value.int .i64 0)) 3 (0,0));by_cases hn0:n=0
 ·subst hn0;have hcp:(Builtin.copy_ #[24,24] 3 #[.slice (some ⟨w.heap.size,0,none⟩) 0 0,.slice (some ⟨b,0,none⟩) 1 1]).run prog (w.alloc (.cells #[] 3 (0,0)))=.ok (goInt 0) (w.alloc (.cells #[] 3 (0,0))):=
   run_copy_none (P:=prog) _ 24 24 3 3 _ _ 0 0 1 1 underlying24 zo7 rfl
  have Hnew:=zi hnew;have hmk:∀W:World,(Instr.makeSlice 24 (.int .i64 0) (.int .i64 0)).run prog W=.ok (.slice (some ⟨W.heap.size,0,none⟩) 0 0) (W.alloc (.cells #[] 3)):=fun W=>hmk W
  clear hnew;go_enter func59,ntmps59;go_wp2_with fail;refine (HM.out _).mono ?_;rintro e w1 ⟨rfl,rfl⟩;go_wp2;go_loopw [8] (fun i wr=>i=.int .i64 0/\wr=w1.alloc (.cells #[] 3 (0,0))) (fun _ _=>0)
  case atStart=>exact⟨rfl,rfl⟩
  case round=>
   obtain⟨rfl,rfl⟩:=hrel;go_wp2;go_ret;exact⟨rfl,by simpa using Hnew.out,hb0⟩
 ·have h1:1<=n:=by omega
  have hget:∀j v,[Value.int .i64 z][j]? =some v->(w.alloc (.cells (Array.replicate n (Value.int .i64 0)) 3 (0,0))).cell? ((⟨b,0,none⟩:Addr).add j)=some v:=fun j v h=>by
   match j,h with
   |0,h=>
    simp at h;subst h;exact zj hb0 hc
  obtain⟨W2,hcp,hW2,hbW2⟩:∃W2,(Builtin.copy_ #[24,24] 3 #[.slice (some ⟨w.heap.size,0,none⟩) n n,.slice (some ⟨b,0,none⟩) 1 1]).run prog (w.alloc (.cells (Array.replicate n (Value.int .i64 0)) 3 (0,0)))=.ok (.int .i64 1) W2/\W2.heap[w.heap.size]? =some (.cells (zgy (.int .i64 z) n 1).toArray 3 (0,0))/\Below w.heap.size w W2:=by
   have hrun:=run_copy_row (P:=prog) _ 24 24 3 3 w.heap.size 0 n n ⟨b,0,none⟩ 1 1 _ 3 [.int .i64 z] underlying24 zo7 hnew (by show 1=Nat.min 1 n;exact (Nat.min_eq_left h1).symm) hget (by simp;omega) (by intro v hv;simp at hv;subst hv;rfl);refine⟨_,hrun,?_,below_setRow hb0 (pE _) _⟩;have:=setRow_heap _ w.heap.size _ (List.take 0 (Array.replicate n (Value.int .i64 0)).toList ++ [Value.int .i64 z] ++ List.drop (0+[Value.int .i64 z].length) (Array.replicate n (Value.int .i64 0)).toList).toArray 3 (0,0) hnew;rw[this];simp[zgy]
  have HW2:=zi hW2;clear hnew hget hW2;go_enter func59,ntmps59;go_wp2_with fail;refine (HM.out _).mono ?_;rintro e w1 ⟨rfl,rfl⟩;go_wp2;go_loopw [8] (zqd (.int .i64 z) n w1) (fun i _=>n-(intOf i).toNat)
  case atStart=>exact⟨1,rfl,pE _,h1,HW2.out,hbW2⟩
  case round=>
   obtain⟨k,rfl,hk1,hk,hrow,hb⟩:=hrel;by_cases hlt:k<n
   ·obtain⟨c,hcd⟩:=exE (Nat.min k (n-k));have hc1:1<=c/\c<=k/\k+c<=n:=by
     have h1:c<=k:=by rw[<-hcd];exact Nat.min_le_left k (n-k)
     have h2:c<=n-k:=by rw[<-hcd];exact Nat.min_le_right k (n-k)
     have h3:1<=c:=by rw[<-hcd];exact Nat.le_min.2 ⟨hk1,by omega⟩
     exact⟨h3,h1,by omega⟩
    have Hrow:=zi hrow;have Hcd:=zi hcd;have hnk:¬n=k:=by omega
    clear hrow hcd;go_wp2_with fail;refine zaQ [(0,0),(1,0),(2,0),(3,0),(4,0),(5,0),(6,0),(7,3),(8,0),(9,0)] ?_;refine goM ?_;refine Xr rfl rfl (fun W5 hW5=>?_);have hb5:=zg (hb.drew) hW5.below;have hrow5:W5.heap[w1.heap.size]? =some (.cells (zgy (.int .i64 z) n k).toArray 3 (0,0)):=zh hW5.below Hrow.out;refine znR (.tmp 41) (.tmp 44) rfl w1.heap.size k (n-k) (n-k) ⟨w1.heap.size,0,none⟩ k n (by simp[Act.eval]) rfl _ hrow5 (List.replicate c (.int .i64 z)) (by rw[List.length_replicate];exact Hcd.out.symm) ?_ (by rw[List.length_replicate];simp[zoi _ _ _ hk];omega) (by intro v hv;rw[List.mem_replicate] at hv;rw[hv.2];rfl) ?_
    ·intro j v hj;rw[List.getElem?_replicate] at hj;split at hj
     ·cases hj;have e0:(⟨w1.heap.size,0,none⟩:Addr).add j=⟨w1.heap.size,0+j,none⟩:=by
       unfold Addr.add;split
       ·rename_i h;subst h;rfl
       ·rfl
      rw[e0,Nat.zero_add,zd hrow5 j,pV];exact zoj _ _ _ _ (by omega)
     ·cases hj
    ·have hnew:=setRow_heap W5 w1.heap.size _ (List.take k (zgy (.int .i64 z) n k).toArray.toList ++ List.replicate c (Value.int .i64 z) ++ List.drop (k+(List.replicate c (Value.int .i64 z)).length) (zgy (.int .i64 z) n k).toArray.toList).toArray 3 (0,0) hrow5;have hbn:=below_setRow hb5 (pE _) (List.take k (zgy (.int .i64 z) n k).toArray.toList ++ List.replicate c (Value.int .i64 z) ++ List.drop (k+(List.replicate c (Value.int .i64 z)).length) (zgy (.int .i64 z) n k).toArray.toList).toArray;generalize World.setRow W5 w1.heap.size _=W6 at *;rw[List.length_replicate] at hnew;have e1:(zgy (Value.int .i64 z) n k).toArray.toList=zgy (.int .i64 z) n k:=rfl;rw[e1,znZ] at hnew;have y5:IntKind.i64.wrap ((k:Int)+(c:Int))=((k+c:Nat):Int):=by rw[pJ _ ⟨by omega,by omega⟩];omega
     have Hnew:=zi hnew;rw[List.length_replicate];clear hnew hrow5
     try simp only[Act.put,yG,yE,yF]
     refine zmS rfl rfl (v:=.int .i64 ((k+c:Nat):Int)) (fun _=>by go_simp) ?_
     try simp only[Act.put,yG,yE,yF]
     refine zmS rfl rfl (v:=.int .i64 ((k+c:Nat):Int)) (fun _=>by go_simp) ?_
     try simp only[Act.put,yG,yE,yF]
     refine JE ?_;go_wp2;go_roundw
     case rel=>exact⟨k+c,by first|rfl|go_num,by omega,by omega,Hnew.out,hbn⟩
     case measure=>simp[intOf];omega
   ·have hkn:k=n:=by omega
    subst hkn;have hrow2:zgy (.int .i64 z) k k=List.replicate k (.int .i64 z):=by unfold zgy;simp
    rw[hrow2] at hrow;have Hrow:=zi hrow;clear hrow hrow2;go_wp2;go_ret;exact⟨rfl,Hrow.out,hb⟩
end
end Go.Proofs.YtnncmdpopgkibaaGreatDoor
