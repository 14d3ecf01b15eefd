import Derived.Test.YtcagibbaeageoaaGreatDoorSE
import Derived.Test.YtcagibbaeageoaaGreatDoorSJ
import Derived.OwnWalk
import Derived.MapKept
import Derived.Carry
set_option maxRecDepth 100000
set_option maxHeartbeats 0
set_option linter.all false
variable{V W b w w' wA:Go.World}{K P0 base c cap fn g i k m n off r s uc wo:Nat}{bs kv kv0 xs:List Go.Value}{ad:Go.Addr}{iv iv0 nv nv0 p u v z:Go.Value}{ops:Array Go.Oper}{rest:List Go.Oper}{o:Go.Oper}{a:Go.Act}{Q:Go.Act->Go.World->Prop}{et kt:Go.TypeId}{R t x:List UInt8}{q:List (Nat×Nat)}{args lk:Array Go.Value}{ls:List (List UInt8)}{ks:List Int}{ob:ByteArray}{up:Option Go.Addr}{A:Nat->Nat->Prop}{S:Go.World->Prop}{l0:List Lode.Nd}{KI:Int}
namespace Go.Proofs.YtcagibbaeageoaaGreatDoor
section
open Go.RowKit Lode Go.Shelf
open Go.Proofs.Tryz
def Tryz.infoStrP:(prog.info? 9).map (λi=>(i.zero,i.size,i.bytes))=some (some (.string ⟨#[]⟩),1,16):=by kernel_rfl
def zju(mG:w.ownsRow base 9 1 (.slice (some ⟨g,0,none⟩) n cap) n xs)(hu:w.cell? ad=some u)(hs:ad.spot=none)(h1:u.oneCell'=true)(hn:n<=1000000)(mH:base<=w.heap.size)(ty:TypeId):
 ∃g' cap' w',(Builtin.append_ #[133,133] ty #[.slice (some ⟨g,0,none⟩) n cap,.slice (some ad) 1 1]).run prog w=.ok (.slice (some ⟨g',0,none⟩) (n+1) cap') w'/\w'.ownsRow base 9 1 (.slice (some ⟨g',0,none⟩) (n+1) cap') (n+1) (xs ++ [u])/\w.grownBy w' (some g)/\(g'=g\/g'=w.heap.size):=by
 obtain⟨i0,hi,pe,mY,mT⟩:=info_parts Tryz.infoStrP;have nF:∀j x,[u][j]? =some x->w.cell? (ad.add j)=some x:=λj x h=>by
  match j,h with
  |0,h=>
   simp at h;subst h;obtain⟨b,o,s⟩:=ad;simp only at hs;subst hs;exact hu
 have sa:∀x∈[u],x.oneCell'=true:=λx hx=>by rw[wD] at hx;subst hx;exact h1
 obtain⟨v',w',hr,h2,h3,_⟩:=run_append_own (P:=prog) w base 133 ty 9 i0 _ 1 16 underlying133 hi pe mY mT rfl (by decide) _ n xs mG ad 1 1 [u] rfl nF sa (by unfold maxLen;omega) (by omega) mH;have key:∃g' cap',v'=.slice (some ⟨g',0,none⟩) (n+1) cap'/\(g'=g\/g'=w.heap.size):=by
  rcases id mG.2 with⟨h,_⟩|⟨g2,cap2,cur,h,_,hg,Ni,SJ,ae,cd⟩
  ·simp at h
  ·simp only[Value.slice.injEq,wO,Addr.mk.injEq,and_true,true_and] at h;obtain⟨rfl,rfl⟩:=h;by_cases aK:n+1<=cap
   ·have mO:=run_append_room (P:=prog) w 133 ty 9 i0 underlying133 hi g n cap cur hg ad 1 1 [u] (by rw[mY];rfl) nF sa aK (by rw[mY,ae];simp;omega);rw[hr] at mO;simp only[Result.ok.injEq] at mO;exact⟨g,cap,mO.1,.inl rfl⟩
   ·have mO:=run_append_grow (P:=prog) w 133 ty 9 i0 _ underlying133 hi pe ⟨g,0,none⟩ n cap xs (by rw[mY];exact mG.1) (mG.cells (g:=g) rfl) ad 1 1 [u] (by rw[mY];rfl) nF (by omega) (by omega) (growslice_fits (by omega) (by rw[mT];omega));rw[hr] at mO;simp only[Result.ok.injEq] at mO;exact⟨_,_,mO.1,.inr rfl⟩
 obtain⟨g',cap',rfl,mJ⟩:=key;exact⟨g',cap',w',hr,h2,h3,mJ⟩
def zjv(mG:w.ownsRow base 9 1 v n xs)(hu:w.cell? ad=some u)(hs:ad.spot=none)(h1:u.oneCell'=true)(hn:n<=1000000)(mH:base<=w.heap.size)(ty:TypeId):
 ∃g' cap' w',(Builtin.append_ #[133,133] ty #[v,.slice (some ad) 1 1]).run prog w=.ok (.slice (some ⟨g',0,none⟩) (n+1) cap') w'/\w'.ownsRow base 9 1 (.slice (some ⟨g',0,none⟩) (n+1) cap') (n+1) (xs ++ [u])/\w.grownBy w' v.ownBlock/\(v.ownBlock=some g'\/g'=w.heap.size):=by
 rcases id mG.2 with⟨rfl,h0⟩|⟨g,cap,cur,rfl,_⟩
 ·obtain⟨i0,hi,pe,mY,mT⟩:=info_parts Tryz.infoStrP;have nF:∀j x,[u][j]? =some x->w.cell? (ad.add j)=some x:=λj x h=>by
   match j,h with
   |0,h=>
    simp at h;subst h;obtain⟨b,o,s⟩:=ad;simp only at hs;subst hs;exact hu
  have sa:∀x∈[u],x.oneCell'=true:=λx hx=>by rw[wD] at hx;subst hx;exact h1
  obtain⟨v',w',hr,h2,h3,_⟩:=run_append_own (P:=prog) w base 133 ty 9 i0 _ 1 16 underlying133 hi pe mY mT rfl (by decide) _ n xs mG ad 1 1 [u] rfl nF sa (by unfold maxLen;omega) (by omega) mH;have mO:=run_append_nil (P:=prog) w 133 ty 9 i0 _ underlying133 hi pe ad 1 1 [u] (by rw[mY];rfl) nF (by decide) (by decide) (by rw[mT];decide);rw[hr] at mO;simp only[Result.ok.injEq] at mO;obtain⟨rfl,rfl⟩:=mO;subst h0;exact⟨_,_,_,hr,h2,h3,.inr rfl⟩
 ·obtain⟨g',cap',w',a,b,c,d⟩:=zju mG hu hs h1 hn mH ty;refine⟨g',cap',w',a,b,c,d.imp (λh=>?_) id⟩;rw[h];rfl
def zc0{Q:Exit->Act->World->Prop}(NR:o.guard=none)(s x:Operand)(ho:o.op=.call {callee:=.builtin .append,args:= #[s,x],argTypes:= #[133,133]})(hs:a.eval s=v)(mG:w.ownsRow base 9 1 v n xs)(hx:a.eval x=.slice (some ad) 1 1)(hu:w.cell? ad=some u)(eY:ad.spot=none)(h1:u.oneCell'=true)(hn:n<=1000000)(mH:base<=w.heap.size)(h:∀g' cap' w',w'.ownsRow base 9 1 (.slice (some ⟨g',0,none⟩) (n+1) cap') (n+1) (xs ++ [u])->w.grownBy w' v.ownBlock->(v.ownBlock=some g'\/g'=w.heap.size)->wpList prog ops Q rest (a.put o.dst (.slice (some ⟨g',0,none⟩) (n+1) cap')) w'):wpList prog ops Q (o :: rest) a w:=by
 refine wpList_plain NR λK hK=>?_
 obtain⟨g',cap',w',hr,h2,h3,h4⟩:=zjv mG hu eY h1 hn mH o.type;unfold Oper.wp;simp[execOp,ho,resolve,invoke,builtin,hs,hx,hr,Result.andThen];exact hK _ _ (h g' cap' w' h2 h3 h4)
end
section
open Go.RowKit Lode Go.Shelf
attribute [local go_sem ↓] wp_at_zero wp_at_succ
open Go.Proofs.Tryz
def zc4(k:Nat):(∃(j:Nat) (x:List UInt8×Nat×Int),Qv (λx=>x.2.1 == k) zN=j/\zN[j]? =some x/\(zN.find? λx=>x.2.1 == k)=some x)\/(Qv (λx=>x.2.1 == k) zN= -1/\(zN.find? λx=>x.2.1 == k)=none):=KV _ _
def KA(b:Nat)(k:Nat)(x0:List UInt8)(x1:Nat)(x2:Int)(w:World)(hq:w.cell? ⟨b,0,none⟩=some (.int .u8 k)):Calls prog 230 #[Ve x0 x1 x2,.pointer (some ⟨b,0,none⟩)] w (ue w (.bool (x1 == k))):=by
 unfold Ve;have hA:=zf w (.cells #[.string ⟨x0.toArray⟩,.int .u8 x1,.int .i64 x2] 180 (0,0));have hz:=zd (zk w (.cells #[.string ⟨x0.toArray⟩,.int .u8 x1,.int .i64 x2] 180 (0,0))) 1;have hq:=zl hA hq;have e:(x1 == k)=((x1:Int) == (k:Int)):=by rw[pP];simp;omega
 rw[e];go_enter func230,ntmps230;go_wp2;go_ret;exact⟨rfl,hA⟩
def zbP(k:Nat):Value:=match zN.find? λx=>x.2.1 == k with
 |some x=>.tuple #[Ve x.1 x.2.1 x.2.2,.bool true]
 |none=>.tuple #[Ve [] 0 0,.bool false]
def Vb(k:Nat)(w:World):Calls prog 166 #[.int .u8 k] w (ue w (zbP k)):=by
 have MS:∀(fn:Fn) (first cap:Array Value) (w:World),(Instr.makeFunc fn first cap).run prog w=.ok (.func fn first cap) w:=λ_ _ _ _=>rfl
 have hA:=zf w (.cells #[.int .u8 k] 5 (0,0));have hB:=zg hA (zf (w.alloc (.cells #[.int .u8 k] 5 (0,0))) (.cells #[.string ⟨#[]⟩,.int .u8 0,.int .i64 0] 180 (0,0)));have bh:=zi (zf (w.alloc (.cells #[.int .u8 k] 5 (0,0))) (.cells #[.string ⟨#[]⟩,.int .u8 0,.int .i64 0] 180 (0,0))) (zk w (.cells #[.int .u8 k] 5 (0,0)));have sH:=zk (w.alloc (.cells #[.int .u8 k] 5 (0,0))) (.cells #[.string ⟨#[]⟩,.int .u8 0,.int .i64 0] 180 (0,0));rw[show (w.alloc (.cells #[.int .u8 k] 5 (0,0))).heap.size=w.heap.size+1 by simp] at sH;replace bh:=zh bh;replace sH:=zh sH;have Hh:=zh (zc4 k);go_enter func166,ntmps166;go_wp2_with fail;refine (Jg _).mono ?_;rintro e w2 ⟨g,rfl,hg,hW,mM⟩;have rB:=zg hB mM;have ew:=zi mM bh.q;have mO:=zi mM sH.q;have HI:=zh (VS g 14 14 230 ⟨w.heap.size,0,none⟩ zN (λx=>x.2.1 == k) w2 (enters_of (P:=prog) func230 (by kernel_rfl) rfl) rfl (by decide) hW (λW x hb _=>KA w.heap.size k x.1 x.2.1 x.2.2 W (zl hb (zd ew 0))));replace hW:=zh hW;replace ew:=zh ew;replace mO:=zh mO;generalize Qv (λx=>x.2.1 == k) zN=i at *;go_wp2_with fail;refine HI.q.mono ?_;rintro e w3 ⟨rfl,mU⟩;have sf:=zg rB mU;have mS:=zi mU mO.q;rcases Hh.q with⟨j,x,rfl,hx,hw⟩|⟨rfl,hw⟩
 ·have hw:=zh hw;obtain⟨c0,c1,c2⟩:=hW.q.below mU j x hx;have hj:j<14:=(gtL hx);have mD:¬((j:Int)<0):=by omega
  have pf:(j:Int)<14:=by omega
  obtain⟨x0,x1,x2⟩:=x;simp only at c0 c1 c2 hw ⊢;have f0:∀j,w3.frozen? ⟨w.heap.size+1,j,none⟩=false:=λj=>zj mS j
  have d0:=zd mS 0;have d1:=zd mS 1;have d2:=zd mS 2;replace mS:=zh mS;go_wp2_with fail;have z1:=zt mS.q 0 (.string ⟨x0.toArray⟩);have z2:=zt z1 1 (.int .u8 x1);have z3:=zt z2 2 (.int .i64 x2);refine bodyPost_ret (v:=.tuple #[.agg #[.string ⟨x0.toArray⟩,.int .u8 x1,.int .i64 x2],.bool true]) (by simp[results,results166,go_sem,zd z3]) rfl ?_;exact⟨by unfold zbP;rw[hw.q];rfl,((sf.setCell (by simp) _).setCell (by simp) _).setCell (by simp) _⟩
 ·have hw:=zh hw;have f0:∀j,w3.frozen? ⟨w.heap.size+1,j,none⟩=false:=λj=>zj mS j
  have d0:=zd mS 0;have d1:=zd mS 1;have d2:=zd mS 2;replace mS:=zh mS;go_wp2_with fail;have z1:=zt mS.q 0 (.string ⟨#[]⟩);have z2:=zt z1 1 (.int .u8 0);have z3:=zt z2 2 (.int .i64 0);refine bodyPost_ret (v:=.tuple #[.agg #[.string ⟨#[]⟩,.int .u8 0,.int .i64 0],.bool false]) (by simp[results,results166,go_sem,zd z3]) rfl ?_;exact⟨by unfold zbP;rw[hw.q];rfl,((sf.setCell (by simp) _).setCell (by simp) _).setCell (by simp) _⟩
def zfC(s:List UInt8)(w:World)(hs:s.length<=1000000000000):Calls prog 161 #[.string ⟨s.toArray⟩] w (ue w (.string ⟨(vC s).1.toArray⟩)):=by
 have hQ:=zh (VO ⟨s.toArray⟩ w hs);simp only at hQ;generalize vC s=q at *;obtain⟨q1,q2⟩:=q;go_enter func161,ntmps161;go_wp2_with fail;refine hQ.q.mono ?_;rintro e w1 ⟨rfl,hb⟩;go_wp2;go_ret;exact⟨rfl,hb⟩
def zd5(s:List UInt8)(w:World)(hs:s.length<=1000000000000)(hG:jQ w):Calls prog 66 #[.string ⟨s.toArray⟩] w λe w'=>e=.returned (.tuple #[.string ⟨(YZ s).1.toArray⟩,.int .i64 ((YZ s).2:Nat)])/\Below w.heap.size w w':=by
 obtain⟨r,hr⟩:=exE (YZ s);rw[hr];unfold YZ at hr;have hR:=zh (JD ⟨s.toArray⟩ w hs hG);simp only at hR;generalize vB s=rd at *;obtain⟨l,p,e0⟩:=rd;simp only at hr;by_cases he:e0=0
 ·subst he;rw[if_neg (by simp)] at hr;subst hr;go_enter func66,ntmps66;go_wp2_with fail;refine hR.q.mono ?_;rintro e w1 ⟨v,rfl,_,hb⟩;go_wp2;go_ret2;exact⟨rfl,hb⟩
 ·have SL:((e0:Int) == 0)=false:=bfE (by omega)
  rw[if_pos he] at hr;subst hr;go_enter func66,ntmps66;go_wp2_with fail;refine hR.q.mono ?_;rintro e w1 ⟨v,rfl,_,hb⟩;go_wp2;go_ret2;exact⟨rfl,hb⟩
end
end Go.Proofs.YtcagibbaeageoaaGreatDoor
namespace Lode
section
open Go Go.RowKit
def Kn:Nat->List (Nat×Value)->List MapEntry
 |_,[]=>[]
 |b,x :: r=>⟨.int .u8 x.1,x.2,b⟩ :: Kn (b+1) r
abbrev YF(l:List (Nat×Value)):Obj:=.map (Kn 0 l).toArray l.length
theorem zg9:∀(l:List (Nat×Value)) (b:Nat),(Kn b l).length=l.length
 |[],_=>rfl
 |_ :: r,b=>by
  simp only[Kn,pH,zg9 r]
theorem Xc:∀(l:List (Nat×Value)) (b:Nat) (x:Nat×Value),Kn b (l ++ [x])=Kn b l ++ [⟨.int .u8 x.1,x.2,b+l.length⟩]
 |[],_,_=>rfl
 |y :: r,b,x=>by
  simp only[pQ,Kn,Xc r (b+1) x,pH];rw[show b+1+r.length=b+(r.length+1) by omega]
theorem Yd:∀(l:List (Nat×Value)) (b i k:Nat),(∀x∈l,x.1≠k)->Instr.findNow (.int .u8) (.int .u8 k) (Kn b l) i=some none
 |[],_,_,_,_=>rfl
 |y :: r,b,i,k,h=>by
  have h1:=h y (List.mem_cons_self ..);have e:((k:Int) == (y.1:Int))=false:=bfE (by omega)
  simp only[Kn,Instr.findNow,Instr.sameNow,if_true,e];exact Yd r (b+1) (i+1) k (λx hx=>h x (wJ _ hx))
theorem JL:∀(l:List (Nat×Value)) (b i k:Nat) (v:Value),(l.find? λx=>x.1 == k)=some (k,v)->∃j,Instr.findNow (.int .u8) (.int .u8 k) (Kn b l) i=some (some (j,v))
 |[],_,_,_,_,h=>by cases h
 |y :: r,b,i,k,v,h=>by
  by_cases hk:y.1=k
  ·rw[List.find?_cons,show (y.1 == k)=true by simpa using hk] at h;have e:((k:Int) == (y.1:Int))=true:=by rw[pR];omega
   cases h;refine⟨i,?_⟩;simp only[Kn,Instr.findNow,Instr.sameNow,if_true,e]
  ·rw[List.find?_cons,show (y.1 == k)=false by simpa using hk] at h;have e:((k:Int) == (y.1:Int))=false:=bfE (by omega)
   obtain⟨j,hj⟩:=JL r (b+1) (i+1) k v h;refine⟨j,?_⟩;simp only[Kn,Instr.findNow,Instr.sameNow,if_true,e];exact hj
section
variable {P:Program} {w:World}
def zcy(hk:P.underlying kt=some (.int .u8))(k:Nat)(e:Bool):(Instr.checkKey e 10000 kt (.int .u8 k)).run P w=.ok () w:=Go.MapKept.run_checkKey (d:=.int .u8) hk (by simp[Go.MapKept.IsKey]) _ 9999
def zbn{t:TypeId}(ht:P.underlying t=some (.map kt et))(hk:P.underlying kt=some (.int .u8))(hz:(zeroValue et).run P w=.ok z w){l:List (Nat×Value)}(hb:w.heap[r]? =some (YF l))(k:Nat):
 (Instr.lookup t (.map (some r)) (.int .u8 k) true).run P w=.ok (.tuple #[((l.find? λx=>x.1 == k).map Prod.snd).getD z,.bool (l.find? λx=>x.1 == k).isSome]) w:=by
 have h1:=λe=>zcy (P:=P) (w:=w) hk k e
 cases hf:l.find? λx=>x.1 == k with
 |none=>
  have hn:∀x∈l,x.1≠k:=λx hx e=>by
   rw[List.find?_eq_none] at hf;exact hf x hx (by simpa using e)
  have h2:=Go.MapKept.run_findKey (w:=w) hk (show Instr.findNow (.int .u8) (.int .u8 k) (Kn 0 l).toArray.toList 0=some none by simpa using Yd l 0 0 k hn);simp[Instr.lookup,run_underlying ht,Go.MapKept.run_getObj_map hb,h1,Result.andThen] at h2 ⊢;simp[h2,hz,Result.andThen]
 |some x=>
  obtain⟨kx,v⟩:=x;have MQ:kx=k:=by simpa using List.find?_some hf
  subst MQ;obtain⟨j,hj⟩:=JL l 0 0 kx v hf;have h2:=Go.MapKept.run_findKey (w:=w) hk (show Instr.findNow (.int .u8) (.int .u8 kx) (Kn 0 l).toArray.toList 0=some (some (j,v)) by simpa using hj);simp[Instr.lookup,run_underlying ht,Go.MapKept.run_getObj_map hb,h1,Result.andThen] at h2 ⊢;simp[h2]
def znq{t:TypeId}(ht:P.underlying t=some (.map kt et))(hk:P.underlying kt=some (.int .u8)){l:List (Nat×Value)}(hb:w.heap[r]? =some (YF l))(k:Nat)(v:Value)(hn:∀x∈l,x.1≠k):
 (Instr.mapUpdate t (.map (some r)) (.int .u8 k) v).run P w=.ok () {w with heap:=w.heap.setIfInBounds r (YF (l ++ [(k,v)]))}:=by
 have h1:=λe=>zcy (P:=P) (w:=w) hk k e
 have h2:=Go.MapKept.run_findKey (w:=w) hk (show Instr.findNow (.int .u8) (.int .u8 k) (Kn 0 l).toArray.toList 0=some none by simpa using Yd l 0 0 k hn);have e:YF (l ++ [(k,v)])=.map ((Kn 0 l).toArray.push ⟨.int .u8 k,v,l.length⟩) (l.length+1):=by
  unfold YF;rw[Xc];simp
 rw[e];simp[Instr.mapUpdate,run_underlying ht,Go.MapKept.run_getObj_map hb,h1,Result.andThen] at h2 ⊢;simp[h2,Go.MapKept.run_setObj_map _ hb]
def zkc{t:TypeId}(ht:P.underlying t=some (.map kt et))(hk:P.underlying kt=some (.int .u8))(hz:∀w:World,(zeroValue et).run P w=.ok z w){l:List (Nat×Value)}(hb:w.heap[r]? =some (YF l))(k:Nat)(hn:∀x∈l,x.1≠k):
 (Instr.mapEntry t (.map (some r)) (.int .u8 k)).run P w=.ok (.tuple #[z,.int .i64 l.length]) {w with heap:=w.heap.setIfInBounds r (YF (l ++ [(k,z)]))}:=by
 have h1:=λe=>zcy (P:=P) (w:=w) hk k e
 have h2:=Go.MapKept.run_findKey (w:=w) hk (show Instr.findNow (.int .u8) (.int .u8 k) (Kn 0 l).toArray.toList 0=some none by simpa using Yd l 0 0 k hn);have e:YF (l ++ [(k,z)])=.map ((Kn 0 l).toArray.push ⟨.int .u8 k,z,l.length⟩) (l.length+1):=by
  unfold YF;rw[Xc];simp
 rw[e];simp[Instr.mapEntry,run_underlying ht,Go.MapKept.run_getObj_map hb,h1,Result.andThen] at h2 ⊢;simp[h2,hz,Go.MapKept.run_setObj_map _ hb,Result.andThen,goInt]
theorem zbE:∀(l:List (Nat×Value)) (b:Nat) (x:Nat×Value),(Kn b (l ++ [x])).findIdx? (λe=>(e.born:Int) == ((b+l.length:Nat):Int))=some l.length
 |[],b,x=>by simp[Kn,List.findIdx?_cons]
 |y :: r,b,x=>by
  have ih:=zbE r (b+1) x;have e:((b:Int) == ((b+(y :: r).length:Nat):Int))=false:=by
   rw[pB,pH];omega
  rw[pQ];simp only[Kn,List.findIdx?_cons,e];rw[show b+(y :: r).length=b+1+r.length by rw[pH];omega,ih];simp
theorem Kk{α:Type}(f:α->α)(x:α):∀l:List α,(l ++ [x]).modify l.length f=l ++ [f x]
 |[]=>rfl
 |y :: l=>by
  show y :: (l ++ [x]).modify l.length f=y :: (l ++ [f x])
  rw[Kk f x l]
def zkb{t:TypeId}{l:List (Nat×Value)}(hb:w.heap[r]? =some (YF (l ++ [(k,z)])))(v:Value):
 (Instr.entryStore t (.map (some r)) (.int .i64 l.length) v).run P w=.ok () {w with heap:=w.heap.setIfInBounds r (YF (l ++ [(k,v)]))}:=by
 have hf:=zbE l 0 (k,z);rw[Nat.zero_add] at hf;have fV:(Kn 0 (l ++ [(k,z)])).toArray.findIdx? (λe=>(e.born:Int) == (l.length:Int))=some l.length:=by
  rw[List.findIdx?_toArray];exact hf
 have e:YF (l ++ [(k,v)])=.map ((Kn 0 (l ++ [(k,z)])).toArray.modify l.length λe=>{e with val:=v}) (l ++ [(k,z)]).length:=by
  unfold YF;rw[Xc,Xc];simp only[pE,pI];congr 1;apply Array.ext';rw[Array.toList_modify];simp only;have:=Kk (λe:MapEntry=>{e with val:=v}) ⟨.int .u8 k,z,0+l.length⟩ (Kn 0 l);rw[zg9] at this;exact this.symm
 rw[e];have ha:(asInt (.int .i64 l.length)).run P w=.ok (l.length:Int) w:=rfl;simp only[Instr.entryStore,Sem.run_bind,Go.MapKept.run_getObj_map hb,Result.andThen,ha];rw[fV];exact Go.MapKept.run_setObj_map _ hb
end
end
end Lode
namespace Go.Proofs.YtcagibbaeageoaaGreatDoor
section
open Go.RowKit Lode Go.Shelf
attribute [local go_sem ↓] wp_at_zero wp_at_succ
open Go.Proofs.Tryz
def Jq:List (Nat×List UInt8):=[(22,[111,114]),(21,[97,110,100]),(14,[61,61]),(15,[33,61]),(16,[60]),(17,[60,61]),(18,[62]),(19,[62,61]),(20,[105,115]),(8,[43]),(9,[45]),(10,[43,43]),(11,[42]),(12,[47]),(13,[37])]
def uY:List (Nat×Int):=[(22,1),(21,2),(14,4),(15,4),(16,4),(17,4),(18,4),(19,4),(20,4),(8,5),(9,5),(10,5),(11,6),(12,6),(13,6),(7,3),(6,7),(37,7),(38,7),(39,7),(23,8),(24,8)]
def js:List (Nat×Value):=Jq.map λx=>(x.1,.string ⟨x.2.toArray⟩)
def yZ:List (Nat×Value):=uY.map λx=>(x.1,.int .i64 x.2)
def zfz:∀k,k<256->((Jq.find? λx=>x.1 == k).map Prod.snd)=xU k:=by decide +kernel
def zfA:∀k,k<256->((uY.find? λx=>x.1 == k).map Prod.snd).getD 9=(qx k:Nat):=by decide +kernel
structure PrW(w:World)(P:Nat)(nv iv:Value):Prop where
 maps:∃s r,w.heap[P]? =some (.cells #[nv,iv,.map (some s),.map (some r)] 166 (0,0))/\w.heap[s]? =some (YF js)/\w.heap[r]? =some (YF yZ)
def PrW.below{P:Nat}(h:PrW w P nv iv)(hb:Below w.heap.size w w'):PrW w' P nv iv:=by
 obtain⟨s,r,h1,h2,h3⟩:=h.maps;exact⟨s,r,zi hb h1,(hb.block _ (gtA h2)).trans h2,(hb.block _ (gtA h3)).trans h3⟩
def zfr(hb:W.heap[r]? =some (YF yZ))(k:Nat):(Instr.lookup 164 (.map (some r)) (.int .u8 k) true).run prog W=.ok (.tuple #[((yZ.find? λx=>x.1 == k).map Prod.snd).getD (.int .i64 0),.bool (yZ.find? λx=>x.1 == k).isSome]) W:=
 zbn (z:=.int .i64 0) underlying164 underlying5 (by kernel_rfl) hb k
def Ke(k:Nat):(yZ.find? λx=>x.1 == k)=(uY.find? λx=>x.1 == k).map λx=>(x.1,Value.int .i64 x.2):=by
 unfold yZ;rw[List.find?_map];rfl
def zjE(l:List Nd)(kv:List Value)(nv iv:Value)(P node:Nat)(x:Nd)(w:World)(hP:PrW w P nv iv)(hN:NS w nv l kv)(hx:l[node]? =some x)(tO:x.kind<=255):Calls prog 222 #[.pointer (some ⟨P,0,none⟩),.int .i64 node] w (ue w (.int .i64 (qx x.kind:Nat))):=by
 obtain⟨s,r,h1,_,h3⟩:=hP.maps;obtain⟨np,nc,rfl⟩:=hN.form;have mD:(node:Int)<(l.length:Int):=by have:=(gtL hx);omega
 have h0:¬((node:Int)<0):=by omega
 obtain⟨g,off,u,rfl,hA⟩:=hN.at hx;have a0:=hA.c0;have Wz:=zfA x.kind (by omega);obtain⟨o,ho⟩:=exE (uY.find? (λy=>y.1 == x.kind));rw[ho] at Wz;have dY:=λ(W:World) (hb:W.heap[r]? =some (YF yZ))=>zfr hb x.kind
 rw[Ke,ho] at dY;clear ho;have hS:∀W,Cl w.drew W->W.cell? ⟨P,3,none⟩=some (.map (some r))/\W.cell? ⟨P,0,none⟩=some (.slice (some ⟨g,off,none⟩) l.length nc)/\W.cell? ⟨g,off+node*5,none⟩=some (.int .u8 x.kind)/\(Instr.lookup 164 (.map (some r)) (.int .u8 x.kind) true).run prog W=.ok (.tuple #[((o.map λx=>(x.1,Value.int .i64 x.2)).map Prod.snd).getD (.int .i64 0),.bool (o.map λx=>(x.1,Value.int .i64 x.2)).isSome]) W:=λW h=>by
  have hb:=zg (pG w.heap.size w).drew h.below;exact⟨zd (zi hb h1) 3,zd (zi hb h1) 0,zl hb a0,dY W ((hb.block _ (gtA h3)).trans h3)⟩
 clear dY hN hA a0 h1 h3 hP hx;cases o with
 |none=>
  have gO:(9:Int)=(qx x.kind:Nat):=Wz;rw[<-gO];simp only[Option.map_none,Option.getD_none,Option.isSome_none] at hS;clear Wz gO;go_enter func222,ntmps222;go_wp2_with fail;refine zb6 [(0,0),(1,0),(2,0),(3,1),(4,0),(5,0),(6,0),(7,0),(8,1),(9,0),(10,0),(11,0),(12,1),(13,1),(14,0),(15,0),(16,0),(17,0),(18,0)] ?_;refine goM ?_;refine zF λW hW=>?_
  go_wp2;go_ret;exact⟨rfl,zg (pG w.heap.size w).drew hW.below⟩
 |some y=>
  have gO:y.2=(qx x.kind:Nat):=Wz;rw[<-gO];simp only[Option.map_some,Option.getD_some,Option.isSome_some] at hS;clear Wz gO;go_enter func222,ntmps222;go_wp2_with fail;refine zb6 [(0,0),(1,0),(2,0),(3,1),(4,0),(5,0),(6,0),(7,0),(8,1),(9,0),(10,0),(11,0),(12,1),(13,1),(14,0),(15,0),(16,0),(17,0),(18,0)] ?_;refine goM ?_;refine zF λW hW=>?_
  go_wp2;go_ret;exact⟨rfl,zg (pG w.heap.size w).drew hW.below⟩
theorem KS.take{l:List Int}(h:KS w (.slice (some ⟨g,off,none⟩) n cap) l)(b:Nat)(hb:b<=l.length):KS w (.slice (some ⟨g,off,none⟩) b cap) (l.take b):=by
 have h1:=h.cap;have:=h.sub (cap':=cap) 0 b (pU _) hb (by omega);simpa using this
def KS.dropc{l:List Int}(h:KS w (.slice (some ⟨g,off,none⟩) n cap) l)(a:Nat)(ha:a<=l.length):KS w (.slice (some ⟨g,off+a,none⟩) (n-a) (cap-a)) (l.drop a):=by
 have h1:=h.cap;have:=h.sub (cap':=cap-a) a l.length ha (pC _) (by omega);rw[List.take_length,<-h1.1] at this;exact this
def RdT(w:World)(l:List UInt8)(e:Ending)(w':World):Prop:=∃b:ByteArray,e=.returned (.string b)/\b.data.toList=l/\Below w.heap.size w w'
def xH{b:ByteArray}{l:List UInt8}(h:b.data.toList=l):b.size=l.length:=by rw[<-h];rfl
def prM{l:List Oper}(po:l[i]? =some o)(hw:Region.wanted o (yielded l.toArray a.tmps)=true)(Eg:∀w,(execOp a.eval o).run prog w=.ok (.enter fn args) w)(HN:Hid (∀V,Below wA.heap.size wA V->Calls prog fn args V (RdT V x)))(hb:Hid (Below wA.heap.size wA b))(h:∀(s:ByteArray) w1,Hid (s.data.toList=x)->s.size=x.length->Hid (Below wA.heap.size wA w1)->kR prog l.toArray Q q w1 (a.put o.dst (.string s))):kR prog l.toArray Q ((i,2) :: q) b a:=by
 refine yH po hw λK hK V hV=>?_
 unfold Oper.wp;rw[Eg V];refine (HN.q V (zg hb.q hV.below)).mono ?_;rintro e w1 ⟨s,rfl,hs,f⟩;exact⟨ZL.2 f,hK _ _ (h s w1 (zh hs) (xH hs) (zh (zg (zg hb.q hV.below) f)))⟩
structure PrC(w:World)(P:Nat)(nv iv:Value)(l:List Nd)(kv:List Value):Prop where
 pr:PrW w P nv iv
 ns:NS w nv l kv
 gl:jQ w
theorem PrC.below{P:Nat}{l:List Nd}(h:PrC w P nv iv l kv)(hb:Below w.heap.size w w'):PrC w' P nv iv l kv:=⟨h.pr.below hb,h.ns.below hb,h.gl.later hb⟩
structure vG(P:Nat)(nv iv:Value)(l:List Nd)(kv:List Value)(pr:Int->List UInt8)(n:Nat):Prop where
 ok:∀(w:World) (i:Nat),i<n->PrC w P nv iv l kv->Calls prog 108 #[.pointer (some ⟨P,0,none⟩),.int .i64 i] w (RdT w (pr i))
 len:∀i:Nat,i<n->(pr i).length<=3200000
 le:n<=l.length
 kind:∀x∈l,x.kind<=255
section
variable {P:Nat} {nv iv:Value} {l:List Nd} {kv:List Value} {pr:Int→List UInt8} {n:Nat}
def zha(H:vG P nv iv l kv pr n)(i least:Nat)(w:World)(hC:PrC w P nv iv l kv)(hi:i<n):Calls prog 159 #[.pointer (some ⟨P,0,none⟩),.int .i64 i,.int .i64 least] w (RdT w (jF l pr i least)):=by
 obtain⟨x,hx⟩:∃x,l[i]? =some x:=⟨_,glE (pX hi H.le)⟩;have cW:zD l i=x.kind:=by
  unfold zD;rw[pZ,hx];rfl
 have hN:=zh (H.ok w i hi hC);have hR:=zh (λW (hb:Below w.heap.size w W)=>zjE l kv nv iv P i x W (hC.below hb).pr (hC.below hb).ns hx (H.kind x (wH hx)));have mV:=H.len i hi;obtain⟨r,hr⟩:=exE (jF l pr i least);rw[hr];unfold jF at hr;rw[cW] at hr;clear hC hx cW;generalize qx x.kind=rk at *;generalize pr i=t at *;have Hr:=zh hr;clear hr H;go_enter func159,ntmps159;go_wp2_with fail;refine hN.q.mono ?_;rintro e w1 ⟨b,rfl,hb,mF⟩;have nX:=xH hb;have HB:=zh hb;have ar:=zh (hR.q w1 mF);clear hb;go_wp2_with fail;refine ar.q.mono ?_;rintro e w2 ⟨rfl,mM⟩;by_cases mD:rk<least
 ·have me:(rk:Int)<(least:Int):=by omega
  have h:=Hr.q;rw[if_pos mD] at h;subst h;go_wp2;go_ret;refine⟨_,rfl,?_,zg mF mM⟩;rw[<-HB.q];simp[zu]
 ·have me:¬(rk:Int)<(least:Int):=by omega
  have h:=Hr.q;rw[if_neg mD] at h;subst h;go_wp2;go_ret;exact⟨_,rfl,HB.q,zg mF mM⟩
def zgS(xs:List ByteArray):List Value:=xs.map Value.string
def zmV(pr:Int->List UInt8)(ks:List Int)(w:World)(out i:Value)(wr:World):Prop:=∃(j:Nat) (xs:List ByteArray),i=.int .i64 j/\j<=ks.length/\wr.ownsRow w.heap.size 9 1 out j (zgS xs)/\xs.map (·.data.toList)=(ks.take j).map pr/\Below w.heap.size w wr
theorem Ko:∀l:List (List UInt8),Go.Lib.join l [44,32]=vS l
 |[]=>rfl
 |[x]=>by simp[Go.Lib.join,vS]
 |x :: y :: r=>by
  have ih:=Ko (y :: r);unfold vS;rw[<-ih];simp[Go.Lib.join,List.intercalate,List.intersperse]
def Yt(h:∀x∈ls,x.length<=c):(vS ls).length<=(c+2)*ls.length:=by
 induction ls with
 |nil=>simp[vS]
 |cons x r ih=>
  have h1:=h x (List.mem_cons_self ..);have h2:=ih (λy hy=>h y (wJ _ hy));cases r with
  |nil=>
   simp only[vS,pH,pM];omega
  |cons y r=>
   unfold vS;simp only[pE,pH,pM] at h2 ⊢;rw[Nat.mul_add];omega
def jG(H:vG P nv iv l kv pr n)(mq:∀k∈ks,0<=k/\k<(n:Int))(mf:ks.length<=100000):(qo pr ks).length<=320000200000:=by
 have:=Yt (ls:=ks.map pr) (c:=3200000) (λy hy=>by
  obtain⟨k,hk,rfl⟩:=List.mem_map.1 hy;obtain⟨h0,h1⟩:=mq k hk;obtain⟨kn,rfl⟩:=pO h0;exact H.len kn (by omega))
 rw[wZ] at this;unfold qo;omega
def ZW(H:vG P nv iv l kv pr n)(v:Value)(ks:List Int)(w:World)(hC:PrC w P nv iv l kv)(hv:KS w v ks)(mq:∀k∈ks,0<=k/\k<(n:Int))(mf:ks.length<=100000):Calls prog 163 #[.pointer (some ⟨P,0,none⟩),v] w (RdT w (qo pr ks)):=by
 obtain⟨p,cap,rfl⟩:=hv.form;obtain⟨m,hm⟩:=exE (ks.length);rw[hm] at hv mf ⊢;have Hm:=zh hm;have HV:=zh hv;have HC:=zh hC;have HK:=zh mq;have HH:=zh H;have mK:=zh (show zmV pr ks w (.slice none 0 0) (.int .i64 0) w from ⟨0,[],rfl,pU _,⟨rfl,.inl ⟨rfl,rfl⟩⟩,rfl,pG _ _⟩);clear hm hv hC mq H;go_enter func163,ntmps163;go_wp2;go_loopw [5,10] (zmV pr ks w) (λ_ i _=>m-(intOf i).toNat)
 case atStart=>exact mK.q
 case round=>
  rename_i out _;obtain⟨j,xs,rfl,hj,mG,eD,hb⟩:=hrel;rw[Hm.q] at hj;by_cases mD:j<m
  ·have me:(j:Int)<(m:Int):=by omega
   have th:¬((j:Int)<0):=by omega
   have hy:=pF ((j:Int)+1) (by omega);have py:j<ks.length:=by rw[Hm.q];omega
   obtain⟨g2,off2,rfl,_,d0⟩:=(HV.q.below hb).at py;have gX:=HK.q (ks.getD j 0) (by rw[pA,glE py];exact wE py);have tN:(ks.take (j+1)).map pr=(ks.take j).map pr ++ [pr (ks.getD j 0)]:=by
    rw[gB,glE py,pA,glE py,List.map_append];rfl
   generalize ks.getD j 0=z at *;obtain⟨zn,rfl⟩:=pO gX.1;have hN:=zh (HH.q.ok wr zn (by omega) (HC.q.below hb));have HXS:=zh eD;have HTK:=zh tN;have nC:=zh mG;clear eD tN mG gX;go_wp2_with fail;refine hN.q.mono ?_;rintro e w1 ⟨b,rfl,pn,mF⟩;have HB:=zh pn;have dM:=zg hb mF;have my:=zm (zm nC.q mF) (zf w1 (.cells #[.string b] 9 (0,0)));have au:=zg dM (zf w1 (.cells #[.string b] 9 (0,0)));have nX:=dM.size;clear pn;go_wp2_with (at_builtin;refine zc0 rfl _ _ rfl rfl my rfl (zd (zk w1 _) 0) rfl rfl (by omega) (by simp;omega) ?_);intro g' cap' w2 mC mA mJ;have mM:=ZB au my mA;have nH:w2.ownsRow w.heap.size 9 1 (.slice (some ⟨g',0,none⟩) (j+1) cap') (j+1) (zgS (xs ++ [b])):=by
    simp only[zgS,List.map_append,List.map_cons,List.map_nil];exact mC
   replace nH:=zh nH;clear mC mA mJ my;go_wp2;go_roundw
   case rel=>exact⟨j+1,xs ++ [b],by go_num,by rw[Hm.q];omega,nH.q,by rw[List.map_append,HXS.q,HTK.q,List.map_cons,List.map_nil,HB.q],mM⟩
   case measure=>simp[intOf];omega
  ·have me:¬((j:Int)<(m:Int)):=by omega
   have fd:j=m:=by omega
   have tN:ks.take j=ks:=by rw[fd,<-Hm.q];exact List.take_length
   rw[tN] at eD;have FS:xs.length=m:=by
    have:=congrArg List.length eD;rw[wZ,wZ,Hm.q] at this;exact this
   have nZ:Go.Lib.join (xs.map (·.data.toList)) [44,32]=qo pr ks:=by
    rw[eD,Ko];rfl
   have de:(Go.Lib.join (xs.map (·.data.toList)) [44,32]).length<=140737488355328:=by
    rw[nZ];have:=Yt (ls:=ks.map pr) (c:=3200000) (λy hy=>by
     obtain⟨k,hk,rfl⟩:=List.mem_map.1 hy;obtain⟨h0,h1⟩:=HK.q k hk;obtain⟨kn,rfl⟩:=pO h0;exact HH.q.len kn (by omega))
    rw[wZ,Hm.q] at this;unfold qo;omega
   have Hfin:=zh nZ;rcases id mG.2 with⟨rfl,h0⟩|⟨g,cap2,cur,rfl,_⟩
   ·have hJ:=zh (Tryz.strings_Join_none none 0 ⟨#[44,32]⟩ wr);have eC:xs=[]:=pT (by omega);clear mG eD nZ de;go_wp2_with fail;refine hJ.q.mono ?_;rintro e w3 ⟨rfl,rfl⟩;go_wp2;go_ret;refine⟨_,rfl,?_,hb⟩;rw[<-Hfin.q,eC];rfl
   ·have sM:=λ(q:Nat) (x:ByteArray) (hx:xs[q]? =some x)=>(show wr.cell? ⟨g,0+q,none⟩=some (.string x) from by
     rw[Nat.zero_add];have:=mG.cellAt q (by rw[show j*1=j by omega];have:=(gtL hx);omega);rw[this];unfold zgS;rw[wC,hx];rfl)
    have pf:=(mG.lt g rfl).2;have ww:xs.length<=cap2:=by
     obtain⟨_,⟨hv,_⟩|⟨g',cap',cur',hv,_,_,pk,_⟩⟩:=mG
     ·cases hv
     ·cases hv;omega
    have hJ:=Tryz.strings_Join g 0 cap2 xs ⟨#[44,32]⟩ wr sM pf (by omega) ww de;rw[FS] at hJ;have HJ:=zh hJ;subst fd;clear mG eD nZ de hJ sM FS;go_wp2_with fail;refine HJ.q.mono ?_;rintro e w3 ⟨rfl,mU⟩;go_wp2;go_ret;exact⟨_,rfl,Hfin.q,zg hb mU⟩
def zfL(H:vG P nv iv l kv pr n)(v:Value)(ks:List Int)(w:World)(hC:PrC w P nv iv l kv)(hv:KS w v ks)(mq:∀k∈ks,0<=k/\k<(n:Int))(mf:ks.length<=100000):Calls prog 164 #[.pointer (some ⟨P,0,none⟩),v] w (RdT w (uI pr ks)):=by
 have hA:=zh (ZW H v ks w hC hv mq mf);obtain⟨p,cap,rfl⟩:=hv.form;have Mg:=Yt (ls:=ks.map pr) (c:=3200000) (λy hy=>by
  obtain⟨k,hk,rfl⟩:=List.mem_map.1 hy;obtain⟨h0,h1⟩:=mq k hk;obtain⟨kn,rfl⟩:=pO h0;exact H.len kn (by omega))
 rw[wZ] at Mg;obtain⟨r,hr⟩:=exE (uI pr ks);rw[hr];unfold uI at hr;have Hr:=zh hr;obtain⟨m,hm⟩:=exE (ks.length);rw[hm] at hA Mg mf ⊢;have Hm:=zh hm;have Hsm:=zh Mg;clear hr hC hv mq H hm Mg;by_cases h0:m=0
 ·subst h0;have hn:ks=[]:=pT Hm.q;have h:=Hr.q;rw[if_pos hn] at h;subst h;go_enter func164,ntmps164;go_wp2;go_ret;exact⟨_,rfl,rfl,pG _ _⟩
 ·have hn:ks≠[]:=λe=>h0 (by rw[<-Hm.q,e];rfl)
  have h:=Hr.q;rw[if_neg hn] at h;subst h;have Rr:((m:Int) == 0)=false:=bfE (by omega)
  go_enter func164,ntmps164;go_wp2_with fail;refine hA.q.mono ?_;rintro e w1 ⟨b,rfl,hb,mF⟩;have nX:=xH hb;unfold qo at nX;have FC:b.size<=3200002*100000:=by have:=Hsm.q;omega
  have HB:=zh hb;clear hb nX;go_wp2;go_ret;refine⟨_,rfl,?_,mF⟩;rw[<-HB.q];simp[zu]
def zeV(pr:Int->List UInt8)(last:Bool)(k:Int)(r:List Int):qA pr last (k :: r)=pr k ++ (if !r.isEmpty || !last then [59] else []) ++ [32] ++ qA pr last r:=by
 cases r with
 |nil=>cases last <;> simp[qA]
 |cons j r=>simp[qA]
def BAt.lat{B b:Nat}(h:BAt B b p bs w)(hb:Below w.heap.size w w'):BAt B b p bs w':=by
 obtain⟨hB,v,sn,mG,mu⟩:=h;exact⟨hB,v,zi hb sn,zm mG hb,mu⟩
theorem Bd.lat{w0:World}{b:Nat}(h:Bd w0 b ob w)(hb:Below w.heap.size w w'):Bd w0 b ob w':=⟨h.1.imp (λh=>BAt.lat h hb) (λh=>BAt.lat h hb),zg h.2 hb⟩
def zmL(pr:Int->List UInt8)(last:Bool)(ks:List Int)(wB:World)(B:Nat)(i:Value)(wr:World):Prop:=∃(j:Nat) (ob:ByteArray),i=.int .i64 j/\j<=ks.length/\Bd wB B ob wr/\Hid (ob.data.toList ++ qA pr last (ks.drop j)=[123,32] ++ qA pr last ks)/\ob.size<=2+3200002*j
def zfG(H:vG P nv iv l kv pr n)(x:Nd)(u:Value)(w:World)(hC:PrC w P nv iv l kv)(hu:KS w u x.kz)(mq:∀k∈x.kz,0<=k/\k<(n:Int))(mf:x.kz.length<=100000):Calls prog 165 #[.pointer (some ⟨P,0,none⟩),YH x u] w (RdT w (Xs pr x)):=by
 obtain⟨up,uc,rfl⟩:=hu.form;obtain⟨r,hr⟩:=exE (Xs pr x);rw[hr];unfold Xs at hr;unfold YH;obtain⟨x0,x1,x2,ks,x4⟩:=x;simp only at hr hu mq mf ⊢;obtain⟨m,hm⟩:=exE (ks.length);rw[hm] at hu mf ⊢;have Hm:=zh hm;have Hr:=zh hr;have HU:=zh hu;have HK:=zh mq;have HC:=zh hC;have HH:=zh H;have hA:=zf w (.cells #[.int .u8 x0,.string ⟨x1.toArray⟩,.int .i64 x2,.slice up m uc,.int .i64 x4] 60 (0,0));have HZ:=zh (zk w (.cells #[.int .u8 x0,.string ⟨x1.toArray⟩,.int .i64 x2,.slice up m uc,.int .i64 x4] 60 (0,0)));clear hm hr hu mq hC H;by_cases h0:m=0
 ·subst h0;have hn:ks=[]:=pT Hm.q;have h:=Hr.q;rw[if_pos hn] at h;subst h;go_enter func165,ntmps165;go_wp2;go_ret;exact⟨_,rfl,rfl,hA⟩
 have hn:ks≠[]:=λe=>h0 (by rw[<-Hm.q,e];rfl)
 have h:=Hr.q;rw[if_neg hn] at h;subst h;have Rr:((m:Int) == 0)=false:=bfE (by omega)
 have hwm:=pF ((m:Int)-1) (by omega);obtain⟨wB,SX⟩:=exE (w.alloc (.cells #[.int .u8 x0,.string ⟨x1.toArray⟩,.int .i64 x2,.slice up m uc,.int .i64 x4] 60 (0,0)));have Mh:wB.heap.size=w.heap.size+1:=by rw[<-SX];simp
 have bQ:∀W,Below wB.heap.size wB W->W.cell? ⟨w.heap.size,2,none⟩=some (.int .i64 x2)/\W.cell? ⟨w.heap.size,3,none⟩=some (.slice up m uc):=λW hb=>by
  have:=HZ.q;rw[SX] at this;exact⟨zd (zi hb this) 2,zd (zi hb this) 3⟩
 replace bQ:=zh bQ;rw[SX] at hA;have DZ:=zh ((Bd.fresh wB (w.heap.size+1) Mh.symm).writeStr ⟨#[123,32]⟩ (by decide));obtain⟨c2,c3⟩:=bQ.q wB bR;rw[<-SX] at c2 c3;have HwB:=zh SX;have HszB:=zh Mh;clear SX Mh;go_enter func165,ntmps165;go_wp2_with fail;clear c2 c3;rw[HwB.q];have Mh:=HszB.q;refine DZ.q.mono ?_;rintro e w1 ⟨rfl,mF⟩;have mK:=zh (show zmL pr (x2 != 0) ks wB (w.heap.size+1) (.int .i64 0) w1 from ⟨0,_,rfl,pU _,mF,zh (by simp),by decide⟩);obtain⟨c2,c3⟩:=bQ.q w1 mF.2;clear DZ;go_wp2;go_loopw [16] (zmL pr (x2 != 0) ks wB (w.heap.size+1)) (λi _=>m-(intOf i).toNat)
 case atStart=>exact mK.q
 case round=>
  obtain⟨j,ob,rfl,hj,hb,bf,nX⟩:=hrel;rw[Hm.q] at hj;clear c2 c3;by_cases mD:j<m
  ·have me:(j:Int)<(m:Int):=by omega
   have th:¬((j:Int)<0):=by omega
   have hy:=pF ((j:Int)+1) (by omega);have py:j<ks.length:=by rw[Hm.q];omega
   have nh:=zg hA hb.2;obtain⟨g2,off2,rfl,_,d0⟩:=(HU.q.below nh).at py;have gX:=HK.q (ks.getD j 0) (by rw[pA,glE py];exact wE py);have aS:ks.drop j=ks.getD j 0 :: ks.drop (j+1):=by
    rw[List.drop_eq_getElem_cons py,pA,glE py];rfl
   have rv:=bf.q;rw[aS,zeV] at rv;generalize ks.getD j 0=z at *;obtain⟨zn,rfl⟩:=pO gX.1;have hN:=zh (HH.q.ok wr zn (by omega) (HC.q.below nh));have bD:=HH.q.len zn (by omega);have HST:=zh rv;have HB:=zh hb;have fU:(ks.drop (j+1)).isEmpty=decide (m<=j+1):=by
    rw[pP,List.isEmpty_iff,pK,List.drop_eq_nil_iff,Hm.q]
   rw[fU] at HST;clear fU;clear rv aS gX hb bf;go_wp2_with fail;refine hN.q.mono ?_;rintro e w2 ⟨b,rfl,pn,mM⟩;have mL:=xH pn;have mU:=Bd.lat HB.q mM;have hW:=zh (mU.writeStr b (by omega));have HBB:=zh pn;clear pn;go_wp2_with fail;refine hW.q.mono ?_;rintro e w3 ⟨rfl,mQ⟩;obtain⟨c2,c3⟩:=bQ.q w3 mQ.2;by_cases eB:j+1<m\/x2=0
   ·have WK:(if !decide (m<=j+1) || !(x2 != 0) then [59] else [])=([59]:List UInt8):=by
     rw[if_pos];rw[wG];rcases eB with h|h
     ·left;simp;omega
     ·right;simp[h]
    have HST2:=zh (show ob.data.toList ++ (pr zn ++ [59] ++ [32] ++ qA pr (x2 != 0) (ks.drop (j+1)))=[123,32] ++ qA pr (x2 != 0) ks from by have h9:=HST.q;rw[WK] at h9;exact h9);have tU:=zh (mQ.write (by rw[ByteArray.size_append];omega) 59);have nZ:∀(w4:World),Bd wB (w.heap.size+1) (ob ++ b ++ ⟨#[59]⟩) w4->Calls prog 227 #[.pointer (some ⟨w.heap.size+1,0,none⟩),.int .u8 ((32:UInt8).toNat:Int)] w4 λe w'=>e=.returned .nilIface/\Bd wB (w.heap.size+1) (ob ++ b ++ ⟨#[59]⟩ ++ ⟨#[32]⟩) w':=λw4 h=>h.write (by rw[ByteArray.size_append,ByteArray.size_append];have e1:(⟨#[59]⟩:ByteArray).size=1:=rfl;omega) 32
    replace nZ:=zh nZ;clear WK HST;by_cases h1:j+1<m
    ·have z1:decide ((j:Int)<(m:Int)-1)=true:=by rw[pK];omega
     have Oa:(j:Int)<(m:Int)-1:=by omega
     go_wp2_with fail;refine tU.q.mono ?_;rintro e w4 ⟨rfl,mt⟩;have bM:=zh (nZ.q w4 (mt));go_wp2_with fail;refine bM.q.mono ?_;rintro e w5 ⟨rfl,nR⟩;go_wp2;go_roundw
     case rel=>exact⟨j+1,_,by go_num,by rw[Hm.q];omega,nR,zh (by rw[zu,zu,zu,HBB.q,<-HST2.q];simp),by rw[ByteArray.size_append,ByteArray.size_append,ByteArray.size_append];have e1:(⟨#[59]⟩:ByteArray).size=1:=rfl;have e2:(⟨#[32]⟩:ByteArray).size=1:=rfl;omega⟩
     case measure=>simp[intOf];omega
    ·have cg:x2=0:=eB.resolve_left h1;subst cg;have z1:decide ((j:Int)<(m:Int)-1)=false:=by rw[wQ];omega
     have Oa:¬(j:Int)<(m:Int)-1:=by omega
     go_wp2_with fail;refine tU.q.mono ?_;rintro e w4 ⟨rfl,mt⟩;have bM:=zh (nZ.q w4 (mt));go_wp2_with fail;refine bM.q.mono ?_;rintro e w5 ⟨rfl,nR⟩;go_wp2;go_roundw
     case rel=>exact⟨j+1,_,by go_num,by rw[Hm.q];omega,nR,zh (by rw[zu,zu,zu,HBB.q,<-HST2.q];simp),by rw[ByteArray.size_append,ByteArray.size_append,ByteArray.size_append];have e1:(⟨#[59]⟩:ByteArray).size=1:=rfl;have e2:(⟨#[32]⟩:ByteArray).size=1:=rfl;omega⟩
     case measure=>simp[intOf];omega
   ·have h1:¬(j+1<m):=λh=>eB (.inl h)
    have cg:x2≠0:=λh=>eB (.inr h)
    have WK:(if !decide (m<=j+1) || !(x2 != 0) then [59] else [])=([]:List UInt8):=by
     rw[if_neg];simp only[wG,Bool.not_eq_true',wQ,wX];intro h;rcases h with h|h
     ·omega
     ·exact cg h
    have HST2:=zh (show ob.data.toList ++ (pr zn ++ [] ++ [32] ++ qA pr (x2 != 0) (ks.drop (j+1)))=[123,32] ++ qA pr (x2 != 0) ks from by have h9:=HST.q;rw[WK] at h9;exact h9);have bM:=zh (mQ.write (by rw[ByteArray.size_append];omega) 32);clear WK HST;have z1:decide ((j:Int)<(m:Int)-1)=false:=by rw[wQ];omega
    have Oa:¬(j:Int)<(m:Int)-1:=by omega
    have hx2':(x2 == 0)=false:=bfE cg
    go_wp2_with fail;refine bM.q.mono ?_;rintro e w5 ⟨rfl,nR⟩;go_wp2;go_roundw
    case rel=>exact⟨j+1,_,by go_num,by rw[Hm.q];omega,nR,zh (by rw[zu,zu,HBB.q,<-HST2.q];simp),by rw[ByteArray.size_append,ByteArray.size_append];have e2:(⟨#[32]⟩:ByteArray).size=1:=rfl;omega⟩
    case measure=>simp[intOf];omega
  ·have me:¬((j:Int)<(m:Int)):=by omega
   have fd:j=m:=by omega
   have aS:ks.drop j=[]:=List.drop_eq_nil_of_le (by rw[Hm.q];omega);have rv:=bf.q;rw[aS] at rv;have HST:=zh rv;have tU:=zh (hb.write (by omega) 125);have nZ:∀(w4:World),Bd wB (w.heap.size+1) (ob ++ ⟨#[125]⟩) w4->Calls prog 67 #[.pointer (some ⟨w.heap.size+1,0,none⟩)] w4 λe w'=>e=.returned (.string (ob ++ ⟨#[125]⟩))/\BdF wB (w.heap.size+1) (ob ++ ⟨#[125]⟩) w':=λw4 h=>h.str
   replace nZ:=zh nZ;clear rv bf aS hb;go_wp2_with fail;refine tU.q.mono ?_;rintro e w4 ⟨rfl,mt⟩;have hS:=zh (nZ.q w4 mt);go_wp2_with fail;refine hS.q.mono ?_;rintro e w5 ⟨rfl,nR⟩;go_wp2;go_ret;refine⟨_,rfl,?_,zg hA nR.2⟩;rw[zu];have:=HST.q;simp only[qA,gD] at this;rw[this];rfl
end
variable {P:Nat} {nv iv:Value} {l:List Nd} {kv:List Value} {pr:Int→List UInt8} {n:Nat}
def zcf(H:vG P nv iv l kv pr n){x:Nd}(mq:∀k∈x.kz,0<=k/\k<(n:Int))(mf:x.kz.length<=100000)(Hh:wo+1<=x.kz.length):(jc pr x wo).length<=320004000000:=by
 unfold jc zW;have h1:=jG H (ks:=x.kz.take (x.kz.length-1-wo)) (λk hk=>mq k (List.mem_of_mem_take hk)) (pN (List.length_take_le _ _) (by omega));have db:x.kz.length-1-wo<x.kz.length:=by omega
 have tY:x.kz.getD (x.kz.length-1-wo) 0∈x.kz:=by rw[pA,glE db];exact wE db
 obtain⟨h0,h2⟩:=mq _ tY;generalize x.kz.getD (x.kz.length-1-wo) 0=z at *;obtain⟨z,rfl⟩:=pO h0;have h3:=H.len z (by omega);simp only[pE,pH,pM];omega
def zij(H:vG P nv iv l kv pr n)(x:Nd)(u:Value)(wo:Nat)(w:World)(hC:PrC w P nv iv l kv)(hu:KS w u x.kz)(mq:∀k∈x.kz,0<=k/\k<(n:Int))(mf:x.kz.length<=100000)(Hh:wo+1<=x.kz.length):Calls prog 231 #[.pointer (some ⟨P,0,none⟩),YH x u,.int .i64 wo] w (RdT w (jc pr x wo)):=by
 obtain⟨up,uc,rfl⟩:=hu.form;obtain⟨R,hR⟩:=exE (jc pr x wo);rw[hR];unfold jc zW at hR;unfold YH;obtain⟨x0,x1,x2,ks,x4⟩:=x;simp only at hR hu mq mf Hh ⊢;obtain⟨m,hm⟩:=exE (ks.length);obtain⟨q,hq⟩:=exE (m-1-wo);rw[hm] at hR hu mf Hh ⊢;rw[hq] at hR;have db:q<ks.length:=by omega
 have ww:=hu.cap.2;obtain⟨g,off,rfl,_,d0⟩:=hu.at db;have tY:ks.getD q 0∈ks:=by rw[pA,glE db];exact wE db
 obtain⟨h0,h1⟩:=mq _ tY;have hA:=zf w (.cells #[.int .u8 x0,.string ⟨x1.toArray⟩,.int .i64 x2,.slice (some ⟨g,off,none⟩) m uc,.int .i64 x4] 60 (0,0));have hZ:=zk w (.cells #[.int .u8 x0,.string ⟨x1.toArray⟩,.int .i64 x2,.slice (some ⟨g,off,none⟩) m uc,.int .i64 x4] 60 (0,0));generalize sS:w.alloc (.cells #[.int .u8 x0,.string ⟨x1.toArray⟩,.int .i64 x2,.slice (some ⟨g,off,none⟩) m uc,.int .i64 x4] 60 (0,0))=wA at hA hZ;have BY:∀k∈ks.take q,0<=k/\k<(n:Int):=λk hk=>mq k (List.mem_of_mem_take hk)
 have ey:(ks.take q).length<=100000:=pN (List.length_take_le _ _) (by omega);have HL:=zh (λW (hb:Below wA.heap.size wA W)=>ZW H (.slice (some ⟨g,off,none⟩) q uc) (ks.take q) W (hC.below (zg hA hb)) ((KS.take hu q (by omega)).below (zg hA hb)) BY ey);have sL:=jG H BY ey;generalize ks.getD q 0=z at *;obtain⟨z,rfl⟩:=pO h0;have HN:=zh (λW (hb:Below wA.heap.size wA W)=>H.ok W z (by omega) (hC.below (zg hA hb)));have sN:=H.len z (by omega);have HS:=zh (show ∀W,Below wA.heap.size wA W->W.cell? ⟨w.heap.size,3,none⟩=some (.slice (some ⟨g,off,none⟩) m uc)/\W.cell? ⟨g,off+q,none⟩=some (.int .i64 z) from λW hb=>⟨zd (zi hb hZ) 3,zl hb (zl hA d0)⟩);have rE:=pF ((m:Int)-1) (by omega);have tK:IntKind.i64.wrap ((m:Int)-1-(wo:Int))=(q:Int):=by rw[pF _ ⟨by omega,by omega⟩];omega
 have gL:¬((q:Int)<0):=by omega
 have cZ:¬((uc:Int)<(q:Int)):=by omega
 have rt:(q:Int)<(m:Int):=by omega
 have HR:=zh hR;obtain⟨c3,OY⟩:=HS.q wA bR;rw[<-sS] at c3 OY;have HwA:=zh sS;clear sS;have nA:=zh (show Below wA.heap.size wA wA.drew from bR.drew);generalize hpz:pr z=pz at *;generalize hpL:qo pr (ks.take q)=pL at *;clear hC hu H hZ hR d0 mq BY ey tY hm hq db;go_enter func231,ntmps231;go_wp2_with fail;rw[HwA.q];clear c3 OY;refine zb6 [(0,0),(1,0),(2,1),(3,0),(4,0),(8,0),(9,0),(10,1),(11,0),(12,0),(13,1),(5,2),(6,0),(7,0),(14,2),(15,0),(16,0)] ?_;have hS:=λW (h:Cl wA.drew W)=>HS.q W (zg bR.drew h.below)
 refine goM ?_;clear hS;refine yH rfl rfl (λK hK V hV=>?_);have gz:=zg nA.q hV.below;go_simp;refine (HL.q V gz).mono ?_;rintro e w1 ⟨b1,rfl,cZ,f1⟩;have zz_1:=xH cZ;replace cZ:=zh cZ;have mF:=zh (zg gz f1);go_simp;refine⟨ZL.2 f1,hK _ _ ?_⟩;clear hK K gz hV
 try simp only[Act.put,yh,yf,yg]
 refine goM ?_;refine yH rfl rfl (λK hK V hV=>?_);have gz:=zg mF.q hV.below;go_simp;refine (HN.q V gz).mono ?_;rintro e w2 ⟨b2,rfl,rt,f2⟩;have zz_2:=xH rt;replace rt:=zh rt;have mM:=zh (zg gz f2);go_simp;refine⟨ZL.2 f2,hK _ _ ?_⟩;clear hK K gz hV
 try simp only[Act.put,yh,yf,yg]
 refine goM ?_;refine zF λW hW=>?_
 have er:=zh (zg hA (zg mM.q hW.below));clear hW;go_wp2;go_ret;refine⟨_,rfl,?_,er.q⟩;rw[<-HR.q];simp[zu,cZ.q,rt.q]
abbrev NdS(W:World)(s o:Nat)(k:Nat)(t:List UInt8)(n:Int)(up:Option Addr)(m uc:Nat)(a:Int):Prop:=W.cell? ⟨s,o,none⟩=some (.int .u8 k)/\W.cell? ⟨s,o+1,none⟩=some (.string ⟨t.toArray⟩)/\W.cell? ⟨s,o+2,none⟩=some (.int .i64 n)/\W.cell? ⟨s,o+3,none⟩=some (.slice up m uc)/\W.cell? ⟨s,o+4,none⟩=some (.int .i64 a)
def NdS.later{o:Nat}{n a:Int}(h:NdS W s o k t n up m uc a)(hb:Below W.heap.size W V):NdS V s o k t n up m uc a:=⟨zl hb h.1,zl hb h.2.1,zl hb h.2.2.1,zl hb h.2.2.2.1,zl hb h.2.2.2.2⟩
def Ql(h:∀j,j<m->∃z:Nat,A j z/\∀W,Below wA.heap.size wA W->W.cell? ⟨g,off+j,none⟩=some (.int .i64 z))(hS:∀V,Cl wA.drew V->S V)(j:Nat)(ji:Int)(h1:(j:Int)=ji:=by omega)(h2:j<m:=by omega):∃z:Nat,A j z/\(ji<(m:Int)/\j<m)/\wA.cell? ⟨g,off+j,none⟩=some (.int .i64 z)/\∀V,Cl wA.drew V->S V/\V.cell? ⟨g,off+j,none⟩=some (.int .i64 z):=by
 obtain⟨z,a,c⟩:=h j h2;exact⟨z,a,⟨by omega,h2⟩,c _ bR,λV hV=>⟨hS V hV,c V (bR.drew.trans hV.below)⟩⟩
def ZI(h:∀j,j<m->∃z:Nat,A j z/\∀W,Below wA.heap.size wA W->W.cell? ⟨g,off+j,none⟩=some (.int .i64 z))(hS:∀V,Cl wA.drew V->S V)(h2:0<m:=by omega):∃z:Nat,A 0 z/\((0:Int)<(m:Int)/\0<m)/\wA.cell? ⟨g,off,none⟩=some (.int .i64 z)/\∀V,Cl wA.drew V->S V/\V.cell? ⟨g,off,none⟩=some (.int .i64 z):=Ql h hS 0 0 rfl h2
section
variable {P:Program} {l:List Oper} {w:World} {a a':Act} {q r':List (Nat×Nat)}
def kS{id:Nat}{Q:Exit->Act->World->Prop}(ord:List (Nat×Nat))(h:kR P l.toArray (Q .normal) r' w.drew a')(hh:kR P l.toArray (Q .normal) r' w.drew a'->kR P l.toArray (Q .normal) ord w.drew a:=by
 intro hM
 repeat ((first|refine ZP rfl rfl rfl ?_|(apply ZO rfl rfl;intro _;(go_simp <;> first|rfl|rw[if_neg (by first|omega|(simp;omega))]|rw[if_pos (by omega)]))|(apply ZQ hS rfl rfl;intro _ _;go_split_ands;(go_simp <;> rfl)));simp only[Act.put,yh,yf,yg])
 exact hM)(hm:P.follows .mixedOrders=true:=by kernel_rfl)(hc:LodeX.kJ l.toArray ord=true:=by kernel_rfl):(Code.region id l.toArray true).wp P Q a w:=jp ord hm hc (hh h)
def ZH{a':ByteArray->Act}(HN:Hid (∀V,Below wA.heap.size wA V->Calls prog fn args V (RdT V x)))(hb:Hid (Below wA.heap.size wA b))(h:∀(s:ByteArray) w1,Hid (s.data.toList=x)->s.size=x.length->Hid (Below wA.heap.size wA w1)->kR prog l.toArray Q r' w1 (a' s))(po:l[i]? =some o:=by exact rfl)(hw:Region.wanted o (yielded l.toArray a.tmps)=true:=by exact rfl)(Eg:∀w,(execOp a.eval o).run prog w=.ok (.enter fn args) w:=by intro _;go_simp)(hh:∀(s:ByteArray) w1,s.size=x.length->kR prog l.toArray Q r' w1 (a' s)->kR prog l.toArray Q q w1 (a.put o.dst (.string s)):=by
 intro s w1 y1
 try simp only[Act.put,yh,yf,yg]
 intro hM
 repeat ((first|refine ZP rfl rfl rfl ?_|(apply ZO rfl rfl;intro _;(go_simp <;> first|rfl|rw[if_neg (by first|omega|(simp;omega))]|rw[if_pos (by omega)]))|(apply ZQ hS rfl rfl;intro _ _;go_split_ands;(go_simp <;> rfl)));simp only[Act.put,yh,yf,yg])
 exact hM):kR prog l.toArray Q ((i,2) :: q) b a:=prM po hw Eg HN hb λs w1 p1 y1 mF=>hh s w1 y1 (h s w1 p1 y1 mF)
def uC(HB:Hid (Below w.heap.size w wA))(hb:Hid (Below wA.heap.size wA b))(h:∀W,Below w.heap.size w W->Q a W):kR P l.toArray Q [] b a:=λW hW=>h W (zg HB.q (zg hb.q hW.below))
def Qe{x:ByteArray}(HB:Hid (Below w.heap.size w wA))(hb:Below wA.heap.size wA V)(he:x.data.toList=R):RdT w R (.returned (.string x)) V:=⟨_,rfl,he,zg HB.q hb⟩
end
section
variable {P:Nat} {nv iv:Value} {l:List Nd} {kv:List Value} {pr:Int→List UInt8} {n:Nat}
def zcd(H:vG P nv iv l kv pr n)(hC:PrC w P nv iv l kv){k a:Int}(hu:KS w u ks)(mq:∀k∈ks,0<=k/\k<(n:Int))(mf:ks.length<=100000):∃(g off:Nat) (up:Option Addr) (uc:Nat) (wA:World),u=.slice up ks.length uc/\(up=some ⟨g,off,none⟩\/ks.length=0)/\ks.length<=uc/\w.alloc (.cells #[.int .u8 K,.string ⟨t.toArray⟩,.int .i64 k,.slice up ks.length uc,.int .i64 a] 60 (0,0))=wA/\
 NdS (w.alloc (.cells #[.int .u8 K,.string ⟨t.toArray⟩,.int .i64 k,.slice up ks.length uc,.int .i64 a] 60 (0,0))) w.heap.size 0 K t k up ks.length uc a/\Hid (∀W,Below wA.heap.size wA W->NdS W w.heap.size 0 K t k up ks.length uc a)/\Hid (Below w.heap.size w wA)/\
 (∀j,j<ks.length->∃z:Nat,(Hid (∀W,Below wA.heap.size wA W->Calls prog 108 #[.pointer (some ⟨P,0,none⟩),.int .i64 z] W (RdT W ((λj=>pr (zW ⟨K,t,k,ks,a⟩ j)) j)))/\((λj=>pr (zW ⟨K,t,k,ks,a⟩ j)) j).length<=3200000/\z<n/\zW ⟨K,t,k,ks,a⟩ j=(z:Int)/\∀q:Nat,Hid (∀W,Below wA.heap.size wA W->Calls prog 159 #[.pointer (some ⟨P,0,none⟩),.int .i64 z,.int .i64 q] W (RdT W ((λj q=>jF l pr (zW ⟨K,t,k,ks,a⟩ j) q) j q)))/\((λj q=>jF l pr (zW ⟨K,t,k,ks,a⟩ j) q) j q).length<=3200002)/\∀W,Below wA.heap.size wA W->W.cell? ⟨g,off+j,none⟩=some (.int .i64 z))/\
 (Hid (∀W,Below wA.heap.size wA W->Calls prog 163 #[.pointer (some ⟨P,0,none⟩),.slice up ks.length uc] W (RdT W (qo pr ks)))/\(qo pr ks).length<=320000200000):=by
 obtain⟨up,uc,rfl⟩:=hu.form;have hA:=zf w (.cells #[.int .u8 K,.string ⟨t.toArray⟩,.int .i64 k,.slice up ks.length uc,.int .i64 a] 60 (0,0));have hz:=zk w (.cells #[.int .u8 K,.string ⟨t.toArray⟩,.int .i64 k,.slice up ks.length uc,.int .i64 a] 60 (0,0));have hN:NdS (w.alloc (.cells #[.int .u8 K,.string ⟨t.toArray⟩,.int .i64 k,.slice up ks.length uc,.int .i64 a] 60 (0,0))) w.heap.size 0 K t k up ks.length uc a:=⟨zd hz 0,zd hz 1,zd hz 2,zd hz 3,zd hz 4⟩;have hg:∃g off,up=some ⟨g,off,none⟩\/ks.length=0:=by
  rcases Nat.eq_zero_or_pos ks.length with h|h
  ·exact⟨0,0,.inr h⟩
  ·obtain⟨g,off,h,_⟩:=hu.at h;exact⟨g,off,.inl h⟩
 obtain⟨g,off,hg⟩:=hg;refine⟨g,off,up,uc,_,rfl,hg,hu.cap.2,rfl,hN,zh λW hW=>hN.later hW,zh hA,λj hj=>?_,zh λW hW=>ZW H _ ks W (hC.below (zg hA hW)) (hu.below (zg hA hW)) mq mf,jG H mq mf⟩;obtain⟨g',off',he,_,hc⟩:=hu.at hj;have tY:ks.getD j 0∈ks:=by rw[pA,glE hj];exact wE hj
 obtain⟨h0,h1⟩:=mq _ tY;rcases hg with hg|hg
 ·rw[hg] at he;cases he;simp only[zW];generalize ks.getD j 0=z at *;obtain⟨z,rfl⟩:=pO h0;exact⟨z,⟨zh λW hW=>H.ok W z (by omega) (hC.below (zg hA hW)),H.len z (by omega),by omega,rfl,λq=>⟨zh λW hW=>zha H z q W (hC.below (zg hA hW)) (by omega),by have:=qn l pr z q;have:=H.len z (by omega);show (jF _ _ _ _).length<=_;omega⟩⟩,λW hW=>zl (zg hA hW) hc⟩
 ·omega
def zaG(H:vG P nv iv l kv pr n)(mq:∀k∈ks,0<=k/\k<(n:Int))(mf:ks.length<=100000):(uI pr ks).length<=320000200002:=by
 have:=jG H mq mf;unfold uI;split <;> simp;omega
def zce(H:vG P nv iv l kv pr n)(hC:PrC w P nv iv l kv){k a:Int}(hu:KS w u ks)(mq:∀k∈ks,0<=k/\k<(n:Int))(mf:ks.length<=100000)(hA:Below w.heap.size w wA)(Hh:wo+1<=ks.length):Hid (∀W,Below wA.heap.size wA W->Calls prog 231 #[.pointer (some ⟨P,0,none⟩),.agg #[.int .u8 K,.string ⟨t.toArray⟩,.int .i64 k,u,.int .i64 a],.int .i64 wo] W (RdT W ((λwo=>jc pr ⟨K,t,k,ks,a⟩ wo) wo)))/\((λwo=>jc pr ⟨K,t,k,ks,a⟩ wo) wo).length<=320004000000:=
 ⟨zh λW hW=>zij H ⟨K,t,k,ks,a⟩ u wo W (hC.below (zg hA hW)) (hu.below (zg hA hW)) mq mf Hh,zcf H (x:=⟨K,t,k,ks,a⟩) mq mf Hh⟩
def zgT(H:vG P nv iv l kv pr n)(hC:PrC w P nv iv l kv)(hu:KS w (.slice (some ⟨g,off,none⟩) ks.length uc) ks)(mq:∀k∈ks,0<=k/\k<(n:Int))(mf:ks.length<=100000)(hA:Below w.heap.size w wA):
 (1<=ks.length->Hid (∀W,Below wA.heap.size wA W->Calls prog 163 #[.pointer (some ⟨P,0,none⟩),.slice (some ⟨g,off+1,none⟩) (ks.length-1) (uc-1)] W (RdT W (qo pr ks.tail))))/\(2<=ks.length->Hid (∀W,Below wA.heap.size wA W->Calls prog 163 #[.pointer (some ⟨P,0,none⟩),.slice (some ⟨g,off,none⟩) 2 uc] W (RdT W (qo pr (ks.take 2)))))/\(qo pr ks.tail).length<=320000200000/\(qo pr (ks.take 2)).length<=320000200000:=by
 rw[<-List.drop_one];have hd:∀k∈ks.drop 1,0<=k/\k<(n:Int):=λk hk=>mq k (List.mem_of_mem_drop hk)
 have ht:∀k∈ks.take 2,0<=k/\k<(n:Int):=λk hk=>mq k (List.mem_of_mem_take hk)
 have dt:(ks.drop 1).length<=100000:=by rw[wT];omega
 have ey:(ks.take 2).length<=100000:=pN (List.length_take_le _ _) (by omega);exact⟨λh=>zh λW hW=>ZW H _ _ W (hC.below (zg hA hW)) ((KS.dropc hu 1 h).below (zg hA hW)) hd dt,λh=>zh λW hW=>ZW H _ _ W (hC.below (zg hA hW)) ((KS.take hu 2 h).below (zg hA hW)) ht ey,jG H hd dt,jG H ht ey⟩
def zik(H:vG P nv iv l kv pr n){k a:Int}(hC:PrC w P nv iv l kv)(hu:KS w u ks)(mq:∀k∈ks,0<=k/\k<(n:Int))(mf:ks.length<=100000)(ht:t.length<=3000)(mE:(xr K).1<=ks.length)(hK:60<=K/\K<=65):Calls prog 167 #[.pointer (some ⟨P,0,none⟩),.agg #[.int .u8 K,.string ⟨t.toArray⟩,.int .i64 k,u,.int .i64 a]] w (RdT w (kH pr ⟨K,t,k,ks,a⟩)):=by
 have eo:=zh (λ(g off uc:Nat) (e:u=.slice (some ⟨g,off,none⟩) ks.length uc) wA hA=>zgT (g:=g) (off:=off) (uc:=uc) H (wA:=wA) hC (e▸hu) mq mf hA);obtain⟨g,off,up,uc,wA,rfl,sw,ww,sS,⟨e2,e3,e4,e5,e6⟩,HS,HB,tE,cF⟩:=zcd H hC (K:=K) (t:=t) (k:=k) (a:=a) hu mq mf;have NG:=λwo (h:wo+1<=ks.length)=>zce H hC (K:=K) (t:=t) (k:=k) (a:=a) hu mq mf HB.q h
 obtain⟨R,hr⟩:=exE (kH pr ⟨K,t,k,ks,a⟩);rw[hr];unfold kH at hr;simp only at hr;generalize fI:(λj=>pr (zW ⟨K,t,k,ks,a⟩ j))=KP at *;have fJ:∀j,pr (zW ⟨K,t,k,ks,a⟩ j)=KP j:=λj=>congrFun fI j
 simp only[fJ] at hr;generalize qo pr ks=A0 at *;generalize NH:(λwo=>jc pr ⟨K,t,k,ks,a⟩ wo)=HP at *;have NF:∀j,jc pr ⟨K,t,k,ks,a⟩ j=HP j:=λj=>congrFun NH j
 try simp only[NF] at hr
 have HwA:=zh sS;have Hkd:=zh tE;have Hhd:=zh NG;have Hr:=zh hr;have Hf:=zh mE;have nA:=zh ((pG wA.heap.size wA).drew);have hS:∀V,Cl wA.drew V->NdS V w.heap.size 0 K t k up ks.length uc a:=λV hV=>HS.q V (bR.drew.trans hV.below)
 clear hC mq fI fJ NH NF hr tE NG sS mE;go_enter func167,ntmps167;go_wp2_with fail
 ·have mb:=kd (k:=K) (by assumption);have hm:=mb▸Hf.q;change 1<=ks.length at hm;have hr:=mb▸Hr.q;simp at hr;subst hr;obtain rfl:=sw.resolve_right (by omega);obtain⟨z1,⟨N1,l1,_⟩,⟨i1,j1⟩,d1,hS⟩:=ZI Hkd.q hS;rw[HwA.q];refine kS [(0,0),(1,1),(2,0),(3,0),(4,0),(5,0),(6,1),(7,0),(8,1),(9,2),(10,0),(11,0)] ?_;refine ZH N1 nA λt1 w1 p1 y1 mF=>?_
  refine uC HB mF λW hW=>?_
  go_wp2;go_ret;refine⟨_,rfl,?_,hW⟩;simp[zu,p1.q]
 ·have mb:=kd (k:=K) (by assumption);have hm:=mb▸Hf.q;change 1<=ks.length at hm;have hr:=mb▸Hr.q;simp at hr;subst hr;obtain rfl:=sw.resolve_right (by omega);obtain⟨z1,⟨N1,l1,_⟩,⟨i1,j1⟩,d1,hS⟩:=ZI Hkd.q hS;rw[HwA.q];refine kS [(0,0),(1,1),(2,0),(3,0),(4,0),(5,0),(6,1),(7,0),(8,1),(9,2),(10,0),(11,0)] ?_;refine ZH N1 nA λt1 w1 p1 y1 mF=>?_
  refine uC HB mF λW hW=>?_
  go_wp2;go_ret;refine⟨_,rfl,?_,hW⟩;simp[zu,p1.q]
 ·have mb:=kd (k:=K) (by assumption);have hm:=mb▸Hf.q;change 2<=ks.length at hm;have hr:=mb▸Hr.q;simp at hr;subst hr;obtain rfl:=sw.resolve_right (by omega);obtain⟨z1,⟨N1,l1,_⟩,⟨i1,j1⟩,d1,hS⟩:=ZI Hkd.q hS;obtain⟨z2,⟨N2,l2,_⟩,⟨i2,j2⟩,d2,hS⟩:=Ql Hkd.q hS (1) (1);rw[HwA.q];refine kS [(0,0),(1,0),(2,1),(3,0),(4,1),(7,0),(8,0),(9,1),(10,0),(11,1),(5,2),(6,0),(12,2),(13,0),(14,0)] ?_;refine ZH N1 nA λt1 w1 p1 y1 mF=>?_
  refine ZH N2 mF λt2 w2 p2 y2 mM=>?_
  refine uC HB mM λW hW=>?_
  go_wp2;go_ret;refine⟨_,rfl,?_,hW⟩;simp[zu,p1.q,p2.q]
 ·have mb:=kd (k:=K) (by assumption);have hm:=mb▸Hf.q;change 2<=ks.length at hm;have hr:=mb▸Hr.q;simp at hr;subst hr;obtain rfl:=sw.resolve_right (by omega);obtain⟨z1,⟨N1,l1,_⟩,⟨i1,j1⟩,d1,hS⟩:=ZI Hkd.q hS;obtain⟨z2,⟨N2,l2,_⟩,⟨i2,j2⟩,d2,hS⟩:=Ql Hkd.q hS (1) (1);rw[HwA.q];refine kS [(0,0),(1,0),(2,1),(3,0),(4,1),(8,0),(9,1),(12,0),(13,0),(14,1),(15,0),(16,1),(5,2),(6,0),(7,0),(10,0),(11,0),(17,2),(18,0),(19,0)] ?_;refine ZH N1 nA λt1 w1 p1 y1 mF=>?_
  refine ZH N2 mF λt2 w2 p2 y2 mM=>?_
  refine uC HB mM λW hW=>?_
  go_wp2;go_ret;refine⟨_,rfl,?_,hW⟩;simp[zu,p1.q,p2.q]
 ·have mb:=kd (k:=K) (by assumption);have hm:=mb▸Hf.q;change 3<=ks.length at hm;have hr:=mb▸Hr.q;simp at hr;subst hr;obtain rfl:=sw.resolve_right (by omega);obtain⟨_,hT,_,lT⟩:=eo.q g off uc rfl wA HB.q;have N1:=hT (by omega);have Lp:¬((uc:Int)<2):=by omega
  obtain⟨z2,⟨N2,l2,_⟩,⟨i2,j2⟩,d2,hS⟩:=Ql Hkd.q hS (2) (2);rw[HwA.q];refine kS [(0,0),(1,0),(2,1),(3,0),(7,0),(8,0),(9,1),(10,0),(11,1),(4,2),(5,0),(6,0),(12,2),(13,0),(14,0)] ?_;refine ZH N1 nA λt1 w1 p1 y1 mF=>?_
  refine ZH N2 mF λt2 w2 p2 y2 mM=>?_
  refine uC HB mM λW hW=>?_
  go_wp2;go_ret;refine⟨_,rfl,?_,hW⟩;simp[zu,p1.q,p2.q]
 ·have mb:K=65:=by
   simp only[pB] at *;omega
  have hm:=mb▸Hf.q;change 1<=ks.length at hm;have hr:=mb▸Hr.q;simp at hr;subst hr;obtain rfl:=sw.resolve_right (by omega);obtain⟨z1,⟨N1,l1,_⟩,⟨i1,j1⟩,d1,hS⟩:=ZI Hkd.q hS;rw[HwA.q] at e2 e3 e4 e5 e6 ⊢;go_wp2_with fail;refine (N1.q _ bR).mono ?_;rintro e w1 ⟨t1,rfl,p1,f1⟩;have y1:=xH p1;go_wp2;go_ret;refine Qe HB f1 ?_;simp[zu,p1]
def zhb(hC:PrC w P0 nv0 iv0 l0 kv0){k:Int}(h1: -1000000000<=k)(h2:k<=1000000000)(hb:Below w.heap.size w W):Calls prog 160 #[.int .i64 k] W (RdT W (Go.Lib.itoa k)):=by
 refine (Tryz.strconv_Itoa k (by omega) (by omega) W (hC.below hb).gl.pow).mono ?_;rintro e w2 ⟨rfl,i,os,rfl⟩;exact⟨_,rfl,rfl,Lib.below_grow _ _ (pC _) i os⟩
def zlu(K:Nat)(hK:K=80\/K=81\/K=82\/K=83)(t:List UInt8)(k a:Int)(ks:List Int)(u:Value)(w:World)(hu:KS w u ks):Calls prog 168 #[.pointer (some ⟨P,0,none⟩),.agg #[.int .u8 K,.string ⟨t.toArray⟩,.int .i64 k,u,.int .i64 a]] w (RdT w (qu pr ⟨K,t,k,ks,a⟩)):=by
 obtain⟨up,uc,rfl⟩:=hu.form;have h0:∀W,(Instr.index 217 (.agg #[.string ⟨#[105,110,116]⟩,.string ⟨#[98,111,111,108]⟩,.string ⟨#[116,101,120,116]⟩,.string ⟨#[117,110,105,116]⟩]) (.int .u8 0)).run prog W=.ok (.string ⟨#[105,110,116]⟩) W:=λW=>rfl
 have h1:∀W,(Instr.index 217 (.agg #[.string ⟨#[105,110,116]⟩,.string ⟨#[98,111,111,108]⟩,.string ⟨#[116,101,120,116]⟩,.string ⟨#[117,110,105,116]⟩]) (.int .u8 1)).run prog W=.ok (.string ⟨#[98,111,111,108]⟩) W:=λW=>rfl
 have h2:∀W,(Instr.index 217 (.agg #[.string ⟨#[105,110,116]⟩,.string ⟨#[98,111,111,108]⟩,.string ⟨#[116,101,120,116]⟩,.string ⟨#[117,110,105,116]⟩]) (.int .u8 2)).run prog W=.ok (.string ⟨#[116,101,120,116]⟩) W:=λW=>rfl
 have h3:∀W,(Instr.index 217 (.agg #[.string ⟨#[105,110,116]⟩,.string ⟨#[98,111,111,108]⟩,.string ⟨#[116,101,120,116]⟩,.string ⟨#[117,110,105,116]⟩]) (.int .u8 3)).run prog W=.ok (.string ⟨#[117,110,105,116]⟩) W:=λW=>rfl
 have hA:=zf w (.cells #[.int .u8 K,.string ⟨t.toArray⟩,.int .i64 k,.slice up ks.length uc,.int .i64 a] 60 (0,0));have c0:=zd (zk w (.cells #[.int .u8 K,.string ⟨t.toArray⟩,.int .i64 k,.slice up ks.length uc,.int .i64 a] 60 (0,0))) 0;clear hu;rcases hK with rfl|rfl|rfl|rfl
 all_goals
  go_enter func168,ntmps168;go_wp2;go_ret;exact⟨_,rfl,rfl,hA⟩
def zfN(H:vG P nv iv l kv pr n){k a:Int}(hC:PrC w P nv iv l kv)(hu:KS w u ks)(mq:∀k∈ks,0<=k/\k<(n:Int))(mf:ks.length<=100000)(ht:t.length<=3000)(mE:(xr K).1<=ks.length)(hK:85<=K/\K<=88\/100<=K/\K<=104):Calls prog 168 #[.pointer (some ⟨P,0,none⟩),.agg #[.int .u8 K,.string ⟨t.toArray⟩,.int .i64 k,u,.int .i64 a]] w (RdT w (qu pr ⟨K,t,k,ks,a⟩)):=by
 obtain⟨g,off,up,uc,wA,rfl,sw,ww,sS,⟨e2,e3,e4,e5,e6⟩,HS,HB,tE,cF⟩:=zcd H hC (K:=K) (t:=t) (k:=k) (a:=a) hu mq mf;have NG:=λwo (h:wo+1<=ks.length)=>zce H hC (K:=K) (t:=t) (k:=k) (a:=a) hu mq mf HB.q h
 obtain⟨R,hr⟩:=exE (qu pr ⟨K,t,k,ks,a⟩);rw[hr];unfold qu at hr;simp only at hr;generalize fI:(λj=>pr (zW ⟨K,t,k,ks,a⟩ j))=KP at *;have fJ:∀j,pr (zW ⟨K,t,k,ks,a⟩ j)=KP j:=λj=>congrFun fI j
 simp only[fJ] at hr;generalize qo pr ks=A0 at *;generalize NH:(λwo=>jc pr ⟨K,t,k,ks,a⟩ wo)=HP at *;have NF:∀j,jc pr ⟨K,t,k,ks,a⟩ j=HP j:=λj=>congrFun NH j
 try simp only[NF] at hr
 have HwA:=zh sS;have Hkd:=zh tE;have Hhd:=zh NG;have Hr:=zh hr;have Hf:=zh mE;have nA:=zh ((pG wA.heap.size wA).drew);have hS:∀V,Cl wA.drew V->NdS V w.heap.size 0 K t k up ks.length uc a:=λV hV=>HS.q V (bR.drew.trans hV.below)
 clear hC mq fI fJ NH NF hr tE NG sS mE;go_enter func168,ntmps168;go_wp2_with fail
 ·have mb:=kd (k:=K) (by assumption);have hm:=mb▸Hf.q;change 1<=ks.length at hm;have hr:=mb▸Hr.q;simp at hr;subst hr;obtain⟨N1,l1⟩:=Hhd.q 0 (by omega);rw[HwA.q] at e2 e3 e4 e5 e6 ⊢;go_wp2_with fail;refine (N1.q _ bR).mono ?_;rintro e w1 ⟨t1,rfl,p1,f1⟩;have y1:=xH p1;go_wp2;go_ret;refine Qe HB f1 ?_;simp[zu,p1]
 iterate 2
  ·have mb:=kd (k:=K) (by assumption);have hm:=mb▸Hf.q;change 1<=ks.length at hm;have hr:=mb▸Hr.q;simp at hr;subst hr;obtain rfl:=sw.resolve_right (by omega);obtain⟨z1,⟨N1,l1,_⟩,⟨i1,j1⟩,d1,hS⟩:=ZI Hkd.q hS;rw[HwA.q] at e2 e3 e4 e5 e6 ⊢;go_wp2_with fail;refine (N1.q _ bR).mono ?_;rintro e w1 ⟨t1,rfl,p1,f1⟩;have y1:=xH p1;go_wp2;go_ret;refine Qe HB f1 ?_;simp[zu,p1]
 ·have mb:=kd (k:=K) (by assumption);have hm:=mb▸Hf.q;change 1<=ks.length at hm;have hr:=mb▸Hr.q;simp at hr;subst hr;obtain rfl:=sw.resolve_right (by omega);obtain⟨z1,⟨N1,l1,_⟩,⟨i1,j1⟩,d1,hS⟩:=ZI Hkd.q hS;rw[HwA.q];refine kS [(0,0),(1,1),(2,0),(3,0),(4,0),(5,1),(6,0),(7,1),(8,2),(9,0),(10,0)] ?_;refine ZH N1 nA λt1 w1 p1 y1 mF=>?_
  refine uC HB mF λW hW=>?_
  go_wp2;go_ret;refine⟨_,rfl,?_,hW⟩;simp[zu,p1.q]
 ·have mb:=kd (k:=K) (by assumption);have hm:=mb▸Hf.q;change 1<=ks.length at hm;have hr:=mb▸Hr.q;simp at hr;subst hr;obtain⟨N1,l1⟩:=cF;rw[HwA.q];refine kS [(0,0),(1,1),(2,0),(3,0),(4,0),(5,0),(6,1),(7,2),(8,0),(9,0),(10,0)] ?_;refine ZH N1 nA λt1 w1 p1 y1 mF=>?_
  refine uC HB mF λW hW=>?_
  go_wp2;go_ret;refine⟨_,rfl,?_,hW⟩;simp[zu,p1.q]
 ·have mb:=kd (k:=K) (by assumption);have hm:=mb▸Hf.q;change 1<=ks.length at hm;have hr:=mb▸Hr.q;simp at hr;subst hr;obtain⟨N1,l1⟩:=cF;rw[HwA.q];refine kS [(0,0),(1,1),(2,0),(3,0),(4,0),(5,0),(6,1),(7,2),(8,0),(9,0),(10,0)] ?_;refine ZH N1 nA λt1 w1 p1 y1 mF=>?_
  refine uC HB mF λW hW=>?_
  go_wp2;go_ret;refine⟨_,rfl,?_,hW⟩;simp[zu,p1.q]
 ·have mb:=kd (k:=K) (by assumption);have hm:=mb▸Hf.q;change 1<=ks.length at hm;have hr:=mb▸Hr.q;simp at hr;subst hr;obtain⟨N1,l1⟩:=Hhd.q 0 (by omega);rw[HwA.q];refine kS [(0,0),(1,1),(2,0),(3,0),(4,1),(5,2),(6,0),(7,0),(8,0)] ?_;refine ZH N1 nA λt1 w1 p1 y1 mF=>?_
  refine uC HB mF λW hW=>?_
  go_wp2;go_ret;refine⟨_,rfl,?_,hW⟩;simp[zu,p1.q]
 ·have mb:=kd (k:=K) (by assumption);have hm:=mb▸Hf.q;change 2<=ks.length at hm;have hr:=mb▸Hr.q;simp at hr;subst hr;obtain rfl:=sw.resolve_right (by omega);obtain⟨z1,⟨N1,l1,_⟩,⟨i1,j1⟩,d1,hS⟩:=ZI Hkd.q hS;obtain⟨z2,⟨N2,l2,_⟩,⟨i2,j2⟩,d2,hS⟩:=Ql Hkd.q hS (1) (1);rw[HwA.q];refine kS [(0,0),(1,1),(2,0),(3,0),(4,0),(5,0),(6,1),(7,0),(8,1),(12,0),(13,0),(14,1),(15,0),(16,1),(9,2),(10,0),(11,0),(17,2),(18,0),(19,0),(20,0)] ?_;refine ZH N1 nA λt1 w1 p1 y1 mF=>?_
  refine ZH N2 mF λt2 w2 p2 y2 mM=>?_
  refine uC HB mM λW hW=>?_
  go_wp2;go_ret;refine⟨_,rfl,?_,hW⟩;simp[zu,p1.q,p2.q]
 ·have mb:K=102:=by
   simp only[pB] at *;omega
  have hm:=mb▸Hf.q;change 2<=ks.length at hm;have hr:=mb▸Hr.q;simp at hr;subst hr;obtain⟨N1,l1⟩:=Hhd.q 1 (by omega);obtain rfl:=sw.resolve_right (by omega);obtain⟨z2,⟨N2,l2,_⟩,⟨i2,j2⟩,d2,hS⟩:=Ql Hkd.q hS (ks.length-1) ((ks.length:Int)-1);have rE:IntKind.i64.wrap ((ks.length:Int)-1)=((ks.length-1:Nat):Int):=by rw[pF _ ⟨by omega,by omega⟩];omega
  have gL:¬(((ks.length-1:Nat):Int)<0):=by omega
  have rt:((ks.length-1:Nat):Int)<(ks.length:Int):=by omega
  rw[HwA.q];refine kS [(0,0),(1,1),(2,0),(3,0),(4,1),(8,0),(9,0),(10,1),(11,0),(12,1),(13,0),(14,0),(15,0),(16,1),(5,2),(6,0),(7,0),(17,2),(18,0),(19,0)] ?_;refine ZH N1 nA λt1 w1 p1 y1 mF=>?_
  refine ZH N2 mF λt2 w2 p2 y2 mM=>?_
  refine zF λW hW=>?_
  have SF:=zg mM.q hW.below;obtain⟨_,_,d4,_⟩:=HS.q W SF;go_wp2_with fail
  all_goals go_ret
  all_goals refine Qe HB SF ?_
  all_goals first|(simp[zu,p1.q,p2.q];done)|exact absurd (pR.1 (show (k == 1)=true by assumption)) (by assumption)|exact absurd (show k=1 by assumption) (pB.1 (by assumption))
def zcl(H:vG P nv iv l kv pr n){k a:Int}(hC:PrC w P nv iv l kv)(hu:KS w u ks)(mq:∀k∈ks,0<=k/\k<(n:Int))(mf:ks.length<=100000)(ht:t.length<=3000)(mE:(xr K).1<=ks.length)(hK:26<=K/\K<=40/\K≠28/\K≠37/\K≠38/\K≠39)(nL:qd K k ks.length=true):Calls prog 169 #[.pointer (some ⟨P,0,none⟩),.agg #[.int .u8 K,.string ⟨t.toArray⟩,.int .i64 k,u,.int .i64 a]] w (RdT w (xP pr ⟨K,t,k,ks,a⟩)):=by
 have eo:=zh (λ(g off uc:Nat) (e:u=.slice (some ⟨g,off,none⟩) ks.length uc) wA hA=>zgT (g:=g) (off:=off) (uc:=uc) H (wA:=wA) hC (e▸hu) mq mf hA);have DL:=zh λ(h1: -1000000000<=k) (h2:k<=1000000000)=>λW hb=>zhb (W:=W) hC h1 h2 hb
 obtain⟨g,off,up,uc,wA,rfl,sw,ww,sS,⟨e2,e3,e4,e5,e6⟩,HS,HB,tE,cF⟩:=zcd H hC (K:=K) (t:=t) (k:=k) (a:=a) hu mq mf;have NG:=λwo (h:wo+1<=ks.length)=>zce H hC (K:=K) (t:=t) (k:=k) (a:=a) hu mq mf HB.q h
 obtain⟨R,hr⟩:=exE (xP pr ⟨K,t,k,ks,a⟩);rw[hr];unfold xP at hr;simp only at hr;generalize fI:(λj=>pr (zW ⟨K,t,k,ks,a⟩ j))=KP at *;have fJ:∀j,pr (zW ⟨K,t,k,ks,a⟩ j)=KP j:=λj=>congrFun fI j
 simp only[fJ] at hr;generalize qo pr ks=A0 at *;generalize NH:(λwo=>jc pr ⟨K,t,k,ks,a⟩ wo)=HP at *;have NF:∀j,jc pr ⟨K,t,k,ks,a⟩ j=HP j:=λj=>congrFun NH j
 try simp only[NF] at hr
 have HwA:=zh sS;have Hkd:=zh tE;have Hhd:=zh NG;have Hr:=zh hr;have Hf:=zh mE;have nA:=zh ((pG wA.heap.size wA).drew);have hS:∀V,Cl wA.drew V->NdS V w.heap.size 0 K t k up ks.length uc a:=λV hV=>HS.q V (bR.drew.trans hV.below)
 clear hC mq fI fJ NH NF hr tE NG sS mE;have Hn:=zh nL;clear nL;go_enter func169,ntmps169;go_wp2_with fail
 ·have mb:=kd (k:=K) (by assumption);have hm:=mb▸Hf.q;change 2<=ks.length at hm;have hr:=mb▸Hr.q;simp at hr;subst hr;obtain rfl:=sw.resolve_right (by omega);obtain⟨z1,⟨N1,l1,_⟩,⟨i1,j1⟩,d1,hS⟩:=ZI Hkd.q hS;obtain⟨z2,⟨N2,l2,_⟩,⟨i2,j2⟩,d2,hS⟩:=Ql Hkd.q hS (1) (1);rw[HwA.q];refine kS [(0,0),(1,0),(2,1),(3,0),(4,1),(8,0),(9,0),(10,1),(11,0),(12,1),(5,2),(6,0),(7,0),(13,2),(14,0),(15,0)] ?_;refine ZH N1 nA λt1 w1 p1 y1 mF=>?_
  refine ZH N2 mF λt2 w2 p2 y2 mM=>?_
  refine zF λW hW=>?_
  have nh:=zh (zg mM.q hW.below);have d1:=(HS.q W nh.q).2.2.2.1;by_cases h3:ks.length=3
  ·obtain⟨z3,⟨N3,l3,_⟩,⟨i3,j3⟩,d3,hS⟩:=Ql Hkd.q hS (2) (2);have d2:=zl nh.q d3;go_wp2_with fail;refine (N3.q W nh.q).mono ?_;rintro e w4 ⟨t3,rfl,p3,f3⟩;have y3:=xH p3;go_wp2;go_ret;refine Qe HB (zg nh.q f3) ?_;simp[zu,p1.q,p2.q,p3]
  ·have h3':((ks.length:Int) == 3)=false:=bfE (by omega)
   go_wp2;go_ret;refine Qe HB nh.q ?_;simp[zu,p1.q,p2.q]
 ·have mb:=kd (k:=K) (by assumption);have hm:=mb▸Hf.q;change 2<=ks.length at hm;have hr:=mb▸Hr.q;simp at hr;subst hr;obtain rfl:=sw.resolve_right (by omega);obtain⟨z1,⟨N1,l1,_⟩,⟨i1,j1⟩,d1,hS⟩:=ZI Hkd.q hS;obtain⟨z2,⟨N2,l2,_⟩,⟨i2,j2⟩,d2,hS⟩:=Ql Hkd.q hS (1) (1);rw[HwA.q];refine kS [(0,0),(1,0),(2,1),(3,0),(4,1),(8,0),(9,0),(10,1),(11,0),(12,1),(5,2),(6,0),(7,0),(13,2),(14,0),(15,0)] ?_;refine ZH N1 nA λt1 w1 p1 y1 mF=>?_
  refine ZH N2 mF λt2 w2 p2 y2 mM=>?_
  refine uC HB mM λW hW=>?_
  go_wp2;go_ret;refine⟨_,rfl,?_,hW⟩;simp[zu,p1.q,p2.q]
 ·have mb:=kd (k:=K) (by assumption);have hm:=mb▸Hf.q;change 2<=ks.length at hm;have hr:=mb▸Hr.q;simp at hr;subst hr;obtain rfl:=sw.resolve_right (by omega);obtain⟨hT,_,lT,_⟩:=eo.q g off uc rfl wA HB.q;have N2:=hT (by omega);have Lp:¬((ks.length:Int)<1):=by omega
  have hd2:¬(uc=1):=by omega
  obtain⟨z1,⟨N1,l1,_⟩,⟨i1,j1⟩,d1,hS⟩:=ZI Hkd.q hS;rw[HwA.q];refine kS [(0,0),(1,0),(2,1),(3,0),(4,1),(8,0),(9,0),(10,1),(11,0),(5,2),(6,0),(7,0),(12,2),(13,0),(14,0),(15,0)] ?_;refine ZH N1 nA λt1 w1 p1 y1 mF=>?_
  refine ZH N2 mF λt2 w2 p2 y2 mM=>?_
  refine uC HB mM λW hW=>?_
  go_wp2;go_ret;refine⟨_,rfl,?_,hW⟩;simp[zu,p1.q,p2.q]
 ·have mb:=kd (k:=K) (by assumption);have hm:=mb▸Hf.q;change 2<=ks.length at hm;have hr:=mb▸Hr.q;simp at hr;subst hr;obtain rfl:=sw.resolve_right (by omega);obtain⟨z1,⟨N1,l1,_⟩,⟨i1,j1⟩,d1,hS⟩:=ZI Hkd.q hS;obtain⟨z2,⟨N2,l2,_⟩,⟨i2,j2⟩,d2,hS⟩:=Ql Hkd.q hS (1) (1);rw[HwA.q];refine kS [(0,0),(1,0),(2,1),(3,0),(4,1),(7,0),(8,0),(9,1),(10,0),(11,1),(5,2),(6,0),(12,2),(13,0),(14,0)] ?_;refine ZH N1 nA λt1 w1 p1 y1 mF=>?_
  refine ZH N2 mF λt2 w2 p2 y2 mM=>?_
  refine uC HB mM λW hW=>?_
  go_wp2;go_ret;refine⟨_,rfl,?_,hW⟩;simp[zu,p1.q,p2.q]
 ·have mb:=kd (k:=K) (by assumption);have hm:=mb▸Hf.q;change 2<=ks.length at hm;have hr:=mb▸Hr.q;simp at hr;subst hr;obtain⟨N1,l1⟩:=Hhd.q 1 (by omega);obtain rfl:=sw.resolve_right (by omega);obtain⟨z2,⟨N2,l2,_⟩,⟨i2,j2⟩,d2,hS⟩:=Ql Hkd.q hS (ks.length-1) ((ks.length:Int)-1);have rE:IntKind.i64.wrap ((ks.length:Int)-1)=((ks.length-1:Nat):Int):=by rw[pF _ ⟨by omega,by omega⟩];omega
  have gL:¬(((ks.length-1:Nat):Int)<0):=by omega
  have rt:((ks.length-1:Nat):Int)<(ks.length:Int):=by omega
  rw[HwA.q];refine kS [(0,0),(1,1),(5,0),(6,0),(7,1),(8,0),(9,1),(10,0),(11,0),(12,0),(13,1),(2,2),(3,0),(4,0),(14,2),(15,0),(16,0)] ?_;refine ZH N1 nA λt1 w1 p1 y1 mF=>?_
  refine ZH N2 mF λt2 w2 p2 y2 mM=>?_
  refine uC HB mM λW hW=>?_
  go_wp2;go_ret;refine⟨_,rfl,?_,hW⟩;simp[zu,p1.q,p2.q]
 ·have mb:=kd (k:=K) (by assumption);have hm:=mb▸Hf.q;change 2<=ks.length at hm;have hr:=mb▸Hr.q;simp at hr;subst hr;obtain rfl:=sw.resolve_right (by omega);obtain⟨z1,⟨N1,l1,_⟩,⟨i1,j1⟩,d1,hS⟩:=ZI Hkd.q hS;obtain⟨z2,⟨N2,l2,_⟩,⟨i2,j2⟩,d2,hS⟩:=Ql Hkd.q hS (1) (1);rw[HwA.q];refine kS [(0,0),(1,0),(2,1),(3,0),(4,1),(8,0),(9,1),(12,0),(13,0),(14,1),(15,0),(16,1),(5,2),(6,0),(7,0),(10,0),(11,0),(17,2),(18,0),(19,0)] ?_;refine ZH N1 nA λt1 w1 p1 y1 mF=>?_
  refine ZH N2 mF λt2 w2 p2 y2 mM=>?_
  refine uC HB mM λW hW=>?_
  go_wp2;go_ret;refine⟨_,rfl,?_,hW⟩;simp[zu,p1.q,p2.q]
 ·have mb:=kd (k:=K) (by assumption);have hm:=mb▸Hf.q;change 1<=ks.length at hm;have hr:=mb▸Hr.q;simp at hr;subst hr;obtain⟨N1,l1⟩:=cF;rw[HwA.q] at e2 e3 e4 e5 e6 ⊢;go_wp2_with fail;refine (N1.q _ bR).mono ?_;rintro e w1 ⟨t1,rfl,p1,f1⟩;have y1:=xH p1;go_wp2;go_ret;refine Qe HB f1 ?_;simp[zu,p1]
 ·have mb:=kd (k:=K) (by assumption);have hm:=mb▸Hf.q;change 3<=ks.length at hm;have hr:=mb▸Hr.q;simp at hr;subst hr;obtain rfl:=sw.resolve_right (by omega);obtain⟨z1,⟨N1,l1,_⟩,⟨i1,j1⟩,d1,hS⟩:=ZI Hkd.q hS;obtain⟨z2,⟨N2,l2,_⟩,⟨i2,j2⟩,d2,hS⟩:=Ql Hkd.q hS (1) (1);obtain⟨z3,⟨N3,l3,_⟩,⟨i3,j3⟩,d3,hS⟩:=Ql Hkd.q hS (2) (2);rw[HwA.q];refine kS [(0,0),(1,0),(2,1),(3,0),(4,1),(8,0),(9,1),(12,0),(13,0),(14,1),(15,0),(16,1),(20,0),(21,0),(22,1),(23,0),(24,1),(5,2),(6,0),(7,0),(10,0),(11,0),(17,2),(18,0),(19,0),(25,2),(26,0),(27,0)] ?_;refine ZH N1 nA λt1 w1 p1 y1 mF=>?_
  refine ZH N2 mF λt2 w2 p2 y2 mM=>?_
  refine ZH N3 mM λt3 w3 p3 y3 mU=>?_
  refine uC HB mU λW hW=>?_
  go_wp2;go_ret;refine⟨_,rfl,?_,hW⟩;simp[zu,p1.q,p2.q,p3.q]
 ·have mb:=kd (k:=K) (by assumption);have hm:=mb▸Hf.q;change 1<=ks.length at hm;have hr:=mb▸Hr.q;simp at hr;subst hr;obtain⟨N1,l1⟩:=cF;rw[HwA.q];refine kS [(0,0),(1,1),(2,0),(3,0),(4,0),(5,0),(6,1),(7,2),(8,0),(9,0),(10,0)] ?_;refine ZH N1 nA λt1 w1 p1 y1 mF=>?_
  refine uC HB mF λW hW=>?_
  go_wp2;go_ret;refine⟨_,rfl,?_,hW⟩;simp[zu,p1.q]
 ·have mb:=kd (k:=K) (by assumption);have hm:=mb▸Hf.q;change 1<=ks.length at hm;have hr:=mb▸Hr.q;simp at hr;subst hr;obtain rfl:=sw.resolve_right (by omega);obtain⟨z1,⟨N1,l1,_⟩,⟨i1,j1⟩,d1,hS⟩:=ZI Hkd.q hS;rw[HwA.q];refine kS [(0,0),(1,1),(2,0),(3,0),(4,0),(5,1),(6,0),(7,1),(8,2),(9,0),(10,0)] ?_;refine ZH N1 nA λt1 w1 p1 y1 mF=>?_
  refine uC HB mF λW hW=>?_
  go_wp2;go_ret;refine⟨_,rfl,?_,hW⟩;simp[zu,p1.q]
 ·have mb:K=40:=by
   simp only[pB] at *;omega
  have hm:=mb▸Hf.q;change 1<=ks.length at hm;have hr:=mb▸Hr.q;simp at hr;subst hr;have rp:=Hn.q;rw[mb] at rp;simp[qd] at rp;have N2:=zh (λW (hW:Below wA.heap.size wA W)=>DL.q (by omega) (by omega) W (zg HB.q hW));have l2:=zcC (n:=k) (by omega) (by omega);obtain rfl:=sw.resolve_right (by omega);obtain⟨z1,⟨N1,l1,_⟩,⟨i1,j1⟩,d1,hS⟩:=ZI Hkd.q hS;rw[HwA.q];refine kS [(0,0),(1,0),(2,1),(3,0),(4,1),(8,0),(9,1),(5,2),(6,0),(7,0),(10,2),(11,0),(12,0),(13,0)] ?_;refine ZH N1 nA λt1 w1 p1 y1 mF=>?_
  refine ZH N2 mF λt2 w2 p2 y2 mM=>?_
  refine uC HB mM λW hW=>?_
  go_wp2;go_ret;refine⟨_,rfl,?_,hW⟩;simp[zu,p1.q,p2.q]
end
def zfY{P:Program}{t:TypeId}(ht:P.underlying t=some (.map kt et))(hk:P.underlying kt=some (.int .u8))(hz:(zeroValue et).run P w=.ok z w){l:List (Nat×Value)}(hb:w.heap[r]? =some (YF l))(k:Nat):
 (Instr.lookup t (.map (some r)) (.int .u8 k) false).run P w=.ok (((l.find? λx=>x.1 == k).map Prod.snd).getD z) w:=by
 have h1:=λe=>zcy (P:=P) (w:=w) hk k e
 cases hf:l.find? λx=>x.1 == k with
 |none=>
  have hn:∀x∈l,x.1≠k:=λx hx e=>by
   rw[List.find?_eq_none] at hf;exact hf x hx (by simpa using e)
  have h2:=Go.MapKept.run_findKey (w:=w) hk (show Instr.findNow (.int .u8) (.int .u8 k) (Kn 0 l).toArray.toList 0=some none by simpa using Yd l 0 0 k hn);simp[Instr.lookup,run_underlying ht,Go.MapKept.run_getObj_map hb,h1,Result.andThen] at h2 ⊢;simp[h2,hz,Result.andThen]
 |some x=>
  obtain⟨kx,v⟩:=x;have MQ:kx=k:=by simpa using List.find?_some hf
  subst MQ;obtain⟨j,hj⟩:=JL l 0 0 kx v hf;have h2:=Go.MapKept.run_findKey (w:=w) hk (show Instr.findNow (.int .u8) (.int .u8 kx) (Kn 0 l).toArray.toList 0=some (some (j,v)) by simpa using hj);simp[Instr.lookup,run_underlying ht,Go.MapKept.run_getObj_map hb,h1,Result.andThen] at h2 ⊢;simp[h2]
def ze2(hb:W.heap[s]? =some (YF js))(k:Nat)(hk:k<256):(Instr.lookup 163 (.map (some s)) (.int .u8 k) true).run prog W=.ok (.tuple #[.string ⟨((xU k).getD []).toArray⟩,.bool (xU k).isSome]) W:=by
 have h:=zbn (P:=prog) (w:=W) (z:=.string ⟨#[]⟩) underlying163 underlying5 (by kernel_rfl) hb k;have e:(js.find? λx=>x.1 == k)=(Jq.find? λx=>x.1 == k).map λx=>(x.1,Value.string ⟨x.2.toArray⟩):=by
  unfold js;rw[List.find?_map];rfl
 have hs:=zfz k hk;rw[e] at h;rw[h,<-hs];cases Jq.find? λx=>x.1 == k <;> rfl
def zdE(hb:W.heap[r]? =some (YF yZ))(k:Nat)(hk:k<256)(hs:(xU k).isSome=true):(Instr.lookup 164 (.map (some r)) (.int .u8 k) false).run prog W=.ok (.int .i64 (qx k:Nat)) W:=by
 have h:=zfY (P:=prog) (w:=W) (z:=.int .i64 0) underlying164 underlying5 (by kernel_rfl) hb k;have e:(yZ.find? λx=>x.1 == k)=(uY.find? λx=>x.1 == k).map λx=>(x.1,Value.int .i64 x.2):=Ke k
 rw[e] at h;rw[h];have mP:∀k,k<256->(xU k).isSome=true->((uY.find? λx=>x.1 == k).map Prod.snd)=some ((qx k:Nat):Int):=by decide +kernel
 have:=mP k hk hs;cases hf:uY.find? λx=>x.1 == k with
 |none=>rw[hf] at this;cases this
 |some y=>
  rw[hf] at this;have e2:y.2=((qx k:Nat):Int):=by simpa using this
  show Result.ok (Value.int .i64 y.2) W=_
  rw[e2]
abbrev zoC(W:World)(b:Nat)(K:Int)(t:List UInt8)(k:Int)(up:Option Addr)(m uc:Nat)(a:Int)(P gN oN ln nc s r:Nat)(lk:Array Value):Prop:=
 W.cell? ⟨b,0,none⟩=some (.int .u8 K)/\W.cell? ⟨b,1,none⟩=some (.string ⟨t.toArray⟩)/\W.cell? ⟨b,2,none⟩=some (.int .i64 k)/\W.cell? ⟨b,3,none⟩=some (.slice up m uc)/\W.cell? ⟨b,4,none⟩=some (.int .i64 a)/\
 W.cell? ⟨P,0,none⟩=some (.slice (some ⟨gN,oN,none⟩) ln nc)/\W.cell? ⟨P,2,none⟩=some (.map (some s))/\W.cell? ⟨P,3,none⟩=some (.map (some r))/\(Instr.lookup 163 (.map (some s)) (.int .u8 K) true).run prog W=.ok (.tuple lk) W
def zg1{P:Nat}{l:List Nd}{pr:Int->List UInt8}(H:vG P nv iv l kv pr n)(hC:PrC w P nv iv l kv){k a:Int}(hx:l[i]? =some ⟨K,t,k,ks,a⟩)(hm:ks.length=m)(hKI:(K:Int)=KI)(hl:K<=255->#[.string ⟨((xU K).getD []).toArray⟩,.bool (xU K).isSome]=lk):
 ∃(s r nc gN oN uc:Nat) (up:Option Addr),nv=.slice (some ⟨gN,oN,none⟩) l.length nc/\K<=255/\((i:Int)<(l.length:Int)/\¬((i:Int)<0))/\(KS w (.slice up m uc) ks/\m<=uc)/\
  (w.cell? ⟨gN,oN+i*5,none⟩=some (.int .u8 KI)/\w.cell? ⟨gN,oN+i*5+1,none⟩=some (.string ⟨t.toArray⟩)/\w.cell? ⟨gN,oN+i*5+2,none⟩=some (.int .i64 k)/\w.cell? ⟨gN,oN+i*5+3,none⟩=some (.slice up m uc)/\w.cell? ⟨gN,oN+i*5+4,none⟩=some (.int .i64 a)/\w.cell? ⟨P,0,none⟩=some (.slice (some ⟨gN,oN,none⟩) l.length nc))/\w.heap[r]? =some (YF yZ)/\
  ∃wA,w.alloc (.cells #[.int .u8 KI,.string ⟨t.toArray⟩,.int .i64 k,.slice up m uc,.int .i64 a] 60 (0,0))=wA/\Below w.heap.size w wA/\∀W,Below wA.heap.size wA W->zoC W w.heap.size KI t k up m uc a P gN oN l.length nc s r lk:=by
 obtain⟨s,r,h1,h2,h3⟩:=hC.pr.maps;have tO:K<=255:=H.kind _ (wH hx);obtain⟨np,nc,rfl⟩:=hC.ns.form;obtain⟨gN,oN,u,rfl,hN⟩:=hC.ns.at hx;have hu:KS w u ks:=hN.kz;obtain⟨up,uc,rfl⟩:=hu.form;subst hm;subst hKI;have hA:=zf w (.cells #[.int .u8 K,.string ⟨t.toArray⟩,.int .i64 k,.slice up ks.length uc,.int .i64 a] 60 (0,0));have hZ:=zk w (.cells #[.int .u8 K,.string ⟨t.toArray⟩,.int .i64 k,.slice up ks.length uc,.int .i64 a] 60 (0,0));refine⟨s,r,nc,gN,oN,uc,up,rfl,tO,⟨by have:=(gtL hx);omega,by omega⟩,⟨hu,hu.cap.2⟩,⟨hN.c0,hN.c1,hN.c2,hN.c3,hN.c4,zd h1 0⟩,h3,_,rfl,hA,λW hb=>?_⟩;rw[<-hl tO];exact⟨zd (zi hb hZ) 0,zd (zi hb hZ) 1,zd (zi hb hZ) 2,zd (zi hb hZ) 3,zd (zi hb hZ) 4,zd (zi (zg hA hb) h1) 0,zd (zi (zg hA hb) h1) 2,zd (zi (zg hA hb) h1) 3,ze2 (((zg hA hb).block _ (gtA h2)).trans h2) _ (by omega)⟩
section
variable {P:Nat} {nv iv:Value} {l:List Nd} {kv:List Value} {pr:Int→List UInt8} {n:Nat}
def zlz(H:vG P nv iv l kv pr n)(i:Nat)(t:List UInt8)(k a:Int)(ks:List Int)(w:World)(hC:PrC w P nv iv l kv)(hx:l[i]? =some ⟨24,t,k,ks,a⟩)(ht:t.length<=3000)(mq:∀k∈ks,0<=k/\k<(n:Int))(mf:ks.length<=100000)(tH:1<=ks.length):Calls prog 108 #[.pointer (some ⟨P,0,none⟩),.int .i64 i] w (RdT w (xo l pr ⟨24,t,k,ks,a⟩)):=by
 obtain⟨R,hR⟩:=exE (xo l pr ⟨24,t,k,ks,a⟩);rw[hR];obtain⟨s,r,nc,gN,oN,uc,up,rfl,tO,⟨sT,NU⟩,⟨hu,ww⟩,⟨a0,a1,a2,a3,a4,cP⟩,h3,wA,sS,hA,HS⟩:=zg1 H hC hx (m:=ks.length) rfl (KI:=24) rfl (lk:= #[.string ⟨#[]⟩,.bool false]) (λ_=>rfl);obtain⟨g,off,rfl,_,d0⟩:=hu.at (j:=0) (by first|omega|simp);have RE:ks.getD 0 0∈ks:=by rw[pA,glE (show 0<ks.length by omega)];exact wE _
 obtain⟨z0,pe⟩:=pO (mq _ RE).1;have l0:z0<n:=by have:=(mq _ RE).2;omega
 rw[pe] at d0;obtain⟨xz,Mk⟩:∃x,l[z0]? =some x:=⟨_,glE (pX l0 H.le)⟩;obtain⟨gN',oN',uz,ez,MD⟩:=hC.ns.at Mk;cases ez;have mY:(z0:Int)<(l.length:Int):=by have:=(gtL Mk);omega
 have Rh:¬((z0:Int)<0):=by omega
 have WU:zD l (z0:Int)=xz.kind:=by
  unfold zD;rw[pZ,Mk];rfl
 have tE:∀k∈ks.drop 1,0<=k/\k<(n:Int):=λk hk=>mq k (List.mem_of_mem_drop hk)
 have dt:(ks.drop 1).length<=100000:=by rw[wT];omega
 have HD:=zh (λ(q:Option Addr) (c:Nat) (hq:KS w (.slice q (ks.length-1) c) (ks.drop 1)) W (hb:Below w.heap.size w W)=>ZW H (.slice q (ks.length-1) c) (ks.drop 1) W (hC.below hb) (hq.below hb) tE dt);have sD:=jG H tE dt;have DI:=zh (KS.dropc hu 1 (by omega));have NE:=zh (λ(h:ks.length=1)=>(show KS w (.slice (some ⟨g,off,none⟩) (ks.length-1) (uc-1)) (ks.drop 1) from by rw[List.drop_eq_nil_of_le (by omega),h];exact KS.nil _ _ _));obtain⟨y0,y1,y2,y3,y4⟩:=xz;have LL:=MD.kz;obtain⟨zp,zc,rfl⟩:=LL.form;obtain⟨yn,FT⟩:∃q,y3.length=q:=⟨_,rfl⟩;have b0:=MD.c0;have b1:=MD.c1;have b2:=MD.c2;have b3:=MD.c3;have b4:=MD.c4;simp only[FT] at b0 b1 b2 b3 b4;replace HS:=zh (λW (hb:Below wA.heap.size wA W)=>And.intro (HS W hb) (show W.cell? ⟨gN,oN+z0*5,none⟩=some (.int .u8 y0)/\W.cell? ⟨gN,oN+z0*5+1,none⟩=some (.string ⟨y1.toArray⟩)/\W.cell? ⟨gN,oN+z0*5+2,none⟩=some (.int .i64 y2)/\W.cell? ⟨gN,oN+z0*5+3,none⟩=some (.slice zp yn zc)/\W.cell? ⟨gN,oN+z0*5+4,none⟩=some (.int .i64 y4)/\W.cell? ⟨g,off,none⟩=some (.int .i64 z0) from ⟨zl (zg hA hb) b0,zl (zg hA hb) b1,zl (zg hA hb) b2,zl (zg hA hb) b3,zl (zg hA hb) b4,zl (zg hA hb) d0⟩));have nA:=zh (show Below wA.heap.size wA wA.drew from bR.drew);have fU:((l[((z0:Int)).toNat]?).elim [] Nd.kz).isEmpty=decide (yn=0):=by
  rw[pZ,Mk,<-FT];show y3.isEmpty=decide (y3.length=0)
  cases y3 <;> simp
 have WQ:zW ⟨24,t,k,ks,a⟩ 0=(z0:Int):=pe;have PZ:(if zD l (z0:Int) == 25 && ((l[((z0:Int)).toNat]?).elim [] Nd.kz).isEmpty then [40] ++ jF l pr z0 8 ++ [41] else jF l pr z0 8) ++ [40] ++ qo pr (ks.drop 1) ++ [41]=R:=by
  rw[<-hR,<-WQ];rfl
 rw[WU,fU] at PZ;replace hR:=PZ;clear PZ;have HK:=zh (λW (hb:Below w.heap.size w W)=>zha H z0 8 W (hC.below hb) l0);have s0:(jF l pr z0 8).length<=3200002:=by have:=qn l pr z0 8;have:=H.len z0 l0;omega
 generalize jF l pr z0 8=ps0 at *;generalize qo pr (ks.drop 1)=pD at *;generalize hm:ks.length=m at *;have Hm:=zh hm;clear hm WU MD Mk b0 b1 b2 b3 b4 pe RE tE dt mq WQ LL FT fU d0;have Pu:0<m:=by omega
 have nV:(0:Int)<(m:Int):=by omega
 have Lp:¬((m:Int)<1):=by omega
 have hd3:1<=m:=tH;have HR:=zh hR;have HwA:=zh sS;clear sS hR hC hx hu h3 H;go_enter func108,ntmps108;go_wp2_with fail;rw[HwA.q];clear a0 a1 a2 a3 a4 cP;have hS:=λW (h:Cl wA.drew W)=>HS.q W (zg nA.q h.below)
 refine zb6 [(0,0),(1,0),(2,0),(3,1),(4,0),(5,1),(6,1),(7,0),(8,0),(9,0),(10,0),(11,0)] ?_;refine goM ?_;clear hS;refine zF λV1 Tf=>?_
 have mF:=zh (zg nA.q Tf.below);clear Tf;obtain⟨⟨c0,c1,c2,c3,c4,cP,cS,cR,cL⟩,x0,x1,x2,x3,x4,x5⟩:=HS.q V1 mF.q;go_wp2_with fail;refine (HK.q V1 (zg hA mF.q)).mono ?_;rintro e w2 ⟨b2,rfl,rt,f2⟩;have zz_2:=xH rt;replace rt:=zh rt;have mM:=zh (zg mF.q f2);clear c0 c1 c2 c3 c4 cP cS cR cL x0 x1 x2 x3 x4 x5;go_wp2_with fail;have hS:=λW (h:Cl w2.drew W)=>HS.q W (zg mM.q (zg bR.drew h.below))
 refine zb6 [(0,0),(1,0),(2,0),(3,0),(4,1),(5,0),(6,1),(7,0),(8,1),(9,0),(10,1),(11,2),(12,3)] ?_;refine goM ?_;clear hS;refine yH rfl rfl (λK hK V hV=>?_);have mU:=zh (zg mM.q (zg bR.drew hV.below));go_simp;refine⟨ZL.2 (zf _ _),hK _ _ ?_⟩;clear hK K
 try simp only[Act.put,yh,yf,yg]
 refine yG rfl rfl (λW hW=>?_);have hz:=zi hW.below (zk V (.cells #[.int .u8 0,.string ⟨#[]⟩,.int .i64 0,.slice none 0 0,.int .i64 0] 60 (0,0)));have mQ:=zh (zg mU.q (zg (zf V _) hW.below))
 skip
 have e0:=zd hz 0;have e1:=zd hz 1;have e2:=zd hz 2;have e3:=zd hz 3;have e4:=zd hz 4;have ef:∀j,W.frozen? ⟨V.heap.size,j,none⟩=false:=λj=>zj hz j
 have Hz:=zh hz;clear hz;go_simp;refine yL ?_;have z5:=zt (zt (zt (zt (zt Hz.q 0 (.int .u8 y0)) 1 (.string ⟨y1.toArray⟩)) 2 (.int .i64 y2)) 3 (.slice zp yn zc)) 4 (.int .i64 y4);have pk:wA.heap.size<=V.heap.size:=mU.q.size;have mt:=((((mQ.q.setCell (p:=⟨V.heap.size,0,none⟩) pk (.int .u8 y0)).setCell (p:=⟨V.heap.size,1,none⟩) pk (.string ⟨y1.toArray⟩)).setCell (p:=⟨V.heap.size,2,none⟩) pk (.int .i64 y2)).setCell (p:=⟨V.heap.size,3,none⟩) pk (.slice zp yn zc)).setCell (p:=⟨V.heap.size,4,none⟩) pk (.int .i64 y4);generalize World.setCell (World.setCell (World.setCell (World.setCell (World.setCell W _ _) _ _) _ _) _ _) _ _=W5 at z5 mt ⊢;replace mt:=zh mt;clear e0 e1 e2 e3 e4 ef Hz hW;obtain⟨⟨c0,c1,c2,c3,c4,cP,cS,cR,cL⟩,x0,x1,x2,x3,x4,x5⟩:=HS.q W5 mt.q;have m0:=zd z5 0;have m3:=zd z5 3;generalize V.heap.size=LM at *;clear z5;by_cases Gn:y0=25
 ·have DF:((y0:Int) == 25)=true:=by rw[pR];omega
  by_cases rp:yn=0
  ·have EV:((yn:Int) == 0)=true:=by rw[pR];omega
   have h:=HR.q;rw[if_pos (by simp[Gn,rp])] at h;by_cases Ns:uc=1
   ·subst Ns;have aD:m=1:=by omega
    have HDD:=HD.q _ _ (NE.q aD);rw[aD] at HDD;simp only[Nat.sub_self] at HDD;replace HDD:=zh HDD;clear aD;go_wp2_with fail;refine (HDD.q W5 (zg hA mt.q)).mono ?_;rintro e w6 ⟨b6,rfl,sG,f6⟩;have zz_6:=xH sG;replace sG:=zh sG;go_wp2;go_ret;refine⟨_,rfl,?_,zg hA (zg mt.q f6)⟩;rw[<-h];simp[zu,rt.q,sG.q]
   ·have hd2:¬(uc=1):=Ns;have HDD:=zh (HD.q _ _ DI.q);go_wp2_with fail;refine (HDD.q W5 (zg hA mt.q)).mono ?_;rintro e w6 ⟨b6,rfl,sG,f6⟩;have zz_6:=xH sG;replace sG:=zh sG;go_wp2;go_ret;refine⟨_,rfl,?_,zg hA (zg mt.q f6)⟩;rw[<-h];simp[zu,rt.q,sG.q]
  ·have EV:((yn:Int) == 0)=false:=bfE (by omega)
   have h:=HR.q;rw[if_neg (by simp[rp])] at h;by_cases Ns:uc=1
   ·subst Ns;have aD:m=1:=by omega
    have HDD:=HD.q _ _ (NE.q aD);rw[aD] at HDD;simp only[Nat.sub_self] at HDD;replace HDD:=zh HDD;clear aD;go_wp2_with fail;refine (HDD.q W5 (zg hA mt.q)).mono ?_;rintro e w6 ⟨b6,rfl,sG,f6⟩;have zz_6:=xH sG;replace sG:=zh sG;go_wp2;go_ret;refine⟨_,rfl,?_,zg hA (zg mt.q f6)⟩;rw[<-h];simp[zu,rt.q,sG.q]
   ·have hd2:¬(uc=1):=Ns;have HDD:=zh (HD.q _ _ DI.q);go_wp2_with fail;refine (HDD.q W5 (zg hA mt.q)).mono ?_;rintro e w6 ⟨b6,rfl,sG,f6⟩;have zz_6:=xH sG;replace sG:=zh sG;go_wp2;go_ret;refine⟨_,rfl,?_,zg hA (zg mt.q f6)⟩;rw[<-h];simp[zu,rt.q,sG.q]
 ·have DF:((y0:Int) == 25)=false:=bfE (by omega)
  have h:=HR.q;rw[if_neg (by simp[Gn])] at h;by_cases Ns:uc=1
  ·subst Ns;have aD:m=1:=by omega
   have HDD:=HD.q _ _ (NE.q aD);rw[aD] at HDD;simp only[Nat.sub_self] at HDD;replace HDD:=zh HDD;clear aD;go_wp2_with fail;refine (HDD.q W5 (zg hA mt.q)).mono ?_;rintro e w6 ⟨b6,rfl,sG,f6⟩;have zz_6:=xH sG;replace sG:=zh sG;go_wp2;go_ret;refine⟨_,rfl,?_,zg hA (zg mt.q f6)⟩;rw[<-h];simp[zu,rt.q,sG.q]
  ·have hd2:¬(uc=1):=Ns;have HDD:=zh (HD.q _ _ DI.q);go_wp2_with fail;refine (HDD.q W5 (zg hA mt.q)).mono ?_;rintro e w6 ⟨b6,rfl,sG,f6⟩;have zz_6:=xH sG;replace sG:=zh sG;go_wp2;go_ret;refine⟨_,rfl,?_,zg hA (zg mt.q f6)⟩;rw[<-h];simp[zu,rt.q,sG.q]
end
end
end Go.Proofs.YtcagibbaeageoaaGreatDoor
namespace Lode
def zdL{l:List Nd}{pr:Int->List UInt8}{x:Nd}(h:xU x.kind=none)(hn:[1,67,2,68,3,69,4,5,66,84,6,7,23,24,25,70,89,28].contains x.kind=false):xo l pr x=match zN.find? λw=>w.2.1 == x.kind with
 |some w=>if w.2.2<0 then w.1 ++ [32] ++ jF l pr (zW x 0) 7 else if w.2.2 == 0 then w.1 else w.1 ++ [40] ++ qo pr x.kz ++ [41]
 |none=>if decide (60<=x.kind) && decide (x.kind<=65) then kH pr x else if 80<=x.kind then qu pr x else xP pr x:=by
 unfold xo;rw[h];simp at hn;cases hh:zN.find? λw=>w.2.1 == x.kind <;> simp[hn]
def ziD:∀k,k<80->(yT k && (xU k).isNone && ![1,67,2,68,3,69,4,5,66,84,6,7,23,24,25,70,89,28].contains k && (zN.find? λw=>w.2.1 == k).isNone && !(decide (60<=k) && decide (k<=65)))=true->26<=k/\k<=40/\k≠28/\k≠37/\k≠38/\k≠39:=by decide +kernel
def zi4:∀w∈zN,w.1.length<=10/\(w.2.2<0->(xr w.2.1).1=1):=by decide
end Lode
namespace Go.Proofs.YtcagibbaeageoaaGreatDoor
section
open Go.RowKit Lode Go.Shelf
attribute [local go_sem ↓] wp_at_zero wp_at_succ
open Go.Proofs.Tryz
def zok(k:Int):(if k=1 then ([116,114,117,101]:List UInt8) else [102,97,108,115,101])=Go.Lib.formatBool (k == 1):=by
 by_cases h:k=1
 ·rw[h];rfl
 ·rw[if_neg h,pB.2 h];rfl
def zhN{x:Nd}(h:ky x=true):x.text.length<=3000:=by
 by_cases h4:jS x.kind=4
 ·unfold ky at h;rw[h4] at h;unfold jf vC at h;simp at h;split at h
  ·simp at h
  ·omega
 ·exact ug h h4
def znE:∀k,(xr k).2<=2000:=λk=>by
 unfold xr
 repeat' split
 all_goals decide
def zjr:∀k,k<256->(xU k).isSome=true->(xr k).1=2/\qx k<=6/\((xU k).getD []).length<=10:=by decide +kernel
section
variable {P:Nat} {nv iv:Value} {l:List Nd} {kv:List Value} {pr:Int→List UInt8} {n:Nat}
def zfD(H:vG P nv iv l kv pr n)(i:Nat)(x:Nd)(w:World)(hC:PrC w P nv iv l kv)(hx:l[i]? =some x)(IZ:yF l x=true)(mq:∀k∈x.kz,0<=k/\k<(n:Int)):Calls prog 108 #[.pointer (some ⟨P,0,none⟩),.int .i64 i] w (RdT w (xo l pr x)):=by
 obtain⟨sC,mE,gH,nL,AI,_⟩:=xX IZ;have mf:x.kz.length<=100000:=by have:=znE x.kind;omega
 have ht:=zhN AI;obtain⟨K,t,k,ks,a⟩:=x;simp only at sC mE nL mf ht mq;by_cases h24:K=24
 ·subst h24;exact zlz H i t k a ks w hC hx ht mq mf mE
 obtain⟨s,r,nc,gN,oN,uc,up,rfl,tO,⟨sT,NU⟩,⟨hu,ww⟩,⟨a0,a1,a2,a3,a4,cP⟩,h3,wA,sS,hA,HSn⟩:=zg1 H hC hx (m:=ks.length) rfl (KI:=K) rfl (lk:= #[.string ⟨((xU K).getD []).toArray⟩,.bool (xU K).isSome]) (λ_=>rfl);obtain⟨g,off,up',uc',wA',he,sw,_,AR,_,_,HB,tE,cF⟩:=zcd H hC (K:=K) (t:=t) (k:=k) (a:=a) hu mq mf;cases he;rw[sS] at AR;subst AR;have Rx:=zh (λW (hW:Below wA.heap.size wA W)=>hC.below (zg HB.q hW));have RY:=zh (λW (hW:Below wA.heap.size wA W)=>hu.below (zg HB.q hW));have SB:=zh (λ(hs:(xU K).isSome=true) W (hW:Below wA.heap.size wA W)=>zdE (((zg HB.q hW).block _ (gtA h3)).trans h3) K (by omega) hs);have DL:=zh (λ(h1: -1000000000<=k) (h2:k<=1000000000) W hb=>zhb (W:=W) hC h1 h2 (zg HB.q hb));have hPa:=zh (λW (hW:Below wA.heap.size wA W)=>zfL H _ ks W (Rx.q W hW) (RY.q W hW) mq mf);have hBl:=zh (λW (hW:Below wA.heap.size wA W)=>zfG H ⟨K,t,k,ks,a⟩ _ W (Rx.q W hW) (RY.q W hW) mq mf);have hSt:=zh (λhK W (hW:Below wA.heap.size wA W)=>zik H (k:=k) (a:=a) (Rx.q W hW) (RY.q W hW) mq mf ht mE hK);have hTy:=zh (λ(hK:80<=K) (gw:K≠84/\K≠89) W (hW:Below wA.heap.size wA W)=>(show Calls prog 168 #[.pointer (some ⟨P,0,none⟩),.agg #[.int .u8 K,.string ⟨t.toArray⟩,.int .i64 k,.slice up ks.length uc,.int .i64 a]] W (RdT W (qu pr ⟨K,t,k,ks,a⟩)) from by
  by_cases h83:K<=83
  ·exact zlu K (by omega) t k a ks _ W (RY.q W hW)
  ·exact zfN H (k:=k) (a:=a) (Rx.q W hW) (RY.q W hW) mq mf ht mE (by simp[yT] at sC;omega)))
 have hCo:=zh (λhK W (hW:Below wA.heap.size wA W)=>zcl H (k:=k) (a:=a) (Rx.q W hW) (RY.q W hW) mq mf ht mE hK nL);have TV:=zdL (l:=l) (pr:=pr) (x:=⟨K,t,k,ks,a⟩);have hZ:=zh (λ(j z:Nat) (e:zW ⟨K,t,k,ks,a⟩ j=(z:Int)) (h:z<n)=>(show (z:Int)<(l.length:Int)/\∀W,Below wA.heap.size wA W->W.cell? ⟨gN,oN+z*5,none⟩=some (.int .u8 (((λj=>zD l (zW ⟨K,t,k,ks,a⟩ j)) j:Nat):Int)) from by
  have SZ:=pX h H.le;obtain⟨gN',oN',uz,ez,MD⟩:=hC.ns.at (glE SZ);cases ez;refine⟨by omega,λW hW=>?_⟩;have:=zl (zg HB.q hW) MD.c0;rw[this];simp only[e,zD,pZ,glE SZ];rfl))
 have lPa:=zaG H mq mf;obtain⟨R,hr⟩:=exE (xo l pr ⟨K,t,k,ks,a⟩);rw[hr] at TV ⊢;unfold xo at hr;simp only at hr TV;generalize fI:(λj=>pr (zW ⟨K,t,k,ks,a⟩ j))=KP at *;have fJ:∀j,pr (zW ⟨K,t,k,ks,a⟩ j)=KP j:=λj=>congrFun fI j
 simp only[fJ] at hr;generalize LO:(λj=>zD l (zW ⟨K,t,k,ks,a⟩ j))=KK at *;have LQ:∀j,zD l (zW ⟨K,t,k,ks,a⟩ j)=KK j:=λj=>congrFun LO j
 simp only[LQ] at hr;generalize LU:(λj q=>jF l pr (zW ⟨K,t,k,ks,a⟩ j) q)=LP at *;have LV:∀j q,jF l pr (zW ⟨K,t,k,ks,a⟩ j) q=LP j q:=λj q=>congrFun (congrFun LU j) q
 simp only[LV] at hr TV;generalize qo pr ks=A0 at *;generalize uI pr ks=B0 at *;generalize Xs pr ⟨K,t,k,ks,a⟩=B1 at *;generalize kH pr ⟨K,t,k,ks,a⟩=B2 at *;generalize qu pr ⟨K,t,k,ks,a⟩=B3 at *;generalize xP pr ⟨K,t,k,ks,a⟩=B4 at *;have HwA:=zh sS;have Hkd:=zh tE;have Hr:=zh hr;have Hf:=zh mE;have Hn:=zh nL;have HLs:=zh TV;have Hkn:=zh sC;replace HSn:=zh HSn;have nA:=zh ((pG wA.heap.size wA).drew);have hS:=λW (h:Cl wA.drew W)=>HSn.q W (zg nA.q h.below)
 clear TV LO LQ fI fJ LU LV hr tE sS mE hC hu mq IZ gH nL AI h3 hA H Rx RY sC hx;go_enter func108,ntmps108;go_wp2_with fail;rw[HwA.q];clear a0 a1 a2 a3 a4 cP;refine kS [(0,0),(1,0),(2,0),(3,1),(4,0),(5,1),(6,1),(7,0),(8,0),(9,0),(10,0),(11,0)] ?_;refine zF λV1 Tf=>?_
 have mF:=zh (zg nA.q Tf.below);obtain⟨c0,c1,c2,c3,c4,cP,cS,cR,cL⟩:=HSn.q V1 mF.q;clear Tf;cases gQ:xU K with
 |some sg=>
  obtain⟨bh,ew,ex⟩:=zjr K (by omega) (by rw[gQ];rfl);have SB:=SB.q (by rw[gQ];rfl);have hr:=Hr.q;rw[gQ] at ex cL hr;simp only[Option.getD_some] at ex hr;have hm:=bh▸Hf.q;generalize qx K=rk at *;have hrw:=pF ((rk:Int)+1) (by omega);obtain rfl:=sw.resolve_right (by omega);obtain⟨z0,⟨_,_,_,_,M0⟩,⟨i0,j0⟩,d0,_⟩:=ZI Hkd.q hS;obtain⟨z1,⟨_,_,_,_,M1⟩,⟨i1,j1⟩,d1,_⟩:=Ql Hkd.q hS 1 1;replace SB:=zh SB;replace M0:=zh M0;replace M1:=zh M1;clear gQ bh;go_wp2_with fail;have tB:=zh (zg mF.q (pG V1.heap.size V1).drew);have hS:=λW (h:Cl V1.drew W)=>And.intro (HSn.q W (zg tB.q h.below)) (SB.q W (zg tB.q h.below))
  clear c0 c1 c2 c3 c4 cP cS cR cL;refine kS [(0,0),(1,0),(2,0),(3,1),(4,0),(5,1),(6,1),(7,0),(8,0),(9,0),(10,1),(11,0),(12,1),(13,1),(14,0),(15,0),(16,0)] ?_;refine zF λV2 Tg=>?_
  have mM:=zh (zg tB.q Tg.below);clear Tg hS;have fQ:=zh (zg mM.q (pG V2.heap.size V2).drew);have hS:=λW (h:Cl V2.drew W)=>And.intro (HSn.q W (zg fQ.q h.below)) (And.intro (zl (zg fQ.q h.below) d0) (zl (zg fQ.q h.below) d1))
  by_cases h4:rk=4
  ·subst h4;obtain⟨A0,a0⟩:=M0.q 5;obtain⟨A1,a1⟩:=M1.q 5;rw[if_pos (by decide)] at hr;subst hr;go_wp2_with fail;refine kS [(0,0),(1,0),(2,1),(3,0),(4,1),(5,0),(8,0),(11,0),(12,0),(13,1),(14,0),(15,1),(16,0),(6,2),(7,0),(9,0),(10,0),(17,2),(18,0),(19,0)] ?_;refine ZH A0 fQ λt3 w3 p3 y3 mU=>?_
   refine ZH A1 mU λt4 w4 p4 y4 mQ=>?_
   refine uC HB mQ λW hW=>?_
   go_wp2;go_ret;refine⟨_,rfl,?_,hW⟩;simp[zu,p3.q,p4.q]
  ·have Ru:((rk:Int) == 4)=false:=bfE (by omega)
   obtain⟨A0,a0⟩:=M0.q rk;obtain⟨A1,a1⟩:=M1.q (rk+1);rw[Int.natCast_add] at A1;rw[if_neg (by simp[h4])] at hr;subst hr;go_wp2_with fail;refine kS [(0,0),(1,0),(2,1),(3,0),(4,1),(5,0),(8,0),(11,0),(12,0),(13,1),(14,0),(15,1),(16,0),(6,2),(7,0),(9,0),(10,0),(17,2),(18,0),(19,0)] ?_;refine ZH A0 fQ λt3 w3 p3 y3 mU=>?_
   refine ZH A1 mU λt4 w4 p4 y4 mQ=>?_
   refine uC HB mQ λW hW=>?_
   go_wp2;go_ret;refine⟨_,rfl,?_,hW⟩;simp[zu,p3.q,p4.q]
 |none=>
  have hr:=Hr.q;rw[gQ] at hr;replace Hr:=zh hr;rw[gQ] at cL;clear hr SB;replace gQ:=zh gQ;go_wp2_with fail
  iterate 2
   ·have mb:=kd (k:=K) (by assumption);have rp:=mb▸Hn.q;simp[qd] at rp;have hr:=mb▸Hr.q;simp at hr;subst hr;refine (DL.q (by omega) (by omega) V1 mF.q).mono ?_;rintro e w4 ⟨t4,rfl,p4,f4⟩;have y4:=xH p4;replace p4:=zh p4;go_wp2;go_ret;refine Qe HB (zg mF.q f4) ?_;simp[zu,p4.q]
  iterate 2
   ·have mb:=kd (k:=K) (by assumption);have hr:=mb▸Hr.q;simp at hr;subst hr;refine (zfC t V1 (by omega)).mono ?_;rintro e w4 ⟨rfl,f4⟩;go_wp2;go_ret;exact⟨_,rfl,rfl,zg HB.q (zg mF.q f4)⟩
  iterate 2
   ·have mb:=kd (k:=K) (by assumption);have hr:=mb▸Hr.q;simp at hr;rw[zok] at hr;replace hr:=zh hr;refine (Tryz.strconv_FormatBool (k == 1) V1).mono ?_;rintro e w4 ⟨rfl,rfl⟩;generalize Go.Lib.formatBool (k == 1)=fb at *;go_wp2;go_ret;exact⟨_,rfl,hr.q,zg HB.q mF.q⟩
  iterate 4
   ·have mb:=kd (k:=K) (by assumption);have hr:=mb▸Hr.q;simp at hr;subst hr;go_ret;exact⟨_,rfl,rfl,zg HB.q mF.q⟩
  ·have mb:=kd (k:=K) (by assumption);have hm:=mb▸Hf.q;change 1<=ks.length at hm;have hr:=mb▸Hr.q;simp at hr;subst hr;obtain rfl:=sw.resolve_right (by omega);obtain⟨z0,⟨N0,l0,hz,ez,M0⟩,⟨i0,j0⟩,d0,hS⟩:=ZI Hkd.q hS;have c5:=zl mF.q d0;obtain⟨M1,m1⟩:=M0 7;obtain⟨mY,cz⟩:=hZ.q 0 z0 ez hz;have Rh:¬((z0:Int)<0):=by omega
   have tB:=zh (zg mF.q (pG V1.heap.size V1).drew);have hS:=λW (h:Cl V1.drew W)=>And.intro (HSn.q W (zg tB.q h.below)) (And.intro (zl (zg (pG V1.heap.size V1).drew h.below) c5) (cz W (zg tB.q h.below)))
   clear c0 c1 c2 c3 c4 cP cS cR cL c5;refine kS [(0,0),(1,0),(2,0),(3,0),(4,1),(5,0),(6,1),(7,0),(8,1),(9,0),(10,0),(11,1),(12,0)] ?_;refine zF λV2 Tg=>?_
   have mM:=zh (zg tB.q Tg.below);obtain⟨c0,c1,c2,c3,c4,cP,cS,cR,cL⟩:=HSn.q V2 mM.q;have c5:=zl mM.q d0;clear Tg;replace mF:=mM;by_cases h6:KK 0=6
   ·have h6':((KK 0:Int) == 6)=true:=by rw[pR];omega
    go_wp2_with fail;refine (N0.q V2 mM.q).mono ?_;rintro e w4 ⟨t4,rfl,p4,f4⟩;have y4:=xH p4;replace p4:=zh p4;go_wp2;go_ret;refine Qe HB (zg mF.q f4) ?_;simp[zu,p4.q]
   ·have h6':((KK 0:Int) == 6)=false:=bfE (by omega)
    go_wp2_with fail;refine (M1.q V2 mM.q).mono ?_;rintro e w4 ⟨t4,rfl,p4,f4⟩;have y4:=xH p4;replace p4:=zh p4;go_wp2;go_ret;refine Qe HB (zg mF.q f4) ?_;simp[zu,p4.q]
  ·have mb:=kd (k:=K) (by assumption);have hm:=mb▸Hf.q;change 1<=ks.length at hm;have hr:=mb▸Hr.q;simp at hr;subst hr;obtain rfl:=sw.resolve_right (by omega);obtain⟨z0,⟨N0,l0,hz,ez,M0⟩,⟨i0,j0⟩,d0,hS⟩:=ZI Hkd.q hS;have c5:=zl mF.q d0;obtain⟨M1,m1⟩:=M0 3;go_wp2_with fail;refine (M1.q V1 mF.q).mono ?_;rintro e w4 ⟨t4,rfl,p4,f4⟩;have y4:=xH p4;replace p4:=zh p4;go_wp2;go_ret;refine Qe HB (zg mF.q f4) ?_;simp[zu,p4.q]
  ·have mb:=kd (k:=K) (by assumption);have hm:=mb▸Hf.q;change 1<=ks.length at hm;have hr:=mb▸Hr.q;simp at hr;subst hr;obtain rfl:=sw.resolve_right (by omega);obtain⟨z0,⟨N0,l0,hz,ez,M0⟩,⟨i0,j0⟩,d0,hS⟩:=ZI Hkd.q hS;have c5:=zl mF.q d0;obtain⟨M1,m1⟩:=M0 8;have tB:=zh (zg mF.q (pG V1.heap.size V1).drew);have hS:=λW (h:Cl V1.drew W)=>And.intro (HSn.q W (zg tB.q h.below)) (zl (zg (pG V1.heap.size V1).drew h.below) c5)
   clear c0 c1 c2 c3 c4 cP cS cR cL c5;refine kS [(0,0),(1,0),(2,1),(3,0),(4,1),(7,0),(8,1),(5,2),(6,0),(9,0),(10,0)] ?_;refine ZH M1 tB λt4 w4 p4 y4 mQ=>?_
   refine uC HB mQ λW hW=>?_
   go_wp2;go_ret;refine⟨_,rfl,?_,hW⟩;simp[zu,p4.q]
  iterate 3
   ·have mb:=kd (k:=K) (by assumption);have hr:=mb▸Hr.q;simp at hr;subst hr;have tB:=zh (zg mF.q (pG V1.heap.size V1).drew);have hS:=λW (h:Cl V1.drew W)=>HSn.q W (zg tB.q h.below)
    clear c0 c1 c2 c3 c4 cP cS cR cL;refine kS [(0,0),(1,1),(2,0),(3,0),(4,1),(5,2),(6,0),(7,0)] ?_;refine ZH hPa tB λt4 w4 p4 y4 mQ=>?_
    refine uC HB mQ λW hW=>?_
    go_wp2;go_ret;refine⟨_,rfl,?_,hW⟩;simp[zu,p4.q]
  ·have mb:=kd (k:=K) (by assumption);have hr:=mb▸Hr.q;simp at hr;subst hr;refine (hBl.q V1 mF.q).mono ?_;rintro e w4 ⟨t4,rfl,p4,f4⟩;have y4:=xH p4;replace p4:=zh p4;go_wp2;go_ret;refine Qe HB (zg mF.q f4) ?_;simp[zu,p4.q]
  ·have hc:[1,67,2,68,3,69,4,5,66,84,6,7,23,24,25,70,89,28].contains K=false:=by
    simp only[pB] at *;simp;omega
   have hr:=HLs.q gQ.q hc;have LN:K≠84/\K≠89/\K≠28:=by simp at hc;omega
   have ra:=zh hc;clear hc;refine (Vb K V1).mono ?_;rintro e w2 ⟨rfl,f2⟩;unfold zbP;have mM:=zh (zg mF.q f2);clear f2;obtain⟨c0,c1,c2,c3,c4,cP,cS,cR,cL⟩:=HSn.q w2 mM.q;cases fW:zN.find? λw=>w.2.1 == K with
   |some x=>
    obtain⟨x0,x1,x2⟩:=x;simp only[Ve];have LS:x1=K:=by simpa using List.find?_some fW
    obtain⟨EK,hw⟩:=zi4 _ (List.mem_of_find?_eq_some fW);simp only[LS] at EK hw;clear LS;rw[fW] at hr;simp only at hr;have sO:=zk w2 (.cells #[.string ⟨x0.toArray⟩,.int .u8 x1,.int .i64 x2] 180 (0,0));have mU:=zh (zg mM.q (zf w2 (.cells #[.string ⟨x0.toArray⟩,.int .u8 x1,.int .i64 x2] 180 (0,0))));have v0:=zd sO 0;have v2:=zd sO 2;clear sO fW c0 c1 c2 c3 c4 cP cS cR cL;by_cases cg:x2<0
    ·have FQ:decide (x2<0)=true:=wU cg;rw[if_pos cg] at hr;subst hr;have hm:=hw cg▸Hf.q;obtain rfl:=sw.resolve_right (by omega);obtain⟨z0,⟨N0,l0,hz,ez,M0⟩,⟨i0,j0⟩,d0,hS⟩:=ZI Hkd.q hS;have c5:=zl mF.q d0;obtain⟨M1,m1⟩:=M0 7;go_wp2_with fail;generalize Rb:w2.alloc (.cells #[.string ⟨x0.toArray⟩,.int .u8 x1,.int .i64 x2] 180 (0,0))=w3 at *;have eP:=zh (zg mU.q (pG w3.heap.size w3).drew);have hS:=λW (h:Cl w3.drew W)=>And.intro (And.intro (zl (zg (pG w3.heap.size w3).drew h.below) v0) (HSn.q W (zg eP.q h.below))) (zl (zg eP.q h.below) d0)
     clear v0 v2;refine kS [(0,0),(1,1),(2,0),(3,0),(4,0),(5,1),(6,0),(7,1),(8,2),(9,0),(10,0)] ?_;refine ZH M1 eP λt4 w4 p4 y4 mQ=>?_
     refine uC HB mQ λW hW=>?_
     go_wp2;go_ret;refine⟨_,rfl,?_,hW⟩;simp[zu,p4.q]
    ·have FQ:decide (x2<0)=false:=wR cg;rw[if_neg cg] at hr;by_cases eC:x2=0
     ·subst eC;rw[if_pos (by decide)] at hr;subst hr;go_wp2;go_ret;exact⟨_,rfl,rfl,zg HB.q mU.q⟩
     ·have FP:(x2 == 0)=false:=pB.2 eC;rw[if_neg (by simp[FP])] at hr;subst hr;obtain⟨A1,lA⟩:=cF;go_wp2_with fail;generalize Rb:w2.alloc (.cells #[.string ⟨x0.toArray⟩,.int .u8 x1,.int .i64 x2] 180 (0,0))=w3 at *;have eP:=zh (zg mU.q (pG w3.heap.size w3).drew);have hS:=λW (h:Cl w3.drew W)=>And.intro (And.intro (zl (zg (pG w3.heap.size w3).drew h.below) v0) (HSn.q W (zg eP.q h.below))) (trivial)
      clear v0 v2;refine kS [(0,0),(1,1),(2,0),(3,0),(4,0),(5,1),(6,2),(7,0),(8,0),(9,0)] ?_;refine ZH A1 eP λt4 w4 p4 y4 mQ=>?_
      refine uC HB mQ λW hW=>?_
      go_wp2;go_ret;refine⟨_,rfl,?_,hW⟩;simp[zu,p4.q]
   |none=>
    simp only[Ve];have DP:=zh (λ(NC:(decide (60<=K) && decide (K<=65))=false) h80=>ziD K h80 (by rw[Hkn.q,gQ.q,ra.q,fW,NC];rfl));rw[fW] at hr;simp only at hr;have mU:=zh (zg mM.q (zf w2 (.cells #[.string ⟨#[]⟩,.int .u8 0,.int .i64 0] 180 (0,0))));replace hr:=zh hr;clear c0 c1 c2 c3 c4 cP cS cR cL fW;obtain⟨c0,c1,c2,c3,c4,cP,cS,cR,cL⟩:=HSn.q _ mU.q;go_wp2_with fail;refine (qY K 60 65 _).mono ?_;rintro e w4 ⟨rfl,f4⟩;have mF:=zh (zg mU.q f4);clear c0 c1 c2 c3 c4 cP cS cR cL f4;obtain⟨c0,c1,c2,c3,c4,cP,cS,cR,cL⟩:=HSn.q w4 mF.q;replace hr:=hr.q;by_cases NC:60<=K/\K<=65
    ·have SG:(decide (60<=K) && decide (K<=65))=true:=by simp[NC]
     rw[SG] at hr ⊢;rw[if_pos rfl] at hr;subst hr;clear SG;go_wp2_with fail;refine (hSt.q NC w4 mF.q).mono ?_;rintro e w4 ⟨t4,rfl,p4,f4⟩;have y4:=xH p4;replace p4:=zh p4;go_wp2;go_ret;refine Qe HB (zg mF.q f4) ?_;simp[zu,p4.q]
    ·have SG:(decide (60<=K) && decide (K<=65))=false:=by simp;omega
     rw[SG] at hr ⊢;rw[if_neg (by decide)] at hr;replace DP:=zh (DP.q SG);clear SG;by_cases h80:80<=K
     ·have DG:(80:Int)<=(K:Int):=by omega
      rw[if_pos h80] at hr;subst hr;go_wp2_with fail;refine (hTy.q h80 ⟨LN.1,LN.2.1⟩ w4 mF.q).mono ?_;rintro e w4 ⟨t4,rfl,p4,f4⟩;have y4:=xH p4;replace p4:=zh p4;go_wp2;go_ret;refine Qe HB (zg mF.q f4) ?_;simp[zu,p4.q]
     ·have DG:¬(80:Int)<=(K:Int):=by omega
      rw[if_neg h80] at hr;subst hr;go_wp2_with fail;refine (hCo.q (DP.q (by omega)) w4 mF.q).mono ?_;rintro e w4 ⟨t4,rfl,p4,f4⟩;have y4:=xH p4;replace p4:=zh p4;go_wp2;go_ret;refine Qe HB (zg mF.q f4) ?_;simp[zu,p4.q]
end
theorem zbe(P:Nat)(nv iv:Value)(l:List Nd)(kv:List Value)(hF:qm l l.length)(hR:∀x∈l,yF l x=true)(hn:l.length<=1000)(tS:∀x∈l,x.kind<=255):∀f m,m<=f->m<=l.length->vG P nv iv l kv (prN l f) m
 |0,m,hm,_=>by
  obtain rfl:m=0:=by omega
  exact⟨λ_ i hi=>absurd hi (wF _),λi hi=>absurd hi (wF _),pU _,tS⟩
 |f+1,m,hm,hf=>by
  refine⟨λw i hi hC=>?_,λi hi=>zbd hF hR hn (f+1) i (by omega),hf,tS⟩;have sT:i<l.length:=by omega
  have ih:=zbe P nv iv l kv hF hR hn tS f i (by omega) (by omega);have hx:l[i]? =some l[i]:=glE sT;have e2:prN l (f+1) i=xo l (prN l f) l[i]:=by
   show (match l[(i:Int).toNat]? with|some x=>xo l (prN l f) x|none=>[])=_
   rw[pZ,hx]
  rw[e2];exact zfD ih i l[i] w hC hx (hR _ (wE sT)) (λk hk=>by
   obtain⟨h0,h1⟩:=kN hF sT k hk;exact⟨h0,by omega⟩)
