/-
  A part of the proof: contracts of functions; no conditions.
-/
import Derived.Test.YtcagibbaeageoaaGreatDoorEE
import Derived.Test.YtcagibbaeageoaaGreatDoorEJ
import Derived.MapKept
import Derived.Carry
import Derived.OwnWalk
set_option maxRecDepth 100000
set_option maxHeartbeats 40000000
set_option linter.unusedSimpArgs false
set_option linter.unusedVariables false
namespace Lode
section
open Go Go.RowKit
def QR:Nat->List (Nat×Value)->List MapEntry
 |_,[]=>[]
 |b,x :: r=>⟨.int .u8 x.1,x.2,b⟩ :: QR (b+1) r
abbrev Zw(l:List (Nat×Value)):Obj:=.map (QR 0 l).toArray l.length
theorem zeB:∀(l:List (Nat×Value)) (b:Nat),(QR b l).length=l.length
 |[],_=>rfl
 |_ :: r,b=>by
  simp only[QR,pQ,zeB r]
theorem ZP:∀(l:List (Nat×Value)) (b:Nat) (x:Nat×Value),QR b (l ++ [x])=QR b l ++ [⟨.int .u8 x.1,x.2,b+l.length⟩]
 |[],_,_=>rfl
 |y :: r,b,x=>by
  simp only[wJ,QR,ZP r (b+1) x,pQ];rw[show b+1+r.length=b+(r.length+1) by omega]
theorem uS:∀(l:List (Nat×Value)) (b i k:Nat),(∀x∈l,x.1≠k)->Instr.findNow (.int .u8) (.int .u8 k) (QR b l) i=some none
 |[],_,_,_,_=>rfl
 |y :: r,b,i,k,h=>by
  have h1:=h y (List.mem_cons_self ..);have e:((k:Int) == (y.1:Int))=false:=bfE (by omega)
  simp only[QR,Instr.findNow,Instr.sameNow,if_true,e];exact uS r (b+1) (i+1) k (fun x hx=>h x (pY _ hx))
theorem Qr:∀(l:List (Nat×Value)) (b i k:Nat) (v:Value),(l.find? fun x=>x.1 == k)=some (k,v)->∃j,Instr.findNow (.int .u8) (.int .u8 k) (QR b l) i=some (some (j,v))
 |[],_,_,_,_,h=>by cases h
 |y :: r,b,i,k,v,h=>by
  by_cases hk:y.1=k
  ·rw[List.find?_cons,show (y.1 == k)=true by simpa using hk] at h;have e:((k:Int) == (y.1:Int))=true:=by rw[wC];omega
   cases h;refine⟨i,?_⟩;simp only[QR,Instr.findNow,Instr.sameNow,if_true,e]
  ·rw[List.find?_cons,show (y.1 == k)=false by simpa using hk] at h;have e:((k:Int) == (y.1:Int))=false:=bfE (by omega)
   obtain⟨j,hj⟩:=Qr r (b+1) (i+1) k v h;refine⟨j,?_⟩;simp only[QR,Instr.findNow,Instr.sameNow,if_true,e];exact hj
section
variable {P:Program} {w:World}
theorem zaR{kt:TypeId}(hk:P.underlying kt=some (.int .u8))(k:Nat)(e:Bool):(Instr.checkKey e 10000 kt (.int .u8 k)).run P w=.ok () w:=Go.MapKept.run_checkKey (d:=.int .u8) hk (by simp[Go.MapKept.IsKey]) _ 9999
theorem VG{t kt et:TypeId}(ht:P.underlying t=some (.map kt et))(hk:P.underlying kt=some (.int .u8)){z:Value}(hz:(zeroValue et).run P w=.ok z w){r:Nat}{l:List (Nat×Value)}(hb:w.heap[r]? =some (Zw l))(k:Nat):
 (Instr.lookup t (.map (some r)) (.int .u8 k) true).run P w=.ok (.tuple #[((l.find? fun x=>x.1 == k).map Prod.snd).getD z,.bool (l.find? fun x=>x.1 == k).isSome]) w:=by
 have h1:=fun e=>zaR (P:=P) (w:=w) hk k e
 cases hf:l.find? fun x=>x.1 == k with
 |none=>
  have hn:∀x∈l,x.1≠k:=fun x hx e=>by
   rw[List.find?_eq_none] at hf;exact hf x hx (by simpa using e)
  have h2:=Go.MapKept.run_findKey (w:=w) hk (show Instr.findNow (.int .u8) (.int .u8 k) (QR 0 l).toArray.toList 0=some none by simpa using uS l 0 0 k hn);simp[Instr.lookup,run_underlying ht,Go.MapKept.run_getObj_map hb,h1,Result.andThen] at h2 ⊢;simp[h2,hz,Result.andThen]
 |some x=>
  obtain⟨kx,v⟩:=x;have hkx:kx=k:=by simpa using List.find?_some hf
  subst hkx;obtain⟨j,hj⟩:=Qr l 0 0 kx v hf;have h2:=Go.MapKept.run_findKey (w:=w) hk (show Instr.findNow (.int .u8) (.int .u8 kx) (QR 0 l).toArray.toList 0=some (some (j,v)) by simpa using hj);simp[Instr.lookup,run_underlying ht,Go.MapKept.run_getObj_map hb,h1,Result.andThen] at h2 ⊢;simp[h2]
theorem zkc{t kt et:TypeId}(ht:P.underlying t=some (.map kt et))(hk:P.underlying kt=some (.int .u8)){r:Nat}{l:List (Nat×Value)}(hb:w.heap[r]? =some (Zw l))(k:Nat)(v:Value)(hn:∀x∈l,x.1≠k):
 (Instr.mapUpdate t (.map (some r)) (.int .u8 k) v).run P w=.ok () {w with heap:=w.heap.setIfInBounds r (Zw (l ++ [(k,v)]))}:=by
 have h1:=fun e=>zaR (P:=P) (w:=w) hk k e
 have h2:=Go.MapKept.run_findKey (w:=w) hk (show Instr.findNow (.int .u8) (.int .u8 k) (QR 0 l).toArray.toList 0=some none by simpa using uS l 0 0 k hn);have e:Zw (l ++ [(k,v)])=.map ((QR 0 l).toArray.push ⟨.int .u8 k,v,l.length⟩) (l.length+1):=by
  unfold Zw;rw[ZP];simp
 rw[e];simp[Instr.mapUpdate,run_underlying ht,Go.MapKept.run_getObj_map hb,h1,Result.andThen] at h2 ⊢;simp[h2,Go.MapKept.run_setObj_map _ hb]
theorem zhf{t kt et:TypeId}(ht:P.underlying t=some (.map kt et))(hk:P.underlying kt=some (.int .u8)){z:Value}(hz:∀w:World,(zeroValue et).run P w=.ok z w){r:Nat}{l:List (Nat×Value)}(hb:w.heap[r]? =some (Zw l))(k:Nat)(hn:∀x∈l,x.1≠k):
 (Instr.mapEntry t (.map (some r)) (.int .u8 k)).run P w=.ok (.tuple #[z,.int .i64 l.length]) {w with heap:=w.heap.setIfInBounds r (Zw (l ++ [(k,z)]))}:=by
 have h1:=fun e=>zaR (P:=P) (w:=w) hk k e
 have h2:=Go.MapKept.run_findKey (w:=w) hk (show Instr.findNow (.int .u8) (.int .u8 k) (QR 0 l).toArray.toList 0=some none by simpa using uS l 0 0 k hn);have e:Zw (l ++ [(k,z)])=.map ((QR 0 l).toArray.push ⟨.int .u8 k,z,l.length⟩) (l.length+1):=by
  unfold Zw;rw[ZP];simp
 rw[e];simp[Instr.mapEntry,run_underlying ht,Go.MapKept.run_getObj_map hb,h1,Result.andThen] at h2 ⊢;simp[h2,hz,Go.MapKept.run_setObj_map _ hb,Result.andThen,goInt]
theorem zaa:∀(l:List (Nat×Value)) (b:Nat) (x:Nat×Value),(QR b (l ++ [x])).findIdx? (fun e=>(e.born:Int) == ((b+l.length:Nat):Int))=some l.length
 |[],b,x=>by simp[QR,List.findIdx?_cons]
 |y :: r,b,x=>by
  have ih:=zaa r (b+1) x;have e:((b:Int) == ((b+(y :: r).length:Nat):Int))=false:=by
   rw[pC,pQ];omega
  rw[wJ];simp only[QR,List.findIdx?_cons,e];rw[show b+(y :: r).length=b+1+r.length by rw[pQ];omega,ih];simp
theorem QQ{α:Type}(f:α->α)(x:α):∀l:List α,(l ++ [x]).modify l.length f=l ++ [f x]
 |[]=>rfl
 |y :: l=>by
  show y :: (l ++ [x]).modify l.length f=y :: (l ++ [f x])
  rw[QQ f x l]
theorem zhe{t:TypeId}{r:Nat}{l:List (Nat×Value)}{z:Value}{k:Nat}(hb:w.heap[r]? =some (Zw (l ++ [(k,z)])))(v:Value):
 (Instr.entryStore t (.map (some r)) (.int .i64 l.length) v).run P w=.ok () {w with heap:=w.heap.setIfInBounds r (Zw (l ++ [(k,v)]))}:=by
 have hf:=zaa l 0 (k,z);rw[Nat.zero_add] at hf;have hf2:(QR 0 (l ++ [(k,z)])).toArray.findIdx? (fun e=>(e.born:Int) == (l.length:Int))=some l.length:=by
  rw[List.findIdx?_toArray];exact hf
 have e:Zw (l ++ [(k,v)])=.map ((QR 0 (l ++ [(k,z)])).toArray.modify l.length fun e=>{e with val:=v}) (l ++ [(k,z)]).length:=by
  unfold Zw;rw[ZP,ZP];simp only[pM,pN];congr 1;apply Array.ext';rw[Array.toList_modify];simp only;have:=QQ (fun e:MapEntry=>{e with val:=v}) ⟨.int .u8 k,z,0+l.length⟩ (QR 0 l);rw[zeB] at this;exact this.symm
 rw[e];have ha:(asInt (.int .i64 l.length)).run P w=.ok (l.length:Int) w:=rfl;simp only[Instr.entryStore,Sem.run_bind,Go.MapKept.run_getObj_map hb,Result.andThen,ha];rw[hf2];exact Go.MapKept.run_setObj_map _ hb
end
end
end Lode
namespace Go.Proofs.YtcagibbaeageoaaGreatDoor
section
open Go.RowKit Lode Go.Shelf
attribute [local go_sem ↓] Go.wp_at_zero Go.wp_at_succ
open Go.Proofs.Tryz
theorem zbn(k:Nat):(∃(j:Nat) (x:List UInt8×Nat×Int),Xb (fun x=>x.2.1 == k) ya=j/\ya[j]? =some x/\(ya.find? fun x=>x.2.1 == k)=some x)\/(Xb (fun x=>x.2.1 == k) ya= -1/\(ya.find? fun x=>x.2.1 == k)=none):=Ju _ _
theorem Jf(b:Nat)(k:Nat)(x0:List UInt8)(x1:Nat)(x2:Int)(w:World)(hq:w.cell? ⟨b,0,none⟩=some (.int .u8 k)):Calls prog 230 #[KQ x0 x1 x2,.pointer (some ⟨b,0,none⟩)] w (qw w (.bool (x1 == k))):=by
 unfold KQ;have hA:=zg w (.cells #[.string ⟨x0.toArray⟩,.int .u8 x1,.int .i64 x2] 180 (0,0));have hz:=zd (zl w (.cells #[.string ⟨x0.toArray⟩,.int .u8 x1,.int .i64 x2] 180 (0,0))) 1;have hq:=zj hA hq;have e:(x1 == k)=((x1:Int) == (k:Int)):=by rw[pS];simp;omega
 rw[e];go_enter func230,ntmps230;go_wp2;go_ret;exact⟨rfl,hA⟩
def uW(k:Nat):Value:=match ya.find? fun x=>x.2.1 == k with
 |some x=>.tuple #[KQ x.1 x.2.1 x.2.2,.bool true]
 |none=>.tuple #[KQ [] 0 0,.bool false]
theorem qj(k:Nat)(w:World):Calls prog 166 #[.int .u8 k] w (qw w (uW k)):=by
 have hmf:∀(fn:Fn) (first cap:Array Value) (w:World),(Instr.makeFunc fn first cap).run prog w=.ok (.func fn first cap) w:=fun _ _ _ _=>rfl
 have hA:=zg w (.cells #[.int .u8 k] 5 (0,0));have hB:=zf hA (zg (w.alloc (.cells #[.int .u8 k] 5 (0,0))) (.cells #[.string ⟨#[]⟩,.int .u8 0,.int .i64 0] 180 (0,0)));have hs1:=zh (zg (w.alloc (.cells #[.int .u8 k] 5 (0,0))) (.cells #[.string ⟨#[]⟩,.int .u8 0,.int .i64 0] 180 (0,0))) (zl w (.cells #[.int .u8 k] 5 (0,0)));have hr1:=zl (w.alloc (.cells #[.int .u8 k] 5 (0,0))) (.cells #[.string ⟨#[]⟩,.int .u8 0,.int .i64 0] 180 (0,0));rw[show (w.alloc (.cells #[.int .u8 k] 5 (0,0))).heap.size=w.heap.size+1 by simp] at hr1;replace hs1:=zi hs1;replace hr1:=zi hr1;have hwo:=zi (zbn k);go_enter func166,ntmps166;go_wp2_with fail;refine (XI _).mono ?_;rintro e w2 ⟨g,rfl,hg,hW,hb2⟩;have hB2:=zf hB hb2;have hs2:=zh hb2 hs1.out;have hr2:=zh hb2 hr1.out;have HI:=zi (Kn g 14 14 230 ⟨w.heap.size,0,none⟩ ya (fun x=>x.2.1 == k) w2 (enters_of (P:=prog) func230 (by kernel_rfl) rfl) rfl (by decide) hW (fun W x hb _=>Jf w.heap.size k x.1 x.2.1 x.2.2 W (zj hb (zd hs2 0))));replace hW:=zi hW;replace hs2:=zi hs2;replace hr2:=zi hr2;generalize Xb (fun x=>x.2.1 == k) ya=i at *;go_wp2_with fail;refine HI.out.mono ?_;rintro e w3 ⟨rfl,hb3⟩;have hB3:=zf hB2 hb3;have hr3:=zh hb3 hr2.out;rcases hwo.out with⟨j,x,rfl,hx,hw⟩|⟨rfl,hw⟩
 ·have hw:=zi hw;obtain⟨c0,c1,c2⟩:=hW.out.below hb3 j x hx;have hj:j<14:=(gtL hx);have hlt:¬((j:Int)<0):=by omega
  have hlt2:(j:Int)<14:=by omega
  obtain⟨x0,x1,x2⟩:=x;simp only at c0 c1 c2 hw ⊢;have f0:∀j,w3.frozen? ⟨w.heap.size+1,j,none⟩=false:=fun j=>zk hr3 j
  have d0:=zd hr3 0;have d1:=zd hr3 1;have d2:=zd hr3 2;replace hr3:=zi hr3;go_wp2_with fail;have z1:=zo hr3.out 0 (.string ⟨x0.toArray⟩);have z2:=zo z1 1 (.int .u8 x1);have z3:=zo z2 2 (.int .i64 x2);refine bodyPost_ret (v:=.tuple #[.agg #[.string ⟨x0.toArray⟩,.int .u8 x1,.int .i64 x2],.bool true]) (by simp[results,results166,go_sem,zd z3]) rfl ?_;exact⟨by unfold uW;rw[hw.out];rfl,((hB3.setCell (by simp) _).setCell (by simp) _).setCell (by simp) _⟩
 ·have hw:=zi hw;have f0:∀j,w3.frozen? ⟨w.heap.size+1,j,none⟩=false:=fun j=>zk hr3 j
  have d0:=zd hr3 0;have d1:=zd hr3 1;have d2:=zd hr3 2;replace hr3:=zi hr3;go_wp2_with fail;have z1:=zo hr3.out 0 (.string ⟨#[]⟩);have z2:=zo z1 1 (.int .u8 0);have z3:=zo z2 2 (.int .i64 0);refine bodyPost_ret (v:=.tuple #[.agg #[.string ⟨#[]⟩,.int .u8 0,.int .i64 0],.bool false]) (by simp[results,results166,go_sem,zd z3]) rfl ?_;exact⟨by unfold uW;rw[hw.out];rfl,((hB3.setCell (by simp) _).setCell (by simp) _).setCell (by simp) _⟩
theorem zdp(s:List UInt8)(w:World)(hs:s.length<=1000000000000):Calls prog 161 #[.string ⟨s.toArray⟩] w (qw w (.string ⟨(xX s).1.toArray⟩)):=by
 have hQ:=zi (Kj ⟨s.toArray⟩ w hs);simp only at hQ;generalize xX s=q at *;obtain⟨q1,q2⟩:=q;go_enter func161,ntmps161;go_wp2_with fail;refine hQ.out.mono ?_;rintro e w1 ⟨rfl,hb⟩;go_wp2;go_ret;exact⟨rfl,hb⟩
theorem zcf(s:List UInt8)(w:World)(hs:s.length<=1000000000000)(hG:qL w):Calls prog 66 #[.string ⟨s.toArray⟩] w fun e w'=>e=.returned (.tuple #[.string ⟨(ZN s).1.toArray⟩,.int .i64 ((ZN s).2:Nat)])/\Below w.heap.size w w':=by
 obtain⟨r,hr⟩:=exE (ZN s);rw[hr];unfold ZN at hr;have hR:=zi (Qf ⟨s.toArray⟩ w hs hG);simp only at hR;generalize vw s=rd at *;obtain⟨l,p,e0⟩:=rd;simp only at hr;by_cases he:e0=0
 ·subst he;rw[if_neg (by simp)] at hr;subst hr;go_enter func66,ntmps66;go_wp2_with fail;refine hR.out.mono ?_;rintro e w1 ⟨v,rfl,_,hb⟩;go_wp2;go_ret2;exact⟨rfl,hb⟩
 ·have he':((e0:Int) == 0)=false:=bfE (by omega)
  rw[if_pos he] at hr;subst hr;go_enter func66,ntmps66;go_wp2_with fail;refine hR.out.mono ?_;rintro e w1 ⟨v,rfl,_,hb⟩;go_wp2;go_ret2;exact⟨rfl,hb⟩
def XW:List (Nat×List UInt8):=[(22,[111,114]),(21,[97,110,100]),(14,[61,61]),(15,[33,61]),(16,[60]),(17,[60,61]),(18,[62]),(19,[62,61]),(20,[105,115]),(8,[43]),(9,[45]),(10,[43,43]),(11,[42]),(12,[47]),(13,[37])]
def vV:List (Nat×Int):=[(22,1),(21,2),(14,4),(15,4),(16,4),(17,4),(18,4),(19,4),(20,4),(8,5),(9,5),(10,5),(11,6),(12,6),(13,6),(7,3),(6,7),(37,7),(38,7),(39,7),(23,8),(24,8)]
def qO:List (Nat×Value):=XW.map fun x=>(x.1,.string ⟨x.2.toArray⟩)
def yP:List (Nat×Value):=vV.map fun x=>(x.1,.int .i64 x.2)
theorem zdm:∀k,k<256->((XW.find? fun x=>x.1 == k).map Prod.snd)=yO k:=by decide +kernel
theorem zdn:∀k,k<256->((vV.find? fun x=>x.1 == k).map Prod.snd).getD 9=(yR k:Nat):=by decide +kernel
structure PrW(w:World)(P:Nat)(nv iv:Value):Prop where
 maps:∃s r,w.heap[P]? =some (.cells #[nv,iv,.map (some s),.map (some r)] 166 (0,0))/\w.heap[s]? =some (Zw qO)/\w.heap[r]? =some (Zw yP)
theorem PrW.below{w w':World}{P:Nat}{nv iv:Value}(h:PrW w P nv iv)(hb:Below w.heap.size w w'):PrW w' P nv iv:=by
 obtain⟨s,r,h1,h2,h3⟩:=h.maps;exact⟨s,r,zh hb h1,(hb.block _ (gtA h2)).trans h2,(hb.block _ (gtA h3)).trans h3⟩
theorem zdd{W:World}{r:Nat}(hb:W.heap[r]? =some (Zw yP))(k:Nat):(Instr.lookup 164 (.map (some r)) (.int .u8 k) true).run prog W=.ok (.tuple #[((yP.find? fun x=>x.1 == k).map Prod.snd).getD (.int .i64 0),.bool (yP.find? fun x=>x.1 == k).isSome]) W:=
 VG (z:=.int .i64 0) underlying164 underlying5 (by kernel_rfl) hb k
theorem QI(k:Nat):(yP.find? fun x=>x.1 == k)=(vV.find? fun x=>x.1 == k).map fun x=>(x.1,Value.int .i64 x.2):=by
 unfold yP;rw[List.find?_map];rfl
theorem zgK(l:List Nd)(kv:List Value)(nv iv:Value)(P node:Nat)(x:Nd)(w:World)(hP:PrW w P nv iv)(hN:NS w nv l kv)(hx:l[node]? =some x)(hx255:x.kind<=255):Calls prog 222 #[.pointer (some ⟨P,0,none⟩),.int .i64 node] w (qw w (.int .i64 (yR x.kind:Nat))):=by
 obtain⟨s,r,h1,_,h3⟩:=hP.maps;obtain⟨np,nc,rfl⟩:=hN.form;have hlt:(node:Int)<(l.length:Int):=by have:=(gtL hx);omega
 have h0:¬((node:Int)<0):=by omega
 obtain⟨g,off,u,rfl,hA⟩:=hN.at hx;have a0:=hA.c0;have hrf:=zdn x.kind (by omega);obtain⟨o,ho⟩:=exE (vV.find? (fun y=>y.1 == x.kind));rw[ho] at hrf;have hlk:=fun (W:World) (hb:W.heap[r]? =some (Zw yP))=>zdd hb x.kind
 rw[QI,ho] at hlk;clear ho;have hS:∀W,Cl w.drew W->W.cell? ⟨P,3,none⟩=some (.map (some r))/\W.cell? ⟨P,0,none⟩=some (.slice (some ⟨g,off,none⟩) l.length nc)/\W.cell? ⟨g,off+node*5,none⟩=some (.int .u8 x.kind)/\(Instr.lookup 164 (.map (some r)) (.int .u8 x.kind) true).run prog W=.ok (.tuple #[((o.map fun x=>(x.1,Value.int .i64 x.2)).map Prod.snd).getD (.int .i64 0),.bool (o.map fun x=>(x.1,Value.int .i64 x.2)).isSome]) W:=fun W h=>by
  have hb:=zf (pE w.heap.size w).drew h.below;exact⟨zd (zh hb h1) 3,zd (zh hb h1) 0,zj hb a0,hlk W ((hb.block _ (gtA h3)).trans h3)⟩
 clear hlk hN hA a0 h1 h3 hP hx;cases o with
 |none=>
  have hrf':(9:Int)=(yR x.kind:Nat):=hrf;rw[<-hrf'];simp only[Option.map_none,Option.getD_none,Option.isSome_none] at hS;clear hrf hrf';go_enter func222,ntmps222;go_wp2_with fail;refine xt [(0,0),(1,0),(2,0),(3,1),(4,0),(5,0),(6,0),(7,0),(8,1),(9,0),(10,0),(11,0),(12,1),(13,1),(14,0),(15,0),(16,0),(17,0),(18,0)] ?_;refine xL ?_;refine zm fun W hW=>?_
  go_wp2;go_ret;exact⟨rfl,zf (pE w.heap.size w).drew hW.below⟩
 |some y=>
  have hrf':y.2=(yR x.kind:Nat):=hrf;rw[<-hrf'];simp only[Option.map_some,Option.getD_some,Option.isSome_some] at hS;clear hrf hrf';go_enter func222,ntmps222;go_wp2_with fail;refine xt [(0,0),(1,0),(2,0),(3,1),(4,0),(5,0),(6,0),(7,0),(8,1),(9,0),(10,0),(11,0),(12,1),(13,1),(14,0),(15,0),(16,0),(17,0),(18,0)] ?_;refine xL ?_;refine zm fun W hW=>?_
  go_wp2;go_ret;exact⟨rfl,zf (pE w.heap.size w).drew hW.below⟩
end
section
open Go.RowKit Lode Go.Shelf
open Go.Proofs.Tryz
theorem Tryz.infoStrP:(prog.info? 9).map (fun i=>(i.zero,i.size,i.bytes))=some (some (.string ⟨#[]⟩),1,16):=by kernel_rfl
theorem zgC{w:World}{base g n cap:Nat}{xs:List Value}(hown:w.ownsRow base 9 1 (.slice (some ⟨g,0,none⟩) n cap) n xs){ad:Addr}{u:Value}(hu:w.cell? ad=some u)(hs:ad.spot=none)(h1:u.oneCell'=true)(hn:n<=1000000)(hbase:base<=w.heap.size)(ty:TypeId):
 ∃g' cap' w',(Builtin.append_ #[133,133] ty #[.slice (some ⟨g,0,none⟩) n cap,.slice (some ad) 1 1]).run prog w=.ok (.slice (some ⟨g',0,none⟩) (n+1) cap') w'/\w'.ownsRow base 9 1 (.slice (some ⟨g',0,none⟩) (n+1) cap') (n+1) (xs ++ [u])/\w.grownBy w' (some g)/\(g'=g\/g'=w.heap.size):=by
 obtain⟨i0,hi,hz0,hz1,hz2⟩:=info_parts Tryz.infoStrP;have hnews:∀j x,[u][j]? =some x->w.cell? (ad.add j)=some x:=fun j x h=>by
  match j,h with
  |0,h=>
   simp at h;subst h;obtain⟨b,o,s⟩:=ad;simp only at hs;subst hs;exact hu
 have h1':∀x∈[u],x.oneCell'=true:=fun x hx=>by rw[wT] at hx;subst hx;exact h1
 obtain⟨v',w',hr,h2,h3,_⟩:=run_append_own (P:=prog) w base 133 ty 9 i0 _ 1 16 underlying133 hi hz0 hz1 hz2 rfl (by decide) _ n xs hown ad 1 1 [u] rfl hnews h1' (by unfold maxLen;omega) (by omega) hbase;have key:∃g' cap',v'=.slice (some ⟨g',0,none⟩) (n+1) cap'/\(g'=g\/g'=w.heap.size):=by
  rcases id hown.2 with⟨h,_⟩|⟨g2,cap2,cur,h,_,hg,hnc,hcm,hcs,htake⟩
  ·simp at h
  ·simp only[Value.slice.injEq,wP,Addr.mk.injEq,and_true,true_and] at h;obtain⟨rfl,rfl⟩:=h;by_cases hroom:n+1<=cap
   ·have hr2:=run_append_room (P:=prog) w 133 ty 9 i0 underlying133 hi g n cap cur hg ad 1 1 [u] (by rw[hz1];rfl) hnews h1' hroom (by rw[hz1,hcs];simp;omega);rw[hr] at hr2;simp only[Result.ok.injEq] at hr2;exact⟨g,cap,hr2.1,.inl rfl⟩
   ·have hr2:=run_append_grow (P:=prog) w 133 ty 9 i0 _ underlying133 hi hz0 ⟨g,0,none⟩ n cap xs (by rw[hz1];exact hown.1) (hown.cells (g:=g) rfl) ad 1 1 [u] (by rw[hz1];rfl) hnews (by omega) (by omega) (growslice_fits (by omega) (by rw[hz2];omega));rw[hr] at hr2;simp only[Result.ok.injEq] at hr2;exact⟨_,_,hr2.1,.inr rfl⟩
 obtain⟨g',cap',rfl,hg'⟩:=key;exact⟨g',cap',w',hr,h2,h3,hg'⟩
theorem zgD{w:World}{base n:Nat}{v:Value}{xs:List Value}(hown:w.ownsRow base 9 1 v n xs){ad:Addr}{u:Value}(hu:w.cell? ad=some u)(hs:ad.spot=none)(h1:u.oneCell'=true)(hn:n<=1000000)(hbase:base<=w.heap.size)(ty:TypeId):
 ∃g' cap' w',(Builtin.append_ #[133,133] ty #[v,.slice (some ad) 1 1]).run prog w=.ok (.slice (some ⟨g',0,none⟩) (n+1) cap') w'/\w'.ownsRow base 9 1 (.slice (some ⟨g',0,none⟩) (n+1) cap') (n+1) (xs ++ [u])/\w.grownBy w' v.ownBlock/\(v.ownBlock=some g'\/g'=w.heap.size):=by
 rcases id hown.2 with⟨rfl,h0⟩|⟨g,cap,cur,rfl,_⟩
 ·obtain⟨i0,hi,hz0,hz1,hz2⟩:=info_parts Tryz.infoStrP;have hnews:∀j x,[u][j]? =some x->w.cell? (ad.add j)=some x:=fun j x h=>by
   match j,h with
   |0,h=>
    simp at h;subst h;obtain⟨b,o,s⟩:=ad;simp only at hs;subst hs;exact hu
  have h1':∀x∈[u],x.oneCell'=true:=fun x hx=>by rw[wT] at hx;subst hx;exact h1
  obtain⟨v',w',hr,h2,h3,_⟩:=run_append_own (P:=prog) w base 133 ty 9 i0 _ 1 16 underlying133 hi hz0 hz1 hz2 rfl (by decide) _ n xs hown ad 1 1 [u] rfl hnews h1' (by unfold maxLen;omega) (by omega) hbase;have hr2:=run_append_nil (P:=prog) w 133 ty 9 i0 _ underlying133 hi hz0 ad 1 1 [u] (by rw[hz1];rfl) hnews (by decide) (by decide) (by rw[hz2];decide);rw[hr] at hr2;simp only[Result.ok.injEq] at hr2;obtain⟨rfl,rfl⟩:=hr2;subst h0;exact⟨_,_,_,hr,h2,h3,.inr rfl⟩
 ·obtain⟨g',cap',w',a,b,c,d⟩:=zgC hown hu hs h1 hn hbase ty;refine⟨g',cap',w',a,b,c,d.imp (fun h=>?_) id⟩;rw[h];rfl
theorem zbj{w:World}{ops:Array Oper}{rest:List Oper}{o:Oper}{a:Act}{Q:Exit->Act->World->Prop}(hgd:o.guard=none)(s x:Operand)
 (ho:o.op=.call {callee:=.builtin .append,args:= #[s,x],argTypes:= #[133,133]})
 {base n:Nat} {v:Value} {xs:List Value} (hs:a.eval s=v) (hown:w.ownsRow base 9 1 v n xs) {ad:Addr} {u:Value} (hx:a.eval x=.slice (some ad) 1 1) (hu:w.cell? ad=some u) (hsp:ad.spot=none) (h1:u.oneCell'=true) (hn:n<=1000000) (hbase:base<=w.heap.size)
 (h:∀g' cap' w',w'.ownsRow base 9 1 (.slice (some ⟨g',0,none⟩) (n+1) cap') (n+1) (xs ++ [u])->w.grownBy w' v.ownBlock->(v.ownBlock=some g'\/g'=w.heap.size)->wpList prog ops Q rest (a.put o.dst (.slice (some ⟨g',0,none⟩) (n+1) cap')) w'):wpList prog ops Q (o :: rest) a w:=by
 refine wpList_plain hgd fun K hK=>?_
 obtain⟨g',cap',w',hr,h2,h3,h4⟩:=zgD hown hu hsp h1 hn hbase o.type;unfold Oper.wp;simp[execOp,ho,resolve,invoke,builtin,hs,hx,hr,Result.andThen];exact hK _ _ (h g' cap' w' h2 h3 h4)
end
section
open Go.RowKit Lode Go.Shelf
attribute [local go_sem ↓] Go.wp_at_zero Go.wp_at_succ
open Go.Proofs.Tryz
theorem KS.take{w:World}{g off n cap:Nat}{l:List Int}(h:KS w (.slice (some ⟨g,off,none⟩) n cap) l)(b:Nat)(hb:b<=l.length):KS w (.slice (some ⟨g,off,none⟩) b cap) (l.take b):=by
 have h1:=h.cap;have:=h.sub (cap':=cap) 0 b (pX _) hb (by omega);simpa using this
theorem KS.dropc{w:World}{g off n cap:Nat}{l:List Int}(h:KS w (.slice (some ⟨g,off,none⟩) n cap) l)(a:Nat)(ha:a<=l.length):KS w (.slice (some ⟨g,off+a,none⟩) (n-a) (cap-a)) (l.drop a):=by
 have h1:=h.cap;have:=h.sub (cap':=cap-a) a l.length ha (pG _) (by omega);rw[List.take_length,<-h1.1] at this;exact this
def jL(w:World)(l:List UInt8)(e:Ending)(w':World):Prop:=∃b:ByteArray,e=.returned (.string b)/\b.data.toList=l/\Below w.heap.size w w'
theorem xS{b:ByteArray}{l:List UInt8}(h:b.data.toList=l):b.size=l.length:=by rw[<-h];rfl
theorem Xr{l:List Oper}{Q:Act->World->Prop}{q:List (Nat×Nat)}{wA b:World}{a:Act}{i:Nat}{o:Oper}{fn:Nat}{args:Array Value}{x:List UInt8}(hi':l[i]? =some o)(hw:Region.wanted o (yielded l.toArray a.tmps)=true)(hop:∀w,(execOp a.eval o).run prog w=.ok (.enter fn args) w)(HN:Hid (∀V,Below wA.heap.size wA V->Calls prog fn args V (jL V x)))(hb:Hid (Below wA.heap.size wA b))(h:∀(s:ByteArray) w1,Hid (s.data.toList=x)->s.size=x.length->Hid (Below wA.heap.size wA w1)->jh prog l.toArray Q q w1 (a.put o.dst (.string s))):jh prog l.toArray Q ((i,2) :: q) b a:=by
 refine zU hi' hw fun K hK V hV=>?_
 unfold Oper.wp;rw[hop V];refine (HN.out V (zf hb.out hV.below)).mono ?_;rintro e w1 ⟨s,rfl,hs,f⟩;exact⟨qo.2 f,hK _ _ (h s w1 (zi hs) (xS hs) (zi (zf (zf hb.out hV.below) f)))⟩
theorem zbX{l:List Oper}{Q:Act->World->Prop}{q:List (Nat×Nat)}{w wA b:World}{a:Act}{i:Nat}{o:Oper}{fn:Nat}{args:Array Value}{x:List UInt8}(hi':l[i]? =some o)(hw:Region.wanted o (yielded l.toArray a.tmps)=true)(hop:∀w,(execOp a.eval o).run prog w=.ok (.enter fn args) w)(hA:Below w.heap.size w wA)(HN:Hid (∀V,Below w.heap.size w V->Calls prog fn args V (jL V x)))(hb:Hid (Below wA.heap.size wA b))(h:∀(s:ByteArray) w1,Hid (s.data.toList=x)->s.size=x.length->Hid (Below wA.heap.size wA w1)->jh prog l.toArray Q q w1 (a.put o.dst (.string s))):jh prog l.toArray Q ((i,2) :: q) b a:=
 Xr hi' hw hop (zi fun V hb=>HN.out V (zf hA hb)) hb h
structure kO(w:World)(P:Nat)(nv iv:Value)(l:List Nd)(kv:List Value):Prop where
 pr:PrW w P nv iv
 ns:NS w nv l kv
 gl:qL w
theorem kO.below{w w':World}{P:Nat}{nv iv:Value}{l:List Nd}{kv:List Value}(h:kO w P nv iv l kv)(hb:Below w.heap.size w w'):kO w' P nv iv l kv:=⟨h.pr.below hb,h.ns.below hb,h.gl.later hb⟩
structure yH(P:Nat)(nv iv:Value)(l:List Nd)(kv:List Value)(pr:Int->List UInt8)(n:Nat):Prop where
 ok:∀(w:World) (i:Nat),i<n->kO w P nv iv l kv->Calls prog 108 #[.pointer (some ⟨P,0,none⟩),.int .i64 i] w (jL w (pr i))
 len:∀i:Nat,i<n->(pr i).length<=3200000
 le:n<=l.length
 kind:∀x∈l,x.kind<=255
section
variable {P:Nat} {nv iv:Value} {l:List Nd} {kv:List Value} {pr:Int→List UInt8} {n:Nat}
theorem Zh(H:yH P nv iv l kv pr n)(i least:Nat)(w:World)(hC:kO w P nv iv l kv)(hi:i<n):Calls prog 159 #[.pointer (some ⟨P,0,none⟩),.int .i64 i,.int .i64 least] w (jL w (xD l pr i least)):=by
 obtain⟨x,hx⟩:∃x,l[i]? =some x:=⟨_,glE (wO hi H.le)⟩;have hka:zE l i=x.kind:=by
  unfold zE;rw[wG,hx];rfl
 have hN:=zi (H.ok w i hi hC);have hR:=zi (fun W (hb:Below w.heap.size w W)=>zgK l kv nv iv P i x W (hC.below hb).pr (hC.below hb).ns hx (H.kind x (pW hx)));have hlen:=H.len i hi;obtain⟨r,hr⟩:=exE (xD l pr i least);rw[hr];unfold xD at hr;rw[hka] at hr;clear hC hx hka;generalize yR x.kind=rk at *;generalize pr i=t at *;have Hr:=zi hr;clear hr H;go_enter func159,ntmps159;go_wp2_with fail;refine hN.out.mono ?_;rintro e w1 ⟨b,rfl,hb,hb1⟩;have hsz:=xS hb;have HB:=zi hb;have hR2:=zi (hR.out w1 hb1);clear hb;go_wp2_with fail;refine hR2.out.mono ?_;rintro e w2 ⟨rfl,hb2⟩;by_cases hlt:rk<least
 ·have hlt':(rk:Int)<(least:Int):=by omega
  have h:=Hr.out;rw[if_pos hlt] at h;subst h;go_wp2;go_ret;refine⟨_,rfl,?_,zf hb1 hb2⟩;rw[<-HB.out];simp[zv]
 ·have hlt':¬(rk:Int)<(least:Int):=by omega
  have h:=Hr.out;rw[if_neg hlt] at h;subst h;go_wp2;go_ret;exact⟨_,rfl,HB.out,zf hb1 hb2⟩
def zep(xs:List ByteArray):List Value:=xs.map Value.string
def zjL(pr:Int->List UInt8)(ks:List Int)(w:World)(out i:Value)(wr:World):Prop:=∃(j:Nat) (xs:List ByteArray),i=.int .i64 j/\j<=ks.length/\wr.ownsRow w.heap.size 9 1 out j (zep xs)/\xs.map (·.data.toList)=(ks.take j).map pr/\Below w.heap.size w wr
theorem QS:∀l:List (List UInt8),Go.Lib.join l [44,32]=kH l
 |[]=>rfl
 |[x]=>by simp[Go.Lib.join,kH]
 |x :: y :: r=>by
  have ih:=QS (y :: r);unfold kH;rw[<-ih];simp[Go.Lib.join,List.intercalate,List.intersperse]
theorem Zq{ls:List (List UInt8)}{c:Nat}(h:∀x∈ls,x.length<=c):(kH ls).length<=(c+2)*ls.length:=by
 induction ls with
 |nil=>simp[kH]
 |cons x r ih=>
  have h1:=h x (List.mem_cons_self ..);have h2:=ih (fun y hy=>h y (pY _ hy));cases r with
  |nil=>
   simp only[kH,pQ,wD];omega
  |cons y r=>
   unfold kH;simp only[pM,pQ,wD] at h2 ⊢;rw[Nat.mul_add];omega
theorem xM(H:yH P nv iv l kv pr n){ks:List Int}(hks:∀k∈ks,0<=k/\k<(n:Int))(hkl:ks.length<=100000):(qA pr ks).length<=320000200000:=by
 have:=Zq (ls:=ks.map pr) (c:=3200000) (fun y hy=>by
  obtain⟨k,hk,rfl⟩:=List.mem_map.1 hy;obtain⟨h0,h1⟩:=hks k hk;obtain⟨kn,rfl⟩:=pO h0;exact H.len kn (by omega))
 rw[gB] at this;unfold qA;omega
theorem jV(H:yH P nv iv l kv pr n)(v:Value)(ks:List Int)(w:World)(hC:kO w P nv iv l kv)(hv:KS w v ks)(hks:∀k∈ks,0<=k/\k<(n:Int))(hkl:ks.length<=100000):Calls prog 163 #[.pointer (some ⟨P,0,none⟩),v] w (jL w (qA pr ks)):=by
 obtain⟨p,cap,rfl⟩:=hv.form;obtain⟨m,hm⟩:=exE (ks.length);rw[hm] at hv hkl ⊢;have Hm:=zi hm;have HV:=zi hv;have HC:=zi hC;have HK:=zi hks;have HH:=zi H;have hst:=zi (show zjL pr ks w (.slice none 0 0) (.int .i64 0) w from ⟨0,[],rfl,pX _,⟨rfl,.inl ⟨rfl,rfl⟩⟩,rfl,pE _ _⟩);clear hm hv hC hks H;go_enter func163,ntmps163;go_wp2;go_loopw [5,10] (zjL pr ks w) (fun _ i _=>m-(intOf i).toNat)
 case atStart=>exact hst.out
 case round=>
  rename_i out _;obtain⟨j,xs,rfl,hj,hown,hxs,hb⟩:=hrel;rw[Hm.out] at hj;by_cases hlt:j<m
  ·have hlt':(j:Int)<(m:Int):=by omega
   have hj0:¬((j:Int)<0):=by omega
   have hy:=pF ((j:Int)+1) (by omega);have hjl:j<ks.length:=by rw[Hm.out];omega
   obtain⟨g2,off2,rfl,_,d0⟩:=(HV.out.below hb).at hjl;have hzz:=HK.out (ks.getD j 0) (by rw[pB,glE hjl];exact wK hjl);have htk:(ks.take (j+1)).map pr=(ks.take j).map pr ++ [pr (ks.getD j 0)]:=by
    rw[wY,glE hjl,pB,glE hjl,List.map_append];rfl
   generalize ks.getD j 0=z at *;obtain⟨zn,rfl⟩:=pO hzz.1;have hN:=zi (HH.out.ok wr zn (by omega) (HC.out.below hb));have HXS:=zi hxs;have HTK:=zi htk;have hown':=zi hown;clear hxs htk hown hzz;go_wp2_with fail;refine hN.out.mono ?_;rintro e w1 ⟨b,rfl,hbb,hb1⟩;have HB:=zi hbb;have hbw1:=zf hb hb1;have hown2:=zr (zr hown'.out hb1) (zg w1 (.cells #[.string b] 9 (0,0)));have hbA:=zf hbw1 (zg w1 (.cells #[.string b] 9 (0,0)));have hsz:=hbw1.size;clear hbb;go_wp2_with (at_builtin;refine zbj rfl _ _ rfl rfl hown2 rfl (zd (zl w1 _) 0) rfl rfl (by omega) (by simp;omega) ?_);intro g' cap' w2 hrow hgrow hg';have hb2:=vg hbA hown2 hgrow;have hrow2:w2.ownsRow w.heap.size 9 1 (.slice (some ⟨g',0,none⟩) (j+1) cap') (j+1) (zep (xs ++ [b])):=by
    simp only[zep,List.map_append,List.map_cons,List.map_nil];exact hrow
   replace hrow2:=zi hrow2;clear hrow hgrow hg' hown2;go_wp2;go_roundw
   case rel=>exact⟨j+1,xs ++ [b],by go_num,by rw[Hm.out];omega,hrow2.out,by rw[List.map_append,HXS.out,HTK.out,List.map_cons,List.map_nil,HB.out],hb2⟩
   case measure=>simp[intOf];omega
  ·have hlt':¬((j:Int)<(m:Int)):=by omega
   have hjm:j=m:=by omega
   have htk:ks.take j=ks:=by rw[hjm,<-Hm.out];exact List.take_length
   rw[htk] at hxs;have hxl:xs.length=m:=by
    have:=congrArg List.length hxs;rw[gB,gB,Hm.out] at this;exact this
   have hfin:Go.Lib.join (xs.map (·.data.toList)) [44,32]=qA pr ks:=by
    rw[hxs,QS];rfl
   have hsmall:(Go.Lib.join (xs.map (·.data.toList)) [44,32]).length<=140737488355328:=by
    rw[hfin];have:=Zq (ls:=ks.map pr) (c:=3200000) (fun y hy=>by
     obtain⟨k,hk,rfl⟩:=List.mem_map.1 hy;obtain⟨h0,h1⟩:=HK.out k hk;obtain⟨kn,rfl⟩:=pO h0;exact HH.out.len kn (by omega))
    rw[gB,Hm.out] at this;unfold qA;omega
   have Hfin:=zi hfin;rcases id hown.2 with⟨rfl,h0⟩|⟨g,cap2,cur,rfl,_⟩
   ·have hJ:=zi (Tryz.strings_Join_none none 0 ⟨#[44,32]⟩ wr);have hx0:xs=[]:=pT (by omega);clear hown hxs hfin hsmall;go_wp2_with fail;refine hJ.out.mono ?_;rintro e w3 ⟨rfl,rfl⟩;go_wp2;go_ret;refine⟨_,rfl,?_,hb⟩;rw[<-Hfin.out,hx0];rfl
   ·have hcells:=fun (q:Nat) (x:ByteArray) (hx:xs[q]? =some x)=>(show wr.cell? ⟨g,0+q,none⟩=some (.string x) from by
     rw[Nat.zero_add];have:=hown.cellAt q (by rw[show j*1=j by omega];have:=(gtL hx);omega);rw[this];unfold zep;rw[wE,hx];rfl)
    have hlt2:=(hown.lt g rfl).2;have hcap:xs.length<=cap2:=by
     obtain⟨_,⟨hv,_⟩|⟨g',cap',cur',hv,_,_,hle,_⟩⟩:=hown
     ·cases hv
     ·cases hv;omega
    have hJ:=Tryz.strings_Join g 0 cap2 xs ⟨#[44,32]⟩ wr hcells hlt2 (by omega) hcap hsmall;rw[hxl] at hJ;have HJ:=zi hJ;subst hjm;clear hown hxs hfin hsmall hJ hcells hxl;go_wp2_with fail;refine HJ.out.mono ?_;rintro e w3 ⟨rfl,hb3⟩;go_wp2;go_ret;exact⟨_,rfl,Hfin.out,zf hb hb3⟩
theorem zdv(H:yH P nv iv l kv pr n)(v:Value)(ks:List Int)(w:World)(hC:kO w P nv iv l kv)(hv:KS w v ks)(hks:∀k∈ks,0<=k/\k<(n:Int))(hkl:ks.length<=100000):Calls prog 164 #[.pointer (some ⟨P,0,none⟩),v] w (jL w (vG pr ks)):=by
 have hA:=zi (jV H v ks w hC hv hks hkl);obtain⟨p,cap,rfl⟩:=hv.form;have hsm:=Zq (ls:=ks.map pr) (c:=3200000) (fun y hy=>by
  obtain⟨k,hk,rfl⟩:=List.mem_map.1 hy;obtain⟨h0,h1⟩:=hks k hk;obtain⟨kn,rfl⟩:=pO h0;exact H.len kn (by omega))
 rw[gB] at hsm;obtain⟨r,hr⟩:=exE (vG pr ks);rw[hr];unfold vG at hr;have Hr:=zi hr;obtain⟨m,hm⟩:=exE (ks.length);rw[hm] at hA hsm hkl ⊢;have Hm:=zi hm;have Hsm:=zi hsm;clear hr hC hv hks H hm hsm;by_cases h0:m=0
 ·subst h0;have hn:ks=[]:=pT Hm.out;have h:=Hr.out;rw[if_pos hn] at h;subst h;go_enter func164,ntmps164;go_wp2;go_ret;exact⟨_,rfl,rfl,pE _ _⟩
 ·have hn:ks≠[]:=fun e=>h0 (by rw[<-Hm.out,e];rfl)
  have h:=Hr.out;rw[if_neg hn] at h;subst h;have h0':((m:Int) == 0)=false:=bfE (by omega)
  go_enter func164,ntmps164;go_wp2_with fail;refine hA.out.mono ?_;rintro e w1 ⟨b,rfl,hb,hb1⟩;have hsz:=xS hb;unfold qA at hsz;have hsz2:b.size<=3200002*100000:=by have:=Hsm.out;omega
  have HB:=zi hb;clear hb hsz;go_wp2;go_ret;refine⟨_,rfl,?_,hb1⟩;rw[<-HB.out];simp[zv]
theorem zcZ(pr:Int->List UInt8)(last:Bool)(k:Int)(r:List Int):xY pr last (k :: r)=pr k ++ (if !r.isEmpty || !last then [59] else []) ++ [32] ++ xY pr last r:=by
 cases r with
 |nil=>cases last <;> simp[xY]
 |cons j r=>simp[xY]
theorem BAt.lat{B b:Nat}{p:Value}{bs:List Value}{w w':World}(h:BAt B b p bs w)(hb:Below w.heap.size w w'):BAt B b p bs w':=by
 obtain⟨hB,v,hbk,hown,hne⟩:=h;exact⟨hB,v,zh hb hbk,zr hown hb,hne⟩
theorem Bd.lat{w0 w w':World}{b:Nat}{ob:ByteArray}(h:Bd w0 b ob w)(hb:Below w.heap.size w w'):Bd w0 b ob w':=⟨h.1.imp (fun h=>BAt.lat h hb) (fun h=>BAt.lat h hb),zf h.2 hb⟩
def zjz(pr:Int->List UInt8)(last:Bool)(ks:List Int)(wB:World)(B:Nat)(i:Value)(wr:World):Prop:=∃(j:Nat) (ob:ByteArray),i=.int .i64 j/\j<=ks.length/\Bd wB B ob wr/\Hid (ob.data.toList ++ xY pr last (ks.drop j)=[123,32] ++ xY pr last ks)/\ob.size<=2+3200002*j
theorem zds(H:yH P nv iv l kv pr n)(x:Nd)(u:Value)(w:World)(hC:kO w P nv iv l kv)(hu:KS w u x.kids)(hks:∀k∈x.kids,0<=k/\k<(n:Int))(hkl:x.kids.length<=100000):Calls prog 165 #[.pointer (some ⟨P,0,none⟩),xW x u] w (jL w (ZZ pr x)):=by
 obtain⟨up,uc,rfl⟩:=hu.form;obtain⟨r,hr⟩:=exE (ZZ pr x);rw[hr];unfold ZZ at hr;unfold xW;obtain⟨x0,x1,x2,ks,x4⟩:=x;simp only at hr hu hks hkl ⊢;obtain⟨m,hm⟩:=exE (ks.length);rw[hm] at hu hkl ⊢;have Hm:=zi hm;have Hr:=zi hr;have HU:=zi hu;have HK:=zi hks;have HC:=zi hC;have HH:=zi H;have hA:=zg w (.cells #[.int .u8 x0,.string ⟨x1.toArray⟩,.int .i64 x2,.slice up m uc,.int .i64 x4] 60 (0,0));have HZ:=zi (zl w (.cells #[.int .u8 x0,.string ⟨x1.toArray⟩,.int .i64 x2,.slice up m uc,.int .i64 x4] 60 (0,0)));clear hm hr hu hks hC H;by_cases h0:m=0
 ·subst h0;have hn:ks=[]:=pT Hm.out;have h:=Hr.out;rw[if_pos hn] at h;subst h;go_enter func165,ntmps165;go_wp2;go_ret;exact⟨_,rfl,rfl,hA⟩
 have hn:ks≠[]:=fun e=>h0 (by rw[<-Hm.out,e];rfl)
 have h:=Hr.out;rw[if_neg hn] at h;subst h;have h0':((m:Int) == 0)=false:=bfE (by omega)
 have hwm:=pF ((m:Int)-1) (by omega);obtain⟨wB,hwB⟩:=exE (w.alloc (.cells #[.int .u8 x0,.string ⟨x1.toArray⟩,.int .i64 x2,.slice up m uc,.int .i64 x4] 60 (0,0)));have hszB:wB.heap.size=w.heap.size+1:=by rw[<-hwB];simp
 have hbox:∀W,Below wB.heap.size wB W->W.cell? ⟨w.heap.size,2,none⟩=some (.int .i64 x2)/\W.cell? ⟨w.heap.size,3,none⟩=some (.slice up m uc):=fun W hb=>by
  have:=HZ.out;rw[hwB] at this;exact⟨zd (zh hb this) 2,zd (zh hb this) 3⟩
 replace hbox:=zi hbox;rw[hwB] at hA;have hW0:=zi ((Bd.fresh wB (w.heap.size+1) hszB.symm).writeStr ⟨#[123,32]⟩ (by decide));obtain⟨c2,c3⟩:=hbox.out wB bR;rw[<-hwB] at c2 c3;have HwB:=zi hwB;have HszB:=zi hszB;clear hwB hszB;go_enter func165,ntmps165;go_wp2_with fail;clear c2 c3;rw[HwB.out];have hszB:=HszB.out;refine hW0.out.mono ?_;rintro e w1 ⟨rfl,hb1⟩;have hst:=zi (show zjz pr (x2 != 0) ks wB (w.heap.size+1) (.int .i64 0) w1 from ⟨0,_,rfl,pX _,hb1,zi (by simp),by decide⟩);obtain⟨c2,c3⟩:=hbox.out w1 hb1.2;clear hW0;go_wp2;go_loopw [16] (zjz pr (x2 != 0) ks wB (w.heap.size+1)) (fun i _=>m-(intOf i).toNat)
 case atStart=>exact hst.out
 case round=>
  obtain⟨j,ob,rfl,hj,hb,hob,hsz⟩:=hrel;rw[Hm.out] at hj;clear c2 c3;by_cases hlt:j<m
  ·have hlt':(j:Int)<(m:Int):=by omega
   have hj0:¬((j:Int)<0):=by omega
   have hy:=pF ((j:Int)+1) (by omega);have hjl:j<ks.length:=by rw[Hm.out];omega
   have hbw:=zf hA hb.2;obtain⟨g2,off2,rfl,_,d0⟩:=(HU.out.below hbw).at hjl;have hzz:=HK.out (ks.getD j 0) (by rw[pB,glE hjl];exact wK hjl);have hdr:ks.drop j=ks.getD j 0 :: ks.drop (j+1):=by
    rw[List.drop_eq_getElem_cons hjl,pB,glE hjl];rfl
   have hst2:=hob.out;rw[hdr,zcZ] at hst2;generalize ks.getD j 0=z at *;obtain⟨zn,rfl⟩:=pO hzz.1;have hN:=zi (HH.out.ok wr zn (by omega) (HC.out.below hbw));have hnl:=HH.out.len zn (by omega);have HST:=zi hst2;have HB:=zi hb;have hemp:(ks.drop (j+1)).isEmpty=decide (m<=j+1):=by
    rw[pS,List.isEmpty_iff,pK,List.drop_eq_nil_iff,Hm.out]
   rw[hemp] at HST;clear hemp;clear hst2 hdr hzz hb hob;go_wp2_with fail;refine hN.out.mono ?_;rintro e w2 ⟨b,rfl,hbb,hb2⟩;have hbs:=xS hbb;have hb3:=Bd.lat HB.out hb2;have hW:=zi (hb3.writeStr b (by omega));have HBB:=zi hbb;clear hbb;go_wp2_with fail;refine hW.out.mono ?_;rintro e w3 ⟨rfl,hb4⟩;obtain⟨c2,c3⟩:=hbox.out w3 hb4.2;by_cases hsemi:j+1<m\/x2=0
   ·have hgo:(if !decide (m<=j+1) || !(x2 != 0) then [59] else [])=([59]:List UInt8):=by
     rw[if_pos];rw[wL];rcases hsemi with h|h
     ·left;simp;omega
     ·right;simp[h]
    have HST2:=zi (show ob.data.toList ++ (pr zn ++ [59] ++ [32] ++ xY pr (x2 != 0) (ks.drop (j+1)))=[123,32] ++ xY pr (x2 != 0) ks from by have h9:=HST.out;rw[hgo] at h9;exact h9);have hW1:=zi (hb4.write (by rw[ByteArray.size_append];omega) 59);have hfin:∀(w4:World),Bd wB (w.heap.size+1) (ob ++ b ++ ⟨#[59]⟩) w4->Calls prog 227 #[.pointer (some ⟨w.heap.size+1,0,none⟩),.int .u8 ((32:UInt8).toNat:Int)] w4 fun e w'=>e=.returned .nilIface/\Bd wB (w.heap.size+1) (ob ++ b ++ ⟨#[59]⟩ ++ ⟨#[32]⟩) w':=fun w4 h=>h.write (by rw[ByteArray.size_append,ByteArray.size_append];have e1:(⟨#[59]⟩:ByteArray).size=1:=rfl;omega) 32
    replace hfin:=zi hfin;clear hgo HST;by_cases h1:j+1<m
    ·have z1:decide ((j:Int)<(m:Int)-1)=true:=by rw[pK];omega
     have z1':(j:Int)<(m:Int)-1:=by omega
     go_wp2_with fail;refine hW1.out.mono ?_;rintro e w4 ⟨rfl,hb5⟩;have hW2:=zi (hfin.out w4 (hb5));go_wp2_with fail;refine hW2.out.mono ?_;rintro e w5 ⟨rfl,hb6⟩;go_wp2;go_roundw
     case rel=>exact⟨j+1,_,by go_num,by rw[Hm.out];omega,hb6,zi (by rw[zv,zv,zv,HBB.out,<-HST2.out];simp),by rw[ByteArray.size_append,ByteArray.size_append,ByteArray.size_append];have e1:(⟨#[59]⟩:ByteArray).size=1:=rfl;have e2:(⟨#[32]⟩:ByteArray).size=1:=rfl;omega⟩
     case measure=>simp[intOf];omega
    ·have hx2:x2=0:=hsemi.resolve_left h1;subst hx2;have z1:decide ((j:Int)<(m:Int)-1)=false:=by rw[wX];omega
     have z1':¬(j:Int)<(m:Int)-1:=by omega
     go_wp2_with fail;refine hW1.out.mono ?_;rintro e w4 ⟨rfl,hb5⟩;have hW2:=zi (hfin.out w4 (hb5));go_wp2_with fail;refine hW2.out.mono ?_;rintro e w5 ⟨rfl,hb6⟩;go_wp2;go_roundw
     case rel=>exact⟨j+1,_,by go_num,by rw[Hm.out];omega,hb6,zi (by rw[zv,zv,zv,HBB.out,<-HST2.out];simp),by rw[ByteArray.size_append,ByteArray.size_append,ByteArray.size_append];have e1:(⟨#[59]⟩:ByteArray).size=1:=rfl;have e2:(⟨#[32]⟩:ByteArray).size=1:=rfl;omega⟩
     case measure=>simp[intOf];omega
   ·have h1:¬(j+1<m):=fun h=>hsemi (.inl h)
    have hx2:x2≠0:=fun h=>hsemi (.inr h)
    have hgo:(if !decide (m<=j+1) || !(x2 != 0) then [59] else [])=([]:List UInt8):=by
     rw[if_neg];simp only[wL,Bool.not_eq_true',wX,gF];intro h;rcases h with h|h
     ·omega
     ·exact hx2 h
    have HST2:=zi (show ob.data.toList ++ (pr zn ++ [] ++ [32] ++ xY pr (x2 != 0) (ks.drop (j+1)))=[123,32] ++ xY pr (x2 != 0) ks from by have h9:=HST.out;rw[hgo] at h9;exact h9);have hW2:=zi (hb4.write (by rw[ByteArray.size_append];omega) 32);clear hgo HST;have z1:decide ((j:Int)<(m:Int)-1)=false:=by rw[wX];omega
    have z1':¬(j:Int)<(m:Int)-1:=by omega
    have hx2':(x2 == 0)=false:=bfE hx2
    go_wp2_with fail;refine hW2.out.mono ?_;rintro e w5 ⟨rfl,hb6⟩;go_wp2;go_roundw
    case rel=>exact⟨j+1,_,by go_num,by rw[Hm.out];omega,hb6,zi (by rw[zv,zv,HBB.out,<-HST2.out];simp),by rw[ByteArray.size_append,ByteArray.size_append];have e2:(⟨#[32]⟩:ByteArray).size=1:=rfl;omega⟩
    case measure=>simp[intOf];omega
  ·have hlt':¬((j:Int)<(m:Int)):=by omega
   have hjm:j=m:=by omega
   have hdr:ks.drop j=[]:=List.drop_eq_nil_of_le (by rw[Hm.out];omega);have hst2:=hob.out;rw[hdr] at hst2;have HST:=zi hst2;have hW1:=zi (hb.write (by omega) 125);have hfin:∀(w4:World),Bd wB (w.heap.size+1) (ob ++ ⟨#[125]⟩) w4->Calls prog 67 #[.pointer (some ⟨w.heap.size+1,0,none⟩)] w4 fun e w'=>e=.returned (.string (ob ++ ⟨#[125]⟩))/\BdF wB (w.heap.size+1) (ob ++ ⟨#[125]⟩) w':=fun w4 h=>h.str
   replace hfin:=zi hfin;clear hst2 hob hdr hb;go_wp2_with fail;refine hW1.out.mono ?_;rintro e w4 ⟨rfl,hb5⟩;have hS:=zi (hfin.out w4 hb5);go_wp2_with fail;refine hS.out.mono ?_;rintro e w5 ⟨rfl,hb6⟩;go_wp2;go_ret;refine⟨_,rfl,?_,zf hA hb6.2⟩;rw[zv];have:=HST.out;simp only[xY,gJ] at this;rw[this];rfl
end
variable {P:Nat} {nv iv:Value} {l:List Nd} {kv:List Value} {pr:Int→List UInt8} {n:Nat}
theorem vH(H:yH P nv iv l kv pr n){x:Nd}{wo:Nat}(hks:∀k∈x.kids,0<=k/\k<(n:Int))(hkl:x.kids.length<=100000)(hwo:wo+1<=x.kids.length):(yV pr x wo).length<=320004000000:=by
 unfold yV zG;have h1:=xM H (ks:=x.kids.take (x.kids.length-1-wo)) (fun k hk=>hks k (List.mem_of_mem_take hk)) (pR (List.length_take_le _ _) (by omega));have hql:x.kids.length-1-wo<x.kids.length:=by omega
 have hmem:x.kids.getD (x.kids.length-1-wo) 0∈x.kids:=by rw[pB,glE hql];exact wK hql
 obtain⟨h0,h2⟩:=hks _ hmem;generalize x.kids.getD (x.kids.length-1-wo) 0=z at *;obtain⟨z,rfl⟩:=pO h0;have h3:=H.len z (by omega);simp only[pM,pQ,wD];omega
theorem Ya(H:yH P nv iv l kv pr n)(x:Nd)(u:Value)(wo:Nat)(w:World)(hC:kO w P nv iv l kv)(hu:KS w u x.kids)(hks:∀k∈x.kids,0<=k/\k<(n:Int))(hkl:x.kids.length<=100000)(hwo:wo+1<=x.kids.length):Calls prog 231 #[.pointer (some ⟨P,0,none⟩),xW x u,.int .i64 wo] w (jL w (yV pr x wo)):=by
 obtain⟨up,uc,rfl⟩:=hu.form;obtain⟨R,hR⟩:=exE (yV pr x wo);rw[hR];unfold yV zG at hR;unfold xW;obtain⟨x0,x1,x2,ks,x4⟩:=x;simp only at hR hu hks hkl hwo ⊢;obtain⟨m,hm⟩:=exE (ks.length);obtain⟨q,hq⟩:=exE (m-1-wo);rw[hm] at hR hu hkl hwo ⊢;rw[hq] at hR;have hql:q<ks.length:=by omega
 have hcap:=hu.cap.2;obtain⟨g,off,rfl,_,d0⟩:=hu.at hql;have hmem:ks.getD q 0∈ks:=by rw[pB,glE hql];exact wK hql
 obtain⟨h0,h1⟩:=hks _ hmem;have hA:=zg w (.cells #[.int .u8 x0,.string ⟨x1.toArray⟩,.int .i64 x2,.slice (some ⟨g,off,none⟩) m uc,.int .i64 x4] 60 (0,0));have hZ:=zl w (.cells #[.int .u8 x0,.string ⟨x1.toArray⟩,.int .i64 x2,.slice (some ⟨g,off,none⟩) m uc,.int .i64 x4] 60 (0,0));generalize hwA:w.alloc (.cells #[.int .u8 x0,.string ⟨x1.toArray⟩,.int .i64 x2,.slice (some ⟨g,off,none⟩) m uc,.int .i64 x4] 60 (0,0))=wA at hA hZ;have hkt:∀k∈ks.take q,0<=k/\k<(n:Int):=fun k hk=>hks k (List.mem_of_mem_take hk)
 have htl:(ks.take q).length<=100000:=pR (List.length_take_le _ _) (by omega);have HL:=zi (fun W (hb:Below wA.heap.size wA W)=>jV H (.slice (some ⟨g,off,none⟩) q uc) (ks.take q) W (hC.below (zf hA hb)) ((KS.take hu q (by omega)).below (zf hA hb)) hkt htl);have sL:=xM H hkt htl;generalize ks.getD q 0=z at *;obtain⟨z,rfl⟩:=pO h0;have HN:=zi (fun W (hb:Below wA.heap.size wA W)=>H.ok W z (by omega) (hC.below (zf hA hb)));have sN:=H.len z (by omega);have HS:=zi (show ∀W,Below wA.heap.size wA W->W.cell? ⟨w.heap.size,3,none⟩=some (.slice (some ⟨g,off,none⟩) m uc)/\W.cell? ⟨g,off+q,none⟩=some (.int .i64 z) from fun W hb=>⟨zd (zh hb hZ) 3,zj hb (zj hA d0)⟩);have hw1:=pF ((m:Int)-1) (by omega);have hw2:IntKind.i64.wrap ((m:Int)-1-(wo:Int))=(q:Int):=by rw[pF _ ⟨by omega,by omega⟩];omega
 have hq0:¬((q:Int)<0):=by omega
 have hq1:¬((uc:Int)<(q:Int)):=by omega
 have hq2:(q:Int)<(m:Int):=by omega
 have HR:=zi hR;obtain⟨c3,x0'⟩:=HS.out wA bR;rw[<-hwA] at c3 x0';have HwA:=zi hwA;clear hwA;have hb0:=zi (show Below wA.heap.size wA wA.drew from bR.drew);generalize hpz:pr z=pz at *;generalize hpL:qA pr (ks.take q)=pL at *;clear hC hu H hZ hR d0 hks hkt htl hmem hm hq hql;go_enter func231,ntmps231;go_wp2_with fail;rw[HwA.out];clear c3 x0';refine xt [(0,0),(1,0),(2,1),(3,0),(4,0),(8,0),(9,0),(10,1),(11,0),(12,0),(13,1),(5,2),(6,0),(7,0),(14,2),(15,0),(16,0)] ?_;have hS:=fun W (h:Cl wA.drew W)=>HS.out W (zf bR.drew h.below)
 refine xL ?_;clear hS;refine zU rfl rfl (fun K hK V hV=>?_);have hbV:=zf hb0.out hV.below;go_simp;refine (HL.out V hbV).mono ?_;rintro e w1 ⟨b1,rfl,hq1,f1⟩;have zz_1:=xS hq1;replace hq1:=zi hq1;have hb1:=zi (zf hbV f1);go_simp;refine⟨qo.2 f1,hK _ _ ?_⟩;clear hK K hbV hV
 try simp only[Act.put,yh,yf,yg]
 refine xL ?_;refine zU rfl rfl (fun K hK V hV=>?_);have hbV:=zf hb1.out hV.below;go_simp;refine (HN.out V hbV).mono ?_;rintro e w2 ⟨b2,rfl,hq2,f2⟩;have zz_2:=xS hq2;replace hq2:=zi hq2;have hb2:=zi (zf hbV f2);go_simp;refine⟨qo.2 f2,hK _ _ ?_⟩;clear hK K hbV hV
 try simp only[Act.put,yh,yf,yg]
 refine xL ?_;refine zm fun W hW=>?_
 have hbW:=zi (zf hA (zf hb2.out hW.below));clear hW;go_wp2;go_ret;refine⟨_,rfl,?_,hbW.out⟩;rw[<-HR.out];simp[zv,hq1.out,hq2.out]
section
variable {P:Nat} {nv iv:Value} {l:List Nd} {kv:List Value} {pr:Int→List UInt8} {n:Nat}
theorem vJ(H:yH P nv iv l kv pr n){w wA:World}(hC:kO w P nv iv l kv)(hA:Below w.heap.size w wA){i:Nat}(hi:i<n):∀W,Below wA.heap.size wA W->Calls prog 108 #[.pointer (some ⟨P,0,none⟩),.int .i64 i] W (jL W (pr i)):=fun W hb=>H.ok W i hi (hC.below (zf hA hb))
abbrev zhX(W w:World)(K:Int)(t:List UInt8)(k:Int)(g off uc:Nat)(z0:Nat):Prop:=W.cell? ⟨w.heap.size,0,none⟩=some (.int .u8 K)/\W.cell? ⟨w.heap.size,1,none⟩=some (.string ⟨t.toArray⟩)/\W.cell? ⟨w.heap.size,2,none⟩=some (.int .i64 k)/\W.cell? ⟨w.heap.size,3,none⟩=some (.slice (some ⟨g,off,none⟩) 1 uc)/\W.cell? ⟨g,off,none⟩=some (.int .i64 z0)
theorem uU{w:World}{u:Value}{z0:Nat}(hu:KS w u [(z0:Int)])(K:Int)(t:List UInt8)(k a:Int):∃(g off uc:Nat) (wA:World),u=.slice (some ⟨g,off,none⟩) 1 uc/\KS w (.slice (some ⟨g,off,none⟩) 1 uc) [(z0:Int)]/\1<=uc/\w.alloc (.cells #[.int .u8 K,.string ⟨t.toArray⟩,.int .i64 k,.slice (some ⟨g,off,none⟩) 1 uc,.int .i64 a] 60 (0,0))=wA/\Below w.heap.size w wA/\zhX (w.alloc (.cells #[.int .u8 K,.string ⟨t.toArray⟩,.int .i64 k,.slice (some ⟨g,off,none⟩) 1 uc,.int .i64 a] 60 (0,0))) w K t k g off uc z0/\∀W,Below wA.heap.size wA W->zhX W w K t k g off uc z0:=by
 obtain⟨up,uc,rfl⟩:=hu.form;have hu:KS w (.slice up 1 uc) [(z0:Int)]:=hu;obtain⟨g,off,rfl,_,d0⟩:=hu.at (j:=0) (by simp);replace d0:w.cell? ⟨g,off,none⟩=some (.int .i64 z0):=d0;have hA:=zg w (.cells #[.int .u8 K,.string ⟨t.toArray⟩,.int .i64 k,.slice (some ⟨g,off,none⟩) 1 uc,.int .i64 a] 60 (0,0));have hZ:=zl w (.cells #[.int .u8 K,.string ⟨t.toArray⟩,.int .i64 k,.slice (some ⟨g,off,none⟩) 1 uc,.int .i64 a] 60 (0,0));have HS:∀W,Below (w.alloc (.cells #[.int .u8 K,.string ⟨t.toArray⟩,.int .i64 k,.slice (some ⟨g,off,none⟩) 1 uc,.int .i64 a] 60 (0,0))).heap.size (w.alloc (.cells #[.int .u8 K,.string ⟨t.toArray⟩,.int .i64 k,.slice (some ⟨g,off,none⟩) 1 uc,.int .i64 a] 60 (0,0))) W->zhX W w K t k g off uc z0:=fun W hb=>⟨zd (zh hb hZ) 0,zd (zh hb hZ) 1,zd (zh hb hZ) 2,zd (zh hb hZ) 3,zj hb (zj hA d0)⟩
 exact⟨g,off,uc,_,rfl,hu,hu.cap.2,rfl,hA,HS _ bR,HS⟩
abbrev zhW(W w:World)(K:Int)(t:List UInt8)(k:Int)(g off uc:Nat)(z0 z1:Nat):Prop:=W.cell? ⟨w.heap.size,0,none⟩=some (.int .u8 K)/\W.cell? ⟨w.heap.size,1,none⟩=some (.string ⟨t.toArray⟩)/\W.cell? ⟨w.heap.size,2,none⟩=some (.int .i64 k)/\W.cell? ⟨w.heap.size,3,none⟩=some (.slice (some ⟨g,off,none⟩) 2 uc)/\W.cell? ⟨g,off,none⟩=some (.int .i64 z0)/\W.cell? ⟨g,off+1,none⟩=some (.int .i64 z1)
theorem XE{w:World}{u:Value}{z0 z1:Nat}(hu:KS w u [(z0:Int),(z1:Int)])(K:Int)(t:List UInt8)(k a:Int):∃(g off uc:Nat) (wA:World),u=.slice (some ⟨g,off,none⟩) 2 uc/\KS w (.slice (some ⟨g,off,none⟩) 2 uc) [(z0:Int),(z1:Int)]/\2<=uc/\w.alloc (.cells #[.int .u8 K,.string ⟨t.toArray⟩,.int .i64 k,.slice (some ⟨g,off,none⟩) 2 uc,.int .i64 a] 60 (0,0))=wA/\Below w.heap.size w wA/\zhW (w.alloc (.cells #[.int .u8 K,.string ⟨t.toArray⟩,.int .i64 k,.slice (some ⟨g,off,none⟩) 2 uc,.int .i64 a] 60 (0,0))) w K t k g off uc z0 z1/\∀W,Below wA.heap.size wA W->zhW W w K t k g off uc z0 z1:=by
 obtain⟨up,uc,rfl⟩:=hu.form;have hu:KS w (.slice up 2 uc) [(z0:Int),(z1:Int)]:=hu;obtain⟨g,off,rfl,_,d0⟩:=hu.at (j:=0) (by simp);obtain⟨g',off',e1,_,d1⟩:=hu.at (j:=1) (by simp);cases e1;replace d0:w.cell? ⟨g,off,none⟩=some (.int .i64 z0):=d0;replace d1:w.cell? ⟨g,off+1,none⟩=some (.int .i64 z1):=d1;have hA:=zg w (.cells #[.int .u8 K,.string ⟨t.toArray⟩,.int .i64 k,.slice (some ⟨g,off,none⟩) 2 uc,.int .i64 a] 60 (0,0));have hZ:=zl w (.cells #[.int .u8 K,.string ⟨t.toArray⟩,.int .i64 k,.slice (some ⟨g,off,none⟩) 2 uc,.int .i64 a] 60 (0,0));have HS:∀W,Below (w.alloc (.cells #[.int .u8 K,.string ⟨t.toArray⟩,.int .i64 k,.slice (some ⟨g,off,none⟩) 2 uc,.int .i64 a] 60 (0,0))).heap.size (w.alloc (.cells #[.int .u8 K,.string ⟨t.toArray⟩,.int .i64 k,.slice (some ⟨g,off,none⟩) 2 uc,.int .i64 a] 60 (0,0))) W->zhW W w K t k g off uc z0 z1:=fun W hb=>⟨zd (zh hb hZ) 0,zd (zh hb hZ) 1,zd (zh hb hZ) 2,zd (zh hb hZ) 3,zj hb (zj hA d0),zj hb (zj hA d1)⟩
 exact⟨g,off,uc,_,rfl,hu,hu.cap.2,rfl,hA,HS _ bR,HS⟩
abbrev zhV(W w:World)(K:Int)(t:List UInt8)(k:Int)(g off uc:Nat)(z0 z1 z2:Nat):Prop:=W.cell? ⟨w.heap.size,0,none⟩=some (.int .u8 K)/\W.cell? ⟨w.heap.size,1,none⟩=some (.string ⟨t.toArray⟩)/\W.cell? ⟨w.heap.size,2,none⟩=some (.int .i64 k)/\W.cell? ⟨w.heap.size,3,none⟩=some (.slice (some ⟨g,off,none⟩) 3 uc)/\W.cell? ⟨g,off,none⟩=some (.int .i64 z0)/\W.cell? ⟨g,off+1,none⟩=some (.int .i64 z1)/\W.cell? ⟨g,off+2,none⟩=some (.int .i64 z2)
theorem KC{w:World}{u:Value}{z0 z1 z2:Nat}(hu:KS w u [(z0:Int),(z1:Int),(z2:Int)])(K:Int)(t:List UInt8)(k a:Int):∃(g off uc:Nat) (wA:World),u=.slice (some ⟨g,off,none⟩) 3 uc/\KS w (.slice (some ⟨g,off,none⟩) 3 uc) [(z0:Int),(z1:Int),(z2:Int)]/\3<=uc/\w.alloc (.cells #[.int .u8 K,.string ⟨t.toArray⟩,.int .i64 k,.slice (some ⟨g,off,none⟩) 3 uc,.int .i64 a] 60 (0,0))=wA/\Below w.heap.size w wA/\zhV (w.alloc (.cells #[.int .u8 K,.string ⟨t.toArray⟩,.int .i64 k,.slice (some ⟨g,off,none⟩) 3 uc,.int .i64 a] 60 (0,0))) w K t k g off uc z0 z1 z2/\∀W,Below wA.heap.size wA W->zhV W w K t k g off uc z0 z1 z2:=by
 obtain⟨up,uc,rfl⟩:=hu.form;have hu:KS w (.slice up 3 uc) [(z0:Int),(z1:Int),(z2:Int)]:=hu;obtain⟨g,off,rfl,_,d0⟩:=hu.at (j:=0) (by simp);obtain⟨g',off',e1,_,d1⟩:=hu.at (j:=1) (by simp);cases e1;obtain⟨g',off',e2,_,d2⟩:=hu.at (j:=2) (by simp);cases e2;replace d0:w.cell? ⟨g,off,none⟩=some (.int .i64 z0):=d0;replace d1:w.cell? ⟨g,off+1,none⟩=some (.int .i64 z1):=d1;replace d2:w.cell? ⟨g,off+2,none⟩=some (.int .i64 z2):=d2;have hA:=zg w (.cells #[.int .u8 K,.string ⟨t.toArray⟩,.int .i64 k,.slice (some ⟨g,off,none⟩) 3 uc,.int .i64 a] 60 (0,0));have hZ:=zl w (.cells #[.int .u8 K,.string ⟨t.toArray⟩,.int .i64 k,.slice (some ⟨g,off,none⟩) 3 uc,.int .i64 a] 60 (0,0));have HS:∀W,Below (w.alloc (.cells #[.int .u8 K,.string ⟨t.toArray⟩,.int .i64 k,.slice (some ⟨g,off,none⟩) 3 uc,.int .i64 a] 60 (0,0))).heap.size (w.alloc (.cells #[.int .u8 K,.string ⟨t.toArray⟩,.int .i64 k,.slice (some ⟨g,off,none⟩) 3 uc,.int .i64 a] 60 (0,0))) W->zhV W w K t k g off uc z0 z1 z2:=fun W hb=>⟨zd (zh hb hZ) 0,zd (zh hb hZ) 1,zd (zh hb hZ) 2,zd (zh hb hZ) 3,zj hb (zj hA d0),zj hb (zj hA d1),zj hb (zj hA d2)⟩
 exact⟨g,off,uc,_,rfl,hu,hu.cap.2,rfl,hA,HS _ bR,HS⟩
abbrev zkB(W w:World)(K:Int)(t:List UInt8)(k a:Int)(g off m uc:Nat):Prop:=W.cell? ⟨w.heap.size,0,none⟩=some (.int .u8 K)/\W.cell? ⟨w.heap.size,1,none⟩=some (.string ⟨t.toArray⟩)/\W.cell? ⟨w.heap.size,2,none⟩=some (.int .i64 k)/\W.cell? ⟨w.heap.size,3,none⟩=some (.slice (some ⟨g,off,none⟩) m uc)/\W.cell? ⟨w.heap.size,4,none⟩=some (.int .i64 a)
theorem vd{w:World}{u:Value}{ks:List Int}(hu:KS w u ks)(h1:1<=ks.length)(K:Int)(t:List UInt8)(k a:Int):∃(m g off uc:Nat) (wA:World),u=.slice (some ⟨g,off,none⟩) m uc/\ks.length=m/\KS w (.slice (some ⟨g,off,none⟩) m uc) ks/\m<=uc/\w.alloc (.cells #[.int .u8 K,.string ⟨t.toArray⟩,.int .i64 k,.slice (some ⟨g,off,none⟩) m uc,.int .i64 a] 60 (0,0))=wA/\Below w.heap.size w wA/\zkB (w.alloc (.cells #[.int .u8 K,.string ⟨t.toArray⟩,.int .i64 k,.slice (some ⟨g,off,none⟩) m uc,.int .i64 a] 60 (0,0))) w K t k a g off m uc/\∀W,Below wA.heap.size wA W->zkB W w K t k a g off m uc:=by
 obtain⟨up,uc,rfl⟩:=hu.form;obtain⟨g,off,rfl,_,d0⟩:=hu.at (j:=0) (by omega);have hA:=zg w (.cells #[.int .u8 K,.string ⟨t.toArray⟩,.int .i64 k,.slice (some ⟨g,off,none⟩) ks.length uc,.int .i64 a] 60 (0,0));have hZ:=zl w (.cells #[.int .u8 K,.string ⟨t.toArray⟩,.int .i64 k,.slice (some ⟨g,off,none⟩) ks.length uc,.int .i64 a] 60 (0,0));have HS:∀W,Below (w.alloc (.cells #[.int .u8 K,.string ⟨t.toArray⟩,.int .i64 k,.slice (some ⟨g,off,none⟩) ks.length uc,.int .i64 a] 60 (0,0))).heap.size (w.alloc (.cells #[.int .u8 K,.string ⟨t.toArray⟩,.int .i64 k,.slice (some ⟨g,off,none⟩) ks.length uc,.int .i64 a] 60 (0,0))) W->zkB W w K t k a g off ks.length uc:=fun W hb=>⟨zd (zh hb hZ) 0,zd (zh hb hZ) 1,zd (zh hb hZ) 2,zd (zh hb hZ) 3,zd (zh hb hZ) 4⟩
 exact⟨_,g,off,uc,_,rfl,rfl,hu,hu.cap.2,rfl,hA,HS _ bR,HS⟩
theorem ziK{w:World}{g off m uc n:Nat}{ks:List Int}(hu:KS w (.slice (some ⟨g,off,none⟩) m uc) ks)(hm:ks.length=m)(hks:∀k∈ks,0<=k/\k<(n:Int)){j:Nat}(hj:j<m):∃z:Nat,ks[j]?.getD 0=(z:Int)/\z<n/\w.cell? ⟨g,off+j,none⟩=some (.int .i64 z):=by
 obtain⟨g',off',e,_,d⟩:=hu.at (j:=j) (by omega);cases e;have hmm:ks.getD j 0∈ks:=by rw[pB,glE (by omega)];exact wK _
 obtain⟨z,hz⟩:=pO (hks _ hmm).1;rw[hz] at d;exact⟨z,by rw[<-pB];exact hz,by have:=(hks _ hmm).2;omega,d⟩
theorem zer(K:Nat)(hK:K=60\/K=61)(H:yH P nv iv l kv pr n)(t:List UInt8)(k a:Int)(z0:Nat)(u:Value)(w:World)(hC:kO w P nv iv l kv)(hu:KS w u [(z0:Int)])(l0:z0<n)(ht:t.length<=3000):Calls prog 167 #[.pointer (some ⟨P,0,none⟩),xW ⟨K,t,k,[(z0:Int)],a⟩ u] w (jL w (xQ pr ⟨K,t,k,[(z0:Int)],a⟩)):=by
 unfold xW;obtain⟨KI,hKI⟩:∃KI:Int,(K:Int)=KI:=⟨_,rfl⟩;obtain⟨g,off,uc,wA,rfl,hu,hcap,hwA,hA,⟨c0,c1,c2,c3,x0⟩,HS⟩:=uU hu KI t k a;replace HS:=zi HS;have HN0:=zi (vJ H hC hA l0);have s0:=H.len z0 l0;obtain⟨R,hR⟩:=exE (xQ pr ⟨K,t,k,[(z0:Int)],a⟩);rw[hR];rcases hK with rfl|rfl
 all_goals
  simp at hKI;subst hKI;simp[xQ,zG,yV] at hR;have HR:=zi hR;have hh0:=zi (pE wA.heap.size wA);generalize hp0:pr z0=p0 at *;clear hC hu H hR;have HwA:=zi hwA;clear hwA;go_enter func167,ntmps167;go_wp2_with fail;rw[HwA.out];refine xt [(0,0),(1,1),(2,0),(3,0),(4,0),(5,0),(6,1),(7,0),(8,1),(9,2),(10,0),(11,0)] ?_;have hS:=fun W (h:Cl wA.drew W)=>HS.out W (zf bR.drew h.below)
  have hb0:=zi (show Below wA.heap.size wA wA.drew from bR.drew);refine xL ?_;clear hS;refine Xr rfl rfl (fun _=>by go_simp) HN0 hb0 fun b1 w1 hq1 zz_1 hb1=>?_
  try simp only[Act.put,yh,yf,yg]
  refine xL ?_;refine zm fun W hW=>?_
  have hbW:=zi (zf hA (zf hb1.out hW.below));clear hW;go_wp2;go_ret;refine⟨_,rfl,?_,hbW.out⟩;rw[<-HR.out];simp[zv,hq1.out]
theorem zeq(K:Nat)(hK:K=62\/K=63)(H:yH P nv iv l kv pr n)(t:List UInt8)(k a:Int)(z0 z1:Nat)(u:Value)(w:World)(hC:kO w P nv iv l kv)(hu:KS w u [(z0:Int),(z1:Int)])(l0:z0<n)(l1:z1<n)(ht:t.length<=3000):Calls prog 167 #[.pointer (some ⟨P,0,none⟩),xW ⟨K,t,k,[(z0:Int),(z1:Int)],a⟩ u] w (jL w (xQ pr ⟨K,t,k,[(z0:Int),(z1:Int)],a⟩)):=by
 unfold xW;obtain⟨KI,hKI⟩:∃KI:Int,(K:Int)=KI:=⟨_,rfl⟩;obtain⟨g,off,uc,wA,rfl,hu,hcap,hwA,hA,⟨c0,c1,c2,c3,x0,x1⟩,HS⟩:=XE hu KI t k a;replace HS:=zi HS;have HN0:=zi (vJ H hC hA l0);have s0:=H.len z0 l0;have HN1:=zi (vJ H hC hA l1);have s1:=H.len z1 l1;obtain⟨R,hR⟩:=exE (xQ pr ⟨K,t,k,[(z0:Int),(z1:Int)],a⟩);rw[hR];rcases hK with rfl|rfl
 all_goals
  simp at hKI;subst hKI;simp[xQ,zG,yV] at hR;have HR:=zi hR;have hh0:=zi (pE wA.heap.size wA);generalize hp0:pr z0=p0 at *;generalize hp1:pr z1=p1 at *;clear hC hu H hR;have HwA:=zi hwA;clear hwA;go_enter func167,ntmps167;go_wp2_with fail;rw[HwA.out]
 refine xt [(0,0),(1,0),(2,1),(3,0),(4,1),(7,0),(8,0),(9,1),(10,0),(11,1),(5,2),(6,0),(12,2),(13,0),(14,0)] ?_;rotate_left;refine xt [(0,0),(1,0),(2,1),(3,0),(4,1),(8,0),(9,1),(12,0),(13,0),(14,1),(15,0),(16,1),(5,2),(6,0),(7,0),(10,0),(11,0),(17,2),(18,0),(19,0)] ?_;rotate_left
 all_goals
  have hS:=fun W (h:Cl wA.drew W)=>HS.out W (zf bR.drew h.below)
  have hb0:=zi (show Below wA.heap.size wA wA.drew from bR.drew);refine xL ?_;clear hS;refine Xr rfl rfl (fun _=>by go_simp) HN0 hb0 fun b1 w1 hq1 zz_1 hb1=>?_
  try simp only[Act.put,yh,yf,yg]
  refine xL ?_;refine Xr rfl rfl (fun _=>by go_simp) HN1 hb1 fun b2 w2 hq2 zz_2 hb2=>?_
  try simp only[Act.put,yh,yf,yg]
  refine xL ?_;refine zm fun W hW=>?_
  have hbW:=zi (zf hA (zf hb2.out hW.below));clear hW;go_wp2;go_ret;refine⟨_,rfl,?_,hbW.out⟩;rw[<-HR.out];simp[zv,hq1.out,hq2.out]
theorem zio(H:yH P nv iv l kv pr n)(t:List UInt8)(k a:Int)(z0 z1 z2:Nat)(u:Value)(w:World)(hC:kO w P nv iv l kv)(hu:KS w u [(z0:Int),(z1:Int),(z2:Int)])(l0:z0<n)(l1:z1<n)(l2:z2<n)(ht:t.length<=3000):Calls prog 167 #[.pointer (some ⟨P,0,none⟩),xW ⟨64,t,k,[(z0:Int),(z1:Int),(z2:Int)],a⟩ u] w (jL w (xQ pr ⟨64,t,k,[(z0:Int),(z1:Int),(z2:Int)],a⟩)):=by
 unfold xW;obtain⟨g,off,uc,wA,rfl,hu,hcap,hwA,hA,⟨c0,c1,c2,c3,x0,x1,x2⟩,HS⟩:=KC hu 64 t k a;replace HS:=zi HS;have HN2:=zi (vJ H hC hA l2);have s2:=H.len z2 l2;have hsl0:¬((uc:Int)<2):=by omega
 have hsl1:¬(uc<2):=by omega
 have HL:=zi (fun W (hb:Below wA.heap.size wA W)=>jV H (.slice (some ⟨g,off,none⟩) 2 uc) [(z0:Int),(z1:Int)] W (hC.below (zf hA hb)) ((KS.take hu 2 (by simp)).below (zf hA hb)) (by simp;omega) (by simp));have sL:=xM H (ks:=[(z0:Int),(z1:Int)]) (by simp;omega) (by simp);obtain⟨R,hR⟩:=exE (xQ pr ⟨64,t,k,[(z0:Int),(z1:Int),(z2:Int)],a⟩);rw[hR];simp[xQ,zG,yV] at hR;have HR:=zi hR;have hh0:=zi (pE wA.heap.size wA);generalize hpL:qA pr [(z0:Int),(z1:Int)]=pL at *;generalize hp2:pr z2=p2 at *;clear hC hu H hR;have HwA:=zi hwA;clear hwA;go_enter func167,ntmps167;go_wp2_with fail;rw[HwA.out];refine xt [(0,0),(1,0),(2,1),(3,0),(7,0),(8,0),(9,1),(10,0),(11,1),(4,2),(5,0),(6,0),(12,2),(13,0),(14,0)] ?_;have hS:=fun W (h:Cl wA.drew W)=>HS.out W (zf bR.drew h.below)
 have hb0:=zi (show Below wA.heap.size wA wA.drew from bR.drew);refine xL ?_;clear hS;refine Xr rfl rfl (fun _=>by go_simp) HL hb0 fun b1 w1 hq1 zz_1 hb1=>?_
 try simp only[Act.put,yh,yf,yg]
 refine xL ?_;refine Xr rfl rfl (fun _=>by go_simp) HN2 hb1 fun b2 w2 hq2 zz_2 hb2=>?_
 try simp only[Act.put,yh,yf,yg]
 refine xL ?_;refine zm fun W hW=>?_
 have hbW:=zi (zf hA (zf hb2.out hW.below));clear hW;go_wp2;go_ret;refine⟨_,rfl,?_,hbW.out⟩;rw[<-HR.out];simp[zv,hq1.out,hq2.out]
theorem zin(H:yH P nv iv l kv pr n)(t:List UInt8)(k a:Int)(z0:Nat)(u:Value)(w:World)(hC:kO w P nv iv l kv)(hu:KS w u [(z0:Int)])(l0:z0<n)(ht:t.length<=3000):Calls prog 167 #[.pointer (some ⟨P,0,none⟩),xW ⟨65,t,k,[(z0:Int)],a⟩ u] w (jL w (xQ pr ⟨65,t,k,[(z0:Int)],a⟩)):=by
 unfold xW;obtain⟨g,off,uc,wA,rfl,hu,hcap,hwA,hA,⟨c0,c1,c2,c3,x0⟩,HS⟩:=uU hu 65 t k a;replace HS:=zi HS;have HN0:=zi (vJ H hC hA l0);have s0:=H.len z0 l0;obtain⟨R,hR⟩:=exE (xQ pr ⟨65,t,k,[(z0:Int)],a⟩);rw[hR];simp[xQ,zG,yV] at hR;have HR:=zi hR;have hh0:=zi (pE wA.heap.size wA);generalize hp0:pr z0=p0 at *;clear hC hu H hR;have HwA:=zi hwA;clear hwA;go_enter func167,ntmps167;go_wp2_with fail;rw[HwA.out];refine (HN0.out _ hh0.out).mono ?_;rintro e w1 ⟨b1,rfl,hq1,f1⟩;have zz_1:=xS hq1;replace hq1:=zi hq1;have hb1:=zi f1;go_wp2;go_ret;refine⟨_,rfl,?_,zf hA hb1.out⟩;rw[<-HR.out];simp[zv,hq1.out]
end
section
variable {P:Nat} {nv iv:Value} {l:List Nd} {kv:List Value} {pr:Int→List UInt8} {n:Nat}
theorem zgW(H:yH P nv iv l kv pr n)(t:List UInt8)(k a:Int)(z0 z1:Nat)(u:Value)(w:World)(hC:kO w P nv iv l kv)(hu:KS w u [(z0:Int),(z1:Int)])(l0:z0<n)(l1:z1<n)(ht:t.length<=3000):Calls prog 169 #[.pointer (some ⟨P,0,none⟩),xW ⟨29,t,k,[(z0:Int),(z1:Int)],a⟩ u] w (jL w (zJ pr ⟨29,t,k,[(z0:Int),(z1:Int)],a⟩)):=by
 unfold xW;obtain⟨g,off,uc,wA,rfl,hu,hcap,hwA,hA,⟨c0,c1,c2,c3,x0,x1⟩,HS⟩:=XE hu 29 t k a;replace HS:=zi HS;have HN0:=zi (vJ H hC hA l0);have s0:=H.len z0 l0;have HN1:=zi (vJ H hC hA l1);have s1:=H.len z1 l1;obtain⟨R,hR⟩:=exE (zJ pr ⟨29,t,k,[(z0:Int),(z1:Int)],a⟩);rw[hR];simp[zJ,zG,yV] at hR;have HR:=zi hR;have hh0:=zi (pE wA.heap.size wA);generalize hp0:pr z0=p0 at *;generalize hp1:pr z1=p1 at *;clear hC hu H hR;have HwA:=zi hwA;clear hwA;go_enter func169,ntmps169;go_wp2_with fail;rw[HwA.out];refine xt [(0,0),(1,0),(2,1),(3,0),(4,1),(8,0),(9,0),(10,1),(11,0),(12,1),(5,2),(6,0),(7,0),(13,2),(14,0),(15,0)] ?_;have hS:=fun W (h:Cl wA.drew W)=>HS.out W (zf bR.drew h.below)
 have hb0:=zi (show Below wA.heap.size wA wA.drew from bR.drew);refine xL ?_;clear hS;refine Xr rfl rfl (fun _=>by go_simp) HN0 hb0 fun b1 w1 hq1 zz_1 hb1=>?_
 try simp only[Act.put,yh,yf,yg]
 refine xL ?_;refine Xr rfl rfl (fun _=>by go_simp) HN1 hb1 fun b2 w2 hq2 zz_2 hb2=>?_
 try simp only[Act.put,yh,yf,yg]
 refine xL ?_;refine zm fun W hW=>?_
 have hbW:=zi (zf hA (zf hb2.out hW.below));have hc3:W.cell? ⟨w.heap.size,3,none⟩=some (.slice (some ⟨g,off,none⟩) 2 uc):=(HS.out W (zf hb2.out hW.below)).2.2.2.1;clear hW;go_wp2;go_ret;refine⟨_,rfl,?_,hbW.out⟩;rw[<-HR.out];simp[zv,hq1.out,hq2.out]
theorem zgV(H:yH P nv iv l kv pr n)(t:List UInt8)(k a:Int)(z0 z1 z2:Nat)(u:Value)(w:World)(hC:kO w P nv iv l kv)(hu:KS w u [(z0:Int),(z1:Int),(z2:Int)])(l0:z0<n)(l1:z1<n)(l2:z2<n)(ht:t.length<=3000):Calls prog 169 #[.pointer (some ⟨P,0,none⟩),xW ⟨29,t,k,[(z0:Int),(z1:Int),(z2:Int)],a⟩ u] w (jL w (zJ pr ⟨29,t,k,[(z0:Int),(z1:Int),(z2:Int)],a⟩)):=by
 unfold xW;obtain⟨g,off,uc,wA,rfl,hu,hcap,hwA,hA,⟨c0,c1,c2,c3,x0,x1,x2⟩,HS⟩:=KC hu 29 t k a;replace HS:=zi HS;have HN0:=zi (vJ H hC hA l0);have s0:=H.len z0 l0;have HN1:=zi (vJ H hC hA l1);have s1:=H.len z1 l1;have H2:=zi (vJ H hC hA l2);have s2:=H.len z2 l2;obtain⟨R,hR⟩:=exE (zJ pr ⟨29,t,k,[(z0:Int),(z1:Int),(z2:Int)],a⟩);rw[hR];simp[zJ,zG,yV] at hR;have HR:=zi hR;have hh0:=zi (pE wA.heap.size wA);generalize hp2:pr z2=p2 at *;generalize hp0:pr z0=p0 at *;generalize hp1:pr z1=p1 at *;clear hC hu H hR;have HwA:=zi hwA;clear hwA;go_enter func169,ntmps169;go_wp2_with fail;rw[HwA.out];refine xt [(0,0),(1,0),(2,1),(3,0),(4,1),(8,0),(9,0),(10,1),(11,0),(12,1),(5,2),(6,0),(7,0),(13,2),(14,0),(15,0)] ?_;have hS:=fun W (h:Cl wA.drew W)=>HS.out W (zf bR.drew h.below)
 have hb0:=zi (show Below wA.heap.size wA wA.drew from bR.drew);refine xL ?_;clear hS;refine Xr rfl rfl (fun _=>by go_simp) HN0 hb0 fun b1 w1 hq1 zz_1 hb1=>?_
 try simp only[Act.put,yh,yf,yg]
 refine xL ?_;refine Xr rfl rfl (fun _=>by go_simp) HN1 hb1 fun b2 w2 hq2 zz_2 hb2=>?_
 try simp only[Act.put,yh,yf,yg]
 refine xL ?_;refine zm fun W hW=>?_
 have hbW:=zi (zf hA (zf hb2.out hW.below));obtain⟨_,_,_,hc3,_,_,hx2⟩:=HS.out W (zf hb2.out hW.below);have hN2:=zi (H2.out W (zf hb2.out hW.below));clear hW;go_wp2_with fail;refine hN2.out.mono ?_;rintro e w3 ⟨b3,rfl,hq3,f3⟩;have zz_3:=xS hq3;replace hq3:=zi hq3;go_wp2;go_ret;refine⟨_,rfl,?_,zf hbW.out f3⟩;rw[<-HR.out];simp[zv,hq1.out,hq2.out,hq3.out]
theorem zaF(K:Nat)(hK:K=30\/K=32\/K=34)(H:yH P nv iv l kv pr n)(t:List UInt8)(k a:Int)(z0 z1:Nat)(u:Value)(w:World)(hC:kO w P nv iv l kv)(hu:KS w u [(z0:Int),(z1:Int)])(l0:z0<n)(l1:z1<n)(ht:t.length<=3000):Calls prog 169 #[.pointer (some ⟨P,0,none⟩),xW ⟨K,t,k,[(z0:Int),(z1:Int)],a⟩ u] w (jL w (zJ pr ⟨K,t,k,[(z0:Int),(z1:Int)],a⟩)):=by
 unfold xW;obtain⟨KI,hKI⟩:∃KI:Int,(K:Int)=KI:=⟨_,rfl⟩;obtain⟨g,off,uc,wA,rfl,hu,hcap,hwA,hA,⟨c0,c1,c2,c3,x0,x1⟩,HS⟩:=XE hu KI t k a;replace HS:=zi HS;have HN0:=zi (vJ H hC hA l0);have s0:=H.len z0 l0;have HN1:=zi (vJ H hC hA l1);have s1:=H.len z1 l1;obtain⟨R,hR⟩:=exE (zJ pr ⟨K,t,k,[(z0:Int),(z1:Int)],a⟩);rw[hR];rcases hK with rfl|rfl|rfl
 all_goals
  simp at hKI;subst hKI;simp[zJ,zG,yV] at hR;have HR:=zi hR;have hh0:=zi (pE wA.heap.size wA);generalize hp0:pr z0=p0 at *;generalize hp1:pr z1=p1 at *;clear hC hu H hR;have HwA:=zi hwA;clear hwA;go_enter func169,ntmps169;go_wp2_with fail;rw[HwA.out]
 refine xt [(0,0),(1,0),(2,1),(3,0),(4,1),(8,0),(9,0),(10,1),(11,0),(12,1),(5,2),(6,0),(7,0),(13,2),(14,0),(15,0)] ?_;rotate_left;refine xt [(0,0),(1,0),(2,1),(3,0),(4,1),(7,0),(8,0),(9,1),(10,0),(11,1),(5,2),(6,0),(12,2),(13,0),(14,0)] ?_;rotate_left;refine xt [(0,0),(1,0),(2,1),(3,0),(4,1),(8,0),(9,1),(12,0),(13,0),(14,1),(15,0),(16,1),(5,2),(6,0),(7,0),(10,0),(11,0),(17,2),(18,0),(19,0)] ?_;rotate_left
 all_goals
  have hS:=fun W (h:Cl wA.drew W)=>HS.out W (zf bR.drew h.below)
  have hb0:=zi (show Below wA.heap.size wA wA.drew from bR.drew);refine xL ?_;clear hS;refine Xr rfl rfl (fun _=>by go_simp) HN0 hb0 fun b1 w1 hq1 zz_1 hb1=>?_
  try simp only[Act.put,yh,yf,yg]
  refine xL ?_;refine Xr rfl rfl (fun _=>by go_simp) HN1 hb1 fun b2 w2 hq2 zz_2 hb2=>?_
  try simp only[Act.put,yh,yf,yg]
  refine xL ?_;refine zm fun W hW=>?_
  have hbW:=zi (zf hA (zf hb2.out hW.below));clear hW;go_wp2;go_ret;refine⟨_,rfl,?_,hbW.out⟩;rw[<-HR.out];simp[zv,hq1.out,hq2.out]
theorem ziw(H:yH P nv iv l kv pr n)(t:List UInt8)(k a:Int)(z0 z1 z2:Nat)(u:Value)(w:World)(hC:kO w P nv iv l kv)(hu:KS w u [(z0:Int),(z1:Int),(z2:Int)])(l0:z0<n)(l1:z1<n)(l2:z2<n)(ht:t.length<=3000):Calls prog 169 #[.pointer (some ⟨P,0,none⟩),xW ⟨36,t,k,[(z0:Int),(z1:Int),(z2:Int)],a⟩ u] w (jL w (zJ pr ⟨36,t,k,[(z0:Int),(z1:Int),(z2:Int)],a⟩)):=by
 unfold xW;obtain⟨g,off,uc,wA,rfl,hu,hcap,hwA,hA,⟨c0,c1,c2,c3,x0,x1,x2⟩,HS⟩:=KC hu 36 t k a;replace HS:=zi HS;have HN0:=zi (vJ H hC hA l0);have s0:=H.len z0 l0;have HN1:=zi (vJ H hC hA l1);have s1:=H.len z1 l1;have HN2:=zi (vJ H hC hA l2);have s2:=H.len z2 l2;obtain⟨R,hR⟩:=exE (zJ pr ⟨36,t,k,[(z0:Int),(z1:Int),(z2:Int)],a⟩);rw[hR];simp[zJ,zG,yV] at hR;have HR:=zi hR;have hh0:=zi (pE wA.heap.size wA);generalize hp0:pr z0=p0 at *;generalize hp1:pr z1=p1 at *;generalize hp2:pr z2=p2 at *;clear hC hu H hR;have HwA:=zi hwA;clear hwA;go_enter func169,ntmps169;go_wp2_with fail;rw[HwA.out];refine xt [(0,0),(1,0),(2,1),(3,0),(4,1),(8,0),(9,1),(12,0),(13,0),(14,1),(15,0),(16,1),(20,0),(21,0),(22,1),(23,0),(24,1),(5,2),(6,0),(7,0),(10,0),(11,0),(17,2),(18,0),(19,0),(25,2),(26,0),(27,0)] ?_;have hS:=fun W (h:Cl wA.drew W)=>HS.out W (zf bR.drew h.below)
 have hb0:=zi (show Below wA.heap.size wA wA.drew from bR.drew);refine xL ?_;clear hS;refine Xr rfl rfl (fun _=>by go_simp) HN0 hb0 fun b1 w1 hq1 zz_1 hb1=>?_
 try simp only[Act.put,yh,yf,yg]
 refine xL ?_;refine Xr rfl rfl (fun _=>by go_simp) HN1 hb1 fun b2 w2 hq2 zz_2 hb2=>?_
 try simp only[Act.put,yh,yf,yg]
 refine xL ?_;refine Xr rfl rfl (fun _=>by go_simp) HN2 hb2 fun b3 w3 hq3 zz_3 hb3=>?_
 try simp only[Act.put,yh,yf,yg]
 refine xL ?_;refine zm fun W hW=>?_
 have hbW:=zi (zf hA (zf hb3.out hW.below));clear hW;go_wp2;go_ret;refine⟨_,rfl,?_,hbW.out⟩;rw[<-HR.out];simp[zv,hq1.out,hq2.out,hq3.out]
theorem ziA(H:yH P nv iv l kv pr n)(t:List UInt8)(k a:Int)(z0:Nat)(u:Value)(w:World)(hC:kO w P nv iv l kv)(hu:KS w u [(z0:Int)])(l0:z0<n)(ht:t.length<=3000):Calls prog 169 #[.pointer (some ⟨P,0,none⟩),xW ⟨27,t,k,[(z0:Int)],a⟩ u] w (jL w (zJ pr ⟨27,t,k,[(z0:Int)],a⟩)):=by
 unfold xW;obtain⟨g,off,uc,wA,rfl,hu,hcap,hwA,hA,⟨c0,c1,c2,c3,x0⟩,HS⟩:=uU hu 27 t k a;replace HS:=zi HS;have HN0:=zi (vJ H hC hA l0);have s0:=H.len z0 l0;obtain⟨R,hR⟩:=exE (zJ pr ⟨27,t,k,[(z0:Int)],a⟩);rw[hR];simp[zJ,zG,yV] at hR;have HR:=zi hR;have hh0:=zi (pE wA.heap.size wA);generalize hp0:pr z0=p0 at *;clear hC hu H hR;have HwA:=zi hwA;clear hwA;go_enter func169,ntmps169;go_wp2_with fail;rw[HwA.out];refine xt [(0,0),(1,1),(2,0),(3,0),(4,0),(5,1),(6,0),(7,1),(8,2),(9,0),(10,0)] ?_;have hS:=fun W (h:Cl wA.drew W)=>HS.out W (zf bR.drew h.below)
 have hb0:=zi (show Below wA.heap.size wA wA.drew from bR.drew);refine xL ?_;clear hS;refine Xr rfl rfl (fun _=>by go_simp) HN0 hb0 fun b1 w1 hq1 zz_1 hb1=>?_
 try simp only[Act.put,yh,yf,yg]
 refine xL ?_;refine zm fun W hW=>?_
 have hbW:=zi (zf hA (zf hb1.out hW.below));clear hW;go_wp2;go_ret;refine⟨_,rfl,?_,hbW.out⟩;rw[<-HR.out];simp[zv,hq1.out]
theorem ziv(H:yH P nv iv l kv pr n)(t:List UInt8)(k a:Int)(z0:Nat)(u:Value)(w:World)(hC:kO w P nv iv l kv)(hu:KS w u [(z0:Int)])(l0:z0<n)(ht:t.length<=3000)(hk: -1000000000<=k/\k<=1000000000):Calls prog 169 #[.pointer (some ⟨P,0,none⟩),xW ⟨40,t,k,[(z0:Int)],a⟩ u] w (jL w (zJ pr ⟨40,t,k,[(z0:Int)],a⟩)):=by
 unfold xW;obtain⟨g,off,uc,wA,rfl,hu,hcap,hwA,hA,⟨c0,c1,c2,c3,x0⟩,HS⟩:=uU hu 40 t k a;replace HS:=zi HS;have HN0:=zi (vJ H hC hA l0);have s0:=H.len z0 l0;have HI:=zi (fun W (hb:Below wA.heap.size wA W)=>Tryz.strconv_Itoa k (by omega) (by omega) W (hC.below (zf hA hb)).gl.pow);have sI:=zaW hk.1 hk.2;obtain⟨R,hR⟩:=exE (zJ pr ⟨40,t,k,[(z0:Int)],a⟩);rw[hR];simp[zJ,zG,yV] at hR;have HR:=zi hR;have hh0:=zi (pE wA.heap.size wA);generalize hp0:pr z0=p0 at *;generalize hpI:Go.Lib.itoa k=pI at *;clear hC hu H hR;have HwA:=zi hwA;clear hwA;go_enter func169,ntmps169;go_wp2_with fail;rw[HwA.out];refine xt [(0,0),(1,0),(2,1),(3,0),(4,1),(8,0),(9,1),(5,2),(6,0),(7,0),(10,2),(11,0),(12,0),(13,0)] ?_;have hS:=fun W (h:Cl wA.drew W)=>HS.out W (zf bR.drew h.below)
 have hb0:=zi (show Below wA.heap.size wA wA.drew from bR.drew);refine xL ?_;clear hS;refine Xr rfl rfl (fun _=>by go_simp) HN0 hb0 fun b1 w1 hq1 zz_1 hb1=>?_
 try simp only[Act.put,yh,yf,yg]
 refine xL ?_;refine zU rfl rfl (fun K hK V hV=>?_);have hbV:=zf hb1.out hV.below;go_simp;refine (HI.out V hbV).mono ?_;rintro e w2 ⟨rfl,hwI⟩;have f2:Below V.heap.size V w2:=by obtain⟨k,os,rfl⟩:=hwI;exact Lib.below_grow _ _ (pG _) k os
 have hb2:=zi (zf hbV f2);go_simp;refine⟨qo.2 f2,hK _ _ ?_⟩;clear hK K hbV hV
 try simp only[Act.put,yh,yf,yg]
 refine xL ?_;refine zm fun W hW=>?_
 have hbW:=zi (zf hA (zf hb2.out hW.below));clear hW;go_wp2;go_ret;refine⟨_,rfl,?_,hbW.out⟩;rw[<-HR.out];simp[zv,hq1.out]
theorem ziB(H:yH P nv iv l kv pr n)(t:List UInt8)(k a:Int)(ks:List Int)(u:Value)(w:World)(hC:kO w P nv iv l kv)(hu:KS w u ks)(hks:∀k∈ks,0<=k/\k<(n:Int))(hkl:ks.length<=100000)(hm1:1<=ks.length)(ht:t.length<=3000):Calls prog 169 #[.pointer (some ⟨P,0,none⟩),xW ⟨26,t,k,ks,a⟩ u] w (jL w (zJ pr ⟨26,t,k,ks,a⟩)):=by
 unfold xW;obtain⟨m,g,off,uc,wA,rfl,hm,hu,hcap,hwA,hA,⟨c0,c1,c2,c3,c4⟩,HS⟩:=vd hu (by omega) 26 t k a;rw[hm] at hkl hm1;obtain⟨R,hR⟩:=exE (zJ pr ⟨26,t,k,ks,a⟩);rw[hR];simp[zJ,zG] at hR;replace HS:=zi HS;have HA:=zi (fun W (hb:Below wA.heap.size wA W)=>jV H (.slice (some ⟨g,off,none⟩) m uc) ks W (hC.below (zf hA hb)) (hu.below (zf hA hb)) hks (by omega));have sA:=xM H hks (by omega);have HR:=zi hR;have hh0:=zi (pE wA.heap.size wA);generalize hpA:qA pr ks=pA at *;clear hC hu H hR hks;have Hm:=zi hm;clear hm;have hi0:(0:Int)<(m:Int):=by omega
 have hi1:0<m:=by omega
 have hi2:¬(m=0):=by omega
 have HwA:=zi hwA;clear hwA;go_enter func169,ntmps169;go_wp2_with fail;rw[HwA.out];refine xt [(0,0),(1,1),(2,0),(3,0),(4,0),(5,0),(6,1),(7,2),(8,0),(9,0),(10,0)] ?_;have hS:=fun W (h:Cl wA.drew W)=>HS.out W (zf bR.drew h.below)
 have hb0:=zi (show Below wA.heap.size wA wA.drew from bR.drew);refine xL ?_;clear hS;refine Xr rfl rfl (fun _=>by go_simp) HA hb0 fun b1 w1 hq1 zz_1 hb1=>?_
 try simp only[Act.put,yh,yf,yg]
 refine xL ?_;refine zm fun W hW=>?_
 have hbW:=zi (zf hA (zf hb1.out hW.below));go_wp2;go_ret;refine⟨_,rfl,?_,hbW.out⟩;rw[<-HR.out];simp[zv,hq1.out]
theorem zix(H:yH P nv iv l kv pr n)(t:List UInt8)(k a:Int)(ks:List Int)(u:Value)(w:World)(hC:kO w P nv iv l kv)(hu:KS w u ks)(hks:∀k∈ks,0<=k/\k<(n:Int))(hkl:ks.length<=100000)(hm1:1<=ks.length)(ht:t.length<=3000):Calls prog 169 #[.pointer (some ⟨P,0,none⟩),xW ⟨35,t,k,ks,a⟩ u] w (jL w (zJ pr ⟨35,t,k,ks,a⟩)):=by
 unfold xW;obtain⟨m,g,off,uc,wA,rfl,hm,hu,hcap,hwA,hA,⟨c0,c1,c2,c3,c4⟩,HS⟩:=vd hu (by omega) 35 t k a;rw[hm] at hkl hm1;obtain⟨R,hR⟩:=exE (zJ pr ⟨35,t,k,ks,a⟩);rw[hR];simp[zJ,zG] at hR;replace HS:=zi HS;have HA:=zi (fun W (hb:Below wA.heap.size wA W)=>jV H (.slice (some ⟨g,off,none⟩) m uc) ks W (hC.below (zf hA hb)) (hu.below (zf hA hb)) hks (by omega));have sA:=xM H hks (by omega);have HR:=zi hR;have hh0:=zi (pE wA.heap.size wA);generalize hpA:qA pr ks=pA at *;clear hC hu H hR hks;have Hm:=zi hm;clear hm;have hi0:(0:Int)<(m:Int):=by omega
 have hi1:0<m:=by omega
 have hi2:¬(m=0):=by omega
 have HwA:=zi hwA;clear hwA;go_enter func169,ntmps169;go_wp2_with fail;rw[HwA.out];refine (HA.out _ hh0.out).mono ?_;rintro e w1 ⟨b1,rfl,hq1,f1⟩;have zz_1:=xS hq1;replace hq1:=zi hq1;have hb1:=zi f1;go_wp2;go_ret;refine⟨_,rfl,?_,zf hA hb1.out⟩;rw[<-HR.out];simp[zv,hq1.out]
theorem ziz(H:yH P nv iv l kv pr n)(t:List UInt8)(k a:Int)(ks:List Int)(u:Value)(w:World)(hC:kO w P nv iv l kv)(hu:KS w u ks)(hks:∀k∈ks,0<=k/\k<(n:Int))(hkl:ks.length<=100000)(hm1:2<=ks.length)(ht:t.length<=3000):Calls prog 169 #[.pointer (some ⟨P,0,none⟩),xW ⟨31,t,k,ks,a⟩ u] w (jL w (zJ pr ⟨31,t,k,ks,a⟩)):=by
 unfold xW;obtain⟨m,g,off,uc,wA,rfl,hm,hu,hcap,hwA,hA,⟨c0,c1,c2,c3,c4⟩,HS⟩:=vd hu (by omega) 31 t k a;rw[hm] at hkl hm1;obtain⟨z0,hz0,l0,d0⟩:=ziK hu hm hks (j:=0) (by omega);obtain⟨R,hR⟩:=exE (zJ pr ⟨31,t,k,ks,a⟩);rw[hR];simp[zJ,zG] at hR
 try rw[hm] at hR
 try rw[hz0] at hR
 replace HS:=zi (fun W (hb:Below wA.heap.size wA W)=>And.intro (HS W hb) (show W.cell? ⟨g,off,none⟩=some (.int .i64 z0) from zj hb (zj hA d0)));have HN0:=zi (vJ H hC hA l0);have s0:=H.len z0 l0;have hkd:∀k∈ks.drop 1,0<=k/\k<(n:Int):=fun k hk=>hks k (List.mem_of_mem_drop hk)
 have hdl:(ks.drop 1).length<=100000:=by rw[gH];omega
 have HD:=zi (fun W (hb:Below wA.heap.size wA W)=>jV H (.slice (some ⟨g,off+1,none⟩) (m-1) (uc-1)) (ks.drop 1) W (hC.below (zf hA hb)) ((KS.dropc hu 1 (by omega)).below (zf hA hb)) hkd hdl);have sD:=xM H hkd hdl;have HR:=zi hR;have hh0:=zi (pE wA.heap.size wA);generalize hp0:pr z0=p0 at *
 try rw[List.drop_one] at *
 generalize hpD:qA pr (ks.drop 1)=pD at *;clear hz0;replace d0:=zj hA d0;clear hC hu H hR hks hkd hdl;have Hm:=zi hm;clear hm;have hwq:IntKind.i64.wrap ((m:Int)-1)=((m-1:Nat):Int):=by rw[pF _ ⟨by omega,by omega⟩];omega
 have hq0:¬(((m-1:Nat):Int)<0):=by omega
 have hq2:((m-1:Nat):Int)<(m:Int):=by omega
 have hd1:¬((m:Int)<1):=by omega
 have hd2:¬(uc=1):=by omega
 have hi0:(0:Int)<(m:Int):=by omega
 have hi1:0<m:=by omega
 have hi2:¬(m=0):=by omega
 rw[<-hwA] at d0;have HwA:=zi hwA;clear hwA;go_enter func169,ntmps169;go_wp2_with fail;rw[HwA.out];refine xt [(0,0),(1,0),(2,1),(3,0),(4,1),(8,0),(9,0),(10,1),(11,0),(5,2),(6,0),(7,0),(12,2),(13,0),(14,0),(15,0)] ?_;have hS:=fun W (h:Cl wA.drew W)=>HS.out W (zf bR.drew h.below)
 have hb0:=zi (show Below wA.heap.size wA wA.drew from bR.drew);refine xL ?_;clear hS;refine Xr rfl rfl (fun _=>by go_simp) HN0 hb0 fun b1 w1 hq1 zz_1 hb1=>?_
 try simp only[Act.put,yh,yf,yg]
 refine xL ?_;refine Xr rfl rfl (fun _=>by go_simp) HD hb1 fun b2 w2 hq2 zz_2 hb2=>?_
 try simp only[Act.put,yh,yf,yg]
 refine xL ?_;refine zm fun W hW=>?_
 have hbW:=zi (zf hA (zf hb2.out hW.below));go_wp2;go_ret;refine⟨_,rfl,?_,hbW.out⟩;rw[<-HR.out];simp[zv,hq1.out,hq2.out]
theorem ziy(H:yH P nv iv l kv pr n)(t:List UInt8)(k a:Int)(ks:List Int)(u:Value)(w:World)(hC:kO w P nv iv l kv)(hu:KS w u ks)(hks:∀k∈ks,0<=k/\k<(n:Int))(hkl:ks.length<=100000)(hm1:2<=ks.length)(ht:t.length<=3000):Calls prog 169 #[.pointer (some ⟨P,0,none⟩),xW ⟨33,t,k,ks,a⟩ u] w (jL w (zJ pr ⟨33,t,k,ks,a⟩)):=by
 unfold xW;obtain⟨m,g,off,uc,wA,rfl,hm,hu,hcap,hwA,hA,⟨c0,c1,c2,c3,c4⟩,HS⟩:=vd hu (by omega) 33 t k a;rw[hm] at hkl hm1;obtain⟨zL,hzL,lL,dL⟩:=ziK hu hm hks (j:=m-1) (by omega);obtain⟨R,hR⟩:=exE (zJ pr ⟨33,t,k,ks,a⟩);rw[hR];simp[zJ,zG] at hR
 try rw[hm] at hR
 try rw[hzL] at hR
 replace HS:=zi (fun W (hb:Below wA.heap.size wA W)=>And.intro (HS W hb) (show W.cell? ⟨g,off+(m-1),none⟩=some (.int .i64 zL) from zj hb (zj hA dL)));have HZ:=zi (vJ H hC hA lL);have sL:=H.len zL lL;have HH:=zi (show ∀W,Below wA.heap.size wA W->Calls prog 231 #[.pointer (some ⟨P,0,none⟩),.agg #[.int .u8 33,.string ⟨t.toArray⟩,.int .i64 k,.slice (some ⟨g,off,none⟩) m uc,.int .i64 a],.int .i64 1] W (jL W (yV pr ⟨33,t,k,ks,a⟩ 1)) from fun W hb=>Ya H ⟨33,t,k,ks,a⟩ (.slice (some ⟨g,off,none⟩) m uc) 1 W (hC.below (zf hA hb)) (hu.below (zf hA hb)) hks (by simp only;omega) (by simp only;omega));have sH:=vH H (x:=⟨33,t,k,ks,a⟩) (wo:=1) hks (by simp only;omega) (by simp only;omega);have HR:=zi hR;have hh0:=zi (pE wA.heap.size wA);generalize hpH:yV pr ⟨33,t,k,ks,a⟩ 1=pH at *;generalize hpZ:pr zL=pZ at *;clear hzL;replace dL:=zj hA dL;clear hC hu H hR hks;have Hm:=zi hm;clear hm;have hwq:IntKind.i64.wrap ((m:Int)-1)=((m-1:Nat):Int):=by rw[pF _ ⟨by omega,by omega⟩];omega
 have hq0:¬(((m-1:Nat):Int)<0):=by omega
 have hq2:((m-1:Nat):Int)<(m:Int):=by omega
 have hi0:(0:Int)<(m:Int):=by omega
 have hi1:0<m:=by omega
 have hi2:¬(m=0):=by omega
 rw[<-hwA] at dL;have HwA:=zi hwA;clear hwA;go_enter func169,ntmps169;go_wp2_with fail;rw[HwA.out];refine xt [(0,0),(1,1),(5,0),(6,0),(7,1),(8,0),(9,1),(10,0),(11,0),(12,0),(13,1),(2,2),(3,0),(4,0),(14,2),(15,0),(16,0)] ?_;have hS:=fun W (h:Cl wA.drew W)=>HS.out W (zf bR.drew h.below)
 have hb0:=zi (show Below wA.heap.size wA wA.drew from bR.drew);refine xL ?_;clear hS;refine Xr rfl rfl (fun _=>by go_simp) HH hb0 fun b1 w1 hq1 zz_1 hb1=>?_
 try simp only[Act.put,yh,yf,yg]
 refine xL ?_;refine Xr rfl rfl (fun _=>by go_simp) HZ hb1 fun b2 w2 hq2 zz_2 hb2=>?_
 try simp only[Act.put,yh,yf,yg]
 refine xL ?_;refine zm fun W hW=>?_
 have hbW:=zi (zf hA (zf hb2.out hW.below));go_wp2;go_ret;refine⟨_,rfl,?_,hbW.out⟩;rw[<-HR.out];simp[zv,hq1.out,hq2.out]
end
section
variable {P:Nat} {nv iv:Value} {l:List Nd} {kv:List Value} {pr:Int→List UInt8} {n:Nat}
theorem zbU(K:Nat)(hK:K=86\/K=87)(H:yH P nv iv l kv pr n)(t:List UInt8)(k a:Int)(z0:Nat)(u:Value)(w:World)(hC:kO w P nv iv l kv)(hu:KS w u [(z0:Int)])(l0:z0<n)(ht:t.length<=3000):Calls prog 168 #[.pointer (some ⟨P,0,none⟩),xW ⟨K,t,k,[(z0:Int)],a⟩ u] w (jL w (yv pr ⟨K,t,k,[(z0:Int)],a⟩)):=by
 unfold xW;obtain⟨KI,hKI⟩:∃KI:Int,(K:Int)=KI:=⟨_,rfl⟩;obtain⟨g,off,uc,wA,rfl,hu,hcap,hwA,hA,⟨c0,c1,c2,c3,x0⟩,HS⟩:=uU hu KI t k a;replace HS:=zi HS;have HN0:=zi (vJ H hC hA l0);have s0:=H.len z0 l0;obtain⟨R,hR⟩:=exE (yv pr ⟨K,t,k,[(z0:Int)],a⟩);rw[hR];rcases hK with rfl|rfl
 all_goals
  simp at hKI;subst hKI;simp[yv,zG,yV] at hR;have HR:=zi hR;have hh0:=zi (pE wA.heap.size wA);generalize hp0:pr z0=p0 at *;clear hC hu H hR;have HwA:=zi hwA;clear hwA;go_enter func168,ntmps168;go_wp2_with fail;rw[HwA.out];refine (HN0.out _ hh0.out).mono ?_;rintro e w1 ⟨b1,rfl,hq1,f1⟩;have zz_1:=xS hq1;replace hq1:=zi hq1;have hb1:=zi f1;go_wp2;go_ret;refine⟨_,rfl,?_,zf hA hb1.out⟩;rw[<-HR.out];simp[zv,hq1.out]
theorem zgO(H:yH P nv iv l kv pr n)(t:List UInt8)(k a:Int)(z0:Nat)(u:Value)(w:World)(hC:kO w P nv iv l kv)(hu:KS w u [(z0:Int)])(l0:z0<n)(ht:t.length<=3000):Calls prog 168 #[.pointer (some ⟨P,0,none⟩),xW ⟨88,t,k,[(z0:Int)],a⟩ u] w (jL w (yv pr ⟨88,t,k,[(z0:Int)],a⟩)):=by
 unfold xW;obtain⟨g,off,uc,wA,rfl,hu,hcap,hwA,hA,⟨c0,c1,c2,c3,x0⟩,HS⟩:=uU hu 88 t k a;replace HS:=zi HS;have HN0:=zi (vJ H hC hA l0);have s0:=H.len z0 l0;obtain⟨R,hR⟩:=exE (yv pr ⟨88,t,k,[(z0:Int)],a⟩);rw[hR];simp[yv,zG,yV] at hR;have HR:=zi hR;have hh0:=zi (pE wA.heap.size wA);generalize hp0:pr z0=p0 at *;clear hC hu H hR;have HwA:=zi hwA;clear hwA;go_enter func168,ntmps168;go_wp2_with fail;rw[HwA.out];refine xt [(0,0),(1,1),(2,0),(3,0),(4,0),(5,1),(6,0),(7,1),(8,2),(9,0),(10,0)] ?_;have hS:=fun W (h:Cl wA.drew W)=>HS.out W (zf bR.drew h.below)
 have hb0:=zi (show Below wA.heap.size wA wA.drew from bR.drew);refine xL ?_;clear hS;refine Xr rfl rfl (fun _=>by go_simp) HN0 hb0 fun b1 w1 hq1 zz_1 hb1=>?_
 try simp only[Act.put,yh,yf,yg]
 refine xL ?_;refine zm fun W hW=>?_
 have hbW:=zi (zf hA (zf hb1.out hW.below));clear hW;go_wp2;go_ret;refine⟨_,rfl,?_,hbW.out⟩;rw[<-HR.out];simp[zv,hq1.out]
theorem zfw(H:yH P nv iv l kv pr n)(t:List UInt8)(k a:Int)(z0 z1:Nat)(u:Value)(w:World)(hC:kO w P nv iv l kv)(hu:KS w u [(z0:Int),(z1:Int)])(l0:z0<n)(l1:z1<n)(ht:t.length<=3000):Calls prog 168 #[.pointer (some ⟨P,0,none⟩),xW ⟨104,t,k,[(z0:Int),(z1:Int)],a⟩ u] w (jL w (yv pr ⟨104,t,k,[(z0:Int),(z1:Int)],a⟩)):=by
 unfold xW;obtain⟨g,off,uc,wA,rfl,hu,hcap,hwA,hA,⟨c0,c1,c2,c3,x0,x1⟩,HS⟩:=XE hu 104 t k a;replace HS:=zi HS;have HN0:=zi (vJ H hC hA l0);have s0:=H.len z0 l0;have HN1:=zi (vJ H hC hA l1);have s1:=H.len z1 l1;obtain⟨R,hR⟩:=exE (yv pr ⟨104,t,k,[(z0:Int),(z1:Int)],a⟩);rw[hR];simp[yv,zG,yV] at hR;have HR:=zi hR;have hh0:=zi (pE wA.heap.size wA);generalize hp0:pr z0=p0 at *;generalize hp1:pr z1=p1 at *;clear hC hu H hR;have HwA:=zi hwA;clear hwA;go_enter func168,ntmps168;go_wp2_with fail;rw[HwA.out];refine xt [(0,0),(1,1),(2,0),(3,0),(4,0),(5,0),(6,1),(7,0),(8,1),(12,0),(13,0),(14,1),(15,0),(16,1),(9,2),(10,0),(11,0),(17,2),(18,0),(19,0),(20,0)] ?_;have hS:=fun W (h:Cl wA.drew W)=>HS.out W (zf bR.drew h.below)
 have hb0:=zi (show Below wA.heap.size wA wA.drew from bR.drew);refine xL ?_;clear hS;refine Xr rfl rfl (fun _=>by go_simp) HN0 hb0 fun b1 w1 hq1 zz_1 hb1=>?_
 try simp only[Act.put,yh,yf,yg]
 refine xL ?_;refine Xr rfl rfl (fun _=>by go_simp) HN1 hb1 fun b2 w2 hq2 zz_2 hb2=>?_
 try simp only[Act.put,yh,yf,yg]
 refine xL ?_;refine zm fun W hW=>?_
 have hbW:=zi (zf hA (zf hb2.out hW.below));clear hW;go_wp2;go_ret;refine⟨_,rfl,?_,hbW.out⟩;rw[<-HR.out];simp[zv,hq1.out,hq2.out]
theorem zgP(H:yH P nv iv l kv pr n)(t:List UInt8)(k a:Int)(ks:List Int)(u:Value)(w:World)(hC:kO w P nv iv l kv)(hu:KS w u ks)(hks:∀k∈ks,0<=k/\k<(n:Int))(hkl:ks.length<=100000)(hm1:1<=ks.length)(ht:t.length<=3000):Calls prog 168 #[.pointer (some ⟨P,0,none⟩),xW ⟨85,t,k,ks,a⟩ u] w (jL w (yv pr ⟨85,t,k,ks,a⟩)):=by
 unfold xW;obtain⟨m,g,off,uc,wA,rfl,hm,hu,hcap,hwA,hA,⟨c0,c1,c2,c3,c4⟩,HS⟩:=vd hu (by omega) 85 t k a;rw[hm] at hkl hm1;obtain⟨R,hR⟩:=exE (yv pr ⟨85,t,k,ks,a⟩);rw[hR];simp[yv,zG] at hR;replace HS:=zi HS;have HH:=zi (show ∀W,Below wA.heap.size wA W->Calls prog 231 #[.pointer (some ⟨P,0,none⟩),.agg #[.int .u8 85,.string ⟨t.toArray⟩,.int .i64 k,.slice (some ⟨g,off,none⟩) m uc,.int .i64 a],.int .i64 0] W (jL W (yV pr ⟨85,t,k,ks,a⟩ 0)) from fun W hb=>Ya H ⟨85,t,k,ks,a⟩ (.slice (some ⟨g,off,none⟩) m uc) 0 W (hC.below (zf hA hb)) (hu.below (zf hA hb)) hks (by simp only;omega) (by simp only;omega));have sH:=vH H (x:=⟨85,t,k,ks,a⟩) (wo:=0) hks (by simp only;omega) (by simp only;omega);have HR:=zi hR;have hh0:=zi (pE wA.heap.size wA);generalize hpH:yV pr ⟨85,t,k,ks,a⟩ 0=pH at *;clear hC hu H hR hks;have Hm:=zi hm;clear hm;have hi0:(0:Int)<(m:Int):=by omega
 have hi1:0<m:=by omega
 have hi2:¬(m=0):=by omega
 have HwA:=zi hwA;clear hwA;go_enter func168,ntmps168;go_wp2_with fail;rw[HwA.out];refine (HH.out _ hh0.out).mono ?_;rintro e w1 ⟨b1,rfl,hq1,f1⟩;have zz_1:=xS hq1;replace hq1:=zi hq1;have hb1:=zi f1;go_wp2;go_ret;refine⟨_,rfl,?_,zf hA hb1.out⟩;rw[<-HR.out];simp[zv,hq1.out]
theorem Vy(K:Nat)(hK:K=100\/K=101)(H:yH P nv iv l kv pr n)(t:List UInt8)(k a:Int)(ks:List Int)(u:Value)(w:World)(hC:kO w P nv iv l kv)(hu:KS w u ks)(hks:∀k∈ks,0<=k/\k<(n:Int))(hkl:ks.length<=100000)(hm1:1<=ks.length)(ht:t.length<=3000):Calls prog 168 #[.pointer (some ⟨P,0,none⟩),xW ⟨K,t,k,ks,a⟩ u] w (jL w (yv pr ⟨K,t,k,ks,a⟩)):=by
 unfold xW;obtain⟨KI,hKI⟩:∃KI:Int,(K:Int)=KI:=⟨_,rfl⟩;obtain⟨m,g,off,uc,wA,rfl,hm,hu,hcap,hwA,hA,⟨c0,c1,c2,c3,c4⟩,HS⟩:=vd hu (by omega) KI t k a;rw[hm] at hkl hm1;obtain⟨R,hR⟩:=exE (yv pr ⟨K,t,k,ks,a⟩);rw[hR];rcases hK with rfl|rfl
 all_goals
  simp at hKI;subst hKI;simp[yv,zG] at hR;replace HS:=zi HS;have HA:=zi (fun W (hb:Below wA.heap.size wA W)=>jV H (.slice (some ⟨g,off,none⟩) m uc) ks W (hC.below (zf hA hb)) (hu.below (zf hA hb)) hks (by omega));have sA:=xM H hks (by omega);have HR:=zi hR;have hh0:=zi (pE wA.heap.size wA);generalize hpA:qA pr ks=pA at *;clear hC hu H hR hks;have Hm:=zi hm;clear hm;have hi0:(0:Int)<(m:Int):=by omega
  have hi1:0<m:=by omega
  have hi2:¬(m=0):=by omega
  have HwA:=zi hwA;clear hwA;go_enter func168,ntmps168;go_wp2_with fail;rw[HwA.out];refine xt [(0,0),(1,1),(2,0),(3,0),(4,0),(5,0),(6,1),(7,2),(8,0),(9,0),(10,0)] ?_;have hS:=fun W (h:Cl wA.drew W)=>HS.out W (zf bR.drew h.below)
  have hb0:=zi (show Below wA.heap.size wA wA.drew from bR.drew);refine xL ?_;clear hS;refine Xr rfl rfl (fun _=>by go_simp) HA hb0 fun b1 w1 hq1 zz_1 hb1=>?_
  try simp only[Act.put,yh,yf,yg]
  refine xL ?_;refine zm fun W hW=>?_
  have hbW:=zi (zf hA (zf hb1.out hW.below));go_wp2;go_ret;refine⟨_,rfl,?_,hbW.out⟩;rw[<-HR.out];simp[zv,hq1.out]
theorem zfx(H:yH P nv iv l kv pr n)(t:List UInt8)(k a:Int)(ks:List Int)(u:Value)(w:World)(hC:kO w P nv iv l kv)(hu:KS w u ks)(hks:∀k∈ks,0<=k/\k<(n:Int))(hkl:ks.length<=100000)(hm1:1<=ks.length)(ht:t.length<=3000):Calls prog 168 #[.pointer (some ⟨P,0,none⟩),xW ⟨103,t,k,ks,a⟩ u] w (jL w (yv pr ⟨103,t,k,ks,a⟩)):=by
 unfold xW;obtain⟨m,g,off,uc,wA,rfl,hm,hu,hcap,hwA,hA,⟨c0,c1,c2,c3,c4⟩,HS⟩:=vd hu (by omega) 103 t k a;rw[hm] at hkl hm1;obtain⟨R,hR⟩:=exE (yv pr ⟨103,t,k,ks,a⟩);rw[hR];simp[yv,zG] at hR;replace HS:=zi HS;have HH:=zi (show ∀W,Below wA.heap.size wA W->Calls prog 231 #[.pointer (some ⟨P,0,none⟩),.agg #[.int .u8 103,.string ⟨t.toArray⟩,.int .i64 k,.slice (some ⟨g,off,none⟩) m uc,.int .i64 a],.int .i64 0] W (jL W (yV pr ⟨103,t,k,ks,a⟩ 0)) from fun W hb=>Ya H ⟨103,t,k,ks,a⟩ (.slice (some ⟨g,off,none⟩) m uc) 0 W (hC.below (zf hA hb)) (hu.below (zf hA hb)) hks (by simp only;omega) (by simp only;omega));have sH:=vH H (x:=⟨103,t,k,ks,a⟩) (wo:=0) hks (by simp only;omega) (by simp only;omega);have HR:=zi hR;have hh0:=zi (pE wA.heap.size wA);generalize hpH:yV pr ⟨103,t,k,ks,a⟩ 0=pH at *;clear hC hu H hR hks;have Hm:=zi hm;clear hm;have hi0:(0:Int)<(m:Int):=by omega
 have hi1:0<m:=by omega
 have hi2:¬(m=0):=by omega
 have HwA:=zi hwA;clear hwA;go_enter func168,ntmps168;go_wp2_with fail;rw[HwA.out];refine xt [(0,0),(1,1),(2,0),(3,0),(4,1),(5,2),(6,0),(7,0),(8,0)] ?_;have hS:=fun W (h:Cl wA.drew W)=>HS.out W (zf bR.drew h.below)
 have hb0:=zi (show Below wA.heap.size wA wA.drew from bR.drew);refine xL ?_;clear hS;refine Xr rfl rfl (fun _=>by go_simp) HH hb0 fun b1 w1 hq1 zz_1 hb1=>?_
 try simp only[Act.put,yh,yf,yg]
 refine xL ?_;refine zm fun W hW=>?_
 have hbW:=zi (zf hA (zf hb1.out hW.below));go_wp2;go_ret;refine⟨_,rfl,?_,hbW.out⟩;rw[<-HR.out];simp[zv,hq1.out]
theorem zfy(H:yH P nv iv l kv pr n)(t:List UInt8)(k a:Int)(ks:List Int)(u:Value)(w:World)(hC:kO w P nv iv l kv)(hu:KS w u ks)(hks:∀k∈ks,0<=k/\k<(n:Int))(hkl:ks.length<=100000)(hm1:2<=ks.length)(ht:t.length<=3000):Calls prog 168 #[.pointer (some ⟨P,0,none⟩),xW ⟨102,t,k,ks,a⟩ u] w (jL w (yv pr ⟨102,t,k,ks,a⟩)):=by
 unfold xW;obtain⟨m,g,off,uc,wA,rfl,hm,hu,hcap,hwA,hA,⟨c0,c1,c2,c3,c4⟩,HS⟩:=vd hu (by omega) 102 t k a;rw[hm] at hkl hm1;obtain⟨zL,hzL,lL,dL⟩:=ziK hu hm hks (j:=m-1) (by omega);obtain⟨R,hR⟩:=exE (yv pr ⟨102,t,k,ks,a⟩);rw[hR];simp[yv,zG] at hR
 try rw[hm] at hR
 try rw[hzL] at hR
 replace HS:=zi (fun W (hb:Below wA.heap.size wA W)=>And.intro (HS W hb) (show W.cell? ⟨g,off+(m-1),none⟩=some (.int .i64 zL) from zj hb (zj hA dL)));have HZ:=zi (vJ H hC hA lL);have sL:=H.len zL lL;have HH:=zi (show ∀W,Below wA.heap.size wA W->Calls prog 231 #[.pointer (some ⟨P,0,none⟩),.agg #[.int .u8 102,.string ⟨t.toArray⟩,.int .i64 k,.slice (some ⟨g,off,none⟩) m uc,.int .i64 a],.int .i64 1] W (jL W (yV pr ⟨102,t,k,ks,a⟩ 1)) from fun W hb=>Ya H ⟨102,t,k,ks,a⟩ (.slice (some ⟨g,off,none⟩) m uc) 1 W (hC.below (zf hA hb)) (hu.below (zf hA hb)) hks (by simp only;omega) (by simp only;omega));have sH:=vH H (x:=⟨102,t,k,ks,a⟩) (wo:=1) hks (by simp only;omega) (by simp only;omega);have HR:=zi hR;have hh0:=zi (pE wA.heap.size wA);generalize hpH:yV pr ⟨102,t,k,ks,a⟩ 1=pH at *;generalize hpZ:pr zL=pZ at *;clear hzL;replace dL:=zj hA dL;clear hC hu H hR hks;have Hm:=zi hm;clear hm;have hwq:IntKind.i64.wrap ((m:Int)-1)=((m-1:Nat):Int):=by rw[pF _ ⟨by omega,by omega⟩];omega
 have hq0:¬(((m-1:Nat):Int)<0):=by omega
 have hq2:((m-1:Nat):Int)<(m:Int):=by omega
 have hi0:(0:Int)<(m:Int):=by omega
 have hi1:0<m:=by omega
 have hi2:¬(m=0):=by omega
 rw[<-hwA] at dL;have HwA:=zi hwA;clear hwA;go_enter func168,ntmps168;go_wp2_with fail;rw[HwA.out];refine xt [(0,0),(1,1),(2,0),(3,0),(4,1),(8,0),(9,0),(10,1),(11,0),(12,1),(13,0),(14,0),(15,0),(16,1),(5,2),(6,0),(7,0),(17,2),(18,0),(19,0)] ?_;have hS:=fun W (h:Cl wA.drew W)=>HS.out W (zf bR.drew h.below)
 have hb0:=zi (show Below wA.heap.size wA wA.drew from bR.drew);refine xL ?_;clear hS;refine Xr rfl rfl (fun _=>by go_simp) HH hb0 fun b1 w1 hq1 zz_1 hb1=>?_
 try simp only[Act.put,yh,yf,yg]
 refine xL ?_;refine Xr rfl rfl (fun _=>by go_simp) HZ hb1 fun b2 w2 hq2 zz_2 hb2=>?_
 try simp only[Act.put,yh,yf,yg]
 refine xL ?_;refine zm fun W hW=>?_
 have hbW:=zi (zf hA (zf hb2.out hW.below));have hc2:W.cell? ⟨w.heap.size,2,none⟩=some (.int .i64 k):=(HS.out W (zf hb2.out hW.below)).1.2.2.1;by_cases hk1:k=1
 ·subst hk1;have h:=HR.out;rw[if_pos rfl] at h;go_wp2;go_ret;refine⟨_,rfl,?_,hbW.out⟩;rw[<-h];simp[zv,hq1.out,hq2.out]
 ·have hk1':(k == 1)=false:=bfE hk1
  have h:=HR.out;rw[if_neg hk1] at h;go_wp2;go_ret;refine⟨_,rfl,?_,hbW.out⟩;rw[<-h];simp[zv,hq1.out,hq2.out]
end
theorem zdG{P:Program}{w:World}{t kt et:TypeId}(ht:P.underlying t=some (.map kt et))(hk:P.underlying kt=some (.int .u8)){z:Value}(hz:(zeroValue et).run P w=.ok z w){r:Nat}{l:List (Nat×Value)}(hb:w.heap[r]? =some (Zw l))(k:Nat):
 (Instr.lookup t (.map (some r)) (.int .u8 k) false).run P w=.ok (((l.find? fun x=>x.1 == k).map Prod.snd).getD z) w:=by
 have h1:=fun e=>zaR (P:=P) (w:=w) hk k e
 cases hf:l.find? fun x=>x.1 == k with
 |none=>
  have hn:∀x∈l,x.1≠k:=fun x hx e=>by
   rw[List.find?_eq_none] at hf;exact hf x hx (by simpa using e)
  have h2:=Go.MapKept.run_findKey (w:=w) hk (show Instr.findNow (.int .u8) (.int .u8 k) (QR 0 l).toArray.toList 0=some none by simpa using uS l 0 0 k hn);simp[Instr.lookup,run_underlying ht,Go.MapKept.run_getObj_map hb,h1,Result.andThen] at h2 ⊢;simp[h2,hz,Result.andThen]
 |some x=>
  obtain⟨kx,v⟩:=x;have hkx:kx=k:=by simpa using List.find?_some hf
  subst hkx;obtain⟨j,hj⟩:=Qr l 0 0 kx v hf;have h2:=Go.MapKept.run_findKey (w:=w) hk (show Instr.findNow (.int .u8) (.int .u8 kx) (QR 0 l).toArray.toList 0=some (some (j,v)) by simpa using hj);simp[Instr.lookup,run_underlying ht,Go.MapKept.run_getObj_map hb,h1,Result.andThen] at h2 ⊢;simp[h2]
theorem zc5{W:World}{s:Nat}(hb:W.heap[s]? =some (Zw qO))(k:Nat)(hk:k<256):(Instr.lookup 163 (.map (some s)) (.int .u8 k) true).run prog W=.ok (.tuple #[.string ⟨((yO k).getD []).toArray⟩,.bool (yO k).isSome]) W:=by
 have h:=VG (P:=prog) (w:=W) (z:=.string ⟨#[]⟩) underlying163 underlying5 (by kernel_rfl) hb k;have e:(qO.find? fun x=>x.1 == k)=(XW.find? fun x=>x.1 == k).map fun x=>(x.1,Value.string ⟨x.2.toArray⟩):=by
  unfold qO;rw[List.find?_map];rfl
 have hs:=zdm k hk;rw[e] at h;rw[h,<-hs];cases XW.find? fun x=>x.1 == k <;> rfl
theorem zbR{W:World}{r:Nat}(hb:W.heap[r]? =some (Zw yP))(k:Nat)(hk:k<256)(hs:(yO k).isSome=true):(Instr.lookup 164 (.map (some r)) (.int .u8 k) false).run prog W=.ok (.int .i64 (yR k:Nat)) W:=by
 have h:=zdG (P:=prog) (w:=W) (z:=.int .i64 0) underlying164 underlying5 (by kernel_rfl) hb k;have e:(yP.find? fun x=>x.1 == k)=(vV.find? fun x=>x.1 == k).map fun x=>(x.1,Value.int .i64 x.2):=QI k
 rw[e] at h;rw[h];have hall:∀k,k<256->(yO k).isSome=true->((vV.find? fun x=>x.1 == k).map Prod.snd)=some ((yR k:Nat):Int):=by decide +kernel
 have:=hall k hk hs;cases hf:vV.find? fun x=>x.1 == k with
 |none=>rw[hf] at this;cases this
 |some y=>
  rw[hf] at this;have e2:y.2=((yR k:Nat):Int):=by simpa using this
  show Result.ok (Value.int .i64 y.2) W=_
  rw[e2]
abbrev zl8(W:World)(b:Nat)(K:Int)(t:List UInt8)(k:Int)(up:Option Addr)(m uc:Nat)(a:Int)(P gN oN ln nc s r:Nat)(lk:Array Value):Prop:=
 W.cell? ⟨b,0,none⟩=some (.int .u8 K)/\W.cell? ⟨b,1,none⟩=some (.string ⟨t.toArray⟩)/\W.cell? ⟨b,2,none⟩=some (.int .i64 k)/\W.cell? ⟨b,3,none⟩=some (.slice up m uc)/\W.cell? ⟨b,4,none⟩=some (.int .i64 a)/\
 W.cell? ⟨P,0,none⟩=some (.slice (some ⟨gN,oN,none⟩) ln nc)/\W.cell? ⟨P,2,none⟩=some (.map (some s))/\W.cell? ⟨P,3,none⟩=some (.map (some r))/\(Instr.lookup 163 (.map (some s)) (.int .u8 K) true).run prog W=.ok (.tuple lk) W
theorem xZ{P:Nat}{nv iv:Value}{l:List Nd}{kv:List Value}{pr:Int->List UInt8}{n:Nat}(H:yH P nv iv l kv pr n){w:World}(hC:kO w P nv iv l kv){i K:Nat}{t:List UInt8}{k a:Int}{ks:List Int}(hx:l[i]? =some ⟨K,t,k,ks,a⟩){m:Nat}(hm:ks.length=m){KI:Int}(hKI:(K:Int)=KI){lk:Array Value}(hl:K<=255->#[.string ⟨((yO K).getD []).toArray⟩,.bool (yO K).isSome]=lk):
 ∃(s r nc gN oN uc:Nat) (up:Option Addr),nv=.slice (some ⟨gN,oN,none⟩) l.length nc/\K<=255/\((i:Int)<(l.length:Int)/\¬((i:Int)<0))/\(KS w (.slice up m uc) ks/\m<=uc)/\
  (w.cell? ⟨gN,oN+i*5,none⟩=some (.int .u8 KI)/\w.cell? ⟨gN,oN+i*5+1,none⟩=some (.string ⟨t.toArray⟩)/\w.cell? ⟨gN,oN+i*5+2,none⟩=some (.int .i64 k)/\w.cell? ⟨gN,oN+i*5+3,none⟩=some (.slice up m uc)/\w.cell? ⟨gN,oN+i*5+4,none⟩=some (.int .i64 a)/\w.cell? ⟨P,0,none⟩=some (.slice (some ⟨gN,oN,none⟩) l.length nc))/\w.heap[r]? =some (Zw yP)/\
  ∃wA,w.alloc (.cells #[.int .u8 KI,.string ⟨t.toArray⟩,.int .i64 k,.slice up m uc,.int .i64 a] 60 (0,0))=wA/\Below w.heap.size w wA/\∀W,Below wA.heap.size wA W->zl8 W w.heap.size KI t k up m uc a P gN oN l.length nc s r lk:=by
 obtain⟨s,r,h1,h2,h3⟩:=hC.pr.maps;have hx255:K<=255:=H.kind _ (pW hx);obtain⟨np,nc,rfl⟩:=hC.ns.form;obtain⟨gN,oN,u,rfl,hN⟩:=hC.ns.at hx;have hu:KS w u ks:=hN.kids;obtain⟨up,uc,rfl⟩:=hu.form;subst hm;subst hKI;have hA:=zg w (.cells #[.int .u8 K,.string ⟨t.toArray⟩,.int .i64 k,.slice up ks.length uc,.int .i64 a] 60 (0,0));have hZ:=zl w (.cells #[.int .u8 K,.string ⟨t.toArray⟩,.int .i64 k,.slice up ks.length uc,.int .i64 a] 60 (0,0));refine⟨s,r,nc,gN,oN,uc,up,rfl,hx255,⟨by have:=(gtL hx);omega,by omega⟩,⟨hu,hu.cap.2⟩,⟨hN.c0,hN.c1,hN.c2,hN.c3,hN.c4,zd h1 0⟩,h3,_,rfl,hA,fun W hb=>?_⟩;rw[<-hl hx255];exact⟨zd (zh hb hZ) 0,zd (zh hb hZ) 1,zd (zh hb hZ) 2,zd (zh hb hZ) 3,zd (zh hb hZ) 4,zd (zh (zf hA hb) h1) 0,zd (zh (zf hA hb) h1) 2,zd (zh (zf hA hb) h1) 3,zc5 (((zf hA hb).block _ (gtA h2)).trans h2) _ (by omega)⟩
abbrev NkN(K:Nat):Prop:=∀c∈[1,67,2,68,3,69,4,5,66,84,6,7,23,24,25,70,89,28],K≠c
theorem Kc{K:Nat}(h:NkN K):K≠1/\K≠67/\K≠2/\K≠68/\K≠3/\K≠69/\K≠4/\K≠5/\K≠66/\K≠84/\K≠6/\K≠7/\K≠23/\K≠24/\K≠25/\K≠70/\K≠89/\K≠28:=by simpa[NkN] using h
abbrev NkB(K:Nat):Prop:=((K:Int) == 1)=false/\((K:Int) == 67)=false/\((K:Int) == 2)=false/\((K:Int) == 68)=false/\((K:Int) == 3)=false/\((K:Int) == 69)=false/\((K:Int) == 4)=false/\((K:Int) == 5)=false/\((K:Int) == 66)=false/\((K:Int) == 84)=false/\((K:Int) == 6)=false/\((K:Int) == 7)=false/\((K:Int) == 23)=false/\((K:Int) == 24)=false/\((K:Int) == 25)=false/\((K:Int) == 70)=false/\((K:Int) == 89)=false/\((K:Int) == 28)=false
theorem zfE{K:Nat}(h:NkN K):NkB K:=by
 obtain⟨h1,h2,h3,h4,h5,h6,h7,h8,h9,h10,h11,h12,h13,h14,h15,h16,h17,h18⟩:=Kc h;refine⟨?_,?_,?_,?_,?_,?_,?_,?_,?_,?_,?_,?_,?_,?_,?_,?_,?_,?_⟩ <;> (rw[pC];omega)
section
variable {P:Nat} {nv iv:Value} {l:List Nd} {kv:List Value} {pr:Int→List UInt8} {n:Nat}
theorem zgT(K:Nat)(hK:K=1\/K=67)(H:yH P nv iv l kv pr n)(i:Nat)(t:List UInt8)(k a:Int)(ks:List Int)(w:World)(hC:kO w P nv iv l kv)(hx:l[i]? =some ⟨K,t,k,ks,a⟩)(ht:t.length<=3000)(hk: -1000000000<=k/\k<=1000000000):Calls prog 108 #[.pointer (some ⟨P,0,none⟩),.int .i64 i] w (jL w (zF l pr ⟨K,t,k,ks,a⟩)):=by
 obtain⟨R,hR⟩:=exE (zF l pr ⟨K,t,k,ks,a⟩);rw[hR];obtain⟨KI,hKI⟩:∃KI:Int,(K:Int)=KI:=⟨_,rfl⟩;rcases hK with rfl|rfl
 all_goals
  obtain⟨s,r,nc,gN,oN,uc,up,rfl,hx255,⟨hil,hi0⟩,⟨hu,hcap⟩,⟨a0,a1,a2,a3,a4,cP⟩,h3,wA,hwA,hA,HS⟩:=xZ H hC hx (m:=ks.length) rfl (KI:=KI) hKI (lk:= #[.string ⟨#[]⟩,.bool false]) (fun _=>rfl);simp at hKI;subst hKI;have HI:=zi (fun W (hb:Below w.heap.size w W)=>Tryz.strconv_Itoa k (by omega) (by omega) W (hC.below hb).gl.pow);replace HS:=zi HS;have hb0:=zi (show Below wA.heap.size wA wA.drew from bR.drew);simp[zF,yO,zG] at hR;have HR:=zi hR;have HwA:=zi hwA;clear hwA hR hC hx hu h3 H;go_enter func108,ntmps108;go_wp2_with fail;rw[HwA.out];clear a0 a1 a2 a3 a4 cP;have hS:=fun W (h:Cl wA.drew W)=>HS.out W (zf hb0.out h.below)
  refine xt [(0,0),(1,0),(2,0),(3,1),(4,0),(5,1),(6,1),(7,0),(8,0),(9,0),(10,0),(11,0)] ?_;refine xL ?_;clear hS;refine zm fun V1 hV1=>?_
  have hb1:=zi (zf hb0.out hV1.below);clear hV1;obtain⟨c0,c1,c2,c3,c4,cP,cS,cR,cL⟩:=HS.out V1 hb1.out;go_wp2_with fail;refine (HI.out _ (zf hA hb1.out)).mono ?_;rintro e w2 ⟨rfl,hwI⟩;have f2:Below V1.heap.size V1 w2:=by obtain⟨k,os,rfl⟩:=hwI;exact Lib.below_grow _ _ (pG _) k os
  go_wp2;go_ret;exact⟨_,rfl,HR.out,zf hA (zf hb1.out f2)⟩
theorem zgS(K:Nat)(hK:K=2\/K=68)(H:yH P nv iv l kv pr n)(i:Nat)(t:List UInt8)(k a:Int)(ks:List Int)(w:World)(hC:kO w P nv iv l kv)(hx:l[i]? =some ⟨K,t,k,ks,a⟩)(ht:t.length<=3000):Calls prog 108 #[.pointer (some ⟨P,0,none⟩),.int .i64 i] w (jL w (zF l pr ⟨K,t,k,ks,a⟩)):=by
 obtain⟨R,hR⟩:=exE (zF l pr ⟨K,t,k,ks,a⟩);rw[hR];obtain⟨KI,hKI⟩:∃KI:Int,(K:Int)=KI:=⟨_,rfl⟩;rcases hK with rfl|rfl
 all_goals
  obtain⟨s,r,nc,gN,oN,uc,up,rfl,hx255,⟨hil,hi0⟩,⟨hu,hcap⟩,⟨a0,a1,a2,a3,a4,cP⟩,h3,wA,hwA,hA,HS⟩:=xZ H hC hx (m:=ks.length) rfl (KI:=KI) hKI (lk:= #[.string ⟨#[]⟩,.bool false]) (fun _=>rfl);simp at hKI;subst hKI;replace HS:=zi HS;have hb0:=zi (show Below wA.heap.size wA wA.drew from bR.drew);simp[zF,yO,zG] at hR;have HQ:=zi (fun W=>zdp t W (by omega));generalize (xX t).1=qt at *;have HR:=zi hR;have HwA:=zi hwA;clear hwA hR hC hx hu h3 H;go_enter func108,ntmps108;go_wp2_with fail;rw[HwA.out];clear a0 a1 a2 a3 a4 cP;have hS:=fun W (h:Cl wA.drew W)=>HS.out W (zf hb0.out h.below)
  refine xt [(0,0),(1,0),(2,0),(3,1),(4,0),(5,1),(6,1),(7,0),(8,0),(9,0),(10,0),(11,0)] ?_;refine xL ?_;clear hS;refine zm fun V1 hV1=>?_
  have hb1:=zi (zf hb0.out hV1.below);clear hV1;obtain⟨c0,c1,c2,c3,c4,cP,cS,cR,cL⟩:=HS.out V1 hb1.out;go_wp2_with fail;refine (HQ.out V1).mono ?_;rintro e w2 ⟨rfl,f2⟩;go_wp2;go_ret;exact⟨_,rfl,HR.out,zf hA (zf hb1.out f2)⟩
theorem zgR(K:Nat)(hK:K=3\/K=69)(H:yH P nv iv l kv pr n)(i:Nat)(t:List UInt8)(k a:Int)(ks:List Int)(w:World)(hC:kO w P nv iv l kv)(hx:l[i]? =some ⟨K,t,k,ks,a⟩)(ht:t.length<=3000):Calls prog 108 #[.pointer (some ⟨P,0,none⟩),.int .i64 i] w (jL w (zF l pr ⟨K,t,k,ks,a⟩)):=by
 obtain⟨R,hR⟩:=exE (zF l pr ⟨K,t,k,ks,a⟩);rw[hR];obtain⟨KI,hKI⟩:∃KI:Int,(K:Int)=KI:=⟨_,rfl⟩;rcases hK with rfl|rfl
 all_goals
  obtain⟨s,r,nc,gN,oN,uc,up,rfl,hx255,⟨hil,hi0⟩,⟨hu,hcap⟩,⟨a0,a1,a2,a3,a4,cP⟩,h3,wA,hwA,hA,HS⟩:=xZ H hC hx (m:=ks.length) rfl (KI:=KI) hKI (lk:= #[.string ⟨#[]⟩,.bool false]) (fun _=>rfl);simp at hKI;subst hKI;replace HS:=zi HS;have hb0:=zi (show Below wA.heap.size wA wA.drew from bR.drew);simp[zF,yO,zG] at hR;have HQ:=zi (fun W=>Tryz.strconv_FormatBool (k == 1) W);have HR:=zi hR;have HwA:=zi hwA;clear hwA hR hC hx hu h3 H;go_enter func108,ntmps108;go_wp2_with fail;rw[HwA.out];clear a0 a1 a2 a3 a4 cP;have hS:=fun W (h:Cl wA.drew W)=>HS.out W (zf hb0.out h.below)
  refine xt [(0,0),(1,0),(2,0),(3,1),(4,0),(5,1),(6,1),(7,0),(8,0),(9,0),(10,0),(11,0)] ?_;refine xL ?_;clear hS;refine zm fun V1 hV1=>?_
  have hb1:=zi (zf hb0.out hV1.below);clear hV1;obtain⟨c0,c1,c2,c3,c4,cP,cS,cR,cL⟩:=HS.out V1 hb1.out;go_wp2_with fail;refine (HQ.out V1).mono ?_;rintro e w2 ⟨rfl,rfl⟩;go_wp2;go_ret;refine⟨_,rfl,?_,zf hA hb1.out⟩;rw[<-HR.out];by_cases hk1:k=1
  ·subst hk1;rfl
  ·have e:(k == 1)=false:=bfE hk1
   rw[e,if_neg hk1];rfl
theorem zaD(K:Nat)(hK:K=4\/K=5\/K=66\/K=84)(H:yH P nv iv l kv pr n)(i:Nat)(t:List UInt8)(k a:Int)(ks:List Int)(w:World)(hC:kO w P nv iv l kv)(hx:l[i]? =some ⟨K,t,k,ks,a⟩)(ht:t.length<=3000):Calls prog 108 #[.pointer (some ⟨P,0,none⟩),.int .i64 i] w (jL w (zF l pr ⟨K,t,k,ks,a⟩)):=by
 obtain⟨R,hR⟩:=exE (zF l pr ⟨K,t,k,ks,a⟩);rw[hR];obtain⟨KI,hKI⟩:∃KI:Int,(K:Int)=KI:=⟨_,rfl⟩;rcases hK with rfl|rfl|rfl|rfl
 all_goals
  obtain⟨s,r,nc,gN,oN,uc,up,rfl,hx255,⟨hil,hi0⟩,⟨hu,hcap⟩,⟨a0,a1,a2,a3,a4,cP⟩,h3,wA,hwA,hA,HS⟩:=xZ H hC hx (m:=ks.length) rfl (KI:=KI) hKI (lk:= #[.string ⟨#[]⟩,.bool false]) (fun _=>rfl);simp at hKI;subst hKI;replace HS:=zi HS;have hb0:=zi (show Below wA.heap.size wA wA.drew from bR.drew);simp[zF,yO,zG] at hR;have HR:=zi hR;have HwA:=zi hwA;clear hwA hR hC hx hu h3 H;go_enter func108,ntmps108;go_wp2_with fail;rw[HwA.out];clear a0 a1 a2 a3 a4 cP;have hS:=fun W (h:Cl wA.drew W)=>HS.out W (zf hb0.out h.below)
  refine xt [(0,0),(1,0),(2,0),(3,1),(4,0),(5,1),(6,1),(7,0),(8,0),(9,0),(10,0),(11,0)] ?_;refine xL ?_;clear hS;refine zm fun V1 hV1=>?_
  have hb1:=zi (zf hb0.out hV1.below);clear hV1;obtain⟨c0,c1,c2,c3,c4,cP,cS,cR,cL⟩:=HS.out V1 hb1.out;go_wp2;go_ret;exact⟨_,rfl,HR.out,zf hA hb1.out⟩
theorem zjZ(H:yH P nv iv l kv pr n)(i:Nat)(t:List UInt8)(k a:Int)(z0:Nat)(l0:z0<n)(w:World)(hC:kO w P nv iv l kv)(hx:l[i]? =some ⟨7,t,k,[(z0:Int)],a⟩)(ht:t.length<=3000):Calls prog 108 #[.pointer (some ⟨P,0,none⟩),.int .i64 i] w (jL w (zF l pr ⟨7,t,k,[(z0:Int)],a⟩)):=by
 obtain⟨R,hR⟩:=exE (zF l pr ⟨7,t,k,[(z0:Int)],a⟩);rw[hR];obtain⟨s,r,nc,gN,oN,uc,up,rfl,hx255,⟨hil,hi0⟩,⟨hu,hcap⟩,⟨a0,a1,a2,a3,a4,cP⟩,h3,wA,hwA,hA,HS⟩:=xZ H hC hx (m:=1) rfl (KI:=7) rfl (lk:= #[.string ⟨#[]⟩,.bool false]) (fun _=>rfl);obtain⟨g,off,rfl,_,d0⟩:=hu.at (j:=0) (by first|omega|simp);replace HS:=zi (fun W (hb:Below wA.heap.size wA W)=>And.intro (HS W hb) (show W.cell? ⟨g,off,none⟩=some (.int .i64 z0) from zj (zf hA hb) d0));have hb0:=zi (show Below wA.heap.size wA wA.drew from bR.drew);simp[zF,yO,zG] at hR;have HK:=zi (fun W (hb:Below w.heap.size w W)=>Zh H z0 3 W (hC.below hb) l0);have s0:(xD l pr z0 3).length<=3200002:=by have:=yX l pr z0 3;have:=H.len z0 l0;omega
 generalize xD l pr z0 3=ps0 at *;have HR:=zi hR;have HwA:=zi hwA;clear hwA hR hC hx hu h3 H;go_enter func108,ntmps108;go_wp2_with fail;rw[HwA.out];clear a0 a1 a2 a3 a4 cP;have hS:=fun W (h:Cl wA.drew W)=>HS.out W (zf hb0.out h.below)
 refine xt [(0,0),(1,0),(2,0),(3,1),(4,0),(5,1),(6,1),(7,0),(8,0),(9,0),(10,0),(11,0)] ?_;refine xL ?_;clear hS;refine zm fun V1 hV1=>?_
 have hb1:=zi (zf hb0.out hV1.below);clear hV1;obtain⟨⟨c0,c1,c2,c3,c4,cP,cS,cR,cL⟩,x0⟩:=HS.out V1 hb1.out;go_wp2_with fail;refine (HK.out V1 (zf hA hb1.out)).mono ?_;rintro e w2 ⟨b2,rfl,hq2,f2⟩;have zz_2:=xS hq2;replace hq2:=zi hq2;have hb2:=zi (zf hb1.out f2);go_wp2;go_ret;refine⟨_,rfl,?_,zf hA hb2.out⟩;rw[<-HR.out];simp[zv,hq2.out]
end
end
end Go.Proofs.YtcagibbaeageoaaGreatDoor
