/-
  A part of the proof: contracts of functions; no conditions.
-/
import Derived.Test.YtcagibbaeageoaaGreatDoorUE
import Derived.Test.YtcagibbaeageoaaGreatDoorUK
import Derived.MapKept
import Derived.Carry
import Derived.OwnWalk
set_option maxRecDepth 100000
set_option maxHeartbeats 40000000
set_option linter.unusedSimpArgs false
set_option linter.unusedVariables false
namespace Lode
section
open Go Go.RowKit
def Xq:Nat→List (Nat×Value)→List MapEntry
 |_,[]=>[]
 |b,x :: r=>⟨.int .u8 x.1,x.2,b⟩ :: Xq (b+1) r
abbrev uH(l:List (Nat×Value)):Obj:=.map (Xq 0 l).toArray l.length
theorem zb8:∀(l:List (Nat×Value)) (b:Nat),(Xq b l).length=l.length
 |[],_=>rfl
 |_ :: r,b=>by
  simp only[Xq,List.length_cons,zb8 r]
theorem uU:∀(l:List (Nat×Value)) (b:Nat) (x:Nat×Value),Xq b (l ++ [x])=Xq b l ++ [⟨.int .u8 x.1,x.2,b+l.length⟩]
 |[],_,_=>rfl
 |y :: r,b,x=>by
  simp only[List.cons_append,Xq,uU r (b+1) x,List.length_cons];rw[show b+1+r.length=b+(r.length+1) by omega]
theorem vX:∀(l:List (Nat×Value)) (b i k:Nat),(∀x∈l,x.1≠k)→Instr.findNow (.int .u8) (.int .u8 k) (Xq b l) i=some none
 |[],_,_,_,_=>rfl
 |y :: r,b,i,k,h=>by
  have h1:=h y (List.mem_cons_self ..);have e:((k:Int) == (y.1:Int))=false:=bfE (by omega)
  simp only[Xq,Instr.findNow,Instr.sameNow,if_true,e];exact vX r (b+1) (i+1) k (fun x hx=>h x (List.mem_cons_of_mem _ hx))
theorem Y4:∀(l:List (Nat×Value)) (b i k:Nat) (v:Value),(l.find? fun x=>x.1 == k)=some (k,v)→∃j,Instr.findNow (.int .u8) (.int .u8 k) (Xq b l) i=some (some (j,v))
 |[],_,_,_,_,h=>by cases h
 |y :: r,b,i,k,v,h=>by
  by_cases hk:y.1=k
  ·rw[List.find?_cons,show (y.1 == k)=true by simpa using hk] at h;have e:((k:Int) == (y.1:Int))=true:=by rw[beq_iff_eq];omega
   cases h;refine⟨i,?_⟩;simp only[Xq,Instr.findNow,Instr.sameNow,if_true,e]
  ·rw[List.find?_cons,show (y.1 == k)=false by simpa using hk] at h;have e:((k:Int) == (y.1:Int))=false:=bfE (by omega)
   obtain⟨j,hj⟩:=Y4 r (b+1) (i+1) k v h;refine⟨j,?_⟩;simp only[Xq,Instr.findNow,Instr.sameNow,if_true,e];exact hj
section
variable {P:Program} {w:World}
theorem Kv{kt:TypeId}(hk:P.underlying kt=some (.int .u8))(k:Nat)(e:Bool):(Instr.checkKey e 10000 kt (.int .u8 k)).run P w=.ok () w:=Go.MapKept.run_checkKey (d:=.int .u8) hk (by simp[Go.MapKept.IsKey]) _ 9999
theorem Js{t kt et:TypeId}(ht:P.underlying t=some (.map kt et))(hk:P.underlying kt=some (.int .u8)){z:Value}(hz:(zeroValue et).run P w=.ok z w){r:Nat}{l:List (Nat×Value)}(hb:w.heap[r]? =some (uH l))(k:Nat):
 (Instr.lookup t (.map (some r)) (.int .u8 k) true).run P w=.ok (.tuple #[((l.find? fun x=>x.1 == k).map Prod.snd).getD z,.bool (l.find? fun x=>x.1 == k).isSome]) w:=by
 have h1:=fun e=>Kv (P:=P) (w:=w) hk k e
 cases hf:l.find? fun x=>x.1 == k with
 |none=>
  have hn:∀x∈l,x.1≠k:=fun x hx e=>by
   rw[List.find?_eq_none] at hf;exact hf x hx (by simpa using e)
  have h2:=Go.MapKept.run_findKey (w:=w) hk (show Instr.findNow (.int .u8) (.int .u8 k) (Xq 0 l).toArray.toList 0=some none by simpa using vX l 0 0 k hn);simp[Instr.lookup,run_underlying ht,Go.MapKept.run_getObj_map hb,h1,Result.andThen] at h2 ⊢;simp[h2,hz,Result.andThen]
 |some x=>
  obtain⟨kx,v⟩:=x;have hkx:kx=k:=by simpa using List.find?_some hf
  subst hkx;obtain⟨j,hj⟩:=Y4 l 0 0 kx v hf;have h2:=Go.MapKept.run_findKey (w:=w) hk (show Instr.findNow (.int .u8) (.int .u8 kx) (Xq 0 l).toArray.toList 0=some (some (j,v)) by simpa using hj);simp[Instr.lookup,run_underlying ht,Go.MapKept.run_getObj_map hb,h1,Result.andThen] at h2 ⊢;simp[h2]
theorem zhf{t kt et:TypeId}(ht:P.underlying t=some (.map kt et))(hk:P.underlying kt=some (.int .u8)){r:Nat}{l:List (Nat×Value)}(hb:w.heap[r]? =some (uH l))(k:Nat)(v:Value)(hn:∀x∈l,x.1≠k):
 (Instr.mapUpdate t (.map (some r)) (.int .u8 k) v).run P w=.ok () {w with heap:=w.heap.setIfInBounds r (uH (l ++ [(k,v)]))}:=by
 have h1:=fun e=>Kv (P:=P) (w:=w) hk k e
 have h2:=Go.MapKept.run_findKey (w:=w) hk (show Instr.findNow (.int .u8) (.int .u8 k) (Xq 0 l).toArray.toList 0=some none by simpa using vX l 0 0 k hn);have e:uH (l ++ [(k,v)])=.map ((Xq 0 l).toArray.push ⟨.int .u8 k,v,l.length⟩) (l.length+1):=by
  unfold uH;rw[uU];simp
 rw[e];simp[Instr.mapUpdate,run_underlying ht,Go.MapKept.run_getObj_map hb,h1,Result.andThen] at h2 ⊢;simp[h2,Go.MapKept.run_setObj_map _ hb]
theorem zet{t kt et:TypeId}(ht:P.underlying t=some (.map kt et))(hk:P.underlying kt=some (.int .u8)){z:Value}(hz:∀w:World,(zeroValue et).run P w=.ok z w){r:Nat}{l:List (Nat×Value)}(hb:w.heap[r]? =some (uH l))(k:Nat)(hn:∀x∈l,x.1≠k):
 (Instr.mapEntry t (.map (some r)) (.int .u8 k)).run P w=.ok (.tuple #[z,.int .i64 l.length]) {w with heap:=w.heap.setIfInBounds r (uH (l ++ [(k,z)]))}:=by
 have h1:=fun e=>Kv (P:=P) (w:=w) hk k e
 have h2:=Go.MapKept.run_findKey (w:=w) hk (show Instr.findNow (.int .u8) (.int .u8 k) (Xq 0 l).toArray.toList 0=some none by simpa using vX l 0 0 k hn);have e:uH (l ++ [(k,z)])=.map ((Xq 0 l).toArray.push ⟨.int .u8 k,z,l.length⟩) (l.length+1):=by
  unfold uH;rw[uU];simp
 rw[e];simp[Instr.mapEntry,run_underlying ht,Go.MapKept.run_getObj_map hb,h1,Result.andThen] at h2 ⊢;simp[h2,hz,Go.MapKept.run_setObj_map _ hb,Result.andThen,goInt]
theorem JN:∀(l:List (Nat×Value)) (b:Nat) (x:Nat×Value),(Xq b (l ++ [x])).findIdx? (fun e=>(e.born:Int) == ((b+l.length:Nat):Int))=some l.length
 |[],b,x=>by simp[Xq,List.findIdx?_cons]
 |y :: r,b,x=>by
  have ih:=JN r (b+1) x;have e:((b:Int) == ((b+(y :: r).length:Nat):Int))=false:=by
   rw[beq_eq_false_iff_ne,List.length_cons];omega
  rw[List.cons_append];simp only[Xq,List.findIdx?_cons,e];rw[show b+(y :: r).length=b+1+r.length by rw[List.length_cons];omega,ih];simp
theorem Xn{α:Type}(f:α→α)(x:α):∀l:List α,(l ++ [x]).modify l.length f=l ++ [f x]
 |[]=>rfl
 |y :: l=>by
  show y :: (l ++ [x]).modify l.length f=y :: (l ++ [f x])
  rw[Xn f x l]
theorem zes{t:TypeId}{r:Nat}{l:List (Nat×Value)}{z:Value}{k:Nat}(hb:w.heap[r]? =some (uH (l ++ [(k,z)])))(v:Value):
 (Instr.entryStore t (.map (some r)) (.int .i64 l.length) v).run P w=.ok () {w with heap:=w.heap.setIfInBounds r (uH (l ++ [(k,v)]))}:=by
 have hf:=JN l 0 (k,z);rw[Nat.zero_add] at hf;have hf2:(Xq 0 (l ++ [(k,z)])).toArray.findIdx? (fun e=>(e.born:Int) == (l.length:Int))=some l.length:=by
  rw[List.findIdx?_toArray];exact hf
 have e:uH (l ++ [(k,v)])=.map ((Xq 0 (l ++ [(k,z)])).toArray.modify l.length fun e=>{e with val:=v}) (l ++ [(k,z)]).length:=by
  unfold uH;rw[uU,uU];simp only[List.length_append,List.length_singleton];congr 1;apply Array.ext';rw[Array.toList_modify];simp only;have:=Xn (fun e:MapEntry=>{e with val:=v}) ⟨.int .u8 k,z,0+l.length⟩ (Xq 0 l);rw[zb8] at this;exact this.symm
 rw[e];have ha:(asInt (.int .i64 l.length)).run P w=.ok (l.length:Int) w:=rfl;simp only[Instr.entryStore,Sem.run_bind,Go.MapKept.run_getObj_map hb,Result.andThen,ha];rw[hf2];exact Go.MapKept.run_setObj_map _ hb
end
end
end Lode
namespace Go.Proofs.YtcagibbaeageoaaGreatDoor
section
open Go.RowKit Lode Go.Shelf
attribute [local go_sem ↓] Go.wp_at_zero Go.wp_at_succ
open Go.Proofs.Tryz
theorem KZ(k:Nat):(∃(j:Nat) (x:List UInt8×Nat×Int),uI (fun x=>x.2.1 == k) z8=j∧z8[j]? =some x∧(z8.find? fun x=>x.2.1 == k)=some x)∨(uI (fun x=>x.2.1 == k) z8= -1∧(z8.find? fun x=>x.2.1 == k)=none):=XM _ _
theorem XD(b:Nat)(k:Nat)(x0:List UInt8)(x1:Nat)(x2:Int)(w:World)(hq:w.cell? ⟨b,0,none⟩=some (.int .u8 k)):Calls prog 230 #[QO x0 x1 x2,.pointer (some ⟨b,0,none⟩)] w (qe w (.bool (x1 == k))):=by
 unfold QO;have hA:=zg w (.cells #[.string ⟨x0.toArray⟩,.int .u8 x1,.int .i64 x2] 180 (0,0));have hz:=zf (zm w (.cells #[.string ⟨x0.toArray⟩,.int .u8 x1,.int .i64 x2] 180 (0,0))) 1;have hq:=zh hA hq;have e:(x1 == k)=((x1:Int) == (k:Int)):=by rw[Bool.eq_iff_iff];simp;omega
 rw[e];go_enter func230,ntmps230;go_wp2_with fail;go_ret;exact⟨rfl,hA⟩
def ue(k:Nat):Value:=match z8.find? fun x=>x.2.1 == k with
 |some x=>.tuple #[QO x.1 x.2.1 x.2.2,.bool true]
 |none=>.tuple #[QO [] 0 0,.bool false]
theorem xS(k:Nat)(w:World):Calls prog 166 #[.int .u8 k] w (qe w (ue k)):=by
 have hmf:∀(fn:Fn) (first cap:Array Value) (w:World),(Instr.makeFunc fn first cap).run prog w=.ok (.func fn first cap) w:=fun _ _ _ _=>rfl
 have hA:=zg w (.cells #[.int .u8 k] 5 (0,0));have hB:=zd hA (zg (w.alloc (.cells #[.int .u8 k] 5 (0,0))) (.cells #[.string ⟨#[]⟩,.int .u8 0,.int .i64 0] 180 (0,0)));have hs1:=zi (zg (w.alloc (.cells #[.int .u8 k] 5 (0,0))) (.cells #[.string ⟨#[]⟩,.int .u8 0,.int .i64 0] 180 (0,0))) (zm w (.cells #[.int .u8 k] 5 (0,0)));have hr1:=zm (w.alloc (.cells #[.int .u8 k] 5 (0,0))) (.cells #[.string ⟨#[]⟩,.int .u8 0,.int .i64 0] 180 (0,0));rw[show (w.alloc (.cells #[.int .u8 k] 5 (0,0))).heap.size=w.heap.size+1 by simp] at hr1;replace hs1:=zj hs1;replace hr1:=zj hr1;have hwo:=zj (KZ k);go_enter func166,ntmps166;go_wp2_with fail;refine (Yx _).mono ?_;rintro e w2 ⟨g,rfl,hg,hW,hb2⟩;have hB2:=zd hB hb2;have hs2:=zi hb2 hs1.out;have hr2:=zi hb2 hr1.out;have HI:=zj (Qm g 14 14 230 ⟨w.heap.size,0,none⟩ z8 (fun x=>x.2.1 == k) w2 (enters_of (P:=prog) func230 (by kernel_rfl) rfl) rfl (by decide) hW (fun W x hb _=>XD w.heap.size k x.1 x.2.1 x.2.2 W (zh hb (zf hs2 0))));replace hW:=zj hW;replace hs2:=zj hs2;replace hr2:=zj hr2;generalize uI (fun x=>x.2.1 == k) z8=i at *;go_wp2_with fail;refine HI.out.mono ?_;rintro e w3 ⟨rfl,hb3⟩;have hB3:=zd hB2 hb3;have hr3:=zi hb3 hr2.out;rcases hwo.out with⟨j,x,rfl,hx,hw⟩|⟨rfl,hw⟩
 ·have hw:=zj hw;obtain⟨c0,c1,c2⟩:=hW.out.below hb3 j x hx;have hj:j<14:=(gtL hx);have hlt:¬((j:Int)<0):=by omega
  have hlt2:(j:Int)<14:=by omega
  obtain⟨x0,x1,x2⟩:=x;simp only at c0 c1 c2 hw ⊢;have f0:∀j,w3.frozen? ⟨w.heap.size+1,j,none⟩=false:=fun j=>zr hr3 j
  have d0:=zf hr3 0;have d1:=zf hr3 1;have d2:=zf hr3 2;replace hr3:=zj hr3;go_wp2_with fail;have z1:=zw hr3.out 0 (.string ⟨x0.toArray⟩);have z2:=zw z1 1 (.int .u8 x1);have z3:=zw z2 2 (.int .i64 x2);refine bodyPost_ret (v:=.tuple #[.agg #[.string ⟨x0.toArray⟩,.int .u8 x1,.int .i64 x2],.bool true]) (by simp[results,results166,go_sem,zf z3]) rfl ?_;exact⟨by unfold ue;rw[hw.out];rfl,((hB3.setCell (by simp) _).setCell (by simp) _).setCell (by simp) _⟩
 ·have hw:=zj hw;have f0:∀j,w3.frozen? ⟨w.heap.size+1,j,none⟩=false:=fun j=>zr hr3 j
  have d0:=zf hr3 0;have d1:=zf hr3 1;have d2:=zf hr3 2;replace hr3:=zj hr3;go_wp2_with fail;have z1:=zw hr3.out 0 (.string ⟨#[]⟩);have z2:=zw z1 1 (.int .u8 0);have z3:=zw z2 2 (.int .i64 0);refine bodyPost_ret (v:=.tuple #[.agg #[.string ⟨#[]⟩,.int .u8 0,.int .i64 0],.bool false]) (by simp[results,results166,go_sem,zf z3]) rfl ?_;exact⟨by unfold ue;rw[hw.out];rfl,((hB3.setCell (by simp) _).setCell (by simp) _).setCell (by simp) _⟩
theorem za7(s:List UInt8)(w:World)(hs:s.length≤1000000000000):Calls prog 161 #[.string ⟨s.toArray⟩] w (qe w (.string ⟨(xJ s).1.toArray⟩)):=by
 have hQ:=zj (Qi ⟨s.toArray⟩ w hs);simp only at hQ;generalize xJ s=q at *;obtain⟨q1,q2⟩:=q;go_enter func161,ntmps161;go_wp2_with fail;refine hQ.out.mono ?_;rintro e w1 ⟨rfl,hb⟩;go_wp2_with fail;go_ret;exact⟨rfl,hb⟩
theorem VX(s:List UInt8)(w:World)(hs:s.length≤1000000000000)(hG:qy w):Calls prog 66 #[.string ⟨s.toArray⟩] w fun e w'=>e=.returned (.tuple #[.string ⟨(uS s).1.toArray⟩,.int .i64 ((uS s).2:Nat)])∧Below w.heap.size w w':=by
 obtain⟨r,hr⟩:=exE (uS s);rw[hr];unfold uS at hr;have hR:=zj (YU ⟨s.toArray⟩ w hs hG);simp only at hR;generalize kA s=rd at *;obtain⟨l,p,e0⟩:=rd;simp only at hr;by_cases he:e0=0
 ·subst he;rw[if_neg (by simp)] at hr;subst hr;go_enter func66,ntmps66;go_wp2_with fail;refine hR.out.mono ?_;rintro e w1 ⟨v,rfl,_,hb⟩;go_wp2_with fail;go_ret2;exact⟨rfl,hb⟩
 ·have he':((e0:Int) == 0)=false:=bfE (by omega)
  rw[if_pos he] at hr;subst hr;go_enter func66,ntmps66;go_wp2_with fail;refine hR.out.mono ?_;rintro e w1 ⟨v,rfl,_,hb⟩;go_wp2_with fail;go_ret2;exact⟨rfl,hb⟩
def YK:List (Nat×List UInt8):=[(22,[111,114]),(21,[97,110,100]),(14,[61,61]),(15,[33,61]),(16,[60]),(17,[60,61]),(18,[62]),(19,[62,61]),(20,[105,115]),(8,[43]),(9,[45]),(10,[43,43]),(11,[42]),(12,[47]),(13,[37])]
def kQ:List (Nat×Int):=[(22,1),(21,2),(14,4),(15,4),(16,4),(17,4),(18,4),(19,4),(20,4),(8,5),(9,5),(10,5),(11,6),(12,6),(13,6),(7,3),(6,7),(37,7),(38,7),(39,7),(23,8),(24,8)]
def qr:List (Nat×Value):=YK.map fun x=>(x.1,.string ⟨x.2.toArray⟩)
def yL:List (Nat×Value):=kQ.map fun x=>(x.1,.int .i64 x.2)
theorem za4:∀k,k<256→((YK.find? fun x=>x.1 == k).map Prod.snd)=yC k:=by decide +kernel
theorem za5:∀k,k<256→((kQ.find? fun x=>x.1 == k).map Prod.snd).getD 9=(yO k:Nat):=by decide +kernel
structure PrW(w:World)(P:Nat)(nv iv:Value):Prop where
 maps:∃s r,w.heap[P]? =some (.cells #[nv,iv,.map (some s),.map (some r)] 166 (0,0))∧w.heap[s]? =some (uH qr)∧w.heap[r]? =some (uH yL)
theorem PrW.below{w w':World}{P:Nat}{nv iv:Value}(h:PrW w P nv iv)(hb:Below w.heap.size w w'):PrW w' P nv iv:=by
 obtain⟨s,r,h1,h2,h3⟩:=h.maps;exact⟨s,r,zi hb h1,(hb.block _ (gtA h2)).trans h2,(hb.block _ (gtA h3)).trans h3⟩
theorem zaU{W:World}{r:Nat}(hb:W.heap[r]? =some (uH yL))(k:Nat):(Instr.lookup 164 (.map (some r)) (.int .u8 k) true).run prog W=.ok (.tuple #[((yL.find? fun x=>x.1 == k).map Prod.snd).getD (.int .i64 0),.bool (yL.find? fun x=>x.1 == k).isSome]) W:=
 Js (z:=.int .i64 0) underlying164 underlying5 (by kernel_rfl) hb k
theorem Xg(k:Nat):(yL.find? fun x=>x.1 == k)=(kQ.find? fun x=>x.1 == k).map fun x=>(x.1,Value.int .i64 x.2):=by
 unfold yL;rw[List.find?_map];rfl
theorem zd3(l:List Nd)(kv:List Value)(nv iv:Value)(P node:Nat)(x:Nd)(w:World)(hP:PrW w P nv iv)(hN:NS w nv l kv)(hx:l[node]? =some x)(hx255:x.kind≤255):Calls prog 222 #[.pointer (some ⟨P,0,none⟩),.int .i64 node] w (qe w (.int .i64 (yO x.kind:Nat))):=by
 obtain⟨s,r,h1,_,h3⟩:=hP.maps;obtain⟨np,nc,rfl⟩:=hN.form;have hlt:(node:Int)<(l.length:Int):=by have:=(gtL hx);omega
 have h0:¬((node:Int)<0):=by omega
 obtain⟨g,off,u,rfl,hA⟩:=hN.at hx;have a0:=hA.c0;have hrf:=za5 x.kind (by omega);obtain⟨o,ho⟩:=exE (kQ.find? (fun y=>y.1 == x.kind));rw[ho] at hrf;have hlk:=fun (W:World) (hb:W.heap[r]? =some (uH yL))=>zaU hb x.kind
 rw[Xg,ho] at hlk;clear ho;have hS:∀W,Cl w.drew W→W.cell? ⟨P,3,none⟩=some (.map (some r))∧W.cell? ⟨P,0,none⟩=some (.slice (some ⟨g,off,none⟩) l.length nc)∧W.cell? ⟨g,off+node*5,none⟩=some (.int .u8 x.kind)∧(Instr.lookup 164 (.map (some r)) (.int .u8 x.kind) true).run prog W=.ok (.tuple #[((o.map fun x=>(x.1,Value.int .i64 x.2)).map Prod.snd).getD (.int .i64 0),.bool (o.map fun x=>(x.1,Value.int .i64 x.2)).isSome]) W:=fun W h=>by
  have hb:=zd (Below.refl w.heap.size w).drew h.below;exact⟨zf (zi hb h1) 3,zf (zi hb h1) 0,zh hb a0,hlk W ((hb.block _ (gtA h3)).trans h3)⟩
 clear hlk hN hA a0 h1 h3 hP hx;cases o with
 |none=>
  have hrf':(9:Int)=(yO x.kind:Nat):=hrf;rw[←hrf'];simp only[Option.map_none,Option.getD_none,Option.isSome_none] at hS;clear hrf hrf';go_enter func222,ntmps222;go_wp2_with fail;refine zo [(0,0),(1,0),(2,0),(3,1),(4,0),(5,0),(6,0),(7,0),(8,1),(9,0),(10,0),(11,0),(12,1),(13,1),(14,0),(15,0),(16,0),(17,0),(18,0)] (by kernel_rfl) (by kernel_rfl) ?_
  iterate 19 ((first|refine zl rfl (by rfl) (by decide) ?_|(apply zk rfl (by rfl);· (intro w';go_simp;first|done|with_reducible rfl|(rw[if_neg (by first|omega|(simp;omega))];try with_reducible rfl)))|(apply zt hS rfl (by rfl);· (intro w' hw';go_split_ands;go_simp;try with_reducible rfl))|fail);simp only[Act.put,zD,lsZ,lsS])
  refine zu fun W hW=>?_
  go_wp2_with fail;go_ret;exact⟨rfl,zd (Below.refl w.heap.size w).drew hW.below⟩
 |some y=>
  have hrf':y.2=(yO x.kind:Nat):=hrf;rw[←hrf'];simp only[Option.map_some,Option.getD_some,Option.isSome_some] at hS;clear hrf hrf';go_enter func222,ntmps222;go_wp2_with fail;refine zo [(0,0),(1,0),(2,0),(3,1),(4,0),(5,0),(6,0),(7,0),(8,1),(9,0),(10,0),(11,0),(12,1),(13,1),(14,0),(15,0),(16,0),(17,0),(18,0)] (by kernel_rfl) (by kernel_rfl) ?_
  iterate 19 ((first|refine zl rfl (by rfl) (by decide) ?_|(apply zk rfl (by rfl);· (intro w';go_simp;first|done|with_reducible rfl|(rw[if_neg (by first|omega|(simp;omega))];try with_reducible rfl)))|(apply zt hS rfl (by rfl);· (intro w' hw';go_split_ands;go_simp;try with_reducible rfl))|fail);simp only[Act.put,zD,lsZ,lsS])
  refine zu fun W hW=>?_
  go_wp2_with fail;go_ret;exact⟨rfl,zd (Below.refl w.heap.size w).drew hW.below⟩
end
section
open Go.RowKit Lode Go.Shelf
open Go.Proofs.Tryz
theorem Tryz.infoStrP:(prog.info? 9).map (fun i=>(i.zero,i.size,i.bytes))=some (some (.string ⟨#[]⟩),1,16):=by kernel_rfl
theorem zdV{w:World}{base g n cap:Nat}{xs:List Value}(hown:w.ownsRow base 9 1 (.slice (some ⟨g,0,none⟩) n cap) n xs){ad:Addr}{u:Value}(hu:w.cell? ad=some u)(hs:ad.spot=none)(h1:u.oneCell'=true)(hn:n≤1000000)(hbase:base≤w.heap.size)(ty:TypeId):
 ∃g' cap' w',(Builtin.append_ #[133,133] ty #[.slice (some ⟨g,0,none⟩) n cap,.slice (some ad) 1 1]).run prog w=.ok (.slice (some ⟨g',0,none⟩) (n+1) cap') w'∧w'.ownsRow base 9 1 (.slice (some ⟨g',0,none⟩) (n+1) cap') (n+1) (xs ++ [u])∧w.grownBy w' (some g)∧(g'=g∨g'=w.heap.size):=by
 obtain⟨i0,hi,hz0,hz1,hz2⟩:=info_parts Tryz.infoStrP;have hnews:∀j x,[u][j]? =some x→w.cell? (ad.add j)=some x:=fun j x h=>by
  match j,h with
  |0,h=>
   simp at h;subst h;obtain⟨b,o,s⟩:=ad;simp only at hs;subst hs;exact hu
 have h1':∀x∈[u],x.oneCell'=true:=fun x hx=>by rw[List.mem_singleton] at hx;subst hx;exact h1
 obtain⟨v',w',hr,h2,h3,_⟩:=run_append_own (P:=prog) w base 133 ty 9 i0 _ 1 16 underlying133 hi hz0 hz1 hz2 rfl (by decide) _ n xs hown ad 1 1 [u] rfl hnews h1' (by unfold maxLen;omega) (by omega) hbase;have key:∃g' cap',v'=.slice (some ⟨g',0,none⟩) (n+1) cap'∧(g'=g∨g'=w.heap.size):=by
  rcases id hown.2 with⟨h,_⟩|⟨g2,cap2,cur,h,_,hg,hnc,hcm,hcs,htake⟩
  ·simp at h
  ·simp only[Value.slice.injEq,Option.some.injEq,Addr.mk.injEq,and_true,true_and] at h;obtain⟨rfl,rfl⟩:=h;by_cases hroom:n+1≤cap
   ·have hr2:=run_append_room (P:=prog) w 133 ty 9 i0 underlying133 hi g n cap cur hg ad 1 1 [u] (by rw[hz1];rfl) hnews h1' hroom (by rw[hz1,hcs];simp;omega);rw[hr] at hr2;simp only[Result.ok.injEq] at hr2;exact⟨g,cap,hr2.1,.inl rfl⟩
   ·have hr2:=run_append_grow (P:=prog) w 133 ty 9 i0 _ underlying133 hi hz0 ⟨g,0,none⟩ n cap xs (by rw[hz1];exact hown.1) (hown.cells (g:=g) rfl) ad 1 1 [u] (by rw[hz1];rfl) hnews (by omega) (by omega) (growslice_fits (by omega) (by rw[hz2];omega));rw[hr] at hr2;simp only[Result.ok.injEq] at hr2;exact⟨_,_,hr2.1,.inr rfl⟩
 obtain⟨g',cap',rfl,hg'⟩:=key;exact⟨g',cap',w',hr,h2,h3,hg'⟩
theorem zdW{w:World}{base n:Nat}{v:Value}{xs:List Value}(hown:w.ownsRow base 9 1 v n xs){ad:Addr}{u:Value}(hu:w.cell? ad=some u)(hs:ad.spot=none)(h1:u.oneCell'=true)(hn:n≤1000000)(hbase:base≤w.heap.size)(ty:TypeId):
 ∃g' cap' w',(Builtin.append_ #[133,133] ty #[v,.slice (some ad) 1 1]).run prog w=.ok (.slice (some ⟨g',0,none⟩) (n+1) cap') w'∧w'.ownsRow base 9 1 (.slice (some ⟨g',0,none⟩) (n+1) cap') (n+1) (xs ++ [u])∧w.grownBy w' v.ownBlock∧(v.ownBlock=some g'∨g'=w.heap.size):=by
 rcases id hown.2 with⟨rfl,h0⟩|⟨g,cap,cur,rfl,_⟩
 ·obtain⟨i0,hi,hz0,hz1,hz2⟩:=info_parts Tryz.infoStrP;have hnews:∀j x,[u][j]? =some x→w.cell? (ad.add j)=some x:=fun j x h=>by
   match j,h with
   |0,h=>
    simp at h;subst h;obtain⟨b,o,s⟩:=ad;simp only at hs;subst hs;exact hu
  have h1':∀x∈[u],x.oneCell'=true:=fun x hx=>by rw[List.mem_singleton] at hx;subst hx;exact h1
  obtain⟨v',w',hr,h2,h3,_⟩:=run_append_own (P:=prog) w base 133 ty 9 i0 _ 1 16 underlying133 hi hz0 hz1 hz2 rfl (by decide) _ n xs hown ad 1 1 [u] rfl hnews h1' (by unfold maxLen;omega) (by omega) hbase;have hr2:=run_append_nil (P:=prog) w 133 ty 9 i0 _ underlying133 hi hz0 ad 1 1 [u] (by rw[hz1];rfl) hnews (by decide) (by decide) (by rw[hz2];decide);rw[hr] at hr2;simp only[Result.ok.injEq] at hr2;obtain⟨rfl,rfl⟩:=hr2;subst h0;exact⟨_,_,_,hr,h2,h3,.inr rfl⟩
 ·obtain⟨g',cap',w',a,b,c,d⟩:=zdV hown hu hs h1 hn hbase ty;refine⟨g',cap',w',a,b,c,d.imp (fun h=>?_) id⟩;rw[h];rfl
theorem KV{w:World}{ops:Array Oper}{rest:List Oper}{o:Oper}{a:Act}{Q:Exit→Act→World→Prop}(hgd:o.guard=none)(s x:Operand)
 (ho:o.op=.call {callee:=.builtin .append,args:= #[s,x],argTypes:= #[133,133]})
 {base n:Nat} {v:Value} {xs:List Value} (hs:a.eval s=v) (hown:w.ownsRow base 9 1 v n xs) {ad:Addr} {u:Value} (hx:a.eval x=.slice (some ad) 1 1) (hu:w.cell? ad=some u) (hsp:ad.spot=none) (h1:u.oneCell'=true) (hn:n≤1000000) (hbase:base≤w.heap.size)
 (h:∀g' cap' w',w'.ownsRow base 9 1 (.slice (some ⟨g',0,none⟩) (n+1) cap') (n+1) (xs ++ [u])→w.grownBy w' v.ownBlock→(v.ownBlock=some g'∨g'=w.heap.size)→wpList prog ops Q rest (a.put o.dst (.slice (some ⟨g',0,none⟩) (n+1) cap')) w'):wpList prog ops Q (o :: rest) a w:=by
 refine wpList_plain hgd fun K hK=>?_
 obtain⟨g',cap',w',hr,h2,h3,h4⟩:=zdW hown hu hsp h1 hn hbase o.type;unfold Oper.wp;simp[execOp,ho,resolve,invoke,builtin,hs,hx,hr,Result.andThen];exact hK _ _ (h g' cap' w' h2 h3 h4)
end
section
open Go.RowKit Lode Go.Shelf
attribute [local go_sem ↓] Go.wp_at_zero Go.wp_at_succ
open Go.Proofs.Tryz
theorem KS.take{w:World}{g off n cap:Nat}{l:List Int}(h:KS w (.slice (some ⟨g,off,none⟩) n cap) l)(b:Nat)(hb:b≤l.length):KS w (.slice (some ⟨g,off,none⟩) b cap) (l.take b):=by
 have h1:=h.cap;have:=h.sub (cap':=cap) 0 b (Nat.zero_le _) hb (by omega);simpa using this
theorem KS.dropc{w:World}{g off n cap:Nat}{l:List Int}(h:KS w (.slice (some ⟨g,off,none⟩) n cap) l)(a:Nat)(ha:a≤l.length):KS w (.slice (some ⟨g,off+a,none⟩) (n-a) (cap-a)) (l.drop a):=by
 have h1:=h.cap;have:=h.sub (cap':=cap-a) a l.length ha (Nat.le_refl _) (by omega);rw[List.take_length,←h1.1] at this;exact this
def qW(w:World)(l:List UInt8)(e:Ending)(w':World):Prop:=∃b:ByteArray,e=.returned (.string b)∧b.data.toList=l∧Below w.heap.size w w'
theorem zQ{b:ByteArray}{l:List UInt8}(h:b.data.toList=l):b.size=l.length:=by rw[←h];rfl
structure jG(w:World)(P:Nat)(nv iv:Value)(l:List Nd)(kv:List Value):Prop where
 pr:PrW w P nv iv
 ns:NS w nv l kv
 gl:qy w
theorem jG.below{w w':World}{P:Nat}{nv iv:Value}{l:List Nd}{kv:List Value}(h:jG w P nv iv l kv)(hb:Below w.heap.size w w'):jG w' P nv iv l kv:=⟨h.pr.below hb,h.ns.below hb,h.gl.later hb⟩
structure yt(P:Nat)(nv iv:Value)(l:List Nd)(kv:List Value)(pr:Int→List UInt8)(n:Nat):Prop where
 ok:∀(w:World) (i:Nat),i<n→jG w P nv iv l kv→Calls prog 108 #[.pointer (some ⟨P,0,none⟩),.int .i64 i] w (qW w (pr i))
 len:∀i:Nat,i<n→(pr i).length≤3200000
 le:n≤l.length
 kind:∀x∈l,x.kind≤255
section
variable {P:Nat} {nv iv:Value} {l:List Nd} {kv:List Value} {pr:Int→List UInt8} {n:Nat}
theorem ur(H:yt P nv iv l kv pr n)(i least:Nat)(w:World)(hC:jG w P nv iv l kv)(hi:i<n):Calls prog 159 #[.pointer (some ⟨P,0,none⟩),.int .i64 i,.int .i64 least] w (qW w (xr l pr i least)):=by
 obtain⟨x,hx⟩:∃x,l[i]? =some x:=⟨_,glE (Nat.lt_of_lt_of_le hi H.le)⟩;have hka:zK l i=x.kind:=by
  unfold zK;rw[Int.toNat_natCast,hx];rfl
 have hN:=zj (H.ok w i hi hC);have hR:=zj (fun W (hb:Below w.heap.size w W)=>zd3 l kv nv iv P i x W (hC.below hb).pr (hC.below hb).ns hx (H.kind x (List.mem_of_getElem? hx)));have hlen:=H.len i hi;obtain⟨r,hr⟩:=exE (xr l pr i least);rw[hr];unfold xr at hr;rw[hka] at hr;clear hC hx hka;generalize yO x.kind=rk at *;generalize pr i=t at *;have Hr:=zj hr;clear hr H;go_enter func159,ntmps159;go_wp2_with fail;refine hN.out.mono ?_;rintro e w1 ⟨b,rfl,hb,hb1⟩;have hsz:=zQ hb;have HB:=zj hb;have hR2:=zj (hR.out w1 hb1);clear hb;go_wp2_with fail;refine hR2.out.mono ?_;rintro e w2 ⟨rfl,hb2⟩;by_cases hlt:rk<least
 ·have hlt':(rk:Int)<(least:Int):=by omega
  have h:=Hr.out;rw[if_pos hlt] at h;subst h;go_wp2_with fail;go_ret;refine⟨_,rfl,?_,zd hb1 hb2⟩;rw[←HB.out];simp[zx]
 ·have hlt':¬(rk:Int)<(least:Int):=by omega
  have h:=Hr.out;rw[if_neg hlt] at h;subst h;go_wp2_with fail;go_ret;exact⟨_,rfl,HB.out,zd hb1 hb2⟩
def zbW(xs:List ByteArray):List Value:=xs.map Value.string
def zgP(pr:Int→List UInt8)(ks:List Int)(w:World)(out i:Value)(wr:World):Prop:=∃(j:Nat) (xs:List ByteArray),i=.int .i64 j∧j≤ks.length∧wr.ownsRow w.heap.size 9 1 out j (zbW xs)∧xs.map (·.data.toList)=(ks.take j).map pr∧Below w.heap.size w wr
theorem Xr:∀l:List (List UInt8),Go.Lib.join l [44,32]=jT l
 |[]=>rfl
 |[x]=>by simp[Go.Lib.join,jT]
 |x :: y :: r=>by
  have ih:=Xr (y :: r);unfold jT;rw[←ih];simp[Go.Lib.join,List.intercalate,List.intersperse]
theorem uB{ls:List (List UInt8)}{c:Nat}(h:∀x∈ls,x.length≤c):(jT ls).length≤(c+2)*ls.length:=by
 induction ls with
 |nil=>simp[jT]
 |cons x r ih=>
  have h1:=h x (List.mem_cons_self ..);have h2:=ih (fun y hy=>h y (List.mem_cons_of_mem _ hy));cases r with
  |nil=>
   simp only[jT,List.length_cons,List.length_nil];omega
  |cons y r=>
   unfold jT;simp only[List.length_append,List.length_cons,List.length_nil] at h2 ⊢;rw[Nat.mul_add];omega
theorem y8(H:yt P nv iv l kv pr n){ks:List Int}(hks:∀k∈ks,0≤k∧k<(n:Int))(hkl:ks.length≤100000):(qc pr ks).length≤320000200000:=by
 have:=uB (ls:=ks.map pr) (c:=3200000) (fun y hy=>by
  obtain⟨k,hk,rfl⟩:=List.mem_map.1 hy;obtain⟨h0,h1⟩:=hks k hk;obtain⟨kn,rfl⟩:=Int.eq_ofNat_of_zero_le h0;exact H.len kn (by omega))
 rw[List.length_map] at this;unfold qc;omega
theorem jw(H:yt P nv iv l kv pr n)(v:Value)(ks:List Int)(w:World)(hC:jG w P nv iv l kv)(hv:KS w v ks)(hks:∀k∈ks,0≤k∧k<(n:Int))(hkl:ks.length≤100000):Calls prog 163 #[.pointer (some ⟨P,0,none⟩),v] w (qW w (qc pr ks)):=by
 obtain⟨p,cap,rfl⟩:=hv.form;obtain⟨m,hm⟩:=exE (ks.length);rw[hm] at hv hkl ⊢;have Hm:=zj hm;have HV:=zj hv;have HC:=zj hC;have HK:=zj hks;have HH:=zj H;have hst:=zj (show zgP pr ks w (.slice none 0 0) (.int .i64 0) w from ⟨0,[],rfl,Nat.zero_le _,⟨rfl,.inl ⟨rfl,rfl⟩⟩,rfl,Below.refl _ _⟩);clear hm hv hC hks H;go_enter func163,ntmps163;go_wp2_with fail;go_loopw [5,10] (zgP pr ks w) (fun _ i _=>m-(intOf i).toNat)
 case atStart=>exact hst.out
 case round=>
  rename_i out _;obtain⟨j,xs,rfl,hj,hown,hxs,hb⟩:=hrel;rw[Hm.out] at hj;by_cases hlt:j<m
  ·have hlt':(j:Int)<(m:Int):=by omega
   have hj0:¬((j:Int)<0):=by omega
   have hy:=IntWalk.i64_in ((j:Int)+1) (by omega);have hjl:j<ks.length:=by rw[Hm.out];omega
   obtain⟨g2,off2,rfl,_,d0⟩:=(HV.out.below hb).at hjl;have hzz:=HK.out (ks.getD j 0) (by rw[List.getD_eq_getElem?_getD,glE hjl];exact List.getElem_mem hjl);have htk:(ks.take (j+1)).map pr=(ks.take j).map pr ++ [pr (ks.getD j 0)]:=by
    rw[List.take_add_one,glE hjl,List.getD_eq_getElem?_getD,glE hjl,List.map_append];rfl
   generalize ks.getD j 0=z at *;obtain⟨zn,rfl⟩:=Int.eq_ofNat_of_zero_le hzz.1;have hN:=zj (HH.out.ok wr zn (by omega) (HC.out.below hb));have HXS:=zj hxs;have HTK:=zj htk;have hown':=zj hown;clear hxs htk hown hzz;go_wp2_with fail;refine hN.out.mono ?_;rintro e w1 ⟨b,rfl,hbb,hb1⟩;have HB:=zj hbb;have hbw1:=zd hb hb1;have hown2:=zC (zC hown'.out hb1) (zg w1 (.cells #[.string b] 9 (0,0)));have hbA:=zd hbw1 (zg w1 (.cells #[.string b] 9 (0,0)));have hsz:=hbw1.size;clear hbb;go_wp2_with (at_builtin;refine KV rfl _ _ rfl rfl hown2 rfl (zf (zm w1 _) 0) rfl rfl (by omega) (by simp;omega) ?_);intro g' cap' w2 hrow hgrow hg';have hb2:=jl hbA hown2 hgrow;have hrow2:w2.ownsRow w.heap.size 9 1 (.slice (some ⟨g',0,none⟩) (j+1) cap') (j+1) (zbW (xs ++ [b])):=by
    simp only[zbW,List.map_append,List.map_cons,List.map_nil];exact hrow
   replace hrow2:=zj hrow2;clear hrow hgrow hg' hown2;go_wp2_with fail;go_roundw
   case rel=>exact⟨j+1,xs ++ [b],by go_num,by rw[Hm.out];omega,hrow2.out,by rw[List.map_append,HXS.out,HTK.out,List.map_cons,List.map_nil,HB.out],hb2⟩
   case measure=>simp[intOf];omega
  ·have hlt':¬((j:Int)<(m:Int)):=by omega
   have hjm:j=m:=by omega
   have htk:ks.take j=ks:=by rw[hjm,←Hm.out];exact List.take_length
   rw[htk] at hxs;have hxl:xs.length=m:=by
    have:=congrArg List.length hxs;rw[List.length_map,List.length_map,Hm.out] at this;exact this
   have hfin:Go.Lib.join (xs.map (·.data.toList)) [44,32]=qc pr ks:=by
    rw[hxs,Xr];rfl
   have hsmall:(Go.Lib.join (xs.map (·.data.toList)) [44,32]).length≤140737488355328:=by
    rw[hfin];have:=uB (ls:=ks.map pr) (c:=3200000) (fun y hy=>by
     obtain⟨k,hk,rfl⟩:=List.mem_map.1 hy;obtain⟨h0,h1⟩:=HK.out k hk;obtain⟨kn,rfl⟩:=Int.eq_ofNat_of_zero_le h0;exact HH.out.len kn (by omega))
    rw[List.length_map,Hm.out] at this;unfold qc;omega
   have Hfin:=zj hfin;rcases id hown.2 with⟨rfl,h0⟩|⟨g,cap2,cur,rfl,_⟩
   ·have hJ:=zj (Tryz.strings_Join_none none 0 ⟨#[44,32]⟩ wr);have hx0:xs=[]:=List.eq_nil_of_length_eq_zero (by omega);clear hown hxs hfin hsmall;go_wp2_with fail;refine hJ.out.mono ?_;rintro e w3 ⟨rfl,rfl⟩;go_wp2_with fail;go_ret;refine⟨_,rfl,?_,hb⟩;rw[←Hfin.out,hx0];rfl
   ·have hcells:=fun (q:Nat) (x:ByteArray) (hx:xs[q]? =some x)=>(show wr.cell? ⟨g,0+q,none⟩=some (.string x) from by
     rw[Nat.zero_add];have:=hown.cellAt q (by rw[show j*1=j by omega];have:=(gtL hx);omega);rw[this];unfold zbW;rw[List.getElem?_map,hx];rfl)
    have hlt2:=(hown.lt g rfl).2;have hcap:xs.length≤cap2:=by
     obtain⟨_,⟨hv,_⟩|⟨g',cap',cur',hv,_,_,hle,_⟩⟩:=hown
     ·cases hv
     ·cases hv;omega
    have hJ:=Tryz.strings_Join g 0 cap2 xs ⟨#[44,32]⟩ wr hcells hlt2 (by omega) hcap hsmall;rw[hxl] at hJ;have HJ:=zj hJ;subst hjm;clear hown hxs hfin hsmall hJ hcells hxl;go_wp2_with fail;refine HJ.out.mono ?_;rintro e w3 ⟨rfl,hb3⟩;go_wp2_with fail;go_ret;exact⟨_,rfl,Hfin.out,zd hb hb3⟩
theorem ZO(H:yt P nv iv l kv pr n)(v:Value)(ks:List Int)(w:World)(hC:jG w P nv iv l kv)(hv:KS w v ks)(hks:∀k∈ks,0≤k∧k<(n:Int))(hkl:ks.length≤100000):Calls prog 164 #[.pointer (some ⟨P,0,none⟩),v] w (qW w (qi pr ks)):=by
 have hA:=zj (jw H v ks w hC hv hks hkl);obtain⟨p,cap,rfl⟩:=hv.form;have hsm:=uB (ls:=ks.map pr) (c:=3200000) (fun y hy=>by
  obtain⟨k,hk,rfl⟩:=List.mem_map.1 hy;obtain⟨h0,h1⟩:=hks k hk;obtain⟨kn,rfl⟩:=Int.eq_ofNat_of_zero_le h0;exact H.len kn (by omega))
 rw[List.length_map] at hsm;obtain⟨r,hr⟩:=exE (qi pr ks);rw[hr];unfold qi at hr;have Hr:=zj hr;obtain⟨m,hm⟩:=exE (ks.length);rw[hm] at hA hsm hkl ⊢;have Hm:=zj hm;have Hsm:=zj hsm;clear hr hC hv hks H hm hsm;by_cases h0:m=0
 ·subst h0;have hn:ks=[]:=List.eq_nil_of_length_eq_zero Hm.out;have h:=Hr.out;rw[if_pos hn] at h;subst h;go_enter func164,ntmps164;go_wp2_with fail;go_ret;exact⟨_,rfl,rfl,Below.refl _ _⟩
 ·have hn:ks≠[]:=fun e=>h0 (by rw[←Hm.out,e];rfl)
  have h:=Hr.out;rw[if_neg hn] at h;subst h;have h0':((m:Int) == 0)=false:=bfE (by omega)
  go_enter func164,ntmps164;go_wp2_with fail;refine hA.out.mono ?_;rintro e w1 ⟨b,rfl,hb,hb1⟩;have hsz:=zQ hb;unfold qc at hsz;have hsz2:b.size≤3200002*100000:=by have:=Hsm.out;omega
  have HB:=zj hb;clear hb hsz;go_wp2_with fail;go_ret;refine⟨_,rfl,?_,hb1⟩;rw[←HB.out];simp[zx]
theorem zaH(pr:Int→List UInt8)(last:Bool)(k:Int)(r:List Int):xK pr last (k :: r)=pr k ++ (if !r.isEmpty || !last then [59] else []) ++ [32] ++ xK pr last r:=by
 cases r with
 |nil=>cases last <;> simp[xK]
 |cons j r=>simp[xK]
theorem BAt.lat{B b:Nat}{p:Value}{bs:List Value}{w w':World}(h:BAt B b p bs w)(hb:Below w.heap.size w w'):BAt B b p bs w':=by
 obtain⟨hB,v,hbk,hown,hne⟩:=h;exact⟨hB,v,zi hb hbk,zC hown hb,hne⟩
theorem Bd.lat{w0 w w':World}{b:Nat}{ob:ByteArray}(h:Bd w0 b ob w)(hb:Below w.heap.size w w'):Bd w0 b ob w':=⟨h.1.imp (fun h=>BAt.lat h hb) (fun h=>BAt.lat h hb),zd h.2 hb⟩
def zgD(pr:Int→List UInt8)(last:Bool)(ks:List Int)(wB:World)(B:Nat)(i:Value)(wr:World):Prop:=∃(j:Nat) (ob:ByteArray),i=.int .i64 j∧j≤ks.length∧Bd wB B ob wr∧Hid (ob.data.toList ++ xK pr last (ks.drop j)=[123,32] ++ xK pr last ks)∧ob.size≤2+3200002*j
theorem zba(H:yt P nv iv l kv pr n)(x:Nd)(u:Value)(w:World)(hC:jG w P nv iv l kv)(hu:KS w u x.kids)(hks:∀k∈x.kids,0≤k∧k<(n:Int))(hkl:x.kids.length≤100000):Calls prog 165 #[.pointer (some ⟨P,0,none⟩),xI x u] w (qW w (Zb pr x)):=by
 obtain⟨up,uc,rfl⟩:=hu.form;obtain⟨r,hr⟩:=exE (Zb pr x);rw[hr];unfold Zb at hr;unfold xI;obtain⟨x0,x1,x2,ks,x4⟩:=x;simp only at hr hu hks hkl ⊢;obtain⟨m,hm⟩:=exE (ks.length);rw[hm] at hu hkl ⊢;have Hm:=zj hm;have Hr:=zj hr;have HU:=zj hu;have HK:=zj hks;have HC:=zj hC;have HH:=zj H;have hA:=zg w (.cells #[.int .u8 x0,.string ⟨x1.toArray⟩,.int .i64 x2,.slice up m uc,.int .i64 x4] 60 (0,0));have HZ:=zj (zm w (.cells #[.int .u8 x0,.string ⟨x1.toArray⟩,.int .i64 x2,.slice up m uc,.int .i64 x4] 60 (0,0)));clear hm hr hu hks hC H;by_cases h0:m=0
 ·subst h0;have hn:ks=[]:=List.eq_nil_of_length_eq_zero Hm.out;have h:=Hr.out;rw[if_pos hn] at h;subst h;go_enter func165,ntmps165;go_wp2_with fail;go_ret;exact⟨_,rfl,rfl,hA⟩
 have hn:ks≠[]:=fun e=>h0 (by rw[←Hm.out,e];rfl)
 have h:=Hr.out;rw[if_neg hn] at h;subst h;have h0':((m:Int) == 0)=false:=bfE (by omega)
 have hwm:=IntWalk.i64_in ((m:Int)-1) (by omega);obtain⟨wB,hwB⟩:=exE (w.alloc (.cells #[.int .u8 x0,.string ⟨x1.toArray⟩,.int .i64 x2,.slice up m uc,.int .i64 x4] 60 (0,0)));have hszB:wB.heap.size=w.heap.size+1:=by rw[←hwB];simp
 have hbox:∀W,Below wB.heap.size wB W→W.cell? ⟨w.heap.size,2,none⟩=some (.int .i64 x2)∧W.cell? ⟨w.heap.size,3,none⟩=some (.slice up m uc):=fun W hb=>by
  have:=HZ.out;rw[hwB] at this;exact⟨zf (zi hb this) 2,zf (zi hb this) 3⟩
 replace hbox:=zj hbox;rw[hwB] at hA;have hW0:=zj ((Bd.fresh wB (w.heap.size+1) hszB.symm).writeStr ⟨#[123,32]⟩ (by decide));obtain⟨c2,c3⟩:=hbox.out wB bR;rw[←hwB] at c2 c3;have HwB:=zj hwB;have HszB:=zj hszB;clear hwB hszB;go_enter func165,ntmps165;go_wp2_with fail;clear c2 c3;rw[HwB.out];have hszB:=HszB.out;refine hW0.out.mono ?_;rintro e w1 ⟨rfl,hb1⟩;have hst:=zj (show zgD pr (x2 != 0) ks wB (w.heap.size+1) (.int .i64 0) w1 from ⟨0,_,rfl,Nat.zero_le _,hb1,zj (by simp),by decide⟩);obtain⟨c2,c3⟩:=hbox.out w1 hb1.2;clear hW0;go_wp2_with fail;go_loopw [16] (zgD pr (x2 != 0) ks wB (w.heap.size+1)) (fun i _=>m-(intOf i).toNat)
 case atStart=>exact hst.out
 case round=>
  obtain⟨j,ob,rfl,hj,hb,hob,hsz⟩:=hrel;rw[Hm.out] at hj;clear c2 c3;by_cases hlt:j<m
  ·have hlt':(j:Int)<(m:Int):=by omega
   have hj0:¬((j:Int)<0):=by omega
   have hy:=IntWalk.i64_in ((j:Int)+1) (by omega);have hjl:j<ks.length:=by rw[Hm.out];omega
   have hbw:=zd hA hb.2;obtain⟨g2,off2,rfl,_,d0⟩:=(HU.out.below hbw).at hjl;have hzz:=HK.out (ks.getD j 0) (by rw[List.getD_eq_getElem?_getD,glE hjl];exact List.getElem_mem hjl);have hdr:ks.drop j=ks.getD j 0 :: ks.drop (j+1):=by
    rw[List.drop_eq_getElem_cons hjl,List.getD_eq_getElem?_getD,glE hjl];rfl
   have hst2:=hob.out;rw[hdr,zaH] at hst2;generalize ks.getD j 0=z at *;obtain⟨zn,rfl⟩:=Int.eq_ofNat_of_zero_le hzz.1;have hN:=zj (HH.out.ok wr zn (by omega) (HC.out.below hbw));have hnl:=HH.out.len zn (by omega);have HST:=zj hst2;have HB:=zj hb;have hemp:(ks.drop (j+1)).isEmpty=decide (m≤j+1):=by
    rw[Bool.eq_iff_iff,List.isEmpty_iff,decide_eq_true_eq,List.drop_eq_nil_iff,Hm.out]
   rw[hemp] at HST;clear hemp;clear hst2 hdr hzz hb hob;go_wp2_with fail;refine hN.out.mono ?_;rintro e w2 ⟨b,rfl,hbb,hb2⟩;have hbs:=zQ hbb;have hb3:=Bd.lat HB.out hb2;have hW:=zj (hb3.writeStr b (by omega));have HBB:=zj hbb;clear hbb;go_wp2_with fail;refine hW.out.mono ?_;rintro e w3 ⟨rfl,hb4⟩;obtain⟨c2,c3⟩:=hbox.out w3 hb4.2;by_cases hsemi:j+1<m∨x2=0
   ·have hgo:(if !decide (m≤j+1) || !(x2 != 0) then [59] else [])=([59]:List UInt8):=by
     rw[if_pos];rw[Bool.or_eq_true];rcases hsemi with h|h
     ·left;simp;omega
     ·right;simp[h]
    have HST2:=zj (show ob.data.toList ++ (pr zn ++ [59] ++ [32] ++ xK pr (x2 != 0) (ks.drop (j+1)))=[123,32] ++ xK pr (x2 != 0) ks from by have h9:=HST.out;rw[hgo] at h9;exact h9);have hW1:=zj (hb4.write (by rw[ByteArray.size_append];omega) 59);have hfin:∀(w4:World),Bd wB (w.heap.size+1) (ob ++ b ++ ⟨#[59]⟩) w4→Calls prog 227 #[.pointer (some ⟨w.heap.size+1,0,none⟩),.int .u8 ((32:UInt8).toNat:Int)] w4 fun e w'=>e=.returned .nilIface∧Bd wB (w.heap.size+1) (ob ++ b ++ ⟨#[59]⟩ ++ ⟨#[32]⟩) w':=fun w4 h=>h.write (by rw[ByteArray.size_append,ByteArray.size_append];have e1:(⟨#[59]⟩:ByteArray).size=1:=rfl;omega) 32
    replace hfin:=zj hfin;clear hgo HST;by_cases h1:j+1<m
    ·have z1:decide ((j:Int)<(m:Int)-1)=true:=by rw[decide_eq_true_eq];omega
     have z1':(j:Int)<(m:Int)-1:=by omega
     go_wp2_with fail;refine hW1.out.mono ?_;rintro e w4 ⟨rfl,hb5⟩;have hW2:=zj (hfin.out w4 (hb5));go_wp2_with fail;refine hW2.out.mono ?_;rintro e w5 ⟨rfl,hb6⟩;go_wp2_with fail;go_roundw
     case rel=>exact⟨j+1,_,by go_num,by rw[Hm.out];omega,hb6,zj (by rw[zx,zx,zx,HBB.out,←HST2.out];simp),by rw[ByteArray.size_append,ByteArray.size_append,ByteArray.size_append];have e1:(⟨#[59]⟩:ByteArray).size=1:=rfl;have e2:(⟨#[32]⟩:ByteArray).size=1:=rfl;omega⟩
     case measure=>simp[intOf];omega
    ·have hx2:x2=0:=hsemi.resolve_left h1;subst hx2;have z1:decide ((j:Int)<(m:Int)-1)=false:=by rw[decide_eq_false_iff_not];omega
     have z1':¬(j:Int)<(m:Int)-1:=by omega
     go_wp2_with fail;refine hW1.out.mono ?_;rintro e w4 ⟨rfl,hb5⟩;have hW2:=zj (hfin.out w4 (hb5));go_wp2_with fail;refine hW2.out.mono ?_;rintro e w5 ⟨rfl,hb6⟩;go_wp2_with fail;go_roundw
     case rel=>exact⟨j+1,_,by go_num,by rw[Hm.out];omega,hb6,zj (by rw[zx,zx,zx,HBB.out,←HST2.out];simp),by rw[ByteArray.size_append,ByteArray.size_append,ByteArray.size_append];have e1:(⟨#[59]⟩:ByteArray).size=1:=rfl;have e2:(⟨#[32]⟩:ByteArray).size=1:=rfl;omega⟩
     case measure=>simp[intOf];omega
   ·have h1:¬(j+1<m):=fun h=>hsemi (.inl h)
    have hx2:x2≠0:=fun h=>hsemi (.inr h)
    have hgo:(if !decide (m≤j+1) || !(x2 != 0) then [59] else [])=([]:List UInt8):=by
     rw[if_neg];simp only[Bool.or_eq_true,Bool.not_eq_true',decide_eq_false_iff_not,bne_eq_false_iff_eq];intro h;rcases h with h|h
     ·omega
     ·exact hx2 h
    have HST2:=zj (show ob.data.toList ++ (pr zn ++ [] ++ [32] ++ xK pr (x2 != 0) (ks.drop (j+1)))=[123,32] ++ xK pr (x2 != 0) ks from by have h9:=HST.out;rw[hgo] at h9;exact h9);have hW2:=zj (hb4.write (by rw[ByteArray.size_append];omega) 32);clear hgo HST;have z1:decide ((j:Int)<(m:Int)-1)=false:=by rw[decide_eq_false_iff_not];omega
    have z1':¬(j:Int)<(m:Int)-1:=by omega
    have hx2':(x2 == 0)=false:=bfE hx2
    go_wp2_with fail;refine hW2.out.mono ?_;rintro e w5 ⟨rfl,hb6⟩;go_wp2_with fail;go_roundw
    case rel=>exact⟨j+1,_,by go_num,by rw[Hm.out];omega,hb6,zj (by rw[zx,zx,HBB.out,←HST2.out];simp),by rw[ByteArray.size_append,ByteArray.size_append];have e2:(⟨#[32]⟩:ByteArray).size=1:=rfl;omega⟩
    case measure=>simp[intOf];omega
  ·have hlt':¬((j:Int)<(m:Int)):=by omega
   have hjm:j=m:=by omega
   have hdr:ks.drop j=[]:=List.drop_eq_nil_of_le (by rw[Hm.out];omega);have hst2:=hob.out;rw[hdr] at hst2;have HST:=zj hst2;have hW1:=zj (hb.write (by omega) 125);have hfin:∀(w4:World),Bd wB (w.heap.size+1) (ob ++ ⟨#[125]⟩) w4→Calls prog 67 #[.pointer (some ⟨w.heap.size+1,0,none⟩)] w4 fun e w'=>e=.returned (.string (ob ++ ⟨#[125]⟩))∧BdF wB (w.heap.size+1) (ob ++ ⟨#[125]⟩) w':=fun w4 h=>h.str
   replace hfin:=zj hfin;clear hst2 hob hdr hb;go_wp2_with fail;refine hW1.out.mono ?_;rintro e w4 ⟨rfl,hb5⟩;have hS:=zj (hfin.out w4 hb5);go_wp2_with fail;refine hS.out.mono ?_;rintro e w5 ⟨rfl,hb6⟩;go_wp2_with fail;go_ret;refine⟨_,rfl,?_,zd hA hb6.2⟩;rw[zx];have:=HST.out;simp only[xK,List.append_nil] at this;rw[this];rfl
end
variable {P:Nat} {nv iv:Value} {l:List Nd} {kv:List Value} {pr:Int→List UInt8} {n:Nat}
theorem kG(H:yt P nv iv l kv pr n){x:Nd}{wo:Nat}(hks:∀k∈x.kids,0≤k∧k<(n:Int))(hkl:x.kids.length≤100000)(hwo:wo+1≤x.kids.length):(yM pr x wo).length≤320004000000:=by
 unfold yM zI;have h1:=y8 H (ks:=x.kids.take (x.kids.length-1-wo)) (fun k hk=>hks k (List.mem_of_mem_take hk)) (Nat.le_trans (List.length_take_le _ _) (by omega));have hql:x.kids.length-1-wo<x.kids.length:=by omega
 have hmem:x.kids.getD (x.kids.length-1-wo) 0∈x.kids:=by rw[List.getD_eq_getElem?_getD,glE hql];exact List.getElem_mem hql
 obtain⟨h0,h2⟩:=hks _ hmem;generalize x.kids.getD (x.kids.length-1-wo) 0=z at *;obtain⟨z,rfl⟩:=Int.eq_ofNat_of_zero_le h0;have h3:=H.len z (by omega);simp only[List.length_append,List.length_cons,List.length_nil];omega
theorem Zc(H:yt P nv iv l kv pr n)(x:Nd)(u:Value)(wo:Nat)(w:World)(hC:jG w P nv iv l kv)(hu:KS w u x.kids)(hks:∀k∈x.kids,0≤k∧k<(n:Int))(hkl:x.kids.length≤100000)(hwo:wo+1≤x.kids.length):Calls prog 231 #[.pointer (some ⟨P,0,none⟩),xI x u,.int .i64 wo] w (qW w (yM pr x wo)):=by
 obtain⟨up,uc,rfl⟩:=hu.form;obtain⟨R,hR⟩:=exE (yM pr x wo);rw[hR];unfold yM zI at hR;unfold xI;obtain⟨x0,x1,x2,ks,x4⟩:=x;simp only at hR hu hks hkl hwo ⊢;obtain⟨m,hm⟩:=exE (ks.length);obtain⟨q,hq⟩:=exE (m-1-wo);rw[hm] at hR hu hkl hwo ⊢;rw[hq] at hR;have hql:q<ks.length:=by omega
 have hcap:=hu.cap.2;obtain⟨g,off,rfl,_,d0⟩:=hu.at hql;have hmem:ks.getD q 0∈ks:=by rw[List.getD_eq_getElem?_getD,glE hql];exact List.getElem_mem hql
 obtain⟨h0,h1⟩:=hks _ hmem;have hA:=zg w (.cells #[.int .u8 x0,.string ⟨x1.toArray⟩,.int .i64 x2,.slice (some ⟨g,off,none⟩) m uc,.int .i64 x4] 60 (0,0));have hZ:=zm w (.cells #[.int .u8 x0,.string ⟨x1.toArray⟩,.int .i64 x2,.slice (some ⟨g,off,none⟩) m uc,.int .i64 x4] 60 (0,0));generalize hwA:w.alloc (.cells #[.int .u8 x0,.string ⟨x1.toArray⟩,.int .i64 x2,.slice (some ⟨g,off,none⟩) m uc,.int .i64 x4] 60 (0,0))=wA at hA hZ;have hkt:∀k∈ks.take q,0≤k∧k<(n:Int):=fun k hk=>hks k (List.mem_of_mem_take hk)
 have htl:(ks.take q).length≤100000:=Nat.le_trans (List.length_take_le _ _) (by omega);have HL:=zj (fun W (hb:Below wA.heap.size wA W)=>jw H (.slice (some ⟨g,off,none⟩) q uc) (ks.take q) W (hC.below (zd hA hb)) ((KS.take hu q (by omega)).below (zd hA hb)) hkt htl);have sL:=y8 H hkt htl;generalize ks.getD q 0=z at *;obtain⟨z,rfl⟩:=Int.eq_ofNat_of_zero_le h0;have HN:=zj (fun W (hb:Below wA.heap.size wA W)=>H.ok W z (by omega) (hC.below (zd hA hb)));have sN:=H.len z (by omega);have HS:=zj (show ∀W,Below wA.heap.size wA W→W.cell? ⟨w.heap.size,3,none⟩=some (.slice (some ⟨g,off,none⟩) m uc)∧W.cell? ⟨g,off+q,none⟩=some (.int .i64 z) from fun W hb=>⟨zf (zi hb hZ) 3,zh hb (zh hA d0)⟩);have hw1:=IntWalk.i64_in ((m:Int)-1) (by omega);have hw2:IntKind.i64.wrap ((m:Int)-1-(wo:Int))=(q:Int):=by rw[IntWalk.i64_in _ ⟨by omega,by omega⟩];omega
 have hq0:¬((q:Int)<0):=by omega
 have hq1:¬((uc:Int)<(q:Int)):=by omega
 have hq2:(q:Int)<(m:Int):=by omega
 have HR:=zj hR;obtain⟨c3,x0'⟩:=HS.out wA bR;rw[←hwA] at c3 x0';have HwA:=zj hwA;clear hwA;have hb0:=zj (show Below wA.heap.size wA wA.drew from bR.drew);generalize hpz:pr z=pz at *;generalize hpL:qc pr (ks.take q)=pL at *;clear hC hu H hZ hR d0 hks hkt htl hmem hm hq hql;go_enter func231,ntmps231;go_wp2_with fail;rw[HwA.out];clear c3 x0';refine zo [(0,0),(1,0),(2,1),(3,0),(4,0),(8,0),(9,0),(10,1),(11,0),(12,0),(13,1),(5,2),(6,0),(7,0),(14,2),(15,0),(16,0)] (by kernel_rfl) (by kernel_rfl) ?_;have hS:=fun W (h:Cl wA.drew W)=>HS.out W (zd bR.drew h.below)
 iterate 11 ((first|refine zl rfl (by rfl) (by decide) ?_|(apply zk rfl (by rfl);· (intro w';go_simp;first|done|with_reducible rfl|(rw[if_neg (by first|omega|(simp;omega))];try with_reducible rfl)))|(apply zt hS rfl (by rfl);· (intro w' hw';go_split_ands;go_simp;try with_reducible rfl))|fail);simp only[Act.put,zD,lsZ,lsS])
 clear hS;refine zq rfl (by rfl) (fun K hK V hV=>?_);have hbV:=zd hb0.out hV.below;go_simp;refine (HL.out V hbV).mono ?_;rintro e w1 ⟨b1,rfl,hq1,f1⟩;have zz_1:=zQ hq1;replace hq1:=zj hq1;have hb1:=zj (zd hbV f1);go_simp;refine⟨zV.2 f1,hK _ _ ?_⟩;clear hK K hbV hV
 try simp only[Act.put,zD,lsZ,lsS]
 iterate 2 ((first|refine zl rfl (by rfl) (by decide) ?_|(apply zk rfl (by rfl);· (intro w';go_simp;first|done|with_reducible rfl|(rw[if_neg (by first|omega|(simp;omega))];try with_reducible rfl)))|fail);simp only[Act.put,zD,lsZ,lsS])
 refine zq rfl (by rfl) (fun K hK V hV=>?_);have hbV:=zd hb1.out hV.below;go_simp;refine (HN.out V hbV).mono ?_;rintro e w2 ⟨b2,rfl,hq2,f2⟩;have zz_2:=zQ hq2;replace hq2:=zj hq2;have hb2:=zj (zd hbV f2);go_simp;refine⟨zV.2 f2,hK _ _ ?_⟩;clear hK K hbV hV
 try simp only[Act.put,zD,lsZ,lsS]
 iterate 2 ((first|refine zl rfl (by rfl) (by decide) ?_|(apply zk rfl (by rfl);· (intro w';go_simp;first|done|with_reducible rfl|(rw[if_neg (by first|omega|(simp;omega))];try with_reducible rfl)))|fail);simp only[Act.put,zD,lsZ,lsS])
 refine zu fun W hW=>?_
 have hbW:=zj (zd hA (zd hb2.out hW.below));clear hW;go_wp2_with fail;go_ret;refine⟨_,rfl,?_,hbW.out⟩;rw[←HR.out];simp[zx,hq1.out,hq2.out]
section
variable {P:Nat} {nv iv:Value} {l:List Nd} {kv:List Value} {pr:Int→List UInt8} {n:Nat}
theorem jo(H:yt P nv iv l kv pr n){w wA:World}(hC:jG w P nv iv l kv)(hA:Below w.heap.size w wA){i:Nat}(hi:i<n):∀W,Below wA.heap.size wA W→Calls prog 108 #[.pointer (some ⟨P,0,none⟩),.int .i64 i] W (qW W (pr i)):=fun W hb=>H.ok W i hi (hC.below (zd hA hb))
abbrev ze4(W w:World)(K:Int)(t:List UInt8)(k:Int)(g off uc:Nat)(z0:Nat):Prop:=W.cell? ⟨w.heap.size,0,none⟩=some (.int .u8 K)∧W.cell? ⟨w.heap.size,1,none⟩=some (.string ⟨t.toArray⟩)∧W.cell? ⟨w.heap.size,2,none⟩=some (.int .i64 k)∧W.cell? ⟨w.heap.size,3,none⟩=some (.slice (some ⟨g,off,none⟩) 1 uc)∧W.cell? ⟨g,off,none⟩=some (.int .i64 z0)
theorem vZ{w:World}{u:Value}{z0:Nat}(hu:KS w u [(z0:Int)])(K:Int)(t:List UInt8)(k a:Int):∃(g off uc:Nat) (wA:World),u=.slice (some ⟨g,off,none⟩) 1 uc∧KS w (.slice (some ⟨g,off,none⟩) 1 uc) [(z0:Int)]∧1≤uc∧w.alloc (.cells #[.int .u8 K,.string ⟨t.toArray⟩,.int .i64 k,.slice (some ⟨g,off,none⟩) 1 uc,.int .i64 a] 60 (0,0))=wA∧Below w.heap.size w wA∧ze4 (w.alloc (.cells #[.int .u8 K,.string ⟨t.toArray⟩,.int .i64 k,.slice (some ⟨g,off,none⟩) 1 uc,.int .i64 a] 60 (0,0))) w K t k g off uc z0∧∀W,Below wA.heap.size wA W→ze4 W w K t k g off uc z0:=by
 obtain⟨up,uc,rfl⟩:=hu.form;have hu:KS w (.slice up 1 uc) [(z0:Int)]:=hu;obtain⟨g,off,rfl,_,d0⟩:=hu.at (j:=0) (by simp);replace d0:w.cell? ⟨g,off,none⟩=some (.int .i64 z0):=d0;have hA:=zg w (.cells #[.int .u8 K,.string ⟨t.toArray⟩,.int .i64 k,.slice (some ⟨g,off,none⟩) 1 uc,.int .i64 a] 60 (0,0));have hZ:=zm w (.cells #[.int .u8 K,.string ⟨t.toArray⟩,.int .i64 k,.slice (some ⟨g,off,none⟩) 1 uc,.int .i64 a] 60 (0,0));have HS:∀W,Below (w.alloc (.cells #[.int .u8 K,.string ⟨t.toArray⟩,.int .i64 k,.slice (some ⟨g,off,none⟩) 1 uc,.int .i64 a] 60 (0,0))).heap.size (w.alloc (.cells #[.int .u8 K,.string ⟨t.toArray⟩,.int .i64 k,.slice (some ⟨g,off,none⟩) 1 uc,.int .i64 a] 60 (0,0))) W→ze4 W w K t k g off uc z0:=fun W hb=>⟨zf (zi hb hZ) 0,zf (zi hb hZ) 1,zf (zi hb hZ) 2,zf (zi hb hZ) 3,zh hb (zh hA d0)⟩
 exact⟨g,off,uc,_,rfl,hu,hu.cap.2,rfl,hA,HS _ bR,HS⟩
abbrev ze3(W w:World)(K:Int)(t:List UInt8)(k:Int)(g off uc:Nat)(z0 z1:Nat):Prop:=W.cell? ⟨w.heap.size,0,none⟩=some (.int .u8 K)∧W.cell? ⟨w.heap.size,1,none⟩=some (.string ⟨t.toArray⟩)∧W.cell? ⟨w.heap.size,2,none⟩=some (.int .i64 k)∧W.cell? ⟨w.heap.size,3,none⟩=some (.slice (some ⟨g,off,none⟩) 2 uc)∧W.cell? ⟨g,off,none⟩=some (.int .i64 z0)∧W.cell? ⟨g,off+1,none⟩=some (.int .i64 z1)
theorem kX{w:World}{u:Value}{z0 z1:Nat}(hu:KS w u [(z0:Int),(z1:Int)])(K:Int)(t:List UInt8)(k a:Int):∃(g off uc:Nat) (wA:World),u=.slice (some ⟨g,off,none⟩) 2 uc∧KS w (.slice (some ⟨g,off,none⟩) 2 uc) [(z0:Int),(z1:Int)]∧2≤uc∧w.alloc (.cells #[.int .u8 K,.string ⟨t.toArray⟩,.int .i64 k,.slice (some ⟨g,off,none⟩) 2 uc,.int .i64 a] 60 (0,0))=wA∧Below w.heap.size w wA∧ze3 (w.alloc (.cells #[.int .u8 K,.string ⟨t.toArray⟩,.int .i64 k,.slice (some ⟨g,off,none⟩) 2 uc,.int .i64 a] 60 (0,0))) w K t k g off uc z0 z1∧∀W,Below wA.heap.size wA W→ze3 W w K t k g off uc z0 z1:=by
 obtain⟨up,uc,rfl⟩:=hu.form;have hu:KS w (.slice up 2 uc) [(z0:Int),(z1:Int)]:=hu;obtain⟨g,off,rfl,_,d0⟩:=hu.at (j:=0) (by simp);obtain⟨g',off',e1,_,d1⟩:=hu.at (j:=1) (by simp);cases e1;replace d0:w.cell? ⟨g,off,none⟩=some (.int .i64 z0):=d0;replace d1:w.cell? ⟨g,off+1,none⟩=some (.int .i64 z1):=d1;have hA:=zg w (.cells #[.int .u8 K,.string ⟨t.toArray⟩,.int .i64 k,.slice (some ⟨g,off,none⟩) 2 uc,.int .i64 a] 60 (0,0));have hZ:=zm w (.cells #[.int .u8 K,.string ⟨t.toArray⟩,.int .i64 k,.slice (some ⟨g,off,none⟩) 2 uc,.int .i64 a] 60 (0,0));have HS:∀W,Below (w.alloc (.cells #[.int .u8 K,.string ⟨t.toArray⟩,.int .i64 k,.slice (some ⟨g,off,none⟩) 2 uc,.int .i64 a] 60 (0,0))).heap.size (w.alloc (.cells #[.int .u8 K,.string ⟨t.toArray⟩,.int .i64 k,.slice (some ⟨g,off,none⟩) 2 uc,.int .i64 a] 60 (0,0))) W→ze3 W w K t k g off uc z0 z1:=fun W hb=>⟨zf (zi hb hZ) 0,zf (zi hb hZ) 1,zf (zi hb hZ) 2,zf (zi hb hZ) 3,zh hb (zh hA d0),zh hb (zh hA d1)⟩
 exact⟨g,off,uc,_,rfl,hu,hu.cap.2,rfl,hA,HS _ bR,HS⟩
abbrev ze2(W w:World)(K:Int)(t:List UInt8)(k:Int)(g off uc:Nat)(z0 z1 z2:Nat):Prop:=W.cell? ⟨w.heap.size,0,none⟩=some (.int .u8 K)∧W.cell? ⟨w.heap.size,1,none⟩=some (.string ⟨t.toArray⟩)∧W.cell? ⟨w.heap.size,2,none⟩=some (.int .i64 k)∧W.cell? ⟨w.heap.size,3,none⟩=some (.slice (some ⟨g,off,none⟩) 3 uc)∧W.cell? ⟨g,off,none⟩=some (.int .i64 z0)∧W.cell? ⟨g,off+1,none⟩=some (.int .i64 z1)∧W.cell? ⟨g,off+2,none⟩=some (.int .i64 z2)
theorem QA{w:World}{u:Value}{z0 z1 z2:Nat}(hu:KS w u [(z0:Int),(z1:Int),(z2:Int)])(K:Int)(t:List UInt8)(k a:Int):∃(g off uc:Nat) (wA:World),u=.slice (some ⟨g,off,none⟩) 3 uc∧KS w (.slice (some ⟨g,off,none⟩) 3 uc) [(z0:Int),(z1:Int),(z2:Int)]∧3≤uc∧w.alloc (.cells #[.int .u8 K,.string ⟨t.toArray⟩,.int .i64 k,.slice (some ⟨g,off,none⟩) 3 uc,.int .i64 a] 60 (0,0))=wA∧Below w.heap.size w wA∧ze2 (w.alloc (.cells #[.int .u8 K,.string ⟨t.toArray⟩,.int .i64 k,.slice (some ⟨g,off,none⟩) 3 uc,.int .i64 a] 60 (0,0))) w K t k g off uc z0 z1 z2∧∀W,Below wA.heap.size wA W→ze2 W w K t k g off uc z0 z1 z2:=by
 obtain⟨up,uc,rfl⟩:=hu.form;have hu:KS w (.slice up 3 uc) [(z0:Int),(z1:Int),(z2:Int)]:=hu;obtain⟨g,off,rfl,_,d0⟩:=hu.at (j:=0) (by simp);obtain⟨g',off',e1,_,d1⟩:=hu.at (j:=1) (by simp);cases e1;obtain⟨g',off',e2,_,d2⟩:=hu.at (j:=2) (by simp);cases e2;replace d0:w.cell? ⟨g,off,none⟩=some (.int .i64 z0):=d0;replace d1:w.cell? ⟨g,off+1,none⟩=some (.int .i64 z1):=d1;replace d2:w.cell? ⟨g,off+2,none⟩=some (.int .i64 z2):=d2;have hA:=zg w (.cells #[.int .u8 K,.string ⟨t.toArray⟩,.int .i64 k,.slice (some ⟨g,off,none⟩) 3 uc,.int .i64 a] 60 (0,0));have hZ:=zm w (.cells #[.int .u8 K,.string ⟨t.toArray⟩,.int .i64 k,.slice (some ⟨g,off,none⟩) 3 uc,.int .i64 a] 60 (0,0));have HS:∀W,Below (w.alloc (.cells #[.int .u8 K,.string ⟨t.toArray⟩,.int .i64 k,.slice (some ⟨g,off,none⟩) 3 uc,.int .i64 a] 60 (0,0))).heap.size (w.alloc (.cells #[.int .u8 K,.string ⟨t.toArray⟩,.int .i64 k,.slice (some ⟨g,off,none⟩) 3 uc,.int .i64 a] 60 (0,0))) W→ze2 W w K t k g off uc z0 z1 z2:=fun W hb=>⟨zf (zi hb hZ) 0,zf (zi hb hZ) 1,zf (zi hb hZ) 2,zf (zi hb hZ) 3,zh hb (zh hA d0),zh hb (zh hA d1),zh hb (zh hA d2)⟩
 exact⟨g,off,uc,_,rfl,hu,hu.cap.2,rfl,hA,HS _ bR,HS⟩
abbrev zhD(W w:World)(K:Int)(t:List UInt8)(k a:Int)(g off m uc:Nat):Prop:=W.cell? ⟨w.heap.size,0,none⟩=some (.int .u8 K)∧W.cell? ⟨w.heap.size,1,none⟩=some (.string ⟨t.toArray⟩)∧W.cell? ⟨w.heap.size,2,none⟩=some (.int .i64 k)∧W.cell? ⟨w.heap.size,3,none⟩=some (.slice (some ⟨g,off,none⟩) m uc)∧W.cell? ⟨w.heap.size,4,none⟩=some (.int .i64 a)
theorem ko{w:World}{u:Value}{ks:List Int}(hu:KS w u ks)(h1:1≤ks.length)(K:Int)(t:List UInt8)(k a:Int):∃(m g off uc:Nat) (wA:World),u=.slice (some ⟨g,off,none⟩) m uc∧ks.length=m∧KS w (.slice (some ⟨g,off,none⟩) m uc) ks∧m≤uc∧w.alloc (.cells #[.int .u8 K,.string ⟨t.toArray⟩,.int .i64 k,.slice (some ⟨g,off,none⟩) m uc,.int .i64 a] 60 (0,0))=wA∧Below w.heap.size w wA∧zhD (w.alloc (.cells #[.int .u8 K,.string ⟨t.toArray⟩,.int .i64 k,.slice (some ⟨g,off,none⟩) m uc,.int .i64 a] 60 (0,0))) w K t k a g off m uc∧∀W,Below wA.heap.size wA W→zhD W w K t k a g off m uc:=by
 obtain⟨up,uc,rfl⟩:=hu.form;obtain⟨g,off,rfl,_,d0⟩:=hu.at (j:=0) (by omega);have hA:=zg w (.cells #[.int .u8 K,.string ⟨t.toArray⟩,.int .i64 k,.slice (some ⟨g,off,none⟩) ks.length uc,.int .i64 a] 60 (0,0));have hZ:=zm w (.cells #[.int .u8 K,.string ⟨t.toArray⟩,.int .i64 k,.slice (some ⟨g,off,none⟩) ks.length uc,.int .i64 a] 60 (0,0));have HS:∀W,Below (w.alloc (.cells #[.int .u8 K,.string ⟨t.toArray⟩,.int .i64 k,.slice (some ⟨g,off,none⟩) ks.length uc,.int .i64 a] 60 (0,0))).heap.size (w.alloc (.cells #[.int .u8 K,.string ⟨t.toArray⟩,.int .i64 k,.slice (some ⟨g,off,none⟩) ks.length uc,.int .i64 a] 60 (0,0))) W→zhD W w K t k a g off ks.length uc:=fun W hb=>⟨zf (zi hb hZ) 0,zf (zi hb hZ) 1,zf (zi hb hZ) 2,zf (zi hb hZ) 3,zf (zi hb hZ) 4⟩
 exact⟨_,g,off,uc,_,rfl,rfl,hu,hu.cap.2,rfl,hA,HS _ bR,HS⟩
theorem zfV{w:World}{g off m uc n:Nat}{ks:List Int}(hu:KS w (.slice (some ⟨g,off,none⟩) m uc) ks)(hm:ks.length=m)(hks:∀k∈ks,0≤k∧k<(n:Int)){j:Nat}(hj:j<m):∃z:Nat,ks[j]?.getD 0=(z:Int)∧z<n∧w.cell? ⟨g,off+j,none⟩=some (.int .i64 z):=by
 obtain⟨g',off',e,_,d⟩:=hu.at (j:=j) (by omega);cases e;have hmm:ks.getD j 0∈ks:=by rw[List.getD_eq_getElem?_getD,glE (by omega)];exact List.getElem_mem _
 obtain⟨z,hz⟩:=Int.eq_ofNat_of_zero_le (hks _ hmm).1;rw[hz] at d;exact⟨z,by rw[←List.getD_eq_getElem?_getD];exact hz,by have:=(hks _ hmm).2;omega,d⟩
theorem zbX(K:Nat)(hK:K=60∨K=61)(H:yt P nv iv l kv pr n)(t:List UInt8)(k a:Int)(z0:Nat)(u:Value)(w:World)(hC:jG w P nv iv l kv)(hu:KS w u [(z0:Int)])(l0:z0<n)(ht:t.length≤3000):Calls prog 167 #[.pointer (some ⟨P,0,none⟩),xI ⟨K,t,k,[(z0:Int)],a⟩ u] w (qW w (xq pr ⟨K,t,k,[(z0:Int)],a⟩)):=by
 unfold xI;obtain⟨KI,hKI⟩:∃KI:Int,(K:Int)=KI:=⟨_,rfl⟩;obtain⟨g,off,uc,wA,rfl,hu,hcap,hwA,hA,⟨c0,c1,c2,c3,x0⟩,HS⟩:=vZ hu KI t k a;replace HS:=zj HS;have HN0:=zj (jo H hC hA l0);have s0:=H.len z0 l0;obtain⟨R,hR⟩:=exE (xq pr ⟨K,t,k,[(z0:Int)],a⟩);rw[hR];rcases hK with rfl|rfl
 all_goals
  simp at hKI;subst hKI;simp[xq,zI,yM] at hR;have HR:=zj hR;have hh0:=zj (Below.refl wA.heap.size wA);generalize hp0:pr z0=p0 at *;clear hC hu H hR;have HwA:=zj hwA;clear hwA;go_enter func167,ntmps167;go_wp2_with fail;rw[HwA.out];refine zo [(0,0),(1,1),(2,0),(3,0),(4,0),(5,0),(6,1),(7,0),(8,1),(9,2),(10,0),(11,0)] (by kernel_rfl) (by kernel_rfl) ?_;have hS:=fun W (h:Cl wA.drew W)=>HS.out W (zd bR.drew h.below)
  have hb0:=zj (show Below wA.heap.size wA wA.drew from bR.drew)
  iterate 9 ((first|refine zl rfl (by rfl) (by decide) ?_|(apply zk rfl (by rfl);· (intro w';go_simp;first|done|with_reducible rfl|(rw[if_neg (by first|omega|(simp;omega))];try with_reducible rfl)))|(apply zt hS rfl (by rfl);· (intro w' hw';go_split_ands;go_simp;try with_reducible rfl))|fail);simp only[Act.put,zD,lsZ,lsS])
  clear hS;refine zq rfl (by rfl) (fun K hK V hV=>?_);have hbV:=zd hb0.out hV.below;go_simp;refine (HN0.out V hbV).mono ?_;rintro e w1 ⟨b1,rfl,hq1,f1⟩;have zz_1:=zQ hq1;replace hq1:=zj hq1;have hb1:=zj (zd hbV f1);go_simp;refine⟨zV.2 f1,hK _ _ ?_⟩;clear hK K hbV hV
  try simp only[Act.put,zD,lsZ,lsS]
  iterate 2 ((first|refine zl rfl (by rfl) (by decide) ?_|(apply zk rfl (by rfl);· (intro w';go_simp;first|done|with_reducible rfl|(rw[if_neg (by first|omega|(simp;omega))];try with_reducible rfl)))|fail);simp only[Act.put,zD,lsZ,lsS])
  refine zu fun W hW=>?_
  have hbW:=zj (zd hA (zd hb1.out hW.below));clear hW;go_wp2_with fail;go_ret;refine⟨_,rfl,?_,hbW.out⟩;rw[←HR.out];simp[zx,hq1.out]
theorem zfu(H:yt P nv iv l kv pr n)(t:List UInt8)(k a:Int)(z0 z1:Nat)(u:Value)(w:World)(hC:jG w P nv iv l kv)(hu:KS w u [(z0:Int),(z1:Int)])(l0:z0<n)(l1:z1<n)(ht:t.length≤3000):Calls prog 167 #[.pointer (some ⟨P,0,none⟩),xI ⟨62,t,k,[(z0:Int),(z1:Int)],a⟩ u] w (qW w (xq pr ⟨62,t,k,[(z0:Int),(z1:Int)],a⟩)):=by
 unfold xI;obtain⟨g,off,uc,wA,rfl,hu,hcap,hwA,hA,⟨c0,c1,c2,c3,x0,x1⟩,HS⟩:=kX hu 62 t k a;replace HS:=zj HS;have HN0:=zj (jo H hC hA l0);have s0:=H.len z0 l0;have HN1:=zj (jo H hC hA l1);have s1:=H.len z1 l1;obtain⟨R,hR⟩:=exE (xq pr ⟨62,t,k,[(z0:Int),(z1:Int)],a⟩);rw[hR];simp[xq,zI,yM] at hR;have HR:=zj hR;have hh0:=zj (Below.refl wA.heap.size wA);generalize hp0:pr z0=p0 at *;generalize hp1:pr z1=p1 at *;clear hC hu H hR;have HwA:=zj hwA;clear hwA;go_enter func167,ntmps167;go_wp2_with fail;rw[HwA.out];refine zo [(0,0),(1,0),(2,1),(3,0),(4,1),(7,0),(8,0),(9,1),(10,0),(11,1),(5,2),(6,0),(12,2),(13,0),(14,0)] (by kernel_rfl) (by kernel_rfl) ?_;have hS:=fun W (h:Cl wA.drew W)=>HS.out W (zd bR.drew h.below)
 have hb0:=zj (show Below wA.heap.size wA wA.drew from bR.drew)
 iterate 10 ((first|refine zl rfl (by rfl) (by decide) ?_|(apply zk rfl (by rfl);· (intro w';go_simp;first|done|with_reducible rfl|(rw[if_neg (by first|omega|(simp;omega))];try with_reducible rfl)))|(apply zt hS rfl (by rfl);· (intro w' hw';go_split_ands;go_simp;try with_reducible rfl))|fail);simp only[Act.put,zD,lsZ,lsS])
 clear hS;refine zq rfl (by rfl) (fun K hK V hV=>?_);have hbV:=zd hb0.out hV.below;go_simp;refine (HN0.out V hbV).mono ?_;rintro e w1 ⟨b1,rfl,hq1,f1⟩;have zz_1:=zQ hq1;replace hq1:=zj hq1;have hb1:=zj (zd hbV f1);go_simp;refine⟨zV.2 f1,hK _ _ ?_⟩;clear hK K hbV hV
 try simp only[Act.put,zD,lsZ,lsS]
 iterate 1 ((first|refine zl rfl (by rfl) (by decide) ?_|(apply zk rfl (by rfl);· (intro w';go_simp;first|done|with_reducible rfl|(rw[if_neg (by first|omega|(simp;omega))];try with_reducible rfl)))|fail);simp only[Act.put,zD,lsZ,lsS])
 refine zq rfl (by rfl) (fun K hK V hV=>?_);have hbV:=zd hb1.out hV.below;go_simp;refine (HN1.out V hbV).mono ?_;rintro e w2 ⟨b2,rfl,hq2,f2⟩;have zz_2:=zQ hq2;replace hq2:=zj hq2;have hb2:=zj (zd hbV f2);go_simp;refine⟨zV.2 f2,hK _ _ ?_⟩;clear hK K hbV hV
 try simp only[Act.put,zD,lsZ,lsS]
 iterate 2 ((first|refine zl rfl (by rfl) (by decide) ?_|(apply zk rfl (by rfl);· (intro w';go_simp;first|done|with_reducible rfl|(rw[if_neg (by first|omega|(simp;omega))];try with_reducible rfl)))|fail);simp only[Act.put,zD,lsZ,lsS])
 refine zu fun W hW=>?_
 have hbW:=zj (zd hA (zd hb2.out hW.below));clear hW;go_wp2_with fail;go_ret;refine⟨_,rfl,?_,hbW.out⟩;rw[←HR.out];simp[zx,hq1.out,hq2.out]
theorem zft(H:yt P nv iv l kv pr n)(t:List UInt8)(k a:Int)(z0 z1:Nat)(u:Value)(w:World)(hC:jG w P nv iv l kv)(hu:KS w u [(z0:Int),(z1:Int)])(l0:z0<n)(l1:z1<n)(ht:t.length≤3000):Calls prog 167 #[.pointer (some ⟨P,0,none⟩),xI ⟨63,t,k,[(z0:Int),(z1:Int)],a⟩ u] w (qW w (xq pr ⟨63,t,k,[(z0:Int),(z1:Int)],a⟩)):=by
 unfold xI;obtain⟨g,off,uc,wA,rfl,hu,hcap,hwA,hA,⟨c0,c1,c2,c3,x0,x1⟩,HS⟩:=kX hu 63 t k a;replace HS:=zj HS;have HN0:=zj (jo H hC hA l0);have s0:=H.len z0 l0;have HN1:=zj (jo H hC hA l1);have s1:=H.len z1 l1;obtain⟨R,hR⟩:=exE (xq pr ⟨63,t,k,[(z0:Int),(z1:Int)],a⟩);rw[hR];simp[xq,zI,yM] at hR;have HR:=zj hR;have hh0:=zj (Below.refl wA.heap.size wA);generalize hp0:pr z0=p0 at *;generalize hp1:pr z1=p1 at *;clear hC hu H hR;have HwA:=zj hwA;clear hwA;go_enter func167,ntmps167;go_wp2_with fail;rw[HwA.out];refine zo [(0,0),(1,0),(2,1),(3,0),(4,1),(8,0),(9,1),(12,0),(13,0),(14,1),(15,0),(16,1),(5,2),(6,0),(7,0),(10,0),(11,0),(17,2),(18,0),(19,0)] (by kernel_rfl) (by kernel_rfl) ?_;have hS:=fun W (h:Cl wA.drew W)=>HS.out W (zd bR.drew h.below)
 have hb0:=zj (show Below wA.heap.size wA wA.drew from bR.drew)
 iterate 12 ((first|refine zl rfl (by rfl) (by decide) ?_|(apply zk rfl (by rfl);· (intro w';go_simp;first|done|with_reducible rfl|(rw[if_neg (by first|omega|(simp;omega))];try with_reducible rfl)))|(apply zt hS rfl (by rfl);· (intro w' hw';go_split_ands;go_simp;try with_reducible rfl))|fail);simp only[Act.put,zD,lsZ,lsS])
 clear hS;refine zq rfl (by rfl) (fun K hK V hV=>?_);have hbV:=zd hb0.out hV.below;go_simp;refine (HN0.out V hbV).mono ?_;rintro e w1 ⟨b1,rfl,hq1,f1⟩;have zz_1:=zQ hq1;replace hq1:=zj hq1;have hb1:=zj (zd hbV f1);go_simp;refine⟨zV.2 f1,hK _ _ ?_⟩;clear hK K hbV hV
 try simp only[Act.put,zD,lsZ,lsS]
 iterate 4 ((first|refine zl rfl (by rfl) (by decide) ?_|(apply zk rfl (by rfl);· (intro w';go_simp;first|done|with_reducible rfl|(rw[if_neg (by first|omega|(simp;omega))];try with_reducible rfl)))|fail);simp only[Act.put,zD,lsZ,lsS])
 refine zq rfl (by rfl) (fun K hK V hV=>?_);have hbV:=zd hb1.out hV.below;go_simp;refine (HN1.out V hbV).mono ?_;rintro e w2 ⟨b2,rfl,hq2,f2⟩;have zz_2:=zQ hq2;replace hq2:=zj hq2;have hb2:=zj (zd hbV f2);go_simp;refine⟨zV.2 f2,hK _ _ ?_⟩;clear hK K hbV hV
 try simp only[Act.put,zD,lsZ,lsS]
 iterate 2 ((first|refine zl rfl (by rfl) (by decide) ?_|(apply zk rfl (by rfl);· (intro w';go_simp;first|done|with_reducible rfl|(rw[if_neg (by first|omega|(simp;omega))];try with_reducible rfl)))|fail);simp only[Act.put,zD,lsZ,lsS])
 refine zu fun W hW=>?_
 have hbW:=zj (zd hA (zd hb2.out hW.below));clear hW;go_wp2_with fail;go_ret;refine⟨_,rfl,?_,hbW.out⟩;rw[←HR.out];simp[zx,hq1.out,hq2.out]
theorem zfs(H:yt P nv iv l kv pr n)(t:List UInt8)(k a:Int)(z0 z1 z2:Nat)(u:Value)(w:World)(hC:jG w P nv iv l kv)(hu:KS w u [(z0:Int),(z1:Int),(z2:Int)])(l0:z0<n)(l1:z1<n)(l2:z2<n)(ht:t.length≤3000):Calls prog 167 #[.pointer (some ⟨P,0,none⟩),xI ⟨64,t,k,[(z0:Int),(z1:Int),(z2:Int)],a⟩ u] w (qW w (xq pr ⟨64,t,k,[(z0:Int),(z1:Int),(z2:Int)],a⟩)):=by
 unfold xI;obtain⟨g,off,uc,wA,rfl,hu,hcap,hwA,hA,⟨c0,c1,c2,c3,x0,x1,x2⟩,HS⟩:=QA hu 64 t k a;replace HS:=zj HS;have HN2:=zj (jo H hC hA l2);have s2:=H.len z2 l2;have hsl0:¬((uc:Int)<2):=by omega
 have hsl1:¬(uc<2):=by omega
 have HL:=zj (fun W (hb:Below wA.heap.size wA W)=>jw H (.slice (some ⟨g,off,none⟩) 2 uc) [(z0:Int),(z1:Int)] W (hC.below (zd hA hb)) ((KS.take hu 2 (by simp)).below (zd hA hb)) (by simp;omega) (by simp));have sL:=y8 H (ks:=[(z0:Int),(z1:Int)]) (by simp;omega) (by simp);obtain⟨R,hR⟩:=exE (xq pr ⟨64,t,k,[(z0:Int),(z1:Int),(z2:Int)],a⟩);rw[hR];simp[xq,zI,yM] at hR;have HR:=zj hR;have hh0:=zj (Below.refl wA.heap.size wA);generalize hpL:qc pr [(z0:Int),(z1:Int)]=pL at *;generalize hp2:pr z2=p2 at *;clear hC hu H hR;have HwA:=zj hwA;clear hwA;go_enter func167,ntmps167;go_wp2_with fail;rw[HwA.out];refine zo [(0,0),(1,0),(2,1),(3,0),(7,0),(8,0),(9,1),(10,0),(11,1),(4,2),(5,0),(6,0),(12,2),(13,0),(14,0)] (by kernel_rfl) (by kernel_rfl) ?_;have hS:=fun W (h:Cl wA.drew W)=>HS.out W (zd bR.drew h.below)
 have hb0:=zj (show Below wA.heap.size wA wA.drew from bR.drew)
 iterate 9 ((first|refine zl rfl (by rfl) (by decide) ?_|(apply zk rfl (by rfl);· (intro w';go_simp;first|done|with_reducible rfl|(rw[if_neg (by first|omega|(simp;omega))];try with_reducible rfl)))|(apply zt hS rfl (by rfl);· (intro w' hw';go_split_ands;go_simp;try with_reducible rfl))|fail);simp only[Act.put,zD,lsZ,lsS])
 clear hS;refine zq rfl (by rfl) (fun K hK V hV=>?_);have hbV:=zd hb0.out hV.below;go_simp;refine (HL.out V hbV).mono ?_;rintro e w1 ⟨b1,rfl,hq1,f1⟩;have zz_1:=zQ hq1;replace hq1:=zj hq1;have hb1:=zj (zd hbV f1);go_simp;refine⟨zV.2 f1,hK _ _ ?_⟩;clear hK K hbV hV
 try simp only[Act.put,zD,lsZ,lsS]
 iterate 2 ((first|refine zl rfl (by rfl) (by decide) ?_|(apply zk rfl (by rfl);· (intro w';go_simp;first|done|with_reducible rfl|(rw[if_neg (by first|omega|(simp;omega))];try with_reducible rfl)))|fail);simp only[Act.put,zD,lsZ,lsS])
 refine zq rfl (by rfl) (fun K hK V hV=>?_);have hbV:=zd hb1.out hV.below;go_simp;refine (HN2.out V hbV).mono ?_;rintro e w2 ⟨b2,rfl,hq2,f2⟩;have zz_2:=zQ hq2;replace hq2:=zj hq2;have hb2:=zj (zd hbV f2);go_simp;refine⟨zV.2 f2,hK _ _ ?_⟩;clear hK K hbV hV
 try simp only[Act.put,zD,lsZ,lsS]
 iterate 2 ((first|refine zl rfl (by rfl) (by decide) ?_|(apply zk rfl (by rfl);· (intro w';go_simp;first|done|with_reducible rfl|(rw[if_neg (by first|omega|(simp;omega))];try with_reducible rfl)))|fail);simp only[Act.put,zD,lsZ,lsS])
 refine zu fun W hW=>?_
 have hbW:=zj (zd hA (zd hb2.out hW.below));clear hW;go_wp2_with fail;go_ret;refine⟨_,rfl,?_,hbW.out⟩;rw[←HR.out];simp[zx,hq1.out,hq2.out]
theorem zfr(H:yt P nv iv l kv pr n)(t:List UInt8)(k a:Int)(z0:Nat)(u:Value)(w:World)(hC:jG w P nv iv l kv)(hu:KS w u [(z0:Int)])(l0:z0<n)(ht:t.length≤3000):Calls prog 167 #[.pointer (some ⟨P,0,none⟩),xI ⟨65,t,k,[(z0:Int)],a⟩ u] w (qW w (xq pr ⟨65,t,k,[(z0:Int)],a⟩)):=by
 unfold xI;obtain⟨g,off,uc,wA,rfl,hu,hcap,hwA,hA,⟨c0,c1,c2,c3,x0⟩,HS⟩:=vZ hu 65 t k a;replace HS:=zj HS;have HN0:=zj (jo H hC hA l0);have s0:=H.len z0 l0;obtain⟨R,hR⟩:=exE (xq pr ⟨65,t,k,[(z0:Int)],a⟩);rw[hR];simp[xq,zI,yM] at hR;have HR:=zj hR;have hh0:=zj (Below.refl wA.heap.size wA);generalize hp0:pr z0=p0 at *;clear hC hu H hR;have HwA:=zj hwA;clear hwA;go_enter func167,ntmps167;go_wp2_with fail;rw[HwA.out];refine (HN0.out _ hh0.out).mono ?_;rintro e w1 ⟨b1,rfl,hq1,f1⟩;have zz_1:=zQ hq1;replace hq1:=zj hq1;have hb1:=zj f1;go_wp2_with fail;go_ret;refine⟨_,rfl,?_,zd hA hb1.out⟩;rw[←HR.out];simp[zx,hq1.out]
end
section
variable {P:Nat} {nv iv:Value} {l:List Nd} {kv:List Value} {pr:Int→List UInt8} {n:Nat}
theorem zee(H:yt P nv iv l kv pr n)(t:List UInt8)(k a:Int)(z0 z1:Nat)(u:Value)(w:World)(hC:jG w P nv iv l kv)(hu:KS w u [(z0:Int),(z1:Int)])(l0:z0<n)(l1:z1<n)(ht:t.length≤3000):Calls prog 169 #[.pointer (some ⟨P,0,none⟩),xI ⟨29,t,k,[(z0:Int),(z1:Int)],a⟩ u] w (qW w (zG pr ⟨29,t,k,[(z0:Int),(z1:Int)],a⟩)):=by
 unfold xI;obtain⟨g,off,uc,wA,rfl,hu,hcap,hwA,hA,⟨c0,c1,c2,c3,x0,x1⟩,HS⟩:=kX hu 29 t k a;replace HS:=zj HS;have HN0:=zj (jo H hC hA l0);have s0:=H.len z0 l0;have HN1:=zj (jo H hC hA l1);have s1:=H.len z1 l1;obtain⟨R,hR⟩:=exE (zG pr ⟨29,t,k,[(z0:Int),(z1:Int)],a⟩);rw[hR];simp[zG,zI,yM] at hR;have HR:=zj hR;have hh0:=zj (Below.refl wA.heap.size wA);generalize hp0:pr z0=p0 at *;generalize hp1:pr z1=p1 at *;clear hC hu H hR;have HwA:=zj hwA;clear hwA;go_enter func169,ntmps169;go_wp2_with fail;rw[HwA.out];refine zo [(0,0),(1,0),(2,1),(3,0),(4,1),(8,0),(9,0),(10,1),(11,0),(12,1),(5,2),(6,0),(7,0),(13,2),(14,0),(15,0)] (by kernel_rfl) (by kernel_rfl) ?_;have hS:=fun W (h:Cl wA.drew W)=>HS.out W (zd bR.drew h.below)
 have hb0:=zj (show Below wA.heap.size wA wA.drew from bR.drew)
 iterate 10 ((first|refine zl rfl (by rfl) (by decide) ?_|(apply zk rfl (by rfl);· (intro w';go_simp;first|done|with_reducible rfl|(rw[if_neg (by first|omega|(simp;omega))];try with_reducible rfl)))|(apply zt hS rfl (by rfl);· (intro w' hw';go_split_ands;go_simp;try with_reducible rfl))|fail);simp only[Act.put,zD,lsZ,lsS])
 clear hS;refine zq rfl (by rfl) (fun K hK V hV=>?_);have hbV:=zd hb0.out hV.below;go_simp;refine (HN0.out V hbV).mono ?_;rintro e w1 ⟨b1,rfl,hq1,f1⟩;have zz_1:=zQ hq1;replace hq1:=zj hq1;have hb1:=zj (zd hbV f1);go_simp;refine⟨zV.2 f1,hK _ _ ?_⟩;clear hK K hbV hV
 try simp only[Act.put,zD,lsZ,lsS]
 iterate 2 ((first|refine zl rfl (by rfl) (by decide) ?_|(apply zk rfl (by rfl);· (intro w';go_simp;first|done|with_reducible rfl|(rw[if_neg (by first|omega|(simp;omega))];try with_reducible rfl)))|fail);simp only[Act.put,zD,lsZ,lsS])
 refine zq rfl (by rfl) (fun K hK V hV=>?_);have hbV:=zd hb1.out hV.below;go_simp;refine (HN1.out V hbV).mono ?_;rintro e w2 ⟨b2,rfl,hq2,f2⟩;have zz_2:=zQ hq2;replace hq2:=zj hq2;have hb2:=zj (zd hbV f2);go_simp;refine⟨zV.2 f2,hK _ _ ?_⟩;clear hK K hbV hV
 try simp only[Act.put,zD,lsZ,lsS]
 iterate 2 ((first|refine zl rfl (by rfl) (by decide) ?_|(apply zk rfl (by rfl);· (intro w';go_simp;first|done|with_reducible rfl|(rw[if_neg (by first|omega|(simp;omega))];try with_reducible rfl)))|fail);simp only[Act.put,zD,lsZ,lsS])
 refine zu fun W hW=>?_
 have hbW:=zj (zd hA (zd hb2.out hW.below));have hc3:W.cell? ⟨w.heap.size,3,none⟩=some (.slice (some ⟨g,off,none⟩) 2 uc):=(HS.out W (zd hb2.out hW.below)).2.2.2.1;clear hW;go_wp2_with fail;go_ret;refine⟨_,rfl,?_,hbW.out⟩;rw[←HR.out];simp[zx,hq1.out,hq2.out]
theorem zed(H:yt P nv iv l kv pr n)(t:List UInt8)(k a:Int)(z0 z1 z2:Nat)(u:Value)(w:World)(hC:jG w P nv iv l kv)(hu:KS w u [(z0:Int),(z1:Int),(z2:Int)])(l0:z0<n)(l1:z1<n)(l2:z2<n)(ht:t.length≤3000):Calls prog 169 #[.pointer (some ⟨P,0,none⟩),xI ⟨29,t,k,[(z0:Int),(z1:Int),(z2:Int)],a⟩ u] w (qW w (zG pr ⟨29,t,k,[(z0:Int),(z1:Int),(z2:Int)],a⟩)):=by
 unfold xI;obtain⟨g,off,uc,wA,rfl,hu,hcap,hwA,hA,⟨c0,c1,c2,c3,x0,x1,x2⟩,HS⟩:=QA hu 29 t k a;replace HS:=zj HS;have HN0:=zj (jo H hC hA l0);have s0:=H.len z0 l0;have HN1:=zj (jo H hC hA l1);have s1:=H.len z1 l1;have H2:=zj (jo H hC hA l2);have s2:=H.len z2 l2;obtain⟨R,hR⟩:=exE (zG pr ⟨29,t,k,[(z0:Int),(z1:Int),(z2:Int)],a⟩);rw[hR];simp[zG,zI,yM] at hR;have HR:=zj hR;have hh0:=zj (Below.refl wA.heap.size wA);generalize hp2:pr z2=p2 at *;generalize hp0:pr z0=p0 at *;generalize hp1:pr z1=p1 at *;clear hC hu H hR;have HwA:=zj hwA;clear hwA;go_enter func169,ntmps169;go_wp2_with fail;rw[HwA.out];refine zo [(0,0),(1,0),(2,1),(3,0),(4,1),(8,0),(9,0),(10,1),(11,0),(12,1),(5,2),(6,0),(7,0),(13,2),(14,0),(15,0)] (by kernel_rfl) (by kernel_rfl) ?_;have hS:=fun W (h:Cl wA.drew W)=>HS.out W (zd bR.drew h.below)
 have hb0:=zj (show Below wA.heap.size wA wA.drew from bR.drew)
 iterate 10 ((first|refine zl rfl (by rfl) (by decide) ?_|(apply zk rfl (by rfl);· (intro w';go_simp;first|done|with_reducible rfl|(rw[if_neg (by first|omega|(simp;omega))];try with_reducible rfl)))|(apply zt hS rfl (by rfl);· (intro w' hw';go_split_ands;go_simp;try with_reducible rfl))|fail);simp only[Act.put,zD,lsZ,lsS])
 clear hS;refine zq rfl (by rfl) (fun K hK V hV=>?_);have hbV:=zd hb0.out hV.below;go_simp;refine (HN0.out V hbV).mono ?_;rintro e w1 ⟨b1,rfl,hq1,f1⟩;have zz_1:=zQ hq1;replace hq1:=zj hq1;have hb1:=zj (zd hbV f1);go_simp;refine⟨zV.2 f1,hK _ _ ?_⟩;clear hK K hbV hV
 try simp only[Act.put,zD,lsZ,lsS]
 iterate 2 ((first|refine zl rfl (by rfl) (by decide) ?_|(apply zk rfl (by rfl);· (intro w';go_simp;first|done|with_reducible rfl|(rw[if_neg (by first|omega|(simp;omega))];try with_reducible rfl)))|fail);simp only[Act.put,zD,lsZ,lsS])
 refine zq rfl (by rfl) (fun K hK V hV=>?_);have hbV:=zd hb1.out hV.below;go_simp;refine (HN1.out V hbV).mono ?_;rintro e w2 ⟨b2,rfl,hq2,f2⟩;have zz_2:=zQ hq2;replace hq2:=zj hq2;have hb2:=zj (zd hbV f2);go_simp;refine⟨zV.2 f2,hK _ _ ?_⟩;clear hK K hbV hV
 try simp only[Act.put,zD,lsZ,lsS]
 iterate 2 ((first|refine zl rfl (by rfl) (by decide) ?_|(apply zk rfl (by rfl);· (intro w';go_simp;first|done|with_reducible rfl|(rw[if_neg (by first|omega|(simp;omega))];try with_reducible rfl)))|fail);simp only[Act.put,zD,lsZ,lsS])
 refine zu fun W hW=>?_
 have hbW:=zj (zd hA (zd hb2.out hW.below));obtain⟨_,_,_,hc3,_,_,hx2⟩:=HS.out W (zd hb2.out hW.below);have hN2:=zj (H2.out W (zd hb2.out hW.below));clear hW;go_wp2_with fail;refine hN2.out.mono ?_;rintro e w3 ⟨b3,rfl,hq3,f3⟩;have zz_3:=zQ hq3;replace hq3:=zj hq3;go_wp2_with fail;go_ret;refine⟨_,rfl,?_,zd hbW.out f3⟩;rw[←HR.out];simp[zx,hq1.out,hq2.out,hq3.out]
theorem zfJ(H:yt P nv iv l kv pr n)(t:List UInt8)(k a:Int)(z0 z1:Nat)(u:Value)(w:World)(hC:jG w P nv iv l kv)(hu:KS w u [(z0:Int),(z1:Int)])(l0:z0<n)(l1:z1<n)(ht:t.length≤3000):Calls prog 169 #[.pointer (some ⟨P,0,none⟩),xI ⟨30,t,k,[(z0:Int),(z1:Int)],a⟩ u] w (qW w (zG pr ⟨30,t,k,[(z0:Int),(z1:Int)],a⟩)):=by
 unfold xI;obtain⟨g,off,uc,wA,rfl,hu,hcap,hwA,hA,⟨c0,c1,c2,c3,x0,x1⟩,HS⟩:=kX hu 30 t k a;replace HS:=zj HS;have HN0:=zj (jo H hC hA l0);have s0:=H.len z0 l0;have HN1:=zj (jo H hC hA l1);have s1:=H.len z1 l1;obtain⟨R,hR⟩:=exE (zG pr ⟨30,t,k,[(z0:Int),(z1:Int)],a⟩);rw[hR];simp[zG,zI,yM] at hR;have HR:=zj hR;have hh0:=zj (Below.refl wA.heap.size wA);generalize hp0:pr z0=p0 at *;generalize hp1:pr z1=p1 at *;clear hC hu H hR;have HwA:=zj hwA;clear hwA;go_enter func169,ntmps169;go_wp2_with fail;rw[HwA.out];refine zo [(0,0),(1,0),(2,1),(3,0),(4,1),(8,0),(9,0),(10,1),(11,0),(12,1),(5,2),(6,0),(7,0),(13,2),(14,0),(15,0)] (by kernel_rfl) (by kernel_rfl) ?_;have hS:=fun W (h:Cl wA.drew W)=>HS.out W (zd bR.drew h.below)
 have hb0:=zj (show Below wA.heap.size wA wA.drew from bR.drew)
 iterate 10 ((first|refine zl rfl (by rfl) (by decide) ?_|(apply zk rfl (by rfl);· (intro w';go_simp;first|done|with_reducible rfl|(rw[if_neg (by first|omega|(simp;omega))];try with_reducible rfl)))|(apply zt hS rfl (by rfl);· (intro w' hw';go_split_ands;go_simp;try with_reducible rfl))|fail);simp only[Act.put,zD,lsZ,lsS])
 clear hS;refine zq rfl (by rfl) (fun K hK V hV=>?_);have hbV:=zd hb0.out hV.below;go_simp;refine (HN0.out V hbV).mono ?_;rintro e w1 ⟨b1,rfl,hq1,f1⟩;have zz_1:=zQ hq1;replace hq1:=zj hq1;have hb1:=zj (zd hbV f1);go_simp;refine⟨zV.2 f1,hK _ _ ?_⟩;clear hK K hbV hV
 try simp only[Act.put,zD,lsZ,lsS]
 iterate 2 ((first|refine zl rfl (by rfl) (by decide) ?_|(apply zk rfl (by rfl);· (intro w';go_simp;first|done|with_reducible rfl|(rw[if_neg (by first|omega|(simp;omega))];try with_reducible rfl)))|fail);simp only[Act.put,zD,lsZ,lsS])
 refine zq rfl (by rfl) (fun K hK V hV=>?_);have hbV:=zd hb1.out hV.below;go_simp;refine (HN1.out V hbV).mono ?_;rintro e w2 ⟨b2,rfl,hq2,f2⟩;have zz_2:=zQ hq2;replace hq2:=zj hq2;have hb2:=zj (zd hbV f2);go_simp;refine⟨zV.2 f2,hK _ _ ?_⟩;clear hK K hbV hV
 try simp only[Act.put,zD,lsZ,lsS]
 iterate 2 ((first|refine zl rfl (by rfl) (by decide) ?_|(apply zk rfl (by rfl);· (intro w';go_simp;first|done|with_reducible rfl|(rw[if_neg (by first|omega|(simp;omega))];try with_reducible rfl)))|fail);simp only[Act.put,zD,lsZ,lsS])
 refine zu fun W hW=>?_
 have hbW:=zj (zd hA (zd hb2.out hW.below));clear hW;go_wp2_with fail;go_ret;refine⟨_,rfl,?_,hbW.out⟩;rw[←HR.out];simp[zx,hq1.out,hq2.out]
theorem zfH(H:yt P nv iv l kv pr n)(t:List UInt8)(k a:Int)(z0 z1:Nat)(u:Value)(w:World)(hC:jG w P nv iv l kv)(hu:KS w u [(z0:Int),(z1:Int)])(l0:z0<n)(l1:z1<n)(ht:t.length≤3000):Calls prog 169 #[.pointer (some ⟨P,0,none⟩),xI ⟨32,t,k,[(z0:Int),(z1:Int)],a⟩ u] w (qW w (zG pr ⟨32,t,k,[(z0:Int),(z1:Int)],a⟩)):=by
 unfold xI;obtain⟨g,off,uc,wA,rfl,hu,hcap,hwA,hA,⟨c0,c1,c2,c3,x0,x1⟩,HS⟩:=kX hu 32 t k a;replace HS:=zj HS;have HN0:=zj (jo H hC hA l0);have s0:=H.len z0 l0;have HN1:=zj (jo H hC hA l1);have s1:=H.len z1 l1;obtain⟨R,hR⟩:=exE (zG pr ⟨32,t,k,[(z0:Int),(z1:Int)],a⟩);rw[hR];simp[zG,zI,yM] at hR;have HR:=zj hR;have hh0:=zj (Below.refl wA.heap.size wA);generalize hp0:pr z0=p0 at *;generalize hp1:pr z1=p1 at *;clear hC hu H hR;have HwA:=zj hwA;clear hwA;go_enter func169,ntmps169;go_wp2_with fail;rw[HwA.out];refine zo [(0,0),(1,0),(2,1),(3,0),(4,1),(7,0),(8,0),(9,1),(10,0),(11,1),(5,2),(6,0),(12,2),(13,0),(14,0)] (by kernel_rfl) (by kernel_rfl) ?_;have hS:=fun W (h:Cl wA.drew W)=>HS.out W (zd bR.drew h.below)
 have hb0:=zj (show Below wA.heap.size wA wA.drew from bR.drew)
 iterate 10 ((first|refine zl rfl (by rfl) (by decide) ?_|(apply zk rfl (by rfl);· (intro w';go_simp;first|done|with_reducible rfl|(rw[if_neg (by first|omega|(simp;omega))];try with_reducible rfl)))|(apply zt hS rfl (by rfl);· (intro w' hw';go_split_ands;go_simp;try with_reducible rfl))|fail);simp only[Act.put,zD,lsZ,lsS])
 clear hS;refine zq rfl (by rfl) (fun K hK V hV=>?_);have hbV:=zd hb0.out hV.below;go_simp;refine (HN0.out V hbV).mono ?_;rintro e w1 ⟨b1,rfl,hq1,f1⟩;have zz_1:=zQ hq1;replace hq1:=zj hq1;have hb1:=zj (zd hbV f1);go_simp;refine⟨zV.2 f1,hK _ _ ?_⟩;clear hK K hbV hV
 try simp only[Act.put,zD,lsZ,lsS]
 iterate 1 ((first|refine zl rfl (by rfl) (by decide) ?_|(apply zk rfl (by rfl);· (intro w';go_simp;first|done|with_reducible rfl|(rw[if_neg (by first|omega|(simp;omega))];try with_reducible rfl)))|fail);simp only[Act.put,zD,lsZ,lsS])
 refine zq rfl (by rfl) (fun K hK V hV=>?_);have hbV:=zd hb1.out hV.below;go_simp;refine (HN1.out V hbV).mono ?_;rintro e w2 ⟨b2,rfl,hq2,f2⟩;have zz_2:=zQ hq2;replace hq2:=zj hq2;have hb2:=zj (zd hbV f2);go_simp;refine⟨zV.2 f2,hK _ _ ?_⟩;clear hK K hbV hV
 try simp only[Act.put,zD,lsZ,lsS]
 iterate 2 ((first|refine zl rfl (by rfl) (by decide) ?_|(apply zk rfl (by rfl);· (intro w';go_simp;first|done|with_reducible rfl|(rw[if_neg (by first|omega|(simp;omega))];try with_reducible rfl)))|fail);simp only[Act.put,zD,lsZ,lsS])
 refine zu fun W hW=>?_
 have hbW:=zj (zd hA (zd hb2.out hW.below));clear hW;go_wp2_with fail;go_ret;refine⟨_,rfl,?_,hbW.out⟩;rw[←HR.out];simp[zx,hq1.out,hq2.out]
theorem zfF(H:yt P nv iv l kv pr n)(t:List UInt8)(k a:Int)(z0 z1:Nat)(u:Value)(w:World)(hC:jG w P nv iv l kv)(hu:KS w u [(z0:Int),(z1:Int)])(l0:z0<n)(l1:z1<n)(ht:t.length≤3000):Calls prog 169 #[.pointer (some ⟨P,0,none⟩),xI ⟨34,t,k,[(z0:Int),(z1:Int)],a⟩ u] w (qW w (zG pr ⟨34,t,k,[(z0:Int),(z1:Int)],a⟩)):=by
 unfold xI;obtain⟨g,off,uc,wA,rfl,hu,hcap,hwA,hA,⟨c0,c1,c2,c3,x0,x1⟩,HS⟩:=kX hu 34 t k a;replace HS:=zj HS;have HN0:=zj (jo H hC hA l0);have s0:=H.len z0 l0;have HN1:=zj (jo H hC hA l1);have s1:=H.len z1 l1;obtain⟨R,hR⟩:=exE (zG pr ⟨34,t,k,[(z0:Int),(z1:Int)],a⟩);rw[hR];simp[zG,zI,yM] at hR;have HR:=zj hR;have hh0:=zj (Below.refl wA.heap.size wA);generalize hp0:pr z0=p0 at *;generalize hp1:pr z1=p1 at *;clear hC hu H hR;have HwA:=zj hwA;clear hwA;go_enter func169,ntmps169;go_wp2_with fail;rw[HwA.out];refine zo [(0,0),(1,0),(2,1),(3,0),(4,1),(8,0),(9,1),(12,0),(13,0),(14,1),(15,0),(16,1),(5,2),(6,0),(7,0),(10,0),(11,0),(17,2),(18,0),(19,0)] (by kernel_rfl) (by kernel_rfl) ?_;have hS:=fun W (h:Cl wA.drew W)=>HS.out W (zd bR.drew h.below)
 have hb0:=zj (show Below wA.heap.size wA wA.drew from bR.drew)
 iterate 12 ((first|refine zl rfl (by rfl) (by decide) ?_|(apply zk rfl (by rfl);· (intro w';go_simp;first|done|with_reducible rfl|(rw[if_neg (by first|omega|(simp;omega))];try with_reducible rfl)))|(apply zt hS rfl (by rfl);· (intro w' hw';go_split_ands;go_simp;try with_reducible rfl))|fail);simp only[Act.put,zD,lsZ,lsS])
 clear hS;refine zq rfl (by rfl) (fun K hK V hV=>?_);have hbV:=zd hb0.out hV.below;go_simp;refine (HN0.out V hbV).mono ?_;rintro e w1 ⟨b1,rfl,hq1,f1⟩;have zz_1:=zQ hq1;replace hq1:=zj hq1;have hb1:=zj (zd hbV f1);go_simp;refine⟨zV.2 f1,hK _ _ ?_⟩;clear hK K hbV hV
 try simp only[Act.put,zD,lsZ,lsS]
 iterate 4 ((first|refine zl rfl (by rfl) (by decide) ?_|(apply zk rfl (by rfl);· (intro w';go_simp;first|done|with_reducible rfl|(rw[if_neg (by first|omega|(simp;omega))];try with_reducible rfl)))|fail);simp only[Act.put,zD,lsZ,lsS])
 refine zq rfl (by rfl) (fun K hK V hV=>?_);have hbV:=zd hb1.out hV.below;go_simp;refine (HN1.out V hbV).mono ?_;rintro e w2 ⟨b2,rfl,hq2,f2⟩;have zz_2:=zQ hq2;replace hq2:=zj hq2;have hb2:=zj (zd hbV f2);go_simp;refine⟨zV.2 f2,hK _ _ ?_⟩;clear hK K hbV hV
 try simp only[Act.put,zD,lsZ,lsS]
 iterate 2 ((first|refine zl rfl (by rfl) (by decide) ?_|(apply zk rfl (by rfl);· (intro w';go_simp;first|done|with_reducible rfl|(rw[if_neg (by first|omega|(simp;omega))];try with_reducible rfl)))|fail);simp only[Act.put,zD,lsZ,lsS])
 refine zu fun W hW=>?_
 have hbW:=zj (zd hA (zd hb2.out hW.below));clear hW;go_wp2_with fail;go_ret;refine⟨_,rfl,?_,hbW.out⟩;rw[←HR.out];simp[zx,hq1.out,hq2.out]
theorem zfD(H:yt P nv iv l kv pr n)(t:List UInt8)(k a:Int)(z0 z1 z2:Nat)(u:Value)(w:World)(hC:jG w P nv iv l kv)(hu:KS w u [(z0:Int),(z1:Int),(z2:Int)])(l0:z0<n)(l1:z1<n)(l2:z2<n)(ht:t.length≤3000):Calls prog 169 #[.pointer (some ⟨P,0,none⟩),xI ⟨36,t,k,[(z0:Int),(z1:Int),(z2:Int)],a⟩ u] w (qW w (zG pr ⟨36,t,k,[(z0:Int),(z1:Int),(z2:Int)],a⟩)):=by
 unfold xI;obtain⟨g,off,uc,wA,rfl,hu,hcap,hwA,hA,⟨c0,c1,c2,c3,x0,x1,x2⟩,HS⟩:=QA hu 36 t k a;replace HS:=zj HS;have HN0:=zj (jo H hC hA l0);have s0:=H.len z0 l0;have HN1:=zj (jo H hC hA l1);have s1:=H.len z1 l1;have HN2:=zj (jo H hC hA l2);have s2:=H.len z2 l2;obtain⟨R,hR⟩:=exE (zG pr ⟨36,t,k,[(z0:Int),(z1:Int),(z2:Int)],a⟩);rw[hR];simp[zG,zI,yM] at hR;have HR:=zj hR;have hh0:=zj (Below.refl wA.heap.size wA);generalize hp0:pr z0=p0 at *;generalize hp1:pr z1=p1 at *;generalize hp2:pr z2=p2 at *;clear hC hu H hR;have HwA:=zj hwA;clear hwA;go_enter func169,ntmps169;go_wp2_with fail;rw[HwA.out];refine zo [(0,0),(1,0),(2,1),(3,0),(4,1),(8,0),(9,1),(12,0),(13,0),(14,1),(15,0),(16,1),(20,0),(21,0),(22,1),(23,0),(24,1),(5,2),(6,0),(7,0),(10,0),(11,0),(17,2),(18,0),(19,0),(25,2),(26,0),(27,0)] (by kernel_rfl) (by kernel_rfl) ?_;have hS:=fun W (h:Cl wA.drew W)=>HS.out W (zd bR.drew h.below)
 have hb0:=zj (show Below wA.heap.size wA wA.drew from bR.drew)
 iterate 17 ((first|refine zl rfl (by rfl) (by decide) ?_|(apply zk rfl (by rfl);· (intro w';go_simp;first|done|with_reducible rfl|(rw[if_neg (by first|omega|(simp;omega))];try with_reducible rfl)))|(apply zt hS rfl (by rfl);· (intro w' hw';go_split_ands;go_simp;try with_reducible rfl))|fail);simp only[Act.put,zD,lsZ,lsS])
 clear hS;refine zq rfl (by rfl) (fun K hK V hV=>?_);have hbV:=zd hb0.out hV.below;go_simp;refine (HN0.out V hbV).mono ?_;rintro e w1 ⟨b1,rfl,hq1,f1⟩;have zz_1:=zQ hq1;replace hq1:=zj hq1;have hb1:=zj (zd hbV f1);go_simp;refine⟨zV.2 f1,hK _ _ ?_⟩;clear hK K hbV hV
 try simp only[Act.put,zD,lsZ,lsS]
 iterate 4 ((first|refine zl rfl (by rfl) (by decide) ?_|(apply zk rfl (by rfl);· (intro w';go_simp;first|done|with_reducible rfl|(rw[if_neg (by first|omega|(simp;omega))];try with_reducible rfl)))|fail);simp only[Act.put,zD,lsZ,lsS])
 refine zq rfl (by rfl) (fun K hK V hV=>?_);have hbV:=zd hb1.out hV.below;go_simp;refine (HN1.out V hbV).mono ?_;rintro e w2 ⟨b2,rfl,hq2,f2⟩;have zz_2:=zQ hq2;replace hq2:=zj hq2;have hb2:=zj (zd hbV f2);go_simp;refine⟨zV.2 f2,hK _ _ ?_⟩;clear hK K hbV hV
 try simp only[Act.put,zD,lsZ,lsS]
 iterate 2 ((first|refine zl rfl (by rfl) (by decide) ?_|(apply zk rfl (by rfl);· (intro w';go_simp;first|done|with_reducible rfl|(rw[if_neg (by first|omega|(simp;omega))];try with_reducible rfl)))|fail);simp only[Act.put,zD,lsZ,lsS])
 refine zq rfl (by rfl) (fun K hK V hV=>?_);have hbV:=zd hb2.out hV.below;go_simp;refine (HN2.out V hbV).mono ?_;rintro e w3 ⟨b3,rfl,hq3,f3⟩;have zz_3:=zQ hq3;replace hq3:=zj hq3;have hb3:=zj (zd hbV f3);go_simp;refine⟨zV.2 f3,hK _ _ ?_⟩;clear hK K hbV hV
 try simp only[Act.put,zD,lsZ,lsS]
 iterate 2 ((first|refine zl rfl (by rfl) (by decide) ?_|(apply zk rfl (by rfl);· (intro w';go_simp;first|done|with_reducible rfl|(rw[if_neg (by first|omega|(simp;omega))];try with_reducible rfl)))|fail);simp only[Act.put,zD,lsZ,lsS])
 refine zu fun W hW=>?_
 have hbW:=zj (zd hA (zd hb3.out hW.below));clear hW;go_wp2_with fail;go_ret;refine⟨_,rfl,?_,hbW.out⟩;rw[←HR.out];simp[zx,hq1.out,hq2.out,hq3.out]
theorem zfK(H:yt P nv iv l kv pr n)(t:List UInt8)(k a:Int)(z0:Nat)(u:Value)(w:World)(hC:jG w P nv iv l kv)(hu:KS w u [(z0:Int)])(l0:z0<n)(ht:t.length≤3000):Calls prog 169 #[.pointer (some ⟨P,0,none⟩),xI ⟨27,t,k,[(z0:Int)],a⟩ u] w (qW w (zG pr ⟨27,t,k,[(z0:Int)],a⟩)):=by
 unfold xI;obtain⟨g,off,uc,wA,rfl,hu,hcap,hwA,hA,⟨c0,c1,c2,c3,x0⟩,HS⟩:=vZ hu 27 t k a;replace HS:=zj HS;have HN0:=zj (jo H hC hA l0);have s0:=H.len z0 l0;obtain⟨R,hR⟩:=exE (zG pr ⟨27,t,k,[(z0:Int)],a⟩);rw[hR];simp[zG,zI,yM] at hR;have HR:=zj hR;have hh0:=zj (Below.refl wA.heap.size wA);generalize hp0:pr z0=p0 at *;clear hC hu H hR;have HwA:=zj hwA;clear hwA;go_enter func169,ntmps169;go_wp2_with fail;rw[HwA.out];refine zo [(0,0),(1,1),(2,0),(3,0),(4,0),(5,1),(6,0),(7,1),(8,2),(9,0),(10,0)] (by kernel_rfl) (by kernel_rfl) ?_;have hS:=fun W (h:Cl wA.drew W)=>HS.out W (zd bR.drew h.below)
 have hb0:=zj (show Below wA.heap.size wA wA.drew from bR.drew)
 iterate 8 ((first|refine zl rfl (by rfl) (by decide) ?_|(apply zk rfl (by rfl);· (intro w';go_simp;first|done|with_reducible rfl|(rw[if_neg (by first|omega|(simp;omega))];try with_reducible rfl)))|(apply zt hS rfl (by rfl);· (intro w' hw';go_split_ands;go_simp;try with_reducible rfl))|fail);simp only[Act.put,zD,lsZ,lsS])
 clear hS;refine zq rfl (by rfl) (fun K hK V hV=>?_);have hbV:=zd hb0.out hV.below;go_simp;refine (HN0.out V hbV).mono ?_;rintro e w1 ⟨b1,rfl,hq1,f1⟩;have zz_1:=zQ hq1;replace hq1:=zj hq1;have hb1:=zj (zd hbV f1);go_simp;refine⟨zV.2 f1,hK _ _ ?_⟩;clear hK K hbV hV
 try simp only[Act.put,zD,lsZ,lsS]
 iterate 2 ((first|refine zl rfl (by rfl) (by decide) ?_|(apply zk rfl (by rfl);· (intro w';go_simp;first|done|with_reducible rfl|(rw[if_neg (by first|omega|(simp;omega))];try with_reducible rfl)))|fail);simp only[Act.put,zD,lsZ,lsS])
 refine zu fun W hW=>?_
 have hbW:=zj (zd hA (zd hb1.out hW.below));clear hW;go_wp2_with fail;go_ret;refine⟨_,rfl,?_,hbW.out⟩;rw[←HR.out];simp[zx,hq1.out]
theorem zfC(H:yt P nv iv l kv pr n)(t:List UInt8)(k a:Int)(z0:Nat)(u:Value)(w:World)(hC:jG w P nv iv l kv)(hu:KS w u [(z0:Int)])(l0:z0<n)(ht:t.length≤3000)(hk: -1000000000≤k∧k≤1000000000):Calls prog 169 #[.pointer (some ⟨P,0,none⟩),xI ⟨40,t,k,[(z0:Int)],a⟩ u] w (qW w (zG pr ⟨40,t,k,[(z0:Int)],a⟩)):=by
 unfold xI;obtain⟨g,off,uc,wA,rfl,hu,hcap,hwA,hA,⟨c0,c1,c2,c3,x0⟩,HS⟩:=vZ hu 40 t k a;replace HS:=zj HS;have HN0:=zj (jo H hC hA l0);have s0:=H.len z0 l0;have HI:=zj (fun W (hb:Below wA.heap.size wA W)=>Tryz.strconv_Itoa k (by omega) (by omega) W (hC.below (zd hA hb)).gl.pow);have sI:=Kz hk.1 hk.2;obtain⟨R,hR⟩:=exE (zG pr ⟨40,t,k,[(z0:Int)],a⟩);rw[hR];simp[zG,zI,yM] at hR;have HR:=zj hR;have hh0:=zj (Below.refl wA.heap.size wA);generalize hp0:pr z0=p0 at *;generalize hpI:Go.Lib.itoa k=pI at *;clear hC hu H hR;have HwA:=zj hwA;clear hwA;go_enter func169,ntmps169;go_wp2_with fail;rw[HwA.out];refine zo [(0,0),(1,0),(2,1),(3,0),(4,1),(8,0),(9,1),(5,2),(6,0),(7,0),(10,2),(11,0),(12,0),(13,0)] (by kernel_rfl) (by kernel_rfl) ?_;have hS:=fun W (h:Cl wA.drew W)=>HS.out W (zd bR.drew h.below)
 have hb0:=zj (show Below wA.heap.size wA wA.drew from bR.drew)
 iterate 7 ((first|refine zl rfl (by rfl) (by decide) ?_|(apply zk rfl (by rfl);· (intro w';go_simp;first|done|with_reducible rfl|(rw[if_neg (by first|omega|(simp;omega))];try with_reducible rfl)))|(apply zt hS rfl (by rfl);· (intro w' hw';go_split_ands;go_simp;try with_reducible rfl))|fail);simp only[Act.put,zD,lsZ,lsS])
 clear hS;refine zq rfl (by rfl) (fun K hK V hV=>?_);have hbV:=zd hb0.out hV.below;go_simp;refine (HN0.out V hbV).mono ?_;rintro e w1 ⟨b1,rfl,hq1,f1⟩;have zz_1:=zQ hq1;replace hq1:=zj hq1;have hb1:=zj (zd hbV f1);go_simp;refine⟨zV.2 f1,hK _ _ ?_⟩;clear hK K hbV hV
 try simp only[Act.put,zD,lsZ,lsS]
 iterate 2 ((first|refine zl rfl (by rfl) (by decide) ?_|(apply zk rfl (by rfl);· (intro w';go_simp;first|done|with_reducible rfl|(rw[if_neg (by first|omega|(simp;omega))];try with_reducible rfl)))|fail);simp only[Act.put,zD,lsZ,lsS])
 refine zq rfl (by rfl) (fun K hK V hV=>?_);have hbV:=zd hb1.out hV.below;go_simp;refine (HI.out V hbV).mono ?_;rintro e w2 ⟨rfl,hwI⟩;have f2:Below V.heap.size V w2:=by obtain⟨k,os,rfl⟩:=hwI;exact Lib.below_grow _ _ (Nat.le_refl _) k os
 have hb2:=zj (zd hbV f2);go_simp;refine⟨zV.2 f2,hK _ _ ?_⟩;clear hK K hbV hV
 try simp only[Act.put,zD,lsZ,lsS]
 iterate 3 ((first|refine zl rfl (by rfl) (by decide) ?_|(apply zk rfl (by rfl);· (intro w';go_simp;first|done|with_reducible rfl|(rw[if_neg (by first|omega|(simp;omega))];try with_reducible rfl)))|fail);simp only[Act.put,zD,lsZ,lsS])
 refine zu fun W hW=>?_
 have hbW:=zj (zd hA (zd hb2.out hW.below));clear hW;go_wp2_with fail;go_ret;refine⟨_,rfl,?_,hbW.out⟩;rw[←HR.out];simp[zx,hq1.out]
theorem zfL(H:yt P nv iv l kv pr n)(t:List UInt8)(k a:Int)(ks:List Int)(u:Value)(w:World)(hC:jG w P nv iv l kv)(hu:KS w u ks)(hks:∀k∈ks,0≤k∧k<(n:Int))(hkl:ks.length≤100000)(hm1:1≤ks.length)(ht:t.length≤3000):Calls prog 169 #[.pointer (some ⟨P,0,none⟩),xI ⟨26,t,k,ks,a⟩ u] w (qW w (zG pr ⟨26,t,k,ks,a⟩)):=by
 unfold xI;obtain⟨m,g,off,uc,wA,rfl,hm,hu,hcap,hwA,hA,⟨c0,c1,c2,c3,c4⟩,HS⟩:=ko hu (by omega) 26 t k a;rw[hm] at hkl hm1;obtain⟨R,hR⟩:=exE (zG pr ⟨26,t,k,ks,a⟩);rw[hR];simp[zG,zI] at hR;replace HS:=zj HS;have HA:=zj (fun W (hb:Below wA.heap.size wA W)=>jw H (.slice (some ⟨g,off,none⟩) m uc) ks W (hC.below (zd hA hb)) (hu.below (zd hA hb)) hks (by omega));have sA:=y8 H hks (by omega);have HR:=zj hR;have hh0:=zj (Below.refl wA.heap.size wA);generalize hpA:qc pr ks=pA at *;clear hC hu H hR hks;have Hm:=zj hm;clear hm;have hi0:(0:Int)<(m:Int):=by omega
 have hi1:0<m:=by omega
 have hi2:¬(m=0):=by omega
 have HwA:=zj hwA;clear hwA;go_enter func169,ntmps169;go_wp2_with fail;rw[HwA.out];refine zo [(0,0),(1,1),(2,0),(3,0),(4,0),(5,0),(6,1),(7,2),(8,0),(9,0),(10,0)] (by kernel_rfl) (by kernel_rfl) ?_;have hS:=fun W (h:Cl wA.drew W)=>HS.out W (zd bR.drew h.below)
 have hb0:=zj (show Below wA.heap.size wA wA.drew from bR.drew)
 iterate 7 ((first|refine zl rfl (by rfl) (by decide) ?_|(apply zk rfl (by rfl);· (intro w';go_simp;first|done|with_reducible rfl|(rw[if_neg (by first|omega|(simp;omega))];try with_reducible rfl)))|(apply zt hS rfl (by rfl);· (intro w' hw';go_split_ands;go_simp;try with_reducible rfl))|fail);simp only[Act.put,zD,lsZ,lsS])
 clear hS;refine zq rfl (by rfl) (fun K hK V hV=>?_);have hbV:=zd hb0.out hV.below;go_simp;refine (HA.out V hbV).mono ?_;rintro e w1 ⟨b1,rfl,hq1,f1⟩;have zz_1:=zQ hq1;replace hq1:=zj hq1;have hb1:=zj (zd hbV f1);go_simp;refine⟨zV.2 f1,hK _ _ ?_⟩;clear hK K hbV hV
 try simp only[Act.put,zD,lsZ,lsS]
 iterate 3 ((first|refine zl rfl (by rfl) (by decide) ?_|(apply zk rfl (by rfl);· (intro w';go_simp;first|done|with_reducible rfl|(rw[if_neg (by first|omega|(simp;omega))];try with_reducible rfl)))|fail);simp only[Act.put,zD,lsZ,lsS])
 refine zu fun W hW=>?_
 have hbW:=zj (zd hA (zd hb1.out hW.below));go_wp2_with fail;go_ret;refine⟨_,rfl,?_,hbW.out⟩;rw[←HR.out];simp[zx,hq1.out]
theorem zfE(H:yt P nv iv l kv pr n)(t:List UInt8)(k a:Int)(ks:List Int)(u:Value)(w:World)(hC:jG w P nv iv l kv)(hu:KS w u ks)(hks:∀k∈ks,0≤k∧k<(n:Int))(hkl:ks.length≤100000)(hm1:1≤ks.length)(ht:t.length≤3000):Calls prog 169 #[.pointer (some ⟨P,0,none⟩),xI ⟨35,t,k,ks,a⟩ u] w (qW w (zG pr ⟨35,t,k,ks,a⟩)):=by
 unfold xI;obtain⟨m,g,off,uc,wA,rfl,hm,hu,hcap,hwA,hA,⟨c0,c1,c2,c3,c4⟩,HS⟩:=ko hu (by omega) 35 t k a;rw[hm] at hkl hm1;obtain⟨R,hR⟩:=exE (zG pr ⟨35,t,k,ks,a⟩);rw[hR];simp[zG,zI] at hR;replace HS:=zj HS;have HA:=zj (fun W (hb:Below wA.heap.size wA W)=>jw H (.slice (some ⟨g,off,none⟩) m uc) ks W (hC.below (zd hA hb)) (hu.below (zd hA hb)) hks (by omega));have sA:=y8 H hks (by omega);have HR:=zj hR;have hh0:=zj (Below.refl wA.heap.size wA);generalize hpA:qc pr ks=pA at *;clear hC hu H hR hks;have Hm:=zj hm;clear hm;have hi0:(0:Int)<(m:Int):=by omega
 have hi1:0<m:=by omega
 have hi2:¬(m=0):=by omega
 have HwA:=zj hwA;clear hwA;go_enter func169,ntmps169;go_wp2_with fail;rw[HwA.out];refine (HA.out _ hh0.out).mono ?_;rintro e w1 ⟨b1,rfl,hq1,f1⟩;have zz_1:=zQ hq1;replace hq1:=zj hq1;have hb1:=zj f1;go_wp2_with fail;go_ret;refine⟨_,rfl,?_,zd hA hb1.out⟩;rw[←HR.out];simp[zx,hq1.out]
theorem zfI(H:yt P nv iv l kv pr n)(t:List UInt8)(k a:Int)(ks:List Int)(u:Value)(w:World)(hC:jG w P nv iv l kv)(hu:KS w u ks)(hks:∀k∈ks,0≤k∧k<(n:Int))(hkl:ks.length≤100000)(hm1:2≤ks.length)(ht:t.length≤3000):Calls prog 169 #[.pointer (some ⟨P,0,none⟩),xI ⟨31,t,k,ks,a⟩ u] w (qW w (zG pr ⟨31,t,k,ks,a⟩)):=by
 unfold xI;obtain⟨m,g,off,uc,wA,rfl,hm,hu,hcap,hwA,hA,⟨c0,c1,c2,c3,c4⟩,HS⟩:=ko hu (by omega) 31 t k a;rw[hm] at hkl hm1;obtain⟨z0,hz0,l0,d0⟩:=zfV hu hm hks (j:=0) (by omega);obtain⟨R,hR⟩:=exE (zG pr ⟨31,t,k,ks,a⟩);rw[hR];simp[zG,zI] at hR
 try rw[hm] at hR
 try rw[hz0] at hR
 replace HS:=zj (fun W (hb:Below wA.heap.size wA W)=>And.intro (HS W hb) (show W.cell? ⟨g,off,none⟩=some (.int .i64 z0) from zh hb (zh hA d0)));have HN0:=zj (jo H hC hA l0);have s0:=H.len z0 l0;have hkd:∀k∈ks.drop 1,0≤k∧k<(n:Int):=fun k hk=>hks k (List.mem_of_mem_drop hk)
 have hdl:(ks.drop 1).length≤100000:=by rw[List.length_drop];omega
 have HD:=zj (fun W (hb:Below wA.heap.size wA W)=>jw H (.slice (some ⟨g,off+1,none⟩) (m-1) (uc-1)) (ks.drop 1) W (hC.below (zd hA hb)) ((KS.dropc hu 1 (by omega)).below (zd hA hb)) hkd hdl);have sD:=y8 H hkd hdl;have HR:=zj hR;have hh0:=zj (Below.refl wA.heap.size wA);generalize hp0:pr z0=p0 at *
 try rw[List.drop_one] at *
 generalize hpD:qc pr (ks.drop 1)=pD at *;clear hz0;replace d0:=zh hA d0;clear hC hu H hR hks hkd hdl;have Hm:=zj hm;clear hm;have hwq:IntKind.i64.wrap ((m:Int)-1)=((m-1:Nat):Int):=by rw[IntWalk.i64_in _ ⟨by omega,by omega⟩];omega
 have hq0:¬(((m-1:Nat):Int)<0):=by omega
 have hq2:((m-1:Nat):Int)<(m:Int):=by omega
 have hd1:¬((m:Int)<1):=by omega
 have hd2:¬(uc=1):=by omega
 have hi0:(0:Int)<(m:Int):=by omega
 have hi1:0<m:=by omega
 have hi2:¬(m=0):=by omega
 rw[←hwA] at d0;have HwA:=zj hwA;clear hwA;go_enter func169,ntmps169;go_wp2_with fail;rw[HwA.out];refine zo [(0,0),(1,0),(2,1),(3,0),(4,1),(8,0),(9,0),(10,1),(11,0),(5,2),(6,0),(7,0),(12,2),(13,0),(14,0),(15,0)] (by kernel_rfl) (by kernel_rfl) ?_;have hS:=fun W (h:Cl wA.drew W)=>HS.out W (zd bR.drew h.below)
 have hb0:=zj (show Below wA.heap.size wA wA.drew from bR.drew)
 iterate 9 ((first|refine zl rfl (by rfl) (by decide) ?_|(apply zk rfl (by rfl);· (intro w';go_simp;first|done|with_reducible rfl|(rw[if_neg (by first|omega|(simp;omega))];try with_reducible rfl)))|(apply zt hS rfl (by rfl);· (intro w' hw';go_split_ands;go_simp;try with_reducible rfl))|fail);simp only[Act.put,zD,lsZ,lsS])
 clear hS;refine zq rfl (by rfl) (fun K hK V hV=>?_);have hbV:=zd hb0.out hV.below;go_simp;refine (HN0.out V hbV).mono ?_;rintro e w1 ⟨b1,rfl,hq1,f1⟩;have zz_1:=zQ hq1;replace hq1:=zj hq1;have hb1:=zj (zd hbV f1);go_simp;refine⟨zV.2 f1,hK _ _ ?_⟩;clear hK K hbV hV
 try simp only[Act.put,zD,lsZ,lsS]
 iterate 2 ((first|refine zl rfl (by rfl) (by decide) ?_|(apply zk rfl (by rfl);· (intro w';go_simp;first|done|with_reducible rfl|(rw[if_neg (by first|omega|(simp;omega))];try with_reducible rfl)))|fail);simp only[Act.put,zD,lsZ,lsS])
 refine zq rfl (by rfl) (fun K hK V hV=>?_);have hbV:=zd hb1.out hV.below;go_simp;refine (HD.out V hbV).mono ?_;rintro e w2 ⟨b2,rfl,hq2,f2⟩;have zz_2:=zQ hq2;replace hq2:=zj hq2;have hb2:=zj (zd hbV f2);go_simp;refine⟨zV.2 f2,hK _ _ ?_⟩;clear hK K hbV hV
 try simp only[Act.put,zD,lsZ,lsS]
 iterate 3 ((first|refine zl rfl (by rfl) (by decide) ?_|(apply zk rfl (by rfl);· (intro w';go_simp;first|done|with_reducible rfl|(rw[if_neg (by first|omega|(simp;omega))];try with_reducible rfl)))|fail);simp only[Act.put,zD,lsZ,lsS])
 refine zu fun W hW=>?_
 have hbW:=zj (zd hA (zd hb2.out hW.below));go_wp2_with fail;go_ret;refine⟨_,rfl,?_,hbW.out⟩;rw[←HR.out];simp[zx,hq1.out,hq2.out]
theorem zfG(H:yt P nv iv l kv pr n)(t:List UInt8)(k a:Int)(ks:List Int)(u:Value)(w:World)(hC:jG w P nv iv l kv)(hu:KS w u ks)(hks:∀k∈ks,0≤k∧k<(n:Int))(hkl:ks.length≤100000)(hm1:2≤ks.length)(ht:t.length≤3000):Calls prog 169 #[.pointer (some ⟨P,0,none⟩),xI ⟨33,t,k,ks,a⟩ u] w (qW w (zG pr ⟨33,t,k,ks,a⟩)):=by
 unfold xI;obtain⟨m,g,off,uc,wA,rfl,hm,hu,hcap,hwA,hA,⟨c0,c1,c2,c3,c4⟩,HS⟩:=ko hu (by omega) 33 t k a;rw[hm] at hkl hm1;obtain⟨zL,hzL,lL,dL⟩:=zfV hu hm hks (j:=m-1) (by omega);obtain⟨R,hR⟩:=exE (zG pr ⟨33,t,k,ks,a⟩);rw[hR];simp[zG,zI] at hR
 try rw[hm] at hR
 try rw[hzL] at hR
 replace HS:=zj (fun W (hb:Below wA.heap.size wA W)=>And.intro (HS W hb) (show W.cell? ⟨g,off+(m-1),none⟩=some (.int .i64 zL) from zh hb (zh hA dL)));have HZ:=zj (jo H hC hA lL);have sL:=H.len zL lL;have HH:=zj (show ∀W,Below wA.heap.size wA W→Calls prog 231 #[.pointer (some ⟨P,0,none⟩),.agg #[.int .u8 33,.string ⟨t.toArray⟩,.int .i64 k,.slice (some ⟨g,off,none⟩) m uc,.int .i64 a],.int .i64 1] W (qW W (yM pr ⟨33,t,k,ks,a⟩ 1)) from fun W hb=>Zc H ⟨33,t,k,ks,a⟩ (.slice (some ⟨g,off,none⟩) m uc) 1 W (hC.below (zd hA hb)) (hu.below (zd hA hb)) hks (by simp only;omega) (by simp only;omega));have sH:=kG H (x:=⟨33,t,k,ks,a⟩) (wo:=1) hks (by simp only;omega) (by simp only;omega);have HR:=zj hR;have hh0:=zj (Below.refl wA.heap.size wA);generalize hpH:yM pr ⟨33,t,k,ks,a⟩ 1=pH at *;generalize hpZ:pr zL=pZ at *;clear hzL;replace dL:=zh hA dL;clear hC hu H hR hks;have Hm:=zj hm;clear hm;have hwq:IntKind.i64.wrap ((m:Int)-1)=((m-1:Nat):Int):=by rw[IntWalk.i64_in _ ⟨by omega,by omega⟩];omega
 have hq0:¬(((m-1:Nat):Int)<0):=by omega
 have hq2:((m-1:Nat):Int)<(m:Int):=by omega
 have hi0:(0:Int)<(m:Int):=by omega
 have hi1:0<m:=by omega
 have hi2:¬(m=0):=by omega
 rw[←hwA] at dL;have HwA:=zj hwA;clear hwA;go_enter func169,ntmps169;go_wp2_with fail;rw[HwA.out];refine zo [(0,0),(1,1),(5,0),(6,0),(7,1),(8,0),(9,1),(10,0),(11,0),(12,0),(13,1),(2,2),(3,0),(4,0),(14,2),(15,0),(16,0)] (by kernel_rfl) (by kernel_rfl) ?_;have hS:=fun W (h:Cl wA.drew W)=>HS.out W (zd bR.drew h.below)
 have hb0:=zj (show Below wA.heap.size wA wA.drew from bR.drew)
 iterate 11 ((first|refine zl rfl (by rfl) (by decide) ?_|(apply zk rfl (by rfl);· (intro w';go_simp;first|done|with_reducible rfl|(rw[if_neg (by first|omega|(simp;omega))];try with_reducible rfl)))|(apply zt hS rfl (by rfl);· (intro w' hw';go_split_ands;go_simp;try with_reducible rfl))|fail);simp only[Act.put,zD,lsZ,lsS])
 clear hS;refine zq rfl (by rfl) (fun K hK V hV=>?_);have hbV:=zd hb0.out hV.below;go_simp;refine (HH.out V hbV).mono ?_;rintro e w1 ⟨b1,rfl,hq1,f1⟩;have zz_1:=zQ hq1;replace hq1:=zj hq1;have hb1:=zj (zd hbV f1);go_simp;refine⟨zV.2 f1,hK _ _ ?_⟩;clear hK K hbV hV
 try simp only[Act.put,zD,lsZ,lsS]
 iterate 2 ((first|refine zl rfl (by rfl) (by decide) ?_|(apply zk rfl (by rfl);· (intro w';go_simp;first|done|with_reducible rfl|(rw[if_neg (by first|omega|(simp;omega))];try with_reducible rfl)))|fail);simp only[Act.put,zD,lsZ,lsS])
 refine zq rfl (by rfl) (fun K hK V hV=>?_);have hbV:=zd hb1.out hV.below;go_simp;refine (HZ.out V hbV).mono ?_;rintro e w2 ⟨b2,rfl,hq2,f2⟩;have zz_2:=zQ hq2;replace hq2:=zj hq2;have hb2:=zj (zd hbV f2);go_simp;refine⟨zV.2 f2,hK _ _ ?_⟩;clear hK K hbV hV
 try simp only[Act.put,zD,lsZ,lsS]
 iterate 2 ((first|refine zl rfl (by rfl) (by decide) ?_|(apply zk rfl (by rfl);· (intro w';go_simp;first|done|with_reducible rfl|(rw[if_neg (by first|omega|(simp;omega))];try with_reducible rfl)))|fail);simp only[Act.put,zD,lsZ,lsS])
 refine zu fun W hW=>?_
 have hbW:=zj (zd hA (zd hb2.out hW.below));go_wp2_with fail;go_ret;refine⟨_,rfl,?_,hbW.out⟩;rw[←HR.out];simp[zx,hq1.out,hq2.out]
end
end
end Go.Proofs.YtcagibbaeageoaaGreatDoor
