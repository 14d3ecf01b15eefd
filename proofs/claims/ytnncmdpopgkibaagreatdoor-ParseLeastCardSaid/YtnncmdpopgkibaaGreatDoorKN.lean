/-
  A part of the proof: contracts of functions; no conditions.
-/
import Derived.Test.YtnncmdpopgkibaaGreatDoorKE
import Derived.Test.YtnncmdpopgkibaaGreatDoorKJ
import Derived.MapKept
import Derived.Carry
import Derived.OwnWalk
set_option maxRecDepth 100000
set_option maxHeartbeats 40000000
set_option linter.unusedSimpArgs false
set_option linter.unusedVariables false
namespace Lode
section
open Go Go.RowKit
def QU:Nat->List (Nat×Value)->List MapEntry
 |_,[]=>[]
 |b,x :: r=>⟨.int .u8 x.1,x.2,b⟩ :: QU (b+1) r
abbrev ZN(l:List (Nat×Value)):Obj:=.map (QU 0 l).toArray l.length
theorem zfg:∀(l:List (Nat×Value)) (b:Nat),(QU b l).length=l.length
 |[],_=>rfl
 |_ :: r,b=>by
  simp only[QU,pK,zfg r]
theorem Yd:∀(l:List (Nat×Value)) (b:Nat) (x:Nat×Value),QU b (l ++ [x])=QU b l ++ [⟨.int .u8 x.1,x.2,b+l.length⟩]
 |[],_,_=>rfl
 |y :: r,b,x=>by
  simp only[pT,QU,Yd r (b+1) x,pK];rw[show b+1+r.length=b+(r.length+1) by omega]
theorem Zm:∀(l:List (Nat×Value)) (b i k:Nat),(∀x∈l,x.1≠k)->Instr.findNow (.int .u8) (.int .u8 k) (QU b l) i=some none
 |[],_,_,_,_=>rfl
 |y :: r,b,i,k,h=>by
  have h1:=h y (List.mem_cons_self ..);have e:((k:Int) == (y.1:Int))=false:=bfE (by omega)
  simp only[QU,Instr.findNow,Instr.sameNow,if_true,e];exact Zm r (b+1) (i+1) k (fun x hx=>h x (pY _ hx))
theorem Qu:∀(l:List (Nat×Value)) (b i k:Nat) (v:Value),(l.find? fun x=>x.1 == k)=some (k,v)->∃j,Instr.findNow (.int .u8) (.int .u8 k) (QU b l) i=some (some (j,v))
 |[],_,_,_,_,h=>by cases h
 |y :: r,b,i,k,v,h=>by
  by_cases hk:y.1=k
  ·rw[List.find?_cons,show (y.1 == k)=true by simpa using hk] at h;have e:((k:Int) == (y.1:Int))=true:=by rw[pS];omega
   cases h;refine⟨i,?_⟩;simp only[QU,Instr.findNow,Instr.sameNow,if_true,e]
  ·rw[List.find?_cons,show (y.1 == k)=false by simpa using hk] at h;have e:((k:Int) == (y.1:Int))=false:=bfE (by omega)
   obtain⟨j,hj⟩:=Qu r (b+1) (i+1) k v h;refine⟨j,?_⟩;simp only[QU,Instr.findNow,Instr.sameNow,if_true,e];exact hj
section
variable {P:Program} {w:World}
theorem zbk{kt:TypeId}(hk:P.underlying kt=some (.int .u8))(k:Nat)(e:Bool):(Instr.checkKey e 10000 kt (.int .u8 k)).run P w=.ok () w:=Go.MapKept.run_checkKey (d:=.int .u8) hk (by simp[Go.MapKept.IsKey]) _ 9999
theorem VY{t kt et:TypeId}(ht:P.underlying t=some (.map kt et))(hk:P.underlying kt=some (.int .u8)){z:Value}(hz:(zeroValue et).run P w=.ok z w){r:Nat}{l:List (Nat×Value)}(hb:w.heap[r]? =some (ZN l))(k:Nat):
 (Instr.lookup t (.map (some r)) (.int .u8 k) true).run P w=.ok (.tuple #[((l.find? fun x=>x.1 == k).map Prod.snd).getD z,.bool (l.find? fun x=>x.1 == k).isSome]) w:=by
 have h1:=fun e=>zbk (P:=P) (w:=w) hk k e
 cases hf:l.find? fun x=>x.1 == k with
 |none=>
  have hn:∀x∈l,x.1≠k:=fun x hx e=>by
   rw[List.find?_eq_none] at hf;exact hf x hx (by simpa using e)
  have h2:=Go.MapKept.run_findKey (w:=w) hk (show Instr.findNow (.int .u8) (.int .u8 k) (QU 0 l).toArray.toList 0=some none by simpa using Zm l 0 0 k hn);simp[Instr.lookup,run_underlying ht,Go.MapKept.run_getObj_map hb,h1,Result.andThen] at h2 ⊢;simp[h2,hz,Result.andThen]
 |some x=>
  obtain⟨kx,v⟩:=x;have hkx:kx=k:=by simpa using List.find?_some hf
  subst hkx;obtain⟨j,hj⟩:=Qu l 0 0 kx v hf;have h2:=Go.MapKept.run_findKey (w:=w) hk (show Instr.findNow (.int .u8) (.int .u8 kx) (QU 0 l).toArray.toList 0=some (some (j,v)) by simpa using hj);simp[Instr.lookup,run_underlying ht,Go.MapKept.run_getObj_map hb,h1,Result.andThen] at h2 ⊢;simp[h2]
theorem zkM{t kt et:TypeId}(ht:P.underlying t=some (.map kt et))(hk:P.underlying kt=some (.int .u8)){r:Nat}{l:List (Nat×Value)}(hb:w.heap[r]? =some (ZN l))(k:Nat)(v:Value)(hn:∀x∈l,x.1≠k):
 (Instr.mapUpdate t (.map (some r)) (.int .u8 k) v).run P w=.ok () {w with heap:=w.heap.setIfInBounds r (ZN (l ++ [(k,v)]))}:=by
 have h1:=fun e=>zbk (P:=P) (w:=w) hk k e
 have h2:=Go.MapKept.run_findKey (w:=w) hk (show Instr.findNow (.int .u8) (.int .u8 k) (QU 0 l).toArray.toList 0=some none by simpa using Zm l 0 0 k hn);have e:ZN (l ++ [(k,v)])=.map ((QU 0 l).toArray.push ⟨.int .u8 k,v,l.length⟩) (l.length+1):=by
  unfold ZN;rw[Yd];simp
 rw[e];simp[Instr.mapUpdate,run_underlying ht,Go.MapKept.run_getObj_map hb,h1,Result.andThen] at h2 ⊢;simp[h2,Go.MapKept.run_setObj_map _ hb]
theorem zh0{t kt et:TypeId}(ht:P.underlying t=some (.map kt et))(hk:P.underlying kt=some (.int .u8)){z:Value}(hz:∀w:World,(zeroValue et).run P w=.ok z w){r:Nat}{l:List (Nat×Value)}(hb:w.heap[r]? =some (ZN l))(k:Nat)(hn:∀x∈l,x.1≠k):
 (Instr.mapEntry t (.map (some r)) (.int .u8 k)).run P w=.ok (.tuple #[z,.int .i64 l.length]) {w with heap:=w.heap.setIfInBounds r (ZN (l ++ [(k,z)]))}:=by
 have h1:=fun e=>zbk (P:=P) (w:=w) hk k e
 have h2:=Go.MapKept.run_findKey (w:=w) hk (show Instr.findNow (.int .u8) (.int .u8 k) (QU 0 l).toArray.toList 0=some none by simpa using Zm l 0 0 k hn);have e:ZN (l ++ [(k,z)])=.map ((QU 0 l).toArray.push ⟨.int .u8 k,z,l.length⟩) (l.length+1):=by
  unfold ZN;rw[Yd];simp
 rw[e];simp[Instr.mapEntry,run_underlying ht,Go.MapKept.run_getObj_map hb,h1,Result.andThen] at h2 ⊢;simp[h2,hz,Go.MapKept.run_setObj_map _ hb,Result.andThen,goInt]
theorem zas:∀(l:List (Nat×Value)) (b:Nat) (x:Nat×Value),(QU b (l ++ [x])).findIdx? (fun e=>(e.born:Int) == ((b+l.length:Nat):Int))=some l.length
 |[],b,x=>by simp[QU,List.findIdx?_cons]
 |y :: r,b,x=>by
  have ih:=zas r (b+1) x;have e:((b:Int) == ((b+(y :: r).length:Nat):Int))=false:=by
   rw[pB,pK];omega
  rw[pT];simp only[QU,List.findIdx?_cons,e];rw[show b+(y :: r).length=b+1+r.length by rw[pK];omega,ih];simp
theorem QS{α:Type}(f:α->α)(x:α):∀l:List α,(l ++ [x]).modify l.length f=l ++ [f x]
 |[]=>rfl
 |y :: l=>by
  show y :: (l ++ [x]).modify l.length f=y :: (l ++ [f x])
  rw[QS f x l]
theorem zhZ{t:TypeId}{r:Nat}{l:List (Nat×Value)}{z:Value}{k:Nat}(hb:w.heap[r]? =some (ZN (l ++ [(k,z)])))(v:Value):
 (Instr.entryStore t (.map (some r)) (.int .i64 l.length) v).run P w=.ok () {w with heap:=w.heap.setIfInBounds r (ZN (l ++ [(k,v)]))}:=by
 have hf:=zas l 0 (k,z);rw[Nat.zero_add] at hf;have hf2:(QU 0 (l ++ [(k,z)])).toArray.findIdx? (fun e=>(e.born:Int) == (l.length:Int))=some l.length:=by
  rw[List.findIdx?_toArray];exact hf
 have e:ZN (l ++ [(k,v)])=.map ((QU 0 (l ++ [(k,z)])).toArray.modify l.length fun e=>{e with val:=v}) (l ++ [(k,z)]).length:=by
  unfold ZN;rw[Yd,Yd];simp only[pC,pI];congr 1;apply Array.ext';rw[Array.toList_modify];simp only;have:=QS (fun e:MapEntry=>{e with val:=v}) ⟨.int .u8 k,z,0+l.length⟩ (QU 0 l);rw[zfg] at this;exact this.symm
 rw[e];have ha:(asInt (.int .i64 l.length)).run P w=.ok (l.length:Int) w:=rfl;simp only[Instr.entryStore,Sem.run_bind,Go.MapKept.run_getObj_map hb,Result.andThen,ha];rw[hf2];exact Go.MapKept.run_setObj_map _ hb
end
end
end Lode
namespace Go.Proofs.YtnncmdpopgkibaaGreatDoor
section
open Go.RowKit Lode Go.Shelf
attribute [local go_sem ↓] Go.wp_at_zero Go.wp_at_succ
open Go.Proofs.Tryz
theorem zbV(k:Nat):(∃(j:Nat) (x:List UInt8×Nat×Int),Xo (fun x=>x.2.1 == k) zM=j/\zM[j]? =some x/\(zM.find? fun x=>x.2.1 == k)=some x)\/(Xo (fun x=>x.2.1 == k) zM= -1/\(zM.find? fun x=>x.2.1 == k)=none):=Jz _ _
theorem Jm(b:Nat)(k:Nat)(x0:List UInt8)(x1:Nat)(x2:Int)(w:World)(hq:w.cell? ⟨b,0,none⟩=some (.int .u8 k)):Calls prog 156 #[JG x0 x1 x2,.pointer (some ⟨b,0,none⟩)] w (kQ w (.bool (x1 == k))):=by
 unfold JG;have hA:=zf w (.cells #[.string ⟨x0.toArray⟩,.int .u8 x1,.int .i64 x2] 178 (0,0));have hz:=zd (zk w (.cells #[.string ⟨x0.toArray⟩,.int .u8 x1,.int .i64 x2] 178 (0,0))) 1;have hq:=zj hA hq;have e:(x1 == k)=((x1:Int) == (k:Int)):=by rw[pW];simp;omega
 rw[e];go_enter func156,ntmps156;go_wp2;go_ret;exact⟨rfl,hA⟩
def zaD(k:Nat):Value:=match zM.find? fun x=>x.2.1 == k with
 |some x=>.tuple #[JG x.1 x.2.1 x.2.2,.bool true]
 |none=>.tuple #[JG [] 0 0,.bool false]
theorem JF(k:Nat)(w:World):Calls prog 114 #[.int .u8 k] w (kQ w (zaD k)):=by
 have hmf:∀(fn:Fn) (first cap:Array Value) (w:World),(Instr.makeFunc fn first cap).run prog w=.ok (.func fn first cap) w:=fun _ _ _ _=>rfl
 have hA:=zf w (.cells #[.int .u8 k] 5 (0,0));have hB:=zg hA (zf (w.alloc (.cells #[.int .u8 k] 5 (0,0))) (.cells #[.string ⟨#[]⟩,.int .u8 0,.int .i64 0] 178 (0,0)));have hs1:=zh (zf (w.alloc (.cells #[.int .u8 k] 5 (0,0))) (.cells #[.string ⟨#[]⟩,.int .u8 0,.int .i64 0] 178 (0,0))) (zk w (.cells #[.int .u8 k] 5 (0,0)));have hr1:=zk (w.alloc (.cells #[.int .u8 k] 5 (0,0))) (.cells #[.string ⟨#[]⟩,.int .u8 0,.int .i64 0] 178 (0,0));rw[show (w.alloc (.cells #[.int .u8 k] 5 (0,0))).heap.size=w.heap.size+1 by simp] at hr1;replace hs1:=zi hs1;replace hr1:=zi hr1;have hwo:=zi (zbV k);go_enter func114,ntmps114;go_wp2_with fail;refine (XQ _).mono ?_;rintro e w2 ⟨g,rfl,hg,hW,hb2⟩;have hB2:=zg hB hb2;have hs2:=zh hb2 hs1.out;have hr2:=zh hb2 hr1.out;have HI:=zi (Kv g 14 14 156 ⟨w.heap.size,0,none⟩ zM (fun x=>x.2.1 == k) w2 (enters_of (P:=prog) func156 (by kernel_rfl) rfl) rfl (by decide) hW (fun W x hb _=>Jm w.heap.size k x.1 x.2.1 x.2.2 W (zj hb (zd hs2 0))));replace hW:=zi hW;replace hs2:=zi hs2;replace hr2:=zi hr2;generalize Xo (fun x=>x.2.1 == k) zM=i at *;go_wp2_with fail;refine HI.out.mono ?_;rintro e w3 ⟨rfl,hb3⟩;have hB3:=zg hB2 hb3;have hr3:=zh hb3 hr2.out;rcases hwo.out with⟨j,x,rfl,hx,hw⟩|⟨rfl,hw⟩
 ·have hw:=zi hw;obtain⟨c0,c1,c2⟩:=hW.out.below hb3 j x hx;have hj:j<14:=(gtL hx);have hlt:¬((j:Int)<0):=by omega
  have hlt2:(j:Int)<14:=by omega
  obtain⟨x0,x1,x2⟩:=x;simp only at c0 c1 c2 hw ⊢;have f0:∀j,w3.frozen? ⟨w.heap.size+1,j,none⟩=false:=fun j=>zl hr3 j
  have d0:=zd hr3 0;have d1:=zd hr3 1;have d2:=zd hr3 2;replace hr3:=zi hr3;go_wp2_with fail;have z1:=zr hr3.out 0 (.string ⟨x0.toArray⟩);have z2:=zr z1 1 (.int .u8 x1);have z3:=zr z2 2 (.int .i64 x2);refine bodyPost_ret (v:=.tuple #[.agg #[.string ⟨x0.toArray⟩,.int .u8 x1,.int .i64 x2],.bool true]) (by simp[results,results114,go_sem,zd z3]) rfl ?_;exact⟨by unfold zaD;rw[hw.out];rfl,((hB3.setCell (by simp) _).setCell (by simp) _).setCell (by simp) _⟩
 ·have hw:=zi hw;have f0:∀j,w3.frozen? ⟨w.heap.size+1,j,none⟩=false:=fun j=>zl hr3 j
  have d0:=zd hr3 0;have d1:=zd hr3 1;have d2:=zd hr3 2;replace hr3:=zi hr3;go_wp2_with fail;have z1:=zr hr3.out 0 (.string ⟨#[]⟩);have z2:=zr z1 1 (.int .u8 0);have z3:=zr z2 2 (.int .i64 0);refine bodyPost_ret (v:=.tuple #[.agg #[.string ⟨#[]⟩,.int .u8 0,.int .i64 0],.bool false]) (by simp[results,results114,go_sem,zd z3]) rfl ?_;exact⟨by unfold zaD;rw[hw.out];rfl,((hB3.setCell (by simp) _).setCell (by simp) _).setCell (by simp) _⟩
theorem zdO(s:List UInt8)(w:World)(hs:s.length<=1000000000000):Calls prog 109 #[.string ⟨s.toArray⟩] w (kQ w (.string ⟨(qA s).1.toArray⟩)):=by
 have hQ:=zi (Ks ⟨s.toArray⟩ w hs);simp only at hQ;generalize qA s=q at *;obtain⟨q1,q2⟩:=q;go_enter func109,ntmps109;go_wp2_with fail;refine hQ.out.mono ?_;rintro e w1 ⟨rfl,hb⟩;go_wp2;go_ret;exact⟨rfl,hb⟩
theorem zcM(s:List UInt8)(w:World)(hs:s.length<=1000000000000)(hG:qH w):Calls prog 47 #[.string ⟨s.toArray⟩] w fun e w'=>e=.returned (.tuple #[.string ⟨(Yb s).1.toArray⟩,.int .i64 ((Yb s).2:Nat)])/\Below w.heap.size w w':=by
 obtain⟨r,hr⟩:=exE (Yb s);rw[hr];unfold Yb at hr;have hR:=zi (Zf ⟨s.toArray⟩ w hs hG);simp only at hR;generalize yQ s=rd at *;obtain⟨l,p,e0⟩:=rd;simp only at hr;by_cases he:e0=0
 ·subst he;rw[if_neg (by simp)] at hr;subst hr;go_enter func47,ntmps47;go_wp2_with fail;refine hR.out.mono ?_;rintro e w1 ⟨v,rfl,_,hb⟩;go_wp2;go_ret2;exact⟨rfl,hb⟩
 ·have he':((e0:Int) == 0)=false:=bfE (by omega)
  rw[if_pos he] at hr;subst hr;go_enter func47,ntmps47;go_wp2_with fail;refine hR.out.mono ?_;rintro e w1 ⟨v,rfl,_,hb⟩;go_wp2;go_ret2;exact⟨rfl,hb⟩
def Qd:List (Nat×List UInt8):=[(22,[111,114]),(21,[97,110,100]),(14,[61,61]),(15,[33,61]),(16,[60]),(17,[60,61]),(18,[62]),(19,[62,61]),(20,[105,115]),(8,[43]),(9,[45]),(10,[43,43]),(11,[42]),(12,[47]),(13,[37])]
def ui:List (Nat×Int):=[(22,1),(21,2),(14,4),(15,4),(16,4),(17,4),(18,4),(19,4),(20,4),(8,5),(9,5),(10,5),(11,6),(12,6),(13,6),(7,3),(6,7),(37,7),(38,7),(39,7),(23,8),(24,8)]
def jb:List (Nat×Value):=Qd.map fun x=>(x.1,.string ⟨x.2.toArray⟩)
def yJ:List (Nat×Value):=ui.map fun x=>(x.1,.int .i64 x.2)
theorem zdL:∀k,k<256->((Qd.find? fun x=>x.1 == k).map Prod.snd)=xE k:=by decide +kernel
theorem zdM:∀k,k<256->((ui.find? fun x=>x.1 == k).map Prod.snd).getD 9=(qj k:Nat):=by decide +kernel
structure PrW(w:World)(P:Nat)(nv iv:Value):Prop where
 maps:∃s r,w.heap[P]? =some (.cells #[nv,iv,.map (some s),.map (some r)] 164 (0,0))/\w.heap[s]? =some (ZN jb)/\w.heap[r]? =some (ZN yJ)
theorem PrW.below{w w':World}{P:Nat}{nv iv:Value}(h:PrW w P nv iv)(hb:Below w.heap.size w w'):PrW w' P nv iv:=by
 obtain⟨s,r,h1,h2,h3⟩:=h.maps;exact⟨s,r,zh hb h1,(hb.block _ (gtA h2)).trans h2,(hb.block _ (gtA h3)).trans h3⟩
theorem zdJ{W:World}{r:Nat}(hb:W.heap[r]? =some (ZN yJ))(k:Nat):(Instr.lookup 162 (.map (some r)) (.int .u8 k) true).run prog W=.ok (.tuple #[((yJ.find? fun x=>x.1 == k).map Prod.snd).getD (.int .i64 0),.bool (yJ.find? fun x=>x.1 == k).isSome]) W:=
 VY (z:=.int .i64 0) underlying162 underlying5 (by kernel_rfl) hb k
theorem QM(k:Nat):(yJ.find? fun x=>x.1 == k)=(ui.find? fun x=>x.1 == k).map fun x=>(x.1,Value.int .i64 x.2):=by
 unfold yJ;rw[List.find?_map];rfl
theorem zhB(l:List Nd)(kv:List Value)(nv iv:Value)(P node:Nat)(x:Nd)(w:World)(hP:PrW w P nv iv)(hN:NS w nv l kv)(hx:l[node]? =some x)(hx255:x.kind<=255):Calls prog 150 #[.pointer (some ⟨P,0,none⟩),.int .i64 node] w (kQ w (.int .i64 (qj x.kind:Nat))):=by
 obtain⟨s,r,h1,_,h3⟩:=hP.maps;obtain⟨np,nc,rfl⟩:=hN.form;have hlt:(node:Int)<(l.length:Int):=by have:=(gtL hx);omega
 have h0:¬((node:Int)<0):=by omega
 obtain⟨g,off,u,rfl,hA⟩:=hN.at hx;have a0:=hA.c0;have hrf:=zdM x.kind (by omega);obtain⟨o,ho⟩:=exE (ui.find? (fun y=>y.1 == x.kind));rw[ho] at hrf;have hlk:=fun (W:World) (hb:W.heap[r]? =some (ZN yJ))=>zdJ hb x.kind
 rw[QM,ho] at hlk;clear ho;have hS:∀W,Cl w.drew W->W.cell? ⟨P,3,none⟩=some (.map (some r))/\W.cell? ⟨P,0,none⟩=some (.slice (some ⟨g,off,none⟩) l.length nc)/\W.cell? ⟨g,off+node*5,none⟩=some (.int .u8 x.kind)/\(Instr.lookup 162 (.map (some r)) (.int .u8 x.kind) true).run prog W=.ok (.tuple #[((o.map fun x=>(x.1,Value.int .i64 x.2)).map Prod.snd).getD (.int .i64 0),.bool (o.map fun x=>(x.1,Value.int .i64 x.2)).isSome]) W:=fun W h=>by
  have hb:=zg (pF w.heap.size w).drew h.below;exact⟨zd (zh hb h1) 3,zd (zh hb h1) 0,zj hb a0,hlk W ((hb.block _ (gtA h3)).trans h3)⟩
 clear hlk hN hA a0 h1 h3 hP hx;cases o with
 |none=>
  have hrf':(9:Int)=(qj x.kind:Nat):=hrf;rw[<-hrf'];simp only[Option.map_none,Option.getD_none,Option.isSome_none] at hS;clear hrf hrf';go_enter func150,ntmps150;go_wp2_with fail;refine zaQ [(0,0),(1,0),(2,0),(3,1),(4,0),(5,0),(6,0),(7,0),(8,1),(9,0),(10,0),(11,0),(12,1),(13,1),(14,0),(15,0),(16,0),(17,0),(18,0)] ?_;refine goM ?_;refine zC fun W hW=>?_
  go_wp2;go_ret;exact⟨rfl,zg (pF w.heap.size w).drew hW.below⟩
 |some y=>
  have hrf':y.2=(qj x.kind:Nat):=hrf;rw[<-hrf'];simp only[Option.map_some,Option.getD_some,Option.isSome_some] at hS;clear hrf hrf';go_enter func150,ntmps150;go_wp2_with fail;refine zaQ [(0,0),(1,0),(2,0),(3,1),(4,0),(5,0),(6,0),(7,0),(8,1),(9,0),(10,0),(11,0),(12,1),(13,1),(14,0),(15,0),(16,0),(17,0),(18,0)] ?_;refine goM ?_;refine zC fun W hW=>?_
  go_wp2;go_ret;exact⟨rfl,zg (pF w.heap.size w).drew hW.below⟩
end
section
open Go.RowKit Lode Go.Shelf
open Go.Proofs.Tryz
theorem Tryz.infoStrP:(prog.info? 9).map (fun i=>(i.zero,i.size,i.bytes))=some (some (.string ⟨#[]⟩),1,16):=by kernel_rfl
theorem zhq{w:World}{base g n cap:Nat}{xs:List Value}(hown:w.ownsRow base 9 1 (.slice (some ⟨g,0,none⟩) n cap) n xs){ad:Addr}{u:Value}(hu:w.cell? ad=some u)(hs:ad.spot=none)(h1:u.oneCell'=true)(hn:n<=1000000)(hbase:base<=w.heap.size)(ty:TypeId):
 ∃g' cap' w',(Builtin.append_ #[111,111] ty #[.slice (some ⟨g,0,none⟩) n cap,.slice (some ad) 1 1]).run prog w=.ok (.slice (some ⟨g',0,none⟩) (n+1) cap') w'/\w'.ownsRow base 9 1 (.slice (some ⟨g',0,none⟩) (n+1) cap') (n+1) (xs ++ [u])/\w.grownBy w' (some g)/\(g'=g\/g'=w.heap.size):=by
 obtain⟨i0,hi,hz0,hz1,hz2⟩:=info_parts Tryz.infoStrP;have hnews:∀j x,[u][j]? =some x->w.cell? (ad.add j)=some x:=fun j x h=>by
  match j,h with
  |0,h=>
   simp at h;subst h;obtain⟨b,o,s⟩:=ad;simp only at hs;subst hs;exact hu
 have h1':∀x∈[u],x.oneCell'=true:=fun x hx=>by rw[wL] at hx;subst hx;exact h1
 obtain⟨v',w',hr,h2,h3,_⟩:=run_append_own (P:=prog) w base 111 ty 9 i0 _ 1 16 underlying111 hi hz0 hz1 hz2 rfl (by decide) _ n xs hown ad 1 1 [u] rfl hnews h1' (by unfold maxLen;omega) (by omega) hbase;have key:∃g' cap',v'=.slice (some ⟨g',0,none⟩) (n+1) cap'/\(g'=g\/g'=w.heap.size):=by
  rcases id hown.2 with⟨h,_⟩|⟨g2,cap2,cur,h,_,hg,hnc,hcm,hcs,htake⟩
  ·simp at h
  ·simp only[Value.slice.injEq,pQ,Addr.mk.injEq,and_true,true_and] at h;obtain⟨rfl,rfl⟩:=h;by_cases hroom:n+1<=cap
   ·have hr2:=run_append_room (P:=prog) w 111 ty 9 i0 underlying111 hi g n cap cur hg ad 1 1 [u] (by rw[hz1];rfl) hnews h1' hroom (by rw[hz1,hcs];simp;omega);rw[hr] at hr2;simp only[Result.ok.injEq] at hr2;exact⟨g,cap,hr2.1,.inl rfl⟩
   ·have hr2:=run_append_grow (P:=prog) w 111 ty 9 i0 _ underlying111 hi hz0 ⟨g,0,none⟩ n cap xs (by rw[hz1];exact hown.1) (hown.cells (g:=g) rfl) ad 1 1 [u] (by rw[hz1];rfl) hnews (by omega) (by omega) (growslice_fits (by omega) (by rw[hz2];omega));rw[hr] at hr2;simp only[Result.ok.injEq] at hr2;exact⟨_,_,hr2.1,.inr rfl⟩
 obtain⟨g',cap',rfl,hg'⟩:=key;exact⟨g',cap',w',hr,h2,h3,hg'⟩
theorem zhr{w:World}{base n:Nat}{v:Value}{xs:List Value}(hown:w.ownsRow base 9 1 v n xs){ad:Addr}{u:Value}(hu:w.cell? ad=some u)(hs:ad.spot=none)(h1:u.oneCell'=true)(hn:n<=1000000)(hbase:base<=w.heap.size)(ty:TypeId):
 ∃g' cap' w',(Builtin.append_ #[111,111] ty #[v,.slice (some ad) 1 1]).run prog w=.ok (.slice (some ⟨g',0,none⟩) (n+1) cap') w'/\w'.ownsRow base 9 1 (.slice (some ⟨g',0,none⟩) (n+1) cap') (n+1) (xs ++ [u])/\w.grownBy w' v.ownBlock/\(v.ownBlock=some g'\/g'=w.heap.size):=by
 rcases id hown.2 with⟨rfl,h0⟩|⟨g,cap,cur,rfl,_⟩
 ·obtain⟨i0,hi,hz0,hz1,hz2⟩:=info_parts Tryz.infoStrP;have hnews:∀j x,[u][j]? =some x->w.cell? (ad.add j)=some x:=fun j x h=>by
   match j,h with
   |0,h=>
    simp at h;subst h;obtain⟨b,o,s⟩:=ad;simp only at hs;subst hs;exact hu
  have h1':∀x∈[u],x.oneCell'=true:=fun x hx=>by rw[wL] at hx;subst hx;exact h1
  obtain⟨v',w',hr,h2,h3,_⟩:=run_append_own (P:=prog) w base 111 ty 9 i0 _ 1 16 underlying111 hi hz0 hz1 hz2 rfl (by decide) _ n xs hown ad 1 1 [u] rfl hnews h1' (by unfold maxLen;omega) (by omega) hbase;have hr2:=run_append_nil (P:=prog) w 111 ty 9 i0 _ underlying111 hi hz0 ad 1 1 [u] (by rw[hz1];rfl) hnews (by decide) (by decide) (by rw[hz2];decide);rw[hr] at hr2;simp only[Result.ok.injEq] at hr2;obtain⟨rfl,rfl⟩:=hr2;subst h0;exact⟨_,_,_,hr,h2,h3,.inr rfl⟩
 ·obtain⟨g',cap',w',a,b,c,d⟩:=zhq hown hu hs h1 hn hbase ty;refine⟨g',cap',w',a,b,c,d.imp (fun h=>?_) id⟩;rw[h];rfl
theorem zbQ{w:World}{ops:Array Oper}{rest:List Oper}{o:Oper}{a:Act}{Q:Exit->Act->World->Prop}(hgd:o.guard=none)(s x:Operand)
 (ho:o.op=.call {callee:=.builtin .append,args:= #[s,x],argTypes:= #[111,111]})
 {base n:Nat} {v:Value} {xs:List Value} (hs:a.eval s=v) (hown:w.ownsRow base 9 1 v n xs) {ad:Addr} {u:Value} (hx:a.eval x=.slice (some ad) 1 1) (hu:w.cell? ad=some u) (hsp:ad.spot=none) (h1:u.oneCell'=true) (hn:n<=1000000) (hbase:base<=w.heap.size)
 (h:∀g' cap' w',w'.ownsRow base 9 1 (.slice (some ⟨g',0,none⟩) (n+1) cap') (n+1) (xs ++ [u])->w.grownBy w' v.ownBlock->(v.ownBlock=some g'\/g'=w.heap.size)->wpList prog ops Q rest (a.put o.dst (.slice (some ⟨g',0,none⟩) (n+1) cap')) w'):wpList prog ops Q (o :: rest) a w:=by
 refine wpList_plain hgd fun K hK=>?_
 obtain⟨g',cap',w',hr,h2,h3,h4⟩:=zhr hown hu hsp h1 hn hbase o.type;unfold Oper.wp;simp[execOp,ho,resolve,invoke,builtin,hs,hx,hr,Result.andThen];exact hK _ _ (h g' cap' w' h2 h3 h4)
end
section
open Go.RowKit Lode Go.Shelf
attribute [local go_sem ↓] Go.wp_at_zero Go.wp_at_succ
open Go.Proofs.Tryz
theorem KS.take{w:World}{g off n cap:Nat}{l:List Int}(h:KS w (.slice (some ⟨g,off,none⟩) n cap) l)(b:Nat)(hb:b<=l.length):KS w (.slice (some ⟨g,off,none⟩) b cap) (l.take b):=by
 have h1:=h.cap;have:=h.sub (cap':=cap) 0 b (pU _) hb (by omega);simpa using this
theorem KS.dropc{w:World}{g off n cap:Nat}{l:List Int}(h:KS w (.slice (some ⟨g,off,none⟩) n cap) l)(a:Nat)(ha:a<=l.length):KS w (.slice (some ⟨g,off+a,none⟩) (n-a) (cap-a)) (l.drop a):=by
 have h1:=h.cap;have:=h.sub (cap':=cap-a) a l.length ha (pE _) (by omega);rw[List.take_length,<-h1.1] at this;exact this
def Vf(w:World)(l:List UInt8)(e:Ending)(w':World):Prop:=∃b:ByteArray,e=.returned (.string b)/\b.data.toList=l/\Below w.heap.size w w'
theorem xo{b:ByteArray}{l:List UInt8}(h:b.data.toList=l):b.size=l.length:=by rw[<-h];rfl
theorem prM{l:List Oper}{Q:Act->World->Prop}{q:List (Nat×Nat)}{wA b:World}{a:Act}{i:Nat}{o:Oper}{fn:Nat}{args:Array Value}{x:List UInt8}(hi':l[i]? =some o)(hw:Region.wanted o (yielded l.toArray a.tmps)=true)(hop:∀w,(execOp a.eval o).run prog w=.ok (.enter fn args) w)(HN:Hid (∀V,Below wA.heap.size wA V->Calls prog fn args V (Vf V x)))(hb:Hid (Below wA.heap.size wA b))(h:∀(s:ByteArray) w1,Hid (s.data.toList=x)->s.size=x.length->Hid (Below wA.heap.size wA w1)->kh prog l.toArray Q q w1 (a.put o.dst (.string s))):kh prog l.toArray Q ((i,2) :: q) b a:=by
 refine zZ hi' hw fun K hK V hV=>?_
 unfold Oper.wp;rw[hop V];refine (HN.out V (zg hb.out hV.below)).mono ?_;rintro e w1 ⟨s,rfl,hs,f⟩;exact⟨ux.2 f,hK _ _ (h s w1 (zi hs) (xo hs) (zi (zg (zg hb.out hV.below) f)))⟩
structure PrC(w:World)(P:Nat)(nv iv:Value)(l:List Nd)(kv:List Value):Prop where
 pr:PrW w P nv iv
 ns:NS w nv l kv
 gl:qH w
theorem PrC.below{w w':World}{P:Nat}{nv iv:Value}{l:List Nd}{kv:List Value}(h:PrC w P nv iv l kv)(hb:Below w.heap.size w w'):PrC w' P nv iv l kv:=⟨h.pr.below hb,h.ns.below hb,h.gl.later hb⟩
structure kR(P:Nat)(nv iv:Value)(l:List Nd)(kv:List Value)(pr:Int->List UInt8)(n:Nat):Prop where
 ok:∀(w:World) (i:Nat),i<n->PrC w P nv iv l kv->Calls prog 79 #[.pointer (some ⟨P,0,none⟩),.int .i64 i] w (Vf w (pr i))
 len:∀i:Nat,i<n->(pr i).length<=3200000
 le:n<=l.length
 kind:∀x∈l,x.kind<=255
section
variable {P:Nat} {nv iv:Value} {l:List Nd} {kv:List Value} {pr:Int→List UInt8} {n:Nat}
theorem zfh(H:kR P nv iv l kv pr n)(i least:Nat)(w:World)(hC:PrC w P nv iv l kv)(hi:i<n):Calls prog 107 #[.pointer (some ⟨P,0,none⟩),.int .i64 i,.int .i64 least] w (Vf w (jq l pr i least)):=by
 obtain⟨x,hx⟩:∃x,l[i]? =some x:=⟨_,glE (wI hi H.le)⟩;have hka:zE l i=x.kind:=by
  unfold zE;rw[wE,hx];rfl
 have hN:=zi (H.ok w i hi hC);have hR:=zi (fun W (hb:Below w.heap.size w W)=>zhB l kv nv iv P i x W (hC.below hb).pr (hC.below hb).ns hx (H.kind x (wK hx)));have hlen:=H.len i hi;obtain⟨r,hr⟩:=exE (jq l pr i least);rw[hr];unfold jq at hr;rw[hka] at hr;clear hC hx hka;generalize qj x.kind=rk at *;generalize pr i=t at *;have Hr:=zi hr;clear hr H;go_enter func107,ntmps107;go_wp2_with fail;refine hN.out.mono ?_;rintro e w1 ⟨b,rfl,hb,hb1⟩;have hsz:=xo hb;have HB:=zi hb;have hR2:=zi (hR.out w1 hb1);clear hb;go_wp2_with fail;refine hR2.out.mono ?_;rintro e w2 ⟨rfl,hb2⟩;by_cases hlt:rk<least
 ·have hlt':(rk:Int)<(least:Int):=by omega
  have h:=Hr.out;rw[if_pos hlt] at h;subst h;go_wp2;go_ret;refine⟨_,rfl,?_,zg hb1 hb2⟩;rw[<-HB.out];simp[zq]
 ·have hlt':¬(rk:Int)<(least:Int):=by omega
  have h:=Hr.out;rw[if_neg hlt] at h;subst h;go_wp2;go_ret;exact⟨_,rfl,HB.out,zg hb1 hb2⟩
def zeZ(xs:List ByteArray):List Value:=xs.map Value.string
def zko(pr:Int->List UInt8)(ks:List Int)(w:World)(out i:Value)(wr:World):Prop:=∃(j:Nat) (xs:List ByteArray),i=.int .i64 j/\j<=ks.length/\wr.ownsRow w.heap.size 9 1 out j (zeZ xs)/\xs.map (·.data.toList)=(ks.take j).map pr/\Below w.heap.size w wr
theorem QV:∀l:List (List UInt8),Go.Lib.join l [44,32]=kZ l
 |[]=>rfl
 |[x]=>by simp[Go.Lib.join,kZ]
 |x :: y :: r=>by
  have ih:=QV (y :: r);unfold kZ;rw[<-ih];simp[Go.Lib.join,List.intercalate,List.intersperse]
theorem ZI{ls:List (List UInt8)}{c:Nat}(h:∀x∈ls,x.length<=c):(kZ ls).length<=(c+2)*ls.length:=by
 induction ls with
 |nil=>simp[kZ]
 |cons x r ih=>
  have h1:=h x (List.mem_cons_self ..);have h2:=ih (fun y hy=>h y (pY _ hy));cases r with
  |nil=>
   simp only[kZ,pK,pR];omega
  |cons y r=>
   unfold kZ;simp only[pC,pK,pR] at h2 ⊢;rw[Nat.mul_add];omega
theorem jr(H:kR P nv iv l kv pr n){ks:List Int}(hks:∀k∈ks,0<=k/\k<(n:Int))(hkl:ks.length<=100000):(xY pr ks).length<=320000200000:=by
 have:=ZI (ls:=ks.map pr) (c:=3200000) (fun y hy=>by
  obtain⟨k,hk,rfl⟩:=List.mem_map.1 hy;obtain⟨h0,h1⟩:=hks k hk;obtain⟨kn,rfl⟩:=pP h0;exact H.len kn (by omega))
 rw[wV] at this;unfold xY;omega
theorem Ze(H:kR P nv iv l kv pr n)(v:Value)(ks:List Int)(w:World)(hC:PrC w P nv iv l kv)(hv:KS w v ks)(hks:∀k∈ks,0<=k/\k<(n:Int))(hkl:ks.length<=100000):Calls prog 111 #[.pointer (some ⟨P,0,none⟩),v] w (Vf w (xY pr ks)):=by
 obtain⟨p,cap,rfl⟩:=hv.form;obtain⟨m,hm⟩:=exE (ks.length);rw[hm] at hv hkl ⊢;have Hm:=zi hm;have HV:=zi hv;have HC:=zi hC;have HK:=zi hks;have HH:=zi H;have hst:=zi (show zko pr ks w (.slice none 0 0) (.int .i64 0) w from ⟨0,[],rfl,pU _,⟨rfl,.inl ⟨rfl,rfl⟩⟩,rfl,pF _ _⟩);clear hm hv hC hks H;go_enter func111,ntmps111;go_wp2;go_loopw [5,10] (zko pr ks w) (fun _ i _=>m-(intOf i).toNat)
 case atStart=>exact hst.out
 case round=>
  rename_i out _;obtain⟨j,xs,rfl,hj,hown,hxs,hb⟩:=hrel;rw[Hm.out] at hj;by_cases hlt:j<m
  ·have hlt':(j:Int)<(m:Int):=by omega
   have hj0:¬((j:Int)<0):=by omega
   have hy:=pJ ((j:Int)+1) (by omega);have hjl:j<ks.length:=by rw[Hm.out];omega
   obtain⟨g2,off2,rfl,_,d0⟩:=(HV.out.below hb).at hjl;have hzz:=HK.out (ks.getD j 0) (by rw[pA,glE hjl];exact wC hjl);have htk:(ks.take (j+1)).map pr=(ks.take j).map pr ++ [pr (ks.getD j 0)]:=by
    rw[wZ,glE hjl,pA,glE hjl,List.map_append];rfl
   generalize ks.getD j 0=z at *;obtain⟨zn,rfl⟩:=pP hzz.1;have hN:=zi (HH.out.ok wr zn (by omega) (HC.out.below hb));have HXS:=zi hxs;have HTK:=zi htk;have hown':=zi hown;clear hxs htk hown hzz;go_wp2_with fail;refine hN.out.mono ?_;rintro e w1 ⟨b,rfl,hbb,hb1⟩;have HB:=zi hbb;have hbw1:=zg hb hb1;have hown2:=zu (zu hown'.out hb1) (zf w1 (.cells #[.string b] 9 (0,0)));have hbA:=zg hbw1 (zf w1 (.cells #[.string b] 9 (0,0)));have hsz:=hbw1.size;clear hbb;go_wp2_with (at_builtin;refine zbQ rfl _ _ rfl rfl hown2 rfl (zd (zk w1 _) 0) rfl rfl (by omega) (by simp;omega) ?_);intro g' cap' w2 hrow hgrow hg';have hb2:=vJ hbA hown2 hgrow;have hrow2:w2.ownsRow w.heap.size 9 1 (.slice (some ⟨g',0,none⟩) (j+1) cap') (j+1) (zeZ (xs ++ [b])):=by
    simp only[zeZ,List.map_append,List.map_cons,List.map_nil];exact hrow
   replace hrow2:=zi hrow2;clear hrow hgrow hg' hown2;go_wp2;go_roundw
   case rel=>exact⟨j+1,xs ++ [b],by go_num,by rw[Hm.out];omega,hrow2.out,by rw[List.map_append,HXS.out,HTK.out,List.map_cons,List.map_nil,HB.out],hb2⟩
   case measure=>simp[intOf];omega
  ·have hlt':¬((j:Int)<(m:Int)):=by omega
   have hjm:j=m:=by omega
   have htk:ks.take j=ks:=by rw[hjm,<-Hm.out];exact List.take_length
   rw[htk] at hxs;have hxl:xs.length=m:=by
    have:=congrArg List.length hxs;rw[wV,wV,Hm.out] at this;exact this
   have hfin:Go.Lib.join (xs.map (·.data.toList)) [44,32]=xY pr ks:=by
    rw[hxs,QV];rfl
   have hsmall:(Go.Lib.join (xs.map (·.data.toList)) [44,32]).length<=140737488355328:=by
    rw[hfin];have:=ZI (ls:=ks.map pr) (c:=3200000) (fun y hy=>by
     obtain⟨k,hk,rfl⟩:=List.mem_map.1 hy;obtain⟨h0,h1⟩:=HK.out k hk;obtain⟨kn,rfl⟩:=pP h0;exact HH.out.len kn (by omega))
    rw[wV,Hm.out] at this;unfold xY;omega
   have Hfin:=zi hfin;rcases id hown.2 with⟨rfl,h0⟩|⟨g,cap2,cur,rfl,_⟩
   ·have hJ:=zi (Tryz.strings_Join_none none 0 ⟨#[44,32]⟩ wr);have hx0:xs=[]:=pM (by omega);clear hown hxs hfin hsmall;go_wp2_with fail;refine hJ.out.mono ?_;rintro e w3 ⟨rfl,rfl⟩;go_wp2;go_ret;refine⟨_,rfl,?_,hb⟩;rw[<-Hfin.out,hx0];rfl
   ·have hcells:=fun (q:Nat) (x:ByteArray) (hx:xs[q]? =some x)=>(show wr.cell? ⟨g,0+q,none⟩=some (.string x) from by
     rw[Nat.zero_add];have:=hown.cellAt q (by rw[show j*1=j by omega];have:=(gtL hx);omega);rw[this];unfold zeZ;rw[pZ,hx];rfl)
    have hlt2:=(hown.lt g rfl).2;have hcap:xs.length<=cap2:=by
     obtain⟨_,⟨hv,_⟩|⟨g',cap',cur',hv,_,_,hle,_⟩⟩:=hown
     ·cases hv
     ·cases hv;omega
    have hJ:=Tryz.strings_Join g 0 cap2 xs ⟨#[44,32]⟩ wr hcells hlt2 (by omega) hcap hsmall;rw[hxl] at hJ;have HJ:=zi hJ;subst hjm;clear hown hxs hfin hsmall hJ hcells hxl;go_wp2_with fail;refine HJ.out.mono ?_;rintro e w3 ⟨rfl,hb3⟩;go_wp2;go_ret;exact⟨_,rfl,Hfin.out,zg hb hb3⟩
theorem zdV(H:kR P nv iv l kv pr n)(v:Value)(ks:List Int)(w:World)(hC:PrC w P nv iv l kv)(hv:KS w v ks)(hks:∀k∈ks,0<=k/\k<(n:Int))(hkl:ks.length<=100000):Calls prog 112 #[.pointer (some ⟨P,0,none⟩),v] w (Vf w (vX pr ks)):=by
 have hA:=zi (Ze H v ks w hC hv hks hkl);obtain⟨p,cap,rfl⟩:=hv.form;have hsm:=ZI (ls:=ks.map pr) (c:=3200000) (fun y hy=>by
  obtain⟨k,hk,rfl⟩:=List.mem_map.1 hy;obtain⟨h0,h1⟩:=hks k hk;obtain⟨kn,rfl⟩:=pP h0;exact H.len kn (by omega))
 rw[wV] at hsm;obtain⟨r,hr⟩:=exE (vX pr ks);rw[hr];unfold vX at hr;have Hr:=zi hr;obtain⟨m,hm⟩:=exE (ks.length);rw[hm] at hA hsm hkl ⊢;have Hm:=zi hm;have Hsm:=zi hsm;clear hr hC hv hks H hm hsm;by_cases h0:m=0
 ·subst h0;have hn:ks=[]:=pM Hm.out;have h:=Hr.out;rw[if_pos hn] at h;subst h;go_enter func112,ntmps112;go_wp2;go_ret;exact⟨_,rfl,rfl,pF _ _⟩
 ·have hn:ks≠[]:=fun e=>h0 (by rw[<-Hm.out,e];rfl)
  have h:=Hr.out;rw[if_neg hn] at h;subst h;have h0':((m:Int) == 0)=false:=bfE (by omega)
  go_enter func112,ntmps112;go_wp2_with fail;refine hA.out.mono ?_;rintro e w1 ⟨b,rfl,hb,hb1⟩;have hsz:=xo hb;unfold xY at hsz;have hsz2:b.size<=3200002*100000:=by have:=Hsm.out;omega
  have HB:=zi hb;clear hb hsz;go_wp2;go_ret;refine⟨_,rfl,?_,hb1⟩;rw[<-HB.out];simp[zq]
theorem zdw(pr:Int->List UInt8)(last:Bool)(k:Int)(r:List Int):qo pr last (k :: r)=pr k ++ (if !r.isEmpty || !last then [59] else []) ++ [32] ++ qo pr last r:=by
 cases r with
 |nil=>cases last <;> simp[qo]
 |cons j r=>simp[qo]
theorem JD.lat{B b:Nat}{p:Value}{bs:List Value}{w w':World}(h:JD B b p bs w)(hb:Below w.heap.size w w'):JD B b p bs w':=by
 obtain⟨hB,v,hbk,hown,hne⟩:=h;exact⟨hB,v,zh hb hbk,zu hown hb,hne⟩
theorem Bd.lat{w0 w w':World}{b:Nat}{ob:ByteArray}(h:Bd w0 b ob w)(hb:Below w.heap.size w w'):Bd w0 b ob w':=⟨h.1.imp (fun h=>JD.lat h hb) (fun h=>JD.lat h hb),zg h.2 hb⟩
def zkd(pr:Int->List UInt8)(last:Bool)(ks:List Int)(wB:World)(B:Nat)(i:Value)(wr:World):Prop:=∃(j:Nat) (ob:ByteArray),i=.int .i64 j/\j<=ks.length/\Bd wB B ob wr/\Hid (ob.data.toList ++ qo pr last (ks.drop j)=[123,32] ++ qo pr last ks)/\ob.size<=2+3200002*j
theorem zdR(H:kR P nv iv l kv pr n)(x:Nd)(u:Value)(w:World)(hC:PrC w P nv iv l kv)(hu:KS w u x.kids)(hks:∀k∈x.kids,0<=k/\k<(n:Int))(hkl:x.kids.length<=100000):Calls prog 113 #[.pointer (some ⟨P,0,none⟩),uV x u] w (Vf w (Ys pr x)):=by
 obtain⟨up,uc,rfl⟩:=hu.form;obtain⟨r,hr⟩:=exE (Ys pr x);rw[hr];unfold Ys at hr;unfold uV;obtain⟨x0,x1,x2,ks,x4⟩:=x;simp only at hr hu hks hkl ⊢;obtain⟨m,hm⟩:=exE (ks.length);rw[hm] at hu hkl ⊢;have Hm:=zi hm;have Hr:=zi hr;have HU:=zi hu;have HK:=zi hks;have HC:=zi hC;have HH:=zi H;have hA:=zf w (.cells #[.int .u8 x0,.string ⟨x1.toArray⟩,.int .i64 x2,.slice up m uc,.int .i64 x4] 45 (0,0));have HZ:=zi (zk w (.cells #[.int .u8 x0,.string ⟨x1.toArray⟩,.int .i64 x2,.slice up m uc,.int .i64 x4] 45 (0,0)));clear hm hr hu hks hC H;by_cases h0:m=0
 ·subst h0;have hn:ks=[]:=pM Hm.out;have h:=Hr.out;rw[if_pos hn] at h;subst h;go_enter func113,ntmps113;go_wp2;go_ret;exact⟨_,rfl,rfl,hA⟩
 have hn:ks≠[]:=fun e=>h0 (by rw[<-Hm.out,e];rfl)
 have h:=Hr.out;rw[if_neg hn] at h;subst h;have h0':((m:Int) == 0)=false:=bfE (by omega)
 have hwm:=pJ ((m:Int)-1) (by omega);obtain⟨wB,hwB⟩:=exE (w.alloc (.cells #[.int .u8 x0,.string ⟨x1.toArray⟩,.int .i64 x2,.slice up m uc,.int .i64 x4] 45 (0,0)));have hszB:wB.heap.size=w.heap.size+1:=by rw[<-hwB];simp
 have hbox:∀W,Below wB.heap.size wB W->W.cell? ⟨w.heap.size,2,none⟩=some (.int .i64 x2)/\W.cell? ⟨w.heap.size,3,none⟩=some (.slice up m uc):=fun W hb=>by
  have:=HZ.out;rw[hwB] at this;exact⟨zd (zh hb this) 2,zd (zh hb this) 3⟩
 replace hbox:=zi hbox;rw[hwB] at hA;have hW0:=zi ((Bd.fresh wB (w.heap.size+1) hszB.symm).writeStr ⟨#[123,32]⟩ (by decide));obtain⟨c2,c3⟩:=hbox.out wB bR;rw[<-hwB] at c2 c3;have HwB:=zi hwB;have HszB:=zi hszB;clear hwB hszB;go_enter func113,ntmps113;go_wp2_with fail;clear c2 c3;rw[HwB.out];have hszB:=HszB.out;refine hW0.out.mono ?_;rintro e w1 ⟨rfl,hb1⟩;have hst:=zi (show zkd pr (x2 != 0) ks wB (w.heap.size+1) (.int .i64 0) w1 from ⟨0,_,rfl,pU _,hb1,zi (by simp),by decide⟩);obtain⟨c2,c3⟩:=hbox.out w1 hb1.2;clear hW0;go_wp2;go_loopw [16] (zkd pr (x2 != 0) ks wB (w.heap.size+1)) (fun i _=>m-(intOf i).toNat)
 case atStart=>exact hst.out
 case round=>
  obtain⟨j,ob,rfl,hj,hb,hob,hsz⟩:=hrel;rw[Hm.out] at hj;clear c2 c3;by_cases hlt:j<m
  ·have hlt':(j:Int)<(m:Int):=by omega
   have hj0:¬((j:Int)<0):=by omega
   have hy:=pJ ((j:Int)+1) (by omega);have hjl:j<ks.length:=by rw[Hm.out];omega
   have hbw:=zg hA hb.2;obtain⟨g2,off2,rfl,_,d0⟩:=(HU.out.below hbw).at hjl;have hzz:=HK.out (ks.getD j 0) (by rw[pA,glE hjl];exact wC hjl);have hdr:ks.drop j=ks.getD j 0 :: ks.drop (j+1):=by
    rw[List.drop_eq_getElem_cons hjl,pA,glE hjl];rfl
   have hst2:=hob.out;rw[hdr,zdw] at hst2;generalize ks.getD j 0=z at *;obtain⟨zn,rfl⟩:=pP hzz.1;have hN:=zi (HH.out.ok wr zn (by omega) (HC.out.below hbw));have hnl:=HH.out.len zn (by omega);have HST:=zi hst2;have HB:=zi hb;have hemp:(ks.drop (j+1)).isEmpty=decide (m<=j+1):=by
    rw[pW,List.isEmpty_iff,pH,List.drop_eq_nil_iff,Hm.out]
   rw[hemp] at HST;clear hemp;clear hst2 hdr hzz hb hob;go_wp2_with fail;refine hN.out.mono ?_;rintro e w2 ⟨b,rfl,hbb,hb2⟩;have hbs:=xo hbb;have hb3:=Bd.lat HB.out hb2;have hW:=zi (hb3.writeStr b (by omega));have HBB:=zi hbb;clear hbb;go_wp2_with fail;refine hW.out.mono ?_;rintro e w3 ⟨rfl,hb4⟩;obtain⟨c2,c3⟩:=hbox.out w3 hb4.2;by_cases hsemi:j+1<m\/x2=0
   ·have hgo:(if !decide (m<=j+1) || !(x2 != 0) then [59] else [])=([59]:List UInt8):=by
     rw[if_pos];rw[wF];rcases hsemi with h|h
     ·left;simp;omega
     ·right;simp[h]
    have HST2:=zi (show ob.data.toList ++ (pr zn ++ [59] ++ [32] ++ qo pr (x2 != 0) (ks.drop (j+1)))=[123,32] ++ qo pr (x2 != 0) ks from by have h9:=HST.out;rw[hgo] at h9;exact h9);have hW1:=zi (hb4.write (by rw[ByteArray.size_append];omega) 59);have hfin:∀(w4:World),Bd wB (w.heap.size+1) (ob ++ b ++ ⟨#[59]⟩) w4->Calls prog 52 #[.pointer (some ⟨w.heap.size+1,0,none⟩),.int .u8 ((32:UInt8).toNat:Int)] w4 fun e w'=>e=.returned .nilIface/\Bd wB (w.heap.size+1) (ob ++ b ++ ⟨#[59]⟩ ++ ⟨#[32]⟩) w':=fun w4 h=>h.write (by rw[ByteArray.size_append,ByteArray.size_append];have e1:(⟨#[59]⟩:ByteArray).size=1:=rfl;omega) 32
    replace hfin:=zi hfin;clear hgo HST;by_cases h1:j+1<m
    ·have z1:decide ((j:Int)<(m:Int)-1)=true:=by rw[pH];omega
     have z1':(j:Int)<(m:Int)-1:=by omega
     go_wp2_with fail;refine hW1.out.mono ?_;rintro e w4 ⟨rfl,hb5⟩;have hW2:=zi (hfin.out w4 (hb5));go_wp2_with fail;refine hW2.out.mono ?_;rintro e w5 ⟨rfl,hb6⟩;go_wp2;go_roundw
     case rel=>exact⟨j+1,_,by go_num,by rw[Hm.out];omega,hb6,zi (by rw[zq,zq,zq,HBB.out,<-HST2.out];simp),by rw[ByteArray.size_append,ByteArray.size_append,ByteArray.size_append];have e1:(⟨#[59]⟩:ByteArray).size=1:=rfl;have e2:(⟨#[32]⟩:ByteArray).size=1:=rfl;omega⟩
     case measure=>simp[intOf];omega
    ·have hx2:x2=0:=hsemi.resolve_left h1;subst hx2;have z1:decide ((j:Int)<(m:Int)-1)=false:=by rw[wO];omega
     have z1':¬(j:Int)<(m:Int)-1:=by omega
     go_wp2_with fail;refine hW1.out.mono ?_;rintro e w4 ⟨rfl,hb5⟩;have hW2:=zi (hfin.out w4 (hb5));go_wp2_with fail;refine hW2.out.mono ?_;rintro e w5 ⟨rfl,hb6⟩;go_wp2;go_roundw
     case rel=>exact⟨j+1,_,by go_num,by rw[Hm.out];omega,hb6,zi (by rw[zq,zq,zq,HBB.out,<-HST2.out];simp),by rw[ByteArray.size_append,ByteArray.size_append,ByteArray.size_append];have e1:(⟨#[59]⟩:ByteArray).size=1:=rfl;have e2:(⟨#[32]⟩:ByteArray).size=1:=rfl;omega⟩
     case measure=>simp[intOf];omega
   ·have h1:¬(j+1<m):=fun h=>hsemi (.inl h)
    have hx2:x2≠0:=fun h=>hsemi (.inr h)
    have hgo:(if !decide (m<=j+1) || !(x2 != 0) then [59] else [])=([]:List UInt8):=by
     rw[if_neg];simp only[wF,Bool.not_eq_true',wO,gD];intro h;rcases h with h|h
     ·omega
     ·exact hx2 h
    have HST2:=zi (show ob.data.toList ++ (pr zn ++ [] ++ [32] ++ qo pr (x2 != 0) (ks.drop (j+1)))=[123,32] ++ qo pr (x2 != 0) ks from by have h9:=HST.out;rw[hgo] at h9;exact h9);have hW2:=zi (hb4.write (by rw[ByteArray.size_append];omega) 32);clear hgo HST;have z1:decide ((j:Int)<(m:Int)-1)=false:=by rw[wO];omega
    have z1':¬(j:Int)<(m:Int)-1:=by omega
    have hx2':(x2 == 0)=false:=bfE hx2
    go_wp2_with fail;refine hW2.out.mono ?_;rintro e w5 ⟨rfl,hb6⟩;go_wp2;go_roundw
    case rel=>exact⟨j+1,_,by go_num,by rw[Hm.out];omega,hb6,zi (by rw[zq,zq,HBB.out,<-HST2.out];simp),by rw[ByteArray.size_append,ByteArray.size_append];have e2:(⟨#[32]⟩:ByteArray).size=1:=rfl;omega⟩
    case measure=>simp[intOf];omega
  ·have hlt':¬((j:Int)<(m:Int)):=by omega
   have hjm:j=m:=by omega
   have hdr:ks.drop j=[]:=List.drop_eq_nil_of_le (by rw[Hm.out];omega);have hst2:=hob.out;rw[hdr] at hst2;have HST:=zi hst2;have hW1:=zi (hb.write (by omega) 125);have hfin:∀(w4:World),Bd wB (w.heap.size+1) (ob ++ ⟨#[125]⟩) w4->Calls prog 48 #[.pointer (some ⟨w.heap.size+1,0,none⟩)] w4 fun e w'=>e=.returned (.string (ob ++ ⟨#[125]⟩))/\BdF wB (w.heap.size+1) (ob ++ ⟨#[125]⟩) w':=fun w4 h=>h.str
   replace hfin:=zi hfin;clear hst2 hob hdr hb;go_wp2_with fail;refine hW1.out.mono ?_;rintro e w4 ⟨rfl,hb5⟩;have hS:=zi (hfin.out w4 hb5);go_wp2_with fail;refine hS.out.mono ?_;rintro e w5 ⟨rfl,hb6⟩;go_wp2;go_ret;refine⟨_,rfl,?_,zg hA hb6.2⟩;rw[zq];have:=HST.out;simp only[qo,wN] at this;rw[this];rfl
end
variable {P:Nat} {nv iv:Value} {l:List Nd} {kv:List Value} {pr:Int→List UInt8} {n:Nat}
theorem za0(H:kR P nv iv l kv pr n){x:Nd}{wo:Nat}(hks:∀k∈x.kids,0<=k/\k<(n:Int))(hkl:x.kids.length<=100000)(hwo:wo+1<=x.kids.length):(qO pr x wo).length<=320004000000:=by
 unfold qO zN;have h1:=jr H (ks:=x.kids.take (x.kids.length-1-wo)) (fun k hk=>hks k (List.mem_of_mem_take hk)) (pN (List.length_take_le _ _) (by omega));have hql:x.kids.length-1-wo<x.kids.length:=by omega
 have hmem:x.kids.getD (x.kids.length-1-wo) 0∈x.kids:=by rw[pA,glE hql];exact wC hql
 obtain⟨h0,h2⟩:=hks _ hmem;generalize x.kids.getD (x.kids.length-1-wo) 0=z at *;obtain⟨z,rfl⟩:=pP h0;have h3:=H.len z (by omega);simp only[pC,pK,pR];omega
theorem zgm(H:kR P nv iv l kv pr n)(x:Nd)(u:Value)(wo:Nat)(w:World)(hC:PrC w P nv iv l kv)(hu:KS w u x.kids)(hks:∀k∈x.kids,0<=k/\k<(n:Int))(hkl:x.kids.length<=100000)(hwo:wo+1<=x.kids.length):Calls prog 157 #[.pointer (some ⟨P,0,none⟩),uV x u,.int .i64 wo] w (Vf w (qO pr x wo)):=by
 obtain⟨up,uc,rfl⟩:=hu.form;obtain⟨R,hR⟩:=exE (qO pr x wo);rw[hR];unfold qO zN at hR;unfold uV;obtain⟨x0,x1,x2,ks,x4⟩:=x;simp only at hR hu hks hkl hwo ⊢;obtain⟨m,hm⟩:=exE (ks.length);obtain⟨q,hq⟩:=exE (m-1-wo);rw[hm] at hR hu hkl hwo ⊢;rw[hq] at hR;have hql:q<ks.length:=by omega
 have hcap:=hu.cap.2;obtain⟨g,off,rfl,_,d0⟩:=hu.at hql;have hmem:ks.getD q 0∈ks:=by rw[pA,glE hql];exact wC hql
 obtain⟨h0,h1⟩:=hks _ hmem;have hA:=zf w (.cells #[.int .u8 x0,.string ⟨x1.toArray⟩,.int .i64 x2,.slice (some ⟨g,off,none⟩) m uc,.int .i64 x4] 45 (0,0));have hZ:=zk w (.cells #[.int .u8 x0,.string ⟨x1.toArray⟩,.int .i64 x2,.slice (some ⟨g,off,none⟩) m uc,.int .i64 x4] 45 (0,0));generalize hwA:w.alloc (.cells #[.int .u8 x0,.string ⟨x1.toArray⟩,.int .i64 x2,.slice (some ⟨g,off,none⟩) m uc,.int .i64 x4] 45 (0,0))=wA at hA hZ;have hkt:∀k∈ks.take q,0<=k/\k<(n:Int):=fun k hk=>hks k (List.mem_of_mem_take hk)
 have htl:(ks.take q).length<=100000:=pN (List.length_take_le _ _) (by omega);have HL:=zi (fun W (hb:Below wA.heap.size wA W)=>Ze H (.slice (some ⟨g,off,none⟩) q uc) (ks.take q) W (hC.below (zg hA hb)) ((KS.take hu q (by omega)).below (zg hA hb)) hkt htl);have sL:=jr H hkt htl;generalize ks.getD q 0=z at *;obtain⟨z,rfl⟩:=pP h0;have HN:=zi (fun W (hb:Below wA.heap.size wA W)=>H.ok W z (by omega) (hC.below (zg hA hb)));have sN:=H.len z (by omega);have HS:=zi (show ∀W,Below wA.heap.size wA W->W.cell? ⟨w.heap.size,3,none⟩=some (.slice (some ⟨g,off,none⟩) m uc)/\W.cell? ⟨g,off+q,none⟩=some (.int .i64 z) from fun W hb=>⟨zd (zh hb hZ) 3,zj hb (zj hA d0)⟩);have hw1:=pJ ((m:Int)-1) (by omega);have hw2:IntKind.i64.wrap ((m:Int)-1-(wo:Int))=(q:Int):=by rw[pJ _ ⟨by omega,by omega⟩];omega
 have hq0:¬((q:Int)<0):=by omega
 have hq1:¬((uc:Int)<(q:Int)):=by omega
 have hq2:(q:Int)<(m:Int):=by omega
 have HR:=zi hR;obtain⟨c3,x0'⟩:=HS.out wA bR;rw[<-hwA] at c3 x0';have HwA:=zi hwA;clear hwA;have hb0:=zi (show Below wA.heap.size wA wA.drew from bR.drew);generalize hpz:pr z=pz at *;generalize hpL:xY pr (ks.take q)=pL at *;clear hC hu H hZ hR d0 hks hkt htl hmem hm hq hql;go_enter func157,ntmps157;go_wp2_with fail;rw[HwA.out];clear c3 x0';refine zaQ [(0,0),(1,0),(2,1),(3,0),(4,0),(8,0),(9,0),(10,1),(11,0),(12,0),(13,1),(5,2),(6,0),(7,0),(14,2),(15,0),(16,0)] ?_;have hS:=fun W (h:Cl wA.drew W)=>HS.out W (zg bR.drew h.below)
 refine goM ?_;clear hS;refine zZ rfl rfl (fun K hK V hV=>?_);have hbV:=zg hb0.out hV.below;go_simp;refine (HL.out V hbV).mono ?_;rintro e w1 ⟨b1,rfl,hq1,f1⟩;have zz_1:=xo hq1;replace hq1:=zi hq1;have hb1:=zi (zg hbV f1);go_simp;refine⟨ux.2 f1,hK _ _ ?_⟩;clear hK K hbV hV
 try simp only[Act.put,yG,yE,yF]
 refine goM ?_;refine zZ rfl rfl (fun K hK V hV=>?_);have hbV:=zg hb1.out hV.below;go_simp;refine (HN.out V hbV).mono ?_;rintro e w2 ⟨b2,rfl,hq2,f2⟩;have zz_2:=xo hq2;replace hq2:=zi hq2;have hb2:=zi (zg hbV f2);go_simp;refine⟨ux.2 f2,hK _ _ ?_⟩;clear hK K hbV hV
 try simp only[Act.put,yG,yE,yF]
 refine goM ?_;refine zC fun W hW=>?_
 have hbW:=zi (zg hA (zg hb2.out hW.below));clear hW;go_wp2;go_ret;refine⟨_,rfl,?_,hbW.out⟩;rw[<-HR.out];simp[zq,hq1.out,hq2.out]
abbrev NdS(W:World)(s o:Nat)(k:Nat)(t:List UInt8)(n:Int)(up:Option Addr)(m uc:Nat)(a:Int):Prop:=W.cell? ⟨s,o,none⟩=some (.int .u8 k)/\W.cell? ⟨s,o+1,none⟩=some (.string ⟨t.toArray⟩)/\W.cell? ⟨s,o+2,none⟩=some (.int .i64 n)/\W.cell? ⟨s,o+3,none⟩=some (.slice up m uc)/\W.cell? ⟨s,o+4,none⟩=some (.int .i64 a)
theorem NdS.later{W V:World}{s o k:Nat}{t:List UInt8}{n a:Int}{up:Option Addr}{m uc:Nat}(h:NdS W s o k t n up m uc a)(hb:Below W.heap.size W V):NdS V s o k t n up m uc a:=⟨zj hb h.1,zj hb h.2.1,zj hb h.2.2.1,zj hb h.2.2.2.1,zj hb h.2.2.2.2⟩
theorem Xf{m g off:Nat}{wA:World}{A:Nat->Nat->Prop}(h:∀j,j<m->∃z:Nat,A j z/\∀W,Below wA.heap.size wA W->W.cell? ⟨g,off+j,none⟩=some (.int .i64 z)){S:World->Prop}(hS:∀V,Cl wA.drew V->S V)(j:Nat)(ji:Int)(h1:(j:Int)=ji:=by omega)(h2:j<m:=by omega):∃z:Nat,A j z/\(ji<(m:Int)/\j<m)/\wA.cell? ⟨g,off+j,none⟩=some (.int .i64 z)/\∀V,Cl wA.drew V->S V/\V.cell? ⟨g,off+j,none⟩=some (.int .i64 z):=by
 obtain⟨z,a,c⟩:=h j h2;exact⟨z,a,⟨by omega,h2⟩,c _ bR,fun V hV=>⟨hS V hV,c V (bR.drew.trans hV.below)⟩⟩
theorem uS{m g off:Nat}{wA:World}{A:Nat->Nat->Prop}(h:∀j,j<m->∃z:Nat,A j z/\∀W,Below wA.heap.size wA W->W.cell? ⟨g,off+j,none⟩=some (.int .i64 z)){S:World->Prop}(hS:∀V,Cl wA.drew V->S V)(h2:0<m:=by omega):∃z:Nat,A 0 z/\((0:Int)<(m:Int)/\0<m)/\wA.cell? ⟨g,off,none⟩=some (.int .i64 z)/\∀V,Cl wA.drew V->S V/\V.cell? ⟨g,off,none⟩=some (.int .i64 z):=Xf h hS 0 0 rfl h2
section
variable {P:Program} {l:List Oper} {w:World} {a a':Act} {q r':List (Nat×Nat)}
theorem ki{id:Nat}{Q:Exit->Act->World->Prop}(ord:List (Nat×Nat))(h:kh P l.toArray (Q .normal) r' w.drew a')(hh:kh P l.toArray (Q .normal) r' w.drew a'->kh P l.toArray (Q .normal) ord w.drew a:=by
 intro hM
 repeat ((first|refine uY rfl rfl rfl ?_|(apply uX rfl rfl;intro _;(go_simp <;> first|rfl|rw[if_neg (by first|omega|(simp;omega))]|rw[if_pos (by omega)]))|(apply uZ hS rfl rfl;intro _ _;go_split_ands;(go_simp <;> rfl)));simp only[Act.put,yG,yE,yF])
 exact hM)(hm:P.follows .mixedOrders=true:=by kernel_rfl)(hc:LodeX.jU l.toArray ord=true:=by kernel_rfl):(Code.region id l.toArray true).wp P Q a w:=qY ord hm hc (hh h)
theorem uQ{Q:Act->World->Prop}{wA b:World}{i:Nat}{o:Oper}{fn:Nat}{args:Array Value}{x:List UInt8}{a':ByteArray->Act}(HN:Hid (∀V,Below wA.heap.size wA V->Calls prog fn args V (Vf V x)))(hb:Hid (Below wA.heap.size wA b))(h:∀(s:ByteArray) w1,Hid (s.data.toList=x)->s.size=x.length->Hid (Below wA.heap.size wA w1)->kh prog l.toArray Q r' w1 (a' s))(hi':l[i]? =some o:=by exact rfl)(hw:Region.wanted o (yielded l.toArray a.tmps)=true:=by exact rfl)(hop:∀w,(execOp a.eval o).run prog w=.ok (.enter fn args) w:=by intro _;go_simp)(hh:∀(s:ByteArray) w1,s.size=x.length->kh prog l.toArray Q r' w1 (a' s)->kh prog l.toArray Q q w1 (a.put o.dst (.string s)):=by
 intro s w1 y1
 try simp only[Act.put,yG,yE,yF]
 intro hM
 repeat ((first|refine uY rfl rfl rfl ?_|(apply uX rfl rfl;intro _;(go_simp <;> first|rfl|rw[if_neg (by first|omega|(simp;omega))]|rw[if_pos (by omega)]))|(apply uZ hS rfl rfl;intro _ _;go_split_ands;(go_simp <;> rfl)));simp only[Act.put,yG,yE,yF])
 exact hM):kh prog l.toArray Q ((i,2) :: q) b a:=prM hi' hw hop HN hb fun s w1 p1 y1 hb1=>hh s w1 y1 (h s w1 p1 y1 hb1)
theorem vR{Q:Act->World->Prop}{w wA b:World}(HB:Hid (Below w.heap.size w wA))(hb:Hid (Below wA.heap.size wA b))(h:∀W,Below w.heap.size w W->Q a W):kh P l.toArray Q [] b a:=fun W hW=>h W (zg HB.out (zg hb.out hW.below))
theorem YY{R:List UInt8}{w wA V:World}{x:ByteArray}(HB:Hid (Below w.heap.size w wA))(hb:Below wA.heap.size wA V)(he:x.data.toList=R):Vf w R (.returned (.string x)) V:=⟨_,rfl,he,zg HB.out hb⟩
end
section
variable {P:Nat} {nv iv:Value} {l:List Nd} {kv:List Value} {pr:Int→List UInt8} {n:Nat}
theorem zaY(H:kR P nv iv l kv pr n){w:World}(hC:PrC w P nv iv l kv){K:Nat}{t:List UInt8}{k a:Int}{ks:List Int}{u:Value}(hu:KS w u ks)(hks:∀k∈ks,0<=k/\k<(n:Int))(hkl:ks.length<=100000):∃(g off:Nat) (up:Option Addr) (uc:Nat) (wA:World),u=.slice up ks.length uc/\(up=some ⟨g,off,none⟩\/ks.length=0)/\ks.length<=uc/\w.alloc (.cells #[.int .u8 K,.string ⟨t.toArray⟩,.int .i64 k,.slice up ks.length uc,.int .i64 a] 45 (0,0))=wA/\
 NdS (w.alloc (.cells #[.int .u8 K,.string ⟨t.toArray⟩,.int .i64 k,.slice up ks.length uc,.int .i64 a] 45 (0,0))) w.heap.size 0 K t k up ks.length uc a/\Hid (∀W,Below wA.heap.size wA W->NdS W w.heap.size 0 K t k up ks.length uc a)/\Hid (Below w.heap.size w wA)/\
 (∀j,j<ks.length->∃z:Nat,(Hid (∀W,Below wA.heap.size wA W->Calls prog 79 #[.pointer (some ⟨P,0,none⟩),.int .i64 z] W (Vf W ((fun j=>pr (zN ⟨K,t,k,ks,a⟩ j)) j)))/\((fun j=>pr (zN ⟨K,t,k,ks,a⟩ j)) j).length<=3200000/\z<n/\zN ⟨K,t,k,ks,a⟩ j=(z:Int)/\∀q:Nat,Hid (∀W,Below wA.heap.size wA W->Calls prog 107 #[.pointer (some ⟨P,0,none⟩),.int .i64 z,.int .i64 q] W (Vf W ((fun j q=>jq l pr (zN ⟨K,t,k,ks,a⟩ j) q) j q)))/\((fun j q=>jq l pr (zN ⟨K,t,k,ks,a⟩ j) q) j q).length<=3200002)/\∀W,Below wA.heap.size wA W->W.cell? ⟨g,off+j,none⟩=some (.int .i64 z))/\
 (Hid (∀W,Below wA.heap.size wA W->Calls prog 111 #[.pointer (some ⟨P,0,none⟩),.slice up ks.length uc] W (Vf W (xY pr ks)))/\(xY pr ks).length<=320000200000):=by
 obtain⟨up,uc,rfl⟩:=hu.form;have hA:=zf w (.cells #[.int .u8 K,.string ⟨t.toArray⟩,.int .i64 k,.slice up ks.length uc,.int .i64 a] 45 (0,0));have hz:=zk w (.cells #[.int .u8 K,.string ⟨t.toArray⟩,.int .i64 k,.slice up ks.length uc,.int .i64 a] 45 (0,0));have hN:NdS (w.alloc (.cells #[.int .u8 K,.string ⟨t.toArray⟩,.int .i64 k,.slice up ks.length uc,.int .i64 a] 45 (0,0))) w.heap.size 0 K t k up ks.length uc a:=⟨zd hz 0,zd hz 1,zd hz 2,zd hz 3,zd hz 4⟩;have hg:∃g off,up=some ⟨g,off,none⟩\/ks.length=0:=by
  rcases Nat.eq_zero_or_pos ks.length with h|h
  ·exact⟨0,0,.inr h⟩
  ·obtain⟨g,off,h,_⟩:=hu.at h;exact⟨g,off,.inl h⟩
 obtain⟨g,off,hg⟩:=hg;refine⟨g,off,up,uc,_,rfl,hg,hu.cap.2,rfl,hN,zi fun W hW=>hN.later hW,zi hA,fun j hj=>?_,zi fun W hW=>Ze H _ ks W (hC.below (zg hA hW)) (hu.below (zg hA hW)) hks hkl,jr H hks hkl⟩;obtain⟨g',off',he,_,hc⟩:=hu.at hj;have hmem:ks.getD j 0∈ks:=by rw[pA,glE hj];exact wC hj
 obtain⟨h0,h1⟩:=hks _ hmem;rcases hg with hg|hg
 ·rw[hg] at he;cases he;simp only[zN];generalize ks.getD j 0=z at *;obtain⟨z,rfl⟩:=pP h0;exact⟨z,⟨zi fun W hW=>H.ok W z (by omega) (hC.below (zg hA hW)),H.len z (by omega),by omega,rfl,fun q=>⟨zi fun W hW=>zfh H z q W (hC.below (zg hA hW)) (by omega),by have:=xX l pr z q;have:=H.len z (by omega);show (jq _ _ _ _).length<=_;omega⟩⟩,fun W hW=>zj (zg hA hW) hc⟩
 ·omega
theorem Vr(H:kR P nv iv l kv pr n){ks:List Int}(hks:∀k∈ks,0<=k/\k<(n:Int))(hkl:ks.length<=100000):(vX pr ks).length<=320000200002:=by
 have:=jr H hks hkl;unfold vX;split <;> simp;omega
theorem zaZ(H:kR P nv iv l kv pr n){w wA:World}(hC:PrC w P nv iv l kv){K:Nat}{t:List UInt8}{k a:Int}{ks:List Int}{u:Value}(hu:KS w u ks)(hks:∀k∈ks,0<=k/\k<(n:Int))(hkl:ks.length<=100000)(hA:Below w.heap.size w wA){wo:Nat}(hwo:wo+1<=ks.length):Hid (∀W,Below wA.heap.size wA W->Calls prog 157 #[.pointer (some ⟨P,0,none⟩),.agg #[.int .u8 K,.string ⟨t.toArray⟩,.int .i64 k,u,.int .i64 a],.int .i64 wo] W (Vf W ((fun wo=>qO pr ⟨K,t,k,ks,a⟩ wo) wo)))/\((fun wo=>qO pr ⟨K,t,k,ks,a⟩ wo) wo).length<=320004000000:=
 ⟨zi fun W hW=>zgm H ⟨K,t,k,ks,a⟩ u wo W (hC.below (zg hA hW)) (hu.below (zg hA hW)) hks hkl hwo,za0 H (x:=⟨K,t,k,ks,a⟩) hks hkl hwo⟩
theorem ze0(H:kR P nv iv l kv pr n){w wA:World}(hC:PrC w P nv iv l kv){ks:List Int}{g off uc:Nat}(hu:KS w (.slice (some ⟨g,off,none⟩) ks.length uc) ks)(hks:∀k∈ks,0<=k/\k<(n:Int))(hkl:ks.length<=100000)(hA:Below w.heap.size w wA):
 (1<=ks.length->Hid (∀W,Below wA.heap.size wA W->Calls prog 111 #[.pointer (some ⟨P,0,none⟩),.slice (some ⟨g,off+1,none⟩) (ks.length-1) (uc-1)] W (Vf W (xY pr ks.tail))))/\(2<=ks.length->Hid (∀W,Below wA.heap.size wA W->Calls prog 111 #[.pointer (some ⟨P,0,none⟩),.slice (some ⟨g,off,none⟩) 2 uc] W (Vf W (xY pr (ks.take 2)))))/\(xY pr ks.tail).length<=320000200000/\(xY pr (ks.take 2)).length<=320000200000:=by
 rw[<-List.drop_one];have hd:∀k∈ks.drop 1,0<=k/\k<(n:Int):=fun k hk=>hks k (List.mem_of_mem_drop hk)
 have ht:∀k∈ks.take 2,0<=k/\k<(n:Int):=fun k hk=>hks k (List.mem_of_mem_take hk)
 have hdl:(ks.drop 1).length<=100000:=by rw[wW];omega
 have htl:(ks.take 2).length<=100000:=pN (List.length_take_le _ _) (by omega);exact⟨fun h=>zi fun W hW=>Ze H _ _ W (hC.below (zg hA hW)) ((KS.dropc hu 1 h).below (zg hA hW)) hd hdl,fun h=>zi fun W hW=>Ze H _ _ W (hC.below (zg hA hW)) ((KS.take hu 2 h).below (zg hA hW)) ht htl,jr H hd hdl,jr H ht htl⟩
theorem zgn(H:kR P nv iv l kv pr n){K:Nat}{t:List UInt8}{k a:Int}{ks:List Int}{u:Value}{w:World}(hC:PrC w P nv iv l kv)(hu:KS w u ks)(hks:∀k∈ks,0<=k/\k<(n:Int))(hkl:ks.length<=100000)(ht:t.length<=3000)(hfew:(xd K).1<=ks.length)(hK:60<=K/\K<=65):Calls prog 116 #[.pointer (some ⟨P,0,none⟩),.agg #[.int .u8 K,.string ⟨t.toArray⟩,.int .i64 k,u,.int .i64 a]] w (Vf w (jR pr ⟨K,t,k,ks,a⟩)):=by
 have hT2:=zi (fun (g off uc:Nat) (e:u=.slice (some ⟨g,off,none⟩) ks.length uc) wA hA=>ze0 (g:=g) (off:=off) (uc:=uc) H (wA:=wA) hC (e▸hu) hks hkl hA);obtain⟨g,off,up,uc,wA,rfl,hup,hcap,hwA,⟨e2,e3,e4,e5,e6⟩,HS,HB,hkd,hAll⟩:=zaY H hC (K:=K) (t:=t) (k:=k) (a:=a) hu hks hkl;have hHd:=fun wo (h:wo+1<=ks.length)=>zaZ H hC (K:=K) (t:=t) (k:=k) (a:=a) hu hks hkl HB.out h
 obtain⟨R,hr⟩:=exE (jR pr ⟨K,t,k,ks,a⟩);rw[hr];unfold jR at hr;simp only at hr;generalize hKP:(fun j=>pr (zN ⟨K,t,k,ks,a⟩ j))=KP at *;have hKQ:∀j,pr (zN ⟨K,t,k,ks,a⟩ j)=KP j:=fun j=>congrFun hKP j
 simp only[hKQ] at hr;generalize xY pr ks=A0 at *;generalize hHp:(fun wo=>qO pr ⟨K,t,k,ks,a⟩ wo)=HP at *;have hHQ:∀j,qO pr ⟨K,t,k,ks,a⟩ j=HP j:=fun j=>congrFun hHp j
 try simp only[hHQ] at hr
 have HwA:=zi hwA;have Hkd:=zi hkd;have Hhd:=zi hHd;have Hr:=zi hr;have Hf:=zi hfew;have hb0:=zi ((pF wA.heap.size wA).drew);have hS:∀V,Cl wA.drew V->NdS V w.heap.size 0 K t k up ks.length uc a:=fun V hV=>HS.out V (bR.drew.trans hV.below)
 clear hC hks hKP hKQ hHp hHQ hr hkd hHd hwA hfew;go_enter func116,ntmps116;go_wp2_with fail
 ·have hkc:=kd (k:=K) (by assumption);have hm:=hkc▸Hf.out;change 1<=ks.length at hm;have hr:=hkc▸Hr.out;simp at hr;subst hr;obtain rfl:=hup.resolve_right (by omega);obtain⟨z1,⟨N1,l1,_⟩,⟨i1,j1⟩,d1,hS⟩:=uS Hkd.out hS;rw[HwA.out];refine ki [(0,0),(1,1),(2,0),(3,0),(4,0),(5,0),(6,1),(7,0),(8,1),(9,2),(10,0),(11,0)] ?_;refine uQ N1 hb0 fun t1 w1 p1 y1 hb1=>?_
  refine vR HB hb1 fun W hW=>?_
  go_wp2;go_ret;refine⟨_,rfl,?_,hW⟩;simp[zq,p1.out]
 ·have hkc:=kd (k:=K) (by assumption);have hm:=hkc▸Hf.out;change 1<=ks.length at hm;have hr:=hkc▸Hr.out;simp at hr;subst hr;obtain rfl:=hup.resolve_right (by omega);obtain⟨z1,⟨N1,l1,_⟩,⟨i1,j1⟩,d1,hS⟩:=uS Hkd.out hS;rw[HwA.out];refine ki [(0,0),(1,1),(2,0),(3,0),(4,0),(5,0),(6,1),(7,0),(8,1),(9,2),(10,0),(11,0)] ?_;refine uQ N1 hb0 fun t1 w1 p1 y1 hb1=>?_
  refine vR HB hb1 fun W hW=>?_
  go_wp2;go_ret;refine⟨_,rfl,?_,hW⟩;simp[zq,p1.out]
 ·have hkc:=kd (k:=K) (by assumption);have hm:=hkc▸Hf.out;change 2<=ks.length at hm;have hr:=hkc▸Hr.out;simp at hr;subst hr;obtain rfl:=hup.resolve_right (by omega);obtain⟨z1,⟨N1,l1,_⟩,⟨i1,j1⟩,d1,hS⟩:=uS Hkd.out hS;obtain⟨z2,⟨N2,l2,_⟩,⟨i2,j2⟩,d2,hS⟩:=Xf Hkd.out hS (1) (1);rw[HwA.out];refine ki [(0,0),(1,0),(2,1),(3,0),(4,1),(7,0),(8,0),(9,1),(10,0),(11,1),(5,2),(6,0),(12,2),(13,0),(14,0)] ?_;refine uQ N1 hb0 fun t1 w1 p1 y1 hb1=>?_
  refine uQ N2 hb1 fun t2 w2 p2 y2 hb2=>?_
  refine vR HB hb2 fun W hW=>?_
  go_wp2;go_ret;refine⟨_,rfl,?_,hW⟩;simp[zq,p1.out,p2.out]
 ·have hkc:=kd (k:=K) (by assumption);have hm:=hkc▸Hf.out;change 2<=ks.length at hm;have hr:=hkc▸Hr.out;simp at hr;subst hr;obtain rfl:=hup.resolve_right (by omega);obtain⟨z1,⟨N1,l1,_⟩,⟨i1,j1⟩,d1,hS⟩:=uS Hkd.out hS;obtain⟨z2,⟨N2,l2,_⟩,⟨i2,j2⟩,d2,hS⟩:=Xf Hkd.out hS (1) (1);rw[HwA.out];refine ki [(0,0),(1,0),(2,1),(3,0),(4,1),(8,0),(9,1),(12,0),(13,0),(14,1),(15,0),(16,1),(5,2),(6,0),(7,0),(10,0),(11,0),(17,2),(18,0),(19,0)] ?_;refine uQ N1 hb0 fun t1 w1 p1 y1 hb1=>?_
  refine uQ N2 hb1 fun t2 w2 p2 y2 hb2=>?_
  refine vR HB hb2 fun W hW=>?_
  go_wp2;go_ret;refine⟨_,rfl,?_,hW⟩;simp[zq,p1.out,p2.out]
 ·have hkc:=kd (k:=K) (by assumption);have hm:=hkc▸Hf.out;change 3<=ks.length at hm;have hr:=hkc▸Hr.out;simp at hr;subst hr;obtain rfl:=hup.resolve_right (by omega);obtain⟨_,hT,_,lT⟩:=hT2.out g off uc rfl wA HB.out;have N1:=hT (by omega);have hd1:¬((uc:Int)<2):=by omega
  obtain⟨z2,⟨N2,l2,_⟩,⟨i2,j2⟩,d2,hS⟩:=Xf Hkd.out hS (2) (2);rw[HwA.out];refine ki [(0,0),(1,0),(2,1),(3,0),(7,0),(8,0),(9,1),(10,0),(11,1),(4,2),(5,0),(6,0),(12,2),(13,0),(14,0)] ?_;refine uQ N1 hb0 fun t1 w1 p1 y1 hb1=>?_
  refine uQ N2 hb1 fun t2 w2 p2 y2 hb2=>?_
  refine vR HB hb2 fun W hW=>?_
  go_wp2;go_ret;refine⟨_,rfl,?_,hW⟩;simp[zq,p1.out,p2.out]
 ·have hkc:K=65:=by
   simp only[pB] at *;omega
  have hm:=hkc▸Hf.out;change 1<=ks.length at hm;have hr:=hkc▸Hr.out;simp at hr;subst hr;obtain rfl:=hup.resolve_right (by omega);obtain⟨z1,⟨N1,l1,_⟩,⟨i1,j1⟩,d1,hS⟩:=uS Hkd.out hS;rw[HwA.out] at e2 e3 e4 e5 e6 ⊢;go_wp2_with fail;refine (N1.out _ bR).mono ?_;rintro e w1 ⟨t1,rfl,p1,f1⟩;have y1:=xo p1;go_wp2;go_ret;refine YY HB f1 ?_;simp[zq,p1]
theorem zfi{w:World}{P0:Nat}{nv0 iv0:Value}{l0:List Nd}{kv0:List Value}(hC:PrC w P0 nv0 iv0 l0 kv0){k:Int}(h1: -1000000000<=k)(h2:k<=1000000000){W:World}(hb:Below w.heap.size w W):Calls prog 108 #[.int .i64 k] W (Vf W (Go.Lib.itoa k)):=by
 refine (Tryz.strconv_Itoa k (by omega) (by omega) W (hC.below hb).gl.pow).mono ?_;rintro e w2 ⟨rfl,i,os,rfl⟩;exact⟨_,rfl,rfl,Lib.below_grow _ _ (pE _) i os⟩
theorem zje(K:Nat)(hK:K=80\/K=81\/K=82\/K=83)(t:List UInt8)(k a:Int)(ks:List Int)(u:Value)(w:World)(hu:KS w u ks):Calls prog 117 #[.pointer (some ⟨P,0,none⟩),.agg #[.int .u8 K,.string ⟨t.toArray⟩,.int .i64 k,u,.int .i64 a]] w (Vf w (qe pr ⟨K,t,k,ks,a⟩)):=by
 obtain⟨up,uc,rfl⟩:=hu.form;have h0:∀W,(Instr.index 215 (.agg #[.string ⟨#[105,110,116]⟩,.string ⟨#[98,111,111,108]⟩,.string ⟨#[116,101,120,116]⟩,.string ⟨#[117,110,105,116]⟩]) (.int .u8 0)).run prog W=.ok (.string ⟨#[105,110,116]⟩) W:=fun W=>rfl
 have h1:∀W,(Instr.index 215 (.agg #[.string ⟨#[105,110,116]⟩,.string ⟨#[98,111,111,108]⟩,.string ⟨#[116,101,120,116]⟩,.string ⟨#[117,110,105,116]⟩]) (.int .u8 1)).run prog W=.ok (.string ⟨#[98,111,111,108]⟩) W:=fun W=>rfl
 have h2:∀W,(Instr.index 215 (.agg #[.string ⟨#[105,110,116]⟩,.string ⟨#[98,111,111,108]⟩,.string ⟨#[116,101,120,116]⟩,.string ⟨#[117,110,105,116]⟩]) (.int .u8 2)).run prog W=.ok (.string ⟨#[116,101,120,116]⟩) W:=fun W=>rfl
 have h3:∀W,(Instr.index 215 (.agg #[.string ⟨#[105,110,116]⟩,.string ⟨#[98,111,111,108]⟩,.string ⟨#[116,101,120,116]⟩,.string ⟨#[117,110,105,116]⟩]) (.int .u8 3)).run prog W=.ok (.string ⟨#[117,110,105,116]⟩) W:=fun W=>rfl
 have hA:=zf w (.cells #[.int .u8 K,.string ⟨t.toArray⟩,.int .i64 k,.slice up ks.length uc,.int .i64 a] 45 (0,0));have c0:=zd (zk w (.cells #[.int .u8 K,.string ⟨t.toArray⟩,.int .i64 k,.slice up ks.length uc,.int .i64 a] 45 (0,0))) 0;clear hu;rcases hK with rfl|rfl|rfl|rfl
 all_goals
  go_enter func117,ntmps117;go_wp2;go_ret;exact⟨_,rfl,rfl,hA⟩
theorem zdY(H:kR P nv iv l kv pr n){K:Nat}{t:List UInt8}{k a:Int}{ks:List Int}{u:Value}{w:World}(hC:PrC w P nv iv l kv)(hu:KS w u ks)(hks:∀k∈ks,0<=k/\k<(n:Int))(hkl:ks.length<=100000)(ht:t.length<=3000)(hfew:(xd K).1<=ks.length)(hK:85<=K/\K<=88\/100<=K/\K<=104):Calls prog 117 #[.pointer (some ⟨P,0,none⟩),.agg #[.int .u8 K,.string ⟨t.toArray⟩,.int .i64 k,u,.int .i64 a]] w (Vf w (qe pr ⟨K,t,k,ks,a⟩)):=by
 obtain⟨g,off,up,uc,wA,rfl,hup,hcap,hwA,⟨e2,e3,e4,e5,e6⟩,HS,HB,hkd,hAll⟩:=zaY H hC (K:=K) (t:=t) (k:=k) (a:=a) hu hks hkl;have hHd:=fun wo (h:wo+1<=ks.length)=>zaZ H hC (K:=K) (t:=t) (k:=k) (a:=a) hu hks hkl HB.out h
 obtain⟨R,hr⟩:=exE (qe pr ⟨K,t,k,ks,a⟩);rw[hr];unfold qe at hr;simp only at hr;generalize hKP:(fun j=>pr (zN ⟨K,t,k,ks,a⟩ j))=KP at *;have hKQ:∀j,pr (zN ⟨K,t,k,ks,a⟩ j)=KP j:=fun j=>congrFun hKP j
 simp only[hKQ] at hr;generalize xY pr ks=A0 at *;generalize hHp:(fun wo=>qO pr ⟨K,t,k,ks,a⟩ wo)=HP at *;have hHQ:∀j,qO pr ⟨K,t,k,ks,a⟩ j=HP j:=fun j=>congrFun hHp j
 try simp only[hHQ] at hr
 have HwA:=zi hwA;have Hkd:=zi hkd;have Hhd:=zi hHd;have Hr:=zi hr;have Hf:=zi hfew;have hb0:=zi ((pF wA.heap.size wA).drew);have hS:∀V,Cl wA.drew V->NdS V w.heap.size 0 K t k up ks.length uc a:=fun V hV=>HS.out V (bR.drew.trans hV.below)
 clear hC hks hKP hKQ hHp hHQ hr hkd hHd hwA hfew;go_enter func117,ntmps117;go_wp2_with fail
 ·have hkc:=kd (k:=K) (by assumption);have hm:=hkc▸Hf.out;change 1<=ks.length at hm;have hr:=hkc▸Hr.out;simp at hr;subst hr;obtain⟨N1,l1⟩:=Hhd.out 0 (by omega);rw[HwA.out] at e2 e3 e4 e5 e6 ⊢;go_wp2_with fail;refine (N1.out _ bR).mono ?_;rintro e w1 ⟨t1,rfl,p1,f1⟩;have y1:=xo p1;go_wp2;go_ret;refine YY HB f1 ?_;simp[zq,p1]
 iterate 2
  ·have hkc:=kd (k:=K) (by assumption);have hm:=hkc▸Hf.out;change 1<=ks.length at hm;have hr:=hkc▸Hr.out;simp at hr;subst hr;obtain rfl:=hup.resolve_right (by omega);obtain⟨z1,⟨N1,l1,_⟩,⟨i1,j1⟩,d1,hS⟩:=uS Hkd.out hS;rw[HwA.out] at e2 e3 e4 e5 e6 ⊢;go_wp2_with fail;refine (N1.out _ bR).mono ?_;rintro e w1 ⟨t1,rfl,p1,f1⟩;have y1:=xo p1;go_wp2;go_ret;refine YY HB f1 ?_;simp[zq,p1]
 ·have hkc:=kd (k:=K) (by assumption);have hm:=hkc▸Hf.out;change 1<=ks.length at hm;have hr:=hkc▸Hr.out;simp at hr;subst hr;obtain rfl:=hup.resolve_right (by omega);obtain⟨z1,⟨N1,l1,_⟩,⟨i1,j1⟩,d1,hS⟩:=uS Hkd.out hS;rw[HwA.out];refine ki [(0,0),(1,1),(2,0),(3,0),(4,0),(5,1),(6,0),(7,1),(8,2),(9,0),(10,0)] ?_;refine uQ N1 hb0 fun t1 w1 p1 y1 hb1=>?_
  refine vR HB hb1 fun W hW=>?_
  go_wp2;go_ret;refine⟨_,rfl,?_,hW⟩;simp[zq,p1.out]
 ·have hkc:=kd (k:=K) (by assumption);have hm:=hkc▸Hf.out;change 1<=ks.length at hm;have hr:=hkc▸Hr.out;simp at hr;subst hr;obtain⟨N1,l1⟩:=hAll;rw[HwA.out];refine ki [(0,0),(1,1),(2,0),(3,0),(4,0),(5,0),(6,1),(7,2),(8,0),(9,0),(10,0)] ?_;refine uQ N1 hb0 fun t1 w1 p1 y1 hb1=>?_
  refine vR HB hb1 fun W hW=>?_
  go_wp2;go_ret;refine⟨_,rfl,?_,hW⟩;simp[zq,p1.out]
 ·have hkc:=kd (k:=K) (by assumption);have hm:=hkc▸Hf.out;change 1<=ks.length at hm;have hr:=hkc▸Hr.out;simp at hr;subst hr;obtain⟨N1,l1⟩:=hAll;rw[HwA.out];refine ki [(0,0),(1,1),(2,0),(3,0),(4,0),(5,0),(6,1),(7,2),(8,0),(9,0),(10,0)] ?_;refine uQ N1 hb0 fun t1 w1 p1 y1 hb1=>?_
  refine vR HB hb1 fun W hW=>?_
  go_wp2;go_ret;refine⟨_,rfl,?_,hW⟩;simp[zq,p1.out]
 ·have hkc:=kd (k:=K) (by assumption);have hm:=hkc▸Hf.out;change 1<=ks.length at hm;have hr:=hkc▸Hr.out;simp at hr;subst hr;obtain⟨N1,l1⟩:=Hhd.out 0 (by omega);rw[HwA.out];refine ki [(0,0),(1,1),(2,0),(3,0),(4,1),(5,2),(6,0),(7,0),(8,0)] ?_;refine uQ N1 hb0 fun t1 w1 p1 y1 hb1=>?_
  refine vR HB hb1 fun W hW=>?_
  go_wp2;go_ret;refine⟨_,rfl,?_,hW⟩;simp[zq,p1.out]
 ·have hkc:=kd (k:=K) (by assumption);have hm:=hkc▸Hf.out;change 2<=ks.length at hm;have hr:=hkc▸Hr.out;simp at hr;subst hr;obtain rfl:=hup.resolve_right (by omega);obtain⟨z1,⟨N1,l1,_⟩,⟨i1,j1⟩,d1,hS⟩:=uS Hkd.out hS;obtain⟨z2,⟨N2,l2,_⟩,⟨i2,j2⟩,d2,hS⟩:=Xf Hkd.out hS (1) (1);rw[HwA.out];refine ki [(0,0),(1,1),(2,0),(3,0),(4,0),(5,0),(6,1),(7,0),(8,1),(12,0),(13,0),(14,1),(15,0),(16,1),(9,2),(10,0),(11,0),(17,2),(18,0),(19,0),(20,0)] ?_;refine uQ N1 hb0 fun t1 w1 p1 y1 hb1=>?_
  refine uQ N2 hb1 fun t2 w2 p2 y2 hb2=>?_
  refine vR HB hb2 fun W hW=>?_
  go_wp2;go_ret;refine⟨_,rfl,?_,hW⟩;simp[zq,p1.out,p2.out]
 ·have hkc:K=102:=by
   simp only[pB] at *;omega
  have hm:=hkc▸Hf.out;change 2<=ks.length at hm;have hr:=hkc▸Hr.out;simp at hr;subst hr;obtain⟨N1,l1⟩:=Hhd.out 1 (by omega);obtain rfl:=hup.resolve_right (by omega);obtain⟨z2,⟨N2,l2,_⟩,⟨i2,j2⟩,d2,hS⟩:=Xf Hkd.out hS (ks.length-1) ((ks.length:Int)-1);have hw1:IntKind.i64.wrap ((ks.length:Int)-1)=((ks.length-1:Nat):Int):=by rw[pJ _ ⟨by omega,by omega⟩];omega
  have hq0:¬(((ks.length-1:Nat):Int)<0):=by omega
  have hq2:((ks.length-1:Nat):Int)<(ks.length:Int):=by omega
  rw[HwA.out];refine ki [(0,0),(1,1),(2,0),(3,0),(4,1),(8,0),(9,0),(10,1),(11,0),(12,1),(13,0),(14,0),(15,0),(16,1),(5,2),(6,0),(7,0),(17,2),(18,0),(19,0)] ?_;refine uQ N1 hb0 fun t1 w1 p1 y1 hb1=>?_
  refine uQ N2 hb1 fun t2 w2 p2 y2 hb2=>?_
  refine zC fun W hW=>?_
  have hbe:=zg hb2.out hW.below;obtain⟨_,_,d4,_⟩:=HS.out W hbe;go_wp2_with fail
  all_goals go_ret
  all_goals refine YY HB hbe ?_
  all_goals first|(simp[zq,p1.out,p2.out];done)|exact absurd (pS.1 (show (k == 1)=true by assumption)) (by assumption)|exact absurd (show k=1 by assumption) (pB.1 (by assumption))
theorem za5(H:kR P nv iv l kv pr n){K:Nat}{t:List UInt8}{k a:Int}{ks:List Int}{u:Value}{w:World}(hC:PrC w P nv iv l kv)(hu:KS w u ks)(hks:∀k∈ks,0<=k/\k<(n:Int))(hkl:ks.length<=100000)(ht:t.length<=3000)(hfew:(xd K).1<=ks.length)(hK:26<=K/\K<=40/\K≠28/\K≠37/\K≠38/\K≠39)(hnum:xw K k ks.length=true):Calls prog 118 #[.pointer (some ⟨P,0,none⟩),.agg #[.int .u8 K,.string ⟨t.toArray⟩,.int .i64 k,u,.int .i64 a]] w (Vf w (xu pr ⟨K,t,k,ks,a⟩)):=by
 have hT2:=zi (fun (g off uc:Nat) (e:u=.slice (some ⟨g,off,none⟩) ks.length uc) wA hA=>ze0 (g:=g) (off:=off) (uc:=uc) H (wA:=wA) hC (e▸hu) hks hkl hA);have hIt:=zi fun (h1: -1000000000<=k) (h2:k<=1000000000)=>fun W hb=>zfi (W:=W) hC h1 h2 hb
 obtain⟨g,off,up,uc,wA,rfl,hup,hcap,hwA,⟨e2,e3,e4,e5,e6⟩,HS,HB,hkd,hAll⟩:=zaY H hC (K:=K) (t:=t) (k:=k) (a:=a) hu hks hkl;have hHd:=fun wo (h:wo+1<=ks.length)=>zaZ H hC (K:=K) (t:=t) (k:=k) (a:=a) hu hks hkl HB.out h
 obtain⟨R,hr⟩:=exE (xu pr ⟨K,t,k,ks,a⟩);rw[hr];unfold xu at hr;simp only at hr;generalize hKP:(fun j=>pr (zN ⟨K,t,k,ks,a⟩ j))=KP at *;have hKQ:∀j,pr (zN ⟨K,t,k,ks,a⟩ j)=KP j:=fun j=>congrFun hKP j
 simp only[hKQ] at hr;generalize xY pr ks=A0 at *;generalize hHp:(fun wo=>qO pr ⟨K,t,k,ks,a⟩ wo)=HP at *;have hHQ:∀j,qO pr ⟨K,t,k,ks,a⟩ j=HP j:=fun j=>congrFun hHp j
 try simp only[hHQ] at hr
 have HwA:=zi hwA;have Hkd:=zi hkd;have Hhd:=zi hHd;have Hr:=zi hr;have Hf:=zi hfew;have hb0:=zi ((pF wA.heap.size wA).drew);have hS:∀V,Cl wA.drew V->NdS V w.heap.size 0 K t k up ks.length uc a:=fun V hV=>HS.out V (bR.drew.trans hV.below)
 clear hC hks hKP hKQ hHp hHQ hr hkd hHd hwA hfew;have Hn:=zi hnum;clear hnum;go_enter func118,ntmps118;go_wp2_with fail
 ·have hkc:=kd (k:=K) (by assumption);have hm:=hkc▸Hf.out;change 2<=ks.length at hm;have hr:=hkc▸Hr.out;simp at hr;subst hr;obtain rfl:=hup.resolve_right (by omega);obtain⟨z1,⟨N1,l1,_⟩,⟨i1,j1⟩,d1,hS⟩:=uS Hkd.out hS;obtain⟨z2,⟨N2,l2,_⟩,⟨i2,j2⟩,d2,hS⟩:=Xf Hkd.out hS (1) (1);rw[HwA.out];refine ki [(0,0),(1,0),(2,1),(3,0),(4,1),(8,0),(9,0),(10,1),(11,0),(12,1),(5,2),(6,0),(7,0),(13,2),(14,0),(15,0)] ?_;refine uQ N1 hb0 fun t1 w1 p1 y1 hb1=>?_
  refine uQ N2 hb1 fun t2 w2 p2 y2 hb2=>?_
  refine zC fun W hW=>?_
  have hbw:=zi (zg hb2.out hW.below);have d1:=(HS.out W hbw.out).2.2.2.1;by_cases h3:ks.length=3
  ·obtain⟨z3,⟨N3,l3,_⟩,⟨i3,j3⟩,d3,hS⟩:=Xf Hkd.out hS (2) (2);have d2:=zj hbw.out d3;go_wp2_with fail;refine (N3.out W hbw.out).mono ?_;rintro e w4 ⟨t3,rfl,p3,f3⟩;have y3:=xo p3;go_wp2;go_ret;refine YY HB (zg hbw.out f3) ?_;simp[zq,p1.out,p2.out,p3]
  ·have h3':((ks.length:Int) == 3)=false:=bfE (by omega)
   go_wp2;go_ret;refine YY HB hbw.out ?_;simp[zq,p1.out,p2.out]
 ·have hkc:=kd (k:=K) (by assumption);have hm:=hkc▸Hf.out;change 2<=ks.length at hm;have hr:=hkc▸Hr.out;simp at hr;subst hr;obtain rfl:=hup.resolve_right (by omega);obtain⟨z1,⟨N1,l1,_⟩,⟨i1,j1⟩,d1,hS⟩:=uS Hkd.out hS;obtain⟨z2,⟨N2,l2,_⟩,⟨i2,j2⟩,d2,hS⟩:=Xf Hkd.out hS (1) (1);rw[HwA.out];refine ki [(0,0),(1,0),(2,1),(3,0),(4,1),(8,0),(9,0),(10,1),(11,0),(12,1),(5,2),(6,0),(7,0),(13,2),(14,0),(15,0)] ?_;refine uQ N1 hb0 fun t1 w1 p1 y1 hb1=>?_
  refine uQ N2 hb1 fun t2 w2 p2 y2 hb2=>?_
  refine vR HB hb2 fun W hW=>?_
  go_wp2;go_ret;refine⟨_,rfl,?_,hW⟩;simp[zq,p1.out,p2.out]
 ·have hkc:=kd (k:=K) (by assumption);have hm:=hkc▸Hf.out;change 2<=ks.length at hm;have hr:=hkc▸Hr.out;simp at hr;subst hr;obtain rfl:=hup.resolve_right (by omega);obtain⟨hT,_,lT,_⟩:=hT2.out g off uc rfl wA HB.out;have N2:=hT (by omega);have hd1:¬((ks.length:Int)<1):=by omega
  have hd2:¬(uc=1):=by omega
  obtain⟨z1,⟨N1,l1,_⟩,⟨i1,j1⟩,d1,hS⟩:=uS Hkd.out hS;rw[HwA.out];refine ki [(0,0),(1,0),(2,1),(3,0),(4,1),(8,0),(9,0),(10,1),(11,0),(5,2),(6,0),(7,0),(12,2),(13,0),(14,0),(15,0)] ?_;refine uQ N1 hb0 fun t1 w1 p1 y1 hb1=>?_
  refine uQ N2 hb1 fun t2 w2 p2 y2 hb2=>?_
  refine vR HB hb2 fun W hW=>?_
  go_wp2;go_ret;refine⟨_,rfl,?_,hW⟩;simp[zq,p1.out,p2.out]
 ·have hkc:=kd (k:=K) (by assumption);have hm:=hkc▸Hf.out;change 2<=ks.length at hm;have hr:=hkc▸Hr.out;simp at hr;subst hr;obtain rfl:=hup.resolve_right (by omega);obtain⟨z1,⟨N1,l1,_⟩,⟨i1,j1⟩,d1,hS⟩:=uS Hkd.out hS;obtain⟨z2,⟨N2,l2,_⟩,⟨i2,j2⟩,d2,hS⟩:=Xf Hkd.out hS (1) (1);rw[HwA.out];refine ki [(0,0),(1,0),(2,1),(3,0),(4,1),(7,0),(8,0),(9,1),(10,0),(11,1),(5,2),(6,0),(12,2),(13,0),(14,0)] ?_;refine uQ N1 hb0 fun t1 w1 p1 y1 hb1=>?_
  refine uQ N2 hb1 fun t2 w2 p2 y2 hb2=>?_
  refine vR HB hb2 fun W hW=>?_
  go_wp2;go_ret;refine⟨_,rfl,?_,hW⟩;simp[zq,p1.out,p2.out]
 ·have hkc:=kd (k:=K) (by assumption);have hm:=hkc▸Hf.out;change 2<=ks.length at hm;have hr:=hkc▸Hr.out;simp at hr;subst hr;obtain⟨N1,l1⟩:=Hhd.out 1 (by omega);obtain rfl:=hup.resolve_right (by omega);obtain⟨z2,⟨N2,l2,_⟩,⟨i2,j2⟩,d2,hS⟩:=Xf Hkd.out hS (ks.length-1) ((ks.length:Int)-1);have hw1:IntKind.i64.wrap ((ks.length:Int)-1)=((ks.length-1:Nat):Int):=by rw[pJ _ ⟨by omega,by omega⟩];omega
  have hq0:¬(((ks.length-1:Nat):Int)<0):=by omega
  have hq2:((ks.length-1:Nat):Int)<(ks.length:Int):=by omega
  rw[HwA.out];refine ki [(0,0),(1,1),(5,0),(6,0),(7,1),(8,0),(9,1),(10,0),(11,0),(12,0),(13,1),(2,2),(3,0),(4,0),(14,2),(15,0),(16,0)] ?_;refine uQ N1 hb0 fun t1 w1 p1 y1 hb1=>?_
  refine uQ N2 hb1 fun t2 w2 p2 y2 hb2=>?_
  refine vR HB hb2 fun W hW=>?_
  go_wp2;go_ret;refine⟨_,rfl,?_,hW⟩;simp[zq,p1.out,p2.out]
 ·have hkc:=kd (k:=K) (by assumption);have hm:=hkc▸Hf.out;change 2<=ks.length at hm;have hr:=hkc▸Hr.out;simp at hr;subst hr;obtain rfl:=hup.resolve_right (by omega);obtain⟨z1,⟨N1,l1,_⟩,⟨i1,j1⟩,d1,hS⟩:=uS Hkd.out hS;obtain⟨z2,⟨N2,l2,_⟩,⟨i2,j2⟩,d2,hS⟩:=Xf Hkd.out hS (1) (1);rw[HwA.out];refine ki [(0,0),(1,0),(2,1),(3,0),(4,1),(8,0),(9,1),(12,0),(13,0),(14,1),(15,0),(16,1),(5,2),(6,0),(7,0),(10,0),(11,0),(17,2),(18,0),(19,0)] ?_;refine uQ N1 hb0 fun t1 w1 p1 y1 hb1=>?_
  refine uQ N2 hb1 fun t2 w2 p2 y2 hb2=>?_
  refine vR HB hb2 fun W hW=>?_
  go_wp2;go_ret;refine⟨_,rfl,?_,hW⟩;simp[zq,p1.out,p2.out]
 ·have hkc:=kd (k:=K) (by assumption);have hm:=hkc▸Hf.out;change 1<=ks.length at hm;have hr:=hkc▸Hr.out;simp at hr;subst hr;obtain⟨N1,l1⟩:=hAll;rw[HwA.out] at e2 e3 e4 e5 e6 ⊢;go_wp2_with fail;refine (N1.out _ bR).mono ?_;rintro e w1 ⟨t1,rfl,p1,f1⟩;have y1:=xo p1;go_wp2;go_ret;refine YY HB f1 ?_;simp[zq,p1]
 ·have hkc:=kd (k:=K) (by assumption);have hm:=hkc▸Hf.out;change 3<=ks.length at hm;have hr:=hkc▸Hr.out;simp at hr;subst hr;obtain rfl:=hup.resolve_right (by omega);obtain⟨z1,⟨N1,l1,_⟩,⟨i1,j1⟩,d1,hS⟩:=uS Hkd.out hS;obtain⟨z2,⟨N2,l2,_⟩,⟨i2,j2⟩,d2,hS⟩:=Xf Hkd.out hS (1) (1);obtain⟨z3,⟨N3,l3,_⟩,⟨i3,j3⟩,d3,hS⟩:=Xf Hkd.out hS (2) (2);rw[HwA.out];refine ki [(0,0),(1,0),(2,1),(3,0),(4,1),(8,0),(9,1),(12,0),(13,0),(14,1),(15,0),(16,1),(20,0),(21,0),(22,1),(23,0),(24,1),(5,2),(6,0),(7,0),(10,0),(11,0),(17,2),(18,0),(19,0),(25,2),(26,0),(27,0)] ?_;refine uQ N1 hb0 fun t1 w1 p1 y1 hb1=>?_
  refine uQ N2 hb1 fun t2 w2 p2 y2 hb2=>?_
  refine uQ N3 hb2 fun t3 w3 p3 y3 hb3=>?_
  refine vR HB hb3 fun W hW=>?_
  go_wp2;go_ret;refine⟨_,rfl,?_,hW⟩;simp[zq,p1.out,p2.out,p3.out]
 ·have hkc:=kd (k:=K) (by assumption);have hm:=hkc▸Hf.out;change 1<=ks.length at hm;have hr:=hkc▸Hr.out;simp at hr;subst hr;obtain⟨N1,l1⟩:=hAll;rw[HwA.out];refine ki [(0,0),(1,1),(2,0),(3,0),(4,0),(5,0),(6,1),(7,2),(8,0),(9,0),(10,0)] ?_;refine uQ N1 hb0 fun t1 w1 p1 y1 hb1=>?_
  refine vR HB hb1 fun W hW=>?_
  go_wp2;go_ret;refine⟨_,rfl,?_,hW⟩;simp[zq,p1.out]
 ·have hkc:=kd (k:=K) (by assumption);have hm:=hkc▸Hf.out;change 1<=ks.length at hm;have hr:=hkc▸Hr.out;simp at hr;subst hr;obtain rfl:=hup.resolve_right (by omega);obtain⟨z1,⟨N1,l1,_⟩,⟨i1,j1⟩,d1,hS⟩:=uS Hkd.out hS;rw[HwA.out];refine ki [(0,0),(1,1),(2,0),(3,0),(4,0),(5,1),(6,0),(7,1),(8,2),(9,0),(10,0)] ?_;refine uQ N1 hb0 fun t1 w1 p1 y1 hb1=>?_
  refine vR HB hb1 fun W hW=>?_
  go_wp2;go_ret;refine⟨_,rfl,?_,hW⟩;simp[zq,p1.out]
 ·have hkc:K=40:=by
   simp only[pB] at *;omega
  have hm:=hkc▸Hf.out;change 1<=ks.length at hm;have hr:=hkc▸Hr.out;simp at hr;subst hr;have hn0:=Hn.out;rw[hkc] at hn0;simp[xw] at hn0;have N2:=zi (fun W (hW:Below wA.heap.size wA W)=>hIt.out (by omega) (by omega) W (zg HB.out hW));have l2:=zbo (n:=k) (by omega) (by omega);obtain rfl:=hup.resolve_right (by omega);obtain⟨z1,⟨N1,l1,_⟩,⟨i1,j1⟩,d1,hS⟩:=uS Hkd.out hS;rw[HwA.out];refine ki [(0,0),(1,0),(2,1),(3,0),(4,1),(8,0),(9,1),(5,2),(6,0),(7,0),(10,2),(11,0),(12,0),(13,0)] ?_;refine uQ N1 hb0 fun t1 w1 p1 y1 hb1=>?_
  refine uQ N2 hb1 fun t2 w2 p2 y2 hb2=>?_
  refine vR HB hb2 fun W hW=>?_
  go_wp2;go_ret;refine⟨_,rfl,?_,hW⟩;simp[zq,p1.out,p2.out]
end
theorem zd4{P:Program}{w:World}{t kt et:TypeId}(ht:P.underlying t=some (.map kt et))(hk:P.underlying kt=some (.int .u8)){z:Value}(hz:(zeroValue et).run P w=.ok z w){r:Nat}{l:List (Nat×Value)}(hb:w.heap[r]? =some (ZN l))(k:Nat):
 (Instr.lookup t (.map (some r)) (.int .u8 k) false).run P w=.ok (((l.find? fun x=>x.1 == k).map Prod.snd).getD z) w:=by
 have h1:=fun e=>zbk (P:=P) (w:=w) hk k e
 cases hf:l.find? fun x=>x.1 == k with
 |none=>
  have hn:∀x∈l,x.1≠k:=fun x hx e=>by
   rw[List.find?_eq_none] at hf;exact hf x hx (by simpa using e)
  have h2:=Go.MapKept.run_findKey (w:=w) hk (show Instr.findNow (.int .u8) (.int .u8 k) (QU 0 l).toArray.toList 0=some none by simpa using Zm l 0 0 k hn);simp[Instr.lookup,run_underlying ht,Go.MapKept.run_getObj_map hb,h1,Result.andThen] at h2 ⊢;simp[h2,hz,Result.andThen]
 |some x=>
  obtain⟨kx,v⟩:=x;have hkx:kx=k:=by simpa using List.find?_some hf
  subst hkx;obtain⟨j,hj⟩:=Qu l 0 0 kx v hf;have h2:=Go.MapKept.run_findKey (w:=w) hk (show Instr.findNow (.int .u8) (.int .u8 kx) (QU 0 l).toArray.toList 0=some (some (j,v)) by simpa using hj);simp[Instr.lookup,run_underlying ht,Go.MapKept.run_getObj_map hb,h1,Result.andThen] at h2 ⊢;simp[h2]
theorem zdC{W:World}{s:Nat}(hb:W.heap[s]? =some (ZN jb))(k:Nat)(hk:k<256):(Instr.lookup 161 (.map (some s)) (.int .u8 k) true).run prog W=.ok (.tuple #[.string ⟨((xE k).getD []).toArray⟩,.bool (xE k).isSome]) W:=by
 have h:=VY (P:=prog) (w:=W) (z:=.string ⟨#[]⟩) underlying161 underlying5 (by kernel_rfl) hb k;have e:(jb.find? fun x=>x.1 == k)=(Qd.find? fun x=>x.1 == k).map fun x=>(x.1,Value.string ⟨x.2.toArray⟩):=by
  unfold jb;rw[List.find?_map];rfl
 have hs:=zdL k hk;rw[e] at h;rw[h,<-hs];cases Qd.find? fun x=>x.1 == k <;> rfl
theorem zcp{W:World}{r:Nat}(hb:W.heap[r]? =some (ZN yJ))(k:Nat)(hk:k<256)(hs:(xE k).isSome=true):(Instr.lookup 162 (.map (some r)) (.int .u8 k) false).run prog W=.ok (.int .i64 (qj k:Nat)) W:=by
 have h:=zd4 (P:=prog) (w:=W) (z:=.int .i64 0) underlying162 underlying5 (by kernel_rfl) hb k;have e:(yJ.find? fun x=>x.1 == k)=(ui.find? fun x=>x.1 == k).map fun x=>(x.1,Value.int .i64 x.2):=QM k
 rw[e] at h;rw[h];have hall:∀k,k<256->(xE k).isSome=true->((ui.find? fun x=>x.1 == k).map Prod.snd)=some ((qj k:Nat):Int):=by decide +kernel
 have:=hall k hk hs;cases hf:ui.find? fun x=>x.1 == k with
 |none=>rw[hf] at this;cases this
 |some y=>
  rw[hf] at this;have e2:y.2=((qj k:Nat):Int):=by simpa using this
  show Result.ok (Value.int .i64 y.2) W=_
  rw[e2]
abbrev zlG(W:World)(b:Nat)(K:Int)(t:List UInt8)(k:Int)(up:Option Addr)(m uc:Nat)(a:Int)(P gN oN ln nc s r:Nat)(lk:Array Value):Prop:=
 W.cell? ⟨b,0,none⟩=some (.int .u8 K)/\W.cell? ⟨b,1,none⟩=some (.string ⟨t.toArray⟩)/\W.cell? ⟨b,2,none⟩=some (.int .i64 k)/\W.cell? ⟨b,3,none⟩=some (.slice up m uc)/\W.cell? ⟨b,4,none⟩=some (.int .i64 a)/\
 W.cell? ⟨P,0,none⟩=some (.slice (some ⟨gN,oN,none⟩) ln nc)/\W.cell? ⟨P,2,none⟩=some (.map (some s))/\W.cell? ⟨P,3,none⟩=some (.map (some r))/\(Instr.lookup 161 (.map (some s)) (.int .u8 K) true).run prog W=.ok (.tuple lk) W
theorem ze9{P:Nat}{nv iv:Value}{l:List Nd}{kv:List Value}{pr:Int->List UInt8}{n:Nat}(H:kR P nv iv l kv pr n){w:World}(hC:PrC w P nv iv l kv){i K:Nat}{t:List UInt8}{k a:Int}{ks:List Int}(hx:l[i]? =some ⟨K,t,k,ks,a⟩){m:Nat}(hm:ks.length=m){KI:Int}(hKI:(K:Int)=KI){lk:Array Value}(hl:K<=255->#[.string ⟨((xE K).getD []).toArray⟩,.bool (xE K).isSome]=lk):
 ∃(s r nc gN oN uc:Nat) (up:Option Addr),nv=.slice (some ⟨gN,oN,none⟩) l.length nc/\K<=255/\((i:Int)<(l.length:Int)/\¬((i:Int)<0))/\(KS w (.slice up m uc) ks/\m<=uc)/\
  (w.cell? ⟨gN,oN+i*5,none⟩=some (.int .u8 KI)/\w.cell? ⟨gN,oN+i*5+1,none⟩=some (.string ⟨t.toArray⟩)/\w.cell? ⟨gN,oN+i*5+2,none⟩=some (.int .i64 k)/\w.cell? ⟨gN,oN+i*5+3,none⟩=some (.slice up m uc)/\w.cell? ⟨gN,oN+i*5+4,none⟩=some (.int .i64 a)/\w.cell? ⟨P,0,none⟩=some (.slice (some ⟨gN,oN,none⟩) l.length nc))/\w.heap[r]? =some (ZN yJ)/\
  ∃wA,w.alloc (.cells #[.int .u8 KI,.string ⟨t.toArray⟩,.int .i64 k,.slice up m uc,.int .i64 a] 45 (0,0))=wA/\Below w.heap.size w wA/\∀W,Below wA.heap.size wA W->zlG W w.heap.size KI t k up m uc a P gN oN l.length nc s r lk:=by
 obtain⟨s,r,h1,h2,h3⟩:=hC.pr.maps;have hx255:K<=255:=H.kind _ (wK hx);obtain⟨np,nc,rfl⟩:=hC.ns.form;obtain⟨gN,oN,u,rfl,hN⟩:=hC.ns.at hx;have hu:KS w u ks:=hN.kids;obtain⟨up,uc,rfl⟩:=hu.form;subst hm;subst hKI;have hA:=zf w (.cells #[.int .u8 K,.string ⟨t.toArray⟩,.int .i64 k,.slice up ks.length uc,.int .i64 a] 45 (0,0));have hZ:=zk w (.cells #[.int .u8 K,.string ⟨t.toArray⟩,.int .i64 k,.slice up ks.length uc,.int .i64 a] 45 (0,0));refine⟨s,r,nc,gN,oN,uc,up,rfl,hx255,⟨by have:=(gtL hx);omega,by omega⟩,⟨hu,hu.cap.2⟩,⟨hN.c0,hN.c1,hN.c2,hN.c3,hN.c4,zd h1 0⟩,h3,_,rfl,hA,fun W hb=>?_⟩;rw[<-hl hx255];exact⟨zd (zh hb hZ) 0,zd (zh hb hZ) 1,zd (zh hb hZ) 2,zd (zh hb hZ) 3,zd (zh hb hZ) 4,zd (zh (zg hA hb) h1) 0,zd (zh (zg hA hb) h1) 2,zd (zh (zg hA hb) h1) 3,zdC (((zg hA hb).block _ (gtA h2)).trans h2) _ (by omega)⟩
section
variable {P:Nat} {nv iv:Value} {l:List Nd} {kv:List Value} {pr:Int→List UInt8} {n:Nat}
theorem zjh(H:kR P nv iv l kv pr n)(i:Nat)(t:List UInt8)(k a:Int)(ks:List Int)(w:World)(hC:PrC w P nv iv l kv)(hx:l[i]? =some ⟨24,t,k,ks,a⟩)(ht:t.length<=3000)(hks:∀k∈ks,0<=k/\k<(n:Int))(hkl:ks.length<=100000)(hm1:1<=ks.length):Calls prog 79 #[.pointer (some ⟨P,0,none⟩),.int .i64 i] w (Vf w (yU l pr ⟨24,t,k,ks,a⟩)):=by
 obtain⟨R,hR⟩:=exE (yU l pr ⟨24,t,k,ks,a⟩);rw[hR];obtain⟨s,r,nc,gN,oN,uc,up,rfl,hx255,⟨hil,hi0⟩,⟨hu,hcap⟩,⟨a0,a1,a2,a3,a4,cP⟩,h3,wA,hwA,hA,HS⟩:=ze9 H hC hx (m:=ks.length) rfl (KI:=24) rfl (lk:= #[.string ⟨#[]⟩,.bool false]) (fun _=>rfl);obtain⟨g,off,rfl,_,d0⟩:=hu.at (j:=0) (by first|omega|simp);have hm0:ks.getD 0 0∈ks:=by rw[pA,glE (show 0<ks.length by omega)];exact wC _
 obtain⟨z0,hz0⟩:=pP (hks _ hm0).1;have l0:z0<n:=by have:=(hks _ hm0).2;omega
 rw[hz0] at d0;obtain⟨xz,hxz⟩:∃x,l[z0]? =some x:=⟨_,glE (wI l0 H.le)⟩;obtain⟨gN',oN',uz,ez,hNz⟩:=hC.ns.at hxz;cases ez;have hz1:(z0:Int)<(l.length:Int):=by have:=(gtL hxz);omega
 have hz9:¬((z0:Int)<0):=by omega
 have hkz:zE l (z0:Int)=xz.kind:=by
  unfold zE;rw[wE,hxz];rfl
 have hkd:∀k∈ks.drop 1,0<=k/\k<(n:Int):=fun k hk=>hks k (List.mem_of_mem_drop hk)
 have hdl:(ks.drop 1).length<=100000:=by rw[wW];omega
 have HD:=zi (fun (q:Option Addr) (c:Nat) (hq:KS w (.slice q (ks.length-1) c) (ks.drop 1)) W (hb:Below w.heap.size w W)=>Ze H (.slice q (ks.length-1) c) (ks.drop 1) W (hC.below hb) (hq.below hb) hkd hdl);have sD:=jr H hkd hdl;have hD1:=zi (KS.dropc hu 1 (by omega));have hD2:=zi (fun (h:ks.length=1)=>(show KS w (.slice (some ⟨g,off,none⟩) (ks.length-1) (uc-1)) (ks.drop 1) from by rw[List.drop_eq_nil_of_le (by omega),h];exact KS.nil _ _ _));obtain⟨y0,y1,y2,y3,y4⟩:=xz;have hK3:=hNz.kids;obtain⟨zp,zc,rfl⟩:=hK3.form;obtain⟨yn,hyn⟩:∃q,y3.length=q:=⟨_,rfl⟩;have b0:=hNz.c0;have b1:=hNz.c1;have b2:=hNz.c2;have b3:=hNz.c3;have b4:=hNz.c4;simp only[hyn] at b0 b1 b2 b3 b4;replace HS:=zi (fun W (hb:Below wA.heap.size wA W)=>And.intro (HS W hb) (show W.cell? ⟨gN,oN+z0*5,none⟩=some (.int .u8 y0)/\W.cell? ⟨gN,oN+z0*5+1,none⟩=some (.string ⟨y1.toArray⟩)/\W.cell? ⟨gN,oN+z0*5+2,none⟩=some (.int .i64 y2)/\W.cell? ⟨gN,oN+z0*5+3,none⟩=some (.slice zp yn zc)/\W.cell? ⟨gN,oN+z0*5+4,none⟩=some (.int .i64 y4)/\W.cell? ⟨g,off,none⟩=some (.int .i64 z0) from ⟨zj (zg hA hb) b0,zj (zg hA hb) b1,zj (zg hA hb) b2,zj (zg hA hb) b3,zj (zg hA hb) b4,zj (zg hA hb) d0⟩));have hb0:=zi (show Below wA.heap.size wA wA.drew from bR.drew);have hemp:((l[((z0:Int)).toNat]?).elim [] Nd.kids).isEmpty=decide (yn=0):=by
  rw[wE,hxz,<-hyn];show y3.isEmpty=decide (y3.length=0)
  cases y3 <;> simp
 have hk00:zN ⟨24,t,k,ks,a⟩ 0=(z0:Int):=hz0;have hR0:(if zE l (z0:Int) == 25 && ((l[((z0:Int)).toNat]?).elim [] Nd.kids).isEmpty then [40] ++ jq l pr z0 8 ++ [41] else jq l pr z0 8) ++ [40] ++ xY pr (ks.drop 1) ++ [41]=R:=by
  rw[<-hR,<-hk00];rfl
 rw[hkz,hemp] at hR0;replace hR:=hR0;clear hR0;have HK:=zi (fun W (hb:Below w.heap.size w W)=>zfh H z0 8 W (hC.below hb) l0);have s0:(jq l pr z0 8).length<=3200002:=by have:=xX l pr z0 8;have:=H.len z0 l0;omega
 generalize jq l pr z0 8=ps0 at *;generalize xY pr (ks.drop 1)=pD at *;generalize hm:ks.length=m at *;have Hm:=zi hm;clear hm hkz hNz hxz b0 b1 b2 b3 b4 hz0 hm0 hkd hdl hks hk00 hK3 hyn hemp d0;have hi1:0<m:=by omega
 have hi3:(0:Int)<(m:Int):=by omega
 have hd1:¬((m:Int)<1):=by omega
 have hd3:1<=m:=hm1;have HR:=zi hR;have HwA:=zi hwA;clear hwA hR hC hx hu h3 H;go_enter func79,ntmps79;go_wp2_with fail;rw[HwA.out];clear a0 a1 a2 a3 a4 cP;have hS:=fun W (h:Cl wA.drew W)=>HS.out W (zg hb0.out h.below)
 refine zaQ [(0,0),(1,0),(2,0),(3,1),(4,0),(5,1),(6,1),(7,0),(8,0),(9,0),(10,0),(11,0)] ?_;refine goM ?_;clear hS;refine zC fun V1 hV1=>?_
 have hb1:=zi (zg hb0.out hV1.below);clear hV1;obtain⟨⟨c0,c1,c2,c3,c4,cP,cS,cR,cL⟩,x0,x1,x2,x3,x4,x5⟩:=HS.out V1 hb1.out;go_wp2_with fail;refine (HK.out V1 (zg hA hb1.out)).mono ?_;rintro e w2 ⟨b2,rfl,hq2,f2⟩;have zz_2:=xo hq2;replace hq2:=zi hq2;have hb2:=zi (zg hb1.out f2);clear c0 c1 c2 c3 c4 cP cS cR cL x0 x1 x2 x3 x4 x5;go_wp2_with fail;have hS:=fun W (h:Cl w2.drew W)=>HS.out W (zg hb2.out (zg bR.drew h.below))
 refine zaQ [(0,0),(1,0),(2,0),(3,0),(4,1),(5,0),(6,1),(7,0),(8,1),(9,0),(10,1),(11,2),(12,3)] ?_;refine goM ?_;clear hS;refine zZ rfl rfl (fun K hK V hV=>?_);have hb3:=zi (zg hb2.out (zg bR.drew hV.below));go_simp;refine⟨ux.2 (zf _ _),hK _ _ ?_⟩;clear hK K
 try simp only[Act.put,yG,yE,yF]
 refine Xr rfl rfl (fun W hW=>?_);have hz:=zh hW.below (zk V (.cells #[.int .u8 0,.string ⟨#[]⟩,.int .i64 0,.slice none 0 0,.int .i64 0] 45 (0,0)));have hb4:=zi (zg hb3.out (zg (zf V _) hW.below))
 skip
 have e0:=zd hz 0;have e1:=zd hz 1;have e2:=zd hz 2;have e3:=zd hz 3;have e4:=zd hz 4;have ef:∀j,W.frozen? ⟨V.heap.size,j,none⟩=false:=fun j=>zl hz j
 have Hz:=zi hz;clear hz;go_simp;refine JE ?_;have z5:=zr (zr (zr (zr (zr Hz.out 0 (.int .u8 y0)) 1 (.string ⟨y1.toArray⟩)) 2 (.int .i64 y2)) 3 (.slice zp yn zc)) 4 (.int .i64 y4);have hle:wA.heap.size<=V.heap.size:=hb3.out.size;have hb5:=((((hb4.out.setCell (p:=⟨V.heap.size,0,none⟩) hle (.int .u8 y0)).setCell (p:=⟨V.heap.size,1,none⟩) hle (.string ⟨y1.toArray⟩)).setCell (p:=⟨V.heap.size,2,none⟩) hle (.int .i64 y2)).setCell (p:=⟨V.heap.size,3,none⟩) hle (.slice zp yn zc)).setCell (p:=⟨V.heap.size,4,none⟩) hle (.int .i64 y4);generalize World.setCell (World.setCell (World.setCell (World.setCell (World.setCell W _ _) _ _) _ _) _ _) _ _=W5 at z5 hb5 ⊢;replace hb5:=zi hb5;clear e0 e1 e2 e3 e4 ef Hz hW;obtain⟨⟨c0,c1,c2,c3,c4,cP,cS,cR,cL⟩,x0,x1,x2,x3,x4,x5⟩:=HS.out W5 hb5.out;have m0:=zd z5 0;have m3:=zd z5 3;generalize V.heap.size=LM at *;clear z5;by_cases h25:y0=25
 ·have h25':((y0:Int) == 25)=true:=by rw[pS];omega
  by_cases hn0:yn=0
  ·have hn0':((yn:Int) == 0)=true:=by rw[pS];omega
   have h:=HR.out;rw[if_pos (by simp[h25,hn0])] at h;by_cases hu1:uc=1
   ·subst hu1;have hm1e:m=1:=by omega
    have HDD:=HD.out _ _ (hD2.out hm1e);rw[hm1e] at HDD;simp only[Nat.sub_self] at HDD;replace HDD:=zi HDD;clear hm1e;go_wp2_with fail;refine (HDD.out W5 (zg hA hb5.out)).mono ?_;rintro e w6 ⟨b6,rfl,hq6,f6⟩;have zz_6:=xo hq6;replace hq6:=zi hq6;go_wp2;go_ret;refine⟨_,rfl,?_,zg hA (zg hb5.out f6)⟩;rw[<-h];simp[zq,hq2.out,hq6.out]
   ·have hd2:¬(uc=1):=hu1;have HDD:=zi (HD.out _ _ hD1.out);go_wp2_with fail;refine (HDD.out W5 (zg hA hb5.out)).mono ?_;rintro e w6 ⟨b6,rfl,hq6,f6⟩;have zz_6:=xo hq6;replace hq6:=zi hq6;go_wp2;go_ret;refine⟨_,rfl,?_,zg hA (zg hb5.out f6)⟩;rw[<-h];simp[zq,hq2.out,hq6.out]
  ·have hn0':((yn:Int) == 0)=false:=bfE (by omega)
   have h:=HR.out;rw[if_neg (by simp[hn0])] at h;by_cases hu1:uc=1
   ·subst hu1;have hm1e:m=1:=by omega
    have HDD:=HD.out _ _ (hD2.out hm1e);rw[hm1e] at HDD;simp only[Nat.sub_self] at HDD;replace HDD:=zi HDD;clear hm1e;go_wp2_with fail;refine (HDD.out W5 (zg hA hb5.out)).mono ?_;rintro e w6 ⟨b6,rfl,hq6,f6⟩;have zz_6:=xo hq6;replace hq6:=zi hq6;go_wp2;go_ret;refine⟨_,rfl,?_,zg hA (zg hb5.out f6)⟩;rw[<-h];simp[zq,hq2.out,hq6.out]
   ·have hd2:¬(uc=1):=hu1;have HDD:=zi (HD.out _ _ hD1.out);go_wp2_with fail;refine (HDD.out W5 (zg hA hb5.out)).mono ?_;rintro e w6 ⟨b6,rfl,hq6,f6⟩;have zz_6:=xo hq6;replace hq6:=zi hq6;go_wp2;go_ret;refine⟨_,rfl,?_,zg hA (zg hb5.out f6)⟩;rw[<-h];simp[zq,hq2.out,hq6.out]
 ·have h25':((y0:Int) == 25)=false:=bfE (by omega)
  have h:=HR.out;rw[if_neg (by simp[h25])] at h;by_cases hu1:uc=1
  ·subst hu1;have hm1e:m=1:=by omega
   have HDD:=HD.out _ _ (hD2.out hm1e);rw[hm1e] at HDD;simp only[Nat.sub_self] at HDD;replace HDD:=zi HDD;clear hm1e;go_wp2_with fail;refine (HDD.out W5 (zg hA hb5.out)).mono ?_;rintro e w6 ⟨b6,rfl,hq6,f6⟩;have zz_6:=xo hq6;replace hq6:=zi hq6;go_wp2;go_ret;refine⟨_,rfl,?_,zg hA (zg hb5.out f6)⟩;rw[<-h];simp[zq,hq2.out,hq6.out]
  ·have hd2:¬(uc=1):=hu1;have HDD:=zi (HD.out _ _ hD1.out);go_wp2_with fail;refine (HDD.out W5 (zg hA hb5.out)).mono ?_;rintro e w6 ⟨b6,rfl,hq6,f6⟩;have zz_6:=xo hq6;replace hq6:=zi hq6;go_wp2;go_ret;refine⟨_,rfl,?_,zg hA (zg hb5.out f6)⟩;rw[<-h];simp[zq,hq2.out,hq6.out]
end
end
end Go.Proofs.YtnncmdpopgkibaaGreatDoor
namespace Lode
theorem zcs{l:List Nd}{pr:Int->List UInt8}{x:Nd}(h:xE x.kind=none)(hn:[1,67,2,68,3,69,4,5,66,84,6,7,23,24,25,70,89,28].contains x.kind=false):yU l pr x=match zM.find? fun w=>w.2.1 == x.kind with
 |some w=>if w.2.2<0 then w.1 ++ [32] ++ jq l pr (zN x 0) 7 else if w.2.2 == 0 then w.1 else w.1 ++ [40] ++ xY pr x.kids ++ [41]
 |none=>if decide (60<=x.kind) && decide (x.kind<=65) then jR pr x else if 80<=x.kind then qe pr x else xu pr x:=by
 unfold yU;rw[h];simp at hn;cases hh:zM.find? fun w=>w.2.1 == x.kind <;> simp[hn]
theorem zgG:∀k,k<80->(yz k && (xE k).isNone && ![1,67,2,68,3,69,4,5,66,84,6,7,23,24,25,70,89,28].contains k && (zM.find? fun w=>w.2.1 == k).isNone && !(decide (60<=k) && decide (k<=65)))=true->26<=k/\k<=40/\k≠28/\k≠37/\k≠38/\k≠39:=by decide +kernel
theorem zgZ:∀w∈zM,w.1.length<=10/\(w.2.2<0->(xd w.2.1).1=1):=by decide
end Lode
namespace Go.Proofs.YtnncmdpopgkibaaGreatDoor
section
open Go.RowKit Lode Go.Shelf
attribute [local go_sem ↓] Go.wp_at_zero Go.wp_at_succ
open Go.Proofs.Tryz
theorem zls(k:Int):(if k=1 then ([116,114,117,101]:List UInt8) else [102,97,108,115,101])=Go.Lib.formatBool (k == 1):=by
 by_cases h:k=1
 ·rw[h];rfl
 ·rw[if_neg h,pB.2 h];rfl
theorem zfW{x:Nd}(h:jz x=true):x.text.length<=3000:=by
 by_cases h4:xf x.kind=4
 ·unfold jz at h;rw[h4] at h;unfold yV qA at h;simp at h;split at h
  ·simp at h
  ·omega
 ·exact vo h h4
theorem zkT:∀k,(xd k).2<=2000:=fun k=>by
 unfold xd
 repeat' split
 all_goals decide
theorem zhn:∀k,k<256->(xE k).isSome=true->(xd k).1=2/\qj k<=6/\((xE k).getD []).length<=10:=by decide +kernel
section
variable {P:Nat} {nv iv:Value} {l:List Nd} {kv:List Value} {pr:Int→List UInt8} {n:Nat}
theorem zdP(H:kR P nv iv l kv pr n)(i:Nat)(x:Nd)(w:World)(hC:PrC w P nv iv l kv)(hx:l[i]? =some x)(hr0:yj l x=true)(hks:∀k∈x.kids,0<=k/\k<(n:Int)):Calls prog 79 #[.pointer (some ⟨P,0,none⟩),.int .i64 i] w (Vf w (yU l pr x)):=by
 obtain⟨hkn,hfew,hmost,hnum,htit,_⟩:=yY hr0;have hkl:x.kids.length<=100000:=by have:=zkT x.kind;omega
 have ht:=zfW htit;obtain⟨K,t,k,ks,a⟩:=x;simp only at hkn hfew hnum hkl ht hks;by_cases h24:K=24
 ·subst h24;exact zjh H i t k a ks w hC hx ht hks hkl hfew
 obtain⟨s,r,nc,gN,oN,uc,up,rfl,hx255,⟨hil,hi0⟩,⟨hu,hcap⟩,⟨a0,a1,a2,a3,a4,cP⟩,h3,wA,hwA,hA,HSn⟩:=ze9 H hC hx (m:=ks.length) rfl (KI:=K) rfl (lk:= #[.string ⟨((xE K).getD []).toArray⟩,.bool (xE K).isSome]) (fun _=>rfl);obtain⟨g,off,up',uc',wA',he,hup,_,hwA',_,_,HB,hkd,hAll⟩:=zaY H hC (K:=K) (t:=t) (k:=k) (a:=a) hu hks hkl;cases he;rw[hwA] at hwA';subst hwA';have hCA:=zi (fun W (hW:Below wA.heap.size wA W)=>hC.below (zg HB.out hW));have huA:=zi (fun W (hW:Below wA.heap.size wA W)=>hu.below (zg HB.out hW));have hRk:=zi (fun (hs:(xE K).isSome=true) W (hW:Below wA.heap.size wA W)=>zcp (((zg HB.out hW).block _ (gtA h3)).trans h3) K (by omega) hs);have hIt:=zi (fun (h1: -1000000000<=k) (h2:k<=1000000000) W hb=>zfi (W:=W) hC h1 h2 (zg HB.out hb));have hPa:=zi (fun W (hW:Below wA.heap.size wA W)=>zdV H _ ks W (hCA.out W hW) (huA.out W hW) hks hkl);have hBl:=zi (fun W (hW:Below wA.heap.size wA W)=>zdR H ⟨K,t,k,ks,a⟩ _ W (hCA.out W hW) (huA.out W hW) hks hkl);have hSt:=zi (fun hK W (hW:Below wA.heap.size wA W)=>zgn H (k:=k) (a:=a) (hCA.out W hW) (huA.out W hW) hks hkl ht hfew hK);have hTy:=zi (fun (hK:80<=K) (hK2:K≠84/\K≠89) W (hW:Below wA.heap.size wA W)=>(show Calls prog 117 #[.pointer (some ⟨P,0,none⟩),.agg #[.int .u8 K,.string ⟨t.toArray⟩,.int .i64 k,.slice up ks.length uc,.int .i64 a]] W (Vf W (qe pr ⟨K,t,k,ks,a⟩)) from by
  by_cases h83:K<=83
  ·exact zje K (by omega) t k a ks _ W (huA.out W hW)
  ·exact zdY H (k:=k) (a:=a) (hCA.out W hW) (huA.out W hW) hks hkl ht hfew (by simp[yz] at hkn;omega)))
 have hCo:=zi (fun hK W (hW:Below wA.heap.size wA W)=>za5 H (k:=k) (a:=a) (hCA.out W hW) (huA.out W hW) hks hkl ht hfew hK hnum);have hLs:=zcs (l:=l) (pr:=pr) (x:=⟨K,t,k,ks,a⟩);have hZ:=zi (fun (j z:Nat) (e:zN ⟨K,t,k,ks,a⟩ j=(z:Int)) (h:z<n)=>(show (z:Int)<(l.length:Int)/\∀W,Below wA.heap.size wA W->W.cell? ⟨gN,oN+z*5,none⟩=some (.int .u8 (((fun j=>zE l (zN ⟨K,t,k,ks,a⟩ j)) j:Nat):Int)) from by
  have hzl:=wI h H.le;obtain⟨gN',oN',uz,ez,hNz⟩:=hC.ns.at (glE hzl);cases ez;refine⟨by omega,fun W hW=>?_⟩;have:=zj (zg HB.out hW) hNz.c0;rw[this];simp only[e,zE,wE,glE hzl];rfl))
 have lPa:=Vr H hks hkl;obtain⟨R,hr⟩:=exE (yU l pr ⟨K,t,k,ks,a⟩);rw[hr] at hLs ⊢;unfold yU at hr;simp only at hr hLs;generalize hKP:(fun j=>pr (zN ⟨K,t,k,ks,a⟩ j))=KP at *;have hKQ:∀j,pr (zN ⟨K,t,k,ks,a⟩ j)=KP j:=fun j=>congrFun hKP j
 simp only[hKQ] at hr;generalize hKK:(fun j=>zE l (zN ⟨K,t,k,ks,a⟩ j))=KK at *;have hKL:∀j,zE l (zN ⟨K,t,k,ks,a⟩ j)=KK j:=fun j=>congrFun hKK j
 simp only[hKL] at hr;generalize hLP:(fun j q=>jq l pr (zN ⟨K,t,k,ks,a⟩ j) q)=LP at *;have hLQ:∀j q,jq l pr (zN ⟨K,t,k,ks,a⟩ j) q=LP j q:=fun j q=>congrFun (congrFun hLP j) q
 simp only[hLQ] at hr hLs;generalize xY pr ks=A0 at *;generalize vX pr ks=B0 at *;generalize Ys pr ⟨K,t,k,ks,a⟩=B1 at *;generalize jR pr ⟨K,t,k,ks,a⟩=B2 at *;generalize qe pr ⟨K,t,k,ks,a⟩=B3 at *;generalize xu pr ⟨K,t,k,ks,a⟩=B4 at *;have HwA:=zi hwA;have Hkd:=zi hkd;have Hr:=zi hr;have Hf:=zi hfew;have Hn:=zi hnum;have HLs:=zi hLs;have Hkn:=zi hkn;replace HSn:=zi HSn;have hb0:=zi ((pF wA.heap.size wA).drew);have hS:=fun W (h:Cl wA.drew W)=>HSn.out W (zg hb0.out h.below)
 clear hLs hKK hKL hKP hKQ hLP hLQ hr hkd hwA hfew hC hu hks hr0 hmost hnum htit h3 hA H hCA huA hkn hx;go_enter func79,ntmps79;go_wp2_with fail;rw[HwA.out];clear a0 a1 a2 a3 a4 cP;refine ki [(0,0),(1,0),(2,0),(3,1),(4,0),(5,1),(6,1),(7,0),(8,0),(9,0),(10,0),(11,0)] ?_;refine zC fun V1 hV1=>?_
 have hb1:=zi (zg hb0.out hV1.below);obtain⟨c0,c1,c2,c3,c4,cP,cS,cR,cL⟩:=HSn.out V1 hb1.out;clear hV1;cases hsg:xE K with
 |some sg=>
  obtain⟨hs1,hs2,hs3⟩:=zhn K (by omega) (by rw[hsg];rfl);have hRk:=hRk.out (by rw[hsg];rfl);have hr:=Hr.out;rw[hsg] at hs3 cL hr;simp only[Option.getD_some] at hs3 hr;have hm:=hs1▸Hf.out;generalize qj K=rk at *;have hrw:=pJ ((rk:Int)+1) (by omega);obtain rfl:=hup.resolve_right (by omega);obtain⟨z0,⟨_,_,_,_,M0⟩,⟨i0,j0⟩,d0,_⟩:=uS Hkd.out hS;obtain⟨z1,⟨_,_,_,_,M1⟩,⟨i1,j1⟩,d1,_⟩:=Xf Hkd.out hS 1 1;replace hRk:=zi hRk;replace M0:=zi M0;replace M1:=zi M1;clear hsg hs1;go_wp2_with fail;have hb1d:=zi (zg hb1.out (pF V1.heap.size V1).drew);have hS:=fun W (h:Cl V1.drew W)=>And.intro (HSn.out W (zg hb1d.out h.below)) (hRk.out W (zg hb1d.out h.below))
  clear c0 c1 c2 c3 c4 cP cS cR cL;refine ki [(0,0),(1,0),(2,0),(3,1),(4,0),(5,1),(6,1),(7,0),(8,0),(9,0),(10,1),(11,0),(12,1),(13,1),(14,0),(15,0),(16,0)] ?_;refine zC fun V2 hV2=>?_
  have hb2:=zi (zg hb1d.out hV2.below);clear hV2 hS;have hb2d:=zi (zg hb2.out (pF V2.heap.size V2).drew);have hS:=fun W (h:Cl V2.drew W)=>And.intro (HSn.out W (zg hb2d.out h.below)) (And.intro (zj (zg hb2d.out h.below) d0) (zj (zg hb2d.out h.below) d1))
  by_cases h4:rk=4
  ·subst h4;obtain⟨A0,a0⟩:=M0.out 5;obtain⟨A1,a1⟩:=M1.out 5;rw[if_pos (by decide)] at hr;subst hr;go_wp2_with fail;refine ki [(0,0),(1,0),(2,1),(3,0),(4,1),(5,0),(8,0),(11,0),(12,0),(13,1),(14,0),(15,1),(16,0),(6,2),(7,0),(9,0),(10,0),(17,2),(18,0),(19,0)] ?_;refine uQ A0 hb2d fun t3 w3 p3 y3 hb3=>?_
   refine uQ A1 hb3 fun t4 w4 p4 y4 hb4=>?_
   refine vR HB hb4 fun W hW=>?_
   go_wp2;go_ret;refine⟨_,rfl,?_,hW⟩;simp[zq,p3.out,p4.out]
  ·have h4':((rk:Int) == 4)=false:=bfE (by omega)
   obtain⟨A0,a0⟩:=M0.out rk;obtain⟨A1,a1⟩:=M1.out (rk+1);rw[Int.natCast_add] at A1;rw[if_neg (by simp[h4])] at hr;subst hr;go_wp2_with fail;refine ki [(0,0),(1,0),(2,1),(3,0),(4,1),(5,0),(8,0),(11,0),(12,0),(13,1),(14,0),(15,1),(16,0),(6,2),(7,0),(9,0),(10,0),(17,2),(18,0),(19,0)] ?_;refine uQ A0 hb2d fun t3 w3 p3 y3 hb3=>?_
   refine uQ A1 hb3 fun t4 w4 p4 y4 hb4=>?_
   refine vR HB hb4 fun W hW=>?_
   go_wp2;go_ret;refine⟨_,rfl,?_,hW⟩;simp[zq,p3.out,p4.out]
 |none=>
  have hr:=Hr.out;rw[hsg] at hr;replace Hr:=zi hr;rw[hsg] at cL;clear hr hRk;replace hsg:=zi hsg;go_wp2_with fail
  iterate 2
   ·have hkc:=kd (k:=K) (by assumption);have hn0:=hkc▸Hn.out;simp[xw] at hn0;have hr:=hkc▸Hr.out;simp at hr;subst hr;refine (hIt.out (by omega) (by omega) V1 hb1.out).mono ?_;rintro e w4 ⟨t4,rfl,p4,f4⟩;have y4:=xo p4;replace p4:=zi p4;go_wp2;go_ret;refine YY HB (zg hb1.out f4) ?_;simp[zq,p4.out]
  iterate 2
   ·have hkc:=kd (k:=K) (by assumption);have hr:=hkc▸Hr.out;simp at hr;subst hr;refine (zdO t V1 (by omega)).mono ?_;rintro e w4 ⟨rfl,f4⟩;go_wp2;go_ret;exact⟨_,rfl,rfl,zg HB.out (zg hb1.out f4)⟩
  iterate 2
   ·have hkc:=kd (k:=K) (by assumption);have hr:=hkc▸Hr.out;simp at hr;rw[zls] at hr;replace hr:=zi hr;refine (Tryz.strconv_FormatBool (k == 1) V1).mono ?_;rintro e w4 ⟨rfl,rfl⟩;generalize Go.Lib.formatBool (k == 1)=fb at *;go_wp2;go_ret;exact⟨_,rfl,hr.out,zg HB.out hb1.out⟩
  iterate 4
   ·have hkc:=kd (k:=K) (by assumption);have hr:=hkc▸Hr.out;simp at hr;subst hr;go_ret;exact⟨_,rfl,rfl,zg HB.out hb1.out⟩
  ·have hkc:=kd (k:=K) (by assumption);have hm:=hkc▸Hf.out;change 1<=ks.length at hm;have hr:=hkc▸Hr.out;simp at hr;subst hr;obtain rfl:=hup.resolve_right (by omega);obtain⟨z0,⟨N0,l0,hz,ez,M0⟩,⟨i0,j0⟩,d0,hS⟩:=uS Hkd.out hS;have c5:=zj hb1.out d0;obtain⟨M1,m1⟩:=M0 7;obtain⟨hz1,cz⟩:=hZ.out 0 z0 ez hz;have hz9:¬((z0:Int)<0):=by omega
   have hb1d:=zi (zg hb1.out (pF V1.heap.size V1).drew);have hS:=fun W (h:Cl V1.drew W)=>And.intro (HSn.out W (zg hb1d.out h.below)) (And.intro (zj (zg (pF V1.heap.size V1).drew h.below) c5) (cz W (zg hb1d.out h.below)))
   clear c0 c1 c2 c3 c4 cP cS cR cL c5;refine ki [(0,0),(1,0),(2,0),(3,0),(4,1),(5,0),(6,1),(7,0),(8,1),(9,0),(10,0),(11,1),(12,0)] ?_;refine zC fun V2 hV2=>?_
   have hb2:=zi (zg hb1d.out hV2.below);obtain⟨c0,c1,c2,c3,c4,cP,cS,cR,cL⟩:=HSn.out V2 hb2.out;have c5:=zj hb2.out d0;clear hV2;replace hb1:=hb2;by_cases h6:KK 0=6
   ·have h6':((KK 0:Int) == 6)=true:=by rw[pS];omega
    go_wp2_with fail;refine (N0.out V2 hb2.out).mono ?_;rintro e w4 ⟨t4,rfl,p4,f4⟩;have y4:=xo p4;replace p4:=zi p4;go_wp2;go_ret;refine YY HB (zg hb1.out f4) ?_;simp[zq,p4.out]
   ·have h6':((KK 0:Int) == 6)=false:=bfE (by omega)
    go_wp2_with fail;refine (M1.out V2 hb2.out).mono ?_;rintro e w4 ⟨t4,rfl,p4,f4⟩;have y4:=xo p4;replace p4:=zi p4;go_wp2;go_ret;refine YY HB (zg hb1.out f4) ?_;simp[zq,p4.out]
  ·have hkc:=kd (k:=K) (by assumption);have hm:=hkc▸Hf.out;change 1<=ks.length at hm;have hr:=hkc▸Hr.out;simp at hr;subst hr;obtain rfl:=hup.resolve_right (by omega);obtain⟨z0,⟨N0,l0,hz,ez,M0⟩,⟨i0,j0⟩,d0,hS⟩:=uS Hkd.out hS;have c5:=zj hb1.out d0;obtain⟨M1,m1⟩:=M0 3;go_wp2_with fail;refine (M1.out V1 hb1.out).mono ?_;rintro e w4 ⟨t4,rfl,p4,f4⟩;have y4:=xo p4;replace p4:=zi p4;go_wp2;go_ret;refine YY HB (zg hb1.out f4) ?_;simp[zq,p4.out]
  ·have hkc:=kd (k:=K) (by assumption);have hm:=hkc▸Hf.out;change 1<=ks.length at hm;have hr:=hkc▸Hr.out;simp at hr;subst hr;obtain rfl:=hup.resolve_right (by omega);obtain⟨z0,⟨N0,l0,hz,ez,M0⟩,⟨i0,j0⟩,d0,hS⟩:=uS Hkd.out hS;have c5:=zj hb1.out d0;obtain⟨M1,m1⟩:=M0 8;have hb1d:=zi (zg hb1.out (pF V1.heap.size V1).drew);have hS:=fun W (h:Cl V1.drew W)=>And.intro (HSn.out W (zg hb1d.out h.below)) (zj (zg (pF V1.heap.size V1).drew h.below) c5)
   clear c0 c1 c2 c3 c4 cP cS cR cL c5;refine ki [(0,0),(1,0),(2,1),(3,0),(4,1),(7,0),(8,1),(5,2),(6,0),(9,0),(10,0)] ?_;refine uQ M1 hb1d fun t4 w4 p4 y4 hb4=>?_
   refine vR HB hb4 fun W hW=>?_
   go_wp2;go_ret;refine⟨_,rfl,?_,hW⟩;simp[zq,p4.out]
  iterate 3
   ·have hkc:=kd (k:=K) (by assumption);have hr:=hkc▸Hr.out;simp at hr;subst hr;have hb1d:=zi (zg hb1.out (pF V1.heap.size V1).drew);have hS:=fun W (h:Cl V1.drew W)=>HSn.out W (zg hb1d.out h.below)
    clear c0 c1 c2 c3 c4 cP cS cR cL;refine ki [(0,0),(1,1),(2,0),(3,0),(4,1),(5,2),(6,0),(7,0)] ?_;refine uQ hPa hb1d fun t4 w4 p4 y4 hb4=>?_
    refine vR HB hb4 fun W hW=>?_
    go_wp2;go_ret;refine⟨_,rfl,?_,hW⟩;simp[zq,p4.out]
  ·have hkc:=kd (k:=K) (by assumption);have hr:=hkc▸Hr.out;simp at hr;subst hr;refine (hBl.out V1 hb1.out).mono ?_;rintro e w4 ⟨t4,rfl,p4,f4⟩;have y4:=xo p4;replace p4:=zi p4;go_wp2;go_ret;refine YY HB (zg hb1.out f4) ?_;simp[zq,p4.out]
  ·have hc:[1,67,2,68,3,69,4,5,66,84,6,7,23,24,25,70,89,28].contains K=false:=by
    simp only[pB] at *;simp;omega
   have hr:=HLs.out hsg.out hc;have hK5:K≠84/\K≠89/\K≠28:=by simp at hc;omega
   have hcc:=zi hc;clear hc;refine (JF K V1).mono ?_;rintro e w2 ⟨rfl,f2⟩;unfold zaD;have hb2:=zi (zg hb1.out f2);clear f2;obtain⟨c0,c1,c2,c3,c4,cP,cS,cR,cL⟩:=HSn.out w2 hb2.out;cases hfd:zM.find? fun w=>w.2.1 == K with
   |some x=>
    obtain⟨x0,x1,x2⟩:=x;simp only[JG];have hKx:x1=K:=by simpa using List.find?_some hfd
    obtain⟨hl0,hw⟩:=zgZ _ (List.mem_of_find?_eq_some hfd);simp only[hKx] at hl0 hw;clear hKx;rw[hfd] at hr;simp only at hr;have hwb:=zk w2 (.cells #[.string ⟨x0.toArray⟩,.int .u8 x1,.int .i64 x2] 178 (0,0));have hb3:=zi (zg hb2.out (zf w2 (.cells #[.string ⟨x0.toArray⟩,.int .u8 x1,.int .i64 x2] 178 (0,0))));have v0:=zd hwb 0;have v2:=zd hwb 2;clear hwb hfd c0 c1 c2 c3 c4 cP cS cR cL;by_cases hx2:x2<0
    ·have hx2a:decide (x2<0)=true:=wX hx2;rw[if_pos hx2] at hr;subst hr;have hm:=hw hx2▸Hf.out;obtain rfl:=hup.resolve_right (by omega);obtain⟨z0,⟨N0,l0,hz,ez,M0⟩,⟨i0,j0⟩,d0,hS⟩:=uS Hkd.out hS;have c5:=zj hb1.out d0;obtain⟨M1,m1⟩:=M0 7;go_wp2_with fail;generalize hw3:w2.alloc (.cells #[.string ⟨x0.toArray⟩,.int .u8 x1,.int .i64 x2] 178 (0,0))=w3 at *;have hb3d:=zi (zg hb3.out (pF w3.heap.size w3).drew);have hS:=fun W (h:Cl w3.drew W)=>And.intro (And.intro (zj (zg (pF w3.heap.size w3).drew h.below) v0) (HSn.out W (zg hb3d.out h.below))) (zj (zg hb3d.out h.below) d0)
     clear v0 v2;refine ki [(0,0),(1,1),(2,0),(3,0),(4,0),(5,1),(6,0),(7,1),(8,2),(9,0),(10,0)] ?_;refine uQ M1 hb3d fun t4 w4 p4 y4 hb4=>?_
     refine vR HB hb4 fun W hW=>?_
     go_wp2;go_ret;refine⟨_,rfl,?_,hW⟩;simp[zq,p4.out]
    ·have hx2a:decide (x2<0)=false:=wR hx2;rw[if_neg hx2] at hr;by_cases hx0:x2=0
     ·subst hx0;rw[if_pos (by decide)] at hr;subst hr;go_wp2;go_ret;exact⟨_,rfl,rfl,zg HB.out hb3.out⟩
     ·have hx0':(x2 == 0)=false:=pB.2 hx0;rw[if_neg (by simp[hx0'])] at hr;subst hr;obtain⟨A1,lA⟩:=hAll;go_wp2_with fail;generalize hw3:w2.alloc (.cells #[.string ⟨x0.toArray⟩,.int .u8 x1,.int .i64 x2] 178 (0,0))=w3 at *;have hb3d:=zi (zg hb3.out (pF w3.heap.size w3).drew);have hS:=fun W (h:Cl w3.drew W)=>And.intro (And.intro (zj (zg (pF w3.heap.size w3).drew h.below) v0) (HSn.out W (zg hb3d.out h.below))) (trivial)
      clear v0 v2;refine ki [(0,0),(1,1),(2,0),(3,0),(4,0),(5,1),(6,2),(7,0),(8,0),(9,0)] ?_;refine uQ A1 hb3d fun t4 w4 p4 y4 hb4=>?_
      refine vR HB hb4 fun W hW=>?_
      go_wp2;go_ret;refine⟨_,rfl,?_,hW⟩;simp[zq,p4.out]
   |none=>
    simp only[JG];have hKc:=zi (fun (h60:(decide (60<=K) && decide (K<=65))=false) h80=>zgG K h80 (by rw[Hkn.out,hsg.out,hcc.out,hfd,h60];rfl));rw[hfd] at hr;simp only at hr;have hb3:=zi (zg hb2.out (zf w2 (.cells #[.string ⟨#[]⟩,.int .u8 0,.int .i64 0] 178 (0,0))));replace hr:=zi hr;clear c0 c1 c2 c3 c4 cP cS cR cL hfd;obtain⟨c0,c1,c2,c3,c4,cP,cS,cR,cL⟩:=HSn.out _ hb3.out;go_wp2_with fail;refine (qL K 60 65 _).mono ?_;rintro e w4 ⟨rfl,f4⟩;have hb1:=zi (zg hb3.out f4);clear c0 c1 c2 c3 c4 cP cS cR cL f4;obtain⟨c0,c1,c2,c3,c4,cP,cS,cR,cL⟩:=HSn.out w4 hb1.out;replace hr:=hr.out;by_cases h60:60<=K/\K<=65
    ·have hbt:(decide (60<=K) && decide (K<=65))=true:=by simp[h60]
     rw[hbt] at hr ⊢;rw[if_pos rfl] at hr;subst hr;clear hbt;go_wp2_with fail;refine (hSt.out h60 w4 hb1.out).mono ?_;rintro e w4 ⟨t4,rfl,p4,f4⟩;have y4:=xo p4;replace p4:=zi p4;go_wp2;go_ret;refine YY HB (zg hb1.out f4) ?_;simp[zq,p4.out]
    ·have hbt:(decide (60<=K) && decide (K<=65))=false:=by simp;omega
     rw[hbt] at hr ⊢;rw[if_neg (by decide)] at hr;replace hKc:=zi (hKc.out hbt);clear hbt;by_cases h80:80<=K
     ·have h80':(80:Int)<=(K:Int):=by omega
      rw[if_pos h80] at hr;subst hr;go_wp2_with fail;refine (hTy.out h80 ⟨hK5.1,hK5.2.1⟩ w4 hb1.out).mono ?_;rintro e w4 ⟨t4,rfl,p4,f4⟩;have y4:=xo p4;replace p4:=zi p4;go_wp2;go_ret;refine YY HB (zg hb1.out f4) ?_;simp[zq,p4.out]
     ·have h80':¬(80:Int)<=(K:Int):=by omega
      rw[if_neg h80] at hr;subst hr;go_wp2_with fail;refine (hCo.out (hKc.out (by omega)) w4 hb1.out).mono ?_;rintro e w4 ⟨t4,rfl,p4,f4⟩;have y4:=xo p4;replace p4:=zi p4;go_wp2;go_ret;refine YY HB (zg hb1.out f4) ?_;simp[zq,p4.out]
end
theorem VS(P:Nat)(nv iv:Value)(l:List Nd)(kv:List Value)(hF:xL l l.length)(hR:∀x∈l,yj l x=true)(hn:l.length<=1000)(h255:∀x∈l,x.kind<=255):∀f m,m<=f->m<=l.length->kR P nv iv l kv (prN l f) m
 |0,m,hm,_=>by
  obtain rfl:m=0:=by omega
  exact⟨fun _ i hi=>absurd hi (wG _),fun i hi=>absurd hi (wG _),pU _,h255⟩
 |f+1,m,hm,hf=>by
  refine⟨fun w i hi hC=>?_,fun i hi=>VR hF hR hn (f+1) i (by omega),hf,h255⟩;have hil:i<l.length:=by omega
  have ih:=VS P nv iv l kv hF hR hn h255 f i (by omega) (by omega);have hx:l[i]? =some l[i]:=glE hil;have e2:prN l (f+1) i=yU l (prN l f) l[i]:=by
   show (match l[(i:Int).toNat]? with|some x=>yU l (prN l f) x|none=>[])=_
   rw[wE,hx]
  rw[e2];exact zdP ih i l[i] w hC hx (hR _ (wC hil)) (fun k hk=>by
   obtain⟨h0,h1⟩:=jY hF hil k hk;exact⟨h0,by omega⟩)
end
end Go.Proofs.YtnncmdpopgkibaaGreatDoor
