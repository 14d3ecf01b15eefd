/-
  A part of the proof: contracts of functions; no conditions.
-/
import Derived.Test.YtnncmdpopgkibaaGreatDoorKD
set_option maxRecDepth 100000
set_option maxHeartbeats 40000000
set_option linter.unusedSimpArgs false
set_option linter.unusedVariables false
namespace Lode
theorem jY{l:List Nd}(h:xL l l.length){i:Nat}(hi:i<l.length):∀k∈(l[i]'hi).kids,0<=k/\k<i:=by
 obtain⟨p,hp,_,_⟩:=qF h hi;rw[glE hi] at hp;intro k hk;have:=Jq _ _ _ hp k (wY.2 hk);omega
theorem KG{l:List Nd}{f:Nat}:∀(ks:List Int) (c:Int),(∀k∈ks,QH l f k=((jH l l.length).getD k.toNat 0:Nat))->ks.foldl (fun n k=>n+QH l f k) c=c+(ks.map fun k=>(((jH l l.length).getD k.toNat 0:Nat):Int)).sum
 |[],c,_=>by simp
 |k :: r,c,h=>by
  rw[List.foldl_cons,KG r _ (fun j hj=>h j (pY _ hj)),h k (List.mem_cons_self ..),List.map_cons,List.sum_cons,Int.add_assoc]
theorem zaJ{out:List Nat}:∀(rk:List Int) (p e:Int),ZM out rk p=some e->(rk.map fun k=>((out.getD k.toNat 0:Nat):Int)).sum=p-e
 |[],p,e,h=>by cases h;simp
 |k :: r,p,e,h=>by
  unfold ZM at h;split at h
  ·cases h
  ·rename_i hc;have hk:k=p:=by omega
   have:=zaJ r _ e h;rw[List.map_cons,List.sum_cons,this,hk];omega
theorem Jr{l:List Nd}(h:xL l l.length):∀(i f:Nat),i<l.length->i<f->QH l f i=((jH l l.length).getD i 0:Nat)
 |i,0,_,hf=>absurd hf (wG _)
 |i,f+1,hi,hf=>by
  obtain⟨p,hp,hsz,hpi⟩:=qF h hi;have hkid:=jY h hi;have hx:l[i]? =some l[i]:=glE hi;rw[hx] at hp;simp only[Option.elim] at hp;unfold QH;rw[wE,hx];simp only[Option.elim];rw[KG _ _ (fun k hk=>?_)]
  ·have hs:=zaJ _ _ _ hp;rw[List.map_reverse,List.sum_reverse] at hs;rw[hs,hsz];omega
  ·obtain⟨h0,h1⟩:=hkid k hk;obtain⟨k',rfl⟩:=pP h0;rw[wE];exact Jr h k' f (by omega) (by omega)
termination_by i=>i
theorem KV{t:yo}(h:Qv t=0):xL t.nodes t.nodes.length:=by
 unfold Qv at h;split at h
 ·cases h
 ·split at h
  ·cases h
  ·rename_i hf;exact (Zj (by simpa using hf)).1
section
variable {l:List Nd} {pr:Int→List UInt8} {x:Nd} {i:Nat}
theorem yY(h:yj l x=true):yz x.kind=true/\(xd x.kind).1<=x.kids.length/\x.kids.length<=(xd x.kind).2/\xw x.kind x.n x.kids.length=true/\jz x=true/\∀i,i<x.kids.length->zS x.kind x.n x.kids.length i (zE l (zN x i))=true:=by
 unfold yj at h;simp only[pG,pH,pO,List.mem_range] at h;obtain⟨⟨⟨⟨⟨⟨⟨h1,h2⟩,h3⟩,h4⟩,h5⟩,h6⟩,h7⟩,h8⟩:=h;exact⟨h1,h2,h3,h4,h7,h8⟩
end
def qI(pr:Int->List UInt8):List Int->Nat
 |[]=>0
 |k :: r=>(pr k).length+8+qI pr r
theorem Ku(pr:Int->List UInt8):∀a b:List Int,qI pr (a ++ b)=qI pr a+qI pr b
 |[],_=>by simp[qI]
 |k :: r,b=>by
  show (pr k).length+8+qI pr (r ++ b)=(pr k).length+8+qI pr r+qI pr b
  rw[Ku pr r b];omega
theorem xX(l:List Nd)(pr:Int->List UInt8)(k:Int)(r:Nat):(jq l pr k r).length<=(pr k).length+2:=by
 unfold jq;split
 ·simp only[pC,pK,pR];omega
 ·omega
theorem zao(pr:Int->List UInt8):∀ks:List Int,(kZ (ks.map pr)).length<=qI pr ks
 |[]=>by simp[kZ,qI]
 |[k]=>by
  simp only[List.map_cons,List.map_nil,kZ,qI];omega
 |k :: j :: r=>by
  have ih:=zao pr (j :: r);rw[List.map_cons] at ih ⊢;rw[List.map_cons];unfold kZ qI;simp only[pC,pK,pR] at ih ⊢;omega
theorem kB(pr:Int->List UInt8)(ks:List Int):(xY pr ks).length<=qI pr ks:=zao pr ks
theorem zdN(pr:Int->List UInt8)(ks:List Int):(vX pr ks).length<=qI pr ks+2:=by
 unfold vX;have:=kB pr ks;split
 ·simp
 ·simp only[pC,pK,pR];omega
theorem Kh(pr:Int->List UInt8)(last:Bool):∀ks:List Int,(qo pr last ks).length<=qI pr ks
 |[]=>by simp[qo,qI]
 |[k]=>by
  unfold qo qI qI;cases last <;> simp
 |k :: j :: r=>by
  have ih:=Kh pr last (j :: r);unfold qo qI;simp only[pC,pK,pR] at ih ⊢;omega
theorem ZH:∀(d u:Nat),u<10 ^ (d+1)->(Go.Lib.decDigits u).length<=d+1
 |0,u,h=>by
  rw[Go.Lib.decDigits];split
  ·simp
  ·rename_i h2;simp at h;omega
 |d+1,u,h=>by
  rw[Go.Lib.decDigits];split
  ·simp
  ·have:=ZH d (u / 10) (by
    rw[Nat.div_lt_iff_lt_mul (by decide)];rw[Nat.pow_succ] at h;exact h)
   rw[pC,pI];omega
theorem zbo{n:Int}(h1: -1000000000<=n)(h2:n<=1000000000):(Go.Lib.itoa n).length<=11:=by
 unfold Go.Lib.itoa;split
 ·have:=ZH 9 n.natAbs (by omega);simp only[pK];omega
 ·have:=ZH 9 n.toNat (by omega);omega
theorem vo{x:Nd}(h:jz x=true)(h4:xf x.kind≠4):x.text.length<=3000:=by
 unfold jz at h;split at h
 ·have:x.text=[]:=by simpa using h
  rw[this];simp
 ·unfold yV at h;rw[if_neg h4] at h;split at h
  ·rename_i hr;rcases Nat.lt_or_ge 3000 x.text.length with hl|hl
   ·exfalso;have h1:=hr.1;unfold yQ qr at h1;rw[if_pos hl] at h1;simp at h1
   ·exact hl
  ·simp at h
theorem zjW:∀l:List UInt8,(l.flatMap zV).length<=2*l.length
 |[]=>by simp
 |c :: r=>by
  have:=zjW r;rw[List.flatMap_cons,pC,pK];have:(zV c).length<=2:=by
   unfold zV;split
   ·simp
   ·split <;> simp
  omega
theorem zhC(t:List UInt8):(qA t).1.length<=122:=by
 unfold qA;split
 ·simp
 ·split
  ·have:=zjW t;simp only[pC,pK,pR];omega
  ·simp
section
variable {l:List Nd} {pr:Int→List UInt8} {x:Nd}
theorem zhV(hr:yj l x=true)(hk:x.kind∈[1,2,3,4,5,44,45,46,80,81,82,83,84,66,67,68,69]):(yU l pr x).length<=qI pr x.kids+3100:=by
 obtain⟨k,t,n,ks,a⟩:=x;simp only[wD,wH,or_false] at hk;obtain⟨_,h1,h2,hn,ht,hs⟩:=yY hr;clear hr hs h1 h2;have hq:=zhC t;have ht:xf k≠4->t.length<=3000:=fun h=>vo ht h
 rcases hk with rfl|rfl|rfl|rfl|rfl|rfl|rfl|rfl|rfl|rfl|rfl|rfl|rfl|rfl|rfl|rfl|rfl
 all_goals simp[xw] at hn
 all_goals simp[xf] at ht
 all_goals simp[yU,xE,zM,qe]
 all_goals first
  |omega
  |(have:=zbo (n:=n) (by omega) (by omega);omega)
  |(split <;> (try simp) <;> omega)
theorem zjn(hr:yj l x=true)(hk:x.kind∈[6,7,23,27,37,38,39,40,42,43,47,50,51,60,61,65,86,87,88]):(yU l pr x).length<=qI pr x.kids+3100:=by
 obtain⟨k,t,n,ks,a⟩:=x;simp only[wD,wH,or_false] at hk;obtain⟨_,h1,h2,hn,ht,hs⟩:=yY hr;clear hr hs;have hl:ks.length=1:=by
  rcases hk with rfl|rfl|rfl|rfl|rfl|rfl|rfl|rfl|rfl|rfl|rfl|rfl|rfl|rfl|rfl|rfl|rfl|rfl|rfl
  all_goals (simp[xd] at h1 h2;omega)
 clear h1 h2;obtain⟨c,rfl⟩:∃c,ks=[c]:=by
  match ks,hl with
  |[c],_=>exact⟨c,rfl⟩
 have ht:t.length<=3000:=vo ht (by dsimp only;rcases hk with rfl|rfl|rfl|rfl|rfl|rfl|rfl|rfl|rfl|rfl|rfl|rfl|rfl|rfl|rfl|rfl|rfl|rfl|rfl <;> decide);have q3:=xX l pr c 3;have q7:=xX l pr c 7;have q8:=xX l pr c 8;have qa:=kB pr [c];simp only[qI] at qa ⊢;rcases hk with rfl|rfl|rfl|rfl|rfl|rfl|rfl|rfl|rfl|rfl|rfl|rfl|rfl|rfl|rfl|rfl|rfl|rfl|rfl
 all_goals simp[xw] at hn
 all_goals simp[yU,xE,zM,zN,qe,jR,xu]
 all_goals first
  |omega
  |(have:=zbo (n:=n) (by omega) (by omega);omega)
  |(split <;> (try simp) <;> omega)
theorem zjm(hr:yj l x=true)(hk:x.kind∈[8,9,10,11,12,13,14,15,16,17,18,19,20,21,22,30,32,34,41,48,62,63,104]):(yU l pr x).length<=qI pr x.kids+3100:=by
 obtain⟨k,t,n,ks,a⟩:=x;simp only[wD,wH,or_false] at hk;obtain⟨_,h1,h2,hn,ht,hs⟩:=yY hr;clear hr hs hn;have hl:ks.length=2:=by
  rcases hk with rfl|rfl|rfl|rfl|rfl|rfl|rfl|rfl|rfl|rfl|rfl|rfl|rfl|rfl|rfl|rfl|rfl|rfl|rfl|rfl|rfl|rfl|rfl
  all_goals (simp[xd] at h1 h2;omega)
 clear h1 h2;obtain⟨c,d,rfl⟩:∃c d,ks=[c,d]:=by
  match ks,hl with
  |[c,d],_=>exact⟨c,d,rfl⟩
 have ht:t.length<=3000:=vo ht (by dsimp only;rcases hk with rfl|rfl|rfl|rfl|rfl|rfl|rfl|rfl|rfl|rfl|rfl|rfl|rfl|rfl|rfl|rfl|rfl|rfl|rfl|rfl|rfl|rfl|rfl <;> decide);have q1:=xX l pr c 1;have q2:=xX l pr c 2;have q5:=xX l pr c 5;have q6:=xX l pr c 6;have p2:=xX l pr d 2;have p3:=xX l pr d 3;have p5:=xX l pr d 5;have p6:=xX l pr d 6;have p7:=xX l pr d 7;have qa:=kB pr [c,d];simp only[qI] at qa ⊢;rcases hk with rfl|rfl|rfl|rfl|rfl|rfl|rfl|rfl|rfl|rfl|rfl|rfl|rfl|rfl|rfl|rfl|rfl|rfl|rfl|rfl|rfl|rfl|rfl
 all_goals simp[yU,xE,qj,zM,zN,qe,jR,xu]
 all_goals omega
theorem zgv(hr:yj l x=true)(hk:x.kind∈[49,64,36]):(yU l pr x).length<=qI pr x.kids+3100:=by
 obtain⟨k,t,n,ks,a⟩:=x;simp only[wD,wH,or_false] at hk;obtain⟨_,h1,h2,hn,ht,hs⟩:=yY hr;clear hr hs hn;have hl:ks.length=3:=by
  rcases hk with rfl|rfl|rfl
  all_goals (simp[xd] at h1 h2;omega)
 clear h1 h2;obtain⟨c,d,e,rfl⟩:∃c d e,ks=[c,d,e]:=by
  match ks,hl with
  |[c,d,e],_=>exact⟨c,d,e,rfl⟩
 have ht:t.length<=3000:=vo ht (by dsimp only;rcases hk with rfl|rfl|rfl <;> decide);have qa:=kB pr [c,d,e];have qb:=kB pr [c,d];simp only[qI] at qa qb ⊢;rcases hk with rfl|rfl|rfl
 all_goals simp[yU,xE,qj,zM,zN,qe,jR,xu]
 all_goals omega
theorem zkL(hr:yj l x=true)(hk:x.kind=29):(yU l pr x).length<=qI pr x.kids+3100:=by
 obtain⟨k,t,n,ks,a⟩:=x;simp only at hk;subst hk;obtain⟨_,h1,h2,hn,ht,hs⟩:=yY hr;clear hr hs hn ht;simp[xd] at h1 h2
 match ks,h1,h2 with
 |[c,d],_,_=>
  simp only[qI];simp[yU,xE,qj,zM,zN,qe,jR,xu];omega
 |[c,d,e],_,_=>
  simp only[qI];simp[yU,xE,qj,zM,zN,qe,jR,xu];omega
theorem zhU(hr:yj l x=true)(hk:x.kind∈[26,35,100,101,25,70,89,28]):(yU l pr x).length<=qI pr x.kids+3100:=by
 obtain⟨k,t,n,ks,a⟩:=x;simp only[wD,wH,or_false] at hk;obtain⟨_,h1,h2,hn,ht,hs⟩:=yY hr;clear hr hs hn h1 h2;have ht:t.length<=3000:=vo ht (by dsimp only;rcases hk with rfl|rfl|rfl|rfl|rfl|rfl|rfl|rfl <;> decide);have qa:=kB pr ks;have qp:=zdN pr ks;have qs:=Kh pr (n != 0) ks;simp only;rcases hk with rfl|rfl|rfl|rfl|rfl|rfl|rfl|rfl
 all_goals simp[yU,xE,qj,zM,zN,qe,jR,xu,Ys]
 all_goals first
  |omega
  |(split <;> (try simp) <;> omega)
theorem zhT(hr:yj l x=true)(hk:x.kind∈[24,31]):(yU l pr x).length<=qI pr x.kids+3100:=by
 obtain⟨k,t,n,ks,a⟩:=x;simp only[wD,wH,or_false] at hk;obtain⟨_,h1,h2,hn,ht,hs⟩:=yY hr;clear hr hs hn ht;have hl:1<=ks.length:=by
  rcases hk with rfl|rfl
  ·exact h1
  ·exact pN (show 1<=2 by decide) h1
 clear h1 h2;obtain⟨c,r,rfl⟩:∃c r,ks=c :: r:=by
  match ks,hl with
  |c :: r,_=>exact⟨c,r,rfl⟩
 have q8:=xX l pr c 8;have qa:=kB pr r;simp only[qI];rcases hk with rfl|rfl
 all_goals simp[yU,xE,qj,zM,zN,qe,jR,xu]
 all_goals first
  |omega
  |(split <;> (try simp) <;> omega)
theorem zhW(hr:yj l x=true)(hk:x.kind∈[85,103]):(yU l pr x).length<=qI pr x.kids+3100:=by
 obtain⟨k,t,n,ks,a⟩:=x;simp only[wD,wH,or_false] at hk;obtain⟨_,h1,h2,hn,ht,hs⟩:=yY hr;clear hr hs hn;have hl:1<=ks.length:=by
  rcases hk with rfl|rfl
  ·exact h1
  ·exact h1
 clear h1 h2;obtain⟨r,c,rfl⟩:∃r c,ks=r ++ [c]:=⟨ks.dropLast,ks.getLast (by intro e;rw[e] at hl;simp at hl),(List.dropLast_concat_getLast _).symm⟩;have ht:t.length<=3000:=vo ht (by dsimp only;rcases hk with rfl|rfl <;> decide);have qa:=kB pr r;rw[Ku];simp only[qI];rcases hk with rfl|rfl
 all_goals simp[yU,xE,qj,zM,zN,qe,jR,xu,qO]
 all_goals omega
theorem zjo(hr:yj l x=true)(hk:x.kind∈[33,102]):(yU l pr x).length<=qI pr x.kids+3100:=by
 obtain⟨k,t,n,ks,a⟩:=x;simp only[wD,wH,or_false] at hk;obtain⟨_,h1,h2,hn,ht,hs⟩:=yY hr;clear hr hs hn;have hl:2<=ks.length:=by
  rcases hk with rfl|rfl
  ·exact h1
  ·exact h1
 clear h1 h2;obtain⟨r,c,d,rfl⟩:∃r c d,ks=r ++ [c,d]:=by
  refine⟨ks.dropLast.dropLast,ks.dropLast.getLast (by intro e;have:=congrArg List.length e;simp at this;omega),ks.getLast (by intro e;rw[e] at hl;simp at hl),?_⟩;rw[show ∀(a b:Int),[a,b]=[a] ++ [b] from fun _ _=>rfl,<-wS,List.dropLast_concat_getLast,List.dropLast_concat_getLast]
 have ht:t.length<=3000:=vo ht (by dsimp only;rcases hk with rfl|rfl <;> decide);have qa:=kB pr r;rw[Ku];simp only[qI];have e1:(r ++ [c,d]).getD r.length 0=c:=by simp[pA]
 have e2:(r ++ [c,d]).getD (r.length+1) 0=d:=by simp[pA]
 rcases hk with rfl|rfl
 all_goals simp[yU,xE,qj,zM,zN,qe,jR,xu,qO]
 all_goals first
  |omega
  |(split <;> (try simp) <;> omega)
theorem zgk(hr:yj l x=true):(yU l pr x).length<=qI pr x.kids+3100:=by
 have hk:=(yY hr).1;have hm:∀k,k<105->(!yz k || decide (k∈[1,2,3,4,5,44,45,46,80,81,82,83,84,66,67,68,69]) || decide (k∈[6,7,23,27,37,38,39,40,42,43,47,50,51,60,61,65,86,87,88]) || decide (k∈[8,9,10,11,12,13,14,15,16,17,18,19,20,21,22,30,32,34,41,48,62,63,104]) || decide (k∈[49,64,36]) || decide (k=29) || decide (k∈[26,35,100,101,25,70,89,28]) || decide (k∈[24,31]) || decide (k∈[85,103]) || decide (k∈[33,102]))=true:=by decide +kernel
 have h:=hm _ (Nat.lt_succ_of_le (uH hk));rw[hk] at h;simp only[Bool.not_true,Bool.false_or,wF,pH] at h;rcases h with (((((((h|h)|h)|h)|h)|h)|h)|h)|h
 ·exact zhV hr h
 ·exact zjn hr h
 ·exact zjm hr h
 ·exact zgv hr h
 ·exact zkL hr h
 ·exact zhU hr h
 ·exact zhT hr h
 ·exact zhW hr h
 ·exact zjo hr h
end
theorem zff{pr:Int->List UInt8}{z:Int->Nat}:∀ks:List Int,(∀k∈ks,(pr k).length+8<=3200*z k)->(qI pr ks:Int)<=3200*(ks.map fun k=>(z k:Int)).sum
 |[],_=>by simp[qI]
 |k :: r,h=>by
  have ih:=zff (pr:=pr) (z:=z) r (fun j hj=>h j (pY _ hj));have h1:=h k (List.mem_cons_self ..);rw[List.map_cons,List.sum_cons];unfold qI;omega
theorem zhD{l:List Nd}(hF:xL l l.length)(hR:∀x∈l,yj l x=true):∀(i f:Nat),i<l.length->(prN l f i).length+8<=3200*(jH l l.length).getD i 0
 |i,0,hi=>by
  obtain⟨p,hp,hsz,hpi⟩:=qF hF hi;show 0+8<=_
  omega
 |i,f+1,hi=>by
  obtain⟨p,hp,hsz,hpi⟩:=qF hF hi;have hkid:=jY hF hi;have hx:l[i]? =some l[i]:=glE hi;have hr:=hR _ (wC hi);rw[hx] at hp;simp only[Option.elim] at hp;have hs:=zaJ _ _ _ hp;rw[List.map_reverse,List.sum_reverse] at hs;have h1:=zgk (pr:=prN l f) hr;have h2:=zff (pr:=prN l f) (z:=fun k=>(jH l l.length).getD k.toNat 0) l[i].kids (fun k hk=>by
   obtain⟨h0,h1⟩:=hkid k hk;obtain⟨k',rfl⟩:=pP h0;simp only[wE];exact zhD hF hR k' f (by omega))
  rw[hs] at h2;have e2:prN l (f+1) i=yU l (prN l f) l[i]:=by
   show (match l[(i:Int).toNat]? with|some x=>yU l (prN l f) x|none=>[])=_
   rw[wE,hx]
  rw[e2];omega
termination_by _ f=>f
theorem zhb{out:List Nat}:∀(rk:List Int) (p e:Int),-1<=p->(∀j:Nat,(j:Int)<=p->out.getD j 0<=j+1)->ZM out rk p=some e->-1<=e
 |[],p,e,hp,_,h=>by cases h;exact hp
 |k :: r,p,e,hp,ho,h=>by
  unfold ZM at h;split at h
  ·cases h
  ·rename_i hc;have h1:=ho p.toNat (by omega);exact zhb r _ e (by omega) (fun j hj=>ho j (by omega)) h
theorem zkq{l:List Nd}{n:Nat}(hF:xL l n):∀(i:Nat),i<n->(jH l n).getD i 0<=i+1:=by
 intro i;induction i using Nat.strongRecOn with
 |ind i ih=>
  intro hi;obtain⟨p,hp,hsz,hpi⟩:=qF hF hi;have:=zhb _ _ _ (by omega) (fun j hj=>ih j (by omega) (by omega)) hp;omega
theorem VR{l:List Nd}(hF:xL l l.length)(hR:∀x∈l,yj l x=true)(hn:l.length<=1000)(f i:Nat)(hi:i<l.length):(prN l f i).length<=3200000:=by
 have h1:=zhD hF hR i f hi;have h2:=zkq hF i hi;omega
def Kb(c:Nat)(s:zY):Prop:=∀x∈s.nodes,x.kids.length<=c
structure Kp{α:Type}(Q:α->Prop)(n:Nat)(m:PM α):Prop where
 out:∀(E:zv) (s:zY) (a:α) (s':zY),E.toks.length=n->Kb (n+8) s->m E s=.ok a s'->Kb (n+8) s'/\Q a
abbrev Any{α:Type}:α->Prop:=fun _=>True
abbrev xj(n:Nat):List Int->Prop:=fun l=>l.length<=n
theorem Kp.bind{α β:Type}{Q:α->Prop}{P:β->Prop}{n:Nat}{m:PM α}{f:α->PM β}(hm:Kp Q n m)(hf:∀a,Q a->Kp P n (f a)):Kp P n (m >>= f):=by
 refine⟨fun E s a s' hE hk h=>?_⟩;obtain⟨x,s1,h1,h⟩:=zm h;obtain⟨k1,q1⟩:=hm.out _ _ _ _ hE hk h1;exact (hf x q1).out _ _ _ _ hE k1 h
theorem Kp.pure{α:Type}{Q:α->Prop}{n:Nat}{a:α}(h:Q a):Kp Q n (pure a:PM α):=by
 refine⟨fun E s b s' _ hk e=>?_⟩;obtain⟨rfl,rfl⟩:=zD e;exact⟨hk,h⟩
theorem Kp.ite{α:Type}{Q:α->Prop}{n:Nat}{c:Prop}[Decidable c]{a b:PM α}(ha:Kp Q n a)(hb:Kp Q n b):Kp Q n (if c then a else b):=by
 split
 ·exact ha
 ·exact hb
section
variable {n:Nat}
theorem yC{x:List UInt8}:Kp Any n (zL x):=by
 refine⟨fun E s a s' _ hk h=>?_⟩;unfold zL at h;split at h <;> cases h;exact⟨hk,trivial⟩
theorem je{k:Nat}:Kp Any n (xr k):=by
 refine⟨fun E s a s' _ hk h=>?_⟩;unfold xr at h;split at h <;> cases h;exact⟨hk,trivial⟩
theorem jt{x:List UInt8}:Kp Any n (yu x):=by
 refine⟨fun E s a s' _ hk h=>?_⟩;unfold yu at h;split at h <;> cases h <;> exact⟨hk,trivial⟩
theorem ko:Kp Any n qP:=by
 refine⟨fun E s a s' _ hk h=>?_⟩;cases h;exact⟨hk,trivial⟩
theorem vE{l:List (List UInt8)}:Kp Any n (uU l):=by
 refine⟨fun E s a s' _ hk h=>?_⟩;cases h;exact⟨hk,trivial⟩
theorem jM:Kp Any n jD:=by
 refine⟨fun E s a s' _ hk h=>?_⟩;cases h;exact⟨hk,trivial⟩
theorem kr:Kp Any n vU:=by
 refine⟨fun E s a s' _ hk h=>?_⟩;cases h;exact⟨hk,trivial⟩
theorem jJ{k:Int}:Kp Any n (YJ k):=by
 refine⟨fun E s a s' _ hk h=>?_⟩;cases h;exact⟨hk,trivial⟩
theorem vn{α:Type}{Q:α->Prop}:Kp Q n (kL (α:=α)):=by
 refine⟨fun E s a s' _ hk h=>?_⟩;cases h
theorem jd{kind:Nat}{text:List UInt8}{m at_:Int}{kids:List Int}(hl:kids.length<=n+8):Kp Any n (zG kind text m at_ kids):=by
 refine⟨fun E s a s' _ hk h=>?_⟩;cases h;refine⟨fun x hx=>?_,trivial⟩;rcases pX.1 hx with hx|hx
 ·exact hk x hx
 ·rw[wL] at hx;rw[hx];exact hl
structure zlM(n:Nat)(R:xN):Prop where
 expr:Kp Any n R.expr
 unary:Kp Any n R.unary
 bin2:Kp Any n R.bin2
 block:Kp Any n R.block
 branch:Kp Any n R.branch
 kind:Kp Any n R.kind
 pattern:Kp Any n R.pattern
theorem zcI{part:PM Int}(hp:Kp Any n part):∀(k:Nat) (acc:List Int),Kp (xj (acc.length+k)) n (qm k part acc)
 |0,_=>by
  refine⟨fun E s a s' _ _ h=>?_⟩;cases h
 |k+1,acc=>by
  unfold qm;refine Kp.bind hp (fun x _=>Kp.bind jt (fun b _=>Kp.ite ?_ (Kp.pure ?_)))
  ·have:=zcI hp k (acc ++ [x]);rw[pC] at this;rw[show acc.length+(k+1)=acc.length+[x].length+k by simp only[pI];omega];exact this
  ·simp only[xj,pC,pI];omega
theorem zbh{part:PM Int}(hp:Kp Any n part):Kp (xj (n+1)) n (kC part):=by
 refine⟨fun E s a s' hE hk h=>?_⟩;have:=(zcI hp (E.toks.length+1) []).out _ _ _ _ hE hk h;refine⟨this.1,?_⟩;have h2:=this.2;simp only[xj,pR] at h2 ⊢;omega
theorem Yz{part:PM Int}(hp:Kp Any n part):Kp (xj (n+1)) n (xQ part):=by
 unfold xQ;exact Kp.bind yC (fun _ _=>Kp.bind (zbh hp) (fun l hl=>Kp.bind yC (fun _ _=>Kp.pure hl)))
theorem ya{part:PM Int}(hp:Kp Any n part):Kp (xj (n+1)) n (qk part):=by
 unfold qk;refine Kp.bind jt (fun b _=>Kp.ite (Kp.bind (zbh hp) (fun l hl=>Kp.bind yC (fun _ _=>Kp.pure hl))) (Kp.pure ?_));simp[xj]
theorem yv{part:PM Int}{w:List (List UInt8)}(hp:Kp Any n part):Kp (xj (n+1)) n (do if <-uU w then pure [] else kC part:PM (List Int)):=by
 refine Kp.bind vE (fun b _=>Kp.ite (Kp.pure ?_) (zbh hp));simp[xj]
variable {R:xN} (hR:zlM n R)
include hR
theorem zcu:Kp Any n (jE R):=by
 unfold jE
 repeat' (first|exact yC|exact je|exact jt|exact ko|exact vE|exact jM|exact kr|exact jJ|exact vn|exact hR.expr|exact hR.unary|exact hR.bin2|exact hR.block|exact hR.branch|exact hR.kind|exact hR.pattern|exact ya hR.expr|exact ya hR.kind|exact ya hR.pattern|exact yv hR.expr|exact yv hR.kind|(refine jd ?_;first|(simp;done)|(simp[xj] at *;omega))|apply Kp.bind|intro _ _|refine Kp.ite ?_ ?_|exact Kp.pure trivial)
theorem zjs:Kp Any n (ul R):=by
 unfold ul
 repeat' (first|exact yC|exact je|exact jt|exact ko|exact vE|exact jM|exact kr|exact jJ|exact vn|exact hR.expr|exact hR.unary|exact hR.bin2|exact hR.block|exact hR.branch|exact hR.kind|exact hR.pattern|exact ya hR.expr|exact ya hR.kind|exact ya hR.pattern|exact yv hR.expr|exact yv hR.kind|(refine jd ?_;first|(simp;done)|(simp[xj] at *;omega))|apply Kp.bind|intro _ _|refine Kp.ite ?_ ?_|exact Kp.pure trivial)
theorem zfo:Kp (xj (n+2)) n (vA R):=by
 unfold vA;refine Kp.bind yC (fun _ _=>Kp.bind (yv (zcu hR)) (fun l hl=>Kp.bind yC (fun _ _=>Kp.bind yC (fun _ _=>Kp.bind hR.kind (fun k _=>Kp.pure ?_)))));simp only[xj,pC,pI] at hl ⊢;omega
theorem zjp:Kp Any n (vG R):=by
 unfold vG
 repeat' (first|exact yC|exact je|exact jt|exact ko|exact vE|exact jM|exact kr|exact jJ|exact vn|exact hR.expr|exact hR.unary|exact hR.bin2|exact hR.block|exact hR.branch|exact hR.kind|exact hR.pattern|exact ya hR.expr|exact ya hR.kind|exact ya hR.pattern|exact yv hR.expr|exact yv hR.kind|(refine jd ?_;first|(simp;done)|(simp[xj] at *;omega))|apply Kp.bind|intro _ _|refine Kp.ite ?_ ?_|exact Kp.pure trivial)
theorem zi5:Kp Any n (vw R):=by
 unfold vw
 repeat' (first|exact yC|exact je|exact jt|exact ko|exact vE|exact jM|exact kr|exact jJ|exact vn|exact hR.expr|exact hR.unary|exact hR.bin2|exact hR.block|exact hR.branch|exact hR.kind|exact hR.pattern|exact ya hR.expr|exact ya hR.kind|exact ya hR.pattern|exact yv hR.expr|exact yv hR.kind|(refine jd ?_;first|(simp;done)|(simp[xj] at *;omega))|apply Kp.bind|intro _ _|refine Kp.ite ?_ ?_|exact Kp.pure trivial)
theorem zb7:∀(k:Nat) (acc:List Int),Kp (fun x:List Int×Int=>x.1.length<=acc.length+k) n (yR R k acc)
 |0,_=>by
  refine⟨fun E s a s' _ _ h=>?_⟩;cases h
 |k+1,acc=>by
  unfold yR;refine Kp.bind vE (fun b _=>Kp.ite (Kp.pure (by simp)) (Kp.bind (zi5 hR) (fun x _=>?_)));have hs:=zb7 k (acc ++ [x.1]);rw[pC,pI,show acc.length+1+k=acc.length+(k+1) by omega] at hs;refine Kp.bind vE (fun b _=>Kp.ite (Kp.pure ?_) (Kp.bind yC (fun _ _=>hs)));simp only[pC,pI];omega
theorem zim:Kp Any n (qE R):=by
 unfold qE;refine Kp.bind yC (fun t _=>Kp.bind (Q:=fun x:List Int×Int=>x.1.length<=n+1) ?_ (fun x hx=>Kp.bind yC (fun _ _=>jd (by omega))));refine⟨fun E s a s' hE hk h=>?_⟩;have:=(zb7 hR (E.toks.length+1) []).out _ _ _ _ hE hk h;refine⟨this.1,?_⟩;have h2:=this.2;simp only[pR] at h2;omega
omit hR in
theorem zhJ{tight:PM Int}(ht:Kp Any n tight)(lv:Nat):∀(k:Nat) (left:Int),Kp Any n (uR lv tight k left)
 |0,_=>by
  refine⟨fun E s a s' _ _ h=>?_⟩;cases h
 |k+1,left=>by
  unfold uR;refine Kp.bind vE (fun b _=>Kp.ite (Kp.bind kr (fun t _=>Kp.bind ht (fun r _=>Kp.bind (jd (by simp only[pK,pR];omega)) (fun x _=>Kp.ite (Kp.pure trivial) (zhJ ht lv k x))))) (Kp.pure trivial))
omit hR in
theorem KY{tight:PM Int}(ht:Kp Any n tight)(lv:Nat):Kp Any n (uy lv tight):=by
 unfold uy;refine Kp.bind ht (fun l _=>?_);refine⟨fun E s a s' hE hk h=>?_⟩;exact (zhJ ht lv _ l).out _ _ _ _ hE hk h
theorem zeP:∀(k:Nat) (first:Bool) (acc:List Int),Kp (xj (acc.length+k)) n (qB R k first acc)
 |0,_,acc=>by
  unfold qB;exact Kp.pure (by simp[xj])
 |k+1,first,acc=>by
  unfold qB;refine Kp.bind (Q:=Any) (Kp.ite (Kp.pure trivial) (Kp.bind yC (fun _ _=>Kp.pure trivial))) (fun _ _=>Kp.bind hR.expr (fun x _=>?_));have hs:=zeP k false (acc ++ [x]);rw[pC,pI,show acc.length+1+k=acc.length+(k+1) by omega] at hs;exact hs
theorem ziW(t:yp)(w:Nat×Int)(hw:w.2<=3):Kp Any n (jK R t w):=by
 unfold jK;refine Kp.bind (Q:=xj 3) ?_ (fun l hl=>jd (by simp only[xj] at hl;omega));refine Kp.ite (Kp.bind hR.unary (fun x _=>Kp.pure (by simp[xj]))) (Kp.ite (Kp.bind yC (fun _ _=>Kp.bind (zeP hR w.2.toNat true []) (fun l hl=>Kp.bind yC (fun _ _=>Kp.pure ?_)))) (Kp.pure (by simp[xj])));simp only[xj,pR] at hl ⊢;omega
theorem zkD:Kp Any n (Xa R):=by
 unfold Xa
 repeat' (first|exact yC|exact je|exact jt|exact ko|exact vE|exact jM|exact kr|exact jJ|exact vn|exact hR.expr|exact hR.unary|exact hR.bin2|exact hR.block|exact hR.branch|exact hR.kind|exact hR.pattern|exact ya hR.expr|exact ya hR.kind|exact ya hR.pattern|exact yv hR.expr|exact yv hR.kind|(refine jd ?_;first|(simp;done)|(simp[xj] at *;omega))|apply Kp.bind|intro _ _|refine Kp.ite ?_ ?_|exact Kp.pure trivial)
theorem zkW:Kp Any n (Xb R):=by
 unfold Xb
 repeat' (first|exact yC|exact je|exact jt|exact ko|exact vE|exact jM|exact kr|exact jJ|exact vn|exact hR.expr|exact hR.unary|exact hR.bin2|exact hR.block|exact hR.branch|exact hR.kind|exact hR.pattern|exact ya hR.expr|exact ya hR.kind|exact ya hR.pattern|exact yv hR.expr|exact yv hR.kind|(refine jd ?_;first|(simp;done)|(simp[xj] at *;omega))|apply Kp.bind|intro _ _|refine Kp.ite ?_ ?_|exact Kp.pure trivial)
theorem zeI:∀(k:Nat) (acc:List Int),Kp (xj (acc.length+k)) n (jf R k acc)
 |0,_=>by
  refine⟨fun E s a s' _ _ h=>?_⟩;cases h
 |k+1,acc=>by
  unfold jf;have hs:∀r:Int,Kp (xj (acc.length+(k+1))) n (jf R k (acc ++ [r])):=fun r=>by
   have hs:=zeI k (acc ++ [r]);rw[pC,pI,show acc.length+1+k=acc.length+(k+1) by omega] at hs;exact hs
  have hp:∀r:Int,Kp (xj (acc.length+(k+1))) n (pure (acc ++ [r]):PM (List Int)):=fun r=>Kp.pure (by simp only[xj,pC,pI];omega)
  repeat' (first|exact hs _|exact hp _|exact yC|exact je|exact jt|exact ko|exact hR.expr|(refine jd ?_;first|(simp;done)|(simp[xj] at *;omega))|apply Kp.bind|intro _ _|refine Kp.ite ?_ ?_)
theorem zf7:Kp (xj (n+1)) n (jP R):=by
 unfold jP;refine Kp.bind yC (fun t _=>Kp.bind (Q:=xj (n+1)) ?_ (fun l hl=>Kp.bind yC (fun _ _=>Kp.pure hl)));refine⟨fun E s a s' hE hk h=>?_⟩;have:=(zeI hR (E.toks.length+1) []).out _ _ _ _ hE hk h;refine⟨this.1,?_⟩;have h2:=this.2;simp only[xj,pR] at h2 ⊢;omega
theorem zap:Kp Any n (qh R):=by
 unfold qh
 repeat' (first|exact yC|exact je|exact jt|exact ko|exact vE|exact jM|exact kr|exact jJ|exact vn|exact hR.expr|exact hR.unary|exact hR.bin2|exact hR.block|exact hR.branch|exact hR.kind|exact hR.pattern|exact ya hR.expr|exact ya hR.kind|exact ya hR.pattern|exact yv hR.expr|exact yv hR.kind|(refine jd ?_;first|(simp;done)|(simp[xj] at *;omega))|apply Kp.bind|intro _ _|refine Kp.ite ?_ ?_|exact Kp.pure trivial)
theorem Xk(t:yp):Kp Any n (yA R t):=by
 unfold yA;refine Kp.bind vE (fun _ _=>Kp.ite (zap hR) ?_)
 repeat' (first|exact yC|exact je|exact jt|exact hR.expr|exact hR.block|exact hR.kind|exact Yz (zkW hR)|exact Yz (zkD hR)|exact zfo hR|exact zf7 hR|(refine jd ?_;first|(simp;done)|(simp[xj] at *;omega))|apply Kp.bind|intro _ _|refine Kp.ite ?_ ?_)
omit hR in
theorem zfN{s:List UInt8}{w:Nat×Int}(h:xV s=some w):w.2<=3:=by
 unfold xV at h;cases hf:zM.find? (fun w=>w.1 == s) with
 |none=>rw[hf] at h;cases h
 |some x=>
  rw[hf] at h;cases h;have:=List.mem_of_find?_eq_some hf;revert x;intro x _ hx;have:∀y∈zM,y.2.2<=3:=by decide
  exact this x hx
theorem zjJ:Kp Any n (vB R):=by
 unfold vB;refine Kp.bind ko (fun t _=>?_)
 repeat' (first|exact yC|exact jt|exact jM|exact hR.expr|exact ya hR.expr|exact Xk hR _|exact Kp.pure trivial|(refine jd ?_;first|(simp;done)|(simp[xj] at *;omega))|apply Kp.bind|intro _ _|refine Kp.ite ?_ ?_)
 split
 ·rename_i w hw;refine Kp.ite (Kp.bind jM (fun _ _=>ziW hR t w (zfN hw))) (Xk hR t)
 ·exact Xk hR t
theorem ze2:∀(k:Nat) (left:Int),Kp Any n (jL R k left)
 |0,_=>by
  refine⟨fun E s a s' _ _ h=>?_⟩;cases h
 |k+1,left=>by
  unfold jL;have hs:∀r:Int,Kp Any n (jL R k r):=fun r=>ze2 k r
  repeat' (first|exact hs _|exact yC|exact je|exact jt|exact ko|exact yv hR.expr|exact Kp.pure trivial|(refine jd ?_;first|(simp;done)|(simp[xj] at *;omega))|apply Kp.bind|intro _ _|refine Kp.ite ?_ ?_)
theorem zbZ:Kp Any n (jc R):=by
 unfold jc;refine Kp.bind vE (fun _ _=>Kp.ite ?_ ?_)
 ·repeat' (first|exact yC|exact je|exact jt|exact ko|exact vE|exact jM|exact kr|exact jJ|exact vn|exact hR.expr|exact hR.unary|exact hR.bin2|exact hR.block|exact hR.branch|exact hR.kind|exact hR.pattern|exact ya hR.expr|exact ya hR.kind|exact ya hR.pattern|exact yv hR.expr|exact yv hR.kind|(refine jd ?_;first|(simp;done)|(simp[xj] at *;omega))|apply Kp.bind|intro _ _|refine Kp.ite ?_ ?_|exact Kp.pure trivial)
 ·refine Kp.bind (zjJ hR) (fun l _=>?_);refine⟨fun E s a s' hE hk h=>?_⟩;exact (ze2 hR _ l).out _ _ _ _ hE hk h
theorem zc1:Kp Any n (kP R):=by
 unfold kP;refine Kp.bind vE (fun _ _=>Kp.ite ?_ ?_)
 ·repeat' (first|exact yC|exact je|exact jt|exact ko|exact vE|exact jM|exact kr|exact jJ|exact vn|exact hR.expr|exact hR.unary|exact hR.bin2|exact hR.block|exact hR.branch|exact hR.kind|exact hR.pattern|exact ya hR.expr|exact ya hR.kind|exact ya hR.pattern|exact yv hR.expr|exact yv hR.kind|(refine jd ?_;first|(simp;done)|(simp[xj] at *;omega))|apply Kp.bind|intro _ _|refine Kp.ite ?_ ?_|exact Kp.pure trivial)
 ·exact KY (KY (KY (zbZ hR) 4) 3) 2
theorem zjD:Kp Any n (zaj R):=KY (KY (zc1 hR) 1) 0
theorem zdS:Kp Any n (xI R):=by
 unfold xI
 repeat' (first|exact yC|exact je|exact jt|exact ko|exact vE|exact jM|exact kr|exact jJ|exact vn|exact hR.expr|exact hR.unary|exact hR.bin2|exact hR.block|exact hR.branch|exact hR.kind|exact hR.pattern|exact ya hR.expr|exact ya hR.kind|exact ya hR.pattern|exact yv hR.expr|exact yv hR.kind|(refine jd ?_;first|(simp;done)|(simp[xj] at *;omega))|apply Kp.bind|intro _ _|refine Kp.ite ?_ ?_|exact Kp.pure trivial)
omit hR in
theorem ZV:∀k:Nat,zlM n (jA k)
 |0=>⟨⟨fun _ _ _ _ _ _ h=>by (cases h)⟩,⟨fun _ _ _ _ _ _ h=>by (cases h)⟩,⟨fun _ _ _ _ _ _ h=>by (cases h)⟩,⟨fun _ _ _ _ _ _ h=>by (cases h)⟩,⟨fun _ _ _ _ _ _ h=>by (cases h)⟩,⟨fun _ _ _ _ _ _ h=>by (cases h)⟩,⟨fun _ _ _ _ _ _ h=>by (cases h)⟩⟩
 |k+1=>⟨zjD (ZV k),zbZ (ZV k),zc1 (ZV k),zim (ZV k),zap (ZV k),zjp (ZV k),zdS (ZV k)⟩
theorem zjv:Kp Any n (jT R):=by
 unfold jT
 repeat' (first|exact yC|exact je|exact jt|exact ko|exact hR.expr|exact hR.block|exact hR.kind|exact Yz (zcu hR)|exact Yz (zjs hR)|exact zfo hR|(refine jd ?_;first|(simp;done)|(simp[xj] at *;omega))|apply Kp.bind|intro _ _|refine Kp.ite ?_ ?_)
end
theorem Yf{R:xN}(hR:yH R):Gd 1 Vd (jT R):=by
 intro E s a s' h0 hw h;have N:=Nx.refl h0 hw;unfold jT at h;obtain⟨t,s0,h1,h⟩:=zm h;cases h1;obtain⟨a1,sa1,ha1,h⟩:=zm h;have na1:=Zx N.le N.wf ha1;replace N:=N.trans na1;cases a1 with
 |true=>
  rw[if_pos rfl] at h;obtain⟨m,sm,hm,h⟩:=zm h;obtain⟨nm,vm⟩:=(yh (by decide)) N.le N.wf hm;replace N:=N.trans nm;obtain⟨l,sl,hl,h⟩:=zm h;obtain⟨nl,vl⟩:=(ke (Zd hR)) N.le N.wf hl;replace N:=N.trans nl;obtain⟨nz,vz⟩:=zK N.le N.wf (vl) h;exact⟨(N.trans nz).down (by decide),vz⟩
 |false=>
 rw[if_neg (by decide)] at h;obtain⟨a2,sa2,ha2,h⟩:=zm h;have na2:=Zx N.le N.wf ha2;replace N:=N.trans na2;cases a2 with
 |true=>
  rw[if_pos rfl] at h;obtain⟨m,sm,hm,h⟩:=zm h;obtain⟨nm,vm⟩:=(yh (by decide)) N.le N.wf hm;replace N:=N.trans nm;obtain⟨l,sl,hl,h⟩:=zm h;obtain⟨nl,vl⟩:=(ke (zbl hR)) N.le N.wf hl;replace N:=N.trans nl;obtain⟨nz,vz⟩:=zK N.le N.wf (vl) h;exact⟨(N.trans nz).down (by decide),vz⟩
 |false=>
 rw[if_neg (by decide)] at h;obtain⟨a3,sa3,ha3,h⟩:=zm h;have na3:=Zx N.le N.wf ha3;replace N:=N.trans na3;cases a3 with
 |true=>
  rw[if_pos rfl] at h;obtain⟨q,sq,hq,h⟩:=zm h;obtain⟨nq,vq⟩:=zo N.le N.wf hq;replace N:=N.trans nq;obtain⟨m,sm,hm,h⟩:=zm h;obtain⟨nm,vm⟩:=(yh (by decide)) N.le N.wf hm;replace N:=N.trans nm;obtain⟨l,sl,hl,h⟩:=zm h;obtain⟨nl,vl⟩:=(ZC hR) N.le N.wf hl;replace N:=N.trans nl;obtain⟨r,sr,hr,h⟩:=zm h;obtain⟨nr,vr⟩:=zo N.le N.wf hr;replace N:=N.trans nr;replace vl:=vl.later nr;obtain⟨nz,vz⟩:=zK N.le N.wf (vl) h;exact⟨(N.trans nz).down (by decide),vz⟩
 |false=>
 rw[if_neg (by decide)] at h;obtain⟨a4,sa4,ha4,h⟩:=zm h;have na4:=Zx N.le N.wf ha4;replace N:=N.trans na4;cases a4 with
 |true=>
  rw[if_pos rfl] at h;obtain⟨m,sm,hm,h⟩:=zm h;obtain⟨nm,vm⟩:=(yh (by decide)) N.le N.wf hm;replace N:=N.trans nm;obtain⟨q,sq,hq,h⟩:=zm h;obtain⟨nq,vq⟩:=zo N.le N.wf hq;replace N:=N.trans nq;obtain⟨k,sk,hk,h⟩:=zm h;obtain⟨nk,vk⟩:=hR.kind N.le N.wf hk;replace N:=N.trans nk;obtain⟨r,sr,hr,h⟩:=zm h;obtain⟨nr,vr⟩:=zo N.le N.wf hr;replace N:=N.trans nr;replace vk:=vk.later nr;obtain⟨x,sx,hx,h⟩:=zm h;obtain⟨nx,vx⟩:=hR.expr N.le N.wf hx;replace N:=N.trans nx;replace vk:=vk.later nx;obtain⟨y,sy,hy,h⟩:=zm h;obtain⟨ny,vy⟩:=zo N.le N.wf hy;replace N:=N.trans ny;replace vk:=vk.later ny;replace vx:=vx.later ny;obtain⟨nz,vz⟩:=zK N.le N.wf (Jp vk (YD vx)) h;exact⟨(N.trans nz).down (by decide),vz⟩
 |false=>
 rw[if_neg (by decide)] at h;obtain⟨b,sb,hb,h⟩:=zm h;obtain⟨nb,_⟩:=zjj N.le N.wf hb;replace N:=N.trans nb;obtain⟨q,sq,hq,h⟩:=zm h;obtain⟨nq,vq⟩:=zo N.le N.wf hq;replace N:=N.trans nq;obtain⟨m,sm,hm,h⟩:=zm h;obtain⟨nm,vm⟩:=(yh (by decide)) N.le N.wf hm;replace N:=N.trans nm;obtain⟨l,sl,hl,h⟩:=zm h;obtain⟨nl,vl⟩:=(ZC hR) N.le N.wf hl;replace N:=N.trans nl;obtain⟨c,sc,hc,h⟩:=zm h;obtain⟨nc,vc⟩:=hR.block N.le N.wf hc;replace N:=N.trans nc;replace vl:=vl.later nc;obtain⟨nz,vz⟩:=zK N.le N.wf (vda vl vc) h;exact⟨(N.trans nz).down (by decide),vz⟩
structure zka(n:Nat)(s:zY):Prop where
 kids:Kb (n+8) s
 wf:WFs s
 its:JC s s.items
 nodes:s.nodes.length<=n
 len:s.items.length<=n
theorem QO{m n:Nat}:∀(k:Nat) (E:zv) (s s':zY),E.toks.length=n->s.next<=n->WFs s->Kb (n+8) s->JC s s.items->s.nodes.length<=s.next->s.items.length<=s.next->qn (jA m) k E s=.ok () s'->zka n s'
 |0,_,_,_,_,_,_,_,_,_,_,h=>by cases h
 |k+1,E,s,s',hE,h0,hw,hk,hi,hn,hl,h=>by
  unfold qn at h;split at h
  ·rename_i hlt;cases hm:jT (jA m) E s with
   |bad p=>rw[hm] at h;cases h
   |ok i s1=>
    rw[hm] at h;dsimp only at h;obtain⟨N,v⟩:=Yf (qX m) (Nat.le_of_lt hlt) hw hm;have hk1:=((zjv (ZV (n:=n) m)).out _ _ _ _ hE hk hm).1;have hcr:=N.cr;have hle:=N.le;have hnx:=N.next;have hit:=N.it;obtain⟨q,hq⟩:=N.pre;have hql:s.nodes.length<=s1.nodes.length:=by rw[hq,pC];omega
    refine QO k E {s1 with items:=s1.items ++ [i]} s' hE (by dsimp only;omega) N.wf hk1 ?_ (by dsimp only;omega) ?_ h
    ·intro x hx;dsimp only at hx;rw[hit] at hx;rcases pX.1 hx with hx|hx
     ·exact show Vd s1 x from (hi x hx).later N
     ·rw[wL] at hx;rw[hx];exact v
    ·dsimp only;rw[hit,pC,pI];omega
  ·cases h;exact⟨hk,hw,hi,by omega,by omega⟩
theorem zaX{l:List yp}{len:Nat}{s:zY}(h:xO l len=.ok () s):zka l.length s:=
 QO (n:=l.length) _ ⟨l,len⟩ _ _ rfl (pU _) (fun i x hx=>by simp at hx) (fun x hx=>by cases hx) (fun x hx=>by cases hx) (pE _) (pE _) h
theorem zg7{s:List UInt8}{k:Nat}{t:List UInt8}{m:Nat}(h:yM s=some (k,t,m))(hk:k=3):ur t=true:=by
 unfold yM at h;split at h
 ·cases h
 ·rename_i c r;dsimp only at h;split at h
  ·split at h
   ·injection h with h;injection h with h _;split at h <;> omega
   ·cases h
  ·split at h
   ·split at h
    ·injection h with h;injection h with h _;omega
    ·cases h
   ·split at h
    ·split at h
     ·rename_i hn;injection h with h;injection h with _ h;injection h with h _;rw[<-h];exact hn
     ·cases h
    ·split at h
     ·cases hq:xP (c :: r) with
      |none=>rw[hq] at h;cases h
      |some x=>
       rw[hq] at h;injection h with h;injection h with h _;omega
     ·cases hq:zT.find? (fun g=>yL g (c :: r)) with
      |none=>rw[hq] at h;cases h
      |some x=>
       rw[hq] at h;injection h with h;injection h with h _;omega
theorem zck:∀(f n at_:Nat) (r:List UInt8),n<=1200->(∀t∈(kU f n at_ r).1,t.kind=3->ur t.text=true)/\n+(kU f n at_ r).1.length<=1200
 |0,_,_,_,hn=>by
  unfold kU;exact⟨fun t ht=>by (cases ht),hn⟩
 |f+1,n,at_,r,hn=>by
  unfold kU;dsimp only;split
  ·exact⟨fun t ht=>by (cases ht),hn⟩
  ·split
   ·exact⟨fun t ht=>by (cases ht),hn⟩
   ·rename_i k t m h1;split
    ·exact⟨fun t ht=>by (cases ht),hn⟩
    ·rename_i hne;split
     ·have ih:=zck f (n+1) (at_+zI false r+m) (r.drop (zI false r) |>.drop m) (by omega);refine⟨fun x hx hk=>?_,?_⟩
      ·rcases wD.1 hx with rfl|hx
       ·exact zg7 h1 hk
       ·exact ih.1 x hx hk
      ·have:=ih.2;simp only[pK];omega
     ·exact⟨fun t ht=>by (cases ht),hn⟩
theorem JZ(s:List UInt8):(∀t∈(yQ s).1,t.kind=3->ur t.text=true)/\(yQ s).1.length<=1200:=by
 unfold yQ;split
 ·exact⟨fun t ht=>by (cases ht),pU _⟩
 ·have:=zck (s.length+1) 0 0 s (by omega);rw[Nat.zero_add] at this;exact this
def kV(k:Nat)(t:List UInt8):List UInt8×Nat:=
 if k=4 then (if (qA t).2=0 then ((qA t).1,0) else ([],4)) else
 if t=[]\/20<t.length\/t.head? =some 34 then ([],4) else
 match yM t with
 |some (k',_,n)=>if n=t.length/\k'=k then (t,0) else ([],4)
 |none=>([],4)
end Lode
namespace Go.Proofs.YtnncmdpopgkibaaGreatDoor
section
open Go.RowKit Lode Go.Shelf
open Go.Proofs.Tryz
theorem zaf{c:UInt8}(h:yg c=true):jW c=true/\c≠10/\c≠35/\c≠32/\c≠34:=by
 simp only[yg,pG,pH] at h;refine⟨by simp[jW];omega,?_,?_,?_,?_⟩ <;> (rintro rfl;revert h;decide)
theorem zjy{c:UInt8}(h:YQ c=true):jW c=true/\c≠10/\c≠35/\c≠32/\c≠34:=by
 simp only[YQ,pG,pH] at h;refine⟨by simp[jW];omega,?_,?_,?_,?_⟩ <;> (rintro rfl;revert h;decide)
theorem Qr{c:UInt8}(h:yf c=true):jW c=true/\c≠10/\c≠35/\c≠32/\c≠34:=by
 simp only[yf,pG,pH] at h;refine⟨by simp[jW];omega,?_,?_,?_,?_⟩ <;> (rintro rfl;revert h;decide)
theorem zeu{p q:UInt8->Bool}(h:∀c,p c=true->q c=true):∀l:List UInt8,l.all p=true->l.all q=true:=by
 intro l hl;rw[pO] at hl ⊢;exact fun c hc=>h c (hl c hc)
theorem VI:∀g,g∈zT->g.all jW=true/\g.length<=2/\∃c r,g=c :: r/\c≠10/\c≠35/\c≠32/\c≠34:=by
 intro g hg;simp only[zT,wD,wH,or_false] at hg;rcases hg with rfl|rfl|rfl|rfl|rfl|rfl|rfl|rfl|rfl|rfl|rfl|rfl|rfl|rfl|rfl|rfl|rfl|rfl|rfl|rfl|rfl|rfl|rfl|rfl|rfl <;> exact⟨by decide,by decide,_,_,rfl,by decide,by decide,by decide,by decide⟩
theorem Kz:∀(g r:List UInt8),yL g r=true->r.take g.length=g
 |[],_,_=>by simp
 |_ :: _,[],h=>by simp[yL] at h
 |a :: g,b :: r,h=>by
  simp only[yL,pG,pH] at h;simp[h.1,Kz g r h.2]
theorem ze7{l:List UInt8}(h:ur l=true):l.length<=10:=by
 simp only[ur,pG,Bool.not_eq_true',pH,wF] at h;obtain⟨⟨⟨h1,h2⟩,h3⟩,h4⟩:=h;cases l with
 |nil=>simp
 |cons c l=>
  rcases h4 with h4|h4
  ·omega
  ·simp only[List.head?_cons] at h4;have hc:c≠48:=fun e=>by subst e;simp at h4
   simp only[List.all_cons,pG] at h2;have hd:=(Zn c).1 h2.1;have h49:49<=c.toNat:=by
    rcases Nat.lt_or_ge c.toNat 49 with h|h
    ·exfalso;apply hc;apply UInt8.toNat_inj.1;have:(48:UInt8).toNat=48:=rfl;omega
    ·exact h
   have:=zg4 c l h49;rw[VV] at h3;have hp:10 ^ l.length<=10 ^ 9:=by omega
   have:=(Nat.pow_le_pow_iff_right (by omega:1<10)).1 hp;simp;omega
theorem Zq{c:UInt8}{r:List UInt8}{k m:Nat}{x:List UInt8}(h:yM (c :: r)=some (k,x,m))(hk:k≠4):
 x=(c :: r).take m/\((c :: r).take m).all jW=true/\m<=20/\c≠10/\c≠35/\c≠32/\c≠34:=by
 have sd:∀c,(yg c || yf c)=true->jW c=true:=fun c h=>by
  rw[wF] at h;rcases h with h|h
  ·exact (zaf h).1
  ·exact (Qr h).1
 simp only[yM] at h;split at h
 ·rename_i hs;have hb:=zaf hs;split at h
  ·rename_i hn;cases h;refine⟨rfl,?_,by omega,hb.2⟩;rw[Nat.add_comm,List.take_succ_cons,List.all_cons,hb.1,zeu sd _ (ZQ _ r)];rfl
  ·cases h
 ·split at h
  ·rename_i hs;have hb:=zjy hs;split at h
   ·rename_i hn;cases h;refine⟨rfl,?_,by omega,hb.2⟩;rw[Nat.add_comm,List.take_succ_cons,List.all_cons,hb.1,zeu sd _ (ZQ _ r)];rfl
   ·cases h
  ·split at h
   ·rename_i hs;have hb:=Qr hs;split at h
    ·rename_i hn;cases h;have hl:=ze7 hn;have hr:=Zu yf r;refine⟨rfl,?_,by simp at hl;omega,hb.2⟩;rw[Nat.add_comm,List.take_succ_cons,List.all_cons,hb.1,zeu (fun c h=>(Qr h).1) _ (ZQ _ r)];rfl
    ·cases h
   ·split at h
    ·cases hq:Lode.xP (c :: r) with
     |none=>rw[hq] at h;cases h
     |some y=>rw[hq] at h;cases h;exact absurd rfl hk
    ·rename_i h34;cases hg:zT.find? (fun g=>yL g (c :: r)) with
     |none=>rw[hg] at h;cases h
     |some g=>
      rw[hg] at h;cases h;have h1:=List.find?_some hg;obtain⟨g1,g2,d,q,rfl,g3⟩:=VI _ (List.mem_of_find?_eq_some hg);have ht:=Kz _ _ h1;have hdc:d=c:=by
       simp only[yL,pG,pH] at h1;exact h1.1
      refine⟨ht.symm,by rw[ht];exact g1,by omega,?_⟩;rw[<-hdc];exact g3
theorem Yk.pre{s:List UInt8}{r:List yp×Nat×Nat}{L:List yp}{a:Nat}(h:Yk s r L a)(h0:r.2.2=0):∃M,r.1=L ++ M:=by
 obtain⟨a',f,_,_,_,_,e⟩:=h;generalize kU f L.length a' (s.drop a')=x at e;subst e;unfold kI at h0 ⊢;by_cases hx:x.2.2=0
 ·rw[if_pos hx];exact⟨x.1,rfl⟩
 ·rw[if_neg hx] at h0;exact absurd h0 hx
theorem Ka{s:List UInt8}(h:(Lode.yQ s).2.2=0):(qr s).2=0:=by
 unfold Lode.yQ at h;split at h
 ·exact h
 ·rename_i hc;simpa using hc
theorem Qg{s:List UInt8}(h:(Lode.yQ s).2.2=0){k:Nat}{t:List UInt8}(hr:(Lode.yQ s).1=[⟨k,t,0⟩]):∃m,yM s=some (k,t,m):=by
 have hi:=Yk.start (Ka h);have hg:=Zi false s;rcases Nat.lt_or_ge (zI false s) s.length with hlt|hge
 ·cases ht:yM (s.drop (zI false s)) with
  |none=>have:=hi.bad hlt ht;rw[this] at h;cases h
  |some x=>
   obtain⟨k',t',m⟩:=x;obtain⟨M,hM⟩:=(hi.next hlt ht (by simp)).pre h;rw[hr] at hM;simp only[wJ,pT,List.cons.injEq,yp.mk.injEq] at hM;obtain⟨⟨rfl,rfl,h0⟩,_⟩:=hM;have h0:zI false s=0:=by omega
   rw[h0,List.drop_zero] at ht;exact⟨m,ht⟩
 ·have:=hi.done hge;rw[this] at hr;cases hr
theorem zc0{c:UInt8}{r:List UInt8}(h1:c≠10)(h2:c≠35)(h3:c≠32):zI false (c :: r)=0:=by simp[zI,h1,h2,h3]
theorem zhA:Lode.yQ []=([],0,0):=by decide +kernel
theorem zlb(k:Nat)(t:List UInt8):yV k t=kV k t:=by
 unfold yV kV;by_cases hk:k=4
 ·rw[if_pos hk,if_pos hk]
 ·rw[if_neg hk,if_neg hk];cases t with
  |nil=>rw[if_pos (Or.inl rfl),if_neg (by rintro ⟨h,_⟩;rw[zhA] at h;cases h)]
  |cons c r=>
   cases ht:yM (c :: r) with
   |none=>
    rw[if_neg (by rintro ⟨h1,h2⟩;obtain⟨m,h⟩:=Qg h2 h1;rw[ht] at h;cases h)];split <;> rfl
   |some x=>
    obtain⟨k',x,m⟩:=x;have hw:=qz ht;by_cases h4:k'=4
    ·rw[if_neg (by rintro ⟨h1,h2⟩;obtain⟨m,h⟩:=Qg h2 h1;rw[ht] at h;cases h;exact hk h4)];split
     ·rfl
     ·show ([],4)=if m=(c :: r).length/\k'=k then (c :: r,0) else ([],4)
      rw[if_neg (by rintro ⟨_,h⟩;exact hk (h▸h4))]
    ·obtain⟨hx,hall,hm,hc⟩:=Zq ht h4;by_cases hfit:m=(c :: r).length/\k'=k
     ·obtain⟨hm2,rfl⟩:=hfit;have htk:(c :: r).take m=c :: r:=by rw[hm2];exact List.take_length
      rw[htk] at hx hall;have hchk:(qr (c :: r)).2=0:=by
       unfold qr;rw[if_neg (by omega)];have:=ZE (c :: r);rw[hall] at this;rw[of_decide_eq_true this]
      have hi:=Yk.start hchk;rw[zc0 hc.1 hc.2.1 hc.2.2.1] at hi;have hn:=hi.next (by simp) (by rw[List.drop_zero];exact ht) (by simp);have hd:=hn.done (by rw[hm2];omega);rw[if_pos (by rw[hd,hx];exact⟨rfl,rfl⟩),if_neg (by
       rintro (h|h|h)
       ·cases h
       ·omega
       ·simp only[List.head?_cons,pQ] at h;exact hc.2.2.2 h)]
      show (c :: r,0)=if m=(c :: r).length/\k'=k' then (c :: r,0) else ([],4)
      rw[if_pos ⟨hm2,rfl⟩]
     ·rw[if_neg (by
       rintro ⟨h1,h2⟩;obtain⟨m',h⟩:=Qg h2 h1;rw[ht] at h;cases h;apply hfit;refine⟨?_,rfl⟩;have:=congrArg List.length hx;rw[wU] at this;omega)]
      split
      ·rfl
      ·show ([],4)=if m=(c :: r).length/\k'=k then (c :: r,0) else ([],4)
       rw[if_neg hfit]
end
section
open Go.RowKit Lode
open Go.Proofs.Tryz
theorem JN{x y:List UInt8}{m n:Nat}(h:x.take m=y.take m)(hn:n<=m):x.take n=y.take n:=by
 have:=congrArg (List.take n) h;simpa[List.take_take,Nat.min_eq_left hn] using this
theorem Zt(p:UInt8->Bool):∀(x y:List UInt8),x.take (yc p x+1)=y.take (yc p x+1)->yc p y=yc p x
 |[],y,h=>by
  cases y with
  |nil=>rfl
  |cons c y=>simp[yc] at h
 |c :: r,y,h=>by
  simp only[yc] at h ⊢;cases y with
  |nil=>simp at h
  |cons d y=>
   by_cases hp:p c=true
   ·simp only[hp,if_true,List.take_succ_cons,List.cons.injEq] at h ⊢;obtain⟨rfl,h⟩:=h;simp only[yc,hp,if_true];rw[Zt p r y h]
   ·simp only[hp,Bool.false_eq_true,if_false,List.take_succ_cons,List.cons.injEq] at h ⊢;obtain⟨rfl,h⟩:=h;simp[yc,hp]
theorem uC(p:UInt8->Bool)(z:List UInt8)(hz:yc p z=0):∀(x:List UInt8),yc p (x.take (yc p x) ++ z)=yc p x
 |[]=>by simp[yc,hz]
 |c :: r=>by
  simp only[yc];by_cases hp:p c=true
  ·simp only[hp,if_true,List.take_succ_cons,pT,yc,uC p z hz r]
  ·simp[hp,hz]
theorem zaU:∀(m:Nat) (x y:List UInt8),x.length<=m->∀t n,vW x=some (t,n)->x.take n=y.take n->vW y=some (t,n)
 |0,x,y,hm,t,n,h,_=>by
  have:x=[]:=pM (by omega);subst this;simp[vW] at h
 |m+1,[],y,_,t,n,h,_=>by simp[vW] at h
 |m+1,c :: r,y,hm,t,n,h,he=>by
  simp only[pK] at hm;have hw:=ZX _ _ (pE _) _ _ h;obtain⟨n,rfl⟩:∃n',n=n'+1:=⟨n-1,by omega⟩;cases y with
  |nil=>simp at he
  |cons d y=>
   simp only[List.take_succ_cons,List.cons.injEq] at he;obtain⟨rfl,he⟩:=he;unfold vW at h ⊢;split at h
   ·cases h
   ·rename_i h1;rw[if_neg h1];split at h
    ·rename_i h2;rw[if_pos h2];exact h
    ·rename_i h2;rw[if_neg h2];split at h
     ·rename_i h3;rw[if_pos h3];cases r with
      |nil=>cases h
      |cons d r'=>
       simp only[pK] at hm;simp only at h;have fin:∀(b:UInt8),(vW r').map (fun x=>(b :: x.1,x.2+2))=some (t,n+1)->∃y',y=d :: y'/\(vW y').map (fun x=>(b :: x.1,x.2+2))=some (t,n+1):=by
        intro b hb;cases hq:vW r' with
        |none=>rw[hq] at hb;cases hb
        |some q=>
         obtain⟨t',n'⟩:=q;rw[hq] at hb;simp only[Option.map_some,pQ,Prod.mk.injEq] at hb;obtain⟨rfl,hn⟩:=hb;have hn':n=n'+1:=by omega
         subst hn';cases y with
         |nil=>simp at he
         |cons e y'=>
          simp only[List.take_succ_cons,List.cons.injEq] at he;obtain⟨rfl,he⟩:=he;refine⟨y',rfl,?_⟩;rw[zaU m r' y' (by omega) t' n' hq he];rfl
       split at h
       ·rename_i h4;obtain⟨y',rfl,h5⟩:=fin d h;simp only[if_pos h4];exact h5
       ·rename_i h4;split at h
        ·rename_i h6;obtain⟨y',rfl,h5⟩:=fin 10 h;simp only[if_neg h4,if_pos h6];exact h5
        ·cases h
     ·rename_i h3;rw[if_neg h3];cases hq:vW r with
      |none=>rw[hq] at h;cases h
      |some q=>
       obtain⟨t',n'⟩:=q;rw[hq] at h;simp only[Option.map_some,pQ,Prod.mk.injEq] at h;obtain⟨rfl,hn⟩:=h;have hn':n'=n:=by omega
       subst hn';rw[zaU m r y (by omega) t' n' hq he];rfl
theorem Kd{x y:List UInt8}{t:List UInt8}{n:Nat}(h:Lode.xP x=some (t,n))(he:x.take n=y.take n):Lode.xP y=some (t,n):=by
 have hw:=QN h;unfold Lode.xP at h ⊢;cases hq:vW (x.drop 1) with
 |none=>rw[hq] at h;cases h
 |some q=>
  obtain⟨t',n'⟩:=q;rw[hq] at h;simp only at h;split at h
  ·rename_i h60;cases h;have hd:(x.drop 1).take n'=(y.drop 1).take n':=by
    have:=congrArg (List.drop 1) he;simpa[List.drop_take] using this
   rw[zaU _ _ _ (pE _) _ _ hq hd];simp only[h60,if_true]
  ·cases h
theorem Yv:∀(g x y:List UInt8),x.take g.length=y.take g.length->yL g x=yL g y
 |[],_,_,_=>rfl
 |a :: g,[],y,h=>by
  cases y with
  |nil=>rfl
  |cons d y=>simp at h
 |a :: g,c :: x,y,h=>by
  cases y with
  |nil=>simp at h
  |cons d y=>
   simp only[pK,List.take_succ_cons,List.cons.injEq] at h;obtain⟨rfl,h⟩:=h;simp only[yL,Yv g x y h]
theorem zcg:∀g,g∈zT->g.length<=2:=fun g hg=>(VI g hg).2.1
theorem zb3{x y:List UInt8}{k n:Nat}{t:List UInt8}(h:yM x=some (k,t,n))(he:x.take (n+1)=y.take (n+1)):yM y=some (k,t,n):=by
 have hw:=qz h;cases x with
 |nil=>cases h
 |cons c r=>
  cases y with
  |nil=>simp at he
  |cons d q=>
   have hcd:c=d:=by simp only[List.take_succ_cons,List.cons.injEq] at he;exact he.1
   subst hcd;have het:r.take n=q.take n:=by simp only[List.take_succ_cons,List.cons.injEq] at he;exact he.2
   have hen:=JN he (n:=n) (by omega);simp only[yM] at h ⊢;split at h
   ·rename_i hs;rw[if_pos hs];split at h
    ·rename_i hn;simp only[pQ,Prod.mk.injEq] at h;obtain⟨hk,ht,hn2⟩:=h;rw[Zt _ r q (by rw[Nat.add_comm _ 1,hn2];exact het),if_pos hn,hn2,<-hen];rw[hn2] at hk ht;rw[hk,ht]
    ·cases h
   ·rename_i hs;rw[if_neg hs];split at h
    ·rename_i hs2;rw[if_pos hs2];split at h
     ·rename_i hn;simp only[pQ,Prod.mk.injEq] at h;obtain⟨hk,ht,hn2⟩:=h;rw[Zt _ r q (by rw[Nat.add_comm _ 1,hn2];exact het),if_pos hn,hn2,<-hen];rw[hn2] at ht;rw[hk,ht]
     ·cases h
    ·rename_i hs2;rw[if_neg hs2];split at h
     ·rename_i hs3;rw[if_pos hs3];split at h
      ·rename_i hn;simp only[pQ,Prod.mk.injEq] at h;obtain⟨hk,ht,hn2⟩:=h;rw[Zt _ r q (by rw[Nat.add_comm _ 1,hn2];exact het),hn2,<-hen];rw[hn2] at hn ht;rw[if_pos hn,hk,ht]
      ·cases h
     ·rename_i hs3;rw[if_neg hs3];split at h
      ·rename_i h34;rw[if_pos h34];cases hq:Lode.xP (c :: r) with
       |none=>rw[hq] at h;cases h
       |some z=>
        obtain⟨t',n'⟩:=z;rw[hq] at h;simp only[Option.map_some,pQ,Prod.mk.injEq] at h;obtain⟨rfl,rfl,rfl⟩:=h;rw[Kd hq hen];rfl
      ·rename_i h34;rw[if_neg h34];have hp:∀g,g∈zT->yL g (c :: r)=yL g (c :: q):=fun g hg=>Yv g _ _ (JN he (by have:=zcg g hg;omega))
       have hf:zT.find? (fun g=>yL g (c :: r))=zT.find? (fun g=>yL g (c :: q)):=by
        have aux:∀l:List (List UInt8),(∀g,g∈l->yL g (c :: r)=yL g (c :: q))->l.find? (fun g=>yL g (c :: r))=l.find? (fun g=>yL g (c :: q)):=by
         intro l;induction l with
         |nil=>intro _;rfl
         |cons g l ih=>
          intro hl;simp only[List.find?_cons,hl g (List.mem_cons_self ..)];rw[ih (fun g' hg'=>hl g' (pY _ hg'))]
        exact aux _ hp
       rw[<-hf];exact h
def zlh(c:UInt8):Prop:=yg c=false/\yf c=false/\c≠61/\c≠62/\c≠43
def QF(z:List UInt8):Prop:=∀c r,z=c :: r->zlh c
theorem QF.run{z:List UInt8}(h:QF z):yc (fun c=>yg c || yf c) z=0/\yc yf z=0:=by
 cases z with
 |nil=>exact⟨rfl,rfl⟩
 |cons c r=>obtain⟨h1,h2,_⟩:=h c r rfl;simp[yc,h1,h2]
theorem zch:∀g,g∈zT->∀a b r,g=a :: b :: r->b=61\/b=62\/b=43:=by
 intro g hg a b r hr;simp only[zT,wD,wH,or_false] at hg;rcases hg with rfl|rfl|rfl|rfl|rfl|rfl|rfl|rfl|rfl|rfl|rfl|rfl|rfl|rfl|rfl|rfl|rfl|rfl|rfl|rfl|rfl|rfl|rfl|rfl|rfl <;> simp at hr <;> simp[<-hr.2.1]
theorem zbq{g:List UInt8}(hg:g∈zT){c:UInt8}{z:List UInt8}(hz:QF z)(h2:g.length=2):yL g (c :: z)=false:=by
 cases g with
 |nil=>cases h2
 |cons a g=>
  cases g with
  |nil=>cases h2
  |cons b g=>
   have:=zch _ hg a b g rfl;cases z with
   |nil=>simp[yL]
   |cons d z=>
    obtain⟨_,_,h3,h4,h5⟩:=hz d z rfl;have hbd:b≠d:=by rintro rfl;rcases this with h|h|h <;> contradiction
    simp[yL,hbd]
theorem VE{x z:List UInt8}{k n:Nat}{t:List UInt8}(h:yM x=some (k,t,n))(hz:QF z):yM (x.take n ++ z)=some (k,t,n):=by
 have hw:=qz h;obtain⟨hz1,hz2⟩:=hz.run;cases x with
 |nil=>cases h
 |cons c r=>
  obtain⟨n,rfl⟩:∃n',n=n'+1:=⟨n-1,by omega⟩;have hlen:((c :: r).take (n+1) ++ z).take (n+1)=(c :: r).take (n+1):=by
   rw[List.take_append_of_le_length (by rw[wU];omega),List.take_take,Nat.min_self]
  rw[List.take_succ_cons,pT] at hlen ⊢;simp only[yM] at h ⊢;split at h
  ·rename_i hs;rw[if_pos hs];split at h
   ·rename_i hn;simp only[pQ,Prod.mk.injEq] at h;obtain⟨hk,ht,hn2⟩:=h;have hn3:yc (fun c=>yg c || yf c) r=n:=by omega
    rw[hn3] at hn hk ht;have:=uC (fun c=>yg c || yf c) z hz1 r;rw[hn3] at this;rw[this,if_pos hn,Nat.add_comm 1 n,hlen];rw[Nat.add_comm 1 n] at hk ht;rw[List.take_succ_cons] at hk ht;rw[hk,ht]
   ·cases h
  ·rename_i hs;rw[if_neg hs];split at h
   ·rename_i hs2;rw[if_pos hs2];split at h
    ·rename_i hn;simp only[pQ,Prod.mk.injEq] at h;obtain⟨hk,ht,hn2⟩:=h;have hn3:yc (fun c=>yg c || yf c) r=n:=by omega
     rw[hn3] at hn ht;have:=uC (fun c=>yg c || yf c) z hz1 r;rw[hn3] at this;rw[this,if_pos hn,Nat.add_comm 1 n,hlen];rw[Nat.add_comm 1 n,List.take_succ_cons] at ht;rw[hk,ht]
    ·cases h
   ·rename_i hs2;rw[if_neg hs2];split at h
    ·rename_i hs3;rw[if_pos hs3];split at h
     ·rename_i hn;simp only[pQ,Prod.mk.injEq] at h;obtain⟨hk,ht,hn2⟩:=h;have hn3:yc yf r=n:=by omega
      rw[hn3] at hn ht;have:=uC yf z hz2 r;rw[hn3] at this;rw[this,Nat.add_comm 1 n,hlen];rw[Nat.add_comm 1 n,List.take_succ_cons] at ht hn;rw[if_pos hn,hk,ht]
     ·cases h
    ·rename_i hs3;rw[if_neg hs3];split at h
     ·rename_i h34;rw[if_pos h34];cases hq:Lode.xP (c :: r) with
      |none=>rw[hq] at h;cases h
      |some z'=>
       obtain⟨t',n'⟩:=z';rw[hq] at h;simp only[Option.map_some,pQ,Prod.mk.injEq] at h;obtain⟨rfl,rfl,rfl⟩:=h;rw[Kd hq (y:=c :: (r.take n ++ z)) (by rw[hlen,List.take_succ_cons])];rfl
     ·rename_i h34;rw[if_neg h34];cases hg:zT.find? (fun g=>yL g (c :: r)) with
      |none=>rw[hg] at h;cases h
      |some g=>
       rw[hg] at h;simp only[Option.map_some,pQ,Prod.mk.injEq] at h;obtain⟨rfl,rfl,hgn⟩:=h;have key:zT.find? (fun g=>yL g (c :: (r.take n ++ z)))=some g:=by
        rw[List.find?_eq_some_iff_append] at hg ⊢;obtain⟨h1,us,vs,h2,h3⟩:=hg;refine⟨?_,us,vs,h2,fun a ha=>?_⟩
        ·have:yL g (c :: r)=yL g (c :: (r.take n ++ z)):=Yv g _ _ (by rw[hgn,hlen,List.take_succ_cons]);rw[<-this];exact h1
        ·have ha2:=h3 a ha;have ham:a∈zT:=by rw[h2];exact List.mem_append_left _ ha
         have hal:=zcg a ham;by_cases hle:a.length<=n+1
         ·have:yL a (c :: r)=yL a (c :: (r.take n ++ z)):=Yv a _ _ (by
           have h5:=congrArg (List.take a.length) hlen;rw[List.take_take,Nat.min_eq_left hle] at h5;rw[h5,show c :: r.take n=(c :: r).take (n+1) from rfl,List.take_take,Nat.min_eq_left hle])
          rw[<-this];exact ha2
         ·have hn0:n=0:=by omega
          subst hn0;have:=zbq ham (c:=c) hz (by omega);simp only[List.take_zero,wJ];rw[this];rfl
       rw[key];simp only[Option.map_some,hgn]
end
end Go.Proofs.YtnncmdpopgkibaaGreatDoor
namespace Lode
def jx:Bool->List UInt8->Option Bool
 |cm,[]=>some cm
 |cm,c :: r=>if c=10 then jx false r else if c=35 then jx true r else if c=32\/cm=true then jx cm r else none
end Lode
namespace Go.Proofs.YtnncmdpopgkibaaGreatDoor
section
open Go.RowKit Lode
open Go.Proofs.Tryz
theorem Zh:∀(cm:Bool) (x y:List UInt8),jx cm (x ++ y)=(jx cm x).bind fun c=>jx c y
 |_,[],_=>rfl
 |cm,c :: r,y=>by
  simp only[pT,jx];split
  ·exact Zh _ r y
  ·split
   ·exact Zh _ r y
   ·split
    ·exact Zh _ r y
    ·rfl
theorem kY:∀(cm cm':Bool) (x y:List UInt8),jx cm x=some cm'->zI cm (x ++ y)=x.length+zI cm' y
 |cm,cm',[],y,h=>by cases h;simp
 |cm,cm',c :: r,y,h=>by
  simp only[jx] at h;simp only[pT,zI,pK];split at h
  ·rename_i h1;rw[if_pos h1,kY _ _ r y h];omega
  ·rename_i h1;rw[if_neg h1];split at h
   ·rename_i h2;rw[if_pos h2,kY _ _ r y h];omega
   ·rename_i h2;rw[if_neg h2];split at h
    ·rename_i h3;rw[if_pos h3,kY _ _ r y h];omega
    ·cases h
theorem ZD:∀(cm:Bool) (r:List UInt8),∃c,jx cm (r.take (zI cm r))=some c/\(r.drop (zI cm r)=[]\/c=false)
 |cm,[]=>⟨cm,by simp[zI,jx],.inl rfl⟩
 |cm,c :: r=>by
  simp only[zI];split
  ·rename_i h1;simp only[List.take_succ_cons,List.drop_succ_cons,jx,if_pos h1];exact ZD false r
  ·rename_i h1;split
   ·rename_i h2;simp only[List.take_succ_cons,List.drop_succ_cons,jx,if_neg h1,if_pos h2];exact ZD true r
   ·rename_i h2;split
    ·rename_i h3;simp only[List.take_succ_cons,List.drop_succ_cons,jx,if_neg h1,if_neg h2,if_pos h3];exact ZD cm r
    ·rename_i h3;refine⟨cm,rfl,.inr ?_⟩;cases cm with
     |false=>rfl
     |true=>exact absurd (Or.inr rfl) h3
theorem YU{r:List UInt8}{k n:Nat}{t:List UInt8}(h:yM r=some (k,t,n)):zI false r=0:=by
 cases r with
 |nil=>rfl
 |cons c r=>
  by_cases h1:c=10
  ·subst h1;exfalso;revert h;have e:zT.find? (fun g=>yL g (10 :: r))=none:=by simp[zT,yL]
   simp[yM,yg,YQ,yf,e]
  by_cases h2:c=35
  ·subst h2;exfalso;revert h;have e:zT.find? (fun g=>yL g (35 :: r))=none:=by simp[zT,yL]
   simp[yM,yg,YQ,yf,e]
  by_cases h3:c=32
  ·subst h3;exfalso;revert h;have e:zT.find? (fun g=>yL g (32 :: r))=none:=by simp[zT,yL]
   simp[yM,yg,YQ,yf,e]
  exact zc0 h1 h2 h3
inductive Jg:Nat->List UInt8->List yp->Prop
 |done {a:Nat} {G:List UInt8} {c:Bool}:jx false G=some c->Jg a G []
 |tok {a:Nat} {G T R:List UInt8} {k:Nat} {t:List UInt8} {l:List yp}:jx false G=some false->yM (T ++ R)=some (k,t,T.length)->Jg (a+G.length+T.length) R l->Jg a (G ++ (T ++ R)) (⟨k,t,(a+G.length:Nat)⟩ :: l)
theorem Jg.shift{a:Nat}{r:List UInt8}{l:List yp}(h:Jg a r l):∀b,∃l',Jg b r l'/\l'.map (fun t=>(t.kind,t.text))=l.map (fun t=>(t.kind,t.text)):=by
 induction h with
 |done h=>exact fun b=>⟨[],.done h,rfl⟩
 | @tok a G T R k t l h1 h2 h3 ih=>
  intro b;obtain⟨l',h4,h5⟩:=ih (b+G.length+T.length);exact⟨_,.tok h1 h2 h4,by simp[h5]⟩
theorem zeV:∀(f n a:Nat) (r:List UInt8) (l:List yp) (p:Nat),r.length<f->n<=1200->kU f n a r=(l,p,0)->Jg a r l/\n+l.length<=1200/\p=0
 |0,_,_,_,_,_,hf,_,_=>absurd hf (wG _)
 |f+1,n,a,r,l,p,hf,hn,h=>by
  obtain⟨c,hg,hc⟩:=ZD false r;have hle:=Zi false r;have hsplit:r.take (zI false r) ++ r.drop (zI false r)=r:=List.take_append_drop _ _;have hlen:(r.take (zI false r)).length=zI false r:=by rw[wU];omega
  simp only[kU] at h;generalize zI false r=g at *;cases hd:r.drop g with
  |nil=>
   rw[hd] at h hsplit;cases h;rw[wN] at hsplit;rw[hsplit] at hg;exact⟨.done hg,by simpa using hn,rfl⟩
  |cons d q=>
   have hcf:c=false:=by
    rcases hc with h|h
    ·rw[hd] at h;cases h
    ·exact h
   subst hcf;rw[hd] at h;simp only at h;rw[hd] at hsplit;have hqlen:=congrArg List.length hsplit;rw[pC,hlen] at hqlen;cases ht:yM (d :: q) with
   |none=>rw[ht] at h;cases h
   |some x=>
    obtain⟨k,t,m⟩:=x;rw[ht] at h;simp only at h;have hw:=qz ht;split at h
    ·cases h
    ·rename_i hn2;generalize hx:kU f (n+1) (a+g+m) ((d :: q).drop m)=x at h;obtain⟨l',p',e'⟩:=x;simp only at h;split at h
     ·rename_i he;subst he;obtain⟨h5,h6,h7⟩:=zeV f (n+1) _ _ l' p' (by rw[wW];omega) (by omega) hx;cases h;have hm:((d :: q).take m).length=m:=by rw[wU];omega
      have hTR:(d :: q).take m ++ (d :: q).drop m=d :: q:=List.take_append_drop _ _;refine⟨?_,by simp;omega,rfl⟩;have:=Jg.tok (a:=a) (G:=r.take g) (T:=(d :: q).take m) (R:=(d :: q).drop m) (k:=k) (t:=t) (l:=l') hg (by rw[hTR,hm];exact ht) (by rw[hlen,hm];exact h5);rw[hTR,hsplit,hlen] at this;exact this
     ·cases h;rename_i he;exact absurd rfl he
theorem Jg.kU{a:Nat}{r:List UInt8}{l:List yp}(h:Jg a r l):∀(f n:Nat),r.length<f->n+l.length<=1200->Lode.kU f n a r=(l,0,0):=by
 induction h with
 | @done a G c h=>
  intro f n hf hn;obtain⟨f,rfl⟩:∃f',f=f'+1:=⟨f-1,by omega⟩;have:=kY false c G [] h;simp only[wN,zI,Nat.add_zero] at this;simp only[Lode.kU,this,List.drop_length]
 | @tok a G T R k t l h1 h2 h3 ih=>
  intro f n hf hn;obtain⟨f,rfl⟩:∃f',f=f'+1:=⟨f-1,by omega⟩;have hg:=kY false false G (T ++ R) h1;rw[YU h2,Nat.add_zero] at hg;simp only[pC,pK] at hf hn;have hw:=qz h2;have hi:=ih f (n+1) (by omega) (by omega);simp only[Lode.kU,hg,List.drop_left];cases hT:T ++ R with
  |nil=>rw[hT] at h2;cases h2
  |cons d q=>
   rw[hT] at h2;simp only[h2];rw[if_neg (by omega),<-hT,List.drop_left,hi];rfl
theorem Jt{s:List UInt8}(h:(Lode.yQ s).2.2=0):Jg 0 s (Lode.yQ s).1/\(Lode.yQ s).1.length<=1200/\(qr s).2=0/\(Lode.yQ s).2.1=0:=by
 have hc:=Ka h;have e:Lode.yQ s=Lode.kU (s.length+1) 0 0 s:=by simp[Lode.yQ,hc]
 rw[e] at h ⊢;generalize hx:Lode.kU (s.length+1) 0 0 s=x at *;obtain⟨l,p,e'⟩:=x;simp only at h;subst h;obtain⟨h1,h2,h3⟩:=zeV _ _ _ _ _ _ (by omega) (by omega) hx;exact⟨h1,by simpa using h2,hc,h3⟩
theorem zeY{s:List UInt8}{l:List yp}(hc:(qr s).2=0)(h:Jg 0 s l)(hl:l.length<=1200):Lode.yQ s=(l,0,0):=by
 have e:Lode.yQ s=Lode.kU (s.length+1) 0 0 s:=by simp[Lode.yQ,hc]
 rw[e];exact h.kU _ _ (by omega) (by omega)
theorem zbB{s:List UInt8}:(qr s).2=0↔s.length<=3000/\s.all jW=true:=by
 unfold qr;by_cases h:3000<s.length
 ·rw[if_pos h];simp;omega
 ·rw[if_neg h];have hf:=ZE s;cases hx:xU (fun c=> !jW c) s with
  |none=>
   rw[hx] at hf;have:s.all jW=true:=by rw[<-hf];rfl
   simp[this];omega
  |some i=>
   rw[hx] at hf;have:s.all jW=false:=by rw[<-hf];rfl
   simp[this]
theorem Yr:∀(m:Nat) (x:List UInt8),x.length<=m->∀t n,vW x=some (t,n)->x.take n=t.flatMap zV ++ [34]/\t.all jW=true
 |0,x,hm,t,n,h=>by
  have:x=[]:=pM (by omega);subst this;simp[vW] at h
 |m+1,[],_,t,n,h=>by simp[vW] at h
 |m+1,c :: r,hm,t,n,h=>by
  simp only[pK] at hm;unfold vW at h;split at h
  ·cases h
  ·rename_i h1;split at h
   ·rename_i h2;cases h;subst h2;exact⟨rfl,rfl⟩
   ·rename_i h2;split at h
    ·rename_i h3;subst h3;cases r with
     |nil=>cases h
     |cons d r'=>
      simp only[pK] at hm;simp only at h;split at h
      ·rename_i h4;cases hq:vW r' with
       |none=>rw[hq] at h;cases h
       |some q=>
        obtain⟨t',n'⟩:=q;rw[hq] at h;cases h;obtain⟨i1,i2⟩:=Yr m r' (by omega) _ _ hq;have hd10:d≠10:=by rcases h4 with rfl|rfl <;> decide
        have hB:jW d=true:=by rcases h4 with rfl|rfl <;> decide
        simp only[List.take_succ_cons,List.flatMap_cons,zV,if_neg hd10,if_pos h4,List.all_cons,hB,i2,i1,Bool.and_self,and_true];rfl
      ·rename_i h4;split at h
       ·rename_i h5;cases hq:vW r' with
        |none=>rw[hq] at h;cases h
        |some q=>
         obtain⟨t',n'⟩:=q;rw[hq] at h;cases h;obtain⟨i1,i2⟩:=Yr m r' (by omega) _ _ hq;subst h5;simp only[List.take_succ_cons,List.flatMap_cons,List.all_cons,i2,i1,Bool.and_true];exact⟨rfl,by decide⟩
       ·cases h
    ·rename_i h3;cases hq:vW r with
     |none=>rw[hq] at h;cases h
     |some q=>
      obtain⟨t',n'⟩:=q;rw[hq] at h;cases h;obtain⟨i1,i2⟩:=Yr m r (by omega) _ _ hq;have hc10:c≠10:=by rintro rfl;exact h1 (.inl (by decide))
      have hB:jW c=true:=zh7 c (by omega) (by omega);simp only[List.take_succ_cons,List.flatMap_cons,zV,if_neg hc10,if_neg (not_or.2 ⟨h2,h3⟩),List.all_cons,hB,i2,i1,Bool.and_self,and_true];rfl
theorem XB:∀(t R:List UInt8),t.all jW=true->vW (t.flatMap zV ++ (34 :: R))=some (t,(t.flatMap zV).length+1)
 |[],R,_=>by rw[List.flatMap_nil,wJ,vW.eq_def];rfl
 |c :: t,R,h=>by
  simp only[List.all_cons,pG] at h;have ih:=XB t R h.2;have hb:=(zbs c).1 h.1;simp only[List.flatMap_cons];by_cases h10:c=10
  ·subst h10;simp only[zV,if_true,pT,wJ];rw[vW];simp[ih]
  ·by_cases h34:c=34\/c=92
   ·simp only[zV,if_neg h10,if_pos h34,pT,wJ];rw[vW];simp only[ih,if_pos h34];simp
   ·simp only[zV,if_neg h10,if_neg h34,pT,wJ];have hc10:¬(c.toNat:Int)=10:=fun e=>h10 ((c10 c).mp e)
    have hx:32<=(c.toNat:Int)/\(c.toNat:Int)<=126:=by omega
    rw[vW.eq_def];simp only[ih];rw[if_neg (by omega),if_neg (fun e=>h34 (.inl e)),if_neg (fun e=>h34 (.inr e))];simp
theorem zaT{x:List UInt8}{t:List UInt8}{n:Nat}(h:Lode.xP (34 :: x)=some (t,n)):qA t=((34 :: x).take n,0)/\t.length<=60:=by
 unfold Lode.xP at h;simp only[List.drop_succ_cons,List.drop_zero] at h;cases hq:vW x with
 |none=>rw[hq] at h;cases h
 |some q=>
  obtain⟨t',n'⟩:=q;rw[hq] at h;simp only at h;split at h
  ·rename_i h60;cases h;obtain⟨h1,h2⟩:=Yr _ _ (pE _) _ _ hq;refine⟨?_,h60⟩;rw[qA,if_neg (by omega),if_pos h2,List.take_succ_cons,h1];simp
  ·cases h
theorem zfT{r:List UInt8}{k n:Nat}{t:List UInt8}(h:yM r=some (k,t,n))(hk:k=4):∃x,r=34 :: x/\Lode.xP (34 :: x)=some (t,n):=by
 subst hk;cases r with
 |nil=>cases h
 |cons c r=>
  simp only[yM] at h;split at h
  ·split at h
   ·simp only[pQ,Prod.mk.injEq] at h;obtain⟨h,_⟩:=h;split at h <;> cases h
   ·cases h
  ·split at h
   ·split at h
    ·cases h
    ·cases h
   ·split at h
    ·split at h
     ·cases h
     ·cases h
    ·split at h
     ·rename_i h34;subst h34;refine⟨r,rfl,?_⟩;cases hq:Lode.xP (34 :: r) with
      |none=>rw[hq] at h;cases h
      |some z=>
       rw[hq] at h;simp only[Option.map_some,pQ,Prod.mk.injEq] at h;obtain⟨_,h1,h2⟩:=h;rw[<-h1,<-h2]
     ·cases hg:zT.find? (fun g=>yL g (c :: r)) with
      |none=>rw[hg] at h;cases h
      |some g=>rw[hg] at h;cases h
theorem zdq{r:List UInt8}{k n:Nat}{t:List UInt8}(h:yM r=some (k,t,n)):kV k t=(r.take n,0)/\(k=4->t.length<=60):=by
 by_cases hk:k=4
 ·obtain⟨x,rfl,h1⟩:=zfT h hk;obtain⟨h2,h3⟩:=zaT h1;subst hk;refine⟨?_,fun _=>h3⟩;rw[kV,if_pos rfl,h2];rfl
 ·refine⟨?_,fun e=>absurd e hk⟩;have hs:=VE h (z:=[]) (fun c r h=>by cases h);rw[wN] at hs;have hw:=qz h;cases r with
  |nil=>cases h
  |cons c r=>
   obtain⟨h1,h2,h3,h4⟩:=Zq h hk;subst h1;have hlen:((c :: r).take n).length=n:=by rw[wU];omega
   rw[kV,if_neg hk,if_neg ?_,hs]
   ·show (if n=((c :: r).take n).length/\k=k then ((c :: r).take n,0) else ([],4))=_
    rw[if_pos ⟨hlen.symm,rfl⟩]
   ·rintro (h|h|h)
    ·rw[h] at hlen;simp at hlen;omega
    ·omega
    ·obtain⟨n',rfl⟩:∃n',n=n'+1:=⟨n-1,by omega⟩;rw[List.take_succ_cons,List.head?_cons,pQ] at h;exact h4.2.2.2 h
theorem ue{k:Nat}{t T:List UInt8}(h:kV k t=(T,0)){R:List UInt8}(hR:QF R\/k=4):yM (T ++ R)=some (k,t,T.length):=by
 unfold kV at h;by_cases hk:k=4
 ·subst hk;rw[if_pos rfl] at h;split at h
  ·rename_i hq;cases h;unfold qA at hq;split at hq
   ·cases hq
   ·split at hq
    ·rename_i h60 hall;rw[qA,if_neg h60,if_pos hall];have e:([34] ++ t.flatMap zV ++ [34] ++ R)=34 :: (t.flatMap zV ++ (34 :: R)):=by simp
     show yM ([34] ++ t.flatMap zV ++ [34] ++ R)=_
     rw[e];have hqd:Lode.xP (34 :: (t.flatMap zV ++ (34 :: R)))=some (t,(t.flatMap zV).length+2):=by
      unfold Lode.xP;rw[List.drop_succ_cons,List.drop_zero,XB t R hall];simp only;rw[if_pos (by omega)]
     simp only[yM];rw[if_neg (by decide),if_neg (by decide),if_neg (by decide),if_pos trivial,hqd];simp
    ·cases hq
  ·cases h
 ·rw[if_neg hk] at h;have hR2:QF R:=hR.resolve_right hk;clear hR;split at h
  ·cases h
  ·cases ht:yM t with
   |none=>rw[ht] at h;cases h
   |some x=>
    obtain⟨k',x,n⟩:=x;rw[ht] at h;simp only at h;split at h
    ·rename_i hn;obtain⟨rfl,rfl⟩:=hn;cases h;have hx:x=t:=by
      cases t with
      |nil=>cases ht
      |cons c r=>rw[(Zq ht hk).1,List.take_length]
     subst hx;have:=VE ht hR2;rw[List.take_length] at this;exact this
    ·cases h
theorem Yo{k:Nat}{t T:List UInt8}(h:kV k t=(T,0)):T≠[]:=by
 have:=ue h (R:=[]) (.inl (fun c r h=>by cases h));have hw:=qz this;rintro rfl;simp at hw
theorem Yp{k:Nat}{t T:List UInt8}(h:kV k t=(T,0)):T.all jW=true:=by
 unfold kV at h;by_cases hk:k=4
 ·rw[if_pos hk] at h;split at h
  ·rename_i hq;cases h;unfold qA at hq ⊢;split at hq
   ·cases hq
   ·split at hq
    ·rename_i h60 hall;rw[if_neg h60,if_pos hall];simp only[List.all_append,pG];refine⟨⟨by decide,?_⟩,by decide⟩;rw[List.all_flatMap,pO];intro c hc;have hB:=(pO.1 hall) c hc;unfold zV;split
     ·decide
     ·split
      ·simp[hB];decide
      ·simp[hB]
    ·cases hq
  ·cases h
 ·rw[if_neg hk] at h;split at h
  ·cases h
  ·cases ht:yM t with
   |none=>rw[ht] at h;cases h
   |some x=>
    obtain⟨k',x,n⟩:=x;rw[ht] at h;simp only at h;split at h
    ·rename_i hn;obtain⟨rfl,rfl⟩:=hn;cases h;cases t with
     |nil=>cases ht
     |cons c r=>have:=(Zq ht hk).2.1;rwa [List.take_length] at this
    ·cases h
end
end Go.Proofs.YtnncmdpopgkibaaGreatDoor
namespace Lode
def kt(t:yp):Nat×List UInt8:=(t.kind,t.text)
def Za(x:Nat×List UInt8):List UInt8:=(yV x.1 x.2).1
def jy(x y:Nat×List UInt8):Bool:=Qk x.1 x.2 (Za x) y.1 y.2 (Za y)
def ja(x:Nat×List UInt8):List (Nat×List UInt8)->List UInt8
 |[]=>[]
 |y :: l=>(if jy x y then [32] else []) ++ (Za y ++ ja y l)
def xW:List (Nat×List UInt8)->List UInt8
 |[]=>[]
 |x :: l=>Za x ++ ja x l
def kK(x:Nat×List UInt8):Prop:=(yV x.1 x.2).2=0
end Lode
namespace Go.Proofs.YtnncmdpopgkibaaGreatDoor
section
open Go.RowKit Lode
open Go.Proofs.Tryz
theorem _root_.Lode.kK.eq{x:Nat×List UInt8}(h:kK x):kV x.1 x.2=(Za x,0):=by
 unfold kK at h;unfold Za;rw[zlb] at h ⊢;exact Prod.ext rfl h
theorem _root_.Lode.kK.of{x:Nat×List UInt8}{T:List UInt8}(h:kV x.1 x.2=(T,0)):kK x/\Za x=T:=by
 unfold kK Za;rw[zlb,h];exact⟨rfl,rfl⟩
theorem Jg.gap{a:Nat}{Z r:List UInt8}{l:List yp}(hz:jx false Z=some false)(h:Jg (a+Z.length) r l):Jg a (Z ++ r) l:=by
 generalize hb:a+Z.length=b at h;cases h with
 | @done _ _ c hg=>exact .done (c:=c) (by rw[Zh,hz];exact hg)
 | @tok _ G T R k t l h1 h2 h3=>
  subst hb;have:=Jg.tok (a:=a) (G:=Z ++ G) (T:=T) (R:=R) (by rw[Zh,hz];exact h1) h2 (by rw[pC,<-Nat.add_assoc];exact h3);rw[wS,pC,<-Nat.add_assoc] at this;exact this
def XU(r:List UInt8)(ks:List (Nat×List UInt8)):Prop:=∃l,Jg 0 r l/\l.map kt=ks
theorem Jg.k{a:Nat}{r:List UInt8}{l:List yp}(h:Jg a r l):XU r (l.map kt):=by
 obtain⟨l',h1,h2⟩:=h.shift 0;exact⟨l',h1,h2⟩
theorem XU.done{G:List UInt8}{c:Bool}(h:jx false G=some c):XU G []:=⟨[],.done h,rfl⟩
theorem XU.tok{G T R:List UInt8}{k:Nat}{t:List UInt8}{ks:List (Nat×List UInt8)}(h1:jx false G=some false)(h2:yM (T ++ R)=some (k,t,T.length))(h3:XU R ks):XU (G ++ (T ++ R)) ((k,t) :: ks):=by
 obtain⟨l,h4,rfl⟩:=h3;obtain⟨l',h5,h6⟩:=h4.shift (0+G.length+T.length);exact⟨_,.tok h1 h2 h5,by simp only[List.map_cons,List.cons.injEq];exact⟨rfl,h6⟩⟩
theorem XU.gap{Z r:List UInt8}{ks:List (Nat×List UInt8)}(hz:jx false Z=some false)(h:XU r ks):XU (Z ++ r) ks:=by
 obtain⟨l,h4,rfl⟩:=h;obtain⟨l',h5,h6⟩:=h4.shift (0+Z.length);exact⟨l',h5.gap hz,h6⟩
theorem XU.inv{r:List UInt8}{ks:List (Nat×List UInt8)}(h:XU r ks):(∃c,ks=[]/\jx false r=some c)\/∃G T R k t ks',r=G ++ (T ++ R)/\ks=(k,t) :: ks'/\jx false G=some false/\yM (T ++ R)=some (k,t,T.length)/\XU R ks':=by
 obtain⟨l,h,rfl⟩:=h;cases h with
 | @done _ _ c hg=>exact .inl ⟨c,rfl,hg⟩
 | @tok _ G T R k t l h1 h2 h3=>exact .inr ⟨G,T,R,k,t,_,rfl,rfl,h1,h2,h3.k⟩
theorem YV{T R:List UInt8}{k:Nat}{t:List UInt8}(h:yM (T ++ R)=some (k,t,T.length)):kK (k,t)/\Za (k,t)=T:=by
 have:=(zdq h).1;rw[List.take_left] at this;exact kK.of this
theorem XU.allSpelt{r:List UInt8}{ks:List (Nat×List UInt8)}(h:XU r ks):∀x∈ks,kK x:=by
 induction ks generalizing r with
 |nil=>intro x hx;cases hx
 |cons y ks ih=>
  rcases h.inv with⟨c,h1,_⟩|⟨G,T,R,k,t,ks',rfl,h1,h2,h3,h4⟩
  ·cases h1
  ·cases h1;intro x hx;rcases wD.1 hx with rfl|hx
   ·exact (YV h3).1
   ·exact ih h4 x hx
theorem zkt(z:List UInt8):QF (32 :: z):=fun c r h=>by cases h;exact⟨by decide,by decide,by decide,by decide,by decide⟩
theorem zhf:QF []:=fun c r h=>by cases h
theorem Qc{k:Nat}{t T:List UInt8}(h:kV k t=(T,0)):T.length<=122:=by
 unfold kV at h;by_cases hk:k=4
 ·rw[if_pos hk] at h;split at h
  ·rename_i hq;cases h;unfold qA at hq ⊢;split at hq
   ·cases hq
   ·split at hq
    ·rename_i h60 hall;rw[if_neg h60,if_pos hall];have aux:∀l:List UInt8,(l.flatMap zV).length<=2*l.length:=by
      intro l;induction l with
      |nil=>simp
      |cons c l ih=>have:=XA c;simp only[List.flatMap_cons,pC,pK];omega
     have:=aux t;simp only[pC,pK,pR];omega
    ·cases hq
  ·cases h
 ·rw[if_neg hk] at h;split at h
  ·cases h
  ·rename_i h20;split at h
   ·split at h
    ·cases h;have:¬20<t.length:=fun e=>h20 (.inr (.inl e));omega
    ·cases h
   ·cases h
theorem XU.peel{x:Nat×List UInt8}(hx:kK x){V:List UInt8}{ks:List (Nat×List UInt8)}(h:XU (Za x ++ V) (x :: ks)):yM (Za x ++ V)=some (x.1,x.2,(Za x).length)/\XU V ks:=by
 obtain⟨k,t⟩:=x;have hs:=hx.eq;have h0:=ue hs (R:=[]) (.inl zhf);rw[wN] at h0;have hg0:=YU h0;have hpos:=Yo hs;rcases h.inv with⟨c,h1,_⟩|⟨G,T,R,k',t',ks',hr,h1,h2,h3,h4⟩
 ·cases h1
 ·cases h1;have hT:=(YV h3).2;have hGL:=kY false false G (T ++ R) h2;rw[<-hr,YU h3,Nat.add_zero] at hGL;have hz:zI false (Za (k,t) ++ V)=0:=by
   cases hsp:Za (k,t) with
   |nil=>exact absurd hsp hpos
   |cons c q=>
    rw[hsp] at hg0;simp only[pT,zI] at hg0 ⊢;split
    ·rename_i h;rw[if_pos h] at hg0;omega
    ·rename_i h;rw[if_neg h] at hg0;split
     ·rename_i h';rw[if_pos h'] at hg0;omega
     ·rename_i h';rw[if_neg h'] at hg0;split
      ·rename_i h'';rw[if_pos h''] at hg0;omega
      ·rfl
  have hG:G=[]:=pM (by omega);subst hG;rw[wJ] at hr;rw[<-hT] at hr h3;have:=List.append_cancel_left hr;subst this;exact⟨h3,h4⟩
theorem zdb{x y:Nat×List UInt8}(hx:kK x)(hy:kK y):jy x y=false↔yM (Za x ++ Za y)=some (x.1,x.2,(Za x).length):=by
 obtain⟨k,t⟩:=x;obtain⟨k2,t2⟩:=y;have hs:=hx.eq;have hs2:=hy.eq;have hy1:=ue hs2 (R:=[]) (.inl zhf);constructor
 ·intro h;simp only[jy,Qk,Bool.not_eq_false',pG,pH] at h;obtain⟨h1,h2⟩:=h;have h3:=(Jt h1).1;rw[h2] at h3;have h4:=h3.k;exact (XU.peel hx h4).1
 ·intro h;have h5:Jg 0 (Za (k,t) ++ Za (k2,t2)) [⟨k,t,0⟩,⟨k2,t2,(Za (k,t)).length⟩]:=by
   have a2:=Jg.tok (a:=0+0+(Za (k,t)).length) (G:=[]) (T:=Za (k2,t2)) (R:=[]) rfl hy1 (Jg.done (c:=false) rfl);have a1:=Jg.tok (a:=0) (G:=[]) (T:=Za (k,t)) (R:=[] ++ (Za (k2,t2) ++ [])) rfl (by simpa using h) a2;simpa using a1
  have hl1:=Qc hs;have hl2:=Qc hs2;have hc:(qr (Za (k,t) ++ Za (k2,t2))).2=0:=zbB.2 ⟨by rw[pC];omega,by rw[List.all_append,Yp hs,Yp hs2];rfl⟩;have:=zeY hc h5 (by simp);simp[jy,Qk,this]
theorem zfV{S A B:List UInt8}{k:Nat}{t:List UInt8}(h:yM (S ++ A)=some (k,t,S.length))(hA:A≠[]):yM (S ++ (A ++ B))=some (k,t,S.length):=by
 refine zb3 h ?_;rw[List.take_length_add_append,List.take_length_add_append];cases A with
 |nil=>exact absurd rfl hA
 |cons c A=>simp
theorem zeX:∀(l:List (Nat×List UInt8)) (x:Nat×List UInt8),kK x->(∀y∈l,kK y)->XU (Za x ++ ja x l) (x :: l)
 |[],(k,t),hx,_=>by
  have:=XU.tok (G:=[]) (R:=[]) rfl (ue hx.eq (R:=[]) (.inl zhf)) (XU.done (c:=false) rfl);exact this
 |y :: l,(k,t),hx,hl=>by
  have hy:=hl y (List.mem_cons_self ..);have ih:=zeX l y hy (fun z hz=>hl z (pY _ hz));simp only[ja];by_cases ha:jy (k,t) y=true
  ·rw[if_pos ha];exact XU.tok (G:=[]) rfl (ue hx.eq (.inl (zkt _))) (XU.gap (Z:=[32]) rfl ih)
  ·have ha':jy (k,t) y=false:=by simpa using ha
   rw[if_neg ha];have h1:=(zdb hx hy).1 ha';exact XU.tok (G:=[]) (R:=Za y ++ ja y l) rfl (zfV h1 (Yo hy.eq)) ih
theorem zgh(l:List (Nat×List UInt8))(hl:∀y∈l,kK y):XU (xW l) l:=by
 cases l with
 |nil=>exact XU.done (c:=false) rfl
 |cons x l=>exact zeX l x (hl x (List.mem_cons_self ..)) (fun y hy=>hl y (pY _ hy))
theorem zb5:∀(l:List (Nat×List UInt8)) (x:Nat×List UInt8),(∀y∈l,kK y)->(ja x l).all jW=true
 |[],_,_=>rfl
 |y :: l,x,hl=>by
  simp only[ja,List.all_append,pG];refine⟨?_,Yp (hl y (List.mem_cons_self ..)).eq,zb5 l y (fun z hz=>hl z (pY _ hz))⟩;split
  ·decide
  ·rfl
theorem zg9(l:List (Nat×List UInt8))(hl:∀y∈l,kK y):(xW l).all jW=true:=by
 cases l with
 |nil=>rfl
 |cons x l=>
  simp only[xW,List.all_append,pG];exact⟨Yp (hl x (List.mem_cons_self ..)).eq,zb5 l x (fun y hy=>hl y (pY _ hy))⟩
theorem JM:∀(l:List (Nat×List UInt8)) (x:Nat×List UInt8) (G T R:List UInt8),jx false G=some false->yM (T ++ R)=some (x.1,x.2,T.length)->XU R l->(Za x ++ ja x l).length<=(T ++ R).length
 |[],(k,t),G,T,R,_,h2,_=>by
  have:=(YV h2).2;rw[this];simp[ja]
 |y :: l,(k,t),G,T,R,h1,h2,h3=>by
  obtain⟨hx,hT⟩:=YV h2;rcases h3.inv with⟨c,h,_⟩|⟨G2,T2,R2,k2,t2,ks',rfl,h,h4,h5,h6⟩
  ·cases h
  ·cases h;obtain⟨hy,hT2⟩:=YV h5;have ih:=JM l (k2,t2) G2 T2 R2 h4 h5 h6;simp only[ja,pC] at ih ⊢;rw[hT];by_cases ha:jy (k,t) (k2,t2)=true
   ·rw[if_pos ha];cases G2 with
    |nil=>
     exfalso;have:jy (k,t) (k2,t2)=false:=by
      rw[zdb hx hy,hT,hT2];refine zb3 h2 ?_;rw[List.take_length_add_append,List.take_length_add_append,wJ];have hp:=Yo hy.eq;rw[hT2] at hp;cases T2 with
      |nil=>exact absurd rfl hp
      |cons c q=>simp
     rw[this] at ha;cases ha
    |cons c q=>simp only[pK,pR];omega
   ·rw[if_neg ha];simp only[pR];omega
theorem zi2{r:List UInt8}{l:List (Nat×List UInt8)}(h:XU r l):(xW l).length<=r.length:=by
 cases l with
 |nil=>simp[xW]
 |cons x l=>
  rcases h.inv with⟨c,h,_⟩|⟨G,T,R,k,t,ks',rfl,h1,h2,h3,h4⟩
  ·cases h
  ·cases h1;have:=JM l (k,t) G T R h2 h3 h4;simp only[xW,pC] at this ⊢;omega
end
end Go.Proofs.YtnncmdpopgkibaaGreatDoor
namespace Lode
def qv(x:Nd):Nd:={x with at_:=0}
def QK(a b:yo):Bool:=decide (a.items=b.items) && decide (a.nodes.map qv=b.nodes.map qv)
def Xi(a b:yo):Bool×Nat:=if zR a≠0 then (false,zR a) else if zR b≠0 then (false,zR b) else (QK a b,0)
def k1:List UInt8:=[114,111,111,116,32,97,58,32,105,110,116,32,61,32,49,32,43,32,98,32,42,32,50,59]
def k2:List UInt8:=[102,117,110,32,102,40,41,58,117,110,105,116,123,40,103,41,40,40,49,41,41,59,125]
def k3:List UInt8:=[102,117,110,32,102,32,40,32,41,32,58,32,117,110,105,116,32,123,32,40,103,41,40,40,49,41,41,59,32,59,32,125]
def k4:List UInt8:=[114,111,111,116,32,99,58,32,99,104,97,110,32,105,110,116,32,61,32,99,104,97,110,32,105,110,116,40,57,41,59]
def k5:List UInt8:=[102,117,110,32,102,40,41,58,32,117,110,105,116,32,123,32,97,40,41,32,58,61,32,49,59,32,125]
def k6:List UInt8:=[102,117,110,32,102,40,41,58,32,117,110,105,116,32,123,32,40,84,41,40,49,41,59,32,45,32,45,97,59,32,40,116,104,114,111,119,32,97,41,46,102,59,32,40,110,111,116,32,97,41,32,61,61,32,98,32,125]
def k2o:List UInt8:=[102,117,110,32,102,40,41,58,32,117,110,105,116,32,123,32,103,40,49,41,59,32,125] ++ [10]
def k6o:List UInt8:=[102,117,110,32,102,40,41,58,32,117,110,105,116,32,123,32,40,84,41,40,49,41,59,32,45,32,45,97,59,32,40,116,104,114,111,119,32,97,41,46,102,59,32,40,110,111,116,32,97,41,32,61,61,32,98,32,125] ++ [10]
theorem kn1:(zW k1).2=(0,0):=by decide +kernel
theorem zma:(zW k1).1.nodes.length=7:=by decide +kernel
theorem zl8:zdB (zW k1).1 5=(5,0):=by decide +kernel
theorem zl7:za4 (zW k1).1 4=(5,0):=by decide +kernel
theorem zl9:zhF (zW k1).1 3=([6,5,4,3],0):=by decide +kernel
theorem zmc:zbx (zW k1).1 20=(4,0):=by decide +kernel
theorem kn2:uD k2=(k2o,0,0):=by decide +kernel
theorem kn3:(uD k3).2=(29,4):=by decide +kernel
theorem kn4:(zW k4).2=(19,3):=by decide +kernel
theorem kn5:(zW k5).2=(20,4):=by decide +kernel
theorem kn6:(zW k6).2.2=0:=by decide +kernel
theorem zl3:YZ (zW k6).1=(k6o,0):=by decide +kernel
def okB(t:yo):Bool:=(t.nodes.all fun x=>decide (x.kind<=255) && decide (x.text.length<=100) && decide (x.kids.length<=1000)) && decide (t.nodes.length<=1000) && decide (t.items.length<=1000)
theorem zmb:okB (zW k1).1=true:=by decide +kernel
theorem zl6:okB (zW k2).1=true:=by decide +kernel
theorem zl5:okB (zW k3).1=true:=by decide +kernel
theorem zl4:okB (zW k6).1=true:=by decide +kernel
end Lode
