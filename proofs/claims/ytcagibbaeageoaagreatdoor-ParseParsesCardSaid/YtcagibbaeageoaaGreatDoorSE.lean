import Derived.Test.YtcagibbaeageoaaGreatDoorSD
set_option maxRecDepth 100000
set_option maxHeartbeats 0
set_option linter.all false
variable{l:List Lode.Nd}{i k m n:Nat}{s t text:List UInt8}{x:Lode.Nd}{α β:Type}{c:Prop}{part tight:Lode.PM Int}{w:List (List UInt8)}{R:Lode.qi}
namespace Lode
def kN(h:qm l l.length)(hi:i<l.length):∀k∈(l[i]'hi).kz,0<=k/\k<i:=by
 obtain⟨p,hp,_,_⟩:=qR h hi;rw[glE hi] at hp;intro k hk;have:=KL _ _ _ hp k (wY.2 hk);omega
theorem VZ{l:List Nd}{f:Nat}:∀(ks:List Int) (c:Int),(∀k∈ks,JW l f k=((kz l l.length).getD k.toNat 0:Nat))->ks.foldl (λn k=>n+JW l f k) c=c+(ks.map λk=>(((kz l l.length).getD k.toNat 0:Nat):Int)).sum
 |[],c,_=>by simp
 |k :: r,c,h=>by
  rw[List.foldl_cons,VZ r _ (λj hj=>h j (wJ _ hj)),h k (List.mem_cons_self ..),List.map_cons,List.sum_cons,Int.add_assoc]
theorem zbU{out:List Nat}:∀(rk:List Int) (p e:Int),Yx out rk p=some e->(rk.map λk=>((out.getD k.toNat 0:Nat):Int)).sum=p-e
 |[],p,e,h=>by cases h;simp
 |k :: r,p,e,h=>by
  unfold Yx at h;split at h
  ·cases h
  ·rename_i hc;have hk:k=p:=by omega
   have:=zbU r _ e h;rw[List.map_cons,List.sum_cons,this,hk];omega
theorem KN{l:List Nd}(h:qm l l.length):∀(i f:Nat),i<l.length->i<f->JW l f i=((kz l l.length).getD i 0:Nat)
 |i,0,_,hf=>absurd hf (wF _)
 |i,f+1,hi,hf=>by
  obtain⟨p,hp,nX,Mc⟩:=qR h hi;have Px:=kN h hi;have hx:l[i]? =some l[i]:=glE hi;rw[hx] at hp;simp only[Option.elim] at hp;unfold JW;rw[pZ,hx];simp only[Option.elim];rw[VZ _ _ (λk hk=>?_)]
  ·have hs:=zbU _ _ _ hp;rw[List.map_reverse,List.sum_reverse] at hs;rw[hs,nX];omega
  ·obtain⟨h0,h1⟩:=Px k hk;obtain⟨k',rfl⟩:=pO h0;rw[pZ];exact KN h k' f (by omega) (by omega)
termination_by i=>i
def zan{t:yJ}(h:JM t=0):qm t.nz t.nz.length:=by
 unfold JM at h;split at h
 ·cases h
 ·split at h
  ·cases h
  ·rename_i hf;exact (Xz (by simpa using hf)).1
section
variable {l:List Nd} {pr:Int→List UInt8} {x:Nd} {i:Nat}
def xX(h:yF l x=true):yT x.kind=true/\(xr x.kind).1<=x.kz.length/\x.kz.length<=(xr x.kind).2/\qd x.kind x.n x.kz.length=true/\ky x=true/\∀i,i<x.kz.length->yc x.kind x.n x.kz.length i (zD l (zW x i))=true:=by
 unfold yF at h;simp only[pJ,pK,pY,List.mem_range] at h;obtain⟨⟨⟨⟨⟨⟨⟨h1,h2⟩,h3⟩,h4⟩,h5⟩,h6⟩,h7⟩,h8⟩:=h;exact⟨h1,h2,h3,h4,h7,h8⟩
end
def qV(pr:Int->List UInt8):List Int->Nat
 |[]=>0
 |k :: r=>(pr k).length+8+qV pr r
theorem VQ(pr:Int->List UInt8):∀a b:List Int,qV pr (a ++ b)=qV pr a+qV pr b
 |[],_=>by simp[qV]
 |k :: r,b=>by
  show (pr k).length+8+qV pr (r ++ b)=(pr k).length+8+qV pr r+qV pr b
  rw[VQ pr r b];omega
def qn(l:List Nd)(pr:Int->List UInt8)(k:Int)(r:Nat):(jF l pr k r).length<=(pr k).length+2:=by
 unfold jF;split
 ·simp only[pE,pH,pM];omega
 ·omega
theorem zbA(pr:Int->List UInt8):∀ks:List Int,(vS (ks.map pr)).length<=qV pr ks
 |[]=>by simp[vS,qV]
 |[k]=>by
  simp only[List.map_cons,List.map_nil,vS,qV];omega
 |k :: j :: r=>by
  have ih:=zbA pr (j :: r);rw[List.map_cons] at ih ⊢;rw[List.map_cons];unfold vS qV;simp only[pE,pH,pM] at ih ⊢;omega
def vh(pr:Int->List UInt8)(ks:List Int):(qo pr ks).length<=qV pr ks:=zbA pr ks
def zfB(pr:Int->List UInt8)(ks:List Int):(uI pr ks).length<=qV pr ks+2:=by
 unfold uI;have:=vh pr ks;split
 ·simp
 ·simp only[pE,pH,pM];omega
theorem VD(pr:Int->List UInt8)(last:Bool):∀ks:List Int,(qA pr last ks).length<=qV pr ks
 |[]=>by simp[qA,qV]
 |[k]=>by
  unfold qA qV qV;cases last <;> simp
 |k :: j :: r=>by
  have ih:=VD pr last (j :: r);unfold qA qV;simp only[pE,pH,pM] at ih ⊢;omega
theorem Ys:∀(d u:Nat),u<10 ^ (d+1)->(Go.Lib.decDigits u).length<=d+1
 |0,u,h=>by
  rw[Go.Lib.decDigits];split
  ·simp
  ·rename_i h2;simp at h;omega
 |d+1,u,h=>by
  rw[Go.Lib.decDigits];split
  ·simp
  ·have:=Ys d (u / 10) (by
    rw[Nat.div_lt_iff_lt_mul (by decide)];rw[Nat.pow_succ] at h;exact h)
   rw[pE,pI];omega
def zcC{n:Int}(h1: -1000000000<=n)(h2:n<=1000000000):(Go.Lib.itoa n).length<=11:=by
 unfold Go.Lib.itoa;split
 ·have:=Ys 9 n.natAbs (by omega);simp only[pH];omega
 ·have:=Ys 9 n.toNat (by omega);omega
def ug(h:ky x=true)(h4:jS x.kind≠4):x.text.length<=3000:=by
 unfold ky at h;split at h
 ·have:x.text=[]:=by simpa using h
  rw[this];simp
 ·unfold jf at h;rw[if_neg h4] at h;split at h
  ·rename_i hr;rcases Nat.lt_or_ge 3000 x.text.length with hl|hl
   ·exfalso;have h1:=hr.1;unfold vB qF at h1;rw[if_pos hl] at h1;simp at h1
   ·exact hl
  ·simp at h
theorem zmo:∀l:List UInt8,(l.flatMap qk).length<=2*l.length
 |[]=>by simp
 |c :: r=>by
  have:=zmo r;rw[List.flatMap_cons,pE,pH];have:(qk c).length<=2:=by
   unfold qk;split
   ·simp
   ·split <;> simp
  omega
def zjH(t:List UInt8):(vC t).1.length<=122:=by
 unfold vC;split
 ·simp
 ·split
  ·have:=zmo t;simp only[pE,pH,pM];omega
  ·simp
section
variable {l:List Nd} {pr:Int→List UInt8} {x:Nd}
def zj7(hr:yF l x=true)(hk:x.kind∈[1,2,3,4,5,44,45,46,80,81,82,83,84,66,67,68,69]):(xo l pr x).length<=qV pr x.kz+3100:=by
 obtain⟨k,t,n,ks,a⟩:=x;simp only[wI,wL,or_false] at hk;obtain⟨_,h1,h2,hn,ht,hs⟩:=xX hr;clear hr hs h1 h2;have hq:=zjH t;have ht:jS k≠4->t.length<=3000:=λh=>ug ht h
 rcases hk with rfl|rfl|rfl|rfl|rfl|rfl|rfl|rfl|rfl|rfl|rfl|rfl|rfl|rfl|rfl|rfl|rfl
 all_goals simp[qd] at hn
 all_goals simp[jS] at ht
 all_goals simp[xo,xU,zN,qu]
 all_goals first
  |omega
  |(have:=zcC (n:=n) (by omega) (by omega);omega)
  |(split <;> (try simp) <;> omega)
def zlG(hr:yF l x=true)(hk:x.kind∈[6,7,23,27,37,38,39,40,42,43,47,50,51,60,61,65,86,87,88]):(xo l pr x).length<=qV pr x.kz+3100:=by
 obtain⟨k,t,n,ks,a⟩:=x;simp only[wI,wL,or_false] at hk;obtain⟨_,h1,h2,hn,ht,hs⟩:=xX hr;clear hr hs;have hl:ks.length=1:=by
  rcases hk with rfl|rfl|rfl|rfl|rfl|rfl|rfl|rfl|rfl|rfl|rfl|rfl|rfl|rfl|rfl|rfl|rfl|rfl|rfl
  all_goals (simp[xr] at h1 h2;omega)
 clear h1 h2;obtain⟨c,rfl⟩:∃c,ks=[c]:=by
  match ks,hl with
  |[c],_=>exact⟨c,rfl⟩
 have ht:t.length<=3000:=ug ht (by dsimp only;rcases hk with rfl|rfl|rfl|rfl|rfl|rfl|rfl|rfl|rfl|rfl|rfl|rfl|rfl|rfl|rfl|rfl|rfl|rfl|rfl <;> decide);have q3:=qn l pr c 3;have q7:=qn l pr c 7;have q8:=qn l pr c 8;have qa:=vh pr [c];simp only[qV] at qa ⊢;rcases hk with rfl|rfl|rfl|rfl|rfl|rfl|rfl|rfl|rfl|rfl|rfl|rfl|rfl|rfl|rfl|rfl|rfl|rfl|rfl
 all_goals simp[qd] at hn
 all_goals simp[xo,xU,zN,zW,qu,kH,xP]
 all_goals first
  |omega
  |(have:=zcC (n:=n) (by omega) (by omega);omega)
  |(split <;> (try simp) <;> omega)
def zlF(hr:yF l x=true)(hk:x.kind∈[8,9,10,11,12,13,14,15,16,17,18,19,20,21,22,30,32,34,41,48,62,63,104]):(xo l pr x).length<=qV pr x.kz+3100:=by
 obtain⟨k,t,n,ks,a⟩:=x;simp only[wI,wL,or_false] at hk;obtain⟨_,h1,h2,hn,ht,hs⟩:=xX hr;clear hr hs hn;have hl:ks.length=2:=by
  rcases hk with rfl|rfl|rfl|rfl|rfl|rfl|rfl|rfl|rfl|rfl|rfl|rfl|rfl|rfl|rfl|rfl|rfl|rfl|rfl|rfl|rfl|rfl|rfl
  all_goals (simp[xr] at h1 h2;omega)
 clear h1 h2;obtain⟨c,d,rfl⟩:∃c d,ks=[c,d]:=by
  match ks,hl with
  |[c,d],_=>exact⟨c,d,rfl⟩
 have ht:t.length<=3000:=ug ht (by dsimp only;rcases hk with rfl|rfl|rfl|rfl|rfl|rfl|rfl|rfl|rfl|rfl|rfl|rfl|rfl|rfl|rfl|rfl|rfl|rfl|rfl|rfl|rfl|rfl|rfl <;> decide);have q1:=qn l pr c 1;have q2:=qn l pr c 2;have q5:=qn l pr c 5;have q6:=qn l pr c 6;have p2:=qn l pr d 2;have p3:=qn l pr d 3;have p5:=qn l pr d 5;have p6:=qn l pr d 6;have p7:=qn l pr d 7;have qa:=vh pr [c,d];simp only[qV] at qa ⊢;rcases hk with rfl|rfl|rfl|rfl|rfl|rfl|rfl|rfl|rfl|rfl|rfl|rfl|rfl|rfl|rfl|rfl|rfl|rfl|rfl|rfl|rfl|rfl|rfl
 all_goals simp[xo,xU,qx,zN,zW,qu,kH,xP]
 all_goals omega
def zis(hr:yF l x=true)(hk:x.kind∈[49,64,36]):(xo l pr x).length<=qV pr x.kz+3100:=by
 obtain⟨k,t,n,ks,a⟩:=x;simp only[wI,wL,or_false] at hk;obtain⟨_,h1,h2,hn,ht,hs⟩:=xX hr;clear hr hs hn;have hl:ks.length=3:=by
  rcases hk with rfl|rfl|rfl
  all_goals (simp[xr] at h1 h2;omega)
 clear h1 h2;obtain⟨c,d,e,rfl⟩:∃c d e,ks=[c,d,e]:=by
  match ks,hl with
  |[c,d,e],_=>exact⟨c,d,e,rfl⟩
 have ht:t.length<=3000:=ug ht (by dsimp only;rcases hk with rfl|rfl|rfl <;> decide);have qa:=vh pr [c,d,e];have qb:=vh pr [c,d];simp only[qV] at qa qb ⊢;rcases hk with rfl|rfl|rfl
 all_goals simp[xo,xU,qx,zN,zW,qu,kH,xP]
 all_goals omega
def znp(hr:yF l x=true)(hk:x.kind=29):(xo l pr x).length<=qV pr x.kz+3100:=by
 obtain⟨k,t,n,ks,a⟩:=x;simp only at hk;subst hk;obtain⟨_,h1,h2,hn,ht,hs⟩:=xX hr;clear hr hs hn ht;simp[xr] at h1 h2
 match ks,h1,h2 with
 |[c,d],_,_=>
  simp only[qV];simp[xo,xU,qx,zN,zW,qu,kH,xP];omega
 |[c,d,e],_,_=>
  simp only[qV];simp[xo,xU,qx,zN,zW,qu,kH,xP];omega
def zj6(hr:yF l x=true)(hk:x.kind∈[26,35,100,101,25,70,89,28]):(xo l pr x).length<=qV pr x.kz+3100:=by
 obtain⟨k,t,n,ks,a⟩:=x;simp only[wI,wL,or_false] at hk;obtain⟨_,h1,h2,hn,ht,hs⟩:=xX hr;clear hr hs hn h1 h2;have ht:t.length<=3000:=ug ht (by dsimp only;rcases hk with rfl|rfl|rfl|rfl|rfl|rfl|rfl|rfl <;> decide);have qa:=vh pr ks;have qp:=zfB pr ks;have qs:=VD pr (n != 0) ks;simp only;rcases hk with rfl|rfl|rfl|rfl|rfl|rfl|rfl|rfl
 all_goals simp[xo,xU,qx,zN,zW,qu,kH,xP,Xs]
 all_goals first
  |omega
  |(split <;> (try simp) <;> omega)
def zj5(hr:yF l x=true)(hk:x.kind∈[24,31]):(xo l pr x).length<=qV pr x.kz+3100:=by
 obtain⟨k,t,n,ks,a⟩:=x;simp only[wI,wL,or_false] at hk;obtain⟨_,h1,h2,hn,ht,hs⟩:=xX hr;clear hr hs hn ht;have hl:1<=ks.length:=by
  rcases hk with rfl|rfl
  ·exact h1
  ·exact pN (show 1<=2 by decide) h1
 clear h1 h2;obtain⟨c,r,rfl⟩:∃c r,ks=c :: r:=by
  match ks,hl with
  |c :: r,_=>exact⟨c,r,rfl⟩
 have q8:=qn l pr c 8;have qa:=vh pr r;simp only[qV];rcases hk with rfl|rfl
 all_goals simp[xo,xU,qx,zN,zW,qu,kH,xP]
 all_goals first
  |omega
  |(split <;> (try simp) <;> omega)
def zj8(hr:yF l x=true)(hk:x.kind∈[85,103]):(xo l pr x).length<=qV pr x.kz+3100:=by
 obtain⟨k,t,n,ks,a⟩:=x;simp only[wI,wL,or_false] at hk;obtain⟨_,h1,h2,hn,ht,hs⟩:=xX hr;clear hr hs hn;have hl:1<=ks.length:=by
  rcases hk with rfl|rfl
  ·exact h1
  ·exact h1
 clear h1 h2;obtain⟨r,c,rfl⟩:∃r c,ks=r ++ [c]:=⟨ks.dropLast,ks.getLast (by intro e;rw[e] at hl;simp at hl),(List.dropLast_concat_getLast _).symm⟩;have ht:t.length<=3000:=ug ht (by dsimp only;rcases hk with rfl|rfl <;> decide);have qa:=vh pr r;rw[VQ];simp only[qV];rcases hk with rfl|rfl
 all_goals simp[xo,xU,qx,zN,zW,qu,kH,xP,jc]
 all_goals omega
def zlH(hr:yF l x=true)(hk:x.kind∈[33,102]):(xo l pr x).length<=qV pr x.kz+3100:=by
 obtain⟨k,t,n,ks,a⟩:=x;simp only[wI,wL,or_false] at hk;obtain⟨_,h1,h2,hn,ht,hs⟩:=xX hr;clear hr hs hn;have hl:2<=ks.length:=by
  rcases hk with rfl|rfl
  ·exact h1
  ·exact h1
 clear h1 h2;obtain⟨r,c,d,rfl⟩:∃r c d,ks=r ++ [c,d]:=by
  refine⟨ks.dropLast.dropLast,ks.dropLast.getLast (by intro e;have:=congrArg List.length e;simp at this;omega),ks.getLast (by intro e;rw[e] at hl;simp at hl),?_⟩;rw[show ∀(a b:Int),[a,b]=[a] ++ [b] from λ_ _=>rfl,<-List.append_assoc,List.dropLast_concat_getLast,List.dropLast_concat_getLast]
 have ht:t.length<=3000:=ug ht (by dsimp only;rcases hk with rfl|rfl <;> decide);have qa:=vh pr r;rw[VQ];simp only[qV];have e1:(r ++ [c,d]).getD r.length 0=c:=by simp[pA]
 have e2:(r ++ [c,d]).getD (r.length+1) 0=d:=by simp[pA]
 rcases hk with rfl|rfl
 all_goals simp[xo,xU,qx,zN,zW,qu,kH,xP,jc]
 all_goals first
  |omega
  |(split <;> (try simp) <;> omega)
def zih(hr:yF l x=true):(xo l pr x).length<=qV pr x.kz+3100:=by
 have hk:=(xX hr).1;have hm:∀k,k<105->(!yT k || decide (k∈[1,2,3,4,5,44,45,46,80,81,82,83,84,66,67,68,69]) || decide (k∈[6,7,23,27,37,38,39,40,42,43,47,50,51,60,61,65,86,87,88]) || decide (k∈[8,9,10,11,12,13,14,15,16,17,18,19,20,21,22,30,32,34,41,48,62,63,104]) || decide (k∈[49,64,36]) || decide (k=29) || decide (k∈[26,35,100,101,25,70,89,28]) || decide (k∈[24,31]) || decide (k∈[85,103]) || decide (k∈[33,102]))=true:=by decide +kernel
 have h:=hm _ (Nat.lt_succ_of_le (Xb hk));rw[hk] at h;simp only[Bool.not_true,Bool.false_or,wG,pK] at h;rcases h with (((((((h|h)|h)|h)|h)|h)|h)|h)|h
 ·exact zj7 hr h
 ·exact zlG hr h
 ·exact zlF hr h
 ·exact zis hr h
 ·exact znp hr h
 ·exact zj6 hr h
 ·exact zj5 hr h
 ·exact zj8 hr h
 ·exact zlH hr h
end
theorem zg7{pr:Int->List UInt8}{z:Int->Nat}:∀ks:List Int,(∀k∈ks,(pr k).length+8<=3200*z k)->(qV pr ks:Int)<=3200*(ks.map λk=>(z k:Int)).sum
 |[],_=>by simp[qV]
 |k :: r,h=>by
  have ih:=zg7 (pr:=pr) (z:=z) r (λj hj=>h j (wJ _ hj));have h1:=h k (List.mem_cons_self ..);rw[List.map_cons,List.sum_cons];unfold qV;omega
theorem zjL{l:List Nd}(hF:qm l l.length)(hR:∀x∈l,yF l x=true):∀(i f:Nat),i<l.length->(prN l f i).length+8<=3200*(kz l l.length).getD i 0
 |i,0,hi=>by
  obtain⟨p,hp,nX,Mc⟩:=qR hF hi;show 0+8<=_
  omega
 |i,f+1,hi=>by
  obtain⟨p,hp,nX,Mc⟩:=qR hF hi;have Px:=kN hF hi;have hx:l[i]? =some l[i]:=glE hi;have hr:=hR _ (wE hi);rw[hx] at hp;simp only[Option.elim] at hp;have hs:=zbU _ _ _ hp;rw[List.map_reverse,List.sum_reverse] at hs;have h1:=zih (pr:=prN l f) hr;have h2:=zg7 (pr:=prN l f) (z:=λk=>(kz l l.length).getD k.toNat 0) l[i].kz (λk hk=>by
   obtain⟨h0,h1⟩:=Px k hk;obtain⟨k',rfl⟩:=pO h0;simp only[pZ];exact zjL hF hR k' f (by omega))
  rw[hs] at h2;have e2:prN l (f+1) i=xo l (prN l f) l[i]:=by
   show (match l[(i:Int).toNat]? with|some x=>xo l (prN l f) x|none=>[])=_
   rw[pZ,hx]
  rw[e2];omega
termination_by _ f=>f
theorem zje{out:List Nat}:∀(rk:List Int) (p e:Int),-1<=p->(∀j:Nat,(j:Int)<=p->out.getD j 0<=j+1)->Yx out rk p=some e->-1<=e
 |[],p,e,hp,_,h=>by cases h;exact hp
 |k :: r,p,e,hp,ho,h=>by
  unfold Yx at h;split at h
  ·cases h
  ·rename_i hc;have h1:=ho p.toNat (by omega);exact zje r _ e (by omega) (λj hj=>ho j (by omega)) h
def zmZ(hF:qm l n):∀(i:Nat),i<n->(kz l n).getD i 0<=i+1:=by
 intro i;induction i using Nat.strongRecOn with
 |ind i ih=>
  intro hi;obtain⟨p,hp,nX,Mc⟩:=qR hF hi;have:=zje _ _ _ (by omega) (λj hj=>ih j (by omega) (by omega)) hp;omega
def zbd(hF:qm l l.length)(hR:∀x∈l,yF l x=true)(hn:l.length<=1000)(f i:Nat)(hi:i<l.length):(prN l f i).length<=3200000:=by
 have h1:=zjL hF hR i f hi;have h2:=zmZ hF i hi;omega
def Kb(c:Nat)(s:yx):Prop:=∀x∈s.nz,x.kz.length<=c
structure Kp{α:Type}(Q:α->Prop)(n:Nat)(m:PM α):Prop where
 q:∀(E:zr) (s:yx) (a:α) (s':yx),E.tz.length=n->Kb (n+8) s->m E s=.ok a s'->Kb (n+8) s'/\Q a
abbrev Any:α->Prop:=λ_=>True
abbrev xy(n:Nat):List Int->Prop:=λl=>l.length<=n
def Kp.bind{Q:α->Prop}{P:β->Prop}{m:PM α}{f:α->PM β}(hm:Kp Q n m)(hf:∀a,Q a->Kp P n (f a)):Kp P n (m >>= f):=by
 refine⟨λE s a s' hE hk h=>?_⟩;obtain⟨x,s1,h1,h⟩:=zo h;obtain⟨k1,q1⟩:=hm.q _ _ _ _ hE hk h1;exact (hf x q1).q _ _ _ _ hE k1 h
theorem Kp.pure{α:Type}{Q:α->Prop}{n:Nat}{a:α}(h:Q a):Kp Q n (pure a:PM α):=by
 refine⟨λE s b s' _ hk e=>?_⟩;obtain⟨rfl,rfl⟩:=zK e;exact⟨hk,h⟩
def Kp.ite{Q:α->Prop}[Decidable c]{a b:PM α}(ha:Kp Q n a)(hb:Kp Q n b):Kp Q n (if c then a else b):=by
 split
 ·exact ha
 ·exact hb
section
variable {n:Nat}
def yV{x:List UInt8}:Kp Any n (zC x):=by
 refine⟨λE s a s' _ hk h=>?_⟩;unfold zC at h;split at h <;> cases h;exact⟨hk,trivial⟩
def jw:Kp Any n (xp k):=by
 refine⟨λE s a s' _ hk h=>?_⟩;unfold xp at h;split at h <;> cases h;exact⟨hk,trivial⟩
def jK{x:List UInt8}:Kp Any n (yo x):=by
 refine⟨λE s a s' _ hk h=>?_⟩;unfold yo at h;split at h <;> cases h <;> exact⟨hk,trivial⟩
def kU:Kp Any n YU:=by
 refine⟨λE s a s' _ hk h=>?_⟩;cases h;exact⟨hk,trivial⟩
def um{l:List (List UInt8)}:Kp Any n (YA l):=by
 refine⟨λE s a s' _ hk h=>?_⟩;cases h;exact⟨hk,trivial⟩
def kA:Kp Any n jH:=by
 refine⟨λE s a s' _ hk h=>?_⟩;cases h;exact⟨hk,trivial⟩
def kV:Kp Any n Zd:=by
 refine⟨λE s a s' _ hk h=>?_⟩;cases h;exact⟨hk,trivial⟩
def ki{k:Int}:Kp Any n (zdQ k):=by
 refine⟨λE s a s' _ hk h=>?_⟩;cases h;exact⟨hk,trivial⟩
def ub{Q:α->Prop}:Kp Q n (zgV (α:=α)):=by
 refine⟨λE s a s' _ hk h=>?_⟩;cases h
def ju{kind:Nat}{m at_:Int}{kids:List Int}(hl:kids.length<=n+8):Kp Any n (zT kind text m at_ kids):=by
 refine⟨λE s a s' _ hk h=>?_⟩;cases h;refine⟨λx hx=>?_,trivial⟩;rcases pW.1 hx with hx|hx
 ·exact hk x hx
 ·rw[wD] at hx;rw[hx];exact hl
structure zoH(n:Nat)(R:qi):Prop where
 expr:Kp Any n R.expr
 unary:Kp Any n R.unary
 bin2:Kp Any n R.bin2
 block:Kp Any n R.block
 branch:Kp Any n R.branch
 kind:Kp Any n R.kind
 pattern:Kp Any n R.pattern
theorem zd2{part:PM Int}(hp:Kp Any n part):∀(k:Nat) (acc:List Int),Kp (xy (acc.length+k)) n (jI k part acc)
 |0,_=>by
  refine⟨λE s a s' _ _ h=>?_⟩;cases h
 |k+1,acc=>by
  unfold jI;refine Kp.bind hp (λx _=>Kp.bind jK (λb _=>Kp.ite ?_ (Kp.pure ?_)))
  ·have:=zd2 hp k (acc ++ [x]);rw[pE] at this;rw[show acc.length+(k+1)=acc.length+[x].length+k by simp only[pI];omega];exact this
  ·simp only[xy,pE,pI];omega
def zcw(hp:Kp Any n part):Kp (xy (n+1)) n (jW part):=by
 refine⟨λE s a s' hE hk h=>?_⟩;have:=(zd2 hp (E.tz.length+1) []).q _ _ _ _ hE hk h;refine⟨this.1,?_⟩;have h2:=this.2;simp only[xy,pM] at h2 ⊢;omega
def XA(hp:Kp Any n part):Kp (xy (n+1)) n (qB part):=by
 unfold qB;exact Kp.bind yV (λ_ _=>Kp.bind (zcw hp) (λl hl=>Kp.bind yV (λ_ _=>Kp.pure hl)))
def yp(hp:Kp Any n part):Kp (xy (n+1)) n (jd part):=by
 unfold jd;refine Kp.bind jK (λb _=>Kp.ite (Kp.bind (zcw hp) (λl hl=>Kp.bind yV (λ_ _=>Kp.pure hl))) (Kp.pure ?_));simp[xy]
def yN(hp:Kp Any n part):Kp (xy (n+1)) n (do if <-YA w then pure [] else jW part:PM (List Int)):=by
 refine Kp.bind um (λb _=>Kp.ite (Kp.pure ?_) (zcw hp));simp[xy]
variable {R:qi} (hR:zoH n R)
include hR
def zdO:Kp Any n (ka R):=by
 unfold ka
 repeat' (first|exact yV|exact jw|exact jK|exact kU|exact um|exact kA|exact kV|exact ki|exact ub|exact hR.expr|exact hR.unary|exact hR.bin2|exact hR.block|exact hR.branch|exact hR.kind|exact hR.pattern|exact yp hR.expr|exact yp hR.kind|exact yp hR.pattern|exact yN hR.expr|exact yN hR.kind|(refine ju ?_;first|(simp;done)|(simp[xy] at *;omega))|apply Kp.bind|intro _ _|refine Kp.ite ?_ ?_|exact Kp.pure trivial)
def zlL:Kp Any n (Yz R):=by
 unfold Yz
 repeat' (first|exact yV|exact jw|exact jK|exact kU|exact um|exact kA|exact kV|exact ki|exact ub|exact hR.expr|exact hR.unary|exact hR.bin2|exact hR.block|exact hR.branch|exact hR.kind|exact hR.pattern|exact yp hR.expr|exact yp hR.kind|exact yp hR.pattern|exact yN hR.expr|exact yN hR.kind|(refine ju ?_;first|(simp;done)|(simp[xy] at *;omega))|apply Kp.bind|intro _ _|refine Kp.ite ?_ ?_|exact Kp.pure trivial)
def zhj:Kp (xy (n+2)) n (Zh R):=by
 unfold Zh;refine Kp.bind yV (λ_ _=>Kp.bind (yN (zdO hR)) (λl hl=>Kp.bind yV (λ_ _=>Kp.bind yV (λ_ _=>Kp.bind hR.kind (λk _=>Kp.pure ?_)))));simp only[xy,pE,pI] at hl ⊢;omega
def zlI:Kp Any n (YB R):=by
 unfold YB
 repeat' (first|exact yV|exact jw|exact jK|exact kU|exact um|exact kA|exact kV|exact ki|exact ub|exact hR.expr|exact hR.unary|exact hR.bin2|exact hR.block|exact hR.branch|exact hR.kind|exact hR.pattern|exact yp hR.expr|exact yp hR.kind|exact yp hR.pattern|exact yN hR.expr|exact yN hR.kind|(refine ju ?_;first|(simp;done)|(simp[xy] at *;omega))|apply Kp.bind|intro _ _|refine Kp.ite ?_ ?_|exact Kp.pure trivial)
def zlj:Kp Any n (Ze R):=by
 unfold Ze
 repeat' (first|exact yV|exact jw|exact jK|exact kU|exact um|exact kA|exact kV|exact ki|exact ub|exact hR.expr|exact hR.unary|exact hR.bin2|exact hR.block|exact hR.branch|exact hR.kind|exact hR.pattern|exact yp hR.expr|exact yp hR.kind|exact yp hR.pattern|exact yN hR.expr|exact yN hR.kind|(refine ju ?_;first|(simp;done)|(simp[xy] at *;omega))|apply Kp.bind|intro _ _|refine Kp.ite ?_ ?_|exact Kp.pure trivial)
theorem zdh:∀(k:Nat) (acc:List Int),Kp (λx:List Int×Int=>x.1.length<=acc.length+k) n (qq R k acc)
 |0,_=>by
  refine⟨λE s a s' _ _ h=>?_⟩;cases h
 |k+1,acc=>by
  unfold qq;refine Kp.bind um (λb _=>Kp.ite (Kp.pure (by simp)) (Kp.bind (zlj hR) (λx _=>?_)));have hs:=zdh k (acc ++ [x.1]);rw[pE,pI,show acc.length+1+k=acc.length+(k+1) by omega] at hs;refine Kp.bind um (λb _=>Kp.ite (Kp.pure ?_) (Kp.bind yV (λ_ _=>hs)));simp only[pE,pI];omega
def zkv:Kp Any n (vP R):=by
 unfold vP;refine Kp.bind yV (λt _=>Kp.bind (Q:=λx:List Int×Int=>x.1.length<=n+1) ?_ (λx hx=>Kp.bind yV (λ_ _=>ju (by omega))));refine⟨λE s a s' hE hk h=>?_⟩;have:=(zdh hR (E.tz.length+1) []).q _ _ _ _ hE hk h;refine⟨this.1,?_⟩;have h2:=this.2;simp only[pM] at h2;omega
omit hR in
theorem zjU{tight:PM Int}(ht:Kp Any n tight)(lv:Nat):∀(k:Nat) (left:Int),Kp Any n (YE lv tight k left)
 |0,_=>by
  refine⟨λE s a s' _ _ h=>?_⟩;cases h
 |k+1,left=>by
  unfold YE;refine Kp.bind um (λb _=>Kp.ite (Kp.bind kV (λt _=>Kp.bind ht (λr _=>Kp.bind (ju (by simp only[pH,pM];omega)) (λx _=>Kp.ite (Kp.pure trivial) (zjU ht lv k x))))) (Kp.pure trivial))
omit hR in
def zaq(ht:Kp Any n tight)(lv:Nat):Kp Any n (Zp lv tight):=by
 unfold Zp;refine Kp.bind ht (λl _=>?_);refine⟨λE s a s' hE hk h=>?_⟩;exact (zjU ht lv _ l).q _ _ _ _ hE hk h
theorem zgJ:∀(k:Nat) (first:Bool) (acc:List Int),Kp (xy (acc.length+k)) n (qP R k first acc)
 |0,_,acc=>by
  unfold qP;exact Kp.pure (by simp[xy])
 |k+1,first,acc=>by
  unfold qP;refine Kp.bind (Q:=Any) (Kp.ite (Kp.pure trivial) (Kp.bind yV (λ_ _=>Kp.pure trivial))) (λ_ _=>Kp.bind hR.expr (λx _=>?_));have hs:=zgJ k false (acc ++ [x]);rw[pE,pI,show acc.length+1+k=acc.length+(k+1) by omega] at hs;exact hs
def zk5(t:yO)(w:Nat×Int)(hw:w.2<=3):Kp Any n (vn R t w):=by
 unfold vn;refine Kp.bind (Q:=xy 3) ?_ (λl hl=>ju (by simp only[xy] at hl;omega));refine Kp.ite (Kp.bind hR.unary (λx _=>Kp.pure (by simp[xy]))) (Kp.ite (Kp.bind yV (λ_ _=>Kp.bind (zgJ hR w.2.toNat true []) (λl hl=>Kp.bind yV (λ_ _=>Kp.pure ?_)))) (Kp.pure (by simp[xy])));simp only[xy,pM] at hl ⊢;omega
def zne:Kp Any n (KD R):=by
 unfold KD
 repeat' (first|exact yV|exact jw|exact jK|exact kU|exact um|exact kA|exact kV|exact ki|exact ub|exact hR.expr|exact hR.unary|exact hR.bin2|exact hR.block|exact hR.branch|exact hR.kind|exact hR.pattern|exact yp hR.expr|exact yp hR.kind|exact yp hR.pattern|exact yN hR.expr|exact yN hR.kind|(refine ju ?_;first|(simp;done)|(simp[xy] at *;omega))|apply Kp.bind|intro _ _|refine Kp.ite ?_ ?_|exact Kp.pure trivial)
def znK:Kp Any n (KF R):=by
 unfold KF
 repeat' (first|exact yV|exact jw|exact jK|exact kU|exact um|exact kA|exact kV|exact ki|exact ub|exact hR.expr|exact hR.unary|exact hR.bin2|exact hR.block|exact hR.branch|exact hR.kind|exact hR.pattern|exact yp hR.expr|exact yp hR.kind|exact yp hR.pattern|exact yN hR.expr|exact yN hR.kind|(refine ju ?_;first|(simp;done)|(simp[xy] at *;omega))|apply Kp.bind|intro _ _|refine Kp.ite ?_ ?_|exact Kp.pure trivial)
theorem zgz:∀(k:Nat) (acc:List Int),Kp (xy (acc.length+k)) n (uj R k acc)
 |0,_=>by
  refine⟨λE s a s' _ _ h=>?_⟩;cases h
 |k+1,acc=>by
  unfold uj;have hs:∀r:Int,Kp (xy (acc.length+(k+1))) n (uj R k (acc ++ [r])):=λr=>by
   have hs:=zgz k (acc ++ [r]);rw[pE,pI,show acc.length+1+k=acc.length+(k+1) by omega] at hs;exact hs
  have hp:∀r:Int,Kp (xy (acc.length+(k+1))) n (pure (acc ++ [r]):PM (List Int)):=λr=>Kp.pure (by simp only[xy,pE,pI];omega)
  repeat' (first|exact hs _|exact hp _|exact yV|exact jw|exact jK|exact kU|exact hR.expr|(refine ju ?_;first|(simp;done)|(simp[xy] at *;omega))|apply Kp.bind|intro _ _|refine Kp.ite ?_ ?_)
def zhY:Kp (xy (n+1)) n (kD R):=by
 unfold kD;refine Kp.bind yV (λt _=>Kp.bind (Q:=xy (n+1)) ?_ (λl hl=>Kp.bind yV (λ_ _=>Kp.pure hl)));refine⟨λE s a s' hE hk h=>?_⟩;have:=(zgz hR (E.tz.length+1) []).q _ _ _ _ hE hk h;refine⟨this.1,?_⟩;have h2:=this.2;simp only[xy,pM] at h2 ⊢;omega
def zbB:Kp Any n (jz R):=by
 unfold jz
 repeat' (first|exact yV|exact jw|exact jK|exact kU|exact um|exact kA|exact kV|exact ki|exact ub|exact hR.expr|exact hR.unary|exact hR.bin2|exact hR.block|exact hR.branch|exact hR.kind|exact hR.pattern|exact yp hR.expr|exact yp hR.kind|exact yp hR.pattern|exact yN hR.expr|exact yN hR.kind|(refine ju ?_;first|(simp;done)|(simp[xy] at *;omega))|apply Kp.bind|intro _ _|refine Kp.ite ?_ ?_|exact Kp.pure trivial)
def Qq(t:yO):Kp Any n (xL R t):=by
 unfold xL;refine Kp.bind um (λ_ _=>Kp.ite (zbB hR) ?_)
 repeat' (first|exact yV|exact jw|exact jK|exact hR.expr|exact hR.block|exact hR.kind|exact XA (znK hR)|exact XA (zne hR)|exact zhj hR|exact zhY hR|(refine ju ?_;first|(simp;done)|(simp[xy] at *;omega))|apply Kp.bind|intro _ _|refine Kp.ite ?_ ?_)
omit hR in
def zhG{w:Nat×Int}(h:xB s=some w):w.2<=3:=by
 unfold xB at h;cases hf:zN.find? (λw=>w.1 == s) with
 |none=>rw[hf] at h;cases h
 |some x=>
  rw[hf] at h;cases h;have:=List.mem_of_find?_eq_some hf;revert x;intro x _ hx;have:∀y∈zN,y.2.2<=3:=by decide
  exact this x hx
def zl7:Kp Any n (Zi R):=by
 unfold Zi;refine Kp.bind kU (λt _=>?_)
 repeat' (first|exact yV|exact jK|exact kA|exact hR.expr|exact yp hR.expr|exact Qq hR _|exact Kp.pure trivial|(refine ju ?_;first|(simp;done)|(simp[xy] at *;omega))|apply Kp.bind|intro _ _|refine Kp.ite ?_ ?_)
 split
 ·rename_i w hw;refine Kp.ite (Kp.bind kA (λ_ _=>zk5 hR t w (zhG hw))) (Qq hR t)
 ·exact Qq hR t
theorem zgU:∀(k:Nat) (left:Int),Kp Any n (Zf R k left)
 |0,_=>by
  refine⟨λE s a s' _ _ h=>?_⟩;cases h
 |k+1,left=>by
  unfold Zf;have hs:∀r:Int,Kp Any n (Zf R k r):=λr=>zgU k r
  repeat' (first|exact hs _|exact yV|exact jw|exact jK|exact kU|exact yN hR.expr|exact Kp.pure trivial|(refine ju ?_;first|(simp;done)|(simp[xy] at *;omega))|apply Kp.bind|intro _ _|refine Kp.ite ?_ ?_)
def zc7:Kp Any n (vO R):=by
 unfold vO;refine Kp.bind um (λ_ _=>Kp.ite ?_ ?_)
 ·repeat' (first|exact yV|exact jw|exact jK|exact kU|exact um|exact kA|exact kV|exact ki|exact ub|exact hR.expr|exact hR.unary|exact hR.bin2|exact hR.block|exact hR.branch|exact hR.kind|exact hR.pattern|exact yp hR.expr|exact yp hR.kind|exact yp hR.pattern|exact yN hR.expr|exact yN hR.kind|(refine ju ?_;first|(simp;done)|(simp[xy] at *;omega))|apply Kp.bind|intro _ _|refine Kp.ite ?_ ?_|exact Kp.pure trivial)
 ·refine Kp.bind (zl7 hR) (λl _=>?_);refine⟨λE s a s' hE hk h=>?_⟩;exact (zgU hR _ l).q _ _ _ _ hE hk h
def zei:Kp Any n (Zy R):=by
 unfold Zy;refine Kp.bind um (λ_ _=>Kp.ite ?_ ?_)
 ·repeat' (first|exact yV|exact jw|exact jK|exact kU|exact um|exact kA|exact kV|exact ki|exact ub|exact hR.expr|exact hR.unary|exact hR.bin2|exact hR.block|exact hR.branch|exact hR.kind|exact hR.pattern|exact yp hR.expr|exact yp hR.kind|exact yp hR.pattern|exact yN hR.expr|exact yN hR.kind|(refine ju ?_;first|(simp;done)|(simp[xy] at *;omega))|apply Kp.bind|intro _ _|refine Kp.ite ?_ ?_|exact Kp.pure trivial)
 ·exact zaq (zaq (zaq (zc7 hR) 4) 3) 2
def zlW:Kp Any n (zeh R):=zaq (zaq (zei hR) 1) 0
def zfI:Kp Any n (jo R):=by
 unfold jo
 repeat' (first|exact yV|exact jw|exact jK|exact kU|exact um|exact kA|exact kV|exact ki|exact ub|exact hR.expr|exact hR.unary|exact hR.bin2|exact hR.block|exact hR.branch|exact hR.kind|exact hR.pattern|exact yp hR.expr|exact yp hR.kind|exact yp hR.pattern|exact yN hR.expr|exact yN hR.kind|(refine ju ?_;first|(simp;done)|(simp[xy] at *;omega))|apply Kp.bind|intro _ _|refine Kp.ite ?_ ?_|exact Kp.pure trivial)
omit hR in
theorem YN:∀k:Nat,zoH n (Yi k)
 |0=>⟨⟨λ_ _ _ _ _ _ h=>by (cases h)⟩,⟨λ_ _ _ _ _ _ h=>by (cases h)⟩,⟨λ_ _ _ _ _ _ h=>by (cases h)⟩,⟨λ_ _ _ _ _ _ h=>by (cases h)⟩,⟨λ_ _ _ _ _ _ h=>by (cases h)⟩,⟨λ_ _ _ _ _ _ h=>by (cases h)⟩,⟨λ_ _ _ _ _ _ h=>by (cases h)⟩⟩
 |k+1=>⟨zlW (YN k),zc7 (YN k),zei (YN k),zkv (YN k),zbB (YN k),zlI (YN k),zfI (YN k)⟩
def zlO:Kp Any n (Zg R):=by
 unfold Zg
 repeat' (first|exact yV|exact jw|exact jK|exact kU|exact hR.expr|exact hR.block|exact hR.kind|exact XA (zdO hR)|exact XA (zlL hR)|exact zhj hR|(refine ju ?_;first|(simp;done)|(simp[xy] at *;omega))|apply Kp.bind|intro _ _|refine Kp.ite ?_ ?_)
end
def QW(hR:yW R):Gd 1 Vd (Zg R):=by
 intro E s a s' h0 hw h;have N:=Nx.refl h0 hw;unfold Zg at h;obtain⟨t,s0,h1,h⟩:=zo h;cases h1;obtain⟨a1,MA,sB,h⟩:=zo h;have fB:=Ym N.le N.wf sB;replace N:=N.trans fB;cases a1 with
 |true=>
  rw[if_pos rfl] at h;obtain⟨m,sm,hm,h⟩:=zo h;obtain⟨nm,vm⟩:=(yB (by decide)) N.le N.wf hm;replace N:=N.trans nm;obtain⟨l,sl,hl,h⟩:=zo h;obtain⟨nl,vl⟩:=(kP (vj hR)) N.le N.wf hl;replace N:=N.trans nl;obtain⟨nz,vz⟩:=zQ N.le N.wf (vl) h;exact⟨(N.trans nz).down (by decide),vz⟩
 |false=>
 rw[if_neg (by decide)] at h;obtain⟨a2,Rl,tf,h⟩:=zo h;have Mq:=Ym N.le N.wf tf;replace N:=N.trans Mq;cases a2 with
 |true=>
  rw[if_pos rfl] at h;obtain⟨m,sm,hm,h⟩:=zo h;obtain⟨nm,vm⟩:=(yB (by decide)) N.le N.wf hm;replace N:=N.trans nm;obtain⟨l,sl,hl,h⟩:=zo h;obtain⟨nl,vl⟩:=(kP (QU hR)) N.le N.wf hl;replace N:=N.trans nl;obtain⟨nz,vz⟩:=zQ N.le N.wf (vl) h;exact⟨(N.trans nz).down (by decide),vz⟩
 |false=>
 rw[if_neg (by decide)] at h;obtain⟨a3,Aq,tg,h⟩:=zo h;have By:=Ym N.le N.wf tg;replace N:=N.trans By;cases a3 with
 |true=>
  rw[if_pos rfl] at h;obtain⟨q,sq,hq,h⟩:=zo h;obtain⟨nq,vq⟩:=zq N.le N.wf hq;replace N:=N.trans nq;obtain⟨m,sm,hm,h⟩:=zo h;obtain⟨nm,vm⟩:=(yB (by decide)) N.le N.wf hm;replace N:=N.trans nm;obtain⟨l,sl,hl,h⟩:=zo h;obtain⟨nl,vl⟩:=(ua hR) N.le N.wf hl;replace N:=N.trans nl;obtain⟨r,sr,hr,h⟩:=zo h;obtain⟨nr,vr⟩:=zq N.le N.wf hr;replace N:=N.trans nr;replace vl:=vl.later nr;obtain⟨nz,vz⟩:=zQ N.le N.wf (vl) h;exact⟨(N.trans nz).down (by decide),vz⟩
 |false=>
 rw[if_neg (by decide)] at h;obtain⟨a4,Ar,fL,h⟩:=zo h;have Bz:=Ym N.le N.wf fL;replace N:=N.trans Bz;cases a4 with
 |true=>
  rw[if_pos rfl] at h;obtain⟨m,sm,hm,h⟩:=zo h;obtain⟨nm,vm⟩:=(yB (by decide)) N.le N.wf hm;replace N:=N.trans nm;obtain⟨q,sq,hq,h⟩:=zo h;obtain⟨nq,vq⟩:=zq N.le N.wf hq;replace N:=N.trans nq;obtain⟨k,sk,hk,h⟩:=zo h;obtain⟨nk,vk⟩:=hR.kind N.le N.wf hk;replace N:=N.trans nk;obtain⟨r,sr,hr,h⟩:=zo h;obtain⟨nr,vr⟩:=zq N.le N.wf hr;replace N:=N.trans nr;replace vk:=vk.later nr;obtain⟨x,sx,hx,h⟩:=zo h;obtain⟨nx,vx⟩:=hR.expr N.le N.wf hx;replace N:=N.trans nx;replace vk:=vk.later nx;obtain⟨y,sy,hy,h⟩:=zo h;obtain⟨ny,vy⟩:=zq N.le N.wf hy;replace N:=N.trans ny;replace vk:=vk.later ny;replace vx:=vx.later ny;obtain⟨nz,vz⟩:=zQ N.le N.wf (KH vk (XE vx)) h;exact⟨(N.trans nz).down (by decide),vz⟩
 |false=>
 rw[if_neg (by decide)] at h;obtain⟨b,sb,hb,h⟩:=zo h;obtain⟨nb,_⟩:=zlD N.le N.wf hb;replace N:=N.trans nb;obtain⟨q,sq,hq,h⟩:=zo h;obtain⟨nq,vq⟩:=zq N.le N.wf hq;replace N:=N.trans nq;obtain⟨m,sm,hm,h⟩:=zo h;obtain⟨nm,vm⟩:=(yB (by decide)) N.le N.wf hm;replace N:=N.trans nm;obtain⟨l,sl,hl,h⟩:=zo h;obtain⟨nl,vl⟩:=(ua hR) N.le N.wf hl;replace N:=N.trans nl;obtain⟨c,sc,hc,h⟩:=zo h;obtain⟨nc,vc⟩:=hR.block N.le N.wf hc;replace N:=N.trans nc;replace vl:=vl.later nc;obtain⟨nz,vz⟩:=zQ N.le N.wf (vda vl vc) h;exact⟨(N.trans nz).down (by decide),vz⟩
structure zmI(n:Nat)(s:yx):Prop where
 kz:Kb (n+8) s
 wf:WFs s
 its:JO s s.iz
 nz:s.nz.length<=n
 len:s.iz.length<=n
theorem Kh{m n:Nat}:∀(k:Nat) (E:zr) (s s':yx),E.tz.length=n->s.next<=n->WFs s->Kb (n+8) s->JO s s.iz->s.nz.length<=s.next->s.iz.length<=s.next->vo (Yi m) k E s=.ok () s'->zmI n s'
 |0,_,_,_,_,_,_,_,_,_,_,h=>by cases h
 |k+1,E,s,s',hE,h0,hw,hk,hi,hn,hl,h=>by
  unfold vo at h;split at h
  ·rename_i mD;cases hm:Zg (Yi m) E s with
   |bad p=>rw[hm] at h;cases h
   |ok i s1=>
    rw[hm] at h;dsimp only at h;obtain⟨N,v⟩:=QW (jm m) (Nat.le_of_lt mD) hw hm;have nO:=((zlO (YN (n:=n) m)).q _ _ _ _ hE hk hm).1;have WB:=N.cr;have pk:=N.le;have hnx:=N.next;have cu:=N.it;obtain⟨q,hq⟩:=N.pre;have db:s.nz.length<=s1.nz.length:=by rw[hq,pE];omega
    refine Kh k E {s1 with iz:=s1.iz ++ [i]} s' hE (by dsimp only;omega) N.wf nO ?_ (by dsimp only;omega) ?_ h
    ·intro x hx;dsimp only at hx;rw[cu] at hx;rcases pW.1 hx with hx|hx
     ·exact show Vd s1 x from (hi x hx).later N
     ·rw[wD] at hx;rw[hx];exact v
    ·dsimp only;rw[cu,pE,pI];omega
  ·cases h;exact⟨hk,hw,hi,by omega,by omega⟩
def Yk{l:List yO}{len:Nat}{s:yx}(h:qh l len=.ok () s):zmI l.length s:=
 Kh (n:=l.length) _ ⟨l,len⟩ _ _ rfl (pU _) (λi x hx=>by simp at hx) (λx hx=>by cases hx) (λx hx=>by cases hx) (pC _) (pC _) h
def zjc(h:xR s=some (k,t,m))(hk:k=3):kj t=true:=by
 unfold xR at h;split at h
 ·cases h
 ·rename_i c r;dsimp only at h;split at h
  ·split at h
   ·injection h with h;injection h with h _;split at h <;> omega
   ·cases h
  ·split at h
   ·split at h
    ·injection h with h;injection h with h _;omega
    ·cases h
   ·split at h
    ·split at h
     ·rename_i hn;injection h with h;injection h with _ h;injection h with h _;rw[<-h];exact hn
     ·cases h
    ·split at h
     ·cases hq:jZ (c :: r) with
      |none=>rw[hq] at h;cases h
      |some x=>
       rw[hq] at h;injection h with h;injection h with h _;omega
     ·cases hq:yd.find? (λg=>jy g (c :: r)) with
      |none=>rw[hq] at h;cases h
      |some x=>
       rw[hq] at h;injection h with h;injection h with h _;omega
theorem zdr:∀(f n at_:Nat) (r:List UInt8),n<=1200->(∀t∈(YD f n at_ r).1,t.kind=3->kj t.text=true)/\n+(YD f n at_ r).1.length<=1200
 |0,_,_,_,hn=>by
  unfold YD;exact⟨λt ht=>by (cases ht),hn⟩
 |f+1,n,at_,r,hn=>by
  unfold YD;dsimp only;split
  ·exact⟨λt ht=>by (cases ht),hn⟩
  ·split
   ·exact⟨λt ht=>by (cases ht),hn⟩
   ·rename_i k t m h1;split
    ·exact⟨λt ht=>by (cases ht),hn⟩
    ·rename_i mu;split
     ·have ih:=zdr f (n+1) (at_+yb false r+m) (r.drop (yb false r) |>.drop m) (by omega);refine⟨λx hx hk=>?_,?_⟩
      ·rcases wI.1 hx with rfl|hx
       ·exact zjc h1 hk
       ·exact ih.1 x hx hk
      ·have:=ih.2;simp only[pH];omega
     ·exact⟨λt ht=>by (cases ht),hn⟩
def YP(s:List UInt8):(∀t∈(vB s).1,t.kind=3->kj t.text=true)/\(vB s).1.length<=1200:=by
 unfold vB;split
 ·exact⟨λt ht=>by (cases ht),pU _⟩
 ·have:=zdr (s.length+1) 0 0 s (by omega);rw[Nat.zero_add] at this;exact this
end Lode
namespace Go.Proofs.YtcagibbaeageoaaGreatDoor
section
open Go.RowKit Lode Go.Shelf
open Go.Proofs.Tryz
def zg0{l:List UInt8}(h:kj l=true):l.length<=10:=by
 simp only[kj,pJ,Bool.not_eq_true',pK,wG] at h;obtain⟨⟨⟨h1,h2⟩,h3⟩,h4⟩:=h;cases l with
 |nil=>simp
 |cons c l=>
  rcases h4 with h4|h4
  ·omega
  ·simp only[List.head?_cons] at h4;have hc:c≠48:=λe=>by subst e;simp at h4
   simp only[List.all_cons,pJ] at h2;have hd:=(jr c).1 h2.1;have h49:49<=c.toNat:=by
    rcases Nat.lt_or_ge c.toNat 49 with h|h
    ·exfalso;apply hc;apply UInt8.toNat_inj.1;have:(48:UInt8).toNat=48:=rfl;omega
    ·exact h
   have:=zeL c l h49;rw[uO] at h3;have hp:10 ^ l.length<=10 ^ 9:=by omega
   have:=(Nat.pow_le_pow_iff_right (by omega:1<10)).1 hp;simp;omega
end
end Go.Proofs.YtcagibbaeageoaaGreatDoor
namespace Lode
def k1:List UInt8:=[114,111,111,116,32,97,58,32,105,110,116,32,61,32,49,32,43,32,98,32,42,32,50,59]
def k2:List UInt8:=[102,117,110,32,102,40,41,58,117,110,105,116,123,40,103,41,40,40,49,41,41,59,125]
def k3:List UInt8:=[102,117,110,32,102,32,40,32,41,32,58,32,117,110,105,116,32,123,32,40,103,41,40,40,49,41,41,59,32,59,32,125]
def k4:List UInt8:=[114,111,111,116,32,99,58,32,99,104,97,110,32,105,110,116,32,61,32,99,104,97,110,32,105,110,116,40,57,41,59]
def k5:List UInt8:=[102,117,110,32,102,40,41,58,32,117,110,105,116,32,123,32,97,40,41,32,58,61,32,49,59,32,125]
def k6:List UInt8:=[102,117,110,32,102,40,41,58,32,117,110,105,116,32,123,32,40,84,41,40,49,41,59,32,45,32,45,97,59,32,40,116,104,114,111,119,32,97,41,46,102,59,32,40,110,111,116,32,97,41,32,61,61,32,98,32,125]
def k2o:List UInt8:=[102,117,110,32,102,40,41,58,32,117,110,105,116,32,123,32,103,40,49,41,59,32,125] ++ [10]
def k6o:List UInt8:=[102,117,110,32,102,40,41,58,32,117,110,105,116,32,123,32,40,84,41,40,49,41,59,32,45,32,45,97,59,32,40,116,104,114,111,119,32,97,41,46,102,59,32,40,110,111,116,32,97,41,32,61,61,32,98,32,125] ++ [10]
def kn1:(yQ k1).2=(0,0):=by decide +kernel
def zo6:(yQ k1).1.nz.length=7:=by decide +kernel
def zo4:ze1 (yQ k1).1 5=(5,0):=by decide +kernel
def zo3:zck (yQ k1).1 4=(5,0):=by decide +kernel
def zo5:zjP (yQ k1).1 3=([6,5,4,3],0):=by decide +kernel
def zo8:zcL (yQ k1).1 20=(4,0):=by decide +kernel
def kn2:Zw k2=(k2o,0,0):=by decide +kernel
def kn3:(Zw k3).2=(29,4):=by decide +kernel
def kn4:(yQ k4).2=(19,3):=by decide +kernel
def kn5:(yQ k5).2=(20,4):=by decide +kernel
def kn6:(yQ k6).2.2=0:=by decide +kernel
def zoZ:Qi (yQ k6).1=(k6o,0):=by decide +kernel
def okB(t:yJ):Bool:=(t.nz.all λx=>decide (x.kind<=255) && decide (x.text.length<=100) && decide (x.kz.length<=1000)) && decide (t.nz.length<=1000) && decide (t.iz.length<=1000)
def zo7:okB (yQ k1).1=true:=by decide +kernel
def zo2:okB (yQ k2).1=true:=by decide +kernel
def zo1:okB (yQ k3).1=true:=by decide +kernel
def zo0:okB (yQ k6).1=true:=by decide +kernel
