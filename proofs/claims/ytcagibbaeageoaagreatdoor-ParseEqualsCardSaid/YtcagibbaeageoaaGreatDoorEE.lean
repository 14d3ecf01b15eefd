/-
  A part of the proof: contracts of functions; no conditions.
-/
import Derived.Test.YtcagibbaeageoaaGreatDoorED
set_option maxRecDepth 100000
set_option maxHeartbeats 40000000
set_option linter.unusedSimpArgs false
set_option linter.unusedVariables false
namespace Lode
theorem jf{l:List Nd}(h:xF l l.length){i:Nat}(hi:i<l.length):∀k∈(l[i]'hi).kids,0<=k/\k<i:=by
 obtain⟨p,hp,_,_⟩:=qN h hi;rw[glE hi] at hp;intro k hk;have:=Jk _ _ _ hp k (gI.2 hk);omega
theorem Ku{l:List Nd}{f:Nat}:∀(ks:List Int) (c:Int),(∀k∈ks,QD l f k=((qI l l.length).getD k.toNat 0:Nat))->ks.foldl (fun n k=>n+QD l f k) c=c+(ks.map fun k=>(((qI l l.length).getD k.toNat 0:Nat):Int)).sum
 |[],c,_=>by simp
 |k :: r,c,h=>by
  rw[List.foldl_cons,Ku r _ (fun j hj=>h j (pY _ hj)),h k (List.mem_cons_self ..),List.map_cons,List.sum_cons,Int.add_assoc]
theorem zam{out:List Nat}:∀(rk:List Int) (p e:Int),Xi out rk p=some e->(rk.map fun k=>((out.getD k.toNat 0:Nat):Int)).sum=p-e
 |[],p,e,h=>by cases h;simp
 |k :: r,p,e,h=>by
  unfold Xi at h;split at h
  ·cases h
  ·rename_i hc;have hk:k=p:=by omega
   have:=zam r _ e h;rw[List.map_cons,List.sum_cons,this,hk];omega
theorem Jl{l:List Nd}(h:xF l l.length):∀(i f:Nat),i<l.length->i<f->QD l f i=((qI l l.length).getD i 0:Nat)
 |i,0,_,hf=>absurd hf (wI _)
 |i,f+1,hi,hf=>by
  obtain⟨p,hp,hsz,hpi⟩:=qN h hi;have hkid:=jf h hi;have hx:l[i]? =some l[i]:=glE hi;rw[hx] at hp;simp only[Option.elim] at hp;unfold QD;rw[wG,hx];simp only[Option.elim];rw[Ku _ _ (fun k hk=>?_)]
  ·have hs:=zam _ _ _ hp;rw[List.map_reverse,List.sum_reverse] at hs;rw[hs,hsz];omega
  ·obtain⟨h0,h1⟩:=hkid k hk;obtain⟨k',rfl⟩:=pO h0;rw[wG];exact Jl h k' f (by omega) (by omega)
termination_by i=>i
theorem YV{t:zQ}(h:yp t=0):xF t.nodes t.nodes.length:=by
 unfold yp at h;split at h
 ·cases h
 ·split at h
  ·cases h
  ·rename_i hf;exact (vO (by simpa using hf)).1
section
variable (l:List Nd) (pr:Int→List UInt8)
def zlT(x:Nd)(i:Nat):Bool:=
 if !yC (zE l (zG x i)) then false
 else if x.kind == 23 || (x.kind == 24 && i == 0) then decide (yR (zE l (zG x i))<8) || (x.kind == 24 && zE l (zG x i) == 25 && ((l[(zG x i).toNat]?).elim [] Nd.kids).isEmpty)
 else if x.kind == 24 then false
 else if x.kind == 7 then decide (yR (zE l (zG x i))<3)
 else if yR x.kind == 7 then decide (yR (zE l (zG x i))<7)
 else if yR x.kind == 4 then decide (yR (zE l (zG x i))<5)
 else if yR x.kind == 1 || yR x.kind == 2 || yR x.kind == 5 || yR x.kind == 6 then decide (yR (zE l (zG x i))<yR x.kind+i)
 else false
def ziK(x:Nd)(i:Nat):List UInt8:=if zlT l x i then [40] ++ pr (zG x i) ++ [41] else pr (zG x i)
end
section
variable {l:List Nd} {pr:Int→List UInt8} {x:Nd} {i:Nat}
theorem xB(h:ye l x=true):qm x.kind=true/\(kj x.kind).1<=x.kids.length/\x.kids.length<=(kj x.kind).2/\zu x.kind x.n x.kids.length=true/\qT x=true/\∀i,i<x.kids.length->yN x.kind x.n x.kids.length i (zE l (zG x i))=true:=by
 unfold ye at h;simp only[pJ,pK,pV,List.mem_range] at h;obtain⟨⟨⟨⟨⟨⟨⟨h1,h2⟩,h3⟩,h4⟩,h5⟩,h6⟩,h7⟩,h8⟩:=h;exact⟨h1,h2,h3,h4,h7,h8⟩
end
def qr(pr:Int->List UInt8):List Int->Nat
 |[]=>0
 |k :: r=>(pr k).length+8+qr pr r
theorem Kl(pr:Int->List UInt8):∀a b:List Int,qr pr (a ++ b)=qr pr a+qr pr b
 |[],_=>by simp[qr]
 |k :: r,b=>by
  show (pr k).length+8+qr pr (r ++ b)=(pr k).length+8+qr pr r+qr pr b
  rw[Kl pr r b];omega
theorem yX(l:List Nd)(pr:Int->List UInt8)(k:Int)(r:Nat):(xD l pr k r).length<=(pr k).length+2:=by
 unfold xD;split
 ·simp only[pM,pQ,wD];omega
 ·omega
theorem VX(pr:Int->List UInt8):∀ks:List Int,(kH (ks.map pr)).length<=qr pr ks
 |[]=>by simp[kH,qr]
 |[k]=>by
  simp only[List.map_cons,List.map_nil,kH,qr];omega
 |k :: j :: r=>by
  have ih:=VX pr (j :: r);rw[List.map_cons] at ih ⊢;rw[List.map_cons];unfold kH qr;simp only[pM,pQ,wD] at ih ⊢;omega
theorem jU(pr:Int->List UInt8)(ks:List Int):(qA pr ks).length<=qr pr ks:=VX pr ks
theorem zdo(pr:Int->List UInt8)(ks:List Int):(vG pr ks).length<=qr pr ks+2:=by
 unfold vG;have:=jU pr ks;split
 ·simp
 ·simp only[pM,pQ,wD];omega
theorem JV(pr:Int->List UInt8)(last:Bool):∀ks:List Int,(xY pr last ks).length<=qr pr ks
 |[]=>by simp[xY,qr]
 |[k]=>by
  unfold xY qr qr;cases last <;> simp
 |k :: j :: r=>by
  have ih:=JV pr last (j :: r);unfold xY qr;simp only[pM,pQ,wD] at ih ⊢;omega
theorem Zp:∀(d u:Nat),u<10 ^ (d+1)->(Go.Lib.decDigits u).length<=d+1
 |0,u,h=>by
  rw[Go.Lib.decDigits];split
  ·simp
  ·rename_i h2;simp at h;omega
 |d+1,u,h=>by
  rw[Go.Lib.decDigits];split
  ·simp
  ·have:=Zp d (u / 10) (by
    rw[Nat.div_lt_iff_lt_mul (by decide)];rw[Nat.pow_succ] at h;exact h)
   rw[pM,pN];omega
theorem zaW{n:Int}(h1: -1000000000<=n)(h2:n<=1000000000):(Go.Lib.itoa n).length<=11:=by
 unfold Go.Lib.itoa;split
 ·have:=Zp 9 n.natAbs (by omega);simp only[pQ];omega
 ·have:=Zp 9 n.toNat (by omega);omega
theorem kR{x:Nd}(h:qT x=true)(h4:xU x.kind≠4):x.text.length<=3000:=by
 unfold qT at h;split at h
 ·have:x.text=[]:=by simpa using h
  rw[this];simp
 ·unfold xR at h;rw[if_neg h4] at h;split at h
  ·rename_i hr;rcases Nat.lt_or_ge 3000 x.text.length with hl|hl
   ·exfalso;have h1:=hr.1;unfold vw qd at h1;rw[if_pos hl] at h1;simp at h1
   ·exact hl
  ·simp at h
theorem zje:∀l:List UInt8,(l.flatMap yS).length<=2*l.length
 |[]=>by simp
 |c :: r=>by
  have:=zje r;rw[List.flatMap_cons,pM,pQ];have:(yS c).length<=2:=by
   unfold yS;split
   ·simp
   ·split <;> simp
  omega
theorem zgL(t:List UInt8):(xX t).1.length<=122:=by
 unfold xX;split
 ·simp
 ·split
  ·have:=zje t;simp only[pM,pQ,wD];omega
  ·simp
section
variable {l:List Nd} {pr:Int→List UInt8} {x:Nd}
theorem zha(hr:ye l x=true)(hk:x.kind∈[1,2,3,4,5,44,45,46,80,81,82,83,84,66,67,68,69]):(zF l pr x).length<=qr pr x.kids+3100:=by
 obtain⟨k,t,n,ks,a⟩:=x;simp only[wF,wN,or_false] at hk;obtain⟨_,h1,h2,hn,ht,hs⟩:=xB hr;clear hr hs h1 h2;have hq:=zgL t;have ht:xU k≠4->t.length<=3000:=fun h=>kR ht h
 rcases hk with rfl|rfl|rfl|rfl|rfl|rfl|rfl|rfl|rfl|rfl|rfl|rfl|rfl|rfl|rfl|rfl|rfl
 all_goals simp[zu] at hn
 all_goals simp[xU] at ht
 all_goals simp[zF,yO,ya,yv]
 all_goals first
  |omega
  |(have:=zaW (n:=n) (by omega) (by omega);omega)
  |(split <;> (try simp) <;> omega)
theorem ziG(hr:ye l x=true)(hk:x.kind∈[6,7,23,27,37,38,39,40,42,43,47,50,51,60,61,65,86,87,88]):(zF l pr x).length<=qr pr x.kids+3100:=by
 obtain⟨k,t,n,ks,a⟩:=x;simp only[wF,wN,or_false] at hk;obtain⟨_,h1,h2,hn,ht,hs⟩:=xB hr;clear hr hs;have hl:ks.length=1:=by
  rcases hk with rfl|rfl|rfl|rfl|rfl|rfl|rfl|rfl|rfl|rfl|rfl|rfl|rfl|rfl|rfl|rfl|rfl|rfl|rfl
  all_goals (simp[kj] at h1 h2;omega)
 clear h1 h2;obtain⟨c,rfl⟩:∃c,ks=[c]:=by
  match ks,hl with
  |[c],_=>exact⟨c,rfl⟩
 have ht:t.length<=3000:=kR ht (by dsimp only;rcases hk with rfl|rfl|rfl|rfl|rfl|rfl|rfl|rfl|rfl|rfl|rfl|rfl|rfl|rfl|rfl|rfl|rfl|rfl|rfl <;> decide);have q3:=yX l pr c 3;have q7:=yX l pr c 7;have q8:=yX l pr c 8;have qa:=jU pr [c];simp only[qr] at qa ⊢;rcases hk with rfl|rfl|rfl|rfl|rfl|rfl|rfl|rfl|rfl|rfl|rfl|rfl|rfl|rfl|rfl|rfl|rfl|rfl|rfl
 all_goals simp[zu] at hn
 all_goals simp[zF,yO,ya,zG,yv,xQ,zJ]
 all_goals first
  |omega
  |(have:=zaW (n:=n) (by omega) (by omega);omega)
  |(split <;> (try simp) <;> omega)
theorem ziF(hr:ye l x=true)(hk:x.kind∈[8,9,10,11,12,13,14,15,16,17,18,19,20,21,22,30,32,34,41,48,62,63,104]):(zF l pr x).length<=qr pr x.kids+3100:=by
 obtain⟨k,t,n,ks,a⟩:=x;simp only[wF,wN,or_false] at hk;obtain⟨_,h1,h2,hn,ht,hs⟩:=xB hr;clear hr hs hn;have hl:ks.length=2:=by
  rcases hk with rfl|rfl|rfl|rfl|rfl|rfl|rfl|rfl|rfl|rfl|rfl|rfl|rfl|rfl|rfl|rfl|rfl|rfl|rfl|rfl|rfl|rfl|rfl
  all_goals (simp[kj] at h1 h2;omega)
 clear h1 h2;obtain⟨c,d,rfl⟩:∃c d,ks=[c,d]:=by
  match ks,hl with
  |[c,d],_=>exact⟨c,d,rfl⟩
 have ht:t.length<=3000:=kR ht (by dsimp only;rcases hk with rfl|rfl|rfl|rfl|rfl|rfl|rfl|rfl|rfl|rfl|rfl|rfl|rfl|rfl|rfl|rfl|rfl|rfl|rfl|rfl|rfl|rfl|rfl <;> decide);have q1:=yX l pr c 1;have q2:=yX l pr c 2;have q5:=yX l pr c 5;have q6:=yX l pr c 6;have p2:=yX l pr d 2;have p3:=yX l pr d 3;have p5:=yX l pr d 5;have p6:=yX l pr d 6;have p7:=yX l pr d 7;have qa:=jU pr [c,d];simp only[qr] at qa ⊢;rcases hk with rfl|rfl|rfl|rfl|rfl|rfl|rfl|rfl|rfl|rfl|rfl|rfl|rfl|rfl|rfl|rfl|rfl|rfl|rfl|rfl|rfl|rfl|rfl
 all_goals simp[zF,yO,yR,ya,zG,yv,xQ,zJ]
 all_goals omega
theorem zfL(hr:ye l x=true)(hk:x.kind∈[49,64,36]):(zF l pr x).length<=qr pr x.kids+3100:=by
 obtain⟨k,t,n,ks,a⟩:=x;simp only[wF,wN,or_false] at hk;obtain⟨_,h1,h2,hn,ht,hs⟩:=xB hr;clear hr hs hn;have hl:ks.length=3:=by
  rcases hk with rfl|rfl|rfl
  all_goals (simp[kj] at h1 h2;omega)
 clear h1 h2;obtain⟨c,d,e,rfl⟩:∃c d e,ks=[c,d,e]:=by
  match ks,hl with
  |[c,d,e],_=>exact⟨c,d,e,rfl⟩
 have ht:t.length<=3000:=kR ht (by dsimp only;rcases hk with rfl|rfl|rfl <;> decide);have qa:=jU pr [c,d,e];have qb:=jU pr [c,d];simp only[qr] at qa qb ⊢;rcases hk with rfl|rfl|rfl
 all_goals simp[zF,yO,yR,ya,zG,yv,xQ,zJ]
 all_goals omega
theorem zkb(hr:ye l x=true)(hk:x.kind=29):(zF l pr x).length<=qr pr x.kids+3100:=by
 obtain⟨k,t,n,ks,a⟩:=x;simp only at hk;subst hk;obtain⟨_,h1,h2,hn,ht,hs⟩:=xB hr;clear hr hs hn ht;simp[kj] at h1 h2
 match ks,h1,h2 with
 |[c,d],_,_=>
  simp only[qr];simp[zF,yO,yR,ya,zG,yv,xQ,zJ];omega
 |[c,d,e],_,_=>
  simp only[qr];simp[zF,yO,yR,ya,zG,yv,xQ,zJ];omega
theorem zg9(hr:ye l x=true)(hk:x.kind∈[26,35,100,101,25,70,89,28]):(zF l pr x).length<=qr pr x.kids+3100:=by
 obtain⟨k,t,n,ks,a⟩:=x;simp only[wF,wN,or_false] at hk;obtain⟨_,h1,h2,hn,ht,hs⟩:=xB hr;clear hr hs hn h1 h2;have ht:t.length<=3000:=kR ht (by dsimp only;rcases hk with rfl|rfl|rfl|rfl|rfl|rfl|rfl|rfl <;> decide);have qa:=jU pr ks;have qp:=zdo pr ks;have qs:=JV pr (n != 0) ks;simp only;rcases hk with rfl|rfl|rfl|rfl|rfl|rfl|rfl|rfl
 all_goals simp[zF,yO,yR,ya,zG,yv,xQ,zJ,ZZ]
 all_goals first
  |omega
  |(split <;> (try simp) <;> omega)
theorem zg8(hr:ye l x=true)(hk:x.kind∈[24,31]):(zF l pr x).length<=qr pr x.kids+3100:=by
 obtain⟨k,t,n,ks,a⟩:=x;simp only[wF,wN,or_false] at hk;obtain⟨_,h1,h2,hn,ht,hs⟩:=xB hr;clear hr hs hn ht;have hl:1<=ks.length:=by
  rcases hk with rfl|rfl
  ·exact h1
  ·exact pR (show 1<=2 by decide) h1
 clear h1 h2;obtain⟨c,r,rfl⟩:∃c r,ks=c :: r:=by
  match ks,hl with
  |c :: r,_=>exact⟨c,r,rfl⟩
 have q8:=yX l pr c 8;have qa:=jU pr r;simp only[qr];rcases hk with rfl|rfl
 all_goals simp[zF,yO,yR,ya,zG,yv,xQ,zJ]
 all_goals first
  |omega
  |(split <;> (try simp) <;> omega)
theorem zhb(hr:ye l x=true)(hk:x.kind∈[85,103]):(zF l pr x).length<=qr pr x.kids+3100:=by
 obtain⟨k,t,n,ks,a⟩:=x;simp only[wF,wN,or_false] at hk;obtain⟨_,h1,h2,hn,ht,hs⟩:=xB hr;clear hr hs hn;have hl:1<=ks.length:=by
  rcases hk with rfl|rfl
  ·exact h1
  ·exact h1
 clear h1 h2;obtain⟨r,c,rfl⟩:∃r c,ks=r ++ [c]:=⟨ks.dropLast,ks.getLast (by intro e;rw[e] at hl;simp at hl),(List.dropLast_concat_getLast _).symm⟩;have ht:t.length<=3000:=kR ht (by dsimp only;rcases hk with rfl|rfl <;> decide);have qa:=jU pr r;rw[Kl];simp only[qr];rcases hk with rfl|rfl
 all_goals simp[zF,yO,yR,ya,zG,yv,xQ,zJ,yV]
 all_goals omega
theorem ziH(hr:ye l x=true)(hk:x.kind∈[33,102]):(zF l pr x).length<=qr pr x.kids+3100:=by
 obtain⟨k,t,n,ks,a⟩:=x;simp only[wF,wN,or_false] at hk;obtain⟨_,h1,h2,hn,ht,hs⟩:=xB hr;clear hr hs hn;have hl:2<=ks.length:=by
  rcases hk with rfl|rfl
  ·exact h1
  ·exact h1
 clear h1 h2;obtain⟨r,c,d,rfl⟩:∃r c d,ks=r ++ [c,d]:=by
  refine⟨ks.dropLast.dropLast,ks.dropLast.getLast (by intro e;have:=congrArg List.length e;simp at this;omega),ks.getLast (by intro e;rw[e] at hl;simp at hl),?_⟩;rw[show ∀(a b:Int),[a,b]=[a] ++ [b] from fun _ _=>rfl,<-gD,List.dropLast_concat_getLast,List.dropLast_concat_getLast]
 have ht:t.length<=3000:=kR ht (by dsimp only;rcases hk with rfl|rfl <;> decide);have qa:=jU pr r;rw[Kl];simp only[qr];have e1:(r ++ [c,d]).getD r.length 0=c:=by simp[pB]
 have e2:(r ++ [c,d]).getD (r.length+1) 0=d:=by simp[pB]
 rcases hk with rfl|rfl
 all_goals simp[zF,yO,yR,ya,zG,yv,xQ,zJ,yV]
 all_goals first
  |omega
  |(split <;> (try simp) <;> omega)
theorem zfz(hr:ye l x=true):(zF l pr x).length<=qr pr x.kids+3100:=by
 have hk:=(xB hr).1;have hm:∀k,k<105->(!qm k || decide (k∈[1,2,3,4,5,44,45,46,80,81,82,83,84,66,67,68,69]) || decide (k∈[6,7,23,27,37,38,39,40,42,43,47,50,51,60,61,65,86,87,88]) || decide (k∈[8,9,10,11,12,13,14,15,16,17,18,19,20,21,22,30,32,34,41,48,62,63,104]) || decide (k∈[49,64,36]) || decide (k=29) || decide (k∈[26,35,100,101,25,70,89,28]) || decide (k∈[24,31]) || decide (k∈[85,103]) || decide (k∈[33,102]))=true:=by decide +kernel
 have h:=hm _ (Nat.lt_succ_of_le (uq hk));rw[hk] at h;simp only[Bool.not_true,Bool.false_or,wL,pK] at h;rcases h with (((((((h|h)|h)|h)|h)|h)|h)|h)|h
 ·exact zha hr h
 ·exact ziG hr h
 ·exact ziF hr h
 ·exact zfL hr h
 ·exact zkb hr h
 ·exact zg9 hr h
 ·exact zg8 hr h
 ·exact zhb hr h
 ·exact ziH hr h
end
theorem zeA{pr:Int->List UInt8}{z:Int->Nat}:∀ks:List Int,(∀k∈ks,(pr k).length+8<=3200*z k)->(qr pr ks:Int)<=3200*(ks.map fun k=>(z k:Int)).sum
 |[],_=>by simp[qr]
 |k :: r,h=>by
  have ih:=zeA (pr:=pr) (z:=z) r (fun j hj=>h j (pY _ hj));have h1:=h k (List.mem_cons_self ..);rw[List.map_cons,List.sum_cons];unfold qr;omega
theorem zgQ{l:List Nd}(hF:xF l l.length)(hR:∀x∈l,ye l x=true):∀(i f:Nat),i<l.length->(prN l f i).length+8<=3200*(qI l l.length).getD i 0
 |i,0,hi=>by
  obtain⟨p,hp,hsz,hpi⟩:=qN hF hi;show 0+8<=_
  omega
 |i,f+1,hi=>by
  obtain⟨p,hp,hsz,hpi⟩:=qN hF hi;have hkid:=jf hF hi;have hx:l[i]? =some l[i]:=glE hi;have hr:=hR _ (wK hi);rw[hx] at hp;simp only[Option.elim] at hp;have hs:=zam _ _ _ hp;rw[List.map_reverse,List.sum_reverse] at hs;have h1:=zfz (pr:=prN l f) hr;have h2:=zeA (pr:=prN l f) (z:=fun k=>(qI l l.length).getD k.toNat 0) l[i].kids (fun k hk=>by
   obtain⟨h0,h1⟩:=hkid k hk;obtain⟨k',rfl⟩:=pO h0;simp only[wG];exact zgQ hF hR k' f (by omega))
  rw[hs] at h2;have e2:prN l (f+1) i=zF l (prN l f) l[i]:=by
   show (match l[(i:Int).toNat]? with|some x=>zF l (prN l f) x|none=>[])=_
   rw[wG,hx]
  rw[e2];omega
termination_by _ f=>f
theorem zgo{out:List Nat}:∀(rk:List Int) (p e:Int),-1<=p->(∀j:Nat,(j:Int)<=p->out.getD j 0<=j+1)->Xi out rk p=some e->-1<=e
 |[],p,e,hp,_,h=>by cases h;exact hp
 |k :: r,p,e,hp,ho,h=>by
  unfold Xi at h;split at h
  ·cases h
  ·rename_i hc;have h1:=ho p.toNat (by omega);exact zgo r _ e (by omega) (fun j hj=>ho j (by omega)) h
theorem zcV{l:List Nd}{n:Nat}(hF:xF l n):∀(i:Nat),i<n->(qI l n).getD i 0<=i+1:=by
 intro i;induction i using Nat.strongRecOn with
 |ind i ih=>
  intro hi;obtain⟨p,hp,hsz,hpi⟩:=qN hF hi;have:=zgo _ _ _ (by omega) (fun j hj=>ih j (by omega) (by omega)) hp;omega
theorem Vz{l:List Nd}(hF:xF l l.length)(hR:∀x∈l,ye l x=true)(hn:l.length<=1000)(f i:Nat)(hi:i<l.length):(prN l f i).length<=3200000:=by
 have h1:=zgQ hF hR i f hi;have h2:=zcV hF i hi;omega
def Kb(c:Nat)(s:yI):Prop:=∀x∈s.nodes,x.kids.length<=c
structure Kp{α:Type}(Q:α->Prop)(n:Nat)(m:PM α):Prop where
 out:∀(E:zH) (s:yI) (a:α) (s':yI),E.toks.length=n->Kb (n+8) s->m E s=.ok a s'->Kb (n+8) s'/\Q a
abbrev Any{α:Type}:α->Prop:=fun _=>True
abbrev xf(n:Nat):List Int->Prop:=fun l=>l.length<=n
theorem Kp.bind{α β:Type}{Q:α->Prop}{P:β->Prop}{n:Nat}{m:PM α}{f:α->PM β}(hm:Kp Q n m)(hf:∀a,Q a->Kp P n (f a)):Kp P n (m >>= f):=by
 refine⟨fun E s a s' hE hk h=>?_⟩;obtain⟨x,s1,h1,h⟩:=zt h;obtain⟨k1,q1⟩:=hm.out _ _ _ _ hE hk h1;exact (hf x q1).out _ _ _ _ hE k1 h
theorem Kp.pure{α:Type}{Q:α->Prop}{n:Nat}{a:α}(h:Q a):Kp Q n (pure a:PM α):=by
 refine⟨fun E s b s' _ hk e=>?_⟩;obtain⟨rfl,rfl⟩:=yJ e;exact⟨hk,h⟩
theorem Kp.ite{α:Type}{Q:α->Prop}{n:Nat}{c:Prop}[Decidable c]{a b:PM α}(ha:Kp Q n a)(hb:Kp Q n b):Kp Q n (if c then a else b):=by
 split
 ·exact ha
 ·exact hb
section
variable {n:Nat}
theorem yL{x:List UInt8}:Kp Any n (zV x):=by
 refine⟨fun E s a s' _ hk h=>?_⟩;unfold zV at h;split at h <;> cases h;exact⟨hk,trivial⟩
theorem qU{k:Nat}:Kp Any n (xN k):=by
 refine⟨fun E s a s' _ hk h=>?_⟩;unfold xN at h;split at h <;> cases h;exact⟨hk,trivial⟩
theorem ja{x:List UInt8}:Kp Any n (yD x):=by
 refine⟨fun E s a s' _ hk h=>?_⟩;unfold yD at h;split at h <;> cases h <;> exact⟨hk,trivial⟩
theorem jN:Kp Any n YM:=by
 refine⟨fun E s a s' _ hk h=>?_⟩;cases h;exact⟨hk,trivial⟩
theorem kW{l:List (List UInt8)}:Kp Any n (XN l):=by
 refine⟨fun E s a s' _ hk h=>?_⟩;cases h;exact⟨hk,trivial⟩
theorem ju:Kp Any n jD:=by
 refine⟨fun E s a s' _ hk h=>?_⟩;cases h;exact⟨hk,trivial⟩
theorem jO:Kp Any n Zu:=by
 refine⟨fun E s a s' _ hk h=>?_⟩;cases h;exact⟨hk,trivial⟩
theorem jr{k:Int}:Kp Any n (zet k):=by
 refine⟨fun E s a s' _ hk h=>?_⟩;cases h;exact⟨hk,trivial⟩
theorem kM{α:Type}{Q:α->Prop}:Kp Q n (zgY (α:=α)):=by
 refine⟨fun E s a s' _ hk h=>?_⟩;cases h
theorem qS{kind:Nat}{text:List UInt8}{m at_:Int}{kids:List Int}(hl:kids.length<=n+8):Kp Any n (zY kind text m at_ kids):=by
 refine⟨fun E s a s' _ hk h=>?_⟩;cases h;refine⟨fun x hx=>?_,trivial⟩;rcases pP.1 hx with hx|hx
 ·exact hk x hx
 ·rw[wT] at hx;rw[hx];exact hl
structure zmc(n:Nat)(R:xP):Prop where
 expr:Kp Any n R.expr
 unary:Kp Any n R.unary
 bin2:Kp Any n R.bin2
 block:Kp Any n R.block
 branch:Kp Any n R.branch
 kind:Kp Any n R.kind
 pattern:Kp Any n R.pattern
theorem zcd{part:PM Int}(hp:Kp Any n part):∀(k:Nat) (acc:List Int),Kp (xf (acc.length+k)) n (vY k part acc)
 |0,_=>by
  refine⟨fun E s a s' _ _ h=>?_⟩;cases h
 |k+1,acc=>by
  unfold vY;refine Kp.bind hp (fun x _=>Kp.bind ja (fun b _=>Kp.ite ?_ (Kp.pure ?_)))
  ·have:=zcd hp k (acc ++ [x]);rw[pM] at this;rw[show acc.length+(k+1)=acc.length+[x].length+k by simp only[pN];omega];exact this
  ·simp only[xf,pM,pN];omega
theorem zaQ{part:PM Int}(hp:Kp Any n part):Kp (xf (n+1)) n (ul part):=by
 refine⟨fun E s a s' hE hk h=>?_⟩;have:=(zcd hp (E.toks.length+1) []).out _ _ _ _ hE hk h;refine⟨this.1,?_⟩;have h2:=this.2;simp only[xf,wD] at h2 ⊢;omega
theorem Yg{part:PM Int}(hp:Kp Any n part):Kp (xf (n+1)) n (ji part):=by
 unfold ji;exact Kp.bind yL (fun _ _=>Kp.bind (zaQ hp) (fun l hl=>Kp.bind yL (fun _ _=>Kp.pure hl)))
theorem yj{part:PM Int}(hp:Kp Any n part):Kp (xf (n+1)) n (jA part):=by
 unfold jA;refine Kp.bind ja (fun b _=>Kp.ite (Kp.bind (zaQ hp) (fun l hl=>Kp.bind yL (fun _ _=>Kp.pure hl))) (Kp.pure ?_));simp[xf]
theorem yA{part:PM Int}{w:List (List UInt8)}(hp:Kp Any n part):Kp (xf (n+1)) n (do if <-XN w then pure [] else ul part:PM (List Int)):=by
 refine Kp.bind kW (fun b _=>Kp.ite (Kp.pure ?_) (zaQ hp));simp[xf]
variable {R:xP} (hR:zmc n R)
include hR
theorem zbZ:Kp Any n (Zb R):=by
 unfold Zb
 repeat' (first|exact yL|exact qU|exact ja|exact jN|exact kW|exact ju|exact jO|exact jr|exact kM|exact hR.expr|exact hR.unary|exact hR.bin2|exact hR.block|exact hR.branch|exact hR.kind|exact hR.pattern|exact yj hR.expr|exact yj hR.kind|exact yj hR.pattern|exact yA hR.expr|exact yA hR.kind|(refine qS ?_;first|(simp;done)|(simp[xf] at *;omega))|apply Kp.bind|intro _ _|refine Kp.ite ?_ ?_|exact Kp.pure trivial)
theorem ziL:Kp Any n (QL R):=by
 unfold QL
 repeat' (first|exact yL|exact qU|exact ja|exact jN|exact kW|exact ju|exact jO|exact jr|exact kM|exact hR.expr|exact hR.unary|exact hR.bin2|exact hR.block|exact hR.branch|exact hR.kind|exact hR.pattern|exact yj hR.expr|exact yj hR.kind|exact yj hR.pattern|exact yA hR.expr|exact yA hR.kind|(refine qS ?_;first|(simp;done)|(simp[xf] at *;omega))|apply Kp.bind|intro _ _|refine Kp.ite ?_ ?_|exact Kp.pure trivial)
theorem zeH:Kp (xf (n+2)) n (Yt R):=by
 unfold Yt;refine Kp.bind yL (fun _ _=>Kp.bind (yA (zbZ hR)) (fun l hl=>Kp.bind yL (fun _ _=>Kp.bind yL (fun _ _=>Kp.bind hR.kind (fun k _=>Kp.pure ?_)))));simp only[xf,pM,pN] at hl ⊢;omega
theorem ziI:Kp Any n (QU R):=by
 unfold QU
 repeat' (first|exact yL|exact qU|exact ja|exact jN|exact kW|exact ju|exact jO|exact jr|exact kM|exact hR.expr|exact hR.unary|exact hR.bin2|exact hR.block|exact hR.branch|exact hR.kind|exact hR.pattern|exact yj hR.expr|exact yj hR.kind|exact yj hR.pattern|exact yA hR.expr|exact yA hR.kind|(refine qS ?_;first|(simp;done)|(simp[xf] at *;omega))|apply Kp.bind|intro _ _|refine Kp.ite ?_ ?_|exact Kp.pure trivial)
theorem zid:Kp Any n (Yr R):=by
 unfold Yr
 repeat' (first|exact yL|exact qU|exact ja|exact jN|exact kW|exact ju|exact jO|exact jr|exact kM|exact hR.expr|exact hR.unary|exact hR.bin2|exact hR.block|exact hR.branch|exact hR.kind|exact hR.pattern|exact yj hR.expr|exact yj hR.kind|exact yj hR.pattern|exact yA hR.expr|exact yA hR.kind|(refine qS ?_;first|(simp;done)|(simp[xf] at *;omega))|apply Kp.bind|intro _ _|refine Kp.ite ?_ ?_|exact Kp.pure trivial)
theorem zbx:∀(k:Nat) (acc:List Int),Kp (fun x:List Int×Int=>x.1.length<=acc.length+k) n (qQ R k acc)
 |0,_=>by
  refine⟨fun E s a s' _ _ h=>?_⟩;cases h
 |k+1,acc=>by
  unfold qQ;refine Kp.bind kW (fun b _=>Kp.ite (Kp.pure (by simp)) (Kp.bind (zid hR) (fun x _=>?_)));have hs:=zbx k (acc ++ [x.1]);rw[pM,pN,show acc.length+1+k=acc.length+(k+1) by omega] at hs;refine Kp.bind kW (fun b _=>Kp.ite (Kp.pure ?_) (Kp.bind yL (fun _ _=>hs)));simp only[pM,pN];omega
theorem zhz:Kp Any n (ZR R):=by
 unfold ZR;refine Kp.bind yL (fun t _=>Kp.bind (Q:=fun x:List Int×Int=>x.1.length<=n+1) ?_ (fun x hx=>Kp.bind yL (fun _ _=>qS (by omega))));refine⟨fun E s a s' hE hk h=>?_⟩;have:=(zbx hR (E.toks.length+1) []).out _ _ _ _ hE hk h;refine⟨this.1,?_⟩;have h2:=this.2;simp only[wD] at h2;omega
omit hR in
theorem zgZ{tight:PM Int}(ht:Kp Any n tight)(lv:Nat):∀(k:Nat) (left:Int),Kp Any n (KW lv tight k left)
 |0,_=>by
  refine⟨fun E s a s' _ _ h=>?_⟩;cases h
 |k+1,left=>by
  unfold KW;refine Kp.bind kW (fun b _=>Kp.ite (Kp.bind jO (fun t _=>Kp.bind ht (fun r _=>Kp.bind (qS (by simp only[pQ,wD];omega)) (fun x _=>Kp.ite (Kp.pure trivial) (zgZ ht lv k x))))) (Kp.pure trivial))
omit hR in
theorem KJ{tight:PM Int}(ht:Kp Any n tight)(lv:Nat):Kp Any n (ZE lv tight):=by
 unfold ZE;refine Kp.bind ht (fun l _=>?_);refine⟨fun E s a s' hE hk h=>?_⟩;exact (zgZ ht lv _ l).out _ _ _ _ hE hk h
theorem zeh:∀(k:Nat) (first:Bool) (acc:List Int),Kp (xf (acc.length+k)) n (jC R k first acc)
 |0,_,acc=>by
  unfold jC;exact Kp.pure (by simp[xf])
 |k+1,first,acc=>by
  unfold jC;refine Kp.bind (Q:=Any) (Kp.ite (Kp.pure trivial) (Kp.bind yL (fun _ _=>Kp.pure trivial))) (fun _ _=>Kp.bind hR.expr (fun x _=>?_));have hs:=zeh k false (acc ++ [x]);rw[pM,pN,show acc.length+1+k=acc.length+(k+1) by omega] at hs;exact hs
theorem zh5(t:xT)(w:Nat×Int)(hw:w.2<=3):Kp Any n (vE R t w):=by
 unfold vE;refine Kp.bind (Q:=xf 3) ?_ (fun l hl=>qS (by simp only[xf] at hl;omega));refine Kp.ite (Kp.bind hR.unary (fun x _=>Kp.pure (by simp[xf]))) (Kp.ite (Kp.bind yL (fun _ _=>Kp.bind (zeh hR w.2.toNat true []) (fun l hl=>Kp.bind yL (fun _ _=>Kp.pure ?_)))) (Kp.pure (by simp[xf])));simp only[xf,wD] at hl ⊢;omega
theorem zjY:Kp Any n (zb0 R):=by
 unfold zb0
 repeat' (first|exact yL|exact qU|exact ja|exact jN|exact kW|exact ju|exact jO|exact jr|exact kM|exact hR.expr|exact hR.unary|exact hR.bin2|exact hR.block|exact hR.branch|exact hR.kind|exact hR.pattern|exact yj hR.expr|exact yj hR.kind|exact yj hR.pattern|exact yA hR.expr|exact yA hR.kind|(refine qS ?_;first|(simp;done)|(simp[xf] at *;omega))|apply Kp.bind|intro _ _|refine Kp.ite ?_ ?_|exact Kp.pure trivial)
theorem zkp:Kp Any n (zb1 R):=by
 unfold zb1
 repeat' (first|exact yL|exact qU|exact ja|exact jN|exact kW|exact ju|exact jO|exact jr|exact kM|exact hR.expr|exact hR.unary|exact hR.bin2|exact hR.block|exact hR.branch|exact hR.kind|exact hR.pattern|exact yj hR.expr|exact yj hR.kind|exact yj hR.pattern|exact yA hR.expr|exact yA hR.kind|(refine qS ?_;first|(simp;done)|(simp[xf] at *;omega))|apply Kp.bind|intro _ _|refine Kp.ite ?_ ?_|exact Kp.pure trivial)
theorem zee:∀(k:Nat) (acc:List Int),Kp (xf (acc.length+k)) n (Yq R k acc)
 |0,_=>by
  refine⟨fun E s a s' _ _ h=>?_⟩;cases h
 |k+1,acc=>by
  unfold Yq;have hs:∀r:Int,Kp (xf (acc.length+(k+1))) n (Yq R k (acc ++ [r])):=fun r=>by
   have hs:=zee k (acc ++ [r]);rw[pM,pN,show acc.length+1+k=acc.length+(k+1) by omega] at hs;exact hs
  have hp:∀r:Int,Kp (xf (acc.length+(k+1))) n (pure (acc ++ [r]):PM (List Int)):=fun r=>Kp.pure (by simp only[xf,pM,pN];omega)
  repeat' (first|exact hs _|exact hp _|exact yL|exact qU|exact ja|exact jN|exact hR.expr|(refine qS ?_;first|(simp;done)|(simp[xf] at *;omega))|apply Kp.bind|intro _ _|refine Kp.ite ?_ ?_)
theorem zfh:Kp (xf (n+1)) n (uk R):=by
 unfold uk;refine Kp.bind yL (fun t _=>Kp.bind (Q:=xf (n+1)) ?_ (fun l hl=>Kp.bind yL (fun _ _=>Kp.pure hl)));refine⟨fun E s a s' hE hk h=>?_⟩;have:=(zee hR (E.toks.length+1) []).out _ _ _ _ hE hk h;refine⟨this.1,?_⟩;have h2:=this.2;simp only[xf,wD] at h2 ⊢;omega
theorem VY:Kp Any n (vK R):=by
 unfold vK
 repeat' (first|exact yL|exact qU|exact ja|exact jN|exact kW|exact ju|exact jO|exact jr|exact kM|exact hR.expr|exact hR.unary|exact hR.bin2|exact hR.block|exact hR.branch|exact hR.kind|exact hR.pattern|exact yj hR.expr|exact yj hR.kind|exact yj hR.pattern|exact yA hR.expr|exact yA hR.kind|(refine qS ?_;first|(simp;done)|(simp[xf] at *;omega))|apply Kp.bind|intro _ _|refine Kp.ite ?_ ?_|exact Kp.pure trivial)
theorem YU(t:xT):Kp Any n (ql R t):=by
 unfold ql;refine Kp.bind kW (fun _ _=>Kp.ite (VY hR) ?_)
 repeat' (first|exact yL|exact qU|exact ja|exact hR.expr|exact hR.block|exact hR.kind|exact Yg (zkp hR)|exact Yg (zjY hR)|exact zeH hR|exact zfh hR|(refine qS ?_;first|(simp;done)|(simp[xf] at *;omega))|apply Kp.bind|intro _ _|refine Kp.ite ?_ ?_)
omit hR in
theorem ze3{s:List UInt8}{w:Nat×Int}(h:vo s=some w):w.2<=3:=by
 unfold vo at h;cases hf:ya.find? (fun w=>w.1 == s) with
 |none=>rw[hf] at h;cases h
 |some x=>
  rw[hf] at h;cases h;have:=List.mem_of_find?_eq_some hf;revert x;intro x _ hx;have:∀y∈ya,y.2.2<=3:=by decide
  exact this x hx
theorem zi1:Kp Any n (Yu R):=by
 unfold Yu;refine Kp.bind jN (fun t _=>?_)
 repeat' (first|exact yL|exact ja|exact ju|exact hR.expr|exact yj hR.expr|exact YU hR _|exact Kp.pure trivial|(refine qS ?_;first|(simp;done)|(simp[xf] at *;omega))|apply Kp.bind|intro _ _|refine Kp.ite ?_ ?_)
 split
 ·rename_i w hw;refine Kp.ite (Kp.bind ju (fun _ _=>zh5 hR t w (ze3 hw))) (YU hR t)
 ·exact YU hR t
theorem zes:∀(k:Nat) (left:Int),Kp Any n (Ys R k left)
 |0,_=>by
  refine⟨fun E s a s' _ _ h=>?_⟩;cases h
 |k+1,left=>by
  unfold Ys;have hs:∀r:Int,Kp Any n (Ys R k r):=fun r=>zes k r
  repeat' (first|exact hs _|exact yL|exact qU|exact ja|exact jN|exact yA hR.expr|exact Kp.pure trivial|(refine qS ?_;first|(simp;done)|(simp[xf] at *;omega))|apply Kp.bind|intro _ _|refine Kp.ite ?_ ?_)
theorem zbq:Kp Any n (Zm R):=by
 unfold Zm;refine Kp.bind kW (fun _ _=>Kp.ite ?_ ?_)
 ·repeat' (first|exact yL|exact qU|exact ja|exact jN|exact kW|exact ju|exact jO|exact jr|exact kM|exact hR.expr|exact hR.unary|exact hR.bin2|exact hR.block|exact hR.branch|exact hR.kind|exact hR.pattern|exact yj hR.expr|exact yj hR.kind|exact yj hR.pattern|exact yA hR.expr|exact yA hR.kind|(refine qS ?_;first|(simp;done)|(simp[xf] at *;omega))|apply Kp.bind|intro _ _|refine Kp.ite ?_ ?_|exact Kp.pure trivial)
 ·refine Kp.bind (zi1 hR) (fun l _=>?_);refine⟨fun E s a s' hE hk h=>?_⟩;exact (zes hR _ l).out _ _ _ _ hE hk h
theorem zct:Kp Any n (XD R):=by
 unfold XD;refine Kp.bind kW (fun _ _=>Kp.ite ?_ ?_)
 ·repeat' (first|exact yL|exact qU|exact ja|exact jN|exact kW|exact ju|exact jO|exact jr|exact kM|exact hR.expr|exact hR.unary|exact hR.bin2|exact hR.block|exact hR.branch|exact hR.kind|exact hR.pattern|exact yj hR.expr|exact yj hR.kind|exact yj hR.pattern|exact yA hR.expr|exact yA hR.kind|(refine qS ?_;first|(simp;done)|(simp[xf] at *;omega))|apply Kp.bind|intro _ _|refine Kp.ite ?_ ?_|exact Kp.pure trivial)
 ·exact KJ (KJ (KJ (zbq hR) 4) 3) 2
theorem ziZ:Kp Any n (zhp R):=KJ (KJ (zct hR) 1) 0
theorem zdt:Kp Any n (kY R):=by
 unfold kY
 repeat' (first|exact yL|exact qU|exact ja|exact jN|exact kW|exact ju|exact jO|exact jr|exact kM|exact hR.expr|exact hR.unary|exact hR.bin2|exact hR.block|exact hR.branch|exact hR.kind|exact hR.pattern|exact yj hR.expr|exact yj hR.kind|exact yj hR.pattern|exact yA hR.expr|exact yA hR.kind|(refine qS ?_;first|(simp;done)|(simp[xf] at *;omega))|apply Kp.bind|intro _ _|refine Kp.ite ?_ ?_|exact Kp.pure trivial)
omit hR in
theorem ZD:∀k:Nat,zmc n (YJ k)
 |0=>⟨⟨fun _ _ _ _ _ _ h=>by (cases h)⟩,⟨fun _ _ _ _ _ _ h=>by (cases h)⟩,⟨fun _ _ _ _ _ _ h=>by (cases h)⟩,⟨fun _ _ _ _ _ _ h=>by (cases h)⟩,⟨fun _ _ _ _ _ _ h=>by (cases h)⟩,⟨fun _ _ _ _ _ _ h=>by (cases h)⟩,⟨fun _ _ _ _ _ _ h=>by (cases h)⟩⟩
 |k+1=>⟨ziZ (ZD k),zbq (ZD k),zct (ZD k),zhz (ZD k),VY (ZD k),ziI (ZD k),zdt (ZD k)⟩
theorem ziP:Kp Any n (Xt R):=by
 unfold Xt
 repeat' (first|exact yL|exact qU|exact ja|exact jN|exact hR.expr|exact hR.block|exact hR.kind|exact Yg (zbZ hR)|exact Yg (ziL hR)|exact zeH hR|(refine qS ?_;first|(simp;done)|(simp[xf] at *;omega))|apply Kp.bind|intro _ _|refine Kp.ite ?_ ?_)
end
theorem zcn{R:xP}(hR:yM R):Gd 1 Vd (Xt R):=by
 intro E s a s' h0 hw h;have N:=Nx.refl h0 hw;unfold Xt at h;obtain⟨t,s0,h1,h⟩:=zt h;cases h1;obtain⟨a1,sa1,ha1,h⟩:=zt h;have na1:=Zf N.le N.wf ha1;replace N:=N.trans na1;cases a1 with
 |true=>
  rw[if_pos rfl] at h;obtain⟨m,sm,hm,h⟩:=zt h;obtain⟨nm,vm⟩:=(yt (by decide)) N.le N.wf hm;replace N:=N.trans nm;obtain⟨l,sl,hl,h⟩:=zt h;obtain⟨nl,vl⟩:=(jI (uM hR)) N.le N.wf hl;replace N:=N.trans nl;obtain⟨nz,vz⟩:=zS N.le N.wf (vl) h;exact⟨(N.trans nz).down (by decide),vz⟩
 |false=>
 rw[if_neg (by decide)] at h;obtain⟨a2,sa2,ha2,h⟩:=zt h;have na2:=Zf N.le N.wf ha2;replace N:=N.trans na2;cases a2 with
 |true=>
  rw[if_pos rfl] at h;obtain⟨m,sm,hm,h⟩:=zt h;obtain⟨nm,vm⟩:=(yt (by decide)) N.le N.wf hm;replace N:=N.trans nm;obtain⟨l,sl,hl,h⟩:=zt h;obtain⟨nl,vl⟩:=(jI (zaS hR)) N.le N.wf hl;replace N:=N.trans nl;obtain⟨nz,vz⟩:=zS N.le N.wf (vl) h;exact⟨(N.trans nz).down (by decide),vz⟩
 |false=>
 rw[if_neg (by decide)] at h;obtain⟨a3,sa3,ha3,h⟩:=zt h;have na3:=Zf N.le N.wf ha3;replace N:=N.trans na3;cases a3 with
 |true=>
  rw[if_pos rfl] at h;obtain⟨q,sq,hq,h⟩:=zt h;obtain⟨nq,vq⟩:=zq N.le N.wf hq;replace N:=N.trans nq;obtain⟨m,sm,hm,h⟩:=zt h;obtain⟨nm,vm⟩:=(yt (by decide)) N.le N.wf hm;replace N:=N.trans nm;obtain⟨l,sl,hl,h⟩:=zt h;obtain⟨nl,vl⟩:=(Zl hR) N.le N.wf hl;replace N:=N.trans nl;obtain⟨r,sr,hr,h⟩:=zt h;obtain⟨nr,vr⟩:=zq N.le N.wf hr;replace N:=N.trans nr;replace vl:=vl.later nr;obtain⟨nz,vz⟩:=zS N.le N.wf (vl) h;exact⟨(N.trans nz).down (by decide),vz⟩
 |false=>
 rw[if_neg (by decide)] at h;obtain⟨a4,sa4,ha4,h⟩:=zt h;have na4:=Zf N.le N.wf ha4;replace N:=N.trans na4;cases a4 with
 |true=>
  rw[if_pos rfl] at h;obtain⟨m,sm,hm,h⟩:=zt h;obtain⟨nm,vm⟩:=(yt (by decide)) N.le N.wf hm;replace N:=N.trans nm;obtain⟨q,sq,hq,h⟩:=zt h;obtain⟨nq,vq⟩:=zq N.le N.wf hq;replace N:=N.trans nq;obtain⟨k,sk,hk,h⟩:=zt h;obtain⟨nk,vk⟩:=hR.kind N.le N.wf hk;replace N:=N.trans nk;obtain⟨r,sr,hr,h⟩:=zt h;obtain⟨nr,vr⟩:=zq N.le N.wf hr;replace N:=N.trans nr;replace vk:=vk.later nr;obtain⟨x,sx,hx,h⟩:=zt h;obtain⟨nx,vx⟩:=hR.expr N.le N.wf hx;replace N:=N.trans nx;replace vk:=vk.later nx;obtain⟨y,sy,hy,h⟩:=zt h;obtain⟨ny,vy⟩:=zq N.le N.wf hy;replace N:=N.trans ny;replace vk:=vk.later ny;replace vx:=vx.later ny;obtain⟨nz,vz⟩:=zS N.le N.wf (Jj vk (Yj vx)) h;exact⟨(N.trans nz).down (by decide),vz⟩
 |false=>
 rw[if_neg (by decide)] at h;obtain⟨b,sb,hb,h⟩:=zt h;obtain⟨nb,_⟩:=ziD N.le N.wf hb;replace N:=N.trans nb;obtain⟨q,sq,hq,h⟩:=zt h;obtain⟨nq,vq⟩:=zq N.le N.wf hq;replace N:=N.trans nq;obtain⟨m,sm,hm,h⟩:=zt h;obtain⟨nm,vm⟩:=(yt (by decide)) N.le N.wf hm;replace N:=N.trans nm;obtain⟨l,sl,hl,h⟩:=zt h;obtain⟨nl,vl⟩:=(Zl hR) N.le N.wf hl;replace N:=N.trans nl;obtain⟨c,sc,hc,h⟩:=zt h;obtain⟨nc,vc⟩:=hR.block N.le N.wf hc;replace N:=N.trans nc;replace vl:=vl.later nc;obtain⟨nz,vz⟩:=zS N.le N.wf (vda vl vc) h;exact⟨(N.trans nz).down (by decide),vz⟩
structure zjv(n:Nat)(s:yI):Prop where
 kids:Kb (n+8) s
 wf:WFs s
 its:Jw s s.items
 nodes:s.nodes.length<=n
 len:s.items.length<=n
theorem QM{m n:Nat}:∀(k:Nat) (E:zH) (s s':yI),E.toks.length=n->s.next<=n->WFs s->Kb (n+8) s->Jw s s.items->s.nodes.length<=s.next->s.items.length<=s.next->Zc (YJ m) k E s=.ok () s'->zjv n s'
 |0,_,_,_,_,_,_,_,_,_,_,h=>by cases h
 |k+1,E,s,s',hE,h0,hw,hk,hi,hn,hl,h=>by
  unfold Zc at h;split at h
  ·rename_i hlt;cases hm:Xt (YJ m) E s with
   |bad p=>rw[hm] at h;cases h
   |ok i s1=>
    rw[hm] at h;dsimp only at h;obtain⟨N,v⟩:=zcn (jY m) (Nat.le_of_lt hlt) hw hm;have hk1:=((ziP (ZD (n:=n) m)).out _ _ _ _ hE hk hm).1;have hcr:=N.cr;have hle:=N.le;have hnx:=N.next;have hit:=N.it;obtain⟨q,hq⟩:=N.pre;have hql:s.nodes.length<=s1.nodes.length:=by rw[hq,pM];omega
    refine QM k E {s1 with items:=s1.items ++ [i]} s' hE (by dsimp only;omega) N.wf hk1 ?_ (by dsimp only;omega) ?_ h
    ·intro x hx;dsimp only at hx;rw[hit] at hx;rcases pP.1 hx with hx|hx
     ·exact show Vd s1 x from (hi x hx).later N
     ·rw[wT] at hx;rw[hx];exact v
    ·dsimp only;rw[hit,pM,pN];omega
  ·cases h;exact⟨hk,hw,hi,by omega,by omega⟩
theorem zaz{l:List xT}{len:Nat}{s:yI}(h:vX l len=.ok () s):zjv l.length s:=
 QM (n:=l.length) _ ⟨l,len⟩ _ _ rfl (pX _) (fun i x hx=>by simp at hx) (fun x hx=>by cases hx) (fun x hx=>by cases hx) (pG _) (pG _) h
theorem zgm{s:List UInt8}{k:Nat}{t:List UInt8}{m:Nat}(h:xm s=some (k,t,m))(hk:k=3):jW t=true:=by
 unfold xm at h;split at h
 ·cases h
 ·rename_i c r;dsimp only at h;split at h
  ·split at h
   ·injection h with h;injection h with h _;split at h <;> omega
   ·cases h
  ·split at h
   ·split at h
    ·injection h with h;injection h with h _;omega
    ·cases h
   ·split at h
    ·split at h
     ·rename_i hn;injection h with h;injection h with _ h;injection h with h _;rw[<-h];exact hn
     ·cases h
    ·split at h
     ·cases hq:jl (c :: r) with
      |none=>rw[hq] at h;cases h
      |some x=>
       rw[hq] at h;injection h with h;injection h with h _;omega
     ·cases hq:yb.find? (fun g=>qf g (c :: r)) with
      |none=>rw[hq] at h;cases h
      |some x=>
       rw[hq] at h;injection h with h;injection h with h _;omega
theorem zbG:∀(f n at_:Nat) (r:List UInt8),n<=1200->(∀t∈(Yk f n at_ r).1,t.kind=3->jW t.text=true)/\n+(Yk f n at_ r).1.length<=1200
 |0,_,_,_,hn=>by
  unfold Yk;exact⟨fun t ht=>by (cases ht),hn⟩
 |f+1,n,at_,r,hn=>by
  unfold Yk;dsimp only;split
  ·exact⟨fun t ht=>by (cases ht),hn⟩
  ·split
   ·exact⟨fun t ht=>by (cases ht),hn⟩
   ·rename_i k t m h1;split
    ·exact⟨fun t ht=>by (cases ht),hn⟩
    ·rename_i hne;split
     ·have ih:=zbG f (n+1) (at_+yi false r+m) (r.drop (yi false r) |>.drop m) (by omega);refine⟨fun x hx hk=>?_,?_⟩
      ·rcases wF.1 hx with rfl|hx
       ·exact zgm h1 hk
       ·exact ih.1 x hx hk
      ·have:=ih.2;simp only[pQ];omega
     ·exact⟨fun t ht=>by (cases ht),hn⟩
theorem zbQ(s:List UInt8):(∀t∈(vw s).1,t.kind=3->jW t.text=true)/\(vw s).1.length<=1200:=by
 unfold vw;split
 ·exact⟨fun t ht=>by (cases ht),pX _⟩
 ·have:=zbG (s.length+1) 0 0 s (by omega);rw[Nat.zero_add] at this;exact this
def YH(k:Nat)(t:List UInt8):List UInt8×Nat:=
 if k=4 then (if (xX t).2=0 then ((xX t).1,0) else ([],4)) else
 if t=[]\/20<t.length\/t.head? =some 34 then ([],4) else
 match xm t with
 |some (k',_,n)=>if n=t.length/\k'=k then (t,0) else ([],4)
 |none=>([],4)
end Lode
namespace Go.Proofs.YtcagibbaeageoaaGreatDoor
section
open Go.RowKit Lode Go.Shelf
open Go.Proofs.Tryz
theorem VN{c:UInt8}(h:zN c=true):jw c=true/\c≠10/\c≠35/\c≠32/\c≠34:=by
 simp only[zN,pJ,pK] at h;refine⟨by simp[jw];omega,?_,?_,?_,?_⟩ <;> (rintro rfl;revert h;decide)
theorem ziQ{c:UInt8}(h:vM c=true):jw c=true/\c≠10/\c≠35/\c≠32/\c≠34:=by
 simp only[vM,pJ,pK] at h;refine⟨by simp[jw];omega,?_,?_,?_,?_⟩ <;> (rintro rfl;revert h;decide)
theorem Qn{c:UInt8}(h:zM c=true):jw c=true/\c≠10/\c≠35/\c≠32/\c≠34:=by
 simp only[zM,pJ,pK] at h;refine⟨by simp[jw];omega,?_,?_,?_,?_⟩ <;> (rintro rfl;revert h;decide)
theorem zd1{p q:UInt8->Bool}(h:∀c,p c=true->q c=true):∀l:List UInt8,l.all p=true->l.all q=true:=by
 intro l hl;rw[pV] at hl ⊢;exact fun c hc=>h c (hl c hc)
theorem zff:∀g,g∈yb->g.all jw=true/\g.length<=2/\∃c r,g=c :: r/\c≠10/\c≠35/\c≠32/\c≠34:=by
 intro g hg;simp only[yb,wF,wN,or_false] at hg;rcases hg with rfl|rfl|rfl|rfl|rfl|rfl|rfl|rfl|rfl|rfl|rfl|rfl|rfl|rfl|rfl|rfl|rfl|rfl|rfl|rfl|rfl|rfl|rfl|rfl|rfl <;> exact⟨by decide,by decide,_,_,rfl,by decide,by decide,by decide,by decide⟩
theorem Kr:∀(g r:List UInt8),qf g r=true->r.take g.length=g
 |[],_,_=>by simp
 |_ :: _,[],h=>by simp[qf] at h
 |a :: g,b :: r,h=>by
  simp only[qf,pJ,pK] at h;simp[h.1,Kr g r h.2]
theorem zew{l:List UInt8}(h:jW l=true):l.length<=10:=by
 simp only[jW,pJ,Bool.not_eq_true',pK,wL] at h;obtain⟨⟨⟨h1,h2⟩,h3⟩,h4⟩:=h;cases l with
 |nil=>simp
 |cons c l=>
  rcases h4 with h4|h4
  ·omega
  ·simp only[List.head?_cons] at h4;have hc:c≠48:=fun e=>by subst e;simp at h4
   simp only[List.all_cons,pJ] at h2;have hd:=(jk c).1 h2.1;have h49:49<=c.toNat:=by
    rcases Nat.lt_or_ge c.toNat 49 with h|h
    ·exfalso;apply hc;apply UInt8.toNat_inj.1;have:(48:UInt8).toNat=48:=rfl;omega
    ·exact h
   have:=zcO c l h49;rw[vN] at h3;have hp:10 ^ l.length<=10 ^ 9:=by omega
   have:=(Nat.pow_le_pow_iff_right (by omega:1<10)).1 hp;simp;omega
theorem zcS{c:UInt8}{r:List UInt8}{k m:Nat}{x:List UInt8}(h:xm (c :: r)=some (k,x,m))(hk:k≠4):
 x=(c :: r).take m/\((c :: r).take m).all jw=true/\m<=20/\c≠10/\c≠35/\c≠32/\c≠34:=by
 have sd:∀c,(zN c || zM c)=true->jw c=true:=fun c h=>by
  rw[wL] at h;rcases h with h|h
  ·exact (VN h).1
  ·exact (Qn h).1
 simp only[xm] at h;split at h
 ·rename_i hs;have hb:=VN hs;split at h
  ·rename_i hn;cases h;refine⟨rfl,?_,by omega,hb.2⟩;rw[Nat.add_comm,List.take_succ_cons,List.all_cons,hb.1,zd1 sd _ (Zz _ r)];rfl
  ·cases h
 ·split at h
  ·rename_i hs;have hb:=ziQ hs;split at h
   ·rename_i hn;cases h;refine⟨rfl,?_,by omega,hb.2⟩;rw[Nat.add_comm,List.take_succ_cons,List.all_cons,hb.1,zd1 sd _ (Zz _ r)];rfl
   ·cases h
  ·split at h
   ·rename_i hs;have hb:=Qn hs;split at h
    ·rename_i hn;cases h;have hl:=zew hn;have hr:=uZ zM r;refine⟨rfl,?_,by simp at hl;omega,hb.2⟩;rw[Nat.add_comm,List.take_succ_cons,List.all_cons,hb.1,zd1 (fun c h=>(Qn h).1) _ (Zz _ r)];rfl
    ·cases h
   ·split at h
    ·cases hq:Lode.jl (c :: r) with
     |none=>rw[hq] at h;cases h
     |some y=>rw[hq] at h;cases h;exact absurd rfl hk
    ·rename_i h34;cases hg:yb.find? (fun g=>qf g (c :: r)) with
     |none=>rw[hg] at h;cases h
     |some g=>
      rw[hg] at h;cases h;have h1:=List.find?_some hg;obtain⟨g1,g2,d,q,rfl,g3⟩:=zff _ (List.mem_of_find?_eq_some hg);have ht:=Kr _ _ h1;have hdc:d=c:=by
       simp only[qf,pJ,pK] at h1;exact h1.1
      refine⟨ht.symm,by rw[ht];exact g1,by omega,?_⟩;rw[<-hdc];exact g3
theorem ZY.pre{s:List UInt8}{r:List xT×Nat×Nat}{L:List xT}{a:Nat}(h:ZY s r L a)(h0:r.2.2=0):∃M,r.1=L ++ M:=by
 obtain⟨a',f,_,_,_,_,e⟩:=h;generalize Yk f L.length a' (s.drop a')=x at e;subst e;unfold kg at h0 ⊢;by_cases hx:x.2.2=0
 ·rw[if_pos hx];exact⟨x.1,rfl⟩
 ·rw[if_neg hx] at h0;exact absurd h0 hx
theorem zdc{s:List UInt8}(h:(Lode.vw s).2.2=0):(qd s).2=0:=by
 unfold Lode.vw at h;split at h
 ·exact h
 ·rename_i hc;simpa using hc
theorem Qa{s:List UInt8}(h:(Lode.vw s).2.2=0){k:Nat}{t:List UInt8}(hr:(Lode.vw s).1=[⟨k,t,0⟩]):∃m,xm s=some (k,t,m):=by
 have hi:=ZY.start (zdc h);have hg:=Yf false s;rcases Nat.lt_or_ge (yi false s) s.length with hlt|hge
 ·cases ht:xm (s.drop (yi false s)) with
  |none=>have:=hi.bad hlt ht;rw[this] at h;cases h
  |some x=>
   obtain⟨k',t',m⟩:=x;obtain⟨M,hM⟩:=(hi.next hlt ht (by simp)).pre h;rw[hr] at hM;simp only[wW,wJ,List.cons.injEq,xT.mk.injEq] at hM;obtain⟨⟨rfl,rfl,h0⟩,_⟩:=hM;have h0:yi false s=0:=by omega
   rw[h0,List.drop_zero] at ht;exact⟨m,ht⟩
 ·have:=hi.done hge;rw[this] at hr;cases hr
theorem zhn{c:UInt8}{r:List UInt8}(h1:c≠10)(h2:c≠35)(h3:c≠32):yi false (c :: r)=0:=by simp[yi,h1,h2,h3]
theorem zgJ:Lode.vw []=([],0,0):=by decide +kernel
theorem zfH(k:Nat)(t:List UInt8):xR k t=YH k t:=by
 unfold xR YH;by_cases hk:k=4
 ·rw[if_pos hk,if_pos hk]
 ·rw[if_neg hk,if_neg hk];cases t with
  |nil=>rw[if_pos (Or.inl rfl),if_neg (by rintro ⟨h,_⟩;rw[zgJ] at h;cases h)]
  |cons c r=>
   cases ht:xm (c :: r) with
   |none=>
    rw[if_neg (by rintro ⟨h1,h2⟩;obtain⟨m,h⟩:=Qa h2 h1;rw[ht] at h;cases h)];split <;> rfl
   |some x=>
    obtain⟨k',x,m⟩:=x;have hw:=uI ht;by_cases h4:k'=4
    ·rw[if_neg (by rintro ⟨h1,h2⟩;obtain⟨m,h⟩:=Qa h2 h1;rw[ht] at h;cases h;exact hk h4)];split
     ·rfl
     ·show ([],4)=if m=(c :: r).length/\k'=k then (c :: r,0) else ([],4)
      rw[if_neg (by rintro ⟨_,h⟩;exact hk (h▸h4))]
    ·obtain⟨hx,hall,hm,hc⟩:=zcS ht h4;by_cases hfit:m=(c :: r).length/\k'=k
     ·obtain⟨hm2,rfl⟩:=hfit;have htk:(c :: r).take m=c :: r:=by rw[hm2];exact List.take_length
      rw[htk] at hx hall;have hchk:(qd (c :: r)).2=0:=by
       unfold qd;rw[if_neg (by omega)];have:=YR (c :: r);rw[hall] at this;rw[of_decide_eq_true this]
      have hi:=ZY.start hchk;rw[zhn hc.1 hc.2.1 hc.2.2.1] at hi;have hn:=hi.next (by simp) (by rw[List.drop_zero];exact ht) (by simp);have hd:=hn.done (by rw[hm2];omega);rw[if_pos (by rw[hd,hx];exact⟨rfl,rfl⟩),if_neg (by
       rintro (h|h|h)
       ·cases h
       ·omega
       ·simp only[List.head?_cons,wP] at h;exact hc.2.2.2 h)]
      show (c :: r,0)=if m=(c :: r).length/\k'=k' then (c :: r,0) else ([],4)
      rw[if_pos ⟨hm2,rfl⟩]
     ·rw[if_neg (by
       rintro ⟨h1,h2⟩;obtain⟨m',h⟩:=Qa h2 h1;rw[ht] at h;cases h;apply hfit;refine⟨?_,rfl⟩;have:=congrArg List.length hx;rw[gG] at this;omega)]
      split
      ·rfl
      ·show ([],4)=if m=(c :: r).length/\k'=k then (c :: r,0) else ([],4)
       rw[if_neg hfit]
end
end Go.Proofs.YtcagibbaeageoaaGreatDoor
namespace Lode
def vZ(x:Nd):Nd:={x with at_:=0}
def QG(a b:zQ):Bool:=decide (a.items=b.items) && decide (a.nodes.map vZ=b.nodes.map vZ)
def xH(l:List Nd)(by_:Int):List Nd:=l.map fun x=>{x with kids:=x.kids.map fun k=>k+by_}
def YS(a b:zQ):Bool×Nat:=if zW a≠0 then (false,zW a) else if zW b≠0 then (false,zW b) else (QG a b,0)
def Zn(a b:zQ):Bool×Nat:=if yp a≠0 then (false,yp a) else if yp b≠0 then (false,yp b) else (QG a b,0)
def kD(a b:zQ):zQ:=⟨xH a.nodes 0 ++ xH b.nodes a.nodes.length,a.items ++ b.items.map fun k=>k+(a.nodes.length:Int)⟩
def Km(a b:zQ):zQ×Nat:=if zW a≠0 then (⟨[],[]⟩,zW a) else if zW b≠0 then (⟨[],[]⟩,zW b) else
 if 1000<a.nodes.length+b.nodes.length\/40<a.items.length+b.items.length then (⟨[],[]⟩,5) else (kD a b,0)
def uP(a b:zQ):zQ×Nat:=if yp a≠0 then (⟨[],[]⟩,yp a) else if yp b≠0 then (⟨[],[]⟩,yp b) else
 if 1000<a.nodes.length+b.nodes.length\/40<a.items.length+b.items.length then (⟨[],[]⟩,5) else (kD a b,0)
theorem zhu{a b:zQ}(ha:∀x∈a.nodes,x.kids.length<=1000)(hb:∀x∈b.nodes,x.kids.length<=1000):YS a b=Zn a b:=by
 unfold YS Zn;rw[vf a ha,vf b hb]
theorem ziM{a b:zQ}(ha:∀x∈a.nodes,x.kids.length<=1000)(hb:∀x∈b.nodes,x.kids.length<=1000):Km a b=uP a b:=by
 unfold Km uP;rw[vf a ha,vf b hb]
def k1:List UInt8:=[114,111,111,116,32,97,58,32,105,110,116,32,61,32,49,32,43,32,98,32,42,32,50,59]
def k2:List UInt8:=[102,117,110,32,102,40,41,58,117,110,105,116,123,40,103,41,40,40,49,41,41,59,125]
def k3:List UInt8:=[102,117,110,32,102,32,40,32,41,32,58,32,117,110,105,116,32,123,32,40,103,41,40,40,49,41,41,59,32,59,32,125]
def k4:List UInt8:=[114,111,111,116,32,99,58,32,99,104,97,110,32,105,110,116,32,61,32,99,104,97,110,32,105,110,116,40,57,41,59]
def k5:List UInt8:=[102,117,110,32,102,40,41,58,32,117,110,105,116,32,123,32,97,40,41,32,58,61,32,49,59,32,125]
def k6:List UInt8:=[102,117,110,32,102,40,41,58,32,117,110,105,116,32,123,32,40,84,41,40,49,41,59,32,45,32,45,97,59,32,40,116,104,114,111,119,32,97,41,46,102,59,32,40,110,111,116,32,97,41,32,61,61,32,98,32,125]
def k2o:List UInt8:=[102,117,110,32,102,40,41,58,32,117,110,105,116,32,123,32,103,40,49,41,59,32,125] ++ [10]
def k6o:List UInt8:=[102,117,110,32,102,40,41,58,32,117,110,105,116,32,123,32,40,84,41,40,49,41,59,32,45,32,45,97,59,32,40,116,104,114,111,119,32,97,41,46,102,59,32,40,110,111,116,32,97,41,32,61,61,32,98,32,125] ++ [10]
theorem kn1:(yZ k1).2=(0,0):=by decide +kernel
theorem zmG:(yZ k1).1.nodes.length=7:=by decide +kernel
theorem zmE:zc4 (yZ k1).1 5=(5,0):=by decide +kernel
theorem zmD:zaG (yZ k1).1 4=(5,0):=by decide +kernel
theorem zmF:zgX (yZ k1).1 3=([6,5,4,3],0):=by decide +kernel
theorem zmI:za2 (yZ k1).1 20=(4,0):=by decide +kernel
theorem kn2:ui k2=(k2o,0,0):=by decide +kernel
theorem kn3:(ui k3).2=(29,4):=by decide +kernel
theorem kn4:(yZ k4).2=(19,3):=by decide +kernel
theorem kn5:(yZ k5).2=(20,4):=by decide +kernel
theorem kn6:(yZ k6).2.2=0:=by decide +kernel
theorem zmz:YL (yZ k6).1=(k6o,0):=by decide +kernel
def okB(t:zQ):Bool:=(t.nodes.all fun x=>decide (x.kind<=255) && decide (x.text.length<=100) && decide (x.kids.length<=1000)) && decide (t.nodes.length<=1000) && decide (t.items.length<=1000)
theorem zmH:okB (yZ k1).1=true:=by decide +kernel
theorem zmC:okB (yZ k2).1=true:=by decide +kernel
theorem zmB:okB (yZ k3).1=true:=by decide +kernel
theorem zmA:okB (yZ k6).1=true:=by decide +kernel
end Lode
