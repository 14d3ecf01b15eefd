/-
  A part of the proof: contracts of functions; no conditions.
-/
import Derived.Test.YtcagibbaeageoaaGreatDoorUD
set_option maxRecDepth 100000
set_option maxHeartbeats 40000000
set_option linter.unusedSimpArgs false
set_option linter.unusedVariables false
namespace Lode
def qR(t:z6)(node:Int):Int:=match (List.range t.nodes.length).find? fun (i:Nat)=>decide (node<(i:Int)) && ((t.nodes[i]?).elim [] Nd.kids).contains node with
 |some i=>i
 |none=> -1
def jP(t:z6):Nat→Int→List Int→List Int
 |0,_,acc=>acc
 |f+1,p,acc=>if p<0 then acc else jP t f (qR t p) (p :: acc)
def kT(t:z6)(node:Int):Nat:=if yR t≠0 then yR t else if node<0∨(t.nodes.length:Int)≤node then 7 else 0
def Yg(t:z6)(node:Int):Int×Nat:=if kT t node≠0 then (0,kT t node) else (qR t node,0)
def Xi(t:z6)(node:Int):List Int×Nat:=if kT t node≠0 then ([],kT t node) else (jP t (t.nodes.length+1) node [],0)
def Vm(t:z6)(node:Int):Int×Nat:=if kT t node≠0 then (0,kT t node) else (((xQ t.nodes t.nodes.length).getD node.toNat 0:Nat),0)
def JI(t:z6)(p:Int):Int×Nat:=if yR t≠0 then (0,yR t) else if uI (fun x=>x.at_ == p) t.nodes<0 then (0,7) else (uI (fun x=>x.at_ == p) t.nodes,0)
theorem qK{l:List Nd}(h:xj l l.length){i:Nat}(hi:i<l.length):∀k∈(l[i]'hi).kids,0≤k∧k<i:=by
 obtain⟨p,hp,_,_⟩:=qq h hi;rw[glE hi] at hp;intro k hk;have:=XF _ _ _ hp k (List.mem_reverse.2 hk);omega
theorem zgh{t:z6}(h:xj t.nodes t.nodes.length)(node:Int):upT t node=qR t node:=by
 have hq:∀i (hi:i<t.nodes.length),(decide (node<i) && ((t.nodes[i]?).elim [] Nd.kids).contains node)=(t.nodes[i]'hi).kids.contains node:=fun i hi=>by
  rw[glE hi];simp only[Option.elim];cases hc:(t.nodes[i]'hi).kids.contains node with
  |false=>simp
  |true=>
   have:=qK h hi node (by simpa using hc);simp;omega
 unfold upT qR uI;have e:t.nodes.findIdx? (fun x=>x.kids.contains node)=(List.range t.nodes.length).find? fun (i:Nat)=>decide (node<(i:Int)) && ((t.nodes[i]?).elim [] Nd.kids).contains node:=by
  cases hf:t.nodes.findIdx? (fun x=>x.kids.contains node) with
  |none=>
   symm;rw[List.find?_range_eq_none];intro i hi;rw[hq i hi,List.findIdx?_eq_none_iff.1 hf _ (List.getElem_mem hi)];rfl
  |some i=>
   obtain⟨hi,h1,h2⟩:=List.findIdx?_eq_some_iff_getElem.1 hf;symm;rw[List.find?_range_eq_some];refine⟨by rw[hq i hi];exact h1,List.mem_range.2 hi,fun j hj=>?_⟩;have:=h2 j hj;rw[hq j (by omega)];simpa using this
 rw[e];generalize List.find? _ _=o;cases o <;> rfl
theorem zbZ{t:z6}(h:xj t.nodes t.nodes.length):∀(f:Nat) (p:Int) (acc:List Int),zav t f p acc=jP t f p acc
 |0,_,_=>rfl
 |f+1,p,acc=>by
  unfold zav jP;rw[zgh h];split
  ·rfl
  ·exact zbZ h f _ _
theorem Qs{l:List Nd}{f:Nat}:∀(ks:List Int) (c:Int),(∀k∈ks,Xd l f k=((xQ l l.length).getD k.toNat 0:Nat))→ks.foldl (fun n k=>n+Xd l f k) c=c+(ks.map fun k=>(((xQ l l.length).getD k.toNat 0:Nat):Int)).sum
 |[],c,_=>by simp
 |k :: r,c,h=>by
  rw[List.foldl_cons,Qs r _ (fun j hj=>h j (List.mem_cons_of_mem _ hj)),h k (List.mem_cons_self ..),List.map_cons,List.sum_cons,Int.add_assoc]
theorem J2{out:List Nat}:∀(rk:List Int) (p e:Int),Z2 out rk p=some e→(rk.map fun k=>((out.getD k.toNat 0:Nat):Int)).sum=p-e
 |[],p,e,h=>by cases h;simp
 |k :: r,p,e,h=>by
  unfold Z2 at h;split at h
  ·cases h
  ·rename_i hc;have hk:k=p:=by omega
   have:=J2 r _ e h;rw[List.map_cons,List.sum_cons,this,hk];omega
theorem Z8{l:List Nd}(h:xj l l.length):∀(i f:Nat),i<l.length→i<f→Xd l f i=((xQ l l.length).getD i 0:Nat)
 |i,0,_,hf=>absurd hf (Nat.not_lt_zero _)
 |i,f+1,hi,hf=>by
  obtain⟨p,hp,hsz,hpi⟩:=qq h hi;have hkid:=qK h hi;have hx:l[i]? =some l[i]:=glE hi;rw[hx] at hp;simp only[Option.elim] at hp;unfold Xd;rw[Int.toNat_natCast,hx];simp only[Option.elim];rw[Qs _ _ (fun k hk=>?_)]
  ·have hs:=J2 _ _ _ hp;rw[List.map_reverse,List.sum_reverse] at hs;rw[hs,hsz];omega
  ·obtain⟨h0,h1⟩:=hkid k hk;obtain⟨k',rfl⟩:=Int.eq_ofNat_of_zero_le h0;rw[Int.toNat_natCast];exact Z8 h k' f (by omega) (by omega)
termination_by i=>i
theorem jU{t:z6}(h:yR t=0):xj t.nodes t.nodes.length:=by
 unfold yR at h;split at h
 ·cases h
 ·split at h
  ·cases h
  ·rename_i hf;exact (vU (by simpa using hf)).1
theorem zc3{t:z6}(hm:∀x∈t.nodes,x.kids.length≤1000)(node:Int):Yf t node=Yg t node:=by
 unfold Yf Yt Yg kT;rw[kY t hm];by_cases h:yR t≠0
 ·rw[if_pos h,if_pos h,if_pos h]
 ·rw[if_neg h,if_neg h];by_cases h2:node<0∨(t.nodes.length:Int)≤node
  ·rw[if_pos h2,if_pos h2];rfl
  ·rw[if_neg h2,if_neg h2,zgh (jU (by simpa using h))];rfl
theorem zgR{t:z6}(hm:∀x∈t.nodes,x.kids.length≤1000)(node:Int):VI t node=Xi t node:=by
 unfold VI Yt Xi kT zcy;rw[kY t hm];by_cases h:yR t≠0
 ·rw[if_pos h,if_pos h,if_pos h]
 ·rw[if_neg h,if_neg h];by_cases h2:node<0∨(t.nodes.length:Int)≤node
  ·rw[if_pos h2,if_pos h2];rfl
  ·rw[if_neg h2,if_neg h2,zbZ (jU (by simpa using h))];rfl
theorem zdO{t:z6}(hm:∀x∈t.nodes,x.kids.length≤1000)(node:Int):XZ t node=Vm t node:=by
 unfold XZ Yt Vm kT Vl;rw[kY t hm];by_cases h:yR t≠0
 ·rw[if_pos h,if_pos h,if_pos h]
 ·rw[if_neg h,if_neg h];by_cases h2:node<0∨(t.nodes.length:Int)≤node
  ·rw[if_pos h2,if_pos h2];rfl
  ·rw[if_neg h2,if_neg h2];obtain⟨i,rfl⟩:=Int.eq_ofNat_of_zero_le (show 0≤node by omega);rw[Z8 (jU (by simpa using h)) i _ (by omega) (by omega),Int.toNat_natCast];rfl
theorem zf5{t:z6}(hm:∀x∈t.nodes,x.kids.length≤1000)(p:Int):Y5 t p=JI t p:=by
 unfold Y5 JI;rw[kY t hm]
section
variable (l:List Nd) (pr:Int→List UInt8)
def ziQ(x:Nd)(i:Nat):Bool:=
 if !yy (zK l (zI x i)) then false
 else if x.kind == 23 || (x.kind == 24 && i == 0) then decide (yO (zK l (zI x i))<8) || (x.kind == 24 && zK l (zI x i) == 25 && ((l[(zI x i).toNat]?).elim [] Nd.kids).isEmpty)
 else if x.kind == 24 then false
 else if x.kind == 7 then decide (yO (zK l (zI x i))<3)
 else if yO x.kind == 7 then decide (yO (zK l (zI x i))<7)
 else if yO x.kind == 4 then decide (yO (zK l (zI x i))<5)
 else if yO x.kind == 1 || yO x.kind == 2 || yO x.kind == 5 || yO x.kind == 6 then decide (yO (zK l (zI x i))<yO x.kind+i)
 else false
def zfV(x:Nd)(i:Nat):List UInt8:=if ziQ l x i then [40] ++ pr (zI x i) ++ [41] else pr (zI x i)
end
section
variable {l:List Nd} {pr:Int→List UInt8} {x:Nd} {i:Nat}
theorem xo(h:yd l x=true):xV x.kind=true∧(jH x.kind).1≤x.kids.length∧x.kids.length≤(jH x.kind).2∧zz x.kind x.n x.kids.length=true∧qz x=true∧∀i,i<x.kids.length→yK x.kind x.n x.kids.length i (zK l (zI x i))=true:=by
 unfold yd at h;simp only[Bool.and_eq_true,decide_eq_true_eq,List.all_eq_true,List.mem_range] at h;obtain⟨⟨⟨⟨⟨⟨⟨h1,h2⟩,h3⟩,h4⟩,h5⟩,h6⟩,h7⟩,h8⟩:=h;exact⟨h1,h2,h3,h4,h7,h8⟩
end
def xY(pr:Int→List UInt8):List Int→Nat
 |[]=>0
 |k :: r=>(pr k).length+8+xY pr r
theorem Qk(pr:Int→List UInt8):∀a b:List Int,xY pr (a ++ b)=xY pr a+xY pr b
 |[],_=>by simp[xY]
 |k :: r,b=>by
  show (pr k).length+8+xY pr (r ++ b)=(pr k).length+8+xY pr r+xY pr b
  rw[Qk pr r b];omega
theorem yU(l:List Nd)(pr:Int→List UInt8)(k:Int)(r:Nat):(xr l pr k r).length≤(pr k).length+2:=by
 unfold xr;split
 ·simp only[List.length_append,List.length_cons,List.length_nil];omega
 ·omega
theorem JK(pr:Int→List UInt8):∀ks:List Int,(jT (ks.map pr)).length≤xY pr ks
 |[]=>by simp[jT,xY]
 |[k]=>by
  simp only[List.map_cons,List.map_nil,jT,xY];omega
 |k :: j :: r=>by
  have ih:=JK pr (j :: r);rw[List.map_cons] at ih ⊢;rw[List.map_cons];unfold jT xY;simp only[List.length_append,List.length_cons,List.length_nil] at ih ⊢;omega
theorem jv(pr:Int→List UInt8)(ks:List Int):(qc pr ks).length≤xY pr ks:=JK pr ks
theorem za6(pr:Int→List UInt8)(ks:List Int):(qi pr ks).length≤xY pr ks+2:=by
 unfold qi;have:=jv pr ks;split
 ·simp
 ·simp only[List.length_append,List.length_cons,List.length_nil];omega
theorem Qa(pr:Int→List UInt8)(last:Bool):∀ks:List Int,(xK pr last ks).length≤xY pr ks
 |[]=>by simp[xK,xY]
 |[k]=>by
  unfold xK xY xY;cases last <;> simp
 |k :: j :: r=>by
  have ih:=Qa pr last (j :: r);unfold xK xY;simp only[List.length_append,List.length_cons,List.length_nil] at ih ⊢;omega
theorem uA:∀(d u:Nat),u<10 ^ (d+1)→(Go.Lib.decDigits u).length≤d+1
 |0,u,h=>by
  rw[Go.Lib.decDigits];split
  ·simp
  ·rename_i h2;simp at h;omega
 |d+1,u,h=>by
  rw[Go.Lib.decDigits];split
  ·simp
  ·have:=uA d (u / 10) (by
    rw[Nat.div_lt_iff_lt_mul (by decide)];rw[Nat.pow_succ] at h;exact h)
   rw[List.length_append,List.length_singleton];omega
theorem Kz{n:Int}(h1: -1000000000≤n)(h2:n≤1000000000):(Go.Lib.itoa n).length≤11:=by
 unfold Go.Lib.itoa;split
 ·have:=uA 9 n.natAbs (by omega);simp only[List.length_cons];omega
 ·have:=uA 9 n.toNat (by omega);omega
theorem j8{x:Nd}(h:qz x=true)(h4:xG x.kind≠4):x.text.length≤3000:=by
 unfold qz at h;split at h
 ·have:x.text=[]:=by simpa using h
  rw[this];simp
 ·unfold xE at h;rw[if_neg h4] at h;split at h
  ·rename_i hr;rcases Nat.lt_or_ge 3000 x.text.length with hl|hl
   ·exfalso;have h1:=hr.1;unfold kA xM at h1;rw[if_pos hl] at h1;simp at h1
   ·exact hl
  ·simp at h
theorem zgk:∀l:List UInt8,(l.flatMap yP).length≤2*l.length
 |[]=>by simp
 |c :: r=>by
  have:=zgk r;rw[List.flatMap_cons,List.length_append,List.length_cons];have:(yP c).length≤2:=by
   unfold yP;split
   ·simp
   ·split <;> simp
  omega
theorem zd4(t:List UInt8):(xJ t).1.length≤122:=by
 unfold xJ;split
 ·simp
 ·split
  ·have:=zgk t;simp only[List.length_append,List.length_cons,List.length_nil];omega
  ·simp
section
variable {l:List Nd} {pr:Int→List UInt8} {x:Nd}
theorem zep(hr:yd l x=true)(hk:x.kind∈[1,2,3,4,5,44,45,46,80,81,82,83,84,66,67,68,69]):(zF l pr x).length≤xY pr x.kids+3100:=by
 obtain⟨k,t,n,ks,a⟩:=x;simp only[List.mem_cons,List.not_mem_nil,or_false] at hk;obtain⟨_,h1,h2,hn,ht,hs⟩:=xo hr;clear hr hs h1 h2;have hq:=zd4 t;have ht:xG k≠4→t.length≤3000:=fun h=>j8 ht h
 rcases hk with rfl|rfl|rfl|rfl|rfl|rfl|rfl|rfl|rfl|rfl|rfl|rfl|rfl|rfl|rfl|rfl|rfl
 all_goals simp[zz] at hn
 all_goals simp[xG] at ht
 all_goals simp[zF,yC,z8,yo]
 all_goals first
  |omega
  |(have:=Kz (n:=n) (by omega) (by omega);omega)
  |(split <;> (try simp) <;> omega)
theorem zfR(hr:yd l x=true)(hk:x.kind∈[6,7,23,27,37,38,39,40,42,43,47,50,51,60,61,65,86,87,88]):(zF l pr x).length≤xY pr x.kids+3100:=by
 obtain⟨k,t,n,ks,a⟩:=x;simp only[List.mem_cons,List.not_mem_nil,or_false] at hk;obtain⟨_,h1,h2,hn,ht,hs⟩:=xo hr;clear hr hs;have hl:ks.length=1:=by
  rcases hk with rfl|rfl|rfl|rfl|rfl|rfl|rfl|rfl|rfl|rfl|rfl|rfl|rfl|rfl|rfl|rfl|rfl|rfl|rfl
  all_goals (simp[jH] at h1 h2;omega)
 clear h1 h2;obtain⟨c,rfl⟩:∃c,ks=[c]:=by
  match ks,hl with
  |[c],_=>exact⟨c,rfl⟩
 have ht:t.length≤3000:=j8 ht (by dsimp only;rcases hk with rfl|rfl|rfl|rfl|rfl|rfl|rfl|rfl|rfl|rfl|rfl|rfl|rfl|rfl|rfl|rfl|rfl|rfl|rfl <;> decide);have q3:=yU l pr c 3;have q7:=yU l pr c 7;have q8:=yU l pr c 8;have qa:=jv pr [c];simp only[xY] at qa ⊢;rcases hk with rfl|rfl|rfl|rfl|rfl|rfl|rfl|rfl|rfl|rfl|rfl|rfl|rfl|rfl|rfl|rfl|rfl|rfl|rfl
 all_goals simp[zz] at hn
 all_goals simp[zF,yC,z8,zI,yo,xq,zG]
 all_goals first
  |omega
  |(have:=Kz (n:=n) (by omega) (by omega);omega)
  |(split <;> (try simp) <;> omega)
theorem zfQ(hr:yd l x=true)(hk:x.kind∈[8,9,10,11,12,13,14,15,16,17,18,19,20,21,22,30,32,34,41,48,62,63,104]):(zF l pr x).length≤xY pr x.kids+3100:=by
 obtain⟨k,t,n,ks,a⟩:=x;simp only[List.mem_cons,List.not_mem_nil,or_false] at hk;obtain⟨_,h1,h2,hn,ht,hs⟩:=xo hr;clear hr hs hn;have hl:ks.length=2:=by
  rcases hk with rfl|rfl|rfl|rfl|rfl|rfl|rfl|rfl|rfl|rfl|rfl|rfl|rfl|rfl|rfl|rfl|rfl|rfl|rfl|rfl|rfl|rfl|rfl
  all_goals (simp[jH] at h1 h2;omega)
 clear h1 h2;obtain⟨c,d,rfl⟩:∃c d,ks=[c,d]:=by
  match ks,hl with
  |[c,d],_=>exact⟨c,d,rfl⟩
 have ht:t.length≤3000:=j8 ht (by dsimp only;rcases hk with rfl|rfl|rfl|rfl|rfl|rfl|rfl|rfl|rfl|rfl|rfl|rfl|rfl|rfl|rfl|rfl|rfl|rfl|rfl|rfl|rfl|rfl|rfl <;> decide);have q1:=yU l pr c 1;have q2:=yU l pr c 2;have q5:=yU l pr c 5;have q6:=yU l pr c 6;have p2:=yU l pr d 2;have p3:=yU l pr d 3;have p5:=yU l pr d 5;have p6:=yU l pr d 6;have p7:=yU l pr d 7;have qa:=jv pr [c,d];simp only[xY] at qa ⊢;rcases hk with rfl|rfl|rfl|rfl|rfl|rfl|rfl|rfl|rfl|rfl|rfl|rfl|rfl|rfl|rfl|rfl|rfl|rfl|rfl|rfl|rfl|rfl|rfl
 all_goals simp[zF,yC,yO,z8,zI,yo,xq,zG]
 all_goals omega
theorem zdb(hr:yd l x=true)(hk:x.kind∈[49,64,36]):(zF l pr x).length≤xY pr x.kids+3100:=by
 obtain⟨k,t,n,ks,a⟩:=x;simp only[List.mem_cons,List.not_mem_nil,or_false] at hk;obtain⟨_,h1,h2,hn,ht,hs⟩:=xo hr;clear hr hs hn;have hl:ks.length=3:=by
  rcases hk with rfl|rfl|rfl
  all_goals (simp[jH] at h1 h2;omega)
 clear h1 h2;obtain⟨c,d,e,rfl⟩:∃c d e,ks=[c,d,e]:=by
  match ks,hl with
  |[c,d,e],_=>exact⟨c,d,e,rfl⟩
 have ht:t.length≤3000:=j8 ht (by dsimp only;rcases hk with rfl|rfl|rfl <;> decide);have qa:=jv pr [c,d,e];have qb:=jv pr [c,d];simp only[xY] at qa qb ⊢;rcases hk with rfl|rfl|rfl
 all_goals simp[zF,yC,yO,z8,zI,yo,xq,zG]
 all_goals omega
theorem zhe(hr:yd l x=true)(hk:x.kind=29):(zF l pr x).length≤xY pr x.kids+3100:=by
 obtain⟨k,t,n,ks,a⟩:=x;simp only at hk;subst hk;obtain⟨_,h1,h2,hn,ht,hs⟩:=xo hr;clear hr hs hn ht;simp[jH] at h1 h2
 match ks,h1,h2 with
 |[c,d],_,_=>
  simp only[xY];simp[zF,yC,yO,z8,zI,yo,xq,zG];omega
 |[c,d,e],_,_=>
  simp only[xY];simp[zF,yC,yO,z8,zI,yo,xq,zG];omega
theorem zeo(hr:yd l x=true)(hk:x.kind∈[26,35,100,101,25,70,89,28]):(zF l pr x).length≤xY pr x.kids+3100:=by
 obtain⟨k,t,n,ks,a⟩:=x;simp only[List.mem_cons,List.not_mem_nil,or_false] at hk;obtain⟨_,h1,h2,hn,ht,hs⟩:=xo hr;clear hr hs hn h1 h2;have ht:t.length≤3000:=j8 ht (by dsimp only;rcases hk with rfl|rfl|rfl|rfl|rfl|rfl|rfl|rfl <;> decide);have qa:=jv pr ks;have qp:=za6 pr ks;have qs:=Qa pr (n != 0) ks;simp only;rcases hk with rfl|rfl|rfl|rfl|rfl|rfl|rfl|rfl
 all_goals simp[zF,yC,yO,z8,zI,yo,xq,zG,Zb]
 all_goals first
  |omega
  |(split <;> (try simp) <;> omega)
theorem zen(hr:yd l x=true)(hk:x.kind∈[24,31]):(zF l pr x).length≤xY pr x.kids+3100:=by
 obtain⟨k,t,n,ks,a⟩:=x;simp only[List.mem_cons,List.not_mem_nil,or_false] at hk;obtain⟨_,h1,h2,hn,ht,hs⟩:=xo hr;clear hr hs hn ht;have hl:1≤ks.length:=by
  rcases hk with rfl|rfl
  ·exact h1
  ·exact Nat.le_trans (show 1≤2 by decide) h1
 clear h1 h2;obtain⟨c,r,rfl⟩:∃c r,ks=c :: r:=by
  match ks,hl with
  |c :: r,_=>exact⟨c,r,rfl⟩
 have q8:=yU l pr c 8;have qa:=jv pr r;simp only[xY];rcases hk with rfl|rfl
 all_goals simp[zF,yC,yO,z8,zI,yo,xq,zG]
 all_goals first
  |omega
  |(split <;> (try simp) <;> omega)
theorem zeq(hr:yd l x=true)(hk:x.kind∈[85,103]):(zF l pr x).length≤xY pr x.kids+3100:=by
 obtain⟨k,t,n,ks,a⟩:=x;simp only[List.mem_cons,List.not_mem_nil,or_false] at hk;obtain⟨_,h1,h2,hn,ht,hs⟩:=xo hr;clear hr hs hn;have hl:1≤ks.length:=by
  rcases hk with rfl|rfl
  ·exact h1
  ·exact h1
 clear h1 h2;obtain⟨r,c,rfl⟩:∃r c,ks=r ++ [c]:=⟨ks.dropLast,ks.getLast (by intro e;rw[e] at hl;simp at hl),(List.dropLast_concat_getLast _).symm⟩;have ht:t.length≤3000:=j8 ht (by dsimp only;rcases hk with rfl|rfl <;> decide);have qa:=jv pr r;rw[Qk];simp only[xY];rcases hk with rfl|rfl
 all_goals simp[zF,yC,yO,z8,zI,yo,xq,zG,yM]
 all_goals omega
theorem zfS(hr:yd l x=true)(hk:x.kind∈[33,102]):(zF l pr x).length≤xY pr x.kids+3100:=by
 obtain⟨k,t,n,ks,a⟩:=x;simp only[List.mem_cons,List.not_mem_nil,or_false] at hk;obtain⟨_,h1,h2,hn,ht,hs⟩:=xo hr;clear hr hs hn;have hl:2≤ks.length:=by
  rcases hk with rfl|rfl
  ·exact h1
  ·exact h1
 clear h1 h2;obtain⟨r,c,d,rfl⟩:∃r c d,ks=r ++ [c,d]:=by
  refine⟨ks.dropLast.dropLast,ks.dropLast.getLast (by intro e;have:=congrArg List.length e;simp at this;omega),ks.getLast (by intro e;rw[e] at hl;simp at hl),?_⟩;rw[show ∀(a b:Int),[a,b]=[a] ++ [b] from fun _ _=>rfl,←List.append_assoc,List.dropLast_concat_getLast,List.dropLast_concat_getLast]
 have ht:t.length≤3000:=j8 ht (by dsimp only;rcases hk with rfl|rfl <;> decide);have qa:=jv pr r;rw[Qk];simp only[xY];have e1:(r ++ [c,d]).getD r.length 0=c:=by simp[List.getD_eq_getElem?_getD]
 have e2:(r ++ [c,d]).getD (r.length+1) 0=d:=by simp[List.getD_eq_getElem?_getD]
 rcases hk with rfl|rfl
 all_goals simp[zF,yC,yO,z8,zI,yo,xq,zG,yM]
 all_goals first
  |omega
  |(split <;> (try simp) <;> omega)
theorem zc1(hr:yd l x=true):(zF l pr x).length≤xY pr x.kids+3100:=by
 have hk:=(xo hr).1;have hm:∀k,k<105→(!xV k || decide (k∈[1,2,3,4,5,44,45,46,80,81,82,83,84,66,67,68,69]) || decide (k∈[6,7,23,27,37,38,39,40,42,43,47,50,51,60,61,65,86,87,88]) || decide (k∈[8,9,10,11,12,13,14,15,16,17,18,19,20,21,22,30,32,34,41,48,62,63,104]) || decide (k∈[49,64,36]) || decide (k=29) || decide (k∈[26,35,100,101,25,70,89,28]) || decide (k∈[24,31]) || decide (k∈[85,103]) || decide (k∈[33,102]))=true:=by decide +kernel
 have h:=hm _ (Nat.lt_succ_of_le (vo hk));rw[hk] at h;simp only[Bool.not_true,Bool.false_or,Bool.or_eq_true,decide_eq_true_eq] at h;rcases h with (((((((h|h)|h)|h)|h)|h)|h)|h)|h
 ·exact zep hr h
 ·exact zfR hr h
 ·exact zfQ hr h
 ·exact zdb hr h
 ·exact zhe hr h
 ·exact zeo hr h
 ·exact zen hr h
 ·exact zeq hr h
 ·exact zfS hr h
end
theorem zb7{pr:Int→List UInt8}{z:Int→Nat}:∀ks:List Int,(∀k∈ks,(pr k).length+8≤3200*z k)→(xY pr ks:Int)≤3200*(ks.map fun k=>(z k:Int)).sum
 |[],_=>by simp[xY]
 |k :: r,h=>by
  have ih:=zb7 (pr:=pr) (z:=z) r (fun j hj=>h j (List.mem_cons_of_mem _ hj));have h1:=h k (List.mem_cons_self ..);rw[List.map_cons,List.sum_cons];unfold xY;omega
theorem zd9{l:List Nd}(hF:xj l l.length)(hR:∀x∈l,yd l x=true):∀(i f:Nat),i<l.length→(prN l f i).length+8≤3200*(xQ l l.length).getD i 0
 |i,0,hi=>by
  obtain⟨p,hp,hsz,hpi⟩:=qq hF hi;show 0+8≤_
  omega
 |i,f+1,hi=>by
  obtain⟨p,hp,hsz,hpi⟩:=qq hF hi;have hkid:=qK hF hi;have hx:l[i]? =some l[i]:=glE hi;have hr:=hR _ (List.getElem_mem hi);rw[hx] at hp;simp only[Option.elim] at hp;have hs:=J2 _ _ _ hp;rw[List.map_reverse,List.sum_reverse] at hs;have h1:=zc1 (pr:=prN l f) hr;have h2:=zb7 (pr:=prN l f) (z:=fun k=>(xQ l l.length).getD k.toNat 0) l[i].kids (fun k hk=>by
   obtain⟨h0,h1⟩:=hkid k hk;obtain⟨k',rfl⟩:=Int.eq_ofNat_of_zero_le h0;simp only[Int.toNat_natCast];exact zd9 hF hR k' f (by omega))
  rw[hs] at h2;have e2:prN l (f+1) i=zF l (prN l f) l[i]:=by
   show (match l[(i:Int).toNat]? with|some x=>zF l (prN l f) x|none=>[])=_
   rw[Int.toNat_natCast,hx]
  rw[e2];omega
termination_by _ f=>f
theorem zdG{out:List Nat}:∀(rk:List Int) (p e:Int),-1≤p→(∀j:Nat,(j:Int)≤p→out.getD j 0≤j+1)→Z2 out rk p=some e→-1≤e
 |[],p,e,hp,_,h=>by cases h;exact hp
 |k :: r,p,e,hp,ho,h=>by
  unfold Z2 at h;split at h
  ·cases h
  ·rename_i hc;have h1:=ho p.toNat (by omega);exact zdG r _ e (by omega) (fun j hj=>ho j (by omega)) h
theorem zaD{l:List Nd}{n:Nat}(hF:xj l n):∀(i:Nat),i<n→(xQ l n).getD i 0≤i+1:=by
 intro i;induction i using Nat.strongRecOn with
 |ind i ih=>
  intro hi;obtain⟨p,hp,hsz,hpi⟩:=qq hF hi;have:=zdG _ _ _ (by omega) (fun j hj=>ih j (by omega) (by omega)) hp;omega
theorem Jk{l:List Nd}(hF:xj l l.length)(hR:∀x∈l,yd l x=true)(hn:l.length≤1000)(f i:Nat)(hi:i<l.length):(prN l f i).length≤3200000:=by
 have h1:=zd9 hF hR i f hi;have h2:=zaD hF i hi;omega
def Kb(c:Nat)(s:yD):Prop:=∀x∈s.nodes,x.kids.length≤c
structure Kp{α:Type}(Q:α→Prop)(n:Nat)(m:PM α):Prop where
 out:∀(E:zN) (s:yD) (a:α) (s':yD),E.toks.length=n→Kb (n+8) s→m E s=.ok a s'→Kb (n+8) s'∧Q a
abbrev Any{α:Type}:α→Prop:=fun _=>True
abbrev yZ(n:Nat):List Int→Prop:=fun l=>l.length≤n
theorem Kp.bind{α β:Type}{Q:α→Prop}{P:β→Prop}{n:Nat}{m:PM α}{f:α→PM β}(hm:Kp Q n m)(hf:∀a,Q a→Kp P n (f a)):Kp P n (m >>= f):=by
 refine⟨fun E s a s' hE hk h=>?_⟩;obtain⟨x,s1,h1,h⟩:=zy h;obtain⟨k1,q1⟩:=hm.out _ _ _ _ hE hk h1;exact (hf x q1).out _ _ _ _ hE k1 h
theorem Kp.pure{α:Type}{Q:α→Prop}{n:Nat}{a:α}(h:Q a):Kp Q n (pure a:PM α):=by
 refine⟨fun E s b s' _ hk e=>?_⟩;obtain⟨rfl,rfl⟩:=yE e;exact⟨hk,h⟩
theorem Kp.ite{α:Type}{Q:α→Prop}{n:Nat}{c:Prop}[Decidable c]{a b:PM α}(ha:Kp Q n a)(hb:Kp Q n b):Kp Q n (if c then a else b):=by
 split
 ·exact ha
 ·exact hb
section
variable {n:Nat}
theorem yG{x:List UInt8}:Kp Any n (zX x):=by
 refine⟨fun E s a s' _ hk h=>?_⟩;unfold zX at h;split at h <;> cases h;exact⟨hk,trivial⟩
theorem qA{k:Nat}:Kp Any n (xB k):=by
 refine⟨fun E s a s' _ hk h=>?_⟩;unfold xB at h;split at h <;> cases h;exact⟨hk,trivial⟩
theorem qH{x:List UInt8}:Kp Any n (yz x):=by
 refine⟨fun E s a s' _ hk h=>?_⟩;unfold yz at h;split at h <;> cases h <;> exact⟨hk,trivial⟩
theorem jq:Kp Any n ZP:=by
 refine⟨fun E s a s' _ hk h=>?_⟩;cases h;exact⟨hk,trivial⟩
theorem kh{l:List (List UInt8)}:Kp Any n (YB l):=by
 refine⟨fun E s a s' _ hk h=>?_⟩;cases h;exact⟨hk,trivial⟩
theorem qY:Kp Any n jf:=by
 refine⟨fun E s a s' _ hk h=>?_⟩;cases h;exact⟨hk,trivial⟩
theorem jr:Kp Any n uE:=by
 refine⟨fun E s a s' _ hk h=>?_⟩;cases h;exact⟨hk,trivial⟩
theorem qV{k:Int}:Kp Any n (zb0 k):=by
 refine⟨fun E s a s' _ hk h=>?_⟩;cases h;exact⟨hk,trivial⟩
theorem jY{α:Type}{Q:α→Prop}:Kp Q n (zef (α:=α)):=by
 refine⟨fun E s a s' _ hk h=>?_⟩;cases h
theorem qx{kind:Nat}{text:List UInt8}{m at_:Int}{kids:List Int}(hl:kids.length≤n+8):Kp Any n (zZ kind text m at_ kids):=by
 refine⟨fun E s a s' _ hk h=>?_⟩;cases h;refine⟨fun x hx=>?_,trivial⟩;rcases List.mem_append.1 hx with hx|hx
 ·exact hk x hx
 ·rw[List.mem_singleton] at hx;rw[hx];exact hl
structure zi9(n:Nat)(R:xD):Prop where
 expr:Kp Any n R.expr
 unary:Kp Any n R.unary
 bin2:Kp Any n R.bin2
 block:Kp Any n R.block
 branch:Kp Any n R.branch
 kind:Kp Any n R.kind
 pattern:Kp Any n R.pattern
theorem VV{part:PM Int}(hp:Kp Any n part):∀(k:Nat) (acc:List Int),Kp (yZ (acc.length+k)) n (kS k part acc)
 |0,_=>by
  refine⟨fun E s a s' _ _ h=>?_⟩;cases h
 |k+1,acc=>by
  unfold kS;refine Kp.bind hp (fun x _=>Kp.bind qH (fun b _=>Kp.ite ?_ (Kp.pure ?_)))
  ·have:=VV hp k (acc ++ [x]);rw[List.length_append] at this;rw[show acc.length+(k+1)=acc.length+[x].length+k by simp only[List.length_singleton];omega];exact this
  ·simp only[yZ,List.length_append,List.length_singleton];omega
theorem Ku{part:PM Int}(hp:Kp Any n part):Kp (yZ (n+1)) n (vh part):=by
 refine⟨fun E s a s' hE hk h=>?_⟩;have:=(VV hp (E.toks.length+1) []).out _ _ _ _ hE hk h;refine⟨this.1,?_⟩;have h2:=this.2;simp only[yZ,List.length_nil] at h2 ⊢;omega
theorem Zj{part:PM Int}(hp:Kp Any n part):Kp (yZ (n+1)) n (qM part):=by
 unfold qM;exact Kp.bind yG (fun _ _=>Kp.bind (Ku hp) (fun l hl=>Kp.bind yG (fun _ _=>Kp.pure hl)))
theorem yg{part:PM Int}(hp:Kp Any n part):Kp (yZ (n+1)) n (jd part):=by
 unfold jd;refine Kp.bind qH (fun b _=>Kp.ite (Kp.bind (Ku hp) (fun l hl=>Kp.bind yG (fun _ _=>Kp.pure hl))) (Kp.pure ?_));simp[yZ]
theorem yw{part:PM Int}{w:List (List UInt8)}(hp:Kp Any n part):Kp (yZ (n+1)) n (do if ←YB w then pure [] else vh part:PM (List Int)):=by
 refine Kp.bind kh (fun b _=>Kp.ite (Kp.pure ?_) (Ku hp));simp[yZ]
variable {R:xD} (hR:zi9 n R)
include hR
theorem VJ:Kp Any n (uj R):=by
 unfold uj
 repeat' (first|exact yG|exact qA|exact qH|exact jq|exact kh|exact qY|exact jr|exact qV|exact jY|exact hR.expr|exact hR.unary|exact hR.bin2|exact hR.block|exact hR.branch|exact hR.kind|exact hR.pattern|exact yg hR.expr|exact yg hR.kind|exact yg hR.pattern|exact yw hR.expr|exact yw hR.kind|(refine qx ?_;first|(simp;done)|(simp[yZ] at *;omega))|apply Kp.bind|intro _ _|refine Kp.ite ?_ ?_|exact Kp.pure trivial)
theorem zfW:Kp Any n (Xj R):=by
 unfold Xj
 repeat' (first|exact yG|exact qA|exact qH|exact jq|exact kh|exact qY|exact jr|exact qV|exact jY|exact hR.expr|exact hR.unary|exact hR.bin2|exact hR.block|exact hR.branch|exact hR.kind|exact hR.pattern|exact yg hR.expr|exact yg hR.kind|exact yg hR.pattern|exact yw hR.expr|exact yw hR.kind|(refine qx ?_;first|(simp;done)|(simp[yZ] at *;omega))|apply Kp.bind|intro _ _|refine Kp.ite ?_ ?_|exact Kp.pure trivial)
theorem zcd:Kp (yZ (n+2)) n (Zx R):=by
 unfold Zx;refine Kp.bind yG (fun _ _=>Kp.bind (yw (VJ hR)) (fun l hl=>Kp.bind yG (fun _ _=>Kp.bind yG (fun _ _=>Kp.bind hR.kind (fun k _=>Kp.pure ?_)))));simp only[yZ,List.length_append,List.length_singleton] at hl ⊢;omega
theorem zfT:Kp Any n (Xt R):=by
 unfold Xt
 repeat' (first|exact yG|exact qA|exact qH|exact jq|exact kh|exact qY|exact jr|exact qV|exact jY|exact hR.expr|exact hR.unary|exact hR.bin2|exact hR.block|exact hR.branch|exact hR.kind|exact hR.pattern|exact yg hR.expr|exact yg hR.kind|exact yg hR.pattern|exact yw hR.expr|exact yw hR.kind|(refine qx ?_;first|(simp;done)|(simp[yZ] at *;omega))|apply Kp.bind|intro _ _|refine Kp.ite ?_ ?_|exact Kp.pure trivial)
theorem zfh:Kp Any n (Zv R):=by
 unfold Zv
 repeat' (first|exact yG|exact qA|exact qH|exact jq|exact kh|exact qY|exact jr|exact qV|exact jY|exact hR.expr|exact hR.unary|exact hR.bin2|exact hR.block|exact hR.branch|exact hR.kind|exact hR.pattern|exact yg hR.expr|exact yg hR.kind|exact yg hR.pattern|exact yw hR.expr|exact yw hR.kind|(refine qx ?_;first|(simp;done)|(simp[yZ] at *;omega))|apply Kp.bind|intro _ _|refine Kp.ite ?_ ?_|exact Kp.pure trivial)
theorem Vf:∀(k:Nat) (acc:List Int),Kp (fun x:List Int×Int=>x.1.length≤acc.length+k) n (qv R k acc)
 |0,_=>by
  refine⟨fun E s a s' _ _ h=>?_⟩;cases h
 |k+1,acc=>by
  unfold qv;refine Kp.bind kh (fun b _=>Kp.ite (Kp.pure (by simp)) (Kp.bind (zfh hR) (fun x _=>?_)));have hs:=Vf k (acc ++ [x.1]);rw[List.length_append,List.length_singleton,show acc.length+1+k=acc.length+(k+1) by omega] at hs;refine Kp.bind kh (fun b _=>Kp.ite (Kp.pure ?_) (Kp.bind yG (fun _ _=>hs)));simp only[List.length_append,List.length_singleton];omega
theorem zeJ:Kp Any n (uW R):=by
 unfold uW;refine Kp.bind yG (fun t _=>Kp.bind (Q:=fun x:List Int×Int=>x.1.length≤n+1) ?_ (fun x hx=>Kp.bind yG (fun _ _=>qx (by omega))));refine⟨fun E s a s' hE hk h=>?_⟩;have:=(Vf hR (E.toks.length+1) []).out _ _ _ _ hE hk h;refine⟨this.1,?_⟩;have h2:=this.2;simp only[List.length_nil] at h2;omega
omit hR in
theorem zeh{tight:PM Int}(ht:Kp Any n tight)(lv:Nat):∀(k:Nat) (left:Int),Kp Any n (QT lv tight k left)
 |0,_=>by
  refine⟨fun E s a s' _ _ h=>?_⟩;cases h
 |k+1,left=>by
  unfold QT;refine Kp.bind kh (fun b _=>Kp.ite (Kp.bind jr (fun t _=>Kp.bind ht (fun r _=>Kp.bind (qx (by simp only[List.length_cons,List.length_nil];omega)) (fun x _=>Kp.ite (Kp.pure trivial) (zeh ht lv k x))))) (Kp.pure trivial))
omit hR in
theorem QE{tight:PM Int}(ht:Kp Any n tight)(lv:Nat):Kp Any n (uP lv tight):=by
 unfold uP;refine Kp.bind ht (fun l _=>?_);refine⟨fun E s a s' hE hk h=>?_⟩;exact (zeh ht lv _ l).out _ _ _ _ hE hk h
theorem zbP:∀(k:Nat) (first:Bool) (acc:List Int),Kp (yZ (acc.length+k)) n (je R k first acc)
 |0,_,acc=>by
  unfold je;exact Kp.pure (by simp[yZ])
 |k+1,first,acc=>by
  unfold je;refine Kp.bind (Q:=Any) (Kp.ite (Kp.pure trivial) (Kp.bind yG (fun _ _=>Kp.pure trivial))) (fun _ _=>Kp.bind hR.expr (fun x _=>?_));have hs:=zbP k false (acc ++ [x]);rw[List.length_append,List.length_singleton,show acc.length+1+k=acc.length+(k+1) by omega] at hs;exact hs
theorem ze9(t:xF)(w:Nat×Int)(hw:w.2≤3):Kp Any n (kF R t w):=by
 unfold kF;refine Kp.bind (Q:=yZ 3) ?_ (fun l hl=>qx (by simp only[yZ] at hl;omega));refine Kp.ite (Kp.bind hR.unary (fun x _=>Kp.pure (by simp[yZ]))) (Kp.ite (Kp.bind yG (fun _ _=>Kp.bind (zbP hR w.2.toNat true []) (fun l hl=>Kp.bind yG (fun _ _=>Kp.pure ?_)))) (Kp.pure (by simp[yZ])));simp only[yZ,List.length_nil] at hl ⊢;omega
theorem zg2:Kp Any n (VK R):=by
 unfold VK
 repeat' (first|exact yG|exact qA|exact qH|exact jq|exact kh|exact qY|exact jr|exact qV|exact jY|exact hR.expr|exact hR.unary|exact hR.bin2|exact hR.block|exact hR.branch|exact hR.kind|exact hR.pattern|exact yg hR.expr|exact yg hR.kind|exact yg hR.pattern|exact yw hR.expr|exact yw hR.kind|(refine qx ?_;first|(simp;done)|(simp[yZ] at *;omega))|apply Kp.bind|intro _ _|refine Kp.ite ?_ ?_|exact Kp.pure trivial)
theorem zht:Kp Any n (VL R):=by
 unfold VL
 repeat' (first|exact yG|exact qA|exact qH|exact jq|exact kh|exact qY|exact jr|exact qV|exact jY|exact hR.expr|exact hR.unary|exact hR.bin2|exact hR.block|exact hR.branch|exact hR.kind|exact hR.pattern|exact yg hR.expr|exact yg hR.kind|exact yg hR.pattern|exact yw hR.expr|exact yw hR.kind|(refine qx ?_;first|(simp;done)|(simp[yZ] at *;omega))|apply Kp.bind|intro _ _|refine Kp.ite ?_ ?_|exact Kp.pure trivial)
theorem zbM:∀(k:Nat) (acc:List Int),Kp (yZ (acc.length+k)) n (Zu R k acc)
 |0,_=>by
  refine⟨fun E s a s' _ _ h=>?_⟩;cases h
 |k+1,acc=>by
  unfold Zu;have hs:∀r:Int,Kp (yZ (acc.length+(k+1))) n (Zu R k (acc ++ [r])):=fun r=>by
   have hs:=zbM k (acc ++ [r]);rw[List.length_append,List.length_singleton,show acc.length+1+k=acc.length+(k+1) by omega] at hs;exact hs
  have hp:∀r:Int,Kp (yZ (acc.length+(k+1))) n (pure (acc ++ [r]):PM (List Int)):=fun r=>Kp.pure (by simp only[yZ,List.length_append,List.length_singleton];omega)
  repeat' (first|exact hs _|exact hp _|exact yG|exact qA|exact qH|exact jq|exact hR.expr|(refine qx ?_;first|(simp;done)|(simp[yZ] at *;omega))|apply Kp.bind|intro _ _|refine Kp.ite ?_ ?_)
theorem zcJ:Kp (yZ (n+1)) n (vg R):=by
 unfold vg;refine Kp.bind yG (fun t _=>Kp.bind (Q:=yZ (n+1)) ?_ (fun l hl=>Kp.bind yG (fun _ _=>Kp.pure hl)));refine⟨fun E s a s' hE hk h=>?_⟩;have:=(zbM hR (E.toks.length+1) []).out _ _ _ _ hE hk h;refine⟨this.1,?_⟩;have h2:=this.2;simp only[yZ,List.length_nil] at h2 ⊢;omega
theorem JL:Kp Any n (kH R):=by
 unfold kH
 repeat' (first|exact yG|exact qA|exact qH|exact jq|exact kh|exact qY|exact jr|exact qV|exact jY|exact hR.expr|exact hR.unary|exact hR.bin2|exact hR.block|exact hR.branch|exact hR.kind|exact hR.pattern|exact yg hR.expr|exact yg hR.kind|exact yg hR.pattern|exact yw hR.expr|exact yw hR.kind|(refine qx ?_;first|(simp;done)|(simp[yZ] at *;omega))|apply Kp.bind|intro _ _|refine Kp.ite ?_ ?_|exact Kp.pure trivial)
theorem ZW(t:xF):Kp Any n (xU R t):=by
 unfold xU;refine Kp.bind kh (fun _ _=>Kp.ite (JL hR) ?_)
 repeat' (first|exact yG|exact qA|exact qH|exact hR.expr|exact hR.block|exact hR.kind|exact Zj (zht hR)|exact Zj (zg2 hR)|exact zcd hR|exact zcJ hR|(refine qx ?_;first|(simp;done)|(simp[yZ] at *;omega))|apply Kp.bind|intro _ _|refine Kp.ite ?_ ?_)
omit hR in
theorem zcv{s:List UInt8}{w:Nat×Int}(h:ky s=some w):w.2≤3:=by
 unfold ky at h;cases hf:z8.find? (fun w=>w.1 == s) with
 |none=>rw[hf] at h;cases h
 |some x=>
  rw[hf] at h;cases h;have:=List.mem_of_find?_eq_some hf;revert x;intro x _ hx;have:∀y∈z8,y.2.2≤3:=by decide
  exact this x hx
theorem zga:Kp Any n (Zy R):=by
 unfold Zy;refine Kp.bind jq (fun t _=>?_)
 repeat' (first|exact yG|exact qH|exact qY|exact hR.expr|exact yg hR.expr|exact ZW hR _|exact Kp.pure trivial|(refine qx ?_;first|(simp;done)|(simp[yZ] at *;omega))|apply Kp.bind|intro _ _|refine Kp.ite ?_ ?_)
 split
 ·rename_i w hw;refine Kp.ite (Kp.bind qY (fun _ _=>ze9 hR t w (zcv hw))) (ZW hR t)
 ·exact ZW hR t
theorem zbY:∀(k:Nat) (left:Int),Kp Any n (Zw R k left)
 |0,_=>by
  refine⟨fun E s a s' _ _ h=>?_⟩;cases h
 |k+1,left=>by
  unfold Zw;have hs:∀r:Int,Kp Any n (Zw R k r):=fun r=>zbY k r
  repeat' (first|exact hs _|exact yG|exact qA|exact qH|exact jq|exact yw hR.expr|exact Kp.pure trivial|(refine qx ?_;first|(simp;done)|(simp[yZ] at *;omega))|apply Kp.bind|intro _ _|refine Kp.ite ?_ ?_)
theorem K7:Kp Any n (ux R):=by
 unfold ux;refine Kp.bind kh (fun _ _=>Kp.ite ?_ ?_)
 ·repeat' (first|exact yG|exact qA|exact qH|exact jq|exact kh|exact qY|exact jr|exact qV|exact jY|exact hR.expr|exact hR.unary|exact hR.bin2|exact hR.block|exact hR.branch|exact hR.kind|exact hR.pattern|exact yg hR.expr|exact yg hR.kind|exact yg hR.pattern|exact yw hR.expr|exact yw hR.kind|(refine qx ?_;first|(simp;done)|(simp[yZ] at *;omega))|apply Kp.bind|intro _ _|refine Kp.ite ?_ ?_|exact Kp.pure trivial)
 ·refine Kp.bind (zga hR) (fun l _=>?_);refine⟨fun E s a s' hE hk h=>?_⟩;exact (zbY hR _ l).out _ _ _ _ hE hk h
theorem zab:Kp Any n (Ys R):=by
 unfold Ys;refine Kp.bind kh (fun _ _=>Kp.ite ?_ ?_)
 ·repeat' (first|exact yG|exact qA|exact qH|exact jq|exact kh|exact qY|exact jr|exact qV|exact jY|exact hR.expr|exact hR.unary|exact hR.bin2|exact hR.block|exact hR.branch|exact hR.kind|exact hR.pattern|exact yg hR.expr|exact yg hR.kind|exact yg hR.pattern|exact yw hR.expr|exact yw hR.kind|(refine qx ?_;first|(simp;done)|(simp[yZ] at *;omega))|apply Kp.bind|intro _ _|refine Kp.ite ?_ ?_|exact Kp.pure trivial)
 ·exact QE (QE (QE (K7 hR) 4) 3) 2
theorem zf8:Kp Any n (zeC R):=QE (QE (zab hR) 1) 0
theorem zbb:Kp Any n (kj R):=by
 unfold kj
 repeat' (first|exact yG|exact qA|exact qH|exact jq|exact kh|exact qY|exact jr|exact qV|exact jY|exact hR.expr|exact hR.unary|exact hR.bin2|exact hR.block|exact hR.branch|exact hR.kind|exact hR.pattern|exact yg hR.expr|exact yg hR.kind|exact yg hR.pattern|exact yw hR.expr|exact yw hR.kind|(refine qx ?_;first|(simp;done)|(simp[yZ] at *;omega))|apply Kp.bind|intro _ _|refine Kp.ite ?_ ?_|exact Kp.pure trivial)
omit hR in
theorem uO:∀k:Nat,zi9 n (ZL k)
 |0=>⟨⟨fun _ _ _ _ _ _ h=>by (cases h)⟩,⟨fun _ _ _ _ _ _ h=>by (cases h)⟩,⟨fun _ _ _ _ _ _ h=>by (cases h)⟩,⟨fun _ _ _ _ _ _ h=>by (cases h)⟩,⟨fun _ _ _ _ _ _ h=>by (cases h)⟩,⟨fun _ _ _ _ _ _ h=>by (cases h)⟩,⟨fun _ _ _ _ _ _ h=>by (cases h)⟩⟩
 |k+1=>⟨zf8 (uO k),K7 (uO k),zab (uO k),zeJ (uO k),JL (uO k),zfT (uO k),zbb (uO k)⟩
theorem zfX:Kp Any n (Yh R):=by
 unfold Yh
 repeat' (first|exact yG|exact qA|exact qH|exact jq|exact hR.expr|exact hR.block|exact hR.kind|exact Zj (VJ hR)|exact Zj (zfW hR)|exact zcd hR|(refine qx ?_;first|(simp;done)|(simp[yZ] at *;omega))|apply Kp.bind|intro _ _|refine Kp.ite ?_ ?_)
end
theorem V3{R:xD}(hR:yJ R):Gd 1 Vd (Yh R):=by
 intro E s a s' h0 hw h;have N:=Nx.refl h0 hw;unfold Yh at h;obtain⟨t,s0,h1,h⟩:=zy h;cases h1;obtain⟨a1,sa1,ha1,h⟩:=zy h;have na1:=uo N.le N.wf ha1;replace N:=N.trans na1;cases a1 with
 |true=>
  rw[if_pos rfl] at h;obtain⟨m,sm,hm,h⟩:=zy h;obtain⟨nm,vm⟩:=(yl (by decide)) N.le N.wf hm;replace N:=N.trans nm;obtain⟨l,sl,hl,h⟩:=zy h;obtain⟨nl,vl⟩:=(jk (vP hR)) N.le N.wf hl;replace N:=N.trans nl;obtain⟨nz,vz⟩:=zU N.le N.wf (vl) h;exact⟨(N.trans nz).down (by decide),vz⟩
 |false=>
 rw[if_neg (by decide)] at h;obtain⟨a2,sa2,ha2,h⟩:=zy h;have na2:=uo N.le N.wf ha2;replace N:=N.trans na2;cases a2 with
 |true=>
  rw[if_pos rfl] at h;obtain⟨m,sm,hm,h⟩:=zy h;obtain⟨nm,vm⟩:=(yl (by decide)) N.le N.wf hm;replace N:=N.trans nm;obtain⟨l,sl,hl,h⟩:=zy h;obtain⟨nl,vl⟩:=(jk (Kw hR)) N.le N.wf hl;replace N:=N.trans nl;obtain⟨nz,vz⟩:=zU N.le N.wf (vl) h;exact⟨(N.trans nz).down (by decide),vz⟩
 |false=>
 rw[if_neg (by decide)] at h;obtain⟨a3,sa3,ha3,h⟩:=zy h;have na3:=uo N.le N.wf ha3;replace N:=N.trans na3;cases a3 with
 |true=>
  rw[if_pos rfl] at h;obtain⟨q,sq,hq,h⟩:=zy h;obtain⟨nq,vq⟩:=zv N.le N.wf hq;replace N:=N.trans nq;obtain⟨m,sm,hm,h⟩:=zy h;obtain⟨nm,vm⟩:=(yl (by decide)) N.le N.wf hm;replace N:=N.trans nm;obtain⟨l,sl,hl,h⟩:=zy h;obtain⟨nl,vl⟩:=(uw hR) N.le N.wf hl;replace N:=N.trans nl;obtain⟨r,sr,hr,h⟩:=zy h;obtain⟨nr,vr⟩:=zv N.le N.wf hr;replace N:=N.trans nr;replace vl:=vl.later nr;obtain⟨nz,vz⟩:=zU N.le N.wf (vl) h;exact⟨(N.trans nz).down (by decide),vz⟩
 |false=>
 rw[if_neg (by decide)] at h;obtain⟨a4,sa4,ha4,h⟩:=zy h;have na4:=uo N.le N.wf ha4;replace N:=N.trans na4;cases a4 with
 |true=>
  rw[if_pos rfl] at h;obtain⟨m,sm,hm,h⟩:=zy h;obtain⟨nm,vm⟩:=(yl (by decide)) N.le N.wf hm;replace N:=N.trans nm;obtain⟨q,sq,hq,h⟩:=zy h;obtain⟨nq,vq⟩:=zv N.le N.wf hq;replace N:=N.trans nq;obtain⟨k,sk,hk,h⟩:=zy h;obtain⟨nk,vk⟩:=hR.kind N.le N.wf hk;replace N:=N.trans nk;obtain⟨r,sr,hr,h⟩:=zy h;obtain⟨nr,vr⟩:=zv N.le N.wf hr;replace N:=N.trans nr;replace vk:=vk.later nr;obtain⟨x,sx,hx,h⟩:=zy h;obtain⟨nx,vx⟩:=hR.expr N.le N.wf hx;replace N:=N.trans nx;replace vk:=vk.later nx;obtain⟨y,sy,hy,h⟩:=zy h;obtain⟨ny,vy⟩:=zv N.le N.wf hy;replace N:=N.trans ny;replace vk:=vk.later ny;replace vx:=vx.later ny;obtain⟨nz,vz⟩:=zU N.le N.wf (XE vk (Zm vx)) h;exact⟨(N.trans nz).down (by decide),vz⟩
 |false=>
 rw[if_neg (by decide)] at h;obtain⟨b,sb,hb,h⟩:=zy h;obtain⟨nb,_⟩:=zfO N.le N.wf hb;replace N:=N.trans nb;obtain⟨q,sq,hq,h⟩:=zy h;obtain⟨nq,vq⟩:=zv N.le N.wf hq;replace N:=N.trans nq;obtain⟨m,sm,hm,h⟩:=zy h;obtain⟨nm,vm⟩:=(yl (by decide)) N.le N.wf hm;replace N:=N.trans nm;obtain⟨l,sl,hl,h⟩:=zy h;obtain⟨nl,vl⟩:=(uw hR) N.le N.wf hl;replace N:=N.trans nl;obtain⟨c,sc,hc,h⟩:=zy h;obtain⟨nc,vc⟩:=hR.block N.le N.wf hc;replace N:=N.trans nc;replace vl:=vl.later nc;obtain⟨nz,vz⟩:=zU N.le N.wf (vda vl vc) h;exact⟨(N.trans nz).down (by decide),vz⟩
structure zgA(n:Nat)(s:yD):Prop where
 kids:Kb (n+8) s
 wf:WFs s
 its:XO s s.items
 nodes:s.nodes.length≤n
 len:s.items.length≤n
theorem Xk{m n:Nat}:∀(k:Nat) (E:zN) (s s':yD),E.toks.length=n→s.next≤n→WFs s→Kb (n+8) s→XO s s.items→s.nodes.length≤s.next→s.items.length≤s.next→uk (ZL m) k E s=.ok () s'→zgA n s'
 |0,_,_,_,_,_,_,_,_,_,_,h=>by cases h
 |k+1,E,s,s',hE,h0,hw,hk,hi,hn,hl,h=>by
  unfold uk at h;split at h
  ·rename_i hlt;cases hm:Yh (ZL m) E s with
   |bad p=>rw[hm] at h;cases h
   |ok i s1=>
    rw[hm] at h;dsimp only at h;obtain⟨N,v⟩:=V3 (jA m) (Nat.le_of_lt hlt) hw hm;have hk1:=((zfX (uO (n:=n) m)).out _ _ _ _ hE hk hm).1;have hcr:=N.cr;have hle:=N.le;have hnx:=N.next;have hit:=N.it;obtain⟨q,hq⟩:=N.pre;have hql:s.nodes.length≤s1.nodes.length:=by rw[hq,List.length_append];omega
    refine Xk k E {s1 with items:=s1.items ++ [i]} s' hE (by dsimp only;omega) N.wf hk1 ?_ (by dsimp only;omega) ?_ h
    ·intro x hx;dsimp only at hx;rw[hit] at hx;rcases List.mem_append.1 hx with hx|hx
     ·exact show Vd s1 x from (hi x hx).later N
     ·rw[List.mem_singleton] at hx;rw[hx];exact v
    ·dsimp only;rw[hit,List.length_append,List.length_singleton];omega
  ·cases h;exact⟨hk,hw,hi,by omega,by omega⟩
theorem Kf{l:List xF}{len:Nat}{s:yD}(h:kR l len=.ok () s):zgA l.length s:=
 Xk (n:=l.length) _ ⟨l,len⟩ _ _ rfl (Nat.zero_le _) (fun i x hx=>by simp at hx) (fun x hx=>by cases hx) (fun x hx=>by cases hx) (Nat.le_refl _) (Nat.le_refl _) h
theorem zdE{s:List UInt8}{k:Nat}{t:List UInt8}{m:Nat}(h:y7 s=some (k,t,m))(hk:k=3):jy t=true:=by
 unfold y7 at h;split at h
 ·cases h
 ·rename_i c r;dsimp only at h;split at h
  ·split at h
   ·injection h with h;injection h with h _;split at h <;> omega
   ·cases h
  ·split at h
   ·split at h
    ·injection h with h;injection h with h _;omega
    ·cases h
   ·split at h
    ·split at h
     ·rename_i hn;injection h with h;injection h with _ h;injection h with h _;rw[←h];exact hn
     ·cases h
    ·split at h
     ·cases hq:qQ (c :: r) with
      |none=>rw[hq] at h;cases h
      |some x=>
       rw[hq] at h;injection h with h;injection h with h _;omega
     ·cases hq:yb.find? (fun g=>xO g (c :: r)) with
      |none=>rw[hq] at h;cases h
      |some x=>
       rw[hq] at h;injection h with h;injection h with h _;omega
theorem Vp:∀(f n at_:Nat) (r:List UInt8),n≤1200→(∀t∈(Zn f n at_ r).1,t.kind=3→jy t.text=true)∧n+(Zn f n at_ r).1.length≤1200
 |0,_,_,_,hn=>by
  unfold Zn;exact⟨fun t ht=>by (cases ht),hn⟩
 |f+1,n,at_,r,hn=>by
  unfold Zn;dsimp only;split
  ·exact⟨fun t ht=>by (cases ht),hn⟩
  ·split
   ·exact⟨fun t ht=>by (cases ht),hn⟩
   ·rename_i k t m h1;split
    ·exact⟨fun t ht=>by (cases ht),hn⟩
    ·rename_i hne;split
     ·have ih:=Vp f (n+1) (at_+yf false r+m) (r.drop (yf false r) |>.drop m) (by omega);refine⟨fun x hx hk=>?_,?_⟩
      ·rcases List.mem_cons.1 hx with rfl|hx
       ·exact zdE h1 hk
       ·exact ih.1 x hx hk
      ·have:=ih.2;simp only[List.length_cons];omega
     ·exact⟨fun t ht=>by (cases ht),hn⟩
theorem Vz(s:List UInt8):(∀t∈(kA s).1,t.kind=3→jy t.text=true)∧(kA s).1.length≤1200:=by
 unfold kA;split
 ·exact⟨fun t ht=>by (cases ht),Nat.zero_le _⟩
 ·have:=Vp (s.length+1) 0 0 s (by omega);rw[Nat.zero_add] at this;exact this
def ZK(k:Nat)(t:List UInt8):List UInt8×Nat:=
 if k=4 then (if (xJ t).2=0 then ((xJ t).1,0) else ([],4)) else
 if t=[]∨20<t.length∨t.head? =some 34 then ([],4) else
 match y7 t with
 |some (k',_,n)=>if n=t.length∧k'=k then (t,0) else ([],4)
 |none=>([],4)
end Lode
namespace Go.Proofs.YtcagibbaeageoaaGreatDoor
section
open Go.RowKit Lode Go.Shelf
open Go.Proofs.Tryz
theorem JA{c:UInt8}(h:zR c=true):q9 c=true∧c≠10∧c≠35∧c≠32∧c≠34:=by
 simp only[zR,Bool.and_eq_true,decide_eq_true_eq] at h;refine⟨by simp[q9];omega,?_,?_,?_,?_⟩ <;> (rintro rfl;revert h;decide)
theorem zfY{c:UInt8}(h:kJ c=true):q9 c=true∧c≠10∧c≠35∧c≠32∧c≠34:=by
 simp only[kJ,Bool.and_eq_true,decide_eq_true_eq] at h;refine⟨by simp[q9];omega,?_,?_,?_,?_⟩ <;> (rintro rfl;revert h;decide)
theorem Y1{c:UInt8}(h:zO c=true):q9 c=true∧c≠10∧c≠35∧c≠32∧c≠34:=by
 simp only[zO,Bool.and_eq_true,decide_eq_true_eq] at h;refine⟨by simp[q9];omega,?_,?_,?_,?_⟩ <;> (rintro rfl;revert h;decide)
theorem zbF{p q:UInt8→Bool}(h:∀c,p c=true→q c=true):∀l:List UInt8,l.all p=true→l.all q=true:=by
 intro l hl;rw[List.all_eq_true] at hl ⊢;exact fun c hc=>h c (hl c hc)
theorem zcH:∀g,g∈yb→g.all q9=true∧g.length≤2∧∃c r,g=c :: r∧c≠10∧c≠35∧c≠32∧c≠34:=by
 intro g hg;simp only[yb,List.mem_cons,List.not_mem_nil,or_false] at hg;rcases hg with rfl|rfl|rfl|rfl|rfl|rfl|rfl|rfl|rfl|rfl|rfl|rfl|rfl|rfl|rfl|rfl|rfl|rfl|rfl|rfl|rfl|rfl|rfl|rfl|rfl <;> exact⟨by decide,by decide,_,_,rfl,by decide,by decide,by decide,by decide⟩
theorem Qp:∀(g r:List UInt8),xO g r=true→r.take g.length=g
 |[],_,_=>by simp
 |_ :: _,[],h=>by simp[xO] at h
 |a :: g,b :: r,h=>by
  simp only[xO,Bool.and_eq_true,decide_eq_true_eq] at h;simp[h.1,Qp g r h.2]
theorem zb3{l:List UInt8}(h:jy l=true):l.length≤10:=by
 simp only[jy,Bool.and_eq_true,Bool.not_eq_true',decide_eq_true_eq,Bool.or_eq_true] at h;obtain⟨⟨⟨h1,h2⟩,h3⟩,h4⟩:=h;cases l with
 |nil=>simp
 |cons c l=>
  rcases h4 with h4|h4
  ·omega
  ·simp only[List.head?_cons] at h4;have hc:c≠48:=fun e=>by subst e;simp at h4
   simp only[List.all_cons,Bool.and_eq_true] at h2;have hd:=(qP c).1 h2.1;have h49:49≤c.toNat:=by
    rcases Nat.lt_or_ge c.toNat 49 with h|h
    ·exfalso;apply hc;apply UInt8.toNat_inj.1;have:(48:UInt8).toNat=48:=rfl;omega
    ·exact h
   have:=zaw c l h49;rw[kK] at h3;have hp:10 ^ l.length≤10 ^ 9:=by omega
   have:=(Nat.pow_le_pow_iff_right (by omega:1<10)).1 hp;simp;omega
theorem zaA{c:UInt8}{r:List UInt8}{k m:Nat}{x:List UInt8}(h:y7 (c :: r)=some (k,x,m))(hk:k≠4):
 x=(c :: r).take m∧((c :: r).take m).all q9=true∧m≤20∧c≠10∧c≠35∧c≠32∧c≠34:=by
 have sd:∀c,(zR c || zO c)=true→q9 c=true:=fun c h=>by
  rw[Bool.or_eq_true] at h;rcases h with h|h
  ·exact (JA h).1
  ·exact (Y1 h).1
 simp only[y7] at h;split at h
 ·rename_i hs;have hb:=JA hs;split at h
  ·rename_i hn;cases h;refine⟨rfl,?_,by omega,hb.2⟩;rw[Nat.add_comm,List.take_succ_cons,List.all_cons,hb.1,zbF sd _ (uM _ r)];rfl
  ·cases h
 ·split at h
  ·rename_i hs;have hb:=zfY hs;split at h
   ·rename_i hn;cases h;refine⟨rfl,?_,by omega,hb.2⟩;rw[Nat.add_comm,List.take_succ_cons,List.all_cons,hb.1,zbF sd _ (uM _ r)];rfl
   ·cases h
  ·split at h
   ·rename_i hs;have hb:=Y1 hs;split at h
    ·rename_i hn;cases h;have hl:=zb3 hn;have hr:=uh zO r;refine⟨rfl,?_,by simp at hl;omega,hb.2⟩;rw[Nat.add_comm,List.take_succ_cons,List.all_cons,hb.1,zbF (fun c h=>(Y1 h).1) _ (uM _ r)];rfl
    ·cases h
   ·split at h
    ·cases hq:Lode.qQ (c :: r) with
     |none=>rw[hq] at h;cases h
     |some y=>rw[hq] at h;cases h;exact absurd rfl hk
    ·rename_i h34;cases hg:yb.find? (fun g=>xO g (c :: r)) with
     |none=>rw[hg] at h;cases h
     |some g=>
      rw[hg] at h;cases h;have h1:=List.find?_some hg;obtain⟨g1,g2,d,q,rfl,g3⟩:=zcH _ (List.mem_of_find?_eq_some hg);have ht:=Qp _ _ h1;have hdc:d=c:=by
       simp only[xO,Bool.and_eq_true,decide_eq_true_eq] at h1;exact h1.1
      refine⟨ht.symm,by rw[ht];exact g1,by omega,?_⟩;rw[←hdc];exact g3
theorem Za.pre{s:List UInt8}{r:List xF×Nat×Nat}{L:List xF}{a:Nat}(h:Za s r L a)(h0:r.2.2=0):∃M,r.1=L ++ M:=by
 obtain⟨a',f,_,_,_,_,e⟩:=h;generalize Zn f L.length a' (s.drop a')=x at e;subst e;unfold jE at h0 ⊢;by_cases hx:x.2.2=0
 ·rw[if_pos hx];exact⟨x.1,rfl⟩
 ·rw[if_neg hx] at h0;exact absurd h0 hx
theorem zaT{s:List UInt8}(h:(Lode.kA s).2.2=0):(xM s).2=0:=by
 unfold Lode.kA at h;split at h
 ·exact h
 ·rename_i hc;simpa using hc
theorem YP{s:List UInt8}(h:(Lode.kA s).2.2=0){k:Nat}{t:List UInt8}(hr:(Lode.kA s).1=[⟨k,t,0⟩]):∃m,y7 s=some (k,t,m):=by
 have hi:=Za.start (zaT h);have hg:=Zi false s;rcases Nat.lt_or_ge (yf false s) s.length with hlt|hge
 ·cases ht:y7 (s.drop (yf false s)) with
  |none=>have:=hi.bad hlt ht;rw[this] at h;cases h
  |some x=>
   obtain⟨k',t',m⟩:=x;obtain⟨M,hM⟩:=(hi.next hlt ht (by simp)).pre h;rw[hr] at hM;simp only[List.nil_append,List.cons_append,List.cons.injEq,xF.mk.injEq] at hM;obtain⟨⟨rfl,rfl,h0⟩,_⟩:=hM;have h0:yf false s=0:=by omega
   rw[h0,List.drop_zero] at ht;exact⟨m,ht⟩
 ·have:=hi.done hge;rw[this] at hr;cases hr
theorem zeA{c:UInt8}{r:List UInt8}(h1:c≠10)(h2:c≠35)(h3:c≠32):yf false (c :: r)=0:=by simp[yf,h1,h2,h3]
theorem zd2:Lode.kA []=([],0,0):=by decide +kernel
theorem zc8(k:Nat)(t:List UInt8):xE k t=ZK k t:=by
 unfold xE ZK;by_cases hk:k=4
 ·rw[if_pos hk,if_pos hk]
 ·rw[if_neg hk,if_neg hk];cases t with
  |nil=>rw[if_pos (Or.inl rfl),if_neg (by rintro ⟨h,_⟩;rw[zd2] at h;cases h)]
  |cons c r=>
   cases ht:y7 (c :: r) with
   |none=>
    rw[if_neg (by rintro ⟨h1,h2⟩;obtain⟨m,h⟩:=YP h2 h1;rw[ht] at h;cases h)];split <;> rfl
   |some x=>
    obtain⟨k',x,m⟩:=x;have hw:=vK ht;by_cases h4:k'=4
    ·rw[if_neg (by rintro ⟨h1,h2⟩;obtain⟨m,h⟩:=YP h2 h1;rw[ht] at h;cases h;exact hk h4)];split
     ·rfl
     ·show ([],4)=if m=(c :: r).length∧k'=k then (c :: r,0) else ([],4)
      rw[if_neg (by rintro ⟨_,h⟩;exact hk (h▸h4))]
    ·obtain⟨hx,hall,hm,hc⟩:=zaA ht h4;by_cases hfit:m=(c :: r).length∧k'=k
     ·obtain⟨hm2,rfl⟩:=hfit;have htk:(c :: r).take m=c :: r:=by rw[hm2];exact List.take_length
      rw[htk] at hx hall;have hchk:(xM (c :: r)).2=0:=by
       unfold xM;rw[if_neg (by omega)];have:=ZU (c :: r);rw[hall] at this;rw[of_decide_eq_true this]
      have hi:=Za.start hchk;rw[zeA hc.1 hc.2.1 hc.2.2.1] at hi;have hn:=hi.next (by simp) (by rw[List.drop_zero];exact ht) (by simp);have hd:=hn.done (by rw[hm2];omega);rw[if_pos (by rw[hd,hx];exact⟨rfl,rfl⟩),if_neg (by
       rintro (h|h|h)
       ·cases h
       ·omega
       ·simp only[List.head?_cons,Option.some.injEq] at h;exact hc.2.2.2 h)]
      show (c :: r,0)=if m=(c :: r).length∧k'=k' then (c :: r,0) else ([],4)
      rw[if_pos ⟨hm2,rfl⟩]
     ·rw[if_neg (by
       rintro ⟨h1,h2⟩;obtain⟨m',h⟩:=YP h2 h1;rw[ht] at h;cases h;apply hfit;refine⟨?_,rfl⟩;have:=congrArg List.length hx;rw[List.length_take] at this;omega)]
      split
      ·rfl
      ·show ([],4)=if m=(c :: r).length∧k'=k then (c :: r,0) else ([],4)
       rw[if_neg hfit]
end
end Go.Proofs.YtcagibbaeageoaaGreatDoor
namespace Lode
def k1:List UInt8:=[114,111,111,116,32,97,58,32,105,110,116,32,61,32,49,32,43,32,98,32,42,32,50,59]
def k2:List UInt8:=[102,117,110,32,102,40,41,58,117,110,105,116,123,40,103,41,40,40,49,41,41,59,125]
def k3:List UInt8:=[102,117,110,32,102,32,40,32,41,32,58,32,117,110,105,116,32,123,32,40,103,41,40,40,49,41,41,59,32,59,32,125]
def k4:List UInt8:=[114,111,111,116,32,99,58,32,99,104,97,110,32,105,110,116,32,61,32,99,104,97,110,32,105,110,116,40,57,41,59]
def k5:List UInt8:=[102,117,110,32,102,40,41,58,32,117,110,105,116,32,123,32,97,40,41,32,58,61,32,49,59,32,125]
def k6:List UInt8:=[102,117,110,32,102,40,41,58,32,117,110,105,116,32,123,32,40,84,41,40,49,41,59,32,45,32,45,97,59,32,40,116,104,114,111,119,32,97,41,46,102,59,32,40,110,111,116,32,97,41,32,61,61,32,98,32,125]
def k2o:List UInt8:=[102,117,110,32,102,40,41,58,32,117,110,105,116,32,123,32,103,40,49,41,59,32,125] ++ [10]
def k6o:List UInt8:=[102,117,110,32,102,40,41,58,32,117,110,105,116,32,123,32,40,84,41,40,49,41,59,32,45,32,45,97,59,32,40,116,104,114,111,119,32,97,41,46,102,59,32,40,110,111,116,32,97,41,32,61,61,32,98,32,125] ++ [10]
theorem kn1:(yW k1).2=(0,0):=by decide +kernel
theorem zjy:(yW k1).1.nodes.length=7:=by decide +kernel
theorem zjw:XZ (yW k1).1 5=(5,0):=by decide +kernel
theorem zjv:Yf (yW k1).1 4=(5,0):=by decide +kernel
theorem zjx:VI (yW k1).1 3=([6,5,4,3],0):=by decide +kernel
theorem zjA:Y5 (yW k1).1 20=(4,0):=by decide +kernel
theorem kn2:vd k2=(k2o,0,0):=by decide +kernel
theorem kn3:(vd k3).2=(29,4):=by decide +kernel
theorem kn4:(yW k4).2=(19,3):=by decide +kernel
theorem kn5:(yW k5).2=(20,4):=by decide +kernel
theorem kn6:(yW k6).2.2=0:=by decide +kernel
theorem zjr:ZN (yW k6).1=(k6o,0):=by decide +kernel
def okB(t:z6):Bool:=(t.nodes.all fun x=>decide (x.kind≤255) && decide (x.text.length≤100) && decide (x.kids.length≤1000)) && decide (t.nodes.length≤1000) && decide (t.items.length≤1000)
theorem zjz:okB (yW k1).1=true:=by decide +kernel
theorem zju:okB (yW k2).1=true:=by decide +kernel
theorem zjt:okB (yW k3).1=true:=by decide +kernel
theorem zjs:okB (yW k6).1=true:=by decide +kernel
end Lode
