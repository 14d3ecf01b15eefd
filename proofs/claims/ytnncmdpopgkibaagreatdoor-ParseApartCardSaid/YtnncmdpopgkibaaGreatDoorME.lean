/-
  A part of the proof: contracts of functions; no conditions.
-/
import Derived.Test.YtnncmdpopgkibaaGreatDoorMD
import Derived.Lib.AtoiAll
import Derived.Lib.ItoaNum
import GoSem.Op.String
import Derived.Lib.LastIndexByte
import Derived.Lib.Bytealg
import Derived.WalkKit
import Derived.WalkLawsBesides
import Derived.WalkSpells
import Derived.Lib.ConvBytes
import Derived.Shelf.Abstract
import Derived.Deep.RegionWith
import Derived.Deep.Light
import Derived.Deep.QuietTactic
import Derived.BigQuiet
import Derived.Laws.Runes
import Derived.Deep.RegionHeld3
import Derived.Deep.DrawnRows
import Derived.Deep.AppendLies
import Derived.Maps.Range
import Derived.WalkMore
import Derived.Deep.LoopGhost
import Derived.Shelf.Strings.BuilderF
import Derived.Test.YtnncmdpopgkibaaGreatDoorProg
import Derived.Lib.AppendIntMem
import Derived.Shelf.RegionOpen
import Derived.OwnWalkIn
import Derived.TacticsInMore
import Derived.LoopNIn
import Derived.LoopIn
import Derived.Deep.Onto
import Derived.Laws.CopyOwn
import Derived.OwnWalk
import Derived.OneCell
import Derived.Laws.MakeOwn
import Derived.Laws.OwnMore
import Derived.OrdersIn
import Derived.TacticsIn
import Derived.Recover
set_option maxRecDepth 100000
set_option maxHeartbeats 40000000
set_option linter.unusedSimpArgs false
set_option linter.unusedVariables false
namespace Lode
def bnd(t:yo)(i:Nat):Nat:=if i=0 then 0 else (t.items.getD (i-1) 0+1).toNat
def zhO(t:yo)(i:Nat):yo:=⟨t.nodes.take (bnd t i),t.items.take i⟩
structure Pre(t:yo)(i:Nat):Prop where
 le:bnd t i<=t.nodes.length
 its:Vk t.nodes (jH t.nodes t.nodes.length) (t.items.take i).reverse ((bnd t i:Int)-1)=some (-1)
 later:∀k∈t.items.drop i,(bnd t i:Int)<=k
 early:∀k∈t.items.take i,k<(bnd t i:Int)/\0<=k
 far:∀(j:Nat) (hj:j<t.nodes.length),bnd t i<=j->∀k∈(t.nodes[j]'hj).kids,(bnd t i:Int)<=k
theorem zlw(l:List Int)(i:Nat)(hi:i<l.length):(l.take (i+1)).reverse=l[i] :: (l.take i).reverse:=by
 rw[List.take_succ_eq_append_getElem hi,List.reverse_append];rfl
theorem zkb{t:yo}(h:Fm t){i:Nat}(hi:i<=t.items.length):Pre t i:=by
 have hI:=h.its;rw[<-List.take_append_drop i t.items] at hI;obtain⟨m,h1,h2,h3,h4,h5⟩:=ziK h.full hI;have hm:m=bnd t i:=by
  unfold bnd;cases i with
  |zero=>
   rw[List.take_zero] at h2;injection h2 with h2;rw[if_pos rfl];omega
  |succ i=>
   rw[zlw t.items i (by omega)] at h2;unfold Vk at h2;split at h2
   ·cases h2
   ·rw[if_neg (by omega),Nat.add_sub_cancel,pA,glE (by omega)];simp only[Option.getD_some];omega
 subst hm;exact⟨h1,h2,h3,h4,h5⟩
theorem znq{t:yo}(h:Fm t):bnd t t.items.length=t.nodes.length:=by
 have hI:=h.its;unfold bnd;cases hn:t.items.length with
 |zero=>
  rw[List.length_eq_zero_iff.1 hn] at hI;injection hI with hI;rw[if_pos rfl];omega
 |succ i=>
  have:=zlw t.items i (by omega);rw[List.take_of_length_le (by omega)] at this;rw[this] at hI;unfold Vk at hI;split at hI
  ·cases hI
  ·rw[if_neg (by omega),Nat.add_sub_cancel,pA,glE (by omega)];simp only[Option.getD_some];omega
theorem zmF{l l':List Nd}{out:List Nat}:∀(rk:List Int) (p:Int),(∀j:Int,0<=j->j<=p->zE l j=zE l' j)->Vk l out rk p=Vk l' out rk p
 |[],_,_=>rfl
 |k :: r,p,h=>by
  unfold Vk;by_cases hp:p<0
  ·rw[if_pos (.inl hp),if_pos (.inl hp)]
  ·rw[h p (by omega) (Int.le_refl _),zmF r (p-(out.getD p.toNat 0:Nat)) fun j h1 h2=>h j h1 (by omega)]
theorem zmK{l l':List Nd}{x:Nd}(h:∀k∈x.kids,zE l k=zE l' k):yj l x=yj l' x:=by
 have e:((List.range x.kids.length).all fun i=>zS x.kind x.n x.kids.length i (zE l (x.kids.getD i 0)))=((List.range x.kids.length).all fun i=>zS x.kind x.n x.kids.length i (zE l' (x.kids.getD i 0))):=by
  rw[pW,pO,pO];constructor
  all_goals
   intro h2 i hi;have:=h2 i hi;rw[List.mem_range] at hi;rw[pA,glE hi] at this ⊢;simp only[Option.getD_some] at this ⊢;have h3:=h _ (wC hi)
   first
    |rw[h3] at this;exact this
    |rw[h3];exact this
 unfold yj;rw[e]
theorem zk4{l:List Nd}{m:Nat}{k:Int}(h0:0<=k)(h:k<m):zE (l.take m) k=zE l k:=by
 unfold zE;rw[List.getElem?_take_of_lt (by omega)]
theorem zmv{t:yo}(h:Ve t){i:Nat}(hi:i<=t.items.length):Ve (zhO t i):=by
 have P:=zkb h.fm hi;have hF:=h.fm.full;have hle:=P.le;have hlen:(t.nodes.take (bnd t i)).length=bnd t i:=by rw[wU];omega
 have hsz:∀j,j<=bnd t i->jH (t.nodes.take (bnd t i)) j=jH t.nodes j:=fun j hj=>by
  have:=zaI (t.nodes.take (bnd t i)) (t.nodes.drop (bnd t i)) j (by omega);rw[List.take_append_drop] at this;exact this.symm
 have hF2:=XN hF hle;have kid:∀x∈t.nodes.take (bnd t i),∀k∈x.kids,0<=k/\k<bnd t i:=fun x hx k hk=>by
  obtain⟨j,hj,rfl⟩:=List.mem_iff_getElem.1 hx;rw[List.getElem_take] at hk;have:=jY hF (i:=j) (by omega) k hk;omega
 refine⟨⟨?_,?_,fun x hx=>?_⟩,?_,?_,?_,fun x hx=>h.z x (List.mem_of_mem_take hx)⟩
 ·show xL (t.nodes.take (bnd t i)) (t.nodes.take (bnd t i)).length
  rw[hlen];unfold xL;rw[hsz _ (pE _)];exact hF2.1
 ·show Vk (t.nodes.take (bnd t i)) (jH (t.nodes.take (bnd t i)) (t.nodes.take (bnd t i)).length) (t.items.take i).reverse (((t.nodes.take (bnd t i)).length:Int)-1)=some (-1)
  rw[hlen,hsz _ (pE _),zmF (l':=t.nodes) _ _ (fun j h1 h2=>zk4 h1 (by omega)),<-P.its];exact zae _ _ _ fun j hj=>(hF2.2 j (by omega)).symm
 ·rw[<-h.fm.right x (List.mem_of_mem_take hx)];exact zmK fun k hk=>zk4 (kid x hx k hk).1 (kid x hx k hk).2
 ·show (t.nodes.take (bnd t i)).length<=1000
  have:=h.n;omega
 ·show (t.items.take i).length<=40
  have:=h.i;rw[wU];omega
 ·refine pN ?_ h.d;have:=YN (l:=t.nodes) (l':=t.nodes.take (bnd t i)) (a:=t.items.take i) (q:=t.items.drop i) (fun j hj=>?_) (by omega) (fun k hk=>by rw[hlen];exact P.later k hk) fun j h1 h2 k hk=>?_
  ·rw[List.take_append_drop] at this;exact this
  ·unfold vP;rw[hlen] at hj;rw[List.getElem?_take_of_lt hj]
  ·rw[hlen] at h1 ⊢;unfold vP at hk;rw[glE h2] at hk;exact P.far j h2 h1 k hk
def shN(b:Nat)(x:Nd):Nd:={x with kids:=x.kids.map fun k=>k+ -(b:Int)}
section
variable {l:List Nd} {b m:Nat}
def zdf(l:List Nd)(b m:Nat):List Nd:=((l.drop b).take m).map (shN b)
theorem zmH(h:b+m<=l.length):(zdf l b m).length=m:=by
 unfold zdf;rw[wV,wU,wW];omega
theorem zjf(h:b+m<=l.length){j:Nat}(hj:j<m):(zdf l b m)[j]? =some (shN b (l[b+j]'(by omega))):=by
 unfold zdf;rw[pZ,List.getElem?_take_of_lt hj,List.getElem?_drop,glE (by omega)];rfl
theorem zml{out out':List Nat}:∀(rk:List Int) (p e:Int),ZM out rk p=some e->(∀k∈rk,(b:Int)<=k)->(∀j:Nat,(b+j:Int)<=p->out'.getD j 0=out.getD (b+j) 0)->ZM out' (rk.map fun k=>k+ -(b:Int)) (p-b)=some (e-b)
 |[],p,e,h,_,_=>by
  cases h;rfl
 |k :: r,p,e,h,hk,ho=>by
  have hb:=hk k (List.mem_cons_self ..);unfold ZM at h;rw[List.map_cons];unfold ZM;split at h
  ·cases h
  ·rename_i hc;rw[if_neg (by omega)];have:=zml r _ e h (fun j hj=>hk j (pY _ hj)) (fun j hj=>ho j (by omega));have e1:=ho (p-b).toNat (by omega);rw[e1,show b+(p-(b:Int)).toNat=p.toNat by omega,show p-(b:Int)-(out.getD p.toNat 0:Nat)=p-(out.getD p.toNat 0:Nat)-b by omega];exact this
theorem zlH(hF:xL l l.length)(h:b+m<=l.length)(hs:∀j,j<m->(b:Int)-1<=loN l (b+j:Nat)):∀n,n<=m->xL (zdf l b m) n/\∀j,j<n->(jH (zdf l b m) n).getD j 0=(jH l l.length).getD (b+j) 0
 |0,_=>⟨rfl,fun j hj=>absurd hj (wG _)⟩
 |n+1,hn=>by
  obtain⟨h1,h2⟩:=zlH hF h hs n (by omega);obtain⟨h3,_⟩:=zbH hF (i:=b+n) (by omega);have h4:=hs n (by omega);have h5:=zml (b:=b) (out':=jH (zdf l b m) n) _ _ _ h3 (fun k hk=>by
   have:=(zlW hF (i:=b+n) (by omega) k (wY.1 hk)).1;omega) (fun j hj=>h2 j (by omega))
  rw[show ((b+n:Nat):Int)-1-b=(n:Int)-1 by omega] at h5;obtain⟨h6,h7⟩:=zfu (p:=loN l (b+n:Nat)-b) h1 (by
   rw[zjf h (by omega)];show ZM (jH (zdf l b m) n) ((l[b+n]'(by omega)).kids.map fun k=>k+ -(b:Int)).reverse ((n:Int)-1)=_
   rw[<-List.map_reverse];exact h5)
  refine⟨h6,fun j hj=>?_⟩;rw[h7,pA];have hl1:(jH (zdf l b m) n).length=n:=h1;by_cases hjn:j<n
  ·rw[wQ (by omega),<-pA];exact h2 j hjn
  ·have:j=n:=by omega
   subst this;rw[wM (by omega),hl1,Nat.sub_self,List.getElem?_cons_zero,Option.getD_some];have:loN l (b+j:Nat)=((b+j:Nat):Int)-((jH l l.length).getD (((b+j:Nat):Int)).toNat 0:Nat):=rfl;rw[wE] at this;omega
theorem zfQ(h:b+m<=l.length){k:Int}(h0:(b:Int)<=k)(h1:k<(b+m:Nat)):zE (zdf l b m) (k+ -(b:Int))=zE l k:=by
 unfold zE;rw[zjf h (j:=(k+ -(b:Int)).toNat) (by omega),glE (by omega:k.toNat<l.length)];simp only[Option.elim,shN];congr 2;omega
theorem zmy(h:b+m<=l.length){x:Nd}(hk:∀k∈x.kids,(b:Int)<=k/\k<(b+m:Nat)):yj (zdf l b m) (shN b x)=yj l x:=by
 have e:((List.range (x.kids.map fun k=>k+ -(b:Int)).length).all fun i=>zS x.kind x.n (x.kids.map fun k=>k+ -(b:Int)).length i (zE (zdf l b m) ((x.kids.map fun k=>k+ -(b:Int)).getD i 0)))=((List.range x.kids.length).all fun i=>zS x.kind x.n x.kids.length i (zE l (x.kids.getD i 0))):=by
  rw[wV,pW,pO,pO];have key:∀i,i<x.kids.length->zE (zdf l b m) ((x.kids.map fun k=>k+ -(b:Int)).getD i 0)=zE l (x.kids.getD i 0):=fun i hi=>by
   rw[pA,pA,pZ,glE hi];simp only[Option.map_some,Option.getD_some];have:=hk _ (wC hi);exact zfQ h this.1 this.2
  constructor
  ·intro h2 i hi;have:=h2 i hi
   rwa [key i (List.mem_range.1 hi)] at this
  ·intro h2 i hi;have:=h2 i hi
   rwa [key i (List.mem_range.1 hi)]
 unfold yj shN;simp only[wV] at e ⊢;rw[e];rfl
def zdi(b m:Nat)(d d':List Nat):Prop:=b+m<=d.length/\m<=d'.length/\∀j,j<m->d.getD (b+j) 0=d'.getD j 0
theorem zdi.set{d d':List Nat}(h:zdi b m d d')(i v:Nat)(hi:b<=i):zdi b m (d.set i v) (d'.set (i-b) v):=by
 obtain⟨h1,h2,h3⟩:=h;refine⟨by rw[List.length_set];exact h1,by rw[List.length_set];exact h2,fun j hj=>?_⟩;have:=h3 j hj;simp only[pA,List.getElem?_set] at this ⊢;by_cases e:i=b+j
 ·rw[if_pos e,if_pos (by omega),if_pos (by omega),if_pos (by omega)]
 ·rw[if_neg e,if_neg (by omega)];exact this
theorem zdi.far{d d':List Nat}(h:zdi b m d d')(i v:Nat)(hi:i<b\/b+m<=i):zdi b m (d.set i v) d':=by
 obtain⟨h1,h2,h3⟩:=h;refine⟨by rw[List.length_set];exact h1,h2,fun j hj=>?_⟩;rw[<-h3 j hj,pA,pA,List.getElem?_set_ne (by omega)]
theorem zk7{d0:Nat}:∀(r:List Int) (d d':List Nat),(∀k∈r,(b:Int)<=k)->zdi b m d d'->zdi b m (xZ d0 r d) (xZ d0 (r.map fun k=>k+ -(b:Int)) d')
 |[],_,_,_,h=>h
 |k :: r,d,d',hk,h=>by
  have h0:=hk k (List.mem_cons_self ..);have:=h.set k.toNat (d0+1) (by omega);rw[show k.toNat-b=(k+ -(b:Int)).toNat by omega] at this;exact zk7 r _ _ (fun j hj=>hk j (pY _ hj)) this
theorem zme{d0:Nat}:∀(r:List Int) (d d':List Nat),(∀k∈r,((b+m:Nat):Int)<=k)->zdi b m d d'->zdi b m (xZ d0 r d) d'
 |[],_,_,_,h=>h
 |k :: r,_,_,hr,h=>zme r _ _ (fun j hj=>hr j (pY _ hj)) (h.far _ _ (by have:=hr k (List.mem_cons_self ..);omega))
theorem zmG:∀(i:Nat) (d:List Nat) (a:Nat),a<=vH l i d a
 |0,_,_=>pE _
 |i+1,d,a=>by
  unfold vH;exact pN (by omega) (zmG i _ _)
theorem zk5(h:b+m<=l.length)(hk:∀j,j<m->∀k∈vP l (b+j),(b:Int)<=k):∀(n:Nat) (d d':List Nat) (a a':Nat),n<=m->zdi b m d d'->a'<=a->vH (zdf l b m) n d' a'<=vH l (b+n) d a
 |0,d,d',a,a',_,_,ha=>pN ha (zmG b d a)
 |n+1,d,d',a,a',hn,hd,ha=>by
  show vH (zdf l b m) n (xZ (d'.getD n 0) (vP (zdf l b m) n) d') (max a' (d'.getD n 0))<=vH l (b+n) (xZ (d.getD (b+n) 0) (vP l (b+n)) d) (max a (d.getD (b+n) 0))
  have e:vP (zdf l b m) n=(vP l (b+n)).map fun k=>k+ -(b:Int):=by
   unfold vP;rw[zjf h (by omega),glE (by omega:b+n<l.length)];rfl
  rw[e,hd.2.2 n (by omega)];exact zk5 h hk n _ _ _ _ (by omega) (zk7 _ _ _ (hk n (by omega)) hd) (by omega)
theorem zmd(h:b+m<=l.length)(hk:∀j,j<m->∀k∈vP l (b+j),(b:Int)<=k):∀(c:Nat) (d d':List Nat) (a a':Nat),(∀i,b+m<=i->i<b+m+c->∀k∈vP l i,((b+m:Nat):Int)<=k)->zdi b m d d'->a'<=a->vH (zdf l b m) m d' a'<=vH l (b+m+c) d a
 |0,d,d',a,a',_,hd,ha=>zk5 h hk m d d' a a' (pE _) hd ha
 |c+1,d,d',a,a',hf,hd,ha=>by
  show vH (zdf l b m) m d' a'<=vH l (b+m+c) _ _
  exact zmd h hk c _ _ _ _ (fun i h1 h2=>hf i h1 (by omega)) (zme _ _ _ (hf (b+m+c) (by omega) (by omega)) hd) (by omega)
theorem zgy:∀(a:List Int) (d d':List Nat),(∀k∈a,k.toNat<b\/b+m<=k.toNat)->zdi b m d d'->zdi b m (a.foldl (fun (d:List Nat) k=>d.set k.toNat 1) d) d'
 |[],_,_,_,h=>h
 |k :: a,_,_,ha,h=>zgy a _ _ (fun j hj=>ha j (pY _ hj)) (h.far _ _ (ha k (List.mem_cons_self ..)))
end
section
variable {l l':List Nd} {pr pr':Int→List UInt8} {φ:Int→Int}
def zmL(l:List Nd)(k:Int):Bool:=((l[k.toNat]?).elim [] Nd.kids).isEmpty
theorem zmt{ks:List Int}(H:∀k∈ks,pr' (φ k)=pr k):xY pr' (ks.map φ)=xY pr ks:=by
 unfold xY;rw[List.map_map];exact congrArg kZ (List.map_congr_left H)
theorem zmm{last:Bool}:∀{ks:List Int},(∀k∈ks,pr' (φ k)=pr k)->qo pr' last (ks.map φ)=qo pr last ks
 |[],_=>rfl
 |[k],h=>by
  show pr' (φ k) ++ _ ++ _=pr k ++ _ ++ _
  rw[h k (by simp)]
 |k :: j :: r,h=>by
  show pr' (φ k) ++ _ ++ _ ++ qo pr' last ((j :: r).map φ)=pr k ++ _ ++ _ ++ qo pr last (j :: r)
  rw[h k (by simp),zmm (ks:=j :: r) (fun i hi=>h i (pY _ hi))]
theorem zni{k:Nat}(h:yz k=true):k∈[1,2,3,4,5,6,7,8,9,10,11,12,13,14,15,16,17,18,19,20,21,22,23,24,25,26,27,28,29,30,31,32,33,34,35,36,37,38,39,40,41,42,43,44,45,46,47,48,49,50,51,60,61,62,63,64,65,66,67,68,69,70,80,81,82,83,84,85,86,87,88,89,100,101,102,103,104]:=by
 have:∀k,k<=104->yz k=true->k∈[1,2,3,4,5,6,7,8,9,10,11,12,13,14,15,16,17,18,19,20,21,22,23,24,25,26,27,28,29,30,31,32,33,34,35,36,37,38,39,40,41,42,43,44,45,46,47,48,49,50,51,60,61,62,63,64,65,66,67,68,69,70,80,81,82,83,84,85,86,87,88,89,100,101,102,103,104]:=by decide +kernel
 exact this k (uH h) h
theorem zne{k:Nat}{t:List UInt8}{n:Int}{ks:List Int}{a:Int}(hr:yj l ⟨k,t,n,ks,a⟩=true)(H:∀j∈ks,pr' (φ j)=pr j/\zE l' (φ j)=zE l j/\zmL l' (φ j)=zmL l j):yU l' pr' ⟨k,t,n,ks.map φ,a⟩=yU l pr ⟨k,t,n,ks,a⟩:=by
 obtain⟨hkn,h1,_,_,_,_⟩:=yY hr;clear hr;simp only at hkn h1;have hx:∀i,i<ks.length->∃j∈ks,ks.getD i 0=j/\(ks.map φ).getD i 0=φ j:=fun i hi=>⟨ks[i],wC hi,by rw[pA,glE hi];rfl,by rw[pA,pZ,glE hi];rfl⟩
 have ha:=zmt (pr:=pr) (pr':=pr') fun j hj=>(H j hj).1
 have ht:∀i,xY pr' ((ks.map φ).take i)=xY pr (ks.take i):=fun i=>by
  rw[<-List.map_take];exact zmt fun j hj=>(H j (List.mem_of_mem_take hj)).1
 have hd:∀i,xY pr' ((ks.map φ).drop i)=xY pr (ks.drop i):=fun i=>by
  rw[<-List.map_drop];exact zmt fun j hj=>(H j (List.mem_of_mem_drop hj)).1
 have hd1:xY pr' (ks.map φ).tail=xY pr ks.tail:=by
  have:=hd 1
  rwa [List.drop_one,List.drop_one] at this
 have hs:∀last,qo pr' last (ks.map φ)=qo pr last ks:=fun last=>zmm fun j hj=>(H j hj).1
 have hlen:(ks.map φ).length=ks.length:=wV _;have hnil:(ks.map φ=[])=(ks=[]):=by simp
 generalize ks.map φ=ks' at *;have hk:∀(k:Nat) i,i<ks.length->pr' (zN ⟨k,t,n,ks',a⟩ i)=pr (zN ⟨k,t,n,ks,a⟩ i):=fun k i hi=>by
  obtain⟨j,hj,e1,e2⟩:=hx i hi;unfold zN;simp only;rw[e1,e2];exact (H j hj).1
 have hkd:∀(k:Nat) i,i<ks.length->zE l' (zN ⟨k,t,n,ks',a⟩ i)=zE l (zN ⟨k,t,n,ks,a⟩ i):=fun k i hi=>by
  obtain⟨j,hj,e1,e2⟩:=hx i hi;unfold zN;simp only;rw[e1,e2];exact (H j hj).2.1
 have he:∀(k:Nat) i,i<ks.length->((l'[(zN ⟨k,t,n,ks',a⟩ i).toNat]?).elim [] Nd.kids).isEmpty=((l[(zN ⟨k,t,n,ks,a⟩ i).toNat]?).elim [] Nd.kids).isEmpty:=fun k i hi=>by
  obtain⟨j,hj,e1,e2⟩:=hx i hi;unfold zN;simp only;rw[e1,e2];exact (H j hj).2.2
 have hq:∀(k:Nat) i r,i<ks.length->jq l' pr' (zN ⟨k,t,n,ks',a⟩ i) r=jq l pr (zN ⟨k,t,n,ks,a⟩ i) r:=fun k i r hi=>by
  unfold jq;rw[hk k i hi,hkd k i hi]
 clear hx H;have hm:=zni hkn;clear hkn;simp only[wD,wH,or_false] at hm;rcases hm with rfl|rfl|rfl|rfl|rfl|rfl|rfl|rfl|rfl|rfl|rfl|rfl|rfl|rfl|rfl|rfl|rfl|rfl|rfl|rfl|rfl|rfl|rfl|rfl|rfl|rfl|rfl|rfl|rfl|rfl|rfl|rfl|rfl|rfl|rfl|rfl|rfl|rfl|rfl|rfl|rfl|rfl|rfl|rfl|rfl|rfl|rfl|rfl|rfl|rfl|rfl|rfl|rfl|rfl|rfl|rfl|rfl|rfl|rfl|rfl|rfl|rfl|rfl|rfl|rfl|rfl|rfl|rfl|rfl|rfl|rfl|rfl|rfl|rfl|rfl|rfl|rfl
 all_goals
  simp[xd] at h1
  first
   |rfl
   |(simp (disch:=omega) [yU,xE,qj,zM,jR,qe,xu,qO,Ys,vX,ha,ht,hd1,hs,hlen,hnil,hk,hkd,he,hq];done)
end
section
variable {t:yo} (h:Ve t) {i:Nat}
include h
theorem zm6(hi:i<t.items.length):zew t i=(bnd t i:Int):=by
 have P:=zkb h.fm (Nat.le_of_lt hi);unfold zew bnd;cases i with
 |zero=>rfl
 |succ i=>
  rw[if_pos (by omega),if_neg (by omega),show (((i+1:Nat):Int)-1).toNat=i by omega,Nat.add_sub_cancel];have:=P.early (t.items.getD i 0) (by
   rw[pA,glE (by omega),Option.getD_some];exact List.mem_take_iff_getElem.2 ⟨i,by omega,rfl⟩)
  omega
theorem zeC(hi:i<t.items.length):t.items.getD i 0=(bnd t (i+1):Int)-1/\bnd t i<bnd t (i+1)/\bnd t (i+1)<=t.nodes.length/\loN t.nodes ((bnd t (i+1)-1:Nat):Int)=(bnd t i:Int)-1/\yN.item.is (zE t.nodes ((bnd t (i+1):Int)-1))=true:=by
 have P:=zkb h.fm (Nat.le_of_lt hi);have Q:=zkb h.fm (i:=i+1) hi;have hq:=Q.its;rw[zlw t.items i hi] at hq;unfold Vk at hq;split at hq
 ·cases hq
 ·rename_i hc;have hk:t.items[i]=(bnd t (i+1):Int)-1:=by omega
  have hp:=P.its;have hle:=Q.le;have hpos:0<bnd t (i+1):=by omega
  have hlo:loN t.nodes ((bnd t (i+1)-1:Nat):Int)=(bnd t (i+1):Int)-1-((jH t.nodes t.nodes.length).getD ((bnd t (i+1):Int)-1).toNat 0:Nat):=by
   unfold loN;rw[show (((bnd t (i+1)-1:Nat):Int)).toNat=((bnd t (i+1):Int)-1).toNat by omega];omega
  have hb:loN t.nodes ((bnd t (i+1)-1:Nat):Int)=(bnd t i:Int)-1:=by
   rw[hlo];cases hr:(t.items.take i).reverse with
   |nil=>
    rw[hr] at hq hp;injection hq with hq;injection hp with hp;omega
   |cons k r=>
    rw[hr] at hq hp;unfold Vk at hq hp;split at hq
    ·cases hq
    ·split at hp
     ·cases hp
     ·omega
  have hlt:=(zbH h.fm.full (i:=bnd t (i+1)-1) (by omega)).2;refine⟨?_,by omega,hle,hb,?_⟩
  ·rw[pA,glE hi,Option.getD_some,hk]
  ·cases hs:yN.item.is (zE t.nodes ((bnd t (i+1):Int)-1)) with
   |true=>rfl
   |false=>exact absurd (.inr (.inr hs)) hc
theorem zmn(hi:i<t.items.length){j:Nat}(h1:bnd t i<=j)(h2:j<bnd t (i+1)):(bnd t i:Int)-1<=loN t.nodes j/\∀k∈vP t.nodes j,(bnd t i:Int)<=k/\k<j:=by
 obtain⟨_,a2,a3,a4,_⟩:=zeC h hi;have h3:=zlc h.fm.full (bnd t (i+1)-1) (by omega) j (by omega) (by omega);refine⟨by omega,fun k hk=>?_⟩;unfold vP at hk;rw[glE (by omega:j<t.nodes.length)] at hk;have:=zlW h.fm.full (i:=j) (by omega) k hk;omega
theorem zmQ(hi:i<t.items.length):zez t (zew t i) (t.items.getD i 0)=⟨zdf t.nodes (bnd t i) (bnd t (i+1)-bnd t i),[((bnd t (i+1)-bnd t i:Nat):Int)-1]⟩:=by
 obtain⟨a1,a2,a3,_,_⟩:=zeC h hi;unfold zez zdf zbP;rw[zm6 h hi,a1,wE,show ((bnd t (i+1):Int)-1+1-(bnd t i:Int)).toNat=bnd t (i+1)-bnd t i by omega,show (bnd t (i+1):Int)-1-(bnd t i:Int)=((bnd t (i+1)-bnd t i:Nat):Int)-1 by omega];rfl
theorem zmw(hi:i<t.items.length):Ve (zez t (zew t i) (t.items.getD i 0)):=by
 rw[zmQ h hi];obtain⟨a1,a2,a3,a4,a5⟩:=zeC h hi;have hsp:=fun j (hj:j<bnd t (i+1)-bnd t i)=>zmn h hi (j:=bnd t i+j) (by omega) (by omega)
 have hP:=zkb h.fm (Nat.le_of_lt hi);have hQ:=zkb h.fm (i:=i+1) hi;have hF:=h.fm.full;have hn:=h.n;have hlast:bnd t (i+1)=bnd t i+(bnd t (i+1)-bnd t i):=by omega
 have hd:=h.d;have hz:=h.z;have hR:=h.fm.right;have hearly:=hP.early;have hlater:=hQ.later;have hfar:=hQ.far;rw[hlast] at a4 a5 hlater hfar a3 a1;have hitem:t.items=t.items.take i ++ (t.items.getD i 0 :: t.items.drop (i+1)):=by
  rw[pA,glE hi,Option.getD_some,<-List.drop_eq_getElem_cons hi,List.take_append_drop]
 clear hP hQ;generalize bnd t (i+1)-bnd t i=m at *;generalize bnd t i=b at *;have hm:0<m:=by omega
 obtain⟨s1,s2⟩:=zlH hF a3 (fun j hj=>(hsp j hj).1) m (pE _);have hlen:=zmH a3;refine⟨⟨?_,?_,fun x hx=>?_⟩,?_,?_,?_,fun x hx=>?_⟩
 ·show xL (zdf t.nodes b m) (zdf t.nodes b m).length
  rw[hlen];exact s1
 ·show Vk (zdf t.nodes b m) (jH (zdf t.nodes b m) (zdf t.nodes b m).length) [(m:Int)-1] (((zdf t.nodes b m).length:Int)-1)=some (-1)
  rw[hlen];have hk:=zfQ a3 (k:=((b+m:Nat):Int)-1) (by omega) (by omega);rw[show ((b+m:Nat):Int)-1+ -(b:Int)=(m:Int)-1 by omega] at hk;unfold Vk;rw[hk,a5,if_neg (by simp;omega)];unfold Vk;have e:=s2 (m-1) (by omega);have e2:loN t.nodes ((b+m-1:Nat):Int)=((b+m-1:Nat):Int)-((jH t.nodes t.nodes.length).getD ((b+m-1:Nat):Int).toNat 0:Nat):=rfl;rw[wE,a4] at e2;rw[show ((m:Int)-1).toNat=m-1 by omega,e,show b+(m-1)=b+m-1 by omega];congr 1;omega
 ·obtain⟨y,hy,rfl⟩:=List.mem_map.1 hx;obtain⟨j,hj,rfl⟩:=List.mem_iff_getElem.1 hy;rw[wU,wW] at hj;have e:((t.nodes.drop b).take m)[j]=t.nodes[b+j]'(by omega):=by rw[List.getElem_take,List.getElem_drop]
  rw[e];rw[zmy a3 fun k hk=>?_]
  ·exact hR _ (wC _)
  ·have:=(hsp j (by omega)).2 k (by unfold vP;rw[glE (by omega:b+j<t.nodes.length)];exact hk);omega
 ·show (zdf t.nodes b m).length<=1000
  omega
 ·show (1:Nat)<=40
  decide
 ·refine pN ?_ hd;unfold xJ;simp only;rw[hlen];obtain⟨c,hc⟩:=Nat.le.dest a3;rw[<-hc,hitem];simp only[List.foldl_append,List.foldl_cons,List.foldl_nil];refine zmd a3 (fun j hj k hk=>((hsp j hj).2 k hk).1) c _ _ _ _ (fun j h1 h2 k hk=>?_) ?_ (pE _)
  ·unfold vP at hk;rw[glE (by omega:j<t.nodes.length)] at hk;exact hfar j (by omega) h1 k hk
  ·refine zgy _ _ _ (fun k hk=>by have:=hlater k hk;omega) ?_;have h0:zdi b m ((t.items.take i).foldl (fun (d:List Nat) k=>d.set k.toNat 1) (List.replicate (b+m+c) 0)) (List.replicate m 0):=by
    refine zgy _ _ _ (fun k hk=>by have:=hearly k hk;omega) ⟨by simp,by simp,fun j hj=>?_⟩;simp only[pA,List.getElem?_replicate];rw[if_pos (by omega),if_pos hj]
   have:=h0.set (t.items.getD i 0).toNat 1 (by omega);rw[show (t.items.getD i 0).toNat-b=((m:Int)-1).toNat by omega] at this;exact this
 ·obtain⟨y,hy,rfl⟩:=List.mem_map.1 hx;have h0:=hz y (List.mem_of_mem_drop (List.mem_of_mem_take hy));have:ye (shN b y)=ye y:=by unfold ye shN;simp only[wV]
  exact this.trans h0
theorem znj(hi:i<t.items.length):zey (zhO t i) (zez t (zew t i) (t.items.getD i 0))=zhO t (i+1):=by
 rw[zmQ h hi];obtain⟨a1,a2,a3,_,_⟩:=zeC h hi;have hl:(t.nodes.take (bnd t i)).length=bnd t i:=by rw[wU];omega
 unfold zey zhO zbP zdf;simp only[hl];congr 1
 ·rw[show bnd t (i+1)=bnd t i+(bnd t (i+1)-bnd t i) by omega,List.take_add,Nat.add_sub_cancel_left];congr 1
  ·conv=>rhs;rw[<-List.map_id (t.nodes.take (bnd t i))]
   refine List.map_congr_left fun x _=>?_
   simp
  ·rw[List.map_map]
   conv=>rhs;rw[<-List.map_id ((t.nodes.drop (bnd t i)).take (bnd t (i+1)-bnd t i))]
   refine List.map_congr_left fun x _=>?_
   simp only[Function.comp,shN,List.map_map,id];have:(x.kids.map ((fun k=>k+(bnd t i:Int))∘fun k=>k+ -(bnd t i:Int)))=x.kids:=by
    conv=>rhs;rw[<-List.map_id x.kids]
    refine List.map_congr_left fun k _=>?_
    simp only[Function.comp,id];omega
   rw[this]
 ·rw[List.take_succ_eq_append_getElem hi,List.map_cons,List.map_nil];rw[pA,glE hi,Option.getD_some] at a1;rw[a1];congr 2;omega
end
theorem zmJ{l:List Nd}{b m:Nat}(hR:∀x∈l,yj l x=true)(hle:b+m<=l.length)(hs:∀j,j<m->∀k∈vP l (b+j),(b:Int)<=k/\k<(b+j:Nat)):∀(j f g:Nat),j<m->j<f->b+j<g->prN (zdf l b m) f j=prN l g (b+j:Nat):=by
 intro j;induction j using Nat.strongRecOn with
 |ind j ih=>
  intro f g hj hf hg;obtain⟨f,rfl⟩:∃f',f=f'+1:=⟨f-1,by omega⟩;obtain⟨g,rfl⟩:∃g',g=g'+1:=⟨g-1,by omega⟩;have hx:l[b+j]? =some (l[b+j]'(by omega)):=glE _;have hk:=hs j hj;unfold vP at hk;rw[hx] at hk;have hr:=hR _ (wC (by omega:b+j<l.length));have e1:prN (zdf l b m) (f+1) j=yU (zdf l b m) (prN (zdf l b m) f) (shN b (l[b+j]'(by omega))):=by
   show (match (zdf l b m)[(j:Int).toNat]? with|some x=>_|none=>[])=_
   rw[wE,zjf hle hj]
  have e2:prN l (g+1) (b+j:Nat)=yU l (prN l g) (l[b+j]'(by omega)):=by
   show (match l[((b+j:Nat):Int).toNat]? with|some x=>_|none=>[])=_
   rw[wE,hx]
  rw[e1,e2];generalize l[b+j]'(by omega)=x at *;obtain⟨k,t,n,ks,a⟩:=x;refine zne hr fun q hq=>?_
  have h1:=hk q hq;obtain⟨p,rfl⟩:∃p:Nat,q=((b+p:Nat):Int):=⟨(q-b).toNat,by omega⟩;have e3:((b+p:Nat):Int)+ -(b:Int)=(p:Int):=by omega
  refine⟨?_,zfQ hle (by omega) (by omega),?_⟩
  ·rw[e3];exact ih p (by omega) f g (by omega) (by omega) (by omega)
  ·unfold zmL;rw[e3,wE,wE,zjf hle (by omega),glE (by omega:b+p<l.length)];simp only[Option.elim,shN];cases (l[b+p]'(by omega)).kids <;> rfl
theorem zm4{t:yo}(h:Ve t){i:Nat}(hi:i<t.items.length):zef (zez t (zew t i) (t.items.getD i 0)) 0=zef t i:=by
 have hc:=(zmw h hi).qr;obtain⟨a1,a2,a3,a4,a5⟩:=zeC h hi;rw[zmQ h hi] at hc ⊢;unfold zef;rw[hc,h.qr,if_neg (by decide),if_neg (by simp),if_neg (by decide),if_neg (by omega),wE,a1];refine congrArg Yb ?_;have:=zmJ h.fm.right (b:=bnd t i) (m:=bnd t (i+1)-bnd t i) (by omega) (fun j hj k hk=>(zmn h hi (by omega) (by omega)).2 k hk) (bnd t (i+1)-bnd t i-1) (bnd t (i+1)-bnd t i+1) (t.nodes.length+1) (by omega) (by omega) (by omega);unfold prT;simp only[zmH (by omega:bnd t i+(bnd t (i+1)-bnd t i)<=t.nodes.length)];rw[show ([((bnd t (i+1)-bnd t i:Nat):Int)-1].getD (0:Int).toNat 0)=((bnd t (i+1)-bnd t i-1:Nat):Int) by show ((bnd t (i+1)-bnd t i:Nat):Int)-1=_;omega,this];congr 1;omega
end Lode
namespace Go.Proofs.YtnncmdpopgkibaaGreatDoor
section
open Go.RowKit Lode
open Go.Proofs.Tryz
theorem zmY{c:UInt8}{r:List UInt8}{k m:Nat}{x:List UInt8}(h:yM (c :: r)=some (k,x,m))(hk:k≠4):((c :: r).take m).all (· != 10)=true:=by
 have h10:∀c:UInt8,c≠10->(c != 10)=true:=fun c h=>by simpa using h
 have sd:∀c,(yg c || yf c)=true->(c != 10)=true:=fun c h=>by
  rw[wF] at h;rcases h with h|h
  ·exact h10 c (zaf h).2.1
  ·exact h10 c (Qr h).2.1
 simp only[yM] at h;split at h
 ·rename_i hs;split at h
  ·cases h;rw[Nat.add_comm,List.take_succ_cons,List.all_cons,h10 c (zaf hs).2.1,zeu sd _ (ZQ _ r)];rfl
  ·cases h
 ·split at h
  ·rename_i hs;split at h
   ·cases h;rw[Nat.add_comm,List.take_succ_cons,List.all_cons,h10 c (zjy hs).2.1,zeu sd _ (ZQ _ r)];rfl
   ·cases h
  ·split at h
   ·rename_i hs;split at h
    ·cases h;rw[Nat.add_comm,List.take_succ_cons,List.all_cons,h10 c (Qr hs).2.1,zeu (fun c h=>h10 c (Qr h).2.1) _ (ZQ _ r)];rfl
    ·cases h
   ·split at h
    ·cases hq:Lode.xP (c :: r) with
     |none=>rw[hq] at h;cases h
     |some y=>rw[hq] at h;cases h;exact absurd rfl hk
    ·cases hg:zT.find? (fun g=>yL g (c :: r)) with
     |none=>rw[hg] at h;cases h
     |some g=>
      rw[hg] at h;cases h;have hs:∀g,g∈zT->g.all (· != 10)=true:=by decide
      have hf:=List.find?_some (p:=fun g=>yL g (c :: r)) hg;rw[Kz _ _ hf];exact hs _ (List.mem_of_find?_eq_some hg)
theorem zna{T R:List UInt8}{k:Nat}{t:List UInt8}(h:yM (T ++ R)=some (k,t,T.length)):(10:UInt8)∉T:=by
 by_cases hk:k=4
 ·have h1:=(YV h).2;have h2:=(YV h).1.eq;subst hk;rw[h1] at h2;unfold kV at h2;rw[if_pos rfl] at h2;split at h2
  ·rename_i hq;injection h2 with h2 _;rw[<-h2];unfold qA at hq ⊢;split at hq
   ·cases hq
   ·split at hq
    ·rename_i h60 hall;rw[if_neg h60,if_pos hall];simp only[pX,wL,List.mem_flatMap,not_or,not_exists,not_and];refine⟨⟨by decide,fun c _=>?_⟩,by decide⟩;unfold zV;split
     ·decide
     ·rename_i hc;split <;> simp <;> exact fun e=>hc e.symm
    ·cases hq
  ·cases h2
 ·have:=qz h;cases hT:T with
  |nil=>rw[hT] at this;simp at this
  |cons c r=>
   rw[hT] at h;have h3:=zmY (c:=c) (r:=r ++ R) h hk;have e:(c :: (r ++ R)).take (c :: r).length=c :: r:=by rw[<-pT,List.take_left]
   rw[e] at h3;intro h10;have:=pO.1 h3 10 h10;cases this
theorem Jg.line{a:Nat}{r:List UInt8}{l:List yp}(h:Jg a r l):∀x y,r=x ++ 10 :: y->∃l1 l2,l=l1 ++ l2/\Jg a x l1/\Jg (a+x.length+1) y l2:=by
 have hgap:∀(d:Bool) (z:List UInt8),jx d (10 :: z)=jx false z:=fun d z=>by simp[jx]
 induction h with
 | @done a G c h=>
  intro x y e;rw[e,Zh] at h;cases hx:jx false x with
  |none=>rw[hx] at h;cases h
  |some d=>
   rw[hx] at h;change jx d (10 :: y)=some c at h;rw[hgap] at h;exact⟨[],[],rfl,.done hx,.done h⟩
 | @tok a G T R k t l h1 h2 h3 ih=>
  intro x y e;have hnl:=zna h2;have hT:T≠[]:=fun e=>by have:=qz h2;rw[e] at this;simp at this
  rcases List.append_eq_append_iff.1 e with⟨x',hx,e3⟩|⟨c',hG,e⟩
  ·obtain⟨x2,hx',hR⟩:∃x2,x'=T ++ x2/\R=x2 ++ 10 :: y:=by
    rcases List.append_eq_append_iff.1 e3 with h|⟨c',hT2,e4⟩
    ·exact h
    ·cases c' with
     |nil=>exact⟨[],by rw[hT2];simp,e4.symm⟩
     |cons b z=>
      rw[pT] at e4;injection e4 with e4 _;exact absurd (by rw[hT2,e4];simp) hnl
   obtain⟨l1,l2,f1,f2,f3⟩:=ih x2 y hR;rw[hx,hx'];refine⟨_ :: l1,l2,by rw[f1];rfl,.tok h1 ?_ f2,?_⟩
   ·cases x2 with
    |nil=>
     have:=VE h2 zhf;rw[List.take_left] at this;exact this
    |cons b z=>
     refine zb3 h2 ?_;rw[hR,List.take_length_add_append,List.take_length_add_append];rfl
   ·rw[show a+(G ++ (T ++ x2)).length+1=a+G.length+T.length+x2.length+1 by simp only[pC];omega];exact f3
  ·cases c' with
   |nil=>
    rw[wJ] at e;cases T with
    |nil=>exact absurd rfl hT
    |cons b z=>
     rw[pT] at e;injection e with e _;exact absurd (by rw[e];simp) hnl
   |cons b z=>
    rw[pT] at e;injection e with e1 e2;subst e1;rw[hG,Zh] at h1;cases hx:jx false x with
    |none=>rw[hx] at h1;cases h1
    |some d=>
     rw[hx] at h1;change jx d (10 :: z)=some false at h1;rw[hgap] at h1;have hl:a+G.length=a+x.length+1+z.length:=by rw[hG];simp only[pC,pK];omega
     refine⟨[],_,rfl,.done hx,?_⟩;rw[e2,hl];exact .tok h1 h2 (by rw[<-hl];exact h3)
theorem zlR:∀(L:List (List UInt8)) (a:Nat) (l:List yp),Jg a (L.flatMap fun x=>x ++ [10]) l->∀x∈L,∃b l1,Jg b x l1/\l1.length<=l.length
 |[],_,_,_,x,hx=>by cases hx
 |y :: L,a,l,h,x,hx=>by
  obtain⟨l1,l2,e,h1,h2⟩:=Jg.line h y (L.flatMap fun x=>x ++ [10]) (by simp);have hl:=congrArg List.length e;rw[pC] at hl;rcases wD.1 hx with rfl|hx
  ·exact⟨a,l1,h1,by omega⟩
  ·obtain⟨b,l3,h3,h4⟩:=zlR L _ l2 h2 x hx;exact⟨b,l3,h3,by omega⟩
theorem znh{L:List (List UInt8)}(h:(Yb (L.flatMap fun x=>x ++ [10])).2=0):Yb (L.flatMap fun x=>x ++ [10])=(L.flatMap fun x=>x ++ [10],0)/\∀x∈L,Yb x=(x,0):=by
 have hr:(Lode.yQ (L.flatMap fun x=>x ++ [10])).2.2=0:=by
  unfold Yb at h;split at h
  ·cases h
  ·rename_i hn;simpa using hn
 refine⟨by unfold Yb;rw[if_neg (by rw[hr];decide)],fun x hx=>?_⟩;obtain⟨h1,h2,h3,_⟩:=Jt hr;obtain⟨c1,c2⟩:=zbB.1 h3;obtain⟨b,l1,h4,h5⟩:=zlR L 0 _ h1 x hx;obtain⟨l2,h6,h7⟩:=h4.shift 0;have hl:=congrArg List.length h7;simp only[wV] at hl;obtain⟨A,B,rfl⟩:=List.append_of_mem hx;simp only[List.flatMap_append,List.flatMap_cons,pC,List.all_append,pG] at c1 c2;have:=zeY (s:=x) (zbB.2 ⟨by omega,c2.2.1.1⟩) h6 (by omega);unfold Yb;rw[this];rfl
def zlU(t:yo):List UInt8:=(List.range t.items.length).flatMap fun (i:Nat)=>(zef t i).1 ++ [10]
theorem zmz{t:yo}(h:Ve t):YZ t=([],5)\/YZ t=(zlU t,0):=by
 unfold YZ;rw[h.qr,if_neg (by decide)];have e:(t.items.flatMap fun k=>prT t k ++ [10])=((t.items.map (prT t)).flatMap fun x=>x ++ [10]):=by rw[List.flatMap_map]
 rw[e];by_cases h5:(Yb ((t.items.map (prT t)).flatMap fun x=>x ++ [10])).2=0
 ·right;obtain⟨h1,h2⟩:=znh h5;rw[h1];refine congrArg (fun x=>(x,0)) ?_;unfold zlU;have e2:t.items.map (prT t)=(List.range t.items.length).map fun (i:Nat)=>(zef t i).1:=by
   refine List.ext_getElem (by simp) fun i h3 h4=>?_
   simp only[wV,List.length_range] at h3 h4;rw[List.getElem_map,List.getElem_map,List.getElem_range];unfold zef;rw[h.qr,if_neg (by decide),if_neg (by omega),wE,pA,glE h3,Option.getD_some,h2 _ (List.mem_map_of_mem (wC h3))]
  rw[e2,List.flatMap_map]
 ·left;unfold Yb at h5 ⊢;split
  ·rfl
  ·rename_i hn;rw[if_neg hn] at h5;exact absurd rfl h5
end
end Go.Proofs.YtnncmdpopgkibaaGreatDoor
namespace LodeX
section
open Go Go.RowKit Go.Sort Lode
section
variable {P:Program} {ops:Array Oper} {Q:Act→World→Prop}
def zm2(listed:Array Bool)(fl:List Nat):Array Bool:=fl.foldl (fun l j=>l.setIfInBounds j true) listed
def ziV(ops:Array Oper)(fl:List Nat):List (Nat×Nat)->Array Bool->Bool
 |[],_=>true
 |(i,f) :: r,listed=>((Region.ready .any ops listed).contains i && (if f<=1 then Region.free .any ops listed i else (Region.ready .any ops (zm2 listed fl)).all (fun k=>k == i || fl.contains k))) && ziV ops fl r (listed.setIfInBounds i true)
def QFl(P:Program)(ops:Array Oper)(Q:Act->World->Prop)(suf:List (Nat×Nat))(Z:Nat->Obj)(dst:Nat->Option Tmp)(N:Nat):List Nat->List Nat->Act->World->Prop
 |[],_,a,w=>∀w',Cl w w'->wpE NX P ops Q suf a w'
 |j :: fl,D,a,w=>∀w' s,Cl w w'->w'.heap[s]? =some (Z j)->N<=s->s∉D->QFl P ops Q suf Z dst N fl (s :: D) (a.put (dst j) (.pointer (some ⟨s,0,none⟩))) w'
variable {suf:List (Nat×Nat)} {Z:Nat→Obj} {dst:Nat→Option Tmp} {N:Nat}
theorem zmV:∀{fl D D':List Nat} {a:Act} {w:World},QFl P ops Q suf Z dst N fl D a w->(∀x,x∈D->x∈D')->QFl P ops Q suf Z dst N fl D' a w
 |[],_,_,_,_,h,_=>h
 |_ :: _,_,_,_,_,h,hD=>fun v s hv hz hN hs=>zmV (h v s hv hz hN (fun e=>hs (hD s e))) (fun x hx=>by
  rcases wD.1 hx with hx|hx
  ·exact hx▸List.mem_cons_self ..
  ·exact pY _ (hD x hx))
theorem zmU{j s:Nat}{fl2:List Nat}:∀{fl1 D:List Nat} {a:Act} {w:World},QFl P ops Q suf Z dst N (fl1 ++ j :: fl2) D a w->w.heap[s]? =some (Z j)->N<=s->s∉D->(∀i∈fl1,∀d,dst i=some d->dst j≠some d)->QFl P ops Q suf Z dst N (fl1 ++ fl2) (s :: D) (a.put (dst j) (.pointer (some ⟨s,0,none⟩))) w
 |[],_,_,w,h,hz,hN,hs,_=>h w s (Cl.refl w) hz hN hs
 |i :: fl1,D,a,w,h,hz,hN,hs,hd=>fun w' t hw ht hNt hn=>by
  have h1:=h w' t hw ht hNt (fun e=>hn (pY _ e));have h2:=zmU (fl1:=fl1) h1 ((hw.below.block s (gtA hz)).trans hz) hN (fun e=>by
   rcases wD.1 e with e|e
   ·exact hn (e▸List.mem_cons_self ..)
   ·exact hs e) (fun i hi=>hd i (pY _ hi))
  rw[Act.put_comm a _ _ (hd i (List.mem_cons_self ..))] at h2;exact zmV h2 (fun x hx=>by
   simp only[wD] at hx ⊢;rcases hx with hx|hx|hx <;> simp[hx])
theorem zmu{Xp:List PanicEntry->World->Prop}{c:List PanicEntry}{a:Act}{d:Option Tmp}{v:Value}{w:World}(h:xOf Xp (.panic c) a w):xOf Xp (.panic c) (a.put d v) w:=by
 cases d <;> exact h
theorem zmx{Xp:List PanicEntry->World->Prop}{o:Oper}{a:Act}{d:Option Tmp}{v:Value}{next next':Act->World->Prop}{r:Result Next}(hne:∀x,d=some x->o.dst≠some x)
 (h:∀(a':Act) w',next a' w'->next' (a'.put d v) w') (hh:o.upon P a next (xOf Xp) r):o.upon P (a.put d v) next' (xOf Xp) r:=by
 have e:∀(b:Act) u,((b.put d v).put o.dst u)=(b.put o.dst u).put d v:=fun b u=>Act.put_comm b v u hne
 cases r with
 |ok n w=>
  cases n <;> simp only[Oper.upon] at hh ⊢
  case value u=>rw[e];exact h _ _ hh
  case skip=>rw[e];exact h _ _ hh
  case defer dd=>
   have e2:({a.put d v with defers:=dd :: (a.put d v).defers}:Act).put o.dst undef=({a with defers:=dd :: a.defers}.put o.dst undef).put d v:=by
    rw[<-e];cases d <;> rfl
   rw[e2];exact h _ _ hh
  case enter f args=>
   refine hh.mono fun e1 w1 h1=>?_
   cases e1 with
   |returned u=>
    show next' _ _
    rw[e];exact h _ _ h1
   |panicked c=>exact zmu h1
   |outgrown=>exact h1
  case row row args=>exact hh.mono fun u w1 h1=>by rw[e];exact h _ _ h1
 |halt x w=>
  cases x <;> simp only[Oper.upon] at hh ⊢
  all_goals exact zmu hh
theorem zmO(hs:Region.noSelect ops=true){j s:Nat}{oj:Oper}(hoj:ops[j]? =some oj)(hdj:dst j=oj.dst){fl1 fl2 D:List Nat}(hd:∀i∈fl1,∀d,dst i=some d->dst j≠some d)(hNs:N<=s)(hsD:s∉D):∀(pre:List (Nat×Nat)) (b b1:World) (a:Act),(∀x∈pre,x.2<=2/\∃oi,ops[x.1]? =some oi/\oi.apart ops oj=true)->kh RC NX P ops (QFl P ops Q suf Z dst N (fl1 ++ j :: fl2) D) pre b a->Cl b b1->b1.heap[s]? =some (Z j)->kh RC NX P ops (QFl P ops Q suf Z dst N (fl1 ++ fl2) (s :: D)) pre b1 (a.put oj.dst (.pointer (some ⟨s,0,none⟩)))
 |[],b,b1,a,_,h,hb,hz=>fun w hw=>by
  have:=zmU (h w (Cl.trans hb hw)) ((Cl.below hw).block s (gtA hz) |>.trans hz) hNs hsD hd
  rwa [hdj] at this
 |(i,f) :: r,b,b1,a,hx,h,hb,hz=>by
  obtain⟨hf,oi,hoi,hap⟩:=hx (i,f) (List.mem_cons_self ..);have A:=zda hs hoi hoj hap;have ih:=fun b b1 a=>zmO (fl1:=fl1) (fl2:=fl2) hs hoj hdj hd hNs hsD r b b1 a (fun x hx'=>hx x (pY _ hx'))
  simp only at hf
  match f,hf with
  |0,_=>
   obtain⟨v,hy,h'⟩:=XD hoi h;exact vv hoi (hy.same (A.ei a _) (A.wi a _)) (by rw[<-Act.put_comm a v _ A.hd];exact ih _ _ _ h' hb hz)
  |1,_=>
   obtain⟨v,hy,h'⟩:=zcz hoi h;exact Xx hoi ((hy.grown hb).same (A.ei a _) (A.wi a _)) (by rw[<-Act.put_comm a v _ A.hd];exact ih _ _ _ h' hb hz)
  |2,_=>
   unfold kh at h ⊢;simp only[uB,hoi] at h ⊢;rw[A.wi a];by_cases hw:Region.wanted oi (yielded ops a.tmps)=true
   ·rw[if_pos hw] at h ⊢;intro w hw';have h1:=h w (Cl.trans hb hw');unfold Oper.wp at *;rw[A.ei a];refine zmx (fun x e e2=>A.hd x e2 e) (fun a' w' hc=>⟨hc.1,ih _ _ _ hc.2 (Cl.refl _) ?_⟩) h1;have hcl:Cl b1 w':=Cl.trans hw' hc.1;exact (hcl.below.block s (gtA hz)).trans hz
   ·rw[if_neg hw] at h ⊢;rw[<-Act.put_comm a undef _ A.hd];exact ih _ _ _ h hb hz
theorem zlQ{j:Nat}:∀(fl:List Nat) (listed:Array Bool),j∈Region.ready .any ops listed->j∉fl->j∈Region.ready .any ops (zm2 listed fl)
 |[],_,h,_=>h
 |i :: fl,listed,h,hn=>zlQ fl (listed.setIfInBounds i true) (ready_mono h (fun e=>hn (e▸List.mem_cons_self ..))) (fun e=>hn (pY _ e))
theorem zmB{j:Nat}:∀(fl:List Nat) (listed:Array Bool),j∈fl->zm2 (listed.setIfInBounds j true) fl=zm2 listed fl
 |i :: fl,listed,h=>by
  unfold zm2;simp only[List.foldl_cons];rcases wD.1 h with rfl|h
  ·rw[Array.setIfInBounds_setIfInBounds]
  ·have:=zmB fl (listed.setIfInBounds i true) h;unfold zm2 at this;by_cases e:i=j
   ·subst e;rw[Array.setIfInBounds_setIfInBounds]
   ·rw[<-Array.setIfInBounds_comm _ _ e,this]
theorem zfI{fl0:List Nat}{j f:Nat}{l2:List (Nat×Nat)}:∀(l1:List (Nat×Nat)) (listed:Array Bool),ziV ops fl0 (l1 ++ (j,f) :: l2) listed=true->j∈Region.ready .any ops listed->j∉fl0->(∀x,x∈l1->x.1≠j)->
 ziV ops fl0 (l1 ++ l2) (listed.setIfInBounds j true)=true/\∀x,x∈l1->x.2<=1/\∃oi oj,ops[x.1]? =some oi/\ops[j]? =some oj/\oi.apart ops oj=true
 |[],listed,h,hj,_,_=>by
  refine⟨?_,fun x hx=>absurd hx (wH)⟩;simp only[wJ,ziV,pG] at h ⊢;exact h.2
 |(i,g) :: l1,listed,h,hj,hjf,hne=>by
  have hij:i≠j:=hne (i,g) (by simp);simp only[pT,ziV,pG] at h ⊢;obtain⟨⟨hc,hi⟩,hr⟩:=h;have hi':i∈Region.ready .any ops listed:=by simpa using hc
  by_cases hg:g<=1
  ·rw[if_pos hg] at hi ⊢;obtain⟨h1,h2⟩:=zfI l1 (listed.setIfInBounds i true) hr (ready_mono hj hij.symm) hjf (fun x hx=>hne x (by simp[hx]));refine⟨⟨⟨by simpa using ready_mono hi' hij,zgC hi⟩,by rw[<-Array.setIfInBounds_comm _ _ hij];exact h1⟩,fun x hx=>?_⟩;rcases wD.1 hx with rfl|hx
   ·obtain⟨_,oi,hoi,_⟩:=mem_ready.1 hi';obtain⟨hju,oj,hoj,hall⟩:=mem_ready.1 hj;refine⟨hg,oi,oj,hoi,hoj,Region.free_spec hoi hi j oj hoj (Ne.symm hij) hju fun e he hb hon=>?_⟩;have h3:=hall e he hb;have h4:=(mem_ready.1 hi').1;rw[hon] at h3;rw[KC h4] at h3;cases h3
   ·exact h2 x hx
  ·rw[if_neg hg,pO] at hi;have:=hi j (zlQ fl0 listed hj hjf);simp only[wF,pS,List.contains_iff_mem] at this;rcases this with e|e
   ·exact absurd e.symm hij
   ·exact absurd e hjf
theorem zii{fl0:List Nat}{j:Nat}(hjf:j∈fl0):∀(pre:List (Nat×Nat)) (listed:Array Bool),ziV ops fl0 pre listed=true->(∀x,x∈pre->x.1∉fl0)->ziV ops fl0 pre (listed.setIfInBounds j true)=true
 |[],_,_,_=>rfl
 |(i,g) :: r,listed,h,hne=>by
  have hij:i≠j:=fun e=>hne (i,g) (List.mem_cons_self ..) (e▸hjf)
  simp only[ziV,pG] at h ⊢;obtain⟨⟨hc,hi⟩,hr⟩:=h;have hi':i∈Region.ready .any ops listed:=by simpa using hc
  refine⟨⟨by simpa using ready_mono hi' hij,?_⟩,by rw[<-Array.setIfInBounds_comm _ _ hij];exact zii hjf r _ hr (fun x hx=>hne x (pY _ hx))⟩;by_cases hg:g<=1
  ·rw[if_pos hg] at hi ⊢;exact zgC hi
  ·rw[if_neg hg] at hi ⊢;rw[zmB fl0 listed hjf];exact hi
def ziR(ops:Array Oper)(suf:List (Nat×Nat)):Array Bool:=(Array.range ops.size).map fun i=> !(suf.any fun x=>x.1 == i)
structure zmk(ops:Array Oper)(fl0:List Nat)(suf pre:List (Nat×Nat))(fl:List Nat)(listed:Array Bool):Prop where
 ok:ziV ops fl0 pre listed=true
 nd:(pre.map Prod.fst).Nodup
 un:∀x,x∈pre->listed.getD x.1 true=false/\x.2<=2/\x.1∉fl0
 fn:fl.Nodup
 fu:∀j,j∈fl->j∈fl0/\j∈Region.ready .any ops listed
 cov:∀i,i<ops.size->listed.getD i true=false->(∃f,(i,f)∈pre)\/i∈fl\/∃f,(i,f)∈suf
 su:∀x,x∈suf->listed.getD x.1 true=false/\x.1∉fl/\∀y,y∈pre->y.1≠x.1
 sw:∀t,t∈suf->(∀x,x∈pre->ZP .any ops 12 t.1 x.1=true)/\∀j,j∈fl->ZP .any ops 12 t.1 j=true
 ap:∀x,x∈pre->∀j,j∈fl0->∃oi oj,ops[x.1]? =some oi/\ops[j]? =some oj/\oi.apart ops oj=true
 cl:QA .any ops listed
 sz:listed.size=ops.size
theorem zmk.pre{fl0:List Nat}{l1 l2:List (Nat×Nat)}{fl:List Nat}{listed:Array Bool}{j f:Nat}(I:zmk ops fl0 suf (l1 ++ (j,f) :: l2) fl listed)(hj:j∈Region.ready .any ops listed):zmk ops fl0 suf (l1 ++ l2) fl (listed.setIfInBounds j true)/\∀x,x∈l1->(x.2<=1/\(3<=f->x.2=0))/\∃oi oj,ops[x.1]? =some oi/\ops[j]? =some oj/\oi.apart ops oj=true:=by
 have hjm:(j,f)∈l1 ++ (j,f) :: l2:=pX.2 (.inr (List.mem_cons_self ..));obtain⟨hju,hf2,hjf⟩:=I.un _ hjm;have nd:=I.nd;rw[List.map_append,List.map_cons,List.nodup_append] at nd;obtain⟨nd1,nd2,nd3⟩:=nd;rw[List.nodup_cons] at nd2;have hne1:∀x,x∈l1->x.1≠j:=fun x hx=>nd3 _ (List.mem_map_of_mem hx) _ (by simp)
 have hne2:∀x,x∈l2->x.1≠j:=fun x hx e=>nd2.1 (by rw[<-e];exact List.mem_map.2 ⟨x,hx,rfl⟩)
 have hne:∀x,x∈l1 ++ l2->x.1≠j:=fun x hx=>(pX.1 hx).elim (hne1 x) (hne2 x)
 have sub:∀x,x∈l1 ++ l2->x∈l1 ++ (j,f) :: l2:=fun x hx=>by
  rcases pX.1 hx with hx|hx
  ·exact pX.2 (.inl hx)
  ·exact pX.2 (.inr (pY _ hx))
 obtain⟨m1,m2⟩:=zfI l1 listed I.ok hj hjf hne1;refine⟨⟨m1,?_,?_,I.fn,?_,?_,?_,?_,?_,I.cl.set hj,?_⟩,fun x hx=>⟨⟨(m2 x hx).1,fun h3=>?_⟩,(m2 x hx).2⟩⟩
 ·rw[List.map_append,List.nodup_append];exact⟨nd1,nd2.2,fun a ha b hb=>nd3 a ha b (pY _ hb)⟩
 ·exact fun x hx=>⟨by rw[getD_set_ne true (Ne.symm (hne x hx))];exact (I.un x (sub x hx)).1,(I.un x (sub x hx)).2⟩
 ·exact fun k hk=>⟨(I.fu k hk).1,ready_mono (I.fu k hk).2 (fun e=>hjf (e▸(I.fu k hk).1))⟩
 ·intro i hi hu;have hij:j≠i:=fun e=>by subst e;rw[Vw] at hu;cases hu
  rw[getD_set_ne true hij] at hu;refine (I.cov i hi hu).imp (fun ⟨g,hg⟩=>⟨g,?_⟩) id;rcases pX.1 hg with hg|hg
  ·exact pX.2 (.inl hg)
  ·rcases wD.1 hg with hg|hg
   ·exact absurd (congrArg Prod.fst hg).symm hij
   ·exact pX.2 (.inr hg)
 ·exact fun x hx=>⟨by rw[getD_set_ne true ((I.su x hx).2.2 _ hjm)];exact (I.su x hx).1,(I.su x hx).2.1,fun y hy=>(I.su x hx).2.2 y (sub y hy)⟩
 ·exact fun t ht=>⟨fun x hx=>(I.sw t ht).1 x (sub x hx),(I.sw t ht).2⟩
 ·exact fun x hx=>I.ap x (sub x hx)
 ·rw[Array.size_setIfInBounds];exact I.sz
 ·simp only at hf2;omega
theorem zmk.float{fl0:List Nat}{pre:List (Nat×Nat)}{fl1 fl2:List Nat}{listed:Array Bool}{j:Nat}(I:zmk ops fl0 suf pre (fl1 ++ j :: fl2) listed):zmk ops fl0 suf pre (fl1 ++ fl2) (listed.setIfInBounds j true):=by
 have hjm:j∈fl1 ++ j :: fl2:=pX.2 (.inr (List.mem_cons_self ..));obtain⟨hjf,hj⟩:=I.fu j hjm;have nd:=I.fn;rw[List.nodup_append] at nd;obtain⟨nd1,nd2,nd3⟩:=nd;rw[List.nodup_cons] at nd2;have hne:∀x,x∈fl1 ++ fl2->x≠j:=fun x hx=>(pX.1 hx).elim (fun h=>nd3 x h j (List.mem_cons_self ..)) (fun h e=>nd2.1 (e▸h))
 have sub:∀x,x∈fl1 ++ fl2->x∈fl1 ++ j :: fl2:=fun x hx=>by
  rcases pX.1 hx with hx|hx
  ·exact pX.2 (.inl hx)
  ·exact pX.2 (.inr (pY _ hx))
 have hpj:∀x,x∈pre->j≠x.1:=fun x hx e=>(I.un x hx).2.2 (e▸hjf)
 refine⟨zii hjf pre listed I.ok (fun x hx=>(I.un x hx).2.2),I.nd,?_,?_,?_,?_,?_,?_,I.ap,I.cl.set hj,?_⟩
 ·exact fun x hx=>⟨by rw[getD_set_ne true (hpj x hx)];exact (I.un x hx).1,(I.un x hx).2⟩
 ·rw[List.nodup_append];exact⟨nd1,nd2.2,fun a ha b hb=>nd3 a ha b (pY _ hb)⟩
 ·exact fun k hk=>⟨(I.fu k (sub k hk)).1,ready_mono (I.fu k (sub k hk)).2 (hne k hk)⟩
 ·intro i hi hu;have hij:j≠i:=fun e=>by subst e;rw[Vw] at hu;cases hu
  rw[getD_set_ne true hij] at hu;rcases I.cov i hi hu with h|h|h
  ·exact .inl h
  ·refine .inr (.inl ?_);rcases pX.1 h with h|h
   ·exact pX.2 (.inl h)
   ·rcases wD.1 h with h|h
    ·exact absurd h.symm hij
    ·exact pX.2 (.inr h)
  ·exact .inr (.inr h)
 ·exact fun x hx=>⟨by rw[getD_set_ne true (fun e=>(I.su x hx).2.1 (by rw[<-e];exact hjm))];exact (I.su x hx).1,fun e=>(I.su x hx).2.1 (sub _ e),(I.su x hx).2.2⟩
 ·exact fun t ht=>⟨(I.sw t ht).1,fun k hk=>(I.sw t ht).2 k (sub k hk)⟩
 ·rw[Array.size_setIfInBounds];exact I.sz
theorem zmk.fin{fl0:List Nat}{listed:Array Bool}(I:zmk ops fl0 suf [] [] listed):listed=ziR ops suf:=by
 apply Array.ext
 ·simp[ziR,I.sz]
 ·intro i h1 h2;have hi:i<ops.size:=by rw[<-I.sz];exact h1
  simp only[ziR,Array.getElem_map,Array.getElem_range];have hg:listed.getD i true=listed[i]:=by simp[h1]
  by_cases hs:∃f,(i,f)∈suf
  ·obtain⟨f,hf⟩:=hs;have h3:=(I.su _ hf).1;simp only at h3;rw[hg] at h3;rw[h3];symm;simp only[Bool.not_eq_false',gC,pS];exact⟨_,hf,rfl⟩
  ·have h3:listed[i]=true:=by
    cases hl:listed[i] with
    |true=>rfl
    |false=>
     exfalso;rcases I.cov i hi (by rw[hg,hl]) with⟨f,h⟩|h|h
     ·cases h
     ·cases h
     ·exact hs h
   rw[h3];symm;simp only[Bool.not_eq_true',List.any_eq_false,pS];intro x hx e;exact hs ⟨x.2,by rw[<-e];exact hx⟩
theorem zgQ{i:Nat}{b:World}{K:World->Act->Prop}{KE next':Act->World->Prop}{a:Act}{w:World}(hb:Cl b w)(h:∀a w',(∃b',Cl b b'/\Cl b' w'/\K b' a)->next' a w')(hh:uB RC NX P ops 2 i b K KE a):wpOp P ops (YP NX Q) i next' a w:=by
 unfold uB at hh;unfold wpOp;cases ho:ops[i]? with
 |none=>rw[ho] at hh;exact h _ _ ⟨b,Cl.refl b,hb,hh⟩
 |some o=>
  rw[ho] at hh;simp only at hh ⊢;by_cases hw:Region.wanted o (yielded ops a.tmps)=true
  ·rw[if_pos hw] at hh ⊢;exact .inl (VD (fun a w' h1=>h _ _ ⟨w',Cl.trans hb h1.1,Cl.refl _,h1.2⟩) (hh w hb))
  ·rw[if_neg hw] at hh ⊢;exact h _ _ ⟨b,Cl.refl b,hb,hh⟩
structure zla(P:Program)(ops:Array Oper)(Z:Nat->Obj)(dst:Nat->Option Tmp)(j:Nat):Prop where
 ex:∃oj,ops[j]? =some oj/\dst j=oj.dst/\(∀y,Region.wanted oj y=true)/\∀(a:Act) (w:World),(execOp a.eval oj).run P w=.ok (.value (.pointer (some ⟨w.heap.size,0,none⟩))) (w.alloc (Z j))
theorem zki(hs:Region.noSelect ops=true){fl0:List Nat}(hI:YK .any ops suf (ziR ops suf)=true/\(suf.map Prod.fst).Nodup/\Xe suf=true)(hsl:∀y,y∈suf->y.2=0\/3<=y.2)(hZ:∀j∈fl0,zla P ops Z dst j)(hd:∀i∈fl0,∀j∈fl0,i≠j->∀d,dst i=some d->dst j≠some d):∀(n:Nat) (pre:List (Nat×Nat)) (fl D:List Nat) (listed:Array Bool) (fuel:Nat) (b:World) (a:Act) (w:World),pre.length+fl.length=n->n+suf.length<=fuel->zmk ops fl0 suf pre fl listed->Cl b w->N<=b.heap.size->(∀x∈D,x<b.heap.size)->
 kh RC NX P ops (QFl P ops Q suf Z dst N fl D) pre b a->wpAny P .any ops (YP NX Q) fuel listed a w
 |0,pre,fl,D,listed,fuel,b,a,w,hn,hf,I,hb,_,_,h=>by
  obtain rfl:pre=[]:=pM (by omega);obtain rfl:fl=[]:=pM (by omega);exact zav hs suf.length suf _ fuel a w rfl (by omega) ⟨by rw[I.fin];exact hI.1,hI.2.1,fun x hx=>(I.su x hx).1,fun i hi hu=>(I.cov i hi hu).elim (fun ⟨_,h⟩=>by cases h) (fun h=>h.elim (fun h=>by cases h) id),I.cl,fun x hx h1=>(hsl x hx).elim (fun h=>by omega) (fun h=>by omega),hI.2.2⟩ hsl (h w hb w (Cl.refl w))
 |n+1,pre,fl,D,listed,fuel,b,a,w,hn,hf,I,hb,hNb,hD,h=>by
  obtain⟨k,rfl⟩:∃k,fuel=k+1:=⟨fuel-1,by omega⟩;have hne:∀t,t∈suf->t.1∉Region.ready .any ops listed:=fun t ht hr=>by
   cases pre with
   |cons x r=>exact XY (n:=12) I.cl ((I.sw t ht).1 x (List.mem_cons_self ..)) (I.un x (List.mem_cons_self ..)).1 hr
   |nil=>
    cases fl with
    |nil=>simp at hn
    |cons j r=>exact XY (n:=12) I.cl ((I.sw t ht).2 j (List.mem_cons_self ..)) (mem_ready.1 (I.fu j (List.mem_cons_self ..)).2).1 hr
  refine⟨fun e=>?_,fun i hi=>?_⟩
  ·exfalso;cases pre with
   |cons x r=>
    have h1:=I.ok;obtain⟨i,f⟩:=x;simp only[ziV,pG] at h1;rw[e] at h1;simp at h1
   |nil=>
    cases fl with
    |nil=>simp at hn
    |cons j r=>
     have:=(I.fu j (List.mem_cons_self ..)).2;rw[e] at this;cases this
  ·obtain⟨hiu,oi,hoi,_⟩:=mem_ready.1 hi;rcases I.cov i (gtA hoi) hiu with⟨f,hm⟩|hm|⟨f,hm⟩
   ·obtain⟨l1,l2,rfl⟩:=List.append_of_mem hm;obtain⟨I',hx⟩:=I.pre hi;have hf2:=(I.un _ hm).2.1;have st:=QB hs l1 a hx h;have hl:(l1 ++ l2).length+fl.length=n:=by simp at hn ⊢;omega
    have ih:=fun b' a' w'=>zki hs hI hsl hZ hd n (l1 ++ l2) fl D _ k b' a' w' hl (by omega) I'
    simp only at hf2
    match f,st,hf2 with
    |0,st,_=>exact YH (fun a' h'=>ih b a' w hb hNb hD h') st
    |1,st,_=>exact Vp (RR:=RC) hb (fun a' w' hw' h'=>ih b a' w' hw' hNb hD h') st
    |2,st,_=>exact zgQ hb (fun a' w' ⟨b',h0,h1,h2⟩=>ih b' a' w' h1 (pN hNb h0.below.size) (fun x hx=>wI (hD x hx) h0.below.size) h2) st
   ·obtain⟨fl1,fl2,rfl⟩:=List.append_of_mem hm;have I':=I.float;obtain⟨oj,hoj,hdj,hw,hrun⟩:=(hZ i (I.fu i hm).1).ex;have hl:pre.length+(fl1 ++ fl2).length=n:=by simp at hn ⊢;omega
    have hgrow:Cl w (w.alloc (Z i)):=ux.2 (zf w (Z i));have hfn:=I.fn;rw[List.nodup_append] at hfn;have H:=zmO hs hoj hdj (s:=w.heap.size) (fun q hq=>hd q (I.fu q (pX.2 (.inl hq))).1 i (I.fu i hm).1 (hfn.2.2 q hq i (List.mem_cons_self ..))) (pN hNb hb.below.size) (fun e=>by
     have h1:=hD _ e;have h2:=hb.below.size;omega) pre b (w.alloc (Z i)) a (fun x hx=>by
     obtain⟨o1,o2,e1,e2,e3⟩:=I.ap x hx i (I.fu i hm).1;rw[hoj] at e2;cases e2;exact⟨(I.un x hx).2.1,o1,e1,e3⟩) h (Cl.trans hb hgrow) (Go.Proofs.YtnncmdpopgkibaaGreatDoor.zk w (Z i))
    have ih:=zki hs hI hsl hZ hd n pre (fl1 ++ fl2) (w.heap.size :: D) _ k (w.alloc (Z i)) (a.put oj.dst (.pointer (some ⟨w.heap.size,0,none⟩))) (w.alloc (Z i)) hl (by omega) I' (Cl.refl _) (by have:=hb.below.size;simp;omega) (fun x hx=>by
     rcases wD.1 hx with hx|hx
     ·rw[hx];simp
     ·have h1:=hD x hx;have h2:=hb.below.size;simp;omega) H
    refine YF (Xp:=NX) (fun a' w' h'=>h') ?_;unfold Xv;rw[hoj];simp only[hw,if_true];unfold Oper.wp;rw[hrun];exact ih
   ·exact absurd hi (hne _ hm)
def zhE(ops:Array Oper)(pre:List (Nat×Nat))(fl:List Nat)(suf:List (Nat×Nat)):Bool:=
 let z:=Array.replicate ops.size false
 Region.noSelect ops && ziV ops fl pre z && decide ((pre.map Prod.fst).Nodup) && (pre.all fun x=>decide (x.1<ops.size) && decide (x.2<=2) && !fl.contains x.1) && decide fl.Nodup && (fl.all fun j=>(Region.ready .any ops z).contains j) && ((List.range ops.size).all fun i=>(pre.any fun x=>x.1 == i) || fl.contains i || suf.any fun x=>x.1 == i) && (suf.all fun t=>decide (t.1<ops.size) && !fl.contains t.1 && (pre.all fun x=>decide (x.1≠t.1) && ZP .any ops 12 t.1 x.1) && fl.all fun j=>ZP .any ops 12 t.1 j) && (pre.all fun x=>fl.all fun j=>(ops[x.1]?).any fun oi=>(ops[j]?).any fun oj=>oi.apart ops oj) && (YK .any ops suf (ziR ops suf) && decide ((suf.map Prod.fst).Nodup) && Xe suf && (suf.all fun x=>x.2 == 0 || decide (3<=x.2)) && decide (pre.length+fl.length+suf.length<=ops.size))
theorem zmr{pre suf:List (Nat×Nat)}{fl:List Nat}(h:zhE ops pre fl suf=true):Region.noSelect ops=true/\zmk ops fl suf pre fl (Array.replicate ops.size false)/\(YK .any ops suf (ziR ops suf)=true/\(suf.map Prod.fst).Nodup/\Xe suf=true)/\(∀y,y∈suf->y.2=0\/3<=y.2)/\pre.length+fl.length+suf.length<=ops.size:=by
 simp only[zhE,pG,pH,pO,gC,wF,Bool.not_eq_true',pS,List.mem_range,List.contains_iff_mem,Option.any_eq_true] at h;obtain⟨⟨⟨⟨⟨⟨⟨⟨⟨h1,h2⟩,h3⟩,h4⟩,h5⟩,h6⟩,h7⟩,h8⟩,h9⟩,⟨⟨⟨h10,h11⟩,h12⟩,h13⟩,h14⟩:=h;have hz:∀i,i<ops.size->(Array.replicate ops.size false).getD i true=false:=fun i hi=>by simp[hi]
 have nc:∀x,fl.contains x=false->x∉fl:=fun x h e=>by
  rw[List.contains_iff_mem.2 e] at h;cases h
 refine⟨h1,⟨h2,h3,fun x hx=>⟨hz _ (h4 x hx).1.1,(h4 x hx).1.2,nc _ (h4 x hx).2⟩,h5,fun j hj=>⟨hj,h6 j hj⟩,fun i hi _=>?_,fun x hx=>⟨hz _ (h8 x hx).1.1.1,nc _ (h8 x hx).1.1.2,fun y hy=>((h8 x hx).1.2 y hy).1⟩,fun t ht=>⟨fun x hx=>((h8 t ht).1.2 x hx).2,(h8 t ht).2⟩,fun x hx j hj=>?_,fun k o ho hk=>?_,by simp⟩,⟨h10,h11,h12⟩,h13,h14⟩
 ·rcases h7 i hi with (⟨x,hx,e⟩|h)|⟨x,hx,e⟩
  ·exact .inl ⟨x.2,by rw[<-e];exact hx⟩
  ·exact .inr (.inl h)
  ·exact .inr (.inr ⟨x.2,by rw[<-e];exact hx⟩)
 ·obtain⟨oi,e1,oj,e2,e3⟩:=h9 x hx j hj;exact⟨oi,oj,e1,e2,e3⟩
 ·exfalso;rcases Nat.lt_or_ge k ops.size with h'|h'
  ·simp[h'] at hk
  ·simp[Array.getElem?_eq_none h'] at ho
theorem znB{id:Nat}{l:List Oper}{Q:Exit->Act->World->Prop}{a:Act}{w:World}(pre:List (Nat×Nat))(fl:List Nat)(suf:List (Nat×Nat))(Z:Nat->Obj)(dst:Nat->Option Tmp)(h:kh RC NX P l.toArray (QFl P l.toArray (Q .normal) suf Z dst w.heap.size fl []) pre w.drew a)(hZ:∀j∈fl,zla P l.toArray Z dst j)(hd:∀i∈fl,∀j∈fl,i≠j->∀d,dst i=some d->dst j≠some d)(hm:P.follows .mixedOrders=true:=by kernel_rfl)(hc:zhE l.toArray pre fl suf=true:=by kernel_rfl):(Code.region id l.toArray true).wp P Q a w:=by
 obtain⟨h1,h2,h3,h4,h5⟩:=zmr hc;refine Code.wp_mono (fun e a w q=>?_) (wp_region_any (Q:=YP NX (Q .normal)) hm (zki h1 h3 h4 hZ hd _ pre fl [] _ _ w.drew a _ rfl (by omega) h2 (Cl.refl _) (pE _) (fun x hx=>by cases hx) h));cases e <;> first|exact q|exact q.2.elim|exact q.elim
end
section
variable {P:Program} {ops:Array Oper} {Q:Act→World→Prop}
variable {suf:List (Nat×Nat)} {Z:Nat→Obj} {dst:Nat→Option Tmp} {N:Nat}
structure zmj(ops:Array Oper)(q:Nat)(fl0:List Nat)(suf pre:List (Nat×Nat))(fl:List Nat)(listed:Array Bool):Prop where
 ok:ziV ops fl0 pre listed=true
 nd:(pre.map Prod.fst).Nodup
 un:∀x,x∈pre->listed.getD x.1 true=false/\x.2<=2/\x.1∉fl0
 fn:fl.Nodup
 fu:∀j,j∈fl->j∈fl0/\j∈Region.ready .any ops listed
 cov:∀i,i<ops.size->listed.getD i true=false->(∃f,(i,f)∈pre)\/i∈fl\/∃f,(i,f)∈suf
 su:∀x,x∈suf->listed.getD x.1 true=false/\x.1∉fl/\∀y,y∈pre->y.1≠x.1
 sw:∀t,t∈suf->(∀x,x∈pre->x.1≠q->ZP .any ops 12 t.1 x.1=true)/\∀j,j∈fl->ZP .any ops 12 t.1 j=true
 ap:∀x,x∈pre->∀j,j∈fl0->∃oi oj,ops[x.1]? =some oi/\ops[j]? =some oj/\oi.apart ops oj=true
 cl:QA .any ops listed
 sz:listed.size=ops.size
 qfl:∀x,x∈pre->x.1=q->x.2=0
theorem zmj.pre{q:Nat}{fl0:List Nat}{l1 l2:List (Nat×Nat)}{fl:List Nat}{listed:Array Bool}{j f:Nat}(I:zmj ops q fl0 suf (l1 ++ (j,f) :: l2) fl listed)(hj:j∈Region.ready .any ops listed):zmj ops q fl0 suf (l1 ++ l2) fl (listed.setIfInBounds j true)/\∀x,x∈l1->(x.2<=1/\(3<=f->x.2=0))/\∃oi oj,ops[x.1]? =some oi/\ops[j]? =some oj/\oi.apart ops oj=true:=by
 have hjm:(j,f)∈l1 ++ (j,f) :: l2:=pX.2 (.inr (List.mem_cons_self ..));obtain⟨hju,hf2,hjf⟩:=I.un _ hjm;have nd:=I.nd;rw[List.map_append,List.map_cons,List.nodup_append] at nd;obtain⟨nd1,nd2,nd3⟩:=nd;rw[List.nodup_cons] at nd2;have hne1:∀x,x∈l1->x.1≠j:=fun x hx=>nd3 _ (List.mem_map_of_mem hx) _ (by simp)
 have hne2:∀x,x∈l2->x.1≠j:=fun x hx e=>nd2.1 (by rw[<-e];exact List.mem_map.2 ⟨x,hx,rfl⟩)
 have hne:∀x,x∈l1 ++ l2->x.1≠j:=fun x hx=>(pX.1 hx).elim (hne1 x) (hne2 x)
 have sub:∀x,x∈l1 ++ l2->x∈l1 ++ (j,f) :: l2:=fun x hx=>by
  rcases pX.1 hx with hx|hx
  ·exact pX.2 (.inl hx)
  ·exact pX.2 (.inr (pY _ hx))
 obtain⟨m1,m2⟩:=zfI l1 listed I.ok hj hjf hne1;refine⟨⟨m1,?_,?_,I.fn,?_,?_,?_,?_,?_,I.cl.set hj,?_,fun x hx=>I.qfl x (sub x hx)⟩,fun x hx=>⟨⟨(m2 x hx).1,fun h3=>?_⟩,(m2 x hx).2⟩⟩
 ·rw[List.map_append,List.nodup_append];exact⟨nd1,nd2.2,fun a ha b hb=>nd3 a ha b (pY _ hb)⟩
 ·exact fun x hx=>⟨by rw[getD_set_ne true (Ne.symm (hne x hx))];exact (I.un x (sub x hx)).1,(I.un x (sub x hx)).2⟩
 ·exact fun k hk=>⟨(I.fu k hk).1,ready_mono (I.fu k hk).2 (fun e=>hjf (e▸(I.fu k hk).1))⟩
 ·intro i hi hu;have hij:j≠i:=fun e=>by subst e;rw[Vw] at hu;cases hu
  rw[getD_set_ne true hij] at hu;refine (I.cov i hi hu).imp (fun ⟨g,hg⟩=>⟨g,?_⟩) id;rcases pX.1 hg with hg|hg
  ·exact pX.2 (.inl hg)
  ·rcases wD.1 hg with hg|hg
   ·exact absurd (congrArg Prod.fst hg).symm hij
   ·exact pX.2 (.inr hg)
 ·exact fun x hx=>⟨by rw[getD_set_ne true ((I.su x hx).2.2 _ hjm)];exact (I.su x hx).1,(I.su x hx).2.1,fun y hy=>(I.su x hx).2.2 y (sub y hy)⟩
 ·exact fun t ht=>⟨fun x hx=>(I.sw t ht).1 x (sub x hx),(I.sw t ht).2⟩
 ·exact fun x hx=>I.ap x (sub x hx)
 ·rw[Array.size_setIfInBounds];exact I.sz
 ·simp only at hf2;omega
theorem zmj.float{q:Nat}{fl0:List Nat}{pre:List (Nat×Nat)}{fl1 fl2:List Nat}{listed:Array Bool}{j:Nat}(I:zmj ops q fl0 suf pre (fl1 ++ j :: fl2) listed):zmj ops q fl0 suf pre (fl1 ++ fl2) (listed.setIfInBounds j true):=by
 have hjm:j∈fl1 ++ j :: fl2:=pX.2 (.inr (List.mem_cons_self ..));obtain⟨hjf,hj⟩:=I.fu j hjm;have nd:=I.fn;rw[List.nodup_append] at nd;obtain⟨nd1,nd2,nd3⟩:=nd;rw[List.nodup_cons] at nd2;have hne:∀x,x∈fl1 ++ fl2->x≠j:=fun x hx=>(pX.1 hx).elim (fun h=>nd3 x h j (List.mem_cons_self ..)) (fun h e=>nd2.1 (e▸h))
 have sub:∀x,x∈fl1 ++ fl2->x∈fl1 ++ j :: fl2:=fun x hx=>by
  rcases pX.1 hx with hx|hx
  ·exact pX.2 (.inl hx)
  ·exact pX.2 (.inr (pY _ hx))
 have hpj:∀x,x∈pre->j≠x.1:=fun x hx e=>(I.un x hx).2.2 (e▸hjf)
 refine⟨zii hjf pre listed I.ok (fun x hx=>(I.un x hx).2.2),I.nd,?_,?_,?_,?_,?_,?_,I.ap,I.cl.set hj,?_,I.qfl⟩
 ·exact fun x hx=>⟨by rw[getD_set_ne true (hpj x hx)];exact (I.un x hx).1,(I.un x hx).2⟩
 ·rw[List.nodup_append];exact⟨nd1,nd2.2,fun a ha b hb=>nd3 a ha b (pY _ hb)⟩
 ·exact fun k hk=>⟨(I.fu k (sub k hk)).1,ready_mono (I.fu k (sub k hk)).2 (hne k hk)⟩
 ·intro i hi hu;have hij:j≠i:=fun e=>by subst e;rw[Vw] at hu;cases hu
  rw[getD_set_ne true hij] at hu;rcases I.cov i hi hu with h|h|h
  ·exact .inl h
  ·refine .inr (.inl ?_);rcases pX.1 h with h|h
   ·exact pX.2 (.inl h)
   ·rcases wD.1 h with h|h
    ·exact absurd h.symm hij
    ·exact pX.2 (.inr h)
  ·exact .inr (.inr h)
 ·exact fun x hx=>⟨by rw[getD_set_ne true (fun e=>(I.su x hx).2.1 (by rw[<-e];exact hjm))];exact (I.su x hx).1,fun e=>(I.su x hx).2.1 (sub _ e),(I.su x hx).2.2⟩
 ·exact fun t ht=>⟨(I.sw t ht).1,fun k hk=>(I.sw t ht).2 k (sub k hk)⟩
 ·rw[Array.size_setIfInBounds];exact I.sz
theorem zmj.fin{q:Nat}{pre:List (Nat×Nat)}{fl0:List Nat}{listed:Array Bool}(I:zmj ops q fl0 suf pre [] listed):listed=ziR ops (pre ++ suf):=by
 apply Array.ext
 ·simp[ziR,I.sz]
 ·intro i h1 h2;have hi:i<ops.size:=by rw[<-I.sz];exact h1
  simp only[ziR,Array.getElem_map,Array.getElem_range];have hg:listed.getD i true=listed[i]:=by simp[h1]
  by_cases hs:∃f,(i,f)∈pre ++ suf
  ·obtain⟨f,hf⟩:=hs;have h3:listed.getD i true=false:=by
    rcases pX.1 hf with hf|hf
    ·exact (I.un _ hf).1
    ·exact (I.su _ hf).1
   rw[hg] at h3;rw[h3];symm;simp only[Bool.not_eq_false',gC,pS];exact⟨_,hf,rfl⟩
  ·have h3:listed[i]=true:=by
    cases hl:listed[i] with
    |true=>rfl
    |false=>
     exfalso;rcases I.cov i hi (by rw[hg,hl]) with⟨f,h⟩|h|⟨f,h⟩
     ·exact hs ⟨f,pX.2 (.inl h)⟩
     ·cases h
     ·exact hs ⟨f,pX.2 (.inr h)⟩
   rw[h3];symm;simp only[Bool.not_eq_true',List.any_eq_false,pS];intro x hx e;exact hs ⟨x.2,by rw[<-e];exact hx⟩
theorem ziT{q:Nat}(hIq:YK .any ops ((q,0) :: suf) (ziR ops ((q,0) :: suf))=true/\(((q,0) :: suf).map Prod.fst).Nodup/\Xe ((q,0) :: suf)=true)(hs:Region.noSelect ops=true){fl0:List Nat}(hI:YK .any ops suf (ziR ops suf)=true/\(suf.map Prod.fst).Nodup/\Xe suf=true)(hsl:∀y,y∈suf->y.2=0\/3<=y.2)(hZ:∀j∈fl0,zla P ops Z dst j)(hd:∀i∈fl0,∀j∈fl0,i≠j->∀d,dst i=some d->dst j≠some d):∀(n:Nat) (pre:List (Nat×Nat)) (fl D:List Nat) (listed:Array Bool) (fuel:Nat) (b:World) (a:Act) (w:World),pre.length+fl.length=n->n+suf.length<=fuel->zmj ops q fl0 suf pre fl listed->Cl b w->N<=b.heap.size->(∀x∈D,x<b.heap.size)->
 kh RC NX P ops (QFl P ops Q suf Z dst N fl D) pre b a->wpAny P .any ops (YP NX Q) fuel listed a w
 |0,pre,fl,D,listed,fuel,b,a,w,hn,hf,I,hb,_,_,h=>by
  obtain rfl:pre=[]:=pM (by omega);obtain rfl:fl=[]:=pM (by omega);exact zav hs suf.length suf _ fuel a w rfl (by omega) ⟨by have:=I.fin;rw[wJ] at this;rw[this];exact hI.1,hI.2.1,fun x hx=>(I.su x hx).1,fun i hi hu=>(I.cov i hi hu).elim (fun ⟨_,h⟩=>by cases h) (fun h=>h.elim (fun h=>by cases h) id),I.cl,fun x hx h1=>(hsl x hx).elim (fun h=>by omega) (fun h=>by omega),hI.2.2⟩ hsl (h w hb w (Cl.refl w))
 |n+1,pre,fl,D,listed,fuel,b,a,w,hn,hf,I,hb,hNb,hD,h=>by
  by_cases hq:pre=[(q,0)]/\fl=[]
  ·obtain⟨rfl,rfl⟩:=hq;have hn0:n=0:=by simp at hn;omega
   refine zav hs (suf.length+1) ((q,0) :: suf) _ fuel a w rfl (by omega) ⟨by have:=I.fin;rw[List.singleton_append] at this;rw[this];exact hIq.1,hIq.2.1,fun x hx=>?_,fun i hi hu=>?_,I.cl,fun x hx h1=>?_,hIq.2.2⟩ (fun y hy=>?_) ?_
   ·rcases wD.1 hx with rfl|hx
    ·exact (I.un _ (wL.2 rfl)).1
    ·exact (I.su x hx).1
   ·rcases I.cov i hi hu with⟨f,hm⟩|hm|⟨f,hm⟩
    ·exact⟨f,wD.2 (.inl (wL.1 hm))⟩
    ·cases hm
    ·exact⟨f,pY _ hm⟩
   ·rcases wD.1 hx with rfl|hx
    ·simp only at h1;omega
    ·exact (hsl x hx).elim (fun h=>by omega) (fun h=>by omega)
   ·rcases wD.1 hy with rfl|hy
    ·exact .inl rfl
    ·exact hsl y hy
   ·simp only[LodeX.kh,uB,LodeX.wpE] at h ⊢;unfold Xw at h ⊢;split at h
    ·exact h w hb w (Cl.refl w)
    ·split at h
     ·rename_i hw;rw[if_pos hw];obtain⟨v,h1,h2⟩:=h;exact⟨v,h1,h2 w hb w (Cl.refl w)⟩
     ·rename_i hw;rw[if_neg hw];exact h w hb w (Cl.refl w)
  obtain⟨k,rfl⟩:∃k,fuel=k+1:=⟨fuel-1,by omega⟩;have hne:∀t,t∈suf->t.1∉Region.ready .any ops listed:=fun t ht hr=>by
   cases pre with
   |cons x r=>
    by_cases hxq:x.1=q
    ·cases r with
     |nil=>
      cases fl with
      |nil=>exact hq ⟨by rw[<-hxq,<-I.qfl x (List.mem_cons_self ..) hxq],rfl⟩
      |cons j r=>exact XY (n:=12) I.cl ((I.sw t ht).2 j (List.mem_cons_self ..)) (mem_ready.1 (I.fu j (List.mem_cons_self ..)).2).1 hr
     |cons y r=>
      have hyq:y.1≠q:=fun e=>by
       have:=I.nd;simp only[List.map_cons,List.nodup_cons,wD,not_or] at this;exact this.1.1 (hxq.trans e.symm)
      exact XY (n:=12) I.cl ((I.sw t ht).1 y (pY _ (List.mem_cons_self ..)) hyq) (I.un y (pY _ (List.mem_cons_self ..))).1 hr
    ·exact XY (n:=12) I.cl ((I.sw t ht).1 x (List.mem_cons_self ..) hxq) (I.un x (List.mem_cons_self ..)).1 hr
   |nil=>
    cases fl with
    |nil=>simp at hn
    |cons j r=>exact XY (n:=12) I.cl ((I.sw t ht).2 j (List.mem_cons_self ..)) (mem_ready.1 (I.fu j (List.mem_cons_self ..)).2).1 hr
  refine⟨fun e=>?_,fun i hi=>?_⟩
  ·exfalso;cases pre with
   |cons x r=>
    have h1:=I.ok;obtain⟨i,f⟩:=x;simp only[ziV,pG] at h1;rw[e] at h1;simp at h1
   |nil=>
    cases fl with
    |nil=>simp at hn
    |cons j r=>
     have:=(I.fu j (List.mem_cons_self ..)).2;rw[e] at this;cases this
  ·obtain⟨hiu,oi,hoi,_⟩:=mem_ready.1 hi;rcases I.cov i (gtA hoi) hiu with⟨f,hm⟩|hm|⟨f,hm⟩
   ·obtain⟨l1,l2,rfl⟩:=List.append_of_mem hm;obtain⟨I',hx⟩:=I.pre hi;have hf2:=(I.un _ hm).2.1;have st:=QB hs l1 a hx h;have hl:(l1 ++ l2).length+fl.length=n:=by simp at hn ⊢;omega
    have ih:=fun b' a' w'=>ziT hIq hs hI hsl hZ hd n (l1 ++ l2) fl D _ k b' a' w' hl (by omega) I'
    simp only at hf2
    match f,st,hf2 with
    |0,st,_=>exact YH (fun a' h'=>ih b a' w hb hNb hD h') st
    |1,st,_=>exact Vp (RR:=RC) hb (fun a' w' hw' h'=>ih b a' w' hw' hNb hD h') st
    |2,st,_=>exact zgQ hb (fun a' w' ⟨b',h0,h1,h2⟩=>ih b' a' w' h1 (pN hNb h0.below.size) (fun x hx=>wI (hD x hx) h0.below.size) h2) st
   ·obtain⟨fl1,fl2,rfl⟩:=List.append_of_mem hm;have I':=I.float;obtain⟨oj,hoj,hdj,hw,hrun⟩:=(hZ i (I.fu i hm).1).ex;have hl:pre.length+(fl1 ++ fl2).length=n:=by simp at hn ⊢;omega
    have hgrow:Cl w (w.alloc (Z i)):=ux.2 (zf w (Z i));have hfn:=I.fn;rw[List.nodup_append] at hfn;have H:=zmO hs hoj hdj (s:=w.heap.size) (fun q hq=>hd q (I.fu q (pX.2 (.inl hq))).1 i (I.fu i hm).1 (hfn.2.2 q hq i (List.mem_cons_self ..))) (pN hNb hb.below.size) (fun e=>by
     have h1:=hD _ e;have h2:=hb.below.size;omega) pre b (w.alloc (Z i)) a (fun x hx=>by
     obtain⟨o1,o2,e1,e2,e3⟩:=I.ap x hx i (I.fu i hm).1;rw[hoj] at e2;cases e2;exact⟨(I.un x hx).2.1,o1,e1,e3⟩) h (Cl.trans hb hgrow) (Go.Proofs.YtnncmdpopgkibaaGreatDoor.zk w (Z i))
    have ih:=ziT hIq hs hI hsl hZ hd n pre (fl1 ++ fl2) (w.heap.size :: D) _ k (w.alloc (Z i)) (a.put oj.dst (.pointer (some ⟨w.heap.size,0,none⟩))) (w.alloc (Z i)) hl (by omega) I' (Cl.refl _) (by have:=hb.below.size;simp;omega) (fun x hx=>by
     rcases wD.1 hx with hx|hx
     ·rw[hx];simp
     ·have h1:=hD x hx;have h2:=hb.below.size;simp;omega) H
    refine YF (Xp:=NX) (fun a' w' h'=>h') ?_;unfold Xv;rw[hoj];simp only[hw,if_true];unfold Oper.wp;rw[hrun];exact ih
   ·exact absurd hi (hne _ hm)
def zgl(q:Nat)(ops:Array Oper)(pre:List (Nat×Nat))(fl:List Nat)(suf:List (Nat×Nat)):Bool:=
 let z:=Array.replicate ops.size false
 (pre.all fun x=> !(x.1 == q) || x.2 == 0) && (YK .any ops ((q,0) :: suf) (ziR ops ((q,0) :: suf)) && decide ((((q,0) :: suf).map Prod.fst).Nodup) && Xe ((q,0) :: suf)) && (Region.noSelect ops && ziV ops fl pre z && decide ((pre.map Prod.fst).Nodup) && (pre.all fun x=>decide (x.1<ops.size) && decide (x.2<=2) && !fl.contains x.1) && decide fl.Nodup && (fl.all fun j=>(Region.ready .any ops z).contains j) && ((List.range ops.size).all fun i=>(pre.any fun x=>x.1 == i) || fl.contains i || suf.any fun x=>x.1 == i) && (suf.all fun t=>decide (t.1<ops.size) && !fl.contains t.1 && (pre.all fun x=>decide (x.1≠t.1) && (x.1 == q || ZP .any ops 12 t.1 x.1)) && fl.all fun j=>ZP .any ops 12 t.1 j) && (pre.all fun x=>fl.all fun j=>(ops[x.1]?).any fun oi=>(ops[j]?).any fun oj=>oi.apart ops oj) && (YK .any ops suf (ziR ops suf) && decide ((suf.map Prod.fst).Nodup) && Xe suf && (suf.all fun x=>x.2 == 0 || decide (3<=x.2)) && decide (pre.length+fl.length+suf.length<=ops.size)))
theorem zmh{q:Nat}{pre suf:List (Nat×Nat)}{fl:List Nat}(h:zgl q ops pre fl suf=true):Region.noSelect ops=true/\zmj ops q fl suf pre fl (Array.replicate ops.size false)/\(YK .any ops suf (ziR ops suf)=true/\(suf.map Prod.fst).Nodup/\Xe suf=true)/\(∀y,y∈suf->y.2=0\/3<=y.2)/\pre.length+fl.length+suf.length<=ops.size/\(YK .any ops ((q,0) :: suf) (ziR ops ((q,0) :: suf))=true/\(((q,0) :: suf).map Prod.fst).Nodup/\Xe ((q,0) :: suf)=true):=by
 unfold zgl at h;simp only[pG,pH,pO,gC,wF,Bool.not_eq_true',pS,List.mem_range,List.contains_iff_mem,Option.any_eq_true] at h;obtain⟨⟨k1,⟨⟨k2,k3⟩,k4⟩⟩,⟨⟨⟨⟨⟨⟨⟨⟨h1,h2⟩,h3⟩,h4⟩,h5⟩,h6⟩,h7⟩,h8⟩,h9⟩,⟨⟨⟨h10,h11⟩,h12⟩,h13⟩,h14⟩:=h;have hz:∀i,i<ops.size->(Array.replicate ops.size false).getD i true=false:=fun i hi=>by simp[hi]
 have nc:∀x,fl.contains x=false->x∉fl:=fun x h e=>by
  rw[List.contains_iff_mem.2 e] at h;cases h
 refine⟨h1,⟨h2,h3,fun x hx=>⟨hz _ (h4 x hx).1.1,(h4 x hx).1.2,nc _ (h4 x hx).2⟩,h5,fun j hj=>⟨hj,h6 j hj⟩,fun i hi _=>?_,fun x hx=>⟨hz _ (h8 x hx).1.1.1,nc _ (h8 x hx).1.1.2,fun y hy=>((h8 x hx).1.2 y hy).1⟩,fun t ht=>⟨fun x hx hq=>((h8 t ht).1.2 x hx).2.elim (fun e=>absurd e hq) id,(h8 t ht).2⟩,fun x hx j hj=>?_,fun k o ho hk=>?_,by simp,fun x hx hq=>(k1 x hx).elim (fun e=>by rw[hq] at e;simp at e) id⟩,⟨h10,h11,h12⟩,h13,h14,k2,k3,k4⟩
 ·rcases h7 i hi with (⟨x,hx,e⟩|h)|⟨x,hx,e⟩
  ·exact .inl ⟨x.2,by rw[<-e];exact hx⟩
  ·exact .inr (.inl h)
  ·exact .inr (.inr ⟨x.2,by rw[<-e];exact hx⟩)
 ·obtain⟨oi,e1,oj,e2,e3⟩:=h9 x hx j hj;exact⟨oi,oj,e1,e2,e3⟩
 ·exfalso;rcases Nat.lt_or_ge k ops.size with h'|h'
  ·simp[h'] at hk
  ·simp[Array.getElem?_eq_none h'] at ho
theorem ki(q:Nat){id:Nat}{l:List Oper}{Q:Exit->Act->World->Prop}{a:Act}{w:World}(pre:List (Nat×Nat))(fl:List Nat)(suf:List (Nat×Nat))(Z:Nat->Obj)(dst:Nat->Option Tmp)(h:kh RC NX P l.toArray (QFl P l.toArray (Q .normal) suf Z dst w.heap.size fl []) pre w.drew a)(hZ:∀j∈fl,zla P l.toArray Z dst j)(hd:∀i∈fl,∀j∈fl,i≠j->∀d,dst i=some d->dst j≠some d)(hm:P.follows .mixedOrders=true:=by kernel_rfl)(hc:zgl q l.toArray pre fl suf=true:=by kernel_rfl):(Code.region id l.toArray true).wp P Q a w:=by
 obtain⟨h1,h2,h3,h4,h5,h5q⟩:=zmh hc;refine Code.wp_mono (fun e a w qqx=>?_) (wp_region_any (Q:=YP NX (Q .normal)) hm (ziT h5q h1 h3 h4 hZ hd _ pre fl [] _ _ w.drew a _ rfl (by omega) h2 (Cl.refl _) (pE _) (fun x hx=>by cases hx) h));cases e <;> first|exact qqx|exact qqx.2.elim|exact qqx.elim
end
end
end LodeX
namespace Go.Proofs.YtnncmdpopgkibaaGreatDoor
section
open Go.RowKit Lode Go.Shelf
attribute [local go_sem ↓] Go.wp_at_zero Go.wp_at_succ
open Go.Proofs.Tryz
theorem zmN(n:Nat)(hn:n<=1000000):∃cs:Array Value,cs.size=n*5/\∀W:World,(Instr.makeSlice 23 (.int .i64 (n:Int)) (.int .i64 (n:Int))).run prog W=.ok (.slice (some ⟨W.heap.size,0,none⟩) n n) (W.alloc (.cells cs 45 (0,0))):=by
 obtain⟨i0,hi,hz0,hz1,hz2⟩:=info_parts Tryz.infoNode;have h:=fun W=>run_make (P:=prog) W 23 45 i0 _ underlying23 hi hz0 .i64 .i64 n n (by omega) (Int.le_refl _) (by rw[hz2];omega) (by omega)
 simp only[wE,hz1] at h;exact⟨_,size_madeCells _ _,h⟩
theorem znf(f:Nat->Option Value):∀(l:List Nd) (kv:List Value) (d:Nat),(∀(j:Nat) (x:Nd) (u:Value),l[j]? =some x->kv[j]? =some u->∀(i:Nat) (y:Value),(jS x u)[i]? =some y->f (d+j*5+i)=some y)->∀(j:Nat) (v:Value),(jg l kv)[j]? =some v->f (d+j)=some v
 |[],_,_,_,j,v,h=>by simp[jg] at h
 |a :: l,[],_,_,j,v,h=>by simp[jg] at h
 |a :: l,b :: kv,d,hf,j,v,h=>by
  have h':(jS a b ++ jg l kv)[j]? =some v:=h;have h5:(jS a b).length=5:=rfl;by_cases hj:j<5
  ·rw[wQ (by omega)] at h';have:=hf 0 a b rfl rfl j v h'
   rwa [show d+0*5+j=d+j by omega] at this
  ·rw[wM (by omega),h5] at h';have:=znf f l kv (d+5) (fun k x u hx hu i y hy=>by
    have:=hf (k+1) x u hx hu i y hy
    rwa [show d+(k+1)*5+i=d+5+k*5+i by omega] at this) (j-5) v h'
   rwa [show d+5+(j-5)=d+j by omega] at this
theorem znd{w:World}{g:Nat}:∀(l:List Nd) (off:Nat),(∀(j:Nat) (x:Nd),l[j]? =some x->∃u,NdO w g (off+j*5) x u)->∃kv:List Value,kv.length=l.length/\∀(j:Nat) (x:Nd) (u:Value),l[j]? =some x->kv[j]? =some u->NdO w g (off+j*5) x u
 |[],_,_=>⟨[],rfl,fun j x u h=>by simp at h⟩
 |a :: l,off,h=>by
  obtain⟨u,hu⟩:=h 0 a rfl;obtain⟨kv,h1,h2⟩:=znd l (off+5) (fun j x hx=>by
   obtain⟨u,hu⟩:=h (j+1) x hx;exact⟨u,by rwa [show off+(j+1)*5=off+5+j*5 by omega] at hu⟩)
  refine⟨u :: kv,by simp[h1],fun j x u' hx hu'=>?_⟩;cases j with
  |zero=>
   cases hx;cases hu'
   rwa [Nat.zero_mul] at hu
  |succ j=>
   have:=h2 j x u' hx hu'
   rwa [show off+5+j*5=off+(j+1)*5 by omega] at this
theorem NSo.src{w:World}{v:Value}{l:List Nd}(h:NSo w v l):∃(p:Option Addr) (cap:Nat) (kv:List Value),v=.slice p l.length cap/\kv.length=l.length/\(∀(j:Nat) (x:Nd) (u:Value),l[j]? =some x->kv[j]? =some u->KSo w u x.kids)/\(l.length≠0->∃g off,p=some ⟨g,off,none⟩/\∀(j:Nat) (y:Value),(jg l kv)[j]? =some y->w.cell? ⟨g,off+j,none⟩=some y):=by
 obtain⟨p,cap,hv,h⟩:=h;rcases h with rfl|⟨g,off,hp,hc⟩
 ·exact⟨p,cap,[],hv,rfl,fun j x u h=>by simp at h,fun h=>absurd rfl h⟩
 ·obtain⟨kv,h1,h2⟩:=znd l off hc;refine⟨p,cap,kv,hv,h1,fun j x u hx hu=>(h2 j x u hx hu).kids,fun _=>⟨g,off,hp,fun j y hy=>?_⟩⟩;refine znf (fun k=>w.cell? ⟨g,k,none⟩) l kv off (fun j x u hx hu i y hy=>?_) j y hy;have N:=h2 j x u hx hu
  match i,hy with
  |0,hy=>cases hy;exact N.c0
  |1,hy=>cases hy;exact N.c1
  |2,hy=>cases hy;exact N.c2
  |3,hy=>cases hy;exact N.c3
  |4,hy=>cases hy;exact N.c4
  |i+5,hy=>simp[jS] at hy
theorem zcN:∀(l:List Nd) (kv:List Value),kv.length=l.length->(jg l kv).length=l.length*5
 |[],_,_=>by simp[jg]
 |a :: l,[],h=>by simp at h
 |a :: l,b :: kv,h=>by
  show (jS a b ++ jg l kv).length=_
  rw[pC,zcN l kv (by simpa using h),pK];show 5+_=_
  omega
theorem zmA{l:List Nd}{kv:List Value}(hk:∀v∈kv,v.oneCell'=true):∀v∈jg l kv,v.oneCell'=true:=fun v hv=>by
 unfold jg at hv;rw[List.mem_flatMap] at hv;obtain⟨⟨x,u⟩,hx,hv⟩:=hv;have:=List.of_mem_zip hx;simp only[jS,wD,wH,or_false] at hv;rcases hv with rfl|rfl|rfl|rfl|rfl <;> first|rfl|exact hk _ this.2
theorem zkj:∀(l:List Nd) (kv:List Value) (j:Nat) (v:Value),kv.length=l.length->jg l (kv.set j v)=(jg l kv).set (j*5+3) v
 |[],_,_,_,_=>by simp[jg]
 |a :: l,[],_,_,h=>by simp at h
 |a :: l,b :: kv,0,v,h=>rfl
 |a :: l,b :: kv,j+1,v,h=>by
  show jS a b ++ jg l (kv.set j v)=(jS a b ++ jg l kv).set _ v
  have h5:(jS a b).length=5:=rfl;rw[zkj l kv j v (by simpa using h),List.set_append_right _ _ (by omega),h5,show (j+1)*5+3-5=j*5+3 by omega]
theorem zmZ(w:World)(ty:TypeId){g cap n:Nat}{cur:Array Value}{sp:Option Addr}{sc:Nat}{cs:List Value}(hg:w.heap[g]? =some (.cells cur 45 (0,0)))(hcur:cur.size=n*5)(hcs:cs.length=n*5)(h1:∀v∈cs,v.oneCell'=true)(hsrc:n≠0->∃b o,sp=some ⟨b,o,none⟩/\∀(j:Nat) (v:Value),cs[j]? =some v->w.cell? ⟨b,o+j,none⟩=some v):
 (Builtin.copy_ #[23,23] ty #[.slice (some ⟨g,0,none⟩) n cap,.slice sp n sc]).run prog w=.ok (goInt n) (w.setRow g cs.toArray):=by
 obtain⟨i0,hi,hz0,hz1,hz2⟩:=info_parts Tryz.infoNode;by_cases h0:n=0
 ·subst h0;obtain rfl:cs=[]:=pM (by omega);obtain rfl:cur= #[]:=Array.eq_empty_of_size_eq_zero (by omega);rw[show ([]:List Value).toArray= #[] from rfl,setRow_self w g #[] _ _ hg];cases sp with
  |none=>simp[Builtin.copy_,run_underlying underlying23,Builtin.lenOf,Builtin.firstCells,sizeOf,typeInfo,hi,storeCells]
  |some ad=>
   have hl:=run_loadCells_list (P:=prog) w ad [] (fun j v h=>by cases h);simp only[pR] at hl;simp[Builtin.copy_,run_underlying underlying23,Builtin.lenOf,Builtin.firstCells,sizeOf,typeInfo,hi,storeCells,hl]
 ·obtain⟨b,o,rfl,hs⟩:=hsrc h0;have hl:=run_loadCells_list (P:=prog) w ⟨b,o,none⟩ cs (fun j v hj=>by
   have e:(⟨b,o,none⟩:Addr).add j=⟨b,o+j,none⟩:=by unfold Addr.add;split <;> simp_all
   rw[e];exact hs j v hj)
  have hst:=run_storeCells_at prog g 0 45 cs 0 cur w hg (by omega) h1;have e:cur.toList.take (0+0) ++ cs ++ cur.toList.drop (0+0+cs.length)=cs:=by
   rw[List.drop_eq_nil_of_le (by simp;omega)];simp
  rw[e] at hst;simp[Builtin.copy_,run_underlying underlying23,Builtin.lenOf,Builtin.firstCells,sizeOf,typeInfo,hi,hz1,<-hcs,hl,hst]
structure zjS(w:World)(B:Nat)(v:Value)(ls:List Nd)(kv:List Value):Prop where
 n:w.ownsRow B 45 5 v ls.length (jg ls kv)
 l:kv.length=ls.length
 k:∀(j:Nat) (x:Nd) (u:Value),ls[j]? =some x->kv[j]? =some u->KS w u x.kids
theorem zhY(d:Int):∀(l:List Nd) (kv:List Value),jg (zbP l d) kv=jg l kv
 |[],_=>rfl
 |a :: l,[]=>rfl
 |a :: l,b :: kv=>by
  show jS _ b ++ jg (zbP l d) kv=jS a b ++ jg l kv
  rw[zhY d l kv];rfl
theorem KS.but{w W:World}{v:Value}{l:List Int}(h:KS w v l){b:Nat}{cs:Array Value}{fr:Nat×Nat}(hb:w.heap[b]? =some (.cells cs 45 fr))(hk:∀k,k<w.heap.size->k≠b->W.heap[k]? =w.heap[k]?):KS W v l:=by
 obtain⟨p,cap,hv,h⟩:=h;refine⟨p,cap,hv,h.imp id ?_⟩;rintro ⟨g,off,cs',fr',hp,hg,hc⟩;refine⟨g,off,cs',fr',hp,(hk g (gtA hg) (fun e=>?_)).trans hg,hc⟩;subst e;rw[hb] at hg;cases hg
def zgS(ks:List Int)(d:Int)(k:Nat):List Value:=yZ ((ks.take k).map (· +d)) ++ List.replicate (ks.length-k) (.int .i64 0)
theorem zm1{ks:List Int}{d:Int}{k:Nat}(hk:k<ks.length):(zgS ks d k)[k]? =some (.int .i64 0):=by
 unfold zgS;rw[wM (by simp;omega)];simp only[yZ,wV,wU];rw[List.getElem?_replicate,if_pos (by omega)]
theorem zm0{ks:List Int}{d:Int}{k:Nat}(hk:k<ks.length):(zgS ks d k).set k (.int .i64 (ks.getD k 0+d))=zgS ks d (k+1):=by
 unfold zgS;have e:ks.length-k=ks.length-(k+1)+1:=by omega
 have h1:(yZ ((ks.take k).map (· +d))).length=k:=by simp;omega
 rw[List.set_append_right _ _ (by omega),h1,Nat.sub_self,e,List.replicate_succ,List.set_cons_zero,show ks.take (k+1)=ks.take k ++ [ks[k]] from by rw[wZ,glE hk];rfl,pA,glE hk];simp only[yZ,List.map_append,wS,List.map_cons,List.map_nil,pT,wJ,Option.getD_some]
theorem zmM(ks:List Int)(d:Int):zgS ks d 0=List.replicate ks.length (.int .i64 0):=by simp[zgS]
theorem zng{w:World}{g:Nat}{ks:List Int}{d:Int}{fr:Nat×Nat}(hg:w.heap[g]? =some (.cells (zgS ks d ks.length).toArray 3 fr)):KS w (.slice (some ⟨g,0,none⟩) ks.length ks.length) (ks.map (· +d)):=by
 refine⟨some ⟨g,0,none⟩,0,by simp,.inr ⟨g,0,_,fr,rfl,hg,fun j z hz=>?_⟩⟩;unfold zgS;rw[List.take_length,pV,Nat.zero_add,wQ (by simpa using (gtL hz)),yZ,pZ,hz];rfl
def MvN(B n:Nat)(l:List Nd)(kv0:List Value)(d:Int)(w:World)(i:Value)(wr:World):Prop:=∃(j:Nat) (kv:List Value),i=.int .i64 j/\j<=n/\kv.length=n/\wr.heap[B]? =some (.cells (jg l kv).toArray 45 (0,0))/\Hid (∀(q:Nat) (x:Nd) (u:Value),q<j->l[q]? =some x->kv[q]? =some u->KS wr u (x.kids.map (· +d)))/\Hid (∀q,j<=q->kv[q]? =kv0[q]?)/\Below B w wr
theorem zkh(l:List Nd)(v:Value)(d:Int)(w:World)(hN:NSo w v l)(hd:∀x∈l,∀k∈x.kids,I64 (k+d))(hn:l.length<=100000)(hk:∀x∈l,x.kids.length<=100000):
 Calls prog 54 #[v,.int .i64 d] w fun e w'=>∃g:Nat,e=.returned (.slice (some ⟨g,0,none⟩) l.length l.length)/\(∃kv,zjS w' w.heap.size (.slice (some ⟨g,0,none⟩) l.length l.length) (zbP l d) kv)/\Below w.heap.size w w':=by
 obtain⟨p,cap,kv0,rfl,hkl0,hks0,hsrc⟩:=hN.src;obtain⟨n,hln⟩:=exE (l.length);rw[hln] at hn hsrc hkl0 ⊢;obtain⟨cs0,hcs0,hmk⟩:=zmN n (by omega);have hB0:=zk w (.cells cs0 45 (0,0));have hA0:=zf w (.cells cs0 45 (0,0));have hlc:(jg l kv0).length=n*5:=by rw[zcN l kv0 (by rw[hln];exact hkl0),hln]
 have hone:∀v∈jg l kv0,v.oneCell'=true:=zmA fun v hv=>by
  obtain⟨j,hj,rfl⟩:=List.getElem_of_mem hv;obtain⟨p,c,e⟩:=(hks0 j _ _ (glE (by rw[hln,<-hkl0];exact hj)) (glE hj)).form;rw[e];rfl
 have hsr:n≠0->∃b o,p=some ⟨b,o,none⟩/\∀(j:Nat) (v:Value),(jg l kv0)[j]? =some v->(w.alloc (.cells cs0 45 (0,0))).cell? ⟨b,o+j,none⟩=some v:=fun h=>by
  obtain⟨g,off,hp,hc⟩:=hsrc h;exact⟨g,off,hp,fun j v hv=>zj hA0 (hc j v hv)⟩
 have hcp:=zmZ _ 3 (cap:=n) (sc:=cap) hB0 hcs0 hlc hone hsr;have hB1:=setRow_heap _ w.heap.size _ (jg l kv0).toArray _ _ hB0;have hb1:=below_setRow hA0 (pE _) (jg l kv0).toArray;obtain⟨w1,hw1⟩:=exE ((w.alloc (.cells cs0 45 (0,0))).setRow w.heap.size (jg l kv0).toArray);rw[hw1] at hcp hB1 hb1;have hst:MvN w.heap.size n l kv0 d w (.int .i64 0) w1:=⟨0,kv0,rfl,pU _,hkl0,hB1,zi (fun q x u h=>absurd h (wG _)),zi (fun _ _=>rfl),hb1⟩;have Hst:=zi hst;have Hks:=zi hks0;have Hln:=zi hln;have Hd:=zi hd;have HK:=zi hk;have Hkl:=zi hkl0;have hmi:=zi (fun (m:Nat) (hm:m<=100000) (W:World)=>zgr m (by omega) W);clear hN hsrc hcs0 hB0 hA0 hlc hone hsr hks0 hln hd hk hkl0 hB1 hb1 hst hw1;go_enter func54,ntmps54;go_wp2;go_loopw [18] (MvN w.heap.size n l kv0 d w) (fun i _=>n-(intOf i).toNat)
 case atStart=>exact Hst.out
 case round=>
  obtain⟨j,kv,rfl,hj,hkv,hB,hdone,hrest,hbw⟩:=hrel;by_cases hlt:j<n
  ·have hlt':(j:Int)<(n:Int):=by omega
   have hj0:¬((j:Int)<0):=by omega
   have hy:=pJ ((j:Int)+1) (by omega);obtain⟨x,hx⟩:∃x,l[j]? =some x:=⟨_,glE (by rw[Hln.out];exact hlt)⟩;obtain⟨u,hu⟩:∃u,kv[j]? =some u:=⟨_,glE (by rw[hkv];exact hlt)⟩;have hu0:=(hrest.out j (pE _)).symm.trans hu;have hU:=Hks.out j x u hx hu0;have hxm:x∈l:=wK hx;have hxl:=HK.out x hxm;have hxd:=Hd.out x hxm;obtain⟨up,uc,rfl⟩:=hU.form;have c3:wr.cell? ⟨w.heap.size,j*5+3,none⟩=some (.slice up x.kids.length uc):=(zd hB _).trans (by rw[pV];exact QQ l kv j x _ hx hu 3 _ rfl);obtain⟨ks,hks⟩:=exE (x.kids);rw[hks] at c3 hU hxl hxd;obtain⟨m,hm⟩:=exE (ks.length);rw[hm] at c3 hU hxl;have hmk2:=hmi.out m hxl;have hltB:w.heap.size<wr.heap.size:=(gtA hB);have hA:=zf wr (.cells (Array.replicate m (Value.int .i64 0)) 3 (0,0));have hG:=zk wr (.cells (Array.replicate m (Value.int .i64 0)) 3 (0,0));have e3:=zj hA c3;have hB2:=zh hA hB;have f3:=zl hB2 (j*5+3);obtain⟨W1,hW1⟩:=exE (wr.setCell ⟨w.heap.size,j*5+3,none⟩ (.slice (some ⟨wr.heap.size,0,none⟩) m m));have hs1:W1.heap.size=wr.heap.size:=by rw[<-hW1];simp
   have hA1:=zf W1 (.cells (Array.replicate m (Value.int .i64 0)) 3 (0,0));have hG1:=zk W1 (.cells (Array.replicate m (Value.int .i64 0)) 3 (0,0));rw[hs1] at hG1;obtain⟨W2,hW2⟩:=exE (W1.alloc (.cells (Array.replicate m (Value.int .i64 0)) 3 (0,0)));rw[hW2] at hA1 hG1;have hB3:W2.heap[w.heap.size]? =some (.cells (jg l (kv.set j (.slice (some ⟨wr.heap.size,0,none⟩) m m))).toArray 45 (0,0)):=zh hA1 (by
    rw[<-hW1,zr hB,zkj l kv j _ (by rw[Hln.out];exact hkv),List.setIfInBounds_toArray])
   have hG3:W2.heap[wr.heap.size]? =some (.cells (zgS ks d 0).toArray 3 (0,0)):=by
    rw[zmM,hm];simpa using hG1
   have hkeep:∀k,k<wr.heap.size->k≠w.heap.size->W2.heap[k]? =wr.heap[k]? :=fun k hk hne=>by
    rw[hA1.block k (by omega),<-hW1,zt hne]
   have hbW2:Below w.heap.size w W2:=(hW1▸hbw.setCell (pE _) _:Below w.heap.size w W1).trans (hA1.mono (by omega));have hsz2:W2.heap.size=wr.heap.size+1:=by rw[<-hW2];simp[hs1]
   rw[<-hW1] at hW2;have HW2:=zi hW2;have HB3:=zi hB3;have HG3:=zi hG3;have Hkeep:=zi hkeep;have HbW2:=zi hbW2;have HX:=zi (And.intro hx (And.intro hks hkv));have HB:=zi hB;have Hm:=zi hm;have HU:=zi hU;have Hxd:=zi hxd;have Hsz2:=zi hsz2;clear hx hu hu0 hU hxm hks hB hA hG hB2 hW2 hW1 hA1 hG1 hs1 hB3 hG3 hkeep hbW2 hm hxd hkv hsz2;go_wp2_with fail;rw[HW2.out];generalize hGe:wr.heap.size=G at *;go_loopw [35] (fun i wr=>∃k:Nat,i=.int .i64 k/\k<=m/\wr.heap[G]? =some (.cells (zgS ks d k).toArray 3 (0,0))/\Below G W2 wr) (fun i _=>m-(intOf i).toNat)
   case atStart=>exact⟨0,rfl,pU _,HG3.out,pF _ _⟩
   case round=>
    obtain⟨k,rfl,hk,hGq,hbq⟩:=hrel;have hBq:=(hbq.block w.heap.size hltB).trans HB3.out;by_cases hkm:k<m
    ·have hkm':(k:Int)<(m:Int):=by omega
     have hk0:¬((k:Int)<0):=by omega
     have hyk:=pJ ((k:Int)+1) (by omega);have hkl:k<ks.length:=by rw[Hm.out];exact hkm
     obtain⟨g2,o2,rfl,d0⟩:=(HU.out.below (HbW2.out.trans (hbq.mono (by omega)))).at hkl;have hz:=Hxd.out (ks.getD k 0) (by rw[pA,glE hkl];exact wC hkl);have hset:=zm0 (d:=d) hkl;generalize ks.getD k 0=z at *;have hwz:IntKind.i64.wrap (z+d)=z+d:=pJ _ ⟨hz.1,hz.2⟩;have b3:=(zd hBq (j*5+3)).trans (show _=some (Value.slice (some ⟨G,0,none⟩) m m) by
      rw[pV];exact QQ l _ j x _ HX.out.1 (by rw[List.getElem?_set,if_pos rfl,if_pos (by rw[HX.out.2.2];exact hlt)]) 3 _ rfl)
     have g0:=(zd hGq k).trans (show _=some (Value.int .i64 0) by rw[pV];exact zm1 hkl);have fg:=zl hGq k;have hnew:=zr hGq k (.int .i64 (z+d));rw[List.setIfInBounds_toArray,hset] at hnew;have hbn:Below G W2 (wr.setCell ⟨G,k,none⟩ (.int .i64 (z+d))):=hbq.setCell (pE _) _;have Hnew:=zi hnew;have Hbn:=zi hbn;clear hGq hBq hset hnew hbn hbq;go_wp2;go_roundw
     case rel=>exact⟨k+1,by go_num,by omega,Hnew.out,Hbn.out⟩
     case measure=>simp[intOf];omega
    ·have hkm':¬((k:Int)<(m:Int)):=by omega
     have hkm2:k=m:=by omega
     have hKS:KS wr (.slice (some ⟨G,0,none⟩) m m) (ks.map (· +d)):=by
      have:=zng (w:=wr) (g:=G) (ks:=ks) (d:=d) (fr:=(0,0)) (by rw[Hm.out];exact hkm2▸hGq)
      rwa [Hm.out] at this
     have hdone2:=zi (fun (q:Nat) (y:Nd) (v:Value) (hq:q<j+1) (hy:l[q]? =some y) (hv:(kv.set j (.slice (some ⟨G,0,none⟩) m m))[q]? =some v)=>show KS wr v (y.kids.map (· +d)) from by
      by_cases e:q=j
      ·rw[e] at hy hv;rw[HX.out.1] at hy;cases hy;rw[List.getElem?_set,if_pos rfl,if_pos (by rw[HX.out.2.2];exact hlt)] at hv;cases hv;rw[HX.out.2.1];exact hKS
      ·rw[List.getElem?_set,if_neg (fun h=>e h.symm)] at hv;exact (hdone.out q y v (by omega) hy hv).but HB.out (fun k hk hne=>(hbq.block k (by omega)).trans (Hkeep.out k (by omega) hne)))
     have hrest2:=zi (fun (q:Nat) (hq:j+1<=q)=>show (kv.set j (.slice (some ⟨G,0,none⟩) m m))[q]? =kv0[q]? from by
      rw[List.getElem?_set,if_neg (by omega)];exact hrest.out q (by omega))
     have hlen2:(kv.set j (.slice (some ⟨G,0,none⟩) m m)).length=n:=by rw[List.length_set];exact HX.out.2.2
     have hbf:=HbW2.out.trans (hbq.mono (by omega));have HF:=zi (And.intro hlen2 (And.intro hBq hbf));clear hKS hlen2 hBq hbf hGq;go_wp2;go_roundw
     case rel=>exact⟨j+1,_,by go_num,by omega,HF.out.1,HF.out.2.1,hdone2,hrest2,HF.out.2.2⟩
     case measure=>simp[intOf];omega
  ·have hlt':¬((j:Int)<(n:Int)):=by omega
   have hjn:j=n:=by omega
   have hln2:(zbP l d).length=n:=by unfold zbP;rw[wV];exact Hln.out
   have hO:zjS wr w.heap.size (.slice (some ⟨w.heap.size,0,none⟩) n n) (zbP l d) kv:=by
    refine⟨?_,by rw[hln2];exact hkv,fun q y v hy hv=>?_⟩
    ·rw[zhY,hln2];have hl5:(jg l kv).length=n*5:=by rw[zcN l kv (by rw[Hln.out];exact hkv),Hln.out]
     exact⟨hl5,.inr ⟨w.heap.size,n,_,rfl,pE _,hB,pE _,by unfold maxLen;omega,by simp[hl5],by simp[<-hl5]⟩⟩
    ·unfold zbP at hy;rw[pZ] at hy;cases hx:l[q]? with
     |none=>rw[hx] at hy;cases hy
     |some x=>
      rw[hx] at hy;cases hy;exact hdone.out q x v (by have:=(gtL hx);rw[Hln.out] at this;omega) hx hv
   have HO:=zi hO;clear hO hB hdone hrest hkv hln2;go_wp2;go_ret;exact⟨_,rfl,⟨_,HO.out⟩,hbw⟩
end
end Go.Proofs.YtnncmdpopgkibaaGreatDoor
namespace Lode
theorem ziS{t:yo}(h:Qv t=0):t.nodes.length<=1000/\t.items.length<=40/\(∀x∈t.nodes,∀k∈x.kids,0<=k/\k<=1000)/\∀k∈t.items,0<=k/\k<=1000:=by
 have hF:=KV h;have hf:YM t=true:=by
  unfold Qv at h;split at h
  ·cases h
  ·split at h
   ·cases h
   ·rename_i hf;simpa using hf
 have hn:¬(1000<t.nodes.length\/40<t.items.length):=by
  unfold Qv at h;split at h
  ·cases h
  ·assumption
 obtain⟨_,hI,_⟩:=Zj hf;refine⟨by omega,by omega,fun x hx k hk=>?_,fun k hk=>?_⟩
 ·obtain⟨i,hi,rfl⟩:=List.getElem_of_mem hx;have:=jY hF hi k hk;omega
 ·have:=zbp _ _ _ _ hI k (wY.2 hk);omega
end Lode
namespace Go.Proofs.YtnncmdpopgkibaaGreatDoor
section
open Go.RowKit Lode Go.Shelf
open Go.Proofs.Tryz
theorem zmT{k d:Int}(h:0<=k/\k<=1000)(hd:0<=d/\d<=1000):I64 (k+d):=by unfold I64;omega
def znt(w:World)(r:yo×Nat)(e:Ending)(w':World):Prop:=Below w.heap.size w w'/\∃nv iv,e=.returned (.tuple #[.agg #[nv,iv],.int .i64 (r.2:Nat)])/\TR w' nv iv r.1
theorem KS.blk{w:World}{v:Value}{l:List Int}(h:KS w v l){g:Nat}(hg:qV v=some g):g<w.heap.size:=by
 obtain⟨p,cap,hp,h0|⟨g',off,cs,fr,rfl,hh,_⟩⟩:=h
 ·rw[hp,h0,pR] at hg;cases p <;> cases hg
 ·rw[hp] at hg;have h2:=(gtA hh);generalize l.length=n at hg;cases n with
  |zero=>cases hg
  |succ n=>
   rw[Nat.succ_add] at hg;simp only[qV,pQ] at hg;omega
theorem zeA.addItem{w w':World}{B:Nat}{nv v' iv:Value}{t:yo}{kv:List Value}{z:Int}(h:zeA w B nv iv t kv)(hrow:w'.ownsRow B 3 1 v' (t.items.length+1) (yZ t.items ++ [.int .i64 z]))(hg:w.grownBy w' iv.ownBlock)(hv:v'.ownBlock=iv.ownBlock\/∀g,v'.ownBlock=some g->w.heap.size<=g):zeA w' B nv v' ⟨t.nodes,t.items ++ [z]⟩ kv:=by
 have hne:∀(k:Nat) (cs:Array Value) (T:TypeId) (fr:Nat×Nat),w.heap[k]? =some (.cells cs T fr)->iv.ownBlock≠some k->w'.heap[k]? =some (.cells cs T fr):=fun k cs T fr hk hne=>(hg.block k (gtA hk) (fun e=>hne e.symm)).trans hk
 refine⟨⟨h.n.1,h.n.2.imp id ?_⟩,h.l,fun j x u hx hu=>(h.k j x u hx hu).keep fun g cs fr hg' hh=>hne g cs _ fr hh (h.d u (wK hu) g hg'),by rw[pC];simpa[yZ] using hrow,fun u hu g hg'=>?_⟩
 ·rintro ⟨g,cap,cur,e1,e2,e3,e4⟩;exact⟨g,cap,cur,e1,e2,hne g cur _ _ e3 (za9 h.i e3 (by decide)),e4⟩
 ·rcases hv with hv|hv
  ·rw[hv];exact h.d u hu g hg'
  ·intro e;have h1:=hv g e;obtain⟨j,hj,rfl⟩:=List.getElem_of_mem hu;have h2:=(h.k j _ _ (glE (by rw[<-h.l];exact hj)) (glE hj)).blk hg';omega
def znv(B ob:Nat)(T:Nat->yo)(m:Nat)(w:World)(i:Value)(wr:World):Prop:=∃(j:Nat) (nv iv:Value) (kv:List Value),i=.int .i64 j/\j<=m/\wr.heap[ob]? =some (.cells #[nv,iv] 26 (0,0))/\zeA wr B nv iv (T j) kv/\Below B w wr
end
end Go.Proofs.YtnncmdpopgkibaaGreatDoor
