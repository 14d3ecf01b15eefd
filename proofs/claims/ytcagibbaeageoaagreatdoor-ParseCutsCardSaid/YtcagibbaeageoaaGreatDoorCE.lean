/-
  A part of the proof: contracts of functions; no conditions.
-/
import Derived.Test.YtcagibbaeageoaaGreatDoorCD
set_option maxRecDepth 100000
set_option maxHeartbeats 40000000
set_option linter.unusedSimpArgs false
set_option linter.unusedVariables false
namespace Lode
theorem qf{l:List Nd}(h:xw l l.length){i:Nat}(hi:i<l.length):∀k∈(l[i]'hi).kids,0<=k/\k<i:=by
 obtain⟨p,hp,_,_⟩:=qn h hi;rw[glE hi] at hp;intro k hk;have:=Jk _ _ _ hp k (gD.2 hk);omega
theorem Kw{l:List Nd}{f:Nat}:∀(ks:List Int) (c:Int),(∀k∈ks,QD l f k=((qi l l.length).getD k.toNat 0:Nat))->ks.foldl (fun n k=>n+QD l f k) c=c+(ks.map fun k=>(((qi l l.length).getD k.toNat 0:Nat):Int)).sum
 |[],c,_=>by simp
 |k :: r,c,h=>by
  rw[List.foldl_cons,Kw r _ (fun j hj=>h j (wJ _ hj)),h k (List.mem_cons_self ..),List.map_cons,List.sum_cons,Int.add_assoc]
theorem zaG{out:List Nat}:∀(rk:List Int) (p e:Int),Xc out rk p=some e->(rk.map fun k=>((out.getD k.toNat 0:Nat):Int)).sum=p-e
 |[],p,e,h=>by cases h;simp
 |k :: r,p,e,h=>by
  unfold Xc at h;split at h
  ·cases h
  ·rename_i hc;have hk:k=p:=by omega
   have:=zaG r _ e h;rw[List.map_cons,List.sum_cons,this,hk];omega
theorem Jl{l:List Nd}(h:xw l l.length):∀(i f:Nat),i<l.length->i<f->QD l f i=((qi l l.length).getD i 0:Nat)
 |i,0,_,hf=>absurd hf (pY _)
 |i,f+1,hi,hf=>by
  obtain⟨p,hp,hsz,hpi⟩:=qn h hi;have hkid:=qf h hi;have hx:l[i]? =some l[i]:=glE hi;rw[hx] at hp;simp only[Option.elim] at hp;unfold QD;rw[pO,hx];simp only[Option.elim];rw[Kw _ _ (fun k hk=>?_)]
  ·have hs:=zaG _ _ _ hp;rw[List.map_reverse,List.sum_reverse] at hs;rw[hs,hsz];omega
  ·obtain⟨h0,h1⟩:=hkid k hk;obtain⟨k',rfl⟩:=pJ h0;rw[pO];exact Jl h k' f (by omega) (by omega)
termination_by i=>i
theorem YS{t:zU}(h:xh t=0):xw t.nodes t.nodes.length:=by
 unfold xh at h;split at h
 ·cases h
 ·split at h
  ·cases h
  ·rename_i hf;exact (jE (by simpa using hf)).1
section
variable (l:List Nd) (pr:Int→List UInt8)
def qw(x:Nd)(i:Nat):Bool:=
 if !zW (zt l (zu x i)) then false
 else if x.kind == 23 || (x.kind == 24 && i == 0) then decide (zr (zt l (zu x i))<8) || (x.kind == 24 && zt l (zu x i) == 25 && ((l[(zu x i).toNat]?).elim [] Nd.kids).isEmpty)
 else if x.kind == 24 then false
 else if x.kind == 7 then decide (zr (zt l (zu x i))<3)
 else if zr x.kind == 7 then decide (zr (zt l (zu x i))<7)
 else if zr x.kind == 4 then decide (zr (zt l (zu x i))<5)
 else if zr x.kind == 1 || zr x.kind == 2 || zr x.kind == 5 || zr x.kind == 6 then decide (zr (zt l (zu x i))<zr x.kind+i)
 else false
def yE(x:Nd)(i:Nat):List UInt8:=if qw l x i then [40] ++ pr (zu x i) ++ [41] else pr (zu x i)
def jo(x:Nd)(a b:Nat):List UInt8:=qc ((List.range' a (b-a)).map (yE l pr x))
def xV(k:Nat):List UInt8:=match yf k with
 |some s=>s
 |none=>(zJ.find? fun w=>w.2.1 == k).elim [] (·.1)
def stR(last:Bool):Bool->List (List UInt8)->List UInt8
 |_,[]=>[]
 |first,s :: r=>(if first then [] else [32]) ++ s ++ (if r.isEmpty && last then [] else [59]) ++ stR last false r
def Za(x:Nd):List UInt8:=if x.kids.length=0 then x.text else x.text ++ [40] ++ jo l pr x 0 x.kids.length ++ [41]
def Zu(x:Nd):List UInt8:=
 if x.kind == 100 then [99,108,97,115,115,32] ++ x.text ++ [32,123,32] ++ jo l pr x 0 x.kids.length ++ [32,125]
 else if x.kind == 101 then [107,105,110,100,32] ++ x.text ++ [32,123,32] ++ jo l pr x 0 x.kids.length ++ [32,125]
 else if x.kind == 103 then [101,120,116,101,114,110,32,102,117,110,32] ++ x.text ++ [40] ++ jo l pr x 0 (x.kids.length-1) ++ [41,58,32] ++ yE l pr x (x.kids.length-1) ++ [59]
 else if x.kind == 104 then [114,111,111,116,32] ++ x.text ++ [58,32] ++ yE l pr x 0 ++ [32,61,32] ++ yE l pr x 1 ++ [59]
 else (if x.n == 1 then [112,117,114,101,32] else []) ++ ([102,117,110,32] ++ x.text ++ [40] ++ jo l pr x 0 (x.kids.length-2) ++ [41,58,32] ++ yE l pr x (x.kids.length-2) ++ [32] ++ yE l pr x (x.kids.length-1))
def vD(x:Nd):List UInt8:=
 if x.kind == 80 then [105,110,116] else if x.kind == 81 then [98,111,111,108] else if x.kind == 82 then [116,101,120,116] else if x.kind == 83 then [117,110,105,116]
 else if x.kind == 84 then x.text
 else if x.kind == 86 then [99,104,97,110,32] ++ yE l pr x 0
 else if x.kind == 87 then [119,101,97,107,32] ++ yE l pr x 0
 else [102,110,40] ++ jo l pr x 0 (x.kids.length-1) ++ [41,58,32] ++ yE l pr x (x.kids.length-1)
def Jh(x:Nd):List UInt8:=
 if x.kind == 66 then x.text
 else if x.kind == 67 then Go.Lib.itoa x.n
 else if x.kind == 68 then (xr x.text).1
 else if x.kind == 69 then (if x.n == 1 then [116,114,117,101] else [102,97,108,115,101])
 else Za l pr x
def vS(x:Nd):List UInt8:=
 if x.kind == 28 then (if x.kids.length=0 then [123,125] else [123,32] ++ stR (x.n != 0) true ((List.range x.kids.length).map (yE l pr x)) ++ [32,125])
 else if x.kind == 29 then [105,102,32] ++ yE l pr x 0 ++ [32] ++ yE l pr x 1 ++ (if x.kids.length == 3 then [32,101,108,115,101,32] ++ yE l pr x 2 else [])
 else if x.kind == 30 then [119,104,105,108,101,32] ++ yE l pr x 0 ++ [32] ++ yE l pr x 1
 else if x.kind == 31 then [109,97,116,99,104,32] ++ yE l pr x 0 ++ [32,123,32] ++ jo l pr x 1 x.kids.length ++ [32,125]
 else if x.kind == 33 then [102,110,40] ++ jo l pr x 0 (x.kids.length-2) ++ [41,58,32] ++ yE l pr x (x.kids.length-2) ++ [32] ++ yE l pr x (x.kids.length-1)
 else if x.kind == 34 then [116,114,121,32] ++ yE l pr x 0 ++ [32,99,97,116,99,104,32] ++ x.text ++ [32] ++ yE l pr x 1
 else if x.kind == 36 then [104,111,108,100,32] ++ yE l pr x 0 ++ [32,97,115,32] ++ x.text ++ [32] ++ yE l pr x 1 ++ [32,101,108,115,101,32] ++ yE l pr x 2
 else if x.kind == 35 then [115,101,108,101,99,116,32,123,32] ++ jo l pr x 0 x.kids.length ++ [32,125]
 else if x.kind == 63 then [114,101,99,118,32] ++ yE l pr x 0 ++ [32,97,115,32] ++ x.text ++ [32,61,62,32] ++ yE l pr x 1
 else if x.kind == 64 then [115,101,110,100,32] ++ yE l pr x 0 ++ [44,32] ++ yE l pr x 1 ++ [32,61,62,32] ++ yE l pr x 2
 else if x.kind == 65 then [101,108,115,101,32,61,62,32] ++ yE l pr x 0
 else Za l pr x
def yV(x:Nd):List UInt8:=
 if decide (100<=x.kind) && decide (x.kind<=104) then Zu l pr x
 else if decide (80<=x.kind) && decide (x.kind<=87) then vD l pr x
 else if decide (66<=x.kind) && decide (x.kind<=70) then Jh l pr x
 else if x.kind == 1 then Go.Lib.itoa x.n
 else if x.kind == 2 then (xr x.text).1
 else if x.kind == 3 then (if x.n == 1 then [116,114,117,101] else [102,97,108,115,101])
 else if x.kind == 4 then [40,41]
 else if x.kind == 5 then x.text
 else if x.kind == 6 then [45] ++ ((if (yE l pr x 0).head? == some 45 then [32] else []) ++ yE l pr x 0)
 else if x.kind == 7 then [110,111,116,32] ++ yE l pr x 0
 else if x.kind == 23 then yE l pr x 0 ++ [46] ++ x.text
 else if x.kind == 24 then yE l pr x 0 ++ [40] ++ jo l pr x 1 x.kids.length ++ [41]
 else if x.kind == 25 then Za l pr x
 else if x.kind == 26 then [110,101,119,32] ++ x.text ++ [32,123,32] ++ jo l pr x 0 x.kids.length ++ [32,125]
 else if x.kind == 27 || x.kind == 88 then x.text ++ [58,32] ++ yE l pr x 0
 else if x.kind == 32 then yE l pr x 0 ++ [32,61,62,32] ++ yE l pr x 1
 else if x.kind == 37 || x.kind == 38 || x.kind == 39 then xV x.kind ++ [32] ++ yE l pr x 0
 else if x.kind == 44 || x.kind == 45 || x.kind == 46 then xV x.kind
 else if x.kind == 40 then [99,104,97,110,32] ++ yE l pr x 0 ++ [40] ++ Go.Lib.itoa x.n ++ [41]
 else if x.kind == 41 || x.kind == 42 || x.kind == 43 || x.kind == 47 || x.kind == 50 || x.kind == 51 || x.kind == 48 || x.kind == 49 then xV x.kind ++ [40] ++ jo l pr x 0 x.kids.length ++ [41]
 else if x.kind == 60 then [108,101,116,32] ++ x.text ++ [32,61,32] ++ yE l pr x 0
 else if x.kind == 61 then [118,97,114,32] ++ x.text ++ [32,61,32] ++ yE l pr x 0
 else if x.kind == 62 then yE l pr x 0 ++ [32,58,61,32] ++ yE l pr x 1
 else if xV x.kind != [] then yE l pr x 0 ++ [32] ++ xV x.kind ++ [32] ++ yE l pr x 1
 else vS l pr x
end
def yl(l:List Nd):Nat->Int->List UInt8
 |0,_=>[]
 |f+1,node=>match l[node.toNat]? with
  |some x=>yV l (yl l f) x
  |none=>[]
def zeP(t:zU)(node:Int):List UInt8:=yl t.nodes (t.nodes.length+1) node
def XZ(s:List UInt8):List UInt8×Nat:=if 3000<s.length then ([],5) else if (jp s).2.2≠0 then ([],5) else (s,0)
def YL(t:zU)(item:Int):List UInt8×Nat:=if xh t≠0 then ([],xh t) else if item<0\/(t.items.length:Int)<=item then ([],7) else XZ (zeP t (t.items.getD item.toNat 0))
section
variable {l:List Nd} {pr:Int→List UInt8} {x:Nd} {i:Nat}
theorem VU(h:qw l x i=false):yE l pr x i=pr (zu x i):=by
 unfold yE;rw[h];rfl
theorem kJ{r:Nat}(h:qw l x i=decide (zr (zt l (zu x i))<r)):yE l pr x i=yZ l pr (zu x i) r:=by
 unfold yE yZ;rw[h];by_cases hr:zr (zt l (zu x i))<r <;> simp[hr]
theorem zep(h:zr x.kind=9)(i:Nat):qw l x i=false:=by
 have hn:∀j,zr j≠9->(x.kind == j)=false:=fun j hj=>by
  rw[pA];intro e;rw[e] at h;exact hj h
 unfold qw;rw[h,hn 23 (by decide),hn 24 (by decide),hn 7 (by decide)];generalize zW (zt l (zu x i))=b;generalize zr (zt l (zu x i))=r;cases b <;> simp
theorem zcy(h:zr x.kind=9)(i:Nat):yE l pr x i=pr (zu x i):=VU (zep h i)
theorem VG{α:Type}(f:Int->α)(ks:List Int):∀(a b:Nat),b<=ks.length->(List.range' a (b-a)).map (fun i=>f (ks.getD i 0))=((ks.take b).drop a).map f
 |a,b,hb=>by
  apply List.ext_getElem?;intro i;rw[wD,wD,List.getElem?_drop,List.getElem?_take];by_cases h:i<b-a
  ·rw[List.getElem?_range' h,if_pos (by omega),glE (show a+i<ks.length by omega)];simp[pB,glE (show a+i<ks.length by omega)]
  ·rw[wY (by simp;omega),if_neg (by omega)];rfl
theorem VC{a b:Nat}(hb:b<=x.kids.length)(h:∀i,a<=i->yE l pr x i=pr (zu x i)):jo l pr x a b=yH pr ((x.kids.take b).drop a):=by
 unfold jo yH;rw[<-VG pr x.kids a b hb];congr 1;apply List.map_congr_left;intro i hi;rw[List.mem_range'_1] at hi;exact h i hi.1
theorem zkX(h:zr x.kind=9){a b:Nat}(hb:b<=x.kids.length):jo l pr x a b=yH pr ((x.kids.take b).drop a):=VC hb fun i _=>zcy h i
theorem JQ(h:zr x.kind=9){m:Nat}(hm:m=x.kids.length):jo l pr x 0 m=yH pr x.kids:=by
 rw[hm,zkX h (pF _),List.take_length,List.drop_zero]
theorem zk3(h:zr x.kind=9):Za l pr x=x.text ++ je pr x.kids:=by
 unfold Za je;rw[JQ h rfl];by_cases h0:x.kids=[]
 ·simp[h0]
 ·rw[if_neg (by intro e;exact h0 (pU e)),if_neg h0];simp
theorem zhg(last:Bool):∀(first:Bool) (ks:List Int),ks≠[]->stR last first (ks.map pr) ++ [32,125]=(if first then [] else [32]) ++ yU pr last ks ++ [125]
 |_,[],h=>absurd rfl h
 |first,[k],_=>by
  cases first <;> cases last <;> simp[stR,yU]
 |first,k :: j :: r,_=>by
  have ih:=zhg last false (j :: r) (by simp);rw[List.map_cons];unfold stR yU;simp only[List.map_cons,List.isEmpty_cons,Bool.false_and,Bool.false_eq_true,if_false,List.append_assoc] at ih ⊢;rw[ih]
def HdP(l:List Nd)(pr:Int->List UInt8)(k:Int):Prop:=zW (zt l k)=true->7<=zr (zt l k)->pr k≠[]/\((pr k).head? =some 45↔zt l k=6)
theorem zF(h:zH l x=true):xS x.kind=true/\(qK x.kind).1<=x.kids.length/\x.kids.length<=(qK x.kind).2/\zx x.kind x.n x.kids.length=true/\xX x=true/\∀i,i<x.kids.length->yM x.kind x.n x.kids.length i (zt l (zu x i))=true:=by
 unfold zH at h;simp only[pI,pH,pZ,List.mem_range] at h;obtain⟨⟨⟨⟨⟨⟨⟨h1,h2⟩,h3⟩,h4⟩,h5⟩,h6⟩,h7⟩,h8⟩:=h;exact⟨h1,h2,h3,h4,h7,h8⟩
theorem zfZ(h:zr x.kind=9){m:Nat}(hm:m=x.kids.length)(a:Nat):jo l pr x a m=yH pr (x.kids.drop a):=by
 rw[hm,zkX h (pF _),List.take_length]
theorem zjs(h:zr x.kind=9){b:Nat}(hb:b<=x.kids.length):jo l pr x 0 b=yH pr (x.kids.take b):=by
 rw[zkX h hb,List.drop_zero]
theorem zdd{ks:List Int}(h:ks.length=3):ks=[ks.getD 0 0,ks.getD 1 0,ks.getD 2 0]:=by
 match ks,h with
 |[a,b,c],_=>rfl
theorem zgl(hr:zH l x=true)(hk:x.kind∈[1,2,3,4,5,44,45,46,80,81,82,83,84,66,67,68,69]):yV l pr x=zz l pr x:=by
 obtain⟨k,t,n,ks,a⟩:=x;simp only[pS,pR,or_false] at hk;obtain⟨_,h1,h2,_,_,hs⟩:=zF hr;clear hr;rcases hk with rfl|rfl|rfl|rfl|rfl|rfl|rfl|rfl|rfl|rfl|rfl|rfl|rfl|rfl|rfl|rfl|rfl
 all_goals simp[yV,zz,yf,xV,zJ,zu,Zu,vD,Jh,vS,yN]
theorem zgm(hr:zH l x=true)(hk:x.kind∈[27,88,40,60,61,65,86,87,32,62,29,30,34,36,63,104]):yV l pr x=zz l pr x:=by
 obtain⟨k,t,n,ks,a⟩:=x;simp only[pS,pR,or_false] at hk;obtain⟨_,h1,h2,_,_,hs⟩:=zF hr;clear hr;rcases hk with rfl|rfl|rfl|rfl|rfl|rfl|rfl|rfl|rfl|rfl|rfl|rfl|rfl|rfl|rfl|rfl
 all_goals simp[yV,zz,yf,xV,zJ,zu,Zu,vD,Jh,vS,yN,xR,yt,xI,zcy,zr]
theorem zdZ(hr:zH l x=true)(hk:x.kind∈[41,42,43,47,48,49,50,51]):yV l pr x=zz l pr x:=by
 obtain⟨k,t,n,ks,a⟩:=x;simp only[pS,pR,or_false] at hk;obtain⟨_,h1,h2,_,_,hs⟩:=zF hr;clear hr;rcases hk with rfl|rfl|rfl|rfl|rfl|rfl|rfl|rfl
 all_goals simp[yV,zz,yf,xV,zJ,zu,Zu,vD,Jh,vS,yN,xR,yt,xI,zcy,zr,JQ]
theorem zgk(hr:zH l x=true)(hk:x.kind∈[26,35,31,100,101]):yV l pr x=zz l pr x:=by
 obtain⟨k,t,n,ks,a⟩:=x;simp only[pS,pR,or_false] at hk;obtain⟨_,h1,h2,_,_,hs⟩:=zF hr;clear hr;rcases hk with rfl|rfl|rfl|rfl|rfl
 all_goals simp[yV,zz,yf,xV,zJ,zu,Zu,vD,Jh,vS,yN,xR,yt,xI,zcy,zr,JQ,zfZ]
theorem zd0(hr:zH l x=true)(hk:x.kind∈[25,70,89]):yV l pr x=zz l pr x:=by
 obtain⟨k,t,n,ks,a⟩:=x;simp only[pS,pR,or_false] at hk;obtain⟨_,h1,h2,_,_,hs⟩:=zF hr;clear hr;rcases hk with rfl|rfl|rfl
 all_goals simp[yV,zz,yf,xV,zJ,zu,Zu,vD,Jh,vS,yN,xR,yt,xI,zcy,zr,zk3]
theorem zd1(hr:zH l x=true)(hk:x.kind∈[33,102,85,103]):yV l pr x=zz l pr x:=by
 obtain⟨k,t,n,ks,a⟩:=x;simp only[pS,pR,or_false] at hk;obtain⟨_,h1,h2,_,_,hs⟩:=zF hr;clear hr;rcases hk with rfl|rfl|rfl|rfl
 all_goals simp[yV,zz,yf,xV,zJ,zu,Zu,vD,Jh,vS,yN,xR,yt,xI,zcy,zr,zjs,Nat.sub_sub]
theorem zgj(hr:zH l x=true)(hk:x.kind∈[64]):yV l pr x=zz l pr x:=by
 obtain⟨k,t,n,ks,a⟩:=x;simp only[pS,pR,or_false] at hk;obtain⟨_,h1,h2,_,_,hs⟩:=zF hr;clear hr;subst hk;have h3:=zdd (ks:=ks) (by simp[qK] at h1 h2;omega);rw[h3];simp[yV,zz,yf,xV,zJ,zu,Zu,vD,Jh,vS,yN,xR,yt,xI,zcy,zr,yH,qc]
theorem zd3(hr:zH l x=true)(hk:x.kind=28):yV l pr x=zz l pr x:=by
 obtain⟨k,t,n,ks,a⟩:=x;simp only at hk;subst hk;have hmap:(List.range ks.length).map (yE l pr ⟨28,t,n,ks,a⟩)=ks.map pr:=by
  have:=VG pr ks 0 ks.length (pF _);rw[Nat.sub_zero,List.take_length,List.drop_zero,<-List.range_eq_range'] at this;rw[<-this];apply List.map_congr_left;intro i _;exact zcy (by rfl) i
 by_cases h0:ks=[]
 ·subst h0;simp[yV,zz,yf,xV,zJ,vS,vg]
 ·have h1:=zhg (pr:=pr) (n != 0) true ks h0;have h2:ks.length≠0:=fun e=>h0 (pU e)
  simp[yV,zz,yf,xV,zJ,vS,vg,h0,hmap] at h1 ⊢;exact h1
theorem zhW(hr:zH l x=true)(hk:x.kind=6)(hd:HdP l pr (zu x 0)):yV l pr x=zz l pr x:=by
 obtain⟨_,h1,h2,_,_,hs⟩:=zF hr;obtain⟨k,t,n,ks,a⟩:=x;simp only at hk;subst hk;have hm:ks.length=1:=by simp[qK] at h1 h2;omega
 have he:zW (zt l (zu ⟨6,t,n,ks,a⟩ 0))=true:=hs 0 (by simp only;omega);have hh:qw l ⟨6,t,n,ks,a⟩ 0=decide (zr (zt l (zu ⟨6,t,n,ks,a⟩ 0))<7):=by
  unfold qw;rw[he];simp[show zr 6=7 from rfl]
 have hk7:=kJ (pr:=pr) hh;have e1:yV l pr ⟨6,t,n,ks,a⟩=[45] ++ ((if (yE l pr ⟨6,t,n,ks,a⟩ 0).head? == some 45 then [32] else []) ++ yE l pr ⟨6,t,n,ks,a⟩ 0):=by simp[yV]
 have e2:zz l pr ⟨6,t,n,ks,a⟩=(if zt l (zu ⟨6,t,n,ks,a⟩ 0) == 6 then [45,32] ++ pr (zu ⟨6,t,n,ks,a⟩ 0) else [45] ++ yZ l pr (zu ⟨6,t,n,ks,a⟩ 0) 7):=by simp[zz,yf]
 rw[e1,e2,hk7];generalize zu ⟨6,t,n,ks,a⟩ 0=c at *;by_cases h6:zt l c=6
 ·have h7:zr (zt l c)=7:=by rw[h6];rfl
  have:=(hd he (by omega)).2.2 h6;unfold yZ;rw[h7];simp[this,h6]
 ·unfold yZ;by_cases h7:zr (zt l c)<7
  ·simp[h7,h6]
  ·have hne:=(hd he (by omega)).2;have:¬(pr c).head? =some 45:=fun e=>h6 (hne.1 e)
   simp[h7,h6,this]
theorem zcG{i:Nat}(he:zW (zt l (zu x i))=true)(hk:x.kind∈[22,21,8,9,10,11,12,13]):qw l x i=decide (zr (zt l (zu x i))<zr x.kind+i):=by
 unfold qw;rw[he];generalize x.kind=k at *;simp only[pS,pR,or_false] at hk;rcases hk with rfl|rfl|rfl|rfl|rfl|rfl|rfl|rfl
 all_goals simp[show zr 22=1 from rfl,show zr 21=2 from rfl,show zr 8=5 from rfl,show zr 9=5 from rfl,show zr 10=5 from rfl,show zr 11=6 from rfl,show zr 12=6 from rfl,show zr 13=6 from rfl]
theorem zcF{i:Nat}(he:zW (zt l (zu x i))=true)(hk:x.kind∈[14,15,16,17,18,19,20]):qw l x i=decide (zr (zt l (zu x i))<5):=by
 unfold qw;rw[he];generalize x.kind=k at *;simp only[pS,pR,or_false] at hk;rcases hk with rfl|rfl|rfl|rfl|rfl|rfl|rfl
 all_goals simp[show zr 14=4 from rfl,show zr 15=4 from rfl,show zr 16=4 from rfl,show zr 17=4 from rfl,show zr 18=4 from rfl,show zr 19=4 from rfl,show zr 20=4 from rfl]
theorem zik{i:Nat}(he:zW (zt l (zu x i))=true)(hk:x.kind∈[37,38,39]):qw l x i=decide (zr (zt l (zu x i))<7):=by
 unfold qw;rw[he];generalize x.kind=k at *;simp only[pS,pR,or_false] at hk;rcases hk with rfl|rfl|rfl
 all_goals simp[show zr 37=7 from rfl,show zr 38=7 from rfl,show zr 39=7 from rfl]
theorem zil{i:Nat}(he:zW (zt l (zu x i))=true)(hk:x.kind=7):qw l x i=decide (zr (zt l (zu x i))<3):=by
 unfold qw;rw[he,hk];simp
theorem zeq{i:Nat}(he:zW (zt l (zu x i))=true)(hk:x.kind=23):qw l x i=decide (zr (zt l (zu x i))<8):=by
 unfold qw;rw[he,hk];simp
theorem jr(hr:zH l x=true)(hk:x.kind∈[6,7,23,24,37,38,39,8,9,10,11,12,13,14,15,16,17,18,19,20,21,22]){i:Nat}(hi:i<x.kids.length):zW (zt l (zu x i))=true:=by
 obtain⟨_,_,_,_,_,hs⟩:=zF hr;have:=hs i hi;generalize zt l (zu x i)=kd at *;generalize x.kids.length=m at *;generalize x.kind=k at *;clear hr hs;simp only[pS,pR,or_false] at hk;rcases hk with rfl|rfl|rfl|rfl|rfl|rfl|rfl|rfl|rfl|rfl|rfl|rfl|rfl|rfl|rfl|rfl|rfl|rfl|rfl|rfl|rfl|rfl
 all_goals exact this
theorem zhU(hr:zH l x=true)(hk:x.kind∈[37,38,39]):yV l pr x=zz l pr x:=by
 have hm:0<x.kids.length:=by
  have:=(zF hr).2.1;rw[(by decide:∀k∈[37,38,39],qK k=(1,1)) _ hk] at this;exact this
 have hkh:=kJ (pr:=pr) (zik (jr hr (by revert hk;generalize x.kind=k;simp only[pS,pR,or_false];omega) hm) hk);obtain⟨k,t,n,ks,a⟩:=x;simp only[pS,pR,or_false] at hk;rcases hk with rfl|rfl|rfl
 all_goals simp[yV,zz,yf,xV,zJ,hkh]
theorem zhV(hr:zH l x=true)(hk:x.kind=7):yV l pr x=zz l pr x:=by
 have hm:0<x.kids.length:=by
  have:=(zF hr).2.1;rw[hk] at this;exact this
 have hkh:=kJ (pr:=pr) (zil (jr hr (by rw[hk];decide) hm) hk);obtain⟨k,t,n,ks,a⟩:=x;simp only at hk;subst hk;simp[yV,zz,yf,hkh]
theorem zd2(hr:zH l x=true)(hk:x.kind=23):yV l pr x=zz l pr x:=by
 have hm:0<x.kids.length:=by
  have:=(zF hr).2.1;rw[hk] at this;exact this
 have hkh:=kJ (pr:=pr) (zeq (jr hr (by rw[hk];decide) hm) hk);obtain⟨k,t,n,ks,a⟩:=x;simp only at hk;subst hk;simp[yV,zz,yf,hkh]
theorem zgn(hr:zH l x=true)(hk:x.kind=24):yV l pr x=zz l pr x:=by
 have hm:0<x.kids.length:=by
  have:=(zF hr).2.1;rw[hk] at this;exact this
 have he:=jr hr (by rw[hk];decide) hm;obtain⟨k,t,n,ks,a⟩:=x;simp only at hk;subst hk;have hrow:jo l pr ⟨24,t,n,ks,a⟩ 1 ks.length=yH pr (ks.drop 1):=by
  have:=VC (l:=l) (pr:=pr) (x:=⟨24,t,n,ks,a⟩) (a:=1) (pF ks.length) (fun i hi=>VU (by
   unfold qw;have:(i == 0)=false:=bfE (by omega)
   simp[this]))
  simp only[List.take_length] at this;exact this
 have e1:yV l pr ⟨24,t,n,ks,a⟩=yE l pr ⟨24,t,n,ks,a⟩ 0 ++ [40] ++ jo l pr ⟨24,t,n,ks,a⟩ 1 ks.length ++ [41]:=by simp[yV]
 have e2:zz l pr ⟨24,t,n,ks,a⟩=(if zt l (zu ⟨24,t,n,ks,a⟩ 0) == 25 && ((l[(zu ⟨24,t,n,ks,a⟩ 0).toNat]?).elim [] Nd.kids).isEmpty then [40] ++ yZ l pr (zu ⟨24,t,n,ks,a⟩ 0) 8 ++ [41] else yZ l pr (zu ⟨24,t,n,ks,a⟩ 0) 8) ++ [40] ++ yH pr (ks.drop 1) ++ [41]:=by simp[zz,yf]
 rw[e1,e2,hrow];unfold yE qw yZ;rw[he];generalize zu ⟨24,t,n,ks,a⟩ 0=c at *;generalize hkd:zt l c=kd at *;by_cases h25:kd=25
 ·subst h25;cases ((l[c.toNat]?).elim [] Nd.kids).isEmpty <;> simp[show zr 25=9 from rfl]
 ·by_cases h8:zr kd<8 <;> simp[h25,h8]
theorem zhY(hr:zH l x=true)(hk:x.kind∈[22,21,8,9,10,11,12,13]):yV l pr x=zz l pr x:=by
 have hm:1<x.kids.length:=by
  have:=(zF hr).2.1;rw[(by decide:∀k∈[22,21,8,9,10,11,12,13],qK k=(2,2)) _ hk] at this;exact this
 have hx:x.kind∈[6,7,23,24,37,38,39,8,9,10,11,12,13,14,15,16,17,18,19,20,21,22]:=by revert hk;generalize x.kind=k;simp only[pS,pR,or_false];omega
 have h0:=kJ (pr:=pr) (zcG (jr hr hx (by omega)) hk (i:=0));have h1:=kJ (pr:=pr) (zcG (jr hr hx hm) hk (i:=1));obtain⟨k,t,n,ks,a⟩:=x;simp only[pS,pR,or_false] at hk h0 h1;rcases hk with rfl|rfl|rfl|rfl|rfl|rfl|rfl|rfl
 all_goals simp[yV,zz,yf,xV,zJ,h0,h1,show zr 22=1 from rfl,show zr 21=2 from rfl,show zr 8=5 from rfl,show zr 9=5 from rfl,show zr 10=5 from rfl,show zr 11=6 from rfl,show zr 12=6 from rfl,show zr 13=6 from rfl]
theorem zhX(hr:zH l x=true)(hk:x.kind∈[14,15,16,17,18,19,20]):yV l pr x=zz l pr x:=by
 have hm:1<x.kids.length:=by
  have:=(zF hr).2.1;rw[(by decide:∀k∈[14,15,16,17,18,19,20],qK k=(2,2)) _ hk] at this;exact this
 have hx:x.kind∈[6,7,23,24,37,38,39,8,9,10,11,12,13,14,15,16,17,18,19,20,21,22]:=by revert hk;generalize x.kind=k;simp only[pS,pR,or_false];omega
 have h0:=kJ (pr:=pr) (zcF (jr hr hx (i:=0) (by omega)) hk);have h1:=kJ (pr:=pr) (zcF (jr hr hx hm) hk);obtain⟨k,t,n,ks,a⟩:=x;simp only[pS,pR,or_false] at hk h0 h1;rcases hk with rfl|rfl|rfl|rfl|rfl|rfl|rfl
 all_goals simp[yV,zz,yf,xV,zJ,h0,h1,show zr 14=4 from rfl,show zr 15=4 from rfl,show zr 16=4 from rfl,show zr 17=4 from rfl,show zr 18=4 from rfl,show zr 19=4 from rfl,show zr 20=4 from rfl]
theorem zjB(hr:zH l x=true)(hd:x.kind=6->HdP l pr (zu x 0)):yV l pr x=zz l pr x:=by
 have hk:=(zF hr).1;have hm:∀k,k<105->(!xS k || decide (k∈[1,2,3,4,5,44,45,46,80,81,82,83,84,66,67,68,69]) || decide (k∈[27,88,40,60,61,65,86,87,32,62,29,30,34,36,63,104]) || decide (k∈[41,42,43,47,48,49,50,51]) || decide (k∈[26,35,31,100,101]) || decide (k∈[25,70,89]) || decide (k∈[33,102,85,103]) || decide (k∈[64]) || decide (k=28) || decide (k=6) || decide (k∈[37,38,39]) || decide (k=7) || decide (k=23) || decide (k=24) || decide (k∈[22,21,8,9,10,11,12,13]) || decide (k∈[14,15,16,17,18,19,20]))=true:=by decide +kernel
 have h:=hm _ (Nat.lt_succ_of_le (kI hk));rw[hk] at h;simp only[Bool.not_true,Bool.false_or,wH,pH] at h;rcases h with (((((((((((((h|h)|h)|h)|h)|h)|h)|h)|h)|h)|h)|h)|h)|h)|h
 ·exact zgl hr h
 ·exact zgm hr h
 ·exact zdZ hr h
 ·exact zgk hr h
 ·exact zd0 hr h
 ·exact zd1 hr h
 ·exact zgj hr h
 ·exact zd3 hr h
 ·exact zhW hr h (hd h)
 ·exact zhU hr h
 ·exact zhV hr h
 ·exact zd2 hr h
 ·exact zgn hr h
 ·exact zhY hr h
 ·exact zhX hr h
end
theorem zbk(u:Nat):∃c r,Go.Lib.decDigits u=c :: r/\c≠45:=by
 induction u using Nat.strongRecOn with
 |ind u ih=>
  rw[Go.Lib.decDigits];split
  ·rename_i h;refine⟨_,_,rfl,?_⟩;have:∀i,i<10->UInt8.ofNat (48+i)≠45:=by decide
   exact this u h
  ·rename_i h;obtain⟨c,r,e,hc⟩:=ih (u / 10) (by omega);rw[e];exact⟨c,_,rfl,hc⟩
theorem zjK{n:Int}(h:0<=n):Go.Lib.itoa n≠[]/\(Go.Lib.itoa n).head? ≠some 45:=by
 unfold Go.Lib.itoa;rw[if_neg (by omega)];obtain⟨c,r,e,hc⟩:=zbk n.toNat;rw[e];refine⟨by simp,?_⟩;simp only[List.head?_cons];intro h;cases h;exact hc rfl
theorem zhi{k:Nat}{t:List UInt8}(hk:k=1\/k=2)(h:(xB k t).2=0):t≠[]/\t.head? ≠some 45:=by
 unfold xB at h;rw[if_neg (by omega)] at h;split at h
 ·rename_i hr;obtain⟨h1,h2⟩:=hr;unfold jp at h1;split at h1
  ·simp at h1
  ·unfold ZA at h1;dsimp only at h1;split at h1
   ·simp at h1
   ·rename_i hne;split at h1
    ·simp at h1
    ·rename_i k' t' m htk;split at h1
     ·simp at h1
     ·split at h1
      ·injection h1 with h1 _;injection h1 with hk' ht' ha;have hg:zT false t=0:=by omega
       rw[hg,List.drop_zero] at htk;subst hk';cases t with
       |nil=>simp[xd] at htk
       |cons c r=>
        refine⟨by simp,?_⟩;simp only[List.head?_cons];intro e;cases e;unfold xd at htk;simp only[show zM 45=false from rfl,show kZ 45=false from rfl,show zL 45=false from rfl,Bool.false_eq_true,if_false,show ¬(45:UInt8)=34 from by decide] at htk;cases hf:yb.find? (fun g=>qd g (45 :: r)) with
        |none=>rw[hf] at htk;cases htk
        |some x=>
         rw[hf] at htk;injection htk with htk;injection htk with htk _;omega
      ·simp at h1
 ·simp at h
theorem zhJ{t:List UInt8}(h:(xB 4 t).2=0):(xr t).1≠[]/\(xr t).1.head? ≠some 45:=by
 unfold xB at h;rw[if_pos rfl] at h;split at h
 ·rename_i hq;unfold xr at hq ⊢;split at hq
  ·simp at hq
  ·rename_i h60;split at hq
   ·rename_i hall;rw[if_neg h60,if_pos hall];simp
   ·simp at hq
 ·simp at h
theorem Vx{x:Nd}(h:xX x=true)(ht:xC x.kind=1\/xC x.kind=2):x.text≠[]/\x.text.head? ≠some 45:=by
 unfold xX at h;rw[if_neg (by simp;omega)] at h;exact zhi ht (by simpa using h)
theorem zg7{x:Nd}(h:xX x=true)(ht:xC x.kind=4):(xr x.text).1≠[]/\(xr x.text).1.head? ≠some 45:=by
 unfold xX at h;rw[ht] at h;exact zhJ (by simpa using h)
theorem zcc{l:List Nd}{pr:Int->List UInt8}{c:Int}(he:zW (zt l c)=true)(hd:HdP l pr c):yZ l pr c 8≠[]/\(yZ l pr c 8).head? ≠some 45:=by
 unfold yZ;split
 ·simp
 ·rename_i h8;obtain⟨h1,h2⟩:=hd he (by omega);refine⟨h1,fun e=>?_⟩;have:=h2.1 e;rw[this] at h8;exact h8 (by decide)
theorem zer{a b:List UInt8}(h:a≠[]/\a.head? ≠some 45):a ++ b≠[]/\(a ++ b).head? ≠some 45:=by
 cases a with
 |nil=>exact absurd rfl h.1
 |cons c r=>exact⟨by simp,by simpa using h.2⟩
theorem Zl{l:List Nd}{pr:Int->List UInt8}{x:Nd}(h6:x.kind≠6)(h:zz l pr x≠[]/\(zz l pr x).head? ≠some 45):zz l pr x≠[]/\((zz l pr x).head? =some 45↔x.kind=6):=⟨h.1,fun e=>absurd e h.2,fun e=>absurd e h6⟩
theorem zjO{l:List Nd}{pr:Int->List UInt8}{x:Nd}(hr:zH l x=true)(he:zW x.kind=true)(h7:7<=zr x.kind)(hd:x.kind=23\/x.kind=24->HdP l pr (zu x 0)):zz l pr x≠[]/\((zz l pr x).head? =some 45↔x.kind=6):=by
 obtain⟨hk,h1,h2,hnum,htit,_⟩:=zF hr;have hm:∀k,k<105->(!zW k || decide (zr k<7) || decide (k∈[4,44,45,46,3,41,42,43,47,48,49,50,51,26,35,31,37,38,39,29,30,33,34,36,40]) || decide (k=1) || decide (k=2) || decide (k=5) || decide (k=25) || decide (k=6) || decide (k=23) || decide (k=24))=true:=by decide +kernel
 have h:=hm _ (Nat.lt_succ_of_le (kI hk));rw[he] at h;simp only[Bool.not_true,Bool.false_or,wH,pH] at h;rcases h with (((((((h|h)|h)|h)|h)|h)|h)|h)|h
 ·omega
 ·refine Zl (fun e=>by rw[e] at h;revert h;decide) ?_;obtain⟨k,t,n,ks,a⟩:=x;clear hr he h7 hd hk h1 h2 hnum htit hm;simp only[pS,pR,or_false] at h;rcases h with rfl|rfl|rfl|rfl|rfl|rfl|rfl|rfl|rfl|rfl|rfl|rfl|rfl|rfl|rfl|rfl|rfl|rfl|rfl|rfl|rfl|rfl|rfl|rfl|rfl
  all_goals first|(simp[zz,yf,zJ,xR,yt,yN];done)|(simp[zz,yf,zJ,xR,yt,yN];by_cases hn:n=1 <;> simp[hn])
 ·refine Zl (by omega) ?_;have e:zz l pr x=Go.Lib.itoa x.n:=by
   unfold zz;rw[h];rfl
  rw[e];rw[h] at hnum;have hnum:(decide (0<=x.n) && decide (x.n<=1000000000))=true:=hnum;rw[pI,pH] at hnum;exact zjK hnum.1
 ·refine Zl (by omega) ?_;have e:zz l pr x=(xr x.text).1:=by
   unfold zz;rw[h];rfl
  rw[e];exact zg7 htit (by rw[h];rfl)
 ·refine Zl (by omega) ?_;have e:zz l pr x=x.text:=by
   unfold zz;rw[h];rfl
  rw[e];exact Vx htit (.inl (by rw[h];rfl))
 ·refine Zl (by omega) ?_;have e:zz l pr x=x.text ++ je pr x.kids:=by
   unfold zz;rw[h];rfl
  rw[e];exact zer (Vx htit (.inr (by rw[h];rfl)))
 ·obtain⟨k,t,n,ks,a⟩:=x;simp only at h;subst h;have e2:zz l pr ⟨6,t,n,ks,a⟩=(if zt l (zu ⟨6,t,n,ks,a⟩ 0) == 6 then [45,32] ++ pr (zu ⟨6,t,n,ks,a⟩ 0) else [45] ++ yZ l pr (zu ⟨6,t,n,ks,a⟩ 0) 7):=by simp[zz,yf]
  rw[e2];split <;> simp
 ·refine Zl (by omega) ?_;have hm0:0<x.kids.length:=by rw[h] at h1;exact h1
  have hke:=jr hr (by rw[h];decide) hm0;have e:zz l pr x=yZ l pr (zu x 0) 8 ++ ([46] ++ x.text):=by
   obtain⟨k,t,n,ks,a⟩:=x;simp only at h;subst h;simp[zz,yf]
  rw[e];exact zer (zcc hke (hd (.inl h)))
 ·refine Zl (by omega) ?_;have hm0:0<x.kids.length:=by rw[h] at h1;exact h1
  have hke:=jr hr (by rw[h];decide) hm0;have e:zz l pr x=(if zt l (zu x 0) == 25 && ((l[(zu x 0).toNat]?).elim [] Nd.kids).isEmpty then [40] ++ yZ l pr (zu x 0) 8 ++ [41] else yZ l pr (zu x 0) 8) ++ ([40] ++ yH pr (x.kids.drop 1) ++ [41]):=by
   obtain⟨k,t,n,ks,a⟩:=x;simp only at h;subst h;simp[zz,yf]
  rw[e];refine zer ?_;split
  ·simp
  ·exact zcc hke (hd (.inr h))
theorem Zp{a b:Int->List UInt8}{ks:List Int}(h:∀k∈ks,a k=b k):yH a ks=yH b ks:=by
 unfold yH;rw[List.map_congr_left h]
theorem QB{a b:Int->List UInt8}{last:Bool}:∀{ks:List Int},(∀k∈ks,a k=b k)->yU a last ks=yU b last ks
 |[],_=>rfl
 |[k],h=>by
  unfold yU;rw[h k (by simp)]
 |k :: j :: r,h=>by
  unfold yU;rw[h k (by simp),QB (ks:=j :: r) (fun i hi=>h i (wJ _ hi))]
theorem zaV{l:List Nd}{a b:Int->List UInt8}{x:Nd}(h:∀k,k∈x.kids\/k=0->a k=b k):zz l a x=zz l b x:=by
 have hk:∀i,a (zu x i)=b (zu x i):=fun i=>h _ (by
  unfold zu;rw[pB];cases hx:x.kids[i]? with
  |none=>exact .inr rfl
  |some y=>exact .inl (pM hx))
 have hq:∀i r,yZ l a (zu x i) r=yZ l b (zu x i) r:=fun i r=>by unfold yZ;rw[hk]
 have ha:yH a x.kids=yH b x.kids:=Zp fun k hk=>h k (.inl hk)
 have hd:∀i,yH a (x.kids.drop i)=yH b (x.kids.drop i):=fun i=>Zp fun k hk=>h k (.inl (List.mem_of_mem_drop hk))
 have ht:∀i,yH a (x.kids.take i)=yH b (x.kids.take i):=fun i=>Zp fun k hk=>h k (.inl (List.mem_of_mem_take hk))
 have hs:yU a (x.n != 0) x.kids=yU b (x.n != 0) x.kids:=QB fun k hk=>h k (.inl hk)
 unfold zz vg xR yN yt xI je;simp only[hk,hq,ha,hd,ht,hs]
theorem Xa{l:List Nd}(hF:xw l l.length)(hR:∀x∈l,zH l x=true):∀(f i:Nat),i<l.length->i<f->yl l f i=Vi l f i/\HdP l (Vi l f) i
 |0,i,_,h=>absurd h (pY _)
 |f+1,i,hi,hf=>by
  have hx:l[i]? =some l[i]:=glE hi;have hkl:=qf hF hi;have hr:=hR _ (wF hi);obtain⟨x,hxe⟩:=exE (l[i]);rw[hxe] at hx hkl hr;have hkid:∀k∈x.kids,yl l f k=Vi l f k/\HdP l (Vi l f) k:=fun k hk=>by
   obtain⟨h0,h1⟩:=hkl k hk;obtain⟨j,rfl⟩:=pJ h0;exact Xa hF hR f j (by omega) (by omega)
  have hag:∀k,k∈x.kids\/k=0->yl l f k=Vi l f k:=fun k hk=>by
   rcases hk with hk|rfl
   ·exact (hkid k hk).1
   ·cases f with
    |zero=>rfl
    |succ f=>exact (Xa hF hR (f+1) 0 (by omega) (by omega)).1
  have hm:∀{j:Nat},j<x.kids.length->zu x j∈x.kids:=fun {j} hj=>by
   unfold zu;rw[pB,glE hj];exact wF hj
  have hfew:=(zF hr).2.1;have e1:yl l (f+1) i=yV l (yl l f) x:=by
   show (match l[(i:Int).toNat]? with|some x=>yV l (yl l f) x|none=>[])=_
   rw[pO,hx]
  have e2:Vi l (f+1) i=zz l (Vi l f) x:=by
   show (match l[(i:Int).toNat]? with|some x=>zz l (Vi l f) x|none=>[])=_
   rw[pO,hx]
  have hka:zt l i=x.kind:=by
   unfold zt;rw[pO,hx];rfl
  refine⟨?_,?_⟩
  ·rw[e1,e2,zjB hr (fun h6=>?_),zaV hag];have h0:zu x 0∈x.kids:=hm (by rw[h6] at hfew;exact hfew);have:=hkid _ h0;unfold HdP;rw[this.1];exact this.2
  ·intro he h7;rw[hka] at he h7;rw[e2,hka];refine zjO hr he h7 fun h=>(hkid _ (hm ?_)).2
   rcases h with h|h <;> (rw[h] at hfew;exact hfew)
theorem zhq(s:List UInt8):kH s=XZ s:=by
 unfold kH XZ;by_cases h:3000<s.length
 ·rw[if_pos h];unfold jp xP;rw[if_pos h];rfl
 ·rw[if_neg h]
theorem Zq{t:zU}(h:xh t=0):xw t.nodes t.nodes.length/\(∀x∈t.nodes,zH t.nodes x=true)/\∀k∈t.items,0<=k/\k<t.nodes.length:=by
 unfold xh at h;split at h
 ·cases h
 ·split at h
  ·cases h
  ·rename_i hf;obtain⟨hF,hI,hR⟩:=jE (by simpa using hf);refine⟨hF,hR,fun k hk=>?_⟩;have:=Xy _ _ _ _ hI k (gD.2 hk);omega
theorem zk2{t:zU}(h:xh t=0){k:Int}(hk:k∈t.items):prT t k=zeP t k:=by
 obtain⟨hF,hR,hI⟩:=Zq h;obtain⟨h0,h1⟩:=hI k hk;obtain⟨j,rfl⟩:=pJ h0;exact (Xa hF hR _ j (by omega) (by omega)).1.symm
theorem zig{t:zU}(hm:∀x∈t.nodes,x.kids.length<=1000)(item:Int):VY t item=YL t item:=by
 unfold VY YL;rw[uR t hm];split
 ·rfl
 ·rename_i h;split
  ·rfl
  ·rename_i hi;rw[zhq,zk2 (by simpa using h)];rw[pB,glE (show item.toNat<t.items.length by omega)];exact wF _
def qt(pr:Int->List UInt8):List Int->Nat
 |[]=>0
 |k :: r=>(pr k).length+8+qt pr r
theorem Km(pr:Int->List UInt8):∀a b:List Int,qt pr (a ++ b)=qt pr a+qt pr b
 |[],_=>by simp[qt]
 |k :: r,b=>by
  show (pr k).length+8+qt pr (r ++ b)=(pr k).length+8+qt pr r+qt pr b
  rw[Km pr r b];omega
theorem xW(l:List Nd)(pr:Int->List UInt8)(k:Int)(r:Nat):(yZ l pr k r).length<=(pr k).length+2:=by
 unfold yZ;split
 ·simp only[pG,pN,wC];omega
 ·omega
theorem zao(pr:Int->List UInt8):∀ks:List Int,(qc (ks.map pr)).length<=qt pr ks
 |[]=>by simp[qc,qt]
 |[k]=>by
  simp only[List.map_cons,List.map_nil,qc,qt];omega
 |k :: j :: r=>by
  have ih:=zao pr (j :: r);rw[List.map_cons] at ih ⊢;rw[List.map_cons];unfold qc qt;simp only[pG,pN,wC] at ih ⊢;omega
theorem jQ(pr:Int->List UInt8)(ks:List Int):(yH pr ks).length<=qt pr ks:=zao pr ks
theorem zdP(pr:Int->List UInt8)(ks:List Int):(je pr ks).length<=qt pr ks+2:=by
 unfold je;have:=jQ pr ks;split
 ·simp
 ·simp only[pG,pN,wC];omega
theorem Kc(pr:Int->List UInt8)(last:Bool):∀ks:List Int,(yU pr last ks).length<=qt pr ks
 |[]=>by simp[yU,qt]
 |[k]=>by
  unfold yU qt qt;cases last <;> simp
 |k :: j :: r=>by
  have ih:=Kc pr last (j :: r);unfold yU qt;simp only[pG,pN,wC] at ih ⊢;omega
theorem Zo:∀(d u:Nat),u<10 ^ (d+1)->(Go.Lib.decDigits u).length<=d+1
 |0,u,h=>by
  rw[Go.Lib.decDigits];split
  ·simp
  ·rename_i h2;simp at h;omega
 |d+1,u,h=>by
  rw[Go.Lib.decDigits];split
  ·simp
  ·have:=Zo d (u / 10) (by
    rw[Nat.div_lt_iff_lt_mul (by decide)];rw[Nat.pow_succ] at h;exact h)
   rw[pG,pK];omega
theorem ZX{n:Int}(h1: -1000000000<=n)(h2:n<=1000000000):(Go.Lib.itoa n).length<=11:=by
 unfold Go.Lib.itoa;split
 ·have:=Zo 9 n.natAbs (by omega);simp only[pN];omega
 ·have:=Zo 9 n.toNat (by omega);omega
theorem kC{x:Nd}(h:xX x=true)(h4:xC x.kind≠4):x.text.length<=3000:=by
 unfold xX at h;split at h
 ·have:x.text=[]:=by simpa using h
  rw[this];simp
 ·unfold xB at h;rw[if_neg h4] at h;split at h
  ·rename_i hr;rcases Nat.lt_or_ge 3000 x.text.length with hl|hl
   ·exfalso;have h1:=hr.1;unfold jp xP at h1;rw[if_pos hl] at h1;simp at h1
   ·exact hl
  ·simp at h
theorem zkf:∀l:List UInt8,(l.flatMap yR).length<=2*l.length
 |[]=>by simp
 |c :: r=>by
  have:=zkf r;rw[List.flatMap_cons,pG,pN];have:(yR c).length<=2:=by
   unfold yR;split
   ·simp
   ·split <;> simp
  omega
theorem zhI(t:List UInt8):(xr t).1.length<=122:=by
 unfold xr;split
 ·simp
 ·split
  ·have:=zkf t;simp only[pG,pN,wC];omega
  ·simp
section
variable {l:List Nd} {pr:Int→List UInt8} {x:Nd}
theorem zh6(hr:zH l x=true)(hk:x.kind∈[1,2,3,4,5,44,45,46,80,81,82,83,84,66,67,68,69]):(zz l pr x).length<=qt pr x.kids+3100:=by
 obtain⟨k,t,n,ks,a⟩:=x;simp only[pS,pR,or_false] at hk;obtain⟨_,h1,h2,hn,ht,hs⟩:=zF hr;clear hr hs h1 h2;have hq:=zhI t;have ht:xC k≠4->t.length<=3000:=fun h=>kC ht h
 rcases hk with rfl|rfl|rfl|rfl|rfl|rfl|rfl|rfl|rfl|rfl|rfl|rfl|rfl|rfl|rfl|rfl|rfl
 all_goals simp[zx] at hn
 all_goals simp[xC] at ht
 all_goals simp[zz,yf,zJ,yN]
 all_goals first
  |omega
  |(have:=ZX (n:=n) (by omega) (by omega);omega)
  |(split <;> (try simp) <;> omega)
theorem zjF(hr:zH l x=true)(hk:x.kind∈[6,7,23,27,37,38,39,40,42,43,47,50,51,60,61,65,86,87,88]):(zz l pr x).length<=qt pr x.kids+3100:=by
 obtain⟨k,t,n,ks,a⟩:=x;simp only[pS,pR,or_false] at hk;obtain⟨_,h1,h2,hn,ht,hs⟩:=zF hr;clear hr hs;have hl:ks.length=1:=by
  rcases hk with rfl|rfl|rfl|rfl|rfl|rfl|rfl|rfl|rfl|rfl|rfl|rfl|rfl|rfl|rfl|rfl|rfl|rfl|rfl
  all_goals (simp[qK] at h1 h2;omega)
 clear h1 h2;obtain⟨c,rfl⟩:∃c,ks=[c]:=by
  match ks,hl with
  |[c],_=>exact⟨c,rfl⟩
 have ht:t.length<=3000:=kC ht (by dsimp only;rcases hk with rfl|rfl|rfl|rfl|rfl|rfl|rfl|rfl|rfl|rfl|rfl|rfl|rfl|rfl|rfl|rfl|rfl|rfl|rfl <;> decide);have q3:=xW l pr c 3;have q7:=xW l pr c 7;have q8:=xW l pr c 8;have qa:=jQ pr [c];simp only[qt] at qa ⊢;rcases hk with rfl|rfl|rfl|rfl|rfl|rfl|rfl|rfl|rfl|rfl|rfl|rfl|rfl|rfl|rfl|rfl|rfl|rfl|rfl
 all_goals simp[zx] at hn
 all_goals simp[zz,yf,zJ,zu,yN,xR,yt]
 all_goals first
  |omega
  |(have:=ZX (n:=n) (by omega) (by omega);omega)
  |(split <;> (try simp) <;> omega)
theorem zjE(hr:zH l x=true)(hk:x.kind∈[8,9,10,11,12,13,14,15,16,17,18,19,20,21,22,30,32,34,41,48,62,63,104]):(zz l pr x).length<=qt pr x.kids+3100:=by
 obtain⟨k,t,n,ks,a⟩:=x;simp only[pS,pR,or_false] at hk;obtain⟨_,h1,h2,hn,ht,hs⟩:=zF hr;clear hr hs hn;have hl:ks.length=2:=by
  rcases hk with rfl|rfl|rfl|rfl|rfl|rfl|rfl|rfl|rfl|rfl|rfl|rfl|rfl|rfl|rfl|rfl|rfl|rfl|rfl|rfl|rfl|rfl|rfl
  all_goals (simp[qK] at h1 h2;omega)
 clear h1 h2;obtain⟨c,d,rfl⟩:∃c d,ks=[c,d]:=by
  match ks,hl with
  |[c,d],_=>exact⟨c,d,rfl⟩
 have ht:t.length<=3000:=kC ht (by dsimp only;rcases hk with rfl|rfl|rfl|rfl|rfl|rfl|rfl|rfl|rfl|rfl|rfl|rfl|rfl|rfl|rfl|rfl|rfl|rfl|rfl|rfl|rfl|rfl|rfl <;> decide);have q1:=xW l pr c 1;have q2:=xW l pr c 2;have q5:=xW l pr c 5;have q6:=xW l pr c 6;have p2:=xW l pr d 2;have p3:=xW l pr d 3;have p5:=xW l pr d 5;have p6:=xW l pr d 6;have p7:=xW l pr d 7;have qa:=jQ pr [c,d];simp only[qt] at qa ⊢;rcases hk with rfl|rfl|rfl|rfl|rfl|rfl|rfl|rfl|rfl|rfl|rfl|rfl|rfl|rfl|rfl|rfl|rfl|rfl|rfl|rfl|rfl|rfl|rfl
 all_goals simp[zz,yf,zr,zJ,zu,yN,xR,yt]
 all_goals omega
theorem zgs(hr:zH l x=true)(hk:x.kind∈[49,64,36]):(zz l pr x).length<=qt pr x.kids+3100:=by
 obtain⟨k,t,n,ks,a⟩:=x;simp only[pS,pR,or_false] at hk;obtain⟨_,h1,h2,hn,ht,hs⟩:=zF hr;clear hr hs hn;have hl:ks.length=3:=by
  rcases hk with rfl|rfl|rfl
  all_goals (simp[qK] at h1 h2;omega)
 clear h1 h2;obtain⟨c,d,e,rfl⟩:∃c d e,ks=[c,d,e]:=by
  match ks,hl with
  |[c,d,e],_=>exact⟨c,d,e,rfl⟩
 have ht:t.length<=3000:=kC ht (by dsimp only;rcases hk with rfl|rfl|rfl <;> decide);have qa:=jQ pr [c,d,e];have qb:=jQ pr [c,d];simp only[qt] at qa qb ⊢;rcases hk with rfl|rfl|rfl
 all_goals simp[zz,yf,zr,zJ,zu,yN,xR,yt]
 all_goals omega
theorem zlb(hr:zH l x=true)(hk:x.kind=29):(zz l pr x).length<=qt pr x.kids+3100:=by
 obtain⟨k,t,n,ks,a⟩:=x;simp only at hk;subst hk;obtain⟨_,h1,h2,hn,ht,hs⟩:=zF hr;clear hr hs hn ht;simp[qK] at h1 h2
 match ks,h1,h2 with
 |[c,d],_,_=>
  simp only[qt];simp[zz,yf,zr,zJ,zu,yN,xR,yt];omega
 |[c,d,e],_,_=>
  simp only[qt];simp[zz,yf,zr,zJ,zu,yN,xR,yt];omega
theorem zh5(hr:zH l x=true)(hk:x.kind∈[26,35,100,101,25,70,89,28]):(zz l pr x).length<=qt pr x.kids+3100:=by
 obtain⟨k,t,n,ks,a⟩:=x;simp only[pS,pR,or_false] at hk;obtain⟨_,h1,h2,hn,ht,hs⟩:=zF hr;clear hr hs hn h1 h2;have ht:t.length<=3000:=kC ht (by dsimp only;rcases hk with rfl|rfl|rfl|rfl|rfl|rfl|rfl|rfl <;> decide);have qa:=jQ pr ks;have qp:=zdP pr ks;have qs:=Kc pr (n != 0) ks;simp only;rcases hk with rfl|rfl|rfl|rfl|rfl|rfl|rfl|rfl
 all_goals simp[zz,yf,zr,zJ,zu,yN,xR,yt,vg]
 all_goals first
  |omega
  |(split <;> (try simp) <;> omega)
theorem zh4(hr:zH l x=true)(hk:x.kind∈[24,31]):(zz l pr x).length<=qt pr x.kids+3100:=by
 obtain⟨k,t,n,ks,a⟩:=x;simp only[pS,pR,or_false] at hk;obtain⟨_,h1,h2,hn,ht,hs⟩:=zF hr;clear hr hs hn ht;have hl:1<=ks.length:=by
  rcases hk with rfl|rfl
  ·exact h1
  ·exact pQ (show 1<=2 by decide) h1
 clear h1 h2;obtain⟨c,r,rfl⟩:∃c r,ks=c :: r:=by
  match ks,hl with
  |c :: r,_=>exact⟨c,r,rfl⟩
 have q8:=xW l pr c 8;have qa:=jQ pr r;simp only[qt];rcases hk with rfl|rfl
 all_goals simp[zz,yf,zr,zJ,zu,yN,xR,yt]
 all_goals first
  |omega
  |(split <;> (try simp) <;> omega)
theorem zh7(hr:zH l x=true)(hk:x.kind∈[85,103]):(zz l pr x).length<=qt pr x.kids+3100:=by
 obtain⟨k,t,n,ks,a⟩:=x;simp only[pS,pR,or_false] at hk;obtain⟨_,h1,h2,hn,ht,hs⟩:=zF hr;clear hr hs hn;have hl:1<=ks.length:=by
  rcases hk with rfl|rfl
  ·exact h1
  ·exact h1
 clear h1 h2;obtain⟨r,c,rfl⟩:∃r c,ks=r ++ [c]:=⟨ks.dropLast,ks.getLast (by intro e;rw[e] at hl;simp at hl),(List.dropLast_concat_getLast _).symm⟩;have ht:t.length<=3000:=kC ht (by dsimp only;rcases hk with rfl|rfl <;> decide);have qa:=jQ pr r;rw[Km];simp only[qt];rcases hk with rfl|rfl
 all_goals simp[zz,yf,zr,zJ,zu,yN,xR,yt,xI]
 all_goals omega
theorem zjG(hr:zH l x=true)(hk:x.kind∈[33,102]):(zz l pr x).length<=qt pr x.kids+3100:=by
 obtain⟨k,t,n,ks,a⟩:=x;simp only[pS,pR,or_false] at hk;obtain⟨_,h1,h2,hn,ht,hs⟩:=zF hr;clear hr hs hn;have hl:2<=ks.length:=by
  rcases hk with rfl|rfl
  ·exact h1
  ·exact h1
 clear h1 h2;obtain⟨r,c,d,rfl⟩:∃r c d,ks=r ++ [c,d]:=by
  refine⟨ks.dropLast.dropLast,ks.dropLast.getLast (by intro e;have:=congrArg List.length e;simp at this;omega),ks.getLast (by intro e;rw[e] at hl;simp at hl),?_⟩;rw[show ∀(a b:Int),[a,b]=[a] ++ [b] from fun _ _=>rfl,<-List.append_assoc,List.dropLast_concat_getLast,List.dropLast_concat_getLast]
 have ht:t.length<=3000:=kC ht (by dsimp only;rcases hk with rfl|rfl <;> decide);have qa:=jQ pr r;rw[Km];simp only[qt];have e1:(r ++ [c,d]).getD r.length 0=c:=by simp[pB]
 have e2:(r ++ [c,d]).getD (r.length+1) 0=d:=by simp[pB]
 rcases hk with rfl|rfl
 all_goals simp[zz,yf,zr,zJ,zu,yN,xR,yt,xI]
 all_goals first
  |omega
  |(split <;> (try simp) <;> omega)
theorem zgd(hr:zH l x=true):(zz l pr x).length<=qt pr x.kids+3100:=by
 have hk:=(zF hr).1;have hm:∀k,k<105->(!xS k || decide (k∈[1,2,3,4,5,44,45,46,80,81,82,83,84,66,67,68,69]) || decide (k∈[6,7,23,27,37,38,39,40,42,43,47,50,51,60,61,65,86,87,88]) || decide (k∈[8,9,10,11,12,13,14,15,16,17,18,19,20,21,22,30,32,34,41,48,62,63,104]) || decide (k∈[49,64,36]) || decide (k=29) || decide (k∈[26,35,100,101,25,70,89,28]) || decide (k∈[24,31]) || decide (k∈[85,103]) || decide (k∈[33,102]))=true:=by decide +kernel
 have h:=hm _ (Nat.lt_succ_of_le (kI hk));rw[hk] at h;simp only[Bool.not_true,Bool.false_or,wH,pH] at h;rcases h with (((((((h|h)|h)|h)|h)|h)|h)|h)|h
 ·exact zh6 hr h
 ·exact zjF hr h
 ·exact zjE hr h
 ·exact zgs hr h
 ·exact zlb hr h
 ·exact zh5 hr h
 ·exact zh4 hr h
 ·exact zh7 hr h
 ·exact zjG hr h
end
theorem zfb{pr:Int->List UInt8}{z:Int->Nat}:∀ks:List Int,(∀k∈ks,(pr k).length+8<=3200*z k)->(qt pr ks:Int)<=3200*(ks.map fun k=>(z k:Int)).sum
 |[],_=>by simp[qt]
 |k :: r,h=>by
  have ih:=zfb (pr:=pr) (z:=z) r (fun j hj=>h j (wJ _ hj));have h1:=h k (List.mem_cons_self ..);rw[List.map_cons,List.sum_cons];unfold qt;omega
theorem zhM{l:List Nd}(hF:xw l l.length)(hR:∀x∈l,zH l x=true):∀(i f:Nat),i<l.length->(Vi l f i).length+8<=3200*(qi l l.length).getD i 0
 |i,0,hi=>by
  obtain⟨p,hp,hsz,hpi⟩:=qn hF hi;show 0+8<=_
  omega
 |i,f+1,hi=>by
  obtain⟨p,hp,hsz,hpi⟩:=qn hF hi;have hkid:=qf hF hi;have hx:l[i]? =some l[i]:=glE hi;have hr:=hR _ (wF hi);rw[hx] at hp;simp only[Option.elim] at hp;have hs:=zaG _ _ _ hp;rw[List.map_reverse,List.sum_reverse] at hs;have h1:=zgd (pr:=Vi l f) hr;have h2:=zfb (pr:=Vi l f) (z:=fun k=>(qi l l.length).getD k.toNat 0) l[i].kids (fun k hk=>by
   obtain⟨h0,h1⟩:=hkid k hk;obtain⟨k',rfl⟩:=pJ h0;simp only[pO];exact zhM hF hR k' f (by omega))
  rw[hs] at h2;have e2:Vi l (f+1) i=zz l (Vi l f) l[i]:=by
   show (match l[(i:Int).toNat]? with|some x=>zz l (Vi l f) x|none=>[])=_
   rw[pO,hx]
  rw[e2];omega
termination_by _ f=>f
theorem zg9{out:List Nat}:∀(rk:List Int) (p e:Int),-1<=p->(∀j:Nat,(j:Int)<=p->out.getD j 0<=j+1)->Xc out rk p=some e->-1<=e
 |[],p,e,hp,_,h=>by cases h;exact hp
 |k :: r,p,e,hp,ho,h=>by
  unfold Xc at h;split at h
  ·cases h
  ·rename_i hc;have h1:=ho p.toNat (by omega);exact zg9 r _ e (by omega) (fun j hj=>ho j (by omega)) h
theorem zaF{l:List Nd}{n:Nat}(hF:xw l n):∀(i:Nat),i<n->(qi l n).getD i 0<=i+1:=by
 intro i;induction i using Nat.strongRecOn with
 |ind i ih=>
  intro hi;obtain⟨p,hp,hsz,hpi⟩:=qn hF hi;have:=zg9 _ _ _ (by omega) (fun j hj=>ih j (by omega) (by omega)) hp;omega
theorem ZU{l:List Nd}(hF:xw l l.length)(hR:∀x∈l,zH l x=true)(hn:l.length<=1000)(f i:Nat)(hi:i<l.length):(Vi l f i).length<=3200000:=by
 have h1:=zhM hF hR i f hi;have h2:=zaF hF i hi;omega
def Kb(c:Nat)(s:yI):Prop:=∀x∈s.nodes,x.kids.length<=c
structure Kp{α:Type}(Q:α->Prop)(n:Nat)(m:PM α):Prop where
 out:∀(E:zI) (s:yI) (a:α) (s':yI),E.toks.length=n->Kb (n+8) s->m E s=.ok a s'->Kb (n+8) s'/\Q a
abbrev Any{α:Type}:α->Prop:=fun _=>True
abbrev xj(n:Nat):List Int->Prop:=fun l=>l.length<=n
theorem Kp.bind{α β:Type}{Q:α->Prop}{P:β->Prop}{n:Nat}{m:PM α}{f:α->PM β}(hm:Kp Q n m)(hf:∀a,Q a->Kp P n (f a)):Kp P n (m >>= f):=by
 refine⟨fun E s a s' hE hk h=>?_⟩;obtain⟨x,s1,h1,h⟩:=zy h;obtain⟨k1,q1⟩:=hm.out _ _ _ _ hE hk h1;exact (hf x q1).out _ _ _ _ hE k1 h
theorem Kp.pure{α:Type}{Q:α->Prop}{n:Nat}{a:α}(h:Q a):Kp Q n (pure a:PM α):=by
 refine⟨fun E s b s' _ hk e=>?_⟩;obtain⟨rfl,rfl⟩:=yJ e;exact⟨hk,h⟩
theorem Kp.ite{α:Type}{Q:α->Prop}{n:Nat}{c:Prop}[Decidable c]{a b:PM α}(ha:Kp Q n a)(hb:Kp Q n b):Kp Q n (if c then a else b):=by
 split
 ·exact ha
 ·exact hb
section
variable {n:Nat}
theorem yL{x:List UInt8}:Kp Any n (zV x):=by
 refine⟨fun E s a s' _ hk h=>?_⟩;unfold zV at h;split at h <;> cases h;exact⟨hk,trivial⟩
theorem qT{k:Nat}:Kp Any n (xT k):=by
 refine⟨fun E s a s' _ hk h=>?_⟩;unfold xT at h;split at h <;> cases h;exact⟨hk,trivial⟩
theorem qZ{x:List UInt8}:Kp Any n (yz x):=by
 refine⟨fun E s a s' _ hk h=>?_⟩;unfold yz at h;split at h <;> cases h <;> exact⟨hk,trivial⟩
theorem jL:Kp Any n YH:=by
 refine⟨fun E s a s' _ hk h=>?_⟩;cases h;exact⟨hk,trivial⟩
theorem kL{l:List (List UInt8)}:Kp Any n (XO l):=by
 refine⟨fun E s a s' _ hk h=>?_⟩;cases h;exact⟨hk,trivial⟩
theorem js:Kp Any n jz:=by
 refine⟨fun E s a s' _ hk h=>?_⟩;cases h;exact⟨hk,trivial⟩
theorem jM:Kp Any n Zt:=by
 refine⟨fun E s a s' _ hk h=>?_⟩;cases h;exact⟨hk,trivial⟩
theorem jq{k:Int}:Kp Any n (ze3 k):=by
 refine⟨fun E s a s' _ hk h=>?_⟩;cases h;exact⟨hk,trivial⟩
theorem ky{α:Type}{Q:α->Prop}:Kp Q n (zhP (α:=α)):=by
 refine⟨fun E s a s' _ hk h=>?_⟩;cases h
theorem qQ{kind:Nat}{text:List UInt8}{m at_:Int}{kids:List Int}(hl:kids.length<=n+8):Kp Any n (zY kind text m at_ kids):=by
 refine⟨fun E s a s' _ hk h=>?_⟩;cases h;refine⟨fun x hx=>?_,trivial⟩;rcases wM.1 hx with hx|hx
 ·exact hk x hx
 ·rw[wU] at hx;rw[hx];exact hl
structure zmd(n:Nat)(R:xU):Prop where
 expr:Kp Any n R.expr
 unary:Kp Any n R.unary
 bin2:Kp Any n R.bin2
 block:Kp Any n R.block
 branch:Kp Any n R.branch
 kind:Kp Any n R.kind
 pattern:Kp Any n R.pattern
theorem zct{part:PM Int}(hp:Kp Any n part):∀(k:Nat) (acc:List Int),Kp (xj (acc.length+k)) n (vL k part acc)
 |0,_=>by
  refine⟨fun E s a s' _ _ h=>?_⟩;cases h
 |k+1,acc=>by
  unfold vL;refine Kp.bind hp (fun x _=>Kp.bind qZ (fun b _=>Kp.ite ?_ (Kp.pure ?_)))
  ·have:=zct hp k (acc ++ [x]);rw[pG] at this;rw[show acc.length+(k+1)=acc.length+[x].length+k by simp only[pK];omega];exact this
  ·simp only[xj,pG,pK];omega
theorem za9{part:PM Int}(hp:Kp Any n part):Kp (xj (n+1)) n (vZ part):=by
 refine⟨fun E s a s' hE hk h=>?_⟩;have:=(zct hp (E.toks.length+1) []).out _ _ _ _ hE hk h;refine⟨this.1,?_⟩;have h2:=this.2;simp only[xj,wC] at h2 ⊢;omega
theorem Ya{part:PM Int}(hp:Kp Any n part):Kp (xj (n+1)) n (jf part):=by
 unfold jf;exact Kp.bind yL (fun _ _=>Kp.bind (za9 hp) (fun l hl=>Kp.bind yL (fun _ _=>Kp.pure hl)))
theorem yg{part:PM Int}(hp:Kp Any n part):Kp (xj (n+1)) n (jx part):=by
 unfold jx;refine Kp.bind qZ (fun b _=>Kp.ite (Kp.bind (za9 hp) (fun l hl=>Kp.bind yL (fun _ _=>Kp.pure hl))) (Kp.pure ?_));simp[xj]
theorem yw{part:PM Int}{w:List (List UInt8)}(hp:Kp Any n part):Kp (xj (n+1)) n (do if <-XO w then pure [] else vZ part:PM (List Int)):=by
 refine Kp.bind kL (fun b _=>Kp.ite (Kp.pure ?_) (za9 hp));simp[xj]
variable {R:xU} (hR:zmd n R)
include hR
theorem zce:Kp Any n (Zb R):=by
 unfold Zb
 repeat' (first|exact yL|exact qT|exact qZ|exact jL|exact kL|exact js|exact jM|exact jq|exact ky|exact hR.expr|exact hR.unary|exact hR.bin2|exact hR.block|exact hR.branch|exact hR.kind|exact hR.pattern|exact yg hR.expr|exact yg hR.kind|exact yg hR.pattern|exact yw hR.expr|exact yw hR.kind|(refine qQ ?_;first|(simp;done)|(simp[xj] at *;omega))|apply Kp.bind|intro _ _|refine Kp.ite ?_ ?_|exact Kp.pure trivial)
theorem zjJ:Kp Any n (QM R):=by
 unfold QM
 repeat' (first|exact yL|exact qT|exact qZ|exact jL|exact kL|exact js|exact jM|exact jq|exact ky|exact hR.expr|exact hR.unary|exact hR.bin2|exact hR.block|exact hR.branch|exact hR.kind|exact hR.pattern|exact yg hR.expr|exact yg hR.kind|exact yg hR.pattern|exact yw hR.expr|exact yw hR.kind|(refine qQ ?_;first|(simp;done)|(simp[xj] at *;omega))|apply Kp.bind|intro _ _|refine Kp.ite ?_ ?_|exact Kp.pure trivial)
theorem zfj:Kp (xj (n+2)) n (Ym R):=by
 unfold Ym;refine Kp.bind yL (fun _ _=>Kp.bind (yw (zce hR)) (fun l hl=>Kp.bind yL (fun _ _=>Kp.bind yL (fun _ _=>Kp.bind hR.kind (fun k _=>Kp.pure ?_)))));simp only[xj,pG,pK] at hl ⊢;omega
theorem zjH:Kp Any n (QV R):=by
 unfold QV
 repeat' (first|exact yL|exact qT|exact qZ|exact jL|exact kL|exact js|exact jM|exact jq|exact ky|exact hR.expr|exact hR.unary|exact hR.bin2|exact hR.block|exact hR.branch|exact hR.kind|exact hR.pattern|exact yg hR.expr|exact yg hR.kind|exact yg hR.pattern|exact yw hR.expr|exact yw hR.kind|(refine qQ ?_;first|(simp;done)|(simp[xj] at *;omega))|apply Kp.bind|intro _ _|refine Kp.ite ?_ ?_|exact Kp.pure trivial)
theorem zji:Kp Any n (Yk R):=by
 unfold Yk
 repeat' (first|exact yL|exact qT|exact qZ|exact jL|exact kL|exact js|exact jM|exact jq|exact ky|exact hR.expr|exact hR.unary|exact hR.bin2|exact hR.block|exact hR.branch|exact hR.kind|exact hR.pattern|exact yg hR.expr|exact yg hR.kind|exact yg hR.pattern|exact yw hR.expr|exact yw hR.kind|(refine qQ ?_;first|(simp;done)|(simp[xj] at *;omega))|apply Kp.bind|intro _ _|refine Kp.ite ?_ ?_|exact Kp.pure trivial)
theorem zbP:∀(k:Nat) (acc:List Int),Kp (fun x:List Int×Int=>x.1.length<=acc.length+k) n (qP R k acc)
 |0,_=>by
  refine⟨fun E s a s' _ _ h=>?_⟩;cases h
 |k+1,acc=>by
  unfold qP;refine Kp.bind kL (fun b _=>Kp.ite (Kp.pure (by simp)) (Kp.bind (zji hR) (fun x _=>?_)));have hs:=zbP k (acc ++ [x.1]);rw[pG,pK,show acc.length+1+k=acc.length+(k+1) by omega] at hs;refine Kp.bind kL (fun b _=>Kp.ite (Kp.pure ?_) (Kp.bind yL (fun _ _=>hs)));simp only[pG,pK];omega
theorem ziA:Kp Any n (ZN R):=by
 unfold ZN;refine Kp.bind yL (fun t _=>Kp.bind (Q:=fun x:List Int×Int=>x.1.length<=n+1) ?_ (fun x hx=>Kp.bind yL (fun _ _=>qQ (by omega))));refine⟨fun E s a s' hE hk h=>?_⟩;have:=(zbP hR (E.toks.length+1) []).out _ _ _ _ hE hk h;refine⟨this.1,?_⟩;have h2:=this.2;simp only[wC] at h2;omega
omit hR in
theorem zhQ{tight:PM Int}(ht:Kp Any n tight)(lv:Nat):∀(k:Nat) (left:Int),Kp Any n (Vj lv tight k left)
 |0,_=>by
  refine⟨fun E s a s' _ _ h=>?_⟩;cases h
 |k+1,left=>by
  unfold Vj;refine Kp.bind kL (fun b _=>Kp.ite (Kp.bind jM (fun t _=>Kp.bind ht (fun r _=>Kp.bind (qQ (by simp only[pN,wC];omega)) (fun x _=>Kp.ite (Kp.pure trivial) (zhQ ht lv k x))))) (Kp.pure trivial))
omit hR in
theorem KO{tight:PM Int}(ht:Kp Any n tight)(lv:Nat):Kp Any n (ZD lv tight):=by
 unfold ZD;refine Kp.bind ht (fun l _=>?_);refine⟨fun E s a s' hE hk h=>?_⟩;exact (zhQ ht lv _ l).out _ _ _ _ hE hk h
theorem zeR:∀(k:Nat) (first:Bool) (acc:List Int),Kp (xj (acc.length+k)) n (jy R k first acc)
 |0,_,acc=>by
  unfold jy;exact Kp.pure (by simp[xj])
 |k+1,first,acc=>by
  unfold jy;refine Kp.bind (Q:=Any) (Kp.ite (Kp.pure trivial) (Kp.bind yL (fun _ _=>Kp.pure trivial))) (fun _ _=>Kp.bind hR.expr (fun x _=>?_));have hs:=zeR k false (acc ++ [x]);rw[pG,pK,show acc.length+1+k=acc.length+(k+1) by omega] at hs;exact hs
theorem zi6(t:xQ)(w:Nat×Int)(hw:w.2<=3):Kp Any n (kX R t w):=by
 unfold kX;refine Kp.bind (Q:=xj 3) ?_ (fun l hl=>qQ (by simp only[xj] at hl;omega));refine Kp.ite (Kp.bind hR.unary (fun x _=>Kp.pure (by simp[xj]))) (Kp.ite (Kp.bind yL (fun _ _=>Kp.bind (zeR hR w.2.toNat true []) (fun l hl=>Kp.bind yL (fun _ _=>Kp.pure ?_)))) (Kp.pure (by simp[xj])));simp only[xj,wC] at hl ⊢;omega
theorem zk1:Kp Any n (zcf R):=by
 unfold zcf
 repeat' (first|exact yL|exact qT|exact qZ|exact jL|exact kL|exact js|exact jM|exact jq|exact ky|exact hR.expr|exact hR.unary|exact hR.bin2|exact hR.block|exact hR.branch|exact hR.kind|exact hR.pattern|exact yg hR.expr|exact yg hR.kind|exact yg hR.pattern|exact yw hR.expr|exact yw hR.kind|(refine qQ ?_;first|(simp;done)|(simp[xj] at *;omega))|apply Kp.bind|intro _ _|refine Kp.ite ?_ ?_|exact Kp.pure trivial)
theorem zls:Kp Any n (zcg R):=by
 unfold zcg
 repeat' (first|exact yL|exact qT|exact qZ|exact jL|exact kL|exact js|exact jM|exact jq|exact ky|exact hR.expr|exact hR.unary|exact hR.bin2|exact hR.block|exact hR.branch|exact hR.kind|exact hR.pattern|exact yg hR.expr|exact yg hR.kind|exact yg hR.pattern|exact yw hR.expr|exact yw hR.kind|(refine qQ ?_;first|(simp;done)|(simp[xj] at *;omega))|apply Kp.bind|intro _ _|refine Kp.ite ?_ ?_|exact Kp.pure trivial)
theorem zeO:∀(k:Nat) (acc:List Int),Kp (xj (acc.length+k)) n (Yj R k acc)
 |0,_=>by
  refine⟨fun E s a s' _ _ h=>?_⟩;cases h
 |k+1,acc=>by
  unfold Yj;have hs:∀r:Int,Kp (xj (acc.length+(k+1))) n (Yj R k (acc ++ [r])):=fun r=>by
   have hs:=zeO k (acc ++ [r]);rw[pG,pK,show acc.length+1+k=acc.length+(k+1) by omega] at hs;exact hs
  have hp:∀r:Int,Kp (xj (acc.length+(k+1))) n (pure (acc ++ [r]):PM (List Int)):=fun r=>Kp.pure (by simp only[xj,pG,pK];omega)
  repeat' (first|exact hs _|exact hp _|exact yL|exact qT|exact qZ|exact jL|exact hR.expr|(refine qQ ?_;first|(simp;done)|(simp[xj] at *;omega))|apply Kp.bind|intro _ _|refine Kp.ite ?_ ?_)
theorem zfR:Kp (xj (n+1)) n (vY R):=by
 unfold vY;refine Kp.bind yL (fun t _=>Kp.bind (Q:=xj (n+1)) ?_ (fun l hl=>Kp.bind yL (fun _ _=>Kp.pure hl)));refine⟨fun E s a s' hE hk h=>?_⟩;have:=(zeO hR (E.toks.length+1) []).out _ _ _ _ hE hk h;refine⟨this.1,?_⟩;have h2:=this.2;simp only[xj,wC] at h2 ⊢;omega
theorem zap:Kp Any n (vh R):=by
 unfold vh
 repeat' (first|exact yL|exact qT|exact qZ|exact jL|exact kL|exact js|exact jM|exact jq|exact ky|exact hR.expr|exact hR.unary|exact hR.bin2|exact hR.block|exact hR.branch|exact hR.kind|exact hR.pattern|exact yg hR.expr|exact yg hR.kind|exact yg hR.pattern|exact yw hR.expr|exact yw hR.kind|(refine qQ ?_;first|(simp;done)|(simp[xj] at *;omega))|apply Kp.bind|intro _ _|refine Kp.ite ?_ ?_|exact Kp.pure trivial)
theorem YR(t:xQ):Kp Any n (ql R t):=by
 unfold ql;refine Kp.bind kL (fun _ _=>Kp.ite (zap hR) ?_)
 repeat' (first|exact yL|exact qT|exact qZ|exact hR.expr|exact hR.block|exact hR.kind|exact Ya (zls hR)|exact Ya (zk1 hR)|exact zfj hR|exact zfR hR|(refine qQ ?_;first|(simp;done)|(simp[xj] at *;omega))|apply Kp.bind|intro _ _|refine Kp.ite ?_ ?_)
omit hR in
theorem zfB{s:List UInt8}{w:Nat×Int}(h:kS s=some w):w.2<=3:=by
 unfold kS at h;cases hf:zJ.find? (fun w=>w.1 == s) with
 |none=>rw[hf] at h;cases h
 |some x=>
  rw[hf] at h;cases h;have:=List.mem_of_find?_eq_some hf;revert x;intro x _ hx;have:∀y∈zJ,y.2.2<=3:=by decide
  exact this x hx
theorem zj0:Kp Any n (Yn R):=by
 unfold Yn;refine Kp.bind jL (fun t _=>?_)
 repeat' (first|exact yL|exact qZ|exact js|exact hR.expr|exact yg hR.expr|exact YR hR _|exact Kp.pure trivial|(refine qQ ?_;first|(simp;done)|(simp[xj] at *;omega))|apply Kp.bind|intro _ _|refine Kp.ite ?_ ?_)
 split
 ·rename_i w hw;refine Kp.ite (Kp.bind js (fun _ _=>zi6 hR t w (zfB hw))) (YR hR t)
 ·exact YR hR t
theorem ze2:∀(k:Nat) (left:Int),Kp Any n (Yl R k left)
 |0,_=>by
  refine⟨fun E s a s' _ _ h=>?_⟩;cases h
 |k+1,left=>by
  unfold Yl;have hs:∀r:Int,Kp Any n (Yl R k r):=fun r=>ze2 k r
  repeat' (first|exact hs _|exact yL|exact qT|exact qZ|exact jL|exact yw hR.expr|exact Kp.pure trivial|(refine qQ ?_;first|(simp;done)|(simp[xj] at *;omega))|apply Kp.bind|intro _ _|refine Kp.ite ?_ ?_)
theorem zbI:Kp Any n (Zm R):=by
 unfold Zm;refine Kp.bind kL (fun _ _=>Kp.ite ?_ ?_)
 ·repeat' (first|exact yL|exact qT|exact qZ|exact jL|exact kL|exact js|exact jM|exact jq|exact ky|exact hR.expr|exact hR.unary|exact hR.bin2|exact hR.block|exact hR.branch|exact hR.kind|exact hR.pattern|exact yg hR.expr|exact yg hR.kind|exact yg hR.pattern|exact yw hR.expr|exact yw hR.kind|(refine qQ ?_;first|(simp;done)|(simp[xj] at *;omega))|apply Kp.bind|intro _ _|refine Kp.ite ?_ ?_|exact Kp.pure trivial)
 ·refine Kp.bind (zj0 hR) (fun l _=>?_);refine⟨fun E s a s' hE hk h=>?_⟩;exact (ze2 hR _ l).out _ _ _ _ hE hk h
theorem zcI:Kp Any n (XF R):=by
 unfold XF;refine Kp.bind kL (fun _ _=>Kp.ite ?_ ?_)
 ·repeat' (first|exact yL|exact qT|exact qZ|exact jL|exact kL|exact js|exact jM|exact jq|exact ky|exact hR.expr|exact hR.unary|exact hR.bin2|exact hR.block|exact hR.branch|exact hR.kind|exact hR.pattern|exact yg hR.expr|exact yg hR.kind|exact yg hR.pattern|exact yw hR.expr|exact yw hR.kind|(refine qQ ?_;first|(simp;done)|(simp[xj] at *;omega))|apply Kp.bind|intro _ _|refine Kp.ite ?_ ?_|exact Kp.pure trivial)
 ·exact KO (KO (KO (zbI hR) 4) 3) 2
theorem zjW:Kp Any n (ziq R):=KO (KO (zcI hR) 1) 0
theorem zdU:Kp Any n (kN R):=by
 unfold kN
 repeat' (first|exact yL|exact qT|exact qZ|exact jL|exact kL|exact js|exact jM|exact jq|exact ky|exact hR.expr|exact hR.unary|exact hR.bin2|exact hR.block|exact hR.branch|exact hR.kind|exact hR.pattern|exact yg hR.expr|exact yg hR.kind|exact yg hR.pattern|exact yw hR.expr|exact yw hR.kind|(refine qQ ?_;first|(simp;done)|(simp[xj] at *;omega))|apply Kp.bind|intro _ _|refine Kp.ite ?_ ?_|exact Kp.pure trivial)
omit hR in
theorem ZC:∀k:Nat,zmd n (YE k)
 |0=>⟨⟨fun _ _ _ _ _ _ h=>by (cases h)⟩,⟨fun _ _ _ _ _ _ h=>by (cases h)⟩,⟨fun _ _ _ _ _ _ h=>by (cases h)⟩,⟨fun _ _ _ _ _ _ h=>by (cases h)⟩,⟨fun _ _ _ _ _ _ h=>by (cases h)⟩,⟨fun _ _ _ _ _ _ h=>by (cases h)⟩,⟨fun _ _ _ _ _ _ h=>by (cases h)⟩⟩
 |k+1=>⟨zjW (ZC k),zbI (ZC k),zcI (ZC k),ziA (ZC k),zap (ZC k),zjH (ZC k),zdU (ZC k)⟩
theorem zjL:Kp Any n (Xq R):=by
 unfold Xq
 repeat' (first|exact yL|exact qT|exact qZ|exact jL|exact hR.expr|exact hR.block|exact hR.kind|exact Ya (zce hR)|exact Ya (zjJ hR)|exact zfj hR|(refine qQ ?_;first|(simp;done)|(simp[xj] at *;omega))|apply Kp.bind|intro _ _|refine Kp.ite ?_ ?_)
end
theorem zcz{R:xU}(hR:yO R):Gd 1 Vd (Xq R):=by
 intro E s a s' h0 hw h;have N:=Nx.refl h0 hw;unfold Xq at h;obtain⟨t,s0,h1,h⟩:=zy h;cases h1;obtain⟨a1,sa1,ha1,h⟩:=zy h;have na1:=Zf N.le N.wf ha1;replace N:=N.trans na1;cases a1 with
 |true=>
  rw[if_pos rfl] at h;obtain⟨m,sm,hm,h⟩:=zy h;obtain⟨nm,vm⟩:=(yo (by decide)) N.le N.wf hm;replace N:=N.trans nm;obtain⟨l,sl,hl,h⟩:=zy h;obtain⟨nl,vl⟩:=(jG (uH hR)) N.le N.wf hl;replace N:=N.trans nl;obtain⟨nz,vz⟩:=zP N.le N.wf (vl) h;exact⟨(N.trans nz).down (by decide),vz⟩
 |false=>
 rw[if_neg (by decide)] at h;obtain⟨a2,sa2,ha2,h⟩:=zy h;have na2:=Zf N.le N.wf ha2;replace N:=N.trans na2;cases a2 with
 |true=>
  rw[if_pos rfl] at h;obtain⟨m,sm,hm,h⟩:=zy h;obtain⟨nm,vm⟩:=(yo (by decide)) N.le N.wf hm;replace N:=N.trans nm;obtain⟨l,sl,hl,h⟩:=zy h;obtain⟨nl,vl⟩:=(jG (zbb hR)) N.le N.wf hl;replace N:=N.trans nl;obtain⟨nz,vz⟩:=zP N.le N.wf (vl) h;exact⟨(N.trans nz).down (by decide),vz⟩
 |false=>
 rw[if_neg (by decide)] at h;obtain⟨a3,sa3,ha3,h⟩:=zy h;have na3:=Zf N.le N.wf ha3;replace N:=N.trans na3;cases a3 with
 |true=>
  rw[if_pos rfl] at h;obtain⟨q,sq,hq,h⟩:=zy h;obtain⟨nq,vq⟩:=zq N.le N.wf hq;replace N:=N.trans nq;obtain⟨m,sm,hm,h⟩:=zy h;obtain⟨nm,vm⟩:=(yo (by decide)) N.le N.wf hm;replace N:=N.trans nm;obtain⟨l,sl,hl,h⟩:=zy h;obtain⟨nl,vl⟩:=(Zk hR) N.le N.wf hl;replace N:=N.trans nl;obtain⟨r,sr,hr,h⟩:=zy h;obtain⟨nr,vr⟩:=zq N.le N.wf hr;replace N:=N.trans nr;replace vl:=vl.later nr;obtain⟨nz,vz⟩:=zP N.le N.wf (vl) h;exact⟨(N.trans nz).down (by decide),vz⟩
 |false=>
 rw[if_neg (by decide)] at h;obtain⟨a4,sa4,ha4,h⟩:=zy h;have na4:=Zf N.le N.wf ha4;replace N:=N.trans na4;cases a4 with
 |true=>
  rw[if_pos rfl] at h;obtain⟨m,sm,hm,h⟩:=zy h;obtain⟨nm,vm⟩:=(yo (by decide)) N.le N.wf hm;replace N:=N.trans nm;obtain⟨q,sq,hq,h⟩:=zy h;obtain⟨nq,vq⟩:=zq N.le N.wf hq;replace N:=N.trans nq;obtain⟨k,sk,hk,h⟩:=zy h;obtain⟨nk,vk⟩:=hR.kind N.le N.wf hk;replace N:=N.trans nk;obtain⟨r,sr,hr,h⟩:=zy h;obtain⟨nr,vr⟩:=zq N.le N.wf hr;replace N:=N.trans nr;replace vk:=vk.later nr;obtain⟨x,sx,hx,h⟩:=zy h;obtain⟨nx,vx⟩:=hR.expr N.le N.wf hx;replace N:=N.trans nx;replace vk:=vk.later nx;obtain⟨y,sy,hy,h⟩:=zy h;obtain⟨ny,vy⟩:=zq N.le N.wf hy;replace N:=N.trans ny;replace vk:=vk.later ny;replace vx:=vx.later ny;obtain⟨nz,vz⟩:=zP N.le N.wf (Jj vk (Yd vx)) h;exact⟨(N.trans nz).down (by decide),vz⟩
 |false=>
 rw[if_neg (by decide)] at h;obtain⟨b,sb,hb,h⟩:=zy h;obtain⟨nb,_⟩:=zjC N.le N.wf hb;replace N:=N.trans nb;obtain⟨q,sq,hq,h⟩:=zy h;obtain⟨nq,vq⟩:=zq N.le N.wf hq;replace N:=N.trans nq;obtain⟨m,sm,hm,h⟩:=zy h;obtain⟨nm,vm⟩:=(yo (by decide)) N.le N.wf hm;replace N:=N.trans nm;obtain⟨l,sl,hl,h⟩:=zy h;obtain⟨nl,vl⟩:=(Zk hR) N.le N.wf hl;replace N:=N.trans nl;obtain⟨c,sc,hc,h⟩:=zy h;obtain⟨nc,vc⟩:=hR.block N.le N.wf hc;replace N:=N.trans nc;replace vl:=vl.later nc;obtain⟨nz,vz⟩:=zP N.le N.wf (vda vl vc) h;exact⟨(N.trans nz).down (by decide),vz⟩
structure zkw(n:Nat)(s:yI):Prop where
 kids:Kb (n+8) s
 wf:WFs s
 its:Jw s s.items
 nodes:s.nodes.length<=n
 len:s.items.length<=n
theorem QN{m n:Nat}:∀(k:Nat) (E:zI) (s s':yI),E.toks.length=n->s.next<=n->WFs s->Kb (n+8) s->Jw s s.items->s.nodes.length<=s.next->s.items.length<=s.next->Zc (YE m) k E s=.ok () s'->zkw n s'
 |0,_,_,_,_,_,_,_,_,_,_,h=>by cases h
 |k+1,E,s,s',hE,h0,hw,hk,hi,hn,hl,h=>by
  unfold Zc at h;split at h
  ·rename_i hlt;cases hm:Xq (YE m) E s with
   |bad p=>rw[hm] at h;cases h
   |ok i s1=>
    rw[hm] at h;dsimp only at h;obtain⟨N,v⟩:=zcz (jT m) (Nat.le_of_lt hlt) hw hm;have hk1:=((zjL (ZC (n:=n) m)).out _ _ _ _ hE hk hm).1;have hcr:=N.cr;have hle:=N.le;have hnx:=N.next;have hit:=N.it;obtain⟨q,hq⟩:=N.pre;have hql:s.nodes.length<=s1.nodes.length:=by rw[hq,pG];omega
    refine QN k E {s1 with items:=s1.items ++ [i]} s' hE (by dsimp only;omega) N.wf hk1 ?_ (by dsimp only;omega) ?_ h
    ·intro x hx;dsimp only at hx;rw[hit] at hx;rcases wM.1 hx with hx|hx
     ·exact show Vd s1 x from (hi x hx).later N
     ·rw[wU] at hx;rw[hx];exact v
    ·dsimp only;rw[hit,pG,pK];omega
  ·cases h;exact⟨hk,hw,hi,by omega,by omega⟩
theorem zaS{l:List xQ}{len:Nat}{s:yI}(h:vK l len=.ok () s):zkw l.length s:=
 QN (n:=l.length) _ ⟨l,len⟩ _ _ rfl (pV _) (fun i x hx=>by simp at hx) (fun x hx=>by cases hx) (fun x hx=>by cases hx) (pF _) (pF _) h
theorem zg6{s:List UInt8}{k:Nat}{t:List UInt8}{m:Nat}(h:xd s=some (k,t,m))(hk:k=3):jR t=true:=by
 unfold xd at h;split at h
 ·cases h
 ·rename_i c r;dsimp only at h;split at h
  ·split at h
   ·injection h with h;injection h with h _;split at h <;> omega
   ·cases h
  ·split at h
   ·split at h
    ·injection h with h;injection h with h _;omega
    ·cases h
   ·split at h
    ·split at h
     ·rename_i hn;injection h with h;injection h with _ h;injection h with h _;rw[<-h];exact hn
     ·cases h
    ·split at h
     ·cases hq:jk (c :: r) with
      |none=>rw[hq] at h;cases h
      |some x=>
       rw[hq] at h;injection h with h;injection h with h _;omega
     ·cases hq:yb.find? (fun g=>qd g (c :: r)) with
      |none=>rw[hq] at h;cases h
      |some x=>
       rw[hq] at h;injection h with h;injection h with h _;omega
theorem zbW:∀(f n at_:Nat) (r:List UInt8),n<=1200->(∀t∈(ZA f n at_ r).1,t.kind=3->jR t.text=true)/\n+(ZA f n at_ r).1.length<=1200
 |0,_,_,_,hn=>by
  unfold ZA;exact⟨fun t ht=>by (cases ht),hn⟩
 |f+1,n,at_,r,hn=>by
  unfold ZA;dsimp only;split
  ·exact⟨fun t ht=>by (cases ht),hn⟩
  ·split
   ·exact⟨fun t ht=>by (cases ht),hn⟩
   ·rename_i k t m h1;split
    ·exact⟨fun t ht=>by (cases ht),hn⟩
    ·rename_i hne;split
     ·have ih:=zbW f (n+1) (at_+zT false r+m) (r.drop (zT false r) |>.drop m) (by omega);refine⟨fun x hx hk=>?_,?_⟩
      ·rcases pS.1 hx with rfl|hx
       ·exact zg6 h1 hk
       ·exact ih.1 x hx hk
      ·have:=ih.2;simp only[pN];omega
     ·exact⟨fun t ht=>by (cases ht),hn⟩
theorem zb4(s:List UInt8):(∀t∈(jp s).1,t.kind=3->jR t.text=true)/\(jp s).1.length<=1200:=by
 unfold jp;split
 ·exact⟨fun t ht=>by (cases ht),pV _⟩
 ·have:=zbW (s.length+1) 0 0 s (by omega);rw[Nat.zero_add] at this;exact this
def YA(k:Nat)(t:List UInt8):List UInt8×Nat:=
 if k=4 then (if (xr t).2=0 then ((xr t).1,0) else ([],4)) else
 if t=[]\/20<t.length\/t.head? =some 34 then ([],4) else
 match xd t with
 |some (k',_,n)=>if n=t.length/\k'=k then (t,0) else ([],4)
 |none=>([],4)
end Lode
namespace Go.Proofs.YtcagibbaeageoaaGreatDoor
section
open Go.RowKit Lode Go.Shelf
open Go.Proofs.Tryz
theorem zad{c:UInt8}(h:zM c=true):ju c=true/\c≠10/\c≠35/\c≠32/\c≠34:=by
 simp only[zM,pI,pH] at h;refine⟨by simp[ju];omega,?_,?_,?_,?_⟩ <;> (rintro rfl;revert h;decide)
theorem zjM{c:UInt8}(h:kZ c=true):ju c=true/\c≠10/\c≠35/\c≠32/\c≠34:=by
 simp only[kZ,pI,pH] at h;refine⟨by simp[ju];omega,?_,?_,?_,?_⟩ <;> (rintro rfl;revert h;decide)
theorem Qr{c:UInt8}(h:zL c=true):ju c=true/\c≠10/\c≠35/\c≠32/\c≠34:=by
 simp only[zL,pI,pH] at h;refine⟨by simp[ju];omega,?_,?_,?_,?_⟩ <;> (rintro rfl;revert h;decide)
theorem zeE{p q:UInt8->Bool}(h:∀c,p c=true->q c=true):∀l:List UInt8,l.all p=true->l.all q=true:=by
 intro l hl;rw[pZ] at hl ⊢;exact fun c hc=>h c (hl c hc)
theorem zfP:∀g,g∈yb->g.all ju=true/\g.length<=2/\∃c r,g=c :: r/\c≠10/\c≠35/\c≠32/\c≠34:=by
 intro g hg;simp only[yb,pS,pR,or_false] at hg;rcases hg with rfl|rfl|rfl|rfl|rfl|rfl|rfl|rfl|rfl|rfl|rfl|rfl|rfl|rfl|rfl|rfl|rfl|rfl|rfl|rfl|rfl|rfl|rfl|rfl|rfl <;> exact⟨by decide,by decide,_,_,rfl,by decide,by decide,by decide,by decide⟩
theorem Ks:∀(g r:List UInt8),qd g r=true->r.take g.length=g
 |[],_,_=>by simp
 |_ :: _,[],h=>by simp[qd] at h
 |a :: g,b :: r,h=>by
  simp only[qd,pI,pH] at h;simp[h.1,Ks g r h.2]
theorem ze6{l:List UInt8}(h:jR l=true):l.length<=10:=by
 simp only[jR,pI,Bool.not_eq_true',pH,wH] at h;obtain⟨⟨⟨h1,h2⟩,h3⟩,h4⟩:=h;cases l with
 |nil=>simp
 |cons c l=>
  rcases h4 with h4|h4
  ·omega
  ·simp only[List.head?_cons] at h4;have hc:c≠48:=fun e=>by subst e;simp at h4
   simp only[List.all_cons,pI] at h2;have hd:=(jh c).1 h2.1;have h49:49<=c.toNat:=by
    rcases Nat.lt_or_ge c.toNat 49 with h|h
    ·exfalso;apply hc;apply UInt8.toNat_inj.1;have:(48:UInt8).toNat=48:=rfl;omega
    ·exact h
   have:=zc6 c l h49;rw[vv] at h3;have hp:10 ^ l.length<=10 ^ 9:=by omega
   have:=(Nat.pow_le_pow_iff_right (by omega:1<10)).1 hp;simp;omega
theorem zda{c:UInt8}{r:List UInt8}{k m:Nat}{x:List UInt8}(h:xd (c :: r)=some (k,x,m))(hk:k≠4):
 x=(c :: r).take m/\((c :: r).take m).all ju=true/\m<=20/\c≠10/\c≠35/\c≠32/\c≠34:=by
 have sd:∀c,(zM c || zL c)=true->ju c=true:=fun c h=>by
  rw[wH] at h;rcases h with h|h
  ·exact (zad h).1
  ·exact (Qr h).1
 simp only[xd] at h;split at h
 ·rename_i hs;have hb:=zad hs;split at h
  ·rename_i hn;cases h;refine⟨rfl,?_,by omega,hb.2⟩;rw[Nat.add_comm,List.take_succ_cons,List.all_cons,hb.1,zeE sd _ (Zz _ r)];rfl
  ·cases h
 ·split at h
  ·rename_i hs;have hb:=zjM hs;split at h
   ·rename_i hn;cases h;refine⟨rfl,?_,by omega,hb.2⟩;rw[Nat.add_comm,List.take_succ_cons,List.all_cons,hb.1,zeE sd _ (Zz _ r)];rfl
   ·cases h
  ·split at h
   ·rename_i hs;have hb:=Qr hs;split at h
    ·rename_i hn;cases h;have hl:=ze6 hn;have hr:=uY zL r;refine⟨rfl,?_,by simp at hl;omega,hb.2⟩;rw[Nat.add_comm,List.take_succ_cons,List.all_cons,hb.1,zeE (fun c h=>(Qr h).1) _ (Zz _ r)];rfl
    ·cases h
   ·split at h
    ·cases hq:Lode.jk (c :: r) with
     |none=>rw[hq] at h;cases h
     |some y=>rw[hq] at h;cases h;exact absurd rfl hk
    ·rename_i h34;cases hg:yb.find? (fun g=>qd g (c :: r)) with
     |none=>rw[hg] at h;cases h
     |some g=>
      rw[hg] at h;cases h;have h1:=List.find?_some hg;obtain⟨g1,g2,d,q,rfl,g3⟩:=zfP _ (List.mem_of_find?_eq_some hg);have ht:=Ks _ _ h1;have hdc:d=c:=by
       simp only[qd,pI,pH] at h1;exact h1.1
      refine⟨ht.symm,by rw[ht];exact g1,by omega,?_⟩;rw[<-hdc];exact g3
theorem uu.pre{s:List UInt8}{r:List xQ×Nat×Nat}{L:List xQ}{a:Nat}(h:uu s r L a)(h0:r.2.2=0):∃M,r.1=L ++ M:=by
 obtain⟨a',f,_,_,_,_,e⟩:=h;generalize ZA f L.length a' (s.drop a')=x at e;subst e;unfold jX at h0 ⊢;by_cases hx:x.2.2=0
 ·rw[if_pos hx];exact⟨x.1,rfl⟩
 ·rw[if_neg hx] at h0;exact absurd h0 hx
theorem zdv{s:List UInt8}(h:(Lode.jp s).2.2=0):(xP s).2=0:=by
 unfold Lode.jp at h;split at h
 ·exact h
 ·rename_i hc;simpa using hc
theorem Qe{s:List UInt8}(h:(Lode.jp s).2.2=0){k:Nat}{t:List UInt8}(hr:(Lode.jp s).1=[⟨k,t,0⟩]):∃m,xd s=some (k,t,m):=by
 have hi:=uu.start (zdv h);have hg:=uL false s;rcases Nat.lt_or_ge (zT false s) s.length with hlt|hge
 ·cases ht:xd (s.drop (zT false s)) with
  |none=>have:=hi.bad hlt ht;rw[this] at h;cases h
  |some x=>
   obtain⟨k',t',m⟩:=x;obtain⟨M,hM⟩:=(hi.next hlt ht (by simp)).pre h;rw[hr] at hM;simp only[wP,wG,List.cons.injEq,xQ.mk.injEq] at hM;obtain⟨⟨rfl,rfl,h0⟩,_⟩:=hM;have h0:zT false s=0:=by omega
   rw[h0,List.drop_zero] at ht;exact⟨m,ht⟩
 ·have:=hi.done hge;rw[this] at hr;cases hr
theorem zin{c:UInt8}{r:List UInt8}(h1:c≠10)(h2:c≠35)(h3:c≠32):zT false (c :: r)=0:=by simp[zT,h1,h2,h3]
theorem zhB:Lode.jp []=([],0,0):=by decide +kernel
theorem zgr(k:Nat)(t:List UInt8):xB k t=YA k t:=by
 unfold xB YA;by_cases hk:k=4
 ·rw[if_pos hk,if_pos hk]
 ·rw[if_neg hk,if_neg hk];cases t with
  |nil=>rw[if_pos (Or.inl rfl),if_neg (by rintro ⟨h,_⟩;rw[zhB] at h;cases h)]
  |cons c r=>
   cases ht:xd (c :: r) with
   |none=>
    rw[if_neg (by rintro ⟨h1,h2⟩;obtain⟨m,h⟩:=Qe h2 h1;rw[ht] at h;cases h)];split <;> rfl
   |some x=>
    obtain⟨k',x,m⟩:=x;have hw:=vu ht;by_cases h4:k'=4
    ·rw[if_neg (by rintro ⟨h1,h2⟩;obtain⟨m,h⟩:=Qe h2 h1;rw[ht] at h;cases h;exact hk h4)];split
     ·rfl
     ·show ([],4)=if m=(c :: r).length/\k'=k then (c :: r,0) else ([],4)
      rw[if_neg (by rintro ⟨_,h⟩;exact hk (h▸h4))]
    ·obtain⟨hx,hall,hm,hc⟩:=zda ht h4;by_cases hfit:m=(c :: r).length/\k'=k
     ·obtain⟨hm2,rfl⟩:=hfit;have htk:(c :: r).take m=c :: r:=by rw[hm2];exact List.take_length
      rw[htk] at hx hall;have hchk:(xP (c :: r)).2=0:=by
       unfold xP;rw[if_neg (by omega)];have:=YP (c :: r);rw[hall] at this;rw[of_decide_eq_true this]
      have hi:=uu.start hchk;rw[zin hc.1 hc.2.1 hc.2.2.1] at hi;have hn:=hi.next (by simp) (by rw[List.drop_zero];exact ht) (by simp);have hd:=hn.done (by rw[hm2];omega);rw[if_pos (by rw[hd,hx];exact⟨rfl,rfl⟩),if_neg (by
       rintro (h|h|h)
       ·cases h
       ·omega
       ·simp only[List.head?_cons,wN] at h;exact hc.2.2.2 h)]
      show (c :: r,0)=if m=(c :: r).length/\k'=k' then (c :: r,0) else ([],4)
      rw[if_pos ⟨hm2,rfl⟩]
     ·rw[if_neg (by
       rintro ⟨h1,h2⟩;obtain⟨m',h⟩:=Qe h2 h1;rw[ht] at h;cases h;apply hfit;refine⟨?_,rfl⟩;have:=congrArg List.length hx;rw[wZ] at this;omega)]
      split
      ·rfl
      ·show ([],4)=if m=(c :: r).length/\k'=k then (c :: r,0) else ([],4)
       rw[if_neg hfit]
end
end Go.Proofs.YtcagibbaeageoaaGreatDoor
namespace Lode
def jl(l:List Nd)(by_:Int):List Nd:=l.map fun x=>{x with kids:=x.kids.map fun k=>k+by_}
def vR(t:zU)(first last:Int):zU:=⟨jl ((t.nodes.drop first.toNat).take (last+1-first).toNat) (-first),[last-first]⟩
def YO(t:zU)(item:Int):Int:=if 0<item then t.items.getD (item-1).toNat 0+1 else 0
def zgD(t:zU)(item:Int):zU×Nat:=if yj t≠0 then (⟨[],[]⟩,yj t) else if item<0\/(t.items.length:Int)<=item then (⟨[],[]⟩,7) else
 (vR t (YO t item) (t.items.getD item.toNat 0),0)
def Kz(t:zU)(item:Int):Int:=t.items.getD item.toNat 0+1-((qi t.nodes t.nodes.length).getD (t.items.getD item.toNat 0).toNat 0:Nat)
def KH(t:zU)(item:Int):zU×Nat:=if xh t≠0 then (⟨[],[]⟩,xh t) else if item<0\/(t.items.length:Int)<=item then (⟨[],[]⟩,7) else
 (vR t (Kz t item) (t.items.getD item.toNat 0),0)
theorem zcA(l:List Nd){out:List Nat}:∀(rk:List Int) (p e:Int),Xz l out rk p=some e->(∀k,rk.head? =some k->k=p)/\(rk=[]->p=e)/\∀j,j<rk.length->rk.getD j 0-(out.getD (rk.getD j 0).toNat 0:Nat)=if j+1<rk.length then rk.getD (j+1) 0 else e
 |[],p,e,h=>by
  cases h;exact⟨fun k hk=>by (cases hk),fun _=>rfl,fun j hj=>absurd hj (pY _)⟩
 |k :: r,p,e,h=>by
  unfold Xz at h;split at h
  ·cases h
  ·rename_i hc;have hk0:0<=p/\k=p:=by omega
   obtain⟨h1,h2,h3⟩:=zcA l r _ e h;refine⟨fun q hq=>by (cases hq;exact hk0.2),fun hq=>by (cases hq),fun j hj=>?_⟩;cases j with
   |zero=>
    simp only[List.getD_cons_zero,pN];rw[hk0.2];cases r with
    |nil=>
     have:=h2 rfl;simp only[wC,Nat.lt_irrefl,Nat.zero_add,if_false];exact this
    |cons q r=>
     have:=h1 q rfl;simp only[pN,List.getD_cons_succ,List.getD_cons_zero];rw[if_pos (by omega)];exact this.symm
   |succ j=>
    have hj':j<r.length:=by simpa using hj
    have:=h3 j hj';simp only[List.getD_cons_succ,pN];rw[this];by_cases hjr:j+1<r.length
    ·rw[if_pos hjr,if_pos (by omega)]
    ·rw[if_neg hjr,if_neg (by omega)]
theorem Ky{t:zU}(h:xh t=0){item:Int}(hi:0<=item/\item<t.items.length):YO t item=Kz t item:=by
 have hf:kY t=true:=by
  unfold xh at h;split at h
  ·cases h
  ·split at h
   ·cases h
   ·rename_i hf;simpa using hf
 obtain⟨hF,hI,hR⟩:=jE hf;obtain⟨_,_,h3⟩:=zcA _ _ _ _ hI;obtain⟨i,rfl⟩:=pJ hi.1;have hi2:i<t.items.length:=by omega
 have hrev:∀j,j<t.items.length->t.items.reverse.getD j 0=t.items.getD (t.items.length-1-j) 0:=fun j hj=>by
  rw[pB,pB,List.getElem?_reverse hj]
 have h4:=h3 (t.items.length-1-i) (by rw[gF];omega);rw[hrev _ (by omega),show t.items.length-1-(t.items.length-1-i)=i by omega,gF] at h4;unfold YO Kz;rw[pO];by_cases h0:i=0
 ·subst h0;rw[if_neg (by omega)] at h4 ⊢;omega
 ·rw[if_pos (by omega)] at h4 ⊢;rw[hrev _ (by omega),show t.items.length-1-(t.items.length-1-i+1)=i-1 by omega] at h4;rw[show ((i:Int)-1).toNat=i-1 by omega];omega
theorem zlo{t:zU}(hm:∀x∈t.nodes,x.kids.length<=1000)(item:Int):zgD t item=KH t item:=by
 unfold zgD KH;rw[uR t hm];split
 ·rfl
 ·rename_i h;split
  ·rfl
  ·rename_i hi;rw[Ky (by simpa using h) (by omega)]
def k1:List UInt8:=[114,111,111,116,32,97,58,32,105,110,116,32,61,32,49,32,43,32,98,32,42,32,50,59]
def k2:List UInt8:=[102,117,110,32,102,40,41,58,117,110,105,116,123,40,103,41,40,40,49,41,41,59,125]
def k3:List UInt8:=[102,117,110,32,102,32,40,32,41,32,58,32,117,110,105,116,32,123,32,40,103,41,40,40,49,41,41,59,32,59,32,125]
def k4:List UInt8:=[114,111,111,116,32,99,58,32,99,104,97,110,32,105,110,116,32,61,32,99,104,97,110,32,105,110,116,40,57,41,59]
def k5:List UInt8:=[102,117,110,32,102,40,41,58,32,117,110,105,116,32,123,32,97,40,41,32,58,61,32,49,59,32,125]
def k6:List UInt8:=[102,117,110,32,102,40,41,58,32,117,110,105,116,32,123,32,40,84,41,40,49,41,59,32,45,32,45,97,59,32,40,116,104,114,111,119,32,97,41,46,102,59,32,40,110,111,116,32,97,41,32,61,61,32,98,32,125]
def k2o:List UInt8:=[102,117,110,32,102,40,41,58,32,117,110,105,116,32,123,32,103,40,49,41,59,32,125] ++ [10]
def k6o:List UInt8:=[102,117,110,32,102,40,41,58,32,117,110,105,116,32,123,32,40,84,41,40,49,41,59,32,45,32,45,97,59,32,40,116,104,114,111,119,32,97,41,46,102,59,32,40,110,111,116,32,97,41,32,61,61,32,98,32,125] ++ [10]
theorem kn1:(xf k1).2=(0,0):=by decide +kernel
theorem zmB:(xf k1).1.nodes.length=7:=by decide +kernel
theorem zmz:zdo (xf k1).1 5=(5,0):=by decide +kernel
theorem zmy:zaY (xf k1).1 4=(5,0):=by decide +kernel
theorem zmA:zhO (xf k1).1 3=([6,5,4,3],0):=by decide +kernel
theorem zmD:zbj (xf k1).1 20=(4,0):=by decide +kernel
theorem kn2:vX k2=(k2o,0,0):=by decide +kernel
theorem kn3:(vX k3).2=(29,4):=by decide +kernel
theorem kn4:(xf k4).2=(19,3):=by decide +kernel
theorem kn5:(xf k5).2=(20,4):=by decide +kernel
theorem kn6:(xf k6).2.2=0:=by decide +kernel
theorem zmu:YF (xf k6).1=(k6o,0):=by decide +kernel
def okB(t:zU):Bool:=(t.nodes.all fun x=>decide (x.kind<=255) && decide (x.text.length<=100) && decide (x.kids.length<=1000)) && decide (t.nodes.length<=1000) && decide (t.items.length<=1000)
theorem zmC:okB (xf k1).1=true:=by decide +kernel
theorem zmx:okB (xf k2).1=true:=by decide +kernel
theorem zmw:okB (xf k3).1=true:=by decide +kernel
theorem zmv:okB (xf k6).1=true:=by decide +kernel
end Lode
