/-
  A part of the proof: contracts of functions; no conditions.
-/
import Derived.Test.YtcagibbaeageoaaGreatDoorRD
set_option maxRecDepth 100000
set_option maxHeartbeats 40000000
set_option linter.unusedSimpArgs false
set_option linter.unusedVariables false
namespace Lode
theorem qA{l:List Nd}(h:xB l l.length){i:Nat}(hi:i<l.length):∀k∈(l[i]'hi).kids,0<=k/\k<i:=by
 obtain⟨p,hp,_,_⟩:=qN h hi;rw[glE hi] at hp;intro k hk;have:=Jj _ _ _ hp k (gI.2 hk);omega
theorem Ks{l:List Nd}{f:Nat}:∀(ks:List Int) (c:Int),(∀k∈ks,QE l f k=((qJ l l.length).getD k.toNat 0:Nat))->ks.foldl (fun n k=>n+QE l f k) c=c+(ks.map fun k=>(((qJ l l.length).getD k.toNat 0:Nat):Int)).sum
 |[],c,_=>by simp
 |k :: r,c,h=>by
  rw[List.foldl_cons,Ks r _ (fun j hj=>h j (wP _ hj)),h k (List.mem_cons_self ..),List.map_cons,List.sum_cons,Int.add_assoc]
theorem zax{out:List Nat}:∀(rk:List Int) (p e:Int),Xg out rk p=some e->(rk.map fun k=>((out.getD k.toNat 0:Nat):Int)).sum=p-e
 |[],p,e,h=>by cases h;simp
 |k :: r,p,e,h=>by
  unfold Xg at h;split at h
  ·cases h
  ·rename_i hc;have hk:k=p:=by omega
   have:=zax r _ e h;rw[List.map_cons,List.sum_cons,this,hk];omega
theorem Jk{l:List Nd}(h:xB l l.length):∀(i f:Nat),i<l.length->i<f->QE l f i=((qJ l l.length).getD i 0:Nat)
 |i,0,_,hf=>absurd hf (wD _)
 |i,f+1,hi,hf=>by
  obtain⟨p,hp,hsz,hpi⟩:=qN h hi;have hkid:=qA h hi;have hx:l[i]? =some l[i]:=glE hi;rw[hx] at hp;simp only[Option.elim] at hp;unfold QE;rw[pW,hx];simp only[Option.elim];rw[Ks _ _ (fun k hk=>?_)]
  ·have hs:=zax _ _ _ hp;rw[List.map_reverse,List.sum_reverse] at hs;rw[hs,hsz];omega
  ·obtain⟨h0,h1⟩:=hkid k hk;obtain⟨k',rfl⟩:=pN h0;rw[pW];exact Jk h k' f (by omega) (by omega)
termination_by i=>i
theorem KF{t:yl}(h:qS t=0):xB t.nodes t.nodes.length:=by
 unfold qS at h;split at h
 ·cases h
 ·split at h
  ·cases h
  ·rename_i hf;exact (vL (by simpa using hf)).1
section
variable (l:List Nd) (pr:Int→List UInt8)
def qy(x:Nd)(i:Nat):Bool:=
 if !zW (zw l (zt x i)) then false
 else if x.kind == 23 || (x.kind == 24 && i == 0) then decide (zv (zw l (zt x i))<8) || (x.kind == 24 && zw l (zt x i) == 25 && ((l[(zt x i).toNat]?).elim [] Nd.kids).isEmpty)
 else if x.kind == 24 then false
 else if x.kind == 7 then decide (zv (zw l (zt x i))<3)
 else if zv x.kind == 7 then decide (zv (zw l (zt x i))<7)
 else if zv x.kind == 4 then decide (zv (zw l (zt x i))<5)
 else if zv x.kind == 1 || zv x.kind == 2 || zv x.kind == 5 || zv x.kind == 6 then decide (zv (zw l (zt x i))<zv x.kind+i)
 else false
def yx(x:Nd)(i:Nat):List UInt8:=if qy l x i then [40] ++ pr (zt x i) ++ [41] else pr (zt x i)
def jt(x:Nd)(a b:Nat):List UInt8:=qc ((List.range' a (b-a)).map (yx l pr x))
def xW(k:Nat):List UInt8:=match zY k with
 |some s=>s
 |none=>(zK.find? fun w=>w.2.1 == k).elim [] (·.1)
def stR(last:Bool):Bool->List (List UInt8)->List UInt8
 |_,[]=>[]
 |first,s :: r=>(if first then [] else [32]) ++ s ++ (if r.isEmpty && last then [] else [59]) ++ stR last false r
def Zi(x:Nd):List UInt8:=if x.kids.length=0 then x.text else x.text ++ [40] ++ jt l pr x 0 x.kids.length ++ [41]
def ZB(x:Nd):List UInt8:=
 if x.kind == 100 then [99,108,97,115,115,32] ++ x.text ++ [32,123,32] ++ jt l pr x 0 x.kids.length ++ [32,125]
 else if x.kind == 101 then [107,105,110,100,32] ++ x.text ++ [32,123,32] ++ jt l pr x 0 x.kids.length ++ [32,125]
 else if x.kind == 103 then [101,120,116,101,114,110,32,102,117,110,32] ++ x.text ++ [40] ++ jt l pr x 0 (x.kids.length-1) ++ [41,58,32] ++ yx l pr x (x.kids.length-1) ++ [59]
 else if x.kind == 104 then [114,111,111,116,32] ++ x.text ++ [58,32] ++ yx l pr x 0 ++ [32,61,32] ++ yx l pr x 1 ++ [59]
 else (if x.n == 1 then [112,117,114,101,32] else []) ++ ([102,117,110,32] ++ x.text ++ [40] ++ jt l pr x 0 (x.kids.length-2) ++ [41,58,32] ++ yx l pr x (x.kids.length-2) ++ [32] ++ yx l pr x (x.kids.length-1))
def vO(x:Nd):List UInt8:=
 if x.kind == 80 then [105,110,116] else if x.kind == 81 then [98,111,111,108] else if x.kind == 82 then [116,101,120,116] else if x.kind == 83 then [117,110,105,116]
 else if x.kind == 84 then x.text
 else if x.kind == 86 then [99,104,97,110,32] ++ yx l pr x 0
 else if x.kind == 87 then [119,101,97,107,32] ++ yx l pr x 0
 else [102,110,40] ++ jt l pr x 0 (x.kids.length-1) ++ [41,58,32] ++ yx l pr x (x.kids.length-1)
def Jh(x:Nd):List UInt8:=
 if x.kind == 66 then x.text
 else if x.kind == 67 then Go.Lib.itoa x.n
 else if x.kind == 68 then (xr x.text).1
 else if x.kind == 69 then (if x.n == 1 then [116,114,117,101] else [102,97,108,115,101])
 else Zi l pr x
def ud(x:Nd):List UInt8:=
 if x.kind == 28 then (if x.kids.length=0 then [123,125] else [123,32] ++ stR (x.n != 0) true ((List.range x.kids.length).map (yx l pr x)) ++ [32,125])
 else if x.kind == 29 then [105,102,32] ++ yx l pr x 0 ++ [32] ++ yx l pr x 1 ++ (if x.kids.length == 3 then [32,101,108,115,101,32] ++ yx l pr x 2 else [])
 else if x.kind == 30 then [119,104,105,108,101,32] ++ yx l pr x 0 ++ [32] ++ yx l pr x 1
 else if x.kind == 31 then [109,97,116,99,104,32] ++ yx l pr x 0 ++ [32,123,32] ++ jt l pr x 1 x.kids.length ++ [32,125]
 else if x.kind == 33 then [102,110,40] ++ jt l pr x 0 (x.kids.length-2) ++ [41,58,32] ++ yx l pr x (x.kids.length-2) ++ [32] ++ yx l pr x (x.kids.length-1)
 else if x.kind == 34 then [116,114,121,32] ++ yx l pr x 0 ++ [32,99,97,116,99,104,32] ++ x.text ++ [32] ++ yx l pr x 1
 else if x.kind == 36 then [104,111,108,100,32] ++ yx l pr x 0 ++ [32,97,115,32] ++ x.text ++ [32] ++ yx l pr x 1 ++ [32,101,108,115,101,32] ++ yx l pr x 2
 else if x.kind == 35 then [115,101,108,101,99,116,32,123,32] ++ jt l pr x 0 x.kids.length ++ [32,125]
 else if x.kind == 63 then [114,101,99,118,32] ++ yx l pr x 0 ++ [32,97,115,32] ++ x.text ++ [32,61,62,32] ++ yx l pr x 1
 else if x.kind == 64 then [115,101,110,100,32] ++ yx l pr x 0 ++ [44,32] ++ yx l pr x 1 ++ [32,61,62,32] ++ yx l pr x 2
 else if x.kind == 65 then [101,108,115,101,32,61,62,32] ++ yx l pr x 0
 else Zi l pr x
def yZ(x:Nd):List UInt8:=
 if decide (100<=x.kind) && decide (x.kind<=104) then ZB l pr x
 else if decide (80<=x.kind) && decide (x.kind<=87) then vO l pr x
 else if decide (66<=x.kind) && decide (x.kind<=70) then Jh l pr x
 else if x.kind == 1 then Go.Lib.itoa x.n
 else if x.kind == 2 then (xr x.text).1
 else if x.kind == 3 then (if x.n == 1 then [116,114,117,101] else [102,97,108,115,101])
 else if x.kind == 4 then [40,41]
 else if x.kind == 5 then x.text
 else if x.kind == 6 then [45] ++ ((if (yx l pr x 0).head? == some 45 then [32] else []) ++ yx l pr x 0)
 else if x.kind == 7 then [110,111,116,32] ++ yx l pr x 0
 else if x.kind == 23 then yx l pr x 0 ++ [46] ++ x.text
 else if x.kind == 24 then yx l pr x 0 ++ [40] ++ jt l pr x 1 x.kids.length ++ [41]
 else if x.kind == 25 then Zi l pr x
 else if x.kind == 26 then [110,101,119,32] ++ x.text ++ [32,123,32] ++ jt l pr x 0 x.kids.length ++ [32,125]
 else if x.kind == 27 || x.kind == 88 then x.text ++ [58,32] ++ yx l pr x 0
 else if x.kind == 32 then yx l pr x 0 ++ [32,61,62,32] ++ yx l pr x 1
 else if x.kind == 37 || x.kind == 38 || x.kind == 39 then xW x.kind ++ [32] ++ yx l pr x 0
 else if x.kind == 44 || x.kind == 45 || x.kind == 46 then xW x.kind
 else if x.kind == 40 then [99,104,97,110,32] ++ yx l pr x 0 ++ [40] ++ Go.Lib.itoa x.n ++ [41]
 else if x.kind == 41 || x.kind == 42 || x.kind == 43 || x.kind == 47 || x.kind == 50 || x.kind == 51 || x.kind == 48 || x.kind == 49 then xW x.kind ++ [40] ++ jt l pr x 0 x.kids.length ++ [41]
 else if x.kind == 60 then [108,101,116,32] ++ x.text ++ [32,61,32] ++ yx l pr x 0
 else if x.kind == 61 then [118,97,114,32] ++ x.text ++ [32,61,32] ++ yx l pr x 0
 else if x.kind == 62 then yx l pr x 0 ++ [32,58,61,32] ++ yx l pr x 1
 else if xW x.kind != [] then yx l pr x 0 ++ [32] ++ xW x.kind ++ [32] ++ yx l pr x 1
 else ud l pr x
end
def yt(l:List Nd):Nat->Int->List UInt8
 |0,_=>[]
 |f+1,node=>match l[node.toNat]? with
  |some x=>yZ l (yt l f) x
  |none=>[]
def zbF(t:yl)(node:Int):List UInt8:=yt t.nodes (t.nodes.length+1) node
def XZ(s:List UInt8):List UInt8×Nat:=if 3000<s.length then ([],5) else if (ju s).2.2≠0 then ([],5) else (s,0)
def YO(t:yl):List UInt8×Nat:=if qS t≠0 then ([],qS t) else XZ (t.items.flatMap fun k=>zbF t k ++ [10])
section
variable {l:List Nd} {pr:Int→List UInt8} {x:Nd} {i:Nat}
theorem VR(h:qy l x i=false):yx l pr x i=pr (zt x i):=by
 unfold yx;rw[h];rfl
theorem kR{r:Nat}(h:qy l x i=decide (zv (zw l (zt x i))<r)):yx l pr x i=yz l pr (zt x i) r:=by
 unfold yx yz;rw[h];by_cases hr:zv (zw l (zt x i))<r <;> simp[hr]
theorem zej(h:zv x.kind=9)(i:Nat):qy l x i=false:=by
 have hn:∀j,zv j≠9->(x.kind == j)=false:=fun j hj=>by
  rw[pB];intro e;rw[e] at h;exact hj h
 unfold qy;rw[h,hn 23 (by decide),hn 24 (by decide),hn 7 (by decide)];generalize zW (zw l (zt x i))=b;generalize zv (zw l (zt x i))=r;cases b <;> simp
theorem zcs(h:zv x.kind=9)(i:Nat):yx l pr x i=pr (zt x i):=VR (zej h i)
theorem VD{α:Type}(f:Int->α)(ks:List Int):∀(a b:Nat),b<=ks.length->(List.range' a (b-a)).map (fun i=>f (ks.getD i 0))=((ks.take b).drop a).map f
 |a,b,hb=>by
  apply List.ext_getElem?;intro i;rw[wI,wI,List.getElem?_drop,List.getElem?_take];by_cases h:i<b-a
  ·rw[List.getElem?_range' h,if_pos (by omega),glE (show a+i<ks.length by omega)];simp[pC,glE (show a+i<ks.length by omega)]
  ·rw[wY (by simp;omega),if_neg (by omega)];rfl
theorem Vz{a b:Nat}(hb:b<=x.kids.length)(h:∀i,a<=i->yx l pr x i=pr (zt x i)):jt l pr x a b=yW pr ((x.kids.take b).drop a):=by
 unfold jt yW;rw[<-VD pr x.kids a b hb];congr 1;apply List.map_congr_left;intro i hi;rw[List.mem_range'_1] at hi;exact h i hi.1
theorem zkV(h:zv x.kind=9){a b:Nat}(hb:b<=x.kids.length):jt l pr x a b=yW pr ((x.kids.take b).drop a):=Vz hb fun i _=>zcs h i
theorem JO(h:zv x.kind=9){m:Nat}(hm:m=x.kids.length):jt l pr x 0 m=yW pr x.kids:=by
 rw[hm,zkV h (pG _),List.take_length,List.drop_zero]
theorem zk8(h:zv x.kind=9):Zi l pr x=x.text ++ jk pr x.kids:=by
 unfold Zi jk;rw[JO h rfl];by_cases h0:x.kids=[]
 ·simp[h0]
 ·rw[if_neg (by intro e;exact h0 (pX e)),if_neg h0];simp
theorem zg3(last:Bool):∀(first:Bool) (ks:List Int),ks≠[]->stR last first (ks.map pr) ++ [32,125]=(if first then [] else [32]) ++ yY pr last ks ++ [125]
 |_,[],h=>absurd rfl h
 |first,[k],_=>by
  cases first <;> cases last <;> simp[stR,yY]
 |first,k :: j :: r,_=>by
  have ih:=zg3 last false (j :: r) (by simp);rw[List.map_cons];unfold stR yY;simp only[List.map_cons,List.isEmpty_cons,Bool.false_and,Bool.false_eq_true,if_false,List.append_assoc] at ih ⊢;rw[ih]
def HdP(l:List Nd)(pr:Int->List UInt8)(k:Int):Prop:=zW (zw l k)=true->7<=zv (zw l k)->pr k≠[]/\((pr k).head? =some 45↔zw l k=6)
theorem zG(h:zI l x=true):xX x.kind=true/\(jh x.kind).1<=x.kids.length/\x.kids.length<=(jh x.kind).2/\zy x.kind x.n x.kids.length=true/\xY x=true/\∀i,i<x.kids.length->yO x.kind x.n x.kids.length i (zw l (zt x i))=true:=by
 unfold zI at h;simp only[pM,pJ,pY,List.mem_range] at h;obtain⟨⟨⟨⟨⟨⟨⟨h1,h2⟩,h3⟩,h4⟩,h5⟩,h6⟩,h7⟩,h8⟩:=h;exact⟨h1,h2,h3,h4,h7,h8⟩
theorem zfN(h:zv x.kind=9){m:Nat}(hm:m=x.kids.length)(a:Nat):jt l pr x a m=yW pr (x.kids.drop a):=by
 rw[hm,zkV h (pG _),List.take_length]
theorem zjj(h:zv x.kind=9){b:Nat}(hb:b<=x.kids.length):jt l pr x 0 b=yW pr (x.kids.take b):=by
 rw[zkV h hb,List.drop_zero]
theorem zc5{ks:List Int}(h:ks.length=3):ks=[ks.getD 0 0,ks.getD 1 0,ks.getD 2 0]:=by
 match ks,h with
 |[a,b,c],_=>rfl
theorem zga(hr:zI l x=true)(hk:x.kind∈[1,2,3,4,5,44,45,46,80,81,82,83,84,66,67,68,69]):yZ l pr x=zq l pr x:=by
 obtain⟨k,t,n,ks,a⟩:=x;simp only[pT,pS,or_false] at hk;obtain⟨_,h1,h2,_,_,hs⟩:=zG hr;clear hr;rcases hk with rfl|rfl|rfl|rfl|rfl|rfl|rfl|rfl|rfl|rfl|rfl|rfl|rfl|rfl|rfl|rfl|rfl
 all_goals simp[yZ,zq,zY,xW,zK,zt,ZB,vO,Jh,ud,ya]
theorem zgb(hr:zI l x=true)(hk:x.kind∈[27,88,40,60,61,65,86,87,32,62,29,30,34,36,63,104]):yZ l pr x=zq l pr x:=by
 obtain⟨k,t,n,ks,a⟩:=x;simp only[pT,pS,or_false] at hk;obtain⟨_,h1,h2,_,_,hs⟩:=zG hr;clear hr;rcases hk with rfl|rfl|rfl|rfl|rfl|rfl|rfl|rfl|rfl|rfl|rfl|rfl|rfl|rfl|rfl|rfl
 all_goals simp[yZ,zq,zY,xW,zK,zt,ZB,vO,Jh,ud,ya,xb,zC,yE,zcs,zv]
theorem zdU(hr:zI l x=true)(hk:x.kind∈[41,42,43,47,48,49,50,51]):yZ l pr x=zq l pr x:=by
 obtain⟨k,t,n,ks,a⟩:=x;simp only[pT,pS,or_false] at hk;obtain⟨_,h1,h2,_,_,hs⟩:=zG hr;clear hr;rcases hk with rfl|rfl|rfl|rfl|rfl|rfl|rfl|rfl
 all_goals simp[yZ,zq,zY,xW,zK,zt,ZB,vO,Jh,ud,ya,xb,zC,yE,zcs,zv,JO]
theorem zf9(hr:zI l x=true)(hk:x.kind∈[26,35,31,100,101]):yZ l pr x=zq l pr x:=by
 obtain⟨k,t,n,ks,a⟩:=x;simp only[pT,pS,or_false] at hk;obtain⟨_,h1,h2,_,_,hs⟩:=zG hr;clear hr;rcases hk with rfl|rfl|rfl|rfl|rfl
 all_goals simp[yZ,zq,zY,xW,zK,zt,ZB,vO,Jh,ud,ya,xb,zC,yE,zcs,zv,JO,zfN]
theorem zdV(hr:zI l x=true)(hk:x.kind∈[25,70,89]):yZ l pr x=zq l pr x:=by
 obtain⟨k,t,n,ks,a⟩:=x;simp only[pT,pS,or_false] at hk;obtain⟨_,h1,h2,_,_,hs⟩:=zG hr;clear hr;rcases hk with rfl|rfl|rfl
 all_goals simp[yZ,zq,zY,xW,zK,zt,ZB,vO,Jh,ud,ya,xb,zC,yE,zcs,zv,zk8]
theorem zdW(hr:zI l x=true)(hk:x.kind∈[33,102,85,103]):yZ l pr x=zq l pr x:=by
 obtain⟨k,t,n,ks,a⟩:=x;simp only[pT,pS,or_false] at hk;obtain⟨_,h1,h2,_,_,hs⟩:=zG hr;clear hr;rcases hk with rfl|rfl|rfl|rfl
 all_goals simp[yZ,zq,zY,xW,zK,zt,ZB,vO,Jh,ud,ya,xb,zC,yE,zcs,zv,zjj,Nat.sub_sub]
theorem zf8(hr:zI l x=true)(hk:x.kind∈[64]):yZ l pr x=zq l pr x:=by
 obtain⟨k,t,n,ks,a⟩:=x;simp only[pT,pS,or_false] at hk;obtain⟨_,h1,h2,_,_,hs⟩:=zG hr;clear hr;subst hk;have h3:=zc5 (ks:=ks) (by simp[jh] at h1 h2;omega);rw[h3];simp[yZ,zq,zY,xW,zK,zt,ZB,vO,Jh,ud,ya,xb,zC,yE,zcs,zv,yW,qc]
theorem zdY(hr:zI l x=true)(hk:x.kind=28):yZ l pr x=zq l pr x:=by
 obtain⟨k,t,n,ks,a⟩:=x;simp only at hk;subst hk;have hmap:(List.range ks.length).map (yx l pr ⟨28,t,n,ks,a⟩)=ks.map pr:=by
  have:=VD pr ks 0 ks.length (pG _);rw[Nat.sub_zero,List.take_length,List.drop_zero,<-List.range_eq_range'] at this;rw[<-this];apply List.map_congr_left;intro i _;exact zcs (by rfl) i
 by_cases h0:ks=[]
 ·subst h0;simp[yZ,zq,zY,xW,zK,ud,vD]
 ·have h1:=zg3 (pr:=pr) (n != 0) true ks h0;have h2:ks.length≠0:=fun e=>h0 (pX e)
  simp[yZ,zq,zY,xW,zK,ud,vD,h0,hmap] at h1 ⊢;exact h1
theorem zhO(hr:zI l x=true)(hk:x.kind=6)(hd:HdP l pr (zt x 0)):yZ l pr x=zq l pr x:=by
 obtain⟨_,h1,h2,_,_,hs⟩:=zG hr;obtain⟨k,t,n,ks,a⟩:=x;simp only at hk;subst hk;have hm:ks.length=1:=by simp[jh] at h1 h2;omega
 have he:zW (zw l (zt ⟨6,t,n,ks,a⟩ 0))=true:=hs 0 (by simp only;omega);have hh:qy l ⟨6,t,n,ks,a⟩ 0=decide (zv (zw l (zt ⟨6,t,n,ks,a⟩ 0))<7):=by
  unfold qy;rw[he];simp[show zv 6=7 from rfl]
 have hk7:=kR (pr:=pr) hh;have e1:yZ l pr ⟨6,t,n,ks,a⟩=[45] ++ ((if (yx l pr ⟨6,t,n,ks,a⟩ 0).head? == some 45 then [32] else []) ++ yx l pr ⟨6,t,n,ks,a⟩ 0):=by simp[yZ]
 have e2:zq l pr ⟨6,t,n,ks,a⟩=(if zw l (zt ⟨6,t,n,ks,a⟩ 0) == 6 then [45,32] ++ pr (zt ⟨6,t,n,ks,a⟩ 0) else [45] ++ yz l pr (zt ⟨6,t,n,ks,a⟩ 0) 7):=by simp[zq,zY]
 rw[e1,e2,hk7];generalize zt ⟨6,t,n,ks,a⟩ 0=c at *;by_cases h6:zw l c=6
 ·have h7:zv (zw l c)=7:=by rw[h6];rfl
  have:=(hd he (by omega)).2.2 h6;unfold yz;rw[h7];simp[this,h6]
 ·unfold yz;by_cases h7:zv (zw l c)<7
  ·simp[h7,h6]
  ·have hne:=(hd he (by omega)).2;have:¬(pr c).head? =some 45:=fun e=>h6 (hne.1 e)
   simp[h7,h6,this]
theorem zcz{i:Nat}(he:zW (zw l (zt x i))=true)(hk:x.kind∈[22,21,8,9,10,11,12,13]):qy l x i=decide (zv (zw l (zt x i))<zv x.kind+i):=by
 unfold qy;rw[he];generalize x.kind=k at *;simp only[pT,pS,or_false] at hk;rcases hk with rfl|rfl|rfl|rfl|rfl|rfl|rfl|rfl
 all_goals simp[show zv 22=1 from rfl,show zv 21=2 from rfl,show zv 8=5 from rfl,show zv 9=5 from rfl,show zv 10=5 from rfl,show zv 11=6 from rfl,show zv 12=6 from rfl,show zv 13=6 from rfl]
theorem zcy{i:Nat}(he:zW (zw l (zt x i))=true)(hk:x.kind∈[14,15,16,17,18,19,20]):qy l x i=decide (zv (zw l (zt x i))<5):=by
 unfold qy;rw[he];generalize x.kind=k at *;simp only[pT,pS,or_false] at hk;rcases hk with rfl|rfl|rfl|rfl|rfl|rfl|rfl
 all_goals simp[show zv 14=4 from rfl,show zv 15=4 from rfl,show zv 16=4 from rfl,show zv 17=4 from rfl,show zv 18=4 from rfl,show zv 19=4 from rfl,show zv 20=4 from rfl]
theorem zh7{i:Nat}(he:zW (zw l (zt x i))=true)(hk:x.kind∈[37,38,39]):qy l x i=decide (zv (zw l (zt x i))<7):=by
 unfold qy;rw[he];generalize x.kind=k at *;simp only[pT,pS,or_false] at hk;rcases hk with rfl|rfl|rfl
 all_goals simp[show zv 37=7 from rfl,show zv 38=7 from rfl,show zv 39=7 from rfl]
theorem zh8{i:Nat}(he:zW (zw l (zt x i))=true)(hk:x.kind=7):qy l x i=decide (zv (zw l (zt x i))<3):=by
 unfold qy;rw[he,hk];simp
theorem zek{i:Nat}(he:zW (zw l (zt x i))=true)(hk:x.kind=23):qy l x i=decide (zv (zw l (zt x i))<8):=by
 unfold qy;rw[he,hk];simp
theorem jx(hr:zI l x=true)(hk:x.kind∈[6,7,23,24,37,38,39,8,9,10,11,12,13,14,15,16,17,18,19,20,21,22]){i:Nat}(hi:i<x.kids.length):zW (zw l (zt x i))=true:=by
 obtain⟨_,_,_,_,_,hs⟩:=zG hr;have:=hs i hi;generalize zw l (zt x i)=kd at *;generalize x.kids.length=m at *;generalize x.kind=k at *;clear hr hs;simp only[pT,pS,or_false] at hk;rcases hk with rfl|rfl|rfl|rfl|rfl|rfl|rfl|rfl|rfl|rfl|rfl|rfl|rfl|rfl|rfl|rfl|rfl|rfl|rfl|rfl|rfl|rfl
 all_goals exact this
theorem zhM(hr:zI l x=true)(hk:x.kind∈[37,38,39]):yZ l pr x=zq l pr x:=by
 have hm:0<x.kids.length:=by
  have:=(zG hr).2.1;rw[(by decide:∀k∈[37,38,39],jh k=(1,1)) _ hk] at this;exact this
 have hkh:=kR (pr:=pr) (zh7 (jx hr (by revert hk;generalize x.kind=k;simp only[pT,pS,or_false];omega) hm) hk);obtain⟨k,t,n,ks,a⟩:=x;simp only[pT,pS,or_false] at hk;rcases hk with rfl|rfl|rfl
 all_goals simp[yZ,zq,zY,xW,zK,hkh]
theorem zhN(hr:zI l x=true)(hk:x.kind=7):yZ l pr x=zq l pr x:=by
 have hm:0<x.kids.length:=by
  have:=(zG hr).2.1;rw[hk] at this;exact this
 have hkh:=kR (pr:=pr) (zh8 (jx hr (by rw[hk];decide) hm) hk);obtain⟨k,t,n,ks,a⟩:=x;simp only at hk;subst hk;simp[yZ,zq,zY,hkh]
theorem zdX(hr:zI l x=true)(hk:x.kind=23):yZ l pr x=zq l pr x:=by
 have hm:0<x.kids.length:=by
  have:=(zG hr).2.1;rw[hk] at this;exact this
 have hkh:=kR (pr:=pr) (zek (jx hr (by rw[hk];decide) hm) hk);obtain⟨k,t,n,ks,a⟩:=x;simp only at hk;subst hk;simp[yZ,zq,zY,hkh]
theorem zgc(hr:zI l x=true)(hk:x.kind=24):yZ l pr x=zq l pr x:=by
 have hm:0<x.kids.length:=by
  have:=(zG hr).2.1;rw[hk] at this;exact this
 have he:=jx hr (by rw[hk];decide) hm;obtain⟨k,t,n,ks,a⟩:=x;simp only at hk;subst hk;have hrow:jt l pr ⟨24,t,n,ks,a⟩ 1 ks.length=yW pr (ks.drop 1):=by
  have:=Vz (l:=l) (pr:=pr) (x:=⟨24,t,n,ks,a⟩) (a:=1) (pG ks.length) (fun i hi=>VR (by
   unfold qy;have:(i == 0)=false:=bfE (by omega)
   simp[this]))
  simp only[List.take_length] at this;exact this
 have e1:yZ l pr ⟨24,t,n,ks,a⟩=yx l pr ⟨24,t,n,ks,a⟩ 0 ++ [40] ++ jt l pr ⟨24,t,n,ks,a⟩ 1 ks.length ++ [41]:=by simp[yZ]
 have e2:zq l pr ⟨24,t,n,ks,a⟩=(if zw l (zt ⟨24,t,n,ks,a⟩ 0) == 25 && ((l[(zt ⟨24,t,n,ks,a⟩ 0).toNat]?).elim [] Nd.kids).isEmpty then [40] ++ yz l pr (zt ⟨24,t,n,ks,a⟩ 0) 8 ++ [41] else yz l pr (zt ⟨24,t,n,ks,a⟩ 0) 8) ++ [40] ++ yW pr (ks.drop 1) ++ [41]:=by simp[zq,zY]
 rw[e1,e2,hrow];unfold yx qy yz;rw[he];generalize zt ⟨24,t,n,ks,a⟩ 0=c at *;generalize hkd:zw l c=kd at *;by_cases h25:kd=25
 ·subst h25;cases ((l[c.toNat]?).elim [] Nd.kids).isEmpty <;> simp[show zv 25=9 from rfl]
 ·by_cases h8:zv kd<8 <;> simp[h25,h8]
theorem zhQ(hr:zI l x=true)(hk:x.kind∈[22,21,8,9,10,11,12,13]):yZ l pr x=zq l pr x:=by
 have hm:1<x.kids.length:=by
  have:=(zG hr).2.1;rw[(by decide:∀k∈[22,21,8,9,10,11,12,13],jh k=(2,2)) _ hk] at this;exact this
 have hx:x.kind∈[6,7,23,24,37,38,39,8,9,10,11,12,13,14,15,16,17,18,19,20,21,22]:=by revert hk;generalize x.kind=k;simp only[pT,pS,or_false];omega
 have h0:=kR (pr:=pr) (zcz (jx hr hx (by omega)) hk (i:=0));have h1:=kR (pr:=pr) (zcz (jx hr hx hm) hk (i:=1));obtain⟨k,t,n,ks,a⟩:=x;simp only[pT,pS,or_false] at hk h0 h1;rcases hk with rfl|rfl|rfl|rfl|rfl|rfl|rfl|rfl
 all_goals simp[yZ,zq,zY,xW,zK,h0,h1,show zv 22=1 from rfl,show zv 21=2 from rfl,show zv 8=5 from rfl,show zv 9=5 from rfl,show zv 10=5 from rfl,show zv 11=6 from rfl,show zv 12=6 from rfl,show zv 13=6 from rfl]
theorem zhP(hr:zI l x=true)(hk:x.kind∈[14,15,16,17,18,19,20]):yZ l pr x=zq l pr x:=by
 have hm:1<x.kids.length:=by
  have:=(zG hr).2.1;rw[(by decide:∀k∈[14,15,16,17,18,19,20],jh k=(2,2)) _ hk] at this;exact this
 have hx:x.kind∈[6,7,23,24,37,38,39,8,9,10,11,12,13,14,15,16,17,18,19,20,21,22]:=by revert hk;generalize x.kind=k;simp only[pT,pS,or_false];omega
 have h0:=kR (pr:=pr) (zcy (jx hr hx (i:=0) (by omega)) hk);have h1:=kR (pr:=pr) (zcy (jx hr hx hm) hk);obtain⟨k,t,n,ks,a⟩:=x;simp only[pT,pS,or_false] at hk h0 h1;rcases hk with rfl|rfl|rfl|rfl|rfl|rfl|rfl
 all_goals simp[yZ,zq,zY,xW,zK,h0,h1,show zv 14=4 from rfl,show zv 15=4 from rfl,show zv 16=4 from rfl,show zv 17=4 from rfl,show zv 18=4 from rfl,show zv 19=4 from rfl,show zv 20=4 from rfl]
theorem zjC(hr:zI l x=true)(hd:x.kind=6->HdP l pr (zt x 0)):yZ l pr x=zq l pr x:=by
 have hk:=(zG hr).1;have hm:∀k,k<105->(!xX k || decide (k∈[1,2,3,4,5,44,45,46,80,81,82,83,84,66,67,68,69]) || decide (k∈[27,88,40,60,61,65,86,87,32,62,29,30,34,36,63,104]) || decide (k∈[41,42,43,47,48,49,50,51]) || decide (k∈[26,35,31,100,101]) || decide (k∈[25,70,89]) || decide (k∈[33,102,85,103]) || decide (k∈[64]) || decide (k=28) || decide (k=6) || decide (k∈[37,38,39]) || decide (k=7) || decide (k=23) || decide (k=24) || decide (k∈[22,21,8,9,10,11,12,13]) || decide (k∈[14,15,16,17,18,19,20]))=true:=by decide +kernel
 have h:=hm _ (Nat.lt_succ_of_le (jK hk));rw[hk] at h;simp only[Bool.not_true,Bool.false_or,wM,pJ] at h;rcases h with (((((((((((((h|h)|h)|h)|h)|h)|h)|h)|h)|h)|h)|h)|h)|h)|h
 ·exact zga hr h
 ·exact zgb hr h
 ·exact zdU hr h
 ·exact zf9 hr h
 ·exact zdV hr h
 ·exact zdW hr h
 ·exact zf8 hr h
 ·exact zdY hr h
 ·exact zhO hr h (hd h)
 ·exact zhM hr h
 ·exact zhN hr h
 ·exact zdX hr h
 ·exact zgc hr h
 ·exact zhQ hr h
 ·exact zhP hr h
end
theorem zbe(u:Nat):∃c r,Go.Lib.decDigits u=c :: r/\c≠45:=by
 induction u using Nat.strongRecOn with
 |ind u ih=>
  rw[Go.Lib.decDigits];split
  ·rename_i h;refine⟨_,_,rfl,?_⟩;have:∀i,i<10->UInt8.ofNat (48+i)≠45:=by decide
   exact this u h
  ·rename_i h;obtain⟨c,r,e,hc⟩:=ih (u / 10) (by omega);rw[e];exact⟨c,_,rfl,hc⟩
theorem zjL{n:Int}(h:0<=n):Go.Lib.itoa n≠[]/\(Go.Lib.itoa n).head? ≠some 45:=by
 unfold Go.Lib.itoa;rw[if_neg (by omega)];obtain⟨c,r,e,hc⟩:=zbe n.toNat;rw[e];refine⟨by simp,?_⟩;simp only[List.head?_cons];intro h;cases h;exact hc rfl
theorem zg5{k:Nat}{t:List UInt8}(hk:k=1\/k=2)(h:(xD k t).2=0):t≠[]/\t.head? ≠some 45:=by
 unfold xD at h;rw[if_neg (by omega)] at h;split at h
 ·rename_i hr;obtain⟨h1,h2⟩:=hr;unfold ju at h1;split at h1
  ·simp at h1
  ·unfold ZI at h1;dsimp only at h1;split at h1
   ·simp at h1
   ·rename_i hne;split at h1
    ·simp at h1
    ·rename_i k' t' m htk;split at h1
     ·simp at h1
     ·split at h1
      ·injection h1 with h1 _;injection h1 with hk' ht' ha;have hg:zU false t=0:=by omega
       rw[hg,List.drop_zero] at htk;subst hk';cases t with
       |nil=>simp[xj] at htk
       |cons c r=>
        refine⟨by simp,?_⟩;simp only[List.head?_cons];intro e;cases e;unfold xj at htk;simp only[show zN 45=false from rfl,show vB 45=false from rfl,show zM 45=false from rfl,Bool.false_eq_true,if_false,show ¬(45:UInt8)=34 from by decide] at htk;cases hf:yc.find? (fun g=>qe g (45 :: r)) with
        |none=>rw[hf] at htk;cases htk
        |some x=>
         rw[hf] at htk;injection htk with htk;injection htk with htk _;omega
      ·simp at h1
 ·simp at h
theorem zhu{t:List UInt8}(h:(xD 4 t).2=0):(xr t).1≠[]/\(xr t).1.head? ≠some 45:=by
 unfold xD at h;rw[if_pos rfl] at h;split at h
 ·rename_i hq;unfold xr at hq ⊢;split at hq
  ·simp at hq
  ·rename_i h60;split at hq
   ·rename_i hall;rw[if_neg h60,if_pos hall];simp
   ·simp at hq
 ·simp at h
theorem Vu{x:Nd}(h:xY x=true)(ht:xE x.kind=1\/xE x.kind=2):x.text≠[]/\x.text.head? ≠some 45:=by
 unfold xY at h;rw[if_neg (by simp;omega)] at h;exact zg5 ht (by simpa using h)
theorem zgU{x:Nd}(h:xY x=true)(ht:xE x.kind=4):(xr x.text).1≠[]/\(xr x.text).1.head? ≠some 45:=by
 unfold xY at h;rw[ht] at h;exact zhu (by simpa using h)
theorem zb6{l:List Nd}{pr:Int->List UInt8}{c:Int}(he:zW (zw l c)=true)(hd:HdP l pr c):yz l pr c 8≠[]/\(yz l pr c 8).head? ≠some 45:=by
 unfold yz;split
 ·simp
 ·rename_i h8;obtain⟨h1,h2⟩:=hd he (by omega);refine⟨h1,fun e=>?_⟩;have:=h2.1 e;rw[this] at h8;exact h8 (by decide)
theorem zel{a b:List UInt8}(h:a≠[]/\a.head? ≠some 45):a ++ b≠[]/\(a ++ b).head? ≠some 45:=by
 cases a with
 |nil=>exact absurd rfl h.1
 |cons c r=>exact⟨by simp,by simpa using h.2⟩
theorem Zt{l:List Nd}{pr:Int->List UInt8}{x:Nd}(h6:x.kind≠6)(h:zq l pr x≠[]/\(zq l pr x).head? ≠some 45):zq l pr x≠[]/\((zq l pr x).head? =some 45↔x.kind=6):=⟨h.1,fun e=>absurd e h.2,fun e=>absurd e h6⟩
theorem zjP{l:List Nd}{pr:Int->List UInt8}{x:Nd}(hr:zI l x=true)(he:zW x.kind=true)(h7:7<=zv x.kind)(hd:x.kind=23\/x.kind=24->HdP l pr (zt x 0)):zq l pr x≠[]/\((zq l pr x).head? =some 45↔x.kind=6):=by
 obtain⟨hk,h1,h2,hnum,htit,_⟩:=zG hr;have hm:∀k,k<105->(!zW k || decide (zv k<7) || decide (k∈[4,44,45,46,3,41,42,43,47,48,49,50,51,26,35,31,37,38,39,29,30,33,34,36,40]) || decide (k=1) || decide (k=2) || decide (k=5) || decide (k=25) || decide (k=6) || decide (k=23) || decide (k=24))=true:=by decide +kernel
 have h:=hm _ (Nat.lt_succ_of_le (jK hk));rw[he] at h;simp only[Bool.not_true,Bool.false_or,wM,pJ] at h;rcases h with (((((((h|h)|h)|h)|h)|h)|h)|h)|h
 ·omega
 ·refine Zt (fun e=>by rw[e] at h;revert h;decide) ?_;obtain⟨k,t,n,ks,a⟩:=x;clear hr he h7 hd hk h1 h2 hnum htit hm;simp only[pT,pS,or_false] at h;rcases h with rfl|rfl|rfl|rfl|rfl|rfl|rfl|rfl|rfl|rfl|rfl|rfl|rfl|rfl|rfl|rfl|rfl|rfl|rfl|rfl|rfl|rfl|rfl|rfl|rfl
  all_goals first|(simp[zq,zY,zK,xb,zC,ya];done)|(simp[zq,zY,zK,xb,zC,ya];by_cases hn:n=1 <;> simp[hn])
 ·refine Zt (by omega) ?_;have e:zq l pr x=Go.Lib.itoa x.n:=by
   unfold zq;rw[h];rfl
  rw[e];rw[h] at hnum;have hnum:(decide (0<=x.n) && decide (x.n<=1000000000))=true:=hnum;rw[pM,pJ] at hnum;exact zjL hnum.1
 ·refine Zt (by omega) ?_;have e:zq l pr x=(xr x.text).1:=by
   unfold zq;rw[h];rfl
  rw[e];exact zgU htit (by rw[h];rfl)
 ·refine Zt (by omega) ?_;have e:zq l pr x=x.text:=by
   unfold zq;rw[h];rfl
  rw[e];exact Vu htit (.inl (by rw[h];rfl))
 ·refine Zt (by omega) ?_;have e:zq l pr x=x.text ++ jk pr x.kids:=by
   unfold zq;rw[h];rfl
  rw[e];exact zel (Vu htit (.inr (by rw[h];rfl)))
 ·obtain⟨k,t,n,ks,a⟩:=x;simp only at h;subst h;have e2:zq l pr ⟨6,t,n,ks,a⟩=(if zw l (zt ⟨6,t,n,ks,a⟩ 0) == 6 then [45,32] ++ pr (zt ⟨6,t,n,ks,a⟩ 0) else [45] ++ yz l pr (zt ⟨6,t,n,ks,a⟩ 0) 7):=by simp[zq,zY]
  rw[e2];split <;> simp
 ·refine Zt (by omega) ?_;have hm0:0<x.kids.length:=by rw[h] at h1;exact h1
  have hke:=jx hr (by rw[h];decide) hm0;have e:zq l pr x=yz l pr (zt x 0) 8 ++ ([46] ++ x.text):=by
   obtain⟨k,t,n,ks,a⟩:=x;simp only at h;subst h;simp[zq,zY]
  rw[e];exact zel (zb6 hke (hd (.inl h)))
 ·refine Zt (by omega) ?_;have hm0:0<x.kids.length:=by rw[h] at h1;exact h1
  have hke:=jx hr (by rw[h];decide) hm0;have e:zq l pr x=(if zw l (zt x 0) == 25 && ((l[(zt x 0).toNat]?).elim [] Nd.kids).isEmpty then [40] ++ yz l pr (zt x 0) 8 ++ [41] else yz l pr (zt x 0) 8) ++ ([40] ++ yW pr (x.kids.drop 1) ++ [41]):=by
   obtain⟨k,t,n,ks,a⟩:=x;simp only at h;subst h;simp[zq,zY]
  rw[e];refine zel ?_;split
  ·simp
  ·exact zb6 hke (hd (.inr h))
theorem Zx{a b:Int->List UInt8}{ks:List Int}(h:∀k∈ks,a k=b k):yW a ks=yW b ks:=by
 unfold yW;rw[List.map_congr_left h]
theorem QC{a b:Int->List UInt8}{last:Bool}:∀{ks:List Int},(∀k∈ks,a k=b k)->yY a last ks=yY b last ks
 |[],_=>rfl
 |[k],h=>by
  unfold yY;rw[h k (by simp)]
 |k :: j :: r,h=>by
  unfold yY;rw[h k (by simp),QC (ks:=j :: r) (fun i hi=>h i (wP _ hi))]
theorem zaL{l:List Nd}{a b:Int->List UInt8}{x:Nd}(h:∀k,k∈x.kids\/k=0->a k=b k):zq l a x=zq l b x:=by
 have hk:∀i,a (zt x i)=b (zt x i):=fun i=>h _ (by
  unfold zt;rw[pC];cases hx:x.kids[i]? with
  |none=>exact .inr rfl
  |some y=>exact .inl (pP hx))
 have hq:∀i r,yz l a (zt x i) r=yz l b (zt x i) r:=fun i r=>by unfold yz;rw[hk]
 have ha:yW a x.kids=yW b x.kids:=Zx fun k hk=>h k (.inl hk)
 have hd:∀i,yW a (x.kids.drop i)=yW b (x.kids.drop i):=fun i=>Zx fun k hk=>h k (.inl (List.mem_of_mem_drop hk))
 have ht:∀i,yW a (x.kids.take i)=yW b (x.kids.take i):=fun i=>Zx fun k hk=>h k (.inl (List.mem_of_mem_take hk))
 have hs:yY a (x.n != 0) x.kids=yY b (x.n != 0) x.kids:=QC fun k hk=>h k (.inl hk)
 unfold zq vD xb ya zC yE jk;simp only[hk,hq,ha,hd,ht,hs]
theorem Xe{l:List Nd}(hF:xB l l.length)(hR:∀x∈l,zI l x=true):∀(f i:Nat),i<l.length->i<f->yt l f i=Vc l f i/\HdP l (Vc l f) i
 |0,i,_,h=>absurd h (wD _)
 |f+1,i,hi,hf=>by
  have hx:l[i]? =some l[i]:=glE hi;have hkl:=qA hF hi;have hr:=hR _ (wL hi);obtain⟨x,hxe⟩:=exE (l[i]);rw[hxe] at hx hkl hr;have hkid:∀k∈x.kids,yt l f k=Vc l f k/\HdP l (Vc l f) k:=fun k hk=>by
   obtain⟨h0,h1⟩:=hkl k hk;obtain⟨j,rfl⟩:=pN h0;exact Xe hF hR f j (by omega) (by omega)
  have hag:∀k,k∈x.kids\/k=0->yt l f k=Vc l f k:=fun k hk=>by
   rcases hk with hk|rfl
   ·exact (hkid k hk).1
   ·cases f with
    |zero=>rfl
    |succ f=>exact (Xe hF hR (f+1) 0 (by omega) (by omega)).1
  have hm:∀{j:Nat},j<x.kids.length->zt x j∈x.kids:=fun {j} hj=>by
   unfold zt;rw[pC,glE hj];exact wL hj
  have hfew:=(zG hr).2.1;have e1:yt l (f+1) i=yZ l (yt l f) x:=by
   show (match l[(i:Int).toNat]? with|some x=>yZ l (yt l f) x|none=>[])=_
   rw[pW,hx]
  have e2:Vc l (f+1) i=zq l (Vc l f) x:=by
   show (match l[(i:Int).toNat]? with|some x=>zq l (Vc l f) x|none=>[])=_
   rw[pW,hx]
  have hka:zw l i=x.kind:=by
   unfold zw;rw[pW,hx];rfl
  refine⟨?_,?_⟩
  ·rw[e1,e2,zjC hr (fun h6=>?_),zaL hag];have h0:zt x 0∈x.kids:=hm (by rw[h6] at hfew;exact hfew);have:=hkid _ h0;unfold HdP;rw[this.1];exact this.2
  ·intro he h7;rw[hka] at he h7;rw[e2,hka];refine zjP hr he h7 fun h=>(hkid _ (hm ?_)).2
   rcases h with h|h <;> (rw[h] at hfew;exact hfew)
theorem zhc(s:List UInt8):vY s=XZ s:=by
 unfold vY XZ;by_cases h:3000<s.length
 ·rw[if_pos h];unfold ju xP;rw[if_pos h];rfl
 ·rw[if_neg h]
theorem zeo{a b:Int->List UInt8}{ks:List Int}(h:∀k∈ks,a k=b k):(ks.flatMap fun k=>a k ++ [10])=ks.flatMap fun k=>b k ++ [10]:=by
 induction ks with
 |nil=>rfl
 |cons k r ih=>
  rw[List.flatMap_cons,List.flatMap_cons,h k (List.mem_cons_self ..),ih (fun j hj=>h j (wP _ hj))]
theorem KG{t:yl}(h:qS t=0):xB t.nodes t.nodes.length/\(∀x∈t.nodes,zI t.nodes x=true)/\∀k∈t.items,0<=k/\k<t.nodes.length:=by
 unfold qS at h;split at h
 ·cases h
 ·split at h
  ·cases h
  ·rename_i hf;obtain⟨hF,hI,hR⟩:=vL (by simpa using hf);refine⟨hF,hR,fun k hk=>?_⟩;have:=Jq _ _ _ _ hI k (gI.2 hk);omega
theorem zk0{t:yl}(h:qS t=0){k:Int}(hk:k∈t.items):prT t k=zbF t k:=by
 obtain⟨hF,hR,hI⟩:=KG h;obtain⟨h0,h1⟩:=hI k hk;obtain⟨j,rfl⟩:=pN h0;exact (Xe hF hR _ j (by omega) (by omega)).1.symm
theorem zhz{t:yl}(hm:∀x∈t.nodes,x.kids.length<=1000):uD t=YO t:=by
 unfold uD YO;rw[KH t hm];split
 ·rfl
 ·rename_i h;rw[zhc,zeo fun k hk=>zk0 (by simpa using h) hk]
def qr(pr:Int->List UInt8):List Int->Nat
 |[]=>0
 |k :: r=>(pr k).length+8+qr pr r
theorem Ki(pr:Int->List UInt8):∀a b:List Int,qr pr (a ++ b)=qr pr a+qr pr b
 |[],_=>by simp[qr]
 |k :: r,b=>by
  show (pr k).length+8+qr pr (r ++ b)=(pr k).length+8+qr pr r+qr pr b
  rw[Ki pr r b];omega
theorem xg(l:List Nd)(pr:Int->List UInt8)(k:Int)(r:Nat):(yz l pr k r).length<=(pr k).length+2:=by
 unfold yz;split
 ·simp only[pK,pQ,wJ];omega
 ·omega
theorem zai(pr:Int->List UInt8):∀ks:List Int,(qc (ks.map pr)).length<=qr pr ks
 |[]=>by simp[qc,qr]
 |[k]=>by
  simp only[List.map_cons,List.map_nil,qc,qr];omega
 |k :: j :: r=>by
  have ih:=zai pr (j :: r);rw[List.map_cons] at ih ⊢;rw[List.map_cons];unfold qc qr;simp only[pK,pQ,wJ] at ih ⊢;omega
theorem jX(pr:Int->List UInt8)(ks:List Int):(yW pr ks).length<=qr pr ks:=zai pr ks
theorem zdL(pr:Int->List UInt8)(ks:List Int):(jk pr ks).length<=qr pr ks+2:=by
 unfold jk;have:=jX pr ks;split
 ·simp
 ·simp only[pK,pQ,wJ];omega
theorem JV(pr:Int->List UInt8)(last:Bool):∀ks:List Int,(yY pr last ks).length<=qr pr ks
 |[]=>by simp[yY,qr]
 |[k]=>by
  unfold yY qr qr;cases last <;> simp
 |k :: j :: r=>by
  have ih:=JV pr last (j :: r);unfold yY qr;simp only[pK,pQ,wJ] at ih ⊢;omega
theorem Zw:∀(d u:Nat),u<10 ^ (d+1)->(Go.Lib.decDigits u).length<=d+1
 |0,u,h=>by
  rw[Go.Lib.decDigits];split
  ·simp
  ·rename_i h2;simp at h;omega
 |d+1,u,h=>by
  rw[Go.Lib.decDigits];split
  ·simp
  ·have:=Zw d (u / 10) (by
    rw[Nat.div_lt_iff_lt_mul (by decide)];rw[Nat.pow_succ] at h;exact h)
   rw[pK,pO];omega
theorem Ye{n:Int}(h1: -1000000000<=n)(h2:n<=1000000000):(Go.Lib.itoa n).length<=11:=by
 unfold Go.Lib.itoa;split
 ·have:=Zw 9 n.natAbs (by omega);simp only[pQ];omega
 ·have:=Zw 9 n.toNat (by omega);omega
theorem kM{x:Nd}(h:xY x=true)(h4:xE x.kind≠4):x.text.length<=3000:=by
 unfold xY at h;split at h
 ·have:x.text=[]:=by simpa using h
  rw[this];simp
 ·unfold xD at h;rw[if_neg h4] at h;split at h
  ·rename_i hr;rcases Nat.lt_or_ge 3000 x.text.length with hl|hl
   ·exfalso;have h1:=hr.1;unfold ju xP at h1;rw[if_pos hl] at h1;simp at h1
   ·exact hl
  ·simp at h
theorem zke:∀l:List UInt8,(l.flatMap yT).length<=2*l.length
 |[]=>by simp
 |c :: r=>by
  have:=zke r;rw[List.flatMap_cons,pK,pQ];have:(yT c).length<=2:=by
   unfold yT;split
   ·simp
   ·split <;> simp
  omega
theorem zht(t:List UInt8):(xr t).1.length<=122:=by
 unfold xr;split
 ·simp
 ·split
  ·have:=zke t;simp only[pK,pQ,wJ];omega
  ·simp
section
variable {l:List Nd} {pr:Int→List UInt8} {x:Nd}
theorem zhW(hr:zI l x=true)(hk:x.kind∈[1,2,3,4,5,44,45,46,80,81,82,83,84,66,67,68,69]):(zq l pr x).length<=qr pr x.kids+3100:=by
 obtain⟨k,t,n,ks,a⟩:=x;simp only[pT,pS,or_false] at hk;obtain⟨_,h1,h2,hn,ht,hs⟩:=zG hr;clear hr hs h1 h2;have hq:=zht t;have ht:xE k≠4->t.length<=3000:=fun h=>kM ht h
 rcases hk with rfl|rfl|rfl|rfl|rfl|rfl|rfl|rfl|rfl|rfl|rfl|rfl|rfl|rfl|rfl|rfl|rfl
 all_goals simp[zy] at hn
 all_goals simp[xE] at ht
 all_goals simp[zq,zY,zK,ya]
 all_goals first
  |omega
  |(have:=Ye (n:=n) (by omega) (by omega);omega)
  |(split <;> (try simp) <;> omega)
theorem zjG(hr:zI l x=true)(hk:x.kind∈[6,7,23,27,37,38,39,40,42,43,47,50,51,60,61,65,86,87,88]):(zq l pr x).length<=qr pr x.kids+3100:=by
 obtain⟨k,t,n,ks,a⟩:=x;simp only[pT,pS,or_false] at hk;obtain⟨_,h1,h2,hn,ht,hs⟩:=zG hr;clear hr hs;have hl:ks.length=1:=by
  rcases hk with rfl|rfl|rfl|rfl|rfl|rfl|rfl|rfl|rfl|rfl|rfl|rfl|rfl|rfl|rfl|rfl|rfl|rfl|rfl
  all_goals (simp[jh] at h1 h2;omega)
 clear h1 h2;obtain⟨c,rfl⟩:∃c,ks=[c]:=by
  match ks,hl with
  |[c],_=>exact⟨c,rfl⟩
 have ht:t.length<=3000:=kM ht (by dsimp only;rcases hk with rfl|rfl|rfl|rfl|rfl|rfl|rfl|rfl|rfl|rfl|rfl|rfl|rfl|rfl|rfl|rfl|rfl|rfl|rfl <;> decide);have q3:=xg l pr c 3;have q7:=xg l pr c 7;have q8:=xg l pr c 8;have qa:=jX pr [c];simp only[qr] at qa ⊢;rcases hk with rfl|rfl|rfl|rfl|rfl|rfl|rfl|rfl|rfl|rfl|rfl|rfl|rfl|rfl|rfl|rfl|rfl|rfl|rfl
 all_goals simp[zy] at hn
 all_goals simp[zq,zY,zK,zt,ya,xb,zC]
 all_goals first
  |omega
  |(have:=Ye (n:=n) (by omega) (by omega);omega)
  |(split <;> (try simp) <;> omega)
theorem zjF(hr:zI l x=true)(hk:x.kind∈[8,9,10,11,12,13,14,15,16,17,18,19,20,21,22,30,32,34,41,48,62,63,104]):(zq l pr x).length<=qr pr x.kids+3100:=by
 obtain⟨k,t,n,ks,a⟩:=x;simp only[pT,pS,or_false] at hk;obtain⟨_,h1,h2,hn,ht,hs⟩:=zG hr;clear hr hs hn;have hl:ks.length=2:=by
  rcases hk with rfl|rfl|rfl|rfl|rfl|rfl|rfl|rfl|rfl|rfl|rfl|rfl|rfl|rfl|rfl|rfl|rfl|rfl|rfl|rfl|rfl|rfl|rfl
  all_goals (simp[jh] at h1 h2;omega)
 clear h1 h2;obtain⟨c,d,rfl⟩:∃c d,ks=[c,d]:=by
  match ks,hl with
  |[c,d],_=>exact⟨c,d,rfl⟩
 have ht:t.length<=3000:=kM ht (by dsimp only;rcases hk with rfl|rfl|rfl|rfl|rfl|rfl|rfl|rfl|rfl|rfl|rfl|rfl|rfl|rfl|rfl|rfl|rfl|rfl|rfl|rfl|rfl|rfl|rfl <;> decide);have q1:=xg l pr c 1;have q2:=xg l pr c 2;have q5:=xg l pr c 5;have q6:=xg l pr c 6;have p2:=xg l pr d 2;have p3:=xg l pr d 3;have p5:=xg l pr d 5;have p6:=xg l pr d 6;have p7:=xg l pr d 7;have qa:=jX pr [c,d];simp only[qr] at qa ⊢;rcases hk with rfl|rfl|rfl|rfl|rfl|rfl|rfl|rfl|rfl|rfl|rfl|rfl|rfl|rfl|rfl|rfl|rfl|rfl|rfl|rfl|rfl|rfl|rfl
 all_goals simp[zq,zY,zv,zK,zt,ya,xb,zC]
 all_goals omega
theorem zgi(hr:zI l x=true)(hk:x.kind∈[49,64,36]):(zq l pr x).length<=qr pr x.kids+3100:=by
 obtain⟨k,t,n,ks,a⟩:=x;simp only[pT,pS,or_false] at hk;obtain⟨_,h1,h2,hn,ht,hs⟩:=zG hr;clear hr hs hn;have hl:ks.length=3:=by
  rcases hk with rfl|rfl|rfl
  all_goals (simp[jh] at h1 h2;omega)
 clear h1 h2;obtain⟨c,d,e,rfl⟩:∃c d e,ks=[c,d,e]:=by
  match ks,hl with
  |[c,d,e],_=>exact⟨c,d,e,rfl⟩
 have ht:t.length<=3000:=kM ht (by dsimp only;rcases hk with rfl|rfl|rfl <;> decide);have qa:=jX pr [c,d,e];have qb:=jX pr [c,d];simp only[qr] at qa qb ⊢;rcases hk with rfl|rfl|rfl
 all_goals simp[zq,zY,zv,zK,zt,ya,xb,zC]
 all_goals omega
theorem zlg(hr:zI l x=true)(hk:x.kind=29):(zq l pr x).length<=qr pr x.kids+3100:=by
 obtain⟨k,t,n,ks,a⟩:=x;simp only at hk;subst hk;obtain⟨_,h1,h2,hn,ht,hs⟩:=zG hr;clear hr hs hn ht;simp[jh] at h1 h2
 match ks,h1,h2 with
 |[c,d],_,_=>
  simp only[qr];simp[zq,zY,zv,zK,zt,ya,xb,zC];omega
 |[c,d,e],_,_=>
  simp only[qr];simp[zq,zY,zv,zK,zt,ya,xb,zC];omega
theorem zhV(hr:zI l x=true)(hk:x.kind∈[26,35,100,101,25,70,89,28]):(zq l pr x).length<=qr pr x.kids+3100:=by
 obtain⟨k,t,n,ks,a⟩:=x;simp only[pT,pS,or_false] at hk;obtain⟨_,h1,h2,hn,ht,hs⟩:=zG hr;clear hr hs hn h1 h2;have ht:t.length<=3000:=kM ht (by dsimp only;rcases hk with rfl|rfl|rfl|rfl|rfl|rfl|rfl|rfl <;> decide);have qa:=jX pr ks;have qp:=zdL pr ks;have qs:=JV pr (n != 0) ks;simp only;rcases hk with rfl|rfl|rfl|rfl|rfl|rfl|rfl|rfl
 all_goals simp[zq,zY,zv,zK,zt,ya,xb,zC,vD]
 all_goals first
  |omega
  |(split <;> (try simp) <;> omega)
theorem zhU(hr:zI l x=true)(hk:x.kind∈[24,31]):(zq l pr x).length<=qr pr x.kids+3100:=by
 obtain⟨k,t,n,ks,a⟩:=x;simp only[pT,pS,or_false] at hk;obtain⟨_,h1,h2,hn,ht,hs⟩:=zG hr;clear hr hs hn ht;have hl:1<=ks.length:=by
  rcases hk with rfl|rfl
  ·exact h1
  ·exact pU (show 1<=2 by decide) h1
 clear h1 h2;obtain⟨c,r,rfl⟩:∃c r,ks=c :: r:=by
  match ks,hl with
  |c :: r,_=>exact⟨c,r,rfl⟩
 have q8:=xg l pr c 8;have qa:=jX pr r;simp only[qr];rcases hk with rfl|rfl
 all_goals simp[zq,zY,zv,zK,zt,ya,xb,zC]
 all_goals first
  |omega
  |(split <;> (try simp) <;> omega)
theorem zhX(hr:zI l x=true)(hk:x.kind∈[85,103]):(zq l pr x).length<=qr pr x.kids+3100:=by
 obtain⟨k,t,n,ks,a⟩:=x;simp only[pT,pS,or_false] at hk;obtain⟨_,h1,h2,hn,ht,hs⟩:=zG hr;clear hr hs hn;have hl:1<=ks.length:=by
  rcases hk with rfl|rfl
  ·exact h1
  ·exact h1
 clear h1 h2;obtain⟨r,c,rfl⟩:∃r c,ks=r ++ [c]:=⟨ks.dropLast,ks.getLast (by intro e;rw[e] at hl;simp at hl),(List.dropLast_concat_getLast _).symm⟩;have ht:t.length<=3000:=kM ht (by dsimp only;rcases hk with rfl|rfl <;> decide);have qa:=jX pr r;rw[Ki];simp only[qr];rcases hk with rfl|rfl
 all_goals simp[zq,zY,zv,zK,zt,ya,xb,zC,yE]
 all_goals omega
theorem zjH(hr:zI l x=true)(hk:x.kind∈[33,102]):(zq l pr x).length<=qr pr x.kids+3100:=by
 obtain⟨k,t,n,ks,a⟩:=x;simp only[pT,pS,or_false] at hk;obtain⟨_,h1,h2,hn,ht,hs⟩:=zG hr;clear hr hs hn;have hl:2<=ks.length:=by
  rcases hk with rfl|rfl
  ·exact h1
  ·exact h1
 clear h1 h2;obtain⟨r,c,d,rfl⟩:∃r c d,ks=r ++ [c,d]:=by
  refine⟨ks.dropLast.dropLast,ks.dropLast.getLast (by intro e;have:=congrArg List.length e;simp at this;omega),ks.getLast (by intro e;rw[e] at hl;simp at hl),?_⟩;rw[show ∀(a b:Int),[a,b]=[a] ++ [b] from fun _ _=>rfl,<-List.append_assoc,List.dropLast_concat_getLast,List.dropLast_concat_getLast]
 have ht:t.length<=3000:=kM ht (by dsimp only;rcases hk with rfl|rfl <;> decide);have qa:=jX pr r;rw[Ki];simp only[qr];have e1:(r ++ [c,d]).getD r.length 0=c:=by simp[pC]
 have e2:(r ++ [c,d]).getD (r.length+1) 0=d:=by simp[pC]
 rcases hk with rfl|rfl
 all_goals simp[zq,zY,zv,zK,zt,ya,xb,zC,yE]
 all_goals first
  |omega
  |(split <;> (try simp) <;> omega)
theorem zf4(hr:zI l x=true):(zq l pr x).length<=qr pr x.kids+3100:=by
 have hk:=(zG hr).1;have hm:∀k,k<105->(!xX k || decide (k∈[1,2,3,4,5,44,45,46,80,81,82,83,84,66,67,68,69]) || decide (k∈[6,7,23,27,37,38,39,40,42,43,47,50,51,60,61,65,86,87,88]) || decide (k∈[8,9,10,11,12,13,14,15,16,17,18,19,20,21,22,30,32,34,41,48,62,63,104]) || decide (k∈[49,64,36]) || decide (k=29) || decide (k∈[26,35,100,101,25,70,89,28]) || decide (k∈[24,31]) || decide (k∈[85,103]) || decide (k∈[33,102]))=true:=by decide +kernel
 have h:=hm _ (Nat.lt_succ_of_le (jK hk));rw[hk] at h;simp only[Bool.not_true,Bool.false_or,wM,pJ] at h;rcases h with (((((((h|h)|h)|h)|h)|h)|h)|h)|h
 ·exact zhW hr h
 ·exact zjG hr h
 ·exact zjF hr h
 ·exact zgi hr h
 ·exact zlg hr h
 ·exact zhV hr h
 ·exact zhU hr h
 ·exact zhX hr h
 ·exact zjH hr h
end
theorem ze3{pr:Int->List UInt8}{z:Int->Nat}:∀ks:List Int,(∀k∈ks,(pr k).length+8<=3200*z k)->(qr pr ks:Int)<=3200*(ks.map fun k=>(z k:Int)).sum
 |[],_=>by simp[qr]
 |k :: r,h=>by
  have ih:=ze3 (pr:=pr) (z:=z) r (fun j hj=>h j (wP _ hj));have h1:=h k (List.mem_cons_self ..);rw[List.map_cons,List.sum_cons];unfold qr;omega
theorem zhA{l:List Nd}(hF:xB l l.length)(hR:∀x∈l,zI l x=true):∀(i f:Nat),i<l.length->(Vc l f i).length+8<=3200*(qJ l l.length).getD i 0
 |i,0,hi=>by
  obtain⟨p,hp,hsz,hpi⟩:=qN hF hi;show 0+8<=_
  omega
 |i,f+1,hi=>by
  obtain⟨p,hp,hsz,hpi⟩:=qN hF hi;have hkid:=qA hF hi;have hx:l[i]? =some l[i]:=glE hi;have hr:=hR _ (wL hi);rw[hx] at hp;simp only[Option.elim] at hp;have hs:=zax _ _ _ hp;rw[List.map_reverse,List.sum_reverse] at hs;have h1:=zf4 (pr:=Vc l f) hr;have h2:=ze3 (pr:=Vc l f) (z:=fun k=>(qJ l l.length).getD k.toNat 0) l[i].kids (fun k hk=>by
   obtain⟨h0,h1⟩:=hkid k hk;obtain⟨k',rfl⟩:=pN h0;simp only[pW];exact zhA hF hR k' f (by omega))
  rw[hs] at h2;have e2:Vc l (f+1) i=zq l (Vc l f) l[i]:=by
   show (match l[(i:Int).toNat]? with|some x=>zq l (Vc l f) x|none=>[])=_
   rw[pW,hx]
  rw[e2];omega
termination_by _ f=>f
theorem zgW{out:List Nat}:∀(rk:List Int) (p e:Int),-1<=p->(∀j:Nat,(j:Int)<=p->out.getD j 0<=j+1)->Xg out rk p=some e->-1<=e
 |[],p,e,hp,_,h=>by cases h;exact hp
 |k :: r,p,e,hp,ho,h=>by
  unfold Xg at h;split at h
  ·cases h
  ·rename_i hc;have h1:=ho p.toNat (by omega);exact zgW r _ e (by omega) (fun j hj=>ho j (by omega)) h
theorem zc8{l:List Nd}{n:Nat}(hF:xB l n):∀(i:Nat),i<n->(qJ l n).getD i 0<=i+1:=by
 intro i;induction i using Nat.strongRecOn with
 |ind i ih=>
  intro hi;obtain⟨p,hp,hsz,hpi⟩:=qN hF hi;have:=zgW _ _ _ (by omega) (fun j hj=>ih j (by omega) (by omega)) hp;omega
theorem Qi{l:List Nd}(hF:xB l l.length)(hR:∀x∈l,zI l x=true)(hn:l.length<=1000)(f i:Nat)(hi:i<l.length):(Vc l f i).length<=3200000:=by
 have h1:=zhA hF hR i f hi;have h2:=zc8 hF i hi;omega
def Kb(c:Nat)(s:yK):Prop:=∀x∈s.nodes,x.kids.length<=c
structure Kp{α:Type}(Q:α->Prop)(n:Nat)(m:PM α):Prop where
 out:∀(E:zJ) (s:yK) (a:α) (s':yK),E.toks.length=n->Kb (n+8) s->m E s=.ok a s'->Kb (n+8) s'/\Q a
abbrev Any{α:Type}:α->Prop:=fun _=>True
abbrev xn(n:Nat):List Int->Prop:=fun l=>l.length<=n
theorem Kp.bind{α β:Type}{Q:α->Prop}{P:β->Prop}{n:Nat}{m:PM α}{f:α->PM β}(hm:Kp Q n m)(hf:∀a,Q a->Kp P n (f a)):Kp P n (m >>= f):=by
 refine⟨fun E s a s' hE hk h=>?_⟩;obtain⟨x,s1,h1,h⟩:=zz h;obtain⟨k1,q1⟩:=hm.out _ _ _ _ hE hk h1;exact (hf x q1).out _ _ _ _ hE k1 h
theorem Kp.pure{α:Type}{Q:α->Prop}{n:Nat}{a:α}(h:Q a):Kp Q n (pure a:PM α):=by
 refine⟨fun E s b s' _ hk e=>?_⟩;obtain⟨rfl,rfl⟩:=yL e;exact⟨hk,h⟩
theorem Kp.ite{α:Type}{Q:α->Prop}{n:Nat}{c:Prop}[Decidable c]{a b:PM α}(ha:Kp Q n a)(hb:Kp Q n b):Kp Q n (if c then a else b):=by
 split
 ·exact ha
 ·exact hb
section
variable {n:Nat}
theorem yN{x:List UInt8}:Kp Any n (zV x):=by
 refine⟨fun E s a s' _ hk h=>?_⟩;unfold zV at h;split at h <;> cases h;exact⟨hk,trivial⟩
theorem qV{k:Nat}:Kp Any n (xT k):=by
 refine⟨fun E s a s' _ hk h=>?_⟩;unfold xT at h;split at h <;> cases h;exact⟨hk,trivial⟩
theorem jd{x:List UInt8}:Kp Any n (yF x):=by
 refine⟨fun E s a s' _ hk h=>?_⟩;unfold yF at h;split at h <;> cases h <;> exact⟨hk,trivial⟩
theorem jS:Kp Any n YP:=by
 refine⟨fun E s a s' _ hk h=>?_⟩;cases h;exact⟨hk,trivial⟩
theorem kT{l:List (List UInt8)}:Kp Any n (XQ l):=by
 refine⟨fun E s a s' _ hk h=>?_⟩;cases h;exact⟨hk,trivial⟩
theorem jy:Kp Any n jH:=by
 refine⟨fun E s a s' _ hk h=>?_⟩;cases h;exact⟨hk,trivial⟩
theorem jT:Kp Any n ZA:=by
 refine⟨fun E s a s' _ hk h=>?_⟩;cases h;exact⟨hk,trivial⟩
theorem jw{k:Int}:Kp Any n (zeW k):=by
 refine⟨fun E s a s' _ hk h=>?_⟩;cases h;exact⟨hk,trivial⟩
theorem kI{α:Type}{Q:α->Prop}:Kp Q n (zhI (α:=α)):=by
 refine⟨fun E s a s' _ hk h=>?_⟩;cases h
theorem qT{kind:Nat}{text:List UInt8}{m at_:Int}{kids:List Int}(hl:kids.length<=n+8):Kp Any n (zZ kind text m at_ kids):=by
 refine⟨fun E s a s' _ hk h=>?_⟩;cases h;refine⟨fun x hx=>?_,trivial⟩;rcases wQ.1 hx with hx|hx
 ·exact hk x hx
 ·rw[wX] at hx;rw[hx];exact hl
structure znh(n:Nat)(R:xV):Prop where
 expr:Kp Any n R.expr
 unary:Kp Any n R.unary
 bin2:Kp Any n R.bin2
 block:Kp Any n R.block
 branch:Kp Any n R.branch
 kind:Kp Any n R.kind
 pattern:Kp Any n R.pattern
theorem zcm{part:PM Int}(hp:Kp Any n part):∀(k:Nat) (acc:List Int),Kp (xn (acc.length+k)) n (vW k part acc)
 |0,_=>by
  refine⟨fun E s a s' _ _ h=>?_⟩;cases h
 |k+1,acc=>by
  unfold vW;refine Kp.bind hp (fun x _=>Kp.bind jd (fun b _=>Kp.ite ?_ (Kp.pure ?_)))
  ·have:=zcm hp k (acc ++ [x]);rw[pK] at this;rw[show acc.length+(k+1)=acc.length+[x].length+k by simp only[pO];omega];exact this
  ·simp only[xn,pK,pO];omega
theorem za3{part:PM Int}(hp:Kp Any n part):Kp (xn (n+1)) n (ul part):=by
 refine⟨fun E s a s' hE hk h=>?_⟩;have:=(zcm hp (E.toks.length+1) []).out _ _ _ _ hE hk h;refine⟨this.1,?_⟩;have h2:=this.2;simp only[xn,wJ] at h2 ⊢;omega
theorem Yh{part:PM Int}(hp:Kp Any n part):Kp (xn (n+1)) n (jl part):=by
 unfold jl;exact Kp.bind yN (fun _ _=>Kp.bind (za3 hp) (fun l hl=>Kp.bind yN (fun _ _=>Kp.pure hl)))
theorem yh{part:PM Int}(hp:Kp Any n part):Kp (xn (n+1)) n (jF part):=by
 unfold jF;refine Kp.bind jd (fun b _=>Kp.ite (Kp.bind (za3 hp) (fun l hl=>Kp.bind yN (fun _ _=>Kp.pure hl))) (Kp.pure ?_));simp[xn]
theorem yC{part:PM Int}{w:List (List UInt8)}(hp:Kp Any n part):Kp (xn (n+1)) n (do if <-XQ w then pure [] else ul part:PM (List Int)):=by
 refine Kp.bind kT (fun b _=>Kp.ite (Kp.pure ?_) (za3 hp));simp[xn]
variable {R:xV} (hR:znh n R)
include hR
theorem zb8:Kp Any n (Zj R):=by
 unfold Zj
 repeat' (first|exact yN|exact qV|exact jd|exact jS|exact kT|exact jy|exact jT|exact jw|exact kI|exact hR.expr|exact hR.unary|exact hR.bin2|exact hR.block|exact hR.branch|exact hR.kind|exact hR.pattern|exact yh hR.expr|exact yh hR.kind|exact yh hR.pattern|exact yC hR.expr|exact yC hR.kind|(refine qT ?_;first|(simp;done)|(simp[xn] at *;omega))|apply Kp.bind|intro _ _|refine Kp.ite ?_ ?_|exact Kp.pure trivial)
theorem zjK:Kp Any n (QN R):=by
 unfold QN
 repeat' (first|exact yN|exact qV|exact jd|exact jS|exact kT|exact jy|exact jT|exact jw|exact kI|exact hR.expr|exact hR.unary|exact hR.bin2|exact hR.block|exact hR.branch|exact hR.kind|exact hR.pattern|exact yh hR.expr|exact yh hR.kind|exact yh hR.pattern|exact yC hR.expr|exact yC hR.kind|(refine qT ?_;first|(simp;done)|(simp[xn] at *;omega))|apply Kp.bind|intro _ _|refine Kp.ite ?_ ?_|exact Kp.pure trivial)
theorem ze9:Kp (xn (n+2)) n (Yv R):=by
 unfold Yv;refine Kp.bind yN (fun _ _=>Kp.bind (yC (zb8 hR)) (fun l hl=>Kp.bind yN (fun _ _=>Kp.bind yN (fun _ _=>Kp.bind hR.kind (fun k _=>Kp.pure ?_)))));simp only[xn,pK,pO] at hl ⊢;omega
theorem zjI:Kp Any n (QV R):=by
 unfold QV
 repeat' (first|exact yN|exact qV|exact jd|exact jS|exact kT|exact jy|exact jT|exact jw|exact kI|exact hR.expr|exact hR.unary|exact hR.bin2|exact hR.block|exact hR.branch|exact hR.kind|exact hR.pattern|exact yh hR.expr|exact yh hR.kind|exact yh hR.pattern|exact yC hR.expr|exact yC hR.kind|(refine qT ?_;first|(simp;done)|(simp[xn] at *;omega))|apply Kp.bind|intro _ _|refine Kp.ite ?_ ?_|exact Kp.pure trivial)
theorem zja:Kp Any n (Yt R):=by
 unfold Yt
 repeat' (first|exact yN|exact qV|exact jd|exact jS|exact kT|exact jy|exact jT|exact jw|exact kI|exact hR.expr|exact hR.unary|exact hR.bin2|exact hR.block|exact hR.branch|exact hR.kind|exact hR.pattern|exact yh hR.expr|exact yh hR.kind|exact yh hR.pattern|exact yC hR.expr|exact yC hR.kind|(refine qT ?_;first|(simp;done)|(simp[xn] at *;omega))|apply Kp.bind|intro _ _|refine Kp.ite ?_ ?_|exact Kp.pure trivial)
theorem zbI:∀(k:Nat) (acc:List Int),Kp (fun x:List Int×Int=>x.1.length<=acc.length+k) n (qR R k acc)
 |0,_=>by
  refine⟨fun E s a s' _ _ h=>?_⟩;cases h
 |k+1,acc=>by
  unfold qR;refine Kp.bind kT (fun b _=>Kp.ite (Kp.pure (by simp)) (Kp.bind (zja hR) (fun x _=>?_)));have hs:=zbI k (acc ++ [x.1]);rw[pK,pO,show acc.length+1+k=acc.length+(k+1) by omega] at hs;refine Kp.bind kT (fun b _=>Kp.ite (Kp.pure ?_) (Kp.bind yN (fun _ _=>hs)));simp only[pK,pO];omega
theorem zil:Kp Any n (ZT R):=by
 unfold ZT;refine Kp.bind yN (fun t _=>Kp.bind (Q:=fun x:List Int×Int=>x.1.length<=n+1) ?_ (fun x hx=>Kp.bind yN (fun _ _=>qT (by omega))));refine⟨fun E s a s' hE hk h=>?_⟩;have:=(zbI hR (E.toks.length+1) []).out _ _ _ _ hE hk h;refine⟨this.1,?_⟩;have h2:=this.2;simp only[wJ] at h2;omega
omit hR in
theorem zhJ{tight:PM Int}(ht:Kp Any n tight)(lv:Nat):∀(k:Nat) (left:Int),Kp Any n (Ve lv tight k left)
 |0,_=>by
  refine⟨fun E s a s' _ _ h=>?_⟩;cases h
 |k+1,left=>by
  unfold Ve;refine Kp.bind kT (fun b _=>Kp.ite (Kp.bind jT (fun t _=>Kp.bind ht (fun r _=>Kp.bind (qT (by simp only[pQ,wJ];omega)) (fun x _=>Kp.ite (Kp.pure trivial) (zhJ ht lv k x))))) (Kp.pure trivial))
omit hR in
theorem zbn{tight:PM Int}(ht:Kp Any n tight)(lv:Nat):Kp Any n (ZL lv tight):=by
 unfold ZL;refine Kp.bind ht (fun l _=>?_);refine⟨fun E s a s' hE hk h=>?_⟩;exact (zhJ ht lv _ l).out _ _ _ _ hE hk h
theorem zeK:∀(k:Nat) (first:Bool) (acc:List Int),Kp (xn (acc.length+k)) n (jG R k first acc)
 |0,_,acc=>by
  unfold jG;exact Kp.pure (by simp[xn])
 |k+1,first,acc=>by
  unfold jG;refine Kp.bind (Q:=Any) (Kp.ite (Kp.pure trivial) (Kp.bind yN (fun _ _=>Kp.pure trivial))) (fun _ _=>Kp.bind hR.expr (fun x _=>?_));have hs:=zeK k false (acc ++ [x]);rw[pK,pO,show acc.length+1+k=acc.length+(k+1) by omega] at hs;exact hs
theorem ziY(t:xQ)(w:Nat×Int)(hw:w.2<=3):Kp Any n (vA R t w):=by
 unfold vA;refine Kp.bind (Q:=xn 3) ?_ (fun l hl=>qT (by simp only[xn] at hl;omega));refine Kp.ite (Kp.bind hR.unary (fun x _=>Kp.pure (by simp[xn]))) (Kp.ite (Kp.bind yN (fun _ _=>Kp.bind (zeK hR w.2.toNat true []) (fun l hl=>Kp.bind yN (fun _ _=>Kp.pure ?_)))) (Kp.pure (by simp[xn])));simp only[xn,wJ] at hl ⊢;omega
theorem zkZ:Kp Any n (zb9 R):=by
 unfold zb9
 repeat' (first|exact yN|exact qV|exact jd|exact jS|exact kT|exact jy|exact jT|exact jw|exact kI|exact hR.expr|exact hR.unary|exact hR.bin2|exact hR.block|exact hR.branch|exact hR.kind|exact hR.pattern|exact yh hR.expr|exact yh hR.kind|exact yh hR.pattern|exact yC hR.expr|exact yC hR.kind|(refine qT ?_;first|(simp;done)|(simp[xn] at *;omega))|apply Kp.bind|intro _ _|refine Kp.ite ?_ ?_|exact Kp.pure trivial)
theorem zlv:Kp Any n (zca R):=by
 unfold zca
 repeat' (first|exact yN|exact qV|exact jd|exact jS|exact kT|exact jy|exact jT|exact jw|exact kI|exact hR.expr|exact hR.unary|exact hR.bin2|exact hR.block|exact hR.branch|exact hR.kind|exact hR.pattern|exact yh hR.expr|exact yh hR.kind|exact yh hR.pattern|exact yC hR.expr|exact yC hR.kind|(refine qT ?_;first|(simp;done)|(simp[xn] at *;omega))|apply Kp.bind|intro _ _|refine Kp.ite ?_ ?_|exact Kp.pure trivial)
theorem zeI:∀(k:Nat) (acc:List Int),Kp (xn (acc.length+k)) n (Ys R k acc)
 |0,_=>by
  refine⟨fun E s a s' _ _ h=>?_⟩;cases h
 |k+1,acc=>by
  unfold Ys;have hs:∀r:Int,Kp (xn (acc.length+(k+1))) n (Ys R k (acc ++ [r])):=fun r=>by
   have hs:=zeI k (acc ++ [r]);rw[pK,pO,show acc.length+1+k=acc.length+(k+1) by omega] at hs;exact hs
  have hp:∀r:Int,Kp (xn (acc.length+(k+1))) n (pure (acc ++ [r]):PM (List Int)):=fun r=>Kp.pure (by simp only[xn,pK,pO];omega)
  repeat' (first|exact hs _|exact hp _|exact yN|exact qV|exact jd|exact jS|exact hR.expr|(refine qT ?_;first|(simp;done)|(simp[xn] at *;omega))|apply Kp.bind|intro _ _|refine Kp.ite ?_ ?_)
theorem zfG:Kp (xn (n+1)) n (uk R):=by
 unfold uk;refine Kp.bind yN (fun t _=>Kp.bind (Q:=xn (n+1)) ?_ (fun l hl=>Kp.bind yN (fun _ _=>Kp.pure hl)));refine⟨fun E s a s' hE hk h=>?_⟩;have:=(zeI hR (E.toks.length+1) []).out _ _ _ _ hE hk h;refine⟨this.1,?_⟩;have h2:=this.2;simp only[xn,wJ] at h2 ⊢;omega
theorem zaj:Kp Any n (vF R):=by
 unfold vF
 repeat' (first|exact yN|exact qV|exact jd|exact jS|exact kT|exact jy|exact jT|exact jw|exact kI|exact hR.expr|exact hR.unary|exact hR.bin2|exact hR.block|exact hR.branch|exact hR.kind|exact hR.pattern|exact yh hR.expr|exact yh hR.kind|exact yh hR.pattern|exact yC hR.expr|exact yC hR.kind|(refine qT ?_;first|(simp;done)|(simp[xn] at *;omega))|apply Kp.bind|intro _ _|refine Kp.ite ?_ ?_|exact Kp.pure trivial)
theorem YX(t:xQ):Kp Any n (qm R t):=by
 unfold qm;refine Kp.bind kT (fun _ _=>Kp.ite (zaj hR) ?_)
 repeat' (first|exact yN|exact qV|exact jd|exact hR.expr|exact hR.block|exact hR.kind|exact Yh (zlv hR)|exact Yh (zkZ hR)|exact ze9 hR|exact zfG hR|(refine qT ?_;first|(simp;done)|(simp[xn] at *;omega))|apply Kp.bind|intro _ _|refine Kp.ite ?_ ?_)
omit hR in
theorem zfr{s:List UInt8}{w:Nat×Int}(h:vg s=some w):w.2<=3:=by
 unfold vg at h;cases hf:zK.find? (fun w=>w.1 == s) with
 |none=>rw[hf] at h;cases h
 |some x=>
  rw[hf] at h;cases h;have:=List.mem_of_find?_eq_some hf;revert x;intro x _ hx;have:∀y∈zK,y.2.2<=3:=by decide
  exact this x hx
theorem zj0:Kp Any n (Yw R):=by
 unfold Yw;refine Kp.bind jS (fun t _=>?_)
 repeat' (first|exact yN|exact jd|exact jy|exact hR.expr|exact yh hR.expr|exact YX hR _|exact Kp.pure trivial|(refine qT ?_;first|(simp;done)|(simp[xn] at *;omega))|apply Kp.bind|intro _ _|refine Kp.ite ?_ ?_)
 split
 ·rename_i w hw;refine Kp.ite (Kp.bind jy (fun _ _=>ziY hR t w (zfr hw))) (YX hR t)
 ·exact YX hR t
theorem zeV:∀(k:Nat) (left:Int),Kp Any n (Yu R k left)
 |0,_=>by
  refine⟨fun E s a s' _ _ h=>?_⟩;cases h
 |k+1,left=>by
  unfold Yu;have hs:∀r:Int,Kp Any n (Yu R k r):=fun r=>zeV k r
  repeat' (first|exact hs _|exact yN|exact qV|exact jd|exact jS|exact yC hR.expr|exact Kp.pure trivial|(refine qT ?_;first|(simp;done)|(simp[xn] at *;omega))|apply Kp.bind|intro _ _|refine Kp.ite ?_ ?_)
theorem zbB:Kp Any n (Zu R):=by
 unfold Zu;refine Kp.bind kT (fun _ _=>Kp.ite ?_ ?_)
 ·repeat' (first|exact yN|exact qV|exact jd|exact jS|exact kT|exact jy|exact jT|exact jw|exact kI|exact hR.expr|exact hR.unary|exact hR.bin2|exact hR.block|exact hR.branch|exact hR.kind|exact hR.pattern|exact yh hR.expr|exact yh hR.kind|exact yh hR.pattern|exact yC hR.expr|exact yC hR.kind|(refine qT ?_;first|(simp;done)|(simp[xn] at *;omega))|apply Kp.bind|intro _ _|refine Kp.ite ?_ ?_|exact Kp.pure trivial)
 ·refine Kp.bind (zj0 hR) (fun l _=>?_);refine⟨fun E s a s' hE hk h=>?_⟩;exact (zeV hR _ l).out _ _ _ _ hE hk h
theorem zcB:Kp Any n (XF R):=by
 unfold XF;refine Kp.bind kT (fun _ _=>Kp.ite ?_ ?_)
 ·repeat' (first|exact yN|exact qV|exact jd|exact jS|exact kT|exact jy|exact jT|exact jw|exact kI|exact hR.expr|exact hR.unary|exact hR.bin2|exact hR.block|exact hR.branch|exact hR.kind|exact hR.pattern|exact yh hR.expr|exact yh hR.kind|exact yh hR.pattern|exact yC hR.expr|exact yC hR.kind|(refine qT ?_;first|(simp;done)|(simp[xn] at *;omega))|apply Kp.bind|intro _ _|refine Kp.ite ?_ ?_|exact Kp.pure trivial)
 ·exact zbn (zbn (zbn (zbB hR) 4) 3) 2
theorem zjX:Kp Any n (zic R):=zbn (zbn (zcB hR) 1) 0
theorem zdQ:Kp Any n (kV R):=by
 unfold kV
 repeat' (first|exact yN|exact qV|exact jd|exact jS|exact kT|exact jy|exact jT|exact jw|exact kI|exact hR.expr|exact hR.unary|exact hR.bin2|exact hR.block|exact hR.branch|exact hR.kind|exact hR.pattern|exact yh hR.expr|exact yh hR.kind|exact yh hR.pattern|exact yC hR.expr|exact yC hR.kind|(refine qT ?_;first|(simp;done)|(simp[xn] at *;omega))|apply Kp.bind|intro _ _|refine Kp.ite ?_ ?_|exact Kp.pure trivial)
omit hR in
theorem ZK:∀k:Nat,znh n (YN k)
 |0=>⟨⟨fun _ _ _ _ _ _ h=>by (cases h)⟩,⟨fun _ _ _ _ _ _ h=>by (cases h)⟩,⟨fun _ _ _ _ _ _ h=>by (cases h)⟩,⟨fun _ _ _ _ _ _ h=>by (cases h)⟩,⟨fun _ _ _ _ _ _ h=>by (cases h)⟩,⟨fun _ _ _ _ _ _ h=>by (cases h)⟩,⟨fun _ _ _ _ _ _ h=>by (cases h)⟩⟩
 |k+1=>⟨zjX (ZK k),zbB (ZK k),zcB (ZK k),zil (ZK k),zaj (ZK k),zjI (ZK k),zdQ (ZK k)⟩
theorem zjM:Kp Any n (Xt R):=by
 unfold Xt
 repeat' (first|exact yN|exact qV|exact jd|exact jS|exact hR.expr|exact hR.block|exact hR.kind|exact Yh (zb8 hR)|exact Yh (zjK hR)|exact ze9 hR|(refine qT ?_;first|(simp;done)|(simp[xn] at *;omega))|apply Kp.bind|intro _ _|refine Kp.ite ?_ ?_)
end
theorem zct{R:xV}(hR:yQ R):Gd 1 Vd (Xt R):=by
 intro E s a s' h0 hw h;have N:=Nx.refl h0 hw;unfold Xt at h;obtain⟨t,s0,h1,h⟩:=zz h;cases h1;obtain⟨a1,sa1,ha1,h⟩:=zz h;have na1:=Zm N.le N.wf ha1;replace N:=N.trans na1;cases a1 with
 |true=>
  rw[if_pos rfl] at h;obtain⟨m,sm,hm,h⟩:=zz h;obtain⟨nm,vm⟩:=(yv (by decide)) N.le N.wf hm;replace N:=N.trans nm;obtain⟨l,sl,hl,h⟩:=zz h;obtain⟨nl,vl⟩:=(jO (uQ hR)) N.le N.wf hl;replace N:=N.trans nl;obtain⟨nz,vz⟩:=zR N.le N.wf (vl) h;exact⟨(N.trans nz).down (by decide),vz⟩
 |false=>
 rw[if_neg (by decide)] at h;obtain⟨a2,sa2,ha2,h⟩:=zz h;have na2:=Zm N.le N.wf ha2;replace N:=N.trans na2;cases a2 with
 |true=>
  rw[if_pos rfl] at h;obtain⟨m,sm,hm,h⟩:=zz h;obtain⟨nm,vm⟩:=(yv (by decide)) N.le N.wf hm;replace N:=N.trans nm;obtain⟨l,sl,hl,h⟩:=zz h;obtain⟨nl,vl⟩:=(jO (za5 hR)) N.le N.wf hl;replace N:=N.trans nl;obtain⟨nz,vz⟩:=zR N.le N.wf (vl) h;exact⟨(N.trans nz).down (by decide),vz⟩
 |false=>
 rw[if_neg (by decide)] at h;obtain⟨a3,sa3,ha3,h⟩:=zz h;have na3:=Zm N.le N.wf ha3;replace N:=N.trans na3;cases a3 with
 |true=>
  rw[if_pos rfl] at h;obtain⟨q,sq,hq,h⟩:=zz h;obtain⟨nq,vq⟩:=zr N.le N.wf hq;replace N:=N.trans nq;obtain⟨m,sm,hm,h⟩:=zz h;obtain⟨nm,vm⟩:=(yv (by decide)) N.le N.wf hm;replace N:=N.trans nm;obtain⟨l,sl,hl,h⟩:=zz h;obtain⟨nl,vl⟩:=(Zs hR) N.le N.wf hl;replace N:=N.trans nl;obtain⟨r,sr,hr,h⟩:=zz h;obtain⟨nr,vr⟩:=zr N.le N.wf hr;replace N:=N.trans nr;replace vl:=vl.later nr;obtain⟨nz,vz⟩:=zR N.le N.wf (vl) h;exact⟨(N.trans nz).down (by decide),vz⟩
 |false=>
 rw[if_neg (by decide)] at h;obtain⟨a4,sa4,ha4,h⟩:=zz h;have na4:=Zm N.le N.wf ha4;replace N:=N.trans na4;cases a4 with
 |true=>
  rw[if_pos rfl] at h;obtain⟨m,sm,hm,h⟩:=zz h;obtain⟨nm,vm⟩:=(yv (by decide)) N.le N.wf hm;replace N:=N.trans nm;obtain⟨q,sq,hq,h⟩:=zz h;obtain⟨nq,vq⟩:=zr N.le N.wf hq;replace N:=N.trans nq;obtain⟨k,sk,hk,h⟩:=zz h;obtain⟨nk,vk⟩:=hR.kind N.le N.wf hk;replace N:=N.trans nk;obtain⟨r,sr,hr,h⟩:=zz h;obtain⟨nr,vr⟩:=zr N.le N.wf hr;replace N:=N.trans nr;replace vk:=vk.later nr;obtain⟨x,sx,hx,h⟩:=zz h;obtain⟨nx,vx⟩:=hR.expr N.le N.wf hx;replace N:=N.trans nx;replace vk:=vk.later nx;obtain⟨y,sy,hy,h⟩:=zz h;obtain⟨ny,vy⟩:=zr N.le N.wf hy;replace N:=N.trans ny;replace vk:=vk.later ny;replace vx:=vx.later ny;obtain⟨nz,vz⟩:=zR N.le N.wf (Ji vk (Yl vx)) h;exact⟨(N.trans nz).down (by decide),vz⟩
 |false=>
 rw[if_neg (by decide)] at h;obtain⟨b,sb,hb,h⟩:=zz h;obtain⟨nb,_⟩:=zjD N.le N.wf hb;replace N:=N.trans nb;obtain⟨q,sq,hq,h⟩:=zz h;obtain⟨nq,vq⟩:=zr N.le N.wf hq;replace N:=N.trans nq;obtain⟨m,sm,hm,h⟩:=zz h;obtain⟨nm,vm⟩:=(yv (by decide)) N.le N.wf hm;replace N:=N.trans nm;obtain⟨l,sl,hl,h⟩:=zz h;obtain⟨nl,vl⟩:=(Zs hR) N.le N.wf hl;replace N:=N.trans nl;obtain⟨c,sc,hc,h⟩:=zz h;obtain⟨nc,vc⟩:=hR.block N.le N.wf hc;replace N:=N.trans nc;replace vl:=vl.later nc;obtain⟨nz,vz⟩:=zR N.le N.wf (vda vl vc) h;exact⟨(N.trans nz).down (by decide),vz⟩
structure zkv(n:Nat)(s:yK):Prop where
 kids:Kb (n+8) s
 wf:WFs s
 its:Jy s s.items
 nodes:s.nodes.length<=n
 len:s.items.length<=n
theorem QO{m n:Nat}:∀(k:Nat) (E:zJ) (s s':yK),E.toks.length=n->s.next<=n->WFs s->Kb (n+8) s->Jy s s.items->s.nodes.length<=s.next->s.items.length<=s.next->Zk (YN m) k E s=.ok () s'->zkv n s'
 |0,_,_,_,_,_,_,_,_,_,_,h=>by cases h
 |k+1,E,s,s',hE,h0,hw,hk,hi,hn,hl,h=>by
  unfold Zk at h;split at h
  ·rename_i hlt;cases hm:Xt (YN m) E s with
   |bad p=>rw[hm] at h;cases h
   |ok i s1=>
    rw[hm] at h;dsimp only at h;obtain⟨N,v⟩:=zct (kf m) (Nat.le_of_lt hlt) hw hm;have hk1:=((zjM (ZK (n:=n) m)).out _ _ _ _ hE hk hm).1;have hcr:=N.cr;have hle:=N.le;have hnx:=N.next;have hit:=N.it;obtain⟨q,hq⟩:=N.pre;have hql:s.nodes.length<=s1.nodes.length:=by rw[hq,pK];omega
    refine QO k E {s1 with items:=s1.items ++ [i]} s' hE (by dsimp only;omega) N.wf hk1 ?_ (by dsimp only;omega) ?_ h
    ·intro x hx;dsimp only at hx;rw[hit] at hx;rcases wQ.1 hx with hx|hx
     ·exact show Vd s1 x from (hi x hx).later N
     ·rw[wX] at hx;rw[hx];exact v
    ·dsimp only;rw[hit,pK,pO];omega
  ·cases h;exact⟨hk,hw,hi,by omega,by omega⟩
theorem zaK{l:List xQ}{len:Nat}{s:yK}(h:vV l len=.ok () s):zkv l.length s:=
 QO (n:=l.length) _ ⟨l,len⟩ _ _ rfl (wE _) (fun i x hx=>by simp at hx) (fun x hx=>by cases hx) (fun x hx=>by cases hx) (pG _) (pG _) h
theorem zgT{s:List UInt8}{k:Nat}{t:List UInt8}{m:Nat}(h:xj s=some (k,t,m))(hk:k=3):ka t=true:=by
 unfold xj at h;split at h
 ·cases h
 ·rename_i c r;dsimp only at h;split at h
  ·split at h
   ·injection h with h;injection h with h _;split at h <;> omega
   ·cases h
  ·split at h
   ·split at h
    ·injection h with h;injection h with h _;omega
    ·cases h
   ·split at h
    ·split at h
     ·rename_i hn;injection h with h;injection h with _ h;injection h with h _;rw[<-h];exact hn
     ·cases h
    ·split at h
     ·cases hq:jp (c :: r) with
      |none=>rw[hq] at h;cases h
      |some x=>
       rw[hq] at h;injection h with h;injection h with h _;omega
     ·cases hq:yc.find? (fun g=>qe g (c :: r)) with
      |none=>rw[hq] at h;cases h
      |some x=>
       rw[hq] at h;injection h with h;injection h with h _;omega
theorem zbP:∀(f n at_:Nat) (r:List UInt8),n<=1200->(∀t∈(ZI f n at_ r).1,t.kind=3->ka t.text=true)/\n+(ZI f n at_ r).1.length<=1200
 |0,_,_,_,hn=>by
  unfold ZI;exact⟨fun t ht=>by (cases ht),hn⟩
 |f+1,n,at_,r,hn=>by
  unfold ZI;dsimp only;split
  ·exact⟨fun t ht=>by (cases ht),hn⟩
  ·split
   ·exact⟨fun t ht=>by (cases ht),hn⟩
   ·rename_i k t m h1;split
    ·exact⟨fun t ht=>by (cases ht),hn⟩
    ·rename_i hne;split
     ·have ih:=zbP f (n+1) (at_+zU false r+m) (r.drop (zU false r) |>.drop m) (by omega);refine⟨fun x hx hk=>?_,?_⟩
      ·rcases pT.1 hx with rfl|hx
       ·exact zgT h1 hk
       ·exact ih.1 x hx hk
      ·have:=ih.2;simp only[pQ];omega
     ·exact⟨fun t ht=>by (cases ht),hn⟩
theorem zbX(s:List UInt8):(∀t∈(ju s).1,t.kind=3->ka t.text=true)/\(ju s).1.length<=1200:=by
 unfold ju;split
 ·exact⟨fun t ht=>by (cases ht),wE _⟩
 ·have:=zbP (s.length+1) 0 0 s (by omega);rw[Nat.zero_add] at this;exact this
def YJ(k:Nat)(t:List UInt8):List UInt8×Nat:=
 if k=4 then (if (xr t).2=0 then ((xr t).1,0) else ([],4)) else
 if t=[]\/20<t.length\/t.head? =some 34 then ([],4) else
 match xj t with
 |some (k',_,n)=>if n=t.length/\k'=k then (t,0) else ([],4)
 |none=>([],4)
end Lode
namespace Go.Proofs.YtcagibbaeageoaaGreatDoor
section
open Go.RowKit Lode Go.Shelf
open Go.Proofs.Tryz
theorem VY{c:UInt8}(h:zN c=true):jA c=true/\c≠10/\c≠35/\c≠32/\c≠34:=by
 simp only[zN,pM,pJ] at h;refine⟨by simp[jA];omega,?_,?_,?_,?_⟩ <;> (rintro rfl;revert h;decide)
theorem zjN{c:UInt8}(h:vB c=true):jA c=true/\c≠10/\c≠35/\c≠32/\c≠34:=by
 simp only[vB,pM,pJ] at h;refine⟨by simp[jA];omega,?_,?_,?_,?_⟩ <;> (rintro rfl;revert h;decide)
theorem Qr{c:UInt8}(h:zM c=true):jA c=true/\c≠10/\c≠35/\c≠32/\c≠34:=by
 simp only[zM,pM,pJ] at h;refine⟨by simp[jA];omega,?_,?_,?_,?_⟩ <;> (rintro rfl;revert h;decide)
theorem zex{p q:UInt8->Bool}(h:∀c,p c=true->q c=true):∀l:List UInt8,l.all p=true->l.all q=true:=by
 intro l hl;rw[pY] at hl ⊢;exact fun c hc=>h c (hl c hc)
theorem zfE:∀g,g∈yc->g.all jA=true/\g.length<=2/\∃c r,g=c :: r/\c≠10/\c≠35/\c≠32/\c≠34:=by
 intro g hg;simp only[yc,pT,pS,or_false] at hg;rcases hg with rfl|rfl|rfl|rfl|rfl|rfl|rfl|rfl|rfl|rfl|rfl|rfl|rfl|rfl|rfl|rfl|rfl|rfl|rfl|rfl|rfl|rfl|rfl|rfl|rfl <;> exact⟨by decide,by decide,_,_,rfl,by decide,by decide,by decide,by decide⟩
theorem Kn:∀(g r:List UInt8),qe g r=true->r.take g.length=g
 |[],_,_=>by simp
 |_ :: _,[],h=>by simp[qe] at h
 |a :: g,b :: r,h=>by
  simp only[qe,pM,pJ] at h;simp[h.1,Kn g r h.2]
theorem zeZ{l:List UInt8}(h:ka l=true):l.length<=10:=by
 simp only[ka,pM,Bool.not_eq_true',pJ,wM] at h;obtain⟨⟨⟨h1,h2⟩,h3⟩,h4⟩:=h;cases l with
 |nil=>simp
 |cons c l=>
  rcases h4 with h4|h4
  ·omega
  ·simp only[List.head?_cons] at h4;have hc:c≠48:=fun e=>by subst e;simp at h4
   simp only[List.all_cons,pM] at h2;have hd:=(jn c).1 h2.1;have h49:49<=c.toNat:=by
    rcases Nat.lt_or_ge c.toNat 49 with h|h
    ·exfalso;apply hc;apply UInt8.toNat_inj.1;have:(48:UInt8).toNat=48:=rfl;omega
    ·exact h
   have:=zcY c l h49;rw[vJ] at h3;have hp:10 ^ l.length<=10 ^ 9:=by omega
   have:=(Nat.pow_le_pow_iff_right (by omega:1<10)).1 hp;simp;omega
theorem zc2{c:UInt8}{r:List UInt8}{k m:Nat}{x:List UInt8}(h:xj (c :: r)=some (k,x,m))(hk:k≠4):
 x=(c :: r).take m/\((c :: r).take m).all jA=true/\m<=20/\c≠10/\c≠35/\c≠32/\c≠34:=by
 have sd:∀c,(zN c || zM c)=true->jA c=true:=fun c h=>by
  rw[wM] at h;rcases h with h|h
  ·exact (VY h).1
  ·exact (Qr h).1
 simp only[xj] at h;split at h
 ·rename_i hs;have hb:=VY hs;split at h
  ·rename_i hn;cases h;refine⟨rfl,?_,by omega,hb.2⟩;rw[Nat.add_comm,List.take_succ_cons,List.all_cons,hb.1,zex sd _ (ZH _ r)];rfl
  ·cases h
 ·split at h
  ·rename_i hs;have hb:=zjN hs;split at h
   ·rename_i hn;cases h;refine⟨rfl,?_,by omega,hb.2⟩;rw[Nat.add_comm,List.take_succ_cons,List.all_cons,hb.1,zex sd _ (ZH _ r)];rfl
   ·cases h
  ·split at h
   ·rename_i hs;have hb:=Qr hs;split at h
    ·rename_i hn;cases h;have hl:=zeZ hn;have hr:=Zg zM r;refine⟨rfl,?_,by simp at hl;omega,hb.2⟩;rw[Nat.add_comm,List.take_succ_cons,List.all_cons,hb.1,zex (fun c h=>(Qr h).1) _ (ZH _ r)];rfl
    ·cases h
   ·split at h
    ·cases hq:Lode.jp (c :: r) with
     |none=>rw[hq] at h;cases h
     |some y=>rw[hq] at h;cases h;exact absurd rfl hk
    ·rename_i h34;cases hg:yc.find? (fun g=>qe g (c :: r)) with
     |none=>rw[hg] at h;cases h
     |some g=>
      rw[hg] at h;cases h;have h1:=List.find?_some hg;obtain⟨g1,g2,d,q,rfl,g3⟩:=zfE _ (List.mem_of_find?_eq_some hg);have ht:=Kn _ _ h1;have hdc:d=c:=by
       simp only[qe,pM,pJ] at h1;exact h1.1
      refine⟨ht.symm,by rw[ht];exact g1,by omega,?_⟩;rw[<-hdc];exact g3
theorem uG.pre{s:List UInt8}{r:List xQ×Nat×Nat}{L:List xQ}{a:Nat}(h:uG s r L a)(h0:r.2.2=0):∃M,r.1=L ++ M:=by
 obtain⟨a',f,_,_,_,_,e⟩:=h;generalize ZI f L.length a' (s.drop a')=x at e;subst e;unfold kj at h0 ⊢;by_cases hx:x.2.2=0
 ·rw[if_pos hx];exact⟨x.1,rfl⟩
 ·rw[if_neg hx] at h0;exact absurd h0 hx
theorem zdo{s:List UInt8}(h:(Lode.ju s).2.2=0):(xP s).2=0:=by
 unfold Lode.ju at h;split at h
 ·exact h
 ·rename_i hc;simpa using hc
theorem Qe{s:List UInt8}(h:(Lode.ju s).2.2=0){k:Nat}{t:List UInt8}(hr:(Lode.ju s).1=[⟨k,t,0⟩]):∃m,xj s=some (k,t,m):=by
 have hi:=uG.start (zdo h);have hg:=uT false s;rcases Nat.lt_or_ge (zU false s) s.length with hlt|hge
 ·cases ht:xj (s.drop (zU false s)) with
  |none=>have:=hi.bad hlt ht;rw[this] at h;cases h
  |some x=>
   obtain⟨k',t',m⟩:=x;obtain⟨M,hM⟩:=(hi.next hlt ht (by simp)).pre h;rw[hr] at hM;simp only[wU,wO,List.cons.injEq,xQ.mk.injEq] at hM;obtain⟨⟨rfl,rfl,h0⟩,_⟩:=hM;have h0:zU false s=0:=by omega
   rw[h0,List.drop_zero] at ht;exact⟨m,ht⟩
 ·have:=hi.done hge;rw[this] at hr;cases hr
theorem zia{c:UInt8}{r:List UInt8}(h1:c≠10)(h2:c≠35)(h3:c≠32):zU false (c :: r)=0:=by simp[zU,h1,h2,h3]
theorem zhn:Lode.ju []=([],0,0):=by decide +kernel
theorem zge(k:Nat)(t:List UInt8):xD k t=YJ k t:=by
 unfold xD YJ;by_cases hk:k=4
 ·rw[if_pos hk,if_pos hk]
 ·rw[if_neg hk,if_neg hk];cases t with
  |nil=>rw[if_pos (Or.inl rfl),if_neg (by rintro ⟨h,_⟩;rw[zhn] at h;cases h)]
  |cons c r=>
   cases ht:xj (c :: r) with
   |none=>
    rw[if_neg (by rintro ⟨h1,h2⟩;obtain⟨m,h⟩:=Qe h2 h1;rw[ht] at h;cases h)];split <;> rfl
   |some x=>
    obtain⟨k',x,m⟩:=x;have hw:=vI ht;by_cases h4:k'=4
    ·rw[if_neg (by rintro ⟨h1,h2⟩;obtain⟨m,h⟩:=Qe h2 h1;rw[ht] at h;cases h;exact hk h4)];split
     ·rfl
     ·show ([],4)=if m=(c :: r).length/\k'=k then (c :: r,0) else ([],4)
      rw[if_neg (by rintro ⟨_,h⟩;exact hk (h▸h4))]
    ·obtain⟨hx,hall,hm,hc⟩:=zc2 ht h4;by_cases hfit:m=(c :: r).length/\k'=k
     ·obtain⟨hm2,rfl⟩:=hfit;have htk:(c :: r).take m=c :: r:=by rw[hm2];exact List.take_length
      rw[htk] at hx hall;have hchk:(xP (c :: r)).2=0:=by
       unfold xP;rw[if_neg (by omega)];have:=YU (c :: r);rw[hall] at this;rw[of_decide_eq_true this]
      have hi:=uG.start hchk;rw[zia hc.1 hc.2.1 hc.2.2.1] at hi;have hn:=hi.next (by simp) (by rw[List.drop_zero];exact ht) (by simp);have hd:=hn.done (by rw[hm2];omega);rw[if_pos (by rw[hd,hx];exact⟨rfl,rfl⟩),if_neg (by
       rintro (h|h|h)
       ·cases h
       ·omega
       ·simp only[List.head?_cons,wR] at h;exact hc.2.2.2 h)]
      show (c :: r,0)=if m=(c :: r).length/\k'=k' then (c :: r,0) else ([],4)
      rw[if_pos ⟨hm2,rfl⟩]
     ·rw[if_neg (by
       rintro ⟨h1,h2⟩;obtain⟨m',h⟩:=Qe h2 h1;rw[ht] at h;cases h;apply hfit;refine⟨?_,rfl⟩;have:=congrArg List.length hx;rw[gJ] at this;omega)]
      split
      ·rfl
      ·show ([],4)=if m=(c :: r).length/\k'=k then (c :: r,0) else ([],4)
       rw[if_neg hfit]
end
end Go.Proofs.YtcagibbaeageoaaGreatDoor
namespace Lode
def k1:List UInt8:=[114,111,111,116,32,97,58,32,105,110,116,32,61,32,49,32,43,32,98,32,42,32,50,59]
def k2:List UInt8:=[102,117,110,32,102,40,41,58,117,110,105,116,123,40,103,41,40,40,49,41,41,59,125]
def k3:List UInt8:=[102,117,110,32,102,32,40,32,41,32,58,32,117,110,105,116,32,123,32,40,103,41,40,40,49,41,41,59,32,59,32,125]
def k4:List UInt8:=[114,111,111,116,32,99,58,32,99,104,97,110,32,105,110,116,32,61,32,99,104,97,110,32,105,110,116,40,57,41,59]
def k5:List UInt8:=[102,117,110,32,102,40,41,58,32,117,110,105,116,32,123,32,97,40,41,32,58,61,32,49,59,32,125]
def k6:List UInt8:=[102,117,110,32,102,40,41,58,32,117,110,105,116,32,123,32,40,84,41,40,49,41,59,32,45,32,45,97,59,32,40,116,104,114,111,119,32,97,41,46,102,59,32,40,110,111,116,32,97,41,32,61,61,32,98,32,125]
def k2o:List UInt8:=[102,117,110,32,102,40,41,58,32,117,110,105,116,32,123,32,103,40,49,41,59,32,125] ++ [10]
def k6o:List UInt8:=[102,117,110,32,102,40,41,58,32,117,110,105,116,32,123,32,40,84,41,40,49,41,59,32,45,32,45,97,59,32,40,116,104,114,111,119,32,97,41,46,102,59,32,40,110,111,116,32,97,41,32,61,61,32,98,32,125] ++ [10]
theorem kn1:(xl k1).2=(0,0):=by decide +kernel
theorem znM:(xl k1).1.nodes.length=7:=by decide +kernel
theorem znK:zdh (xl k1).1 5=(5,0):=by decide +kernel
theorem znJ:zaS (xl k1).1 4=(5,0):=by decide +kernel
theorem znL:zhH (xl k1).1 3=([6,5,4,3],0):=by decide +kernel
theorem znO:zbd (xl k1).1 20=(4,0):=by decide +kernel
theorem kn2:ui k2=(k2o,0,0):=by decide +kernel
theorem kn3:(ui k3).2=(29,4):=by decide +kernel
theorem kn4:(xl k4).2=(19,3):=by decide +kernel
theorem kn5:(xl k5).2=(20,4):=by decide +kernel
theorem kn6:(xl k6).2.2=0:=by decide +kernel
theorem znF:uD (xl k6).1=(k6o,0):=by decide +kernel
def okB(t:yl):Bool:=(t.nodes.all fun x=>decide (x.kind<=255) && decide (x.text.length<=100) && decide (x.kids.length<=1000)) && decide (t.nodes.length<=1000) && decide (t.items.length<=1000)
theorem znN:okB (xl k1).1=true:=by decide +kernel
theorem znI:okB (xl k2).1=true:=by decide +kernel
theorem znH:okB (xl k3).1=true:=by decide +kernel
theorem znG:okB (xl k6).1=true:=by decide +kernel
end Lode
