/-
  A part of the proof: contracts of functions; no conditions.
-/
import Derived.Test.YtcagibbaeageoaaGreatDoorCH
import Derived.Test.YtcagibbaeageoaaGreatDoorCL
import Derived.Deep.Upon
import Derived.Deep.RegionHeld3
set_option maxRecDepth 100000
set_option maxHeartbeats 40000000
set_option linter.unusedSimpArgs false
set_option linter.unusedVariables false
namespace Go.Proofs.YtcagibbaeageoaaGreatDoor
section
open Go.RowKit Lode Go.Shelf
attribute [local go_sem ↓] Go.wp_at_zero Go.wp_at_succ
open Go.Proofs.Tryz
theorem yv{a b:Bool}(h:a=true↔b=true):Ending.returned (.bool a)=.returned (.bool b):=by rw[pP.2 h]
theorem zjV(k:Nat)(w:World):Calls prog 151 #[.int .u8 k] w fun e w'=>e=.returned (.tuple #[.int .i64 ((qK k).1:Nat),.int .i64 ((qK k).2:Nat)])/\w'=w:=by
 obtain⟨r,hr⟩:=exE (qK k);rw[hr];have Hr:=zj hr;clear hr;go_enter func151,ntmps151;go_wp2_with fail
 all_goals have h:=Hr.out
 iterate 54
  ·rw[kd (k:=k) (by assumption)] at h;subst h;go_ret2;exact⟨rfl,rfl⟩
 have hn:∀j∈[1,2,3,4,5,44,45,46,66,67,68,69,80,81,82,83,84,6,7,23,27,37,38,39,40,42,43,47,50,51,60,61,65,86,87,88,49,64,36,29,24,26,35,85,103,100,101,31,33,102,25,28,70,89],k≠j:=by
  simp only[wR]
  repeat' refine And.intro ?_ ?_
  all_goals first|exact kn rfl (by assumption)|(intro x hx;cases hx)
 simp only[wR] at hn;unfold qK at h;simp[hn] at h;subst h;go_ret2;exact⟨rfl,rfl⟩
theorem zdc(k:Nat)(w:World):Calls prog 152 #[.int .u8 k] w fun e w'=>e=.returned (.int .u8 (xC k:Nat))/\w'=w:=by
 obtain⟨r,hr⟩:=exE (xC k);rw[hr];have Hr:=zj hr;clear hr;go_enter func152,ntmps152;go_wp2_with fail
 all_goals have h:=Hr.out
 iterate 22
  ·rw[kd (k:=k) (by assumption)] at h;subst h;go_ret;exact⟨rfl,rfl⟩
 have hn:∀j∈[5,23,27,34,36,60,61,63,66,88,102,103,104,25,26,70,84,89,100,101,2,68],k≠j:=by
  simp only[wR]
  repeat' refine And.intro ?_ ?_
  all_goals first|exact kn rfl (by assumption)|(intro x hx;cases hx)
 simp only[wR] at hn;unfold xC at h;simp[hn] at h;subst h;go_ret;exact⟨rfl,rfl⟩
theorem Qf(k:Nat)(w:World):Calls prog 111 #[.int .u8 k] w (qR w (.bool (yT.is .type k))):=by
 go_enter func111,ntmps111;go_wp2_with fail
 all_goals go_ret
 all_goals refine⟨?_,pE _ _⟩
 all_goals first|(simp[yT.is, *];done)|(refine yv ?_;simp[yT.is];first|done|omega|grind [zW])
theorem Qh(k:Nat)(w:World):Calls prog 101 #[.int .u8 k] w (qR w (.bool (yT.is .item k))):=by
 go_enter func101,ntmps101;go_wp2_with fail
 all_goals go_ret
 all_goals refine⟨?_,pE _ _⟩
 all_goals first|(simp[yT.is, *];done)|(refine yv ?_;simp[yT.is];first|done|omega|grind [zW])
theorem uZ(k:Nat)(w:World):Calls prog 113 #[.int .u8 k] w (qR w (.bool (yT.is .pattern k))):=by
 go_enter func113,ntmps113;go_wp2_with fail
 all_goals go_ret
 all_goals refine⟨?_,pE _ _⟩
 all_goals first|(simp[yT.is, *];done)|(refine yv ?_;simp[yT.is];first|done|omega|grind [zW])
theorem zb6(k:Nat)(w:World):Calls prog 221 #[.int .u8 k] w (qR w (.bool (yT.is .way k))):=by
 go_enter func221,ntmps221;go_wp2_with fail
 all_goals go_ret
 all_goals refine⟨?_,pE _ _⟩
 all_goals first|(simp[yT.is, *];done)|(refine yv ?_;simp[yT.is];first|done|omega|grind [zW])
theorem ZT(k:Nat)(w:World):Calls prog 219 #[.int .u8 k] w (qR w (.bool (zW k))):=by
 go_enter func219,ntmps219;go_wp2_with fail
 all_goals go_ret
 all_goals refine⟨?_,pE _ _⟩
 all_goals first|(simp[zW, *];done)|(refine yv ?_;simp[zW];first|done|omega|grind [zW])
theorem VI(k:Nat)(w:World):Calls prog 220 #[.int .u8 k] w (qR w (.bool (yT.is .stmt k))):=by
 go_enter func220,ntmps220;go_wp2_with (go_at_call 219;refine (ZT k _).mono ?_;rintro e w2 ⟨rfl,hb⟩)
 all_goals go_ret
 all_goals refine⟨?_,hb⟩
 all_goals first|(simp[yT.is, *];done)|(refine yv ?_;simp[yT.is];first|done|omega|grind [zW])
theorem zdF(k:Nat)(w:World):Calls prog 153 #[.int .u8 k] w (qR w (.bool (xS k))):=by
 go_enter func153,ntmps153;go_wp2_with (go_at_call 101;refine (Qh k _).mono ?_;rintro e w2 ⟨rfl,hb⟩)
 all_goals go_ret
 all_goals refine⟨?_,(by first|exact hb|exact pE _ _)⟩
 all_goals first|(simp[xS,yT.is, *];done)|(refine yv ?_;simp[xS,yT.is];first|done|omega|grind [zW])
theorem Vg(x:Nd)(u:Value)(w:World)(hk:KW w u x.kids):Calls prog 154 #[um x u] w (qR w (.bool (zx x.kind x.n x.kids.length))):=by
 obtain⟨p,c,rfl⟩:=hk.form;clear hk;obtain⟨k,t,n,ks,a⟩:=x;simp only;generalize ks.length=m;have hz:=zl w (.cells #[.int .u8 k,.string ⟨t.toArray⟩,.int .i64 n,.slice p m c,.int .i64 a] 60 (0,0));have hA:=zg w (.cells #[.int .u8 k,.string ⟨t.toArray⟩,.int .i64 n,.slice p m c,.int .i64 a] 60 (0,0));have c0:=zd hz 0;have c2:=zd hz 2;have c3:=zd hz 3;clear hz;by_cases e1:k=1
 ·subst e1;by_cases h1:0<=n
  ·by_cases h2:n<=1000000000
   ·go_enter func154,ntmps154;go_wp2;go_ret;exact⟨by first|(simp[zx,h1,h2];done)|(simp[zx,h1,h2];omega),hA⟩
   ·go_enter func154,ntmps154;go_wp2;go_ret;exact⟨by first|(simp[zx,h1,h2];done)|(simp[zx,h1,h2];omega),hA⟩
  ·go_enter func154,ntmps154;go_wp2;go_ret;exact⟨by first|(simp[zx,h1];done)|(simp[zx,h1];omega),hA⟩
 by_cases e40:k=40
 ·subst e40;by_cases h1:0<=n
  ·by_cases h2:n<=1000000000
   ·go_enter func154,ntmps154;go_wp2;go_ret;exact⟨by first|(simp[zx,h1,h2];done)|(simp[zx,h1,h2];omega),hA⟩
   ·go_enter func154,ntmps154;go_wp2;go_ret;exact⟨by first|(simp[zx,h1,h2];done)|(simp[zx,h1,h2];omega),hA⟩
  ·go_enter func154,ntmps154;go_wp2;go_ret;exact⟨by first|(simp[zx,h1];done)|(simp[zx,h1];omega),hA⟩
 by_cases e67:k=67
 ·subst e67;by_cases h1: -1000000000<=n
  ·by_cases h2:n<=1000000000
   ·go_enter func154,ntmps154;go_wp2;go_ret;exact⟨by first|(simp[zx,h1,h2];done)|(simp[zx,h1,h2];omega),hA⟩
   ·go_enter func154,ntmps154;go_wp2;go_ret;exact⟨by first|(simp[zx,h1,h2];done)|(simp[zx,h1,h2];omega),hA⟩
  ·go_enter func154,ntmps154;go_wp2;go_ret;exact⟨by first|(simp[zx,h1];done)|(simp[zx,h1];omega),hA⟩
 by_cases e3:k=3
 ·subst e3;by_cases h0:n=0
  ·subst h0;go_enter func154,ntmps154;go_wp2;go_ret;exact⟨by first|(simp[zx];done)|(simp[zx];omega),hA⟩
  ·have i0:(n == 0)=false:=bfE h0
   go_enter func154,ntmps154;go_wp2;go_ret;exact⟨by first|(simp[zx,h0];done)|(simp[zx,h0];omega),hA⟩
 by_cases e69:k=69
 ·subst e69;by_cases h0:n=0
  ·subst h0;go_enter func154,ntmps154;go_wp2;go_ret;exact⟨by first|(simp[zx];done)|(simp[zx];omega),hA⟩
  ·have i0:(n == 0)=false:=bfE h0
   go_enter func154,ntmps154;go_wp2;go_ret;exact⟨by first|(simp[zx,h0];done)|(simp[zx,h0];omega),hA⟩
 by_cases e102:k=102
 ·subst e102;by_cases h0:n=0
  ·subst h0;go_enter func154,ntmps154;go_wp2;go_ret;exact⟨by first|(simp[zx];done)|(simp[zx];omega),hA⟩
  ·have i0:(n == 0)=false:=bfE h0
   go_enter func154,ntmps154;go_wp2;go_ret;exact⟨by first|(simp[zx,h0];done)|(simp[zx,h0];omega),hA⟩
 by_cases e28:k=28
 ·subst e28;by_cases h0:n=0
  ·subst h0;go_enter func154,ntmps154;go_wp2;go_ret;exact⟨by first|(simp[zx];done)|(simp[zx];omega),hA⟩
  ·have i0:(n == 0)=false:=bfE h0
   by_cases h1:n=1
   ·subst h1;have em:decide ((0:Int)<(m:Int))=decide (0<m):=decide_eq_decide.2 (by omega);go_enter func154,ntmps154;go_wp2;go_ret;exact⟨by first|(simp[zx,em];done)|(simp[zx,em];omega),hA⟩
   ·have i1:(n == 1)=false:=bfE h1
    go_enter func154,ntmps154;go_wp2;go_ret;exact⟨by first|(simp[zx,h0,h1];done)|(simp[zx,h0,h1];omega),hA⟩
 have i1:((k:Int) == 1)=false:=bfE (by omega)
 have i40:((k:Int) == 40)=false:=bfE (by omega)
 have i67:((k:Int) == 67)=false:=bfE (by omega)
 have i3:((k:Int) == 3)=false:=bfE (by omega)
 have i69:((k:Int) == 69)=false:=bfE (by omega)
 have i102:((k:Int) == 102)=false:=bfE (by omega)
 have i28:((k:Int) == 28)=false:=bfE (by omega)
 go_enter func154,ntmps154;go_wp2;go_ret;exact⟨by first|(simp[zx,e1,e40,e67,e3,e69,e102,e28];done)|(simp[zx,e1,e40,e67,e3,e69,e102,e28];omega),hA⟩
def zkL(l:List Nd)(ks:List Int)(kind:Nat)(w:World)(many i:Value)(wr:World):Prop:=∃j:Nat,i=.int .i64 j/\many=.int .i64 ((ks.take j).countP fun k=>zt l k == kind:Nat)/\j<=ks.length/\Below w.heap.size w wr
theorem zdI(t:zU)(nv iv:Value)(i0 kind:Nat)(x:Nd)(w:World)(hT:Jy w nv iv t)(hx:t.nodes[i0]? =some x)(hin:∀k∈x.kids,0<=k/\k<(t.nodes.length:Int))(hkl:x.kids.length<=100000):
 Calls prog 97 #[.agg #[nv,iv],.int .i64 i0,.int .u8 kind] w (qR w (.int .i64 (ZQ t.nodes x kind:Nat))):=by
 obtain⟨np,nc,ip,ic,rfl,rfl⟩:=hT.form;have hN:=hT.nodes;have hi0:(i0:Int)<(t.nodes.length:Int):=by have:=(gtL hx);omega
 have hi1:¬((i0:Int)<0):=by omega
 obtain⟨g,off,u,rfl,hA0⟩:=hN.at hx;obtain⟨up,uc,rfl⟩:=hA0.kids.form;have hz:=zl w (.cells #[.slice (some ⟨g,off,none⟩) t.nodes.length nc,.slice ip t.items.length ic] 26 (0,0));have hA:=zg w (.cells #[.slice (some ⟨g,off,none⟩) t.nodes.length nc,.slice ip t.items.length ic] 26 (0,0));have HZ:=zj hz;have HN:=zj hN;have HK:=zj hA0.kids;have H3:=zj hA0.c3;have HIN:=zj hin;unfold ZQ;obtain⟨y0,y1,y2,ks,y4⟩:=x;simp only at HK H3 HIN hkl ⊢;obtain⟨m,hm⟩:=exE (ks.length);rw[hm] at H3 hkl;have Hm:=zj hm;have hst:=zj (show zkL t.nodes ks kind (w.alloc (.cells #[.slice (some ⟨g,off,none⟩) t.nodes.length nc,.slice ip t.items.length ic] 26 (0,0))) (.int .i64 0) (.int .i64 0) (w.alloc (.cells #[.slice (some ⟨g,off,none⟩) t.nodes.length nc,.slice ip t.items.length ic] 26 (0,0))) from ⟨0,rfl,rfl,pV _,pE _ _⟩);clear hT hz hN hA0 hin hm hx;go_enter func97,ntmps97;go_wp2;go_loopw [7,8] (zkL t.nodes ks kind (w.alloc (.cells #[.slice (some ⟨g,off,none⟩) t.nodes.length nc,.slice ip t.items.length ic] 26 (0,0)))) (fun _ i _=>m-(intOf i).toNat)
 case atStart=>exact hst.out
 case round=>
  obtain⟨j,rfl,rfl,hj,hb⟩:=hrel;rw[Hm.out] at hj;have hbw:=zf hA hb;have c0:=zd (zi hb HZ.out) 0;have c3:=zh hbw H3.out;by_cases hlt:j<m
  ·have hlt':(j:Int)<(m:Int):=by omega
   have hj0:¬((j:Int)<0):=by omega
   have hy:=pC ((j:Int)+1) (by omega);have hjl:j<ks.length:=by rw[Hm.out];omega
   obtain⟨g2,off2,rfl,d0⟩:=(HK.out.below hbw).at hjl;have hzz:=HIN.out (ks.getD j 0) (by rw[pB,glE hjl];exact wF hjl);have htk:ks.take (j+1)=ks.take j ++ [ks.getD j 0]:=by
    rw[wX,glE hjl,pB,glE hjl];rfl
   have hcnt:(ks.take (j+1)).countP (fun k=>zt t.nodes k == kind)=(ks.take j).countP (fun k=>zt t.nodes k == kind)+if zt t.nodes (ks.getD j 0) == kind then 1 else 0:=by
    rw[htk,List.countP_append,List.countP_singleton]
   have hcl:(ks.take j).countP (fun k=>zt t.nodes k == kind)<=j:=pQ List.countP_le_length (List.length_take_le _ _);generalize ks.getD j 0=z at *;obtain⟨zn,rfl⟩:=pJ hzz.1;have hz0:¬((zn:Int)<0):=by omega
   have hz1:(zn:Int)<(t.nodes.length:Int):=hzz.2;obtain⟨xz,hxz⟩:∃x,t.nodes[zn]? =some x:=⟨_,glE (by omega)⟩;obtain⟨g3,off3,u3,hge,hAz⟩:=(HN.out.below hbw).at hxz;cases hge;have hkz:zt t.nodes (zn:Int)=xz.kind:=by
    unfold zt;rw[pO,hxz];rfl
   rw[hkz] at hcnt;have a0:=hAz.c0;have Hcnt:=zj hcnt;generalize hcc:(ks.take j).countP (fun k=>zt t.nodes k == kind)=cc at *;have hwc:=pC ((cc:Int)+1) (by omega);clear hcnt hAz hxz hkz htk hcc hzz;by_cases hke:xz.kind=kind
   ·have hke':((xz.kind:Int) == (kind:Int))=true:=by rw[pX];omega
    go_wp2_with fail;go_quiet (fail);go_wp2_with fail;have hc:=Hcnt.out;rw[if_pos (by simpa using hke)] at hc;exact⟨⟨j+1,by simp,by rw[hc];simp,by rw[Hm.out];omega,ye hb nq⟩,by simp[intOf];omega⟩
   ·have hke':((xz.kind:Int) == (kind:Int))=false:=bfE (by omega)
    go_wp2_with fail;go_quiet (fail);go_wp2_with fail;have hc:=Hcnt.out;rw[if_neg (by simpa using hke),Nat.add_zero] at hc;exact⟨⟨j+1,by simp,by rw[hc];rfl,by rw[Hm.out];omega,ye hb nq⟩,by simp[intOf];omega⟩
  ·have hlt':¬((j:Int)<(m:Int)):=by omega
   have hjm:j=m:=by omega
   have htk:ks.take j=ks:=by rw[hjm,<-Hm.out];exact List.take_length
   rw[htk];go_wp2;go_ret;exact⟨rfl,hbw⟩
def szI(l:List Nat):List Int:=l.map fun (k:Nat)=>(k:Int)
theorem Xd(l:List Nat):(szI l).length=l.length:=wO _
theorem zjf(l:List Nat)(i:Nat):(szI l).getD i 0=(l.getD i 0:Nat):=by
 unfold szI;rw[pB,wD,pB];cases l[i]? <;> rfl
theorem Vy{l:List Nd}{i:Nat}(h:(qi l i).length<i):∀j,i<=j->qi l j=qi l i
 |0,hj=>by
  have:i=0:=by omega
  rw[this]
 |j+1,hj=>by
  by_cases e:i=j+1
  ·rw[e]
  ·have ih:=Vy h j (by omega)
   conv=>lhs;unfold qi
   rw[if_pos (by rw[ih];omega)];exact ih
theorem zbM{l:List Nd}{i:Nat}{x:Nd}(hF:xw l i)(hx:l[i]? =some x):qi l (i+1)=match Xc (qi l i) x.kids.reverse ((i:Int)-1) with
 |none=>qi l i
 |some p=>qi l i ++ [((i:Int)-p).toNat]:=by
 conv=>lhs;unfold qi
 rw[if_neg (by unfold xw at hF;omega),hx];rfl
theorem zg8{l:List Nd}{i:Nat}{x:Nd}(hF:xw l i)(hx:l[i]? =some x)(hi:i<l.length)(hk:Xc (qi l i) x.kids.reverse ((i:Int)-1)=none):qi l l.length=qi l i:=by
 have h1:=zbM hF hx;rw[hk] at h1;have h2:=Vy (l:=l) (i:=i+1) (by rw[h1];simp only;unfold xw at hF;omega) l.length hi;rw[h2,h1]
def ziL(l:List Nd)(w:World)(out i:Value)(wr:World):Prop:=∃j:Nat,i=.int .i64 j/\j<=l.length/\xw l j/\wr.ownsRow w.heap.size 3 1 out j (yF (szI (qi l j)))/\Below w.heap.size w wr
def zl1(out:List Nat)(ks:List Int)(R:Option Int)(i:Nat)(W:World)(at_ k:Value)(wr:World):Prop:=∃(q:Nat) (a:Int),at_=.int .i64 a/\k=.int .i64 ((q:Int)-1)/\q<=ks.length/\a<(i:Int)/\-1<=a/\Xc out (ks.take q).reverse a=R/\wr=W
theorem JS(t:zU)(nv iv:Value)(w:World)(hT:Jy w nv iv t)(hn1:t.nodes.length<=100000)(hk1:∀x∈t.nodes,x.kids.length<=100000):
 Calls prog 63 #[.agg #[nv,iv]] w fun e w'=>∃v,e=.returned v/\KS w' v (szI (qi t.nodes t.nodes.length))/\Below w.heap.size w w':=by
 obtain⟨np,nc,ip,ic,rfl,rfl⟩:=hT.form;have hN:=hT.nodes;obtain⟨n,hn⟩:=exE (t.nodes.length);obtain⟨m,hm⟩:=exE (t.items.length);rw[hn] at hN hn1 ⊢;rw[hm];have h0:=zK [.cells #[.slice np n nc,.slice ip m ic] 26 (0,0),.cells #[] 3 (0,0)] w;have hA:Below w.heap.size w ((w.alloc (.cells #[.slice np n nc,.slice ip m ic] 26 (0,0))).alloc (.cells #[] 3 (0,0))):=zQ [.cells #[.slice np n nc,.slice ip m ic] 26 (0,0),.cells #[] 3 (0,0)] w;have HZ:=zj (h0 0 _ rfl);have HN:=zj hN;have Hn:=zj hn;have HKL:=zj hk1;have hst:=zj (show ziL t.nodes (w.alloc (.cells #[.slice np n nc,.slice ip m ic] 26 (0,0))) (.slice (some ⟨w.heap.size+1,0,none⟩) 0 0) (.int .i64 0) ((w.alloc (.cells #[.slice np n nc,.slice ip m ic] 26 (0,0))).alloc (.cells #[] 3 (0,0))) from ⟨0,rfl,pV _,zah _,by
  have:=Xs (w.alloc (.cells #[.slice np n nc,.slice ip m ic] 26 (0,0))) [] (by decide);rw[World.size_alloc] at this;rw[World.size_alloc];exact this,zg _ _⟩)
 clear hT hN hn h0 hk1;go_enter func63,ntmps63;go_wp2_with fail;generalize hw1:w.alloc (.cells #[.slice np n nc,.slice ip m ic] 26 (0,0))=w1 at *;have hb1:Below w.heap.size w w1:=by rw[<-hw1];exact zg _ _
 have hbox:∀W,Below w1.heap.size w1 W->W.cell? ⟨w.heap.size,0,none⟩=some (.slice np n nc):=fun W hb=>by
  rw[<-hw1] at hb;exact zd (zi hb (zl w _)) 0
 replace hbox:=zj hbox;go_loopw [3,4] (ziL t.nodes w1) (fun _ i _=>n-(intOf i).toNat)
 case atStart=>exact hst.out
 case round=>
  obtain⟨j,rfl,hj,hF,hown,hb⟩:=hrel;rw[Hn.out] at hj;have hbw:=zf hb1 hb;have c0:=hbox.out wr hb;by_cases hlt:j<n
  ·have hlt':(j:Int)<(n:Int):=by omega
   have hj0:¬((j:Int)<0):=by omega
   have hy:=pC ((j:Int)+1) (by omega);have hy1:=pC ((j:Int)-1) (by omega);obtain⟨x,hx⟩:∃x,t.nodes[j]? =some x:=⟨_,glE (by rw[Hn.out];omega)⟩;obtain⟨g,off,u,rfl,hAt⟩:=(HN.out.below hbw).at hx;obtain⟨up,uc,rfl⟩:=hAt.kids.form;have a3:=hAt.c3;have HK:=zj hAt.kids;have HX:=zj hx;have hkl:=HKL.out x (pM hx);obtain⟨x0,x1,x2,ks,x4⟩:=x;simp only at a3 HK hkl;obtain⟨q0,hq0⟩:∃q,ks.length=q:=⟨_,rfl⟩;have Hq0:=zj hq0;rw[hq0] at a3 hkl;have hyk:=pC ((q0:Int)-1) (by omega);have HF:=zj hF;have Hown:=zj hown;obtain⟨R,hR⟩:=exE (Xc (qi t.nodes j) ks.reverse ((j:Int)-1));have HR:=zj hR;have hst2:=zj (show zl1 (qi t.nodes j) ks R j wr (.int .i64 ((j:Int)-1)) (.int .i64 ((q0:Int)-1)) wr from ⟨q0,_,rfl,rfl,by omega,by omega,by omega,by rw[<-hq0,List.take_length];exact hR,rfl⟩);clear hAt hx hq0 hF hown hR;go_wp2_with fail;obtain⟨wo,hwo⟩:∃wo:World,wo=wr:=⟨_,rfl⟩;rw[<-hwo] at hst2 Hown HK hb hbw;have Hwo:=zj hwo;rw[<-hwo];clear hwo;go_loopw [6,7] (zl1 (qi t.nodes j) ks R j wo) (fun _ k _=>(intOf k+1).toNat)
   case atStart=>exact hst2.out
   case round=>
    obtain⟨q,a,rfl,rfl,hq,haj,ha1,hk,rfl⟩:=hrel;rw[Hq0.out] at hq;by_cases hq0:0<q
    ·obtain⟨q',rfl⟩:∃q',q=q'+1:=⟨q-1,by omega⟩;rw[show (((q'+1:Nat):Int)-1)=(q':Int) by omega];have hq'0:¬((q':Int)<0):=by omega
     have hq'1:(0:Int)<=(q':Int):=by omega
     have hq'2:(q':Int)<(q0:Int):=by omega
     have hy2:=pC ((q':Int)-1) (by omega);have hql:q'<ks.length:=by rw[Hq0.out];omega
     obtain⟨g2,off2,rfl,d0⟩:=HK.out.at hql;have hrev:(ks.take (q'+1)).reverse=ks.getD q' 0 :: (ks.take q').reverse:=by
      rw[wX,glE hql,List.reverse_append,pB,glE hql];rfl
     rw[hrev] at hk;unfold Xc at hk;generalize ks.getD q' 0=z at *;clear hrev;have hstop:R=none->KS wr u3 (szI (qi t.nodes n)):=fun e=>by
      have h1:=zg8 HF.out HX.out (by rw[Hn.out];exact hlt) (by simp only;rw[HR.out];exact e);rw[Hn.out] at h1;rw[h1];exact KS.own (by rw[Xd,show (qi t.nodes j).length=j from HF.out];exact Hown.out)
     by_cases hbad:a<0\/z≠a
     ·rw[if_pos hbad] at hk;have hK:=zj (hstop hk.symm);clear hk hstop;by_cases h1:a<0
      ·have h1':decide (a<0)=true:=wE h1;go_wp2;go_ret;exact⟨_,rfl,hK.out,hbw⟩
      ·have h1':decide (a<0)=false:=pT h1;have h2:(z != a)=true:=by rw[gB];exact hbad.resolve_left h1
       go_wp2;go_ret;exact⟨_,rfl,hK.out,hbw⟩
     ·rw[if_neg hbad] at hk;have h1:¬(a<0):=fun h=>hbad (.inl h)
      have h1':decide (a<0)=false:=pT h1;obtain rfl:z=a:=by
       apply Classical.byContradiction;intro h;exact hbad (.inr h)
      have h2:(z != z)=false:=by simp
      obtain⟨an,rfl⟩:=pJ (show 0<=z by omega);have hanj:an<j:=by omega
      have hsz:=zaF HF.out an hanj;have hlen:(qi t.nodes j).length=j:=HF.out;rw[pO] at hk;obtain⟨sz,hsze⟩:∃s,(qi t.nodes j).getD an 0=s:=⟨_,rfl⟩;rw[hsze] at hk hsz;rcases id Hown.out.2 with⟨_,h0⟩|⟨gO,capO,curO,rfl,_⟩
      ·omega
      have hce:=zj (Hown.out.cellAt an (by omega));have e0:wr.cell? ⟨gO,an,none⟩=some (.int .i64 sz):=by
       have h9:=hce.out;rw[yF,wD] at h9;unfold szI at h9;rw[wD] at h9;rw[pB,glE (by rw[hlen];exact hanj)] at hsze;rw[glE (by rw[hlen];exact hanj)] at h9;simp only[Option.getD_some] at hsze;rw[hsze] at h9;exact h9
      have hanj':(an:Int)<(j:Int):=by omega
      have hwr:=pC ((an:Int)-(sz:Int)) (by omega);have HKK:=zj hk;clear hk hstop hbad hce hsze hlen;go_wp2;go_roundw
      case rel=>exact⟨q',(an:Int)-(sz:Int),rfl,rfl,by rw[Hq0.out];omega,by omega,by omega,HKK.out,rfl⟩
      case measure=>simp only[intOf];omega
    ·have hq00:q=0:=by omega
     subst hq00;have hk1:R=some a:=by
      rw[<-hk];rfl
     have hq'1:¬((0:Int)<=((0:Nat):Int)-1):=by omega
     have hnext:=zbM HF.out HX.out;simp only at hnext;rw[HR.out,hk1] at hnext;obtain⟨d,hd⟩:∃d:Nat,(j:Int)-a=d:=⟨((j:Int)-a).toNat,by omega⟩;have hwr:IntKind.i64.wrap ((j:Int)-a)=(d:Int):=by rw[pC _ ⟨by omega,by omega⟩];exact hd
     simp only at hnext;rw[hd,pO] at hnext;have hFn:xw t.nodes (j+1):=by
      unfold xw;rw[hnext,pG,pK,show (qi t.nodes j).length=j from HF.out]
     have Hnx:=zj hnext;have HFn:=zj hFn;have hown2:=zv Hown.out (zg wr (.cells #[.int .i64 d] 3 (0,0)));have hbA:=zf hb (zg wr (.cells #[.int .i64 d] 3 (0,0)));have hsz:=hb.size;clear hk hk1 hnext hFn hd;go_wp2_with (at_builtin;refine yY rfl _ _ rfl rfl hown2 rfl (zd (zl wr _) 0) rfl rfl (by omega) (by simp;omega) ?_);intro g' cap' w2 hrow hgrow hg';have hb2:=jH hbA hown2 hgrow;have hrow2:w2.ownsRow w1.heap.size 3 1 (.slice (some ⟨g',0,none⟩) (j+1) cap') (j+1) (yF (szI (qi t.nodes (j+1)))):=by
      rw[Hnx.out];unfold szI at hrow ⊢;simp only[yF,List.map_append,List.map_cons,List.map_nil] at hrow ⊢;exact hrow
     replace hrow2:=zj hrow2;clear hrow hgrow hg' hown2;go_wp2;go_roundw
     case rel=>exact⟨j+1,by go_num,by rw[Hn.out];omega,HFn.out,hrow2.out,hb2⟩
     case measure=>simp[intOf];omega
  ·have hlt':¬((j:Int)<(n:Int)):=by omega
   have hjn:j=n:=by omega
   have hK:KS wr u3 (szI (qi t.nodes n)):=by
    rw[<-hjn];exact KS.own (by rw[Xd,show (qi t.nodes j).length=j from hF];exact hown)
   have HK:=zj hK;clear hown hK hF hjn;go_wp2;go_ret;exact⟨_,rfl,HK.out,hbw⟩
def ZH(x:Nd)(d:Int):Nd:=⟨x.kind,x.text,x.n,x.kids.map (· +d),x.at_⟩
def zkC(ks:List Int)(d:Int)(w:World)(out i:Value)(wr:World):Prop:=∃j:Nat,i=.int .i64 j/\j<=ks.length/\wr.ownsRow w.heap.size 3 1 out j (yF ((ks.take j).map (· +d)))/\Below w.heap.size w wr
theorem KS.own_new{w:World}{b:Nat}{v:Value}{l:List Int}(h:w.ownsRow b 3 1 v l.length (yF l)):KS w v l/\∀g,xD v=some g->b<=g:=by
 refine⟨KS.own h,fun g hg=>?_⟩;obtain⟨_,⟨hv,_⟩|⟨g',cap,cur,hv,hb,_⟩⟩:=h
 ·rw[hv] at hg;cases hg
 ·rw[hv] at hg;cases hl:l.length with
  |zero=>rw[hl] at hg;cases hg
  |succ m=>
   rw[hl] at hg;simp only[xD,wN] at hg;omega
theorem KS.set{w:World}{v:Value}{l:List Int}(h:KS w v l){b i:Nat}{cs:Array Value}{T:TypeId}{fr:Nat×Nat}(hb:w.heap[b]? =some (.cells cs T fr))(hT:T≠3)(y:Value):KS (w.setCell ⟨b,i,.none⟩ y) v l:=
 h.fri (base:=0) ⟨(pE 0 w).setCell (pV _) y,fun k cs' fr' hk=>by
  rw[zw (fun e=>by
   subst e;rw[hb] at hk;cases hk;exact hT rfl)]
  exact hk⟩
theorem JW(x:Nd)(u:Value)(d:Int)(w:World)(hu:KW w u x.kids)(hr:∀k∈x.kids,I64 (k+d))(hkl:x.kids.length<=100000):
 Calls prog 50 #[um x u,.int .i64 d] w fun e w'=>∃v,e=.returned (um (ZH x d) v)/\KS w' v (ZH x d).kids/\Below w.heap.size w w'/\∀g,xD v=some g->w.heap.size<=g:=by
 obtain⟨up,uc,rfl⟩:=hu.form;obtain⟨x0,x1,x2,ks,x4⟩:=x;unfold ZH;unfold um;simp only at hu hr hkl ⊢;obtain⟨m,hm⟩:=exE (ks.length);rw[hm] at hu hkl ⊢;have h0:=zK [.cells #[.int .u8 x0,.string ⟨x1.toArray⟩,.int .i64 x2,.slice up m uc,.int .i64 x4] 60 (0,0),.cells #[.int .u8 0,.string ⟨#[]⟩,.int .i64 0,.slice none 0 0,.int .i64 0] 60 (0,0)] w;have hA:Below w.heap.size w _:=zQ [.cells #[.int .u8 x0,.string ⟨x1.toArray⟩,.int .i64 x2,.slice up m uc,.int .i64 x4] 60 (0,0),.cells #[.int .u8 0,.string ⟨#[]⟩,.int .i64 0,.slice none 0 0,.int .i64 0] 60 (0,0)] w;simp only[List.foldl_cons,List.foldl_nil] at hA h0;have HZ:=zj (h0 0 _ rfl);have HQ:=zj (h0 1 _ rfl);have hszA:((w.alloc (.cells #[.int .u8 x0,.string ⟨x1.toArray⟩,.int .i64 x2,.slice up m uc,.int .i64 x4] 60 (0,0))).alloc (.cells #[.int .u8 0,.string ⟨#[]⟩,.int .i64 0,.slice none 0 0,.int .i64 0] 60 (0,0))).heap.size=w.heap.size+2:=by simp
 clear h0;obtain⟨w1,hw1⟩:=exE ((w.alloc (.cells #[.int .u8 x0,.string ⟨x1.toArray⟩,.int .i64 x2,.slice up m uc,.int .i64 x4] 60 (0,0))).alloc (.cells #[.int .u8 0,.string ⟨#[]⟩,.int .i64 0,.slice none 0 0,.int .i64 0] 60 (0,0)));have hst:zkC ks d w1 (.slice (some ⟨w1.heap.size,0,none⟩) 0 0) (.int .i64 0) (w1.alloc (.cells #[] 3 (0,0))):=⟨0,rfl,pV _,Xs w1 [] (by decide),zg _ _⟩;have Hw1:=zj hw1;have Hm:=zj hm;have HU:=zj hu;have HRr:=zj hr;have Hst:=zj hst;have HA:=zj hA;have HszA:=zj hszA;clear hm hu hr hst hw1 hA hszA;go_enter func50,ntmps50;go_wp2_with fail;rw[Hw1.out];have hA:=HA.out;have hszA:=HszA.out;have hZ:=HZ.out;have hQ:=HQ.out;rw[Hw1.out] at hA hszA hZ hQ;rw[hszA] at Hst;rw[Nat.add_zero] at hZ;go_loopw [5,6] (zkC ks d w1) (fun _ i _=>m-(intOf i).toNat)
 case atStart=>exact Hst.out
 case round=>
  obtain⟨j,rfl,hj,hown,hb⟩:=hrel;rw[Hm.out] at hj;have hbw:=zf hA hb;have hZr:=zi hb hZ;have hQr:=zi hb hQ;have c3:=zd hZr 3;by_cases hlt:j<m
  ·have hlt':(j:Int)<(m:Int):=by omega
   have hj0:¬((j:Int)<0):=by omega
   have hy:=pC ((j:Int)+1) (by omega);have hjl:j<ks.length:=by rw[Hm.out];omega
   obtain⟨g2,off2,rfl,d0⟩:=(HU.out.below hbw).at hjl;have hin:=HRr.out (ks.getD j 0) (by rw[pB,glE hjl];exact wF hjl);have htk:(ks.take (j+1)).map (· +d)=(ks.take j).map (· +d) ++ [ks.getD j 0+d]:=by
    rw[wX,glE hjl,pB,glE hjl,List.map_append];rfl
   generalize ks.getD j 0=z at *;have hwr:IntKind.i64.wrap (z+d)=z+d:=pC _ ⟨hin.1,hin.2⟩;have Htk:=zj htk;generalize hX:yF ((ks.take j).map (· +d))=X at hown;have HX:=zj hX;clear hX;have hown2:=zv hown (zg wr (.cells #[.int .i64 (z+d)] 3 (0,0)));have hbA:=zf hb (zg wr (.cells #[.int .i64 (z+d)] 3 (0,0)));have hsz:=hb.size;clear htk hZr hQr;go_wp2_with (at_builtin;refine yY rfl _ _ rfl rfl hown2 rfl (zd (zl wr _) 0) rfl rfl (by omega) (by simp;omega) ?_);intro g' cap' w2 hrow hgrow hg';have hb2:=jH hbA hown2 hgrow;have hrow2:w2.ownsRow w1.heap.size 3 1 (.slice (some ⟨g',0,none⟩) (j+1) cap') (j+1) (yF ((ks.take (j+1)).map (· +d))):=by
    rw[Htk.out,show yF ((ks.take j).map (· +d) ++ [z+d])=X ++ [.int .i64 (z+d)] from by rw[<-HX.out];simp[yF],hszA];exact hrow
   replace hrow2:=zj hrow2;clear hrow hgrow hg' hown2;go_wp2;go_roundw
   case rel=>exact⟨j+1,by go_num,by rw[Hm.out];omega,hrow2.out,hb2⟩
   case measure=>simp[intOf];omega
  ·have hlt':¬((j:Int)<(m:Int)):=by omega
   have hjm:j=m:=by omega
   have htk:ks.take j=ks:=by rw[hjm,<-Hm.out];exact List.take_length
   rw[htk] at hown;have hl2:(ks.map (· +d)).length=j:=by rw[wO,Hm.out,hjm]
   have hK:KS wr u5 (ks.map (· +d)):=KS.own (by rw[hl2];exact hown);have HK:=zj hK;have HF:=zj (show ∀g,xD u5=some g->w.heap.size<=g from fun g hg=>pQ (show w.heap.size<=w1.heap.size by omega) ((KS.own_new (w:=wr) (l:=ks.map (· +d)) (by rw[hl2];exact hown)).2 g hg));have f0:∀i,wr.frozen? ⟨w.heap.size,i,none⟩=false:=fun i=>zk hZr i
   have f1:∀i,wr.frozen? ⟨w.heap.size+1,i,none⟩=false:=fun i=>zk hQr i
   have e0:=zd hZr 0;have e1:=zd hZr 1;have e2:=zd hZr 2;have e4:=zd hZr 4;have q0:=zd hQr 0;have q1:=zd hQr 1;have q2:=zd hQr 2;have q3:=zd hQr 3;have q4:=zd hQr 4;have HZr:=zj hZr;have HQr:=zj hQr;obtain⟨kp,kc,hkv⟩:=hK.form;subst hkv;clear hown hK hl2 htk hjm hZr hQr;go_wp2_with fail;have y0:=zo HZr.out 3 (.slice kp ks.length kc);have z0:=(zw (b:=w.heap.size) (k:=w.heap.size+1) (by omega) (w:=wr) (i:=3) (v:=.slice kp ks.length kc)).trans HQr.out;have z1:=zo z0 0 (.int .u8 x0);have z2:=zo z1 1 (.string ⟨x1.toArray⟩);have z3:=zo z2 2 (.int .i64 x2);have z4:=zo z3 3 (.slice kp ks.length kc);have z5:=zo z4 4 (.int .i64 x4);have K0:=HK.out.set (i:=3) HZr.out (by decide) (.slice kp ks.length kc);have K1:=K0.set (i:=0) z0 (by decide) (.int .u8 x0);have K2:=K1.set (i:=1) z1 (by decide) (.string ⟨x1.toArray⟩);have K3:=K2.set (i:=2) z2 (by decide) (.int .i64 x2);have K4:=K3.set (i:=3) z3 (by decide) (.slice kp ks.length kc);have K5:=K4.set (i:=4) z4 (by decide) (.int .i64 x4);rw[wO] at K5;have hfr:=HF.out;rw[wO] at hfr;refine bodyPost_ret (v:=.agg #[.int .u8 x0,.string ⟨x1.toArray⟩,.int .i64 x2,.slice kp ks.length kc,.int .i64 x4]) (by simp[results,results50,go_sem,zd z5]) rfl ?_;exact⟨_,rfl,K5,(((((hbw.setCell (by simp) _).setCell (by simp) _).setCell (by simp) _).setCell (by simp) _).setCell (by simp) _).setCell (by simp) _,hfr⟩
theorem zcm(x:Nd):ZH x 0=x:=by
 obtain⟨a,b,c,d,e⟩:=x;simp[ZH]
theorem zjr{w:World}{base g cap:Nat}{l:List Int}{u:Value}(hown:w.ownsRow base 3 1 (.slice (some ⟨g,0,none⟩) 0 cap) 0 [])(hu:KW w u l)(hn:l.length<=1000000)(hbase:base<=w.heap.size)(ty:TypeId):
 ∃v' w',(Builtin.append_ #[24,24] ty #[.slice (some ⟨g,0,none⟩) 0 cap,u]).run prog w=.ok v' w'/\w'.ownsRow base 3 1 v' l.length (yF l)/\Below g w w':=by
 obtain⟨i0,hi,hz0,hz1,hz2⟩:=info_parts Tryz.infoIntP;obtain⟨p,cp,rfl,hu⟩:=hu;by_cases h0:l=[]
 ·subst h0;have hS:Src prog i0.size 24 (.slice p ([]:List Int).length cp) 0 [] w:=by
   cases p with
   |none=>exact Src.ofNil w underlying24 cp
   |some a=>exact Src.ofSlice w underlying24 a 0 cp [] (by simp) (fun j u h=>by cases h) (fun u h=>by cases h)
  refine⟨_,_,run_append_nothing w 24 24 ty 3 i0 underlying24 hi (some ⟨g,0,none⟩) 0 cap (pV _) _ hS,hown,pE _ _⟩
 ·obtain⟨g2,off,rfl,hc⟩:=hu.resolve_left h0;obtain⟨v',w',hr,h2,h3,_⟩:=run_append_own (P:=prog) w base 24 ty 3 i0 _ 1 8 underlying24 hi hz0 hz1 hz2 rfl (by decide) _ 0 [] hown ⟨g2,off,none⟩ l.length cp (yF l) (by simp) (fun j u hj=>by
   have hj':j<l.length:=by have:=(gtL hj);simpa using this
   have:=hc j hj';have e:(⟨g2,off,none⟩:Addr).add j=⟨g2,off+j,none⟩:=by unfold Addr.add;split <;> simp_all
   rw[e,this];rw[wD,glE hj'] at hj;cases hj;rw[pB,glE hj'];rfl) (Kt l) (by unfold maxLen;omega) (by omega) hbase
  rw[Nat.zero_add,wP] at h2;refine⟨v',w',hr,h2,?_⟩;exact⟨h3.os,h3.tape,h3.output,h3.size,fun k hk=>h3.block k (wI hk (by
   have:g<w.heap.size:=(hown.lt g rfl).2;omega)) (fun e=>by simp only[Value.ownBlock,wN] at e;omega)⟩
theorem zax{w:World}{ops:Array Oper}{rest:List Oper}{o:Oper}{a:Act}{Q:Exit->Act->World->Prop}(hgd:o.guard=none)(s x:Operand)
 (ho:o.op=.call {callee:=.builtin .append,args:= #[s,x],argTypes:= #[24,24]})
 {base g cap:Nat} {l:List Int} {u:Value} (hs:a.eval s=.slice (some ⟨g,0,none⟩) 0 cap) (hown:w.ownsRow base 3 1 (.slice (some ⟨g,0,none⟩) 0 cap) 0 []) (hx:a.eval x=u) (hu:KW w u l) (hn:l.length<=1000000) (hbase:base<=w.heap.size)
 (h:∀p cp w',w'.ownsRow base 3 1 (.slice p l.length cp) l.length (yF l)->Below g w w'->wpList prog ops Q rest (a.put o.dst (.slice p l.length cp)) w'):wpList prog ops Q (o :: rest) a w:=by
 refine wpList_plain hgd fun K hK=>?_
 obtain⟨v',w',hr,h2,h3⟩:=zjr hown hu hn hbase o.type;obtain⟨p,cp,rfl⟩:=(KS.own h2).form;unfold Oper.wp;simp[execOp,ho,resolve,invoke,builtin,hs,hx,hr,Result.andThen];exact hK _ _ (h p cp w' h2 h3)
theorem zbB{w:World}{o:Oper}{a:Act}{K:Act->World->Prop}{X:Exit->Act->World->Prop}(s x:Operand)
 (ho:o.op=.call {callee:=.builtin .append,args:= #[s,x],argTypes:= #[23,23]})
 {base n:Nat} {v:Value} {xs:List Value} (hs:a.eval s=v) (hown:w.ownsRow base 60 5 v n xs) {b:Nat} {y:Nd} {u:Value} (hx:a.eval x=.slice (some ⟨b,0,none⟩) 1 1) (hu:w.heap[b]? =some (.cells (xA y u).toArray 60 (0,0))) (hu1:u.oneCell'=true) (hn:n<=1000000) (hbase:base<=w.heap.size)
 (h:∀v' w',w'.ownsRow base 60 5 v' (n+1) (xs ++ xA y u)->w.grownBy w' v.ownBlock->K (a.put o.dst v') w'):o.wp prog a w K X:=by
 obtain⟨i0,hi,hz0,hz1,hz2⟩:=info_parts Tryz.infoNode;obtain⟨v',w',hr,h2,h3,_⟩:=run_append_own (P:=prog) w base 23 o.type 60 i0 _ 5 64 underlying23 hi hz0 hz1 hz2 rfl (by decide) _ n xs hown ⟨b,0,none⟩ 1 1 (xA y u) rfl (fun j z hz=>by
  have e1:(⟨b,0,none⟩:Addr).add j=⟨b,j,none⟩:=by unfold Addr.add;split <;> simp_all
  rw[e1,zd hu j,pW];exact hz) (fun z hz=>by
  simp[xA] at hz;rcases hz with rfl|rfl|rfl|rfl|rfl <;> first|rfl|exact hu1) (by unfold maxLen;omega) (by omega) hbase
 unfold Oper.wp;simp[execOp,ho,resolve,invoke,builtin,hs,hx,hr,Result.andThen];exact h v' w' h2 h3
def zj8(base ob i:Nat):LodeX.Rel:=⟨fun a b=>Below base a b/\b.cell? ⟨ob,i,none⟩=a.cell? ⟨ob,i,none⟩,fun w=>⟨pE _ w,rfl⟩,fun h k=>⟨h.1.trans k.1,k.2.trans h.2⟩,Eq,fun _=>rfl,Eq.trans,fun h=>h▸⟨pE _ _,rfl⟩⟩
theorem Qk{w:World}{B n sz:Nat}{E:TypeId}{v:Value}{xs:List Value}(h:w.ownsRow B E sz v n xs){k:Nat}{cs:Array Value}{T:TypeId}{fr:Nat×Nat}(hk:w.heap[k]? =some (.cells cs T fr))(hT:T≠E):v.ownBlock≠some k:=fun e=>by
 obtain⟨_,⟨hv,_⟩|⟨g,cap,cur,hv,_,hh,_⟩⟩:=h
 ·rw[hv] at e;cases e
 ·rw[hv] at e;simp only[Value.ownBlock,wN] at e;rw[e,hk] at hh;cases hh;exact hT rfl
theorem FrI.trans{base:Nat}{a b c:World}(h:FrI base a b)(k:FrI base b c):FrI base a c:=⟨h.b.trans k.b,fun n cs fr hn=>k.keep n cs fr (h.keep n cs fr hn)⟩
theorem FrI.of_below{base:Nat}{w w':World}(hb:base<=w.heap.size)(h:Below w.heap.size w w'):FrI base w w':=⟨h.mono hb,fun _ _ _ hk=>zi h hk⟩
theorem zjT{base pb:Nat}{w:World}{cs:Array Value}{T:TypeId}{fr:Nat×Nat}(hp:base<=pb)(ho:w.heap[pb]? =some (.cells cs T fr))(hT:T≠3)(i:Nat)(v:Value):FrI base w (w.setCell ⟨pb,i,none⟩ v):=by
 refine⟨(pE base w).setCell hp v,fun k cs' fr' hk=>?_⟩;rw[zw (fun e=>by
  subst e;rw[ho] at hk;cases hk;exact hT rfl)]
 exact hk
def zkK(B ob:Nat)(nodes:List Nd)(iv:Value)(w:World)(i:Value)(wr:World):Prop:=∃(j:Nat) (nv:Value) (kv:List Value),i=.int .i64 j/\j<=nodes.length/\kv.length=j/\wr.heap[ob]? =some (.cells #[nv,iv] 26 (0,0))/\wr.ownsRow B 60 5 nv j (zZ (nodes.take j) kv)/\(∀(k:Nat) (x:Nd) (v:Value),nodes[k]? =some x->kv[k]? =some v->KS wr v x.kids)/\FrI B w wr/\∀u∈kv,∀g,xD u=some g->iv.ownBlock≠some g
structure vo(w:World)(B:Nat)(nv iv:Value)(t:zU)(kv:List Value):Prop where
 n:w.ownsRow B 60 5 nv t.nodes.length (zZ t.nodes kv)
 l:kv.length=t.nodes.length
 k:∀(j:Nat) (x:Nd) (v:Value),t.nodes[j]? =some x->kv[j]? =some v->KS w v x.kids
 i:w.ownsRow B 3 1 iv t.items.length (yF t.items)
 d:∀u∈kv,∀g,xD u=some g->iv.ownBlock≠some g
theorem vo.tr{w:World}{B:Nat}{nv iv:Value}{t:zU}{kv:List Value}(h:vo w B nv iv t kv):TR w nv iv t:=⟨⟨kv,Xr h.n h.l h.k⟩,KS.own h.i⟩
theorem vo.setBox{w:World}{B:Nat}{nv iv:Value}{t:zU}{kv:List Value}(h:vo w B nv iv t kv){b:Nat}{cs:Array Value}{T:TypeId}{fr:Nat×Nat}(hb:w.heap[b]? =some (.cells cs T fr))(hT:T≠3)(hN:T≠60)(i:Nat)(y:Value):vo (w.setCell ⟨b,i,none⟩ y) B nv iv t kv:=
 ⟨ownsRow_setCell_other h.n (Qk h.n hb hN) y,h.l,fun j x u hx hu=>(h.k j x u hx hu).set hb hT y,ownsRow_setCell_other h.i (Qk h.i hb hT) y,h.d⟩
theorem vo.below{w w':World}{B:Nat}{nv iv:Value}{t:zU}{kv:List Value}(h:vo w B nv iv t kv)(hb:Below w.heap.size w w'):vo w' B nv iv t kv:=⟨zv h.n hb,h.l,fun j x u hx hu=>(h.k j x u hx hu).below hb,zv h.i hb,h.d⟩
theorem vo.drew{w:World}{B:Nat}{nv iv:Value}{t:zU}{kv:List Value}(h:vo w B nv iv t kv):vo w.drew B nv iv t kv:=⟨h.n,h.l,h.k,h.i,h.d⟩
theorem zdJ(t:zU)(nv iv:Value)(w:World)(ht:Jy w nv iv t)(hi:∀x∈t.nodes,∀k∈x.kids,I64 k)(hnl:t.nodes.length<=100000)(hil:t.items.length<=100000)(hkl:∀x∈t.nodes,x.kids.length<=100000):
 Calls prog 15 #[.agg #[nv,iv]] w fun e w'=>∃nv' iv',e=.returned (.agg #[nv',iv'])/\(∃kv,vo w' (w.heap.size+2) nv' iv' t kv)/\Below w.heap.size w w':=by
 obtain⟨np,nc,ip,ic,rfl,rfl⟩:=ht.form;obtain⟨nodes,items⟩:=t;simp only at ht hi hnl hil hkl ⊢;obtain⟨m,hm⟩:=exE (nodes.length);obtain⟨m2,hm2⟩:∃m,items.length=m:=⟨_,rfl⟩;rw[hm,hm2] at ht;rw[hm] at hnl ⊢;rw[hm2] at hil ⊢;have h0:=zK [.cells #[.slice np m nc,.slice ip m2 ic] 26 (0,0),.cells #[.slice none 0 0,.slice none 0 0] 26 (0,0),.cells #[] 3 (0,0)] w;have hA:Below w.heap.size w _:=zQ [.cells #[.slice np m nc,.slice ip m2 ic] 26 (0,0),.cells #[.slice none 0 0,.slice none 0 0] 26 (0,0),.cells #[] 3 (0,0)] w;simp only[List.foldl_cons,List.foldl_nil] at hA h0;have HZ:=zj (h0 0 _ rfl);have HQ:=zj (h0 1 _ rfl);have HR:=zj (h0 2 _ rfl);clear h0;have Hm:=zj hm;have Hm2:=zj hm2;have HT:=zj ht;have HI:=zj hi;have HK:=zj hkl;have hO:=Xs ((w.alloc (.cells #[.slice np m nc,.slice ip m2 ic] 26 (0,0))).alloc (.cells #[.slice none 0 0,.slice none 0 0] 26 (0,0))) [] (by decide);rw[show ((w.alloc (.cells #[.slice np m nc,.slice ip m2 ic] 26 (0,0))).alloc (.cells #[.slice none 0 0,.slice none 0 0] 26 (0,0))).heap.size=w.heap.size+1+1 from by simp] at hO;have HO:=zj hO;have HU:=zj (ht.items.below hA);have HA:=zj hA;have HB:=zj (show w.heap.size+1+1<=(((w.alloc (.cells #[.slice np m nc,.slice ip m2 ic] 26 (0,0))).alloc (.cells #[.slice none 0 0,.slice none 0 0] 26 (0,0))).alloc (.cells #[] 3 (0,0))).heap.size from by simp);clear hm hm2 ht hi hkl hA hO;go_enter func15,ntmps15;go_wp2_with (at_builtin;go_loud (refine zax rfl _ _ rfl rfl HO.out rfl HU.out (by rw[Hm2.out];omega) HB.out ?_));intro p cp w1 hK1 hB1;have em2:=Hm2.out;rw[em2] at hK1 ⊢;clear em2;have hZ1:=(hB1.block w.heap.size (by omega)).trans HZ.out;have hQ1:=(hB1.block (w.heap.size+1) (by omega)).trans HQ.out;have hs1:=pQ HB.out hB1.size;have hBW0:=HA.out.trans (hB1.mono (by omega));obtain⟨W,hW⟩:=exE (w1.alloc (.cells #[.slice none 0 0,.slice p m2 cp] 26 (0,0)));have hst:zkK (w.heap.size+2) w1.heap.size nodes (.slice p m2 cp) W (.int .i64 0) W:=by
  subst hW;refine⟨0,.slice none 0 0,[],rfl,pV _,rfl,zl w1 _,⟨rfl,.inl ⟨rfl,rfl⟩⟩,fun k x v _ h=>(by simp at h),⟨pE _ _,fun k cs fr h=>h⟩,fun u hu=>(by cases hu)⟩
 have hKW:W.ownsRow (w.heap.size+2) 3 1 (.slice p m2 cp) m2 (yF items):=hW▸zv hK1 (zg _ _);have hZW:=hW▸zi (zg w1 (.cells #[.slice none 0 0,.slice p m2 cp] 26 (0,0))) hZ1;have hQW:=hW▸zi (zg w1 (.cells #[.slice none 0 0,.slice p m2 cp] 26 (0,0))) hQ1;have hBW:Below w.heap.size w W:=hW▸hBW0.trans ((zg w1 (.cells #[.slice none 0 0,.slice p m2 cp] 26 (0,0))).mono (by omega));have HW:=zj hW;have Hst:=zj hst;have HKW:=zj hKW;have HBW:=zj hBW;have HZW:=zj hZW;have HQW:=zj hQW;clear hW hst hKW hBW hZW hQW hZ1 hQ1 hBW0 hK1 hB1 HZ HQ HR HO HU HB HA;go_wp2_with fail;rw[HW.out];go_loopw [4] (zkK (w.heap.size+2) w1.heap.size nodes (.slice p m2 cp) W) (fun i _=>m-(intOf i).toNat)
 case atStart=>exact Hst.out
 case round=>
  obtain⟨j,nv,kv,rfl,hj,hkv,hbox,hown,hkids,hf,hd⟩:=hrel;replace hd:=zj hd;rw[Hm.out] at hj;have hZr:=(hf.b.block w.heap.size (by omega)).trans HZW.out;have hQr:=(hf.b.block (w.heap.size+1) (by omega)).trans HQW.out;have z0:=zd hZr 0;have hbw:=HBW.out.trans (hf.b.mono (by omega));have hlt1:w1.heap.size<wr.heap.size:=(gtA hbox);by_cases hlt:j<m
  ·have hlt':(j:Int)<(m:Int):=by omega
   have hj0:¬((j:Int)<0):=by omega
   have hy:=pC ((j:Int)+1) (by omega);have hjl:j<nodes.length:=by rw[Hm.out];omega
   obtain⟨x,hx⟩:∃x,nodes[j]? =some x:=⟨_,glE hjl⟩;have hmem:x∈nodes:=pM hx;obtain⟨g2,off2,u,rfl,N0⟩:=HT.out.nodes.at hx;have hg2:g2<w.heap.size:=World.block_lt_of_cell? w _ N0.c0;have N:=N0.below hbw;have hS:∀V,(zj8 (w.heap.size+2) w1.heap.size 0).rel wr.drew V->(V.cell? ⟨w1.heap.size,0,none⟩=some nv/\V.cell? ⟨w.heap.size,0,none⟩=some (.slice (some ⟨g2,off2,none⟩) m nc)/\V.cell? ⟨g2,off2+j*5,none⟩=some (.int .u8 x.kind)/\V.cell? ⟨g2,off2+j*5+1,none⟩=some (.string ⟨x.text.toArray⟩)/\V.cell? ⟨g2,off2+j*5+2,none⟩=some (.int .i64 x.n)/\V.cell? ⟨g2,off2+j*5+3,none⟩=some u/\V.cell? ⟨g2,off2+j*5+4,none⟩=some (.int .i64 x.at_)):=fun V h=>by
    have key:∀i y,wr.cell? ⟨g2,i,none⟩=some y->V.cell? ⟨g2,i,none⟩=some y:=fun i y hh=>by
     rw[World.cell?_of_block (h.1.block g2 (by omega))];exact hh
    exact⟨h.2.trans (zd hbox 0),(World.cell?_of_block (h.1.block w.heap.size (by omega))).trans z0,key _ _ N.c0,key _ _ N.c1,key _ _ N.c2,key _ _ N.c3,key _ _ N.c4⟩
   go_wp2_with fail;refine LodeX.qH (RR:=zj8 (w.heap.size+2) w1.heap.size 0) (Xp:=fun _ _=>False) [(0,0),(1,1),(2,0),(3,1),(4,0),(5,0),(6,1),(7,2),(8,2),(9,2),(10,0),(11,3)] ?_;refine LodeX.qr ?_;refine LodeX.ya rfl rfl (fun K hK V hV=>?_);cases hV;go_simp;refine (JW x u 0 _ (N.kids.below bR.drew) (fun k hk=>by rw[Int.add_zero];exact HI.out x hmem k hk) (HK.out x hmem)).mono ?_;rintro e w3 ⟨v3,rfl,K3,B3,F3⟩;rw[zcm] at K3 ⊢;obtain⟨p3,c3,rfl⟩:=K3.form;have hd2:=zj (show ∀u∈kv ++ [Value.slice p3 x.kids.length c3],∀g,xD u=some g->(Value.slice p m2 cp).ownBlock≠some g from fun u hu g hg e=>by
    rcases wM.1 hu with hu|hu
    ·exact hd.out u hu g hg e
    ·rw[wU.1 hu] at hg;have h1:wr.heap.size<=g:=F3 g hg;have h2:=(HKW.out.lt g e).2;have:=hf.b.size;omega)
   clear F3;have hbox3:w3.heap[w1.heap.size]? =_:=zi (w:=wr.drew) B3 hbox;have hown3:w3.ownsRow _ _ _ _ _ _:=zv (w:=wr.drew) hown B3;have hf3:FrI (w.heap.size+2) wr.drew w3:=FrI.of_below (w:=wr.drew) (show w.heap.size+2<=wr.heap.size by omega) B3;have hs3:wr.heap.size<=w3.heap.size:=B3.size;refine⟨⟨hf3.b,(zd hbox3 0).trans (zd hbox 0).symm⟩,hK _ _ ?_⟩;clear hK K
   try simp only[Act.put,yC,yA,yB]
   refine LodeX.ya rfl rfl (fun K hK V hV=>?_);cases hV;go_simp;have hba:=zg w3 (.cells (xA x (.slice p3 x.kids.length c3)).toArray 60 (0,0));refine⟨⟨hba.mono (by omega),(zd (zi hba hbox3) 0).trans (zd hbox3 0).symm⟩,hK _ _ ?_⟩;clear hK K
   try simp only[Act.put,yC,yA,yB]
   refine LodeX.ya rfl rfl (fun K hK V hV=>?_);cases hV;refine zbB (base:=w.heap.size+2) (b:=w3.heap.size) (y:=x) (u:=.slice p3 x.kids.length c3) _ _ rfl (by rfl) (zv hown3 hba) (by rfl) (zl w3 _) rfl (by omega) (by simp;omega) ?_;intro v' w4 hrow hgrow;have hbox4:w4.heap[w1.heap.size]? =_:=(hgrow.block w1.heap.size (by simp;omega) (fun e=>Qk (zv hown3 hba) (zi hba hbox3) (by decide) e.symm)).trans (zi hba hbox3);have hf4:=(Jq (base:=w.heap.size+2) (zv hown3 hba) hgrow (by simp;omega)).i;have hf5:=((hf.trans ⟨(pE _ wr).drew,fun _ _ _ h=>h⟩).trans hf3).trans ((FrI.of_below (base:=w.heap.size+2) (by omega) hba).trans hf4);have hrow2:w4.ownsRow (w.heap.size+2) 60 5 v' (j+1) (zZ (nodes.take (j+1)) (kv ++ [.slice p3 x.kids.length c3])):=by
    rw[wX,hx,Option.toList_some,Ze _ _ _ _ (by rw[hkv,wZ];omega)];exact hrow
   have hkids2:∀(k:Nat) (y:Nd) (v:Value),nodes[k]? =some y->(kv ++ [.slice p3 x.kids.length c3])[k]? =some v->KS w4 v y.kids:=fun k y v hyy hv=>by
    rcases Nat.lt_or_ge k kv.length with hk|hk
    ·rw[wQ hk] at hv;exact ((((hkids k y v hyy hv).fri ⟨(pE 0 wr).drew,fun _ _ _ h=>h⟩).fri hf3).below hba).fri hf4
    ·rw[wL hk] at hv;have hk0:k=j:=by
      have:=(gtL hv);simp at this;omega
     rw[hk0,hx] at hyy;cases hyy;rw[hk0] at hv;rw[hkv,Nat.sub_self] at hv;cases hv;exact (K3.below hba).fri hf4
   refine⟨⟨hf4.b,(zd hbox4 0).trans (zd (zi hba hbox3) 0).symm⟩,hK _ _ ?_⟩;clear hK K hS;obtain⟨vp,vc,rfl⟩:∃vp vc,v'=.slice vp (j+1) vc:=by
    rcases hrow.2 with⟨_,h0⟩|⟨g',cap',cur,hv,_⟩
    ·omega
    ·exact⟨_,cap',hv⟩
   replace hrow2:=zj hrow2;replace hkids2:=zj hkids2;replace hf5:=zj hf5;have d0:=zd hbox4 0;have e0:=zk hbox4 0;replace hbox4:=zj hbox4;clear hrow hgrow hown hown3 hkids hf hf3 hf4 hbox hbox3 K3 B3 hba
   try simp only[Act.put,yC,yA,yB]
   refine LodeX.qr ?_;refine LodeX.kA rfl rfl (fun V hV=>?_);cases hV;go_simp;refine LodeX.vC ?_;go_wp2;go_roundw
   case rel=>
    have hfs:=zjT (base:=w.heap.size+2) (by omega) hbox4.out (by decide) 0 (.slice vp (j+1) vc);exact⟨j+1,_,_,by go_num,by rw[Hm.out];omega,by simp[hkv],zo hbox4.out 0 _,ownsRow_setCell_other hrow2.out (Qk hrow2.out hbox4.out (by decide)) _,fun k y v hy hv=>(hkids2.out k y v hy hv).fri hfs,hf5.out.trans hfs,hd2.out⟩
   case measure=>simp[intOf];omega
  ·have hlt':¬((j:Int)<(m:Int)):=by omega
   have hjm:j=m:=by omega
   have htk:nodes.take j=nodes:=by rw[hjm,<-Hm.out];exact List.take_length
   rw[htk] at hown;obtain⟨vp,vc,rfl⟩:∃vp vc,nv=.slice vp m vc:=by
    rcases hown.2 with⟨h1,h0⟩|⟨g',cap',cur,hv,_⟩
    ·exact⟨none,0,by rw[h1,<-hjm,h0]⟩
    ·exact⟨_,cap',by rw[hv,hjm]⟩
   have hT:vo wr (w.heap.size+2) (.slice vp m vc) (.slice p m2 cp) ⟨nodes,items⟩ kv:=⟨by rw[Hm.out];exact hjm▸hown,by rw[Hm.out,hkv,hjm],hkids,by rw[Hm2.out];exact Kg HKW.out hf,hd.out⟩;have f1:∀i,wr.frozen? ⟨w.heap.size+1,i,none⟩=false:=fun i=>zk hQr i
   have b0:=zd hbox 0;have b1:=zd hbox 1;have q0:=zd hQr 0;have q1:=zd hQr 1;replace HT:=zj hT;replace hQr:=zj hQr;replace hbw:=zj hbw;clear hown htk hT hkids hf hZr hbox;go_wp2_with fail;have zA:=zo hQr.out 0 (.slice vp m vc);have zB:=zo zA 1 (.slice p m2 cp);refine bodyPost_ret (v:=.agg #[.slice vp m vc,.slice p m2 cp]) (by simp[results,results15,go_sem,zd zB]) rfl ?_;exact⟨_,_,rfl,⟨_,(HT.out.setBox hQr.out (by decide) (by decide) 0 _).setBox zA (by decide) (by decide) 1 _⟩,(hbw.out.setCell (by simp) _).setCell (by simp) _⟩
theorem zdg(c:Nat)(hc:c=100\/c=101\/c=26\/c=70\/c=88\/c=89\/c=85\/c=86\/c=87\/c=40\/c=103\/c=102\/c=33\/c=104\/c=28\/c=62\/c=29\/c=30\/c=36\/c=34\/c=31\/c=32\/c=35)(t:List UInt8)(n a:Int)(p:Option Addr)(m cp i kd:Nat)(w:World)(hm:m<=100000):Calls prog 156 #[.agg #[.int .u8 c,.string ⟨t.toArray⟩,.int .i64 n,.slice p m cp,.int .i64 a],.int .i64 i,.int .u8 kd] w (qR w (.bool (yM c n m i kd))):=by
 have hz:=zl w (.cells #[.int .u8 c,.string ⟨t.toArray⟩,.int .i64 n,.slice p m cp,.int .i64 a] 60 (0,0));have hA:=zg w (.cells #[.int .u8 c,.string ⟨t.toArray⟩,.int .i64 n,.slice p m cp,.int .i64 a] 60 (0,0));have c0:=zd hz 0;have c2:=zd hz 2;have c3:=zd hz 3;have y1:=pC ((m:Int)-1) (by omega);have y2:=pC ((m:Int)-1-1) (by omega);clear hz;rcases hc with rfl|rfl|rfl|rfl|rfl|rfl|rfl|rfl|rfl|rfl|rfl|rfl|rfl|rfl|rfl|rfl|rfl|rfl|rfl|rfl|rfl|rfl|rfl
 all_goals as_aux_lemma=>
  go_enter func156,ntmps156;go_wp2_with (first|(go_at_call 111;refine (Qf kd _).mono ?_;rintro e w2 ⟨rfl,hb⟩;try have d2:=zh hb c2)|(go_at_call 113;refine (uZ kd _).mono ?_;rintro e w2 ⟨rfl,hb⟩;try have d2:=zh hb c2)|(go_at_call 221;refine (zb6 kd _).mono ?_;rintro e w2 ⟨rfl,hb⟩;try have d2:=zh hb c2)|(go_at_call 219;refine (ZT kd _).mono ?_;rintro e w2 ⟨rfl,hb⟩;try have d2:=zh hb c2)|(go_at_call 220;refine (VI kd _).mono ?_;rintro e w2 ⟨rfl,hb⟩;try have d2:=zh hb c2))
  all_goals go_ret
  all_goals first|(refine⟨?_,hA⟩)|(refine⟨?_,zf hA hb⟩)|(refine⟨?_,zf hA (zf ‹_› hb)⟩)
  all_goals (clear c0 c2 c3 hA)
  all_goals first|(simp[yM, *];done)|(refine yv ?_;simp[yM];first|done|omega|grind)
theorem zhc(k:Nat)(hc:¬(k=100\/k=101\/k=26\/k=70\/k=88\/k=89\/k=85\/k=86\/k=87\/k=40\/k=103\/k=102\/k=33\/k=104\/k=28\/k=62\/k=29\/k=30\/k=36\/k=34\/k=31\/k=32\/k=35))(t:List UInt8)(n a:Int)(p:Option Addr)(m cp i kd:Nat)(w:World)(hm:m<=100000):Calls prog 156 #[.agg #[.int .u8 k,.string ⟨t.toArray⟩,.int .i64 n,.slice p m cp,.int .i64 a],.int .i64 i,.int .u8 kd] w (qR w (.bool (yM k n m i kd))):=by
 have hz:=zl w (.cells #[.int .u8 k,.string ⟨t.toArray⟩,.int .i64 n,.slice p m cp,.int .i64 a] 60 (0,0));have hA:=zg w (.cells #[.int .u8 k,.string ⟨t.toArray⟩,.int .i64 n,.slice p m cp,.int .i64 a] 60 (0,0));have c0:=zd hz 0;have c2:=zd hz 2;have c3:=zd hz 3;have y1:=pC ((m:Int)-1) (by omega);have y2:=pC ((m:Int)-1-1) (by omega);clear hz;simp only[not_or] at hc;obtain⟨n100,n101,n26,n70,n88,n89,n85,n86,n87,n40,n103,n102,n33,n104,n28,n62,n29,n30,n36,n34,n31,n32,n35⟩:=hc;obtain⟨i100,i101,i26,i70,i88,i89,i85,i86,i87,i40,i103,i102,i33,i104,i28,i62,i29,i30,i36,i34,i31,i32,i35⟩:((k:Int) == 100)=false/\((k:Int) == 101)=false/\((k:Int) == 26)=false/\((k:Int) == 70)=false/\((k:Int) == 88)=false/\((k:Int) == 89)=false/\((k:Int) == 85)=false/\((k:Int) == 86)=false/\((k:Int) == 87)=false/\((k:Int) == 40)=false/\((k:Int) == 103)=false/\((k:Int) == 102)=false/\((k:Int) == 33)=false/\((k:Int) == 104)=false/\((k:Int) == 28)=false/\((k:Int) == 62)=false/\((k:Int) == 29)=false/\((k:Int) == 30)=false/\((k:Int) == 36)=false/\((k:Int) == 34)=false/\((k:Int) == 31)=false/\((k:Int) == 32)=false/\((k:Int) == 35)=false:=by
  refine⟨?_,?_,?_,?_,?_,?_,?_,?_,?_,?_,?_,?_,?_,?_,?_,?_,?_,?_,?_,?_,?_,?_,?_⟩ <;> (rw[pA];omega)
 go_enter func156,ntmps156;go_wp2_with (first|(go_at_call 111;refine (Qf kd _).mono ?_;rintro e w2 ⟨rfl,hb⟩;try have d2:=zh hb c2)|(go_at_call 113;refine (uZ kd _).mono ?_;rintro e w2 ⟨rfl,hb⟩;try have d2:=zh hb c2)|(go_at_call 221;refine (zb6 kd _).mono ?_;rintro e w2 ⟨rfl,hb⟩;try have d2:=zh hb c2)|(go_at_call 219;refine (ZT kd _).mono ?_;rintro e w2 ⟨rfl,hb⟩;try have d2:=zh hb c2)|(go_at_call 220;refine (VI kd _).mono ?_;rintro e w2 ⟨rfl,hb⟩;try have d2:=zh hb c2));go_ret;exact⟨by simp[yM,n100,n101,n26,n70,n88,n89,n85,n86,n87,n40,n103,n102,n33,n104,n28,n62,n29,n30,n36,n34,n31,n32,n35],zf hA hb⟩
theorem zdA(x:Nd)(u:Value)(i kd:Nat)(w:World)(hk:KW w u x.kids)(hi:i<x.kids.length)(hm:x.kids.length<=100000):Calls prog 156 #[um x u,.int .i64 i,.int .u8 kd] w (qR w (.bool (yM x.kind x.n x.kids.length i kd))):=by
 obtain⟨p,cp,rfl⟩:=hk.form;obtain⟨k,t,n,ks,a⟩:=x;show Calls _ _ #[.agg #[.int .u8 k,.string ⟨t.toArray⟩,.int .i64 n,.slice p ks.length cp,.int .i64 a],_,_] _ (qR w (.bool (yM k n ks.length i kd)))
 by_cases hc:k=100\/k=101\/k=26\/k=70\/k=88\/k=89\/k=85\/k=86\/k=87\/k=40\/k=103\/k=102\/k=33\/k=104\/k=28\/k=62\/k=29\/k=30\/k=36\/k=34\/k=31\/k=32\/k=35
 ·exact zdg k hc t n a p ks.length cp i kd w hm
 ·exact zhc k hc t n a p ks.length cp i kd w hm
abbrev zbr(r:List UInt8×Nat)(w:World)(e:Ending)(w':World):Prop:=e=.returned (.tuple #[.string ⟨r.1.toArray⟩,.int .i64 r.2])/\Below w.heap.size w w'
theorem zhs(k:Nat)(s:ByteArray)(a:Int)(w:World)(hs:s.size<=1000000000000):
 Calls prog 218 #[.agg #[.int .u8 k,.string s,.int .i64 a]] w (zbr (Lode.YA k s.data.toList) w):=by
 generalize hr:Lode.YA k s.data.toList=r;replace hr:=hr.symm;unfold Lode.YA at hr;have hbw:=zg w (.cells #[.int .u8 k,.string s,.int .i64 a] 66 (0,0));have hl:s.data.toList.length=s.size:=by simp
 by_cases hk:k=4
 ·rw[if_pos hk] at hr;have Hq:=zj (fun w=>YB s w hs);subst hk;generalize xr s.data.toList=q at *;obtain⟨q1,q2⟩:=q;simp only at hr;by_cases h0:q2=0
  ·rw[if_pos h0] at hr;subst h0 hr;go_enter func218,ntmps218;go_wp2_with (go_at_call 116;refine (Hq.out _).mono ?_;rintro e w1 ⟨rfl,rfl⟩);go_ret2;exact⟨rfl,hbw⟩
  ·rw[if_neg h0] at hr;subst hr;have h0':((q2:Int) != 0)=true:=by rw[gB];omega
   go_enter func218,ntmps218;go_wp2_with (go_at_call 116;refine (Hq.out _).mono ?_;rintro e w1 ⟨rfl,rfl⟩);go_ret2;exact⟨rfl,hbw⟩
 ·rw[if_neg hk] at hr;have hk':((k:Int) == 4)=false:=bfE (by omega)
  by_cases h0:s.size=0
  ·have hs0:s=⟨#[]⟩:=ByteArray.ext (Array.size_eq_zero_iff.1 h0);have hr2:r=([],4):=by rw[hr,if_pos (.inl (by rw[hs0]))]
   subst hr2 hs0;clear hr h0 hl;go_enter func218,ntmps218;go_wp2;go_ret2;exact⟨rfl,hbw⟩
  ·have hpos:0<s.size:=by omega
   have hne:=zgi hpos;have hh:=zlj s hpos;have hnil:s.data.toList≠[]:=fun e=>by rw[e] at hl;simp at hl;omega
   by_cases h20:20<s.size
   ·have hr2:r=([],4):=by rw[hr,if_pos (.inr (.inl (by rw[hl];exact h20)))]
    subst hr2;clear hr;go_enter func218,ntmps218;go_wp2;go_ret2;exact⟨rfl,hbw⟩
   ·by_cases h34:s[0]=34
    ·have hr2:r=([],4):=by rw[hr,if_pos (.inr (.inr (by rw[hh,h34])))]
     subst hr2;have hb:((s[0].toNat:Int) == 34)=true:=by rw[h34];rfl
     clear hr hh h34;go_enter func218,ntmps218;go_wp2;go_ret2;exact⟨rfl,hbw⟩
    ·have hb:((s[0].toNat:Int) == 34)=false:=by
      rw[pA];intro e;exact h34 ((c34 _).mp e)
     rw[if_neg (by rintro (h|h|h) <;> first|exact hnil h|omega|(rw[hh,wN] at h;exact h34 h))] at hr;have hd0:s.data.toList.drop 0=s.data.toList:=rfl;cases ht:xd s.data.toList with
     |none=>
      rw[ht] at hr;have hr2:r=([],4):=hr;subst hr2;have HF:=zj (fun (W:World)=>QI s 0 hs hpos ht W);clear hr hh h34 ht hnil;go_enter func218,ntmps218;go_wp2_with (go_at_call 85;refine (HF.out _).mono ?_;rintro e w1 ⟨⟨kk,tt,a',n,rfl⟩,hb1⟩;have hbx:=zf hbw hb1);go_ret2;exact⟨rfl,yc hbx _⟩
     |some x=>
      obtain⟨k',x,m⟩:=x;rw[ht] at hr;replace hr:r=if m=s.size/\k'=k then (s.data.toList,0) else ([],4):=by rw[hr,<-hl]
      have HF:=zj (fun (W:World)=>QH s 0 hs hpos k' x m ht W);have m0:=zl w (.cells #[.int .u8 k,.string s,.int .i64 a] 66 (0,0));clear hh h34 ht hnil;by_cases hm:m=s.size
      ·by_cases hk2:k'=k
       ·rw[if_pos ⟨hm,hk2⟩] at hr;have hk3:=hk2.symm;subst hr hk3 hm;go_enter func218,ntmps218;go_wp2_with (go_at_call 85;refine (HF.out _).mono ?_;rintro e w1 ⟨rfl,hb1⟩;have hbx:=zf hbw hb1;have q0:∀o,(w1.alloc o).cell? ⟨w.heap.size,0,none⟩=some (.int .u8 k):=fun o=>zd (xN o (zi hb1 m0)) 0;have q1:∀o,(w1.alloc o).cell? ⟨w.heap.size,1,none⟩=some (.string s):=fun o=>zd (xN o (zi hb1 m0)) 1);go_ret2;exact⟨by rw[<-ur];rfl,yc hbx _⟩
       ·rw[if_neg (fun e=>hk2 e.2)] at hr;subst hr hm;have hk3:((k':Int) == (k:Int))=false:=bfE (by omega)
        go_enter func218,ntmps218;go_wp2_with (go_at_call 85;refine (HF.out _).mono ?_;rintro e w1 ⟨rfl,hb1⟩;have hbx:=zf hbw hb1;have q0:∀o,(w1.alloc o).cell? ⟨w.heap.size,0,none⟩=some (.int .u8 k):=fun o=>zd (xN o (zi hb1 m0)) 0;have q1:∀o,(w1.alloc o).cell? ⟨w.heap.size,1,none⟩=some (.string s):=fun o=>zd (xN o (zi hb1 m0)) 1);refine bodyPost_ret (v:=.tuple #[.string ⟨#[]⟩,.int .i64 4]) (by simp[results,results218,go_sem]) rfl ⟨rfl,yc hbx _⟩
      ·rw[if_neg (fun e=>hm e.1)] at hr;subst hr;have hm2:((m:Int) != (s.size:Int))=true:=by rw[gB];omega
       go_enter func218,ntmps218;go_wp2_with (go_at_call 85;refine (HF.out _).mono ?_;rintro e w1 ⟨rfl,hb1⟩;have hbx:=zf hbw hb1;have q0:∀o,(w1.alloc o).cell? ⟨w.heap.size,0,none⟩=some (.int .u8 k):=fun o=>zd (xN o (zi hb1 m0)) 0;have q1:∀o,(w1.alloc o).cell? ⟨w.heap.size,1,none⟩=some (.string s):=fun o=>zd (xN o (zi hb1 m0)) 1);go_ret2;exact⟨rfl,yc hbx _⟩
theorem zfW(k:Nat)(t:List UInt8)(a:Int)(w:World)(hs:t.length<=1000000000000):
 Calls prog 218 #[.agg #[.int .u8 k,.string ⟨t.toArray⟩,.int .i64 a]] w (zbr (Lode.YA k t) w):=zhs k ⟨t.toArray⟩ a w hs
theorem zju(k:Nat)(t:List UInt8)(w:World)(hs:t.length<=1000000000000):Calls prog 155 #[.int .u8 k,.string ⟨t.toArray⟩] w (qR w (.bool ((xB k t).2 == 0))):=by
 rw[zgr];have hC:=zj (fun W=>zfW k t 0 W hs);generalize hr:Lode.YA k t=r at *;obtain⟨r1,r2⟩:=r;unfold zbr at hC;simp only at hC ⊢;by_cases h0:r2=0
 ·subst h0;go_enter func155,ntmps155;go_wp2_with (go_at_call 218;refine (hC.out _).mono ?_;rintro e w1 ⟨rfl,hb1⟩);go_ret;exact⟨rfl,hb1⟩
 ·have hd:((r2:Int) == 0)=false:=bfE (by omega)
  go_enter func155,ntmps155;go_wp2_with (go_at_call 218;refine (hC.out _).mono ?_;rintro e w1 ⟨rfl,hb1⟩);go_ret;exact⟨by simp[h0],hb1⟩
def zfv(l:List Nd)(k:Nat)(n:Int)(m:Nat)(ks:List Int)(w:World)(i:Value)(wr:World):Prop:=∃j:Nat,i=.int .i64 j/\j<=m/\(∀i,i<j->yM k n m i (zt l (ks.getD i 0))=true)/\Below w.heap.size w wr
theorem zdD(t:zU)(nv iv:Value)(i0:Nat)(x:Nd)(w:World)(hT:Jy w nv iv t)(hx:t.nodes[i0]? =some x)(hin:∀k∈x.kids,0<=k/\k<(t.nodes.length:Int))(hkl:x.kids.length<=100000)(htl:x.text.length<=1000000000000):
 Calls prog 102 #[.agg #[nv,iv],.int .i64 i0] w (qR w (.bool (zH t.nodes x))):=by
 obtain⟨np,nc,ip,ic,rfl,rfl⟩:=hT.form;have hN:=hT.nodes;have hi0:(i0:Int)<(t.nodes.length:Int):=by have:=(gtL hx);omega
 have hi1:¬((i0:Int)<0):=by omega
 obtain⟨g,off,u,rfl,hA0⟩:=hN.at hx;obtain⟨up,uc,rfl⟩:=hA0.kids.form;obtain⟨k,txt,n,ks,a⟩:=x;simp only at hin hkl htl;have HK:=zj hA0.kids;have HIN:=zj hin;have hNum:=zj (fun W (hW:Below w.heap.size w W)=>Vg ⟨k,txt,n,ks,a⟩ (.slice up ks.length uc) W (hA0.kids.below hW));have hIs:=zj (fun W=>zju (xC k) txt W htl);have hSu:=zj (fun W (hW:Below w.heap.size w W) (i kd:Nat) (hi:i<ks.length)=>zdA ⟨k,txt,n,ks,a⟩ (.slice up ks.length uc) i kd W (hA0.kids.below hW) hi hkl);obtain⟨lb,hlb⟩:=exE (((List.range ks.length).all fun i=>yM k n ks.length i (zt t.nodes (ks.getD i 0))));have hR:zH t.nodes ⟨k,txt,n,ks,a⟩=(xS k && decide ((qK k).1<=ks.length) && decide (ks.length<=(qK k).2) && zx k n ks.length && decide (0<=a) && decide (a<=3000) && xX ⟨k,txt,n,ks,a⟩ && lb):=hlb▸rfl;obtain⟨c0,c1,c2,c3,c4,hkk⟩:=hA0;simp only at c0 c1 c2 c3 c4 hkk;obtain⟨m,hm⟩:=exE (ks.length);rw[hm] at c3 hkl hNum hSu hR hlb;have HL:=zj hlb;unfold xX at hR;simp only at hNum hSu hR;have hz:=zl w (.cells #[.slice (some ⟨g,off,none⟩) t.nodes.length nc,.slice ip t.items.length ic] 26 (0,0));have hA:=zg w (.cells #[.slice (some ⟨g,off,none⟩) t.nodes.length nc,.slice ip t.items.length ic] 26 (0,0));have a0:=zh hA c0;have a1:=zh hA c1;have a2:=zh hA c2;have a3:=zh hA c3;have a4:=zh hA c4;have b0:=zd hz 0;have hbx:=zg (w.alloc (.cells #[.slice (some ⟨g,off,none⟩) t.nodes.length nc,.slice ip t.items.length ic] 26 (0,0))) (.cells #[.int .u8 k,.string ⟨txt.toArray⟩,.int .i64 n,.slice up m uc,.int .i64 a] 60 (0,0));have hnz:=zl (w.alloc (.cells #[.slice (some ⟨g,off,none⟩) t.nodes.length nc,.slice ip t.items.length ic] 26 (0,0))) (.cells #[.int .u8 k,.string ⟨txt.toArray⟩,.int .i64 n,.slice up m uc,.int .i64 a] 60 (0,0));rw[show (w.alloc (.cells #[.slice (some ⟨g,off,none⟩) t.nodes.length nc,.slice ip t.items.length ic] 26 (0,0))).heap.size=w.heap.size+1 by simp] at hnz;have k0:=zd hnz 0;have k1:=zd hnz 1;have k2:=zd hnz 2;have k3:=zd hnz 3;have k4:=zd hnz 4;have t0:=zd (zi hbx hz) 0;have hbw:=zf hA hbx;have hKn:=zj (zdF k);have hFe:=zj (zjV k);have hTi:=zj (zdc k);have HN:=zj hN;have HM:=zj hm;have HX:=zj hx;generalize hr:zH t.nodes ⟨k,txt,n,ks,a⟩=r at *;generalize xS k=kb at *;obtain⟨f1,f2,hf⟩:∃f1 f2,qK k=(f1,f2):=⟨_,_,rfl⟩;rw[hf] at hFe hR;generalize xC k=tt at *;generalize zx k n m=nb at *;generalize (xB tt txt).2=sp at *;simp only at hFe hR;have HR:=zj hR;have hbw:=zj hbw;clear hT hN hz hA hnz hbx hR hx hm hkk hr hf hin c0 c1 c2 c3 c4 hlb;go_enter func102,ntmps102;go_wp2_with (first
  |(go_at_call 151;refine (hFe.out _).mono ?_;rintro e wk ⟨rfl,rfl⟩)
  |(go_at_call 152;refine (hTi.out _).mono ?_;rintro e wk ⟨rfl,rfl⟩)
  |(go_at_call 153;refine (hKn.out _).mono ?_;rintro e wk ⟨rfl,hb⟩;have k0:=zh hb k0;have k1:=zh hb k1;have k2:=zh hb k2;have k3:=zh hb k3;have k4:=zh hb k4;have t0:=zh hb t0;have hbw:=zj (zf hbw.out hb);clear hb)
  |(go_at_call 154;refine (hNum.out _ hbw.out).mono ?_;rintro e wk ⟨rfl,hb⟩;have k0:=zh hb k0;have k1:=zh hb k1;have k2:=zh hb k2;have k3:=zh hb k3;have k4:=zh hb k4;have t0:=zh hb t0;have hbw:=zj (zf hbw.out hb);clear hb)
  |(go_at_call 155;refine (hIs.out _).mono ?_;rintro e wk ⟨rfl,hb⟩;have k0:=zh hb k0;have k1:=zh hb k1;have k2:=zh hb k2;have k3:=zh hb k3;have k4:=zh hb k4;have t0:=zh hb t0;have hbw:=zj (zf hbw.out hb);clear hb))
 ·have hyes:r=lb:=by
   rw[HR.out,pP];simp only[pI,pH,pX];grind
  have hst:zfv t.nodes k n m ks wk (.int .i64 0) wk:=⟨0,rfl,pV _,fun i hi=>absurd hi (pY _),pE _ _⟩;have Hst:=zj hst;have Hyes:=zj hyes;clear hst hyes;generalize decide (m<f1)=B1;generalize decide (f2<m)=B2;generalize decide (a<0)=B3;generalize decide (3000<a)=B4;go_loopw [9] (zfv t.nodes k n m ks wk) (fun i _=>m-(intOf i).toNat)
  case atStart=>exact Hst.out
  case round=>
   obtain⟨j,rfl,hj,hall,hb⟩:=hrel;have Hall:=zj hall;have q0:=zh hb k0;have q1:=zh hb k1;have q2:=zh hb k2;have q3:=zh hb k3;have q4:=zh hb k4;have s0:=zh hb t0;have hbv:=zf hbw.out hb;clear k0 k1 k2 k3 k4 t0 hall;by_cases hlt:j<m
   ·have hlt':(j:Int)<(m:Int):=by omega
    have hj0:¬((j:Int)<0):=by omega
    have hjl:j<ks.length:=by rw[HM.out];exact hlt
    obtain⟨g2,off2,rfl,d0⟩:=(HK.out.below hbv).at hjl;have hzz:=HIN.out (ks.getD j 0) (by rw[pB,glE hjl];exact wF hjl);obtain⟨zn,hzn⟩:=pJ hzz.1;have hz0:¬((zn:Int)<0):=by omega
    have hz1:(zn:Int)<(t.nodes.length:Int):=by rw[<-hzn];exact hzz.2
    obtain⟨xz,hxz⟩:∃x,t.nodes[zn]? =some x:=⟨_,glE (by omega)⟩;obtain⟨g3,off3,u3,hge,hAz⟩:=(HN.out.below hbv).at hxz;cases hge;have hkz:zt t.nodes (ks.getD j 0)=xz.kind:=by
     unfold zt;rw[hzn];simp[hxz]
    have e0:=hAz.c0;rw[hzn] at d0;have Hkz:=zj hkz;clear hkz hAz hxz hzz hzn;have hS:∀W,Cl wr.drew W->(W.cell? ⟨w.heap.size+1,0,none⟩=some (.int .u8 k)/\W.cell? ⟨w.heap.size+1,1,none⟩=some (.string ⟨txt.toArray⟩)/\W.cell? ⟨w.heap.size+1,2,none⟩=some (.int .i64 n)/\W.cell? ⟨w.heap.size+1,3,none⟩=some (.slice (some ⟨g2,off2,none⟩) m uc)/\W.cell? ⟨w.heap.size+1,4,none⟩=some (.int .i64 a)/\W.cell? ⟨w.heap.size,0,none⟩=some (.slice (some ⟨g,off,none⟩) t.nodes.length nc)/\W.cell? ⟨g2,off2+j,none⟩=some (.int .i64 zn)/\W.cell? ⟨g,off+zn*5,none⟩=some (.int .u8 xz.kind)):=fun W h=>
     ⟨zh (w:=wr.drew) h.below q0,zh (w:=wr.drew) h.below q1,zh (w:=wr.drew) h.below q2,zh (w:=wr.drew) h.below q3,zh (w:=wr.drew) h.below q4,zh (w:=wr.drew) h.below s0,zh (w:=wr.drew) h.below d0,zh (w:=wr.drew) h.below e0⟩
    go_wp2_with fail;refine Xk [(0,1),(1,0),(2,0),(3,1),(4,0),(5,1),(6,0),(7,0),(8,1),(9,0),(10,0),(11,1),(12,2),(13,0)] ?_;refine XQ ?_;refine ya rfl rfl (fun K hK V hV=>?_);have hbV:Below w.heap.size w V:=zf (hbv.trans (bR.drew.mono hbv.size)) hV.below;go_simp;have hcc:=hSu.out V hbV j xz.kind hlt;unfold um at hcc;simp only at hcc
    try (have e1:txt=[]:=by assumption
         rw[e1] at hcc)
    refine hcc.mono ?_;rintro e w3 ⟨rfl,hb3⟩;refine⟨jm.2 hb3,hK _ _ ?_⟩;clear hK K hS;have hb4:Below wr.heap.size wr w3:=(pE _ wr).drew.trans (zf hV.below hb3);obtain⟨sb,hsb⟩:=exE (yM k n m j xz.kind);rw[hsb];have Hsb:=zj hsb;replace hb4:=zj hb4;clear hsb hbV hV hb3 q0 q1 q2 q3 q4 s0 d0 e0;cases sb
    ·refine XQ ?_;refine zC fun W hW=>?_
     have hb5:=zj (zf hb4.out hW.below);go_wp2;go_ret;refine⟨?_,zf hbv hb5.out⟩;refine yv ?_;rw[Hyes.out,<-HL.out];simp only[pZ,List.mem_range,Bool.false_eq_true,false_iff];intro h;have:=h j hlt;rw[Hkz.out,Hsb.out] at this;cases this
    ·refine XQ ?_;refine zC fun W hW=>?_
     have hb5:=zj (zf hb4.out hW.below);go_wp2;go_roundw
     case rel=>
      refine⟨j+1,by go_num,by omega,fun i hi=>?_,zf hb hb5.out⟩;by_cases e:i=j
      ·rw[e,Hkz.out];exact Hsb.out
      ·exact Hall.out i (by omega)
     case measure=>simp[intOf];omega
   ·have hjm:j=m:=by omega
    have hlt':¬((j:Int)<(m:Int)):=by omega
    go_wp2;go_ret;refine⟨?_,hbv⟩;refine yv ?_;rw[Hyes.out,<-HL.out];simp only[pZ,List.mem_range,true_iff];exact fun i hi=>Hall.out i (by omega)
 ·go_ret;refine⟨?_,hbw.out⟩;refine yv ?_;rw[HR.out];simp only[pI,pH,pX];grind
 ·go_ret;refine⟨?_,hbw.out⟩;refine yv ?_;rw[HR.out];simp only[pI,pH,pX];grind
 ·have hyes:r=lb:=by
   rw[HR.out,pP];simp only[pI,pH,pX];grind
  have hst:zfv t.nodes k n m ks wk (.int .i64 0) wk:=⟨0,rfl,pV _,fun i hi=>absurd hi (pY _),pE _ _⟩;have Hst:=zj hst;have Hyes:=zj hyes;clear hst hyes;generalize decide (m<f1)=B1;generalize decide (f2<m)=B2;generalize decide (a<0)=B3;generalize decide (3000<a)=B4;go_loopw [9] (zfv t.nodes k n m ks wk) (fun i _=>m-(intOf i).toNat)
  case atStart=>exact Hst.out
  case round=>
   obtain⟨j,rfl,hj,hall,hb⟩:=hrel;have Hall:=zj hall;have q0:=zh hb k0;have q1:=zh hb k1;have q2:=zh hb k2;have q3:=zh hb k3;have q4:=zh hb k4;have s0:=zh hb t0;have hbv:=zf hbw.out hb;clear k0 k1 k2 k3 k4 t0 hall;by_cases hlt:j<m
   ·have hlt':(j:Int)<(m:Int):=by omega
    have hj0:¬((j:Int)<0):=by omega
    have hjl:j<ks.length:=by rw[HM.out];exact hlt
    obtain⟨g2,off2,rfl,d0⟩:=(HK.out.below hbv).at hjl;have hzz:=HIN.out (ks.getD j 0) (by rw[pB,glE hjl];exact wF hjl);obtain⟨zn,hzn⟩:=pJ hzz.1;have hz0:¬((zn:Int)<0):=by omega
    have hz1:(zn:Int)<(t.nodes.length:Int):=by rw[<-hzn];exact hzz.2
    obtain⟨xz,hxz⟩:∃x,t.nodes[zn]? =some x:=⟨_,glE (by omega)⟩;obtain⟨g3,off3,u3,hge,hAz⟩:=(HN.out.below hbv).at hxz;cases hge;have hkz:zt t.nodes (ks.getD j 0)=xz.kind:=by
     unfold zt;rw[hzn];simp[hxz]
    have e0:=hAz.c0;rw[hzn] at d0;have Hkz:=zj hkz;clear hkz hAz hxz hzz hzn;have hS:∀W,Cl wr.drew W->(W.cell? ⟨w.heap.size+1,0,none⟩=some (.int .u8 k)/\W.cell? ⟨w.heap.size+1,1,none⟩=some (.string ⟨txt.toArray⟩)/\W.cell? ⟨w.heap.size+1,2,none⟩=some (.int .i64 n)/\W.cell? ⟨w.heap.size+1,3,none⟩=some (.slice (some ⟨g2,off2,none⟩) m uc)/\W.cell? ⟨w.heap.size+1,4,none⟩=some (.int .i64 a)/\W.cell? ⟨w.heap.size,0,none⟩=some (.slice (some ⟨g,off,none⟩) t.nodes.length nc)/\W.cell? ⟨g2,off2+j,none⟩=some (.int .i64 zn)/\W.cell? ⟨g,off+zn*5,none⟩=some (.int .u8 xz.kind)):=fun W h=>
     ⟨zh (w:=wr.drew) h.below q0,zh (w:=wr.drew) h.below q1,zh (w:=wr.drew) h.below q2,zh (w:=wr.drew) h.below q3,zh (w:=wr.drew) h.below q4,zh (w:=wr.drew) h.below s0,zh (w:=wr.drew) h.below d0,zh (w:=wr.drew) h.below e0⟩
    go_wp2_with fail;refine Xk [(0,1),(1,0),(2,0),(3,1),(4,0),(5,1),(6,0),(7,0),(8,1),(9,0),(10,0),(11,1),(12,2),(13,0)] ?_;refine XQ ?_;refine ya rfl rfl (fun K hK V hV=>?_);have hbV:Below w.heap.size w V:=zf (hbv.trans (bR.drew.mono hbv.size)) hV.below;go_simp;have hcc:=hSu.out V hbV j xz.kind hlt;unfold um at hcc;simp only at hcc
    try (have e1:txt=[]:=by assumption
         rw[e1] at hcc)
    refine hcc.mono ?_;rintro e w3 ⟨rfl,hb3⟩;refine⟨jm.2 hb3,hK _ _ ?_⟩;clear hK K hS;have hb4:Below wr.heap.size wr w3:=(pE _ wr).drew.trans (zf hV.below hb3);obtain⟨sb,hsb⟩:=exE (yM k n m j xz.kind);rw[hsb];have Hsb:=zj hsb;replace hb4:=zj hb4;clear hsb hbV hV hb3 q0 q1 q2 q3 q4 s0 d0 e0;cases sb
    ·refine XQ ?_;refine zC fun W hW=>?_
     have hb5:=zj (zf hb4.out hW.below);go_wp2;go_ret;refine⟨?_,zf hbv hb5.out⟩;refine yv ?_;rw[Hyes.out,<-HL.out];simp only[pZ,List.mem_range,Bool.false_eq_true,false_iff];intro h;have:=h j hlt;rw[Hkz.out,Hsb.out] at this;cases this
    ·refine XQ ?_;refine zC fun W hW=>?_
     have hb5:=zj (zf hb4.out hW.below);go_wp2;go_roundw
     case rel=>
      refine⟨j+1,by go_num,by omega,fun i hi=>?_,zf hb hb5.out⟩;by_cases e:i=j
      ·rw[e,Hkz.out];exact Hsb.out
      ·exact Hall.out i (by omega)
     case measure=>simp[intOf];omega
   ·have hjm:j=m:=by omega
    have hlt':¬((j:Int)<(m:Int)):=by omega
    go_wp2;go_ret;refine⟨?_,hbv⟩;refine yv ?_;rw[Hyes.out,<-HL.out];simp only[pZ,List.mem_range,true_iff];exact fun i hi=>Hall.out i (by omega)
 ·go_ret;refine⟨?_,hbw.out⟩;refine yv ?_;rw[HR.out];simp only[pI,pH,pX];grind
 ·go_ret;refine⟨?_,hbw.out⟩;refine yv ?_;rw[HR.out];simp only[pI,pH,pX];grind
 ·go_ret;refine⟨?_,hbw.out⟩;refine yv ?_;rw[HR.out];simp only[pI,pH,pX];grind
 ·go_ret;refine⟨?_,hbw.out⟩;refine yv ?_;rw[HR.out];simp only[pI,pH,pX];grind
 ·go_ret;refine⟨?_,hbw.out⟩;refine yv ?_;rw[HR.out];simp only[pI,pH,pX];grind
 ·go_ret;refine⟨?_,hbw.out⟩;refine yv ?_;rw[HR.out];simp only[pI,pH,pX];grind
def FmI(l:List Nd)(out:List Nat)(its:List Int)(R:Option Int)(n:Nat)(w:World)(at_ k:Value)(wr:World):Prop:=∃(q:Nat) (a:Int),at_=.int .i64 a/\k=.int .i64 ((q:Int)-1)/\q<=its.length/\a<(n:Int)/\-1<=a/\Xz l out (its.take q).reverse a=R/\Below w.heap.size w wr
def FmN(l:List Nd)(w:World)(i:Value)(wr:World):Prop:=∃j:Nat,i=.int .i64 j/\j<=l.length/\(∀(k:Nat) (x:Nd),k<j->l[k]? =some x->zH l x=true)/\Below w.heap.size w wr
theorem zf8(t:zU)(nv iv:Value)(w:World)(hT:Jy w nv iv t)(hn1:t.nodes.length<=100000)(hil:t.items.length<=100000)(hk1:∀x∈t.nodes,x.kids.length<=100000)(htl:∀x∈t.nodes,x.text.length<=1000000000000):
 Calls prog 54 #[.agg #[nv,iv]] w (qR w (.bool (kY t))):=by
 have hSz:=zj (fun W (hW:Below w.heap.size w W)=>JS t nv iv W (hT.below hW) hn1 hk1);have hRi:=zj (fun W (hW:Below w.heap.size w W) (i:Nat) (x:Nd) (hx:t.nodes[i]? =some x) (hin:∀k∈x.kids,0<=k/\k<(t.nodes.length:Int))=>zdD t nv iv i x W (hT.below hW) hx hin (hk1 x (pM hx)) (htl x (pM hx)));obtain⟨np,nc,ip,ic,rfl,rfl⟩:=hT.form;have HN:=zj hT.nodes;have HI:=zj hT.items;obtain⟨nodes,items⟩:=t;simp only at hSz hRi HN HI hn1 hil ⊢;obtain⟨n,hn⟩:=exE (nodes.length);obtain⟨m,hm⟩:=exE (items.length);rw[hn] at hSz hRi hn1 HN ⊢;rw[hm] at hSz hRi hil HI ⊢;have hz:=zl w (.cells #[.slice np n nc,.slice ip m ic] 26 (0,0));have hA:=zg w (.cells #[.slice np n nc,.slice ip m ic] 26 (0,0));have b0:=zd hz 0;have b1:=zd hz 1;have HA:=zj hA;have Hn:=zj hn;have Hm:=zj hm;obtain⟨r,hr⟩:=exE (kY ⟨nodes,items⟩);unfold kY at hr;simp only at hr;rw[hn] at hr;rw[show kY ⟨nodes,items⟩=r by unfold kY;simp only;rw[hn];exact hr];obtain⟨S,hS⟩:=exE (qi nodes n);rw[hS] at hr hSz;have hSl:S.length<=n:=hS▸Xb nodes n;have HS:=zj hS;have Hr:=zj hr;clear hT hz hA hn hm hr hS;by_cases hfull:S.length<n
 ·have hr0:r=false:=by have:=Hr.out;rw[wE hfull] at this;exact this.symm
  subst hr0;have hlt:(S.length:Int)<(n:Int):=by omega
  go_enter func54,ntmps54;go_wp2_with (go_at_call 63;refine (hSz.out _ HA.out).mono ?_;rintro e w1 ⟨v,rfl,hK,hb1⟩;have b0:=zh hb1 b0;have b1:=zh hb1 b1;obtain⟨sp,sc,rfl⟩:=hK.form;have hb1:=zf HA.out hb1;rw[Xd] at *);go_ret;exact⟨rfl,hb1⟩
 ·have hlt:¬(S.length:Int)<(n:Int):=by omega
  have hSn:S.length=n:=by omega
  have y1:=pC ((n:Int)-1) (by omega);have y2:=pC ((m:Int)-1) (by omega);have hF:xw nodes n:=by unfold xw;rw[HS.out];exact hSn
  have HF:=zj hF;obtain⟨R,hR⟩:=exE (Xz nodes S items.reverse ((n:Int)-1));have hr2:r=(R.elim false fun p=>nodes.all (zH nodes) && p == -1):=by
   have:=Hr.out;rw[hR,pT hfull] at this;rw[<-this];cases R <;> simp
  have Hr2:=zj hr2;have hst:FmI nodes S items R n w (.int .i64 ((n:Int)-1)) (.int .i64 ((m:Int)-1)) w:=⟨m,_,rfl,rfl,Nat.le_of_eq Hm.out.symm,by omega,by omega,by rw[<-Hm.out,List.take_length];exact hR,pE _ _⟩;have Hst:=zj hst;have HSn:=zj hSn;clear hF hr2 hR hst hfull hSn hSl;go_enter func54,ntmps54;go_wp2_with (go_at_call 63;refine (hSz.out _ HA.out).mono ?_;rintro e w1 ⟨v,rfl,hK,hb1⟩;have b0:=zh hb1 b0;have b1:=zh hb1 b1;obtain⟨sp,sc,rfl⟩:=hK.form;have hb1:=zf HA.out hb1;rw[Xd] at *);have HKz:=zj hK;clear hK;generalize decide (S.length<n)=B0;go_loopw [4,5] (fun a k wr=>FmI nodes S items R n w1 a k wr) (fun _ k _=>(intOf k+1).toNat)
  case atStart=>
   obtain⟨q,a,e1,e2,e3,e4,e5,e6,_⟩:=Hst.out;exact⟨q,a,e1,e2,e3,e4,e5,e6,pE _ _⟩
  case round=>
   obtain⟨q,a,rfl,rfl,hq,haj,ha1,hk,hb⟩:=hrel;rw[Hm.out] at hq;have q0:=zh hb b0;have q1:=zh hb b1;have hbw:=zf hb1 hb;clear b0 b1;by_cases hq0:0<q
   ·obtain⟨q',rfl⟩:∃q',q=q'+1:=⟨q-1,by omega⟩;rw[show (((q'+1:Nat):Int)-1)=(q':Int) by omega];have hq'0:¬((q':Int)<0):=by omega
    have hq'1:(0:Int)<=(q':Int):=by omega
    have hq'2:(q':Int)<(m:Int):=by omega
    have hy2:=pC ((q':Int)-1) (by omega);have hql:q'<items.length:=by rw[Hm.out];omega
    obtain⟨g2,off2,rfl,d0⟩:=(HI.out.below hbw).at hql;have hrev:(items.take (q'+1)).reverse=items.getD q' 0 :: (items.take q').reverse:=by
     rw[wX,glE hql,List.reverse_append,pB,glE hql];rfl
    rw[hrev] at hk;unfold Xz at hk;generalize items.getD q' 0=z at *;clear hrev hql;have hno:R=none->r=false:=fun e=>by rw[Hr2.out,e];rfl
    have Hno:=zj hno;have Hk:=zj hk;clear hno hk;by_cases h1:a<0
    ·have h1':decide (a<0)=true:=wE h1;go_wp2;go_ret;refine⟨?_,hbw⟩;rw[Hno.out (by rw[<-Hk.out,if_pos (.inl h1)])];rfl
    ·have h1':decide (a<0)=false:=pT h1;obtain⟨an,rfl⟩:=pJ (show 0<=a by omega);by_cases h2:z=(an:Int)
     ·subst h2;have h2':((an:Int) != (an:Int))=false:=by simp
      have hanj:an<nodes.length:=by rw[Hn.out];omega
      obtain⟨x,hx⟩:∃x,nodes[an]? =some x:=⟨_,glE hanj⟩;obtain⟨g3,off3,u3,rfl,N⟩:=(HN.out.below hbw).at hx;have hkz:zt nodes (an:Int)=x.kind:=by
       unfold zt;rw[pO,hx];rfl
      have Hkz:=zj hkz;have a0:=N.c0;have hsl:=(HKz.out.below hb).at (j:=an) (by rw[Xd,HSn.out];omega);obtain⟨g4,off4,rfl,_,s0⟩:=hsl;rw[zjf] at s0;have hsz:=zaF HF.out an (by omega);rw[HS.out] at hsz;obtain⟨sz,hsze⟩:∃s,S.getD an 0=s:=⟨_,rfl⟩;rw[hsze] at s0 hsz;have Hsze:=zj hsze;have hwr:=pC ((an:Int)-(sz:Int)) (by omega);have hSlt:(an:Int)<(S.length:Int):=by rw[HSn.out];omega
      have hit:=zj (Qh x.kind);obtain⟨b,hbb⟩:=exE (yT.item.is x.kind);rw[hbb] at hit;have Hbb:=zj hbb;clear hkz hx N hsze hbb;cases b
      ·go_wp2_with (go_at_call 101;refine (hit.out _).mono ?_;rintro e w2 ⟨rfl,hb2⟩);go_ret;refine⟨?_,zf hbw hb2⟩;rw[Hno.out (by rw[<-Hk.out,if_pos (.inr (.inr (by rw[Hkz.out];exact Hbb.out)))])];rfl
      ·go_wp2_with (go_at_call 101;refine (hit.out _).mono ?_;rintro e w2 ⟨rfl,hb2⟩;have s0:=zh hb2 s0;have q0:=zh hb2 q0;have q1:=zh hb2 q1);go_roundw
       case rel=>
        refine⟨q',(an:Int)-(sz:Int),rfl,rfl,by rw[Hm.out];omega,by omega,by omega,?_,zf hb hb2⟩;rw[<-Hk.out,if_neg (by
         rw[Hkz.out,Hbb.out];rintro (h|h|h)
         ·omega
         ·exact h rfl
         ·cases h),pO,Hsze.out]
       case measure=>simp only[intOf];omega
     ·have h2':(z != (an:Int))=true:=by rw[gB];exact h2
      have Hz2:=zj h2;clear h2;go_wp2;go_ret;refine⟨?_,hbw⟩;rw[Hno.out (by rw[<-Hk.out,if_pos (.inr (.inl Hz2.out))])];rfl
   ·have hq00:q=0:=by omega
    subst hq00;have hk1:R=some a:=by
     rw[<-hk];rfl
    have hq'1:¬((0:Int)<=((0:Nat):Int)-1):=by omega
    have hq'3:¬((0:Int)<=-1):=by omega
    have hr3:r=(nodes.all (zH nodes) && a == -1):=by rw[Hr2.out,hk1];rfl
    have Hr3:=zj hr3;clear hk hk1 hr3;have HKz2:=zj (HKz.out.below hb);go_wp2_with fail;have hst2:FmN nodes wr (.int .i64 0) wr:=⟨0,rfl,pV _,fun k x h=>absurd h (pY _),pE _ _⟩;have Hst2:=zj hst2;clear hst2;go_loopw [6] (fun i W=>FmN nodes wr i W) (fun i _=>n-(intOf i).toNat)
    case atStart=>exact Hst2.out
    case round=>
     obtain⟨j,rfl,hj,hall,hb3⟩:=hrel;rw[Hn.out] at hj;have Hall:=zj hall;have s0:=zh hb3 q0;have s1:=zh hb3 q1;have hbx:=zf hbw hb3;clear q0 q1 hall;by_cases hlt2:j<n
     ·have hlt2':(j:Int)<(n:Int):=by omega
      have hy3:=pC ((j:Int)+1) (by omega);obtain⟨x,hx⟩:∃x,nodes[j]? =some x:=⟨_,glE (by rw[Hn.out];exact hlt2)⟩;have hin:∀k∈x.kids,0<=k/\k<(n:Int):=by
       have:=zbh (l:=nodes) (by rw[Hn.out];exact HF.out) (pM hx);unfold InR at this;rw[Hn.out] at this;exact this
      have hC:=zj (fun W hW=>hRi.out W hW j x hx hin);obtain⟨b,hbb⟩:=exE (zH nodes x);rw[hbb] at hC;have Hbb:=zj hbb;have Hx:=zj hx;clear hbb hx hin;cases b
      ·go_wp2_with (go_at_call 102;refine (hC.out _ hbx).mono ?_;rintro e w2 ⟨rfl,hb2⟩);go_ret;refine⟨?_,zf hbx hb2⟩;refine yv ?_;rw[Hr3.out];simp only[pI,pZ,Bool.false_eq_true,false_iff];intro h;have:=h.1 x (pM Hx.out);rw[Hbb.out] at this;cases this
      ·go_wp2_with (go_at_call 102;refine (hC.out _ hbx).mono ?_;rintro e w2 ⟨rfl,hb2⟩;have s0:=zh hb2 s0);go_roundw
       case rel=>
        refine⟨j+1,by go_num,by rw[Hn.out];omega,fun k y hk hy=>?_,zf hb3 hb2⟩;by_cases e:k=j
        ·rw[e,Hx.out] at hy;cases hy;exact Hbb.out
        ·exact Hall.out k y (by omega) hy
       case measure=>simp[intOf];omega
     ·have hjn:j=n:=by omega
      have hlt2':¬((j:Int)<(n:Int)):=by omega
      go_wp2;go_ret;refine⟨?_,hbx⟩;refine yv ?_;rw[Hr3.out];have hal:nodes.all (zH nodes)=true:=by
       rw[pZ];intro y hy;obtain⟨k,hk,hke⟩:=List.mem_iff_getElem.1 hy;exact Hall.out k y (by rw[Hn.out] at hk;omega) (by rw[glE hk,hke])
      rw[hal,Bool.true_and]
abbrev kG(l:List Nat):Array Value:=(l.map fun (k:Nat)=>Value.int .i64 k).toArray
def DrN(l:List Nd)(n D R:Nat)(w:World)(most i:Value)(wr:World):Prop:=∃(j m:Nat) (deep:List Nat),most=.int .i64 (m:Nat)/\i=.int .i64 ((j:Int)-1)/\j<=n/\deep.length=n/\wr.heap[D]? =some (.cells (kG deep) 3 (0,0))/\ZP l j deep m=R/\(∀x∈deep,x<=n-j+1)/\m<=n+1/\Below D w wr
def DrK(ks:List Int)(n D d B:Nat)(i:Nat)(F:List Nat)(w:World)(k:Value)(wr:World):Prop:=∃(q:Nat) (deep:List Nat),k=.int .i64 (q:Nat)/\q<=ks.length/\deep.length=n/\wr.heap[D]? =some (.cells (kG deep) 3 (0,0))/\xu d (ks.drop q) deep=F/\deep.getD i 0=d/\(∀x∈deep,x<=B)/\Below D w wr
theorem zaQ(t:zU)(nv iv:Value)(w:World)(hT:Jy w nv iv t)(hk:∀(i:Nat) (x:Nd),t.nodes[i]? =some x->∀k∈x.kids,0<=k/\k<(i:Int))(hn1:t.nodes.length<=1000)(hkl:∀x∈t.nodes,x.kids.length<=100000):
 Calls prog 47 #[.agg #[nv,iv]] w (qR w (.int .i64 (uQ t:Nat))):=by
 obtain⟨np,nc,ip,ic,rfl,rfl⟩:=hT.form;have HN:=zj hT.nodes;obtain⟨nodes,items⟩:=t;unfold uQ;simp only at HN hk hn1 hkl ⊢;obtain⟨n,hn⟩:=exE (nodes.length);generalize items.length=m;rw[hn] at hn1 HN ⊢;obtain⟨R,hR⟩:=exE (ZP nodes n (List.replicate n 0) 0);rw[hR];have hmk:∀W:World,(Instr.makeSlice 24 (.int .i64 (n:Int)) (.int .i64 (n:Int))).run prog W=.ok (.slice (some ⟨W.heap.size,0,none⟩) n n) (W.alloc (.cells (Array.replicate n (Value.int .i64 0)) 3)):=fun W=>by
  rw[Ql n (by omega) W];simp
 have h0:=zK [.cells #[.slice np n nc,.slice ip m ic] 26 (0,0),.cells (Array.replicate n (Value.int .i64 0)) 3 (0,0)] w;have hA:Below w.heap.size w _:=zQ [.cells #[.slice np n nc,.slice ip m ic] 26 (0,0),.cells (Array.replicate n (Value.int .i64 0)) 3 (0,0)] w;simp only[List.foldl_cons,List.foldl_nil] at hA h0;have hbx:=zl w (.cells #[.slice np n nc,.slice ip m ic] 26 (0,0));have bx0:=zd hbx 0;have hz:=h0 0 _ rfl;rw[Nat.add_zero] at hz;have b0:=zd hz 0;have hd:=h0 1 _ rfl;obtain⟨W,hW⟩:=exE ((w.alloc (.cells #[.slice np n nc,.slice ip m ic] 26 (0,0))).alloc (.cells (Array.replicate n (Value.int .i64 0)) 3 (0,0)));have HW:=zj hW;have hst:DrN nodes n (w.heap.size+1) R W (.int .i64 0) (.int .i64 ((n:Int)-1)) W:=⟨n,0,List.replicate n 0,rfl,rfl,pF _,List.length_replicate,by rw[<-hW,hd];simp[kG],hR,fun x hx=>by rw[(List.mem_replicate.1 hx).2];omega,by omega,pE _ _⟩;have y1:=pC ((n:Int)-1) (by omega);have Hst:=zj hst;have HA:=zj (hW▸hA);have HZ:=zj (hW▸hz);have Hn:=zj hn;have Hk:=zj hk;have Hkl:=zj hkl;clear hT h0 hA hbx hz hd hW hst hn hk hkl hR;go_enter func47,ntmps47;go_wp2_with fail;rw[HW.out];go_loopw [4,5] (DrN nodes n (w.heap.size+1) R W) (fun _ i _=>(intOf i+1).toNat)
 case atStart=>exact Hst.out
 case round=>
  obtain⟨j,mm,deep,rfl,rfl,hj,hdl,hdh,hR,hbd,hmm,hb⟩:=hrel;have hZr:=(hb.block w.heap.size (by omega)).trans HZ.out;have q0:=zd hZr 0;have hbw:=HA.out.trans (hb.mono (by omega));by_cases hj0:0<j
  ·obtain⟨i,rfl⟩:∃i,j=i+1:=⟨j-1,by omega⟩;rw[show (((i+1:Nat):Int)-1)=(i:Int) by omega];have hi0:¬((i:Int)<0):=by omega
   have hi1:(0:Int)<=(i:Int):=by omega
   have hin:(i:Int)<(n:Int):=by omega
   have hy2:=pC ((i:Int)-1) (by omega);obtain⟨x,hx⟩:∃x,nodes[i]? =some x:=⟨_,glE (by rw[Hn.out];omega)⟩;obtain⟨g,off,u,rfl,N0⟩:=HN.out.at hx;have N:=N0.below hbw;obtain⟨e,he⟩:=exE (deep.getD i 0);have hD:∀(W':World) (dp:List Nat),dp.length=n->W'.heap[w.heap.size+1]? =some (.cells (kG dp) 3 (0,0))->∀k,k<n->W'.cell? ⟨w.heap.size+1,k,none⟩=some (.int .i64 (dp.getD k 0:Nat)):=fun W' dp hl hh k hk=>by
    rw[zd hh k,pW,wD,pB,glE (by rw[hl];exact hk)];rfl
   have d0:=hD wr deep hdl hdh i (by omega);rw[he] at d0;have f0:=zk hdh i;have heb:e<=n-(i+1)+1:=by
    rw[<-he,pB,glE (by rw[hdl];omega)];have:=hbd _ (wF (by rw[hdl];omega:i<deep.length));simp only[Option.getD_some];omega
   unfold ZP at hR;rw[he,hx] at hR;simp only[Option.elim_some] at hR;obtain⟨e2,he2⟩:=exE (max 1 e);rw[he2] at hR;have hmx:max (1:Int) (e:Int)=(e2:Int):=by omega
   have HR2:=zj hR;have Hx:=zj hx;have HD:=zj hD;have HN0:=zj N0;have hset:(wr.setCell ⟨w.heap.size+1,i,none⟩ (.int .i64 e2)).heap[w.heap.size+1]? =some (.cells (kG (deep.set i e2)) 3 (0,0)):=by
    rw[zo hdh i];simp[kG,List.map_set]
   have hbS:=hb.setCell (p:=⟨w.heap.size+1,i,none⟩) (pF (w.heap.size+1)) (.int .i64 e2);have Hset:=zj hset;have HbS:=zj hbS;clear hR hx N N0 he hD hset hbS;go_wp2_with fail;generalize wr.setCell ⟨w.heap.size+1,i,none⟩ (.int .i64 e2)=wS at *;have hbS:=HbS.out;have hbwS:=HA.out.trans (hbS.mono (by omega));have hNS:=zj (HN0.out.below hbwS);obtain⟨up,uc,rfl⟩:=HN0.out.kids.form;obtain⟨kl,hkl⟩:=exE (x.kids.length);have Hkl2:=zj hkl;have hkl1:=Hkl.out x (pM Hx.out);rw[hkl] at hkl1;have hst2:DrK x.kids n (w.heap.size+1) e2 (n-i+1) i (xu e2 x.kids (deep.set i e2)) wS (.int .i64 0) wS:=⟨0,deep.set i e2,rfl,pV _,by simp[hdl],Hset.out,by rw[List.drop_zero],by rw[pB,List.getElem?_set_self (by rw[hdl];omega)];rfl,fun y hy=>by
    rcases List.mem_or_eq_of_mem_set hy with h|h
    ·have:=hbd y h;omega
    ·omega,pE _ _⟩
   have Hst2:=zj hst2;have Hbd:=zj hbd;clear hst2 hkl hbd;go_loopw [6] (DrK x.kids n (w.heap.size+1) e2 (n-i+1) i (xu e2 x.kids (deep.set i e2)) wS) (fun k _=>kl-(intOf k).toNat)
   case atStart=>exact Hst2.out
   case round=>
    obtain⟨q,dp,rfl,hq,hpl,hph,hF,hpi,hpb,hb2⟩:=hrel;rw[Hkl2.out] at hq;have hbT:=hbS.trans hb2;have hZ2:=(hbT.block w.heap.size (by omega)).trans HZ.out;have s0:=zd hZ2 0;have hbwT:=HA.out.trans (hbT.mono (by omega));have NT:=HN0.out.below hbwT;have t3:=NT.c3;rw[Hkl2.out] at t3;by_cases hql:q<kl
    ·have hql':(q:Int)<(kl:Int):=by omega
     have hq0:¬((q:Int)<0):=by omega
     have hyq:=pC ((q:Int)+1) (by omega);have hqx:q<x.kids.length:=by rw[Hkl2.out];exact hql
     obtain⟨g2,off2,rfl,k0⟩:=NT.kids.at hqx;have hzz:=Hk.out i x Hx.out (x.kids.getD q 0) (by rw[pB,glE hqx];exact wF hqx);have hdr:x.kids.drop q=x.kids.getD q 0 :: x.kids.drop (q+1):=by
      rw[List.drop_eq_getElem_cons hqx,pB,glE hqx];rfl
     rw[hdr] at hF;replace hF:xu e2 (x.kids.drop (q+1)) (dp.set (x.kids.getD q 0).toNat (e2+1))=xu e2 x.kids (deep.set i e2):=hF;generalize x.kids.getD q 0=z at *;obtain⟨zn,rfl⟩:=pJ hzz.1;rw[pO] at hF;have hz0:¬((zn:Int)<0):=by omega
     have hz1:(zn:Int)<(n:Int):=by omega
     have dI:=HD.out wr dp hpl hph i (by omega);rw[hpi] at dI;have hye:=pC ((e2:Int)+1) (by omega);have dZ:=HD.out wr dp hpl hph zn (by omega);have fZ:=zk hph zn;have HF:=zj hF;have Hpb:=zj hpb;have hS:∀V,Cl wr.drew V->(V.cell? ⟨w.heap.size,0,none⟩=some (.slice (some ⟨g,off,none⟩) n nc)/\V.cell? ⟨g,off+i*5+3,none⟩=some (.slice (some ⟨g2,off2,none⟩) kl uc)/\V.cell? ⟨g2,off2+q,none⟩=some (.int .i64 zn)/\V.cell? ⟨w.heap.size+1,i,none⟩=some (.int .i64 e2)):=fun V h=>
      ⟨zh (w:=wr.drew) h.below s0,zh (w:=wr.drew) h.below t3,zh (w:=wr.drew) h.below k0,zh (w:=wr.drew) h.below dI⟩
     clear hF hpb NT hdr;go_wp2_with fail;refine Xk [(0,0),(1,0),(2,1),(3,0),(4,0),(5,0),(6,1),(7,0),(8,0),(9,1),(10,0),(11,0),(12,0),(13,1),(14,0),(15,0),(16,3)] ?_;refine XQ ?_;refine kA rfl rfl (fun V hV=>?_);have hpV:V.heap[w.heap.size+1]? =_:=zi (w:=wr.drew) hV.below hph;have hbV:Below (w.heap.size+1) wS V:=hb2.trans ((pE _ wr).drew.trans (hV.below.mono (show w.heap.size+1<=wr.heap.size from Nat.le_of_lt (gtA hph))));have dZV:=HD.out V dp hpl hpV zn (by omega);have fZV:=zk hpV zn;have hset2:(V.setCell ⟨w.heap.size+1,zn,none⟩ (.int .i64 ((e2:Int)+1))).heap[w.heap.size+1]? =some (.cells (kG (dp.set zn (e2+1))) 3 (0,0)):=by
      rw[zo hpV zn];simp[kG,List.map_set]
     have hbV2:=hbV.setCell (p:=⟨w.heap.size+1,zn,none⟩) (pF (w.heap.size+1)) (.int .i64 ((e2:Int)+1));have Hset2:=zj hset2;have HbV2:=zj hbV2;clear hset2 hbV2 hbV hV hpV hS;go_simp;refine vC ?_;go_wp2;go_roundw
     case rel=>
      refine⟨q+1,dp.set zn (e2+1),by go_num,by rw[Hkl2.out];omega,by simp[hpl],Hset2.out,HF.out,?_,fun y hy=>?_,HbV2.out⟩
      ·rw[pB,List.getElem?_set_ne (by omega),<-pB];exact hpi
      ·rcases List.mem_or_eq_of_mem_set hy with h|h
       ·exact Hpb.out y h
       ·omega
     case measure=>simp[intOf];omega
    ·have hqk:q=kl:=by omega
     have hq1:¬((q:Int)<(kl:Int)):=by omega
     rw[hqk,<-Hkl2.out,List.drop_length] at hF;have hFF:dp=xu e2 x.kids (deep.set i e2):=hF;have HFF:=zj hFF;have Hpb:=zj hpb;clear hF hFF NT hpb;go_wp2;go_roundw
     case rel=>
      refine⟨i,max mm e2,dp,by simp;omega,by congr 1,by omega,hpl,hph,by rw[HFF.out];have:=HR2.out;rw[<-this,<-he2],Hpb.out,by omega,hbT⟩
     case measure=>simp only[intOf];omega
  ·have h00:j=0:=by omega
   subst h00;have hq1:¬((0:Int)<=((0:Nat):Int)-1):=by omega
   have hq2:¬((0:Int)<=-1):=by omega
   unfold ZP at hR;subst hR;go_wp2;go_ret;exact⟨rfl,hbw⟩
theorem zdB(t:zU)(nv iv:Value)(i0:Nat)(x:Nd)(w:World)(hT:Jy w nv iv t)(hx:t.nodes[i0]? =some x)(hin:∀k∈x.kids,0<=k/\k<(t.nodes.length:Int))(hkl:x.kids.length<=100000):
 Calls prog 48 #[.agg #[nv,iv],.int .i64 i0] w (qR w (.bool (kT t.nodes x))):=by
 obtain⟨np,nc,ip,ic,rfl,rfl⟩:=hT.form;have hN:=hT.nodes;have hi0:(i0:Int)<(t.nodes.length:Int):=by have:=(gtL hx);omega
 have hi1:¬((i0:Int)<0):=by omega
 obtain⟨g,off,u,rfl,hA0⟩:=hN.at hx;obtain⟨up,uc,rfl⟩:=hA0.kids.form;obtain⟨y0,y1,y2,ks,y4⟩:=x;have hz:=zl w (.cells #[.slice (some ⟨g,off,none⟩) t.nodes.length nc,.slice ip t.items.length ic] 26 (0,0));have hA:=zg w (.cells #[.slice (some ⟨g,off,none⟩) t.nodes.length nc,.slice ip t.items.length ic] 26 (0,0));have a0:=zh hA hA0.c0;have a1:=zh hA hA0.c1;have a2:=zh hA hA0.c2;have a3:=zh hA hA0.c3;have a4:=zh hA hA0.c4;simp only at a0 a1 a2 a3 a4 hkl hin;have b0:=zd hz 0;have hbx:=zg (w.alloc (.cells #[.slice (some ⟨g,off,none⟩) t.nodes.length nc,.slice ip t.items.length ic] 26 (0,0))) (.cells #[.int .u8 y0,.string ⟨y1.toArray⟩,.int .i64 y2,.slice up ks.length uc,.int .i64 y4] 60 (0,0));have hnz:=zl (w.alloc (.cells #[.slice (some ⟨g,off,none⟩) t.nodes.length nc,.slice ip t.items.length ic] 26 (0,0))) (.cells #[.int .u8 y0,.string ⟨y1.toArray⟩,.int .i64 y2,.slice up ks.length uc,.int .i64 y4] 60 (0,0));rw[show (w.alloc (.cells #[.slice (some ⟨g,off,none⟩) t.nodes.length nc,.slice ip t.items.length ic] 26 (0,0))).heap.size=w.heap.size+1 by simp] at hnz;have k0:=zd hnz 0;have k2:=zd hnz 2;have k3:=zd hnz 3;have t0:=zd (zi hbx hz) 0;have t1:=zd (zi hbx hz) 1;have hAA:=zf hA hbx;have hC:=zj (zdI t _ _ i0 88 _ _ (hT.below hAA) hx hin hkl);have Hr:Hid (kT t.nodes ⟨y0,y1,y2,ks,y4⟩=kT t.nodes ⟨y0,y1,y2,ks,y4⟩):=zj rfl;generalize hrr:kT t.nodes ⟨y0,y1,y2,ks,y4⟩=r at *;replace hrr:=zj hrr;clear hT hN hA0 hz hnz Hr hx hin;generalize hcc:ZQ t.nodes ⟨y0,y1,y2,ks,y4⟩ 88=cc at *;have hcc':=zj hcc;clear hcc;generalize hm:ks.length=m at *;have hm':=zj hm;clear hm;go_enter func48,ntmps48;go_wp2_with fail
 ·have hk:=zS (k:=y0) (c:=102) (by assumption);have h:=hrr.out;rw[hk] at h;refine hC.out.mono ?_;rintro e w1 ⟨rfl,hb⟩;have h2:decide (cc<=6)=r:=by rw[<-h,<-hcc'.out,hk];rfl
  go_wp2;go_ret;exact⟨by rw[<-h2,<-yS];rfl,zf hAA hb⟩
 ·have hk:=zS (k:=y0) (c:=103) (by assumption);have h:=hrr.out;rw[hk] at h;refine hC.out.mono ?_;rintro e w1 ⟨rfl,hb⟩;have h2:decide (cc<=6)=r:=by rw[<-h,<-hcc'.out,hk];rfl
  go_wp2;go_ret;exact⟨by rw[<-h2,<-yS];rfl,zf hAA hb⟩
 ·have hk:=zS (k:=y0) (c:=33) (by assumption);have h:=hrr.out;rw[hk] at h;refine hC.out.mono ?_;rintro e w1 ⟨rfl,hb⟩;have h2:decide (cc<=6)=r:=by rw[<-h,<-hcc'.out,hk];rfl
  go_wp2;go_ret;exact⟨by rw[<-h2,<-yS];rfl,zf hAA hb⟩
 ·have hk:=zS (k:=y0) (c:=85) (by assumption);have h:=hrr.out;rw[hk] at h;have h2:decide (m<=7)=r:=by rw[<-h,<-hm'.out];rfl
  go_ret;exact⟨by rw[<-h2,<-yS];rfl,hAA⟩
 ·have hk:=zS (k:=y0) (c:=24) (by assumption);have h:=hrr.out;rw[hk] at h;have h2:decide (m<=7)=r:=by rw[<-h,<-hm'.out];rfl
  go_ret;exact⟨by rw[<-h2,<-yS];rfl,hAA⟩
 ·have hk:=zS (k:=y0) (c:=100) (by assumption);have h:=hrr.out;rw[hk] at h;have h2:decide (m<=6)=r:=by rw[<-h,<-hm'.out];rfl
  go_ret;exact⟨by rw[<-h2,<-yS];rfl,hAA⟩
 ·have hk:=zS (k:=y0) (c:=26) (by assumption);have h:=hrr.out;rw[hk] at h;have h2:decide (m<=6)=r:=by rw[<-h,<-hm'.out];rfl
  go_ret;exact⟨by rw[<-h2,<-yS];rfl,hAA⟩
 ·have hk:=zS (k:=y0) (c:=101) (by assumption);have h:=hrr.out;rw[hk] at h;have h2:decide (m<=8)=r:=by rw[<-h,<-hm'.out];rfl
  go_ret;exact⟨by rw[<-h2,<-yS];rfl,hAA⟩
 ·have hk:=zS (k:=y0) (c:=89) (by assumption);have h:=hrr.out;rw[hk] at h;have h2:decide (m<=4)=r:=by rw[<-h,<-hm'.out];rfl
  go_ret;exact⟨by rw[<-h2,<-yS];rfl,hAA⟩
 ·have hk:=zS (k:=y0) (c:=25) (by assumption);have h:=hrr.out;rw[hk] at h;have h2:decide (m<=4)=r:=by rw[<-h,<-hm'.out];rfl
  go_ret;exact⟨by rw[<-h2,<-yS];rfl,hAA⟩
 ·have hk:=zS (k:=y0) (c:=70) (by assumption);have h:=hrr.out;rw[hk] at h;have h2:decide (m<=4)=r:=by rw[<-h,<-hm'.out];rfl
  go_ret;exact⟨by rw[<-h2,<-yS];rfl,hAA⟩
 ·have hk:=zS (k:=y0) (c:=35) (by assumption);have h:=hrr.out;rw[hk] at h;have h2:decide (m<=4)=r:=by rw[<-h,<-hm'.out];rfl
  go_ret;exact⟨by rw[<-h2,<-yS];rfl,hAA⟩
 ·have hk:=zS (k:=y0) (c:=31) (by assumption);have h:=hrr.out;rw[hk] at h;have h2:decide (m<=13)=r:=by rw[<-h,<-hm'.out];rfl
  go_ret;exact⟨by rw[<-h2,<-yS];rfl,hAA⟩
 ·have hk:=zS (k:=y0) (c:=40) (by assumption);have h:=hrr.out;rw[hk] at h;have h1:1<=y2:=by assumption
  have h2:decide (y2<=8)=r:=by
   rw[<-h];show _=(decide (1<=y2) && decide (y2<=8))
   rw[wE h1,Bool.true_and]
  go_ret;exact⟨by rw[<-h2];rfl,hAA⟩
 ·have hk:=zS (k:=y0) (c:=40) (by assumption);have h:=hrr.out;rw[hk] at h;have h1:¬(1<=y2):=by first|assumption|omega
  have h2:false=r:=by
   rw[<-h];show _=(decide (1<=y2) && decide (y2<=8))
   rw[pT h1,Bool.false_and]
  go_ret;exact⟨by rw[<-h2];rfl,hAA⟩
 ·have h:=hrr.out;have n102:=zE (k:=y0) (c:=102) (by assumption);have n103:=zE (k:=y0) (c:=103) (by assumption);have n33:=zE (k:=y0) (c:=33) (by assumption);have n85:=zE (k:=y0) (c:=85) (by assumption);have n24:=zE (k:=y0) (c:=24) (by assumption);have n100:=zE (k:=y0) (c:=100) (by assumption);have n26:=zE (k:=y0) (c:=26) (by assumption);have n101:=zE (k:=y0) (c:=101) (by assumption);have n89:=zE (k:=y0) (c:=89) (by assumption);have n25:=zE (k:=y0) (c:=25) (by assumption);have n70:=zE (k:=y0) (c:=70) (by assumption);have n35:=zE (k:=y0) (c:=35) (by assumption);have n31:=zE (k:=y0) (c:=31) (by assumption);have n40:=zE (k:=y0) (c:=40) (by assumption);unfold kT at h;simp[n102,n103,n33,n85,n24,n100,n26,n101,n89,n25,n70,n35,n31,n40] at h;subst h;go_ret;exact⟨rfl,hAA⟩
theorem zjS{l:List Nd}(h:xw l l.length){i:Nat}{x:Nd}(hx:l[i]? =some x):∀k∈x.kids,0<=k/\k<(i:Int):=by
 have hi:=(gtL hx);obtain⟨p,hp,_,_⟩:=qn h hi;rw[hx] at hp;intro k hk;have:=Jk _ _ _ hp k (gD.2 hk);omega
def CkN(l:List Nd)(w:World)(i:Value)(wr:World):Prop:=∃j:Nat,i=.int .i64 j/\j<=l.length/\(∀(k:Nat) (x:Nd),k<j->l[k]? =some x->kT l x=true)/\Below w.heap.size w wr
theorem JX(t:zU)(nv iv:Value)(w:World)(hT:Jy w nv iv t)(hn1:t.nodes.length<=100000)(hil:t.items.length<=100000)(hk1:∀x∈t.nodes,x.kids.length<=100000)(htl:∀x∈t.nodes,x.text.length<=1000000000000):
 Calls prog 17 #[.agg #[nv,iv]] w (qR w (.int .i64 (xh t:Nat))):=by
 have hFo:=zj (fun W (hW:Below w.heap.size w W)=>zf8 t nv iv W (hT.below hW) hn1 hil hk1 htl);have hDe:=zj (fun W (hW:Below w.heap.size w W) (hk:∀(i:Nat) (x:Nd),t.nodes[i]? =some x->∀k∈x.kids,0<=k/\k<(i:Int)) (hn:t.nodes.length<=1000)=>zaQ t nv iv W (hT.below hW) hk hn hk1);have hSi:=zj (fun W (hW:Below w.heap.size w W) (i:Nat) (x:Nd) (hx:t.nodes[i]? =some x) (hin:∀k∈x.kids,0<=k/\k<(t.nodes.length:Int))=>zdB t nv iv i x W (hT.below hW) hx hin (hk1 x (pM hx)));obtain⟨np,nc,ip,ic,rfl,rfl⟩:=hT.form;have hK:kY t=true->∀(i:Nat) (x:Nd),t.nodes[i]? =some x->∀k∈x.kids,0<=k/\k<(i:Int):=fun h i x hx=>zjS (jE h).1 hx
 have HKK:=zj hK;obtain⟨r,hr⟩:=exE (xh t);rw[hr];unfold xh at hr;obtain⟨n,hn⟩:=exE (t.nodes.length);obtain⟨m,hm⟩:=exE (t.items.length);rw[hn,hm] at hr;rw[hn] at hFo hDe hSi hn1 ⊢;rw[hm] at hFo hDe hSi hil ⊢;have hz:=zl w (.cells #[.slice np n nc,.slice ip m ic] 26 (0,0));have hA:=zg w (.cells #[.slice np n nc,.slice ip m ic] 26 (0,0));have b0:=zd hz 0;have b1:=zd hz 1;have HA:=zj hA;have Hn:=zj hn;clear hT hz hA hn hm hK;by_cases hbig:1000<n\/40<m
 ·rw[if_pos hbig] at hr;subst hr;by_cases hb1:1000<n
  ·have e1:decide ((1000:Int)<(n:Int))=true:=wE (by omega);go_enter func17,ntmps17;go_wp2;go_ret;exact⟨rfl,HA.out⟩
  ·have e1:decide ((1000:Int)<(n:Int))=false:=pT (by omega);have e2:(40:Int)<(m:Int):=by omega
   go_enter func17,ntmps17;go_wp2;go_ret;exact⟨rfl,HA.out⟩
 ·rw[if_neg hbig] at hr;have e1:decide ((1000:Int)<(n:Int))=false:=pT (by omega);have e2:¬(40:Int)<(m:Int):=by omega
  have hn2:n<=1000:=by omega
  clear hbig;obtain⟨f,hf⟩:=exE (kY t);rw[hf] at hr hFo HKK;cases f
  ·have hr':4=r:=hr;subst hr';go_enter func17,ntmps17;go_wp2_with (go_at_call 54;refine (hFo.out _ HA.out).mono ?_;rintro e w1 ⟨rfl,hb1⟩);go_ret;exact⟨rfl,zf HA.out hb1⟩
  ·obtain⟨d,hd⟩:=exE (uQ t);rw[hd] at hr hDe;have hk2:=HKK.out rfl;have hDe2:=zj (fun W hW=>hDe.out W hW hk2 hn2);have Hk2:=zj hk2;clear hf hd hk2;by_cases h40:40<d
   ·have h40':(40:Int)<(d:Int):=by omega
    have hr':5=r:=by rw[<-hr];simp[h40]
    subst hr';clear hr;go_enter func17,ntmps17;go_wp2_with (first
     |(go_at_call 54;refine (hFo.out _ HA.out).mono ?_;rintro e w1 ⟨rfl,hb1⟩;have b0:=zh hb1 b0;have b1:=zh hb1 b1;have hbw:=zj (zf HA.out hb1))
     |(go_at_call 47;refine (hDe2.out _ hbw.out).mono ?_;rintro e w2 ⟨rfl,hb2⟩))
    go_ret;exact⟨rfl,zf hbw.out hb2⟩
   ·have h40':¬(40:Int)<(d:Int):=by omega
    have hr':(if t.nodes.any fun x=> !kT t.nodes x then 3 else 0)=r:=by rw[<-hr];simp[h40]
    have Hr:=zj hr';clear hr hr';go_enter func17,ntmps17;go_wp2_with (first
     |(go_at_call 54;refine (hFo.out _ HA.out).mono ?_;rintro e w1 ⟨rfl,hb1⟩;have b0:=zh hb1 b0;have b1:=zh hb1 b1;have hbw:=zj (zf HA.out hb1))
     |(go_at_call 47;refine (hDe2.out _ hbw.out).mono ?_;rintro e w2 ⟨rfl,hb2⟩))
    have q0:=zh hb2 b0;have q1:=zh hb2 b1;have hbx:=zf hbw.out hb2;have hst:CkN t.nodes w2 (.int .i64 0) w2:=⟨0,rfl,pV _,fun k x h=>absurd h (pY _),pE _ _⟩;have Hst:=zj hst;clear hst b0 b1;go_loopw [3] (fun i W=>CkN t.nodes w2 i W) (fun i _=>n-(intOf i).toNat)
    case atStart=>exact Hst.out
    case round=>
     obtain⟨j,rfl,hj,hall,hb3⟩:=hrel;rw[Hn.out] at hj;have Hall:=zj hall;have s0:=zh hb3 q0;have s1:=zh hb3 q1;have hby:=zf hbx hb3;clear q0 q1 hall;by_cases hlt2:j<n
     ·have hlt2':(j:Int)<(n:Int):=by omega
      have hy3:=pC ((j:Int)+1) (by omega);obtain⟨x,hx⟩:∃x,t.nodes[j]? =some x:=⟨_,glE (by rw[Hn.out];exact hlt2)⟩;have hin:∀k∈x.kids,0<=k/\k<(n:Int):=fun k hk=>by
       have:=Hk2.out j x hx k hk;omega
      have hC:=zj (fun W hW=>hSi.out W hW j x hx hin);obtain⟨b,hbb⟩:=exE (kT t.nodes x);rw[hbb] at hC;have Hbb:=zj hbb;have Hx:=zj hx;clear hbb hx hin;cases b
      ·have hr3:3=r:=by
        rw[<-Hr.out,if_pos];rw[gC];exact⟨x,pM Hx.out,by rw[Hbb.out];rfl⟩
       subst hr3;go_wp2_with (go_at_call 48;refine (hC.out _ hby).mono ?_;rintro e w4 ⟨rfl,hb4⟩);go_ret;exact⟨rfl,zf hby hb4⟩
      ·go_wp2_with (go_at_call 48;refine (hC.out _ hby).mono ?_;rintro e w4 ⟨rfl,hb4⟩;have s0:=zh hb4 s0);go_roundw
       case rel=>
        refine⟨j+1,by go_num,by rw[Hn.out];omega,fun k y hk hy=>?_,zf hb3 hb4⟩;by_cases e:k=j
        ·rw[e,Hx.out] at hy;cases hy;exact Hbb.out
        ·exact Hall.out k y (by omega) hy
       case measure=>simp[intOf];omega
     ·have hjn:j=n:=by omega
      have hlt2':¬((j:Int)<(n:Int)):=by omega
      have hr0:0=r:=by
       rw[<-Hr.out,if_neg];rw[gC];rintro ⟨y,hy,h⟩;obtain⟨k,hk,hke⟩:=List.mem_iff_getElem.1 hy;have:=Hall.out k y (by rw[Hn.out] at hk;omega) (by rw[glE hk,hke]);rw[this] at h;cases h
      subst hr0;go_wp2;go_ret;exact⟨rfl,hby⟩
structure zi0(a b:zU):Prop where
 len:a.nodes.length=b.nodes.length
 items:a.items=b.items
 node:∀(j:Nat) (x y:Nd),a.nodes[j]? =some x->b.nodes[j]? =some y->x.kind=y.kind/\x.text=y.text/\x.n=y.n/\x.kids=y.kids
def zeK(p:Prop)(w:World)(e:Ending)(w':World):Prop:=∃r:Bool,e=.returned (.bool r)/\(r=true↔p)/\Below w.heap.size w w'
theorem kz{p:Prop}{w w':World}{e:Ending}(r:Bool)(h:e=.returned (.bool r))(h2:r=true↔p)(h3:Below w.heap.size w w'):zeK p w e w':=⟨r,h,h2,h3⟩
theorem zjd{w wA:World}{a0 a1 a2 a3 a4 b0 b1 b2 b3 b4:Value}{T:TypeId}(h:World.drew ((w.alloc (.cells #[a0,a1,a2,a3,a4] T (0,0))).alloc (.cells #[b0,b1,b2,b3,b4] T (0,0)))=wA):Below w.heap.size w wA/\wA.cell? ⟨w.heap.size,0,none⟩=some a0/\wA.cell? ⟨w.heap.size,1,none⟩=some a1/\wA.cell? ⟨w.heap.size,2,none⟩=some a2/\wA.cell? ⟨w.heap.size,3,none⟩=some a3/\wA.cell? ⟨w.heap.size+1,0,none⟩=some b0/\wA.cell? ⟨w.heap.size+1,1,none⟩=some b1/\wA.cell? ⟨w.heap.size+1,2,none⟩=some b2/\wA.cell? ⟨w.heap.size+1,3,none⟩=some b3:=by
 have hz0:=zK [.cells #[a0,a1,a2,a3,a4] T (0,0),.cells #[b0,b1,b2,b3,b4] T (0,0)] w;have hAl:=zQ [.cells #[a0,a1,a2,a3,a4] T (0,0),.cells #[b0,b1,b2,b3,b4] T (0,0)] w;simp only[List.foldl_cons,List.foldl_nil] at hz0 hAl;have r0:wA.heap[w.heap.size]? =some (.cells #[a0,a1,a2,a3,a4] T (0,0)):=by rw[<-h];exact hz0 0 _ rfl
 have r1:wA.heap[w.heap.size+1]? =some (.cells #[b0,b1,b2,b3,b4] T (0,0)):=by rw[<-h];exact hz0 1 _ rfl
 exact⟨by rw[<-h];exact hAl.drew,zd r0 0,zd r0 1,zd r0 2,zd r0 3,zd r1 0,zd r1 1,zd r1 2,zd r1 3⟩
theorem zdL(a b:zU)(nv iv nv2 iv2:Value)(w:World)(ha:Jy w nv iv a)(hb:Jy w nv2 iv2 b)(hnl:a.nodes.length<=1000000)(hil:a.items.length<=1000000)(hkl:∀x∈a.nodes,x.kids.length<=1000000):
 Calls prog 49 #[.agg #[nv,iv],.agg #[nv2,iv2]] w (zeK (zi0 a b) w):=by
 obtain⟨np,nc,ip,ic,rfl,rfl⟩:=ha.form;obtain⟨np2,nc2,ip2,ic2,rfl,rfl⟩:=hb.form;have hI:=zj (fun W (hW:Below w.heap.size w W)=>YC _ _ a.items b.items W (ha.items.below hW) (hb.items.below hW) hil);by_cases hlen:a.nodes.length=b.nodes.length
 ·have Hlen:=zj hlen;have hA:=ha.nodes;have hB:=hb.nodes;rw[<-hlen] at hB ⊢;generalize hn:a.nodes.length=n at *;obtain⟨n1,hn1⟩:=exE (a.items.length);obtain⟨n2,hn2⟩:=exE (b.items.length);rw[hn1,hn2] at hI ⊢;have Hn:=zj hn;have HA:=zj hA;have HB:=zj hB;have HK:=zj hkl;have h0:=zK [.cells #[.slice np n nc,.slice ip n1 ic] 26 (0,0),.cells #[.slice np2 n nc2,.slice ip2 n2 ic2] 26 (0,0)] w;have hAl:Below w.heap.size w _:=zQ [.cells #[.slice np n nc,.slice ip n1 ic] 26 (0,0),.cells #[.slice np2 n nc2,.slice ip2 n2 ic2] 26 (0,0)] w;simp only[List.foldl_cons,List.foldl_nil] at hAl h0;have c0:=zd (h0 0 _ rfl) 0;have c1:=zd (h0 0 _ rfl) 1;have d0:=zd (h0 1 _ rfl) 0;have d1:=zd (h0 1 _ rfl) 1;rw[Nat.add_zero] at c0 c1;have HAl:=zj hAl;clear hA hB ha hb hkl hn hn1 hn2 hlen h0 hAl;go_enter func49,ntmps49;by_cases hit:a.items=b.items
  ·have hd:decide (a.items=b.items)=true:=wE hit;go_wp2_with (go_at_call 26;refine (hI.out _ HAl.out).mono ?_;rintro e w1 ⟨rfl,hb1⟩);have Hit:=zj hit;have c0:=zh hb1 c0;have d0:=zh hb1 d0;have hb1:=zf HAl.out hb1;clear hit hd;go_loopw [5] (fun i wr=>∃k:Nat,i=.int .i64 k/\k<=n/\Below w1.heap.size w1 wr/\Hid (∀(j:Nat) (x y:Nd),j<k->a.nodes[j]? =some x->b.nodes[j]? =some y->x.kind=y.kind/\x.text=y.text/\x.n=y.n/\x.kids=y.kids)) (fun i _=>n-(intOf i).toNat)
   case atStart=>exact⟨0,rfl,by omega,pE _ _,zj (fun j x y hj=>absurd hj (pY _))⟩
   case round=>
    obtain⟨k,rfl,hk,hb,hall⟩:=hrel;have cw0:=zh hb c0;have dw0:=zh hb d0;clear c0 d0;have hbw:=zf hb1 hb;by_cases hlt:k<n
    ·have hlt':(k:Int)<(n:Int):=by omega
     have hj0:¬((k:Int)<0):=by omega
     have hkl:k<a.nodes.length:=by rw[Hn.out];exact hlt
     have hkl2:k<b.nodes.length:=by rw[<-Hlen.out];exact hlt
     obtain⟨x,hx⟩:∃x,a.nodes[k]? =some x:=⟨_,glE hkl⟩;obtain⟨y,hy⟩:∃y,b.nodes[k]? =some y:=⟨_,glE hkl2⟩;obtain⟨g1,o1,u1,rfl,N1⟩:=HA.out.at hx;obtain⟨g2,o2,u2,rfl,N2⟩:=HB.out.at hy;have N1:=N1.below hbw;have N2:=N2.below hbw;obtain⟨k1,t1,n1',ks1,at1⟩:=x;obtain⟨k2,t2,n2',ks2,at2⟩:=y;have hI2:=zj (fun W (hW:Below wr.heap.size wr W)=>YC _ _ ks1 ks2 W (N1.kids.below hW) (N2.kids.below hW) (HK.out _ (pM hx)));obtain⟨p1,q1,rfl⟩:=N1.kids.form;obtain⟨p2,q2,rfl⟩:=N2.kids.form;obtain⟨a0,a1,a2,a3,a4,_⟩:=N1;obtain⟨e0,e1,e2,e3,e4,_⟩:=N2;simp only at a0 a1 a2 a3 a4 e0 e1 e2 e3 e4 hI2;obtain⟨m1,hm1⟩:=exE (ks1.length);obtain⟨m2,hm2⟩:=exE (ks2.length);rw[hm1] at a3 hI2;rw[hm2] at e3 hI2;have Hx:=zj hx;have Hy:=zj hy;have hno:¬(k1=k2/\t1=t2/\n1'=n2'/\ks1=ks2)->¬zi0 a b:=fun h1 h2=>h1 (h2.node k _ _ hx hy)
     have Hno:=zj hno;clear hno hx hy hm1 hm2 hkl hkl2;go_wp2_with fail;refine qz ?_;go_region_held3 (fun w'=>w'.cell? ⟨w.heap.size,0,none⟩=some (.slice (some ⟨g1,o1,none⟩) n nc)/\w'.cell? ⟨w.heap.size+1,0,none⟩=some (.slice (some ⟨g2,o2,none⟩) n nc2)/\w'.cell? ⟨g1,o1+k*5,none⟩=some (.int .u8 k1)/\w'.cell? ⟨g1,o1+k*5+1,none⟩=some (.string ⟨t1.toArray⟩)/\w'.cell? ⟨g1,o1+k*5+2,none⟩=some (.int .i64 n1')/\w'.cell? ⟨g1,o1+k*5+3,none⟩=some (.slice p1 m1 q1)/\w'.cell? ⟨g1,o1+k*5+4,none⟩=some (.int .i64 at1)/\w'.cell? ⟨g2,o2+k*5,none⟩=some (.int .u8 k2)/\w'.cell? ⟨g2,o2+k*5+1,none⟩=some (.string ⟨t2.toArray⟩)/\w'.cell? ⟨g2,o2+k*5+2,none⟩=some (.int .i64 n2')/\w'.cell? ⟨g2,o2+k*5+3,none⟩=some (.slice p2 m2 q2)/\w'.cell? ⟨g2,o2+k*5+4,none⟩=some (.int .i64 at2)) (first|(go_keep;done)|(go_split_ands;refine⟨?_,?_,?_,?_,?_,?_,?_,?_,?_,?_,?_,?_⟩ <;> exact zh (zg _ _) (by assumption))) (fail)
     all_goals
      generalize hwA:World.drew (World.alloc (World.alloc wr _) _)=wA at *;obtain⟨hbA,x0,x1,x2,x3,y0,y1,y2,y3⟩:=zjd hwA;have cw0:=zh hbA cw0;replace hbA:=zj hbA;clear a0 a1 a2 a3 a4 e0 e1 e2 e3 e4 hwA;by_cases hk:k1=k2
      ·subst hk;by_cases ht:t1=t2
       ·subst ht;by_cases hn':n1'=n2'
        ·subst hn';by_cases hks:ks1=ks2
         ·have hd:decide (ks1=ks2)=true:=wE hks;rw[hd] at hI2;replace hks:=zj hks;clear hd;go_wp2_with (go_at_call 26;refine (hI2.out _ hbA.out).mono ?_;rintro e w5 ⟨rfl,hb5⟩);go_roundw
          case rel=>exact⟨k+1,by go_num,by omega,zf hb (zf hbA.out hb5),zj (fun j x y hj hx hy=>by
           by_cases e:j=k
           ·subst e;rw[Hx.out] at hx;rw[Hy.out] at hy;cases hx;cases hy;exact⟨rfl,rfl,rfl,hks.out⟩
           ·exact hall.out j x y (by omega) hx hy)⟩
          case measure=>simp[intOf];omega
         ·have hd:decide (ks1=ks2)=false:=pT hks;rw[hd] at hI2;replace hks:=zj hks;clear hd;go_wp2_with (go_at_call 26;refine (hI2.out _ hbA.out).mono ?_;rintro e w5 ⟨rfl,hb5⟩);go_ret;exact kz false rfl ⟨(fun h=>by cases h),fun h=>absurd h (Hno.out (fun e=>hks.out e.2.2.2))⟩ (zf hbw (zf hbA.out hb5))
        ·have hd:(n1' != n2')=true:=by rw[gB];exact hn'
         replace hn':=zj hn';go_wp2_with (go_at_call 26;refine (hI2.out _ hbA.out).mono ?_;rintro e w5 ⟨rfl,hb5⟩);go_ret;exact kz false rfl ⟨(fun h=>by cases h),fun h=>absurd h (Hno.out (fun e=>hn'.out e.2.2.1))⟩ (zf hbw hbA.out)
       ·have Ht:=zj ht;go_wp2_with (go_at_call 26;refine (hI2.out _ hbA.out).mono ?_;rintro e w5 ⟨rfl,hb5⟩);go_ret;exact kz false rfl ⟨(fun h=>by cases h),fun h=>absurd h (Hno.out (fun e=>Ht.out e.2.1))⟩ (zf hbw hbA.out)
      ·have hd:((k1:Int) != (k2:Int))=true:=by rw[gB];omega
       replace hk:=zj hk;go_wp2_with (go_at_call 26;refine (hI2.out _ hbA.out).mono ?_;rintro e w5 ⟨rfl,hb5⟩);go_ret;exact kz false rfl ⟨(fun h=>by cases h),fun h=>absurd h (Hno.out (fun e=>hk.out e.1))⟩ (zf hbw hbA.out)
    ·have hkn:k=n:=by omega
     have hlt':¬((k:Int)<(n:Int)):=by omega
     go_wp2;go_ret;refine kz true rfl ⟨fun _=>⟨by rw[Hn.out];exact Hlen.out,Hit.out,fun j x y hx hy=>hall.out j x y (by have:=(gtL hx);rw[Hn.out] at this;omega) hx hy⟩,fun _=>rfl⟩ (hbw)
  ·have hd:decide (a.items=b.items)=false:=pT hit;rw[hd] at hI;replace hit:=zj hit;clear hd;go_wp2_with (go_at_call 26;refine (hI.out _ HAl.out).mono ?_;rintro e w1 ⟨rfl,hb1⟩);go_ret;exact kz false rfl ⟨(fun h=>by cases h),fun h=>absurd h.items hit.out⟩ (zf HAl.out hb1)
 ·have hne:((a.nodes.length:Int) != (b.nodes.length:Int))=true:=by rw[gB];omega
  have Hlen:=zj hlen;clear ha hb hI hlen;go_enter func49,ntmps49;go_wp2;go_ret;exact kz false rfl ⟨(fun h=>by cases h),fun h=>absurd h.len Hlen.out⟩ ((zg _ _).trans ((zg _ _).mono (by simp)))
end
end Go.Proofs.YtcagibbaeageoaaGreatDoor
