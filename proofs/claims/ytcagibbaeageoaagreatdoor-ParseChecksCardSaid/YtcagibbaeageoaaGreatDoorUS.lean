/-
  A part of the proof: contracts of functions; no conditions.
-/
import Derived.Test.YtcagibbaeageoaaGreatDoorUN
import Derived.Test.YtcagibbaeageoaaGreatDoorUR
import Derived.Deep.RegionHeld3
set_option maxRecDepth 100000
set_option maxHeartbeats 40000000
set_option linter.unusedSimpArgs false
set_option linter.unusedVariables false
namespace Go.Proofs.YtcagibbaeageoaaGreatDoor
section
open Go.RowKit Lode Go.Shelf
attribute [local go_sem ↓] Go.wp_at_zero Go.wp_at_succ
open Go.Proofs.Tryz
structure ze8(a b:z6):Prop where
 len:a.nodes.length=b.nodes.length
 items:a.items=b.items
 node:∀(j:Nat) (x y:Nd),a.nodes[j]? =some x→b.nodes[j]? =some y→x.kind=y.kind∧x.text=y.text∧x.n=y.n∧x.kids=y.kids
def zbI(p:Prop)(w:World)(e:Ending)(w':World):Prop:=∃r:Bool,e=.returned (.bool r)∧(r=true↔p)∧Below w.heap.size w w'
theorem jZ{p:Prop}{w w':World}{e:Ending}(r:Bool)(h:e=.returned (.bool r))(h2:r=true↔p)(h3:Below w.heap.size w w'):zbI p w e w':=⟨r,h,h2,h3⟩
theorem zfd{w wA:World}{a0 a1 a2 a3 a4 b0 b1 b2 b3 b4:Value}{T:TypeId}(h:World.drew ((w.alloc (.cells #[a0,a1,a2,a3,a4] T (0,0))).alloc (.cells #[b0,b1,b2,b3,b4] T (0,0)))=wA):Below w.heap.size w wA∧wA.cell? ⟨w.heap.size,0,none⟩=some a0∧wA.cell? ⟨w.heap.size,1,none⟩=some a1∧wA.cell? ⟨w.heap.size,2,none⟩=some a2∧wA.cell? ⟨w.heap.size,3,none⟩=some a3∧wA.cell? ⟨w.heap.size+1,0,none⟩=some b0∧wA.cell? ⟨w.heap.size+1,1,none⟩=some b1∧wA.cell? ⟨w.heap.size+1,2,none⟩=some b2∧wA.cell? ⟨w.heap.size+1,3,none⟩=some b3:=by
 have hz0:=zS [.cells #[a0,a1,a2,a3,a4] T (0,0),.cells #[b0,b1,b2,b3,b4] T (0,0)] w;have hAl:=ya [.cells #[a0,a1,a2,a3,a4] T (0,0),.cells #[b0,b1,b2,b3,b4] T (0,0)] w;simp only[List.foldl_cons,List.foldl_nil] at hz0 hAl;have r0:wA.heap[w.heap.size]? =some (.cells #[a0,a1,a2,a3,a4] T (0,0)):=by rw[←h];exact hz0 0 _ rfl
 have r1:wA.heap[w.heap.size+1]? =some (.cells #[b0,b1,b2,b3,b4] T (0,0)):=by rw[←h];exact hz0 1 _ rfl
 exact⟨by rw[←h];exact hAl.drew,zf r0 0,zf r0 1,zf r0 2,zf r0 3,zf r1 0,zf r1 1,zf r1 2,zf r1 3⟩
theorem za2(a b:z6)(nv iv nv2 iv2:Value)(w:World)(ha:YC w nv iv a)(hb:YC w nv2 iv2 b)(hnl:a.nodes.length≤1000000)(hil:a.items.length≤1000000)(hkl:∀x∈a.nodes,x.kids.length≤1000000):
 Calls prog 49 #[.agg #[nv,iv],.agg #[nv2,iv2]] w (zbI (ze8 a b) w):=by
 obtain⟨np,nc,ip,ic,rfl,rfl⟩:=ha.form;obtain⟨np2,nc2,ip2,ic2,rfl,rfl⟩:=hb.form;have hI:=zj (fun W (hW:Below w.heap.size w W)=>ui _ _ a.items b.items W (ha.items.below hW) (hb.items.below hW) hil);by_cases hlen:a.nodes.length=b.nodes.length
 ·have Hlen:=zj hlen;have hA:=ha.nodes;have hB:=hb.nodes;rw[←hlen] at hB ⊢;generalize hn:a.nodes.length=n at *;obtain⟨n1,hn1⟩:=exE (a.items.length);obtain⟨n2,hn2⟩:=exE (b.items.length);rw[hn1,hn2] at hI ⊢;have Hn:=zj hn;have HA:=zj hA;have HB:=zj hB;have HK:=zj hkl;have h0:=zS [.cells #[.slice np n nc,.slice ip n1 ic] 26 (0,0),.cells #[.slice np2 n nc2,.slice ip2 n2 ic2] 26 (0,0)] w;have hAl:Below w.heap.size w _:=ya [.cells #[.slice np n nc,.slice ip n1 ic] 26 (0,0),.cells #[.slice np2 n nc2,.slice ip2 n2 ic2] 26 (0,0)] w;simp only[List.foldl_cons,List.foldl_nil] at hAl h0;have c0:=zf (h0 0 _ rfl) 0;have c1:=zf (h0 0 _ rfl) 1;have d0:=zf (h0 1 _ rfl) 0;have d1:=zf (h0 1 _ rfl) 1;rw[Nat.add_zero] at c0 c1;have HAl:=zj hAl;clear hA hB ha hb hkl hn hn1 hn2 hlen h0 hAl;go_enter func49,ntmps49;by_cases hit:a.items=b.items
  ·have hd:decide (a.items=b.items)=true:=decide_eq_true hit;go_wp2_with (go_at_call 26;refine (hI.out _ HAl.out).mono ?_;rintro e w1 ⟨rfl,hb1⟩);have Hit:=zj hit;have c0:=zh hb1 c0;have d0:=zh hb1 d0;have hb1:=zd HAl.out hb1;clear hit hd;go_loopw [5] (fun i wr=>∃k:Nat,i=.int .i64 k∧k≤n∧Below w1.heap.size w1 wr∧Hid (∀(j:Nat) (x y:Nd),j<k→a.nodes[j]? =some x→b.nodes[j]? =some y→x.kind=y.kind∧x.text=y.text∧x.n=y.n∧x.kids=y.kids)) (fun i _=>n-(intOf i).toNat)
   case atStart=>exact⟨0,rfl,by omega,Below.refl _ _,zj (fun j x y hj=>absurd hj (Nat.not_lt_zero _))⟩
   case round=>
    obtain⟨k,rfl,hk,hb,hall⟩:=hrel;have cw0:=zh hb c0;have dw0:=zh hb d0;clear c0 d0;have hbw:=zd hb1 hb;by_cases hlt:k<n
    ·have hlt':(k:Int)<(n:Int):=by omega
     have hj0:¬((k:Int)<0):=by omega
     have hkl:k<a.nodes.length:=by rw[Hn.out];exact hlt
     have hkl2:k<b.nodes.length:=by rw[←Hlen.out];exact hlt
     obtain⟨x,hx⟩:∃x,a.nodes[k]? =some x:=⟨_,glE hkl⟩;obtain⟨y,hy⟩:∃y,b.nodes[k]? =some y:=⟨_,glE hkl2⟩;obtain⟨g1,o1,u1,rfl,N1⟩:=HA.out.at hx;obtain⟨g2,o2,u2,rfl,N2⟩:=HB.out.at hy;have N1:=N1.below hbw;have N2:=N2.below hbw;obtain⟨k1,t1,n1',ks1,at1⟩:=x;obtain⟨k2,t2,n2',ks2,at2⟩:=y;have hI2:=zj (fun W (hW:Below wr.heap.size wr W)=>ui _ _ ks1 ks2 W (N1.kids.below hW) (N2.kids.below hW) (HK.out _ (List.mem_of_getElem? hx)));obtain⟨p1,q1,rfl⟩:=N1.kids.form;obtain⟨p2,q2,rfl⟩:=N2.kids.form;obtain⟨a0,a1,a2,a3,a4,_⟩:=N1;obtain⟨e0,e1,e2,e3,e4,_⟩:=N2;simp only at a0 a1 a2 a3 a4 e0 e1 e2 e3 e4 hI2;obtain⟨m1,hm1⟩:=exE (ks1.length);obtain⟨m2,hm2⟩:=exE (ks2.length);rw[hm1] at a3 hI2;rw[hm2] at e3 hI2;have Hx:=zj hx;have Hy:=zj hy;have hno:¬(k1=k2∧t1=t2∧n1'=n2'∧ks1=ks2)→¬ze8 a b:=fun h1 h2=>h1 (h2.node k _ _ hx hy)
     have Hno:=zj hno;clear hno hx hy hm1 hm2 hkl hkl2;go_wp2_with fail;refine qf ?_;go_region_held3 (fun w'=>w'.cell? ⟨w.heap.size,0,none⟩=some (.slice (some ⟨g1,o1,none⟩) n nc)∧w'.cell? ⟨w.heap.size+1,0,none⟩=some (.slice (some ⟨g2,o2,none⟩) n nc2)∧w'.cell? ⟨g1,o1+k*5,none⟩=some (.int .u8 k1)∧w'.cell? ⟨g1,o1+k*5+1,none⟩=some (.string ⟨t1.toArray⟩)∧w'.cell? ⟨g1,o1+k*5+2,none⟩=some (.int .i64 n1')∧w'.cell? ⟨g1,o1+k*5+3,none⟩=some (.slice p1 m1 q1)∧w'.cell? ⟨g1,o1+k*5+4,none⟩=some (.int .i64 at1)∧w'.cell? ⟨g2,o2+k*5,none⟩=some (.int .u8 k2)∧w'.cell? ⟨g2,o2+k*5+1,none⟩=some (.string ⟨t2.toArray⟩)∧w'.cell? ⟨g2,o2+k*5+2,none⟩=some (.int .i64 n2')∧w'.cell? ⟨g2,o2+k*5+3,none⟩=some (.slice p2 m2 q2)∧w'.cell? ⟨g2,o2+k*5+4,none⟩=some (.int .i64 at2)) (first|(go_keep;done)|(go_split_ands;refine⟨?_,?_,?_,?_,?_,?_,?_,?_,?_,?_,?_,?_⟩ <;> exact zh (zg _ _) (by assumption))) (fail)
     all_goals
      generalize hwA:World.drew (World.alloc (World.alloc wr _) _)=wA at *;obtain⟨hbA,x0,x1,x2,x3,y0,y1,y2,y3⟩:=zfd hwA;have cw0:=zh hbA cw0;replace hbA:=zj hbA;clear a0 a1 a2 a3 a4 e0 e1 e2 e3 e4 hwA;by_cases hk:k1=k2
      ·subst hk;by_cases ht:t1=t2
       ·subst ht;by_cases hn':n1'=n2'
        ·subst hn';by_cases hks:ks1=ks2
         ·have hd:decide (ks1=ks2)=true:=decide_eq_true hks;rw[hd] at hI2;replace hks:=zj hks;clear hd;go_wp2_with (go_at_call 26;refine (hI2.out _ hbA.out).mono ?_;rintro e w5 ⟨rfl,hb5⟩);go_roundw
          case rel=>exact⟨k+1,by go_num,by omega,zd hb (zd hbA.out hb5),zj (fun j x y hj hx hy=>by
           by_cases e:j=k
           ·subst e;rw[Hx.out] at hx;rw[Hy.out] at hy;cases hx;cases hy;exact⟨rfl,rfl,rfl,hks.out⟩
           ·exact hall.out j x y (by omega) hx hy)⟩
          case measure=>simp[intOf];omega
         ·have hd:decide (ks1=ks2)=false:=decide_eq_false hks;rw[hd] at hI2;replace hks:=zj hks;clear hd;go_wp2_with (go_at_call 26;refine (hI2.out _ hbA.out).mono ?_;rintro e w5 ⟨rfl,hb5⟩);go_ret;exact jZ false rfl ⟨(fun h=>by cases h),fun h=>absurd h (Hno.out (fun e=>hks.out e.2.2.2))⟩ (zd hbw (zd hbA.out hb5))
        ·have hd:(n1' != n2')=true:=by rw[bne_iff_ne];exact hn'
         replace hn':=zj hn';go_wp2_with (go_at_call 26;refine (hI2.out _ hbA.out).mono ?_;rintro e w5 ⟨rfl,hb5⟩);go_ret;exact jZ false rfl ⟨(fun h=>by cases h),fun h=>absurd h (Hno.out (fun e=>hn'.out e.2.2.1))⟩ (zd hbw hbA.out)
       ·have Ht:=zj ht;go_wp2_with (go_at_call 26;refine (hI2.out _ hbA.out).mono ?_;rintro e w5 ⟨rfl,hb5⟩);go_ret;exact jZ false rfl ⟨(fun h=>by cases h),fun h=>absurd h (Hno.out (fun e=>Ht.out e.2.1))⟩ (zd hbw hbA.out)
      ·have hd:((k1:Int) != (k2:Int))=true:=by rw[bne_iff_ne];omega
       replace hk:=zj hk;go_wp2_with (go_at_call 26;refine (hI2.out _ hbA.out).mono ?_;rintro e w5 ⟨rfl,hb5⟩);go_ret;exact jZ false rfl ⟨(fun h=>by cases h),fun h=>absurd h (Hno.out (fun e=>hk.out e.1))⟩ (zd hbw hbA.out)
    ·have hkn:k=n:=by omega
     have hlt':¬((k:Int)<(n:Int)):=by omega
     go_wp2_with fail;go_ret;refine jZ true rfl ⟨fun _=>⟨by rw[Hn.out];exact Hlen.out,Hit.out,fun j x y hx hy=>hall.out j x y (by have:=(gtL hx);rw[Hn.out] at this;omega) hx hy⟩,fun _=>rfl⟩ (hbw)
  ·have hd:decide (a.items=b.items)=false:=decide_eq_false hit;rw[hd] at hI;replace hit:=zj hit;clear hd;go_wp2_with (go_at_call 26;refine (hI.out _ HAl.out).mono ?_;rintro e w1 ⟨rfl,hb1⟩);go_ret;exact jZ false rfl ⟨(fun h=>by cases h),fun h=>absurd h.items hit.out⟩ (zd HAl.out hb1)
 ·have hne:((a.nodes.length:Int) != (b.nodes.length:Int))=true:=by rw[bne_iff_ne];omega
  have Hlen:=zj hlen;clear ha hb hI hlen;go_enter func49,ntmps49;go_wp2_with fail;go_ret;exact jZ false rfl ⟨(fun h=>by cases h),fun h=>absurd h.len Hlen.out⟩ ((zg _ _).trans ((zg _ _).mono (by simp)))
theorem zaX(a b:z6)(nv iv nv2 iv2:Value)(w:World)(ha:YC w nv iv a)(hb:YC w nv2 iv2 b)(hnl:a.nodes.length≤1000000)(hil:a.items.length≤1000000)(hkl:∀x∈a.nodes,x.kids.length≤1000000):
 Calls prog 13 #[.agg #[nv,iv],.agg #[nv2,iv2]] w (zbI (a=b) w):=by
 have hC:=zj (fun W (hW:Below w.heap.size w W)=>za2 a b nv iv nv2 iv2 W (ha.below hW) (hb.below hW) hnl hil hkl);obtain⟨np,nc,ip,ic,rfl,rfl⟩:=ha.form;obtain⟨np2,nc2,ip2,ic2,rfl,rfl⟩:=hb.form;generalize hn:a.nodes.length=n at *;generalize hn2:b.nodes.length=n2 at *;generalize a.items.length=m1 at *;generalize b.items.length=m2 at *;have Hn:=zj hn;have Hn2:=zj hn2;have HA:=zj ha.nodes;have HB:=zj hb.nodes;have h0:=zS [.cells #[.slice np n nc,.slice ip m1 ic] 26 (0,0),.cells #[.slice np2 n2 nc2,.slice ip2 m2 ic2] 26 (0,0)] w;have hAl:Below w.heap.size w _:=ya [.cells #[.slice np n nc,.slice ip m1 ic] 26 (0,0),.cells #[.slice np2 n2 nc2,.slice ip2 m2 ic2] 26 (0,0)] w;simp only[List.foldl_cons,List.foldl_nil] at hAl h0;have c0:=zf (h0 0 _ rfl) 0;have c1:=zf (h0 0 _ rfl) 1;have d0:=zf (h0 1 _ rfl) 0;have d1:=zf (h0 1 _ rfl) 1;rw[Nat.add_zero] at c0 c1;have HAl:=zj hAl;clear ha hb hkl hn hn2 h0 hAl;go_enter func13,ntmps13;go_wp2_with (go_at_call 49;refine (hC.out _ HAl.out).mono ?_;rintro e w1 ⟨r,rfl,hr,hb1⟩;have Hr:=zj hr;have c0:=zh hb1 c0;have d0:=zh hb1 d0;have hb1:=zd HAl.out hb1;clear hr c1 d1;cases r)
 ·go_ret;exact jZ false rfl ⟨(fun h=>by cases h),fun h=>absurd (Hr.out.2 (by subst h;exact⟨rfl,rfl,fun j x y hx hy=>by rw[hx] at hy;cases hy;exact⟨rfl,rfl,rfl,rfl⟩⟩)) (by decide)⟩ hb1
 ·go_loopw [5] (fun i wr=>∃k:Nat,i=.int .i64 k∧k≤n∧Below w1.heap.size w1 wr∧Hid (∀(j:Nat) (x y:Nd),j<k→a.nodes[j]? =some x→b.nodes[j]? =some y→x.at_=y.at_)) (fun i _=>n-(intOf i).toNat)
  case atStart=>exact⟨0,rfl,by omega,Below.refl _ _,zj (fun j x y hj=>absurd hj (Nat.not_lt_zero _))⟩
  case round=>
   obtain⟨k,rfl,hk,hb,hall⟩:=hrel;have cw0:=zh hb c0;have dw0:=zh hb d0;clear c0 d0;have hbw:=zd hb1 hb;by_cases hlt:k<n
   ·have hlt':(k:Int)<(n:Int):=by omega
    have hlen:n=n2:=by have:=(Hr.out.1 (by first|rfl|trivial)).len;rw[Hn.out,Hn2.out] at this;exact this
    have hlt2:(k:Int)<(n2:Int):=by omega
    have hj0:¬((k:Int)<0):=by omega
    obtain⟨x,hx⟩:∃x,a.nodes[k]? =some x:=⟨_,glE (by rw[Hn.out];exact hlt)⟩;obtain⟨y,hy⟩:∃y,b.nodes[k]? =some y:=⟨_,glE (by rw[Hn2.out];omega)⟩;obtain⟨g1,o1,u1,rfl,N1⟩:=HA.out.at hx;obtain⟨g2,o2,u2,rfl,N2⟩:=HB.out.at hy;have a4:=(N1.below hbw).c4;have e4:=(N2.below hbw).c4;have Hx:=zj hx;have Hy:=zj hy;clear hx hy N1 N2 hlen;by_cases hat:x.at_=y.at_
    ·have Hat:=zj hat;rw[hat] at a4;clear hat;go_wp2_with fail;go_quiet (fail);go_wp2_with fail;go_roundw
     case rel=>
      refine⟨k+1,by go_num,by omega,ye hb nq,zj (fun j x' y' hj hx' hy'=>?_)⟩;by_cases e:j=k
      ·subst e;rw[Hx.out] at hx';rw[Hy.out] at hy';cases hx';cases hy';exact Hat.out
      ·exact hall.out j x' y' (by omega) hx' hy'
     case measure=>simp[intOf];omega
    ·have hne:(x.at_ != y.at_)=true:=by rw[bne_iff_ne];exact hat
     have Hat:=zj hat;clear hat;go_wp2_with fail;go_quiet (fail);go_wp2_with fail;go_ret;exact jZ false rfl ⟨(fun h=>by cases h),fun h=>absurd h (fun h=>Hat.out (by subst h;have:=Hy.out;rw[Hx.out] at this;cases this;rfl))⟩ (ye hbw nq)
   ·have hkn:k=n:=by omega
    have hlt':¬((k:Int)<(n:Int)):=by omega
    go_wp2_with fail;go_ret;refine jZ true rfl ⟨fun _=>?_,fun _=>rfl⟩ hbw;obtain⟨q1,q2,q3⟩:=Hr.out.1 (by first|rfl|trivial);obtain⟨an,ai⟩:=a;obtain⟨bn,bi⟩:=b;simp only at q1 q2 q3 hall;subst q2;have:an=bn:=List.ext_getElem? (fun j=>by
     by_cases hj:j<an.length
     ·have hx:=glE hj;have hy:=glE (q1▸hj);rw[hx,hy];obtain⟨e1,e2,e3,e4⟩:=q3 j _ _ hx hy;have e5:=hall.out j _ _ (by have:=Hn.out;simp only at this;omega) hx hy;generalize an[j]=x at *;generalize bn[j]'(q1▸hj)=y at *;obtain⟨x0,x1,x2,x3,x4⟩:=x;obtain⟨y0,y1,y2,y3,y4⟩:=y;simp only at e1 e2 e3 e4 e5;rw[e1,e2,e3,e4,e5]
     ·rw[List.getElem?_eq_none (by omega),List.getElem?_eq_none (by omega)])
    rw[this]
theorem zbh(t:z6)(nv iv:Value)(w:World)(hT:YC w nv iv t)(hG:qy w)(hi:∀x∈t.nodes,∀k∈x.kids,I64 k)(h8:∀x∈t.nodes,x.kind≤255):
 Calls prog 4 #[.agg #[nv,iv]] w (qe w (.bool true)):=by
 have hL:=zj (fun W (hW:Below w.heap.size w W)=>Jr t nv iv W (hT.below hW));have hKn:=zj (fun W (hW:Below w.heap.size w W)=>Ql W (hG.later hW));obtain⟨np,nc,ip,ic,rfl,rfl⟩:=hT.form;have HT:=zj hT;have HG:=zj hG;have HI:=zj hi;have H8:=zj h8;obtain⟨n,hn⟩:=exE (t.nodes.length);obtain⟨m,hm⟩:=exE (t.items.length);rw[hn,hm] at hL HT ⊢;have hz:=zm w (.cells #[.slice np n nc,.slice ip m ic] 26 (0,0));have hA:=zg w (.cells #[.slice np n nc,.slice ip m ic] 26 (0,0));have b0:=zf hz 0;have b1:=zf hz 1;have HA:=zj hA;have Hz:=zj hz;have Hn:=zj hn;have Hm:=zj hm;clear hT hG hi h8 hz hA hn hm;obtain⟨lg,hlg⟩:∃b,YV t=b:=⟨_,rfl⟩;rw[hlg] at hL;have Hlg:=zj hlg;clear hlg;cases lg
 ·go_enter func4,ntmps4;go_wp2_with (go_at_call 14;refine (hL.out _ HA.out).mono ?_;rintro e w1 ⟨rfl,hb1⟩;have b0:=zh hb1 b0;have b1:=zh hb1 b1;have hbw:=zj (zd HA.out hb1));obtain⟨bn,bi,bt⟩:=Vk Hlg.out;refine (Jg t _ _ w1 (HT.out.below hbw.out) HI.out (by omega) (by omega) (fun x hx=>by have:=(bt x hx).1;omega)).mono ?_;rintro e w2 ⟨nv2,iv2,rfl,hT2,hb2⟩;have hok:JJ7 t:=⟨H8.out,fun x hx=>by have:=(bt x hx).2;omega,fun x hx=>by have:=(bt x hx).1;omega,by omega,by omega⟩;have hCh:=zj (fun W (hW:Below w2.heap.size w2 W) (hGW:qy W)=>ua t nv2 iv2 W (hT2.below hW) hGW hok);have hRc:=zj (fun W (hW:Below w.heap.size w W)=>ZM t _ _ W (HT.out.below hW) (by omega) (by omega) (fun x hx=>by have:=(bt x hx).1;omega) (fun x hx=>by have:=(bt x hx).2;omega));have hSa:=zj (fun W (hW:Below w2.heap.size w2 W) (hW2:Below w.heap.size w W)=>zaX t t nv2 iv2 _ _ W (hT2.o.below hW) (HT.out.below hW2) (by omega) (by omega) (fun x hx=>by have:=(bt x hx).1;omega));obtain⟨p2,c2,q2,d2,rfl,rfl⟩:=hT2.form;have b0:=zh hb2 b0;have b1:=zh hb2 b1;rw[Hn.out,Hm.out] at *;have hcq:yB t=yR t:=kY t (fun x hx=>by have:=(bt x hx).1;omega);have Hcq:=zj hcq;have hx0:=zm w2 (.cells #[.slice p2 n c2,.slice q2 m d2] 26 (0,0));have hxA:=zg w2 (.cells #[.slice p2 n c2,.slice q2 m d2] 26 (0,0));have b0:=zh hxA b0;have b1:=zh hxA b1;have x0:=zf hx0 0;have x1:=zf hx0 1;have hw2:=zd hbw.out hb2;have hwx:=zd hw2 hxA;clear hcq hx0;go_wp2_with fail;generalize w2.alloc (.cells #[.slice p2 n c2,.slice q2 m d2] 26 (0,0))=wx at *;have hS:∀W,Cl wx.drew W→(W.cell? ⟨w2.heap.size,0,none⟩=some (.slice p2 n c2)∧W.cell? ⟨w2.heap.size,1,none⟩=some (.slice q2 m d2)∧W.cell? ⟨w.heap.size,0,none⟩=some (.slice np n nc)∧W.cell? ⟨w.heap.size,1,none⟩=some (.slice ip m ic)):=fun W h=>
   ⟨zh (w:=wx.drew) h.below x0,zh (w:=wx.drew) h.below x1,zh (w:=wx.drew) h.below b0,zh (w:=wx.drew) h.below b1⟩
  refine zo [(0,1),(2,1),(1,2),(3,2),(4,0),(5,0),(6,1),(7,1),(8,2),(9,0),(10,0),(11,2),(12,0),(13,0)] (by kernel_rfl) (by kernel_rfl) ?_
  iterate 2 ((first|refine zl rfl (by rfl) (by decide) ?_|(apply zk rfl (by rfl);· (intro w';go_simp;first|done|with_reducible rfl|(rw[if_neg (by first|omega|(simp;omega))];try with_reducible rfl)))|(apply zt hS rfl (by rfl);· (intro w' hw';go_split_ands;go_simp;try with_reducible rfl))|fail);simp only[Act.put,zD,lsZ,lsS])
  refine zq rfl (by rfl) (fun K hK V hV=>?_);have hV1:Below wx.heap.size wx V:=(Below.refl _ wx).drew.trans hV.below;go_simp;refine (hCh.out V (zd hxA hV1) (HG.out.later (zd hwx hV1))).mono ?_;rintro e w3 ⟨rfl,hb3⟩;rw[Hcq.out];refine⟨zV.2 hb3,hK _ _ ?_⟩;clear hK K;have hV3:=zd hV1 hb3
  try simp only[Act.put,zD,lsZ,lsS]
  refine zq rfl (by rfl) (fun K hK V2 hV2=>?_);have hV4:=zd hV3 hV2.below;go_simp;refine (hRc.out V2 (zd hwx hV4)).mono ?_;rintro e w4 ⟨rfl,hb4⟩;refine⟨zV.2 hb4,hK _ _ ?_⟩;clear hK K;have hV5:=zd hV4 hb4
  try simp only[Act.put,zD,lsZ,lsS]
  generalize yR t=ck;have hS:=fun W (h:Cl w4 W)=>hS W (zV.2 ((zd hb3 (zd hV2.below (zd hb4 h.below)):Below V.heap.size V W) |> fun q=>zd (w:=wx.drew) hV.below q))
  iterate 4 ((first|refine zl rfl (by rfl) (by decide) ?_|(apply zk rfl (by rfl);· (intro w';go_simp;first|done|with_reducible rfl|(rw[if_neg (by first|omega|(simp;omega))];try with_reducible rfl)))|(apply zt hS rfl (by rfl);· (intro w' hw';go_split_ands;go_simp;try with_reducible rfl))|fail);simp only[Act.put,zD,lsZ,lsS])
  refine zq rfl (by rfl) (fun K hK V6 hV6=>?_);have hV7:=zd hV5 hV6.below;go_simp;refine (hSa.out V6 (zd hxA hV7) (zd hwx hV7)).mono ?_;rintro e w5 ⟨sb,rfl,hsb,hb5⟩;have hst:sb=true:=hsb.2 (by first|rfl|trivial);subst hst;refine⟨zV.2 hb5,hK _ _ ?_⟩;clear hK K hsb;have hV8:=zd hV7 hb5
  try simp only[Act.put,zD,lsZ,lsS]
  iterate 2 ((first|refine zl rfl (by rfl) (by decide) ?_|(apply zk rfl (by rfl);· (intro w';go_simp;first|done|with_reducible rfl|(rw[if_neg (by first|omega|(simp;omega))];try with_reducible rfl)))|(apply zt hS rfl (by rfl);· (intro w' hw';go_split_ands;go_simp;try with_reducible rfl))|fail);simp only[Act.put,zD,lsZ,lsS])
  refine zq rfl (by rfl) (fun K hK V9 hV9=>?_);have hV10:=zd hV8 hV9.below;go_simp;refine (hKn.out V9 (zd hwx hV10)).mono ?_;rintro e w6 ⟨rfl,hb6⟩;refine⟨zV.2 hb6,hK _ _ ?_⟩;clear hK K;have hV11:=zd hV10 hb6
  try simp only[Act.put,zD,lsZ,lsS]
  iterate 2 ((first|refine zl rfl (by rfl) (by decide) ?_|(apply zk rfl (by rfl);· (intro w';go_simp;first|done|with_reducible rfl|(rw[if_neg (by first|omega|(simp;omega))];try with_reducible rfl)))|(apply zt hS rfl (by rfl);· (intro w' hw';go_split_ands;go_simp;try with_reducible rfl))|fail);simp only[Act.put,zD,lsZ,lsS])
  refine zu fun W hW=>?_
  have hV12:=zj (zd hwx (zd hV11 hW.below));go_wp2_with fail;go_ret;exact⟨rfl,hV12.out⟩
 ·go_enter func4,ntmps4;go_wp2_with (first
   |(go_at_call 14;refine (hL.out _ HA.out).mono ?_;rintro e w1 ⟨rfl,hb1⟩;have hbw:=zj (zd HA.out hb1))
   |(go_at_call 10;refine (hKn.out _ hbw.out).mono ?_;rintro e w2 ⟨rfl,hb2⟩))
  go_ret;exact⟨rfl,zd hbw.out hb2⟩
end
end Go.Proofs.YtcagibbaeageoaaGreatDoor
