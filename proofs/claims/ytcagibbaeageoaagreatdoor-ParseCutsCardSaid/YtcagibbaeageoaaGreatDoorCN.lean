/-
  A part of the proof: contracts of functions; no conditions.
-/
import Derived.Test.YtcagibbaeageoaaGreatDoorCM
set_option maxRecDepth 100000
set_option maxHeartbeats 40000000
set_option linter.unusedSimpArgs false
set_option linter.unusedVariables false
namespace Go.Proofs.YtcagibbaeageoaaGreatDoor
section
open Go.RowKit Lode Go.Shelf
attribute [local go_sem ↓] Go.wp_at_zero Go.wp_at_succ
open Go.Proofs.Tryz
theorem JT(a b:zU)(nv iv nv2 iv2:Value)(w:World)(ha:Jy w nv iv a)(hb:Jy w nv2 iv2 b)(hnl:a.nodes.length<=1000000)(hil:a.items.length<=1000000)(hkl:∀x∈a.nodes,x.kids.length<=1000000):
 Calls prog 13 #[.agg #[nv,iv],.agg #[nv2,iv2]] w (zeK (a=b) w):=by
 have hC:=zj (fun W (hW:Below w.heap.size w W)=>zdL a b nv iv nv2 iv2 W (ha.below hW) (hb.below hW) hnl hil hkl);obtain⟨np,nc,ip,ic,rfl,rfl⟩:=ha.form;obtain⟨np2,nc2,ip2,ic2,rfl,rfl⟩:=hb.form;generalize hn:a.nodes.length=n at *;generalize hn2:b.nodes.length=n2 at *;generalize a.items.length=m1 at *;generalize b.items.length=m2 at *;have Hn:=zj hn;have Hn2:=zj hn2;have HA:=zj ha.nodes;have HB:=zj hb.nodes;have h0:=zK [.cells #[.slice np n nc,.slice ip m1 ic] 26 (0,0),.cells #[.slice np2 n2 nc2,.slice ip2 m2 ic2] 26 (0,0)] w;have hAl:Below w.heap.size w _:=zQ [.cells #[.slice np n nc,.slice ip m1 ic] 26 (0,0),.cells #[.slice np2 n2 nc2,.slice ip2 m2 ic2] 26 (0,0)] w;simp only[List.foldl_cons,List.foldl_nil] at hAl h0;have c0:=zd (h0 0 _ rfl) 0;have c1:=zd (h0 0 _ rfl) 1;have d0:=zd (h0 1 _ rfl) 0;have d1:=zd (h0 1 _ rfl) 1;rw[Nat.add_zero] at c0 c1;have HAl:=zj hAl;clear ha hb hkl hn hn2 h0 hAl;go_enter func13,ntmps13;go_wp2_with (go_at_call 49;refine (hC.out _ HAl.out).mono ?_;rintro e w1 ⟨r,rfl,hr,hb1⟩;have Hr:=zj hr;have c0:=zh hb1 c0;have d0:=zh hb1 d0;have hb1:=zf HAl.out hb1;clear hr c1 d1;cases r)
 ·go_ret;exact kz false rfl ⟨(fun h=>by cases h),fun h=>absurd (Hr.out.2 (by subst h;exact⟨rfl,rfl,fun j x y hx hy=>by rw[hx] at hy;cases hy;exact⟨rfl,rfl,rfl,rfl⟩⟩)) (by decide)⟩ hb1
 ·go_loopw [5] (fun i wr=>∃k:Nat,i=.int .i64 k/\k<=n/\Below w1.heap.size w1 wr/\Hid (∀(j:Nat) (x y:Nd),j<k->a.nodes[j]? =some x->b.nodes[j]? =some y->x.at_=y.at_)) (fun i _=>n-(intOf i).toNat)
  case atStart=>exact⟨0,rfl,by omega,pE _ _,zj (fun j x y hj=>absurd hj (pY _))⟩
  case round=>
   obtain⟨k,rfl,hk,hb,hall⟩:=hrel;have cw0:=zh hb c0;have dw0:=zh hb d0;clear c0 d0;have hbw:=zf hb1 hb;by_cases hlt:k<n
   ·have hlt':(k:Int)<(n:Int):=by omega
    have hlen:n=n2:=by have:=(Hr.out.1 (by first|rfl|trivial)).len;rw[Hn.out,Hn2.out] at this;exact this
    have hlt2:(k:Int)<(n2:Int):=by omega
    have hj0:¬((k:Int)<0):=by omega
    obtain⟨x,hx⟩:∃x,a.nodes[k]? =some x:=⟨_,glE (by rw[Hn.out];exact hlt)⟩;obtain⟨y,hy⟩:∃y,b.nodes[k]? =some y:=⟨_,glE (by rw[Hn2.out];omega)⟩;obtain⟨g1,o1,u1,rfl,N1⟩:=HA.out.at hx;obtain⟨g2,o2,u2,rfl,N2⟩:=HB.out.at hy;have a4:=(N1.below hbw).c4;have e4:=(N2.below hbw).c4;have Hx:=zj hx;have Hy:=zj hy;clear hx hy N1 N2 hlen;by_cases hat:x.at_=y.at_
    ·have Hat:=zj hat;rw[hat] at a4;clear hat;go_wp2_with fail;go_quiet (fail);go_wp2;go_roundw
     case rel=>
      refine⟨k+1,by go_num,by omega,ye hb nq,zj (fun j x' y' hj hx' hy'=>?_)⟩;by_cases e:j=k
      ·subst e;rw[Hx.out] at hx';rw[Hy.out] at hy';cases hx';cases hy';exact Hat.out
      ·exact hall.out j x' y' (by omega) hx' hy'
     case measure=>simp[intOf];omega
    ·have hne:(x.at_ != y.at_)=true:=by rw[gB];exact hat
     have Hat:=zj hat;clear hat;go_wp2_with fail;go_quiet (fail);go_wp2;go_ret;exact kz false rfl ⟨(fun h=>by cases h),fun h=>absurd h (fun h=>Hat.out (by subst h;have:=Hy.out;rw[Hx.out] at this;cases this;rfl))⟩ (ye hbw nq)
   ·have hkn:k=n:=by omega
    have hlt':¬((k:Int)<(n:Int)):=by omega
    go_wp2;go_ret;refine kz true rfl ⟨fun _=>?_,fun _=>rfl⟩ hbw;obtain⟨q1,q2,q3⟩:=Hr.out.1 (by first|rfl|trivial);obtain⟨an,ai⟩:=a;obtain⟨bn,bi⟩:=b;simp only at q1 q2 q3 hall;subst q2;have:an=bn:=List.ext_getElem? (fun j=>by
     by_cases hj:j<an.length
     ·have hx:=glE hj;have hy:=glE (q1▸hj);rw[hx,hy];obtain⟨e1,e2,e3,e4⟩:=q3 j _ _ hx hy;have e5:=hall.out j _ _ (by have:=Hn.out;simp only at this;omega) hx hy;generalize an[j]=x at *;generalize bn[j]'(q1▸hj)=y at *;obtain⟨x0,x1,x2,x3,x4⟩:=x;obtain⟨y0,y1,y2,y3,y4⟩:=y;simp only at e1 e2 e3 e4 e5;rw[e1,e2,e3,e4,e5]
     ·rw[wY (by omega),wY (by omega)])
    rw[this]
end
end Go.Proofs.YtcagibbaeageoaaGreatDoor
