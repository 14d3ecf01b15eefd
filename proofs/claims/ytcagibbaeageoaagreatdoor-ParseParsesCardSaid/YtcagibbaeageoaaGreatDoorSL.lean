import Derived.Test.YtcagibbaeageoaaGreatDoorSE
import Derived.Test.YtcagibbaeageoaaGreatDoorSJ
import Derived.OwnWalkIn
set_option maxRecDepth 100000
set_option maxHeartbeats 0
set_option linter.all false
variable{W W' a b w:Go.World}{g:Int->Int->Lode.xf->Option Int}{B F k n n3 sb:Nat}{NB SO cs ds:Array Go.Value}{T U:Go.TypeId}{fr':Nat×Nat}{o:Go.Obj}{iv nv v:Go.Value}{lim next nx:Int}{row:Option Nat}{hh s:Lode.xA}{rk:List Int}{R:Option Int}{l:List Lode.Nd}{t:Lode.yJ}
namespace Go.Proofs.YtcagibbaeageoaaGreatDoor
section
open Go.RowKit Lode Go.Shelf
attribute [local go_sem] Oper.semAt_some
attribute [local go_sem] QC Vo
open Go.Proofs.Tryz
def QZ{g:Nat}{fr:Nat×Nat}(h:w.heap[g]? =some (.cells cs T fr))(h':w.heap[k]? =some (.cells ds U fr'))(hT:T≠U):g≠k:=λe=>by
 subst e;rw[h] at h';cases h';exact hT rfl
def uo{c:World}{r:Option Nat}(h:a.grownBy b r)(k:b.grownBy c r):a.grownBy c r:=
 ⟨k.os.trans h.os,k.tape.trans h.tape,k.output.trans h.output,pN h.size k.size,λi hi hn=>(k.block i (pX hi h.size) hn).trans (h.block i hi hn)⟩
def Zl(h:Below a.heap.size a b)(r:Option Nat):a.grownBy b r:=⟨h.os,h.tape,h.output,h.size,λk hk _=>h.block k hk⟩
def xI(h:a.grownBy b (some F))(hk:a.heap[k]? =some o)(hn:k≠F):b.heap[k]? =some o:=
 (h.block k (gtA hk) (λe=>hn (by cases e;rfl))).trans hk
def KU{w0:World}(h:a.grownBy b (some F))(hb:Below w0.heap.size w0 a)(hF:w0.heap.size<=F):Below w0.heap.size w0 b:=
 hb.grown h hb.size (λr e=>by cases e;exact hF)
def zhn(h:a.grownBy b (some F))(hB:B<=a.heap.size)(hF:B<=F):Below B a b:=
 ⟨h.os,h.tape,h.output,h.size,λk hk=>h.block k (pX hk hB) (λe=>by cases e;omega)⟩
def znB(w:World)(F i:Nat)(v:Value):w.grownBy (w.setCell ⟨F,i,none⟩ v) (some F):=
 ⟨rfl,rfl,rfl,by simp,λk _ hk=>Below.heap_setCell _ _ _ k (λe=>hk (by rw[e]))⟩
def zkR(o:Option Int)(F:Nat)(nv iv:Value)(next:Int)(w:World)(e:Ending)(w':World):Prop:=w.grownBy w' (some F)/\((∃nx,o=some nx/\e=.returned (.bool true)/\w'.heap[F]? =some (fmO nv iv nx)/\-1<=nx/\nx<next)\/(o=none/\e=.returned (.bool false)))
structure FnW(F:Nat)(nv iv:Value)(w W:World)(nx:Int):Prop where
 fr:w.grownBy W (some F)
 f:W.heap[F]? =some (fmO nv iv nx)
 p:W.heap[w.heap.size]? =some (Kr F)
 r:W.heap[w.heap.size+1]? =some (.cells #[.bool false] 4 (0,0))
def FnW.below(h:FnW F nv iv w W nx)(hb:Below W.heap.size W W'):FnW F nv iv w W' nx:=
 ⟨uo h.fr (Zl hb _),zi hb h.f,zi hb h.p,zi hb h.r⟩
def FnW.start(h:w.heap[F]? =some (fmO nv iv nx)):FnW F nv iv w ((w.alloc (Kr F)).alloc (.cells #[.bool false] 4 (0,0))) nx:=
 ⟨Zl (yw [Kr F,.cells #[.bool false] 4 (0,0)] w) _,zi (yw [Kr F,.cells #[.bool false] 4 (0,0)] w) h,zV [Kr F,.cells #[.bool false] 4 (0,0)] w 0 _ rfl,zV [Kr F,.cells #[.bool false] 4 (0,0)] w 1 _ rfl⟩
def zkj{r:Option Nat}(h:w.grownBy W r){a:Addr}(ha:w.heap.size<=a.block)(v:Value):w.grownBy (W.setCell a v) r:=
 ⟨h.os,h.tape,h.output,pN h.size (by simp),λk hk hn=>(Below.heap_setCell _ _ _ k (by omega)).trans (h.block k hk hn)⟩
def FnW.no(h:FnW F nv iv w W nx):zkR none F nv iv next w (.returned (.bool false)) (W.setCell ⟨w.heap.size+1,0,none⟩ (.bool false)):=
 ⟨zkj h.fr (by simp) _,.inr ⟨rfl,rfl⟩⟩
def Kx(g:Int->Int->xf->Option Int)(hh:xA)(n3:Nat)(rk:List Int)(R:Option Int)(F:Nat)(nv iv:Value)(w:World)(lim:Int)(NB SO:Array Value)(sb:Nat)(v:Value)(B:Nat)(pre:List (Int×Int))(W:World):Prop:=
 ∃nx,FnW F nv iv w W nx/\W.heap[w.heap.size+2]? =some (.cells NB 60 (0,0))/\W.heap[sb]? =some (.cells SO 151 (0,0))/\ShV W v hh/\Yb g hh n3 (rk.drop pre.length) nx=R/\-1<=nx/\nx<=lim/\B<=W.heap.size
def zcW(R:Option Int)(F:Nat)(w:World)(B:Nat)(c:Code)(W:World):Prop:=c=.ret/\R=none/\w.grownBy W (some F)/\W.heap[w.heap.size+1]? =some (.cells #[.bool false] 4 (0,0))/\B<=W.heap.size
def zcH(h:w.grownBy W (some F))(hB:w.heap.size<=B)(hg:W.grownBy W' row)(hr:∀r,row=some r->B<=r):w.grownBy W' (some F):=
 ⟨hg.os.trans h.os,hg.tape.trans h.tape,hg.output.trans h.output,pN h.size hg.size,λk hk hn=>(hg.block k (pX hk h.size) (λe=>by have:=hr k e.symm;omega)).trans (h.block k hk hn)⟩
def xG(hg:W.grownBy W' row)(hr:∀r,row=some r->∃o:Obj,W.heap[r]? =some o/\o.isCells=false){fr:Nat×Nat}(h:W.heap[k]? =some (.cells cs T fr)):W'.heap[k]? =some (.cells cs T fr):=by
 rw[hg.block k (gtA h) (λe=>by
  obtain⟨o,ho,hc⟩:=hr k e.symm;rw[h] at ho;cases ho;cases hc)]
 exact h
def Kx.own(hB:w.heap.size<=B):XF (λ_=>False) B (Kx g hh n3 rk R F nv iv w lim NB SO sb v B):=by
 rintro pre W W' row ⟨nx,⟨h1,h2,h3,h4⟩,h5,h6,h7,h8,h9,mR,mX⟩ hg hr;have sH:∀r,row=some r->B<=r:=λr e=>(hr r e).elim False.elim And.left
 have mO:∀r,row=some r->∃o:Obj,W.heap[r]? =some o/\o.isCells=false:=λr e=>(hr r e).elim False.elim And.right
 exact⟨nx,⟨zcH h1 hB hg sH,xG hg mO h2,xG hg mO h3,xG hg mO h4⟩,xG hg mO h5,xG hg mO h6,h7.keep (λ_ _ _ h=>xG hg mO h) (λ_ _ _ h=>xG hg mO h),h8,h9,mR,pN mX hg.size⟩
def zcW.own(hB:w.heap.size<=B)(c:Code):XF (λ_=>False) B (λ(_:List (Int×Int)) W=>zcW R F w B c W):=by
 rintro pre W W' row ⟨h1,h2,h3,h4,h5⟩ hg hr;have sH:∀r,row=some r->B<=r:=λr e=>(hr r e).elim False.elim And.left
 have mO:∀r,row=some r->∃o:Obj,W.heap[r]? =some o/\o.isCells=false:=λr e=>(hr r e).elim False.elim And.right
 exact⟨h1,h2,zcH h3 hB hg sH,xG hg mO h4,pN h5 hg.size⟩
def ShV.gb{w':World}{fr:Nat×Nat}(h:ShV w v s)(hF:w.heap[F]? =some (.cells cs 117 fr))(hg:w.grownBy w' (some F)):ShV w' v s:=
 h.keep (λ_ _ _ hB=>xI hg hB (QZ hB hF (by decide))) (λ_ _ _ hB=>xI hg hB (QZ hB hF (by decide)))
def znO(F:Nat):LodeX.Rel:=⟨λa b=>a.grownBy b (some F),λw=>World.grownBy.refl w _,uo,Eq,λ_=>rfl,Eq.trans,λh=>h▸World.grownBy.refl _ _⟩
def zel{f:Nat}{number:Int}{s:xf}(h:next<0\/number≠next):qX l f next number s=none:=by
 cases f with
 |zero=>rfl
 |succ f=>
  unfold qX;rw[if_pos h]
def ziz(l:List Nd)(kv:List Value)(nv iv:Value)(w0:World)(F:Nat)(hN:NS w0 nv l kv)(hG:jQ w0)(BM:w0.heap.size<=F)(tS:∀x∈l,x.kind<=255)(ey:∀x∈l,x.text.length<=1000000000000)(mf:∀x∈l,x.kz.length<=100000)(BZ:l.length<=100000):∀(f:Nat) (next number:Int) (s:xf) (sv:Value) (w:World),next<f->next<l.length->-1<=next->Below w0.heap.size w0 w->w.heap[F]? =some (fmO nv iv next)->XC w sv s->
 Calls prog 99 #[.pointer (some ⟨F,0,none⟩),.int .i64 number,sv] w (zkR (qX l f next number s) F nv iv next w):=by
 intro f;induction f with
 |zero=>
  intro next number s sv w hnf bD rW Rv hF hS
  have rp:next<0:=by omega
  rw[zel (.inl rp)];obtain⟨fs,caps,rfl,_,_⟩:=hS.use;clear hS;obtain⟨np,nc,rfl⟩:=hN.form;have mK:=FnW.start hF;generalize hwe:((w.alloc (Kr F)).alloc (.cells #[.bool false] 4 (0,0)))=w2 at *;have HW:=zh mK;have c0:=zd mK.p 0;have c1:=zd mK.f 2;have c2:=zd mK.r 0;have f2:=zj mK.r 0;clear mK hF;refine (callsIn_wide (n:=5)).1 ?_;refine callsIn_of_wp_marks func99 rfl trivial ?_ rfl;simp only[ntmps99,List.size_toArray,pH,pM,Nat.reduceAdd,Nat.reduceSub,Array.replicate_succ,Array.replicate_zero,List.push_toArray,List.append_toArray,pV,pQ]
  gi_wp2_with fail
  exact⟨.bool false,by simp[results,results99,go_sem,zd (zt HW.q.r 0 (.bool false))],HW.q.no⟩
 |succ f ih=>
  intro next number s sv w hnf bD rW Rv hF hS
  obtain⟨R,hR⟩:=exE (qX l (f+1) next number s)
  rw[hR];obtain⟨fs,caps,rfl,rZ,ae⟩:=hS.use;obtain⟨np,nc,rfl⟩:=hN.form;have mK:=FnW.start hF;have ML:Below w.heap.size w ((w.alloc (Kr F)).alloc (.cells #[.bool false] 4 (0,0))):=yw [Kr F,.cells #[.bool false] 4 (0,0)] w;have tK:((w.alloc (Kr F)).alloc (.cells #[.bool false] 4 (0,0))).heap.size=w.heap.size+2:=by simp
  have hFw:F<w.heap.size:=(gtA hF);generalize hwe:((w.alloc (Kr F)).alloc (.cells #[.bool false] 4 (0,0)))=w2 at *;have HW:=zh mK;have c0:=zd mK.p 0;have c1:=zd mK.f 2;have c2:=zd mK.r 0;have f2:=zj mK.r 0;have WC:=zh ae;have wy:=zh rZ;have hIH:=zh ih;clear mK hF ih ae rZ;by_cases rR:next<0\/number≠next
  ·have ar:R=none:=by rw[<-hR];exact zel rR
   subst ar;by_cases rp:next<0
   ·refine (callsIn_wide (n:=5)).1 ?_;refine callsIn_of_wp_marks func99 rfl trivial ?_ rfl;simp only[ntmps99,List.size_toArray,pH,pM,Nat.reduceAdd,Nat.reduceSub,Array.replicate_succ,Array.replicate_zero,List.push_toArray,List.append_toArray,pV,pQ]
    gi_wp2_with fail
    exact⟨.bool false,by simp[results,results99,go_sem,zd (zt HW.q.r 0 (.bool false))],HW.q.no⟩
   ·have Bg:¬(number=next):=by omega
    have hnn2:(number != next)=true:=by rw[wV];exact Bg
    refine (callsIn_wide (n:=5)).1 ?_;refine callsIn_of_wp_marks func99 rfl trivial ?_ rfl;simp only[ntmps99,List.size_toArray,pH,pM,Nat.reduceAdd,Nat.reduceSub,Array.replicate_succ,Array.replicate_zero,List.push_toArray,List.append_toArray,pV,pQ]
    gi_wp2_with fail
    exact⟨.bool false,by simp[results,results99,go_sem,zd (zt HW.q.r 0 (.bool false))],HW.q.no⟩
  ·have mu:number=next:=by omega
   have rp:¬(next<0):=by omega
   subst mu;obtain⟨zn,rfl⟩:=pO (show 0<=number by omega);have SZ:zn<l.length:=by omega
   have FY:(zn:Int)<(l.length:Int):=by omega
   obtain⟨x,hx⟩:∃x,l[zn]? =some x:=⟨_,glE SZ⟩;have AV:=wH hx;have tO:=tS x AV;have Ii:=ey x AV;have Nt:=mf x AV;have ar:(match zM x.kind with
    |none=>none
    |some h=>if s.is x.kind && vY x && h.fits x.kz.length && xT l x then Yb (qX l f) h x.kz.length x.kz.reverse ((zn:Int)-1) else none)=R:=by
    rw[<-hR];unfold qX;rw[if_neg (by omega),pZ,hx];rfl
   replace ar:=zh ar;have rB:Below w0.heap.size w0 w2:=KU HW.q.fr Rv BM;obtain⟨g,off,u,rfl,sR⟩:=hN.at hx;have hA:=sR.below rB;obtain⟨up,uc,rfl⟩:=hA.kz.form;have hK:=zh hA.kz;have GQ:=zh sR.kz;clear sR;obtain⟨y0,y1,y2,y3,y4⟩:=x;have a0:=hA.c0;have a1:=hA.c1;have a2:=hA.c2;have a3:=hA.c3;have a4:=hA.c4;simp only at a0 a1 a2 a3 a4 tO Ii Nt;have aU:=zh hx;have hxm':=zh AV;have hSh:=zh (λW=>zdq y0 W);obtain⟨n3,bC⟩:=exE (y3.length);rw[bC] at a3 Nt;have rq:=zh bC;clear hR hA hx AV bC;refine (callsIn_wide (n:=5)).1 ?_;refine callsIn_of_wp_marks func99 rfl trivial ?_ rfl;simp only[ntmps99,List.size_toArray,pH,pM,Nat.reduceAdd,Nat.reduceSub,Array.replicate_succ,Array.replicate_zero,List.push_toArray,List.append_toArray,pV,pQ];have c5:=zd HW.q.f 0
   gi_wp2_with fail
   refine⟨trivial,(callsIn_wide.2 (hSh.q _)).mono ?_⟩;rintro e w3 hp;obtain⟨mU,hp⟩:=hp;have MM:=zf w2 (.cells #[.int .u8 y0,.string ⟨y1.toArray⟩,.int .i64 y2,.slice up n3 uc,.int .i64 y4] 60 (0,0));have eV:=zi mU (zk w2 (.cells #[.int .u8 y0,.string ⟨y1.toArray⟩,.int .i64 y2,.slice up n3 uc,.int .i64 y4] 60 (0,0)));rw[tK] at eV;have fP:=zg MM mU;have SD:=HW.q.below fP;clear MM mU c0 c1 c2 f2 c5 a0 a1 a2 a3 a4 HW;replace eV:=zh eV;have fX:∀f,Fence.wide.fn f=True:=λ_=>rfl
   rcases hp with⟨h,v,bG,rfl,hv⟩|⟨bG,rfl⟩
   ·obtain⟨h1,h2,h3⟩:=zdp bG;have cJ:(if s.is y0 && vY ⟨y0,y1,y2,y3,y4⟩ && h.fits y3.length && xT l ⟨y0,y1,y2,y3,y4⟩ then Yb (qX l f) h y3.length y3.reverse ((zn:Int)-1) else none)=R:=by
     rw[<-ar.q];simp only[bG]
    rw[rq.q] at cJ;replace cJ:=zh cJ;obtain⟨fv,mv,lv,rfl,hf,bB,hl⟩:=id hv;obtain⟨fp,fc,rfl⟩:=hf.form;obtain⟨lp,lc,rfl⟩:=hl.form;have Mg:∀(W:World) (a:Addr) (m:Mode),(store a mv m).run prog W=stored prog W a mv m:=by
     intro W a m;cases hm:h.more with
     |none=>
      rw[hm] at bB;have bB:mv=.nilFunc:=bB;rw[bB];exact QC _ _ _ _
     |some s=>
      rw[hm] at bB;obtain⟨f,caps,rfl,_,_⟩:=XC.use bB;exact Vo _ _ _ _ _ _ _
    generalize Lq:h.first.length=nf at *;generalize IM:h.last.length=nl at *;have mQ:=zf w3 (.cells #[.slice fp nf fc,mv,.int .i64 h.least,.slice lp nl lc] 151 (0,0));have gR:=zk w3 (.cells #[.slice fp nf fc,mv,.int .i64 h.least,.slice lp nl lc] 151 (0,0));have dH:=zh (SD.below mQ);have nP:=zh (zi mQ eV.q);have DY:=zh (hv.below mQ);have MI:=zg fP mQ;generalize mw:w3.alloc (.cells #[.slice fp nf fc,mv,.int .i64 h.least,.slice lp nl lc] 151 (0,0))=w4 at *;have k0:w4.cell? ⟨w.heap.size+2,0,none⟩=some (.int .u8 y0):=zd nP.q 0;have k1:w4.cell? ⟨w.heap.size+2,1,none⟩=some (.string ⟨y1.toArray⟩):=zd nP.q 1;have k2:w4.cell? ⟨w.heap.size+2,2,none⟩=some (.int .i64 y2):=zd nP.q 2;have k3:w4.cell? ⟨w.heap.size+2,3,none⟩=some (.slice up n3 uc):=zd nP.q 3;have k4:w4.cell? ⟨w.heap.size+2,4,none⟩=some (.int .i64 y4):=zd nP.q 4;have heg2:=λW=>wy.q (#[.agg #[.int .u8 y0,.string ⟨y1.toArray⟩,.int .i64 y2,.slice up n3 uc,.int .i64 y4]] ++ caps) W
    have aL:=zh gR;have Dn:=zg ML MI;have cG:=zg rB MI;have TQ:KS w4 (.slice up n3 uc) y3:=by
     rw[<-rq.q];exact hK.q.below MI
    have HK4:=zh TQ;have Gy:=zh (WC.q w4 ⟨y0,y1,y2,y3,y4⟩ (.slice up n3 uc) Dn TQ tO);have Gz:=zh (λW (hb:Below w4.heap.size w4 W)=>zf7 ⟨y0,y1,y2,y3,y4⟩ (.slice up n3 uc) W (TQ.below hb) Ii (hG.later (zg cG hb)));have LA:=zh (λW (hb:Below w4.heap.size w4 W)=>zkm h _ n3 W (DY.q.below hb) (by rw[Lq];exact h1) (by rw[IM];exact h2) (by omega));have LC:=zh (λW (hb:Below w4.heap.size w4 W)=>zdn ⟨y0,y1,y2,y3,y4⟩ (.slice up n3 uc) F (.slice (some ⟨g,off,none⟩) l.length nc) iv zn l kv W (zi hb dH.q.f) ((hN.below cG).below hb) (TQ.below hb) (by simp only[rq.q];exact Nt) tS);clear ar hv hf hl bB SD fP mQ eV gR TQ hK WC;generalize vY ⟨y0,y1,y2,y3,y4⟩=b2 at *;generalize hft:h.fits n3=b3 at *;generalize xT l ⟨y0,y1,y2,y3,y4⟩=b4 at *;have TH:Hid (Calls prog fs (#[YH ⟨y0,y1,y2,y3,y4⟩ (.slice up n3 uc)] ++ caps) w4 (ue w4 (.bool (s.is y0)))):=Gy;clear Gy;generalize s.is y0=b1 at *
    gi_wp2_with fail
    refine (callsIn_wide.2 TH.q).mono ?_;rintro e w5 ⟨rfl,mt⟩;clear k0 k1 k2 k3 k4 TH;cases b1 with
    |false=>
     have dG:none=R:=cJ.q;subst dG;have bN:=zh (dH.q.below mt);have e2:=zd bN.q.r 0;have g2:=zj bN.q.r 0
     gi_wp2_with fail
     exact⟨.bool false,by simp[results,results99,go_sem,zd (zt bN.q.r 0 (.bool false))],bN.q.no⟩
    |true=>
    have k0:w5.cell? ⟨w.heap.size+2,0,none⟩=some (.int .u8 y0):=zd (zi mt nP.q) 0;have k1:w5.cell? ⟨w.heap.size+2,1,none⟩=some (.string ⟨y1.toArray⟩):=zd (zi mt nP.q) 1;have k2:w5.cell? ⟨w.heap.size+2,2,none⟩=some (.int .i64 y2):=zd (zi mt nP.q) 2;have k3:w5.cell? ⟨w.heap.size+2,3,none⟩=some (.slice up n3 uc):=zd (zi mt nP.q) 3;have k4:w5.cell? ⟨w.heap.size+2,4,none⟩=some (.int .i64 y4):=zd (zi mt nP.q) 4
    gi_wp2_with fail
    refine (callsIn_wide.2 (Gz.q _ mt)).mono ?_;rintro e w6 ⟨rfl,Tq⟩;have nR:=zg mt Tq;clear k0 k1 k2 k3 k4 Gz Tq mt;cases b2 with
    |false=>
     have dG:none=R:=cJ.q;subst dG;have bN:=zh (dH.q.below nR);have e2:=zd bN.q.r 0;have g2:=zj bN.q.r 0
     gi_wp2_with fail
     exact⟨.bool false,by simp[results,results99,go_sem,zd (zt bN.q.r 0 (.bool false))],bN.q.no⟩
    |true=>
    have k0:w6.cell? ⟨w.heap.size+2,0,none⟩=some (.int .u8 y0):=zd (zi nR nP.q) 0;have k1:w6.cell? ⟨w.heap.size+2,1,none⟩=some (.string ⟨y1.toArray⟩):=zd (zi nR nP.q) 1;have k2:w6.cell? ⟨w.heap.size+2,2,none⟩=some (.int .i64 y2):=zd (zi nR nP.q) 2;have k3:w6.cell? ⟨w.heap.size+2,3,none⟩=some (.slice up n3 uc):=zd (zi nR nP.q) 3;have k4:w6.cell? ⟨w.heap.size+2,4,none⟩=some (.int .i64 y4):=zd (zi nR nP.q) 4;have s0:w6.cell? ⟨w3.heap.size,0,none⟩=some (.slice fp nf fc):=zd (zi nR aL.q) 0;have s1:w6.cell? ⟨w3.heap.size,1,none⟩=some mv:=zd (zi nR aL.q) 1;have s2:w6.cell? ⟨w3.heap.size,2,none⟩=some (.int .i64 h.least):=zd (zi nR aL.q) 2;have s3:w6.cell? ⟨w3.heap.size,3,none⟩=some (.slice lp nl lc):=zd (zi nR aL.q) 3
    gi_wp2_with fail
    refine (callsIn_wide.2 (LA.q _ nR)).mono ?_;rintro e w7 ⟨rfl,Tr⟩;have rC:=zg nR Tr;clear k0 k1 k2 k3 k4 s0 s1 s2 s3 LA Tr nR;cases b3 with
    |false=>
     have dG:none=R:=cJ.q;subst dG;have bN:=zh (dH.q.below rC);have e2:=zd bN.q.r 0;have g2:=zj bN.q.r 0
     gi_wp2_with fail
     exact⟨.bool false,by simp[results,results99,go_sem,zd (zt bN.q.r 0 (.bool false))],bN.q.no⟩
    |true=>
    have k0:w7.cell? ⟨w.heap.size+2,0,none⟩=some (.int .u8 y0):=zd (zi rC nP.q) 0;have k1:w7.cell? ⟨w.heap.size+2,1,none⟩=some (.string ⟨y1.toArray⟩):=zd (zi rC nP.q) 1;have k2:w7.cell? ⟨w.heap.size+2,2,none⟩=some (.int .i64 y2):=zd (zi rC nP.q) 2;have k3:w7.cell? ⟨w.heap.size+2,3,none⟩=some (.slice up n3 uc):=zd (zi rC nP.q) 3;have k4:w7.cell? ⟨w.heap.size+2,4,none⟩=some (.int .i64 y4):=zd (zi rC nP.q) 4;have p0:=zd (zi rC dH.q.p) 0
    gi_wp2_with fail
    refine (callsIn_wide.2 (LC.q _ rC)).mono ?_;rintro e w8 ⟨rfl,Ts⟩;have sK:=zg rC Ts;clear k0 k1 k2 k3 k4 p0 LC Ts rC;cases b4 with
    |false=>
     have dG:none=R:=cJ.q;subst dG;have bN:=zh (dH.q.below sK);have e2:=zd bN.q.r 0;have g2:=zj bN.q.r 0
     gi_wp2_with fail
     exact⟨.bool false,by simp[results,results99,go_sem,zd (zt bN.q.r 0 (.bool false))],bN.q.no⟩
    |true=>
    have dG:Yb (qX l f) h n3 y3.reverse ((zn:Int)-1)=R:=cJ.q;replace dG:=zh dG;clear cJ;have TL:=zi sK dH.q.f;have rP:¬(F=w.heap.size+2):=by omega
    have rX:¬(w.heap.size+2=F):=by omega
    have hne3:¬(F=w.heap.size):=by omega
    have MX:¬(w.heap.size=F):=by omega
    have k0:w8.cell? ⟨w.heap.size+2,0,none⟩=some (.int .u8 y0):=zd (zi sK nP.q) 0;have k1:w8.cell? ⟨w.heap.size+2,1,none⟩=some (.string ⟨y1.toArray⟩):=zd (zi sK nP.q) 1;have k2:w8.cell? ⟨w.heap.size+2,2,none⟩=some (.int .i64 y2):=zd (zi sK nP.q) 2;have k3:w8.cell? ⟨w.heap.size+2,3,none⟩=some (.slice up n3 uc):=zd (zi sK nP.q) 3;have k4:w8.cell? ⟨w.heap.size+2,4,none⟩=some (.int .i64 y4):=zd (zi sK nP.q) 4;have p0:w8.cell? ⟨w.heap.size,0,none⟩=some (.pointer (some ⟨F,0,none⟩)):=zd (zi sK dH.q.p) 0;have q0:w8.cell? ⟨F,2,none⟩=some (.int .i64 zn):=zd TL 2;have q1:=zj TL 2;have hwr:=pF ((zn:Int)-1) (by omega);have hF9:=zt TL 2 (.int .i64 ((zn:Int)-1));have cU:=znB w8 F 2 (.int .i64 ((zn:Int)-1));have k3':(w8.setCell ⟨F,2,none⟩ (.int .i64 ((zn:Int)-1))).cell? ⟨w.heap.size+2,3,none⟩=some (.slice up n3 uc):=by
     rw[zd (xI cU (zi sK nP.q) (by omega))];rfl
    clear k0 k1 k2 k3 k4
    gi_wp2_with fail
    refine (callsIn_wide.2 (zbG up n3 uc _)).mono ?_;rintro e nB ⟨rfl,rfl⟩;clear p0 q0 q1 k3'
    gi_wp2_with fail
    have BQ:Kx (qX l f) h n3 y3.reverse R F (.slice (some ⟨g,off,none⟩) l.length nc) iv w ((zn:Int)-1) #[.int .u8 y0,.string ⟨y1.toArray⟩,.int .i64 y2,.slice up n3 uc,.int .i64 y4] #[.slice fp nf fc,mv,.int .i64 h.least,.slice lp nl lc] w3.heap.size (.agg #[.slice fp nf fc,mv,.int .i64 h.least,.slice lp nl lc]) 0 [] (w8.setCell ⟨F,2,none⟩ (.int .i64 ((zn:Int)-1))):=by
     have FM:w3.heap.size≠F:=by
      have:=aL.q;have h3:=(gtA nP.q);have h4:=MI.size;intro e;have:=QZ (zi sK aL.q) TL (by decide);exact this e
     refine⟨(zn:Int)-1,⟨uo (dH.q.below sK).fr cU,hF9,xI cU (zi sK dH.q.p) (by omega),xI cU (zi sK dH.q.r) (by omega)⟩,xI cU (zi sK nP.q) (by omega),xI cU (zi sK aL.q) FM,(DY.q.below sK).gb TL cU,dG.q,by omega,by omega,pU _⟩
    have Gu:Below w0.heap.size w0 (w8.setCell ⟨F,2,none⟩ (.int .i64 ((zn:Int)-1))):=KU cU (zg cG sK) BM;have Bl:w.heap.size<=(w8.setCell ⟨F,2,none⟩ (.int .i64 ((zn:Int)-1))).heap.size:=by
     obtain⟨nx,hw,_⟩:=BQ;exact hw.fr.size
    have hs92:w.heap.size+2<w8.heap.size:=(Array.getElem?_eq_some_iff.1 (zi sK nP.q)).1;have Ew:(w8.setCell ⟨F,2,none⟩ (.int .i64 ((zn:Int)-1))).heap.size=w8.heap.size:=by simp
    generalize w8.setCell ⟨F,2,none⟩ (.int .i64 ((zn:Int)-1))=w9 at *;generalize rI:(Act.mk _ [])=a0;generalize df:w9.alloc (.cells #[.slice up n3 uc] 24 (0,0))=nB;have nX:nB.heap.size=w9.heap.size+1:=by rw[<-df];simp
    have nh:Below w9.heap.size w9 nB:=by rw[<-df];exact zf _ _
    have hC:nB.heap[w8.heap.size]? =some (.cells #[.slice up y3.length uc] 24 (0,0)):=by rw[<-Ew,<-df,rq.q];exact zk _ _
    have PQ:Below w0.heap.size w0 nB:=zg Gu nh;have Gk:=Gu.size;have BO:Kx (qX l f) h n3 y3.reverse R F (.slice (some ⟨g,off,none⟩) l.length nc) iv w ((zn:Int)-1) #[.int .u8 y0,.string ⟨y1.toArray⟩,.int .i64 y2,.slice up n3 uc,.int .i64 y4] #[.slice fp nf fc,mv,.int .i64 h.least,.slice lp nl lc] w3.heap.size (.agg #[.slice fp nf fc,mv,.int .i64 h.least,.slice lp nl lc]) nB.heap.size [] nB:=by
     obtain⟨nx,j1,j2,j3,j4,j5,j6,j7,_⟩:=BQ;exact⟨nx,j1.below nh,zi nh j2,zi nh j3,j4.below nh,j5,j6,j7,pC _⟩
    have hFC:w9.heap.size≠F:=by
     obtain⟨nx,j1,_⟩:=BQ;have:=(gtA j1.f);omega
    clear BQ;refine ZE (e1:=λx:Int×Int=>.int .i64 x.1) (e2:=λx=>.int .i64 x.2) (gf:=144) (la:= #[]) (lb:= #[.pointer (some ⟨w8.heap.size,0,none⟩)]) rfl (by omega) (by rw[<-rI];rfl) trivial (enters_of func144 (by kernel_rfl) rfl)
     (zbF w0 w8.heap.size (.slice up y3.length uc) y3 GQ.q (by rw[rq.q];exact Nt) nB PQ hC _ (by omega)) (λr h=>h.elim) Ji.trans (λW l o o' hl ho hc=>Ji.put (w:=nB) (by omega) W l o o' hl ho hc)
     (Kx (qX l f) h n3 y3.reverse R F (.slice (some ⟨g,off,none⟩) l.length nc) iv w ((zn:Int)-1) #[.int .u8 y0,.string ⟨y1.toArray⟩,.int .i64 y2,.slice up n3 uc,.int .i64 y4] #[.slice fp nf fc,mv,.int .i64 h.least,.slice lp nl lc] w3.heap.size (.agg #[.slice fp nf fc,mv,.int .i64 h.least,.slice lp nl lc]) nB.heap.size)
     (λc _ W=>zcW R F w nB.heap.size c W) (Kx.own (by omega)) (λc=>zcW.own (by omega) c) BO
     (λpre x a' W=>Kx (qX l f) h n3 y3.reverse R F (.slice (some ⟨g,off,none⟩) l.length nc) iv w ((zn:Int)-1) #[.int .u8 y0,.string ⟨y1.toArray⟩,.int .i64 y2,.slice up n3 uc,.int .i64 y4] #[.slice fp nf fc,mv,.int .i64 h.least,.slice lp nl lc] w3.heap.size (.agg #[.slice fp nf fc,mv,.int .i64 h.least,.slice lp nl lc]) nB.heap.size pre W/\a'={tmps:=(((a0.tmps.setIfInBounds 76 (.int .i64 x.1)).setIfInBounds 77 (.int .i64 x.2)).setIfInBounds 10 (.int .i64 x.1)).setIfInBounds 11 (.int .i64 x.2),defers:=[]})
     (λpre x a' W l2 o o' ⟨j1,j2⟩ hl ho hc=>⟨Kx.own (B:=nB.heap.size) (by omega) pre W _ (some l2) j1 (grownBy_putObj' W l2 o') (λr e=>by cases e;exact .inr ⟨hl,o,ho,hc⟩),j2⟩) ?assign ?body ?done ?stop
    case assign=>
     rintro L pre ⟨xi,xk⟩ W K hI hG gw;subst rI;simp only[yh,yf,yg]
     gi_wp2_with fail
     exact gw _ _ (KeepsOthers.refl _) (Ji.refl _ _ _ _ _) ⟨hI,by simp only[yh,yf,yg]⟩
    case body=>
     rintro L pre ⟨xi,xk⟩ a' W ⟨hI,rfl⟩ ⟨aI,bj⟩;subst rI;simp only[yh,yf,yg];obtain⟨nx,hw,gI,AD,AO,SM,Hj,cg,AB⟩:=hI;obtain⟨k,hk⟩:=exE (n3-1-pre.length);simp only[rq.q] at aI bj;rw[hk] at bj;obtain⟨rfl,rfl⟩:xi=(k:Int)/\xk=y3.getD k 0:=by
      have h1:=congrArg Prod.fst bj;have h2:=congrArg Prod.snd bj;simp only at h1 h2;exact⟨by omega,h2⟩
     have sC:k<n3:=by omega
     have cQ:y3.reverse.drop pre.length=y3.getD k 0 :: y3.reverse.drop (pre.length+1):=by
      rw[List.drop_eq_getElem_cons (by rw[gC,rq.q];exact aI),List.getElem_reverse];congr 1;rw[pA,glE (by rw[rq.q];exact sC)];simp only[rq.q,hk];rfl
     obtain⟨s1,bh⟩:=zma hft sC;have bT:(qX l f nx (y3.getD k 0) s1).bind (Yb (qX l f) h n3 (y3.reverse.drop (pre.length+1)))=R:=by
      rw[<-SM,cQ];unfold Yb;rw[show (y3.reverse.drop (pre.length+1)).length=k by rw[wT,gC,rq.q];omega,bh]
     generalize y3.getD k 0=z at *;have HFK:=zh bT;clear SM bT cQ bj;have Rw:Below w0.heap.size w0 W:=KU hw.fr Rv BM;have NR:(znO F).rel W W.drew:=Zl bR.drew _;have HW:=zh hw;have HNB:=zh gI;have HSO:=zh AD;have HVW:=zh AO;have gP:w3.heap.size≠F:=QZ AD hw.f (by decide);have hS:∀V,(znO F).rel W.drew V->V.cell? ⟨w.heap.size,0,none⟩=some (.pointer (some ⟨F,0,none⟩))/\V.cell? ⟨w.heap.size+2,3,none⟩=some (.slice up n3 uc)/\V.cell? ⟨w3.heap.size,0,none⟩=some (.slice fp nf fc)/\V.cell? ⟨w3.heap.size,1,none⟩=some mv/\V.cell? ⟨w3.heap.size,2,none⟩=some (.int .i64 h.least)/\V.cell? ⟨w3.heap.size,3,none⟩=some (.slice lp nl lc):=λV hV=>by
      have hg:=uo NR hV;exact⟨zd (xI hg HW.q.p (by omega)) 0,zd (xI hg HNB.q (by omega)) 3,zd (xI hg HSO.q gP) 0,zd (xI hg HSO.q gP) 1,zd (xI hg HSO.q gP) 2,zd (xI hg HSO.q gP) 3⟩
     have DH:=zh (znI h _ k n3 s1 W.drew (AO.below bR.drew) (by rw[Lq];exact h1) (by rw[IM];exact h2) (by omega) sC bh);have hdF:W.drew.heap[F]? =some (fmO (.slice (some ⟨g,off,none⟩) l.length nc) iv nx):=HW.q.f;clear hw gI AD AO
     gi_wp2_with fail
     refine LodeX.Kz (RR:=znO F) (Xp:=λ_ _=>False) [(0,1),(1,0),(2,1),(3,0),(4,0),(5,1),(6,0),(7,2),(8,2),(9,0)] (by kernel_rfl) (by kernel_rfl) (by kernel_rfl) (λ_ _ _ _ h=>h.elim) ?_;refine LodeX.xt ?_;clear hS;refine LodeX.yH rfl rfl (λK hK V hV=>?_);cases hV;go_simp;refine DH.q.mono ?_;rintro e V1 ⟨y,rfl,hy,mF⟩;have PX:=zh (hIH.q nx z s1 y V1 (by omega) (by omega) Hj (zg (zg Rw bR.drew) mF) (zi mF hdF) hy);have hg1:=uo NR (Zl mF (some F));go_simp;refine⟨Zl mF _,hK _ _ ?_⟩;clear hK K
     try simp only[Act.put,yh,yf,yg]
     refine LodeX.yH rfl rfl (λK hK V hV=>?_);cases hV;go_simp;refine PX.q.mono ?_;rintro e V2 ⟨cT,eX⟩;have tD:=uo hg1 cT;have Py:KeepsOthers W V2:=KeepsOthers.of_grownBy tD (λj o e ho=>by
      cases e;have hf:=HW.q.f;rw[hf] at ho;cases ho;rfl)
     have bV:Ji w0 w8.heap.size 24 (.slice up y3.length uc) W V2:=⟨zhn tD Rw.size BM,λe=>xI tD e (by omega)⟩;rcases eX with⟨n2,ho,rfl,TJ,RI,EZ⟩|⟨ho,rfl⟩
     ·have Pp:Yb (qX l f) h n3 (y3.reverse.drop (pre.length+1)) n2=R:=by
       have:=HFK.q;rw[ho] at this;exact this
      go_simp;refine⟨cT,hK _ _ ?_⟩;clear hK K
      try simp only[Act.put,yh,yf,yg]
      have hS:∀V:World,True->True:=λ_ h=>h
      refine LodeX.xt ?_;refine LodeX.zF λV hV=>?_
      cases hV
      gi_wp2_with fail
      exact⟨Py,bV,n2,⟨uo HW.q.fr tD,TJ,xI tD HW.q.p (by omega),xI tD HW.q.r (by omega)⟩,xI tD HNB.q (by omega),xI tD HSO.q gP,HVW.q.gb HW.q.f tD,by rw[pE,pI];exact Pp,RI,by omega,pN AB tD.size⟩
     ·have DT:R=none:=by
       have:=HFK.q;rw[ho] at this;exact this.symm
      subst DT;go_simp;refine⟨cT,hK _ _ ?_⟩;clear hK K
      try simp only[Act.put,yh,yf,yg]
      have hS:∀V:World,True->True:=λ_ h=>h
      refine LodeX.xt ?_;refine LodeX.zF λV hV=>?_
      cases hV;have mO:=xI tD HW.q.r (by omega);have e2:=zd mO 0;have g2:=zj mO 0;have Ep:=zh mO;clear mO
      gi_wp2_with fail
      exact⟨Py.trans (KeepsOthers.setCell _ _ _),rfl,rfl,zkj (uo HW.q.fr tD) (by simp) _,zt Ep.q 0 (.bool false),by simpa using pN AB tD.size⟩
    case done=>
     intro Dd xs W hS hI PT pi;obtain⟨nx,hw,gI,AD,AO,SM,Hj,cg,AB⟩:=hI;subst rI;have bT:some nx=R:=by
      rw[hS,List.drop_eq_nil_of_le (by simp)] at SM;exact SM
     subst bT;have tr:=zd hw.r 0;have fr:=zj hw.r 0;have HWW:=zh hw;clear hw gI AD AO SM GQ aL nP dH DY
     gi_wp2_with fail
     refine⟨by simp,.inl ⟨_,_,rfl,run_takeDeferred ((zv (by omega)).trans pi),?_⟩⟩;have u0:=zd (kh (l:=Dd) (o':=.deferred none) (zt HWW.q.r 0 (.bool true)) (by omega)) 0;refine⟨.bool true,by simp[results,results99,go_sem,u0],?_⟩;refine⟨zcH (zkj HWW.q.fr (by simp) _) (B:=nB.heap.size) (by omega) (grownBy_putObj' _ Dd _) (λr e=>by cases e;exact PT),.inl ⟨nx,rfl,rfl,(World.putObj_heap_other (by omega)).trans ((zv (by omega)).trans HWW.q.f),Hj,by omega⟩⟩
    case stop=>
     rintro Dd c pre W _ ⟨rfl,rfl,hgs,Et,AB⟩ PT pi;subst rI
     gi_wp2_with fail
     refine⟨by simp,.inl ⟨_,_,rfl,run_takeDeferred pi,?_⟩⟩;have u0:=zd (kh (l:=Dd) (o':=.deferred none) Et (by omega)) 0;refine⟨.bool false,by simp[results,results99,go_sem,u0],?_⟩;exact⟨zcH hgs (B:=nB.heap.size) (by omega) (grownBy_putObj' _ Dd _) (λr e=>by cases e;exact PT),.inr ⟨rfl,rfl⟩⟩
   ·have cJ:R=none:=by
     rw[<-ar.q];simp only[bG]
    subst cJ;have e2:=zd (zi (zf w3 (.cells #[.slice none 0 0,.nilFunc,.int .i64 0,.slice none 0 0] 151 (0,0))) SD.r) 0;have g2:=zj (zi (zf w3 (.cells #[.slice none 0 0,.nilFunc,.int .i64 0,.slice none 0 0] 151 (0,0))) SD.r) 0;have dH:=zh (SD.below (zf w3 (.cells #[.slice none 0 0,.nilFunc,.int .i64 0,.slice none 0 0] 151 (0,0))));clear ar bG SD
    gi_wp2_with fail
    exact⟨.bool false,by simp[results,results99,go_sem,zd (zt dH.q.r 0 (.bool false))],dH.q.no⟩
end
section
open Go.RowKit Lode Go.Shelf
attribute [local go_sem] Oper.semAt_some
open Go.Proofs.Tryz
def Kw(l:List Nd)(rk:List Int)(R:Option Int)(nv iv:Value)(w:World)(B:Nat)(pre:List (Int×Int))(W:World):Prop:=
 ∃nx,W.heap[w.heap.size+1+1]? =some (fmO nv iv nx)/\W.heap[w.heap.size+1+1+1]? =some (Kr (w.heap.size+1+1))/\W.heap[w.heap.size+1]? =some (.cells #[.bool false] 4 (0,0))/\Xe l (rk.drop pre.length) nx=R/\-1<=nx/\nx<l.length/\Below w.heap.size w W/\B<=W.heap.size
def zcU(R:Option Int)(w:World)(B:Nat)(c:Code)(W:World):Prop:=c=.ret/\R=none/\W.heap[w.heap.size+1]? =some (.cells #[.bool false] 4 (0,0))/\Below w.heap.size w W/\B<=W.heap.size
def Kw.own(hB:w.heap.size<=B):XF (λ_=>False) B (Kw l rk R nv iv w B):=by
 rintro pre W W' row ⟨nx,h2,h3,h4,h5,h6,h7,h8,h9⟩ hg hr;have sH:∀r,row=some r->B<=r:=λr e=>(hr r e).elim False.elim And.left
 have mO:∀r,row=some r->∃o:Obj,W.heap[r]? =some o/\o.isCells=false:=λr e=>(hr r e).elim False.elim And.right
 exact⟨nx,xG hg mO h2,xG hg mO h3,xG hg mO h4,h5,h6,h7,h8.grown hg h8.size (λr e=>pN hB (sH r e)),pN h9 hg.size⟩
def zcU.own(hB:w.heap.size<=B)(c:Code):XF (λ_=>False) B (λ(_:List (Int×Int)) W=>zcU R w B c W):=by
 rintro pre W W' row ⟨h1,h2,h4,h8,h9⟩ hg hr;have sH:∀r,row=some r->B<=r:=λr e=>(hr r e).elim False.elim And.left
 have mO:∀r,row=some r->∃o:Obj,W.heap[r]? =some o/\o.isCells=false:=λr e=>(hr r e).elim False.elim And.right
 exact⟨h1,h2,xG hg mO h4,h8.grown hg h8.size (λr e=>pN hB (sH r e)),pN h9 hg.size⟩
def zeg(t:yJ)(nv iv:Value)(w:World)(hT:TR w nv iv t)(hG:jQ w)(tS:∀x∈t.nz,x.kind<=255)(ey:∀x∈t.nz,x.text.length<=1000000000000)(mf:∀x∈t.nz,x.kz.length<=100000)(BZ:t.nz.length<=100000)(sT:t.iz.length<=100000):
 Calls prog 51 #[.agg #[nv,iv]] w (ue w (.bool (jN t))):=by
 obtain⟨np,nc,ip,ic,rfl,rfl⟩:=hT.form;obtain⟨kv,hN⟩:=hT.nz;have hI:=hT.iz;obtain⟨l,its⟩:=t;unfold jN;simp only at hN hI tS ey mf BZ sT ⊢;obtain⟨R,hR⟩:=exE (Xe l its.reverse ((l.length:Int)-1));rw[hR];have DR:=zh (ziz l kv (.slice np l.length nc) (.slice ip its.length ic) w (w.heap.size+1+1) hN hG (by omega) tS ey mf BZ);obtain⟨m,hm⟩:=exE (l.length);obtain⟨q,hq⟩:=exE (its.length);have hwr:=pF ((m:Int)-1) (by omega);rw[hm] at hR BZ DR ⊢;rw[hq] at sT DR ⊢;have bz:=zh hm;have Nl:=zh hq;have hI':=zh hI;have hR':=zh hR;have fX:∀f,Fence.wide.fn f=True:=λ_=>rfl
 clear hT hN hm hq hI hR hG tS ey mf;have mK:Kw l its.reverse R (.slice np m nc) (.slice ip q ic) w 0 [] ((((w.alloc (.cells #[.slice np m nc,.slice ip q ic] 26 (0,0))).alloc (.cells #[.bool false] 4 (0,0))).alloc (fmO (.slice np m nc) (.slice ip q ic) ((m:Int)-1))).alloc (Kr (w.heap.size+1+1))):=by
  have h0:=zV [.cells #[.slice np m nc,.slice ip q ic] 26 (0,0),.cells #[.bool false] 4 (0,0),fmO (.slice np m nc) (.slice ip q ic) ((m:Int)-1),Kr (w.heap.size+1+1)] w;exact⟨(m:Int)-1,h0 2 _ rfl,h0 3 _ rfl,h0 1 _ rfl,hR'.q,by omega,by rw[bz.q];omega,yw [.cells #[.slice np m nc,.slice ip q ic] 26 (0,0),.cells #[.bool false] 4 (0,0),fmO (.slice np m nc) (.slice ip q ic) ((m:Int)-1),Kr (w.heap.size+1+1)] w,pU _⟩
 replace mK:=zh mK;refine (callsIn_wide (n:=5)).1 ?_;refine callsIn_of_wp_marks func51 rfl trivial ?_ rfl;simp only[ntmps51,List.size_toArray,pH,pM,Nat.reduceAdd,Nat.reduceSub,Array.replicate_succ,Array.replicate_zero,List.push_toArray,List.append_toArray,pV,pQ]
 gi_wp2_with fail
 refine (callsIn_wide.2 (zbG ip q ic _)).mono ?_;rintro e nB ⟨rfl,rfl⟩
 gi_wp2_with fail
 have Bl:((((w.alloc (.cells #[.slice np m nc,.slice ip q ic] 26 (0,0))).alloc (.cells #[.bool false] 4 (0,0))).alloc (fmO (.slice np m nc) (.slice ip q ic) ((m:Int)-1))).alloc (Kr (w.heap.size+1+1))).heap.size=w.heap.size+1+1+1+1:=by simp
 generalize Rc:((((w.alloc (.cells #[.slice np m nc,.slice ip q ic] 26 (0,0))).alloc (.cells #[.bool false] 4 (0,0))).alloc (fmO (.slice np m nc) (.slice ip q ic) ((m:Int)-1))).alloc (Kr (w.heap.size+1+1)))=w9 at *;generalize rI:(Act.mk _ [])=a0;generalize df:w9.alloc (.cells #[.slice ip q ic] 24 (0,0))=nB;have nX:nB.heap.size=w.heap.size+1+1+1+1+1:=by rw[<-df];simp;omega
 have nh:Below w9.heap.size w9 nB:=by rw[<-df];exact zf _ _
 have hC:nB.heap[w.heap.size+1+1+1+1]? =some (.cells #[.slice ip its.length ic] 24 (0,0)):=by rw[<-Bl,<-df,Nl.q];exact zk _ _
 have BO:Kw l its.reverse R (.slice np m nc) (.slice ip q ic) w nB.heap.size [] nB:=by
  obtain⟨nx,j1,j2,j3,j4,j5,j6,j7,_⟩:=mK.q;exact⟨nx,zi nh j1,zi nh j2,zi nh j3,j4,j5,j6,zg j7 nh,pC _⟩
 have PQ:Below w.heap.size w nB:=by
  obtain⟨nx,j1,j2,j3,j4,j5,j6,j7,_⟩:=BO;exact j7
 refine ZE (e1:=λx:Int×Int=>.int .i64 x.1) (e2:=λx=>.int .i64 x.2) (gf:=144) (la:= #[]) (lb:= #[.pointer (some ⟨w.heap.size+1+1+1+1,0,none⟩)]) rfl (by omega) (by rw[<-rI];rfl) trivial (enters_of func144 (by kernel_rfl) rfl)
  (zbF w (w.heap.size+1+1+1+1) (.slice ip its.length ic) its hI'.q (by rw[Nl.q];exact sT) nB PQ hC _ (by omega)) (λr h=>h.elim) Ji.trans (λW l o o' hl ho hc=>Ji.put (w:=nB) (by omega) W l o o' hl ho hc)
  (Kw l its.reverse R (.slice np m nc) (.slice ip q ic) w nB.heap.size)
  (λc _ W=>zcU R w nB.heap.size c W) (Kw.own (by omega)) (λc=>zcU.own (by omega) c) BO
  (λpre x a' W=>Kw l its.reverse R (.slice np m nc) (.slice ip q ic) w nB.heap.size pre W/\a'={tmps:=((a0.tmps.setIfInBounds 16 (.int .i64 x.1)).setIfInBounds 17 (.int .i64 x.2)).setIfInBounds 5 (.int .i64 x.2),defers:=[]})
  (λpre x a' W l2 o o' ⟨j1,j2⟩ hl ho hc=>⟨Kw.own (B:=nB.heap.size) (by omega) pre W _ (some l2) j1 (grownBy_putObj' W l2 o') (λr e=>by cases e;exact .inr ⟨hl,o,ho,hc⟩),j2⟩) ?assign ?body ?done ?stop
 case assign=>
  rintro L pre ⟨xi,xk⟩ W K hI hG gw;subst rI;simp only[yh,yf,yg]
  gi_wp2_with fail
  exact gw _ _ (KeepsOthers.refl _) (Ji.refl _ _ _ _ _) ⟨hI,by simp only[yh,yf,yg]⟩
 case body=>
  rintro L pre ⟨xi,xk⟩ a' W ⟨hI,rfl⟩ ⟨aI,bj⟩;subst rI;simp only[yh,yf,yg];obtain⟨nx,h1,h2,h3,h4,h5,h6,h7,h8⟩:=hI;obtain⟨k,hk⟩:=exE (q-1-pre.length);simp only[Nl.q] at aI bj;rw[hk] at bj;obtain⟨rfl,rfl⟩:xi=(q:Int)-1-pre.length/\xk=its.getD k 0:=by
   have e1:=congrArg Prod.fst bj;have e2:=congrArg Prod.snd bj;simp only at e1 e2;exact⟨e1,e2⟩
  have sC:k<q:=by omega
  have cQ:its.reverse.drop pre.length=its.getD k 0 :: its.reverse.drop (pre.length+1):=by
   rw[List.drop_eq_getElem_cons (by rw[gC,Nl.q];exact aI),List.getElem_reverse];congr 1;rw[pA,glE (by rw[Nl.q];exact sC)];simp only[Nl.q,hk];rfl
  have bT:(qX l (l.length+1) nx (its.getD k 0) .item).bind (Xe l (its.reverse.drop (pre.length+1)))=R:=by
   rw[<-h4,cQ];rfl
  generalize its.getD k 0=z at *;have HFK:=zh bT;have cI:=zh (DR.q (l.length+1) nx z .item (.func (.func 100) #[] #[]) W (by omega) (by rw[<-bz.q];exact h6) h5 h7 h1 (zlh W));have c0:=zd h2 0;have H1:=zh h1;have H2:=zh h2;have H3:=zh h3;clear h1 h2 h3 h4 bT cQ bj
  gi_wp2_with fail
  refine (LodeX.Qr cI.q).mono ?_;rintro e V2 ⟨cT,eX⟩;clear c0;have Py:KeepsOthers W V2:=KeepsOthers.of_grownBy cT (λj o e ho=>by
   cases e;have hf:=H1.q;rw[hf] at ho;cases ho;rfl)
  have bV:Ji w (w.heap.size+1+1+1+1) 24 (.slice ip its.length ic) W V2:=⟨zhn cT h7.size (by omega),λe=>xI cT e (by omega)⟩;have mM:=KU cT h7 (by omega);have RN:=xI cT H2.q (by omega);have mO:=xI cT H3.q (by omega);rcases eX with⟨n2,ho,rfl,TJ,RI,EZ⟩|⟨ho,rfl⟩
  ·have Pp:Xe l (its.reverse.drop (pre.length+1)) n2=R:=by
    have:=HFK.q;rw[ho] at this;exact this
   gi_wp2_with fail
   exact⟨Py,bV,n2,TJ,RN,mO,by rw[pE,pI];exact Pp,RI,by omega,mM,pN h8 cT.size⟩
  ·have DT:R=none:=by
    have:=HFK.q;rw[ho] at this;exact this.symm
   subst DT;have c2:=zd mO 0;have f2:=zj mO 0;have CQ:=zh mO;clear RN mO
   gi_wp2_with fail
   exact⟨Py.trans (KeepsOthers.setCell _ _ _),rfl,rfl,zt CQ.q 0 (.bool false),mM.setCell (by simp) _,by simpa using pN h8 cT.size⟩
 case done=>
  intro Dd xs W hS hI PT pi;obtain⟨nx,h1,h2,h3,h4,h5,h6,h7,h8⟩:=hI;subst rI;have bT:some nx=R:=by
   rw[hS,List.drop_eq_nil_of_le (by simp)] at h4;exact h4
  subst bT;have c0:=zd h2 0;have c1:=zd h1 2;have c2:=zd h3 0;have f2:=zj h3 0;have H3:=zh h3;clear h1 h2 h3 h4
  gi_wp2_with fail
  refine⟨by simp,.inl ⟨_,_,rfl,run_takeDeferred ((zv (by omega)).trans pi),?_⟩⟩;have u0:=zd (kh (l:=Dd) (o':=.deferred none) (zt H3.q 0 (.bool (decide (nx<0)))) (by omega)) 0;refine⟨.bool (decide (nx<0)),by simp[results,results51,go_sem,u0],rfl,?_⟩;exact (h7.setCell (by simp) _).grown (grownBy_putObj' _ Dd _) (by simpa using h7.size) (λr e=>by cases e;omega)
 case stop=>
  rintro Dd c pre W _ ⟨rfl,rfl,Et,mL,AB⟩ PT pi;subst rI
  gi_wp2_with fail
  refine⟨by simp,.inl ⟨_,_,rfl,run_takeDeferred pi,?_⟩⟩;have u0:=zd (kh (l:=Dd) (o':=.deferred none) Et (by omega)) 0;refine⟨.bool false,by simp[results,results51,go_sem,u0],rfl,?_⟩;exact mL.grown (grownBy_putObj' _ Dd _) mL.size (λr e=>by cases e;omega)
end
section
open Go.RowKit Lode Go.Shelf
attribute [local go_sem ↓] wp_at_zero wp_at_succ
open Go.Proofs.Tryz
def zgm(v:Value)(f:Nat)(lb:Array Value)(l:List Nd)(kv:List Value)(p:Nd->Bool)(w:World)(rZ:Enters prog f)(hN:NS w v l kv)(hn:l.length<=100000)(hp:∀W (x:Nd) (u:Value),Below w.heap.size w W->x∈l->KS W u x.kz->Calls prog f (#[YH x u] ++ lb) W (ue W (.bool (p x)))):
 Calls prog 52 #[v,.func (.func f) #[] lb] w (ue w (.bool (l.any p))):=by
 have hI:=zh (Yo v f lb l kv p w rZ hN hn hp);have he:=zcB p l;rw[<-he];clear he hp rZ;obtain⟨q,c,rfl⟩:=hN.form;clear hN;generalize Qv p l=z at *;generalize l.length=n at *;go_enter func52,ntmps52;go_wp2_with fail;refine hI.q.mono ?_;rintro e w1 ⟨rfl,hb⟩;go_wp2;go_ret;exact⟨rfl,hb⟩
def zgl(x:Nd)(u:Value)(w:World)(hk:KS w u x.kz):Calls prog 53 #[YH x u] w (ue w (.bool (!xE x))):=by
 have hS:=λW (hb:Below w.heap.size w W)=>Kq x u W (hk.below hb)
 obtain⟨p,c,rfl⟩:=hk.form;clear hk;generalize xE x=b at *;obtain⟨k,t,n,ks,a⟩:=x;simp only[YH] at hS ⊢;generalize ks.length=m at *;have hz:=zk w (.cells #[.int .u8 k,.string ⟨t.toArray⟩,.int .i64 n,.slice p m c,.int .i64 a] 60 (0,0));have hA:=zf w (.cells #[.int .u8 k,.string ⟨t.toArray⟩,.int .i64 n,.slice p m c,.int .i64 a] 60 (0,0));have c0:=zd hz 0;have c1:=zd hz 1;have c2:=zd hz 2;have c3:=zd hz 3;have c4:=zd hz 4;clear hz;replace hS:=zh hS;go_enter func53,ntmps53;go_wp2_with fail;refine (hS.q _ hA).mono ?_;rintro e w1 ⟨rfl,hb⟩;go_wp2;go_ret;exact⟨rfl,zg hA hb⟩
structure Qt(t:yJ):Prop where
 kind:∀x∈t.nz,x.kind<=255
 text:∀x∈t.nz,x.text.length<=1000000000000
 kz:∀x∈t.nz,x.kz.length<=1999
 nz:t.nz.length<=100000
 iz:t.iz.length<=100000
def Qo(h:Qt t)(hf:jN t=true):(∀(i:Nat) (x:Nd),t.nz[i]? =some x->∀k∈x.kz,0<=k/\k<(i:Int))/\∀k∈t.iz,0<=k/\k<(t.nz.length:Int):=by
 rw[zcK t h.kz] at hf;obtain⟨hF,hI,hR⟩:=Xz hf;refine⟨λi x hx k hk=>?_,λk hk=>?_⟩
 ·obtain⟨hi,rfl⟩:=List.getElem?_eq_some_iff.1 hx;exact kN hF hi k hk
 ·have:=zcD _ _ _ _ hI k (wY.2 hk);omega
def XD(t:yJ)(nv iv:Value)(w:World)(hT:TR w nv iv t)(hG:jQ w)(nW:Qt t):Calls prog 16 #[.agg #[nv,iv]] w (ue w (.int .i64 (yU t:Nat))):=by
 obtain⟨r,hr⟩:=exE (yU t);rw[hr];unfold yU at hr;obtain⟨np,nc,ip,ic,rfl,rfl⟩:=hT.form;obtain⟨n,hn⟩:=exE (t.nz.length);obtain⟨m,hm⟩:=exE (t.iz.length);rw[hn,hm] at hr hT ⊢;have hz:=zk w (.cells #[.slice np n nc,.slice ip m ic] 26 (0,0));have hA:=zf w (.cells #[.slice np n nc,.slice ip m ic] 26 (0,0));have hF:=zh (λW (hb:Below w.heap.size w W)=>zeg t _ _ W (hT.below hb) (hG.later hb) nW.kind nW.text (λx hx=>by have:=nW.kz x hx;omega) nW.nz nW.iz);have hD:=zh (λ(hf:jN t=true) (aT:t.nz.length<=1000) W (hb:Below w.heap.size w W)=>Ks t _ _ W (hT.below hb) (Qo nW hf).1 (Qo nW hf).2 aT nW.iz (λx hx=>by have:=nW.kz x hx;omega));have hS:=zh (λW (hb:Below w.heap.size w W)=>zgm (.slice np n nc) 53 #[] t.nz (hT.below hb).nz.choose (λx=> !xE x) W (enters_of (P:=prog) func53 (by kernel_rfl) rfl) (hT.below hb).nz.choose_spec nW.nz (λV x u _ _ hk=>by rw[Array.append_empty];exact zgl x u V hk));have rY:∀W,Below (w.alloc (.cells #[.slice np n nc,.slice ip m ic] 26 (0,0))).heap.size (w.alloc (.cells #[.slice np n nc,.slice ip m ic] 26 (0,0))) W->W.cell? ⟨w.heap.size,0,none⟩=some (.slice np n nc)/\W.cell? ⟨w.heap.size,1,none⟩=some (.slice ip m ic):=λW hb=>⟨zd (zi hb hz) 0,zd (zi hb hz) 1⟩
 replace hn:=zh hn;replace hr:=zh hr;obtain⟨c0,c1⟩:=rY _ bR;clear hT hG hz;replace rY:=zh rY;by_cases ap:1000<n
 ·have sa:(1000:Int)<(n:Int):=by omega
  have mS:5=r:=by rw[<-hr.q,if_pos (.inl ap)]
  subst mS;go_enter func16,ntmps16;go_wp2;go_ret;exact⟨rfl,hA⟩
 by_cases TE:40<m
 ·have sa:¬((1000:Int)<(n:Int)):=by omega
  have Ru:(40:Int)<(m:Int):=by omega
  have mS:5=r:=by rw[<-hr.q,if_pos (.inr TE)]
  subst mS;go_enter func16,ntmps16;go_wp2;go_ret;exact⟨rfl,hA⟩
 have sa:¬((1000:Int)<(n:Int)):=by omega
 have Ru:¬((40:Int)<(m:Int)):=by omega
 have mO:=hr.q;rw[if_neg (by omega)] at mO;clear hr;go_enter func16,ntmps16;go_wp2_with fail;refine (hF.q _ hA).mono ?_;rintro e w2 ⟨rfl,mM⟩;have rB:=zg hA mM;clear c0 c1;obtain⟨c0,c1⟩:=rY.q _ mM;cases hf:jN t with
 |false=>
  rw[hf,if_pos (by rfl)] at mO;subst mO;go_wp2;go_ret;exact⟨rfl,rB⟩
 |true=>
  rw[hf,if_neg (by decide)] at mO;have NE:=zh (hD.q hf (by rw[hn.q];omega) w2 rB);go_wp2_with fail;refine NE.q.mono ?_;rintro e w3 ⟨rfl,mU⟩;have fP:=zg mM mU;have sf:=zg rB mU;clear c0 c1 NE hD;obtain⟨c0,c1⟩:=rY.q _ fP;generalize jO t=dp at *;by_cases dN:40<dp
  ·have WD:(40:Int)<(dp:Int):=by omega
   rw[if_pos dN] at mO;subst mO;go_wp2;go_ret;exact⟨rfl,sf⟩
  ·have WD:¬((40:Int)<(dp:Int)):=by omega
   rw[if_neg dN] at mO;have ME:=zh (hS.q w3 sf);generalize (t.nz.any λx=> !xE x)=b at *;go_wp2_with fail;refine ME.q.mono ?_;rintro e w4 ⟨rfl,mQ⟩;cases b with
   |true=>
    have mS:3=r:=mO;subst mS;go_wp2;go_ret;exact⟨rfl,zg sf mQ⟩
   |false=>
    have mS:0=r:=mO;subst mS;go_wp2;go_ret;exact⟨rfl,zg sf mQ⟩
def zgc(v:Value)(l:List Int)(z:Int)(w:World)(hK:KS w v l)(hn:l.length<=100000):Calls prog 157 #[v,.int .i64 z] w (ue w (.int .i64 (Qv (λk=>z == k) l))):=by
 obtain⟨q,c,rfl⟩:=hK.form;obtain⟨n,rg⟩:∃n,l.length=n:=⟨_,rfl⟩;rw[rg] at hn hK ⊢;replace hK:=zh hK;replace rg:=zh rg;go_enter func157,ntmps157;go_wp2;go_loopw [8] (zhB (λk=>z == k) l w) (λi _=>n-(intOf i).toNat)
 case atStart=>exact⟨0,rfl,pU _,λi y h=>absurd h (wF _),pG _ _⟩
 case round=>
  obtain⟨j,rfl,hj,rR,hb⟩:=hrel;replace rR:=zh rR;rw[rg.q] at hj;by_cases mD:j<n
  ·have me:(j:Int)<(n:Int):=by omega
   have hy:=pF ((j:Int)+1) (by omega);have py:j<l.length:=by rw[rg.q];omega
   have hx:l[j]? =some (l.getD j 0):=by rw[pA,glE py];rfl
   obtain⟨g,off,rfl,_,d0⟩:=(hK.q.below hb).at py;have HX:=zh (And.intro hx rR.q);clear hx rR;generalize l.getD j 0=y at *;by_cases Im:z=y
   ·subst Im;go_wp2;go_ret;refine⟨?_,hb⟩;rw[QV (λk=>z == k) l j _ HX.q.1 (by simp) HX.q.2];rfl
   ·have FU:(z == y)=false:=bfE Im
    go_wp2;go_roundw
    case rel=>
     refine⟨j+1,by simp,by rw[rg.q];omega,λi y hi cx=>?_,hb⟩;by_cases e:i=j
     ·subst e;rw[HX.q.1] at cx;cases cx;exact FU
     ·exact HX.q.2 i y (by omega) cx
    case measure=>simp[intOf];omega
  ·have me:¬((j:Int)<(n:Int)):=by omega
   go_wp2;go_ret;refine⟨?_,hb⟩;rw[Xd (λk=>z == k) l (λi y h=>rR.q i y (by have:=(gtL h);rw[rg.q] at this;omega) h)];rfl
def zcQ(l:List Int)(z:Int):(l.any λk=>z == k)=l.contains z:=by
 rw[pP,gF,List.contains_iff_mem];constructor
 ·rintro ⟨x,hx,e⟩;rw[pR] at e;rw[e];exact hx
 ·exact λh=>⟨z,h,by simp⟩
def ziE(v:Value)(l:List Int)(z:Int)(w:World)(hK:KS w v l)(hn:l.length<=100000):Calls prog 104 #[v,.int .i64 z] w (ue w (.bool (l.contains z))):=by
 have hI:=zh (zgc v l z w hK hn);have he:=zcB (λk=>z == k) l;rw[<-zcQ,<-he];clear he;obtain⟨q,c,rfl⟩:=hK.form;clear hK;generalize Qv (λk=>z == k) l=r at *;generalize l.length=n at *;go_enter func104,ntmps104;go_wp2_with fail;refine hI.q.mono ?_;rintro e w1 ⟨rfl,hb⟩;go_wp2;go_ret;exact⟨rfl,hb⟩
def zlc(x:Nd)(u:Value)(node:Int)(B:Nat)(w:World)(hB:w.heap[B]? =some (.cells #[.int .i64 node] 3 (0,0)))(hk:KS w u x.kz)(mf:x.kz.length<=100000):Calls prog 103 #[YH x u,.pointer (some ⟨B,0,none⟩)] w (ue w (.bool (x.kz.contains node))):=by
 obtain⟨p,c,rfl⟩:=hk.form;obtain⟨k,t,n,ks,a⟩:=x;simp only at hk mf ⊢;have hz:=zk w (.cells #[.int .u8 k,.string ⟨t.toArray⟩,.int .i64 n,.slice p ks.length c,.int .i64 a] 60 (0,0));have hA:=zf w (.cells #[.int .u8 k,.string ⟨t.toArray⟩,.int .i64 n,.slice p ks.length c,.int .i64 a] 60 (0,0));have hC:=zh (ziE _ ks node _ (hk.below hA) mf);have c3:=zd hz 3;have b0:=zd (zi hA hB) 0;clear hz hB hk;generalize ks.contains node=b at *;generalize ks.length=m at *;go_enter func103,ntmps103;go_wp2_with fail;refine hC.q.mono ?_;rintro e w1 ⟨rfl,hb⟩;go_wp2;go_ret;exact⟨rfl,zg hA hb⟩
def zi9(t:yJ)(nv iv:Value)(node:Int)(w:World)(hT:TR w nv iv t)(nW:Qt t):Calls prog 56 #[.agg #[nv,iv],.int .i64 node] w (ue w (.int .i64 (upT t node))):=by
 obtain⟨np,nc,ip,ic,rfl,rfl⟩:=hT.form;obtain⟨kv,hN⟩:=hT.nz;have MS:∀(fn:Fn) (first cap:Array Value) (w:World),(Instr.makeFunc fn first cap).run prog w=.ok (.func fn first cap) w:=λ_ _ _ _=>rfl
 have h0:=zV [.cells #[.slice np t.nz.length nc,.slice ip t.iz.length ic] 26 (0,0),.cells #[.int .i64 node] 3 (0,0)] w;have hA:Below w.heap.size w ((w.alloc (.cells #[.slice np t.nz.length nc,.slice ip t.iz.length ic] 26 (0,0))).alloc (.cells #[.int .i64 node] 3 (0,0))):=yw [.cells #[.slice np t.nz.length nc,.slice ip t.iz.length ic] 26 (0,0),.cells #[.int .i64 node] 3 (0,0)] w;have c0:=zd (h0 0 _ rfl) 0;have z1:((w.alloc (.cells #[.slice np t.nz.length nc,.slice ip t.iz.length ic] 26 (0,0))).alloc (.cells #[.int .i64 node] 3 (0,0))).heap[w.heap.size+1]? =some (.cells #[.int .i64 node] 3 (0,0)):=h0 1 _ rfl;have hI:=zh (Yo (.slice np t.nz.length nc) 103 #[.pointer (some ⟨w.heap.size+1,0,none⟩)] t.nz kv (λx=>x.kz.contains node) _ (enters_of (P:=prog) func103 (by kernel_rfl) rfl) (hN.below hA) nW.nz (λW x u hb hx hk=>zlc x u node _ W (zi hb z1) hk (by have:=nW.kz x hx;omega)));clear h0 z1 hT hN;unfold upT;generalize Qv (λx=>x.kz.contains node) t.nz=r at *;generalize t.nz.length=n at *;generalize t.iz.length=m at *;go_enter func56,ntmps56;go_wp2_with fail;refine hI.q.mono ?_;rintro e w1 ⟨rfl,hb⟩;go_wp2;go_ret;exact⟨rfl,zg hA hb⟩
def ziV(x:Nd)(u:Value)(at_:Int)(B:Nat)(w:World)(hB:w.heap[B]? =some (.cells #[.int .i64 at_] 3 (0,0)))(hk:KS w u x.kz):Calls prog 60 #[YH x u,.pointer (some ⟨B,0,none⟩)] w (ue w (.bool (x.at_ == at_))):=by
 obtain⟨p,c,rfl⟩:=hk.form;obtain⟨k,t,n,ks,a⟩:=x;simp only at hk ⊢;have hz:=zk w (.cells #[.int .u8 k,.string ⟨t.toArray⟩,.int .i64 n,.slice p ks.length c,.int .i64 a] 60 (0,0));have hA:=zf w (.cells #[.int .u8 k,.string ⟨t.toArray⟩,.int .i64 n,.slice p ks.length c,.int .i64 a] 60 (0,0));have c4:=zd hz 4;have b0:=zd (zi hA hB) 0;clear hz hB hk;generalize ks.length=m at *;go_enter func60,ntmps60;go_wp2;go_ret;exact⟨rfl,hA⟩
def RdI(w:World)(r:Int×Nat)(e:Ending)(w':World):Prop:=e=.returned (.tuple #[.int .i64 r.1,.int .i64 (r.2:Nat)])/\Below w.heap.size w w'
def zbz(t:yJ)(nv iv:Value)(node:Int)(f:Nat)(val:Int)(w:World)(hT:TR w nv iv t)(hG:jQ w)(nW:Qt t)(rZ:Enters prog f)(RK:∀W,Below w.heap.size w W->yU t=0->0<=node/\node<(t.nz.length:Int)->Calls prog f #[.agg #[nv,iv],.int .i64 node] W (ue W (.int .i64 val))):
 Calls prog 55 #[.agg #[nv,iv],.int .i64 node,.func (.func f) #[] #[]] w (RdI w (if yU t≠0 then (0,yU t) else if node<0\/(t.nz.length:Int)<=node then (0,7) else (val,0))):=by
 obtain⟨r,hr⟩:∃r:Int×Nat,(if yU t≠0 then (0,yU t) else if node<0\/(t.nz.length:Int)<=node then (0,7) else (val,0))=r:=⟨_,rfl⟩;rw[hr];obtain⟨np,nc,ip,ic,rfl,rfl⟩:=hT.form;obtain⟨n,hn⟩:=exE (t.nz.length);obtain⟨m,hm⟩:=exE (t.iz.length);rw[hn,hm] at RK hT ⊢;rw[hn] at hr;have hz:=zk w (.cells #[.slice np n nc,.slice ip m ic] 26 (0,0));have hA:=zf w (.cells #[.slice np n nc,.slice ip m ic] 26 (0,0));have hC:=zh (XD t _ _ _ (hT.below hA) (hG.later hA) nW);have wy:=λW=>rZ (#[.agg #[.slice np n nc,.slice ip m ic],.int .i64 node]) W
 have c0:=zd hz 0;have c1:=zd hz 1;have Nu:=zh hz;have RL:=zh RK;clear hT hG hz RK rZ;generalize yU t=ck at *;go_enter func55,ntmps55;go_wp2_with fail;refine hC.q.mono ?_;rintro e w2 ⟨rfl,mM⟩;have rB:=zg hA mM;clear c0 c1 hC;have c0:=zd (zi mM Nu.q) 0;have c1:=zd (zi mM Nu.q) 1;by_cases dr:ck=0
 ·subst dr;rw[if_neg (by simp)] at hr;by_cases h0:node<0
  ·rw[if_pos (.inl h0)] at hr;subst hr;go_wp2;go_ret2;exact⟨rfl,rB⟩
  ·by_cases h1:(n:Int)<=node
   ·rw[if_pos (.inr h1)] at hr;subst hr;go_wp2;go_ret2;exact⟨rfl,rB⟩
   ·rw[if_neg (by omega)] at hr;have hO:=zh (RL.q w2 rB rfl (by omega));subst hr;go_wp2_with fail;refine hO.q.mono ?_;rintro e w3 ⟨rfl,mU⟩;go_wp2;go_ret2;exact⟨rfl,zg rB mU⟩
 ·have Pj:((ck:Int) == 0)=false:=bfE (by omega)
  rw[if_pos dr] at hr;subst hr;go_wp2;go_ret2;exact⟨rfl,rB⟩
def zgq(t:yJ)(nv iv:Value)(node:Int)(w:World)(hT:TR w nv iv t)(hG:jQ w)(nW:Qt t):Calls prog 18 #[.agg #[nv,iv],.int .i64 node] w (RdI w (zck t node)):=by
 obtain⟨np,nc,ip,ic,rfl,rfl⟩:=hT.form;have hz:=zk w (.cells #[.slice np t.nz.length nc,.slice ip t.iz.length ic] 26 (0,0));have hA:=zf w (.cells #[.slice np t.nz.length nc,.slice ip t.iz.length ic] 26 (0,0));have hF:=zh (zbz t _ _ node 56 (upT t node) _ (hT.below hA) (hG.later hA) nW (enters_of (P:=prog) func56 (by kernel_rfl) rfl) (λW hb _ _=>zi9 t _ _ node W ((hT.below hA).below hb) nW));have c0:=zd hz 0;have c1:=zd hz 1;unfold zck zby;clear hT hG hz;generalize (if yU t≠0 then ((0:Int),yU t) else if node<0\/(t.nz.length:Int)<=node then (0,7) else (upT t node,0))=r at *;generalize t.nz.length=n at *;generalize t.iz.length=m at *;obtain⟨r1,r2⟩:=r;go_enter func18,ntmps18;go_wp2_with fail;refine hF.q.mono ?_;rintro e w2 ⟨rfl,mM⟩;go_wp2;go_ret2;exact⟨rfl,zg hA mM⟩
def zkS(t:yJ)(nv iv:Value)(at_:Int)(w:World)(hT:TR w nv iv t)(hG:jQ w)(nW:Qt t):Calls prog 21 #[.agg #[nv,iv],.int .i64 at_] w (RdI w (zcL t at_)):=by
 obtain⟨r,hr⟩:=exE (zcL t at_);rw[hr];unfold zcL at hr;obtain⟨np,nc,ip,ic,rfl,rfl⟩:=hT.form;obtain⟨kv,hN⟩:=hT.nz;have MS:∀(fn:Fn) (first cap:Array Value) (w:World),(Instr.makeFunc fn first cap).run prog w=.ok (.func fn first cap) w:=λ_ _ _ _=>rfl
 have h0:=zV [.cells #[.slice np t.nz.length nc,.slice ip t.iz.length ic] 26 (0,0),.cells #[.int .i64 at_] 3 (0,0)] w;have hA:Below w.heap.size w ((w.alloc (.cells #[.slice np t.nz.length nc,.slice ip t.iz.length ic] 26 (0,0))).alloc (.cells #[.int .i64 at_] 3 (0,0))):=yw [.cells #[.slice np t.nz.length nc,.slice ip t.iz.length ic] 26 (0,0),.cells #[.int .i64 at_] 3 (0,0)] w;have z0:((w.alloc (.cells #[.slice np t.nz.length nc,.slice ip t.iz.length ic] 26 (0,0))).alloc (.cells #[.int .i64 at_] 3 (0,0))).heap[w.heap.size]? =some (.cells #[.slice np t.nz.length nc,.slice ip t.iz.length ic] 26 (0,0)):=h0 0 _ rfl;have z1:((w.alloc (.cells #[.slice np t.nz.length nc,.slice ip t.iz.length ic] 26 (0,0))).alloc (.cells #[.int .i64 at_] 3 (0,0))).heap[w.heap.size+1]? =some (.cells #[.int .i64 at_] 3 (0,0)):=h0 1 _ rfl;have hC:=zh (XD t _ _ _ (hT.below hA) (hG.later hA) nW);have hI:=zh (λW (hb:Below _ ((w.alloc (.cells #[.slice np t.nz.length nc,.slice ip t.iz.length ic] 26 (0,0))).alloc (.cells #[.int .i64 at_] 3 (0,0))) W)=>Yo (.slice np t.nz.length nc) 60 #[.pointer (some ⟨w.heap.size+1,0,none⟩)] t.nz kv (λx=>x.at_ == at_) W (enters_of (P:=prog) func60 (by kernel_rfl) rfl) ((hN.below hA).below hb) nW.nz (λV x u mM hx hk=>ziV x u at_ _ V (zi mM (zi hb z1)) hk));have c0:=zd z0 0;have c1:=zd z0 1;have HZ:=zh z0;clear h0 z0 z1 hT hN hG;generalize Qv (λx=>x.at_ == at_) t.nz=ix at *;generalize yU t=ck at *;generalize t.nz.length=n at *;generalize t.iz.length=m at *;go_enter func21,ntmps21;go_wp2_with fail;refine hC.q.mono ?_;rintro e w2 ⟨rfl,mM⟩;have rB:=zg hA mM;clear c0 c1 hC;have c0:=zd (zi mM HZ.q) 0;have c1:=zd (zi mM HZ.q) 1;by_cases dr:ck=0
 ·subst dr;rw[if_neg (by simp)] at hr;have cp:=zh (hI.q w2 mM);go_wp2_with fail;refine cp.q.mono ?_;rintro e w3 ⟨rfl,mU⟩;have sf:=zg rB mU;by_cases hx:ix<0
  ·rw[if_pos hx] at hr;subst hr;go_wp2;go_ret2;exact⟨rfl,sf⟩
  ·rw[if_neg hx] at hr;subst hr;go_wp2;go_ret2;exact⟨rfl,sf⟩
 ·have Pj:((ck:Int) == 0)=false:=bfE (by omega)
  rw[if_pos dr] at hr;subst hr;go_wp2;go_ret2;exact⟨rfl,rB⟩
end
end Go.Proofs.YtcagibbaeageoaaGreatDoor
namespace Lode
theorem zjf{out:List Nat}{q:Int}(ho:∀j:Nat,(j:Int)<=q->out.getD j 0<=j+1):∀(rk:List Int) (p e:Int),-1<=p->p<=q->Yx out rk p=some e->-1<=e
 |[],p,e,h1,_,h=>by
  cases h;exact h1
 |k :: r,p,e,h1,h2,h=>by
  unfold Yx at h;split at h
  ·cases h
  ·rename_i hc;have hp:0<=p:=by omega
   obtain⟨j,rfl⟩:=pO hp;have:=ho j h2;rw[pZ] at h;exact zjf ho r _ e (by omega) (by omega) h
def zn6(hF:qm l n)(i:Nat)(hi:i<n):(kz l n).getD i 0<=i+1:=by
 induction i using Nat.strongRecOn with
 |ind i ih=>
  obtain⟨p,hp,hs,Mc⟩:=qR hF hi;have:=zjf (q:=(i:Int)-1) (λj hj=>ih j (by omega) (by omega)) _ _ _ (by omega) (Int.le_refl _) hp;omega
end Lode
namespace Go.Proofs.YtcagibbaeageoaaGreatDoor
section
open Go.RowKit Lode Go.Shelf
attribute [local go_sem ↓] wp_at_zero wp_at_succ
open Go.Proofs.Tryz
def zmF(ks:List Int)(S:Int->Int)(w:World)(i:Value)(n:Value)(wr:World):Prop:=∃j:Nat,i=.int .i64 j/\n=.int .i64 ((ks.take j).foldl (λn k=>n+S k) 1)/\j<=ks.length/\Below w.heap.size w wr
theorem zaa(S:Int->Int)(c:Int):∀(ks:List Int) (a:Int),(∀k∈ks,0<=S k/\S k<=c)->0<=c->a<=ks.foldl (λn k=>n+S k) a/\ks.foldl (λn k=>n+S k) a<=a+ks.length*c
 |[],a,_,_=>by simp
 |k :: r,a,h,hc=>by
  have h1:=h k (List.mem_cons_self ..);have h2:=zaa S c r (a+S k) (λj hj=>h j (wJ _ hj)) hc;simp only[List.foldl_cons,pH];have:((r.length+1:Nat):Int)*c=r.length*c+c:=by
   rw[Int.natCast_add,Int.add_mul];simp
  omega
def zjo(t:yJ)(nv iv:Value)(w0:World)(hT:TR w0 nv iv t)(nW:Qt t)(hF:qm t.nz t.nz.length)(rW:t.nz.length<=1000):∀(f i:Nat) (w:World),i<t.nz.length->i<f->Below w0.heap.size w0 w->
 Calls prog 59 #[.agg #[nv,iv],.int .i64 i] w (ue w (.int .i64 ((kz t.nz t.nz.length).getD i 0:Nat))):=by
 intro f;induction f with
 |zero=>intro i w hi h _;exact absurd h (wF _)
 |succ f ih=>
  intro i w hi Lx Rv;have RU:=KN hF i (i+1) hi (Nat.lt_succ_self _);have hx:t.nz[i]? =some t.nz[i]:=glE hi;have mf:=kN hF hi;have Nt:=nW.kz _ (wE hi);obtain⟨x,Ho⟩:=exE (t.nz[i]);rw[Ho] at hx mf Nt;obtain⟨S,hS⟩:∃S:Int->Int,(λk=>(((kz t.nz t.nz.length).getD k.toNat 0:Nat):Int))=S:=⟨_,rfl⟩;have BP:∀k:Int,S k=(((kz t.nz t.nz.length).getD k.toNat 0:Nat):Int):=λk=>by rw[<-hS]
  have nZ:(((kz t.nz t.nz.length).getD i 0:Nat):Int)=x.kz.foldl (λn k=>n+S k) 1:=by
   rw[<-RU];unfold JW;rw[pZ,hx];simp only[Option.elim_some];have:∀(ks:List Int) (c:Int),(∀k∈ks,0<=k/\k<i)->ks.foldl (λn k=>n+JW t.nz i k) c=ks.foldl (λn k=>n+S k) c:=by
    intro ks;induction ks with
    |nil=>intro c _;rfl
    |cons k r ihr=>
     intro c hk;have h1:=hk k (List.mem_cons_self ..);obtain⟨j,rfl⟩:=pO h1.1;simp only[List.foldl_cons];rw[KN hF j i (by omega) (by omega),BP,pZ];exact ihr _ (λq hq=>hk q (wJ _ hq))
   exact this _ _ mf
  rw[nZ];have DU:∀k∈x.kz,0<=S k/\S k<=1001:=λk hk=>by
   have h1:=mf k hk;obtain⟨j,rfl⟩:=pO h1.1;have:=zn6 hF j (by omega);rw[BP,pZ];omega
  have Lh:=hT.below Rv;obtain⟨np,nc,ip,ic,rfl,rfl⟩:=hT.form;obtain⟨kv,hN⟩:=Lh.nz;obtain⟨g,off,u,rfl,hA⟩:=hN.at hx;obtain⟨up,uc,rfl⟩:=hA.kz.form;have hz:=zk w (.cells #[.slice (some ⟨g,off,none⟩) t.nz.length nc,.slice ip t.iz.length ic] 26 (0,0));have mF:=zf w (.cells #[.slice (some ⟨g,off,none⟩) t.nz.length nc,.slice ip t.iz.length ic] 26 (0,0));have c0:=zd hz 0;have c1:=zd hz 1;have a3:=zl mF hA.c3;have Ry:=zh hA.kz;have HZ:=zh hz;have po:(i:Int)<(t.nz.length:Int):=by omega
  have NU:¬((i:Int)<0):=by omega
  have IH:=zh ih;obtain⟨x0,x1,x2,ks,x4⟩:=x;simp only at a3 Nt mf DU Ry;obtain⟨m,hm⟩:=exE (ks.length);rw[hm] at a3 Nt;have bz:=zh hm;have EH:=zh mf;have Tb:=zh DU;have mK:=zh (show zmF ks S (w.alloc (.cells #[.slice (some ⟨g,off,none⟩) t.nz.length nc,.slice ip t.iz.length ic] 26 (0,0))) (.int .i64 0) (.int .i64 1) (w.alloc (.cells #[.slice (some ⟨g,off,none⟩) t.nz.length nc,.slice ip t.iz.length ic] 26 (0,0))) from ⟨0,rfl,rfl,pU _,pG _ _⟩);have DV:=zh BP;clear RU hx Ho nZ Lh hN hA mf DU hz hm ih hS BP;go_enter func59,ntmps59;go_wp2;go_loopw [15,5] (zmF ks S (w.alloc (.cells #[.slice (some ⟨g,off,none⟩) t.nz.length nc,.slice ip t.iz.length ic] 26 (0,0)))) (λi _ _=>m-(intOf i).toNat)
  case atStart=>exact mK.q
  case round=>
   obtain⟨j,rfl,rfl,hj,BV⟩:=hrel;have hb:=zg mF BV;rw[bz.q] at hj;by_cases mD:j<m
   ·have me:(j:Int)<(m:Int):=by omega
    have hy:=pF ((j:Int)+1) (by omega);have py:j<ks.length:=by rw[bz.q];omega
    obtain⟨g2,off2,rfl,_,d0⟩:=(Ry.q.below hb).at py;have dx:ks.getD j 0∈ks:=by rw[pA,glE py];exact wE py
    have nO:=EH.q _ dx;have nj:=Tb.q _ dx;have tN:ks.take (j+1)=ks.take j ++ [ks.getD j 0]:=by
     rw[gB,glE py,pA,glE py];rfl
    obtain⟨acc,nu⟩:=exE ((ks.take j).foldl (λn k=>n+S k) 1);have BR:=zaa S 1001 (ks.take j) 1 (λk hk=>Tb.q k (List.mem_of_mem_take hk)) (by omega);rw[nu] at BR ⊢;have mV:((ks.take j).length:Int)<=1999:=by rw[gE];omega
    have aF:(ks.take (j+1)).foldl (λn k=>n+S k) 1=acc+S (ks.getD j 0):=by
     rw[tN,List.foldl_append,nu];rfl
    replace aF:=zh aF;generalize ks.getD j 0=z at *;obtain⟨zn,rfl⟩:=pO nO.1;have hC:=zh (IH.q zn wr (by omega) (by omega) (zg Rv hb));have NK:=DV.q zn;rw[pZ] at NK;rw[<-NK] at hC;clear NK;have Bo:=pF (acc+S zn) (by omega);clear c0 c1;have c0:=zd (zi BV HZ.q) 0;have c1:=zd (zi BV HZ.q) 1;go_wp2_with fail;refine hC.q.mono ?_;rintro e w1 ⟨rfl,mM⟩;go_wp2;go_roundw
    case rel=>exact⟨j+1,by simp,by rw[aF.q],by rw[bz.q];omega,zg BV mM⟩
    case measure=>simp[intOf];omega
   ·have me:¬((j:Int)<(m:Int)):=by omega
    have fd:j=m:=by omega
    have tN:ks.take j=ks:=by rw[fd,<-bz.q];exact List.take_length
    rw[tN];go_wp2;go_ret;exact⟨rfl,hb⟩
def zkJ(t:yJ)(nv iv:Value)(node:Int)(w:World)(hT:TR w nv iv t)(hG:jQ w)(nW:Qt t)(dx:∀x∈t.nz,x.kz.length<=1000):Calls prog 20 #[.agg #[nv,iv],.int .i64 node] w (RdI w (ze1 t node)):=by
 obtain⟨np,nc,ip,ic,rfl,rfl⟩:=hT.form;have hz:=zk w (.cells #[.slice np t.nz.length nc,.slice ip t.iz.length ic] 26 (0,0));have hA:=zf w (.cells #[.slice np t.nz.length nc,.slice ip t.iz.length ic] 26 (0,0));have hF:=zh (zbz t _ _ node 59 (zgM t node) _ (hT.below hA) (hG.later hA) nW (enters_of (P:=prog) func59 (by kernel_rfl) rfl) (λW hb hc hn=>by
  have WB:JM t=0:=by rw[<-zeu t dx];exact hc
  have du:=zan WB;have rW:t.nz.length<=1000:=by
   unfold yU at hc;split at hc
   ·cases hc
   ·omega
  obtain⟨i,rfl⟩:=pO hn.1;unfold zgM;rw[KN du i _ (by omega) (by omega)];exact zjo t _ _ _ (hT.below hA) nW du rW (i+1) i W (by omega) (Nat.lt_succ_self _) hb))
 have c0:=zd hz 0;have c1:=zd hz 1;unfold ze1 zby;clear hT hG hz;generalize (if yU t≠0 then ((0:Int),yU t) else if node<0\/(t.nz.length:Int)<=node then (0,7) else (zgM t node,0))=r at *;generalize t.nz.length=n at *;generalize t.iz.length=m at *;obtain⟨r1,r2⟩:=r;go_enter func20,ntmps20;go_wp2_with fail;refine hF.q.mono ?_;rintro e w2 ⟨rfl,mM⟩;go_wp2;go_ret2;exact⟨rfl,zg hA mM⟩
def Xx(l:List Int)(i j:Nat)(v:Int):(l.set i v).getD j 0=if i=j/\j<l.length then v else l.getD j 0:=by
 rw[pA,pA,List.getElem?_set];by_cases h:i=j
 ·subst h;by_cases h2:i<l.length
  ·simp[h2]
  ·simp[h2]
 ·simp[h]
def zkL(xs:List Int)(g n:Nat)(fr:Nat×Nat)(w:World)(i j:Value)(wr:World):Prop:=∃(k:Nat) (ys:List Int),i=.int .i64 k/\j=.int .i64 ((n:Int)-1-k)/\2*k<=n+1/\ys.length=n/\(∀p,p<n->ys.getD p 0=if p<k\/n-k<=p then xs.getD (n-1-p) 0 else xs.getD p 0)/\(∃cs,wr.heap[g]? =some (.cells cs 3 fr)/\∀p,p<n->cs[p]? =some (.int .i64 (ys.getD p 0)))/\Below g w wr
def zb5(xs:List Int)(g n cap:Nat)(cs:Array Value)(fr:Nat×Nat)(w:World)(hn:xs.length=n)(rW:n<=1000000)(hg:w.heap[g]? =some (.cells cs 3 fr))(hc:∀p,p<n->cs[p]? =some (.int .i64 (xs.getD p 0)))(Lr:∀(W:World) (ds:Array Value) (p:Nat),W.heap[g]? =some (.cells ds 3 fr)->W.frozen? ⟨g,p,none⟩=false):
 Calls prog 105 #[.slice (some ⟨g,0,none⟩) n cap] w λe w'=>e=.returned (.tuple #[])/\Below g w w'/\∃ds,w'.heap[g]? =some (.cells ds 3 fr)/\∀p,p<n->ds[p]? =some (.int .i64 (xs.reverse.getD p 0)):=by
 have hw0:=pF ((n:Int)-1) (by omega);have mK:zkL xs g n fr w (.int .i64 0) (.int .i64 ((n:Int)-1)) w:=⟨0,xs,rfl,by simp,by omega,hn,λp hp=>by rw[if_neg (by omega)],⟨cs,hg,hc⟩,pG _ _⟩;replace mK:=zh mK;have MO:=zh Lr;clear hg hc Lr;have rg:=zh hn;clear hn;go_enter func105,ntmps105;go_wp2;go_loopw [2,3] (zkL xs g n fr w) (λi j _=>((intOf j)+1-intOf i).toNat)
 case atStart=>exact mK.q
 case round=>
  obtain⟨k,ys,rfl,rfl,hk,hyl,Bs,⟨ds,dO,eR⟩,hb⟩:=hrel;by_cases mD:(k:Int)<(n:Int)-1-k
  ·have sC:k<n:=by omega
   obtain⟨q,hq⟩:∃q:Nat,(n:Int)-1-k=q:=⟨n-1-k,by omega⟩;have En:q<n:=by omega
   rw[hq] at mD ⊢;have Ij:=pF ((k:Int)+1) (by omega);have Br:=pF ((q:Int)-1) (by omega);have hk0:¬((k:Int)<0):=by omega
   have gL:¬((q:Int)<0):=by omega
   have nO:(k:Int)<(n:Int):=by omega
   have cZ:(q:Int)<(n:Int):=by omega
   have IW:¬(q=k):=by omega
   have hkq:¬(k=q):=by omega
   have ck:wr.drew.cell? ⟨g,k,none⟩=some (.int .i64 (ys.getD k 0)):=(zd dO k).trans (eR k sC);have cq:wr.drew.cell? ⟨g,q,none⟩=some (.int .i64 (ys.getD q 0)):=(zd dO q).trans (eR q En);have dk:wr.cell? ⟨g,k,none⟩=some (.int .i64 (ys.getD k 0)):=(zd dO k).trans (eR k sC);have dq:wr.cell? ⟨g,q,none⟩=some (.int .i64 (ys.getD q 0)):=(zd dO q).trans (eR q En);have fk:=MO.q wr ds k dO;have fq:=MO.q wr ds q dO;have fk':=MO.q wr.drew ds k dO;have fq':=MO.q wr.drew ds q dO;generalize Ik:ys.getD k 0=yk at *;generalize Il:ys.getD q 0=yq at *;have HDS:=zh dO;have HDP:=zh eR;have HYS:=zh Bs;clear dO eR Bs;go_wp2_with fail;go_region;go_wp2;go_roundw
   case rel=>
    refine⟨k+1,(ys.set k yq).set q yk,rfl,by rw[show (q:Int)-1=(n:Int)-1-((k+1:Nat):Int) by omega],by omega,by rw[List.length_set,List.length_set];exact hyl,λp hp=>?_,⟨_,zt (zt HDS.q k (.int .i64 yq)) q (.int .i64 yk),λp hp=>?_⟩,((hb.setCell (pC _) _).setCell (pC _) _).drew⟩
    ·have h1:=HYS.q k sC;have h2:=HYS.q q En;rw[if_neg (by omega),Ik] at h1;rw[if_neg (by omega),Il] at h2;rw[Xx,Xx,List.length_set];by_cases e1:q=p
     ·rw[if_pos ⟨e1,by omega⟩,if_pos (by omega),h1,show n-1-p=k by omega]
     ·rw[if_neg (λh=>e1 h.1)];by_cases e2:k=p
      ·rw[if_pos ⟨e2,by omega⟩,if_pos (by omega),h2,show n-1-p=q by omega]
      ·rw[if_neg (λh=>e2 h.1),HYS.q p hp];by_cases e3:p<k\/n-k<=p
       ·rw[if_pos e3,if_pos (by omega)]
       ·rw[if_neg e3,if_neg (by omega)]
    ·have IS:=HDP.q p hp;have nX:=(gtA IS);rw[Xx,Xx,List.length_set,Array.getElem?_setIfInBounds,Array.getElem?_setIfInBounds,Array.size_setIfInBounds];by_cases e1:q=p
     ·rw[if_pos e1,if_pos (by omega),if_pos ⟨e1,by omega⟩]
     ·rw[if_neg e1,if_neg (show ¬(q=p/\p<ys.length) from λh=>e1 h.1)];by_cases e2:k=p
      ·rw[if_pos e2,if_pos (by omega),if_pos ⟨e2,by omega⟩]
      ·rw[if_neg e2,if_neg (show ¬(k=p/\p<ys.length) from λh=>e2 h.1)];exact IS
   case measure=>simp[intOf];omega
  ·have hend:n<=2*k+1:=by omega
   have nZ:∀p,p<n->ys.getD p 0=xs.reverse.getD p 0:=λp hp=>by
    rw[Bs p hp,pA (l:=xs.reverse),List.getElem?_reverse (by rw[rg.q];exact hp),<-pA,rg.q];by_cases h:p<k\/n-k<=p
    ·rw[if_pos h]
    ·rw[if_neg h,show n-1-p=p by omega]
   have HF:=zh (show ∃ds,wr.heap[g]? =some (.cells ds 3 fr)/\∀p,p<n->ds[p]? =some (.int .i64 (xs.reverse.getD p 0)) from ⟨ds,dO,λp hp=>by rw[<-nZ p hp];exact eR p hp⟩);clear dO eR Bs nZ;go_wp2_with fail;go_end0;exact⟨rfl,hb,by simpa using HF.q⟩
def zkI(t:yJ)(R:List Int)(w1:World)(l at_:Value)(wr:World):Prop:=∃(acc:List Int) (a:Int) (f:Nat),at_=.int .i64 a/\wr.ownsRow w1.heap.size 3 1 l acc.length (yl acc)/\Below w1.heap.size w1 wr/\zi8 t f a acc.reverse=R/\-1<=a/\a<(t.nz.length:Int)/\(0<=a->(t.nz.length:Int)-a+1<=f)/\acc.length+f=t.nz.length+1/\(acc=[]->0<=a)
def wyM(n:Nat)(a:Value):Nat:=if 0<=intOf a then ((n:Int)+1-intOf a).toNat else 0
def zgw(n:Nat)(a:Int):wyM n (.int .i64 a)=if 0<=a then ((n:Int)+1-a).toNat else 0:=rfl
def zn4(hF:qm t.nz t.nz.length)(a:Int):upT t a= -1\/(a<upT t a/\upT t a<(t.nz.length:Int)):=by
 unfold upT;rcases KV (λx=>x.kz.contains a) t.nz with⟨j,x,hj,hx,hf⟩|⟨hj,_⟩
 ·right;rw[hj];obtain⟨py,Ho⟩:=List.getElem?_eq_some_iff.1 hx;have hc:=List.find?_some hf;rw[List.contains_iff_mem] at hc;have:=kN hF py a (by rw[Ho];exact hc);omega
 ·exact .inl hj
def znk{l:List Int}(h:w.ownsRow B 3 1 v l.length (yl l))(h0:l≠[]):∃g cap cs,v=.slice (some ⟨g,0,none⟩) l.length cap/\l.length<=cap/\B<=g/\w.heap[g]? =some (.cells cs 3 (0,0))/\∀p,p<l.length->cs[p]? =some (.int .i64 (l.getD p 0)):=by
 obtain⟨hl,⟨rfl,h1⟩|⟨g,cap,cur,rfl,hB,hg,Ni,_,_,ht⟩⟩:=h
 ·exact absurd (pT h1) h0
 ·refine⟨g,cap,cur,rfl,Ni,hB,hg,λp hp=>?_⟩;have h1:(yl l)[p]? =some (.int .i64 (l.getD p 0)):=by
   unfold yl;rw[wC,glE hp,pA,glE hp];rfl
  rw[<-ht,List.getElem?_take] at h1;split at h1
  ·rw[<-Array.getElem?_toList];exact h1
  ·cases h1
def zlb(t:yJ)(nv iv:Value)(node:Nat)(w:World)(hT:TR w nv iv t)(nW:Qt t)(hF:qm t.nz t.nz.length)(rW:t.nz.length<=1000)(IQ:node<t.nz.length):
 Calls prog 58 #[.agg #[nv,iv],.int .i64 node] w λe w'=>∃v,e=.returned v/\KS w' v (zi7 t node)/\Below w.heap.size w w':=by
 obtain⟨R,hR⟩:=exE (zi7 t node);rw[hR];obtain⟨np,nc,ip,ic,rfl,rfl⟩:=hT.form;have hz:=zk w (.cells #[.slice np t.nz.length nc,.slice ip t.iz.length ic] 26 (0,0));have hA:=zf w (.cells #[.slice np t.nz.length nc,.slice ip t.iz.length ic] 26 (0,0));have mK:zkI t R (w.alloc (.cells #[.slice np t.nz.length nc,.slice ip t.iz.length ic] 26 (0,0))) (.slice none 0 0) (.int .i64 node) (w.alloc (.cells #[.slice np t.nz.length nc,.slice ip t.iz.length ic] 26 (0,0))):=⟨[],node,t.nz.length+1,rfl,jT _ _ rfl,pG _ _,by rw[<-hR];rfl,by omega,by omega,λ_=>by omega,by simp,λ_=>by omega⟩;replace mK:=zh mK;have hU:=zh (λ(a:Int) W (hb:Below (w.alloc (.cells #[.slice np t.nz.length nc,.slice ip t.iz.length ic] 26 (0,0))).heap.size (w.alloc (.cells #[.slice np t.nz.length nc,.slice ip t.iz.length ic] 26 (0,0))) W)=>zi9 t _ _ a W (hT.below (zg hA hb)) nW);have HZ:=zh hz;have bQ:∀W,Below (w.alloc (.cells #[.slice np t.nz.length nc,.slice ip t.iz.length ic] 26 (0,0))).heap.size (w.alloc (.cells #[.slice np t.nz.length nc,.slice ip t.iz.length ic] 26 (0,0))) W->W.cell? ⟨w.heap.size,0,none⟩=some (.slice np t.nz.length nc)/\W.cell? ⟨w.heap.size,1,none⟩=some (.slice ip t.iz.length ic):=λW hb=>⟨zd (zi hb HZ.q) 0,zd (zi hb HZ.q) 1⟩
 replace bQ:=zh bQ;clear hz hT hR;go_enter func58,ntmps58;go_wp2_with fail;generalize (w.alloc (.cells #[.slice np t.nz.length nc,.slice ip t.iz.length ic] 26 (0,0)))=w1 at *;go_loopw [4,5] (zkI t R w1) (λ_ a _=>wyM t.nz.length a)
 case atStart=>exact mK.q
 case round=>
  rename_i lv _;obtain⟨acc,a,f,rfl,mG,hb,hw,sB,tf,hf,mV,mu⟩:=hrel;by_cases h0:0<=a
  ·obtain⟨f',rfl⟩:∃f',f=f'+1:=⟨f-1,by have:=hf h0;omega⟩;have tK:zi8 t f' (upT t a) (acc ++ [a]).reverse=R:=by
    rw[<-hw];rw[List.reverse_append,List.reverse_singleton];show _=if a<0 then acc.reverse else zi8 t f' (upT t a) (a :: acc.reverse)
    rw[if_neg (by omega)];rfl
   have sw:=zn4 hF a;have hfa:=hf h0;have my:=zm mG (zf wr (.cells #[.int .i64 a] 3 (0,0)));have au:=zg hb (zf wr (.cells #[.int .i64 a] 3 (0,0)));have nX:=hb.size;replace tK:=zh tK;clear hw hf;go_wp2_with (at_builtin;refine yA rfl _ _ rfl rfl my rfl (zd (zk wr _) 0) rfl rfl (by omega) (by simp;omega) ?_);intro g' cap' w2 mC mA mJ;have mM:=ZB au my mA;have nH:w2.ownsRow w1.heap.size 3 1 (.slice (some ⟨g',0,none⟩) (acc.length+1) cap') (acc ++ [a]).length (yl (acc ++ [a])):=by
    rw[pE,pI];simp only[yl,List.map_append,List.map_cons,List.map_nil];exact mC
   replace nH:=zh nH;clear mC mA mJ mG my;obtain⟨c0,c1⟩:=bQ.q _ mM;have hU2:=zh (hU.q a w2 mM);go_wp2_with fail;refine hU2.q.mono ?_;rintro e w3 ⟨rfl,mU⟩;go_wp2;go_roundw
   case rel=>exact⟨acc ++ [a],upT t a,f',rfl,zm nH.q mU,zg mM mU,tK.q,by omega,by omega,λh=>by omega,by rw[pE,pI];omega,λh=>by simp at h⟩
   case measure=>
    rw[zgw,zgw,if_pos h0];split <;> omega
  ·have nu:acc≠[]:=λh=>h0 (mu h)
   have Ld:acc.reverse=R:=by
    rw[<-hw];cases f with
    |zero=>rfl
    |succ f=>
     show _=if a<0 then acc.reverse else _
     rw[if_pos (by omega)]
   obtain⟨g,cap,cs,rfl,ww,hBg,HE,Pt⟩:=znk mG nu;have hRv:=zh (zb5 acc g acc.length cap cs (0,0) wr rfl (by omega) HE Pt (λW ds p h=>zj h p));have TZ:=zh Ld;clear hw mG HE Pt Ld;go_wp2_with fail;refine hRv.q.mono ?_;rintro e w4 ⟨rfl,mQ,ds,dO,eR⟩;have HDS:=zh dO;have HDP:=zh eR;clear dO eR;go_wp2;go_ret;refine⟨_,rfl,⟨some ⟨g,0,none⟩,cap-acc.length,by rw[<-TZ.q,gC,Nat.add_sub_cancel' ww];rfl,.inr ⟨g,0,ds,(0,0),rfl,HDS.q,λj x hj=>?_⟩⟩,zg hA (hb.trans (mQ.mono hBg))⟩;rw[<-TZ.q] at hj;have py:=(gtL hj);rw[gC] at py;rw[Nat.zero_add,HDP.q j py,pA,hj];rfl
theorem KS.none(w:World):KS w (.slice Option.none 0 0) []:=⟨Option.none,0,rfl,.inl rfl⟩
def RdL(w:World)(r:List Int×Nat)(e:Ending)(w':World):Prop:=∃v,e=.returned (.tuple #[v,.int .i64 (r.2:Nat)])/\KS w' v r.1/\Below w.heap.size w w'
def ziB(t:yJ)(nv iv:Value)(node:Int)(f:Nat)(val:List Int)(w:World)(hT:TR w nv iv t)(hG:jQ w)(nW:Qt t)(rZ:Enters prog f)(RK:∀W,Below w.heap.size w W->yU t=0->0<=node/\node<(t.nz.length:Int)->Calls prog f #[.agg #[nv,iv],.int .i64 node] W (λe W'=>∃v,e=.returned v/\KS W' v val/\Below W.heap.size W W')):
 Calls prog 57 #[.agg #[nv,iv],.int .i64 node,.func (.func f) #[] #[]] w (RdL w (if yU t≠0 then ([],yU t) else if node<0\/(t.nz.length:Int)<=node then ([],7) else (val,0))):=by
 obtain⟨r,hr⟩:∃r:List Int×Nat,(if yU t≠0 then ([],yU t) else if node<0\/(t.nz.length:Int)<=node then ([],7) else (val,0))=r:=⟨_,rfl⟩;rw[hr];obtain⟨np,nc,ip,ic,rfl,rfl⟩:=hT.form;obtain⟨n,hn⟩:=exE (t.nz.length);obtain⟨m,hm⟩:=exE (t.iz.length);rw[hn,hm] at RK hT ⊢;rw[hn] at hr;have hz:=zk w (.cells #[.slice np n nc,.slice ip m ic] 26 (0,0));have hA:=zf w (.cells #[.slice np n nc,.slice ip m ic] 26 (0,0));have hC:=zh (XD t _ _ _ (hT.below hA) (hG.later hA) nW);have wy:=λW=>rZ (#[.agg #[.slice np n nc,.slice ip m ic],.int .i64 node]) W
 have c0:=zd hz 0;have c1:=zd hz 1;have Nu:=zh hz;have RL:=zh RK;clear hT hG hz RK rZ;generalize yU t=ck at *;go_enter func57,ntmps57;go_wp2_with fail;refine hC.q.mono ?_;rintro e w2 ⟨rfl,mM⟩;have rB:=zg hA mM;clear c0 c1 hC;have c0:=zd (zi mM Nu.q) 0;have c1:=zd (zi mM Nu.q) 1;by_cases dr:ck=0
 ·subst dr;rw[if_neg (by simp)] at hr;by_cases h0:node<0
  ·rw[if_pos (.inl h0)] at hr;subst hr;go_wp2;go_ret2;exact⟨_,rfl,KS.none _,rB⟩
  ·by_cases h1:(n:Int)<=node
   ·rw[if_pos (.inr h1)] at hr;subst hr;go_wp2;go_ret2;exact⟨_,rfl,KS.none _,rB⟩
   ·rw[if_neg (by omega)] at hr;have hO:=zh (RL.q w2 rB rfl (by omega));subst hr;go_wp2_with fail;refine hO.q.mono ?_;rintro e w3 ⟨v,rfl,hv,mU⟩;have FH:=zh hv;clear hv;go_wp2;go_ret2;exact⟨_,rfl,FH.q,zg rB mU⟩
 ·have Pj:((ck:Int) == 0)=false:=bfE (by omega)
  rw[if_pos dr] at hr;subst hr;go_wp2;go_ret2;exact⟨_,rfl,KS.none _,rB⟩
def zkO(t:yJ)(nv iv:Value)(node:Int)(w:World)(hT:TR w nv iv t)(hG:jQ w)(nW:Qt t)(dx:∀x∈t.nz,x.kz.length<=1000):Calls prog 19 #[.agg #[nv,iv],.int .i64 node] w (RdL w (zjP t node)):=by
 obtain⟨np,nc,ip,ic,rfl,rfl⟩:=hT.form;have hz:=zk w (.cells #[.slice np t.nz.length nc,.slice ip t.iz.length ic] 26 (0,0));have hA:=zf w (.cells #[.slice np t.nz.length nc,.slice ip t.iz.length ic] 26 (0,0));have hF:=zh (ziB t _ _ node 58 (zi7 t node) _ (hT.below hA) (hG.later hA) nW (enters_of (P:=prog) func58 (by kernel_rfl) rfl) (λW hb hc hn=>by
  have WB:JM t=0:=by rw[<-zeu t dx];exact hc
  have du:=zan WB;have rW:t.nz.length<=1000:=by
   unfold yU at hc;split at hc
   ·cases hc
   ·omega
  obtain⟨i,rfl⟩:=pO hn.1;exact zlb t _ _ i W ((hT.below hA).below hb) nW du rW (by omega)))
 have c0:=zd hz 0;have c1:=zd hz 1;unfold zjP zby;clear hT hG hz;generalize (if yU t≠0 then (([]:List Int),yU t) else if node<0\/(t.nz.length:Int)<=node then ([],7) else (zi7 t node,0))=r at *;generalize t.nz.length=n at *;generalize t.iz.length=m at *;obtain⟨r1,r2⟩:=r;go_enter func19,ntmps19;go_wp2_with fail;refine hF.q.mono ?_;rintro e w2 ⟨v,rfl,hv,mM⟩;have FH:=zh hv;clear hv;go_wp2;go_ret2;exact⟨_,rfl,FH.q,zg hA mM⟩
