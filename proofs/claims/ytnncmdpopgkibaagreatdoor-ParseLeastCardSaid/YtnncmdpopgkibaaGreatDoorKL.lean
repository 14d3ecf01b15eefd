/-
  A part of the proof: contracts of functions; no conditions.
-/
import Derived.Test.YtnncmdpopgkibaaGreatDoorKE
import Derived.Test.YtnncmdpopgkibaaGreatDoorKJ
import Derived.OwnWalkIn
set_option maxRecDepth 100000
set_option maxHeartbeats 40000000
set_option linter.unusedSimpArgs false
set_option linter.unusedVariables false
namespace Go.Proofs.YtnncmdpopgkibaaGreatDoor
section
open Go.RowKit Lode Go.Shelf
attribute [local go_sem] Oper.semAt_some
attribute [local go_sem] Xz JX
open Go.Proofs.Tryz
theorem XK{w:World}{g k:Nat}{cs ds:Array Value}{T U:TypeId}{fr fr':Nat×Nat}(h:w.heap[g]? =some (.cells cs T fr))(h':w.heap[k]? =some (.cells ds U fr'))(hT:T≠U):g≠k:=fun e=>by
 subst e;rw[h] at h';cases h';exact hT rfl
theorem vF{a b c:World}{r:Option Nat}(h:a.grownBy b r)(k:b.grownBy c r):a.grownBy c r:=
 ⟨k.os.trans h.os,k.tape.trans h.tape,k.output.trans h.output,pN h.size k.size,fun i hi hn=>(k.block i (wI hi h.size) hn).trans (h.block i hi hn)⟩
theorem uv{a b:World}(h:Below a.heap.size a b)(r:Option Nat):a.grownBy b r:=⟨h.os,h.tape,h.output,h.size,fun k hk _=>h.block k hk⟩
theorem xp{a b:World}{F k:Nat}{o:Obj}(h:a.grownBy b (some F))(hk:a.heap[k]? =some o)(hn:k≠F):b.heap[k]? =some o:=
 (h.block k (gtA hk) (fun e=>hn (by cases e;rfl))).trans hk
theorem Jy{w0 a b:World}{F:Nat}(h:a.grownBy b (some F))(hb:Below w0.heap.size w0 a)(hF:w0.heap.size<=F):Below w0.heap.size w0 b:=
 hb.grown h hb.size (fun r e=>by cases e;exact hF)
theorem zfs{a b:World}{F B:Nat}(h:a.grownBy b (some F))(hB:B<=a.heap.size)(hF:B<=F):Below B a b:=
 ⟨h.os,h.tape,h.output,h.size,fun k hk=>h.block k (wI hk hB) (fun e=>by cases e;omega)⟩
theorem zkS(w:World)(F i:Nat)(v:Value):w.grownBy (w.setCell ⟨F,i,none⟩ v) (some F):=
 ⟨rfl,rfl,rfl,by simp,fun k _ hk=>Below.heap_setCell _ _ _ k (fun e=>hk (by rw[e]))⟩
def ziM(o:Option Int)(F:Nat)(nv iv:Value)(next:Int)(w:World)(e:Ending)(w':World):Prop:=w.grownBy w' (some F)/\((∃nx,o=some nx/\e=.returned (.bool true)/\w'.heap[F]? =some (fmO nv iv nx)/\-1<=nx/\nx<next)\/(o=none/\e=.returned (.bool false)))
structure FnW(F:Nat)(nv iv:Value)(w W:World)(nx:Int):Prop where
 fr:w.grownBy W (some F)
 f:W.heap[F]? =some (fmO nv iv nx)
 p:W.heap[w.heap.size]? =some (QX F)
 r:W.heap[w.heap.size+1]? =some (.cells #[.bool false] 4 (0,0))
theorem FnW.below{F:Nat}{nv iv:Value}{w W W':World}{nx:Int}(h:FnW F nv iv w W nx)(hb:Below W.heap.size W W'):FnW F nv iv w W' nx:=
 ⟨vF h.fr (uv hb _),zh hb h.f,zh hb h.p,zh hb h.r⟩
theorem FnW.start{F:Nat}{nv iv:Value}{w:World}{nx:Int}(h:w.heap[F]? =some (fmO nv iv nx)):FnW F nv iv w ((w.alloc (QX F)).alloc (.cells #[.bool false] 4 (0,0))) nx:=
 ⟨uv (zX [QX F,.cells #[.bool false] 4 (0,0)] w) _,zh (zX [QX F,.cells #[.bool false] 4 (0,0)] w) h,zJ [QX F,.cells #[.bool false] 4 (0,0)] w 0 _ rfl,zJ [QX F,.cells #[.bool false] 4 (0,0)] w 1 _ rfl⟩
theorem zh9{w W:World}{r:Option Nat}(h:w.grownBy W r){a:Addr}(ha:w.heap.size<=a.block)(v:Value):w.grownBy (W.setCell a v) r:=
 ⟨h.os,h.tape,h.output,pN h.size (by simp),fun k hk hn=>(Below.heap_setCell _ _ _ k (by omega)).trans (h.block k hk hn)⟩
theorem FnW.no{F:Nat}{nv iv:Value}{w W:World}{nx next:Int}(h:FnW F nv iv w W nx):ziM none F nv iv next w (.returned (.bool false)) (W.setCell ⟨w.heap.size+1,0,none⟩ (.bool false)):=
 ⟨zh9 h.fr (by simp) _,.inr ⟨rfl,rfl⟩⟩
def Jj(g:Int->Int->yN->Option Int)(hh:xl)(n3:Nat)(rk:List Int)(R:Option Int)(F:Nat)(nv iv:Value)(w:World)(lim:Int)(NB SO:Array Value)(sb:Nat)(v:Value)(B:Nat)(pre:List (Int×Int))(W:World):Prop:=
 ∃nx,FnW F nv iv w W nx/\W.heap[w.heap.size+2]? =some (.cells NB 45 (0,0))/\W.heap[sb]? =some (.cells SO 204 (0,0))/\ShV W v hh/\Zk g hh n3 (rk.drop pre.length) nx=R/\-1<=nx/\nx<=lim/\B<=W.heap.size
def zbN(R:Option Int)(F:Nat)(w:World)(B:Nat)(c:Code)(W:World):Prop:=c=.ret/\R=none/\w.grownBy W (some F)/\W.heap[w.heap.size+1]? =some (.cells #[.bool false] 4 (0,0))/\B<=W.heap.size
theorem zbv{w W W':World}{F B:Nat}{row:Option Nat}(h:w.grownBy W (some F))(hB:w.heap.size<=B)(hg:W.grownBy W' row)(hr:∀r,row=some r->B<=r):w.grownBy W' (some F):=
 ⟨hg.os.trans h.os,hg.tape.trans h.tape,hg.output.trans h.output,pN h.size hg.size,fun k hk hn=>(hg.block k (wI hk h.size) (fun e=>by have:=hr k e.symm;omega)).trans (h.block k hk hn)⟩
theorem xn{W W':World}{row:Option Nat}(hg:W.grownBy W' row)(hr:∀r,row=some r->∃o:Obj,W.heap[r]? =some o/\o.isCells=false){k:Nat}{cs:Array Value}{T:TypeId}{fr:Nat×Nat}(h:W.heap[k]? =some (.cells cs T fr)):W'.heap[k]? =some (.cells cs T fr):=by
 rw[hg.block k (gtA h) (fun e=>by
  obtain⟨o,ho,hc⟩:=hr k e.symm;rw[h] at ho;cases ho;cases hc)]
 exact h
theorem Jj.own{g:Int->Int->yN->Option Int}{hh:xl}{n3:Nat}{rk:List Int}{R:Option Int}{F:Nat}{nv iv:Value}{w:World}{lim:Int}{NB SO:Array Value}{sb:Nat}{v:Value}{B:Nat}(hB:w.heap.size<=B):YE (fun _=>False) B (Jj g hh n3 rk R F nv iv w lim NB SO sb v B):=by
 rintro pre W W' row ⟨nx,⟨h1,h2,h3,h4⟩,h5,h6,h7,h8,h9,h10,h11⟩ hg hr;have hr1:∀r,row=some r->B<=r:=fun r e=>(hr r e).elim False.elim And.left
 have hr2:∀r,row=some r->∃o:Obj,W.heap[r]? =some o/\o.isCells=false:=fun r e=>(hr r e).elim False.elim And.right
 exact⟨nx,⟨zbv h1 hB hg hr1,xn hg hr2 h2,xn hg hr2 h3,xn hg hr2 h4⟩,xn hg hr2 h5,xn hg hr2 h6,h7.keep (fun _ _ _ h=>xn hg hr2 h) (fun _ _ _ h=>xn hg hr2 h),h8,h9,h10,pN h11 hg.size⟩
theorem zbN.own{R:Option Int}{F:Nat}{w:World}{B:Nat}(hB:w.heap.size<=B)(c:Code):YE (fun _=>False) B (fun (_:List (Int×Int)) W=>zbN R F w B c W):=by
 rintro pre W W' row ⟨h1,h2,h3,h4,h5⟩ hg hr;have hr1:∀r,row=some r->B<=r:=fun r e=>(hr r e).elim False.elim And.left
 have hr2:∀r,row=some r->∃o:Obj,W.heap[r]? =some o/\o.isCells=false:=fun r e=>(hr r e).elim False.elim And.right
 exact⟨h1,h2,zbv h3 hB hg hr1,xn hg hr2 h4,pN h5 hg.size⟩
theorem ShV.gb{w w':World}{v:Value}{s:xl}{F:Nat}{cs:Array Value}{fr:Nat×Nat}(h:ShV w v s)(hF:w.heap[F]? =some (.cells cs 155 fr))(hg:w.grownBy w' (some F)):ShV w' v s:=
 h.keep (fun _ _ _ hB=>xp hg hB (XK hB hF (by decide))) (fun _ _ _ hB=>xp hg hB (XK hB hF (by decide)))
def zk1(F:Nat):LodeX.Rel:=⟨fun a b=>a.grownBy b (some F),fun w=>World.grownBy.refl w _,vF,Eq,fun _=>rfl,Eq.trans,fun h=>h▸World.grownBy.refl _ _⟩
theorem zc4{l:List Nd}{f:Nat}{next number:Int}{s:yN}(h:next<0\/number≠next):qK l f next number s=none:=by
 cases f with
 |zero=>rfl
 |succ f=>
  unfold qK;rw[if_pos h]
theorem zgD(l:List Nd)(kv:List Value)(nv iv:Value)(w0:World)(F:Nat)(hN:NS w0 nv l kv)(hG:qH w0)(hF0:w0.heap.size<=F)(h255:∀x∈l,x.kind<=255)(htl:∀x∈l,x.text.length<=1000000000000)(hkl:∀x∈l,x.kids.length<=100000)(hln:l.length<=100000):∀(f:Nat) (next number:Int) (s:yN) (sv:Value) (w:World),next<f->next<l.length->-1<=next->Below w0.heap.size w0 w->w.heap[F]? =some (fmO nv iv next)->YC w sv s->
 Calls prog 103 #[.pointer (some ⟨F,0,none⟩),.int .i64 number,sv] w (ziM (qK l f next number s) F nv iv next w):=by
 intro f;induction f with
 |zero=>
  intro next number s sv w hnf hnl hn1 hB0 hF hS
  have hn0:next<0:=by omega
  rw[zc4 (.inl hn0)];obtain⟨fs,caps,rfl,_,_⟩:=hS.use;clear hS;obtain⟨np,nc,rfl⟩:=hN.form;have hst:=FnW.start hF;generalize hwe:((w.alloc (QX F)).alloc (.cells #[.bool false] 4 (0,0)))=w2 at *;have HW:=zi hst;have c0:=zd hst.p 0;have c1:=zd hst.f 2;have c2:=zd hst.r 0;have f2:=zl hst.r 0;clear hst hF;refine (callsIn_wide (n:=5)).1 ?_;refine callsIn_of_wp_marks func103 rfl trivial ?_ rfl;simp only[ntmps103,List.size_toArray,pK,pR,Nat.reduceAdd,Nat.reduceSub,Array.replicate_succ,Array.replicate_zero,List.push_toArray,List.append_toArray,wJ,pT]
  gi_wp2_with fail
  exact⟨.bool false,by simp[results,results103,go_sem,zd (zr HW.out.r 0 (.bool false))],HW.out.no⟩
 |succ f ih=>
  intro next number s sv w hnf hnl hn1 hB0 hF hS
  obtain⟨R,hR⟩:=exE (qK l (f+1) next number s)
  rw[hR];obtain⟨fs,caps,rfl,heg,hcs⟩:=hS.use;obtain⟨np,nc,rfl⟩:=hN.form;have hst:=FnW.start hF;have hbw2:Below w.heap.size w ((w.alloc (QX F)).alloc (.cells #[.bool false] 4 (0,0))):=zX [QX F,.cells #[.bool false] 4 (0,0)] w;have hw2:((w.alloc (QX F)).alloc (.cells #[.bool false] 4 (0,0))).heap.size=w.heap.size+2:=by simp
  have hFw:F<w.heap.size:=(gtA hF);generalize hwe:((w.alloc (QX F)).alloc (.cells #[.bool false] 4 (0,0)))=w2 at *;have HW:=zi hst;have c0:=zd hst.p 0;have c1:=zd hst.f 2;have c2:=zd hst.r 0;have f2:=zl hst.r 0;have hcs':=zi hcs;have heg':=zi heg;have hIH:=zi ih;clear hst hF ih hcs heg;by_cases hno:next<0\/number≠next
  ·have hR2:R=none:=by rw[<-hR];exact zc4 hno
   subst hR2;by_cases hn0:next<0
   ·refine (callsIn_wide (n:=5)).1 ?_;refine callsIn_of_wp_marks func103 rfl trivial ?_ rfl;simp only[ntmps103,List.size_toArray,pK,pR,Nat.reduceAdd,Nat.reduceSub,Array.replicate_succ,Array.replicate_zero,List.push_toArray,List.append_toArray,wJ,pT]
    gi_wp2_with fail
    exact⟨.bool false,by simp[results,results103,go_sem,zd (zr HW.out.r 0 (.bool false))],HW.out.no⟩
   ·have hnn:¬(number=next):=by omega
    have hnn2:(number != next)=true:=by rw[wT];exact hnn
    refine (callsIn_wide (n:=5)).1 ?_;refine callsIn_of_wp_marks func103 rfl trivial ?_ rfl;simp only[ntmps103,List.size_toArray,pK,pR,Nat.reduceAdd,Nat.reduceSub,Array.replicate_succ,Array.replicate_zero,List.push_toArray,List.append_toArray,wJ,pT]
    gi_wp2_with fail
    exact⟨.bool false,by simp[results,results103,go_sem,zd (zr HW.out.r 0 (.bool false))],HW.out.no⟩
  ·have hne:number=next:=by omega
   have hn0:¬(next<0):=by omega
   subst hne;obtain⟨zn,rfl⟩:=pP (show 0<=number by omega);have hzl:zn<l.length:=by omega
   have hzl':(zn:Int)<(l.length:Int):=by omega
   obtain⟨x,hx⟩:∃x,l[zn]? =some x:=⟨_,glE hzl⟩;have hxm:=wK hx;have hx255:=h255 x hxm;have hxt:=htl x hxm;have hxk:=hkl x hxm;have hR2:(match zF x.kind with
    |none=>none
    |some h=>if s.is x.kind && qR x && h.fits x.kids.length && xD l x then Zk (qK l f) h x.kids.length x.kids.reverse ((zn:Int)-1) else none)=R:=by
    rw[<-hR];unfold qK;rw[if_neg (by omega),wE,hx];rfl
   replace hR2:=zi hR2;have hB2:Below w0.heap.size w0 w2:=Jy HW.out.fr hB0 hF0;obtain⟨g,off,u,rfl,hA0⟩:=hN.at hx;have hA:=hA0.below hB2;obtain⟨up,uc,rfl⟩:=hA.kids.form;have hK:=zi hA.kids;have HK0:=zi hA0.kids;clear hA0;obtain⟨y0,y1,y2,y3,y4⟩:=x;have a0:=hA.c0;have a1:=hA.c1;have a2:=hA.c2;have a3:=hA.c3;have a4:=hA.c4;simp only at a0 a1 a2 a3 a4 hx255 hxt hxk;have hx':=zi hx;have hxm':=zi hxm;have hSh:=zi (fun W=>zcj y0 W);obtain⟨n3,hn3⟩:=exE (y3.length);rw[hn3] at a3 hxk;have hn3':=zi hn3;clear hR hA hx hxm hn3;refine (callsIn_wide (n:=5)).1 ?_;refine callsIn_of_wp_marks func103 rfl trivial ?_ rfl;simp only[ntmps103,List.size_toArray,pK,pR,Nat.reduceAdd,Nat.reduceSub,Array.replicate_succ,Array.replicate_zero,List.push_toArray,List.append_toArray,wJ,pT];have c5:=zd HW.out.f 0
   gi_wp2_with fail
   refine⟨trivial,(callsIn_wide.2 (hSh.out _)).mono ?_⟩;rintro e w3 hp;obtain⟨hb3,hp⟩:=hp;have hbx:=zf w2 (.cells #[.int .u8 y0,.string ⟨y1.toArray⟩,.int .i64 y2,.slice up n3 uc,.int .i64 y4] 45 (0,0));have hnz:=zh hb3 (zk w2 (.cells #[.int .u8 y0,.string ⟨y1.toArray⟩,.int .i64 y2,.slice up n3 uc,.int .i64 y4] 45 (0,0)));rw[hw2] at hnz;have hb23:=zg hbx hb3;have hW3:=HW.out.below hb23;clear hbx hb3 c0 c1 c2 f2 c5 a0 a1 a2 a3 a4 HW;replace hnz:=zi hnz;have hfn:∀f,Fence.wide.fn f=True:=fun _=>rfl
   rcases hp with⟨h,v,hsh,rfl,hv⟩|⟨hsh,rfl⟩
   ·obtain⟨h1,h2,h3⟩:=zci hsh;have hR3:(if s.is y0 && qR ⟨y0,y1,y2,y3,y4⟩ && h.fits y3.length && xD l ⟨y0,y1,y2,y3,y4⟩ then Zk (qK l f) h y3.length y3.reverse ((zn:Int)-1) else none)=R:=by
     rw[<-hR2.out];simp only[hsh]
    rw[hn3'.out] at hR3;replace hR3:=zi hR3;obtain⟨fv,mv,lv,rfl,hf,hmo,hl⟩:=id hv;obtain⟨fp,fc,rfl⟩:=hf.form;obtain⟨lp,lc,rfl⟩:=hl.form;have hsm:∀(W:World) (a:Addr) (m:Mode),(store a mv m).run prog W=stored prog W a mv m:=by
     intro W a m;cases hm:h.more with
     |none=>
      rw[hm] at hmo;have hmo:mv=.nilFunc:=hmo;rw[hmo];exact Xz _ _ _ _
     |some s=>
      rw[hm] at hmo;obtain⟨f,caps,rfl,_,_⟩:=YC.use hmo;exact JX _ _ _ _ _ _ _
    generalize hfl:h.first.length=nf at *;generalize hll:h.last.length=nl at *;have hb4:=zf w3 (.cells #[.slice fp nf fc,mv,.int .i64 h.least,.slice lp nl lc] 204 (0,0));have hsz4:=zk w3 (.cells #[.slice fp nf fc,mv,.int .i64 h.least,.slice lp nl lc] 204 (0,0));have hW4:=zi (hW3.below hb4);have hnz4:=zi (zh hb4 hnz.out);have hV4:=zi (hv.below hb4);have hb24:=zg hb23 hb4;generalize hw4:w3.alloc (.cells #[.slice fp nf fc,mv,.int .i64 h.least,.slice lp nl lc] 204 (0,0))=w4 at *;have k0:w4.cell? ⟨w.heap.size+2,0,none⟩=some (.int .u8 y0):=zd hnz4.out 0;have k1:w4.cell? ⟨w.heap.size+2,1,none⟩=some (.string ⟨y1.toArray⟩):=zd hnz4.out 1;have k2:w4.cell? ⟨w.heap.size+2,2,none⟩=some (.int .i64 y2):=zd hnz4.out 2;have k3:w4.cell? ⟨w.heap.size+2,3,none⟩=some (.slice up n3 uc):=zd hnz4.out 3;have k4:w4.cell? ⟨w.heap.size+2,4,none⟩=some (.int .i64 y4):=zd hnz4.out 4;have heg2:=fun W=>heg'.out (#[.agg #[.int .u8 y0,.string ⟨y1.toArray⟩,.int .i64 y2,.slice up n3 uc,.int .i64 y4]] ++ caps) W
    have hss4:=zi hsz4;have hbw4:=zg hbw2 hb24;have hB4:=zg hB2 hb24;have hK4:KS w4 (.slice up n3 uc) y3:=by
     rw[<-hn3'.out];exact hK.out.below hb24
    have HK4:=zi hK4;have hC1:=zi (hcs'.out w4 ⟨y0,y1,y2,y3,y4⟩ (.slice up n3 uc) hbw4 hK4 hx255);have hC2:=zi (fun W (hb:Below w4.heap.size w4 W)=>zea ⟨y0,y1,y2,y3,y4⟩ (.slice up n3 uc) W (hK4.below hb) hxt (hG.later (zg hB4 hb)));have hC3:=zi (fun W (hb:Below w4.heap.size w4 W)=>zid h _ n3 W (hV4.out.below hb) (by rw[hfl];exact h1) (by rw[hll];exact h2) (by omega));have hC4:=zi (fun W (hb:Below w4.heap.size w4 W)=>zcd ⟨y0,y1,y2,y3,y4⟩ (.slice up n3 uc) F (.slice (some ⟨g,off,none⟩) l.length nc) iv zn l kv W (zh hb hW4.out.f) ((hN.below hB4).below hb) (hK4.below hb) (by simp only[hn3'.out];exact hxk) h255);clear hR2 hv hf hl hmo hW3 hb23 hb4 hnz hsz4 hK4 hK hcs';generalize qR ⟨y0,y1,y2,y3,y4⟩=b2 at *;generalize hft:h.fits n3=b3 at *;generalize xD l ⟨y0,y1,y2,y3,y4⟩=b4 at *;have hC1':Hid (Calls prog fs (#[uV ⟨y0,y1,y2,y3,y4⟩ (.slice up n3 uc)] ++ caps) w4 (kQ w4 (.bool (s.is y0)))):=hC1;clear hC1;generalize s.is y0=b1 at *
    gi_wp2_with fail
    refine (callsIn_wide.2 hC1'.out).mono ?_;rintro e w5 ⟨rfl,hb5⟩;clear k0 k1 k2 k3 k4 hC1';cases b1 with
    |false=>
     have hR4:none=R:=hR3.out;subst hR4;have hWx:=zi (hW4.out.below hb5);have e2:=zd hWx.out.r 0;have g2:=zl hWx.out.r 0
     gi_wp2_with fail
     exact⟨.bool false,by simp[results,results103,go_sem,zd (zr hWx.out.r 0 (.bool false))],hWx.out.no⟩
    |true=>
    have k0:w5.cell? ⟨w.heap.size+2,0,none⟩=some (.int .u8 y0):=zd (zh hb5 hnz4.out) 0;have k1:w5.cell? ⟨w.heap.size+2,1,none⟩=some (.string ⟨y1.toArray⟩):=zd (zh hb5 hnz4.out) 1;have k2:w5.cell? ⟨w.heap.size+2,2,none⟩=some (.int .i64 y2):=zd (zh hb5 hnz4.out) 2;have k3:w5.cell? ⟨w.heap.size+2,3,none⟩=some (.slice up n3 uc):=zd (zh hb5 hnz4.out) 3;have k4:w5.cell? ⟨w.heap.size+2,4,none⟩=some (.int .i64 y4):=zd (zh hb5 hnz4.out) 4
    gi_wp2_with fail
    refine (callsIn_wide.2 (hC2.out _ hb5)).mono ?_;rintro e w6 ⟨rfl,hb6'⟩;have hb6:=zg hb5 hb6';clear k0 k1 k2 k3 k4 hC2 hb6' hb5;cases b2 with
    |false=>
     have hR4:none=R:=hR3.out;subst hR4;have hWx:=zi (hW4.out.below hb6);have e2:=zd hWx.out.r 0;have g2:=zl hWx.out.r 0
     gi_wp2_with fail
     exact⟨.bool false,by simp[results,results103,go_sem,zd (zr hWx.out.r 0 (.bool false))],hWx.out.no⟩
    |true=>
    have k0:w6.cell? ⟨w.heap.size+2,0,none⟩=some (.int .u8 y0):=zd (zh hb6 hnz4.out) 0;have k1:w6.cell? ⟨w.heap.size+2,1,none⟩=some (.string ⟨y1.toArray⟩):=zd (zh hb6 hnz4.out) 1;have k2:w6.cell? ⟨w.heap.size+2,2,none⟩=some (.int .i64 y2):=zd (zh hb6 hnz4.out) 2;have k3:w6.cell? ⟨w.heap.size+2,3,none⟩=some (.slice up n3 uc):=zd (zh hb6 hnz4.out) 3;have k4:w6.cell? ⟨w.heap.size+2,4,none⟩=some (.int .i64 y4):=zd (zh hb6 hnz4.out) 4;have s0:w6.cell? ⟨w3.heap.size,0,none⟩=some (.slice fp nf fc):=zd (zh hb6 hss4.out) 0;have s1:w6.cell? ⟨w3.heap.size,1,none⟩=some mv:=zd (zh hb6 hss4.out) 1;have s2:w6.cell? ⟨w3.heap.size,2,none⟩=some (.int .i64 h.least):=zd (zh hb6 hss4.out) 2;have s3:w6.cell? ⟨w3.heap.size,3,none⟩=some (.slice lp nl lc):=zd (zh hb6 hss4.out) 3
    gi_wp2_with fail
    refine (callsIn_wide.2 (hC3.out _ hb6)).mono ?_;rintro e w7 ⟨rfl,hb7'⟩;have hb7:=zg hb6 hb7';clear k0 k1 k2 k3 k4 s0 s1 s2 s3 hC3 hb7' hb6;cases b3 with
    |false=>
     have hR4:none=R:=hR3.out;subst hR4;have hWx:=zi (hW4.out.below hb7);have e2:=zd hWx.out.r 0;have g2:=zl hWx.out.r 0
     gi_wp2_with fail
     exact⟨.bool false,by simp[results,results103,go_sem,zd (zr hWx.out.r 0 (.bool false))],hWx.out.no⟩
    |true=>
    have k0:w7.cell? ⟨w.heap.size+2,0,none⟩=some (.int .u8 y0):=zd (zh hb7 hnz4.out) 0;have k1:w7.cell? ⟨w.heap.size+2,1,none⟩=some (.string ⟨y1.toArray⟩):=zd (zh hb7 hnz4.out) 1;have k2:w7.cell? ⟨w.heap.size+2,2,none⟩=some (.int .i64 y2):=zd (zh hb7 hnz4.out) 2;have k3:w7.cell? ⟨w.heap.size+2,3,none⟩=some (.slice up n3 uc):=zd (zh hb7 hnz4.out) 3;have k4:w7.cell? ⟨w.heap.size+2,4,none⟩=some (.int .i64 y4):=zd (zh hb7 hnz4.out) 4;have p0:=zd (zh hb7 hW4.out.p) 0
    gi_wp2_with fail
    refine (callsIn_wide.2 (hC4.out _ hb7)).mono ?_;rintro e w8 ⟨rfl,hb8'⟩;have hb8:=zg hb7 hb8';clear k0 k1 k2 k3 k4 p0 hC4 hb8' hb7;cases b4 with
    |false=>
     have hR4:none=R:=hR3.out;subst hR4;have hWx:=zi (hW4.out.below hb8);have e2:=zd hWx.out.r 0;have g2:=zl hWx.out.r 0
     gi_wp2_with fail
     exact⟨.bool false,by simp[results,results103,go_sem,zd (zr hWx.out.r 0 (.bool false))],hWx.out.no⟩
    |true=>
    have hR4:Zk (qK l f) h n3 y3.reverse ((zn:Int)-1)=R:=hR3.out;replace hR4:=zi hR4;clear hR3;have hF8:=zh hb8 hW4.out.f;have hne1:¬(F=w.heap.size+2):=by omega
    have hne2:¬(w.heap.size+2=F):=by omega
    have hne3:¬(F=w.heap.size):=by omega
    have hne4:¬(w.heap.size=F):=by omega
    have k0:w8.cell? ⟨w.heap.size+2,0,none⟩=some (.int .u8 y0):=zd (zh hb8 hnz4.out) 0;have k1:w8.cell? ⟨w.heap.size+2,1,none⟩=some (.string ⟨y1.toArray⟩):=zd (zh hb8 hnz4.out) 1;have k2:w8.cell? ⟨w.heap.size+2,2,none⟩=some (.int .i64 y2):=zd (zh hb8 hnz4.out) 2;have k3:w8.cell? ⟨w.heap.size+2,3,none⟩=some (.slice up n3 uc):=zd (zh hb8 hnz4.out) 3;have k4:w8.cell? ⟨w.heap.size+2,4,none⟩=some (.int .i64 y4):=zd (zh hb8 hnz4.out) 4;have p0:w8.cell? ⟨w.heap.size,0,none⟩=some (.pointer (some ⟨F,0,none⟩)):=zd (zh hb8 hW4.out.p) 0;have q0:w8.cell? ⟨F,2,none⟩=some (.int .i64 zn):=zd hF8 2;have q1:=zl hF8 2;have hwr:=pJ ((zn:Int)-1) (by omega);have hF9:=zr hF8 2 (.int .i64 ((zn:Int)-1));have hgb9:=zkS w8 F 2 (.int .i64 ((zn:Int)-1));have k3':(w8.setCell ⟨F,2,none⟩ (.int .i64 ((zn:Int)-1))).cell? ⟨w.heap.size+2,3,none⟩=some (.slice up n3 uc):=by
     rw[zd (xp hgb9 (zh hb8 hnz4.out) (by omega))];rfl
    clear k0 k1 k2 k3 k4
    gi_wp2_with fail
    refine (callsIn_wide.2 (zau up n3 uc _)).mono ?_;rintro e w10 ⟨rfl,rfl⟩;clear p0 q0 q1 k3'
    gi_wp2_with fail
    have hW9:Jj (qK l f) h n3 y3.reverse R F (.slice (some ⟨g,off,none⟩) l.length nc) iv w ((zn:Int)-1) #[.int .u8 y0,.string ⟨y1.toArray⟩,.int .i64 y2,.slice up n3 uc,.int .i64 y4] #[.slice fp nf fc,mv,.int .i64 h.least,.slice lp nl lc] w3.heap.size (.agg #[.slice fp nf fc,mv,.int .i64 h.least,.slice lp nl lc]) 0 [] (w8.setCell ⟨F,2,none⟩ (.int .i64 ((zn:Int)-1))):=by
     have hw3F:w3.heap.size≠F:=by
      have:=hss4.out;have h3:=(gtA hnz4.out);have h4:=hb24.size;intro e;have:=XK (zh hb8 hss4.out) hF8 (by decide);exact this e
     refine⟨(zn:Int)-1,⟨vF (hW4.out.below hb8).fr hgb9,hF9,xp hgb9 (zh hb8 hW4.out.p) (by omega),xp hgb9 (zh hb8 hW4.out.r) (by omega)⟩,xp hgb9 (zh hb8 hnz4.out) (by omega),xp hgb9 (zh hb8 hss4.out) hw3F,(hV4.out.below hb8).gb hF8 hgb9,hR4.out,by omega,by omega,pU _⟩
    have hB9:Below w0.heap.size w0 (w8.setCell ⟨F,2,none⟩ (.int .i64 ((zn:Int)-1))):=Jy hgb9 (zg hB4 hb8) hF0;have hs9:w.heap.size<=(w8.setCell ⟨F,2,none⟩ (.int .i64 ((zn:Int)-1))).heap.size:=by
     obtain⟨nx,hw,_⟩:=hW9;exact hw.fr.size
    have hs92:w.heap.size+2<w8.heap.size:=(Array.getElem?_eq_some_iff.1 (zh hb8 hnz4.out)).1;have hs89:(w8.setCell ⟨F,2,none⟩ (.int .i64 ((zn:Int)-1))).heap.size=w8.heap.size:=by simp
    generalize w8.setCell ⟨F,2,none⟩ (.int .i64 ((zn:Int)-1))=w9 at *;generalize hact:(Act.mk _ [])=a0;generalize hw10:w9.alloc (.cells #[.slice up n3 uc] 24 (0,0))=w10;have hsz:w10.heap.size=w9.heap.size+1:=by rw[<-hw10];simp
    have hbw:Below w9.heap.size w9 w10:=by rw[<-hw10];exact zf _ _
    have hC:w10.heap[w8.heap.size]? =some (.cells #[.slice up y3.length uc] 24 (0,0)):=by rw[<-hs89,<-hw10,hn3'.out];exact zk _ _
    have hB10:Below w0.heap.size w0 w10:=zg hB9 hbw;have h00:=hB9.size;have hNI:Jj (qK l f) h n3 y3.reverse R F (.slice (some ⟨g,off,none⟩) l.length nc) iv w ((zn:Int)-1) #[.int .u8 y0,.string ⟨y1.toArray⟩,.int .i64 y2,.slice up n3 uc,.int .i64 y4] #[.slice fp nf fc,mv,.int .i64 h.least,.slice lp nl lc] w3.heap.size (.agg #[.slice fp nf fc,mv,.int .i64 h.least,.slice lp nl lc]) w10.heap.size [] w10:=by
     obtain⟨nx,j1,j2,j3,j4,j5,j6,j7,_⟩:=hW9;exact⟨nx,j1.below hbw,zh hbw j2,zh hbw j3,j4.below hbw,j5,j6,j7,pE _⟩
    have hFC:w9.heap.size≠F:=by
     obtain⟨nx,j1,_⟩:=hW9;have:=(gtA j1.f);omega
    clear hW9;refine uO (e1:=fun x:Int×Int=>.int .i64 x.1) (e2:=fun x=>.int .i64 x.2) (gf:=144) (la:= #[]) (lb:= #[.pointer (some ⟨w8.heap.size,0,none⟩)]) rfl (by omega) (by rw[<-hact];rfl) trivial (enters_of func144 (by kernel_rfl) rfl)
     (zat w0 w8.heap.size (.slice up y3.length uc) y3 HK0.out (by rw[hn3'.out];exact hxk) w10 hB10 hC _ (by omega)) (fun r h=>h.elim) XS.trans (fun W l o o' hl ho hc=>XS.put (w:=w10) (by omega) W l o o' hl ho hc)
     (Jj (qK l f) h n3 y3.reverse R F (.slice (some ⟨g,off,none⟩) l.length nc) iv w ((zn:Int)-1) #[.int .u8 y0,.string ⟨y1.toArray⟩,.int .i64 y2,.slice up n3 uc,.int .i64 y4] #[.slice fp nf fc,mv,.int .i64 h.least,.slice lp nl lc] w3.heap.size (.agg #[.slice fp nf fc,mv,.int .i64 h.least,.slice lp nl lc]) w10.heap.size)
     (fun c _ W=>zbN R F w w10.heap.size c W) (Jj.own (by omega)) (fun c=>zbN.own (by omega) c) hNI
     (fun pre x a' W=>Jj (qK l f) h n3 y3.reverse R F (.slice (some ⟨g,off,none⟩) l.length nc) iv w ((zn:Int)-1) #[.int .u8 y0,.string ⟨y1.toArray⟩,.int .i64 y2,.slice up n3 uc,.int .i64 y4] #[.slice fp nf fc,mv,.int .i64 h.least,.slice lp nl lc] w3.heap.size (.agg #[.slice fp nf fc,mv,.int .i64 h.least,.slice lp nl lc]) w10.heap.size pre W/\a'={tmps:=(((a0.tmps.setIfInBounds 76 (.int .i64 x.1)).setIfInBounds 77 (.int .i64 x.2)).setIfInBounds 10 (.int .i64 x.1)).setIfInBounds 11 (.int .i64 x.2),defers:=[]})
     (fun pre x a' W l2 o o' ⟨j1,j2⟩ hl ho hc=>⟨Jj.own (B:=w10.heap.size) (by omega) pre W _ (some l2) j1 (grownBy_putObj' W l2 o') (fun r e=>by cases e;exact .inr ⟨hl,o,ho,hc⟩),j2⟩) ?assign ?body ?done ?stop
    case assign=>
     rintro L pre ⟨xi,xk⟩ W K hI hG hK2;subst hact;simp only[yG,yE,yF]
     gi_wp2_with fail
     exact hK2 _ _ (KeepsOthers.refl _) (XS.refl _ _ _ _ _) ⟨hI,by simp only[yG,yE,yF]⟩
    case body=>
     rintro L pre ⟨xi,xk⟩ a' W ⟨hI,rfl⟩ ⟨hpl,hxi⟩;subst hact;simp only[yG,yE,yF];obtain⟨nx,hw,hnb,hso,hvw,hfk,hx1,hx2,hsB⟩:=hI;obtain⟨k,hk⟩:=exE (n3-1-pre.length);simp only[hn3'.out] at hpl hxi;rw[hk] at hxi;obtain⟨rfl,rfl⟩:xi=(k:Int)/\xk=y3.getD k 0:=by
      have h1:=congrArg Prod.fst hxi;have h2:=congrArg Prod.snd hxi;simp only at h1 h2;exact⟨by omega,h2⟩
     have hkn:k<n3:=by omega
     have hdrop:y3.reverse.drop pre.length=y3.getD k 0 :: y3.reverse.drop (pre.length+1):=by
      rw[List.drop_eq_getElem_cons (by rw[gB,hn3'.out];exact hpl),List.getElem_reverse];congr 1;rw[pA,glE (by rw[hn3'.out];exact hkn)];simp only[hn3'.out,hk];rfl
     obtain⟨s1,hs1⟩:=zjM hft hkn;have hfk2:(qK l f nx (y3.getD k 0) s1).bind (Zk (qK l f) h n3 (y3.reverse.drop (pre.length+1)))=R:=by
      rw[<-hfk,hdrop];unfold Zk;rw[show (y3.reverse.drop (pre.length+1)).length=k by rw[wW,gB,hn3'.out];omega,hs1]
     generalize y3.getD k 0=z at *;have HFK:=zi hfk2;clear hfk hfk2 hdrop hxi;have hBW:Below w0.heap.size w0 W:=Jy hw.fr hB0 hF0;have hgd:(zk1 F).rel W W.drew:=uv bR.drew _;have HW:=zi hw;have HNB:=zi hnb;have HSO:=zi hso;have HVW:=zi hvw;have hsbF:w3.heap.size≠F:=XK hso hw.f (by decide);have hS:∀V,(zk1 F).rel W.drew V->V.cell? ⟨w.heap.size,0,none⟩=some (.pointer (some ⟨F,0,none⟩))/\V.cell? ⟨w.heap.size+2,3,none⟩=some (.slice up n3 uc)/\V.cell? ⟨w3.heap.size,0,none⟩=some (.slice fp nf fc)/\V.cell? ⟨w3.heap.size,1,none⟩=some mv/\V.cell? ⟨w3.heap.size,2,none⟩=some (.int .i64 h.least)/\V.cell? ⟨w3.heap.size,3,none⟩=some (.slice lp nl lc):=fun V hV=>by
      have hg:=vF hgd hV;exact⟨zd (xp hg HW.out.p (by omega)) 0,zd (xp hg HNB.out (by omega)) 3,zd (xp hg HSO.out hsbF) 0,zd (xp hg HSO.out hsbF) 1,zd (xp hg HSO.out hsbF) 2,zd (xp hg HSO.out hsbF) 3⟩
     have hAt:=zi (zkV h _ k n3 s1 W.drew (hvw.below bR.drew) (by rw[hfl];exact h1) (by rw[hll];exact h2) (by omega) hkn hs1);have hdF:W.drew.heap[F]? =some (fmO (.slice (some ⟨g,off,none⟩) l.length nc) iv nx):=HW.out.f;clear hw hnb hso hvw
     gi_wp2_with fail
     refine LodeX.Jl (RR:=zk1 F) (Xp:=fun _ _=>False) [(0,1),(1,0),(2,1),(3,0),(4,0),(5,1),(6,0),(7,2),(8,2),(9,0)] (by kernel_rfl) (by kernel_rfl) (by kernel_rfl) (fun _ _ _ _ h=>h.elim) ?_;refine LodeX.qT ?_;clear hS;refine LodeX.zZ rfl rfl (fun K hK V hV=>?_);cases hV;go_simp;refine hAt.out.mono ?_;rintro e V1 ⟨y,rfl,hy,hb1⟩;have hI1:=zi (hIH.out nx z s1 y V1 (by omega) (by omega) hx1 (zg (zg hBW bR.drew) hb1) (zh hb1 hdF) hy);have hg1:=vF hgd (uv hb1 (some F));go_simp;refine⟨uv hb1 _,hK _ _ ?_⟩;clear hK K
     try simp only[Act.put,yG,yE,yF]
     refine LodeX.zZ rfl rfl (fun K hK V hV=>?_);cases hV;go_simp;refine hI1.out.mono ?_;rintro e V2 ⟨hg2,hres⟩;have hg12:=vF hg1 hg2;have hko:KeepsOthers W V2:=KeepsOthers.of_grownBy hg12 (fun j o e ho=>by
      cases e;have hf:=HW.out.f;rw[hf] at ho;cases ho;rfl)
     have hkp:XS w0 w8.heap.size 24 (.slice up y3.length uc) W V2:=⟨zfs hg12 hBW.size hF0,fun e=>xp hg12 e (by omega)⟩;rcases hres with⟨n2,ho,rfl,hF2,hn2a,hn2b⟩|⟨ho,rfl⟩
     ·have hfk3:Zk (qK l f) h n3 (y3.reverse.drop (pre.length+1)) n2=R:=by
       have:=HFK.out;rw[ho] at this;exact this
      go_simp;refine⟨hg2,hK _ _ ?_⟩;clear hK K
      try simp only[Act.put,yG,yE,yF]
      have hS:∀V:World,True->True:=fun _ h=>h
      refine LodeX.qT ?_;refine LodeX.zC fun V hV=>?_
      cases hV
      gi_wp2_with fail
      exact⟨hko,hkp,n2,⟨vF HW.out.fr hg12,hF2,xp hg12 HW.out.p (by omega),xp hg12 HW.out.r (by omega)⟩,xp hg12 HNB.out (by omega),xp hg12 HSO.out hsbF,HVW.out.gb HW.out.f hg12,by rw[pC,pI];exact hfk3,hn2a,by omega,pN hsB hg12.size⟩
     ·have hR5:R=none:=by
       have:=HFK.out;rw[ho] at this;exact this.symm
      subst hR5;go_simp;refine⟨hg2,hK _ _ ?_⟩;clear hK K
      try simp only[Act.put,yG,yE,yF]
      have hS:∀V:World,True->True:=fun _ h=>h
      refine LodeX.qT ?_;refine LodeX.zC fun V hV=>?_
      cases hV;have hr2:=xp hg12 HW.out.r (by omega);have e2:=zd hr2 0;have g2:=zl hr2 0;have hr2':=zi hr2;clear hr2
      gi_wp2_with fail
      exact⟨hko.trans (KeepsOthers.setCell _ _ _),rfl,rfl,zh9 (vF HW.out.fr hg12) (by simp) _,zr hr2'.out 0 (.bool false),by simpa using pN hsB hg12.size⟩
    case done=>
     intro Dd xs W hS hI hDd hdd;obtain⟨nx,hw,hnb,hso,hvw,hfk,hx1,hx2,hsB⟩:=hI;subst hact;have hfk2:some nx=R:=by
      rw[hS,List.drop_eq_nil_of_le (by simp)] at hfk;exact hfk
     subst hfk2;have tr:=zd hw.r 0;have fr:=zl hw.r 0;have HWW:=zi hw;clear hw hnb hso hvw hfk HK0 hss4 hnz4 hW4 hV4
     gi_wp2_with fail
     refine⟨by simp,.inl ⟨_,_,rfl,run_takeDeferred ((zt (by omega)).trans hdd),?_⟩⟩;have u0:=zd (jI (l:=Dd) (o':=.deferred none) (zr HWW.out.r 0 (.bool true)) (by omega)) 0;refine⟨.bool true,by simp[results,results103,go_sem,u0],?_⟩;refine⟨zbv (zh9 HWW.out.fr (by simp) _) (B:=w10.heap.size) (by omega) (grownBy_putObj' _ Dd _) (fun r e=>by cases e;exact hDd),.inl ⟨nx,rfl,rfl,(World.putObj_heap_other (by omega)).trans ((zt (by omega)).trans HWW.out.f),hx1,by omega⟩⟩
    case stop=>
     rintro Dd c pre W _ ⟨rfl,rfl,hgs,hrs,hsB⟩ hDd hdd;subst hact
     gi_wp2_with fail
     refine⟨by simp,.inl ⟨_,_,rfl,run_takeDeferred hdd,?_⟩⟩;have u0:=zd (jI (l:=Dd) (o':=.deferred none) hrs (by omega)) 0;refine⟨.bool false,by simp[results,results103,go_sem,u0],?_⟩;exact⟨zbv hgs (B:=w10.heap.size) (by omega) (grownBy_putObj' _ Dd _) (fun r e=>by cases e;exact hDd),.inr ⟨rfl,rfl⟩⟩
   ·have hR3:R=none:=by
     rw[<-hR2.out];simp only[hsh]
    subst hR3;have e2:=zd (zh (zf w3 (.cells #[.slice none 0 0,.nilFunc,.int .i64 0,.slice none 0 0] 204 (0,0))) hW3.r) 0;have g2:=zl (zh (zf w3 (.cells #[.slice none 0 0,.nilFunc,.int .i64 0,.slice none 0 0] 204 (0,0))) hW3.r) 0;have hW4:=zi (hW3.below (zf w3 (.cells #[.slice none 0 0,.nilFunc,.int .i64 0,.slice none 0 0] 204 (0,0))));clear hR2 hsh hW3
    gi_wp2_with fail
    exact⟨.bool false,by simp[results,results103,go_sem,zd (zr hW4.out.r 0 (.bool false))],hW4.out.no⟩
end
section
open Go.RowKit Lode Go.Shelf
attribute [local go_sem] Oper.semAt_some
open Go.Proofs.Tryz
def Ji(l:List Nd)(rk:List Int)(R:Option Int)(nv iv:Value)(w:World)(B:Nat)(pre:List (Int×Int))(W:World):Prop:=
 ∃nx,W.heap[w.heap.size+1+1]? =some (fmO nv iv nx)/\W.heap[w.heap.size+1+1+1]? =some (QX (w.heap.size+1+1))/\W.heap[w.heap.size+1]? =some (.cells #[.bool false] 4 (0,0))/\Yh l (rk.drop pre.length) nx=R/\-1<=nx/\nx<l.length/\Below w.heap.size w W/\B<=W.heap.size
def zbL(R:Option Int)(w:World)(B:Nat)(c:Code)(W:World):Prop:=c=.ret/\R=none/\W.heap[w.heap.size+1]? =some (.cells #[.bool false] 4 (0,0))/\Below w.heap.size w W/\B<=W.heap.size
theorem Ji.own{l:List Nd}{rk:List Int}{R:Option Int}{nv iv:Value}{w:World}{B:Nat}(hB:w.heap.size<=B):YE (fun _=>False) B (Ji l rk R nv iv w B):=by
 rintro pre W W' row ⟨nx,h2,h3,h4,h5,h6,h7,h8,h9⟩ hg hr;have hr1:∀r,row=some r->B<=r:=fun r e=>(hr r e).elim False.elim And.left
 have hr2:∀r,row=some r->∃o:Obj,W.heap[r]? =some o/\o.isCells=false:=fun r e=>(hr r e).elim False.elim And.right
 exact⟨nx,xn hg hr2 h2,xn hg hr2 h3,xn hg hr2 h4,h5,h6,h7,h8.grown hg h8.size (fun r e=>pN hB (hr1 r e)),pN h9 hg.size⟩
theorem zbL.own{R:Option Int}{w:World}{B:Nat}(hB:w.heap.size<=B)(c:Code):YE (fun _=>False) B (fun (_:List (Int×Int)) W=>zbL R w B c W):=by
 rintro pre W W' row ⟨h1,h2,h4,h8,h9⟩ hg hr;have hr1:∀r,row=some r->B<=r:=fun r e=>(hr r e).elim False.elim And.left
 have hr2:∀r,row=some r->∃o:Obj,W.heap[r]? =some o/\o.isCells=false:=fun r e=>(hr r e).elim False.elim And.right
 exact⟨h1,h2,xn hg hr2 h4,h8.grown hg h8.size (fun r e=>pN hB (hr1 r e)),pN h9 hg.size⟩
theorem zcZ(t:yo)(nv iv:Value)(w:World)(hT:TR w nv iv t)(hG:qH w)(h255:∀x∈t.nodes,x.kind<=255)(htl:∀x∈t.nodes,x.text.length<=1000000000000)(hkl:∀x∈t.nodes,x.kids.length<=100000)(hln:t.nodes.length<=100000)(hil:t.items.length<=100000):
 Calls prog 72 #[.agg #[nv,iv]] w (kQ w (.bool (qD t))):=by
 obtain⟨np,nc,ip,ic,rfl,rfl⟩:=hT.form;obtain⟨kv,hN⟩:=hT.nodes;have hI:=hT.items;obtain⟨l,its⟩:=t;unfold qD;simp only at hN hI h255 htl hkl hln hil ⊢;obtain⟨R,hR⟩:=exE (Yh l its.reverse ((l.length:Int)-1));rw[hR];have hND:=zi (zgD l kv (.slice np l.length nc) (.slice ip its.length ic) w (w.heap.size+1+1) hN hG (by omega) h255 htl hkl hln);obtain⟨m,hm⟩:=exE (l.length);obtain⟨q,hq⟩:=exE (its.length);have hwr:=pJ ((m:Int)-1) (by omega);rw[hm] at hR hln hND ⊢;rw[hq] at hil hND ⊢;have hm':=zi hm;have hq':=zi hq;have hI':=zi hI;have hR':=zi hR;have hfn:∀f,Fence.wide.fn f=True:=fun _=>rfl
 clear hT hN hm hq hI hR hG h255 htl hkl;have hst:Ji l its.reverse R (.slice np m nc) (.slice ip q ic) w 0 [] ((((w.alloc (.cells #[.slice np m nc,.slice ip q ic] 26 (0,0))).alloc (.cells #[.bool false] 4 (0,0))).alloc (fmO (.slice np m nc) (.slice ip q ic) ((m:Int)-1))).alloc (QX (w.heap.size+1+1))):=by
  have h0:=zJ [.cells #[.slice np m nc,.slice ip q ic] 26 (0,0),.cells #[.bool false] 4 (0,0),fmO (.slice np m nc) (.slice ip q ic) ((m:Int)-1),QX (w.heap.size+1+1)] w;exact⟨(m:Int)-1,h0 2 _ rfl,h0 3 _ rfl,h0 1 _ rfl,hR'.out,by omega,by rw[hm'.out];omega,zX [.cells #[.slice np m nc,.slice ip q ic] 26 (0,0),.cells #[.bool false] 4 (0,0),fmO (.slice np m nc) (.slice ip q ic) ((m:Int)-1),QX (w.heap.size+1+1)] w,pU _⟩
 replace hst:=zi hst;refine (callsIn_wide (n:=5)).1 ?_;refine callsIn_of_wp_marks func72 rfl trivial ?_ rfl;simp only[ntmps72,List.size_toArray,pK,pR,Nat.reduceAdd,Nat.reduceSub,Array.replicate_succ,Array.replicate_zero,List.push_toArray,List.append_toArray,wJ,pT]
 gi_wp2_with fail
 refine (callsIn_wide.2 (zau ip q ic _)).mono ?_;rintro e w10 ⟨rfl,rfl⟩
 gi_wp2_with fail
 have hs9:((((w.alloc (.cells #[.slice np m nc,.slice ip q ic] 26 (0,0))).alloc (.cells #[.bool false] 4 (0,0))).alloc (fmO (.slice np m nc) (.slice ip q ic) ((m:Int)-1))).alloc (QX (w.heap.size+1+1))).heap.size=w.heap.size+1+1+1+1:=by simp
 generalize hw9:((((w.alloc (.cells #[.slice np m nc,.slice ip q ic] 26 (0,0))).alloc (.cells #[.bool false] 4 (0,0))).alloc (fmO (.slice np m nc) (.slice ip q ic) ((m:Int)-1))).alloc (QX (w.heap.size+1+1)))=w9 at *;generalize hact:(Act.mk _ [])=a0;generalize hw10:w9.alloc (.cells #[.slice ip q ic] 24 (0,0))=w10;have hsz:w10.heap.size=w.heap.size+1+1+1+1+1:=by rw[<-hw10];simp;omega
 have hbw:Below w9.heap.size w9 w10:=by rw[<-hw10];exact zf _ _
 have hC:w10.heap[w.heap.size+1+1+1+1]? =some (.cells #[.slice ip its.length ic] 24 (0,0)):=by rw[<-hs9,<-hw10,hq'.out];exact zk _ _
 have hNI:Ji l its.reverse R (.slice np m nc) (.slice ip q ic) w w10.heap.size [] w10:=by
  obtain⟨nx,j1,j2,j3,j4,j5,j6,j7,_⟩:=hst.out;exact⟨nx,zh hbw j1,zh hbw j2,zh hbw j3,j4,j5,j6,zg j7 hbw,pE _⟩
 have hB10:Below w.heap.size w w10:=by
  obtain⟨nx,j1,j2,j3,j4,j5,j6,j7,_⟩:=hNI;exact j7
 refine uO (e1:=fun x:Int×Int=>.int .i64 x.1) (e2:=fun x=>.int .i64 x.2) (gf:=144) (la:= #[]) (lb:= #[.pointer (some ⟨w.heap.size+1+1+1+1,0,none⟩)]) rfl (by omega) (by rw[<-hact];rfl) trivial (enters_of func144 (by kernel_rfl) rfl)
  (zat w (w.heap.size+1+1+1+1) (.slice ip its.length ic) its hI'.out (by rw[hq'.out];exact hil) w10 hB10 hC _ (by omega)) (fun r h=>h.elim) XS.trans (fun W l o o' hl ho hc=>XS.put (w:=w10) (by omega) W l o o' hl ho hc)
  (Ji l its.reverse R (.slice np m nc) (.slice ip q ic) w w10.heap.size)
  (fun c _ W=>zbL R w w10.heap.size c W) (Ji.own (by omega)) (fun c=>zbL.own (by omega) c) hNI
  (fun pre x a' W=>Ji l its.reverse R (.slice np m nc) (.slice ip q ic) w w10.heap.size pre W/\a'={tmps:=((a0.tmps.setIfInBounds 16 (.int .i64 x.1)).setIfInBounds 17 (.int .i64 x.2)).setIfInBounds 5 (.int .i64 x.2),defers:=[]})
  (fun pre x a' W l2 o o' ⟨j1,j2⟩ hl ho hc=>⟨Ji.own (B:=w10.heap.size) (by omega) pre W _ (some l2) j1 (grownBy_putObj' W l2 o') (fun r e=>by cases e;exact .inr ⟨hl,o,ho,hc⟩),j2⟩) ?assign ?body ?done ?stop
 case assign=>
  rintro L pre ⟨xi,xk⟩ W K hI hG hK2;subst hact;simp only[yG,yE,yF]
  gi_wp2_with fail
  exact hK2 _ _ (KeepsOthers.refl _) (XS.refl _ _ _ _ _) ⟨hI,by simp only[yG,yE,yF]⟩
 case body=>
  rintro L pre ⟨xi,xk⟩ a' W ⟨hI,rfl⟩ ⟨hpl,hxi⟩;subst hact;simp only[yG,yE,yF];obtain⟨nx,h1,h2,h3,h4,h5,h6,h7,h8⟩:=hI;obtain⟨k,hk⟩:=exE (q-1-pre.length);simp only[hq'.out] at hpl hxi;rw[hk] at hxi;obtain⟨rfl,rfl⟩:xi=(q:Int)-1-pre.length/\xk=its.getD k 0:=by
   have e1:=congrArg Prod.fst hxi;have e2:=congrArg Prod.snd hxi;simp only at e1 e2;exact⟨e1,e2⟩
  have hkn:k<q:=by omega
  have hdrop:its.reverse.drop pre.length=its.getD k 0 :: its.reverse.drop (pre.length+1):=by
   rw[List.drop_eq_getElem_cons (by rw[gB,hq'.out];exact hpl),List.getElem_reverse];congr 1;rw[pA,glE (by rw[hq'.out];exact hkn)];simp only[hq'.out,hk];rfl
  have hfk2:(qK l (l.length+1) nx (its.getD k 0) .item).bind (Yh l (its.reverse.drop (pre.length+1)))=R:=by
   rw[<-h4,hdrop];rfl
  generalize its.getD k 0=z at *;have HFK:=zi hfk2;have hN1:=zi (hND.out (l.length+1) nx z .item (.func (.func 104) #[] #[]) W (by omega) (by rw[<-hm'.out];exact h6) h5 h7 h1 (zi4 W));have c0:=zd h2 0;have H1:=zi h1;have H2:=zi h2;have H3:=zi h3;clear h1 h2 h3 h4 hfk2 hdrop hxi
  gi_wp2_with fail
  refine (LodeX.Xl hN1.out).mono ?_;rintro e V2 ⟨hg2,hres⟩;clear c0;have hko:KeepsOthers W V2:=KeepsOthers.of_grownBy hg2 (fun j o e ho=>by
   cases e;have hf:=H1.out;rw[hf] at ho;cases ho;rfl)
  have hkp:XS w (w.heap.size+1+1+1+1) 24 (.slice ip its.length ic) W V2:=⟨zfs hg2 h7.size (by omega),fun e=>xp hg2 e (by omega)⟩;have hb2:=Jy hg2 h7 (by omega);have hp2:=xp hg2 H2.out (by omega);have hr2:=xp hg2 H3.out (by omega);rcases hres with⟨n2,ho,rfl,hF2,hn2a,hn2b⟩|⟨ho,rfl⟩
  ·have hfk3:Yh l (its.reverse.drop (pre.length+1)) n2=R:=by
    have:=HFK.out;rw[ho] at this;exact this
   gi_wp2_with fail
   exact⟨hko,hkp,n2,hF2,hp2,hr2,by rw[pC,pI];exact hfk3,hn2a,by omega,hb2,pN h8 hg2.size⟩
  ·have hR5:R=none:=by
    have:=HFK.out;rw[ho] at this;exact this.symm
   subst hR5;have c2:=zd hr2 0;have f2:=zl hr2 0;have HR2:=zi hr2;clear hp2 hr2
   gi_wp2_with fail
   exact⟨hko.trans (KeepsOthers.setCell _ _ _),rfl,rfl,zr HR2.out 0 (.bool false),hb2.setCell (by simp) _,by simpa using pN h8 hg2.size⟩
 case done=>
  intro Dd xs W hS hI hDd hdd;obtain⟨nx,h1,h2,h3,h4,h5,h6,h7,h8⟩:=hI;subst hact;have hfk2:some nx=R:=by
   rw[hS,List.drop_eq_nil_of_le (by simp)] at h4;exact h4
  subst hfk2;have c0:=zd h2 0;have c1:=zd h1 2;have c2:=zd h3 0;have f2:=zl h3 0;have H3:=zi h3;clear h1 h2 h3 h4
  gi_wp2_with fail
  refine⟨by simp,.inl ⟨_,_,rfl,run_takeDeferred ((zt (by omega)).trans hdd),?_⟩⟩;have u0:=zd (jI (l:=Dd) (o':=.deferred none) (zr H3.out 0 (.bool (decide (nx<0)))) (by omega)) 0;refine⟨.bool (decide (nx<0)),by simp[results,results72,go_sem,u0],rfl,?_⟩;exact (h7.setCell (by simp) _).grown (grownBy_putObj' _ Dd _) (by simpa using h7.size) (fun r e=>by cases e;omega)
 case stop=>
  rintro Dd c pre W _ ⟨rfl,rfl,hrs,hbs,hsB⟩ hDd hdd;subst hact
  gi_wp2_with fail
  refine⟨by simp,.inl ⟨_,_,rfl,run_takeDeferred hdd,?_⟩⟩;have u0:=zd (jI (l:=Dd) (o':=.deferred none) hrs (by omega)) 0;refine⟨.bool false,by simp[results,results72,go_sem,u0],rfl,?_⟩;exact hbs.grown (grownBy_putObj' _ Dd _) hbs.size (fun r e=>by cases e;omega)
end
section
open Go.RowKit Lode Go.Shelf
attribute [local go_sem ↓] Go.wp_at_zero Go.wp_at_succ
open Go.Proofs.Tryz
theorem zer(v:Value)(f:Nat)(lb:Array Value)(l:List Nd)(kv:List Value)(p:Nd->Bool)(w:World)(heg:Enters prog f)(hN:NS w v l kv)(hn:l.length<=100000)
 (hp:∀W (x:Nd) (u:Value),Below w.heap.size w W->x∈l->KS W u x.kids->Calls prog f (#[uV x u] ++ lb) W (kQ W (.bool (p x)))) :
 Calls prog 73 #[v,.func (.func f) #[] lb] w (kQ w (.bool (l.any p))):=by
 have hI:=zi (ZA v f lb l kv p w heg hN hn hp);have he:=zbn p l;rw[<-he];clear he hp heg;obtain⟨q,c,rfl⟩:=hN.form;clear hN;generalize Xo p l=z at *;generalize l.length=n at *;go_enter func73,ntmps73;go_wp2_with fail;refine hI.out.mono ?_;rintro e w1 ⟨rfl,hb⟩;go_wp2;go_ret;exact⟨rfl,hb⟩
theorem zeq(x:Nd)(u:Value)(w:World)(hk:KS w u x.kids):Calls prog 74 #[uV x u] w (kQ w (.bool (!ye x))):=by
 have hS:=fun W (hb:Below w.heap.size w W)=>QW x u W (hk.below hb)
 obtain⟨p,c,rfl⟩:=hk.form;clear hk;generalize ye x=b at *;obtain⟨k,t,n,ks,a⟩:=x;simp only[uV] at hS ⊢;generalize ks.length=m at *;have hz:=zk w (.cells #[.int .u8 k,.string ⟨t.toArray⟩,.int .i64 n,.slice p m c,.int .i64 a] 45 (0,0));have hA:=zf w (.cells #[.int .u8 k,.string ⟨t.toArray⟩,.int .i64 n,.slice p m c,.int .i64 a] 45 (0,0));have c0:=zd hz 0;have c1:=zd hz 1;have c2:=zd hz 2;have c3:=zd hz 3;have c4:=zd hz 4;clear hz;replace hS:=zi hS;go_enter func74,ntmps74;go_wp2_with fail;refine (hS.out _ hA).mono ?_;rintro e w1 ⟨rfl,hb⟩;go_wp2;go_ret;exact⟨rfl,zg hA hb⟩
structure Zo(t:yo):Prop where
 kind:∀x∈t.nodes,x.kind<=255
 text:∀x∈t.nodes,x.text.length<=1000000000000
 kids:∀x∈t.nodes,x.kids.length<=1999
 nodes:t.nodes.length<=100000
 items:t.items.length<=100000
theorem Xh{t:yo}(h:Zo t)(hf:qD t=true):(∀(i:Nat) (x:Nd),t.nodes[i]? =some x->∀k∈x.kids,0<=k/\k<(i:Int))/\∀k∈t.items,0<=k/\k<(t.nodes.length:Int):=by
 rw[Yy t h.kids] at hf;obtain⟨hF,hI,hR⟩:=Zj hf;refine⟨fun i x hx k hk=>?_,fun k hk=>?_⟩
 ·obtain⟨hi,rfl⟩:=gE.1 hx;exact jY hF hi k hk
 ·have:=zbp _ _ _ _ hI k (wY.2 hk);omega
theorem ub(t:yo)(nv iv:Value)(w:World)(hT:TR w nv iv t)(hG:qH w)(hok:Zo t):Calls prog 42 #[.agg #[nv,iv]] w (kQ w (.int .i64 (zR t:Nat))):=by
 obtain⟨r,hr⟩:=exE (zR t);rw[hr];unfold zR at hr;obtain⟨np,nc,ip,ic,rfl,rfl⟩:=hT.form;obtain⟨n,hn⟩:=exE (t.nodes.length);obtain⟨m,hm⟩:=exE (t.items.length);rw[hn,hm] at hr hT ⊢;have hz:=zk w (.cells #[.slice np n nc,.slice ip m ic] 26 (0,0));have hA:=zf w (.cells #[.slice np n nc,.slice ip m ic] 26 (0,0));have hF:=zi (fun W (hb:Below w.heap.size w W)=>zcZ t _ _ W (hT.below hb) (hG.later hb) hok.kind hok.text (fun x hx=>by have:=hok.kids x hx;omega) hok.nodes hok.items);have hD:=zi (fun (hf:qD t=true) (hn2:t.nodes.length<=1000) W (hb:Below w.heap.size w W)=>QZ t _ _ W (hT.below hb) (Xh hok hf).1 (Xh hok hf).2 hn2 hok.items (fun x hx=>by have:=hok.kids x hx;omega));have hS:=zi (fun W (hb:Below w.heap.size w W)=>zer (.slice np n nc) 74 #[] t.nodes (hT.below hb).nodes.choose (fun x=> !ye x) W (enters_of (P:=prog) func74 (by kernel_rfl) rfl) (hT.below hb).nodes.choose_spec hok.nodes (fun V x u _ _ hk=>by rw[Array.append_empty];exact zeq x u V hk));have hcell:∀W,Below (w.alloc (.cells #[.slice np n nc,.slice ip m ic] 26 (0,0))).heap.size (w.alloc (.cells #[.slice np n nc,.slice ip m ic] 26 (0,0))) W->W.cell? ⟨w.heap.size,0,none⟩=some (.slice np n nc)/\W.cell? ⟨w.heap.size,1,none⟩=some (.slice ip m ic):=fun W hb=>⟨zd (zh hb hz) 0,zd (zh hb hz) 1⟩
 replace hn:=zi hn;replace hr:=zi hr;obtain⟨c0,c1⟩:=hcell _ bR;clear hT hG hz;replace hcell:=zi hcell;by_cases h1000:1000<n
 ·have h1':(1000:Int)<(n:Int):=by omega
  have hr3:5=r:=by rw[<-hr.out,if_pos (.inl h1000)]
  subst hr3;go_enter func42,ntmps42;go_wp2;go_ret;exact⟨rfl,hA⟩
 by_cases h40:40<m
 ·have h1':¬((1000:Int)<(n:Int)):=by omega
  have h4':(40:Int)<(m:Int):=by omega
  have hr3:5=r:=by rw[<-hr.out,if_pos (.inr h40)]
  subst hr3;go_enter func42,ntmps42;go_wp2;go_ret;exact⟨rfl,hA⟩
 have h1':¬((1000:Int)<(n:Int)):=by omega
 have h4':¬((40:Int)<(m:Int)):=by omega
 have hr2:=hr.out;rw[if_neg (by omega)] at hr2;clear hr;go_enter func42,ntmps42;go_wp2_with fail;refine (hF.out _ hA).mono ?_;rintro e w2 ⟨rfl,hb2⟩;have hB2:=zg hA hb2;clear c0 c1;obtain⟨c0,c1⟩:=hcell.out _ hb2;cases hf:qD t with
 |false=>
  rw[hf,if_pos (by rfl)] at hr2;subst hr2;go_wp2;go_ret;exact⟨rfl,hB2⟩
 |true=>
  rw[hf,if_neg (by decide)] at hr2;have hD2:=zi (hD.out hf (by rw[hn.out];omega) w2 hB2);go_wp2_with fail;refine hD2.out.mono ?_;rintro e w3 ⟨rfl,hb3⟩;have hb23:=zg hb2 hb3;have hB3:=zg hB2 hb3;clear c0 c1 hD2 hD;obtain⟨c0,c1⟩:=hcell.out _ hb23;generalize xJ t=dp at *;by_cases hd40:40<dp
  ·have hd':(40:Int)<(dp:Int):=by omega
   rw[if_pos hd40] at hr2;subst hr2;go_wp2;go_ret;exact⟨rfl,hB3⟩
  ·have hd':¬((40:Int)<(dp:Int)):=by omega
   rw[if_neg hd40] at hr2;have hS2:=zi (hS.out w3 hB3);generalize (t.nodes.any fun x=> !ye x)=b at *;go_wp2_with fail;refine hS2.out.mono ?_;rintro e w4 ⟨rfl,hb4⟩;cases b with
   |true=>
    have hr3:3=r:=hr2;subst hr3;go_wp2;go_ret;exact⟨rfl,zg hB3 hb4⟩
   |false=>
    have hr3:0=r:=hr2;subst hr3;go_wp2;go_ret;exact⟨rfl,zg hB3 hb4⟩
theorem zee(v:Value)(l:List Int)(z:Int)(w:World)(hK:KS w v l)(hn:l.length<=100000):Calls prog 105 #[v,.int .i64 z] w (kQ w (.int .i64 (Xo (fun k=>z == k) l))):=by
 obtain⟨q,c,rfl⟩:=hK.form;obtain⟨n,hn'⟩:∃n,l.length=n:=⟨_,rfl⟩;rw[hn'] at hn hK ⊢;replace hK:=zi hK;replace hn':=zi hn';go_enter func105,ntmps105;go_wp2;go_loopw [8] (zfJ (fun k=>z == k) l w) (fun i _=>n-(intOf i).toNat)
 case atStart=>exact⟨0,rfl,pU _,fun i y h=>absurd h (wG _),pF _ _⟩
 case round=>
  obtain⟨j,rfl,hj,hno,hb⟩:=hrel;replace hno:=zi hno;rw[hn'.out] at hj;by_cases hlt:j<n
  ·have hlt':(j:Int)<(n:Int):=by omega
   have hy:=pJ ((j:Int)+1) (by omega);have hjl:j<l.length:=by rw[hn'.out];omega
   have hx:l[j]? =some (l.getD j 0):=by rw[pA,glE hjl];rfl
   obtain⟨g,off,rfl,_,d0⟩:=(hK.out.below hb).at hjl;have HX:=zi (And.intro hx hno.out);clear hx hno;generalize l.getD j 0=y at *;by_cases hyz:z=y
   ·subst hyz;go_wp2;go_ret;refine⟨?_,hb⟩;rw[XH (fun k=>z == k) l j _ HX.out.1 (by simp) HX.out.2];rfl
   ·have hyz':(z == y)=false:=bfE hyz
    go_wp2;go_roundw
    case rel=>
     refine⟨j+1,by simp,by rw[hn'.out];omega,fun i y hi hyy=>?_,hb⟩;by_cases e:i=j
     ·subst e;rw[HX.out.1] at hyy;cases hyy;exact hyz'
     ·exact HX.out.2 i y (by omega) hyy
    case measure=>simp[intOf];omega
  ·have hlt':¬((j:Int)<(n:Int)):=by omega
   go_wp2;go_ret;refine⟨?_,hb⟩;rw[Ye (fun k=>z == k) l (fun i y h=>hno.out i y (by have:=(gtL h);rw[hn'.out] at this;omega) h)];rfl
theorem zbG(l:List Int)(z:Int):(l.any fun k=>z == k)=l.contains z:=by
 rw[pW,gC,List.contains_iff_mem];constructor
 ·rintro ⟨x,hx,e⟩;rw[pS] at e;rw[e];exact hx
 ·exact fun h=>⟨z,h,by simp⟩
theorem zgH(v:Value)(l:List Int)(z:Int)(w:World)(hK:KS w v l)(hn:l.length<=100000):Calls prog 76 #[v,.int .i64 z] w (kQ w (.bool (l.contains z))):=by
 have hI:=zi (zee v l z w hK hn);have he:=zbn (fun k=>z == k) l;rw[<-zbG,<-he];clear he;obtain⟨q,c,rfl⟩:=hK.form;clear hK;generalize Xo (fun k=>z == k) l=r at *;generalize l.length=n at *;go_enter func76,ntmps76;go_wp2_with fail;refine hI.out.mono ?_;rintro e w1 ⟨rfl,hb⟩;go_wp2;go_ret;exact⟨rfl,hb⟩
theorem zi1(x:Nd)(u:Value)(node:Int)(B:Nat)(w:World)(hB:w.heap[B]? =some (.cells #[.int .i64 node] 3 (0,0)))(hk:KS w u x.kids)(hkl:x.kids.length<=100000):Calls prog 75 #[uV x u,.pointer (some ⟨B,0,none⟩)] w (kQ w (.bool (x.kids.contains node))):=by
 obtain⟨p,c,rfl⟩:=hk.form;obtain⟨k,t,n,ks,a⟩:=x;simp only at hk hkl ⊢;have hz:=zk w (.cells #[.int .u8 k,.string ⟨t.toArray⟩,.int .i64 n,.slice p ks.length c,.int .i64 a] 45 (0,0));have hA:=zf w (.cells #[.int .u8 k,.string ⟨t.toArray⟩,.int .i64 n,.slice p ks.length c,.int .i64 a] 45 (0,0));have hC:=zi (zgH _ ks node _ (hk.below hA) hkl);have c3:=zd hz 3;have b0:=zd (zh hA hB) 0;clear hz hB hk;generalize ks.contains node=b at *;generalize ks.length=m at *;go_enter func75,ntmps75;go_wp2_with fail;refine hC.out.mono ?_;rintro e w1 ⟨rfl,hb⟩;go_wp2;go_ret;exact⟨rfl,zg hA hb⟩
theorem zg5(t:yo)(nv iv:Value)(node:Int)(w:World)(hT:TR w nv iv t)(hok:Zo t):Calls prog 44 #[.agg #[nv,iv],.int .i64 node] w (kQ w (.int .i64 (upT t node))):=by
 obtain⟨np,nc,ip,ic,rfl,rfl⟩:=hT.form;obtain⟨kv,hN⟩:=hT.nodes;have hmf:∀(fn:Fn) (first cap:Array Value) (w:World),(Instr.makeFunc fn first cap).run prog w=.ok (.func fn first cap) w:=fun _ _ _ _=>rfl
 have h0:=zJ [.cells #[.slice np t.nodes.length nc,.slice ip t.items.length ic] 26 (0,0),.cells #[.int .i64 node] 3 (0,0)] w;have hA:Below w.heap.size w ((w.alloc (.cells #[.slice np t.nodes.length nc,.slice ip t.items.length ic] 26 (0,0))).alloc (.cells #[.int .i64 node] 3 (0,0))):=zX [.cells #[.slice np t.nodes.length nc,.slice ip t.items.length ic] 26 (0,0),.cells #[.int .i64 node] 3 (0,0)] w;have c0:=zd (h0 0 _ rfl) 0;have z1:((w.alloc (.cells #[.slice np t.nodes.length nc,.slice ip t.items.length ic] 26 (0,0))).alloc (.cells #[.int .i64 node] 3 (0,0))).heap[w.heap.size+1]? =some (.cells #[.int .i64 node] 3 (0,0)):=h0 1 _ rfl;have hI:=zi (ZA (.slice np t.nodes.length nc) 75 #[.pointer (some ⟨w.heap.size+1,0,none⟩)] t.nodes kv (fun x=>x.kids.contains node) _ (enters_of (P:=prog) func75 (by kernel_rfl) rfl) (hN.below hA) hok.nodes (fun W x u hb hx hk=>zi1 x u node _ W (zh hb z1) hk (by have:=hok.kids x hx;omega)));clear h0 z1 hT hN;unfold upT;generalize Xo (fun x=>x.kids.contains node) t.nodes=r at *;generalize t.nodes.length=n at *;generalize t.items.length=m at *;go_enter func44,ntmps44;go_wp2_with fail;refine hI.out.mono ?_;rintro e w1 ⟨rfl,hb⟩;go_wp2;go_ret;exact⟨rfl,zg hA hb⟩
theorem zgU(x:Nd)(u:Value)(at_:Int)(B:Nat)(w:World)(hB:w.heap[B]? =some (.cells #[.int .i64 at_] 3 (0,0)))(hk:KS w u x.kids):Calls prog 43 #[uV x u,.pointer (some ⟨B,0,none⟩)] w (kQ w (.bool (x.at_ == at_))):=by
 obtain⟨p,c,rfl⟩:=hk.form;obtain⟨k,t,n,ks,a⟩:=x;simp only at hk ⊢;have hz:=zk w (.cells #[.int .u8 k,.string ⟨t.toArray⟩,.int .i64 n,.slice p ks.length c,.int .i64 a] 45 (0,0));have hA:=zf w (.cells #[.int .u8 k,.string ⟨t.toArray⟩,.int .i64 n,.slice p ks.length c,.int .i64 a] 45 (0,0));have c4:=zd hz 4;have b0:=zd (zh hA hB) 0;clear hz hB hk;generalize ks.length=m at *;go_enter func43,ntmps43;go_wp2;go_ret;exact⟨rfl,hA⟩
def RdI(w:World)(r:Int×Nat)(e:Ending)(w':World):Prop:=e=.returned (.tuple #[.int .i64 r.1,.int .i64 (r.2:Nat)])/\Below w.heap.size w w'
theorem zan(t:yo)(nv iv:Value)(node:Int)(f:Nat)(val:Int)(w:World)(hT:TR w nv iv t)(hG:qH w)(hok:Zo t)(heg:Enters prog f)
 (hof:∀W,Below w.heap.size w W->zR t=0->0<=node/\node<(t.nodes.length:Int)->Calls prog f #[.agg #[nv,iv],.int .i64 node] W (kQ W (.int .i64 val))) :
 Calls prog 38 #[.agg #[nv,iv],.int .i64 node,.func (.func f) #[] #[]] w (RdI w (if zR t≠0 then (0,zR t) else if node<0\/(t.nodes.length:Int)<=node then (0,7) else (val,0))):=by
 obtain⟨r,hr⟩:∃r:Int×Nat,(if zR t≠0 then (0,zR t) else if node<0\/(t.nodes.length:Int)<=node then (0,7) else (val,0))=r:=⟨_,rfl⟩;rw[hr];obtain⟨np,nc,ip,ic,rfl,rfl⟩:=hT.form;obtain⟨n,hn⟩:=exE (t.nodes.length);obtain⟨m,hm⟩:=exE (t.items.length);rw[hn,hm] at hof hT ⊢;rw[hn] at hr;have hz:=zk w (.cells #[.slice np n nc,.slice ip m ic] 26 (0,0));have hA:=zf w (.cells #[.slice np n nc,.slice ip m ic] 26 (0,0));have hC:=zi (ub t _ _ _ (hT.below hA) (hG.later hA) hok);have heg':=fun W=>heg (#[.agg #[.slice np n nc,.slice ip m ic],.int .i64 node]) W
 have c0:=zd hz 0;have c1:=zd hz 1;have hz':=zi hz;have hof':=zi hof;clear hT hG hz hof heg;generalize zR t=ck at *;go_enter func38,ntmps38;go_wp2_with fail;refine hC.out.mono ?_;rintro e w2 ⟨rfl,hb2⟩;have hB2:=zg hA hb2;clear c0 c1 hC;have c0:=zd (zh hb2 hz'.out) 0;have c1:=zd (zh hb2 hz'.out) 1;by_cases hck:ck=0
 ·subst hck;rw[if_neg (by simp)] at hr;by_cases h0:node<0
  ·rw[if_pos (.inl h0)] at hr;subst hr;go_wp2;go_ret2;exact⟨rfl,hB2⟩
  ·by_cases h1:(n:Int)<=node
   ·rw[if_pos (.inr h1)] at hr;subst hr;go_wp2;go_ret2;exact⟨rfl,hB2⟩
   ·rw[if_neg (by omega)] at hr;have hO:=zi (hof'.out w2 hB2 rfl (by omega));subst hr;go_wp2_with fail;refine hO.out.mono ?_;rintro e w3 ⟨rfl,hb3⟩;go_wp2;go_ret2;exact⟨rfl,zg hB2 hb3⟩
 ·have hck':((ck:Int) == 0)=false:=bfE (by omega)
  rw[if_pos hck] at hr;subst hr;go_wp2;go_ret2;exact⟨rfl,hB2⟩
theorem zex(t:yo)(nv iv:Value)(node:Int)(w:World)(hT:TR w nv iv t)(hG:qH w)(hok:Zo t):Calls prog 19 #[.agg #[nv,iv],.int .i64 node] w (RdI w (za4 t node)):=by
 obtain⟨np,nc,ip,ic,rfl,rfl⟩:=hT.form;have hz:=zk w (.cells #[.slice np t.nodes.length nc,.slice ip t.items.length ic] 26 (0,0));have hA:=zf w (.cells #[.slice np t.nodes.length nc,.slice ip t.items.length ic] 26 (0,0));have hF:=zi (zan t _ _ node 44 (upT t node) _ (hT.below hA) (hG.later hA) hok (enters_of (P:=prog) func44 (by kernel_rfl) rfl) (fun W hb _ _=>zg5 t _ _ node W ((hT.below hA).below hb) hok));have c0:=zd hz 0;have c1:=zd hz 1;unfold za4 zam;clear hT hG hz;generalize (if zR t≠0 then ((0:Int),zR t) else if node<0\/(t.nodes.length:Int)<=node then (0,7) else (upT t node,0))=r at *;generalize t.nodes.length=n at *;generalize t.items.length=m at *;obtain⟨r1,r2⟩:=r;go_enter func19,ntmps19;go_wp2_with fail;refine hF.out.mono ?_;rintro e w2 ⟨rfl,hb2⟩;go_wp2;go_ret2;exact⟨rfl,zg hA hb2⟩
theorem ziN(t:yo)(nv iv:Value)(at_:Int)(w:World)(hT:TR w nv iv t)(hG:qH w)(hok:Zo t):Calls prog 18 #[.agg #[nv,iv],.int .i64 at_] w (RdI w (zbx t at_)):=by
 obtain⟨r,hr⟩:=exE (zbx t at_);rw[hr];unfold zbx at hr;obtain⟨np,nc,ip,ic,rfl,rfl⟩:=hT.form;obtain⟨kv,hN⟩:=hT.nodes;have hmf:∀(fn:Fn) (first cap:Array Value) (w:World),(Instr.makeFunc fn first cap).run prog w=.ok (.func fn first cap) w:=fun _ _ _ _=>rfl
 have h0:=zJ [.cells #[.slice np t.nodes.length nc,.slice ip t.items.length ic] 26 (0,0),.cells #[.int .i64 at_] 3 (0,0)] w;have hA:Below w.heap.size w ((w.alloc (.cells #[.slice np t.nodes.length nc,.slice ip t.items.length ic] 26 (0,0))).alloc (.cells #[.int .i64 at_] 3 (0,0))):=zX [.cells #[.slice np t.nodes.length nc,.slice ip t.items.length ic] 26 (0,0),.cells #[.int .i64 at_] 3 (0,0)] w;have z0:((w.alloc (.cells #[.slice np t.nodes.length nc,.slice ip t.items.length ic] 26 (0,0))).alloc (.cells #[.int .i64 at_] 3 (0,0))).heap[w.heap.size]? =some (.cells #[.slice np t.nodes.length nc,.slice ip t.items.length ic] 26 (0,0)):=h0 0 _ rfl;have z1:((w.alloc (.cells #[.slice np t.nodes.length nc,.slice ip t.items.length ic] 26 (0,0))).alloc (.cells #[.int .i64 at_] 3 (0,0))).heap[w.heap.size+1]? =some (.cells #[.int .i64 at_] 3 (0,0)):=h0 1 _ rfl;have hC:=zi (ub t _ _ _ (hT.below hA) (hG.later hA) hok);have hI:=zi (fun W (hb:Below _ ((w.alloc (.cells #[.slice np t.nodes.length nc,.slice ip t.items.length ic] 26 (0,0))).alloc (.cells #[.int .i64 at_] 3 (0,0))) W)=>ZA (.slice np t.nodes.length nc) 43 #[.pointer (some ⟨w.heap.size+1,0,none⟩)] t.nodes kv (fun x=>x.at_ == at_) W (enters_of (P:=prog) func43 (by kernel_rfl) rfl) ((hN.below hA).below hb) hok.nodes (fun V x u hb2 hx hk=>zgU x u at_ _ V (zh hb2 (zh hb z1)) hk));have c0:=zd z0 0;have c1:=zd z0 1;have HZ:=zi z0;clear h0 z0 z1 hT hN hG;generalize Xo (fun x=>x.at_ == at_) t.nodes=ix at *;generalize zR t=ck at *;generalize t.nodes.length=n at *;generalize t.items.length=m at *;go_enter func18,ntmps18;go_wp2_with fail;refine hC.out.mono ?_;rintro e w2 ⟨rfl,hb2⟩;have hB2:=zg hA hb2;clear c0 c1 hC;have c0:=zd (zh hb2 HZ.out) 0;have c1:=zd (zh hb2 HZ.out) 1;by_cases hck:ck=0
 ·subst hck;rw[if_neg (by simp)] at hr;have hI2:=zi (hI.out w2 hb2);go_wp2_with fail;refine hI2.out.mono ?_;rintro e w3 ⟨rfl,hb3⟩;have hB3:=zg hB2 hb3;by_cases hx:ix<0
  ·rw[if_pos hx] at hr;subst hr;go_wp2;go_ret2;exact⟨rfl,hB3⟩
  ·rw[if_neg hx] at hr;subst hr;go_wp2;go_ret2;exact⟨rfl,hB3⟩
 ·have hck':((ck:Int) == 0)=false:=bfE (by omega)
  rw[if_pos hck] at hr;subst hr;go_wp2;go_ret2;exact⟨rfl,hB2⟩
end
end Go.Proofs.YtnncmdpopgkibaaGreatDoor
namespace Lode
theorem zhc{out:List Nat}{q:Int}(ho:∀j:Nat,(j:Int)<=q->out.getD j 0<=j+1):∀(rk:List Int) (p e:Int),-1<=p->p<=q->ZM out rk p=some e->-1<=e
 |[],p,e,h1,_,h=>by
  cases h;exact h1
 |k :: r,p,e,h1,h2,h=>by
  unfold ZM at h;split at h
  ·cases h
  ·rename_i hc;have hp:0<=p:=by omega
   obtain⟨j,rfl⟩:=pP hp;have:=ho j h2;rw[wE] at h;exact zhc ho r _ e (by omega) (by omega) h
theorem zlg{l:List Nd}{n:Nat}(hF:xL l n)(i:Nat)(hi:i<n):(jH l n).getD i 0<=i+1:=by
 induction i using Nat.strongRecOn with
 |ind i ih=>
  obtain⟨p,hp,hs,hpi⟩:=qF hF hi;have:=zhc (q:=(i:Int)-1) (fun j hj=>ih j (by omega) (by omega)) _ _ _ (by omega) (Int.le_refl _) hp;omega
end Lode
namespace Go.Proofs.YtnncmdpopgkibaaGreatDoor
section
open Go.RowKit Lode Go.Shelf
attribute [local go_sem ↓] Go.wp_at_zero Go.wp_at_succ
open Go.Proofs.Tryz
def zj6(ks:List Int)(S:Int->Int)(w:World)(i:Value)(n:Value)(wr:World):Prop:=∃j:Nat,i=.int .i64 j/\n=.int .i64 ((ks.take j).foldl (fun n k=>n+S k) 1)/\j<=ks.length/\Below w.heap.size w wr
theorem KH(S:Int->Int)(c:Int):∀(ks:List Int) (a:Int),(∀k∈ks,0<=S k/\S k<=c)->0<=c->a<=ks.foldl (fun n k=>n+S k) a/\ks.foldl (fun n k=>n+S k) a<=a+ks.length*c
 |[],a,_,_=>by simp
 |k :: r,a,h,hc=>by
  have h1:=h k (List.mem_cons_self ..);have h2:=KH S c r (a+S k) (fun j hj=>h j (pY _ hj)) hc;simp only[List.foldl_cons,pK];have:((r.length+1:Nat):Int)*c=r.length*c+c:=by
   rw[Int.natCast_add,Int.add_mul];simp
  omega
theorem zhk(t:yo)(nv iv:Value)(w0:World)(hT:TR w0 nv iv t)(hok:Zo t)(hF:xL t.nodes t.nodes.length)(hn1:t.nodes.length<=1000):∀(f i:Nat) (w:World),i<t.nodes.length->i<f->Below w0.heap.size w0 w->
 Calls prog 39 #[.agg #[nv,iv],.int .i64 i] w (kQ w (.int .i64 ((jH t.nodes t.nodes.length).getD i 0:Nat))):=by
 intro f;induction f with
 |zero=>intro i w hi h _;exact absurd h (wG _)
 |succ f ih=>
  intro i w hi hif hB0;have hse:=Jr hF i (i+1) hi (Nat.lt_succ_self _);have hx:t.nodes[i]? =some t.nodes[i]:=glE hi;have hkl:=jY hF hi;have hxk:=hok.kids _ (wC hi);obtain⟨x,hxe⟩:=exE (t.nodes[i]);rw[hxe] at hx hkl hxk;obtain⟨S,hS⟩:∃S:Int->Int,(fun k=>(((jH t.nodes t.nodes.length).getD k.toNat 0:Nat):Int))=S:=⟨_,rfl⟩;have hSk:∀k:Int,S k=(((jH t.nodes t.nodes.length).getD k.toNat 0:Nat):Int):=fun k=>by rw[<-hS]
  have hfin:(((jH t.nodes t.nodes.length).getD i 0:Nat):Int)=x.kids.foldl (fun n k=>n+S k) 1:=by
   rw[<-hse];unfold QH;rw[wE,hx];simp only[Option.elim_some];have:∀(ks:List Int) (c:Int),(∀k∈ks,0<=k/\k<i)->ks.foldl (fun n k=>n+QH t.nodes i k) c=ks.foldl (fun n k=>n+S k) c:=by
    intro ks;induction ks with
    |nil=>intro c _;rfl
    |cons k r ihr=>
     intro c hk;have h1:=hk k (List.mem_cons_self ..);obtain⟨j,rfl⟩:=pP h1.1;simp only[List.foldl_cons];rw[Jr hF j i (by omega) (by omega),hSk,wE];exact ihr _ (fun q hq=>hk q (pY _ hq))
   exact this _ _ hkl
  rw[hfin];have hSb:∀k∈x.kids,0<=S k/\S k<=1001:=fun k hk=>by
   have h1:=hkl k hk;obtain⟨j,rfl⟩:=pP h1.1;have:=zlg hF j (by omega);rw[hSk,wE];omega
  have hTw:=hT.below hB0;obtain⟨np,nc,ip,ic,rfl,rfl⟩:=hT.form;obtain⟨kv,hN⟩:=hTw.nodes;obtain⟨g,off,u,rfl,hA⟩:=hN.at hx;obtain⟨up,uc,rfl⟩:=hA.kids.form;have hz:=zk w (.cells #[.slice (some ⟨g,off,none⟩) t.nodes.length nc,.slice ip t.items.length ic] 26 (0,0));have hb1:=zf w (.cells #[.slice (some ⟨g,off,none⟩) t.nodes.length nc,.slice ip t.items.length ic] 26 (0,0));have c0:=zd hz 0;have c1:=zd hz 1;have a3:=zj hb1 hA.c3;have hKS:=zi hA.kids;have HZ:=zi hz;have hi':(i:Int)<(t.nodes.length:Int):=by omega
  have hi0:¬((i:Int)<0):=by omega
  have IH:=zi ih;obtain⟨x0,x1,x2,ks,x4⟩:=x;simp only at a3 hxk hkl hSb hKS;obtain⟨m,hm⟩:=exE (ks.length);rw[hm] at a3 hxk;have hm':=zi hm;have hkl':=zi hkl;have hSb':=zi hSb;have hst:=zi (show zj6 ks S (w.alloc (.cells #[.slice (some ⟨g,off,none⟩) t.nodes.length nc,.slice ip t.items.length ic] 26 (0,0))) (.int .i64 0) (.int .i64 1) (w.alloc (.cells #[.slice (some ⟨g,off,none⟩) t.nodes.length nc,.slice ip t.items.length ic] 26 (0,0))) from ⟨0,rfl,rfl,pU _,pF _ _⟩);have hSk':=zi hSk;clear hse hx hxe hfin hTw hN hA hkl hSb hz hm ih hS hSk;go_enter func39,ntmps39;go_wp2;go_loopw [15,5] (zj6 ks S (w.alloc (.cells #[.slice (some ⟨g,off,none⟩) t.nodes.length nc,.slice ip t.items.length ic] 26 (0,0)))) (fun i _ _=>m-(intOf i).toNat)
  case atStart=>exact hst.out
  case round=>
   obtain⟨j,rfl,rfl,hj,hbz⟩:=hrel;have hb:=zg hb1 hbz;rw[hm'.out] at hj;by_cases hlt:j<m
   ·have hlt':(j:Int)<(m:Int):=by omega
    have hy:=pJ ((j:Int)+1) (by omega);have hjl:j<ks.length:=by rw[hm'.out];omega
    obtain⟨g2,off2,rfl,_,d0⟩:=(hKS.out.below hb).at hjl;have hkm:ks.getD j 0∈ks:=by rw[pA,glE hjl];exact wC hjl
    have hk1:=hkl'.out _ hkm;have hk2:=hSb'.out _ hkm;have htk:ks.take (j+1)=ks.take j ++ [ks.getD j 0]:=by
     rw[wZ,glE hjl,pA,glE hjl];rfl
    obtain⟨acc,hacc⟩:=exE ((ks.take j).foldl (fun n k=>n+S k) 1);have hab:=KH S 1001 (ks.take j) 1 (fun k hk=>hSb'.out k (List.mem_of_mem_take hk)) (by omega);rw[hacc] at hab ⊢;have hlen:((ks.take j).length:Int)<=1999:=by rw[wU];omega
    have hnext:(ks.take (j+1)).foldl (fun n k=>n+S k) 1=acc+S (ks.getD j 0):=by
     rw[htk,List.foldl_append,hacc];rfl
    replace hnext:=zi hnext;generalize ks.getD j 0=z at *;obtain⟨zn,rfl⟩:=pP hk1.1;have hC:=zi (IH.out zn wr (by omega) (by omega) (zg hB0 hb));have hSz:=hSk'.out zn;rw[wE] at hSz;rw[<-hSz] at hC;clear hSz;have hws:=pJ (acc+S zn) (by omega);clear c0 c1;have c0:=zd (zh hbz HZ.out) 0;have c1:=zd (zh hbz HZ.out) 1;go_wp2_with fail;refine hC.out.mono ?_;rintro e w1 ⟨rfl,hb2⟩;go_wp2;go_roundw
    case rel=>exact⟨j+1,by simp,by rw[hnext.out],by rw[hm'.out];omega,zg hbz hb2⟩
    case measure=>simp[intOf];omega
   ·have hlt':¬((j:Int)<(m:Int)):=by omega
    have hjm:j=m:=by omega
    have htk:ks.take j=ks:=by rw[hjm,<-hm'.out];exact List.take_length
    rw[htk];go_wp2;go_ret;exact⟨rfl,hb⟩
theorem ziA(t:yo)(nv iv:Value)(node:Int)(w:World)(hT:TR w nv iv t)(hG:qH w)(hok:Zo t)(hkm:∀x∈t.nodes,x.kids.length<=1000):Calls prog 15 #[.agg #[nv,iv],.int .i64 node] w (RdI w (zdB t node)):=by
 obtain⟨np,nc,ip,ic,rfl,rfl⟩:=hT.form;have hz:=zk w (.cells #[.slice np t.nodes.length nc,.slice ip t.items.length ic] 26 (0,0));have hA:=zf w (.cells #[.slice np t.nodes.length nc,.slice ip t.items.length ic] 26 (0,0));have hF:=zi (zan t _ _ node 39 (zeU t node) _ (hT.below hA) (hG.later hA) hok (enters_of (P:=prog) func39 (by kernel_rfl) rfl) (fun W hb hc hn=>by
  have hcr:Qv t=0:=by rw[<-zc9 t hkm];exact hc
  have hfull:=KV hcr;have hn1:t.nodes.length<=1000:=by
   unfold zR at hc;split at hc
   ·cases hc
   ·omega
  obtain⟨i,rfl⟩:=pP hn.1;unfold zeU;rw[Jr hfull i _ (by omega) (by omega)];exact zhk t _ _ _ (hT.below hA) hok hfull hn1 (i+1) i W (by omega) (Nat.lt_succ_self _) hb))
 have c0:=zd hz 0;have c1:=zd hz 1;unfold zdB zam;clear hT hG hz;generalize (if zR t≠0 then ((0:Int),zR t) else if node<0\/(t.nodes.length:Int)<=node then (0,7) else (zeU t node,0))=r at *;generalize t.nodes.length=n at *;generalize t.items.length=m at *;obtain⟨r1,r2⟩:=r;go_enter func15,ntmps15;go_wp2_with fail;refine hF.out.mono ?_;rintro e w2 ⟨rfl,hb2⟩;go_wp2;go_ret2;exact⟨rfl,zg hA hb2⟩
theorem Yx(l:List Int)(i j:Nat)(v:Int):(l.set i v).getD j 0=if i=j/\j<l.length then v else l.getD j 0:=by
 rw[pA,pA,List.getElem?_set];by_cases h:i=j
 ·subst h;by_cases h2:i<l.length
  ·simp[h2]
  ·simp[h2]
 ·simp[h]
def ziD(xs:List Int)(g n:Nat)(fr:Nat×Nat)(w:World)(i j:Value)(wr:World):Prop:=∃(k:Nat) (ys:List Int),i=.int .i64 k/\j=.int .i64 ((n:Int)-1-k)/\2*k<=n+1/\ys.length=n/\(∀p,p<n->ys.getD p 0=if p<k\/n-k<=p then xs.getD (n-1-p) 0 else xs.getD p 0)/\(∃cs,wr.heap[g]? =some (.cells cs 3 fr)/\∀p,p<n->cs[p]? =some (.int .i64 (ys.getD p 0)))/\Below g w wr
theorem zaP(xs:List Int)(g n cap:Nat)(cs:Array Value)(fr:Nat×Nat)(w:World)(hn:xs.length=n)(hn1:n<=1000000)(hg:w.heap[g]? =some (.cells cs 3 fr))(hc:∀p,p<n->cs[p]? =some (.int .i64 (xs.getD p 0)))(hfr:∀(W:World) (ds:Array Value) (p:Nat),W.heap[g]? =some (.cells ds 3 fr)->W.frozen? ⟨g,p,none⟩=false):
 Calls prog 71 #[.slice (some ⟨g,0,none⟩) n cap] w fun e w'=>e=.returned (.tuple #[])/\Below g w w'/\∃ds,w'.heap[g]? =some (.cells ds 3 fr)/\∀p,p<n->ds[p]? =some (.int .i64 (xs.reverse.getD p 0)):=by
 have hw0:=pJ ((n:Int)-1) (by omega);have hst:ziD xs g n fr w (.int .i64 0) (.int .i64 ((n:Int)-1)) w:=⟨0,xs,rfl,by simp,by omega,hn,fun p hp=>by rw[if_neg (by omega)],⟨cs,hg,hc⟩,pF _ _⟩;replace hst:=zi hst;have hfr':=zi hfr;clear hg hc hfr;have hn':=zi hn;clear hn;go_enter func71,ntmps71;go_wp2;go_loopw [2,3] (ziD xs g n fr w) (fun i j _=>((intOf j)+1-intOf i).toNat)
 case atStart=>exact hst.out
 case round=>
  obtain⟨k,ys,rfl,rfl,hk,hyl,hys,⟨ds,hds,hdp⟩,hb⟩:=hrel;by_cases hlt:(k:Int)<(n:Int)-1-k
  ·have hkn:k<n:=by omega
   obtain⟨q,hq⟩:∃q:Nat,(n:Int)-1-k=q:=⟨n-1-k,by omega⟩;have hqn:q<n:=by omega
   rw[hq] at hlt ⊢;have hy1:=pJ ((k:Int)+1) (by omega);have hy2:=pJ ((q:Int)-1) (by omega);have hk0:¬((k:Int)<0):=by omega
   have hq0:¬((q:Int)<0):=by omega
   have hk1:(k:Int)<(n:Int):=by omega
   have hq1:(q:Int)<(n:Int):=by omega
   have hqk:¬(q=k):=by omega
   have hkq:¬(k=q):=by omega
   have ck:wr.drew.cell? ⟨g,k,none⟩=some (.int .i64 (ys.getD k 0)):=(zd hds k).trans (hdp k hkn);have cq:wr.drew.cell? ⟨g,q,none⟩=some (.int .i64 (ys.getD q 0)):=(zd hds q).trans (hdp q hqn);have dk:wr.cell? ⟨g,k,none⟩=some (.int .i64 (ys.getD k 0)):=(zd hds k).trans (hdp k hkn);have dq:wr.cell? ⟨g,q,none⟩=some (.int .i64 (ys.getD q 0)):=(zd hds q).trans (hdp q hqn);have fk:=hfr'.out wr ds k hds;have fq:=hfr'.out wr ds q hds;have fk':=hfr'.out wr.drew ds k hds;have fq':=hfr'.out wr.drew ds q hds;generalize hyk:ys.getD k 0=yk at *;generalize hyq:ys.getD q 0=yq at *;have HDS:=zi hds;have HDP:=zi hdp;have HYS:=zi hys;clear hds hdp hys;go_wp2_with fail;go_region;go_wp2;go_roundw
   case rel=>
    refine⟨k+1,(ys.set k yq).set q yk,rfl,by rw[show (q:Int)-1=(n:Int)-1-((k+1:Nat):Int) by omega],by omega,by rw[List.length_set,List.length_set];exact hyl,fun p hp=>?_,⟨_,zr (zr HDS.out k (.int .i64 yq)) q (.int .i64 yk),fun p hp=>?_⟩,((hb.setCell (pE _) _).setCell (pE _) _).drew⟩
    ·have h1:=HYS.out k hkn;have h2:=HYS.out q hqn;rw[if_neg (by omega),hyk] at h1;rw[if_neg (by omega),hyq] at h2;rw[Yx,Yx,List.length_set];by_cases e1:q=p
     ·rw[if_pos ⟨e1,by omega⟩,if_pos (by omega),h1,show n-1-p=k by omega]
     ·rw[if_neg (fun h=>e1 h.1)];by_cases e2:k=p
      ·rw[if_pos ⟨e2,by omega⟩,if_pos (by omega),h2,show n-1-p=q by omega]
      ·rw[if_neg (fun h=>e2 h.1),HYS.out p hp];by_cases e3:p<k\/n-k<=p
       ·rw[if_pos e3,if_pos (by omega)]
       ·rw[if_neg e3,if_neg (by omega)]
    ·have hpd:=HDP.out p hp;have hsz:=(gtA hpd);rw[Yx,Yx,List.length_set,Array.getElem?_setIfInBounds,Array.getElem?_setIfInBounds,Array.size_setIfInBounds];by_cases e1:q=p
     ·rw[if_pos e1,if_pos (by omega),if_pos ⟨e1,by omega⟩]
     ·rw[if_neg e1,if_neg (show ¬(q=p/\p<ys.length) from fun h=>e1 h.1)];by_cases e2:k=p
      ·rw[if_pos e2,if_pos (by omega),if_pos ⟨e2,by omega⟩]
      ·rw[if_neg e2,if_neg (show ¬(k=p/\p<ys.length) from fun h=>e2 h.1)];exact hpd
   case measure=>simp[intOf];omega
  ·have hend:n<=2*k+1:=by omega
   have hfin:∀p,p<n->ys.getD p 0=xs.reverse.getD p 0:=fun p hp=>by
    rw[hys p hp,pA (l:=xs.reverse),List.getElem?_reverse (by rw[hn'.out];exact hp),<-pA,hn'.out];by_cases h:p<k\/n-k<=p
    ·rw[if_pos h]
    ·rw[if_neg h,show n-1-p=p by omega]
   have HF:=zi (show ∃ds,wr.heap[g]? =some (.cells ds 3 fr)/\∀p,p<n->ds[p]? =some (.int .i64 (xs.reverse.getD p 0)) from ⟨ds,hds,fun p hp=>by rw[<-hfin p hp];exact hdp p hp⟩);clear hds hdp hys hfin;go_wp2_with fail;go_end0;exact⟨rfl,hb,by simpa using HF.out⟩
def ziz(t:yo)(R:List Int)(w1:World)(l at_:Value)(wr:World):Prop:=∃(acc:List Int) (a:Int) (f:Nat),at_=.int .i64 a/\wr.ownsRow w1.heap.size 3 1 l acc.length (yZ acc)/\Below w1.heap.size w1 wr/\zg3 t f a acc.reverse=R/\-1<=a/\a<(t.nodes.length:Int)/\(0<=a->(t.nodes.length:Int)-a+1<=f)/\acc.length+f=t.nodes.length+1/\(acc=[]->0<=a)
def wyM(n:Nat)(a:Value):Nat:=if 0<=intOf a then ((n:Int)+1-intOf a).toNat else 0
theorem zeE(n:Nat)(a:Int):wyM n (.int .i64 a)=if 0<=a then ((n:Int)+1-a).toNat else 0:=rfl
theorem zle{t:yo}(hF:xL t.nodes t.nodes.length)(a:Int):upT t a= -1\/(a<upT t a/\upT t a<(t.nodes.length:Int)):=by
 unfold upT;rcases Jz (fun x=>x.kids.contains a) t.nodes with⟨j,x,hj,hx,hf⟩|⟨hj,_⟩
 ·right;rw[hj];obtain⟨hjl,hxe⟩:=gE.1 hx;have hc:=List.find?_some hf;rw[List.contains_iff_mem] at hc;have:=jY hF hjl a (by rw[hxe];exact hc);omega
 ·exact .inl hj
theorem zkF{w:World}{B:Nat}{v:Value}{l:List Int}(h:w.ownsRow B 3 1 v l.length (yZ l))(h0:l≠[]):∃g cap cs,v=.slice (some ⟨g,0,none⟩) l.length cap/\l.length<=cap/\B<=g/\w.heap[g]? =some (.cells cs 3 (0,0))/\∀p,p<l.length->cs[p]? =some (.int .i64 (l.getD p 0)):=by
 obtain⟨hl,⟨rfl,h1⟩|⟨g,cap,cur,rfl,hB,hg,hnc,_,_,ht⟩⟩:=h
 ·exact absurd (pM h1) h0
 ·refine⟨g,cap,cur,rfl,hnc,hB,hg,fun p hp=>?_⟩;have h1:(yZ l)[p]? =some (.int .i64 (l.getD p 0)):=by
   unfold yZ;rw[pZ,glE hp,pA,glE hp];rfl
  rw[<-ht,List.getElem?_take] at h1;split at h1
  ·rw[<-Array.getElem?_toList];exact h1
  ·cases h1
theorem zi0(t:yo)(nv iv:Value)(node:Nat)(w:World)(hT:TR w nv iv t)(hok:Zo t)(hF:xL t.nodes t.nodes.length)(hn1:t.nodes.length<=1000)(hnode:node<t.nodes.length):
 Calls prog 41 #[.agg #[nv,iv],.int .i64 node] w fun e w'=>∃v,e=.returned v/\KS w' v (zg2 t node)/\Below w.heap.size w w':=by
 obtain⟨R,hR⟩:=exE (zg2 t node);rw[hR];obtain⟨np,nc,ip,ic,rfl,rfl⟩:=hT.form;have hz:=zk w (.cells #[.slice np t.nodes.length nc,.slice ip t.items.length ic] 26 (0,0));have hA:=zf w (.cells #[.slice np t.nodes.length nc,.slice ip t.items.length ic] 26 (0,0));have hst:ziz t R (w.alloc (.cells #[.slice np t.nodes.length nc,.slice ip t.items.length ic] 26 (0,0))) (.slice none 0 0) (.int .i64 node) (w.alloc (.cells #[.slice np t.nodes.length nc,.slice ip t.items.length ic] 26 (0,0))):=⟨[],node,t.nodes.length+1,rfl,uE _ _ rfl,pF _ _,by rw[<-hR];rfl,by omega,by omega,fun _=>by omega,by simp,fun _=>by omega⟩;replace hst:=zi hst;have hU:=zi (fun (a:Int) W (hb:Below (w.alloc (.cells #[.slice np t.nodes.length nc,.slice ip t.items.length ic] 26 (0,0))).heap.size (w.alloc (.cells #[.slice np t.nodes.length nc,.slice ip t.items.length ic] 26 (0,0))) W)=>zg5 t _ _ a W (hT.below (zg hA hb)) hok);have HZ:=zi hz;have hbox:∀W,Below (w.alloc (.cells #[.slice np t.nodes.length nc,.slice ip t.items.length ic] 26 (0,0))).heap.size (w.alloc (.cells #[.slice np t.nodes.length nc,.slice ip t.items.length ic] 26 (0,0))) W->W.cell? ⟨w.heap.size,0,none⟩=some (.slice np t.nodes.length nc)/\W.cell? ⟨w.heap.size,1,none⟩=some (.slice ip t.items.length ic):=fun W hb=>⟨zd (zh hb HZ.out) 0,zd (zh hb HZ.out) 1⟩
 replace hbox:=zi hbox;clear hz hT hR;go_enter func41,ntmps41;go_wp2_with fail;generalize (w.alloc (.cells #[.slice np t.nodes.length nc,.slice ip t.items.length ic] 26 (0,0)))=w1 at *;go_loopw [4,5] (ziz t R w1) (fun _ a _=>wyM t.nodes.length a)
 case atStart=>exact hst.out
 case round=>
  rename_i lv _;obtain⟨acc,a,f,rfl,hown,hb,hw,ha1,ha2,hf,hlen,hne⟩:=hrel;by_cases h0:0<=a
  ·obtain⟨f',rfl⟩:∃f',f=f'+1:=⟨f-1,by have:=hf h0;omega⟩;have hw2:zg3 t f' (upT t a) (acc ++ [a]).reverse=R:=by
    rw[<-hw];rw[List.reverse_append,List.reverse_singleton];show _=if a<0 then acc.reverse else zg3 t f' (upT t a) (a :: acc.reverse)
    rw[if_neg (by omega)];rfl
   have hup:=zle hF a;have hfa:=hf h0;have hown2:=zu hown (zf wr (.cells #[.int .i64 a] 3 (0,0)));have hbA:=zg hb (zf wr (.cells #[.int .i64 a] 3 (0,0)));have hsz:=hb.size;replace hw2:=zi hw2;clear hw hf;go_wp2_with (at_builtin;refine xC rfl _ _ rfl rfl hown2 rfl (zd (zk wr _) 0) rfl rfl (by omega) (by simp;omega) ?_);intro g' cap' w2 hrow hgrow hg';have hb2:=vJ hbA hown2 hgrow;have hrow2:w2.ownsRow w1.heap.size 3 1 (.slice (some ⟨g',0,none⟩) (acc.length+1) cap') (acc ++ [a]).length (yZ (acc ++ [a])):=by
    rw[pC,pI];simp only[yZ,List.map_append,List.map_cons,List.map_nil];exact hrow
   replace hrow2:=zi hrow2;clear hrow hgrow hg' hown hown2;obtain⟨c0,c1⟩:=hbox.out _ hb2;have hU2:=zi (hU.out a w2 hb2);go_wp2_with fail;refine hU2.out.mono ?_;rintro e w3 ⟨rfl,hb3⟩;go_wp2;go_roundw
   case rel=>exact⟨acc ++ [a],upT t a,f',rfl,zu hrow2.out hb3,zg hb2 hb3,hw2.out,by omega,by omega,fun h=>by omega,by rw[pC,pI];omega,fun h=>by simp at h⟩
   case measure=>
    rw[zeE,zeE,if_pos h0];split <;> omega
  ·have hacc:acc≠[]:=fun h=>h0 (hne h)
   have hRe:acc.reverse=R:=by
    rw[<-hw];cases f with
    |zero=>rfl
    |succ f=>
     show _=if a<0 then acc.reverse else _
     rw[if_pos (by omega)]
   obtain⟨g,cap,cs,rfl,hcap,hBg,hgh,hgc⟩:=zkF hown hacc;have hRv:=zi (zaP acc g acc.length cap cs (0,0) wr rfl (by omega) hgh hgc (fun W ds p h=>zl h p));have hRe':=zi hRe;clear hw hown hgh hgc hRe;go_wp2_with fail;refine hRv.out.mono ?_;rintro e w4 ⟨rfl,hb4,ds,hds,hdp⟩;have HDS:=zi hds;have HDP:=zi hdp;clear hds hdp;go_wp2;go_ret;refine⟨_,rfl,⟨some ⟨g,0,none⟩,cap-acc.length,by rw[<-hRe'.out,gB,Nat.add_sub_cancel' hcap];rfl,.inr ⟨g,0,ds,(0,0),rfl,HDS.out,fun j x hj=>?_⟩⟩,zg hA (hb.trans (hb4.mono hBg))⟩;rw[<-hRe'.out] at hj;have hjl:=(gtL hj);rw[gB] at hjl;rw[Nat.zero_add,HDP.out j hjl,pA,hj];rfl
theorem KS.none(w:World):KS w (.slice Option.none 0 0) []:=⟨Option.none,0,rfl,.inl rfl⟩
def RdL(w:World)(r:List Int×Nat)(e:Ending)(w':World):Prop:=∃v,e=.returned (.tuple #[v,.int .i64 (r.2:Nat)])/\KS w' v r.1/\Below w.heap.size w w'
theorem zgE(t:yo)(nv iv:Value)(node:Int)(f:Nat)(val:List Int)(w:World)(hT:TR w nv iv t)(hG:qH w)(hok:Zo t)(heg:Enters prog f)
 (hof:∀W,Below w.heap.size w W->zR t=0->0<=node/\node<(t.nodes.length:Int)->Calls prog f #[.agg #[nv,iv],.int .i64 node] W (fun e W'=>∃v,e=.returned v/\KS W' v val/\Below W.heap.size W W')) :
 Calls prog 40 #[.agg #[nv,iv],.int .i64 node,.func (.func f) #[] #[]] w (RdL w (if zR t≠0 then ([],zR t) else if node<0\/(t.nodes.length:Int)<=node then ([],7) else (val,0))):=by
 obtain⟨r,hr⟩:∃r:List Int×Nat,(if zR t≠0 then ([],zR t) else if node<0\/(t.nodes.length:Int)<=node then ([],7) else (val,0))=r:=⟨_,rfl⟩;rw[hr];obtain⟨np,nc,ip,ic,rfl,rfl⟩:=hT.form;obtain⟨n,hn⟩:=exE (t.nodes.length);obtain⟨m,hm⟩:=exE (t.items.length);rw[hn,hm] at hof hT ⊢;rw[hn] at hr;have hz:=zk w (.cells #[.slice np n nc,.slice ip m ic] 26 (0,0));have hA:=zf w (.cells #[.slice np n nc,.slice ip m ic] 26 (0,0));have hC:=zi (ub t _ _ _ (hT.below hA) (hG.later hA) hok);have heg':=fun W=>heg (#[.agg #[.slice np n nc,.slice ip m ic],.int .i64 node]) W
 have c0:=zd hz 0;have c1:=zd hz 1;have hz':=zi hz;have hof':=zi hof;clear hT hG hz hof heg;generalize zR t=ck at *;go_enter func40,ntmps40;go_wp2_with fail;refine hC.out.mono ?_;rintro e w2 ⟨rfl,hb2⟩;have hB2:=zg hA hb2;clear c0 c1 hC;have c0:=zd (zh hb2 hz'.out) 0;have c1:=zd (zh hb2 hz'.out) 1;by_cases hck:ck=0
 ·subst hck;rw[if_neg (by simp)] at hr;by_cases h0:node<0
  ·rw[if_pos (.inl h0)] at hr;subst hr;go_wp2;go_ret2;exact⟨_,rfl,KS.none _,hB2⟩
  ·by_cases h1:(n:Int)<=node
   ·rw[if_pos (.inr h1)] at hr;subst hr;go_wp2;go_ret2;exact⟨_,rfl,KS.none _,hB2⟩
   ·rw[if_neg (by omega)] at hr;have hO:=zi (hof'.out w2 hB2 rfl (by omega));subst hr;go_wp2_with fail;refine hO.out.mono ?_;rintro e w3 ⟨v,rfl,hv,hb3⟩;have hv':=zi hv;clear hv;go_wp2;go_ret2;exact⟨_,rfl,hv'.out,zg hB2 hb3⟩
 ·have hck':((ck:Int) == 0)=false:=bfE (by omega)
  rw[if_pos hck] at hr;subst hr;go_wp2;go_ret2;exact⟨_,rfl,KS.none _,hB2⟩
theorem ziG(t:yo)(nv iv:Value)(node:Int)(w:World)(hT:TR w nv iv t)(hG:qH w)(hok:Zo t)(hkm:∀x∈t.nodes,x.kids.length<=1000):Calls prog 17 #[.agg #[nv,iv],.int .i64 node] w (RdL w (zhF t node)):=by
 obtain⟨np,nc,ip,ic,rfl,rfl⟩:=hT.form;have hz:=zk w (.cells #[.slice np t.nodes.length nc,.slice ip t.items.length ic] 26 (0,0));have hA:=zf w (.cells #[.slice np t.nodes.length nc,.slice ip t.items.length ic] 26 (0,0));have hF:=zi (zgE t _ _ node 41 (zg2 t node) _ (hT.below hA) (hG.later hA) hok (enters_of (P:=prog) func41 (by kernel_rfl) rfl) (fun W hb hc hn=>by
  have hcr:Qv t=0:=by rw[<-zc9 t hkm];exact hc
  have hfull:=KV hcr;have hn1:t.nodes.length<=1000:=by
   unfold zR at hc;split at hc
   ·cases hc
   ·omega
  obtain⟨i,rfl⟩:=pP hn.1;exact zi0 t _ _ i W ((hT.below hA).below hb) hok hfull hn1 (by omega)))
 have c0:=zd hz 0;have c1:=zd hz 1;unfold zhF zam;clear hT hG hz;generalize (if zR t≠0 then (([]:List Int),zR t) else if node<0\/(t.nodes.length:Int)<=node then ([],7) else (zg2 t node,0))=r at *;generalize t.nodes.length=n at *;generalize t.items.length=m at *;obtain⟨r1,r2⟩:=r;go_enter func17,ntmps17;go_wp2_with fail;refine hF.out.mono ?_;rintro e w2 ⟨v,rfl,hv,hb2⟩;have hv':=zi hv;clear hv;go_wp2;go_ret2;exact⟨_,rfl,hv'.out,zg hA hb2⟩
end
end Go.Proofs.YtnncmdpopgkibaaGreatDoor
