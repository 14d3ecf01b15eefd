/-
  A part of the proof: contracts of functions; no conditions.
-/
import Derived.Test.YtnncmdpopgkibaaGreatDoorKG
import Derived.OwnWalkIn
set_option maxRecDepth 100000
set_option maxHeartbeats 40000000
set_option linter.unusedSimpArgs false
set_option linter.unusedVariables false
namespace Go.Proofs.YtnncmdpopgkibaaGreatDoor
section
open Go.RowKit Lode Go.Shelf
open Go.Proofs.Tryz
def KSo(w:World)(v:Value)(l:List Int):Prop:=∃(p:Option Addr) (cap:Nat),v=.slice p l.length cap/\(l=[]\/∃g off:Nat,p=some ⟨g,off,none⟩/\∀j,j<l.length->w.cell? ⟨g,off+j,none⟩=some (.int .i64 (l.getD j 0)))
theorem KSo.below{w w':World}{v:Value}{l:List Int}(h:KSo w v l)(hb:Below w.heap.size w w'):KSo w' v l:=by
 obtain⟨p,cap,hv,h⟩:=h;refine⟨p,cap,hv,h.imp id ?_⟩;rintro ⟨g,off,hp,hc⟩;exact⟨g,off,hp,fun j hj=>zj hb (hc j hj)⟩
theorem KSo.form{w:World}{v:Value}{l:List Int}(h:KSo w v l):∃p cap,v=.slice p l.length cap:=by
 obtain⟨p,cap,hv,_⟩:=h;exact⟨p,cap,hv⟩
theorem KSo.at{w:World}{p:Option Addr}{n cap:Nat}{l:List Int}(h:KSo w (.slice p n cap) l){j:Nat}(hj:j<l.length):∃g off,p=some ⟨g,off,none⟩/\w.cell? ⟨g,off+j,none⟩=some (.int .i64 (l.getD j 0)):=by
 obtain⟨p',cap',hv,h⟩:=h;cases hv;rcases h with rfl|⟨g,off,rfl,hc⟩
 ·simp at hj
 ·exact⟨g,off,rfl,hc j hj⟩
theorem KS.o{w:World}{v:Value}{l:List Int}(h:KS w v l):KSo w v l:=by
 obtain⟨p,cap,hv,h⟩:=h;refine⟨p,_,hv,h.imp id ?_⟩;rintro ⟨g,off,cs,fr,hp,hg,hc⟩;refine⟨g,off,hp,fun j hj=>(zd hg _).trans ?_⟩;rw[pA,glE hj];exact hc j _ (glE hj)
structure NdO(w:World)(g i:Nat)(x:Nd)(u:Value):Prop where
 c0:w.cell? ⟨g,i,none⟩=some (.int .u8 x.kind)
 c1:w.cell? ⟨g,i+1,none⟩=some (.string ⟨x.text.toArray⟩)
 c2:w.cell? ⟨g,i+2,none⟩=some (.int .i64 x.n)
 c3:w.cell? ⟨g,i+3,none⟩=some u
 c4:w.cell? ⟨g,i+4,none⟩=some (.int .i64 x.at_)
 kids:KSo w u x.kids
theorem NdO.below{w w':World}{g i:Nat}{x:Nd}{u:Value}(h:NdO w g i x u)(hb:Below w.heap.size w w'):NdO w' g i x u:=
 ⟨zj hb h.c0,zj hb h.c1,zj hb h.c2,zj hb h.c3,zj hb h.c4,h.kids.below hb⟩
def NSo(w:World)(v:Value)(l:List Nd):Prop:=∃(p:Option Addr) (cap:Nat),v=.slice p l.length cap/\(l=[]\/∃g off:Nat,p=some ⟨g,off,none⟩/\∀(j:Nat) (x:Nd),l[j]? =some x->∃u,NdO w g (off+j*5) x u)
theorem NSo.below{w w':World}{v:Value}{l:List Nd}(h:NSo w v l)(hb:Below w.heap.size w w'):NSo w' v l:=by
 obtain⟨p,cap,hv,h⟩:=h;refine⟨p,cap,hv,h.imp id ?_⟩;rintro ⟨g,off,hp,hc⟩;exact⟨g,off,hp,fun j x hx=>(hc j x hx).imp fun u h=>h.below hb⟩
theorem NSo.form{w:World}{v:Value}{l:List Nd}(h:NSo w v l):∃p cap,v=.slice p l.length cap:=by
 obtain⟨p,cap,hv,_⟩:=h;exact⟨p,cap,hv⟩
theorem NSo.at{w:World}{p:Option Addr}{n cap:Nat}{l:List Nd}(h:NSo w (.slice p n cap) l){j:Nat}{x:Nd}(hx:l[j]? =some x):∃g off u,p=some ⟨g,off,none⟩/\NdO w g (off+j*5) x u:=by
 obtain⟨p',cap',hv,h⟩:=h;cases hv;rcases h with rfl|⟨g,off,rfl,hc⟩
 ·simp at hx
 ·obtain⟨u,hu⟩:=hc j x hx;exact⟨g,off,u,rfl,hu⟩
theorem NS.o{w:World}{v:Value}{l:List Nd}{kv:List Value}(h:NS w v l kv):NSo w v l:=by
 obtain⟨p,cap,rfl⟩:=h.form;by_cases h0:l=[]
 ·exact⟨p,cap,rfl,.inl h0⟩
 ·obtain⟨x0,hx0⟩:∃x,l[0]? =some x:=⟨_,glE (List.length_pos_iff.2 h0)⟩;obtain⟨g,off,u0,hp,_⟩:=h.at hx0;refine⟨p,cap,rfl,.inr ⟨g,off,hp,fun j x hx=>?_⟩⟩;obtain⟨g',off',u,hp',hA⟩:=h.at hx;rw[hp] at hp';cases hp';exact⟨u,hA.c0,hA.c1,hA.c2,hA.c3,hA.c4,hA.kids.o⟩
structure TRo(w:World)(nv iv:Value)(t:yo):Prop where
 nodes:NSo w nv t.nodes
 items:KSo w iv t.items
theorem TRo.below{w w':World}{nv iv:Value}{t:yo}(h:TRo w nv iv t)(hb:Below w.heap.size w w'):TRo w' nv iv t:=⟨h.nodes.below hb,h.items.below hb⟩
theorem TRo.form{w:World}{nv iv:Value}{t:yo}(h:TRo w nv iv t):∃p c q d,nv=.slice p t.nodes.length c/\iv=.slice q t.items.length d:=by
 obtain⟨p,c,hp⟩:=h.nodes.form;obtain⟨q,d,hq⟩:=h.items.form;exact⟨p,c,q,d,hp,hq⟩
theorem TR.o{w:World}{nv iv:Value}{t:yo}(h:TR w nv iv t):TRo w nv iv t:=⟨h.nodes.choose_spec.o,h.items.o⟩
end
section
open Go.RowKit Lode Go.Shelf
attribute [local go_sem ↓] Go.wp_at_zero Go.wp_at_succ
open Go.Proofs.Tryz
theorem jl(a b:Nat):decide ((a:Int)<=(b:Int))=decide (a<=b):=decide_eq_decide.2 (by omega)
theorem QW(x:Nd)(u:Value)(w:World)(hk:KS w u x.kids):Calls prog 37 #[uV x u] w (kQ w (.bool (ye x))):=by
 obtain⟨p,c,rfl⟩:=hk.form;clear hk;obtain⟨k,t,n,ks,a⟩:=x;unfold ye;simp only;generalize ks.length=m;have hz:=zk w (.cells #[.int .u8 k,.string ⟨t.toArray⟩,.int .i64 n,.slice p m c,.int .i64 a] 45 (0,0));have hA:=zf w (.cells #[.int .u8 k,.string ⟨t.toArray⟩,.int .i64 n,.slice p m c,.int .i64 a] 45 (0,0));have c0:=zd hz 0;have c2:=zd hz 2;have c3:=zd hz 3;clear hz;by_cases e40:k=40
 ·subst e40;rw[if_pos (show (40 == 40)=true from rfl)];by_cases h1:1<=n
  ·have h1':(1:Int)<=n:=h1;by_cases h2:n<=8
   ·have e:(decide (1<=n) && decide (n<=8))=true:=by simp[h1,h2]
    rw[e];go_enter func37,ntmps37;go_wp2;go_ret;exact⟨by simp[h2],hA⟩
   ·have e:(decide (1<=n) && decide (n<=8))=false:=by simp[h2]
    rw[e];go_enter func37,ntmps37;go_wp2;go_ret;exact⟨by simp[h2],hA⟩
  ·have e:(decide (1<=n) && decide (n<=8))=false:=by simp[h1]
   rw[e];go_enter func37,ntmps37;go_wp2;go_ret;exact⟨by simp,hA⟩
 rw[if_neg (by simp[e40])];by_cases e102:k=102
 ·subst e102;rw[show js 102=8 from rfl];have hd:decide ((m:Int)<=8)=decide (m<=8):=jl m 8;go_enter func37,ntmps37;go_wp2;go_ret;exact⟨rfl,hA⟩
 by_cases e33:k=33
 ·subst e33;rw[show js 33=8 from rfl];have hd:decide ((m:Int)<=8)=decide (m<=8):=jl m 8;go_enter func37,ntmps37;go_wp2;go_ret;exact⟨rfl,hA⟩
 by_cases e103:k=103
 ·subst e103;rw[show js 103=7 from rfl];have hd:decide ((m:Int)<=7)=decide (m<=7):=jl m 7;go_enter func37,ntmps37;go_wp2;go_ret;exact⟨rfl,hA⟩
 by_cases e85:k=85
 ·subst e85;rw[show js 85=7 from rfl];have hd:decide ((m:Int)<=7)=decide (m<=7):=jl m 7;go_enter func37,ntmps37;go_wp2;go_ret;exact⟨rfl,hA⟩
 by_cases e24:k=24
 ·subst e24;rw[show js 24=7 from rfl];have hd:decide ((m:Int)<=7)=decide (m<=7):=jl m 7;go_enter func37,ntmps37;go_wp2;go_ret;exact⟨rfl,hA⟩
 by_cases e100:k=100
 ·subst e100;rw[show js 100=6 from rfl];have hd:decide ((m:Int)<=6)=decide (m<=6):=jl m 6;go_enter func37,ntmps37;go_wp2;go_ret;exact⟨rfl,hA⟩
 by_cases e26:k=26
 ·subst e26;rw[show js 26=6 from rfl];have hd:decide ((m:Int)<=6)=decide (m<=6):=jl m 6;go_enter func37,ntmps37;go_wp2;go_ret;exact⟨rfl,hA⟩
 by_cases e101:k=101
 ·subst e101;rw[show js 101=8 from rfl];have hd:decide ((m:Int)<=8)=decide (m<=8):=jl m 8;go_enter func37,ntmps37;go_wp2;go_ret;exact⟨rfl,hA⟩
 by_cases e89:k=89
 ·subst e89;rw[show js 89=4 from rfl];have hd:decide ((m:Int)<=4)=decide (m<=4):=jl m 4;go_enter func37,ntmps37;go_wp2;go_ret;exact⟨rfl,hA⟩
 by_cases e25:k=25
 ·subst e25;rw[show js 25=4 from rfl];have hd:decide ((m:Int)<=4)=decide (m<=4):=jl m 4;go_enter func37,ntmps37;go_wp2;go_ret;exact⟨rfl,hA⟩
 by_cases e70:k=70
 ·subst e70;rw[show js 70=4 from rfl];have hd:decide ((m:Int)<=4)=decide (m<=4):=jl m 4;go_enter func37,ntmps37;go_wp2;go_ret;exact⟨rfl,hA⟩
 by_cases e31:k=31
 ·subst e31;rw[show js 31=13 from rfl];have hd:decide ((m:Int)<=13)=decide (m<=13):=jl m 13;go_enter func37,ntmps37;go_wp2;go_ret;exact⟨rfl,hA⟩
 by_cases e35:k=35
 ·subst e35;rw[show js 35=4 from rfl];have hd:decide ((m:Int)<=4)=decide (m<=4):=jl m 4;go_enter func37,ntmps37;go_wp2;go_ret;exact⟨rfl,hA⟩
 have hm:js k=1000:=by unfold js;simp[e102,e33,e103,e85,e24,e100,e26,e101,e89,e25,e70,e31,e35]
 rw[hm];have hd:decide ((m:Int)<=1000)=decide (m<=1000):=jl m 1000;have i102:((k:Int) == 102)=false:=bfE (by omega)
 have i33:((k:Int) == 33)=false:=bfE (by omega)
 have i103:((k:Int) == 103)=false:=bfE (by omega)
 have i85:((k:Int) == 85)=false:=bfE (by omega)
 have i24:((k:Int) == 24)=false:=bfE (by omega)
 have i100:((k:Int) == 100)=false:=bfE (by omega)
 have i26:((k:Int) == 26)=false:=bfE (by omega)
 have i101:((k:Int) == 101)=false:=bfE (by omega)
 have i89:((k:Int) == 89)=false:=bfE (by omega)
 have i25:((k:Int) == 25)=false:=bfE (by omega)
 have i70:((k:Int) == 70)=false:=bfE (by omega)
 have i31:((k:Int) == 31)=false:=bfE (by omega)
 have i35:((k:Int) == 35)=false:=bfE (by omega)
 have i40:((k:Int) == 40)=false:=bfE (by omega)
 clear hm e102 e33 e103 e85 e24 e100 e26 e101 e89 e25 e70 e31 e35 e40;go_enter func37,ntmps37;go_wp2;go_ret;exact⟨rfl,hA⟩
theorem ZA(v:Value)(f:Nat)(lb:Array Value)(l:List Nd)(kv:List Value)(p:Nd->Bool)(w:World)(heg:Enters prog f)(hN:NS w v l kv)(hn:l.length<=100000)
 (hp:∀W (x:Nd) (u:Value),Below w.heap.size w W->x∈l->KS W u x.kids->Calls prog f (#[uV x u] ++ lb) W (kQ W (.bool (p x)))) :
 Calls prog 35 #[v,.func (.func f) #[] lb] w (kQ w (.int .i64 (Xo p l))):=by
 obtain⟨q,c,rfl⟩:=hN.form;obtain⟨n,hn'⟩:∃n,l.length=n:=⟨_,rfl⟩;rw[hn'] at hn hN ⊢;replace heg:=zi heg;replace hN:=zi hN;replace hp:=zi hp;replace hn':=zi hn';go_enter func35,ntmps35;go_wp2;go_loopw [8] (zfJ p l w) (fun i _=>n-(intOf i).toNat)
 case atStart=>exact⟨0,rfl,pU _,fun i y h=>absurd h (wG _),pF _ _⟩
 case round=>
  obtain⟨j,rfl,hj,hno,hb⟩:=hrel;replace hno:=zi hno;rw[hn'.out] at hj;by_cases hlt:j<n
  ·have hlt':(j:Int)<(n:Int):=by omega
   have hy:=pJ ((j:Int)+1) (by omega);obtain⟨x,hx⟩:∃x,l[j]? =some x:=⟨_,glE (by rw[hn'.out];omega)⟩;obtain⟨g,off,u,rfl,hA⟩:=(hN.out.below hb).at hx;have hC:=hp.out wr x u hb (wK hx) hA.kids;have heg':=fun W=>heg.out (#[uV x u] ++ lb) W
   obtain⟨up,uc,rfl⟩:=hA.kids.form;have HX:=zi (And.intro hx hno.out);obtain⟨_,c0,c1,c2,c3,c4,_⟩:=hA;clear hx hno;generalize hpx:p x=b at *;replace hpx:=zi hpx;obtain⟨x0,x1,x2,x3,x4⟩:=x;unfold uV at hC heg';simp only at hC heg' c0 c1 c2 c3 c4;go_wp2_with fail;refine hC.mono ?_;rintro e w1 ⟨rfl,hb1⟩;cases b with
   |true=>
    go_wp2;go_ret;refine⟨?_,zg hb hb1⟩;rw[XH p l j _ HX.out.1 hpx.out HX.out.2];rfl
   |false=>
    go_wp2;go_roundw
    case rel=>
     refine⟨j+1,by simp,by rw[hn'.out];omega,fun i y hi hyy=>?_,zg hb hb1⟩;by_cases e:i=j
     ·subst e;rw[HX.out.1] at hyy;cases hyy;exact hpx.out
     ·exact HX.out.2 i y (by omega) hyy
    case measure=>simp[intOf];omega
  ·have hlt':¬((j:Int)<(n:Int)):=by omega
   go_wp2;go_ret;refine⟨?_,hb⟩;rw[Ye p l (fun i y h=>hno.out i y (by have:=(gtL h);rw[hn'.out] at this;omega) h)];rfl
end
section
open Go.RowKit Lode Go.Shelf
open Go.Proofs.Tryz
def XS(w0:World)(C:Nat)(T:TypeId)(v:Value)(A B:World):Prop:=Below w0.heap.size A B/\(A.heap[C]? =some (.cells #[v] T (0,0))->B.heap[C]? =some (.cells #[v] T (0,0)))
theorem XS.trans{w0:World}{C:Nat}{T:TypeId}{v:Value}{a b c:World}(h:XS w0 C T v a b)(k:XS w0 C T v b c):XS w0 C T v a c:=⟨h.1.trans k.1,fun e=>k.2 (h.2 e)⟩
theorem XS.refl(w0:World)(C:Nat)(T:TypeId)(v:Value)(a:World):XS w0 C T v a a:=⟨pF _ _,id⟩
theorem XS.put{w0:World}{C:Nat}{T:TypeId}{v:Value}{w:World}(hb:w0.heap.size<=w.heap.size)(W:World)(l:Nat)(o o':Obj)(hl:w.heap.size<=l)(h:W.heap[l]? =some o)(ho:o.isCells=false):XS w0 C T v W (W.putObj l o'):=by
 have hlt:=(gtA h);refine⟨(pF _ W).grown (grownBy_putObj' W l o') (by omega) (fun k hk=>by cases hk;omega),fun e=>?_⟩;rw[World.putObj_heap_other (fun e'=>by rw[e'] at e;rw[h] at e;cases e;cases ho)];exact e
abbrev zlt(x:Int×Int):Array Value:= #[.int .i64 x.1,.int .i64 x.2]
def ziP(w0:World)(C:Nat)(v:Value)(m:Nat)(J:List (Int×Int)->World->Prop)(Ws:World)(i:Value)(wr:World):Prop:=∃pre:List (Int×Int),i=.int .i64 ((m:Int)-1-pre.length)/\pre.length<=m/\XS w0 C 24 v Ws wr/\J pre wr
theorem zat(w0:World)(C:Nat)(v:Value)(l:List Int)(hK:KS w0 v l)(hl:l.length<=100000)(w:World)(hb0:Below w0.heap.size w0 w)(hC:w.heap[C]? =some (.cells #[v] 24 (0,0)))(n:Nat)(hn:1<=n):
 zgR Fence.wide n prog 144 #[] #[.pointer (some ⟨C,0,none⟩)] zlt (XS w0 C 24 v) (fun pre x=>pre.length<l.length/\x=((l.length:Int)-1-pre.length,l.getD (l.length-1-pre.length) 0)) (fun _=>False) (fun xs=>xs.length=l.length) (fun _=>True) w:=fun L J Jx W hW hJ hJx hY h0=>by
 have hC:=zh hW hC;have hb0:=hb0.trans (hW.mono hb0.size);have c0:=zd hC 0;obtain⟨p,cap,rfl⟩:=hK.form;have HY:=zi hY;replace hK:=zi hK;obtain⟨m,hm⟩:=exE (l.length);have hst:ziP w0 C (.slice p l.length cap) m J W (.int .i64 ((m:Int)-1)) W:=⟨[],by simp,pU _,XS.refl _ _ _ _ _,h0⟩;replace hst:=zi hst;clear hY;rw[hm] at hl;have hy0:=pJ ((m:Int)-1) (by omega);refine callsIn_of_wp func144 rfl trivial ?_ rfl;simp only[ntmps144,List.size_toArray,pK,pR,Nat.reduceAdd,Nat.reduceSub,Array.replicate_succ,Array.replicate_zero,List.push_toArray,List.append_toArray,wJ,pT];rw[hm] at c0;replace hm:=zi hm
 gi_wp2_with fail
 clear c0
 gi_loopw [3] (ziP w0 C (.slice p l.length cap) m J W) (fun i _=>(intOf i+1).toNat)
 case atStart=>exact hst.out
 case round=>
  obtain⟨pre,rfl,hpre,hkp,hj⟩:=hrel;have c0:=zd (hkp.2 hC) 0;rw[hm.out] at c0;by_cases hlt:pre.length<m
  ·have hge:¬((m:Int)-1-(pre.length:Int)<0):=by omega
   have hge2:(0:Int)<=(m:Int)-1-(pre.length:Int):=by omega
   have hlt1:(m:Int)-1-(pre.length:Int)<(m:Int):=by omega
   obtain⟨j,hj'⟩:∃j:Nat,m-1-pre.length=j:=⟨_,rfl⟩;have hji:(m:Int)-1-(pre.length:Int)=(j:Int):=by omega
   obtain⟨g,off,rfl,_,d0⟩:=(hK.out.below (hb0.trans hkp.1)).at (j:=j) (by rw[hm.out];omega);have hx:(((l.length:Int)-1-pre.length,l.getD (l.length-1-pre.length) 0):Int×Int)=((j:Int),l.getD j 0):=by rw[hm.out,hj',hji]
   obtain⟨fn,tm,asg,bo,hy,hRR⟩:=HY.out pre ((j:Int),l.getD j 0) wr hj ⟨by rw[hm.out];exact hlt,hx.symm⟩;have hRR:=zi hRR;have hy1:=pJ ((j:Int)-1) (by omega);rw[hji] at hge hge2 hlt1 ⊢;have hji':=zi hji;clear hji hx;generalize l.getD j 0=z at *
   gi_wp2_with fail
   refine hRR.out.mono ?_;rintro e W' (⟨rfl,hJ',hk'⟩|⟨rfl,hJx'⟩)
   ·gi_wp2_with fail
    go_roundw
    case rel=>exact⟨pre ++ [((j:Int),z)],by rw[pC,pI];have:=hji'.out;congr 1;omega,by rw[pC,pI];omega,hkp.trans hk',hJ'⟩
    case measure=>simp only[intOf];omega
   ·gi_wp2_with fail
    first|go_end0|refine bodyPost_ret (results_none rfl _ _ _) rfl ?_
    exact⟨⟨_,rfl⟩,.inr ⟨_,trivial,hJx'⟩⟩
  ·have hge:(m:Int)-1-(pre.length:Int)<0:=by omega
   have hge2:¬((0:Int)<=(m:Int)-1-(pre.length:Int)):=by omega
   gi_wp2_with fail
   first|go_end0|refine bodyPost_ret (results_none rfl _ _ _) rfl ?_
   exact⟨⟨_,rfl⟩,.inl ⟨pre,by rw[hm.out];omega,hj⟩⟩
theorem NS.at2{w:World}{p:Option Addr}{n cap:Nat}{l:List Nd}{kv:List Value}(h:NS w (.slice p n cap) l kv){j:Nat}{x:Nd}(hx:l[j]? =some x):∃g off u,p=some ⟨g,off,none⟩/\kv[j]? =some u/\ziJ w g (off+j*5) x u:=by
 obtain⟨h1,h2,p',cap',hv,h3⟩:=h;cases hv;have hj:j<l.length:=(gtL hx);obtain⟨u,hu⟩:∃u,kv[j]? =some u:=⟨_,glE (by rw[h1];exact hj)⟩;rcases h3 with rfl|⟨g,off,cs,fr,rfl,hg,hc⟩
 ·simp at hj
 ·have hc:=hc j x u hx hu;refine⟨g,off,u,rfl,hu,(gtA hg),(zd hg _).trans (hc 0 _ rfl),(zd hg _).trans (hc 1 _ rfl),(zd hg _).trans (hc 2 _ rfl),(zd hg _).trans (hc 3 _ rfl),(zd hg _).trans (hc 4 _ rfl),h2 j x u hx hu⟩
abbrev zj0(x:Int×Nd×Value):Array Value:= #[.int .i64 x.1,uV x.2.1 x.2.2]
def ziO(w0:World)(C:Nat)(v:Value)(m:Nat)(J:List (Int×Nd×Value)->World->Prop)(Ws:World)(i:Value)(wr:World):Prop:=∃pre:List (Int×Nd×Value),i=.int .i64 ((m:Int)-1-pre.length)/\pre.length<=m/\XS w0 C 23 v Ws wr/\J pre wr
theorem zgN(w0:World)(C:Nat)(v:Value)(l:List Nd)(kv:List Value)(hK:NS w0 v l kv)(hl:l.length<=100000)(w:World)(hb0:Below w0.heap.size w0 w)(hC:w.heap[C]? =some (.cells #[v] 23 (0,0)))(n:Nat)(hn:1<=n):
 zgR Fence.wide n prog 101 #[] #[.pointer (some ⟨C,0,none⟩)] zj0 (XS w0 C 23 v) (fun pre x=>pre.length<l.length/\x.1=(l.length:Int)-1-pre.length/\l[l.length-1-pre.length]? =some x.2.1/\kv[l.length-1-pre.length]? =some x.2.2) (fun _=>False) (fun xs=>xs.length=l.length) (fun _=>True) w:=fun L J Jx W hW hJ hJx hY h0=>by
 have hC:=zh hW hC;have hb0:=hb0.trans (hW.mono hb0.size);have c0:=zd hC 0;obtain⟨p,cap,rfl⟩:=hK.form;have HY:=zi hY;replace hK:=zi hK;obtain⟨m,hm⟩:=exE (l.length);have hst:ziO w0 C (.slice p l.length cap) m J W (.int .i64 ((m:Int)-1)) W:=⟨[],by simp,pU _,XS.refl _ _ _ _ _,h0⟩;replace hst:=zi hst;clear hY;rw[hm] at hl;have hy0:=pJ ((m:Int)-1) (by omega);refine callsIn_of_wp func101 rfl trivial ?_ rfl;simp only[ntmps101,List.size_toArray,pK,pR,Nat.reduceAdd,Nat.reduceSub,Array.replicate_succ,Array.replicate_zero,List.push_toArray,List.append_toArray,wJ,pT];rw[hm] at c0;replace hm:=zi hm
 gi_wp2_with fail
 clear c0
 gi_loopw [3] (ziO w0 C (.slice p l.length cap) m J W) (fun i _=>(intOf i+1).toNat)
 case atStart=>exact hst.out
 case round=>
  obtain⟨pre,rfl,hpre,hkp,hj⟩:=hrel;have c0:=zd (hkp.2 hC) 0;rw[hm.out] at c0;by_cases hlt:pre.length<m
  ·have hge:¬((m:Int)-1-(pre.length:Int)<0):=by omega
   have hge2:(0:Int)<=(m:Int)-1-(pre.length:Int):=by omega
   have hlt1:(m:Int)-1-(pre.length:Int)<(m:Int):=by omega
   obtain⟨j,hj'⟩:∃j:Nat,m-1-pre.length=j:=⟨_,rfl⟩;have hji:(m:Int)-1-(pre.length:Int)=(j:Int):=by omega
   obtain⟨x,hx⟩:∃x,l[j]? =some x:=⟨_,glE (by rw[hm.out];omega)⟩;obtain⟨g,off,u,rfl,hu,hA⟩:=(hK.out.below (hb0.trans hkp.1)).at2 hx;obtain⟨fn,tm,asg,bo,hy,hRR⟩:=HY.out pre ((j:Int),x,u) wr hj ⟨by rw[hm.out];exact hlt,by rw[hm.out];exact hji.symm,by rw[hm.out,hj'];exact hx,by rw[hm.out,hj'];exact hu⟩;obtain⟨up,uc,rfl⟩:=hA.kids.form;obtain⟨_,d0,d1,d2,d3,d4,_⟩:=hA;obtain⟨x0,x1,x2,x3,x4⟩:=x;unfold zj0 uV at hy;simp only at hy d0 d1 d2 d3 d4;have hRR:=zi hRR;have hy1:=pJ ((j:Int)-1) (by omega);rw[hji] at hge hge2 hlt1 ⊢;have hji':=zi hji;clear hji hx hu
   gi_wp2_with fail
   refine hRR.out.mono ?_;rintro e W' (⟨rfl,hJ',hk'⟩|⟨rfl,hJx'⟩)
   ·gi_wp2_with fail
    go_roundw
    case rel=>exact⟨pre ++ [((j:Int),⟨x0,x1,x2,x3,x4⟩,_)],by rw[pC,pI];have:=hji'.out;congr 1;omega,by rw[pC,pI];omega,hkp.trans hk',hJ'⟩
    case measure=>simp only[intOf];omega
   ·gi_wp2_with fail
    first|go_end0|refine bodyPost_ret (results_none rfl _ _ _) rfl ?_
    exact⟨⟨_,rfl⟩,.inr ⟨_,trivial,hJx'⟩⟩
  ·have hge:(m:Int)-1-(pre.length:Int)<0:=by omega
   have hge2:¬((0:Int)<=(m:Int)-1-(pre.length:Int)):=by omega
   gi_wp2_with fail
   first|go_end0|refine bodyPost_ret (results_none rfl _ _ _) rfl ?_
   exact⟨⟨_,rfl⟩,.inl ⟨pre,by rw[hm.out];omega,hj⟩⟩
theorem zau(p:Option Addr)(n cap:Nat)(w:World):Calls prog 102 #[.slice p n cap] w fun e w'=>e=.returned (.func (.func 144) #[] #[.pointer (some ⟨w.heap.size,0,none⟩)])/\w'=w.alloc (.cells #[.slice p n cap] 24 (0,0)):=by
 have hmf:∀(fn:Fn) (first cap:Array Value) (w:World),(Instr.makeFunc fn first cap).run prog w=.ok (.func fn first cap) w:=fun _ _ _ _=>rfl
 go_enter func102,ntmps102;go_wp2;go_ret;exact⟨rfl,rfl⟩
theorem zgO(p:Option Addr)(n cap:Nat)(w:World):Calls prog 70 #[.slice p n cap] w fun e w'=>e=.returned (.func (.func 101) #[] #[.pointer (some ⟨w.heap.size,0,none⟩)])/\w'=w.alloc (.cells #[.slice p n cap] 23 (0,0)):=by
 have hmf:∀(fn:Fn) (first cap:Array Value) (w:World),(Instr.makeFunc fn first cap).run prog w=.ok (.func fn first cap) w:=fun _ _ _ _=>rfl
 go_enter func70,ntmps70;go_wp2;go_ret;exact⟨rfl,rfl⟩
end
section
open Go.RowKit Lode Go.Shelf
attribute [local go_sem] Oper.semAt_some
open Go.Proofs.Tryz
structure DpB(O:Obj)(N:Nat)(w:World)(D V M m:Nat)(deep:List Nat)(most:Nat):Prop where
 d:w.heap[D]? =some (.cells (deep.map fun (k:Nat)=>Value.int .i64 k).toArray 3 (0,0))
 v:w.heap[V]? =some (.cells #[.slice (some ⟨D,0,none⟩) m m] 24 (0,0))
 k:w.heap[M]? =some (.cells #[.int .i64 most] 3 (0,0))
 len:deep.length=m
 t:w.heap[N]? =some O
theorem DpB.below{O:Obj}{N:Nat}{w w':World}{D V M m:Nat}{deep:List Nat}{most:Nat}(h:DpB O N w D V M m deep most)(hb:Below w.heap.size w w'):DpB O N w' D V M m deep most:=⟨zh hb h.d,zh hb h.v,zh hb h.k,h.len,zh hb h.t⟩
theorem DpB.get{O:Obj}{N:Nat}{w:World}{D V M m:Nat}{deep:List Nat}{most:Nat}(h:DpB O N w D V M m deep most){j:Nat}(hj:j<m):w.cell? ⟨D,j,none⟩=some (.int .i64 (deep.getD j 0:Nat)):=by
 rw[zd h.d j,pV,pZ,pA,glE (by rw[h.len];exact hj)];rfl
theorem DpB.set{O:Obj}{N:Nat}{w:World}{D V M m:Nat}{deep:List Nat}{most:Nat}(h:DpB O N w D V M m deep most)(hV:V≠D)(hM:M≠D)(hN:N≠D)(j x:Nat):DpB O N (w.setCell ⟨D,j,none⟩ (.int .i64 x)) D V M m (deep.set j x) most:=by
 refine⟨?_,(zt hV).trans h.v,(zt hM).trans h.k,by rw[List.length_set];exact h.len,(zt hN).trans h.t⟩;rw[zr h.d j];simp only[List.setIfInBounds_toArray,List.map_set]
theorem DpB.put{O:Obj}{N:Nat}{w:World}{D V M m:Nat}{deep:List Nat}{most:Nat}(h:DpB O N w D V M m deep most)(hD:D≠M)(hV:V≠M)(hN:N≠M)(x:Nat):DpB O N (w.setCell ⟨M,0,none⟩ (.int .i64 x)) D V M m deep x:=
 ⟨(zt hD).trans h.d,(zt hV).trans h.v,zr h.k 0 _,h.len,(zt hN).trans h.t⟩
theorem ZB{W W':World}{row:Option Nat}(hg:W.grownBy W' row)(hr:∀r,row=some r->∃o:Obj,W.heap[r]? =some o/\o.isCells=false){k:Nat}{cs:Array Value}{T:TypeId}{fr:Nat×Nat}(h:W.heap[k]? =some (.cells cs T fr)):W'.heap[k]? =some (.cells cs T fr):=by
 rw[hg.block k (gtA h) (fun e=>by
  obtain⟨o,ho,hc⟩:=hr k e.symm;rw[h] at ho;cases ho;cases hc)]
 exact h
theorem DpB.own{O:Obj}{N:Nat}{W W':World}{D V M m:Nat}{deep:List Nat}{most:Nat}(h:DpB O N W D V M m deep most)(hO:∃cs T fr,O=.cells cs T fr){row:Option Nat}(hg:W.grownBy W' row)(hr:∀r,row=some r->∃o:Obj,W.heap[r]? =some o/\o.isCells=false):DpB O N W' D V M m deep most:=by
 obtain⟨cs,T,fr,rfl⟩:=hO;exact⟨ZB hg hr h.d,ZB hg hr h.v,ZB hg hr h.k,h.len,ZB hg hr h.t⟩
def DpI(O:Obj)(w:World)(B D V M m:Nat)(l:List Nd)(R:Nat)(pre:List (Int×Nd×Value))(W:World):Prop:=∃deep most,DpB O w.heap.size W D V M m deep most/\Below w.heap.size w W/\B<=W.heap.size/\pre.length<=m/\vH l (m-pre.length) deep most=R/\(∀q,deep.getD q 0<=pre.length+1)/\most<=pre.length+1
theorem DpI.own{O:Obj}{w:World}{D V M m B R:Nat}{l:List Nd}(hO:∃cs T fr,O=.cells cs T fr)(hb:w.heap.size<=B):YE (fun _=>False) B (DpI O w B D V M m l R):=by
 rintro pre W W' row ⟨deep,most,hD,hB,hsz,r⟩ hg hr;have hr':∀r,row=some r->B<=r/\∃o:Obj,W.heap[r]? =some o/\o.isCells=false:=fun r e=>(hr r e).elim False.elim id
 exact⟨deep,most,hD.own hO hg (fun r e=>(hr' r e).2),hB.grown hg hB.size (fun r e=>pN hb (hr' r e).1),pN hsz hg.size,r⟩
def zdg(O:Obj)(w W:World)(C:Nat)(v:Value)(D V M m:Nat)(ks:List Int)(d i pl most:Nat)(F:List Nat)(s:Value)(wr:World):Prop:=∃j deep,s=.int .i64 (j:Nat)/\j<=ks.length/\DpB O w.heap.size wr D V M m deep most/\Below w.heap.size w wr/\KeepsOthers W wr/\XS w C 23 v W wr/\xZ d (ks.drop j) deep=F/\deep.getD i 0=d/\(∀q,deep.getD q 0<=pl+2)/\W.heap.size<=wr.heap.size
theorem zdg.step{O:Obj}{w W wr:World}{C:Nat}{v:Value}{D V M m:Nat}{ks:List Int}{d i pl most k zn:Nat}{F dp:List Nat}(h:DpB O w.heap.size wr D V M m dp most)(hV:V≠D)(hM:M≠D)(hN:w.heap.size≠D)(hC:C≠D)(hDw:w.heap.size<=D)(hBk:Below w.heap.size w wr)(hKo:KeepsOthers W wr)(hKp:XS w C 23 v W wr)(hFk:xZ d (ks.drop k) dp=F)(hdr:ks.drop k=(zn:Int) :: ks.drop (k+1))(hk:k<ks.length)(hdk:dp.getD i 0=d)(hzi:zn<i)(hdle:d<=pl+1)(hlk:∀q,dp.getD q 0<=pl+2)(hszk:W.heap.size<=wr.heap.size):zdg O w W C v D V M m ks d i pl most F (.int .i64 ((k:Int)+1)) (wr.setCell ⟨D,zn,none⟩ (.int .i64 ((d:Int)+1))).drew:=by
 have hs:=h.set hV hM hN zn (d+1);rw[show (((d+1:Nat)):Int)=(d:Int)+1 from rfl] at hs;rw[hdr] at hFk;refine⟨k+1,dp.set zn (d+1),rfl,hk,hs.below bR.drew,(hBk.setCell hDw _).drew,(hKo.trans (KeepsOthers.setCell _ _ _)).trans (KeepsOthers.drew _),hKp.trans ⟨(bR.setCell hDw _).drew,fun e=>(zt hC).trans e⟩,hFk,?_,fun q=>?_,?_⟩
 ·rw[uu,if_neg (by omega)];exact hdk
 ·rw[uu];split
  ·omega
  ·exact hlk q
 ·simpa using hszk
theorem zkU{O:Obj}{w W wr:World}{C B:Nat}{v:Value}{D V M m:Nat}{l:List Nd}{R d i most:Nat}{F:List Nat}{pre:List (Int×Nd×Value)}{x:Int×Nd×Value}(h:DpB O w.heap.size wr D V M m F most)(hD:D≠M)(hV:V≠M)(hN:w.heap.size≠M)(hC:C≠M)(hMw:w.heap.size<=M)(hBk:Below w.heap.size w wr)(hKo:KeepsOthers W wr)(hKp:XS w C 23 v W wr)(hsz:B<=W.heap.size)(hszk:W.heap.size<=wr.heap.size)(hpl:pre.length<m)(hi:m-(pre.length+1)=i)(hR:vH l i F (max most d)=R)(hlk:∀q,F.getD q 0<=pre.length+2)(hmo:most<=pre.length+1)(hdle:d<=pre.length+1):KeepsOthers W (wr.setCell ⟨M,0,none⟩ (.int .i64 (max (most:Int) (d:Int)))).drew/\XS w C 23 v W (wr.setCell ⟨M,0,none⟩ (.int .i64 (max (most:Int) (d:Int)))).drew/\DpI O w B D V M m l R (pre ++ [x]) (wr.setCell ⟨M,0,none⟩ (.int .i64 (max (most:Int) (d:Int)))).drew:=by
 have hs:=h.put hD hV hN (max most d);have e:((max most d:Nat):Int)=max (most:Int) (d:Int):=by omega
 rw[e] at hs;refine⟨(hKo.trans (KeepsOthers.setCell _ _ _)).trans (KeepsOthers.drew _),hKp.trans ⟨(bR.setCell hMw _).drew,fun e=>(zt hC).trans e⟩,F,max most d,hs.below bR.drew,(hBk.setCell hMw _).drew,?_,?_,?_,?_,?_⟩
 ·refine pN hsz ?_;simpa using hszk
 ·simp only[pC,pI];omega
 ·simp only[pC,pI];rw[hi];exact hR
 ·simp only[pC,pI];exact hlk
 ·simp only[pC,pI];omega
def zkk(O:Obj)(w:World)(D V M m:Nat)(items:List Int)(n:Nat)(i:Value)(wr:World):Prop:=∃j deep,i=.int .i64 (j:Nat)/\j<=items.length/\DpB O w.heap.size wr D V M m deep 0/\Below w.heap.size w wr/\((items.drop j).foldl (fun (d:List Nat) k=>d.set k.toNat 1) deep)=(items.foldl (fun (d:List Nat) k=>d.set k.toNat 1) (List.replicate n 0))/\∀q,deep.getD q 0<=1
theorem QZ(t:yo)(nv iv:Value)(w:World)(hT:TR w nv iv t)(hk:∀(i:Nat) (x:Nd),t.nodes[i]? =some x->∀k∈x.kids,0<=k/\k<(i:Int))(hi:∀k∈t.items,0<=k/\k<(t.nodes.length:Int))(hn:t.nodes.length<=1000)(hin:t.items.length<=100000)(hkl:∀x∈t.nodes,x.kids.length<=100000):
 Calls prog 34 #[.agg #[nv,iv]] w (kQ w (.int .i64 (xJ t:Nat))):=by
 obtain⟨np,nc,ip,ic,rfl,rfl⟩:=hT.form;obtain⟨kv,hN⟩:=hT.nodes;have hI:=hT.items;obtain⟨l,its⟩:=t;simp only at hN hI hk hi hn hin hkl ⊢;unfold xJ;simp only;obtain⟨m,hm⟩:=exE (l.length);obtain⟨q,hq⟩:=exE (its.length);have hmk:=zgr m (by omega);replace hN:=zi hN;replace hI:=zi hI;replace hk:=zi hk;replace hi:=zi hi;replace hkl:=zi hkl;obtain⟨R,hR⟩:=exE (vH l m (its.foldl (fun (d:List Nat) k=>d.set k.toNat 1) (List.replicate m 0)) 0);rw[hm,hq,hR];rw[hm] at hn;rw[hq] at hin;replace hm:=zi hm;replace hq:=zi hq;replace hR:=zi hR;clear hT;have hmk2:∀W:World,(Instr.makeSlice 24 (.int .i64 (m:Int)) (.int .i64 (m:Int))).run prog W=.ok (.slice (some ⟨W.heap.size,0,none⟩) m m) (W.alloc (.cells (List.replicate m (Value.int .i64 0)).toArray 3 (0,0))):=fun W=>hmk W
 clear hmk;refine (callsIn_wide (n:=5)).1 ?_;refine callsIn_of_wp_marks func34 rfl trivial ?_ rfl;simp only[ntmps34,List.size_toArray,pK,pR,Nat.reduceAdd,Nat.reduceSub,Array.replicate_succ,Array.replicate_zero,List.push_toArray,List.append_toArray,wJ,pT]
 gi_wp2_with fail
 have hst:zkk (.cells #[.slice np m nc,.slice ip q ic] 26 (0,0)) w (w.heap.size+1) (w.heap.size+1+1) (w.heap.size+1+1+1) m its m (.int .i64 0) ((((w.alloc (.cells #[.slice np m nc,.slice ip q ic] 26 (0,0))).alloc (.cells (Array.replicate m (.int .i64 0)) 3 (0,0))).alloc (.cells #[.slice (some ⟨w.heap.size+1,0,none⟩) m m] 24 (0,0))).alloc (.cells #[.int .i64 0] 3 (0,0))):=by
  have h0:=zJ [.cells #[.slice np m nc,.slice ip q ic] 26 (0,0),.cells (Array.replicate m (.int .i64 0)) 3 (0,0),.cells #[.slice (some ⟨w.heap.size+1,0,none⟩) m m] 24 (0,0),.cells #[.int .i64 0] 3 (0,0)] w;refine⟨0,List.replicate m 0,rfl,pU _,⟨(h0 1 _ rfl).trans ?_,h0 2 _ rfl,h0 3 _ rfl,by simp,h0 0 _ rfl⟩,zX [.cells #[.slice np m nc,.slice ip q ic] 26 (0,0),.cells (Array.replicate m (.int .i64 0)) 3 (0,0),.cells #[.slice (some ⟨w.heap.size+1,0,none⟩) m m] 24 (0,0),.cells #[.int .i64 0] 3 (0,0)] w,rfl,fun j=>?_⟩
  ·simp
  ·rw[pA,List.getElem?_replicate];split <;> simp
 replace hst:=zi hst
 gi_loopw [18] (zkk (.cells #[.slice np m nc,.slice ip q ic] 26 (0,0)) w (w.heap.size+1) (w.heap.size+1+1) (w.heap.size+1+1+1) m its m) (fun i _=>q-(intOf i).toNat)
 case atStart=>exact hst.out
 case round=>
  obtain⟨j,deep,rfl,hj,hD,hB,hf,hle⟩:=hrel;rw[hq.out] at hj;have Hf:=zi hf;have HD:=zi hD;have v0:=zd hD.v 0;clear hf;by_cases hlt:j<q
  ·have hlt':(j:Int)<(q:Int):=by omega
   have hy:=pJ ((j:Int)+1) (by omega);obtain⟨g,off,rfl,_,d0⟩:=(hI.out.below hB).at (j:=j) (by rw[hq.out];omega);have hz:=hi.out (its.getD j 0) (by
    rw[pA,glE (by rw[hq.out];omega)];exact wC _)
   have hdr:its.drop j=its.getD j 0 :: its.drop (j+1):=by
    rw[pA,glE (by rw[hq.out];omega)];exact List.drop_eq_getElem_cons _
   rw[hm.out] at hz;replace hdr:=zi hdr;generalize its.getD j 0=z at *;obtain⟨zn,rfl⟩:∃zn:Nat,z=zn:=⟨z.toNat,by omega⟩;have hz1:(zn:Int)<(m:Int):=hz.2;have hz2:¬((zn:Int)<0):=by omega
   have c0:=hD.get (j:=zn) (by omega);have f0:=zl hD.d zn;clear hD hz
   gi_wp2_with fail
   go_roundw
   case rel=>
    refine⟨j+1,deep.set zn 1,by simp,by rw[hq.out];omega,HD.out.set (by omega) (by omega) (by omega) zn 1,hB.setCell (by simp only;omega) _,?_,fun j=>?_⟩
    ·have:=Hf.out;rw[hdr.out] at this;exact this
    ·rw[uu];split
     ·exact pE _
     ·exact hle j
   case measure=>simp[intOf];omega
  ·have hlt':¬((j:Int)<(q:Int)):=by omega
   have hjq:j=q:=by omega
   have hf2:deep=its.foldl (fun (d:List Nat) k=>d.set k.toNat 1) (List.replicate m 0):=by
    have:=Hf.out;rw[hjq,<-hq.out,List.drop_length] at this;exact this
   rw[<-hf2] at hR;have tc:=zd hD.t 0;clear hf2 Hf v0 hjq
   gi_wp2_with (first|(refine⟨trivial,?_⟩;gi_at_call 70;refine (callsIn_wide.2 (zgO np m nc wr)).mono ?_;rintro e W2 ⟨rfl,rfl⟩))
   have hCD:w.heap.size+1+1+1<wr.heap.size:=(gtA hD.k);generalize hact:(Act.mk _ [])=a0;generalize hW2:wr.alloc (.cells #[.slice np m nc] 23 (0,0))=W2;have hN0:=zi hN.out.2.1;have hsz:W2.heap.size=wr.heap.size+1:=by rw[<-hW2];simp
   have hC:W2.heap[wr.heap.size]? =some (.cells #[.slice np l.length nc] 23 (0,0)):=by rw[<-hW2,hm.out];exact zk _ _
   have hbw:Below wr.heap.size wr W2:=by rw[<-hW2];exact zf _ _
   have hB2:Below w.heap.size w W2:=hB.trans (hbw.mono hB.size);have hws:=hB.size;refine uO (e1:=fun x:Int×Nd×Value=>.int .i64 x.1) (e2:=fun x=>uV x.2.1 x.2.2) (gf:=101) (la:= #[]) (lb:= #[.pointer (some ⟨wr.heap.size,0,none⟩)]) rfl (by omega) (by rw[<-hact];rfl) trivial (enters_of func101 (by kernel_rfl) rfl)
    (zgN w wr.heap.size (.slice np l.length nc) l kv hN.out (by rw[hm.out];omega) W2 hB2 hC _ (by omega)) (fun r h=>h.elim) XS.trans (fun W l o o' hl ho hc=>XS.put (w:=W2) (by omega) W l o o' hl ho hc)
    (DpI (.cells #[.slice np m nc,.slice ip q ic] 26 (0,0)) w W2.heap.size (w.heap.size+1) (w.heap.size+1+1) (w.heap.size+1+1+1) m l R) (fun _ _ _=>False) (DpI.own ⟨_,_,_,rfl⟩ (by omega)) (fun c s W W' row h _ _=>h)
    ⟨deep,0,hD.below hbw,hB2,pE _,pU _,hR.out,fun q=>hle q,pU _⟩
    (fun pre x a' W=>∃b,DpI (.cells #[.slice np m nc,.slice ip q ic] 26 (0,0)) w W2.heap.size (w.heap.size+1) (w.heap.size+1+1) (w.heap.size+1+1+1) m l R pre W/\W2.heap.size<=b/\W.heap[b]? =some (.cells #[.int .u8 x.2.1.kind,.string ⟨x.2.1.text.toArray⟩,.int .i64 x.2.1.n,x.2.2,.int .i64 x.2.1.at_] 45 (0,0))/\a'={tmps:=(((a0.tmps.setIfInBounds 29 (.int .i64 x.1)).setIfInBounds 30 (uV x.2.1 x.2.2)).setIfInBounds 7 (.int .i64 x.1)).setIfInBounds 8 (.pointer (some ⟨b,0,none⟩)),defers:=[]})
    (fun pre x a' W l o o' ⟨b,h1,h2,h3,h4⟩ hl ho hc=>⟨b,DpI.own (B:=W2.heap.size) ⟨_,_,_,rfl⟩ (by omega) pre W _ (some l) h1 (grownBy_putObj' W l o') (fun r e=>by cases e;exact .inr ⟨hl,o,ho,hc⟩),h2,(World.putObj_heap_other (fun e=>by subst e;rw[h3] at ho;cases ho;cases hc)).trans h3,h4⟩) ?assign ?body ?done ?stop
   case assign=>
    rintro L pre ⟨xi,x,u⟩ W K hI hG hK;subst hact;obtain⟨hpl,hxi,hx,hu⟩:=hG;simp only at hx hu hxi ⊢;replace hxi:=zi hxi;simp only[yG,yE,yF];obtain⟨up,uc,rfl⟩:=(hN0.out _ _ _ hx hu).form;obtain⟨x0,x1,x2,x3,x4⟩:=x;unfold uV;simp only
    gi_wp2_with fail
    have hI2:=DpI.own (B:=W2.heap.size) ⟨_,_,_,rfl⟩ (by omega) pre W _ none hI (World.grownBy_alloc W (.cells #[.int .u8 x0,.string ⟨x1.toArray⟩,.int .i64 x2,.slice up x3.length uc,.int .i64 x4] 45 (0,0)) none) (fun r e=>by cases e);obtain⟨_,_,_,hB3,hsz3,_⟩:=hI;exact hK _ _ (KeepsOthers.alloc _ _) ⟨(zf W _).mono hB3.size,fun e=>zh (zf _ _) e⟩ ⟨W.heap.size,hI2,hsz3,zk _ _,by simp only[yG,yE,yF]⟩
   case body=>
    rintro L pre ⟨xi,x,u⟩ a' W ⟨b,hI,hb,hz,rfl⟩ ⟨hpl,hxi,hx,hu⟩;subst hact;simp only at hx hu hxi hz ⊢;simp only[yG,yE,yF];obtain⟨deep,most,hD,hB3,hsz3,hpm,hR2,hle2,hmo⟩:=hI;have hKS:=hN0.out _ _ _ hx hu;obtain⟨up,uc,rfl⟩:=hKS.form;have hkx:=hk.out _ x hx;have hkn:=hkl.out x (wK hx);rw[hm.out] at hpl hxi hx hu hkx;obtain⟨i,hi2⟩:=exE (m-1-pre.length);rw[hi2] at hx hu hkx;have hxi2:xi=(i:Int):=by omega
    subst hxi2;have him:i<m:=by omega
    have hmp:m-pre.length=i+1:=by omega
    rw[hmp] at hR2;unfold vH at hR2;rw[hx] at hR2;have hR3:vH l i (xZ (deep.getD i 0) x.kids deep) (max most (deep.getD i 0))=R:=hR2;replace hR3:=zi hR3;have hmq:m-(pre.length+1)=i:=by omega
    clear hR2 hmp hi2 hxi;obtain⟨x0,x1,x2,x3,x4⟩:=x;unfold uV;simp only at hz hKS hkx hkn hR3 ⊢;obtain⟨n3,hn3⟩:=exE (x3.length);have c3:=zd hz 3;rw[hn3] at c3 hkn ⊢;have hn3':=zi hn3;have HD:=zi hD;have Hkx:=zi hkx;have HB3:=zi hB3;have Hle:=zi hle2;have HZ:=zi hz;clear hn3 hD hkx hx hu hz hle2
    gi_wp2_with fail
    have hmost:most<=pre.length+1:=hmo;obtain⟨d,hd⟩:=exE (deep.getD i 0);have hdle:d<=pre.length+1:=by rw[<-hd];exact Hle.out i
    obtain⟨F,hF⟩:=exE (xZ d x3 deep);have hR4:vH l i F (max most d)=R:=by
     have:=hR3.out;rw[hd,hF] at this;exact this
    replace hR4:=zi hR4;have hst2:zdg (.cells #[.slice np m nc,.slice ip q ic] 26 (0,0)) w W wr.heap.size (.slice np l.length nc) (w.heap.size+1) (w.heap.size+1+1) (w.heap.size+1+1+1) m x3 d i pre.length most F (.int .i64 0) W:=⟨0,deep,rfl,pU _,HD.out,HB3.out,KeepsOthers.refl _,XS.refl _ _ _ _ _,hF,hd,fun q=>pN (Hle.out q) (by omega),pE _⟩;replace hst2:=zi hst2;clear hR3 hd hF c3
    gi_loopw [34] (zdg (.cells #[.slice np m nc,.slice ip q ic] 26 (0,0)) w W wr.heap.size (.slice np l.length nc) (w.heap.size+1) (w.heap.size+1+1) (w.heap.size+1+1+1) m x3 d i pre.length most F) (fun i _=>n3-(intOf i).toNat)
    case atStart=>exact hst2.out
    case round=>
     obtain⟨k,dp,rfl,hk3,hD,hBk,hKo,hKp,hFk,hdk,hlk,hszk⟩:=hrel;rw[hn3'.out] at hk3;have HD2:=zi hD;by_cases hlt3:k<n3
     ·have hlt3':(k:Int)<(n3:Int):=by omega
      have hyk:=pJ ((k:Int)+1) (by omega);have hyd:=pJ ((d:Int)+1) (by omega);obtain⟨g,off,rfl,_,d0⟩:=(hKS.below hBk).at (j:=k) (by rw[hn3'.out];omega);have hz:=Hkx.out (x3.getD k 0) (by
       rw[pA,glE (by rw[hn3'.out];omega)];exact wC _)
      have hdr:x3.drop k=x3.getD k 0 :: x3.drop (k+1):=by
       rw[pA,glE (by rw[hn3'.out];omega)];exact List.drop_eq_getElem_cons _
      replace hdr:=zi hdr;generalize x3.getD k 0=z at *;obtain⟨zn,rfl⟩:∃zn:Nat,z=zn:=⟨z.toNat,by omega⟩;have hzi:zn<i:=by omega
      have hz1:(zn:Int)<(m:Int):=by omega
      have hz2:¬((zn:Int)<0):=by omega
      have hi1:(i:Int)<(m:Int):=by omega
      have hi3:¬((i:Int)<0):=by omega
      have hb5:Below wr.heap.size wr wr.drew:=bR.drew;have hD5:=hD.below hb5;have v5:wr.drew.cell? ⟨w.heap.size+1+1,0,none⟩=some (.slice (some ⟨w.heap.size+1,0,none⟩) m m):=zd hD5.v 0;have ci:=hD5.get him;rw[hdk] at ci;have cz:=hD5.get (j:=zn) (by omega);have fz:=zl hD5.d zn;have HD5:=zi hD5;clear hD hD5
      gi_wp2_with fail
      gi_region
      gi_wp2_with fail
      all_goals exact⟨zdg.step HD2.out (by omega) (by omega) (by omega) (by omega) (by omega) hBk hKo hKp hFk hdr.out (by rw[hn3'.out];exact hlt3) hdk hzi hdle hlk hszk,by simp[intOf];omega⟩
     ·have hlt3':¬((k:Int)<(n3:Int)):=by omega
      have hkn3:k=n3:=by omega
      have hFF:dp=F:=by
       rw[hkn3,<-hn3'.out,List.drop_length] at hFk;exact hFk
      have hi1:(i:Int)<(m:Int):=by omega
      have hi3:¬((i:Int)<0):=by omega
      have hb5:Below wr.heap.size wr wr.drew:=bR.drew;have hD5:=hD.below hb5;have v5:wr.drew.cell? ⟨w.heap.size+1+1,0,none⟩=some (.slice (some ⟨w.heap.size+1,0,none⟩) m m):=zd hD5.v 0;have ci:=hD5.get him;rw[hdk] at ci;have cm:wr.drew.cell? ⟨w.heap.size+1+1+1,0,none⟩=some (.int .i64 most):=zd hD5.k 0;have fm:=zl hD5.k 0;have HD3:=HD2.out;rw[hFF] at HD3;replace HD3:=zi HD3;clear hD hD5 hFk
      gi_wp2_with fail
      gi_region
      gi_wp2_with fail
      all_goals exact zkU HD3.out (by omega) (by omega) (by omega) (by omega) (by omega) hBk hKo hKp hsz3 hszk hpl hmq hR4.out (fun q=>by rw[<-hFF];exact hlk q) hmost hdle
   case done=>
    intro Dd xs W hS hI hDd hdd;obtain⟨deep2,most2,hD2,hB3,_,hR1,hR2,_⟩:=hI;subst hact;have hmR:most2=R:=by
     rw[show m-xs.length=0 by rw[hS,hm.out];omega] at hR2;exact hR2
    replace hmR:=zi hmR;clear hR2;have tm:=zd hD2.k 0;have hsz:=zi hsz
    gi_wp2_with fail
    refine⟨by simp,.inl ⟨_,_,rfl,run_takeDeferred hdd,?_⟩⟩;refine⟨.int .i64 most2,by simp[results,results34,go_sem],?_⟩;refine⟨by rw[hmR.out],hB3.grown (grownBy_putObj' W Dd _) hB3.size (fun r e=>?_)⟩;cases e;have:=hsz.out;omega
   case stop=>
    intro _ _ _ _ _ h;exact h.elim
end
section
open Go.RowKit Lode Go.Shelf
attribute [local go_sem ↓] Go.wp_at_zero Go.wp_at_succ
open Go.Proofs.Tryz
theorem zdH(v1 v2:Value)(l m:List Int)(w:World)(h1:KSo w v1 l)(h2:KSo w v2 m)(hl:l.length<=1000000):
 Calls prog 28 #[v1,v2] w (kQ w (.bool (decide (l=m)))):=by
 obtain⟨p1,c1,rfl⟩:=h1.form;obtain⟨p2,c2,rfl⟩:=h2.form;by_cases hlen:l.length=m.length
 ·have Hlen:=zi hlen;rw[<-hlen] at h2 ⊢;obtain⟨n,hn⟩:=exE (l.length);rw[hn] at h1 h2 hl ⊢;have H1:=zi h1;have H2:=zi h2;have Hn:=zi hn;clear hlen hn h1 h2;go_enter func28,ntmps28;go_wp2;go_loopw [5] (fun i wr=>∃k:Nat,i=.int .i64 k/\k<=n/\Below w.heap.size w wr/\Hid (∀j,j<k->l[j]? =m[j]?)) (fun i _=>n-(intOf i).toNat)
  case atStart=>exact⟨0,rfl,by omega,pF _ _,zi (fun j hj=>absurd hj (wG _))⟩
  case round=>
   obtain⟨k,rfl,hk,hb,hall⟩:=hrel;by_cases hlt:k<n
   ·have hlt':(k:Int)<(n:Int):=by omega
    have hk0:¬((k:Int)<0):=by omega
    have hy:=pJ ((k:Int)+1) (by omega);have hkl:k<l.length:=by rw[Hn.out];exact hlt
    have hkm:k<m.length:=by rw[<-Hlen.out];exact hkl
    obtain⟨g1,o1,rfl,c0⟩:=(H1.out.below hb).at hkl;obtain⟨g2,o2,rfl,d0⟩:=(H2.out.below hb).at hkm;have hx:l[k]? =some (l.getD k 0):=by rw[pA,glE hkl];rfl
    have hy':m[k]? =some (m.getD k 0):=by rw[pA,glE hkm];rfl
    generalize l.getD k 0=x at *;generalize m.getD k 0=y at *;have Hx:=zi hx;have Hy:=zi hy';clear hx hy';by_cases he:x=y
    ·subst he;go_wp2_with fail;go_quiet (fail);go_wp2;go_roundw
     case rel=>
      refine⟨k+1,by go_num,by omega,ym hb nq,zi (fun j hj=>?_)⟩;by_cases e:j=k
      ·subst e;rw[Hx.out,Hy.out]
      ·exact hall.out j (by omega)
     case measure=>simp[intOf];omega
    ·have he':(x != y)=true:=by rw[wT];exact he
     have hd:decide (l=m)=false:=wR (fun e=>he (by
      have h1:=Hx.out;rw[e,Hy.out] at h1;cases h1;rfl))
     rw[hd];go_wp2_with fail;go_quiet (fail);go_wp2;go_ret;exact⟨rfl,ym hb nq⟩
   ·have hlt':¬((k:Int)<(n:Int)):=by omega
    have hd:decide (l=m)=true:=wX (List.ext_getElem? (fun j=>by
     by_cases hj:j<n
     ·exact hall.out j (by omega)
     ·rw[wP (by rw[Hn.out];omega),wP (by rw[<-Hlen.out,Hn.out];omega)]))
    rw[hd];go_wp2;go_ret;exact⟨rfl,hb⟩
 ·have hd:decide (l=m)=false:=wR (fun e=>hlen (by rw[e]));have hne:((l.length:Int) != (m.length:Int))=true:=by rw[wT];omega
  rw[hd];clear h1 h2;generalize l.length=a at *;generalize m.length=b at *;go_enter func28,ntmps28;go_wp2;go_ret;exact⟨rfl,pF _ _⟩
end
end Go.Proofs.YtnncmdpopgkibaaGreatDoor
