import Derived.Test.YtcagibbaeageoaaGreatDoorSG
import Derived.OwnWalkIn
set_option maxRecDepth 100000
set_option maxHeartbeats 0
set_option linter.all false
variable{W W' w w' w0 wr:Go.World}{l:List Lode.Nd}{B C D M N R V i j m most n:Nat}{x:Int×Lode.Nd×Go.Value}{iv nv u:Go.Value}{kv:List Go.Value}{T:Go.TypeId}{p:Option Go.Addr}{O:Go.Obj}{F deep dp:List Nat}{row:Option Nat}{cs:Array Go.Value}{fr:Nat×Nat}{ks:List Int}{pre:List (Int×Lode.Nd×Go.Value)}
namespace Go.Proofs.YtcagibbaeageoaaGreatDoor
section
open Go.RowKit Lode Go.Shelf
open Go.Proofs.Tryz
def KSo(w:World)(v:Value)(l:List Int):Prop:=∃(p:Option Addr) (cap:Nat),v=.slice p l.length cap/\(l=[]\/∃g off:Nat,p=some ⟨g,off,none⟩/\∀j,j<l.length->w.cell? ⟨g,off+j,none⟩=some (.int .i64 (l.getD j 0)))
def KSo.below{v:Value}{l:List Int}(h:KSo w v l)(hb:Below w.heap.size w w'):KSo w' v l:=by
 obtain⟨p,cap,hv,h⟩:=h;refine⟨p,cap,hv,h.imp id ?_⟩;rintro ⟨g,off,hp,hc⟩;exact⟨g,off,hp,λj hj=>zl hb (hc j hj)⟩
def KSo.form{v:Value}{l:List Int}(h:KSo w v l):∃p cap,v=.slice p l.length cap:=by
 obtain⟨p,cap,hv,_⟩:=h;exact⟨p,cap,hv⟩
theorem KSo.at{w:World}{p:Option Addr}{n cap:Nat}{l:List Int}(h:KSo w (.slice p n cap) l){j:Nat}(hj:j<l.length):∃g off,p=some ⟨g,off,none⟩/\w.cell? ⟨g,off+j,none⟩=some (.int .i64 (l.getD j 0)):=by
 obtain⟨p',cap',hv,h⟩:=h;cases hv;rcases h with rfl|⟨g,off,rfl,hc⟩
 ·simp at hj
 ·exact⟨g,off,rfl,hc j hj⟩
def KS.o{v:Value}{l:List Int}(h:KS w v l):KSo w v l:=by
 obtain⟨p,cap,hv,h⟩:=h;refine⟨p,_,hv,h.imp id ?_⟩;rintro ⟨g,off,cs,fr,hp,hg,hc⟩;refine⟨g,off,hp,λj hj=>(zd hg _).trans ?_⟩;rw[pA,glE hj];exact hc j _ (glE hj)
structure NdO(w:World)(g i:Nat)(x:Nd)(u:Value):Prop where
 c0:w.cell? ⟨g,i,none⟩=some (.int .u8 x.kind)
 c1:w.cell? ⟨g,i+1,none⟩=some (.string ⟨x.text.toArray⟩)
 c2:w.cell? ⟨g,i+2,none⟩=some (.int .i64 x.n)
 c3:w.cell? ⟨g,i+3,none⟩=some u
 c4:w.cell? ⟨g,i+4,none⟩=some (.int .i64 x.at_)
 kz:KSo w u x.kz
theorem NdO.below{g:Nat}{x:Nd}(h:NdO w g i x u)(hb:Below w.heap.size w w'):NdO w' g i x u:=
 ⟨zl hb h.c0,zl hb h.c1,zl hb h.c2,zl hb h.c3,zl hb h.c4,h.kz.below hb⟩
def NSo(w:World)(v:Value)(l:List Nd):Prop:=∃(p:Option Addr) (cap:Nat),v=.slice p l.length cap/\(l=[]\/∃g off:Nat,p=some ⟨g,off,none⟩/\∀(j:Nat) (x:Nd),l[j]? =some x->∃u,NdO w g (off+j*5) x u)
theorem NSo.below{v:Value}(h:NSo w v l)(hb:Below w.heap.size w w'):NSo w' v l:=by
 obtain⟨p,cap,hv,h⟩:=h;refine⟨p,cap,hv,h.imp id ?_⟩;rintro ⟨g,off,hp,hc⟩;exact⟨g,off,hp,λj x hx=>(hc j x hx).imp λu h=>h.below hb⟩
def NSo.form{v:Value}(h:NSo w v l):∃p cap,v=.slice p l.length cap:=by
 obtain⟨p,cap,hv,_⟩:=h;exact⟨p,cap,hv⟩
theorem NSo.at{w:World}{p:Option Addr}{n cap:Nat}{l:List Nd}(h:NSo w (.slice p n cap) l){j:Nat}{x:Nd}(hx:l[j]? =some x):∃g off u,p=some ⟨g,off,none⟩/\NdO w g (off+j*5) x u:=by
 obtain⟨p',cap',hv,h⟩:=h;cases hv;rcases h with rfl|⟨g,off,rfl,hc⟩
 ·simp at hx
 ·obtain⟨u,hu⟩:=hc j x hx;exact⟨g,off,u,rfl,hu⟩
theorem NS.o{v:Value}(h:NS w v l kv):NSo w v l:=by
 obtain⟨p,cap,rfl⟩:=h.form;by_cases h0:l=[]
 ·exact⟨p,cap,rfl,.inl h0⟩
 ·obtain⟨x0,eC⟩:∃x,l[0]? =some x:=⟨_,glE (List.length_pos_iff.2 h0)⟩;obtain⟨g,off,u0,hp,_⟩:=h.at eC;refine⟨p,cap,rfl,.inr ⟨g,off,hp,λj x hx=>?_⟩⟩;obtain⟨g',off',u,Mb,hA⟩:=h.at hx;rw[hp] at Mb;cases Mb;exact⟨u,hA.c0,hA.c1,hA.c2,hA.c3,hA.c4,hA.kz.o⟩
structure TRo(w:World)(nv iv:Value)(t:yJ):Prop where
 nz:NSo w nv t.nz
 iz:KSo w iv t.iz
theorem TRo.below{t:yJ}(h:TRo w nv iv t)(hb:Below w.heap.size w w'):TRo w' nv iv t:=⟨h.nz.below hb,h.iz.below hb⟩
theorem TRo.form{t:yJ}(h:TRo w nv iv t):∃p c q d,nv=.slice p t.nz.length c/\iv=.slice q t.iz.length d:=by
 obtain⟨p,c,hp⟩:=h.nz.form;obtain⟨q,d,hq⟩:=h.iz.form;exact⟨p,c,q,d,hp,hq⟩
theorem TR.o{t:yJ}(h:TR w nv iv t):TRo w nv iv t:=⟨h.nz.choose_spec.o,h.iz.o⟩
end
section
open Go.RowKit Lode Go.Shelf
attribute [local go_sem ↓] wp_at_zero wp_at_succ
open Go.Proofs.Tryz
def xj(a b:Nat):decide ((a:Int)<=(b:Int))=decide (a<=b):=decide_eq_decide.2 (by omega)
def Kq(x:Nd)(u:Value)(w:World)(hk:KS w u x.kz):Calls prog 44 #[YH x u] w (ue w (.bool (xE x))):=by
 obtain⟨p,c,rfl⟩:=hk.form;clear hk;obtain⟨k,t,n,ks,a⟩:=x;unfold xE;simp only;generalize ks.length=m;have hz:=zk w (.cells #[.int .u8 k,.string ⟨t.toArray⟩,.int .i64 n,.slice p m c,.int .i64 a] 60 (0,0));have hA:=zf w (.cells #[.int .u8 k,.string ⟨t.toArray⟩,.int .i64 n,.slice p m c,.int .i64 a] 60 (0,0));have c0:=zd hz 0;have c2:=zd hz 2;have c3:=zd hz 3;clear hz;by_cases Cj:k=40
 ·subst Cj;rw[if_pos (show (40 == 40)=true from rfl)];by_cases h1:1<=n
  ·have sa:(1:Int)<=n:=h1;by_cases h2:n<=8
   ·have e:(decide (1<=n) && decide (n<=8))=true:=by simp[h1,h2]
    rw[e];go_enter func44,ntmps44;go_wp2;go_ret;exact⟨by simp[h2],hA⟩
   ·have e:(decide (1<=n) && decide (n<=8))=false:=by simp[h2]
    rw[e];go_enter func44,ntmps44;go_wp2;go_ret;exact⟨by simp[h2],hA⟩
  ·have e:(decide (1<=n) && decide (n<=8))=false:=by simp[h1]
   rw[e];go_enter func44,ntmps44;go_wp2;go_ret;exact⟨by simp,hA⟩
 rw[if_neg (by simp[Cj])];by_cases e102:k=102
 ·subst e102;rw[show jJ 102=8 from rfl];have hd:decide ((m:Int)<=8)=decide (m<=8):=xj m 8;go_enter func44,ntmps44;go_wp2;go_ret;exact⟨rfl,hA⟩
 by_cases Ch:k=33
 ·subst Ch;rw[show jJ 33=8 from rfl];have hd:decide ((m:Int)<=8)=decide (m<=8):=xj m 8;go_enter func44,ntmps44;go_wp2;go_ret;exact⟨rfl,hA⟩
 by_cases e103:k=103
 ·subst e103;rw[show jJ 103=7 from rfl];have hd:decide ((m:Int)<=7)=decide (m<=7):=xj m 7;go_enter func44,ntmps44;go_wp2;go_ret;exact⟨rfl,hA⟩
 by_cases Cm:k=85
 ·subst Cm;rw[show jJ 85=7 from rfl];have hd:decide ((m:Int)<=7)=decide (m<=7):=xj m 7;go_enter func44,ntmps44;go_wp2;go_ret;exact⟨rfl,hA⟩
 by_cases CY:k=24
 ·subst CY;rw[show jJ 24=7 from rfl];have hd:decide ((m:Int)<=7)=decide (m<=7):=xj m 7;go_enter func44,ntmps44;go_wp2;go_ret;exact⟨rfl,hA⟩
 by_cases e100:k=100
 ·subst e100;rw[show jJ 100=6 from rfl];have hd:decide ((m:Int)<=6)=decide (m<=6):=xj m 6;go_enter func44,ntmps44;go_wp2;go_ret;exact⟨rfl,hA⟩
 by_cases Cf:k=26
 ·subst Cf;rw[show jJ 26=6 from rfl];have hd:decide ((m:Int)<=6)=decide (m<=6):=xj m 6;go_enter func44,ntmps44;go_wp2;go_ret;exact⟨rfl,hA⟩
 by_cases e101:k=101
 ·subst e101;rw[show jJ 101=8 from rfl];have hd:decide ((m:Int)<=8)=decide (m<=8):=xj m 8;go_enter func44,ntmps44;go_wp2;go_ret;exact⟨rfl,hA⟩
 by_cases Cn:k=89
 ·subst Cn;rw[show jJ 89=4 from rfl];have hd:decide ((m:Int)<=4)=decide (m<=4):=xj m 4;go_enter func44,ntmps44;go_wp2;go_ret;exact⟨rfl,hA⟩
 by_cases CZ:k=25
 ·subst CZ;rw[show jJ 25=4 from rfl];have hd:decide ((m:Int)<=4)=decide (m<=4):=xj m 4;go_enter func44,ntmps44;go_wp2;go_ret;exact⟨rfl,hA⟩
 by_cases Ck:k=70
 ·subst Ck;rw[show jJ 70=4 from rfl];have hd:decide ((m:Int)<=4)=decide (m<=4):=xj m 4;go_enter func44,ntmps44;go_wp2;go_ret;exact⟨rfl,hA⟩
 by_cases Cg:k=31
 ·subst Cg;rw[show jJ 31=13 from rfl];have hd:decide ((m:Int)<=13)=decide (m<=13):=xj m 13;go_enter func44,ntmps44;go_wp2;go_ret;exact⟨rfl,hA⟩
 by_cases Ci:k=35
 ·subst Ci;rw[show jJ 35=4 from rfl];have hd:decide ((m:Int)<=4)=decide (m<=4):=xj m 4;go_enter func44,ntmps44;go_wp2;go_ret;exact⟨rfl,hA⟩
 have hm:jJ k=1000:=by unfold jJ;simp[e102,Ch,e103,Cm,CY,e100,Cf,e101,Cn,CZ,Ck,Cg,Ci]
 rw[hm];have hd:decide ((m:Int)<=1000)=decide (m<=1000):=xj m 1000;have i102:((k:Int) == 102)=false:=bfE (by omega)
 have i33:((k:Int) == 33)=false:=bfE (by omega)
 have i103:((k:Int) == 103)=false:=bfE (by omega)
 have i85:((k:Int) == 85)=false:=bfE (by omega)
 have i24:((k:Int) == 24)=false:=bfE (by omega)
 have i100:((k:Int) == 100)=false:=bfE (by omega)
 have i26:((k:Int) == 26)=false:=bfE (by omega)
 have i101:((k:Int) == 101)=false:=bfE (by omega)
 have i89:((k:Int) == 89)=false:=bfE (by omega)
 have i25:((k:Int) == 25)=false:=bfE (by omega)
 have i70:((k:Int) == 70)=false:=bfE (by omega)
 have i31:((k:Int) == 31)=false:=bfE (by omega)
 have i35:((k:Int) == 35)=false:=bfE (by omega)
 have i40:((k:Int) == 40)=false:=bfE (by omega)
 clear hm e102 Ch e103 Cm CY e100 Cf e101 Cn CZ Ck Cg Ci Cj;go_enter func44,ntmps44;go_wp2;go_ret;exact⟨rfl,hA⟩
def Yo(v:Value)(f:Nat)(lb:Array Value)(l:List Nd)(kv:List Value)(p:Nd->Bool)(w:World)(rZ:Enters prog f)(hN:NS w v l kv)(hn:l.length<=100000)(hp:∀W (x:Nd) (u:Value),Below w.heap.size w W->x∈l->KS W u x.kz->Calls prog f (#[YH x u] ++ lb) W (ue W (.bool (p x)))):
 Calls prog 42 #[v,.func (.func f) #[] lb] w (ue w (.int .i64 (Qv p l))):=by
 obtain⟨q,c,rfl⟩:=hN.form;obtain⟨n,rg⟩:∃n,l.length=n:=⟨_,rfl⟩;rw[rg] at hn hN ⊢;replace rZ:=zh rZ;replace hN:=zh hN;replace hp:=zh hp;replace rg:=zh rg;go_enter func42,ntmps42;go_wp2;go_loopw [8] (zhB p l w) (λi _=>n-(intOf i).toNat)
 case atStart=>exact⟨0,rfl,pU _,λi y h=>absurd h (wF _),pG _ _⟩
 case round=>
  obtain⟨j,rfl,hj,rR,hb⟩:=hrel;replace rR:=zh rR;rw[rg.q] at hj;by_cases mD:j<n
  ·have me:(j:Int)<(n:Int):=by omega
   have hy:=pF ((j:Int)+1) (by omega);obtain⟨x,hx⟩:∃x,l[j]? =some x:=⟨_,glE (by rw[rg.q];omega)⟩;obtain⟨g,off,u,rfl,hA⟩:=(hN.q.below hb).at hx;have hC:=hp.q wr x u hb (wH hx) hA.kz;have wy:=λW=>rZ.q (#[YH x u] ++ lb) W
   obtain⟨up,uc,rfl⟩:=hA.kz.form;have HX:=zh (And.intro hx rR.q);obtain⟨_,c0,c1,c2,c3,c4,_⟩:=hA;clear hx rR;generalize eA:p x=b at *;replace eA:=zh eA;obtain⟨x0,x1,x2,x3,x4⟩:=x;unfold YH at hC wy;simp only at hC wy c0 c1 c2 c3 c4;go_wp2_with fail;refine hC.mono ?_;rintro e w1 ⟨rfl,mF⟩;cases b with
   |true=>
    go_wp2;go_ret;refine⟨?_,zg hb mF⟩;rw[QV p l j _ HX.q.1 eA.q HX.q.2];rfl
   |false=>
    go_wp2;go_roundw
    case rel=>
     refine⟨j+1,by simp,by rw[rg.q];omega,λi y hi cx=>?_,zg hb mF⟩;by_cases e:i=j
     ·subst e;rw[HX.q.1] at cx;cases cx;exact eA.q
     ·exact HX.q.2 i y (by omega) cx
    case measure=>simp[intOf];omega
  ·have me:¬((j:Int)<(n:Int)):=by omega
   go_wp2;go_ret;refine⟨?_,hb⟩;rw[Xd p l (λi y h=>rR.q i y (by have:=(gtL h);rw[rg.q] at this;omega) h)];rfl
end
section
open Go.RowKit Lode Go.Shelf
open Go.Proofs.Tryz
def Ji(w0:World)(C:Nat)(T:TypeId)(v:Value)(A B:World):Prop:=Below w0.heap.size A B/\(A.heap[C]? =some (.cells #[v] T (0,0))->B.heap[C]? =some (.cells #[v] T (0,0)))
theorem Ji.trans{v:Value}{a b c:World}(h:Ji w0 C T v a b)(k:Ji w0 C T v b c):Ji w0 C T v a c:=⟨h.1.trans k.1,λe=>k.2 (h.2 e)⟩
def Ji.refl(w0:World)(C:Nat)(T:TypeId)(v:Value)(a:World):Ji w0 C T v a a:=⟨pG _ _,id⟩
def Ji.put{v:Value}(hb:w0.heap.size<=w.heap.size)(W:World)(l:Nat)(o o':Obj)(hl:w.heap.size<=l)(h:W.heap[l]? =some o)(ho:o.isCells=false):Ji w0 C T v W (W.putObj l o'):=by
 have mD:=(gtA h);refine⟨(pG _ W).grown (grownBy_putObj' W l o') (by omega) (λk hk=>by cases hk;omega),λe=>?_⟩;rw[World.putObj_heap_other (λe'=>by rw[e'] at e;rw[h] at e;cases e;cases ho)];exact e
abbrev zol(x:Int×Int):Array Value:= #[.int .i64 x.1,.int .i64 x.2]
def zkU(w0:World)(C:Nat)(v:Value)(m:Nat)(J:List (Int×Int)->World->Prop)(Ws:World)(i:Value)(wr:World):Prop:=∃pre:List (Int×Int),i=.int .i64 ((m:Int)-1-pre.length)/\pre.length<=m/\Ji w0 C 24 v Ws wr/\J pre wr
def zbF(w0:World)(C:Nat)(v:Value)(l:List Int)(hK:KS w0 v l)(hl:l.length<=100000)(w:World)(nA:Below w0.heap.size w0 w)(hC:w.heap[C]? =some (.cells #[v] 24 (0,0)))(n:Nat)(hn:1<=n):
 ziQ Fence.wide n prog 144 #[] #[.pointer (some ⟨C,0,none⟩)] zol (Ji w0 C 24 v) (λpre x=>pre.length<l.length/\x=((l.length:Int)-1-pre.length,l.getD (l.length-1-pre.length) 0)) (λ_=>False) (λxs=>xs.length=l.length) (λ_=>True) w:=λL J Jx W hW hJ DM hY h0=>by
 have hC:=zi hW hC;have nA:=nA.trans (hW.mono nA.size);have c0:=zd hC 0;obtain⟨p,cap,rfl⟩:=hK.form;have HY:=zh hY;replace hK:=zh hK;obtain⟨m,hm⟩:=exE (l.length);have mK:zkU w0 C (.slice p l.length cap) m J W (.int .i64 ((m:Int)-1)) W:=⟨[],by simp,pU _,Ji.refl _ _ _ _ _,h0⟩;replace mK:=zh mK;clear hY;rw[hm] at hl;have cw:=pF ((m:Int)-1) (by omega);refine callsIn_of_wp func144 rfl trivial ?_ rfl;simp only[ntmps144,List.size_toArray,pH,pM,Nat.reduceAdd,Nat.reduceSub,Array.replicate_succ,Array.replicate_zero,List.push_toArray,List.append_toArray,pV,pQ];rw[hm] at c0;replace hm:=zh hm
 gi_wp2_with fail
 clear c0
 gi_loopw [3] (zkU w0 C (.slice p l.length cap) m J W) (λi _=>(intOf i+1).toNat)
 case atStart=>exact mK.q
 case round=>
  obtain⟨pre,rfl,Ww,bV,hj⟩:=hrel;have c0:=zd (bV.2 hC) 0;rw[hm.q] at c0;by_cases mD:pre.length<m
  ·have dv:¬((m:Int)-1-(pre.length:Int)<0):=by omega
   have fY:(0:Int)<=(m:Int)-1-(pre.length:Int):=by omega
   have fx:(m:Int)-1-(pre.length:Int)<(m:Int):=by omega
   obtain⟨j,NW⟩:∃j:Nat,m-1-pre.length=j:=⟨_,rfl⟩;have HO:(m:Int)-1-(pre.length:Int)=(j:Int):=by omega
   obtain⟨g,off,rfl,_,d0⟩:=(hK.q.below (nA.trans bV.1)).at (j:=j) (by rw[hm.q];omega);have hx:(((l.length:Int)-1-pre.length,l.getD (l.length-1-pre.length) 0):Int×Int)=((j:Int),l.getD j 0):=by rw[hm.q,NW,HO]
   obtain⟨fn,tm,asg,bo,hy,bL⟩:=HY.q pre ((j:Int),l.getD j 0) wr hj ⟨by rw[hm.q];exact mD,hx.symm⟩;have bL:=zh bL;have Ij:=pF ((j:Int)-1) (by omega);rw[HO] at dv fY fx ⊢;have Pw:=zh HO;clear HO hx;generalize l.getD j 0=z at *
   gi_wp2_with fail
   refine bL.q.mono ?_;rintro e W' (⟨rfl,NI,rU⟩|⟨rfl,dF⟩)
   ·gi_wp2_with fail
    go_roundw
    case rel=>exact⟨pre ++ [((j:Int),z)],by rw[pE,pI];have:=Pw.q;congr 1;omega,by rw[pE,pI];omega,bV.trans rU,NI⟩
    case measure=>simp only[intOf];omega
   ·gi_wp2_with fail
    first|go_end0|refine bodyPost_ret (results_none rfl _ _ _) rfl ?_
    exact⟨⟨_,rfl⟩,.inr ⟨_,trivial,dF⟩⟩
  ·have dv:(m:Int)-1-(pre.length:Int)<0:=by omega
   have fY:¬((0:Int)<=(m:Int)-1-(pre.length:Int)):=by omega
   gi_wp2_with fail
   first|go_end0|refine bodyPost_ret (results_none rfl _ _ _) rfl ?_
   exact⟨⟨_,rfl⟩,.inl ⟨pre,by rw[hm.q];omega,hj⟩⟩
def NS.at2{cap:Nat}(h:NS w (.slice p n cap) l kv){x:Nd}(hx:l[j]? =some x):∃g off u,p=some ⟨g,off,none⟩/\kv[j]? =some u/\zkQ w g (off+j*5) x u:=by
 obtain⟨h1,h2,p',cap',hv,h3⟩:=h;cases hv;have hj:j<l.length:=(gtL hx);obtain⟨u,hu⟩:∃u,kv[j]? =some u:=⟨_,glE (by rw[h1];exact hj)⟩;rcases h3 with rfl|⟨g,off,cs,fr,rfl,hg,hc⟩
 ·simp at hj
 ·have hc:=hc j x u hx hu;refine⟨g,off,u,rfl,hu,(gtA hg),(zd hg _).trans (hc 0 _ rfl),(zd hg _).trans (hc 1 _ rfl),(zd hg _).trans (hc 2 _ rfl),(zd hg _).trans (hc 3 _ rfl),(zd hg _).trans (hc 4 _ rfl),h2 j x u hx hu⟩
abbrev zmy(x:Int×Nd×Value):Array Value:= #[.int .i64 x.1,YH x.2.1 x.2.2]
def zkT(w0:World)(C:Nat)(v:Value)(m:Nat)(J:List (Int×Nd×Value)->World->Prop)(Ws:World)(i:Value)(wr:World):Prop:=∃pre:List (Int×Nd×Value),i=.int .i64 ((m:Int)-1-pre.length)/\pre.length<=m/\Ji w0 C 23 v Ws wr/\J pre wr
def ziM(w0:World)(C:Nat)(v:Value)(l:List Nd)(kv:List Value)(hK:NS w0 v l kv)(hl:l.length<=100000)(w:World)(nA:Below w0.heap.size w0 w)(hC:w.heap[C]? =some (.cells #[v] 23 (0,0)))(n:Nat)(hn:1<=n):
 ziQ Fence.wide n prog 129 #[] #[.pointer (some ⟨C,0,none⟩)] zmy (Ji w0 C 23 v) (λpre x=>pre.length<l.length/\x.1=(l.length:Int)-1-pre.length/\l[l.length-1-pre.length]? =some x.2.1/\kv[l.length-1-pre.length]? =some x.2.2) (λ_=>False) (λxs=>xs.length=l.length) (λ_=>True) w:=λL J Jx W hW hJ DM hY h0=>by
 have hC:=zi hW hC;have nA:=nA.trans (hW.mono nA.size);have c0:=zd hC 0;obtain⟨p,cap,rfl⟩:=hK.form;have HY:=zh hY;replace hK:=zh hK;obtain⟨m,hm⟩:=exE (l.length);have mK:zkT w0 C (.slice p l.length cap) m J W (.int .i64 ((m:Int)-1)) W:=⟨[],by simp,pU _,Ji.refl _ _ _ _ _,h0⟩;replace mK:=zh mK;clear hY;rw[hm] at hl;have cw:=pF ((m:Int)-1) (by omega);refine callsIn_of_wp func129 rfl trivial ?_ rfl;simp only[ntmps129,List.size_toArray,pH,pM,Nat.reduceAdd,Nat.reduceSub,Array.replicate_succ,Array.replicate_zero,List.push_toArray,List.append_toArray,pV,pQ];rw[hm] at c0;replace hm:=zh hm
 gi_wp2_with fail
 clear c0
 gi_loopw [3] (zkT w0 C (.slice p l.length cap) m J W) (λi _=>(intOf i+1).toNat)
 case atStart=>exact mK.q
 case round=>
  obtain⟨pre,rfl,Ww,bV,hj⟩:=hrel;have c0:=zd (bV.2 hC) 0;rw[hm.q] at c0;by_cases mD:pre.length<m
  ·have dv:¬((m:Int)-1-(pre.length:Int)<0):=by omega
   have fY:(0:Int)<=(m:Int)-1-(pre.length:Int):=by omega
   have fx:(m:Int)-1-(pre.length:Int)<(m:Int):=by omega
   obtain⟨j,NW⟩:∃j:Nat,m-1-pre.length=j:=⟨_,rfl⟩;have HO:(m:Int)-1-(pre.length:Int)=(j:Int):=by omega
   obtain⟨x,hx⟩:∃x,l[j]? =some x:=⟨_,glE (by rw[hm.q];omega)⟩;obtain⟨g,off,u,rfl,hu,hA⟩:=(hK.q.below (nA.trans bV.1)).at2 hx;obtain⟨fn,tm,asg,bo,hy,bL⟩:=HY.q pre ((j:Int),x,u) wr hj ⟨by rw[hm.q];exact mD,by rw[hm.q];exact HO.symm,by rw[hm.q,NW];exact hx,by rw[hm.q,NW];exact hu⟩;obtain⟨up,uc,rfl⟩:=hA.kz.form;obtain⟨_,d0,d1,d2,d3,d4,_⟩:=hA;obtain⟨x0,x1,x2,x3,x4⟩:=x;unfold zmy YH at hy;simp only at hy d0 d1 d2 d3 d4;have bL:=zh bL;have Ij:=pF ((j:Int)-1) (by omega);rw[HO] at dv fY fx ⊢;have Pw:=zh HO;clear HO hx hu
   gi_wp2_with fail
   refine bL.q.mono ?_;rintro e W' (⟨rfl,NI,rU⟩|⟨rfl,dF⟩)
   ·gi_wp2_with fail
    go_roundw
    case rel=>exact⟨pre ++ [((j:Int),⟨x0,x1,x2,x3,x4⟩,_)],by rw[pE,pI];have:=Pw.q;congr 1;omega,by rw[pE,pI];omega,bV.trans rU,NI⟩
    case measure=>simp only[intOf];omega
   ·gi_wp2_with fail
    first|go_end0|refine bodyPost_ret (results_none rfl _ _ _) rfl ?_
    exact⟨⟨_,rfl⟩,.inr ⟨_,trivial,dF⟩⟩
  ·have dv:(m:Int)-1-(pre.length:Int)<0:=by omega
   have fY:¬((0:Int)<=(m:Int)-1-(pre.length:Int)):=by omega
   gi_wp2_with fail
   first|go_end0|refine bodyPost_ret (results_none rfl _ _ _) rfl ?_
   exact⟨⟨_,rfl⟩,.inl ⟨pre,by rw[hm.q];omega,hj⟩⟩
def zbG(p:Option Addr)(n cap:Nat)(w:World):Calls prog 98 #[.slice p n cap] w λe w'=>e=.returned (.func (.func 144) #[] #[.pointer (some ⟨w.heap.size,0,none⟩)])/\w'=w.alloc (.cells #[.slice p n cap] 24 (0,0)):=by
 have MS:∀(fn:Fn) (first cap:Array Value) (w:World),(Instr.makeFunc fn first cap).run prog w=.ok (.func fn first cap) w:=λ_ _ _ _=>rfl
 go_enter func98,ntmps98;go_wp2;go_ret;exact⟨rfl,rfl⟩
def ziN(p:Option Addr)(n cap:Nat)(w:World):Calls prog 82 #[.slice p n cap] w λe w'=>e=.returned (.func (.func 129) #[] #[.pointer (some ⟨w.heap.size,0,none⟩)])/\w'=w.alloc (.cells #[.slice p n cap] 23 (0,0)):=by
 have MS:∀(fn:Fn) (first cap:Array Value) (w:World),(Instr.makeFunc fn first cap).run prog w=.ok (.func fn first cap) w:=λ_ _ _ _=>rfl
 go_enter func82,ntmps82;go_wp2;go_ret;exact⟨rfl,rfl⟩
end
section
open Go.RowKit Lode Go.Shelf
attribute [local go_sem] Oper.semAt_some
open Go.Proofs.Tryz
structure DpB(O:Obj)(N:Nat)(w:World)(D V M m:Nat)(deep:List Nat)(most:Nat):Prop where
 d:w.heap[D]? =some (.cells (deep.map λ(k:Nat)=>Value.int .i64 k).toArray 3 (0,0))
 v:w.heap[V]? =some (.cells #[.slice (some ⟨D,0,none⟩) m m] 24 (0,0))
 k:w.heap[M]? =some (.cells #[.int .i64 most] 3 (0,0))
 len:deep.length=m
 t:w.heap[N]? =some O
def DpB.below(h:DpB O N w D V M m deep most)(hb:Below w.heap.size w w'):DpB O N w' D V M m deep most:=⟨zi hb h.d,zi hb h.v,zi hb h.k,h.len,zi hb h.t⟩
def DpB.get(h:DpB O N w D V M m deep most)(hj:j<m):w.cell? ⟨D,j,none⟩=some (.int .i64 (deep.getD j 0:Nat)):=by
 rw[zd h.d j,pS,wC,pA,glE (by rw[h.len];exact hj)];rfl
theorem DpB.set(h:DpB O N w D V M m deep most)(hV:V≠D)(hM:M≠D)(hN:N≠D)(j x:Nat):DpB O N (w.setCell ⟨D,j,none⟩ (.int .i64 x)) D V M m (deep.set j x) most:=by
 refine⟨?_,(zv hV).trans h.v,(zv hM).trans h.k,by rw[List.length_set];exact h.len,(zv hN).trans h.t⟩;rw[zt h.d j];simp only[List.setIfInBounds_toArray,List.map_set]
def DpB.put(h:DpB O N w D V M m deep most)(hD:D≠M)(hV:V≠M)(hN:N≠M)(x:Nat):DpB O N (w.setCell ⟨M,0,none⟩ (.int .i64 x)) D V M m deep x:=
 ⟨(zv hD).trans h.d,(zv hV).trans h.v,zt h.k 0 _,h.len,(zv hN).trans h.t⟩
def Yq(hg:W.grownBy W' row)(hr:∀r,row=some r->∃o:Obj,W.heap[r]? =some o/\o.isCells=false){k:Nat}(h:W.heap[k]? =some (.cells cs T fr)):W'.heap[k]? =some (.cells cs T fr):=by
 rw[hg.block k (gtA h) (λe=>by
  obtain⟨o,ho,hc⟩:=hr k e.symm;rw[h] at ho;cases ho;cases hc)]
 exact h
def DpB.own(h:DpB O N W D V M m deep most)(hO:∃cs T fr,O=.cells cs T fr)(hg:W.grownBy W' row)(hr:∀r,row=some r->∃o:Obj,W.heap[r]? =some o/\o.isCells=false):DpB O N W' D V M m deep most:=by
 obtain⟨cs,T,fr,rfl⟩:=hO;exact⟨Yq hg hr h.d,Yq hg hr h.v,Yq hg hr h.k,h.len,Yq hg hr h.t⟩
def DpI(O:Obj)(w:World)(B D V M m:Nat)(l:List Nd)(R:Nat)(pre:List (Int×Nd×Value))(W:World):Prop:=∃deep most,DpB O w.heap.size W D V M m deep most/\Below w.heap.size w W/\B<=W.heap.size/\pre.length<=m/\XR l (m-pre.length) deep most=R/\(∀q,deep.getD q 0<=pre.length+1)/\most<=pre.length+1
theorem DpI.own(hO:∃cs T fr,O=.cells cs T fr)(hb:w.heap.size<=B):XF (λ_=>False) B (DpI O w B D V M m l R):=by
 rintro pre W W' row ⟨deep,most,hD,hB,nX,r⟩ hg hr;have mj:∀r,row=some r->B<=r/\∃o:Obj,W.heap[r]? =some o/\o.isCells=false:=λr e=>(hr r e).elim False.elim id
 exact⟨deep,most,hD.own hO hg (λr e=>(mj r e).2),hB.grown hg hB.size (λr e=>pN hb (mj r e).1),pN nX hg.size,r⟩
def zeC(O:Obj)(w W:World)(C:Nat)(v:Value)(D V M m:Nat)(ks:List Int)(d i pl most:Nat)(F:List Nat)(s:Value)(wr:World):Prop:=∃j deep,s=.int .i64 (j:Nat)/\j<=ks.length/\DpB O w.heap.size wr D V M m deep most/\Below w.heap.size w wr/\KeepsOthers W wr/\Ji w C 23 v W wr/\xN d (ks.drop j) deep=F/\deep.getD i 0=d/\(∀q,deep.getD q 0<=pl+2)/\W.heap.size<=wr.heap.size
def zeC.step{v:Value}{d pl k zn:Nat}(h:DpB O w.heap.size wr D V M m dp most)(hV:V≠D)(hM:M≠D)(hN:w.heap.size≠D)(hC:C≠D)(DJ:w.heap.size<=D)(PS:Below w.heap.size w wr)(Rz:KeepsOthers W wr)(SA:Ji w C 23 v W wr)(PV:xN d (ks.drop k) dp=F)(aS:ks.drop k=(zn:Int) :: ks.drop (k+1))(hk:k<ks.length)(WF:dp.getD i 0=d)(Io:zn<i)(MN:d<=pl+1)(dY:∀q,dp.getD q 0<=pl+2)(ea:W.heap.size<=wr.heap.size):zeC O w W C v D V M m ks d i pl most F (.int .i64 ((k:Int)+1)) (wr.setCell ⟨D,zn,none⟩ (.int .i64 ((d:Int)+1))).drew:=by
 have hs:=h.set hV hM hN zn (d+1);rw[show (((d+1:Nat)):Int)=(d:Int)+1 from rfl] at hs;rw[aS] at PV;refine⟨k+1,dp.set zn (d+1),rfl,hk,hs.below bR.drew,(PS.setCell DJ _).drew,(Rz.trans (KeepsOthers.setCell _ _ _)).trans (KeepsOthers.drew _),SA.trans ⟨(bR.setCell DJ _).drew,λe=>(zv hC).trans e⟩,PV,?_,λq=>?_,?_⟩
 ·rw[Zk,if_neg (by omega)];exact WF
 ·rw[Zk];split
  ·omega
  ·exact dY q
 ·simpa using ea
def znF{v:Value}{d:Nat}(h:DpB O w.heap.size wr D V M m F most)(hD:D≠M)(hV:V≠M)(hN:w.heap.size≠M)(hC:C≠M)(LW:w.heap.size<=M)(PS:Below w.heap.size w wr)(Rz:KeepsOthers W wr)(SA:Ji w C 23 v W wr)(nX:B<=W.heap.size)(ea:W.heap.size<=wr.heap.size)(aI:pre.length<m)(hi:m-(pre.length+1)=i)(hR:XR l i F (max most d)=R)(dY:∀q,F.getD q 0<=pre.length+2)(bB:most<=pre.length+1)(MN:d<=pre.length+1):KeepsOthers W (wr.setCell ⟨M,0,none⟩ (.int .i64 (max (most:Int) (d:Int)))).drew/\Ji w C 23 v W (wr.setCell ⟨M,0,none⟩ (.int .i64 (max (most:Int) (d:Int)))).drew/\DpI O w B D V M m l R (pre ++ [x]) (wr.setCell ⟨M,0,none⟩ (.int .i64 (max (most:Int) (d:Int)))).drew:=by
 have hs:=h.put hD hV hN (max most d);have e:((max most d:Nat):Int)=max (most:Int) (d:Int):=by omega
 rw[e] at hs;refine⟨(Rz.trans (KeepsOthers.setCell _ _ _)).trans (KeepsOthers.drew _),SA.trans ⟨(bR.setCell LW _).drew,λe=>(zv hC).trans e⟩,F,max most d,hs.below bR.drew,(PS.setCell LW _).drew,?_,?_,?_,?_,?_⟩
 ·refine pN nX ?_;simpa using ea
 ·simp only[pE,pI];omega
 ·simp only[pE,pI];rw[hi];exact hR
 ·simp only[pE,pI];exact dY
 ·simp only[pE,pI];omega
def zmR(O:Obj)(w:World)(D V M m:Nat)(items:List Int)(n:Nat)(i:Value)(wr:World):Prop:=∃j deep,i=.int .i64 (j:Nat)/\j<=items.length/\DpB O w.heap.size wr D V M m deep 0/\Below w.heap.size w wr/\((items.drop j).foldl (λ(d:List Nat) k=>d.set k.toNat 1) deep)=(items.foldl (λ(d:List Nat) k=>d.set k.toNat 1) (List.replicate n 0))/\∀q,deep.getD q 0<=1
def Ks(t:yJ)(nv iv:Value)(w:World)(hT:TR w nv iv t)(hk:∀(i:Nat) (x:Nd),t.nz[i]? =some x->∀k∈x.kz,0<=k/\k<(i:Int))(hi:∀k∈t.iz,0<=k/\k<(t.nz.length:Int))(hn:t.nz.length<=1000)(ml:t.iz.length<=100000)(mf:∀x∈t.nz,x.kz.length<=100000):
 Calls prog 41 #[.agg #[nv,iv]] w (ue w (.int .i64 (jO t:Nat))):=by
 obtain⟨np,nc,ip,ic,rfl,rfl⟩:=hT.form;obtain⟨kv,hN⟩:=hT.nz;have hI:=hT.iz;obtain⟨l,its⟩:=t;simp only at hN hI hk hi hn ml mf ⊢;unfold jO;simp only;obtain⟨m,hm⟩:=exE (l.length);obtain⟨q,hq⟩:=exE (its.length);have ET:=zbj m (by omega);replace hN:=zh hN;replace hI:=zh hI;replace hk:=zh hk;replace hi:=zh hi;replace mf:=zh mf;obtain⟨R,hR⟩:=exE (XR l m (its.foldl (λ(d:List Nat) k=>d.set k.toNat 1) (List.replicate m 0)) 0);rw[hm,hq,hR];rw[hm] at hn;rw[hq] at ml;replace hm:=zh hm;replace hq:=zh hq;replace hR:=zh hR;clear hT;have hmk2:∀W:World,(Instr.makeSlice 24 (.int .i64 (m:Int)) (.int .i64 (m:Int))).run prog W=.ok (.slice (some ⟨W.heap.size,0,none⟩) m m) (W.alloc (.cells (List.replicate m (Value.int .i64 0)).toArray 3 (0,0))):=λW=>ET W
 clear ET;refine (callsIn_wide (n:=5)).1 ?_;refine callsIn_of_wp_marks func41 rfl trivial ?_ rfl;simp only[ntmps41,List.size_toArray,pH,pM,Nat.reduceAdd,Nat.reduceSub,Array.replicate_succ,Array.replicate_zero,List.push_toArray,List.append_toArray,pV,pQ]
 gi_wp2_with fail
 have mK:zmR (.cells #[.slice np m nc,.slice ip q ic] 26 (0,0)) w (w.heap.size+1) (w.heap.size+1+1) (w.heap.size+1+1+1) m its m (.int .i64 0) ((((w.alloc (.cells #[.slice np m nc,.slice ip q ic] 26 (0,0))).alloc (.cells (Array.replicate m (.int .i64 0)) 3 (0,0))).alloc (.cells #[.slice (some ⟨w.heap.size+1,0,none⟩) m m] 24 (0,0))).alloc (.cells #[.int .i64 0] 3 (0,0))):=by
  have h0:=zV [.cells #[.slice np m nc,.slice ip q ic] 26 (0,0),.cells (Array.replicate m (.int .i64 0)) 3 (0,0),.cells #[.slice (some ⟨w.heap.size+1,0,none⟩) m m] 24 (0,0),.cells #[.int .i64 0] 3 (0,0)] w;refine⟨0,List.replicate m 0,rfl,pU _,⟨(h0 1 _ rfl).trans ?_,h0 2 _ rfl,h0 3 _ rfl,by simp,h0 0 _ rfl⟩,yw [.cells #[.slice np m nc,.slice ip q ic] 26 (0,0),.cells (Array.replicate m (.int .i64 0)) 3 (0,0),.cells #[.slice (some ⟨w.heap.size+1,0,none⟩) m m] 24 (0,0),.cells #[.int .i64 0] 3 (0,0)] w,rfl,λj=>?_⟩
  ·simp
  ·rw[pA,List.getElem?_replicate];split <;> simp
 replace mK:=zh mK
 gi_loopw [18] (zmR (.cells #[.slice np m nc,.slice ip q ic] 26 (0,0)) w (w.heap.size+1) (w.heap.size+1+1) (w.heap.size+1+1+1) m its m) (λi _=>q-(intOf i).toNat)
 case atStart=>exact mK.q
 case round=>
  obtain⟨j,deep,rfl,hj,hD,hB,hf,pk⟩:=hrel;rw[hq.q] at hj;have Hf:=zh hf;have HD:=zh hD;have v0:=zd hD.v 0;clear hf;by_cases mD:j<q
  ·have me:(j:Int)<(q:Int):=by omega
   have hy:=pF ((j:Int)+1) (by omega);obtain⟨g,off,rfl,_,d0⟩:=(hI.q.below hB).at (j:=j) (by rw[hq.q];omega);have hz:=hi.q (its.getD j 0) (by
    rw[pA,glE (by rw[hq.q];omega)];exact wE _)
   have aS:its.drop j=its.getD j 0 :: its.drop (j+1):=by
    rw[pA,glE (by rw[hq.q];omega)];exact List.drop_eq_getElem_cons _
   rw[hm.q] at hz;replace aS:=zh aS;generalize its.getD j 0=z at *;obtain⟨zn,rfl⟩:∃zn:Nat,z=zn:=⟨z.toNat,by omega⟩;have mY:(zn:Int)<(m:Int):=hz.2;have mT:¬((zn:Int)<0):=by omega
   have c0:=hD.get (j:=zn) (by omega);have f0:=zj hD.d zn;clear hD hz
   gi_wp2_with fail
   go_roundw
   case rel=>
    refine⟨j+1,deep.set zn 1,by simp,by rw[hq.q];omega,HD.q.set (by omega) (by omega) (by omega) zn 1,hB.setCell (by simp only;omega) _,?_,λj=>?_⟩
    ·have:=Hf.q;rw[aS.q] at this;exact this
    ·rw[Zk];split
     ·exact pC _
     ·exact pk j
   case measure=>simp[intOf];omega
  ·have me:¬((j:Int)<(q:Int)):=by omega
   have IB:j=q:=by omega
   have fV:deep=its.foldl (λ(d:List Nat) k=>d.set k.toNat 1) (List.replicate m 0):=by
    have:=Hf.q;rw[IB,<-hq.q,List.drop_length] at this;exact this
   rw[<-fV] at hR;have tc:=zd hD.t 0;clear fV Hf v0 IB
   gi_wp2_with (first|(refine⟨trivial,?_⟩;gi_at_call 82;refine (callsIn_wide.2 (ziN np m nc wr)).mono ?_;rintro e W2 ⟨rfl,rfl⟩))
   have hCD:w.heap.size+1+1+1<wr.heap.size:=(gtA hD.k);generalize rI:(Act.mk _ [])=a0;generalize bM:wr.alloc (.cells #[.slice np m nc] 23 (0,0))=W2;have LX:=zh hN.q.2.1;have nX:W2.heap.size=wr.heap.size+1:=by rw[<-bM];simp
   have hC:W2.heap[wr.heap.size]? =some (.cells #[.slice np l.length nc] 23 (0,0)):=by rw[<-bM,hm.q];exact zk _ _
   have nh:Below wr.heap.size wr W2:=by rw[<-bM];exact zf _ _
   have rB:Below w.heap.size w W2:=hB.trans (nh.mono hB.size);have Bo:=hB.size;refine ZE (e1:=λx:Int×Nd×Value=>.int .i64 x.1) (e2:=λx=>YH x.2.1 x.2.2) (gf:=129) (la:= #[]) (lb:= #[.pointer (some ⟨wr.heap.size,0,none⟩)]) rfl (by omega) (by rw[<-rI];rfl) trivial (enters_of func129 (by kernel_rfl) rfl)
    (ziM w wr.heap.size (.slice np l.length nc) l kv hN.q (by rw[hm.q];omega) W2 rB hC _ (by omega)) (λr h=>h.elim) Ji.trans (λW l o o' hl ho hc=>Ji.put (w:=W2) (by omega) W l o o' hl ho hc)
    (DpI (.cells #[.slice np m nc,.slice ip q ic] 26 (0,0)) w W2.heap.size (w.heap.size+1) (w.heap.size+1+1) (w.heap.size+1+1+1) m l R) (λ_ _ _=>False) (DpI.own ⟨_,_,_,rfl⟩ (by omega)) (λc s W W' row h _ _=>h)
    ⟨deep,0,hD.below nh,rB,pC _,pU _,hR.q,λq=>pk q,pU _⟩
    (λpre x a' W=>∃b,DpI (.cells #[.slice np m nc,.slice ip q ic] 26 (0,0)) w W2.heap.size (w.heap.size+1) (w.heap.size+1+1) (w.heap.size+1+1+1) m l R pre W/\W2.heap.size<=b/\W.heap[b]? =some (.cells #[.int .u8 x.2.1.kind,.string ⟨x.2.1.text.toArray⟩,.int .i64 x.2.1.n,x.2.2,.int .i64 x.2.1.at_] 60 (0,0))/\a'={tmps:=(((a0.tmps.setIfInBounds 29 (.int .i64 x.1)).setIfInBounds 30 (YH x.2.1 x.2.2)).setIfInBounds 7 (.int .i64 x.1)).setIfInBounds 8 (.pointer (some ⟨b,0,none⟩)),defers:=[]})
    (λpre x a' W l o o' ⟨b,h1,h2,h3,h4⟩ hl ho hc=>⟨b,DpI.own (B:=W2.heap.size) ⟨_,_,_,rfl⟩ (by omega) pre W _ (some l) h1 (grownBy_putObj' W l o') (λr e=>by cases e;exact .inr ⟨hl,o,ho,hc⟩),h2,(World.putObj_heap_other (λe=>by subst e;rw[h3] at ho;cases ho;cases hc)).trans h3,h4⟩) ?assign ?body ?done ?stop
   case assign=>
    rintro L pre ⟨xi,x,u⟩ W K hI hG hK;subst rI;obtain⟨aI,bj,hx,hu⟩:=hG;simp only at hx hu bj ⊢;replace bj:=zh bj;simp only[yh,yf,yg];obtain⟨up,uc,rfl⟩:=(LX.q _ _ _ hx hu).form;obtain⟨x0,x1,x2,x3,x4⟩:=x;unfold YH;simp only
    gi_wp2_with fail
    have cp:=DpI.own (B:=W2.heap.size) ⟨_,_,_,rfl⟩ (by omega) pre W _ none hI (World.grownBy_alloc W (.cells #[.int .u8 x0,.string ⟨x1.toArray⟩,.int .i64 x2,.slice up x3.length uc,.int .i64 x4] 60 (0,0)) none) (λr e=>by cases e);obtain⟨_,_,_,sf,eZ,_⟩:=hI;exact hK _ _ (KeepsOthers.alloc _ _) ⟨(zf W _).mono sf.size,λe=>zi (zf _ _) e⟩ ⟨W.heap.size,cp,eZ,zk _ _,by simp only[yh,yf,yg]⟩
   case body=>
    rintro L pre ⟨xi,x,u⟩ a' W ⟨b,hI,hb,hz,rfl⟩ ⟨aI,bj,hx,hu⟩;subst rI;simp only at hx hu bj hz ⊢;simp only[yh,yf,yg];obtain⟨deep,most,hD,sf,eZ,hpm,ar,sV,bB⟩:=hI;have Ry:=LX.q _ _ _ hx hu;obtain⟨up,uc,rfl⟩:=Ry.form;have MQ:=hk.q _ x hx;have sC:=mf.q x (wH hx);rw[hm.q] at aI bj hx hu MQ;obtain⟨i,WM⟩:=exE (m-1-pre.length);rw[WM] at hx hu MQ;have FR:xi=(i:Int):=by omega
    subst FR;have Ly:i<m:=by omega
    have EU:m-pre.length=i+1:=by omega
    rw[EU] at ar;unfold XR at ar;rw[hx] at ar;have cJ:XR l i (xN (deep.getD i 0) x.kz deep) (max most (deep.getD i 0))=R:=ar;replace cJ:=zh cJ;have hmq:m-(pre.length+1)=i:=by omega
    clear ar EU WM bj;obtain⟨x0,x1,x2,x3,x4⟩:=x;unfold YH;simp only at hz Ry MQ sC cJ ⊢;obtain⟨n3,bC⟩:=exE (x3.length);have c3:=zd hz 3;rw[bC] at c3 sC ⊢;have rq:=zh bC;have HD:=zh hD;have Hkx:=zh MQ;have HB3:=zh sf;have Hle:=zh sV;have HZ:=zh hz;clear bC hD MQ hx hu hz sV
    gi_wp2_with fail
    have gH:most<=pre.length+1:=bB;obtain⟨d,hd⟩:=exE (deep.getD i 0);have MN:d<=pre.length+1:=by rw[<-hd];exact Hle.q i
    obtain⟨F,hF⟩:=exE (xN d x3 deep);have dG:XR l i F (max most d)=R:=by
     have:=cJ.q;rw[hd,hF] at this;exact this
    replace dG:=zh dG;have rv:zeC (.cells #[.slice np m nc,.slice ip q ic] 26 (0,0)) w W wr.heap.size (.slice np l.length nc) (w.heap.size+1) (w.heap.size+1+1) (w.heap.size+1+1+1) m x3 d i pre.length most F (.int .i64 0) W:=⟨0,deep,rfl,pU _,HD.q,HB3.q,KeepsOthers.refl _,Ji.refl _ _ _ _ _,hF,hd,λq=>pN (Hle.q q) (by omega),pC _⟩;replace rv:=zh rv;clear cJ hd hF c3
    gi_loopw [34] (zeC (.cells #[.slice np m nc,.slice ip q ic] 26 (0,0)) w W wr.heap.size (.slice np l.length nc) (w.heap.size+1) (w.heap.size+1+1) (w.heap.size+1+1+1) m x3 d i pre.length most F) (λi _=>n3-(intOf i).toNat)
    case atStart=>exact rv.q
    case round=>
     obtain⟨k,dp,rfl,na,hD,PS,Rz,SA,PV,WF,dY,ea⟩:=hrel;rw[rq.q] at na;have GN:=zh hD;by_cases EN:k<n3
     ·have Wf:(k:Int)<(n3:Int):=by omega
      have Ik:=pF ((k:Int)+1) (by omega);have hyd:=pF ((d:Int)+1) (by omega);obtain⟨g,off,rfl,_,d0⟩:=(Ry.below PS).at (j:=k) (by rw[rq.q];omega);have hz:=Hkx.q (x3.getD k 0) (by
       rw[pA,glE (by rw[rq.q];omega)];exact wE _)
      have aS:x3.drop k=x3.getD k 0 :: x3.drop (k+1):=by
       rw[pA,glE (by rw[rq.q];omega)];exact List.drop_eq_getElem_cons _
      replace aS:=zh aS;generalize x3.getD k 0=z at *;obtain⟨zn,rfl⟩:∃zn:Nat,z=zn:=⟨z.toNat,by omega⟩;have Io:zn<i:=by omega
      have mY:(zn:Int)<(m:Int):=by omega
      have mT:¬((zn:Int)<0):=by omega
      have Pu:(i:Int)<(m:Int):=by omega
      have nV:¬((i:Int)<0):=by omega
      have mt:Below wr.heap.size wr wr.drew:=bR.drew;have el:=hD.below mt;have v5:wr.drew.cell? ⟨w.heap.size+1+1,0,none⟩=some (.slice (some ⟨w.heap.size+1,0,none⟩) m m):=zd el.v 0;have ci:=el.get Ly;rw[WF] at ci;have cz:=el.get (j:=zn) (by omega);have fz:=zj el.d zn;have HD5:=zh el;clear hD el
      gi_wp2_with fail
      gi_region
      gi_wp2_with fail
      all_goals exact⟨zeC.step GN.q (by omega) (by omega) (by omega) (by omega) (by omega) PS Rz SA PV aS.q (by rw[rq.q];exact EN) WF Io MN dY ea,by simp[intOf];omega⟩
     ·have Wf:¬((k:Int)<(n3:Int)):=by omega
      have EJ:k=n3:=by omega
      have TM:dp=F:=by
       rw[EJ,<-rq.q,List.drop_length] at PV;exact PV
      have Pu:(i:Int)<(m:Int):=by omega
      have nV:¬((i:Int)<0):=by omega
      have mt:Below wr.heap.size wr wr.drew:=bR.drew;have el:=hD.below mt;have v5:wr.drew.cell? ⟨w.heap.size+1+1,0,none⟩=some (.slice (some ⟨w.heap.size+1,0,none⟩) m m):=zd el.v 0;have ci:=el.get Ly;rw[WF] at ci;have cm:wr.drew.cell? ⟨w.heap.size+1+1+1,0,none⟩=some (.int .i64 most):=zd el.k 0;have fm:=zj el.k 0;have Ay:=GN.q;rw[TM] at Ay;replace Ay:=zh Ay;clear hD el PV
      gi_wp2_with fail
      gi_region
      gi_wp2_with fail
      all_goals exact znF Ay.q (by omega) (by omega) (by omega) (by omega) (by omega) PS Rz SA eZ ea aI hmq dG.q (λq=>by rw[<-TM];exact dY q) gH MN
   case done=>
    intro Dd xs W hS hI PT pi;obtain⟨deep2,most2,NE,sf,_,hR1,ar,_⟩:=hI;subst rI;have ER:most2=R:=by
     rw[show m-xs.length=0 by rw[hS,hm.q];omega] at ar;exact ar
    replace ER:=zh ER;clear ar;have tm:=zd NE.k 0;have nX:=zh nX
    gi_wp2_with fail
    refine⟨by simp,.inl ⟨_,_,rfl,run_takeDeferred pi,?_⟩⟩;refine⟨.int .i64 most2,by simp[results,results41,go_sem],?_⟩;refine⟨by rw[ER.q],sf.grown (grownBy_putObj' W Dd _) sf.size (λr e=>?_)⟩;cases e;have:=nX.q;omega
   case stop=>
    intro _ _ _ _ _ h;exact h.elim
end
section
open Go.RowKit Lode Go.Shelf
attribute [local go_sem ↓] wp_at_zero wp_at_succ
open Go.Proofs.Tryz
def Qc(v1 v2:Value)(l m:List Int)(w:World)(h1:KSo w v1 l)(h2:KSo w v2 m)(hl:l.length<=1000000):
 Calls prog 26 #[v1,v2] w (ue w (.bool (decide (l=m)))):=by
 obtain⟨p1,c1,rfl⟩:=h1.form;obtain⟨p2,c2,rfl⟩:=h2.form;by_cases mV:l.length=m.length
 ·have Hlen:=zh mV;rw[<-mV] at h2 ⊢;obtain⟨n,hn⟩:=exE (l.length);rw[hn] at h1 h2 hl ⊢;have H1:=zh h1;have H2:=zh h2;have Hn:=zh hn;clear mV hn h1 h2;go_enter func26,ntmps26;go_wp2;go_loopw [5] (λi wr=>∃k:Nat,i=.int .i64 k/\k<=n/\Below w.heap.size w wr/\Hid (∀j,j<k->l[j]? =m[j]?)) (λi _=>n-(intOf i).toNat)
  case atStart=>exact⟨0,rfl,by omega,pG _ _,zh (λj hj=>absurd hj (wF _))⟩
  case round=>
   obtain⟨k,rfl,hk,hb,mP⟩:=hrel;by_cases mD:k<n
   ·have me:(k:Int)<(n:Int):=by omega
    have hk0:¬((k:Int)<0):=by omega
    have hy:=pF ((k:Int)+1) (by omega);have mf:k<l.length:=by rw[Hn.q];exact mD
    have dx:k<m.length:=by rw[<-Hlen.q];exact mf
    obtain⟨g1,o1,rfl,c0⟩:=(H1.q.below hb).at mf;obtain⟨g2,o2,rfl,d0⟩:=(H2.q.below hb).at dx;have hx:l[k]? =some (l.getD k 0):=by rw[pA,glE mf];rfl
    have SY:m[k]? =some (m.getD k 0):=by rw[pA,glE dx];rfl
    generalize l.getD k 0=x at *;generalize m.getD k 0=y at *;have Hx:=zh hx;have Hy:=zh SY;clear hx SY;by_cases he:x=y
    ·subst he;go_wp2_with fail;go_quiet (fail);go_wp2;go_roundw
     case rel=>
      refine⟨k+1,by go_num,by omega,zO hb nq,zh (λj hj=>?_)⟩;by_cases e:j=k
      ·subst e;rw[Hx.q,Hy.q]
      ·exact mP.q j (by omega)
     case measure=>simp[intOf];omega
    ·have SL:(x != y)=true:=by rw[wV];exact he
     have hd:decide (l=m)=false:=wR (λe=>he (by
      have h1:=Hx.q;rw[e,Hy.q] at h1;cases h1;rfl))
     rw[hd];go_wp2_with fail;go_quiet (fail);go_wp2;go_ret;exact⟨rfl,zO hb nq⟩
   ·have me:¬((k:Int)<(n:Int)):=by omega
    have hd:decide (l=m)=true:=wU (List.ext_getElem? (λj=>by
     by_cases hj:j<n
     ·exact mP.q j (by omega)
     ·rw[wP (by rw[Hn.q];omega),wP (by rw[<-Hlen.q,Hn.q];omega)]))
    rw[hd];go_wp2;go_ret;exact⟨rfl,hb⟩
 ·have hd:decide (l=m)=false:=wR (λe=>mV (by rw[e]));have mu:((l.length:Int) != (m.length:Int))=true:=by rw[wV];omega
  rw[hd];clear h1 h2;generalize l.length=a at *;generalize m.length=b at *;go_enter func26,ntmps26;go_wp2;go_ret;exact⟨rfl,pG _ _⟩
