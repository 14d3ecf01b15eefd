/-
  A part of the proof: contracts of functions; no conditions.
-/
import Derived.Test.YtcagibbaeageoaaGreatDoorCI
set_option maxRecDepth 100000
set_option maxHeartbeats 40000000
set_option linter.unusedSimpArgs false
set_option linter.unusedVariables false
namespace Go.Proofs.YtcagibbaeageoaaGreatDoor
section
open Go.RowKit Lode Go.Shelf
attribute [local go_sem ↓] Go.wp_at_zero Go.wp_at_succ
open Go.Proofs.Tryz
theorem qy(k a b:Nat)(w:World):Calls prog 150 #[.int .u8 k,.int .u8 a,.int .u8 b] w (qR w (.bool (decide (a<=k) && decide (k<=b)))):=by
 by_cases h1:a<=k
 ·have h1':(a:Int)<=(k:Int):=by omega
  by_cases h2:k<=b
  ·have h2':(k:Int)<=(b:Int):=by omega
   go_enter func150,ntmps150;go_wp2;go_ret;exact⟨by simp[h1,h2],pE _ _⟩
  ·have h2':¬((k:Int)<=(b:Int)):=by omega
   go_enter func150,ntmps150;go_wp2;go_ret;exact⟨by simp[h1,h2],pE _ _⟩
 ·have h1':¬((a:Int)<=(k:Int)):=by omega
  go_enter func150,ntmps150;go_wp2;go_ret;exact⟨by simp[h1],pE _ _⟩
theorem Vl(x:Nd)(u:Value)(w:World)(hk:KS w u x.kids)(hx:x.kind<=255):Calls prog 207 #[um x u] w (qR w (.bool (yT.is .pattern x.kind))):=by
 obtain⟨p,c,rfl⟩:=hk.form;clear hk;obtain⟨k,t,n,ks,a⟩:=x;simp only at hx ⊢;generalize ks.length=m at *;have hz:=zl w (.cells #[.int .u8 k,.string ⟨t.toArray⟩,.int .i64 n,.slice p m c,.int .i64 a] 60 (0,0));have hA:=zg w (.cells #[.int .u8 k,.string ⟨t.toArray⟩,.int .i64 n,.slice p m c,.int .i64 a] 60 (0,0));have hlt:w.heap.size<(w.alloc (.cells #[.int .u8 k,.string ⟨t.toArray⟩,.int .i64 n,.slice p m c,.int .i64 a] 60 (0,0))).heap.size:=by simp
 have c0:=zd hz 0;clear hz;go_enter func207,ntmps207;go_wp2_with fail;refine (qy k 66 70 _).mono ?_;rintro e w1 ⟨rfl,hb⟩;go_wp2;go_ret;exact⟨rfl,zf hA hb⟩
theorem zef(x:Nd)(u:Value)(w:World)(hk:KS w u x.kids)(hx:x.kind<=255):Calls prog 208 #[um x u] w (qR w (.bool (yT.is .type x.kind))):=by
 obtain⟨p,c,rfl⟩:=hk.form;clear hk;obtain⟨k,t,n,ks,a⟩:=x;simp only at hx ⊢;generalize ks.length=m at *;have hz:=zl w (.cells #[.int .u8 k,.string ⟨t.toArray⟩,.int .i64 n,.slice p m c,.int .i64 a] 60 (0,0));have hA:=zg w (.cells #[.int .u8 k,.string ⟨t.toArray⟩,.int .i64 n,.slice p m c,.int .i64 a] 60 (0,0));have hlt:w.heap.size<(w.alloc (.cells #[.int .u8 k,.string ⟨t.toArray⟩,.int .i64 n,.slice p m c,.int .i64 a] 60 (0,0))).heap.size:=by simp
 have c0:=zd hz 0;clear hz;go_enter func208,ntmps208;go_wp2_with fail;refine (qy k 80 87 _).mono ?_;rintro e w1 ⟨rfl,hb⟩;go_wp2;go_ret;exact⟨rfl,zf hA hb⟩
theorem zgv(x:Nd)(u:Value)(w:World)(hk:KS w u x.kids)(hx:x.kind<=255):Calls prog 209 #[um x u] w (qR w (.bool (yT.is .way x.kind))):=by
 obtain⟨p,c,rfl⟩:=hk.form;clear hk;obtain⟨k,t,n,ks,a⟩:=x;simp only at hx ⊢;generalize ks.length=m at *;have hz:=zl w (.cells #[.int .u8 k,.string ⟨t.toArray⟩,.int .i64 n,.slice p m c,.int .i64 a] 60 (0,0));have hA:=zg w (.cells #[.int .u8 k,.string ⟨t.toArray⟩,.int .i64 n,.slice p m c,.int .i64 a] 60 (0,0));have hlt:w.heap.size<(w.alloc (.cells #[.int .u8 k,.string ⟨t.toArray⟩,.int .i64 n,.slice p m c,.int .i64 a] 60 (0,0))).heap.size:=by simp
 have c0:=zd hz 0;clear hz;go_enter func209,ntmps209;go_wp2_with fail;refine (qy k 63 65 _).mono ?_;rintro e w1 ⟨rfl,hb⟩;go_wp2;go_ret;exact⟨rfl,zf hA hb⟩
theorem zej(x:Nd)(u:Value)(w:World)(hk:KS w u x.kids)(hx:x.kind<=255):Calls prog 100 #[um x u] w (qR w (.bool (yT.is .item x.kind))):=by
 obtain⟨p,c,rfl⟩:=hk.form;clear hk;obtain⟨k,t,n,ks,a⟩:=x;simp only at hx ⊢;generalize ks.length=m at *;have hz:=zl w (.cells #[.int .u8 k,.string ⟨t.toArray⟩,.int .i64 n,.slice p m c,.int .i64 a] 60 (0,0));have hA:=zg w (.cells #[.int .u8 k,.string ⟨t.toArray⟩,.int .i64 n,.slice p m c,.int .i64 a] 60 (0,0));have hlt:w.heap.size<(w.alloc (.cells #[.int .u8 k,.string ⟨t.toArray⟩,.int .i64 n,.slice p m c,.int .i64 a] 60 (0,0))).heap.size:=by simp
 have c0:=zd hz 0;clear hz;go_enter func100,ntmps100;go_wp2_with fail;refine (qy k 100 104 _).mono ?_;rintro e w1 ⟨rfl,hb⟩;go_wp2;go_ret;exact⟨rfl,zf hA hb⟩
theorem zek(x:Nd)(u:Value)(w:World)(hk:KS w u x.kids)(hx:x.kind<=255):Calls prog 206 #[um x u] w (qR w (.bool (yT.is .els x.kind))):=by
 obtain⟨p,c,rfl⟩:=hk.form;clear hk;obtain⟨k,t,n,ks,a⟩:=x;simp only at hx ⊢;generalize ks.length=m at *;have hz:=zl w (.cells #[.int .u8 k,.string ⟨t.toArray⟩,.int .i64 n,.slice p m c,.int .i64 a] 60 (0,0));have hA:=zg w (.cells #[.int .u8 k,.string ⟨t.toArray⟩,.int .i64 n,.slice p m c,.int .i64 a] 60 (0,0));have hlt:w.heap.size<(w.alloc (.cells #[.int .u8 k,.string ⟨t.toArray⟩,.int .i64 n,.slice p m c,.int .i64 a] 60 (0,0))).heap.size:=by simp
 have c0:=zd hz 0;clear hz;by_cases h1:k=28
 ·subst h1;go_enter func206,ntmps206;go_wp2;go_ret;exact⟨rfl,hA⟩
 ·have i1:((k:Int) == 28)=false:=bfE (by omega)
  have e2:((k:Int) == 29)=(k == 29):=by rw[pP];simp;omega
  go_enter func206,ntmps206;go_wp2;go_ret;refine⟨?_,hA⟩;simp[yT.is,h1]
  try omega
theorem zcE(x:Nd)(u:Value)(w:World)(hk:KS w u x.kids)(hx:x.kind<=255):Calls prog 210 #[um x u] w (qR w (.bool (yT.is .Kf x.kind))):=by
 obtain⟨p,c,rfl⟩:=hk.form;clear hk;obtain⟨k,t,n,ks,a⟩:=x;simp only at hx ⊢;generalize ks.length=m at *;have hz:=zl w (.cells #[.int .u8 k,.string ⟨t.toArray⟩,.int .i64 n,.slice p m c,.int .i64 a] 60 (0,0));have hA:=zg w (.cells #[.int .u8 k,.string ⟨t.toArray⟩,.int .i64 n,.slice p m c,.int .i64 a] 60 (0,0));have hlt:w.heap.size<(w.alloc (.cells #[.int .u8 k,.string ⟨t.toArray⟩,.int .i64 n,.slice p m c,.int .i64 a] 60 (0,0))).heap.size:=by simp
 have c0:=zd hz 0;clear hz;by_cases h1:k=5
 ·subst h1;go_enter func210,ntmps210;go_wp2;go_ret;exact⟨rfl,hA⟩
 ·have i1:((k:Int) == 5)=false:=bfE (by omega)
  have e2:((k:Int) == 23)=(k == 23):=by rw[pP];simp;omega
  go_enter func210,ntmps210;go_wp2;go_ret;refine⟨?_,hA⟩;simp[yT.is,h1]
  try omega
theorem YM(x:Nd)(u:Value)(w:World)(hk:KS w u x.kids)(hx:x.kind<=255):Calls prog 204 #[um x u] w (qR w (.bool (yT.is .expr x.kind))):=by
 obtain⟨p,c,rfl⟩:=hk.form;clear hk;obtain⟨k,t,n,ks,a⟩:=x;simp only at hx ⊢;generalize ks.length=m at *;have hz:=zl w (.cells #[.int .u8 k,.string ⟨t.toArray⟩,.int .i64 n,.slice p m c,.int .i64 a] 60 (0,0));have hA:=zg w (.cells #[.int .u8 k,.string ⟨t.toArray⟩,.int .i64 n,.slice p m c,.int .i64 a] 60 (0,0));have hlt:w.heap.size<(w.alloc (.cells #[.int .u8 k,.string ⟨t.toArray⟩,.int .i64 n,.slice p m c,.int .i64 a] 60 (0,0))).heap.size:=by simp
 unfold yT.is zW;simp only;have hC:=qy k 1 51;generalize hb51:(decide (1<=k) && decide (k<=51))=b at *;have c0:=fun W (h:Below _ _ W)=>zd (zi h hz) 0
 clear hz;cases b with
 |false=>
  go_enter func204,ntmps204;have c1:=c0 _ bR;go_wp2_with fail;refine (hC _).mono ?_;rintro e w1 ⟨rfl,hb⟩;go_wp2;go_ret;exact⟨rfl,zf hA hb⟩
 |true=>
  by_cases h27:k=27
  ·subst h27;go_enter func204,ntmps204;have c1:=c0 _ bR;go_wp2_with fail;refine (hC _).mono ?_;rintro e w1 ⟨rfl,hb⟩;have c2:=c0 _ hb;go_wp2;go_ret;exact⟨rfl,zf hA hb⟩
  ·by_cases h32:k=32
   ·subst h32;go_enter func204,ntmps204;have c1:=c0 _ bR;go_wp2_with fail;refine (hC _).mono ?_;rintro e w1 ⟨rfl,hb⟩;have c2:=c0 _ hb;go_wp2;go_ret;exact⟨rfl,zf hA hb⟩
   ·have i27:((k:Int) == 27)=false:=bfE (by omega)
    have i32:((k:Int) == 32)=false:=bfE (by omega)
    have e28:((k:Int) == 28)=(k == 28):=by rw[pP];simp;omega
    go_enter func204,ntmps204;have c1:=c0 _ bR;go_wp2_with fail;refine (hC _).mono ?_;rintro e w1 ⟨rfl,hb⟩;have c2:=c0 _ hb;go_wp2;go_ret;refine⟨?_,zf hA hb⟩;simp[bne,i27,i32,e28,h27,h32]
theorem zeg(x:Nd)(u:Value)(w:World)(hk:KS w u x.kids)(hx:x.kind<=255):Calls prog 205 #[um x u] w (qR w (.bool (yT.is .stmt x.kind))):=by
 have hE:=fun W (h:Below w.heap.size w W)=>YM x u W (hk.below h) hx
 obtain⟨p,c,rfl⟩:=hk.form;clear hk;obtain⟨k,t,n,ks,a⟩:=x;simp only at hx ⊢;generalize ks.length=m at *;have hz:=zl w (.cells #[.int .u8 k,.string ⟨t.toArray⟩,.int .i64 n,.slice p m c,.int .i64 a] 60 (0,0));have hA:=zg w (.cells #[.int .u8 k,.string ⟨t.toArray⟩,.int .i64 n,.slice p m c,.int .i64 a] 60 (0,0));have hlt:w.heap.size<(w.alloc (.cells #[.int .u8 k,.string ⟨t.toArray⟩,.int .i64 n,.slice p m c,.int .i64 a] 60 (0,0))).heap.size:=by simp
 simp only[um] at hE;have hS:yT.is .stmt k=((decide (60<=k) && decide (k<=62)) || yT.is .expr k):=rfl;rw[hS];have hC:=qy k 60 62;generalize (decide (60<=k) && decide (k<=62))=b at *;have c0:=fun W (h:Below _ _ W) (i:Nat)=>zd (zi h hz) i
 have hz':=zj hz;clear hz;cases b with
 |true=>
  go_enter func205,ntmps205;have c1:=c0 _ bR 0;go_wp2_with fail;refine (hC _).mono ?_;rintro e w1 ⟨rfl,hb⟩;go_wp2;go_ret;exact⟨rfl,zf hA hb⟩
 |false=>
  go_enter func205,ntmps205;have c1:=c0 _ bR 0;go_wp2_with fail;refine (hC _).mono ?_;rintro e w1 ⟨rfl,hb⟩;have d0:=c0 _ hb 0;have d1:=c0 _ hb 1;have d2:=c0 _ hb 2;have d3:=c0 _ hb 3;have d4:=c0 _ hb 4;have hb1:=zf hA hb;go_wp2_with fail;refine (hE _ hb1).mono ?_;rintro e w2 ⟨rfl,hb2⟩;go_wp2;go_ret;exact⟨rfl,zf hb1 hb2⟩
theorem zcx(j:Nat)(B:Nat)(x:Nd)(u:Value)(w:World)(hB:w.heap[B]? =some (.cells #[.int .u8 j] 5 (0,0)))(hk:KS w u x.kids)(hx:x.kind<=255):Calls prog 251 #[um x u,.pointer (some ⟨B,0,none⟩)] w (qR w (.bool (yT.is (.one j) x.kind))):=by
 obtain⟨p,c,rfl⟩:=hk.form;clear hk;obtain⟨k,t,n,ks,a⟩:=x;simp only at hx ⊢;generalize ks.length=m at *;have hz:=zl w (.cells #[.int .u8 k,.string ⟨t.toArray⟩,.int .i64 n,.slice p m c,.int .i64 a] 60 (0,0));have hA:=zg w (.cells #[.int .u8 k,.string ⟨t.toArray⟩,.int .i64 n,.slice p m c,.int .i64 a] 60 (0,0));have hlt:w.heap.size<(w.alloc (.cells #[.int .u8 k,.string ⟨t.toArray⟩,.int .i64 n,.slice p m c,.int .i64 a] 60 (0,0))).heap.size:=by simp
 have c0:=zd hz 0;have c1:=zd (zi hA hB) 0;clear hz hB;have e2:((k:Int) == (j:Int))=(k == j):=by rw[pP];simp;omega
 go_enter func251,ntmps251;go_wp2;go_ret;refine⟨?_,hA⟩;rw[show yT.is (.one j) k=(k == j) from rfl,<-e2];rfl
abbrev ZJ(j:Nat):Obj:=.cells #[.int .u8 j] 5 (0,0)
abbrev Qn(B:Nat):Value:=.func (.func 251) #[] #[.pointer (some ⟨B,0,none⟩)]
def Yc(w:World)(v:Value)(s:yT):Prop:=
 (∃f,v=.func (.func f) #[] #[]/\Enters prog f/\∀(x:Nd) (u:Value) (W:World),KS W u x.kids->x.kind<=255->Calls prog f #[um x u] W (qR W (.bool (s.is x.kind))))\/
 (∃B j,v=Qn B/\s=.one j/\w.heap[B]? =some (ZJ j))
theorem Yc.use{w:World}{v:Value}{s:yT}(h:Yc w v s):∃f caps,v=.func (.func f) #[] caps/\Enters prog f/\∀(W:World) (x:Nd) (u:Value),Below w.heap.size w W->KS W u x.kids->x.kind<=255->Calls prog f (#[um x u] ++ caps) W (qR W (.bool (s.is x.kind))):=by
 rcases h with⟨f,rfl,he,h⟩|⟨B,j,rfl,rfl,h⟩
 ·exact⟨f,#[],rfl,he,fun W x u _ hk hx=>by rw[Array.append_empty];exact h x u W hk hx⟩
 ·exact⟨251,_,rfl,enters_of (P:=prog) func251 (by kernel_rfl) rfl,fun W x u hW hk hx=>zcx j B x u W (zi hW h) hk hx⟩
theorem Yc.keep{w w':World}{v:Value}{s:yT}(h:Yc w v s)(hk:∀(B:Nat) cs fr,w.heap[B]? =some (.cells cs 5 fr)->w'.heap[B]? =some (.cells cs 5 fr)):Yc w' v s:=
 h.imp id fun ⟨B,j,hv,hs,hb⟩=>⟨B,j,hv,hs,hk _ _ _ hb⟩
theorem Yc.below{w w':World}{v:Value}{s:yT}(h:Yc w v s)(hb:Below w.heap.size w w'):Yc w' v s:=h.keep fun _ _ _ hB=>zi hb hB
theorem xY(w:World):Yc w (.func (.func 204) #[] #[]) .expr:=.inl ⟨_,rfl,enters_of (P:=prog) func204 (by kernel_rfl) rfl,YM⟩
theorem zjg(w:World):Yc w (.func (.func 205) #[] #[]) .stmt:=.inl ⟨_,rfl,enters_of (P:=prog) func205 (by kernel_rfl) rfl,zeg⟩
theorem uW(w:World):Yc w (.func (.func 208) #[] #[]) .type:=.inl ⟨_,rfl,enters_of (P:=prog) func208 (by kernel_rfl) rfl,zef⟩
theorem JK(w:World):Yc w (.func (.func 207) #[] #[]) .pattern:=.inl ⟨_,rfl,enters_of (P:=prog) func207 (by kernel_rfl) rfl,Vl⟩
theorem zkR(w:World):Yc w (.func (.func 209) #[] #[]) .way:=.inl ⟨_,rfl,enters_of (P:=prog) func209 (by kernel_rfl) rfl,zgv⟩
theorem zjh(w:World):Yc w (.func (.func 100) #[] #[]) .item:=.inl ⟨_,rfl,enters_of (P:=prog) func100 (by kernel_rfl) rfl,zej⟩
theorem zkS(w:World):Yc w (.func (.func 206) #[] #[]) .els:=.inl ⟨_,rfl,enters_of (P:=prog) func206 (by kernel_rfl) rfl,zek⟩
theorem zhb(w:World):Yc w (.func (.func 210) #[] #[]) .Kf:=.inl ⟨_,rfl,enters_of (P:=prog) func210 (by kernel_rfl) rfl,zcE⟩
theorem kg{w:World}{B j:Nat}(h:w.heap[B]? =some (ZJ j)):Yc w (Qn B) (.one j):=.inr ⟨B,j,rfl,rfl,h⟩
theorem vO(j:Nat)(w:World):Calls prog 202 #[.int .u8 j] w fun e w'=>e=.returned (Qn w.heap.size)/\w'=w.alloc (ZJ j):=by
 have hmf:∀(fn:Fn) (first cap:Array Value) (w:World),(Instr.makeFunc fn first cap).run prog w=.ok (.func fn first cap) w:=fun _ _ _ _=>rfl
 go_enter func202,ntmps202;go_wp2;go_ret;exact⟨rfl,rfl⟩
theorem zS{k c:Nat}(h:((k:Int) == (c:Int))=true):k=c:=by
 rw[pX] at h;omega
theorem zE{k c:Nat}(h:((k:Int) == (c:Int))=false):k≠c:=by
 rw[pA] at h;omega
theorem zeC(k:Nat)(w:World):Calls prog 211 #[.int .u8 k] w fun e w'=>e=.returned (.tuple #[.int .i64 (xn k).1,.int .i64 (xn k).2])/\w'=w:=by
 obtain⟨r,hr⟩:=exE (xn k);rw[hr];have Hr:=zj hr;clear hr;go_enter func211,ntmps211;go_wp2_with fail
 ·have hk:=zS (k:=k) (c:=1) (by assumption);have h:=Hr.out;rw[hk] at h;subst h;go_ret2;exact⟨rfl,rfl⟩
 ·have hk:=zS (k:=k) (c:=40) (by assumption);have h:=Hr.out;rw[hk] at h;subst h;go_ret2;exact⟨rfl,rfl⟩
 ·have hk:=zS (k:=k) (c:=67) (by assumption);have h:=Hr.out;rw[hk] at h;subst h;go_ret2;exact⟨rfl,rfl⟩
 ·have hk:=zS (k:=k) (c:=3) (by assumption);have h:=Hr.out;rw[hk] at h;subst h;go_ret2;exact⟨rfl,rfl⟩
 ·have hk:=zS (k:=k) (c:=69) (by assumption);have h:=Hr.out;rw[hk] at h;subst h;go_ret2;exact⟨rfl,rfl⟩
 ·have hk:=zS (k:=k) (c:=28) (by assumption);have h:=Hr.out;rw[hk] at h;subst h;go_ret2;exact⟨rfl,rfl⟩
 ·have hk:=zS (k:=k) (c:=102) (by assumption);have h:=Hr.out;rw[hk] at h;subst h;go_ret2;exact⟨rfl,rfl⟩
 ·have h:=Hr.out;have n1:=zE (k:=k) (c:=1) (by assumption);have n40:=zE (k:=k) (c:=40) (by assumption);have n67:=zE (k:=k) (c:=67) (by assumption);have n3:=zE (k:=k) (c:=3) (by assumption);have n69:=zE (k:=k) (c:=69) (by assumption);have n28:=zE (k:=k) (c:=28) (by assumption);have n102:=zE (k:=k) (c:=102) (by assumption);unfold xn at h;simp only[pX,n1,n40,n67,n3,n69,n28,n102,or_self,wH,if_false] at h;subst h;go_ret2;exact⟨rfl,rfl⟩
theorem zeb(k:Nat)(w:World):Calls prog 212 #[.int .u8 k] w fun e w'=>e=.returned (.int .u8 (xC k:Nat))/\w'=w:=by
 obtain⟨r,hr⟩:=exE (xC k);rw[hr];have Hr:=zj hr;clear hr;go_enter func212,ntmps212;go_wp2_with fail
 ·have hk:=zS (k:=k) (c:=2) (by assumption);have h:=Hr.out;rw[hk] at h;subst h;go_ret;exact⟨rfl,rfl⟩
 ·have hk:=zS (k:=k) (c:=68) (by assumption);have h:=Hr.out;rw[hk] at h;subst h;go_ret;exact⟨rfl,rfl⟩
 ·have hk:=zS (k:=k) (c:=25) (by assumption);have h:=Hr.out;rw[hk] at h;subst h;go_ret;exact⟨rfl,rfl⟩
 ·have hk:=zS (k:=k) (c:=26) (by assumption);have h:=Hr.out;rw[hk] at h;subst h;go_ret;exact⟨rfl,rfl⟩
 ·have hk:=zS (k:=k) (c:=84) (by assumption);have h:=Hr.out;rw[hk] at h;subst h;go_ret;exact⟨rfl,rfl⟩
 ·have hk:=zS (k:=k) (c:=70) (by assumption);have h:=Hr.out;rw[hk] at h;subst h;go_ret;exact⟨rfl,rfl⟩
 ·have hk:=zS (k:=k) (c:=89) (by assumption);have h:=Hr.out;rw[hk] at h;subst h;go_ret;exact⟨rfl,rfl⟩
 ·have hk:=zS (k:=k) (c:=100) (by assumption);have h:=Hr.out;rw[hk] at h;subst h;go_ret;exact⟨rfl,rfl⟩
 ·have hk:=zS (k:=k) (c:=101) (by assumption);have h:=Hr.out;rw[hk] at h;subst h;go_ret;exact⟨rfl,rfl⟩
 ·have hk:=zS (k:=k) (c:=5) (by assumption);have h:=Hr.out;rw[hk] at h;subst h;go_ret;exact⟨rfl,rfl⟩
 ·have hk:=zS (k:=k) (c:=23) (by assumption);have h:=Hr.out;rw[hk] at h;subst h;go_ret;exact⟨rfl,rfl⟩
 ·have hk:=zS (k:=k) (c:=27) (by assumption);have h:=Hr.out;rw[hk] at h;subst h;go_ret;exact⟨rfl,rfl⟩
 ·have hk:=zS (k:=k) (c:=66) (by assumption);have h:=Hr.out;rw[hk] at h;subst h;go_ret;exact⟨rfl,rfl⟩
 ·have hk:=zS (k:=k) (c:=88) (by assumption);have h:=Hr.out;rw[hk] at h;subst h;go_ret;exact⟨rfl,rfl⟩
 ·have hk:=zS (k:=k) (c:=60) (by assumption);have h:=Hr.out;rw[hk] at h;subst h;go_ret;exact⟨rfl,rfl⟩
 ·have hk:=zS (k:=k) (c:=61) (by assumption);have h:=Hr.out;rw[hk] at h;subst h;go_ret;exact⟨rfl,rfl⟩
 ·have hk:=zS (k:=k) (c:=34) (by assumption);have h:=Hr.out;rw[hk] at h;subst h;go_ret;exact⟨rfl,rfl⟩
 ·have hk:=zS (k:=k) (c:=36) (by assumption);have h:=Hr.out;rw[hk] at h;subst h;go_ret;exact⟨rfl,rfl⟩
 ·have hk:=zS (k:=k) (c:=63) (by assumption);have h:=Hr.out;rw[hk] at h;subst h;go_ret;exact⟨rfl,rfl⟩
 ·have hk:=zS (k:=k) (c:=102) (by assumption);have h:=Hr.out;rw[hk] at h;subst h;go_ret;exact⟨rfl,rfl⟩
 ·have hk:=zS (k:=k) (c:=103) (by assumption);have h:=Hr.out;rw[hk] at h;subst h;go_ret;exact⟨rfl,rfl⟩
 ·have hk:=zS (k:=k) (c:=104) (by assumption);have h:=Hr.out;rw[hk] at h;subst h;go_ret;exact⟨rfl,rfl⟩
 ·have h:=Hr.out;have n2:=zE (k:=k) (c:=2) (by assumption);have n68:=zE (k:=k) (c:=68) (by assumption);have n25:=zE (k:=k) (c:=25) (by assumption);have n26:=zE (k:=k) (c:=26) (by assumption);have n84:=zE (k:=k) (c:=84) (by assumption);have n70:=zE (k:=k) (c:=70) (by assumption);have n89:=zE (k:=k) (c:=89) (by assumption);have n100:=zE (k:=k) (c:=100) (by assumption);have n101:=zE (k:=k) (c:=101) (by assumption);have n5:=zE (k:=k) (c:=5) (by assumption);have n23:=zE (k:=k) (c:=23) (by assumption);have n27:=zE (k:=k) (c:=27) (by assumption);have n66:=zE (k:=k) (c:=66) (by assumption);have n88:=zE (k:=k) (c:=88) (by assumption);have n60:=zE (k:=k) (c:=60) (by assumption);have n61:=zE (k:=k) (c:=61) (by assumption);have n34:=zE (k:=k) (c:=34) (by assumption);have n36:=zE (k:=k) (c:=36) (by assumption);have n63:=zE (k:=k) (c:=63) (by assumption);have n102:=zE (k:=k) (c:=102) (by assumption);have n103:=zE (k:=k) (c:=103) (by assumption);have n104:=zE (k:=k) (c:=104) (by assumption);unfold xC at h;simp[n2,n68,n25,n26,n84,n70,n89,n100,n101,n5,n23,n27,n66,n88,n60,n61,n34,n36,n63,n102,n103,n104] at h;subst h;go_ret;exact⟨rfl,rfl⟩
theorem zei(x:Nd)(u:Value)(w:World)(hk:KS w u x.kids)(ht:x.text.length<=1000000000000)(hG:qG w):Calls prog 146 #[um x u] w (qR w (.bool (ku x))):=by
 obtain⟨p,c,rfl⟩:=hk.form;clear hk;obtain⟨r,hr⟩:=exE (ku x);rw[hr];obtain⟨k,t,n,ks,a⟩:=x;unfold ku at hr;simp only at hr ht ⊢;generalize ks.length=m;have hz:=zl w (.cells #[.int .u8 k,.string ⟨t.toArray⟩,.int .i64 n,.slice p m c,.int .i64 a] 60 (0,0));have hA:=zg w (.cells #[.int .u8 k,.string ⟨t.toArray⟩,.int .i64 n,.slice p m c,.int .i64 a] 60 (0,0));have c0:=zd hz 0;have c1:=zd hz 1;have c2:=zd hz 2;have c4:=zd hz 4;have hSp:=zj (fun W (hb:Below w.heap.size w W)=>zea (xC k) t 0 W ht (hG.later hb));have hTk:=zj (zeb k);have hBd:=zj (zeC k);clear hz hG ht;generalize xn k=bd at *;generalize xC k=ti at *;generalize xB ti t=sp at *;obtain⟨lo,hi⟩:=bd;obtain⟨st,se⟩:=sp;simp only at hr hSp hBd;by_cases h1:n<lo
 ·rw[if_pos (.inl h1)] at hr;subst hr;go_enter func146,ntmps146;go_wp2_with fail;refine (hBd.out _).mono ?_;rintro e w1 ⟨rfl,rfl⟩;go_wp2;go_ret;exact⟨rfl,hA⟩
 by_cases h2:hi<n
 ·rw[if_pos (.inr (.inl h2))] at hr;subst hr;go_enter func146,ntmps146;go_wp2_with fail;refine (hBd.out _).mono ?_;rintro e w1 ⟨rfl,rfl⟩;go_wp2;go_ret;exact⟨rfl,hA⟩
 by_cases h3:a<0
 ·rw[if_pos (.inr (.inr (.inl h3)))] at hr;subst hr;go_enter func146,ntmps146;go_wp2_with fail;refine (hBd.out _).mono ?_;rintro e w1 ⟨rfl,rfl⟩;go_wp2;go_ret;exact⟨rfl,hA⟩
 by_cases h4:3000<a
 ·rw[if_pos (.inr (.inr (.inr h4)))] at hr;subst hr;go_enter func146,ntmps146;go_wp2_with fail;refine (hBd.out _).mono ?_;rintro e w1 ⟨rfl,rfl⟩;go_wp2;go_ret;exact⟨rfl,hA⟩
 rw[if_neg (by omega)] at hr;by_cases h0:ti=0
 ·subst h0;rw[if_pos (by rfl)] at hr;replace hr:=zj hr;go_enter func146,ntmps146;go_wp2_with fail;refine (hBd.out _).mono ?_;rintro e w1 ⟨rfl,rfl⟩;go_wp2_with fail;refine (hTk.out _).mono ?_;rintro e w1 ⟨rfl,rfl⟩;go_wp2;go_ret;refine⟨?_,hA⟩;show Ending.returned (.bool t.isEmpty)=.returned (.bool r)
  rw[<-hr.out];cases t <;> rfl
 ·rw[if_neg (by simpa using h0)] at hr;have i0:((ti:Int) == 0)=false:=bfE (by omega)
  replace hr:=zj hr;go_enter func146,ntmps146;go_wp2_with fail;refine (hBd.out _).mono ?_;rintro e w1 ⟨rfl,rfl⟩;go_wp2_with fail;refine (hTk.out _).mono ?_;rintro e w1 ⟨rfl,rfl⟩;go_wp2_with fail;refine (hSp.out _ hA).mono ?_;rintro e w2 ⟨rfl,hb⟩;go_wp2;go_ret;refine⟨?_,zf hA hb⟩;show Ending.returned (.bool ((se:Int) == 0))=.returned (.bool r)
  rw[<-hr.out,show ((se:Int) == 0)=(se == 0) by rw[pP];simp]
section
variable (P:Program) (w:World) (a:Addr) (m:Mode)
theorem Xj:(store a .nilFunc m).run P w=stored P w a .nilFunc m:=run_store P w a _ m rfl
theorem JN(fn:Fn)(first cap:Array Value):(store a (.func fn first cap) m).run P w=stored P w a (.func fn first cap) m:=run_store P w a _ m rfl
end
end
section
open Go.RowKit Lode Go.Shelf
attribute [local go_sem ↓] Go.wp_at_zero Go.wp_at_succ
attribute [local go_sem] Xj JN
open Go.Proofs.Tryz
def jY(w:World)(v:Value)(l:List yT):Prop:=∃(p:Option Addr) (cap:Nat),v=.slice p l.length cap/\(l=[]\/∃(g:Nat) (cs:Array Value) (fr:Nat×Nat),p=some ⟨g,0,none⟩/\w.heap[g]? =some (.cells cs 148 fr)/\∀(j:Nat) (s:yT),l[j]? =some s->∃y,cs[j]? =some y/\Yc w y s)
def Jb(w:World)(v:Value):Option yT->Prop
 |some s=>Yc w v s
 |none=>v=.nilFunc
def ShV(w:World)(v:Value)(h:xl):Prop:=∃fv mv lv,v=.agg #[fv,mv,.int .i64 h.least,lv]/\jY w fv h.first/\Jb w mv h.more/\jY w lv h.last
abbrev shZ:Value:=.agg #[.slice none 0 0,.nilFunc,.int .i64 0,.slice none 0 0]
theorem jY.keep{w w':World}{v:Value}{l:List yT}(h:jY w v l)(hk:∀(B:Nat) cs fr,w.heap[B]? =some (.cells cs 5 fr)->w'.heap[B]? =some (.cells cs 5 fr))(hs:∀(B:Nat) cs fr,w.heap[B]? =some (.cells cs 148 fr)->w'.heap[B]? =some (.cells cs 148 fr)):jY w' v l:=by
 obtain⟨p,cap,hv,h⟩:=h;refine⟨p,cap,hv,h.imp id ?_⟩;rintro ⟨g,cs,fr,hp,hg,hc⟩;exact⟨g,cs,fr,hp,hs _ _ _ hg,fun j s hs=>(hc j s hs).imp fun y hy=>⟨hy.1,hy.2.keep hk⟩⟩
theorem Jb.keep{w w':World}{v:Value}{o:Option yT}(h:Jb w v o)(hk:∀(B:Nat) cs fr,w.heap[B]? =some (.cells cs 5 fr)->w'.heap[B]? =some (.cells cs 5 fr)):Jb w' v o:=by
 cases o with
 |none=>exact h
 |some s=>exact Yc.keep h hk
theorem ShV.keep{w w':World}{v:Value}{s:xl}(h:ShV w v s)(hk:∀(B:Nat) cs fr,w.heap[B]? =some (.cells cs 5 fr)->w'.heap[B]? =some (.cells cs 5 fr))(hs:∀(B:Nat) cs fr,w.heap[B]? =some (.cells cs 148 fr)->w'.heap[B]? =some (.cells cs 148 fr)):ShV w' v s:=by
 obtain⟨fv,mv,lv,hv,h1,h2,h3⟩:=h;exact⟨fv,mv,lv,hv,h1.keep hk hs,h2.keep hk,h3.keep hk hs⟩
def ziN(o:Option xl)(w:World)(e:Ending)(w':World):Prop:=Below w.heap.size w w'/\((∃h v,o=some h/\e=.returned (.tuple #[v,.bool true])/\ShV w' v h)\/(o=none/\e=.returned (.tuple #[shZ,.bool false])))
theorem jY.nil(w:World)(p:Option Addr)(c:Nat):jY w (.slice p 0 c) []:=⟨p,c,rfl,.inl rfl⟩
theorem jY.below{w w':World}{v:Value}{l:List yT}(h:jY w v l)(hb:Below w.heap.size w w'):jY w' v l:=by
 obtain⟨p,cap,hv,h⟩:=h;refine⟨p,cap,hv,h.imp id ?_⟩;rintro ⟨g,cs,fr,hp,hg,hc⟩;exact⟨g,cs,fr,hp,zi hb hg,fun j s hs=>(hc j s hs).imp fun y hy=>⟨hy.1,hy.2.below hb⟩⟩
theorem Jb.below{w w':World}{v:Value}{o:Option yT}(h:Jb w v o)(hb:Below w.heap.size w w'):Jb w' v o:=by
 cases o with
 |none=>exact h
 |some s=>exact Yc.below h hb
theorem ShV.below{w w':World}{v:Value}{s:xl}(h:ShV w v s)(hb:Below w.heap.size w w'):ShV w' v s:=by
 obtain⟨fv,mv,lv,hv,h1,h2,h3⟩:=h;exact⟨fv,mv,lv,hv,h1.below hb,h2.below hb,h3.below hb⟩
theorem jY.own{w:World}{g n c:Nat}{cs:Array Value}{fr:Nat×Nat}{l:List yT}(hl:l.length=n)(hg:w.heap[g]? =some (.cells cs 148 fr))(hc:∀(j:Nat) (s:yT),l[j]? =some s->∃y,cs[j]? =some y/\Yc w y s):jY w (.slice (some ⟨g,0,none⟩) n c) l:=by
 subst hl;exact⟨_,c,rfl,.inr ⟨g,cs,fr,rfl,hg,hc⟩⟩
theorem zhd{W:World}{N:Nat}{a b c d:Value}{T:TypeId}{fr:Nat×Nat}(h:W.heap[N]? =some (.cells #[a,b,c,d] T fr))(x0 x1 x2 x3:Value)(W':World)(e:W'=(((W.setCell ⟨N,0,none⟩ x0).setCell ⟨N,1,none⟩ x1).setCell ⟨N,2,none⟩ x2).setCell ⟨N,3,none⟩ x3):W'.heap[N]? =some (.cells #[x0,x1,x2,x3] T fr)/\(∀g,g≠N->W'.heap[g]? =W.heap[g]?)/\∀B,B<=N->Below B W W':=by
 subst e;refine⟨zo (zo (zo (zo h 0 x0) 1 x1) 2 x2) 3 x3,fun g hg=>(zw hg).trans ((zw hg).trans ((zw hg).trans (zw hg))),fun B hB=>((((pE B W).setCell hB _).setCell hB _).setCell hB _).setCell hB _⟩
theorem qJ(p:Option Addr)(n c:Nat)(w:World):Calls prog 203 #[.slice p n c] w (qR w (.agg #[.slice p n c,.nilFunc,.int .i64 0,.slice none 0 0])):=by
 have z:=zl w (.cells #[.slice none 0 0,.nilFunc,.int .i64 0,.slice none 0 0] 151 (0,0));have y:=zl w (.cells #[.slice p n c,.nilFunc,.int .i64 0,.slice none 0 0] 151 (0,0));have d0:=zd z 0;have f0:=zk z 0;have e0:=zd y 0;have e1:=zd y 1;have e2:=zd y 2;have e3:=zd y 3;have g0:=zk y 0;have g1:=zk y 1;have g2:=zk y 2;have g3:=zk y 3;go_enter func203,ntmps203;go_wp2;refine bodyPost_ret (v:=.agg #[.slice p n c,.nilFunc,.int .i64 0,.slice none 0 0]) (by simp[results,results203,go_sem,e0,e1,e2,e3]) rfl ?_;exact⟨rfl,zg w _⟩
abbrev zhr:List Nat:=[1,2,3,4,5,44,45,46,80,81,82,83,84,66,67,68,69,6,7,23,27,37,38,39,42,43,47,50,51,60,61,65,41,48,63,49,64,24,25,26,28,29,30,31,32,33,102,34,35,36,40,86,87,88,62,70,85,89,100,101,103,104]
theorem kd{k:Nat}{j:Int}(h:((k:Int) == j)=true):k=j.toNat:=by
 rw[pX] at h;omega
theorem kn{k i:Nat}{j:Int}(e:(i:Int)=j)(h:((k:Int) == j)=false):k≠i:=by
 rw[pA] at h;omega
theorem kh{w w':World}{N M L:Nat}{a b c d:Value}{T:TypeId}{o1 o2:Array Value}{T1 T2:TypeId}{f1 f2:Nat×Nat}(h:Below w.heap.size w w')(z:w.heap[N]? =some (.cells #[a,b,c,d] T (0,0)))(z1:w.heap[M]? =some (.cells o1 T1 f1))(z2:w.heap[L]? =some (.cells o2 T2 f2)):w'.heap[N]? =some (.cells #[a,b,c,d] T (0,0))/\w'.heap[M]? =some (.cells o1 T1 f1)/\w'.heap[L]? =some (.cells o2 T2 f2)/\w'.cell? ⟨N,0,none⟩=some a/\w'.cell? ⟨N,1,none⟩=some b/\w'.cell? ⟨N,2,none⟩=some c/\w'.cell? ⟨N,3,none⟩=some d/\w'.frozen? ⟨N,0,none⟩=false/\w'.frozen? ⟨N,1,none⟩=false/\w'.frozen? ⟨N,2,none⟩=false/\w'.frozen? ⟨N,3,none⟩=false:=
 have y:=zi h z
 ⟨y,zi h z1,zi h z2,zd y 0,zd y 1,zd y 2,zd y 3,zk y 0,zk y 1,zk y 2,zk y 3⟩
theorem zgg{W:World}{g:Nat}{fr:Nat×Nat}{y0:Value}{s0:yT}(hg:W.heap[g]? =some (.cells #[y0] 148 fr))(h0:Yc W y0 s0):jY W (.slice (some ⟨g,0,none⟩) 1 1) [s0]:=
 jY.own rfl hg (fun j s hj=>by
  match j,hj with
  |0,rfl=>exact⟨_,rfl,h0⟩)
theorem za3{W:World}{g:Nat}{fr:Nat×Nat}{y0 y1:Value}{s0 s1:yT}(hg:W.heap[g]? =some (.cells #[y0,y1] 148 fr))(h0:Yc W y0 s0)(h1:Yc W y1 s1):jY W (.slice (some ⟨g,0,none⟩) 2 2) [s0,s1]:=
 jY.own rfl hg (fun j s hj=>by
  match j,hj with
  |0,rfl=>exact⟨_,rfl,h0⟩
  |1,rfl=>exact⟨_,rfl,h1⟩)
theorem zlQ{W:World}{g:Nat}{fr:Nat×Nat}{y0 y1 y2:Value}{s0 s1 s2:yT}(hg:W.heap[g]? =some (.cells #[y0,y1,y2] 148 fr))(h0:Yc W y0 s0)(h1:Yc W y1 s1)(h2:Yc W y2 s2):jY W (.slice (some ⟨g,0,none⟩) 3 3) [s0,s1,s2]:=
 jY.own rfl hg (fun j s hj=>by
  match j,hj with
  |0,rfl=>exact⟨_,rfl,h0⟩
  |1,rfl=>exact⟨_,rfl,h1⟩
  |2,rfl=>exact⟨_,rfl,h2⟩)
theorem xG{fn:Func}{A:Act}{k:Nat}{w W:World}{a b c d:Value}{S:xl}(hs:zN k=some S)(hb:Below w.heap.size w W)(y:W.heap[w.heap.size]? =some (.cells #[a,b,c,d] 151 (0,0)))(x0 x1:Value)(n:Int)(x3:Value)
 (hr:∀{W':World},W'.heap[w.heap.size]? =some (.cells #[x0,x1,.int .i64 n,x3] 151 (0,0))->(results fn A.tmps).run prog W'=.ok (.tuple #[.agg #[x0,x1,.int .i64 n,x3],.bool true]) W')
 (h1:∀{W':World},(∀g,g≠w.heap.size->W'.heap[g]? =W.heap[g]?)->jY W' x0 S.first) (h2:∀{W':World},(∀g,g≠w.heap.size->W'.heap[g]? =W.heap[g]?)->Jb W' x1 S.more) (h3:∀{W':World},(∀g,g≠w.heap.size->W'.heap[g]? =W.heap[g]?)->jY W' x3 S.last) (hd:A.defers=[]) (hn:(S.least:Int)=n) :
 bodyPost prog fn (ziN (zN k) w) .ret A ((((W.setCell ⟨w.heap.size,0,none⟩ x0).setCell ⟨w.heap.size,1,none⟩ x1).setCell ⟨w.heap.size,2,none⟩ (.int .i64 n)).setCell ⟨w.heap.size,3,none⟩ x3):=by
 obtain⟨r,hfar,hB⟩:=zhd y x0 x1 (.int .i64 n) x3 _ rfl;subst hn;exact bodyPost_ret (hr r) hd ⟨hb.trans (hB _ (pF _)),.inl ⟨_,_,hs,rfl,_,_,_,rfl,h1 hfar,h2 hfar,h3 hfar⟩⟩
theorem Xi{k:Nat}(hb:(decide (8<=k) && decide (k<=22))=false)(hn:∀j∈zhr,k≠j):zN k=none:=by
 simp only[zhr,wR] at hn;obtain⟨n1,n2,n3,n4,n5,n44,n45,n46,n80,n81,n82,n83,n84,n66,n67,n68,n69,n6,n7,n23,n27,n37,n38,n39,n42,n43,n47,n50,n51,n60,n61,n65,n41,n48,n63,n49,n64,n24,n25,n26,n28,n29,n30,n31,n32,n33,n102,n34,n35,n36,n40,n86,n87,n88,n62,n70,n85,n89,n100,n101,n103,n104,-⟩:=hn;have hl:∀l:List Nat,k∉l->l.contains k=false:=fun l h=>by
  rw[Bool.eq_false_iff];intro e;rw[List.contains_iff_mem] at e;exact h e
 have he:∀j,k≠j->(k == j)=false:=fun j h=>pA.2 h
 unfold zN;rw[hl [1,2,3,4,5,44,45,46,80,81,82,83,84,66,67,68,69] (by simp only[pS,pR,or_false];omega),hl [6,7,23,27,37,38,39,42,43,47,50,51,60,61,65] (by simp only[pS,pR,or_false];omega),hl [41,48,63] (by simp only[pS,pR,or_false];omega),hl [49,64] (by simp only[pS,pR,or_false];omega),he 24 n24,he 25 n25,he 26 n26,he 28 n28,he 29 n29,he 30 n30,he 31 n31,he 32 n32,he 33 n33,he 102 n102,he 34 n34,he 35 n35,he 36 n36,he 40 n40,he 86 n86,he 87 n87,he 88 n88,he 62 n62,he 70 n70,he 85 n85,he 89 n89,he 100 n100,he 101 n101,he 103 n103,he 104 n104,hb];rfl
theorem zbV(k:Nat)(w:World):Calls prog 145 #[.int .u8 k] w (ziN (zN k) w):=by
 go_enter func145,ntmps145;go_wp2_with fail;refine (vO 28 _).mono ?_;rintro e w1 ⟨rfl,rfl⟩;go_wp2_with fail;refine (vO 88 _).mono ?_;rintro e w1 ⟨rfl,rfl⟩;have z:(((w.alloc (.cells #[.slice none 0 0,.nilFunc,.int .i64 0,.slice none 0 0] 151 (0,0))).alloc (ZJ 28)).alloc (ZJ 88)).heap[w.heap.size]? =some (.cells #[.slice none 0 0,.nilFunc,.int .i64 0,.slice none 0 0] 151 (0,0)):=zK [.cells #[.slice none 0 0,.nilFunc,.int .i64 0,.slice none 0 0] 151 (0,0),ZJ 28,ZJ 88] w 0 _ rfl;have z28:(((w.alloc (.cells #[.slice none 0 0,.nilFunc,.int .i64 0,.slice none 0 0] 151 (0,0))).alloc (ZJ 28)).alloc (ZJ 88)).heap[w.heap.size+1]? =some (ZJ 28):=zK [.cells #[.slice none 0 0,.nilFunc,.int .i64 0,.slice none 0 0] 151 (0,0),ZJ 28,ZJ 88] w 1 _ rfl;have z88:(((w.alloc (.cells #[.slice none 0 0,.nilFunc,.int .i64 0,.slice none 0 0] 151 (0,0))).alloc (ZJ 28)).alloc (ZJ 88)).heap[w.heap.size+1+1]? =some (ZJ 88):=zK [.cells #[.slice none 0 0,.nilFunc,.int .i64 0,.slice none 0 0] 151 (0,0),ZJ 28,ZJ 88] w 2 _ rfl;have hb3:Below w.heap.size w (((w.alloc (.cells #[.slice none 0 0,.nilFunc,.int .i64 0,.slice none 0 0] 151 (0,0))).alloc (ZJ 28)).alloc (ZJ 88)):=zQ [.cells #[.slice none 0 0,.nilFunc,.int .i64 0,.slice none 0 0] 151 (0,0),ZJ 28,ZJ 88] w;have hsz:(((w.alloc (.cells #[.slice none 0 0,.nilFunc,.int .i64 0,.slice none 0 0] 151 (0,0))).alloc (ZJ 28)).alloc (ZJ 88)).heap.size=w.heap.size+3:=by simp
 replace hsz:=zj hsz;generalize (((w.alloc (.cells #[.slice none 0 0,.nilFunc,.int .i64 0,.slice none 0 0] 151 (0,0))).alloc (ZJ 28)).alloc (ZJ 88))=w3 at *;have hq:=zj (show w3.heap.size≠w.heap.size from by have:=hsz.out;omega);have c0:=zd z 0;have g0:=zk z 0;have c1:=zd z 1;have g1:=zk z 1;have c2:=zd z 2;have g2:=zk z 2;have c3:=zd z 3;have g3:=zk z 3;have za:=zi (zg w3 (.cells #[.func (.func 204) #[] #[]] 148 (0,0))) z;have ca0:=zd za 0;have ga0:=zk za 0;have ca1:=zd za 1;have ga1:=zk za 1;have ca2:=zd za 2;have ga2:=zk za 2;have ca3:=zd za 3;have ga3:=zk za 3;have zb:=zi (zg w3 (.cells #[.func (.func 204) #[] #[],Qn (w.heap.size+1)] 148 (0,0))) z;have cb0:=zd zb 0;have gb0:=zk zb 0;have cb1:=zd zb 1;have gb1:=zk zb 1;have cb2:=zd zb 2;have gb2:=zk zb 2;have cb3:=zd zb 3;have gb3:=zk zb 3;have zc:=zi (zg w3 (.cells #[.func (.func 208) #[] #[],Qn (w.heap.size+1)] 148 (0,0))) z;have cc0:=zd zc 0;have gc0:=zk zc 0;have cc1:=zd zc 1;have gc1:=zk zc 1;have cc2:=zd zc 2;have gc2:=zk zc 2;have cc3:=zd zc 3;have gc3:=zk zc 3;have ze:=zi (zg w3 (.cells #[.func (.func 208) #[] #[]] 148 (0,0))) z;have ce0:=zd ze 0;have ge0:=zk ze 0;have ce1:=zd ze 1;have ge1:=zk ze 1;have ce2:=zd ze 2;have ge2:=zk ze 2;have ce3:=zd ze 3;have ge3:=zk ze 3;go_wp2_with fail
 all_goals clear ca0 ga0 ca1 ga1 ca2 ga2 ca3 ga3 cb0 gb0 cb1 gb1 cb2 gb2 cb3 gb3 cc0 gc0 cc1 gc1 cc2 gc2 cc3 gc3 ce0 ge0 ce1 ge1 ce2 ge2 ce3 ge3 za zb zc ze c0 g0 c1 g1 c2 g2 c3 g3
 iterate 17
  ·have hs:zN k=some ⟨[],none,0,[]⟩:=by rw[kd (k:=k) (by assumption)];rfl
   refine (qJ _ _ _ _).mono ?_;rintro e w4 ⟨rfl,hb4⟩;have hw4:Below w3.heap.size w3 w4:=hb4;obtain⟨y,y28,y88,d0,d1,d2,d3,f0,f1,f2,f3⟩:=kh hw4 z z28 z88;go_wp2_with fail;exact xG hs (hb3.trans (hw4.mono hb3.size)) y (.slice none 0 0) .nilFunc 0 (.slice none 0 0) (by intro W r;simp[results,results145,go_sem,zd r]) (fun hf=>jY.nil _ _ _) (fun hf=>rfl) (fun hf=>jY.nil _ _ _) rfl rfl
 iterate 15
  ·have hs:zN k=some ⟨[.expr],none,0,[]⟩:=by rw[kd (k:=k) (by assumption)];rfl
   refine (qJ _ _ _ _).mono ?_;rintro e w4 ⟨rfl,hb4⟩;have hw4:Below w3.heap.size w3 w4:=zf (zg w3 (.cells #[.func (.func 204) #[] #[]] 148 (0,0))) hb4;have yr:=zi hb4 (zl w3 (.cells #[.func (.func 204) #[] #[]] 148 (0,0)));obtain⟨y,y28,y88,d0,d1,d2,d3,f0,f1,f2,f3⟩:=kh hw4 z z28 z88;go_wp2_with fail;exact xG hs (hb3.trans (hw4.mono hb3.size)) y (.slice (some ⟨w3.heap.size,0,none⟩) 1 1) .nilFunc 0 (.slice none 0 0) (by intro W r;simp[results,results145,go_sem,zd r]) (fun hf=>zgg ((hf _ hq.out).trans yr) (xY _)) (fun hf=>rfl) (fun hf=>jY.nil _ _ _) rfl rfl
 iterate 3
  ·have hs:zN k=some ⟨[.expr,.expr],none,0,[]⟩:=by rw[kd (k:=k) (by assumption)];rfl
   refine (qJ _ _ _ _).mono ?_;rintro e w4 ⟨rfl,hb4⟩;have hw4:Below w3.heap.size w3 w4:=zf (zg w3 (.cells #[.func (.func 204) #[] #[],.func (.func 204) #[] #[]] 148 (0,0))) hb4;have yr:=zi hb4 (zl w3 (.cells #[.func (.func 204) #[] #[],.func (.func 204) #[] #[]] 148 (0,0)));obtain⟨y,y28,y88,d0,d1,d2,d3,f0,f1,f2,f3⟩:=kh hw4 z z28 z88;go_wp2_with fail;exact xG hs (hb3.trans (hw4.mono hb3.size)) y (.slice (some ⟨w3.heap.size,0,none⟩) 2 2) .nilFunc 0 (.slice none 0 0) (by intro W r;simp[results,results145,go_sem,zd r]) (fun hf=>za3 ((hf _ hq.out).trans yr) (xY _) (xY _)) (fun hf=>rfl) (fun hf=>jY.nil _ _ _) rfl rfl
 iterate 2
  ·have hs:zN k=some ⟨[.expr,.expr,.expr],none,0,[]⟩:=by rw[kd (k:=k) (by assumption)];rfl
   refine (qJ _ _ _ _).mono ?_;rintro e w4 ⟨rfl,hb4⟩;have hw4:Below w3.heap.size w3 w4:=zf (zg w3 (.cells #[.func (.func 204) #[] #[],.func (.func 204) #[] #[],.func (.func 204) #[] #[]] 148 (0,0))) hb4;have yr:=zi hb4 (zl w3 (.cells #[.func (.func 204) #[] #[],.func (.func 204) #[] #[],.func (.func 204) #[] #[]] 148 (0,0)));obtain⟨y,y28,y88,d0,d1,d2,d3,f0,f1,f2,f3⟩:=kh hw4 z z28 z88;go_wp2_with fail;exact xG hs (hb3.trans (hw4.mono hb3.size)) y (.slice (some ⟨w3.heap.size,0,none⟩) 3 3) .nilFunc 0 (.slice none 0 0) (by intro W r;simp[results,results145,go_sem,zd r]) (fun hf=>zlQ ((hf _ hq.out).trans yr) (xY _) (xY _) (xY _)) (fun hf=>rfl) (fun hf=>jY.nil _ _ _) rfl rfl
 ·have hs:zN k=some ⟨[.expr],some (.expr),0,[]⟩:=by rw[kd (k:=k) (by assumption)];rfl
  have hw4:Below w3.heap.size w3 ((w3).alloc (.cells #[.func (.func 204) #[] #[]] 148 (0,0))):=zg w3 _;have yr:((w3).alloc (.cells #[.func (.func 204) #[] #[]] 148 (0,0))).heap[w3.heap.size]? =some (.cells #[.func (.func 204) #[] #[]] 148 (0,0)):=zl w3 _;obtain⟨y,y28,y88,-⟩:=kh hw4 z z28 z88;exact xG hs (hb3.trans (hw4.mono hb3.size)) y (.slice (some ⟨w3.heap.size,0,none⟩) 1 1) (.func (.func 204) #[] #[]) 0 (.slice none 0 0) (by intro W r;simp[results,results145,go_sem,zd r]) (fun hf=>zgg ((hf _ hq.out).trans yr) (xY _)) (fun hf=>(xY _)) (fun hf=>jY.nil _ _ _) rfl rfl
 ·have hs:zN k=some ⟨[],some (.expr),0,[]⟩:=by rw[kd (k:=k) (by assumption)];rfl
  have hw4:Below w3.heap.size w3 (w3):=pE _ _;obtain⟨y,y28,y88,-⟩:=kh hw4 z z28 z88;exact xG hs (hb3.trans (hw4.mono hb3.size)) y (.slice none 0 0) (.func (.func 204) #[] #[]) 0 (.slice none 0 0) (by intro W r;simp[results,results145,go_sem,zd r]) (fun hf=>jY.nil _ _ _) (fun hf=>(xY _)) (fun hf=>jY.nil _ _ _) rfl rfl
 ·have hs:zN k=some ⟨[],some (.one 27),1,[]⟩:=by rw[kd (k:=k) (by assumption)];rfl
  refine (vO 27 _).mono ?_;rintro e w4 ⟨rfl,rfl⟩;have hw4:Below w3.heap.size w3 ((w3).alloc (ZJ 27)):=zg w3 _;have yk:((w3).alloc (ZJ 27)).heap[w3.heap.size]? =some (ZJ 27):=qe _ _ _ (by simp);obtain⟨y,y28,y88,d0,d1,d2,d3,f0,f1,f2,f3⟩:=kh hw4 z z28 z88;go_wp2_with fail;exact xG hs (hb3.trans (hw4.mono hb3.size)) y (.slice none 0 0) (Qn (w3.heap.size)) 1 (.slice none 0 0) (by intro W r;simp[results,results145,go_sem,zd r]) (fun hf=>jY.nil _ _ _) (fun hf=>kg ((hf _ (by have:=hsz.out;simp;omega)).trans yk)) (fun hf=>jY.nil _ _ _) rfl rfl
 ·have hs:zN k=some ⟨[],some (.stmt),0,[]⟩:=by rw[kd (k:=k) (by assumption)];rfl
  have hw4:Below w3.heap.size w3 (w3):=pE _ _;obtain⟨y,y28,y88,-⟩:=kh hw4 z z28 z88;exact xG hs (hb3.trans (hw4.mono hb3.size)) y (.slice none 0 0) (.func (.func 205) #[] #[]) 0 (.slice none 0 0) (by intro W r;simp[results,results145,go_sem,zd r]) (fun hf=>jY.nil _ _ _) (fun hf=>(zjg _)) (fun hf=>jY.nil _ _ _) rfl rfl
 ·have hs:zN k=some ⟨[.expr,.one 28],some (.els),0,[]⟩:=by rw[kd (k:=k) (by assumption)];rfl
  have hw4:Below w3.heap.size w3 ((w3).alloc (.cells #[.func (.func 204) #[] #[],Qn (w.heap.size+1)] 148 (0,0))):=zg w3 _;have yr:((w3).alloc (.cells #[.func (.func 204) #[] #[],Qn (w.heap.size+1)] 148 (0,0))).heap[w3.heap.size]? =some (.cells #[.func (.func 204) #[] #[],Qn (w.heap.size+1)] 148 (0,0)):=zl w3 _;obtain⟨y,y28,y88,-⟩:=kh hw4 z z28 z88;exact xG hs (hb3.trans (hw4.mono hb3.size)) y (.slice (some ⟨w3.heap.size,0,none⟩) 2 2) (.func (.func 206) #[] #[]) 0 (.slice none 0 0) (by intro W r;simp[results,results145,go_sem,zd r]) (fun hf=>za3 ((hf _ hq.out).trans yr) (xY _) (kg ((hf _ (by omega)).trans (y28)))) (fun hf=>(zkS _)) (fun hf=>jY.nil _ _ _) rfl rfl
 ·have hs:zN k=some ⟨[.expr,.one 28],none,0,[]⟩:=by rw[kd (k:=k) (by assumption)];rfl
  refine (qJ _ _ _ _).mono ?_;rintro e w4 ⟨rfl,hb4⟩;have hw4:Below w3.heap.size w3 w4:=zf (zg w3 (.cells #[.func (.func 204) #[] #[],Qn (w.heap.size+1)] 148 (0,0))) hb4;have yr:=zi hb4 (zl w3 (.cells #[.func (.func 204) #[] #[],Qn (w.heap.size+1)] 148 (0,0)));obtain⟨y,y28,y88,d0,d1,d2,d3,f0,f1,f2,f3⟩:=kh hw4 z z28 z88;go_wp2_with fail;exact xG hs (hb3.trans (hw4.mono hb3.size)) y (.slice (some ⟨w3.heap.size,0,none⟩) 2 2) .nilFunc 0 (.slice none 0 0) (by intro W r;simp[results,results145,go_sem,zd r]) (fun hf=>za3 ((hf _ hq.out).trans yr) (xY _) (kg ((hf _ (by omega)).trans (y28)))) (fun hf=>rfl) (fun hf=>jY.nil _ _ _) rfl rfl
 ·have hs:zN k=some ⟨[.expr],some (.one 32),1,[]⟩:=by rw[kd (k:=k) (by assumption)];rfl
  refine (vO 32 _).mono ?_;rintro e w4 ⟨rfl,rfl⟩;have hw4:Below w3.heap.size w3 (((w3).alloc (.cells #[.func (.func 204) #[] #[]] 148 (0,0))).alloc (ZJ 32)):=zf (zg w3 _) (zg _ _);have yr:(((w3).alloc (.cells #[.func (.func 204) #[] #[]] 148 (0,0))).alloc (ZJ 32)).heap[w3.heap.size]? =some (.cells #[.func (.func 204) #[] #[]] 148 (0,0)):=xN _ (zl w3 _);have yk:(((w3).alloc (.cells #[.func (.func 204) #[] #[]] 148 (0,0))).alloc (ZJ 32)).heap[w3.heap.size+1]? =some (ZJ 32):=qe _ _ _ (by simp);obtain⟨y,y28,y88,d0,d1,d2,d3,f0,f1,f2,f3⟩:=kh hw4 z z28 z88;go_wp2_with fail;exact xG hs (hb3.trans (hw4.mono hb3.size)) y (.slice (some ⟨w3.heap.size,0,none⟩) 1 1) (Qn (w3.heap.size+1)) 1 (.slice none 0 0) (by intro W r;simp[results,results145,go_sem,zd r]) (fun hf=>zgg ((hf _ hq.out).trans yr) (xY _)) (fun hf=>kg ((hf _ (by have:=hsz.out;simp;omega)).trans yk)) (fun hf=>jY.nil _ _ _) rfl rfl
 ·have hs:zN k=some ⟨[.pattern,.expr],none,0,[]⟩:=by rw[kd (k:=k) (by assumption)];rfl
  refine (qJ _ _ _ _).mono ?_;rintro e w4 ⟨rfl,hb4⟩;have hw4:Below w3.heap.size w3 w4:=zf (zg w3 (.cells #[.func (.func 207) #[] #[],.func (.func 204) #[] #[]] 148 (0,0))) hb4;have yr:=zi hb4 (zl w3 (.cells #[.func (.func 207) #[] #[],.func (.func 204) #[] #[]] 148 (0,0)));obtain⟨y,y28,y88,d0,d1,d2,d3,f0,f1,f2,f3⟩:=kh hw4 z z28 z88;go_wp2_with fail;exact xG hs (hb3.trans (hw4.mono hb3.size)) y (.slice (some ⟨w3.heap.size,0,none⟩) 2 2) .nilFunc 0 (.slice none 0 0) (by intro W r;simp[results,results145,go_sem,zd r]) (fun hf=>za3 ((hf _ hq.out).trans yr) (JK _) (xY _)) (fun hf=>rfl) (fun hf=>jY.nil _ _ _) rfl rfl
 iterate 2
  ·have hs:zN k=some ⟨[],some (.one 88),0,[.type,.one 28]⟩:=by rw[kd (k:=k) (by assumption)];rfl
   have hw4:Below w3.heap.size w3 ((w3).alloc (.cells #[.func (.func 208) #[] #[],Qn (w.heap.size+1)] 148 (0,0))):=zg w3 _;have yr:((w3).alloc (.cells #[.func (.func 208) #[] #[],Qn (w.heap.size+1)] 148 (0,0))).heap[w3.heap.size]? =some (.cells #[.func (.func 208) #[] #[],Qn (w.heap.size+1)] 148 (0,0)):=zl w3 _;obtain⟨y,y28,y88,-⟩:=kh hw4 z z28 z88;exact xG hs (hb3.trans (hw4.mono hb3.size)) y (.slice none 0 0) (Qn (w.heap.size+1+1)) 0 (.slice (some ⟨w3.heap.size,0,none⟩) 2 2) (by intro W r;simp[results,results145,go_sem,zd r]) (fun hf=>jY.nil _ _ _) (fun hf=>(kg ((hf _ (by omega)).trans (y88)))) (fun hf=>za3 ((hf _ hq.out).trans yr) (uW _) (kg ((hf _ (by omega)).trans (y28)))) rfl rfl
 ·have hs:zN k=some ⟨[.one 28,.one 28],none,0,[]⟩:=by rw[kd (k:=k) (by assumption)];rfl
  refine (qJ _ _ _ _).mono ?_;rintro e w4 ⟨rfl,hb4⟩;have hw4:Below w3.heap.size w3 w4:=zf (zg w3 (.cells #[Qn (w.heap.size+1),Qn (w.heap.size+1)] 148 (0,0))) hb4;have yr:=zi hb4 (zl w3 (.cells #[Qn (w.heap.size+1),Qn (w.heap.size+1)] 148 (0,0)));obtain⟨y,y28,y88,d0,d1,d2,d3,f0,f1,f2,f3⟩:=kh hw4 z z28 z88;go_wp2_with fail;exact xG hs (hb3.trans (hw4.mono hb3.size)) y (.slice (some ⟨w3.heap.size,0,none⟩) 2 2) .nilFunc 0 (.slice none 0 0) (by intro W r;simp[results,results145,go_sem,zd r]) (fun hf=>za3 ((hf _ hq.out).trans yr) (kg ((hf _ (by omega)).trans (y28))) (kg ((hf _ (by omega)).trans (y28)))) (fun hf=>rfl) (fun hf=>jY.nil _ _ _) rfl rfl
 ·have hs:zN k=some ⟨[],some (.way),1,[]⟩:=by rw[kd (k:=k) (by assumption)];rfl
  have hw4:Below w3.heap.size w3 (w3):=pE _ _;obtain⟨y,y28,y88,-⟩:=kh hw4 z z28 z88;exact xG hs (hb3.trans (hw4.mono hb3.size)) y (.slice none 0 0) (.func (.func 209) #[] #[]) 1 (.slice none 0 0) (by intro W r;simp[results,results145,go_sem,zd r]) (fun hf=>jY.nil _ _ _) (fun hf=>(zkR _)) (fun hf=>jY.nil _ _ _) rfl rfl
 ·have hs:zN k=some ⟨[.expr,.one 28,.one 28],none,0,[]⟩:=by rw[kd (k:=k) (by assumption)];rfl
  refine (qJ _ _ _ _).mono ?_;rintro e w4 ⟨rfl,hb4⟩;have hw4:Below w3.heap.size w3 w4:=zf (zg w3 (.cells #[.func (.func 204) #[] #[],Qn (w.heap.size+1),Qn (w.heap.size+1)] 148 (0,0))) hb4;have yr:=zi hb4 (zl w3 (.cells #[.func (.func 204) #[] #[],Qn (w.heap.size+1),Qn (w.heap.size+1)] 148 (0,0)));obtain⟨y,y28,y88,d0,d1,d2,d3,f0,f1,f2,f3⟩:=kh hw4 z z28 z88;go_wp2_with fail;exact xG hs (hb3.trans (hw4.mono hb3.size)) y (.slice (some ⟨w3.heap.size,0,none⟩) 3 3) .nilFunc 0 (.slice none 0 0) (by intro W r;simp[results,results145,go_sem,zd r]) (fun hf=>zlQ ((hf _ hq.out).trans yr) (xY _) (kg ((hf _ (by omega)).trans (y28))) (kg ((hf _ (by omega)).trans (y28)))) (fun hf=>rfl) (fun hf=>jY.nil _ _ _) rfl rfl
 iterate 4
  ·have hs:zN k=some ⟨[.type],none,0,[]⟩:=by rw[kd (k:=k) (by assumption)];rfl
   refine (qJ _ _ _ _).mono ?_;rintro e w4 ⟨rfl,hb4⟩;have hw4:Below w3.heap.size w3 w4:=zf (zg w3 (.cells #[.func (.func 208) #[] #[]] 148 (0,0))) hb4;have yr:=zi hb4 (zl w3 (.cells #[.func (.func 208) #[] #[]] 148 (0,0)));obtain⟨y,y28,y88,d0,d1,d2,d3,f0,f1,f2,f3⟩:=kh hw4 z z28 z88;go_wp2_with fail;exact xG hs (hb3.trans (hw4.mono hb3.size)) y (.slice (some ⟨w3.heap.size,0,none⟩) 1 1) .nilFunc 0 (.slice none 0 0) (by intro W r;simp[results,results145,go_sem,zd r]) (fun hf=>zgg ((hf _ hq.out).trans yr) (uW _)) (fun hf=>rfl) (fun hf=>jY.nil _ _ _) rfl rfl
 ·have hs:zN k=some ⟨[.Kf,.expr],none,0,[]⟩:=by rw[kd (k:=k) (by assumption)];rfl
  refine (qJ _ _ _ _).mono ?_;rintro e w4 ⟨rfl,hb4⟩;have hw4:Below w3.heap.size w3 w4:=zf (zg w3 (.cells #[.func (.func 210) #[] #[],.func (.func 204) #[] #[]] 148 (0,0))) hb4;have yr:=zi hb4 (zl w3 (.cells #[.func (.func 210) #[] #[],.func (.func 204) #[] #[]] 148 (0,0)));obtain⟨y,y28,y88,d0,d1,d2,d3,f0,f1,f2,f3⟩:=kh hw4 z z28 z88;go_wp2_with fail;exact xG hs (hb3.trans (hw4.mono hb3.size)) y (.slice (some ⟨w3.heap.size,0,none⟩) 2 2) .nilFunc 0 (.slice none 0 0) (by intro W r;simp[results,results145,go_sem,zd r]) (fun hf=>za3 ((hf _ hq.out).trans yr) (zhb _) (xY _)) (fun hf=>rfl) (fun hf=>jY.nil _ _ _) rfl rfl
 ·have hs:zN k=some ⟨[],some (.pattern),0,[]⟩:=by rw[kd (k:=k) (by assumption)];rfl
  have hw4:Below w3.heap.size w3 (w3):=pE _ _;obtain⟨y,y28,y88,-⟩:=kh hw4 z z28 z88;exact xG hs (hb3.trans (hw4.mono hb3.size)) y (.slice none 0 0) (.func (.func 207) #[] #[]) 0 (.slice none 0 0) (by intro W r;simp[results,results145,go_sem,zd r]) (fun hf=>jY.nil _ _ _) (fun hf=>(JK _)) (fun hf=>jY.nil _ _ _) rfl rfl
 ·have hs:zN k=some ⟨[],some (.type),0,[.type]⟩:=by rw[kd (k:=k) (by assumption)];rfl
  have hw4:Below w3.heap.size w3 ((w3).alloc (.cells #[.func (.func 208) #[] #[]] 148 (0,0))):=zg w3 _;have yr:((w3).alloc (.cells #[.func (.func 208) #[] #[]] 148 (0,0))).heap[w3.heap.size]? =some (.cells #[.func (.func 208) #[] #[]] 148 (0,0)):=zl w3 _;obtain⟨y,y28,y88,-⟩:=kh hw4 z z28 z88;exact xG hs (hb3.trans (hw4.mono hb3.size)) y (.slice none 0 0) (.func (.func 208) #[] #[]) 0 (.slice (some ⟨w3.heap.size,0,none⟩) 1 1) (by intro W r;simp[results,results145,go_sem,zd r]) (fun hf=>jY.nil _ _ _) (fun hf=>(uW _)) (fun hf=>zgg ((hf _ hq.out).trans yr) (uW _)) rfl rfl
 ·have hs:zN k=some ⟨[],some (.type),0,[]⟩:=by rw[kd (k:=k) (by assumption)];rfl
  have hw4:Below w3.heap.size w3 (w3):=pE _ _;obtain⟨y,y28,y88,-⟩:=kh hw4 z z28 z88;exact xG hs (hb3.trans (hw4.mono hb3.size)) y (.slice none 0 0) (.func (.func 208) #[] #[]) 0 (.slice none 0 0) (by intro W r;simp[results,results145,go_sem,zd r]) (fun hf=>jY.nil _ _ _) (fun hf=>(uW _)) (fun hf=>jY.nil _ _ _) rfl rfl
 ·have hs:zN k=some ⟨[],some (.one 88),1,[]⟩:=by rw[kd (k:=k) (by assumption)];rfl
  have hw4:Below w3.heap.size w3 (w3):=pE _ _;obtain⟨y,y28,y88,-⟩:=kh hw4 z z28 z88;exact xG hs (hb3.trans (hw4.mono hb3.size)) y (.slice none 0 0) (Qn (w.heap.size+1+1)) 1 (.slice none 0 0) (by intro W r;simp[results,results145,go_sem,zd r]) (fun hf=>jY.nil _ _ _) (fun hf=>(kg ((hf _ (by omega)).trans (y88)))) (fun hf=>jY.nil _ _ _) rfl rfl
 ·have hs:zN k=some ⟨[],some (.one 89),1,[]⟩:=by rw[kd (k:=k) (by assumption)];rfl
  refine (vO 89 _).mono ?_;rintro e w4 ⟨rfl,rfl⟩;have hw4:Below w3.heap.size w3 ((w3).alloc (ZJ 89)):=zg w3 _;have yk:((w3).alloc (ZJ 89)).heap[w3.heap.size]? =some (ZJ 89):=qe _ _ _ (by simp);obtain⟨y,y28,y88,d0,d1,d2,d3,f0,f1,f2,f3⟩:=kh hw4 z z28 z88;go_wp2_with fail;exact xG hs (hb3.trans (hw4.mono hb3.size)) y (.slice none 0 0) (Qn (w3.heap.size)) 1 (.slice none 0 0) (by intro W r;simp[results,results145,go_sem,zd r]) (fun hf=>jY.nil _ _ _) (fun hf=>kg ((hf _ (by have:=hsz.out;simp;omega)).trans yk)) (fun hf=>jY.nil _ _ _) rfl rfl
 ·have hs:zN k=some ⟨[],some (.one 88),0,[.type]⟩:=by rw[kd (k:=k) (by assumption)];rfl
  have hw4:Below w3.heap.size w3 ((w3).alloc (.cells #[.func (.func 208) #[] #[]] 148 (0,0))):=zg w3 _;have yr:((w3).alloc (.cells #[.func (.func 208) #[] #[]] 148 (0,0))).heap[w3.heap.size]? =some (.cells #[.func (.func 208) #[] #[]] 148 (0,0)):=zl w3 _;obtain⟨y,y28,y88,-⟩:=kh hw4 z z28 z88;exact xG hs (hb3.trans (hw4.mono hb3.size)) y (.slice none 0 0) (Qn (w.heap.size+1+1)) 0 (.slice (some ⟨w3.heap.size,0,none⟩) 1 1) (by intro W r;simp[results,results145,go_sem,zd r]) (fun hf=>jY.nil _ _ _) (fun hf=>(kg ((hf _ (by omega)).trans (y88)))) (fun hf=>zgg ((hf _ hq.out).trans yr) (uW _)) rfl rfl
 ·have hs:zN k=some ⟨[.type,.expr],none,0,[]⟩:=by rw[kd (k:=k) (by assumption)];rfl
  refine (qJ _ _ _ _).mono ?_;rintro e w4 ⟨rfl,hb4⟩;have hw4:Below w3.heap.size w3 w4:=zf (zg w3 (.cells #[.func (.func 208) #[] #[],.func (.func 204) #[] #[]] 148 (0,0))) hb4;have yr:=zi hb4 (zl w3 (.cells #[.func (.func 208) #[] #[],.func (.func 204) #[] #[]] 148 (0,0)));obtain⟨y,y28,y88,d0,d1,d2,d3,f0,f1,f2,f3⟩:=kh hw4 z z28 z88;go_wp2_with fail;exact xG hs (hb3.trans (hw4.mono hb3.size)) y (.slice (some ⟨w3.heap.size,0,none⟩) 2 2) .nilFunc 0 (.slice none 0 0) (by intro W r;simp[results,results145,go_sem,zd r]) (fun hf=>za3 ((hf _ hq.out).trans yr) (uW _) (xY _)) (fun hf=>rfl) (fun hf=>jY.nil _ _ _) rfl rfl
 ·have hC:=qy k 8 22 w3;generalize hbb:(decide (8<=k) && decide (k<=22))=b at hC;refine hC.mono ?_;rintro e w4 ⟨rfl,hb0⟩;have y:=zi hb0 z;have hb4:=hb3.trans (hb0.mono hb3.size);have hsz4:=zj (show w.heap.size<w4.heap.size by have:=hsz.out;have:=hb0.size;omega);clear z z28 z88 hb3 hb0 hC;cases b with
  |true=>
   have hs22:zN k=some (uK [.expr,.expr]):=(by decide:∀j,j<23->8<=j->zN j=some (uK [.expr,.expr])) k (by rw[pI,pH,pH] at hbb;omega) (by rw[pI,pH,pH] at hbb;omega);go_wp2_with fail;refine (qJ _ _ _ _).mono ?_;rintro e w5 ⟨rfl,hb5⟩;have hw5:Below w4.heap.size w4 w5:=zf (zg w4 _) hb5;have yr:=zi hb5 (zl w4 (.cells #[.func (.func 204) #[] #[],.func (.func 204) #[] #[]] 148 (0,0)));obtain⟨y,-,-,d0,d1,d2,d3,f0,f1,f2,f3⟩:=kh hw5 y y y;go_wp2_with fail;exact xG hs22 (hb4.trans (hw5.mono hb4.size)) y (.slice (some ⟨w4.heap.size,0,none⟩) 2 2) .nilFunc 0 (.slice none 0 0) (by intro W r;simp[results,results145,go_sem,zd r]) (fun hf=>za3 ((hf _ (by have:=hsz4.out;omega)).trans yr) (xY _) (xY _)) (fun hf=>rfl) (fun hf=>jY.nil _ _ _) rfl rfl
  |false=>
   have hn:∀j∈zhr,k≠j:=by
    simp only[zhr,wR]
    repeat' refine And.intro ?_ ?_
    all_goals first|exact kn rfl (by assumption)|(intro x hx;cases hx)
   have hs:zN k=none:=Xi hbb hn;clear hn;obtain⟨-,-,-,d0,d1,d2,d3,f0,f1,f2,f3⟩:=kh bR y y y;go_wp2_with fail;obtain⟨r,hfar,hB⟩:=zhd y (.slice none 0 0) (.nilFunc) (.int .i64 0) (.slice none 0 0) _ rfl;refine bodyPost_ret (v:=.tuple #[shZ,.bool false]) (by simp[results,results145,go_sem,zd r]) rfl ?_;exact⟨hb4.trans (hB _ (pF _)),.inr ⟨hs,rfl⟩⟩
theorem zbU{k:Nat}{h:xl}(e:zN k=some h):h.first.length<=3/\h.last.length<=2/\h.least<=1:=by
 have hm:∀k,k<105->(zN k).all (fun h=>decide (h.first.length<=3) && decide (h.last.length<=2) && decide (h.least<=1))=true:=by decide +kernel
 by_cases hk:k<105
 ·have:=hm k hk;rw[e] at this;simp only[Option.all_some,pI,pH] at this;exact⟨this.1.1,this.1.2,this.2⟩
 ·exfalso;have hn:∀j,j<=104->k≠j:=fun j hj=>by omega
  have h22:(decide (8<=k) && decide (k<=22))=false:=by
   rw[show decide (k<=22)=false from by rw[wT];omega,Bool.and_false]
  rw[Xi h22 (fun j hj=>hn j ((by decide:∀j∈zhr,j<=104) j hj))] at e;cases e
theorem JM:∃a b c,prog.underlying 148=some (.func a b c):=⟨#[60],#[4],false,by kernel_rfl⟩
theorem ZB(w:World)(d:Nat)(fn:Fn)(first cap:Array Value):(Op.equalIn (d+1) 148 (.func fn first cap) .nilFunc).run prog w=.ok false w:=by
 obtain⟨a,b,c,h⟩:=JM;simp[Op.equalIn,run_underlying h]
theorem Qb(w:World)(d:Nat):(Op.equalIn (d+1) 148 .nilFunc .nilFunc).run prog w=.ok true w:=by
 obtain⟨a,b,c,h⟩:=JM;simp[Op.equalIn,run_underlying h]
theorem zfU(w:World)(fn:Fn)(first cap:Array Value):(binOp .neq 148 (.func fn first cap) .nilFunc).run prog w=.ok (.bool true) w:=by
 simp only[binOp];simp[Op.equal,Op.maxDepth,ZB w 9999 fn first cap]
theorem zfT(w:World):(binOp .neq 148 .nilFunc .nilFunc).run prog w=.ok (.bool false) w:=by
 simp only[binOp];simp[Op.equal,Op.maxDepth,Qb w 9999]
end
section
open Go.RowKit Lode Go.Shelf
attribute [local go_sem ↓] Go.wp_at_zero Go.wp_at_succ
attribute [local go_sem] Xj JN
attribute [local go_sem] zfU zfT
open Go.Proofs.Tryz
theorem jY.form{w:World}{v:Value}{l:List yT}(h:jY w v l):∃p cap,v=.slice p l.length cap:=by
 obtain⟨p,cap,hv,_⟩:=h;exact⟨p,cap,hv⟩
theorem jY.at{w:World}{p:Option Addr}{n cap:Nat}{l:List yT}(h:jY w (.slice p n cap) l){j:Nat}{s:yT}(hj:l[j]? =some s):∃g y,p=some ⟨g,0,none⟩/\w.cell? ⟨g,j,none⟩=some y/\Yc w y s:=by
 obtain⟨p',cap',hv,h⟩:=h;cases hv;rcases h with rfl|⟨g,cs,fr,rfl,hg,hc⟩
 ·simp at hj
 ·obtain⟨y,hy,hs⟩:=hc j s hj;exact⟨g,y,rfl,(zd hg j).trans hy,hs⟩
theorem zir(h:xl)(v:Value)(many:Nat)(w:World)(hv:ShV w v h)(h1:h.first.length<=3)(h2:h.last.length<=2)(hm:many<=1000000):Calls prog 147 #[v,.int .i64 many] w (qR w (.bool (h.fits many))):=by
 obtain⟨fv,mv,lv,rfl,hf,hmo,hl⟩:=hv;obtain⟨fp,fc,rfl⟩:=hf.form;obtain⟨lp,lc,rfl⟩:=hl.form;obtain⟨fi,mo,le,la⟩:=h;unfold xl.fits;simp only at h1 h2 hmo ⊢;clear hf hl;generalize fi.length=a at *;generalize la.length=b at *;have hz:=zl w (.cells #[.slice fp a fc,mv,.int .i64 le,.slice lp b lc] 151 (0,0));have hA:=zg w (.cells #[.slice fp a fc,mv,.int .i64 le,.slice lp b lc] 151 (0,0));have c0:=zd hz 0;have c1:=zd hz 1;have c2:=zd hz 2;have c3:=zd hz 3;clear hz;have hw1:=pC ((many:Int)-a) (by omega);have hw2:=pC ((many:Int)-a-b) (by omega);by_cases hle:a+b+le<=many
 ·have hle':(le:Int)<=(many:Int)-a-b:=by omega
  rw[show decide (a+b+le<=many)=true from wE hle,Bool.true_and];cases mo with
  |none=>
   have hmo:mv=.nilFunc:=hmo;subst hmo;go_enter func147,ntmps147;go_wp2;go_ret;refine⟨?_,hA⟩;have e:((many:Int)-a-b == 0)=((none:Option yT).isSome || decide (many=a+b)):=by
    rw[pP];simp;omega
   rw[<-e];rfl
  |some s=>
   obtain⟨f,caps,rfl,_,_⟩:=Yc.use hmo;go_enter func147,ntmps147;go_wp2;go_ret;exact⟨rfl,hA⟩
 ·have hle':¬((le:Int)<=(many:Int)-a-b):=by omega
  rw[show decide (a+b+le<=many)=false from pT hle,Bool.false_and];go_enter func147,ntmps147;go_wp2;go_ret;exact⟨rfl,hA⟩
theorem zj1{h:xl}{many k:Nat}(hf:h.fits many=true)(hk:k<many):∃s,h.at_ k many=some s:=by
 unfold xl.fits at hf;unfold xl.at_;rw[pI,pH,wH,pH] at hf;by_cases h1:k<h.first.length
 ·rw[if_pos h1];exact⟨_,glE h1⟩
 ·rw[if_neg h1];by_cases h2:many<=k+h.last.length
  ·rw[if_pos h2];exact⟨_,glE (by omega)⟩
  ·rw[if_neg h2];rcases hf.2 with h3|h3
   ·exact Option.isSome_iff_exists.1 h3
   ·omega
theorem zlr(h:xl)(v:Value)(k many:Nat)(s:yT)(w:World)(hv:ShV w v h)(h1:h.first.length<=3)(h2:h.last.length<=2)(hm:many<=1000000)(hk:k<many)(hs:h.at_ k many=some s):Calls prog 149 #[v,.int .i64 k,.int .i64 many] w fun e w'=>∃y,e=.returned y/\Yc w' y s/\Below w.heap.size w w':=by
 obtain⟨fv,mv,lv,rfl,hf,hmo,hl⟩:=hv;obtain⟨fp,fc,rfl⟩:=hf.form;obtain⟨lp,lc,rfl⟩:=hl.form;obtain⟨fi,mo,le,la⟩:=h;unfold xl.at_ at hs;simp only at h1 h2 hmo hs hf hl ⊢;obtain⟨a,ha⟩:=exE (fi.length);obtain⟨b,hb⟩:=exE (la.length);rw[ha,hb] at hs;rw[ha] at h1 hf ⊢;rw[hb] at h2 hl ⊢;have hz:=zl w (.cells #[.slice fp a fc,mv,.int .i64 le,.slice lp b lc] 151 (0,0));have hA:=zg w (.cells #[.slice fp a fc,mv,.int .i64 le,.slice lp b lc] 151 (0,0));have c0:=zd hz 0;have c1:=zd hz 1;have c3:=zd hz 3;clear hz;have hw1:=pC ((many:Int)-b) (by omega);by_cases hka:k<a
 ·rw[if_pos hka] at hs;have hka':(k:Int)<(a:Int):=by omega
  have hk0:¬((k:Int)<0):=by omega
  obtain⟨g,y,rfl,hy,hsy⟩:=hf.at hs;have hy2:=zh hA hy;have hSY:=zj (hsy.below hA);clear hf hl hsy hs;go_enter func149,ntmps149;go_wp2;go_ret;exact⟨y,rfl,hSY.out,hA⟩
 ·rw[if_neg hka] at hs;have hka':¬((k:Int)<(a:Int)):=by omega
  by_cases hkb:many<=k+b
  ·rw[if_pos hkb] at hs;have hkb':(many:Int)-b<=(k:Int):=by omega
   obtain⟨j,hj⟩:=exE (k+b-many);rw[hj] at hs;have hw2:IntKind.i64.wrap ((k:Int)-((many:Int)-b))=(j:Int):=by
    rw[show (k:Int)-((many:Int)-b)=(j:Int) by omega];exact pC _ ⟨by omega,by omega⟩
   have hj0:¬((j:Int)<0):=by omega
   have hjb:(j:Int)<(b:Int):=by omega
   obtain⟨g,y,rfl,hy,hsy⟩:=hl.at hs;have hy2:=zh hA hy;have hSY:=zj (hsy.below hA);clear hf hl hsy hs hj;go_enter func149,ntmps149;go_wp2;go_ret;exact⟨y,rfl,hSY.out,hA⟩
  ·rw[if_neg hkb] at hs;have hkb':¬((many:Int)-b<=(k:Int)):=by omega
   subst hs;have hSY:=zj (Yc.below hmo hA);clear hf hl hmo;go_enter func149,ntmps149;go_wp2;go_ret;exact⟨_,rfl,hSY.out,hA⟩
end
section
open Go.RowKit Lode Go.Shelf
attribute [local go_sem ↓] Go.wp_at_zero Go.wp_at_succ
open Go.Proofs.Tryz
theorem VV(v:Value)(f:Nat)(lb:Array Value)(l:List Int)(p:Int->Bool)(w:World)(heg:Enters prog f)(hK:KS w v l)(hn:l.length<=100000)
 (hp:∀W (k:Int),Below w.heap.size w W->k∈l->Calls prog f (#[.int .i64 k] ++ lb) W (qR W (.bool (p k)))) :
 Calls prog 216 #[v,.func (.func f) #[] lb] w (qR w (.int .i64 (YV p l))):=by
 obtain⟨q,c,rfl⟩:=hK.form;obtain⟨n,hn'⟩:∃n,l.length=n:=⟨_,rfl⟩;rw[hn'] at hn hK ⊢;replace heg:=zj heg;replace hK:=zj hK;replace hp:=zj hp;replace hn':=zj hn';go_enter func216,ntmps216;go_wp2;go_loopw [8] (zfx p l w) (fun i _=>n-(intOf i).toNat)
 case atStart=>exact⟨0,rfl,pV _,fun i y h=>absurd h (pY _),pE _ _⟩
 case round=>
  obtain⟨j,rfl,hj,hno,hb⟩:=hrel;replace hno:=zj hno;rw[hn'.out] at hj;by_cases hlt:j<n
  ·have hlt':(j:Int)<(n:Int):=by omega
   have hy:=pC ((j:Int)+1) (by omega);have hjl:j<l.length:=by rw[hn'.out];omega
   have hx:l[j]? =some (l.getD j 0):=by rw[pB,glE hjl];rfl
   obtain⟨g,off,rfl,_,d0⟩:=(hK.out.below hb).at hjl;have hC:=hp.out wr _ hb (pM hx);have heg':=fun W=>heg.out (#[.int .i64 (l.getD j 0)] ++ lb) W
   have HX:=zj (And.intro hx hno.out);clear hx hno;generalize hpx:p (l.getD j 0)=b at *;replace hpx:=zj hpx;generalize l.getD j 0=z at *;go_wp2_with fail;refine hC.mono ?_;rintro e w1 ⟨rfl,hb1⟩;cases b with
   |true=>
    go_wp2;go_ret;refine⟨?_,zf hb hb1⟩;rw[Xx p l j _ HX.out.1 hpx.out HX.out.2];rfl
   |false=>
    go_wp2;go_roundw
    case rel=>
     refine⟨j+1,by simp,by rw[hn'.out];omega,fun i y hi hyy=>?_,zf hb hb1⟩;by_cases e:i=j
     ·subst e;rw[HX.out.1] at hyy;cases hyy;exact hpx.out
     ·exact HX.out.2 i y (by omega) hyy
    case measure=>simp[intOf];omega
  ·have hlt':¬((j:Int)<(n:Int)):=by omega
   go_wp2;go_ret;refine⟨?_,hb⟩;rw[ZM p l (fun i y h=>hno.out i y (by have:=(gtL h);rw[hn'.out] at this;omega) h)];rfl
theorem Jt{α:Type}(p:α->Bool)(l:List α):(∃(j:Nat) (x:α),YV p l=j/\l[j]? =some x/\l.find? p=some x)\/(YV p l= -1/\l.find? p=none):=by
 unfold YV;cases hf:l.findIdx? p with
 |none=>
  refine .inr ⟨rfl,?_⟩;rw[List.findIdx?_eq_none_iff] at hf;rw[List.find?_eq_none];intro x hx e;rw[hf x hx] at e;cases e
 |some j=>
  rw[List.findIdx?_eq_some_iff_getElem] at hf;obtain⟨hj,hp,hno⟩:=hf;refine .inl ⟨j,l[j],rfl,glE hj,?_⟩;rw[List.find?_eq_some_iff_getElem];exact⟨hp,j,hj,rfl,fun i hi=>by have:=hno i hi;simpa using this⟩
theorem zbd{α:Type}(p:α->Bool)(l:List α):decide (0<=YV p l)=l.any p:=by
 rcases Jt p l with⟨j,x,hj,hx,hf⟩|⟨hj,hf⟩
 ·rw[hj,wE (by omega)];symm;rw[gC];exact⟨x,pM hx,List.find?_some hf⟩
 ·rw[hj,pT (by omega)];symm;rw[List.any_eq_false];rw[List.find?_eq_none] at hf;exact hf
theorem zgJ(v:Value)(f:Nat)(lb:Array Value)(l:List Int)(p:Int->Bool)(w:World)(heg:Enters prog f)(hK:KS w v l)(hn:l.length<=100000)
 (hp:∀W (k:Int),Below w.heap.size w W->k∈l->Calls prog f (#[.int .i64 k] ++ lb) W (qR W (.bool (p k)))) :
 Calls prog 214 #[v,.func (.func f) #[] lb] w (qR w (.bool (l.any p))):=by
 have hI:=zj (VV v f lb l p w heg hK hn hp);have he:=zbd p l;rw[<-he];clear he hp heg;obtain⟨q,c,rfl⟩:=hK.form;clear hK;generalize YV p l=z at *;generalize l.length=n at *;go_enter func214,ntmps214;go_wp2_with fail;refine hI.out.mono ?_;rintro e w1 ⟨rfl,hb⟩;go_wp2;go_ret;exact⟨rfl,hb⟩
abbrev fmO(nv iv:Value)(next:Int):Obj:=.cells #[nv,iv,.int .i64 next] 117 (0,0)
abbrev QW(F:Nat):Obj:=.cells #[.pointer (some ⟨F,0,none⟩)] 115 (0,0)
theorem zaI(k:Int)(B F n:Nat)(np:Option Addr)(nc:Nat)(iv:Value)(next:Int)(w:World)(hB:w.heap[B]? =some (QW F))(hF:w.heap[F]? =some (fmO (.slice np n nc) iv next)):
 Calls prog 215 #[.int .i64 k,.pointer (some ⟨B,0,none⟩)] w (qR w (.bool (decide (k<0) || decide ((n:Int)<=k)))):=by
 have c0:=zd hB 0;have c1:=zd hF 0;clear hB hF;by_cases h:k<0
 ·rw[show decide (k<0)=true from wE h,Bool.true_or];go_enter func215,ntmps215;go_wp2;go_ret;exact⟨rfl,pE _ _⟩
 ·rw[show decide (k<0)=false from pT h,Bool.false_or];go_enter func215,ntmps215;go_wp2;go_ret;exact⟨rfl,pE _ _⟩
theorem zaH(k:Int)(B F:Nat)(nv iv:Value)(next:Int)(l:List Nd)(kv:List Value)(w:World)(hB:w.heap[B]? =some (QW F))(hF:w.heap[F]? =some (fmO nv iv next))(hN:NS w nv l kv)(hk:0<=k/\k<(l.length:Int)):
 Calls prog 217 #[.int .i64 k,.pointer (some ⟨B,0,none⟩)] w (qR w (.bool (zt l k == 65))):=by
 obtain⟨j,rfl⟩:=pJ hk.1;have hjl:j<l.length:=by omega
 obtain⟨np,nc,rfl⟩:=hN.form;obtain⟨x,hx⟩:∃x,l[j]? =some x:=⟨_,glE hjl⟩;obtain⟨g,off,u,rfl,hA⟩:=hN.at hx;have a0:=hA.c0;have hka:zt l (j:Int)=x.kind:=by
  unfold zt;rw[pO,hx];rfl
 rw[hka];have c0:=zd hB 0;have c1:=zd hF 0;generalize hn:l.length=n at *;have hj1:(j:Int)<(n:Int):=by omega
 have hj0:¬((j:Int)<0):=by omega
 clear hB hF hN hA hx hka hk;go_enter func217,ntmps217;go_wp2;go_ret;refine⟨?_,pE _ _⟩;rw[show (x.kind == 65)=((x.kind:Int) == 65) by rw[pP];simp;omega];rfl
theorem zis{p:Int->Bool}{l:List Int}:decide (l.length<=l.findIdx p+1)=(decide (YV p l<0) || (YV p l == (l.length:Int)-1)):=by
 unfold YV;cases hf:l.findIdx? p with
 |none=>
  rw[List.findIdx?_eq_none_iff_findIdx_eq] at hf;rw[hf];simp
 |some j=>
  have hj:l.findIdx p=j:=by
   rw[List.findIdx?_eq_some_iff_findIdx_eq] at hf;exact hf.2
  have hjl:j<l.length:=by
   rw[List.findIdx?_eq_some_iff_findIdx_eq] at hf;exact hf.1
  rw[hj,pP];simp;omega
theorem zbS(x:Nd)(u:Value)(F:Nat)(nv iv:Value)(next:Int)(l:List Nd)(kv:List Value)(w:World)(hF:w.heap[F]? =some (fmO nv iv next))(hN:NS w nv l kv)(hk:KS w u x.kids)(hkl:x.kids.length<=100000)(h255:∀y∈l,y.kind<=255):
 Calls prog 148 #[.pointer (some ⟨F,0,none⟩),um x u] w (qR w (.bool (xF l x))):=by
 obtain⟨r,hr⟩:=exE (xF l x);rw[hr];unfold xF at hr;obtain⟨up,uc,rfl⟩:=hk.form;obtain⟨k,t,n,ks,a⟩:=x;simp only at hr hkl hk ⊢;obtain⟨m,hm⟩:=exE (ks.length);rw[hm] at hk hkl ⊢;obtain⟨np,nc,rfl⟩:=hN.form;have hz0:=zl w (QW F);have hA0:=zg w (QW F);have hz1:=zl (w.alloc (QW F)) (.cells #[.int .u8 k,.string ⟨t.toArray⟩,.int .i64 n,.slice up m uc,.int .i64 a] 60 (0,0));have hA1:=zg (w.alloc (QW F)) (.cells #[.int .u8 k,.string ⟨t.toArray⟩,.int .i64 n,.slice up m uc,.int .i64 a] 60 (0,0));have hz0':=zi hA1 hz0;have hAA:=zf hA0 hA1;have hF1:=zi hAA hF;have hN1:=hN.below hAA;have hk1:=hk.below hAA;clear hz0 hF hN hk hA0 hA1;have hsz:(w.alloc (QW F)).heap.size=w.heap.size+1:=by simp
 rw[hsz] at hz1;have hCF:=zj (zgJ (.slice up m uc) 215 #[.pointer (some ⟨w.heap.size,0,none⟩)] ks (fun k=>decide (k<0) || decide ((l.length:Int)<=k)) _ (enters_of (P:=prog) func215 (by kernel_rfl) rfl) hk1 (by omega) (fun W k hb _=>zaI k w.heap.size F l.length np nc iv next W (zi hb hz0') (zi hb hF1)));have hIX:=zj (fun (hin:∀k∈ks,0<=k/\k<(l.length:Int)) (W0:World) (hb0:Below (((w.alloc (QW F)).alloc (.cells #[.int .u8 k,.string ⟨t.toArray⟩,.int .i64 n,.slice up m uc,.int .i64 a] 60 (0,0)))).heap.size _ W0)=>VV (.slice up m uc) 217 #[.pointer (some ⟨w.heap.size,0,none⟩)] ks (fun k=>zt l k == 65) W0 (enters_of (P:=prog) func217 (by kernel_rfl) rfl) (hk1.below hb0) (by omega) (fun W k hb hkm=>zaH k w.heap.size F (.slice np l.length nc) iv next l kv W (zi hb (zi hb0 hz0')) (zi hb (zi hb0 hF1)) ((hN1.below hb0).below hb) (hin k hkm)));have hmf:∀(fn:Fn) (first cap:Array Value) (w:World),(Instr.makeFunc fn first cap).run prog w=.ok (.func fn first cap) w:=fun _ _ _ _=>rfl
 generalize hW0:((w.alloc (QW F)).alloc (.cells #[.int .u8 k,.string ⟨t.toArray⟩,.int .i64 n,.slice up m uc,.int .i64 a] 60 (0,0)))=w0 at *;have c1:=zd hz1 0;have c2:=zd hz1 2;have c3:=zd hz1 3;have HN:=zj hN1;have HK:=zj hk1;have HM:=zj hm;have HR:=zj hr;have HF:=zj hF1;have HZ0:=zj hz0';have HZ1:=zj hz1;clear hN1 hk1 hm hr hF1 hz0' hz1 hsz;go_enter func148,ntmps148;go_wp2_with fail;refine hCF.out.mono ?_;rintro e w1 ⟨rfl,hb1⟩;have hB1:=zj (zf hAA hb1);have N1:=zj (HN.out.below hb1);have K1:=zj (HK.out.below hb1);have F1:=zj (zi hb1 HF.out);have P1:=zj (zi hb1 HZ0.out);have X1:=zj (zi hb1 HZ1.out);have IX:=zj (fun hin=>hIX.out hin w1 hb1);clear c1 c2 c3 hCF hIX HN HK HF HZ0 HZ1 hb1 hAA;have c1:=zd X1.out 0;have c2:=zd X1.out 2;have c3:=zd X1.out 3;cases hany:(ks.any fun k=>decide (k<0) || decide ((l.length:Int)<=k)) with
 |true=>
  have hr2:false=r:=by
   have:=HR.out;rw[hany,if_pos rfl] at this;exact this
  subst hr2;go_wp2;go_ret;exact⟨rfl,hB1.out⟩
 |false=>
  have hin:∀k∈ks,0<=k/\k<(l.length:Int):=by
   rw[List.any_eq_false] at hany;intro k hk;have:=hany k hk;simp at this;omega
  have hr2:(if k == 28 then n == 0 || (match ks.getLast? with|some k=>zW (zt l k)|none=>false) else if k == 29 then decide (ks.length<=3) else if k == 35 then decide (ks.length<=(ks.findIdx fun k=>zt l k == 65)+1) else true)=r:=by
   have:=HR.out;rw[hany,if_neg (by decide)] at this;exact this
  have HIN:=zj hin;clear hin hany HR;by_cases h28:k=28
  ·subst h28;have hr3:(n == 0 || (match ks.getLast? with|some k=>zW (zt l k)|none=>false))=r:=hr2;by_cases hn0:n=0
   ·subst hn0;have hr4:true=r:=hr3;subst hr4;clear hr2 hr3;go_wp2_with fail;go_quiet (fail);go_wp2;go_ret;exact⟨rfl,ye hB1.out _⟩
   ·have hn1:(n == 0)=false:=bfE hn0
    rw[hn1,Bool.false_or] at hr3;by_cases hm0:m=0
    ·subst hm0;have hr4:false=r:=by
      have hks:ks=[]:=pU HM.out;rw[hks] at hr3;exact hr3
     subst hr4;clear hr2 hr3;go_wp2_with fail;go_quiet (fail);go_wp2;go_ret;exact⟨rfl,ye hB1.out _⟩
    ·obtain⟨q,hq⟩:∃q,m=q+1:=⟨m-1,by omega⟩;subst hq;have hql:q<ks.length:=by rw[HM.out];omega
     have hlast:ks.getLast? =some (ks.getD q 0):=by
      rw[List.getLast?_eq_getElem?,HM.out,Nat.add_sub_cancel,pB,glE hql];rfl
     rw[hlast] at hr3;simp only at hr3;have hzv:=HIN.out (ks.getD q 0) (by rw[pB,glE hql];exact wF hql);obtain⟨g,off,rfl,_,d0⟩:=K1.out.at hql;generalize ks.getD q 0=z at *;obtain⟨zn,rfl⟩:=pJ hzv.1;have hzl:zn<l.length:=by omega
     obtain⟨x9,hx9⟩:∃x,l[zn]? =some x:=⟨_,glE hzl⟩;obtain⟨g9,off9,u9,rfl,hA⟩:=N1.out.at hx9;have hr4:zW x9.kind=r:=by
      rw[<-hr3];unfold zt;rw[pO,hx9];rfl
     have h9:=h255 x9 (pM hx9);have hw:IntKind.i64.wrap (q:Int)=(q:Int):=pC _ ⟨by omega,by omega⟩;have hq0:¬((q:Int)<0):=by omega
     have hqm:(q:Int)<(q:Int)+1:=by omega
     have hz0:¬((zn:Int)<0):=by omega
     have hzl':(zn:Int)<(l.length:Int):=by omega
     have hm1:(0:Int)<(q:Int)+1:=by omega
     have hEx:=zj (fun W (hb:Below w1.heap.size w1 W)=>YM x9 u9 W (hA.kids.below hb) h9);have hform:=hA.kids.form;obtain⟨p9,cp9,rfl⟩:=hform;obtain⟨y0,y1,y2,y3,y4⟩:=x9;have a0:=hA.c0;have a1:=hA.c1;have a2:=hA.c2;have a3:=hA.c3;have a4:=hA.c4;simp only at a0 a1 a2 a3 a4 hr4 hEx;generalize y3.length=n9 at *;have hS:∀W,Cl w1.drew W->W.cell? ⟨w.heap.size+1,2,none⟩=some (.int .i64 n)/\W.cell? ⟨w.heap.size+1,3,none⟩=some (.slice (some ⟨g,off,none⟩) (q+1) uc)/\W.cell? ⟨w.heap.size,0,none⟩=some (.pointer (some ⟨F,0,none⟩))/\W.cell? ⟨F,0,none⟩=some (.slice (some ⟨g9,off9,none⟩) l.length nc)/\W.cell? ⟨g,off+q,none⟩=some (.int .i64 zn)/\W.cell? ⟨g9,off9+zn*5,none⟩=some (.int .u8 y0)/\W.cell? ⟨g9,off9+zn*5+1,none⟩=some (.string ⟨y1.toArray⟩)/\W.cell? ⟨g9,off9+zn*5+2,none⟩=some (.int .i64 y2)/\W.cell? ⟨g9,off9+zn*5+3,none⟩=some (.slice p9 n9 cp9)/\W.cell? ⟨g9,off9+zn*5+4,none⟩=some (.int .i64 y4):=fun W h=>by
      have hb:=zf (pE w1.heap.size w1).drew h.below;exact⟨zh hb (zd X1.out 2),zh hb (zd X1.out 3),zh hb (zd P1.out 0),zh hb (zd F1.out 0),zh hb d0,zh hb a0,zh hb a1,zh hb a2,zh hb a3,zh hb a4⟩
     clear hr2 hr3 hA hx9 hlast IX d0 a0 a1 a2 a3 a4;go_wp2_with fail;clear c1 c2 c3;refine Xk [(0,0),(1,1),(2,0),(3,0),(4,0),(5,0),(6,0),(7,1),(8,0),(9,0),(10,0),(11,1),(12,0),(13,1),(14,0),(15,0),(16,0),(17,1),(18,0),(19,1),(20,2),(21,0),(22,0),(23,0)] ?_;refine XQ ?_;refine ya rfl rfl (fun K hK W hW=>?_);go_simp;have hbW:=zf (pE w1.heap.size w1).drew hW.below;refine (hEx.out W hbW).mono ?_;rintro e w4 ⟨rfl,hb4⟩;go_simp;refine⟨jm.2 hb4,hK _ _ ?_⟩;clear hK K
     try simp only[Act.put,yC,yA,yB]
     clear hS;have hS:∀W,Cl w4 W->True/\True:=fun _ _=>⟨trivial,trivial⟩
     refine XQ ?_;refine zC fun W' hW'=>?_
     go_wp2;go_ret;refine⟨?_,zf (zf (zf hB1.out hbW) hb4) hW'.below⟩;rw[<-hr4];rfl
  ·have i28:((k:Int) == 28)=false:=bfE (by omega)
   by_cases h29:k=29
   ·subst h29;have hr3:decide (ks.length<=3)=r:=hr2;rw[HM.out] at hr3;have hr4:decide ((m:Int)<=3)=r:=by rw[<-hr3];exact decide_eq_decide.2 (by omega)
    clear hr2 hr3;go_wp2;go_ret;exact⟨by rw[<-hr4];rfl,hB1.out⟩
   ·have i29:((k:Int) == 29)=false:=bfE (by omega)
    by_cases h35:k=35
    ·subst h35;have hr3:decide (ks.length<=(ks.findIdx fun k=>zt l k == 65)+1)=r:=hr2;rw[zis,HM.out] at hr3;have IX2:=zj (IX.out HIN.out);generalize hix:YV (fun k=>zt l k == 65) ks=ix at *;clear hr2 IX;have hw:=pC ((m:Int)-1) (by omega);go_wp2_with fail;refine IX2.out.mono ?_;rintro e w2 ⟨rfl,hb2⟩;by_cases hx0:ix<0
     ·rw[show decide (ix<0)=true from wE hx0,Bool.true_or] at hr3;subst hr3;go_wp2;go_ret;exact⟨rfl,zf hB1.out hb2⟩
     ·rw[show decide (ix<0)=false from pT hx0,Bool.false_or] at hr3;go_wp2;go_ret;refine⟨?_,zf hB1.out hb2⟩;show Ending.returned (.bool (decide (ix<0) || r))=_
      rw[pT (by omega),Bool.false_or]
    ·have i35:((k:Int) == 35)=false:=bfE (by omega)
     have hr3:true=r:=by
      rw[<-hr2,if_neg (by simpa using h28),if_neg (by simpa using h29),if_neg (by simpa using h35)]
     subst hr3;clear hr2;go_wp2;go_ret;exact⟨rfl,hB1.out⟩
end
end Go.Proofs.YtcagibbaeageoaaGreatDoor
