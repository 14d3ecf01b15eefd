import Derived.Test.YtcagibbaeageoaaGreatDoorSI
set_option maxRecDepth 100000
set_option maxHeartbeats 0
set_option linter.all false
variable{W w w':Go.World}{v y0 y1:Go.Value}{s s0 s1:Lode.xf}{j:Int}{N c g k:Nat}{l:List Lode.xf}{o:Option Lode.xf}{cs o1 o2:Array Go.Value}{f1 f2 fr:Nat×Nat}{T T1 T2:Go.TypeId}{fn:Go.Func}{A:Go.Act}{S h:Lode.xA}{α:Type}{p:Int->Bool}
namespace Go.Proofs.YtcagibbaeageoaaGreatDoor
section
open Go.RowKit Lode Go.Shelf
attribute [local go_sem ↓] wp_at_zero wp_at_succ
open Go.Proofs.Tryz
def qY(k a b:Nat)(w:World):Calls prog 150 #[.int .u8 k,.int .u8 a,.int .u8 b] w (ue w (.bool (decide (a<=k) && decide (k<=b)))):=by
 by_cases h1:a<=k
 ·have sa:(a:Int)<=(k:Int):=by omega
  by_cases h2:k<=b
  ·have Gm:(k:Int)<=(b:Int):=by omega
   go_enter func150,ntmps150;go_wp2;go_ret;exact⟨by simp[h1,h2],pG _ _⟩
  ·have Gm:¬((k:Int)<=(b:Int)):=by omega
   go_enter func150,ntmps150;go_wp2;go_ret;exact⟨by simp[h1,h2],pG _ _⟩
 ·have sa:¬((a:Int)<=(k:Int)):=by omega
  go_enter func150,ntmps150;go_wp2;go_ret;exact⟨by simp[h1],pG _ _⟩
def zaK(x:Nd)(u:Value)(w:World)(hk:KS w u x.kz)(hx:x.kind<=255):Calls prog 207 #[YH x u] w (ue w (.bool (xf.is .pattern x.kind))):=by
 obtain⟨p,c,rfl⟩:=hk.form;clear hk;obtain⟨k,t,n,ks,a⟩:=x;simp only at hx ⊢;generalize ks.length=m at *;have hz:=zk w (.cells #[.int .u8 k,.string ⟨t.toArray⟩,.int .i64 n,.slice p m c,.int .i64 a] 60 (0,0));have hA:=zf w (.cells #[.int .u8 k,.string ⟨t.toArray⟩,.int .i64 n,.slice p m c,.int .i64 a] 60 (0,0));have mD:w.heap.size<(w.alloc (.cells #[.int .u8 k,.string ⟨t.toArray⟩,.int .i64 n,.slice p m c,.int .i64 a] 60 (0,0))).heap.size:=by simp
 have c0:=zd hz 0;clear hz;go_enter func207,ntmps207;go_wp2_with fail;refine (qY k 66 70 _).mono ?_;rintro e w1 ⟨rfl,hb⟩;go_wp2;go_ret;exact⟨rfl,zg hA hb⟩
def zf4(x:Nd)(u:Value)(w:World)(hk:KS w u x.kz)(hx:x.kind<=255):Calls prog 208 #[YH x u] w (ue w (.bool (xf.is .type x.kind))):=by
 obtain⟨p,c,rfl⟩:=hk.form;clear hk;obtain⟨k,t,n,ks,a⟩:=x;simp only at hx ⊢;generalize ks.length=m at *;have hz:=zk w (.cells #[.int .u8 k,.string ⟨t.toArray⟩,.int .i64 n,.slice p m c,.int .i64 a] 60 (0,0));have hA:=zf w (.cells #[.int .u8 k,.string ⟨t.toArray⟩,.int .i64 n,.slice p m c,.int .i64 a] 60 (0,0));have mD:w.heap.size<(w.alloc (.cells #[.int .u8 k,.string ⟨t.toArray⟩,.int .i64 n,.slice p m c,.int .i64 a] 60 (0,0))).heap.size:=by simp
 have c0:=zd hz 0;clear hz;go_enter func208,ntmps208;go_wp2_with fail;refine (qY k 80 87 _).mono ?_;rintro e w1 ⟨rfl,hb⟩;go_wp2;go_ret;exact⟨rfl,zg hA hb⟩
def zit(x:Nd)(u:Value)(w:World)(hk:KS w u x.kz)(hx:x.kind<=255):Calls prog 209 #[YH x u] w (ue w (.bool (xf.is .way x.kind))):=by
 obtain⟨p,c,rfl⟩:=hk.form;clear hk;obtain⟨k,t,n,ks,a⟩:=x;simp only at hx ⊢;generalize ks.length=m at *;have hz:=zk w (.cells #[.int .u8 k,.string ⟨t.toArray⟩,.int .i64 n,.slice p m c,.int .i64 a] 60 (0,0));have hA:=zf w (.cells #[.int .u8 k,.string ⟨t.toArray⟩,.int .i64 n,.slice p m c,.int .i64 a] 60 (0,0));have mD:w.heap.size<(w.alloc (.cells #[.int .u8 k,.string ⟨t.toArray⟩,.int .i64 n,.slice p m c,.int .i64 a] 60 (0,0))).heap.size:=by simp
 have c0:=zd hz 0;clear hz;go_enter func209,ntmps209;go_wp2_with fail;refine (qY k 63 65 _).mono ?_;rintro e w1 ⟨rfl,hb⟩;go_wp2;go_ret;exact⟨rfl,zg hA hb⟩
def zf8(x:Nd)(u:Value)(w:World)(hk:KS w u x.kz)(hx:x.kind<=255):Calls prog 100 #[YH x u] w (ue w (.bool (xf.is .item x.kind))):=by
 obtain⟨p,c,rfl⟩:=hk.form;clear hk;obtain⟨k,t,n,ks,a⟩:=x;simp only at hx ⊢;generalize ks.length=m at *;have hz:=zk w (.cells #[.int .u8 k,.string ⟨t.toArray⟩,.int .i64 n,.slice p m c,.int .i64 a] 60 (0,0));have hA:=zf w (.cells #[.int .u8 k,.string ⟨t.toArray⟩,.int .i64 n,.slice p m c,.int .i64 a] 60 (0,0));have mD:w.heap.size<(w.alloc (.cells #[.int .u8 k,.string ⟨t.toArray⟩,.int .i64 n,.slice p m c,.int .i64 a] 60 (0,0))).heap.size:=by simp
 have c0:=zd hz 0;clear hz;go_enter func100,ntmps100;go_wp2_with fail;refine (qY k 100 104 _).mono ?_;rintro e w1 ⟨rfl,hb⟩;go_wp2;go_ret;exact⟨rfl,zg hA hb⟩
def zf9(x:Nd)(u:Value)(w:World)(hk:KS w u x.kz)(hx:x.kind<=255):Calls prog 206 #[YH x u] w (ue w (.bool (xf.is .els x.kind))):=by
 obtain⟨p,c,rfl⟩:=hk.form;clear hk;obtain⟨k,t,n,ks,a⟩:=x;simp only at hx ⊢;generalize ks.length=m at *;have hz:=zk w (.cells #[.int .u8 k,.string ⟨t.toArray⟩,.int .i64 n,.slice p m c,.int .i64 a] 60 (0,0));have hA:=zf w (.cells #[.int .u8 k,.string ⟨t.toArray⟩,.int .i64 n,.slice p m c,.int .i64 a] 60 (0,0));have mD:w.heap.size<(w.alloc (.cells #[.int .u8 k,.string ⟨t.toArray⟩,.int .i64 n,.slice p m c,.int .i64 a] 60 (0,0))).heap.size:=by simp
 have c0:=zd hz 0;clear hz;by_cases h1:k=28
 ·subst h1;go_enter func206,ntmps206;go_wp2;go_ret;exact⟨rfl,hA⟩
 ·have i1:((k:Int) == 28)=false:=bfE (by omega)
  have e2:((k:Int) == 29)=(k == 29):=by rw[pP];simp;omega
  go_enter func206,ntmps206;go_wp2;go_ret;refine⟨?_,hA⟩;simp[xf.is,h1]
  try omega
def zee(x:Nd)(u:Value)(w:World)(hk:KS w u x.kz)(hx:x.kind<=255):Calls prog 210 #[YH x u] w (ue w (.bool (xf.is .jx x.kind))):=by
 obtain⟨p,c,rfl⟩:=hk.form;clear hk;obtain⟨k,t,n,ks,a⟩:=x;simp only at hx ⊢;generalize ks.length=m at *;have hz:=zk w (.cells #[.int .u8 k,.string ⟨t.toArray⟩,.int .i64 n,.slice p m c,.int .i64 a] 60 (0,0));have hA:=zf w (.cells #[.int .u8 k,.string ⟨t.toArray⟩,.int .i64 n,.slice p m c,.int .i64 a] 60 (0,0));have mD:w.heap.size<(w.alloc (.cells #[.int .u8 k,.string ⟨t.toArray⟩,.int .i64 n,.slice p m c,.int .i64 a] 60 (0,0))).heap.size:=by simp
 have c0:=zd hz 0;clear hz;by_cases h1:k=5
 ·subst h1;go_enter func210,ntmps210;go_wp2;go_ret;exact⟨rfl,hA⟩
 ·have i1:((k:Int) == 5)=false:=bfE (by omega)
  have e2:((k:Int) == 23)=(k == 23):=by rw[pP];simp;omega
  go_enter func210,ntmps210;go_wp2;go_ret;refine⟨?_,hA⟩;simp[xf.is,h1]
  try omega
def Qn(x:Nd)(u:Value)(w:World)(hk:KS w u x.kz)(hx:x.kind<=255):Calls prog 204 #[YH x u] w (ue w (.bool (xf.is .expr x.kind))):=by
 obtain⟨p,c,rfl⟩:=hk.form;clear hk;obtain⟨k,t,n,ks,a⟩:=x;simp only at hx ⊢;generalize ks.length=m at *;have hz:=zk w (.cells #[.int .u8 k,.string ⟨t.toArray⟩,.int .i64 n,.slice p m c,.int .i64 a] 60 (0,0));have hA:=zf w (.cells #[.int .u8 k,.string ⟨t.toArray⟩,.int .i64 n,.slice p m c,.int .i64 a] 60 (0,0));have mD:w.heap.size<(w.alloc (.cells #[.int .u8 k,.string ⟨t.toArray⟩,.int .i64 n,.slice p m c,.int .i64 a] 60 (0,0))).heap.size:=by simp
 unfold xf.is zz;simp only;have hC:=qY k 1 51;generalize rO:(decide (1<=k) && decide (k<=51))=b at *;have c0:=λW (h:Below _ _ W)=>zd (zi h hz) 0
 clear hz;cases b with
 |false=>
  go_enter func204,ntmps204;have c1:=c0 _ bR;go_wp2_with fail;refine (hC _).mono ?_;rintro e w1 ⟨rfl,hb⟩;go_wp2;go_ret;exact⟨rfl,zg hA hb⟩
 |true=>
  by_cases Gp:k=27
  ·subst Gp;go_enter func204,ntmps204;have c1:=c0 _ bR;go_wp2_with fail;refine (hC _).mono ?_;rintro e w1 ⟨rfl,hb⟩;have c2:=c0 _ hb;go_wp2;go_ret;exact⟨rfl,zg hA hb⟩
  ·by_cases Gr:k=32
   ·subst Gr;go_enter func204,ntmps204;have c1:=c0 _ bR;go_wp2_with fail;refine (hC _).mono ?_;rintro e w1 ⟨rfl,hb⟩;have c2:=c0 _ hb;go_wp2;go_ret;exact⟨rfl,zg hA hb⟩
   ·have i27:((k:Int) == 27)=false:=bfE (by omega)
    have i32:((k:Int) == 32)=false:=bfE (by omega)
    have e28:((k:Int) == 28)=(k == 28):=by rw[pP];simp;omega
    go_enter func204,ntmps204;have c1:=c0 _ bR;go_wp2_with fail;refine (hC _).mono ?_;rintro e w1 ⟨rfl,hb⟩;have c2:=c0 _ hb;go_wp2;go_ret;refine⟨?_,zg hA hb⟩;simp[bne,i27,i32,e28,Gp,Gr]
def zf5(x:Nd)(u:Value)(w:World)(hk:KS w u x.kz)(hx:x.kind<=255):Calls prog 205 #[YH x u] w (ue w (.bool (xf.is .stmt x.kind))):=by
 have hE:=λW (h:Below w.heap.size w W)=>Qn x u W (hk.below h) hx
 obtain⟨p,c,rfl⟩:=hk.form;clear hk;obtain⟨k,t,n,ks,a⟩:=x;simp only at hx ⊢;generalize ks.length=m at *;have hz:=zk w (.cells #[.int .u8 k,.string ⟨t.toArray⟩,.int .i64 n,.slice p m c,.int .i64 a] 60 (0,0));have hA:=zf w (.cells #[.int .u8 k,.string ⟨t.toArray⟩,.int .i64 n,.slice p m c,.int .i64 a] 60 (0,0));have mD:w.heap.size<(w.alloc (.cells #[.int .u8 k,.string ⟨t.toArray⟩,.int .i64 n,.slice p m c,.int .i64 a] 60 (0,0))).heap.size:=by simp
 simp only[YH] at hE;have hS:xf.is .stmt k=((decide (60<=k) && decide (k<=62)) || xf.is .expr k):=rfl;rw[hS];have hC:=qY k 60 62;generalize (decide (60<=k) && decide (k<=62))=b at *;have c0:=λW (h:Below _ _ W) (i:Nat)=>zd (zi h hz) i
 have Nu:=zh hz;clear hz;cases b with
 |true=>
  go_enter func205,ntmps205;have c1:=c0 _ bR 0;go_wp2_with fail;refine (hC _).mono ?_;rintro e w1 ⟨rfl,hb⟩;go_wp2;go_ret;exact⟨rfl,zg hA hb⟩
 |false=>
  go_enter func205,ntmps205;have c1:=c0 _ bR 0;go_wp2_with fail;refine (hC _).mono ?_;rintro e w1 ⟨rfl,hb⟩;have d0:=c0 _ hb 0;have d1:=c0 _ hb 1;have d2:=c0 _ hb 2;have d3:=c0 _ hb 3;have d4:=c0 _ hb 4;have mF:=zg hA hb;go_wp2_with fail;refine (hE _ mF).mono ?_;rintro e w2 ⟨rfl,mM⟩;go_wp2;go_ret;exact⟨rfl,zg mF mM⟩
def zd8(j:Nat)(B:Nat)(x:Nd)(u:Value)(w:World)(hB:w.heap[B]? =some (.cells #[.int .u8 j] 5 (0,0)))(hk:KS w u x.kz)(hx:x.kind<=255):Calls prog 251 #[YH x u,.pointer (some ⟨B,0,none⟩)] w (ue w (.bool (xf.is (.one j) x.kind))):=by
 obtain⟨p,c,rfl⟩:=hk.form;clear hk;obtain⟨k,t,n,ks,a⟩:=x;simp only at hx ⊢;generalize ks.length=m at *;have hz:=zk w (.cells #[.int .u8 k,.string ⟨t.toArray⟩,.int .i64 n,.slice p m c,.int .i64 a] 60 (0,0));have hA:=zf w (.cells #[.int .u8 k,.string ⟨t.toArray⟩,.int .i64 n,.slice p m c,.int .i64 a] 60 (0,0));have mD:w.heap.size<(w.alloc (.cells #[.int .u8 k,.string ⟨t.toArray⟩,.int .i64 n,.slice p m c,.int .i64 a] 60 (0,0))).heap.size:=by simp
 have c0:=zd hz 0;have c1:=zd (zi hA hB) 0;clear hz hB;have e2:((k:Int) == (j:Int))=(k == j):=by rw[pP];simp;omega
 go_enter func251,ntmps251;go_wp2;go_ret;refine⟨?_,hA⟩;rw[show xf.is (.one j) k=(k == j) from rfl,<-e2];rfl
abbrev Xa(j:Nat):Obj:=.cells #[.int .u8 j] 5 (0,0)
abbrev JE(B:Nat):Value:=.func (.func 251) #[] #[.pointer (some ⟨B,0,none⟩)]
def XC(w:World)(v:Value)(s:xf):Prop:=
 (∃f,v=.func (.func f) #[] #[]/\Enters prog f/\∀(x:Nd) (u:Value) (W:World),KS W u x.kz->x.kind<=255->Calls prog f #[YH x u] W (ue W (.bool (s.is x.kind))))\/
 (∃B j,v=JE B/\s=.one j/\w.heap[B]? =some (Xa j))
def XC.use(h:XC w v s):∃f caps,v=.func (.func f) #[] caps/\Enters prog f/\∀(W:World) (x:Nd) (u:Value),Below w.heap.size w W->KS W u x.kz->x.kind<=255->Calls prog f (#[YH x u] ++ caps) W (ue W (.bool (s.is x.kind))):=by
 rcases h with⟨f,rfl,he,h⟩|⟨B,j,rfl,rfl,h⟩
 ·exact⟨f,#[],rfl,he,λW x u _ hk hx=>by rw[Array.append_empty];exact h x u W hk hx⟩
 ·exact⟨251,_,rfl,enters_of (P:=prog) func251 (by kernel_rfl) rfl,λW x u hW hk hx=>zd8 j B x u W (zi hW h) hk hx⟩
def XC.keep(h:XC w v s)(hk:∀(B:Nat) cs fr,w.heap[B]? =some (.cells cs 5 fr)->w'.heap[B]? =some (.cells cs 5 fr)):XC w' v s:=
 h.imp id λ⟨B,j,hv,hs,hb⟩=>⟨B,j,hv,hs,hk _ _ _ hb⟩
def XC.below(h:XC w v s)(hb:Below w.heap.size w w'):XC w' v s:=h.keep λ_ _ _ hB=>zi hb hB
def qt(w:World):XC w (.func (.func 204) #[] #[]) .expr:=.inl ⟨_,rfl,enters_of (P:=prog) func204 (by kernel_rfl) rfl,Qn⟩
def zlg(w:World):XC w (.func (.func 205) #[] #[]) .stmt:=.inl ⟨_,rfl,enters_of (P:=prog) func205 (by kernel_rfl) rfl,zf5⟩
def Yg(w:World):XC w (.func (.func 208) #[] #[]) .type:=.inl ⟨_,rfl,enters_of (P:=prog) func208 (by kernel_rfl) rfl,zf4⟩
def Vl(w:World):XC w (.func (.func 207) #[] #[]) .pattern:=.inl ⟨_,rfl,enters_of (P:=prog) func207 (by kernel_rfl) rfl,zaK⟩
def zm0(w:World):XC w (.func (.func 209) #[] #[]) .way:=.inl ⟨_,rfl,enters_of (P:=prog) func209 (by kernel_rfl) rfl,zit⟩
def zlh(w:World):XC w (.func (.func 100) #[] #[]) .item:=.inl ⟨_,rfl,enters_of (P:=prog) func100 (by kernel_rfl) rfl,zf8⟩
def zm1(w:World):XC w (.func (.func 206) #[] #[]) .els:=.inl ⟨_,rfl,enters_of (P:=prog) func206 (by kernel_rfl) rfl,zf9⟩
def zjg(w:World):XC w (.func (.func 210) #[] #[]) .jx:=.inl ⟨_,rfl,enters_of (P:=prog) func210 (by kernel_rfl) rfl,zee⟩
def vI{B j:Nat}(h:w.heap[B]? =some (Xa j)):XC w (JE B) (.one j):=.inr ⟨B,j,rfl,rfl,h⟩
def Zj(j:Nat)(w:World):Calls prog 202 #[.int .u8 j] w λe w'=>e=.returned (JE w.heap.size)/\w'=w.alloc (Xa j):=by
 have MS:∀(fn:Fn) (first cap:Array Value) (w:World),(Instr.makeFunc fn first cap).run prog w=.ok (.func fn first cap) w:=λ_ _ _ _=>rfl
 go_enter func202,ntmps202;go_wp2;go_ret;exact⟨rfl,rfl⟩
def zZ(h:((k:Int) == (c:Int))=true):k=c:=by
 rw[pR] at h;omega
def zG(h:((k:Int) == (c:Int))=false):k≠c:=by
 rw[pB] at h;omega
def zgn(k:Nat)(w:World):Calls prog 211 #[.int .u8 k] w λe w'=>e=.returned (.tuple #[.int .i64 (xF k).1,.int .i64 (xF k).2])/\w'=w:=by
 obtain⟨r,hr⟩:=exE (xF k);rw[hr];have Hr:=zh hr;clear hr;go_enter func211,ntmps211;go_wp2_with fail
 ·have hk:=zZ (k:=k) (c:=1) (by assumption);have h:=Hr.q;rw[hk] at h;subst h;go_ret2;exact⟨rfl,rfl⟩
 ·have hk:=zZ (k:=k) (c:=40) (by assumption);have h:=Hr.q;rw[hk] at h;subst h;go_ret2;exact⟨rfl,rfl⟩
 ·have hk:=zZ (k:=k) (c:=67) (by assumption);have h:=Hr.q;rw[hk] at h;subst h;go_ret2;exact⟨rfl,rfl⟩
 ·have hk:=zZ (k:=k) (c:=3) (by assumption);have h:=Hr.q;rw[hk] at h;subst h;go_ret2;exact⟨rfl,rfl⟩
 ·have hk:=zZ (k:=k) (c:=69) (by assumption);have h:=Hr.q;rw[hk] at h;subst h;go_ret2;exact⟨rfl,rfl⟩
 ·have hk:=zZ (k:=k) (c:=28) (by assumption);have h:=Hr.q;rw[hk] at h;subst h;go_ret2;exact⟨rfl,rfl⟩
 ·have hk:=zZ (k:=k) (c:=102) (by assumption);have h:=Hr.q;rw[hk] at h;subst h;go_ret2;exact⟨rfl,rfl⟩
 ·have h:=Hr.q;have n1:=zG (k:=k) (c:=1) (by assumption);have Af:=zG (k:=k) (c:=40) (by assumption);have OH:=zG (k:=k) (c:=67) (by assumption);have n3:=zG (k:=k) (c:=3) (by assumption);have OJ:=zG (k:=k) (c:=69) (by assumption);have Fh:=zG (k:=k) (c:=28) (by assumption);have n102:=zG (k:=k) (c:=102) (by assumption);unfold xF at h;simp only[pR,n1,Af,OH,n3,OJ,Fh,n102,or_self,wG,if_false] at h;subst h;go_ret2;exact⟨rfl,rfl⟩
def zfV(k:Nat)(w:World):Calls prog 212 #[.int .u8 k] w λe w'=>e=.returned (.int .u8 (jS k:Nat))/\w'=w:=by
 obtain⟨r,hr⟩:=exE (jS k);rw[hr];have Hr:=zh hr;clear hr;go_enter func212,ntmps212;go_wp2_with fail
 ·have hk:=zZ (k:=k) (c:=2) (by assumption);have h:=Hr.q;rw[hk] at h;subst h;go_ret;exact⟨rfl,rfl⟩
 ·have hk:=zZ (k:=k) (c:=68) (by assumption);have h:=Hr.q;rw[hk] at h;subst h;go_ret;exact⟨rfl,rfl⟩
 ·have hk:=zZ (k:=k) (c:=25) (by assumption);have h:=Hr.q;rw[hk] at h;subst h;go_ret;exact⟨rfl,rfl⟩
 ·have hk:=zZ (k:=k) (c:=26) (by assumption);have h:=Hr.q;rw[hk] at h;subst h;go_ret;exact⟨rfl,rfl⟩
 ·have hk:=zZ (k:=k) (c:=84) (by assumption);have h:=Hr.q;rw[hk] at h;subst h;go_ret;exact⟨rfl,rfl⟩
 ·have hk:=zZ (k:=k) (c:=70) (by assumption);have h:=Hr.q;rw[hk] at h;subst h;go_ret;exact⟨rfl,rfl⟩
 ·have hk:=zZ (k:=k) (c:=89) (by assumption);have h:=Hr.q;rw[hk] at h;subst h;go_ret;exact⟨rfl,rfl⟩
 ·have hk:=zZ (k:=k) (c:=100) (by assumption);have h:=Hr.q;rw[hk] at h;subst h;go_ret;exact⟨rfl,rfl⟩
 ·have hk:=zZ (k:=k) (c:=101) (by assumption);have h:=Hr.q;rw[hk] at h;subst h;go_ret;exact⟨rfl,rfl⟩
 ·have hk:=zZ (k:=k) (c:=5) (by assumption);have h:=Hr.q;rw[hk] at h;subst h;go_ret;exact⟨rfl,rfl⟩
 ·have hk:=zZ (k:=k) (c:=23) (by assumption);have h:=Hr.q;rw[hk] at h;subst h;go_ret;exact⟨rfl,rfl⟩
 ·have hk:=zZ (k:=k) (c:=27) (by assumption);have h:=Hr.q;rw[hk] at h;subst h;go_ret;exact⟨rfl,rfl⟩
 ·have hk:=zZ (k:=k) (c:=66) (by assumption);have h:=Hr.q;rw[hk] at h;subst h;go_ret;exact⟨rfl,rfl⟩
 ·have hk:=zZ (k:=k) (c:=88) (by assumption);have h:=Hr.q;rw[hk] at h;subst h;go_ret;exact⟨rfl,rfl⟩
 ·have hk:=zZ (k:=k) (c:=60) (by assumption);have h:=Hr.q;rw[hk] at h;subst h;go_ret;exact⟨rfl,rfl⟩
 ·have hk:=zZ (k:=k) (c:=61) (by assumption);have h:=Hr.q;rw[hk] at h;subst h;go_ret;exact⟨rfl,rfl⟩
 ·have hk:=zZ (k:=k) (c:=34) (by assumption);have h:=Hr.q;rw[hk] at h;subst h;go_ret;exact⟨rfl,rfl⟩
 ·have hk:=zZ (k:=k) (c:=36) (by assumption);have h:=Hr.q;rw[hk] at h;subst h;go_ret;exact⟨rfl,rfl⟩
 ·have hk:=zZ (k:=k) (c:=63) (by assumption);have h:=Hr.q;rw[hk] at h;subst h;go_ret;exact⟨rfl,rfl⟩
 ·have hk:=zZ (k:=k) (c:=102) (by assumption);have h:=Hr.q;rw[hk] at h;subst h;go_ret;exact⟨rfl,rfl⟩
 ·have hk:=zZ (k:=k) (c:=103) (by assumption);have h:=Hr.q;rw[hk] at h;subst h;go_ret;exact⟨rfl,rfl⟩
 ·have hk:=zZ (k:=k) (c:=104) (by assumption);have h:=Hr.q;rw[hk] at h;subst h;go_ret;exact⟨rfl,rfl⟩
 ·have h:=Hr.q;have n2:=zG (k:=k) (c:=2) (by assumption);have OI:=zG (k:=k) (c:=68) (by assumption);have Ad:=zG (k:=k) (c:=25) (by assumption);have Ae:=zG (k:=k) (c:=26) (by assumption);have OK:=zG (k:=k) (c:=84) (by assumption);have Ag:=zG (k:=k) (c:=70) (by assumption);have Ah:=zG (k:=k) (c:=89) (by assumption);have n100:=zG (k:=k) (c:=100) (by assumption);have n101:=zG (k:=k) (c:=101) (by assumption);have n5:=zG (k:=k) (c:=5) (by assumption);have OB:=zG (k:=k) (c:=23) (by assumption);have OC:=zG (k:=k) (c:=27) (by assumption);have OG:=zG (k:=k) (c:=66) (by assumption);have Fp:=zG (k:=k) (c:=88) (by assumption);have OD:=zG (k:=k) (c:=60) (by assumption);have OE:=zG (k:=k) (c:=61) (by assumption);have Fk:=zG (k:=k) (c:=34) (by assumption);have Fm:=zG (k:=k) (c:=36) (by assumption);have OF:=zG (k:=k) (c:=63) (by assumption);have n102:=zG (k:=k) (c:=102) (by assumption);have n103:=zG (k:=k) (c:=103) (by assumption);have n104:=zG (k:=k) (c:=104) (by assumption);unfold jS at h;simp[n2,OI,Ad,Ae,OK,Ag,Ah,n100,n101,n5,OB,OC,OG,Fp,OD,OE,Fk,Fm,OF,n102,n103,n104] at h;subst h;go_ret;exact⟨rfl,rfl⟩
def zf7(x:Nd)(u:Value)(w:World)(hk:KS w u x.kz)(ht:x.text.length<=1000000000000)(hG:jQ w):Calls prog 146 #[YH x u] w (ue w (.bool (vY x))):=by
 obtain⟨p,c,rfl⟩:=hk.form;clear hk;obtain⟨r,hr⟩:=exE (vY x);rw[hr];obtain⟨k,t,n,ks,a⟩:=x;unfold vY at hr;simp only at hr ht ⊢;generalize ks.length=m;have hz:=zk w (.cells #[.int .u8 k,.string ⟨t.toArray⟩,.int .i64 n,.slice p m c,.int .i64 a] 60 (0,0));have hA:=zf w (.cells #[.int .u8 k,.string ⟨t.toArray⟩,.int .i64 n,.slice p m c,.int .i64 a] 60 (0,0));have c0:=zd hz 0;have c1:=zd hz 1;have c2:=zd hz 2;have c4:=zd hz 4;have NJ:=zh (λW (hb:Below w.heap.size w W)=>zfU (jS k) t 0 W ht (hG.later hb));have Lg:=zh (zfV k);have PR:=zh (zgn k);clear hz hG ht;generalize xF k=bd at *;generalize jS k=ti at *;generalize jf ti t=sp at *;obtain⟨lo,hi⟩:=bd;obtain⟨st,se⟩:=sp;simp only at hr NJ PR;by_cases h1:n<lo
 ·rw[if_pos (.inl h1)] at hr;subst hr;go_enter func146,ntmps146;go_wp2_with fail;refine (PR.q _).mono ?_;rintro e w1 ⟨rfl,rfl⟩;go_wp2;go_ret;exact⟨rfl,hA⟩
 by_cases h2:hi<n
 ·rw[if_pos (.inr (.inl h2))] at hr;subst hr;go_enter func146,ntmps146;go_wp2_with fail;refine (PR.q _).mono ?_;rintro e w1 ⟨rfl,rfl⟩;go_wp2;go_ret;exact⟨rfl,hA⟩
 by_cases h3:a<0
 ·rw[if_pos (.inr (.inr (.inl h3)))] at hr;subst hr;go_enter func146,ntmps146;go_wp2_with fail;refine (PR.q _).mono ?_;rintro e w1 ⟨rfl,rfl⟩;go_wp2;go_ret;exact⟨rfl,hA⟩
 by_cases h4:3000<a
 ·rw[if_pos (.inr (.inr (.inr h4)))] at hr;subst hr;go_enter func146,ntmps146;go_wp2_with fail;refine (PR.q _).mono ?_;rintro e w1 ⟨rfl,rfl⟩;go_wp2;go_ret;exact⟨rfl,hA⟩
 rw[if_neg (by omega)] at hr;by_cases h0:ti=0
 ·subst h0;rw[if_pos (by rfl)] at hr;replace hr:=zh hr;go_enter func146,ntmps146;go_wp2_with fail;refine (PR.q _).mono ?_;rintro e w1 ⟨rfl,rfl⟩;go_wp2_with fail;refine (Lg.q _).mono ?_;rintro e w1 ⟨rfl,rfl⟩;go_wp2;go_ret;refine⟨?_,hA⟩;show Ending.returned (.bool t.isEmpty)=.returned (.bool r)
  rw[<-hr.q];cases t <;> rfl
 ·rw[if_neg (by simpa using h0)] at hr;have i0:((ti:Int) == 0)=false:=bfE (by omega)
  replace hr:=zh hr;go_enter func146,ntmps146;go_wp2_with fail;refine (PR.q _).mono ?_;rintro e w1 ⟨rfl,rfl⟩;go_wp2_with fail;refine (Lg.q _).mono ?_;rintro e w1 ⟨rfl,rfl⟩;go_wp2_with fail;refine (NJ.q _ hA).mono ?_;rintro e w2 ⟨rfl,hb⟩;go_wp2;go_ret;refine⟨?_,zg hA hb⟩;show Ending.returned (.bool ((se:Int) == 0))=.returned (.bool r)
  rw[<-hr.q,show ((se:Int) == 0)=(se == 0) by rw[pP];simp]
section
variable (P:Program) (w:World) (a:Addr) (m:Mode)
def QC:(store a .nilFunc m).run P w=stored P w a .nilFunc m:=run_store P w a _ m rfl
def Vo(fn:Fn)(first cap:Array Value):(store a (.func fn first cap) m).run P w=stored P w a (.func fn first cap) m:=run_store P w a _ m rfl
end
end
section
open Go.RowKit Lode Go.Shelf
attribute [local go_sem ↓] wp_at_zero wp_at_succ
attribute [local go_sem] QC Vo
open Go.Proofs.Tryz
def vA(w:World)(v:Value)(l:List xf):Prop:=∃(p:Option Addr) (cap:Nat),v=.slice p l.length cap/\(l=[]\/∃(g:Nat) (cs:Array Value) (fr:Nat×Nat),p=some ⟨g,0,none⟩/\w.heap[g]? =some (.cells cs 148 fr)/\∀(j:Nat) (s:xf),l[j]? =some s->∃y,cs[j]? =some y/\XC w y s)
def Kv(w:World)(v:Value):Option xf->Prop
 |some s=>XC w v s
 |none=>v=.nilFunc
def ShV(w:World)(v:Value)(h:xA):Prop:=∃fv mv lv,v=.agg #[fv,mv,.int .i64 h.least,lv]/\vA w fv h.first/\Kv w mv h.more/\vA w lv h.last
abbrev shZ:Value:=.agg #[.slice none 0 0,.nilFunc,.int .i64 0,.slice none 0 0]
theorem vA.keep(h:vA w v l)(hk:∀(B:Nat) cs fr,w.heap[B]? =some (.cells cs 5 fr)->w'.heap[B]? =some (.cells cs 5 fr))(hs:∀(B:Nat) cs fr,w.heap[B]? =some (.cells cs 148 fr)->w'.heap[B]? =some (.cells cs 148 fr)):vA w' v l:=by
 obtain⟨p,cap,hv,h⟩:=h;refine⟨p,cap,hv,h.imp id ?_⟩;rintro ⟨g,cs,fr,hp,hg,hc⟩;exact⟨g,cs,fr,hp,hs _ _ _ hg,λj s hs=>(hc j s hs).imp λy hy=>⟨hy.1,hy.2.keep hk⟩⟩
theorem Kv.keep(h:Kv w v o)(hk:∀(B:Nat) cs fr,w.heap[B]? =some (.cells cs 5 fr)->w'.heap[B]? =some (.cells cs 5 fr)):Kv w' v o:=by
 cases o with
 |none=>exact h
 |some s=>exact XC.keep h hk
theorem ShV.keep{s:xA}(h:ShV w v s)(hk:∀(B:Nat) cs fr,w.heap[B]? =some (.cells cs 5 fr)->w'.heap[B]? =some (.cells cs 5 fr))(hs:∀(B:Nat) cs fr,w.heap[B]? =some (.cells cs 148 fr)->w'.heap[B]? =some (.cells cs 148 fr)):ShV w' v s:=by
 obtain⟨fv,mv,lv,hv,h1,h2,h3⟩:=h;exact⟨fv,mv,lv,hv,h1.keep hk hs,h2.keep hk,h3.keep hk hs⟩
def zkK(o:Option xA)(w:World)(e:Ending)(w':World):Prop:=Below w.heap.size w w'/\((∃h v,o=some h/\e=.returned (.tuple #[v,.bool true])/\ShV w' v h)\/(o=none/\e=.returned (.tuple #[shZ,.bool false])))
def vA.nil(w:World)(p:Option Addr)(c:Nat):vA w (.slice p 0 c) []:=⟨p,c,rfl,.inl rfl⟩
theorem vA.below(h:vA w v l)(hb:Below w.heap.size w w'):vA w' v l:=by
 obtain⟨p,cap,hv,h⟩:=h;refine⟨p,cap,hv,h.imp id ?_⟩;rintro ⟨g,cs,fr,hp,hg,hc⟩;exact⟨g,cs,fr,hp,zi hb hg,λj s hs=>(hc j s hs).imp λy hy=>⟨hy.1,hy.2.below hb⟩⟩
theorem Kv.below(h:Kv w v o)(hb:Below w.heap.size w w'):Kv w' v o:=by
 cases o with
 |none=>exact h
 |some s=>exact XC.below h hb
theorem ShV.below{s:xA}(h:ShV w v s)(hb:Below w.heap.size w w'):ShV w' v s:=by
 obtain⟨fv,mv,lv,hv,h1,h2,h3⟩:=h;exact⟨fv,mv,lv,hv,h1.below hb,h2.below hb,h3.below hb⟩
def vA.own{n:Nat}(hl:l.length=n)(hg:w.heap[g]? =some (.cells cs 148 fr))(hc:∀(j:Nat) (s:xf),l[j]? =some s->∃y,cs[j]? =some y/\XC w y s):vA w (.slice (some ⟨g,0,none⟩) n c) l:=by
 subst hl;exact⟨_,c,rfl,.inr ⟨g,cs,fr,rfl,hg,hc⟩⟩
def zjj{a b c d:Value}(h:W.heap[N]? =some (.cells #[a,b,c,d] T fr))(x0 x1 x2 x3:Value)(W':World)(e:W'=(((W.setCell ⟨N,0,none⟩ x0).setCell ⟨N,1,none⟩ x1).setCell ⟨N,2,none⟩ x2).setCell ⟨N,3,none⟩ x3):W'.heap[N]? =some (.cells #[x0,x1,x2,x3] T fr)/\(∀g,g≠N->W'.heap[g]? =W.heap[g]?)/\∀B,B<=N->Below B W W':=by
 subst e;refine⟨zt (zt (zt (zt h 0 x0) 1 x1) 2 x2) 3 x3,λg hg=>(zv hg).trans ((zv hg).trans ((zv hg).trans (zv hg))),λB hB=>((((pG B W).setCell hB _).setCell hB _).setCell hB _).setCell hB _⟩
def jl(p:Option Addr)(n c:Nat)(w:World):Calls prog 203 #[.slice p n c] w (ue w (.agg #[.slice p n c,.nilFunc,.int .i64 0,.slice none 0 0])):=by
 have z:=zk w (.cells #[.slice none 0 0,.nilFunc,.int .i64 0,.slice none 0 0] 151 (0,0));have y:=zk w (.cells #[.slice p n c,.nilFunc,.int .i64 0,.slice none 0 0] 151 (0,0));have d0:=zd z 0;have f0:=zj z 0;have e0:=zd y 0;have e1:=zd y 1;have e2:=zd y 2;have e3:=zd y 3;have g0:=zj y 0;have g1:=zj y 1;have g2:=zj y 2;have g3:=zj y 3;go_enter func203,ntmps203;go_wp2;refine bodyPost_ret (v:=.agg #[.slice p n c,.nilFunc,.int .i64 0,.slice none 0 0]) (by simp[results,results203,go_sem,e0,e1,e2,e3]) rfl ?_;exact⟨rfl,zf w _⟩
abbrev zjs:List Nat:=[1,2,3,4,5,44,45,46,80,81,82,83,84,66,67,68,69,6,7,23,27,37,38,39,42,43,47,50,51,60,61,65,41,48,63,49,64,24,25,26,28,29,30,31,32,33,102,34,35,36,40,86,87,88,62,70,85,89,100,101,103,104]
def kd(h:((k:Int) == j)=true):k=j.toNat:=by
 rw[pR] at h;omega
def kn{i:Nat}(e:(i:Int)=j)(h:((k:Int) == j)=false):k≠i:=by
 rw[pB] at h;omega
def vJ{M L:Nat}{a b c d:Value}(h:Below w.heap.size w w')(z:w.heap[N]? =some (.cells #[a,b,c,d] T (0,0)))(z1:w.heap[M]? =some (.cells o1 T1 f1))(z2:w.heap[L]? =some (.cells o2 T2 f2)):w'.heap[N]? =some (.cells #[a,b,c,d] T (0,0))/\w'.heap[M]? =some (.cells o1 T1 f1)/\w'.heap[L]? =some (.cells o2 T2 f2)/\w'.cell? ⟨N,0,none⟩=some a/\w'.cell? ⟨N,1,none⟩=some b/\w'.cell? ⟨N,2,none⟩=some c/\w'.cell? ⟨N,3,none⟩=some d/\w'.frozen? ⟨N,0,none⟩=false/\w'.frozen? ⟨N,1,none⟩=false/\w'.frozen? ⟨N,2,none⟩=false/\w'.frozen? ⟨N,3,none⟩=false:=
 have y:=zi h z
 ⟨y,zi h z1,zi h z2,zd y 0,zd y 1,zd y 2,zd y 3,zj y 0,zj y 1,zj y 2,zj y 3⟩
def zil(hg:W.heap[g]? =some (.cells #[y0] 148 fr))(h0:XC W y0 s0):vA W (.slice (some ⟨g,0,none⟩) 1 1) [s0]:=
 vA.own rfl hg (λj s hj=>by
  match j,hj with
  |0,rfl=>exact⟨_,rfl,h0⟩)
def zcn(hg:W.heap[g]? =some (.cells #[y0,y1] 148 fr))(h0:XC W y0 s0)(h1:XC W y1 s1):vA W (.slice (some ⟨g,0,none⟩) 2 2) [s0,s1]:=
 vA.own rfl hg (λj s hj=>by
  match j,hj with
  |0,rfl=>exact⟨_,rfl,h0⟩
  |1,rfl=>exact⟨_,rfl,h1⟩)
def zof{y2:Value}{s2:xf}(hg:W.heap[g]? =some (.cells #[y0,y1,y2] 148 fr))(h0:XC W y0 s0)(h1:XC W y1 s1)(h2:XC W y2 s2):vA W (.slice (some ⟨g,0,none⟩) 3 3) [s0,s1,s2]:=
 vA.own rfl hg (λj s hj=>by
  match j,hj with
  |0,rfl=>exact⟨_,rfl,h0⟩
  |1,rfl=>exact⟨_,rfl,h1⟩
  |2,rfl=>exact⟨_,rfl,h2⟩)
def xW{a b c d:Value}(hs:zM k=some S)(hb:Below w.heap.size w W)(y:W.heap[w.heap.size]? =some (.cells #[a,b,c,d] 151 (0,0)))(x0 x1:Value)(n:Int)(x3:Value)(hr:∀{W':World},W'.heap[w.heap.size]? =some (.cells #[x0,x1,.int .i64 n,x3] 151 (0,0))->(results fn A.tmps).run prog W'=.ok (.tuple #[.agg #[x0,x1,.int .i64 n,x3],.bool true]) W')(h1:∀{W':World},(∀g,g≠w.heap.size->W'.heap[g]? =W.heap[g]?)->vA W' x0 S.first)(h2:∀{W':World},(∀g,g≠w.heap.size->W'.heap[g]? =W.heap[g]?)->Kv W' x1 S.more)(h3:∀{W':World},(∀g,g≠w.heap.size->W'.heap[g]? =W.heap[g]?)->vA W' x3 S.last)(hd:A.defers=[])(hn:(S.least:Int)=n):
 bodyPost prog fn (zkK (zM k) w) .ret A ((((W.setCell ⟨w.heap.size,0,none⟩ x0).setCell ⟨w.heap.size,1,none⟩ x1).setCell ⟨w.heap.size,2,none⟩ (.int .i64 n)).setCell ⟨w.heap.size,3,none⟩ x3):=by
 obtain⟨r,aA,hB⟩:=zjj y x0 x1 (.int .i64 n) x3 _ rfl;subst hn;exact bodyPost_ret (hr r) hd ⟨hb.trans (hB _ (pC _)),.inl ⟨_,_,hs,rfl,_,_,_,rfl,h1 aA,h2 aA,h3 aA⟩⟩
def QB(hb:(decide (8<=k) && decide (k<=22))=false)(hn:∀j∈zjs,k≠j):zM k=none:=by
 simp only[zjs,List.forall_mem_cons] at hn;obtain⟨n1,n2,n3,n4,n5,n44,n45,n46,n80,n81,n82,n83,OK,OG,OH,OI,OJ,n6,n7,OB,OC,n37,n38,n39,n42,n43,n47,n50,n51,OD,OE,n65,n41,n48,OF,n49,n64,Ff,Ad,Ae,Fh,n29,n30,n31,n32,Fj,n102,Fk,Fl,Fm,Af,n86,n87,Fp,n62,Ag,Fo,Ah,n100,n101,n103,n104,-⟩:=hn;have hl:∀l:List Nat,k∉l->l.contains k=false:=λl h=>by
  rw[Bool.eq_false_iff];intro e;rw[List.contains_iff_mem] at e;exact h e
 have he:∀j,k≠j->(k == j)=false:=λj h=>pB.2 h
 unfold zM;rw[hl [1,2,3,4,5,44,45,46,80,81,82,83,84,66,67,68,69] (by simp only[wI,wL,or_false];omega),hl [6,7,23,27,37,38,39,42,43,47,50,51,60,61,65] (by simp only[wI,wL,or_false];omega),hl [41,48,63] (by simp only[wI,wL,or_false];omega),hl [49,64] (by simp only[wI,wL,or_false];omega),he 24 Ff,he 25 Ad,he 26 Ae,he 28 Fh,he 29 n29,he 30 n30,he 31 n31,he 32 n32,he 33 Fj,he 102 n102,he 34 Fk,he 35 Fl,he 36 Fm,he 40 Af,he 86 n86,he 87 n87,he 88 Fp,he 62 n62,he 70 Ag,he 85 Fo,he 89 Ah,he 100 n100,he 101 n101,he 103 n103,he 104 n104,hb];rfl
def zdq(k:Nat)(w:World):Calls prog 145 #[.int .u8 k] w (zkK (zM k) w):=by
 go_enter func145,ntmps145;go_wp2_with fail;refine (Zj 28 _).mono ?_;rintro e w1 ⟨rfl,rfl⟩;go_wp2_with fail;refine (Zj 88 _).mono ?_;rintro e w1 ⟨rfl,rfl⟩;have z:(((w.alloc (.cells #[.slice none 0 0,.nilFunc,.int .i64 0,.slice none 0 0] 151 (0,0))).alloc (Xa 28)).alloc (Xa 88)).heap[w.heap.size]? =some (.cells #[.slice none 0 0,.nilFunc,.int .i64 0,.slice none 0 0] 151 (0,0)):=zV [.cells #[.slice none 0 0,.nilFunc,.int .i64 0,.slice none 0 0] 151 (0,0),Xa 28,Xa 88] w 0 _ rfl;have tQ:(((w.alloc (.cells #[.slice none 0 0,.nilFunc,.int .i64 0,.slice none 0 0] 151 (0,0))).alloc (Xa 28)).alloc (Xa 88)).heap[w.heap.size+1]? =some (Xa 28):=zV [.cells #[.slice none 0 0,.nilFunc,.int .i64 0,.slice none 0 0] 151 (0,0),Xa 28,Xa 88] w 1 _ rfl;have tR:(((w.alloc (.cells #[.slice none 0 0,.nilFunc,.int .i64 0,.slice none 0 0] 151 (0,0))).alloc (Xa 28)).alloc (Xa 88)).heap[w.heap.size+1+1]? =some (Xa 88):=zV [.cells #[.slice none 0 0,.nilFunc,.int .i64 0,.slice none 0 0] 151 (0,0),Xa 28,Xa 88] w 2 _ rfl;have mU:Below w.heap.size w (((w.alloc (.cells #[.slice none 0 0,.nilFunc,.int .i64 0,.slice none 0 0] 151 (0,0))).alloc (Xa 28)).alloc (Xa 88)):=yw [.cells #[.slice none 0 0,.nilFunc,.int .i64 0,.slice none 0 0] 151 (0,0),Xa 28,Xa 88] w;have nX:(((w.alloc (.cells #[.slice none 0 0,.nilFunc,.int .i64 0,.slice none 0 0] 151 (0,0))).alloc (Xa 28)).alloc (Xa 88)).heap.size=w.heap.size+3:=by simp
 replace nX:=zh nX;generalize (((w.alloc (.cells #[.slice none 0 0,.nilFunc,.int .i64 0,.slice none 0 0] 151 (0,0))).alloc (Xa 28)).alloc (Xa 88))=w3 at *;have hq:=zh (show w3.heap.size≠w.heap.size from by have:=nX.q;omega);have c0:=zd z 0;have g0:=zj z 0;have c1:=zd z 1;have g1:=zj z 1;have c2:=zd z 2;have g2:=zj z 2;have c3:=zd z 3;have g3:=zj z 3;have za:=zi (zf w3 (.cells #[.func (.func 204) #[] #[]] 148 (0,0))) z;have ca0:=zd za 0;have ga0:=zj za 0;have ca1:=zd za 1;have ga1:=zj za 1;have ca2:=zd za 2;have ga2:=zj za 2;have ca3:=zd za 3;have ga3:=zj za 3;have zb:=zi (zf w3 (.cells #[.func (.func 204) #[] #[],JE (w.heap.size+1)] 148 (0,0))) z;have cb0:=zd zb 0;have gb0:=zj zb 0;have cb1:=zd zb 1;have gb1:=zj zb 1;have cb2:=zd zb 2;have gb2:=zj zb 2;have cb3:=zd zb 3;have gb3:=zj zb 3;have zc:=zi (zf w3 (.cells #[.func (.func 208) #[] #[],JE (w.heap.size+1)] 148 (0,0))) z;have cc0:=zd zc 0;have gc0:=zj zc 0;have cc1:=zd zc 1;have gc1:=zj zc 1;have cc2:=zd zc 2;have gc2:=zj zc 2;have CT:=zd zc 3;have gc3:=zj zc 3;have ze:=zi (zf w3 (.cells #[.func (.func 208) #[] #[]] 148 (0,0))) z;have ce0:=zd ze 0;have ge0:=zj ze 0;have ce1:=zd ze 1;have ge1:=zj ze 1;have ce2:=zd ze 2;have ge2:=zj ze 2;have ce3:=zd ze 3;have ge3:=zj ze 3;go_wp2_with fail
 all_goals clear ca0 ga0 ca1 ga1 ca2 ga2 ca3 ga3 cb0 gb0 cb1 gb1 cb2 gb2 cb3 gb3 cc0 gc0 cc1 gc1 cc2 gc2 CT gc3 ce0 ge0 ce1 ge1 ce2 ge2 ce3 ge3 za zb zc ze c0 g0 c1 g1 c2 g2 c3 g3
 iterate 17
  ·have hs:zM k=some ⟨[],none,0,[]⟩:=by rw[kd (k:=k) (by assumption)];rfl
   refine (jl _ _ _ _).mono ?_;rintro e w4 ⟨rfl,mQ⟩;have mw:Below w3.heap.size w3 w4:=mQ;obtain⟨y,sP,tL,d0,d1,d2,d3,f0,f1,f2,f3⟩:=vJ mw z tQ tR;go_wp2_with fail;exact xW hs (mU.trans (mw.mono mU.size)) y (.slice none 0 0) .nilFunc 0 (.slice none 0 0) (by intro W r;simp[results,results145,go_sem,zd r]) (λhf=>vA.nil _ _ _) (λhf=>rfl) (λhf=>vA.nil _ _ _) rfl rfl
 iterate 15
  ·have hs:zM k=some ⟨[.expr],none,0,[]⟩:=by rw[kd (k:=k) (by assumption)];rfl
   refine (jl _ _ _ _).mono ?_;rintro e w4 ⟨rfl,mQ⟩;have mw:Below w3.heap.size w3 w4:=zg (zf w3 (.cells #[.func (.func 204) #[] #[]] 148 (0,0))) mQ;have yr:=zi mQ (zk w3 (.cells #[.func (.func 204) #[] #[]] 148 (0,0)));obtain⟨y,sP,tL,d0,d1,d2,d3,f0,f1,f2,f3⟩:=vJ mw z tQ tR;go_wp2_with fail;exact xW hs (mU.trans (mw.mono mU.size)) y (.slice (some ⟨w3.heap.size,0,none⟩) 1 1) .nilFunc 0 (.slice none 0 0) (by intro W r;simp[results,results145,go_sem,zd r]) (λhf=>zil ((hf _ hq.q).trans yr) (qt _)) (λhf=>rfl) (λhf=>vA.nil _ _ _) rfl rfl
 iterate 3
  ·have hs:zM k=some ⟨[.expr,.expr],none,0,[]⟩:=by rw[kd (k:=k) (by assumption)];rfl
   refine (jl _ _ _ _).mono ?_;rintro e w4 ⟨rfl,mQ⟩;have mw:Below w3.heap.size w3 w4:=zg (zf w3 (.cells #[.func (.func 204) #[] #[],.func (.func 204) #[] #[]] 148 (0,0))) mQ;have yr:=zi mQ (zk w3 (.cells #[.func (.func 204) #[] #[],.func (.func 204) #[] #[]] 148 (0,0)));obtain⟨y,sP,tL,d0,d1,d2,d3,f0,f1,f2,f3⟩:=vJ mw z tQ tR;go_wp2_with fail;exact xW hs (mU.trans (mw.mono mU.size)) y (.slice (some ⟨w3.heap.size,0,none⟩) 2 2) .nilFunc 0 (.slice none 0 0) (by intro W r;simp[results,results145,go_sem,zd r]) (λhf=>zcn ((hf _ hq.q).trans yr) (qt _) (qt _)) (λhf=>rfl) (λhf=>vA.nil _ _ _) rfl rfl
 iterate 2
  ·have hs:zM k=some ⟨[.expr,.expr,.expr],none,0,[]⟩:=by rw[kd (k:=k) (by assumption)];rfl
   refine (jl _ _ _ _).mono ?_;rintro e w4 ⟨rfl,mQ⟩;have mw:Below w3.heap.size w3 w4:=zg (zf w3 (.cells #[.func (.func 204) #[] #[],.func (.func 204) #[] #[],.func (.func 204) #[] #[]] 148 (0,0))) mQ;have yr:=zi mQ (zk w3 (.cells #[.func (.func 204) #[] #[],.func (.func 204) #[] #[],.func (.func 204) #[] #[]] 148 (0,0)));obtain⟨y,sP,tL,d0,d1,d2,d3,f0,f1,f2,f3⟩:=vJ mw z tQ tR;go_wp2_with fail;exact xW hs (mU.trans (mw.mono mU.size)) y (.slice (some ⟨w3.heap.size,0,none⟩) 3 3) .nilFunc 0 (.slice none 0 0) (by intro W r;simp[results,results145,go_sem,zd r]) (λhf=>zof ((hf _ hq.q).trans yr) (qt _) (qt _) (qt _)) (λhf=>rfl) (λhf=>vA.nil _ _ _) rfl rfl
 ·have hs:zM k=some ⟨[.expr],some (.expr),0,[]⟩:=by rw[kd (k:=k) (by assumption)];rfl
  have mw:Below w3.heap.size w3 ((w3).alloc (.cells #[.func (.func 204) #[] #[]] 148 (0,0))):=zf w3 _;have yr:((w3).alloc (.cells #[.func (.func 204) #[] #[]] 148 (0,0))).heap[w3.heap.size]? =some (.cells #[.func (.func 204) #[] #[]] 148 (0,0)):=zk w3 _;obtain⟨y,sP,tL,-⟩:=vJ mw z tQ tR;exact xW hs (mU.trans (mw.mono mU.size)) y (.slice (some ⟨w3.heap.size,0,none⟩) 1 1) (.func (.func 204) #[] #[]) 0 (.slice none 0 0) (by intro W r;simp[results,results145,go_sem,zd r]) (λhf=>zil ((hf _ hq.q).trans yr) (qt _)) (λhf=>(qt _)) (λhf=>vA.nil _ _ _) rfl rfl
 ·have hs:zM k=some ⟨[],some (.expr),0,[]⟩:=by rw[kd (k:=k) (by assumption)];rfl
  have mw:Below w3.heap.size w3 (w3):=pG _ _;obtain⟨y,sP,tL,-⟩:=vJ mw z tQ tR;exact xW hs (mU.trans (mw.mono mU.size)) y (.slice none 0 0) (.func (.func 204) #[] #[]) 0 (.slice none 0 0) (by intro W r;simp[results,results145,go_sem,zd r]) (λhf=>vA.nil _ _ _) (λhf=>(qt _)) (λhf=>vA.nil _ _ _) rfl rfl
 ·have hs:zM k=some ⟨[],some (.one 27),1,[]⟩:=by rw[kd (k:=k) (by assumption)];rfl
  refine (Zj 27 _).mono ?_;rintro e w4 ⟨rfl,rfl⟩;have mw:Below w3.heap.size w3 ((w3).alloc (Xa 27)):=zf w3 _;have yk:((w3).alloc (Xa 27)).heap[w3.heap.size]? =some (Xa 27):=qD _ _ _ (by simp);obtain⟨y,sP,tL,d0,d1,d2,d3,f0,f1,f2,f3⟩:=vJ mw z tQ tR;go_wp2_with fail;exact xW hs (mU.trans (mw.mono mU.size)) y (.slice none 0 0) (JE (w3.heap.size)) 1 (.slice none 0 0) (by intro W r;simp[results,results145,go_sem,zd r]) (λhf=>vA.nil _ _ _) (λhf=>vI ((hf _ (by have:=nX.q;simp;omega)).trans yk)) (λhf=>vA.nil _ _ _) rfl rfl
 ·have hs:zM k=some ⟨[],some (.stmt),0,[]⟩:=by rw[kd (k:=k) (by assumption)];rfl
  have mw:Below w3.heap.size w3 (w3):=pG _ _;obtain⟨y,sP,tL,-⟩:=vJ mw z tQ tR;exact xW hs (mU.trans (mw.mono mU.size)) y (.slice none 0 0) (.func (.func 205) #[] #[]) 0 (.slice none 0 0) (by intro W r;simp[results,results145,go_sem,zd r]) (λhf=>vA.nil _ _ _) (λhf=>(zlg _)) (λhf=>vA.nil _ _ _) rfl rfl
 ·have hs:zM k=some ⟨[.expr,.one 28],some (.els),0,[]⟩:=by rw[kd (k:=k) (by assumption)];rfl
  have mw:Below w3.heap.size w3 ((w3).alloc (.cells #[.func (.func 204) #[] #[],JE (w.heap.size+1)] 148 (0,0))):=zf w3 _;have yr:((w3).alloc (.cells #[.func (.func 204) #[] #[],JE (w.heap.size+1)] 148 (0,0))).heap[w3.heap.size]? =some (.cells #[.func (.func 204) #[] #[],JE (w.heap.size+1)] 148 (0,0)):=zk w3 _;obtain⟨y,sP,tL,-⟩:=vJ mw z tQ tR;exact xW hs (mU.trans (mw.mono mU.size)) y (.slice (some ⟨w3.heap.size,0,none⟩) 2 2) (.func (.func 206) #[] #[]) 0 (.slice none 0 0) (by intro W r;simp[results,results145,go_sem,zd r]) (λhf=>zcn ((hf _ hq.q).trans yr) (qt _) (vI ((hf _ (by omega)).trans (sP)))) (λhf=>(zm1 _)) (λhf=>vA.nil _ _ _) rfl rfl
 ·have hs:zM k=some ⟨[.expr,.one 28],none,0,[]⟩:=by rw[kd (k:=k) (by assumption)];rfl
  refine (jl _ _ _ _).mono ?_;rintro e w4 ⟨rfl,mQ⟩;have mw:Below w3.heap.size w3 w4:=zg (zf w3 (.cells #[.func (.func 204) #[] #[],JE (w.heap.size+1)] 148 (0,0))) mQ;have yr:=zi mQ (zk w3 (.cells #[.func (.func 204) #[] #[],JE (w.heap.size+1)] 148 (0,0)));obtain⟨y,sP,tL,d0,d1,d2,d3,f0,f1,f2,f3⟩:=vJ mw z tQ tR;go_wp2_with fail;exact xW hs (mU.trans (mw.mono mU.size)) y (.slice (some ⟨w3.heap.size,0,none⟩) 2 2) .nilFunc 0 (.slice none 0 0) (by intro W r;simp[results,results145,go_sem,zd r]) (λhf=>zcn ((hf _ hq.q).trans yr) (qt _) (vI ((hf _ (by omega)).trans (sP)))) (λhf=>rfl) (λhf=>vA.nil _ _ _) rfl rfl
 ·have hs:zM k=some ⟨[.expr],some (.one 32),1,[]⟩:=by rw[kd (k:=k) (by assumption)];rfl
  refine (Zj 32 _).mono ?_;rintro e w4 ⟨rfl,rfl⟩;have mw:Below w3.heap.size w3 (((w3).alloc (.cells #[.func (.func 204) #[] #[]] 148 (0,0))).alloc (Xa 32)):=zg (zf w3 _) (zf _ _);have yr:(((w3).alloc (.cells #[.func (.func 204) #[] #[]] 148 (0,0))).alloc (Xa 32)).heap[w3.heap.size]? =some (.cells #[.func (.func 204) #[] #[]] 148 (0,0)):=km _ (zk w3 _);have yk:(((w3).alloc (.cells #[.func (.func 204) #[] #[]] 148 (0,0))).alloc (Xa 32)).heap[w3.heap.size+1]? =some (Xa 32):=qD _ _ _ (by simp);obtain⟨y,sP,tL,d0,d1,d2,d3,f0,f1,f2,f3⟩:=vJ mw z tQ tR;go_wp2_with fail;exact xW hs (mU.trans (mw.mono mU.size)) y (.slice (some ⟨w3.heap.size,0,none⟩) 1 1) (JE (w3.heap.size+1)) 1 (.slice none 0 0) (by intro W r;simp[results,results145,go_sem,zd r]) (λhf=>zil ((hf _ hq.q).trans yr) (qt _)) (λhf=>vI ((hf _ (by have:=nX.q;simp;omega)).trans yk)) (λhf=>vA.nil _ _ _) rfl rfl
 ·have hs:zM k=some ⟨[.pattern,.expr],none,0,[]⟩:=by rw[kd (k:=k) (by assumption)];rfl
  refine (jl _ _ _ _).mono ?_;rintro e w4 ⟨rfl,mQ⟩;have mw:Below w3.heap.size w3 w4:=zg (zf w3 (.cells #[.func (.func 207) #[] #[],.func (.func 204) #[] #[]] 148 (0,0))) mQ;have yr:=zi mQ (zk w3 (.cells #[.func (.func 207) #[] #[],.func (.func 204) #[] #[]] 148 (0,0)));obtain⟨y,sP,tL,d0,d1,d2,d3,f0,f1,f2,f3⟩:=vJ mw z tQ tR;go_wp2_with fail;exact xW hs (mU.trans (mw.mono mU.size)) y (.slice (some ⟨w3.heap.size,0,none⟩) 2 2) .nilFunc 0 (.slice none 0 0) (by intro W r;simp[results,results145,go_sem,zd r]) (λhf=>zcn ((hf _ hq.q).trans yr) (Vl _) (qt _)) (λhf=>rfl) (λhf=>vA.nil _ _ _) rfl rfl
 iterate 2
  ·have hs:zM k=some ⟨[],some (.one 88),0,[.type,.one 28]⟩:=by rw[kd (k:=k) (by assumption)];rfl
   have mw:Below w3.heap.size w3 ((w3).alloc (.cells #[.func (.func 208) #[] #[],JE (w.heap.size+1)] 148 (0,0))):=zf w3 _;have yr:((w3).alloc (.cells #[.func (.func 208) #[] #[],JE (w.heap.size+1)] 148 (0,0))).heap[w3.heap.size]? =some (.cells #[.func (.func 208) #[] #[],JE (w.heap.size+1)] 148 (0,0)):=zk w3 _;obtain⟨y,sP,tL,-⟩:=vJ mw z tQ tR;exact xW hs (mU.trans (mw.mono mU.size)) y (.slice none 0 0) (JE (w.heap.size+1+1)) 0 (.slice (some ⟨w3.heap.size,0,none⟩) 2 2) (by intro W r;simp[results,results145,go_sem,zd r]) (λhf=>vA.nil _ _ _) (λhf=>(vI ((hf _ (by omega)).trans (tL)))) (λhf=>zcn ((hf _ hq.q).trans yr) (Yg _) (vI ((hf _ (by omega)).trans (sP)))) rfl rfl
 ·have hs:zM k=some ⟨[.one 28,.one 28],none,0,[]⟩:=by rw[kd (k:=k) (by assumption)];rfl
  refine (jl _ _ _ _).mono ?_;rintro e w4 ⟨rfl,mQ⟩;have mw:Below w3.heap.size w3 w4:=zg (zf w3 (.cells #[JE (w.heap.size+1),JE (w.heap.size+1)] 148 (0,0))) mQ;have yr:=zi mQ (zk w3 (.cells #[JE (w.heap.size+1),JE (w.heap.size+1)] 148 (0,0)));obtain⟨y,sP,tL,d0,d1,d2,d3,f0,f1,f2,f3⟩:=vJ mw z tQ tR;go_wp2_with fail;exact xW hs (mU.trans (mw.mono mU.size)) y (.slice (some ⟨w3.heap.size,0,none⟩) 2 2) .nilFunc 0 (.slice none 0 0) (by intro W r;simp[results,results145,go_sem,zd r]) (λhf=>zcn ((hf _ hq.q).trans yr) (vI ((hf _ (by omega)).trans (sP))) (vI ((hf _ (by omega)).trans (sP)))) (λhf=>rfl) (λhf=>vA.nil _ _ _) rfl rfl
 ·have hs:zM k=some ⟨[],some (.way),1,[]⟩:=by rw[kd (k:=k) (by assumption)];rfl
  have mw:Below w3.heap.size w3 (w3):=pG _ _;obtain⟨y,sP,tL,-⟩:=vJ mw z tQ tR;exact xW hs (mU.trans (mw.mono mU.size)) y (.slice none 0 0) (.func (.func 209) #[] #[]) 1 (.slice none 0 0) (by intro W r;simp[results,results145,go_sem,zd r]) (λhf=>vA.nil _ _ _) (λhf=>(zm0 _)) (λhf=>vA.nil _ _ _) rfl rfl
 ·have hs:zM k=some ⟨[.expr,.one 28,.one 28],none,0,[]⟩:=by rw[kd (k:=k) (by assumption)];rfl
  refine (jl _ _ _ _).mono ?_;rintro e w4 ⟨rfl,mQ⟩;have mw:Below w3.heap.size w3 w4:=zg (zf w3 (.cells #[.func (.func 204) #[] #[],JE (w.heap.size+1),JE (w.heap.size+1)] 148 (0,0))) mQ;have yr:=zi mQ (zk w3 (.cells #[.func (.func 204) #[] #[],JE (w.heap.size+1),JE (w.heap.size+1)] 148 (0,0)));obtain⟨y,sP,tL,d0,d1,d2,d3,f0,f1,f2,f3⟩:=vJ mw z tQ tR;go_wp2_with fail;exact xW hs (mU.trans (mw.mono mU.size)) y (.slice (some ⟨w3.heap.size,0,none⟩) 3 3) .nilFunc 0 (.slice none 0 0) (by intro W r;simp[results,results145,go_sem,zd r]) (λhf=>zof ((hf _ hq.q).trans yr) (qt _) (vI ((hf _ (by omega)).trans (sP))) (vI ((hf _ (by omega)).trans (sP)))) (λhf=>rfl) (λhf=>vA.nil _ _ _) rfl rfl
 iterate 4
  ·have hs:zM k=some ⟨[.type],none,0,[]⟩:=by rw[kd (k:=k) (by assumption)];rfl
   refine (jl _ _ _ _).mono ?_;rintro e w4 ⟨rfl,mQ⟩;have mw:Below w3.heap.size w3 w4:=zg (zf w3 (.cells #[.func (.func 208) #[] #[]] 148 (0,0))) mQ;have yr:=zi mQ (zk w3 (.cells #[.func (.func 208) #[] #[]] 148 (0,0)));obtain⟨y,sP,tL,d0,d1,d2,d3,f0,f1,f2,f3⟩:=vJ mw z tQ tR;go_wp2_with fail;exact xW hs (mU.trans (mw.mono mU.size)) y (.slice (some ⟨w3.heap.size,0,none⟩) 1 1) .nilFunc 0 (.slice none 0 0) (by intro W r;simp[results,results145,go_sem,zd r]) (λhf=>zil ((hf _ hq.q).trans yr) (Yg _)) (λhf=>rfl) (λhf=>vA.nil _ _ _) rfl rfl
 ·have hs:zM k=some ⟨[.jx,.expr],none,0,[]⟩:=by rw[kd (k:=k) (by assumption)];rfl
  refine (jl _ _ _ _).mono ?_;rintro e w4 ⟨rfl,mQ⟩;have mw:Below w3.heap.size w3 w4:=zg (zf w3 (.cells #[.func (.func 210) #[] #[],.func (.func 204) #[] #[]] 148 (0,0))) mQ;have yr:=zi mQ (zk w3 (.cells #[.func (.func 210) #[] #[],.func (.func 204) #[] #[]] 148 (0,0)));obtain⟨y,sP,tL,d0,d1,d2,d3,f0,f1,f2,f3⟩:=vJ mw z tQ tR;go_wp2_with fail;exact xW hs (mU.trans (mw.mono mU.size)) y (.slice (some ⟨w3.heap.size,0,none⟩) 2 2) .nilFunc 0 (.slice none 0 0) (by intro W r;simp[results,results145,go_sem,zd r]) (λhf=>zcn ((hf _ hq.q).trans yr) (zjg _) (qt _)) (λhf=>rfl) (λhf=>vA.nil _ _ _) rfl rfl
 ·have hs:zM k=some ⟨[],some (.pattern),0,[]⟩:=by rw[kd (k:=k) (by assumption)];rfl
  have mw:Below w3.heap.size w3 (w3):=pG _ _;obtain⟨y,sP,tL,-⟩:=vJ mw z tQ tR;exact xW hs (mU.trans (mw.mono mU.size)) y (.slice none 0 0) (.func (.func 207) #[] #[]) 0 (.slice none 0 0) (by intro W r;simp[results,results145,go_sem,zd r]) (λhf=>vA.nil _ _ _) (λhf=>(Vl _)) (λhf=>vA.nil _ _ _) rfl rfl
 ·have hs:zM k=some ⟨[],some (.type),0,[.type]⟩:=by rw[kd (k:=k) (by assumption)];rfl
  have mw:Below w3.heap.size w3 ((w3).alloc (.cells #[.func (.func 208) #[] #[]] 148 (0,0))):=zf w3 _;have yr:((w3).alloc (.cells #[.func (.func 208) #[] #[]] 148 (0,0))).heap[w3.heap.size]? =some (.cells #[.func (.func 208) #[] #[]] 148 (0,0)):=zk w3 _;obtain⟨y,sP,tL,-⟩:=vJ mw z tQ tR;exact xW hs (mU.trans (mw.mono mU.size)) y (.slice none 0 0) (.func (.func 208) #[] #[]) 0 (.slice (some ⟨w3.heap.size,0,none⟩) 1 1) (by intro W r;simp[results,results145,go_sem,zd r]) (λhf=>vA.nil _ _ _) (λhf=>(Yg _)) (λhf=>zil ((hf _ hq.q).trans yr) (Yg _)) rfl rfl
 ·have hs:zM k=some ⟨[],some (.type),0,[]⟩:=by rw[kd (k:=k) (by assumption)];rfl
  have mw:Below w3.heap.size w3 (w3):=pG _ _;obtain⟨y,sP,tL,-⟩:=vJ mw z tQ tR;exact xW hs (mU.trans (mw.mono mU.size)) y (.slice none 0 0) (.func (.func 208) #[] #[]) 0 (.slice none 0 0) (by intro W r;simp[results,results145,go_sem,zd r]) (λhf=>vA.nil _ _ _) (λhf=>(Yg _)) (λhf=>vA.nil _ _ _) rfl rfl
 ·have hs:zM k=some ⟨[],some (.one 88),1,[]⟩:=by rw[kd (k:=k) (by assumption)];rfl
  have mw:Below w3.heap.size w3 (w3):=pG _ _;obtain⟨y,sP,tL,-⟩:=vJ mw z tQ tR;exact xW hs (mU.trans (mw.mono mU.size)) y (.slice none 0 0) (JE (w.heap.size+1+1)) 1 (.slice none 0 0) (by intro W r;simp[results,results145,go_sem,zd r]) (λhf=>vA.nil _ _ _) (λhf=>(vI ((hf _ (by omega)).trans (tL)))) (λhf=>vA.nil _ _ _) rfl rfl
 ·have hs:zM k=some ⟨[],some (.one 89),1,[]⟩:=by rw[kd (k:=k) (by assumption)];rfl
  refine (Zj 89 _).mono ?_;rintro e w4 ⟨rfl,rfl⟩;have mw:Below w3.heap.size w3 ((w3).alloc (Xa 89)):=zf w3 _;have yk:((w3).alloc (Xa 89)).heap[w3.heap.size]? =some (Xa 89):=qD _ _ _ (by simp);obtain⟨y,sP,tL,d0,d1,d2,d3,f0,f1,f2,f3⟩:=vJ mw z tQ tR;go_wp2_with fail;exact xW hs (mU.trans (mw.mono mU.size)) y (.slice none 0 0) (JE (w3.heap.size)) 1 (.slice none 0 0) (by intro W r;simp[results,results145,go_sem,zd r]) (λhf=>vA.nil _ _ _) (λhf=>vI ((hf _ (by have:=nX.q;simp;omega)).trans yk)) (λhf=>vA.nil _ _ _) rfl rfl
 ·have hs:zM k=some ⟨[],some (.one 88),0,[.type]⟩:=by rw[kd (k:=k) (by assumption)];rfl
  have mw:Below w3.heap.size w3 ((w3).alloc (.cells #[.func (.func 208) #[] #[]] 148 (0,0))):=zf w3 _;have yr:((w3).alloc (.cells #[.func (.func 208) #[] #[]] 148 (0,0))).heap[w3.heap.size]? =some (.cells #[.func (.func 208) #[] #[]] 148 (0,0)):=zk w3 _;obtain⟨y,sP,tL,-⟩:=vJ mw z tQ tR;exact xW hs (mU.trans (mw.mono mU.size)) y (.slice none 0 0) (JE (w.heap.size+1+1)) 0 (.slice (some ⟨w3.heap.size,0,none⟩) 1 1) (by intro W r;simp[results,results145,go_sem,zd r]) (λhf=>vA.nil _ _ _) (λhf=>(vI ((hf _ (by omega)).trans (tL)))) (λhf=>zil ((hf _ hq.q).trans yr) (Yg _)) rfl rfl
 ·have hs:zM k=some ⟨[.type,.expr],none,0,[]⟩:=by rw[kd (k:=k) (by assumption)];rfl
  refine (jl _ _ _ _).mono ?_;rintro e w4 ⟨rfl,mQ⟩;have mw:Below w3.heap.size w3 w4:=zg (zf w3 (.cells #[.func (.func 208) #[] #[],.func (.func 204) #[] #[]] 148 (0,0))) mQ;have yr:=zi mQ (zk w3 (.cells #[.func (.func 208) #[] #[],.func (.func 204) #[] #[]] 148 (0,0)));obtain⟨y,sP,tL,d0,d1,d2,d3,f0,f1,f2,f3⟩:=vJ mw z tQ tR;go_wp2_with fail;exact xW hs (mU.trans (mw.mono mU.size)) y (.slice (some ⟨w3.heap.size,0,none⟩) 2 2) .nilFunc 0 (.slice none 0 0) (by intro W r;simp[results,results145,go_sem,zd r]) (λhf=>zcn ((hf _ hq.q).trans yr) (Yg _) (qt _)) (λhf=>rfl) (λhf=>vA.nil _ _ _) rfl rfl
 ·have hC:=qY k 8 22 w3;generalize pn:(decide (8<=k) && decide (k<=22))=b at hC;refine hC.mono ?_;rintro e w4 ⟨rfl,nA⟩;have y:=zi nA z;have mQ:=mU.trans (nA.mono mU.size);have gR:=zh (show w.heap.size<w4.heap.size by have:=nX.q;have:=nA.size;omega);clear z tQ tR mU nA hC;cases b with
  |true=>
   have Ev:zM k=some (ZZ [.expr,.expr]):=(by decide:∀j,j<23->8<=j->zM j=some (ZZ [.expr,.expr])) k (by rw[pJ,pK,pK] at pn;omega) (by rw[pJ,pK,pK] at pn;omega);go_wp2_with fail;refine (jl _ _ _ _).mono ?_;rintro e w5 ⟨rfl,mt⟩;have AP:Below w4.heap.size w4 w5:=zg (zf w4 _) mt;have yr:=zi mt (zk w4 (.cells #[.func (.func 204) #[] #[],.func (.func 204) #[] #[]] 148 (0,0)));obtain⟨y,-,-,d0,d1,d2,d3,f0,f1,f2,f3⟩:=vJ AP y y y;go_wp2_with fail;exact xW Ev (mQ.trans (AP.mono mQ.size)) y (.slice (some ⟨w4.heap.size,0,none⟩) 2 2) .nilFunc 0 (.slice none 0 0) (by intro W r;simp[results,results145,go_sem,zd r]) (λhf=>zcn ((hf _ (by have:=gR.q;omega)).trans yr) (qt _) (qt _)) (λhf=>rfl) (λhf=>vA.nil _ _ _) rfl rfl
  |false=>
   have hn:∀j∈zjs,k≠j:=by
    simp only[zjs,List.forall_mem_cons]
    repeat' refine And.intro ?_ ?_
    all_goals first|exact kn rfl (by assumption)|(intro x hx;cases hx)
   have hs:zM k=none:=QB pn hn;clear hn;obtain⟨-,-,-,d0,d1,d2,d3,f0,f1,f2,f3⟩:=vJ bR y y y;go_wp2_with fail;obtain⟨r,aA,hB⟩:=zjj y (.slice none 0 0) (.nilFunc) (.int .i64 0) (.slice none 0 0) _ rfl;refine bodyPost_ret (v:=.tuple #[shZ,.bool false]) (by simp[results,results145,go_sem,zd r]) rfl ?_;exact⟨mQ.trans (hB _ (pC _)),.inr ⟨hs,rfl⟩⟩
def zdp(e:zM k=some h):h.first.length<=3/\h.last.length<=2/\h.least<=1:=by
 have hm:∀k,k<105->(zM k).all (λh=>decide (h.first.length<=3) && decide (h.last.length<=2) && decide (h.least<=1))=true:=by decide +kernel
 by_cases hk:k<105
 ·have:=hm k hk;rw[e] at this;simp only[Option.all_some,pJ,pK] at this;exact⟨this.1.1,this.1.2,this.2⟩
 ·exfalso;have hn:∀j,j<=104->k≠j:=λj hj=>by omega
  have TD:(decide (8<=k) && decide (k<=22))=false:=by
   rw[show decide (k<=22)=false from by rw[wQ];omega,Bool.and_false]
  rw[QB TD (λj hj=>hn j ((by decide:∀j∈zjs,j<=104) j hj))] at e;cases e
def Vn:∃a b c,prog.underlying 148=some (.func a b c):=⟨#[60],#[4],false,by kernel_rfl⟩
def YL(w:World)(d:Nat)(fn:Fn)(first cap:Array Value):(Op.equalIn (d+1) 148 (.func fn first cap) .nilFunc).run prog w=.ok false w:=by
 obtain⟨a,b,c,h⟩:=Vn;simp[Op.equalIn,run_underlying h]
def Js(w:World)(d:Nat):(Op.equalIn (d+1) 148 .nilFunc .nilFunc).run prog w=.ok true w:=by
 obtain⟨a,b,c,h⟩:=Vn;simp[Op.equalIn,run_underlying h]
def zh2(w:World)(fn:Fn)(first cap:Array Value):(binOp .neq 148 (.func fn first cap) .nilFunc).run prog w=.ok (.bool true) w:=by
 simp only[binOp];simp[Op.equal,Op.maxDepth,YL w 9999 fn first cap]
def zh1(w:World):(binOp .neq 148 .nilFunc .nilFunc).run prog w=.ok (.bool false) w:=by
 simp only[binOp];simp[Op.equal,Op.maxDepth,Js w 9999]
end
section
open Go.RowKit Lode Go.Shelf
attribute [local go_sem ↓] wp_at_zero wp_at_succ
attribute [local go_sem] QC Vo
attribute [local go_sem] zh2 zh1
open Go.Proofs.Tryz
def vA.form(h:vA w v l):∃p cap,v=.slice p l.length cap:=by
 obtain⟨p,cap,hv,_⟩:=h;exact⟨p,cap,hv⟩
theorem vA.at{w:World}{p:Option Addr}{n cap:Nat}{l:List xf}(h:vA w (.slice p n cap) l){j:Nat}{s:xf}(hj:l[j]? =some s):∃g y,p=some ⟨g,0,none⟩/\w.cell? ⟨g,j,none⟩=some y/\XC w y s:=by
 obtain⟨p',cap',hv,h⟩:=h;cases hv;rcases h with rfl|⟨g,cs,fr,rfl,hg,hc⟩
 ·simp at hj
 ·obtain⟨y,hy,hs⟩:=hc j s hj;exact⟨g,y,rfl,(zd hg j).trans hy,hs⟩
def zkm(h:xA)(v:Value)(many:Nat)(w:World)(hv:ShV w v h)(h1:h.first.length<=3)(h2:h.last.length<=2)(hm:many<=1000000):Calls prog 147 #[v,.int .i64 many] w (ue w (.bool (h.fits many))):=by
 obtain⟨fv,mv,lv,rfl,hf,bB,hl⟩:=hv;obtain⟨fp,fc,rfl⟩:=hf.form;obtain⟨lp,lc,rfl⟩:=hl.form;obtain⟨fi,mo,le,la⟩:=h;unfold xA.fits;simp only at h1 h2 bB ⊢;clear hf hl;generalize fi.length=a at *;generalize la.length=b at *;have hz:=zk w (.cells #[.slice fp a fc,mv,.int .i64 le,.slice lp b lc] 151 (0,0));have hA:=zf w (.cells #[.slice fp a fc,mv,.int .i64 le,.slice lp b lc] 151 (0,0));have c0:=zd hz 0;have c1:=zd hz 1;have c2:=zd hz 2;have c3:=zd hz 3;clear hz;have rE:=pF ((many:Int)-a) (by omega);have tK:=pF ((many:Int)-a-b) (by omega);by_cases pk:a+b+le<=many
 ·have RA:(le:Int)<=(many:Int)-a-b:=by omega
  rw[show decide (a+b+le<=many)=true from wU pk,Bool.true_and];cases mo with
  |none=>
   have bB:mv=.nilFunc:=bB;subst bB;go_enter func147,ntmps147;go_wp2;go_ret;refine⟨?_,hA⟩;have e:((many:Int)-a-b == 0)=((none:Option xf).isSome || decide (many=a+b)):=by
    rw[pP];simp;omega
   rw[<-e];rfl
  |some s=>
   obtain⟨f,caps,rfl,_,_⟩:=XC.use bB;go_enter func147,ntmps147;go_wp2;go_ret;exact⟨rfl,hA⟩
 ·have RA:¬((le:Int)<=(many:Int)-a-b):=by omega
  rw[show decide (a+b+le<=many)=false from wR pk,Bool.false_and];go_enter func147,ntmps147;go_wp2;go_ret;exact⟨rfl,hA⟩
def zma{many:Nat}(hf:h.fits many=true)(hk:k<many):∃s,h.at_ k many=some s:=by
 unfold xA.fits at hf;unfold xA.at_;rw[pJ,pK,wG,pK] at hf;by_cases h1:k<h.first.length
 ·rw[if_pos h1];exact⟨_,glE h1⟩
 ·rw[if_neg h1];by_cases h2:many<=k+h.last.length
  ·rw[if_pos h2];exact⟨_,glE (by omega)⟩
  ·rw[if_neg h2];rcases hf.2 with h3|h3
   ·exact Option.isSome_iff_exists.1 h3
   ·omega
def znI(h:xA)(v:Value)(k many:Nat)(s:xf)(w:World)(hv:ShV w v h)(h1:h.first.length<=3)(h2:h.last.length<=2)(hm:many<=1000000)(hk:k<many)(hs:h.at_ k many=some s):Calls prog 149 #[v,.int .i64 k,.int .i64 many] w λe w'=>∃y,e=.returned y/\XC w' y s/\Below w.heap.size w w':=by
 obtain⟨fv,mv,lv,rfl,hf,bB,hl⟩:=hv;obtain⟨fp,fc,rfl⟩:=hf.form;obtain⟨lp,lc,rfl⟩:=hl.form;obtain⟨fi,mo,le,la⟩:=h;unfold xA.at_ at hs;simp only at h1 h2 bB hs hf hl ⊢;obtain⟨a,ha⟩:=exE (fi.length);obtain⟨b,hb⟩:=exE (la.length);rw[ha,hb] at hs;rw[ha] at h1 hf ⊢;rw[hb] at h2 hl ⊢;have hz:=zk w (.cells #[.slice fp a fc,mv,.int .i64 le,.slice lp b lc] 151 (0,0));have hA:=zf w (.cells #[.slice fp a fc,mv,.int .i64 le,.slice lp b lc] 151 (0,0));have c0:=zd hz 0;have c1:=zd hz 1;have c3:=zd hz 3;clear hz;have rE:=pF ((many:Int)-b) (by omega);by_cases cW:k<a
 ·rw[if_pos cW] at hs;have EE:(k:Int)<(a:Int):=by omega
  have hk0:¬((k:Int)<0):=by omega
  obtain⟨g,y,rfl,hy,AG⟩:=hf.at hs;have Br:=zl hA hy;have Ta:=zh (AG.below hA);clear hf hl AG hs;go_enter func149,ntmps149;go_wp2;go_ret;exact⟨y,rfl,Ta.q,hA⟩
 ·rw[if_neg cW] at hs;have EE:¬((k:Int)<(a:Int)):=by omega
  by_cases IC:many<=k+b
  ·rw[if_pos IC] at hs;have EF:(many:Int)-b<=(k:Int):=by omega
   obtain⟨j,hj⟩:=exE (k+b-many);rw[hj] at hs;have tK:IntKind.i64.wrap ((k:Int)-((many:Int)-b))=(j:Int):=by
    rw[show (k:Int)-((many:Int)-b)=(j:Int) by omega];exact pF _ ⟨by omega,by omega⟩
   have th:¬((j:Int)<0):=by omega
   have hjb:(j:Int)<(b:Int):=by omega
   obtain⟨g,y,rfl,hy,AG⟩:=hl.at hs;have Br:=zl hA hy;have Ta:=zh (AG.below hA);clear hf hl AG hs hj;go_enter func149,ntmps149;go_wp2;go_ret;exact⟨y,rfl,Ta.q,hA⟩
  ·rw[if_neg IC] at hs;have EF:¬((many:Int)-b<=(k:Int)):=by omega
   subst hs;have Ta:=zh (XC.below bB hA);clear hf hl bB;go_enter func149,ntmps149;go_wp2;go_ret;exact⟨_,rfl,Ta.q,hA⟩
end
section
open Go.RowKit Lode Go.Shelf
attribute [local go_sem ↓] wp_at_zero wp_at_succ
open Go.Proofs.Tryz
def zbo(v:Value)(f:Nat)(lb:Array Value)(l:List Int)(p:Int->Bool)(w:World)(rZ:Enters prog f)(hK:KS w v l)(hn:l.length<=100000)(hp:∀W (k:Int),Below w.heap.size w W->k∈l->Calls prog f (#[.int .i64 k] ++ lb) W (ue W (.bool (p k)))):
 Calls prog 216 #[v,.func (.func f) #[] lb] w (ue w (.int .i64 (Qv p l))):=by
 obtain⟨q,c,rfl⟩:=hK.form;obtain⟨n,rg⟩:∃n,l.length=n:=⟨_,rfl⟩;rw[rg] at hn hK ⊢;replace rZ:=zh rZ;replace hK:=zh hK;replace hp:=zh hp;replace rg:=zh rg;go_enter func216,ntmps216;go_wp2;go_loopw [8] (zhB p l w) (λi _=>n-(intOf i).toNat)
 case atStart=>exact⟨0,rfl,pU _,λi y h=>absurd h (wF _),pG _ _⟩
 case round=>
  obtain⟨j,rfl,hj,rR,hb⟩:=hrel;replace rR:=zh rR;rw[rg.q] at hj;by_cases mD:j<n
  ·have me:(j:Int)<(n:Int):=by omega
   have hy:=pF ((j:Int)+1) (by omega);have py:j<l.length:=by rw[rg.q];omega
   have hx:l[j]? =some (l.getD j 0):=by rw[pA,glE py];rfl
   obtain⟨g,off,rfl,_,d0⟩:=(hK.q.below hb).at py;have hC:=hp.q wr _ hb (wH hx);have wy:=λW=>rZ.q (#[.int .i64 (l.getD j 0)] ++ lb) W
   have HX:=zh (And.intro hx rR.q);clear hx rR;generalize eA:p (l.getD j 0)=b at *;replace eA:=zh eA;generalize l.getD j 0=z at *;go_wp2_with fail;refine hC.mono ?_;rintro e w1 ⟨rfl,mF⟩;cases b with
   |true=>
    go_wp2;go_ret;refine⟨?_,zg hb mF⟩;rw[QV p l j _ HX.q.1 eA.q HX.q.2];rfl
   |false=>
    go_wp2;go_roundw
    case rel=>
     refine⟨j+1,by simp,by rw[rg.q];omega,λi y hi cx=>?_,zg hb mF⟩;by_cases e:i=j
     ·subst e;rw[HX.q.1] at cx;cases cx;exact eA.q
     ·exact HX.q.2 i y (by omega) cx
    case measure=>simp[intOf];omega
  ·have me:¬((j:Int)<(n:Int)):=by omega
   go_wp2;go_ret;refine⟨?_,hb⟩;rw[Xd p l (λi y h=>rR.q i y (by have:=(gtL h);rw[rg.q] at this;omega) h)];rfl
def KV(p:α->Bool)(l:List α):(∃(j:Nat) (x:α),Qv p l=j/\l[j]? =some x/\l.find? p=some x)\/(Qv p l= -1/\l.find? p=none):=by
 unfold Qv;cases hf:l.findIdx? p with
 |none=>
  refine .inr ⟨rfl,?_⟩;rw[List.findIdx?_eq_none_iff] at hf;rw[List.find?_eq_none];intro x hx e;rw[hf x hx] at e;cases e
 |some j=>
  rw[List.findIdx?_eq_some_iff_getElem] at hf;obtain⟨hj,hp,rR⟩:=hf;refine .inl ⟨j,l[j],rfl,glE hj,?_⟩;rw[List.find?_eq_some_iff_getElem];exact⟨hp,j,hj,rfl,λi hi=>by have:=rR i hi;simpa using this⟩
def zcB(p:α->Bool)(l:List α):decide (0<=Qv p l)=l.any p:=by
 rcases KV p l with⟨j,x,hj,hx,hf⟩|⟨hj,hf⟩
 ·rw[hj,wU (by omega)];symm;rw[gF];exact⟨x,wH hx,List.find?_some hf⟩
 ·rw[hj,wR (by omega)];symm;rw[List.any_eq_false];rw[List.find?_eq_none] at hf;exact hf
def ziI(v:Value)(f:Nat)(lb:Array Value)(l:List Int)(p:Int->Bool)(w:World)(rZ:Enters prog f)(hK:KS w v l)(hn:l.length<=100000)(hp:∀W (k:Int),Below w.heap.size w W->k∈l->Calls prog f (#[.int .i64 k] ++ lb) W (ue W (.bool (p k)))):
 Calls prog 214 #[v,.func (.func f) #[] lb] w (ue w (.bool (l.any p))):=by
 have hI:=zh (zbo v f lb l p w rZ hK hn hp);have he:=zcB p l;rw[<-he];clear he hp rZ;obtain⟨q,c,rfl⟩:=hK.form;clear hK;generalize Qv p l=z at *;generalize l.length=n at *;go_enter func214,ntmps214;go_wp2_with fail;refine hI.q.mono ?_;rintro e w1 ⟨rfl,hb⟩;go_wp2;go_ret;exact⟨rfl,hb⟩
abbrev fmO(nv iv:Value)(next:Int):Obj:=.cells #[nv,iv,.int .i64 next] 117 (0,0)
abbrev Kr(F:Nat):Obj:=.cells #[.pointer (some ⟨F,0,none⟩)] 115 (0,0)
def zbX(k:Int)(B F n:Nat)(np:Option Addr)(nc:Nat)(iv:Value)(next:Int)(w:World)(hB:w.heap[B]? =some (Kr F))(hF:w.heap[F]? =some (fmO (.slice np n nc) iv next)):
 Calls prog 215 #[.int .i64 k,.pointer (some ⟨B,0,none⟩)] w (ue w (.bool (decide (k<0) || decide ((n:Int)<=k)))):=by
 have c0:=zd hB 0;have c1:=zd hF 0;clear hB hF;by_cases h:k<0
 ·rw[show decide (k<0)=true from wU h,Bool.true_or];go_enter func215,ntmps215;go_wp2;go_ret;exact⟨rfl,pG _ _⟩
 ·rw[show decide (k<0)=false from wR h,Bool.false_or];go_enter func215,ntmps215;go_wp2;go_ret;exact⟨rfl,pG _ _⟩
def zbW(k:Int)(B F:Nat)(nv iv:Value)(next:Int)(l:List Nd)(kv:List Value)(w:World)(hB:w.heap[B]? =some (Kr F))(hF:w.heap[F]? =some (fmO nv iv next))(hN:NS w nv l kv)(hk:0<=k/\k<(l.length:Int)):
 Calls prog 217 #[.int .i64 k,.pointer (some ⟨B,0,none⟩)] w (ue w (.bool (zD l k == 65))):=by
 obtain⟨j,rfl⟩:=pO hk.1;have py:j<l.length:=by omega
 obtain⟨np,nc,rfl⟩:=hN.form;obtain⟨x,hx⟩:∃x,l[j]? =some x:=⟨_,glE py⟩;obtain⟨g,off,u,rfl,hA⟩:=hN.at hx;have a0:=hA.c0;have cW:zD l (j:Int)=x.kind:=by
  unfold zD;rw[pZ,hx];rfl
 rw[cW];have c0:=zd hB 0;have c1:=zd hF 0;generalize hn:l.length=n at *;have Lz:(j:Int)<(n:Int):=by omega
 have th:¬((j:Int)<0):=by omega
 clear hB hF hN hA hx cW hk;go_enter func217,ntmps217;go_wp2;go_ret;refine⟨?_,pG _ _⟩;rw[show (x.kind == 65)=((x.kind:Int) == 65) by rw[pP];simp;omega];rfl
def zkn{l:List Int}:decide (l.length<=l.findIdx p+1)=(decide (Qv p l<0) || (Qv p l == (l.length:Int)-1)):=by
 unfold Qv;cases hf:l.findIdx? p with
 |none=>
  rw[List.findIdx?_eq_none_iff_findIdx_eq] at hf;rw[hf];simp
 |some j=>
  have hj:l.findIdx p=j:=by
   rw[List.findIdx?_eq_some_iff_findIdx_eq] at hf;exact hf.2
  have py:j<l.length:=by
   rw[List.findIdx?_eq_some_iff_findIdx_eq] at hf;exact hf.1
  rw[hj,pP];simp;omega
def zdn(x:Nd)(u:Value)(F:Nat)(nv iv:Value)(next:Int)(l:List Nd)(kv:List Value)(w:World)(hF:w.heap[F]? =some (fmO nv iv next))(hN:NS w nv l kv)(hk:KS w u x.kz)(mf:x.kz.length<=100000)(tS:∀y∈l,y.kind<=255):
 Calls prog 148 #[.pointer (some ⟨F,0,none⟩),YH x u] w (ue w (.bool (xT l x))):=by
 obtain⟨r,hr⟩:=exE (xT l x);rw[hr];unfold xT at hr;obtain⟨up,uc,rfl⟩:=hk.form;obtain⟨k,t,n,ks,a⟩:=x;simp only at hr mf hk ⊢;obtain⟨m,hm⟩:=exE (ks.length);rw[hm] at hk mf ⊢;obtain⟨np,nc,rfl⟩:=hN.form;have pe:=zk w (Kr F);have sR:=zf w (Kr F);have mY:=zk (w.alloc (Kr F)) (.cells #[.int .u8 k,.string ⟨t.toArray⟩,.int .i64 n,.slice up m uc,.int .i64 a] 60 (0,0));have aq:=zf (w.alloc (Kr F)) (.cells #[.int .u8 k,.string ⟨t.toArray⟩,.int .i64 n,.slice up m uc,.int .i64 a] 60 (0,0));have Ml:=zi aq pe;have tw:=zg sR aq;have BN:=zi tw hF;have cI:=hN.below tw;have nO:=hk.below tw;clear pe hF hN hk sR aq;have nX:(w.alloc (Kr F)).heap.size=w.heap.size+1:=by simp
 rw[nX] at mY;have LD:=zh (ziI (.slice up m uc) 215 #[.pointer (some ⟨w.heap.size,0,none⟩)] ks (λk=>decide (k<0) || decide ((l.length:Int)<=k)) _ (enters_of (P:=prog) func215 (by kernel_rfl) rfl) nO (by omega) (λW k hb _=>zbX k w.heap.size F l.length np nc iv next W (zi hb Ml) (zi hb BN)));have LK:=zh (λ(ml:∀k∈ks,0<=k/\k<(l.length:Int)) (W0:World) (nA:Below (((w.alloc (Kr F)).alloc (.cells #[.int .u8 k,.string ⟨t.toArray⟩,.int .i64 n,.slice up m uc,.int .i64 a] 60 (0,0)))).heap.size _ W0)=>zbo (.slice up m uc) 217 #[.pointer (some ⟨w.heap.size,0,none⟩)] ks (λk=>zD l k == 65) W0 (enters_of (P:=prog) func217 (by kernel_rfl) rfl) (nO.below nA) (by omega) (λW k hb dx=>zbW k w.heap.size F (.slice np l.length nc) iv next l kv W (zi hb (zi nA Ml)) (zi hb (zi nA BN)) ((cI.below nA).below hb) (ml k dx)));have MS:∀(fn:Fn) (first cap:Array Value) (w:World),(Instr.makeFunc fn first cap).run prog w=.ok (.func fn first cap) w:=λ_ _ _ _=>rfl
 generalize DZ:((w.alloc (Kr F)).alloc (.cells #[.int .u8 k,.string ⟨t.toArray⟩,.int .i64 n,.slice up m uc,.int .i64 a] 60 (0,0)))=w0 at *;have c1:=zd mY 0;have c2:=zd mY 2;have c3:=zd mY 3;have HN:=zh cI;have HK:=zh nO;have HM:=zh hm;have HR:=zh hr;have HF:=zh BN;have GT:=zh Ml;have eI:=zh mY;clear cI nO hm hr BN Ml mY nX;go_enter func148,ntmps148;go_wp2_with fail;refine LD.q.mono ?_;rintro e w1 ⟨rfl,mF⟩;have sd:=zh (zg tw mF);have N1:=zh (HN.q.below mF);have K1:=zh (HK.q.below mF);have F1:=zh (zi mF HF.q);have P1:=zh (zi mF GT.q);have X1:=zh (zi mF eI.q);have IX:=zh (λml=>LK.q ml w1 mF);clear c1 c2 c3 LD LK HN HK HF GT eI mF tw;have c1:=zd X1.q 0;have c2:=zd X1.q 2;have c3:=zd X1.q 3;cases fN:(ks.any λk=>decide (k<0) || decide ((l.length:Int)<=k)) with
 |true=>
  have mO:false=r:=by
   have:=HR.q;rw[fN,if_pos rfl] at this;exact this
  subst mO;go_wp2;go_ret;exact⟨rfl,sd.q⟩
 |false=>
  have ml:∀k∈ks,0<=k/\k<(l.length:Int):=by
   rw[List.any_eq_false] at fN;intro k hk;have:=fN k hk;simp at this;omega
  have mO:(if k == 28 then n == 0 || (match ks.getLast? with|some k=>zz (zD l k)|none=>false) else if k == 29 then decide (ks.length<=3) else if k == 35 then decide (ks.length<=(ks.findIdx λk=>zD l k == 65)+1) else true)=r:=by
   have:=HR.q;rw[fN,if_neg (by decide)] at this;exact this
  have HIN:=zh ml;clear ml fN HR;by_cases PO:k=28
  ·subst PO;have mS:(n == 0 || (match ks.getLast? with|some k=>zz (zD l k)|none=>false))=r:=mO;by_cases rp:n=0
   ·subst rp;have pu:true=r:=mS;subst pu;clear mO mS;go_wp2_with fail;go_quiet (fail);go_wp2;go_ret;exact⟨rfl,zO sd.q _⟩
   ·have rW:(n == 0)=false:=bfE rp
    rw[rW,Bool.false_or] at mS;by_cases RE:m=0
    ·subst RE;have pu:false=r:=by
      have mq:ks=[]:=pT HM.q;rw[mq] at mS;exact mS
     subst pu;clear mO mS;go_wp2_with fail;go_quiet (fail);go_wp2;go_ret;exact⟨rfl,zO sd.q _⟩
    ·obtain⟨q,hq⟩:∃q,m=q+1:=⟨m-1,by omega⟩;subst hq;have db:q<ks.length:=by rw[HM.q];omega
     have NY:ks.getLast? =some (ks.getD q 0):=by
      rw[List.getLast?_eq_getElem?,HM.q,Nat.add_sub_cancel,pA,glE db];rfl
     rw[NY] at mS;simp only at mS;have hzv:=HIN.q (ks.getD q 0) (by rw[pA,glE db];exact wE db);obtain⟨g,off,rfl,_,d0⟩:=K1.q.at db;generalize ks.getD q 0=z at *;obtain⟨zn,rfl⟩:=pO hzv.1;have SZ:zn<l.length:=by omega
     obtain⟨x9,Bq⟩:∃x,l[zn]? =some x:=⟨_,glE SZ⟩;obtain⟨g9,off9,u9,rfl,hA⟩:=N1.q.at Bq;have pu:zz x9.kind=r:=by
      rw[<-mS];unfold zD;rw[pZ,Bq];rfl
     have h9:=tS x9 (wH Bq);have hw:IntKind.i64.wrap (q:Int)=(q:Int):=pF _ ⟨by omega,by omega⟩;have gL:¬((q:Int)<0):=by omega
     have hqm:(q:Int)<(q:Int)+1:=by omega
     have pe:¬((zn:Int)<0):=by omega
     have FY:(zn:Int)<(l.length:Int):=by omega
     have tH:(0:Int)<(q:Int)+1:=by omega
     have LG:=zh (λW (hb:Below w1.heap.size w1 W)=>Qn x9 u9 W (hA.kz.below hb) h9);have WI:=hA.kz.form;obtain⟨p9,cp9,rfl⟩:=WI;obtain⟨y0,y1,y2,y3,y4⟩:=x9;have a0:=hA.c0;have a1:=hA.c1;have a2:=hA.c2;have a3:=hA.c3;have a4:=hA.c4;simp only at a0 a1 a2 a3 a4 pu LG;generalize y3.length=n9 at *;have hS:∀W,Cl w1.drew W->W.cell? ⟨w.heap.size+1,2,none⟩=some (.int .i64 n)/\W.cell? ⟨w.heap.size+1,3,none⟩=some (.slice (some ⟨g,off,none⟩) (q+1) uc)/\W.cell? ⟨w.heap.size,0,none⟩=some (.pointer (some ⟨F,0,none⟩))/\W.cell? ⟨F,0,none⟩=some (.slice (some ⟨g9,off9,none⟩) l.length nc)/\W.cell? ⟨g,off+q,none⟩=some (.int .i64 zn)/\W.cell? ⟨g9,off9+zn*5,none⟩=some (.int .u8 y0)/\W.cell? ⟨g9,off9+zn*5+1,none⟩=some (.string ⟨y1.toArray⟩)/\W.cell? ⟨g9,off9+zn*5+2,none⟩=some (.int .i64 y2)/\W.cell? ⟨g9,off9+zn*5+3,none⟩=some (.slice p9 n9 cp9)/\W.cell? ⟨g9,off9+zn*5+4,none⟩=some (.int .i64 y4):=λW h=>by
      have hb:=zg (pG w1.heap.size w1).drew h.below;exact⟨zl hb (zd X1.q 2),zl hb (zd X1.q 3),zl hb (zd P1.q 0),zl hb (zd F1.q 0),zl hb d0,zl hb a0,zl hb a1,zl hb a2,zl hb a3,zl hb a4⟩
     clear mO mS hA Bq NY IX d0 a0 a1 a2 a3 a4;go_wp2_with fail;clear c1 c2 c3;refine zb6 [(0,0),(1,1),(2,0),(3,0),(4,0),(5,0),(6,0),(7,1),(8,0),(9,0),(10,0),(11,1),(12,0),(13,1),(14,0),(15,0),(16,0),(17,1),(18,0),(19,1),(20,2),(21,0),(22,0),(23,0)] ?_;refine goM ?_;refine yH rfl rfl (λK hK W hW=>?_);go_simp;have er:=zg (pG w1.heap.size w1).drew hW.below;refine (LG.q W er).mono ?_;rintro e w4 ⟨rfl,mQ⟩;go_simp;refine⟨ZL.2 mQ,hK _ _ ?_⟩;clear hK K
     try simp only[Act.put,yh,yf,yg]
     clear hS;have hS:∀W,Cl w4 W->True/\True:=λ_ _=>⟨trivial,trivial⟩
     refine goM ?_;refine zF λW' Th=>?_
     go_wp2;go_ret;refine⟨?_,zg (zg (zg sd.q er) mQ) Th.below⟩;rw[<-pu];rfl
  ·have i28:((k:Int) == 28)=false:=bfE (by omega)
   by_cases Gq:k=29
   ·subst Gq;have mS:decide (ks.length<=3)=r:=mO;rw[HM.q] at mS;have pu:decide ((m:Int)<=3)=r:=by rw[<-mS];exact decide_eq_decide.2 (by omega)
    clear mO mS;go_wp2;go_ret;exact⟨by rw[<-pu];rfl,sd.q⟩
   ·have i29:((k:Int) == 29)=false:=bfE (by omega)
    by_cases Gs:k=35
    ·subst Gs;have mS:decide (ks.length<=(ks.findIdx λk=>zD l k == 65)+1)=r:=mO;rw[zkn,HM.q] at mS;have IX2:=zh (IX.q HIN.q);generalize bU:Qv (λk=>zD l k == 65) ks=ix at *;clear mO IX;have hw:=pF ((m:Int)-1) (by omega);go_wp2_with fail;refine IX2.q.mono ?_;rintro e w2 ⟨rfl,mM⟩;by_cases eC:ix<0
     ·rw[show decide (ix<0)=true from wU eC,Bool.true_or] at mS;subst mS;go_wp2;go_ret;exact⟨rfl,zg sd.q mM⟩
     ·rw[show decide (ix<0)=false from wR eC,Bool.false_or] at mS;go_wp2;go_ret;refine⟨?_,zg sd.q mM⟩;show Ending.returned (.bool (decide (ix<0) || r))=_
      rw[wR (by omega),Bool.false_or]
    ·have i35:((k:Int) == 35)=false:=bfE (by omega)
     have mS:true=r:=by
      rw[<-mO,if_neg (by simpa using PO),if_neg (by simpa using Gq),if_neg (by simpa using Gs)]
     subst mS;clear mO;go_wp2;go_ret;exact⟨rfl,sd.q⟩
