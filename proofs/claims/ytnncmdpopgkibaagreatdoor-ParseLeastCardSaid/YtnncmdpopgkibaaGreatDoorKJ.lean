/-
  A part of the proof: contracts of functions; no conditions.
-/
import Derived.Test.YtnncmdpopgkibaaGreatDoorKI
set_option maxRecDepth 100000
set_option maxHeartbeats 40000000
set_option linter.unusedSimpArgs false
set_option linter.unusedVariables false
namespace Go.Proofs.YtnncmdpopgkibaaGreatDoor
section
open Go.RowKit Lode Go.Shelf
attribute [local go_sem ↓] Go.wp_at_zero Go.wp_at_succ
open Go.Proofs.Tryz
theorem qL(k a b:Nat)(w:World):Calls prog 115 #[.int .u8 k,.int .u8 a,.int .u8 b] w (kQ w (.bool (decide (a<=k) && decide (k<=b)))):=by
 by_cases h1:a<=k
 ·have h1':(a:Int)<=(k:Int):=by omega
  by_cases h2:k<=b
  ·have h2':(k:Int)<=(b:Int):=by omega
   go_enter func115,ntmps115;go_wp2;go_ret;exact⟨by simp[h1,h2],pF _ _⟩
  ·have h2':¬((k:Int)<=(b:Int)):=by omega
   go_enter func115,ntmps115;go_wp2;go_ret;exact⟨by simp[h1,h2],pF _ _⟩
 ·have h1':¬((a:Int)<=(k:Int)):=by omega
  go_enter func115,ntmps115;go_wp2;go_ret;exact⟨by simp[h1],pF _ _⟩
theorem Vu(x:Nd)(u:Value)(w:World)(hk:KS w u x.kids)(hx:x.kind<=255):Calls prog 179 #[uV x u] w (kQ w (.bool (yN.is .pattern x.kind))):=by
 obtain⟨p,c,rfl⟩:=hk.form;clear hk;obtain⟨k,t,n,ks,a⟩:=x;simp only at hx ⊢;generalize ks.length=m at *;have hz:=zk w (.cells #[.int .u8 k,.string ⟨t.toArray⟩,.int .i64 n,.slice p m c,.int .i64 a] 45 (0,0));have hA:=zf w (.cells #[.int .u8 k,.string ⟨t.toArray⟩,.int .i64 n,.slice p m c,.int .i64 a] 45 (0,0));have hlt:w.heap.size<(w.alloc (.cells #[.int .u8 k,.string ⟨t.toArray⟩,.int .i64 n,.slice p m c,.int .i64 a] 45 (0,0))).heap.size:=by simp
 have c0:=zd hz 0;clear hz;go_enter func179,ntmps179;go_wp2_with fail;refine (qL k 66 70 _).mono ?_;rintro e w1 ⟨rfl,hb⟩;go_wp2;go_ret;exact⟨rfl,zg hA hb⟩
theorem zd7(x:Nd)(u:Value)(w:World)(hk:KS w u x.kids)(hx:x.kind<=255):Calls prog 180 #[uV x u] w (kQ w (.bool (yN.is .type x.kind))):=by
 obtain⟨p,c,rfl⟩:=hk.form;clear hk;obtain⟨k,t,n,ks,a⟩:=x;simp only at hx ⊢;generalize ks.length=m at *;have hz:=zk w (.cells #[.int .u8 k,.string ⟨t.toArray⟩,.int .i64 n,.slice p m c,.int .i64 a] 45 (0,0));have hA:=zf w (.cells #[.int .u8 k,.string ⟨t.toArray⟩,.int .i64 n,.slice p m c,.int .i64 a] 45 (0,0));have hlt:w.heap.size<(w.alloc (.cells #[.int .u8 k,.string ⟨t.toArray⟩,.int .i64 n,.slice p m c,.int .i64 a] 45 (0,0))).heap.size:=by simp
 have c0:=zd hz 0;clear hz;go_enter func180,ntmps180;go_wp2_with fail;refine (qL k 80 87 _).mono ?_;rintro e w1 ⟨rfl,hb⟩;go_wp2;go_ret;exact⟨rfl,zg hA hb⟩
theorem zgx(x:Nd)(u:Value)(w:World)(hk:KS w u x.kids)(hx:x.kind<=255):Calls prog 181 #[uV x u] w (kQ w (.bool (yN.is .way x.kind))):=by
 obtain⟨p,c,rfl⟩:=hk.form;clear hk;obtain⟨k,t,n,ks,a⟩:=x;simp only at hx ⊢;generalize ks.length=m at *;have hz:=zk w (.cells #[.int .u8 k,.string ⟨t.toArray⟩,.int .i64 n,.slice p m c,.int .i64 a] 45 (0,0));have hA:=zf w (.cells #[.int .u8 k,.string ⟨t.toArray⟩,.int .i64 n,.slice p m c,.int .i64 a] 45 (0,0));have hlt:w.heap.size<(w.alloc (.cells #[.int .u8 k,.string ⟨t.toArray⟩,.int .i64 n,.slice p m c,.int .i64 a] 45 (0,0))).heap.size:=by simp
 have c0:=zd hz 0;clear hz;go_enter func181,ntmps181;go_wp2_with fail;refine (qL k 63 65 _).mono ?_;rintro e w1 ⟨rfl,hb⟩;go_wp2;go_ret;exact⟨rfl,zg hA hb⟩
theorem zeb(x:Nd)(u:Value)(w:World)(hk:KS w u x.kids)(hx:x.kind<=255):Calls prog 104 #[uV x u] w (kQ w (.bool (yN.is .item x.kind))):=by
 obtain⟨p,c,rfl⟩:=hk.form;clear hk;obtain⟨k,t,n,ks,a⟩:=x;simp only at hx ⊢;generalize ks.length=m at *;have hz:=zk w (.cells #[.int .u8 k,.string ⟨t.toArray⟩,.int .i64 n,.slice p m c,.int .i64 a] 45 (0,0));have hA:=zf w (.cells #[.int .u8 k,.string ⟨t.toArray⟩,.int .i64 n,.slice p m c,.int .i64 a] 45 (0,0));have hlt:w.heap.size<(w.alloc (.cells #[.int .u8 k,.string ⟨t.toArray⟩,.int .i64 n,.slice p m c,.int .i64 a] 45 (0,0))).heap.size:=by simp
 have c0:=zd hz 0;clear hz;go_enter func104,ntmps104;go_wp2_with fail;refine (qL k 100 104 _).mono ?_;rintro e w1 ⟨rfl,hb⟩;go_wp2;go_ret;exact⟨rfl,zg hA hb⟩
theorem zec(x:Nd)(u:Value)(w:World)(hk:KS w u x.kids)(hx:x.kind<=255):Calls prog 178 #[uV x u] w (kQ w (.bool (yN.is .els x.kind))):=by
 obtain⟨p,c,rfl⟩:=hk.form;clear hk;obtain⟨k,t,n,ks,a⟩:=x;simp only at hx ⊢;generalize ks.length=m at *;have hz:=zk w (.cells #[.int .u8 k,.string ⟨t.toArray⟩,.int .i64 n,.slice p m c,.int .i64 a] 45 (0,0));have hA:=zf w (.cells #[.int .u8 k,.string ⟨t.toArray⟩,.int .i64 n,.slice p m c,.int .i64 a] 45 (0,0));have hlt:w.heap.size<(w.alloc (.cells #[.int .u8 k,.string ⟨t.toArray⟩,.int .i64 n,.slice p m c,.int .i64 a] 45 (0,0))).heap.size:=by simp
 have c0:=zd hz 0;clear hz;by_cases h1:k=28
 ·subst h1;go_enter func178,ntmps178;go_wp2;go_ret;exact⟨rfl,hA⟩
 ·have i1:((k:Int) == 28)=false:=bfE (by omega)
  have e2:((k:Int) == 29)=(k == 29):=by rw[pW];simp;omega
  go_enter func178,ntmps178;go_wp2;go_ret;refine⟨?_,hA⟩;simp[yN.is,h1]
  try omega
theorem zcY(x:Nd)(u:Value)(w:World)(hk:KS w u x.kids)(hx:x.kind<=255):Calls prog 182 #[uV x u] w (kQ w (.bool (yN.is .Kj x.kind))):=by
 obtain⟨p,c,rfl⟩:=hk.form;clear hk;obtain⟨k,t,n,ks,a⟩:=x;simp only at hx ⊢;generalize ks.length=m at *;have hz:=zk w (.cells #[.int .u8 k,.string ⟨t.toArray⟩,.int .i64 n,.slice p m c,.int .i64 a] 45 (0,0));have hA:=zf w (.cells #[.int .u8 k,.string ⟨t.toArray⟩,.int .i64 n,.slice p m c,.int .i64 a] 45 (0,0));have hlt:w.heap.size<(w.alloc (.cells #[.int .u8 k,.string ⟨t.toArray⟩,.int .i64 n,.slice p m c,.int .i64 a] 45 (0,0))).heap.size:=by simp
 have c0:=zd hz 0;clear hz;by_cases h1:k=5
 ·subst h1;go_enter func182,ntmps182;go_wp2;go_ret;exact⟨rfl,hA⟩
 ·have i1:((k:Int) == 5)=false:=bfE (by omega)
  have e2:((k:Int) == 23)=(k == 23):=by rw[pW];simp;omega
  go_enter func182,ntmps182;go_wp2;go_ret;refine⟨?_,hA⟩;simp[yN.is,h1]
  try omega
theorem Xg(x:Nd)(u:Value)(w:World)(hk:KS w u x.kids)(hx:x.kind<=255):Calls prog 176 #[uV x u] w (kQ w (.bool (yN.is .expr x.kind))):=by
 obtain⟨p,c,rfl⟩:=hk.form;clear hk;obtain⟨k,t,n,ks,a⟩:=x;simp only at hx ⊢;generalize ks.length=m at *;have hz:=zk w (.cells #[.int .u8 k,.string ⟨t.toArray⟩,.int .i64 n,.slice p m c,.int .i64 a] 45 (0,0));have hA:=zf w (.cells #[.int .u8 k,.string ⟨t.toArray⟩,.int .i64 n,.slice p m c,.int .i64 a] 45 (0,0));have hlt:w.heap.size<(w.alloc (.cells #[.int .u8 k,.string ⟨t.toArray⟩,.int .i64 n,.slice p m c,.int .i64 a] 45 (0,0))).heap.size:=by simp
 unfold yN.is zx;simp only;have hC:=qL k 1 51;generalize hb51:(decide (1<=k) && decide (k<=51))=b at *;have c0:=fun W (h:Below _ _ W)=>zd (zh h hz) 0
 clear hz;cases b with
 |false=>
  go_enter func176,ntmps176;have c1:=c0 _ bR;go_wp2_with fail;refine (hC _).mono ?_;rintro e w1 ⟨rfl,hb⟩;go_wp2;go_ret;exact⟨rfl,zg hA hb⟩
 |true=>
  by_cases h27:k=27
  ·subst h27;go_enter func176,ntmps176;have c1:=c0 _ bR;go_wp2_with fail;refine (hC _).mono ?_;rintro e w1 ⟨rfl,hb⟩;have c2:=c0 _ hb;go_wp2;go_ret;exact⟨rfl,zg hA hb⟩
  ·by_cases h32:k=32
   ·subst h32;go_enter func176,ntmps176;have c1:=c0 _ bR;go_wp2_with fail;refine (hC _).mono ?_;rintro e w1 ⟨rfl,hb⟩;have c2:=c0 _ hb;go_wp2;go_ret;exact⟨rfl,zg hA hb⟩
   ·have i27:((k:Int) == 27)=false:=bfE (by omega)
    have i32:((k:Int) == 32)=false:=bfE (by omega)
    have e28:((k:Int) == 28)=(k == 28):=by rw[pW];simp;omega
    go_enter func176,ntmps176;have c1:=c0 _ bR;go_wp2_with fail;refine (hC _).mono ?_;rintro e w1 ⟨rfl,hb⟩;have c2:=c0 _ hb;go_wp2;go_ret;refine⟨?_,zg hA hb⟩;simp[bne,i27,i32,e28,h27,h32]
theorem zd8(x:Nd)(u:Value)(w:World)(hk:KS w u x.kids)(hx:x.kind<=255):Calls prog 177 #[uV x u] w (kQ w (.bool (yN.is .stmt x.kind))):=by
 have hE:=fun W (h:Below w.heap.size w W)=>Xg x u W (hk.below h) hx
 obtain⟨p,c,rfl⟩:=hk.form;clear hk;obtain⟨k,t,n,ks,a⟩:=x;simp only at hx ⊢;generalize ks.length=m at *;have hz:=zk w (.cells #[.int .u8 k,.string ⟨t.toArray⟩,.int .i64 n,.slice p m c,.int .i64 a] 45 (0,0));have hA:=zf w (.cells #[.int .u8 k,.string ⟨t.toArray⟩,.int .i64 n,.slice p m c,.int .i64 a] 45 (0,0));have hlt:w.heap.size<(w.alloc (.cells #[.int .u8 k,.string ⟨t.toArray⟩,.int .i64 n,.slice p m c,.int .i64 a] 45 (0,0))).heap.size:=by simp
 simp only[uV] at hE;have hS:yN.is .stmt k=((decide (60<=k) && decide (k<=62)) || yN.is .expr k):=rfl;rw[hS];have hC:=qL k 60 62;generalize (decide (60<=k) && decide (k<=62))=b at *;have c0:=fun W (h:Below _ _ W) (i:Nat)=>zd (zh h hz) i
 have hz':=zi hz;clear hz;cases b with
 |true=>
  go_enter func177,ntmps177;have c1:=c0 _ bR 0;go_wp2_with fail;refine (hC _).mono ?_;rintro e w1 ⟨rfl,hb⟩;go_wp2;go_ret;exact⟨rfl,zg hA hb⟩
 |false=>
  go_enter func177,ntmps177;have c1:=c0 _ bR 0;go_wp2_with fail;refine (hC _).mono ?_;rintro e w1 ⟨rfl,hb⟩;have d0:=c0 _ hb 0;have d1:=c0 _ hb 1;have d2:=c0 _ hb 2;have d3:=c0 _ hb 3;have d4:=c0 _ hb 4;have hb1:=zg hA hb;go_wp2_with fail;refine (hE _ hb1).mono ?_;rintro e w2 ⟨rfl,hb2⟩;go_wp2;go_ret;exact⟨rfl,zg hb1 hb2⟩
theorem zcR(j:Nat)(B:Nat)(x:Nd)(u:Value)(w:World)(hB:w.heap[B]? =some (.cells #[.int .u8 j] 5 (0,0)))(hk:KS w u x.kids)(hx:x.kind<=255):Calls prog 200 #[uV x u,.pointer (some ⟨B,0,none⟩)] w (kQ w (.bool (yN.is (.one j) x.kind))):=by
 obtain⟨p,c,rfl⟩:=hk.form;clear hk;obtain⟨k,t,n,ks,a⟩:=x;simp only at hx ⊢;generalize ks.length=m at *;have hz:=zk w (.cells #[.int .u8 k,.string ⟨t.toArray⟩,.int .i64 n,.slice p m c,.int .i64 a] 45 (0,0));have hA:=zf w (.cells #[.int .u8 k,.string ⟨t.toArray⟩,.int .i64 n,.slice p m c,.int .i64 a] 45 (0,0));have hlt:w.heap.size<(w.alloc (.cells #[.int .u8 k,.string ⟨t.toArray⟩,.int .i64 n,.slice p m c,.int .i64 a] 45 (0,0))).heap.size:=by simp
 have c0:=zd hz 0;have c1:=zd (zh hA hB) 0;clear hz hB;have e2:((k:Int) == (j:Int))=(k == j):=by rw[pW];simp;omega
 go_enter func200,ntmps200;go_wp2;go_ret;refine⟨?_,hA⟩;rw[show yN.is (.one j) k=(k == j) from rfl,<-e2];rfl
abbrev Yc(j:Nat):Obj:=.cells #[.int .u8 j] 5 (0,0)
abbrev Ql(B:Nat):Value:=.func (.func 200) #[] #[.pointer (some ⟨B,0,none⟩)]
def YC(w:World)(v:Value)(s:yN):Prop:=
 (∃f,v=.func (.func f) #[] #[]/\Enters prog f/\∀(x:Nd) (u:Value) (W:World),KS W u x.kids->x.kind<=255->Calls prog f #[uV x u] W (kQ W (.bool (s.is x.kind))))\/
 (∃B j,v=Ql B/\s=.one j/\w.heap[B]? =some (Yc j))
theorem YC.use{w:World}{v:Value}{s:yN}(h:YC w v s):∃f caps,v=.func (.func f) #[] caps/\Enters prog f/\∀(W:World) (x:Nd) (u:Value),Below w.heap.size w W->KS W u x.kids->x.kind<=255->Calls prog f (#[uV x u] ++ caps) W (kQ W (.bool (s.is x.kind))):=by
 rcases h with⟨f,rfl,he,h⟩|⟨B,j,rfl,rfl,h⟩
 ·exact⟨f,#[],rfl,he,fun W x u _ hk hx=>by rw[Array.append_empty];exact h x u W hk hx⟩
 ·exact⟨200,_,rfl,enters_of (P:=prog) func200 (by kernel_rfl) rfl,fun W x u hW hk hx=>zcR j B x u W (zh hW h) hk hx⟩
theorem YC.keep{w w':World}{v:Value}{s:yN}(h:YC w v s)(hk:∀(B:Nat) cs fr,w.heap[B]? =some (.cells cs 5 fr)->w'.heap[B]? =some (.cells cs 5 fr)):YC w' v s:=
 h.imp id fun ⟨B,j,hv,hs,hb⟩=>⟨B,j,hv,hs,hk _ _ _ hb⟩
theorem YC.below{w w':World}{v:Value}{s:yN}(h:YC w v s)(hb:Below w.heap.size w w'):YC w' v s:=h.keep fun _ _ _ hB=>zh hb hB
theorem qc(w:World):YC w (.func (.func 176) #[] #[]) .expr:=.inl ⟨_,rfl,enters_of (P:=prog) func176 (by kernel_rfl) rfl,Xg⟩
theorem zi3(w:World):YC w (.func (.func 177) #[] #[]) .stmt:=.inl ⟨_,rfl,enters_of (P:=prog) func177 (by kernel_rfl) rfl,zd8⟩
theorem Zr(w:World):YC w (.func (.func 180) #[] #[]) .type:=.inl ⟨_,rfl,enters_of (P:=prog) func180 (by kernel_rfl) rfl,zd7⟩
theorem JP(w:World):YC w (.func (.func 179) #[] #[]) .pattern:=.inl ⟨_,rfl,enters_of (P:=prog) func179 (by kernel_rfl) rfl,Vu⟩
theorem zkr(w:World):YC w (.func (.func 181) #[] #[]) .way:=.inl ⟨_,rfl,enters_of (P:=prog) func181 (by kernel_rfl) rfl,zgx⟩
theorem zi4(w:World):YC w (.func (.func 104) #[] #[]) .item:=.inl ⟨_,rfl,enters_of (P:=prog) func104 (by kernel_rfl) rfl,zeb⟩
theorem zks(w:World):YC w (.func (.func 178) #[] #[]) .els:=.inl ⟨_,rfl,enters_of (P:=prog) func178 (by kernel_rfl) rfl,zec⟩
theorem zhd(w:World):YC w (.func (.func 182) #[] #[]) .Kj:=.inl ⟨_,rfl,enters_of (P:=prog) func182 (by kernel_rfl) rfl,zcY⟩
theorem kS{w:World}{B j:Nat}(h:w.heap[B]? =some (Yc j)):YC w (Ql B) (.one j):=.inr ⟨B,j,rfl,rfl,h⟩
theorem uo(j:Nat)(w:World):Calls prog 174 #[.int .u8 j] w fun e w'=>e=.returned (Ql w.heap.size)/\w'=w.alloc (Yc j):=by
 have hmf:∀(fn:Fn) (first cap:Array Value) (w:World),(Instr.makeFunc fn first cap).run prog w=.ok (.func fn first cap) w:=fun _ _ _ _=>rfl
 go_enter func174,ntmps174;go_wp2;go_ret;exact⟨rfl,rfl⟩
theorem yD{k c:Nat}(h:((k:Int) == (c:Int))=true):k=c:=by
 rw[pS] at h;omega
theorem zU{k c:Nat}(h:((k:Int) == (c:Int))=false):k≠c:=by
 rw[pB] at h;omega
theorem zes(k:Nat)(w:World):Calls prog 183 #[.int .u8 k] w fun e w'=>e=.returned (.tuple #[.int .i64 (zQ k).1,.int .i64 (zQ k).2])/\w'=w:=by
 obtain⟨r,hr⟩:=exE (zQ k);rw[hr];have Hr:=zi hr;clear hr;go_enter func183,ntmps183;go_wp2_with fail
 ·have hk:=yD (k:=k) (c:=1) (by assumption);have h:=Hr.out;rw[hk] at h;subst h;go_ret2;exact⟨rfl,rfl⟩
 ·have hk:=yD (k:=k) (c:=40) (by assumption);have h:=Hr.out;rw[hk] at h;subst h;go_ret2;exact⟨rfl,rfl⟩
 ·have hk:=yD (k:=k) (c:=67) (by assumption);have h:=Hr.out;rw[hk] at h;subst h;go_ret2;exact⟨rfl,rfl⟩
 ·have hk:=yD (k:=k) (c:=3) (by assumption);have h:=Hr.out;rw[hk] at h;subst h;go_ret2;exact⟨rfl,rfl⟩
 ·have hk:=yD (k:=k) (c:=69) (by assumption);have h:=Hr.out;rw[hk] at h;subst h;go_ret2;exact⟨rfl,rfl⟩
 ·have hk:=yD (k:=k) (c:=28) (by assumption);have h:=Hr.out;rw[hk] at h;subst h;go_ret2;exact⟨rfl,rfl⟩
 ·have hk:=yD (k:=k) (c:=102) (by assumption);have h:=Hr.out;rw[hk] at h;subst h;go_ret2;exact⟨rfl,rfl⟩
 ·have h:=Hr.out;have n1:=zU (k:=k) (c:=1) (by assumption);have n40:=zU (k:=k) (c:=40) (by assumption);have n67:=zU (k:=k) (c:=67) (by assumption);have n3:=zU (k:=k) (c:=3) (by assumption);have n69:=zU (k:=k) (c:=69) (by assumption);have n28:=zU (k:=k) (c:=28) (by assumption);have n102:=zU (k:=k) (c:=102) (by assumption);unfold zQ at h;simp only[pS,n1,n40,n67,n3,n69,n28,n102,or_self,wF,if_false] at h;subst h;go_ret2;exact⟨rfl,rfl⟩
theorem zd2(k:Nat)(w:World):Calls prog 184 #[.int .u8 k] w fun e w'=>e=.returned (.int .u8 (xf k:Nat))/\w'=w:=by
 obtain⟨r,hr⟩:=exE (xf k);rw[hr];have Hr:=zi hr;clear hr;go_enter func184,ntmps184;go_wp2_with fail
 ·have hk:=yD (k:=k) (c:=2) (by assumption);have h:=Hr.out;rw[hk] at h;subst h;go_ret;exact⟨rfl,rfl⟩
 ·have hk:=yD (k:=k) (c:=68) (by assumption);have h:=Hr.out;rw[hk] at h;subst h;go_ret;exact⟨rfl,rfl⟩
 ·have hk:=yD (k:=k) (c:=25) (by assumption);have h:=Hr.out;rw[hk] at h;subst h;go_ret;exact⟨rfl,rfl⟩
 ·have hk:=yD (k:=k) (c:=26) (by assumption);have h:=Hr.out;rw[hk] at h;subst h;go_ret;exact⟨rfl,rfl⟩
 ·have hk:=yD (k:=k) (c:=84) (by assumption);have h:=Hr.out;rw[hk] at h;subst h;go_ret;exact⟨rfl,rfl⟩
 ·have hk:=yD (k:=k) (c:=70) (by assumption);have h:=Hr.out;rw[hk] at h;subst h;go_ret;exact⟨rfl,rfl⟩
 ·have hk:=yD (k:=k) (c:=89) (by assumption);have h:=Hr.out;rw[hk] at h;subst h;go_ret;exact⟨rfl,rfl⟩
 ·have hk:=yD (k:=k) (c:=100) (by assumption);have h:=Hr.out;rw[hk] at h;subst h;go_ret;exact⟨rfl,rfl⟩
 ·have hk:=yD (k:=k) (c:=101) (by assumption);have h:=Hr.out;rw[hk] at h;subst h;go_ret;exact⟨rfl,rfl⟩
 ·have hk:=yD (k:=k) (c:=5) (by assumption);have h:=Hr.out;rw[hk] at h;subst h;go_ret;exact⟨rfl,rfl⟩
 ·have hk:=yD (k:=k) (c:=23) (by assumption);have h:=Hr.out;rw[hk] at h;subst h;go_ret;exact⟨rfl,rfl⟩
 ·have hk:=yD (k:=k) (c:=27) (by assumption);have h:=Hr.out;rw[hk] at h;subst h;go_ret;exact⟨rfl,rfl⟩
 ·have hk:=yD (k:=k) (c:=66) (by assumption);have h:=Hr.out;rw[hk] at h;subst h;go_ret;exact⟨rfl,rfl⟩
 ·have hk:=yD (k:=k) (c:=88) (by assumption);have h:=Hr.out;rw[hk] at h;subst h;go_ret;exact⟨rfl,rfl⟩
 ·have hk:=yD (k:=k) (c:=60) (by assumption);have h:=Hr.out;rw[hk] at h;subst h;go_ret;exact⟨rfl,rfl⟩
 ·have hk:=yD (k:=k) (c:=61) (by assumption);have h:=Hr.out;rw[hk] at h;subst h;go_ret;exact⟨rfl,rfl⟩
 ·have hk:=yD (k:=k) (c:=34) (by assumption);have h:=Hr.out;rw[hk] at h;subst h;go_ret;exact⟨rfl,rfl⟩
 ·have hk:=yD (k:=k) (c:=36) (by assumption);have h:=Hr.out;rw[hk] at h;subst h;go_ret;exact⟨rfl,rfl⟩
 ·have hk:=yD (k:=k) (c:=63) (by assumption);have h:=Hr.out;rw[hk] at h;subst h;go_ret;exact⟨rfl,rfl⟩
 ·have hk:=yD (k:=k) (c:=102) (by assumption);have h:=Hr.out;rw[hk] at h;subst h;go_ret;exact⟨rfl,rfl⟩
 ·have hk:=yD (k:=k) (c:=103) (by assumption);have h:=Hr.out;rw[hk] at h;subst h;go_ret;exact⟨rfl,rfl⟩
 ·have hk:=yD (k:=k) (c:=104) (by assumption);have h:=Hr.out;rw[hk] at h;subst h;go_ret;exact⟨rfl,rfl⟩
 ·have h:=Hr.out;have n2:=zU (k:=k) (c:=2) (by assumption);have n68:=zU (k:=k) (c:=68) (by assumption);have n25:=zU (k:=k) (c:=25) (by assumption);have n26:=zU (k:=k) (c:=26) (by assumption);have n84:=zU (k:=k) (c:=84) (by assumption);have n70:=zU (k:=k) (c:=70) (by assumption);have n89:=zU (k:=k) (c:=89) (by assumption);have n100:=zU (k:=k) (c:=100) (by assumption);have n101:=zU (k:=k) (c:=101) (by assumption);have n5:=zU (k:=k) (c:=5) (by assumption);have n23:=zU (k:=k) (c:=23) (by assumption);have n27:=zU (k:=k) (c:=27) (by assumption);have n66:=zU (k:=k) (c:=66) (by assumption);have n88:=zU (k:=k) (c:=88) (by assumption);have n60:=zU (k:=k) (c:=60) (by assumption);have n61:=zU (k:=k) (c:=61) (by assumption);have n34:=zU (k:=k) (c:=34) (by assumption);have n36:=zU (k:=k) (c:=36) (by assumption);have n63:=zU (k:=k) (c:=63) (by assumption);have n102:=zU (k:=k) (c:=102) (by assumption);have n103:=zU (k:=k) (c:=103) (by assumption);have n104:=zU (k:=k) (c:=104) (by assumption);unfold xf at h;simp[n2,n68,n25,n26,n84,n70,n89,n100,n101,n5,n23,n27,n66,n88,n60,n61,n34,n36,n63,n102,n103,n104] at h;subst h;go_ret;exact⟨rfl,rfl⟩
theorem zea(x:Nd)(u:Value)(w:World)(hk:KS w u x.kids)(ht:x.text.length<=1000000000000)(hG:qH w):Calls prog 146 #[uV x u] w (kQ w (.bool (qR x))):=by
 obtain⟨p,c,rfl⟩:=hk.form;clear hk;obtain⟨r,hr⟩:=exE (qR x);rw[hr];obtain⟨k,t,n,ks,a⟩:=x;unfold qR at hr;simp only at hr ht ⊢;generalize ks.length=m;have hz:=zk w (.cells #[.int .u8 k,.string ⟨t.toArray⟩,.int .i64 n,.slice p m c,.int .i64 a] 45 (0,0));have hA:=zf w (.cells #[.int .u8 k,.string ⟨t.toArray⟩,.int .i64 n,.slice p m c,.int .i64 a] 45 (0,0));have c0:=zd hz 0;have c1:=zd hz 1;have c2:=zd hz 2;have c4:=zd hz 4;have hSp:=zi (fun W (hb:Below w.heap.size w W)=>zd1 (xf k) t 0 W ht (hG.later hb));have hTk:=zi (zd2 k);have hBd:=zi (zes k);clear hz hG ht;generalize zQ k=bd at *;generalize xf k=ti at *;generalize yV ti t=sp at *;obtain⟨lo,hi⟩:=bd;obtain⟨st,se⟩:=sp;simp only at hr hSp hBd;by_cases h1:n<lo
 ·rw[if_pos (.inl h1)] at hr;subst hr;go_enter func146,ntmps146;go_wp2_with fail;refine (hBd.out _).mono ?_;rintro e w1 ⟨rfl,rfl⟩;go_wp2;go_ret;exact⟨rfl,hA⟩
 by_cases h2:hi<n
 ·rw[if_pos (.inr (.inl h2))] at hr;subst hr;go_enter func146,ntmps146;go_wp2_with fail;refine (hBd.out _).mono ?_;rintro e w1 ⟨rfl,rfl⟩;go_wp2;go_ret;exact⟨rfl,hA⟩
 by_cases h3:a<0
 ·rw[if_pos (.inr (.inr (.inl h3)))] at hr;subst hr;go_enter func146,ntmps146;go_wp2_with fail;refine (hBd.out _).mono ?_;rintro e w1 ⟨rfl,rfl⟩;go_wp2;go_ret;exact⟨rfl,hA⟩
 by_cases h4:3000<a
 ·rw[if_pos (.inr (.inr (.inr h4)))] at hr;subst hr;go_enter func146,ntmps146;go_wp2_with fail;refine (hBd.out _).mono ?_;rintro e w1 ⟨rfl,rfl⟩;go_wp2;go_ret;exact⟨rfl,hA⟩
 rw[if_neg (by omega)] at hr;by_cases h0:ti=0
 ·subst h0;rw[if_pos (by rfl)] at hr;replace hr:=zi hr;go_enter func146,ntmps146;go_wp2_with fail;refine (hBd.out _).mono ?_;rintro e w1 ⟨rfl,rfl⟩;go_wp2_with fail;refine (hTk.out _).mono ?_;rintro e w1 ⟨rfl,rfl⟩;go_wp2;go_ret;refine⟨?_,hA⟩;show Ending.returned (.bool t.isEmpty)=.returned (.bool r)
  rw[<-hr.out];cases t <;> rfl
 ·rw[if_neg (by simpa using h0)] at hr;have i0:((ti:Int) == 0)=false:=bfE (by omega)
  replace hr:=zi hr;go_enter func146,ntmps146;go_wp2_with fail;refine (hBd.out _).mono ?_;rintro e w1 ⟨rfl,rfl⟩;go_wp2_with fail;refine (hTk.out _).mono ?_;rintro e w1 ⟨rfl,rfl⟩;go_wp2_with fail;refine (hSp.out _ hA).mono ?_;rintro e w2 ⟨rfl,hb⟩;go_wp2;go_ret;refine⟨?_,zg hA hb⟩;show Ending.returned (.bool ((se:Int) == 0))=.returned (.bool r)
  rw[<-hr.out,show ((se:Int) == 0)=(se == 0) by rw[pW];simp]
section
variable (P:Program) (w:World) (a:Addr) (m:Mode)
theorem Xz:(store a .nilFunc m).run P w=stored P w a .nilFunc m:=run_store P w a _ m rfl
theorem JX(fn:Fn)(first cap:Array Value):(store a (.func fn first cap) m).run P w=stored P w a (.func fn first cap) m:=run_store P w a _ m rfl
end
end
section
open Go.RowKit Lode Go.Shelf
attribute [local go_sem ↓] Go.wp_at_zero Go.wp_at_succ
attribute [local go_sem] Xz JX
open Go.Proofs.Tryz
def kJ(w:World)(v:Value)(l:List yN):Prop:=∃(p:Option Addr) (cap:Nat),v=.slice p l.length cap/\(l=[]\/∃(g:Nat) (cs:Array Value) (fr:Nat×Nat),p=some ⟨g,0,none⟩/\w.heap[g]? =some (.cells cs 201 fr)/\∀(j:Nat) (s:yN),l[j]? =some s->∃y,cs[j]? =some y/\YC w y s)
def Jh(w:World)(v:Value):Option yN->Prop
 |some s=>YC w v s
 |none=>v=.nilFunc
def ShV(w:World)(v:Value)(h:xl):Prop:=∃fv mv lv,v=.agg #[fv,mv,.int .i64 h.least,lv]/\kJ w fv h.first/\Jh w mv h.more/\kJ w lv h.last
abbrev shZ:Value:=.agg #[.slice none 0 0,.nilFunc,.int .i64 0,.slice none 0 0]
theorem kJ.keep{w w':World}{v:Value}{l:List yN}(h:kJ w v l)(hk:∀(B:Nat) cs fr,w.heap[B]? =some (.cells cs 5 fr)->w'.heap[B]? =some (.cells cs 5 fr))(hs:∀(B:Nat) cs fr,w.heap[B]? =some (.cells cs 201 fr)->w'.heap[B]? =some (.cells cs 201 fr)):kJ w' v l:=by
 obtain⟨p,cap,hv,h⟩:=h;refine⟨p,cap,hv,h.imp id ?_⟩;rintro ⟨g,cs,fr,hp,hg,hc⟩;exact⟨g,cs,fr,hp,hs _ _ _ hg,fun j s hs=>(hc j s hs).imp fun y hy=>⟨hy.1,hy.2.keep hk⟩⟩
theorem Jh.keep{w w':World}{v:Value}{o:Option yN}(h:Jh w v o)(hk:∀(B:Nat) cs fr,w.heap[B]? =some (.cells cs 5 fr)->w'.heap[B]? =some (.cells cs 5 fr)):Jh w' v o:=by
 cases o with
 |none=>exact h
 |some s=>exact YC.keep h hk
theorem ShV.keep{w w':World}{v:Value}{s:xl}(h:ShV w v s)(hk:∀(B:Nat) cs fr,w.heap[B]? =some (.cells cs 5 fr)->w'.heap[B]? =some (.cells cs 5 fr))(hs:∀(B:Nat) cs fr,w.heap[B]? =some (.cells cs 201 fr)->w'.heap[B]? =some (.cells cs 201 fr)):ShV w' v s:=by
 obtain⟨fv,mv,lv,hv,h1,h2,h3⟩:=h;exact⟨fv,mv,lv,hv,h1.keep hk hs,h2.keep hk,h3.keep hk hs⟩
def ziB(o:Option xl)(w:World)(e:Ending)(w':World):Prop:=Below w.heap.size w w'/\((∃h v,o=some h/\e=.returned (.tuple #[v,.bool true])/\ShV w' v h)\/(o=none/\e=.returned (.tuple #[shZ,.bool false])))
theorem kJ.nil(w:World)(p:Option Addr)(c:Nat):kJ w (.slice p 0 c) []:=⟨p,c,rfl,.inl rfl⟩
theorem kJ.below{w w':World}{v:Value}{l:List yN}(h:kJ w v l)(hb:Below w.heap.size w w'):kJ w' v l:=by
 obtain⟨p,cap,hv,h⟩:=h;refine⟨p,cap,hv,h.imp id ?_⟩;rintro ⟨g,cs,fr,hp,hg,hc⟩;exact⟨g,cs,fr,hp,zh hb hg,fun j s hs=>(hc j s hs).imp fun y hy=>⟨hy.1,hy.2.below hb⟩⟩
theorem Jh.below{w w':World}{v:Value}{o:Option yN}(h:Jh w v o)(hb:Below w.heap.size w w'):Jh w' v o:=by
 cases o with
 |none=>exact h
 |some s=>exact YC.below h hb
theorem ShV.below{w w':World}{v:Value}{s:xl}(h:ShV w v s)(hb:Below w.heap.size w w'):ShV w' v s:=by
 obtain⟨fv,mv,lv,hv,h1,h2,h3⟩:=h;exact⟨fv,mv,lv,hv,h1.below hb,h2.below hb,h3.below hb⟩
theorem kJ.own{w:World}{g n c:Nat}{cs:Array Value}{fr:Nat×Nat}{l:List yN}(hl:l.length=n)(hg:w.heap[g]? =some (.cells cs 201 fr))(hc:∀(j:Nat) (s:yN),l[j]? =some s->∃y,cs[j]? =some y/\YC w y s):kJ w (.slice (some ⟨g,0,none⟩) n c) l:=by
 subst hl;exact⟨_,c,rfl,.inr ⟨g,cs,fr,rfl,hg,hc⟩⟩
theorem zhe{W:World}{N:Nat}{a b c d:Value}{T:TypeId}{fr:Nat×Nat}(h:W.heap[N]? =some (.cells #[a,b,c,d] T fr))(x0 x1 x2 x3:Value)(W':World)(e:W'=(((W.setCell ⟨N,0,none⟩ x0).setCell ⟨N,1,none⟩ x1).setCell ⟨N,2,none⟩ x2).setCell ⟨N,3,none⟩ x3):W'.heap[N]? =some (.cells #[x0,x1,x2,x3] T fr)/\(∀g,g≠N->W'.heap[g]? =W.heap[g]?)/\∀B,B<=N->Below B W W':=by
 subst e;refine⟨zr (zr (zr (zr h 0 x0) 1 x1) 2 x2) 3 x3,fun g hg=>(zt hg).trans ((zt hg).trans ((zt hg).trans (zt hg))),fun B hB=>((((pF B W).setCell hB _).setCell hB _).setCell hB _).setCell hB _⟩
theorem qW(p:Option Addr)(n c:Nat)(w:World):Calls prog 175 #[.slice p n c] w (kQ w (.agg #[.slice p n c,.nilFunc,.int .i64 0,.slice none 0 0])):=by
 have z:=zk w (.cells #[.slice none 0 0,.nilFunc,.int .i64 0,.slice none 0 0] 204 (0,0));have y:=zk w (.cells #[.slice p n c,.nilFunc,.int .i64 0,.slice none 0 0] 204 (0,0));have d0:=zd z 0;have f0:=zl z 0;have e0:=zd y 0;have e1:=zd y 1;have e2:=zd y 2;have e3:=zd y 3;have g0:=zl y 0;have g1:=zl y 1;have g2:=zl y 2;have g3:=zl y 3;go_enter func175,ntmps175;go_wp2;refine bodyPost_ret (v:=.agg #[.slice p n c,.nilFunc,.int .i64 0,.slice none 0 0]) (by simp[results,results175,go_sem,e0,e1,e2,e3]) rfl ?_;exact⟨rfl,zf w _⟩
abbrev zho:List Nat:=[1,2,3,4,5,44,45,46,80,81,82,83,84,66,67,68,69,6,7,23,27,37,38,39,42,43,47,50,51,60,61,65,41,48,63,49,64,24,25,26,28,29,30,31,32,33,102,34,35,36,40,86,87,88,62,70,85,89,100,101,103,104]
theorem kd{k:Nat}{j:Int}(h:((k:Int) == j)=true):k=j.toNat:=by
 rw[pS] at h;omega
theorem kn{k i:Nat}{j:Int}(e:(i:Int)=j)(h:((k:Int) == j)=false):k≠i:=by
 rw[pB] at h;omega
theorem kT{w w':World}{N M L:Nat}{a b c d:Value}{T:TypeId}{o1 o2:Array Value}{T1 T2:TypeId}{f1 f2:Nat×Nat}(h:Below w.heap.size w w')(z:w.heap[N]? =some (.cells #[a,b,c,d] T (0,0)))(z1:w.heap[M]? =some (.cells o1 T1 f1))(z2:w.heap[L]? =some (.cells o2 T2 f2)):w'.heap[N]? =some (.cells #[a,b,c,d] T (0,0))/\w'.heap[M]? =some (.cells o1 T1 f1)/\w'.heap[L]? =some (.cells o2 T2 f2)/\w'.cell? ⟨N,0,none⟩=some a/\w'.cell? ⟨N,1,none⟩=some b/\w'.cell? ⟨N,2,none⟩=some c/\w'.cell? ⟨N,3,none⟩=some d/\w'.frozen? ⟨N,0,none⟩=false/\w'.frozen? ⟨N,1,none⟩=false/\w'.frozen? ⟨N,2,none⟩=false/\w'.frozen? ⟨N,3,none⟩=false:=
 have y:=zh h z
 ⟨y,zh h z1,zh h z2,zd y 0,zd y 1,zd y 2,zd y 3,zl y 0,zl y 1,zl y 2,zl y 3⟩
theorem zgo{W:World}{g:Nat}{fr:Nat×Nat}{y0:Value}{s0:yN}(hg:W.heap[g]? =some (.cells #[y0] 201 fr))(h0:YC W y0 s0):kJ W (.slice (some ⟨g,0,none⟩) 1 1) [s0]:=
 kJ.own rfl hg (fun j s hj=>by
  match j,hj with
  |0,rfl=>exact⟨_,rfl,h0⟩)
theorem Jo{W:World}{g:Nat}{fr:Nat×Nat}{y0 y1:Value}{s0 s1:yN}(hg:W.heap[g]? =some (.cells #[y0,y1] 201 fr))(h0:YC W y0 s0)(h1:YC W y1 s1):kJ W (.slice (some ⟨g,0,none⟩) 2 2) [s0,s1]:=
 kJ.own rfl hg (fun j s hj=>by
  match j,hj with
  |0,rfl=>exact⟨_,rfl,h0⟩
  |1,rfl=>exact⟨_,rfl,h1⟩)
theorem zhH{W:World}{g:Nat}{fr:Nat×Nat}{y0 y1 y2:Value}{s0 s1 s2:yN}(hg:W.heap[g]? =some (.cells #[y0,y1,y2] 201 fr))(h0:YC W y0 s0)(h1:YC W y1 s1)(h2:YC W y2 s2):kJ W (.slice (some ⟨g,0,none⟩) 3 3) [s0,s1,s2]:=
 kJ.own rfl hg (fun j s hj=>by
  match j,hj with
  |0,rfl=>exact⟨_,rfl,h0⟩
  |1,rfl=>exact⟨_,rfl,h1⟩
  |2,rfl=>exact⟨_,rfl,h2⟩)
theorem xG{fn:Func}{A:Act}{k:Nat}{w W:World}{a b c d:Value}{S:xl}(hs:zF k=some S)(hb:Below w.heap.size w W)(y:W.heap[w.heap.size]? =some (.cells #[a,b,c,d] 204 (0,0)))(x0 x1:Value)(n:Int)(x3:Value)
 (hr:∀{W':World},W'.heap[w.heap.size]? =some (.cells #[x0,x1,.int .i64 n,x3] 204 (0,0))->(results fn A.tmps).run prog W'=.ok (.tuple #[.agg #[x0,x1,.int .i64 n,x3],.bool true]) W')
 (h1:∀{W':World},(∀g,g≠w.heap.size->W'.heap[g]? =W.heap[g]?)->kJ W' x0 S.first) (h2:∀{W':World},(∀g,g≠w.heap.size->W'.heap[g]? =W.heap[g]?)->Jh W' x1 S.more) (h3:∀{W':World},(∀g,g≠w.heap.size->W'.heap[g]? =W.heap[g]?)->kJ W' x3 S.last) (hd:A.defers=[]) (hn:(S.least:Int)=n) :
 bodyPost prog fn (ziB (zF k) w) .ret A ((((W.setCell ⟨w.heap.size,0,none⟩ x0).setCell ⟨w.heap.size,1,none⟩ x1).setCell ⟨w.heap.size,2,none⟩ (.int .i64 n)).setCell ⟨w.heap.size,3,none⟩ x3):=by
 obtain⟨r,hfar,hB⟩:=zhe y x0 x1 (.int .i64 n) x3 _ rfl;subst hn;exact bodyPost_ret (hr r) hd ⟨hb.trans (hB _ (pE _)),.inl ⟨_,_,hs,rfl,_,_,_,rfl,h1 hfar,h2 hfar,h3 hfar⟩⟩
theorem Xy{k:Nat}(hb:(decide (8<=k) && decide (k<=22))=false)(hn:∀j∈zho,k≠j):zF k=none:=by
 simp only[zho,List.forall_mem_cons] at hn;obtain⟨n1,n2,n3,n4,n5,n44,n45,n46,n80,n81,n82,n83,n84,n66,n67,n68,n69,n6,n7,n23,n27,n37,n38,n39,n42,n43,n47,n50,n51,n60,n61,n65,n41,n48,n63,n49,n64,n24,n25,n26,n28,n29,n30,n31,n32,n33,n102,n34,n35,n36,n40,n86,n87,n88,n62,n70,n85,n89,n100,n101,n103,n104,-⟩:=hn;have hl:∀l:List Nat,k∉l->l.contains k=false:=fun l h=>by
  rw[Bool.eq_false_iff];intro e;rw[List.contains_iff_mem] at e;exact h e
 have he:∀j,k≠j->(k == j)=false:=fun j h=>pB.2 h
 unfold zF;rw[hl [1,2,3,4,5,44,45,46,80,81,82,83,84,66,67,68,69] (by simp only[wD,wH,or_false];omega),hl [6,7,23,27,37,38,39,42,43,47,50,51,60,61,65] (by simp only[wD,wH,or_false];omega),hl [41,48,63] (by simp only[wD,wH,or_false];omega),hl [49,64] (by simp only[wD,wH,or_false];omega),he 24 n24,he 25 n25,he 26 n26,he 28 n28,he 29 n29,he 30 n30,he 31 n31,he 32 n32,he 33 n33,he 102 n102,he 34 n34,he 35 n35,he 36 n36,he 40 n40,he 86 n86,he 87 n87,he 88 n88,he 62 n62,he 70 n70,he 85 n85,he 89 n89,he 100 n100,he 101 n101,he 103 n103,he 104 n104,hb];rfl
theorem zcj(k:Nat)(w:World):Calls prog 145 #[.int .u8 k] w (ziB (zF k) w):=by
 go_enter func145,ntmps145;go_wp2_with fail;refine (uo 28 _).mono ?_;rintro e w1 ⟨rfl,rfl⟩;go_wp2_with fail;refine (uo 88 _).mono ?_;rintro e w1 ⟨rfl,rfl⟩;have z:(((w.alloc (.cells #[.slice none 0 0,.nilFunc,.int .i64 0,.slice none 0 0] 204 (0,0))).alloc (Yc 28)).alloc (Yc 88)).heap[w.heap.size]? =some (.cells #[.slice none 0 0,.nilFunc,.int .i64 0,.slice none 0 0] 204 (0,0)):=zJ [.cells #[.slice none 0 0,.nilFunc,.int .i64 0,.slice none 0 0] 204 (0,0),Yc 28,Yc 88] w 0 _ rfl;have z28:(((w.alloc (.cells #[.slice none 0 0,.nilFunc,.int .i64 0,.slice none 0 0] 204 (0,0))).alloc (Yc 28)).alloc (Yc 88)).heap[w.heap.size+1]? =some (Yc 28):=zJ [.cells #[.slice none 0 0,.nilFunc,.int .i64 0,.slice none 0 0] 204 (0,0),Yc 28,Yc 88] w 1 _ rfl;have z88:(((w.alloc (.cells #[.slice none 0 0,.nilFunc,.int .i64 0,.slice none 0 0] 204 (0,0))).alloc (Yc 28)).alloc (Yc 88)).heap[w.heap.size+1+1]? =some (Yc 88):=zJ [.cells #[.slice none 0 0,.nilFunc,.int .i64 0,.slice none 0 0] 204 (0,0),Yc 28,Yc 88] w 2 _ rfl;have hb3:Below w.heap.size w (((w.alloc (.cells #[.slice none 0 0,.nilFunc,.int .i64 0,.slice none 0 0] 204 (0,0))).alloc (Yc 28)).alloc (Yc 88)):=zX [.cells #[.slice none 0 0,.nilFunc,.int .i64 0,.slice none 0 0] 204 (0,0),Yc 28,Yc 88] w;have hsz:(((w.alloc (.cells #[.slice none 0 0,.nilFunc,.int .i64 0,.slice none 0 0] 204 (0,0))).alloc (Yc 28)).alloc (Yc 88)).heap.size=w.heap.size+3:=by simp
 replace hsz:=zi hsz;generalize (((w.alloc (.cells #[.slice none 0 0,.nilFunc,.int .i64 0,.slice none 0 0] 204 (0,0))).alloc (Yc 28)).alloc (Yc 88))=w3 at *;have hq:=zi (show w3.heap.size≠w.heap.size from by have:=hsz.out;omega);have c0:=zd z 0;have g0:=zl z 0;have c1:=zd z 1;have g1:=zl z 1;have c2:=zd z 2;have g2:=zl z 2;have c3:=zd z 3;have g3:=zl z 3;have za:=zh (zf w3 (.cells #[.func (.func 176) #[] #[]] 201 (0,0))) z;have ca0:=zd za 0;have ga0:=zl za 0;have ca1:=zd za 1;have ga1:=zl za 1;have ca2:=zd za 2;have ga2:=zl za 2;have ca3:=zd za 3;have ga3:=zl za 3;have zb:=zh (zf w3 (.cells #[.func (.func 176) #[] #[],Ql (w.heap.size+1)] 201 (0,0))) z;have cb0:=zd zb 0;have gb0:=zl zb 0;have cb1:=zd zb 1;have gb1:=zl zb 1;have cb2:=zd zb 2;have gb2:=zl zb 2;have cb3:=zd zb 3;have gb3:=zl zb 3;have zc:=zh (zf w3 (.cells #[.func (.func 180) #[] #[],Ql (w.heap.size+1)] 201 (0,0))) z;have cc0:=zd zc 0;have gc0:=zl zc 0;have cc1:=zd zc 1;have gc1:=zl zc 1;have cc2:=zd zc 2;have gc2:=zl zc 2;have cc3:=zd zc 3;have gc3:=zl zc 3;have ze:=zh (zf w3 (.cells #[.func (.func 180) #[] #[]] 201 (0,0))) z;have ce0:=zd ze 0;have ge0:=zl ze 0;have ce1:=zd ze 1;have ge1:=zl ze 1;have ce2:=zd ze 2;have ge2:=zl ze 2;have ce3:=zd ze 3;have ge3:=zl ze 3;go_wp2_with fail
 all_goals clear ca0 ga0 ca1 ga1 ca2 ga2 ca3 ga3 cb0 gb0 cb1 gb1 cb2 gb2 cb3 gb3 cc0 gc0 cc1 gc1 cc2 gc2 cc3 gc3 ce0 ge0 ce1 ge1 ce2 ge2 ce3 ge3 za zb zc ze c0 g0 c1 g1 c2 g2 c3 g3
 iterate 17
  ·have hs:zF k=some ⟨[],none,0,[]⟩:=by rw[kd (k:=k) (by assumption)];rfl
   refine (qW _ _ _ _).mono ?_;rintro e w4 ⟨rfl,hb4⟩;have hw4:Below w3.heap.size w3 w4:=hb4;obtain⟨y,y28,y88,d0,d1,d2,d3,f0,f1,f2,f3⟩:=kT hw4 z z28 z88;go_wp2_with fail;exact xG hs (hb3.trans (hw4.mono hb3.size)) y (.slice none 0 0) .nilFunc 0 (.slice none 0 0) (by intro W r;simp[results,results145,go_sem,zd r]) (fun hf=>kJ.nil _ _ _) (fun hf=>rfl) (fun hf=>kJ.nil _ _ _) rfl rfl
 iterate 15
  ·have hs:zF k=some ⟨[.expr],none,0,[]⟩:=by rw[kd (k:=k) (by assumption)];rfl
   refine (qW _ _ _ _).mono ?_;rintro e w4 ⟨rfl,hb4⟩;have hw4:Below w3.heap.size w3 w4:=zg (zf w3 (.cells #[.func (.func 176) #[] #[]] 201 (0,0))) hb4;have yr:=zh hb4 (zk w3 (.cells #[.func (.func 176) #[] #[]] 201 (0,0)));obtain⟨y,y28,y88,d0,d1,d2,d3,f0,f1,f2,f3⟩:=kT hw4 z z28 z88;go_wp2_with fail;exact xG hs (hb3.trans (hw4.mono hb3.size)) y (.slice (some ⟨w3.heap.size,0,none⟩) 1 1) .nilFunc 0 (.slice none 0 0) (by intro W r;simp[results,results145,go_sem,zd r]) (fun hf=>zgo ((hf _ hq.out).trans yr) (qc _)) (fun hf=>rfl) (fun hf=>kJ.nil _ _ _) rfl rfl
 iterate 3
  ·have hs:zF k=some ⟨[.expr,.expr],none,0,[]⟩:=by rw[kd (k:=k) (by assumption)];rfl
   refine (qW _ _ _ _).mono ?_;rintro e w4 ⟨rfl,hb4⟩;have hw4:Below w3.heap.size w3 w4:=zg (zf w3 (.cells #[.func (.func 176) #[] #[],.func (.func 176) #[] #[]] 201 (0,0))) hb4;have yr:=zh hb4 (zk w3 (.cells #[.func (.func 176) #[] #[],.func (.func 176) #[] #[]] 201 (0,0)));obtain⟨y,y28,y88,d0,d1,d2,d3,f0,f1,f2,f3⟩:=kT hw4 z z28 z88;go_wp2_with fail;exact xG hs (hb3.trans (hw4.mono hb3.size)) y (.slice (some ⟨w3.heap.size,0,none⟩) 2 2) .nilFunc 0 (.slice none 0 0) (by intro W r;simp[results,results145,go_sem,zd r]) (fun hf=>Jo ((hf _ hq.out).trans yr) (qc _) (qc _)) (fun hf=>rfl) (fun hf=>kJ.nil _ _ _) rfl rfl
 iterate 2
  ·have hs:zF k=some ⟨[.expr,.expr,.expr],none,0,[]⟩:=by rw[kd (k:=k) (by assumption)];rfl
   refine (qW _ _ _ _).mono ?_;rintro e w4 ⟨rfl,hb4⟩;have hw4:Below w3.heap.size w3 w4:=zg (zf w3 (.cells #[.func (.func 176) #[] #[],.func (.func 176) #[] #[],.func (.func 176) #[] #[]] 201 (0,0))) hb4;have yr:=zh hb4 (zk w3 (.cells #[.func (.func 176) #[] #[],.func (.func 176) #[] #[],.func (.func 176) #[] #[]] 201 (0,0)));obtain⟨y,y28,y88,d0,d1,d2,d3,f0,f1,f2,f3⟩:=kT hw4 z z28 z88;go_wp2_with fail;exact xG hs (hb3.trans (hw4.mono hb3.size)) y (.slice (some ⟨w3.heap.size,0,none⟩) 3 3) .nilFunc 0 (.slice none 0 0) (by intro W r;simp[results,results145,go_sem,zd r]) (fun hf=>zhH ((hf _ hq.out).trans yr) (qc _) (qc _) (qc _)) (fun hf=>rfl) (fun hf=>kJ.nil _ _ _) rfl rfl
 ·have hs:zF k=some ⟨[.expr],some (.expr),0,[]⟩:=by rw[kd (k:=k) (by assumption)];rfl
  have hw4:Below w3.heap.size w3 ((w3).alloc (.cells #[.func (.func 176) #[] #[]] 201 (0,0))):=zf w3 _;have yr:((w3).alloc (.cells #[.func (.func 176) #[] #[]] 201 (0,0))).heap[w3.heap.size]? =some (.cells #[.func (.func 176) #[] #[]] 201 (0,0)):=zk w3 _;obtain⟨y,y28,y88,-⟩:=kT hw4 z z28 z88;exact xG hs (hb3.trans (hw4.mono hb3.size)) y (.slice (some ⟨w3.heap.size,0,none⟩) 1 1) (.func (.func 176) #[] #[]) 0 (.slice none 0 0) (by intro W r;simp[results,results145,go_sem,zd r]) (fun hf=>zgo ((hf _ hq.out).trans yr) (qc _)) (fun hf=>(qc _)) (fun hf=>kJ.nil _ _ _) rfl rfl
 ·have hs:zF k=some ⟨[],some (.expr),0,[]⟩:=by rw[kd (k:=k) (by assumption)];rfl
  have hw4:Below w3.heap.size w3 (w3):=pF _ _;obtain⟨y,y28,y88,-⟩:=kT hw4 z z28 z88;exact xG hs (hb3.trans (hw4.mono hb3.size)) y (.slice none 0 0) (.func (.func 176) #[] #[]) 0 (.slice none 0 0) (by intro W r;simp[results,results145,go_sem,zd r]) (fun hf=>kJ.nil _ _ _) (fun hf=>(qc _)) (fun hf=>kJ.nil _ _ _) rfl rfl
 ·have hs:zF k=some ⟨[],some (.one 27),1,[]⟩:=by rw[kd (k:=k) (by assumption)];rfl
  refine (uo 27 _).mono ?_;rintro e w4 ⟨rfl,rfl⟩;have hw4:Below w3.heap.size w3 ((w3).alloc (Yc 27)):=zf w3 _;have yk:((w3).alloc (Yc 27)).heap[w3.heap.size]? =some (Yc 27):=kE _ _ _ (by simp);obtain⟨y,y28,y88,d0,d1,d2,d3,f0,f1,f2,f3⟩:=kT hw4 z z28 z88;go_wp2_with fail;exact xG hs (hb3.trans (hw4.mono hb3.size)) y (.slice none 0 0) (Ql (w3.heap.size)) 1 (.slice none 0 0) (by intro W r;simp[results,results145,go_sem,zd r]) (fun hf=>kJ.nil _ _ _) (fun hf=>kS ((hf _ (by have:=hsz.out;simp;omega)).trans yk)) (fun hf=>kJ.nil _ _ _) rfl rfl
 ·have hs:zF k=some ⟨[],some (.stmt),0,[]⟩:=by rw[kd (k:=k) (by assumption)];rfl
  have hw4:Below w3.heap.size w3 (w3):=pF _ _;obtain⟨y,y28,y88,-⟩:=kT hw4 z z28 z88;exact xG hs (hb3.trans (hw4.mono hb3.size)) y (.slice none 0 0) (.func (.func 177) #[] #[]) 0 (.slice none 0 0) (by intro W r;simp[results,results145,go_sem,zd r]) (fun hf=>kJ.nil _ _ _) (fun hf=>(zi3 _)) (fun hf=>kJ.nil _ _ _) rfl rfl
 ·have hs:zF k=some ⟨[.expr,.one 28],some (.els),0,[]⟩:=by rw[kd (k:=k) (by assumption)];rfl
  have hw4:Below w3.heap.size w3 ((w3).alloc (.cells #[.func (.func 176) #[] #[],Ql (w.heap.size+1)] 201 (0,0))):=zf w3 _;have yr:((w3).alloc (.cells #[.func (.func 176) #[] #[],Ql (w.heap.size+1)] 201 (0,0))).heap[w3.heap.size]? =some (.cells #[.func (.func 176) #[] #[],Ql (w.heap.size+1)] 201 (0,0)):=zk w3 _;obtain⟨y,y28,y88,-⟩:=kT hw4 z z28 z88;exact xG hs (hb3.trans (hw4.mono hb3.size)) y (.slice (some ⟨w3.heap.size,0,none⟩) 2 2) (.func (.func 178) #[] #[]) 0 (.slice none 0 0) (by intro W r;simp[results,results145,go_sem,zd r]) (fun hf=>Jo ((hf _ hq.out).trans yr) (qc _) (kS ((hf _ (by omega)).trans (y28)))) (fun hf=>(zks _)) (fun hf=>kJ.nil _ _ _) rfl rfl
 ·have hs:zF k=some ⟨[.expr,.one 28],none,0,[]⟩:=by rw[kd (k:=k) (by assumption)];rfl
  refine (qW _ _ _ _).mono ?_;rintro e w4 ⟨rfl,hb4⟩;have hw4:Below w3.heap.size w3 w4:=zg (zf w3 (.cells #[.func (.func 176) #[] #[],Ql (w.heap.size+1)] 201 (0,0))) hb4;have yr:=zh hb4 (zk w3 (.cells #[.func (.func 176) #[] #[],Ql (w.heap.size+1)] 201 (0,0)));obtain⟨y,y28,y88,d0,d1,d2,d3,f0,f1,f2,f3⟩:=kT hw4 z z28 z88;go_wp2_with fail;exact xG hs (hb3.trans (hw4.mono hb3.size)) y (.slice (some ⟨w3.heap.size,0,none⟩) 2 2) .nilFunc 0 (.slice none 0 0) (by intro W r;simp[results,results145,go_sem,zd r]) (fun hf=>Jo ((hf _ hq.out).trans yr) (qc _) (kS ((hf _ (by omega)).trans (y28)))) (fun hf=>rfl) (fun hf=>kJ.nil _ _ _) rfl rfl
 ·have hs:zF k=some ⟨[.expr],some (.one 32),1,[]⟩:=by rw[kd (k:=k) (by assumption)];rfl
  refine (uo 32 _).mono ?_;rintro e w4 ⟨rfl,rfl⟩;have hw4:Below w3.heap.size w3 (((w3).alloc (.cells #[.func (.func 176) #[] #[]] 201 (0,0))).alloc (Yc 32)):=zg (zf w3 _) (zf _ _);have yr:(((w3).alloc (.cells #[.func (.func 176) #[] #[]] 201 (0,0))).alloc (Yc 32)).heap[w3.heap.size]? =some (.cells #[.func (.func 176) #[] #[]] 201 (0,0)):=jw _ (zk w3 _);have yk:(((w3).alloc (.cells #[.func (.func 176) #[] #[]] 201 (0,0))).alloc (Yc 32)).heap[w3.heap.size+1]? =some (Yc 32):=kE _ _ _ (by simp);obtain⟨y,y28,y88,d0,d1,d2,d3,f0,f1,f2,f3⟩:=kT hw4 z z28 z88;go_wp2_with fail;exact xG hs (hb3.trans (hw4.mono hb3.size)) y (.slice (some ⟨w3.heap.size,0,none⟩) 1 1) (Ql (w3.heap.size+1)) 1 (.slice none 0 0) (by intro W r;simp[results,results145,go_sem,zd r]) (fun hf=>zgo ((hf _ hq.out).trans yr) (qc _)) (fun hf=>kS ((hf _ (by have:=hsz.out;simp;omega)).trans yk)) (fun hf=>kJ.nil _ _ _) rfl rfl
 ·have hs:zF k=some ⟨[.pattern,.expr],none,0,[]⟩:=by rw[kd (k:=k) (by assumption)];rfl
  refine (qW _ _ _ _).mono ?_;rintro e w4 ⟨rfl,hb4⟩;have hw4:Below w3.heap.size w3 w4:=zg (zf w3 (.cells #[.func (.func 179) #[] #[],.func (.func 176) #[] #[]] 201 (0,0))) hb4;have yr:=zh hb4 (zk w3 (.cells #[.func (.func 179) #[] #[],.func (.func 176) #[] #[]] 201 (0,0)));obtain⟨y,y28,y88,d0,d1,d2,d3,f0,f1,f2,f3⟩:=kT hw4 z z28 z88;go_wp2_with fail;exact xG hs (hb3.trans (hw4.mono hb3.size)) y (.slice (some ⟨w3.heap.size,0,none⟩) 2 2) .nilFunc 0 (.slice none 0 0) (by intro W r;simp[results,results145,go_sem,zd r]) (fun hf=>Jo ((hf _ hq.out).trans yr) (JP _) (qc _)) (fun hf=>rfl) (fun hf=>kJ.nil _ _ _) rfl rfl
 iterate 2
  ·have hs:zF k=some ⟨[],some (.one 88),0,[.type,.one 28]⟩:=by rw[kd (k:=k) (by assumption)];rfl
   have hw4:Below w3.heap.size w3 ((w3).alloc (.cells #[.func (.func 180) #[] #[],Ql (w.heap.size+1)] 201 (0,0))):=zf w3 _;have yr:((w3).alloc (.cells #[.func (.func 180) #[] #[],Ql (w.heap.size+1)] 201 (0,0))).heap[w3.heap.size]? =some (.cells #[.func (.func 180) #[] #[],Ql (w.heap.size+1)] 201 (0,0)):=zk w3 _;obtain⟨y,y28,y88,-⟩:=kT hw4 z z28 z88;exact xG hs (hb3.trans (hw4.mono hb3.size)) y (.slice none 0 0) (Ql (w.heap.size+1+1)) 0 (.slice (some ⟨w3.heap.size,0,none⟩) 2 2) (by intro W r;simp[results,results145,go_sem,zd r]) (fun hf=>kJ.nil _ _ _) (fun hf=>(kS ((hf _ (by omega)).trans (y88)))) (fun hf=>Jo ((hf _ hq.out).trans yr) (Zr _) (kS ((hf _ (by omega)).trans (y28)))) rfl rfl
 ·have hs:zF k=some ⟨[.one 28,.one 28],none,0,[]⟩:=by rw[kd (k:=k) (by assumption)];rfl
  refine (qW _ _ _ _).mono ?_;rintro e w4 ⟨rfl,hb4⟩;have hw4:Below w3.heap.size w3 w4:=zg (zf w3 (.cells #[Ql (w.heap.size+1),Ql (w.heap.size+1)] 201 (0,0))) hb4;have yr:=zh hb4 (zk w3 (.cells #[Ql (w.heap.size+1),Ql (w.heap.size+1)] 201 (0,0)));obtain⟨y,y28,y88,d0,d1,d2,d3,f0,f1,f2,f3⟩:=kT hw4 z z28 z88;go_wp2_with fail;exact xG hs (hb3.trans (hw4.mono hb3.size)) y (.slice (some ⟨w3.heap.size,0,none⟩) 2 2) .nilFunc 0 (.slice none 0 0) (by intro W r;simp[results,results145,go_sem,zd r]) (fun hf=>Jo ((hf _ hq.out).trans yr) (kS ((hf _ (by omega)).trans (y28))) (kS ((hf _ (by omega)).trans (y28)))) (fun hf=>rfl) (fun hf=>kJ.nil _ _ _) rfl rfl
 ·have hs:zF k=some ⟨[],some (.way),1,[]⟩:=by rw[kd (k:=k) (by assumption)];rfl
  have hw4:Below w3.heap.size w3 (w3):=pF _ _;obtain⟨y,y28,y88,-⟩:=kT hw4 z z28 z88;exact xG hs (hb3.trans (hw4.mono hb3.size)) y (.slice none 0 0) (.func (.func 181) #[] #[]) 1 (.slice none 0 0) (by intro W r;simp[results,results145,go_sem,zd r]) (fun hf=>kJ.nil _ _ _) (fun hf=>(zkr _)) (fun hf=>kJ.nil _ _ _) rfl rfl
 ·have hs:zF k=some ⟨[.expr,.one 28,.one 28],none,0,[]⟩:=by rw[kd (k:=k) (by assumption)];rfl
  refine (qW _ _ _ _).mono ?_;rintro e w4 ⟨rfl,hb4⟩;have hw4:Below w3.heap.size w3 w4:=zg (zf w3 (.cells #[.func (.func 176) #[] #[],Ql (w.heap.size+1),Ql (w.heap.size+1)] 201 (0,0))) hb4;have yr:=zh hb4 (zk w3 (.cells #[.func (.func 176) #[] #[],Ql (w.heap.size+1),Ql (w.heap.size+1)] 201 (0,0)));obtain⟨y,y28,y88,d0,d1,d2,d3,f0,f1,f2,f3⟩:=kT hw4 z z28 z88;go_wp2_with fail;exact xG hs (hb3.trans (hw4.mono hb3.size)) y (.slice (some ⟨w3.heap.size,0,none⟩) 3 3) .nilFunc 0 (.slice none 0 0) (by intro W r;simp[results,results145,go_sem,zd r]) (fun hf=>zhH ((hf _ hq.out).trans yr) (qc _) (kS ((hf _ (by omega)).trans (y28))) (kS ((hf _ (by omega)).trans (y28)))) (fun hf=>rfl) (fun hf=>kJ.nil _ _ _) rfl rfl
 iterate 4
  ·have hs:zF k=some ⟨[.type],none,0,[]⟩:=by rw[kd (k:=k) (by assumption)];rfl
   refine (qW _ _ _ _).mono ?_;rintro e w4 ⟨rfl,hb4⟩;have hw4:Below w3.heap.size w3 w4:=zg (zf w3 (.cells #[.func (.func 180) #[] #[]] 201 (0,0))) hb4;have yr:=zh hb4 (zk w3 (.cells #[.func (.func 180) #[] #[]] 201 (0,0)));obtain⟨y,y28,y88,d0,d1,d2,d3,f0,f1,f2,f3⟩:=kT hw4 z z28 z88;go_wp2_with fail;exact xG hs (hb3.trans (hw4.mono hb3.size)) y (.slice (some ⟨w3.heap.size,0,none⟩) 1 1) .nilFunc 0 (.slice none 0 0) (by intro W r;simp[results,results145,go_sem,zd r]) (fun hf=>zgo ((hf _ hq.out).trans yr) (Zr _)) (fun hf=>rfl) (fun hf=>kJ.nil _ _ _) rfl rfl
 ·have hs:zF k=some ⟨[.Kj,.expr],none,0,[]⟩:=by rw[kd (k:=k) (by assumption)];rfl
  refine (qW _ _ _ _).mono ?_;rintro e w4 ⟨rfl,hb4⟩;have hw4:Below w3.heap.size w3 w4:=zg (zf w3 (.cells #[.func (.func 182) #[] #[],.func (.func 176) #[] #[]] 201 (0,0))) hb4;have yr:=zh hb4 (zk w3 (.cells #[.func (.func 182) #[] #[],.func (.func 176) #[] #[]] 201 (0,0)));obtain⟨y,y28,y88,d0,d1,d2,d3,f0,f1,f2,f3⟩:=kT hw4 z z28 z88;go_wp2_with fail;exact xG hs (hb3.trans (hw4.mono hb3.size)) y (.slice (some ⟨w3.heap.size,0,none⟩) 2 2) .nilFunc 0 (.slice none 0 0) (by intro W r;simp[results,results145,go_sem,zd r]) (fun hf=>Jo ((hf _ hq.out).trans yr) (zhd _) (qc _)) (fun hf=>rfl) (fun hf=>kJ.nil _ _ _) rfl rfl
 ·have hs:zF k=some ⟨[],some (.pattern),0,[]⟩:=by rw[kd (k:=k) (by assumption)];rfl
  have hw4:Below w3.heap.size w3 (w3):=pF _ _;obtain⟨y,y28,y88,-⟩:=kT hw4 z z28 z88;exact xG hs (hb3.trans (hw4.mono hb3.size)) y (.slice none 0 0) (.func (.func 179) #[] #[]) 0 (.slice none 0 0) (by intro W r;simp[results,results145,go_sem,zd r]) (fun hf=>kJ.nil _ _ _) (fun hf=>(JP _)) (fun hf=>kJ.nil _ _ _) rfl rfl
 ·have hs:zF k=some ⟨[],some (.type),0,[.type]⟩:=by rw[kd (k:=k) (by assumption)];rfl
  have hw4:Below w3.heap.size w3 ((w3).alloc (.cells #[.func (.func 180) #[] #[]] 201 (0,0))):=zf w3 _;have yr:((w3).alloc (.cells #[.func (.func 180) #[] #[]] 201 (0,0))).heap[w3.heap.size]? =some (.cells #[.func (.func 180) #[] #[]] 201 (0,0)):=zk w3 _;obtain⟨y,y28,y88,-⟩:=kT hw4 z z28 z88;exact xG hs (hb3.trans (hw4.mono hb3.size)) y (.slice none 0 0) (.func (.func 180) #[] #[]) 0 (.slice (some ⟨w3.heap.size,0,none⟩) 1 1) (by intro W r;simp[results,results145,go_sem,zd r]) (fun hf=>kJ.nil _ _ _) (fun hf=>(Zr _)) (fun hf=>zgo ((hf _ hq.out).trans yr) (Zr _)) rfl rfl
 ·have hs:zF k=some ⟨[],some (.type),0,[]⟩:=by rw[kd (k:=k) (by assumption)];rfl
  have hw4:Below w3.heap.size w3 (w3):=pF _ _;obtain⟨y,y28,y88,-⟩:=kT hw4 z z28 z88;exact xG hs (hb3.trans (hw4.mono hb3.size)) y (.slice none 0 0) (.func (.func 180) #[] #[]) 0 (.slice none 0 0) (by intro W r;simp[results,results145,go_sem,zd r]) (fun hf=>kJ.nil _ _ _) (fun hf=>(Zr _)) (fun hf=>kJ.nil _ _ _) rfl rfl
 ·have hs:zF k=some ⟨[],some (.one 88),1,[]⟩:=by rw[kd (k:=k) (by assumption)];rfl
  have hw4:Below w3.heap.size w3 (w3):=pF _ _;obtain⟨y,y28,y88,-⟩:=kT hw4 z z28 z88;exact xG hs (hb3.trans (hw4.mono hb3.size)) y (.slice none 0 0) (Ql (w.heap.size+1+1)) 1 (.slice none 0 0) (by intro W r;simp[results,results145,go_sem,zd r]) (fun hf=>kJ.nil _ _ _) (fun hf=>(kS ((hf _ (by omega)).trans (y88)))) (fun hf=>kJ.nil _ _ _) rfl rfl
 ·have hs:zF k=some ⟨[],some (.one 89),1,[]⟩:=by rw[kd (k:=k) (by assumption)];rfl
  refine (uo 89 _).mono ?_;rintro e w4 ⟨rfl,rfl⟩;have hw4:Below w3.heap.size w3 ((w3).alloc (Yc 89)):=zf w3 _;have yk:((w3).alloc (Yc 89)).heap[w3.heap.size]? =some (Yc 89):=kE _ _ _ (by simp);obtain⟨y,y28,y88,d0,d1,d2,d3,f0,f1,f2,f3⟩:=kT hw4 z z28 z88;go_wp2_with fail;exact xG hs (hb3.trans (hw4.mono hb3.size)) y (.slice none 0 0) (Ql (w3.heap.size)) 1 (.slice none 0 0) (by intro W r;simp[results,results145,go_sem,zd r]) (fun hf=>kJ.nil _ _ _) (fun hf=>kS ((hf _ (by have:=hsz.out;simp;omega)).trans yk)) (fun hf=>kJ.nil _ _ _) rfl rfl
 ·have hs:zF k=some ⟨[],some (.one 88),0,[.type]⟩:=by rw[kd (k:=k) (by assumption)];rfl
  have hw4:Below w3.heap.size w3 ((w3).alloc (.cells #[.func (.func 180) #[] #[]] 201 (0,0))):=zf w3 _;have yr:((w3).alloc (.cells #[.func (.func 180) #[] #[]] 201 (0,0))).heap[w3.heap.size]? =some (.cells #[.func (.func 180) #[] #[]] 201 (0,0)):=zk w3 _;obtain⟨y,y28,y88,-⟩:=kT hw4 z z28 z88;exact xG hs (hb3.trans (hw4.mono hb3.size)) y (.slice none 0 0) (Ql (w.heap.size+1+1)) 0 (.slice (some ⟨w3.heap.size,0,none⟩) 1 1) (by intro W r;simp[results,results145,go_sem,zd r]) (fun hf=>kJ.nil _ _ _) (fun hf=>(kS ((hf _ (by omega)).trans (y88)))) (fun hf=>zgo ((hf _ hq.out).trans yr) (Zr _)) rfl rfl
 ·have hs:zF k=some ⟨[.type,.expr],none,0,[]⟩:=by rw[kd (k:=k) (by assumption)];rfl
  refine (qW _ _ _ _).mono ?_;rintro e w4 ⟨rfl,hb4⟩;have hw4:Below w3.heap.size w3 w4:=zg (zf w3 (.cells #[.func (.func 180) #[] #[],.func (.func 176) #[] #[]] 201 (0,0))) hb4;have yr:=zh hb4 (zk w3 (.cells #[.func (.func 180) #[] #[],.func (.func 176) #[] #[]] 201 (0,0)));obtain⟨y,y28,y88,d0,d1,d2,d3,f0,f1,f2,f3⟩:=kT hw4 z z28 z88;go_wp2_with fail;exact xG hs (hb3.trans (hw4.mono hb3.size)) y (.slice (some ⟨w3.heap.size,0,none⟩) 2 2) .nilFunc 0 (.slice none 0 0) (by intro W r;simp[results,results145,go_sem,zd r]) (fun hf=>Jo ((hf _ hq.out).trans yr) (Zr _) (qc _)) (fun hf=>rfl) (fun hf=>kJ.nil _ _ _) rfl rfl
 ·have hC:=qL k 8 22 w3;generalize hbb:(decide (8<=k) && decide (k<=22))=b at hC;refine hC.mono ?_;rintro e w4 ⟨rfl,hb0⟩;have y:=zh hb0 z;have hb4:=hb3.trans (hb0.mono hb3.size);have hsz4:=zi (show w.heap.size<w4.heap.size by have:=hsz.out;have:=hb0.size;omega);clear z z28 z88 hb3 hb0 hC;cases b with
  |true=>
   have hs22:zF k=some (Zg [.expr,.expr]):=(by decide:∀j,j<23->8<=j->zF j=some (Zg [.expr,.expr])) k (by rw[pG,pH,pH] at hbb;omega) (by rw[pG,pH,pH] at hbb;omega);go_wp2_with fail;refine (qW _ _ _ _).mono ?_;rintro e w5 ⟨rfl,hb5⟩;have hw5:Below w4.heap.size w4 w5:=zg (zf w4 _) hb5;have yr:=zh hb5 (zk w4 (.cells #[.func (.func 176) #[] #[],.func (.func 176) #[] #[]] 201 (0,0)));obtain⟨y,-,-,d0,d1,d2,d3,f0,f1,f2,f3⟩:=kT hw5 y y y;go_wp2_with fail;exact xG hs22 (hb4.trans (hw5.mono hb4.size)) y (.slice (some ⟨w4.heap.size,0,none⟩) 2 2) .nilFunc 0 (.slice none 0 0) (by intro W r;simp[results,results145,go_sem,zd r]) (fun hf=>Jo ((hf _ (by have:=hsz4.out;omega)).trans yr) (qc _) (qc _)) (fun hf=>rfl) (fun hf=>kJ.nil _ _ _) rfl rfl
  |false=>
   have hn:∀j∈zho,k≠j:=by
    simp only[zho,List.forall_mem_cons]
    repeat' refine And.intro ?_ ?_
    all_goals first|exact kn rfl (by assumption)|(intro x hx;cases hx)
   have hs:zF k=none:=Xy hbb hn;clear hn;obtain⟨-,-,-,d0,d1,d2,d3,f0,f1,f2,f3⟩:=kT bR y y y;go_wp2_with fail;obtain⟨r,hfar,hB⟩:=zhe y (.slice none 0 0) (.nilFunc) (.int .i64 0) (.slice none 0 0) _ rfl;refine bodyPost_ret (v:=.tuple #[shZ,.bool false]) (by simp[results,results145,go_sem,zd r]) rfl ?_;exact⟨hb4.trans (hB _ (pE _)),.inr ⟨hs,rfl⟩⟩
theorem zci{k:Nat}{h:xl}(e:zF k=some h):h.first.length<=3/\h.last.length<=2/\h.least<=1:=by
 have hm:∀k,k<105->(zF k).all (fun h=>decide (h.first.length<=3) && decide (h.last.length<=2) && decide (h.least<=1))=true:=by decide +kernel
 by_cases hk:k<105
 ·have:=hm k hk;rw[e] at this;simp only[Option.all_some,pG,pH] at this;exact⟨this.1.1,this.1.2,this.2⟩
 ·exfalso;have hn:∀j,j<=104->k≠j:=fun j hj=>by omega
  have h22:(decide (8<=k) && decide (k<=22))=false:=by
   rw[show decide (k<=22)=false from by rw[wO];omega,Bool.and_false]
  rw[Xy h22 (fun j hj=>hn j ((by decide:∀j∈zho,j<=104) j hj))] at e;cases e
theorem JT:∃a b c,prog.underlying 201=some (.func a b c):=⟨#[45],#[4],false,by kernel_rfl⟩
theorem ZU(w:World)(d:Nat)(fn:Fn)(first cap:Array Value):(Op.equalIn (d+1) 201 (.func fn first cap) .nilFunc).run prog w=.ok false w:=by
 obtain⟨a,b,c,h⟩:=JT;simp[Op.equalIn,run_underlying h]
theorem Qf(w:World)(d:Nat):(Op.equalIn (d+1) 201 .nilFunc .nilFunc).run prog w=.ok true w:=by
 obtain⟨a,b,c,h⟩:=JT;simp[Op.equalIn,run_underlying h]
theorem zgc(w:World)(fn:Fn)(first cap:Array Value):(binOp .neq 201 (.func fn first cap) .nilFunc).run prog w=.ok (.bool true) w:=by
 simp only[binOp];simp[Op.equal,Op.maxDepth,ZU w 9999 fn first cap]
theorem zgb(w:World):(binOp .neq 201 .nilFunc .nilFunc).run prog w=.ok (.bool false) w:=by
 simp only[binOp];simp[Op.equal,Op.maxDepth,Qf w 9999]
end
section
open Go.RowKit Lode Go.Shelf
attribute [local go_sem ↓] Go.wp_at_zero Go.wp_at_succ
attribute [local go_sem] Xz JX
attribute [local go_sem] zgc zgb
open Go.Proofs.Tryz
theorem kJ.form{w:World}{v:Value}{l:List yN}(h:kJ w v l):∃p cap,v=.slice p l.length cap:=by
 obtain⟨p,cap,hv,_⟩:=h;exact⟨p,cap,hv⟩
theorem kJ.at{w:World}{p:Option Addr}{n cap:Nat}{l:List yN}(h:kJ w (.slice p n cap) l){j:Nat}{s:yN}(hj:l[j]? =some s):∃g y,p=some ⟨g,0,none⟩/\w.cell? ⟨g,j,none⟩=some y/\YC w y s:=by
 obtain⟨p',cap',hv,h⟩:=h;cases hv;rcases h with rfl|⟨g,cs,fr,rfl,hg,hc⟩
 ·simp at hj
 ·obtain⟨y,hy,hs⟩:=hc j s hj;exact⟨g,y,rfl,(zd hg j).trans hy,hs⟩
theorem zid(h:xl)(v:Value)(many:Nat)(w:World)(hv:ShV w v h)(h1:h.first.length<=3)(h2:h.last.length<=2)(hm:many<=1000000):Calls prog 147 #[v,.int .i64 many] w (kQ w (.bool (h.fits many))):=by
 obtain⟨fv,mv,lv,rfl,hf,hmo,hl⟩:=hv;obtain⟨fp,fc,rfl⟩:=hf.form;obtain⟨lp,lc,rfl⟩:=hl.form;obtain⟨fi,mo,le,la⟩:=h;unfold xl.fits;simp only at h1 h2 hmo ⊢;clear hf hl;generalize fi.length=a at *;generalize la.length=b at *;have hz:=zk w (.cells #[.slice fp a fc,mv,.int .i64 le,.slice lp b lc] 204 (0,0));have hA:=zf w (.cells #[.slice fp a fc,mv,.int .i64 le,.slice lp b lc] 204 (0,0));have c0:=zd hz 0;have c1:=zd hz 1;have c2:=zd hz 2;have c3:=zd hz 3;clear hz;have hw1:=pJ ((many:Int)-a) (by omega);have hw2:=pJ ((many:Int)-a-b) (by omega);by_cases hle:a+b+le<=many
 ·have hle':(le:Int)<=(many:Int)-a-b:=by omega
  rw[show decide (a+b+le<=many)=true from wX hle,Bool.true_and];cases mo with
  |none=>
   have hmo:mv=.nilFunc:=hmo;subst hmo;go_enter func147,ntmps147;go_wp2;go_ret;refine⟨?_,hA⟩;have e:((many:Int)-a-b == 0)=((none:Option yN).isSome || decide (many=a+b)):=by
    rw[pW];simp;omega
   rw[<-e];rfl
  |some s=>
   obtain⟨f,caps,rfl,_,_⟩:=YC.use hmo;go_enter func147,ntmps147;go_wp2;go_ret;exact⟨rfl,hA⟩
 ·have hle':¬((le:Int)<=(many:Int)-a-b):=by omega
  rw[show decide (a+b+le<=many)=false from wR hle,Bool.false_and];go_enter func147,ntmps147;go_wp2;go_ret;exact⟨rfl,hA⟩
theorem zjM{h:xl}{many k:Nat}(hf:h.fits many=true)(hk:k<many):∃s,h.at_ k many=some s:=by
 unfold xl.fits at hf;unfold xl.at_;rw[pG,pH,wF,pH] at hf;by_cases h1:k<h.first.length
 ·rw[if_pos h1];exact⟨_,glE h1⟩
 ·rw[if_neg h1];by_cases h2:many<=k+h.last.length
  ·rw[if_pos h2];exact⟨_,glE (by omega)⟩
  ·rw[if_neg h2];rcases hf.2 with h3|h3
   ·exact Option.isSome_iff_exists.1 h3
   ·omega
theorem zkV(h:xl)(v:Value)(k many:Nat)(s:yN)(w:World)(hv:ShV w v h)(h1:h.first.length<=3)(h2:h.last.length<=2)(hm:many<=1000000)(hk:k<many)(hs:h.at_ k many=some s):Calls prog 149 #[v,.int .i64 k,.int .i64 many] w fun e w'=>∃y,e=.returned y/\YC w' y s/\Below w.heap.size w w':=by
 obtain⟨fv,mv,lv,rfl,hf,hmo,hl⟩:=hv;obtain⟨fp,fc,rfl⟩:=hf.form;obtain⟨lp,lc,rfl⟩:=hl.form;obtain⟨fi,mo,le,la⟩:=h;unfold xl.at_ at hs;simp only at h1 h2 hmo hs hf hl ⊢;obtain⟨a,ha⟩:=exE (fi.length);obtain⟨b,hb⟩:=exE (la.length);rw[ha,hb] at hs;rw[ha] at h1 hf ⊢;rw[hb] at h2 hl ⊢;have hz:=zk w (.cells #[.slice fp a fc,mv,.int .i64 le,.slice lp b lc] 204 (0,0));have hA:=zf w (.cells #[.slice fp a fc,mv,.int .i64 le,.slice lp b lc] 204 (0,0));have c0:=zd hz 0;have c1:=zd hz 1;have c3:=zd hz 3;clear hz;have hw1:=pJ ((many:Int)-b) (by omega);by_cases hka:k<a
 ·rw[if_pos hka] at hs;have hka':(k:Int)<(a:Int):=by omega
  have hk0:¬((k:Int)<0):=by omega
  obtain⟨g,y,rfl,hy,hsy⟩:=hf.at hs;have hy2:=zj hA hy;have hSY:=zi (hsy.below hA);clear hf hl hsy hs;go_enter func149,ntmps149;go_wp2;go_ret;exact⟨y,rfl,hSY.out,hA⟩
 ·rw[if_neg hka] at hs;have hka':¬((k:Int)<(a:Int)):=by omega
  by_cases hkb:many<=k+b
  ·rw[if_pos hkb] at hs;have hkb':(many:Int)-b<=(k:Int):=by omega
   obtain⟨j,hj⟩:=exE (k+b-many);rw[hj] at hs;have hw2:IntKind.i64.wrap ((k:Int)-((many:Int)-b))=(j:Int):=by
    rw[show (k:Int)-((many:Int)-b)=(j:Int) by omega];exact pJ _ ⟨by omega,by omega⟩
   have hj0:¬((j:Int)<0):=by omega
   have hjb:(j:Int)<(b:Int):=by omega
   obtain⟨g,y,rfl,hy,hsy⟩:=hl.at hs;have hy2:=zj hA hy;have hSY:=zi (hsy.below hA);clear hf hl hsy hs hj;go_enter func149,ntmps149;go_wp2;go_ret;exact⟨y,rfl,hSY.out,hA⟩
  ·rw[if_neg hkb] at hs;have hkb':¬((many:Int)-b<=(k:Int)):=by omega
   subst hs;have hSY:=zi (YC.below hmo hA);clear hf hl hmo;go_enter func149,ntmps149;go_wp2;go_ret;exact⟨_,rfl,hSY.out,hA⟩
end
section
open Go.RowKit Lode Go.Shelf
attribute [local go_sem ↓] Go.wp_at_zero Go.wp_at_succ
open Go.Proofs.Tryz
theorem zaa(v:Value)(f:Nat)(lb:Array Value)(l:List Int)(p:Int->Bool)(w:World)(heg:Enters prog f)(hK:KS w v l)(hn:l.length<=100000)
 (hp:∀W (k:Int),Below w.heap.size w W->k∈l->Calls prog f (#[.int .i64 k] ++ lb) W (kQ W (.bool (p k)))) :
 Calls prog 187 #[v,.func (.func f) #[] lb] w (kQ w (.int .i64 (Xo p l))):=by
 obtain⟨q,c,rfl⟩:=hK.form;obtain⟨n,hn'⟩:∃n,l.length=n:=⟨_,rfl⟩;rw[hn'] at hn hK ⊢;replace heg:=zi heg;replace hK:=zi hK;replace hp:=zi hp;replace hn':=zi hn';go_enter func187,ntmps187;go_wp2;go_loopw [8] (zfJ p l w) (fun i _=>n-(intOf i).toNat)
 case atStart=>exact⟨0,rfl,pU _,fun i y h=>absurd h (wG _),pF _ _⟩
 case round=>
  obtain⟨j,rfl,hj,hno,hb⟩:=hrel;replace hno:=zi hno;rw[hn'.out] at hj;by_cases hlt:j<n
  ·have hlt':(j:Int)<(n:Int):=by omega
   have hy:=pJ ((j:Int)+1) (by omega);have hjl:j<l.length:=by rw[hn'.out];omega
   have hx:l[j]? =some (l.getD j 0):=by rw[pA,glE hjl];rfl
   obtain⟨g,off,rfl,_,d0⟩:=(hK.out.below hb).at hjl;have hC:=hp.out wr _ hb (wK hx);have heg':=fun W=>heg.out (#[.int .i64 (l.getD j 0)] ++ lb) W
   have HX:=zi (And.intro hx hno.out);clear hx hno;generalize hpx:p (l.getD j 0)=b at *;replace hpx:=zi hpx;generalize l.getD j 0=z at *;go_wp2_with fail;refine hC.mono ?_;rintro e w1 ⟨rfl,hb1⟩;cases b with
   |true=>
    go_wp2;go_ret;refine⟨?_,zg hb hb1⟩;rw[XH p l j _ HX.out.1 hpx.out HX.out.2];rfl
   |false=>
    go_wp2;go_roundw
    case rel=>
     refine⟨j+1,by simp,by rw[hn'.out];omega,fun i y hi hyy=>?_,zg hb hb1⟩;by_cases e:i=j
     ·subst e;rw[HX.out.1] at hyy;cases hyy;exact hpx.out
     ·exact HX.out.2 i y (by omega) hyy
    case measure=>simp[intOf];omega
  ·have hlt':¬((j:Int)<(n:Int)):=by omega
   go_wp2;go_ret;refine⟨?_,hb⟩;rw[Ye p l (fun i y h=>hno.out i y (by have:=(gtL h);rw[hn'.out] at this;omega) h)];rfl
theorem Jz{α:Type}(p:α->Bool)(l:List α):(∃(j:Nat) (x:α),Xo p l=j/\l[j]? =some x/\l.find? p=some x)\/(Xo p l= -1/\l.find? p=none):=by
 unfold Xo;cases hf:l.findIdx? p with
 |none=>
  refine .inr ⟨rfl,?_⟩;rw[List.findIdx?_eq_none_iff] at hf;rw[List.find?_eq_none];intro x hx e;rw[hf x hx] at e;cases e
 |some j=>
  rw[List.findIdx?_eq_some_iff_getElem] at hf;obtain⟨hj,hp,hno⟩:=hf;refine .inl ⟨j,l[j],rfl,glE hj,?_⟩;rw[List.find?_eq_some_iff_getElem];exact⟨hp,j,hj,rfl,fun i hi=>by have:=hno i hi;simpa using this⟩
theorem zbn{α:Type}(p:α->Bool)(l:List α):decide (0<=Xo p l)=l.any p:=by
 rcases Jz p l with⟨j,x,hj,hx,hf⟩|⟨hj,hf⟩
 ·rw[hj,wX (by omega)];symm;rw[gC];exact⟨x,wK hx,List.find?_some hf⟩
 ·rw[hj,wR (by omega)];symm;rw[List.any_eq_false];rw[List.find?_eq_none] at hf;exact hf
theorem zgK(v:Value)(f:Nat)(lb:Array Value)(l:List Int)(p:Int->Bool)(w:World)(heg:Enters prog f)(hK:KS w v l)(hn:l.length<=100000)
 (hp:∀W (k:Int),Below w.heap.size w W->k∈l->Calls prog f (#[.int .i64 k] ++ lb) W (kQ W (.bool (p k)))) :
 Calls prog 185 #[v,.func (.func f) #[] lb] w (kQ w (.bool (l.any p))):=by
 have hI:=zi (zaa v f lb l p w heg hK hn hp);have he:=zbn p l;rw[<-he];clear he hp heg;obtain⟨q,c,rfl⟩:=hK.form;clear hK;generalize Xo p l=z at *;generalize l.length=n at *;go_enter func185,ntmps185;go_wp2_with fail;refine hI.out.mono ?_;rintro e w1 ⟨rfl,hb⟩;go_wp2;go_ret;exact⟨rfl,hb⟩
abbrev fmO(nv iv:Value)(next:Int):Obj:=.cells #[nv,iv,.int .i64 next] 155 (0,0)
abbrev QX(F:Nat):Obj:=.cells #[.pointer (some ⟨F,0,none⟩)] 153 (0,0)
theorem zaM(k:Int)(B F n:Nat)(np:Option Addr)(nc:Nat)(iv:Value)(next:Int)(w:World)(hB:w.heap[B]? =some (QX F))(hF:w.heap[F]? =some (fmO (.slice np n nc) iv next)):
 Calls prog 186 #[.int .i64 k,.pointer (some ⟨B,0,none⟩)] w (kQ w (.bool (decide (k<0) || decide ((n:Int)<=k)))):=by
 have c0:=zd hB 0;have c1:=zd hF 0;clear hB hF;by_cases h:k<0
 ·rw[show decide (k<0)=true from wX h,Bool.true_or];go_enter func186,ntmps186;go_wp2;go_ret;exact⟨rfl,pF _ _⟩
 ·rw[show decide (k<0)=false from wR h,Bool.false_or];go_enter func186,ntmps186;go_wp2;go_ret;exact⟨rfl,pF _ _⟩
theorem zaL(k:Int)(B F:Nat)(nv iv:Value)(next:Int)(l:List Nd)(kv:List Value)(w:World)(hB:w.heap[B]? =some (QX F))(hF:w.heap[F]? =some (fmO nv iv next))(hN:NS w nv l kv)(hk:0<=k/\k<(l.length:Int)):
 Calls prog 188 #[.int .i64 k,.pointer (some ⟨B,0,none⟩)] w (kQ w (.bool (zE l k == 65))):=by
 obtain⟨j,rfl⟩:=pP hk.1;have hjl:j<l.length:=by omega
 obtain⟨np,nc,rfl⟩:=hN.form;obtain⟨x,hx⟩:∃x,l[j]? =some x:=⟨_,glE hjl⟩;obtain⟨g,off,u,rfl,hA⟩:=hN.at hx;have a0:=hA.c0;have hka:zE l (j:Int)=x.kind:=by
  unfold zE;rw[wE,hx];rfl
 rw[hka];have c0:=zd hB 0;have c1:=zd hF 0;generalize hn:l.length=n at *;have hj1:(j:Int)<(n:Int):=by omega
 have hj0:¬((j:Int)<0):=by omega
 clear hB hF hN hA hx hka hk;go_enter func188,ntmps188;go_wp2;go_ret;refine⟨?_,pF _ _⟩;rw[show (x.kind == 65)=((x.kind:Int) == 65) by rw[pW];simp;omega];rfl
theorem zie{p:Int->Bool}{l:List Int}:decide (l.length<=l.findIdx p+1)=(decide (Xo p l<0) || (Xo p l == (l.length:Int)-1)):=by
 unfold Xo;cases hf:l.findIdx? p with
 |none=>
  rw[List.findIdx?_eq_none_iff_findIdx_eq] at hf;rw[hf];simp
 |some j=>
  have hj:l.findIdx p=j:=by
   rw[List.findIdx?_eq_some_iff_findIdx_eq] at hf;exact hf.2
  have hjl:j<l.length:=by
   rw[List.findIdx?_eq_some_iff_findIdx_eq] at hf;exact hf.1
  rw[hj,pW];simp;omega
theorem zcd(x:Nd)(u:Value)(F:Nat)(nv iv:Value)(next:Int)(l:List Nd)(kv:List Value)(w:World)(hF:w.heap[F]? =some (fmO nv iv next))(hN:NS w nv l kv)(hk:KS w u x.kids)(hkl:x.kids.length<=100000)(h255:∀y∈l,y.kind<=255):
 Calls prog 148 #[.pointer (some ⟨F,0,none⟩),uV x u] w (kQ w (.bool (xD l x))):=by
 obtain⟨r,hr⟩:=exE (xD l x);rw[hr];unfold xD at hr;obtain⟨up,uc,rfl⟩:=hk.form;obtain⟨k,t,n,ks,a⟩:=x;simp only at hr hkl hk ⊢;obtain⟨m,hm⟩:=exE (ks.length);rw[hm] at hk hkl ⊢;obtain⟨np,nc,rfl⟩:=hN.form;have hz0:=zk w (QX F);have hA0:=zf w (QX F);have hz1:=zk (w.alloc (QX F)) (.cells #[.int .u8 k,.string ⟨t.toArray⟩,.int .i64 n,.slice up m uc,.int .i64 a] 45 (0,0));have hA1:=zf (w.alloc (QX F)) (.cells #[.int .u8 k,.string ⟨t.toArray⟩,.int .i64 n,.slice up m uc,.int .i64 a] 45 (0,0));have hz0':=zh hA1 hz0;have hAA:=zg hA0 hA1;have hF1:=zh hAA hF;have hN1:=hN.below hAA;have hk1:=hk.below hAA;clear hz0 hF hN hk hA0 hA1;have hsz:(w.alloc (QX F)).heap.size=w.heap.size+1:=by simp
 rw[hsz] at hz1;have hCF:=zi (zgK (.slice up m uc) 186 #[.pointer (some ⟨w.heap.size,0,none⟩)] ks (fun k=>decide (k<0) || decide ((l.length:Int)<=k)) _ (enters_of (P:=prog) func186 (by kernel_rfl) rfl) hk1 (by omega) (fun W k hb _=>zaM k w.heap.size F l.length np nc iv next W (zh hb hz0') (zh hb hF1)));have hIX:=zi (fun (hin:∀k∈ks,0<=k/\k<(l.length:Int)) (W0:World) (hb0:Below (((w.alloc (QX F)).alloc (.cells #[.int .u8 k,.string ⟨t.toArray⟩,.int .i64 n,.slice up m uc,.int .i64 a] 45 (0,0)))).heap.size _ W0)=>zaa (.slice up m uc) 188 #[.pointer (some ⟨w.heap.size,0,none⟩)] ks (fun k=>zE l k == 65) W0 (enters_of (P:=prog) func188 (by kernel_rfl) rfl) (hk1.below hb0) (by omega) (fun W k hb hkm=>zaL k w.heap.size F (.slice np l.length nc) iv next l kv W (zh hb (zh hb0 hz0')) (zh hb (zh hb0 hF1)) ((hN1.below hb0).below hb) (hin k hkm)));have hmf:∀(fn:Fn) (first cap:Array Value) (w:World),(Instr.makeFunc fn first cap).run prog w=.ok (.func fn first cap) w:=fun _ _ _ _=>rfl
 generalize hW0:((w.alloc (QX F)).alloc (.cells #[.int .u8 k,.string ⟨t.toArray⟩,.int .i64 n,.slice up m uc,.int .i64 a] 45 (0,0)))=w0 at *;have c1:=zd hz1 0;have c2:=zd hz1 2;have c3:=zd hz1 3;have HN:=zi hN1;have HK:=zi hk1;have HM:=zi hm;have HR:=zi hr;have HF:=zi hF1;have HZ0:=zi hz0';have HZ1:=zi hz1;clear hN1 hk1 hm hr hF1 hz0' hz1 hsz;go_enter func148,ntmps148;go_wp2_with fail;refine hCF.out.mono ?_;rintro e w1 ⟨rfl,hb1⟩;have hB1:=zi (zg hAA hb1);have N1:=zi (HN.out.below hb1);have K1:=zi (HK.out.below hb1);have F1:=zi (zh hb1 HF.out);have P1:=zi (zh hb1 HZ0.out);have X1:=zi (zh hb1 HZ1.out);have IX:=zi (fun hin=>hIX.out hin w1 hb1);clear c1 c2 c3 hCF hIX HN HK HF HZ0 HZ1 hb1 hAA;have c1:=zd X1.out 0;have c2:=zd X1.out 2;have c3:=zd X1.out 3;cases hany:(ks.any fun k=>decide (k<0) || decide ((l.length:Int)<=k)) with
 |true=>
  have hr2:false=r:=by
   have:=HR.out;rw[hany,if_pos rfl] at this;exact this
  subst hr2;go_wp2;go_ret;exact⟨rfl,hB1.out⟩
 |false=>
  have hin:∀k∈ks,0<=k/\k<(l.length:Int):=by
   rw[List.any_eq_false] at hany;intro k hk;have:=hany k hk;simp at this;omega
  have hr2:(if k == 28 then n == 0 || (match ks.getLast? with|some k=>zx (zE l k)|none=>false) else if k == 29 then decide (ks.length<=3) else if k == 35 then decide (ks.length<=(ks.findIdx fun k=>zE l k == 65)+1) else true)=r:=by
   have:=HR.out;rw[hany,if_neg (by decide)] at this;exact this
  have HIN:=zi hin;clear hin hany HR;by_cases h28:k=28
  ·subst h28;have hr3:(n == 0 || (match ks.getLast? with|some k=>zx (zE l k)|none=>false))=r:=hr2;by_cases hn0:n=0
   ·subst hn0;have hr4:true=r:=hr3;subst hr4;clear hr2 hr3;go_wp2_with fail;go_quiet (fail);go_wp2;go_ret;exact⟨rfl,ym hB1.out _⟩
   ·have hn1:(n == 0)=false:=bfE hn0
    rw[hn1,Bool.false_or] at hr3;by_cases hm0:m=0
    ·subst hm0;have hr4:false=r:=by
      have hks:ks=[]:=pM HM.out;rw[hks] at hr3;exact hr3
     subst hr4;clear hr2 hr3;go_wp2_with fail;go_quiet (fail);go_wp2;go_ret;exact⟨rfl,ym hB1.out _⟩
    ·obtain⟨q,hq⟩:∃q,m=q+1:=⟨m-1,by omega⟩;subst hq;have hql:q<ks.length:=by rw[HM.out];omega
     have hlast:ks.getLast? =some (ks.getD q 0):=by
      rw[List.getLast?_eq_getElem?,HM.out,Nat.add_sub_cancel,pA,glE hql];rfl
     rw[hlast] at hr3;simp only at hr3;have hzv:=HIN.out (ks.getD q 0) (by rw[pA,glE hql];exact wC hql);obtain⟨g,off,rfl,_,d0⟩:=K1.out.at hql;generalize ks.getD q 0=z at *;obtain⟨zn,rfl⟩:=pP hzv.1;have hzl:zn<l.length:=by omega
     obtain⟨x9,hx9⟩:∃x,l[zn]? =some x:=⟨_,glE hzl⟩;obtain⟨g9,off9,u9,rfl,hA⟩:=N1.out.at hx9;have hr4:zx x9.kind=r:=by
      rw[<-hr3];unfold zE;rw[wE,hx9];rfl
     have h9:=h255 x9 (wK hx9);have hw:IntKind.i64.wrap (q:Int)=(q:Int):=pJ _ ⟨by omega,by omega⟩;have hq0:¬((q:Int)<0):=by omega
     have hqm:(q:Int)<(q:Int)+1:=by omega
     have hz0:¬((zn:Int)<0):=by omega
     have hzl':(zn:Int)<(l.length:Int):=by omega
     have hm1:(0:Int)<(q:Int)+1:=by omega
     have hEx:=zi (fun W (hb:Below w1.heap.size w1 W)=>Xg x9 u9 W (hA.kids.below hb) h9);have hform:=hA.kids.form;obtain⟨p9,cp9,rfl⟩:=hform;obtain⟨y0,y1,y2,y3,y4⟩:=x9;have a0:=hA.c0;have a1:=hA.c1;have a2:=hA.c2;have a3:=hA.c3;have a4:=hA.c4;simp only at a0 a1 a2 a3 a4 hr4 hEx;generalize y3.length=n9 at *;have hS:∀W,Cl w1.drew W->W.cell? ⟨w.heap.size+1,2,none⟩=some (.int .i64 n)/\W.cell? ⟨w.heap.size+1,3,none⟩=some (.slice (some ⟨g,off,none⟩) (q+1) uc)/\W.cell? ⟨w.heap.size,0,none⟩=some (.pointer (some ⟨F,0,none⟩))/\W.cell? ⟨F,0,none⟩=some (.slice (some ⟨g9,off9,none⟩) l.length nc)/\W.cell? ⟨g,off+q,none⟩=some (.int .i64 zn)/\W.cell? ⟨g9,off9+zn*5,none⟩=some (.int .u8 y0)/\W.cell? ⟨g9,off9+zn*5+1,none⟩=some (.string ⟨y1.toArray⟩)/\W.cell? ⟨g9,off9+zn*5+2,none⟩=some (.int .i64 y2)/\W.cell? ⟨g9,off9+zn*5+3,none⟩=some (.slice p9 n9 cp9)/\W.cell? ⟨g9,off9+zn*5+4,none⟩=some (.int .i64 y4):=fun W h=>by
      have hb:=zg (pF w1.heap.size w1).drew h.below;exact⟨zj hb (zd X1.out 2),zj hb (zd X1.out 3),zj hb (zd P1.out 0),zj hb (zd F1.out 0),zj hb d0,zj hb a0,zj hb a1,zj hb a2,zj hb a3,zj hb a4⟩
     clear hr2 hr3 hA hx9 hlast IX d0 a0 a1 a2 a3 a4;go_wp2_with fail;clear c1 c2 c3;refine zaQ [(0,0),(1,1),(2,0),(3,0),(4,0),(5,0),(6,0),(7,1),(8,0),(9,0),(10,0),(11,1),(12,0),(13,1),(14,0),(15,0),(16,0),(17,1),(18,0),(19,1),(20,2),(21,0),(22,0),(23,0)] ?_;refine goM ?_;refine zZ rfl rfl (fun K hK W hW=>?_);go_simp;have hbW:=zg (pF w1.heap.size w1).drew hW.below;refine (hEx.out W hbW).mono ?_;rintro e w4 ⟨rfl,hb4⟩;go_simp;refine⟨ux.2 hb4,hK _ _ ?_⟩;clear hK K
     try simp only[Act.put,yG,yE,yF]
     clear hS;have hS:∀W,Cl w4 W->True/\True:=fun _ _=>⟨trivial,trivial⟩
     refine goM ?_;refine zC fun W' hW'=>?_
     go_wp2;go_ret;refine⟨?_,zg (zg (zg hB1.out hbW) hb4) hW'.below⟩;rw[<-hr4];rfl
  ·have i28:((k:Int) == 28)=false:=bfE (by omega)
   by_cases h29:k=29
   ·subst h29;have hr3:decide (ks.length<=3)=r:=hr2;rw[HM.out] at hr3;have hr4:decide ((m:Int)<=3)=r:=by rw[<-hr3];exact decide_eq_decide.2 (by omega)
    clear hr2 hr3;go_wp2;go_ret;exact⟨by rw[<-hr4];rfl,hB1.out⟩
   ·have i29:((k:Int) == 29)=false:=bfE (by omega)
    by_cases h35:k=35
    ·subst h35;have hr3:decide (ks.length<=(ks.findIdx fun k=>zE l k == 65)+1)=r:=hr2;rw[zie,HM.out] at hr3;have IX2:=zi (IX.out HIN.out);generalize hix:Xo (fun k=>zE l k == 65) ks=ix at *;clear hr2 IX;have hw:=pJ ((m:Int)-1) (by omega);go_wp2_with fail;refine IX2.out.mono ?_;rintro e w2 ⟨rfl,hb2⟩;by_cases hx0:ix<0
     ·rw[show decide (ix<0)=true from wX hx0,Bool.true_or] at hr3;subst hr3;go_wp2;go_ret;exact⟨rfl,zg hB1.out hb2⟩
     ·rw[show decide (ix<0)=false from wR hx0,Bool.false_or] at hr3;go_wp2;go_ret;refine⟨?_,zg hB1.out hb2⟩;show Ending.returned (.bool (decide (ix<0) || r))=_
      rw[wR (by omega),Bool.false_or]
    ·have i35:((k:Int) == 35)=false:=bfE (by omega)
     have hr3:true=r:=by
      rw[<-hr2,if_neg (by simpa using h28),if_neg (by simpa using h29),if_neg (by simpa using h35)]
     subst hr3;clear hr2;go_wp2;go_ret;exact⟨rfl,hB1.out⟩
end
end Go.Proofs.YtnncmdpopgkibaaGreatDoor
