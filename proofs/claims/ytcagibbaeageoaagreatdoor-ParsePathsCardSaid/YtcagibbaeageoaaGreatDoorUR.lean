/-
  A part of the proof: contracts of functions; no conditions.
-/
import Derived.Test.YtcagibbaeageoaaGreatDoorUQ
import Derived.ChangeSlices
import Derived.Lib.LaidTab
import Derived.LaidSub
import Derived.Stop.LaidErr
import Derived.WalkKit
import Derived.Test.YtcagibbaeageoaaGreatDoorRows
import Derived.Test.YtcagibbaeageoaaGreatDoorProg
import Derived.Deep.Slices
import Derived.Deep.Fields
import Derived.ChangeSame
import Derived.OpenShut
import Derived.Lib.SmallJoins
set_option maxRecDepth 100000
set_option maxHeartbeats 40000000
set_option linter.unusedSimpArgs false
set_option linter.unusedVariables false
namespace Go.Proofs.YtcagibbaeageoaaGreatDoor
section
open Go.RowKit Lode Go.Shelf
open Go.Proofs.Tryz
theorem Tryz.laidOut:laidOutB prog=true:=by kernel_rfl
theorem zdM: "*" ++ "errors.errorString" = "*errors.errorString" :=by decide
theorem zhI(u:TypeId)(h:prog.typeName? 3 u=some "*errors.errorString"):u=284:=
 typeName_ptr_named (nm:= "errors.errorString") (by rw[zdM];kernel_rfl) (by kernel_rfl) (by decide) u (by rw[zdM];exact h)
theorem zcg(w:World)(hL:laidMet prog Rows.parseChecksRow.laid w):qy w:=by
 refine⟨?_,?_,?_⟩
 ·have h:=hL.filter (fun x=>x.1 == "strings.asciiSpace");have e:(Rows.parseChecksRow.laid.filter fun x=>x.1 == "strings.asciiSpace")=[("strings.asciiSpace",Lib.tabData .u8 Lib.asciiSpaceTab)]:=by rfl
  rw[e] at h;exact Lib.tabIs_of_head (g:=0) (t:=220) (e:=5) (n:=256) (by kernel_rfl) (by kernel_rfl) (by kernel_rfl) (by kernel_rfl) (by kernel_rfl) (by kernel_rfl) h
 ·have h:=hL.filter (fun x=>x.1 == "internal/strconv.uint64pow10");have e:(Rows.parseChecksRow.laid.filter fun x=>x.1 == "internal/strconv.uint64pow10")=[("internal/strconv.uint64pow10",Lib.tabData .u64 Lib.pow10Tab)]:=by rfl
  rw[e] at h;exact Lib.tabIs_of_head (g:=3) (t:=268) (e:=245) (n:=20) (by kernel_rfl) (by kernel_rfl) (by kernel_rfl) (by kernel_rfl) (by kernel_rfl) (by kernel_rfl) h
 ·have h:=hL.filter (fun x=>x.1 == "strconv.ErrRange");have e:(Rows.parseChecksRow.laid.filter fun x=>x.1 == "strconv.ErrRange")=[("strconv.ErrRange",.iface "*errors.errorString" (.ptr (.agg [.lit (.string [118,97,108,117,101,32,111,117,116,32,111,102,32,114,97,110,103,101])])))]:=by rfl
  rw[e] at h;obtain⟨a,s,hv,_⟩:=laid_sentinel (g:=5) (tp:=284) (te:=286) (ts:=9) (ti:=82) h (by kernel_rfl) (by kernel_rfl) underlying82 zhI underlying284 underlying286 rfl rfl (by kernel_rfl) (by kernel_rfl) (by kernel_rfl);exact⟨_,_,hv⟩
end
section
open Go.RowKit Go.ChangeShapes Go.WideShapes Go.Deep Lode
open Go.Proofs.Tryz
theorem zgQ{n:Int}(h:(Lit.int .u8 n).wf=true):0≤n∧n≤255:=by
 have h1:IntKind.u8.min=0:=by decide
 have h2:IntKind.u8.max=255:=by decide
 simp only[Lit.wf,Bool.and_eq_true,decide_eq_true_eq,h1,h2] at h;exact h
theorem zau{n:Int}(h:(Lit.int .i64 n).wf=true):I64 n:=by
 have h1:IntKind.i64.min= -9223372036854775808:=by decide
 have h2:IntKind.i64.max=9223372036854775807:=by decide
 simp only[Lit.wf,Bool.and_eq_true,decide_eq_true_eq,h1,h2] at h;exact h
theorem Zk(g off j:Nat):(⟨g,off,none⟩:Addr).add j=⟨g,off+j,none⟩:=by
 unfold Addr.add;split
 ·rename_i h;subst h;rfl
 ·rfl
theorem ziU(a:Addr):a.add 0=a:=by unfold Addr.add;simp
variable {H:Type} {enc:TypeId×Value→H} {w:World} {base:Nat} {spare:Nat→Bool} {held:Bool}
theorem zca{fuel:Nat}{cs:List Value}{x:DataW H×List MemPlace}(hf:DataW.trod enc prog w base spare held fuel 24 cs=some x):∃v l,cs=[v]∧JS w v l∧∀k∈l,I64 k:=by
 rcases open_slice1 underlying24 (by kernel_rfl) hf with⟨rfl,_⟩|⟨a,len,cap,m,n,V,D,Pl,rfl,_,hl,_,hm,_,hi⟩
 ·exact⟨_,[],rfl,⟨none,0,rfl,.inl rfl⟩,fun k hk=>by cases hk⟩
 ·have hlm:len≤m:=by rw[hm];split <;> omega
  have hone:∀i,i<len→∃z:Int,w.cell? (a.add i)=some (.int .i64 z)∧I64 z:=fun i hi'=>by
   obtain⟨hc,ht⟩:=hi i (by omega);obtain⟨z,q,_,wz⟩:=DataW.trod_int underlying3 ht;have e:V i=.int .i64 z:=by simpa using q
   exact⟨z,by rw[hc,e],zau wz⟩
  by_cases h0:len=0
  ·subst h0;exact⟨_,[],rfl,⟨some a,cap,rfl,.inl rfl⟩,fun k hk=>by cases hk⟩
  ·have hsp:a.spot=none:=by
    obtain⟨z,hz,_⟩:=hone 0 (by omega);rw[ziU] at hz;exact World.cell?_spot hz
   obtain⟨g,off,sp⟩:=a;simp only at hsp;subst hsp;refine⟨_,List.ofFn fun i:Fin len=>Classical.choose (hone i.1 i.2),rfl,⟨some ⟨g,off,none⟩,cap,by rw[List.length_ofFn],.inr ⟨g,off,rfl,fun j hj=>?_⟩⟩,fun k hk=>?_⟩
   ·rw[List.length_ofFn] at hj;have hq:=(Classical.choose_spec (hone j hj)).1;rw[List.getD_eq_getElem?_getD,glE (by rw[List.length_ofFn];exact hj),List.getElem_ofFn];exact (congrArg w.cell? (Zk g off j)).symm.trans hq
   ·obtain⟨i,rfl⟩:=List.mem_ofFn.1 hk;exact (Classical.choose_spec (hone i.1 i.2)).2
structure zjB(t:z6):Prop where
 kind:∀x∈t.nodes,x.kind≤255
 kids:∀x∈t.nodes,∀k∈x.kids,I64 k
 items:∀k∈t.items,I64 k
 n:∀x∈t.nodes,I64 x.n
 at_:∀x∈t.nodes,I64 x.at_
theorem zej{fuel:Nat}{cs:List Value}{x:DataW H×List MemPlace}(hf:DataW.trod enc prog w base spare held fuel 23 cs=some x):∃v l,cs=[v]∧NSo w v l∧∀y∈l,y.kind≤255∧(∀k∈y.kids,I64 k)∧I64 y.n∧I64 y.at_:=by
 rcases open_slice underlying23 hf with⟨rfl,_⟩|⟨a,len,cap,m,n,D,Pl,rfl,_,hl,_,hm,_,hi⟩
 ·exact⟨_,[],rfl,⟨none,0,rfl,.inl rfl⟩,fun k hk=>by cases hk⟩
 ·have hlm:len≤m:=by rw[hm];split <;> omega
  have hC:prog.cellsOf 60=5:=by kernel_rfl
  rw[hC] at hi;have hone:∀i,i<len→∃t:Nd,(∃u,w.cell? (a.add (i*5))=some (.int .u8 t.kind)∧w.cell? ((a.add (i*5)).add 1)=some (.string ⟨t.text.toArray⟩)∧w.cell? ((a.add (i*5)).add 2)=some (.int .i64 t.n)∧w.cell? ((a.add (i*5)).add 3)=some u∧w.cell? ((a.add (i*5)).add 4)=some (.int .i64 t.at_)∧JS w u t.kids)∧t.kind≤255∧(∀k∈t.kids,I64 k)∧I64 t.n∧I64 t.at_:=fun i hi'=>by
   obtain⟨cs',hc,ht⟩:=hi i (by omega);obtain⟨_,hcl,hat⟩:=World.cells?_some hc;obtain⟨ys,n',_,_,_,hyl,hfs⟩:=DataW.trod_struct underlying60 ht
   match cs',hcl with
   |[v0,v1,v2,v3,v4],_=>
    match ys,hyl with
    |[y0,y1,y2,y3,y4],_=>
     have k5:prog.cellsOf 5=1:=by kernel_rfl
     have k9:prog.cellsOf 9=1:=by kernel_rfl
     have k3:prog.cellsOf 3=1:=by kernel_rfl
     have ks:prog.cellsOf 24=1:=by kernel_rfl
     have e0:DataW.trod enc prog w base spare held n' 5 (([v0,v1,v2,v3,v4].drop 0).take (prog.cellsOf 5))=some y0:=hfs 0 _ rfl;have e1:DataW.trod enc prog w base spare held n' 9 (([v0,v1,v2,v3,v4].drop 1).take (prog.cellsOf 9))=some y1:=hfs 1 _ rfl;have e2:DataW.trod enc prog w base spare held n' 3 (([v0,v1,v2,v3,v4].drop 2).take (prog.cellsOf 3))=some y2:=hfs 2 _ rfl;have e3:DataW.trod enc prog w base spare held n' 24 (([v0,v1,v2,v3,v4].drop 3).take (prog.cellsOf 24))=some y3:=hfs 3 _ rfl;have e4:DataW.trod enc prog w base spare held n' 3 (([v0,v1,v2,v3,v4].drop 4).take (prog.cellsOf 3))=some y4:=hfs 4 _ rfl;rw[k5] at e0;rw[k9] at e1;rw[k3] at e2 e4;rw[ks] at e3;obtain⟨x0,q0,_,w0⟩:=DataW.trod_int underlying5 e0;obtain⟨x1,q1,_,_⟩:=DataW.trod_string underlying9 e1;obtain⟨x2,q2,_,w2⟩:=DataW.trod_int underlying3 e2;obtain⟨x3,l3,q3,h3,r3⟩:=zca e3;obtain⟨x4,q4,_,w4⟩:=DataW.trod_int underlying3 e4;have r0:v0=.int .u8 x0:=by simpa using q0
     have r1:v1=.string x1:=by simpa using q1
     have r2:v2=.int .i64 x2:=by simpa using q2
     have s3:v3=x3:=by simpa using q3
     have r4:v4=.int .i64 x4:=by simpa using q4
     subst r0 r1 r2 s3 r4;have hk:=zgQ w0;obtain⟨k0,rfl⟩:∃y:Nat,x0=(y:Int):=Int.eq_ofNat_of_zero_le hk.1;have hk0:k0≤255:=by omega
     exact⟨⟨k0,x1.data.toList,x2,l3,x4⟩,⟨v3,hat 0 (by decide),hat 1 (by decide),hat 2 (by decide),hat 3 (by decide),hat 4 (by decide),h3⟩,hk0,r3,zau w2,zau w4⟩
  by_cases h0:len=0
  ·subst h0;exact⟨_,[],rfl,⟨some a,cap,rfl,.inl rfl⟩,fun k hk=>by cases hk⟩
  ·have hsp:a.spot=none:=by
    obtain⟨z,⟨u,hz,_⟩,_⟩:=hone 0 (by omega);rw[Nat.zero_mul,ziU] at hz;exact World.cell?_spot hz
   obtain⟨g,off,sp⟩:=a;simp only at hsp;subst hsp;refine⟨_,List.ofFn fun i:Fin len=>Classical.choose (hone i.1 i.2),rfl,⟨some ⟨g,off,none⟩,cap,by rw[List.length_ofFn],.inr ⟨g,off,rfl,fun j y hy=>?_⟩⟩,fun k hk=>?_⟩
   ·have hj:j<len:=by have:=(gtL hy);rwa [List.length_ofFn] at this
    obtain⟨u,q0,q1,q2,q3,q4,q5⟩:=(Classical.choose_spec (hone j hj)).1;rw[glE (by rw[List.length_ofFn];exact hj),List.getElem_ofFn] at hy;cases hy;have h2:∀k,((⟨g,off,none⟩:Addr).add (j*5)).add k=⟨g,off+j*5+k,none⟩:=fun k=>by rw[Zk,Zk]
    exact⟨u,(congrArg w.cell? (Zk g off (j*5))).symm.trans q0,(congrArg w.cell? (h2 1)).symm.trans q1,(congrArg w.cell? (h2 2)).symm.trans q2,(congrArg w.cell? (h2 3)).symm.trans q3,(congrArg w.cell? (h2 4)).symm.trans q4,q5⟩
   ·obtain⟨i,rfl⟩:=List.mem_ofFn.1 hk;exact (Classical.choose_spec (hone i.1 i.2)).2
theorem zbN{r:Reach}{b:Nat}{v:Value}{d:DataW H}{p:List MemPlace}(hv:Value.okWide prog w r b 26 v)(h:DataW.Trod enc prog w base spare held 26 v d p):∃nv iv t,v=.agg #[nv,iv]∧YC w nv iv t∧zjB t:=by
 obtain⟨c0,c1,y0,y1,m,rfl,rfl,rfl,e0,e1⟩:=Go.Joins.open_agg2 underlying26 (by kernel_rfl) (show prog.cellsOf 26=2 by kernel_rfl) hv h;obtain⟨v0,l0,q0,h0,r0⟩:=zej e0;obtain⟨v1,l1,q1,h1,r1⟩:=zca e1;have s0:c0=v0:=by simpa using q0
 have s1:c1=v1:=by simpa using q1
 subst s0 s1;exact⟨c0,c1,⟨l0,l1⟩,rfl,⟨h0,h1⟩,⟨fun x hx=>(r0 x hx).1,fun x hx=>(r0 x hx).2.1,r1,fun x hx=>(r0 x hx).2.2.1,fun x hx=>(r0 x hx).2.2.2⟩⟩
end
section
open Go.RowKit Lode Go.Shelf
attribute [local go_sem ↓] Go.wp_at_zero Go.wp_at_succ
open Go.Proofs.Tryz
theorem zb2{t:z6}(h:okB t=true):JJ7 t∧∀x∈t.nodes,x.kids.length≤1000:=by
 unfold okB at h;simp only[Bool.and_eq_true,decide_eq_true_eq,List.all_eq_true] at h;obtain⟨⟨h1,h2⟩,h3⟩:=h;exact⟨⟨fun x hx=>(h1 x hx).1.1,fun x hx=>by have:=(h1 x hx).1.2;omega,fun x hx=>by have:=(h1 x hx).2;omega,by omega,by omega⟩,fun x hx=>(h1 x hx).2⟩
end
section
open Go.RowKit Lode Go.Shelf
attribute [local go_sem ↓] Go.wp_at_zero Go.wp_at_succ
attribute [local irreducible] yW vd ZN XZ Yf VI Y5 okB
open Go.Proofs.Tryz
theorem kd1:(⟨k1.toArray⟩:ByteArray).data.toList=k1:=rfl
theorem kd2:(⟨k2.toArray⟩:ByteArray).data.toList=k2:=rfl
theorem kd3:(⟨k3.toArray⟩:ByteArray).data.toList=k3:=rfl
theorem kd4:(⟨k4.toArray⟩:ByteArray).data.toList=k4:=rfl
theorem kd5:(⟨k5.toArray⟩:ByteArray).data.toList=k5:=rfl
theorem kd6:(⟨k6.toArray⟩:ByteArray).data.toList=k6:=rfl
theorem Zd{α β:Type}{p:α×β}{a:α}{b:β}(h1:p.1=a)(h2:p.2=b):p=(a,b):=Prod.ext h1 h2
theorem Ql(w:World)(hG:qy w):Calls prog 10 #[] w (qe w (.bool true)):=by
 have HG:=zj hG;obtain⟨T1,hT1⟩:∃T,(yW k1).1=T:=⟨_,rfl⟩;obtain⟨T4,hT4⟩:∃T,(yW k4).1=T:=⟨_,rfl⟩;obtain⟨T5,hT5⟩:∃T,(yW k5).1=T:=⟨_,rfl⟩;obtain⟨T6,hT6⟩:∃T,(yW k6).1=T:=⟨_,rfl⟩;obtain⟨A6,hA6⟩:∃a,(yW k6).2.1=a:=⟨_,rfl⟩;obtain⟨S3,hS3⟩:∃s,(vd k3).1=s:=⟨_,rfl⟩;have hk1:=zb2 (t:=T1) (by rw[←hT1];exact zjz);have hk6:=zb2 (t:=T6) (by rw[←hT6];exact zjs);have hn1:T1.nodes.length=7:=by rw[←hT1];exact zjy
 have HP1:=zj (fun (W:World) (hb:Below w.heap.size w W)=>(show Calls prog 11 #[.string ⟨#[114,111,111,116,32,97,58,32,105,110,116,32,61,32,49,32,43,32,98,32,42,32,50,59]⟩] W (QH (T1,0,0) W) from by
  have:=vO ⟨k1.toArray⟩ W (by show k1.length≤_;decide) (HG.out.later hb);rw[kd1,show yW k1=(T1,0,0) from Zd hT1 kn1] at this;exact this))
 have HP4:=zj (fun (W:World) (hb:Below w.heap.size w W)=>(show Calls prog 11 #[.string ⟨#[114,111,111,116,32,99,58,32,99,104,97,110,32,105,110,116,32,61,32,99,104,97,110,32,105,110,116,40,57,41,59]⟩] W (QH (T4,19,3) W) from by
  have:=vO ⟨k4.toArray⟩ W (by show k4.length≤_;decide) (HG.out.later hb);rw[kd4,show yW k4=(T4,19,3) from Zd hT4 kn4] at this;exact this))
 have HP5:=zj (fun (W:World) (hb:Below w.heap.size w W)=>(show Calls prog 11 #[.string ⟨#[102,117,110,32,102,40,41,58,32,117,110,105,116,32,123,32,97,40,41,32,58,61,32,49,59,32,125]⟩] W (QH (T5,20,4) W) from by
  have:=vO ⟨k5.toArray⟩ W (by show k5.length≤_;decide) (HG.out.later hb);rw[kd5,show yW k5=(T5,20,4) from Zd hT5 kn5] at this;exact this))
 have HP6:=zj (fun (W:World) (hb:Below w.heap.size w W)=>(show Calls prog 11 #[.string ⟨#[102,117,110,32,102,40,41,58,32,117,110,105,116,32,123,32,40,84,41,40,49,41,59,32,45,32,45,97,59,32,40,116,104,114,111,119,32,97,41,46,102,59,32,40,110,111,116,32,97,41,32,61,61,32,98,32,125]⟩] W (QH (T6,A6,0) W) from by
  have:=vO ⟨k6.toArray⟩ W (by show k6.length≤_;decide) (HG.out.later hb);rw[kd6,show yW k6=(T6,A6,0) from Zd hT6 (Zd hA6 kn6)] at this;exact this))
 have HP2:=zj (fun (W:World) (hb:Below w.heap.size w W)=>(show Calls prog 29 #[.string ⟨#[102,117,110,32,102,40,41,58,117,110,105,116,123,40,103,41,40,40,49,41,41,59,125]⟩] W (zhw W (k2o,0,0)) from by
  have:=QF ⟨k2.toArray⟩ W (by show k2.length≤_;decide) (HG.out.later hb) (fun _=>by rw[kd2];exact (zb2 zju).1);rw[kd2,show vd k2=(k2o,0,0) from kn2] at this;exact this))
 have HP3:=zj (fun (W:World) (hb:Below w.heap.size w W)=>(show Calls prog 29 #[.string ⟨#[102,117,110,32,102,32,40,32,41,32,58,32,117,110,105,116,32,123,32,40,103,41,40,40,49,41,41,59,32,59,32,125]⟩] W (zhw W (S3,29,4)) from by
  have:=QF ⟨k3.toArray⟩ W (by show k3.length≤_;decide) (HG.out.later hb) (fun _=>by rw[kd3];exact (zb2 zjt).1);rw[kd3,show vd k3=(S3,29,4) from Zd hS3 kn3] at this;exact this))
 have HS:=zj (fun (nv iv:Value) (W:World) (hb:Below w.heap.size w W) (hT:TR W nv iv T1)=>(show Calls prog 20 #[.agg #[nv,iv],.int .i64 5] W (RdI W (5,0)) from by
  have:=zan T1 nv iv 5 W hT (HG.out.later hb) hk1.1 hk1.2;rw[←hT1,zjw] at this;exact this))
 have HU:=zj (fun (nv iv:Value) (W:World) (hb:Below w.heap.size w W) (hT:TR W nv iv T1)=>(show Calls prog 18 #[.agg #[nv,iv],.int .i64 4] W (RdI W (5,0)) from by
  have:=QG T1 nv iv 4 W hT (HG.out.later hb) hk1.1;rw[←hT1,zjv] at this;exact this))
 have HW:=zj (fun (nv iv:Value) (W:World) (hb:Below w.heap.size w W) (hT:TR W nv iv T1)=>(show Calls prog 19 #[.agg #[nv,iv],.int .i64 3] W (RdL W ([6,5,4,3],0)) from by
  have:=zao T1 nv iv 3 W hT (HG.out.later hb) hk1.1 hk1.2;rw[←hT1,zjx] at this;exact this))
 have HF:=zj (fun (nv iv:Value) (W:World) (hb:Below w.heap.size w W) (hT:TR W nv iv T1)=>(show Calls prog 21 #[.agg #[nv,iv],.int .i64 20] W (RdI W (4,0)) from by
  have:=zaq T1 nv iv 20 W hT (HG.out.later hb) hk1.1;rw[←hT1,zjA] at this;exact this))
 have HN:=zj (fun (nv iv:Value) (W:World) (hb:Below w.heap.size w W) (hT:TR W nv iv T6)=>(show Calls prog 27 #[.agg #[nv,iv]] W (zi2 W (k6o,0)) from by
  have:=JR T6 nv iv W hT (HG.out.later hb) hk6.1;rw[←hT6,zjr] at this;exact this))
 clear hT1 hT4 hT5 hT6 hA6 hS3 hk1 hk6 hG;go_enter func10,ntmps10;go_wp2_with fail;refine (HP1.out w bR).mono ?_;rintro e w1 ⟨hb1,nv1,iv1,rfl,hTr1⟩;obtain⟨np1,nc1,ip1,ic1,rfl,rfl⟩:=hTr1.form;rw[hn1] at hTr1 ⊢;generalize T1.items.length=m1 at *;have HT1:=zj hTr1;have hz1:=zm w1 (.cells #[.slice np1 7 nc1,.slice ip1 m1 ic1] 26 (0,0));have B1:=zd hb1 (zg w1 (.cells #[.slice np1 7 nc1,.slice ip1 m1 ic1] 26 (0,0)));have hA1:=zg w1 (.cells #[.slice np1 7 nc1,.slice ip1 m1 ic1] 26 (0,0));have HZ1:=zj hz1;clear hTr1 hz1 hn1;go_wp2_with fail;refine (HP2.out _ B1).mono ?_;rintro e w2 ⟨rfl,hb2⟩;have B2:=zd B1 hb2;go_wp2_with fail;refine (HP3.out _ B2).mono ?_;rintro e w3 ⟨rfl,hb3⟩;have B3:=zd B2 hb3;have C3:=zd hb2 hb3;go_wp2_with fail;refine (HP4.out _ B3).mono ?_;rintro e w4 ⟨hb4,nv4,iv4,rfl,hTr4⟩;obtain⟨np4,nc4,ip4,ic4,rfl,rfl⟩:=hTr4.form;have HT4:=zj hTr4;clear hTr4;generalize T4.nodes.length=n4 at *;generalize T4.items.length=m4 at *;have hA4:=zg w4 (.cells #[.slice np4 n4 nc4,.slice ip4 m4 ic4] 26 (0,0));have HZ4:=zj (zm w4 (.cells #[.slice np4 n4 nc4,.slice ip4 m4 ic4] 26 (0,0)));have hB4:=zd hb4 hA4;have B4:=zd B3 hB4;have C4:=zd C3 hB4;go_wp2_with fail;refine (HP5.out _ B4).mono ?_;rintro e w5 ⟨hb5,nv5,iv5,rfl,hTr5⟩;obtain⟨np5,nc5,ip5,ic5,rfl,rfl⟩:=hTr5.form;have HT5:=zj hTr5;clear hTr5;generalize T5.nodes.length=n5 at *;generalize T5.items.length=m5 at *;have hA5:=zg w5 (.cells #[.slice np5 n5 nc5,.slice ip5 m5 ic5] 26 (0,0));have HZ5:=zj (zm w5 (.cells #[.slice np5 n5 nc5,.slice ip5 m5 ic5] 26 (0,0)));have hB5:=zd hb5 hA5;have B5:=zd B4 hB5;have C5:=zd C4 hB5;have c0:=zf (zi C5 HZ1.out) 0;have c1:=zf (zi C5 HZ1.out) 1;go_wp2_with fail;clear c0 c1;refine (HS.out _ _ _ B5 (HT1.out.below (zd hA1 C5))).mono ?_;rintro e wa ⟨rfl,hba⟩;have Ba:=zd B5 hba;have Ca:=zd C5 hba;have c0:=zf (zi Ca HZ1.out) 0;have c1:=zf (zi Ca HZ1.out) 1;go_wp2_with fail;clear c0 c1;refine (HU.out _ _ _ Ba (HT1.out.below (zd hA1 Ca))).mono ?_;rintro e wb ⟨rfl,hbb⟩;have Bb:=zd Ba hbb;have Cb:=zd Ca hbb;have c0:=zf (zi Cb HZ1.out) 0;have c1:=zf (zi Cb HZ1.out) 1;go_wp2_with fail;clear c0 c1;refine (HW.out _ _ _ Bb (HT1.out.below (zd hA1 Cb))).mono ?_;rintro e wc ⟨pv,rfl,hpv,hbc⟩;obtain⟨pp,pc,rfl⟩:=hpv.form;have HPV:=zj hpv;clear hpv;have Bc:=zd Bb hbc;have Cc:=zd Cb hbc;have c0:=zf (zi Cc HZ1.out) 0;have c1:=zf (zi Cc HZ1.out) 1;go_wp2_with fail;clear c0 c1;refine (HF.out _ _ _ Bc (HT1.out.below (zd hA1 Cc))).mono ?_;rintro e wd ⟨rfl,hbd⟩;have Bd:=zd Bc hbd;have Cd:=zd Cc hbd;go_wp2_with fail;refine (HP6.out _ Bd).mono ?_;rintro e w6 ⟨hb6,nv6,iv6,rfl,hTr6⟩;obtain⟨np6,nc6,ip6,ic6,rfl,rfl⟩:=hTr6.form;have HT6:=zj hTr6;clear hTr6;generalize T6.nodes.length=n6 at *;generalize T6.items.length=m6 at *;have hA6:=zg w6 (.cells #[.slice np6 n6 nc6,.slice ip6 m6 ic6] 26 (0,0));have HZ6:=zj (zm w6 (.cells #[.slice np6 n6 nc6,.slice ip6 m6 ic6] 26 (0,0)));have hB6:=zd hb6 hA6;have B6:=zd Bd hB6;have C6:=zd Cd hB6;have e0:=zf HZ6.out 0;have e1:=zf HZ6.out 1;go_wp2_with fail;clear e0 e1;refine (HN.out _ _ _ B6 (HT6.out.below hA6)).mono ?_;rintro e we ⟨rfl,hbe⟩;have Be:=zd B6 hbe;have Ce:=zd C6 hbe;have c0:=zf (zi Ce HZ1.out) 0;have c1:=zf (zi Ce HZ1.out) 1;have HI:=zj (fun W (hb:Below we.heap.size we W) (u:Value) (hu:JS W u [6,5,4,3])=>ui (.slice pp 4 pc) u [6,5,4,3] [6,5,4,3] W (HPV.out.o.below (zd (zd hbd (zd hB6 hbe)) hb)) hu (by decide));go_wp2_with fail;refine (HI.out _ (zg _ _) _ (KS.lit we [6,5,4,3]).o).mono ?_;rintro e wf ⟨rfl,hbf⟩;simp only[decide_true];have Bf:=zd (zd Be (zg _ _)) hbf;clear HI c0 c1;unfold k6o;go_wp2_with fail;go_ret;exact⟨by simp,Bf⟩
end
end Go.Proofs.YtcagibbaeageoaaGreatDoor
