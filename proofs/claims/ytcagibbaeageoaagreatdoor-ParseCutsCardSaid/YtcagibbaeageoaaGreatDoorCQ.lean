/-
  A part of the proof: contracts of functions; no conditions.
-/
import Derived.Test.YtcagibbaeageoaaGreatDoorCK
import Derived.Test.YtcagibbaeageoaaGreatDoorCM
import Derived.ChangeSlices
import Derived.Lib.LaidTab
import Derived.LaidSub
import Derived.Stop.LaidErr
import Derived.WalkKit
import Derived.Test.YtcagibbaeageoaaGreatDoorRows
import Derived.Test.YtcagibbaeageoaaGreatDoorProg
import Derived.Deep.Slices
import Derived.Deep.Fields
import Derived.ChangeSame
import Derived.OpenShut
import Derived.Lib.SmallJoins
import Derived.Laws.CopyOwn
set_option maxRecDepth 100000
set_option maxHeartbeats 40000000
set_option linter.unusedSimpArgs false
set_option linter.unusedVariables false
namespace Go.Proofs.YtcagibbaeageoaaGreatDoor
section
open Go.RowKit Lode Go.Shelf
open Go.Proofs.Tryz
theorem Tryz.laidOut:laidOutB prog=true:=by kernel_rfl
theorem zhf: "*" ++ "errors.errorString" = "*errors.errorString" :=by decide
theorem zlO(u:TypeId)(h:prog.typeName? 3 u=some "*errors.errorString"):u=284:=
 typeName_ptr_named (nm:= "errors.errorString") (by rw[zhf];kernel_rfl) (by kernel_rfl) (by decide) u (by rw[zhf];exact h)
theorem zjQ(w:World)(hL:laidMet prog Rows.parseChecksRow.laid w):qG w:=by
 refine⟨?_,?_,?_⟩
 ·have h:=hL.filter (fun x=>x.1 == "strings.asciiSpace");have e:(Rows.parseChecksRow.laid.filter fun x=>x.1 == "strings.asciiSpace")=[("strings.asciiSpace",Lib.tabData .u8 Lib.asciiSpaceTab)]:=by rfl
  rw[e] at h;exact Lib.tabIs_of_head (g:=0) (t:=220) (e:=5) (n:=256) (by kernel_rfl) (by kernel_rfl) (by kernel_rfl) (by kernel_rfl) (by kernel_rfl) (by kernel_rfl) h
 ·have h:=hL.filter (fun x=>x.1 == "internal/strconv.uint64pow10");have e:(Rows.parseChecksRow.laid.filter fun x=>x.1 == "internal/strconv.uint64pow10")=[("internal/strconv.uint64pow10",Lib.tabData .u64 Lib.pow10Tab)]:=by rfl
  rw[e] at h;exact Lib.tabIs_of_head (g:=3) (t:=268) (e:=245) (n:=20) (by kernel_rfl) (by kernel_rfl) (by kernel_rfl) (by kernel_rfl) (by kernel_rfl) (by kernel_rfl) h
 ·have h:=hL.filter (fun x=>x.1 == "strconv.ErrRange");have e:(Rows.parseChecksRow.laid.filter fun x=>x.1 == "strconv.ErrRange")=[("strconv.ErrRange",.iface "*errors.errorString" (.ptr (.agg [.lit (.string [118,97,108,117,101,32,111,117,116,32,111,102,32,114,97,110,103,101])])))]:=by rfl
  rw[e] at h;obtain⟨a,s,hv,_⟩:=laid_sentinel (g:=5) (tp:=284) (te:=286) (ts:=9) (ti:=82) h (by kernel_rfl) (by kernel_rfl) underlying82 zlO underlying284 underlying286 rfl rfl (by kernel_rfl) (by kernel_rfl) (by kernel_rfl);exact⟨_,_,hv⟩
end
section
open Go.RowKit Go.ChangeShapes Go.WideShapes Go.Deep Lode
open Go.Proofs.Tryz
theorem zkP{n:Int}(h:(Lit.int .u8 n).wf=true):0<=n/\n<=255:=by
 have h1:IntKind.u8.min=0:=by decide
 have h2:IntKind.u8.max=255:=by decide
 simp only[Lit.wf,pI,pH,h1,h2] at h;exact h
theorem zc5{n:Int}(h:(Lit.int .i64 n).wf=true):I64 n:=by
 have h1:IntKind.i64.min= -9223372036854775808:=by decide
 have h2:IntKind.i64.max=9223372036854775807:=by decide
 simp only[Lit.wf,pI,pH,h1,h2] at h;exact h
theorem Yb(g off j:Nat):(⟨g,off,none⟩:Addr).add j=⟨g,off+j,none⟩:=by
 unfold Addr.add;split
 ·rename_i h;subst h;rfl
 ·rfl
theorem zlY(a:Addr):a.add 0=a:=by unfold Addr.add;simp
variable {H:Type} {enc:TypeId×Value→H} {w:World} {base:Nat} {spare:Nat→Bool} {held:Bool}
theorem zfg{fuel:Nat}{cs:List Value}{x:DataW H×List MemPlace}(hf:DataW.trod enc prog w base spare held fuel 24 cs=some x):∃v l,cs=[v]/\KW w v l/\∀k∈l,I64 k:=by
 rcases open_slice1 underlying24 (by kernel_rfl) hf with⟨rfl,_⟩|⟨a,len,cap,m,n,V,D,Pl,rfl,_,hl,_,hm,_,hi⟩
 ·exact⟨_,[],rfl,⟨none,0,rfl,.inl rfl⟩,fun k hk=>by cases hk⟩
 ·have hlm:len<=m:=by rw[hm];split <;> omega
  have hone:∀i,i<len->∃z:Int,w.cell? (a.add i)=some (.int .i64 z)/\I64 z:=fun i hi'=>by
   obtain⟨hc,ht⟩:=hi i (by omega);obtain⟨z,q,_,wz⟩:=DataW.trod_int underlying3 ht;have e:V i=.int .i64 z:=by simpa using q
   exact⟨z,by rw[hc,e],zc5 wz⟩
  by_cases h0:len=0
  ·subst h0;exact⟨_,[],rfl,⟨some a,cap,rfl,.inl rfl⟩,fun k hk=>by cases hk⟩
  ·have hsp:a.spot=none:=by
    obtain⟨z,hz,_⟩:=hone 0 (by omega);rw[zlY] at hz;exact World.cell?_spot hz
   obtain⟨g,off,sp⟩:=a;simp only at hsp;subst hsp;refine⟨_,List.ofFn fun i:Fin len=>Classical.choose (hone i.1 i.2),rfl,⟨some ⟨g,off,none⟩,cap,by rw[List.length_ofFn],.inr ⟨g,off,rfl,fun j hj=>?_⟩⟩,fun k hk=>?_⟩
   ·rw[List.length_ofFn] at hj;have hq:=(Classical.choose_spec (hone j hj)).1;rw[pB,glE (by rw[List.length_ofFn];exact hj),List.getElem_ofFn];exact (congrArg w.cell? (Yb g off j)).symm.trans hq
   ·obtain⟨i,rfl⟩:=List.mem_ofFn.1 hk;exact (Classical.choose_spec (hone i.1 i.2)).2
structure zmG(t:zU):Prop where
 kind:∀x∈t.nodes,x.kind<=255
 kids:∀x∈t.nodes,∀k∈x.kids,I64 k
 items:∀k∈t.items,I64 k
 n:∀x∈t.nodes,I64 x.n
 at_:∀x∈t.nodes,I64 x.at_
theorem zhT{fuel:Nat}{cs:List Value}{x:DataW H×List MemPlace}(hf:DataW.trod enc prog w base spare held fuel 23 cs=some x):∃v l,cs=[v]/\NSo w v l/\∀y∈l,y.kind<=255/\(∀k∈y.kids,I64 k)/\I64 y.n/\I64 y.at_:=by
 rcases open_slice underlying23 hf with⟨rfl,_⟩|⟨a,len,cap,m,n,D,Pl,rfl,_,hl,_,hm,_,hi⟩
 ·exact⟨_,[],rfl,⟨none,0,rfl,.inl rfl⟩,fun k hk=>by cases hk⟩
 ·have hlm:len<=m:=by rw[hm];split <;> omega
  have hC:prog.cellsOf 60=5:=by kernel_rfl
  rw[hC] at hi;have hone:∀i,i<len->∃t:Nd,(∃u,w.cell? (a.add (i*5))=some (.int .u8 t.kind)/\w.cell? ((a.add (i*5)).add 1)=some (.string ⟨t.text.toArray⟩)/\w.cell? ((a.add (i*5)).add 2)=some (.int .i64 t.n)/\w.cell? ((a.add (i*5)).add 3)=some u/\w.cell? ((a.add (i*5)).add 4)=some (.int .i64 t.at_)/\KW w u t.kids)/\t.kind<=255/\(∀k∈t.kids,I64 k)/\I64 t.n/\I64 t.at_:=fun i hi'=>by
   obtain⟨cs',hc,ht⟩:=hi i (by omega);obtain⟨_,hcl,hat⟩:=World.cells?_some hc;obtain⟨ys,n',_,_,_,hyl,hfs⟩:=DataW.trod_struct underlying60 ht
   match cs',hcl with
   |[v0,v1,v2,v3,v4],_=>
    match ys,hyl with
    |[y0,y1,y2,y3,y4],_=>
     have k5:prog.cellsOf 5=1:=by kernel_rfl
     have k9:prog.cellsOf 9=1:=by kernel_rfl
     have k3:prog.cellsOf 3=1:=by kernel_rfl
     have ks:prog.cellsOf 24=1:=by kernel_rfl
     have e0:DataW.trod enc prog w base spare held n' 5 (([v0,v1,v2,v3,v4].drop 0).take (prog.cellsOf 5))=some y0:=hfs 0 _ rfl;have e1:DataW.trod enc prog w base spare held n' 9 (([v0,v1,v2,v3,v4].drop 1).take (prog.cellsOf 9))=some y1:=hfs 1 _ rfl;have e2:DataW.trod enc prog w base spare held n' 3 (([v0,v1,v2,v3,v4].drop 2).take (prog.cellsOf 3))=some y2:=hfs 2 _ rfl;have e3:DataW.trod enc prog w base spare held n' 24 (([v0,v1,v2,v3,v4].drop 3).take (prog.cellsOf 24))=some y3:=hfs 3 _ rfl;have e4:DataW.trod enc prog w base spare held n' 3 (([v0,v1,v2,v3,v4].drop 4).take (prog.cellsOf 3))=some y4:=hfs 4 _ rfl;rw[k5] at e0;rw[k9] at e1;rw[k3] at e2 e4;rw[ks] at e3;obtain⟨x0,q0,_,w0⟩:=DataW.trod_int underlying5 e0;obtain⟨x1,q1,_,_⟩:=DataW.trod_string underlying9 e1;obtain⟨x2,q2,_,w2⟩:=DataW.trod_int underlying3 e2;obtain⟨x3,l3,q3,h3,r3⟩:=zfg e3;obtain⟨x4,q4,_,w4⟩:=DataW.trod_int underlying3 e4;have r0:v0=.int .u8 x0:=by simpa using q0
     have r1:v1=.string x1:=by simpa using q1
     have r2:v2=.int .i64 x2:=by simpa using q2
     have s3:v3=x3:=by simpa using q3
     have r4:v4=.int .i64 x4:=by simpa using q4
     subst r0 r1 r2 s3 r4;have hk:=zkP w0;obtain⟨k0,rfl⟩:∃y:Nat,x0=(y:Int):=pJ hk.1;have hk0:k0<=255:=by omega
     exact⟨⟨k0,x1.data.toList,x2,l3,x4⟩,⟨v3,hat 0 (by decide),hat 1 (by decide),hat 2 (by decide),hat 3 (by decide),hat 4 (by decide),h3⟩,hk0,r3,zc5 w2,zc5 w4⟩
  by_cases h0:len=0
  ·subst h0;exact⟨_,[],rfl,⟨some a,cap,rfl,.inl rfl⟩,fun k hk=>by cases hk⟩
  ·have hsp:a.spot=none:=by
    obtain⟨z,⟨u,hz,_⟩,_⟩:=hone 0 (by omega);rw[Nat.zero_mul,zlY] at hz;exact World.cell?_spot hz
   obtain⟨g,off,sp⟩:=a;simp only at hsp;subst hsp;refine⟨_,List.ofFn fun i:Fin len=>Classical.choose (hone i.1 i.2),rfl,⟨some ⟨g,off,none⟩,cap,by rw[List.length_ofFn],.inr ⟨g,off,rfl,fun j y hy=>?_⟩⟩,fun k hk=>?_⟩
   ·have hj:j<len:=by have:=(gtL hy);rwa [List.length_ofFn] at this
    obtain⟨u,q0,q1,q2,q3,q4,q5⟩:=(Classical.choose_spec (hone j hj)).1;rw[glE (by rw[List.length_ofFn];exact hj),List.getElem_ofFn] at hy;cases hy;have h2:∀k,((⟨g,off,none⟩:Addr).add (j*5)).add k=⟨g,off+j*5+k,none⟩:=fun k=>by rw[Yb,Yb]
    exact⟨u,(congrArg w.cell? (Yb g off (j*5))).symm.trans q0,(congrArg w.cell? (h2 1)).symm.trans q1,(congrArg w.cell? (h2 2)).symm.trans q2,(congrArg w.cell? (h2 3)).symm.trans q3,(congrArg w.cell? (h2 4)).symm.trans q4,q5⟩
   ·obtain⟨i,rfl⟩:=List.mem_ofFn.1 hk;exact (Classical.choose_spec (hone i.1 i.2)).2
theorem zje{r:Reach}{b:Nat}{v:Value}{d:DataW H}{p:List MemPlace}(hv:Value.okWide prog w r b 26 v)(h:DataW.Trod enc prog w base spare held 26 v d p):∃nv iv t,v=.agg #[nv,iv]/\Jy w nv iv t/\zmG t:=by
 obtain⟨c0,c1,y0,y1,m,rfl,rfl,rfl,e0,e1⟩:=Go.Joins.open_agg2 underlying26 (by kernel_rfl) (show prog.cellsOf 26=2 by kernel_rfl) hv h;obtain⟨v0,l0,q0,h0,r0⟩:=zhT e0;obtain⟨v1,l1,q1,h1,r1⟩:=zfg e1;have s0:c0=v0:=by simpa using q0
 have s1:c1=v1:=by simpa using q1
 subst s0 s1;exact⟨c0,c1,⟨l0,l1⟩,rfl,⟨h0,h1⟩,⟨fun x hx=>(r0 x hx).1,fun x hx=>(r0 x hx).2.1,r1,fun x hx=>(r0 x hx).2.2.1,fun x hx=>(r0 x hx).2.2.2⟩⟩
end
section
open Go.RowKit Lode Go.Shelf
attribute [local go_sem ↓] Go.wp_at_zero Go.wp_at_succ
open Go.Proofs.Tryz
theorem zd6(n:Nat)(hn:n<=1000000):∃cs:Array Value,cs.size=n*5/\∀W:World,(Instr.makeSlice 23 (.int .i64 (n:Int)) (.int .i64 (n:Int))).run prog W=.ok (.slice (some ⟨W.heap.size,0,none⟩) n n) (W.alloc (.cells cs 60 (0,0))):=by
 obtain⟨i0,hi,hz0,hz1,hz2⟩:=info_parts Tryz.infoNode;have h:=fun W=>run_make (P:=prog) W 23 60 i0 _ underlying23 hi hz0 .i64 .i64 n n (by omega) (Int.le_refl _) (by rw[hz2];omega) (by omega)
 simp only[pO,hz1] at h;exact⟨_,size_madeCells _ _,h⟩
theorem zhZ(f:Nat->Option Value):∀(l:List Nd) (kv:List Value) (d:Nat),(∀(j:Nat) (x:Nd) (u:Value),l[j]? =some x->kv[j]? =some u->∀(i:Nat) (y:Value),(xA x u)[i]? =some y->f (d+j*5+i)=some y)->∀(j:Nat) (v:Value),(zZ l kv)[j]? =some v->f (d+j)=some v
 |[],_,_,_,j,v,h=>by simp[zZ] at h
 |a :: l,[],_,_,j,v,h=>by simp[zZ] at h
 |a :: l,b :: kv,d,hf,j,v,h=>by
  have h':(xA a b ++ zZ l kv)[j]? =some v:=h;have h5:(xA a b).length=5:=rfl;by_cases hj:j<5
  ·rw[wQ (by omega)] at h';have:=hf 0 a b rfl rfl j v h'
   rwa [show d+0*5+j=d+j by omega] at this
  ·rw[wL (by omega),h5] at h';have:=zhZ f l kv (d+5) (fun k x u hx hu i y hy=>by
    have:=hf (k+1) x u hx hu i y hy
    rwa [show d+(k+1)*5+i=d+5+k*5+i by omega] at this) (j-5) v h'
   rwa [show d+5+(j-5)=d+j by omega] at this
theorem zhS{w:World}{g:Nat}:∀(l:List Nd) (off:Nat),(∀(j:Nat) (x:Nd),l[j]? =some x->∃u,NdO w g (off+j*5) x u)->∃kv:List Value,kv.length=l.length/\∀(j:Nat) (x:Nd) (u:Value),l[j]? =some x->kv[j]? =some u->NdO w g (off+j*5) x u
 |[],_,_=>⟨[],rfl,fun j x u h=>by simp at h⟩
 |a :: l,off,h=>by
  obtain⟨u,hu⟩:=h 0 a rfl;obtain⟨kv,h1,h2⟩:=zhS l (off+5) (fun j x hx=>by
   obtain⟨u,hu⟩:=h (j+1) x hx;exact⟨u,by rwa [show off+(j+1)*5=off+5+j*5 by omega] at hu⟩)
  refine⟨u :: kv,by simp[h1],fun j x u' hx hu'=>?_⟩;cases j with
  |zero=>
   cases hx;cases hu'
   rwa [Nat.zero_mul] at hu
  |succ j=>
   have:=h2 j x u' hx hu'
   rwa [show off+5+j*5=off+(j+1)*5 by omega] at this
theorem NSo.src{w:World}{v:Value}{l:List Nd}(h:NSo w v l):∃(p:Option Addr) (cap:Nat) (kv:List Value),v=.slice p l.length cap/\kv.length=l.length/\(∀(j:Nat) (x:Nd) (u:Value),l[j]? =some x->kv[j]? =some u->KW w u x.kids)/\(l.length≠0->∃g off,p=some ⟨g,off,none⟩/\∀(j:Nat) (y:Value),(zZ l kv)[j]? =some y->w.cell? ⟨g,off+j,none⟩=some y):=by
 obtain⟨p,cap,hv,h⟩:=h;rcases h with rfl|⟨g,off,hp,hc⟩
 ·exact⟨p,cap,[],hv,rfl,fun j x u h=>by simp at h,fun h=>absurd rfl h⟩
 ·obtain⟨kv,h1,h2⟩:=zhS l off hc;refine⟨p,cap,kv,hv,h1,fun j x u hx hu=>(h2 j x u hx hu).kids,fun _=>⟨g,off,hp,fun j y hy=>?_⟩⟩;refine zhZ (fun k=>w.cell? ⟨g,k,none⟩) l kv off (fun j x u hx hu i y hy=>?_) j y hy;have N:=h2 j x u hx hu
  match i,hy with
  |0,hy=>cases hy;exact N.c0
  |1,hy=>cases hy;exact N.c1
  |2,hy=>cases hy;exact N.c2
  |3,hy=>cases hy;exact N.c3
  |4,hy=>cases hy;exact N.c4
  |i+5,hy=>simp[xA] at hy
theorem vN:∀(l:List Nd) (kv:List Value),kv.length=l.length->(zZ l kv).length=l.length*5
 |[],_,_=>by simp[zZ]
 |a :: l,[],h=>by simp at h
 |a :: l,b :: kv,h=>by
  show (xA a b ++ zZ l kv).length=_
  rw[pG,vN l kv (by simpa using h),pN];show 5+_=_
  omega
theorem zcj{l:List Nd}{kv:List Value}(hk:∀v∈kv,v.oneCell'=true):∀v∈zZ l kv,v.oneCell'=true:=fun v hv=>by
 unfold zZ at hv;rw[List.mem_flatMap] at hv;obtain⟨⟨x,u⟩,hx,hv⟩:=hv;have:=List.of_mem_zip hx;simp only[xA,pS,pR,or_false] at hv;rcases hv with rfl|rfl|rfl|rfl|rfl <;> first|rfl|exact hk _ this.2
theorem QO:∀(l:List Nd) (kv:List Value) (j:Nat) (v:Value),kv.length=l.length->zZ l (kv.set j v)=(zZ l kv).set (j*5+3) v
 |[],_,_,_,_=>by simp[zZ]
 |a :: l,[],_,_,h=>by simp at h
 |a :: l,b :: kv,0,v,h=>rfl
 |a :: l,b :: kv,j+1,v,h=>by
  show xA a b ++ zZ l (kv.set j v)=(xA a b ++ zZ l kv).set _ v
  have h5:(xA a b).length=5:=rfl;rw[QO l kv j v (by simpa using h),List.set_append_right _ _ (by omega),h5,show (j+1)*5+3-5=j*5+3 by omega]
theorem zfV(w:World)(ty:TypeId){g cap n:Nat}{cur:Array Value}{sp:Option Addr}{sc:Nat}{cs:List Value}(hg:w.heap[g]? =some (.cells cur 60 (0,0)))(hcur:cur.size=n*5)(hcs:cs.length=n*5)(h1:∀v∈cs,v.oneCell'=true)(hsrc:n≠0->∃b o,sp=some ⟨b,o,none⟩/\∀(j:Nat) (v:Value),cs[j]? =some v->w.cell? ⟨b,o+j,none⟩=some v):
 (Builtin.copy_ #[23,23] ty #[.slice (some ⟨g,0,none⟩) n cap,.slice sp n sc]).run prog w=.ok (goInt n) (w.setRow g cs.toArray):=by
 obtain⟨i0,hi,hz0,hz1,hz2⟩:=info_parts Tryz.infoNode;by_cases h0:n=0
 ·subst h0;obtain rfl:cs=[]:=pU (by omega);obtain rfl:cur= #[]:=Array.eq_empty_of_size_eq_zero (by omega);rw[show ([]:List Value).toArray= #[] from rfl,setRow_self w g #[] _ _ hg];cases sp with
  |none=>simp[Builtin.copy_,run_underlying underlying23,Builtin.lenOf,Builtin.firstCells,sizeOf,typeInfo,hi,storeCells]
  |some ad=>
   have hl:=run_loadCells_list (P:=prog) w ad [] (fun j v h=>by cases h);simp only[wC] at hl;simp[Builtin.copy_,run_underlying underlying23,Builtin.lenOf,Builtin.firstCells,sizeOf,typeInfo,hi,storeCells,hl]
 ·obtain⟨b,o,rfl,hs⟩:=hsrc h0;have hl:=run_loadCells_list (P:=prog) w ⟨b,o,none⟩ cs (fun j v hj=>by
   have e:(⟨b,o,none⟩:Addr).add j=⟨b,o+j,none⟩:=by unfold Addr.add;split <;> simp_all
   rw[e];exact hs j v hj)
  have hst:=run_storeCells_at prog g 0 60 cs 0 cur w hg (by omega) h1;have e:cur.toList.take (0+0) ++ cs ++ cur.toList.drop (0+0+cs.length)=cs:=by
   rw[List.drop_eq_nil_of_le (by simp;omega)];simp
  rw[e] at hst;simp[Builtin.copy_,run_underlying underlying23,Builtin.lenOf,Builtin.firstCells,sizeOf,typeInfo,hi,hz1,<-hcs,hl,hst]
structure zl7(w:World)(B:Nat)(v:Value)(ls:List Nd)(kv:List Value):Prop where
 n:w.ownsRow B 60 5 v ls.length (zZ ls kv)
 l:kv.length=ls.length
 k:∀(j:Nat) (x:Nd) (u:Value),ls[j]? =some x->kv[j]? =some u->KS w u x.kids
theorem Yo(d:Int):∀(l:List Nd) (kv:List Value),zZ (jl l d) kv=zZ l kv
 |[],_=>rfl
 |a :: l,[]=>rfl
 |a :: l,b :: kv=>by
  show xA _ b ++ zZ (jl l d) kv=xA a b ++ zZ l kv
  rw[Yo d l kv];rfl
theorem KS.but{w W:World}{v:Value}{l:List Int}(h:KS w v l){b:Nat}{cs:Array Value}{fr:Nat×Nat}(hb:w.heap[b]? =some (.cells cs 60 fr))(hk:∀k,k<w.heap.size->k≠b->W.heap[k]? =w.heap[k]?):KS W v l:=by
 obtain⟨p,cap,hv,h⟩:=h;refine⟨p,cap,hv,h.imp id ?_⟩;rintro ⟨g,off,cs',fr',hp,hg,hc⟩;refine⟨g,off,cs',fr',hp,(hk g (gtA hg) (fun e=>?_)).trans hg,hc⟩;subst e;rw[hb] at hg;cases hg
def ZG(ks:List Int)(d:Int)(k:Nat):List Value:=yF ((ks.take k).map (· +d)) ++ List.replicate (ks.length-k) (.int .i64 0)
theorem zgp{ks:List Int}{d:Int}{k:Nat}(hk:k<ks.length):(ZG ks d k)[k]? =some (.int .i64 0):=by
 unfold ZG;rw[wL (by simp;omega)];simp only[yF,wO,wZ];rw[List.getElem?_replicate,if_pos (by omega)]
theorem zgo{ks:List Int}{d:Int}{k:Nat}(hk:k<ks.length):(ZG ks d k).set k (.int .i64 (ks.getD k 0+d))=ZG ks d (k+1):=by
 unfold ZG;have e:ks.length-k=ks.length-(k+1)+1:=by omega
 have h1:(yF ((ks.take k).map (· +d))).length=k:=by simp;omega
 rw[List.set_append_right _ _ (by omega),h1,Nat.sub_self,e,List.replicate_succ,List.set_cons_zero,show ks.take (k+1)=ks.take k ++ [ks[k]] from by rw[wX,glE hk];rfl,pB,glE hk];simp only[yF,List.map_append,List.append_assoc,List.map_cons,List.map_nil,wG,wP,Option.getD_some]
theorem zd5(ks:List Int)(d:Int):ZG ks d 0=List.replicate ks.length (.int .i64 0):=by simp[ZG]
theorem zh0{w:World}{g:Nat}{ks:List Int}{d:Int}{fr:Nat×Nat}(hg:w.heap[g]? =some (.cells (ZG ks d ks.length).toArray 3 fr)):KS w (.slice (some ⟨g,0,none⟩) ks.length ks.length) (ks.map (· +d)):=by
 refine⟨some ⟨g,0,none⟩,0,by simp,.inr ⟨g,0,_,fr,rfl,hg,fun j z hz=>?_⟩⟩;unfold ZG;rw[List.take_length,pW,Nat.zero_add,wQ (by simpa using (gtL hz)),yF,wD,hz];rfl
def MvN(B n:Nat)(l:List Nd)(kv0:List Value)(d:Int)(w:World)(i:Value)(wr:World):Prop:=∃(j:Nat) (kv:List Value),i=.int .i64 j/\j<=n/\kv.length=n/\wr.heap[B]? =some (.cells (zZ l kv).toArray 60 (0,0))/\Hid (∀(q:Nat) (x:Nd) (u:Value),q<j->l[q]? =some x->kv[q]? =some u->KS wr u (x.kids.map (· +d)))/\Hid (∀q,j<=q->kv[q]? =kv0[q]?)/\Below B w wr
theorem zgq(l:List Nd)(v:Value)(d:Int)(w:World)(hN:NSo w v l)(hd:∀x∈l,∀k∈x.kids,I64 (k+d))(hn:l.length<=100000)(hk:∀x∈l,x.kids.length<=100000):
 Calls prog 70 #[v,.int .i64 d] w fun e w'=>∃g:Nat,e=.returned (.slice (some ⟨g,0,none⟩) l.length l.length)/\(∃kv,zl7 w' w.heap.size (.slice (some ⟨g,0,none⟩) l.length l.length) (jl l d) kv)/\Below w.heap.size w w':=by
 obtain⟨p,cap,kv0,rfl,hkl0,hks0,hsrc⟩:=hN.src;obtain⟨n,hln⟩:=exE (l.length);rw[hln] at hn hsrc hkl0 ⊢;obtain⟨cs0,hcs0,hmk⟩:=zd6 n (by omega);have hB0:=zl w (.cells cs0 60 (0,0));have hA0:=zg w (.cells cs0 60 (0,0));have hlc:(zZ l kv0).length=n*5:=by rw[vN l kv0 (by rw[hln];exact hkl0),hln]
 have hone:∀v∈zZ l kv0,v.oneCell'=true:=zcj fun v hv=>by
  obtain⟨j,hj,rfl⟩:=List.getElem_of_mem hv;obtain⟨p,c,e⟩:=(hks0 j _ _ (glE (by rw[hln,<-hkl0];exact hj)) (glE hj)).form;rw[e];rfl
 have hsr:n≠0->∃b o,p=some ⟨b,o,none⟩/\∀(j:Nat) (v:Value),(zZ l kv0)[j]? =some v->(w.alloc (.cells cs0 60 (0,0))).cell? ⟨b,o+j,none⟩=some v:=fun h=>by
  obtain⟨g,off,hp,hc⟩:=hsrc h;exact⟨g,off,hp,fun j v hv=>zh hA0 (hc j v hv)⟩
 have hcp:=zfV _ 3 (cap:=n) (sc:=cap) hB0 hcs0 hlc hone hsr;have hB1:=setRow_heap _ w.heap.size _ (zZ l kv0).toArray _ _ hB0;have hb1:=below_setRow hA0 (pF _) (zZ l kv0).toArray;obtain⟨w1,hw1⟩:=exE ((w.alloc (.cells cs0 60 (0,0))).setRow w.heap.size (zZ l kv0).toArray);rw[hw1] at hcp hB1 hb1;have hst:MvN w.heap.size n l kv0 d w (.int .i64 0) w1:=⟨0,kv0,rfl,pV _,hkl0,hB1,zj (fun q x u h=>absurd h (pY _)),zj (fun _ _=>rfl),hb1⟩;have Hst:=zj hst;have Hks:=zj hks0;have Hln:=zj hln;have Hd:=zj hd;have HK:=zj hk;have Hkl:=zj hkl0;have hmi:=zj (fun (m:Nat) (hm:m<=100000) (W:World)=>Ql m (by omega) W);clear hN hsrc hcs0 hB0 hA0 hlc hone hsr hks0 hln hd hk hkl0 hB1 hb1 hst hw1;go_enter func70,ntmps70;go_wp2;go_loopw [18] (MvN w.heap.size n l kv0 d w) (fun i _=>n-(intOf i).toNat)
 case atStart=>exact Hst.out
 case round=>
  obtain⟨j,kv,rfl,hj,hkv,hB,hdone,hrest,hbw⟩:=hrel;by_cases hlt:j<n
  ·have hlt':(j:Int)<(n:Int):=by omega
   have hj0:¬((j:Int)<0):=by omega
   have hy:=pC ((j:Int)+1) (by omega);obtain⟨x,hx⟩:∃x,l[j]? =some x:=⟨_,glE (by rw[Hln.out];exact hlt)⟩;obtain⟨u,hu⟩:∃u,kv[j]? =some u:=⟨_,glE (by rw[hkv];exact hlt)⟩;have hu0:=(hrest.out j (pF _)).symm.trans hu;have hU:=Hks.out j x u hx hu0;have hxm:x∈l:=pM hx;have hxl:=HK.out x hxm;have hxd:=Hd.out x hxm;obtain⟨up,uc,rfl⟩:=hU.form;have c3:wr.cell? ⟨w.heap.size,j*5+3,none⟩=some (.slice up x.kids.length uc):=(zd hB _).trans (by rw[pW];exact ub l kv j x _ hx hu 3 _ rfl);obtain⟨ks,hks⟩:=exE (x.kids);rw[hks] at c3 hU hxl hxd;obtain⟨m,hm⟩:=exE (ks.length);rw[hm] at c3 hU hxl;have hmk2:=hmi.out m hxl;have hltB:w.heap.size<wr.heap.size:=(gtA hB);have hA:=zg wr (.cells (Array.replicate m (Value.int .i64 0)) 3 (0,0));have hG:=zl wr (.cells (Array.replicate m (Value.int .i64 0)) 3 (0,0));have e3:=zh hA c3;have hB2:=zi hA hB;have f3:=zk hB2 (j*5+3);obtain⟨W1,hW1⟩:=exE (wr.setCell ⟨w.heap.size,j*5+3,none⟩ (.slice (some ⟨wr.heap.size,0,none⟩) m m));have hs1:W1.heap.size=wr.heap.size:=by rw[<-hW1];simp
   have hA1:=zg W1 (.cells (Array.replicate m (Value.int .i64 0)) 3 (0,0));have hG1:=zl W1 (.cells (Array.replicate m (Value.int .i64 0)) 3 (0,0));rw[hs1] at hG1;obtain⟨W2,hW2⟩:=exE (W1.alloc (.cells (Array.replicate m (Value.int .i64 0)) 3 (0,0)));rw[hW2] at hA1 hG1;have hB3:W2.heap[w.heap.size]? =some (.cells (zZ l (kv.set j (.slice (some ⟨wr.heap.size,0,none⟩) m m))).toArray 60 (0,0)):=zi hA1 (by
    rw[<-hW1,zo hB,QO l kv j _ (by rw[Hln.out];exact hkv),List.setIfInBounds_toArray])
   have hG3:W2.heap[wr.heap.size]? =some (.cells (ZG ks d 0).toArray 3 (0,0)):=by
    rw[zd5,hm];simpa using hG1
   have hkeep:∀k,k<wr.heap.size->k≠w.heap.size->W2.heap[k]? =wr.heap[k]? :=fun k hk hne=>by
    rw[hA1.block k (by omega),<-hW1,zw hne]
   have hbW2:Below w.heap.size w W2:=(hW1▸hbw.setCell (pF _) _:Below w.heap.size w W1).trans (hA1.mono (by omega));have hsz2:W2.heap.size=wr.heap.size+1:=by rw[<-hW2];simp[hs1]
   rw[<-hW1] at hW2;have HW2:=zj hW2;have HB3:=zj hB3;have HG3:=zj hG3;have Hkeep:=zj hkeep;have HbW2:=zj hbW2;have HX:=zj (And.intro hx (And.intro hks hkv));have HB:=zj hB;have Hm:=zj hm;have HU:=zj hU;have Hxd:=zj hxd;have Hsz2:=zj hsz2;clear hx hu hu0 hU hxm hks hB hA hG hB2 hW2 hW1 hA1 hG1 hs1 hB3 hG3 hkeep hbW2 hm hxd hkv hsz2;go_wp2_with fail;rw[HW2.out];generalize hGe:wr.heap.size=G at *;go_loopw [35] (fun i wr=>∃k:Nat,i=.int .i64 k/\k<=m/\wr.heap[G]? =some (.cells (ZG ks d k).toArray 3 (0,0))/\Below G W2 wr) (fun i _=>m-(intOf i).toNat)
   case atStart=>exact⟨0,rfl,pV _,HG3.out,pE _ _⟩
   case round=>
    obtain⟨k,rfl,hk,hGq,hbq⟩:=hrel;have hBq:=(hbq.block w.heap.size hltB).trans HB3.out;by_cases hkm:k<m
    ·have hkm':(k:Int)<(m:Int):=by omega
     have hk0:¬((k:Int)<0):=by omega
     have hyk:=pC ((k:Int)+1) (by omega);have hkl:k<ks.length:=by rw[Hm.out];exact hkm
     obtain⟨g2,o2,rfl,d0⟩:=(HU.out.below (HbW2.out.trans (hbq.mono (by omega)))).at hkl;have hz:=Hxd.out (ks.getD k 0) (by rw[pB,glE hkl];exact wF hkl);have hset:=zgo (d:=d) hkl;generalize ks.getD k 0=z at *;have hwz:IntKind.i64.wrap (z+d)=z+d:=pC _ ⟨hz.1,hz.2⟩;have b3:=(zd hBq (j*5+3)).trans (show _=some (Value.slice (some ⟨G,0,none⟩) m m) by
      rw[pW];exact ub l _ j x _ HX.out.1 (by rw[List.getElem?_set,if_pos rfl,if_pos (by rw[HX.out.2.2];exact hlt)]) 3 _ rfl)
     have g0:=(zd hGq k).trans (show _=some (Value.int .i64 0) by rw[pW];exact zgp hkl);have fg:=zk hGq k;have hnew:=zo hGq k (.int .i64 (z+d));rw[List.setIfInBounds_toArray,hset] at hnew;have hbn:Below G W2 (wr.setCell ⟨G,k,none⟩ (.int .i64 (z+d))):=hbq.setCell (pF _) _;have Hnew:=zj hnew;have Hbn:=zj hbn;clear hGq hBq hset hnew hbn hbq;go_wp2;go_roundw
     case rel=>exact⟨k+1,by go_num,by omega,Hnew.out,Hbn.out⟩
     case measure=>simp[intOf];omega
    ·have hkm':¬((k:Int)<(m:Int)):=by omega
     have hkm2:k=m:=by omega
     have hKS:KS wr (.slice (some ⟨G,0,none⟩) m m) (ks.map (· +d)):=by
      have:=zh0 (w:=wr) (g:=G) (ks:=ks) (d:=d) (fr:=(0,0)) (by rw[Hm.out];exact hkm2▸hGq)
      rwa [Hm.out] at this
     have hdone2:=zj (fun (q:Nat) (y:Nd) (v:Value) (hq:q<j+1) (hy:l[q]? =some y) (hv:(kv.set j (.slice (some ⟨G,0,none⟩) m m))[q]? =some v)=>show KS wr v (y.kids.map (· +d)) from by
      by_cases e:q=j
      ·rw[e] at hy hv;rw[HX.out.1] at hy;cases hy;rw[List.getElem?_set,if_pos rfl,if_pos (by rw[HX.out.2.2];exact hlt)] at hv;cases hv;rw[HX.out.2.1];exact hKS
      ·rw[List.getElem?_set,if_neg (fun h=>e h.symm)] at hv;exact (hdone.out q y v (by omega) hy hv).but HB.out (fun k hk hne=>(hbq.block k (by omega)).trans (Hkeep.out k (by omega) hne)))
     have hrest2:=zj (fun (q:Nat) (hq:j+1<=q)=>show (kv.set j (.slice (some ⟨G,0,none⟩) m m))[q]? =kv0[q]? from by
      rw[List.getElem?_set,if_neg (by omega)];exact hrest.out q (by omega))
     have hlen2:(kv.set j (.slice (some ⟨G,0,none⟩) m m)).length=n:=by rw[List.length_set];exact HX.out.2.2
     have hbf:=HbW2.out.trans (hbq.mono (by omega));have HF:=zj (And.intro hlen2 (And.intro hBq hbf));clear hKS hlen2 hBq hbf hGq;go_wp2;go_roundw
     case rel=>exact⟨j+1,_,by go_num,by omega,HF.out.1,HF.out.2.1,hdone2,hrest2,HF.out.2.2⟩
     case measure=>simp[intOf];omega
  ·have hlt':¬((j:Int)<(n:Int)):=by omega
   have hjn:j=n:=by omega
   have hln2:(jl l d).length=n:=by unfold jl;rw[wO];exact Hln.out
   have hO:zl7 wr w.heap.size (.slice (some ⟨w.heap.size,0,none⟩) n n) (jl l d) kv:=by
    refine⟨?_,by rw[hln2];exact hkv,fun q y v hy hv=>?_⟩
    ·rw[Yo,hln2];have hl5:(zZ l kv).length=n*5:=by rw[vN l kv (by rw[Hln.out];exact hkv),Hln.out]
     exact⟨hl5,.inr ⟨w.heap.size,n,_,rfl,pF _,hB,pF _,by unfold maxLen;omega,by simp[hl5],by simp[<-hl5]⟩⟩
    ·unfold jl at hy;rw[wD] at hy;cases hx:l[q]? with
     |none=>rw[hx] at hy;cases hy
     |some x=>
      rw[hx] at hy;cases hy;exact hdone.out q x v (by have:=(gtL hx);rw[Hln.out] at this;omega) hx hv
   have HO:=zj hO;clear hO hB hdone hrest hkv hln2;go_wp2;go_ret;exact⟨_,rfl,⟨_,HO.out⟩,hbw⟩
end
end Go.Proofs.YtcagibbaeageoaaGreatDoor
namespace Lode
theorem KM{t:zU}(h:xh t=0):t.nodes.length<=1000/\t.items.length<=40/\(∀x∈t.nodes,∀k∈x.kids,0<=k/\k<=1000)/\∀k∈t.items,0<=k/\k<=1000:=by
 have hF:=YS h;have hf:kY t=true:=by
  unfold xh at h;split at h
  ·cases h
  ·split at h
   ·cases h
   ·rename_i hf;simpa using hf
 have hn:¬(1000<t.nodes.length\/40<t.items.length):=by
  unfold xh at h;split at h
  ·cases h
  ·assumption
 obtain⟨_,hI,_⟩:=jE hf;refine⟨by omega,by omega,fun x hx k hk=>?_,fun k hk=>?_⟩
 ·obtain⟨i,hi,rfl⟩:=List.getElem_of_mem hx;have:=qf hF hi k hk;omega
 ·have:=Xy _ _ _ _ hI k (gD.2 hk);omega
end Lode
namespace Go.Proofs.YtcagibbaeageoaaGreatDoor
section
open Go.RowKit Lode Go.Shelf
open Go.Proofs.Tryz
def zj9(w:World)(r:zU×Nat)(e:Ending)(w':World):Prop:=Below w.heap.size w w'/\∃nv iv,e=.returned (.tuple #[.agg #[nv,iv],.int .i64 (r.2:Nat)])/\TR w' nv iv r.1
theorem vo.addNode{w w':World}{B:Nat}{nv v' iv u:Value}{t:zU}{kv:List Value}{y:Nd}(h:vo w B nv iv t kv)(hrow:w'.ownsRow B 60 5 v' (t.nodes.length+1) (zZ t.nodes kv ++ xA y u))(hg:w.grownBy w' nv.ownBlock)(hw:B<=w.heap.size)(hu:KS w u y.kids)(hd:∀g,xD u=some g->iv.ownBlock≠some g):vo w' B v' iv ⟨t.nodes ++ [y],t.items⟩ (kv ++ [u]):=by
 have f:=(Jq (base:=B) h.n hg hw).i;refine⟨by rw[pG,Ze _ _ _ _ h.l];exact hrow,by simp[h.l],fun j x z hx hz=>?_,Kg h.i f,fun z hz g hg'=>?_⟩
 ·rcases Nat.lt_or_ge j kv.length with hk|hk
  ·rw[wQ hk] at hz;rw[wQ (by rw[<-h.l];exact hk)] at hx;exact (h.k j x z hx hz).fri f
  ·rw[wL hk] at hz;rw[wL (by rw[<-h.l];exact hk),<-h.l] at hx;have hk0:j-kv.length=0:=by
    have:=(gtL hz);simp at this;omega
   rw[hk0] at hx hz;cases hx;cases hz;exact hu.fri f
 ·rcases wM.1 hz with hz|hz
  ·exact h.d z hz g hg'
  ·rw[wU.1 hz] at hg';exact hd g hg'
theorem vo.mono{w:World}{B B':Nat}{nv iv:Value}{t:zU}{kv:List Value}(h:vo w B nv iv t kv)(hB:B'<=B):vo w B' nv iv t kv:=by
 refine⟨⟨h.n.1,h.n.2.imp id ?_⟩,h.l,h.k,⟨h.i.1,h.i.2.imp id ?_⟩,h.d⟩
 ·rintro ⟨g,cap,cur,e1,e2,e3⟩;exact⟨g,cap,cur,e1,pQ hB e2,e3⟩
 ·rintro ⟨g,cap,cur,e1,e2,e3⟩;exact⟨g,cap,cur,e1,pQ hB e2,e3⟩
def zkv(B:Nat):LodeX.Rel:=⟨fun a b=>Below B a b,fun w=>pE _ w,fun h k=>h.trans k,Eq,fun _=>rfl,Eq.trans,fun h=>h▸pE _ _⟩
end
end Go.Proofs.YtcagibbaeageoaaGreatDoor
