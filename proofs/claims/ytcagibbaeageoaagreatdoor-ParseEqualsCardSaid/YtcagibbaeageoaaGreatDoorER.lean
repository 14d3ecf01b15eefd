/-
  A part of the proof: contracts of functions; no conditions.
-/
import Derived.Test.YtcagibbaeageoaaGreatDoorEK
import Derived.Test.YtcagibbaeageoaaGreatDoorEM
import Derived.ChangeSlices
import Derived.Lib.LaidTab
import Derived.LaidSub
import Derived.Stop.LaidErr
import Derived.WalkKit
import Derived.Test.YtcagibbaeageoaaGreatDoorRows
import Derived.Test.YtcagibbaeageoaaGreatDoorProg
import Derived.Deep.Slices
import Derived.Deep.Fields
import Derived.ChangeSame
import Derived.OpenShut
import Derived.Lib.SmallJoins
import Derived.Laws.CopyOwn
set_option maxRecDepth 100000
set_option maxHeartbeats 40000000
set_option linter.unusedSimpArgs false
set_option linter.unusedVariables false
namespace Go.Proofs.YtcagibbaeageoaaGreatDoor
section
open Go.RowKit Lode Go.Shelf
open Go.Proofs.Tryz
theorem Tryz.laidOut:laidOutB prog=true:=by kernel_rfl
theorem zgu: "*" ++ "errors.errorString" = "*errors.errorString" :=by decide
theorem zkL(u:TypeId)(h:prog.typeName? 3 u=some "*errors.errorString"):u=284:=
 typeName_ptr_named (nm:= "errors.errorString") (by rw[zgu];kernel_rfl) (by kernel_rfl) (by decide) u (by rw[zgu];exact h)
theorem ziT(w:World)(hL:laidMet prog Rows.parseChecksRow.laid w):qL w:=by
 refine⟨?_,?_,?_⟩
 ·have h:=hL.filter (fun x=>x.1 == "strings.asciiSpace");have e:(Rows.parseChecksRow.laid.filter fun x=>x.1 == "strings.asciiSpace")=[("strings.asciiSpace",Lib.tabData .u8 Lib.asciiSpaceTab)]:=by rfl
  rw[e] at h;exact Lib.tabIs_of_head (g:=0) (t:=220) (e:=5) (n:=256) (by kernel_rfl) (by kernel_rfl) (by kernel_rfl) (by kernel_rfl) (by kernel_rfl) (by kernel_rfl) h
 ·have h:=hL.filter (fun x=>x.1 == "internal/strconv.uint64pow10");have e:(Rows.parseChecksRow.laid.filter fun x=>x.1 == "internal/strconv.uint64pow10")=[("internal/strconv.uint64pow10",Lib.tabData .u64 Lib.pow10Tab)]:=by rfl
  rw[e] at h;exact Lib.tabIs_of_head (g:=3) (t:=268) (e:=245) (n:=20) (by kernel_rfl) (by kernel_rfl) (by kernel_rfl) (by kernel_rfl) (by kernel_rfl) (by kernel_rfl) h
 ·have h:=hL.filter (fun x=>x.1 == "strconv.ErrRange");have e:(Rows.parseChecksRow.laid.filter fun x=>x.1 == "strconv.ErrRange")=[("strconv.ErrRange",.iface "*errors.errorString" (.ptr (.agg [.lit (.string [118,97,108,117,101,32,111,117,116,32,111,102,32,114,97,110,103,101])])))]:=by rfl
  rw[e] at h;obtain⟨a,s,hv,_⟩:=laid_sentinel (g:=5) (tp:=284) (te:=286) (ts:=9) (ti:=82) h (by kernel_rfl) (by kernel_rfl) underlying82 zkL underlying284 underlying286 rfl rfl (by kernel_rfl) (by kernel_rfl) (by kernel_rfl);exact⟨_,_,hv⟩
end
section
open Go.RowKit Go.ChangeShapes Go.WideShapes Go.Deep Lode
open Go.Proofs.Tryz
theorem zjM{n:Int}(h:(Lit.int .u8 n).wf=true):0<=n/\n<=255:=by
 have h1:IntKind.u8.min=0:=by decide
 have h2:IntKind.u8.max=255:=by decide
 simp only[Lit.wf,pJ,pK,h1,h2] at h;exact h
theorem zcN{n:Int}(h:(Lit.int .i64 n).wf=true):Jh n:=by
 have h1:IntKind.i64.min= -9223372036854775808:=by decide
 have h2:IntKind.i64.max=9223372036854775807:=by decide
 simp only[Lit.wf,pJ,pK,h1,h2] at h;exact h
theorem Yh(g off j:Nat):(⟨g,off,none⟩:Addr).add j=⟨g,off+j,none⟩:=by
 unfold Addr.add;split
 ·rename_i h;subst h;rfl
 ·rfl
theorem zlX(a:Addr):a.add 0=a:=by unfold Addr.add;simp
variable {H:Type} {enc:TypeId×Value→H} {w:World} {base:Nat} {spare:Nat→Bool} {held:Bool}
theorem zeE{fuel:Nat}{cs:List Value}{x:DataW H×List MemPlace}(hf:DataW.trod enc prog w base spare held fuel 24 cs=some x):∃v l,cs=[v]/\Ja w v l/\∀k∈l,Jh k:=by
 rcases open_slice1 underlying24 (by kernel_rfl) hf with⟨rfl,_⟩|⟨a,len,cap,m,n,V,D,Pl,rfl,_,hl,_,hm,_,hi⟩
 ·exact⟨_,[],rfl,⟨none,0,rfl,.inl rfl⟩,fun k hk=>by cases hk⟩
 ·have hlm:len<=m:=by rw[hm];split <;> omega
  have hone:∀i,i<len->∃z:Int,w.cell? (a.add i)=some (.int .i64 z)/\Jh z:=fun i hi'=>by
   obtain⟨hc,ht⟩:=hi i (by omega);obtain⟨z,q,_,wz⟩:=DataW.trod_int underlying3 ht;have e:V i=.int .i64 z:=by simpa using q
   exact⟨z,by rw[hc,e],zcN wz⟩
  by_cases h0:len=0
  ·subst h0;exact⟨_,[],rfl,⟨some a,cap,rfl,.inl rfl⟩,fun k hk=>by cases hk⟩
  ·have hsp:a.spot=none:=by
    obtain⟨z,hz,_⟩:=hone 0 (by omega);rw[zlX] at hz;exact World.cell?_spot hz
   obtain⟨g,off,sp⟩:=a;simp only at hsp;subst hsp;refine⟨_,List.ofFn fun i:Fin len=>Classical.choose (hone i.1 i.2),rfl,⟨some ⟨g,off,none⟩,cap,by rw[List.length_ofFn],.inr ⟨g,off,rfl,fun j hj=>?_⟩⟩,fun k hk=>?_⟩
   ·rw[List.length_ofFn] at hj;have hq:=(Classical.choose_spec (hone j hj)).1;rw[pB,glE (by rw[List.length_ofFn];exact hj),List.getElem_ofFn];exact (congrArg w.cell? (Yh g off j)).symm.trans hq
   ·obtain⟨i,rfl⟩:=List.mem_ofFn.1 hk;exact (Classical.choose_spec (hone i.1 i.2)).2
structure zmL(t:zQ):Prop where
 kind:∀x∈t.nodes,x.kind<=255
 kids:∀x∈t.nodes,∀k∈x.kids,Jh k
 items:∀k∈t.items,Jh k
 n:∀x∈t.nodes,Jh x.n
 at_:∀x∈t.nodes,Jh x.at_
theorem zg2{fuel:Nat}{cs:List Value}{x:DataW H×List MemPlace}(hf:DataW.trod enc prog w base spare held fuel 23 cs=some x):∃v l,cs=[v]/\NSo w v l/\∀y∈l,y.kind<=255/\(∀k∈y.kids,Jh k)/\Jh y.n/\Jh y.at_:=by
 rcases open_slice underlying23 hf with⟨rfl,_⟩|⟨a,len,cap,m,n,D,Pl,rfl,_,hl,_,hm,_,hi⟩
 ·exact⟨_,[],rfl,⟨none,0,rfl,.inl rfl⟩,fun k hk=>by cases hk⟩
 ·have hlm:len<=m:=by rw[hm];split <;> omega
  have hC:prog.cellsOf 60=5:=by kernel_rfl
  rw[hC] at hi;have hone:∀i,i<len->∃t:Nd,(∃u,w.cell? (a.add (i*5))=some (.int .u8 t.kind)/\w.cell? ((a.add (i*5)).add 1)=some (.string ⟨t.text.toArray⟩)/\w.cell? ((a.add (i*5)).add 2)=some (.int .i64 t.n)/\w.cell? ((a.add (i*5)).add 3)=some u/\w.cell? ((a.add (i*5)).add 4)=some (.int .i64 t.at_)/\Ja w u t.kids)/\t.kind<=255/\(∀k∈t.kids,Jh k)/\Jh t.n/\Jh t.at_:=fun i hi'=>by
   obtain⟨cs',hc,ht⟩:=hi i (by omega);obtain⟨_,hcl,hat⟩:=World.cells?_some hc;obtain⟨ys,n',_,_,_,hyl,hfs⟩:=DataW.trod_struct underlying60 ht
   match cs',hcl with
   |[v0,v1,v2,v3,v4],_=>
    match ys,hyl with
    |[y0,y1,y2,y3,y4],_=>
     have k5:prog.cellsOf 5=1:=by kernel_rfl
     have k9:prog.cellsOf 9=1:=by kernel_rfl
     have k3:prog.cellsOf 3=1:=by kernel_rfl
     have ks:prog.cellsOf 24=1:=by kernel_rfl
     have e0:DataW.trod enc prog w base spare held n' 5 (([v0,v1,v2,v3,v4].drop 0).take (prog.cellsOf 5))=some y0:=hfs 0 _ rfl;have e1:DataW.trod enc prog w base spare held n' 9 (([v0,v1,v2,v3,v4].drop 1).take (prog.cellsOf 9))=some y1:=hfs 1 _ rfl;have e2:DataW.trod enc prog w base spare held n' 3 (([v0,v1,v2,v3,v4].drop 2).take (prog.cellsOf 3))=some y2:=hfs 2 _ rfl;have e3:DataW.trod enc prog w base spare held n' 24 (([v0,v1,v2,v3,v4].drop 3).take (prog.cellsOf 24))=some y3:=hfs 3 _ rfl;have e4:DataW.trod enc prog w base spare held n' 3 (([v0,v1,v2,v3,v4].drop 4).take (prog.cellsOf 3))=some y4:=hfs 4 _ rfl;rw[k5] at e0;rw[k9] at e1;rw[k3] at e2 e4;rw[ks] at e3;obtain⟨x0,q0,_,w0⟩:=DataW.trod_int underlying5 e0;obtain⟨x1,q1,_,_⟩:=DataW.trod_string underlying9 e1;obtain⟨x2,q2,_,w2⟩:=DataW.trod_int underlying3 e2;obtain⟨x3,l3,q3,h3,r3⟩:=zeE e3;obtain⟨x4,q4,_,w4⟩:=DataW.trod_int underlying3 e4;have r0:v0=.int .u8 x0:=by simpa using q0
     have r1:v1=.string x1:=by simpa using q1
     have r2:v2=.int .i64 x2:=by simpa using q2
     have s3:v3=x3:=by simpa using q3
     have r4:v4=.int .i64 x4:=by simpa using q4
     subst r0 r1 r2 s3 r4;have hk:=zjM w0;obtain⟨k0,rfl⟩:∃y:Nat,x0=(y:Int):=pO hk.1;have hk0:k0<=255:=by omega
     exact⟨⟨k0,x1.data.toList,x2,l3,x4⟩,⟨v3,hat 0 (by decide),hat 1 (by decide),hat 2 (by decide),hat 3 (by decide),hat 4 (by decide),h3⟩,hk0,r3,zcN w2,zcN w4⟩
  by_cases h0:len=0
  ·subst h0;exact⟨_,[],rfl,⟨some a,cap,rfl,.inl rfl⟩,fun k hk=>by cases hk⟩
  ·have hsp:a.spot=none:=by
    obtain⟨z,⟨u,hz,_⟩,_⟩:=hone 0 (by omega);rw[Nat.zero_mul,zlX] at hz;exact World.cell?_spot hz
   obtain⟨g,off,sp⟩:=a;simp only at hsp;subst hsp;refine⟨_,List.ofFn fun i:Fin len=>Classical.choose (hone i.1 i.2),rfl,⟨some ⟨g,off,none⟩,cap,by rw[List.length_ofFn],.inr ⟨g,off,rfl,fun j y hy=>?_⟩⟩,fun k hk=>?_⟩
   ·have hj:j<len:=by have:=(gtL hy);rwa [List.length_ofFn] at this
    obtain⟨u,q0,q1,q2,q3,q4,q5⟩:=(Classical.choose_spec (hone j hj)).1;rw[glE (by rw[List.length_ofFn];exact hj),List.getElem_ofFn] at hy;cases hy;have h2:∀k,((⟨g,off,none⟩:Addr).add (j*5)).add k=⟨g,off+j*5+k,none⟩:=fun k=>by rw[Yh,Yh]
    exact⟨u,(congrArg w.cell? (Yh g off (j*5))).symm.trans q0,(congrArg w.cell? (h2 1)).symm.trans q1,(congrArg w.cell? (h2 2)).symm.trans q2,(congrArg w.cell? (h2 3)).symm.trans q3,(congrArg w.cell? (h2 4)).symm.trans q4,q5⟩
   ·obtain⟨i,rfl⟩:=List.mem_ofFn.1 hk;exact (Classical.choose_spec (hone i.1 i.2)).2
theorem zef{r:Reach}{b:Nat}{v:Value}{d:DataW H}{p:List MemPlace}(hv:Value.okWide prog w r b 26 v)(h:DataW.Trod enc prog w base spare held 26 v d p):∃nv iv t,v=.agg #[nv,iv]/\Qx w nv iv t/\zmL t:=by
 obtain⟨c0,c1,y0,y1,m,rfl,rfl,rfl,e0,e1⟩:=Go.Joins.open_agg2 underlying26 (by kernel_rfl) (show prog.cellsOf 26=2 by kernel_rfl) hv h;obtain⟨v0,l0,q0,h0,r0⟩:=zg2 e0;obtain⟨v1,l1,q1,h1,r1⟩:=zeE e1;have s0:c0=v0:=by simpa using q0
 have s1:c1=v1:=by simpa using q1
 subst s0 s1;exact⟨c0,c1,⟨l0,l1⟩,rfl,⟨h0,h1⟩,⟨fun x hx=>(r0 x hx).1,fun x hx=>(r0 x hx).2.1,r1,fun x hx=>(r0 x hx).2.2.1,fun x hx=>(r0 x hx).2.2.2⟩⟩
end
section
open Go.RowKit Lode Go.Shelf
attribute [local go_sem ↓] Go.wp_at_zero Go.wp_at_succ
open Go.Proofs.Tryz
theorem zdy(n:Nat)(hn:n<=1000000):∃cs:Array Value,cs.size=n*5/\∀W:World,(Instr.makeSlice 23 (.int .i64 (n:Int)) (.int .i64 (n:Int))).run prog W=.ok (.slice (some ⟨W.heap.size,0,none⟩) n n) (W.alloc (.cells cs 60 (0,0))):=by
 obtain⟨i0,hi,hz0,hz1,hz2⟩:=info_parts Tryz.infoNode;have h:=fun W=>run_make (P:=prog) W 23 60 i0 _ underlying23 hi hz0 .i64 .i64 n n (by omega) (Int.le_refl _) (by rw[hz2];omega) (by omega)
 simp only[wG,hz1] at h;exact⟨_,size_madeCells _ _,h⟩
theorem zg3(f:Nat->Option Value):∀(l:List Nd) (kv:List Value) (d:Nat),(∀(j:Nat) (x:Nd) (u:Value),l[j]? =some x->kv[j]? =some u->∀(i:Nat) (y:Value),(xh x u)[i]? =some y->f (d+j*5+i)=some y)->∀(j:Nat) (v:Value),(zO l kv)[j]? =some v->f (d+j)=some v
 |[],_,_,_,j,v,h=>by simp[zO] at h
 |a :: l,[],_,_,j,v,h=>by simp[zO] at h
 |a :: l,b :: kv,d,hf,j,v,h=>by
  have h':(xh a b ++ zO l kv)[j]? =some v:=h;have h5:(xh a b).length=5:=rfl;by_cases hj:j<5
  ·rw[wR (by omega)] at h';have:=hf 0 a b rfl rfl j v h'
   rwa [show d+0*5+j=d+j by omega] at this
  ·rw[wM (by omega),h5] at h';have:=zg3 f l kv (d+5) (fun k x u hx hu i y hy=>by
    have:=hf (k+1) x u hx hu i y hy
    rwa [show d+(k+1)*5+i=d+5+k*5+i by omega] at this) (j-5) v h'
   rwa [show d+5+(j-5)=d+j by omega] at this
theorem zg1{w:World}{g:Nat}:∀(l:List Nd) (off:Nat),(∀(j:Nat) (x:Nd),l[j]? =some x->∃u,NdO w g (off+j*5) x u)->∃kv:List Value,kv.length=l.length/\∀(j:Nat) (x:Nd) (u:Value),l[j]? =some x->kv[j]? =some u->NdO w g (off+j*5) x u
 |[],_,_=>⟨[],rfl,fun j x u h=>by simp at h⟩
 |a :: l,off,h=>by
  obtain⟨u,hu⟩:=h 0 a rfl;obtain⟨kv,h1,h2⟩:=zg1 l (off+5) (fun j x hx=>by
   obtain⟨u,hu⟩:=h (j+1) x hx;exact⟨u,by rwa [show off+(j+1)*5=off+5+j*5 by omega] at hu⟩)
  refine⟨u :: kv,by simp[h1],fun j x u' hx hu'=>?_⟩;cases j with
  |zero=>
   cases hx;cases hu'
   rwa [Nat.zero_mul] at hu
  |succ j=>
   have:=h2 j x u' hx hu'
   rwa [show off+5+j*5=off+(j+1)*5 by omega] at this
theorem NSo.src{w:World}{v:Value}{l:List Nd}(h:NSo w v l):∃(p:Option Addr) (cap:Nat) (kv:List Value),v=.slice p l.length cap/\kv.length=l.length/\(∀(j:Nat) (x:Nd) (u:Value),l[j]? =some x->kv[j]? =some u->Ja w u x.kids)/\(l.length≠0->∃g off,p=some ⟨g,off,none⟩/\∀(j:Nat) (y:Value),(zO l kv)[j]? =some y->w.cell? ⟨g,off+j,none⟩=some y):=by
 obtain⟨p,cap,hv,h⟩:=h;rcases h with rfl|⟨g,off,hp,hc⟩
 ·exact⟨p,cap,[],hv,rfl,fun j x u h=>by simp at h,fun h=>absurd rfl h⟩
 ·obtain⟨kv,h1,h2⟩:=zg1 l off hc;refine⟨p,cap,kv,hv,h1,fun j x u hx hu=>(h2 j x u hx hu).kids,fun _=>⟨g,off,hp,fun j y hy=>?_⟩⟩;refine zg3 (fun k=>w.cell? ⟨g,k,none⟩) l kv off (fun j x u hx hu i y hy=>?_) j y hy;have N:=h2 j x u hx hu
  match i,hy with
  |0,hy=>cases hy;exact N.c0
  |1,hy=>cases hy;exact N.c1
  |2,hy=>cases hy;exact N.c2
  |3,hy=>cases hy;exact N.c3
  |4,hy=>cases hy;exact N.c4
  |i+5,hy=>simp[xh] at hy
theorem jb:∀(l:List Nd) (kv:List Value),kv.length=l.length->(zO l kv).length=l.length*5
 |[],_,_=>by simp[zO]
 |a :: l,[],h=>by simp at h
 |a :: l,b :: kv,h=>by
  show (xh a b ++ zO l kv).length=_
  rw[pM,jb l kv (by simpa using h),pQ];show 5+_=_
  omega
theorem zb3{l:List Nd}{kv:List Value}(hk:∀v∈kv,v.oneCell'=true):∀v∈zO l kv,v.oneCell'=true:=fun v hv=>by
 unfold zO at hv;rw[List.mem_flatMap] at hv;obtain⟨⟨x,u⟩,hx,hv⟩:=hv;have:=List.of_mem_zip hx;simp only[xh,wF,wN,or_false] at hv;rcases hv with rfl|rfl|rfl|rfl|rfl <;> first|rfl|exact hk _ this.2
theorem QN:∀(l:List Nd) (kv:List Value) (j:Nat) (v:Value),kv.length=l.length->zO l (kv.set j v)=(zO l kv).set (j*5+3) v
 |[],_,_,_,_=>by simp[zO]
 |a :: l,[],_,_,h=>by simp at h
 |a :: l,b :: kv,0,v,h=>rfl
 |a :: l,b :: kv,j+1,v,h=>by
  show xh a b ++ zO l (kv.set j v)=(xh a b ++ zO l kv).set _ v
  have h5:(xh a b).length=5:=rfl;rw[QN l kv j v (by simpa using h),List.set_append_right _ _ (by omega),h5,show (j+1)*5+3-5=j*5+3 by omega]
theorem zfm(w:World)(ty:TypeId){g cap n:Nat}{cur:Array Value}{sp:Option Addr}{sc:Nat}{cs:List Value}(hg:w.heap[g]? =some (.cells cur 60 (0,0)))(hcur:cur.size=n*5)(hcs:cs.length=n*5)(h1:∀v∈cs,v.oneCell'=true)(hsrc:n≠0->∃b o,sp=some ⟨b,o,none⟩/\∀(j:Nat) (v:Value),cs[j]? =some v->w.cell? ⟨b,o+j,none⟩=some v):
 (Builtin.copy_ #[23,23] ty #[.slice (some ⟨g,0,none⟩) n cap,.slice sp n sc]).run prog w=.ok (goInt n) (w.setRow g cs.toArray):=by
 obtain⟨i0,hi,hz0,hz1,hz2⟩:=info_parts Tryz.infoNode;by_cases h0:n=0
 ·subst h0;obtain rfl:cs=[]:=pT (by omega);obtain rfl:cur= #[]:=Array.eq_empty_of_size_eq_zero (by omega);rw[show ([]:List Value).toArray= #[] from rfl,setRow_self w g #[] _ _ hg];cases sp with
  |none=>simp[Builtin.copy_,run_underlying underlying23,Builtin.lenOf,Builtin.firstCells,sizeOf,typeInfo,hi,storeCells]
  |some ad=>
   have hl:=run_loadCells_list (P:=prog) w ad [] (fun j v h=>by cases h);simp only[wD] at hl;simp[Builtin.copy_,run_underlying underlying23,Builtin.lenOf,Builtin.firstCells,sizeOf,typeInfo,hi,storeCells,hl]
 ·obtain⟨b,o,rfl,hs⟩:=hsrc h0;have hl:=run_loadCells_list (P:=prog) w ⟨b,o,none⟩ cs (fun j v hj=>by
   have e:(⟨b,o,none⟩:Addr).add j=⟨b,o+j,none⟩:=by unfold Addr.add;split <;> simp_all
   rw[e];exact hs j v hj)
  have hst:=run_storeCells_at prog g 0 60 cs 0 cur w hg (by omega) h1;have e:cur.toList.take (0+0) ++ cs ++ cur.toList.drop (0+0+cs.length)=cs:=by
   rw[List.drop_eq_nil_of_le (by simp;omega)];simp
  rw[e] at hst;simp[Builtin.copy_,run_underlying underlying23,Builtin.lenOf,Builtin.firstCells,sizeOf,typeInfo,hi,hz1,<-hcs,hl,hst]
structure XK(w:World)(B:Nat)(v:Value)(ls:List Nd)(kv:List Value):Prop where
 n:w.ownsRow B 60 5 v ls.length (zO ls kv)
 l:kv.length=ls.length
 k:∀(j:Nat) (x:Nd) (u:Value),ls[j]? =some x->kv[j]? =some u->KS w u x.kids
theorem Yv(d:Int):∀(l:List Nd) (kv:List Value),zO (xH l d) kv=zO l kv
 |[],_=>rfl
 |a :: l,[]=>rfl
 |a :: l,b :: kv=>by
  show xh _ b ++ zO (xH l d) kv=xh a b ++ zO l kv
  rw[Yv d l kv];rfl
theorem KS.but{w W:World}{v:Value}{l:List Int}(h:KS w v l){b:Nat}{cs:Array Value}{fr:Nat×Nat}(hb:w.heap[b]? =some (.cells cs 60 fr))(hk:∀k,k<w.heap.size->k≠b->W.heap[k]? =w.heap[k]?):KS W v l:=by
 obtain⟨p,cap,hv,h⟩:=h;refine⟨p,cap,hv,h.imp id ?_⟩;rintro ⟨g,off,cs',fr',hp,hg,hc⟩;refine⟨g,off,cs',fr',hp,(hk g (gtA hg) (fun e=>?_)).trans hg,hc⟩;subst e;rw[hb] at hg;cases hg
def ZJ(ks:List Int)(d:Int)(k:Nat):List Value:=yw ((ks.take k).map (· +d)) ++ List.replicate (ks.length-k) (.int .i64 0)
theorem zfG{ks:List Int}{d:Int}{k:Nat}(hk:k<ks.length):(ZJ ks d k)[k]? =some (.int .i64 0):=by
 unfold ZJ;rw[wM (by simp;omega)];simp only[yw,gB,gG];rw[List.getElem?_replicate,if_pos (by omega)]
theorem zfF{ks:List Int}{d:Int}{k:Nat}(hk:k<ks.length):(ZJ ks d k).set k (.int .i64 (ks.getD k 0+d))=ZJ ks d (k+1):=by
 unfold ZJ;have e:ks.length-k=ks.length-(k+1)+1:=by omega
 have h1:(yw ((ks.take k).map (· +d))).length=k:=by simp;omega
 rw[List.set_append_right _ _ (by omega),h1,Nat.sub_self,e,List.replicate_succ,List.set_cons_zero,show ks.take (k+1)=ks.take k ++ [ks[k]] from by rw[wY,glE hk];rfl,pB,glE hk];simp only[yw,List.map_append,gD,List.map_cons,List.map_nil,wJ,wW,Option.getD_some]
theorem zdx(ks:List Int)(d:Int):ZJ ks d 0=List.replicate ks.length (.int .i64 0):=by simp[ZJ]
theorem zg4{w:World}{g:Nat}{ks:List Int}{d:Int}{fr:Nat×Nat}(hg:w.heap[g]? =some (.cells (ZJ ks d ks.length).toArray 3 fr)):KS w (.slice (some ⟨g,0,none⟩) ks.length ks.length) (ks.map (· +d)):=by
 refine⟨some ⟨g,0,none⟩,0,by simp,.inr ⟨g,0,_,fr,rfl,hg,fun j z hz=>?_⟩⟩;unfold ZJ;rw[List.take_length,pU,Nat.zero_add,wR (by simpa using (gtL hz)),yw,wE,hz];rfl
def MvN(B n:Nat)(l:List Nd)(kv0:List Value)(d:Int)(w:World)(i:Value)(wr:World):Prop:=∃(j:Nat) (kv:List Value),i=.int .i64 j/\j<=n/\kv.length=n/\wr.heap[B]? =some (.cells (zO l kv).toArray 60 (0,0))/\Hid (∀(q:Nat) (x:Nd) (u:Value),q<j->l[q]? =some x->kv[q]? =some u->KS wr u (x.kids.map (· +d)))/\Hid (∀q,j<=q->kv[q]? =kv0[q]?)/\Below B w wr
theorem VD(l:List Nd)(v:Value)(d:Int)(w:World)(hN:NSo w v l)(hd:∀x∈l,∀k∈x.kids,Jh (k+d))(hn:l.length<=100000)(hk:∀x∈l,x.kids.length<=100000):
 Calls prog 70 #[v,.int .i64 d] w fun e w'=>∃g:Nat,e=.returned (.slice (some ⟨g,0,none⟩) l.length l.length)/\(∃kv,XK w' w.heap.size (.slice (some ⟨g,0,none⟩) l.length l.length) (xH l d) kv)/\Below w.heap.size w w':=by
 obtain⟨p,cap,kv0,rfl,hkl0,hks0,hsrc⟩:=hN.src;obtain⟨n,hln⟩:=exE (l.length);rw[hln] at hn hsrc hkl0 ⊢;obtain⟨cs0,hcs0,hmk⟩:=zdy n (by omega);have hB0:=zl w (.cells cs0 60 (0,0));have hA0:=zg w (.cells cs0 60 (0,0));have hlc:(zO l kv0).length=n*5:=by rw[jb l kv0 (by rw[hln];exact hkl0),hln]
 have hone:∀v∈zO l kv0,v.oneCell'=true:=zb3 fun v hv=>by
  obtain⟨j,hj,rfl⟩:=List.getElem_of_mem hv;obtain⟨p,c,e⟩:=(hks0 j _ _ (glE (by rw[hln,<-hkl0];exact hj)) (glE hj)).form;rw[e];rfl
 have hsr:n≠0->∃b o,p=some ⟨b,o,none⟩/\∀(j:Nat) (v:Value),(zO l kv0)[j]? =some v->(w.alloc (.cells cs0 60 (0,0))).cell? ⟨b,o+j,none⟩=some v:=fun h=>by
  obtain⟨g,off,hp,hc⟩:=hsrc h;exact⟨g,off,hp,fun j v hv=>zj hA0 (hc j v hv)⟩
 have hcp:=zfm _ 3 (cap:=n) (sc:=cap) hB0 hcs0 hlc hone hsr;have hB1:=setRow_heap _ w.heap.size _ (zO l kv0).toArray _ _ hB0;have hb1:=below_setRow hA0 (pG _) (zO l kv0).toArray;obtain⟨w1,hw1⟩:=exE ((w.alloc (.cells cs0 60 (0,0))).setRow w.heap.size (zO l kv0).toArray);rw[hw1] at hcp hB1 hb1;have hst:MvN w.heap.size n l kv0 d w (.int .i64 0) w1:=⟨0,kv0,rfl,pX _,hkl0,hB1,zi (fun q x u h=>absurd h (wI _)),zi (fun _ _=>rfl),hb1⟩;have Hst:=zi hst;have Hks:=zi hks0;have Hln:=zi hln;have Hd:=zi hd;have HK:=zi hk;have Hkl:=zi hkl0;have hmi:=zi (fun (m:Nat) (hm:m<=100000) (W:World)=>Qe m (by omega) W);clear hN hsrc hcs0 hB0 hA0 hlc hone hsr hks0 hln hd hk hkl0 hB1 hb1 hst hw1;go_enter func70,ntmps70;go_wp2;go_loopw [18] (MvN w.heap.size n l kv0 d w) (fun i _=>n-(intOf i).toNat)
 case atStart=>exact Hst.out
 case round=>
  obtain⟨j,kv,rfl,hj,hkv,hB,hdone,hrest,hbw⟩:=hrel;by_cases hlt:j<n
  ·have hlt':(j:Int)<(n:Int):=by omega
   have hj0:¬((j:Int)<0):=by omega
   have hy:=pF ((j:Int)+1) (by omega);obtain⟨x,hx⟩:∃x,l[j]? =some x:=⟨_,glE (by rw[Hln.out];exact hlt)⟩;obtain⟨u,hu⟩:∃u,kv[j]? =some u:=⟨_,glE (by rw[hkv];exact hlt)⟩;have hu0:=(hrest.out j (pG _)).symm.trans hu;have hU:=Hks.out j x u hx hu0;have hxm:x∈l:=pW hx;have hxl:=HK.out x hxm;have hxd:=Hd.out x hxm;obtain⟨up,uc,rfl⟩:=hU.form;have c3:wr.cell? ⟨w.heap.size,j*5+3,none⟩=some (.slice up x.kids.length uc):=(zd hB _).trans (by rw[pU];exact um l kv j x _ hx hu 3 _ rfl);obtain⟨ks,hks⟩:=exE (x.kids);rw[hks] at c3 hU hxl hxd;obtain⟨m,hm⟩:=exE (ks.length);rw[hm] at c3 hU hxl;have hmk2:=hmi.out m hxl;have hltB:w.heap.size<wr.heap.size:=(gtA hB);have hA:=zg wr (.cells (Array.replicate m (Value.int .i64 0)) 3 (0,0));have hG:=zl wr (.cells (Array.replicate m (Value.int .i64 0)) 3 (0,0));have e3:=zj hA c3;have hB2:=zh hA hB;have f3:=zk hB2 (j*5+3);obtain⟨W1,hW1⟩:=exE (wr.setCell ⟨w.heap.size,j*5+3,none⟩ (.slice (some ⟨wr.heap.size,0,none⟩) m m));have hs1:W1.heap.size=wr.heap.size:=by rw[<-hW1];simp
   have hA1:=zg W1 (.cells (Array.replicate m (Value.int .i64 0)) 3 (0,0));have hG1:=zl W1 (.cells (Array.replicate m (Value.int .i64 0)) 3 (0,0));rw[hs1] at hG1;obtain⟨W2,hW2⟩:=exE (W1.alloc (.cells (Array.replicate m (Value.int .i64 0)) 3 (0,0)));rw[hW2] at hA1 hG1;have hB3:W2.heap[w.heap.size]? =some (.cells (zO l (kv.set j (.slice (some ⟨wr.heap.size,0,none⟩) m m))).toArray 60 (0,0)):=zh hA1 (by
    rw[<-hW1,zo hB,QN l kv j _ (by rw[Hln.out];exact hkv),List.setIfInBounds_toArray])
   have hG3:W2.heap[wr.heap.size]? =some (.cells (ZJ ks d 0).toArray 3 (0,0)):=by
    rw[zdx,hm];simpa using hG1
   have hkeep:∀k,k<wr.heap.size->k≠w.heap.size->W2.heap[k]? =wr.heap[k]? :=fun k hk hne=>by
    rw[hA1.block k (by omega),<-hW1,zw hne]
   have hbW2:Below w.heap.size w W2:=(hW1▸hbw.setCell (pG _) _:Below w.heap.size w W1).trans (hA1.mono (by omega));have hsz2:W2.heap.size=wr.heap.size+1:=by rw[<-hW2];simp[hs1]
   rw[<-hW1] at hW2;have HW2:=zi hW2;have HB3:=zi hB3;have HG3:=zi hG3;have Hkeep:=zi hkeep;have HbW2:=zi hbW2;have HX:=zi (And.intro hx (And.intro hks hkv));have HB:=zi hB;have Hm:=zi hm;have HU:=zi hU;have Hxd:=zi hxd;have Hsz2:=zi hsz2;clear hx hu hu0 hU hxm hks hB hA hG hB2 hW2 hW1 hA1 hG1 hs1 hB3 hG3 hkeep hbW2 hm hxd hkv hsz2;go_wp2_with fail;rw[HW2.out];generalize hGe:wr.heap.size=G at *;go_loopw [35] (fun i wr=>∃k:Nat,i=.int .i64 k/\k<=m/\wr.heap[G]? =some (.cells (ZJ ks d k).toArray 3 (0,0))/\Below G W2 wr) (fun i _=>m-(intOf i).toNat)
   case atStart=>exact⟨0,rfl,pX _,HG3.out,pE _ _⟩
   case round=>
    obtain⟨k,rfl,hk,hGq,hbq⟩:=hrel;have hBq:=(hbq.block w.heap.size hltB).trans HB3.out;by_cases hkm:k<m
    ·have hkm':(k:Int)<(m:Int):=by omega
     have hk0:¬((k:Int)<0):=by omega
     have hyk:=pF ((k:Int)+1) (by omega);have hkl:k<ks.length:=by rw[Hm.out];exact hkm
     obtain⟨g2,o2,rfl,d0⟩:=(HU.out.below (HbW2.out.trans (hbq.mono (by omega)))).at hkl;have hz:=Hxd.out (ks.getD k 0) (by rw[pB,glE hkl];exact wK hkl);have hset:=zfF (d:=d) hkl;generalize ks.getD k 0=z at *;have hwz:IntKind.i64.wrap (z+d)=z+d:=pF _ ⟨hz.1,hz.2⟩;have b3:=(zd hBq (j*5+3)).trans (show _=some (Value.slice (some ⟨G,0,none⟩) m m) by
      rw[pU];exact um l _ j x _ HX.out.1 (by rw[List.getElem?_set,if_pos rfl,if_pos (by rw[HX.out.2.2];exact hlt)]) 3 _ rfl)
     have g0:=(zd hGq k).trans (show _=some (Value.int .i64 0) by rw[pU];exact zfG hkl);have fg:=zk hGq k;have hnew:=zo hGq k (.int .i64 (z+d));rw[List.setIfInBounds_toArray,hset] at hnew;have hbn:Below G W2 (wr.setCell ⟨G,k,none⟩ (.int .i64 (z+d))):=hbq.setCell (pG _) _;have Hnew:=zi hnew;have Hbn:=zi hbn;clear hGq hBq hset hnew hbn hbq;go_wp2;go_roundw
     case rel=>exact⟨k+1,by go_num,by omega,Hnew.out,Hbn.out⟩
     case measure=>simp[intOf];omega
    ·have hkm':¬((k:Int)<(m:Int)):=by omega
     have hkm2:k=m:=by omega
     have hKS:KS wr (.slice (some ⟨G,0,none⟩) m m) (ks.map (· +d)):=by
      have:=zg4 (w:=wr) (g:=G) (ks:=ks) (d:=d) (fr:=(0,0)) (by rw[Hm.out];exact hkm2▸hGq)
      rwa [Hm.out] at this
     have hdone2:=zi (fun (q:Nat) (y:Nd) (v:Value) (hq:q<j+1) (hy:l[q]? =some y) (hv:(kv.set j (.slice (some ⟨G,0,none⟩) m m))[q]? =some v)=>show KS wr v (y.kids.map (· +d)) from by
      by_cases e:q=j
      ·rw[e] at hy hv;rw[HX.out.1] at hy;cases hy;rw[List.getElem?_set,if_pos rfl,if_pos (by rw[HX.out.2.2];exact hlt)] at hv;cases hv;rw[HX.out.2.1];exact hKS
      ·rw[List.getElem?_set,if_neg (fun h=>e h.symm)] at hv;exact (hdone.out q y v (by omega) hy hv).but HB.out (fun k hk hne=>(hbq.block k (by omega)).trans (Hkeep.out k (by omega) hne)))
     have hrest2:=zi (fun (q:Nat) (hq:j+1<=q)=>show (kv.set j (.slice (some ⟨G,0,none⟩) m m))[q]? =kv0[q]? from by
      rw[List.getElem?_set,if_neg (by omega)];exact hrest.out q (by omega))
     have hlen2:(kv.set j (.slice (some ⟨G,0,none⟩) m m)).length=n:=by rw[List.length_set];exact HX.out.2.2
     have hbf:=HbW2.out.trans (hbq.mono (by omega));have HF:=zi (And.intro hlen2 (And.intro hBq hbf));clear hKS hlen2 hBq hbf hGq;go_wp2;go_roundw
     case rel=>exact⟨j+1,_,by go_num,by omega,HF.out.1,HF.out.2.1,hdone2,hrest2,HF.out.2.2⟩
     case measure=>simp[intOf];omega
  ·have hlt':¬((j:Int)<(n:Int)):=by omega
   have hjn:j=n:=by omega
   have hln2:(xH l d).length=n:=by unfold xH;rw[gB];exact Hln.out
   have hO:XK wr w.heap.size (.slice (some ⟨w.heap.size,0,none⟩) n n) (xH l d) kv:=by
    refine⟨?_,by rw[hln2];exact hkv,fun q y v hy hv=>?_⟩
    ·rw[Yv,hln2];have hl5:(zO l kv).length=n*5:=by rw[jb l kv (by rw[Hln.out];exact hkv),Hln.out]
     exact⟨hl5,.inr ⟨w.heap.size,n,_,rfl,pG _,hB,pG _,by unfold maxLen;omega,by simp[hl5],by simp[<-hl5]⟩⟩
    ·unfold xH at hy;rw[wE] at hy;cases hx:l[q]? with
     |none=>rw[hx] at hy;cases hy
     |some x=>
      rw[hx] at hy;cases hy;exact hdone.out q x v (by have:=(gtL hx);rw[Hln.out] at this;omega) hx hv
   have HO:=zi hO;clear hO hB hdone hrest hkv hln2;go_wp2;go_ret;exact⟨_,rfl,⟨_,HO.out⟩,hbw⟩
end
end Go.Proofs.YtcagibbaeageoaaGreatDoor
namespace Lode
theorem uf{t:zQ}(h:yp t=0):t.nodes.length<=1000/\t.items.length<=40/\(∀x∈t.nodes,∀k∈x.kids,0<=k/\k<=1000)/\∀k∈t.items,0<=k/\k<=1000:=by
 have hF:=YV h;have hf:ue t=true:=by
  unfold yp at h;split at h
  ·cases h
  ·split at h
   ·cases h
   ·rename_i hf;simpa using hf
 have hn:¬(1000<t.nodes.length\/40<t.items.length):=by
  unfold yp at h;split at h
  ·cases h
  ·assumption
 obtain⟨_,hI,_⟩:=vO hf;refine⟨by omega,by omega,fun x hx k hk=>?_,fun k hk=>?_⟩
 ·obtain⟨i,hi,rfl⟩:=List.getElem_of_mem hx;have:=jf hF hi k hk;omega
 ·have:=Jp _ _ _ _ hI k (gI.2 hk);omega
end Lode
namespace Go.Proofs.YtcagibbaeageoaaGreatDoor
section
open Go.RowKit Lode Go.Shelf
open Go.Proofs.Tryz
theorem zap{k d:Int}(h:0<=k/\k<=1000)(hd:0<=d/\d<=1000):Jh (k+d):=by unfold Jh;omega
def zi8(w:World)(r:zQ×Nat)(e:Ending)(w':World):Prop:=Below w.heap.size w w'/\∃nv iv,e=.returned (.tuple #[.agg #[nv,iv],.int .i64 (r.2:Nat)])/\TR w' nv iv r.1
theorem ki.addNode{w w':World}{B:Nat}{nv v' iv u:Value}{t:zQ}{kv:List Value}{y:Nd}(h:ki w B nv iv t kv)(hrow:w'.ownsRow B 60 5 v' (t.nodes.length+1) (zO t.nodes kv ++ xh y u))(hg:w.grownBy w' nv.ownBlock)(hw:B<=w.heap.size)(hu:KS w u y.kids)(hd:∀g,xl u=some g->iv.ownBlock≠some g):ki w' B v' iv ⟨t.nodes ++ [y],t.items⟩ (kv ++ [u]):=by
 have f:=(Jr (base:=B) h.n hg hw).i;refine⟨by rw[pM,Ze _ _ _ _ h.l];exact hrow,by simp[h.l],fun j x z hx hz=>?_,JY h.i f,fun z hz g hg'=>?_⟩
 ·rcases Nat.lt_or_ge j kv.length with hk|hk
  ·rw[wR hk] at hz;rw[wR (by rw[<-h.l];exact hk)] at hx;exact (h.k j x z hx hz).fri f
  ·rw[wM hk] at hz;rw[wM (by rw[<-h.l];exact hk),<-h.l] at hx;have hk0:j-kv.length=0:=by
    have:=(gtL hz);simp at this;omega
   rw[hk0] at hx hz;cases hx;cases hz;exact hu.fri f
 ·rcases pP.1 hz with hz|hz
  ·exact h.d z hz g hg'
  ·rw[wT.1 hz] at hg';exact hd g hg'
theorem KS.blk{w:World}{v:Value}{l:List Int}(h:KS w v l){g:Nat}(hg:xl v=some g):g<w.heap.size:=by
 obtain⟨p,cap,hp,h0|⟨g',off,cs,fr,rfl,hh,_⟩⟩:=h
 ·rw[hp,h0,wD] at hg;cases p <;> cases hg
 ·rw[hp] at hg;have h2:=(gtA hh);generalize l.length=n at hg;cases n with
  |zero=>cases hg
  |succ n=>
   rw[Nat.succ_add] at hg;simp only[xl,wP] at hg;omega
theorem ki.addItem{w w':World}{B:Nat}{nv v' iv:Value}{t:zQ}{kv:List Value}{z:Int}(h:ki w B nv iv t kv)(hrow:w'.ownsRow B 3 1 v' (t.items.length+1) (yw t.items ++ [.int .i64 z]))(hg:w.grownBy w' iv.ownBlock)(hv:v'.ownBlock=iv.ownBlock\/∀g,v'.ownBlock=some g->w.heap.size<=g):ki w' B nv v' ⟨t.nodes,t.items ++ [z]⟩ kv:=by
 have hne:∀(k:Nat) (cs:Array Value) (T:TypeId) (fr:Nat×Nat),w.heap[k]? =some (.cells cs T fr)->iv.ownBlock≠some k->w'.heap[k]? =some (.cells cs T fr):=fun k cs T fr hk hne=>(hg.block k (gtA hk) (fun e=>hne e.symm)).trans hk
 refine⟨⟨h.n.1,h.n.2.imp id ?_⟩,h.l,fun j x u hx hu=>(h.k j x u hx hu).keep fun g cs fr hg' hh=>hne g cs _ fr hh (h.d u (pW hu) g hg'),by rw[pM];simpa[yw] using hrow,fun u hu g hg'=>?_⟩
 ·rintro ⟨g,cap,cur,e1,e2,e3,e4⟩;exact⟨g,cap,cur,e1,e2,hne g cur _ _ e3 (ZF h.i e3 (by decide)),e4⟩
 ·rcases hv with hv|hv
  ·rw[hv];exact h.d u hu g hg'
  ·intro e;have h1:=hv g e;obtain⟨j,hj,rfl⟩:=List.getElem_of_mem hu;have h2:=(h.k j _ _ (glE (by rw[<-h.l];exact hj)) (glE hj)).blk hg';omega
theorem ki.mono{w:World}{B B':Nat}{nv iv:Value}{t:zQ}{kv:List Value}(h:ki w B nv iv t kv)(hB:B'<=B):ki w B' nv iv t kv:=by
 refine⟨⟨h.n.1,h.n.2.imp id ?_⟩,h.l,h.k,⟨h.i.1,h.i.2.imp id ?_⟩,h.d⟩
 ·rintro ⟨g,cap,cur,e1,e2,e3⟩;exact⟨g,cap,cur,e1,pR hB e2,e3⟩
 ·rintro ⟨g,cap,cur,e1,e2,e3⟩;exact⟨g,cap,cur,e1,pR hB e2,e3⟩
def zju(B:Nat):LodeX.Rel:=⟨fun a b=>Below B a b,fun w=>pE _ w,fun h k=>h.trans k,Eq,fun _=>rfl,Eq.trans,fun h=>h▸pE _ _⟩
def zae(B ob:Nat)(T:Nat->zQ)(m:Nat)(w:World)(i:Value)(wr:World):Prop:=∃(j:Nat) (nv iv:Value) (kv:List Value),i=.int .i64 j/\j<=m/\wr.heap[ob]? =some (.cells #[nv,iv] 26 (0,0))/\ki wr B nv iv (T j) kv/\Below B w wr
end
end Go.Proofs.YtcagibbaeageoaaGreatDoor
namespace Lode
theorem Ka(x y:Nd):vZ x=vZ y↔x.kind=y.kind/\x.text=y.text/\x.n=y.n/\x.kids=y.kids:=by
 obtain⟨_,_,_,_,_⟩:=x;obtain⟨_,_,_,_,_⟩:=y;simp[vZ]
def Jg(a b:zQ):Nat:=if zW a≠0 then zW a else zW b
end Lode
namespace Go.Proofs.YtcagibbaeageoaaGreatDoor
section
open Go.RowKit Lode Go.Shelf
attribute [local go_sem ↓] Go.wp_at_zero Go.wp_at_succ
open Go.Proofs.Tryz
theorem zbD(v1 v2:Value)(l m:List Int)(w:World)(h1:Ja w v1 l)(h2:Ja w v2 m)(hl:l.length<=1000000):
 Calls prog 74 #[v1,v2] w (qw w (.bool (decide (l=m)))):=by
 obtain⟨p1,c1,rfl⟩:=h1.form;obtain⟨p2,c2,rfl⟩:=h2.form;by_cases hlen:l.length=m.length
 ·have Hlen:=zi hlen;rw[<-hlen] at h2 ⊢;obtain⟨n,hn⟩:=exE (l.length);rw[hn] at h1 h2 hl ⊢;have H1:=zi h1;have H2:=zi h2;have Hn:=zi hn;clear hlen hn h1 h2;go_enter func74,ntmps74;go_wp2;go_loopw [13] (fun i wr=>∃k:Nat,i=.int .i64 k/\k<=n/\Below w.heap.size w wr/\Hid (∀j,j<k->l[j]? =m[j]?)) (fun i _=>n-(intOf i).toNat)
  case atStart=>exact⟨0,rfl,by omega,pE _ _,zi (fun j hj=>absurd hj (wI _))⟩
  case round=>
   obtain⟨k,rfl,hk,hb,hall⟩:=hrel;by_cases hlt:k<n
   ·have hlt':(k:Int)<(n:Int):=by omega
    have hk0:¬((k:Int)<0):=by omega
    have hy:=pF ((k:Int)+1) (by omega);have hkl:k<l.length:=by rw[Hn.out];exact hlt
    have hkm:k<m.length:=by rw[<-Hlen.out];exact hkl
    obtain⟨g1,o1,rfl,c0⟩:=(H1.out.below hb).at hkl;obtain⟨g2,o2,rfl,d0⟩:=(H2.out.below hb).at hkm;have hx:l[k]? =some (l.getD k 0):=by rw[pB,glE hkl];rfl
    have hy':m[k]? =some (m.getD k 0):=by rw[pB,glE hkm];rfl
    generalize l.getD k 0=x at *;generalize m.getD k 0=y at *;have Hx:=zi hx;have Hy:=zi hy';clear hx hy';by_cases he:x=y
    ·subst he;go_wp2_with fail;go_quiet (fail);go_wp2;go_roundw
     case rel=>
      refine⟨k+1,by go_num,by omega,yc hb nq,zi (fun j hj=>?_)⟩;by_cases e:j=k
      ·subst e;rw[Hx.out,Hy.out]
      ·exact hall.out j (by omega)
     case measure=>simp[intOf];omega
    ·have he':(x != y)=true:=by rw[wV];exact he
     have hd:decide (l=m)=false:=wQ (fun e=>he (by
      have h1:=Hx.out;rw[e,Hy.out] at h1;cases h1;rfl))
     rw[hd];go_wp2_with fail;go_quiet (fail);go_wp2;go_ret;exact⟨rfl,yc hb nq⟩
   ·have hlt':¬((k:Int)<(n:Int)):=by omega
    have hd:decide (l=m)=true:=wZ (List.ext_getElem? (fun j=>by
     by_cases hj:j<n
     ·exact hall.out j (by omega)
     ·rw[wU (by rw[Hn.out];omega),wU (by rw[<-Hlen.out,Hn.out];omega)]))
    rw[hd];go_wp2;go_ret;exact⟨rfl,hb⟩
 ·have hd:decide (l=m)=false:=wQ (fun e=>hlen (by rw[e]));have hne:((l.length:Int) != (m.length:Int))=true:=by rw[wV];omega
  rw[hd];clear h1 h2;generalize l.length=a at *;generalize m.length=b at *;go_enter func74,ntmps74;go_wp2;go_ret;exact⟨rfl,pE _ _⟩
theorem zfj(x y:Nd)(u v:Value)(w:World)(hu:Ja w u x.kids)(hv:Ja w v y.kids)(hl:x.kids.length<=1000000):
 Calls prog 73 #[xW x u,xW y v] w (qw w (.bool (decide (vZ x=vZ y)))):=by
 obtain⟨p1,q1,rfl⟩:=hu.form;obtain⟨p2,q2,rfl⟩:=hv.form;have hI:=zi (fun W (hW:Below w.heap.size w W)=>zbD _ _ _ _ W (hu.below hW) (hv.below hW) hl);rw[show decide (vZ x=vZ y)=decide (x.kind=y.kind/\x.text=y.text/\x.n=y.n/\x.kids=y.kids) from by simp only[Ka]];obtain⟨k1,t1,n1,ks1,a1⟩:=x;obtain⟨k2,t2,n2,ks2,a2⟩:=y;unfold xW;simp only at hI ⊢;clear hu hv hl;generalize ks1.length=m1 at *;generalize ks2.length=m2 at *;have h0:=zC [.cells #[.int .u8 k1,.string ⟨t1.toArray⟩,.int .i64 n1,.slice p1 m1 q1,.int .i64 a1] 60 (0,0),.cells #[.int .u8 k2,.string ⟨t2.toArray⟩,.int .i64 n2,.slice p2 m2 q2,.int .i64 a2] 60 (0,0)] w;have hAl:Below w.heap.size w _:=zK [.cells #[.int .u8 k1,.string ⟨t1.toArray⟩,.int .i64 n1,.slice p1 m1 q1,.int .i64 a1] 60 (0,0),.cells #[.int .u8 k2,.string ⟨t2.toArray⟩,.int .i64 n2,.slice p2 m2 q2,.int .i64 a2] 60 (0,0)] w;simp only[List.foldl_cons,List.foldl_nil] at hAl h0;have r0:=h0 0 _ rfl;rw[Nat.add_zero] at r0;have r1:=h0 1 _ rfl;have c0:=zd r0 0;have c1:=zd r0 1;have c2:=zd r0 2;have c3:=zd r0 3;have d0:=zd r1 0;have d1:=zd r1 1;have d2:=zd r1 2;have d3:=zd r1 3;have HAl:=zi hAl;clear h0 hAl r0 r1;go_enter func73,ntmps73;by_cases hk:k1=k2
 ·subst hk;by_cases ht:t1=t2
  ·subst ht;by_cases hn:n1=n2
   ·subst hn;rw[show decide (k1=k1/\t1=t1/\n1=n1/\ks1=ks2)=decide (ks1=ks2) from by simp];generalize decide (ks1=ks2)=b at *;go_wp2_with (go_at_call 74;refine (hI.out _ HAl.out).mono ?_;rintro e w1 ⟨rfl,hb1⟩);go_ret;exact⟨rfl,zf HAl.out hb1⟩
   ·have hd:(n1 == n2)=false:=bfE hn
    rw[show decide (k1=k1/\t1=t1/\n1=n2/\ks1=ks2)=false from by simp[hn]];replace hn:=zi hn;go_wp2_with (go_at_call 74;refine (hI.out _ HAl.out).mono ?_;rintro e w1 ⟨rfl,hb1⟩);go_ret;exact⟨rfl,HAl.out⟩
  ·rw[show decide (k1=k1/\t1=t2/\n1=n2/\ks1=ks2)=false from by simp[ht]];have Ht:=zi ht;go_wp2_with (go_at_call 74;refine (hI.out _ HAl.out).mono ?_;rintro e w1 ⟨rfl,hb1⟩);go_ret;exact⟨rfl,HAl.out⟩
 ·have hd:((k1:Int) == (k2:Int))=false:=bfE (by omega)
  rw[show decide (k1=k2/\t1=t2/\n1=n2/\ks1=ks2)=false from by simp[hk]];replace hk:=zi hk;go_wp2_with (go_at_call 74;refine (hI.out _ HAl.out).mono ?_;rintro e w1 ⟨rfl,hb1⟩);go_ret;exact⟨rfl,HAl.out⟩
theorem zhv(v1 v2:Value)(l m:List Nd)(w:World)(h1:NSo w v1 l)(h2:NSo w v2 m)(hl:l.length<=1000000)(hk:∀x∈l,x.kids.length<=1000000):
 Calls prog 75 #[v1,v2,.func (.func 73) #[] #[]] w (qw w (.bool (decide (l.map vZ=m.map vZ)))):=by
 obtain⟨p1,c1,rfl⟩:=h1.form;obtain⟨p2,c2,rfl⟩:=h2.form;by_cases hlen:l.length=m.length
 ·have Hlen:=zi hlen;rw[<-hlen] at h2 ⊢;obtain⟨n,hn⟩:=exE (l.length);rw[hn] at h1 h2 hl ⊢;have H1:=zi h1;have H2:=zi h2;have Hn:=zi hn;have HK:=zi hk;have heg:=zi (enters_of (P:=prog) func73 (by kernel_rfl) rfl);clear hlen hn h1 h2 hk;go_enter func75,ntmps75;go_wp2;go_loopw [17] (fun i wr=>∃k:Nat,i=.int .i64 k/\k<=n/\Below w.heap.size w wr/\Hid (∀(j:Nat) (x y:Nd),j<k->l[j]? =some x->m[j]? =some y->vZ x=vZ y)) (fun i _=>n-(intOf i).toNat)
  case atStart=>exact⟨0,rfl,by omega,pE _ _,zi (fun j x y hj=>absurd hj (wI _))⟩
  case round=>
   obtain⟨k,rfl,hkn,hb,hall⟩:=hrel;by_cases hlt:k<n
   ·have hlt':(k:Int)<(n:Int):=by omega
    have hk0:¬((k:Int)<0):=by omega
    have hy:=pF ((k:Int)+1) (by omega);obtain⟨x,hx⟩:∃x,l[k]? =some x:=⟨_,glE (by rw[Hn.out];exact hlt)⟩;obtain⟨y,hy'⟩:∃y,m[k]? =some y:=⟨_,glE (by rw[<-Hlen.out,Hn.out];exact hlt)⟩;obtain⟨g1,o1,u1,rfl,N1⟩:=(H1.out.below hb).at hx;obtain⟨g2,o2,u2,rfl,N2⟩:=(H2.out.below hb).at hy';have hC:=zi (fun W (hW:Below wr.heap.size wr W)=>zfj x y u1 u2 W (N1.kids.below hW) (N2.kids.below hW) (HK.out x (pW hx)));have heg':=fun W=>heg.out (#[xW x u1,xW y u2]) W
    obtain⟨up1,q1,rfl⟩:=N1.kids.form;obtain⟨up2,q2,rfl⟩:=N2.kids.form;obtain⟨a0,a1,a2,a3,a4,_⟩:=N1;obtain⟨e0,e1,e2,e3,e4,_⟩:=N2;have HX:=zi (And.intro hx hy');obtain⟨b,hbq⟩:=exE (decide (vZ x=vZ y));rw[hbq] at hC;replace hbq:=zi hbq;clear hx hy';unfold xW at hC heg';obtain⟨k1,t1,n1,ks1,at1⟩:=x;obtain⟨k2,t2,n2,ks2,at2⟩:=y;simp only at a0 a1 a2 a3 a4 e0 e1 e2 e3 e4 hC heg';generalize ks1.length=m1 at *;generalize ks2.length=m2 at *;have hA1:=zg wr (.cells #[.int .u8 k1,.string ⟨t1.toArray⟩,.int .i64 n1,.slice up1 m1 q1,.int .i64 at1] 60 (0,0));have E0:=zj hA1 e0;have E1:=zj hA1 e1;have E2:=zj hA1 e2;have E3:=zj hA1 e3;have E4:=zj hA1 e4;have h0:=zC [.cells #[.int .u8 k1,.string ⟨t1.toArray⟩,.int .i64 n1,.slice up1 m1 q1,.int .i64 at1] 60 (0,0),.cells #[.int .u8 k2,.string ⟨t2.toArray⟩,.int .i64 n2,.slice up2 m2 q2,.int .i64 at2] 60 (0,0)] wr;have hAl:Below wr.heap.size wr _:=zK [.cells #[.int .u8 k1,.string ⟨t1.toArray⟩,.int .i64 n1,.slice up1 m1 q1,.int .i64 at1] 60 (0,0),.cells #[.int .u8 k2,.string ⟨t2.toArray⟩,.int .i64 n2,.slice up2 m2 q2,.int .i64 at2] 60 (0,0)] wr;simp only[List.foldl_cons,List.foldl_nil] at hAl h0;have r0:=h0 0 _ rfl;rw[Nat.add_zero] at r0;have r1:=h0 1 _ rfl;have z0:=zd r0 0;have z1:=zd r0 1;have z2:=zd r0 2;have z3:=zd r0 3;have z4:=zd r0 4;have y0:=zd r1 0;have y1:=zd r1 1;have y2:=zd r1 2;have y3:=zd r1 3;have y4:=zd r1 4;have HAl:=zi hAl;clear h0 hAl r0 r1 hA1 e0 e1 e2 e3 e4;go_wp2_with fail;refine (hC.out _ HAl.out).mono ?_;rintro e w1 ⟨rfl,hb1⟩;have hbw:=zf hb (zf HAl.out hb1);cases b with
    |true=>
     go_wp2;go_roundw
     case rel=>exact⟨k+1,by go_num,by omega,hbw,zi (fun j xx yy hj hxx hyy=>by
      by_cases e:j=k
      ·rw[e] at hxx hyy;rw[HX.out.1] at hxx;rw[HX.out.2] at hyy;cases hxx;cases hyy;exact of_decide_eq_true hbq.out
      ·exact hall.out j xx yy (by omega) hxx hyy)⟩
     case measure=>simp[intOf];omega
    |false=>
     have hd:decide (l.map vZ=m.map vZ)=false:=wQ (fun h=>by
      have h2:=congrArg (·[k]?) h;simp only[wE,HX.out.1,HX.out.2,Option.map_some,wP] at h2;exact of_decide_eq_false hbq.out h2)
     replace hd:=zi hd;go_wp2;go_ret;exact⟨by rw[hd.out];rfl,hbw⟩
   ·have hlt':¬((k:Int)<(n:Int)):=by omega
    have hd:decide (l.map vZ=m.map vZ)=true:=wZ (List.ext_getElem? (fun j=>by
     rw[wE,wE];by_cases hj:j<n
     ·have hx:=glE (show j<l.length by rw[Hn.out];exact hj);have hy:=glE (show j<m.length by rw[<-Hlen.out,Hn.out];exact hj);rw[hx,hy];exact congrArg some (hall.out j _ _ (by omega) hx hy)
     ·rw[wU (by rw[Hn.out];omega),wU (by rw[<-Hlen.out,Hn.out];omega)]))
    rw[hd];go_wp2;go_ret;exact⟨rfl,hb⟩
 ·have hd:decide (l.map vZ=m.map vZ)=false:=wQ (fun e=>hlen (by simpa using congrArg List.length e));have hne:((l.length:Int) != (m.length:Int))=true:=by rw[wV];omega
  rw[hd];clear h1 h2 hk;generalize l.length=a at *;generalize m.length=b at *;go_enter func75,ntmps75;go_wp2;go_ret;exact⟨rfl,pE _ _⟩
theorem KG(a b:zQ)(nv iv nv2 iv2:Value)(p:Nat)(w:World)(hp:w.heap[p]? =some (.cells #[nv,iv,nv2,iv2] 26 (0,0)))(ha:TR w nv iv a)(hb:TR w nv2 iv2 b)(hG:qL w)(oka:uh a)(okb:uh b):
 Calls prog 72 #[.slice (some ⟨p,0,none⟩) 2 2] w (qw w (.int .i64 (Jg a b:Nat))):=by
 have hA:=zi (fun W (hW:Below w.heap.size w W)=>vQ a nv iv W (ha.below hW) (hG.later hW) oka);have hB:=zi (fun W (hW:Below w.heap.size w W)=>vQ b nv2 iv2 W (hb.below hW) (hG.later hW) okb);obtain⟨np,nc,ip,ic,rfl,rfl⟩:=ha.form;obtain⟨np2,nc2,ip2,ic2,rfl,rfl⟩:=hb.form;unfold Jg;generalize zW a=ca at *;generalize zW b=cb at *;generalize a.nodes.length=n1 at *;generalize a.items.length=m1 at *;generalize b.nodes.length=n2 at *;generalize b.items.length=m2 at *;have HP:=zi hp;clear hp ha hb hG;obtain⟨R,hR⟩:=exE ((if ca≠0 then ca else cb));rw[hR];have HR:=zi hR;clear hR;go_enter func72,ntmps72;go_wp2;go_loopw [8] (fun i wr=>∃k:Nat,i=.int .i64 k/\k<=2/\Below w.heap.size w wr/\Hid (0<k->ca=0)/\Hid (1<k->cb=0)) (fun i _=>2-(intOf i).toNat)
 case atStart=>exact⟨0,rfl,by omega,pE _ _,zi (by omega),zi (by omega)⟩
 case round=>
  obtain⟨k,rfl,hk,hbw,h1,h2⟩:=hrel;have hPr:=zh hbw HP.out;have c0:=zd hPr 0;have c1:=zd hPr 1;have c2:=zd hPr 2;have c3:=zd hPr 3;clear hPr;obtain rfl|rfl|rfl:k=0\/k=1\/k=2:=by omega
  ·have hA1:=zg wr (.cells #[.slice np n1 nc,.slice ip m1 ic] 26 (0,0));have hz:=zl wr (.cells #[.slice np n1 nc,.slice ip m1 ic] 26 (0,0));have z0:=zd hz 0;have z1:=zd hz 1;have HA1:=zi hA1;clear hz hA1;go_wp2_with fail;refine (hA.out _ (zf hbw HA1.out)).mono ?_;rintro e w1 ⟨rfl,hb1⟩;have hbe:=zf hbw (zf HA1.out hb1);by_cases hc:ca=0
   ·subst hc;go_wp2;go_roundw
    case rel=>exact⟨1,by go_num,by omega,hbe,zi (by first|trivial|omega|simp),zi (by first|trivial|omega|simp)⟩
    case measure=>simp[intOf]
   ·have hc':((ca:Int) != 0)=true:=by rw[wV];omega
    have hq:=HR.out;rw[if_pos hc] at hq;subst hq;go_wp2;go_ret;exact⟨rfl,hbe⟩
  ·have hA1:=zg wr (.cells #[.slice np2 n2 nc2,.slice ip2 m2 ic2] 26 (0,0));have hz:=zl wr (.cells #[.slice np2 n2 nc2,.slice ip2 m2 ic2] 26 (0,0));have z0:=zd hz 0;have z1:=zd hz 1;have HA1:=zi hA1;clear hz hA1;go_wp2_with fail;refine (hB.out _ (zf hbw HA1.out)).mono ?_;rintro e w1 ⟨rfl,hb1⟩;have hbe:=zf hbw (zf HA1.out hb1);by_cases hc:cb=0
   ·subst hc;go_wp2;go_roundw
    case rel=>exact⟨2,by go_num,by omega,hbe,zi (by first|trivial|exact fun _=>h1.out (by omega)),zi (by first|trivial|omega|simp)⟩
    case measure=>simp[intOf]
   ·have hc':((cb:Int) != 0)=true:=by rw[wV];omega
    have hq:=HR.out;rw[h1.out (by omega),if_neg (by simp)] at hq;subst hq;go_wp2;go_ret;exact⟨rfl,hbe⟩
  ·have hq:=HR.out;rw[h1.out (by omega),h2.out (by omega),if_neg (by simp)] at hq;subst hq;go_wp2;go_ret;exact⟨rfl,hbw⟩
def RdB(w:World)(r:Bool×Nat)(e:Ending)(w':World):Prop:=e=.returned (.tuple #[.bool r.1,.int .i64 (r.2:Nat)])/\Below w.heap.size w w'
theorem za3(a b:zQ):Jg a b≠0/\YS a b=(false,Jg a b)\/Jg a b=0/\YS a b=(QG a b,0):=by
 unfold Jg YS;by_cases h:zW a=0
 ·rw[h,if_neg (by simp),if_neg (by simp)];by_cases h2:zW b=0
  ·rw[h2];right;simp
  ·left;simp[h2]
 ·left;simp[h]
theorem zgb(a b:zQ)(nv iv nv2 iv2:Value)(w:World)(ha:TR w nv iv a)(hb:TR w nv2 iv2 b)(hG:qL w)(oka:uh a)(okb:uh b):
 Calls prog 35 #[.agg #[nv,iv],.agg #[nv2,iv2]] w (RdB w (YS a b)):=by
 have hCk:=zi (fun (p:Nat) W (hW:Below w.heap.size w W) (hp:W.heap[p]? =some (.cells #[nv,iv,nv2,iv2] 26 (0,0)))=>KG a b nv iv nv2 iv2 p W hp (ha.below hW) (hb.below hW) (hG.later hW) oka okb);have hIt:=zi (fun W (hW:Below w.heap.size w W)=>zbD iv iv2 a.items b.items W (ha.o.items.below hW) (hb.o.items.below hW) (by have:=oka.items;omega));have hNo:=zi (fun W (hW:Below w.heap.size w W)=>zhv nv nv2 a.nodes b.nodes W (ha.o.nodes.below hW) (hb.o.nodes.below hW) (by have:=oka.nodes;omega) (fun x hx=>by have:=oka.kids x hx;omega));have hcs:=za3 a b;unfold QG at hcs;obtain⟨np,nc,ip,ic,rfl,rfl⟩:=ha.form;obtain⟨np2,nc2,ip2,ic2,rfl,rfl⟩:=hb.form;generalize YS a b=r at *;generalize Jg a b=er at *;generalize decide (a.items=b.items)=q1 at *;generalize decide (a.nodes.map vZ=b.nodes.map vZ)=q2 at *;generalize a.nodes.length=n1 at *;generalize a.items.length=m1 at *;generalize b.nodes.length=n2 at *;generalize b.items.length=m2 at *;have h0:=zC [.cells #[.slice np n1 nc,.slice ip m1 ic] 26 (0,0),.cells #[.slice np2 n2 nc2,.slice ip2 m2 ic2] 26 (0,0),.cells #[.slice np n1 nc,.slice ip m1 ic,.slice np2 n2 nc2,.slice ip2 m2 ic2] 26 (0,0)] w;have hAl:Below w.heap.size w _:=zK [.cells #[.slice np n1 nc,.slice ip m1 ic] 26 (0,0),.cells #[.slice np2 n2 nc2,.slice ip2 m2 ic2] 26 (0,0),.cells #[.slice np n1 nc,.slice ip m1 ic,.slice np2 n2 nc2,.slice ip2 m2 ic2] 26 (0,0)] w;have h00:=zC [.cells #[.slice np n1 nc,.slice ip m1 ic] 26 (0,0),.cells #[.slice np2 n2 nc2,.slice ip2 m2 ic2] 26 (0,0)] w;simp only[List.foldl_cons,List.foldl_nil] at hAl h0 h00;have s0:=h00 0 _ rfl;have s1:=h00 1 _ rfl;have r0:=h0 0 _ rfl;rw[Nat.add_zero] at r0 s0;have r1:=h0 1 _ rfl;have r2:=h0 2 _ rfl;have c0:=zd s0 0;have c1:=zd s0 1;have d0:=zd s1 0;have d1:=zd s1 1;have R0:=zi r0;have R1:=zi r1;have R2:=zi r2;have HAl:=zi hAl;clear h0 h00 hAl r0 r1 r2 s0 s1 ha hb hG;go_enter func35,ntmps35;go_wp2_with fail;refine (hCk.out _ _ HAl.out R2.out).mono ?_;rintro e w1 ⟨rfl,hb1⟩;have hbe:=zf HAl.out hb1;have v0:=zh hb1 R0.out;have v1:=zh hb1 R1.out;have z0:=zd v0 0;have z1:=zd v0 1;have y0:=zd v1 0;have y1:=zd v1 1;clear v0 v1 c0 c1 d0 d1;rcases hcs with⟨he,rfl⟩|⟨he,rfl⟩
 ·have he':((er:Int) != 0)=true:=by rw[wV];omega
  go_wp2;go_ret2;exact⟨rfl,hbe⟩
 ·subst he;have hI2:=zi (hIt.out w1 hbe);cases q1 with
  |false=>
   go_wp2_with fail;refine hI2.out.mono ?_;rintro e w2 ⟨rfl,hb2⟩;go_wp2;go_ret2;exact⟨rfl,zf hbe hb2⟩
  |true=>
   go_wp2_with fail;refine hI2.out.mono ?_;rintro e w2 ⟨rfl,hb2⟩;have hbe2:=zf hbe hb2;have hN2:=zi (hNo.out w2 hbe2);have z0:=zj hb2 z0;have y0:=zj hb2 y0;go_wp2_with fail;refine hN2.out.mono ?_;rintro e w3 ⟨rfl,hb3⟩;go_wp2;go_ret2;exact⟨rfl,zf hbe2 hb3⟩
end
end Go.Proofs.YtcagibbaeageoaaGreatDoor
namespace LodeX
section
open Go Go.RowKit Go.Sort Lode
section
variable {P:Program} {ops:Array Oper} {Q:Act→World→Prop}
def zfI(listed:Array Bool)(fl:List Nat):Array Bool:=fl.foldl (fun l j=>l.setIfInBounds j true) listed
def Kf(ops:Array Oper)(fl:List Nat):List (Nat×Nat)->Array Bool->Bool
 |[],_=>true
 |(i,f) :: r,listed=>((Region.ready .any ops listed).contains i && (if f<=1 then Region.free .any ops listed i else (Region.ready .any ops (zfI listed fl)).all (fun k=>k == i || fl.contains k))) && Kf ops fl r (listed.setIfInBounds i true)
def QF(P:Program)(ops:Array Oper)(Q:Act->World->Prop)(suf:List (Nat×Nat))(Z:Nat->Obj)(dst:Nat->Option Tmp)(N:Nat):List Nat->List Nat->Act->World->Prop
 |[],_,a,w=>∀w',Cl w w'->Ji NX P ops Q suf a w'
 |j :: fl,D,a,w=>∀w' s,Cl w w'->w'.heap[s]? =some (Z j)->N<=s->s∉D->QF P ops Q suf Z dst N fl (s :: D) (a.put (dst j) (.pointer (some ⟨s,0,none⟩))) w'
variable {suf:List (Nat×Nat)} {Z:Nat→Obj} {dst:Nat→Option Tmp} {N:Nat}
theorem zeV:∀{fl D D':List Nat} {a:Act} {w:World},QF P ops Q suf Z dst N fl D a w->(∀x,x∈D->x∈D')->QF P ops Q suf Z dst N fl D' a w
 |[],_,_,_,_,h,_=>h
 |_ :: _,_,_,_,_,h,hD=>fun v s hv hz hN hs=>zeV (h v s hv hz hN (fun e=>hs (hD s e))) (fun x hx=>by
  rcases wF.1 hx with hx|hx
  ·exact hx▸List.mem_cons_self ..
  ·exact pY _ (hD x hx))
theorem zeU{j s:Nat}{fl2:List Nat}:∀{fl1 D:List Nat} {a:Act} {w:World},QF P ops Q suf Z dst N (fl1 ++ j :: fl2) D a w->w.heap[s]? =some (Z j)->N<=s->s∉D->(∀i∈fl1,∀d,dst i=some d->dst j≠some d)->QF P ops Q suf Z dst N (fl1 ++ fl2) (s :: D) (a.put (dst j) (.pointer (some ⟨s,0,none⟩))) w
 |[],_,_,w,h,hz,hN,hs,_=>h w s (Cl.refl w) hz hN hs
 |i :: fl1,D,a,w,h,hz,hN,hs,hd=>fun w' t hw ht hNt hn=>by
  have h1:=h w' t hw ht hNt (fun e=>hn (pY _ e));have h2:=zeU (fl1:=fl1) h1 ((hw.below.block s (gtA hz)).trans hz) hN (fun e=>by
   rcases wF.1 e with e|e
   ·exact hn (e▸List.mem_cons_self ..)
   ·exact hs e) (fun i hi=>hd i (pY _ hi))
  rw[Act.put_comm a _ _ (hd i (List.mem_cons_self ..))] at h2;exact zeV h2 (fun x hx=>by
   simp only[wF] at hx ⊢;rcases hx with hx|hx|hx <;> simp[hx])
theorem zbh{Xp:List PanicEntry->World->Prop}{c:List PanicEntry}{a:Act}{d:Option Tmp}{v:Value}{w:World}(h:xOf Xp (.panic c) a w):xOf Xp (.panic c) (a.put d v) w:=by
 cases d <;> exact h
theorem zbp{Xp:List PanicEntry->World->Prop}{o:Oper}{a:Act}{d:Option Tmp}{v:Value}{next next':Act->World->Prop}{r:Result Next}(hne:∀x,d=some x->o.dst≠some x)
 (h:∀(a':Act) w',next a' w'->next' (a'.put d v) w') (hh:o.upon P a next (xOf Xp) r):o.upon P (a.put d v) next' (xOf Xp) r:=by
 have e:∀(b:Act) u,((b.put d v).put o.dst u)=(b.put o.dst u).put d v:=fun b u=>Act.put_comm b v u hne
 cases r with
 |ok n w=>
  cases n <;> simp only[Oper.upon] at hh ⊢
  case value u=>rw[e];exact h _ _ hh
  case skip=>rw[e];exact h _ _ hh
  case defer dd=>
   have e2:({a.put d v with defers:=dd :: (a.put d v).defers}:Act).put o.dst undef=({a with defers:=dd :: a.defers}.put o.dst undef).put d v:=by
    rw[<-e];cases d <;> rfl
   rw[e2];exact h _ _ hh
  case enter f args=>
   refine hh.mono fun e1 w1 h1=>?_
   cases e1 with
   |returned u=>
    show next' _ _
    rw[e];exact h _ _ h1
   |panicked c=>exact zbh h1
   |outgrown=>exact h1
  case row row args=>exact hh.mono fun u w1 h1=>by rw[e];exact h _ _ h1
 |halt x w=>
  cases x <;> simp only[Oper.upon] at hh ⊢
  all_goals exact zbh hh
theorem zhq(hs:Region.noSelect ops=true){j s:Nat}{oj:Oper}(hoj:ops[j]? =some oj)(hdj:dst j=oj.dst){fl1 fl2 D:List Nat}(hd:∀i∈fl1,∀d,dst i=some d->dst j≠some d)(hNs:N<=s)(hsD:s∉D):∀(pre:List (Nat×Nat)) (b b1:World) (a:Act),(∀x∈pre,x.2<=2/\∃oi,ops[x.1]? =some oi/\oi.apart ops oj=true)->jh RC NX P ops (QF P ops Q suf Z dst N (fl1 ++ j :: fl2) D) pre b a->Cl b b1->b1.heap[s]? =some (Z j)->jh RC NX P ops (QF P ops Q suf Z dst N (fl1 ++ fl2) (s :: D)) pre b1 (a.put oj.dst (.pointer (some ⟨s,0,none⟩)))
 |[],b,b1,a,_,h,hb,hz=>fun w hw=>by
  have:=zeU (h w (Cl.trans hb hw)) ((Cl.below hw).block s (gtA hz) |>.trans hz) hNs hsD hd
  rwa [hdj] at this
 |(i,f) :: r,b,b1,a,hx,h,hb,hz=>by
  obtain⟨hf,oi,hoi,hap⟩:=hx (i,f) (List.mem_cons_self ..);have A:=KK hs hoi hoj hap;have ih:=fun b b1 a=>zhq (fl1:=fl1) (fl2:=fl2) hs hoj hdj hd hNs hsD r b b1 a (fun x hx'=>hx x (pY _ hx'))
  simp only at hf
  match f,hf with
  |0,_=>
   obtain⟨v,hy,h'⟩:=ZH hoi h;exact jP hoi (hy.same (A.ei a _) (A.wi a _)) (by rw[<-Act.put_comm a v _ A.hd];exact ih _ _ _ h' hb hz)
  |1,_=>
   obtain⟨v,hy,h'⟩:=JZ hoi h;exact ZB hoi ((hy.grown hb).same (A.ei a _) (A.wi a _)) (by rw[<-Act.put_comm a v _ A.hd];exact ih _ _ _ h' hb hz)
  |2,_=>
   unfold jh at h ⊢;simp only[jQ,hoi] at h ⊢;rw[A.wi a];by_cases hw:Region.wanted oi (yielded ops a.tmps)=true
   ·rw[if_pos hw] at h ⊢;intro w hw';have h1:=h w (Cl.trans hb hw');unfold Oper.wp at *;rw[A.ei a];refine zbp (fun x e e2=>A.hd x e2 e) (fun a' w' hc=>⟨hc.1,ih _ _ _ hc.2 (Cl.refl _) ?_⟩) h1;have hcl:Cl b1 w':=Cl.trans hw' hc.1;exact (hcl.below.block s (gtA hz)).trans hz
   ·rw[if_neg hw] at h ⊢;rw[<-Act.put_comm a undef _ A.hd];exact ih _ _ _ h hb hz
theorem Ki{j:Nat}:∀(fl:List Nat) (listed:Array Bool),j∈Region.ready .any ops listed->j∉fl->j∈Region.ready .any ops (zfI listed fl)
 |[],_,h,_=>h
 |i :: fl,listed,h,hn=>Ki fl (listed.setIfInBounds i true) (ready_mono h (fun e=>hn (e▸List.mem_cons_self ..))) (fun e=>hn (pY _ e))
theorem zca{j:Nat}:∀(fl:List Nat) (listed:Array Bool),j∈fl->zfI (listed.setIfInBounds j true) fl=zfI listed fl
 |i :: fl,listed,h=>by
  unfold zfI;simp only[List.foldl_cons];rcases wF.1 h with rfl|h
  ·rw[Array.setIfInBounds_setIfInBounds]
  ·have:=zca fl (listed.setIfInBounds i true) h;unfold zfI at this;by_cases e:i=j
   ·subst e;rw[Array.setIfInBounds_setIfInBounds]
   ·rw[<-Array.setIfInBounds_comm _ _ e,this]
theorem Xw{fl0:List Nat}{j f:Nat}{l2:List (Nat×Nat)}:∀(l1:List (Nat×Nat)) (listed:Array Bool),Kf ops fl0 (l1 ++ (j,f) :: l2) listed=true->j∈Region.ready .any ops listed->j∉fl0->(∀x,x∈l1->x.1≠j)->
 Kf ops fl0 (l1 ++ l2) (listed.setIfInBounds j true)=true/\∀x,x∈l1->x.2<=1/\∃oi oj,ops[x.1]? =some oi/\ops[j]? =some oj/\oi.apart ops oj=true
 |[],listed,h,hj,_,_=>by
  refine⟨?_,fun x hx=>absurd hx (wN)⟩;simp only[wW,Kf,pJ] at h ⊢;exact h.2
 |(i,g) :: l1,listed,h,hj,hjf,hne=>by
  have hij:i≠j:=hne (i,g) (by simp);simp only[wJ,Kf,pJ] at h ⊢;obtain⟨⟨hc,hi⟩,hr⟩:=h;have hi':i∈Region.ready .any ops listed:=by simpa using hc
  by_cases hg:g<=1
  ·rw[if_pos hg] at hi ⊢;obtain⟨h1,h2⟩:=Xw l1 (listed.setIfInBounds i true) hr (ready_mono hj hij.symm) hjf (fun x hx=>hne x (by simp[hx]));refine⟨⟨⟨by simpa using ready_mono hi' hij,Qp hi⟩,by rw[<-Array.setIfInBounds_comm _ _ hij];exact h1⟩,fun x hx=>?_⟩;rcases wF.1 hx with rfl|hx
   ·obtain⟨_,oi,hoi,_⟩:=mem_ready.1 hi';obtain⟨hju,oj,hoj,hall⟩:=mem_ready.1 hj;refine⟨hg,oi,oj,hoi,hoj,Region.free_spec hoi hi j oj hoj (Ne.symm hij) hju fun e he hb hon=>?_⟩;have h3:=hall e he hb;have h4:=(mem_ready.1 hi').1;rw[hon] at h3;rw[YP h4] at h3;cases h3
   ·exact h2 x hx
  ·rw[if_neg hg,pV] at hi;have:=hi j (Ki fl0 listed hj hjf);simp only[wL,wC,List.contains_iff_mem] at this;rcases this with e|e
   ·exact absurd e.symm hij
   ·exact absurd e hjf
theorem Ke{fl0:List Nat}{j:Nat}(hjf:j∈fl0):∀(pre:List (Nat×Nat)) (listed:Array Bool),Kf ops fl0 pre listed=true->(∀x,x∈pre->x.1∉fl0)->Kf ops fl0 pre (listed.setIfInBounds j true)=true
 |[],_,_,_=>rfl
 |(i,g) :: r,listed,h,hne=>by
  have hij:i≠j:=fun e=>hne (i,g) (List.mem_cons_self ..) (e▸hjf)
  simp only[Kf,pJ] at h ⊢;obtain⟨⟨hc,hi⟩,hr⟩:=h;have hi':i∈Region.ready .any ops listed:=by simpa using hc
  refine⟨⟨by simpa using ready_mono hi' hij,?_⟩,by rw[<-Array.setIfInBounds_comm _ _ hij];exact Ke hjf r _ hr (fun x hx=>hne x (pY _ hx))⟩;by_cases hg:g<=1
  ·rw[if_pos hg] at hi ⊢;exact Qp hi
  ·rw[if_neg hg] at hi ⊢;rw[zca fl0 listed hjf];exact hi
def zfT(ops:Array Oper)(suf:List (Nat×Nat)):Array Bool:=(Array.range ops.size).map fun i=> !(suf.any fun x=>x.1 == i)
structure Ve(ops:Array Oper)(fl0:List Nat)(suf pre:List (Nat×Nat))(fl:List Nat)(listed:Array Bool):Prop where
 ok:Kf ops fl0 pre listed=true
 nd:(pre.map Prod.fst).Nodup
 un:∀x,x∈pre->listed.getD x.1 true=false/\x.2<=2/\x.1∉fl0
 fn:fl.Nodup
 fu:∀j,j∈fl->j∈fl0/\j∈Region.ready .any ops listed
 cov:∀i,i<ops.size->listed.getD i true=false->(∃f,(i,f)∈pre)\/i∈fl\/∃f,(i,f)∈suf
 su:∀x,x∈suf->listed.getD x.1 true=false/\x.1∉fl/\∀y,y∈pre->y.1≠x.1
 sw:∀t,t∈suf->(∀x,x∈pre->vu .any ops 12 t.1 x.1=true)/\∀j,j∈fl->vu .any ops 12 t.1 j=true
 ap:∀x,x∈pre->∀j,j∈fl0->∃oi oj,ops[x.1]? =some oi/\ops[j]? =some oj/\oi.apart ops oj=true
 cl:uG .any ops listed
 sz:listed.size=ops.size
theorem Ve.pre{fl0:List Nat}{l1 l2:List (Nat×Nat)}{fl:List Nat}{listed:Array Bool}{j f:Nat}(I:Ve ops fl0 suf (l1 ++ (j,f) :: l2) fl listed)(hj:j∈Region.ready .any ops listed):Ve ops fl0 suf (l1 ++ l2) fl (listed.setIfInBounds j true)/\∀x,x∈l1->(x.2<=1/\(3<=f->x.2=0))/\∃oi oj,ops[x.1]? =some oi/\ops[j]? =some oj/\oi.apart ops oj=true:=by
 have hjm:(j,f)∈l1 ++ (j,f) :: l2:=pP.2 (.inr (List.mem_cons_self ..));obtain⟨hju,hf2,hjf⟩:=I.un _ hjm;have nd:=I.nd;rw[List.map_append,List.map_cons,List.nodup_append] at nd;obtain⟨nd1,nd2,nd3⟩:=nd;rw[List.nodup_cons] at nd2;have hne1:∀x,x∈l1->x.1≠j:=fun x hx=>nd3 _ (List.mem_map_of_mem hx) _ (by simp)
 have hne2:∀x,x∈l2->x.1≠j:=fun x hx e=>nd2.1 (by rw[<-e];exact List.mem_map.2 ⟨x,hx,rfl⟩)
 have hne:∀x,x∈l1 ++ l2->x.1≠j:=fun x hx=>(pP.1 hx).elim (hne1 x) (hne2 x)
 have sub:∀x,x∈l1 ++ l2->x∈l1 ++ (j,f) :: l2:=fun x hx=>by
  rcases pP.1 hx with hx|hx
  ·exact pP.2 (.inl hx)
  ·exact pP.2 (.inr (pY _ hx))
 obtain⟨m1,m2⟩:=Xw l1 listed I.ok hj hjf hne1;refine⟨⟨m1,?_,?_,I.fn,?_,?_,?_,?_,?_,I.cl.set hj,?_⟩,fun x hx=>⟨⟨(m2 x hx).1,fun h3=>?_⟩,(m2 x hx).2⟩⟩
 ·rw[List.map_append,List.nodup_append];exact⟨nd1,nd2.2,fun a ha b hb=>nd3 a ha b (pY _ hb)⟩
 ·exact fun x hx=>⟨by rw[getD_set_ne true (Ne.symm (hne x hx))];exact (I.un x (sub x hx)).1,(I.un x (sub x hx)).2⟩
 ·exact fun k hk=>⟨(I.fu k hk).1,ready_mono (I.fu k hk).2 (fun e=>hjf (e▸(I.fu k hk).1))⟩
 ·intro i hi hu;have hij:j≠i:=fun e=>by subst e;rw[js] at hu;cases hu
  rw[getD_set_ne true hij] at hu;refine (I.cov i hi hu).imp (fun ⟨g,hg⟩=>⟨g,?_⟩) id;rcases pP.1 hg with hg|hg
  ·exact pP.2 (.inl hg)
  ·rcases wF.1 hg with hg|hg
   ·exact absurd (congrArg Prod.fst hg).symm hij
   ·exact pP.2 (.inr hg)
 ·exact fun x hx=>⟨by rw[getD_set_ne true ((I.su x hx).2.2 _ hjm)];exact (I.su x hx).1,(I.su x hx).2.1,fun y hy=>(I.su x hx).2.2 y (sub y hy)⟩
 ·exact fun t ht=>⟨fun x hx=>(I.sw t ht).1 x (sub x hx),(I.sw t ht).2⟩
 ·exact fun x hx=>I.ap x (sub x hx)
 ·rw[Array.size_setIfInBounds];exact I.sz
 ·simp only at hf2;omega
theorem Ve.float{fl0:List Nat}{pre:List (Nat×Nat)}{fl1 fl2:List Nat}{listed:Array Bool}{j:Nat}(I:Ve ops fl0 suf pre (fl1 ++ j :: fl2) listed):Ve ops fl0 suf pre (fl1 ++ fl2) (listed.setIfInBounds j true):=by
 have hjm:j∈fl1 ++ j :: fl2:=pP.2 (.inr (List.mem_cons_self ..));obtain⟨hjf,hj⟩:=I.fu j hjm;have nd:=I.fn;rw[List.nodup_append] at nd;obtain⟨nd1,nd2,nd3⟩:=nd;rw[List.nodup_cons] at nd2;have hne:∀x,x∈fl1 ++ fl2->x≠j:=fun x hx=>(pP.1 hx).elim (fun h=>nd3 x h j (List.mem_cons_self ..)) (fun h e=>nd2.1 (e▸h))
 have sub:∀x,x∈fl1 ++ fl2->x∈fl1 ++ j :: fl2:=fun x hx=>by
  rcases pP.1 hx with hx|hx
  ·exact pP.2 (.inl hx)
  ·exact pP.2 (.inr (pY _ hx))
 have hpj:∀x,x∈pre->j≠x.1:=fun x hx e=>(I.un x hx).2.2 (e▸hjf)
 refine⟨Ke hjf pre listed I.ok (fun x hx=>(I.un x hx).2.2),I.nd,?_,?_,?_,?_,?_,?_,I.ap,I.cl.set hj,?_⟩
 ·exact fun x hx=>⟨by rw[getD_set_ne true (hpj x hx)];exact (I.un x hx).1,(I.un x hx).2⟩
 ·rw[List.nodup_append];exact⟨nd1,nd2.2,fun a ha b hb=>nd3 a ha b (pY _ hb)⟩
 ·exact fun k hk=>⟨(I.fu k (sub k hk)).1,ready_mono (I.fu k (sub k hk)).2 (hne k hk)⟩
 ·intro i hi hu;have hij:j≠i:=fun e=>by subst e;rw[js] at hu;cases hu
  rw[getD_set_ne true hij] at hu;rcases I.cov i hi hu with h|h|h
  ·exact .inl h
  ·refine .inr (.inl ?_);rcases pP.1 h with h|h
   ·exact pP.2 (.inl h)
   ·rcases wF.1 h with h|h
    ·exact absurd h.symm hij
    ·exact pP.2 (.inr h)
  ·exact .inr (.inr h)
 ·exact fun x hx=>⟨by rw[getD_set_ne true (fun e=>(I.su x hx).2.1 (by rw[<-e];exact hjm))];exact (I.su x hx).1,fun e=>(I.su x hx).2.1 (sub _ e),(I.su x hx).2.2⟩
 ·exact fun t ht=>⟨(I.sw t ht).1,fun k hk=>(I.sw t ht).2 k (sub k hk)⟩
 ·rw[Array.size_setIfInBounds];exact I.sz
theorem Ve.fin{fl0:List Nat}{listed:Array Bool}(I:Ve ops fl0 suf [] [] listed):listed=zfT ops suf:=by
 apply Array.ext
 ·simp[zfT,I.sz]
 ·intro i h1 h2;have hi:i<ops.size:=by rw[<-I.sz];exact h1
  simp only[zfT,Array.getElem_map,Array.getElem_range];have hg:listed.getD i true=listed[i]:=by simp[h1]
  by_cases hs:∃f,(i,f)∈suf
  ·obtain⟨f,hf⟩:=hs;have h3:=(I.su _ hf).1;simp only at h3;rw[hg] at h3;rw[h3];symm;simp only[Bool.not_eq_false',gC,wC];exact⟨_,hf,rfl⟩
  ·have h3:listed[i]=true:=by
    cases hl:listed[i] with
    |true=>rfl
    |false=>
     exfalso;rcases I.cov i hi (by rw[hg,hl]) with⟨f,h⟩|h|h
     ·cases h
     ·cases h
     ·exact hs h
   rw[h3];symm;simp only[Bool.not_eq_true',List.any_eq_false,wC];intro x hx e;exact hs ⟨x.2,by rw[<-e];exact hx⟩
theorem Jy{i:Nat}{b:World}{K:World->Act->Prop}{KE next':Act->World->Prop}{a:Act}{w:World}(hb:Cl b w)(h:∀a w',(∃b',Cl b b'/\Cl b' w'/\K b' a)->next' a w')(hh:jQ RC NX P ops 2 i b K KE a):wpOp P ops (ug NX Q) i next' a w:=by
 unfold jQ at hh;unfold wpOp;cases ho:ops[i]? with
 |none=>rw[ho] at hh;exact h _ _ ⟨b,Cl.refl b,hb,hh⟩
 |some o=>
  rw[ho] at hh;simp only at hh ⊢;by_cases hw:Region.wanted o (yielded ops a.tmps)=true
  ·rw[if_pos hw] at hh ⊢;exact .inl (XT (fun a w' h1=>h _ _ ⟨w',Cl.trans hb h1.1,Cl.refl _,h1.2⟩) (hh w hb))
  ·rw[if_neg hw] at hh ⊢;exact h _ _ ⟨b,Cl.refl b,hb,hh⟩
structure zeY(P:Program)(ops:Array Oper)(Z:Nat->Obj)(dst:Nat->Option Tmp)(j:Nat):Prop where
 ex:∃oj,ops[j]? =some oj/\dst j=oj.dst/\(∀y,Region.wanted oj y=true)/\∀(a:Act) (w:World),(execOp a.eval oj).run P w=.ok (.value (.pointer (some ⟨w.heap.size,0,none⟩))) (w.alloc (Z j))
theorem Qu(hs:Region.noSelect ops=true){fl0:List Nat}(hI:vF .any ops suf (zfT ops suf)=true/\(suf.map Prod.fst).Nodup/\kC suf=true)(hsl:∀y,y∈suf->y.2=0\/3<=y.2)(hZ:∀j∈fl0,zeY P ops Z dst j)(hd:∀i∈fl0,∀j∈fl0,i≠j->∀d,dst i=some d->dst j≠some d):∀(n:Nat) (pre:List (Nat×Nat)) (fl D:List Nat) (listed:Array Bool) (fuel:Nat) (b:World) (a:Act) (w:World),pre.length+fl.length=n->n+suf.length<=fuel->Ve ops fl0 suf pre fl listed->Cl b w->N<=b.heap.size->(∀x∈D,x<b.heap.size)->
 jh RC NX P ops (QF P ops Q suf Z dst N fl D) pre b a->wpAny P .any ops (ug NX Q) fuel listed a w
 |0,pre,fl,D,listed,fuel,b,a,w,hn,hf,I,hb,_,_,h=>by
  obtain rfl:pre=[]:=pT (by omega);obtain rfl:fl=[]:=pT (by omega);exact Qv hs suf.length suf _ fuel a w rfl (by omega) ⟨by rw[I.fin];exact hI.1,hI.2.1,fun x hx=>(I.su x hx).1,fun i hi hu=>(I.cov i hi hu).elim (fun ⟨_,h⟩=>by cases h) (fun h=>h.elim (fun h=>by cases h) id),I.cl,fun x hx h1=>(hsl x hx).elim (fun h=>by omega) (fun h=>by omega),hI.2.2⟩ hsl (h w hb w (Cl.refl w))
 |n+1,pre,fl,D,listed,fuel,b,a,w,hn,hf,I,hb,hNb,hD,h=>by
  obtain⟨k,rfl⟩:∃k,fuel=k+1:=⟨fuel-1,by omega⟩;have hne:∀t,t∈suf->t.1∉Region.ready .any ops listed:=fun t ht hr=>by
   cases pre with
   |cons x r=>exact kq (n:=12) I.cl ((I.sw t ht).1 x (List.mem_cons_self ..)) (I.un x (List.mem_cons_self ..)).1 hr
   |nil=>
    cases fl with
    |nil=>simp at hn
    |cons j r=>exact kq (n:=12) I.cl ((I.sw t ht).2 j (List.mem_cons_self ..)) (mem_ready.1 (I.fu j (List.mem_cons_self ..)).2).1 hr
  refine⟨fun e=>?_,fun i hi=>?_⟩
  ·exfalso;cases pre with
   |cons x r=>
    have h1:=I.ok;obtain⟨i,f⟩:=x;simp only[Kf,pJ] at h1;rw[e] at h1;simp at h1
   |nil=>
    cases fl with
    |nil=>simp at hn
    |cons j r=>
     have:=(I.fu j (List.mem_cons_self ..)).2;rw[e] at this;cases this
  ·obtain⟨hiu,oi,hoi,_⟩:=mem_ready.1 hi;rcases I.cov i (gtA hoi) hiu with⟨f,hm⟩|hm|⟨f,hm⟩
   ·obtain⟨l1,l2,rfl⟩:=List.append_of_mem hm;obtain⟨I',hx⟩:=I.pre hi;have hf2:=(I.un _ hm).2.1;have st:=jB hs l1 a hx h;have hl:(l1 ++ l2).length+fl.length=n:=by simp at hn ⊢;omega
    have ih:=fun b' a' w'=>Qu hs hI hsl hZ hd n (l1 ++ l2) fl D _ k b' a' w' hl (by omega) I'
    simp only at hf2
    match f,st,hf2 with
    |0,st,_=>exact kI (fun a' h'=>ih b a' w hb hNb hD h') st
    |1,st,_=>exact uB (RR:=RC) hb (fun a' w' hw' h'=>ih b a' w' hw' hNb hD h') st
    |2,st,_=>exact Jy hb (fun a' w' ⟨b',h0,h1,h2⟩=>ih b' a' w' h1 (pR hNb h0.below.size) (fun x hx=>wO (hD x hx) h0.below.size) h2) st
   ·obtain⟨fl1,fl2,rfl⟩:=List.append_of_mem hm;have I':=I.float;obtain⟨oj,hoj,hdj,hw,hrun⟩:=(hZ i (I.fu i hm).1).ex;have hl:pre.length+(fl1 ++ fl2).length=n:=by simp at hn ⊢;omega
    have hgrow:Cl w (w.alloc (Z i)):=qo.2 (zg w (Z i));have hfn:=I.fn;rw[List.nodup_append] at hfn;have H:=zhq hs hoj hdj (s:=w.heap.size) (fun q hq=>hd q (I.fu q (pP.2 (.inl hq))).1 i (I.fu i hm).1 (hfn.2.2 q hq i (List.mem_cons_self ..))) (pR hNb hb.below.size) (fun e=>by
     have h1:=hD _ e;have h2:=hb.below.size;omega) pre b (w.alloc (Z i)) a (fun x hx=>by
     obtain⟨o1,o2,e1,e2,e3⟩:=I.ap x hx i (I.fu i hm).1;rw[hoj] at e2;cases e2;exact⟨(I.un x hx).2.1,o1,e1,e3⟩) h (Cl.trans hb hgrow) (Go.Proofs.YtcagibbaeageoaaGreatDoor.zl w (Z i))
    have ih:=Qu hs hI hsl hZ hd n pre (fl1 ++ fl2) (w.heap.size :: D) _ k (w.alloc (Z i)) (a.put oj.dst (.pointer (some ⟨w.heap.size,0,none⟩))) (w.alloc (Z i)) hl (by omega) I' (Cl.refl _) (by have:=hb.below.size;simp;omega) (fun x hx=>by
     rcases wF.1 hx with hx|hx
     ·rw[hx];simp
     ·have h1:=hD x hx;have h2:=hb.below.size;simp;omega) H
    refine uA (Xp:=NX) (fun a' w' h'=>h') ?_;unfold ZA;rw[hoj];simp only[hw,if_true];unfold Oper.wp;rw[hrun];exact ih
   ·exact absurd hi (hne _ hm)
def ZT(ops:Array Oper)(pre:List (Nat×Nat))(fl:List Nat)(suf:List (Nat×Nat)):Bool:=
 let z:=Array.replicate ops.size false
 Region.noSelect ops && Kf ops fl pre z && decide ((pre.map Prod.fst).Nodup) && (pre.all fun x=>decide (x.1<ops.size) && decide (x.2<=2) && !fl.contains x.1) && decide fl.Nodup && (fl.all fun j=>(Region.ready .any ops z).contains j) && ((List.range ops.size).all fun i=>(pre.any fun x=>x.1 == i) || fl.contains i || suf.any fun x=>x.1 == i) && (suf.all fun t=>decide (t.1<ops.size) && !fl.contains t.1 && (pre.all fun x=>decide (x.1≠t.1) && vu .any ops 12 t.1 x.1) && fl.all fun j=>vu .any ops 12 t.1 j) && (pre.all fun x=>fl.all fun j=>(ops[x.1]?).any fun oi=>(ops[j]?).any fun oj=>oi.apart ops oj) && (vF .any ops suf (zfT ops suf) && decide ((suf.map Prod.fst).Nodup) && kC suf && (suf.all fun x=>x.2 == 0 || decide (3<=x.2)) && decide (pre.length+fl.length+suf.length<=ops.size))
theorem zaY{pre suf:List (Nat×Nat)}{fl:List Nat}(h:ZT ops pre fl suf=true):Region.noSelect ops=true/\Ve ops fl suf pre fl (Array.replicate ops.size false)/\(vF .any ops suf (zfT ops suf)=true/\(suf.map Prod.fst).Nodup/\kC suf=true)/\(∀y,y∈suf->y.2=0\/3<=y.2)/\pre.length+fl.length+suf.length<=ops.size:=by
 simp only[ZT,pJ,pK,pV,gC,wL,Bool.not_eq_true',wC,List.mem_range,List.contains_iff_mem,Option.any_eq_true] at h;obtain⟨⟨⟨⟨⟨⟨⟨⟨⟨h1,h2⟩,h3⟩,h4⟩,h5⟩,h6⟩,h7⟩,h8⟩,h9⟩,⟨⟨⟨h10,h11⟩,h12⟩,h13⟩,h14⟩:=h;have hz:∀i,i<ops.size->(Array.replicate ops.size false).getD i true=false:=fun i hi=>by simp[hi]
 have nc:∀x,fl.contains x=false->x∉fl:=fun x h e=>by
  rw[List.contains_iff_mem.2 e] at h;cases h
 refine⟨h1,⟨h2,h3,fun x hx=>⟨hz _ (h4 x hx).1.1,(h4 x hx).1.2,nc _ (h4 x hx).2⟩,h5,fun j hj=>⟨hj,h6 j hj⟩,fun i hi _=>?_,fun x hx=>⟨hz _ (h8 x hx).1.1.1,nc _ (h8 x hx).1.1.2,fun y hy=>((h8 x hx).1.2 y hy).1⟩,fun t ht=>⟨fun x hx=>((h8 t ht).1.2 x hx).2,(h8 t ht).2⟩,fun x hx j hj=>?_,fun k o ho hk=>?_,by simp⟩,⟨h10,h11,h12⟩,h13,h14⟩
 ·rcases h7 i hi with (⟨x,hx,e⟩|h)|⟨x,hx,e⟩
  ·exact .inl ⟨x.2,by rw[<-e];exact hx⟩
  ·exact .inr (.inl h)
  ·exact .inr (.inr ⟨x.2,by rw[<-e];exact hx⟩)
 ·obtain⟨oi,e1,oj,e2,e3⟩:=h9 x hx j hj;exact⟨oi,oj,e1,e2,e3⟩
 ·exfalso;rcases Nat.lt_or_ge k ops.size with h'|h'
  ·simp[h'] at hk
  ·simp[Array.getElem?_eq_none h'] at ho
theorem zkN{id:Nat}{l:List Oper}{Q:Exit->Act->World->Prop}{a:Act}{w:World}(pre:List (Nat×Nat))(fl:List Nat)(suf:List (Nat×Nat))(Z:Nat->Obj)(dst:Nat->Option Tmp)(h:jh RC NX P l.toArray (QF P l.toArray (Q .normal) suf Z dst w.heap.size fl []) pre w.drew a)(hZ:∀j∈fl,zeY P l.toArray Z dst j)(hd:∀i∈fl,∀j∈fl,i≠j->∀d,dst i=some d->dst j≠some d)(hm:P.follows .mixedOrders=true:=by kernel_rfl)(hc:ZT l.toArray pre fl suf=true:=by kernel_rfl):(Code.region id l.toArray true).wp P Q a w:=by
 obtain⟨h1,h2,h3,h4,h5⟩:=zaY hc;refine Code.wp_mono (fun e a w q=>?_) (wp_region_any (Q:=ug NX (Q .normal)) hm (Qu h1 h3 h4 hZ hd _ pre fl [] _ _ w.drew a _ rfl (by omega) h2 (Cl.refl _) (pG _) (fun x hx=>by cases hx) h));cases e <;> first|exact q|exact q.2.elim|exact q.elim
theorem YB{RR:Rel}{Xp:List PanicEntry->World->Prop}{Q':Act->World->Prop}{s:List (Nat×Nat)}(hE:RR.zN=Eq)(hq:∀a w,Q' a w->jh RR Xp P ops Q s w a):∀(pre:List (Nat×Nat)) (b:World) (a:Act),(∀x,x∈pre->x.2<=1)->jh RR Xp P ops Q' pre b a->jh RR Xp P ops Q (pre ++ s) b a
 |[],b,a,_,h=>hq a b (h b (by rw[hE]))
 |(i,f) :: r,b,a,hx,h=>by
  have ih:=fun a=>YB hE hq r b a (fun x hx'=>hx x (pY _ hx'))
  have hf:=hx (i,f) (List.mem_cons_self ..);simp only at hf;rw[wJ];unfold jh at h ⊢
  match f,hf with
  |0,_=>
   simp only[jQ,Yp] at h ⊢;cases ho:ops[i]? with
   |none=>rw[ho] at h;exact ih _ h
   |some o=>
    rw[ho] at h;simp only at h ⊢;split
    ·rename_i hw;rw[if_pos hw] at h;obtain⟨v,h1,h2⟩:=h;exact⟨v,h1,ih _ h2⟩
    ·rename_i hw;rw[if_neg hw] at h;exact ih _ h
  |1,_=>
   simp only[jQ] at h ⊢;cases ho:ops[i]? with
   |none=>rw[ho] at h;exact ih _ h
   |some o=>
    rw[ho] at h;simp only at h ⊢;split
    ·rename_i hw;rw[if_pos hw] at h;obtain⟨v,h1,h2⟩:=h;exact⟨v,h1,ih _ h2⟩
    ·rename_i hw;rw[if_neg hw] at h;exact ih _ h
structure Xa(ops:Array Oper)(ord:List (Nat×Nat))(listed:Array Bool):Prop where
 ok:vF .any ops ord listed=true
 nd:(ord.map Prod.fst).Nodup
 un:∀x,x∈ord->listed.getD x.1 true=false
 cov:∀i,i<ops.size->listed.getD i true=false->∃f,(i,f)∈ord
 le:∀x,x∈ord->x.2<=2
 late:kC ord=true
theorem Xa.inv{ord:List (Nat×Nat)}{listed:Array Bool}(I:Xa ops ord listed)(hc:uG .any ops listed):Inv .any ops ord listed:=⟨I.ok,I.nd,I.un,I.cov,hc,fun x hx _ t ht h3=>absurd (I.le t ht) (by omega),I.late⟩
theorem Xa.at{l1 l2:List (Nat×Nat)}{j f:Nat}{listed:Array Bool}(I:Xa ops (l1 ++ (j,f) :: l2) listed)(hj:j∈Region.ready .any ops listed):Xa ops (l1 ++ l2) (listed.setIfInBounds j true)/\∀x,x∈l1->x.2<=1/\∃oi oj,ops[x.1]? =some oi/\ops[j]? =some oj/\oi.apart ops oj=true:=by
 have nd:=I.nd;rw[List.map_append,List.map_cons,List.nodup_append] at nd;obtain⟨nd1,nd2,nd3⟩:=nd;rw[List.nodup_cons] at nd2;have hne1:∀x,x∈l1->x.1≠j:=fun x hx=>nd3 _ (List.mem_map_of_mem hx) _ (by simp)
 have hne2:∀x,x∈l2->x.1≠j:=fun x hx e=>nd2.1 (by rw[<-e];exact List.mem_map.2 ⟨x,hx,rfl⟩)
 have hne:∀x,x∈l1 ++ l2->x.1≠j:=fun x hx=>(pP.1 hx).elim (hne1 x) (hne2 x)
 have sub:∀x,x∈l1 ++ l2->x∈l1 ++ (j,f) :: l2:=fun x hx=>by
  rcases pP.1 hx with hx|hx
  ·exact pP.2 (.inl hx)
  ·exact pP.2 (.inr (pY _ hx))
 obtain⟨m1,m2⟩:=ZL l1 listed I.ok hj hne1;refine⟨⟨m1,?_,?_,?_,fun x hx=>I.le x (sub x hx),(Qg l1 I.late).1⟩,m2⟩
 ·rw[List.map_append,List.nodup_append];exact⟨nd1,nd2.2,fun a ha b hb=>nd3 a ha b (pY _ hb)⟩
 ·exact fun x hx=>by rw[getD_set_ne true (Ne.symm (hne x hx))];exact I.un x (sub x hx)
 ·intro i hi hu;have hij:j≠i:=fun e=>by subst e;rw[js] at hu;cases hu
  rw[getD_set_ne true hij] at hu;obtain⟨g,hg⟩:=I.cov i hi hu;refine⟨g,?_⟩;rcases pP.1 hg with hg|hg
  ·exact pP.2 (.inl hg)
  ·rcases wF.1 hg with hg|hg
   ·exact absurd (congrArg Prod.fst hg).symm hij
   ·exact pP.2 (.inr hg)
theorem zi4{RR:Rel}{Xp:List PanicEntry->World->Prop}(hE:RR.zN=Eq)(hs:Region.noSelect ops=true){x y:Nat}{r:List (Nat×Nat)}(hxy:x≠y):∀(n:Nat) (pre:List (Nat×Nat)) (listed:Array Bool) (fuel:Nat) (b:World) (a:Act),pre.length=n->n+r.length+2<=fuel->(∀z,z∈pre->z.2<=1)->Xa ops (pre ++ (y,2) :: r) (listed.setIfInBounds x true)->Xa ops (pre ++ (x,2) :: r) (listed.setIfInBounds y true)->uG .any ops listed->y∈Region.ready .any ops listed->
 jh RR Xp P ops (fun a w=>jh RR Xp P ops Q ((x,2) :: (y,2) :: r) w a/\jh RR Xp P ops Q ((y,2) :: (x,2) :: r) w a) pre b a->wpAny P .any ops (ug Xp Q) fuel listed a b:=by
 intro n;induction n with
 |zero=>
  intro pre listed fuel b a hn hf hq IA IB hcl hyr h;obtain rfl:pre=[]:=pT hn;obtain⟨k,rfl⟩:∃k,fuel=k+1:=⟨fuel-1,by omega⟩;have h:=h b (by rw[hE]);refine⟨fun e=>(by rw[e] at hyr;cases hyr),fun i hi=>?_⟩;by_cases e1:i=x
  ·subst e1;have st:=h.1;exact jn (RR:=RR) (by rw[hE]) (fun a' w' _ ⟨b',h1,h2⟩=>Zt hs _ _ _ k b' a' w' rfl (by simp;omega) (IA.inv (hcl.set hi)) h1 h2) st
  ·by_cases e2:i=y
   ·subst e2;have st:=h.2;exact jn (RR:=RR) (by rw[hE]) (fun a' w' _ ⟨b',h1,h2⟩=>Zt hs _ _ _ k b' a' w' rfl (by simp;omega) (IB.inv (hcl.set hi)) h1 h2) st
   ·exfalso;have hi':=ready_mono hi e1;obtain⟨hiu,oi,hoi,_⟩:=mem_ready.1 hi';obtain⟨f,hm⟩:=IA.cov i (gtA hoi) hiu;rcases wF.1 hm with hm|hm
    ·exact e2 (congrArg Prod.fst hm)
    ·obtain⟨r1,r2,rfl⟩:=List.append_of_mem hm;have:=((Xa.at (l1:=(y,2) :: r1) IA hi').2 (y,2) (List.mem_cons_self ..)).1;simp at this
 |succ n ih=>
  intro pre listed fuel b a hn hf hq IA IB hcl hyr h;obtain⟨k,rfl⟩:∃k,fuel=k+1:=⟨fuel-1,by omega⟩;refine⟨fun e=>(by rw[e] at hyr;cases hyr),fun i hi=>?_⟩;by_cases e1:i=x
  ·subst e1;have hA:=YB hE (Q:=Q) (s:=(i,2) :: (y,2) :: r) (fun a w h=>h.1) pre b a hq h;have st:=jB hs pre a (fun z hz=>⟨⟨hq z hz,fun h=>(by omega)⟩,((IB.at (ready_mono hi hxy)).2 z hz).2⟩) hA;exact jn (RR:=RR) (by rw[hE]) (fun a' w' _ ⟨b',h1,h2⟩=>Zt hs _ _ _ k b' a' w' rfl (by simp;omega) (IA.inv (hcl.set hi)) h1 h2) st
  ·by_cases e2:i=y
   ·subst e2;have hB:=YB hE (Q:=Q) (s:=(i,2) :: (x,2) :: r) (fun a w h=>h.2) pre b a hq h;have st:=jB hs pre a (fun z hz=>⟨⟨hq z hz,fun h=>(by omega)⟩,((IA.at (ready_mono hi (fun e=>hxy e.symm))).2 z hz).2⟩) hB;exact jn (RR:=RR) (by rw[hE]) (fun a' w' _ ⟨b',h1,h2⟩=>Zt hs _ _ _ k b' a' w' rfl (by simp;omega) (IB.inv (hcl.set hi)) h1 h2) st
   ·have hi':=ready_mono hi e1;obtain⟨hiu,oi,hoi,_⟩:=mem_ready.1 hi';obtain⟨f,hm⟩:=IA.cov i (gtA hoi) hiu;rcases pP.1 hm with hm|hm
    ·obtain⟨l1,l2,rfl⟩:=List.append_of_mem hm;have IA2:=IA;have IB2:=IB;rw[gD,wJ] at IA2 IB2;obtain⟨JA,hx⟩:=Xa.at IA2 hi';obtain⟨JB,_⟩:=Xa.at IB2 (ready_mono hi e2);have st:=jB hs l1 a (fun z hz=>⟨⟨(hx z hz).1,fun h=>(by have:=hq (i,f) (pP.2 (.inr (List.mem_cons_self ..)));simp only at this;omega)⟩,(hx z hz).2⟩) h;rw[<-gD,Array.setIfInBounds_comm _ _ (fun e=>e1 e.symm)] at JA;rw[<-gD,Array.setIfInBounds_comm _ _ (fun e=>e2 e.symm)] at JB;have hl:(l1 ++ l2).length=n:=by simp at hn ⊢;omega
     have ih2:=fun a'=>ih (l1 ++ l2) (listed.setIfInBounds i true) k b a' hl (by omega) (fun z hz=>hq z (by
      rcases pP.1 hz with hz|hz
      ·exact pP.2 (.inl hz)
      ·exact pP.2 (.inr (pY _ hz)))) JA JB (hcl.set hi) (ready_mono hyr (fun e=>e2 e.symm))
     have hf1:=hq (i,f) (pP.2 (.inr (List.mem_cons_self ..)));simp only at hf1
     match f,st,hf1 with
     |0,st,_=>exact kI (fun a' h'=>ih2 a' h') st
     |1,st,_=>exact uB (RR:=RR) (by rw[hE]) (fun a' w' hw' h'=>by
      rw[hE] at hw';subst hw';exact ih2 a' h') st
    ·exfalso;rcases wF.1 hm with hm|hm
     ·exact e2 (congrArg Prod.fst hm)
     ·obtain⟨r1,r2,rfl⟩:=List.append_of_mem hm;have IA2:=IA;rw[<-wJ,<-gD] at IA2;have:=((Xa.at IA2 hi').2 (y,2) (pP.2 (.inr (List.mem_cons_self ..)))).1;simp at this
def Vi(ops:Array Oper)(pre:List (Nat×Nat))(x y:Nat)(r:List (Nat×Nat)):Bool:=
 let z:=Array.replicate ops.size false
 let ok:=fun (ord:List (Nat×Nat)) (u:Nat)=>vF .any ops ord (z.setIfInBounds u true) && decide ((ord.map Prod.fst).Nodup) && (ord.all fun t=>decide (t.1<ops.size) && decide (t.1≠u)) && ((List.range ops.size).all fun i=>i == u || ord.any fun t=>t.1 == i) && (ord.all fun t=>decide (t.2<=2)) && kC ord
 Region.noSelect ops && ok (pre ++ (y,2) :: r) x && ok (pre ++ (x,2) :: r) y && (Region.ready .any ops z).contains y && decide (x≠y) && (pre.all fun t=>decide (t.2<=1)) && decide (pre.length+r.length+2<=ops.size)
theorem Xa.of_ok{ord:List (Nat×Nat)}{u:Nat}(h1:vF .any ops ord ((Array.replicate ops.size false).setIfInBounds u true)=true)(h2:(ord.map Prod.fst).Nodup)(h3:∀t,t∈ord->t.1<ops.size/\t.1≠u)(h4:∀i,i<ops.size->i=u\/∃t,t∈ord/\t.1=i)(h5:∀t,t∈ord->t.2<=2)(h6:kC ord=true):Xa ops ord ((Array.replicate ops.size false).setIfInBounds u true):=by
 refine⟨h1,h2,fun x hx=>?_,fun i hi hl=>?_,h5,h6⟩
 ·rw[getD_set_ne true (Ne.symm (h3 x hx).2)];simp[(h3 x hx).1]
 ·rcases h4 i hi with rfl|⟨t,ht,e⟩
  ·rw[js] at hl;cases hl
  ·exact⟨t.2,by rw[<-e];exact ht⟩
theorem zcB:uG .any ops (Array.replicate ops.size false):=fun k o ho hk=>by
 exfalso;rcases Nat.lt_or_ge k ops.size with h'|h'
 ·simp[h'] at hk
 ·simp[Array.getElem?_eq_none h'] at ho
theorem zmj{RR:Rel}{Xp:List PanicEntry->World->Prop}{id:Nat}{l:List Oper}{Q:Exit->Act->World->Prop}{a:Act}{w:World}(pre:List (Nat×Nat))(x y:Nat)(r:List (Nat×Nat))(R:Act->Act->World->Prop)(h:jh RR Xp P l.toArray (fun a' w'=>jh RR Xp P l.toArray (R a) ((x,2) :: (y,2) :: r) w' a'/\jh RR Xp P l.toArray (R a) ((y,2) :: (x,2) :: r) w' a') pre w.drew a)(hR:∀a' w',R a a' w'->Q .normal a' w')(hE:RR.zN=Eq:=by exact rfl)(hm:P.follows .mixedOrders=true:=by kernel_rfl)(hc:Vi l.toArray pre x y r=true:=by kernel_rfl)(hX:∀c a w,a.defers=[]->Xp c w->Q (.panic c) a w:=by rintro c a V hd h;exact h.elim):(Code.region id l.toArray true).wp P Q a w:=by
 simp only[Vi,pJ,pK,pV,gC,wL,wC,List.mem_range,List.contains_iff_mem] at hc;obtain⟨⟨⟨⟨⟨⟨h1,⟨⟨⟨⟨⟨a1,a2⟩,a3⟩,a4⟩,a5⟩,a6⟩⟩,⟨⟨⟨⟨⟨b1,b2⟩,b3⟩,b4⟩,b5⟩,b6⟩⟩,hy⟩,hxy⟩,hq⟩,hl⟩:=hc;refine Code.wp_mono (fun e a w q=>?_) (wp_region_any (Q:=ug Xp (R a)) hm (zi4 hE h1 hxy _ pre _ _ w.drew a rfl (by omega) hq (Xa.of_ok a1 a2 a3 a4 a5 a6) (Xa.of_ok b1 b2 b3 b4 b5 b6) zcB hy h));cases e <;> first|exact hR _ _ q|exact hX _ _ _ q.1 q.2|exact q.elim
end
end
end LodeX
