/-
  A part of the proof: contracts of functions; no conditions.
-/
import Derived.Test.YtcagibbaeageoaaGreatDoorRK
import Derived.Test.YtcagibbaeageoaaGreatDoorRM
import Derived.ChangeSlices
import Derived.Lib.LaidTab
import Derived.LaidSub
import Derived.Stop.LaidErr
import Derived.WalkKit
import Derived.Test.YtcagibbaeageoaaGreatDoorRows
import Derived.Test.YtcagibbaeageoaaGreatDoorProg
import Derived.Deep.Slices
import Derived.Deep.Fields
import Derived.ChangeSame
import Derived.OpenShut
import Derived.Lib.SmallJoins
import Derived.Laws.CopyOwn
set_option maxRecDepth 100000
set_option maxHeartbeats 40000000
set_option linter.unusedSimpArgs false
set_option linter.unusedVariables false
namespace Go.Proofs.YtcagibbaeageoaaGreatDoor
section
open Go.RowKit Lode Go.Shelf
open Go.Proofs.Tryz
theorem Tryz.laidOut:laidOutB prog=true:=by kernel_rfl
theorem zg2: "*" ++ "errors.errorString" = "*errors.errorString" :=by decide
theorem zlR(u:TypeId)(h:prog.typeName? 3 u=some "*errors.errorString"):u=284:=
 typeName_ptr_named (nm:= "errors.errorString") (by rw[zg2];kernel_rfl) (by kernel_rfl) (by decide) u (by rw[zg2];exact h)
theorem zjR(w:World)(hL:laidMet prog Rows.parseChecksRow.laid w):qZ w:=by
 refine⟨?_,?_,?_⟩
 ·have h:=hL.filter (fun x=>x.1 == "strings.asciiSpace");have e:(Rows.parseChecksRow.laid.filter fun x=>x.1 == "strings.asciiSpace")=[("strings.asciiSpace",Lib.tabData .u8 Lib.asciiSpaceTab)]:=by rfl
  rw[e] at h;exact Lib.tabIs_of_head (g:=0) (t:=220) (e:=5) (n:=256) (by kernel_rfl) (by kernel_rfl) (by kernel_rfl) (by kernel_rfl) (by kernel_rfl) (by kernel_rfl) h
 ·have h:=hL.filter (fun x=>x.1 == "internal/strconv.uint64pow10");have e:(Rows.parseChecksRow.laid.filter fun x=>x.1 == "internal/strconv.uint64pow10")=[("internal/strconv.uint64pow10",Lib.tabData .u64 Lib.pow10Tab)]:=by rfl
  rw[e] at h;exact Lib.tabIs_of_head (g:=3) (t:=268) (e:=245) (n:=20) (by kernel_rfl) (by kernel_rfl) (by kernel_rfl) (by kernel_rfl) (by kernel_rfl) (by kernel_rfl) h
 ·have h:=hL.filter (fun x=>x.1 == "strconv.ErrRange");have e:(Rows.parseChecksRow.laid.filter fun x=>x.1 == "strconv.ErrRange")=[("strconv.ErrRange",.iface "*errors.errorString" (.ptr (.agg [.lit (.string [118,97,108,117,101,32,111,117,116,32,111,102,32,114,97,110,103,101])])))]:=by rfl
  rw[e] at h;obtain⟨a,s,hv,_⟩:=laid_sentinel (g:=5) (tp:=284) (te:=286) (ts:=9) (ti:=82) h (by kernel_rfl) (by kernel_rfl) underlying82 zlR underlying284 underlying286 rfl rfl (by kernel_rfl) (by kernel_rfl) (by kernel_rfl);exact⟨_,_,hv⟩
end
section
open Go.RowKit Go.ChangeShapes Go.WideShapes Go.Deep Lode
open Go.Proofs.Tryz
theorem zkN{n:Int}(h:(Lit.int .u8 n).wf=true):0<=n/\n<=255:=by
 have h1:IntKind.u8.min=0:=by decide
 have h2:IntKind.u8.max=255:=by decide
 simp only[Lit.wf,pM,pJ,h1,h2] at h;exact h
theorem zcX{n:Int}(h:(Lit.int .i64 n).wf=true):I64 n:=by
 have h1:IntKind.i64.min= -9223372036854775808:=by decide
 have h2:IntKind.i64.max=9223372036854775807:=by decide
 simp only[Lit.wf,pM,pJ,h1,h2] at h;exact h
theorem Yi(g off j:Nat):(⟨g,off,none⟩:Addr).add j=⟨g,off+j,none⟩:=by
 unfold Addr.add;split
 ·rename_i h;subst h;rfl
 ·rfl
theorem zm1(a:Addr):a.add 0=a:=by unfold Addr.add;simp
variable {H:Type} {enc:TypeId×Value→H} {w:World} {base:Nat} {spare:Nat→Bool} {held:Bool}
theorem ze6{fuel:Nat}{cs:List Value}{x:DataW H×List MemPlace}(hf:DataW.trod enc prog w base spare held fuel 24 cs=some x):∃v l,cs=[v]/\Vn w v l/\∀k∈l,I64 k:=by
 rcases open_slice1 underlying24 (by kernel_rfl) hf with⟨rfl,_⟩|⟨a,len,cap,m,n,V,D,Pl,rfl,_,hl,_,hm,_,hi⟩
 ·exact⟨_,[],rfl,⟨none,0,rfl,.inl rfl⟩,fun k hk=>by cases hk⟩
 ·have hlm:len<=m:=by rw[hm];split <;> omega
  have hone:∀i,i<len->∃z:Int,w.cell? (a.add i)=some (.int .i64 z)/\I64 z:=fun i hi'=>by
   obtain⟨hc,ht⟩:=hi i (by omega);obtain⟨z,q,_,wz⟩:=DataW.trod_int underlying3 ht;have e:V i=.int .i64 z:=by simpa using q
   exact⟨z,by rw[hc,e],zcX wz⟩
  by_cases h0:len=0
  ·subst h0;exact⟨_,[],rfl,⟨some a,cap,rfl,.inl rfl⟩,fun k hk=>by cases hk⟩
  ·have hsp:a.spot=none:=by
    obtain⟨z,hz,_⟩:=hone 0 (by omega);rw[zm1] at hz;exact World.cell?_spot hz
   obtain⟨g,off,sp⟩:=a;simp only at hsp;subst hsp;refine⟨_,List.ofFn fun i:Fin len=>Classical.choose (hone i.1 i.2),rfl,⟨some ⟨g,off,none⟩,cap,by rw[List.length_ofFn],.inr ⟨g,off,rfl,fun j hj=>?_⟩⟩,fun k hk=>?_⟩
   ·rw[List.length_ofFn] at hj;have hq:=(Classical.choose_spec (hone j hj)).1;rw[pC,glE (by rw[List.length_ofFn];exact hj),List.getElem_ofFn];exact (congrArg w.cell? (Yi g off j)).symm.trans hq
   ·obtain⟨i,rfl⟩:=List.mem_ofFn.1 hk;exact (Classical.choose_spec (hone i.1 i.2)).2
structure znR(t:yl):Prop where
 kind:∀x∈t.nodes,x.kind<=255
 kids:∀x∈t.nodes,∀k∈x.kids,I64 k
 items:∀k∈t.items,I64 k
 n:∀x∈t.nodes,I64 x.n
 at_:∀x∈t.nodes,I64 x.at_
theorem zhL{fuel:Nat}{cs:List Value}{x:DataW H×List MemPlace}(hf:DataW.trod enc prog w base spare held fuel 23 cs=some x):∃v l,cs=[v]/\NSo w v l/\∀y∈l,y.kind<=255/\(∀k∈y.kids,I64 k)/\I64 y.n/\I64 y.at_:=by
 rcases open_slice underlying23 hf with⟨rfl,_⟩|⟨a,len,cap,m,n,D,Pl,rfl,_,hl,_,hm,_,hi⟩
 ·exact⟨_,[],rfl,⟨none,0,rfl,.inl rfl⟩,fun k hk=>by cases hk⟩
 ·have hlm:len<=m:=by rw[hm];split <;> omega
  have hC:prog.cellsOf 60=5:=by kernel_rfl
  rw[hC] at hi;have hone:∀i,i<len->∃t:Nd,(∃u,w.cell? (a.add (i*5))=some (.int .u8 t.kind)/\w.cell? ((a.add (i*5)).add 1)=some (.string ⟨t.text.toArray⟩)/\w.cell? ((a.add (i*5)).add 2)=some (.int .i64 t.n)/\w.cell? ((a.add (i*5)).add 3)=some u/\w.cell? ((a.add (i*5)).add 4)=some (.int .i64 t.at_)/\Vn w u t.kids)/\t.kind<=255/\(∀k∈t.kids,I64 k)/\I64 t.n/\I64 t.at_:=fun i hi'=>by
   obtain⟨cs',hc,ht⟩:=hi i (by omega);obtain⟨_,hcl,hat⟩:=World.cells?_some hc;obtain⟨ys,n',_,_,_,hyl,hfs⟩:=DataW.trod_struct underlying60 ht
   match cs',hcl with
   |[v0,v1,v2,v3,v4],_=>
    match ys,hyl with
    |[y0,y1,y2,y3,y4],_=>
     have k5:prog.cellsOf 5=1:=by kernel_rfl
     have k9:prog.cellsOf 9=1:=by kernel_rfl
     have k3:prog.cellsOf 3=1:=by kernel_rfl
     have ks:prog.cellsOf 24=1:=by kernel_rfl
     have e0:DataW.trod enc prog w base spare held n' 5 (([v0,v1,v2,v3,v4].drop 0).take (prog.cellsOf 5))=some y0:=hfs 0 _ rfl;have e1:DataW.trod enc prog w base spare held n' 9 (([v0,v1,v2,v3,v4].drop 1).take (prog.cellsOf 9))=some y1:=hfs 1 _ rfl;have e2:DataW.trod enc prog w base spare held n' 3 (([v0,v1,v2,v3,v4].drop 2).take (prog.cellsOf 3))=some y2:=hfs 2 _ rfl;have e3:DataW.trod enc prog w base spare held n' 24 (([v0,v1,v2,v3,v4].drop 3).take (prog.cellsOf 24))=some y3:=hfs 3 _ rfl;have e4:DataW.trod enc prog w base spare held n' 3 (([v0,v1,v2,v3,v4].drop 4).take (prog.cellsOf 3))=some y4:=hfs 4 _ rfl;rw[k5] at e0;rw[k9] at e1;rw[k3] at e2 e4;rw[ks] at e3;obtain⟨x0,q0,_,w0⟩:=DataW.trod_int underlying5 e0;obtain⟨x1,q1,_,_⟩:=DataW.trod_string underlying9 e1;obtain⟨x2,q2,_,w2⟩:=DataW.trod_int underlying3 e2;obtain⟨x3,l3,q3,h3,r3⟩:=ze6 e3;obtain⟨x4,q4,_,w4⟩:=DataW.trod_int underlying3 e4;have r0:v0=.int .u8 x0:=by simpa using q0
     have r1:v1=.string x1:=by simpa using q1
     have r2:v2=.int .i64 x2:=by simpa using q2
     have s3:v3=x3:=by simpa using q3
     have r4:v4=.int .i64 x4:=by simpa using q4
     subst r0 r1 r2 s3 r4;have hk:=zkN w0;obtain⟨k0,rfl⟩:∃y:Nat,x0=(y:Int):=pN hk.1;have hk0:k0<=255:=by omega
     exact⟨⟨k0,x1.data.toList,x2,l3,x4⟩,⟨v3,hat 0 (by decide),hat 1 (by decide),hat 2 (by decide),hat 3 (by decide),hat 4 (by decide),h3⟩,hk0,r3,zcX w2,zcX w4⟩
  by_cases h0:len=0
  ·subst h0;exact⟨_,[],rfl,⟨some a,cap,rfl,.inl rfl⟩,fun k hk=>by cases hk⟩
  ·have hsp:a.spot=none:=by
    obtain⟨z,⟨u,hz,_⟩,_⟩:=hone 0 (by omega);rw[Nat.zero_mul,zm1] at hz;exact World.cell?_spot hz
   obtain⟨g,off,sp⟩:=a;simp only at hsp;subst hsp;refine⟨_,List.ofFn fun i:Fin len=>Classical.choose (hone i.1 i.2),rfl,⟨some ⟨g,off,none⟩,cap,by rw[List.length_ofFn],.inr ⟨g,off,rfl,fun j y hy=>?_⟩⟩,fun k hk=>?_⟩
   ·have hj:j<len:=by have:=(gtL hy);rwa [List.length_ofFn] at this
    obtain⟨u,q0,q1,q2,q3,q4,q5⟩:=(Classical.choose_spec (hone j hj)).1;rw[glE (by rw[List.length_ofFn];exact hj),List.getElem_ofFn] at hy;cases hy;have h2:∀k,((⟨g,off,none⟩:Addr).add (j*5)).add k=⟨g,off+j*5+k,none⟩:=fun k=>by rw[Yi,Yi]
    exact⟨u,(congrArg w.cell? (Yi g off (j*5))).symm.trans q0,(congrArg w.cell? (h2 1)).symm.trans q1,(congrArg w.cell? (h2 2)).symm.trans q2,(congrArg w.cell? (h2 3)).symm.trans q3,(congrArg w.cell? (h2 4)).symm.trans q4,q5⟩
   ·obtain⟨i,rfl⟩:=List.mem_ofFn.1 hk;exact (Classical.choose_spec (hone i.1 i.2)).2
theorem zi6{r:Reach}{b:Nat}{v:Value}{d:DataW H}{p:List MemPlace}(hv:Value.okWide prog w r b 26 v)(h:DataW.Trod enc prog w base spare held 26 v d p):∃nv iv t,v=.agg #[nv,iv]/\KL w nv iv t/\znR t:=by
 obtain⟨c0,c1,y0,y1,m,rfl,rfl,rfl,e0,e1⟩:=Go.Joins.open_agg2 underlying26 (by kernel_rfl) (show prog.cellsOf 26=2 by kernel_rfl) hv h;obtain⟨v0,l0,q0,h0,r0⟩:=zhL e0;obtain⟨v1,l1,q1,h1,r1⟩:=ze6 e1;have s0:c0=v0:=by simpa using q0
 have s1:c1=v1:=by simpa using q1
 subst s0 s1;exact⟨c0,c1,⟨l0,l1⟩,rfl,⟨h0,h1⟩,⟨fun x hx=>(r0 x hx).1,fun x hx=>(r0 x hx).2.1,r1,fun x hx=>(r0 x hx).2.2.1,fun x hx=>(r0 x hx).2.2.2⟩⟩
end
section
open Go.RowKit Lode Go.Shelf
open Go.Proofs.Tryz
def zku(B:Nat):LodeX.Rel:=⟨fun a b=>Below B a b,fun w=>pF _ w,fun h k=>h.trans k,Eq,fun _=>rfl,Eq.trans,fun h=>h▸pF _ _⟩
end
end Go.Proofs.YtcagibbaeageoaaGreatDoor
