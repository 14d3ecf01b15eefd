/-
  A part of the proof: contracts of functions; no conditions.
-/
import Derived.Test.YtnncmdpopgkibaaGreatDoorKQ
import Derived.Laws.AppendOwnNone
import Derived.OwnWalk
set_option maxRecDepth 100000
set_option maxHeartbeats 40000000
set_option linter.unusedSimpArgs false
set_option linter.unusedVariables false
namespace Go.Proofs.YtnncmdpopgkibaaGreatDoor
section
open Go.RowKit Lode Go.Shelf
open Go.Proofs.Tryz
theorem JD.later{B b:Nat}{p:Value}{bs:List Value}{w w':World}(h:JD B b p bs w)(hb:Below w.heap.size w w'):JD B b p bs w':=by
 obtain⟨hB,v,hbk,hown,hne⟩:=h;exact⟨hB,v,zh hb hbk,VN hown hb,hne⟩
theorem Bd.later{w0 w w':World}{b:Nat}{ob:ByteArray}(h:Bd w0 b ob w)(hb:Below w.heap.size w w'):Bd w0 b ob w':=⟨h.1.imp (fun h=>JD.later h hb) (fun h=>JD.later h hb),zg h.2 hb⟩
def zdh(b t:Nat)(w:World):Prop:=t≠b/\∀p v,w.heap[b]? =some (.cells #[p,v] 84 (0,0))->v.ownBlock≠some t
theorem zdh.of{w0 w w':World}{b:Nat}{ob:ByteArray}(h:Bd w0 b ob w)(hb:Below w.heap.size w w'){t:Nat}(ht:w.heap.size<=t):zdh b t w':=by
 have key:∀p,JD w0.heap.size b p (Lib.byteCells ob.data.toList) w->zdh b t w':=fun p ⟨hB,v,hbk,hown,hne⟩=>by
  have hlt:=(gtA hbk);refine⟨by omega,fun p' v' h' e=>?_⟩;rw[zh hb hbk] at h';simp only[pQ,Obj.cells.injEq,Array.mk.injEq,List.cons.injEq,and_true] at h';obtain⟨_,rfl⟩:=h';have:=(hown.lt t e).2;omega
 rcases h.1 with h|h
 ·exact key _ h
 ·exact key _ h
theorem Vz(B b t:Nat)(o:Obj)(bs:List Value)(w:World)(h:IsB B b bs w)(ht:w.heap[t]? =some o)(hf:zdh b t w):
 Calls prog 80 #[.pointer (some ⟨b,0,none⟩)] w fun e w'=>e=.returned (.tuple #[])/\(JD B b (.pointer (some ⟨b,0,none⟩)) bs w'/\Below B w w')/\w'.heap[t]? =some o/\zdh b t w':=by
 rcases h with h|h
 ·refine (vS b w h.cell0 h.shape h.frozen0).mono ?_;rintro e w' ⟨rfl,rfl⟩;refine⟨rfl,⟨h.used _,(pF B w).setCell (p:=⟨b,0,none⟩) h.1 _⟩,(zt hf.1).trans ht,hf.1,fun p v hv=>?_⟩;obtain⟨_,v0,hbk,_,_⟩:=h;rw[zr hbk 0] at hv;simp only[List.setIfInBounds_toArray,List.set_cons_zero,pQ,Obj.cells.injEq,Array.mk.injEq,List.cons.injEq,and_true] at hv;obtain⟨_,rfl⟩:=hv;exact hf.2 _ _ hbk
 ·refine (uw b w h.cell0).mono ?_;rintro e w' ⟨rfl,rfl⟩;exact⟨rfl,⟨h,pF B _⟩,ht,hf⟩
theorem Vl(B b t:Nat)(o:Obj)(bs:List Value)(c:Int)(w:World)(h:IsB B b bs w)(hlen:bs.length+1<=140737488355328)(hBw:B<=w.heap.size)(ht:w.heap[t]? =some o)(hf:zdh b t w):
 Calls prog 52 #[.pointer (some ⟨b,0,none⟩),.int .u8 c] w fun e w'=>e=.returned .nilIface/\(JD B b (.pointer (some ⟨b,0,none⟩)) (bs ++ [.int .u8 c]) w'/\Below B w w')/\w'.heap[t]? =some o:=by
 obtain⟨i0,hi,hz0,hz1,hz2⟩:=info_parts zbt;go_enter func52,ntmps52;go_wp2_with (go_at_call 80;refine (Vz B b t o bs _ h ht hf).mono ?_);rintro e w1 ⟨rfl,⟨h1,hb1⟩,ht1,hf1⟩;obtain⟨hB,v,hbk,hown,hne⟩:=h1;have hvt:=hf1.2 _ _ hbk;have c0:w1.cell? ⟨b,0,none⟩=some (.pointer (some ⟨b,0,none⟩)):=by rw[Lib.cell_of_heap hbk];rfl
 have c1:w1.cell? ⟨b,1,none⟩=some v:=by rw[Lib.cell_of_heap hbk];rfl
 have HT:=zi ht1;have HF:=zi hf1;clear ht1 hf1;go_wp2_with (at_builtin;refine wpList_append_own _ rfl _ _ 82 rfl B 5 i0 (.int .u8 0) 1 1 underlying82 hi hz0 hz1 hz2 rfl (by decide) _ _ _ rfl (hown.alloc _) ⟨w1.heap.size,0,none⟩ 1 1 [.int .u8 c] rfl rfl ?c1 ?c2 ?c3 ?c4 ?c5 ?_)
 case c1=>
  intro j u hj
  match j,hj with
  |0,hj=>simp at hj;subst hj;simp[Addr.add]
 case c2=>intro u hu;simp at hu;subst hu;rfl
 case c3=>unfold maxLen;omega
 case c4=>omega
 case c5=>have:=hb1.size;simp;omega
 intro v' w2 hown' hgrow _;have hlt:b<w1.heap.size:=by
  rcases Nat.lt_or_ge b w1.heap.size with h'|h'
  ·exact h'
  ·simp[Array.getElem?_eq_none h'] at hbk
 have hlt2:t<w1.heap.size:=by
  rcases Nat.lt_or_ge t w1.heap.size with h'|h'
  ·exact h'
  ·have:=HT.out;simp[Array.getElem?_eq_none h'] at this
 have hb2:w2.heap[b]? =some (.cells #[.pointer (some ⟨b,0,none⟩),v] 84 (0,0)):=by
  rw[hgrow.block b (by simp;omega) (fun e=>hne e.symm),Lib.alloc_old w1 _ b hlt];exact hbk
 have ht2:Hid (w2.heap[t]? =some o):=zi (by
  rw[hgrow.block t (by simp;omega) (fun e=>hvt e.symm),Lib.alloc_old w1 _ t hlt2];exact HT.out)
 have d0:w2.cell? ⟨b,0,none⟩=some (.pointer (some ⟨b,0,none⟩)):=by rw[Lib.cell_of_heap hb2];rfl
 have d1:w2.cell? ⟨b,1,none⟩=some v:=by rw[Lib.cell_of_heap hb2];rfl
 have f1:w2.frozen? ⟨b,1,none⟩=false:=Lib.frozen_of_heap hb2 1;obtain⟨g,cap,rfl⟩:∃g cap,v'=.slice (some ⟨g,0,none⟩) (bs.length+1) cap:=by
  rcases hown'.2 with⟨_,h0⟩|⟨g,cap,cur,hv,_⟩
  ·omega
  ·exact⟨g,cap,hv⟩
 go_wp2;go_ret;refine⟨rfl,⟨?_,?_⟩,(zt HF.out.1).trans ht2.out⟩
 ·exact Lib.BuilderAt.put (T:=84) (e:=5) hB hb2 (bs':=bs ++ [.int .u8 c]) (by simpa using hown') (by decide)
 ·exact ((hb1.alloc (by have:=hb1.size;omega) _).grown hgrow (by have:=hb1.size;simp;omega) (fun k hk=>(hown.lt k hk).1)).setCell (p:=⟨b,1,none⟩) hB _
theorem Bd.writeFar{w0 w:World}{b t:Nat}{o:Obj}{ob:ByteArray}(h:Bd w0 b ob w)(hs:ob.size<=2000000000000)(c:UInt8)(ht:w.heap[t]? =some o)(hf:zdh b t w):
 Calls prog 52 #[.pointer (some ⟨b,0,none⟩),.int .u8 (c.toNat:Int)] w fun e w'=>e=.returned .nilIface/\Bd w0 b (ob ++ ⟨#[c]⟩) w'/\w'.heap[t]? =some o:=
 (Vl w0.heap.size b t o _ (c.toNat:Int) w h.1 (pN (Nat.le_of_eq (by rw[Lib.byteCells_length];exact congrArg (· +1) (by simp:ob.data.toList.length=ob.size))) (by omega:ob.size+1<=140737488355328)) h.2.size ht hf).mono fun e w' ⟨h1,⟨h2,h3⟩,h4⟩=>⟨h1,⟨.inr (by
  have e:Lib.byteCells (ob ++ ⟨#[c]⟩).data.toList=Lib.byteCells ob.data.toList ++ [.int .u8 c.toNat]:=by rw[zq];simp[Lib.byteCells]
  rw[e];exact h2),h.2.trans h3⟩,h4⟩
end
section
open Go.RowKit Lode Go.Shelf
attribute [local go_sem ↓] Go.wp_at_zero Go.wp_at_succ
open Go.Proofs.Tryz
theorem JW:∀(l:List yp) (j:Nat) (h:j<l.length),(ky l)[j*4]? =some (.int .u8 l[j].kind)/\(ky l)[j*4+1]? =some (.string ⟨l[j].text.toArray⟩)/\(ky l)[j*4+2]? =some (.int .i64 l[j].at_)/\(ky l)[j*4+3]? =some (.string ⟨(yV l[j].kind l[j].text).1.toArray⟩)
 |t :: l,0,_=>⟨rfl,rfl,rfl,rfl⟩
 |t :: l,j+1,h=>by
  have:=JW l j (by simpa using h);have e:ky (t :: l)=zhp t ++ ky l:=rfl;have e4:∀i,(ky (t :: l))[i+4]? =(ky l)[i]? :=fun i=>by
   rw[e,wM (by simp)];simp
  rw[show (j+1)*4=j*4+4 by omega,show j*4+4+1=j*4+1+4 by omega,show j*4+4+2=j*4+2+4 by omega,show j*4+4+3=j*4+3+4 by omega,e4,e4,e4,e4];exact this
def SpC(g:Nat)(l:List yp)(w:World):Prop:=∀(j:Nat) (h:j<l.length),w.cell? ⟨g,j*4,none⟩=some (.int .u8 l[j].kind)/\w.cell? ⟨g,j*4+1,none⟩=some (.string ⟨l[j].text.toArray⟩)/\w.cell? ⟨g,j*4+2,none⟩=some (.int .i64 l[j].at_)/\w.cell? ⟨g,j*4+3,none⟩=some (.string ⟨(Za (kt l[j])).toArray⟩)
theorem SpC.later{g:Nat}{l:List yp}{w w':World}(h:SpC g l w)(hb:Below w.heap.size w w'):SpC g l w':=fun j hj=>by
 obtain⟨a,b,c,d⟩:=h j hj;exact⟨zj hb a,zj hb b,zj hb c,zj hb d⟩
theorem zky{w:World}{b:Nat}{v:Value}{l:List yp}(h:w.ownsRow b 68 4 v l.length (ky l)):∃p cap,v=.slice p l.length cap/\(l=[]\/∃g,p=some ⟨g,0,none⟩/\SpC g l w):=by
 obtain⟨_,⟨hv,h0⟩|⟨g,cap,cur,rfl,h1⟩⟩:=id h
 ·have:l=[]:=pM h0;subst this;exact⟨none,0,hv,.inl rfl⟩
 ·refine⟨_,cap,rfl,.inr ⟨g,rfl,fun j hj=>?_⟩⟩;have hc:=JW l j hj;exact⟨(World.ownsRow.cellAt h (j*4) (by omega)).trans hc.1,(World.ownsRow.cellAt h (j*4+1) (by omega)).trans hc.2.1,(World.ownsRow.cellAt h (j*4+2) (by omega)).trans hc.2.2.1,(World.ownsRow.cellAt h (j*4+3) (by omega)).trans hc.2.2.2⟩
def zlI(l:List yp)(n:Nat)(w:World)(i:Value)(wr:World):Prop:=∃(k:Nat) (ob:ByteArray),i=.int .i64 k/\k<=n/\Bd w w.heap.size ob wr/\ob.data.toList=xW ((l.take k).map kt)/\ob.size<=1000*k
def ziL(r:List UInt8×Nat)(w:World)(e:Ending)(w':World):Prop:=e=.returned (.tuple #[.string ⟨r.1.toArray⟩,.int .i64 r.2])/\Below w.heap.size w w'
theorem VH{x:Nat×List UInt8}(h:kK x):(Za x).length<=122:=Qc h.eq
theorem zgs(v:Value)(l:List yp)(w:World)(hv:TSl w v l)(hl:l.length<=1000000)(ht:∀t∈l,t.text.length<=1000000000000)(hG:qH w):
 Calls prog 23 #[v] w (ziL (zcP l) w):=by
 have HA:=zi (Vt v l w hv hl ht hG);obtain⟨p0,cp0,rfl,_⟩:=hv;generalize hr:zcP l=r;replace hr:=hr.symm;unfold zcP at hr;unfold ziC at HA;by_cases h0:yT l=0
 ·rw[if_neg (by simp[h0])] at hr;have hlen:l.length<=1200:=by
   unfold yT at h0;rcases Nat.lt_or_ge 1200 l.length with h|h
   ·rw[if_pos h] at h0;cases h0
   ·exact h
  have hsp:∀x∈l.map kt,kK x:=fun x hx=>by
   unfold yT at h0;rw[if_neg (by omega)] at h0;split at h0
   ·rename_i hall;rw[pO] at hall;obtain⟨t,ht,rfl⟩:=List.mem_map.1 hx;have:=hall t ht;simpa[zcy,kK,kt] using this
   ·cases h0
  have HG:=zi hG;have Hr:=zi hr;have Hsp:=zi hsp;have HA2:=HA.out.mono (R':=fun e w'=>(∃v,e=.returned (.tuple #[v,.int .i64 0])/\w'.ownsRow w.heap.size 68 4 v l.length (ky l))/\Below w.heap.size w w') (fun e w' ⟨h,hb⟩=>by
   rcases h with⟨_,h⟩|⟨h,_⟩
   ·exact⟨h,hb⟩
   ·exact absurd h0 h)
  have HA2:=zi HA2;clear hr hG hsp HA h0 ht hl;generalize hn:l.length=n at *;have Hn:=zi hn;clear hn;go_enter func23,ntmps23;go_wp2_with fail;refine HA2.out.mono ?_;rintro e w1 ⟨⟨v1,rfl,hrow⟩,hb1⟩;rw[<-Hn.out] at hrow;obtain⟨p1,cp1,rfl,hcells⟩:=zky hrow;rw[Hn.out];have HC:=zi hcells;clear hrow hcells;go_wp2;go_loopw [19] (zlI l n w1) (fun i _=>n-(intOf i).toNat)
  case atStart=>exact⟨0,ByteArray.empty,rfl,by omega,Bd.fresh w1 _ rfl,by simp[xW],by decide⟩
  case round=>
   obtain⟨k,ob,rfl,hk,hb,hob,hsz⟩:=hrel;by_cases hlt:k<n
   ·have hkl:k<l.length:=by rw[Hn.out];exact hlt
    have hl0:l≠[]:=fun e=>by rw[e] at hkl;simp at hkl
    obtain⟨g,rfl,q⟩:=HC.out.resolve_left hl0;have q:=q.later hb.2;obtain⟨c0,c1,c2,c3⟩:=q k hkl;have hstep:=zfX ((l.take k).map kt) (kt l[k]);rw[show (l.take k).map kt ++ [kt l[k]]=(l.take (k+1)).map kt from by rw[<-List.take_append_getElem hkl,List.map_append];rfl,<-hob] at hstep;have hsep0:k=0->VK ((l.take k).map kt) (kt l[k])=[]:=fun e=>by subst e;rfl
    have hsepS:∀m (hm:m<l.length),k=m+1->VK ((l.take k).map kt) (kt l[k])=cond (jy (kt l[m]) (kt l[k])) [32] []:=fun m hm e=>by
     have:(l.take k).map kt=(l.take m).map kt ++ [kt l[m]]:=by rw[e,<-List.take_append_getElem hm,List.map_append];rfl
     unfold VK;rw[this,List.getLast?_concat];cases h9:jy (kt l[m]) (kt l[k]) <;> simp[h9]
    have hxl:=VH (Hsp.out (kt l[k]) (List.mem_map_of_mem (wC hkl)));have Hob:=zi hob;clear hob hl0;by_cases hk0:k=0
    ·have hsep:=hsep0 hk0;rw[hsep,wJ] at hstep;clear hsep hsep0 hsepS;subst hk0;generalize l[0]=x at *;obtain⟨k1,t1,a1⟩:=x;simp only[kt] at c0 c1 c2 c3 hstep hxl;generalize Za (k1,t1)=s1 at *;have Hstep:=zi hstep;have hsz1:(⟨s1.toArray⟩:ByteArray).size=s1.length:=rfl;have hb2:=hb.later (zf wr (.cells #[.int .u8 k1,.string ⟨t1.toArray⟩,.int .i64 a1,.string ⟨s1.toArray⟩] 68 (0,0)));clear hstep q;go_wp2_with fail;go_quiet (fail);have hb3:=hb2.later (ym bR nq);have hW:=zi (hb3.writeStr ⟨s1.toArray⟩ (by omega));go_wp2_with (go_at_call 46;refine hW.out.mono ?_;rintro e w2 ⟨rfl,hb4⟩);go_roundw
     case rel=>exact⟨1,_,by go_num,by omega,hb4,by rw[zq,Hstep.out],by rw[ByteArray.size_append,hsz1];omega⟩
     case measure=>simp[intOf];omega
    ·obtain⟨m,hm⟩:∃m,k=m+1:=⟨k-1,by omega⟩;have hml:m<l.length:=by omega
     have hmn:m<n:=by omega
     obtain⟨d0,d1,d2,d3⟩:=q m hml;have hsep:=hsepS m hml hm;rw[hsep] at hstep;have hsx:=Hsp.out (kt l[m]) (List.mem_map_of_mem (wC hml));have hsy:=Hsp.out (kt l[k]) (List.mem_map_of_mem (wC hkl));have hxl1:=VH hsx;clear hsep0 hsepS hsep;generalize l[m]=y at *;generalize l[k]=x at *;obtain⟨k2,t2,a2⟩:=x;obtain⟨k1,t1,a1⟩:=y;simp only[kt] at c0 c1 c2 c3 d0 d1 d2 d3 hstep hxl hxl1;have HAp:=zi (fun (W:World) (hb:Below w.heap.size w W)=>zcO k1 t1 a1 (Za (k1,t1)) k2 t2 a2 (Za (k2,t2)) W (by omega) (by omega) (HG.out.later hb));rw[show Qk k1 t1 (Za (k1,t1)) k2 t2 (Za (k2,t2))=jy (k1,t1) (k2,t2) from rfl] at HAp;generalize Za (k1,t1)=s1 at *;generalize Za (k2,t2)=s2 at *;generalize jy (k1,t1) (k2,t2)=ap at *;have Hstep:=zi hstep;have hsz1:(⟨s2.toArray⟩:ByteArray).size=s2.length:=rfl;have hba:=zf wr (.cells #[.int .u8 k2,.string ⟨t2.toArray⟩,.int .i64 a2,.string ⟨s2.toArray⟩] 68 (0,0));have hb2:=hb.later hba;have hx0:=zk wr (.cells #[.int .u8 k2,.string ⟨t2.toArray⟩,.int .i64 a2,.string ⟨s2.toArray⟩] 68 (0,0));have hbw:=zg (zg hb1 hb.2) hba;have z1:decide ((0:Int)<(k:Int))=true:=by rw[pH];omega
     have z1':decide (0<k)=true:=by rw[pH];omega
     have z2:IntKind.i64.wrap ((k:Int)-1)=(m:Int):=by rw[pJ _ ⟨by omega,by omega⟩];omega
     have Hm:=zi hm;clear hstep q hsx hsy hm;go_wp2_with fail;have hS:∀W,Cl (wr.alloc (.cells #[.int .u8 k2,.string ⟨t2.toArray⟩,.int .i64 a2,.string ⟨s2.toArray⟩] 68 (0,0))).drew W->(W.cell? ⟨g,m*4,none⟩=some (.int .u8 k1)/\W.cell? ⟨g,m*4+1,none⟩=some (.string ⟨t1.toArray⟩)/\W.cell? ⟨g,m*4+2,none⟩=some (.int .i64 a1)/\W.cell? ⟨g,m*4+3,none⟩=some (.string ⟨s1.toArray⟩)/\W.cell? ⟨wr.heap.size,0,none⟩=some (.int .u8 k2)/\W.cell? ⟨wr.heap.size,1,none⟩=some (.string ⟨t2.toArray⟩)/\W.cell? ⟨wr.heap.size,2,none⟩=some (.int .i64 a2)/\W.cell? ⟨wr.heap.size,3,none⟩=some (.string ⟨s2.toArray⟩)):=fun W h=>⟨zj h.below (zj hba d0),zj h.below (zj hba d1),zj h.below (zj hba d2),zj h.below (zj hba d3),zj h.below (zd hx0 0),zj h.below (zd hx0 1),zj h.below (zd hx0 2),zj h.below (zd hx0 3)⟩
     clear d0 d1 d2 d3 c0 c1 c2 c3;refine zaQ [(0,0),(1,0),(2,0),(3,0),(4,0),(5,0),(6,0),(7,1),(8,1),(9,2),(10,0)] ?_;refine goM ?_;refine zZ rfl rfl (fun K hK W hW=>?_);go_simp;refine (HAp.out _ (zg hbw.drew hW.below)).mono ?_;rintro e w4 ⟨rfl,hb4⟩;go_simp;refine⟨ux.2 hb4,hK _ _ ?_⟩;clear hK K
     try simp only[Act.put,yG,yE,yF]
     refine goM ?_;refine zC fun W' hW'=>?_
     have hbx:=zg (zg (zg bR.drew hW.below) hb4) hW'.below;have hb5:=hb2.later hbx;have hx5:=zh hbx hx0;have e3:W'.cell? ⟨wr.heap.size,3,none⟩=some (.string ⟨s2.toArray⟩):=zd hx5 3;cases ap with
     |true=>
      have hW1:=zi (hb5.writeFar (by omega) 32 hx5 (zdh.of hb (zg hba hbx) (pE _)));go_wp2_with fail;refine hW1.out.mono ?_;rintro e w5 ⟨rfl,hb6,hx6⟩;have hW2:=zi (hb6.writeStr ⟨s2.toArray⟩ (by rw[ByteArray.size_append];have e1:(⟨#[32]⟩:ByteArray).size=1:=rfl;omega));have e4:w5.cell? ⟨wr.heap.size,3,none⟩=some (.string ⟨s2.toArray⟩):=zd hx6 3;go_wp2_with fail;refine hW2.out.mono ?_;rintro e w6 ⟨rfl,hb7⟩;go_wp2;go_roundw
      case rel=>exact⟨k+1,_,by go_num,by omega,hb7,by rw[zq,zq,Hstep.out,wS];rfl,by rw[ByteArray.size_append,ByteArray.size_append,hsz1];have e1:(⟨#[32]⟩:ByteArray).size=1:=rfl;omega⟩
      case measure=>simp[intOf];omega
     |false=>
      have hW2:=zi (hb5.writeStr ⟨s2.toArray⟩ (by omega));go_wp2_with fail;refine hW2.out.mono ?_;rintro e w5 ⟨rfl,hb6⟩;go_wp2;go_roundw
      case rel=>exact⟨k+1,_,by go_num,by omega,hb6,by rw[zq,Hstep.out];rfl,by rw[ByteArray.size_append,hsz1];omega⟩
      case measure=>simp[intOf];omega
   ·have hkn:k=n:=by omega
    have htk:l.take k=l:=List.take_of_length_le (by rw[Hn.out];omega);rw[htk] at hob;have hL:=zi hb.len;have hb2:=zg hb1 hb.2;have Hob:=zi hob;subst hkn;have hobl:ob.size=(xW (l.map kt)).length:=by rw[<-hob];simp
    clear hob htk;by_cases h3:3000<ob.size
    ·have hr2:r=([],5):=by rw[Hr.out,if_pos (by omega)]
     subst hr2;have z1:decide ((3000:Int)<(ob.size:Int))=true:=by rw[pH];omega
     clear hobl;go_wp2_with (go_at_call 53;refine hL.out.mono ?_;rintro e w2 ⟨rfl,rfl⟩);go_ret2;exact⟨rfl,hb2⟩
    ·have hr2:r=(ob.data.toList,0):=by rw[Hr.out,if_neg (by omega),Hob.out]
     subst hr2;have z1:decide ((3000:Int)<(ob.size:Int))=false:=by rw[wO];omega
     have hS:=zi hb.str;clear hobl;go_wp2_with (first|(go_at_call 53;refine hL.out.mono ?_;rintro e w2 ⟨rfl,rfl⟩)|(go_at_call 48;refine hS.out.mono ?_;rintro e w2 ⟨rfl,hf2⟩));go_ret2;exact⟨by rw[show (⟨ob.data.toList.toArray⟩:ByteArray)=ob from (Vb ob).symm];rfl,zg hb1 hf2.2⟩
 ·have hr2:r=([],yT l):=by rw[hr,if_pos h0]
  subst hr2;have HA2:=HA.mono (R':=fun e w'=>e=.returned (.tuple #[.slice none 0 0,.int .i64 (yT l)])/\Below w.heap.size w w') (fun e w' ⟨h,hb⟩=>by
   rcases h with⟨h,_⟩|⟨_,h⟩
   ·exact absurd h h0
   ·exact⟨h,hb⟩)
  have HA2:=zi HA2;generalize yT l=se at *;have h0':((se:Int) != 0)=true:=by rw[wT];omega
  clear hr HA;go_enter func23,ntmps23;go_wp2_with fail;refine HA2.out.mono ?_;rintro e w1 ⟨rfl,hb1⟩;go_wp2;go_ret2;exact⟨rfl,hb1⟩
def ziH(w:World)(g off:Nat)(l:List yp):Prop:=∀(j:Nat) (h:j<l.length),w.cell? ⟨g,off+j*3,none⟩=some (.int .u8 l[j].kind)/\w.cell? ⟨g,off+j*3+1,none⟩=some (.string ⟨l[j].text.toArray⟩)/\w.cell? ⟨g,off+j*3+2,none⟩=some (.int .i64 l[j].at_)
theorem Xt:∀(l:List yp),∀u∈yI l,u.oneCell'=true
 |[],u,h=>by cases h
 |t :: l,u,h=>by
  have e:yI (t :: l)=qM t ++ yI l:=rfl;rw[e,pX] at h;rcases h with h|h
  ·simp only[qM,wD,wH,or_false] at h;rcases h with rfl|rfl|rfl <;> rfl
  ·exact Xt l u h
theorem zgp{w:World}{g off:Nat}{l:List yp}(h:ziH w g off l)(j:Nat)(u:Value)(hu:(yI l)[j]? =some u):w.cell? ((⟨g,off,none⟩:Addr).add j)=some u:=by
 have e1:(⟨g,off,none⟩:Addr).add j=⟨g,off+j,none⟩:=by
  unfold Addr.add;split
  ·rename_i h;subst h;rfl
  ·rfl
 rw[e1];have hj:j<(yI l).length:=(gtL hu);rw[ZL] at hj;have hk:j / 3<l.length:=by omega
 obtain⟨c0,c1,c2⟩:=h (j / 3) hk;obtain⟨t0,t1,t2⟩:=kq l (j / 3) hk;have hr:j=j / 3*3\/j=j / 3*3+1\/j=j / 3*3+2:=by omega
 rcases hr with hr|hr|hr
 ·rw[hr] at hu;rw[t0] at hu;cases hu;rw[<-hr] at c0;exact c0
 ·rw[hr] at hu;rw[t1] at hu;cases hu;rw[Nat.add_assoc,<-hr] at c1;exact c1
 ·rw[hr] at hu;rw[t2] at hu;cases hu;rw[Nat.add_assoc,<-hr] at c2;exact c2
end
section
open Go.RowKit Lode Go.Shelf
open Go.Proofs.Tryz
def OSc(w:World)(v:Value)(l:List yp):Prop:=∃(p:Option Addr) (cap:Nat),v=.slice p l.length cap/\l.length<=cap/\((p=none/\cap=0)\/∃g off,p=some ⟨g,off,none⟩/\ziH w g off l)
theorem kl.osc{w:World}{b:Nat}{v:Value}{l:List yp}(h:kl w b v l):OSc w v l:=by
 obtain⟨_,⟨hv,h0⟩|⟨g,cap,cur,rfl,h1⟩⟩:=id h
 ·have:l=[]:=pM h0;subst this;exact⟨none,0,hv,pE _,.inl ⟨rfl,rfl⟩⟩
 ·refine⟨_,cap,rfl,h1.2.2.1,.inr ⟨g,0,rfl,fun j hj=>?_⟩⟩;have hc:=kq l j hj;have e0:0+j*3=j*3:=Nat.zero_add _;rw[e0];exact⟨(World.ownsRow.cellAt h (j*3) (by omega)).trans hc.1,(World.ownsRow.cellAt h (j*3+1) (by omega)).trans hc.2.1,(World.ownsRow.cellAt h (j*3+2) (by omega)).trans hc.2.2⟩
theorem OSc.later{w w':World}{v:Value}{l:List yp}(h:OSc w v l)(hb:Below w.heap.size w w'):OSc w' v l:=by
 obtain⟨p,cap,hv,hl,h⟩:=h;refine⟨p,cap,hv,hl,h.imp id fun ⟨g,off,hp,hc⟩=>⟨g,off,hp,fun j hj=>?_⟩⟩;obtain⟨a,b,c⟩:=hc j hj;exact⟨zj hb a,zj hb b,zj hb c⟩
theorem Jn(l m:List yp):yI (l ++ m)=yI l ++ yI m:=by unfold yI;exact List.flatMap_append
theorem JY(w:World)(base:Nat)(ty:TypeId)(v:Value)(l:List yp)(hown:kl w base v l)(x:Value)(m:List yp)(hx:OSc w x m)(hlen:l.length+m.length<=1000000)(hbase:base<=w.heap.size):
 ∃v' w',(Builtin.append_ #[30,30] ty #[v,x]).run prog w=.ok v' w'/\kl w' base v' (l ++ m)/\w.grownBy w' v.ownBlock:=by
 obtain⟨i0,hi,hz0,hz1,hz2⟩:=info_parts Tryz.infoTok;obtain⟨p,cap,rfl,hcap,⟨rfl,rfl⟩|⟨g,off,rfl,hc⟩⟩:=hx
 ·have hm:m=[]:=pM (by omega);subst hm;refine⟨v,w,run_append_owned_none (P:=prog) (w:=w) base 30 ty 37 i0 3 underlying30 hi v _ _ hown,by rw[wN];exact hown,⟨rfl,rfl,rfl,pE _,fun _ _ _=>rfl⟩⟩
 ·obtain⟨v',w',h1,h2,h3,_⟩:=run_append_own (P:=prog) w base 30 ty 37 i0 _ 3 32 underlying30 hi hz0 hz1 hz2 rfl (by decide) v l.length (yI l) hown ⟨g,off,none⟩ m.length cap (yI m)
   (ZL m) (fun j u hu=>zgp hc j u hu) (Xt m) (by unfold maxLen;omega) (by omega) hbase
  refine⟨v',w',h1,?_,h3⟩;unfold kl;rw[pC,Jn];exact h2
theorem Vn{o:Oper}{a:Act}{w:World}{K:Act->World->Prop}{Q:Exit->Act->World->Prop}(s x:Operand)(ho:o.op=.call {callee:=.builtin .append,args:= #[s,x],argTypes:= #[30,30]})
 (base:Nat) (v:Value) (l:List yp) (hs:a.eval s=v) (hown:kl w base v l) (xv:Value) (m:List yp) (hxv:a.eval x=xv) (hx:OSc w xv m) (hlen:l.length+m.length<=1000000) (hbase:base<=w.heap.size)
 (h:∀v' w',kl w' base v' (l ++ m)->w.grownBy w' v.ownBlock->K (a.put o.dst v') w'):o.wp prog a w K Q:=by
 obtain⟨v',w',hr,h2,h3⟩:=JY w base o.type v l hown xv m hx hlen hbase;unfold Oper.wp execOp;simp only[ho,resolve,invoke,builtin,Sem.run_bind,Sem.run_pure,Result.andThen_ok,List.map_toArray,List.map_cons,List.map_nil,hs,hxv,hr];exact h v' w' h2 h3
end
section
open Go.RowKit Lode Go.Shelf
attribute [local go_sem ↓] Go.wp_at_zero Go.wp_at_succ
open Go.Proofs.Tryz
theorem zdj{w:World}{ops:Array Oper}{rest:List Oper}{o:Oper}{a:Act}{Q:Exit->Act->World->Prop}(hgd:o.guard=none)(s x:Operand)(ho:o.op=.call {callee:=.builtin .append,args:= #[s,x],argTypes:= #[30,30]})
 (base:Nat) (v:Value) (l:List yp) (hs:a.eval s=v) (hown:kl w base v l) (xv:Value) (m:List yp) (hxv:a.eval x=xv) (hx:OSc w xv m) (hlen:l.length+m.length<=1000000) (hbase:base<=w.heap.size)
 (h:∀v' w',kl w' base v' (l ++ m)->w.grownBy w' v.ownBlock->wpList prog ops Q rest (a.put o.dst v') w'):wpList prog ops Q (o :: rest) a w:=
 wpList_plain hgd fun _ hK=>Vn s x ho base v l hs hown xv m hxv hx hlen hbase fun v' w' h1 h2=>hK _ _ (h v' w' h1 h2)
theorem Km{s:List UInt8}(h:(zW s).2.2=0):Ve (zW s).1:=by
 obtain⟨_,st,hp⟩:=zhG (s:=s) (t:=(zW s).1) (p:=(zW s).2.1) (by rw[<-h]);exact hp.well
theorem zgw(s:ByteArray)(w:World)(hG:qH w):Calls prog 7 #[.string s] w (kQ w (.bool true)):=by
 have hKn:=zi (fun W (hW:Below w.heap.size w W)=>zd3 W (hG.later hW));by_cases hs:700<s.size
 ·have hs':(700:Int)<(s.size:Int):=by omega
  have B0:=zi (pF w.heap.size w);go_enter func7,ntmps7;go_wp2_with fail;refine (hKn.out _ B0.out).mono ?_;rintro e w1 ⟨rfl,hb⟩;go_wp2;go_ret;exact⟨rfl,hb⟩
 have hs':¬((700:Int)<(s.size:Int)):=by omega
 have HR:=zi (Zf s w (by omega) hG);by_cases herr:(Lode.yQ s.data.toList).2.2=0
 ·obtain⟨hrd,hL1200,hchk,_⟩:=Jt herr;obtain⟨hlt1,hlt2,M,hM,hMk⟩:=zdu herr;have hsame:=zdW herr (s':=xW ((Lode.yQ s.data.toList).1.map kt)) (by rw[hM]) (by rw[hM];exact hMk);have hsl:s.data.toList.length=s.size:=by simp
  rw[hsl] at hlt2;have HT:=zi (fun (v:Value) (W:World) (hv:TSl W v (Lode.yQ s.data.toList).1) (hb:Below w.heap.size w W)=>(show Calls prog 23 #[v] W (ziL (xW ((Lode.yQ s.data.toList).1.map kt),0) W) from by
   have:=zgs v _ W hv (by omega) (fun t ht=>by
    have h1:=hrd.k.allSpelt _ (List.mem_map_of_mem ht);have h2:=ZR h1;exact pN h2 (by omega)) (hG.later hb)
   rw[hlt1] at this;exact this))
  generalize hT:xW ((Lode.yQ s.data.toList).1.map kt)=T at *;have HP1:=zi (fun (W:World) (hb:Below w.heap.size w W)=>kW s W (by omega) (hG.later hb));have HP2:=zi (fun (W:World) (hb:Below w.heap.size w W)=>(show Calls prog 14 #[.string ⟨T.toArray⟩] W (Qz (zW T) W) from kW ⟨T.toArray⟩ W (by show T.length<=_;omega) (hG.later hb)));have hw1:(zW s.data.toList).2.2=0->Ve (zW s.data.toList).1:=Km;have hw2:(zW T).2.2=0->Ve (zW T).1:=Km;generalize zW s.data.toList=r1 at *;generalize zW T=r2 at *;generalize Lode.yQ s.data.toList=R at *;obtain⟨L,ra,re⟩:=R;simp only at herr hL1200;subst herr;have HG:=zi hG;have Hsame:=zi hsame;have Hw1:=zi hw1;have Hw2:=zi hw2;have HL:=zi hL1200;clear hM hMk hlt1 hrd hchk hG hsame hw1 hw2 hL1200 hT hlt2;go_enter func7,ntmps7;go_wp2_with fail;refine HR.out.mono ?_;rintro e w1 ⟨v1,rfl,ht1,hb1⟩;obtain⟨p1,cp1,hv1,_⟩:=ht1.sl;subst hv1;have hA2:=zf w1 (.cells #[] 37 (0,0));have HO1:=zi (ht1.osc.later hA2);have hbA:=zi (zg hb1 hA2);have HO2:=zi (show kl (w1.alloc (.cells #[] 37 (0,0))) w1.heap.size (.slice (some ⟨w1.heap.size,0,none⟩) 0 0) [] from zg6 w1 w1.heap.size (pE _));have hsz1:w1.heap.size<=(w1.alloc (.cells #[] 37 (0,0))).heap.size:=by simp
  have hB1:=zi hb1;clear ht1 hb1 hA2;go_wp2_with (at_builtin;go_loud (refine zdj rfl _ _ rfl w1.heap.size _ [] rfl HO2.out _ L rfl HO1.out (by have:=HL.out;simp;omega) hsz1 ?_));intro v2 w2 hT2 hg2;have hb2:=vJ (zf w1 (.cells #[] 37 (0,0))) HO2.out hg2;have hw2b:=zg hB1.out hb2;clear hg2;go_wp2_with fail;refine (HT.out v2 w2 hT2.sl hw2b).mono ?_;rintro e w3 ⟨rfl,hb3⟩;have hw3:=zi (zg hw2b hb3);clear hT2 hb2 hw2b hb3 HO1 HO2 hbA hsz1 HR HT;go_wp2_with fail;refine (HP1.out w3 hw3.out).mono ?_;obtain⟨t1,a1,c1⟩:=r1;obtain⟨t2,a2,c2⟩:=r2;simp only at Hsame Hw1 Hw2;obtain rfl:c2=c1:=Hsame.out.1;rintro e w4 ⟨hb4,nv,iv,rfl,hT1⟩;obtain⟨p1,k1,q1,d1,rfl,rfl⟩:=hT1.o.form;simp only at hT1;generalize hnl:t1.nodes.length=nl at *;generalize hil:t1.items.length=il at *;have hz:=zk w4 (.cells #[.slice none 0 0,.slice none 0 0] 26 (0,0));have hA:=zf w4 (.cells #[.slice p1 nl k1,.slice q1 il d1] 26 (0,0));have hTa:=zi (hT1.below hA);have hwa:=zi (zg (zg hw3.out hb4) hA);have hr1:=zi (zk w4 (.cells #[.slice p1 nl k1,.slice q1 il d1] 26 (0,0)));have e0:=zd hz 0;have e1:=zd hz 1;have f0:=zl hz 0;have f1:=zl hz 1;replace hnl:=zi hnl;replace hil:=zi hil;clear hz hA hT1 hb4 HP1;go_wp2_with fail;refine (HP2.out _ hwa.out).mono ?_;rintro e w5 ⟨hb5,nv2,iv2,rfl,hT2⟩;obtain⟨p2,k2,q2,d2,rfl,rfl⟩:=hT2.o.form;simp only at hT2;generalize hnl2:t2.nodes.length=nl2 at *;generalize hil2:t2.items.length=il2 at *;have hq1:=zh hb5 hr1.out;have hz:=zk w5 (.cells #[.slice none 0 0,.slice none 0 0] 26 (0,0));have hA:=zf w5 (.cells #[.slice p2 nl2 k2,.slice q2 il2 d2] 26 (0,0));have hr2:=zk w5 (.cells #[.slice p2 nl2 k2,.slice q2 il2 d2] 26 (0,0));have hTb:=zi ((hTa.out.below hb5).below hA);have hTc:=zi (hT2.below hA);have hwb:=zi (zg (zg hwa.out hb5) hA);have hq2:=zh hA hq1;have m0:=zd hq2 0;have m1:=zd hq2 1;have g0:=zd hr2 0;have g1:=zd hr2 1;have e0:=zd hz 0;have e1:=zd hz 1;have f0:=zl hz 0;have f1:=zl hz 1;replace hnl2:=zi hnl2;replace hil2:=zi hil2;clear hq1 hq2 hz hA hr2 hb5 hr1 hT2 HP2 hTa;by_cases hc:c2=0
  ·subst hc;have hAl:=zi (fun W hW=>zgP t1 t2 (.slice p1 nl k1) (.slice q1 il d1) (.slice p2 nl2 k2) (.slice q2 il2 d2) W (hTb.out.o.below hW) (hTc.out.o.below hW) (HG.out.later (zg hwb.out hW)) (Hw1.out rfl) (Hw2.out rfl));rw[Hsame.out.2 rfl] at hAl;go_wp2_with fail;refine (hAl.out _ bR).mono ?_;rintro e w6 ⟨rfl,hb6⟩;have hw6:=zg hwb.out hb6;go_wp2_with fail;refine (hKn.out w6 hw6).mono ?_;rintro e w7 ⟨rfl,hb7⟩;have hw7:=zg hw6 hb7;go_wp2;go_ret;exact⟨rfl,hw7⟩
  ·have hc':¬((c2:Int)=0):=by omega
   go_wp2_with fail;refine (hKn.out _ hwb.out).mono ?_;rintro e w7 ⟨rfl,hb7⟩;have hw7:=zg hwb.out hb7;go_wp2;go_ret;exact⟨rfl,hw7⟩
 ·have herr':¬(((Lode.yQ s.data.toList).2.2:Int)=0):=by omega
  generalize Lode.yQ s.data.toList=R at *;obtain⟨L,ra,re⟩:=R;simp only at herr';clear herr;go_enter func7,ntmps7;go_wp2_with fail;refine HR.out.mono ?_;rintro e w1 ⟨v1,rfl,ht1,hb1⟩;go_wp2_with fail;refine (hKn.out w1 hb1).mono ?_;rintro e w2 ⟨rfl,hb2⟩;have hw2:=zg hb1 hb2;go_wp2;go_ret;exact⟨rfl,hw2⟩
end
end Go.Proofs.YtnncmdpopgkibaaGreatDoor
