/-
  A part of the proof: contracts of functions; no conditions.
-/
import Derived.Test.YtnncmdpopgkibaaGreatDoorKA
import Derived.Lib.QuietBelow
import Derived.Deep.QuietTactic
import Derived.RegionTactic
import Derived.Still
import Derived.RangeFuncNested
import Derived.RangeFuncBound
import Derived.RangeFuncCalls
import Derived.RangeFuncLeaves
import Derived.RangeFuncKeeps
import Derived.Deep.MidRow
import Derived.Shelf.Abstract
import Derived.Shelf.RegionOpen
import Derived.WalkKit
import Derived.OwnWalkIn
import Derived.TacticsInMore
import Derived.LoopNIn
import Derived.LoopIn
import Derived.Deep.Onto
set_option maxRecDepth 100000
set_option maxHeartbeats 40000000
set_option linter.unusedSimpArgs false
set_option linter.unusedVariables false
namespace Go.Proofs.YtnncmdpopgkibaaGreatDoor
section
open Go.RowKit Lode Go.Shelf
attribute [local go_sem ↓] Go.wp_at_zero Go.wp_at_succ
open Go.Proofs.Tryz
theorem XA(c:UInt8):(zV c).length<=2:=by
 unfold zV;split
 ·simp
 ·split <;> simp
theorem zha(s:ByteArray)(k:Nat)(hlt:k<s.size):s.data.toList.take (k+1)=s.data.toList.take k ++ [s[k]]:=by
 have hk:k<s.data.toList.length:=by simpa using hlt
 rw[<-List.take_append_getElem hk];congr 2
theorem zh7(c:UInt8)(h1:32<=(c.toNat:Int))(h2:(c.toNat:Int)<=126):jW c=true:=(zbs c).2 (.inl ⟨h1,h2⟩)
def zkZ(w:World)(g:Nat)(l:List yp):Prop:=∀(j:Nat) (h:j<l.length),w.cell? ⟨g,j*3,none⟩=some (.int .u8 l[j].kind)/\w.cell? ⟨g,j*3+1,none⟩=some (.string ⟨l[j].text.toArray⟩)/\w.cell? ⟨g,j*3+2,none⟩=some (.int .i64 l[j].at_)
theorem kq:∀(l:List yp) (j:Nat) (h:j<l.length),(yI l)[j*3]? =some (.int .u8 l[j].kind)/\(yI l)[j*3+1]? =some (.string ⟨l[j].text.toArray⟩)/\(yI l)[j*3+2]? =some (.int .i64 l[j].at_)
 |[],_,h=>by cases h
 |t :: l,0,_=>⟨rfl,rfl,rfl⟩
 |t :: l,j+1,h=>by
  have:=kq l j (by simpa using h);have e:yI (t :: l)=qM t ++ yI l:=rfl;rw[e];have e0:(j+1)*3=(qM t).length+j*3:=by simp[qM];omega
  refine⟨?_,?_,?_⟩
  ·rw[e0,wM (by omega),Nat.add_sub_cancel_left];exact this.1
  ·rw[e0,wM (by omega),show (qM t).length+j*3+1-(qM t).length=j*3+1 from by omega];exact this.2.1
  ·rw[e0,wM (by omega),show (qM t).length+j*3+2-(qM t).length=j*3+2 from by omega];exact this.2.2
def TSl(w:World)(v:Value)(l:List yp):Prop:=∃(p:Option Addr) (cap:Nat),v=.slice p l.length cap/\(l=[]\/∃g,p=some ⟨g,0,none⟩/\zkZ w g l)
theorem kl.sl{w:World}{b:Nat}{v:Value}{l:List yp}(h:kl w b v l):TSl w v l:=by
 obtain⟨_,⟨hv,h0⟩|⟨g,cap,cur,rfl,h1⟩⟩:=id h
 ·have:l=[]:=pM h0;subst this;exact⟨none,0,hv,.inl rfl⟩
 ·refine⟨_,cap,rfl,.inr ⟨g,rfl,fun j hj=>?_⟩⟩;have hc:=kq l j hj;exact⟨(World.ownsRow.cellAt h (j*3) (by omega)).trans hc.1,(World.ownsRow.cellAt h (j*3+1) (by omega)).trans hc.2.1,(World.ownsRow.cellAt h (j*3+2) (by omega)).trans hc.2.2⟩
theorem zbe(R:Nat)(s:ByteArray)(a:Nat)(w:World)(hs:s.size<=1000000000000)(ha:a<s.size)(hRd:Rd w R s a)(h1:yg s[a]=true):
 Calls prog 66 #[.pointer (some ⟨R,0,none⟩)] w (Qy (yM (s.data.toList.drop a)) a w):=by
 obtain⟨wb,sb,hR,hwb,hsb,hne1,hne2⟩:=hRd;have hc:kH s[a]=1:=by simp[kH,h1]
 have hc0:w.cell? ⟨R,0,none⟩=some (.string s):=zd hR 0;have hc1:w.cell? ⟨R,1,none⟩=some (.int .i64 a):=zd hR 1;have hc2:w.cell? ⟨R,2,none⟩=some (.slice (some ⟨wb,0,none⟩) 44 44):=zd hR 2;have hn0:∀o,(w.alloc o).cell? ⟨R,0,none⟩=some (.string s):=fun o=>zj (zf w o) hc0
 have hn1:∀o,(w.alloc o).cell? ⟨R,1,none⟩=some (.int .i64 a):=fun o=>zj (zf w o) hc1
 have hlt:(a:Int)<(s.size:Int):=by omega
 obtain⟨m,hm,hmb⟩:∃m,yc (jX [1,3]) (s.data.toList.drop (a+1))=m/\a+1+m<=s.size:=⟨_,rfl,by
  have:=Yq (jX [1,3]) (s.data.toList.drop (a+1));simp at this ⊢;omega⟩
 have Hrun:=zi (fun (W:World) (q:∃n,W=((w.alloc (T0 a)).drewN n).alloc (CL [1,3]))=>YX R s a _ _ [1,3] w W hs ha hR (by decide) m hm q (w.heap.size+1) rfl);rw[zfl] at hm;have Hq:=zi (zdr s a m ha h1 hm);clear hm;have Hw:=zi (fun (x:ByteArray) (W:World) (hW:Below w.heap.size w W)=>zfL x W wb (zh hW hwb));generalize yM (s.data.toList.drop a)=q at *;have HR:=zi hR;clear hR hwb hsb;go_enter func66,ntmps66;go_wp2_with fail;go_quiet (fail);go_wp2_with (first
  |(go_at_call 92;refine (jZ _ _).mono ?_;rintro e w' ⟨rfl,rfl⟩;rw[hc])
  |(go_at_call 93;refine (Hrun.out _ ⟨_,rfl⟩).mono ?_;rintro e w1 ⟨rfl,hr⟩))
 clear hn0 hn1;obtain⟨d0,d1,d2,_⟩:=hr.rdr HR.out;obtain⟨t0,t1,t2,f0,f1,f2⟩:=hr.cells;have ne:=Kc HR.out;clear hc0 hc1 hc2;have e1:IntKind.i64.wrap ((a:Int)+(1+m))=a+(1+m):=pJ _ (by omega);have e2:(0:Int)<=(a:Int)+(1+m):=by omega
 have e3:((a:Int)+(1+m)).toNat=a+(1+m):=by omega
 have e4:(a:Int)<=(a:Int)+(1+m):=by omega
 have e5:a<=a+(1+m):=by omega
 have e6:(a:Int)+(1+m)<=(s.size:Int):=by omega
 refine Xq ?_;go_region_held3 (fun w'=>w'.cell? ⟨R,0,none⟩=some (.string s)/\w'.cell? ⟨R,1,none⟩=some (.int .i64 a)) (first|(go_keep;done)|(go_split_ands;refine⟨?_,?_⟩ <;> (simp only[Qw,qU ne];assumption))) (fail);clear e1 e2 e3 e4 e5 e6 d0 d1 d2 t0 t1 t2 f0 f1 f2;have hr2:=((hr.kind 1).text (s.extract a (a+(1+m)))).drew;generalize World.drew _=W2 at *;obtain⟨d0,d1,d2,_⟩:=hr2.rdr HR.out;obtain⟨t0,t1,t2,f0,f1,f2⟩:=hr2.cells;have hr2:=zi hr2;have Hw2:=zi (fun x=>Hw.out x W2 hr2.out.b);go_wp2_with fail;go_quiet ((go_at_call 94;refine (Hw.out _ _ (by exact ym hr2.out.b _)).mono ?_;rintro e w' ⟨rfl,rfl⟩;exact⟨rfl,_,rfl⟩));go_wp2_with fail
 ·have hr3:=((((hr2.out.drewN nq).kind 5).kind 5).text (s.extract a (a+(1+m)))).at;generalize World.setCell _ ⟨_,2,none⟩ _=W3 at hr3 ⊢;obtain⟨u0,u1,u2,v0,v1,v2⟩:=hr3.cells;have hw:qx.contains (s.extract a (a+(1+m))).data.toList=true:=by assumption
  refine bodyPost_ret (v:=.tuple #[.agg #[.int .u8 5,.string (s.extract a (a+(1+m))),.int .i64 a],.int .i64 (1+m),.bool (decide (1+(m:Int)<=12))]) (by simp[results,results66,go_sem,u0,u1,u2]) rfl ?_;refine⟨_,_,_,_,_,rfl,?_,hr3.b⟩;exact YT (k:=5) (by rw[Hq.out];simp only[hw,if_true])
 ·have hr3:=(((hr2.out.drewN nq).kind 1).text (s.extract a (a+(1+m)))).at;generalize World.setCell _ ⟨_,2,none⟩ _=W3 at hr3 ⊢;obtain⟨u0,u1,u2,v0,v1,v2⟩:=hr3.cells;have hw:qx.contains (s.extract a (a+(1+m))).data.toList=false:=by assumption
  refine bodyPost_ret (v:=.tuple #[.agg #[.int .u8 1,.string (s.extract a (a+(1+m))),.int .i64 a],.int .i64 (1+m),.bool (decide (1+(m:Int)<=12))]) (by simp[results,results66,go_sem,u0,u1,u2]) rfl ?_;refine⟨_,_,_,_,_,rfl,?_,hr3.b⟩;exact YT (k:=1) (by rw[Hq.out];simp only[hw,Bool.false_eq_true,if_false])
theorem zdZ(R:Nat)(s:ByteArray)(a:Nat)(w:World)(hs:s.size<=1000000000000)(ha:a<s.size)(hRd:Rd w R s a)(h1:yg s[a]=false)(h2:YQ s[a]=true):
 Calls prog 66 #[.pointer (some ⟨R,0,none⟩)] w (Qy (yM (s.data.toList.drop a)) a w):=by
 have hc:kH s[a]=2:=by simp[kH,h1,h2]
 obtain⟨wb,sb,hR,hwb,hsb,hne1,hne2⟩:=hRd;have hc0:w.cell? ⟨R,0,none⟩=some (.string s):=zd hR 0;have hc1:w.cell? ⟨R,1,none⟩=some (.int .i64 a):=zd hR 1;have hn0:∀o,(w.alloc o).cell? ⟨R,0,none⟩=some (.string s):=fun o=>zj (zf w o) hc0
 have hn1:∀o,(w.alloc o).cell? ⟨R,1,none⟩=some (.int .i64 a):=fun o=>zj (zf w o) hc1
 have hlt:(a:Int)<(s.size:Int):=by omega
 obtain⟨m,hm,hmb⟩:∃m,yc (jX [1,3]) (s.data.toList.drop (a+1))=m/\a+1+m<=s.size:=⟨_,rfl,by
  have:=Yq (jX [1,3]) (s.data.toList.drop (a+1));simp at this ⊢;omega⟩
 have Hrun:=zi (fun (W:World) (q:∃n,W=((w.alloc (T0 a)).drewN n).alloc (CL [1,3]))=>YX R s a _ _ [1,3] w W hs ha hR (by decide) m hm q (w.heap.size+1) rfl);rw[zfl] at hm;have Hq:=zi (zg8 s a m ha h1 h2 hm);clear hm;generalize yM (s.data.toList.drop a)=q at *;have HR:=zi hR;clear hR hwb hsb;go_enter func66,ntmps66;go_wp2_with fail;go_quiet (fail);go_wp2_with (first
  |(go_at_call 92;refine (jZ _ _).mono ?_;rintro e w' ⟨rfl,rfl⟩;rw[hc])
  |(go_at_call 93;refine (Hrun.out _ ⟨_,rfl⟩).mono ?_;rintro e w1 ⟨rfl,hr⟩))
 clear hn0 hn1;obtain⟨d0,d1,d2,_⟩:=hr.rdr HR.out;obtain⟨t0,t1,t2,f0,f1,f2⟩:=hr.cells;have ne:=Kc HR.out;clear hc0 hc1;have e1:IntKind.i64.wrap ((a:Int)+(1+m))=a+(1+m):=pJ _ (by omega);have e2:(0:Int)<=(a:Int)+(1+m):=by omega
 have e3:((a:Int)+(1+m)).toNat=a+(1+m):=by omega
 have e4:(a:Int)<=(a:Int)+(1+m):=by omega
 have e5:a<=a+(1+m):=by omega
 have e6:(a:Int)+(1+m)<=(s.size:Int):=by omega
 refine Xq ?_;go_region_held3 (fun w'=>w'.cell? ⟨R,0,none⟩=some (.string s)/\w'.cell? ⟨R,1,none⟩=some (.int .i64 a)) (first|(go_keep;done)|(go_split_ands;refine⟨?_,?_⟩ <;> (simp only[Qw,qU ne];assumption))) (fail);clear e1 e2 e3 e4 e5 e6 d0 d1 d2 t0 t1 t2 f0 f1 f2;have hr2:=((hr.kind 2).text (s.extract a (a+(1+m)))).drew;generalize World.drew _=W2 at *;obtain⟨t0,t1,t2,f0,f1,f2⟩:=hr2.cells;have hr2:=zi hr2;go_wp2_with fail;have hr3:=((hr2.out.kind 2).text (s.extract a (a+(1+m)))).at;generalize World.setCell _ ⟨_,2,none⟩ _=W3 at hr3 ⊢;obtain⟨u0,u1,u2,v0,v1,v2⟩:=hr3.cells;refine bodyPost_ret (v:=.tuple #[.agg #[.int .u8 2,.string (s.extract a (a+(1+m))),.int .i64 a],.int .i64 (1+m),.bool (decide (1+(m:Int)<=12))]) (by simp[results,results66,go_sem,u0,u1,u2]) rfl ?_;refine⟨_,_,_,_,_,rfl,?_,hr3.b⟩;exact YT (k:=2) Hq.out
theorem ZQ(p:UInt8->Bool):∀r:List UInt8,(r.take (yc p r)).all p=true
 |[]=>rfl
 |c :: r=>by
  by_cases h:p c=true
  ·simp only[yc,h,if_true,List.take_succ_cons,List.all_cons,ZQ p r,Bool.and_self]
  ·simp[yc,h]
theorem zgF(s:ByteArray)(a m:Nat)(ha:a<s.size)(h3:yf s[a]=true)(hm:yc yf (s.data.toList.drop (a+1))=m):
 (s.extract a (a+(1+m))).data.toList≠[]/\(s.extract a (a+(1+m))).data.toList.all yf=true:=by
 rw[vY,kf s a ha,Nat.add_comm 1 m,List.take_succ_cons];refine⟨by simp,?_⟩;rw[List.all_cons,h3,<-hm,ZQ];rfl
theorem zb4(s:ByteArray)(a m:Nat)(ha:a<s.size)(h1:yg s[a]=false)(h2:YQ s[a]=false)(h3:yf s[a]=true)(hm:yc yf (s.data.toList.drop (a+1))=m):
 yM (s.data.toList.drop a)=if ur (s.extract a (a+(1+m))).data.toList then some (3,(s.extract a (a+(1+m))).data.toList,1+m) else none:=by
 rw[vY,kf s a ha];simp only[yM,h1,h2,h3,if_true,Bool.false_eq_true,if_false,hm]
theorem zbg(R:Nat)(s:ByteArray)(a:Nat)(w:World)(hs:s.size<=1000000000000)(ha:a<s.size)(hRd:Rd w R s a)(hG:qH w)(h1:yg s[a]=false)(h2:YQ s[a]=false)(h3:yf s[a]=true):
 Calls prog 66 #[.pointer (some ⟨R,0,none⟩)] w (Qy (yM (s.data.toList.drop a)) a w):=by
 have hc:kH s[a]=3:=by simp[kH,h1,h2,h3]
 obtain⟨wb,sb,hR,hwb,hsb,hne1,hne2⟩:=hRd;have hc0:w.cell? ⟨R,0,none⟩=some (.string s):=zd hR 0;have hc1:w.cell? ⟨R,1,none⟩=some (.int .i64 a):=zd hR 1;have hn0:∀o,(w.alloc o).cell? ⟨R,0,none⟩=some (.string s):=fun o=>zj (zf w o) hc0
 have hn1:∀o,(w.alloc o).cell? ⟨R,1,none⟩=some (.int .i64 a):=fun o=>zj (zf w o) hc1
 have hlt:(a:Int)<(s.size:Int):=by omega
 obtain⟨m,hm,hmb⟩:∃m,yc (jX [3]) (s.data.toList.drop (a+1))=m/\a+1+m<=s.size:=⟨_,rfl,by
  have:=Yq (jX [3]) (s.data.toList.drop (a+1));simp at this ⊢;omega⟩
 have Hrun:=zi (fun (W:World) (q:∃n,W=((w.alloc (T0 a)).drewN n).alloc (CL [3]))=>YX R s a _ _ [3] w W hs ha hR (by decide) m hm q (w.heap.size+1) rfl);rw[zkR] at hm;have hdig:=zgF s a m ha h3 hm;have hq:=zb4 s a m ha h1 h2 h3 hm;have hxs:(s.extract a (a+(1+m))).size<=1000000000000:=by simp;omega
 obtain⟨bb,hbb⟩:=exE (ur (s.extract a (a+(1+m))).data.toList);rw[hbb] at hq;have Hnum:=zi (fun (W:World) (hW:Below w.heap.size w W)=>hbb▸zbr (s.extract a (a+(1+m))) W hxs (hG.later hW) hdig.1 hdig.2);have Hq:=zi hq;clear hm hq hdig hbb hxs;generalize yM (s.data.toList.drop a)=q at *;have HR:=zi hR;clear hR hwb hsb;have HG:=zi hG;clear hG;go_enter func66,ntmps66;go_wp2_with fail;go_quiet (fail);go_wp2_with (first
  |(go_at_call 92;refine (jZ _ _).mono ?_;rintro e w' ⟨rfl,rfl⟩;rw[hc])
  |(go_at_call 93;refine (Hrun.out _ ⟨_,rfl⟩).mono ?_;rintro e w1 ⟨rfl,hr⟩))
 clear hn0 hn1;obtain⟨d0,d1,d2,_⟩:=hr.rdr HR.out;obtain⟨t0,t1,t2,f0,f1,f2⟩:=hr.cells;have ne:=Kc HR.out;clear hc0 hc1;have e1:IntKind.i64.wrap ((a:Int)+(1+m))=a+(1+m):=pJ _ (by omega);have e2:(0:Int)<=(a:Int)+(1+m):=by omega
 have e3:((a:Int)+(1+m)).toNat=a+(1+m):=by omega
 have e4:(a:Int)<=(a:Int)+(1+m):=by omega
 have e5:a<=a+(1+m):=by omega
 have e6:(a:Int)+(1+m)<=(s.size:Int):=by omega
 refine Xq ?_;go_region_held3 (fun w'=>w'.cell? ⟨R,0,none⟩=some (.string s)/\w'.cell? ⟨R,1,none⟩=some (.int .i64 a)) (first|(go_keep;done)|(go_split_ands;refine⟨?_,?_⟩ <;> (simp only[Qw,qU ne];assumption))) (fail);clear e1 e2 e3 e4 e5 e6 d0 d1 d2 t0 t1 t2 f0 f1 f2;have hr2:=((hr.kind 3).text (s.extract a (a+(1+m)))).drew;generalize World.drew _=W2 at *;obtain⟨t0,t1,t2,f0,f1,f2⟩:=hr2.cells;have hr2:=zi hr2;go_wp2_with fail;have hTlt:w.heap.size<W2.heap.size:=World.block_lt_of_cell? W2 _ t0;have Hn2:=zi (fun (W:World) (hW:Below W2.heap.size W2 W)=>Hnum.out W (zg hr2.out.b hW));refine Xq ?_;go_region_held3 (fun w'=>w'.cell? ⟨w.heap.size,0,none⟩=some (.int .u8 3)/\w'.cell? ⟨w.heap.size,1,none⟩=some (.string (s.extract a (a+(1+m))))/\w'.cell? ⟨w.heap.size,2,none⟩=some (.int .i64 a))
  (first|(go_keep;done)|(go_split_ands;refine⟨?_,?_,?_⟩ <;> exact zj hb4 (by assumption))|(obtain⟨u0,u1,u2⟩:=‹w4.cell? ⟨w.heap.size,0,none⟩=some (.int .u8 3)/\w4.cell? ⟨w.heap.size,1,none⟩=some (.string (s.extract a (a+(1+m))))/\w4.cell? ⟨w.heap.size,2,none⟩=some (.int .i64 a)›;rw[Qe u0,Qe u1,Qe u2];exact⟨u0,u1,u2⟩))
  (first|(go_at_call 95;refine (Hn2.out _ (Below.drew bR)).mono ?_;rintro e w4 ⟨rfl,hb4⟩;have g0:=kG (w:=W2.drew) hb4 hTlt f0;have g1:=kG (w:=W2.drew) hb4 hTlt f1;have g2:=kG (w:=W2.drew) hb4 hTlt f2))
 have hr4:=(((hr2.out.drew.later hb4).kind 3).text (s.extract a (a+(1+m)))).at;go_wp2_with fail;generalize World.setCell _ ⟨_,2,none⟩ _=W5 at hr4 ⊢;obtain⟨u0,u1,u2,v0,v1,v2⟩:=hr4.cells;refine bodyPost_ret (v:=.tuple #[.agg #[.int .u8 3,.string (s.extract a (a+(1+m))),.int .i64 a],.int .i64 (1+m),.bool bb]) (by simp[results,results66,go_sem,u0,u1,u2]) rfl ?_;refine⟨_,_,_,_,_,rfl,?_,hr4.b⟩;rw[Hq.out];cases bb
 ·exact rfl
 ·exact⟨rfl,rfl,Vb _,rfl,by omega⟩
theorem zcX:∀g r:List UInt8,Lib.hasPrefix r g=yL g r
 |[],r=>by cases r <;> rfl
 |_ :: _,[]=>rfl
 |a :: g,b :: r=>by
  have:=zcX g r;unfold Lib.hasPrefix at this;simp only[Lib.hasPrefix,List.isPrefixOf,yL,this];congr 1
theorem zfx{α:Type}(p:α->Bool)(d:α):∀(l:List α) (k:Nat),(∀j,j<k->p (l.getD j d)=false)->k<l.length->p (l.getD k d)=true->l.find? p=some (l.getD k d)
 |[],k,_,h,_=>by cases h
 |a :: l,0,_,_,h=>by simp at h ⊢;exact .inl h
 |a :: l,k+1,h,hk,hp=>by
  have h0:=h 0 (by omega);simp only[List.getD_cons_zero] at h0;rw[List.find?_cons,h0];exact zfx p d l k (fun j hj=>by have:=h (j+1) (by omega);simpa using this) (by simpa using hk) (by simpa using hp)
theorem zjC{α:Type}(p:α->Bool)(d:α)(l:List α)(h:∀j,j<l.length->p (l.getD j d)=false):l.find? p=none:=by
 rw[List.find?_eq_none];intro x hx;obtain⟨j,hj,rfl⟩:=List.getElem_of_mem hx;have:=h j hj;simpa[pA,hj] using this
theorem zdD{w W:World}{b:Nat}(h:Below w.heap.size w W)(hb:w.heap[b]? =some (.cells (zaK zT) 9 (0,0)))(k:Nat)(hk:k<25):W.cell? ⟨b,k,none⟩=some (.string ⟨(zT.getD k []).toArray⟩):=by
 refine zj h ?_;rw[zd hb k];have hk':k<zT.length:=hk;simp only[zaK,pV,pZ,pA];rw[glE hk'];rfl
theorem zjA(s:ByteArray)(a:Nat)(_ha:a<s.size)(g:List UInt8)(W:World):
 Calls prog 97 #[.string (s.extract a s.size),.string ⟨g.toArray⟩] W fun e w'=>e=.returned (.bool (yL g (s.data.toList.drop a)))/\w'=W:=by
 have h:=Tryz.strings_HasPrefix (s.extract a s.size) ⟨g.toArray⟩ W;have e:(s.extract a s.size).data.toList=s.data.toList.drop a:=by rw[show (s.extract a s.size).data.toList=(s.data.toList.drop a).take (s.size-a) from by simp[List.extract_eq_take_drop]];exact List.take_of_length_le (by simp)
 rw[e,show (⟨g.toArray⟩:ByteArray).data.toList=g from rfl,zcX] at h;exact h
theorem zdo{q:Option (List UInt8×Nat)}{n:Int}{t:ByteArray}{ok:Bool}(h:ziF q n t ok)(a:Int):zkY (q.map fun x=>(4,x.1,x.2)) a 4 t a n ok:=by
 cases q with
 |none=>exact h
 |some x=>obtain⟨h1,h2,h3⟩:=h;exact⟨h1,rfl,h3,rfl,h2⟩
theorem zbf(R:Nat)(s:ByteArray)(a:Nat)(w:World)(hs:s.size<=1000000000000)(hB:∀c,c∈s.data.toList->jW c=true)(ha:a<s.size)(hRd:Rd w R s a)(h4:s[a]=34):
 Calls prog 66 #[.pointer (some ⟨R,0,none⟩)] w (Qy (yM (s.data.toList.drop a)) a w):=by
 have hc:kH s[a]=0:=by rw[h4];rfl
 obtain⟨wb,sb,hR,hwb,hsb,hne1,hne2⟩:=hRd;have hc0:w.cell? ⟨R,0,none⟩=some (.string s):=zd hR 0;have hc1:w.cell? ⟨R,1,none⟩=some (.int .i64 a):=zd hR 1;have hn0:∀o,(w.alloc o).cell? ⟨R,0,none⟩=some (.string s):=fun o=>zj (zf w o) hc0
 have hn1:∀o,(w.alloc o).cell? ⟨R,1,none⟩=some (.int .i64 a):=fun o=>zj (zf w o) hc1
 have hlt:(a:Int)<(s.size:Int):=by omega
 have h34:((s[a].toNat:Int) == 34)=true:=by rw[h4];rfl
 have hq:=zds s a ha h4;have Hcls:=zi (fun (W:World)=>(show Calls prog 92 #[.int .u8 34] W (fun e w'=>e=.returned (.int .u8 0)/\W=w') from jZ 34 W));have hex:(s.extract a s.size).data.toList=s.data.toList.drop a:=by rw[show (s.extract a s.size).data.toList=(s.data.toList.drop a).take (s.size-a) from by simp[List.extract_eq_take_drop]];exact List.take_of_length_le (by simp)
 have Hqd:=zi (fun (W:World)=>hex▸zcF (s.extract a s.size) W (by simp;omega) (fun c hc=>hB c (by rw[hex] at hc;exact List.mem_of_mem_drop hc)));generalize Lode.xP (s.data.toList.drop a)=q0 at *;have Hq:=zi hq;clear hq hB hex;generalize yM (s.data.toList.drop a)=q at *;have HR:=zi hR;clear hR hwb hsb;go_enter func66,ntmps66;go_wp2_with fail;go_quiet (fail);go_wp2_with (first
  |(go_at_call 92;refine (Hcls.out _).mono ?_;rintro e w' ⟨rfl,rfl⟩))
 have hr:=(Tk.mk (a:=a) (k:=0) (t:=⟨#[]⟩) (ym (zf w (T0 a)) nq) (by rw[ZF];exact zk _ _)).kind 4;generalize World.setCell _ _ _=W2 at hr ⊢;clear hn0 hn1;obtain⟨d0,d1,d2,_⟩:=hr.rdr HR.out;obtain⟨t0,t1,t2,f0,f1,f2⟩:=hr.cells;have ne:=Kc HR.out;clear hc0 hc1;have hr:=zi hr;have hTlt:w.heap.size<W2.heap.size:=World.block_lt_of_cell? W2 _ t0;have e4:(a:Int)<=(s.size:Int):=by omega
 refine Xq ?_;go_region_held3 (fun w'=>w'.cell? ⟨R,0,none⟩=some (.string s)/\w'.cell? ⟨R,1,none⟩=some (.int .i64 a)) (first|(go_keep;done)|(go_split_ands;refine⟨?_,?_⟩ <;> exact zj hb4 (by assumption))|(go_split_ands;refine⟨?_,?_⟩ <;> (simp only[qU ne];assumption)))
  (first|(go_at_call 96;refine (Hqd.out _).mono ?_;rintro e w4 ⟨tq,nq4,okq,rfl,hQ,hb4⟩;have g1:=kG (w:=W2.drew) hb4 hTlt f1;have c1:=zj (w:=W2.drew) hb4 t1))
 have hr4:=(hr.out.drew.later hb4).text tq;generalize World.setCell _ ⟨_,1,none⟩ _=W5 at hr4 ⊢;clear t0 t1 t2 f0 f1 f2 c1 g1;obtain⟨t0,t1,t2,f0,f1,f2⟩:=hr4.cells;have hr4:=zi hr4;go_wp2_with fail;have hr6:=((hr4.out.kind 4).text tq).at;generalize World.setCell _ ⟨_,2,none⟩ _=W6 at hr6 ⊢;obtain⟨u0,u1,u2,v0,v1,v2⟩:=hr6.cells;refine bodyPost_ret (v:=.tuple #[.agg #[.int .u8 4,.string tq,.int .i64 a],.int .i64 nq4,.bool okq]) (by simp[results,results66,go_sem,u0,u1,u2]) rfl ?_;refine⟨_,_,_,_,_,rfl,?_,hr6.b⟩;rw[Hq.out];exact zdo hQ a
theorem zcD(R:Nat)(s:ByteArray)(a:Nat)(w:World)(_hs:s.size<=1000000000000)(ha:a<s.size)(hRd:Rd w R s a)(h1:yg s[a]=false)(h2:YQ s[a]=false)(h3:yf s[a]=false)(h4:s[a]≠34):
 Calls prog 66 #[.pointer (some ⟨R,0,none⟩)] w (Qy (yM (s.data.toList.drop a)) a w):=by
 have hc:kH s[a]=0:=by simp[kH,h1,h2,h3]
 obtain⟨wb,sb,hR,hwb,hsb,hne1,hne2⟩:=hRd;have hc0:w.cell? ⟨R,0,none⟩=some (.string s):=zd hR 0;have hc1:w.cell? ⟨R,1,none⟩=some (.int .i64 a):=zd hR 1;have hc3:w.cell? ⟨R,3,none⟩=some (.slice (some ⟨sb,0,none⟩) 25 25):=zd hR 3;have hn0:∀o,(w.alloc o).cell? ⟨R,0,none⟩=some (.string s):=fun o=>zj (zf w o) hc0
 have hn1:∀o,(w.alloc o).cell? ⟨R,1,none⟩=some (.int .i64 a):=fun o=>zj (zf w o) hc1
 have hn3:∀o n,((w.alloc o).drewN n).cell? ⟨R,3,none⟩=some (.slice (some ⟨sb,0,none⟩) 25 25):=fun o n=>zj (ym (zf w o) n) hc3
 have hlt:(a:Int)<(s.size:Int):=by omega
 have h34:((s[a].toNat:Int) == 34)=false:=by
  rw[pB];intro h;exact h4 (UInt8.toNat_inj.1 (by have:(34:UInt8).toNat=34:=rfl;omega))
 have Hq:=zi (zfU s a ha h1 h2 h3 h4);generalize yM (s.data.toList.drop a)=q at *;have HR:=zi hR;have Hsb:=zi hsb;clear hR hwb hsb;go_enter func66,ntmps66;go_wp2_with fail;go_quiet (fail);go_wp2_with (first
  |(go_at_call 92;refine (jZ _ _).mono ?_;rintro e w' ⟨rfl,rfl⟩;rw[hc]))
 have hr:=Tk.mk (a:=a) (k:=0) (t:=⟨#[]⟩) (ym (zf w (T0 a)) nq) (by rw[ZF];exact zk _ _);generalize World.drewN _ _=W2 at hr ⊢;clear hn0 hn1 hn3;obtain⟨d0,d1,d2,d3⟩:=hr.rdr HR.out;obtain⟨t0,t1,t2,f0,f1,f2⟩:=hr.cells;clear d0 d1 d2 d3 t0 t1 t2 f0 f1 f2 hc0 hc1 hc3;have hr:=zi hr;go_loopw [140] (fun i wr=>∃k:Nat,k<=25/\i=.int .i64 k/\Tk w wr 0 ⟨#[]⟩ a/\Hid (∀j,j<k->yL (zT.getD j []) (s.data.toList.drop a)=false)) (fun i _=>25-(intOf i).toNat)
 case atStart=>exact⟨0,by omega,rfl,hr.out,zi (fun j hj=>absurd hj (wG _))⟩
 case round=>
  obtain⟨k,hk,rfl,hr,hall⟩:=hrel;by_cases hlt:k<25
  ·have hg:=zdD hr.b Hsb.out k hlt;obtain⟨g,hgg⟩:=exE (zT.getD k []);have Hp0:=zi (fun W=>zjA s a ha g W);rw[hgg] at hg;have Hgg:=zi hgg;clear hgg;obtain⟨d0,d1,d2,d3⟩:=hr.rdr HR.out;obtain⟨t0,t1,t2,f0,f1,f2⟩:=hr.cells;have ne:=Kc HR.out;have hr:=zi hr;have e4:(a:Int)<=(s.size:Int):=by omega
   obtain⟨bb,hbb⟩:=exE (yL g (s.data.toList.drop a));have Hp:=zi (fun W=>hbb▸Hp0.out W);have Hbb:=zi hbb;clear Hp0 hbb;go_wp2_with fail;go_quiet ((go_at_call 97;refine (Hp.out _).mono ?_;rintro e w' ⟨rfl,rfl⟩;exact⟨rfl,_,rfl⟩));clear Hp;cases bb with
   |true=>
    go_wp2_with fail;have hr3:=(((((hr.out.drewN nq).kind 6).text ⟨g.toArray⟩).kind 6).text ⟨g.toArray⟩).at;generalize World.setCell _ ⟨_,2,none⟩ _=W6 at hr3 ⊢;obtain⟨u0,u1,u2,v0,v1,v2⟩:=hr3.cells;refine bodyPost_ret (v:=.tuple #[.agg #[.int .u8 6,.string ⟨g.toArray⟩,.int .i64 a],.int .i64 g.length,.bool true]) (by simp[results,results66,go_sem,u0,u1,u2]) rfl ?_;refine⟨_,_,_,_,_,rfl,?_,hr3.b⟩;rw[Hq.out,zfx (fun g=>yL g (s.data.toList.drop a)) [] zT k hall.out hlt (by rw[Hgg.out];exact Hbb.out),Hgg.out];exact⟨rfl,rfl,rfl,rfl,rfl⟩
   |false=>
    go_wp2;go_roundw
    case rel=>
     refine⟨k+1,by omega,by go_num,hr.out.drewN nq,zi (fun j hj=>?_)⟩;by_cases e:j=k
     ·subst e;rw[Hgg.out];exact Hbb.out
     ·exact hall.out j (by omega)
    case measure=>simp[intOf];omega
  ·obtain⟨t0,t1,t2,f0,f1,f2⟩:=hr.cells;have hk25:k=25:=by omega
   have hr:=zi hr;go_wp2_with fail;have hr3:=((hr.out.kind 0).text ⟨#[]⟩).at;generalize World.setCell _ ⟨_,2,none⟩ _=W6 at hr3 ⊢;obtain⟨u0,u1,u2,v0,v1,v2⟩:=hr3.cells;refine bodyPost_ret (v:=.tuple #[.agg #[.int .u8 0,.string ⟨#[]⟩,.int .i64 a],.int .i64 0,.bool false]) (by simp[results,results66,go_sem,u0,u1,u2]) rfl ?_;refine⟨_,_,_,_,_,rfl,?_,hr3.b⟩;rw[Hq.out,zjC (fun g=>yL g (s.data.toList.drop a)) [] zT (fun j hj=>hall.out j (by rw[hk25];exact hj))];exact rfl
end
section
open Go.RowKit Lode Go.Shelf
open Go.Proofs.Tryz
theorem Kq(R:Nat)(s:ByteArray)(a:Nat)(w:World)(hs:s.size<=1000000000000)(hB:∀c,c∈s.data.toList->jW c=true)(ha:a<s.size)(hRd:Rd w R s a)(hG:qH w):
 Calls prog 66 #[.pointer (some ⟨R,0,none⟩)] w (Qy (yM (s.data.toList.drop a)) a w):=by
 by_cases h1:yg s[a]=true
 ·exact zbe R s a w hs ha hRd h1
 ·have h1:yg s[a]=false:=by simpa using h1
  by_cases h2:YQ s[a]=true
  ·exact zdZ R s a w hs ha hRd h1 h2
  ·have h2:YQ s[a]=false:=by simpa using h2
   by_cases h3:yf s[a]=true
   ·exact zbg R s a w hs ha hRd hG h1 h2 h3
   ·have h3:yf s[a]=false:=by simpa using h3
    by_cases h4:s[a]=34
    ·exact zbf R s a w hs hB ha hRd h4
    ·exact zcD R s a w hs ha hRd h1 h2 h3 h4
theorem zcE(R:Nat)(s:ByteArray)(a:Nat)(w:World)(hs:s.size<=1000000000000)(hB:∀c,c∈s.data.toList->jW c=true)(ha:a<s.size)(hRd:Rd w R s a)(hG:qH w)(ht:yM (s.data.toList.drop a)=none):
 Calls prog 66 #[.pointer (some ⟨R,0,none⟩)] w fun e w'=>(∃k t a' n,e=.returned (.tuple #[.agg #[.int .u8 k,.string t,.int .i64 a'],.int .i64 n,.bool false]))/\Below w.heap.size w w':=
 (Kq R s a w hs hB ha hRd hG).mono fun e w' ⟨k,t,a',n,ok,h1,h2,h3⟩=>by
  rw[ht] at h2;exact⟨⟨k,t,a',n,by rw[h1,show ok=false from h2]⟩,h3⟩
theorem zcC(R:Nat)(s:ByteArray)(a:Nat)(w:World)(hs:s.size<=1000000000000)(hB:∀c,c∈s.data.toList->jW c=true)(ha:a<s.size)(hRd:Rd w R s a)(hG:qH w)(k:Nat)(t:List UInt8)(m:Nat)(ht:yM (s.data.toList.drop a)=some (k,t,m)):
 Calls prog 66 #[.pointer (some ⟨R,0,none⟩)] w fun e w'=>e=.returned (.tuple #[.agg #[.int .u8 k,.string ⟨t.toArray⟩,.int .i64 a],.int .i64 m,.bool true])/\Below w.heap.size w w':=
 (Kq R s a w hs hB ha hRd hG).mono fun e w' ⟨k',t',a',n,ok,h1,h2,h3⟩=>by
  rw[ht] at h2;obtain⟨rfl,rfl,rfl,rfl,rfl⟩:=h2;exact⟨h1,h3⟩
def KpT(w0:World)(R:Nat)(W W':World):Prop:=(∀s a,Rd W R s a->Rd W' R s a)/\(Below w0.heap.size w0 W->Below w0.heap.size w0 W')
theorem KpT.trans{w0:World}{R:Nat}{A B C:World}(h:KpT w0 R A B)(k:KpT w0 R B C):KpT w0 R A C:=⟨fun s a x=>k.1 s a (h.1 s a x),fun x=>k.2 (h.2 x)⟩
theorem zeT(R:Nat)(s:ByteArray)(a:Nat)(w:World)(hs:s.size<=1000000000000)(ha:a<=s.size)(hR:Rd w R s a):
 Calls prog 65 #[.pointer (some ⟨R,0,none⟩)] w fun e w'=>e=.returned (.tuple #[])/\Rd w' R s (a+zI false (s.data.toList.drop a))/\w.grownBy w' (some R):=by
 obtain⟨wb,sb,hR,hwb,hsb,hne1,hne2⟩:=hR;refine (zhi R s a _ _ w hs ha hR).mono fun e w' ⟨h1,h2,h3⟩=>⟨h1,⟨wb,sb,h2,?_,?_,hne1,hne2⟩,h3⟩
 ·exact (h3.block _ (gtA hwb) (fun e=>hne1 (by cases e;rfl))).trans hwb
 ·exact (h3.block _ (gtA hsb) (fun e=>hne2 (by cases e;rfl))).trans hsb
theorem Rd.below{w w':World}{R:Nat}{s:ByteArray}{a:Nat}(h:Rd w R s a)(hb:Below w.heap.size w w'):Rd w' R s a:=by
 obtain⟨wb,sb,hR,hwb,hsb,hne1,hne2⟩:=h;exact⟨wb,sb,zh hb hR,zh hb hwb,zh hb hsb,hne1,hne2⟩
theorem Rd.step{w:World}{R:Nat}{s:ByteArray}{a:Nat}(h:Rd w R s a)(k:Int)(k':Nat)(hk:k=k'):Rd (w.setCell ⟨R,1,none⟩ (.int .i64 k)) R s k':=by
 obtain⟨wb,sb,hR,hwb,hsb,hne1,hne2⟩:=h;have g:=qZ w R 1 (.int .i64 k);exact⟨wb,sb,hR.set k k' hk,(g.block _ (gtA hwb) (fun e=>hne1 (by cases e;rfl))).trans hwb,(g.block _ (gtA hsb) (fun e=>hne2 (by cases e;rfl))).trans hsb,hne1,hne2⟩
theorem Rd.pos{w:World}{R:Nat}{s:ByteArray}{a:Nat}(h:Rd w R s a):zaR R w=a:=by
 obtain⟨wb,sb,hR,_⟩:=h;exact hR.pos
theorem uJ{w w':World}(h:Below w.heap.size w w')(r:Option Nat):w.grownBy w' r:=⟨h.os,h.tape,h.output,h.size,fun k hk _=>h.block k hk⟩
theorem ZK{w0 w w':World}{R:Nat}(h:Below w0.heap.size w0 w)(g:w.grownBy w' (some R))(hR:w0.heap.size<=R):Below w0.heap.size w0 w':=
 ⟨g.os.trans h.os,g.tape.trans h.tape,g.output.trans h.output,pN h.size g.size,fun k hk=>(g.block k (wI hk h.size) (fun e=>by cases e;omega)).trans (h.block k hk)⟩
end
end Go.Proofs.YtnncmdpopgkibaaGreatDoor
namespace Lode
section
open Go Go.RowKit Go.Sort
def Cl(w:World):World->Prop:=fun w'=>∃p:Regrown,w'=grow (redrawn w p.d) p.os
theorem yG{α:Type}(l:List α)(i:Nat)(x:α):l.toArray.setIfInBounds i x=(l.set i x).toArray:=List.setIfInBounds_toArray ..
theorem yE{α:Type}(a x:α)(l:List α):(a :: l).set 0 x=x :: l:=rfl
theorem yF{α:Type}(a x:α)(l:List α)(n:Nat):(a :: l).set (n+1) x=a :: l.set n x:=rfl
theorem ux{w w':World}:Cl w w'↔Below w.heap.size w w':=⟨fun ⟨p,h⟩=>h▸below_regrown w p.d p.os,fun h=>regrown_of_below h⟩
theorem Cl.refl(w:World):Cl w w:=ux.2 bR
theorem Cl.trans{a b c:World}(h:Cl a b)(k:Cl b c):Cl a c:=by
 rw[ux] at *;exact h.trans (k.mono h.size)
end
end Lode
namespace LodeX
section
open Go Go.RowKit Go.Sort Lode
structure Rel where
 rel:World->World->Prop
 refl:∀w,rel w w
 trans:∀{a b c:World},rel a b->rel b c->rel a c
 yg:World->World->Prop
 srefl:∀w,yg w w
 strans:∀{a b c:World},yg a b->yg b c->yg a c
 YQ:∀{a b:World},yg a b->rel a b
def xOf(Xp:List PanicEntry->World->Prop):Exit->Act->World->Prop:=fun e a w=>match e with
 | .panic c=>a.defers=[]/\Xp c w
 |_=>False
def zkB(RR:Rel)(P:Program)(o:Oper)(a:Act)(b:World)(next:Act->Prop):Prop:=∃v,(∀w,RR.rel b w->o.quietAt P a (RR.yg w) w v)/\next (a.put o.dst v)
def Qb(P:Program)(w:World)(v:Value):Result Next->Prop
 | .ok (.value u) w'=>w'=w/\u=v
 | .ok .skip w'=>w'=w/\v=undef
 | .ok (.enter f args) w'=>w'=w/\Calls P f args w (fun e w''=>e=.returned v/\w''=w)
 |_=>False
section
variable {RR:Rel} {Xp:List PanicEntry→World→Prop} {P:Program} {ops:Array Oper} {md:Region.Mode}
def Xw(P:Program)(ops:Array Oper)(i:Nat)(next:Act->Prop)(a:Act):Prop:=
 match ops[i]? with
 |none=>next a
 |some o=>if Region.wanted o (yielded ops a.tmps) then ∃v,(∀w,Qb P w v ((execOp a.eval o).run P w))/\next (a.put o.dst v) else next (a.put o.dst undef)
def Xv(Xp:List PanicEntry->World->Prop)(P:Program)(ops:Array Oper)(i:Nat)(next:Act->World->Prop)(a:Act)(w:World):Prop:=
 match ops[i]? with
 |none=>next a w
 |some o=>if Region.wanted o (yielded ops a.tmps) then o.wp P a w next (xOf Xp) else next (a.put o.dst undef) w
def wpE(Xp:List PanicEntry->World->Prop)(P:Program)(ops:Array Oper)(Q:Act->World->Prop):List (Nat×Nat)->Act->World->Prop
 |[],a,w=>Q a w
 |(i,0) :: r,a,w=>Xw P ops i (fun a'=>wpE Xp P ops Q r a' w) a
 |(i,_+1) :: r,a,w=>Xv Xp P ops i (wpE Xp P ops Q r) a w
def uB(RR:Rel)(Xp:List PanicEntry->World->Prop)(P:Program)(ops:Array Oper)(f:Nat)(j:Nat)(b:World)(K:World->Act->Prop)(KE:Act->World->Prop)(a:Act):Prop:=
 match f with
 |0=>Xw P ops j (K b) a
 |1=>(match ops[j]? with
  |none=>K b a
  |some o=>if Region.wanted o (yielded ops a.tmps) then zkB RR P o a b (K b) else K b (a.put o.dst undef))
 |2=>(match ops[j]? with
  |none=>K b a
  |some o=>if Region.wanted o (yielded ops a.tmps) then ∀w,RR.yg b w->o.wp P a w (fun a' w'=>RR.rel w w'/\K w' a') (xOf Xp) else K b (a.put o.dst undef))
 |_=>∀w,RR.yg b w->Xv Xp P ops j KE a w
def kh(RR:Rel)(Xp:List PanicEntry->World->Prop)(P:Program)(ops:Array Oper)(Q:Act->World->Prop):List (Nat×Nat)->World->Act->Prop
 |[],b,a=>∀w,RR.yg b w->Q a w
 |(i,f) :: r,b,a=>uB RR Xp P ops f i b (kh RR Xp P ops Q r) (wpE Xp P ops Q r) a
def YK(md:Region.Mode)(ops:Array Oper):List (Nat×Nat)->Array Bool->Bool
 |[],listed=>(Region.ready md ops listed) == []
 |(i,f) :: r,listed=>(if f<=1 then (Region.ready md ops listed).contains i && Region.free md ops listed i else Region.ready md ops listed == [i]) && YK md ops r (listed.setIfInBounds i true)
def zbX(md:Region.Mode)(ops:Array Oper)(t i:Nat):Bool:=(ops[t]?).any fun o=>o.after.any fun e=>Region.binds md e && e.on == i
def ZP(md:Region.Mode)(ops:Array Oper):Nat->Nat->Nat->Bool
 |0,t,i=>zbX md ops t i
 |n+1,t,i=>zbX md ops t i || (ops[t]?).any fun o=>o.after.any fun e=>Region.binds md e && ZP md ops n e.on i
def zhl(md:Region.Mode)(ops:Array Oper)(ord:List (Nat×Nat)):Bool:=
 ord.all fun x=>x.2 != 1 || ord.all fun t=>decide (t.2<=2) || ZP md ops 12 t.1 x.1
def Xe:List (Nat×Nat)->Bool
 |[]=>true
 |(_,f) :: r=>(decide (f<=2) || r.all fun x=>x.2 == 0 || decide (3<=x.2)) && Xe r
def zj1(ops:Array Oper)(ord:List (Nat×Nat)):Bool:=(List.range ops.size).all fun i=>ord.any (fun x=>x.1 == i)
def QA(md:Region.Mode)(ops:Array Oper)(listed:Array Bool):Prop:=∀k o,ops[k]? =some o->listed.getD k false=true->∀e∈o.after,Region.binds md e=true->listed.getD e.on false=true
theorem KC{listed:Array Bool}{i:Nat}(h:listed.getD i true=false):listed.getD i false=false:=by
 rcases Nat.lt_or_ge i listed.size with h'|h'
 ·simp[h'] at h ⊢;exact h
 ·simp[Array.getElem?_eq_none h'] at h
theorem YI{listed:Array Bool}(hc:QA md ops listed):∀(n t i:Nat) (o:Oper),ZP md ops n t i=true->ops[t]? =some o->(∀e∈o.after,Region.binds md e=true->listed.getD e.on false=true)->listed.getD i false=true
 |n,t,i,o,h,ho,hall=>by
  have h1:zbX md ops t i=true->listed.getD i false=true:=fun h=>by
   unfold zbX at h;rw[ho] at h;simp only[Option.any_some] at h;obtain⟨e,he,hb⟩:=Array.any_eq_true'.1 h;simp only[pG,pS] at hb;rw[<-hb.2];exact hall e he hb.1
  cases n with
  |zero=>exact h1 h
  |succ n=>
   simp only[ZP,wF] at h;rcases h with h|h
   ·exact h1 h
   ·rw[ho] at h;simp only[Option.any_some] at h;obtain⟨e,he,hb⟩:=Array.any_eq_true'.1 h;simp only[pG] at hb;have h2:=hall e he hb.1;cases ho2:ops[e.on]? with
    |none=>
     have:ZP md ops n e.on i=false:=by cases n <;> simp[ZP,zbX,ho2]
     rw[this] at hb;exact absurd hb.2 (by simp)
    |some o2=>exact YI hc n e.on i o2 hb.2 ho2 (hc e.on o2 ho2 h2)
theorem XY{n t i:Nat}{listed:Array Bool}(hc:QA md ops listed)(h:ZP md ops n t i=true)(hi:listed.getD i true=false)(ht:t∈Region.ready md ops listed):False:=by
 obtain⟨_,o,ho,hall⟩:=mem_ready.1 ht;have:=YI hc n t i o h ho hall;rw[KC hi] at this;cases this
theorem QA.set{listed:Array Bool}{j:Nat}(hc:QA md ops listed)(hj:j∈Region.ready md ops listed):QA md ops (listed.setIfInBounds j true):=by
 intro k o ho hk e he hb;obtain⟨_,oj,hoj,hall⟩:=mem_ready.1 hj;by_cases e1:j=k
 ·subst e1;rw[hoj] at ho;cases ho;exact getD_set_true (hall e he hb)
 ·rw[getD_set_ne false e1] at hk;exact getD_set_true (hc k o ho hk e he hb)
theorem zgC{i j:Nat}{listed:Array Bool}(h:Region.free md ops listed i=true):Region.free md ops (listed.setIfInBounds j true) i=true:=by
 unfold Region.free at *;cases ho:ops[i]? with
 |none=>rw[ho] at h;exact h
 |some oi=>
  rw[ho] at h;simp only[pO,List.mem_range] at h ⊢;intro k hk;have:=h k hk;simp only[wF] at this ⊢;rcases this with (h1|h1)|h1
  ·exact .inl (.inl h1)
  ·refine .inl (.inr ?_);by_cases e:j=k
   ·subst e;rcases Nat.lt_or_ge j listed.size with h'|h'
    ·simp[h']
    ·simp[h']
   ·rw[getD_set_ne true e];exact h1
  ·exact .inr h1
theorem QT{j f:Nat}{l2:List (Nat×Nat)}:∀(l1:List (Nat×Nat)) (listed:Array Bool),YK md ops (l1 ++ (j,f) :: l2) listed=true->j∈Region.ready md ops listed->(∀x,x∈l1->x.1≠j)->
 YK md ops (l1 ++ l2) (listed.setIfInBounds j true)=true/\∀x,x∈l1->x.2<=1/\∃oi oj,ops[x.1]? =some oi/\ops[j]? =some oj/\oi.apart ops oj=true
 |[],listed,h,hj,_=>by
  refine⟨?_,fun x hx=>absurd hx (wH)⟩;simp only[wJ,YK,pG] at h ⊢;exact h.2
 |(i,g) :: l1,listed,h,hj,hne=>by
  have hij:i≠j:=hne (i,g) (by simp);simp only[pT,YK,pG] at h ⊢;obtain⟨hi,hr⟩:=h;by_cases hg:g<=1
  ·rw[if_pos hg] at hi ⊢;simp only[pG] at hi ⊢;obtain⟨hi,hf⟩:=hi;have hi':i∈Region.ready md ops listed:=by simpa using hi
   obtain⟨h1,h2⟩:=QT l1 (listed.setIfInBounds i true) hr (ready_mono hj hij.symm) (fun x hx=>hne x (by simp[hx]));refine⟨⟨⟨by simpa using ready_mono hi' hij,zgC hf⟩,by rw[<-Array.setIfInBounds_comm _ _ hij];exact h1⟩,fun x hx=>?_⟩;rcases wD.1 hx with rfl|hx
   ·obtain⟨_,oi,hoi,_⟩:=mem_ready.1 hi';obtain⟨hju,oj,hoj,hall⟩:=mem_ready.1 hj;refine⟨hg,oi,oj,hoi,hoj,Region.free_spec hoi hf j oj hoj (Ne.symm hij) hju fun e he hb hon=>?_⟩;have h3:=hall e he hb;have h4:=(mem_ready.1 hi').1;rw[hon] at h3;rw[KC h4] at h3;cases h3
   ·exact h2 x hx
  ·rw[if_neg hg,pS] at hi;rw[hi] at hj;exact absurd (wL.1 hj).symm hij
theorem zeD{Xp:List PanicEntry->World->Prop}{c:List PanicEntry}{a:Act}{d:Option Tmp}{v:Value}{w:World}(h:xOf Xp (.panic c) (a.put d v) w):xOf Xp (.panic c) a w:=by
 cases d <;> exact h
theorem QE{o:Oper}{a:Act}{d:Option Tmp}{v:Value}{next next':Act->World->Prop}{r:Result Next}(hne:∀x,d=some x->o.dst≠some x)
 (h:∀(a':Act) w',(∃(c:Act) (u:Value),c.tmps=a.tmps/\a'=c.put o.dst u)->next (a'.put d v) w'->next' a' w') (hh:o.upon P (a.put d v) next (xOf Xp) r):o.upon P a next' (xOf Xp) r:=by
 have e:∀(b:Act) u,((b.put d v).put o.dst u)=(b.put o.dst u).put d v:=fun b u=>Act.put_comm b v u hne
 cases r with
 |ok n w=>
  cases n <;> simp only[Oper.upon] at hh ⊢
  case value u=>exact h _ _ ⟨a,u,rfl,rfl⟩ (by rw[<-e];exact hh)
  case skip=>exact h _ _ ⟨a,undef,rfl,rfl⟩ (by rw[<-e];exact hh)
  case defer dd=>
   refine h _ _ ⟨{a with defers:=dd :: a.defers},undef,rfl,rfl⟩ ?_;have e2:({a with defers:=dd :: a.defers}.put o.dst undef).put d v=({a.put d v with defers:=dd :: (a.put d v).defers}:Act).put o.dst undef:=by
    rw[<-e];cases d <;> rfl
   rw[e2];exact hh
  case enter f args=>
   refine hh.mono fun e1 w1 h1=>?_
   cases e1 with
   |returned u=>exact h _ _ ⟨a,u,rfl,rfl⟩ (by rw[<-e];exact h1)
   |panicked c=>exact zeD h1
   |outgrown=>exact h1
  case row row args=>exact hh.mono fun u w1 h1=>h _ _ ⟨a,u,rfl,rfl⟩ (by rw[<-e];exact h1)
 |halt x w=>
  cases x <;> simp only[Oper.upon] at hh ⊢
  all_goals exact zeD hh
def YG(RR:Rel)(P:Program)(ops:Array Oper)(b:World)(o:Oper)(v:Value)(a:Act):Prop:=
 (Region.wanted o (yielded ops a.tmps)=true/\∀w,RR.rel b w->o.quietAt P a (RR.yg w) w v)\/(Region.wanted o (yielded ops a.tmps)=false/\v=undef)
def YW(P:Program)(ops:Array Oper)(o:Oper)(v:Value)(a:Act):Prop:=
 (Region.wanted o (yielded ops a.tmps)=true/\∀w,Qb P w v ((execOp a.eval o).run P w))\/(Region.wanted o (yielded ops a.tmps)=false/\v=undef)
theorem YG.grown{b b':World}{o:Oper}{v:Value}{a:Act}(h:YG RR P ops b o v a)(hb:RR.rel b b'):YG RR P ops b' o v a:=by
 rcases h with⟨h1,h2⟩|h
 ·exact .inl ⟨h1,fun w hw=>h2 w (RR.trans hb hw)⟩
 ·exact .inr h
theorem YG.same{b:World}{o:Oper}{v:Value}{a a':Act}(h:YG RR P ops b o v a)(he:execOp a'.eval o=execOp a.eval o)(hw:Region.wanted o (yielded ops a'.tmps)=Region.wanted o (yielded ops a.tmps)):YG RR P ops b o v a':=by
 unfold YG Oper.quietAt at *;rw[he,hw];exact h
theorem YW.same{o:Oper}{v:Value}{a a':Act}(h:YW P ops o v a)(he:execOp a'.eval o=execOp a.eval o)(hw:Region.wanted o (yielded ops a'.tmps)=Region.wanted o (yielded ops a.tmps)):YW P ops o v a':=by
 unfold YW at *;rw[he,hw];exact h
theorem vv{i:Nat}{oi:Oper}{v:Value}{next:Act->Prop}{a:Act}(hi:ops[i]? =some oi)(hy:YW P ops oi v a)(h:next (a.put oi.dst v)):Xw P ops i next a:=by
 simp only[Xw,hi];rcases hy with⟨hw,hv⟩|⟨hw,rfl⟩
 ·rw[if_pos hw];exact⟨v,hv,h⟩
 ·rw[if_neg (by simp[hw])];exact h
theorem XD{i:Nat}{oi:Oper}{next:Act->Prop}{a:Act}(hi:ops[i]? =some oi)(h:Xw P ops i next a):∃v,YW P ops oi v a/\next (a.put oi.dst v):=by
 simp only[Xw,hi] at h;by_cases hw:Region.wanted oi (yielded ops a.tmps)=true
 ·rw[if_pos hw] at h;obtain⟨v,h1,h2⟩:=h;exact⟨v,.inl ⟨hw,h1⟩,h2⟩
 ·rw[if_neg hw] at h;exact⟨undef,.inr ⟨by simpa using hw,rfl⟩,h⟩
theorem Xx{i:Nat}{oi:Oper}{v:Value}{b:World}{K:World->Act->Prop}{KE:Act->World->Prop}{a:Act}(hi:ops[i]? =some oi)(hy:YG RR P ops b oi v a)(h:K b (a.put oi.dst v)):uB RR Xp P ops 1 i b K KE a:=by
 simp only[uB,hi];rcases hy with⟨hw,hv⟩|⟨hw,rfl⟩
 ·rw[if_pos hw];exact⟨v,hv,h⟩
 ·rw[if_neg (by simp[hw])];exact h
theorem zcz{i:Nat}{oi:Oper}{b:World}{K:World->Act->Prop}{KE:Act->World->Prop}{a:Act}(hi:ops[i]? =some oi)(h:uB RR Xp P ops 1 i b K KE a):∃v,YG RR P ops b oi v a/\K b (a.put oi.dst v):=by
 simp only[uB,hi] at h;by_cases hw:Region.wanted oi (yielded ops a.tmps)=true
 ·rw[if_pos hw] at h;obtain⟨v,h1,h2⟩:=h;exact⟨v,.inl ⟨hw,h1⟩,h2⟩
 ·rw[if_neg hw] at h;exact⟨undef,.inr ⟨by simpa using hw,rfl⟩,h⟩
structure zkn(ops:Array Oper)(oi oj:Oper):Prop where
 ei:∀(c:Act) u,execOp (c.put oj.dst u).eval oi=execOp c.eval oi
 wi:∀(c:Act) u,Region.wanted oi (yielded ops (c.put oj.dst u).tmps)=Region.wanted oi (yielded ops c.tmps)
 ej:∀(c:Act) u,execOp (c.put oi.dst u).eval oj=execOp c.eval oj
 wj:∀(c:Act) u,Region.wanted oj (yielded ops (c.put oi.dst u).tmps)=Region.wanted oj (yielded ops c.tmps)
 hd:∀d,oi.dst=some d->oj.dst≠some d
theorem zda(hs:Region.noSelect ops=true){i j:Nat}{oi oj:Oper}(hoi:ops[i]? =some oi)(hoj:ops[j]? =some oj)(hap:oi.apart ops oj=true):zkn ops oi oj:=by
 obtain⟨h1,h2,h3⟩:=Oper.apart_spec hap;have si:∀cs bb,oi.op≠.select cs bb:=fun cs bb=>Region.noSelect_spec hs i oi cs bb hoi
 have sj:∀cs bb,oj.op≠.select cs bb:=fun cs bb=>Region.noSelect_spec hs j oj cs bb hoj
 exact⟨fun c u=>execOp_put oi si c oj.dst u h3,fun c u=>wanted_put oi c oj.dst u h3,fun c u=>execOp_put oj sj c oi.dst u h1,fun c u=>wanted_put oj c oi.dst u h1,h2⟩
theorem QG{j:Nat}{oi oj:Oper}{v:Value}{next next':Act->World->Prop}{a:Act}{w:World}(hoj:ops[j]? =some oj)(A:zkn ops oi oj)
 (h:∀(a':Act) w',(∃(c:Act) (u:Value),c.tmps=a.tmps/\a'=c.put oj.dst u)->next (a'.put oi.dst v) w'->next' a' w') (hh:Xv Xp P ops j next (a.put oi.dst v) w):Xv Xp P ops j next' a w:=by
 simp only[Xv,hoj] at hh ⊢;rw[A.wj] at hh;by_cases hw:Region.wanted oj (yielded ops a.tmps)=true
 ·rw[if_pos hw] at hh ⊢;unfold Oper.wp at *;rw[A.ej] at hh;exact QE A.hd h hh
 ·rw[if_neg hw] at hh ⊢;exact h _ _ ⟨a,undef,rfl,rfl⟩ (by rw[<-Act.put_comm a v undef A.hd];exact hh)
theorem QC(hs:Region.noSelect ops=true){Q:Act->World->Prop}{j f:Nat}{l2:List (Nat×Nat)}:
 ∀(l1:List (Nat×Nat)) (a:Act) (w:World),(∀x,x∈l1->x.2=0/\∃oi oj,ops[x.1]? =some oi/\ops[j]? =some oj/\oi.apart ops oj=true)->wpE Xp P ops Q (l1 ++ (j,f) :: l2) a w->
  (match f with|0=>Xw P ops j (fun a'=>wpE Xp P ops Q (l1 ++ l2) a' w) a|_+1=>Xv Xp P ops j (wpE Xp P ops Q (l1 ++ l2)) a w)
 |[],a,w,_,h=>by cases f <;> exact h
 |(i,g) :: l1,a,w,hx,h=>by
  obtain⟨hg,oi,oj,hoi,hoj,hap⟩:=hx (i,g) (by simp);simp only at hg;subst hg;have A:=zda hs hoi hoj hap;simp only[pT,wpE] at h;obtain⟨v,hy,h'⟩:=XD hoi h;have ih:=QC hs l1 (a.put oi.dst v) w (fun x hx'=>hx x (by simp[hx'])) h';cases f with
  |zero=>
   simp only at ih ⊢;obtain⟨u,hu,hn⟩:=XD hoj ih;refine vv hoj (hu.same (A.ej a v).symm (A.wj a v).symm) ?_;simp only[pT,wpE];exact vv hoi (hy.same (A.ei a u) (A.wi a u)) (by rw[<-Act.put_comm a v u A.hd];exact hn)
  |succ f=>
   simp only at ih ⊢;refine QG hoj A (fun a' w' hb hc=>?_) ih;obtain⟨c,u,hc1,hc2⟩:=hb;subst hc2;simp only[pT,wpE];refine vv hoi (hy.same ?_ ?_) hc
   ·rw[A.ei c u];cases c;cases a;simp only at hc1;subst hc1;rfl
   ·rw[A.wi c u,hc1]
theorem QB(hs:Region.noSelect ops=true){Q:Act->World->Prop}{j f:Nat}{l2:List (Nat×Nat)}{b:World}:
 ∀(l1:List (Nat×Nat)) (a:Act),(∀x,x∈l1->(x.2<=1/\(3<=f->x.2=0))/\∃oi oj,ops[x.1]? =some oi/\ops[j]? =some oj/\oi.apart ops oj=true)->kh RR Xp P ops Q (l1 ++ (j,f) :: l2) b a->
  uB RR Xp P ops f j b (kh RR Xp P ops Q (l1 ++ l2)) (wpE Xp P ops Q (l1 ++ l2)) a
 |[],a,_,h=>h
 |(i,g) :: l1,a,hx,h=>by
  obtain⟨⟨hg,hg3⟩,oi,oj,hoi,hoj,hap⟩:=hx (i,g) (by simp);simp only at hg hg3;have A:=zda hs hoi hoj hap;have key:∃v,YG RR P ops b oi v a/\(g=0->YW P ops oi v a)/\kh RR Xp P ops Q (l1 ++ (j,f) :: l2) b (a.put oi.dst v):=by
   simp only[pT,kh] at h
   match g,hg with
   |0,_=>
    obtain⟨v,hy,h'⟩:=XD hoi h;refine⟨v,?_,fun _=>hy,h'⟩;rcases hy with⟨h1,h2⟩|h1
    ·refine .inl ⟨h1,fun w _=>?_⟩;have:=h2 w;unfold Oper.quietAt;generalize (execOp a.eval oi).run P w=r at *;cases r with
     |ok n w'=>
      cases n <;> simp only[Qb] at this <;> simp only[Oper.quietUpon]
      case value u=>exact this
      case skip=>exact this
      case enter gg args=>exact⟨this.1,this.2.mono fun e w'' ⟨he,hw''⟩=>⟨he,by subst hw'';exact RR.srefl _⟩⟩
     |halt x w'=>simp only[Qb] at this
    ·exact .inr h1
   |1,_=>
    obtain⟨v,hy,h'⟩:=zcz hoi h;exact⟨v,hy,fun h=>(by cases h),h'⟩
  obtain⟨v,hy,hy0,h'⟩:=key;have back:∀(b':World) (a':Act),YG RR P ops b' oi v a'->(g=0->YW P ops oi v a')->kh RR Xp P ops Q (l1 ++ l2) b' (a'.put oi.dst v)->kh RR Xp P ops Q ((i,g) :: l1 ++ l2) b' a':=by
   intro b' a' h1 h2 h3;simp only[pT,kh]
   match g,hg,h2 with
   |0,_,h2=>exact vv hoi (h2 rfl) h3
   |1,_,_=>exact Xx hoi h1 h3
  have ih:=QB hs l1 (a.put oi.dst v) (fun x hx'=>hx x (by simp[hx'])) h'
  match f,hg3,ih with
  |0,_,ih=>
   obtain⟨u,hu,hn⟩:=XD hoj ih;exact vv hoj (hu.same (A.ej a v).symm (A.wj a v).symm) (back b _ (hy.same (A.ei a u) (A.wi a u)) (fun h0=>(hy0 h0).same (A.ei a u) (A.wi a u)) (by rw[<-Act.put_comm a v u A.hd];exact hn))
  |1,_,ih=>
   obtain⟨u,hu,hn⟩:=zcz hoj ih;exact Xx hoj (hu.same (A.ej a v).symm (A.wj a v).symm) (back b _ (hy.same (A.ei a u) (A.wi a u)) (fun h0=>(hy0 h0).same (A.ei a u) (A.wi a u)) (by rw[<-Act.put_comm a v u A.hd];exact hn))
  |2,_,ih=>
   simp only[uB,hoj] at ih ⊢;rw[A.wj] at ih;by_cases hw:Region.wanted oj (yielded ops a.tmps)=true
   ·rw[if_pos hw] at ih ⊢;intro w hw';have:=ih w hw';unfold Oper.wp at *;rw[A.ej] at this;refine QE A.hd (fun a' w' hb hc=>?_) this;obtain⟨c,u,hc1,hc2⟩:=hb;subst hc2;have e1:execOp (c.put oj.dst u).eval oi=execOp a.eval oi:=by rw[A.ei c u];cases c;cases a;simp only at hc1;subst hc1;rfl
    have e2:Region.wanted oi (yielded ops (c.put oj.dst u).tmps)=Region.wanted oi (yielded ops a.tmps):=by rw[A.wi c u,hc1]
    exact⟨hc.1,back _ _ ((hy.grown (RR.trans (RR.YQ hw') hc.1)).same e1 e2) (fun h0=>(hy0 h0).same e1 e2) hc.2⟩
   ·rw[if_neg hw] at ih ⊢;exact back b _ (hy.same (A.ei a undef) (A.wi a undef)) (fun h0=>(hy0 h0).same (A.ei a undef) (A.wi a undef)) (by rw[<-Act.put_comm a v undef A.hd];exact ih)
  |f+3,hg3,ih=>
   have g0:g=0:=hg3 (by omega);subst g0;simp only[uB] at ih ⊢;intro w hw';refine QG hoj A (fun a' w' hb hc=>?_) (ih w hw');obtain⟨c,u,hc1,hc2⟩:=hb;subst hc2;simp only[pT,wpE];refine vv hoi ((hy0 rfl).same ?_ ?_) hc
   ·rw[A.ei c u];cases c;cases a;simp only at hc1;subst hc1;rfl
   ·rw[A.wi c u,hc1]
structure Inv(md:Region.Mode)(ops:Array Oper)(ord:List (Nat×Nat))(listed:Array Bool):Prop where
 ok:YK md ops ord listed=true
 nd:(ord.map Prod.fst).Nodup
 un:∀x,x∈ord->listed.getD x.1 true=false
 cov:∀i,i<ops.size->listed.getD i true=false->∃f,(i,f)∈ord
 cl:QA md ops listed
 sk:∀x,x∈ord->x.2=1->∀t,t∈ord->3<=t.2->ZP md ops 12 t.1 x.1=true
 late:Xe ord=true
theorem Vw(listed:Array Bool)(j:Nat):(listed.setIfInBounds j true).getD j true=true:=by
 rcases Nat.lt_or_ge j listed.size with h'|h'
 ·simp[h']
 ·simp[h']
theorem VX{x:Nat×Nat}{l2:List (Nat×Nat)}:∀(l1:List (Nat×Nat)),Xe (l1 ++ x :: l2)=true->Xe (l1 ++ l2)=true/\(3<=x.2->∀y,y∈l2->y.2=0\/3<=y.2)
 |[],h=>by
  simp only[wJ,Xe,pG] at h ⊢;refine⟨h.2,fun h3 y hy=>?_⟩;have h1:=h.1;simp only[wF,pH,pO,pS] at h1;rcases h1 with h1|h1
  ·omega
  ·exact h1 y hy
 |y :: l1,h=>by
  simp only[pT,Xe,pG] at h ⊢;obtain⟨ha,hb⟩:=VX l1 h.2;refine⟨⟨?_,ha⟩,hb⟩;have h1:=h.1;simp only[wF,pH,pO] at h1 ⊢;rcases h1 with h1|h1
  ·exact .inl h1
  ·refine .inr fun z hz=>h1 z ?_
   rcases pX.1 hz with hz|hz
   ·exact pX.2 (.inl hz)
   ·exact pX.2 (.inr (pY _ hz))
theorem Inv.split{ord:List (Nat×Nat)}{listed:Array Bool}(I:Inv md ops ord listed){j:Nat}(hj:j∈Region.ready md ops listed):
 ∃l1 f l2,ord=l1 ++ (j,f) :: l2/\Inv md ops (l1 ++ l2) (listed.setIfInBounds j true)/\(∀x,x∈l1->(x.2<=1/\(3<=f->x.2=0))/\∃oi oj,ops[x.1]? =some oi/\ops[j]? =some oj/\oi.apart ops oj=true)/\(3<=f->∀y,y∈l1 ++ l2->y.2=0\/3<=y.2)/\(l1 ++ l2).length+1=ord.length:=by
 obtain⟨hju,o,ho,hall⟩:=mem_ready.1 hj;have hlt:j<ops.size:=(gtA ho);obtain⟨f,hf⟩:=I.cov j hlt hju;obtain⟨l1,l2,rfl⟩:=List.append_of_mem hf;have nd:=I.nd;rw[List.map_append,List.map_cons,List.nodup_append] at nd;obtain⟨nd1,nd2,nd3⟩:=nd;rw[List.nodup_cons] at nd2;have hne1:∀x,x∈l1->x.1≠j:=fun x hx=>nd3 _ (List.mem_map_of_mem hx) _ (by simp)
 have hne2:∀x,x∈l2->x.1≠j:=fun x hx e=>nd2.1 (by rw[<-e];exact List.mem_map.2 ⟨x,hx,rfl⟩)
 have hne:∀x,x∈l1 ++ l2->x.1≠j:=fun x hx=>(pX.1 hx).elim (hne1 x) (hne2 x)
 have sub:∀x,x∈l1 ++ l2->x∈l1 ++ (j,f) :: l2:=fun x hx=>by
  rcases pX.1 hx with hx|hx
  ·exact pX.2 (.inl hx)
  ·exact pX.2 (.inr (pY _ hx))
 obtain⟨m1,m2⟩:=QT l1 listed I.ok hj hne1;obtain⟨d1,d2⟩:=VX l1 I.late;have h0:3<=f->∀x,x∈l1->x.2=0:=fun h3 x hx=>by
  have h1:=(m2 x hx).1;rcases Nat.lt_or_ge x.2 1 with h2|h2
  ·omega
  ·exact (XY I.cl (I.sk x (sub x (pX.2 (.inl hx))) (by omega) (j,f) hf h3) (I.un x (sub x (pX.2 (.inl hx)))) hj).elim
 refine⟨l1,f,l2,rfl,⟨m1,?_,?_,?_,I.cl.set hj,?_,d1⟩,fun x hx=>⟨⟨(m2 x hx).1,fun h3=>h0 h3 x hx⟩,(m2 x hx).2⟩,?_,by simp;omega⟩
 ·rw[List.map_append,List.nodup_append];exact⟨nd1,nd2.2,fun a ha b hb=>nd3 a ha b (pY _ hb)⟩
 ·exact fun x hx=>by rw[getD_set_ne true (Ne.symm (hne x hx))];exact I.un x (sub x hx)
 ·intro i hi hu;have hij:j≠i:=fun e=>by subst e;rw[Vw] at hu;cases hu
  rw[getD_set_ne true hij] at hu;obtain⟨g,hg⟩:=I.cov i hi hu;refine⟨g,?_⟩;rcases pX.1 hg with hg|hg
  ·exact pX.2 (.inl hg)
  ·rcases wD.1 hg with hg|hg
   ·exact absurd (congrArg Prod.fst hg).symm hij
   ·exact pX.2 (.inr hg)
 ·exact fun x hx h1 t ht h3=>I.sk x (sub x hx) h1 t (sub t ht) h3
 ·intro h3 y hy;rcases pX.1 hy with hy|hy
  ·exact .inl (h0 h3 y hy)
  ·exact d2 h3 y hy
def YP(Xp:List PanicEntry->World->Prop)(Q:Act->World->Prop):Exit->Act->World->Prop:=fun e a w=>match e with
 | .normal=>Q a w
 | .panic c=>a.defers=[]/\Xp c w
 |_=>False
theorem VD{o:Oper}{a:Act}{next next':Act->World->Prop}{Q:Act->World->Prop}{r:Result Next}(h:∀a w,next a w->next' a w)(hh:o.upon P a next (xOf Xp) r):o.upon P a next' (YP Xp Q) r:=by
 cases r with
 |ok n w=>
  cases n <;> simp only[Oper.upon] at hh ⊢
  case value u=>exact h _ _ hh
  case skip=>exact h _ _ hh
  case defer dd=>exact h _ _ hh
  case enter f args=>
   refine hh.mono fun e1 w1 h1=>?_
   cases e1 with
   |returned u=>exact h _ _ h1
   |panicked c=>exact h1
   |outgrown=>obtain⟨_,_,h2⟩:=h1;exact h2.elim
  case row row args=>exact hh.mono fun u w1 h1=>h _ _ h1
 |halt x w=>
  cases x <;> simp only[Oper.upon] at hh ⊢
  all_goals exact hh
theorem YF{i:Nat}{next next':Act->World->Prop}{Q:Act->World->Prop}{a:Act}{w:World}(h:∀a w,next a w->next' a w)(hh:Xv Xp P ops i next a w):wpOp P ops (YP Xp Q) i next' a w:=by
 unfold Xv at hh;unfold wpOp;cases ho:ops[i]? with
 |none=>rw[ho] at hh;exact h _ _ hh
 |some o=>
  rw[ho] at hh;simp only at hh ⊢;by_cases hw:Region.wanted o (yielded ops a.tmps)=true
  ·rw[if_pos hw] at hh ⊢;exact .inl (VD h hh)
  ·rw[if_neg hw] at hh ⊢;exact h _ _ hh
theorem YH{i:Nat}{next:Act->Prop}{next':Act->World->Prop}{Q:Act->World->Prop}{a:Act}{w:World}(h:∀a,next a->next' a w)(hh:Xw P ops i next a):wpOp P ops (YP Xp Q) i next' a w:=by
 unfold Xw at hh;unfold wpOp;cases ho:ops[i]? with
 |none=>rw[ho] at hh;exact h _ hh
 |some o=>
  rw[ho] at hh;simp only at hh ⊢;by_cases hw:Region.wanted o (yielded ops a.tmps)=true
  ·rw[if_pos hw] at hh ⊢;obtain⟨v,h1,h2⟩:=hh;refine .inl ?_;have h1:=h1 w;unfold Oper.wp;generalize (execOp a.eval o).run P w=r at *;cases r with
   |ok n w'=>
    cases n <;> simp only[Qb] at h1 <;> simp only[Oper.upon]
    case value u=>obtain⟨e1,e2⟩:=h1;subst e1;subst e2;exact h _ h2
    case skip=>obtain⟨e1,e2⟩:=h1;subst e1;subst e2;exact h _ h2
    case enter g args=>obtain⟨e1,e2⟩:=h1;subst e1;exact e2.mono fun e w'' ⟨e1,e2⟩=>by subst e1;subst e2;exact h _ h2
   |halt x w'=>simp only[Qb] at h1
  ·rw[if_neg hw] at hh ⊢;exact h _ hh
theorem Vp{i:Nat}{b:World}{K:World->Act->Prop}{KE next':Act->World->Prop}{Q:Act->World->Prop}{a:Act}{w:World}(hb:RR.yg b w)(h:∀a w,RR.yg b w->K b a->next' a w)(hh:uB RR Xp P ops 1 i b K KE a):wpOp P ops (YP Xp Q) i next' a w:=by
 unfold uB at hh;unfold wpOp;cases ho:ops[i]? with
 |none=>rw[ho] at hh;exact h _ _ hb hh
 |some o=>
  rw[ho] at hh;simp only at hh ⊢;by_cases hw:Region.wanted o (yielded ops a.tmps)=true
  ·rw[if_pos hw] at hh ⊢;obtain⟨v,h1,h2⟩:=hh;refine .inl ?_;have h1:=h1 w (RR.YQ hb);unfold Oper.quietAt at h1;unfold Oper.wp;generalize (execOp a.eval o).run P w=r at *;cases r with
   |ok n w'=>
    cases n <;> simp only[Oper.quietUpon] at h1 <;> simp only[Oper.upon]
    case value u=>obtain⟨e1,e2⟩:=h1;subst e1;subst e2;exact h _ _ hb h2
    case skip=>obtain⟨e1,e2⟩:=h1;subst e1;subst e2;exact h _ _ hb h2
    case enter g args=>obtain⟨e0,h1⟩:=h1;subst e0;exact h1.mono fun e w'' ⟨e1,e2⟩=>by subst e1;exact h _ _ (RR.strans hb e2) h2
   |halt x w'=>simp only[Oper.quietUpon] at h1
  ·rw[if_neg hw] at hh ⊢;exact h _ _ hb hh
theorem Vo{i:Nat}{b:World}{K:World->Act->Prop}{KE next':Act->World->Prop}{Q:Act->World->Prop}{a:Act}{w:World}(hb:RR.yg b w)(h:∀a w',RR.rel b w'->(∃b',RR.yg b' w'/\K b' a)->next' a w')(hh:uB RR Xp P ops 2 i b K KE a):wpOp P ops (YP Xp Q) i next' a w:=by
 unfold uB at hh;unfold wpOp;cases ho:ops[i]? with
 |none=>rw[ho] at hh;exact h _ _ (RR.YQ hb) ⟨b,hb,hh⟩
 |some o=>
  rw[ho] at hh;simp only at hh ⊢;by_cases hw:Region.wanted o (yielded ops a.tmps)=true
  ·rw[if_pos hw] at hh ⊢;exact .inl (VD (fun a w' h1=>h _ _ (RR.trans (RR.YQ hb) h1.1) ⟨w',RR.srefl _,h1.2⟩) (hh w hb))
  ·rw[if_neg hw] at hh ⊢;exact h _ _ (RR.YQ hb) ⟨b,hb,hh⟩
theorem Inv.head{x:Nat×Nat}{ord:List (Nat×Nat)}{listed:Array Bool}(I:Inv md ops (x :: ord) listed):Region.ready md ops listed≠[]:=by
 have h:=I.ok;obtain⟨i,f⟩:=x;simp only[YK,pG] at h;intro e;have h1:=h.1;rw[e] at h1;by_cases hf:f<=1
 ·rw[if_pos hf] at h1;simp at h1
 ·rw[if_neg hf] at h1;simp at h1
theorem zav(hs:Region.noSelect ops=true){Q:Act->World->Prop}:∀(n:Nat) (ord:List (Nat×Nat)) (listed:Array Bool) (fuel:Nat) (a:Act) (w:World),ord.length=n->n<=fuel->Inv md ops ord listed->(∀y,y∈ord->y.2=0\/3<=y.2)->
 wpE Xp P ops Q ord a w->wpAny P md ops (YP Xp Q) fuel listed a w
 |0,ord,listed,fuel,a,w,hn,_,I,_,h=>by
  cases pM hn;have hr:Region.ready md ops listed=[]:=by simpa[YK] using I.ok
  cases fuel with
  |zero=>exact⟨hr,h⟩
  |succ k=>exact⟨fun _=>h,fun i hi=>by rw[hr] at hi;cases hi⟩
 |n+1,ord,listed,fuel,a,w,hn,hf,I,hl,h=>by
  obtain⟨k,rfl⟩:∃k,fuel=k+1:=⟨fuel-1,by omega⟩;obtain⟨x,r,rfl⟩:∃x r,ord=x :: r:=by cases ord with|nil=>simp at hn|cons x r=>exact⟨x,r,rfl⟩
  refine⟨fun e=>absurd e I.head,fun i hi=>?_⟩;obtain⟨l1,f,l2,e,I',hx,_,hlen⟩:=I.split hi;rw[e] at h hl;have hl':∀y,y∈l1 ++ l2->y.2=0\/3<=y.2:=fun y hy=>hl y (by
   rcases pX.1 hy with hy|hy
   ·exact pX.2 (.inl hy)
   ·exact pX.2 (.inr (pY _ hy)))
  have ih:=fun a' w'=>zav hs (Q:=Q) n (l1 ++ l2) (listed.setIfInBounds i true) k a' w' (by omega) (by omega) I' hl'
  have hx':∀x,x∈l1->x.2=0/\∃oi oj,ops[x.1]? =some oi/\ops[i]? =some oj/\oi.apart ops oj=true:=fun x hx1=>⟨by have:=(hx x hx1).1.1;have:=hl' x (pX.2 (.inl hx1));omega,(hx x hx1).2⟩
  have st:=QC hs l1 a w hx' h;cases f with
  |zero=>exact YH (fun a' h'=>ih a' w h') st
  |succ f=>exact YF ih st
theorem zbF(hs:Region.noSelect ops=true){Q:Act->World->Prop}:∀(n:Nat) (ord:List (Nat×Nat)) (listed:Array Bool) (fuel:Nat) (b:World) (a:Act) (w:World),ord.length=n->n<=fuel->Inv md ops ord listed->RR.yg b w->
 kh RR Xp P ops Q ord b a->wpAny P md ops (YP Xp Q) fuel listed a w
 |0,ord,listed,fuel,b,a,w,hn,_,I,hb,h=>by
  cases pM hn;have hr:Region.ready md ops listed=[]:=by simpa[YK] using I.ok
  cases fuel with
  |zero=>exact⟨hr,h w hb⟩
  |succ k=>exact⟨fun _=>h w hb,fun i hi=>by rw[hr] at hi;cases hi⟩
 |n+1,ord,listed,fuel,b,a,w,hn,hf,I,hb,h=>by
  obtain⟨k,rfl⟩:∃k,fuel=k+1:=⟨fuel-1,by omega⟩;obtain⟨x,r,rfl⟩:∃x r,ord=x :: r:=by cases ord with|nil=>simp at hn|cons x r=>exact⟨x,r,rfl⟩
  refine⟨fun e=>absurd e I.head,fun i hi=>?_⟩;obtain⟨l1,f,l2,e,I',hx,hlate,hlen⟩:=I.split hi;rw[e] at h;have ih:=fun b' a' w'=>zbF hs (Q:=Q) n (l1 ++ l2) (listed.setIfInBounds i true) k b' a' w' (by omega) (by omega) I'
  have st:=QB hs l1 a hx h
  match f,st,hlate with
  |0,st,_=>exact YH (fun a' h'=>ih b a' w hb h') st
  |1,st,_=>exact Vp hb (fun a' w' hw' h'=>ih b a' w' hw' h') st
  |2,st,_=>exact Vo hb (fun a' w' hw' ⟨b',h1,h2⟩=>ih b' a' w' h1 h2) st
  |f+3,st,hlate=>
   exact YF (fun a' w' h'=>zav hs n (l1 ++ l2) (listed.setIfInBounds i true) k a' w' (by omega) (by omega) I' (hlate (by omega)) h') (st w hb)
def jU(ops:Array Oper)(ord:List (Nat×Nat)):Bool:=
 Region.noSelect ops && YK .any ops ord (Array.replicate ops.size false) && zj1 ops ord && decide ((ord.map Prod.fst).Nodup) && (ord.all fun x=>decide (x.1<ops.size)) && zhl .any ops ord && Xe ord && decide (ord.length<=ops.size)
theorem YL{ord:List (Nat×Nat)}(h:jU ops ord=true):Region.noSelect ops=true/\Inv .any ops ord (Array.replicate ops.size false)/\ord.length<=ops.size:=by
 simp only[jU,pG,pH,pO] at h;obtain⟨⟨⟨⟨⟨⟨⟨h1,h2⟩,h3⟩,h4⟩,h5⟩,h6⟩,h7⟩,h8⟩:=h;refine⟨h1,⟨h2,h4,fun x hx=>?_,fun i hi _=>?_,fun k o ho hk=>?_,fun x hx hx1 t ht ht3=>?_,h7⟩,?_⟩
 ·simp[h5 x hx]
 ·simp only[zj1,pO,List.mem_range,gC,pS] at h3;obtain⟨x,hx,e⟩:=h3 i hi;exact⟨x.2,by rw[<-e];exact hx⟩
 ·exfalso;rcases Nat.lt_or_ge k ops.size with h'|h'
  ·simp[h'] at hk
  ·simp[Array.getElem?_eq_none h'] at ho
 ·simp only[zhl,pO,wF,pH] at h6;rcases h6 x hx with hz|hz
  ·simp[hx1] at hz
  ·rcases hz t ht with h9|h9
   ·omega
   ·exact h9
 ·exact h8
theorem qY{id:Nat}{l:List Oper}{Q:Exit->Act->World->Prop}{a:Act}{w:World}(ord:List (Nat×Nat))(hm:P.follows .mixedOrders=true)(hc:jU l.toArray ord=true)(hX:∀c a w,a.defers=[]->Xp c w->Q (.panic c) a w)
 (h:kh RR Xp P l.toArray (Q .normal) ord w.drew a):(Code.region id l.toArray true).wp P Q a w:=by
 obtain⟨h1,h2,h3⟩:=YL hc;refine Code.wp_mono (fun e a w q=>?_) (wp_region_any (Q:=YP Xp (Q .normal)) hm (zbF h1 _ ord _ _ w.drew a _ rfl h3 h2 (RR.srefl _) h));cases e <;> first|exact q|exact hX _ _ _ q.1 q.2|exact q.elim
theorem jm{id:Nat}{l:List Oper}{Q:Exit->Act->World->Prop}{a:Act}{w:World}(ord:List (Nat×Nat))(h:kh RR Xp P l.toArray (Q .normal) ord w.drew a)(hm:P.follows .mixedOrders=true:=by kernel_rfl)(hc:jU l.toArray ord=true:=by kernel_rfl)(hX:∀c a w,a.defers=[]->Xp c w->Q (.panic c) a w:=by first|(rintro c a W hd ⟨p,rfl,rfl,hb⟩;go_wp2_with fail;exact⟨hd,rfl,hb⟩)|(rintro c a V hd h;exact h.elim)):(Code.region id l.toArray true).wp P Q a w:=qY ord hm hc hX h
end
end
section
open Go Go.RowKit Go.Sort
section
variable {RR:Rel} {Xp:List PanicEntry→World→Prop} {P:Program} {l:List Oper} {Q:Act→World→Prop} {r:List (Nat×Nat)} {b w:World} {a:Act}
theorem uY{i f:Nat}{o:Oper}(hi':l[i]? =some o)(hw:Region.wanted o (yielded l.toArray a.tmps)=false)(hf:Nat.ble f 2=true)(h:kh RR Xp P l.toArray Q r b (a.put o.dst undef)):kh RR Xp P l.toArray Q ((i,f) :: r) b a:=by
 have hi:l.toArray[i]? =some o:=by rw[pV];exact hi'
 unfold kh
 match f,Nat.le_of_ble_eq_true hf with
 |0,_=>exact vv hi (.inr ⟨hw,rfl⟩) h
 |1,_=>exact Xx hi (.inr ⟨hw,rfl⟩) h
 |2,_=>simp only[uB,hi,hw];exact h
theorem uX{i:Nat}{o:Oper}{v:Value}(hi':l[i]? =some o)(hw:Region.wanted o (yielded l.toArray a.tmps)=true)(hy:∀w,(execOp a.eval o).run P w=.ok (.value v) w)(h:kh RR Xp P l.toArray Q r b (a.put o.dst v)):kh RR Xp P l.toArray Q ((i,0) :: r) b a:=by
 have hi:l.toArray[i]? =some o:=by rw[pV];exact hi'
 unfold kh;exact vv hi (.inl ⟨hw,fun w=>by rw[hy w];exact⟨rfl,rfl⟩⟩) h
theorem uZ{i:Nat}{o:Oper}{v:Value}{S:World->Prop}(hS:∀w,RR.rel b w->S w)(hi':l[i]? =some o)(hw:Region.wanted o (yielded l.toArray a.tmps)=true)(hy:∀w,S w->(execOp a.eval o).run P w=.ok (.value v) w)(h:kh RR Xp P l.toArray Q r b (a.put o.dst v)):kh RR Xp P l.toArray Q ((i,1) :: r) b a:=by
 have hi:l.toArray[i]? =some o:=by rw[pV];exact hi'
 unfold kh;refine Xx hi (.inl ⟨hw,fun w hc=>?_⟩) h;unfold Oper.quietAt;rw[hy w (hS w hc)];exact⟨rfl,rfl⟩
theorem qT{r':List (Nat×Nat)}{a':Act}(h:kh RR Xp P l.toArray Q r' b a')(hh:kh RR Xp P l.toArray Q r' b a'->kh RR Xp P l.toArray Q r b a:=by
 intro hM
 repeat ((first|refine LodeX.uY rfl rfl rfl ?_|(apply LodeX.uX rfl rfl;intro _;(go_simp <;> first|rfl|rw[if_neg (by first|omega|(simp;omega))]|rw[if_pos (by omega)]))|(apply LodeX.uZ hS rfl rfl;intro _ _;go_split_ands;(go_simp <;> rfl)));simp only[Act.put,yG,yE,yF])
 exact hM):kh RR Xp P l.toArray Q r b a:=hh h
theorem zZ{i:Nat}{o:Oper}(hi':l[i]? =some o)(hw:Region.wanted o (yielded l.toArray a.tmps)=true)(h:∀K:World->Act->Prop,(∀w' a',kh RR Xp P l.toArray Q r w' a'->K w' a')->∀w,RR.yg b w->o.wp P a w (fun a' w'=>RR.rel w w'/\K w' a') (xOf Xp)):kh RR Xp P l.toArray Q ((i,2) :: r) b a:=by
 have hi:l.toArray[i]? =some o:=by rw[pV];exact hi'
 unfold kh;simp only[uB,hi,hw];exact fun w hc=>h _ (fun _ _ h=>h) w hc
theorem zC(h:∀w,RR.yg b w->Q a w):kh RR Xp P l.toArray Q [] b a:=h
theorem Xr{i f:Nat}{o:Oper}(hi':l[i]? =some o)(hw:Region.wanted o (yielded l.toArray a.tmps)=true)(h:∀w,RR.yg b w->o.wp P a w (wpE Xp P l.toArray Q r) (xOf Xp)):kh RR Xp P l.toArray Q ((i,f+3) :: r) b a:=by
 have hi:l.toArray[i]? =some o:=by rw[pV];exact hi'
 unfold kh;intro w hc;simp only[Xv,hi,hw,if_true];exact h w hc
theorem JE(h:Q a w):wpE Xp P l.toArray Q [] a w:=h
end
end
end LodeX
namespace Lode
section
open Go Go.RowKit Go.Sort
section
variable {P:Program} {l:List Oper} {Q:Act→World→Prop} {r:List (Nat×Nat)} {b w:World} {a:Act}
theorem zjT{o:Oper}{K:Act->World->Prop}{Q:Exit->Act->World->Prop}(hh:o.wp P a w K (fun _ _ _=>False)):o.wp P a w K Q:=by
 unfold Oper.wp at *;generalize (execOp a.eval o).run P w=r at *;cases r with
 |ok n w'=>
  cases n <;> simp only[Oper.upon] at hh ⊢ <;>
   first
    |exact hh
    |exact Calls.mono hh (fun e w'' he=>by cases e <;> first|exact he|(obtain⟨_,_,h⟩:=he;exact h.elim)|exact False.elim he)
    |exact hh.elim
 |halt x w'=>cases x <;> simp only[Oper.upon] at hh ⊢ <;> first|exact hh|exact hh.elim
def RC:LodeX.Rel:=⟨Cl,Cl.refl,Cl.trans,Cl,Cl.refl,Cl.trans,fun h=>h⟩
abbrev NX:List PanicEntry->World->Prop:=fun _ _=>False
abbrev kh(P:Program)(ops:Array Oper)(Q:Act->World->Prop)(ord:List (Nat×Nat))(b:World)(a:Act):Prop:=LodeX.kh RC NX P ops Q ord b a
abbrev wpE(P:Program)(ops:Array Oper)(Q:Act->World->Prop)(ord:List (Nat×Nat))(a:Act)(w:World):Prop:=LodeX.wpE NX P ops Q ord a w
theorem qY{id:Nat}{Q:Exit->Act->World->Prop}(ord:List (Nat×Nat))(hm:P.follows .mixedOrders=true)(hc:LodeX.jU l.toArray ord=true)
 (h:kh P l.toArray (Q .normal) ord w.drew a):(Code.region id l.toArray true).wp P Q a w:=LodeX.qY (RR:=RC) (Xp:=NX) ord hm hc (fun _ _ _ _ h=>h.elim) h
theorem zaQ{id:Nat}{Q:Exit->Act->World->Prop}(ord:List (Nat×Nat))(h:kh P l.toArray (Q .normal) ord w.drew a)(hm:P.follows .mixedOrders=true:=by kernel_rfl)(hc:LodeX.jU l.toArray ord=true:=by kernel_rfl):(Code.region id l.toArray true).wp P Q a w:=qY ord hm hc h
theorem uY{i f:Nat}{o:Oper}(hi':l[i]? =some o)(hw:Region.wanted o (yielded l.toArray a.tmps)=false)(hf:Nat.ble f 2=true)(h:kh P l.toArray Q r b (a.put o.dst undef)):kh P l.toArray Q ((i,f) :: r) b a:=LodeX.uY hi' hw hf h
theorem uX{i:Nat}{o:Oper}{v:Value}(hi':l[i]? =some o)(hw:Region.wanted o (yielded l.toArray a.tmps)=true)(hy:∀w,(execOp a.eval o).run P w=.ok (.value v) w)(h:kh P l.toArray Q r b (a.put o.dst v)):kh P l.toArray Q ((i,0) :: r) b a:=LodeX.uX hi' hw hy h
theorem uZ{i:Nat}{o:Oper}{v:Value}{S:World->Prop}(hS:∀w,Cl b w->S w)(hi':l[i]? =some o)(hw:Region.wanted o (yielded l.toArray a.tmps)=true)(hy:∀w,S w->(execOp a.eval o).run P w=.ok (.value v) w)(h:kh P l.toArray Q r b (a.put o.dst v)):kh P l.toArray Q ((i,1) :: r) b a:=LodeX.uZ (RR:=RC) hS hi' hw hy h
theorem goM{r':List (Nat×Nat)}{a':Act}(h:kh P l.toArray Q r' b a')(hh:kh P l.toArray Q r' b a'->kh P l.toArray Q r b a:=by
 intro hM
 repeat ((first|refine uY rfl rfl rfl ?_|(apply uX rfl rfl;intro _;(go_simp <;> first|rfl|rw[if_neg (by first|omega|(simp;omega))]|rw[if_pos (by omega)]))|(apply uZ hS rfl rfl;intro _ _;go_split_ands;(go_simp <;> rfl)));simp only[Act.put,yG,yE,yF])
 exact hM):kh P l.toArray Q r b a:=hh h
theorem zZ{i:Nat}{o:Oper}(hi':l[i]? =some o)(hw:Region.wanted o (yielded l.toArray a.tmps)=true)(h:∀K:World->Act->Prop,(∀w' a',kh P l.toArray Q r w' a'->K w' a')->∀w,Cl b w->o.wp P a w (fun a' w'=>Cl w w'/\K w' a') (fun _ _ _=>False)):kh P l.toArray Q ((i,2) :: r) b a:=LodeX.zZ (RR:=RC) hi' hw (fun K hK w hw=>zjT (h K hK w hw))
theorem zC(h:∀w,Cl b w->Q a w):kh P l.toArray Q [] b a:=h
theorem Cl.below{w w':World}(h:Cl w w'):Below w.heap.size w w':=ux.1 h
theorem Xr{i f:Nat}{o:Oper}(hi':l[i]? =some o)(hw:Region.wanted o (yielded l.toArray a.tmps)=true)(h:∀w,Cl b w->o.wp P a w (wpE P l.toArray Q r) (fun _ _ _=>False)):kh P l.toArray Q ((i,f+3) :: r) b a:=LodeX.Xr (RR:=RC) hi' hw (fun w hw=>zjT (h w hw))
theorem JE(h:Q a w):wpE P l.toArray Q [] a w:=h
end
end
end Lode
namespace Go.Proofs.YtnncmdpopgkibaaGreatDoor
section
open Go.RowKit
open Go.Proofs.Tryz
def AbR{β:Type}(R:Nat)(J:β->World->Prop):Prop:=∀s A B row,J s A->A.grownBy B row->(∀r,row=some r->r=R)->J s B
def zde{β:Type}(R B:Nat)(I:β->World->Prop):Prop:=∀s W W' row,I s W->W.grownBy W' row->(∀r,row=some r->r=R\/(B<=r/\∃o:Obj,W.heap[r]? =some o/\o.isCells=false))->I s W'
theorem zde.put{β:Type}{R B:Nat}{I:β->World->Prop}(h:zde R B I){s:β}{W:World}{l:Nat}{o:Obj}(o':Obj)(hs:I s W)(hl:W.heap[l]? =some o)(ho:o.isCells=false)(hb:B<=l):I s (W.putObj l o'):=
 h s W _ (some l) hs (grownBy_putObj' W l o') (fun r e=>by cases e;exact .inr ⟨hb,o,hl,ho⟩)
theorem zde.alloc{β:Type}{R B:Nat}{I:β->World->Prop}(h:zde R B I){s:β}{W:World}(o:Obj)(hs:I s W):I s (W.alloc o):=
 h s W _ none hs (World.grownBy_alloc W o none) (fun r e=>by cases e)
def zlz{α:Type}(F:Fence)(n:Nat)(P:Program)(g:Nat)(la lb:Array Value)(enc:α->Value)(Kp:World->World->Prop)(G:List α->α->Prop)(R:Nat)(S Sp:List α->Prop)(w:World):Prop:=
 ∀(l:Nat) (J Jx:List α->World->Prop) (W:World),Below w.heap.size w W->AbR R J->AbR R Jx->
  (∀pre x W1,J pre W1->G pre x->YieldAt F (n-1) P l #[enc x] W1 fun e W'=>
    (e=.returned (.bool true)/\J (pre ++ [x]) W'/\Kp W1 W')\/(e=.returned (.bool false)/\Jx (pre ++ [x]) W'))->
  J [] W->
  CallsIn F n P g (la ++ #[.func (.yield l) #[] #[]] ++ lb) W fun e W'=>(∃v,e=.returned v)/\((∃xs,S xs/\J xs W')\/(∃pre,Sp pre/\Jx pre W'))
variable {F:Fence} {n:Nat} {P:Program}
theorem zaz{α:Type}{g:Operand}{p0:Tmp}{assign body:Code}{Q:Exit->Act->World->Prop}{a:Act}{w:World}
 (hro:F.round=none) (h1:1<=n) {gf:Nat} {la lb:Array Value} (hg:a.eval g=.func (.func gf) la lb) (hFg:F.fn gf) (eg:∀args w,(callFunc gf args).run P w=.ok (.enter gf args) w)
 {enc:α->Value} {Kp:World->World->Prop} {G:List α->α->Prop} {R:Nat} {S Sp:List α->Prop} (hseq:zlz F (n-1) P gf la lb enc Kp G R S Sp w) (hR:R<w.heap.size)
 (hKt:∀{A B C:World},Kp A B->Kp B C->Kp A C) (hKb:∀(W:World) (l:Nat) (o o':Obj),w.heap.size<=l->W.heap[l]? =some o->o.isCells=false->Kp W (W.putObj l o'))
 (I:List α->World->Prop) (Ix:Code->List α->World->Prop) (hI:zde R w.heap.size I) (hIx:∀c,zde R w.heap.size (Ix c)) (h0:I [] w) (Ax:List α->α->Act->World->Prop)
 (hAx:∀pre x a' (W:World) (l:Nat) (o o':Obj),Ax pre x a' W->w.heap.size<=l->W.heap[l]? =some o->o.isCells=false->Ax pre x a' (W.putObj l o'))
 (hassign:∀(l:Nat) (pre:List α) (x:α) (W:World) (K:Act->World->Prop),I pre W->G pre x->(∀a' W',KeepsOthers W W'->Kp W W'->Ax pre x a' W'->K a' W')->
   assign.wpIn (F.inRound l) (n-1-1) P (Exit.then K (fun _ _ _=>False)) {tmps:=a.tmps.setIfInBounds p0 (enc x),defers:=[]} W)
 (hbody:∀(l:Nat) (pre:List α) (x:α) (a':Act) (W:World),Ax pre x a' W->G pre x->body.wpIn (F.inRound l) (n-1-1) P (ownPostK Kp I Ix (pre ++ [x]) W) a' W)
 (hdone:∀(D:Nat) (xs:List α) (W:World),S xs->I xs W->w.heap.size<=D->W.heap[D]? =some (.deferred (some []))->Q .normal {a with defers:={target:=.collected D,args:= #[]} :: a.defers} W)
 (hstop:∀(D:Nat) (c:Code) (pre:List α) (W:World),Sp pre->Ix c pre W->w.heap.size<=D->W.heap[D]? =some (.deferred (some []))->c.wpIn F n P Q {a with defers:={target:=.collected D,args:= #[]} :: a.defers} W) :
 (Code.rangeFunc g #[p0] assign body).wpIn F n P Q a w:=by
 refine wpIn_rangeFunc ?_;intro fn hfn;obtain⟨rec,hrec⟩:∃rec:LoopState->Option Code->Loop,rec=fun st pd=>{state:=st,pending:=pd,fn,tmps:=a.tmps,params:= #[p0],assign,body,defers:=w.heap.size}:=⟨_,rfl⟩
 obtain⟨W1,hW1⟩:∃W1,W1=(w.alloc (.deferred (some []))).alloc (.loop (rec .ready none)):=⟨_,rfl⟩;have sz:W1.heap.size=w.heap.size+2:=by rw[hW1];simp
 have hL1:W1.heap[w.heap.size+1]? =some (.loop (rec .ready none)):=by
  rw[hW1];have:=World.alloc_heap_new (w.alloc (.deferred (some []))) (.loop (rec .ready none));simpa using this
 have hK1:W1.heap[w.heap.size]? =some (.deferred (some [])):=by
  rw[hW1];exact (Below.heap_alloc _ _ _ (by simp)).trans (World.alloc_heap_new w _)
 have hI1:I [] W1:=by rw[hW1];exact hI.alloc _ (hI.alloc _ h0)
 have hb1:Below w.heap.size w W1:=by rw[hW1];exact ((pF _ w).alloc (pE _) _).alloc (by simp) _
 have far:∀{A B:World} {row:Option Nat} {k:Nat} {o:Obj},A.heap[k]? =some o->A.grownBy B row->(∀r,row=some r->r=R)->w.heap.size<=k->B.heap[k]? =some o:=
  fun hk hg' hr hle=>(hg'.block _ (gtA hk) (fun e=>by have:=hr _ e.symm;omega)).trans hk
 refine⟨w.heap.size+1,[{target:=.collected w.heap.size,args:= #[]}],W1,{target:=.fn (.func gf) lb,args:=la ++ #[.func (.yield (w.heap.size+1)) #[] #[]]},W1,gf,
  la ++ #[.func (.yield (w.heap.size+1)) #[] #[]] ++ lb,W1,?_,?_,?_,?_,fun _=>h1,?_⟩
 ·rw[hro,hW1,hrec];exact run_enterLoop_outer _ _ _ _ _
 ·simp only[resolve,hg];simp[go_sem]
 ·intro f' hf';simp[Target.leads] at hf';subst hf';exact hFg
 ·simp[invoke,go_sem,eg]
 refine (hseq (w.heap.size+1)
  (fun pre W=>I pre W/\W.heap[w.heap.size+1]? =some (.loop (rec .ready none))/\W.heap[w.heap.size]? =some (.deferred (some [])))
  (fun pre W=>∃c,Ix c pre W/\W.heap[w.heap.size+1]? =some (.loop (rec .done (some c)))/\W.heap[w.heap.size]? =some (.deferred (some [])))
  W1 hb1
  (fun s A B row hs hg' hr=>⟨hI s A B row hs.1 hg' (fun r e=>.inl (hr r e)),far hs.2.1 hg' hr (by omega),far hs.2.2 hg' hr (by omega)⟩)
  (fun s A B row ⟨c,hc,hl,hk⟩ hg' hr=>⟨c,hIx c s A B row hc hg' (fun r e=>.inl (hr r e)),far hl hg' hr (by omega),far hk hg' hr (by omega)⟩)
  ?_ ⟨hI1,hL1,hK1⟩).mono ?_
 ·rintro pre x W ⟨hi,hl,hk⟩ hG;have hlt:w.heap.size+1<W.heap.size:=(gtA hl);have hy:=run_yield (P:=P) (args:= #[enc x]) hl (by rw[hrec];rfl);rw[hrec] at hy;have ez:((#[p0].zip #[enc x]).foldl (fun tmps (t,a)=>tmps.setIfInBounds t a) a.tmps)=a.tmps.setIfInBounds p0 (enc x):=by simp
  simp only[ez] at hy;refine⟨fn,_,assign,body,hy,roundIn_of_wpIn hfn (hassign _ pre x W _ hi hG fun a' Wa hka hpa hax=>?_)⟩;have hla:=hka.same _ _ hl rfl;have hkk:=hka.same _ _ hk rfl;have hlta:w.heap.size+1<Wa.heap.size:=(gtA hla);refine⟨_,run_beginRound hla (by rw[hrec]),?_⟩;have hl2:(Wa.putObj (w.heap.size+1) (.loop {rec .ready none with state:=.busy})).heap[w.heap.size+1]? =some (.loop {rec .ready none with state:=.busy}):=World.putObj_heap_same hlta;have hk2:(Wa.putObj (w.heap.size+1) (.loop {rec .ready none with state:=.busy})).heap[w.heap.size]? =some (.deferred (some [])):=(World.putObj_heap_other (by omega)).trans hkk;have hw2:Kp W (Wa.putObj (w.heap.size+1) (.loop {rec .ready none with state:=.busy})):=hKt hpa (hKb _ _ _ _ (by omega) hla rfl);refine wpIn_mono (hbody _ pre x a' _ (hAx _ _ _ _ _ _ _ hax (by omega) hla rfl) hG) ?_;have fin:∀(jump:Option Code) (W3:World),KeepsOthers (Wa.putObj (w.heap.size+1) (.loop {rec .ready none with state:=.busy})) W3->
   (Instr.endRound (w.heap.size+1) jump).run P W3=.ok (.bool jump.isNone) (W3.putObj (w.heap.size+1) (.loop (rec (if jump.isNone then .ready else .done) jump)))/\
   W3.heap[w.heap.size+1]? =some (.loop {rec .ready none with state:=.busy})/\
   (W3.putObj (w.heap.size+1) (.loop (rec (if jump.isNone then .ready else .done) jump))).heap[w.heap.size+1]? =some (.loop (rec (if jump.isNone then .ready else .done) jump))/\
   (W3.putObj (w.heap.size+1) (.loop (rec (if jump.isNone then .ready else .done) jump))).heap[w.heap.size]? =some (.deferred (some [])):=fun jump W3 hk3=>by
   have hl3:=hk3.same _ _ hl2 rfl;have:=run_endRound (P:=P) jump hl3;rw[hrec] at this ⊢;exact⟨this,by rw[hrec] at hl3;exact hl3,World.putObj_heap_same (gtA hl3),(World.putObj_heap_other (by omega)).trans (hk3.same _ _ hk2 rfl)⟩
  rintro e a3 W3 hp;cases e with
  |normal=>
   obtain⟨hk3,hkp3,hi3⟩:=hp;obtain⟨hr,hl3,hl4,hk4⟩:=fin none W3 hk3;exact⟨_,_,hr,.inl ⟨rfl,⟨hI.put _ hi3 hl3 rfl (by omega),hl4,hk4⟩,hKt (hKt hw2 hkp3) (hKb _ _ _ _ (by omega) hl3 rfl)⟩⟩
  |ret=>
   obtain⟨hk3,hi3⟩:=hp;obtain⟨hr,hl3,hl4,hk4⟩:=fin (some .ret) W3 hk3;exact⟨_,_,hr,.inr ⟨rfl,.ret,(hIx _).put _ hi3 hl3 rfl (by omega),hl4,hk4⟩⟩
  |exit id=>
   obtain⟨hk3,hi3⟩:=hp;obtain⟨hr,hl3,hl4,hk4⟩:=fin (some (.exit id)) W3 hk3;exact⟨_,_,hr,.inr ⟨rfl,.exit id,(hIx _).put _ hi3 hl3 rfl (by omega),hl4,hk4⟩⟩
  |goto t=>
   obtain⟨hk3,hi3⟩:=hp;obtain⟨hr,hl3,hl4,hk4⟩:=fin (some (.goto t)) W3 hk3;exact⟨_,_,hr,.inr ⟨rfl,.goto t,(hIx _).put _ hi3 hl3 rfl (by omega),hl4,hk4⟩⟩
  |panic ch=>exact hp.elim
  |outgrown=>exact hp.elim
 ·rintro e W2 ⟨⟨v,rfl⟩,(⟨xs,hS,hi,hl,hk⟩|⟨pre,hSp,c,hi,hl,hk⟩)⟩
  ·exact⟨none,_,by have:=run_endLoop (P:=P) hl (by rw[hrec];simp);rw[hrec] at this;exact this,hdone _ xs _ hS (hI.put _ hi hl rfl (by omega)) (pE _) ((World.putObj_heap_other (by omega)).trans hk)⟩
  ·exact⟨some c,_,by have:=run_endLoop (P:=P) hl (by rw[hrec];simp);rw[hrec] at this;exact this,hstop _ c pre _ hSp ((hIx c).put _ hi hl rfl (by omega)) (pE _) ((World.putObj_heap_other (by omega)).trans hk)⟩
end
section
open Go.RowKit Lode Go.Shelf
attribute [local go_sem] Oper.semAt_some
open Go.Proofs.Tryz
theorem zfS(W2 W3:World)(R k m:Nat)(o:Obj)(hb:Below W2.heap.size W2 W3)(hc1:W2.cell? ⟨R,1,none⟩=some (.int .i64 k))(hf1:W2.frozen? ⟨R,1,none⟩=false)(hRlt:R<W2.heap.size):
 ∃W5,(W3.alloc o).setCell ⟨R,1,none⟩ (.int .i64 ((k:Int)+m))=W5/\(W5.cell? ⟨W3.heap.size,0,none⟩=(W3.alloc o).cell? ⟨W3.heap.size,0,none⟩/\W5.cell? ⟨W3.heap.size,1,none⟩=(W3.alloc o).cell? ⟨W3.heap.size,1,none⟩/\W5.cell? ⟨W3.heap.size,2,none⟩=(W3.alloc o).cell? ⟨W3.heap.size,2,none⟩)/\
  (∀o,(W3.alloc o).cell? ⟨R,1,none⟩=some (.int .i64 k))/\(∀o,(W3.alloc o).frozen? ⟨R,1,none⟩=false):=by
 have hs:=hb.size;have ne:W3.heap.size≠R:=by omega
 refine⟨_,rfl,⟨qU ne _ _ _ _,qU ne _ _ _ _,qU ne _ _ _ _⟩,fun o=>zj (zg hb (zf W3 o)) hc1,fun o=>kG (zg hb (zf W3 o)) hRlt hf1⟩
def zlx(w0:World)(R:Nat)(s:ByteArray)(J:List yp->World->Prop)(wr:World):Prop:=
 ∃pre k,AtP s.data.toList pre k/\Rd wr R s k/\Below w0.heap.size w0 wr/\J pre wr
theorem zdp(R:Nat)(s:ByteArray)(w0 w:World)(hs:s.size<=1000000000000)(hB:∀c,c∈s.data.toList->jW c=true)(hG:qH w0)(hb0:Below w0.heap.size w0 w)(hR0:w0.heap.size<=R)(hRd:Rd w R s 0)(n:Nat)(hn:1<=n):
 zlz Fence.wide n prog 31 #[.pointer (some ⟨R,0,none⟩)] #[] zlf (KpT w0 R) (zmi s.data.toList) R (zmf s.data.toList) (fun _=>True) w:=fun l J Jx W hW hJ hJx hY h0=>by
 have hRd:Rd W R s 0:=hRd.below hW;have hb0:=zg hb0 (hW.mono (pE _));refine callsIn_of_wp func31 rfl trivial ?_ rfl;simp only[ntmps31,List.size_toArray,pK,pR,Nat.reduceAdd,Nat.reduceSub,Array.replicate_succ,Array.replicate_zero,List.push_toArray,List.append_toArray,wJ,pT,wN];have Hsk:=zi (zeT R s 0 W hs (pU _) hRd);have HJ:=zi hJ;clear hRd hJ
 gi_wp2_with (refine⟨trivial,?_⟩;gi_at_call 65;refine (callsIn_wide.2 (Hsk.out)).mono ?_;rintro e W1 ⟨rfl,hrd,hgr⟩)
 gi_loopw [] (fun wr=>zlx w0 R s J wr) (fun wr=>s.size-zaR R wr)
 case atStart=>exact⟨[],_,by simpa using AtP.start,by simpa using hrd,ZK hb0 hgr hR0,HJ.out _ _ _ _ h0 hgr (fun r e=>by cases e;rfl)⟩
 case round=>
  obtain⟨pre,k,hat,hr,hb,hj⟩:=hrel;obtain⟨wb,sb,hR,hwb,hsb,hne1,hne2⟩:=id hr;have hc0:wr.cell? ⟨R,0,none⟩=some (.string s):=zd hR 0;have hc1:wr.cell? ⟨R,1,none⟩=some (.int .i64 k):=zd hR 1;have hf1:wr.frozen? ⟨R,1,none⟩=false:=zl hR 1;by_cases hlt:k<s.size
  ·have hlt':(k:Int)<(s.size:Int):=by omega
   have hltL:k<s.data.toList.length:=by simpa using hlt
   have hbD:Below wr.heap.size wr wr.drew:=bR.drew;have hrD:=hr.below hbD;have hb0D:=zg hb hbD;have hjD:=HJ.out _ _ _ none hj (uJ hbD none) (fun r e=>by cases e);cases ht:yM (s.data.toList.drop k) with
   |none=>
    have HT:=zi (zcE R s k wr.drew hs hB hlt hrD (hG.later hb0D) ht);have HY:=zi (fun (W4:World) (hb4:Below wr.drew.heap.size wr.drew W4)=>hY pre ⟨0,[],(k:Nat)⟩ W4 (HJ.out _ _ _ none hjD (uJ hb4 none) (fun r e=>by cases e)) ⟨k,hat,hltL,.inl ⟨ht,rfl⟩⟩);clear hR hwb hsb
    gi_wp2_with fail
    gi_region
    clear hc0 hc1 hf1 hY;generalize wr.drew=W2 at *;obtain⟨wb,sb,hR,hwb,hsb,hne1,hne2⟩:=id hrD;have hc1:W2.cell? ⟨R,1,none⟩=some (.int .i64 k):=zd hR 1
    gi_wp2_with (refine⟨trivial,?_⟩;gi_at_call 66;refine (callsIn_wide.2 (HT.out)).mono ?_;rintro e W3 ⟨⟨kk,tt,aa,nn,rfl⟩,hb3⟩;have hc4:∀o,(W3.alloc o).cell? ⟨R,1,none⟩=some (.int .i64 k):=fun o=>zj (zg hb3 (zf W3 o)) hc1;obtain⟨fn,tm,asg,bo,hy,hRR⟩:=HY.out (W3.alloc (.cells #[.int .u8 kk,.string tt,.int .i64 aa] 37)) (zg hb3 (zf _ _));change (Instr.yield l #[.agg #[.int .u8 0,.string ⟨#[]⟩,.int .i64 k]]).run _ _=_ at hy;have hRR:=zi hRR)
    refine hRR.out.mono ?_;rintro e W' (⟨rfl,hJ',_⟩|⟨rfl,hJx'⟩)
    ·gi_wp2
     refine bodyPost_ret (results_none rfl _ _ _) rfl ?_;exact⟨⟨_,rfl⟩,.inl ⟨_,.inr ⟨pre,k,rfl⟩,hJ'⟩⟩
    ·gi_wp2
     refine bodyPost_ret (results_none rfl _ _ _) rfl ?_;exact⟨⟨_,rfl⟩,.inr ⟨_,trivial,hJx'⟩⟩
   |some x=>
    obtain⟨kk,t,m⟩:=x;have hm:=qz ht;simp only[wW,Array.length_toList] at hm;have hsz:s.data.size=s.size:=rfl;have HT:=zi (zcC R s k wr.drew hs hB hlt hrD (hG.later hb0D) kk t m ht);have HY:=zi (fun (W4:World) (hj4:J pre W4)=>hY pre ⟨kk,t,(k:Nat)⟩ W4 hj4 ⟨k,hat,hltL,.inr ⟨kk,t,m,ht,rfl⟩⟩);have hnext:=zi (hat.next hltL ht);clear hR hwb hsb
    gi_wp2_with fail
    gi_region
    clear hc0 hc1 hf1 hY;generalize wr.drew=W2 at *;obtain⟨wb,sb,hR,hwb,hsb,hne1,hne2⟩:=id hrD;have hc1:W2.cell? ⟨R,1,none⟩=some (.int .i64 k):=zd hR 1;have hf1:W2.frozen? ⟨R,1,none⟩=false:=zl hR 1;clear hR hwb hsb hne1 hne2;have e1:IntKind.i64.wrap ((k:Int)+m)=k+m:=pJ _ (by omega);have hRlt:=World.block_lt_of_cell? W2 _ hc1;have hrD:=zi hrD;have hb0D:=zi hb0D
    gi_wp2_with (refine⟨trivial,?_⟩;gi_at_call 66;refine (callsIn_wide.2 (HT.out)).mono ?_;rintro e W3 ⟨rfl,hb3⟩;obtain⟨W5,hW5,hst,hc4,hf4⟩:=zfS W2 W3 R k m (.cells #[.int .u8 kk,.string ⟨t.toArray⟩,.int .i64 k] 37) hb3 hc1 hf1 hRlt;obtain⟨q0,q1,q2⟩:=hst;rw[zd (zk _ _) 0] at q0;rw[zd (zk _ _) 1] at q1;rw[zd (zk _ _) 2] at q2;simp only[pV] at q0 q1 q2;obtain⟨fn,tm,asg,bo,hy,hRR⟩:=HY.out W5 (by rw[<-hW5];exact HJ.out _ _ _ (some R) (HJ.out _ _ _ none hjD (uJ (zg hb3 (zf _ _)) none) (fun r e=>by cases e)) (qZ _ R 1 _) (fun r e=>by cases e;rfl));change (Instr.yield l #[.agg #[.int .u8 kk,.string ⟨t.toArray⟩,.int .i64 k]]).run _ _=_ at hy;have hRR:=zi hRR;have HW5:=zi hW5;have hb3:=zi hb3)
    refine hRR.out.mono ?_;have hrd5:Rd W5 R s (k+m):=by rw[<-HW5.out];exact (hrD.out.below (zg hb3.out (zf _ _))).step _ _ (by omega)
    have hb5:Below w0.heap.size w0 W5:=by rw[<-HW5.out];exact ZK (zg hb0D.out (zg hb3.out (zf _ _))) (qZ _ R 1 _) hR0
    rintro e W6 (⟨rfl,hJ6,hk6⟩|⟨rfl,hJx6⟩)
    ·have hrd6:=hk6.1 _ _ hrd5;have hb6:=hk6.2 hb5
     gi_wp2_with (refine⟨trivial,?_⟩;gi_at_call 65;refine (callsIn_wide.2 (zeT R s (k+m) W6 hs (by omega) hrd6)).mono ?_;rintro e W7 ⟨rfl,hr7,hg7⟩)
     go_roundw
     case rel=>exact⟨_,_,hnext.out,hr7,ZK hb6 hg7 hR0,HJ.out _ _ _ _ hJ6 hg7 (fun r e=>by cases e;rfl)⟩
     case measure=>rw[hr7.pos,hr.pos];omega
    ·gi_wp2
     refine bodyPost_ret (results_none rfl _ _ _) rfl ?_;exact⟨⟨_,rfl⟩,.inr ⟨_,trivial,hJx6⟩⟩
  ·clear hR hwb hsb
   gi_wp2_with fail
   gi_region
   gi_wp2
   go_end0;exact⟨⟨_,rfl⟩,.inl ⟨pre,.inl ⟨k,hat,by simpa using hlt⟩,HJ.out _ _ _ none hj (uJ (bR.drew) none) (fun r e=>by cases e)⟩⟩
structure LRd(w:World)(B:Nat)(s:List UInt8)(pre:List yp)(W:World):Prop where
 at_:∃k,AtP s pre k
 len:pre.length<=1200
 YQ:B<=W.heap.size
 below:Below w.heap.size w W
 n1:W.heap[w.heap.size+1]? =some (.cells #[.int .i64 0] 3 (0,0))
 n2:W.heap[w.heap.size+1+1]? =some (.cells #[.int .i64 0] 31 (0,0))
 v:∃v,W.heap[w.heap.size]? =some (.cells #[v] 30 (0,0))/\kl W B v pre
structure LRx(w:World)(r:List yp×Nat×Nat)(W:World):Prop where
 below:Below w.heap.size w W
 nil:r.1=[]
 n0:W.heap[w.heap.size]? =some (.cells #[.slice none 0 0] 30 (0,0))
 n1:W.heap[w.heap.size+1]? =some (.cells #[.int .i64 r.2.1] 3 (0,0))
 n2:W.heap[w.heap.size+1+1]? =some (.cells #[.int .i64 r.2.2] 31 (0,0))
theorem kX{W W':World}{row:Option Nat}(hg:W.grownBy W' row){k R B:Nat}{o:Obj}(hr:∀r,row=some r->r=R\/(B<=r/\∃o:Obj,W.heap[r]? =some o/\o.isCells=false))(hk:W.heap[k]? =some o)(h1:k≠R)(h2:k<B):W'.heap[k]? =some o:=
 (hg.block k (gtA hk) (fun e=>by rcases hr k e.symm with h|⟨h,_⟩ <;> omega)).trans hk
theorem kF{w W W':World}{row:Option Nat}(hb:Below w.heap.size w W)(hg:W.grownBy W' row){R B:Nat}(hr:∀r,row=some r->r=R\/(B<=r/\∃o:Obj,W.heap[r]? =some o/\o.isCells=false))(h1:w.heap.size<=R)(h2:w.heap.size<=B):Below w.heap.size w W':=
 ⟨hg.os.trans hb.os,hg.tape.trans hb.tape,hg.output.trans hb.output,pN hb.size hg.size,fun k hk=>(hg.block k (wI hk hb.size) (fun e=>by rcases hr k e.symm with h|⟨h,_⟩ <;> omega)).trans (hb.block k hk)⟩
theorem LRd.own(w:World)(R B:Nat)(s:List UInt8)(hR:w.heap.size+2<R)(hRB:R<B):zde R B (LRd w B s):=fun pre W W' row h hg hr=>by
 obtain⟨h1,h2,h0,h3,h4,h5,v,h6,h7⟩:=h;refine⟨h1,h2,pN h0 hg.size,kF h3 hg hr (by omega) (by omega),kX hg hr h4 (by omega) (by omega),kX hg hr h5 (by omega) (by omega),v,kX hg hr h6 (by omega) (by omega),?_⟩;refine World.ownsRow.kept h7 hg ?_;cases hv:v.ownBlock with
 |none=>exact .inl rfl
 |some b=>
  refine .inr fun e=>?_
  have hlt:=h7.lt b hv;rcases hr b e.symm with h|⟨_,o,ho,hc⟩
  ·omega
  ·obtain⟨_,⟨rfl,_⟩|⟨g,cap,cur,rfl,_,hgc,_⟩⟩:=h7
   ·cases hv
   ·cases hv;simp only[] at ho;rw[hgc] at ho;cases ho;cases hc
theorem LRx.own(w:World)(R B:Nat)(r:List yp×Nat×Nat)(hR:w.heap.size+2<R)(hRB:R<B)(c c':Code):zde R B (fun (_:List yp) W=>c=c'/\LRx w r W):=fun pre W W' row ⟨hc,h⟩ hg hr=>
 ⟨hc,kF h.below hg hr (by omega) (by omega),h.nil,kX hg hr h.n0 (by omega) (by omega),kX hg hr h.n1 (by omega) (by omega),kX hg hr h.n2 (by omega) (by omega)⟩
theorem zjO{s:ByteArray}(h:(qr s.data.toList).2=0):∀c,c∈s.data.toList->jW c=true:=by
 intro c hc;unfold qr at h;split at h
 ·cases h
 ·cases hf:xU (fun c=> !jW c) s.data.toList with
  |some i=>rw[hf] at h;cases h
  |none=>
   have:∀(l:List UInt8),xU (fun c=> !jW c) l=none->∀c∈l,jW c=true:=by
    intro l;induction l with
    |nil=>intro _ c hc;cases hc
    |cons d l ih=>
     intro h c hc;simp only[xU] at h;split at h
     ·cases h
     ·rename_i hd;rcases wD.1 hc with rfl|hc
      ·simpa using hd
      ·exact ih (by cases hx:xU (fun c=> !jW c) l with
        |none=>rfl
        |some x=>rw[hx] at h;cases h) c hc
   exact this _ hf c hc
theorem zlk{w W1:World}(h:Below (((w.alloc (.cells #[.slice none 0 0] 30 (0,0))).alloc (.cells #[.int .i64 0] 3 (0,0))).alloc (.cells #[.int .i64 0] 31 (0,0))).heap.size (((w.alloc (.cells #[.slice none 0 0] 30 (0,0))).alloc (.cells #[.int .i64 0] 3 (0,0))).alloc (.cells #[.int .i64 0] 31 (0,0))) W1):
 W1.heap[w.heap.size]? =some (.cells #[.slice none 0 0] 30 (0,0))/\W1.heap[w.heap.size+1]? =some (.cells #[.int .i64 0] 3 (0,0))/\W1.heap[w.heap.size+1+1]? =some (.cells #[.int .i64 0] 31 (0,0))/\Below w.heap.size w W1:=
 ⟨zh h (jw _ (jw _ (zk _ _))),zh h (jw _ (kE _ _ _ (by simp))),zh h (kE _ _ _ (by simp)),zg (yP (yP (zf _ _) _) _) h⟩
theorem zaS{w W:World}{v:Value}{a e:Nat}{r:List yp×Nat×Nat}(hb:Below w.heap.size w W)(h0:W.heap[w.heap.size]? =some (.cells #[v] 30 (0,0)))(h1:W.heap[w.heap.size+1]? =some (.cells #[.int .i64 0] 3 (0,0)))(h2:W.heap[w.heap.size+1+1]? =some (.cells #[.int .i64 0] 31 (0,0)))(hr:r=([],a,e))(W':World)
 (hW:W'=((W.setCell ⟨w.heap.size,0,none⟩ (.slice none 0 0)).setCell ⟨w.heap.size+1,0,none⟩ (.int .i64 a)).setCell ⟨w.heap.size+1+1,0,none⟩ (.int .i64 e)):KeepsOthers W W'.drew/\LRx w r W'.drew/\KeepsOthers W W'/\LRx w r W':=by
 subst hW hr;have q0:=zr h0 0 (.slice none 0 0);have q1:(W.setCell ⟨w.heap.size,0,none⟩ (.slice none 0 0)).heap[w.heap.size+1]? =_:=(zt (by omega)).trans h1;have q2:(W.setCell ⟨w.heap.size,0,none⟩ (.slice none 0 0)).heap[w.heap.size+1+1]? =_:=(zt (by omega)).trans h2;have r0:=(zt (b:=w.heap.size+1) (i:=0) (v:=.int .i64 a) (by omega)).trans q0;have r1:=zr q1 0 (.int .i64 a);have r2:=(zt (b:=w.heap.size+1) (i:=0) (v:=.int .i64 a) (by omega)).trans q2;have s0:=(zt (b:=w.heap.size+1+1) (i:=0) (v:=.int .i64 e) (by omega)).trans r0;have s1:=(zt (b:=w.heap.size+1+1) (i:=0) (v:=.int .i64 e) (by omega)).trans r1;have s2:=zr r2 0 (.int .i64 e);have kk:=((KeepsOthers.setCell W ⟨w.heap.size,0,none⟩ (.slice none 0 0)).trans (KeepsOthers.setCell _ ⟨w.heap.size+1,0,none⟩ (.int .i64 a))).trans (KeepsOthers.setCell _ ⟨w.heap.size+1+1,0,none⟩ (.int .i64 e));have bb:=vd (vd (vd hb w.heap.size 0 (pE _) (.slice none 0 0)) (w.heap.size+1) 0 (by omega) (.int .i64 a)) (w.heap.size+1+1) 0 (by omega) (.int .i64 e);exact⟨⟨kk.size,kk.same⟩,⟨bb.drew,rfl,s0,s1,s2⟩,kk,⟨bb,rfl,s0,s1,s2⟩⟩
theorem jI{W:World}{k l:Nat}{o':Obj}{x:Option Obj}(h:W.heap[k]? =x)(hne:k<l):(W.putObj l o').heap[k]? =x:=(World.putObj_heap_other (by omega)).trans h
def zjV(s:ByteArray)(w W1:World)(ca b:Nat)(x:yp):Act:={tmps:= #[.string s,undef,.pointer (some ⟨w.heap.size,0,none⟩),.pointer (some ⟨w.heap.size+1,0,none⟩),.pointer (some ⟨w.heap.size+1+1,0,none⟩),.int .i64 ca,.int .i64 0,.pointer (some ⟨b,0,none⟩),.tuple #[.int .i64 ca,.int .i64 0],.string s,.tuple #[.int .i64 ca,.int .i64 0],.int .i64 ca,.int .i64 0,.int .i64 0,.bool false,undef,undef,.string s,.pointer (some ⟨W1.heap.size+2,0,none⟩),.func (.func 31) #[.pointer (some ⟨W1.heap.size+2,0,none⟩)] #[],zlf x,undef,undef,undef,undef,undef,undef,undef,undef,undef,undef,undef,undef,undef,undef,undef,undef,undef],defers:=[]}
theorem KpT.below{w0:World}{R:Nat}{W W':World}(hb:Below W.heap.size W W'):KpT w0 R W W':=⟨fun _ _ h=>h.below hb,fun h=>zg h hb⟩
theorem KpT.put{w0:World}{R:Nat}{W:World}{l:Nat}{o o':Obj}(hl:w0.heap.size<=l)(ho:W.heap[l]? =some o)(hc:o.isCells=false):KpT w0 R W (W.putObj l o'):=by
 have key:∀{k:Nat} {cs:Array Value} {T:TypeId} {fr:Nat×Nat},W.heap[k]? =some (.cells cs T fr)->(W.putObj l o').heap[k]? =some (.cells cs T fr):=fun hk=>
  (World.putObj_heap_other (fun e=>by subst e;rw[hk] at ho;cases ho;cases hc)).trans hk
 refine⟨fun s a ⟨wb,sb,h1,h2,h3,h4,h5⟩=>⟨wb,sb,key h1,key h2,key h3,h4,h5⟩,fun hb=>?_⟩;exact kF hb (grownBy_putObj' W l o') (R:=w0.heap.size) (B:=w0.heap.size) (fun r e=>by cases e;exact .inr ⟨hl,o,ho,hc⟩) (pE _) (pE _)
theorem kl.own{W:World}{B:Nat}{v:Value}{pre:List yp}(h:kl W B v pre)(g:Nat)(hg:v.ownBlock=some g):B<=g/\∃cur,W.heap[g]? =some (.cells cur 37 (0,0)):=by
 obtain⟨_,⟨rfl,_⟩|⟨g',cap,cur,rfl,h1,h2,_⟩⟩:=h
 ·cases hg
 ·cases hg;exact⟨h1,cur,h2⟩
theorem uN{W w2:World}{B:Nat}{v:Value}{pre:List yp}(htok:kl W B v pre)(o:Obj)(hgrow:(W.alloc o).grownBy w2 v.ownBlock){k:Nat}{o':Obj}(hk:W.heap[k]? =some o')(hne:∀cur,o'≠.cells cur 37 (0,0)):w2.heap[k]? =some o':=by
 refine (hgrow.block k (by have:=(gtA hk);simp;omega) (fun e=>?_)).trans (jw _ hk);obtain⟨_,cur,h⟩:=htok.own k e.symm;rw[hk] at h;cases h;exact hne _ rfl
theorem zkA{w W w2:World}{B R:Nat}{s:List UInt8}{pre:List yp}{x:yp}{v v':Value}(hL:LRd w B s pre W)(hR:w.heap.size+2<R)(hRB:R<B)(hv:W.heap[w.heap.size]? =some (.cells #[v] 30 (0,0)))(htok:kl W B v pre)(o:Obj)(hgrow:(W.alloc o).grownBy w2 v.ownBlock)
 (hown:w2.ownsRow B 37 3 v' (pre.length+1) (yI pre ++ qM x)) (hat:∃k,AtP s (pre ++ [x]) k) (hlen:pre.length+1<=1200) (W9:World) (h9:W9=w2.setCell ⟨w.heap.size,0,none⟩ v') :
 KeepsOthers W W9/\KpT w R W W9/\LRd w B s (pre ++ [x]) W9:=by
 subst h9;have hsz:W.heap.size<=w2.heap.size:=by have:=hgrow.size;simp at this;omega
 have hv2:=uN htok o hgrow hv (fun cur e=>by cases e);have hn1:=uN htok o hgrow hL.n1 (fun cur e=>by cases e);have hn2:=uN htok o hgrow hL.n2 (fun cur e=>by cases e);have hb2:Below w.heap.size w w2:=vJ (yP hL.below o) (World.ownsRow.alloc (World.ownsRow.mono htok (by omega)) o) hgrow;have cellne:∀{k:Nat} {o':Obj},W.heap[k]? =some o'->(∀cur,o'≠.cells cur 30 (0,0))->k≠w.heap.size:=fun hk hne e=>by
  subst e;rw[hv] at hk;cases hk;exact hne _ rfl
 refine⟨⟨by simp[World.setCell];omega,fun k o' hk ho=>(zt (cellne hk (fun cur e=>by subst e;cases ho))).trans (uN htok o hgrow hk (fun cur e=>by subst e;cases ho))⟩,⟨fun s a ⟨wb,sb,h1,h2,h3,h4,h5⟩=>⟨wb,sb,?_,?_,?_,h4,h5⟩,fun _=>vd hb2 _ _ (pE _) _⟩,⟨hat,by simpa using hlen,by simp[World.setCell];have:=hL.YQ;omega,vd hb2 _ _ (pE _) _,(zt (by omega)).trans hn1,(zt (by omega)).trans hn2,v',zr hv2 0 v',?_⟩⟩
 ·exact (zt (cellne h1 (fun cur e=>by cases e))).trans (uN htok o hgrow h1 (fun cur e=>by cases e))
 ·exact (zt (cellne h2 (fun cur e=>by cases e))).trans (uN htok o hgrow h2 (fun cur e=>by cases e))
 ·exact (zt (cellne h3 (fun cur e=>by cases e))).trans (uN htok o hgrow h3 (fun cur e=>by cases e))
 ·refine kl.snoc (World.ownsRow.kept hown (qZ w2 w.heap.size 0 v') ?_);cases hvv:v'.ownBlock with
  |none=>exact .inl rfl
  |some g=>exact .inr fun e=>by have:=(hown.lt g hvv).1;cases e;omega
theorem Zf(s:ByteArray)(w:World)(hs:s.size<=1000000000000)(hG:qH w):
 Calls prog 12 #[.string s] w (zk3 (Lode.yQ s.data.toList) w):=by
 generalize hr:Lode.yQ s.data.toList=r;have Hr:=zi hr;clear hr;have Hc:=zi (fun w=>zgJ s w (by omega));generalize hc:qr s.data.toList=c at *;obtain⟨ca,ce⟩:=c;have Hcc:=zi hc;clear hc;obtain⟨i0,hi,hz0,hz1,hz2⟩:=info_parts Tryz.infoTok;have Hi:=zi (And.intro hi (And.intro hz0 (And.intro hz1 hz2)));clear hi hz0 hz1 hz2;have HG:=zi hG;clear hG;refine (callsIn_wide (n:=5)).1 ?_;refine callsIn_of_wp_marks func12 rfl trivial ?_ rfl;simp only[ntmps12,List.size_toArray,pK,pR,Nat.reduceAdd,Nat.reduceSub,Array.replicate_succ,Array.replicate_zero,List.push_toArray,List.append_toArray,wJ,pT];by_cases he:ce=0
 ·subst he;have hBs:=zi (zjO (s:=s) (by rw[Hcc.out]))
  gi_wp2_with (first
   |(refine⟨trivial,?_⟩;gi_at_call 29;refine (callsIn_wide.2 (Hc.out _)).mono ?_;rintro e W1 ⟨rfl,hb1⟩;obtain⟨m0,m1,m2,hbw1⟩:=zlk hb1)
   |(refine⟨trivial,?_⟩;gi_at_call 30;refine (callsIn_wide.2 (Vs s W1 (HG.out.later hbw1))).mono ?_;rintro e W2 ⟨rfl,hrd,hb2⟩))
  have hbw2:=zg hbw1 hb2;have hs1:=hb1.size;simp only[World.size_alloc] at hs1;have hRlt:W1.heap.size+2<W2.heap.size:=by obtain⟨_,_,h,_⟩:=hrd;exact (gtA h)
  have m0:=zh hb2 m0;have m1:=zh hb2 m1;have m2:=zh hb2 m2;refine zaz rfl (by omega) (gf:=31) (la:= #[.pointer (some ⟨W1.heap.size+2,0,none⟩)]) (lb:= #[]) rfl trivial (enters_of func31 (by kernel_rfl) rfl)
   (zdp (W1.heap.size+2) s w W2 hs hBs.out HG.out hbw2 (by omega) hrd _ (by omega)) hRlt KpT.trans (fun W l o o' hl ho hc=>KpT.put (by omega) ho hc)
   (LRd w W2.heap.size s.data.toList) (fun c _ W=>c=.ret/\LRx w r W) (LRd.own w _ _ _ (by omega) hRlt) (fun c=>LRx.own w _ _ r (by omega) hRlt c .ret)
   ⟨⟨_,.start⟩,by simp,pE _,hbw2,m1,m2,_,m0,World.ownsRow_nil _ _ _ _⟩
   (fun pre x a' W=>∃b,LRd w W2.heap.size s.data.toList pre W/\W2.heap.size<=b/\W.heap[b]? =some (.cells #[.int .u8 x.kind,.string ⟨x.text.toArray⟩,.int .i64 x.at_] 37 (0,0))/\a'=zjV s w W1 ca b x)
   (fun pre x a' W l o o' ⟨b,h1,h2,h3,h4⟩ hl ho hc=>⟨b,LRd.own w (W1.heap.size+2) _ _ (by omega) hRlt pre W _ (some l) h1 (grownBy_putObj' W l o') (fun r e=>by cases e;exact .inr ⟨hl,o,ho,hc⟩),h2,(World.putObj_heap_other (fun e=>by subst e;rw[h3] at ho;cases ho;cases hc)).trans h3,h4⟩) ?assign ?body ?done ?stop
  case assign=>
   intro l pre x W K hI hG hK
   gi_wp2
   exact hK _ _ (KeepsOthers.alloc _ _) (KpT.below (zf _ _)) ⟨W.heap.size,LRd.own w (W1.heap.size+2) _ _ (by omega) hRlt pre W _ none hI (World.grownBy_alloc W _ none) (fun r e=>by cases e),hI.YQ,zk _ _,rfl⟩
  case body=>
   rintro l pre ⟨kk,t,aa⟩ a' W ⟨b,hL,hb,hx,rfl⟩ ⟨k,hat,hlt,hG⟩;have hrinv:=hat.rinv (by rw[Hcc.out]) hL.len;rw[Hr.out] at hrinv;have c0:W.cell? ⟨b,0,none⟩=some (.int .u8 kk):=zd hx 0;have c1:W.cell? ⟨b,1,none⟩=some (.string ⟨t.toArray⟩):=zd hx 1;have c2:W.cell? ⟨b,2,none⟩=some (.int .i64 aa):=zd hx 2;obtain⟨v,hv,htok⟩:=hL.v;have d0:W.cell? ⟨w.heap.size,0,none⟩=some v:=zd hv 0;have d1:W.cell? ⟨w.heap.size+1,0,none⟩=some (.int .i64 0):=zd hL.n1 0;have d2:W.cell? ⟨w.heap.size+1+1,0,none⟩=some (.int .i64 0):=zd hL.n2 0;have f0:W.frozen? ⟨w.heap.size,0,none⟩=false:=zl hv 0;have f1:W.frozen? ⟨w.heap.size+1,0,none⟩=false:=zl hL.n1 0;have f2:W.frozen? ⟨w.heap.size+1+1,0,none⟩=false:=zl hL.n2 0;unfold zjV;rcases hG with⟨ht,hx'⟩|⟨kk',t',m,ht,hx'⟩
   ·simp only[yp.mk.injEq] at hx';obtain⟨rfl,rfl,rfl⟩:=hx';have He:=zi (hrinv.bad hlt ht);have HL:=zi hL;have Hv:=zi hv;clear hL hrinv hat hv
    gi_wp2
    try gi_region
    all_goals
     gi_wp2
     have h:=zaS HL.out.below Hv.out HL.out.n1 HL.out.n2 He.out _ rfl;exact⟨h.1,rfl,h.2.1⟩
   ·simp only[yp.mk.injEq] at hx';obtain⟨rfl,rfl,rfl⟩:=hx';have hm:=qz ht;have hkk:((kk:Int) == 0)=false:=bfE (by omega)
    obtain⟨p,cap,rfl⟩:=htok.form;have HL:=zi hL;have Hv:=zi hv;by_cases hL12:pre.length=1200
    ·have He:=zi (hrinv.full hlt ht hL12);clear hL hrinv hat hv
     gi_wp2
     try gi_region
     all_goals
      gi_wp2
      have h:=zaS HL.out.below Hv.out HL.out.n1 HL.out.n2 He.out _ rfl;exact⟨h.1,rfl,h.2.1⟩
    ·have hL':((pre.length:Int) == 1200)=false:=bfE (by omega)
     have hlen:=hL.len;have hbig:=hL.YQ;have hnext:=zi (hat.next hlt ht);clear hL hrinv hat hv
     gi_wp2_with (gi_at_builtin;refine wpListIn_append_own _ rfl _ _ 30 rfl W2.heap.size 37 i0 _ 3 32 underlying30 Hi.out.1 Hi.out.2.1 Hi.out.2.2.1 Hi.out.2.2.2 rfl (by decide) _ _ _ rfl (World.ownsRow.alloc htok _) ⟨W.heap.size,0,none⟩ 1 1 (qM ⟨kk,t,(k:Nat)⟩) rfl rfl ?c1 ?c2 ?c3 ?c4 ?c5 ?_)
     case c1=>exact fun j u h=>h
     case c2=>intro u hu;simp[qM] at hu;rcases hu with rfl|rfl|rfl <;> rfl
     case c3=>unfold maxLen;omega
     case c4=>omega
     case c5=>omega
     ·intro v' w2 hown' hgrow _;obtain⟨g',cap',rfl⟩:=ownsRow_succ hown';have hv2:=uN htok _ hgrow Hv.out (fun cur e=>by cases e);have g0:=zd hv2 0;have gf:=zl hv2 0;have hfin:=zi (zkA HL.out (by omega) hRlt Hv.out htok _ hgrow hown' ⟨_,hnext.out⟩ (by omega) _ rfl);clear hown' hgrow htok hv2 d0 f0
      gi_wp2
      exact hfin.out
  case done=>
   rintro D xs W hS hI hD hK;have hr:r=(xs,0,0):=by
    rcases hS with⟨k,hat,hk⟩|⟨pre,k,rfl⟩
    ·have h:=hat.rinv (by rw[Hcc.out]) hI.len;rw[Hr.out] at h;exact h.done hk
    ·obtain⟨k',hat⟩:=hI.at_;have:=hat.kinds ⟨0,[],(k:Nat)⟩ (by simp);simp at this
   subst hr;obtain⟨v,hv,htok⟩:=hI.v;have d0:W.cell? ⟨w.heap.size,0,none⟩=some v:=zd hv 0;have d1:W.cell? ⟨w.heap.size+1,0,none⟩=some (.int .i64 0):=zd hI.n1 0;have d2:W.cell? ⟨w.heap.size+1+1,0,none⟩=some (.int .i64 0):=zd hI.n2 0;have f0:W.frozen? ⟨w.heap.size,0,none⟩=false:=zl hv 0;have f1:W.frozen? ⟨w.heap.size+1,0,none⟩=false:=zl hI.n1 0;have f2:W.frozen? ⟨w.heap.size+1+1,0,none⟩=false:=zl hI.n2 0;have Hv:=zi hv;have HI:=zi hI;obtain⟨p,cap,rfl⟩:=htok.form;have hsame:=zi (show ((W.setCell ⟨w.heap.size,0,none⟩ (.slice p xs.length cap)).setCell ⟨w.heap.size+1,0,none⟩ (.int .i64 0)).setCell ⟨w.heap.size+1+1,0,none⟩ (.int .i64 0)=W by
    rw[Qe d0,Qe d1,Qe d2])
   clear hI hv hS
   gi_wp2
   rw[hsame.out];have u0:=zd (jI (l:=D) (o':=.deferred none) Hv.out (by omega)) 0;have u1:=zd (jI (l:=D) (o':=.deferred none) HI.out.n1 (by omega)) 0;have u2:=zd (jI (l:=D) (o':=.deferred none) HI.out.n2 (by omega)) 0;refine⟨by simp,.inl ⟨_,_,rfl,run_takeDeferred hK,?_⟩⟩;refine⟨.tuple #[.slice p xs.length cap,.int .i64 0,.int .i64 0],by simp[results,results12,go_sem,u0,u1,u2],?_⟩;refine⟨_,rfl,?_,?_⟩
   ·refine World.ownsRow.mono (World.ownsRow.kept htok (grownBy_putObj' W D _) ?_) (by omega);refine .inr fun e=>?_
    cases p with
    |none=>cases e
    |some a=>
     obtain⟨_,cur,h⟩:=htok.own a.block rfl;cases e;rw[hK] at h;cases h
   ·exact kF HI.out.below (grownBy_putObj' W D _) (R:=D) (B:=D) (fun r e=>by cases e;exact .inl rfl) (by omega) (by omega)
  case stop=>
   rintro D c pre W _ ⟨rfl,hx⟩ hD hK
   gi_wp2
   have u0:=zd (jI (l:=D) (o':=.deferred none) hx.n0 (by omega)) 0;have u1:=zd (jI (l:=D) (o':=.deferred none) hx.n1 (by omega)) 0;have u2:=zd (jI (l:=D) (o':=.deferred none) hx.n2 (by omega)) 0;refine⟨by simp,.inl ⟨_,_,rfl,run_takeDeferred hK,?_⟩⟩;refine⟨.tuple #[.slice none 0 0,.int .i64 r.2.1,.int .i64 r.2.2],by simp[results,results12,go_sem,u0,u1,u2],?_⟩;refine⟨_,rfl,by rw[hx.nil];exact zb2 _ _,?_⟩;exact kF hx.below (grownBy_putObj' W D _) (R:=D) (B:=D) (fun r e=>by cases e;exact .inl rfl) (by omega) (by omega)
 ·have he':((ce:Int) != 0)=true:=by simpa using he
  gi_wp2_with (first
   |(refine⟨trivial,?_⟩;gi_at_call 29;refine (callsIn_wide.2 (Hc.out _)).mono ?_;rintro e W1 ⟨rfl,hb1⟩;obtain⟨m0,m1,m2,hbw1⟩:=zlk hb1;have c0:=zd m0 0;have c1:=zd m1 0;have c2:=zd m2 0;have f0:=zl m0 0;have f1:=zl m1 0;have f2:=zl m2 0;have HM:=zi (And.intro m0 (And.intro m1 m2));clear m0 m1 m2))
  have hx:=(zaS hbw1 HM.out.1 HM.out.2.1 HM.out.2.2 (r:=r) (a:=ca) (e:=ce) (by rw[<-Hr.out,Lode.yQ,Hcc.out];simp[he]) _ rfl).2.2.2;generalize World.setCell _ ⟨w.heap.size+1+1,0,none⟩ _=W9 at hx ⊢;have u0:=zd hx.n0 0;have u1:=zd hx.n1 0;have u2:=zd hx.n2 0;refine⟨.tuple #[.slice none 0 0,.int .i64 r.2.1,.int .i64 r.2.2],by simp[results,results12,go_sem,u0,u1,u2],?_⟩;exact⟨_,rfl,by rw[hx.nil];exact zb2 _ _,hx.below⟩
end
end Go.Proofs.YtnncmdpopgkibaaGreatDoor
