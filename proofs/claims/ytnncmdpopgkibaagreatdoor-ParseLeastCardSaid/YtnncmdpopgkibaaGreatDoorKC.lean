/-
  A part of the proof: contracts of functions; no conditions.
-/
import Derived.Test.YtnncmdpopgkibaaGreatDoorKB
import Derived.Laws.Runes
import Derived.OrdersIn
import Derived.TacticsIn
import Derived.Laws.CopyOwn
import Derived.Laws.MakeOwn
import Derived.Laws.OwnMore
import Derived.Shelf.Abstract
import Derived.Shelf.RegionOpen
import Derived.WalkKit
import Derived.OwnWalkIn
import Derived.TacticsInMore
import Derived.LoopNIn
import Derived.LoopIn
set_option maxRecDepth 100000
set_option maxHeartbeats 40000000
set_option linter.unusedSimpArgs false
set_option linter.unusedVariables false
namespace Go.Proofs.YtnncmdpopgkibaaGreatDoor
section
open Go.RowKit Lode Go.Shelf
attribute [local go_sem ↓] Go.wp_at_zero Go.wp_at_succ
open Go.Proofs.Tryz
theorem zei(c:UInt8)(w:World)(hc:jW c=true):
 Calls prog 99 #[.int .u8 (c.toNat:Int)] w fun e w'=>e=.returned (.string ⟨(zV c).toArray⟩)/\w'=w:=by
 have h0:(0:Int)<=(c.toNat:Int):=by omega
 have h1:(c.toNat:Int)<=126:=by rcases (zbs c).1 hc with h|h <;> omega
 have he:Utf8.encode (c.toNat:Int)=⟨#[c]⟩:=by
  have hv:Utf8.valid (c.toNat:Int)=true:=by rw[validRune_eq];simp[validRune];omega
  simp only[Utf8.encode,hv,if_true];rw[if_pos (by simp;omega)];simp
 have hw:wrap32 (c.toNat:Int)=c.toNat:=IntWalk.wrap32_in _ ⟨by omega,by omega⟩;clear hc;have q:zV c=if ((c.toNat:Int) == 10)=true then [92,110] else if ((c.toNat:Int) == 34)=true then [92,34] else if ((c.toNat:Int) == 92)=true then [92,92] else [c]:=by
  simp only[pS,c10,c34,c92,zV];by_cases h1:c=10
  ·simp[h1]
  ·by_cases h2:c=34
   ·simp[h2]
   ·by_cases h3:c=92 <;> simp[h1,h2,h3]
 rw[q];clear q;by_cases h10:((c.toNat:Int) == 10)=true
 ·rw[if_pos h10];go_enter func99,ntmps99;go_wp2;go_ret;exact⟨rfl,rfl⟩
 rw[if_neg h10];simp only[Bool.not_eq_true] at h10;by_cases h34:((c.toNat:Int) == 34)=true
 ·rw[if_pos h34];go_enter func99,ntmps99;go_wp2;go_ret;have e34:c=34:=(c34 _).mp (by simpa using h34);subst e34;exact⟨rfl,rfl⟩
 rw[if_neg h34];simp only[Bool.not_eq_true] at h34;by_cases h92:((c.toNat:Int) == 92)=true
 ·rw[if_pos h92];go_enter func99,ntmps99;go_wp2;go_ret;have e92:c=92:=(c92 _).mp (by simpa using h92);subst e92;exact⟨rfl,rfl⟩
 rw[if_neg h92];simp only[Bool.not_eq_true] at h92;go_enter func99,ntmps99;go_wp2;go_ret;exact⟨rfl,rfl⟩
theorem Bd.writeStr{w0 w:World}{b:Nat}{ob:ByteArray}(h:Bd w0 b ob w)(x:ByteArray)(hs:ob.size+x.size<=2000000000000):
 Calls prog 46 #[.pointer (some ⟨b,0,none⟩),.string x] w fun e w'=>e=.returned (.tuple #[.int .i64 x.size,.nilIface])/\Bd w0 b (ob ++ x) w':=
 (Jk w0.heap.size b _ x w h.1 (pN (Nat.le_of_eq (by rw[Lib.byteCells_length];exact congrArg (· +x.size) (by simp:ob.data.toList.length=ob.size))) (by omega:ob.size+x.size<=140737488355328)) h.2.size).mono fun e w' ⟨h1,h2,h3⟩=>⟨h1,.inr (by
  have e:Lib.byteCells (ob ++ x).data.toList=Lib.byteCells ob.data.toList ++ Lib.strCells x:=by rw[zq];simp[Lib.byteCells,Lib.strCells]
  rw[e];exact h2),h.2.trans h3⟩
theorem ZE:∀l:List UInt8,decide (xU (fun c=> !jW c) l=none)=l.all jW
 |[]=>rfl
 |c :: l=>by
  have:=ZE l;simp only[xU,List.all_cons];by_cases hc:jW c=true
  ·simp only[hc,Bool.not_true,Bool.false_eq_true,if_false,Bool.true_and,<-this];cases xU (fun c=> !jW c) l <;> simp
  ·simp[hc]
theorem Ke(c:UInt8):(⟨(zV c).toArray⟩:ByteArray).size<=2:=XA c
theorem zij(x:ByteArray)(l:List UInt8)(h:x.data.toList=l):x=⟨l.toArray⟩:=by subst h;exact Vb x
theorem zhX(s:ByteArray)(w:World)(hs:s.size<=1000000000000):
 Calls prog 98 #[.string s,.func (.func 62) #[] #[]] w fun e w'=>e=.returned (.bool (s.data.toList.all jW))/\Below w.heap.size w w':=
 (zjP s 62 #[] jW w (zfk w) (by omega)).mono fun e w' ⟨h1,h2⟩=>⟨by rw[h1,ZE],h2⟩
def zlJ(s:ByteArray)(w:World)(i:Value)(wr:World):Prop:=
 ∃(k:Nat) (ob:ByteArray),i=.int .i64 k/\k<=s.size/\Bd w w.heap.size ob wr/\ob.data.toList=(s.data.toList.take k).flatMap zV/\ob.size<=2*k
theorem Ks(s:ByteArray)(w:World)(hs:s.size<=1000000000000):
 Calls prog 67 #[.string s] w fun e w'=>e=.returned (.tuple #[.string ⟨(qA s.data.toList).1.toArray⟩,.int .i64 (qA s.data.toList).2])/\Below w.heap.size w w':=by
 generalize hr:qA s.data.toList=r;have Hr:=zi hr;clear hr;by_cases h60:60<s.size
 ·have e:r=([],5):=by rw[<-Hr.out,qA,if_pos (by simpa using h60)]
  subst e;go_enter func67,ntmps67;go_wp2;go_ret2;exact⟨rfl,pF _ _⟩
 have HA:=zi (zhX s w (by omega));cases hall:s.data.toList.all jW with
 |false=>
  have e:r=([],4):=by rw[<-Hr.out,qA,if_neg (by simpa using h60),if_neg (by simp[hall])]
  subst e;rw[hall] at HA;go_enter func67,ntmps67;go_wp2_with (go_at_call 98;refine HA.out.mono ?_;rintro e w1 ⟨rfl,hb1⟩);go_ret2;exact⟨rfl,hb1⟩
 |true=>
  have hB:Hid (∀(k:Nat) (h:k<s.size),jW s[k]=true):=zi (fun k h=>by
   rw[pO] at hall;exact hall _ (by rw[show s[k]=s.data.toList[k]'(by simpa using h) by simp;rfl];exact wC _))
  have Hr2:=zi (show r=(34 :: s.data.toList.flatMap zV ++ [34],0) by rw[<-Hr.out,qA,if_neg (by simpa using h60),if_pos hall];rfl);rw[hall] at HA;clear hall;go_enter func67,ntmps67;go_wp2_with (go_at_call 98;refine HA.out.mono ?_;rintro e w1 ⟨rfl,hb1⟩);go_loopw [16] (zlJ s w1) (fun i _=>s.size-(intOf i).toNat)
  case atStart=>exact⟨0,ByteArray.empty,rfl,by omega,Bd.fresh w1 _ rfl,by simp,by decide⟩
  case round=>
   obtain⟨k,ob,rfl,hk,hb,hob,hsz⟩:=hrel;have Hob:=zi hob;clear hob;by_cases hlt:k<s.size
   ·have hE:=zi (fun w=>zei s[k] w (hB.out k hlt));have hq2:=Ke s[k];have hW:=zi (hb.writeStr ⟨(zV s[k]).toArray⟩ (by omega));go_wp2_with (first
     |(go_at_call 99;refine (hE.out _).mono ?_;rintro e w' ⟨rfl,rfl⟩)
     |(go_at_call 46;refine hW.out.mono ?_;rintro e w2 ⟨rfl,hb2⟩))
    go_roundw
    case rel=>exact⟨k+1,_,by go_num,by omega,hb2,by rw[zq,Hob.out,zha s k hlt];simp,by rw[ByteArray.size_append];omega⟩
    case measure=>simp[intOf];omega
   ·have hf:Hid (r=(34 :: ob.data.toList ++ [34],0)):=zi (by rw[Hr2.out,Hob.out,List.take_of_length_le (by simp;omega)]);go_wp2_with (go_at_call 48;refine hb.str.mono ?_;rintro e w2 ⟨rfl,hf2⟩);go_ret2;refine⟨?_,zg hb1 hf2.2⟩;rw[hf.out,zij (⟨#[34]⟩ ++ ob ++ ⟨#[34]⟩) (34 :: ob.data.toList ++ [34]) (by rw[zq,zq];rfl)];rfl
end
end Go.Proofs.YtnncmdpopgkibaaGreatDoor
namespace Lode
def yV(k:Nat)(t:List UInt8):List UInt8×Nat:=
 if k=4 then (if (qA t).2=0 then ((qA t).1,0) else ([],4)) else
 if (yQ t).1=[⟨k,t,0⟩]/\(yQ t).2.2=0 then (t,0) else ([],4)
end Lode
namespace Go.Proofs.YtnncmdpopgkibaaGreatDoor
section
open Go.RowKit Lode Go.Shelf
attribute [local go_sem ↓] Go.wp_at_zero Go.wp_at_succ
open Go.Proofs.Tryz
abbrev SV(k:Int)(t:List UInt8)(a:Int)(sp:List UInt8):Value:=.agg #[.int .u8 k,.string ⟨t.toArray⟩,.int .i64 a,.string ⟨sp.toArray⟩]
structure VA(w W:World)(k:Int)(t:List UInt8)(a:Int)(k':Int)(t':List UInt8)(a':Int)(sp:List UInt8):Prop where
 b:Below w.heap.size w W
 tok:W.heap[w.heap.size]? =some (.cells #[.int .u8 k,.string ⟨t.toArray⟩,.int .i64 a] 37 (0,0))
 out:W.heap[w.heap.size+1]? =some (.cells #[.int .u8 k',.string ⟨t'.toArray⟩,.int .i64 a',.string ⟨sp.toArray⟩] 68 (0,0))
theorem VA.start(w:World)(k:Int)(t:List UInt8)(a:Int)(k':Int)(t':List UInt8)(a':Int)(sp:List UInt8):VA w ((w.alloc (.cells #[.int .u8 k,.string ⟨t.toArray⟩,.int .i64 a] 37 (0,0))).alloc (.cells #[.int .u8 k',.string ⟨t'.toArray⟩,.int .i64 a',.string ⟨sp.toArray⟩] 68 (0,0))) k t a k' t' a' sp:=
 ⟨yP (zf _ _) _,jw _ (zk _ _),kE _ _ _ (by simp)⟩
theorem VA.later{w W W':World}{k:Int}{t:List UInt8}{a:Int}{k':Int}{t':List UInt8}{a':Int}{sp:List UInt8}(h:VA w W k t a k' t' a' sp)(hb:Below W.heap.size W W'):VA w W' k t a k' t' a' sp:=⟨zg h.b hb,zh hb h.tok,zh hb h.out⟩
theorem VA.toks{w W:World}{k:Int}{t:List UInt8}{a:Int}{k':Int}{t':List UInt8}{a':Int}{sp:List UInt8}(h:VA w W k t a k' t' a' sp):W.cell? ⟨w.heap.size,0,none⟩=some (.int .u8 k)/\W.cell? ⟨w.heap.size,1,none⟩=some (.string ⟨t.toArray⟩)/\W.cell? ⟨w.heap.size,2,none⟩=some (.int .i64 a):=⟨zd h.tok 0,zd h.tok 1,zd h.tok 2⟩
theorem VA.outs{w W:World}{k:Int}{t:List UInt8}{a:Int}{k':Int}{t':List UInt8}{a':Int}{sp:List UInt8}(h:VA w W k t a k' t' a' sp):W.cell? ⟨w.heap.size+1,0,none⟩=some (.int .u8 k')/\W.cell? ⟨w.heap.size+1,1,none⟩=some (.string ⟨t'.toArray⟩)/\W.cell? ⟨w.heap.size+1,2,none⟩=some (.int .i64 a')/\W.cell? ⟨w.heap.size+1,3,none⟩=some (.string ⟨sp.toArray⟩)/\
 W.frozen? ⟨w.heap.size+1,0,none⟩=false/\W.frozen? ⟨w.heap.size+1,1,none⟩=false/\W.frozen? ⟨w.heap.size+1,2,none⟩=false/\W.frozen? ⟨w.heap.size+1,3,none⟩=false:=⟨zd h.out 0,zd h.out 1,zd h.out 2,zd h.out 3,zl h.out 0,zl h.out 1,zl h.out 2,zl h.out 3⟩
theorem VA.sp{w W:World}{k:Int}{t:List UInt8}{a:Int}{k':Int}{t':List UInt8}{a':Int}{sp:List UInt8}(h:VA w W k t a k' t' a' sp)(sp2:List UInt8):VA w (W.setCell ⟨w.heap.size+1,3,none⟩ (.string ⟨sp2.toArray⟩)) k t a k' t' a' sp2:=
 ⟨vd h.b _ _ (by omega) _,(zt (by omega)).trans h.tok,zr h.out 3 _⟩
theorem VA.all{w W:World}{k:Int}{t:List UInt8}{a:Int}{k':Int}{t':List UInt8}{a':Int}{sp:List UInt8}(h:VA w W k t a k' t' a' sp)(k2:Int)(t2:List UInt8)(a2:Int)(sp2:List UInt8):VA w ((((W.setCell ⟨w.heap.size+1,0,none⟩ (.int .u8 k2)).setCell ⟨w.heap.size+1,1,none⟩ (.string ⟨t2.toArray⟩)).setCell ⟨w.heap.size+1,2,none⟩ (.int .i64 a2)).setCell ⟨w.heap.size+1,3,none⟩ (.string ⟨sp2.toArray⟩)) k t a k2 t2 a2 sp2:=
 ⟨vd (vd (vd (vd h.b _ _ (by omega) _) _ _ (by omega) _) _ _ (by omega) _) _ _ (by omega) _,(zt (by omega)).trans ((zt (by omega)).trans ((zt (by omega)).trans ((zt (by omega)).trans h.tok))),zr (zr (zr (zr h.out 0 _) 1 _) 2 _) 3 _⟩
def zk0(k:Int)(t:List UInt8)(a:Int)(r:List UInt8×Nat)(w:World)(e:Ending)(w':World):Prop:=
 (r.2=0/\e=.returned (.tuple #[SV k t a r.1,.int .i64 0])\/r.2=4/\e=.returned (.tuple #[SV 0 [] 0 [],.int .i64 4]))/\Below w.heap.size w w'
theorem ze5{w:World}{b:Nat}{v:Value}{k:Nat}{t:List UInt8}{a:Int}(h:kl w b v [⟨k,t,a⟩]):∃g cap,v=.slice (some ⟨g,0,none⟩) 1 cap/\w.cell? ⟨g,0,none⟩=some (.int .u8 k)/\w.cell? ⟨g,1,none⟩=some (.string ⟨t.toArray⟩)/\w.cell? ⟨g,2,none⟩=some (.int .i64 a):=by
 obtain⟨_,⟨_,h⟩|⟨g,cap,cur,rfl,h⟩⟩:=id h
 ·cases h
 ·exact⟨g,cap,rfl,World.ownsRow.cellAt h 0 (by simp),World.ownsRow.cellAt h 1 (by simp),World.ownsRow.cellAt h 2 (by simp)⟩
theorem Xd(k:Nat)(t:List UInt8)(a:Int)(w:World)(hs:t.length<=1000000000000)(hG:qH w):
 Calls prog 32 #[.agg #[.int .u8 k,.string ⟨t.toArray⟩,.int .i64 a]] w (zk0 k t a (yV k t) w):=by
 generalize hr:yV k t=r;have Hr:=zi hr;clear hr;have HG:=zi hG;clear hG;by_cases hk:k=4
 ·subst hk;have Hq:=zi (fun w=>Ks ⟨t.toArray⟩ w hs);rw[show (⟨t.toArray⟩:ByteArray).data.toList=t from rfl] at Hq;by_cases h0:(qA t).2=0
  ·have hre:r=((qA t).1,0):=by rw[<-Hr.out,yV,if_pos rfl,if_pos h0]
   generalize qA t=q at *;obtain⟨q1,q2⟩:=q;simp only at h0 hre;subst h0 hre;go_enter func32,ntmps32;go_wp2_with (go_at_call 67;refine (Hq.out _).mono ?_;rintro e w1 ⟨rfl,hb1⟩;have hS:=(VA.start w _ _ _ _ _ _ _).later hb1;obtain⟨c0,c1,c2,c3,f0,f1,f2,f3⟩:=hS.outs);have hS2:=(hS.sp q1).all 4 t a q1;generalize World.setCell _ ⟨w.heap.size+1,3,none⟩ _=W9 at hS2 ⊢;obtain⟨u0,u1,u2,u3,_⟩:=hS2.outs;refine bodyPost_ret (v:=.tuple #[SV 4 t a q1,.int .i64 0]) (by simp[results,results32,go_sem,u0,u1,u2,u3]) rfl ?_;exact⟨.inl ⟨rfl,rfl⟩,hS2.b⟩
  ·have hre:r=([],4):=by rw[<-Hr.out,yV,if_pos rfl,if_neg h0]
   generalize qA t=q at *;obtain⟨q1,q2⟩:=q;simp only at h0;subst hre;have h0':((q2:Int) != 0)=true:=by rw[wT];omega
   go_enter func32,ntmps32;go_wp2_with (go_at_call 67;refine (Hq.out _).mono ?_;rintro e w1 ⟨rfl,hb1⟩;have hS:=(VA.start w _ _ _ _ _ _ _).later hb1;obtain⟨c0,c1,c2,c3,f0,f1,f2,f3⟩:=hS.outs);have hS2:=(hS.sp q1).all 0 [] 0 [];generalize World.setCell _ ⟨w.heap.size+1,3,none⟩ (.string ⟨#[]⟩)=W9 at hS2 ⊢;obtain⟨u0,u1,u2,u3,_⟩:=hS2.outs;refine bodyPost_ret (v:=.tuple #[SV 0 [] 0 [],.int .i64 4]) (by simp[results,results32,go_sem,u0,u1,u2,u3]) rfl ?_;exact⟨.inr ⟨rfl,rfl⟩,hS2.b⟩
 ·have hk':((k:Int) == 4)=false:=bfE (by omega)
  have hre:r=if (yQ t).1=[⟨k,t,0⟩]/\(yQ t).2.2=0 then (t,0) else ([],4):=by rw[<-Hr.out,yV,if_neg hk]
  have HR:=zi (fun (W:World) (hb:Below w.heap.size w W)=>Zf ⟨t.toArray⟩ W hs (HG.out.later hb));rw[show (⟨t.toArray⟩:ByteArray).data.toList=t from rfl] at HR;have hb0:∀o o',Below w.heap.size w ((w.alloc o).alloc o'):=fun o o'=>yP (zf _ _) _
  generalize yQ t=x at *;obtain⟨L,xa,xe⟩:=x;by_cases h0:xe=0
  ·subst h0;by_cases h1:L.length=1
   ·obtain⟨⟨k1,t1,a1⟩,rfl⟩:=List.length_eq_one_iff.1 h1;clear h1;by_cases he:k1=k/\t1=t/\a1=0
    ·obtain⟨rfl,rfl,rfl⟩:=he;have hr2:r=(t1,0):=by rw[hre,if_pos ⟨rfl,rfl⟩]
     subst hr2;clear hre;go_enter func32,ntmps32;go_wp2_with (go_at_call 12;refine (HR.out _ (hb0 _ _)).mono ?_;rintro e w1 ⟨v,rfl,htok,hb1⟩;obtain⟨g,cap,rfl,e0,e1,e2⟩:=ze5 htok;have hS:=(VA.start w _ _ _ _ _ _ _).later hb1;obtain⟨c0,c1,c2,c3,f0,f1,f2,f3⟩:=hS.outs;obtain⟨d0,d1,d2⟩:=hS.toks);go_quiet (fail);have hS3:=(hS.later (ym bR nq)).all k1 t1 a t1;go_wp2_with fail;generalize World.setCell _ ⟨w.heap.size+1,3,none⟩ _=W9 at hS3 ⊢;obtain⟨u0,u1,u2,u3,_⟩:=hS3.outs;refine bodyPost_ret (v:=.tuple #[SV k1 t1 a t1,.int .i64 0]) (by simp[results,results32,go_sem,u0,u1,u2,u3]) rfl ?_;exact⟨.inl ⟨rfl,rfl⟩,hS3.b⟩
    ·have hr2:r=([],4):=by
      rw[hre,if_neg];rintro ⟨e,_⟩;simp only[List.cons.injEq,yp.mk.injEq,and_true] at e;exact he e
     subst hr2;clear hre;have hne:((k1:Int) == (k:Int))=false\/(k1=k/\t1≠t)\/(k1=k/\t1=t/\(a1 == 0)=false):=by
      by_cases e1:k1=k
      ·by_cases e2:t1=t
       ·exact .inr (.inr ⟨e1,e2,by rw[pB];exact fun e3=>he ⟨e1,e2,e3⟩⟩)
       ·exact .inr (.inl ⟨e1,e2⟩)
      ·exact .inl (bfE (by omega))
     clear he;rcases hne with hne|⟨rfl,hne⟩|⟨rfl,rfl,hne⟩
     all_goals
      go_enter func32,ntmps32;go_wp2_with (go_at_call 12;refine (HR.out _ (hb0 _ _)).mono ?_;rintro e w1 ⟨v,rfl,htok,hb1⟩;obtain⟨g,cap,rfl,e0,e1,e2⟩:=ze5 htok;have hS:=(VA.start w _ _ _ _ _ _ _).later hb1;obtain⟨c0,c1,c2,c3,f0,f1,f2,f3⟩:=hS.outs;obtain⟨d0,d1,d2⟩:=hS.toks);go_quiet (fail);have hS3:=(hS.later (ym bR nq)).all 0 [] 0 [];go_wp2_with fail;generalize World.setCell _ ⟨w.heap.size+1,3,none⟩ (.string ⟨#[]⟩)=W9 at hS3 ⊢;obtain⟨u0,u1,u2,u3,_⟩:=hS3.outs;refine bodyPost_ret (v:=.tuple #[SV 0 [] 0 [],.int .i64 4]) (by simp[results,results32,go_sem,u0,u1,u2,u3]) rfl ?_;exact⟨.inr ⟨rfl,rfl⟩,hS3.b⟩
   ·have hr2:r=([],4):=by rw[hre,if_neg (fun e=>h1 (by have e1:=e.1;simp only at e1;rw[e1];rfl))]
    subst hr2;have h1':((L.length:Int) != 1)=true:=by rw[wT];omega
    clear hre h1;go_enter func32,ntmps32;go_wp2_with (go_at_call 12;refine (HR.out _ (hb0 _ _)).mono ?_;rintro e w1 ⟨v,rfl,htok,hb1⟩;obtain⟨p,cap,rfl⟩:=htok.form;have hS:=(VA.start w _ _ _ _ _ _ _).later hb1;obtain⟨c0,c1,c2,c3,f0,f1,f2,f3⟩:=hS.outs;obtain⟨d0,d1,d2⟩:=hS.toks);go_quiet (fail);have hS3:=(hS.later (ym bR nq)).all 0 [] 0 [];go_wp2_with fail;generalize World.setCell _ ⟨w.heap.size+1,3,none⟩ (.string ⟨#[]⟩)=W9 at hS3 ⊢;obtain⟨u0,u1,u2,u3,_⟩:=hS3.outs;refine bodyPost_ret (v:=.tuple #[SV 0 [] 0 [],.int .i64 4]) (by simp[results,results32,go_sem,u0,u1,u2,u3]) rfl ?_;exact⟨.inr ⟨rfl,rfl⟩,hS3.b⟩
  ·have hr2:r=([],4):=by rw[hre,if_neg (fun e=>h0 e.2)]
   subst hr2;have h0':((xe:Int) != 0)=true:=by rw[wT];omega
   clear hre;go_enter func32,ntmps32;go_wp2_with (go_at_call 12;refine (HR.out _ (hb0 _ _)).mono ?_;rintro e w1 ⟨v,rfl,htok,hb1⟩;obtain⟨p,cap,rfl⟩:=htok.form;have hS:=(VA.start w _ _ _ _ _ _ _).later hb1;obtain⟨c0,c1,c2,c3,f0,f1,f2,f3⟩:=hS.outs;obtain⟨d0,d1,d2⟩:=hS.toks);go_quiet (fail);have hS3:=(hS.later (ym bR nq)).all 0 [] 0 [];go_wp2_with fail;generalize World.setCell _ ⟨w.heap.size+1,3,none⟩ (.string ⟨#[]⟩)=W9 at hS3 ⊢;obtain⟨u0,u1,u2,u3,_⟩:=hS3.outs;refine bodyPost_ret (v:=.tuple #[SV 0 [] 0 [],.int .i64 4]) (by simp[results,results32,go_sem,u0,u1,u2,u3]) rfl ?_;exact⟨.inr ⟨rfl,rfl⟩,hS3.b⟩
end
end Go.Proofs.YtnncmdpopgkibaaGreatDoor
namespace Lode
def Qk(k1:Nat)(t1 s1:List UInt8)(k2:Nat)(t2 s2:List UInt8):Bool:=
 !(decide ((yQ (s1 ++ s2)).2.2=0) && decide ((yQ (s1 ++ s2)).1=[⟨k1,t1,0⟩,⟨k2,t2,s1.length⟩]))
end Lode
namespace Go.Proofs.YtnncmdpopgkibaaGreatDoor
section
open Go.RowKit Lode Go.Shelf
attribute [local go_sem ↓] Go.wp_at_zero Go.wp_at_succ
open Go.Proofs.Tryz
theorem zaH{w:World}{b:Nat}{v:Value}{k1 k2:Nat}{t1 t2:List UInt8}{a1 a2:Int}(h:kl w b v [⟨k1,t1,a1⟩,⟨k2,t2,a2⟩]):∃g cap,v=.slice (some ⟨g,0,none⟩) 2 cap/\w.cell? ⟨g,0,none⟩=some (.int .u8 k1)/\w.cell? ⟨g,1,none⟩=some (.string ⟨t1.toArray⟩)/\w.cell? ⟨g,2,none⟩=some (.int .i64 a1)/\
 w.cell? ⟨g,3,none⟩=some (.int .u8 k2)/\w.cell? ⟨g,4,none⟩=some (.string ⟨t2.toArray⟩)/\w.cell? ⟨g,5,none⟩=some (.int .i64 a2):=by
 obtain⟨_,⟨_,h⟩|⟨g,cap,cur,rfl,h⟩⟩:=id h
 ·cases h
 ·exact⟨g,cap,rfl,World.ownsRow.cellAt h 0 (by simp),World.ownsRow.cellAt h 1 (by simp),World.ownsRow.cellAt h 2 (by simp),World.ownsRow.cellAt h 3 (by simp),World.ownsRow.cellAt h 4 (by simp),World.ownsRow.cellAt h 5 (by simp)⟩
theorem zik(w:World)(T:TypeId)(x y:Array Value)(c0 c1 c2 c3 d0 d1 d2 d3:Value)(W:World)(hx:x= #[c0,c1,c2,c3])(hy:y= #[d0,d1,d2,d3])(h:Below ((w.alloc (.cells x T (0,0))).alloc (.cells y T (0,0))).heap.size ((w.alloc (.cells x T (0,0))).alloc (.cells y T (0,0))) W):
 Below w.heap.size w W/\(W.cell? ⟨w.heap.size,0,none⟩=some c0/\W.cell? ⟨w.heap.size,1,none⟩=some c1/\W.cell? ⟨w.heap.size,2,none⟩=some c2/\W.cell? ⟨w.heap.size,3,none⟩=some c3)/\
 (W.cell? ⟨w.heap.size+1,0,none⟩=some d0/\W.cell? ⟨w.heap.size+1,1,none⟩=some d1/\W.cell? ⟨w.heap.size+1,2,none⟩=some d2/\W.cell? ⟨w.heap.size+1,3,none⟩=some d3):=by
 subst hx hy;have h0:=zh h (jw (.cells #[d0,d1,d2,d3] T (0,0)) (zk w (.cells #[c0,c1,c2,c3] T (0,0))));have h1:=zh h (b:=w.heap.size+1) (o:=.cells #[d0,d1,d2,d3] T (0,0)) (kE _ _ _ (by simp));exact⟨zg (yP (zf _ _) _) h,⟨zd h0 0,zd h0 1,zd h0 2,zd h0 3⟩,⟨zd h1 0,zd h1 1,zd h1 2,zd h1 3⟩⟩
theorem zcO(k1:Nat)(t1:List UInt8)(a1:Int)(s1:List UInt8)(k2:Nat)(t2:List UInt8)(a2:Int)(s2:List UInt8)(w:World)(h1:s1.length<=100000000000)(h2:s2.length<=100000000000)(hG:qH w):
 Calls prog 51 #[SV k1 t1 a1 s1,SV k2 t2 a2 s2] w fun e w'=>e=.returned (.bool (Qk k1 t1 s1 k2 t2 s2))/\Below w.heap.size w w':=by
 generalize hr:Qk k1 t1 s1 k2 t2 s2=r;replace hr:r= !(decide ((yQ (s1 ++ s2)).2.2=0) && decide ((yQ (s1 ++ s2)).1=[⟨k1,t1,0⟩,⟨k2,t2,s1.length⟩])):=hr.symm;have hsz1:(⟨s1.toArray⟩:ByteArray).size=s1.length:=rfl;have hsz2:(⟨s2.toArray⟩:ByteArray).size=s2.length:=rfl;have HR:=zi (fun (W:World) (hb:Below w.heap.size w W)=>Zf (⟨s1.toArray⟩ ++ ⟨s2.toArray⟩) W (by rw[ByteArray.size_append];omega) (hG.later hb));rw[show ((⟨s1.toArray⟩:ByteArray) ++ ⟨s2.toArray⟩).data.toList=s1 ++ s2 from by rw[zq]] at HR;have hb0:∀o o',Below w.heap.size w ((w.alloc o).alloc o'):=fun o o'=>yP (zf _ _) _
 generalize yQ (s1 ++ s2)=x at *;clear hG;obtain⟨L,xa,xe⟩:=x;simp only at hr;by_cases h0:xe=0
 ·subst h0;by_cases hL:L.length=2
  ·obtain⟨⟨j1,u1,b1⟩,⟨j2,u2,b2⟩,rfl⟩:∃x y,L=[x,y]:=by
    match L,hL with
    |[x,y],_=>exact⟨x,y,rfl⟩
   clear hL;have tri:∀(i k:Nat) (u t:List UInt8) (b c:Int),¬(i=k/\u=t/\b=c)->((i:Int) == (k:Int))=false\/(i=k/\u≠t)\/(i=k/\u=t/\(b == c)=false):=fun i k u t b c he=>by
    by_cases e1:i=k
    ·by_cases e2:u=t
     ·exact .inr (.inr ⟨e1,e2,by rw[pB];exact fun e3=>he ⟨e1,e2,e3⟩⟩)
     ·exact .inr (.inl ⟨e1,e2⟩)
    ·exact .inl (bfE (by omega))
   simp only[decide_true,Bool.true_and,List.cons.injEq,yp.mk.injEq,and_true] at hr;by_cases hA:j1=k1/\u1=t1/\b1=0
   ·by_cases hB:j2=k2/\u2=t2/\b2=(s1.length:Int)
    ·rw[wX (p:=_/\_) ⟨hA,hB⟩] at hr;obtain⟨rfl,rfl,rfl⟩:=hA;obtain⟨rfl,rfl,rfl⟩:=hB;have hr2:r=false:=hr;clear hr;subst hr2;clear tri;go_enter func51,ntmps51;go_wp2_with (go_at_call 12;refine (HR.out _ (hb0 _ _)).mono ?_;rintro e w1 ⟨v,rfl,htok,hb1⟩;obtain⟨g,cap,rfl,e0,e1,e2,e3,e4,e5⟩:=zaH htok;obtain⟨hbw,⟨c0,c1,c2,c3⟩,d0,d1,d2,d3⟩:=zik w _ _ _ _ _ _ _ _ _ _ _ _ rfl rfl hb1);go_quiet (fail);go_wp2;go_ret;exact⟨rfl,ym hbw nq⟩
    ·rw[wR (p:=_/\_) (fun e=>hB e.2)] at hr;obtain⟨rfl,rfl,rfl⟩:=hA;have hr2:r=true:=hr;clear hr;subst hr2;have hne:=tri _ _ _ _ _ _ hB;clear tri hB;rcases hne with hne|⟨rfl,hne⟩|⟨rfl,rfl,hne⟩
     all_goals
      go_enter func51,ntmps51;go_wp2_with (go_at_call 12;refine (HR.out _ (hb0 _ _)).mono ?_;rintro e w1 ⟨v,rfl,htok,hb1⟩;obtain⟨g,cap,rfl,e0,e1,e2,e3,e4,e5⟩:=zaH htok;obtain⟨hbw,⟨c0,c1,c2,c3⟩,d0,d1,d2,d3⟩:=zik w _ _ _ _ _ _ _ _ _ _ _ _ rfl rfl hb1);go_quiet (fail);go_wp2;go_ret;exact⟨rfl,ym hbw nq⟩
   ·rw[wR (p:=_/\_) (fun e=>hA e.1)] at hr;have hr2:r=true:=hr;clear hr;subst hr2;have hne:=tri _ _ _ _ _ _ hA;clear tri hA;rcases hne with hne|⟨rfl,hne⟩|⟨rfl,rfl,hne⟩
    all_goals
     go_enter func51,ntmps51;go_wp2_with (go_at_call 12;refine (HR.out _ (hb0 _ _)).mono ?_;rintro e w1 ⟨v,rfl,htok,hb1⟩;obtain⟨g,cap,rfl,e0,e1,e2,e3,e4,e5⟩:=zaH htok;obtain⟨hbw,⟨c0,c1,c2,c3⟩,d0,d1,d2,d3⟩:=zik w _ _ _ _ _ _ _ _ _ _ _ _ rfl rfl hb1);go_quiet (fail);go_wp2;go_ret;exact⟨rfl,ym hbw nq⟩
  ·have hr2:r=true:=by rw[hr,wR (p:=L=_) (fun e=>hL (by rw[e];rfl))];simp
   subst hr2;have hL':((L.length:Int) != 2)=true:=by rw[wT];omega
   clear hr hL;go_enter func51,ntmps51;go_wp2_with (go_at_call 12;refine (HR.out _ (hb0 _ _)).mono ?_;rintro e w1 ⟨v,rfl,htok,hb1⟩;obtain⟨p,cap,rfl⟩:=htok.form;obtain⟨hbw,_,_⟩:=zik w _ _ _ _ _ _ _ _ _ _ _ _ rfl rfl hb1);go_ret;exact⟨rfl,hbw⟩
 ·have hr2:r=true:=by rw[hr,wR (p:=xe=0) h0];rfl
  subst hr2;have h0':((xe:Int) != 0)=true:=by rw[wT];omega
  clear hr;go_enter func51,ntmps51;go_wp2_with (go_at_call 12;refine (HR.out _ (hb0 _ _)).mono ?_;rintro e w1 ⟨v,rfl,htok,hb1⟩;obtain⟨p,cap,rfl⟩:=htok.form;obtain⟨hbw,_,_⟩:=zik w _ _ _ _ _ _ _ _ _ _ _ _ rfl rfl hb1);go_ret;exact⟨rfl,hbw⟩
abbrev zhp(t:yp):List Value:=[.int .u8 t.kind,.string ⟨t.text.toArray⟩,.int .i64 t.at_,.string ⟨(yV t.kind t.text).1.toArray⟩]
theorem Tryz.infoSp:(prog.info? 68).map (fun i=>(i.zero,i.size,i.bytes))=some (some (.agg #[.int .u8 0,.string ⟨#[]⟩,.int .i64 0,.string ⟨#[]⟩]),4,48):=by kernel_rfl
end
end Go.Proofs.YtnncmdpopgkibaaGreatDoor
namespace Lode
def zcy(t:yp):Bool:=(yV t.kind t.text).2 == 0
def yT(l:List yp):Nat:=if 1200<l.length then 5 else if l.all zcy then 0 else 4
end Lode
namespace Go.Proofs.YtnncmdpopgkibaaGreatDoor
section
open Go.RowKit Lode Go.Shelf
attribute [local go_sem ↓] Go.wp_at_zero Go.wp_at_succ
open Go.Proofs.Tryz
def ky(l:List yp):List Value:=l.flatMap zhp
theorem Kr(k:Nat)(t:List UInt8):(yV k t).2=0\/(yV k t).2=4:=by
 unfold yV;split
 ·split <;> simp
 ·split <;> simp
theorem VN{w W:World}{b:Nat}{e:TypeId}{sz:Nat}{v:Value}{n:Nat}{xs:List Value}(h:w.ownsRow b e sz v n xs)(hb:Below w.heap.size w W):W.ownsRow b e sz v n xs:=
 World.ownsRow.kept (row:=none) h ⟨hb.os,hb.tape,hb.output,hb.size,fun k hk _=>hb.block k hk⟩ (by cases v.ownBlock <;> simp)
def ziC(l:List yp)(w:World)(e:Ending)(w':World):Prop:=
 ((yT l=0/\∃v,e=.returned (.tuple #[v,.int .i64 0])/\w'.ownsRow w.heap.size 68 4 v l.length (ky l))\/(yT l≠0/\e=.returned (.tuple #[.slice none 0 0,.int .i64 (yT l)])))/\Below w.heap.size w w'
def zlA(l:List yp)(n:Nat)(w:World)(v i:Value)(wr:World):Prop:=
 ∃k:Nat,i=.int .i64 k/\k<=n/\Below w.heap.size w wr/\wr.ownsRow w.heap.size 68 4 v k (ky (l.take k))/\(l.take k).all zcy=true
theorem Vt(v:Value)(l:List yp)(w:World)(hv:TSl w v l)(hl:l.length<=1000000)(ht:∀t∈l,t.text.length<=1000000000000)(hG:qH w):
 Calls prog 50 #[v] w (ziC l w):=by
 obtain⟨p,cap,rfl,hv⟩:=hv;by_cases hbig:1200<l.length
 ·have hr:yT l=5:=by rw[yT,if_pos hbig]
  clear hv;go_enter func50,ntmps50;go_wp2;go_ret2;exact⟨.inr ⟨by rw[hr];decide,by rw[hr];rfl⟩,pF _ _⟩
 have HV:=zi hv;clear hv;have HT:=zi ht;clear ht;have HG:=zi hG;clear hG;generalize hn:l.length=n at *;have Hn:=zi hn;clear hn;obtain⟨i0,hi,hz0,hz1,hz2⟩:=info_parts Tryz.infoSp;have Hi:=zi (And.intro hi (And.intro hz0 (And.intro hz1 hz2)));clear hi hz0 hz1 hz2;go_enter func50,ntmps50;go_wp2;go_loopw [2,13] (zlA l n w) (fun _ i _=>n-(intOf i).toNat)
 case atStart=>exact⟨0,rfl,by omega,pF _ _,World.ownsRow_nil _ _ _ _,rfl⟩
 case round=>
  obtain⟨k,rfl,hk,hb,hrow,hall⟩:=hrel;by_cases hlt:k<n
  ·have hl0:l≠[]:=fun e=>by have:=Hn.out;rw[e] at this;simp at this;omega
   have hkl:k<l.length:=by rw[Hn.out];exact hlt
   obtain⟨g,rfl,q⟩:=HV.out.resolve_left hl0;obtain⟨c0,c1,c2⟩:=q k hkl;have htk:=l.take_append_getElem hkl;have hmem:l[k]∈l:=wC _;have hlen:=HT.out _ hmem;have Hlk:=zi (show l[k]? =some l[k] from glE _);generalize l[k]=x at *;have htk:=zi htk;have hall:=zi hall;have hmem:=zi hmem;obtain⟨k1,t1,a1⟩:=x;simp only at c0 c1 c2 hlen;have c0:=zj hb c0;have c1:=zj hb c1;have c2:=zj hb c2;rcases Kr k1 t1 with he|he
   ·have hS:=zi (fun (W:World) (hW:Below wr.heap.size wr W)=>(Xd k1 t1 a1 W hlen (HG.out.later (zg hb hW))).mono (R':=fun e w'=>e=.returned (.tuple #[.agg #[.int .u8 k1,.string ⟨t1.toArray⟩,.int .i64 a1,.string ⟨(yV k1 t1).1.toArray⟩],.int .i64 0])/\Below W.heap.size W w') (fun e w' ⟨h,hbb⟩=>by
     rcases h with⟨_,h⟩|⟨h,_⟩
     ·exact⟨h,hbb⟩
     ·rw[he] at h;cases h))
    have Hok:=zi (show zcy ⟨k1,t1,a1⟩=true by simp[zcy,he]);have Hsv:=zi (show zhp ⟨k1,t1,a1⟩=[.int .u8 k1,.string ⟨t1.toArray⟩,.int .i64 a1,.string ⟨(yV k1 t1).1.toArray⟩] from rfl);generalize (yV k1 t1).1=r1 at *;clear he;go_wp2_with (first
     |(go_at_call 32;refine (hS.out _ (zf _ _)).mono ?_;rintro e w1 ⟨rfl,hb1⟩;have hbw1:=zg (zf wr (.cells #[.int .u8 k1,.string ⟨t1.toArray⟩,.int .i64 a1] 37)) hb1;have hb2:=zg hb hbw1;have hrow1:=VN hrow hbw1)
     |(at_builtin;refine wpList_append_own _ rfl _ _ 95 rfl w.heap.size 68 i0 _ 4 48 underlying95 Hi.out.1 Hi.out.2.1 Hi.out.2.2.1 Hi.out.2.2.2 rfl (by decide) _ _ _ rfl ((World.ownsRow.alloc hrow1 _).alloc _) ⟨w1.heap.size+1,0,none⟩ 1 1 [.int .u8 k1,.string ⟨t1.toArray⟩,.int .i64 a1,.string ⟨r1.toArray⟩] rfl rfl ?c1 ?c2 ?c3 ?c4 ?c5 ?_))
    case c1=>exact World.news_of_block (cs:= #[.int .u8 k1,.string ⟨t1.toArray⟩,.int .i64 a1,.string ⟨r1.toArray⟩]) (t:=68) (fr:=(0,0)) (kE _ _ _ (by simp))
    case c2=>intro u hu;simp at hu;rcases hu with rfl|rfl|rfl|rfl <;> rfl
    case c3=>unfold maxLen;omega
    case c4=>omega
    case c5=>have:=hb2.size;simp;omega
    ·intro v' w2 hown' hgrow _;have hb3:=vJ (yP (yP hb2 _) _) ((World.ownsRow.alloc hrow1 _).alloc _) hgrow;have hrow2:w2.ownsRow w.heap.size 68 4 v' (k+1) (ky (l.take (k+1))):=by
      rw[<-htk.out];unfold ky at hown' ⊢;rw[List.flatMap_append,List.flatMap_singleton,Hsv.out];exact hown'
     have hall2:(l.take (k+1)).all zcy=true:=by
      rw[<-htk.out,List.all_append,hall.out];simp[Hok.out]
     have hrow2:=zi hrow2;have hall2:=zi hall2;have hb3:=zi hb3;clear hown' hgrow hrow1 hrow hb2 hbw1 hb1 hb;go_wp2;go_roundw
     case rel=>exact⟨k+1,by go_num,by omega,hb3.out,hrow2.out,hall2.out⟩
     case measure=>simp[intOf];omega
   ·have hS:=zi (fun (W:World) (hW:Below wr.heap.size wr W)=>(Xd k1 t1 a1 W hlen (HG.out.later (zg hb hW))).mono (R':=fun e w'=>e=.returned (.tuple #[.agg #[.int .u8 0,.string ⟨#[]⟩,.int .i64 0,.string ⟨#[]⟩],.int .i64 4])/\Below W.heap.size W w') (fun e w' ⟨h,hbb⟩=>by
     rcases h with⟨h,_⟩|⟨_,h⟩
     ·rw[he] at h;cases h
     ·exact⟨h,hbb⟩))
    have Hr:=zi (show yT l=4 by
     rw[yT,if_neg (by rw[Hn.out];omega),if_neg];intro h;rw[pO] at h;have:=h _ hmem.out;simp[zcy,he] at this)
    clear he;go_wp2_with (go_at_call 32;refine (hS.out _ (zf _ _)).mono ?_;rintro e w1 ⟨rfl,hb1⟩;have hbw1:=zg (zf wr (.cells #[.int .u8 k1,.string ⟨t1.toArray⟩,.int .i64 a1] 37)) hb1;have hb2:=zg hb hbw1);go_ret2;exact⟨.inr ⟨by rw[Hr.out];decide,by rw[Hr.out];rfl⟩,yP hb2 _⟩
  ·have hkn:k=n:=by omega
   go_wp2;go_ret2;subst hkn;have hfull:l.take k=l:=List.take_of_length_le (by rw[Hn.out];exact pE _);rw[hfull] at hrow hall;refine⟨.inl ⟨by rw[yT,if_neg (by rw[Hn.out];omega),if_pos hall],_,rfl,by rw[Hn.out];exact hrow⟩,hb⟩
theorem zd1(k:Nat)(t:List UInt8)(a:Int)(w:World)(hs:t.length<=1000000000000)(hG:qH w):
 Calls prog 13 #[.agg #[.int .u8 k,.string ⟨t.toArray⟩,.int .i64 a]] w fun e w'=>
  e=.returned (.tuple #[.string ⟨(yV k t).1.toArray⟩,.int .i64 (yV k t).2])/\Below w.heap.size w w':=by
 have hbw:=zf w (.cells #[.int .u8 k,.string ⟨t.toArray⟩,.int .i64 a] 37 (0,0));have HS:=zi (Xd k t a _ hs (hG.later hbw));have he:=Kr k t;have h4:(yV k t).2=4->(yV k t).1=[]:=by
  unfold yV;split
  ·split
   ·intro h;cases h
   ·intro _;rfl
  ·split
   ·intro h;cases h
   ·intro _;rfl
 clear hG;generalize yV k t=r at *;obtain⟨r1,r2⟩:=r;simp only at he h4;rcases he with rfl|rfl
 ·go_enter func13,ntmps13;go_wp2_with fail;refine (HS.out).mono ?_;rintro e w1 ⟨⟨_,rfl⟩|⟨h,_⟩,hb1⟩
  ·have hb:=zg hbw hb1;go_wp2;go_ret2;exact⟨rfl,yP hb _⟩
  ·cases h
 ·have h4:=h4 rfl;subst h4;go_enter func13,ntmps13;go_wp2_with fail;refine (HS.out).mono ?_;rintro e w1 ⟨⟨h,_⟩|⟨_,rfl⟩,hb1⟩
  ·cases h
  ·have hb:=zg hbw hb1;go_wp2;go_ret2;exact⟨rfl,yP hb _⟩
end
section
open Go.RowKit
open Go.Proofs.Tryz
def AbP{β:Type}(Rs:Nat->Prop)(J:β->World->Prop):Prop:=∀s A B row,J s A->A.grownBy B row->(∀r,row=some r->Rs r)->J s B
def YE{β:Type}(Rs:Nat->Prop)(B:Nat)(I:β->World->Prop):Prop:=∀s W W' row,I s W->W.grownBy W' row->(∀r,row=some r->Rs r\/(B<=r/\∃o:Obj,W.heap[r]? =some o/\o.isCells=false))->I s W'
theorem YE.put{β:Type}{Rs:Nat->Prop}{B:Nat}{I:β->World->Prop}(h:YE Rs B I){s:β}{W:World}{l:Nat}{o:Obj}(o':Obj)(hs:I s W)(hl:W.heap[l]? =some o)(ho:o.isCells=false)(hb:B<=l):I s (W.putObj l o'):=
 h s W _ (some l) hs (grownBy_putObj' W l o') (fun r e=>by cases e;exact .inr ⟨hb,o,hl,ho⟩)
theorem YE.alloc{β:Type}{Rs:Nat->Prop}{B:Nat}{I:β->World->Prop}(h:YE Rs B I){s:β}{W:World}(o:Obj)(hs:I s W):I s (W.alloc o):=
 h s W _ none hs (World.grownBy_alloc W o none) (fun r e=>by cases e)
def zgR{α:Type}(F:Fence)(n:Nat)(P:Program)(g:Nat)(la lb:Array Value)(encs:α->Array Value)(Kp:World->World->Prop)(G:List α->α->Prop)(Rs:Nat->Prop)(S Sp:List α->Prop)(w:World):Prop:=
 ∀(l:Nat) (J Jx:List α->World->Prop) (W:World),Below w.heap.size w W->AbP Rs J->AbP Rs Jx->
  (∀pre x W1,J pre W1->G pre x->YieldAt F (n-1) P l (encs x) W1 fun e W'=>
    (e=.returned (.bool true)/\J (pre ++ [x]) W'/\Kp W1 W')\/(e=.returned (.bool false)/\Jx (pre ++ [x]) W'))->
  J [] W->
  CallsIn F n P g (la ++ #[.func (.yield l) #[] #[]] ++ lb) W fun e W'=>(∃v,e=.returned v)/\((∃xs,S xs/\J xs W')\/(∃pre,Sp pre/\Jx pre W'))
variable {F:Fence} {n:Nat} {P:Program}
theorem zaB{α:Type}{g:Operand}{ps:Array Tmp}{assign body:Code}{Q:Exit->Act->World->Prop}{a:Act}{w:World}
 (hro:F.round=none) (h1:1<=n) {gf:Nat} {la lb:Array Value} (hg:a.eval g=.func (.func gf) la lb) (hFg:F.fn gf) (eg:∀args w,(callFunc gf args).run P w=.ok (.enter gf args) w)
 {encs:α->Array Value} {Kp:World->World->Prop} {G:List α->α->Prop} {Rs:Nat->Prop} {S Sp:List α->Prop} (hseq:zgR F (n-1) P gf la lb encs Kp G Rs S Sp w) (hR:∀r,Rs r->r<w.heap.size) (hps:∀x,(encs x).size=ps.size)
 (hKt:∀{A B C:World},Kp A B->Kp B C->Kp A C) (hKb:∀(W:World) (l:Nat) (o o':Obj),w.heap.size<=l->W.heap[l]? =some o->o.isCells=false->Kp W (W.putObj l o'))
 (I:List α->World->Prop) (Ix:Code->List α->World->Prop) (hI:YE Rs w.heap.size I) (hIx:∀c,YE Rs w.heap.size (Ix c)) (h0:I [] w) (Ax:List α->α->Act->World->Prop)
 (hAx:∀pre x a' (W:World) (l:Nat) (o o':Obj),Ax pre x a' W->w.heap.size<=l->W.heap[l]? =some o->o.isCells=false->Ax pre x a' (W.putObj l o'))
 (hassign:∀(l:Nat) (pre:List α) (x:α) (W:World) (K:Act->World->Prop),I pre W->G pre x->(∀a' W',KeepsOthers W W'->Kp W W'->Ax pre x a' W'->K a' W')->
   assign.wpIn (F.inRound l) (n-1-1) P (Exit.then K (fun _ _ _=>False)) {tmps:=(ps.zip (encs x)).foldl (fun tmps (t,v)=>tmps.setIfInBounds t v) a.tmps,defers:=[]} W)
 (hbody:∀(l:Nat) (pre:List α) (x:α) (a':Act) (W:World),Ax pre x a' W->G pre x->body.wpIn (F.inRound l) (n-1-1) P (ownPostK Kp I Ix (pre ++ [x]) W) a' W)
 (hdone:∀(D:Nat) (xs:List α) (W:World),S xs->I xs W->w.heap.size<=D->W.heap[D]? =some (.deferred (some []))->Q .normal {a with defers:={target:=.collected D,args:= #[]} :: a.defers} W)
 (hstop:∀(D:Nat) (c:Code) (pre:List α) (W:World),Sp pre->Ix c pre W->w.heap.size<=D->W.heap[D]? =some (.deferred (some []))->c.wpIn F n P Q {a with defers:={target:=.collected D,args:= #[]} :: a.defers} W) :
 (Code.rangeFunc g ps assign body).wpIn F n P Q a w:=by
 refine wpIn_rangeFunc ?_;intro fn hfn;obtain⟨rec,hrec⟩:∃rec:LoopState->Option Code->Loop,rec=fun st pd=>{state:=st,pending:=pd,fn,tmps:=a.tmps,params:=ps,assign,body,defers:=w.heap.size}:=⟨_,rfl⟩
 obtain⟨W1,hW1⟩:∃W1,W1=(w.alloc (.deferred (some []))).alloc (.loop (rec .ready none)):=⟨_,rfl⟩;have sz:W1.heap.size=w.heap.size+2:=by rw[hW1];simp
 have hL1:W1.heap[w.heap.size+1]? =some (.loop (rec .ready none)):=by
  rw[hW1];have:=World.alloc_heap_new (w.alloc (.deferred (some []))) (.loop (rec .ready none));simpa using this
 have hK1:W1.heap[w.heap.size]? =some (.deferred (some [])):=by
  rw[hW1];exact (Below.heap_alloc _ _ _ (by simp)).trans (World.alloc_heap_new w _)
 have hI1:I [] W1:=by rw[hW1];exact hI.alloc _ (hI.alloc _ h0)
 have hb1:Below w.heap.size w W1:=by rw[hW1];exact ((pF _ w).alloc (pE _) _).alloc (by simp) _
 have far:∀{A B:World} {row:Option Nat} {k:Nat} {o:Obj},A.heap[k]? =some o->A.grownBy B row->(∀r,row=some r->Rs r)->w.heap.size<=k->B.heap[k]? =some o:=
  fun hk hg' hr hle=>(hg'.block _ (gtA hk) (fun e=>by have:=hR _ (hr _ e.symm);omega)).trans hk
 refine⟨w.heap.size+1,[{target:=.collected w.heap.size,args:= #[]}],W1,{target:=.fn (.func gf) lb,args:=la ++ #[.func (.yield (w.heap.size+1)) #[] #[]]},W1,gf,
  la ++ #[.func (.yield (w.heap.size+1)) #[] #[]] ++ lb,W1,?_,?_,?_,?_,fun _=>h1,?_⟩
 ·rw[hro,hW1,hrec];exact run_enterLoop_outer _ _ _ _ _
 ·simp only[resolve,hg];simp[go_sem]
 ·intro f' hf';simp[Target.leads] at hf';subst hf';exact hFg
 ·simp[invoke,go_sem,eg]
 refine (hseq (w.heap.size+1)
  (fun pre W=>I pre W/\W.heap[w.heap.size+1]? =some (.loop (rec .ready none))/\W.heap[w.heap.size]? =some (.deferred (some [])))
  (fun pre W=>∃c,Ix c pre W/\W.heap[w.heap.size+1]? =some (.loop (rec .done (some c)))/\W.heap[w.heap.size]? =some (.deferred (some [])))
  W1 hb1
  (fun s A B row hs hg' hr=>⟨hI s A B row hs.1 hg' (fun r e=>.inl (hr r e)),far hs.2.1 hg' hr (by omega),far hs.2.2 hg' hr (by omega)⟩)
  (fun s A B row ⟨c,hc,hl,hk⟩ hg' hr=>⟨c,hIx c s A B row hc hg' (fun r e=>.inl (hr r e)),far hl hg' hr (by omega),far hk hg' hr (by omega)⟩)
  ?_ ⟨hI1,hL1,hK1⟩).mono ?_
 ·rintro pre x W ⟨hi,hl,hk⟩ hG;have hlt:w.heap.size+1<W.heap.size:=(gtA hl);have hy:=run_yield (P:=P) (args:=encs x) hl (by rw[hrec];exact hps x);rw[hrec] at hy;refine⟨fn,_,assign,body,hy,roundIn_of_wpIn hfn (hassign _ pre x W _ hi hG fun a' Wa hka hpa hax=>?_)⟩;have hla:=hka.same _ _ hl rfl;have hkk:=hka.same _ _ hk rfl;have hlta:w.heap.size+1<Wa.heap.size:=(gtA hla);refine⟨_,run_beginRound hla (by rw[hrec]),?_⟩;have hl2:(Wa.putObj (w.heap.size+1) (.loop {rec .ready none with state:=.busy})).heap[w.heap.size+1]? =some (.loop {rec .ready none with state:=.busy}):=World.putObj_heap_same hlta;have hk2:(Wa.putObj (w.heap.size+1) (.loop {rec .ready none with state:=.busy})).heap[w.heap.size]? =some (.deferred (some [])):=(World.putObj_heap_other (by omega)).trans hkk;have hw2:Kp W (Wa.putObj (w.heap.size+1) (.loop {rec .ready none with state:=.busy})):=hKt hpa (hKb _ _ _ _ (by omega) hla rfl);refine wpIn_mono (hbody _ pre x a' _ (hAx _ _ _ _ _ _ _ hax (by omega) hla rfl) hG) ?_;have fin:∀(jump:Option Code) (W3:World),KeepsOthers (Wa.putObj (w.heap.size+1) (.loop {rec .ready none with state:=.busy})) W3->
   (Instr.endRound (w.heap.size+1) jump).run P W3=.ok (.bool jump.isNone) (W3.putObj (w.heap.size+1) (.loop (rec (if jump.isNone then .ready else .done) jump)))/\
   W3.heap[w.heap.size+1]? =some (.loop {rec .ready none with state:=.busy})/\
   (W3.putObj (w.heap.size+1) (.loop (rec (if jump.isNone then .ready else .done) jump))).heap[w.heap.size+1]? =some (.loop (rec (if jump.isNone then .ready else .done) jump))/\
   (W3.putObj (w.heap.size+1) (.loop (rec (if jump.isNone then .ready else .done) jump))).heap[w.heap.size]? =some (.deferred (some [])):=fun jump W3 hk3=>by
   have hl3:=hk3.same _ _ hl2 rfl;have:=run_endRound (P:=P) jump hl3;rw[hrec] at this ⊢;exact⟨this,by rw[hrec] at hl3;exact hl3,World.putObj_heap_same (gtA hl3),(World.putObj_heap_other (by omega)).trans (hk3.same _ _ hk2 rfl)⟩
  rintro e a3 W3 hp;cases e with
  |normal=>
   obtain⟨hk3,hkp3,hi3⟩:=hp;obtain⟨hr,hl3,hl4,hk4⟩:=fin none W3 hk3;exact⟨_,_,hr,.inl ⟨rfl,⟨hI.put _ hi3 hl3 rfl (by omega),hl4,hk4⟩,hKt (hKt hw2 hkp3) (hKb _ _ _ _ (by omega) hl3 rfl)⟩⟩
  |ret=>
   obtain⟨hk3,hi3⟩:=hp;obtain⟨hr,hl3,hl4,hk4⟩:=fin (some .ret) W3 hk3;exact⟨_,_,hr,.inr ⟨rfl,.ret,(hIx _).put _ hi3 hl3 rfl (by omega),hl4,hk4⟩⟩
  |exit id=>
   obtain⟨hk3,hi3⟩:=hp;obtain⟨hr,hl3,hl4,hk4⟩:=fin (some (.exit id)) W3 hk3;exact⟨_,_,hr,.inr ⟨rfl,.exit id,(hIx _).put _ hi3 hl3 rfl (by omega),hl4,hk4⟩⟩
  |goto t=>
   obtain⟨hk3,hi3⟩:=hp;obtain⟨hr,hl3,hl4,hk4⟩:=fin (some (.goto t)) W3 hk3;exact⟨_,_,hr,.inr ⟨rfl,.goto t,(hIx _).put _ hi3 hl3 rfl (by omega),hl4,hk4⟩⟩
  |panic ch=>exact hp.elim
  |outgrown=>exact hp.elim
 ·rintro e W2 ⟨⟨v,rfl⟩,(⟨xs,hS,hi,hl,hk⟩|⟨pre,hSp,c,hi,hl,hk⟩)⟩
  ·exact⟨none,_,by have:=run_endLoop (P:=P) hl (by rw[hrec];simp);rw[hrec] at this;exact this,hdone _ xs _ hS (hI.put _ hi hl rfl (by omega)) (pE _) ((World.putObj_heap_other (by omega)).trans hk)⟩
  ·exact⟨some c,_,by have:=run_endLoop (P:=P) hl (by rw[hrec];simp);rw[hrec] at this;exact this,hstop _ c pre _ hSp ((hIx c).put _ hi hl rfl (by omega)) (pE _) ((World.putObj_heap_other (by omega)).trans hk)⟩
theorem uO{α:Type}{g:Operand}{p0 p1:Tmp}{assign body:Code}{Q:Exit->Act->World->Prop}{a:Act}{w:World}
 (hro:F.round=none) (h1:1<=n) {gf:Nat} {la lb:Array Value} (hg:a.eval g=.func (.func gf) la lb) (hFg:F.fn gf) (eg:∀args w,(callFunc gf args).run P w=.ok (.enter gf args) w)
 {e1 e2:α->Value} {Kp:World->World->Prop} {G:List α->α->Prop} {Rs:Nat->Prop} {S Sp:List α->Prop} (hseq:zgR F (n-1) P gf la lb (fun x=> #[e1 x,e2 x]) Kp G Rs S Sp w) (hR:∀r,Rs r->r<w.heap.size)
 (hKt:∀{A B C:World},Kp A B->Kp B C->Kp A C) (hKb:∀(W:World) (l:Nat) (o o':Obj),w.heap.size<=l->W.heap[l]? =some o->o.isCells=false->Kp W (W.putObj l o'))
 (I:List α->World->Prop) (Ix:Code->List α->World->Prop) (hI:YE Rs w.heap.size I) (hIx:∀c,YE Rs w.heap.size (Ix c)) (h0:I [] w) (Ax:List α->α->Act->World->Prop)
 (hAx:∀pre x a' (W:World) (l:Nat) (o o':Obj),Ax pre x a' W->w.heap.size<=l->W.heap[l]? =some o->o.isCells=false->Ax pre x a' (W.putObj l o'))
 (hassign:∀(l:Nat) (pre:List α) (x:α) (W:World) (K:Act->World->Prop),I pre W->G pre x->(∀a' W',KeepsOthers W W'->Kp W W'->Ax pre x a' W'->K a' W')->
   assign.wpIn (F.inRound l) (n-1-1) P (Exit.then K (fun _ _ _=>False)) {tmps:=(a.tmps.setIfInBounds p0 (e1 x)).setIfInBounds p1 (e2 x),defers:=[]} W)
 (hbody:∀(l:Nat) (pre:List α) (x:α) (a':Act) (W:World),Ax pre x a' W->G pre x->body.wpIn (F.inRound l) (n-1-1) P (ownPostK Kp I Ix (pre ++ [x]) W) a' W)
 (hdone:∀(D:Nat) (xs:List α) (W:World),S xs->I xs W->w.heap.size<=D->W.heap[D]? =some (.deferred (some []))->Q .normal {a with defers:={target:=.collected D,args:= #[]} :: a.defers} W)
 (hstop:∀(D:Nat) (c:Code) (pre:List α) (W:World),Sp pre->Ix c pre W->w.heap.size<=D->W.heap[D]? =some (.deferred (some []))->c.wpIn F n P Q {a with defers:={target:=.collected D,args:= #[]} :: a.defers} W) :
 (Code.rangeFunc g #[p0,p1] assign body).wpIn F n P Q a w:=by
 refine zaB hro h1 hg hFg eg hseq hR (fun x=>rfl) hKt hKb I Ix hI hIx h0 Ax hAx (fun l pre x W K h1 h2 h3=>?_) hbody hdone hstop;have ez:((#[p0,p1].zip #[e1 x,e2 x]).foldl (fun tmps (t,v)=>tmps.setIfInBounds t v) a.tmps)=(a.tmps.setIfInBounds p0 (e1 x)).setIfInBounds p1 (e2 x):=by simp
 rw[ez];exact hassign l pre x W K h1 h2 h3
end
end Go.Proofs.YtnncmdpopgkibaaGreatDoor
namespace LodeX
section
open Go Go.RowKit Go.Sort
def zbc(l:List Oper):Bool:=l.all fun o=>match o.op with
 | .defer _=>false
 |_=>true
theorem zgd{k n:Nat}{P:Program}{row:String}{args:Array Value}{w:World}{R:Value->World->Prop}(h:Rows P row args w R):RowsIn (Fence.wide.inRound k) n P row args w R:=
 fun c cs _=>let ⟨v,w',r,s⟩:=h c cs;⟨v,w',r,stepsIn_wide.2 s⟩
theorem Xl{k n:Nat}{P:Program}{f:FuncId}{args:Array Value}{w:World}{R:Ending->World->Prop}(h:Calls P f args w R):CallsIn (Fence.wide.inRound k) n P f args w R:=
 callsIn_wide.2 h
theorem zdk{k n:Nat}{P:Program}{o:Oper}{a:Act}{w:World}{K:Act->World->Prop}{X:Exit->Act->World->Prop}(hd:∀c,o.op≠.defer c)(h:o.wp P a w K X):o.wpIn (Fence.wide.inRound k) n P a w K X:=by
 refine⟨fun _ _=>trivial,?_⟩;rw[show (Fence.wide.inRound k).round=some k from rfl,Oper.semAt_some k _ o hd];unfold Oper.wp at h;generalize (execOp a.eval o).run P w=r at *;cases r with
 |ok x w'=>
  cases x <;> simp only[Oper.upon,Oper.uponIn] at h ⊢ <;>
   first
    |exact h
    |exact⟨fun e=>(by cases e),CallsIn.mono (Xl h) (fun e w' he=>by cases e <;> exact he)⟩
    |exact⟨fun e=>(by cases e),zgd h⟩
 |halt x w'=>cases x <;> simp only[Oper.upon,Oper.uponIn] at h ⊢ <;> exact h
theorem Zp{k n:Nat}{P:Program}{md:Region.Mode}{l:List Oper}{Q:Exit->Act->World->Prop}(hL:¬LetsOut Q)(hd:zbc l=true):∀(fuel:Nat) (listed:Array Bool) (a:Act) (w:World),wpAny P md l.toArray Q fuel listed a w->wpAnyIn (Fence.wide.inRound k) n P md l.toArray Q fuel listed a w
 |0,_,_,_,h=>h
 |fuel+1,listed,a,w,h=>by
  refine⟨h.1,fun i hi=>?_⟩;have h2:=h.2 i hi;unfold wpOp at h2;unfold wpOpIn;cases ho:l.toArray[i]? with
  |none=>
   rw[ho] at h2;exact Zp hL hd fuel _ a w h2
  |some o=>
   rw[ho] at h2;simp only at h2 ⊢;have hdo:∀c,o.op≠.defer c:=fun c e=>by
    rw[pV] at ho;unfold zbc at hd;rw[pO] at hd;have:=hd o (wK ho);rw[e] at this;cases this
   split
   ·rename_i hw;rw[if_pos hw] at h2;rcases h2 with h2|h2
    ·exact Oper.wpIn_mono (fun a w h=>Zp hL hd fuel _ a w h) (zdk hdo h2)
    ·exact absurd h2.2 hL
   ·rename_i hw;rw[if_neg hw] at h2;exact⟨fun _ _=>trivial,Zp hL hd fuel _ _ w h2⟩
theorem zih{Xp:List PanicEntry->World->Prop}{Q:Act->World->Prop}:¬LetsOut (YP Xp Q):=fun ⟨_,_,h⟩=>h
theorem Jl{RR:Rel}{Xp:List PanicEntry->World->Prop}{P:Program}{k n id:Nat}{l:List Oper}{Q:Exit->Act->World->Prop}{a:Act}{w:World}(ord:List (Nat×Nat))(hm:P.follows .mixedOrders=true)(hc:jU l.toArray ord=true)(hd:zbc l=true)(hX:∀c a w,a.defers=[]->Xp c w->Q (.panic c) a w)
 (h:kh RR Xp P l.toArray (Q .normal) ord w.drew a):(Code.region id l.toArray true).wpIn (Fence.wide.inRound k) n P Q a w:=by
 obtain⟨h1,h2,h3⟩:=YL hc;refine wpIn_mono (wpIn_region_any (Q:=YP Xp (Q .normal)) hm (Zp zih hd _ _ _ _ (zbF h1 _ ord _ _ w.drew a _ rfl h3 h2 (RR.srefl _) h))) (fun e a w q=>?_);cases e <;> first|exact q|exact hX _ _ _ q.1 q.2|exact q.elim
end
end LodeX
namespace Go.Proofs.YtnncmdpopgkibaaGreatDoor
section
open Go.RowKit Lode Go.Shelf
attribute [local go_sem ↓] Go.wp_at_zero Go.wp_at_succ
open Go.Proofs.Tryz
theorem Tryz.infoInt:(prog.info? 3).map (fun i=>(i.zero,i.size,i.bytes))=some (some (.int .i64 0),1,8):=by kernel_rfl
theorem zgr(n:Nat)(hn:n<=1000000)(W:World):(Instr.makeSlice 24 (.int .i64 (n:Int)) (.int .i64 (n:Int))).run prog W=.ok (.slice (some ⟨W.heap.size,0,none⟩) n n) (W.alloc (.cells (List.replicate n (Value.int .i64 0)).toArray 3)):=by
 obtain⟨i0,hi,hz0,hz1,hz2⟩:=info_parts Tryz.infoInt;have h:=run_make (P:=prog) W 24 3 i0 _ underlying24 hi hz0 .i64 .i64 n n (by omega) (Int.le_refl _) (by rw[hz2];omega) (by omega);simp only[wE,hz1,Nat.mul_one] at h;rw[h];congr 3;rw[<-Array.toList_inj];exact toList_madeCells_one _ n
end
end Go.Proofs.YtnncmdpopgkibaaGreatDoor
namespace Lode
def Kj(s:List UInt8)(a:Int):(Nat×Nat)×Nat:=if (qr s).2≠0 then ((0,0),(qr s).2) else if a<0\/(s.length:Int)<a then ((0,0),3) else (zcb s a.toNat,0)
end Lode
namespace Go.Proofs.YtnncmdpopgkibaaGreatDoor
section
open Go.RowKit
open Go.Proofs.Tryz
variable {F:Fence} {n:Nat} {P:Program}
theorem zaA{α:Type}{g:Operand}{ps:Array Tmp}{assign body:Code}{Q:Exit->Act->World->Prop}{a:Act}{w:World}
 (hro:F.round=none) (h1:1<=n) {gf:Nat} {la lb:Array Value} (hg:a.eval g=.func (.func gf) la lb) (hFg:F.fn gf) (eg:∀args w,(callFunc gf args).run P w=.ok (.enter gf args) w)
 {encs:α->Array Value} {Kp:World->World->Prop} {G:List α->α->Prop} {Rs:Nat->Prop} {S Sp:List α->Prop} (hseq:zgR F (n-1) P gf la lb encs Kp G Rs S Sp w) (hR:∀r,Rs r->r<w.heap.size) (hps:∀x,(encs x).size=ps.size)
 (hKt:∀{A B C:World},Kp A B->Kp B C->Kp A C) (hKb:∀(W:World) (l:Nat) (o:Loop) (o':Obj),w.heap.size<=l->W.heap[l]? =some (.loop o)->Kp W (W.putObj l o'))
 (I:List α->World->Prop) (Ix:Code->List α->World->Prop) (hI:YE Rs w.heap.size I) (hIx:∀c,YE Rs w.heap.size (Ix c)) (h0:I [] w) (Ax:List α->α->Act->World->Prop)
 (hAx:∀pre x a' (W:World) (l:Nat) (o o':Obj),Ax pre x a' W->w.heap.size<=l->W.heap[l]? =some o->o.isCells=false->Ax pre x a' (W.putObj l o'))
 (hassign:∀(l:Nat) (pre:List α) (x:α) (W:World) (K:Act->World->Prop),I pre W->G pre x->(∀a' W',KeepsOthers W W'->Kp W W'->Ax pre x a' W'->K a' W')->
   assign.wpIn (F.inRound l) (n-1-1) P (Exit.then K (fun _ _ _=>False)) {tmps:=(ps.zip (encs x)).foldl (fun tmps (t,v)=>tmps.setIfInBounds t v) a.tmps,defers:=[]} W)
 (hbody:∀(l:Nat) (pre:List α) (x:α) (a':Act) (W:World),Ax pre x a' W->G pre x->body.wpIn (F.inRound l) (n-1-1) P (ownPostK Kp I Ix (pre ++ [x]) W) a' W)
 (hdone:∀(D:Nat) (xs:List α) (W:World),S xs->I xs W->w.heap.size<=D->W.heap[D]? =some (.deferred (some []))->Q .normal {a with defers:={target:=.collected D,args:= #[]} :: a.defers} W)
 (hstop:∀(D:Nat) (c:Code) (pre:List α) (W:World),Sp pre->Ix c pre W->w.heap.size<=D->W.heap[D]? =some (.deferred (some []))->c.wpIn F n P Q {a with defers:={target:=.collected D,args:= #[]} :: a.defers} W) :
 (Code.rangeFunc g ps assign body).wpIn F n P Q a w:=by
 refine wpIn_rangeFunc ?_;intro fn hfn;obtain⟨rec,hrec⟩:∃rec:LoopState->Option Code->Loop,rec=fun st pd=>{state:=st,pending:=pd,fn,tmps:=a.tmps,params:=ps,assign,body,defers:=w.heap.size}:=⟨_,rfl⟩
 obtain⟨W1,hW1⟩:∃W1,W1=(w.alloc (.deferred (some []))).alloc (.loop (rec .ready none)):=⟨_,rfl⟩;have sz:W1.heap.size=w.heap.size+2:=by rw[hW1];simp
 have hL1:W1.heap[w.heap.size+1]? =some (.loop (rec .ready none)):=by
  rw[hW1];have:=World.alloc_heap_new (w.alloc (.deferred (some []))) (.loop (rec .ready none));simpa using this
 have hK1:W1.heap[w.heap.size]? =some (.deferred (some [])):=by
  rw[hW1];exact (Below.heap_alloc _ _ _ (by simp)).trans (World.alloc_heap_new w _)
 have hI1:I [] W1:=by rw[hW1];exact hI.alloc _ (hI.alloc _ h0)
 have hb1:Below w.heap.size w W1:=by rw[hW1];exact ((pF _ w).alloc (pE _) _).alloc (by simp) _
 have far:∀{A B:World} {row:Option Nat} {k:Nat} {o:Obj},A.heap[k]? =some o->A.grownBy B row->(∀r,row=some r->Rs r)->w.heap.size<=k->B.heap[k]? =some o:=
  fun hk hg' hr hle=>(hg'.block _ (gtA hk) (fun e=>by have:=hR _ (hr _ e.symm);omega)).trans hk
 refine⟨w.heap.size+1,[{target:=.collected w.heap.size,args:= #[]}],W1,{target:=.fn (.func gf) lb,args:=la ++ #[.func (.yield (w.heap.size+1)) #[] #[]]},W1,gf,
  la ++ #[.func (.yield (w.heap.size+1)) #[] #[]] ++ lb,W1,?_,?_,?_,?_,fun _=>h1,?_⟩
 ·rw[hro,hW1,hrec];exact run_enterLoop_outer _ _ _ _ _
 ·simp only[resolve,hg];simp[go_sem]
 ·intro f' hf';simp[Target.leads] at hf';subst hf';exact hFg
 ·simp[invoke,go_sem,eg]
 refine (hseq (w.heap.size+1)
  (fun pre W=>I pre W/\W.heap[w.heap.size+1]? =some (.loop (rec .ready none))/\W.heap[w.heap.size]? =some (.deferred (some [])))
  (fun pre W=>∃c,Ix c pre W/\W.heap[w.heap.size+1]? =some (.loop (rec .done (some c)))/\W.heap[w.heap.size]? =some (.deferred (some [])))
  W1 hb1
  (fun s A B row hs hg' hr=>⟨hI s A B row hs.1 hg' (fun r e=>.inl (hr r e)),far hs.2.1 hg' hr (by omega),far hs.2.2 hg' hr (by omega)⟩)
  (fun s A B row ⟨c,hc,hl,hk⟩ hg' hr=>⟨c,hIx c s A B row hc hg' (fun r e=>.inl (hr r e)),far hl hg' hr (by omega),far hk hg' hr (by omega)⟩)
  ?_ ⟨hI1,hL1,hK1⟩).mono ?_
 ·rintro pre x W ⟨hi,hl,hk⟩ hG;have hlt:w.heap.size+1<W.heap.size:=(gtA hl);have hy:=run_yield (P:=P) (args:=encs x) hl (by rw[hrec];exact hps x);rw[hrec] at hy;refine⟨fn,_,assign,body,hy,roundIn_of_wpIn hfn (hassign _ pre x W _ hi hG fun a' Wa hka hpa hax=>?_)⟩;have hla:=hka.same _ _ hl rfl;have hkk:=hka.same _ _ hk rfl;have hlta:w.heap.size+1<Wa.heap.size:=(gtA hla);refine⟨_,run_beginRound hla (by rw[hrec]),?_⟩;have hl2:(Wa.putObj (w.heap.size+1) (.loop {rec .ready none with state:=.busy})).heap[w.heap.size+1]? =some (.loop {rec .ready none with state:=.busy}):=World.putObj_heap_same hlta;have hk2:(Wa.putObj (w.heap.size+1) (.loop {rec .ready none with state:=.busy})).heap[w.heap.size]? =some (.deferred (some [])):=(World.putObj_heap_other (by omega)).trans hkk;have hw2:Kp W (Wa.putObj (w.heap.size+1) (.loop {rec .ready none with state:=.busy})):=hKt hpa (hKb _ _ _ _ (by omega) hla);refine wpIn_mono (hbody _ pre x a' _ (hAx _ _ _ _ _ _ _ hax (by omega) hla rfl) hG) ?_;have fin:∀(jump:Option Code) (W3:World),KeepsOthers (Wa.putObj (w.heap.size+1) (.loop {rec .ready none with state:=.busy})) W3->
   (Instr.endRound (w.heap.size+1) jump).run P W3=.ok (.bool jump.isNone) (W3.putObj (w.heap.size+1) (.loop (rec (if jump.isNone then .ready else .done) jump)))/\
   W3.heap[w.heap.size+1]? =some (.loop {rec .ready none with state:=.busy})/\
   (W3.putObj (w.heap.size+1) (.loop (rec (if jump.isNone then .ready else .done) jump))).heap[w.heap.size+1]? =some (.loop (rec (if jump.isNone then .ready else .done) jump))/\
   (W3.putObj (w.heap.size+1) (.loop (rec (if jump.isNone then .ready else .done) jump))).heap[w.heap.size]? =some (.deferred (some [])):=fun jump W3 hk3=>by
   have hl3:=hk3.same _ _ hl2 rfl;have:=run_endRound (P:=P) jump hl3;rw[hrec] at this ⊢;exact⟨this,by rw[hrec] at hl3;exact hl3,World.putObj_heap_same (gtA hl3),(World.putObj_heap_other (by omega)).trans (hk3.same _ _ hk2 rfl)⟩
  rintro e a3 W3 hp;cases e with
  |normal=>
   obtain⟨hk3,hkp3,hi3⟩:=hp;obtain⟨hr,hl3,hl4,hk4⟩:=fin none W3 hk3;exact⟨_,_,hr,.inl ⟨rfl,⟨hI.put _ hi3 hl3 rfl (by omega),hl4,hk4⟩,hKt (hKt hw2 hkp3) (hKb _ _ _ _ (by omega) hl3)⟩⟩
  |ret=>
   obtain⟨hk3,hi3⟩:=hp;obtain⟨hr,hl3,hl4,hk4⟩:=fin (some .ret) W3 hk3;exact⟨_,_,hr,.inr ⟨rfl,.ret,(hIx _).put _ hi3 hl3 rfl (by omega),hl4,hk4⟩⟩
  |exit id=>
   obtain⟨hk3,hi3⟩:=hp;obtain⟨hr,hl3,hl4,hk4⟩:=fin (some (.exit id)) W3 hk3;exact⟨_,_,hr,.inr ⟨rfl,.exit id,(hIx _).put _ hi3 hl3 rfl (by omega),hl4,hk4⟩⟩
  |goto t=>
   obtain⟨hk3,hi3⟩:=hp;obtain⟨hr,hl3,hl4,hk4⟩:=fin (some (.goto t)) W3 hk3;exact⟨_,_,hr,.inr ⟨rfl,.goto t,(hIx _).put _ hi3 hl3 rfl (by omega),hl4,hk4⟩⟩
  |panic ch=>exact hp.elim
  |outgrown=>exact hp.elim
 ·rintro e W2 ⟨⟨v,rfl⟩,(⟨xs,hS,hi,hl,hk⟩|⟨pre,hSp,c,hi,hl,hk⟩)⟩
  ·exact⟨none,_,by have:=run_endLoop (P:=P) hl (by rw[hrec];simp);rw[hrec] at this;exact this,hdone _ xs _ hS (hI.put _ hi hl rfl (by omega)) (pE _) ((World.putObj_heap_other (by omega)).trans hk)⟩
  ·exact⟨some c,_,by have:=run_endLoop (P:=P) hl (by rw[hrec];simp);rw[hrec] at this;exact this,hstop _ c pre _ hSp ((hIx c).put _ hi hl rfl (by omega)) (pE _) ((World.putObj_heap_other (by omega)).trans hk)⟩
end
end Go.Proofs.YtnncmdpopgkibaaGreatDoor
