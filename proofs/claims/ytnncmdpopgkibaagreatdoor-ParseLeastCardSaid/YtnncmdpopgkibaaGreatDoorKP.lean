/-
  A part of the proof: contracts of functions; no conditions.
-/
import Derived.Test.YtnncmdpopgkibaaGreatDoorKM
import Derived.ChangeSlices
import Derived.Lib.LaidTab
import Derived.LaidSub
import Derived.Stop.LaidErr
import Derived.WalkKit
import Derived.Test.YtnncmdpopgkibaaGreatDoorRows
import Derived.Test.YtnncmdpopgkibaaGreatDoorProg
set_option maxRecDepth 100000
set_option maxHeartbeats 40000000
set_option linter.unusedSimpArgs false
set_option linter.unusedVariables false
namespace Go.Proofs.YtnncmdpopgkibaaGreatDoor
section
open Go.RowKit Lode Go.Shelf
open Go.Proofs.Tryz
theorem Tryz.laidOut:laidOutB prog=true:=by kernel_rfl
theorem zhh: "*" ++ "errors.errorString" = "*errors.errorString" :=by decide
theorem zlj(u:TypeId)(h:prog.typeName? 3 u=some "*errors.errorString"):u=271:=
 typeName_ptr_named (nm:= "errors.errorString") (by rw[zhh];kernel_rfl) (by kernel_rfl) (by decide) u (by rw[zhh];exact h)
theorem zjB(w:World)(hL:laidMet prog Rows.parseBeginsRow.laid w):qH w:=by
 refine⟨?_,?_,?_⟩
 ·have h:=hL.filter (fun x=>x.1 == "strings.asciiSpace");have e:(Rows.parseBeginsRow.laid.filter fun x=>x.1 == "strings.asciiSpace")=[("strings.asciiSpace",Lib.tabData .u8 Lib.asciiSpaceTab)]:=by rfl
  rw[e] at h;exact Lib.tabIs_of_head (g:=0) (t:=188) (e:=5) (n:=256) (by kernel_rfl) (by kernel_rfl) (by kernel_rfl) (by kernel_rfl) (by kernel_rfl) (by kernel_rfl) h
 ·have h:=hL.filter (fun x=>x.1 == "internal/strconv.uint64pow10");have e:(Rows.parseBeginsRow.laid.filter fun x=>x.1 == "internal/strconv.uint64pow10")=[("internal/strconv.uint64pow10",Lib.tabData .u64 Lib.pow10Tab)]:=by rfl
  rw[e] at h;exact Lib.tabIs_of_head (g:=5) (t:=267) (e:=53) (n:=20) (by kernel_rfl) (by kernel_rfl) (by kernel_rfl) (by kernel_rfl) (by kernel_rfl) (by kernel_rfl) h
 ·have h:=hL.filter (fun x=>x.1 == "strconv.ErrRange");have e:(Rows.parseBeginsRow.laid.filter fun x=>x.1 == "strconv.ErrRange")=[("strconv.ErrRange",.iface "*errors.errorString" (.ptr (.agg [.lit (.string [118,97,108,117,101,32,111,117,116,32,111,102,32,114,97,110,103,101])])))]:=by rfl
  rw[e] at h;obtain⟨a,s,hv,_⟩:=laid_sentinel (g:=4) (tp:=271) (te:=273) (ts:=9) (ti:=88) h (by kernel_rfl) (by kernel_rfl) underlying88 zlj underlying271 underlying273 rfl rfl (by kernel_rfl) (by kernel_rfl) (by kernel_rfl);exact⟨_,_,hv⟩
end
section
open Go.RowKit Lode Go.Shelf
attribute [local go_sem ↓] Go.wp_at_zero Go.wp_at_succ
open Go.Proofs.Tryz
theorem zbR{w:World}{ops:Array Oper}{rest:List Oper}{o:Oper}{a:Act}{Q:Exit->Act->World->Prop}(hgd:o.guard=none)(s x:Operand)
 (ho:o.op=.call {callee:=.builtin .append,args:= #[s,x],argTypes:= #[23,23]})
 {base n:Nat} {v:Value} {xs:List Value} (hs:a.eval s=v) (hown:w.ownsRow base 45 5 v n xs) {b:Nat} {y:Nd} {u:Value} (hx:a.eval x=.slice (some ⟨b,0,none⟩) 1 1) (hu:w.heap[b]? =some (.cells (jS y u).toArray 45 (0,0))) (hu1:u.oneCell'=true) (hn:n<=1000000) (hbase:base<=w.heap.size)
 (h:∀v' w',w'.ownsRow base 45 5 v' (n+1) (xs ++ jS y u)->w.grownBy w' v.ownBlock->wpList prog ops Q rest (a.put o.dst v') w'):wpList prog ops Q (o :: rest) a w:=
 wpList_plain hgd fun _ hK=>zgX s x ho hs hown hx hu hu1 hn hbase fun v' w' h1 h2=>hK _ _ (h v' w' h1 h2)
abbrev ndB(x:Nd)(u:Value):Obj:=.cells #[.int .u8 x.kind,.string ⟨x.text.toArray⟩,.int .i64 x.n,u,.int .i64 x.at_] 45 (0,0)
theorem ze4(t:yo)(nv iv:Value)(w:World)(ht:TRo w nv iv t)(hnl:t.nodes.length<=100000)(hil:t.items.length<=100000)(hkl:∀x∈t.nodes,x.kids.length<=100000):
 Calls prog 16 #[.agg #[nv,iv]] w fun e w'=>∃nv' iv',e=.returned (.agg #[nv',iv'])/\(∃kv,zeA w' (w.heap.size+2) nv' iv' t kv)/\Below w.heap.size w w':=by
 obtain⟨np,nc,ip,ic,rfl,rfl⟩:=ht.form;obtain⟨nodes,items⟩:=t;simp only at ht hnl hil hkl ⊢;obtain⟨m,hm⟩:=exE (nodes.length);obtain⟨m2,hm2⟩:∃m,items.length=m:=⟨_,rfl⟩;rw[hm,hm2] at ht;rw[hm] at hnl ⊢;rw[hm2] at hil ⊢;have h0:=zJ [.cells #[.slice np m nc,.slice ip m2 ic] 26 (0,0),.cells #[.slice none 0 0,.slice none 0 0] 26 (0,0),.cells #[] 3 (0,0)] w;have hA:Below w.heap.size w _:=zX [.cells #[.slice np m nc,.slice ip m2 ic] 26 (0,0),.cells #[.slice none 0 0,.slice none 0 0] 26 (0,0),.cells #[] 3 (0,0)] w;simp only[List.foldl_cons,List.foldl_nil] at hA h0;have HZ:=zi (h0 0 _ rfl);have HQ:=zi (h0 1 _ rfl);clear h0;have Hm:=zi hm;have Hm2:=zi hm2;have HT:=zi ht;have HK:=zi hkl;have hO:=zba ((w.alloc (.cells #[.slice np m nc,.slice ip m2 ic] 26 (0,0))).alloc (.cells #[.slice none 0 0,.slice none 0 0] 26 (0,0))) [] (by decide);rw[show ((w.alloc (.cells #[.slice np m nc,.slice ip m2 ic] 26 (0,0))).alloc (.cells #[.slice none 0 0,.slice none 0 0] 26 (0,0))).heap.size=w.heap.size+1+1 from by simp] at hO;have HO:=zi hO;have HU:=zi (ht.items.below hA);have HA:=zi hA;have HB:=zi (show w.heap.size+1+1<=(((w.alloc (.cells #[.slice np m nc,.slice ip m2 ic] 26 (0,0))).alloc (.cells #[.slice none 0 0,.slice none 0 0] 26 (0,0))).alloc (.cells #[] 3 (0,0))).heap.size from by simp);clear hm hm2 ht hkl hA hO;go_enter func16,ntmps16;go_wp2_with (at_builtin;go_loud (refine Xs rfl _ _ rfl rfl HO.out rfl HU.out (by rw[Hm2.out];omega) HB.out ?_));intro p cp w1 hK1 hB1;have em2:=Hm2.out;rw[em2] at hK1 ⊢;clear em2;have hZ1:=(hB1.block w.heap.size (by omega)).trans HZ.out;have hQ1:=(hB1.block (w.heap.size+1) (by omega)).trans HQ.out;have hs1:=pN HB.out hB1.size;have hBW0:=HA.out.trans (hB1.mono (by omega));obtain⟨W,hW⟩:=exE (w1.alloc (.cells #[.slice none 0 0,.slice p m2 cp] 26 (0,0)));have hst:zkl (w.heap.size+2) w1.heap.size nodes (.slice p m2 cp) W (.int .i64 0) W:=by
  subst hW;refine⟨0,.slice none 0 0,[],rfl,pU _,rfl,zk w1 _,⟨rfl,.inl ⟨rfl,rfl⟩⟩,fun k x v _ h=>(by simp at h),⟨pF _ _,fun k cs fr h=>h⟩,fun u hu=>(by cases hu)⟩
 have hKW:W.ownsRow (w.heap.size+2) 3 1 (.slice p m2 cp) m2 (yZ items):=hW▸zu hK1 (zf _ _);have hZW:=hW▸zh (zf w1 (.cells #[.slice none 0 0,.slice p m2 cp] 26 (0,0))) hZ1;have hQW:=hW▸zh (zf w1 (.cells #[.slice none 0 0,.slice p m2 cp] 26 (0,0))) hQ1;have hBW:Below w.heap.size w W:=hW▸hBW0.trans ((zf w1 (.cells #[.slice none 0 0,.slice p m2 cp] 26 (0,0))).mono (by omega));have HW:=zi hW;have Hst:=zi hst;have HKW:=zi hKW;have HBW:=zi hBW;have HZW:=zi hZW;have HQW:=zi hQW;clear hW hst hKW hBW hZW hQW hZ1 hQ1 hBW0 hK1 hB1 HZ HQ HO HU HB HA;go_wp2_with fail;rw[HW.out];go_loopw [4] (zkl (w.heap.size+2) w1.heap.size nodes (.slice p m2 cp) W) (fun i _=>m-(intOf i).toNat)
 case atStart=>exact Hst.out
 case round=>
  obtain⟨j,nv,kv,rfl,hj,hkv,hbox,hown,hkids,hf,hd⟩:=hrel;replace hd:=zi hd;rw[Hm.out] at hj;have hZr:=(hf.b.block w.heap.size (by omega)).trans HZW.out;have hQr:=(hf.b.block (w.heap.size+1) (by omega)).trans HQW.out;have z0:=zd hZr 0;have hbw:=HBW.out.trans (hf.b.mono (by omega));have hlt1:w1.heap.size<wr.heap.size:=(gtA hbox);by_cases hlt:j<m
  ·have hlt':(j:Int)<(m:Int):=by omega
   have hj0:¬((j:Int)<0):=by omega
   have hy:=pJ ((j:Int)+1) (by omega);have hjl:j<nodes.length:=by rw[Hm.out];omega
   obtain⟨x,hx⟩:∃x,nodes[j]? =some x:=⟨_,glE hjl⟩;have hmem:x∈nodes:=wK hx;obtain⟨g2,off2,u,rfl,N0⟩:=HT.out.nodes.at hx;have N:=N0.below hbw;have hkn:=HK.out x hmem;obtain⟨pu,cu,rfl⟩:=N.kids.form;have c0:=N.c0;have c1:=N.c1;have c2:=N.c2;have c3:=N.c3;have c4:=N.c4;have hbA:=zf wr (ndB x (.slice pu x.kids.length cu));have hA5:=zk wr (ndB x (.slice pu x.kids.length cu));have hsA:(wr.alloc (ndB x (.slice pu x.kids.length cu))).heap.size=wr.heap.size+1:=by simp
   have hO6:=zba (wr.alloc (ndB x (.slice pu x.kids.length cu))) [] (by decide);rw[hsA] at hO6;have hbB:=zf (wr.alloc (ndB x (.slice pu x.kids.length cu))) (.cells #[] 3 (0,0));have HU6:=zi ((N.kids.below hbA).below hbB);have HO6:=zi hO6;have HB6:=zi (show wr.heap.size+1<=((wr.alloc (ndB x (.slice pu x.kids.length cu))).alloc (.cells #[] 3 (0,0))).heap.size from by simp);have HA5:=zi (zh hbB hA5);have HbB:=zi (zg hbA hbB);have Hd:=zi hd;have Hf:=zi hf;have Hbox:=zi hbox;have Hown:=zi hown;have Hkids:=zi hkids;have HKn:=zi hkn;clear N N0 hbA hbB hO6 hA5 hsA hf hbox hown hkids hkn;go_wp2_with (at_builtin;go_loud (refine Xs rfl _ _ rfl rfl HO6.out rfl HU6.out (by have:=HKn.out;omega) HB6.out ?_));intro pk ck w2 hK2 hB2;have hB02:Below wr.heap.size wr w2:=HbB.out.trans (hB2.mono (by omega));have bx2:w2.heap[wr.heap.size]? =some (ndB x (.slice pu x.kids.length cu)):=(hB2.block wr.heap.size (by omega)).trans HA5.out;have ob2:=zh hB02 Hbox.out;have Jo:=zu Hown.out hB02;have fr2:=FrI.of_below (base:=w.heap.size+2) (by omega) hB02;have sz2:=hB02.size;have hne2:nv.ownBlock≠some wr.heap.size:=fun e=>by
    have:=(Hown.out.lt _ e).2;omega
   have b3:=zd bx2 3;have d3:=zl bx2 3;have bx3:(w2.setCell ⟨wr.heap.size,3,none⟩ (.slice pk x.kids.length ck)).heap[wr.heap.size]? =some (ndB x (.slice pk x.kids.length ck)):=zr bx2 3 (.slice pk x.kids.length ck);have ob3:=(zt (w:=w2) (i:=3) (v:=.slice pk x.kids.length ck) (by omega:w1.heap.size≠wr.heap.size)).trans ob2;have zhH:=ownsRow_setCell_other (a:=⟨wr.heap.size,3,none⟩) Jo hne2 (.slice pk x.kids.length ck);have fr3:=fr2.trans (zfv (base:=w.heap.size+2) (pb:=wr.heap.size) (by omega) bx2 (by decide) 3 (.slice pk x.kids.length ck));have K3:=(KS.own hK2).set (i:=3) bx2 (by decide) (.slice pk x.kids.length ck);have hd2:=zi (show ∀u∈kv ++ [Value.slice pk x.kids.length ck],∀g,qV u=some g->(Value.slice p m2 cp).ownBlock≠some g from fun u hu g hg e=>by
    rcases pX.1 hu with hu|hu
    ·exact Hd.out.out u hu g hg e
    ·rw[wL.1 hu] at hg;have h2:=(HKW.out.lt g e).2;have h3:=Hf.out.b.size;have h4:(Value.slice pk x.kids.length ck).ownBlock=some g:=by
      cases pk with
      |none=>cases hg
      |some a=>
       revert hg;cases x.kids.length with
       |zero=>intro hg;cases hg
       |succ n=>exact id
     have h5:=(hK2.lt g h4).1;omega)
   have hA3:=zf (w2.setCell ⟨wr.heap.size,3,none⟩ (.slice pk x.kids.length ck)) (ndB x (.slice pk x.kids.length ck));have own4:=zu zhH hA3;have ob4:=zh hA3 ob3;have fr4:=fr3.trans (FrI.of_below (base:=w.heap.size+2) (by simp;omega) hA3);have K4:=K3.below hA3;have hX:=zk (w2.setCell ⟨wr.heap.size,3,none⟩ (.slice pk x.kids.length ck)) (ndB x (.slice pk x.kids.length ck));rw[show (w2.setCell ⟨wr.heap.size,3,none⟩ (.slice pk x.kids.length ck)).heap.size=w2.heap.size by simp] at hX;have HX:=zi hX;clear hX;have HOw:=zi own4;have HBn:=zi (show w.heap.size+2<=((w2.setCell ⟨wr.heap.size,3,none⟩ (.slice pk x.kids.length ck)).alloc (ndB x (.slice pk x.kids.length ck))).heap.size by simp;omega);have Hob4:=zi ob4;have Hfr4:=zi fr4;have HK4:=zi K4;have e0:=zd ob3 0;have n0:=zd bx3 0;have n1:=zd bx3 1;have n2:=zd bx3 2;have n3:=zd bx3 3;have n4:=zd bx3 4;clear zhH own4 ob3 ob4 fr2 fr3 fr4 K3 K4 hA3 Jo ob2 bx2 bx3 hB02 hK2 hB2 hne2;go_wp2_with (at_builtin;go_loud (refine zbR (y:=x) (u:=.slice pk x.kids.length ck) rfl _ _ rfl rfl HOw.out rfl HX.out rfl (by omega) HBn.out ?_));intro v' w5 hrow hgrow;have hbox5:w5.heap[w1.heap.size]? =_:=(hgrow.block w1.heap.size (by simp;omega) (fun e=>za9 HOw.out Hob4.out (by decide) e.symm)).trans Hob4.out;have hfg:=(zfq (base:=w.heap.size+2) HOw.out hgrow HBn.out).i;have fr45:=Hfr4.out.trans hfg;have hrow2:w5.ownsRow (w.heap.size+2) 45 5 v' (j+1) (jg (nodes.take (j+1)) (kv ++ [.slice pk x.kids.length ck])):=by
    rw[wZ,hx,Option.toList_some,XF _ _ _ _ (by rw[hkv,wU];omega)];exact hrow
   have hkids2:∀(k:Nat) (y:Nd) (v:Value),nodes[k]? =some y->(kv ++ [.slice pk x.kids.length ck])[k]? =some v->KS w5 v y.kids:=fun k y v hyy hv=>by
    rcases Nat.lt_or_ge k kv.length with hk|hk
    ·rw[wQ hk] at hv;exact (Hkids.out k y v hyy hv).fri fr45
    ·rw[wM hk] at hv;have hk0:k=j:=by
      have:=(gtL hv);simp at this;omega
     rw[hk0,hx] at hyy;cases hyy;rw[hk0] at hv;rw[hkv,Nat.sub_self] at hv;cases hv;exact HK4.out.fri hfg
   have hfr:=Hf.out.trans fr45;obtain⟨vp,vc,rfl⟩:∃vp vc,v'=.slice vp (j+1) vc:=by
    rcases hrow.2 with⟨_,h0⟩|⟨g',cap',cur,hv,_⟩
    ·omega
    ·exact⟨_,cap',hv⟩
   replace hrow2:=zi hrow2;replace hkids2:=zi hkids2;replace hfr:=zi hfr;have d0:=zd hbox5 0;have f0:=zl hbox5 0;replace hbox5:=zi hbox5;clear hrow hgrow hfg fr45 e0 n0 n1 n2 n3 n4 b3 d3;go_wp2;go_roundw
   case rel=>
    have hfs:=zfv (base:=w.heap.size+2) (by omega) hbox5.out (by decide) 0 (.slice vp (j+1) vc);exact⟨j+1,_,_,by go_num,by rw[Hm.out];omega,by simp[hkv],zr hbox5.out 0 _,ownsRow_setCell_other hrow2.out (za9 hrow2.out hbox5.out (by decide)) _,fun k y v hy hv=>(hkids2.out k y v hy hv).fri hfs,hfr.out.trans hfs,hd2.out⟩
   case measure=>simp[intOf];omega
  ·have hlt':¬((j:Int)<(m:Int)):=by omega
   have hjm:j=m:=by omega
   have htk:nodes.take j=nodes:=by rw[hjm,<-Hm.out];exact List.take_length
   rw[htk] at hown;obtain⟨vp,vc,rfl⟩:∃vp vc,nv=.slice vp m vc:=by
    rcases hown.2 with⟨h1,h0⟩|⟨g',cap',cur,hv,_⟩
    ·exact⟨none,0,by rw[h1,<-hjm,h0]⟩
    ·exact⟨_,cap',by rw[hv,hjm]⟩
   have hT:zeA wr (w.heap.size+2) (.slice vp m vc) (.slice p m2 cp) ⟨nodes,items⟩ kv:=⟨by rw[Hm.out];exact hjm▸hown,by rw[Hm.out,hkv,hjm],hkids,by rw[Hm2.out];exact zcw HKW.out hf,hd.out⟩;have f1:∀i,wr.frozen? ⟨w.heap.size+1,i,none⟩=false:=fun i=>zl hQr i
   have b0:=zd hbox 0;have b1:=zd hbox 1;have q0:=zd hQr 0;have q1:=zd hQr 1;replace HT:=zi hT;replace hQr:=zi hQr;replace hbw:=zi hbw;clear hown htk hT hkids hf hZr hbox;go_wp2_with fail;have zA:=zr hQr.out 0 (.slice vp m vc);have zB:=zr zA 1 (.slice p m2 cp);refine bodyPost_ret (v:=.agg #[.slice vp m vc,.slice p m2 cp]) (by simp[results,results16,go_sem,zd zB]) rfl ?_;exact⟨_,_,rfl,⟨_,(HT.out.setBox hQr.out (by decide) (by decide) 0 _).setBox zA (by decide) (by decide) 1 _⟩,(hbw.out.setCell (by simp) _).setCell (by simp) _⟩
end
end Go.Proofs.YtnncmdpopgkibaaGreatDoor
namespace Lode
def zcP(l:List yp):List UInt8×Nat:=
 if yT l≠0 then ([],yT l) else
 if 3000<(xW (l.map kt)).length then ([],5) else (xW (l.map kt),0)
def VK(l:List (Nat×List UInt8))(y:Nat×List UInt8):List UInt8:=match l.getLast? with
 |none=>[]
 |some x=>if jy x y then [32] else []
end Lode
namespace Go.Proofs.YtnncmdpopgkibaaGreatDoor
section
open Go.RowKit Lode
open Go.Proofs.Tryz
def zbj(x:Nat×List UInt8):List (Nat×List UInt8)->Nat×List UInt8
 |[]=>x
 |z :: l=>zbj z l
theorem KB:∀(l:List (Nat×List UInt8)) (x:Nat×List UInt8),(x :: l).getLast? =some (zbj x l)
 |[],_=>rfl
 |z :: l,x=>by rw[List.getLast?_cons_cons];exact KB l z
theorem JO:∀(l:List (Nat×List UInt8)) (x y:Nat×List UInt8) (m:List (Nat×List UInt8)),ja x (l ++ y :: m)=ja x l ++ ((if jy (zbj x l) y then [32] else []) ++ (Za y ++ ja y m))
 |[],x,y,m=>rfl
 |z :: l,x,y,m=>by
  show (if jy x z then [32] else []) ++ (Za z ++ ja z (l ++ y :: m))=((if jy x z then [32] else []) ++ (Za z ++ ja z l)) ++ ((if jy (zbj z l) y then [32] else []) ++ (Za y ++ ja y m))
  rw[JO l z y m,wS,wS]
theorem zdt(l:List (Nat×List UInt8))(y:Nat×List UInt8)(m:List (Nat×List UInt8)):xW (l ++ y :: m)=xW l ++ (VK l y ++ (Za y ++ ja y m)):=by
 cases l with
 |nil=>rfl
 |cons x l=>
  rw[pT,xW,xW,JO,VK,KB];simp only[wS]
theorem zfX(l:List (Nat×List UInt8))(y:Nat×List UInt8):xW (l ++ [y])=xW l ++ (VK l y ++ Za y):=by
 rw[zdt];simp[ja]
theorem ZR{x:Nat×List UInt8}(h:kK x):x.2.length<=122:=by
 obtain⟨k,t⟩:=x;have he:=h.eq;unfold kV at he;simp only at he ⊢;generalize Za (k,t)=z at he;by_cases hk:k=4
 ·rw[if_pos hk] at he;split at he
  ·rename_i hq;unfold qA at hq;split at hq
   ·cases hq
   ·omega
  ·cases he
 ·rw[if_neg hk] at he;split at he
  ·cases he
  ·rename_i h20;have:¬20<t.length:=fun e=>h20 (.inr (.inl e))
   omega
theorem zcc{l:List yp}(hl:l.length<=1200)(h:∀x∈l.map kt,kK x):yT l=0:=by
 unfold yT;rw[if_neg (by omega),if_pos];rw[pO];intro t ht;have:=h (kt t) (List.mem_map_of_mem ht);unfold kK kt at this;simp[zcy,this]
theorem zdu{s:List UInt8}(h:(Lode.yQ s).2.2=0):zcP (Lode.yQ s).1=(xW ((Lode.yQ s).1.map kt),0)/\(xW ((Lode.yQ s).1.map kt)).length<=s.length/\
 ∃m,Lode.yQ (xW ((Lode.yQ s).1.map kt))=(m,0,0)/\m.map kt=(Lode.yQ s).1.map kt:=by
 obtain⟨h1,h2,h3,_⟩:=Jt h;have hk:=h1.k;have hsp:=hk.allSpelt;have hle:=zi2 hk;obtain⟨c1,c2⟩:=zbB.1 h3;refine⟨?_,hle,?_⟩
 ·unfold zcP;rw[zcc h2 hsp,if_neg (by simp),if_neg (by omega)]
 ·obtain⟨m,hm,hmk⟩:=zgh _ hsp;have hml:m.length<=1200:=by have:=congrArg List.length hmk;simp only[wV] at this;omega
  exact⟨m,zeY (zbB.2 ⟨by omega,zg9 _ hsp⟩) hm hml,hmk⟩
end
end Go.Proofs.YtnncmdpopgkibaaGreatDoor
namespace Lode
def ZO{α:Type}(p:yp->Bool)(A:yp->PM α)(B:PM α):PM α:=fun E s=>if p (zy E s) then A (zy E s) E {s with next:=s.next+1} else B E s
def isS(l:List (List UInt8))(t:yp):Bool:=uq t l
def isK(j:Nat)(t:yp):Bool:=t.kind == j
def isO(t:yp):Bool:=t.kind == 5 && (xV t.text).isSome
section
variable {α:Type}
theorem ZY{m m':PM α}(h:∀E s,m E s=m' E s):m=m':=funext fun E=>funext fun s=>h E s
theorem yX(w:List UInt8)(f:yp->PM α):(zL w >>= f)=ZO (isS [w]) f kL:=ZY fun E s=>by
 show PM.bind (zL w) f E s=_
 unfold PM.bind zL ZO isS kL;cases uq (zy E s) [w] <;> rfl
theorem xA(j:Nat)(f:yp->PM α):(xr j >>= f)=ZO (isK j) f kL:=ZY fun E s=>by
 show PM.bind (xr j) f E s=_
 unfold PM.bind xr ZO isK kL;cases (zy E s).kind == j <;> rfl
theorem xT(w:List UInt8)(f:Bool->PM α):(yu w >>= f)=ZO (isS [w]) (fun _=>f true) (f false):=ZY fun E s=>by
 show PM.bind (yu w) f E s=_
 unfold PM.bind yu ZO isS;cases uq (zy E s) [w] <;> rfl
theorem xm(l:List (List UInt8))(f:yp->PM α)(g:PM α):(uU l >>= fun b=>if b=true then vU >>= f else g)=ZO (isS l) f g:=ZY fun E s=>by
 show PM.bind (uU l) _ E s=_
 unfold PM.bind uU ZO isS;cases uq (zy E s) l <;> rfl
theorem jC(j:Nat)(A B:yp->PM α):(qP >>= fun t=>if (t.kind == j)=true then jD >>= fun _=>A t else B t)=ZO (isK j) A (qP >>= B):=ZY fun E s=>by
 show PM.bind qP _ E s=_
 unfold PM.bind qP ZO isK;simp only;cases (zy E s).kind == j <;> rfl
theorem qi(p:yp->Bool)(A:yp->yp->PM α)(B:yp->PM α):(qP >>= fun t=>ZO p (A t) (B t))=ZO p (fun u=>A u u) (qP >>= B):=ZY fun E s=>by
 show PM.bind qP _ E s=_
 unfold PM.bind qP ZO;simp only;cases p (zy E s) <;> rfl
theorem qu(l:List (List UInt8))(A:yp->Bool->PM α):(qP >>= fun t=>uU l >>= A t)=uU l >>= fun b=>qP >>= fun t=>A t b:=rfl
theorem qt(m:PM α):(qP >>= fun _=>m)=m:=rfl
theorem xB(l:List (List UInt8))(i:Int)(c:Nat->Bool)(F:yp->PM α)(G:PM α):(uU l >>= fun b=>if b=true then YJ i >>= fun k=>if c k=true then vU >>= F else kL else G)=YJ i >>= fun k=>if c k=true then ZO (isS l) F G else uU l >>= fun b=>if b=true then kL else G:=ZY fun E s=>by
 have hb:∀{β γ:Type} (m:PM β) (f:β->PM γ) s,(m >>= f) E s=PM.bind m f E s:=fun _ _ _=>rfl
 cases h:uq (zy E s) l <;> cases hx:c ((s.nodes[i.toNat]?).elim 0 Nd.kind) <;> simp only[hb,PM.bind,uU,YJ,ZO,isS,h,hx,if_true,if_false,Bool.false_eq_true,vU,kL]
theorem vf(c:Prop)[Decidable c](A B:yp->PM α):(qP >>= fun t=>if c then A t else B t)=if c then qP >>= A else qP >>= B:=by split <;> rfl
variable {β:Type}
theorem vI{m:PM α}{f:α->PM β}{E:zv}{s:zY}{p:Int}(h:m E s=.bad p):(m >>= f) E s=.bad p:=by
 show PM.bind m f E s=_
 unfold PM.bind;rw[h]
theorem zbD{m:PM α}{f:α->PM β}{E:zv}{s s1:zY}{a:α}(h:m E s=.ok a s1):(m >>= f) E s=f a E s1:=by
 show PM.bind m f E s=_
 unfold PM.bind;rw[h]
end
theorem zbE(R:xN):vB R=ZO (isK 3) (fun t=>zG 1 [] (vC t) t.at_ []) (ZO (isK 4) (fun t=>zG 2 t.text 0 t.at_ []) (ZO (isK 1) (fun t=>zG 5 t.text 0 t.at_ []) (ZO (isK 2) (fun t=>qk R.expr >>= fun l=>zG 25 t.text 0 t.at_ l)
 (ZO (isS [[40]]) (fun t=>ZO (isS [[41]]) (fun _=>zG 4 [] 0 t.at_ []) (R.expr >>= fun x=>ZO (isS [[41]]) (fun _=>pure x) kL)) (ZO (isS [[116,114,117,101]]) (fun t=>zG 3 [] 1 t.at_ []) (ZO (isS [[102,97,108,115,101]]) (fun t=>zG 3 [] 0 t.at_ [])
 (ZO isO (fun t=>jK R t ((xV t.text).getD (0,0))) (qP >>= fun t=>yA R t)))))))):=by
 simp only[vB,yX,xT,jC,qi,if_true,if_false,Bool.false_eq_true];refine congrArg _ (congrArg _ (congrArg _ (congrArg _ (congrArg _ (congrArg _ (congrArg _ ?_))))));refine ZY fun E s=>?_
 show PM.bind qP _ E s=_
 unfold PM.bind qP ZO isO;simp only;cases h:xV (zy E s).text with
 |none=>simp;rfl
 |some w=>cases h2:(zy E s).kind == 5 <;> simp <;> rfl
def xF(k:Nat)(n:Int)(K:List Nat):Bool:=yz k && decide ((xd k).1<=K.length) && ((xd k).2 == 2000 || decide (K.length<=(xd k).2)) && (k != 28 || n == 0 || (n == 1 && decide (0<K.length))) && (List.range K.length).all fun i=>zS k n K.length i (K.getD i 0)
def zaN(l:List Nd)(x:Nd):Bool:=xF x.kind x.n (x.kids.map (zE l))
structure Fw(s:zY):Prop where
 full:xL s.nodes s.nodes.length
 right:∀x∈s.nodes,zaN s.nodes x=true
structure Sa(s0 s:zY)(ks:List Int)(K:List Nat):Prop where
 pre:∃r,s.nodes=s0.nodes ++ r
 fw:Fw s
 sg:ZM (jH s.nodes s.nodes.length) ks.reverse ((s.nodes.length:Int)-1)=some ((s0.nodes.length:Int)-1)
 kn:ks.map (zE s.nodes)=K
theorem zaI(l r:List Nd):∀i,i<=l.length->jH (l ++ r) i=jH l i
 |0,_=>rfl
 |i+1,h=>by
  unfold jH;rw[zaI l r i (by omega),wQ (by omega)]
theorem zeM(out:List Nat):∀(a b:List Int) (p:Int),ZM out (a ++ b) p=(ZM out a p).bind (ZM out b)
 |[],b,p=>rfl
 |k :: a,b,p=>by
  show (if p<0\/k≠p then none else ZM out (a ++ b) (p-(out.getD p.toNat 0:Nat)))=(if p<0\/k≠p then none else ZM out a (p-(out.getD p.toNat 0:Nat))).bind (ZM out b)
  by_cases h:p<0\/k≠p
  ·rw[if_pos h,if_pos h];rfl
  ·rw[if_neg h,if_neg h];exact zeM out a b _
theorem zd5{l r:List Nd}{k:Int}(h0:0<=k)(h:k<l.length):zE (l ++ r) k=zE l k:=by
 unfold zE;rw[wQ (by omega)]
theorem Qm{l r:List Nd}{ks:List Int}(h:∀k∈ks,0<=k/\k<l.length):ks.map (zE (l ++ r))=ks.map (zE l):=List.map_congr_left fun k hk=>zd5 (h k hk).1 (h k hk).2
theorem Sa.mem{s0 s:zY}{ks:List Int}{K:List Nat}(A:Sa s0 s ks K):∀k∈ks,0<=k/\k<s.nodes.length:=fun k hk=>by
 have:=Jq _ _ _ A.sg k (wY.2 hk);omega
theorem Sa.start{s:zY}(F:Fw s):Sa s s [] []:=⟨⟨[],(wN _).symm⟩,F,rfl,rfl⟩
theorem Sa.tok{s0 s s1:zY}{ks:List Int}{K:List Nat}(A:Sa s0 s ks K)(h:s1.nodes=s.nodes):Sa s0 s1 ks K:=by
 obtain⟨a,⟨b,c⟩,d,e⟩:=A;exact⟨by rw[h];exact a,⟨by rw[h];exact b,by rw[h];exact c⟩,by rw[h];exact d,by rw[h];exact e⟩
theorem Sa.cat{s0 s s1:zY}{ks ks1:List Int}{K K1:List Nat}(A:Sa s0 s ks K)(B:Sa s s1 ks1 K1):Sa s0 s1 (ks ++ ks1) (K ++ K1):=by
 obtain⟨r,hr⟩:=A.pre;obtain⟨q,hq⟩:=B.pre;refine⟨⟨r ++ q,by rw[hq,hr,wS]⟩,B.fw,?_,?_⟩
 ·rw[List.reverse_append,zeM,B.sg];have hle:s.nodes.length<=s1.nodes.length:=by rw[hq,pC];omega
  have e:jH s1.nodes s.nodes.length=jH s.nodes s.nodes.length:=by rw[hq];exact zaI _ _ _ (pE _)
  have:=A.sg;rw[show (some ((s.nodes.length:Int)-1)).bind (ZM (jH s1.nodes s1.nodes.length) ks.reverse)=ZM (jH s1.nodes s1.nodes.length) ks.reverse ((s.nodes.length:Int)-1) from rfl,<-this];refine Yn _ _ fun j hj=>?_
  rw[(XN B.fw.full hle).2 j (by omega),e]
 ·rw[List.map_append,B.kn,<-A.kn,hq,Qm A.mem]
theorem Sa.add{s0 s:zY}{ks:List Int}{K:List Nat}(A:Sa s0 s ks K){k:Nat}{x:List UInt8}{n p:Int}(hsh:xF k n K=true):Sa s0 {s with nodes:=s.nodes ++ [⟨k,x,n,ks,p⟩]} [(s.nodes.length:Int)] [k]:=by
 obtain⟨r,hr⟩:=A.pre;have hget:(s.nodes ++ [(⟨k,x,n,ks,p⟩:Nd)])[s.nodes.length]? =some ⟨k,x,n,ks,p⟩:=by simp
 have e:jH (s.nodes ++ [(⟨k,x,n,ks,p⟩:Nd)]) s.nodes.length=jH s.nodes s.nodes.length:=zaI _ _ _ (pE _);have hF:xL (s.nodes ++ [(⟨k,x,n,ks,p⟩:Nd)]) s.nodes.length:=by unfold xL;rw[e];exact A.fw.full
 have hle:s0.nodes.length<=s.nodes.length:=by rw[hr,pC];omega
 have hA:=A.fw.full;unfold xL at hA;obtain⟨h1,h2⟩:=zfu hF (p:=(s0.nodes.length:Int)-1) (by rw[hget,e];exact A.sg);have hlen:(s.nodes ++ [(⟨k,x,n,ks,p⟩:Nd)]).length=s.nodes.length+1:=by simp
 refine⟨⟨r ++ [⟨k,x,n,ks,p⟩],by rw[hr,wS]⟩,⟨by rw[hlen];exact h1,fun y hy=>?_⟩,?_,?_⟩
 ·unfold zaN;rcases pX.1 hy with hy|hy
  ·rw[Qm (zbw A.fw.full hy)];exact A.fw.right y hy
  ·rw[wL] at hy;subst hy;simp only;rw[Qm A.mem,A.kn];exact hsh
 ·simp only;rw[hlen,h2,e];simp only[List.reverse_cons,List.reverse_nil,wJ,ZM];rw[if_neg (by omega)];have e3:(jH s.nodes s.nodes.length ++ [((s.nodes.length:Int)-((s0.nodes.length:Int)-1)).toNat]).getD (((s.nodes.length+1:Nat):Int)-1).toNat 0=s.nodes.length-s0.nodes.length+1:=by
   rw[show (((s.nodes.length+1:Nat):Int)-1).toNat=s.nodes.length by omega,pA,wM (by omega),hA];simp;omega
  rw[e3];congr 1;omega
 ·simp[zE]
def I1(a:Int):List Int:=[a]
def jn{α:Type}(p:Nat->Bool)(K:List Nat)(_:α):Prop:=∃k,K=[k]/\p k=true
def zjY{α:Type}(p:Nat->Bool)(K:List Nat)(_:α):Prop:=K≠[]/\∀k∈K,p k=true
def zlv{α:Type}(p:Nat->Bool)(K:List Nat)(_:α):Prop:=∀k∈K,p k=true
def Fd{α:Type}(Q:List Nat->α->Prop)(vs:α->List Int)(m:PM α):Prop:=∀(E:zv) (s:zY) (a:α) (s':zY),Fw s->m E s=.ok a s'->∃K,Sa s s' (vs a) K/\Q K a
def Nn{α:Type}(m:PM α):Prop:=∀(E:zv) (s:zY) (a:α) (s':zY),m E s=.ok a s'->s'.nodes=s.nodes
section
variable {α β:Type} {E:zv} {s0 s s':zY} {ks:List Int} {K:List Nat} {b:β}
theorem kj{m:PM α}{f:α->PM β}{Q:List Nat->α->Prop}{vs:α->List Int}(h:(m >>= f) E s=.ok b s')(A:Sa s0 s ks K)(g:Fd Q vs m):∃a s1 K1,Q K1 a/\Sa s0 s1 (ks ++ vs a) (K ++ K1)/\f a E s1=.ok b s':=by
 obtain⟨a,s1,h1,h⟩:=zm h;obtain⟨K1,B,q⟩:=g E s a s1 A.fw h1;exact⟨a,s1,K1,q,A.cat B,h⟩
theorem xg{m:PM α}{f:α->PM β}(h:(m >>= f) E s=.ok b s')(A:Sa s0 s ks K)(g:Nn m):∃a s1,Sa s0 s1 ks K/\f a E s1=.ok b s':=by
 obtain⟨a,s1,h1,h⟩:=zm h;exact⟨a,s1,A.tok (g E s a s1 h1),h⟩
theorem xy{k:Nat}{x:List UInt8}{n p a:Int}{q:Nat->Bool}(h:zG k x n p ks E s=.ok a s')(A:Sa s0 s ks K)(hsh:xF k n K=true)(hq:q k=true):∃K',Sa s0 s' (I1 a) K'/\jn q K' a:=by
 cases h;exact⟨_,A.add hsh,k,rfl,hq⟩
theorem zP{x:List UInt8}:Nn (zL x):=by
 intro E s a s' h;unfold zL at h;split at h <;> cases h;rfl
theorem qq{k:Nat}:Nn (xr k):=by
 intro E s a s' h;unfold xr at h;split at h <;> cases h;rfl
theorem yK{x:List UInt8}:Nn (yu x):=by
 intro E s a s' h;unfold yu at h;split at h <;> cases h <;> rfl
theorem Qi:Nn qP:=by intro E s a s' h;cases h;rfl
theorem vj:Nn jD:=by intro E s a s' h;cases h;rfl
theorem zbd:Nn vU:=by intro E s a s' h;cases h;rfl
theorem QP{l:List (List UInt8)}:Nn (uU l):=by intro E s a s' h;cases h;rfl
end
structure vT(P:xN):Prop where
 expr:Fd (jn zx) I1 P.expr
 unary:Fd (jn zx) I1 P.unary
 bin2:Fd (jn zx) I1 P.bin2
 block:Fd (jn (· == 28)) I1 P.block
 branch:Fd (jn (· == 29)) I1 P.branch
 kind:Fd (jn yN.type.is) I1 P.kind
 pattern:Fd (jn yN.pattern.is) I1 P.pattern
theorem zfY{k:Nat}{n:Int}{K:List Nat}(h:∀(i:Nat) (hi:i<K.length),zS k n K.length i K[i]=true):((List.range K.length).all fun i=>zS k n K.length i (K.getD i 0))=true:=by
 rw[pO];intro i hi;rw[List.mem_range] at hi;rw[pA,glE hi];exact h i hi
theorem uf{k:Nat}{n:Int}{K:List Nat}(h1:yz k=true)(h2:(xd k).1<=K.length)(h3:(xd k).2=2000\/K.length<=(xd k).2)(h4:k=28->n=0\/n=1/\0<K.length)(h5:∀(i:Nat) (hi:i<K.length),zS k n K.length i K[i]=true):xF k n K=true:=by
 unfold xF;rw[zfY h5,h1];have e2:decide ((xd k).1<=K.length)=true:=wX h2;have e3:((xd k).2 == 2000 || decide (K.length<=(xd k).2))=true:=by simpa using h3
 have e4:(k != 28 || n == 0 || (n == 1 && decide (0<K.length)))=true:=by
  by_cases hk:k=28
  ·rcases h4 hk with h|⟨h,h'⟩
   ·simp[h]
   ·simp[h,h']
  ·simp[hk]
 rw[e2,e3,e4];rfl
theorem yt{k:Nat}{n:Int}{K:List Nat}{p:Nat->Bool}(hK:∀j∈K,p j=true)(hs:∀m i j,p j=true->zS k n m i j=true)(h1:yz k=true:=by decide)(h2:(xd k).1<=K.length:=by simp[xd])(h3:(xd k).2=2000\/K.length<=(xd k).2:=by simp[xd])(h4:k≠28:=by decide):xF k n K=true:=uf h1 h2 h3 (fun e=>absurd e h4) fun i hi=>hs _ _ _ (hK _ (wC hi))
section
variable {R:xN}
theorem zcK{part:PM Int}{p:Nat->Bool}(hp:Fd (jn p) I1 part):∀(n:Nat) (acc:List Int) {E:zv} {s0 s:zY} {a:List Int} {s':zY} {K:List Nat},Sa s0 s acc K->(∀k∈K,p k=true)->qm n part acc E s=.ok a s'->∃K,Sa s0 s' a K/\K≠[]/\∀k∈K,p k=true
 |0,_,_,_,_,_,_,_,_,_,h=>by cases h
 |n+1,acc,E,s0,s,a,s',K,A,hK,h=>by
  unfold qm at h;obtain⟨x,s1,K1,⟨k,rfl,hk⟩,A,h⟩:=kj h A hp;have hK2:∀j∈K ++ [k],p j=true:=fun j hj=>by
   rcases pX.1 hj with hj|hj
   ·exact hK j hj
   ·rw[wL] at hj;rw[hj];exact hk
  obtain⟨b,s2,A,h⟩:=xg h A yK;cases b with
  |true=>exact zcK hp n _ A hK2 h
  |false=>
   obtain⟨rfl,rfl⟩:=zD h;exact⟨_,A,by simp,hK2⟩
theorem zbi{part:PM Int}{p:Nat->Bool}(hp:Fd (jn p) I1 part):Fd (zjY p) (fun l=>l) (kC part):=fun E s a s' F h=>zcK hp _ [] (Sa.start F) (fun k hk=>by cases hk) h
theorem YA{part:PM Int}{p:Nat->Bool}(hp:Fd (jn p) I1 part):Fd (zjY p) (fun l=>l) (xQ part):=by
 intro E s a s' F h;have A:=Sa.start F;unfold xQ at h;obtain⟨x,s1,A,h⟩:=xg h A zP;obtain⟨l,sl,Kl,ql,A,h⟩:=kj h A (zbi hp);obtain⟨y,s2,A,h⟩:=xg h A zP;obtain⟨rfl,rfl⟩:=zD h;exact⟨_,A,ql⟩
theorem Qp{part:PM Int}{p:Nat->Bool}{w:List (List UInt8)}(hp:Fd (jn p) I1 part):Fd (zlv p) (fun l=>l) (do if <-uU w then pure [] else kC part:PM (List Int)):=by
 intro E s a s' F h;have A:=Sa.start F;obtain⟨b,s1,A,h⟩:=xg h A QP;split at h
 ·obtain⟨rfl,rfl⟩:=zD h;exact⟨_,A,fun k hk=>by cases hk⟩
 ·obtain⟨K,B,q⟩:=zbi hp E s1 a s' A.fw h;exact⟨_,A.cat B,q.2⟩
theorem Kk{part:PM Int}{p:Nat->Bool}(hp:Fd (jn p) I1 part):Fd (zlv p) (fun l=>l) (qk part):=by
 intro E s a s' F h;have A:=Sa.start F;unfold qk at h;obtain⟨b,s1,A,h⟩:=xg h A yK;split at h
 ·obtain⟨l,sl,Kl,ql,A,h⟩:=kj h A (zbi hp);obtain⟨y,s2,A,h⟩:=xg h A zP;obtain⟨rfl,rfl⟩:=zD h;exact⟨_,A,ql.2⟩
 ·obtain⟨rfl,rfl⟩:=zD h;exact⟨_,A,fun k hk=>by cases hk⟩
theorem zcv(hR:vT R):Fd (jn (· == 88)) I1 (jE R):=by
 intro E s a s' F h;have A:=Sa.start F;unfold jE at h;obtain⟨t,s1,A,h⟩:=xg h A qq;obtain⟨_,s2,A,h⟩:=xg h A zP;obtain⟨x,s3,_,⟨k,rfl,hk⟩,A,h⟩:=kj h A hR.kind;exact xy h A (yt (p:=yN.type.is) (by simpa using hk) (fun _ _ _ h=>h)) rfl
theorem zjt(hR:vT R):Fd (jn (· == 89)) I1 (ul R):=by
 intro E s a s' F h;have A:=Sa.start F;unfold ul at h;obtain⟨t,s1,A,h⟩:=xg h A qq;obtain⟨l,sl,Kl,ql,A,h⟩:=kj h A (Kk hR.kind);exact xy h A (yt (p:=yN.type.is) ql (fun _ _ _ h=>h)) rfl
def zh8{α:Type}(K:List Nat)(_:α):Prop:=∃ps k,K=ps ++ [k]/\(∀j∈ps,(j == 88)=true)/\yN.type.is k=true
theorem zbu(hR:vT R):Fd zh8 (fun l=>l) (vA R):=by
 intro E s a s' F h;have A:=Sa.start F;unfold vA at h;obtain⟨_,s1,A,h⟩:=xg h A zP;obtain⟨l,sl,Kl,ql,A,h⟩:=kj h A (Qp (zcv hR));obtain⟨_,s2,A,h⟩:=xg h A zP;obtain⟨_,s3,A,h⟩:=xg h A zP;obtain⟨x,s4,_,⟨k,rfl,hk⟩,A,h⟩:=kj h A hR.kind;obtain⟨rfl,rfl⟩:=zD h;exact⟨_,A,Kl,k,rfl,ql,hk⟩
theorem zjr(hR:vT R):Fd (jn yN.type.is) I1 (vG R):=by
 intro E s a s' F h;have A:=Sa.start F;unfold vG at h;obtain⟨t,s1,A,h⟩:=xg h A Qi;split at h
 ·obtain⟨_,s2,A,h⟩:=xg h A vj;exact xy h A (by decide) rfl
 obtain⟨b,s2,A,h⟩:=xg h A yK;split at h
 ·exact xy h A (by decide) rfl
 obtain⟨b,s2,A,h⟩:=xg h A yK;split at h
 ·exact xy h A (by decide) rfl
 obtain⟨b,s2,A,h⟩:=xg h A yK;split at h
 ·exact xy h A (by decide) rfl
 obtain⟨b,s2,A,h⟩:=xg h A yK;split at h
 ·exact xy h A (by decide) rfl
 obtain⟨b,s2,A,h⟩:=xg h A yK;split at h
 ·obtain⟨x,s3,_,⟨k,rfl,hk⟩,A,h⟩:=kj h A hR.kind;exact xy h A (yt (p:=yN.type.is) (by simpa using hk) (fun _ _ _ h=>h)) rfl
 obtain⟨b,s2,A,h⟩:=xg h A yK;split at h
 ·obtain⟨x,s3,_,⟨k,rfl,hk⟩,A,h⟩:=kj h A hR.kind;exact xy h A (yt (p:=yN.type.is) (by simpa using hk) (fun _ _ _ h=>h)) rfl
 obtain⟨_,s3,A,h⟩:=xg h A zP;obtain⟨_,s3,A,h⟩:=xg h A zP;obtain⟨l,sl,Kl,ql,A,h⟩:=kj h A (Qp hR.kind);obtain⟨_,s3,A,h⟩:=xg h A zP;obtain⟨_,s3,A,h⟩:=xg h A zP;obtain⟨x,s4,_,⟨k,rfl,hk⟩,A,h⟩:=kj h A hR.kind;refine xy h A (yt (p:=yN.type.is) (fun j hj=>?_) (fun _ _ _ h=>h)) rfl;rcases pX.1 hj with hj|hj
 ·exact ql j hj
 ·rw[wL] at hj;rw[hj];exact hk
theorem zf5{k x y:Nat}(hk:k∈[8,9,10,11,12,13,14,15,16,17,18,19,20,21,22])(hx:zx x=true)(hy:zx y=true):xF k 0 [x,y]=true:=by
 have h1:∀k,k∈[8,9,10,11,12,13,14,15,16,17,18,19,20,21,22]->yz k=true/\xd k=(2,2)/\k≠28/\zx k=true:=by decide
 have h2:∀m i j,zS k 0 m i j=zx j:=by
  intro m i j;simp only[wD,wH,or_false] at hk;rcases hk with rfl|rfl|rfl|rfl|rfl|rfl|rfl|rfl|rfl|rfl|rfl|rfl|rfl|rfl|rfl <;> rfl
 obtain⟨a,b,c,_⟩:=h1 k hk;exact yt (p:=zx) (by simp[hx,hy]) (fun m i j h=>by rw[h2];exact h) a (by rw[b];exact pE 2) (.inr (by rw[b];exact pE 2)) c
theorem zi6(hR:vT R):Fd (fun K (x:Int×Bool)=>∃k,K=[k]/\yN.stmt.is k=true/\(x.2=true->zx k=true)) (fun x=>[x.1]) (vw R):=by
 intro E s a s' F h;have A:=Sa.start F;unfold vw at h;obtain⟨t,s1,A,h⟩:=xg h A Qi;obtain⟨b,s2,A,h⟩:=xg h A yK;split at h
 ·obtain⟨_,s3,A,h⟩:=xg h A qq;obtain⟨_,s3,A,h⟩:=xg h A zP;obtain⟨x,s3,_,⟨k,rfl,hk⟩,A,h⟩:=kj h A hR.expr;obtain⟨r,s4,h4,h⟩:=zm h;obtain⟨K',B,k',rfl,hk'⟩:=xy (q:=yN.stmt.is) h4 A (yt (p:=zx) (by simpa using hk) (fun _ _ _ h=>h)) rfl;obtain⟨rfl,rfl⟩:=zD h;exact⟨_,B,k',rfl,hk',fun e=>by cases e⟩
 obtain⟨b,s2,A,h⟩:=xg h A yK;split at h
 ·obtain⟨_,s3,A,h⟩:=xg h A qq;obtain⟨_,s3,A,h⟩:=xg h A zP;obtain⟨x,s3,_,⟨k,rfl,hk⟩,A,h⟩:=kj h A hR.expr;obtain⟨r,s4,h4,h⟩:=zm h;obtain⟨K',B,k',rfl,hk'⟩:=xy (q:=yN.stmt.is) h4 A (yt (p:=zx) (by simpa using hk) (fun _ _ _ h=>h)) rfl;obtain⟨rfl,rfl⟩:=zD h;exact⟨_,B,k',rfl,hk',fun e=>by cases e⟩
 obtain⟨x,s3,_,⟨k,rfl,hk⟩,A,h⟩:=kj h A hR.expr;obtain⟨b,s4,A,h⟩:=xg h A QP;split at h
 ·have hkn:[zE s4.nodes x]=[k]:=A.kn;obtain⟨j,s5,h5,h⟩:=zm h;cases h5;split at h
  ·rename_i hj;obtain⟨u,s5,A,h⟩:=xg h A zbd;obtain⟨y,s6,_,⟨k2,rfl,hk2⟩,A,h⟩:=kj h A hR.expr;obtain⟨r,s7,h7,h⟩:=zm h;have hk5:k=5\/k=23:=by
    have e:zE s4.nodes x=k:=(List.cons.inj hkn).1;rw[wF,pS,pS] at hj;rw[<-e];exact hj
   obtain⟨K',B,k',rfl,hk'⟩:=xy (q:=yN.stmt.is) h7 A (by rcases hk5 with rfl|rfl <;> simp[xF,yz,xd,List.range_succ,zS,hk2]) rfl;obtain⟨rfl,rfl⟩:=zD h;exact⟨_,B,k',rfl,hk',fun e=>by cases e⟩
  ·cases h
 ·obtain⟨rfl,rfl⟩:=zD h;exact⟨_,A,k,rfl,by simp[yN.is,hk],fun _=>hk⟩
def zku(K:List Nat)(x:List Int×Int):Prop:=(∀k∈K,yN.stmt.is k=true)/\(x.2=0\/x.2=1/\∃K' k,K=K' ++ [k]/\zx k=true)
theorem zb9(hR:vT R):∀(n:Nat) (acc:List Int) {E:zv} {s0 s:zY} {a:List Int×Int} {s':zY} {K:List Nat},Sa s0 s acc K->(∀k∈K,yN.stmt.is k=true)->yR R n acc E s=.ok a s'->∃K,Sa s0 s' a.1 K/\zku K a
 |0,_,_,_,_,_,_,_,_,_,h=>by cases h
 |n+1,acc,E,s0,s,a,s',K,A,hK,h=>by
  unfold yR at h;obtain⟨b,s1,A,h⟩:=xg h A QP;split at h
  ·obtain⟨rfl,rfl⟩:=zD h;exact⟨_,A,hK,.inl rfl⟩
  ·obtain⟨x,s2,_,⟨k,rfl,hk,hx⟩,A,h⟩:=kj h A (zi6 hR);have hK2:∀j∈K ++ [k],yN.stmt.is j=true:=fun j hj=>by
    rcases pX.1 hj with hj|hj
    ·exact hK j hj
    ·rw[wL] at hj;rw[hj];exact hk
   obtain⟨b,s3,A,h⟩:=xg h A QP;split at h
   ·rename_i hb;rw[pG] at hb;obtain⟨rfl,rfl⟩:=zD h;exact⟨_,A,hK2,.inr ⟨rfl,K,k,rfl,hx hb.1⟩⟩
   ·obtain⟨_,s4,A,h⟩:=xg h A zP;exact zb9 hR n _ A hK2 h
theorem zio(hR:vT R):Fd (jn (· == 28)) I1 (qE R):=by
 intro E s a s' F h;have A:=Sa.start F;unfold qE at h;obtain⟨t,s1,A,h⟩:=xg h A zP;obtain⟨x,s2,h2,h⟩:=zm h;obtain⟨K,B,hK,hx⟩:=zb9 hR _ [] A (fun k hk=>by cases hk) h2;obtain⟨_,s3,B,h⟩:=xg h B zP;refine xy h B ?_ rfl;rcases hx with h0|⟨h1,K',k,rfl,hk⟩
 ·rw[h0];exact uf rfl (pU _) (.inl rfl) (fun _=>.inl rfl) fun i hi=>by
   have:=hK _ (wC hi);simp[zS,this]
 ·rw[h1];refine uf rfl (pU _) (.inl rfl) (fun _=>.inr ⟨rfl,by simp⟩) fun i hi=>?_
  have:=hK _ (wC hi);rcases Nat.lt_or_ge (i+1) (K' ++ [k]).length with hl|hl
  ·simp only[zS,this];simp only[pC,pI] at hl ⊢;simp[hl]
  ·have e:i=K'.length:=by simp at hi hl;omega
   subst e;have e2:(K' ++ [k])[K'.length]=k:=by simp
   rw[e2] at this ⊢;simp[zS,this,hk]
theorem zcA:∀lv,lv<5->∀w,w∈yS lv->Qj lv w∈[8,9,10,11,12,13,14,15,16,17,18,19,20,21,22]:=by decide
theorem zh6{t:yp}{l:List (List UInt8)}(h:uq t l=true):t.text∈l:=by
 unfold uq at h;rw[pG] at h;simpa using h.2
theorem zhL{tight:PM Int}(ht:Fd (jn zx) I1 tight)(lv:Nat)(hlv:lv<5):∀(n:Nat) (left:Int) {E:zv} {s0 s:zY} {a:Int} {s':zY} {k:Nat},Sa s0 s [left] [k]->zx k=true->uR lv tight n left E s=.ok a s'->∃K,Sa s0 s' (I1 a) K/\jn zx K a
 |0,_,_,_,_,_,_,_,_,_,h=>by cases h
 |n+1,left,E,s0,s,a,s',k,A,hk,h=>by
  unfold uR at h;obtain⟨b,s1,h1,h⟩:=zm h;cases h1;split at h
  ·rename_i hb;obtain⟨t,s2,h2,h⟩:=zm h;cases h2;replace A:=A.tok (s1:={s with next:=s.next+1}) rfl;obtain⟨r,s3,_,⟨k2,rfl,hk2⟩,A,h⟩:=kj h A ht;obtain⟨x,s4,h4,h⟩:=zm h;have hkd:=zcA lv hlv _ (zh6 hb);obtain⟨K',B,k',rfl,hk'⟩:=xy (q:=zx) h4 A (zf5 hkd hk hk2) (by
    have:∀j,j∈[8,9,10,11,12,13,14,15,16,17,18,19,20,21,22]->zx j=true:=by decide
    exact this _ hkd)
   split at h
   ·obtain⟨rfl,rfl⟩:=zD h;exact⟨_,B,k',rfl,hk'⟩
   ·exact zhL ht lv hlv n x B hk' h
  ·obtain⟨rfl,rfl⟩:=zD h;exact⟨_,A,k,rfl,hk⟩
theorem KZ{tight:PM Int}(ht:Fd (jn zx) I1 tight)(lv:Nat)(hlv:lv<5):Fd (jn zx) I1 (uy lv tight):=by
 intro E s a s' F h;have A:=Sa.start F;unfold uy at h;obtain⟨l,s1,_,⟨k,rfl,hk⟩,A,h⟩:=kj h A ht;exact zhL ht lv hlv _ l A hk h
theorem zeR(hR:vT R):∀(n:Nat) (first:Bool) (acc:List Int) {E:zv} {s0 s:zY} {a:List Int} {s':zY} {K:List Nat},Sa s0 s acc K->(∀k∈K,zx k=true)->qB R n first acc E s=.ok a s'->∃K',Sa s0 s' a K'/\K'.length=K.length+n/\∀k∈K',zx k=true
 |0,_,acc,_,_,_,_,_,_,A,hK,h=>by
  obtain⟨rfl,rfl⟩:=zD h;exact⟨_,A,rfl,hK⟩
 |n+1,first,acc,E,s0,s,a,s',K,A,hK,h=>by
  unfold qB at h;obtain⟨u,s1,A,h⟩:=xg h A (by
   intro E s a s' h;split at h
   ·obtain⟨_,rfl⟩:=zD h;rfl
   ·obtain⟨_,s2,h2,h⟩:=zm h;obtain⟨_,rfl⟩:=zD h;exact zP _ _ _ _ h2)
  obtain⟨x,s2,_,⟨k,rfl,hk⟩,A,h⟩:=kj h A hR.expr;obtain⟨K',B,hl,hK'⟩:=zeR hR n false _ A (fun j hj=>by
   rcases pX.1 hj with hj|hj
   ·exact hK j hj
   ·rw[wL] at hj;rw[hj];exact hk) h
  exact⟨K',B,by rw[hl];simp;omega,hK'⟩
theorem zdm:∀w,w∈zM->(if w.2.2<0 then xd w.2.1=(1,1) else if 0<w.2.2 then xd w.2.1=(w.2.2.toNat,w.2.2.toNat) else xd w.2.1=(0,0))/\yz w.2.1=true/\w.2.1≠28/\zx w.2.1=true/\w.2.1∈[44,45,46,41,42,43,47,50,51,48,49,37,38,39]:=by decide
theorem zdl{k:Nat}(h:k∈[44,45,46,41,42,43,47,50,51,48,49,37,38,39])(m i j:Nat):zS k 0 m i j=zx j:=by
 simp only[wD,wH,or_false] at h;rcases h with rfl|rfl|rfl|rfl|rfl|rfl|rfl|rfl|rfl|rfl|rfl|rfl|rfl|rfl <;> rfl
theorem ziZ(hR:vT R)(t:yp)(w:Nat×Int)(x:List UInt8)(hw:(x,w)∈zM):Fd (jn zx) I1 (jK R t w):=by
 intro E s a s' F h;have A:=Sa.start F;obtain⟨hf,hk,h28,he,hin⟩:=zdm _ hw;simp only at hf hk h28 he hin;unfold jK at h;obtain⟨l,s1,h1,h⟩:=zm h;have key:∃K,Sa s s1 l K/\(∀k∈K,zx k=true)/\xd w.1=(K.length,K.length):=by
  split at h1
  ·rename_i hneg;obtain⟨x,s2,_,⟨k,rfl,hk⟩,A,h1⟩:=kj h1 A hR.unary;obtain⟨rfl,rfl⟩:=zD h1;rw[if_pos hneg] at hf;exact⟨_,A,by simpa using hk,hf⟩
  ·rename_i hneg;rw[if_neg hneg] at hf;split at h1
   ·rename_i hpos;rw[if_pos hpos] at hf;obtain⟨_,s2,A,h1⟩:=xg h1 A zP;obtain⟨l2,s3,h3,h1⟩:=zm h1;obtain⟨K',B,hl,hK'⟩:=zeR hR _ _ [] A (fun k hk=>by cases hk) h3;obtain⟨_,s4,B,h1⟩:=xg h1 B zP;obtain⟨rfl,rfl⟩:=zD h1;exact⟨K',B,hK',by rw[hf,hl];simp⟩
   ·rename_i hpos;rw[if_neg hpos] at hf;obtain⟨rfl,rfl⟩:=zD h1;exact⟨_,A,(fun k hk=>by cases hk),hf⟩
 obtain⟨K,A,hK,hf⟩:=key;exact xy h A (yt (p:=zx) hK (fun m i j hj=>by rw[zdl hin];exact hj) hk (by rw[hf];exact pE _) (.inr (by rw[hf];exact pE _)) h28) he
theorem zkE(hR:vT R):Fd (jn (· == 27)) I1 (Xa R):=by
 intro E s a s' F h;have A:=Sa.start F;unfold Xa at h;obtain⟨t,s1,A,h⟩:=xg h A qq;obtain⟨_,s2,A,h⟩:=xg h A zP;obtain⟨x,s3,_,⟨k,rfl,hk⟩,A,h⟩:=kj h A hR.expr;exact xy h A (yt (p:=zx) (by simpa using hk) (fun _ _ _ h=>h)) rfl
theorem zkX(hR:vT R):Fd (jn (· == 32)) I1 (Xb R):=by
 intro E s a s' F h;have A:=Sa.start F;unfold Xb at h;obtain⟨x,s1,_,⟨k,rfl,hk⟩,A,h⟩:=kj h A hR.pattern;obtain⟨t,s2,A,h⟩:=xg h A zP;obtain⟨y,s3,_,⟨k2,rfl,hk2⟩,A,h⟩:=kj h A hR.expr;exact xy h A (by simp[xF,yz,xd,List.range_succ,zS,hk,hk2]) rfl
end
section
variable {R:xN}
def zbW(k:Nat):Bool:=k == 63 || k == 64
def zeK(K:List Nat):Prop:=K≠[]/\∀(i:Nat) (hi:i<K.length),yN.way.is K[i]=true/\(i+1=K.length\/K[i]≠65)
theorem zaF(hR:vT R):∀(n:Nat) (acc:List Int) {E:zv} {s0 s:zY} {a:List Int} {s':zY} {K:List Nat},Sa s0 s acc K->(∀k∈K,zbW k=true)->jf R n acc E s=.ok a s'->∃K',Sa s0 s' a K'/\zeK K'
 |0,_,_,_,_,_,_,_,_,_,h=>by cases h
 |n+1,acc,E,s0,s,a,s',K,A,hK,h=>by
  have fin:∀(k:Nat),yN.way.is k=true->zeK (K ++ [k]):=fun k hk=>⟨by simp,fun i hi=>by
   rcases Nat.lt_or_ge i K.length with hl|hl
   ·rw[List.getElem_append_left hl];have:=hK _ (wC hl);unfold zbW at this;simp only[wF,pS] at this;simp only[yN.is,pG,pH];omega
   ·have e:i=K.length:=by simp at hi;omega
    subst e;simp[hk]⟩
  have more:∀(k:Nat),zbW k=true->∀j∈K ++ [k],zbW j=true:=fun k hk j hj=>by
   rcases pX.1 hj with hj|hj
   ·exact hK j hj
   ·rw[wL] at hj;rw[hj];exact hk
  unfold jf at h;obtain⟨_,_,A,h⟩:=xg h A Qi;obtain⟨b,s2,A,h⟩:=xg h A yK;have A0:=Sa.start A.fw;split at h
  ·obtain⟨x,s3,_,⟨k,rfl,hk⟩,B,h⟩:=kj h A0 hR.expr;obtain⟨_,_,B,h⟩:=xg h B zP;obtain⟨_,_,B,h⟩:=xg h B qq;obtain⟨_,_,B,h⟩:=xg h B zP;obtain⟨y,s4,_,⟨k2,rfl,hk2⟩,B,h⟩:=kj h B hR.expr;obtain⟨r,s5,h5,h⟩:=zm h;obtain⟨_,B,k',rfl,hk'⟩:=xy (q:=zbW) h5 B (by simp[xF,yz,xd,List.range_succ,zS,hk,hk2]) rfl;replace A:=A.cat B;obtain⟨b,s6,A,h⟩:=xg h A yK;split at h
   ·exact zaF hR n _ A (more _ hk') h
   ·obtain⟨rfl,rfl⟩:=zD h;exact⟨_,A,fin _ (by unfold zbW at hk';simp[yN.is] at hk' ⊢;omega)⟩
  obtain⟨b,s2,A,h⟩:=xg h A yK;have A0:=Sa.start A.fw;split at h
  ·obtain⟨x,s3,_,⟨k,rfl,hk⟩,B,h⟩:=kj h A0 hR.expr;obtain⟨_,_,B,h⟩:=xg h B zP;obtain⟨y,s4,_,⟨k2,rfl,hk2⟩,B,h⟩:=kj h B hR.expr;obtain⟨_,_,B,h⟩:=xg h B zP;obtain⟨z,s4,_,⟨k3,rfl,hk3⟩,B,h⟩:=kj h B hR.expr;obtain⟨r,s5,h5,h⟩:=zm h;obtain⟨_,B,k',rfl,hk'⟩:=xy (q:=zbW) h5 B (by simp[xF,yz,xd,List.range_succ,zS,hk,hk2,hk3]) rfl;replace A:=A.cat B;obtain⟨b,s6,A,h⟩:=xg h A yK;split at h
   ·exact zaF hR n _ A (more _ hk') h
   ·obtain⟨rfl,rfl⟩:=zD h;exact⟨_,A,fin _ (by unfold zbW at hk';simp[yN.is] at hk' ⊢;omega)⟩
  obtain⟨_,_,A,h⟩:=xg h A zP;obtain⟨_,_,A,h⟩:=xg h A zP;have A0:=Sa.start A.fw;obtain⟨x,s3,_,⟨k,rfl,hk⟩,B,h⟩:=kj h A0 hR.expr;obtain⟨r,s5,h5,h⟩:=zm h;obtain⟨_,B,k',rfl,hk'⟩:=xy (q:=yN.way.is) h5 B (by simp[xF,yz,xd,List.range_succ,zS,hk]) rfl;replace A:=A.cat B;obtain⟨rfl,rfl⟩:=zD h;exact⟨_,A,fin _ hk'⟩
theorem zdE{K:List Nat}(h:zeK K):xF 35 0 K=true:=uf rfl (by have:=List.length_pos_iff.2 h.1;exact this) (.inl rfl) (fun e=>by cases e) fun i hi=>by
 obtain⟨a,b⟩:=h.2 i hi;have:(decide (i+1=K.length) || K[i] != 65)=true:=by simpa using b
 simp only[zS,a];exact this
theorem zf8(hR:vT R):Fd (fun K _=>zeK K) (fun l=>l) (jP R):=by
 intro E s a s' F h;have A:=Sa.start F;unfold jP at h;obtain⟨_,_,A,h⟩:=xg h A zP;obtain⟨x,s2,h2,h⟩:=zm h;obtain⟨K,A,hK⟩:=zaF hR _ [] A (fun k hk=>by cases hk) h2;obtain⟨_,_,A,h⟩:=xg h A zP;obtain⟨rfl,rfl⟩:=zD h;exact⟨K,A,hK⟩
theorem zar(hR:vT R):Fd (jn (· == 29)) I1 (qh R):=by
 intro E s a s' F h;have A:=Sa.start F;unfold qh at h;obtain⟨_,_,A,h⟩:=xg h A zP;obtain⟨c,_,_,⟨k1,rfl,hk1⟩,A,h⟩:=kj h A (hR.expr);obtain⟨b,_,_,⟨k2,rfl,hk2⟩,A,h⟩:=kj h A (hR.block);simp only[pS] at hk2;subst hk2;obtain⟨_,_,A,h⟩:=xg h A yK;split at h
 ·obtain⟨_,_,A,h⟩:=xg h A QP;split at h
  ·obtain⟨x,_,_,⟨k3,rfl,hk3⟩,A,h⟩:=kj h A (hR.branch);simp only[pS] at hk3;subst hk3;exact xy h A (by simp[xF,yz,xd,List.range_succ,zS,yN.is,hk1]) rfl
  ·obtain⟨x,_,_,⟨k3,rfl,hk3⟩,A,h⟩:=kj h A (hR.block);simp only[pS] at hk3;subst hk3;exact xy h A (by simp[xF,yz,xd,List.range_succ,zS,yN.is,hk1]) rfl
 ·exact xy h A (by simp[xF,yz,xd,List.range_succ,zS,yN.is,hk1]) rfl
theorem zdG{k c:Nat}{K:List Nat}{p:Nat->Bool}(hc:zx c=true)(hK:∀j∈K,p j=true)(h1:yz k=true)(h2:(xd k).1<=K.length+1)(h3:(xd k).2=2000)(h4:k≠28)(s0:∀m,zS k 0 m 0 c=true)(s1:∀m i j,p j=true->zS k 0 m (i+1) j=true):xF k 0 (c :: K)=true:=uf h1 h2 (.inl h3) (fun e=>absurd e h4) fun i hi=>by
 cases i with
 |zero=>exact s0 _
 |succ i=>exact s1 _ _ _ (hK _ (wC (by simpa using hi)))
theorem VJ{k:Nat}{n:Int}{K:List Nat}(hk:k=33\/k=102){l:List Int}(h:zh8 K l):xF k n (K ++ [28])=true:=by
 obtain⟨ps,t,rfl,hp,ht⟩:=h;have h1:yz k=true/\xd k=(2,2000)/\k≠28:=by rcases hk with rfl|rfl <;> decide
 refine uf h1.1 (by rw[h1.2.1];simp) (.inl (by rw[h1.2.1])) (fun e=>absurd e h1.2.2) fun i hi=>?_
 have hs:zS k n (ps ++ [t] ++ [28]).length i ((ps ++ [t] ++ [28])[i])=((decide (i+2<(ps ++ [t] ++ [28]).length) && (ps ++ [t] ++ [28])[i] == 88) || (decide (i+2=(ps ++ [t] ++ [28]).length) && yN.type.is (ps ++ [t] ++ [28])[i]) || (decide (i+1=(ps ++ [t] ++ [28]).length) && (ps ++ [t] ++ [28])[i] == 28)):=by rcases hk with rfl|rfl <;> rfl
 rw[hs];have hl:(ps ++ [t] ++ [28]).length=ps.length+2:=by simp
 rw[hl];have hi':i<ps.length\/i=ps.length\/i=ps.length+1:=by omega
 rcases hi' with h|h|h
 ·have e:(ps ++ [t] ++ [28])[i]=ps[i]:=by rw[List.getElem_append_left (by simp;omega),List.getElem_append_left h]
  have:=hp _ (wC h);rw[e,this];simp[h]
 ·subst h;simp[ht]
 ·subst h;simp
theorem zf6{K:List Nat}{l:List Int}(h:zh8 K l):xF 103 0 K=true:=by
 obtain⟨ps,t,rfl,hp,ht⟩:=h;refine uf rfl (by simp[xd]) (.inl rfl) (fun e=>by cases e) fun i hi=>?_
 have hs:zS 103 0 (ps ++ [t]).length i ((ps ++ [t])[i])=((decide (i+1<(ps ++ [t]).length) && (ps ++ [t])[i] == 88) || (decide (i+1=(ps ++ [t]).length) && yN.type.is (ps ++ [t])[i])):=rfl;rw[hs];have hl:(ps ++ [t]).length=ps.length+1:=by simp
 rw[hl];have hi':i<ps.length\/i=ps.length:=by omega
 rcases hi' with h|h
 ·have e:(ps ++ [t])[i]=ps[i]:=List.getElem_append_left h;have:=hp _ (wC h);rw[e,this];simp[h]
 ·subst h;simp[ht]
theorem zen(hR:vT R)(t:yp):Fd (jn zx) I1 (yA R t):=by
 intro E s a s' F h;have A:=Sa.start F;unfold yA at h;obtain⟨_,_,A,h⟩:=xg h A QP;split at h
 ·rename_i s1 A1 _ _;obtain⟨K,B,k,rfl,hk⟩:=zar hR E _ a s' A.fw h;simp only[pS] at hk;subst hk;exact⟨_,A.cat B,29,rfl,rfl⟩
 obtain⟨_,_,A,h⟩:=xg h A yK;split at h
 ·obtain⟨c,_,_,⟨k1,rfl,hk1⟩,A,h⟩:=kj h A (hR.expr);obtain⟨b,_,_,⟨k2,rfl,hk2⟩,A,h⟩:=kj h A (hR.block);simp only[pS] at hk2;subst hk2;exact xy h A (by simp[xF,yz,xd,List.range_succ,zS,yN.is,hk1]) rfl
 obtain⟨_,_,A,h⟩:=xg h A yK;split at h
 ·obtain⟨c,_,_,⟨k1,rfl,hk1⟩,A,h⟩:=kj h A (hR.expr);obtain⟨l,s3,K,⟨hne,hK⟩,A,h⟩:=kj h A (YA (zkX hR));have:=List.length_pos_iff.2 hne;exact xy h A (zdG (p:=(· == 32)) hk1 hK rfl (show 2<=K.length+1 by omega) rfl (by decide) (fun _=>by simp[zS,hk1]) fun m i j hj=>by simp only[pS] at hj;subst hj;simp[zS]) rfl
 obtain⟨_,_,A,h⟩:=xg h A yK;split at h
 ·obtain⟨l,s3,K,hK,A,h⟩:=kj h A (zbu hR);obtain⟨b,_,_,⟨k2,rfl,hk2⟩,A,h⟩:=kj h A (hR.block);simp only[pS] at hk2;subst hk2;exact xy h A (VJ (.inl rfl) hK) rfl
 obtain⟨_,_,A,h⟩:=xg h A yK;split at h
 ·obtain⟨b,_,_,⟨k1,rfl,hk1⟩,A,h⟩:=kj h A (hR.block);obtain⟨_,_,A,h⟩:=xg h A zP;obtain⟨_,_,A,h⟩:=xg h A qq;obtain⟨c,_,_,⟨k2,rfl,hk2⟩,A,h⟩:=kj h A (hR.block);simp only[pS] at hk1 hk2;subst hk1 hk2;exact xy h A (by decide) rfl
 obtain⟨_,_,A,h⟩:=xg h A yK;split at h
 ·obtain⟨x,_,_,⟨k1,rfl,hk1⟩,A,h⟩:=kj h A (hR.expr);obtain⟨_,_,A,h⟩:=xg h A zP;obtain⟨_,_,A,h⟩:=xg h A qq;obtain⟨b,_,_,⟨k2,rfl,hk2⟩,A,h⟩:=kj h A (hR.block);obtain⟨_,_,A,h⟩:=xg h A zP;obtain⟨c,_,_,⟨k3,rfl,hk3⟩,A,h⟩:=kj h A (hR.block);simp only[pS] at hk2 hk3;subst hk2 hk3;exact xy h A (by simp[xF,yz,xd,List.range_succ,zS,yN.is,hk1]) rfl
 obtain⟨_,_,A,h⟩:=xg h A yK;split at h
 ·obtain⟨_,_,A,h⟩:=xg h A qq;obtain⟨l,s3,K,⟨hne,hK⟩,A,h⟩:=kj h A (YA (zkE hR));have:=List.length_pos_iff.2 hne;exact xy h A (yt (p:=(· == 27)) hK (fun m i j hj=>hj) (h2:=this)) rfl
 obtain⟨_,_,A,h⟩:=xg h A yK;split at h
 ·obtain⟨k,_,_,⟨k1,rfl,hk1⟩,A,h⟩:=kj h A (hR.kind);obtain⟨_,_,A,h⟩:=xg h A zP;obtain⟨_,_,A,h⟩:=xg h A qq;obtain⟨_,_,A,h⟩:=xg h A zP;exact xy h A (yt (p:=yN.type.is) (by simpa using hk1) (fun _ _ _ h=>h)) rfl
 obtain⟨_,_,A,h⟩:=xg h A zP;obtain⟨l,s3,K,hK,A,h⟩:=kj h A (zf8 hR);exact xy h A (zdE hK) rfl
theorem ziX{x:List UInt8}{w:Nat×Int}(h:xV x=some w):(x,w)∈zM:=by
 unfold xV at h;cases hf:zM.find? fun w=>w.1 == x with
 |none=>rw[hf] at h;cases h
 |some y=>
  rw[hf] at h;have h1:=List.find?_some hf;have h2:=List.mem_of_find?_eq_some hf;rw[pS] at h1;have h3:y.2=w:=Option.some.inj h;rw[<-h1,<-h3];exact h2
theorem zjK(hR:vT R):Fd (jn zx) I1 (vB R):=by
 intro E s a s' F h;have A:=Sa.start F;unfold vB at h;obtain⟨t,s1,h1,h⟩:=zm h;cases h1;split at h
 ·obtain⟨_,_,A,h⟩:=xg h A vj;exact xy h A (by simp[xF,yz,xd]) rfl
 split at h
 ·obtain⟨_,_,A,h⟩:=xg h A vj;exact xy h A (by decide) rfl
 split at h
 ·obtain⟨_,_,A,h⟩:=xg h A vj;exact xy h A (by decide) rfl
 split at h
 ·obtain⟨_,_,A,h⟩:=xg h A vj;obtain⟨l,s3,K,hK,A,h⟩:=kj h A (Kk hR.expr);exact xy h A (yt (p:=zx) hK (fun m i j hj=>hj) (h2:=pU _)) rfl
 obtain⟨_,_,A,h⟩:=xg h A yK;split at h
 ·obtain⟨_,_,A,h⟩:=xg h A yK;split at h
  ·exact xy h A (by decide) rfl
  ·obtain⟨x,_,_,⟨k1,rfl,hk1⟩,A,h⟩:=kj h A (hR.expr);obtain⟨_,_,A,h⟩:=xg h A zP;obtain⟨rfl,rfl⟩:=zD h;exact⟨_,A,k1,rfl,hk1⟩
 obtain⟨_,_,A,h⟩:=xg h A yK;split at h
 ·exact xy h A (by decide) rfl
 obtain⟨_,_,A,h⟩:=xg h A yK;split at h
 ·exact xy h A (by decide) rfl
 have ctl:∀{s1:zY} {t:yp},Sa s s1 [] []->yA R t E s1=.ok a s'->∃K,Sa s s' (I1 a) K/\jn zx K a:=fun {s1 t} A h=>by
  obtain⟨K,B,q⟩:=zen hR t E _ a s' A.fw h;exact⟨_,A.cat B,q⟩
 cases hw:xV (zy E s).text with
 |none=>
  rw[hw] at h;exact ctl A h
 |some w=>
  rw[hw] at h;simp only at h;split at h
  ·obtain⟨_,_,A,h⟩:=xg h A vj;obtain⟨K,B,q⟩:=ziZ hR _ w _ (ziX hw) E _ a s' A.fw h;exact⟨_,A.cat B,q⟩
  ·exact ctl A h
theorem za2(hR:vT R):∀(n:Nat) (left:Int) {E:zv} {s0 s:zY} {a:Int} {s':zY} {k:Nat},Sa s0 s [left] [k]->zx k=true->jL R n left E s=.ok a s'->∃K,Sa s0 s' (I1 a) K/\jn zx K a
 |0,_,_,_,_,_,_,_,_,_,h=>by cases h
 |n+1,left,E,s0,s,a,s',k,A,hk,h=>by
  unfold jL at h;obtain⟨_,_,A,h⟩:=xg h A Qi;obtain⟨_,_,A,h⟩:=xg h A yK;split at h
  ·obtain⟨_,_,A,h⟩:=xg h A qq;obtain⟨x,s4,h4,h⟩:=zm h;obtain⟨K',B,k',rfl,hk'⟩:=xy (q:=zx) h4 A (yt (p:=zx) (by simpa using hk) (fun _ _ _ h=>h)) rfl;exact za2 hR n x B hk' h
  obtain⟨_,_,A,h⟩:=xg h A yK;split at h
  ·obtain⟨l,s3,K,hK,A,h⟩:=kj h A (Qp hR.expr);obtain⟨_,_,A,h⟩:=xg h A zP;obtain⟨x,s4,h4,h⟩:=zm h;obtain⟨K',B,k',rfl,hk'⟩:=xy (q:=zx) h4 A (yt (p:=zx) (fun j hj=>by
    rcases pX.1 hj with hj|hj
    ·rw[wL] at hj;rw[hj];exact hk
    ·exact hK j hj) (fun _ _ _ h=>h)) rfl
   exact za2 hR n x B hk' h
  ·obtain⟨rfl,rfl⟩:=zD h;exact⟨_,A,k,rfl,hk⟩
theorem zb0(hR:vT R):Fd (jn zx) I1 (jc R):=by
 intro E s a s' F h;have A:=Sa.start F;unfold jc at h;obtain⟨_,_,A,h⟩:=xg h A QP;split at h
 ·obtain⟨_,_,A,h⟩:=xg h A zbd;obtain⟨x,_,_,⟨k1,rfl,hk1⟩,A,h⟩:=kj h A (hR.unary);exact xy h A (yt (p:=zx) (by simpa using hk1) (fun _ _ _ h=>h)) rfl
 ·obtain⟨x,_,_,⟨k1,rfl,hk1⟩,A,h⟩:=kj h A (zjK hR);exact za2 hR _ x A hk1 h
theorem zjG(hR:vT R):Fd (jn zx) I1 (zib R):=KZ (zb0 hR) 4 (by decide)
theorem zjH(hR:vT R):Fd (jn zx) I1 (KF R):=KZ (zjG hR) 3 (by decide)
theorem zfE(hR:vT R):Fd (jn zx) I1 (kP R):=by
 intro E s a s' F h;have A:=Sa.start F;unfold kP at h;obtain⟨_,_,A,h⟩:=xg h A QP;split at h
 ·obtain⟨_,_,A,h⟩:=xg h A zbd;obtain⟨x,_,_,⟨k1,rfl,hk1⟩,A,h⟩:=kj h A (hR.bin2);exact xy h A (yt (p:=zx) (by simpa using hk1) (fun _ _ _ h=>h)) rfl
 ·obtain⟨K,B,q⟩:=KZ (zjH hR) 2 (by decide) E _ a s' A.fw h;exact⟨_,A.cat B,q⟩
theorem zjF(hR:vT R):Fd (jn zx) I1 (zaj R):=KZ (KZ (zfE hR) 1 (by decide)) 0 (by decide)
theorem zdU(hR:vT R):Fd (jn yN.pattern.is) I1 (xI R):=by
 intro E s a s' F h;have A:=Sa.start F;unfold xI at h;obtain⟨_,_,A,h⟩:=xg h A Qi;split at h
 ·obtain⟨_,_,A,h⟩:=xg h A vj;exact xy h A (by decide) rfl
 split at h
 ·obtain⟨_,_,A,h⟩:=xg h A vj;exact xy h A (by simp[xF,yz,xd]) rfl
 split at h
 ·obtain⟨_,_,A,h⟩:=xg h A vj;exact xy h A (by decide) rfl
 split at h
 ·obtain⟨_,_,A,h⟩:=xg h A vj;obtain⟨l,s3,K,hK,A,h⟩:=kj h A (Kk hR.pattern);exact xy h A (yt (p:=yN.pattern.is) hK (fun m i j hj=>hj) (h2:=pU _)) rfl
 obtain⟨_,_,A,h⟩:=xg h A yK;split at h
 ·exact xy h A (by decide) rfl
 obtain⟨_,_,A,h⟩:=xg h A yK;split at h
 ·exact xy h A (by decide) rfl
 obtain⟨_,_,A,h⟩:=xg h A zP;obtain⟨_,_,A,h⟩:=xg h A qq;exact xy h A (by simp[xF,yz,xd]) rfl
theorem zjw(hR:vT R):Fd (jn yN.item.is) I1 (jT R):=by
 intro E s a s' F h;have A:=Sa.start F;unfold jT at h;obtain⟨_,_,A,h⟩:=xg h A Qi;obtain⟨_,_,A,h⟩:=xg h A yK;split at h
 ·obtain⟨_,_,A,h⟩:=xg h A qq;obtain⟨l,s3,K,⟨hne,hK⟩,A,h⟩:=kj h A (YA (zcv hR));exact xy h A (yt (p:=(· == 88)) hK (fun m i j hj=>hj) (h2:=List.length_pos_iff.2 hne)) rfl
 obtain⟨_,_,A,h⟩:=xg h A yK;split at h
 ·obtain⟨_,_,A,h⟩:=xg h A qq;obtain⟨l,s3,K,⟨hne,hK⟩,A,h⟩:=kj h A (YA (zjt hR));exact xy h A (yt (p:=(· == 89)) hK (fun m i j hj=>hj) (h2:=List.length_pos_iff.2 hne)) rfl
 obtain⟨_,_,A,h⟩:=xg h A yK;split at h
 ·obtain⟨_,_,A,h⟩:=xg h A zP;obtain⟨_,_,A,h⟩:=xg h A qq;obtain⟨l,s3,K,hK,A,h⟩:=kj h A (zbu hR);obtain⟨_,_,A,h⟩:=xg h A zP;exact xy h A (zf6 hK) rfl
 obtain⟨_,_,A,h⟩:=xg h A yK;split at h
 ·obtain⟨_,_,A,h⟩:=xg h A qq;obtain⟨_,_,A,h⟩:=xg h A zP;obtain⟨k,_,_,⟨k1,rfl,hk1⟩,A,h⟩:=kj h A (hR.kind);obtain⟨_,_,A,h⟩:=xg h A zP;obtain⟨x,_,_,⟨k2,rfl,hk2⟩,A,h⟩:=kj h A (hR.expr);obtain⟨_,_,A,h⟩:=xg h A zP;exact xy h A (by simp[xF,yz,xd,List.range_succ,zS,hk1,hk2]) rfl
 obtain⟨_,_,A,h⟩:=xg h A yK;obtain⟨_,_,A,h⟩:=xg h A zP;obtain⟨_,_,A,h⟩:=xg h A qq;obtain⟨l,s3,K,hK,A,h⟩:=kj h A (zbu hR);obtain⟨b,_,_,⟨k2,rfl,hk2⟩,A,h⟩:=kj h A (hR.block);simp only[pS] at hk2;subst hk2;exact xy h A (VJ (.inr rfl) hK) rfl
theorem Kn{α:Type}{Q:List Nat->α->Prop}{vs:α->List Int}{m:PM α}(hm:∀E s,m E s=.bad 0):Fd Q vs m:=by
 intro E s a s' _ h;rw[hm] at h;cases h
theorem ZW:∀n,vT (jA n)
 |0=>⟨Kn fun _ _=>rfl,Kn fun _ _=>rfl,Kn fun _ _=>rfl,Kn fun _ _=>rfl,Kn fun _ _=>rfl,Kn fun _ _=>rfl,Kn fun _ _=>rfl⟩
 |n+1=>⟨zjF (ZW n),zb0 (ZW n),zfE (ZW n),zio (ZW n),zar (ZW n),zjr (ZW n),zdU (ZW n)⟩
end
theorem zcT{m:Nat}:∀(n:Nat) (E:zv) (s s':zY) (K:List Nat),s.next<=E.toks.length->WFs s->Sa ⟨[],[],0⟩ s s.items K->(∀k∈K,yN.item.is k=true)->qn (jA m) n E s=.ok () s'->∃K',Sa ⟨[],[],0⟩ s' s'.items K'/\∀k∈K',yN.item.is k=true
 |0,_,_,_,_,_,_,_,_,h=>by cases h
 |n+1,E,s,s',K,h0,hw,A,hK,h=>by
  unfold qn at h;split at h
  ·cases hm:jT (jA m) E s with
   |bad p=>rw[hm] at h;cases h
   |ok i s1=>
    rw[hm] at h;dsimp only at h;obtain⟨N,_⟩:=Yf (qX m) h0 hw hm;obtain⟨K1,B,k,rfl,hk⟩:=zjw (ZW m) E s i s1 A.fw hm;have C:=(A.cat B).tok (s1:={s1 with items:=s1.items ++ [i]}) rfl;refine zcT n E {s1 with items:=s1.items ++ [i]} s' (K ++ [k]) N.le N.wf (by have e:=N.it;simp only at e ⊢;exact C.tok rfl |> fun D=>(show s1.items ++ [i]=s.items ++ I1 i by rw[e];rfl)▸D) (fun j hj=>?_) h;rcases pX.1 hj with hj|hj
    ·exact hK j hj
    ·rw[wL] at hj;rw[hj];exact hk
  ·cases h;exact⟨K,A,hK⟩
theorem zh4(l:List Nd)(out:List Nat):∀(rk:List Int) (p:Int),(∀k∈rk,yN.item.is (zE l k)=true)->Vk l out rk p=ZM out rk p
 |[],p,_=>rfl
 |k :: r,p,h=>by
  unfold Vk ZM;by_cases hc:p<0\/k≠p
  ·rw[if_pos hc,if_pos (by omega)]
  ·have hk:k=p:=by omega
   have:=h k (List.mem_cons_self ..);rw[hk] at this;rw[if_neg hc,if_neg (by rw[this];simp;omega)];exact zh4 l out r _ fun j hj=>h j (pY _ hj)
theorem zic{l:List yp}{len:Nat}{s:zY}(h:xO l len=.ok () s):xL s.nodes s.nodes.length/\Vk s.nodes (jH s.nodes s.nodes.length) s.items.reverse ((s.nodes.length:Int)-1)=some (-1)/\∀x∈s.nodes,zaN s.nodes x=true:=by
 have F0:Fw ⟨[],[],0⟩:=⟨rfl,fun x hx=>by cases hx⟩;obtain⟨K,A,hK⟩:=zcT _ ⟨l,len⟩ _ s [] (pU _) (fun i x hx=>by simp at hx) (Sa.start F0) (fun k hk=>by cases hk) h;refine⟨A.fw.full,?_,A.fw.right⟩;rw[zh4]
 ·exact A.sg
 ·intro k hk;refine hK _ ?_;rw[<-A.kn];exact List.mem_map_of_mem (wY.1 hk)
theorem zeL{out:List Nat}:∀(rk:List Int) (p e:Int),(∀j:Nat,(j:Int)<=p->1<=out.getD j 0)->ZM out rk p=some e->(rk.length:Int)<=p+1\/rk=[]
 |[],_,_,_,_=>.inr rfl
 |k :: r,p,e,ho,h=>by
  unfold ZM at h;split at h
  ·cases h
  ·rename_i hc;have h1:=ho p.toNat (by omega);rcases zeL r _ e (fun j hj=>ho j (by omega)) h with h2|h2
   ·exact .inl (by simp only[pK];omega)
   ·exact .inl (by rw[h2];simp;omega)
theorem Yg{l:List Nd}(h:xL l l.length){x:Nd}(hx:x∈l):x.kids.length<=l.length:=by
 obtain⟨i,hi,rfl⟩:=List.mem_iff_getElem.1 hx;obtain⟨p,hp,_,_⟩:=qF h hi;rw[glE hi] at hp;simp only[Option.elim] at hp;have:=zeL _ _ p (fun j hj=>by
  obtain⟨q,_,h1,h2⟩:=qF h (i:=j) (by omega);omega) hp
 rw[gB] at this;rcases this with h|h
 ·omega
 ·rw[List.reverse_eq_nil_iff] at h;rw[h];exact pU _
structure GdT(t:yp):Prop where
 lo:0<=t.at_
 hi:t.at_<=3000
 num:t.kind=3->xR t.text<=1000000000
 spell:t.kind=1\/t.kind=2\/t.kind=4->(yV t.kind t.text).2=0
variable {E:zv}
section
variable {α β:Type}
def Nb(E:zv)(m:PM α):Prop:=∀(s:zY) (a:α) (s1:zY),(∀x∈s.nodes,qR x=true)->m E s=.ok a s1->∀x∈s1.nodes,qR x=true
theorem qf{m:PM α}{f:α->PM β}(h:Nb E m)(hf:∀a,Nb E (f a)):Nb E (m >>= f):=fun s b s2 h0 h1=>by
 obtain⟨a,s1,h2,h1⟩:=zm h1;exact hf a _ _ _ (h _ _ _ h0 h2) h1
theorem xS{a:α}:Nb E (pure a):=fun _ b s1 h0 h=>by
 obtain⟨rfl,rfl⟩:=zD h;exact h0
theorem jj:Nb E (kL:PM α):=fun _ _ _ _ h=>by cases h
theorem zhP{k:Nat}{x:List UInt8}{n q:Int}{ks:List Int}(h:qR ⟨k,x,n,[],q⟩=true):Nb E (zG k x n q ks):=fun _ a s1 h0 h1 y hy=>by
 cases h1;rcases pX.1 hy with hy|hy
 ·exact h0 y hy
 ·rw[wL] at hy;rw[hy];exact h
theorem QR{l:List (List UInt8)}{f:Bool->PM α}(h1:Nb E (f true))(h2:Nb E (f false)):Nb E (uU l >>= f):=fun s b s1 h0 h=>by
 change f (uq (zy E s) l) E s=_ at h;cases hw:uq (zy E s) l with
 |true=>rw[hw] at h;exact h1 _ _ _ h0 h
 |false=>rw[hw] at h;exact h2 _ _ _ h0 h
theorem kD{d:Prop}[Decidable d]{m m':PM α}(h1:Nb E m)(h2:Nb E m'):Nb E (if d then m else m'):=by
 split
 ·exact h1
 ·exact h2
theorem Ju{i:Int}{f:Nat->PM α}(h:∀k,Nb E (f k)):Nb E (YJ i >>= f):=fun s b s1 h0 h1=>h _ _ _ _ h0 h1
theorem kM(hE:∀t∈E.toks,GdT t){p:yp->Bool}{A:yp->PM α}{B:PM α}(hA:∀t,GdT t->p t=true->Nb E (A t))(hB:Nb E B)(hp:∀q,p ⟨0,[],q⟩=false:=by exact fun _=>rfl):Nb E (ZO p A B):=fun s a s1 h0 h=>by
 unfold ZO at h;split at h
 ·rename_i hk;refine hA _ ?_ hk {s with next:=s.next+1} _ _ h0 h;unfold zy at hk ⊢;cases ht:E.toks[s.next]? with
  |none=>rw[ht] at hk;rw[show (none:Option yp).getD ⟨0,[],E.len⟩=⟨0,[],E.len⟩ from rfl,hp] at hk;cases hk
  |some t=>exact hE t (wK ht)
 ·exact hB _ _ _ h0 h
theorem ze8{k:Nat}{x:List UInt8}{n:Int}{t:yp}(g:GdT t)(hn:(zQ k).1<=n/\n<=(zQ k).2)(hx:(xf k=0/\x=[])\/(xf k≠0/\(yV (xf k) x).2=0)):qR ⟨k,x,n,[],t.at_⟩=true:=by
 have h1:=g.lo;have h2:=g.hi;unfold qR;simp only;rw[if_neg (by omega)];rcases hx with⟨h3,h4⟩|⟨h3,h4⟩
 ·rw[if_pos (by rw[h3];rfl),h4];rfl
 ·rw[if_neg (by simpa using h3),h4];rfl
theorem jh{k:Nat}{n:Int}{t:yp}{ks:List Int}(g:GdT t)(h1:xf k=0:=by decide)(h2:(zQ k).1<=n/\n<=(zQ k).2:=by decide):Nb E (zG k [] n t.at_ ks):=zhP (ze8 g h2 (.inl ⟨h1,rfl⟩))
theorem Zw{k j:Nat}{n:Int}{t m:yp}{ks:List Int}(g:GdT t)(gm:GdT m)(hm:isK j m=true)(h1:xf k=j/\(j=1\/j=2\/j=4):=by decide)(h2:(zQ k).1<=n/\n<=(zQ k).2:=by decide):Nb E (zG k m.text n t.at_ ks):=by
 have hk:m.kind=j:=by simpa[isK] using hm
 refine zhP (ze8 g h2 (.inr ⟨by omega,?_⟩));rw[h1.1,<-hk];exact gm.spell (by rw[hk];exact h1.2)
end
structure NbR(E:zv)(R:xN):Prop where
 expr:Nb E R.expr
 unary:Nb E R.unary
 bin2:Nb E R.bin2
 block:Nb E R.block
 branch:Nb E R.branch
 kind:Nb E R.kind
 pattern:Nb E R.pattern
theorem zcH(hE:∀t∈E.toks,GdT t){part:PM Int}(hp:Nb E part):∀(k:Nat) (acc:List Int),Nb E (qm k part acc)
 |0,_=>fun _ _ _ _ h=>by cases h
 |k+1,acc=>by
  simp only[qm,xT];exact qf hp fun x=>kM hE (fun _ _ _=>zcH hE hp k _) xS
theorem um{k:Nat}{t m:yp}{ks:List Int}(g:GdT t)(gm:GdT m)(hm:isK 3 m=true)(h1:xf k=0:=by decide)(h2:zQ k=(0,1000000000)\/zQ k=(-1000000000,1000000000):=by decide):Nb E (zG k [] (vC m) t.at_ ks):=by
 have hn:=gm.num (by simpa[isK] using hm);exact jh g h1 (by unfold vC;rcases h2 with h|h <;> rw[h] <;> simp only <;> omega)
section
variable (hE:∀t∈E.toks,GdT t)
include hE
theorem qg{part:PM Int}(hp:Nb E part):Nb E (kC part):=zcH hE hp _ _
variable {R:xN} (hR:NbR E R)
include hR
theorem ZS:Nb E (jE R)/\Nb E (ul R)/\Nb E (Xa R)/\Nb E (Xb R)/\Nb E (vw R)/\Nb E (vG R)/\Nb E (xI R)/\Nb E (qh R):=by
 obtain⟨h1,h2,h3,h4,h5,h6,h7⟩:=hR;have qg:= @qg E hE;refine⟨?_,?_,?_,?_,?_,?_,?_,?_⟩
 all_goals
  try simp only[jE,ul,qk,Xa,Xb,vw,vG,xI,qh,yX,xA,xT,xm,jC,qi,qu,vf,qt,xB,if_true,if_false,Bool.false_eq_true]
  repeat' first|refine kM hE (fun _ _ _=>?_) ?_|exact jj|exact xS|exact jh (by assumption)|exact Zw (by assumption) (by assumption) (by assumption)|assumption|refine QR ?_ ?_|refine qg ?_|refine Ju fun _=>?_|refine kD ?_ ?_|refine qf ?_ fun _=>?_
 ·rename_i t g hm;exact um g g hm
 ·rename_i u g _ m gm hm;have:=gm.num (by simpa[isK] using hm);exact jh g rfl (by unfold vC;simp only[zQ];simp;omega)
theorem zeO:∀(n:Nat) (first:Bool) (acc:List Int),Nb E (qB R n first acc)
 |0,_,_=>xS
 |n+1,first,acc=>by
  simp only[qB,yX];exact qf (kD xS (kM hE (fun _ _ _=>xS) jj)) fun _=>qf hR.expr fun _=>zeO n false _
theorem JR:∀(k:Nat) (acc:List Int),Nb E (yR R k acc)/\∀E s a s1,yR R k acc E s=.ok a s1->a.2=0\/a.2=1
 |0,_=>⟨fun _ _ _ _ h=>(by cases h),fun _ _ _ _ h=>(by cases h)⟩
 |k+1,acc=>by
  have h1:=(ZS hE hR).2.2.2.2.1;have h2:=fun acc=>JR k acc
  refine⟨?_,fun E s a s1 h=>?_⟩
  ·simp only[yR,yX];exact QR (kD xS (qf h1 fun x=>QR (kD xS (kM hE (fun _ _ _=>(h2 _).1) jj)) (kD xS (kM hE (fun _ _ _=>(h2 _).1) jj)))) (kD xS (qf h1 fun x=>QR (kD xS (kM hE (fun _ _ _=>(h2 _).1) jj)) (kD xS (kM hE (fun _ _ _=>(h2 _).1) jj))))
  ·unfold yR at h;obtain⟨b,s2,_,h⟩:=zm h;split at h
   ·obtain⟨rfl,_⟩:=zD h;exact .inl rfl
   ·obtain⟨x,s3,_,h⟩:=zm h;obtain⟨c,s4,_,h⟩:=zm h;split at h
    ·obtain⟨rfl,_⟩:=zD h;exact .inr rfl
    ·obtain⟨_,s5,_,h⟩:=zm h;exact (h2 _).2 _ _ _ _ h
theorem zil:Nb E (qE R):=by
 try simp only[qE,yX,xA,xT,xm,jC,qi,qu,vf,qt,xB,if_true,if_false,Bool.false_eq_true]
 refine kM hE (fun t g _=>fun s b s2 h0 h1=>?_) jj;obtain⟨x,s1,h2,h1⟩:=zm h1;have hx:=(JR hE hR _ []).2 _ _ _ _ h2;have h3:=(JR hE hR _ []).1 _ _ _ h0 h2;have h4:(zQ 28).1<=x.2/\x.2<=(zQ 28).2:=by
  show (0:Int)<=x.2/\x.2<=1
  omega
 have h5:Nb E (ZO (isS [[125]]) (fun _=>zG 28 [] x.2 t.at_ x.1) kL):=kM hE (fun _ _ _=>jh g rfl h4) jj;exact h5 _ _ _ h3 h1
theorem zeH:∀(k:Nat) (acc:List Int),Nb E (jf R k acc)
 |0,_=>fun _ _ _ _ h=>by cases h
 |k+1,acc=>by
  have h1:=hR.expr;have h2:=fun acc=>zeH k acc
  try simp only[jf,yX,xA,xT,xm,jC,qi,qu,vf,qt,xB,if_true,if_false,Bool.false_eq_true]
  repeat' first|exact h2 _|refine kM hE (fun _ _ _=>?_) ?_|exact jj|exact xS|exact jh (by assumption)|exact Zw (by assumption) (by assumption) (by assumption)|assumption|refine qf ?_ fun _=>?_
theorem ze1:∀(k:Nat) (left:Int),Nb E (jL R k left)
 |0,_=>fun _ _ _ _ h=>by cases h
 |k+1,left=>by
  have h1:=hR.expr;have h2:=fun left=>ze1 k left
  have qg:= @qg E hE
  try simp only[jL,yX,xA,xT,xm,jC,qi,qu,vf,qt,xB,if_true,if_false,Bool.false_eq_true]
  repeat' first|exact h2 _|refine kM hE (fun _ _ _=>?_) ?_|exact jj|exact xS|exact jh (by assumption)|exact Zw (by assumption) (by assumption) (by assumption)|assumption|refine QR ?_ ?_|refine kD ?_ ?_|refine qg ?_|refine qf ?_ fun _=>?_
omit hR in
theorem zhI{tight:PM Int}(ht:Nb E tight)(lv:Nat)(hlv:lv<5):∀(k:Nat) (left:Int),Nb E (uR lv tight k left)
 |0,_=>fun _ _ _ _ h=>by cases h
 |k+1,left=>by
  simp only[uR,xm];refine kM hE (fun t g h=>qf ht fun r=>qf ?_ fun x=>kD xS (zhI ht lv hlv k _)) xS;have h1:∀j,j∈[8,9,10,11,12,13,14,15,16,17,18,19,20,21,22]->xf j=0/\(zQ j).1<=0/\0<=(zQ j).2:=by decide
  have h2:=h1 _ (zcA lv hlv _ (zh6 h));exact jh g h2.1 h2.2
omit hR in
theorem KX{tight:PM Int}(ht:Nb E tight)(lv:Nat)(hlv:lv<5:=by decide):Nb E (uy lv tight):=qf ht fun left=>zhI hE ht lv hlv _ _
theorem zfn:Nb E (vA R):=by
 have h1:=(ZS hE hR).1;have h2:=hR.kind;have qg:= @qg E hE
 try simp only[vA,yX,xA,xT,xm,jC,qi,qu,vf,qt,xB,if_true,if_false,Bool.false_eq_true]
 repeat' first|refine kM hE (fun _ _ _=>?_) ?_|exact jj|exact xS|exact jh (by assumption)|exact Zw (by assumption) (by assumption) (by assumption)|assumption|refine QR ?_ ?_|refine qg ?_|refine Ju fun _=>?_|refine kD ?_ ?_|refine qf ?_ fun _=>?_
theorem zem:Nb E (qP >>= fun t=>yA R t):=by
 have h0:Nb E (fun E s=>jf R (E.toks.length+1) [] E s):=zeH hE hR _ _;obtain⟨_,_,a3,a4,_,_,_,a8⟩:=ZS hE hR;have h8:=zfn hE hR;have um:=fun {k t m ks}=> @um E k t m ks
 have qg:= @qg E hE;obtain⟨h1,h2,h3,h4,h5,h6,h7⟩:=hR
 try simp only[yA,xQ,jP,yX,xA,xT,xm,jC,qi,qu,vf,qt,xB,if_true,if_false,Bool.false_eq_true]
 repeat' first|refine kM hE (fun _ _ _=>?_) ?_|exact jj|exact xS|exact jh (by assumption)|exact Zw (by assumption) (by assumption) (by assumption)|assumption|refine QR ?_ ?_|refine qg ?_|refine Ju fun _=>?_|refine kD ?_ ?_|refine qf ?_ fun _=>?_
 rename_i u g _ _ _ _ _ m gm hm _ _ _;exact um g gm hm
theorem zjI:Nb E (vB R):=by
 have h1:=hR.expr;have h2:=hR.unary;have h3:=fun n f acc=>zeO hE hR n f acc
 have h4:=zem hE hR;have um:=fun {k t m ks}=> @um E k t m ks
 have qg:= @qg E hE;have h5:∀t,isO t=true->xf ((xV t.text).getD (0,0)).1=0/\(zQ ((xV t.text).getD (0,0)).1).1<=0/\0<=(zQ ((xV t.text).getD (0,0)).1).2:=fun t ht=>by
  have hw:∀w∈zM,xf w.2.1=0/\(zQ w.2.1).1<=0/\0<=(zQ w.2.1).2:=by decide
  unfold isO xV at ht;unfold xV;cases hf:zM.find? (fun w=>w.1 == t.text) with
  |none=>rw[hf] at ht;simp at ht
  |some w=>exact hw w (List.mem_of_find?_eq_some hf)
 rw[zbE]
 try simp only[qk,jK,yX,xA,xT,xm,jC,qi,qu,vf,qt,xB,if_true,if_false,Bool.false_eq_true]
 repeat' first|exact h3 _ _ _|exact h4|refine kM hE (fun _ _ _=>?_) ?_|exact jj|exact xS|exact jh (by assumption)|exact Zw (by assumption) (by assumption) (by assumption)|exact um (by assumption) (by assumption) (by assumption)|assumption|exact jh (by assumption) (h5 _ (by assumption)).1 (h5 _ (by assumption)).2|refine qg ?_|refine kD ?_ ?_|refine qf ?_ fun _=>?_
theorem zbY:Nb E (jc R):=by
 try simp only[jc,yX,xA,xT,xm,jC,qi,qu,vf,qt,xB,if_true,if_false,Bool.false_eq_true]
 exact kM hE (fun t g h=>qf hR.unary fun _=>jh g) (qf (zjI hE hR) fun left=>ze1 hE hR _ _)
theorem zfD:Nb E (kP R):=by
 try simp only[kP,yX,xA,xT,xm,jC,qi,qu,vf,qt,xB,if_true,if_false,Bool.false_eq_true]
 exact kM hE (fun t g h=>qf hR.bin2 fun _=>jh g) (KX hE (KX hE (KX hE (zbY hE hR) 4) 3) 2)
theorem zju:Nb E (jT R):=by
 obtain⟨a1,a2,_,_,_,_,_,_⟩:=ZS hE hR;have h8:=zfn hE hR;have qg:= @qg E hE;obtain⟨h1,h2,h3,h4,h5,h6,h7⟩:=hR
 try simp only[jT,xQ,yX,xA,xT,xm,jC,qi,qu,vf,qt,xB,if_true,if_false,Bool.false_eq_true]
 repeat' first|refine kM hE (fun _ _ _=>?_) ?_|exact jj|exact xS|exact jh (by assumption)|exact Zw (by assumption) (by assumption) (by assumption)|assumption|refine QR ?_ ?_|refine qg ?_|refine Ju fun _=>?_|refine kD ?_ ?_|refine qf ?_ fun _=>?_
end
theorem zhy(hE:∀t∈E.toks,GdT t):∀n,NbR E (jA n)
 |0=>⟨fun _ _ _ _ h=>(by cases h),fun _ _ _ _ h=>(by cases h),fun _ _ _ _ h=>(by cases h),fun _ _ _ _ h=>(by cases h),fun _ _ _ _ h=>(by cases h),fun _ _ _ _ h=>(by cases h),fun _ _ _ _ h=>(by cases h)⟩
 |n+1=>by
  have hR:=zhy hE n;obtain⟨_,_,_,_,_,a6,a7,a8⟩:=ZS hE hR;exact⟨KX hE (KX hE (zfD hE hR) 1) 0,zbY hE hR,zfD hE hR,zil hE hR,a8,a6,a7⟩
theorem zcS(hE:∀t∈E.toks,GdT t){m:Nat}:∀k,Nb E (qn (jA m) k)
 |0=>fun _ _ _ _ h=>by cases h
 |k+1=>fun s a s1 h0 h=>by
  unfold qn at h;split at h
  ·cases hm:jT (jA m) E s with
   |bad p=>rw[hm] at h;cases h
   |ok i s2=>
    rw[hm] at h;have h3:=zju hE (zhy hE m) _ _ _ h0 hm;exact zcS hE k {s2 with items:=s2.items ++ [i]} _ _ h3 h
  ·cases h;exact h0
theorem za3{l:List yp}{len:Nat}{t:zY}(hl:∀x∈l,GdT x)(h:xO l len=.ok () t)(h1:t.nodes.length<=1000)(h2:t.items.length<=40)(h3:xJ ⟨t.nodes,t.items⟩<=40)(h4:∀x∈t.nodes,ye x=true):zR ⟨t.nodes,t.items⟩=0:=by
 obtain⟨hF,hI,hS⟩:=zic h;have hN:=zcS (E:=⟨l,len⟩) hl _ ⟨[],[],0⟩ _ _ (fun x hx=>by cases hx) h;have hf:qD ⟨t.nodes,t.items⟩=true:=by
  rw[Yy _ fun x hx=>pN (Yg hF hx) (by omega)];unfold YM;rw[hI];have hlen:=Ym t.nodes t.nodes.length;unfold xL at hF;simp only[pG,pO,pS];refine⟨?_,fun x hx=>?_,trivial⟩
  ·simp;omega
  ·have a:=hS x hx;have b:=hN x hx;unfold zaN xF at a;rw[ut] at b;simp only[pG,pO,List.mem_range,pH,wV,wF,pS,wT] at a;obtain⟨⟨⟨⟨a1,a2⟩,a3⟩,a4⟩,a5⟩:=a;have b0:=b;simp only[pG,pH] at b;obtain⟨⟨⟨b1,b2⟩,b3,b4⟩,b5⟩:=b;unfold yj;simp only[pG,pO,List.mem_range,pH];refine⟨⟨⟨⟨⟨⟨⟨a1,a2⟩,?_⟩,?_⟩,b3⟩,b4⟩,b5⟩,fun i hi=>?_⟩
   ·rcases a3 with e|e
    ·rw[e];exact pN (Yg (by unfold xL;exact hF) hx) (by omega)
    ·exact e
   ·by_cases hk:x.kind=28
    ·unfold xw;rw[hk];rcases a4 with (e|e)|e
     ·exact absurd hk e
     ·simp[e]
     ·simp[e.1,e.2]
    ·rw[<-uF _ _ _ hk];simp[b1,b2]
   ·have:=a5 i hi;have e:(x.kids.map (zE t.nodes)).getD i 0=zE t.nodes (x.kids.getD i 0):=by
     rw[pA,pZ,glE hi,pA,glE hi];rfl
    rw[e] at this;exact this
 unfold zR;rw[if_neg (by simp only;omega),hf,if_neg (by decide),if_neg (by omega),if_neg];simp only[gC,not_exists,not_and];intro x hx;rw[h4 x hx];decide
structure SR(s s':zY):Prop where
 nodes:s'.nodes.map qv=s.nodes.map qv
 items:s'.items=s.items
 next:s'.next=s.next
structure EB(E E':zv):Prop where
 le:E'.toks.length<=E.toks.length
 tok:∀i,i<E'.toks.length->∃k x q q',E.toks[i]? =some ⟨k,x,q⟩/\E'.toks[i]? =some ⟨k,x,q'⟩
variable {E E':zv} {st st0:Bool} {b:Nat}
section
variable {α β:Type}
def Go1(E E':zv)(st:Bool)(s s1:zY)(a:α)(x:qw α):Prop:=(∃s1',x=.ok a s1'/\SR s1 s1'/\s.next<=s1.next/\s1.next<=E'.toks.length)\/(E'.toks.length<E.toks.length/\(x=.bad E'.len\/(st=false/\∃a' s1',x=.ok a' s1'/\s1'.next=E'.toks.length)))
def Go0(E':zv)(st:Bool)(x:qw α):Prop:=x=.bad E'.len\/(st=false/\∃a s1,x=.ok a s1/\s1.next=E'.toks.length)
def Lk(E E':zv)(st:Bool)(b:Nat)(m m':PM α):Prop:=∀(s s':zY) (a:α) (s1:zY),SR s s'->s.next<=E'.toks.length->E'.toks.length-s.next<b->m E s=.ok a s1->Go1 E E' st s s1 a (m' E' s')
def En(E':zv)(st:Bool)(b:Nat)(m':PM α):Prop:=∀(s':zY),s'.next=E'.toks.length->0<b->Go0 E' st (m' E' s')
structure Sb(E E':zv)(b:Nat)(m m':PM α):Prop where
 lk:Lk E E' false b m m'
 en:En E' false b m'
theorem Yl{s:zY}(h:E.toks.length<=s.next):zy E s=⟨0,[],E.len⟩:=by
 unfold zy;rw[wP h];rfl
theorem Qa(hE:EB E E'){s s':zY}(hs:SR s s')(h:s.next<=E'.toks.length):(∃k x q q',zy E s=⟨k,x,q⟩/\zy E' s'=⟨k,x,q'⟩/\(k=0\/s.next<E'.toks.length))\/(E'.toks.length<E.toks.length/\s'.next=E'.toks.length):=by
 rcases Nat.lt_or_ge s.next E'.toks.length with h1|h1
 ·obtain⟨k,x,q,q',h2,h3⟩:=hE.tok _ h1;refine .inl ⟨k,x,q,q',?_,?_,.inr h1⟩
  ·unfold zy;rw[h2];rfl
  ·unfold zy;rw[hs.next,h3];rfl
 ·rcases Nat.lt_or_ge E'.toks.length E.toks.length with h2|h2
  ·exact .inr ⟨h2,by rw[hs.next];omega⟩
  ·exact .inl ⟨0,[],_,_,Yl (by omega),Yl (by rw[hs.next];omega),.inl rfl⟩
theorem Sb.mono{c:Nat}{m m':PM α}(h:Sb E E' b m m')(hc:c<=b):Sb E E' c m m':=⟨fun _ _ _ _ a1 a2 a3=>h.lk _ _ _ _ a1 a2 (by omega),fun _ a1 a2=>h.en _ a1 (by omega)⟩
theorem jO{m m':PM α}:Sb E E' 0 m m':=⟨fun _ _ _ _ _ _ h=>absurd h (wG _),fun _ _ h=>absurd h (Nat.lt_irrefl _)⟩
theorem vN{m m':PM α}{p:Int}(h:Sb E E' b m m'):Sb E E' b (fun _ _=>.bad p) m':=⟨fun _ _ _ _ _ _ _ h=>(by cases h),h.en⟩
variable {p:yp→Bool}
theorem QY{A':yp->PM α}{B':PM α}(e:En E' st b B')(hp:∀q,p ⟨0,[],q⟩=false:=by exact fun _=>rfl):En E' st b (ZO p A' B'):=fun s' h hb=>by
 unfold ZO;rw[Yl (by omega),hp];exact e _ h hb
theorem zfc(hE:EB E E'){A A':yp->PM α}{B B':PM α}(hA:∀k x q q',Lk E E' st (b-1) (A ⟨k,x,q⟩) (A' ⟨k,x,q'⟩))(hB:Lk E E' st b B B')(eB:En E' st b B')(hp:∀q,p ⟨0,[],q⟩=false:=by exact fun _=>rfl)
 (hq:∀k x q q',p ⟨k,x,q⟩=p ⟨k,x,q'⟩:=by exact fun _ _ _ _=>rfl) (h0:∀x q,p ⟨0,x,q⟩=false:=by exact fun _ _=>rfl):Lk E E' st b (ZO p A B) (ZO p A' B'):=fun s s' a s1 hs hn hb h=>by
 rcases Qa hE hs hn with⟨k,x,q,q',h1,h2,h3⟩|⟨h1,h2⟩
 ·unfold ZO at h ⊢;rw[h1] at h;rw[h2,hq k x q' q];cases hk:p ⟨k,x,q⟩ with
  |false=>
   rw[hk] at h;exact hB _ _ _ _ hs hn hb h
  |true=>
   rw[hk] at h;have h4:s.next<E'.toks.length:=by
    rcases h3 with rfl|h3
    ·rw[h0] at hk;cases hk
    ·exact h3
   rcases hA k x q q' {s with next:=s.next+1} {s' with next:=s'.next+1} _ _ ⟨hs.nodes,hs.items,by simp[hs.next]⟩ h4 (by simp only;omega) h with⟨s2,a1,a2,a3,a4⟩|h
   ·exact .inl ⟨s2,a1,a2,by simp only at a3;omega,a4⟩
   ·exact .inr h
 ·exact .inr ⟨h1,QY eB hp _ h2 (by omega)⟩
theorem uh(hE:EB E E'){A A':yp->PM α}{B B':PM α}(hA:∀k x q q',Sb E E' (b-1) (A ⟨k,x,q⟩) (A' ⟨k,x,q'⟩))(hB:Sb E E' b B B')(hp:∀q,p ⟨0,[],q⟩=false:=by exact fun _=>rfl)
 (hq:∀k x q q',p ⟨k,x,q⟩=p ⟨k,x,q'⟩:=by exact fun _ _ _ _=>rfl) (h0:∀x q,p ⟨0,x,q⟩=false:=by exact fun _ _=>rfl):Sb E E' b (ZO p A B) (ZO p A' B'):=⟨zfc hE (fun k x q q'=>(hA k x q q').lk) hB.lk hB.en hp hq h0,QY hB.en hp⟩
theorem zfz{m':PM α}{f':α->PM β}(e:En E' st0 b m')(ef:st0=false->∀a,En E' st b (f' a)):En E' st b (m' >>= f'):=fun s' h hb=>by
 rcases e _ h hb with h1|⟨h1,a,s1,h2,h3⟩
 ·exact .inl (vI h1)
 ·rw[zbD h2];exact ef h1 a _ h3 hb
theorem Jw{m m':PM α}{f f':α->PM β}(h:Lk E E' st0 b m m')(hf:∀a,Lk E E' st b (f a) (f' a))(ef:st0=false->∀a,En E' st b (f' a)):Lk E E' st b (m >>= f) (m' >>= f'):=fun s s' a s1 hs hn hb h0=>by
 obtain⟨x,s2,h1,h0⟩:=zm h0;rcases h _ _ _ _ hs hn hb h1 with⟨s2',a1,a2,a3,a4⟩|⟨h2,h3|⟨h3,y,s3,h4,h5⟩⟩
 ·rw[zbD a1];rcases hf x _ _ _ _ a2 a4 (by omega) h0 with⟨s3,b1,b2,b3,b4⟩|h
  ·exact .inl ⟨s3,b1,b2,pN a3 b3,b4⟩
  ·exact .inr h
 ·exact .inr ⟨h2,.inl (vI h3)⟩
 ·rw[zbD h4];exact .inr ⟨h2,ef h3 y _ h5 (by omega)⟩
theorem qd{m m':PM α}{f f':α->PM β}(h:Sb E E' b m m')(hf:∀a,Sb E E' b (f a) (f' a)):Sb E E' b (m >>= f) (m' >>= f'):=⟨Jw h.lk (fun a=>(hf a).lk) fun _ a=>(hf a).en,zfz h.en fun _ a=>(hf a).en⟩
theorem VM(hE:EB E E'){l:List (List UInt8)}{f f':Bool->PM α}(ht:Sb E E' b (f true) (f' true))(hf:Sb E E' b (f false) (f' false)):Sb E E' b (uU l >>= f) (uU l >>= f'):=by
 have e:En E' false b (uU l >>= f'):=fun s' h hb=>by
  show Go0 E' false (f' (uq (zy E' s') l) E' s')
  rw[Yl (by omega)];exact hf.en _ h hb
 refine⟨fun s s' a s1 hs hn hb h=>?_,e⟩;rcases Qa hE hs hn with⟨k,x,q,q',h1,h2,_⟩|⟨h1,h2⟩
 ·change f (uq (zy E s) l) E s=_ at h;show Go1 E E' false s s1 a (f' (uq (zy E' s') l) E' s')
  rw[h1] at h;rw[h2];change f (uq ⟨k,x,q'⟩ l) E s=_ at h;cases hk:uq ⟨k,x,q'⟩ l with
  |true=>rw[hk] at h;exact ht.lk _ _ _ _ hs hn hb h
  |false=>rw[hk] at h;exact hf.lk _ _ _ _ hs hn hb h
 ·exact .inr ⟨h1,e _ h2 (by omega)⟩
theorem qN{a:α}:Sb E E' b (pure a) (pure a):=⟨fun s s' a s1 hs hn hb h=>by
 obtain⟨rfl,rfl⟩:=zD h;exact .inl ⟨s',rfl,hs,pE _,hn⟩,fun s' h _=>.inr ⟨rfl,_,s',rfl,h⟩⟩
theorem zd0{k:Nat}{x:List UInt8}{n q q':Int}{ks:List Int}:Lk E E' st b (zG k x n q ks) (zG k x n q' ks):=fun s s' a s1 hs hn hb h=>by
 cases h;have hl:=congrArg List.length hs.nodes;rw[wV,wV] at hl;refine .inl ⟨{s' with nodes:=s'.nodes ++ [⟨k,x,n,ks,q'⟩]},by unfold zG;rw[hl],⟨?_,hs.items,hs.next⟩,pE _,hn⟩;simp only[List.map_append,hs.nodes];rfl
theorem uP{k:Nat}{x:List UInt8}{n q q':Int}{ks:List Int}:Sb E E' b (zG k x n q ks) (zG k x n q' ks):=⟨zd0,fun _ h _=>.inr ⟨rfl,_,_,rfl,h⟩⟩
theorem uK:En E' st b (kL:PM α):=fun s' h hb=>by
 unfold kL;rw[Yl (by omega)];exact .inl rfl
theorem Jv{m:PM α}:Lk E E' st b kL m:=fun _ _ _ _ _ _ _ h=>by cases h
theorem ku:Sb E E' b (kL:PM α) kL:=⟨Jv,uK⟩
theorem ug{c:Prop}[Decidable c]{m m' n n':PM α}(h:Sb E E' b m m')(k:Sb E E' b n n'):Sb E E' b (if c then m else n) (if c then m' else n'):=by
 split
 ·exact h
 ·exact k
theorem zaO{i:Int}{f f':Nat->PM α}(h:∀k,Sb E E' b (f k) (f' k)):Sb E E' b (YJ i >>= f) (YJ i >>= f'):=by
 refine⟨fun s s' a s1 hs hn hb h0=>?_,fun s' h0 hb=>(h _).en _ h0 hb⟩;have e:(s'.nodes[i.toNat]?).elim 0 Nd.kind=(s.nodes[i.toNat]?).elim 0 Nd.kind:=by
  have h1:=congrArg (fun l=>(l[i.toNat]?).elim 0 Nd.kind) hs.nodes;simp only[pZ] at h1;cases h2:s'.nodes[i.toNat]? <;> cases h3:s.nodes[i.toNat]? <;> rw[h2,h3] at h1 <;> exact h1
 show Go1 E E' false s s1 a (f' ((s'.nodes[i.toNat]?).elim 0 Nd.kind) E' s')
 rw[e];exact (h _).lk _ _ _ _ hs hn hb h0
theorem zkz(hE:EB E E'){f f':yp->PM α}(h:∀k x q q',Sb E E' b (f ⟨k,x,q⟩) (f' ⟨k,x,q'⟩)):Sb E E' b (qP >>= f) (qP >>= f'):=by
 have e:En E' false b (qP >>= f'):=fun s' h0 hb=>by
  show Go0 E' false (f' (zy E' s') E' s')
  rw[Yl (by omega)];exact (h 0 [] 0 _).en _ h0 hb
 refine⟨fun s s' a s1 hs hn hb h0=>?_,e⟩;rcases Qa hE hs hn with⟨k,x,q,q',h1,h2,_⟩|⟨h1,h2⟩
 ·change f (zy E s) E s=_ at h0;show Go1 E E' false s s1 a (f' (zy E' s') E' s')
  rw[h1] at h0;rw[h2];exact (h k x q q').lk _ _ _ _ hs hn hb h0
 ·exact .inr ⟨h1,e _ h2 (by omega)⟩
end
structure RB(E E':zv)(b:Nat)(R R':xN):Prop where
 expr:Sb E E' b R.expr R'.expr
 unary:Sb E E' b R.unary R'.unary
 bin2:Sb E E' b R.bin2 R'.bin2
 block:Sb E E' b R.block R'.block
 branch:Sb E E' b R.branch R'.branch
 kind:Sb E E' b R.kind R'.kind
 pattern:Sb E E' b R.pattern R'.pattern
 blockL:Lk E E' true b R.block R'.block
 blockE:En E' true b R'.block
variable {E E':zv} {b:Nat} {R R':xN}
section
variable (hE:EB E E')
include hE
theorem zcL{part part':PM Int}(hp:Sb E E' b part part'):∀(k' k c:Nat) (acc:List Int),c<=k'->c<=b->Sb E E' c (qm k part acc) (qm k' part' acc)
 |0,k,c,acc,h,_=>by
  obtain rfl:c=0:=by omega
  exact jO
 |k'+1,k,c,acc,h,hc=>by
  have hs:∀k,Sb E E' c (qm (k+1) part acc) (qm (k'+1) part' acc):=fun k=>by
   simp only[qm,xT];exact qd (hp.mono hc) fun x=>uh hE (fun _ _ _ _=>zcL hp k' k (c-1) _ (by omega) (by omega)) qN
  cases k with
  |zero=>exact vN (hs 0)
  |succ k=>exact hs k
omit hE in
theorem Sb.cut{α:Type}{m m':PM α}(h:Sb E E' (min b (E'.toks.length+1)) m m'):Sb E E' b m m':=⟨fun _ _ _ _ a1 a2 a3=>h.lk _ _ _ _ a1 a2 (by omega),fun _ a1 a2=>h.en _ a1 (by omega)⟩
omit hE in
theorem Sb.fuel{α:Type}{m m':zv->PM α}(h:Sb E E' (min b (E'.toks.length+1)) (m E) (m' E')):Sb E E' b (fun E s=>m E E s) (fun E s=>m' E E s):=Sb.cut ⟨fun s s' a s1=>h.lk s s' a s1,fun s'=>h.en s'⟩
theorem Zy{part part':PM Int}(hp:Sb E E' b part part'):Sb E E' b (kC part) (kC part'):=Sb.fuel (m:=fun E=>qm (E.toks.length+1) part []) (m':=fun E=>qm (E.toks.length+1) part' []) (zcL hE hp _ _ _ [] (by omega) (by omega))
end
section
variable (hE:EB E E') (hR:RB E E' b R R')
include hE hR
theorem ZT:Sb E E' b (jE R) (jE R')/\Sb E E' b (ul R) (ul R')/\Sb E E' b (Xa R) (Xa R')/\Sb E E' b (Xb R) (Xb R')/\Sb E E' b (vw R) (vw R')/\Sb E E' (b+1) (vG R) (vG R')/\Sb E E' (b+1) (xI R) (xI R')/\Sb E E' (b+1) (qh R) (qh R'):=by
 obtain⟨h1,h2,h3,h4,h5,h6,h7,_,_⟩:=hR;refine⟨?_,?_,?_,?_,?_,?_,?_,?_⟩
 all_goals
  try simp only[jE,ul,qk,Xa,Xb,vw,vG,xI,qh,yX,xA,xT,xm,jC,qi,qu,qt,xB,if_true,if_false,Bool.false_eq_true]
  repeat' first|refine uh hE (fun _ _ _ _=>?_) ?_|exact ku|exact uP|exact qN|(with_reducible refine Sb.mono (by assumption) ?_;omega)|refine VM hE ?_ ?_|refine Zy hE ?_|refine zaO fun _=>?_|refine ug ?_ ?_|refine qd ?_ fun _=>?_|exact Sb.mono (by assumption) (by omega)
theorem zeS:∀(n:Nat) (first:Bool) (acc:List Int),Sb E E' b (qB R n first acc) (qB R' n first acc)
 |0,_,_=>qN
 |n+1,first,acc=>by
  try simp only[qB,yX,xA,xT,xm,jC,qi,qu,qt,xB,if_true,if_false,Bool.false_eq_true]
  have h1:=hR.expr;have h2:=fun acc=>zeS n false acc
  repeat' first|exact h2 _|exact qN|exact ku|(with_reducible refine Sb.mono (by assumption) ?_;omega)|refine uh hE (fun _ _ _ _=>?_) ?_|refine ug ?_ ?_|refine qd ?_ fun _=>?_
theorem JS:∀(k' k c:Nat) (acc:List Int),c<=k'->c<=b->Sb E E' c (yR R k acc) (yR R' k' acc)
 |0,k,c,acc,h,_=>by
  obtain rfl:c=0:=by omega
  exact jO
 |k'+1,k,c,acc,h,hc=>by
  have hs:∀k,Sb E E' c (yR R (k+1) acc) (yR R' (k'+1) acc):=fun k=>by
   simp only[yR,yX];refine VM hE (ug qN ?_) (ug qN ?_) <;> exact qd ((ZT hE hR).2.2.2.2.1.mono hc) fun x=>VM hE (ug qN (uh hE (fun _ _ _ _=>JS k' k (c-1) _ (by omega) (by omega)) ku)) (ug qN (uh hE (fun _ _ _ _=>JS k' k (c-1) _ (by omega) (by omega)) ku))
  cases k with
  |zero=>exact vN (hs 0)
  |succ k=>exact hs k
theorem zeJ:∀(k' k c:Nat) (acc:List Int),c<=k'->c<=b->Sb E E' c (jf R k acc) (jf R' k' acc)
 |0,k,c,acc,h,_=>by
  obtain rfl:c=0:=by omega
  exact jO
 |k'+1,k,c,acc,h,hc=>by
  have h1:=hR.expr;have hs:∀k,Sb E E' c (jf R (k+1) acc) (jf R' (k'+1) acc):=fun k=>by
   have h2:=fun c acc h h'=>zeJ k' k c acc h h'
   try simp only[jf,yX,xA,xT,xm,jC,qi,qu,qt,xB,if_true,if_false,Bool.false_eq_true]
   repeat' first|exact qN|exact ku|exact h2 _ _ (by omega) (by omega)|(with_reducible refine Sb.mono (by assumption) ?_;omega)|refine uh hE (fun _ _ _ _=>?_) ?_|refine qd uP fun _=>?_|refine qd ?_ fun _=>?_
  cases k with
  |zero=>exact vN (hs 0)
  |succ k=>exact hs k
theorem ze3:∀(k' k c:Nat) (left:Int),c<=k'->c<=b+1->Sb E E' c (jL R k left) (jL R' k' left)
 |0,k,c,left,h,_=>by
  obtain rfl:c=0:=by omega
  exact jO
 |k'+1,k,c,left,h,hc=>by
  have h1:=hR.expr;have hs:∀k,Sb E E' c (jL R (k+1) left) (jL R' (k'+1) left):=fun k=>by
   have h2:=fun c left h h'=>ze3 k' k c left h h'
   try simp only[jL,yX,xA,xT,xm,jC,qi,qu,qt,xB,if_true,if_false,Bool.false_eq_true]
   repeat' first|exact qN|exact ku|exact h2 _ _ (by omega) (by omega)|(with_reducible refine Sb.mono (by assumption) ?_;omega)|refine uh hE (fun _ _ _ _=>?_) ?_|refine VM hE ?_ ?_|refine ug ?_ ?_|refine Zy hE ?_|refine qd uP fun _=>?_|refine qd ?_ fun _=>?_
  cases k with
  |zero=>exact vN (hs 0)
  |succ k=>exact hs k
omit hR in
theorem zhM{tight tight':PM Int}(ht:Sb E E' b tight tight')(lv:Nat):∀(k' k c:Nat) (left:Int),c<=k'->c<=b->Sb E E' c (uR lv tight k left) (uR lv tight' k' left)
 |0,k,c,left,h,_=>by
  obtain rfl:c=0:=by omega
  exact jO
 |k'+1,k,c,left,h,hc=>by
  have hs:∀k,Sb E E' c (uR lv tight (k+1) left) (uR lv tight' (k'+1) left):=fun k=>by
   simp only[uR,xm];exact uh hE (fun _ _ _ _=>qd (ht.mono (by omega)) fun r=>qd uP fun x=>ug qN (zhM ht lv k' k (c-1) _ (by omega) (by omega))) qN
  cases k with
  |zero=>exact vN (hs 0)
  |succ k=>exact hs k
omit hR in
theorem Va{tight tight':PM Int}(ht:Sb E E' b tight tight')(lv:Nat):Sb E E' b (uy lv tight) (uy lv tight'):=qd ht fun left=>Sb.fuel (m:=fun E=>uR lv tight (E.toks.length+1) left) (m':=fun E=>uR lv tight' (E.toks.length+1) left) (zhM hE ht lv _ _ _ left (by omega) (by omega))
theorem ziq:Sb E E' (b+1) (qE R) (qE R')/\Lk E E' true (b+1) (qE R) (qE R')/\En E' true (b+1) (qE R'):=by
 have h0:Sb E E' b (fun E s=>yR R (E.toks.length+1) [] E s) (fun E s=>yR R' (E.toks.length+1) [] E s):=Sb.fuel (m:=fun E=>yR R (E.toks.length+1) []) (m':=fun E=>yR R' (E.toks.length+1) []) (JS hE hR _ _ _ [] (by omega) (by omega))
 try simp only[qE,yX,xA,xT,xm,jC,qi,qu,qt,xB,if_true,if_false,Bool.false_eq_true]
 exact⟨uh hE (fun _ _ _ _=>qd h0 fun x=>uh hE (fun _ _ _ _=>uP) ku) ku,zfc hE (fun _ _ _ _=>Jw h0.lk (fun x=>zfc hE (fun _ _ _ _=>zd0) Jv uK) fun _ x=>QY uK) Jv uK,QY uK⟩
theorem zfp:Sb E E' (b+1) (vA R) (vA R'):=by
 have h1:=(ZT hE hR).1;have h2:=hR.kind
 try simp only[vA,yX,xA,xT,xm,jC,qi,qu,qt,xB,if_true,if_false,Bool.false_eq_true]
 repeat' first|refine uh hE (fun _ _ _ _=>?_) ?_|exact ku|exact uP|exact qN|(with_reducible refine Sb.mono (by assumption) ?_;omega)|refine VM hE ?_ ?_|refine Zy hE ?_|refine zaO fun _=>?_|refine ug ?_ ?_|refine qd ?_ fun _=>?_|exact Sb.mono (by assumption) (by omega)
theorem zeo(k:Nat)(x:List UInt8)(q q':Int):Sb E E' (b+1) (yA R ⟨k,x,q⟩) (yA R' ⟨k,x,q'⟩):=by
 have h0:Sb E E' b (fun E s=>jf R (E.toks.length+1) [] E s) (fun E s=>jf R' (E.toks.length+1) [] E s):=Sb.fuel (m:=fun E=>jf R (E.toks.length+1) []) (m':=fun E=>jf R' (E.toks.length+1) []) (zeJ hE hR _ _ _ [] (by omega) (by omega));obtain⟨_,_,a3,a4,_,_,_,a8⟩:=ZT hE hR;obtain⟨h1,h2,h3,h4,h5,h6,h7,_,_⟩:=hR;have h8:=zfp hE ⟨h1,h2,h3,h4,h5,h6,h7,by assumption,by assumption⟩
 try simp only[yA,xQ,jP,yX,xA,xT,xm,jC,qi,qu,qt,xB,if_true,if_false,Bool.false_eq_true]
 repeat' first|refine uh hE (fun _ _ _ _=>?_) ?_|exact ku|exact uP|exact qN|(with_reducible refine Sb.mono (by assumption) ?_;omega)|refine VM hE ?_ ?_|refine Zy hE ?_|refine zaO fun _=>?_|refine ug ?_ ?_|refine qd ?_ fun _=>?_|exact Sb.mono (by assumption) (by omega)
theorem zjL:Sb E E' (b+1) (vB R) (vB R'):=by
 have h1:=hR.expr;have h2:=hR.unary;have h3:=fun n f acc=>zeS hE hR n f acc
 rw[zbE,zbE];have h4:Sb E E' (b+1) (qP >>= fun t=>yA R t) (qP >>= fun t=>yA R' t):=zkz hE fun k x q q'=>zeo hE hR k x q q'
 try simp only[qk,jK,yX,xA,xT,xm,jC,qi,qu,qt,xB,if_true,if_false,Bool.false_eq_true]
 repeat' first|exact (h3 _ _ _).mono (by omega)|exact h4|exact uP|exact qN|exact ku|(with_reducible refine Sb.mono (by assumption) ?_;omega)|refine uh hE (fun _ _ _ _=>?_) ?_|refine Zy hE ?_|refine ug ?_ ?_|refine qd ?_ fun _=>?_
theorem zb1:Sb E E' (b+1) (jc R) (jc R'):=by
 have h0:=fun left=>Sb.fuel (m:=fun E=>jL R (E.toks.length+1) left) (m':=fun E=>jL R' (E.toks.length+1) left) (ze3 hE hR (E'.toks.length+1) (E.toks.length+1) (min (b+1) (E'.toks.length+1)) left (by omega) (by omega))
 try simp only[jc,yX,xA,xT,xm,jC,qi,qu,qt,xB,if_true,if_false,Bool.false_eq_true]
 exact uh hE (fun _ _ _ _=>qd (hR.unary.mono (by omega)) fun _=>uP) (qd (zjL hE hR) h0)
theorem zfF:Sb E E' (b+1) (kP R) (kP R'):=by
 try simp only[kP,yX,xA,xT,xm,jC,qi,qu,qt,xB,if_true,if_false,Bool.false_eq_true]
 exact uh hE (fun _ _ _ _=>qd (hR.bin2.mono (by omega)) fun _=>uP) (Va hE (Va hE (Va hE (zb1 hE hR) 4) 3) 2)
theorem zhx:RB E E' (b+1) (⟨zaj R,jc R,kP R,qE R,qh R,vG R,xI R⟩:xN) ⟨zaj R',jc R',kP R',qE R',qh R',vG R',xI R'⟩:=by
 obtain⟨_,_,_,_,_,a6,a7,a8⟩:=ZT hE hR;obtain⟨b1,b2,b3⟩:=ziq hE hR;exact⟨Va hE (Va hE (zfF hE hR) 1) 0,zb1 hE hR,zfF hE hR,b1,a8,a6,a7,b2,b3⟩
end
theorem zhz(hE:EB E E'):∀f' f:Nat,RB E E' f' (jA f) (jA (f'+1))
 |0,f=>⟨jO,jO,jO,jO,jO,jO,jO,fun _ _ _ _ _ _ h=>absurd h (wG _),fun _ _ h=>absurd h (Nat.lt_irrefl _)⟩
 |f'+1,f=>by
  have hs:∀f,RB E E' (f'+1) (jA (f+1)) (jA (f'+1+1)):=fun f=>zhx hE (zhz hE f' f)
  cases f with
  |succ f=>exact hs f
  |zero=>
   obtain⟨h1,h2,h3,h4,h5,h6,h7,h8,h9⟩:=hs 0;exact⟨vN h1,vN h2,vN h3,vN h4,vN h5,vN h6,vN h7,fun _ _ _ _ _ _ _ h=>(by cases h),h9⟩
variable {E E':zv} {b:Nat} {R R':xN}
section
variable {α:Type}
theorem Lk.mono{st:Bool}{c:Nat}{m m':PM α}(h:Lk E E' st b m m')(hc:c<=b):Lk E E' st c m m':=fun _ _ _ _ a1 a2 a3=>h _ _ _ _ a1 a2 (by omega)
theorem En.mono{st:Bool}{c:Nat}{m':PM α}(h:En E' st b m')(hc:c<=b):En E' st c m':=fun _ a1 a2=>h _ a1 (by omega)
theorem zjl{st:Bool}{a:α}:Lk E E' st b (pure a) (pure a):=fun s s' a s1 hs hn hb h=>by
 obtain⟨rfl,rfl⟩:=zD h;exact .inl ⟨s',rfl,hs,pE _,hn⟩
theorem XG{β:Type}{m m':PM α}{f f':α->PM β}(h:Sb E E' b m m')(hf:∀a,Lk E E' true b (f a) (f' a))(ef:∀a,En E' true b (f' a)):Lk E E' true b (m >>= f) (m' >>= f'):=Jw h.lk hf fun _=>ef
theorem zfd{β:Type}{m m':PM α}{f f':α->PM β}(h:Lk E E' true b m m')(hf:∀a,Lk E E' true b (f a) (f' a)):Lk E E' true b (m >>= f) (m' >>= f'):=Jw h hf fun h=>by cases h
end
theorem zjx(hE:EB E E')(hR:RB E E' b R R'):Lk E E' true (b+1) (jT R) (jT R'):=by
 obtain⟨a1,a2,_,_,_,_,_,_⟩:=ZT hE hR;have h8:=zfp hE hR;obtain⟨h1,_,_,_,_,h6,_,b2,b3⟩:=hR
 try simp only[jT,xQ,yX,xA,xT,xm,jC,qi,qu,qt,xB,if_true,if_false,Bool.false_eq_true]
 repeat' first|exact zd0|exact zjl|exact Jv|exact uK|exact b2.mono (by omega)|exact QY uK|exact QY (QY uK)|refine zfc hE (fun _ _ _ _=>?_) ?_ ?_|refine zfd (b2.mono (by omega)) fun _=>?_|refine XG (h8.mono (by omega)) (fun _=>?_) (fun _=>?_)|refine XG (h6.mono (by omega)) (fun _=>?_) (fun _=>?_)|refine XG (h1.mono (by omega)) (fun _=>?_) (fun _=>?_)|refine XG (Zy hE (a1.mono (by omega))) (fun _=>?_) (fun _=>?_)|refine XG (Zy hE (a2.mono (by omega))) (fun _=>?_) (fun _=>?_)|refine zfd ?_ fun _=>?_|refine QY ?_|exact zfz (b3.mono (by omega)) fun h=>by cases h
structure Bg(s s':zY):Prop where
 nodes:∃r,s.nodes.map qv=s'.nodes.map qv ++ r
 items:∃r,s.items=s'.items ++ r
theorem Bg.later{s s' t:zY}(h:Bg s s')(hn:∃r,t.nodes=s.nodes ++ r)(hi:∃r,t.items=s.items ++ r):Bg t s':=by
 obtain⟨⟨r,hr⟩,q,hq⟩:=h;obtain⟨r2,hr2⟩:=hn;obtain⟨q2,hq2⟩:=hi;exact⟨⟨r ++ r2.map qv,by rw[hr2,List.map_append,hr,wS]⟩,q ++ q2,by rw[hq2,hq,wS]⟩
theorem Kw{m:Nat}:∀(k:Nat) (E:zv) (s t:zY),s.next<=E.toks.length->WFs s->qn (jA m) k E s=.ok () t->(∃r,t.nodes=s.nodes ++ r)/\∃r,t.items=s.items ++ r
 |0,_,_,_,_,_,h=>by cases h
 |k+1,E,s,t,h0,hw,h=>by
  unfold qn at h;split at h
  ·cases hm:jT (jA m) E s with
   |bad p=>rw[hm] at h;cases h
   |ok i s1=>
    rw[hm] at h;dsimp only at h;obtain⟨N,_⟩:=Yf (qX m) h0 hw hm;obtain⟨⟨r,hr⟩,q,hq⟩:=Kw k E {s1 with items:=s1.items ++ [i]} t N.le N.wf h;obtain⟨r0,hr0⟩:=N.pre;exact⟨⟨r0 ++ r,by rw[hr];simp only[hr0,wS]⟩,[i] ++ q,by rw[hq];simp only[N.it,wS]⟩
  ·cases h;exact⟨⟨[],(wN _).symm⟩,[],(wN _).symm⟩
theorem zcU(hE:EB E E')(hn:E'.toks.length<=b){m:Nat}:∀(k' k:Nat) (s s' t:zY),SR s s'->s.next<=E'.toks.length->WFs s->E'.toks.length-s.next<k'->qn (jA m) k E s=.ok () t->
 (∃t',qn (jA (b+1)) k' E' s'=.ok () t'/\Bg t t'/\(E'.toks.length=E.toks.length->SR t t'))\/(E'.toks.length<E.toks.length/\qn (jA (b+1)) k' E' s'=.bad E'.len)
 |0,_,_,_,_,_,_,_,h,_=>absurd h (wG _)
 |k'+1,0,_,_,_,_,_,_,_,h=>by cases h
 |k'+1,k+1,s,s',t,hs,h0,hw,hk,h=>by
  rcases Nat.lt_or_ge s.next E'.toks.length with h1|h1
  ·have h2:s.next<E.toks.length:=wI h1 hE.le;have hRB:RB E E' b (jA m) (jA (b+1)):=zhz hE b m;unfold qn at h ⊢;rw[if_pos h2] at h;rw[if_pos (by rw[hs.next];exact h1)];cases hm:jT (jA m) E s with
   |bad p=>rw[hm] at h;cases h
   |ok i s1=>
    rw[hm] at h;dsimp only at h;obtain⟨N,_⟩:=Yf (qX m) (Nat.le_of_lt h2) hw hm;have hcr:=N.next;rcases zjx hE hRB _ _ _ _ hs h0 (by omega) hm with⟨s1',a1,a2,a3,a4⟩|⟨a1,a2|⟨a2,_⟩⟩
    ·rw[a1];dsimp only;have hlt:s.next<s1.next:=by
      have:=N.cr;have hp:s.nodes.length<=s1.nodes.length:=by obtain⟨r,hr⟩:=N.pre;rw[hr,pC];omega
      omega
     exact zcU hE hn k' k {s1 with items:=s1.items ++ [i]} {s1' with items:=s1'.items ++ [i]} t ⟨a2.nodes,by simp only[a2.items],a2.next⟩ a4 N.wf (by dsimp only;omega) h
    ·rw[a2];exact .inr ⟨a1,rfl⟩
    ·cases a2
  ·have e:qn (jA (b+1)) (k'+1) E' s'=.ok () s':=by
    unfold qn;rw[if_neg (by rw[hs.next];omega)]
   refine .inl ⟨s',e,?_,fun he=>?_⟩
   ·obtain⟨g1,g2⟩:=Kw _ _ _ _ (pN h0 hE.le) hw h;exact Bg.later ⟨⟨[],by rw[hs.nodes,wN]⟩,[],by rw[hs.items,wN]⟩ g1 g2
   ·unfold qn at h;rw[if_neg (by omega)] at h;cases h;exact hs
theorem Kg{l l':List yp}{len len':Nat}{t:zY}(hE:EB ⟨l,len⟩ ⟨l',len'⟩)(h:xO l len=.ok () t):(∃t',xO l' len'=.ok () t'/\Bg t t'/\(l'.length=l.length->SR t t'))\/(l'.length<l.length/\xO l' len'=.bad len'):=
 zcU hE (b:=l'.length) (pE _) _ _ _ _ _ ⟨rfl,rfl,rfl⟩ (pU _) (fun i x hx=>by simp at hx) (by simp) h
theorem zbK{out:List Nat}:∀(rk:List Int) (p e:Int),ZM out rk p=some e->e<=p/\∀k∈rk,e<=k-(out.getD k.toNat 0:Nat)/\k<=p/\0<=k
 |[],p,e,h=>by
  cases h;exact⟨Int.le_refl _,fun k hk=>by cases hk⟩
 |k :: r,p,e,h=>by
  unfold ZM at h;split at h
  ·cases h
  ·rename_i hc;have hk:k=p:=by omega
   obtain⟨h1,h2⟩:=zbK r _ e h;refine⟨by omega,fun j hj=>?_⟩;rcases wD.1 hj with rfl|hj
   ·rw[hk];exact⟨h1,Int.le_refl _,by omega⟩
   ·have:=h2 j hj;exact⟨this.1,by omega,this.2.2⟩
theorem zbJ{out:List Nat}:∀(rk:List Int) (p e:Int),ZM out rk p=some e->∀j,e<j->j<=p->∃k∈rk,k-(out.getD k.toNat 0:Nat)<j/\j<=k
 |[],p,e,h,j,h1,h2=>by
  cases h;omega
 |k :: r,p,e,h,j,h1,h2=>by
  unfold ZM at h;split at h
  ·cases h
  ·rename_i hc;have hk:k=p:=by omega
   by_cases hj:j<=p-(out.getD p.toNat 0:Nat)
   ·obtain⟨x,hx,h3⟩:=zbJ r _ e h j h1 hj;exact⟨x,pY _ hx,h3⟩
   ·exact⟨k,List.mem_cons_self ..,by rw[hk];omega,by omega⟩
def loN(l:List Nd)(i:Int):Int:=i-((jH l l.length).getD i.toNat 0:Nat)
theorem zbH{l:List Nd}(h:xL l l.length){i:Nat}(hi:i<l.length):ZM (jH l l.length) (l[i]'hi).kids.reverse ((i:Int)-1)=some (loN l i)/\loN l i<i:=by
 obtain⟨p,h1,h2,h3⟩:=qF h hi;rw[glE hi] at h1;have:loN l i=p:=by unfold loN;rw[wE];omega
 rw[this];exact⟨h1,h3⟩
theorem zlc{l:List Nd}(h:xL l l.length):∀(i:Nat),i<l.length->∀j:Int,loN l i<j->j<=i->loN l i<=loN l j:=by
 intro i;induction i using Nat.strongRecOn with
 |ind i ih=>
  intro hi j h1 h2;by_cases hj:j=i
  ·rw[hj];exact Int.le_refl _
  ·obtain⟨h3,_⟩:=zbH h hi;obtain⟨k,hk,h4,h5⟩:=zbJ _ _ _ h3 j h1 (by omega);obtain⟨h6,h7,h8⟩:=(zbK _ _ _ h3).2 k hk;obtain⟨n,rfl⟩:=pP h8;have h9:=ih n (by omega) (by omega) j h4 h5;have:loN l n=(n:Int)-((jH l l.length).getD ((n:Int).toNat) 0:Nat):=rfl;omega
theorem zlW{l:List Nd}(h:xL l l.length){i:Nat}(hi:i<l.length):∀k∈(l[i]'hi).kids,loN l i<k/\k<i/\loN l i<=loN l k:=by
 intro k hk;obtain⟨h3,_⟩:=zbH h hi;obtain⟨h6,h7,h8⟩:=(zbK _ _ _ h3).2 k (wY.2 hk);obtain⟨n,rfl⟩:=pP h8;have:=(zbH h (i:=n) (by omega)).2;have e:loN l n=(n:Int)-((jH l l.length).getD ((n:Int).toNat) 0:Nat):=rfl;omega
theorem zax(l:List Nd){out:List Nat}:∀(rk:List Int) (p e:Int),Vk l out rk p=some e->ZM out rk p=some e
 |[],p,e,h=>h
 |k :: r,p,e,h=>by
  unfold Vk at h;unfold ZM;split at h
  ·cases h
  ·rw[if_neg (by omega)];exact zax l r _ e h
theorem zgT(l:List Nd)(out:List Nat):∀(a b:List Int) (p:Int),Vk l out (a ++ b) p=(Vk l out a p).bind (Vk l out b)
 |[],b,p=>rfl
 |k :: a,b,p=>by
  show (if p<0\/k≠p\/yN.item.is (zE l p)=false then none else Vk l out (a ++ b) (p-(out.getD p.toNat 0:Nat)))=(if p<0\/k≠p\/yN.item.is (zE l p)=false then none else Vk l out a (p-(out.getD p.toNat 0:Nat))).bind (Vk l out b)
  by_cases h:p<0\/k≠p\/yN.item.is (zE l p)=false
  ·rw[if_pos h,if_pos h];rfl
  ·rw[if_neg h,if_neg h];exact zgT l out a b _
theorem ziK{l:List Nd}(h:xL l l.length){a q:List Int}(hI:Vk l (jH l l.length) (a ++ q).reverse ((l.length:Int)-1)=some (-1)):∃m:Nat,m<=l.length/\Vk l (jH l l.length) a.reverse ((m:Int)-1)=some (-1)/\(∀k∈q,(m:Int)<=k)/\(∀k∈a,k<(m:Int)/\0<=k)/\∀(i:Nat) (hi:i<l.length),m<=i->∀k∈(l[i]'hi).kids,(m:Int)<=k:=by
 rw[List.reverse_append,zgT] at hI;cases hq:Vk l (jH l l.length) q.reverse ((l.length:Int)-1) with
 |none=>rw[hq] at hI;cases hI
 |some e=>
  rw[hq] at hI;change Vk l (jH l l.length) a.reverse e=some (-1) at hI;have s1:=zax l _ _ _ hq;have s2:=zax l _ _ _ hI;obtain⟨h1,h2⟩:=zbK _ _ _ s1;obtain⟨h3,h4⟩:=zbK _ _ _ s2;refine⟨(e+1).toNat,by omega,by rw[show (((e+1).toNat:Nat):Int)-1=e by omega];exact hI,fun k hk=>?_,fun k hk=>?_,fun i hi hm k hk=>?_⟩
  ·obtain⟨h5,h6,h7⟩:=h2 k (wY.2 hk);obtain⟨n,rfl⟩:=pP h7;have:=(zbH h (i:=n) (by omega)).2;have e2:loN l n=(n:Int)-((jH l l.length).getD ((n:Int).toNat) 0:Nat):=rfl;omega
  ·obtain⟨h5,h6,h7⟩:=h4 k (wY.2 hk);omega
  ·obtain⟨x,hx,h5,h6⟩:=zbJ _ _ _ s1 i (by omega) (by omega);obtain⟨h7,h8,h9⟩:=h2 x hx;obtain⟨n,rfl⟩:=pP h9;have h10:=zlc h n (by omega) i h5 h6;have e2:loN l n=(n:Int)-((jH l l.length).getD ((n:Int).toNat) 0:Nat):=rfl;have:=(zlW h hi k hk).1;omega
def vP(l:List Nd)(i:Nat):List Int:=(l[i]?).elim [] Nd.kids
def jF(m:Nat)(d d':List Nat):Prop:=m<=d.length/\m<=d'.length/\∀j,j<m->d.getD j 0=d'.getD j 0
theorem jF.set{m:Nat}{d d':List Nat}(h:jF m d d')(i v:Nat):jF m (d.set i v) (d'.set i v):=by
 obtain⟨h1,h2,h3⟩:=h;refine⟨by rw[List.length_set];exact h1,by rw[List.length_set];exact h2,fun j hj=>?_⟩;have:=h3 j hj;simp only[pA,List.getElem?_set] at this ⊢;by_cases e:i=j
 ·rw[if_pos e,if_pos e,if_pos (by omega),if_pos (by omega)]
 ·rw[if_neg e,if_neg e];exact this
theorem jF.far{m:Nat}{d d':List Nat}(h:jF m d d')(i v:Nat)(hi:m<=i):jF m (d.set i v) d':=by
 obtain⟨h1,h2,h3⟩:=h;refine⟨by rw[List.length_set];exact h1,h2,fun j hj=>?_⟩;rw[<-h3 j hj,pA,pA,List.getElem?_set_ne (by omega)]
theorem Vc{m d0:Nat}:∀(r:List Int) (d d':List Nat),jF m d d'->jF m (xZ d0 r d) (xZ d0 r d')
 |[],_,_,h=>h
 |_ :: r,_,_,h=>Vc r _ _ (h.set _ _)
theorem zaw{m d0:Nat}:∀(r:List Int) (d d':List Nat),(∀k∈r,(m:Int)<=k)->jF m d d'->jF m (xZ d0 r d) d'
 |[],_,_,_,h=>h
 |k :: r,_,_,hr,h=>zaw r _ _ (fun j hj=>hr j (pY _ hj)) (h.far _ _ (by have:=hr k (List.mem_cons_self ..);omega))
theorem Jb{l l':List Nd}{m:Nat}(hk:∀i,i<m->vP l i=vP l' i):∀(i:Nat) (d d':List Nat) (a b:Nat),i<=m->jF m d d'->b<=a->vH l' i d' b<=vH l i d a
 |0,_,_,_,_,_,_,h=>h
 |i+1,d,d',a,b,hi,hd,h=>by
  unfold vH;have e:=hk i (by omega);unfold vP at e;rw[<-e,hd.2.2 i (by omega)];exact Jb hk i _ _ _ _ (by omega) (Vc _ _ _ hd) (by omega)
theorem Ja{l l':List Nd}{m:Nat}(hk:∀i,i<m->vP l i=vP l' i):∀(c:Nat) (d d':List Nat) (a b:Nat),(∀i,m<=i->i<m+c->∀k∈vP l i,(m:Int)<=k)->jF m d d'->b<=a->vH l' m d' b<=vH l (m+c) d a
 |0,d,d',a,b,_,hd,h=>Jb hk m d d' a b (pE _) hd h
 |c+1,d,d',a,b,hf,hd,h=>by
  show vH l' m d' b<=vH l (m+c) _ _
  exact Ja hk c _ _ _ _ (fun i h1 h2=>hf i h1 (by omega)) (zaw _ _ _ (hf (m+c) (by omega) (by omega)) hd) (by omega)
theorem Jf{m:Nat}:∀(a:List Int) (d d':List Nat),jF m d d'->jF m (a.foldl (fun (d:List Nat) k=>d.set k.toNat 1) d) (a.foldl (fun (d:List Nat) k=>d.set k.toNat 1) d')
 |[],_,_,h=>h
 |_ :: a,_,_,h=>Jf a _ _ (h.set _ _)
theorem Je{m:Nat}:∀(a:List Int) (d d':List Nat),(∀k∈a,(m:Int)<=k)->jF m d d'->jF m (a.foldl (fun (d:List Nat) k=>d.set k.toNat 1) d) d'
 |[],_,_,_,h=>h
 |k :: a,_,_,ha,h=>Je a _ _ (fun j hj=>ha j (pY _ hj)) (h.far _ _ (by have:=ha k (List.mem_cons_self ..);omega))
theorem YN{l l':List Nd}{a q:List Int}(hk:∀i,i<l'.length->vP l i=vP l' i)(hl:l'.length<=l.length)(hq:∀k∈q,(l'.length:Int)<=k)(hf:∀i,l'.length<=i->i<l.length->∀k∈vP l i,(l'.length:Int)<=k):xJ ⟨l',a⟩<=xJ ⟨l,a ++ q⟩:=by
 unfold xJ;simp only;obtain⟨c,hc⟩:=Nat.le.dest hl;rw[<-hc];refine Ja hk c _ _ _ _ (fun i h1 h2=>hf i h1 (by omega)) ?_ (pE _);rw[List.foldl_append];refine Je _ _ _ hq (Jf _ _ _ ⟨by simp,by simp,fun j hj=>?_⟩);simp only[pA,List.getElem?_replicate];rw[if_pos (by omega),if_pos hj]
end Lode
