/-
  A part of the proof: contracts of functions; no conditions.
-/
import Derived.Test.YtcagibbaeageoaaGreatDoorUE
import Derived.Test.YtcagibbaeageoaaGreatDoorUH
import Derived.Recover
set_option maxRecDepth 100000
set_option maxHeartbeats 40000000
set_option linter.unusedSimpArgs false
set_option linter.unusedVariables false
namespace Go.Proofs.YtcagibbaeageoaaGreatDoor
section
open Go.RowKit Lode Go.Shelf
attribute [local go_sem ↓] Go.wp_at_zero Go.wp_at_succ
open Go.Proofs.Tryz
theorem ZQ{w:World}{B n:Nat}{v:Value}{xs:List Value}(h:w.ownsRow B 3 1 v n xs){k:Nat}{cs:Array Value}{T:TypeId}{fr:Nat×Nat}(hk:w.heap[k]? =some (.cells cs T fr))(hT:T≠3):v.ownBlock≠some k:=fun e=>by
 obtain⟨cs',hh⟩:=Kn h e;rw[hk] at hh;cases hh;exact hT rfl
theorem PW.addItem{E:zN}{base pb:Nat}{iv:Value}{G G':Nat→Prop}{w w':World}{st:yD}(h:PW E base pb iv G w st){x:Int}{g' cap':Nat}(hrow:w'.ownsRow base 3 1 (.slice (some ⟨g',0,none⟩) (st.items.length+1) cap') (st.items.length+1) (yH st.items ++ [.int .i64 x]))(hg:w.grownBy w' iv.ownBlock)(hg':iv.ownBlock=some g'∨g'=w.heap.size)(hG:∀g,iv.ownBlock=some g→G g)(hG2:∀g,G' g→G g∨g=g'):
 PW E base pb (.slice (some ⟨g',0,none⟩) (st.items.length+1) cap') G' (w'.setCell ⟨pb,1,none⟩ (.slice (some ⟨g',0,none⟩) (st.items.length+1) cap')) {st with items:=st.items ++ [x]}∧w'.cell? ⟨pb,1,none⟩=some iv∧w'.frozen? ⟨pb,1,none⟩=false∧Below base w w':=by
 have hbase:=h.base;obtain⟨nv,tv,s,kv,P,hK,hL⟩:=h;have hpb:=ZQ P.items P.obj (by decide);have hB:Below base w w':=(Below.refl base w).grown hg hbase (fun k hk=>(P.items.lt k hk).1);have hobj:w'.heap[pb]? =some (.cells #[nv,iv,.string s,tv,.int .i64 st.next] 100 (0,0)):=by
  rw[hg.block pb (gtA P.obj) (fun e=>hpb e.symm)];exact P.obj
 have F:=zbw (w:=w') P.hpb hobj 1 (.slice (some ⟨g',0,none⟩) (st.items.length+1) cap');refine⟨⟨nv,tv,s,kv,⟨P.hpb,zw hobj 1 _,P.len,P.toks.fr (hB.trans F.b),?_,P.kvl,fun j y u hy hu=>?_,?_⟩,fun u hu g hgb e=>?_,fun g e=>?_⟩,zf hobj 1,zr hobj 1,hB⟩
 ·have hn:w'.ownsRow base 60 5 nv st.nodes.length (qN st.nodes kv):=by
   refine World.ownsRow.kept P.nodes hg ?_;obtain⟨_,⟨hnv,_⟩|⟨g,cap,cur,hnv,_,hh,_⟩⟩:=P.nodes
   ·exact .inl (by rw[hnv];rfl)
   ·refine .inr (fun e=>?_);rw[hnv] at e;exact ZQ P.items hh (by decide) e.symm
  exact ownsRow_setCell_other hn (Kl (cs:=[nv,iv,.string s,tv,.int .i64 st.next]) hn hobj) _
 ·have hk:=P.kids j y u hy hu;have hm:u∈kv:=List.mem_of_getElem? hu;refine KS.fri (w:=w') ?_ F.i;obtain⟨p,cap,rfl,hk2⟩:=id hk;refine⟨p,cap,rfl,?_⟩;rcases hk2 with h0|⟨g,off,cs,fr,rfl,hh,hc⟩
  ·exact .inl h0
  ·by_cases h0:y.kids=[]
   ·exact .inl h0
   ·refine .inr ⟨g,off,cs,fr,rfl,?_,hc⟩;have hb:qD (.slice (some ⟨g,off,none⟩) y.kids.length (y.kids.length+cap))=some g:=by
     cases hl:y.kids.length with
     |zero=>exact absurd (List.eq_nil_of_length_eq_zero hl) h0
     |succ m=>rfl
    rw[hg.block g (gtA hh) (fun e=>hK _ hm g hb (hG g e.symm))];exact hh
 ·have:=ownsRow_setCell_other hrow (a:=⟨pb,1,none⟩) (ZQ hrow hobj (by decide)) (.slice (some ⟨g',0,none⟩) (st.items.length+1) cap');simp only[List.length_append,List.length_singleton,yH,List.map_append,List.map_cons,List.map_nil];exact this
 ·rcases hG2 g e with h1|rfl
  ·exact hK u hu g hgb h1
  rcases hg' with h2|h2
  ·exact hK u hu _ hgb (hG _ h2)
  ·obtain⟨j,hj,rfl⟩:=List.mem_iff_getElem.1 hu;have hx:st.nodes[j]? =some (st.nodes[j]'(by rw[←P.kvl];exact hj)):=glE _;obtain⟨cs,fr,hh⟩:=ZY (P.kids j _ _ hx (glE hj)) hgb;have:=(gtA hh);omega
 ·rcases hG2 g e with h1|rfl
  ·have:=Nat.lt_of_lt_of_le (hL g h1) hg.size;simpa using this
  have:=(hrow.lt g rfl).2;simpa using this
def ziZ(base pb:Nat):LodeX.Rel:=⟨fun a b=>Below base a b∧b.cell? ⟨pb,1,none⟩=a.cell? ⟨pb,1,none⟩,fun w=>⟨Below.refl _ w,rfl⟩,fun h k=>⟨h.1.trans k.1,k.2.trans h.2⟩,Eq,fun _=>rfl,Eq.trans,fun h=>h▸⟨Below.refl _ _,rfl⟩⟩
theorem PW.iv{E:zN}{base pb:Nat}{iv:Value}{G:Nat→Prop}{w:World}{st:yD}(h:PW E base pb iv G w st):w.cell? ⟨pb,1,none⟩=some iv:=by
 obtain⟨nv,tv,s,kv,P,_,_⟩:=h;exact P.cells.2.1
theorem PW.tk{E:zN}{base pb:Nat}{iv:Value}{G:Nat→Prop}{w:World}{st:yD}(h:PW E base pb iv G w st):∃p cap,w.cell? ⟨pb,3,none⟩=some (.slice p E.toks.length cap)∧w.cell? ⟨pb,4,none⟩=some (.int .i64 st.next):=by
 obtain⟨nv,tv,s,kv,P,_,_⟩:=h;obtain⟨p,cap,rfl,_⟩:=P.toks;exact⟨p,cap,P.cells.2.2.2.1,P.cells.2.2.2.2.1⟩
theorem PW.its{E:zN}{base pb:Nat}{iv:Value}{G:Nat→Prop}{w:World}{st:yD}(h:PW E base pb iv G w st):w.ownsRow base 3 1 iv st.items.length (yH st.items):=by
 obtain⟨nv,tv,s,kv,P,_,_⟩:=h;exact P.items
def Gi(H:Nat→Prop)(iv:Value):Nat→Prop:=fun g=>H g∨iv.ownBlock=some g
def zgC(E:zN)(base pb:Nat)(H:Nat→Prop)(R:xD)(w:World)(r:qn Unit)(wr:World):Prop:=∃iv st k,uk R k E st=r∧E.toks.length-st.next<k∧st.items.length≤st.next∧xX E st∧PW E base pb iv (Gi H iv) wr st∧Below base w wr
def zhz(E:zN)(base pb:Nat)(H:Nat→Prop)(w:World)(r:qn Unit)(e:Ending)(w':World):Prop:=match r with
 | .ok _ st'=>e=.returned (.tuple #[])∧(∃iv,PW E base pb iv (Gi H iv) w' st')∧Below base w w'
 | .bad p=>e=Pan p∧Below base w w'
theorem VF{E:zN}{base pb n:Nat}{H:Nat→Prop}{R:xD}(hR:∀iv,jn E base pb iv n R)(hn:E.toks.length<n+1){iv:Value}{w:World}{st0:yD}(h0:PW E base pb iv (Gi H iv) w st0)(ok0:xX E st0)(hit:st0.items.length≤st0.next)(k0:Nat)(hk0:E.toks.length-st0.next<k0):Calls prog 81 #[.pointer (some ⟨pb,0,none⟩)] w (zhz E base pb H w (uk R k0 E st0)):=by
 obtain⟨r,hr⟩:=exE (uk R k0 E st0);rw[hr];have hlim:=ok0.lim;have hst:zgC E base pb H R w r w:=⟨iv,st0,k0,hr,hk0,hit,ok0,h0,Below.refl _ _⟩;replace hst:=zj hst;clear hr h0 ok0 hit hk0;go_enter func81,ntmps81;go_wp2_with fail;go_loopw [] (fun wr=>zgC E base pb H R w r wr) (fun wr=>E.toks.length+1-yX pb wr)
 case atStart=>exact hst.out
 case round=>
  obtain⟨iv1,st1,k,hr,hk,hit,ok1,h1,B1⟩:=hrel;obtain⟨k,rfl⟩:∃m,k=m+1:=⟨k-1,by omega⟩;unfold uk at hr;have hle1:=ok1.le;obtain⟨tp,tc,c3,c4⟩:=h1.tk;replace ok1:=zj ok1;obtain⟨m,hm⟩:=exE (E.toks.length);rw[hm] at c3;by_cases hlt:st1.next<E.toks.length
  ·rw[if_pos hlt] at hr;have hlt':(st1.next:Int)<(m:Int):=by omega
   replace hr:=zj hr;have Hm:=zj hm;clear hm;go_wp2_with fail;go_quiet (fail);go_wp2_with fail;generalize hw2:World.drewN wr _=w2;have hb2:Below wr.heap.size wr w2:=hw2▸ye bR _;have h2:=(h1.below hb2).below (Below.refl _ w2).drew;have B2:Below base w w2.drew:=(B1.trans (hb2.mono h1.base)).trans ((Below.refl _ w2).drew.mono (h1.below hb2).base);have hS:∀W,(ziZ base pb).rel w2.drew W→W.cell? ⟨pb,1,none⟩=some iv1:=fun W h=>h.2.trans h2.iv
   have hitl:=zj h2.its;clear c3 c4 hw2;refine LodeX.zo (RR:=ziZ base pb) (Xp:=fun c W=>∃p,r=.bad p∧c=[{v:=.iface 102 (.agg #[.int .i64 p]),recovered:=false}]∧Below base w W) [(0,0),(1,0),(2,0),(3,0),(4,0),(5,1),(6,0),(7,2),(8,2),(9,2),(10,0),(11,0),(12,0),(13,3)] (by kernel_rfl) (by kernel_rfl) ?hX ?_
   case hX=>
    rintro c a W hd ⟨p,hrp,rfl,hb⟩;subst hrp;go_wp2_with fail;exact⟨hd,rfl,hb⟩
   iterate 7 ((first|refine LodeX.zl rfl (by rfl) (by decide) ?_|(apply LodeX.zk rfl (by rfl);· (intro w';go_simp;first|done|with_reducible rfl|(rw[if_neg (by first|omega|(simp;omega))];try with_reducible rfl)))|(apply LodeX.zt hS rfl (by rfl);· (intro w' hw';go_split_ands;go_simp;try with_reducible rfl))|fail);simp only[Act.put,zD,lsZ,lsS])
   refine LodeX.zq rfl (by rfl) (fun K hK W hW=>?_);cases hW;go_simp;refine ((zew (hR iv1)) _ _ _ h2 ok1.out (by omega)).mono ?_;rintro e w3 hp;rcases hp.cases with⟨p,hm3,he,hb⟩|⟨x3,st3,hm3,v,rfl,hv,h3,f3⟩
   ·unfold Pan at he;subst he;have hr2:=hr.out;rw[hm3] at hr2;exact⟨rfl,p,hr2.symm,rfl,B2.trans hb⟩
   have hr3:uk R k E {st3 with items:=st3.items ++ [x3]}=r:=by
    have:=hr.out;rw[hm3] at this;exact this
   replace hr:=zj hr3;clear hr3;obtain⟨n3,vd3⟩:=V3 (hR iv1).good ok1.out.le ok1.out.wf hm3;have ok3:=ok1.out.nx n3 (by decide);have hle3:=ok3.le;have hit3:=zj n3.it;have ha3:st1.next<st3.next:=by
    have h4:=n3.cr;obtain⟨r3,h5⟩:=n3.pre;have h6:=congrArg List.length h5;rw[List.length_append] at h6;omega
   have B3:=B2.trans f3.b;have hbs3:=h3.base;have hsz:st3.items.length≤1200:=by rw[hit3.out];omega
   refine⟨⟨f3.b,h3.iv.trans h2.iv.symm⟩,hK _ _ ?_⟩;clear hK K;unfold yI at hv;subst hv
   try simp only[Act.put,zD,lsZ,lsS]
   refine LodeX.zq rfl (by rfl) (fun K hK W hW=>?_);cases hW;go_simp;refine⟨⟨(zg _ _).mono h3.base,(zh (zg _ _) h3.iv).trans h3.iv.symm⟩,hK _ _ ?_⟩;clear hK K
   try simp only[Act.put,zD,lsZ,lsS]
   refine LodeX.zq rfl (by rfl) (fun K hK W hW=>?_);cases hW;refine jp _ _ rfl (by rfl) (zC h3.its (zg _ _)) (by rfl) (zf (zm w3 _) 0) rfl rfl (by omega) (by simp;omega) ?_;intro g' cap' w4 hrow hgrow hg';obtain⟨h4,c4,f4,B4⟩:=(h3.below (zg _ _)).addItem (G':=Gi H (.slice (some ⟨g',0,none⟩) (st3.items.length+1) cap')) hrow hgrow hg' (fun g hg=>.inr hg) (fun g hg=>hg.elim (fun h=>.inl (.inl h)) (fun h=>.inr (Option.some.inj h).symm));refine⟨⟨B4,c4.trans (zh (zg _ _) h3.iv).symm⟩,hK _ _ ?_⟩;clear hK K hS;replace B4:=zj ((B3.trans ((zg _ _).mono h3.base)).trans B4);replace h4:=zj h4;clear hrow hgrow hg'
   try simp only[Act.put,zD,lsZ,lsS]
   iterate 3 ((first|refine LodeX.zl rfl (by rfl) (by decide) ?_|(apply LodeX.zk rfl (by rfl);· (intro w';go_simp;first|done|with_reducible rfl|(rw[if_neg (by first|omega|(simp;omega))];try with_reducible rfl)))|(apply LodeX.zt hS rfl (by rfl);· (intro w' hw';go_split_ands;go_simp;try with_reducible rfl))|fail);simp only[Act.put,zD,lsZ,lsS])
   refine LodeX.vJ rfl (by rfl) (fun W hW=>?_);cases hW;go_simp;refine LodeX.uJ ?_;go_wp2_with fail;have h5:=h4.out;go_roundw
   case rel=>exact⟨_,_,k,hr.out,by simp only;omega,by simp only[List.length_append,List.length_singleton];rw[hit3.out];omega,⟨ok3.le,ok3.wf,ok3.few,ok3.lim⟩,h5,B4.out.setCell (by obtain⟨_,_,_,_,P,_⟩:=h3;exact P.hpb) _⟩
   case measure=>
    rw[h5.yX,h1.yX];simp only;omega
  ·rw[if_neg hlt] at hr;have hlt':¬((st1.next:Int)<(m:Int)):=by omega
   subst hr;clear hm;go_wp2_with fail;go_quiet (fail);go_wp2_with fail;go_end0;exact⟨rfl,⟨iv1,h1.below (ye bR _)⟩,B1.trans ((ye bR _).mono h1.base)⟩
def zeY(N K:Nat):LodeX.Rel:=⟨fun a b=>Below N a b∧b.heap[K]? =a.heap[K]?,fun w=>⟨Below.refl _ w,rfl⟩,fun h k=>⟨h.1.trans k.1,k.2.trans h.2⟩,Eq,fun _=>rfl,Eq.trans,fun h=>h▸⟨Below.refl _ _,rfl⟩⟩
structure FsB(w:World)(N:Nat)(a b:Value)(p:Int)(k:Bool):Prop where
 t:w.heap[N]? =some (.cells #[a,b] 26 (0,0))
 p:w.heap[N+1]? =some (.cells #[.int .i64 p] 3 (0,0))
 k:w.heap[N+2]? =some (.cells #[.bool k] 4 (0,0))
theorem zah(N:Nat)(w:World):CallsD prog 80 #[.pointer (some ⟨N,0,none⟩),.pointer (some ⟨N+1,0,none⟩),.pointer (some ⟨N+2,0,none⟩)] .returning w fun e u' w'=>e=.returned (.tuple #[])∧u'=.returning∧w'=w:=by
 refine callsD_of_wpS func80 rfl fun c₀ cs hu=>?_
 apply wpS_seq;apply wpS_region;simp[wpOpsS,go_sem,recoverD,hu,ntmps80,Exit.thenS];refine wpS_of_wp ?_;go_wp2_with fail;refine⟨rfl,.returning,?_,.tuple #[],results_none rfl _ _ _,rfl,rfl,rfl⟩;cases c₀
 simp_all
theorem QZ(N:Nat)(p p0:Int)(a0 b0:Value)(kb:Bool)(w:World)(h:FsB w N a0 b0 p0 kb):CallsD prog 80 #[.pointer (some ⟨N,0,none⟩),.pointer (some ⟨N+1,0,none⟩),.pointer (some ⟨N+2,0,none⟩)] (.panicking [{v:=.iface 102 (.agg #[.int .i64 p]),recovered:=false}]) w fun e u' w'=>e=.returned (.tuple #[])∧u'=.panicking [{v:=.iface 102 (.agg #[.int .i64 p]),recovered:=true}]∧FsB w' N (.slice none 0 0) (.slice none 0 0) p false∧Below N w w':=by
 refine callsD_of_wpS func80 rfl fun c₀ cs hu=>?_
 apply wpS_seq;apply wpS_region;simp[wpOpsS,go_sem,recoverD,hu,ntmps80,Exit.thenS];refine wpS_of_wp ?_;have hl1:N<w.heap.size:=(gtA h.t);have hl2:N+1<w.heap.size:=(gtA h.p);have hl3:N+2<w.heap.size:=(gtA h.k);have hb:=(zg w (.cells #[.int .i64 p] 102 (0,0))).drew;have hz:=zi bR.drew (zm w (.cells #[.int .i64 p] 102 (0,0)));have hS:∀W,(zeY N w.heap.size).rel (w.alloc (.cells #[.int .i64 p] 102 (0,0))).drew W→W.cell? ⟨w.heap.size,0,none⟩=some (.int .i64 p):=fun W hC=>zf (hC.2.trans hz) 0
 have H:=zj h;clear h hz;have hta:∀W,(Instr.typeAssert (.iface 102 (.agg #[.int .i64 p])) 20 102 true).run prog W=.ok (.tuple #[.agg #[.int .i64 p],.bool true]) W:=fun W=>by kernel_rfl
 simp only[Array.replicate_succ,Array.replicate_zero,List.push_toArray,List.append_toArray,List.nil_append,List.cons_append,zD,lsZ,lsS];go_wp2_with fail;refine LodeX.zo (RR:=zeY N w.heap.size) (Xp:=fun _ _=>False) [(0,0),(1,0),(2,1),(3,2),(4,2),(5,2)] (by kernel_rfl) (by kernel_rfl) (fun _ _ _ _ h=>h.elim) ?_
 iterate 3 ((first|refine LodeX.zl rfl (by rfl) (by decide) ?_|(apply LodeX.zk rfl (by rfl);· (intro w';go_simp;first|done|with_reducible rfl|(rw[if_neg (by first|omega|(simp;omega))];try with_reducible rfl)))|(apply LodeX.zt hS rfl (by rfl);· (intro w' hw';go_split_ands;go_simp;try with_reducible rfl))|fail);simp only[Act.put,zD,lsZ,lsS])
 have e0:=zi hb H.out.t;have e1:=zi hb H.out.p;have e2:=zi hb H.out.k;generalize (w.alloc (.cells #[.int .i64 p] 102 (0,0))).drew=w1 at *;refine LodeX.zq rfl (by rfl) (fun K hK W hW=>?_);cases hW;have d0:=zf e0 0;have d1:=zf e0 1;have f0:=zr e0 0;have f1:=zr e0 1;have H0:=zj e0;go_simp;have k0:w.heap.size≠N:=by omega
 have z1:=zw e0 0 (.slice none 0 0);have z2:=zw z1 1 (.slice none 0 0);refine⟨⟨((Below.refl N w1).setCell (Nat.le_refl _) _).setCell (Nat.le_refl _) _,(zE k0).trans (zE k0)⟩,hK _ _ ?_⟩;clear hK K hS;have g1:((w1.setCell ⟨N,0,none⟩ (.slice none 0 0)).setCell ⟨N,1,none⟩ (.slice none 0 0)).heap[N+1]? =some (.cells #[.int .i64 p0] 3 (0,0)):=((zE (by omega)).trans (zE (by omega))).trans e1;have g2:((w1.setCell ⟨N,0,none⟩ (.slice none 0 0)).setCell ⟨N,1,none⟩ (.slice none 0 0)).heap[N+2]? =some (.cells #[.bool kb] 4 (0,0)):=((zE (by omega)).trans (zE (by omega))).trans e2;have B1:Below N w1 ((w1.setCell ⟨N,0,none⟩ (.slice none 0 0)).setCell ⟨N,1,none⟩ (.slice none 0 0)):=((Below.refl N w1).setCell (Nat.le_refl _) _).setCell (Nat.le_refl _) _;replace z2:=zj z2;clear e0 e1 e2 d0 d1 f0 f1 H0 z1;generalize (w1.setCell ⟨N,0,none⟩ (.slice none 0 0)).setCell ⟨N,1,none⟩ (.slice none 0 0)=w2 at *
 try simp only[Act.put,zD,lsZ,lsS]
 refine LodeX.zq rfl (by rfl) (fun K hK W hW=>?_);cases hW;have d0:=zf g1 0;have f0:=zr g1 0;have H1:=zj g1;go_simp;refine⟨⟨(Below.refl N w2).setCell (Nat.le_succ _) _,zE (by omega)⟩,hK _ _ ?_⟩;clear hK K;have t2:(w2.setCell ⟨N+1,0,none⟩ (.int .i64 p)).heap[N]? =_:=(zE (by omega)).trans z2.out;have g3:(w2.setCell ⟨N+1,0,none⟩ (.int .i64 p)).heap[N+2]? =_:=(zE (by omega)).trans g2;have p2:=zw g1 0 (.int .i64 p);have B2:Below N w1 (w2.setCell ⟨N+1,0,none⟩ (.int .i64 p)):=B1.setCell (Nat.le_succ _) _;replace t2:=zj t2;replace p2:=zj p2;clear g1 g2 d0 f0 H1 z2 B1;generalize w2.setCell ⟨N+1,0,none⟩ (.int .i64 p)=w3 at *
 try simp only[Act.put,zD,lsZ,lsS]
 refine LodeX.zq rfl (by rfl) (fun K hK W hW=>?_);cases hW;have d0:=zf g3 0;have f0:=zr g3 0;have H1:=zj g3;go_simp;refine⟨⟨(Below.refl N w3).setCell (by simp only;omega) _,zE (by omega)⟩,hK _ _ ?_⟩;clear hK K
 try simp only[Act.put,zD,lsZ,lsS]
 refine LodeX.zu fun W hW=>?_
 cases hW;go_wp2_with fail;refine⟨rfl,.panicking [{v:=.iface 102 (.agg #[.int .i64 p]),recovered:=true}],?_,.tuple #[],results_none rfl _ _ _,rfl,rfl,⟨(zE (by omega)).trans t2.out,(zE (by omega)).trans p2.out,zw H1.out 0 _⟩,((hb.mono (by omega)).trans B2).setCell (by simp only;omega) _⟩;cases c₀
 simp_all
theorem TK.mono{b b':Nat}{w:World}{v:Value}{l:List xF}(h:TK b w v l)(hb:b≤b'):TK b' w v l:=by
 obtain⟨p,cap,hv,h⟩:=h;exact⟨p,cap,hv,h.imp id fun ⟨g,cs,fr,h1,r⟩=>⟨g,cs,fr,Nat.lt_of_lt_of_le h1 hb,r⟩⟩
theorem KS.keep{w w':World}{v:Value}{l:List Int}(h:KS w v l)(hk:∀g cs fr,qD v=some g→w.heap[g]? =some (.cells cs 3 fr)→w'.heap[g]? =some (.cells cs 3 fr)):KS w' v l:=by
 obtain⟨p,cap,rfl,h⟩:=h;refine⟨p,cap,rfl,?_⟩;rcases h with h0|⟨g,off,cs,fr,rfl,hh,hc⟩
 ·exact .inl h0
 ·by_cases h0:l=[]
  ·exact .inl h0
  ·refine .inr ⟨g,off,cs,fr,rfl,hk g cs fr ?_ hh,hc⟩;cases hl:l.length with
   |zero=>exact absurd (List.eq_nil_of_length_eq_zero hl) h0
   |succ m=>rfl
theorem vu{w:World}{g k:Nat}{cs ds:Array Value}{T U:TypeId}{fr fr':Nat×Nat}(h:w.heap[g]? =some (.cells cs T fr))(h':w.heap[k]? =some (.cells ds U fr'))(hT:T≠U):g≠k:=fun e=>by
 subst e;rw[h] at h';cases h';exact hT rfl
def zhC(r:qn Unit)(w:World)(e:Ending)(w':World):Prop:=match r with
 | .ok _ st=>∃nv iv kv,e=.returned (.tuple #[.agg #[nv,iv],.int .i64 0,.bool true])∧NS w' nv st.nodes kv∧KS w' iv st.items∧Below w.heap.size w w'
 | .bad p=>e=.returned (.tuple #[.agg #[.slice none 0 0,.slice none 0 0],.int .i64 p,.bool false])∧Below w.heap.size w w'
theorem za9(s:ByteArray)(toks:List xF)(tv:Value)(w:World)(htk:TK w.heap.size w tv toks)(hE:KM ⟨toks,s.size⟩)(hlim:toks.length≤1200):Calls prog 40 #[.string s,tv] w (zhC (kR toks s.size) w):=by
 have hmf:∀(fn:Fn) (first cap:Array Value) (w:World),(Instr.makeFunc fn first cap).run prog w=.ok (.func fn first cap) w:=fun _ _ _ _=>rfl
 obtain⟨r,hr⟩:=exE (kR toks s.size);rw[hr];unfold kR at hr;replace hr:=zj hr;obtain⟨E,hEd⟩:∃E:zN,⟨toks,s.size⟩=E:=⟨_,rfl⟩;have hEt:E.toks=toks:=by rw[←hEd]
 have hEl:s.size=E.len:=by rw[←hEd]
 obtain⟨tp,tc,rfl,_⟩:=id htk
 let o1:Obj:=.cells #[.slice none 0 0,.slice none 0 0] 26 (0,0)
 let o2:Obj:=.cells #[.int .i64 0] 3 (0,0)
 let o3:Obj:=.cells #[.bool false] 4 (0,0)
 let o4:Obj:=.cells #[.slice none 0 0,.slice none 0 0,.string s,.slice tp toks.length tc,.int .i64 0] 100 (0,0)
 have hb4:Below w.heap.size w ((((w.alloc o1).alloc o2).alloc o3).alloc o4):=ya [o1,o2,o3,o4] w;have z1:((((w.alloc o1).alloc o2).alloc o3).alloc o4).heap[w.heap.size]? =some o1:=zS [o1,o2,o3,o4] w 0 o1 rfl;have z2:((((w.alloc o1).alloc o2).alloc o3).alloc o4).heap[w.heap.size+1]? =some o2:=zS [o1,o2,o3,o4] w 1 o2 rfl;have z3:((((w.alloc o1).alloc o2).alloc o3).alloc o4).heap[w.heap.size+2]? =some o3:=zS [o1,o2,o3,o4] w 2 o3 rfl;have z4:((((w.alloc o1).alloc o2).alloc o3).alloc o4).heap[w.heap.size+3]? =some o4:=zS [o1,o2,o3,o4] w 3 o4 rfl;have hP:PW E (w.heap.size+3) (w.heap.size+3) (.slice none 0 0) (Gi (fun g=>g=w.heap.size+1) (.slice none 0 0)) ((((w.alloc o1).alloc o2).alloc o3).alloc o4) ⟨[],[],0⟩:=by
  refine⟨.slice none 0 0,.slice tp toks.length tc,s,[],⟨Nat.le_refl _,z4,hEl,by rw[hEt];exact (htk.fr hb4).mono (by omega),⟨rfl,.inl ⟨rfl,rfl⟩⟩,rfl,fun j x v h=>by simp at h,⟨rfl,.inl ⟨rfl,rfl⟩⟩⟩,?_,?_⟩
  ·intro v hv;cases hv
  ·intro g hg;rcases hg with rfl|hg
   ·have:=(gtA z2);exact this
   ·cases hg
 have hok:xX E ⟨[],[],0⟩:=⟨Nat.zero_le _,fun i x h=>by simp at h,Nat.le_refl _,by rw[hEt];exact hlim⟩;have HP:=zj (VF (R:=ZL (toks.length+1)) (fun iv=>(zbT (by rw[←hEd];exact hE) (toks.length+1)).1) (by rw[hEt];omega) hP hok (Nat.le_refl _) (toks.length+1) (by rw[hEt];omega));rw[hEd] at hr;rw[hr.out] at HP;simp only[o1,o2,o3,o4] at z1 z2 z3 z4 hb4 HP;replace z1:=zj z1;replace z2:=zj z2;replace z3:=zj z3;replace z4:=zj z4;replace hb4:=zj hb4;clear hP hok o1 o2 o3 o4 htk hE hEd hr;go_enter_defers func40,ntmps40;go_wp2_with fail;refine HP.out.mono ?_;rintro e w1 hp;have hw4:((((w.alloc (.cells #[.slice none 0 0,.slice none 0 0] 26 (0,0))).alloc (.cells #[.int .i64 0] 3 (0,0))).alloc (.cells #[.bool false] 4 (0,0))).alloc (.cells #[.slice none 0 0,.slice none 0 0,.string s,.slice tp toks.length tc,.int .i64 0] 100 (0,0))).heap.size=w.heap.size+4:=by simp
 generalize (((w.alloc (.cells #[.slice none 0 0,.slice none 0 0] 26 (0,0))).alloc (.cells #[.int .i64 0] 3 (0,0))).alloc (.cells #[.bool false] 4 (0,0))).alloc (.cells #[.slice none 0 0,.slice none 0 0,.string s,.slice tp toks.length tc,.int .i64 0] 100 (0,0))=w4 at *;cases r with
 |ok u st=>
  obtain⟨rfl,⟨iv,h1⟩,B1⟩:=hp;have c1:=h1.iv;have hks:KS w1 iv st.items:=KS.own h1.its;have hig:=yF (G:=fun g=>g<w.heap.size+3) h1.its (fun g hg=>hg);obtain⟨nv,tv,s',kv,P,hK,_⟩:=h1;have c0:=P.cells.1;have hns:=Kk P.nodes P.kvl P.kids;replace hK:=zj hK;clear P;obtain⟨np,nc,rfl⟩:=hns.form;obtain⟨ip,ic,rfl⟩:=hks.form;have y1:=(B1.block _ (by omega)).trans z1.out;have y2:=(B1.block _ (by omega)).trans z2.out;have y3:=(B1.block _ (by omega)).trans z3.out;have d0:=zf y1 0;have d1:=zf y1 1;have d2:=zf y2 0;have d3:=zf y3 0;have f0:=zr y1 0;have f1:=zr y1 1;have f2:=zr y2 0;have f3:=zr y3 0;replace hns:=zj hns;replace hks:=zj hks;replace y1:=zj y1;replace y2:=zj y2;replace y3:=zj y3;clear HP;have hw1:w.heap.size+3≤w1.heap.size:=by have:=B1.size;omega
  go_wp2_with fail;have q1:=zw y1.out 0 (.slice np st.nodes.length nc);have q2:=zw q1 1 (.slice ip st.items.length ic);have hB:Below w.heap.size w ((((w1.setCell ⟨w.heap.size,0,none⟩ (.slice np st.nodes.length nc)).setCell ⟨w.heap.size,1,none⟩ (.slice ip st.items.length ic)).setCell ⟨w.heap.size+1,0,none⟩ (.int .i64 0)).setCell ⟨w.heap.size+1+1,0,none⟩ (.bool true)):=((((hb4.out.trans (B1.mono (by omega))).setCell (Nat.le_refl _) _).setCell (Nat.le_refl _) _).setCell (Nat.le_succ _) _).setCell (by simp only;omega) _;have hfar:∀g,g≠w.heap.size→g≠w.heap.size+1→g≠w.heap.size+2→((((w1.setCell ⟨w.heap.size,0,none⟩ (.slice np st.nodes.length nc)).setCell ⟨w.heap.size,1,none⟩ (.slice ip st.items.length ic)).setCell ⟨w.heap.size+1,0,none⟩ (.int .i64 0)).setCell ⟨w.heap.size+1+1,0,none⟩ (.bool true)).heap[g]? =w1.heap[g]? :=fun g h0 h1 h2=>(zE h2).trans ((zE h1).trans ((zE h0).trans (zE h0)))
  have e0:w.heap.size≠w.heap.size+1:=by omega
  have e1:w.heap.size≠w.heap.size+1+1:=by omega
  have e2:w.heap.size+1≠w.heap.size+1+1:=by omega
  have r1:=(zE (w:=((w1.setCell ⟨w.heap.size,0,none⟩ (.slice np st.nodes.length nc)).setCell ⟨w.heap.size,1,none⟩ (.slice ip st.items.length ic)).setCell ⟨w.heap.size+1,0,none⟩ (.int .i64 0)) (i:=0) (v:=.bool true) e1).trans ((zE e0).trans q2);have r2:=(zE (w:=((w1.setCell ⟨w.heap.size,0,none⟩ (.slice np st.nodes.length nc)).setCell ⟨w.heap.size,1,none⟩ (.slice ip st.items.length ic)).setCell ⟨w.heap.size+1,0,none⟩ (.int .i64 0)) (i:=0) (v:=.bool true) e2).trans (zw ((zE e0.symm).trans ((zE e0.symm).trans y2.out)) 0 (.int .i64 0));have r3:=zw (w:=((w1.setCell ⟨w.heap.size,0,none⟩ (.slice np st.nodes.length nc)).setCell ⟨w.heap.size,1,none⟩ (.slice ip st.items.length ic)).setCell ⟨w.heap.size+1,0,none⟩ (.int .i64 0)) ((zE e2.symm).trans ((zE e1.symm).trans ((zE e1.symm).trans y3.out))) 0 (.bool true);refine leaves_cons (f:=80) (args:= #[.pointer (some ⟨w.heap.size,0,none⟩),.pointer (some ⟨w.heap.size+1,0,none⟩),.pointer (some ⟨w.heap.size+1+1,0,none⟩)]) (by simp) (by simp[go_sem]) ?_;refine (zah w.heap.size _).mono ?_;rintro e u' w'' ⟨rfl,rfl,rfl⟩;refine⟨.tuple #[.agg #[.slice np st.nodes.length nc,.slice ip st.items.length ic],.int .i64 0,.bool true],by simp[results,results40,go_sem,zf r1,zf r2,zf r3],_,_,kv,rfl,?_,?_,hB⟩
  ·obtain⟨a1,a2,p,cap,hv,a3⟩:=hns.out;refine⟨a1,fun j x u hx hu=>(a2 j x u hx hu).keep fun g cs fr hg hh=>(hfar g (vu hh y1.out (by decide)) (fun e=>hK.out u (List.mem_of_getElem? hu) g hg (.inl e)) (vu hh y3.out (by decide))).trans hh,p,cap,hv,a3.imp id ?_⟩;rintro ⟨g,off,cs,fr,hp,hg,hc⟩;exact⟨g,off,cs,fr,hp,(hfar g (vu hg y1.out (by decide)) (vu hg y2.out (by decide)) (vu hg y3.out (by decide))).trans hg,hc⟩
  ·exact hks.out.keep fun g cs fr hg hh=>(hfar g (fun e=>hig g hg (by omega)) (fun e=>hig g hg (by omega)) (fun e=>hig g hg (by omega))).trans hh
 |bad p=>
  obtain⟨rfl,B1⟩:=hp;unfold Pan;have y1:=(B1.block _ (by omega)).trans z1.out;have y2:=(B1.block _ (by omega)).trans z2.out;have y3:=(B1.block _ (by omega)).trans z3.out;replace y1:=zj y1;replace y2:=zj y2;replace y3:=zj y3;clear HP;go_wp2_with fail;refine leaves_cons (f:=80) (args:= #[.pointer (some ⟨w.heap.size,0,none⟩),.pointer (some ⟨w.heap.size+1,0,none⟩),.pointer (some ⟨w.heap.size+1+1,0,none⟩)]) (by simp) (by simp[go_sem]) ?_;refine (QZ w.heap.size p _ _ _ _ w1 ⟨y1.out,y2.out,y3.out⟩).mono ?_;rintro e u' w'' ⟨rfl,rfl,hF,hB⟩;refine⟨.tuple #[.agg #[.slice none 0 0,.slice none 0 0],.int .i64 p,.bool false],by simp[results,results40,go_sem,zf hF.t,zf hF.p,zf hF.k],rfl,?_⟩;exact (hb4.out.trans (B1.mono (by omega))).trans hB
end
end Go.Proofs.YtcagibbaeageoaaGreatDoor
