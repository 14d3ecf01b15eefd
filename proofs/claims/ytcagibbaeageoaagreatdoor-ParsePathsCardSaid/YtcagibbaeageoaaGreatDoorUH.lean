/-
  A part of the proof: contracts of functions; no conditions.
-/
import Derived.Test.YtcagibbaeageoaaGreatDoorUG
set_option maxRecDepth 100000
set_option maxHeartbeats 40000000
set_option linter.unusedSimpArgs false
set_option linter.unusedVariables false
namespace Go.Proofs.YtcagibbaeageoaaGreatDoor
section
open Go.RowKit Lode Go.Shelf
attribute [local go_sem ↓] Go.wp_at_zero Go.wp_at_succ
attribute [local go_sem] XT zgS XS
open Go.Proofs.Tryz
structure vI(base:Nat)(row:Option Nat)(w w':World):Prop where
 b:Below base w w'
 keep:∀(k:Nat) (cs:Array Value) (T:TypeId) (fr:Nat×Nat),some k≠row→w.heap[k]? =some (.cells cs T fr)→T≠100→T≠60→w'.heap[k]? =some (.cells cs T fr)
theorem vI.refl(base:Nat)(row:Option Nat)(w:World):vI base row w w:=⟨Below.refl _ _,fun _ _ _ _ _ h _ _=>h⟩
theorem vI.trans{base:Nat}{row:Option Nat}{a b c:World}(h:vI base row a b)(k:vI base row b c):vI base row a c:=⟨h.b.trans k.b,fun n cs T fr hN hn h1 h2=>k.keep n cs T fr hN (h.keep n cs T fr hN hn h1 h2) h1 h2⟩
theorem Fr.cutG{base:Nat}{row:Option Nat}{a b:World}(h:Fr base a b):vI base row a b:=⟨h.b,fun n cs T fr _ hn h1 h2=>h.keep n cs T fr hn h1 h2⟩
theorem vI.grow{base:Nat}{w w':World}{row:Option Nat}(hg:w.grownBy w' row)(hb:base≤w.heap.size)(hrow:∀k,row=some k→base≤k):vI base row w w':=
 ⟨(Below.refl base w).grown hg hb hrow,fun k cs T fr hN hk h1 h2=>by
  rw[hg.block k (gtA hk) hN];exact hk⟩
def zbG(base:Nat)(row:Option Nat):LodeX.Rel:=⟨vI base row,vI.refl base row,vI.trans,Eq,fun _=>rfl,Eq.trans,fun h=>h▸vI.refl base row _⟩
theorem Yo{α β:Type}{A B:PM α}{g:α→PM β}{E:zN}{s:yD}:((if true=true then A else B) >>= g) E s=(A >>= g) E s:=rfl
theorem JB{α β:Type}{A B:PM α}{g:α→PM β}{E:zN}{s:yD}:((if false=true then A else B) >>= g) E s=(B >>= g) E s:=rfl
def ZF(l:List Int):PM (List Int):=do
 let _ ←zX [125]
 pure l
def zgu(E:zN)(base pb n:Nat)(iv:Value)(G:Nat→Prop)(R:xD)(w:World)(r:qn (List Int))(v:Value)(wr:World):Prop:=∃(va:Value) (st:yD) (acc:List Int) (k:Nat),va=v∧(Zu R k acc >>= ZF) E st=r∧E.toks.length-st.next<k∧E.toks.length-st.next<n∧acc.length≤st.next∧xX E st∧wr.ownsRow w.heap.size 3 1 va acc.length (yH acc)∧PW E base pb iv (Gw G va) wr st∧Fr base w wr
theorem zdC{E:zN}{base pb n:Nat}{iv:Value}{R:xD}(hR:jn E base pb iv n R){G:Nat→Prop}{w:World}{st0:yD}(h0:PW E base pb iv G w st0)(ok0:xX E st0)(hn:E.toks.length-st0.next<n+1):Calls prog 302 #[.pointer (some ⟨pb,0,none⟩)] w (vH E base pb iv G (E.toks.length+1) (vg R E st0) w):=by
 obtain⟨r,hr⟩:=exE (vg R E st0);rw[hr];unfold vg at hr;replace hr:=zj hr;replace ok0:=zj ok0;replace hR:=zj hR;have F0:=Fr.refl base w;have hlim:=ok0.out.lim;have hle:=ok0.out.le;have hG0:=h0.glt;have hbase:=h0.base;have hivlt:=zj (fun g=>h0.ivlt (g:=g));go_enter func302,ntmps302;go_wp2_with fail;go_step3;go_wp2_with fail;refine (zH h0 (by omega) [123]).mono ?_;rintro e w1 hp;rcases qE hp hr F0 (Fr.refl _ _) ok0 (zv) (by decide) with⟨p,rfl,rfl,hb⟩|⟨x1,st1,rfl,hm1,h1,f1,F1,n1,ok1,hrn⟩
 ·go_wp2_with fail;exact⟨rfl,rfl,hb⟩
 replace hr:=hrn;clear hrn;have hle1:=ok1.out.le;have ha1:=n1.adv;have hst:zgu E base pb n iv G R w r (.slice none 0 0) w1:=⟨_,st1,[],_,rfl,hr.out,by omega,by omega,Nat.zero_le _,ok1.out,vj _ _ rfl,h1.gnil,F1⟩;replace hst:=zj hst;clear hr h1 F1 f1 hm1 hp;go_wp2_with fail;go_step3;go_wp2_with fail;go_loopw [2] (fun v wr=>zgu E base pb n iv G R w r v wr) (fun _ wr=>E.toks.length+1-yX pb wr)
 case atStart=>exact hst.out
 case round=>
  obtain⟨va,st3,acc,k,rfl,hr,hk,hn3,hacc,ok3,o3,h3,F3⟩:=hrel;obtain⟨k,rfl⟩:∃m,k=m+1:=⟨k-1,by omega⟩;unfold Zu at hr;have hle3:=ok3.le;replace ok3:=zj ok3;replace hr:=zj hr;replace hr:=zj (yp.symm.trans hr.out);replace hr:=zj ((yi (show ZP E st3=.ok (zW E st3) st3 from rfl)).symm.trans hr.out);have HT:=zj (xT h3);generalize zW E st3=t at HT hr;obtain⟨k1,t1,a1⟩:=t;unfold ku at HT;replace o3:=zj o3;have hvlt:=zj (fun g hg=>(o3.out.lt g hg).2);go_wp2_with fail;refine HT.out.mono ?_;rintro e w4 ⟨rfl,hb4⟩;have hb4:=zd bR hb4;have h4:=h3.below hb4;have F4:=F3.trans (Fr.of_below h3.base hb4);have ok4:=ok3;have hz4:=zj (zm w4 (.cells #[.int .u8 k1,.string ⟨t1.toArray⟩,.int .i64 a1] 66 (0,0)));have hne4:=zj (fun (e:some w4.heap.size=va.ownBlock)=>Nat.lt_irrefl _ (Nat.lt_of_lt_of_le (hvlt.out _ e.symm) hb4.size));clear HT;replace hr:=zj (yp.symm.trans hr.out);go_wp2_with fail;refine (ym (h4.below (zg _ _)) (by omega) [114,101,99,118]).mono ?_;rintro e w5 hp;rcases Zf hp hr F4 (Fr.of_below h4.base (zg _ _)) ok4 with⟨p,rfl,rfl,hb⟩|⟨x5,st5,rfl,hm5,h5,f5,F5,n5,ok5,hrn⟩
  ·go_wp2_with fail;exact⟨rfl,rfl,hb⟩
  replace hr:=hrn;clear hrn;have hle5:=ok5.out.le;cases x5 with
  |true=>
   have ha5:=yA hm5;replace hr:=zj (Yo.symm.trans hr.out);replace hr:=zj (yp.symm.trans hr.out);go_wp2_with fail;refine (hR.out.expr _ _ _ h5 ok5.out (by omega)).mono ?_;rintro e w6 hp;rcases Yn hp hr F5 (Fr.refl _ _) ok5 (hR.out.good.expr) (by decide) with⟨p,rfl,rfl,hb⟩|⟨x6,st6,rfl,hm6,h6,f6,F6,n6,vd6,ok6,hrn⟩
   ·go_wp2_with fail;exact⟨rfl,rfl,hb⟩
   replace hr:=hrn;clear hrn;have hle6:=ok6.out.le;have ha6:=n6.next;replace hr:=zj (yp.symm.trans hr.out);go_wp2_with fail;refine (zH h6 (by omega) [97,115]).mono ?_;rintro e w7 hp;rcases qE hp hr F6 (Fr.refl _ _) ok6 (zv) (by decide) with⟨p,rfl,rfl,hb⟩|⟨x7,st7,rfl,hm7,h7,f7,F7,n7,ok7,hrn⟩
   ·go_wp2_with fail;exact⟨rfl,rfl,hb⟩
   replace hr:=hrn;clear hrn;have hle7:=ok7.out.le;have ha7:=n7.next;replace hr:=zj (yp.symm.trans hr.out);go_wp2_with fail;refine (xd h7 (by omega) 1).mono ?_;rintro e w8 hp;rcases qE hp hr F7 (Fr.refl _ _) ok7 (yl (by decide)) (by decide) with⟨p,rfl,rfl,hb⟩|⟨x8,st8,rfl,hm8,h8,f8,F8,n8,ok8,hrn⟩
   ·go_wp2_with fail;exact⟨rfl,rfl,hb⟩
   replace hr:=hrn;clear hrn;have hle8:=ok8.out.le;have ha8:=n8.next;obtain⟨k8,t8,a8⟩:=x8;simp only at hr ⊢;replace hr:=zj (yp.symm.trans hr.out);go_wp2_with fail;refine (zH h8 (by omega) [61,62]).mono ?_;rintro e w9 hp;rcases qE hp hr F8 (Fr.refl _ _) ok8 (zv) (by decide) with⟨p,rfl,rfl,hb⟩|⟨x9,st9,rfl,hm9,h9,f9,F9,n9,ok9,hrn⟩
   ·go_wp2_with fail;exact⟨rfl,rfl,hb⟩
   replace hr:=hrn;clear hrn;have hle9:=ok9.out.le;have ha9:=n9.next;have T9:=((((f5.trans f6).trans f7).trans f8).trans f9);have cz9:=T9.keep _ _ _ _ hz4.out (by decide) (by decide);have o9:=zj (zT (zC (zC o3.out hb4) (zg _ _)) T9 (by decide) (by decide));have hS:∀W,vI base va.ownBlock w9.drew W→W.cell? ⟨w4.heap.size,2,none⟩=some (.int .i64 a1):=fun W hF=>zf (hF.keep _ _ _ _ hne4.out cz9 (by decide) (by decide)) 2
   clear cz9;replace hr:=zj (yp.symm.trans hr.out);go_wp2_with fail;refine LodeX.zo (RR:=zbG base va.ownBlock) (Xp:=fun c W=>∃p,r=.bad p∧c=[{v:=.iface 102 (.agg #[.int .i64 p]),recovered:=false}]∧Below base w W) [(0,0),(1,0),(2,0),(3,0),(4,1),(5,0),(6,0),(7,2),(8,2),(9,2),(10,2),(11,2),(12,0)] (by kernel_rfl) (by kernel_rfl) ?hX ?_
   case hX=>
    rintro c a W hd ⟨p,hrp,rfl,hb⟩;subst hrp;go_wp2_with fail;exact⟨hd,rfl,hb⟩
   iterate 7 ((first|refine LodeX.zl rfl (by rfl) (by decide) ?_|(apply LodeX.zk rfl (by rfl);· (intro w';go_simp;first|done|with_reducible rfl|(rw[if_neg (by first|omega|(simp;omega))];try with_reducible rfl)))|(apply LodeX.zt hS rfl (by rfl);· (intro w' hw';go_split_ands;go_simp;try with_reducible rfl))|fail);simp only[Act.put,zD,lsZ,lsS])
   refine LodeX.zq rfl (by rfl) (fun K hK W hW=>?_);cases hW;go_simp;refine (hR.out.expr _ _ _ (h9.below bR.drew) ok9.out (by omega)).mono ?_;rintro e w10 hp;rcases uG hp hr F9 ((Fr.of_below h9.base bR.drew)) with⟨p,hrp,rfl,hb⟩|⟨x10,st10,v,rfl,hv,hm10,h10,f10,F10,hrn⟩
   ·exact⟨rfl,p,hrp,rfl,hb⟩
   refine⟨f10.cutG,hK _ _ ?_⟩;clear hK K;replace hr:=hrn;clear hrn;unfold yI at hv;subst hv;have hS:=fun W (hF:vI base _ w10 W)=>hS W (vI.trans f10.cutG hF)
   try simp only[Act.put,zD,lsZ,lsS]
   obtain⟨n10,vd10⟩:=hR.out.good.expr ok9.out.le ok9.out.wf hm10;have ok10:=zj (ok9.out.nx n10 (by decide));have hle10:=ok10.out.le;have ha10:=n10.next;have hfew:st10.nodes.length≤1000000:=by have:=ok10.out.few;omega
   refine LodeX.zq rfl (by rfl) (fun K hK W hW=>?_);cases hW;go_simp;refine⟨(Fr.of_below h10.base (zg _ _)).cutG,hK _ _ ?_⟩;clear hK K
   try simp only[Act.put,zD,lsZ,lsS]
   replace hr:=zj (yp.symm.trans hr.out);refine LodeX.zq rfl (by rfl) (fun K hK W hW=>?_);cases hW;go_simp;refine (zJ (h10.below (zg _ _)) 63 t8 0 a1 [x6,x10] _ (KS.lit _ _) (h10.fresh _ _) hfew).mono ?_;rintro e w11 hp;rcases uG hp hr F10 ((Fr.of_below h10.base (zg _ _))) with⟨p,hrp,rfl,hb⟩|⟨x11,st11,v,rfl,hv,hm11,h11,f11,F11,hrn⟩
   ·exact⟨rfl,p,hrp,rfl,hb⟩
   refine⟨f11.cutG,hK _ _ ?_⟩;clear hK K;replace hr:=hrn;clear hrn;unfold yI at hv;subst hv
   try simp only[Act.put,zD,lsZ,lsS]
   obtain⟨n11,vd11⟩:=zU ok10.out.le ok10.out.wf (XE ((((vd6.later n7).later n8).later n9).later n10) (Zm vd10)) hm11;have ok11:=zj (ok3.out.nx ((((((n5.trans n6).trans n7).trans n8).trans n9).trans n10).trans n11) (by decide));have hle11:=ok11.out.le;have ha11:=n11.next;have o10:=zT (zC o9.out bR.drew) f10 (by decide) (by decide);have o11:=zT (zC o10 (zg _ _)) f11 (by decide) (by decide);have hs11:=F11.b.size;refine LodeX.zq rfl (by rfl) (fun K hK W hW=>?_);cases hW;go_simp;refine⟨(Fr.of_below h11.base (zg _ _)).cutG,hK _ _ ?_⟩;clear hK K
   try simp only[Act.put,zD,lsZ,lsS]
   have hbs12:=h11.base;have hss12:=F11.b.size;refine LodeX.zq rfl (by rfl) (fun K hK W hW=>?_);cases hW;refine jp _ _ rfl (by rfl) (zC o11 (zg _ _)) (by rfl) (zf (zm w11 _) 0) rfl rfl (by omega) (by simp;omega) ?_;intro g' cap' w12 hrow hgrow hg';obtain⟨v12,e12,o12,h12,gs12,FF12⟩:=yV h11 o11 (by omega) (fun g hg=>by have:=hivlt.out g hg;omega) hrow hgrow (hg'.imp id (fun h=>by simpa using h));rw[e12];refine⟨vI.grow hgrow (by simp;omega) (fun k hk=>by have:=((o11).lt k hk).1;omega),hK _ _ ?_⟩;clear hK K;replace o12:=zj o12;replace FF12:=zj FF12;clear hrow hgrow hg' e12
   try simp only[Act.put,zD,lsZ,lsS]
   have F12:=FF12.out w F11 (Nat.le_refl _) hbase
   iterate 1 ((first|refine LodeX.zl rfl (by rfl) (by decide) ?_|(apply LodeX.zk rfl (by rfl);· (intro w';go_simp;first|done|with_reducible rfl|(rw[if_neg (by first|omega|(simp;omega))];try with_reducible rfl)))|(apply LodeX.zt hS rfl (by rfl);· (intro w' hw';go_split_ands;go_simp;try with_reducible rfl))|fail);simp only[Act.put,zD,lsZ,lsS])
   refine LodeX.zu fun W hW=>?_
   cases hW;clear hS;have ok12:=ok11;replace hr:=zj (yp.symm.trans hr.out);go_wp2_with fail;refine (ym h12 (by omega) [44]).mono ?_;rintro e w13 hp;rcases Zf hp hr F12 (Fr.refl _ _) ok12 with⟨p,rfl,rfl,hb⟩|⟨x13,st13,rfl,hm13,h13,f13,F13,n13,ok13,hrn⟩
   ·go_wp2_with fail;exact⟨rfl,rfl,hb⟩
   replace hr:=hrn;clear hrn;have hle13:=ok13.out.le;have o13:=zT o12.out f13 (by decide) (by decide);cases x13 with
   |true=>
    have ha13:=yA hm13;replace hr:=zj (Yo.symm.trans hr.out);replace o13:=zj o13;go_wp2_with fail;go_roundw
    case rel=>exact⟨_,st13,acc ++ [x11],k,rfl,hr.out,by omega,by omega,by rw[List.length_append,List.length_singleton];omega,ok13.out,o13.out,h13,F13⟩
    case measure=>
     rw[h13.yX,h3.yX];omega
   |false=>
    have hn13:st13.next=st11.next:=by rw[yj hm13]
    replace hr:=zj (show ZF (acc ++ [x11]) E st13=r from hr.out);unfold ZF at hr;go_wp2_with fail;refine (zH h13 (by omega) [125]).mono ?_;rintro e w16 hp;rcases qE hp hr F13 (Fr.refl _ _) ok13 (zv) (by decide) with⟨p,rfl,rfl,hb⟩|⟨x16,st16,rfl,hm16,h16,f16,F16,n16,ok16,hrn⟩
    ·go_wp2_with fail;exact⟨rfl,rfl,hb⟩
    replace hr:=hrn;clear hrn;have o16:=zT o13 f16 (by decide) (by decide);have hr16:qn.ok (acc ++ [x11]) st16=r:=hr.out;subst hr16;go_wp2_with fail;go_ret;exact⟨_,rfl,by rw[List.length_append,List.length_singleton];omega,o16,h16,F16⟩
  |false=>
   have hn5:st5.next=st3.next:=by rw[yj hm5]
   replace hr:=zj (JB.symm.trans hr.out);replace hr:=zj (yp.symm.trans hr.out);go_wp2_with fail;refine (ym h5 (by omega) [115,101,110,100]).mono ?_;rintro e wc hp;rcases Zf hp hr F5 (Fr.refl _ _) ok5 with⟨p,rfl,rfl,hb⟩|⟨xc,stc,rfl,hmc,hc,fc,Fc,nc,okc,hrn⟩
   ·go_wp2_with fail;exact⟨rfl,rfl,hb⟩
   replace hr:=hrn;clear hrn;have hlec:=okc.out.le;cases xc with
   |true=>
    have hac:=yA hmc;replace hr:=zj (Yo.symm.trans hr.out);replace hr:=zj (yp.symm.trans hr.out);go_wp2_with fail;refine (hR.out.expr _ _ _ hc okc.out (by omega)).mono ?_;rintro e w6 hp;rcases Yn hp hr Fc (Fr.refl _ _) okc (hR.out.good.expr) (by decide) with⟨p,rfl,rfl,hb⟩|⟨x6,st6,rfl,hm6,h6,f6,F6,n6,vd6,ok6,hrn⟩
    ·go_wp2_with fail;exact⟨rfl,rfl,hb⟩
    replace hr:=hrn;clear hrn;have hle6:=ok6.out.le;have ha6:=n6.next;replace hr:=zj (yp.symm.trans hr.out);go_wp2_with fail;refine (zH h6 (by omega) [44]).mono ?_;rintro e w7 hp;rcases qE hp hr F6 (Fr.refl _ _) ok6 (zv) (by decide) with⟨p,rfl,rfl,hb⟩|⟨x7,st7,rfl,hm7,h7,f7,F7,n7,ok7,hrn⟩
    ·go_wp2_with fail;exact⟨rfl,rfl,hb⟩
    replace hr:=hrn;clear hrn;have hle7:=ok7.out.le;have ha7:=n7.next;replace hr:=zj (yp.symm.trans hr.out);go_wp2_with fail;refine (hR.out.expr _ _ _ h7 ok7.out (by omega)).mono ?_;rintro e w8 hp;rcases Yn hp hr F7 (Fr.refl _ _) ok7 (hR.out.good.expr) (by decide) with⟨p,rfl,rfl,hb⟩|⟨x8,st8,rfl,hm8,h8,f8,F8,n8,vd8,ok8,hrn⟩
    ·go_wp2_with fail;exact⟨rfl,rfl,hb⟩
    replace hr:=hrn;clear hrn;have hle8:=ok8.out.le;have ha8:=n8.next;replace hr:=zj (yp.symm.trans hr.out);go_wp2_with fail;refine (zH h8 (by omega) [61,62]).mono ?_;rintro e w9 hp;rcases qE hp hr F8 (Fr.refl _ _) ok8 (zv) (by decide) with⟨p,rfl,rfl,hb⟩|⟨x9,st9,rfl,hm9,h9,f9,F9,n9,ok9,hrn⟩
    ·go_wp2_with fail;exact⟨rfl,rfl,hb⟩
    replace hr:=hrn;clear hrn;have hle9:=ok9.out.le;have ha9:=n9.next;have T9:=(((((f5.trans fc).trans f6).trans f7).trans f8).trans f9);have cz9:=T9.keep _ _ _ _ hz4.out (by decide) (by decide);have o9:=zj (zT (zC (zC o3.out hb4) (zg _ _)) T9 (by decide) (by decide));have hS:∀W,vI base va.ownBlock w9.drew W→W.cell? ⟨w4.heap.size,2,none⟩=some (.int .i64 a1):=fun W hF=>zf (hF.keep _ _ _ _ hne4.out cz9 (by decide) (by decide)) 2
    clear cz9;replace hr:=zj (yp.symm.trans hr.out);go_wp2_with fail;refine LodeX.zo (RR:=zbG base va.ownBlock) (Xp:=fun c W=>∃p,r=.bad p∧c=[{v:=.iface 102 (.agg #[.int .i64 p]),recovered:=false}]∧Below base w W) [(0,0),(1,0),(2,0),(3,1),(4,0),(5,0),(6,0),(7,2),(8,2),(9,2),(10,2),(11,2),(12,0)] (by kernel_rfl) (by kernel_rfl) ?hX ?_
    case hX=>
     rintro c a W hd ⟨p,hrp,rfl,hb⟩;subst hrp;go_wp2_with fail;exact⟨hd,rfl,hb⟩
    iterate 7 ((first|refine LodeX.zl rfl (by rfl) (by decide) ?_|(apply LodeX.zk rfl (by rfl);· (intro w';go_simp;first|done|with_reducible rfl|(rw[if_neg (by first|omega|(simp;omega))];try with_reducible rfl)))|(apply LodeX.zt hS rfl (by rfl);· (intro w' hw';go_split_ands;go_simp;try with_reducible rfl))|fail);simp only[Act.put,zD,lsZ,lsS])
    refine LodeX.zq rfl (by rfl) (fun K hK W hW=>?_);cases hW;go_simp;refine (hR.out.expr _ _ _ (h9.below bR.drew) ok9.out (by omega)).mono ?_;rintro e w10 hp;rcases uG hp hr F9 ((Fr.of_below h9.base bR.drew)) with⟨p,hrp,rfl,hb⟩|⟨x10,st10,v,rfl,hv,hm10,h10,f10,F10,hrn⟩
    ·exact⟨rfl,p,hrp,rfl,hb⟩
    refine⟨f10.cutG,hK _ _ ?_⟩;clear hK K;replace hr:=hrn;clear hrn;unfold yI at hv;subst hv;have hS:=fun W (hF:vI base _ w10 W)=>hS W (vI.trans f10.cutG hF)
    try simp only[Act.put,zD,lsZ,lsS]
    obtain⟨n10,vd10⟩:=hR.out.good.expr ok9.out.le ok9.out.wf hm10;have ok10:=zj (ok9.out.nx n10 (by decide));have hle10:=ok10.out.le;have ha10:=n10.next;have hfew:st10.nodes.length≤1000000:=by have:=ok10.out.few;omega
    refine LodeX.zq rfl (by rfl) (fun K hK W hW=>?_);cases hW;go_simp;refine⟨(Fr.of_below h10.base (zg _ _)).cutG,hK _ _ ?_⟩;clear hK K
    try simp only[Act.put,zD,lsZ,lsS]
    replace hr:=zj (yp.symm.trans hr.out);refine LodeX.zq rfl (by rfl) (fun K hK W hW=>?_);cases hW;go_simp;refine (zJ (h10.below (zg _ _)) 64 [] 0 a1 [x6,x8,x10] _ (KS.lit _ _) (h10.fresh _ _) hfew).mono ?_;rintro e w11 hp;rcases uG hp hr F10 ((Fr.of_below h10.base (zg _ _))) with⟨p,hrp,rfl,hb⟩|⟨x11,st11,v,rfl,hv,hm11,h11,f11,F11,hrn⟩
    ·exact⟨rfl,p,hrp,rfl,hb⟩
    refine⟨f11.cutG,hK _ _ ?_⟩;clear hK K;replace hr:=hrn;clear hrn;unfold yI at hv;subst hv
    try simp only[Act.put,zD,lsZ,lsS]
    obtain⟨n11,vd11⟩:=zU ok10.out.le ok10.out.wf (XE ((((vd6.later n7).later n8).later n9).later n10) (XE ((vd8.later n9).later n10) (Zm vd10))) hm11;have ok11:=zj (ok3.out.nx (((((((n5.trans nc).trans n6).trans n7).trans n8).trans n9).trans n10).trans n11) (by decide));have hle11:=ok11.out.le;have ha11:=n11.next;have o10:=zT (zC o9.out bR.drew) f10 (by decide) (by decide);have o11:=zT (zC o10 (zg _ _)) f11 (by decide) (by decide);have hs11:=F11.b.size;refine LodeX.zq rfl (by rfl) (fun K hK W hW=>?_);cases hW;go_simp;refine⟨(Fr.of_below h11.base (zg _ _)).cutG,hK _ _ ?_⟩;clear hK K
    try simp only[Act.put,zD,lsZ,lsS]
    have hbs12:=h11.base;have hss12:=F11.b.size;refine LodeX.zq rfl (by rfl) (fun K hK W hW=>?_);cases hW;refine jp _ _ rfl (by rfl) (zC o11 (zg _ _)) (by rfl) (zf (zm w11 _) 0) rfl rfl (by omega) (by simp;omega) ?_;intro g' cap' w12 hrow hgrow hg';obtain⟨v12,e12,o12,h12,gs12,FF12⟩:=yV h11 o11 (by omega) (fun g hg=>by have:=hivlt.out g hg;omega) hrow hgrow (hg'.imp id (fun h=>by simpa using h));rw[e12];refine⟨vI.grow hgrow (by simp;omega) (fun k hk=>by have:=((o11).lt k hk).1;omega),hK _ _ ?_⟩;clear hK K;replace o12:=zj o12;replace FF12:=zj FF12;clear hrow hgrow hg' e12
    try simp only[Act.put,zD,lsZ,lsS]
    have F12:=FF12.out w F11 (Nat.le_refl _) hbase
    iterate 1 ((first|refine LodeX.zl rfl (by rfl) (by decide) ?_|(apply LodeX.zk rfl (by rfl);· (intro w';go_simp;first|done|with_reducible rfl|(rw[if_neg (by first|omega|(simp;omega))];try with_reducible rfl)))|(apply LodeX.zt hS rfl (by rfl);· (intro w' hw';go_split_ands;go_simp;try with_reducible rfl))|fail);simp only[Act.put,zD,lsZ,lsS])
    refine LodeX.zu fun W hW=>?_
    cases hW;clear hS;have ok12:=ok11;replace hr:=zj (yp.symm.trans hr.out);go_wp2_with fail;refine (ym h12 (by omega) [44]).mono ?_;rintro e w13 hp;rcases Zf hp hr F12 (Fr.refl _ _) ok12 with⟨p,rfl,rfl,hb⟩|⟨x13,st13,rfl,hm13,h13,f13,F13,n13,ok13,hrn⟩
    ·go_wp2_with fail;exact⟨rfl,rfl,hb⟩
    replace hr:=hrn;clear hrn;have hle13:=ok13.out.le;have o13:=zT o12.out f13 (by decide) (by decide);cases x13 with
    |true=>
     have ha13:=yA hm13;replace hr:=zj (Yo.symm.trans hr.out);replace o13:=zj o13;go_wp2_with fail;go_roundw
     case rel=>exact⟨_,st13,acc ++ [x11],k,rfl,hr.out,by omega,by omega,by rw[List.length_append,List.length_singleton];omega,ok13.out,o13.out,h13,F13⟩
     case measure=>
      rw[h13.yX,h3.yX];omega
    |false=>
     have hn13:st13.next=st11.next:=by rw[yj hm13]
     replace hr:=zj (show ZF (acc ++ [x11]) E st13=r from hr.out);unfold ZF at hr;go_wp2_with fail;refine (zH h13 (by omega) [125]).mono ?_;rintro e w16 hp;rcases qE hp hr F13 (Fr.refl _ _) ok13 (zv) (by decide) with⟨p,rfl,rfl,hb⟩|⟨x16,st16,rfl,hm16,h16,f16,F16,n16,ok16,hrn⟩
     ·go_wp2_with fail;exact⟨rfl,rfl,hb⟩
     replace hr:=hrn;clear hrn;have o16:=zT o13 f16 (by decide) (by decide);have hr16:qn.ok (acc ++ [x11]) st16=r:=hr.out;subst hr16;go_wp2_with fail;go_ret;exact⟨_,rfl,by rw[List.length_append,List.length_singleton];omega,o16,h16,F16⟩
   |false=>
    have hnc:stc.next=st5.next:=by rw[yj hmc]
    replace hr:=zj (JB.symm.trans hr.out);replace hr:=zj (yp.symm.trans hr.out);go_wp2_with fail;refine (zH hc (by omega) [101,108,115,101]).mono ?_;rintro e w7 hp;rcases qE hp hr Fc (Fr.refl _ _) okc (zv) (by decide) with⟨p,rfl,rfl,hb⟩|⟨x7,st7,rfl,hm7,h7,f7,F7,n7,ok7,hrn⟩
    ·go_wp2_with fail;exact⟨rfl,rfl,hb⟩
    replace hr:=hrn;clear hrn;have hle7:=ok7.out.le;have ha7:=n7.adv;replace hr:=zj (yp.symm.trans hr.out);go_wp2_with fail;refine (zH h7 (by omega) [61,62]).mono ?_;rintro e w9 hp;rcases qE hp hr F7 (Fr.refl _ _) ok7 (zv) (by decide) with⟨p,rfl,rfl,hb⟩|⟨x9,st9,rfl,hm9,h9,f9,F9,n9,ok9,hrn⟩
    ·go_wp2_with fail;exact⟨rfl,rfl,hb⟩
    replace hr:=hrn;clear hrn;have hle9:=ok9.out.le;have ha9:=n9.next;have T9:=(((f5.trans fc).trans f7).trans f9);have cz9:=T9.keep _ _ _ _ hz4.out (by decide) (by decide);have o9:=zj (zT (zC (zC o3.out hb4) (zg _ _)) T9 (by decide) (by decide));have hS:∀W,vI base va.ownBlock w9.drew W→W.cell? ⟨w4.heap.size,2,none⟩=some (.int .i64 a1):=fun W hF=>zf (hF.keep _ _ _ _ hne4.out cz9 (by decide) (by decide)) 2
    clear cz9;replace hr:=zj (yp.symm.trans hr.out);go_wp2_with fail;refine LodeX.zo (RR:=zbG base va.ownBlock) (Xp:=fun c W=>∃p,r=.bad p∧c=[{v:=.iface 102 (.agg #[.int .i64 p]),recovered:=false}]∧Below base w W) [(0,0),(1,0),(2,0),(3,1),(4,0),(5,2),(6,2),(7,2),(8,2),(9,2),(10,0)] (by kernel_rfl) (by kernel_rfl) ?hX ?_
    case hX=>
     rintro c a W hd ⟨p,hrp,rfl,hb⟩;subst hrp;go_wp2_with fail;exact⟨hd,rfl,hb⟩
    iterate 5 ((first|refine LodeX.zl rfl (by rfl) (by decide) ?_|(apply LodeX.zk rfl (by rfl);· (intro w';go_simp;first|done|with_reducible rfl|(rw[if_neg (by first|omega|(simp;omega))];try with_reducible rfl)))|(apply LodeX.zt hS rfl (by rfl);· (intro w' hw';go_split_ands;go_simp;try with_reducible rfl))|fail);simp only[Act.put,zD,lsZ,lsS])
    refine LodeX.zq rfl (by rfl) (fun K hK W hW=>?_);cases hW;go_simp;refine (hR.out.expr _ _ _ (h9.below bR.drew) ok9.out (by omega)).mono ?_;rintro e w10 hp;rcases uG hp hr F9 ((Fr.of_below h9.base bR.drew)) with⟨p,hrp,rfl,hb⟩|⟨x10,st10,v,rfl,hv,hm10,h10,f10,F10,hrn⟩
    ·exact⟨rfl,p,hrp,rfl,hb⟩
    refine⟨f10.cutG,hK _ _ ?_⟩;clear hK K;replace hr:=hrn;clear hrn;unfold yI at hv;subst hv;have hS:=fun W (hF:vI base _ w10 W)=>hS W (vI.trans f10.cutG hF)
    try simp only[Act.put,zD,lsZ,lsS]
    obtain⟨n10,vd10⟩:=hR.out.good.expr ok9.out.le ok9.out.wf hm10;have ok10:=zj (ok9.out.nx n10 (by decide));have hle10:=ok10.out.le;have ha10:=n10.next;have hfew:st10.nodes.length≤1000000:=by have:=ok10.out.few;omega
    refine LodeX.zq rfl (by rfl) (fun K hK W hW=>?_);cases hW;go_simp;refine⟨(Fr.of_below h10.base (zg _ _)).cutG,hK _ _ ?_⟩;clear hK K
    try simp only[Act.put,zD,lsZ,lsS]
    replace hr:=zj (yp.symm.trans hr.out);refine LodeX.zq rfl (by rfl) (fun K hK W hW=>?_);cases hW;go_simp;refine (zJ (h10.below (zg _ _)) 65 [] 0 a1 [x10] _ (KS.lit _ _) (h10.fresh _ _) hfew).mono ?_;rintro e w11 hp;rcases uG hp hr F10 ((Fr.of_below h10.base (zg _ _))) with⟨p,hrp,rfl,hb⟩|⟨x11,st11,v,rfl,hv,hm11,h11,f11,F11,hrn⟩
    ·exact⟨rfl,p,hrp,rfl,hb⟩
    refine⟨f11.cutG,hK _ _ ?_⟩;clear hK K;replace hr:=hrn;clear hrn;unfold yI at hv;subst hv
    try simp only[Act.put,zD,lsZ,lsS]
    obtain⟨n11,vd11⟩:=zU ok10.out.le ok10.out.wf (Zm vd10) hm11;have ok11:=zj (ok3.out.nx (((((n5.trans nc).trans n7).trans n9).trans n10).trans n11) (by decide));have hle11:=ok11.out.le;have ha11:=n11.next;have o10:=zT (zC o9.out bR.drew) f10 (by decide) (by decide);have o11:=zT (zC o10 (zg _ _)) f11 (by decide) (by decide);have hs11:=F11.b.size;refine LodeX.zq rfl (by rfl) (fun K hK W hW=>?_);cases hW;go_simp;refine⟨(Fr.of_below h11.base (zg _ _)).cutG,hK _ _ ?_⟩;clear hK K
    try simp only[Act.put,zD,lsZ,lsS]
    have hbs12:=h11.base;have hss12:=F11.b.size;refine LodeX.zq rfl (by rfl) (fun K hK W hW=>?_);cases hW;refine jp _ _ rfl (by rfl) (zC o11 (zg _ _)) (by rfl) (zf (zm w11 _) 0) rfl rfl (by omega) (by simp;omega) ?_;intro g' cap' w12 hrow hgrow hg';obtain⟨v12,e12,o12,h12,gs12,FF12⟩:=yV h11 o11 (by omega) (fun g hg=>by have:=hivlt.out g hg;omega) hrow hgrow (hg'.imp id (fun h=>by simpa using h));rw[e12];refine⟨vI.grow hgrow (by simp;omega) (fun k hk=>by have:=((o11).lt k hk).1;omega),hK _ _ ?_⟩;clear hK K;replace o12:=zj o12;replace FF12:=zj FF12;clear hrow hgrow hg' e12
    try simp only[Act.put,zD,lsZ,lsS]
    have F12:=FF12.out w F11 (Nat.le_refl _) hbase
    iterate 1 ((first|refine LodeX.zl rfl (by rfl) (by decide) ?_|(apply LodeX.zk rfl (by rfl);· (intro w';go_simp;first|done|with_reducible rfl|(rw[if_neg (by first|omega|(simp;omega))];try with_reducible rfl)))|(apply LodeX.zt hS rfl (by rfl);· (intro w' hw';go_split_ands;go_simp;try with_reducible rfl))|fail);simp only[Act.put,zD,lsZ,lsS])
    refine LodeX.zu fun W hW=>?_
    cases hW;clear hS;have ok12:=ok11;replace hr:=zj (show ZF (acc ++ [x11]) E st11=r from hr.out);unfold ZF at hr;go_wp2_with fail;refine (zH h12 (by omega) [125]).mono ?_;rintro e w16 hp;rcases qE hp hr F12 (Fr.refl _ _) ok12 (zv) (by decide) with⟨p,rfl,rfl,hb⟩|⟨x16,st16,rfl,hm16,h16,f16,F16,n16,ok16,hrn⟩
    ·go_wp2_with fail;exact⟨rfl,rfl,hb⟩
    replace hr:=hrn;clear hrn;have o16:=zT o12.out f16 (by decide) (by decide);have hr16:qn.ok (acc ++ [x11]) st16=r:=hr.out;subst hr16;go_wp2_with fail;go_ret;exact⟨_,rfl,by rw[List.length_append,List.length_singleton];omega,o16,h16,F16⟩
end
section
open Go.RowKit Lode Go.Shelf
attribute [local go_sem ↓] Go.wp_at_zero Go.wp_at_succ
open Go.Proofs.Tryz
def PCt(E:zN)(base pb:Nat)(iv:Value)(n f:Nat)(m:xF→PM Int):Prop:=∀(t:xF) (G:Nat→Prop) (w:World) (st:yD),PW E base pb iv G w st→xX E st→E.toks.length-st.next<n→Calls prog f #[.pointer (some ⟨pb,0,none⟩),ku t] w (xt E base pb iv G (m t E st) yI w)
theorem JY:∀x∈z8,x.2.2= -1∨x.2.2=0∨x.2.2=((1:Nat):Int)∨x.2.2=((2:Nat):Int)∨x.2.2=((3:Nat):Int):=by decide
theorem KX{s:List UInt8}{k:Nat}{m:Int}(h:ky s=some (k,m)):m= -1∨m=0∨m=((1:Nat):Int)∨m=((2:Nat):Int)∨m=((3:Nat):Int):=by
 rcases Q2 s with⟨j,x,_,hx,_,hw⟩|⟨_,hw⟩
 ·rw[hw] at h;have hm:=JY x (List.mem_of_getElem? hx);rw[Option.some.inj h] at hm;exact hm
 ·rw[hw] at h;cases h
theorem zdB{E:zN}{base pb n:Nat}{iv:Value}{R:xD}(hR:jn E base pb iv n R)(t:xF){s:List UInt8}{k:Nat}{m:Int}(hw:ky s=some (k,m)){G:Nat→Prop}{w:World}{st0:yD}(h0:PW E base pb iv G w st0)(ok0:xX E st0)(hn:E.toks.length-st0.next<n):
 Calls prog 291 #[.pointer (some ⟨pb,0,none⟩),ku t,QO s k m] w (xt E base pb iv G (kF R t (k,m) E st0) yI w):=by
 rcases KX hw with rfl|rfl|rfl|rfl|rfl
 ·exact zcw hR t s k h0 ok0 hn
 ·exact zcx t s k h0 ok0
 ·exact YE hR t s k 1 (by decide) (by decide) h0 ok0 hn
 ·exact YE hR t s k 2 (by decide) (by decide) h0 ok0 hn
 ·exact YE hR t s k 3 (by decide) (by decide) h0 ok0 hn
def zcp(R:xD)(t:xF):PM Int:=match ky t.text with
 |some w=>if t.kind == 5 then (do jf;kF R t w) else xU R t
 |none=>xU R t
def zeS(R:xD)(t:xF):PM Int:=do
 if ←yz [116,114,117,101] then zZ 3 [] 1 t.at_ []
 else if ←yz [102,97,108,115,101] then zZ 3 [] 0 t.at_ []
 else zcp R t
def zgt(R:xD)(t:xF):PM Int:=do
 if ←yz [40] then
  if ←yz [41] then zZ 4 [] 0 t.at_ []
  else
   let x ←R.expr
   let _ ←zX [41]
   pure x
 else zeS R t
theorem zeR{E:zN}{base pb n:Nat}{iv:Value}{R:xD}(hE:KM E)(hR:jn E base pb iv n R)(hC:PCt E base pb iv (n+1) 292 (xU R)):QI E base pb iv (n+1) 278 (Zy R):=by
 intro G w st0 h0 ok0 hn;obtain⟨r,hr⟩:=exE (Zy R E st0);rw[hr];unfold Zy at hr;replace hr:=zj hr;replace ok0:=zj ok0;replace hR:=zj hR;replace hC:=zj hC;have F0:=Fr.refl base w;have hlim:=ok0.out.lim;have hle:=ok0.out.le;have hG0:=h0.glt;have hbase:=h0.base;have henter:=zj (enters_of (P:=prog) func198 (by kernel_rfl) rfl);have HT:=zj (xT h0);replace hr:=zj ((yi (show ZP E st0=.ok (zW E st0) st0 from rfl)).symm.trans hr.out);have hlt:=zj (fun (k:Nat) (h:(zW E st0).kind=k) (hk:k≠0)=>qj (E:=E) (s:=st0) (k:=k) h hk);have hnum:=zj (fun h=>hE.at (s:=st0) h);generalize zW E st0=t at *;obtain⟨k1,t1,a1⟩:=t;unfold ku at HT;go_enter func278,ntmps278;go_wp2_with fail;refine HT.out.mono ?_;rintro e w1 ⟨rfl,hb1⟩;have hb1':Below w.heap.size w w1:=zd bR hb1;have hA:=zg w1 (.cells #[.int .u8 k1,.string ⟨t1.toArray⟩,.int .i64 a1] 66 (0,0));have hz2:=zm w1 (.cells #[.int .u8 k1,.string ⟨t1.toArray⟩,.int .i64 a1] 66 (0,0));have hb2:=hb1'.trans (hA.mono hb1'.size);have h2:=h0.below hb2;have F2:=Fr.of_below h0.base hb2;have cz0:=zf hz2 0;have cz1:=zf hz2 1;have cz2:=zf hz2 2;replace hz2:=zj hz2;replace F2:=zj F2;by_cases e3:k1=3
 ·have hk:(k1 == 3)=true:=by simp[e3]
  have hi:((k1:Int) == 3)=true:=by simp[e3]
  replace hr:=zj (show (zZ 1 [] (xh t1) a1 []:PM Int) E {st0 with next:=st0.next+1}=r from by
   have:=hr.out;rw[if_pos (by exact hk)] at this;exact this)
  have HN:=zj (fun W=>um (hnum.out hk) W);unfold ku at HN;replace F2:=F2.out;have hlt2:=hlt.out 3 e3 (by decide);obtain⟨c4,f4,h3,f3⟩:=h2.skip;have hy:=IntWalk.i64_in ((st0.next:Int)+1) (by omega);have hz3:=f3.keep _ _ _ _ hz2.out (by decide) (by decide);have dz0:=zf hz3 0;have dz1:=zf hz3 1;have dz2:=zf hz3 2;have F3:=F2.trans f3;have hfew:st0.nodes.length≤1000000:=by have:=ok0.out.few;omega
  have ok3:xX E {st0 with next:=st0.next+1}:=⟨hlt2,ok0.out.wf,by have:=ok0.out.few;simp only;omega,ok0.out.lim⟩;have hS:∀W,(yN base).rel ((w1.alloc (.cells #[.int .u8 k1,.string ⟨t1.toArray⟩,.int .i64 a1] 66 (0,0))).setCell ⟨pb,4,none⟩ (.int .i64 ((st0.next:Int)+1))).drew W→(W.cell? ⟨w1.heap.size,0,none⟩=some (.int .u8 k1)∧W.cell? ⟨w1.heap.size,1,none⟩=some (.string ⟨t1.toArray⟩)∧W.cell? ⟨w1.heap.size,2,none⟩=some (.int .i64 a1)):=fun W hF=>by
   have:=hF.keep _ _ _ _ hz3 (by decide) (by decide);exact⟨zf this 0,zf this 1,zf this 2⟩
  clear hk e3 hz3;go_wp2_with fail;generalize (w1.alloc (.cells #[.int .u8 k1,.string ⟨t1.toArray⟩,.int .i64 a1] 66 (0,0))).setCell ⟨pb,4,none⟩ (.int .i64 ((st0.next:Int)+1))=w3 at *;refine LodeX.zo (RR:=yN base) (Xp:=fun c W=>∃p,r=.bad p∧c=[{v:=.iface 102 (.agg #[.int .i64 p]),recovered:=false}]∧Below base w W) [(0,0),(1,1),(3,0),(4,1),(2,2),(5,2),(6,0)] (by kernel_rfl) (by kernel_rfl) ?hX ?_
  case hX=>
   rintro c a W hd ⟨p,hrp,rfl,hb⟩;subst hrp;go_wp2_with fail;exact⟨hd,rfl,hb⟩
  iterate 4 ((first|refine LodeX.zl rfl (by rfl) (by decide) ?_|(apply LodeX.zk rfl (by rfl);· (intro w';go_simp;first|done|with_reducible rfl|(rw[if_neg (by first|omega|(simp;omega))];try with_reducible rfl)))|(apply LodeX.zt hS rfl (by rfl);· (intro w' hw';go_split_ands;go_simp;try with_reducible rfl))|fail);simp only[Act.put,zD,lsZ,lsS])
  refine LodeX.zq rfl (by rfl) (fun K hK W hW=>?_);cases hW;go_simp;refine (HN.out _).mono ?_;rintro e w4 ⟨rfl,hbN⟩;have h4:=(h3.below bR.drew).below hbN;have f4:=Fr.of_below (h3.below bR.drew).base hbN;have F4:=(F3.trans (Fr.of_below h3.base bR.drew)).trans f4;refine⟨f4,hK _ _ ?_⟩;clear hK K hbN;have hS:=fun W (hF:(yN base).rel w4 W)=>hS W (Fr.trans f4 hF)
  try simp only[Act.put,zD,lsZ,lsS]
  refine LodeX.zq rfl (by rfl) (fun K hK W hW=>?_);cases hW;go_simp;refine (zJ h4 1 [] (xh t1) a1 [] _ (KS.nil' _) xf hfew).mono ?_;rintro e w5 hp;rcases zY hp hr F4 ((Fr.refl _ _)) with⟨p,hrp,rfl,hb⟩|⟨x5,st5,rfl,hm5,hrn,h5,f5,F5⟩
  ·exact⟨rfl,p,hrp,rfl,hb⟩
  refine⟨f5,hK _ _ ?_⟩;clear hK K;subst hrn
  try simp only[Act.put,zD,lsZ,lsS]
  iterate 1 ((first|refine LodeX.zl rfl (by rfl) (by decide) ?_|(apply LodeX.zk rfl (by rfl);· (intro w';go_simp;first|done|with_reducible rfl|(rw[if_neg (by first|omega|(simp;omega))];try with_reducible rfl)))|(apply LodeX.zt hS rfl (by rfl);· (intro w' hw';go_split_ands;go_simp;try with_reducible rfl))|fail);simp only[Act.put,zD,lsZ,lsS])
  refine LodeX.zu fun W hW=>?_
  cases hW;clear hS;go_wp2_with fail;go_ret;exact⟨⟨_,rfl,rfl⟩,h5,F5⟩
 have i3:((k1:Int) == 3)=false:=by simp;omega
 by_cases e4:k1=4
 ·have hk:(k1 == 4)=true:=by simp[e4]
  have hi:((k1:Int) == 4)=true:=by simp[e4]
  replace hr:=zj (show (zZ 2 t1 0 a1 []:PM Int) E {st0 with next:=st0.next+1}=r from by
   have:=hr.out;rw[if_neg (by simp[e3]),if_pos (by exact hk)] at this;exact this)
  replace F2:=F2.out;have hlt2:=hlt.out 4 e4 (by decide);obtain⟨c4,f4,h3,f3⟩:=h2.skip;have hy:=IntWalk.i64_in ((st0.next:Int)+1) (by omega);have hz3:=f3.keep _ _ _ _ hz2.out (by decide) (by decide);have dz0:=zf hz3 0;have dz1:=zf hz3 1;have dz2:=zf hz3 2;have F3:=F2.trans f3;have hfew:st0.nodes.length≤1000000:=by have:=ok0.out.few;omega
  have ok3:xX E {st0 with next:=st0.next+1}:=⟨hlt2,ok0.out.wf,by have:=ok0.out.few;simp only;omega,ok0.out.lim⟩;clear hk e4 e3;go_wp2_with fail;refine (zJ h3 2 t1 0 a1 [] _ (KS.nil' _) xf (by exact hfew)).mono ?_;rintro e w4 hp;rcases zY hp hr F3 (Fr.refl _ _) with⟨p,rfl,rfl,hb⟩|⟨x4,st4,rfl,hm4,rfl,h4,f4,F4⟩
  ·go_wp2_with fail;exact⟨rfl,rfl,hb⟩
  go_wp2_with fail;go_ret;exact⟨⟨_,rfl,rfl⟩,h4,F4⟩
 have i4:((k1:Int) == 4)=false:=by simp;omega
 by_cases e1:k1=1
 ·have hk:(k1 == 1)=true:=by simp[e1]
  have hi:((k1:Int) == 1)=true:=by simp[e1]
  replace hr:=zj (show (zZ 5 t1 0 a1 []:PM Int) E {st0 with next:=st0.next+1}=r from by
   have:=hr.out;rw[if_neg (by simp[e3]),if_neg (by simp[e4]),if_pos (by exact hk)] at this;exact this)
  replace F2:=F2.out;have hlt2:=hlt.out 1 e1 (by decide);obtain⟨c4,f4,h3,f3⟩:=h2.skip;have hy:=IntWalk.i64_in ((st0.next:Int)+1) (by omega);have hz3:=f3.keep _ _ _ _ hz2.out (by decide) (by decide);have dz0:=zf hz3 0;have dz1:=zf hz3 1;have dz2:=zf hz3 2;have F3:=F2.trans f3;have hfew:st0.nodes.length≤1000000:=by have:=ok0.out.few;omega
  have ok3:xX E {st0 with next:=st0.next+1}:=⟨hlt2,ok0.out.wf,by have:=ok0.out.few;simp only;omega,ok0.out.lim⟩;clear hk e1 e3 e4;go_wp2_with fail;refine (zJ h3 5 t1 0 a1 [] _ (KS.nil' _) xf (by exact hfew)).mono ?_;rintro e w4 hp;rcases zY hp hr F3 (Fr.refl _ _) with⟨p,rfl,rfl,hb⟩|⟨x4,st4,rfl,hm4,rfl,h4,f4,F4⟩
  ·go_wp2_with fail;exact⟨rfl,rfl,hb⟩
  go_wp2_with fail;go_ret;exact⟨⟨_,rfl,rfl⟩,h4,F4⟩
 have i1:((k1:Int) == 1)=false:=by simp;omega
 by_cases e2:k1=2
 ·have hk:(k1 == 2)=true:=by simp[e2]
  have hi:((k1:Int) == 2)=true:=by simp[e2]
  replace hr:=zj (show (do let l ←jd R.expr;zZ 25 t1 0 a1 l:PM Int) E {st0 with next:=st0.next+1}=r from by
   have:=hr.out;rw[if_neg (by simp[e3]),if_neg (by simp[e4]),if_neg (by simp[e1]),if_pos (by exact hk)] at this;exact this)
  replace F2:=F2.out;have hlt2:=hlt.out 2 e2 (by decide);obtain⟨c4,f4,h3,f3⟩:=h2.skip;have hy:=IntWalk.i64_in ((st0.next:Int)+1) (by omega);have hz3:=f3.keep _ _ _ _ hz2.out (by decide) (by decide);have dz0:=zf hz3 0;have dz1:=zf hz3 1;have dz2:=zf hz3 2;have F3:=F2.trans f3;have hfew:st0.nodes.length≤1000000:=by have:=ok0.out.few;omega
  have ok3:xX E {st0 with next:=st0.next+1}:=⟨hlt2,ok0.out.wf,by have:=ok0.out.few;simp only;omega,ok0.out.lim⟩;have hS:∀W,(yN base).rel ((w1.alloc (.cells #[.int .u8 k1,.string ⟨t1.toArray⟩,.int .i64 a1] 66 (0,0))).setCell ⟨pb,4,none⟩ (.int .i64 ((st0.next:Int)+1))).drew W→(W.cell? ⟨w1.heap.size,0,none⟩=some (.int .u8 k1)∧W.cell? ⟨w1.heap.size,1,none⟩=some (.string ⟨t1.toArray⟩)∧W.cell? ⟨w1.heap.size,2,none⟩=some (.int .i64 a1)):=fun W hF=>by
   have:=hF.keep _ _ _ _ hz3 (by decide) (by decide);exact⟨zf this 0,zf this 1,zf this 2⟩
  clear hk e2 hz3 e1 e3 e4;go_wp2_with fail;generalize (w1.alloc (.cells #[.int .u8 k1,.string ⟨t1.toArray⟩,.int .i64 a1] 66 (0,0))).setCell ⟨pb,4,none⟩ (.int .i64 ((st0.next:Int)+1))=w3 at *;replace ok3:=zj ok3;have hn3:({st0 with next:=st0.next+1}:yD).next=st0.next+1:=rfl;generalize ({st0 with next:=st0.next+1}:yD)=st3 at *;have hb3:=F3.b.size;refine LodeX.zo (RR:=yN base) (Xp:=fun c W=>∃p,r=.bad p∧c=[{v:=.iface 102 (.agg #[.int .i64 p]),recovered:=false}]∧Below base w W) [(0,0),(1,0),(2,1),(3,0),(4,1),(5,0),(6,0),(7,2),(8,2),(9,2),(10,0)] (by kernel_rfl) (by kernel_rfl) ?hX ?_
  case hX=>
   rintro c a W hd ⟨p,hrp,rfl,hb⟩;subst hrp;go_wp2_with fail;exact⟨hd,rfl,hb⟩
  iterate 7 ((first|refine LodeX.zl rfl (by rfl) (by decide) ?_|(apply LodeX.zk rfl (by rfl);· (intro w';go_simp;first|done|with_reducible rfl|(rw[if_neg (by first|omega|(simp;omega))];try with_reducible rfl)))|(apply LodeX.zt hS rfl (by rfl);· (intro w' hw';go_split_ands;go_simp;try with_reducible rfl))|fail);simp only[Act.put,zD,lsZ,lsS])
  iterate 1 (refine LodeX.zq rfl (by rfl) (fun K hK W hW=>?_);cases hW;go_simp;refine⟨Fr.refl _ _,hK _ _ ?_⟩;clear hK K;try simp only[Act.put,zD,lsZ,lsS])
  refine LodeX.zq rfl (by rfl) (fun K hK W hW=>?_);cases hW;go_simp;refine (YT hR.out.expr hR.out.good.expr henter.out (h3.below bR.drew) ok3.out (by omega)).mono ?_;rintro e w4 hp;rcases VY hp hr F3 ((Fr.of_below h3.base bR.drew)) with⟨p,hrp,rfl,hb⟩|⟨x4,st4,v4,rfl,l4,o4,hm4,h4,f4,F4,hrn⟩
  ·exact⟨rfl,p,hrp,rfl,hb⟩
  refine⟨f4,hK _ _ ?_⟩;clear hK K;replace hr:=hrn;clear hrn;have hS:=fun W (hF:(yN base).rel w4 W)=>hS W (Fr.trans f4 hF)
  try simp only[Act.put,zD,lsZ,lsS]
  obtain⟨n4,vl4⟩:=vN hR.out.good.expr ok3.out.le ok3.out.wf hm4;have ok4:=zj (ok3.out.nx n4 (by decide));have hle4:=ok4.out.le;have hfew4:=ok4.out.few;have hsz3:(w3.drew).heap.size=w3.heap.size:=rfl;refine LodeX.zq rfl (by rfl) (fun K hK W hW=>?_);cases hW;go_simp;refine (zJ h4.ungw 25 t1 0 a1 x4 _ (KS.own o4) (yF o4 (fun g hg=>by have:=hG0 g hg;omega)) (by omega)).mono ?_;rintro e w5 hp;rcases zY hp hr F4 ((Fr.refl _ _)) with⟨p,hrp,rfl,hb⟩|⟨x5,st5,rfl,hm5,hrn,h5,f5,F5⟩
  ·exact⟨rfl,p,hrp,rfl,hb⟩
  refine⟨f5,hK _ _ ?_⟩;clear hK K;subst hrn
  try simp only[Act.put,zD,lsZ,lsS]
  iterate 1 ((first|refine LodeX.zl rfl (by rfl) (by decide) ?_|(apply LodeX.zk rfl (by rfl);· (intro w';go_simp;first|done|with_reducible rfl|(rw[if_neg (by first|omega|(simp;omega))];try with_reducible rfl)))|(apply LodeX.zt hS rfl (by rfl);· (intro w' hw';go_split_ands;go_simp;try with_reducible rfl))|fail);simp only[Act.put,zD,lsZ,lsS])
  refine LodeX.zu fun W hW=>?_
  cases hW;clear hS;go_wp2_with fail;go_ret;exact⟨⟨_,rfl,rfl⟩,h5,F5⟩
 have i2:((k1:Int) == 2)=false:=by simp;omega
 replace hr:=zj (show zgt R ⟨k1,t1,a1⟩ E st0=r from by
  have:=hr.out;rw[if_neg (by simp[e3]),if_neg (by simp[e4]),if_neg (by simp[e1]),if_neg (by simp[e2])] at this;exact this)
 clear e1 e2 e3 e4 cz0 cz1 cz2;unfold zgt at hr;replace F2:=F2.out;have ok2:=ok0;go_wp2_with fail;refine (ym h2 (by omega) [40]).mono ?_;rintro e w3 hp;rcases Zf hp hr F2 (Fr.refl _ _) ok2 with⟨p,rfl,rfl,hb⟩|⟨x3,st3,rfl,hm3,h3,f3,F3,n3,ok3,hrn⟩
 ·go_wp2_with fail;exact⟨rfl,rfl,hb⟩
 replace hr:=hrn;clear hrn;have hle3:=ok3.out.le;cases x3 with
 |true=>
  have ha3:=yA hm3;replace hr:=zj ((if_pos (rfl:true=true)▸hr.out:_));go_wp2_with fail;refine (ym h3 (by omega) [41]).mono ?_;rintro e w4 hp;rcases Zf hp hr F3 (Fr.refl _ _) ok3 with⟨p,rfl,rfl,hb⟩|⟨x4,st4,rfl,hm4,h4,f4,F4,n4,ok4,hrn⟩
  ·go_wp2_with fail;exact⟨rfl,rfl,hb⟩
  replace hr:=hrn;clear hrn;have hle4:=ok4.out.le;cases x4 with
  |true=>
   replace hr:=zj ((if_pos (rfl:true=true)▸hr.out:_));have dz:=zf ((f3.trans f4).keep _ _ _ _ hz2.out (by decide) (by decide)) 2;have hfew:st4.nodes.length≤1000000:=by have:=ok4.out.few;omega
   go_wp2_with fail;refine (zJ h4 4 [] 0 a1 [] _ (KS.nil' _) xf hfew).mono ?_;rintro e w5 hp;rcases zY hp hr F4 (Fr.refl _ _) with⟨p,rfl,rfl,hb⟩|⟨x5,st5,rfl,hm5,rfl,h5,f5,F5⟩
   ·go_wp2_with fail;exact⟨rfl,rfl,hb⟩
   go_wp2_with fail;go_ret;exact⟨⟨_,rfl,rfl⟩,h5,F5⟩
  |false=>
   replace hr:=zj (show (do let x ←R.expr;let _ ←zX [41];pure x:PM Int) E st4=r from hr.out);have hn4:st4.next=st3.next:=by rw[yj hm4]
   go_wp2_with fail;refine (hR.out.expr _ _ _ h4 ok4.out (by omega)).mono ?_;rintro e w5 hp;rcases Yn hp hr F4 (Fr.refl _ _) ok4 (hR.out.good.expr) (by decide) with⟨p,rfl,rfl,hb⟩|⟨x5,st5,rfl,hm5,h5,f5,F5,n5,vd5,ok5,hrn⟩
   ·go_wp2_with fail;exact⟨rfl,rfl,hb⟩
   replace hr:=hrn;clear hrn;have hle5:=ok5.out.le;go_wp2_with fail;refine (zH h5 (by omega) [41]).mono ?_;rintro e w6 hp;rcases qE hp hr F5 (Fr.refl _ _) ok5 (zv) (by decide) with⟨p,rfl,rfl,hb⟩|⟨x6,st6,rfl,hm6,h6,f6,F6,n6,ok6,hrn⟩
   ·go_wp2_with fail;exact⟨rfl,rfl,hb⟩
   replace hr:=hrn;clear hrn;have hr6:qn.ok x5 st6=r:=hr.out;subst hr6;go_wp2_with fail;go_ret;exact⟨⟨_,rfl,rfl⟩,h6,F6⟩
 |false=>
  replace hr:=zj (show zeS R ⟨k1,t1,a1⟩ E st3=r from hr.out);have hn3:st3.next=st0.next:=by rw[yj hm3]
  unfold zeS at hr;go_wp2_with fail;refine (ym h3 (by omega) [116,114,117,101]).mono ?_;rintro e w4 hp;rcases Zf hp hr F3 (Fr.refl _ _) ok3 with⟨p,rfl,rfl,hb⟩|⟨x4,st4,rfl,hm4,h4,f4,F4,n4,ok4,hrn⟩
  ·go_wp2_with fail;exact⟨rfl,rfl,hb⟩
  replace hr:=hrn;clear hrn;have hle4:=ok4.out.le;have T4:=f3.trans f4;cases x4 with
  |true=>
   replace hr:=zj ((if_pos (rfl:true=true)▸hr.out:_));have dz:=zf (T4.keep _ _ _ _ hz2.out (by decide) (by decide)) 2;have hfew:st4.nodes.length≤1000000:=by have:=ok4.out.few;omega
   go_wp2_with fail;refine (zJ h4 3 [] 1 a1 [] _ (KS.nil' _) xf hfew).mono ?_;rintro e w5 hp;rcases zY hp hr F4 (Fr.refl _ _) with⟨p,rfl,rfl,hb⟩|⟨x5,st5,rfl,hm5,rfl,h5,f5,F5⟩
   ·go_wp2_with fail;exact⟨rfl,rfl,hb⟩
   go_wp2_with fail;go_ret;exact⟨⟨_,rfl,rfl⟩,h5,F5⟩
  |false=>
   replace hr:=zj (show (do if ←yz [102,97,108,115,101] then zZ 3 [] 0 a1 [] else zcp R ⟨k1,t1,a1⟩:PM Int) E st4=r from hr.out);have hn4:st4.next=st3.next:=by rw[yj hm4]
   go_wp2_with fail;refine (ym h4 (by omega) [102,97,108,115,101]).mono ?_;rintro e w5 hp;rcases Zf hp hr F4 (Fr.refl _ _) ok4 with⟨p,rfl,rfl,hb⟩|⟨x5,st5,rfl,hm5,h5,f5,F5,n5,ok5,hrn⟩
   ·go_wp2_with fail;exact⟨rfl,rfl,hb⟩
   replace hr:=hrn;clear hrn;have hle5:=ok5.out.le;have T5:=T4.trans f5;cases x5 with
   |true=>
    replace hr:=zj ((if_pos (rfl:true=true)▸hr.out:_));have dz:=zf (T5.keep _ _ _ _ hz2.out (by decide) (by decide)) 2;have hfew:st5.nodes.length≤1000000:=by have:=ok5.out.few;omega
    go_wp2_with fail;refine (zJ h5 3 [] 0 a1 [] _ (KS.nil' _) xf hfew).mono ?_;rintro e w6 hp;rcases zY hp hr F5 (Fr.refl _ _) with⟨p,rfl,rfl,hb⟩|⟨x6,st6,rfl,hm6,rfl,h6,f6,F6⟩
    ·go_wp2_with fail;exact⟨rfl,rfl,hb⟩
    go_wp2_with fail;go_ret;exact⟨⟨_,rfl,rfl⟩,h6,F6⟩
   |false=>
    replace hr:=zj (show zcp R ⟨k1,t1,a1⟩ E st5=r from hr.out);have hn5:st5.next=st4.next:=by rw[yj hm5]
    have hlt5:k1≠0→st5.next<E.toks.length:=fun h=>by have:=hlt.out k1 rfl h;omega
    replace hlt5:=zj hlt5;have hle50:st5.next≤st0.next:=by omega
    have hge50:st0.next≤st5.next:=by omega
    clear hn3 hn4 hn5;have hz5:=T5.keep _ _ _ _ hz2.out (by decide) (by decide);have c1:=zf hz5 1;have HW:=zj (fun W=>zat t1 W);unfold zcp at hr;unfold zbL at HW;simp only at hr;cases hw:ky t1 with
    |none=>
     rw[hw] at hr HW;simp only at hr HW;unfold QO at HW;clear hw;go_wp2_with fail;refine (HW.out _).mono ?_;rintro e w6 ⟨rfl,hb6⟩;have h6:=h5.below hb6;have F6:=F5.trans (Fr.of_below h5.base hb6);have hz6:=zi (zd hb6 (zg w6 (.cells #[.string ⟨#[]⟩,.int .u8 0,.int .i64 0] 180 (0,0)))) hz5;have d0:=zf hz6 0;have d1:=zf hz6 1;have d2:=zf hz6 2;have HC:=zj (hC.out ⟨k1,t1,a1⟩ _ _ _ (h6.below (zg w6 (.cells #[.string ⟨#[]⟩,.int .u8 0,.int .i64 0] 180 (0,0)))) ok5.out (by omega));unfold ku at HC;clear hz6 hz5;go_wp2_with fail;refine (HC.out).mono ?_;rintro e w7 hp;rcases zY hp hr F6 (Fr.of_below h6.base (zg _ _)) with⟨p,rfl,rfl,hb⟩|⟨x7,st7,rfl,hm7,rfl,h7,f7,F7⟩
     ·go_wp2_with fail;exact⟨rfl,rfl,hb⟩
     go_wp2_with fail;go_ret;exact⟨⟨_,rfl,rfl⟩,h7,F7⟩
    |some x=>
     obtain⟨wk,wm⟩:=x;have hwA:=zj (fun (G:Nat→Prop) (w:World) (st:yD) (h:PW E base pb iv G w st) (ok:xX E st) (hn:E.toks.length-st.next<n)=>zdB hR.out ⟨k1,t1,a1⟩ hw h ok hn);rw[hw] at hr HW;simp only at hr HW;unfold QO at HW;clear hw;go_wp2_with fail;refine (HW.out _).mono ?_;rintro e w6 ⟨rfl,hb6⟩;have h6:=h5.below hb6;have F6:=F5.trans (Fr.of_below h5.base hb6);have hz6:=zi (zd hb6 (zg w6 (.cells #[.string ⟨t1.toArray⟩,.int .u8 wk,.int .i64 wm] 180 (0,0)))) hz5;have hw6:=zm w6 (.cells #[.string ⟨t1.toArray⟩,.int .u8 wk,.int .i64 wm] 180 (0,0));have h7:=h6.below (zg w6 (.cells #[.string ⟨t1.toArray⟩,.int .u8 wk,.int .i64 wm] 180 (0,0)));have F7:=F6.trans (Fr.of_below h6.base (zg w6 (.cells #[.string ⟨t1.toArray⟩,.int .u8 wk,.int .i64 wm] 180 (0,0))));have d0:=zf hz6 0;have d1:=zf hz6 1;have d2:=zf hz6 2;by_cases e5:k1=5
     ·have i5:((k1:Int) == 5)=true:=by simp[e5]
      replace hr:=zj (show kF R ⟨k1,t1,a1⟩ (wk,wm) E {st5 with next:=st5.next+1}=r from by
       have:=hr.out;rw[if_pos (by simp[e5])] at this;exact this)
      have hlt9:=hlt5.out (by omega);obtain⟨c4,f4,h8,f8⟩:=h7.skip;have hy:=IntWalk.i64_in ((st5.next:Int)+1) (by omega);have hz8:=f8.keep _ _ _ _ hz6 (by decide) (by decide);have hw8:=f8.keep _ _ _ _ hw6 (by decide) (by decide);have g0:=zf hz8 0;have g1:=zf hz8 1;have g2:=zf hz8 2;have u0:=zf hw8 0;have u1:=zf hw8 1;have u2:=zf hw8 2;have F8:=F7.trans f8;have ok8:xX E {st5 with next:=st5.next+1}:=⟨hlt9,ok5.out.wf,by have:=ok5.out.few;simp only;omega,ok5.out.lim⟩;have HC:=zj (hwA.out _ _ _ h8 ok8 (by simp only;omega));unfold ku QO at HC;clear hz8 hw8 hz6 hw6 hz5 e5;go_wp2_with fail;refine (HC.out).mono ?_;rintro e w9 hp;rcases zY hp hr F8 (Fr.refl _ _) with⟨p,rfl,rfl,hb⟩|⟨x9,st9,rfl,hm9,rfl,h9,f9,F9⟩
      ·go_wp2_with fail;exact⟨rfl,rfl,hb⟩
      go_wp2_with fail;go_ret;exact⟨⟨_,rfl,rfl⟩,h9,F9⟩
     ·have i5:((k1:Int) == 5)=false:=by simp;omega
      replace hr:=zj (show xU R ⟨k1,t1,a1⟩ E st5=r from by
       have:=hr.out;rw[if_neg (by simp[e5])] at this;exact this)
      have HC:=zj (hC.out ⟨k1,t1,a1⟩ _ _ _ h7 ok5.out (by omega));unfold ku at HC;clear hz6 hw6 hz5 e5;go_wp2_with fail;refine (HC.out).mono ?_;rintro e w8 hp;rcases zY hp hr F7 (Fr.refl _ _) with⟨p,rfl,rfl,hb⟩|⟨x8,st8,rfl,hm8,rfl,h8,f8,F8⟩
      ·go_wp2_with fail;exact⟨rfl,rfl,hb⟩
      go_wp2_with fail;go_ret;exact⟨⟨_,rfl,rfl⟩,h8,F8⟩
end
section
open Go.RowKit Lode Go.Shelf
attribute [local go_sem ↓] Go.wp_at_zero Go.wp_at_succ
attribute [local go_sem] XT zgS XS
open Go.Proofs.Tryz
theorem qI{α:Type}{A B:PM α}{E:zN}{s:yD}:(if true=true then A else B) E s=A E s:=rfl
theorem xW{α:Type}{A B:PM α}{E:zN}{s:yD}:(if false=true then A else B) E s=B E s:=rfl
theorem zdA{w:World}{o:Oper}{a:Act}{K:Act→World→Prop}{X:Exit→Act→World→Prop}(s x:Operand)
 (ho:o.op=.call {callee:=.builtin .append,args:= #[s,x],argTypes:= #[24,24]})
 {base g n cap:Nat} {xs:List Value} (hs:a.eval s=.slice (some ⟨g,0,none⟩) n cap) (hown:w.ownsRow base 3 1 (.slice (some ⟨g,0,none⟩) n cap) n xs) {b2:Nat} {u:Value} {ys:List Int} (hx:a.eval x=u) (hu:w.ownsRow b2 3 1 u ys.length (yH ys)) (hne:ys≠[]) (hn:n+ys.length≤1000000) (hbase:base≤w.heap.size)
 (h:∀g' cap' w',w'.ownsRow base 3 1 (.slice (some ⟨g',0,none⟩) (n+ys.length) cap') (n+ys.length) (xs ++ yH ys)→w.grownBy w' (some g)→(g'=g∨g'=w.heap.size)→K (a.put o.dst (.slice (some ⟨g',0,none⟩) (n+ys.length) cap')) w'):o.wp prog a w K X:=by
 obtain⟨g2,c2,rfl,hnews⟩:=VM hu hne;have hl:(yH ys).length=ys.length:=by simp
 obtain⟨g',cap',w',hr,h2,h3,h4⟩:=YO hown c2 hnews (Ym ys) (by rw[hl];exact hn) hbase o.type;rw[hl] at hr h2;rw[hl] at hx;unfold Oper.wp;simp[execOp,ho,resolve,invoke,builtin,hs,hx,hr,Result.andThen];exact h g' cap' w' h2 h3 h4
theorem zai{E:zN}{base pb n:Nat}{iv:Value}{R:xD}(hE:KM E)(hR:jn E base pb iv n R):PCt E base pb iv (n+1) 292 (xU R):=by
 intro t G w st0 h0 ok0 hn;obtain⟨r,hr⟩:=exE (xU R t E st0);rw[hr];unfold xU at hr;replace hr:=zj hr;replace ok0:=zj ok0;replace hR:=zj hR;have hlim:=ok0.out.lim;have hle:=ok0.out.le;have hG0:=h0.glt;have hbase:=h0.base;have hivlt:=zj (fun g=>h0.ivlt (g:=g));have henter:=zj (enters_of (P:=prog) func300 (by kernel_rfl) rfl);have henter2:=zj (enters_of (P:=prog) func301 (by kernel_rfl) rfl);obtain⟨k1,t1,a1⟩:=t;unfold ku;simp only at hr ⊢;have hA:=zg w (.cells #[.int .u8 k1,.string ⟨t1.toArray⟩,.int .i64 a1] 66 (0,0));have hz:=zj (zm w (.cells #[.int .u8 k1,.string ⟨t1.toArray⟩,.int .i64 a1] 66 (0,0)));have hB:=h0.below hA;have FB:=(Fr.refl base w).trans (Fr.of_below h0.base hA);have HI:=qZ hB [105,102];rw[show (w.alloc (.cells #[.int .u8 k1,.string ⟨t1.toArray⟩,.int .i64 a1] 66 (0,0))).heap.size=w.heap.size+1 by simp] at HI;replace HI:=zj HI;go_enter func292,ntmps292;go_wp2_with fail;refine HI.out.mono ?_;rintro e w1 ⟨rfl,hb1⟩;have hb1:=zd (zg (w.alloc (.cells #[.int .u8 k1,.string ⟨t1.toArray⟩,.int .i64 a1] 66 (0,0))) (.cells #[.string ⟨[105,102].toArray⟩] 9 (0,0))) (by simpa using hb1);have h1:=hB.below hb1;have T1:=Fr.of_below hB.base hb1;have F1:=FB.trans T1;have ok1:=ok0;cases hk:Zo (zW E st0) [[105,102]] with
 |true=>
  replace hr:=zj ((kg hk).symm.trans hr.out);go_wp2_with fail;refine (QD hR.out _ _ _ h1 ok1.out hn).mono ?_;rintro e w2 hp;rcases zY hp hr F1 (Fr.refl _ _) with⟨p,rfl,rfl,hb⟩|⟨x2,st2,rfl,hm2,rfl,h2,f2,F2⟩
  ·go_wp2_with fail;exact⟨rfl,rfl,hb⟩
  go_wp2_with fail;go_ret;exact⟨⟨_,rfl,rfl⟩,h2,F2⟩
 |false=>
  replace hr:=zj ((jh hk).symm.trans hr.out);clear hk;go_wp2_with fail;refine (ym h1 (by omega) [119,104,105,108,101]).mono ?_;rintro e wq0 hp;rcases Zf hp hr F1 (Fr.refl _ _) ok1 with⟨p,rfl,rfl,hb⟩|⟨xq0,stq0,rfl,hmq0,hq0,fq0,Fq0,nq0,okq0,hrn⟩
  ·go_wp2_with fail;exact⟨rfl,rfl,hb⟩
  replace hr:=hrn;clear hrn;have hleq0:=okq0.out.le;have Tq0:=T1.trans fq0;cases xq0 with
  |true=>
   have haaa:=yA hmq0;replace hr:=zj (qI.symm.trans hr.out);have haa:=hq0;have Faa:=Fq0;have Taa:=Tq0;have okaa:=okq0;clear hmq0;go_wp2_with fail;refine (hR.out.expr _ _ _ haa okaa.out (by omega)).mono ?_;rintro e wbb hp;rcases Yn hp hr Faa (Fr.refl _ _) okaa (hR.out.good.expr) (by decide) with⟨p,rfl,rfl,hb⟩|⟨xbb,stbb,rfl,hmbb,hbb,fbb,Fbb,nbb,vdbb,okbb,hrn⟩
   ·go_wp2_with fail;exact⟨rfl,rfl,hb⟩
   replace hr:=hrn;clear hrn;have hlebb:=okbb.out.le;have habb:=nbb.next;have cz:=(Taa.trans fbb).keep _ _ _ _ hz.out (by decide) (by decide);have hS:∀W,(yN base).rel wbb.drew W→W.cell? ⟨w.heap.size,2,none⟩=some (.int .i64 a1):=fun W hF=>zf (hF.keep _ _ _ _ cz (by decide) (by decide)) 2
   clear cz;go_wp2_with fail;refine LodeX.zo (RR:=yN base) (Xp:=fun c W=>∃p,r=.bad p∧c=[{v:=.iface 102 (.agg #[.int .i64 p]),recovered:=false}]∧Below base w W) [(0,0),(1,0),(2,1),(3,0),(4,0),(5,2),(6,2),(7,2),(8,0)] (by kernel_rfl) (by kernel_rfl) ?hX ?_
   case hX=>
    rintro c a W hd ⟨p,hrp,rfl,hb⟩;subst hrp;go_wp2_with fail;exact⟨hd,rfl,hb⟩
   iterate 5 ((first|refine LodeX.zl rfl (by rfl) (by decide) ?_|(apply LodeX.zk rfl (by rfl);· (intro w';go_simp;first|done|with_reducible rfl|(rw[if_neg (by first|omega|(simp;omega))];try with_reducible rfl)))|(apply LodeX.zt hS rfl (by rfl);· (intro w' hw';go_split_ands;go_simp;try with_reducible rfl))|fail);simp only[Act.put,zD,lsZ,lsS])
   refine LodeX.zq rfl (by rfl) (fun K hK W hW=>?_);cases hW;go_simp;refine (hR.out.block _ _ _ (hbb.below bR.drew) okbb.out (by omega)).mono ?_;rintro e wcc hp;rcases uG hp hr Fbb ((Fr.of_below hbb.base bR.drew)) with⟨p,hrp,rfl,hb⟩|⟨xcc,stcc,v,rfl,hv,hmcc,hcc,fcc,Fcc,hrn⟩
   ·exact⟨rfl,p,hrp,rfl,hb⟩
   refine⟨fcc,hK _ _ ?_⟩;clear hK K;replace hr:=hrn;clear hrn;unfold yI at hv;subst hv;have hS:=fun W (hF:(yN base).rel wcc W)=>hS W (Fr.trans fcc hF)
   try simp only[Act.put,zD,lsZ,lsS]
   obtain⟨ncc,vdcc⟩:=hR.out.good.block okbb.out.le okbb.out.wf hmcc;have okcc:=okbb.out.nx ncc (by decide);have hfew:stcc.nodes.length≤1000000:=by have:=okcc.few;have:=okcc.le;omega
   refine LodeX.zq rfl (by rfl) (fun K hK W hW=>?_);cases hW;go_simp;refine⟨Fr.of_below hcc.base (zg _ _),hK _ _ ?_⟩;clear hK K
   try simp only[Act.put,zD,lsZ,lsS]
   refine LodeX.zq rfl (by rfl) (fun K hK W hW=>?_);cases hW;go_simp;refine (zJ (hcc.below (zg _ _)) 30 [] 0 a1 [xbb,xcc] _ (KS.lit _ [xbb,xcc]) (hcc.fresh _ _) hfew).mono ?_;rintro e wdd hp;rcases zY hp hr Fcc (Fr.of_below hcc.base (zg _ _)) with⟨p,hrp,rfl,hb⟩|⟨xdd,stdd,rfl,hmdd,hrn,hdd,fdd,Fdd⟩
   ·exact⟨rfl,p,hrp,rfl,hb⟩
   refine⟨fdd,hK _ _ ?_⟩;clear hK K;subst hrn
   try simp only[Act.put,zD,lsZ,lsS]
   iterate 1 ((first|refine LodeX.zl rfl (by rfl) (by decide) ?_|(apply LodeX.zk rfl (by rfl);· (intro w';go_simp;first|done|with_reducible rfl|(rw[if_neg (by first|omega|(simp;omega))];try with_reducible rfl)))|(apply LodeX.zt hS rfl (by rfl);· (intro w' hw';go_split_ands;go_simp;try with_reducible rfl))|fail);simp only[Act.put,zD,lsZ,lsS])
   refine LodeX.zu fun W hW=>?_
   cases hW;clear hS;go_wp2_with fail;go_ret;exact⟨⟨_,rfl,rfl⟩,hdd,Fdd⟩
  |false=>
   have hst:stq0=st0:=yj hmq0;replace hr:=zj (xW.symm.trans hr.out);subst hst;clear hmq0;go_wp2_with fail;refine (ym hq0 (by omega) [109,97,116,99,104]).mono ?_;rintro e wq1 hp;rcases Zf hp hr Fq0 (Fr.refl _ _) okq0 with⟨p,rfl,rfl,hb⟩|⟨xq1,stq1,rfl,hmq1,hq1,fq1,Fq1,nq1,okq1,hrn⟩
   ·go_wp2_with fail;exact⟨rfl,rfl,hb⟩
   replace hr:=hrn;clear hrn;have hleq1:=okq1.out.le;have Tq1:=Tq0.trans fq1;cases xq1 with
   |true=>
    have haaa:=yA hmq1;replace hr:=zj (qI.symm.trans hr.out);have haa:=hq1;have Faa:=Fq1;have Taa:=Tq1;have okaa:=okq1;clear hmq1;go_wp2_with fail;refine (hR.out.expr _ _ _ haa okaa.out (by omega)).mono ?_;rintro e wbb hp;rcases Yn hp hr Faa (Fr.refl _ _) okaa (hR.out.good.expr) (by decide) with⟨p,rfl,rfl,hb⟩|⟨xbb,stbb,rfl,hmbb,hbb,fbb,Fbb,nbb,vdbb,okbb,hrn⟩
    ·go_wp2_with fail;exact⟨rfl,rfl,hb⟩
    replace hr:=hrn;clear hrn;have hlebb:=okbb.out.le;have habb:=nbb.next;have hg:=hbb.glit (.cells #[.int .i64 xbb] 3 (0,0)) 1 1;have Tbb:=(Taa.trans fbb).trans (Fr.of_below hbb.base (zg wbb (.cells #[.int .i64 xbb] 3 (0,0))));have Fg:=Fbb.trans (Fr.of_below hbb.base (zg wbb (.cells #[.int .i64 xbb] 3 (0,0))));have og:=Km wbb xbb rfl;have cz:=Tbb.keep _ _ _ _ hz.out (by decide) (by decide);have hwbb:w.heap.size+1≤wbb.heap.size:=by have:=(Taa.trans fbb).b.size;simp at this;omega
    have hsb:=Fbb.b.size;have hsg:(wbb.alloc (.cells #[.int .i64 xbb] 3 (0,0))).heap.size=wbb.heap.size+1:=by simp
    go_wp2_with fail;have hne:some w.heap.size≠some wbb.heap.size:=fun e=>by
     have:=Option.some.inj e;omega
    have hS:∀W,vI base (some wbb.heap.size) (wbb.alloc (.cells #[.int .i64 xbb] 3 (0,0))).drew W→W.cell? ⟨w.heap.size,2,none⟩=some (.int .i64 a1):=fun W hF=>zf (hF.keep _ _ _ _ hne cz (by decide) (by decide)) 2
    clear cz;generalize wbb.alloc (.cells #[.int .i64 xbb] 3 (0,0))=wg at *;refine LodeX.zo (RR:=zbG base (some wbb.heap.size)) (Xp:=fun c W=>∃p,r=.bad p∧c=[{v:=.iface 102 (.agg #[.int .i64 p]),recovered:=false}]∧Below base w W) [(0,0),(1,0),(2,1),(3,0),(4,0),(5,0),(6,2),(7,2),(8,2),(9,2),(10,0)] (by kernel_rfl) (by kernel_rfl) ?hX ?_
    case hX=>
     rintro c a W hd ⟨p,hrp,rfl,hb⟩;subst hrp;go_wp2_with fail;exact⟨hd,rfl,hb⟩
    iterate 6 ((first|refine LodeX.zl rfl (by rfl) (by decide) ?_|(apply LodeX.zk rfl (by rfl);· (intro w';go_simp;first|done|with_reducible rfl|(rw[if_neg (by first|omega|(simp;omega))];try with_reducible rfl)))|(apply LodeX.zt hS rfl (by rfl);· (intro w' hw';go_split_ands;go_simp;try with_reducible rfl))|fail);simp only[Act.put,zD,lsZ,lsS])
    iterate 1 (refine LodeX.zq rfl (by rfl) (fun K hK W hW=>?_);cases hW;go_simp;refine⟨vI.refl _ _ _,hK _ _ ?_⟩;clear hK K;try simp only[Act.put,zD,lsZ,lsS])
    refine LodeX.zq rfl (by rfl) (fun K hK W hW=>?_);cases hW;go_simp;refine (uC (zgc hR.out) (zbE hR.out.good) henter.out (hg.below bR.drew) okbb.out (by omega)).mono ?_;rintro e wcc hp;rcases VY hp hr Fg ((Fr.of_below hg.base bR.drew)) with⟨p,hrp,rfl,hb⟩|⟨xcc,stcc,vcc,rfl,lcc,occ,hmcc,hcc,fcc,Fcc,hrn⟩
    ·exact⟨rfl,p,hrp,rfl,hb⟩
    refine⟨fcc.cutG,hK _ _ ?_⟩;clear hK K;replace hr:=hrn;clear hrn;have hS:=fun W (hF:vI base _ wcc W)=>hS W (vI.trans fcc.cutG hF)
    try simp only[Act.put,zD,lsZ,lsS]
    obtain⟨ncc,vlcc⟩:=jk (zbE hR.out.good) okbb.out.le okbb.out.wf hmcc;have okcc:=okbb.out.nx ncc (by decide);have hlecc:=okcc.le;have hnecc:=zdr hmcc;have pcc:wcc.ownsRow wbb.heap.size 3 1 (.slice (some ⟨wbb.heap.size,0,none⟩) 1 1) 1 (yH [xbb]):=zT (zC og bR.drew) fcc (by decide) (by decide);have hfew:stcc.nodes.length≤1000000:=by have:=okcc.few;omega
    have hbsc:=hcc.base;have hsc:wg.heap.size≤wcc.heap.size:=fcc.b.size;refine LodeX.zq rfl (by rfl) (fun K hK W hW=>?_);cases hW;refine zdA _ _ rfl (by rfl) pcc (by rfl) occ hnecc (by omega) (by omega) ?_;intro g' cap' wdd hrow hgrow hg';obtain⟨vdd,edd,odd,hdd,gsdd,FFdd⟩:=JC (G:=G) (acc:=[xbb]) hcc (fun g hg=>.inl (.inr hg)) (fun g hg=>.inl (.inl hg)) pcc (by omega) (fun g hg=>by have:=hivlt.out g hg;omega) hrow hgrow (hg'.imp (fun h=>by rw[h];rfl) id);have edd':Value.slice (some ⟨g',0,none⟩) (1+xcc.length) cap'=vdd:=edd;rw[edd'];refine⟨vI.grow hgrow hbsc (fun k hk=>by have:=Option.some.inj hk;omega),hK _ _ ?_⟩;clear hK K;have Fdd:=FFdd w Fcc (by omega) hbase;replace odd:=zj odd;clear hrow hgrow hg' edd edd'
    try simp only[Act.put,zD,lsZ,lsS]
    refine LodeX.zq rfl (by rfl) (fun K hK W hW=>?_);cases hW;go_simp;refine (zJ hdd.ungw 31 [] 0 a1 ([xbb] ++ xcc) _ (KS.own odd.out) (yF odd.out (fun g hg=>by have:=hG0 g hg;omega)) hfew).mono ?_;rintro e wff hp;rcases zY hp hr Fdd ((Fr.refl _ _)) with⟨p,hrp,rfl,hb⟩|⟨xff,stff,rfl,hmff,hrn,hff,fff,Fff⟩
    ·exact⟨rfl,p,hrp,rfl,hb⟩
    refine⟨fff.cutG,hK _ _ ?_⟩;clear hK K;subst hrn
    try simp only[Act.put,zD,lsZ,lsS]
    iterate 1 ((first|refine LodeX.zl rfl (by rfl) (by decide) ?_|(apply LodeX.zk rfl (by rfl);· (intro w';go_simp;first|done|with_reducible rfl|(rw[if_neg (by first|omega|(simp;omega))];try with_reducible rfl)))|(apply LodeX.zt hS rfl (by rfl);· (intro w' hw';go_split_ands;go_simp;try with_reducible rfl))|fail);simp only[Act.put,zD,lsZ,lsS])
    refine LodeX.zu fun W hW=>?_
    cases hW;clear hS;go_wp2_with fail;go_ret;exact⟨⟨_,rfl,rfl⟩,hff,Fff⟩
   |false=>
    have hst:stq1=stq0:=yj hmq1;replace hr:=zj (xW.symm.trans hr.out);subst hst;clear hmq1;go_wp2_with fail;refine (ym hq1 (by omega) [102,110]).mono ?_;rintro e wq2 hp;rcases Zf hp hr Fq1 (Fr.refl _ _) okq1 with⟨p,rfl,rfl,hb⟩|⟨xq2,stq2,rfl,hmq2,hq2,fq2,Fq2,nq2,okq2,hrn⟩
    ·go_wp2_with fail;exact⟨rfl,rfl,hb⟩
    replace hr:=hrn;clear hrn;have hleq2:=okq2.out.le;have Tq2:=Tq1.trans fq2;cases xq2 with
    |true=>
     have haaa:=yA hmq2;replace hr:=zj (qI.symm.trans hr.out);have haa:=hq2;have Faa:=Fq2;have Taa:=Tq2;have okaa:=okq2;clear hmq2;go_wp2_with fail;refine (Yq hR.out haa okaa.out (by omega)).mono ?_;rintro e wbb hp;rcases VY hp hr Faa (Fr.refl _ _) with⟨p,rfl,rfl,hb⟩|⟨xbb,stbb,vbb,rfl,lbb,obb,hmbb,hbb,fbb,Fbb,hrn⟩
     ·go_wp2_with fail;exact⟨rfl,rfl,hb⟩
     replace hr:=hrn;clear hrn;obtain⟨nbb,vlbb⟩:=uw hR.out.good okaa.out.le okaa.out.wf hmbb;have okbb:=zj (okaa.out.nx nbb (by decide));have hlebb:=okbb.out.le;have habb:=nbb.next;have hwaa:=Taa.b.size;simp only[World.size_alloc] at hwaa;have hvb:=obb.lt;have hne:some w.heap.size≠vbb.ownBlock:=fun e=>by
      have:=(hvb _ e.symm).1;omega
     replace obb:=zj obb;have cz:=(Taa.trans fbb).keep _ _ _ _ hz.out (by decide) (by decide);have hS:∀W,vI base vbb.ownBlock wbb.drew W→W.cell? ⟨w.heap.size,2,none⟩=some (.int .i64 a1):=fun W hF=>zf (hF.keep _ _ _ _ hne cz (by decide) (by decide)) 2
     clear cz hvb hne;have hsa:=Faa.b.size;go_wp2_with fail;refine LodeX.zo (RR:=zbG base vbb.ownBlock) (Xp:=fun c W=>∃p,r=.bad p∧c=[{v:=.iface 102 (.agg #[.int .i64 p]),recovered:=false}]∧Below base w W) [(0,0),(1,0),(2,1),(3,0),(4,0),(5,2),(6,2),(7,2),(8,2),(9,0)] (by kernel_rfl) (by kernel_rfl) ?hX ?_
     case hX=>
      rintro c a W hd ⟨p,hrp,rfl,hb⟩;subst hrp;go_wp2_with fail;exact⟨hd,rfl,hb⟩
     iterate 5 ((first|refine LodeX.zl rfl (by rfl) (by decide) ?_|(apply LodeX.zk rfl (by rfl);· (intro w';go_simp;first|done|with_reducible rfl|(rw[if_neg (by first|omega|(simp;omega))];try with_reducible rfl)))|(apply LodeX.zt hS rfl (by rfl);· (intro w' hw';go_split_ands;go_simp;try with_reducible rfl))|fail);simp only[Act.put,zD,lsZ,lsS])
     refine LodeX.zq rfl (by rfl) (fun K hK W hW=>?_);cases hW;go_simp;refine (hR.out.block _ _ _ (hbb.below bR.drew) okbb.out (by omega)).mono ?_;rintro e wcc hp;rcases uG hp hr Fbb ((Fr.of_below hbb.base bR.drew)) with⟨p,hrp,rfl,hb⟩|⟨xcc,stcc,v,rfl,hv,hmcc,hcc,fcc,Fcc,hrn⟩
     ·exact⟨rfl,p,hrp,rfl,hb⟩
     refine⟨fcc.cutG,hK _ _ ?_⟩;clear hK K;replace hr:=hrn;clear hrn;unfold yI at hv;subst hv;have hS:=fun W (hF:vI base _ wcc W)=>hS W (vI.trans fcc.cutG hF)
     try simp only[Act.put,zD,lsZ,lsS]
     obtain⟨ncc,vdcc⟩:=hR.out.good.block okbb.out.le okbb.out.wf hmcc;have okcc:=okbb.out.nx ncc (by decide);have hlecc:=okcc.le;have hfew:stcc.nodes.length≤1000000:=by have:=okcc.few;omega
     have occ:=zT (zC obb.out bR.drew) fcc (by decide) (by decide);have hsc:wbb.heap.size≤wcc.heap.size:=fcc.b.size;have hsb:=fbb.b.size;refine LodeX.zq rfl (by rfl) (fun K hK W hW=>?_);cases hW;go_simp;refine⟨(Fr.of_below hcc.base (zg _ _)).cutG,hK _ _ ?_⟩;clear hK K
     try simp only[Act.put,zD,lsZ,lsS]
     have hbsdd:=hcc.base;have hssdd:=Fcc.b.size;refine LodeX.zq rfl (by rfl) (fun K hK W hW=>?_);cases hW;refine jp _ _ rfl (by rfl) (zC occ (zg _ _)) (by rfl) (zf (zm wcc _) 0) rfl rfl (by omega) (by simp;omega) ?_;intro g' cap' wdd hrow hgrow hg';obtain⟨vdd,edd,odd,hdd,gsdd,FFdd⟩:=yV hcc occ (by omega) (fun g hg=>by have:=hivlt.out g hg;omega) hrow hgrow (hg'.imp id (fun h=>by simpa using h));rw[edd];refine⟨vI.grow hgrow (by simp;omega) (fun k hk=>by have:=((occ).lt k hk).1;omega),hK _ _ ?_⟩;clear hK K;replace odd:=zj odd;replace FFdd:=zj FFdd;clear hrow hgrow hg' edd
     try simp only[Act.put,zD,lsZ,lsS]
     have Fdd:=FFdd.out w Fcc (by omega) hbase;refine LodeX.zq rfl (by rfl) (fun K hK W hW=>?_);cases hW;go_simp;refine (zJ hdd.ungw 33 [] 0 a1 (xbb ++ [xcc]) _ (KS.own odd.out) (yF odd.out (fun g hg=>by have:=hG0 g hg;omega)) hfew).mono ?_;rintro e wff hp;rcases zY hp hr Fdd ((Fr.refl _ _)) with⟨p,hrp,rfl,hb⟩|⟨xff,stff,rfl,hmff,hrn,hff,fff,Fff⟩
     ·exact⟨rfl,p,hrp,rfl,hb⟩
     refine⟨fff.cutG,hK _ _ ?_⟩;clear hK K;subst hrn
     try simp only[Act.put,zD,lsZ,lsS]
     iterate 1 ((first|refine LodeX.zl rfl (by rfl) (by decide) ?_|(apply LodeX.zk rfl (by rfl);· (intro w';go_simp;first|done|with_reducible rfl|(rw[if_neg (by first|omega|(simp;omega))];try with_reducible rfl)))|(apply LodeX.zt hS rfl (by rfl);· (intro w' hw';go_split_ands;go_simp;try with_reducible rfl))|fail);simp only[Act.put,zD,lsZ,lsS])
     refine LodeX.zu fun W hW=>?_
     cases hW;clear hS;go_wp2_with fail;go_ret;exact⟨⟨_,rfl,rfl⟩,hff,Fff⟩
    |false=>
     have hst:stq2=stq1:=yj hmq2;replace hr:=zj (xW.symm.trans hr.out);subst hst;clear hmq2;go_wp2_with fail;refine (ym hq2 (by omega) [116,114,121]).mono ?_;rintro e wq3 hp;rcases Zf hp hr Fq2 (Fr.refl _ _) okq2 with⟨p,rfl,rfl,hb⟩|⟨xq3,stq3,rfl,hmq3,hq3,fq3,Fq3,nq3,okq3,hrn⟩
     ·go_wp2_with fail;exact⟨rfl,rfl,hb⟩
     replace hr:=hrn;clear hrn;have hleq3:=okq3.out.le;have Tq3:=Tq2.trans fq3;cases xq3 with
     |true=>
      have haaa:=yA hmq3;replace hr:=zj (qI.symm.trans hr.out);have haa:=hq3;have Faa:=Fq3;have Taa:=Tq3;have okaa:=okq3;clear hmq3;go_wp2_with fail;refine (hR.out.block _ _ _ haa okaa.out (by omega)).mono ?_;rintro e wbb hp;rcases Yn hp hr Faa (Fr.refl _ _) okaa (hR.out.good.block) (by decide) with⟨p,rfl,rfl,hb⟩|⟨xbb,stbb,rfl,hmbb,hbb,fbb,Fbb,nbb,vdbb,okbb,hrn⟩
      ·go_wp2_with fail;exact⟨rfl,rfl,hb⟩
      replace hr:=hrn;clear hrn;have hlebb:=okbb.out.le;have habb:=nbb.next;go_wp2_with fail;refine (zH hbb (by omega) [99,97,116,99,104]).mono ?_;rintro e wcc hp;rcases qE hp hr Fbb (Fr.refl _ _) okbb (zv) (by decide) with⟨p,rfl,rfl,hb⟩|⟨xcc,stcc,rfl,hmcc,hcc,fcc,Fcc,ncc,okcc,hrn⟩
      ·go_wp2_with fail;exact⟨rfl,rfl,hb⟩
      replace hr:=hrn;clear hrn;have hlecc:=okcc.out.le;have hacc:=ncc.next;go_wp2_with fail;refine (xd hcc (by omega) 1).mono ?_;rintro e wdd hp;rcases qE hp hr Fcc (Fr.refl _ _) okcc (yl (by decide)) (by decide) with⟨p,rfl,rfl,hb⟩|⟨xdd,stdd,rfl,hmdd,hdd,fdd,Fdd,ndd,okdd,hrn⟩
      ·go_wp2_with fail;exact⟨rfl,rfl,hb⟩
      replace hr:=hrn;clear hrn;have hledd:=okdd.out.le;have hadd:=ndd.next;obtain⟨kdd,tdd,add⟩:=xdd;simp only at hr ⊢;have cz:=(((Taa.trans fbb).trans fcc).trans fdd).keep _ _ _ _ hz.out (by decide) (by decide);have hS:∀W,(yN base).rel wdd.drew W→W.cell? ⟨w.heap.size,2,none⟩=some (.int .i64 a1):=fun W hF=>zf (hF.keep _ _ _ _ cz (by decide) (by decide)) 2
      clear cz;go_wp2_with fail;refine LodeX.zo (RR:=yN base) (Xp:=fun c W=>∃p,r=.bad p∧c=[{v:=.iface 102 (.agg #[.int .i64 p]),recovered:=false}]∧Below base w W) [(0,0),(1,0),(2,0),(3,1),(4,0),(5,0),(6,2),(7,2),(8,2),(9,0)] (by kernel_rfl) (by kernel_rfl) ?hX ?_
      case hX=>
       rintro c a W hd ⟨p,hrp,rfl,hb⟩;subst hrp;go_wp2_with fail;exact⟨hd,rfl,hb⟩
      iterate 6 ((first|refine LodeX.zl rfl (by rfl) (by decide) ?_|(apply LodeX.zk rfl (by rfl);· (intro w';go_simp;first|done|with_reducible rfl|(rw[if_neg (by first|omega|(simp;omega))];try with_reducible rfl)))|(apply LodeX.zt hS rfl (by rfl);· (intro w' hw';go_split_ands;go_simp;try with_reducible rfl))|fail);simp only[Act.put,zD,lsZ,lsS])
      refine LodeX.zq rfl (by rfl) (fun K hK W hW=>?_);cases hW;go_simp;refine (hR.out.block _ _ _ (hdd.below bR.drew) okdd.out (by omega)).mono ?_;rintro e wee hp;rcases uG hp hr Fdd ((Fr.of_below hdd.base bR.drew)) with⟨p,hrp,rfl,hb⟩|⟨xee,stee,v,rfl,hv,hmee,hee,fee,Fee,hrn⟩
      ·exact⟨rfl,p,hrp,rfl,hb⟩
      refine⟨fee,hK _ _ ?_⟩;clear hK K;replace hr:=hrn;clear hrn;unfold yI at hv;subst hv;have hS:=fun W (hF:(yN base).rel wee W)=>hS W (Fr.trans fee hF)
      try simp only[Act.put,zD,lsZ,lsS]
      obtain⟨nee,vdee⟩:=hR.out.good.block okdd.out.le okdd.out.wf hmee;have okee:=okdd.out.nx nee (by decide);have hfew:stee.nodes.length≤1000000:=by have:=okee.few;have:=okee.le;omega
      refine LodeX.zq rfl (by rfl) (fun K hK W hW=>?_);cases hW;go_simp;refine⟨Fr.of_below hee.base (zg _ _),hK _ _ ?_⟩;clear hK K
      try simp only[Act.put,zD,lsZ,lsS]
      refine LodeX.zq rfl (by rfl) (fun K hK W hW=>?_);cases hW;go_simp;refine (zJ (hee.below (zg _ _)) 34 tdd 0 a1 [xbb,xee] _ (KS.lit _ [xbb,xee]) (hee.fresh _ _) hfew).mono ?_;rintro e wff hp;rcases zY hp hr Fee (Fr.of_below hee.base (zg _ _)) with⟨p,hrp,rfl,hb⟩|⟨xff,stff,rfl,hmff,hrn,hff,fff,Fff⟩
      ·exact⟨rfl,p,hrp,rfl,hb⟩
      refine⟨fff,hK _ _ ?_⟩;clear hK K;subst hrn
      try simp only[Act.put,zD,lsZ,lsS]
      iterate 1 ((first|refine LodeX.zl rfl (by rfl) (by decide) ?_|(apply LodeX.zk rfl (by rfl);· (intro w';go_simp;first|done|with_reducible rfl|(rw[if_neg (by first|omega|(simp;omega))];try with_reducible rfl)))|(apply LodeX.zt hS rfl (by rfl);· (intro w' hw';go_split_ands;go_simp;try with_reducible rfl))|fail);simp only[Act.put,zD,lsZ,lsS])
      refine LodeX.zu fun W hW=>?_
      cases hW;clear hS;go_wp2_with fail;go_ret;exact⟨⟨_,rfl,rfl⟩,hff,Fff⟩
     |false=>
      have hst:stq3=stq2:=yj hmq3;replace hr:=zj (xW.symm.trans hr.out);subst hst;clear hmq3;go_wp2_with fail;refine (ym hq3 (by omega) [104,111,108,100]).mono ?_;rintro e wq4 hp;rcases Zf hp hr Fq3 (Fr.refl _ _) okq3 with⟨p,rfl,rfl,hb⟩|⟨xq4,stq4,rfl,hmq4,hq4,fq4,Fq4,nq4,okq4,hrn⟩
      ·go_wp2_with fail;exact⟨rfl,rfl,hb⟩
      replace hr:=hrn;clear hrn;have hleq4:=okq4.out.le;have Tq4:=Tq3.trans fq4;cases xq4 with
      |true=>
       have haaa:=yA hmq4;replace hr:=zj (qI.symm.trans hr.out);have haa:=hq4;have Faa:=Fq4;have Taa:=Tq4;have okaa:=okq4;clear hmq4;go_wp2_with fail;refine (hR.out.expr _ _ _ haa okaa.out (by omega)).mono ?_;rintro e wbb hp;rcases Yn hp hr Faa (Fr.refl _ _) okaa (hR.out.good.expr) (by decide) with⟨p,rfl,rfl,hb⟩|⟨xbb,stbb,rfl,hmbb,hbb,fbb,Fbb,nbb,vdbb,okbb,hrn⟩
       ·go_wp2_with fail;exact⟨rfl,rfl,hb⟩
       replace hr:=hrn;clear hrn;have hlebb:=okbb.out.le;have habb:=nbb.next;go_wp2_with fail;refine (zH hbb (by omega) [97,115]).mono ?_;rintro e wcc hp;rcases qE hp hr Fbb (Fr.refl _ _) okbb (zv) (by decide) with⟨p,rfl,rfl,hb⟩|⟨xcc,stcc,rfl,hmcc,hcc,fcc,Fcc,ncc,okcc,hrn⟩
       ·go_wp2_with fail;exact⟨rfl,rfl,hb⟩
       replace hr:=hrn;clear hrn;have hlecc:=okcc.out.le;have hacc:=ncc.next;go_wp2_with fail;refine (xd hcc (by omega) 1).mono ?_;rintro e wdd hp;rcases qE hp hr Fcc (Fr.refl _ _) okcc (yl (by decide)) (by decide) with⟨p,rfl,rfl,hb⟩|⟨xdd,stdd,rfl,hmdd,hdd,fdd,Fdd,ndd,okdd,hrn⟩
       ·go_wp2_with fail;exact⟨rfl,rfl,hb⟩
       replace hr:=hrn;clear hrn;have hledd:=okdd.out.le;have hadd:=ndd.next;obtain⟨kdd,tdd,add⟩:=xdd;simp only at hr ⊢;go_wp2_with fail;refine (hR.out.block _ _ _ hdd okdd.out (by omega)).mono ?_;rintro e wii hp;rcases Yn hp hr Fdd (Fr.refl _ _) okdd (hR.out.good.block) (by decide) with⟨p,rfl,rfl,hb⟩|⟨xii,stii,rfl,hmii,hii,fii,Fii,nii,vdii,okii,hrn⟩
       ·go_wp2_with fail;exact⟨rfl,rfl,hb⟩
       replace hr:=hrn;clear hrn;have hleii:=okii.out.le;have haii:=nii.next;go_wp2_with fail;refine (zH hii (by omega) [101,108,115,101]).mono ?_;rintro e wjj hp;rcases qE hp hr Fii (Fr.refl _ _) okii (zv) (by decide) with⟨p,rfl,rfl,hb⟩|⟨xjj,stjj,rfl,hmjj,hjj,fjj,Fjj,njj,okjj,hrn⟩
       ·go_wp2_with fail;exact⟨rfl,rfl,hb⟩
       replace hr:=hrn;clear hrn;have hlejj:=okjj.out.le;have hajj:=njj.next;have cz:=(((((Taa.trans fbb).trans fcc).trans fdd).trans fii).trans fjj).keep _ _ _ _ hz.out (by decide) (by decide);have hS:∀W,(yN base).rel wjj.drew W→W.cell? ⟨w.heap.size,2,none⟩=some (.int .i64 a1):=fun W hF=>zf (hF.keep _ _ _ _ cz (by decide) (by decide)) 2
       clear cz;go_wp2_with fail;refine LodeX.zo (RR:=yN base) (Xp:=fun c W=>∃p,r=.bad p∧c=[{v:=.iface 102 (.agg #[.int .i64 p]),recovered:=false}]∧Below base w W) [(0,0),(1,0),(2,0),(3,1),(4,0),(5,0),(6,0),(7,2),(8,2),(9,2),(10,0)] (by kernel_rfl) (by kernel_rfl) ?hX ?_
       case hX=>
        rintro c a W hd ⟨p,hrp,rfl,hb⟩;subst hrp;go_wp2_with fail;exact⟨hd,rfl,hb⟩
       iterate 7 ((first|refine LodeX.zl rfl (by rfl) (by decide) ?_|(apply LodeX.zk rfl (by rfl);· (intro w';go_simp;first|done|with_reducible rfl|(rw[if_neg (by first|omega|(simp;omega))];try with_reducible rfl)))|(apply LodeX.zt hS rfl (by rfl);· (intro w' hw';go_split_ands;go_simp;try with_reducible rfl))|fail);simp only[Act.put,zD,lsZ,lsS])
       refine LodeX.zq rfl (by rfl) (fun K hK W hW=>?_);cases hW;go_simp;refine (hR.out.block _ _ _ (hjj.below bR.drew) okjj.out (by omega)).mono ?_;rintro e wee hp;rcases uG hp hr Fjj ((Fr.of_below hjj.base bR.drew)) with⟨p,hrp,rfl,hb⟩|⟨xee,stee,v,rfl,hv,hmee,hee,fee,Fee,hrn⟩
       ·exact⟨rfl,p,hrp,rfl,hb⟩
       refine⟨fee,hK _ _ ?_⟩;clear hK K;replace hr:=hrn;clear hrn;unfold yI at hv;subst hv;have hS:=fun W (hF:(yN base).rel wee W)=>hS W (Fr.trans fee hF)
       try simp only[Act.put,zD,lsZ,lsS]
       obtain⟨nee,vdee⟩:=hR.out.good.block okjj.out.le okjj.out.wf hmee;have okee:=okjj.out.nx nee (by decide);have hfew:stee.nodes.length≤1000000:=by have:=okee.few;have:=okee.le;omega
       refine LodeX.zq rfl (by rfl) (fun K hK W hW=>?_);cases hW;go_simp;refine⟨Fr.of_below hee.base (zg _ _),hK _ _ ?_⟩;clear hK K
       try simp only[Act.put,zD,lsZ,lsS]
       refine LodeX.zq rfl (by rfl) (fun K hK W hW=>?_);cases hW;go_simp;refine (zJ (hee.below (zg _ _)) 36 tdd 0 a1 [xbb,xii,xee] _ (KS.lit _ [xbb,xii,xee]) (hee.fresh _ _) hfew).mono ?_;rintro e wff hp;rcases zY hp hr Fee (Fr.of_below hee.base (zg _ _)) with⟨p,hrp,rfl,hb⟩|⟨xff,stff,rfl,hmff,hrn,hff,fff,Fff⟩
       ·exact⟨rfl,p,hrp,rfl,hb⟩
       refine⟨fff,hK _ _ ?_⟩;clear hK K;subst hrn
       try simp only[Act.put,zD,lsZ,lsS]
       iterate 1 ((first|refine LodeX.zl rfl (by rfl) (by decide) ?_|(apply LodeX.zk rfl (by rfl);· (intro w';go_simp;first|done|with_reducible rfl|(rw[if_neg (by first|omega|(simp;omega))];try with_reducible rfl)))|(apply LodeX.zt hS rfl (by rfl);· (intro w' hw';go_split_ands;go_simp;try with_reducible rfl))|fail);simp only[Act.put,zD,lsZ,lsS])
       refine LodeX.zu fun W hW=>?_
       cases hW;clear hS;go_wp2_with fail;go_ret;exact⟨⟨_,rfl,rfl⟩,hff,Fff⟩
      |false=>
       have hst:stq4=stq3:=yj hmq4;replace hr:=zj (xW.symm.trans hr.out);subst hst;clear hmq4;go_wp2_with fail;refine (ym hq4 (by omega) [110,101,119]).mono ?_;rintro e wq5 hp;rcases Zf hp hr Fq4 (Fr.refl _ _) okq4 with⟨p,rfl,rfl,hb⟩|⟨xq5,stq5,rfl,hmq5,hq5,fq5,Fq5,nq5,okq5,hrn⟩
       ·go_wp2_with fail;exact⟨rfl,rfl,hb⟩
       replace hr:=hrn;clear hrn;have hleq5:=okq5.out.le;have Tq5:=Tq4.trans fq5;cases xq5 with
       |true=>
        have haaa:=yA hmq5;replace hr:=zj (qI.symm.trans hr.out);have haa:=hq5;have Faa:=Fq5;have Taa:=Tq5;have okaa:=okq5;clear hmq5;go_wp2_with fail;refine (xd haa (by omega) 2).mono ?_;rintro e wdd hp;rcases qE hp hr Faa (Fr.refl _ _) okaa (yl (by decide)) (by decide) with⟨p,rfl,rfl,hb⟩|⟨xdd,stdd,rfl,hmdd,hdd,fdd,Fdd,ndd,okdd,hrn⟩
        ·go_wp2_with fail;exact⟨rfl,rfl,hb⟩
        replace hr:=hrn;clear hrn;have hledd:=okdd.out.le;have hadd:=ndd.next;obtain⟨kdd,tdd,add⟩:=xdd;simp only at hr ⊢;have cz:=(Taa.trans fdd).keep _ _ _ _ hz.out (by decide) (by decide);have hS:∀W,(yN base).rel wdd.drew W→W.cell? ⟨w.heap.size,2,none⟩=some (.int .i64 a1):=fun W hF=>zf (hF.keep _ _ _ _ cz (by decide) (by decide)) 2
        clear cz;have hwdd:=Fdd.b.size;have hszdd:(wdd.drew).heap.size=wdd.heap.size:=rfl;go_wp2_with fail;refine LodeX.zo (RR:=yN base) (Xp:=fun c W=>∃p,r=.bad p∧c=[{v:=.iface 102 (.agg #[.int .i64 p]),recovered:=false}]∧Below base w W) [(0,0),(1,0),(2,0),(3,1),(4,0),(5,0),(6,2),(7,2),(8,2),(9,0)] (by kernel_rfl) (by kernel_rfl) ?hX ?_
        case hX=>
         rintro c a W hd ⟨p,hrp,rfl,hb⟩;subst hrp;go_wp2_with fail;exact⟨hd,rfl,hb⟩
        iterate 6 ((first|refine LodeX.zl rfl (by rfl) (by decide) ?_|(apply LodeX.zk rfl (by rfl);· (intro w';go_simp;first|done|with_reducible rfl|(rw[if_neg (by first|omega|(simp;omega))];try with_reducible rfl)))|(apply LodeX.zt hS rfl (by rfl);· (intro w' hw';go_split_ands;go_simp;try with_reducible rfl))|fail);simp only[Act.put,zD,lsZ,lsS])
        iterate 1 (refine LodeX.zq rfl (by rfl) (fun K hK W hW=>?_);cases hW;go_simp;refine⟨Fr.refl _ _,hK _ _ ?_⟩;clear hK K;try simp only[Act.put,zD,lsZ,lsS])
        refine LodeX.zq rfl (by rfl) (fun K hK W hW=>?_);cases hW;go_simp;refine (uC (zfq hR.out) (za3 hR.out.good) henter2.out (hdd.below bR.drew) okdd.out (by omega)).mono ?_;rintro e wee hp;rcases VY hp hr Fdd ((Fr.of_below hdd.base bR.drew)) with⟨p,hrp,rfl,hb⟩|⟨xee,stee,vee,rfl,lee,oee,hmee,hee,fee,Fee,hrn⟩
        ·exact⟨rfl,p,hrp,rfl,hb⟩
        refine⟨fee,hK _ _ ?_⟩;clear hK K;replace hr:=hrn;clear hrn;have hS:=fun W (hF:(yN base).rel wee W)=>hS W (Fr.trans fee hF)
        try simp only[Act.put,zD,lsZ,lsS]
        obtain⟨nee,vlee⟩:=jk (za3 hR.out.good) okdd.out.le okdd.out.wf hmee;have okee:=okdd.out.nx nee (by decide);have hfew:stee.nodes.length≤1000000:=by have:=okee.few;have:=okee.le;omega
        refine LodeX.zq rfl (by rfl) (fun K hK W hW=>?_);cases hW;go_simp;refine (zJ hee.ungw 26 tdd 0 a1 xee _ (KS.own oee) (yF oee (fun g hg=>by have:=hG0 g hg;omega)) hfew).mono ?_;rintro e wff hp;rcases zY hp hr Fee ((Fr.refl _ _)) with⟨p,hrp,rfl,hb⟩|⟨xff,stff,rfl,hmff,hrn,hff,fff,Fff⟩
        ·exact⟨rfl,p,hrp,rfl,hb⟩
        refine⟨fff,hK _ _ ?_⟩;clear hK K;subst hrn
        try simp only[Act.put,zD,lsZ,lsS]
        iterate 1 ((first|refine LodeX.zl rfl (by rfl) (by decide) ?_|(apply LodeX.zk rfl (by rfl);· (intro w';go_simp;first|done|with_reducible rfl|(rw[if_neg (by first|omega|(simp;omega))];try with_reducible rfl)))|(apply LodeX.zt hS rfl (by rfl);· (intro w' hw';go_split_ands;go_simp;try with_reducible rfl))|fail);simp only[Act.put,zD,lsZ,lsS])
        refine LodeX.zu fun W hW=>?_
        cases hW;clear hS;go_wp2_with fail;go_ret;exact⟨⟨_,rfl,rfl⟩,hff,Fff⟩
       |false=>
        have hst:stq5=stq4:=yj hmq5;replace hr:=zj (xW.symm.trans hr.out);subst hst;clear hmq5;go_wp2_with fail;refine (ym hq5 (by omega) [99,104,97,110]).mono ?_;rintro e wq6 hp;rcases Zf hp hr Fq5 (Fr.refl _ _) okq5 with⟨p,rfl,rfl,hb⟩|⟨xq6,stq6,rfl,hmq6,hq6,fq6,Fq6,nq6,okq6,hrn⟩
        ·go_wp2_with fail;exact⟨rfl,rfl,hb⟩
        replace hr:=hrn;clear hrn;have hleq6:=okq6.out.le;have Tq6:=Tq5.trans fq6;cases xq6 with
        |true=>
         have haaa:=yA hmq6;replace hr:=zj (qI.symm.trans hr.out);have haa:=hq6;have Faa:=Fq6;have Taa:=Tq6;have okaa:=okq6;clear hmq6;go_wp2_with fail;refine (hR.out.kind _ _ _ haa okaa.out (by omega)).mono ?_;rintro e wbb hp;rcases Yn hp hr Faa (Fr.refl _ _) okaa (hR.out.good.kind) (by decide) with⟨p,rfl,rfl,hb⟩|⟨xbb,stbb,rfl,hmbb,hbb,fbb,Fbb,nbb,vdbb,okbb,hrn⟩
         ·go_wp2_with fail;exact⟨rfl,rfl,hb⟩
         replace hr:=hrn;clear hrn;have hlebb:=okbb.out.le;have habb:=nbb.next;go_wp2_with fail;refine (zH hbb (by omega) [40]).mono ?_;rintro e wcc hp;rcases qE hp hr Fbb (Fr.refl _ _) okbb (zv) (by decide) with⟨p,rfl,rfl,hb⟩|⟨xcc,stcc,rfl,hmcc,hcc,fcc,Fcc,ncc,okcc,hrn⟩
         ·go_wp2_with fail;exact⟨rfl,rfl,hb⟩
         replace hr:=hrn;clear hrn;have hlecc:=okcc.out.le;have hacc:=ncc.next;go_wp2_with fail;refine (xd hcc (by omega) 3).mono ?_;rintro e wdd hp;rcases uG hp hr Fcc (Fr.refl _ _) with⟨p,rfl,rfl,hb⟩|⟨xdd,stdd,v,rfl,hv,hmdd,hdd,fdd,Fdd,hrn⟩
         ·go_wp2_with fail;exact⟨rfl,rfl,hb⟩
         replace hr:=hrn;clear hrn;obtain⟨ndd,_⟩:=yl (by decide) okcc.out.le okcc.out.wf hmdd;have okdd:=zj (okcc.out.nx ndd (by decide));unfold jJ ku at hv;subst hv;have hledd:=okdd.out.le;have hadd:=ndd.next;have hNdd:=Vj hE hmdd;have HN:=zj (fun W=>um hNdd W);unfold ku at HN;unfold vR at hr;obtain⟨kdd,tdd,add⟩:=xdd;simp only at hr;go_wp2_with fail;refine (HN.out _).mono ?_;rintro e wnn ⟨rfl,hbn⟩;have hnn:=hdd.below hbn;have Fnn:=Fdd.trans (Fr.of_below hdd.base hbn);have oknn:=okdd;have Tnn:=(((Taa.trans fbb).trans fcc).trans fdd).trans (Fr.of_below hdd.base hbn);go_wp2_with fail;refine (zH hnn (by omega) [41]).mono ?_;rintro e wii hp;rcases qE hp hr Fnn (Fr.refl _ _) oknn (zv) (by decide) with⟨p,rfl,rfl,hb⟩|⟨xii,stii,rfl,hmii,hii,fii,Fii,nii,okii,hrn⟩
         ·go_wp2_with fail;exact⟨rfl,rfl,hb⟩
         replace hr:=hrn;clear hrn;have cz:=zf ((Tnn.trans fii).keep _ _ _ _ hz.out (by decide) (by decide)) 2;have hfew:stii.nodes.length≤1000000:=by have:=okii.out.few;have:=okii.out.le;omega
         go_wp2_with fail;refine (zJ (hii.below (zg _ _)) 40 [] (xh tdd) a1 [xbb] _ (KS.lit _ [xbb]) (hii.fresh _ _) hfew).mono ?_;rintro e wjj hp;rcases zY hp hr Fii (Fr.of_below hii.base (zg _ _)) with⟨p,rfl,rfl,hb⟩|⟨xjj,stjj,rfl,hmjj,rfl,hjj,fjj,Fjj⟩
         ·go_wp2_with fail;exact⟨rfl,rfl,hb⟩
         go_wp2_with fail;go_ret;exact⟨⟨_,rfl,rfl⟩,hjj,Fjj⟩
        |false=>
         have hst:stq6=stq5:=yj hmq6;replace hr:=zj (xW.symm.trans hr.out);subst hst;clear hmq6;go_wp2_with fail;refine (zH hq6 (by omega) [115,101,108,101,99,116]).mono ?_;rintro e wdd hp;rcases qE hp hr Fq6 (Fr.refl _ _) okq6 (zv) (by decide) with⟨p,rfl,rfl,hb⟩|⟨xdd,stdd,rfl,hmdd,hdd,fdd,Fdd,ndd,okdd,hrn⟩
         ·go_wp2_with fail;exact⟨rfl,rfl,hb⟩
         replace hr:=hrn;clear hrn;have hledd:=okdd.out.le;have hadd:=ndd.adv;have cz:=(Tq6.trans fdd).keep _ _ _ _ hz.out (by decide) (by decide);have hS:∀W,(yN base).rel wdd.drew W→W.cell? ⟨w.heap.size,2,none⟩=some (.int .i64 a1):=fun W hF=>zf (hF.keep _ _ _ _ cz (by decide) (by decide)) 2
         clear cz;have hwdd:=Fdd.b.size;have hszdd:(wdd.drew).heap.size=wdd.heap.size:=rfl;go_wp2_with fail;refine LodeX.zo (RR:=yN base) (Xp:=fun c W=>∃p,r=.bad p∧c=[{v:=.iface 102 (.agg #[.int .i64 p]),recovered:=false}]∧Below base w W) [(0,0),(1,0),(2,1),(3,0),(4,2),(5,2),(6,0)] (by kernel_rfl) (by kernel_rfl) ?hX ?_
         case hX=>
          rintro c a W hd ⟨p,hrp,rfl,hb⟩;subst hrp;go_wp2_with fail;exact⟨hd,rfl,hb⟩
         iterate 4 ((first|refine LodeX.zl rfl (by rfl) (by decide) ?_|(apply LodeX.zk rfl (by rfl);· (intro w';go_simp;first|done|with_reducible rfl|(rw[if_neg (by first|omega|(simp;omega))];try with_reducible rfl)))|(apply LodeX.zt hS rfl (by rfl);· (intro w' hw';go_split_ands;go_simp;try with_reducible rfl))|fail);simp only[Act.put,zD,lsZ,lsS])
         refine LodeX.zq rfl (by rfl) (fun K hK W hW=>?_);cases hW;go_simp;refine (zdC hR.out (hdd.below bR.drew) okdd.out (by omega)).mono ?_;rintro e wee hp;rcases VY hp hr Fdd ((Fr.of_below hdd.base bR.drew)) with⟨p,hrp,rfl,hb⟩|⟨xee,stee,vee,rfl,lee,oee,hmee,hee,fee,Fee,hrn⟩
         ·exact⟨rfl,p,hrp,rfl,hb⟩
         refine⟨fee,hK _ _ ?_⟩;clear hK K;replace hr:=hrn;clear hrn;have hS:=fun W (hF:(yN base).rel wee W)=>hS W (Fr.trans fee hF)
         try simp only[Act.put,zD,lsZ,lsS]
         obtain⟨nee,vlee⟩:=Ja hR.out.good okdd.out.le okdd.out.wf hmee;have okee:=okdd.out.nx nee (by decide);have hfew:stee.nodes.length≤1000000:=by have:=okee.few;have:=okee.le;omega
         refine LodeX.zq rfl (by rfl) (fun K hK W hW=>?_);cases hW;go_simp;refine (zJ hee.ungw 35 [] 0 a1 xee _ (KS.own oee) (yF oee (fun g hg=>by have:=hG0 g hg;omega)) hfew).mono ?_;rintro e wff hp;rcases zY hp hr Fee ((Fr.refl _ _)) with⟨p,hrp,rfl,hb⟩|⟨xff,stff,rfl,hmff,hrn,hff,fff,Fff⟩
         ·exact⟨rfl,p,hrp,rfl,hb⟩
         refine⟨fff,hK _ _ ?_⟩;clear hK K;subst hrn
         try simp only[Act.put,zD,lsZ,lsS]
         iterate 1 ((first|refine LodeX.zl rfl (by rfl) (by decide) ?_|(apply LodeX.zk rfl (by rfl);· (intro w';go_simp;first|done|with_reducible rfl|(rw[if_neg (by first|omega|(simp;omega))];try with_reducible rfl)))|(apply LodeX.zt hS rfl (by rfl);· (intro w' hw';go_split_ands;go_simp;try with_reducible rfl))|fail);simp only[Act.put,zD,lsZ,lsS])
         refine LodeX.zu fun W hW=>?_
         cases hW;clear hS;go_wp2_with fail;go_ret;exact⟨⟨_,rfl,rfl⟩,hff,Fff⟩
end
section
open Go.RowKit Lode Go.Shelf
attribute [local go_sem ↓] Go.wp_at_zero Go.wp_at_succ
open Go.Proofs.Tryz
theorem zeF{E:zN}{base pb n:Nat}{iv:Value}{m:PM Int}(hB:PCb E base pb iv n 0 m):QI E base pb iv n 198 m:=by
 intro G w st0 h0 ok0 hn;obtain⟨r,hr⟩:=exE (m E st0);rw[hr];replace hr:=zj hr;have F0:=Fr.refl base w;replace hB:=zj hB;replace ok0:=zj ok0;go_enter func198,ntmps198;go_wp2_with fail;refine (hB.out _ _ _ h0 ok0.out hn).mono ?_;rintro e w1 hp;rcases zY hp hr F0 (Fr.refl _ _) with⟨p,rfl,rfl,hb⟩|⟨x1,st1,rfl,hm1,rfl,h1,f1,F1⟩
 ·go_wp2_with fail;exact⟨rfl,rfl,hb⟩
 go_wp2_with fail;go_ret;exact⟨⟨_,rfl,rfl⟩,h1,F1⟩
theorem zbT{E:zN}{base pb:Nat}{iv:Value}(hE:KM E):∀n,jn E base pb iv n (ZL n)∧PCb E base pb iv n 2 (ZL n).bin2
 |0=>⟨⟨zcf,fun _ _ _ _ _ h=>absurd h (Nat.not_lt_zero _),fun _ _ _ _ _ h=>absurd h (Nat.not_lt_zero _),fun _ _ _ _ _ h=>absurd h (Nat.not_lt_zero _),fun _ _ _ _ _ h=>absurd h (Nat.not_lt_zero _),fun _ _ _ _ _ h=>absurd h (Nat.not_lt_zero _),fun _ _ _ _ _ h=>absurd h (Nat.not_lt_zero _)⟩,fun _ _ _ _ _ h=>absurd h (Nat.not_lt_zero _)⟩
 |n+1=>by
  obtain⟨hR,hB⟩:=zbT hE n;have hU:=zcz (base:=base) (pb:=pb) (iv:=iv) hR (zeR hE hR (zai hE hR));have b4:=zeM (zeL hU) (XR hR.good);have b3:=zeN b4 (zcm hR.good);have b2:=zeO hR.good hB b3;have b1:=zeP b2 (XN hR.good);have b0:=zeQ b1 (Y7 (XN hR.good) 1);exact⟨⟨jA (n+1),zeF b0,hU,zds hR,QD hR,zeu hR,VH hE hR⟩,b2⟩
end
section
open Go.RowKit Lode Go.Shelf
attribute [local go_sem ↓] Go.wp_at_zero Go.wp_at_succ
attribute [local go_sem] XT zgS XS
open Go.Proofs.Tryz
theorem zew{E:zN}{base pb n:Nat}{iv:Value}{R:xD}(hR:jn E base pb iv n R):QI E base pb iv (n+1) 128 (Yh R):=by
 intro G w st0 h0 ok0 hn;obtain⟨r,hr⟩:=exE (Yh R E st0);rw[hr];unfold Yh at hr;replace hr:=zj hr;replace ok0:=zj ok0;replace hR:=zj hR;have F0:=Fr.refl base w;have hlim:=ok0.out.lim;have hle:=ok0.out.le;have hG0:=h0.glt;have hbase:=h0.base;have hivlt:=zj (fun g=>h0.ivlt (g:=g));have henter:=zj (enters_of (P:=prog) func193 (by kernel_rfl) rfl);have henter2:=zj (enters_of (P:=prog) func194 (by kernel_rfl) rfl);have HT:=zj (xT h0);replace hr:=zj ((yi (show ZP E st0=.ok (zW E st0) st0 from rfl)).symm.trans hr.out);generalize zW E st0=t at *;obtain⟨k1,t1,a1⟩:=t;unfold ku at HT;simp only at hr;go_enter func128,ntmps128;go_wp2_with fail;refine HT.out.mono ?_;rintro e w1 ⟨rfl,hb1⟩;have hb1':Below w.heap.size w w1:=zd bR hb1;have h1:=h0.below hb1';have hA:=zg w1 (.cells #[.int .u8 k1,.string ⟨t1.toArray⟩,.int .i64 a1] 66 (0,0));have hz2:=zj (zm w1 (.cells #[.int .u8 k1,.string ⟨t1.toArray⟩,.int .i64 a1] 66 (0,0)));have F1:=F0.trans (Fr.of_below h0.base hb1');have hs1:=F1.b.size;have T1:=Fr.refl base (w1.alloc (.cells #[.int .u8 k1,.string ⟨t1.toArray⟩,.int .i64 a1] 66 (0,0)));have ok1:=ok0;go_wp2_with fail;refine (ym (h1.below (zg _ _)) (by omega) [99,108,97,115,115]).mono ?_;rintro e wq0 hp;rcases Zf hp hr F1 (Fr.of_below h1.base (zg _ _)) ok1 with⟨p,rfl,rfl,hb⟩|⟨xq0,stq0,rfl,hmq0,hq0,fq0,Fq0,nq0,okq0,hrn⟩
 ·go_wp2_with fail;exact⟨rfl,rfl,hb⟩
 replace hr:=hrn;clear hrn;have hleq0:=okq0.out.le;have Tq0:=T1.trans fq0;cases xq0 with
 |true=>
  have haaa:=yA hmq0;replace hr:=zj (qI.symm.trans hr.out);have haa:=hq0;have Faa:=Fq0;have Taa:=Tq0;have okaa:=okq0;clear hmq0;go_wp2_with fail;refine (xd haa (by omega) 2).mono ?_;rintro e wdd hp;rcases qE hp hr Faa (Fr.refl _ _) okaa (yl (by decide)) (by decide) with⟨p,rfl,rfl,hb⟩|⟨xdd,stdd,rfl,hmdd,hdd,fdd,Fdd,ndd,okdd,hrn⟩
  ·go_wp2_with fail;exact⟨rfl,rfl,hb⟩
  replace hr:=hrn;clear hrn;have hledd:=okdd.out.le;have hadd:=ndd.next;obtain⟨kdd,tdd,add⟩:=xdd;simp only at hr ⊢;have cz:=(Taa.trans fdd).keep _ _ _ _ hz2.out (by decide) (by decide);have hS:∀W,(yN base).rel wdd.drew W→W.cell? ⟨w1.heap.size,2,none⟩=some (.int .i64 a1):=fun W hF=>zf (hF.keep _ _ _ _ cz (by decide) (by decide)) 2
  clear cz;have hwdd:=Fdd.b.size;have hszdd:(wdd.drew).heap.size=wdd.heap.size:=rfl;go_wp2_with fail;refine LodeX.zo (RR:=yN base) (Xp:=fun c W=>∃p,r=.bad p∧c=[{v:=.iface 102 (.agg #[.int .i64 p]),recovered:=false}]∧Below base w W) [(0,0),(1,0),(2,0),(3,1),(4,0),(5,0),(6,2),(7,2),(8,2),(9,0)] (by kernel_rfl) (by kernel_rfl) ?hX ?_
  case hX=>
   rintro c a W hd ⟨p,hrp,rfl,hb⟩;subst hrp;go_wp2_with fail;exact⟨hd,rfl,hb⟩
  iterate 6 ((first|refine LodeX.zl rfl (by rfl) (by decide) ?_|(apply LodeX.zk rfl (by rfl);· (intro w';go_simp;first|done|with_reducible rfl|(rw[if_neg (by first|omega|(simp;omega))];try with_reducible rfl)))|(apply LodeX.zt hS rfl (by rfl);· (intro w' hw';go_split_ands;go_simp;try with_reducible rfl))|fail);simp only[Act.put,zD,lsZ,lsS])
  iterate 1 (refine LodeX.zq rfl (by rfl) (fun K hK W hW=>?_);cases hW;go_simp;refine⟨Fr.refl _ _,hK _ _ ?_⟩;clear hK K;try simp only[Act.put,zD,lsZ,lsS])
  refine LodeX.zq rfl (by rfl) (fun K hK W hW=>?_);cases hW;go_simp;refine (uC (Jm hR.out) (vP hR.out.good) henter.out (hdd.below bR.drew) okdd.out (by omega)).mono ?_;rintro e wee hp;rcases VY hp hr Fdd ((Fr.of_below hdd.base bR.drew)) with⟨p,hrp,rfl,hb⟩|⟨xee,stee,vee,rfl,lee,oee,hmee,hee,fee,Fee,hrn⟩
  ·exact⟨rfl,p,hrp,rfl,hb⟩
  refine⟨fee,hK _ _ ?_⟩;clear hK K;replace hr:=hrn;clear hrn;have hS:=fun W (hF:(yN base).rel wee W)=>hS W (Fr.trans fee hF)
  try simp only[Act.put,zD,lsZ,lsS]
  obtain⟨nee,vlee⟩:=jk (vP hR.out.good) okdd.out.le okdd.out.wf hmee;have okee:=okdd.out.nx nee (by decide);have hfew:stee.nodes.length≤1000000:=by have:=okee.few;have:=okee.le;omega
  refine LodeX.zq rfl (by rfl) (fun K hK W hW=>?_);cases hW;go_simp;refine (zJ hee.ungw 100 tdd 0 a1 xee _ (KS.own oee) (yF oee (fun g hg=>by have:=hG0 g hg;omega)) hfew).mono ?_;rintro e wff hp;rcases zY hp hr Fee ((Fr.refl _ _)) with⟨p,hrp,rfl,hb⟩|⟨xff,stff,rfl,hmff,hrn,hff,fff,Fff⟩
  ·exact⟨rfl,p,hrp,rfl,hb⟩
  refine⟨fff,hK _ _ ?_⟩;clear hK K;subst hrn
  try simp only[Act.put,zD,lsZ,lsS]
  iterate 1 ((first|refine LodeX.zl rfl (by rfl) (by decide) ?_|(apply LodeX.zk rfl (by rfl);· (intro w';go_simp;first|done|with_reducible rfl|(rw[if_neg (by first|omega|(simp;omega))];try with_reducible rfl)))|(apply LodeX.zt hS rfl (by rfl);· (intro w' hw';go_split_ands;go_simp;try with_reducible rfl))|fail);simp only[Act.put,zD,lsZ,lsS])
  refine LodeX.zu fun W hW=>?_
  cases hW;clear hS;go_wp2_with fail;go_ret;exact⟨⟨_,rfl,rfl⟩,hff,Fff⟩
 |false=>
  have hst:stq0=st0:=yj hmq0;replace hr:=zj (xW.symm.trans hr.out);subst hst;clear hmq0;go_wp2_with fail;refine (ym hq0 (by omega) [107,105,110,100]).mono ?_;rintro e wq1 hp;rcases Zf hp hr Fq0 (Fr.refl _ _) okq0 with⟨p,rfl,rfl,hb⟩|⟨xq1,stq1,rfl,hmq1,hq1,fq1,Fq1,nq1,okq1,hrn⟩
  ·go_wp2_with fail;exact⟨rfl,rfl,hb⟩
  replace hr:=hrn;clear hrn;have hleq1:=okq1.out.le;have Tq1:=Tq0.trans fq1;cases xq1 with
  |true=>
   have haaa:=yA hmq1;replace hr:=zj (qI.symm.trans hr.out);have haa:=hq1;have Faa:=Fq1;have Taa:=Tq1;have okaa:=okq1;clear hmq1;go_wp2_with fail;refine (xd haa (by omega) 2).mono ?_;rintro e wdd hp;rcases qE hp hr Faa (Fr.refl _ _) okaa (yl (by decide)) (by decide) with⟨p,rfl,rfl,hb⟩|⟨xdd,stdd,rfl,hmdd,hdd,fdd,Fdd,ndd,okdd,hrn⟩
   ·go_wp2_with fail;exact⟨rfl,rfl,hb⟩
   replace hr:=hrn;clear hrn;have hledd:=okdd.out.le;have hadd:=ndd.next;obtain⟨kdd,tdd,add⟩:=xdd;simp only at hr ⊢;have cz:=(Taa.trans fdd).keep _ _ _ _ hz2.out (by decide) (by decide);have hS:∀W,(yN base).rel wdd.drew W→W.cell? ⟨w1.heap.size,2,none⟩=some (.int .i64 a1):=fun W hF=>zf (hF.keep _ _ _ _ cz (by decide) (by decide)) 2
   clear cz;have hwdd:=Fdd.b.size;have hszdd:(wdd.drew).heap.size=wdd.heap.size:=rfl;go_wp2_with fail;refine LodeX.zo (RR:=yN base) (Xp:=fun c W=>∃p,r=.bad p∧c=[{v:=.iface 102 (.agg #[.int .i64 p]),recovered:=false}]∧Below base w W) [(0,0),(1,0),(2,0),(3,1),(4,0),(5,0),(6,2),(7,2),(8,2),(9,0)] (by kernel_rfl) (by kernel_rfl) ?hX ?_
   case hX=>
    rintro c a W hd ⟨p,hrp,rfl,hb⟩;subst hrp;go_wp2_with fail;exact⟨hd,rfl,hb⟩
   iterate 6 ((first|refine LodeX.zl rfl (by rfl) (by decide) ?_|(apply LodeX.zk rfl (by rfl);· (intro w';go_simp;first|done|with_reducible rfl|(rw[if_neg (by first|omega|(simp;omega))];try with_reducible rfl)))|(apply LodeX.zt hS rfl (by rfl);· (intro w' hw';go_split_ands;go_simp;try with_reducible rfl))|fail);simp only[Act.put,zD,lsZ,lsS])
   iterate 1 (refine LodeX.zq rfl (by rfl) (fun K hK W hW=>?_);cases hW;go_simp;refine⟨Fr.refl _ _,hK _ _ ?_⟩;clear hK K;try simp only[Act.put,zD,lsZ,lsS])
   refine LodeX.zq rfl (by rfl) (fun K hK W hW=>?_);cases hW;go_simp;refine (uC (zev hR.out) (Kw hR.out.good) henter2.out (hdd.below bR.drew) okdd.out (by omega)).mono ?_;rintro e wee hp;rcases VY hp hr Fdd ((Fr.of_below hdd.base bR.drew)) with⟨p,hrp,rfl,hb⟩|⟨xee,stee,vee,rfl,lee,oee,hmee,hee,fee,Fee,hrn⟩
   ·exact⟨rfl,p,hrp,rfl,hb⟩
   refine⟨fee,hK _ _ ?_⟩;clear hK K;replace hr:=hrn;clear hrn;have hS:=fun W (hF:(yN base).rel wee W)=>hS W (Fr.trans fee hF)
   try simp only[Act.put,zD,lsZ,lsS]
   obtain⟨nee,vlee⟩:=jk (Kw hR.out.good) okdd.out.le okdd.out.wf hmee;have okee:=okdd.out.nx nee (by decide);have hfew:stee.nodes.length≤1000000:=by have:=okee.few;have:=okee.le;omega
   refine LodeX.zq rfl (by rfl) (fun K hK W hW=>?_);cases hW;go_simp;refine (zJ hee.ungw 101 tdd 0 a1 xee _ (KS.own oee) (yF oee (fun g hg=>by have:=hG0 g hg;omega)) hfew).mono ?_;rintro e wff hp;rcases zY hp hr Fee ((Fr.refl _ _)) with⟨p,hrp,rfl,hb⟩|⟨xff,stff,rfl,hmff,hrn,hff,fff,Fff⟩
   ·exact⟨rfl,p,hrp,rfl,hb⟩
   refine⟨fff,hK _ _ ?_⟩;clear hK K;subst hrn
   try simp only[Act.put,zD,lsZ,lsS]
   iterate 1 ((first|refine LodeX.zl rfl (by rfl) (by decide) ?_|(apply LodeX.zk rfl (by rfl);· (intro w';go_simp;first|done|with_reducible rfl|(rw[if_neg (by first|omega|(simp;omega))];try with_reducible rfl)))|(apply LodeX.zt hS rfl (by rfl);· (intro w' hw';go_split_ands;go_simp;try with_reducible rfl))|fail);simp only[Act.put,zD,lsZ,lsS])
   refine LodeX.zu fun W hW=>?_
   cases hW;clear hS;go_wp2_with fail;go_ret;exact⟨⟨_,rfl,rfl⟩,hff,Fff⟩
  |false=>
   have hst:stq1=stq0:=yj hmq1;replace hr:=zj (xW.symm.trans hr.out);subst hst;clear hmq1;go_wp2_with fail;refine (ym hq1 (by omega) [101,120,116,101,114,110]).mono ?_;rintro e wq2 hp;rcases Zf hp hr Fq1 (Fr.refl _ _) okq1 with⟨p,rfl,rfl,hb⟩|⟨xq2,stq2,rfl,hmq2,hq2,fq2,Fq2,nq2,okq2,hrn⟩
   ·go_wp2_with fail;exact⟨rfl,rfl,hb⟩
   replace hr:=hrn;clear hrn;have hleq2:=okq2.out.le;have Tq2:=Tq1.trans fq2;cases xq2 with
   |true=>
    have haaa:=yA hmq2;replace hr:=zj (qI.symm.trans hr.out);have haa:=hq2;have Faa:=Fq2;have Taa:=Tq2;have okaa:=okq2;clear hmq2;go_wp2_with fail;refine (zH haa (by omega) [102,117,110]).mono ?_;rintro e wbb hp;rcases qE hp hr Faa (Fr.refl _ _) okaa (zv) (by decide) with⟨p,rfl,rfl,hb⟩|⟨xbb,stbb,rfl,hmbb,hbb,fbb,Fbb,nbb,okbb,hrn⟩
    ·go_wp2_with fail;exact⟨rfl,rfl,hb⟩
    replace hr:=hrn;clear hrn;have hlebb:=okbb.out.le;have habb:=nbb.next;go_wp2_with fail;refine (xd hbb (by omega) 1).mono ?_;rintro e wdd hp;rcases qE hp hr Fbb (Fr.refl _ _) okbb (yl (by decide)) (by decide) with⟨p,rfl,rfl,hb⟩|⟨xdd,stdd,rfl,hmdd,hdd,fdd,Fdd,ndd,okdd,hrn⟩
    ·go_wp2_with fail;exact⟨rfl,rfl,hb⟩
    replace hr:=hrn;clear hrn;have hledd:=okdd.out.le;have hadd:=ndd.next;obtain⟨kdd,tdd,add⟩:=xdd;simp only at hr ⊢;go_wp2_with fail;refine (Yq hR.out hdd okdd.out (by omega)).mono ?_;rintro e wee hp;rcases VY hp hr Fdd (Fr.refl _ _) with⟨p,rfl,rfl,hb⟩|⟨xee,stee,vee,rfl,lee,oee,hmee,hee,fee,Fee,hrn⟩
    ·go_wp2_with fail;exact⟨rfl,rfl,hb⟩
    replace hr:=hrn;clear hrn;obtain⟨nee,vlee⟩:=uw hR.out.good okdd.out.le okdd.out.wf hmee;have okee:=zj (okdd.out.nx nee (by decide));have hleee:=okee.out.le;have hsd:=Fdd.b.size;replace oee:=zj oee;go_wp2_with fail;refine (zH hee (by omega) [59]).mono ?_;rintro e wff hp;rcases qE hp hr Fee (Fr.refl _ _) okee (zv) (by decide) with⟨p,rfl,rfl,hb⟩|⟨xff,stff,rfl,hmff,hff,fff,Fff,nff,okff,hrn⟩
    ·go_wp2_with fail;exact⟨rfl,rfl,hb⟩
    replace hr:=hrn;clear hrn;have off:=zj (zT oee.out fff (by decide) (by decide));have cz:=zf (((((Taa.trans fbb).trans fdd).trans fee).trans fff).keep _ _ _ _ hz2.out (by decide) (by decide)) 2;have hfew:stff.nodes.length≤1000000:=by have:=okff.out.few;have:=okff.out.le;omega
    go_wp2_with fail;refine (zJ (hff.ungw.below bR) 103 tdd 0 a1 xee _ (KS.own off.out) (yF off.out (fun g hg=>by have:=hG0 g hg;omega)) hfew).mono ?_;rintro e wii hp;rcases zY hp hr Fff (Fr.refl _ _) with⟨p,rfl,rfl,hb⟩|⟨xii,stii,rfl,hmii,rfl,hii,fii,Fii⟩
    ·go_wp2_with fail;exact⟨rfl,rfl,hb⟩
    go_wp2_with fail;go_ret;exact⟨⟨_,rfl,rfl⟩,hii,Fii⟩
   |false=>
    have hst:stq2=stq1:=yj hmq2;replace hr:=zj (xW.symm.trans hr.out);subst hst;clear hmq2;go_wp2_with fail;refine (ym hq2 (by omega) [114,111,111,116]).mono ?_;rintro e wq3 hp;rcases Zf hp hr Fq2 (Fr.refl _ _) okq2 with⟨p,rfl,rfl,hb⟩|⟨xq3,stq3,rfl,hmq3,hq3,fq3,Fq3,nq3,okq3,hrn⟩
    ·go_wp2_with fail;exact⟨rfl,rfl,hb⟩
    replace hr:=hrn;clear hrn;have hleq3:=okq3.out.le;have Tq3:=Tq2.trans fq3;cases xq3 with
    |true=>
     have haaa:=yA hmq3;replace hr:=zj (qI.symm.trans hr.out);have haa:=hq3;have Faa:=Fq3;have Taa:=Tq3;have okaa:=okq3;clear hmq3;go_wp2_with fail;refine (xd haa (by omega) 1).mono ?_;rintro e wdd hp;rcases qE hp hr Faa (Fr.refl _ _) okaa (yl (by decide)) (by decide) with⟨p,rfl,rfl,hb⟩|⟨xdd,stdd,rfl,hmdd,hdd,fdd,Fdd,ndd,okdd,hrn⟩
     ·go_wp2_with fail;exact⟨rfl,rfl,hb⟩
     replace hr:=hrn;clear hrn;have hledd:=okdd.out.le;have hadd:=ndd.next;obtain⟨kdd,tdd,add⟩:=xdd;simp only at hr ⊢;go_wp2_with fail;refine (zH hdd (by omega) [58]).mono ?_;rintro e wbb hp;rcases qE hp hr Fdd (Fr.refl _ _) okdd (zv) (by decide) with⟨p,rfl,rfl,hb⟩|⟨xbb,stbb,rfl,hmbb,hbb,fbb,Fbb,nbb,okbb,hrn⟩
     ·go_wp2_with fail;exact⟨rfl,rfl,hb⟩
     replace hr:=hrn;clear hrn;have hlebb:=okbb.out.le;have habb:=nbb.next;go_wp2_with fail;refine (hR.out.kind _ _ _ hbb okbb.out (by omega)).mono ?_;rintro e wcc hp;rcases Yn hp hr Fbb (Fr.refl _ _) okbb (hR.out.good.kind) (by decide) with⟨p,rfl,rfl,hb⟩|⟨xcc,stcc,rfl,hmcc,hcc,fcc,Fcc,ncc,vdcc,okcc,hrn⟩
     ·go_wp2_with fail;exact⟨rfl,rfl,hb⟩
     replace hr:=hrn;clear hrn;have hlecc:=okcc.out.le;have hacc:=ncc.next;go_wp2_with fail;refine (zH hcc (by omega) [61]).mono ?_;rintro e wee hp;rcases qE hp hr Fcc (Fr.refl _ _) okcc (zv) (by decide) with⟨p,rfl,rfl,hb⟩|⟨xee,stee,rfl,hmee,hee,fee,Fee,nee,okee,hrn⟩
     ·go_wp2_with fail;exact⟨rfl,rfl,hb⟩
     replace hr:=hrn;clear hrn;have hleee:=okee.out.le;have haee:=nee.next;go_wp2_with fail;refine (hR.out.expr _ _ _ hee okee.out (by omega)).mono ?_;rintro e wii hp;rcases Yn hp hr Fee (Fr.refl _ _) okee (hR.out.good.expr) (by decide) with⟨p,rfl,rfl,hb⟩|⟨xii,stii,rfl,hmii,hii,fii,Fii,nii,vdii,okii,hrn⟩
     ·go_wp2_with fail;exact⟨rfl,rfl,hb⟩
     replace hr:=hrn;clear hrn;have hleii:=okii.out.le;have haii:=nii.next;go_wp2_with fail;refine (zH hii (by omega) [59]).mono ?_;rintro e wff hp;rcases qE hp hr Fii (Fr.refl _ _) okii (zv) (by decide) with⟨p,rfl,rfl,hb⟩|⟨xff,stff,rfl,hmff,hff,fff,Fff,nff,okff,hrn⟩
     ·go_wp2_with fail;exact⟨rfl,rfl,hb⟩
     replace hr:=hrn;clear hrn;have cz:=zf (((((((Taa.trans fdd).trans fbb).trans fcc).trans fee).trans fii).trans fff).keep _ _ _ _ hz2.out (by decide) (by decide)) 2;have hfew:stff.nodes.length≤1000000:=by have:=okff.out.few;have:=okff.out.le;omega
     go_wp2_with fail;refine (zJ (hff.below (zg _ _)) 104 tdd 0 a1 [xcc,xii] _ (KS.lit _ [xcc,xii]) (hff.fresh _ _) hfew).mono ?_;rintro e wjj hp;rcases zY hp hr Fff (Fr.of_below hff.base (zg _ _)) with⟨p,rfl,rfl,hb⟩|⟨xjj,stjj,rfl,hmjj,rfl,hjj,fjj,Fjj⟩
     ·go_wp2_with fail;exact⟨rfl,rfl,hb⟩
     go_wp2_with fail;go_ret;exact⟨⟨_,rfl,rfl⟩,hjj,Fjj⟩
    |false=>
     have hst:stq3=stq2:=yj hmq3;replace hr:=zj (xW.symm.trans hr.out);subst hst;clear hmq3;go_wp2_with fail;refine (ym hq3 (by omega) [112,117,114,101]).mono ?_;rintro e wqp hp;rcases Zf hp hr Fq3 (Fr.refl _ _) okq3 with⟨p,rfl,rfl,hb⟩|⟨xqp,stqp,rfl,hmqp,hqp,fqp,Fqp,nqp,okqp,hrn⟩
     ·go_wp2_with fail;exact⟨rfl,rfl,hb⟩
     replace hr:=hrn;clear hrn;have hleqp:=okqp.out.le;have Tqp:=Tq3.trans fqp;cases xqp with
     |true=>
      have haaa:=yA hmqp;have haa:=hqp;have Faa:=Fqp;have Taa:=Tqp;have okaa:=okqp;clear hmqp;go_wp2_with fail;refine (zH haa (by omega) [102,117,110]).mono ?_;rintro e wbb hp;rcases qE hp hr Faa (Fr.refl _ _) okaa (zv) (by decide) with⟨p,rfl,rfl,hb⟩|⟨xbb,stbb,rfl,hmbb,hbb,fbb,Fbb,nbb,okbb,hrn⟩
      ·go_wp2_with fail;exact⟨rfl,rfl,hb⟩
      replace hr:=hrn;clear hrn;have hlebb:=okbb.out.le;have habb:=nbb.adv;go_wp2_with fail;refine (xd hbb (by omega) 1).mono ?_;rintro e wdd hp;rcases qE hp hr Fbb (Fr.refl _ _) okbb (yl (by decide)) (by decide) with⟨p,rfl,rfl,hb⟩|⟨xdd,stdd,rfl,hmdd,hdd,fdd,Fdd,ndd,okdd,hrn⟩
      ·go_wp2_with fail;exact⟨rfl,rfl,hb⟩
      replace hr:=hrn;clear hrn;have hledd:=okdd.out.le;have hadd:=ndd.next;obtain⟨kdd,tdd,add⟩:=xdd;simp only at hr ⊢;go_wp2_with fail;refine (Yq hR.out hdd okdd.out (by omega)).mono ?_;rintro e wee hp;rcases VY hp hr Fdd (Fr.refl _ _) with⟨p,rfl,rfl,hb⟩|⟨xee,stee,vee,rfl,lee,oee,hmee,hee,fee,Fee,hrn⟩
      ·go_wp2_with fail;exact⟨rfl,rfl,hb⟩
      replace hr:=hrn;clear hrn;obtain⟨nee,vlee⟩:=uw hR.out.good okdd.out.le okdd.out.wf hmee;have okee:=zj (okdd.out.nx nee (by decide));have hleee:=okee.out.le;have haee:=nee.next;have hsd:=Fdd.b.size;have hwdd:=((Taa.trans fbb).trans fdd).b.size;simp only[World.size_alloc] at hwdd;have hve:=oee.lt;have hne:some w1.heap.size≠vee.ownBlock:=fun e=>by
       have:=(hve _ e.symm).1;omega
      replace oee:=zj oee;have cz:=(((Taa.trans fbb).trans fdd).trans fee).keep _ _ _ _ hz2.out (by decide) (by decide);have hS:∀W,vI base vee.ownBlock wee.drew W→W.cell? ⟨w1.heap.size,2,none⟩=some (.int .i64 a1):=fun W hF=>zf (hF.keep _ _ _ _ hne cz (by decide) (by decide)) 2
      clear cz hve hne;go_wp2_with fail;refine LodeX.zo (RR:=zbG base vee.ownBlock) (Xp:=fun c W=>∃p,r=.bad p∧c=[{v:=.iface 102 (.agg #[.int .i64 p]),recovered:=false}]∧Below base w W) [(0,0),(1,0),(2,0),(3,0),(4,1),(5,0),(6,0),(7,2),(8,2),(9,2),(10,2),(11,0)] (by kernel_rfl) (by kernel_rfl) ?hX ?_
      case hX=>
       rintro c a W hd ⟨p,hrp,rfl,hb⟩;subst hrp;go_wp2_with fail;exact⟨hd,rfl,hb⟩
      iterate 7 ((first|refine LodeX.zl rfl (by rfl) (by decide) ?_|(apply LodeX.zk rfl (by rfl);· (intro w';go_simp;first|done|with_reducible rfl|(rw[if_neg (by first|omega|(simp;omega))];try with_reducible rfl)))|(apply LodeX.zt hS rfl (by rfl);· (intro w' hw';go_split_ands;go_simp;try with_reducible rfl))|fail);simp only[Act.put,zD,lsZ,lsS])
      refine LodeX.zq rfl (by rfl) (fun K hK W hW=>?_);cases hW;go_simp;refine (hR.out.block _ _ _ (hee.below bR.drew) okee.out (by omega)).mono ?_;rintro e wcc hp;rcases uG hp hr Fee ((Fr.of_below hee.base bR.drew)) with⟨p,hrp,rfl,hb⟩|⟨xcc,stcc,v,rfl,hv,hmcc,hcc,fcc,Fcc,hrn⟩
      ·exact⟨rfl,p,hrp,rfl,hb⟩
      refine⟨fcc.cutG,hK _ _ ?_⟩;clear hK K;replace hr:=hrn;clear hrn;unfold yI at hv;subst hv;have hS:=fun W (hF:vI base _ wcc W)=>hS W (vI.trans fcc.cutG hF)
      try simp only[Act.put,zD,lsZ,lsS]
      obtain⟨ncc,vdcc⟩:=hR.out.good.block okee.out.le okee.out.wf hmcc;have okcc:=okee.out.nx ncc (by decide);have hlecc:=okcc.le;have hfew:stcc.nodes.length≤1000000:=by have:=okcc.few;omega
      have occ:=zT (zC oee.out bR.drew) fcc (by decide) (by decide);have hsc:wee.heap.size≤wcc.heap.size:=fcc.b.size;have hse:=fee.b.size;refine LodeX.zq rfl (by rfl) (fun K hK W hW=>?_);cases hW;go_simp;refine⟨(Fr.of_below hcc.base (zg _ _)).cutG,hK _ _ ?_⟩;clear hK K
      try simp only[Act.put,zD,lsZ,lsS]
      have hbsii:=hcc.base;have hssii:=Fcc.b.size;refine LodeX.zq rfl (by rfl) (fun K hK W hW=>?_);cases hW;refine jp _ _ rfl (by rfl) (zC occ (zg _ _)) (by rfl) (zf (zm wcc _) 0) rfl rfl (by omega) (by simp;omega) ?_;intro g' cap' wii hrow hgrow hg';obtain⟨vii,eii,oii,hii,gsii,FFii⟩:=yV hcc occ (by omega) (fun g hg=>by have:=hivlt.out g hg;omega) hrow hgrow (hg'.imp id (fun h=>by simpa using h));rw[eii];refine⟨vI.grow hgrow (by simp;omega) (fun k hk=>by have:=((occ).lt k hk).1;omega),hK _ _ ?_⟩;clear hK K;replace oii:=zj oii;replace FFii:=zj FFii;clear hrow hgrow hg' eii
      try simp only[Act.put,zD,lsZ,lsS]
      have Fii:=FFii.out w Fcc (by omega) hbase;refine LodeX.zq rfl (by rfl) (fun K hK W hW=>?_);cases hW;go_simp;refine (zJ hii.ungw 102 tdd 1 a1 (xee ++ [xcc]) _ (KS.own oii.out) (yF oii.out (fun g hg=>by have:=hG0 g hg;omega)) hfew).mono ?_;rintro e wff hp;rcases zY hp hr Fii ((Fr.refl _ _)) with⟨p,hrp,rfl,hb⟩|⟨xff,stff,rfl,hmff,hrn,hff,fff,Fff⟩
      ·exact⟨rfl,p,hrp,rfl,hb⟩
      refine⟨fff.cutG,hK _ _ ?_⟩;clear hK K;subst hrn
      try simp only[Act.put,zD,lsZ,lsS]
      iterate 1 ((first|refine LodeX.zl rfl (by rfl) (by decide) ?_|(apply LodeX.zk rfl (by rfl);· (intro w';go_simp;first|done|with_reducible rfl|(rw[if_neg (by first|omega|(simp;omega))];try with_reducible rfl)))|(apply LodeX.zt hS rfl (by rfl);· (intro w' hw';go_split_ands;go_simp;try with_reducible rfl))|fail);simp only[Act.put,zD,lsZ,lsS])
      refine LodeX.zu fun W hW=>?_
      cases hW;clear hS;go_wp2_with fail;go_ret;exact⟨⟨_,rfl,rfl⟩,hff,Fff⟩
     |false=>
      have hst:stqp=stq3:=yj hmqp;subst hst;have haa:=hqp;have Faa:=Fqp;have Taa:=Tqp;have okaa:=okqp;clear hmqp;go_wp2_with fail;refine (zH haa (by omega) [102,117,110]).mono ?_;rintro e wbb hp;rcases qE hp hr Faa (Fr.refl _ _) okaa (zv) (by decide) with⟨p,rfl,rfl,hb⟩|⟨xbb,stbb,rfl,hmbb,hbb,fbb,Fbb,nbb,okbb,hrn⟩
      ·go_wp2_with fail;exact⟨rfl,rfl,hb⟩
      replace hr:=hrn;clear hrn;have hlebb:=okbb.out.le;have habb:=nbb.adv;go_wp2_with fail;refine (xd hbb (by omega) 1).mono ?_;rintro e wdd hp;rcases qE hp hr Fbb (Fr.refl _ _) okbb (yl (by decide)) (by decide) with⟨p,rfl,rfl,hb⟩|⟨xdd,stdd,rfl,hmdd,hdd,fdd,Fdd,ndd,okdd,hrn⟩
      ·go_wp2_with fail;exact⟨rfl,rfl,hb⟩
      replace hr:=hrn;clear hrn;have hledd:=okdd.out.le;have hadd:=ndd.next;obtain⟨kdd,tdd,add⟩:=xdd;simp only at hr ⊢;go_wp2_with fail;refine (Yq hR.out hdd okdd.out (by omega)).mono ?_;rintro e wee hp;rcases VY hp hr Fdd (Fr.refl _ _) with⟨p,rfl,rfl,hb⟩|⟨xee,stee,vee,rfl,lee,oee,hmee,hee,fee,Fee,hrn⟩
      ·go_wp2_with fail;exact⟨rfl,rfl,hb⟩
      replace hr:=hrn;clear hrn;obtain⟨nee,vlee⟩:=uw hR.out.good okdd.out.le okdd.out.wf hmee;have okee:=zj (okdd.out.nx nee (by decide));have hleee:=okee.out.le;have haee:=nee.next;have hsd:=Fdd.b.size;have hwdd:=((Taa.trans fbb).trans fdd).b.size;simp only[World.size_alloc] at hwdd;have hve:=oee.lt;have hne:some w1.heap.size≠vee.ownBlock:=fun e=>by
       have:=(hve _ e.symm).1;omega
      replace oee:=zj oee;have cz:=(((Taa.trans fbb).trans fdd).trans fee).keep _ _ _ _ hz2.out (by decide) (by decide);have hS:∀W,vI base vee.ownBlock wee.drew W→W.cell? ⟨w1.heap.size,2,none⟩=some (.int .i64 a1):=fun W hF=>zf (hF.keep _ _ _ _ hne cz (by decide) (by decide)) 2
      clear cz hve hne;go_wp2_with fail;refine LodeX.zo (RR:=zbG base vee.ownBlock) (Xp:=fun c W=>∃p,r=.bad p∧c=[{v:=.iface 102 (.agg #[.int .i64 p]),recovered:=false}]∧Below base w W) [(0,0),(1,0),(2,0),(3,0),(4,1),(5,0),(6,0),(7,2),(8,2),(9,2),(10,2),(11,0)] (by kernel_rfl) (by kernel_rfl) ?hX ?_
      case hX=>
       rintro c a W hd ⟨p,hrp,rfl,hb⟩;subst hrp;go_wp2_with fail;exact⟨hd,rfl,hb⟩
      iterate 7 ((first|refine LodeX.zl rfl (by rfl) (by decide) ?_|(apply LodeX.zk rfl (by rfl);· (intro w';go_simp;first|done|with_reducible rfl|(rw[if_neg (by first|omega|(simp;omega))];try with_reducible rfl)))|(apply LodeX.zt hS rfl (by rfl);· (intro w' hw';go_split_ands;go_simp;try with_reducible rfl))|fail);simp only[Act.put,zD,lsZ,lsS])
      refine LodeX.zq rfl (by rfl) (fun K hK W hW=>?_);cases hW;go_simp;refine (hR.out.block _ _ _ (hee.below bR.drew) okee.out (by omega)).mono ?_;rintro e wcc hp;rcases uG hp hr Fee ((Fr.of_below hee.base bR.drew)) with⟨p,hrp,rfl,hb⟩|⟨xcc,stcc,v,rfl,hv,hmcc,hcc,fcc,Fcc,hrn⟩
      ·exact⟨rfl,p,hrp,rfl,hb⟩
      refine⟨fcc.cutG,hK _ _ ?_⟩;clear hK K;replace hr:=hrn;clear hrn;unfold yI at hv;subst hv;have hS:=fun W (hF:vI base _ wcc W)=>hS W (vI.trans fcc.cutG hF)
      try simp only[Act.put,zD,lsZ,lsS]
      obtain⟨ncc,vdcc⟩:=hR.out.good.block okee.out.le okee.out.wf hmcc;have okcc:=okee.out.nx ncc (by decide);have hlecc:=okcc.le;have hfew:stcc.nodes.length≤1000000:=by have:=okcc.few;omega
      have occ:=zT (zC oee.out bR.drew) fcc (by decide) (by decide);have hsc:wee.heap.size≤wcc.heap.size:=fcc.b.size;have hse:=fee.b.size;refine LodeX.zq rfl (by rfl) (fun K hK W hW=>?_);cases hW;go_simp;refine⟨(Fr.of_below hcc.base (zg _ _)).cutG,hK _ _ ?_⟩;clear hK K
      try simp only[Act.put,zD,lsZ,lsS]
      have hbsii:=hcc.base;have hssii:=Fcc.b.size;refine LodeX.zq rfl (by rfl) (fun K hK W hW=>?_);cases hW;refine jp _ _ rfl (by rfl) (zC occ (zg _ _)) (by rfl) (zf (zm wcc _) 0) rfl rfl (by omega) (by simp;omega) ?_;intro g' cap' wii hrow hgrow hg';obtain⟨vii,eii,oii,hii,gsii,FFii⟩:=yV hcc occ (by omega) (fun g hg=>by have:=hivlt.out g hg;omega) hrow hgrow (hg'.imp id (fun h=>by simpa using h));rw[eii];refine⟨vI.grow hgrow (by simp;omega) (fun k hk=>by have:=((occ).lt k hk).1;omega),hK _ _ ?_⟩;clear hK K;replace oii:=zj oii;replace FFii:=zj FFii;clear hrow hgrow hg' eii
      try simp only[Act.put,zD,lsZ,lsS]
      have Fii:=FFii.out w Fcc (by omega) hbase;refine LodeX.zq rfl (by rfl) (fun K hK W hW=>?_);cases hW;go_simp;refine (zJ hii.ungw 102 tdd 0 a1 (xee ++ [xcc]) _ (KS.own oii.out) (yF oii.out (fun g hg=>by have:=hG0 g hg;omega)) hfew).mono ?_;rintro e wff hp;rcases zY hp hr Fii ((Fr.refl _ _)) with⟨p,hrp,rfl,hb⟩|⟨xff,stff,rfl,hmff,hrn,hff,fff,Fff⟩
      ·exact⟨rfl,p,hrp,rfl,hb⟩
      refine⟨fff.cutG,hK _ _ ?_⟩;clear hK K;subst hrn
      try simp only[Act.put,zD,lsZ,lsS]
      iterate 1 ((first|refine LodeX.zl rfl (by rfl) (by decide) ?_|(apply LodeX.zk rfl (by rfl);· (intro w';go_simp;first|done|with_reducible rfl|(rw[if_neg (by first|omega|(simp;omega))];try with_reducible rfl)))|(apply LodeX.zt hS rfl (by rfl);· (intro w' hw';go_split_ands;go_simp;try with_reducible rfl))|fail);simp only[Act.put,zD,lsZ,lsS])
      refine LodeX.zu fun W hW=>?_
      cases hW;clear hS;go_wp2_with fail;go_ret;exact⟨⟨_,rfl,rfl⟩,hff,Fff⟩
end
end Go.Proofs.YtcagibbaeageoaaGreatDoor
