/-
  A part of the proof: contracts of functions; no conditions.
-/
import Derived.Test.YtnncmdpopgkibaaGreatDoorKE
import Derived.Test.YtnncmdpopgkibaaGreatDoorKG
import Derived.Recover
set_option maxRecDepth 100000
set_option maxHeartbeats 40000000
set_option linter.unusedSimpArgs false
set_option linter.unusedVariables false
namespace Go.Proofs.YtnncmdpopgkibaaGreatDoor
section
open Go.RowKit Lode Go.Shelf
attribute [local go_sem ↓] Go.wp_at_zero Go.wp_at_succ
attribute [local go_sem] JL zkp JK
open Go.Proofs.Tryz
structure uW(base:Nat)(row:Option Nat)(w w':World):Prop where
 b:Below base w w'
 keep:∀(k:Nat) (cs:Array Value) (T:TypeId) (fr:Nat×Nat),some k≠row->w.heap[k]? =some (.cells cs T fr)->T≠120->T≠45->w'.heap[k]? =some (.cells cs T fr)
theorem uW.refl(base:Nat)(row:Option Nat)(w:World):uW base row w w:=⟨pF _ _,fun _ _ _ _ _ h _ _=>h⟩
theorem uW.trans{base:Nat}{row:Option Nat}{a b c:World}(h:uW base row a b)(k:uW base row b c):uW base row a c:=⟨h.b.trans k.b,fun n cs T fr hN hn h1 h2=>k.keep n cs T fr hN (h.keep n cs T fr hN hn h1 h2) h1 h2⟩
theorem Fr.cutG{base:Nat}{row:Option Nat}{a b:World}(h:Fr base a b):uW base row a b:=⟨h.b,fun n cs T fr _ hn h1 h2=>h.keep n cs T fr hn h1 h2⟩
theorem uW.grow{base:Nat}{w w':World}{row:Option Nat}(hg:w.grownBy w' row)(hb:base<=w.heap.size)(hrow:∀k,row=some k->base<=k):uW base row w w':=
 ⟨(pF base w).grown hg hb hrow,fun k cs T fr hN hk h1 h2=>by
  rw[hg.block k (gtA hk) hN];exact hk⟩
def zev(base:Nat)(row:Option Nat):LodeX.Rel:=⟨uW base row,uW.refl base row,uW.trans,Eq,fun _=>rfl,Eq.trans,fun h=>h▸uW.refl base row _⟩
theorem XJ{α β:Type}{A B:PM α}{g:α->PM β}{E:zv}{s:zY}:((if true=true then A else B) >>= g) E s=(A >>= g) E s:=rfl
theorem zag{α β:Type}{A B:PM α}{g:α->PM β}{E:zv}{s:zY}:((if false=true then A else B) >>= g) E s=(B >>= g) E s:=rfl
def YR(l:List Int):PM (List Int):=do
 let _ <-zL [125]
 pure l
def zj3(E:zv)(base pb n:Nat)(iv:Value)(G:Nat->Prop)(R:xN)(w:World)(r:qw (List Int))(v:Value)(wr:World):Prop:=∃(va:Value) (st:zY) (acc:List Int) (k:Nat),va=v/\(jf R k acc >>= YR) E st=r/\E.toks.length-st.next<k/\E.toks.length-st.next<n/\acc.length<=st.next/\qG E st/\wr.ownsRow w.heap.size 3 1 va acc.length (yZ acc)/\PW E base pb iv (Gw G va) wr st/\Fr base w wr
theorem zg1{E:zv}{base pb n:Nat}{iv:Value}{R:xN}(hR:kg E base pb iv n R){G:Nat->Prop}{w:World}{st0:zY}(h0:PW E base pb iv G w st0)(ok0:qG E st0)(hn:E.toks.length-st0.next<n+1):Calls prog 228 #[.pointer (some ⟨pb,0,none⟩)] w (uT E base pb iv G (E.toks.length+1) (jP R E st0) w):=by
 obtain⟨r,hr⟩:=exE (jP R E st0);rw[hr];unfold jP at hr;replace hr:=zi hr;replace ok0:=zi ok0;replace hR:=zi hR;have F0:=Fr.refl base w;have hlim:=ok0.out.lim;have hle:=ok0.out.le;have hG0:=h0.glt;have hbase:=h0.base;have hivlt:=zi (fun g=>h0.ivlt (g:=g));go_enter func228,ntmps228;go_wp2_with fail;go_step3;go_wp2_with fail;refine jo hr (zw h0 (by omega) [123]) F0 (Fr.refl _ _) ok0 (zo) ?_;clear hr;intro w1 x1 st1 hm1 h1 f1 F1 n1 ok1 hle1 ha1 hr;have ha1:=n1.adv;have hst:zj3 E base pb n iv G R w r (.slice none 0 0) w1:=⟨_,st1,[],_,rfl,hr.out,by omega,by omega,pU _,ok1.out,uE _ _ rfl,h1.gnil,F1⟩;replace hst:=zi hst;clear hr h1 F1 f1 hm1;go_wp2_with fail;go_step3;go_wp2;go_loopw [2] (fun v wr=>zj3 E base pb n iv G R w r v wr) (fun _ wr=>E.toks.length+1-xh pb wr)
 case atStart=>exact hst.out
 case round=>
  obtain⟨va,st3,acc,k,rfl,hr,hk,hn3,hacc,ok3,o3,h3,F3⟩:=hrel;obtain⟨k,rfl⟩:∃m,k=m+1:=⟨k-1,by omega⟩;unfold jf at hr;have hle3:=ok3.le;replace ok3:=zi ok3;replace hr:=zi hr;replace hr:=yx hr;replace hr:=zi ((yb (show qP E st3=.ok (zy E st3) st3 from rfl)).symm.trans hr.out);have HT:=zi (qy h3);generalize zy E st3=t at HT hr;obtain⟨k1,t1,a1⟩:=t;unfold vM at HT;replace o3:=zi o3;have hvlt:=zi (fun g hg=>(o3.out.lt g hg).2);go_wp2_with fail;refine HT.out.mono ?_;rintro e w4 ⟨rfl,hb4⟩;have hb4:=zg bR hb4;have h4:=h3.below hb4;have F4:=F3.trans (Fr.of_below h3.base hb4);have ok4:=ok3;have hz4:=zi (zk w4 (.cells #[.int .u8 k1,.string ⟨t1.toArray⟩,.int .i64 a1] 37 (0,0)));have hne4:=zi (fun (e:some w4.heap.size=va.ownBlock)=>Nat.lt_irrefl _ (wI (hvlt.out _ e.symm) hb4.size));clear HT;replace hr:=yx hr;go_wp2_with fail;refine Yu hr (yl (h4.below (zf _ _)) (by omega) [114,101,99,118]) F4 (Fr.of_below h4.base (zf _ _)) ok4 ?_;clear hr;intro w5 x5 st5 hm5 h5 f5 F5 n5 ok5 hle5 hr;cases x5 with
  |true=>
   have ha5:=yw hm5;replace hr:=zi (XJ.symm.trans hr.out);replace hr:=yx hr;go_wp2_with fail;refine XI hr (hR.out.expr _ _ _ h5 ok5.out (by omega)) F5 (Fr.refl _ _) ok5 (hR.out.good.expr) ?_;clear hr;intro w6 x6 st6 hm6 h6 f6 F6 n6 vd6 ok6 hle6 ha6 hr;replace hr:=yx hr;go_wp2_with fail;refine jo hr (zw h6 (by omega) [97,115]) F6 (Fr.refl _ _) ok6 (zo) ?_;clear hr;intro w7 x7 st7 hm7 h7 f7 F7 n7 ok7 hle7 ha7 hr;replace hr:=yx hr;go_wp2_with fail;refine jo hr (xq h7 (by omega) 1) F7 (Fr.refl _ _) ok7 (yh (by decide)) ?_;clear hr;intro w8 x8 st8 hm8 h8 f8 F8 n8 ok8 hle8 ha8 hr;obtain⟨k8,t8,a8⟩:=x8;simp only at hr ⊢;replace hr:=yx hr;go_wp2_with fail;refine jo hr (zw h8 (by omega) [61,62]) F8 (Fr.refl _ _) ok8 (zo) ?_;clear hr;intro w9 x9 st9 hm9 h9 f9 F9 n9 ok9 hle9 ha9 hr;have T9:=((((f5.trans f6).trans f7).trans f8).trans f9);have cz9:=T9.keep _ _ _ _ hz4.out (by decide) (by decide);have o9:=zi (zH (zu (zu o3.out hb4) (zf _ _)) T9 (by decide) (by decide));have hS:∀W,uW base va.ownBlock w9.drew W->W.cell? ⟨w4.heap.size,2,none⟩=some (.int .i64 a1):=fun W hF=>zd (hF.keep _ _ _ _ hne4.out cz9 (by decide) (by decide)) 2
   clear cz9;replace hr:=yx hr;go_wp2_with fail;refine LodeX.jm (RR:=zev base va.ownBlock) (Xp:=XP base r w) [(0,0),(1,0),(2,0),(3,0),(4,1),(5,0),(6,0),(7,2),(8,2),(9,2),(10,2),(11,2),(12,0)] ?_;refine LodeX.qT ?_;refine LodeX.callX fun K hK=>?_
   go_simp;refine XV hr (hR.out.expr _ _ _ (h9.below bR.drew) ok9.out (by omega)) F9 ((Fr.of_below h9.base bR.drew)) ?_;clear hr;intro w10 x10 st10 hm10 h10 f10 F10 hr;refine⟨f10.cutG,hK _ _ ?_⟩;clear hK K;have hS:=fun W (hF:uW base _ w10 W)=>hS W (uW.trans f10.cutG hF)
   try simp only[Act.put,yG,yE,yF]
   obtain⟨n10,vd10⟩:=hR.out.good.expr ok9.out.le ok9.out.wf hm10;have ok10:=zi (ok9.out.nx n10 (by decide));have hle10:=ok10.out.le;have ha10:=n10.next;have hfew:st10.nodes.length<=1000000:=by have:=ok10.out.few;omega
   refine LodeX.callX fun K hK=>?_
   go_simp;refine⟨(Fr.of_below h10.base (zf _ _)).cutG,hK _ _ ?_⟩;clear hK K
   try simp only[Act.put,yG,yE,yF]
   replace hr:=yx hr;refine LodeX.callX fun K hK=>?_
   go_simp;refine XV hr (zz (h10.below (zf _ _)) 63 t8 0 a1 [x6,x10] _ (KS.lit _ [x6,x10]) (h10.fresh _ _) hfew) F10 ((Fr.of_below h10.base (zf _ _))) ?_;clear hr;intro w11 x11 st11 hm11 h11 f11 F11 hr;refine⟨f11.cutG,hK _ _ ?_⟩;clear hK K
   try simp only[Act.put,yG,yE,yF]
   obtain⟨n11,vd11⟩:=zK ok10.out.le ok10.out.wf (Jp ((((vd6.later n7).later n8).later n9).later n10) (YD vd10)) hm11;have ok11:=zi (ok3.out.nx ((((((n5.trans n6).trans n7).trans n8).trans n9).trans n10).trans n11) (by decide));have hle11:=ok11.out.le;have ha11:=n11.next;have o10:=zH (zu o9.out bR.drew) f10 (by decide) (by decide);have o11:=zH (zu o10 (zf _ _)) f11 (by decide) (by decide);have hs11:=F11.b.size;refine LodeX.callX fun K hK=>?_
   go_simp;refine⟨(Fr.of_below h11.base (zf _ _)).cutG,hK _ _ ?_⟩;clear hK K
   try simp only[Act.put,yG,yE,yF]
   have hbs12:=h11.base;have hss12:=F11.b.size;refine LodeX.callX fun K hK=>?_
   refine km _ _ rfl (by rfl) (zu o11 (zf _ _)) (by rfl) (zd (zk w11 _) 0) rfl rfl (by omega) (by simp;omega) ?_;intro g' cap' w12 hrow hgrow hg';obtain⟨v12,e12,o12,h12,gs12,FF12⟩:=xb h11 o11 (by omega) (fun g hg=>by have:=hivlt.out g hg;omega) hrow hgrow (hg'.imp id (fun h=>by simpa using h));rw[e12];refine⟨uW.grow hgrow (by simp;omega) (fun k hk=>by have:=((o11).lt k hk).1;omega),hK _ _ ?_⟩;clear hK K;replace o12:=zi o12;replace FF12:=zi FF12;clear hrow hgrow hg' e12
   try simp only[Act.put,yG,yE,yF]
   have F12:=FF12.out w F11 (pE _) hbase;refine LodeX.qT ?_;refine LodeX.zC fun W hW=>?_
   cases hW;clear hS;have ok12:=ok11;replace hr:=yx hr;go_wp2_with fail;refine Yu hr (yl h12 (by omega) [44]) F12 (Fr.refl _ _) ok12 ?_;clear hr;intro w13 x13 st13 hm13 h13 f13 F13 n13 ok13 hle13 hr;have o13:=zH o12.out f13 (by decide) (by decide);cases x13 with
   |true=>
    have ha13:=yw hm13;replace hr:=zi (XJ.symm.trans hr.out);replace o13:=zi o13;go_wp2;go_roundw
    case rel=>exact⟨_,st13,acc ++ [x11],k,rfl,hr.out,by omega,by omega,by rw[pC,pI];omega,ok13.out,o13.out,h13,F13⟩
    case measure=>
     rw[h13.xh,h3.xh];omega
   |false=>
    have hn13:st13.next=st11.next:=by rw[yd hm13]
    replace hr:=zi (show YR (acc ++ [x11]) E st13=r from hr.out);unfold YR at hr;go_wp2_with fail;refine jo hr (zw h13 (by omega) [125]) F13 (Fr.refl _ _) ok13 (zo) ?_;clear hr;intro w16 x16 st16 hm16 h16 f16 F16 n16 ok16 hle16 ha16 hr;have o16:=zH o13 f16 (by decide) (by decide);have hr16:qw.ok (acc ++ [x11]) st16=r:=hr.out;subst hr16;go_wp2;go_ret;exact⟨_,rfl,by rw[pC,pI];omega,o16,h16,F16⟩
  |false=>
   have hn5:st5.next=st3.next:=by rw[yd hm5]
   replace hr:=zi (zag.symm.trans hr.out);replace hr:=yx hr;go_wp2_with fail;refine Yu hr (yl h5 (by omega) [115,101,110,100]) F5 (Fr.refl _ _) ok5 ?_;clear hr;intro wc xc stc hmc hc fc Fc nc okc hlec hr;cases xc with
   |true=>
    have hac:=yw hmc;replace hr:=zi (XJ.symm.trans hr.out);replace hr:=yx hr;go_wp2_with fail;refine XI hr (hR.out.expr _ _ _ hc okc.out (by omega)) Fc (Fr.refl _ _) okc (hR.out.good.expr) ?_;clear hr;intro w6 x6 st6 hm6 h6 f6 F6 n6 vd6 ok6 hle6 ha6 hr;replace hr:=yx hr;go_wp2_with fail;refine jo hr (zw h6 (by omega) [44]) F6 (Fr.refl _ _) ok6 (zo) ?_;clear hr;intro w7 x7 st7 hm7 h7 f7 F7 n7 ok7 hle7 ha7 hr;replace hr:=yx hr;go_wp2_with fail;refine XI hr (hR.out.expr _ _ _ h7 ok7.out (by omega)) F7 (Fr.refl _ _) ok7 (hR.out.good.expr) ?_;clear hr;intro w8 x8 st8 hm8 h8 f8 F8 n8 vd8 ok8 hle8 ha8 hr;replace hr:=yx hr;go_wp2_with fail;refine jo hr (zw h8 (by omega) [61,62]) F8 (Fr.refl _ _) ok8 (zo) ?_;clear hr;intro w9 x9 st9 hm9 h9 f9 F9 n9 ok9 hle9 ha9 hr;have T9:=(((((f5.trans fc).trans f6).trans f7).trans f8).trans f9);have cz9:=T9.keep _ _ _ _ hz4.out (by decide) (by decide);have o9:=zi (zH (zu (zu o3.out hb4) (zf _ _)) T9 (by decide) (by decide));have hS:∀W,uW base va.ownBlock w9.drew W->W.cell? ⟨w4.heap.size,2,none⟩=some (.int .i64 a1):=fun W hF=>zd (hF.keep _ _ _ _ hne4.out cz9 (by decide) (by decide)) 2
    clear cz9;replace hr:=yx hr;go_wp2_with fail;refine LodeX.jm (RR:=zev base va.ownBlock) (Xp:=XP base r w) [(0,0),(1,0),(2,0),(3,1),(4,0),(5,0),(6,0),(7,2),(8,2),(9,2),(10,2),(11,2),(12,0)] ?_;refine LodeX.qT ?_;refine LodeX.callX fun K hK=>?_
    go_simp;refine XV hr (hR.out.expr _ _ _ (h9.below bR.drew) ok9.out (by omega)) F9 ((Fr.of_below h9.base bR.drew)) ?_;clear hr;intro w10 x10 st10 hm10 h10 f10 F10 hr;refine⟨f10.cutG,hK _ _ ?_⟩;clear hK K;have hS:=fun W (hF:uW base _ w10 W)=>hS W (uW.trans f10.cutG hF)
    try simp only[Act.put,yG,yE,yF]
    obtain⟨n10,vd10⟩:=hR.out.good.expr ok9.out.le ok9.out.wf hm10;have ok10:=zi (ok9.out.nx n10 (by decide));have hle10:=ok10.out.le;have ha10:=n10.next;have hfew:st10.nodes.length<=1000000:=by have:=ok10.out.few;omega
    refine LodeX.callX fun K hK=>?_
    go_simp;refine⟨(Fr.of_below h10.base (zf _ _)).cutG,hK _ _ ?_⟩;clear hK K
    try simp only[Act.put,yG,yE,yF]
    replace hr:=yx hr;refine LodeX.callX fun K hK=>?_
    go_simp;refine XV hr (zz (h10.below (zf _ _)) 64 [] 0 a1 [x6,x8,x10] _ (KS.lit _ [x6,x8,x10]) (h10.fresh _ _) hfew) F10 ((Fr.of_below h10.base (zf _ _))) ?_;clear hr;intro w11 x11 st11 hm11 h11 f11 F11 hr;refine⟨f11.cutG,hK _ _ ?_⟩;clear hK K
    try simp only[Act.put,yG,yE,yF]
    obtain⟨n11,vd11⟩:=zK ok10.out.le ok10.out.wf (Jp ((((vd6.later n7).later n8).later n9).later n10) (Jp ((vd8.later n9).later n10) (YD vd10))) hm11;have ok11:=zi (ok3.out.nx (((((((n5.trans nc).trans n6).trans n7).trans n8).trans n9).trans n10).trans n11) (by decide));have hle11:=ok11.out.le;have ha11:=n11.next;have o10:=zH (zu o9.out bR.drew) f10 (by decide) (by decide);have o11:=zH (zu o10 (zf _ _)) f11 (by decide) (by decide);have hs11:=F11.b.size;refine LodeX.callX fun K hK=>?_
    go_simp;refine⟨(Fr.of_below h11.base (zf _ _)).cutG,hK _ _ ?_⟩;clear hK K
    try simp only[Act.put,yG,yE,yF]
    have hbs12:=h11.base;have hss12:=F11.b.size;refine LodeX.callX fun K hK=>?_
    refine km _ _ rfl (by rfl) (zu o11 (zf _ _)) (by rfl) (zd (zk w11 _) 0) rfl rfl (by omega) (by simp;omega) ?_;intro g' cap' w12 hrow hgrow hg';obtain⟨v12,e12,o12,h12,gs12,FF12⟩:=xb h11 o11 (by omega) (fun g hg=>by have:=hivlt.out g hg;omega) hrow hgrow (hg'.imp id (fun h=>by simpa using h));rw[e12];refine⟨uW.grow hgrow (by simp;omega) (fun k hk=>by have:=((o11).lt k hk).1;omega),hK _ _ ?_⟩;clear hK K;replace o12:=zi o12;replace FF12:=zi FF12;clear hrow hgrow hg' e12
    try simp only[Act.put,yG,yE,yF]
    have F12:=FF12.out w F11 (pE _) hbase;refine LodeX.qT ?_;refine LodeX.zC fun W hW=>?_
    cases hW;clear hS;have ok12:=ok11;replace hr:=yx hr;go_wp2_with fail;refine Yu hr (yl h12 (by omega) [44]) F12 (Fr.refl _ _) ok12 ?_;clear hr;intro w13 x13 st13 hm13 h13 f13 F13 n13 ok13 hle13 hr;have o13:=zH o12.out f13 (by decide) (by decide);cases x13 with
    |true=>
     have ha13:=yw hm13;replace hr:=zi (XJ.symm.trans hr.out);replace o13:=zi o13;go_wp2;go_roundw
     case rel=>exact⟨_,st13,acc ++ [x11],k,rfl,hr.out,by omega,by omega,by rw[pC,pI];omega,ok13.out,o13.out,h13,F13⟩
     case measure=>
      rw[h13.xh,h3.xh];omega
    |false=>
     have hn13:st13.next=st11.next:=by rw[yd hm13]
     replace hr:=zi (show YR (acc ++ [x11]) E st13=r from hr.out);unfold YR at hr;go_wp2_with fail;refine jo hr (zw h13 (by omega) [125]) F13 (Fr.refl _ _) ok13 (zo) ?_;clear hr;intro w16 x16 st16 hm16 h16 f16 F16 n16 ok16 hle16 ha16 hr;have o16:=zH o13 f16 (by decide) (by decide);have hr16:qw.ok (acc ++ [x11]) st16=r:=hr.out;subst hr16;go_wp2;go_ret;exact⟨_,rfl,by rw[pC,pI];omega,o16,h16,F16⟩
   |false=>
    have hnc:stc.next=st5.next:=by rw[yd hmc]
    replace hr:=zi (zag.symm.trans hr.out);replace hr:=yx hr;go_wp2_with fail;refine jo hr (zw hc (by omega) [101,108,115,101]) Fc (Fr.refl _ _) okc (zo) ?_;clear hr;intro w7 x7 st7 hm7 h7 f7 F7 n7 ok7 hle7 ha7 hr;have ha7:=n7.adv;replace hr:=yx hr;go_wp2_with fail;refine jo hr (zw h7 (by omega) [61,62]) F7 (Fr.refl _ _) ok7 (zo) ?_;clear hr;intro w9 x9 st9 hm9 h9 f9 F9 n9 ok9 hle9 ha9 hr;have T9:=(((f5.trans fc).trans f7).trans f9);have cz9:=T9.keep _ _ _ _ hz4.out (by decide) (by decide);have o9:=zi (zH (zu (zu o3.out hb4) (zf _ _)) T9 (by decide) (by decide));have hS:∀W,uW base va.ownBlock w9.drew W->W.cell? ⟨w4.heap.size,2,none⟩=some (.int .i64 a1):=fun W hF=>zd (hF.keep _ _ _ _ hne4.out cz9 (by decide) (by decide)) 2
    clear cz9;replace hr:=yx hr;go_wp2_with fail;refine LodeX.jm (RR:=zev base va.ownBlock) (Xp:=XP base r w) [(0,0),(1,0),(2,0),(3,1),(4,0),(5,2),(6,2),(7,2),(8,2),(9,2),(10,0)] ?_;refine LodeX.qT ?_;refine LodeX.callX fun K hK=>?_
    go_simp;refine XV hr (hR.out.expr _ _ _ (h9.below bR.drew) ok9.out (by omega)) F9 ((Fr.of_below h9.base bR.drew)) ?_;clear hr;intro w10 x10 st10 hm10 h10 f10 F10 hr;refine⟨f10.cutG,hK _ _ ?_⟩;clear hK K;have hS:=fun W (hF:uW base _ w10 W)=>hS W (uW.trans f10.cutG hF)
    try simp only[Act.put,yG,yE,yF]
    obtain⟨n10,vd10⟩:=hR.out.good.expr ok9.out.le ok9.out.wf hm10;have ok10:=zi (ok9.out.nx n10 (by decide));have hle10:=ok10.out.le;have ha10:=n10.next;have hfew:st10.nodes.length<=1000000:=by have:=ok10.out.few;omega
    refine LodeX.callX fun K hK=>?_
    go_simp;refine⟨(Fr.of_below h10.base (zf _ _)).cutG,hK _ _ ?_⟩;clear hK K
    try simp only[Act.put,yG,yE,yF]
    replace hr:=yx hr;refine LodeX.callX fun K hK=>?_
    go_simp;refine XV hr (zz (h10.below (zf _ _)) 65 [] 0 a1 [x10] _ (KS.lit _ [x10]) (h10.fresh _ _) hfew) F10 ((Fr.of_below h10.base (zf _ _))) ?_;clear hr;intro w11 x11 st11 hm11 h11 f11 F11 hr;refine⟨f11.cutG,hK _ _ ?_⟩;clear hK K
    try simp only[Act.put,yG,yE,yF]
    obtain⟨n11,vd11⟩:=zK ok10.out.le ok10.out.wf (YD vd10) hm11;have ok11:=zi (ok3.out.nx (((((n5.trans nc).trans n7).trans n9).trans n10).trans n11) (by decide));have hle11:=ok11.out.le;have ha11:=n11.next;have o10:=zH (zu o9.out bR.drew) f10 (by decide) (by decide);have o11:=zH (zu o10 (zf _ _)) f11 (by decide) (by decide);have hs11:=F11.b.size;refine LodeX.callX fun K hK=>?_
    go_simp;refine⟨(Fr.of_below h11.base (zf _ _)).cutG,hK _ _ ?_⟩;clear hK K
    try simp only[Act.put,yG,yE,yF]
    have hbs12:=h11.base;have hss12:=F11.b.size;refine LodeX.callX fun K hK=>?_
    refine km _ _ rfl (by rfl) (zu o11 (zf _ _)) (by rfl) (zd (zk w11 _) 0) rfl rfl (by omega) (by simp;omega) ?_;intro g' cap' w12 hrow hgrow hg';obtain⟨v12,e12,o12,h12,gs12,FF12⟩:=xb h11 o11 (by omega) (fun g hg=>by have:=hivlt.out g hg;omega) hrow hgrow (hg'.imp id (fun h=>by simpa using h));rw[e12];refine⟨uW.grow hgrow (by simp;omega) (fun k hk=>by have:=((o11).lt k hk).1;omega),hK _ _ ?_⟩;clear hK K;replace o12:=zi o12;replace FF12:=zi FF12;clear hrow hgrow hg' e12
    try simp only[Act.put,yG,yE,yF]
    have F12:=FF12.out w F11 (pE _) hbase;refine LodeX.qT ?_;refine LodeX.zC fun W hW=>?_
    cases hW;clear hS;have ok12:=ok11;replace hr:=zi (show YR (acc ++ [x11]) E st11=r from hr.out);unfold YR at hr;go_wp2_with fail;refine jo hr (zw h12 (by omega) [125]) F12 (Fr.refl _ _) ok12 (zo) ?_;clear hr;intro w16 x16 st16 hm16 h16 f16 F16 n16 ok16 hle16 ha16 hr;have o16:=zH o12.out f16 (by decide) (by decide);have hr16:qw.ok (acc ++ [x11]) st16=r:=hr.out;subst hr16;go_wp2;go_ret;exact⟨_,rfl,by rw[pC,pI];omega,o16,h16,F16⟩
end
section
open Go.RowKit Lode Go.Shelf
attribute [local go_sem ↓] Go.wp_at_zero Go.wp_at_succ
open Go.Proofs.Tryz
def PCt(E:zv)(base pb:Nat)(iv:Value)(n f:Nat)(m:yp->PM Int):Prop:=∀(t:yp) (G:Nat->Prop) (w:World) (st:zY),PW E base pb iv G w st->qG E st->E.toks.length-st.next<n->Calls prog f #[.pointer (some ⟨pb,0,none⟩),vM t] w (xK E base pb iv G (m t E st) ju w)
theorem zaC:∀x∈zM,x.2.2= -1\/x.2.2=0\/x.2.2=((1:Nat):Int)\/x.2.2=((2:Nat):Int)\/x.2.2=((3:Nat):Int):=by decide
theorem zbT{s:List UInt8}{k:Nat}{m:Int}(h:xV s=some (k,m)):m= -1\/m=0\/m=((1:Nat):Int)\/m=((2:Nat):Int)\/m=((3:Nat):Int):=by
 rcases VC s with⟨j,x,_,hx,_,hw⟩|⟨_,hw⟩
 ·rw[hw] at h;have hm:=zaC x (wK hx);rw[Option.some.inj h] at hm;exact hm
 ·rw[hw] at h;cases h
theorem zg0{E:zv}{base pb n:Nat}{iv:Value}{R:xN}(hR:kg E base pb iv n R)(t:yp){s:List UInt8}{k:Nat}{m:Int}(hw:xV s=some (k,m)){G:Nat->Prop}{w:World}{st0:zY}(h0:PW E base pb iv G w st0)(ok0:qG E st0)(hn:E.toks.length-st0.next<n):
 Calls prog 220 #[.pointer (some ⟨pb,0,none⟩),vM t,JG s k m] w (xK E base pb iv G (jK R t (k,m) E st0) ju w):=by
 rcases zbT hw with rfl|rfl|rfl|rfl|rfl
 ·exact zfO hR t s k h0 ok0 hn
 ·exact zfP t s k h0 ok0
 ·exact XX hR t s k 1 (by decide) (by decide) h0 ok0 hn
 ·exact XX hR t s k 2 (by decide) (by decide) h0 ok0 hn
 ·exact XX hR t s k 3 (by decide) (by decide) h0 ok0 hn
def zfH(R:xN)(t:yp):PM Int:=match xV t.text with
 |some w=>if t.kind == 5 then (do jD;jK R t w) else yA R t
 |none=>yA R t
def ziy(R:xN)(t:yp):PM Int:=do
 if <-yu [116,114,117,101] then zG 3 [] 1 t.at_ []
 else if <-yu [102,97,108,115,101] then zG 3 [] 0 t.at_ []
 else zfH R t
def zj2(R:xN)(t:yp):PM Int:=do
 if <-yu [40] then
  if <-yu [41] then zG 4 [] 0 t.at_ []
  else
   let x <-R.expr
   let _ <-zL [41]
   pure x
 else ziy R t
theorem zix{E:zv}{base pb n:Nat}{iv:Value}{R:xN}(hE:zbI E)(hR:kg E base pb iv n R)(hC:PCt E base pb iv (n+1) 221 (yA R)):Vi E base pb iv (n+1) 209 (vB R):=by
 intro G w st0 h0 ok0 hn;obtain⟨r,hr⟩:=exE (vB R E st0);rw[hr];unfold vB at hr;replace hr:=zi hr;replace ok0:=zi ok0;replace hR:=zi hR;replace hC:=zi hC;have F0:=Fr.refl base w;have hlim:=ok0.out.lim;have hle:=ok0.out.le;have hG0:=h0.glt;have hbase:=h0.base;have henter:=zi (enters_of (P:=prog) func142 (by kernel_rfl) rfl);have HT:=zi (qy h0);replace hr:=zi ((yb (show qP E st0=.ok (zy E st0) st0 from rfl)).symm.trans hr.out);have hlt:=zi (fun (k:Nat) (h:(zy E st0).kind=k) (hk:k≠0)=>qQ (E:=E) (s:=st0) (k:=k) h hk);have hnum:=zi (fun h=>hE.at (s:=st0) h);generalize zy E st0=t at *;obtain⟨k1,t1,a1⟩:=t;unfold vM at HT;go_enter func209,ntmps209;go_wp2_with fail;refine HT.out.mono ?_;rintro e w1 ⟨rfl,hb1⟩;have hb1':Below w.heap.size w w1:=zg bR hb1;have hA:=zf w1 (.cells #[.int .u8 k1,.string ⟨t1.toArray⟩,.int .i64 a1] 37 (0,0));have hz2:=zk w1 (.cells #[.int .u8 k1,.string ⟨t1.toArray⟩,.int .i64 a1] 37 (0,0));have hb2:=hb1'.trans (hA.mono hb1'.size);have h2:=h0.below hb2;have F2:=Fr.of_below h0.base hb2;have cz0:=zd hz2 0;have cz1:=zd hz2 1;have cz2:=zd hz2 2;replace hz2:=zi hz2;replace F2:=zi F2;by_cases e3:k1=3
 ·have hk:(k1 == 3)=true:=by simp[e3]
  have hi:((k1:Int) == 3)=true:=by simp[e3]
  replace hr:=zi (show (zG 1 [] (xR t1) a1 []:PM Int) E {st0 with next:=st0.next+1}=r from by
   have:=hr.out;rw[if_pos (by exact hk)] at this;exact this)
  have HN:=zi (fun W=>Zv (hnum.out hk) W);unfold vM at HN;replace F2:=F2.out;have hlt2:=hlt.out 3 e3 (by decide);obtain⟨c4,f4,h3,f3⟩:=h2.skip;have hy:=pJ ((st0.next:Int)+1) (by omega);have hz3:=f3.keep _ _ _ _ hz2.out (by decide) (by decide);have dz0:=zd hz3 0;have dz1:=zd hz3 1;have dz2:=zd hz3 2;have F3:=F2.trans f3;have hfew:st0.nodes.length<=1000000:=by have:=ok0.out.few;omega
  have ok3:qG E {st0 with next:=st0.next+1}:=⟨hlt2,ok0.out.wf,by have:=ok0.out.few;simp only;omega,ok0.out.lim⟩;have hS:∀W,(yO base).rel ((w1.alloc (.cells #[.int .u8 k1,.string ⟨t1.toArray⟩,.int .i64 a1] 37 (0,0))).setCell ⟨pb,4,none⟩ (.int .i64 ((st0.next:Int)+1))).drew W->(W.cell? ⟨w1.heap.size,0,none⟩=some (.int .u8 k1)/\W.cell? ⟨w1.heap.size,1,none⟩=some (.string ⟨t1.toArray⟩)/\W.cell? ⟨w1.heap.size,2,none⟩=some (.int .i64 a1)):=fun W hF=>by
   have:=hF.keep _ _ _ _ hz3 (by decide) (by decide);exact⟨zd this 0,zd this 1,zd this 2⟩
  clear hk e3 hz3;go_wp2_with fail;generalize (w1.alloc (.cells #[.int .u8 k1,.string ⟨t1.toArray⟩,.int .i64 a1] 37 (0,0))).setCell ⟨pb,4,none⟩ (.int .i64 ((st0.next:Int)+1))=w3 at *;refine LodeX.jm (RR:=yO base) (Xp:=XP base r w) [(0,0),(1,1),(3,0),(4,1),(2,2),(5,2),(6,0)] ?_;refine LodeX.qT ?_;refine LodeX.callX fun K hK=>?_
  go_simp;refine (HN.out _).mono ?_;rintro e w4 ⟨rfl,hbN⟩;have h4:=(h3.below bR.drew).below hbN;have f4:=Fr.of_below (h3.below bR.drew).base hbN;have F4:=(F3.trans (Fr.of_below h3.base bR.drew)).trans f4;refine⟨f4,hK _ _ ?_⟩;clear hK K hbN;have hS:=fun W (hF:(yO base).rel w4 W)=>hS W (Fr.trans f4 hF)
  try simp only[Act.put,yG,yE,yF]
  refine LodeX.callX fun K hK=>?_
  go_simp;refine zO hr (zz h4 1 [] (xR t1) a1 [] _ (KS.nil' _) xt hfew) F4 ((Fr.refl _ _)) ?_;rintro w5 x5 st5 hm5 rfl h5 f5 F5;refine⟨f5,hK _ _ ?_⟩;clear hK K
  try simp only[Act.put,yG,yE,yF]
  refine LodeX.qT ?_;refine LodeX.zC fun W hW=>?_
  cases hW;clear hS;go_wp2;go_ret;exact⟨⟨_,rfl,rfl⟩,h5,F5⟩
 have i3:((k1:Int) == 3)=false:=by simp;omega
 by_cases e4:k1=4
 ·have hk:(k1 == 4)=true:=by simp[e4]
  have hi:((k1:Int) == 4)=true:=by simp[e4]
  replace hr:=zi (show (zG 2 t1 0 a1 []:PM Int) E {st0 with next:=st0.next+1}=r from by
   have:=hr.out;rw[if_neg (by simp[e3]),if_pos (by exact hk)] at this;exact this)
  replace F2:=F2.out;have hlt2:=hlt.out 4 e4 (by decide);obtain⟨c4,f4,h3,f3⟩:=h2.skip;have hy:=pJ ((st0.next:Int)+1) (by omega);have hz3:=f3.keep _ _ _ _ hz2.out (by decide) (by decide);have dz0:=zd hz3 0;have dz1:=zd hz3 1;have dz2:=zd hz3 2;have F3:=F2.trans f3;have hfew:st0.nodes.length<=1000000:=by have:=ok0.out.few;omega
  have ok3:qG E {st0 with next:=st0.next+1}:=⟨hlt2,ok0.out.wf,by have:=ok0.out.few;simp only;omega,ok0.out.lim⟩;clear hk e4 e3;go_wp2_with fail;refine zO hr (zz h3 2 t1 0 a1 [] _ (KS.nil' _) xt (by exact hfew)) F3 (Fr.refl _ _) ?_;rintro w4 x4 st4 hm4 rfl h4 f4 F4;go_wp2;go_ret;exact⟨⟨_,rfl,rfl⟩,h4,F4⟩
 have i4:((k1:Int) == 4)=false:=by simp;omega
 by_cases e1:k1=1
 ·have hk:(k1 == 1)=true:=by simp[e1]
  have hi:((k1:Int) == 1)=true:=by simp[e1]
  replace hr:=zi (show (zG 5 t1 0 a1 []:PM Int) E {st0 with next:=st0.next+1}=r from by
   have:=hr.out;rw[if_neg (by simp[e3]),if_neg (by simp[e4]),if_pos (by exact hk)] at this;exact this)
  replace F2:=F2.out;have hlt2:=hlt.out 1 e1 (by decide);obtain⟨c4,f4,h3,f3⟩:=h2.skip;have hy:=pJ ((st0.next:Int)+1) (by omega);have hz3:=f3.keep _ _ _ _ hz2.out (by decide) (by decide);have dz0:=zd hz3 0;have dz1:=zd hz3 1;have dz2:=zd hz3 2;have F3:=F2.trans f3;have hfew:st0.nodes.length<=1000000:=by have:=ok0.out.few;omega
  have ok3:qG E {st0 with next:=st0.next+1}:=⟨hlt2,ok0.out.wf,by have:=ok0.out.few;simp only;omega,ok0.out.lim⟩;clear hk e1 e3 e4;go_wp2_with fail;refine zO hr (zz h3 5 t1 0 a1 [] _ (KS.nil' _) xt (by exact hfew)) F3 (Fr.refl _ _) ?_;rintro w4 x4 st4 hm4 rfl h4 f4 F4;go_wp2;go_ret;exact⟨⟨_,rfl,rfl⟩,h4,F4⟩
 have i1:((k1:Int) == 1)=false:=by simp;omega
 by_cases e2:k1=2
 ·have hk:(k1 == 2)=true:=by simp[e2]
  have hi:((k1:Int) == 2)=true:=by simp[e2]
  replace hr:=zi (show (do let l <-qk R.expr;zG 25 t1 0 a1 l:PM Int) E {st0 with next:=st0.next+1}=r from by
   have:=hr.out;rw[if_neg (by simp[e3]),if_neg (by simp[e4]),if_neg (by simp[e1]),if_pos (by exact hk)] at this;exact this)
  replace F2:=F2.out;have hlt2:=hlt.out 2 e2 (by decide);obtain⟨c4,f4,h3,f3⟩:=h2.skip;have hy:=pJ ((st0.next:Int)+1) (by omega);have hz3:=f3.keep _ _ _ _ hz2.out (by decide) (by decide);have dz0:=zd hz3 0;have dz1:=zd hz3 1;have dz2:=zd hz3 2;have F3:=F2.trans f3;have hfew:st0.nodes.length<=1000000:=by have:=ok0.out.few;omega
  have ok3:qG E {st0 with next:=st0.next+1}:=⟨hlt2,ok0.out.wf,by have:=ok0.out.few;simp only;omega,ok0.out.lim⟩;have hS:∀W,(yO base).rel ((w1.alloc (.cells #[.int .u8 k1,.string ⟨t1.toArray⟩,.int .i64 a1] 37 (0,0))).setCell ⟨pb,4,none⟩ (.int .i64 ((st0.next:Int)+1))).drew W->(W.cell? ⟨w1.heap.size,0,none⟩=some (.int .u8 k1)/\W.cell? ⟨w1.heap.size,1,none⟩=some (.string ⟨t1.toArray⟩)/\W.cell? ⟨w1.heap.size,2,none⟩=some (.int .i64 a1)):=fun W hF=>by
   have:=hF.keep _ _ _ _ hz3 (by decide) (by decide);exact⟨zd this 0,zd this 1,zd this 2⟩
  clear hk e2 hz3 e1 e3 e4;go_wp2_with fail;generalize (w1.alloc (.cells #[.int .u8 k1,.string ⟨t1.toArray⟩,.int .i64 a1] 37 (0,0))).setCell ⟨pb,4,none⟩ (.int .i64 ((st0.next:Int)+1))=w3 at *;replace ok3:=zi ok3;have hn3:({st0 with next:=st0.next+1}:zY).next=st0.next+1:=rfl;generalize ({st0 with next:=st0.next+1}:zY)=st3 at *;have hb3:=F3.b.size;refine LodeX.jm (RR:=yO base) (Xp:=XP base r w) [(0,0),(1,0),(2,1),(3,0),(4,1),(5,0),(6,0),(7,2),(8,2),(9,2),(10,0)] ?_;refine LodeX.qT ?_
  iterate 1 (refine LodeX.callX fun K hK=>?_;go_simp;refine⟨Fr.refl _ _,hK _ _ ?_⟩;clear hK K;try simp only[Act.put,yG,yE,yF])
  refine LodeX.callX fun K hK=>?_
  go_simp;refine lgo hr (Qh hR.out.expr hR.out.good.expr henter.out (h3.below bR.drew) ok3.out (by omega)) F3 ((Fr.of_below h3.base bR.drew)) ?_;clear hr;intro w4 x4 st4 v4 l4 o4 hm4 h4 f4 F4 hr;refine⟨f4,hK _ _ ?_⟩;clear hK K;have hS:=fun W (hF:(yO base).rel w4 W)=>hS W (Fr.trans f4 hF)
  try simp only[Act.put,yG,yE,yF]
  obtain⟨n4,vl4⟩:=Zc hR.out.good.expr ok3.out.le ok3.out.wf hm4;have ok4:=zi (ok3.out.nx n4 (by decide));have hle4:=ok4.out.le;have hfew4:=ok4.out.few;have hsz3:(w3.drew).heap.size=w3.heap.size:=rfl;refine LodeX.callX fun K hK=>?_
  go_simp;refine zO hr (zz h4.ungw 25 t1 0 a1 x4 _ (KS.own o4) (yB o4 (fun g hg=>by have:=hG0 g hg;omega)) (by omega)) F4 ((Fr.refl _ _)) ?_;rintro w5 x5 st5 hm5 rfl h5 f5 F5;refine⟨f5,hK _ _ ?_⟩;clear hK K
  try simp only[Act.put,yG,yE,yF]
  refine LodeX.qT ?_;refine LodeX.zC fun W hW=>?_
  cases hW;clear hS;go_wp2;go_ret;exact⟨⟨_,rfl,rfl⟩,h5,F5⟩
 have i2:((k1:Int) == 2)=false:=by simp;omega
 replace hr:=zi (show zj2 R ⟨k1,t1,a1⟩ E st0=r from by
  have:=hr.out;rw[if_neg (by simp[e3]),if_neg (by simp[e4]),if_neg (by simp[e1]),if_neg (by simp[e2])] at this;exact this)
 clear e1 e2 e3 e4 cz0 cz1 cz2;unfold zj2 at hr;replace F2:=F2.out;have ok2:=ok0;go_wp2_with fail;refine Yu hr (yl h2 (by omega) [40]) F2 (Fr.refl _ _) ok2 ?_;clear hr;intro w3 x3 st3 hm3 h3 f3 F3 n3 ok3 hle3 hr;cases x3 with
 |true=>
  have ha3:=yw hm3;replace hr:=zi ((if_pos (rfl:true=true)▸hr.out:_));go_wp2_with fail;refine Yu hr (yl h3 (by omega) [41]) F3 (Fr.refl _ _) ok3 ?_;clear hr;intro w4 x4 st4 hm4 h4 f4 F4 n4 ok4 hle4 hr;cases x4 with
  |true=>
   replace hr:=zi ((if_pos (rfl:true=true)▸hr.out:_));have dz:=zd ((f3.trans f4).keep _ _ _ _ hz2.out (by decide) (by decide)) 2;have hfew:st4.nodes.length<=1000000:=by have:=ok4.out.few;omega
   go_wp2_with fail;refine zO hr (zz h4 4 [] 0 a1 [] _ (KS.nil' _) xt hfew) F4 (Fr.refl _ _) ?_;rintro w5 x5 st5 hm5 rfl h5 f5 F5;go_wp2;go_ret;exact⟨⟨_,rfl,rfl⟩,h5,F5⟩
  |false=>
   replace hr:=zi (show (do let x <-R.expr;let _ <-zL [41];pure x:PM Int) E st4=r from hr.out);have hn4:st4.next=st3.next:=by rw[yd hm4]
   go_wp2_with fail;refine XI hr (hR.out.expr _ _ _ h4 ok4.out (by omega)) F4 (Fr.refl _ _) ok4 (hR.out.good.expr) ?_;clear hr;intro w5 x5 st5 hm5 h5 f5 F5 n5 vd5 ok5 hle5 ha5 hr;go_wp2_with fail;refine jo hr (zw h5 (by omega) [41]) F5 (Fr.refl _ _) ok5 (zo) ?_;clear hr;intro w6 x6 st6 hm6 h6 f6 F6 n6 ok6 hle6 ha6 hr;have hr6:qw.ok x5 st6=r:=hr.out;subst hr6;go_wp2;go_ret;exact⟨⟨_,rfl,rfl⟩,h6,F6⟩
 |false=>
  replace hr:=zi (show ziy R ⟨k1,t1,a1⟩ E st3=r from hr.out);have hn3:st3.next=st0.next:=by rw[yd hm3]
  unfold ziy at hr;go_wp2_with fail;refine Yu hr (yl h3 (by omega) [116,114,117,101]) F3 (Fr.refl _ _) ok3 ?_;clear hr;intro w4 x4 st4 hm4 h4 f4 F4 n4 ok4 hle4 hr;have T4:=f3.trans f4;cases x4 with
  |true=>
   replace hr:=zi ((if_pos (rfl:true=true)▸hr.out:_));have dz:=zd (T4.keep _ _ _ _ hz2.out (by decide) (by decide)) 2;have hfew:st4.nodes.length<=1000000:=by have:=ok4.out.few;omega
   go_wp2_with fail;refine zO hr (zz h4 3 [] 1 a1 [] _ (KS.nil' _) xt hfew) F4 (Fr.refl _ _) ?_;rintro w5 x5 st5 hm5 rfl h5 f5 F5;go_wp2;go_ret;exact⟨⟨_,rfl,rfl⟩,h5,F5⟩
  |false=>
   replace hr:=zi (show (do if <-yu [102,97,108,115,101] then zG 3 [] 0 a1 [] else zfH R ⟨k1,t1,a1⟩:PM Int) E st4=r from hr.out);have hn4:st4.next=st3.next:=by rw[yd hm4]
   go_wp2_with fail;refine Yu hr (yl h4 (by omega) [102,97,108,115,101]) F4 (Fr.refl _ _) ok4 ?_;clear hr;intro w5 x5 st5 hm5 h5 f5 F5 n5 ok5 hle5 hr;have T5:=T4.trans f5;cases x5 with
   |true=>
    replace hr:=zi ((if_pos (rfl:true=true)▸hr.out:_));have dz:=zd (T5.keep _ _ _ _ hz2.out (by decide) (by decide)) 2;have hfew:st5.nodes.length<=1000000:=by have:=ok5.out.few;omega
    go_wp2_with fail;refine zO hr (zz h5 3 [] 0 a1 [] _ (KS.nil' _) xt hfew) F5 (Fr.refl _ _) ?_;rintro w6 x6 st6 hm6 rfl h6 f6 F6;go_wp2;go_ret;exact⟨⟨_,rfl,rfl⟩,h6,F6⟩
   |false=>
    replace hr:=zi (show zfH R ⟨k1,t1,a1⟩ E st5=r from hr.out);have hn5:st5.next=st4.next:=by rw[yd hm5]
    have hlt5:k1≠0->st5.next<E.toks.length:=fun h=>by have:=hlt.out k1 rfl h;omega
    replace hlt5:=zi hlt5;have hle50:st5.next<=st0.next:=by omega
    have hge50:st0.next<=st5.next:=by omega
    clear hn3 hn4 hn5;have hz5:=T5.keep _ _ _ _ hz2.out (by decide) (by decide);have c1:=zd hz5 1;have HW:=zi (fun W=>zdn t1 W);unfold zfH at hr;unfold zeF at HW;simp only at hr;cases hw:xV t1 with
    |none=>
     rw[hw] at hr HW;simp only at hr HW;unfold JG at HW;clear hw;go_wp2_with fail;refine (HW.out _).mono ?_;rintro e w6 ⟨rfl,hb6⟩;have h6:=h5.below hb6;have F6:=F5.trans (Fr.of_below h5.base hb6);have hz6:=zh (zg hb6 (zf w6 (.cells #[.string ⟨#[]⟩,.int .u8 0,.int .i64 0] 178 (0,0)))) hz5;have d0:=zd hz6 0;have d1:=zd hz6 1;have d2:=zd hz6 2;have HC:=zi (hC.out ⟨k1,t1,a1⟩ _ _ _ (h6.below (zf w6 (.cells #[.string ⟨#[]⟩,.int .u8 0,.int .i64 0] 178 (0,0)))) ok5.out (by omega));unfold vM at HC;clear hz6 hz5;go_wp2_with fail;refine zO hr (HC.out) F6 (Fr.of_below h6.base (zf _ _)) ?_;rintro w7 x7 st7 hm7 rfl h7 f7 F7;go_wp2;go_ret;exact⟨⟨_,rfl,rfl⟩,h7,F7⟩
    |some x=>
     obtain⟨wk,wm⟩:=x;have hwA:=zi (fun (G:Nat->Prop) (w:World) (st:zY) (h:PW E base pb iv G w st) (ok:qG E st) (hn:E.toks.length-st.next<n)=>zg0 hR.out ⟨k1,t1,a1⟩ hw h ok hn);rw[hw] at hr HW;simp only at hr HW;unfold JG at HW;clear hw;go_wp2_with fail;refine (HW.out _).mono ?_;rintro e w6 ⟨rfl,hb6⟩;have h6:=h5.below hb6;have F6:=F5.trans (Fr.of_below h5.base hb6);have hz6:=zh (zg hb6 (zf w6 (.cells #[.string ⟨t1.toArray⟩,.int .u8 wk,.int .i64 wm] 178 (0,0)))) hz5;have hw6:=zk w6 (.cells #[.string ⟨t1.toArray⟩,.int .u8 wk,.int .i64 wm] 178 (0,0));have h7:=h6.below (zf w6 (.cells #[.string ⟨t1.toArray⟩,.int .u8 wk,.int .i64 wm] 178 (0,0)));have F7:=F6.trans (Fr.of_below h6.base (zf w6 (.cells #[.string ⟨t1.toArray⟩,.int .u8 wk,.int .i64 wm] 178 (0,0))));have d0:=zd hz6 0;have d1:=zd hz6 1;have d2:=zd hz6 2;by_cases e5:k1=5
     ·have i5:((k1:Int) == 5)=true:=by simp[e5]
      replace hr:=zi (show jK R ⟨k1,t1,a1⟩ (wk,wm) E {st5 with next:=st5.next+1}=r from by
       have:=hr.out;rw[if_pos (by simp[e5])] at this;exact this)
      have hlt9:=hlt5.out (by omega);obtain⟨c4,f4,h8,f8⟩:=h7.skip;have hy:=pJ ((st5.next:Int)+1) (by omega);have hz8:=f8.keep _ _ _ _ hz6 (by decide) (by decide);have hw8:=f8.keep _ _ _ _ hw6 (by decide) (by decide);have g0:=zd hz8 0;have g1:=zd hz8 1;have g2:=zd hz8 2;have u0:=zd hw8 0;have u1:=zd hw8 1;have u2:=zd hw8 2;have F8:=F7.trans f8;have ok8:qG E {st5 with next:=st5.next+1}:=⟨hlt9,ok5.out.wf,by have:=ok5.out.few;simp only;omega,ok5.out.lim⟩;have HC:=zi (hwA.out _ _ _ h8 ok8 (by simp only;omega));unfold vM JG at HC;clear hz8 hw8 hz6 hw6 hz5 e5;go_wp2_with fail;refine zO hr (HC.out) F8 (Fr.refl _ _) ?_;rintro w9 x9 st9 hm9 rfl h9 f9 F9;go_wp2;go_ret;exact⟨⟨_,rfl,rfl⟩,h9,F9⟩
     ·have i5:((k1:Int) == 5)=false:=by simp;omega
      replace hr:=zi (show yA R ⟨k1,t1,a1⟩ E st5=r from by
       have:=hr.out;rw[if_neg (by simp[e5])] at this;exact this)
      have HC:=zi (hC.out ⟨k1,t1,a1⟩ _ _ _ h7 ok5.out (by omega));unfold vM at HC;clear hz6 hw6 hz5 e5;go_wp2_with fail;refine zO hr (HC.out) F7 (Fr.refl _ _) ?_;rintro w8 x8 st8 hm8 rfl h8 f8 F8;go_wp2;go_ret;exact⟨⟨_,rfl,rfl⟩,h8,F8⟩
end
section
open Go.RowKit Lode Go.Shelf
attribute [local go_sem ↓] Go.wp_at_zero Go.wp_at_succ
attribute [local go_sem] JL zkp JK
open Go.Proofs.Tryz
theorem jv{α:Type}{A B:PM α}{E:zv}{s:zY}:(if true=true then A else B) E s=A E s:=rfl
theorem qC{α:Type}{A B:PM α}{E:zv}{s:zY}:(if false=true then A else B) E s=B E s:=rfl
theorem zgY{w:World}{o:Oper}{a:Act}{K:Act->World->Prop}{X:Exit->Act->World->Prop}(s x:Operand)
 (ho:o.op=.call {callee:=.builtin .append,args:= #[s,x],argTypes:= #[24,24]})
 {base g n cap:Nat} {xs:List Value} (hs:a.eval s=.slice (some ⟨g,0,none⟩) n cap) (hown:w.ownsRow base 3 1 (.slice (some ⟨g,0,none⟩) n cap) n xs) {b2:Nat} {u:Value} {ys:List Int} (hx:a.eval x=u) (hu:w.ownsRow b2 3 1 u ys.length (yZ ys)) (hne:ys≠[]) (hn:n+ys.length<=1000000) (hbase:base<=w.heap.size)
 (h:∀g' cap' w',w'.ownsRow base 3 1 (.slice (some ⟨g',0,none⟩) (n+ys.length) cap') (n+ys.length) (xs ++ yZ ys)->w.grownBy w' (some g)->(g'=g\/g'=w.heap.size)->K (a.put o.dst (.slice (some ⟨g',0,none⟩) (n+ys.length) cap')) w'):o.wp prog a w K X:=by
 obtain⟨g2,c2,rfl,hnews⟩:=zcx hu hne;have hl:(yZ ys).length=ys.length:=by simp
 obtain⟨g',cap',w',hr,h2,h3,h4⟩:=VO hown c2 hnews (KA ys) (by rw[hl];exact hn) hbase o.type;rw[hl] at hr h2;rw[hl] at hx;unfold Oper.wp;simp[execOp,ho,resolve,invoke,builtin,hs,hx,hr,Result.andThen];exact h g' cap' w' h2 h3 h4
theorem zc8{E:zv}{base pb n:Nat}{iv:Value}{R:xN}(hE:zbI E)(hR:kg E base pb iv n R):PCt E base pb iv (n+1) 221 (yA R):=by
 intro t G w st0 h0 ok0 hn;obtain⟨r,hr⟩:=exE (yA R t E st0);rw[hr];unfold yA at hr;replace hr:=zi hr;replace ok0:=zi ok0;replace hR:=zi hR;have hlim:=ok0.out.lim;have hle:=ok0.out.le;have hG0:=h0.glt;have hbase:=h0.base;have hivlt:=zi (fun g=>h0.ivlt (g:=g));have henter:=zi (enters_of (P:=prog) func226 (by kernel_rfl) rfl);have henter2:=zi (enters_of (P:=prog) func227 (by kernel_rfl) rfl);obtain⟨k1,t1,a1⟩:=t;unfold vM;simp only at hr ⊢;have hA:=zf w (.cells #[.int .u8 k1,.string ⟨t1.toArray⟩,.int .i64 a1] 37 (0,0));have hz:=zi (zk w (.cells #[.int .u8 k1,.string ⟨t1.toArray⟩,.int .i64 a1] 37 (0,0)));have hB:=h0.below hA;have FB:=(Fr.refl base w).trans (Fr.of_below h0.base hA);have HI:=jN hB [105,102];rw[show (w.alloc (.cells #[.int .u8 k1,.string ⟨t1.toArray⟩,.int .i64 a1] 37 (0,0))).heap.size=w.heap.size+1 by simp] at HI;replace HI:=zi HI;go_enter func221,ntmps221;go_wp2_with fail;refine HI.out.mono ?_;rintro e w1 ⟨rfl,hb1⟩;have hb1:=zg (zf (w.alloc (.cells #[.int .u8 k1,.string ⟨t1.toArray⟩,.int .i64 a1] 37 (0,0))) (.cells #[.string ⟨[105,102].toArray⟩] 9 (0,0))) (by simpa using hb1);have h1:=hB.below hb1;have T1:=Fr.of_below hB.base hb1;have F1:=FB.trans T1;have ok1:=ok0;cases hk:uq (zy E st0) [[105,102]] with
 |true=>
  replace hr:=zi ((vD hk).symm.trans hr.out);go_wp2_with fail;refine zO hr (KW hR.out _ _ _ h1 ok1.out hn) F1 (Fr.refl _ _) ?_;rintro w2 x2 st2 hm2 rfl h2 f2 F2;go_wp2;go_ret;exact⟨⟨_,rfl,rfl⟩,h2,F2⟩
 |false=>
  replace hr:=zi ((jV hk).symm.trans hr.out);clear hk;go_wp2_with fail;refine Yu hr (yl h1 (by omega) [119,104,105,108,101]) F1 (Fr.refl _ _) ok1 ?_;clear hr;intro wq0 xq0 stq0 hmq0 hq0 fq0 Fq0 nq0 okq0 hleq0 hr;have Tq0:=T1.trans fq0;cases xq0 with
  |true=>
   have haaa:=yw hmq0;replace hr:=zi (jv.symm.trans hr.out);have haa:=hq0;have Faa:=Fq0;have Taa:=Tq0;have okaa:=okq0;clear hmq0;go_wp2_with fail;refine XI hr (hR.out.expr _ _ _ haa okaa.out (by omega)) Faa (Fr.refl _ _) okaa (hR.out.good.expr) ?_;clear hr;intro wbb xbb stbb hmbb hbb fbb Fbb nbb vdbb okbb hlebb habb hr;have cz:=(Taa.trans fbb).keep _ _ _ _ hz.out (by decide) (by decide);have hS:∀W,(yO base).rel wbb.drew W->W.cell? ⟨w.heap.size,2,none⟩=some (.int .i64 a1):=fun W hF=>zd (hF.keep _ _ _ _ cz (by decide) (by decide)) 2
   clear cz;go_wp2_with fail;refine LodeX.jm (RR:=yO base) (Xp:=XP base r w) [(0,0),(1,0),(2,1),(3,0),(4,0),(5,2),(6,2),(7,2),(8,0)] ?_;refine LodeX.qT ?_;refine LodeX.callX fun K hK=>?_
   go_simp;refine XV hr (hR.out.block _ _ _ (hbb.below bR.drew) okbb.out (by omega)) Fbb ((Fr.of_below hbb.base bR.drew)) ?_;clear hr;intro wcc xcc stcc hmcc hcc fcc Fcc hr;refine⟨fcc,hK _ _ ?_⟩;clear hK K;have hS:=fun W (hF:(yO base).rel wcc W)=>hS W (Fr.trans fcc hF)
   try simp only[Act.put,yG,yE,yF]
   obtain⟨ncc,vdcc⟩:=hR.out.good.block okbb.out.le okbb.out.wf hmcc;have okcc:=okbb.out.nx ncc (by decide);have hfew:stcc.nodes.length<=1000000:=by have:=okcc.few;have:=okcc.le;omega
   refine LodeX.callX fun K hK=>?_
   go_simp;refine⟨Fr.of_below hcc.base (zf _ _),hK _ _ ?_⟩;clear hK K
   try simp only[Act.put,yG,yE,yF]
   refine LodeX.callX fun K hK=>?_
   go_simp;refine zO hr (zz (hcc.below (zf _ _)) 30 [] 0 a1 [xbb,xcc] _ (KS.lit _ [xbb,xcc]) (hcc.fresh _ _) hfew) Fcc (Fr.of_below hcc.base (zf _ _)) ?_;rintro wdd xdd stdd hmdd rfl hdd fdd Fdd;refine⟨fdd,hK _ _ ?_⟩;clear hK K
   try simp only[Act.put,yG,yE,yF]
   refine LodeX.qT ?_;refine LodeX.zC fun W hW=>?_
   cases hW;clear hS;go_wp2;go_ret;exact⟨⟨_,rfl,rfl⟩,hdd,Fdd⟩
  |false=>
   have hst:stq0=st0:=yd hmq0;replace hr:=zi (qC.symm.trans hr.out);subst hst;clear hmq0;go_wp2_with fail;refine Yu hr (yl hq0 (by omega) [109,97,116,99,104]) Fq0 (Fr.refl _ _) okq0 ?_;clear hr;intro wq1 xq1 stq1 hmq1 hq1 fq1 Fq1 nq1 okq1 hleq1 hr;have Tq1:=Tq0.trans fq1;cases xq1 with
   |true=>
    have haaa:=yw hmq1;replace hr:=zi (jv.symm.trans hr.out);have haa:=hq1;have Faa:=Fq1;have Taa:=Tq1;have okaa:=okq1;clear hmq1;go_wp2_with fail;refine XI hr (hR.out.expr _ _ _ haa okaa.out (by omega)) Faa (Fr.refl _ _) okaa (hR.out.good.expr) ?_;clear hr;intro wbb xbb stbb hmbb hbb fbb Fbb nbb vdbb okbb hlebb habb hr;have hg:=hbb.glit (.cells #[.int .i64 xbb] 3 (0,0)) 1 1;have Tbb:=(Taa.trans fbb).trans (Fr.of_below hbb.base (zf wbb (.cells #[.int .i64 xbb] 3 (0,0))));have Fg:=Fbb.trans (Fr.of_below hbb.base (zf wbb (.cells #[.int .i64 xbb] 3 (0,0))));have og:=za8 wbb xbb rfl;have cz:=Tbb.keep _ _ _ _ hz.out (by decide) (by decide);have hwbb:w.heap.size+1<=wbb.heap.size:=by have:=(Taa.trans fbb).b.size;simp at this;omega
    have hsb:=Fbb.b.size;have hsg:(wbb.alloc (.cells #[.int .i64 xbb] 3 (0,0))).heap.size=wbb.heap.size+1:=by simp
    go_wp2_with fail;have hne:some w.heap.size≠some wbb.heap.size:=fun e=>by
     have:=Option.some.inj e;omega
    have hS:∀W,uW base (some wbb.heap.size) (wbb.alloc (.cells #[.int .i64 xbb] 3 (0,0))).drew W->W.cell? ⟨w.heap.size,2,none⟩=some (.int .i64 a1):=fun W hF=>zd (hF.keep _ _ _ _ hne cz (by decide) (by decide)) 2
    clear cz;generalize wbb.alloc (.cells #[.int .i64 xbb] 3 (0,0))=wg at *;refine LodeX.jm (RR:=zev base (some wbb.heap.size)) (Xp:=XP base r w) [(0,0),(1,0),(2,1),(3,0),(4,0),(5,0),(6,2),(7,2),(8,2),(9,2),(10,0)] ?_;refine LodeX.qT ?_
    iterate 1 (refine LodeX.callX fun K hK=>?_;go_simp;refine⟨uW.refl _ _ _,hK _ _ ?_⟩;clear hK K;try simp only[Act.put,yG,yE,yF])
    refine LodeX.callX fun K hK=>?_
    go_simp;refine lgo hr (ZJ (zjN hR.out) (zet hR.out.good) henter.out (hg.below bR.drew) okbb.out (by omega)) Fg ((Fr.of_below hg.base bR.drew)) ?_;clear hr;intro wcc xcc stcc vcc lcc occ hmcc hcc fcc Fcc hr;refine⟨fcc.cutG,hK _ _ ?_⟩;clear hK K;have hS:=fun W (hF:uW base _ wcc W)=>hS W (uW.trans fcc.cutG hF)
    try simp only[Act.put,yG,yE,yF]
    obtain⟨ncc,vlcc⟩:=ke (zet hR.out.good) okbb.out.le okbb.out.wf hmcc;have okcc:=okbb.out.nx ncc (by decide);have hlecc:=okcc.le;have hnecc:=zgL hmcc;have pcc:wcc.ownsRow wbb.heap.size 3 1 (.slice (some ⟨wbb.heap.size,0,none⟩) 1 1) 1 (yZ [xbb]):=zH (zu og bR.drew) fcc (by decide) (by decide);have hfew:stcc.nodes.length<=1000000:=by have:=okcc.few;omega
    have hbsc:=hcc.base;have hsc:wg.heap.size<=wcc.heap.size:=fcc.b.size;refine LodeX.zZ rfl rfl (fun K hK W hW=>?_);cases hW;refine zgY _ _ rfl (by rfl) pcc (by rfl) occ hnecc (by omega) (by omega) ?_;intro g' cap' wdd hrow hgrow hg';obtain⟨vdd,edd,odd,hdd,gsdd,FFdd⟩:=zah (G:=G) (acc:=[xbb]) hcc (fun g hg=>.inl (.inr hg)) (fun g hg=>.inl (.inl hg)) pcc (by omega) (fun g hg=>by have:=hivlt.out g hg;omega) hrow hgrow (hg'.imp (fun h=>by rw[h];rfl) id);have edd':Value.slice (some ⟨g',0,none⟩) (1+xcc.length) cap'=vdd:=edd;rw[edd'];refine⟨uW.grow hgrow hbsc (fun k hk=>by have:=Option.some.inj hk;omega),hK _ _ ?_⟩;clear hK K;have Fdd:=FFdd w Fcc (by omega) hbase;replace odd:=zi odd;clear hrow hgrow hg' edd edd'
    try simp only[Act.put,yG,yE,yF]
    refine LodeX.callX fun K hK=>?_
    go_simp;refine zO hr (zz hdd.ungw 31 [] 0 a1 ([xbb] ++ xcc) _ (KS.own odd.out) (yB odd.out (fun g hg=>by have:=hG0 g hg;omega)) hfew) Fdd ((Fr.refl _ _)) ?_;rintro wff xff stff hmff rfl hff fff Fff;refine⟨fff.cutG,hK _ _ ?_⟩;clear hK K
    try simp only[Act.put,yG,yE,yF]
    refine LodeX.qT ?_;refine LodeX.zC fun W hW=>?_
    cases hW;clear hS;go_wp2;go_ret;exact⟨⟨_,rfl,rfl⟩,hff,Fff⟩
   |false=>
    have hst:stq1=stq0:=yd hmq1;replace hr:=zi (qC.symm.trans hr.out);subst hst;clear hmq1;go_wp2_with fail;refine Yu hr (yl hq1 (by omega) [102,110]) Fq1 (Fr.refl _ _) okq1 ?_;clear hr;intro wq2 xq2 stq2 hmq2 hq2 fq2 Fq2 nq2 okq2 hleq2 hr;have Tq2:=Tq1.trans fq2;cases xq2 with
    |true=>
     have haaa:=yw hmq2;replace hr:=zi (jv.symm.trans hr.out);have haa:=hq2;have Faa:=Fq2;have Taa:=Tq2;have okaa:=okq2;clear hmq2;go_wp2_with fail;refine lgo hr (XL hR.out haa okaa.out (by omega)) Faa (Fr.refl _ _) ?_;clear hr;intro wbb xbb stbb vbb lbb obb hmbb hbb fbb Fbb hr;obtain⟨nbb,vlbb⟩:=ZC hR.out.good okaa.out.le okaa.out.wf hmbb;have okbb:=zi (okaa.out.nx nbb (by decide));have hlebb:=okbb.out.le;have habb:=nbb.next;have hwaa:=Taa.b.size;simp only[World.size_alloc] at hwaa;have hvb:=obb.lt;have hne:some w.heap.size≠vbb.ownBlock:=fun e=>by
      have:=(hvb _ e.symm).1;omega
     replace obb:=zi obb;have cz:=(Taa.trans fbb).keep _ _ _ _ hz.out (by decide) (by decide);have hS:∀W,uW base vbb.ownBlock wbb.drew W->W.cell? ⟨w.heap.size,2,none⟩=some (.int .i64 a1):=fun W hF=>zd (hF.keep _ _ _ _ hne cz (by decide) (by decide)) 2
     clear cz hvb hne;have hsa:=Faa.b.size;go_wp2_with fail;refine LodeX.jm (RR:=zev base vbb.ownBlock) (Xp:=XP base r w) [(0,0),(1,0),(2,1),(3,0),(4,0),(5,2),(6,2),(7,2),(8,2),(9,0)] ?_;refine LodeX.qT ?_;refine LodeX.callX fun K hK=>?_
     go_simp;refine XV hr (hR.out.block _ _ _ (hbb.below bR.drew) okbb.out (by omega)) Fbb ((Fr.of_below hbb.base bR.drew)) ?_;clear hr;intro wcc xcc stcc hmcc hcc fcc Fcc hr;refine⟨fcc.cutG,hK _ _ ?_⟩;clear hK K;have hS:=fun W (hF:uW base _ wcc W)=>hS W (uW.trans fcc.cutG hF)
     try simp only[Act.put,yG,yE,yF]
     obtain⟨ncc,vdcc⟩:=hR.out.good.block okbb.out.le okbb.out.wf hmcc;have okcc:=okbb.out.nx ncc (by decide);have hlecc:=okcc.le;have hfew:stcc.nodes.length<=1000000:=by have:=okcc.few;omega
     have occ:=zH (zu obb.out bR.drew) fcc (by decide) (by decide);have hsc:wbb.heap.size<=wcc.heap.size:=fcc.b.size;have hsb:=fbb.b.size;refine LodeX.callX fun K hK=>?_
     go_simp;refine⟨(Fr.of_below hcc.base (zf _ _)).cutG,hK _ _ ?_⟩;clear hK K
     try simp only[Act.put,yG,yE,yF]
     have hbsdd:=hcc.base;have hssdd:=Fcc.b.size;refine LodeX.callX fun K hK=>?_
     refine km _ _ rfl (by rfl) (zu occ (zf _ _)) (by rfl) (zd (zk wcc _) 0) rfl rfl (by omega) (by simp;omega) ?_;intro g' cap' wdd hrow hgrow hg';obtain⟨vdd,edd,odd,hdd,gsdd,FFdd⟩:=xb hcc occ (by omega) (fun g hg=>by have:=hivlt.out g hg;omega) hrow hgrow (hg'.imp id (fun h=>by simpa using h));rw[edd];refine⟨uW.grow hgrow (by simp;omega) (fun k hk=>by have:=((occ).lt k hk).1;omega),hK _ _ ?_⟩;clear hK K;replace odd:=zi odd;replace FFdd:=zi FFdd;clear hrow hgrow hg' edd
     try simp only[Act.put,yG,yE,yF]
     have Fdd:=FFdd.out w Fcc (by omega) hbase;refine LodeX.callX fun K hK=>?_
     go_simp;refine zO hr (zz hdd.ungw 33 [] 0 a1 (xbb ++ [xcc]) _ (KS.own odd.out) (yB odd.out (fun g hg=>by have:=hG0 g hg;omega)) hfew) Fdd ((Fr.refl _ _)) ?_;rintro wff xff stff hmff rfl hff fff Fff;refine⟨fff.cutG,hK _ _ ?_⟩;clear hK K
     try simp only[Act.put,yG,yE,yF]
     refine LodeX.qT ?_;refine LodeX.zC fun W hW=>?_
     cases hW;clear hS;go_wp2;go_ret;exact⟨⟨_,rfl,rfl⟩,hff,Fff⟩
    |false=>
     have hst:stq2=stq1:=yd hmq2;replace hr:=zi (qC.symm.trans hr.out);subst hst;clear hmq2;go_wp2_with fail;refine Yu hr (yl hq2 (by omega) [116,114,121]) Fq2 (Fr.refl _ _) okq2 ?_;clear hr;intro wq3 xq3 stq3 hmq3 hq3 fq3 Fq3 nq3 okq3 hleq3 hr;have Tq3:=Tq2.trans fq3;cases xq3 with
     |true=>
      have haaa:=yw hmq3;replace hr:=zi (jv.symm.trans hr.out);have haa:=hq3;have Faa:=Fq3;have Taa:=Tq3;have okaa:=okq3;clear hmq3;go_wp2_with fail;refine XI hr (hR.out.block _ _ _ haa okaa.out (by omega)) Faa (Fr.refl _ _) okaa (hR.out.good.block) ?_;clear hr;intro wbb xbb stbb hmbb hbb fbb Fbb nbb vdbb okbb hlebb habb hr;go_wp2_with fail;refine jo hr (zw hbb (by omega) [99,97,116,99,104]) Fbb (Fr.refl _ _) okbb (zo) ?_;clear hr;intro wcc xcc stcc hmcc hcc fcc Fcc ncc okcc hlecc hacc hr;go_wp2_with fail;refine jo hr (xq hcc (by omega) 1) Fcc (Fr.refl _ _) okcc (yh (by decide)) ?_;clear hr;intro wdd xdd stdd hmdd hdd fdd Fdd ndd okdd hledd hadd hr;obtain⟨kdd,tdd,add⟩:=xdd;simp only at hr ⊢;have cz:=(((Taa.trans fbb).trans fcc).trans fdd).keep _ _ _ _ hz.out (by decide) (by decide);have hS:∀W,(yO base).rel wdd.drew W->W.cell? ⟨w.heap.size,2,none⟩=some (.int .i64 a1):=fun W hF=>zd (hF.keep _ _ _ _ cz (by decide) (by decide)) 2
      clear cz;go_wp2_with fail;refine LodeX.jm (RR:=yO base) (Xp:=XP base r w) [(0,0),(1,0),(2,0),(3,1),(4,0),(5,0),(6,2),(7,2),(8,2),(9,0)] ?_;refine LodeX.qT ?_;refine LodeX.callX fun K hK=>?_
      go_simp;refine XV hr (hR.out.block _ _ _ (hdd.below bR.drew) okdd.out (by omega)) Fdd ((Fr.of_below hdd.base bR.drew)) ?_;clear hr;intro wee xee stee hmee hee fee Fee hr;refine⟨fee,hK _ _ ?_⟩;clear hK K;have hS:=fun W (hF:(yO base).rel wee W)=>hS W (Fr.trans fee hF)
      try simp only[Act.put,yG,yE,yF]
      obtain⟨nee,vdee⟩:=hR.out.good.block okdd.out.le okdd.out.wf hmee;have okee:=okdd.out.nx nee (by decide);have hfew:stee.nodes.length<=1000000:=by have:=okee.few;have:=okee.le;omega
      refine LodeX.callX fun K hK=>?_
      go_simp;refine⟨Fr.of_below hee.base (zf _ _),hK _ _ ?_⟩;clear hK K
      try simp only[Act.put,yG,yE,yF]
      refine LodeX.callX fun K hK=>?_
      go_simp;refine zO hr (zz (hee.below (zf _ _)) 34 tdd 0 a1 [xbb,xee] _ (KS.lit _ [xbb,xee]) (hee.fresh _ _) hfew) Fee (Fr.of_below hee.base (zf _ _)) ?_;rintro wff xff stff hmff rfl hff fff Fff;refine⟨fff,hK _ _ ?_⟩;clear hK K
      try simp only[Act.put,yG,yE,yF]
      refine LodeX.qT ?_;refine LodeX.zC fun W hW=>?_
      cases hW;clear hS;go_wp2;go_ret;exact⟨⟨_,rfl,rfl⟩,hff,Fff⟩
     |false=>
      have hst:stq3=stq2:=yd hmq3;replace hr:=zi (qC.symm.trans hr.out);subst hst;clear hmq3;go_wp2_with fail;refine Yu hr (yl hq3 (by omega) [104,111,108,100]) Fq3 (Fr.refl _ _) okq3 ?_;clear hr;intro wq4 xq4 stq4 hmq4 hq4 fq4 Fq4 nq4 okq4 hleq4 hr;have Tq4:=Tq3.trans fq4;cases xq4 with
      |true=>
       have haaa:=yw hmq4;replace hr:=zi (jv.symm.trans hr.out);have haa:=hq4;have Faa:=Fq4;have Taa:=Tq4;have okaa:=okq4;clear hmq4;go_wp2_with fail;refine XI hr (hR.out.expr _ _ _ haa okaa.out (by omega)) Faa (Fr.refl _ _) okaa (hR.out.good.expr) ?_;clear hr;intro wbb xbb stbb hmbb hbb fbb Fbb nbb vdbb okbb hlebb habb hr;go_wp2_with fail;refine jo hr (zw hbb (by omega) [97,115]) Fbb (Fr.refl _ _) okbb (zo) ?_;clear hr;intro wcc xcc stcc hmcc hcc fcc Fcc ncc okcc hlecc hacc hr;go_wp2_with fail;refine jo hr (xq hcc (by omega) 1) Fcc (Fr.refl _ _) okcc (yh (by decide)) ?_;clear hr;intro wdd xdd stdd hmdd hdd fdd Fdd ndd okdd hledd hadd hr;obtain⟨kdd,tdd,add⟩:=xdd;simp only at hr ⊢;go_wp2_with fail;refine XI hr (hR.out.block _ _ _ hdd okdd.out (by omega)) Fdd (Fr.refl _ _) okdd (hR.out.good.block) ?_;clear hr;intro wii xii stii hmii hii fii Fii nii vdii okii hleii haii hr;go_wp2_with fail;refine jo hr (zw hii (by omega) [101,108,115,101]) Fii (Fr.refl _ _) okii (zo) ?_;clear hr;intro wjj xjj stjj hmjj hjj fjj Fjj njj okjj hlejj hajj hr;have cz:=(((((Taa.trans fbb).trans fcc).trans fdd).trans fii).trans fjj).keep _ _ _ _ hz.out (by decide) (by decide);have hS:∀W,(yO base).rel wjj.drew W->W.cell? ⟨w.heap.size,2,none⟩=some (.int .i64 a1):=fun W hF=>zd (hF.keep _ _ _ _ cz (by decide) (by decide)) 2
       clear cz;go_wp2_with fail;refine LodeX.jm (RR:=yO base) (Xp:=XP base r w) [(0,0),(1,0),(2,0),(3,1),(4,0),(5,0),(6,0),(7,2),(8,2),(9,2),(10,0)] ?_;refine LodeX.qT ?_;refine LodeX.callX fun K hK=>?_
       go_simp;refine XV hr (hR.out.block _ _ _ (hjj.below bR.drew) okjj.out (by omega)) Fjj ((Fr.of_below hjj.base bR.drew)) ?_;clear hr;intro wee xee stee hmee hee fee Fee hr;refine⟨fee,hK _ _ ?_⟩;clear hK K;have hS:=fun W (hF:(yO base).rel wee W)=>hS W (Fr.trans fee hF)
       try simp only[Act.put,yG,yE,yF]
       obtain⟨nee,vdee⟩:=hR.out.good.block okjj.out.le okjj.out.wf hmee;have okee:=okjj.out.nx nee (by decide);have hfew:stee.nodes.length<=1000000:=by have:=okee.few;have:=okee.le;omega
       refine LodeX.callX fun K hK=>?_
       go_simp;refine⟨Fr.of_below hee.base (zf _ _),hK _ _ ?_⟩;clear hK K
       try simp only[Act.put,yG,yE,yF]
       refine LodeX.callX fun K hK=>?_
       go_simp;refine zO hr (zz (hee.below (zf _ _)) 36 tdd 0 a1 [xbb,xii,xee] _ (KS.lit _ [xbb,xii,xee]) (hee.fresh _ _) hfew) Fee (Fr.of_below hee.base (zf _ _)) ?_;rintro wff xff stff hmff rfl hff fff Fff;refine⟨fff,hK _ _ ?_⟩;clear hK K
       try simp only[Act.put,yG,yE,yF]
       refine LodeX.qT ?_;refine LodeX.zC fun W hW=>?_
       cases hW;clear hS;go_wp2;go_ret;exact⟨⟨_,rfl,rfl⟩,hff,Fff⟩
      |false=>
       have hst:stq4=stq3:=yd hmq4;replace hr:=zi (qC.symm.trans hr.out);subst hst;clear hmq4;go_wp2_with fail;refine Yu hr (yl hq4 (by omega) [110,101,119]) Fq4 (Fr.refl _ _) okq4 ?_;clear hr;intro wq5 xq5 stq5 hmq5 hq5 fq5 Fq5 nq5 okq5 hleq5 hr;have Tq5:=Tq4.trans fq5;cases xq5 with
       |true=>
        have haaa:=yw hmq5;replace hr:=zi (jv.symm.trans hr.out);have haa:=hq5;have Faa:=Fq5;have Taa:=Tq5;have okaa:=okq5;clear hmq5;go_wp2_with fail;refine jo hr (xq haa (by omega) 2) Faa (Fr.refl _ _) okaa (yh (by decide)) ?_;clear hr;intro wdd xdd stdd hmdd hdd fdd Fdd ndd okdd hledd hadd hr;obtain⟨kdd,tdd,add⟩:=xdd;simp only at hr ⊢;have cz:=(Taa.trans fdd).keep _ _ _ _ hz.out (by decide) (by decide);have hS:∀W,(yO base).rel wdd.drew W->W.cell? ⟨w.heap.size,2,none⟩=some (.int .i64 a1):=fun W hF=>zd (hF.keep _ _ _ _ cz (by decide) (by decide)) 2
        clear cz;have hwdd:=Fdd.b.size;have hszdd:(wdd.drew).heap.size=wdd.heap.size:=rfl;go_wp2_with fail;refine LodeX.jm (RR:=yO base) (Xp:=XP base r w) [(0,0),(1,0),(2,0),(3,1),(4,0),(5,0),(6,2),(7,2),(8,2),(9,0)] ?_;refine LodeX.qT ?_
        iterate 1 (refine LodeX.callX fun K hK=>?_;go_simp;refine⟨Fr.refl _ _,hK _ _ ?_⟩;clear hK K;try simp only[Act.put,yG,yE,yF])
        refine LodeX.callX fun K hK=>?_
        go_simp;refine lgo hr (ZJ (zjd hR.out) (zdK hR.out.good) henter2.out (hdd.below bR.drew) okdd.out (by omega)) Fdd ((Fr.of_below hdd.base bR.drew)) ?_;clear hr;intro wee xee stee vee lee oee hmee hee fee Fee hr;refine⟨fee,hK _ _ ?_⟩;clear hK K;have hS:=fun W (hF:(yO base).rel wee W)=>hS W (Fr.trans fee hF)
        try simp only[Act.put,yG,yE,yF]
        obtain⟨nee,vlee⟩:=ke (zdK hR.out.good) okdd.out.le okdd.out.wf hmee;have okee:=okdd.out.nx nee (by decide);have hfew:stee.nodes.length<=1000000:=by have:=okee.few;have:=okee.le;omega
        refine LodeX.callX fun K hK=>?_
        go_simp;refine zO hr (zz hee.ungw 26 tdd 0 a1 xee _ (KS.own oee) (yB oee (fun g hg=>by have:=hG0 g hg;omega)) hfew) Fee ((Fr.refl _ _)) ?_;rintro wff xff stff hmff rfl hff fff Fff;refine⟨fff,hK _ _ ?_⟩;clear hK K
        try simp only[Act.put,yG,yE,yF]
        refine LodeX.qT ?_;refine LodeX.zC fun W hW=>?_
        cases hW;clear hS;go_wp2;go_ret;exact⟨⟨_,rfl,rfl⟩,hff,Fff⟩
       |false=>
        have hst:stq5=stq4:=yd hmq5;replace hr:=zi (qC.symm.trans hr.out);subst hst;clear hmq5;go_wp2_with fail;refine Yu hr (yl hq5 (by omega) [99,104,97,110]) Fq5 (Fr.refl _ _) okq5 ?_;clear hr;intro wq6 xq6 stq6 hmq6 hq6 fq6 Fq6 nq6 okq6 hleq6 hr;have Tq6:=Tq5.trans fq6;cases xq6 with
        |true=>
         have haaa:=yw hmq6;replace hr:=zi (jv.symm.trans hr.out);have haa:=hq6;have Faa:=Fq6;have Taa:=Tq6;have okaa:=okq6;clear hmq6;go_wp2_with fail;refine XI hr (hR.out.kind _ _ _ haa okaa.out (by omega)) Faa (Fr.refl _ _) okaa (hR.out.good.kind) ?_;clear hr;intro wbb xbb stbb hmbb hbb fbb Fbb nbb vdbb okbb hlebb habb hr;go_wp2_with fail;refine jo hr (zw hbb (by omega) [40]) Fbb (Fr.refl _ _) okbb (zo) ?_;clear hr;intro wcc xcc stcc hmcc hcc fcc Fcc ncc okcc hlecc hacc hr;go_wp2_with fail;refine pgo hr (xq hcc (by omega) 3) Fcc (Fr.refl _ _) ?_;clear hr;intro wdd xdd stdd v hv hmdd hdd fdd Fdd hr;obtain⟨ndd,_⟩:=yh (by decide) okcc.out.le okcc.out.wf hmdd;have okdd:=zi (okcc.out.nx ndd (by decide));unfold kO vM at hv;subst hv;have hledd:=okdd.out.le;have hadd:=ndd.next;have hNdd:=zce hE hmdd;have HN:=zi (fun W=>Zv hNdd W);unfold vM at HN;unfold vC at hr;obtain⟨kdd,tdd,add⟩:=xdd;simp only at hr;go_wp2_with fail;refine (HN.out _).mono ?_;rintro e wnn ⟨rfl,hbn⟩;have hnn:=hdd.below hbn;have Fnn:=Fdd.trans (Fr.of_below hdd.base hbn);have oknn:=okdd;have Tnn:=(((Taa.trans fbb).trans fcc).trans fdd).trans (Fr.of_below hdd.base hbn);go_wp2_with fail;refine jo hr (zw hnn (by omega) [41]) Fnn (Fr.refl _ _) oknn (zo) ?_;clear hr;intro wii xii stii hmii hii fii Fii nii okii hleii haii hr;have cz:=zd ((Tnn.trans fii).keep _ _ _ _ hz.out (by decide) (by decide)) 2;have hfew:stii.nodes.length<=1000000:=by have:=okii.out.few;have:=okii.out.le;omega
         go_wp2_with fail;refine zO hr (zz (hii.below (zf _ _)) 40 [] (xR tdd) a1 [xbb] _ (KS.lit _ [xbb]) (hii.fresh _ _) hfew) Fii (Fr.of_below hii.base (zf _ _)) ?_;rintro wjj xjj stjj hmjj rfl hjj fjj Fjj;go_wp2;go_ret;exact⟨⟨_,rfl,rfl⟩,hjj,Fjj⟩
        |false=>
         have hst:stq6=stq5:=yd hmq6;replace hr:=zi (qC.symm.trans hr.out);subst hst;clear hmq6;go_wp2_with fail;refine jo hr (zw hq6 (by omega) [115,101,108,101,99,116]) Fq6 (Fr.refl _ _) okq6 (zo) ?_;clear hr;intro wdd xdd stdd hmdd hdd fdd Fdd ndd okdd hledd hadd hr;have hadd:=ndd.adv;have cz:=(Tq6.trans fdd).keep _ _ _ _ hz.out (by decide) (by decide);have hS:∀W,(yO base).rel wdd.drew W->W.cell? ⟨w.heap.size,2,none⟩=some (.int .i64 a1):=fun W hF=>zd (hF.keep _ _ _ _ cz (by decide) (by decide)) 2
         clear cz;have hwdd:=Fdd.b.size;have hszdd:(wdd.drew).heap.size=wdd.heap.size:=rfl;go_wp2_with fail;refine LodeX.jm (RR:=yO base) (Xp:=XP base r w) [(0,0),(1,0),(2,1),(3,0),(4,2),(5,2),(6,0)] ?_;refine LodeX.qT ?_;refine LodeX.callX fun K hK=>?_
         go_simp;refine lgo hr (zg1 hR.out (hdd.below bR.drew) okdd.out (by omega)) Fdd ((Fr.of_below hdd.base bR.drew)) ?_;clear hr;intro wee xee stee vee lee oee hmee hee fee Fee hr;refine⟨fee,hK _ _ ?_⟩;clear hK K;have hS:=fun W (hF:(yO base).rel wee W)=>hS W (Fr.trans fee hF)
         try simp only[Act.put,yG,yE,yF]
         obtain⟨nee,vlee⟩:=VL hR.out.good okdd.out.le okdd.out.wf hmee;have okee:=okdd.out.nx nee (by decide);have hfew:stee.nodes.length<=1000000:=by have:=okee.few;have:=okee.le;omega
         refine LodeX.callX fun K hK=>?_
         go_simp;refine zO hr (zz hee.ungw 35 [] 0 a1 xee _ (KS.own oee) (yB oee (fun g hg=>by have:=hG0 g hg;omega)) hfew) Fee ((Fr.refl _ _)) ?_;rintro wff xff stff hmff rfl hff fff Fff;refine⟨fff,hK _ _ ?_⟩;clear hK K
         try simp only[Act.put,yG,yE,yF]
         refine LodeX.qT ?_;refine LodeX.zC fun W hW=>?_
         cases hW;clear hS;go_wp2;go_ret;exact⟨⟨_,rfl,rfl⟩,hff,Fff⟩
end
section
open Go.RowKit Lode Go.Shelf
attribute [local go_sem ↓] Go.wp_at_zero Go.wp_at_succ
open Go.Proofs.Tryz
theorem zif{E:zv}{base pb n:Nat}{iv:Value}{m:PM Int}(hB:PCb E base pb iv n 0 m):Vi E base pb iv n 142 m:=by
 intro G w st0 h0 ok0 hn;obtain⟨r,hr⟩:=exE (m E st0);rw[hr];replace hr:=zi hr;have F0:=Fr.refl base w;replace hB:=zi hB;replace ok0:=zi ok0;go_enter func142,ntmps142;go_wp2_with fail;refine zO hr (hB.out _ _ _ h0 ok0.out hn) F0 (Fr.refl _ _) ?_;rintro w1 x1 st1 hm1 rfl h1 f1 F1;go_wp2;go_ret;exact⟨⟨_,rfl,rfl⟩,h1,F1⟩
theorem zeW{E:zv}{base pb:Nat}{iv:Value}(hE:zbI E):∀n,kg E base pb iv n (jA n)/\PCb E base pb iv n 2 (jA n).bin2
 |0=>⟨⟨zfr,fun _ _ _ _ _ h=>absurd h (wG _),fun _ _ _ _ _ h=>absurd h (wG _),fun _ _ _ _ _ h=>absurd h (wG _),fun _ _ _ _ _ h=>absurd h (wG _),fun _ _ _ _ _ h=>absurd h (wG _),fun _ _ _ _ _ h=>absurd h (wG _)⟩,fun _ _ _ _ _ h=>absurd h (wG _)⟩
 |n+1=>by
  obtain⟨hR,hB⟩:=zeW hE n;have hU:=zfR (base:=base) (pb:=pb) (iv:=iv) hR (zix hE hR (zc8 hE hR));have b4:=zis (zir hU) (JJ hR.good);have b3:=zit b4 (zfB hR.good);have b2:=ziu hR.good hB b3;have b1:=ziv b2 (JB hR.good);have b0:=ziw b1 (Qx (JB hR.good) 1);exact⟨⟨qX (n+1),zif b0,hU,zgM hR,KW hR,zh1 hR,zct hE hR⟩,b2⟩
end
section
open Go.RowKit Lode Go.Shelf
attribute [local go_sem ↓] Go.wp_at_zero Go.wp_at_succ
attribute [local go_sem] JL zkp JK
open Go.Proofs.Tryz
theorem zh3{E:zv}{base pb n:Nat}{iv:Value}{R:xN}(hR:kg E base pb iv n R):Vi E base pb iv (n+1) 100 (jT R):=by
 intro G w st0 h0 ok0 hn;obtain⟨r,hr⟩:=exE (jT R E st0);rw[hr];unfold jT at hr;replace hr:=zi hr;replace ok0:=zi ok0;replace hR:=zi hR;have F0:=Fr.refl base w;have hlim:=ok0.out.lim;have hle:=ok0.out.le;have hG0:=h0.glt;have hbase:=h0.base;have hivlt:=zi (fun g=>h0.ivlt (g:=g));have henter:=zi (enters_of (P:=prog) func137 (by kernel_rfl) rfl);have henter2:=zi (enters_of (P:=prog) func138 (by kernel_rfl) rfl);have HT:=zi (qy h0);replace hr:=zi ((yb (show qP E st0=.ok (zy E st0) st0 from rfl)).symm.trans hr.out);generalize zy E st0=t at *;obtain⟨k1,t1,a1⟩:=t;unfold vM at HT;simp only at hr;go_enter func100,ntmps100;go_wp2_with fail;refine HT.out.mono ?_;rintro e w1 ⟨rfl,hb1⟩;have hb1':Below w.heap.size w w1:=zg bR hb1;have h1:=h0.below hb1';have hA:=zf w1 (.cells #[.int .u8 k1,.string ⟨t1.toArray⟩,.int .i64 a1] 37 (0,0));have hz2:=zi (zk w1 (.cells #[.int .u8 k1,.string ⟨t1.toArray⟩,.int .i64 a1] 37 (0,0)));have F1:=F0.trans (Fr.of_below h0.base hb1');have hs1:=F1.b.size;have T1:=Fr.refl base (w1.alloc (.cells #[.int .u8 k1,.string ⟨t1.toArray⟩,.int .i64 a1] 37 (0,0)));have ok1:=ok0;go_wp2_with fail;refine Yu hr (yl (h1.below (zf _ _)) (by omega) [99,108,97,115,115]) F1 (Fr.of_below h1.base (zf _ _)) ok1 ?_;clear hr;intro wq0 xq0 stq0 hmq0 hq0 fq0 Fq0 nq0 okq0 hleq0 hr;have Tq0:=T1.trans fq0;cases xq0 with
 |true=>
  have haaa:=yw hmq0;replace hr:=zi (jv.symm.trans hr.out);have haa:=hq0;have Faa:=Fq0;have Taa:=Tq0;have okaa:=okq0;clear hmq0;go_wp2_with fail;refine jo hr (xq haa (by omega) 2) Faa (Fr.refl _ _) okaa (yh (by decide)) ?_;clear hr;intro wdd xdd stdd hmdd hdd fdd Fdd ndd okdd hledd hadd hr;obtain⟨kdd,tdd,add⟩:=xdd;simp only at hr ⊢;have cz:=(Taa.trans fdd).keep _ _ _ _ hz2.out (by decide) (by decide);have hS:∀W,(yO base).rel wdd.drew W->W.cell? ⟨w1.heap.size,2,none⟩=some (.int .i64 a1):=fun W hF=>zd (hF.keep _ _ _ _ cz (by decide) (by decide)) 2
  clear cz;have hwdd:=Fdd.b.size;have hszdd:(wdd.drew).heap.size=wdd.heap.size:=rfl;go_wp2_with fail;refine LodeX.jm (RR:=yO base) (Xp:=XP base r w) [(0,0),(1,0),(2,0),(3,1),(4,0),(5,0),(6,2),(7,2),(8,2),(9,0)] ?_;refine LodeX.qT ?_
  iterate 1 (refine LodeX.callX fun K hK=>?_;go_simp;refine⟨Fr.refl _ _,hK _ _ ?_⟩;clear hK K;try simp only[Act.put,yG,yE,yF])
  refine LodeX.callX fun K hK=>?_
  go_simp;refine lgo hr (ZJ (VT hR.out) (Zd hR.out.good) henter.out (hdd.below bR.drew) okdd.out (by omega)) Fdd ((Fr.of_below hdd.base bR.drew)) ?_;clear hr;intro wee xee stee vee lee oee hmee hee fee Fee hr;refine⟨fee,hK _ _ ?_⟩;clear hK K;have hS:=fun W (hF:(yO base).rel wee W)=>hS W (Fr.trans fee hF)
  try simp only[Act.put,yG,yE,yF]
  obtain⟨nee,vlee⟩:=ke (Zd hR.out.good) okdd.out.le okdd.out.wf hmee;have okee:=okdd.out.nx nee (by decide);have hfew:stee.nodes.length<=1000000:=by have:=okee.few;have:=okee.le;omega
  refine LodeX.callX fun K hK=>?_
  go_simp;refine zO hr (zz hee.ungw 100 tdd 0 a1 xee _ (KS.own oee) (yB oee (fun g hg=>by have:=hG0 g hg;omega)) hfew) Fee ((Fr.refl _ _)) ?_;rintro wff xff stff hmff rfl hff fff Fff;refine⟨fff,hK _ _ ?_⟩;clear hK K
  try simp only[Act.put,yG,yE,yF]
  refine LodeX.qT ?_;refine LodeX.zC fun W hW=>?_
  cases hW;clear hS;go_wp2;go_ret;exact⟨⟨_,rfl,rfl⟩,hff,Fff⟩
 |false=>
  have hst:stq0=st0:=yd hmq0;replace hr:=zi (qC.symm.trans hr.out);subst hst;clear hmq0;go_wp2_with fail;refine Yu hr (yl hq0 (by omega) [107,105,110,100]) Fq0 (Fr.refl _ _) okq0 ?_;clear hr;intro wq1 xq1 stq1 hmq1 hq1 fq1 Fq1 nq1 okq1 hleq1 hr;have Tq1:=Tq0.trans fq1;cases xq1 with
  |true=>
   have haaa:=yw hmq1;replace hr:=zi (jv.symm.trans hr.out);have haa:=hq1;have Faa:=Fq1;have Taa:=Tq1;have okaa:=okq1;clear hmq1;go_wp2_with fail;refine jo hr (xq haa (by omega) 2) Faa (Fr.refl _ _) okaa (yh (by decide)) ?_;clear hr;intro wdd xdd stdd hmdd hdd fdd Fdd ndd okdd hledd hadd hr;obtain⟨kdd,tdd,add⟩:=xdd;simp only at hr ⊢;have cz:=(Taa.trans fdd).keep _ _ _ _ hz2.out (by decide) (by decide);have hS:∀W,(yO base).rel wdd.drew W->W.cell? ⟨w1.heap.size,2,none⟩=some (.int .i64 a1):=fun W hF=>zd (hF.keep _ _ _ _ cz (by decide) (by decide)) 2
   clear cz;have hwdd:=Fdd.b.size;have hszdd:(wdd.drew).heap.size=wdd.heap.size:=rfl;go_wp2_with fail;refine LodeX.jm (RR:=yO base) (Xp:=XP base r w) [(0,0),(1,0),(2,0),(3,1),(4,0),(5,0),(6,2),(7,2),(8,2),(9,0)] ?_;refine LodeX.qT ?_
   iterate 1 (refine LodeX.callX fun K hK=>?_;go_simp;refine⟨Fr.refl _ _,hK _ _ ?_⟩;clear hK K;try simp only[Act.put,yG,yE,yF])
   refine LodeX.callX fun K hK=>?_
   go_simp;refine lgo hr (ZJ (zh2 hR.out) (zbl hR.out.good) henter2.out (hdd.below bR.drew) okdd.out (by omega)) Fdd ((Fr.of_below hdd.base bR.drew)) ?_;clear hr;intro wee xee stee vee lee oee hmee hee fee Fee hr;refine⟨fee,hK _ _ ?_⟩;clear hK K;have hS:=fun W (hF:(yO base).rel wee W)=>hS W (Fr.trans fee hF)
   try simp only[Act.put,yG,yE,yF]
   obtain⟨nee,vlee⟩:=ke (zbl hR.out.good) okdd.out.le okdd.out.wf hmee;have okee:=okdd.out.nx nee (by decide);have hfew:stee.nodes.length<=1000000:=by have:=okee.few;have:=okee.le;omega
   refine LodeX.callX fun K hK=>?_
   go_simp;refine zO hr (zz hee.ungw 101 tdd 0 a1 xee _ (KS.own oee) (yB oee (fun g hg=>by have:=hG0 g hg;omega)) hfew) Fee ((Fr.refl _ _)) ?_;rintro wff xff stff hmff rfl hff fff Fff;refine⟨fff,hK _ _ ?_⟩;clear hK K
   try simp only[Act.put,yG,yE,yF]
   refine LodeX.qT ?_;refine LodeX.zC fun W hW=>?_
   cases hW;clear hS;go_wp2;go_ret;exact⟨⟨_,rfl,rfl⟩,hff,Fff⟩
  |false=>
   have hst:stq1=stq0:=yd hmq1;replace hr:=zi (qC.symm.trans hr.out);subst hst;clear hmq1;go_wp2_with fail;refine Yu hr (yl hq1 (by omega) [101,120,116,101,114,110]) Fq1 (Fr.refl _ _) okq1 ?_;clear hr;intro wq2 xq2 stq2 hmq2 hq2 fq2 Fq2 nq2 okq2 hleq2 hr;have Tq2:=Tq1.trans fq2;cases xq2 with
   |true=>
    have haaa:=yw hmq2;replace hr:=zi (jv.symm.trans hr.out);have haa:=hq2;have Faa:=Fq2;have Taa:=Tq2;have okaa:=okq2;clear hmq2;go_wp2_with fail;refine jo hr (zw haa (by omega) [102,117,110]) Faa (Fr.refl _ _) okaa (zo) ?_;clear hr;intro wbb xbb stbb hmbb hbb fbb Fbb nbb okbb hlebb habb hr;go_wp2_with fail;refine jo hr (xq hbb (by omega) 1) Fbb (Fr.refl _ _) okbb (yh (by decide)) ?_;clear hr;intro wdd xdd stdd hmdd hdd fdd Fdd ndd okdd hledd hadd hr;obtain⟨kdd,tdd,add⟩:=xdd;simp only at hr ⊢;go_wp2_with fail;refine lgo hr (XL hR.out hdd okdd.out (by omega)) Fdd (Fr.refl _ _) ?_;clear hr;intro wee xee stee vee lee oee hmee hee fee Fee hr;obtain⟨nee,vlee⟩:=ZC hR.out.good okdd.out.le okdd.out.wf hmee;have okee:=zi (okdd.out.nx nee (by decide));have hleee:=okee.out.le;have hsd:=Fdd.b.size;replace oee:=zi oee;go_wp2_with fail;refine jo hr (zw hee (by omega) [59]) Fee (Fr.refl _ _) okee (zo) ?_;clear hr;intro wff xff stff hmff hff fff Fff nff okff hleff haff hr;have off:=zi (zH oee.out fff (by decide) (by decide));have cz:=zd (((((Taa.trans fbb).trans fdd).trans fee).trans fff).keep _ _ _ _ hz2.out (by decide) (by decide)) 2;have hfew:stff.nodes.length<=1000000:=by have:=okff.out.few;have:=okff.out.le;omega
    go_wp2_with fail;refine zO hr (zz (hff.ungw.below bR) 103 tdd 0 a1 xee _ (KS.own off.out) (yB off.out (fun g hg=>by have:=hG0 g hg;omega)) hfew) Fff (Fr.refl _ _) ?_;rintro wii xii stii hmii rfl hii fii Fii;go_wp2;go_ret;exact⟨⟨_,rfl,rfl⟩,hii,Fii⟩
   |false=>
    have hst:stq2=stq1:=yd hmq2;replace hr:=zi (qC.symm.trans hr.out);subst hst;clear hmq2;go_wp2_with fail;refine Yu hr (yl hq2 (by omega) [114,111,111,116]) Fq2 (Fr.refl _ _) okq2 ?_;clear hr;intro wq3 xq3 stq3 hmq3 hq3 fq3 Fq3 nq3 okq3 hleq3 hr;have Tq3:=Tq2.trans fq3;cases xq3 with
    |true=>
     have haaa:=yw hmq3;replace hr:=zi (jv.symm.trans hr.out);have haa:=hq3;have Faa:=Fq3;have Taa:=Tq3;have okaa:=okq3;clear hmq3;go_wp2_with fail;refine jo hr (xq haa (by omega) 1) Faa (Fr.refl _ _) okaa (yh (by decide)) ?_;clear hr;intro wdd xdd stdd hmdd hdd fdd Fdd ndd okdd hledd hadd hr;obtain⟨kdd,tdd,add⟩:=xdd;simp only at hr ⊢;go_wp2_with fail;refine jo hr (zw hdd (by omega) [58]) Fdd (Fr.refl _ _) okdd (zo) ?_;clear hr;intro wbb xbb stbb hmbb hbb fbb Fbb nbb okbb hlebb habb hr;go_wp2_with fail;refine XI hr (hR.out.kind _ _ _ hbb okbb.out (by omega)) Fbb (Fr.refl _ _) okbb (hR.out.good.kind) ?_;clear hr;intro wcc xcc stcc hmcc hcc fcc Fcc ncc vdcc okcc hlecc hacc hr;go_wp2_with fail;refine jo hr (zw hcc (by omega) [61]) Fcc (Fr.refl _ _) okcc (zo) ?_;clear hr;intro wee xee stee hmee hee fee Fee nee okee hleee haee hr;go_wp2_with fail;refine XI hr (hR.out.expr _ _ _ hee okee.out (by omega)) Fee (Fr.refl _ _) okee (hR.out.good.expr) ?_;clear hr;intro wii xii stii hmii hii fii Fii nii vdii okii hleii haii hr;go_wp2_with fail;refine jo hr (zw hii (by omega) [59]) Fii (Fr.refl _ _) okii (zo) ?_;clear hr;intro wff xff stff hmff hff fff Fff nff okff hleff haff hr;have cz:=zd (((((((Taa.trans fdd).trans fbb).trans fcc).trans fee).trans fii).trans fff).keep _ _ _ _ hz2.out (by decide) (by decide)) 2;have hfew:stff.nodes.length<=1000000:=by have:=okff.out.few;have:=okff.out.le;omega
     go_wp2_with fail;refine zO hr (zz (hff.below (zf _ _)) 104 tdd 0 a1 [xcc,xii] _ (KS.lit _ [xcc,xii]) (hff.fresh _ _) hfew) Fff (Fr.of_below hff.base (zf _ _)) ?_;rintro wjj xjj stjj hmjj rfl hjj fjj Fjj;go_wp2;go_ret;exact⟨⟨_,rfl,rfl⟩,hjj,Fjj⟩
    |false=>
     have hst:stq3=stq2:=yd hmq3;replace hr:=zi (qC.symm.trans hr.out);subst hst;clear hmq3;go_wp2_with fail;refine Yu hr (yl hq3 (by omega) [112,117,114,101]) Fq3 (Fr.refl _ _) okq3 ?_;clear hr;intro wqp xqp stqp hmqp hqp fqp Fqp nqp okqp hleqp hr;have Tqp:=Tq3.trans fqp;cases xqp with
     |true=>
      have haaa:=yw hmqp;have haa:=hqp;have Faa:=Fqp;have Taa:=Tqp;have okaa:=okqp;clear hmqp;go_wp2_with fail;refine jo hr (zw haa (by omega) [102,117,110]) Faa (Fr.refl _ _) okaa (zo) ?_;clear hr;intro wbb xbb stbb hmbb hbb fbb Fbb nbb okbb hlebb habb hr;have habb:=nbb.adv;go_wp2_with fail;refine jo hr (xq hbb (by omega) 1) Fbb (Fr.refl _ _) okbb (yh (by decide)) ?_;clear hr;intro wdd xdd stdd hmdd hdd fdd Fdd ndd okdd hledd hadd hr;obtain⟨kdd,tdd,add⟩:=xdd;simp only at hr ⊢;go_wp2_with fail;refine lgo hr (XL hR.out hdd okdd.out (by omega)) Fdd (Fr.refl _ _) ?_;clear hr;intro wee xee stee vee lee oee hmee hee fee Fee hr;obtain⟨nee,vlee⟩:=ZC hR.out.good okdd.out.le okdd.out.wf hmee;have okee:=zi (okdd.out.nx nee (by decide));have hleee:=okee.out.le;have haee:=nee.next;have hsd:=Fdd.b.size;have hwdd:=((Taa.trans fbb).trans fdd).b.size;simp only[World.size_alloc] at hwdd;have hve:=oee.lt;have hne:some w1.heap.size≠vee.ownBlock:=fun e=>by
       have:=(hve _ e.symm).1;omega
      replace oee:=zi oee;have cz:=(((Taa.trans fbb).trans fdd).trans fee).keep _ _ _ _ hz2.out (by decide) (by decide);have hS:∀W,uW base vee.ownBlock wee.drew W->W.cell? ⟨w1.heap.size,2,none⟩=some (.int .i64 a1):=fun W hF=>zd (hF.keep _ _ _ _ hne cz (by decide) (by decide)) 2
      clear cz hve hne;go_wp2_with fail;refine LodeX.jm (RR:=zev base vee.ownBlock) (Xp:=XP base r w) [(0,0),(1,0),(2,0),(3,0),(4,1),(5,0),(6,0),(7,2),(8,2),(9,2),(10,2),(11,0)] ?_;refine LodeX.qT ?_;refine LodeX.callX fun K hK=>?_
      go_simp;refine XV hr (hR.out.block _ _ _ (hee.below bR.drew) okee.out (by omega)) Fee ((Fr.of_below hee.base bR.drew)) ?_;clear hr;intro wcc xcc stcc hmcc hcc fcc Fcc hr;refine⟨fcc.cutG,hK _ _ ?_⟩;clear hK K;have hS:=fun W (hF:uW base _ wcc W)=>hS W (uW.trans fcc.cutG hF)
      try simp only[Act.put,yG,yE,yF]
      obtain⟨ncc,vdcc⟩:=hR.out.good.block okee.out.le okee.out.wf hmcc;have okcc:=okee.out.nx ncc (by decide);have hlecc:=okcc.le;have hfew:stcc.nodes.length<=1000000:=by have:=okcc.few;omega
      have occ:=zH (zu oee.out bR.drew) fcc (by decide) (by decide);have hsc:wee.heap.size<=wcc.heap.size:=fcc.b.size;have hse:=fee.b.size;refine LodeX.callX fun K hK=>?_
      go_simp;refine⟨(Fr.of_below hcc.base (zf _ _)).cutG,hK _ _ ?_⟩;clear hK K
      try simp only[Act.put,yG,yE,yF]
      have hbsii:=hcc.base;have hssii:=Fcc.b.size;refine LodeX.callX fun K hK=>?_
      refine km _ _ rfl (by rfl) (zu occ (zf _ _)) (by rfl) (zd (zk wcc _) 0) rfl rfl (by omega) (by simp;omega) ?_;intro g' cap' wii hrow hgrow hg';obtain⟨vii,eii,oii,hii,gsii,FFii⟩:=xb hcc occ (by omega) (fun g hg=>by have:=hivlt.out g hg;omega) hrow hgrow (hg'.imp id (fun h=>by simpa using h));rw[eii];refine⟨uW.grow hgrow (by simp;omega) (fun k hk=>by have:=((occ).lt k hk).1;omega),hK _ _ ?_⟩;clear hK K;replace oii:=zi oii;replace FFii:=zi FFii;clear hrow hgrow hg' eii
      try simp only[Act.put,yG,yE,yF]
      have Fii:=FFii.out w Fcc (by omega) hbase;refine LodeX.callX fun K hK=>?_
      go_simp;refine zO hr (zz hii.ungw 102 tdd 1 a1 (xee ++ [xcc]) _ (KS.own oii.out) (yB oii.out (fun g hg=>by have:=hG0 g hg;omega)) hfew) Fii ((Fr.refl _ _)) ?_;rintro wff xff stff hmff rfl hff fff Fff;refine⟨fff.cutG,hK _ _ ?_⟩;clear hK K
      try simp only[Act.put,yG,yE,yF]
      refine LodeX.qT ?_;refine LodeX.zC fun W hW=>?_
      cases hW;clear hS;go_wp2;go_ret;exact⟨⟨_,rfl,rfl⟩,hff,Fff⟩
     |false=>
      have hst:stqp=stq3:=yd hmqp;subst hst;have haa:=hqp;have Faa:=Fqp;have Taa:=Tqp;have okaa:=okqp;clear hmqp;go_wp2_with fail;refine jo hr (zw haa (by omega) [102,117,110]) Faa (Fr.refl _ _) okaa (zo) ?_;clear hr;intro wbb xbb stbb hmbb hbb fbb Fbb nbb okbb hlebb habb hr;have habb:=nbb.adv;go_wp2_with fail;refine jo hr (xq hbb (by omega) 1) Fbb (Fr.refl _ _) okbb (yh (by decide)) ?_;clear hr;intro wdd xdd stdd hmdd hdd fdd Fdd ndd okdd hledd hadd hr;obtain⟨kdd,tdd,add⟩:=xdd;simp only at hr ⊢;go_wp2_with fail;refine lgo hr (XL hR.out hdd okdd.out (by omega)) Fdd (Fr.refl _ _) ?_;clear hr;intro wee xee stee vee lee oee hmee hee fee Fee hr;obtain⟨nee,vlee⟩:=ZC hR.out.good okdd.out.le okdd.out.wf hmee;have okee:=zi (okdd.out.nx nee (by decide));have hleee:=okee.out.le;have haee:=nee.next;have hsd:=Fdd.b.size;have hwdd:=((Taa.trans fbb).trans fdd).b.size;simp only[World.size_alloc] at hwdd;have hve:=oee.lt;have hne:some w1.heap.size≠vee.ownBlock:=fun e=>by
       have:=(hve _ e.symm).1;omega
      replace oee:=zi oee;have cz:=(((Taa.trans fbb).trans fdd).trans fee).keep _ _ _ _ hz2.out (by decide) (by decide);have hS:∀W,uW base vee.ownBlock wee.drew W->W.cell? ⟨w1.heap.size,2,none⟩=some (.int .i64 a1):=fun W hF=>zd (hF.keep _ _ _ _ hne cz (by decide) (by decide)) 2
      clear cz hve hne;go_wp2_with fail;refine LodeX.jm (RR:=zev base vee.ownBlock) (Xp:=XP base r w) [(0,0),(1,0),(2,0),(3,0),(4,1),(5,0),(6,0),(7,2),(8,2),(9,2),(10,2),(11,0)] ?_;refine LodeX.qT ?_;refine LodeX.callX fun K hK=>?_
      go_simp;refine XV hr (hR.out.block _ _ _ (hee.below bR.drew) okee.out (by omega)) Fee ((Fr.of_below hee.base bR.drew)) ?_;clear hr;intro wcc xcc stcc hmcc hcc fcc Fcc hr;refine⟨fcc.cutG,hK _ _ ?_⟩;clear hK K;have hS:=fun W (hF:uW base _ wcc W)=>hS W (uW.trans fcc.cutG hF)
      try simp only[Act.put,yG,yE,yF]
      obtain⟨ncc,vdcc⟩:=hR.out.good.block okee.out.le okee.out.wf hmcc;have okcc:=okee.out.nx ncc (by decide);have hlecc:=okcc.le;have hfew:stcc.nodes.length<=1000000:=by have:=okcc.few;omega
      have occ:=zH (zu oee.out bR.drew) fcc (by decide) (by decide);have hsc:wee.heap.size<=wcc.heap.size:=fcc.b.size;have hse:=fee.b.size;refine LodeX.callX fun K hK=>?_
      go_simp;refine⟨(Fr.of_below hcc.base (zf _ _)).cutG,hK _ _ ?_⟩;clear hK K
      try simp only[Act.put,yG,yE,yF]
      have hbsii:=hcc.base;have hssii:=Fcc.b.size;refine LodeX.callX fun K hK=>?_
      refine km _ _ rfl (by rfl) (zu occ (zf _ _)) (by rfl) (zd (zk wcc _) 0) rfl rfl (by omega) (by simp;omega) ?_;intro g' cap' wii hrow hgrow hg';obtain⟨vii,eii,oii,hii,gsii,FFii⟩:=xb hcc occ (by omega) (fun g hg=>by have:=hivlt.out g hg;omega) hrow hgrow (hg'.imp id (fun h=>by simpa using h));rw[eii];refine⟨uW.grow hgrow (by simp;omega) (fun k hk=>by have:=((occ).lt k hk).1;omega),hK _ _ ?_⟩;clear hK K;replace oii:=zi oii;replace FFii:=zi FFii;clear hrow hgrow hg' eii
      try simp only[Act.put,yG,yE,yF]
      have Fii:=FFii.out w Fcc (by omega) hbase;refine LodeX.callX fun K hK=>?_
      go_simp;refine zO hr (zz hii.ungw 102 tdd 0 a1 (xee ++ [xcc]) _ (KS.own oii.out) (yB oii.out (fun g hg=>by have:=hG0 g hg;omega)) hfew) Fii ((Fr.refl _ _)) ?_;rintro wff xff stff hmff rfl hff fff Fff;refine⟨fff.cutG,hK _ _ ?_⟩;clear hK K
      try simp only[Act.put,yG,yE,yF]
      refine LodeX.qT ?_;refine LodeX.zC fun W hW=>?_
      cases hW;clear hS;go_wp2;go_ret;exact⟨⟨_,rfl,rfl⟩,hff,Fff⟩
end
section
open Go.RowKit Lode Go.Shelf
attribute [local go_sem ↓] Go.wp_at_zero Go.wp_at_succ
open Go.Proofs.Tryz
theorem Xc{w:World}{B n:Nat}{v:Value}{xs:List Value}(h:w.ownsRow B 3 1 v n xs){k:Nat}{cs:Array Value}{T:TypeId}{fr:Nat×Nat}(hk:w.heap[k]? =some (.cells cs T fr))(hT:T≠3):v.ownBlock≠some k:=fun e=>by
 obtain⟨cs',hh⟩:=zbb h e;rw[hk] at hh;cases hh;exact hT rfl
theorem PW.addItem{E:zv}{base pb:Nat}{iv:Value}{G G':Nat->Prop}{w w':World}{st:zY}(h:PW E base pb iv G w st){x:Int}{g' cap':Nat}(hrow:w'.ownsRow base 3 1 (.slice (some ⟨g',0,none⟩) (st.items.length+1) cap') (st.items.length+1) (yZ st.items ++ [.int .i64 x]))(hg:w.grownBy w' iv.ownBlock)(hg':iv.ownBlock=some g'\/g'=w.heap.size)(hG:∀g,iv.ownBlock=some g->G g)(hG2:∀g,G' g->G g\/g=g'):
 PW E base pb (.slice (some ⟨g',0,none⟩) (st.items.length+1) cap') G' (w'.setCell ⟨pb,1,none⟩ (.slice (some ⟨g',0,none⟩) (st.items.length+1) cap')) {st with items:=st.items ++ [x]}/\w'.cell? ⟨pb,1,none⟩=some iv/\w'.frozen? ⟨pb,1,none⟩=false/\Below base w w':=by
 have hbase:=h.base;obtain⟨nv,tv,s,kv,P,hK,hL⟩:=h;have hpb:=Xc P.items P.obj (by decide);have hB:Below base w w':=(pF base w).grown hg hbase (fun k hk=>(P.items.lt k hk).1);have hobj:w'.heap[pb]? =some (.cells #[nv,iv,.string s,tv,.int .i64 st.next] 120 (0,0)):=by
  rw[hg.block pb (gtA P.obj) (fun e=>hpb e.symm)];exact P.obj
 have F:=zeg (w:=w') P.hpb hobj 1 (.slice (some ⟨g',0,none⟩) (st.items.length+1) cap');refine⟨⟨nv,tv,s,kv,⟨P.hpb,zr hobj 1 _,P.len,P.toks.fr (hB.trans F.b),?_,P.kvl,fun j y u hy hu=>?_,?_⟩,fun u hu g hgb e=>?_,fun g e=>?_⟩,zd hobj 1,zl hobj 1,hB⟩
 ·have hn:w'.ownsRow base 45 5 nv st.nodes.length (jg st.nodes kv):=by
   refine World.ownsRow.kept P.nodes hg ?_;obtain⟨_,⟨hnv,_⟩|⟨g,cap,cur,hnv,_,hh,_⟩⟩:=P.nodes
   ·exact .inl (by rw[hnv];rfl)
   ·refine .inr (fun e=>?_);rw[hnv] at e;exact Xc P.items hh (by decide) e.symm
  exact ownsRow_setCell_other hn (za7 (cs:=[nv,iv,.string s,tv,.int .i64 st.next]) hn hobj) _
 ·have hk:=P.kids j y u hy hu;have hm:u∈kv:=wK hu;refine KS.fri (w:=w') ?_ F.i;obtain⟨p,cap,rfl,hk2⟩:=id hk;refine⟨p,cap,rfl,?_⟩;rcases hk2 with h0|⟨g,off,cs,fr,rfl,hh,hc⟩
  ·exact .inl h0
  ·by_cases h0:y.kids=[]
   ·exact .inl h0
   ·refine .inr ⟨g,off,cs,fr,rfl,?_,hc⟩;have hb:qV (.slice (some ⟨g,off,none⟩) y.kids.length (y.kids.length+cap))=some g:=by
     cases hl:y.kids.length with
     |zero=>exact absurd (pM hl) h0
     |succ m=>rfl
    rw[hg.block g (gtA hh) (fun e=>hK _ hm g hb (hG g e.symm))];exact hh
 ·have:=ownsRow_setCell_other hrow (a:=⟨pb,1,none⟩) (Xc hrow hobj (by decide)) (.slice (some ⟨g',0,none⟩) (st.items.length+1) cap');simp only[pC,pI,yZ,List.map_append,List.map_cons,List.map_nil];exact this
 ·rcases hG2 g e with h1|rfl
  ·exact hK u hu g hgb h1
  rcases hg' with h2|h2
  ·exact hK u hu _ hgb (hG _ h2)
  ·obtain⟨j,hj,rfl⟩:=List.mem_iff_getElem.1 hu;have hx:st.nodes[j]? =some (st.nodes[j]'(by rw[<-P.kvl];exact hj)):=glE _;obtain⟨cs,fr,hh⟩:=Xm (P.kids j _ _ hx (glE hj)) hgb;have:=(gtA hh);omega
 ·rcases hG2 g e with h1|rfl
  ·have:=wI (hL g h1) hg.size;simpa using this
  have:=(hrow.lt g rfl).2;simpa using this
def zlB(base pb:Nat):LodeX.Rel:=⟨fun a b=>Below base a b/\b.cell? ⟨pb,1,none⟩=a.cell? ⟨pb,1,none⟩,fun w=>⟨pF _ w,rfl⟩,fun h k=>⟨h.1.trans k.1,k.2.trans h.2⟩,Eq,fun _=>rfl,Eq.trans,fun h=>h▸⟨pF _ _,rfl⟩⟩
theorem PW.iv{E:zv}{base pb:Nat}{iv:Value}{G:Nat->Prop}{w:World}{st:zY}(h:PW E base pb iv G w st):w.cell? ⟨pb,1,none⟩=some iv:=by
 obtain⟨nv,tv,s,kv,P,_,_⟩:=h;exact P.cells.2.1
theorem PW.tk{E:zv}{base pb:Nat}{iv:Value}{G:Nat->Prop}{w:World}{st:zY}(h:PW E base pb iv G w st):∃p cap,w.cell? ⟨pb,3,none⟩=some (.slice p E.toks.length cap)/\w.cell? ⟨pb,4,none⟩=some (.int .i64 st.next):=by
 obtain⟨nv,tv,s,kv,P,_,_⟩:=h;obtain⟨p,cap,rfl,_⟩:=P.toks;exact⟨p,cap,P.cells.2.2.2.1,P.cells.2.2.2.2.1⟩
theorem PW.its{E:zv}{base pb:Nat}{iv:Value}{G:Nat->Prop}{w:World}{st:zY}(h:PW E base pb iv G w st):w.ownsRow base 3 1 iv st.items.length (yZ st.items):=by
 obtain⟨nv,tv,s,kv,P,_,_⟩:=h;exact P.items
def Gi(H:Nat->Prop)(iv:Value):Nat->Prop:=fun g=>H g\/iv.ownBlock=some g
def zkc(E:zv)(base pb:Nat)(H:Nat->Prop)(R:xN)(w:World)(r:qw Unit)(wr:World):Prop:=∃iv st k,qn R k E st=r/\E.toks.length-st.next<k/\st.items.length<=st.next/\qG E st/\PW E base pb iv (Gi H iv) wr st/\Below base w wr
def zk6(E:zv)(base pb:Nat)(H:Nat->Prop)(w:World)(r:qw Unit)(e:Ending)(w':World):Prop:=match r with
 | .ok _ st'=>e=.returned (.tuple #[])/\(∃iv,PW E base pb iv (Gi H iv) w' st')/\Below base w w'
 | .bad p=>e=Pan p/\Below base w w'
theorem zcq{E:zv}{base pb n:Nat}{H:Nat->Prop}{R:xN}(hR:∀iv,kg E base pb iv n R)(hn:E.toks.length<n+1){iv:Value}{w:World}{st0:zY}(h0:PW E base pb iv (Gi H iv) w st0)(ok0:qG E st0)(hit:st0.items.length<=st0.next)(k0:Nat)(hk0:E.toks.length-st0.next<k0):Calls prog 69 #[.pointer (some ⟨pb,0,none⟩)] w (zk6 E base pb H w (qn R k0 E st0)):=by
 obtain⟨r,hr⟩:=exE (qn R k0 E st0);rw[hr];have hlim:=ok0.lim;have hst:zkc E base pb H R w r w:=⟨iv,st0,k0,hr,hk0,hit,ok0,h0,pF _ _⟩;replace hst:=zi hst;clear hr h0 ok0 hit hk0;go_enter func69,ntmps69;go_wp2;go_loopw [] (fun wr=>zkc E base pb H R w r wr) (fun wr=>E.toks.length+1-xh pb wr)
 case atStart=>exact hst.out
 case round=>
  obtain⟨iv1,st1,k,hr,hk,hit,ok1,h1,B1⟩:=hrel;obtain⟨k,rfl⟩:∃m,k=m+1:=⟨k-1,by omega⟩;unfold qn at hr;have hle1:=ok1.le;obtain⟨tp,tc,c3,c4⟩:=h1.tk;replace ok1:=zi ok1;obtain⟨m,hm⟩:=exE (E.toks.length);rw[hm] at c3;by_cases hlt:st1.next<E.toks.length
  ·rw[if_pos hlt] at hr;have hlt':(st1.next:Int)<(m:Int):=by omega
   replace hr:=zi hr;have Hm:=zi hm;clear hm;go_wp2_with fail;go_quiet (fail);go_wp2_with fail;generalize hw2:World.drewN wr _=w2;have hb2:Below wr.heap.size wr w2:=hw2▸ym bR _;have h2:=(h1.below hb2).below (pF _ w2).drew;have B2:Below base w w2.drew:=(B1.trans (hb2.mono h1.base)).trans ((pF _ w2).drew.mono (h1.below hb2).base);have hS:∀W,(zlB base pb).rel w2.drew W->W.cell? ⟨pb,1,none⟩=some iv1:=fun W h=>h.2.trans h2.iv
   have hitl:=zi h2.its;clear c3 c4 hw2;refine LodeX.qY (RR:=zlB base pb) (Xp:=fun c W=>∃p,r=.bad p/\c=[{v:=.iface 122 (.agg #[.int .i64 p]),recovered:=false}]/\Below base w W) [(0,0),(1,0),(2,0),(3,0),(4,0),(5,1),(6,0),(7,2),(8,2),(9,2),(10,0),(11,0),(12,0),(13,3)] (by kernel_rfl) (by kernel_rfl) ?hX ?_
   case hX=>
    rintro c a W hd ⟨p,hrp,rfl,hb⟩;subst hrp;go_wp2_with fail;exact⟨hd,rfl,hb⟩
   refine LodeX.qT ?_;refine LodeX.zZ rfl rfl (fun K hK W hW=>?_);cases hW;go_simp;refine ((zh3 (hR iv1)) _ _ _ h2 ok1.out (by omega)).mono ?_;rintro e w3 hp;rcases hp.cases with⟨p,hm3,he,hb⟩|⟨x3,st3,hm3,v,rfl,hv,h3,f3⟩
   ·unfold Pan at he;subst he;have hr2:=hr.out;rw[hm3] at hr2;exact⟨rfl,p,hr2.symm,rfl,B2.trans hb⟩
   have hr3:qn R k E {st3 with items:=st3.items ++ [x3]}=r:=by
    have:=hr.out;rw[hm3] at this;exact this
   replace hr:=zi hr3;clear hr3;obtain⟨n3,vd3⟩:=Yf (hR iv1).good ok1.out.le ok1.out.wf hm3;have ok3:=ok1.out.nx n3 (by decide);have hle3:=ok3.le;have hit3:=zi n3.it;have ha3:st1.next<st3.next:=by
    have h4:=n3.cr;obtain⟨r3,h5⟩:=n3.pre;have h6:=congrArg List.length h5;rw[pC] at h6;omega
   have B3:=B2.trans f3.b;have hbs3:=h3.base;have hsz:st3.items.length<=1200:=by rw[hit3.out];omega
   refine⟨⟨f3.b,h3.iv.trans h2.iv.symm⟩,hK _ _ ?_⟩;clear hK K;unfold ju at hv;subst hv
   try simp only[Act.put,yG,yE,yF]
   refine LodeX.zZ rfl rfl (fun K hK W hW=>?_);cases hW;go_simp;refine⟨⟨(zf _ _).mono h3.base,(zj (zf _ _) h3.iv).trans h3.iv.symm⟩,hK _ _ ?_⟩;clear hK K
   try simp only[Act.put,yG,yE,yF]
   refine LodeX.zZ rfl rfl (fun K hK W hW=>?_);cases hW;refine km _ _ rfl (by rfl) (zu h3.its (zf _ _)) (by rfl) (zd (zk w3 _) 0) rfl rfl (by omega) (by simp;omega) ?_;intro g' cap' w4 hrow hgrow hg';obtain⟨h4,c4,f4,B4⟩:=(h3.below (zf _ _)).addItem (G':=Gi H (.slice (some ⟨g',0,none⟩) (st3.items.length+1) cap')) hrow hgrow hg' (fun g hg=>.inr hg) (fun g hg=>hg.elim (fun h=>.inl (.inl h)) (fun h=>.inr (Option.some.inj h).symm));refine⟨⟨B4,c4.trans (zj (zf _ _) h3.iv).symm⟩,hK _ _ ?_⟩;clear hK K hS;replace B4:=zi ((B3.trans ((zf _ _).mono h3.base)).trans B4);replace h4:=zi h4;clear hrow hgrow hg'
   try simp only[Act.put,yG,yE,yF]
   refine LodeX.qT ?_;refine LodeX.Xr rfl rfl (fun W hW=>?_);cases hW;go_simp;refine LodeX.JE ?_;go_wp2_with fail;have h5:=h4.out;go_roundw
   case rel=>exact⟨_,_,k,hr.out,by simp only;omega,by simp only[pC,pI];rw[hit3.out];omega,⟨ok3.le,ok3.wf,ok3.few,ok3.lim⟩,h5,B4.out.setCell (by obtain⟨_,_,_,_,P,_⟩:=h3;exact P.hpb) _⟩
   case measure=>
    rw[h5.xh,h1.xh];simp only;omega
  ·rw[if_neg hlt] at hr;have hlt':¬((st1.next:Int)<(m:Int)):=by omega
   subst hr;clear hm;go_wp2_with fail;go_quiet (fail);go_wp2_with fail;go_end0;exact⟨rfl,⟨iv1,h1.below (ym bR _)⟩,B1.trans ((ym bR _).mono h1.base)⟩
def ziE(N K:Nat):LodeX.Rel:=⟨fun a b=>Below N a b/\b.heap[K]? =a.heap[K]?,fun w=>⟨pF _ w,rfl⟩,fun h k=>⟨h.1.trans k.1,k.2.trans h.2⟩,Eq,fun _=>rfl,Eq.trans,fun h=>h▸⟨pF _ _,rfl⟩⟩
structure FsB(w:World)(N:Nat)(a b:Value)(p:Int)(k:Bool):Prop where
 t:w.heap[N]? =some (.cells #[a,b] 26 (0,0))
 p:w.heap[N+1]? =some (.cells #[.int .i64 p] 3 (0,0))
 k:w.heap[N+2]? =some (.cells #[.bool k] 4 (0,0))
theorem zc7(N:Nat)(w:World):CallsD prog 68 #[.pointer (some ⟨N,0,none⟩),.pointer (some ⟨N+1,0,none⟩),.pointer (some ⟨N+2,0,none⟩)] .returning w fun e u' w'=>e=.returned (.tuple #[])/\u'=.returning/\w'=w:=by
 refine callsD_of_wpS func68 rfl fun c₀ cs hu=>?_
 apply wpS_seq;apply wpS_region;simp[wpOpsS,go_sem,recoverD,hu,ntmps68,Exit.thenS];refine wpS_of_wp ?_;go_wp2_with fail;refine⟨rfl,.returning,?_,.tuple #[],results_none rfl _ _ _,rfl,rfl,rfl⟩;cases c₀
 simp_all
theorem Vx(N:Nat)(p p0:Int)(a0 b0:Value)(kb:Bool)(w:World)(h:FsB w N a0 b0 p0 kb):CallsD prog 68 #[.pointer (some ⟨N,0,none⟩),.pointer (some ⟨N+1,0,none⟩),.pointer (some ⟨N+2,0,none⟩)] (.panicking [{v:=.iface 122 (.agg #[.int .i64 p]),recovered:=false}]) w fun e u' w'=>e=.returned (.tuple #[])/\u'=.panicking [{v:=.iface 122 (.agg #[.int .i64 p]),recovered:=true}]/\FsB w' N (.slice none 0 0) (.slice none 0 0) p false/\Below N w w':=by
 refine callsD_of_wpS func68 rfl fun c₀ cs hu=>?_
 apply wpS_seq;apply wpS_region;simp[wpOpsS,go_sem,recoverD,hu,ntmps68,Exit.thenS];refine wpS_of_wp ?_;have hl1:N<w.heap.size:=(gtA h.t);have hl2:N+1<w.heap.size:=(gtA h.p);have hl3:N+2<w.heap.size:=(gtA h.k);have hb:=(zf w (.cells #[.int .i64 p] 122 (0,0))).drew;have hz:=zh bR.drew (zk w (.cells #[.int .i64 p] 122 (0,0)));have hS:∀W,(ziE N w.heap.size).rel (w.alloc (.cells #[.int .i64 p] 122 (0,0))).drew W->W.cell? ⟨w.heap.size,0,none⟩=some (.int .i64 p):=fun W hC=>zd (hC.2.trans hz) 0
 have H:=zi h;clear h hz;have hta:∀W,(Instr.typeAssert (.iface 122 (.agg #[.int .i64 p])) 20 122 true).run prog W=.ok (.tuple #[.agg #[.int .i64 p],.bool true]) W:=fun W=>by kernel_rfl
 simp only[Array.replicate_succ,Array.replicate_zero,List.push_toArray,List.append_toArray,wJ,pT,yG,yE,yF];go_wp2_with fail;refine LodeX.jm (RR:=ziE N w.heap.size) (Xp:=fun _ _=>False) [(0,0),(1,0),(2,1),(3,2),(4,2),(5,2)] ?_;refine LodeX.qT ?_;have e0:=zh hb H.out.t;have e1:=zh hb H.out.p;have e2:=zh hb H.out.k;generalize (w.alloc (.cells #[.int .i64 p] 122 (0,0))).drew=w1 at *;refine LodeX.zZ rfl rfl (fun K hK W hW=>?_);cases hW;have d0:=zd e0 0;have d1:=zd e0 1;have f0:=zl e0 0;have f1:=zl e0 1;have H0:=zi e0;go_simp;have k0:w.heap.size≠N:=by omega
 have z1:=zr e0 0 (.slice none 0 0);have z2:=zr z1 1 (.slice none 0 0);refine⟨⟨((pF N w1).setCell (pE _) _).setCell (pE _) _,(zt k0).trans (zt k0)⟩,hK _ _ ?_⟩;clear hK K hS;have g1:((w1.setCell ⟨N,0,none⟩ (.slice none 0 0)).setCell ⟨N,1,none⟩ (.slice none 0 0)).heap[N+1]? =some (.cells #[.int .i64 p0] 3 (0,0)):=((zt (by omega)).trans (zt (by omega))).trans e1;have g2:((w1.setCell ⟨N,0,none⟩ (.slice none 0 0)).setCell ⟨N,1,none⟩ (.slice none 0 0)).heap[N+2]? =some (.cells #[.bool kb] 4 (0,0)):=((zt (by omega)).trans (zt (by omega))).trans e2;have B1:Below N w1 ((w1.setCell ⟨N,0,none⟩ (.slice none 0 0)).setCell ⟨N,1,none⟩ (.slice none 0 0)):=((pF N w1).setCell (pE _) _).setCell (pE _) _;replace z2:=zi z2;clear e0 e1 e2 d0 d1 f0 f1 H0 z1;generalize (w1.setCell ⟨N,0,none⟩ (.slice none 0 0)).setCell ⟨N,1,none⟩ (.slice none 0 0)=w2 at *
 try simp only[Act.put,yG,yE,yF]
 refine LodeX.zZ rfl rfl (fun K hK W hW=>?_);cases hW;have d0:=zd g1 0;have f0:=zl g1 0;have H1:=zi g1;go_simp;refine⟨⟨(pF N w2).setCell (Nat.le_succ _) _,zt (by omega)⟩,hK _ _ ?_⟩;clear hK K;have t2:(w2.setCell ⟨N+1,0,none⟩ (.int .i64 p)).heap[N]? =_:=(zt (by omega)).trans z2.out;have g3:(w2.setCell ⟨N+1,0,none⟩ (.int .i64 p)).heap[N+2]? =_:=(zt (by omega)).trans g2;have p2:=zr g1 0 (.int .i64 p);have B2:Below N w1 (w2.setCell ⟨N+1,0,none⟩ (.int .i64 p)):=B1.setCell (Nat.le_succ _) _;replace t2:=zi t2;replace p2:=zi p2;clear g1 g2 d0 f0 H1 z2 B1;generalize w2.setCell ⟨N+1,0,none⟩ (.int .i64 p)=w3 at *
 try simp only[Act.put,yG,yE,yF]
 refine LodeX.zZ rfl rfl (fun K hK W hW=>?_);cases hW;have d0:=zd g3 0;have f0:=zl g3 0;have H1:=zi g3;go_simp;refine⟨⟨(pF N w3).setCell (by simp only;omega) _,zt (by omega)⟩,hK _ _ ?_⟩;clear hK K
 try simp only[Act.put,yG,yE,yF]
 refine LodeX.zC fun W hW=>?_
 cases hW;go_wp2_with fail;refine⟨rfl,.panicking [{v:=.iface 122 (.agg #[.int .i64 p]),recovered:=true}],?_,.tuple #[],results_none rfl _ _ _,rfl,rfl,⟨(zt (by omega)).trans t2.out,(zt (by omega)).trans p2.out,zr H1.out 0 _⟩,((hb.mono (by omega)).trans B2).setCell (by simp only;omega) _⟩;cases c₀
 simp_all
theorem TK.mono{b b':Nat}{w:World}{v:Value}{l:List yp}(h:TK b w v l)(hb:b<=b'):TK b' w v l:=by
 obtain⟨p,cap,hv,h⟩:=h;exact⟨p,cap,hv,h.imp id fun ⟨g,cs,fr,h1,r⟩=>⟨g,cs,fr,wI h1 hb,r⟩⟩
theorem KS.keep{w w':World}{v:Value}{l:List Int}(h:KS w v l)(hk:∀g cs fr,qV v=some g->w.heap[g]? =some (.cells cs 3 fr)->w'.heap[g]? =some (.cells cs 3 fr)):KS w' v l:=by
 obtain⟨p,cap,rfl,h⟩:=h;refine⟨p,cap,rfl,?_⟩;rcases h with h0|⟨g,off,cs,fr,rfl,hh,hc⟩
 ·exact .inl h0
 ·by_cases h0:l=[]
  ·exact .inl h0
  ·refine .inr ⟨g,off,cs,fr,rfl,hk g cs fr ?_ hh,hc⟩;cases hl:l.length with
   |zero=>exact absurd (pM hl) h0
   |succ m=>rfl
theorem uI{w:World}{g k:Nat}{cs ds:Array Value}{T U:TypeId}{fr fr':Nat×Nat}(h:w.heap[g]? =some (.cells cs T fr))(h':w.heap[k]? =some (.cells ds U fr'))(hT:T≠U):g≠k:=fun e=>by
 subst e;rw[h] at h';cases h';exact hT rfl
def zk9(r:qw Unit)(w:World)(e:Ending)(w':World):Prop:=match r with
 | .ok _ st=>∃nv iv kv,e=.returned (.tuple #[.agg #[nv,iv],.int .i64 0,.bool true])/\NS w' nv st.nodes kv/\KS w' iv st.items/\Below w.heap.size w w'
 | .bad p=>e=.returned (.tuple #[.agg #[.slice none 0 0,.slice none 0 0],.int .i64 p,.bool false])/\Below w.heap.size w w'
theorem zdQ(s:ByteArray)(toks:List yp)(tv:Value)(w:World)(htk:TK w.heap.size w tv toks)(hE:zbI ⟨toks,s.size⟩)(hlim:toks.length<=1200):Calls prog 33 #[.string s,tv] w (zk9 (xO toks s.size) w):=by
 have hmf:∀(fn:Fn) (first cap:Array Value) (w:World),(Instr.makeFunc fn first cap).run prog w=.ok (.func fn first cap) w:=fun _ _ _ _=>rfl
 obtain⟨r,hr⟩:=exE (xO toks s.size);rw[hr];unfold xO at hr;replace hr:=zi hr;obtain⟨E,hEd⟩:∃E:zv,⟨toks,s.size⟩=E:=⟨_,rfl⟩;have hEt:E.toks=toks:=by rw[<-hEd]
 have hEl:s.size=E.len:=by rw[<-hEd]
 obtain⟨tp,tc,rfl,_⟩:=id htk
 let o1:Obj:=.cells #[.slice none 0 0,.slice none 0 0] 26 (0,0)
 let o2:Obj:=.cells #[.int .i64 0] 3 (0,0)
 let o3:Obj:=.cells #[.bool false] 4 (0,0)
 let o4:Obj:=.cells #[.slice none 0 0,.slice none 0 0,.string s,.slice tp toks.length tc,.int .i64 0] 120 (0,0)
 have hb4:Below w.heap.size w ((((w.alloc o1).alloc o2).alloc o3).alloc o4):=zX [o1,o2,o3,o4] w;have z1:((((w.alloc o1).alloc o2).alloc o3).alloc o4).heap[w.heap.size]? =some o1:=zJ [o1,o2,o3,o4] w 0 o1 rfl;have z2:((((w.alloc o1).alloc o2).alloc o3).alloc o4).heap[w.heap.size+1]? =some o2:=zJ [o1,o2,o3,o4] w 1 o2 rfl;have z3:((((w.alloc o1).alloc o2).alloc o3).alloc o4).heap[w.heap.size+2]? =some o3:=zJ [o1,o2,o3,o4] w 2 o3 rfl;have z4:((((w.alloc o1).alloc o2).alloc o3).alloc o4).heap[w.heap.size+3]? =some o4:=zJ [o1,o2,o3,o4] w 3 o4 rfl;have hP:PW E (w.heap.size+3) (w.heap.size+3) (.slice none 0 0) (Gi (fun g=>g=w.heap.size+1) (.slice none 0 0)) ((((w.alloc o1).alloc o2).alloc o3).alloc o4) ⟨[],[],0⟩:=by
  refine⟨.slice none 0 0,.slice tp toks.length tc,s,[],⟨pE _,z4,hEl,by rw[hEt];exact (htk.fr hb4).mono (by omega),⟨rfl,.inl ⟨rfl,rfl⟩⟩,rfl,fun j x v h=>by simp at h,⟨rfl,.inl ⟨rfl,rfl⟩⟩⟩,?_,?_⟩
  ·intro v hv;cases hv
  ·intro g hg;rcases hg with rfl|hg
   ·have:=(gtA z2);exact this
   ·cases hg
 have hok:qG E ⟨[],[],0⟩:=⟨pU _,fun i x h=>by simp at h,pE _,by rw[hEt];exact hlim⟩;have HP:=zi (zcq (R:=jA (toks.length+1)) (fun iv=>(zeW (by rw[<-hEd];exact hE) (toks.length+1)).1) (by rw[hEt];omega) hP hok (pE _) (toks.length+1) (by rw[hEt];omega));rw[hEd] at hr;rw[hr.out] at HP;simp only[o1,o2,o3,o4] at z1 z2 z3 z4 hb4 HP;replace z1:=zi z1;replace z2:=zi z2;replace z3:=zi z3;replace z4:=zi z4;replace hb4:=zi hb4;clear hP hok o1 o2 o3 o4 htk hE hEd hr;go_enter_defers func33,ntmps33;go_wp2_with fail;refine HP.out.mono ?_;rintro e w1 hp;have hw4:((((w.alloc (.cells #[.slice none 0 0,.slice none 0 0] 26 (0,0))).alloc (.cells #[.int .i64 0] 3 (0,0))).alloc (.cells #[.bool false] 4 (0,0))).alloc (.cells #[.slice none 0 0,.slice none 0 0,.string s,.slice tp toks.length tc,.int .i64 0] 120 (0,0))).heap.size=w.heap.size+4:=by simp
 generalize (((w.alloc (.cells #[.slice none 0 0,.slice none 0 0] 26 (0,0))).alloc (.cells #[.int .i64 0] 3 (0,0))).alloc (.cells #[.bool false] 4 (0,0))).alloc (.cells #[.slice none 0 0,.slice none 0 0,.string s,.slice tp toks.length tc,.int .i64 0] 120 (0,0))=w4 at *;cases r with
 |ok u st=>
  obtain⟨rfl,⟨iv,h1⟩,B1⟩:=hp;have c1:=h1.iv;have hks:KS w1 iv st.items:=KS.own h1.its;have hig:=yB (G:=fun g=>g<w.heap.size+3) h1.its (fun g hg=>hg);obtain⟨nv,tv,s',kv,P,hK,_⟩:=h1;have c0:=P.cells.1;have hns:=za6 P.nodes P.kvl P.kids;replace hK:=zi hK;clear P;obtain⟨np,nc,rfl⟩:=hns.form;obtain⟨ip,ic,rfl⟩:=hks.form;have y1:=(B1.block _ (by omega)).trans z1.out;have y2:=(B1.block _ (by omega)).trans z2.out;have y3:=(B1.block _ (by omega)).trans z3.out;have d0:=zd y1 0;have d1:=zd y1 1;have d2:=zd y2 0;have d3:=zd y3 0;have f0:=zl y1 0;have f1:=zl y1 1;have f2:=zl y2 0;have f3:=zl y3 0;replace hns:=zi hns;replace hks:=zi hks;replace y1:=zi y1;replace y2:=zi y2;replace y3:=zi y3;clear HP;have hw1:w.heap.size+3<=w1.heap.size:=by have:=B1.size;omega
  go_wp2_with fail;have q1:=zr y1.out 0 (.slice np st.nodes.length nc);have q2:=zr q1 1 (.slice ip st.items.length ic);have hB:Below w.heap.size w ((((w1.setCell ⟨w.heap.size,0,none⟩ (.slice np st.nodes.length nc)).setCell ⟨w.heap.size,1,none⟩ (.slice ip st.items.length ic)).setCell ⟨w.heap.size+1,0,none⟩ (.int .i64 0)).setCell ⟨w.heap.size+1+1,0,none⟩ (.bool true)):=((((hb4.out.trans (B1.mono (by omega))).setCell (pE _) _).setCell (pE _) _).setCell (Nat.le_succ _) _).setCell (by simp only;omega) _;have hfar:∀g,g≠w.heap.size->g≠w.heap.size+1->g≠w.heap.size+2->((((w1.setCell ⟨w.heap.size,0,none⟩ (.slice np st.nodes.length nc)).setCell ⟨w.heap.size,1,none⟩ (.slice ip st.items.length ic)).setCell ⟨w.heap.size+1,0,none⟩ (.int .i64 0)).setCell ⟨w.heap.size+1+1,0,none⟩ (.bool true)).heap[g]? =w1.heap[g]? :=fun g h0 h1 h2=>(zt h2).trans ((zt h1).trans ((zt h0).trans (zt h0)))
  have e0:w.heap.size≠w.heap.size+1:=by omega
  have e1:w.heap.size≠w.heap.size+1+1:=by omega
  have e2:w.heap.size+1≠w.heap.size+1+1:=by omega
  have r1:=(zt (w:=((w1.setCell ⟨w.heap.size,0,none⟩ (.slice np st.nodes.length nc)).setCell ⟨w.heap.size,1,none⟩ (.slice ip st.items.length ic)).setCell ⟨w.heap.size+1,0,none⟩ (.int .i64 0)) (i:=0) (v:=.bool true) e1).trans ((zt e0).trans q2);have r2:=(zt (w:=((w1.setCell ⟨w.heap.size,0,none⟩ (.slice np st.nodes.length nc)).setCell ⟨w.heap.size,1,none⟩ (.slice ip st.items.length ic)).setCell ⟨w.heap.size+1,0,none⟩ (.int .i64 0)) (i:=0) (v:=.bool true) e2).trans (zr ((zt e0.symm).trans ((zt e0.symm).trans y2.out)) 0 (.int .i64 0));have r3:=zr (w:=((w1.setCell ⟨w.heap.size,0,none⟩ (.slice np st.nodes.length nc)).setCell ⟨w.heap.size,1,none⟩ (.slice ip st.items.length ic)).setCell ⟨w.heap.size+1,0,none⟩ (.int .i64 0)) ((zt e2.symm).trans ((zt e1.symm).trans ((zt e1.symm).trans y3.out))) 0 (.bool true);refine leaves_cons (f:=68) (args:= #[.pointer (some ⟨w.heap.size,0,none⟩),.pointer (some ⟨w.heap.size+1,0,none⟩),.pointer (some ⟨w.heap.size+1+1,0,none⟩)]) (by simp) (by simp[go_sem]) ?_;refine (zc7 w.heap.size _).mono ?_;rintro e u' w'' ⟨rfl,rfl,rfl⟩;refine⟨.tuple #[.agg #[.slice np st.nodes.length nc,.slice ip st.items.length ic],.int .i64 0,.bool true],by simp[results,results33,go_sem,zd r1,zd r2,zd r3],_,_,kv,rfl,?_,?_,hB⟩
  ·obtain⟨a1,a2,p,cap,hv,a3⟩:=hns.out;refine⟨a1,fun j x u hx hu=>(a2 j x u hx hu).keep fun g cs fr hg hh=>(hfar g (uI hh y1.out (by decide)) (fun e=>hK.out u (wK hu) g hg (.inl e)) (uI hh y3.out (by decide))).trans hh,p,cap,hv,a3.imp id ?_⟩;rintro ⟨g,off,cs,fr,hp,hg,hc⟩;exact⟨g,off,cs,fr,hp,(hfar g (uI hg y1.out (by decide)) (uI hg y2.out (by decide)) (uI hg y3.out (by decide))).trans hg,hc⟩
  ·exact hks.out.keep fun g cs fr hg hh=>(hfar g (fun e=>hig g hg (by omega)) (fun e=>hig g hg (by omega)) (fun e=>hig g hg (by omega))).trans hh
 |bad p=>
  obtain⟨rfl,B1⟩:=hp;unfold Pan;have y1:=(B1.block _ (by omega)).trans z1.out;have y2:=(B1.block _ (by omega)).trans z2.out;have y3:=(B1.block _ (by omega)).trans z3.out;replace y1:=zi y1;replace y2:=zi y2;replace y3:=zi y3;clear HP;go_wp2_with fail;refine leaves_cons (f:=68) (args:= #[.pointer (some ⟨w.heap.size,0,none⟩),.pointer (some ⟨w.heap.size+1,0,none⟩),.pointer (some ⟨w.heap.size+1+1,0,none⟩)]) (by simp) (by simp[go_sem]) ?_;refine (Vx w.heap.size p _ _ _ _ w1 ⟨y1.out,y2.out,y3.out⟩).mono ?_;rintro e u' w'' ⟨rfl,rfl,hF,hB⟩;refine⟨.tuple #[.agg #[.slice none 0 0,.slice none 0 0],.int .i64 p,.bool false],by simp[results,results33,go_sem,zd hF.t,zd hF.p,zd hF.k],rfl,?_⟩;exact (hb4.out.trans (B1.mono (by omega))).trans hB
end
end Go.Proofs.YtnncmdpopgkibaaGreatDoor
