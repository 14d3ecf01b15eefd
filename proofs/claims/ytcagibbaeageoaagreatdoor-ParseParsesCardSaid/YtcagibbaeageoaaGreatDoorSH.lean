import Derived.Test.YtcagibbaeageoaaGreatDoorSE
import Derived.Test.YtcagibbaeageoaaGreatDoorSG
import Derived.Recover
set_option maxRecDepth 100000
set_option maxHeartbeats 0
set_option linter.all false
variable{b2 base g g' n pb:Nat}{row:Option Nat}{a w w':Go.World}{α β:Type}{E:Lode.zr}{s:List UInt8}{R:Lode.qi}{G G' H:Nat->Prop}{st mI:Lode.yx}{m x:Int}{o:Go.Oper}{K:Go.Act->Go.World->Prop}{X:Go.Exit->Go.Act->Go.World->Prop}{xs:List Go.Value}{u v:Go.Value}{l ys:List Int}{cs ds:Array Go.Value}{T U:Go.TypeId}{fr fr':Nat×Nat}
namespace Go.Proofs.YtcagibbaeageoaaGreatDoor
section
open Go.RowKit Lode Go.Shelf
attribute [local go_sem ↓] wp_at_zero wp_at_succ
attribute [local go_sem] Vj zmY Vi
open Go.Proofs.Tryz
structure ZN(base:Nat)(row:Option Nat)(w w':World):Prop where
 b:Below base w w'
 keep:∀(k:Nat) (cs:Array Value) (T:TypeId) (fr:Nat×Nat),some k≠row->w.heap[k]? =some (.cells cs T fr)->T≠100->T≠60->w'.heap[k]? =some (.cells cs T fr)
def ZN.refl(base:Nat)(row:Option Nat)(w:World):ZN base row w w:=⟨pG _ _,λ_ _ _ _ _ h _ _=>h⟩
theorem ZN.trans{b c:World}(h:ZN base row a b)(k:ZN base row b c):ZN base row a c:=⟨h.b.trans k.b,λn cs T fr hN hn h1 h2=>k.keep n cs T fr hN (h.keep n cs T fr hN hn h1 h2) h1 h2⟩
def Fr.cutG{b:World}(h:Fr base a b):ZN base row a b:=⟨h.b,λn cs T fr _ hn h1 h2=>h.keep n cs T fr hn h1 h2⟩
def ZN.grow(hg:w.grownBy w' row)(hb:base<=w.heap.size)(mC:∀k,row=some k->base<=k):ZN base row w w':=
 ⟨(pG base w).grown hg hb mC,λk cs T fr hN hk h1 h2=>by
  rw[hg.block k (gtA hk) hN];exact hk⟩
def zgo(base:Nat)(row:Option Nat):LodeX.Rel:=⟨ZN base row,ZN.refl base row,ZN.trans,Eq,λ_=>rfl,Eq.trans,λh=>h▸ZN.refl base row _⟩
def QY{A B:PM α}{g:α->PM β}{s:yx}:((if true=true then A else B) >>= g) E s=(A >>= g) E s:=rfl
def zbu{A B:PM α}{g:α->PM β}{s:yx}:((if false=true then A else B) >>= g) E s=(B >>= g) E s:=rfl
def XV(l:List Int):PM (List Int):=do
 let _ <-zC [125]
 pure l
def zmC(E:zr)(base pb n:Nat)(iv:Value)(G:Nat->Prop)(R:qi)(w:World)(r:qK (List Int))(v:Value)(wr:World):Prop:=∃(va:Value) (st:yx) (acc:List Int) (k:Nat),va=v/\(uj R k acc >>= XV) E st=r/\E.tz.length-st.next<k/\E.tz.length-st.next<n/\acc.length<=st.next/\qT E st/\wr.ownsRow w.heap.size 3 1 va acc.length (yl acc)/\PW E base pb iv (Gw G va) wr st/\Fr base w wr
def zi6{iv:Value}(hR:kQ E base pb iv n R)(h0:PW E base pb iv G w mI)(mN:qT E mI)(hn:E.tz.length-mI.next<n+1):Calls prog 302 #[.pointer (some ⟨pb,0,none⟩)] w (ZM E base pb iv G (E.tz.length+1) (kD R E mI) w):=by
 obtain⟨r,hr⟩:=exE (kD R E mI);rw[hr];unfold kD at hr;replace hr:=zh hr;replace mN:=zh mN;replace hR:=zh hR;have F0:=Fr.refl base w;have nK:=mN.q.lim;have pk:=mN.q.le;have rj:=h0.glt;have mH:=h0.base;have ma:=zh (λg=>h0.ivlt (g:=g));go_enter func302,ntmps302;go_wp2_with fail;go_step3;go_wp2_with fail;refine jC hr (zy h0 (by omega) [123]) F0 (Fr.refl _ _) mN (zq) ?_;clear hr;intro w1 x1 mr tH h1 f1 F1 n1 nM tF sB hr;have sB:=n1.adv;have mK:zmC E base pb n iv G R w r (.slice none 0 0) w1:=⟨_,mr,[],_,rfl,hr.q,by omega,by omega,pU _,nM.q,jT _ _ rfl,h1.gnil,F1⟩;replace mK:=zh mK;clear hr h1 F1 f1 tH;go_wp2_with fail;go_step3;go_wp2;go_loopw [2] (λv wr=>zmC E base pb n iv G R w r v wr) (λ_ wr=>E.tz.length+1-xw pb wr)
 case atStart=>exact mK.q
 case round=>
  obtain⟨va,st3,acc,k,rfl,hr,hk,bC,nu,mZ,o3,h3,F3⟩:=hrel;obtain⟨k,rfl⟩:∃m,k=m+1:=⟨k-1,by omega⟩;unfold uj at hr;have rD:=mZ.le;replace mZ:=zh mZ;replace hr:=zh hr;replace hr:=yS hr;replace hr:=zh ((yu (show YU E st3=.ok (zw E st3) st3 from rfl)).symm.trans hr.q);have HT:=zh (qL h3);generalize zw E st3=t at HT hr;obtain⟨k1,t1,a1⟩:=t;unfold uu at HT;replace o3:=zh o3;have FK:=zh (λg hg=>(o3.q.lt g hg).2);go_wp2_with fail;refine HT.q.mono ?_;rintro e w4 ⟨rfl,mQ⟩;have mQ:=zg bR mQ;have h4:=h3.below mQ;have F4:=F3.trans (Fr.of_below h3.base mQ);have rl:=mZ;have cB:=zh (zk w4 (.cells #[.int .u8 k1,.string ⟨t1.toArray⟩,.int .i64 a1] 66 (0,0)));have MX:=zh (λ(e:some w4.heap.size=va.ownBlock)=>Nat.lt_irrefl _ (pX (FK.q _ e.symm) mQ.size));clear HT;replace hr:=yS hr;go_wp2_with fail;refine Xu hr (yC (h4.below (zf _ _)) (by omega) [114,101,99,118]) F4 (Fr.of_below h4.base (zf _ _)) rl ?_;clear hr;intro w5 x5 ry bA h5 f5 F5 n5 rm dX hr;cases x5 with
  |true=>
   have Pf:=yR bA;replace hr:=zh (QY.symm.trans hr.q);replace hr:=yS hr;go_wp2_with fail;refine QX hr (hR.q.expr _ _ _ h5 rm.q (by omega)) F5 (Fr.refl _ _) rm (hR.q.good.expr) ?_;clear hr;intro w6 x6 pm tI h6 f6 F6 n6 Sh rn tG fM hr;replace hr:=yS hr;go_wp2_with fail;refine jC hr (zy h6 (by omega) [97,115]) F6 (Fr.refl _ _) rn (zq) ?_;clear hr;intro w7 x7 ta so h7 f7 F7 n7 pa af dJ hr;replace hr:=yS hr;go_wp2_with fail;refine jC hr (xK h7 (by omega) 1) F7 (Fr.refl _ _) pa (yB (by decide)) ?_;clear hr;intro w8 x8 aO su h8 f8 F8 n8 rL tX ct hr;obtain⟨k8,t8,a8⟩:=x8;simp only at hr ⊢;replace hr:=yS hr;go_wp2_with fail;refine jC hr (zy h8 (by omega) [61,62]) F8 (Fr.refl _ _) rL (zq) ?_;clear hr;intro w9 x9 bH bX h9 f9 F9 n9 rF eU NM hr;have T9:=((((f5.trans f6).trans f7).trans f8).trans f9);have fE:=T9.keep _ _ _ _ cB.q (by decide) (by decide);have o9:=zh (zP (zm (zm o3.q mQ) (zf _ _)) T9 (by decide) (by decide));have hS:∀W,ZN base va.ownBlock w9.drew W->W.cell? ⟨w4.heap.size,2,none⟩=some (.int .i64 a1):=λW hF=>zd (hF.keep _ _ _ _ MX.q fE (by decide) (by decide)) 2
   clear fE;replace hr:=yS hr;go_wp2_with fail;refine LodeX.xC (RR:=zgo base va.ownBlock) (Xp:=XP base r w) [(0,0),(1,0),(2,0),(3,0),(4,1),(5,0),(6,0),(7,2),(8,2),(9,2),(10,2),(11,2),(12,0)] ?_;refine LodeX.xt ?_;refine LodeX.callX λK hK=>?_
   go_simp;refine Jk hr (hR.q.expr _ _ _ (h9.below bR.drew) rF.q (by omega)) F9 ((Fr.of_below h9.base bR.drew)) ?_;clear hr;intro nB rG rh rJ mR nI mi hr;refine⟨nI.cutG,hK _ _ ?_⟩;clear hK K;have hS:=λW (hF:ZN base _ nB W)=>hS W (ZN.trans nI.cutG hF)
   try simp only[Act.put,yh,yf,yg]
   obtain⟨tj,gu⟩:=hR.q.good.expr rF.q.le rF.q.wf rJ;have pw:=zh (rF.q.nx tj (by decide));have dy:=pw.q.le;have eN:=tj.next;have mE:rh.nz.length<=1000000:=by have:=pw.q.few;omega
   refine LodeX.callX λK hK=>?_
   go_simp;refine⟨(Fr.of_below mR.base (zf _ _)).cutG,hK _ _ ?_⟩;clear hK K
   try simp only[Act.put,yh,yf,yg]
   replace hr:=yS hr;refine LodeX.callX λK hK=>?_
   go_simp;refine Jk hr (zE (mR.below (zf _ _)) 63 t8 0 a1 [x6,rG] _ (KS.lit _ [x6,rG]) (mR.fresh _ _) mE) mi ((Fr.of_below mR.base (zf _ _))) ?_;clear hr;intro al rr br bW mX rH ms hr;refine⟨rH.cutG,hK _ _ ?_⟩;clear hK K
   try simp only[Act.put,yh,yf,yg]
   obtain⟨ak,ed⟩:=zQ pw.q.le pw.q.wf (KH ((((Sh.later n7).later n8).later n9).later tj) (XE gu)) bW;have px:=zh (mZ.q.nx ((((((n5.trans n6).trans n7).trans n8).trans n9).trans tj).trans ak) (by decide));have NZ:=px.q.le;have Tj:=ak.next;have eE:=zP (zm o9.q bR.drew) nI (by decide) (by decide);have gZ:=zP (zm eE (zf _ _)) rH (by decide) (by decide);have AA:=ms.b.size;refine LodeX.callX λK hK=>?_
   go_simp;refine⟨(Fr.of_below mX.base (zf _ _)).cutG,hK _ _ ?_⟩;clear hK K
   try simp only[Act.put,yh,yf,yg]
   have NO:=mX.base;have Nq:=ms.b.size;refine LodeX.callX λK hK=>?_
   refine yE _ _ rfl (by rfl) (zm gZ (zf _ _)) (by rfl) (zd (zk al _) 0) rfl rfl (by omega) (by simp;omega) ?_;intro g' cap' fC mC mA mJ;obtain⟨CD,dj,cj,mh,TA,tl⟩:=xq mX gZ (by omega) (λg hg=>by have:=ma.q g hg;omega) mC mA (mJ.imp id (λh=>by simpa using h));rw[dj];refine⟨ZN.grow mA (by simp;omega) (λk hk=>by have:=((gZ).lt k hk).1;omega),hK _ _ ?_⟩;clear hK K;replace cj:=zh cj;replace tl:=zh tl;clear mC mA mJ dj
   try simp only[Act.put,yh,yf,yg]
   have mx:=tl.q w ms (pC _) mH;refine LodeX.xt ?_;refine LodeX.zF λW hW=>?_
   cases hW;clear hS;have rx:=px;replace hr:=yS hr;go_wp2_with fail;refine Xu hr (yC mh (by omega) [44]) mx (Fr.refl _ _) rx ?_;clear hr;intro cn rz bt da nN ru ng Ab bp fl hr;have cC:=zP cj.q ru (by decide) (by decide);cases rz with
   |true=>
    have Pe:=yR da;replace hr:=zh (QY.symm.trans hr.q);replace cC:=zh cC;go_wp2;go_roundw
    case rel=>exact⟨_,bt,acc ++ [rr],k,rfl,hr.q,by omega,by omega,by rw[pE,pI];omega,bp.q,cC.q,nN,ng⟩
    case measure=>
     rw[nN.xw,h3.xw];omega
   |false=>
    have EY:bt.next=br.next:=by rw[yz da]
    replace hr:=zh (show XV (acc ++ [rr]) E bt=r from hr.q);unfold XV at hr;go_wp2_with fail;refine jC hr (zy nN (by omega) [125]) ng (Fr.refl _ _) bp (zq) ?_;clear hr;intro MB Nw gr Wi rM co sJ Iz Aj Na Tl hr;have di:=zP cC co (by decide) (by decide);have gM:qK.ok (acc ++ [rr]) gr=r:=hr.q;subst gM;go_wp2;go_ret;exact⟨_,rfl,by rw[pE,pI];omega,di,rM,sJ⟩
  |false=>
   have Nh:ry.next=st3.next:=by rw[yz bA]
   replace hr:=zh (zbu.symm.trans hr.q);replace hr:=yS hr;go_wp2_with fail;refine Xu hr (yC h5 (by omega) [115,101,110,100]) F5 (Fr.refl _ _) rm ?_;clear hr;intro wc xc stc Wl hc fc Fc nc Ms EL hr;cases xc with
   |true=>
    have hac:=yR Wl;replace hr:=zh (QY.symm.trans hr.q);replace hr:=yS hr;go_wp2_with fail;refine QX hr (hR.q.expr _ _ _ hc Ms.q (by omega)) Fc (Fr.refl _ _) Ms (hR.q.good.expr) ?_;clear hr;intro w6 x6 pm tI h6 f6 F6 n6 Sh rn tG fM hr;replace hr:=yS hr;go_wp2_with fail;refine jC hr (zy h6 (by omega) [44]) F6 (Fr.refl _ _) rn (zq) ?_;clear hr;intro w7 x7 ta so h7 f7 F7 n7 pa af dJ hr;replace hr:=yS hr;go_wp2_with fail;refine QX hr (hR.q.expr _ _ _ h7 pa.q (by omega)) F7 (Fr.refl _ _) pa (hR.q.good.expr) ?_;clear hr;intro w8 x8 aO su h8 f8 F8 n8 vd8 rL tX ct hr;replace hr:=yS hr;go_wp2_with fail;refine jC hr (zy h8 (by omega) [61,62]) F8 (Fr.refl _ _) rL (zq) ?_;clear hr;intro w9 x9 bH bX h9 f9 F9 n9 rF eU NM hr;have T9:=(((((f5.trans fc).trans f6).trans f7).trans f8).trans f9);have fE:=T9.keep _ _ _ _ cB.q (by decide) (by decide);have o9:=zh (zP (zm (zm o3.q mQ) (zf _ _)) T9 (by decide) (by decide));have hS:∀W,ZN base va.ownBlock w9.drew W->W.cell? ⟨w4.heap.size,2,none⟩=some (.int .i64 a1):=λW hF=>zd (hF.keep _ _ _ _ MX.q fE (by decide) (by decide)) 2
    clear fE;replace hr:=yS hr;go_wp2_with fail;refine LodeX.xC (RR:=zgo base va.ownBlock) (Xp:=XP base r w) [(0,0),(1,0),(2,0),(3,1),(4,0),(5,0),(6,0),(7,2),(8,2),(9,2),(10,2),(11,2),(12,0)] ?_;refine LodeX.xt ?_;refine LodeX.callX λK hK=>?_
    go_simp;refine Jk hr (hR.q.expr _ _ _ (h9.below bR.drew) rF.q (by omega)) F9 ((Fr.of_below h9.base bR.drew)) ?_;clear hr;intro nB rG rh rJ mR nI mi hr;refine⟨nI.cutG,hK _ _ ?_⟩;clear hK K;have hS:=λW (hF:ZN base _ nB W)=>hS W (ZN.trans nI.cutG hF)
    try simp only[Act.put,yh,yf,yg]
    obtain⟨tj,gu⟩:=hR.q.good.expr rF.q.le rF.q.wf rJ;have pw:=zh (rF.q.nx tj (by decide));have dy:=pw.q.le;have eN:=tj.next;have mE:rh.nz.length<=1000000:=by have:=pw.q.few;omega
    refine LodeX.callX λK hK=>?_
    go_simp;refine⟨(Fr.of_below mR.base (zf _ _)).cutG,hK _ _ ?_⟩;clear hK K
    try simp only[Act.put,yh,yf,yg]
    replace hr:=yS hr;refine LodeX.callX λK hK=>?_
    go_simp;refine Jk hr (zE (mR.below (zf _ _)) 64 [] 0 a1 [x6,x8,rG] _ (KS.lit _ [x6,x8,rG]) (mR.fresh _ _) mE) mi ((Fr.of_below mR.base (zf _ _))) ?_;clear hr;intro al rr br bW mX rH ms hr;refine⟨rH.cutG,hK _ _ ?_⟩;clear hK K
    try simp only[Act.put,yh,yf,yg]
    obtain⟨ak,ed⟩:=zQ pw.q.le pw.q.wf (KH ((((Sh.later n7).later n8).later n9).later tj) (KH ((vd8.later n9).later tj) (XE gu))) bW;have px:=zh (mZ.q.nx (((((((n5.trans nc).trans n6).trans n7).trans n8).trans n9).trans tj).trans ak) (by decide));have NZ:=px.q.le;have Tj:=ak.next;have eE:=zP (zm o9.q bR.drew) nI (by decide) (by decide);have gZ:=zP (zm eE (zf _ _)) rH (by decide) (by decide);have AA:=ms.b.size;refine LodeX.callX λK hK=>?_
    go_simp;refine⟨(Fr.of_below mX.base (zf _ _)).cutG,hK _ _ ?_⟩;clear hK K
    try simp only[Act.put,yh,yf,yg]
    have NO:=mX.base;have Nq:=ms.b.size;refine LodeX.callX λK hK=>?_
    refine yE _ _ rfl (by rfl) (zm gZ (zf _ _)) (by rfl) (zd (zk al _) 0) rfl rfl (by omega) (by simp;omega) ?_;intro g' cap' fC mC mA mJ;obtain⟨CD,dj,cj,mh,TA,tl⟩:=xq mX gZ (by omega) (λg hg=>by have:=ma.q g hg;omega) mC mA (mJ.imp id (λh=>by simpa using h));rw[dj];refine⟨ZN.grow mA (by simp;omega) (λk hk=>by have:=((gZ).lt k hk).1;omega),hK _ _ ?_⟩;clear hK K;replace cj:=zh cj;replace tl:=zh tl;clear mC mA mJ dj
    try simp only[Act.put,yh,yf,yg]
    have mx:=tl.q w ms (pC _) mH;refine LodeX.xt ?_;refine LodeX.zF λW hW=>?_
    cases hW;clear hS;have rx:=px;replace hr:=yS hr;go_wp2_with fail;refine Xu hr (yC mh (by omega) [44]) mx (Fr.refl _ _) rx ?_;clear hr;intro cn rz bt da nN ru ng Ab bp fl hr;have cC:=zP cj.q ru (by decide) (by decide);cases rz with
    |true=>
     have Pe:=yR da;replace hr:=zh (QY.symm.trans hr.q);replace cC:=zh cC;go_wp2;go_roundw
     case rel=>exact⟨_,bt,acc ++ [rr],k,rfl,hr.q,by omega,by omega,by rw[pE,pI];omega,bp.q,cC.q,nN,ng⟩
     case measure=>
      rw[nN.xw,h3.xw];omega
    |false=>
     have EY:bt.next=br.next:=by rw[yz da]
     replace hr:=zh (show XV (acc ++ [rr]) E bt=r from hr.q);unfold XV at hr;go_wp2_with fail;refine jC hr (zy nN (by omega) [125]) ng (Fr.refl _ _) bp (zq) ?_;clear hr;intro MB Nw gr Wi rM co sJ Iz Aj Na Tl hr;have di:=zP cC co (by decide) (by decide);have gM:qK.ok (acc ++ [rr]) gr=r:=hr.q;subst gM;go_wp2;go_ret;exact⟨_,rfl,by rw[pE,pI];omega,di,rM,sJ⟩
   |false=>
    have Ni:stc.next=ry.next:=by rw[yz Wl]
    replace hr:=zh (zbu.symm.trans hr.q);replace hr:=yS hr;go_wp2_with fail;refine jC hr (zy hc (by omega) [101,108,115,101]) Fc (Fr.refl _ _) Ms (zq) ?_;clear hr;intro w7 x7 ta so h7 f7 F7 n7 pa af dJ hr;have dJ:=n7.adv;replace hr:=yS hr;go_wp2_with fail;refine jC hr (zy h7 (by omega) [61,62]) F7 (Fr.refl _ _) pa (zq) ?_;clear hr;intro w9 x9 bH bX h9 f9 F9 n9 rF eU NM hr;have T9:=(((f5.trans fc).trans f7).trans f9);have fE:=T9.keep _ _ _ _ cB.q (by decide) (by decide);have o9:=zh (zP (zm (zm o3.q mQ) (zf _ _)) T9 (by decide) (by decide));have hS:∀W,ZN base va.ownBlock w9.drew W->W.cell? ⟨w4.heap.size,2,none⟩=some (.int .i64 a1):=λW hF=>zd (hF.keep _ _ _ _ MX.q fE (by decide) (by decide)) 2
    clear fE;replace hr:=yS hr;go_wp2_with fail;refine LodeX.xC (RR:=zgo base va.ownBlock) (Xp:=XP base r w) [(0,0),(1,0),(2,0),(3,1),(4,0),(5,2),(6,2),(7,2),(8,2),(9,2),(10,0)] ?_;refine LodeX.xt ?_;refine LodeX.callX λK hK=>?_
    go_simp;refine Jk hr (hR.q.expr _ _ _ (h9.below bR.drew) rF.q (by omega)) F9 ((Fr.of_below h9.base bR.drew)) ?_;clear hr;intro nB rG rh rJ mR nI mi hr;refine⟨nI.cutG,hK _ _ ?_⟩;clear hK K;have hS:=λW (hF:ZN base _ nB W)=>hS W (ZN.trans nI.cutG hF)
    try simp only[Act.put,yh,yf,yg]
    obtain⟨tj,gu⟩:=hR.q.good.expr rF.q.le rF.q.wf rJ;have pw:=zh (rF.q.nx tj (by decide));have dy:=pw.q.le;have eN:=tj.next;have mE:rh.nz.length<=1000000:=by have:=pw.q.few;omega
    refine LodeX.callX λK hK=>?_
    go_simp;refine⟨(Fr.of_below mR.base (zf _ _)).cutG,hK _ _ ?_⟩;clear hK K
    try simp only[Act.put,yh,yf,yg]
    replace hr:=yS hr;refine LodeX.callX λK hK=>?_
    go_simp;refine Jk hr (zE (mR.below (zf _ _)) 65 [] 0 a1 [rG] _ (KS.lit _ [rG]) (mR.fresh _ _) mE) mi ((Fr.of_below mR.base (zf _ _))) ?_;clear hr;intro al rr br bW mX rH ms hr;refine⟨rH.cutG,hK _ _ ?_⟩;clear hK K
    try simp only[Act.put,yh,yf,yg]
    obtain⟨ak,ed⟩:=zQ pw.q.le pw.q.wf (XE gu) bW;have px:=zh (mZ.q.nx (((((n5.trans nc).trans n7).trans n9).trans tj).trans ak) (by decide));have NZ:=px.q.le;have Tj:=ak.next;have eE:=zP (zm o9.q bR.drew) nI (by decide) (by decide);have gZ:=zP (zm eE (zf _ _)) rH (by decide) (by decide);have AA:=ms.b.size;refine LodeX.callX λK hK=>?_
    go_simp;refine⟨(Fr.of_below mX.base (zf _ _)).cutG,hK _ _ ?_⟩;clear hK K
    try simp only[Act.put,yh,yf,yg]
    have NO:=mX.base;have Nq:=ms.b.size;refine LodeX.callX λK hK=>?_
    refine yE _ _ rfl (by rfl) (zm gZ (zf _ _)) (by rfl) (zd (zk al _) 0) rfl rfl (by omega) (by simp;omega) ?_;intro g' cap' fC mC mA mJ;obtain⟨CD,dj,cj,mh,TA,tl⟩:=xq mX gZ (by omega) (λg hg=>by have:=ma.q g hg;omega) mC mA (mJ.imp id (λh=>by simpa using h));rw[dj];refine⟨ZN.grow mA (by simp;omega) (λk hk=>by have:=((gZ).lt k hk).1;omega),hK _ _ ?_⟩;clear hK K;replace cj:=zh cj;replace tl:=zh tl;clear mC mA mJ dj
    try simp only[Act.put,yh,yf,yg]
    have mx:=tl.q w ms (pC _) mH;refine LodeX.xt ?_;refine LodeX.zF λW hW=>?_
    cases hW;clear hS;have rx:=px;replace hr:=zh (show XV (acc ++ [rr]) E br=r from hr.q);unfold XV at hr;go_wp2_with fail;refine jC hr (zy mh (by omega) [125]) mx (Fr.refl _ _) rx (zq) ?_;clear hr;intro MB Nw gr Wi rM co sJ Iz Aj Na Tl hr;have di:=zP cj.q co (by decide) (by decide);have gM:qK.ok (acc ++ [rr]) gr=r:=hr.q;subst gM;go_wp2;go_ret;exact⟨_,rfl,by rw[pE,pI];omega,di,rM,sJ⟩
end
section
open Go.RowKit Lode Go.Shelf
attribute [local go_sem ↓] wp_at_zero wp_at_succ
open Go.Proofs.Tryz
def PCt(E:zr)(base pb:Nat)(iv:Value)(n f:Nat)(m:yO->PM Int):Prop:=∀(t:yO) (G:Nat->Prop) (w:World) (st:yx),PW E base pb iv G w st->qT E st->E.tz.length-st.next<n->Calls prog f #[.pointer (some ⟨pb,0,none⟩),uu t] w (xZ E base pb iv G (m t E st) jL w)
def zbO:∀x∈zN,x.2.2= -1\/x.2.2=0\/x.2.2=((1:Nat):Int)\/x.2.2=((2:Nat):Int)\/x.2.2=((3:Nat):Int):=by decide
def zc2{k:Nat}(h:xB s=some (k,m)):m= -1\/m=0\/m=((1:Nat):Int)\/m=((2:Nat):Int)\/m=((3:Nat):Int):=by
 rcases zaT s with⟨j,x,_,hx,_,hw⟩|⟨_,hw⟩
 ·rw[hw] at h;have hm:=zbO x (wH hx);rw[Option.some.inj h] at hm;exact hm
 ·rw[hw] at h;cases h
def zi5{iv:Value}(hR:kQ E base pb iv n R)(t:yO){k:Nat}(hw:xB s=some (k,m))(h0:PW E base pb iv G w mI)(mN:qT E mI)(hn:E.tz.length-mI.next<n):
 Calls prog 291 #[.pointer (some ⟨pb,0,none⟩),uu t,Ve s k m] w (xZ E base pb iv G (vn R t (k,m) E mI) jL w):=by
 rcases zc2 hw with rfl|rfl|rfl|rfl|rfl
 ·exact zhH hR t s k h0 mN hn
 ·exact zhI t s k h0 mN
 ·exact Jm hR t s k 1 (by decide) (by decide) h0 mN hn
 ·exact Jm hR t s k 2 (by decide) (by decide) h0 mN hn
 ·exact Jm hR t s k 3 (by decide) (by decide) h0 mN hn
def zhy(R:qi)(t:yO):PM Int:=match xB t.text with
 |some w=>if t.kind == 5 then (do jH;vn R t w) else xL R t
 |none=>xL R t
def zkF(R:qi)(t:yO):PM Int:=do
 if <-yo [116,114,117,101] then zT 3 [] 1 t.at_ []
 else if <-yo [102,97,108,115,101] then zT 3 [] 0 t.at_ []
 else zhy R t
def zmB(R:qi)(t:yO):PM Int:=do
 if <-yo [40] then
  if <-yo [41] then zT 4 [] 0 t.at_ []
  else
   let x <-R.expr
   let _ <-zC [41]
   pure x
 else zkF R t
def zkE{iv:Value}(hE:zcS E)(hR:kQ E base pb iv n R)(hC:PCt E base pb iv (n+1) 292 (xL R)):PCn E base pb iv (n+1) 278 (Zi R):=by
 intro G w mI h0 mN hn;obtain⟨r,hr⟩:=exE (Zi R E mI);rw[hr];unfold Zi at hr;replace hr:=zh hr;replace mN:=zh mN;replace hR:=zh hR;replace hC:=zh hC;have F0:=Fr.refl base w;have nK:=mN.q.lim;have pk:=mN.q.le;have rj:=h0.glt;have mH:=h0.base;have nJ:=zh (enters_of (P:=prog) func198 (by kernel_rfl) rfl);have HT:=zh (qL h0);replace hr:=zh ((yu (show YU E mI=.ok (zw E mI) mI from rfl)).symm.trans hr.q);have mD:=zh (λ(k:Nat) (h:(zw E mI).kind=k) (hk:k≠0)=>qw (E:=E) (s:=mI) (k:=k) h hk);have nL:=zh (λh=>hE.at (s:=mI) h);generalize zw E mI=t at *;obtain⟨k1,t1,a1⟩:=t;unfold uu at HT;go_enter func278,ntmps278;go_wp2_with fail;refine HT.q.mono ?_;rintro e w1 ⟨rfl,mF⟩;have ro:Below w.heap.size w w1:=zg bR mF;have hA:=zf w1 (.cells #[.int .u8 k1,.string ⟨t1.toArray⟩,.int .i64 a1] 66 (0,0));have mT:=zk w1 (.cells #[.int .u8 k1,.string ⟨t1.toArray⟩,.int .i64 a1] 66 (0,0));have mM:=ro.trans (hA.mono ro.size);have h2:=h0.below mM;have F2:=Fr.of_below h0.base mM;have Gb:=zd mT 0;have BD:=zd mT 1;have BE:=zd mT 2;replace mT:=zh mT;replace F2:=zh F2;by_cases e3:k1=3
 ·have hk:(k1 == 3)=true:=by simp[e3]
  have hi:((k1:Int) == 3)=true:=by simp[e3]
  replace hr:=zh (show (zT 1 [] (ym t1) a1 []:PM Int) E {mI with next:=mI.next+1}=r from by
   have:=hr.q;rw[if_pos (by exact hk)] at this;exact this)
  have HN:=zh (λW=>Yl (nL.q hk) W);unfold uu at HN;replace F2:=F2.q;have pf:=mD.q 3 e3 (by decide);obtain⟨c4,f4,h3,f3⟩:=h2.skip;have hy:=pF ((mI.next:Int)+1) (by omega);have rK:=f3.keep _ _ _ _ mT.q (by decide) (by decide);have PE:=zd rK 0;have Mv:=zd rK 1;have Mw:=zd rK 2;have F3:=F2.trans f3;have mE:mI.nz.length<=1000000:=by have:=mN.q.few;omega
  have mZ:qT E {mI with next:=mI.next+1}:=⟨pf,mN.q.wf,by have:=mN.q.few;simp only;omega,mN.q.lim⟩;have hS:∀W,(xg base).rel ((w1.alloc (.cells #[.int .u8 k1,.string ⟨t1.toArray⟩,.int .i64 a1] 66 (0,0))).setCell ⟨pb,4,none⟩ (.int .i64 ((mI.next:Int)+1))).drew W->(W.cell? ⟨w1.heap.size,0,none⟩=some (.int .u8 k1)/\W.cell? ⟨w1.heap.size,1,none⟩=some (.string ⟨t1.toArray⟩)/\W.cell? ⟨w1.heap.size,2,none⟩=some (.int .i64 a1)):=λW hF=>by
   have:=hF.keep _ _ _ _ rK (by decide) (by decide);exact⟨zd this 0,zd this 1,zd this 2⟩
  clear hk e3 rK;go_wp2_with fail;generalize (w1.alloc (.cells #[.int .u8 k1,.string ⟨t1.toArray⟩,.int .i64 a1] 66 (0,0))).setCell ⟨pb,4,none⟩ (.int .i64 ((mI.next:Int)+1))=w3 at *;refine LodeX.xC (RR:=xg base) (Xp:=XP base r w) [(0,0),(1,1),(3,0),(4,1),(2,2),(5,2),(6,0)] ?_;refine LodeX.xt ?_;refine LodeX.callX λK hK=>?_
  go_simp;refine (HN.q _).mono ?_;rintro e w4 ⟨rfl,fR⟩;have h4:=(h3.below bR.drew).below fR;have f4:=Fr.of_below (h3.below bR.drew).base fR;have F4:=(F3.trans (Fr.of_below h3.base bR.drew)).trans f4;refine⟨f4,hK _ _ ?_⟩;clear hK K fR;have hS:=λW (hF:(xg base).rel w4 W)=>hS W (Fr.trans f4 hF)
  try simp only[Act.put,yh,yf,yg]
  refine LodeX.callX λK hK=>?_
  go_simp;refine zX hr (zE h4 1 [] (ym t1) a1 [] _ (KS.nil' _) xM mE) F4 ((Fr.refl _ _)) ?_;rintro w5 x5 ry bA rfl h5 f5 F5;refine⟨f5,hK _ _ ?_⟩;clear hK K
  try simp only[Act.put,yh,yf,yg]
  refine LodeX.xt ?_;refine LodeX.zF λW hW=>?_
  cases hW;clear hS;go_wp2;go_ret;exact⟨⟨_,rfl,rfl⟩,h5,F5⟩
 have i3:((k1:Int) == 3)=false:=by simp;omega
 by_cases e4:k1=4
 ·have hk:(k1 == 4)=true:=by simp[e4]
  have hi:((k1:Int) == 4)=true:=by simp[e4]
  replace hr:=zh (show (zT 2 t1 0 a1 []:PM Int) E {mI with next:=mI.next+1}=r from by
   have:=hr.q;rw[if_neg (by simp[e3]),if_pos (by exact hk)] at this;exact this)
  replace F2:=F2.q;have pf:=mD.q 4 e4 (by decide);obtain⟨c4,f4,h3,f3⟩:=h2.skip;have hy:=pF ((mI.next:Int)+1) (by omega);have rK:=f3.keep _ _ _ _ mT.q (by decide) (by decide);have PE:=zd rK 0;have Mv:=zd rK 1;have Mw:=zd rK 2;have F3:=F2.trans f3;have mE:mI.nz.length<=1000000:=by have:=mN.q.few;omega
  have mZ:qT E {mI with next:=mI.next+1}:=⟨pf,mN.q.wf,by have:=mN.q.few;simp only;omega,mN.q.lim⟩;clear hk e4 e3;go_wp2_with fail;refine zX hr (zE h3 2 t1 0 a1 [] _ (KS.nil' _) xM (by exact mE)) F3 (Fr.refl _ _) ?_;rintro w4 x4 aN az rfl h4 f4 F4;go_wp2;go_ret;exact⟨⟨_,rfl,rfl⟩,h4,F4⟩
 have i4:((k1:Int) == 4)=false:=by simp;omega
 by_cases e1:k1=1
 ·have hk:(k1 == 1)=true:=by simp[e1]
  have hi:((k1:Int) == 1)=true:=by simp[e1]
  replace hr:=zh (show (zT 5 t1 0 a1 []:PM Int) E {mI with next:=mI.next+1}=r from by
   have:=hr.q;rw[if_neg (by simp[e3]),if_neg (by simp[e4]),if_pos (by exact hk)] at this;exact this)
  replace F2:=F2.q;have pf:=mD.q 1 e1 (by decide);obtain⟨c4,f4,h3,f3⟩:=h2.skip;have hy:=pF ((mI.next:Int)+1) (by omega);have rK:=f3.keep _ _ _ _ mT.q (by decide) (by decide);have PE:=zd rK 0;have Mv:=zd rK 1;have Mw:=zd rK 2;have F3:=F2.trans f3;have mE:mI.nz.length<=1000000:=by have:=mN.q.few;omega
  have mZ:qT E {mI with next:=mI.next+1}:=⟨pf,mN.q.wf,by have:=mN.q.few;simp only;omega,mN.q.lim⟩;clear hk e1 e3 e4;go_wp2_with fail;refine zX hr (zE h3 5 t1 0 a1 [] _ (KS.nil' _) xM (by exact mE)) F3 (Fr.refl _ _) ?_;rintro w4 x4 aN az rfl h4 f4 F4;go_wp2;go_ret;exact⟨⟨_,rfl,rfl⟩,h4,F4⟩
 have i1:((k1:Int) == 1)=false:=by simp;omega
 by_cases e2:k1=2
 ·have hk:(k1 == 2)=true:=by simp[e2]
  have hi:((k1:Int) == 2)=true:=by simp[e2]
  replace hr:=zh (show (do let l <-jd R.expr;zT 25 t1 0 a1 l:PM Int) E {mI with next:=mI.next+1}=r from by
   have:=hr.q;rw[if_neg (by simp[e3]),if_neg (by simp[e4]),if_neg (by simp[e1]),if_pos (by exact hk)] at this;exact this)
  replace F2:=F2.q;have pf:=mD.q 2 e2 (by decide);obtain⟨c4,f4,h3,f3⟩:=h2.skip;have hy:=pF ((mI.next:Int)+1) (by omega);have rK:=f3.keep _ _ _ _ mT.q (by decide) (by decide);have PE:=zd rK 0;have Mv:=zd rK 1;have Mw:=zd rK 2;have F3:=F2.trans f3;have mE:mI.nz.length<=1000000:=by have:=mN.q.few;omega
  have mZ:qT E {mI with next:=mI.next+1}:=⟨pf,mN.q.wf,by have:=mN.q.few;simp only;omega,mN.q.lim⟩;have hS:∀W,(xg base).rel ((w1.alloc (.cells #[.int .u8 k1,.string ⟨t1.toArray⟩,.int .i64 a1] 66 (0,0))).setCell ⟨pb,4,none⟩ (.int .i64 ((mI.next:Int)+1))).drew W->(W.cell? ⟨w1.heap.size,0,none⟩=some (.int .u8 k1)/\W.cell? ⟨w1.heap.size,1,none⟩=some (.string ⟨t1.toArray⟩)/\W.cell? ⟨w1.heap.size,2,none⟩=some (.int .i64 a1)):=λW hF=>by
   have:=hF.keep _ _ _ _ rK (by decide) (by decide);exact⟨zd this 0,zd this 1,zd this 2⟩
  clear hk e2 rK e1 e3 e4;go_wp2_with fail;generalize (w1.alloc (.cells #[.int .u8 k1,.string ⟨t1.toArray⟩,.int .i64 a1] 66 (0,0))).setCell ⟨pb,4,none⟩ (.int .i64 ((mI.next:Int)+1))=w3 at *;replace mZ:=zh mZ;have bC:({mI with next:=mI.next+1}:yx).next=mI.next+1:=rfl;generalize ({mI with next:=mI.next+1}:yx)=st3 at *;have mU:=F3.b.size;refine LodeX.xC (RR:=xg base) (Xp:=XP base r w) [(0,0),(1,0),(2,1),(3,0),(4,1),(5,0),(6,0),(7,2),(8,2),(9,2),(10,0)] ?_;refine LodeX.xt ?_
  iterate 1 (refine LodeX.callX λK hK=>?_;go_simp;refine⟨Fr.refl _ _,hK _ _ ?_⟩;clear hK K;try simp only[Act.put,yh,yf,yg])
  refine LodeX.callX λK hK=>?_
  go_simp;refine lgo hr (Jw hR.q.expr hR.q.good.expr nJ.q (h3.below bR.drew) mZ.q (by omega)) F3 ((Fr.of_below h3.base bR.drew)) ?_;clear hr;intro w4 x4 aN v4 l4 o4 az h4 f4 F4 hr;refine⟨f4,hK _ _ ?_⟩;clear hK K;have hS:=λW (hF:(xg base).rel w4 W)=>hS W (Fr.trans f4 hF)
  try simp only[Act.put,yh,yf,yg]
  obtain⟨n4,vl4⟩:=ZV hR.q.good.expr mZ.q.le mZ.q.wf az;have rl:=zh (mZ.q.nx n4 (by decide));have fo:=rl.q.le;have WH:=rl.q.few;have eZ:(w3.drew).heap.size=w3.heap.size:=rfl;refine LodeX.callX λK hK=>?_
  go_simp;refine zX hr (zE h4.ungw 25 t1 0 a1 x4 _ (KS.own o4) (yM o4 (λg hg=>by have:=rj g hg;omega)) (by omega)) F4 ((Fr.refl _ _)) ?_;rintro w5 x5 ry bA rfl h5 f5 F5;refine⟨f5,hK _ _ ?_⟩;clear hK K
  try simp only[Act.put,yh,yf,yg]
  refine LodeX.xt ?_;refine LodeX.zF λW hW=>?_
  cases hW;clear hS;go_wp2;go_ret;exact⟨⟨_,rfl,rfl⟩,h5,F5⟩
 have i2:((k1:Int) == 2)=false:=by simp;omega
 replace hr:=zh (show zmB R ⟨k1,t1,a1⟩ E mI=r from by
  have:=hr.q;rw[if_neg (by simp[e3]),if_neg (by simp[e4]),if_neg (by simp[e1]),if_neg (by simp[e2])] at this;exact this)
 clear e1 e2 e3 e4 Gb BD BE;unfold zmB at hr;replace F2:=F2.q;have nT:=mN;go_wp2_with fail;refine Xu hr (yC h2 (by omega) [40]) F2 (Fr.refl _ _) nT ?_;clear hr;intro w3 x3 st3 rV h3 f3 F3 n3 mZ rD hr;cases x3 with
 |true=>
  have tg:=yR rV;replace hr:=zh ((if_pos (rfl:true=true)▸hr.q:_));go_wp2_with fail;refine Xu hr (yC h3 (by omega) [41]) F3 (Fr.refl _ _) mZ ?_;clear hr;intro w4 x4 aN az h4 f4 F4 n4 rl fo hr;cases x4 with
  |true=>
   replace hr:=zh ((if_pos (rfl:true=true)▸hr.q:_));have dz:=zd ((f3.trans f4).keep _ _ _ _ mT.q (by decide) (by decide)) 2;have mE:aN.nz.length<=1000000:=by have:=rl.q.few;omega
   go_wp2_with fail;refine zX hr (zE h4 4 [] 0 a1 [] _ (KS.nil' _) xM mE) F4 (Fr.refl _ _) ?_;rintro w5 x5 ry bA rfl h5 f5 F5;go_wp2;go_ret;exact⟨⟨_,rfl,rfl⟩,h5,F5⟩
  |false=>
   replace hr:=zh (show (do let x <-R.expr;let _ <-zC [41];pure x:PM Int) E aN=r from hr.q);have IP:aN.next=st3.next:=by rw[yz az]
   go_wp2_with fail;refine QX hr (hR.q.expr _ _ _ h4 rl.q (by omega)) F4 (Fr.refl _ _) rl (hR.q.good.expr) ?_;clear hr;intro w5 x5 ry bA h5 f5 F5 n5 GC rm dX Pf hr;go_wp2_with fail;refine jC hr (zy h5 (by omega) [41]) F5 (Fr.refl _ _) rm (zq) ?_;clear hr;intro w6 x6 pm tI h6 f6 F6 n6 rn tG fM hr;have bg:qK.ok x5 pm=r:=hr.q;subst bg;go_wp2;go_ret;exact⟨⟨_,rfl,rfl⟩,h6,F6⟩
 |false=>
  replace hr:=zh (show zkF R ⟨k1,t1,a1⟩ E st3=r from hr.q);have bC:st3.next=mI.next:=by rw[yz rV]
  unfold zkF at hr;go_wp2_with fail;refine Xu hr (yC h3 (by omega) [116,114,117,101]) F3 (Fr.refl _ _) mZ ?_;clear hr;intro w4 x4 aN az h4 f4 F4 n4 rl fo hr;have T4:=f3.trans f4;cases x4 with
  |true=>
   replace hr:=zh ((if_pos (rfl:true=true)▸hr.q:_));have dz:=zd (T4.keep _ _ _ _ mT.q (by decide) (by decide)) 2;have mE:aN.nz.length<=1000000:=by have:=rl.q.few;omega
   go_wp2_with fail;refine zX hr (zE h4 3 [] 1 a1 [] _ (KS.nil' _) xM mE) F4 (Fr.refl _ _) ?_;rintro w5 x5 ry bA rfl h5 f5 F5;go_wp2;go_ret;exact⟨⟨_,rfl,rfl⟩,h5,F5⟩
  |false=>
   replace hr:=zh (show (do if <-yo [102,97,108,115,101] then zT 3 [] 0 a1 [] else zhy R ⟨k1,t1,a1⟩:PM Int) E aN=r from hr.q);have IP:aN.next=st3.next:=by rw[yz az]
   go_wp2_with fail;refine Xu hr (yC h4 (by omega) [102,97,108,115,101]) F4 (Fr.refl _ _) rl ?_;clear hr;intro w5 x5 ry bA h5 f5 F5 n5 rm dX hr;have T5:=T4.trans f5;cases x5 with
   |true=>
    replace hr:=zh ((if_pos (rfl:true=true)▸hr.q:_));have dz:=zd (T5.keep _ _ _ _ mT.q (by decide) (by decide)) 2;have mE:ry.nz.length<=1000000:=by have:=rm.q.few;omega
    go_wp2_with fail;refine zX hr (zE h5 3 [] 0 a1 [] _ (KS.nil' _) xM mE) F5 (Fr.refl _ _) ?_;rintro w6 x6 pm tI rfl h6 f6 F6;go_wp2;go_ret;exact⟨⟨_,rfl,rfl⟩,h6,F6⟩
   |false=>
    replace hr:=zh (show zhy R ⟨k1,t1,a1⟩ E ry=r from hr.q);have Nh:ry.next=aN.next:=by rw[yz bA]
    have RB:k1≠0->ry.next<E.tz.length:=λh=>by have:=mD.q k1 rfl h;omega
    replace RB:=zh RB;have IF:ry.next<=mI.next:=by omega
    have Lt:mI.next<=ry.next:=by omega
    clear bC IP Nh;have tA:=T5.keep _ _ _ _ mT.q (by decide) (by decide);have c1:=zd tA 1;have HW:=zh (λW=>zeK t1 W);unfold zhy at hr;unfold zgx at HW;simp only at hr;cases hw:xB t1 with
    |none=>
     rw[hw] at hr HW;simp only at hr HW;unfold Ve at HW;clear hw;go_wp2_with fail;refine (HW.q _).mono ?_;rintro e w6 ⟨rfl,nR⟩;have h6:=h5.below nR;have F6:=F5.trans (Fr.of_below h5.base nR);have tP:=zi (zg nR (zf w6 (.cells #[.string ⟨#[]⟩,.int .u8 0,.int .i64 0] 180 (0,0)))) tA;have d0:=zd tP 0;have d1:=zd tP 1;have d2:=zd tP 2;have HC:=zh (hC.q ⟨k1,t1,a1⟩ _ _ _ (h6.below (zf w6 (.cells #[.string ⟨#[]⟩,.int .u8 0,.int .i64 0] 180 (0,0)))) rm.q (by omega));unfold uu at HC;clear tP tA;go_wp2_with fail;refine zX hr (HC.q) F6 (Fr.of_below h6.base (zf _ _)) ?_;rintro w7 x7 ta so rfl h7 f7 F7;go_wp2;go_ret;exact⟨⟨_,rfl,rfl⟩,h7,F7⟩
    |some x=>
     obtain⟨wk,wm⟩:=x;have sS:=zh (λ(G:Nat->Prop) (w:World) (st:yx) (h:PW E base pb iv G w st) (ok:qT E st) (hn:E.tz.length-st.next<n)=>zi5 hR.q ⟨k1,t1,a1⟩ hw h ok hn);rw[hw] at hr HW;simp only at hr HW;unfold Ve at HW;clear hw;go_wp2_with fail;refine (HW.q _).mono ?_;rintro e w6 ⟨rfl,nR⟩;have h6:=h5.below nR;have F6:=F5.trans (Fr.of_below h5.base nR);have tP:=zi (zg nR (zf w6 (.cells #[.string ⟨t1.toArray⟩,.int .u8 wk,.int .i64 wm] 180 (0,0)))) tA;have AQ:=zk w6 (.cells #[.string ⟨t1.toArray⟩,.int .u8 wk,.int .i64 wm] 180 (0,0));have h7:=h6.below (zf w6 (.cells #[.string ⟨t1.toArray⟩,.int .u8 wk,.int .i64 wm] 180 (0,0)));have F7:=F6.trans (Fr.of_below h6.base (zf w6 (.cells #[.string ⟨t1.toArray⟩,.int .u8 wk,.int .i64 wm] 180 (0,0))));have d0:=zd tP 0;have d1:=zd tP 1;have d2:=zd tP 2;by_cases e5:k1=5
     ·have i5:((k1:Int) == 5)=true:=by simp[e5]
      replace hr:=zh (show vn R ⟨k1,t1,a1⟩ (wk,wm) E {ry with next:=ry.next+1}=r from by
       have:=hr.q;rw[if_pos (by simp[e5])] at this;exact this)
      have EO:=RB.q (by omega);obtain⟨c4,f4,h8,f8⟩:=h7.skip;have hy:=pF ((ry.next:Int)+1) (by omega);have cy:=f8.keep _ _ _ _ tP (by decide) (by decide);have Bn:=f8.keep _ _ _ _ AQ (by decide) (by decide);have g0:=zd cy 0;have g1:=zd cy 1;have g2:=zd cy 2;have u0:=zd Bn 0;have u1:=zd Bn 1;have u2:=zd Bn 2;have F8:=F7.trans f8;have rL:qT E {ry with next:=ry.next+1}:=⟨EO,rm.q.wf,by have:=rm.q.few;simp only;omega,rm.q.lim⟩;have HC:=zh (sS.q _ _ _ h8 rL (by simp only;omega));unfold uu Ve at HC;clear cy Bn tP AQ tA e5;go_wp2_with fail;refine zX hr (HC.q) F8 (Fr.refl _ _) ?_;rintro w9 x9 bH bX rfl h9 f9 F9;go_wp2;go_ret;exact⟨⟨_,rfl,rfl⟩,h9,F9⟩
     ·have i5:((k1:Int) == 5)=false:=by simp;omega
      replace hr:=zh (show xL R ⟨k1,t1,a1⟩ E ry=r from by
       have:=hr.q;rw[if_neg (by simp[e5])] at this;exact this)
      have HC:=zh (hC.q ⟨k1,t1,a1⟩ _ _ _ h7 rm.q (by omega));unfold uu at HC;clear tP AQ tA e5;go_wp2_with fail;refine zX hr (HC.q) F7 (Fr.refl _ _) ?_;rintro w8 x8 aO su rfl h8 f8 F8;go_wp2;go_ret;exact⟨⟨_,rfl,rfl⟩,h8,F8⟩
end
section
open Go.RowKit Lode Go.Shelf
attribute [local go_sem ↓] wp_at_zero wp_at_succ
attribute [local go_sem] Vj zmY Vi
open Go.Proofs.Tryz
def jM{A B:PM α}{s:yx}:(if true=true then A else B) E s=A E s:=rfl
def qQ{A B:PM α}{s:yx}:(if false=true then A else B) E s=B E s:=rfl
def zcZ{a:Act}(s x:Operand)(ho:o.op=.call {callee:=.builtin .append,args:= #[s,x],argTypes:= #[24,24]}){cap:Nat}(hs:a.eval s=.slice (some ⟨g,0,none⟩) n cap)(mG:w.ownsRow base 3 1 (.slice (some ⟨g,0,none⟩) n cap) n xs)(hx:a.eval x=u)(hu:w.ownsRow b2 3 1 u ys.length (yl ys))(mu:ys≠[])(hn:n+ys.length<=1000000)(mH:base<=w.heap.size)(h:∀g' cap' w',w'.ownsRow base 3 1 (.slice (some ⟨g',0,none⟩) (n+ys.length) cap') (n+ys.length) (xs ++ yl ys)->w.grownBy w' (some g)->(g'=g\/g'=w.heap.size)->K (a.put o.dst (.slice (some ⟨g',0,none⟩) (n+ys.length) cap')) w'):o.wp prog a w K X:=by
 obtain⟨g2,c2,rfl,nF⟩:=zdR hu mu;have hl:(yl ys).length=ys.length:=by simp
 obtain⟨g',cap',w',hr,h2,h3,h4⟩:=za4 mG c2 nF (zef ys) (by rw[hl];exact hn) mH o.type;rw[hl] at hr h2;rw[hl] at hx;unfold Oper.wp;simp[execOp,ho,resolve,invoke,builtin,hs,hx,hr,Result.andThen];exact h g' cap' w' h2 h3 h4
def zes{iv:Value}(hE:zcS E)(hR:kQ E base pb iv n R):PCt E base pb iv (n+1) 292 (xL R):=by
 intro t G w mI h0 mN hn;obtain⟨r,hr⟩:=exE (xL R t E mI);rw[hr];unfold xL at hr;replace hr:=zh hr;replace mN:=zh mN;replace hR:=zh hR;have nK:=mN.q.lim;have pk:=mN.q.le;have rj:=h0.glt;have mH:=h0.base;have ma:=zh (λg=>h0.ivlt (g:=g));have nJ:=zh (enters_of (P:=prog) func300 (by kernel_rfl) rfl);have bS:=zh (enters_of (P:=prog) func301 (by kernel_rfl) rfl);obtain⟨k1,t1,a1⟩:=t;unfold uu;simp only at hr ⊢;have hA:=zf w (.cells #[.int .u8 k1,.string ⟨t1.toArray⟩,.int .i64 a1] 66 (0,0));have hz:=zh (zk w (.cells #[.int .u8 k1,.string ⟨t1.toArray⟩,.int .i64 a1] 66 (0,0)));have hB:=h0.below hA;have FB:=(Fr.refl base w).trans (Fr.of_below h0.base hA);have HI:=kB hB [105,102];rw[show (w.alloc (.cells #[.int .u8 k1,.string ⟨t1.toArray⟩,.int .i64 a1] 66 (0,0))).heap.size=w.heap.size+1 by simp] at HI;replace HI:=zh HI;go_enter func292,ntmps292;go_wp2_with fail;refine HI.q.mono ?_;rintro e w1 ⟨rfl,mF⟩;have mF:=zg (zf (w.alloc (.cells #[.int .u8 k1,.string ⟨t1.toArray⟩,.int .i64 a1] 66 (0,0))) (.cells #[.string ⟨[105,102].toArray⟩] 9 (0,0))) (by simpa using mF);have h1:=hB.below mF;have T1:=Fr.of_below hB.base mF;have F1:=FB.trans T1;have nM:=mN;cases hk:xO (zw E mI) [[105,102]] with
 |true=>
  replace hr:=zh ((ul hk).symm.trans hr.q);go_wp2_with fail;refine zX hr (zao hR.q _ _ _ h1 nM.q hn) F1 (Fr.refl _ _) ?_;rintro w2 x2 cD ay rfl h2 f2 F2;go_wp2;go_ret;exact⟨⟨_,rfl,rfl⟩,h2,F2⟩
 |false=>
  replace hr:=zh ((kL hk).symm.trans hr.q);clear hk;go_wp2_with fail;refine Xu hr (yC h1 (by omega) [119,104,105,108,101]) F1 (Fr.refl _ _) nM ?_;clear hr;intro wq0 GG stq0 bY gL Ct Sj nq0 gh WY hr;have So:=T1.trans Ct;cases GG with
  |true=>
   have wK:=yR bY;replace hr:=zh (jM.symm.trans hr.q);have tV:=gL;have Faa:=Sj;have Taa:=So;have nE:=gh;clear bY;go_wp2_with fail;refine QX hr (hR.q.expr _ _ _ tV nE.q (by omega)) Faa (Fr.refl _ _) nE (hR.q.good.expr) ?_;clear hr;intro wbb xbb stbb ag pn fbb Fbb nbb vdbb nQ sW wW hr;have cz:=(Taa.trans fbb).keep _ _ _ _ hz.q (by decide) (by decide);have hS:∀W,(xg base).rel wbb.drew W->W.cell? ⟨w.heap.size,2,none⟩=some (.int .i64 a1):=λW hF=>zd (hF.keep _ _ _ _ cz (by decide) (by decide)) 2
   clear cz;go_wp2_with fail;refine LodeX.xC (RR:=xg base) (Xp:=XP base r w) [(0,0),(1,0),(2,1),(3,0),(4,0),(5,2),(6,2),(7,2),(8,0)] ?_;refine LodeX.xt ?_;refine LodeX.callX λK hK=>?_
   go_simp;refine Jk hr (hR.q.block _ _ _ (pn.below bR.drew) nQ.q (by omega)) Fbb ((Fr.of_below pn.base bR.drew)) ?_;clear hr;intro wcc xcc stcc sX ra fcc Fcc hr;refine⟨fcc,hK _ _ ?_⟩;clear hK K;have hS:=λW (hF:(xg base).rel wcc W)=>hS W (Fr.trans fcc hF)
   try simp only[Act.put,yh,yf,yg]
   obtain⟨ncc,vdcc⟩:=hR.q.good.block nQ.q.le nQ.q.wf sX;have ph:=nQ.q.nx ncc (by decide);have mE:stcc.nz.length<=1000000:=by have:=ph.few;have:=ph.le;omega
   refine LodeX.callX λK hK=>?_
   go_simp;refine⟨Fr.of_below ra.base (zf _ _),hK _ _ ?_⟩;clear hK K
   try simp only[Act.put,yh,yf,yg]
   refine LodeX.callX λK hK=>?_
   go_simp;refine zX hr (zE (ra.below (zf _ _)) 30 [] 0 a1 [xbb,xcc] _ (KS.lit _ [xbb,xcc]) (ra.fresh _ _) mE) Fcc (Fr.of_below ra.base (zf _ _)) ?_;rintro wdd xdd stdd tJ rfl pi fdd Fdd;refine⟨fdd,hK _ _ ?_⟩;clear hK K
   try simp only[Act.put,yh,yf,yg]
   refine LodeX.xt ?_;refine LodeX.zF λW hW=>?_
   cases hW;clear hS;go_wp2;go_ret;exact⟨⟨_,rfl,rfl⟩,pi,Fdd⟩
  |false=>
   have mK:stq0=mI:=yz bY;replace hr:=zh (qQ.symm.trans hr.q);subst mK;clear bY;go_wp2_with fail;refine Xu hr (yC gL (by omega) [109,97,116,99,104]) Sj (Fr.refl _ _) gh ?_;clear hr;intro wq1 GH stq1 bZ cZ Cu Sk nq1 gi WZ hr;have Sq:=So.trans Cu;cases GH with
   |true=>
    have wK:=yR bZ;replace hr:=zh (jM.symm.trans hr.q);have tV:=cZ;have Faa:=Sk;have Taa:=Sq;have nE:=gi;clear bZ;go_wp2_with fail;refine QX hr (hR.q.expr _ _ _ tV nE.q (by omega)) Faa (Fr.refl _ _) nE (hR.q.good.expr) ?_;clear hr;intro wbb xbb stbb ag pn fbb Fbb nbb vdbb nQ sW wW hr;have hg:=pn.glit (.cells #[.int .i64 xbb] 3 (0,0)) 1 1;have Tbb:=(Taa.trans fbb).trans (Fr.of_below pn.base (zf wbb (.cells #[.int .i64 xbb] 3 (0,0))));have Fg:=Fbb.trans (Fr.of_below pn.base (zf wbb (.cells #[.int .i64 xbb] 3 (0,0))));have og:=QL wbb xbb rfl;have cz:=Tbb.keep _ _ _ _ hz.q (by decide) (by decide);have hwbb:w.heap.size+1<=wbb.heap.size:=by have:=(Taa.trans fbb).b.size;simp at this;omega
    have sY:=Fbb.b.size;have gQ:(wbb.alloc (.cells #[.int .i64 xbb] 3 (0,0))).heap.size=wbb.heap.size+1:=by simp
    go_wp2_with fail;have mu:some w.heap.size≠some wbb.heap.size:=λe=>by
     have:=Option.some.inj e;omega
    have hS:∀W,ZN base (some wbb.heap.size) (wbb.alloc (.cells #[.int .i64 xbb] 3 (0,0))).drew W->W.cell? ⟨w.heap.size,2,none⟩=some (.int .i64 a1):=λW hF=>zd (hF.keep _ _ _ _ mu cz (by decide) (by decide)) 2
    clear cz;generalize wbb.alloc (.cells #[.int .i64 xbb] 3 (0,0))=wg at *;refine LodeX.xC (RR:=zgo base (some wbb.heap.size)) (Xp:=XP base r w) [(0,0),(1,0),(2,1),(3,0),(4,0),(5,0),(6,2),(7,2),(8,2),(9,2),(10,0)] ?_;refine LodeX.xt ?_
    iterate 1 (refine LodeX.callX λK hK=>?_;go_simp;refine⟨ZN.refl _ _ _,hK _ _ ?_⟩;clear hK K;try simp only[Act.put,yh,yf,yg])
    refine LodeX.callX λK hK=>?_
    go_simp;refine lgo hr (Yu (zmb hR.q) (zas hR.q.good) nJ.q (hg.below bR.drew) nQ.q (by omega)) Fg ((Fr.of_below hg.base bR.drew)) ?_;clear hr;intro wcc xcc stcc vcc lcc occ sX ra fcc Fcc hr;refine⟨fcc.cutG,hK _ _ ?_⟩;clear hK K;have hS:=λW (hF:ZN base _ wcc W)=>hS W (ZN.trans fcc.cutG hF)
    try simp only[Act.put,yh,yf,yg]
    obtain⟨ncc,vlcc⟩:=kP (zas hR.q.good) nQ.q.le nQ.q.wf sX;have ph:=nQ.q.nx ncc (by decide);have aC:=ph.le;have Wo:=ziK sX;have pcc:wcc.ownsRow wbb.heap.size 3 1 (.slice (some ⟨wbb.heap.size,0,none⟩) 1 1) 1 (yl [xbb]):=zP (zm og bR.drew) fcc (by decide) (by decide);have mE:stcc.nz.length<=1000000:=by have:=ph.few;omega
    have Dm:=ra.base;have Ex:wg.heap.size<=wcc.heap.size:=fcc.b.size;refine LodeX.yH rfl rfl (λK hK W hW=>?_);cases hW;refine zcZ _ _ rfl (by rfl) pcc (by rfl) occ Wo (by omega) (by omega) ?_;intro g' cap' wdd mC mA mJ;obtain⟨vdd,edd,odd,pi,gsdd,FFdd⟩:=zbv (G:=G) (acc:=[xbb]) ra (λg hg=>.inl (.inr hg)) (λg hg=>.inl (.inl hg)) pcc (by omega) (λg hg=>by have:=ma.q g hg;omega) mC mA (mJ.imp (λh=>by rw[h];rfl) id);have edd':Value.slice (some ⟨g',0,none⟩) (1+xcc.length) cap'=vdd:=edd;rw[edd'];refine⟨ZN.grow mA Dm (λk hk=>by have:=Option.some.inj hk;omega),hK _ _ ?_⟩;clear hK K;have Fdd:=FFdd w Fcc (by omega) mH;replace odd:=zh odd;clear mC mA mJ edd edd'
    try simp only[Act.put,yh,yf,yg]
    refine LodeX.callX λK hK=>?_
    go_simp;refine zX hr (zE pi.ungw 31 [] 0 a1 ([xbb] ++ xcc) _ (KS.own odd.q) (yM odd.q (λg hg=>by have:=rj g hg;omega)) mE) Fdd ((Fr.refl _ _)) ?_;rintro wff xff stff aE rfl tW fff Fff;refine⟨fff.cutG,hK _ _ ?_⟩;clear hK K
    try simp only[Act.put,yh,yf,yg]
    refine LodeX.xt ?_;refine LodeX.zF λW hW=>?_
    cases hW;clear hS;go_wp2;go_ret;exact⟨⟨_,rfl,rfl⟩,tW,Fff⟩
   |false=>
    have mK:stq1=stq0:=yz bZ;replace hr:=zh (qQ.symm.trans hr.q);subst mK;clear bZ;go_wp2_with fail;refine Xu hr (yC cZ (by omega) [102,110]) Sk (Fr.refl _ _) gi ?_;clear hr;intro wq2 GI stq2 ba rt Cv Sl nq2 gj Wb hr;have Sr:=Sq.trans Cv;cases GI with
    |true=>
     have wK:=yR ba;replace hr:=zh (jM.symm.trans hr.q);have tV:=rt;have Faa:=Sl;have Taa:=Sr;have nE:=gj;clear ba;go_wp2_with fail;refine lgo hr (Ja hR.q tV nE.q (by omega)) Faa (Fr.refl _ _) ?_;clear hr;intro wbb xbb stbb vbb lbb obb ag pn fbb Fbb hr;obtain⟨nbb,vlbb⟩:=ua hR.q.good nE.q.le nE.q.wf ag;have nQ:=zh (nE.q.nx nbb (by decide));have sW:=nQ.q.le;have wW:=nbb.next;have FN:=Taa.b.size;simp only[World.size_alloc] at FN;have Ig:=obb.lt;have mu:some w.heap.size≠vbb.ownBlock:=λe=>by
      have:=(Ig _ e.symm).1;omega
     replace obb:=zh obb;have cz:=(Taa.trans fbb).keep _ _ _ _ hz.q (by decide) (by decide);have hS:∀W,ZN base vbb.ownBlock wbb.drew W->W.cell? ⟨w.heap.size,2,none⟩=some (.int .i64 a1):=λW hF=>zd (hF.keep _ _ _ _ mu cz (by decide) (by decide)) 2
     clear cz Ig mu;have hsa:=Faa.b.size;go_wp2_with fail;refine LodeX.xC (RR:=zgo base vbb.ownBlock) (Xp:=XP base r w) [(0,0),(1,0),(2,1),(3,0),(4,0),(5,2),(6,2),(7,2),(8,2),(9,0)] ?_;refine LodeX.xt ?_;refine LodeX.callX λK hK=>?_
     go_simp;refine Jk hr (hR.q.block _ _ _ (pn.below bR.drew) nQ.q (by omega)) Fbb ((Fr.of_below pn.base bR.drew)) ?_;clear hr;intro wcc xcc stcc sX ra fcc Fcc hr;refine⟨fcc.cutG,hK _ _ ?_⟩;clear hK K;have hS:=λW (hF:ZN base _ wcc W)=>hS W (ZN.trans fcc.cutG hF)
     try simp only[Act.put,yh,yf,yg]
     obtain⟨ncc,vdcc⟩:=hR.q.good.block nQ.q.le nQ.q.wf sX;have ph:=nQ.q.nx ncc (by decide);have aC:=ph.le;have mE:stcc.nz.length<=1000000:=by have:=ph.few;omega
     have occ:=zP (zm obb.q bR.drew) fcc (by decide) (by decide);have Ex:wbb.heap.size<=wcc.heap.size:=fcc.b.size;have sY:=fbb.b.size;refine LodeX.callX λK hK=>?_
     go_simp;refine⟨(Fr.of_below ra.base (zf _ _)).cutG,hK _ _ ?_⟩;clear hK K
     try simp only[Act.put,yh,yf,yg]
     have Ln:=ra.base;have Ie:=Fcc.b.size;refine LodeX.callX λK hK=>?_
     refine yE _ _ rfl (by rfl) (zm occ (zf _ _)) (by rfl) (zd (zk wcc _) 0) rfl rfl (by omega) (by simp;omega) ?_;intro g' cap' wdd mC mA mJ;obtain⟨vdd,edd,odd,pi,gsdd,FFdd⟩:=xq ra occ (by omega) (λg hg=>by have:=ma.q g hg;omega) mC mA (mJ.imp id (λh=>by simpa using h));rw[edd];refine⟨ZN.grow mA (by simp;omega) (λk hk=>by have:=((occ).lt k hk).1;omega),hK _ _ ?_⟩;clear hK K;replace odd:=zh odd;replace FFdd:=zh FFdd;clear mC mA mJ edd
     try simp only[Act.put,yh,yf,yg]
     have Fdd:=FFdd.q w Fcc (by omega) mH;refine LodeX.callX λK hK=>?_
     go_simp;refine zX hr (zE pi.ungw 33 [] 0 a1 (xbb ++ [xcc]) _ (KS.own odd.q) (yM odd.q (λg hg=>by have:=rj g hg;omega)) mE) Fdd ((Fr.refl _ _)) ?_;rintro wff xff stff aE rfl tW fff Fff;refine⟨fff.cutG,hK _ _ ?_⟩;clear hK K
     try simp only[Act.put,yh,yf,yg]
     refine LodeX.xt ?_;refine LodeX.zF λW hW=>?_
     cases hW;clear hS;go_wp2;go_ret;exact⟨⟨_,rfl,rfl⟩,tW,Fff⟩
    |false=>
     have mK:stq2=stq1:=yz ba;replace hr:=zh (qQ.symm.trans hr.q);subst mK;clear ba;go_wp2_with fail;refine Xu hr (yC rt (by omega) [116,114,121]) Sl (Fr.refl _ _) gj ?_;clear hr;intro wq3 GJ stq3 bc Wx Cw Sm nq3 gk Wc hr;have Ss:=Sr.trans Cw;cases GJ with
     |true=>
      have wK:=yR bc;replace hr:=zh (jM.symm.trans hr.q);have tV:=Wx;have Faa:=Sm;have Taa:=Ss;have nE:=gk;clear bc;go_wp2_with fail;refine QX hr (hR.q.block _ _ _ tV nE.q (by omega)) Faa (Fr.refl _ _) nE (hR.q.good.block) ?_;clear hr;intro wbb xbb stbb ag pn fbb Fbb nbb vdbb nQ sW wW hr;go_wp2_with fail;refine jC hr (zy pn (by omega) [99,97,116,99,104]) Fbb (Fr.refl _ _) nQ (zq) ?_;clear hr;intro wcc xcc stcc sX ra fcc Fcc ncc ph aC nu hr;go_wp2_with fail;refine jC hr (xK ra (by omega) 1) Fcc (Fr.refl _ _) ph (yB (by decide)) ?_;clear hr;intro wdd xdd stdd tJ pi fdd Fdd ndd mg sE wh hr;obtain⟨kdd,tdd,add⟩:=xdd;simp only at hr ⊢;have cz:=(((Taa.trans fbb).trans fcc).trans fdd).keep _ _ _ _ hz.q (by decide) (by decide);have hS:∀W,(xg base).rel wdd.drew W->W.cell? ⟨w.heap.size,2,none⟩=some (.int .i64 a1):=λW hF=>zd (hF.keep _ _ _ _ cz (by decide) (by decide)) 2
      clear cz;go_wp2_with fail;refine LodeX.xC (RR:=xg base) (Xp:=XP base r w) [(0,0),(1,0),(2,0),(3,1),(4,0),(5,0),(6,2),(7,2),(8,2),(9,0)] ?_;refine LodeX.xt ?_;refine LodeX.callX λK hK=>?_
      go_simp;refine Jk hr (hR.q.block _ _ _ (pi.below bR.drew) mg.q (by omega)) Fdd ((Fr.of_below pi.base bR.drew)) ?_;clear hr;intro wee xee stee re tC fee Fee hr;refine⟨fee,hK _ _ ?_⟩;clear hK K;have hS:=λW (hF:(xg base).rel wee W)=>hS W (Fr.trans fee hF)
      try simp only[Act.put,yh,yf,yg]
      obtain⟨nee,vdee⟩:=hR.q.good.block mg.q.le mg.q.wf re;have mz:=mg.q.nx nee (by decide);have mE:stee.nz.length<=1000000:=by have:=mz.few;have:=mz.le;omega
      refine LodeX.callX λK hK=>?_
      go_simp;refine⟨Fr.of_below tC.base (zf _ _),hK _ _ ?_⟩;clear hK K
      try simp only[Act.put,yh,yf,yg]
      refine LodeX.callX λK hK=>?_
      go_simp;refine zX hr (zE (tC.below (zf _ _)) 34 tdd 0 a1 [xbb,xee] _ (KS.lit _ [xbb,xee]) (tC.fresh _ _) mE) Fee (Fr.of_below tC.base (zf _ _)) ?_;rintro wff xff stff aE rfl tW fff Fff;refine⟨fff,hK _ _ ?_⟩;clear hK K
      try simp only[Act.put,yh,yf,yg]
      refine LodeX.xt ?_;refine LodeX.zF λW hW=>?_
      cases hW;clear hS;go_wp2;go_ret;exact⟨⟨_,rfl,rfl⟩,tW,Fff⟩
     |false=>
      have mK:stq3=stq2:=yz bc;replace hr:=zh (qQ.symm.trans hr.q);subst mK;clear bc;go_wp2_with fail;refine Xu hr (yC Wx (by omega) [104,111,108,100]) Sm (Fr.refl _ _) gk ?_;clear hr;intro wq4 xq4 stq4 MT IT fq4 GK OS Ak II hr;have GX:=Ss.trans fq4;cases xq4 with
      |true=>
       have wK:=yR MT;replace hr:=zh (jM.symm.trans hr.q);have tV:=IT;have Faa:=GK;have Taa:=GX;have nE:=Ak;clear MT;go_wp2_with fail;refine QX hr (hR.q.expr _ _ _ tV nE.q (by omega)) Faa (Fr.refl _ _) nE (hR.q.good.expr) ?_;clear hr;intro wbb xbb stbb ag pn fbb Fbb nbb vdbb nQ sW wW hr;go_wp2_with fail;refine jC hr (zy pn (by omega) [97,115]) Fbb (Fr.refl _ _) nQ (zq) ?_;clear hr;intro wcc xcc stcc sX ra fcc Fcc ncc ph aC nu hr;go_wp2_with fail;refine jC hr (xK ra (by omega) 1) Fcc (Fr.refl _ _) ph (yB (by decide)) ?_;clear hr;intro wdd xdd stdd tJ pi fdd Fdd ndd mg sE wh hr;obtain⟨kdd,tdd,add⟩:=xdd;simp only at hr ⊢;go_wp2_with fail;refine QX hr (hR.q.block _ _ _ pi mg.q (by omega)) Fdd (Fr.refl _ _) mg (hR.q.good.block) ?_;clear hr;intro wii xii stii RH cV fii Fii nii vdii eb Nb Tn hr;go_wp2_with fail;refine jC hr (zy cV (by omega) [101,108,115,101]) Fii (Fr.refl _ _) eb (zq) ?_;clear hr;intro wjj xjj stjj Wm SQ fjj Fjj njj Mt IG hajj hr;have cz:=(((((Taa.trans fbb).trans fcc).trans fdd).trans fii).trans fjj).keep _ _ _ _ hz.q (by decide) (by decide);have hS:∀W,(xg base).rel wjj.drew W->W.cell? ⟨w.heap.size,2,none⟩=some (.int .i64 a1):=λW hF=>zd (hF.keep _ _ _ _ cz (by decide) (by decide)) 2
       clear cz;go_wp2_with fail;refine LodeX.xC (RR:=xg base) (Xp:=XP base r w) [(0,0),(1,0),(2,0),(3,1),(4,0),(5,0),(6,0),(7,2),(8,2),(9,2),(10,0)] ?_;refine LodeX.xt ?_;refine LodeX.callX λK hK=>?_
       go_simp;refine Jk hr (hR.q.block _ _ _ (SQ.below bR.drew) Mt.q (by omega)) Fjj ((Fr.of_below SQ.base bR.drew)) ?_;clear hr;intro wee xee stee re tC fee Fee hr;refine⟨fee,hK _ _ ?_⟩;clear hK K;have hS:=λW (hF:(xg base).rel wee W)=>hS W (Fr.trans fee hF)
       try simp only[Act.put,yh,yf,yg]
       obtain⟨nee,vdee⟩:=hR.q.good.block Mt.q.le Mt.q.wf re;have mz:=Mt.q.nx nee (by decide);have mE:stee.nz.length<=1000000:=by have:=mz.few;have:=mz.le;omega
       refine LodeX.callX λK hK=>?_
       go_simp;refine⟨Fr.of_below tC.base (zf _ _),hK _ _ ?_⟩;clear hK K
       try simp only[Act.put,yh,yf,yg]
       refine LodeX.callX λK hK=>?_
       go_simp;refine zX hr (zE (tC.below (zf _ _)) 36 tdd 0 a1 [xbb,xii,xee] _ (KS.lit _ [xbb,xii,xee]) (tC.fresh _ _) mE) Fee (Fr.of_below tC.base (zf _ _)) ?_;rintro wff xff stff aE rfl tW fff Fff;refine⟨fff,hK _ _ ?_⟩;clear hK K
       try simp only[Act.put,yh,yf,yg]
       refine LodeX.xt ?_;refine LodeX.zF λW hW=>?_
       cases hW;clear hS;go_wp2;go_ret;exact⟨⟨_,rfl,rfl⟩,tW,Fff⟩
      |false=>
       have mK:stq4=stq3:=yz MT;replace hr:=zh (qQ.symm.trans hr.q);subst mK;clear MT;go_wp2_with fail;refine Xu hr (yC IT (by omega) [110,101,119]) GK (Fr.refl _ _) Ak ?_;clear hr;intro wq5 xq5 stq5 MU IU fq5 GL nq5 Al IJ hr;have GY:=GX.trans fq5;cases xq5 with
       |true=>
        have wK:=yR MU;replace hr:=zh (jM.symm.trans hr.q);have tV:=IU;have Faa:=GL;have Taa:=GY;have nE:=Al;clear MU;go_wp2_with fail;refine jC hr (xK tV (by omega) 2) Faa (Fr.refl _ _) nE (yB (by decide)) ?_;clear hr;intro wdd xdd stdd tJ pi fdd Fdd ndd mg sE wh hr;obtain⟨kdd,tdd,add⟩:=xdd;simp only at hr ⊢;have cz:=(Taa.trans fdd).keep _ _ _ _ hz.q (by decide) (by decide);have hS:∀W,(xg base).rel wdd.drew W->W.cell? ⟨w.heap.size,2,none⟩=some (.int .i64 a1):=λW hF=>zd (hF.keep _ _ _ _ cz (by decide) (by decide)) 2
        clear cz;have dg:=Fdd.b.size;have gS:(wdd.drew).heap.size=wdd.heap.size:=rfl;go_wp2_with fail;refine LodeX.xC (RR:=xg base) (Xp:=XP base r w) [(0,0),(1,0),(2,0),(3,1),(4,0),(5,0),(6,2),(7,2),(8,2),(9,0)] ?_;refine LodeX.xt ?_
        iterate 1 (refine LodeX.callX λK hK=>?_;go_simp;refine⟨Fr.refl _ _,hK _ _ ?_⟩;clear hK K;try simp only[Act.put,yh,yf,yg])
        refine LodeX.callX λK hK=>?_
        go_simp;refine lgo hr (Yu (zlt hR.q) (VC hR.q.good) bS.q (pi.below bR.drew) mg.q (by omega)) Fdd ((Fr.of_below pi.base bR.drew)) ?_;clear hr;intro wee xee stee vee lee oee re tC fee Fee hr;refine⟨fee,hK _ _ ?_⟩;clear hK K;have hS:=λW (hF:(xg base).rel wee W)=>hS W (Fr.trans fee hF)
        try simp only[Act.put,yh,yf,yg]
        obtain⟨nee,vlee⟩:=kP (VC hR.q.good) mg.q.le mg.q.wf re;have mz:=mg.q.nx nee (by decide);have mE:stee.nz.length<=1000000:=by have:=mz.few;have:=mz.le;omega
        refine LodeX.callX λK hK=>?_
        go_simp;refine zX hr (zE tC.ungw 26 tdd 0 a1 xee _ (KS.own oee) (yM oee (λg hg=>by have:=rj g hg;omega)) mE) Fee ((Fr.refl _ _)) ?_;rintro wff xff stff aE rfl tW fff Fff;refine⟨fff,hK _ _ ?_⟩;clear hK K
        try simp only[Act.put,yh,yf,yg]
        refine LodeX.xt ?_;refine LodeX.zF λW hW=>?_
        cases hW;clear hS;go_wp2;go_ret;exact⟨⟨_,rfl,rfl⟩,tW,Fff⟩
       |false=>
        have mK:stq5=stq4:=yz MU;replace hr:=zh (qQ.symm.trans hr.q);subst mK;clear MU;go_wp2_with fail;refine Xu hr (yC IU (by omega) [99,104,97,110]) GL (Fr.refl _ _) Al ?_;clear hr;intro wq6 xq6 stq6 MV sG fq6 GM nq6 Am IK hr;have GZ:=GY.trans fq6;cases xq6 with
        |true=>
         have wK:=yR MV;replace hr:=zh (jM.symm.trans hr.q);have tV:=sG;have Faa:=GM;have Taa:=GZ;have nE:=Am;clear MV;go_wp2_with fail;refine QX hr (hR.q.kind _ _ _ tV nE.q (by omega)) Faa (Fr.refl _ _) nE (hR.q.good.kind) ?_;clear hr;intro wbb xbb stbb ag pn fbb Fbb nbb vdbb nQ sW wW hr;go_wp2_with fail;refine jC hr (zy pn (by omega) [40]) Fbb (Fr.refl _ _) nQ (zq) ?_;clear hr;intro wcc xcc stcc sX ra fcc Fcc ncc ph aC nu hr;go_wp2_with fail;refine pgo hr (xK ra (by omega) 3) Fcc (Fr.refl _ _) ?_;clear hr;intro wdd xdd stdd v hv tJ pi fdd Fdd hr;obtain⟨ndd,_⟩:=yB (by decide) ph.q.le ph.q.wf tJ;have mg:=zh (ph.q.nx ndd (by decide));unfold vF uu at hv;subst hv;have sE:=mg.q.le;have wh:=ndd.next;have DS:=zdo hE tJ;have HN:=zh (λW=>Yl DS W);unfold uu at HN;unfold ZX at hr;obtain⟨kdd,tdd,add⟩:=xdd;simp only at hr;go_wp2_with fail;refine (HN.q _).mono ?_;rintro e wnn ⟨rfl,av⟩;have Bg:=pi.below av;have Fnn:=Fdd.trans (Fr.of_below pi.base av);have Fu:=mg;have Tnn:=(((Taa.trans fbb).trans fcc).trans fdd).trans (Fr.of_below pi.base av);go_wp2_with fail;refine jC hr (zy Bg (by omega) [41]) Fnn (Fr.refl _ _) Fu (zq) ?_;clear hr;intro wii xii stii RH cV fii Fii nii eb Nb Tn hr;have cz:=zd ((Tnn.trans fii).keep _ _ _ _ hz.q (by decide) (by decide)) 2;have mE:stii.nz.length<=1000000:=by have:=eb.q.few;have:=eb.q.le;omega
         go_wp2_with fail;refine zX hr (zE (cV.below (zf _ _)) 40 [] (ym tdd) a1 [xbb] _ (KS.lit _ [xbb]) (cV.fresh _ _) mE) Fii (Fr.of_below cV.base (zf _ _)) ?_;rintro wjj xjj stjj Wm rfl SQ fjj Fjj;go_wp2;go_ret;exact⟨⟨_,rfl,rfl⟩,SQ,Fjj⟩
        |false=>
         have mK:stq6=stq5:=yz MV;replace hr:=zh (qQ.symm.trans hr.q);subst mK;clear MV;go_wp2_with fail;refine jC hr (zy sG (by omega) [115,101,108,101,99,116]) GM (Fr.refl _ _) Am (zq) ?_;clear hr;intro wdd xdd stdd tJ pi fdd Fdd ndd mg sE wh hr;have wh:=ndd.adv;have cz:=(GZ.trans fdd).keep _ _ _ _ hz.q (by decide) (by decide);have hS:∀W,(xg base).rel wdd.drew W->W.cell? ⟨w.heap.size,2,none⟩=some (.int .i64 a1):=λW hF=>zd (hF.keep _ _ _ _ cz (by decide) (by decide)) 2
         clear cz;have dg:=Fdd.b.size;have gS:(wdd.drew).heap.size=wdd.heap.size:=rfl;go_wp2_with fail;refine LodeX.xC (RR:=xg base) (Xp:=XP base r w) [(0,0),(1,0),(2,1),(3,0),(4,2),(5,2),(6,0)] ?_;refine LodeX.xt ?_;refine LodeX.callX λK hK=>?_
         go_simp;refine lgo hr (zi6 hR.q (pi.below bR.drew) mg.q (by omega)) Fdd ((Fr.of_below pi.base bR.drew)) ?_;clear hr;intro wee xee stee vee lee oee re tC fee Fee hr;refine⟨fee,hK _ _ ?_⟩;clear hK K;have hS:=λW (hF:(xg base).rel wee W)=>hS W (Fr.trans fee hF)
         try simp only[Act.put,yh,yf,yg]
         obtain⟨nee,vlee⟩:=za2 hR.q.good mg.q.le mg.q.wf re;have mz:=mg.q.nx nee (by decide);have mE:stee.nz.length<=1000000:=by have:=mz.few;have:=mz.le;omega
         refine LodeX.callX λK hK=>?_
         go_simp;refine zX hr (zE tC.ungw 35 [] 0 a1 xee _ (KS.own oee) (yM oee (λg hg=>by have:=rj g hg;omega)) mE) Fee ((Fr.refl _ _)) ?_;rintro wff xff stff aE rfl tW fff Fff;refine⟨fff,hK _ _ ?_⟩;clear hK K
         try simp only[Act.put,yh,yf,yg]
         refine LodeX.xt ?_;refine LodeX.zF λW hW=>?_
         cases hW;clear hS;go_wp2;go_ret;exact⟨⟨_,rfl,rfl⟩,tW,Fff⟩
end
section
open Go.RowKit Lode Go.Shelf
attribute [local go_sem ↓] wp_at_zero wp_at_succ
open Go.Proofs.Tryz
def zkp{iv:Value}{m:PM Int}(hB:PCb E base pb iv n 0 m):PCn E base pb iv n 198 m:=by
 intro G w mI h0 mN hn;obtain⟨r,hr⟩:=exE (m E mI);rw[hr];replace hr:=zh hr;have F0:=Fr.refl base w;replace hB:=zh hB;replace mN:=zh mN;go_enter func198,ntmps198;go_wp2_with fail;refine zX hr (hB.q _ _ _ h0 mN.q hn) F0 (Fr.refl _ _) ?_;rintro w1 x1 mr tH rfl h1 f1 F1;go_wp2;go_ret;exact⟨⟨_,rfl,rfl⟩,h1,F1⟩
theorem zgP{E:zr}{base pb:Nat}{iv:Value}(hE:zcS E):∀n,kQ E base pb iv n (Yi n)/\PCb E base pb iv n 2 (Yi n).bin2
 |0=>⟨⟨zhl,λ_ _ _ _ _ h=>absurd h (wF _),λ_ _ _ _ _ h=>absurd h (wF _),λ_ _ _ _ _ h=>absurd h (wF _),λ_ _ _ _ _ h=>absurd h (wF _),λ_ _ _ _ _ h=>absurd h (wF _),λ_ _ _ _ _ h=>absurd h (wF _)⟩,λ_ _ _ _ _ h=>absurd h (wF _)⟩
 |n+1=>by
  obtain⟨hR,hB⟩:=zgP hE n;have hU:=zhK (base:=base) (pb:=pb) (iv:=iv) hR (zkE hE hR (zes hE hR));have b4:=zkz (zky hU) (YJ hR.good);have b3:=zkA b4 (KX hR.good);have b2:=zkB hR.good hB b3;have b1:=zkC b2 (Zz hR.good);have b0:=zkD b1 (Xk (Zz hR.good) 1);exact⟨⟨jm (n+1),zkp b0,hU,ziL hR,zao hR,zkd hR,zdN hE hR⟩,b2⟩
end
section
open Go.RowKit Lode Go.Shelf
attribute [local go_sem ↓] wp_at_zero wp_at_succ
attribute [local go_sem] Vj zmY Vi
open Go.Proofs.Tryz
def zkf{iv:Value}(hR:kQ E base pb iv n R):PCn E base pb iv (n+1) 128 (Zg R):=by
 intro G w mI h0 mN hn;obtain⟨r,hr⟩:=exE (Zg R E mI);rw[hr];unfold Zg at hr;replace hr:=zh hr;replace mN:=zh mN;replace hR:=zh hR;have F0:=Fr.refl base w;have nK:=mN.q.lim;have pk:=mN.q.le;have rj:=h0.glt;have mH:=h0.base;have ma:=zh (λg=>h0.ivlt (g:=g));have nJ:=zh (enters_of (P:=prog) func193 (by kernel_rfl) rfl);have bS:=zh (enters_of (P:=prog) func194 (by kernel_rfl) rfl);have HT:=zh (qL h0);replace hr:=zh ((yu (show YU E mI=.ok (zw E mI) mI from rfl)).symm.trans hr.q);generalize zw E mI=t at *;obtain⟨k1,t1,a1⟩:=t;unfold uu at HT;simp only at hr;go_enter func128,ntmps128;go_wp2_with fail;refine HT.q.mono ?_;rintro e w1 ⟨rfl,mF⟩;have ro:Below w.heap.size w w1:=zg bR mF;have h1:=h0.below ro;have hA:=zf w1 (.cells #[.int .u8 k1,.string ⟨t1.toArray⟩,.int .i64 a1] 66 (0,0));have mT:=zh (zk w1 (.cells #[.int .u8 k1,.string ⟨t1.toArray⟩,.int .i64 a1] 66 (0,0)));have F1:=F0.trans (Fr.of_below h0.base ro);have bh:=F1.b.size;have T1:=Fr.refl base (w1.alloc (.cells #[.int .u8 k1,.string ⟨t1.toArray⟩,.int .i64 a1] 66 (0,0)));have nM:=mN;go_wp2_with fail;refine Xu hr (yC (h1.below (zf _ _)) (by omega) [99,108,97,115,115]) F1 (Fr.of_below h1.base (zf _ _)) nM ?_;clear hr;intro wq0 GG stq0 bY gL Ct Sj nq0 gh WY hr;have So:=T1.trans Ct;cases GG with
 |true=>
  have wK:=yR bY;replace hr:=zh (jM.symm.trans hr.q);have tV:=gL;have Faa:=Sj;have Taa:=So;have nE:=gh;clear bY;go_wp2_with fail;refine jC hr (xK tV (by omega) 2) Faa (Fr.refl _ _) nE (yB (by decide)) ?_;clear hr;intro wdd xdd stdd tJ pi fdd Fdd ndd mg sE wh hr;obtain⟨kdd,tdd,add⟩:=xdd;simp only at hr ⊢;have cz:=(Taa.trans fdd).keep _ _ _ _ mT.q (by decide) (by decide);have hS:∀W,(xg base).rel wdd.drew W->W.cell? ⟨w1.heap.size,2,none⟩=some (.int .i64 a1):=λW hF=>zd (hF.keep _ _ _ _ cz (by decide) (by decide)) 2
  clear cz;have dg:=Fdd.b.size;have gS:(wdd.drew).heap.size=wdd.heap.size:=rfl;go_wp2_with fail;refine LodeX.xC (RR:=xg base) (Xp:=XP base r w) [(0,0),(1,0),(2,0),(3,1),(4,0),(5,0),(6,2),(7,2),(8,2),(9,0)] ?_;refine LodeX.xt ?_
  iterate 1 (refine LodeX.callX λK hK=>?_;go_simp;refine⟨Fr.refl _ _,hK _ _ ?_⟩;clear hK K;try simp only[Act.put,yh,yf,yg])
  refine LodeX.callX λK hK=>?_
  go_simp;refine lgo hr (Yu (zbg hR.q) (vj hR.q.good) nJ.q (pi.below bR.drew) mg.q (by omega)) Fdd ((Fr.of_below pi.base bR.drew)) ?_;clear hr;intro wee xee stee vee lee oee re tC fee Fee hr;refine⟨fee,hK _ _ ?_⟩;clear hK K;have hS:=λW (hF:(xg base).rel wee W)=>hS W (Fr.trans fee hF)
  try simp only[Act.put,yh,yf,yg]
  obtain⟨nee,vlee⟩:=kP (vj hR.q.good) mg.q.le mg.q.wf re;have mz:=mg.q.nx nee (by decide);have mE:stee.nz.length<=1000000:=by have:=mz.few;have:=mz.le;omega
  refine LodeX.callX λK hK=>?_
  go_simp;refine zX hr (zE tC.ungw 100 tdd 0 a1 xee _ (KS.own oee) (yM oee (λg hg=>by have:=rj g hg;omega)) mE) Fee ((Fr.refl _ _)) ?_;rintro wff xff stff aE rfl tW fff Fff;refine⟨fff,hK _ _ ?_⟩;clear hK K
  try simp only[Act.put,yh,yf,yg]
  refine LodeX.xt ?_;refine LodeX.zF λW hW=>?_
  cases hW;clear hS;go_wp2;go_ret;exact⟨⟨_,rfl,rfl⟩,tW,Fff⟩
 |false=>
  have mK:stq0=mI:=yz bY;replace hr:=zh (qQ.symm.trans hr.q);subst mK;clear bY;go_wp2_with fail;refine Xu hr (yC gL (by omega) [107,105,110,100]) Sj (Fr.refl _ _) gh ?_;clear hr;intro wq1 GH stq1 bZ cZ Cu Sk nq1 gi WZ hr;have Sq:=So.trans Cu;cases GH with
  |true=>
   have wK:=yR bZ;replace hr:=zh (jM.symm.trans hr.q);have tV:=cZ;have Faa:=Sk;have Taa:=Sq;have nE:=gi;clear bZ;go_wp2_with fail;refine jC hr (xK tV (by omega) 2) Faa (Fr.refl _ _) nE (yB (by decide)) ?_;clear hr;intro wdd xdd stdd tJ pi fdd Fdd ndd mg sE wh hr;obtain⟨kdd,tdd,add⟩:=xdd;simp only at hr ⊢;have cz:=(Taa.trans fdd).keep _ _ _ _ mT.q (by decide) (by decide);have hS:∀W,(xg base).rel wdd.drew W->W.cell? ⟨w1.heap.size,2,none⟩=some (.int .i64 a1):=λW hF=>zd (hF.keep _ _ _ _ cz (by decide) (by decide)) 2
   clear cz;have dg:=Fdd.b.size;have gS:(wdd.drew).heap.size=wdd.heap.size:=rfl;go_wp2_with fail;refine LodeX.xC (RR:=xg base) (Xp:=XP base r w) [(0,0),(1,0),(2,0),(3,1),(4,0),(5,0),(6,2),(7,2),(8,2),(9,0)] ?_;refine LodeX.xt ?_
   iterate 1 (refine LodeX.callX λK hK=>?_;go_simp;refine⟨Fr.refl _ _,hK _ _ ?_⟩;clear hK K;try simp only[Act.put,yh,yf,yg])
   refine LodeX.callX λK hK=>?_
   go_simp;refine lgo hr (Yu (zke hR.q) (QU hR.q.good) bS.q (pi.below bR.drew) mg.q (by omega)) Fdd ((Fr.of_below pi.base bR.drew)) ?_;clear hr;intro wee xee stee vee lee oee re tC fee Fee hr;refine⟨fee,hK _ _ ?_⟩;clear hK K;have hS:=λW (hF:(xg base).rel wee W)=>hS W (Fr.trans fee hF)
   try simp only[Act.put,yh,yf,yg]
   obtain⟨nee,vlee⟩:=kP (QU hR.q.good) mg.q.le mg.q.wf re;have mz:=mg.q.nx nee (by decide);have mE:stee.nz.length<=1000000:=by have:=mz.few;have:=mz.le;omega
   refine LodeX.callX λK hK=>?_
   go_simp;refine zX hr (zE tC.ungw 101 tdd 0 a1 xee _ (KS.own oee) (yM oee (λg hg=>by have:=rj g hg;omega)) mE) Fee ((Fr.refl _ _)) ?_;rintro wff xff stff aE rfl tW fff Fff;refine⟨fff,hK _ _ ?_⟩;clear hK K
   try simp only[Act.put,yh,yf,yg]
   refine LodeX.xt ?_;refine LodeX.zF λW hW=>?_
   cases hW;clear hS;go_wp2;go_ret;exact⟨⟨_,rfl,rfl⟩,tW,Fff⟩
  |false=>
   have mK:stq1=stq0:=yz bZ;replace hr:=zh (qQ.symm.trans hr.q);subst mK;clear bZ;go_wp2_with fail;refine Xu hr (yC cZ (by omega) [101,120,116,101,114,110]) Sk (Fr.refl _ _) gi ?_;clear hr;intro wq2 GI stq2 ba rt Cv Sl nq2 gj Wb hr;have Sr:=Sq.trans Cv;cases GI with
   |true=>
    have wK:=yR ba;replace hr:=zh (jM.symm.trans hr.q);have tV:=rt;have Faa:=Sl;have Taa:=Sr;have nE:=gj;clear ba;go_wp2_with fail;refine jC hr (zy tV (by omega) [102,117,110]) Faa (Fr.refl _ _) nE (zq) ?_;clear hr;intro wbb xbb stbb ag pn fbb Fbb nbb nQ sW wW hr;go_wp2_with fail;refine jC hr (xK pn (by omega) 1) Fbb (Fr.refl _ _) nQ (yB (by decide)) ?_;clear hr;intro wdd xdd stdd tJ pi fdd Fdd ndd mg sE wh hr;obtain⟨kdd,tdd,add⟩:=xdd;simp only at hr ⊢;go_wp2_with fail;refine lgo hr (Ja hR.q pi mg.q (by omega)) Fdd (Fr.refl _ _) ?_;clear hr;intro wee xee stee vee lee oee re tC fee Fee hr;obtain⟨nee,vlee⟩:=ua hR.q.good mg.q.le mg.q.wf re;have mz:=zh (mg.q.nx nee (by decide));have ft:=mz.q.le;have Ic:=Fdd.b.size;replace oee:=zh oee;go_wp2_with fail;refine jC hr (zy tC (by omega) [59]) Fee (Fr.refl _ _) mz (zq) ?_;clear hr;intro wff xff stff aE tW fff Fff nff gc WX Df hr;have off:=zh (zP oee.q fff (by decide) (by decide));have cz:=zd (((((Taa.trans fbb).trans fdd).trans fee).trans fff).keep _ _ _ _ mT.q (by decide) (by decide)) 2;have mE:stff.nz.length<=1000000:=by have:=gc.q.few;have:=gc.q.le;omega
    go_wp2_with fail;refine zX hr (zE (tW.ungw.below bR) 103 tdd 0 a1 xee _ (KS.own off.q) (yM off.q (λg hg=>by have:=rj g hg;omega)) mE) Fff (Fr.refl _ _) ?_;rintro wii xii stii RH rfl cV fii Fii;go_wp2;go_ret;exact⟨⟨_,rfl,rfl⟩,cV,Fii⟩
   |false=>
    have mK:stq2=stq1:=yz ba;replace hr:=zh (qQ.symm.trans hr.q);subst mK;clear ba;go_wp2_with fail;refine Xu hr (yC rt (by omega) [114,111,111,116]) Sl (Fr.refl _ _) gj ?_;clear hr;intro wq3 GJ stq3 bc Wx Cw Sm nq3 gk Wc hr;have Ss:=Sr.trans Cw;cases GJ with
    |true=>
     have wK:=yR bc;replace hr:=zh (jM.symm.trans hr.q);have tV:=Wx;have Faa:=Sm;have Taa:=Ss;have nE:=gk;clear bc;go_wp2_with fail;refine jC hr (xK tV (by omega) 1) Faa (Fr.refl _ _) nE (yB (by decide)) ?_;clear hr;intro wdd xdd stdd tJ pi fdd Fdd ndd mg sE wh hr;obtain⟨kdd,tdd,add⟩:=xdd;simp only at hr ⊢;go_wp2_with fail;refine jC hr (zy pi (by omega) [58]) Fdd (Fr.refl _ _) mg (zq) ?_;clear hr;intro wbb xbb stbb ag pn fbb Fbb nbb nQ sW wW hr;go_wp2_with fail;refine QX hr (hR.q.kind _ _ _ pn nQ.q (by omega)) Fbb (Fr.refl _ _) nQ (hR.q.good.kind) ?_;clear hr;intro wcc xcc stcc sX ra fcc Fcc ncc vdcc ph aC nu hr;go_wp2_with fail;refine jC hr (zy ra (by omega) [61]) Fcc (Fr.refl _ _) ph (zq) ?_;clear hr;intro wee xee stee re tC fee Fee nee mz ft Tm hr;go_wp2_with fail;refine QX hr (hR.q.expr _ _ _ tC mz.q (by omega)) Fee (Fr.refl _ _) mz (hR.q.good.expr) ?_;clear hr;intro wii xii stii RH cV fii Fii nii vdii eb Nb Tn hr;go_wp2_with fail;refine jC hr (zy cV (by omega) [59]) Fii (Fr.refl _ _) eb (zq) ?_;clear hr;intro wff xff stff aE tW fff Fff nff gc WX Df hr;have cz:=zd (((((((Taa.trans fdd).trans fbb).trans fcc).trans fee).trans fii).trans fff).keep _ _ _ _ mT.q (by decide) (by decide)) 2;have mE:stff.nz.length<=1000000:=by have:=gc.q.few;have:=gc.q.le;omega
     go_wp2_with fail;refine zX hr (zE (tW.below (zf _ _)) 104 tdd 0 a1 [xcc,xii] _ (KS.lit _ [xcc,xii]) (tW.fresh _ _) mE) Fff (Fr.of_below tW.base (zf _ _)) ?_;rintro wjj xjj stjj Wm rfl SQ fjj Fjj;go_wp2;go_ret;exact⟨⟨_,rfl,rfl⟩,SQ,Fjj⟩
    |false=>
     have mK:stq3=stq2:=yz bc;replace hr:=zh (qQ.symm.trans hr.q);subst mK;clear bc;go_wp2_with fail;refine Xu hr (yC Wx (by omega) [112,117,114,101]) Sm (Fr.refl _ _) gk ?_;clear hr;intro wqp xqp stqp MW IY fqp Fqp nqp An IL hr;have Tqp:=Ss.trans fqp;cases xqp with
     |true=>
      have wK:=yR MW;have tV:=IY;have Faa:=Fqp;have Taa:=Tqp;have nE:=An;clear MW;go_wp2_with fail;refine jC hr (zy tV (by omega) [102,117,110]) Faa (Fr.refl _ _) nE (zq) ?_;clear hr;intro wbb xbb stbb ag pn fbb Fbb nbb nQ sW wW hr;have wW:=nbb.adv;go_wp2_with fail;refine jC hr (xK pn (by omega) 1) Fbb (Fr.refl _ _) nQ (yB (by decide)) ?_;clear hr;intro wdd xdd stdd tJ pi fdd Fdd ndd mg sE wh hr;obtain⟨kdd,tdd,add⟩:=xdd;simp only at hr ⊢;go_wp2_with fail;refine lgo hr (Ja hR.q pi mg.q (by omega)) Fdd (Fr.refl _ _) ?_;clear hr;intro wee xee stee vee lee oee re tC fee Fee hr;obtain⟨nee,vlee⟩:=ua hR.q.good mg.q.le mg.q.wf re;have mz:=zh (mg.q.nx nee (by decide));have ft:=mz.q.le;have Tm:=nee.next;have Ic:=Fdd.b.size;have dg:=((Taa.trans fbb).trans fdd).b.size;simp only[World.size_alloc] at dg;have AN:=oee.lt;have mu:some w1.heap.size≠vee.ownBlock:=λe=>by
       have:=(AN _ e.symm).1;omega
      replace oee:=zh oee;have cz:=(((Taa.trans fbb).trans fdd).trans fee).keep _ _ _ _ mT.q (by decide) (by decide);have hS:∀W,ZN base vee.ownBlock wee.drew W->W.cell? ⟨w1.heap.size,2,none⟩=some (.int .i64 a1):=λW hF=>zd (hF.keep _ _ _ _ mu cz (by decide) (by decide)) 2
      clear cz AN mu;go_wp2_with fail;refine LodeX.xC (RR:=zgo base vee.ownBlock) (Xp:=XP base r w) [(0,0),(1,0),(2,0),(3,0),(4,1),(5,0),(6,0),(7,2),(8,2),(9,2),(10,2),(11,0)] ?_;refine LodeX.xt ?_;refine LodeX.callX λK hK=>?_
      go_simp;refine Jk hr (hR.q.block _ _ _ (tC.below bR.drew) mz.q (by omega)) Fee ((Fr.of_below tC.base bR.drew)) ?_;clear hr;intro wcc xcc stcc sX ra fcc Fcc hr;refine⟨fcc.cutG,hK _ _ ?_⟩;clear hK K;have hS:=λW (hF:ZN base _ wcc W)=>hS W (ZN.trans fcc.cutG hF)
      try simp only[Act.put,yh,yf,yg]
      obtain⟨ncc,vdcc⟩:=hR.q.good.block mz.q.le mz.q.wf sX;have ph:=mz.q.nx ncc (by decide);have aC:=ph.le;have mE:stcc.nz.length<=1000000:=by have:=ph.few;omega
      have occ:=zP (zm oee.q bR.drew) fcc (by decide) (by decide);have Ex:wee.heap.size<=wcc.heap.size:=fcc.b.size;have RU:=fee.b.size;refine LodeX.callX λK hK=>?_
      go_simp;refine⟨(Fr.of_below ra.base (zf _ _)).cutG,hK _ _ ?_⟩;clear hK K
      try simp only[Act.put,yh,yf,yg]
      have Tx:=ra.base;have AF:=Fcc.b.size;refine LodeX.callX λK hK=>?_
      refine yE _ _ rfl (by rfl) (zm occ (zf _ _)) (by rfl) (zd (zk wcc _) 0) rfl rfl (by omega) (by simp;omega) ?_;intro g' cap' wii mC mA mJ;obtain⟨vii,eii,oii,cV,gsii,FFii⟩:=xq ra occ (by omega) (λg hg=>by have:=ma.q g hg;omega) mC mA (mJ.imp id (λh=>by simpa using h));rw[eii];refine⟨ZN.grow mA (by simp;omega) (λk hk=>by have:=((occ).lt k hk).1;omega),hK _ _ ?_⟩;clear hK K;replace oii:=zh oii;replace FFii:=zh FFii;clear mC mA mJ eii
      try simp only[Act.put,yh,yf,yg]
      have Fii:=FFii.q w Fcc (by omega) mH;refine LodeX.callX λK hK=>?_
      go_simp;refine zX hr (zE cV.ungw 102 tdd 1 a1 (xee ++ [xcc]) _ (KS.own oii.q) (yM oii.q (λg hg=>by have:=rj g hg;omega)) mE) Fii ((Fr.refl _ _)) ?_;rintro wff xff stff aE rfl tW fff Fff;refine⟨fff.cutG,hK _ _ ?_⟩;clear hK K
      try simp only[Act.put,yh,yf,yg]
      refine LodeX.xt ?_;refine LodeX.zF λW hW=>?_
      cases hW;clear hS;go_wp2;go_ret;exact⟨⟨_,rfl,rfl⟩,tW,Fff⟩
     |false=>
      have mK:stqp=stq3:=yz MW;subst mK;have tV:=IY;have Faa:=Fqp;have Taa:=Tqp;have nE:=An;clear MW;go_wp2_with fail;refine jC hr (zy tV (by omega) [102,117,110]) Faa (Fr.refl _ _) nE (zq) ?_;clear hr;intro wbb xbb stbb ag pn fbb Fbb nbb nQ sW wW hr;have wW:=nbb.adv;go_wp2_with fail;refine jC hr (xK pn (by omega) 1) Fbb (Fr.refl _ _) nQ (yB (by decide)) ?_;clear hr;intro wdd xdd stdd tJ pi fdd Fdd ndd mg sE wh hr;obtain⟨kdd,tdd,add⟩:=xdd;simp only at hr ⊢;go_wp2_with fail;refine lgo hr (Ja hR.q pi mg.q (by omega)) Fdd (Fr.refl _ _) ?_;clear hr;intro wee xee stee vee lee oee re tC fee Fee hr;obtain⟨nee,vlee⟩:=ua hR.q.good mg.q.le mg.q.wf re;have mz:=zh (mg.q.nx nee (by decide));have ft:=mz.q.le;have Tm:=nee.next;have Ic:=Fdd.b.size;have dg:=((Taa.trans fbb).trans fdd).b.size;simp only[World.size_alloc] at dg;have AN:=oee.lt;have mu:some w1.heap.size≠vee.ownBlock:=λe=>by
       have:=(AN _ e.symm).1;omega
      replace oee:=zh oee;have cz:=(((Taa.trans fbb).trans fdd).trans fee).keep _ _ _ _ mT.q (by decide) (by decide);have hS:∀W,ZN base vee.ownBlock wee.drew W->W.cell? ⟨w1.heap.size,2,none⟩=some (.int .i64 a1):=λW hF=>zd (hF.keep _ _ _ _ mu cz (by decide) (by decide)) 2
      clear cz AN mu;go_wp2_with fail;refine LodeX.xC (RR:=zgo base vee.ownBlock) (Xp:=XP base r w) [(0,0),(1,0),(2,0),(3,0),(4,1),(5,0),(6,0),(7,2),(8,2),(9,2),(10,2),(11,0)] ?_;refine LodeX.xt ?_;refine LodeX.callX λK hK=>?_
      go_simp;refine Jk hr (hR.q.block _ _ _ (tC.below bR.drew) mz.q (by omega)) Fee ((Fr.of_below tC.base bR.drew)) ?_;clear hr;intro wcc xcc stcc sX ra fcc Fcc hr;refine⟨fcc.cutG,hK _ _ ?_⟩;clear hK K;have hS:=λW (hF:ZN base _ wcc W)=>hS W (ZN.trans fcc.cutG hF)
      try simp only[Act.put,yh,yf,yg]
      obtain⟨ncc,vdcc⟩:=hR.q.good.block mz.q.le mz.q.wf sX;have ph:=mz.q.nx ncc (by decide);have aC:=ph.le;have mE:stcc.nz.length<=1000000:=by have:=ph.few;omega
      have occ:=zP (zm oee.q bR.drew) fcc (by decide) (by decide);have Ex:wee.heap.size<=wcc.heap.size:=fcc.b.size;have RU:=fee.b.size;refine LodeX.callX λK hK=>?_
      go_simp;refine⟨(Fr.of_below ra.base (zf _ _)).cutG,hK _ _ ?_⟩;clear hK K
      try simp only[Act.put,yh,yf,yg]
      have Tx:=ra.base;have AF:=Fcc.b.size;refine LodeX.callX λK hK=>?_
      refine yE _ _ rfl (by rfl) (zm occ (zf _ _)) (by rfl) (zd (zk wcc _) 0) rfl rfl (by omega) (by simp;omega) ?_;intro g' cap' wii mC mA mJ;obtain⟨vii,eii,oii,cV,gsii,FFii⟩:=xq ra occ (by omega) (λg hg=>by have:=ma.q g hg;omega) mC mA (mJ.imp id (λh=>by simpa using h));rw[eii];refine⟨ZN.grow mA (by simp;omega) (λk hk=>by have:=((occ).lt k hk).1;omega),hK _ _ ?_⟩;clear hK K;replace oii:=zh oii;replace FFii:=zh FFii;clear mC mA mJ eii
      try simp only[Act.put,yh,yf,yg]
      have Fii:=FFii.q w Fcc (by omega) mH;refine LodeX.callX λK hK=>?_
      go_simp;refine zX hr (zE cV.ungw 102 tdd 0 a1 (xee ++ [xcc]) _ (KS.own oii.q) (yM oii.q (λg hg=>by have:=rj g hg;omega)) mE) Fii ((Fr.refl _ _)) ?_;rintro wff xff stff aE rfl tW fff Fff;refine⟨fff.cutG,hK _ _ ?_⟩;clear hK K
      try simp only[Act.put,yh,yf,yg]
      refine LodeX.xt ?_;refine LodeX.zF λW hW=>?_
      cases hW;clear hS;go_wp2;go_ret;exact⟨⟨_,rfl,rfl⟩,tW,Fff⟩
end
section
open Go.RowKit Lode Go.Shelf
attribute [local go_sem ↓] wp_at_zero wp_at_succ
open Go.Proofs.Tryz
def Qj{B:Nat}(h:w.ownsRow B 3 1 v n xs){k:Nat}(hk:w.heap[k]? =some (.cells cs T fr))(hT:T≠3):v.ownBlock≠some k:=λe=>by
 obtain⟨cs',hh⟩:=uJ h e;rw[hk] at hh;cases hh;exact hT rfl
def PW.addItem{iv:Value}(h:PW E base pb iv G w st){cap':Nat}(mC:w'.ownsRow base 3 1 (.slice (some ⟨g',0,none⟩) (st.iz.length+1) cap') (st.iz.length+1) (yl st.iz ++ [.int .i64 x]))(hg:w.grownBy w' iv.ownBlock)(mJ:iv.ownBlock=some g'\/g'=w.heap.size)(hG:∀g,iv.ownBlock=some g->G g)(LJ:∀g,G' g->G g\/g=g'):
 PW E base pb (.slice (some ⟨g',0,none⟩) (st.iz.length+1) cap') G' (w'.setCell ⟨pb,1,none⟩ (.slice (some ⟨g',0,none⟩) (st.iz.length+1) cap')) {st with iz:=st.iz ++ [x]}/\w'.cell? ⟨pb,1,none⟩=some iv/\w'.frozen? ⟨pb,1,none⟩=false/\Below base w w':=by
 have mH:=h.base;obtain⟨nv,tv,s,kv,P,hK,hL⟩:=h;have hpb:=Qj P.iz P.obj (by decide);have hB:Below base w w':=(pG base w).grown hg mH (λk hk=>(P.iz.lt k hk).1);have pg:w'.heap[pb]? =some (.cells #[nv,iv,.string s,tv,.int .i64 st.next] 100 (0,0)):=by
  rw[hg.block pb (gtA P.obj) (λe=>hpb e.symm)];exact P.obj
 have F:=zge (w:=w') P.hpb pg 1 (.slice (some ⟨g',0,none⟩) (st.iz.length+1) cap');refine⟨⟨nv,tv,s,kv,⟨P.hpb,zt pg 1 _,P.len,P.tz.fr (hB.trans F.b),?_,P.kvl,λj y u hy hu=>?_,?_⟩,λu hu g dQ e=>?_,λg e=>?_⟩,zd pg 1,zj pg 1,hB⟩
 ·have hn:w'.ownsRow base 60 5 nv st.nz.length (je st.nz kv):=by
   refine World.ownsRow.kept P.nz hg ?_;obtain⟨_,⟨MY,_⟩|⟨g,cap,cur,MY,_,hh,_⟩⟩:=P.nz
   ·exact .inl (by rw[MY];rfl)
   ·refine .inr (λe=>?_);rw[MY] at e;exact Qj P.iz hh (by decide) e.symm
  exact ownsRow_setCell_other hn (zcm (cs:=[nv,iv,.string s,tv,.int .i64 st.next]) hn pg) _
 ·have hk:=P.kz j y u hy hu;have hm:u∈kv:=wH hu;refine KS.fri (w:=w') ?_ F.i;obtain⟨p,cap,rfl,nj⟩:=id hk;refine⟨p,cap,rfl,?_⟩;rcases nj with h0|⟨g,off,cs,fr,rfl,hh,hc⟩
  ·exact .inl h0
  ·by_cases h0:y.kz=[]
   ·exact .inl h0
   ·refine .inr ⟨g,off,cs,fr,rfl,?_,hc⟩;have hb:yY (.slice (some ⟨g,off,none⟩) y.kz.length (y.kz.length+cap))=some g:=by
     cases hl:y.kz.length with
     |zero=>exact absurd (pT hl) h0
     |succ m=>rfl
    rw[hg.block g (gtA hh) (λe=>hK _ hm g hb (hG g e.symm))];exact hh
 ·have:=ownsRow_setCell_other mC (a:=⟨pb,1,none⟩) (Qj mC pg (by decide)) (.slice (some ⟨g',0,none⟩) (st.iz.length+1) cap');simp only[pE,pI,yl,List.map_append,List.map_cons,List.map_nil];exact this
 ·rcases LJ g e with h1|rfl
  ·exact hK u hu g dQ h1
  rcases mJ with h2|h2
  ·exact hK u hu _ dQ (hG _ h2)
  ·obtain⟨j,hj,rfl⟩:=List.mem_iff_getElem.1 hu;have hx:st.nz[j]? =some (st.nz[j]'(by rw[<-P.kvl];exact hj)):=glE _;obtain⟨cs,fr,hh⟩:=Yv (P.kz j _ _ hx (glE hj)) dQ;have:=(gtA hh);omega
 ·rcases LJ g e with h1|rfl
  ·have:=pX (hL g h1) hg.size;simpa using this
  have:=(mC.lt g rfl).2;simpa using this
def zov(base pb:Nat):LodeX.Rel:=⟨λa b=>Below base a b/\b.cell? ⟨pb,1,none⟩=a.cell? ⟨pb,1,none⟩,λw=>⟨pG _ w,rfl⟩,λh k=>⟨h.1.trans k.1,k.2.trans h.2⟩,Eq,λ_=>rfl,Eq.trans,λh=>h▸⟨pG _ _,rfl⟩⟩
theorem PW.iv{E:zr}{base pb:Nat}{iv:Value}{G:Nat->Prop}{w:World}{st:yx}(h:PW E base pb iv G w st):w.cell? ⟨pb,1,none⟩=some iv:=by
 obtain⟨nv,tv,s,kv,P,_,_⟩:=h;exact P.cells.2.1
def PW.tk{iv:Value}(h:PW E base pb iv G w st):∃p cap,w.cell? ⟨pb,3,none⟩=some (.slice p E.tz.length cap)/\w.cell? ⟨pb,4,none⟩=some (.int .i64 st.next):=by
 obtain⟨nv,tv,s,kv,P,_,_⟩:=h;obtain⟨p,cap,rfl,_⟩:=P.tz;exact⟨p,cap,P.cells.2.2.2.1,P.cells.2.2.2.2.1⟩
def PW.its{iv:Value}(h:PW E base pb iv G w st):w.ownsRow base 3 1 iv st.iz.length (yl st.iz):=by
 obtain⟨nv,tv,s,kv,P,_,_⟩:=h;exact P.iz
def Gi(H:Nat->Prop)(iv:Value):Nat->Prop:=λg=>H g\/iv.ownBlock=some g
def zmK(E:zr)(base pb:Nat)(H:Nat->Prop)(R:qi)(w:World)(r:qK Unit)(wr:World):Prop:=∃iv st k,vo R k E st=r/\E.tz.length-st.next<k/\st.iz.length<=st.next/\qT E st/\PW E base pb iv (Gi H iv) wr st/\Below base w wr
def znT(E:zr)(base pb:Nat)(H:Nat->Prop)(w:World)(r:qK Unit)(e:Ending)(w':World):Prop:=match r with
 | .ok _ st'=>e=.returned (.tuple #[])/\(∃iv,PW E base pb iv (Gi H iv) w' st')/\Below base w w'
 | .bad p=>e=Pan p/\Below base w w'
def zdJ(hR:∀iv,kQ E base pb iv n R)(hn:E.tz.length<n+1){iv:Value}(h0:PW E base pb iv (Gi H iv) w mI)(mN:qT E mI)(cu:mI.iz.length<=mI.next)(k0:Nat)(hk0:E.tz.length-mI.next<k0):Calls prog 81 #[.pointer (some ⟨pb,0,none⟩)] w (znT E base pb H w (vo R k0 E mI)):=by
 obtain⟨r,hr⟩:=exE (vo R k0 E mI);rw[hr];have nK:=mN.lim;have mK:zmK E base pb H R w r w:=⟨iv,mI,k0,hr,hk0,cu,mN,h0,pG _ _⟩;replace mK:=zh mK;clear hr h0 mN cu hk0;go_enter func81,ntmps81;go_wp2;go_loopw [] (λwr=>zmK E base pb H R w r wr) (λwr=>E.tz.length+1-xw pb wr)
 case atStart=>exact mK.q
 case round=>
  obtain⟨Aa,mr,k,hr,hk,cu,nM,h1,B1⟩:=hrel;obtain⟨k,rfl⟩:∃m,k=m+1:=⟨k-1,by omega⟩;unfold vo at hr;have tF:=nM.le;obtain⟨tp,tc,c3,c4⟩:=h1.tk;replace nM:=zh nM;obtain⟨m,hm⟩:=exE (E.tz.length);rw[hm] at c3;by_cases mD:mr.next<E.tz.length
  ·rw[if_pos mD] at hr;have me:(mr.next:Int)<(m:Int):=by omega
   replace hr:=zh hr;have Hm:=zh hm;clear hm;go_wp2_with fail;go_quiet (fail);go_wp2_with fail;generalize tK:World.drewN wr _=w2;have mM:Below wr.heap.size wr w2:=tK▸zO bR _;have h2:=(h1.below mM).below (pG _ w2).drew;have B2:Below base w w2.drew:=(B1.trans (mM.mono h1.base)).trans ((pG _ w2).drew.mono (h1.below mM).base);have hS:∀W,(zov base pb).rel w2.drew W->W.cell? ⟨pb,1,none⟩=some Aa:=λW h=>h.2.trans h2.iv
   have hitl:=zh h2.its;clear c3 c4 tK;refine LodeX.jp (RR:=zov base pb) (Xp:=λc W=>∃p,r=.bad p/\c=[{v:=.iface 102 (.agg #[.int .i64 p]),recovered:=false}]/\Below base w W) [(0,0),(1,0),(2,0),(3,0),(4,0),(5,1),(6,0),(7,2),(8,2),(9,2),(10,0),(11,0),(12,0),(13,3)] (by kernel_rfl) (by kernel_rfl) ?hX ?_
   case hX=>
    rintro c a W hd ⟨p,HQ,rfl,hb⟩;subst HQ;go_wp2_with fail;exact⟨hd,rfl,hb⟩
   refine LodeX.xt ?_;refine LodeX.yH rfl rfl (λK hK W hW=>?_);cases hW;go_simp;refine ((zkf (hR Aa)) _ _ _ h2 nM.q (by omega)).mono ?_;rintro e w3 hp;rcases hp.cases with⟨p,rV,he,hb⟩|⟨x3,st3,rV,v,rfl,hv,h3,f3⟩
   ·unfold Pan at he;subst he;have mO:=hr.q;rw[rV] at mO;exact⟨rfl,p,mO.symm,rfl,B2.trans hb⟩
   have mS:vo R k E {st3 with iz:=st3.iz ++ [x3]}=r:=by
    have:=hr.q;rw[rV] at this;exact this
   replace hr:=zh mS;clear mS;obtain⟨n3,Sg⟩:=QW (hR Aa).good nM.q.le nM.q.wf rV;have mZ:=nM.q.nx n3 (by decide);have rD:=mZ.le;have WP:=zh n3.it;have tg:mr.next<st3.next:=by
    have h4:=n3.cr;obtain⟨r3,h5⟩:=n3.pre;have h6:=congrArg List.length h5;rw[pE] at h6;omega
   have B3:=B2.trans f3.b;have hbs3:=h3.base;have nX:st3.iz.length<=1200:=by rw[WP.q];omega
   refine⟨⟨f3.b,h3.iv.trans h2.iv.symm⟩,hK _ _ ?_⟩;clear hK K;unfold jL at hv;subst hv
   try simp only[Act.put,yh,yf,yg]
   refine LodeX.yH rfl rfl (λK hK W hW=>?_);cases hW;go_simp;refine⟨⟨(zf _ _).mono h3.base,(zl (zf _ _) h3.iv).trans h3.iv.symm⟩,hK _ _ ?_⟩;clear hK K
   try simp only[Act.put,yh,yf,yg]
   refine LodeX.yH rfl rfl (λK hK W hW=>?_);cases hW;refine yE _ _ rfl (by rfl) (zm h3.its (zf _ _)) (by rfl) (zd (zk w3 _) 0) rfl rfl (by omega) (by simp;omega) ?_;intro g' cap' w4 mC mA mJ;obtain⟨h4,c4,f4,B4⟩:=(h3.below (zf _ _)).addItem (G':=Gi H (.slice (some ⟨g',0,none⟩) (st3.iz.length+1) cap')) mC mA mJ (λg hg=>.inr hg) (λg hg=>hg.elim (λh=>.inl (.inl h)) (λh=>.inr (Option.some.inj h).symm));refine⟨⟨B4,c4.trans (zl (zf _ _) h3.iv).symm⟩,hK _ _ ?_⟩;clear hK K hS;replace B4:=zh ((B3.trans ((zf _ _).mono h3.base)).trans B4);replace h4:=zh h4;clear mC mA mJ
   try simp only[Act.put,yh,yf,yg]
   refine LodeX.xt ?_;refine LodeX.yG rfl rfl (λW hW=>?_);cases hW;go_simp;refine LodeX.yL ?_;go_wp2_with fail;have h5:=h4.q;go_roundw
   case rel=>exact⟨_,_,k,hr.q,by simp only;omega,by simp only[pE,pI];rw[WP.q];omega,⟨mZ.le,mZ.wf,mZ.few,mZ.lim⟩,h5,B4.q.setCell (by obtain⟨_,_,_,_,P,_⟩:=h3;exact P.hpb) _⟩
   case measure=>
    rw[h5.xw,h1.xw];simp only;omega
  ·rw[if_neg mD] at hr;have me:¬((mr.next:Int)<(m:Int)):=by omega
   subst hr;clear hm;go_wp2_with fail;go_quiet (fail);go_wp2_with fail;go_end0;exact⟨rfl,⟨Aa,h1.below (zO bR _)⟩,B1.trans ((zO bR _).mono h1.base)⟩
def zkM(N K:Nat):LodeX.Rel:=⟨λa b=>Below N a b/\b.heap[K]? =a.heap[K]?,λw=>⟨pG _ w,rfl⟩,λh k=>⟨h.1.trans k.1,k.2.trans h.2⟩,Eq,λ_=>rfl,Eq.trans,λh=>h▸⟨pG _ _,rfl⟩⟩
structure FsB(w:World)(N:Nat)(a b:Value)(p:Int)(k:Bool):Prop where
 t:w.heap[N]? =some (.cells #[a,b] 26 (0,0))
 p:w.heap[N+1]? =some (.cells #[.int .i64 p] 3 (0,0))
 k:w.heap[N+2]? =some (.cells #[.bool k] 4 (0,0))
def zeo(N:Nat)(w:World):CallsD prog 80 #[.pointer (some ⟨N,0,none⟩),.pointer (some ⟨N+1,0,none⟩),.pointer (some ⟨N+2,0,none⟩)] .returning w λe u' w'=>e=.returned (.tuple #[])/\u'=.returning/\w'=w:=by
 refine callsD_of_wpS func80 rfl λc₀ cs hu=>?_
 apply wpS_seq;apply wpS_region;simp[wpOpsS,go_sem,recoverD,hu,ntmps80,Exit.thenS];refine wpS_of_wp ?_;go_wp2_with fail;refine⟨rfl,.returning,?_,.tuple #[],results_none rfl _ _ _,rfl,rfl,rfl⟩;cases c₀
 simp_all
def zaN(N:Nat)(p p0:Int)(a0 b0:Value)(kb:Bool)(w:World)(h:FsB w N a0 b0 p0 kb):CallsD prog 80 #[.pointer (some ⟨N,0,none⟩),.pointer (some ⟨N+1,0,none⟩),.pointer (some ⟨N+2,0,none⟩)] (.panicking [{v:=.iface 102 (.agg #[.int .i64 p]),recovered:=false}]) w λe u' w'=>e=.returned (.tuple #[])/\u'=.panicking [{v:=.iface 102 (.agg #[.int .i64 p]),recovered:=true}]/\FsB w' N (.slice none 0 0) (.slice none 0 0) p false/\Below N w w':=by
 refine callsD_of_wpS func80 rfl λc₀ cs hu=>?_
 apply wpS_seq;apply wpS_region;simp[wpOpsS,go_sem,recoverD,hu,ntmps80,Exit.thenS];refine wpS_of_wp ?_;have eS:N<w.heap.size:=(gtA h.t);have eT:N+1<w.heap.size:=(gtA h.p);have pq:N+2<w.heap.size:=(gtA h.k);have hb:=(zf w (.cells #[.int .i64 p] 102 (0,0))).drew;have hz:=zi bR.drew (zk w (.cells #[.int .i64 p] 102 (0,0)));have hS:∀W,(zkM N w.heap.size).rel (w.alloc (.cells #[.int .i64 p] 102 (0,0))).drew W->W.cell? ⟨w.heap.size,0,none⟩=some (.int .i64 p):=λW hC=>zd (hC.2.trans hz) 0
 have H:=zh h;clear h hz;have hta:∀W,(Instr.typeAssert (.iface 102 (.agg #[.int .i64 p])) 20 102 true).run prog W=.ok (.tuple #[.agg #[.int .i64 p],.bool true]) W:=λW=>by kernel_rfl
 simp only[Array.replicate_succ,Array.replicate_zero,List.push_toArray,List.append_toArray,pV,pQ,yh,yf,yg];go_wp2_with fail;refine LodeX.xC (RR:=zkM N w.heap.size) (Xp:=λ_ _=>False) [(0,0),(1,0),(2,1),(3,2),(4,2),(5,2)] ?_;refine LodeX.xt ?_;have e0:=zi hb H.q.t;have e1:=zi hb H.q.p;have e2:=zi hb H.q.k;generalize (w.alloc (.cells #[.int .i64 p] 102 (0,0))).drew=w1 at *;refine LodeX.yH rfl rfl (λK hK W hW=>?_);cases hW;have d0:=zd e0 0;have d1:=zd e0 1;have f0:=zj e0 0;have f1:=zj e0 1;have H0:=zh e0;go_simp;have k0:w.heap.size≠N:=by omega
 have z1:=zt e0 0 (.slice none 0 0);have z2:=zt z1 1 (.slice none 0 0);refine⟨⟨((pG N w1).setCell (pC _) _).setCell (pC _) _,(zv k0).trans (zv k0)⟩,hK _ _ ?_⟩;clear hK K hS;have g1:((w1.setCell ⟨N,0,none⟩ (.slice none 0 0)).setCell ⟨N,1,none⟩ (.slice none 0 0)).heap[N+1]? =some (.cells #[.int .i64 p0] 3 (0,0)):=((zv (by omega)).trans (zv (by omega))).trans e1;have g2:((w1.setCell ⟨N,0,none⟩ (.slice none 0 0)).setCell ⟨N,1,none⟩ (.slice none 0 0)).heap[N+2]? =some (.cells #[.bool kb] 4 (0,0)):=((zv (by omega)).trans (zv (by omega))).trans e2;have B1:Below N w1 ((w1.setCell ⟨N,0,none⟩ (.slice none 0 0)).setCell ⟨N,1,none⟩ (.slice none 0 0)):=((pG N w1).setCell (pC _) _).setCell (pC _) _;replace z2:=zh z2;clear e0 e1 e2 d0 d1 f0 f1 H0 z1;generalize (w1.setCell ⟨N,0,none⟩ (.slice none 0 0)).setCell ⟨N,1,none⟩ (.slice none 0 0)=w2 at *
 try simp only[Act.put,yh,yf,yg]
 refine LodeX.yH rfl rfl (λK hK W hW=>?_);cases hW;have d0:=zd g1 0;have f0:=zj g1 0;have H1:=zh g1;go_simp;refine⟨⟨(pG N w2).setCell (Nat.le_succ _) _,zv (by omega)⟩,hK _ _ ?_⟩;clear hK K;have t2:(w2.setCell ⟨N+1,0,none⟩ (.int .i64 p)).heap[N]? =_:=(zv (by omega)).trans z2.q;have g3:(w2.setCell ⟨N+1,0,none⟩ (.int .i64 p)).heap[N+2]? =_:=(zv (by omega)).trans g2;have p2:=zt g1 0 (.int .i64 p);have B2:Below N w1 (w2.setCell ⟨N+1,0,none⟩ (.int .i64 p)):=B1.setCell (Nat.le_succ _) _;replace t2:=zh t2;replace p2:=zh p2;clear g1 g2 d0 f0 H1 z2 B1;generalize w2.setCell ⟨N+1,0,none⟩ (.int .i64 p)=w3 at *
 try simp only[Act.put,yh,yf,yg]
 refine LodeX.yH rfl rfl (λK hK W hW=>?_);cases hW;have d0:=zd g3 0;have f0:=zj g3 0;have H1:=zh g3;go_simp;refine⟨⟨(pG N w3).setCell (by simp only;omega) _,zv (by omega)⟩,hK _ _ ?_⟩;clear hK K
 try simp only[Act.put,yh,yf,yg]
 refine LodeX.zF λW hW=>?_
 cases hW;go_wp2_with fail;refine⟨rfl,.panicking [{v:=.iface 102 (.agg #[.int .i64 p]),recovered:=true}],?_,.tuple #[],results_none rfl _ _ _,rfl,rfl,⟨(zv (by omega)).trans t2.q,(zv (by omega)).trans p2.q,zt H1.q 0 _⟩,((hb.mono (by omega)).trans B2).setCell (by simp only;omega) _⟩;cases c₀
 simp_all
def TK.mono{b b':Nat}{l:List yO}(h:TK b w v l)(hb:b<=b'):TK b' w v l:=by
 obtain⟨p,cap,hv,h⟩:=h;exact⟨p,cap,hv,h.imp id λ⟨g,cs,fr,h1,r⟩=>⟨g,cs,fr,pX h1 hb,r⟩⟩
def KS.keep(h:KS w v l)(hk:∀g cs fr,yY v=some g->w.heap[g]? =some (.cells cs 3 fr)->w'.heap[g]? =some (.cells cs 3 fr)):KS w' v l:=by
 obtain⟨p,cap,rfl,h⟩:=h;refine⟨p,cap,rfl,?_⟩;rcases h with h0|⟨g,off,cs,fr,rfl,hh,hc⟩
 ·exact .inl h0
 ·by_cases h0:l=[]
  ·exact .inl h0
  ·refine .inr ⟨g,off,cs,fr,rfl,hk g cs fr ?_ hh,hc⟩;cases hl:l.length with
   |zero=>exact absurd (pT hl) h0
   |succ m=>rfl
def vZ{k:Nat}(h:w.heap[g]? =some (.cells cs T fr))(h':w.heap[k]? =some (.cells ds U fr'))(hT:T≠U):g≠k:=λe=>by
 subst e;rw[h] at h';cases h';exact hT rfl
def znV(r:qK Unit)(w:World)(e:Ending)(w':World):Prop:=match r with
 | .ok _ st=>∃nv iv kv,e=.returned (.tuple #[.agg #[nv,iv],.int .i64 0,.bool true])/\NS w' nv st.nz kv/\KS w' iv st.iz/\Below w.heap.size w w'
 | .bad p=>e=.returned (.tuple #[.agg #[.slice none 0 0,.slice none 0 0],.int .i64 p,.bool false])/\Below w.heap.size w w'
def zfF(s:ByteArray)(toks:List yO)(tv:Value)(w:World)(tN:TK w.heap.size w tv toks)(hE:zcS ⟨toks,s.size⟩)(nK:toks.length<=1200):Calls prog 40 #[.string s,tv] w (znV (qh toks s.size) w):=by
 have MS:∀(fn:Fn) (first cap:Array Value) (w:World),(Instr.makeFunc fn first cap).run prog w=.ok (.func fn first cap) w:=λ_ _ _ _=>rfl
 obtain⟨r,hr⟩:=exE (qh toks s.size);rw[hr];unfold qh at hr;replace hr:=zh hr;obtain⟨E,TI⟩:∃E:zr,⟨toks,s.size⟩=E:=⟨_,rfl⟩;have BK:E.tz=toks:=by rw[<-TI]
 have hEl:s.size=E.len:=by rw[<-TI]
 obtain⟨tp,tc,rfl,_⟩:=id tN
 let o1:Obj:=.cells #[.slice none 0 0,.slice none 0 0] 26 (0,0)
 let o2:Obj:=.cells #[.int .i64 0] 3 (0,0)
 let o3:Obj:=.cells #[.bool false] 4 (0,0)
 let o4:Obj:=.cells #[.slice none 0 0,.slice none 0 0,.string s,.slice tp toks.length tc,.int .i64 0] 100 (0,0)
 have mQ:Below w.heap.size w ((((w.alloc o1).alloc o2).alloc o3).alloc o4):=yw [o1,o2,o3,o4] w;have z1:((((w.alloc o1).alloc o2).alloc o3).alloc o4).heap[w.heap.size]? =some o1:=zV [o1,o2,o3,o4] w 0 o1 rfl;have z2:((((w.alloc o1).alloc o2).alloc o3).alloc o4).heap[w.heap.size+1]? =some o2:=zV [o1,o2,o3,o4] w 1 o2 rfl;have z3:((((w.alloc o1).alloc o2).alloc o3).alloc o4).heap[w.heap.size+2]? =some o3:=zV [o1,o2,o3,o4] w 2 o3 rfl;have z4:((((w.alloc o1).alloc o2).alloc o3).alloc o4).heap[w.heap.size+3]? =some o4:=zV [o1,o2,o3,o4] w 3 o4 rfl;have hP:PW E (w.heap.size+3) (w.heap.size+3) (.slice none 0 0) (Gi (λg=>g=w.heap.size+1) (.slice none 0 0)) ((((w.alloc o1).alloc o2).alloc o3).alloc o4) ⟨[],[],0⟩:=by
  refine⟨.slice none 0 0,.slice tp toks.length tc,s,[],⟨pC _,z4,hEl,by rw[BK];exact (tN.fr mQ).mono (by omega),⟨rfl,.inl ⟨rfl,rfl⟩⟩,rfl,λj x v h=>by simp at h,⟨rfl,.inl ⟨rfl,rfl⟩⟩⟩,?_,?_⟩
  ·intro v hv;cases hv
  ·intro g hg;rcases hg with rfl|hg
   ·have:=(gtA z2);exact this
   ·cases hg
 have nW:qT E ⟨[],[],0⟩:=⟨pU _,λi x h=>by simp at h,pC _,by rw[BK];exact nK⟩;have HP:=zh (zdJ (R:=Yi (toks.length+1)) (λiv=>(zgP (by rw[<-TI];exact hE) (toks.length+1)).1) (by rw[BK];omega) hP nW (pC _) (toks.length+1) (by rw[BK];omega));rw[TI] at hr;rw[hr.q] at HP;simp only[o1,o2,o3,o4] at z1 z2 z3 z4 mQ HP;replace z1:=zh z1;replace z2:=zh z2;replace z3:=zh z3;replace z4:=zh z4;replace mQ:=zh mQ;clear hP nW o1 o2 o3 o4 tN hE TI hr;go_enter_defers func40,ntmps40;go_wp2_with fail;refine HP.q.mono ?_;rintro e w1 hp;have mw:((((w.alloc (.cells #[.slice none 0 0,.slice none 0 0] 26 (0,0))).alloc (.cells #[.int .i64 0] 3 (0,0))).alloc (.cells #[.bool false] 4 (0,0))).alloc (.cells #[.slice none 0 0,.slice none 0 0,.string s,.slice tp toks.length tc,.int .i64 0] 100 (0,0))).heap.size=w.heap.size+4:=by simp
 generalize (((w.alloc (.cells #[.slice none 0 0,.slice none 0 0] 26 (0,0))).alloc (.cells #[.int .i64 0] 3 (0,0))).alloc (.cells #[.bool false] 4 (0,0))).alloc (.cells #[.slice none 0 0,.slice none 0 0,.string s,.slice tp toks.length tc,.int .i64 0] 100 (0,0))=w4 at *;cases r with
 |ok u st=>
  obtain⟨rfl,⟨iv,h1⟩,B1⟩:=hp;have c1:=h1.iv;have mq:KS w1 iv st.iz:=KS.own h1.its;have Dz:=yM (G:=λg=>g<w.heap.size+3) h1.its (λg hg=>hg);obtain⟨nv,tv,s',kv,P,hK,_⟩:=h1;have c0:=P.cells.1;have aG:=KR P.nz P.kvl P.kz;replace hK:=zh hK;clear P;obtain⟨np,nc,rfl⟩:=aG.form;obtain⟨ip,ic,rfl⟩:=mq.form;have y1:=(B1.block _ (by omega)).trans z1.q;have y2:=(B1.block _ (by omega)).trans z2.q;have y3:=(B1.block _ (by omega)).trans z3.q;have d0:=zd y1 0;have d1:=zd y1 1;have d2:=zd y2 0;have d3:=zd y3 0;have f0:=zj y1 0;have f1:=zj y1 1;have f2:=zj y2 0;have f3:=zj y3 0;replace aG:=zh aG;replace mq:=zh mq;replace y1:=zh y1;replace y2:=zh y2;replace y3:=zh y3;clear HP;have rE:w.heap.size+3<=w1.heap.size:=by have:=B1.size;omega
  go_wp2_with fail;have q1:=zt y1.q 0 (.slice np st.nz.length nc);have q2:=zt q1 1 (.slice ip st.iz.length ic);have hB:Below w.heap.size w ((((w1.setCell ⟨w.heap.size,0,none⟩ (.slice np st.nz.length nc)).setCell ⟨w.heap.size,1,none⟩ (.slice ip st.iz.length ic)).setCell ⟨w.heap.size+1,0,none⟩ (.int .i64 0)).setCell ⟨w.heap.size+1+1,0,none⟩ (.bool true)):=((((mQ.q.trans (B1.mono (by omega))).setCell (pC _) _).setCell (pC _) _).setCell (Nat.le_succ _) _).setCell (by simp only;omega) _;have aA:∀g,g≠w.heap.size->g≠w.heap.size+1->g≠w.heap.size+2->((((w1.setCell ⟨w.heap.size,0,none⟩ (.slice np st.nz.length nc)).setCell ⟨w.heap.size,1,none⟩ (.slice ip st.iz.length ic)).setCell ⟨w.heap.size+1,0,none⟩ (.int .i64 0)).setCell ⟨w.heap.size+1+1,0,none⟩ (.bool true)).heap[g]? =w1.heap[g]? :=λg h0 h1 h2=>(zv h2).trans ((zv h1).trans ((zv h0).trans (zv h0)))
  have e0:w.heap.size≠w.heap.size+1:=by omega
  have e1:w.heap.size≠w.heap.size+1+1:=by omega
  have e2:w.heap.size+1≠w.heap.size+1+1:=by omega
  have r1:=(zv (w:=((w1.setCell ⟨w.heap.size,0,none⟩ (.slice np st.nz.length nc)).setCell ⟨w.heap.size,1,none⟩ (.slice ip st.iz.length ic)).setCell ⟨w.heap.size+1,0,none⟩ (.int .i64 0)) (i:=0) (v:=.bool true) e1).trans ((zv e0).trans q2);have r2:=(zv (w:=((w1.setCell ⟨w.heap.size,0,none⟩ (.slice np st.nz.length nc)).setCell ⟨w.heap.size,1,none⟩ (.slice ip st.iz.length ic)).setCell ⟨w.heap.size+1,0,none⟩ (.int .i64 0)) (i:=0) (v:=.bool true) e2).trans (zt ((zv e0.symm).trans ((zv e0.symm).trans y2.q)) 0 (.int .i64 0));have r3:=zt (w:=((w1.setCell ⟨w.heap.size,0,none⟩ (.slice np st.nz.length nc)).setCell ⟨w.heap.size,1,none⟩ (.slice ip st.iz.length ic)).setCell ⟨w.heap.size+1,0,none⟩ (.int .i64 0)) ((zv e2.symm).trans ((zv e1.symm).trans ((zv e1.symm).trans y3.q))) 0 (.bool true);refine leaves_cons (f:=80) (args:= #[.pointer (some ⟨w.heap.size,0,none⟩),.pointer (some ⟨w.heap.size+1,0,none⟩),.pointer (some ⟨w.heap.size+1+1,0,none⟩)]) (by simp) (by simp[go_sem]) ?_;refine (zeo w.heap.size _).mono ?_;rintro e u' w'' ⟨rfl,rfl,rfl⟩;refine⟨.tuple #[.agg #[.slice np st.nz.length nc,.slice ip st.iz.length ic],.int .i64 0,.bool true],by simp[results,results40,go_sem,zd r1,zd r2,zd r3],_,_,kv,rfl,?_,?_,hB⟩
  ·obtain⟨a1,a2,p,cap,hv,a3⟩:=aG.q;refine⟨a1,λj x u hx hu=>(a2 j x u hx hu).keep λg cs fr hg hh=>(aA g (vZ hh y1.q (by decide)) (λe=>hK.q u (wH hu) g hg (.inl e)) (vZ hh y3.q (by decide))).trans hh,p,cap,hv,a3.imp id ?_⟩;rintro ⟨g,off,cs,fr,hp,hg,hc⟩;exact⟨g,off,cs,fr,hp,(aA g (vZ hg y1.q (by decide)) (vZ hg y2.q (by decide)) (vZ hg y3.q (by decide))).trans hg,hc⟩
  ·exact mq.q.keep λg cs fr hg hh=>(aA g (λe=>Dz g hg (by omega)) (λe=>Dz g hg (by omega)) (λe=>Dz g hg (by omega))).trans hh
 |bad p=>
  obtain⟨rfl,B1⟩:=hp;unfold Pan;have y1:=(B1.block _ (by omega)).trans z1.q;have y2:=(B1.block _ (by omega)).trans z2.q;have y3:=(B1.block _ (by omega)).trans z3.q;replace y1:=zh y1;replace y2:=zh y2;replace y3:=zh y3;clear HP;go_wp2_with fail;refine leaves_cons (f:=80) (args:= #[.pointer (some ⟨w.heap.size,0,none⟩),.pointer (some ⟨w.heap.size+1,0,none⟩),.pointer (some ⟨w.heap.size+1+1,0,none⟩)]) (by simp) (by simp[go_sem]) ?_;refine (zaN w.heap.size p _ _ _ _ w1 ⟨y1.q,y2.q,y3.q⟩).mono ?_;rintro e u' w'' ⟨rfl,rfl,hF,hB⟩;refine⟨.tuple #[.agg #[.slice none 0 0,.slice none 0 0],.int .i64 p,.bool false],by simp[results,results40,go_sem,zd hF.t,zd hF.p,zd hF.k],rfl,?_⟩;exact (mQ.q.trans (B1.mono (by omega))).trans hB
