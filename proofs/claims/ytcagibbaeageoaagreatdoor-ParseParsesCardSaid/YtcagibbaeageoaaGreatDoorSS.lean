import Derived.Test.YtcagibbaeageoaaGreatDoorSR
set_option maxRecDepth 100000
set_option maxHeartbeats 0
set_option linter.all false
variable{E:Lode.zr}{l ws:List (List UInt8)}{base e e2 kk len pb tb:Nat}{G:Nat->Prop}{w w':Go.World}{s1 st:Lode.jR}{dd k n:Int}{cs:Array Go.Value}{T U:Go.TypeId}{fr fs:Nat×Nat}{α β:Type}{f:Lode.PM (Int×Bool)}{nv v:Go.Value}{xs zs:List Go.Value}{p q:Nat->Bool}{V' W acc ks Mn:List Int}{r:List Lode.Nd}{K K1:List Nat}{x y:List UInt8}{a:Lode.PM Bool}{part part' tight:Lode.PM Int}{t:Lode.yO}
namespace Lode
def zn3{s:jR}(h:l.contains (wdR E s)=true)(h0:[]∉l):s.n<E.tz.length:=by
 unfold wdR at h;by_cases hk:Qu E s=5\/Qu E s=6
 ·unfold Qu at hk;split at hk
  ·omega
  ·cases ht:E.tz[s.n]? with
   |none=>rw[ht] at hk;simp at hk
   |some t=>exact (gtL ht)
 ·rw[if_neg hk] at h;exact absurd (List.contains_iff_mem.1 h) h0
end Lode
namespace Go.Proofs.YtcagibbaeageoaaGreatDoor
section
open Go.RowKit Lode Go.Shelf
attribute [local go_sem ↓] wp_at_zero wp_at_succ
open Go.Proofs.Tryz
def zfc(h:RW E base pb G w st):Calls prog 308 #[.pointer (some ⟨pb,0,none⟩)] w λe w'=>e=.returned (.string ⟨(wdR E st).toArray⟩)/\Below w.heap.size w w':=by
 have hK:=zh (vM h);have hD:=zh (λ(W:World) (hb:Below w.heap.size w W)=>(h.below hb).look);have hs:=zh (λk (hk:Qu E st=k) (h0:k≠0)=>QT hk h0);clear h;unfold wdR;generalize Qu E st=k at *;by_cases dm:k=5\/k=6
 ·obtain⟨_,t,hx,_,Hd⟩:=hs.q k rfl (by omega);have hi:st.n<E.tz.length:=(gtL hx);rw[if_pos dm,Hd];clear hs Hd;go_enter func308,ntmps308;go_wp2_with fail;refine hK.q.mono ?_;rintro e w1 ⟨rfl,hb⟩;obtain⟨p,cap,nv,c0,c1,c2,c3,cf,ht⟩:=hD.q w1 hb;obtain⟨g,rfl,d0,d1,d2⟩:=ht _ t hx;clear c2 c3 cf ht d0 d2 hx hK hD;generalize E.tz.length=n at *;obtain⟨nodes,i,bad⟩:=st;obtain⟨k1,t1,a1⟩:=t;simp only at *;rcases dm with rfl|rfl
  all_goals
   go_wp2_with fail;go_quiet (fail);go_wp2;go_ret;exact⟨rfl,zO hb _⟩
 ·have z1:((k:Int) == 5)=false:=bfE (by omega)
  have z2:((k:Int) == 6)=false:=bfE (by omega)
  rw[if_neg dm];clear dm hs hD;go_enter func308,ntmps308;go_wp2_with fail;refine hK.q.mono ?_;rintro e w1 ⟨rfl,hb⟩;go_wp2;go_ret;exact⟨rfl,hb⟩
def Qg(g n cap:Nat)(l:List (List UInt8))(x:List UInt8)(w:World)(hn:n=l.length)(hm:n<=1000)(hx:l.contains x=true)(hc:∀j,j<n->w.cell? ⟨g,j,none⟩=some (.string ⟨(l.getD j []).toArray⟩)):
 Calls prog 309 #[.slice (some ⟨g,0,none⟩) n cap,.string ⟨x.toArray⟩] w λe w'=>e=.returned (.int .i64 (l.idxOf x:Nat))/\w=w':=by
 have tY:x∈l:=List.contains_iff_mem.1 hx;have mD:=List.idxOf_lt_length_iff.2 tY;have tM:l.getD (l.idxOf x) []=x:=by rw[pA,glE mD];exact List.getElem_idxOf mD
 have mu:Hid (∀j,j<l.idxOf x->(l.getD j [] == x)=false):=zh (λj hj=>by
  have py:j<l.length:=by omega
  rw[pA,glE py,Option.getD_some];simpa using List.not_of_lt_findIdx (p:=(· == x)) (xs:=l) (i:=j) hj)
 rw[<-hn] at mD;have Hat:=zh tM;have Hc:=zh hc;generalize l.idxOf x=m at *;clear hc tY hx hn tM;go_enter func309,ntmps309;go_wp2_with fail;go_loop [5] (λs5=>∃k:Nat,k<=m/\s5=.int .i64 k) (λs5=>n-(intOf s5).toNat)
 case atStart=>exact⟨0,by omega,rfl⟩
 case round=>
  obtain⟨k,hk,rfl⟩:=hrel;have sC:(k:Int)<(n:Int):=by omega
  have hk0:¬((k:Int)<0):=by omega
  have hy:=pF ((k:Int)+1) (by omega);have c0:=Hc.q k (by omega);by_cases e:k=m
  ·subst e;rw[Hat.q] at c0;have e1:(x == x)=true:=beq_self_eq_true x;go_wp2;go_ret;exact⟨rfl,rfl⟩
  ·have e1:=mu.q k (by omega);generalize l.getD k []=y at *;go_wp2_with fail;go_round
   case rel=>exact⟨k+1,by omega,by go_num⟩
   case measure=>simp[intOf];omega
def zbk{ks:List Nat}{n:Nat}{e:Ending}(h:ziS ws ks w e w')(hw:ws.length=n)(hk:ks.length=n)(h0:n≠0):∃g c q d,e=.returned (.tuple #[.slice (some ⟨g,0,none⟩) n c,.slice (some ⟨q,0,none⟩) n d])/\(∀j,j<n->w'.cell? ⟨g,j,none⟩=some (.string ⟨(ws.getD j []).toArray⟩)/\w'.cell? ⟨q,j,none⟩=some (.int .u8 (ks.getD j 0:Nat)))/\Below w.heap.size w w':=by
 obtain⟨v,u,rfl,⟨⟨hv,_⟩,hu,_⟩,hb⟩:=h;obtain⟨g,c,rfl,_⟩:=QM hv (by omega);obtain⟨q,d,rfl,_⟩:=QM hu (by omega);refine⟨g,c,q,d,by rw[hw,hk],λj hj=>?_,hb⟩;have h1:j<ws.length:=by omega
 have h2:j<ks.length:=by omega
 exact⟨QN hv (by rw[wC,glE h1,pA,glE h1];rfl),QN hu (by rw[wC,glE h2,pA,glE h2];rfl)⟩
def zlr(w:World):Calls prog 173 #[] w λe w'=>e=.returned (.tuple #[.slice (some ⟨w.heap.size,0,none⟩) 8 8,.slice (some ⟨w.heap.size+1,0,none⟩) 8 8,.slice (some ⟨w.heap.size+1+1,0,none⟩) 8 8])/\(w'.heap[w.heap.size]? =some (.cells (KB (xd.map (·.1))).toArray 9 (0,0))/\w'.heap[w.heap.size+1]? =some (.cells (u8L (xd.map (·.2))).toArray 5 (0,0))/\w'.heap[w.heap.size+1+1]? =some (.cells (yl [2,1,1,1,1,1,2,3]).toArray 3 (0,0)))/\Below w.heap.size w w':=by
 have b1:=zf w (.cells (KB (xd.map (·.1))).toArray 9 (0,0));have a1:=zk w (.cells (KB (xd.map (·.1))).toArray 9 (0,0));generalize rE:w.alloc (.cells (KB (xd.map (·.1))).toArray 9 (0,0))=w1 at *;have e1:w1.heap.size=w.heap.size+1:=by rw[<-rE];simp
 have b2:=zf w1 (.cells (u8L (xd.map (·.2))).toArray 5 (0,0));have a2:=zk w1 (.cells (u8L (xd.map (·.2))).toArray 5 (0,0));generalize tK:w1.alloc (.cells (u8L (xd.map (·.2))).toArray 5 (0,0))=w2 at *;have e2:w2.heap.size=w1.heap.size+1:=by rw[<-tK];simp
 have b3:=zf w2 (.cells (yl [2,1,1,1,1,1,2,3]).toArray 3 (0,0));have a3:=zk w2 (.cells (yl [2,1,1,1,1,1,2,3]).toArray 3 (0,0));have H:=zh (And.intro (And.intro (zi b3 (zi b2 a1)) (And.intro (zi b3 (by rw[e1] at a2;exact a2)) (by rw[e2,e1] at a3;exact a3))) (zg (zg b1 b2) b3));rw[<-tK,<-rE] at H;clear rE tK a1 a2 a3 b1 b2 b3 e1 e2;go_enter func173,ntmps173;go_wp2_with fail;go_ret3;exact⟨rfl,H.q⟩
def ZY{base pb k:Nat}(h:Hid (RW E base pb G w st))(F:Hid (RF base pb w w'))(hh:w.heap[k]? =some (.cells cs T fr))(hT:T≠63/\T≠60):w'.heap[k]? =w.heap[k]? :=by
 obtain⟨_,_,_,P,_⟩:=h.q;obtain⟨h1,h2⟩:=P.far hh hT;exact F.q.keep k (gtA hh) h1 (by rw[P.qU];exact h2)
def zkt:∀i,i<8->(u8L (xd.map (·.2))).toArray[i]? =some (.int .u8 ((xd.map (·.2)).getD i 0:Nat))/\(yl [2,1,1,1,1,1,2,3]).toArray[i]? =some (.int .i64 (QR.getD i 0:Nat)):=λi hi=>by
 have h:i=0\/i=1\/i=2\/i=3\/i=4\/i=5\/i=6\/i=7:=by omega
 rcases h with rfl|rfl|rfl|rfl|rfl|rfl|rfl|rfl <;> exact⟨rfl,rfl⟩
def zl3{g q i:Nat}{a b:Array Value}{x y:Value}(hq:w.heap[g]? =some (.cells a T (0,0)))(hm:w.heap[q]? =some (.cells b U (0,0)))(hx:a[i]? =some x)(hy:b[i]? =some y):∀W,(zgp g q).rel w.drew W->(W.cell? ⟨g,i,none⟩=some x/\W.cell? ⟨q,i,none⟩=some y):=λW hW=>⟨(zd ((show W.heap[g]? =w.heap[g]? from hW.1).trans hq) i).trans hx,(zd ((show W.heap[q]? =w.heap[q]? from hW.2).trans hm) i).trans hy⟩
def zmW{s:jR}{f:List UInt8->RM β}:(rWd >>= f) E s=f (wdR E s) E s:=rfl
def zfp{R:xn}(hE:∀t∈E.tz,t.kind=3->zaR t.text)(hR:qJ E base pb R):Xn E base pb 305 (Vy R):=by
 have hX:=zh (Kc hR);have hC:=zh (YQ hE hR);have Td:=zh (λ(G:Nat->Prop) (W:World) (s s':jR) (n:Nat) (l:List Int) (hn:n<=3) (h:RW E base pb G W s) (hr:Vt R n E s=some (l,s'))=>zfh hR hn h hr);replace hE:=zh hE;intro G w st st' a h0 hr;have hl:=hR.lim;replace hR:=zh hR;unfold Vy at hr
 try simp only[kg,Zo,uH] at hr
 have mL:=h0.bs;have F0:=zh (RF.refl base pb w);replace h0:=zh h0;replace hr:=zh hr;go_enter func305,ntmps305;have hG:=zh h0.q.glt;go_wp2_with fail;refine ye hr (xl h0) F0 ?_;clear hr;intro x1 s1 w1 m1 h1 F1 f1 hr;obtain⟨hN,h2,F2⟩:=ZS h1 F1 0 [] 0 x1;go_wp2_with fail;refine ye hr (zmk h2) F2 ?_;clear hr;intro x3 s3 w3 m3 h3 F3 f3 hr;replace hN:=zh (hN.q.rf f3.q);have e3:Qu E s1=x3/\s1=s3:=by
  have:=Option.some.inj m3.q;exact⟨congrArg Prod.fst this,congrArg Prod.snd this⟩
 obtain⟨e3,rfl⟩:=e3;by_cases na:x3=3
 ·have mj:=hr.q;rw[if_pos na] at mj;replace hr:=zh mj;clear mj;subst na;go_wp2_with fail;refine ye hr (xh h3 hl 3) F3 ?_;clear hr;intro x4 s4 w4 m4 h4 F4 f4 hr;replace hN:=zh (hN.q.rf f4.q);have nL:=KQ hE.q m4.q;go_wp2_with fail;refine (Zu nL _).mono ?_;rintro e wn ⟨rfl,av⟩;replace hN:=zh (hN.q.rf (h4.q.rf av));replace F4:=zh (F4.q.trans (h4.q.rf av));replace h4:=zh (h4.q.below av);obtain⟨⟨fz,cz⟩,hN,h5,F5⟩:=ya hN h4 F4 mL.1 0 (.int .u8 1);obtain⟨⟨fz,cz⟩,hN,h6,F6⟩:=ya hN h5 F5 mL.1 2 (.int .i64 (ym x4:Nat));obtain⟨d0,d1,d2,d3,d4,_⟩:=hN.q.cells;go_wp2_with fail;refine zU hr h6 F6 ZF λW h F=>?_
  go_wp2;go_ret;exact⟨rfl,h,F⟩
 have z3:((x3:Int) == 3)=false:=bfE (by omega)
 have mj:=hr.q;rw[if_neg na] at mj;replace hr:=zh mj;clear mj;by_cases pj:x3=4
 ·have mj:=hr.q;rw[if_pos pj] at mj;replace hr:=zh mj;clear mj;subst pj;go_wp2_with fail;refine ye hr (xh h3 hl 4) F3 ?_;clear hr;intro x4 s4 w4 m4 h4 F4 f4 hr;replace hN:=zh (hN.q.rf f4.q);obtain⟨⟨fz,cz⟩,hN,h5,F5⟩:=ya hN h4 F4 mL.1 0 (.int .u8 2);obtain⟨⟨fz,cz⟩,hN,h6,F6⟩:=ya hN h5 F5 mL.1 1 (.string ⟨x4.toArray⟩);obtain⟨d0,d1,d2,d3,d4,_⟩:=hN.q.cells;go_wp2_with fail;refine zU hr h6 F6 ZF λW h F=>?_
  go_wp2;go_ret;exact⟨rfl,h,F⟩
 have z4:((x3:Int) == 4)=false:=bfE (by omega)
 have mj:=hr.q;rw[if_neg pj] at mj;replace hr:=zh mj;clear mj;by_cases nO:x3=1
 ·have mj:=hr.q;rw[if_pos nO] at mj;replace hr:=zh mj;clear mj;subst nO;go_wp2_with fail;refine ye hr (xh h3 hl 1) F3 ?_;clear hr;intro x4 s4 w4 m4 h4 F4 f4 hr;replace hN:=zh (hN.q.rf f4.q);obtain⟨⟨fz,cz⟩,hN,h5,F5⟩:=ya hN h4 F4 mL.1 0 (.int .u8 5);obtain⟨⟨fz,cz⟩,hN,h6,F6⟩:=ya hN h5 F5 mL.1 1 (.string ⟨x4.toArray⟩);obtain⟨d0,d1,d2,d3,d4,_⟩:=hN.q.cells;go_wp2_with fail;refine zU hr h6 F6 ZF λW h F=>?_
  go_wp2;go_ret;exact⟨rfl,h,F⟩
 have z1:((x3:Int) == 1)=false:=bfE (by omega)
 have mj:=hr.q;rw[if_neg nO] at mj;replace hr:=zh mj;clear mj;by_cases nj:x3=2
 ·have mj:=hr.q;rw[if_pos nj] at mj;replace hr:=zh mj;clear mj;subst nj;go_wp2_with fail;refine ye hr (xh h3 hl 2) F3 ?_;clear hr;intro x4 s4 w4 m4 h4 F4 f4 hr;replace hN:=zh (hN.q.rf f4.q);obtain⟨⟨fz,cz⟩,hN,h5,F5⟩:=ya hN h4 F4 mL.1 0 (.int .u8 25);obtain⟨⟨fz,cz⟩,hN,h6,F6⟩:=ya hN h5 F5 mL.1 1 (.string ⟨x4.toArray⟩);go_wp2_with fail;have mW:=hr;clear hr;refine yK mW h6 hl F6 (λw7 Dy h7 F7 f7 hr=>?_) (λw7 h7 F7 f7 hr=>?_) <;> clear mW <;> replace hN:=zh (hN.q.rf f7.q)
  ·go_wp2_with fail;refine zaC hr (hX.q) h7 F7 ?_;clear hr;intro x8 s8 w8 v8 m8 h8 F8 f8 o8 l8 hr;obtain⟨p8,c8,rfl⟩:=(KS.own o8.q).form;replace hN:=zh (hN.q.rf f8.q);have o:=zh (xD o8.q F7.q.b.size);have oo:=zS o.q hN.q.hb 3 (.slice p8 x8.length c8);obtain⟨⟨Gg,fE⟩,hN,h9,F9⟩:=ya hN h8 F8 mL.1 3 (.slice p8 x8.length c8);replace o:=zh oo;clear oo;go_wp2_with fail;refine ye hr (zJ h9 hl _) F9 ?_;clear hr;intro rG ec nB fA mR mi nI hr;replace hN:=zh (hN.q.rf nI.q);replace o:=zh (zx o.q h9.q nI.q);obtain⟨mR,hk⟩:=jY mR o hG.q;obtain⟨d0,d1,d2,d3,d4,_⟩:=hN.q.cells;go_wp2_with fail;refine zU hr mR mi hk λW h F=>?_
   go_wp2;go_ret;exact⟨rfl,h,F⟩
  ·obtain⟨d0,d1,d2,d3,d4,_⟩:=hN.q.cells;go_wp2_with fail;refine zU hr h7 F7 ZF λW h F=>?_
   go_wp2;go_ret;exact⟨rfl,h,F⟩
 have z2:((x3:Int) == 2)=false:=bfE (by omega)
 have mj:=hr.q;rw[if_neg nj] at mj;replace hr:=zh mj;clear mj;have mj:=hr.q;rw[zmW] at mj;have SE:=zh (λ(W:World) (hW:RW E base pb G W s1)=>zfc hW);have FO:=zh (λ(l:List (List UInt8)) (h:l.contains (wdR E s1)=true) (h0:[]∉l)=>zn3 h h0);generalize wdR E s1=x at *;clear hr;go_wp2_with fail;refine (zfv _).mono ?_;intro e w5 hL;replace hL:ziS (qO.map (·.1)) (qO.map (·.2)) _ e w5:=hL;obtain⟨g5,c5,q5,d5,rfl,SH,mt⟩:=zbk hL (n:=3) rfl rfl (by decide);replace SH:=zh SH;have h5:=zh (h3.q.below mt);have F5:=zh (F3.q.trans (h3.q.rf mt));replace hN:=zh (hN.q.rf (h3.q.rf mt));go_wp2_with fail;refine (SE.q _ h5.q).mono ?_;rintro e w6 ⟨rfl,nR⟩;have h6:=zh (h5.q.below nR);have F6:=zh (F5.q.trans (h5.q.rf nR));replace hN:=zh (hN.q.rf (h5.q.rf nR));go_wp2_with fail;have cH:=QE g5 3 c5 (qO.map (·.1)) ⟨x.toArray⟩ w6 rfl (by decide) (λj hj=>by exact zl nR (SH.q j hj).1);rw[show (⟨x.toArray⟩:ByteArray).data.toList=x from rfl] at cH;cases ax:(qO.map (·.1)).contains x with
 |true=>
  rw[ax] at mj cH;replace hr:=rtt (zh mj);have mD:=FO.q _ ax (by decide);refine cH.mono ?_;rintro e _ ⟨rfl,rfl⟩;go_wp2_with fail;refine (SE.q _ h6.q).mono ?_;rintro e w7 ⟨rfl,rC⟩;have h7:=zh (h6.q.below rC);have F7:=zh (F6.q.trans (h6.q.rf rC));replace hN:=zh (hN.q.rf (h6.q.rf rC));go_wp2_with fail;have hi:(qO.map (·.1)).idxOf x<3:=List.idxOf_lt_length_iff.2 (List.contains_iff_mem.1 ax);have cq:=zl (zg nR rC) (SH.q _ hi).2;refine (Qg g5 3 c5 (qO.map (·.1)) x w7 rfl (by decide) ax (λj hj=>by exact zl (zg nR rC) (SH.q j hj).1)).mono ?_;rintro e _ ⟨rfl,rfl⟩;generalize (qO.map (·.1)).idxOf x=i at *;generalize (qO.map (·.2)).getD i 0=kk at *;have NU:¬((i:Int)<0):=by omega
  have nV:(i:Int)<3:=by omega
  obtain⟨⟨fz,cz⟩,hN,h8,F8⟩:=ya hN h7 F7 mL.1 0 (.int .u8 kk);have mD:=mD;replace hr:=uv mD hr;have hy:=kr mD hl;obtain⟨⟨c1,f1⟩,h9,F9,g9⟩:=rup h8 F8;replace hN:=zh (hN.q.rf g9.q);obtain⟨d0,d1,d2,d3,d4,_⟩:=hN.q.cells;go_wp2_with fail;refine zU hr h9 F9 ZF λW h F=>?_
  go_wp2;go_ret;exact⟨rfl,h,F⟩
 |false=>
  rw[ax] at mj cH;replace mj:=(rff (zh mj)).q;refine cH.mono ?_;rintro e _ ⟨rfl,rfl⟩;clear SH ax;go_wp2_with fail;refine (zlr _).mono ?_;rintro e w7 ⟨rfl,⟨SN,Em,so⟩,rC⟩;obtain⟨g7,dv⟩:∃g,w6.heap.size=g:=⟨_,rfl⟩;have h7:=zh (h6.q.below rC);have F7:=zh (F6.q.trans (h6.q.rf rC));replace hN:=zh (hN.q.rf (h6.q.rf rC));rw[dv] at SN Em so ⊢;go_wp2_with fail;refine (SE.q _ h7.q).mono ?_;rintro e w8 ⟨rfl,sK⟩;have h8:=zh (h7.q.below sK);have F8:=zh (F7.q.trans (h7.q.rf sK));replace hN:=zh (hN.q.rf (h7.q.rf sK));go_wp2_with fail;have Du:=zi sK SN;have cH:=QE g7 8 8 (xd.map (·.1)) ⟨x.toArray⟩ w8 rfl (by decide) (λj hj=>(zd Du j).trans (by
   have h1:j<(xd.map (·.1)).length:=hj;rw[pS,wC,glE h1];rfl))
  rw[show (⟨x.toArray⟩:ByteArray).data.toList=x from rfl] at cH;cases ax:(xd.map (·.1)).contains x with
  |true=>
   rw[ax] at mj cH;replace hr:=rtt (zh mj);have mD:=FO.q _ ax (by decide);refine cH.mono ?_;rintro e _ ⟨rfl,rfl⟩;go_wp2_with fail;refine (SE.q _ h8.q).mono ?_;rintro e w9 ⟨rfl,dn⟩;have h9:=zh (h8.q.below dn);have F9:=zh (F8.q.trans (h8.q.rf dn));replace hN:=zh (hN.q.rf (h8.q.rf dn));go_wp2_with fail;have hi:(xd.map (·.1)).idxOf x<8:=List.idxOf_lt_length_iff.2 (List.contains_iff_mem.1 ax);have hg9:=zi dn Du;have IV:=zi dn (zi sK Em);have bX:=zi dn (zi sK so);refine (Qg g7 8 8 (xd.map (·.1)) x w9 rfl (by decide) ax (λj hj=>(zd hg9 j).trans (by
    have h1:j<(xd.map (·.1)).length:=hj;rw[pS,wC,glE h1,pA,glE h1];rfl))).mono ?_
   rintro e _ ⟨rfl,rfl⟩;have rV:QR.getD ((xd.map (·.1)).idxOf x) 0<=3:=(by decide:∀i,i<8->QR.getD i 0<=3) _ hi;have cq:=zkt _ hi;generalize (xd.map (·.1)).idxOf x=i at *;generalize (xd.map (·.2)).getD i 0=kk at *;generalize QR.getD i 0=mm at *;have NU:¬((i:Int)<0):=by omega
   have nV:(i:Int)<8:=by omega
   have mD:=mD;replace hr:=uv mD hr;have hy:=kr mD hl;obtain⟨⟨c1,f1⟩,mR,mi,DB⟩:=rup h9 F9;replace hN:=zh (hN.q.rf DB.q);have Me:=(ZY h9 DB IV ⟨by decide,by decide⟩).trans IV;have rJ:=(ZY h9 DB bX ⟨by decide,by decide⟩).trans bX;go_wp2_with fail;have hS:=zl3 Me rJ cq.1 cq.2;have hd:=ko mR;replace hN:=zh (hN.q.rf (mR.q.rf hd));replace mi:=zh (mi.q.trans (mR.q.rf hd));replace mR:=zh (mR.q.below hd);replace Me:=zi hd Me;replace rJ:=zi hd rJ;clear hd;refine LodeX.xC (RR:=zgp (g7+1) (g7+1+1)) (Xp:=λ_ _=>False) [(0,0),(1,0),(2,0),(3,1),(4,0),(5,0),(6,0),(7,0),(8,1),(10,0),(9,2),(11,3),(12,0),(13,3)] ?_;refine LodeX.xt ?_;refine LodeX.callX λK hK=>?_
   go_simp;refine zml hr (λl s' e=>Td.q G _ _ _ mm l rV mR.q e) mi ?_;clear hr;intro aV Ap wc vl mc hc Fc fc ol ll hr;replace hN:=zh (hN.q.rf fc.q);have o:=zh (xD ol.q mi.q.b.size);obtain⟨pl,cl,rfl⟩:=(KS.own ol.q).form;refine⟨⟨ZY mR fc Me ⟨by decide,by decide⟩,ZY mR fc rJ ⟨by decide,by decide⟩⟩,hK _ _ ?_⟩;clear hK K hS
   try simp only[Act.put,yh,yf,yg]
   have mh:=hc;have mx:=Fc;have oo:=zS o.q hN.q.hb 0 (.int .u8 kk);obtain⟨⟨fz13,cz13⟩,hN,nN,ng⟩:=ya hN mh mx mL.1 0 (.int .u8 kk);replace o:=zh oo;clear oo;have oo:=zS o.q hN.q.hb 3 (.slice pl aV.length cl);obtain⟨⟨PN,PD⟩,hN,nY,rQ⟩:=ya hN nN ng mL.1 3 (.slice pl aV.length cl);replace o:=zh oo;clear oo;refine LodeX.yG rfl rfl (λV hV=>?_);cases hV;go_simp;refine LodeX.KZ rfl rfl (v:=.pointer (some ⟨w1.heap.size,3,none⟩)) (λ_=>by go_simp) ?_
   try simp only[Act.put,yh,yf,yg]
   refine LodeX.Va rfl rfl ?_;go_simp;refine LodeX.yL ?_;obtain⟨nY,hk⟩:=jY nY o hG.q;obtain⟨d0,d1,d2,d3,d4,_⟩:=hN.q.cells;go_wp2_with fail;refine zU hr nY rQ hk λW h F=>?_
   go_wp2;go_ret;exact⟨rfl,h,F⟩
  |false=>
   rw[ax] at mj cH;replace mj:=(rff (zh mj)).q;refine cH.mono ?_;rintro e _ ⟨rfl,rfl⟩;clear Du SN Em so ax;go_wp2_with fail;refine (zaE _).mono ?_;intro e w9 hL;replace hL:ziS (vD.map (·.1)) (vD.map (·.2)) _ e w9:=hL;obtain⟨g9,c9,q9,d9,rfl,Tz,dn⟩:=zbk hL (n:=3) rfl rfl (by decide);replace Tz:=zh Tz;have h9:=zh (h8.q.below dn);have F9:=zh (F8.q.trans (h8.q.rf dn));replace hN:=zh (hN.q.rf (h8.q.rf dn));go_wp2_with fail;refine (SE.q _ h9.q).mono ?_;rintro e nB ⟨rfl,rN⟩;have mR:=zh (h9.q.below rN);have mi:=zh (F9.q.trans (h9.q.rf rN));replace hN:=zh (hN.q.rf (h9.q.rf rN));go_wp2_with fail;have cH:=QE g9 3 c9 (vD.map (·.1)) ⟨x.toArray⟩ nB rfl (by decide) (λj hj=>by exact zl rN (Tz.q j hj).1);rw[show (⟨x.toArray⟩:ByteArray).data.toList=x from rfl] at cH;cases ax:(vD.map (·.1)).contains x with
   |true=>
    rw[ax] at mj cH;replace hr:=rtt (zh mj);have mD:=FO.q _ ax (by decide);refine cH.mono ?_;rintro e _ ⟨rfl,rfl⟩;go_wp2_with fail;refine (SE.q _ mR.q).mono ?_;rintro e al ⟨rfl,bO⟩;have mX:=zh (mR.q.below bO);have ms:=zh (mi.q.trans (mR.q.rf bO));replace hN:=zh (hN.q.rf (mR.q.rf bO));go_wp2_with fail;have hi:(vD.map (·.1)).idxOf x<3:=List.idxOf_lt_length_iff.2 (List.contains_iff_mem.1 ax);have cq:=zl (zg rN bO) (Tz.q _ hi).2;refine (Qg g9 3 c9 (vD.map (·.1)) x al rfl (by decide) ax (λj hj=>by exact zl (zg rN bO) (Tz.q j hj).1)).mono ?_;rintro e _ ⟨rfl,rfl⟩;generalize (vD.map (·.1)).idxOf x=i at *;generalize (vD.map (·.2)).getD i 0=kk at *;have NU:¬((i:Int)<0):=by omega
    have nV:(i:Int)<3:=by omega
    obtain⟨⟨fz,cz⟩,hN,mh,mx⟩:=ya hN mX ms mL.1 0 (.int .u8 kk);have mD:=mD;replace hr:=uv mD hr;have hy:=kr mD hl;obtain⟨⟨c1,f1⟩,nN,ng,g13⟩:=rup mh mx;replace hN:=zh (hN.q.rf g13.q);go_wp2_with fail;refine ye hr (yX hR.q.unary nN) ng ?_;clear hr;intro eG Sd ee Bt nY rQ cE hr;replace hN:=zh (hN.q.rf cE.q);obtain⟨⟨fz,cz⟩,hN,rA,sI,hk⟩:=JZ hN nY rQ mL.1 [eG] #[.int .i64 eG] 1;obtain⟨d0,d1,d2,d3,d4,_⟩:=hN.q.cells;go_wp2_with fail;refine zU hr rA sI hk λW h F=>?_
    go_wp2;go_ret;exact⟨rfl,h,F⟩
   |false=>
    rw[ax] at mj cH;replace hr:=rff (zh mj);refine cH.mono ?_;rintro e _ ⟨rfl,rfl⟩;obtain⟨d0,d1,d2,d3,d4,_⟩:=hN.q.cells;go_wp2_with fail;refine zjC (m:=qc R x1) hr (λa st' e=>hC.q G _ _ _ a x1 mR.q e) mi λW h F=>?_
    go_wp2;go_ret;exact⟨rfl,h,F⟩
end
section
open Go.RowKit Lode Go.Shelf
open Go.Proofs.Tryz
def vL{f:Nat}:Xn E base pb f uG:=λ_ _ _ _ _ _ h=>by cases h
theorem zdt{E:zr}{base pb:Nat}(hE:∀t∈E.tz,t.kind=3->zaR t.text)(hl:E.tz.length<=100000):∀n,qJ E base pb (Yy n)
 |0=>⟨hl,vL,vL,vL,vL,vL,vL,vL⟩
 |n+1=>by
  have R:=zdt (base:=base) (pb:=pb) hE hl n;have hU:=zdC R (zfi R (zfp hE R));have hN:=zic R (zid hl (zia hl (zff hl hU)));exact⟨hl,zfm hl (zif hl hN),hN,hU,Kd R,zfn hE R,zfd R,zaD hE R⟩
def RW.setT{base pb b:Nat}(h:RW E base pb G w st)(hb:w.heap[b]? =some (.cells cs T fr))(hT:T≠63/\T≠60/\T≠3)(mH:base<=b)(i:Nat)(v:Value):RW E base pb G (w.setCell ⟨b,i,none⟩ v) st:=by
 obtain⟨nv,tv,kv,P,hG,hL⟩:=h;have hk:∀k,k≠b->(w.setCell ⟨b,i,none⟩ v).heap[k]? =w.heap[k]? :=λk hk=>Below.heap_setCell _ _ _ _ (by simpa using hk)
 obtain⟨hpb,gI⟩:=P.far hb ⟨hT.1,hT.2.1⟩;refine⟨nv,tv,kv,⟨P.hpb,(hk pb hpb.symm).trans P.obj,P.tz.fr ((pG base w).setCell mH v),P.rowKept λk hh=>hk k λe=>gI (e▸hh),P.kvl,λj x u hx hu=>?_⟩,hG,λg hg=>by simpa using hL g hg⟩;obtain⟨p,cap,hv,mq⟩:=P.kz j x u hx hu;refine⟨p,cap,hv,mq.imp id λ⟨g,off,cs',fr',hp,hg,hc⟩=>⟨g,off,cs',fr',hp,?_,hc⟩⟩;rw[hk g λe=>by
  rw[e,hb] at hg;simp at hg;exact hT.2.2 hg.2.1]
 exact hg
def zjT{B b m:Nat}(o:w.ownsRow B 3 1 v m xs)(hb:w.heap[b]? =some (.cells cs T fr))(hT:T≠3)(i:Nat)(u:Value):(w.setCell ⟨b,i,none⟩ u).ownsRow B 3 1 v m xs:=ownsRow_setCell_other o (a:=⟨b,i,none⟩) (λe=>by
 obtain⟨Rq,hh⟩:=uJ o (g:=b) e;rw[hb] at hh;simp at hh;exact hT hh.2.1) u
def ItR(E:zr)(base pb tb:Nat)(R:xn)(w:World)(r:List Int×jR)(wr:World):Prop:=∃s acc k iv,Zv R k acc E s=some r/\acc.length+k=E.tz.length+1/\wr.heap[tb]? =some (.cells #[.slice none 0 0,iv] 26 (0,0))/\wr.ownsRow w.heap.size 3 1 iv acc.length (yl acc)/\RW E base pb (Gw (λ_=>False) iv) wr s/\Below base w wr
def zoY:Value->Nat
 | .slice _ n _=>n
 |_=>0
def znz(tb:Nat)(w:World):Nat:=((w.heap[tb]?).bind λo=>match o with
 | .cells cs _ _=>(cs[1]?).map zoY
 |_=>none).getD 0
def zhh{n c:Nat}{p:Option Addr}(h:w.heap[tb]? =some (.cells #[nv,.slice p n c] T (0,0))):znz tb w=n:=by
 unfold znz;rw[h];rfl
def zgO{g q i j:Nat}{a b:Array Value}{x y:Value}(hq:w.heap[g]? =some (.cells a T fr))(hm:w.heap[q]? =some (.cells b U fs))(hx:a[i]? =some x)(hy:b[j]? =some y):∀W,(zgp g q).rel w.drew W->(W.cell? ⟨g,i,none⟩=some x/\W.cell? ⟨q,j,none⟩=some y):=λW hW=>⟨(zd ((show W.heap[g]? =w.heap[g]? from hW.1).trans hq) i).trans hx,(zd ((show W.heap[q]? =w.heap[q]? from hW.2).trans hm) j).trans hy⟩
def zoj{w0 w1 w2:World}{sl:Value}{x:Int}{g' cap' m:Nat}(h1:Hid (RW E base pb (Gw (λ_=>False) v) w1 st))(ht:w1.heap[tb]? =some (.cells #[.slice none 0 0,v] 26 (0,0)))(o:Hid (w1.ownsRow w0.heap.size 3 1 v acc.length (yl acc)))(F:Hid (Below base w0 w1))(mL:base<=w0.heap.size)(Bm:base<=tb)(mC:w2.ownsRow w0.heap.size 3 1 sl m zs)(mA:w1.grownBy w2 v.ownBlock)(mJ:v.ownBlock=some g'\/g'=w1.heap.size)(Ey:sl=.slice (some ⟨g',0,none⟩) (acc.length+[x].length) cap':=by rfl)(hm:m=acc.length+[x].length:=by rfl)(hz:zs=yl acc ++ yl [x]:=by rfl):
 (w2.frozen? ⟨tb,1,none⟩=false/\w2.cell? ⟨tb,1,none⟩=some v)/\w2.heap[tb]? =w1.heap[tb]? /\∃v2 c2,sl=v2/\v2=.slice (some ⟨g',0,none⟩) (acc.length+1) c2/\(w2.setCell ⟨tb,1,none⟩ v2).heap[tb]? =some (.cells #[.slice none 0 0,v2] 26 (0,0))/\Hid (RW E base pb (Gw (λ_=>False) v2) (w2.setCell ⟨tb,1,none⟩ v2) st)/\Hid (Below base w0 (w2.setCell ⟨tb,1,none⟩ v2))/\Hid ((w2.setCell ⟨tb,1,none⟩ v2).ownsRow w0.heap.size 3 1 v2 (acc ++ [x]).length (yl (acc ++ [x]))):=by
 subst Ey hm hz;obtain⟨v2,e2,o2,h2,Gh,_⟩:=zfa h1.q o.q mL mC mA mJ;have SU:w2.heap[tb]? =w1.heap[tb]? :=mA.block tb (gtA ht) λe=>by
  obtain⟨Rq,hh⟩:=uJ o.q e.symm;rw[ht] at hh;simp at hh
 have gU:=SU.trans ht;refine⟨⟨zj gU 1,zd gU 1⟩,SU,v2,cap',e2,e2.symm,zt gU 1 v2,zh (h2.setT gU ⟨by decide,by decide,by decide⟩ Bm 1 v2),zh ?_,zh (zjT o2 gU (by decide) 1 v2)⟩;exact ((F.q.grown mA (pN mL F.q.size) (λk hk=>pN mL (o.q.lt k hk).1))).setCell Bm _
end
end Go.Proofs.YtcagibbaeageoaaGreatDoor
namespace Lode
def xV(k:Nat)(n:Int)(K:List Nat):Bool:=yT k && decide ((xr k).1<=K.length) && ((xr k).2 == 2000 || decide (K.length<=(xr k).2)) && (k != 28 || n == 0 || (n == 1 && decide (0<K.length))) && (List.range K.length).all λi=>yc k n K.length i (K.getD i 0)
def zbY(l:List Nd)(x:Nd):Bool:=xV x.kind x.n (x.kz.map (zD l))
structure Fw(s:yx):Prop where
 full:qm s.nz s.nz.length
 right:∀x∈s.nz,zbY s.nz x=true
structure Sa(s0 s:yx)(ks:List Int)(K:List Nat):Prop where
 pre:∃r,s.nz=s0.nz ++ r
 fw:Fw s
 sg:Yx (kz s.nz s.nz.length) ks.reverse ((s.nz.length:Int)-1)=some ((s0.nz.length:Int)-1)
 kn:ks.map (zD s.nz)=K
theorem zbT(l r:List Nd):∀i,i<=l.length->kz (l ++ r) i=kz l i
 |0,_=>rfl
 |i+1,h=>by
  unfold kz;rw[zbT l r i (by omega),wN (by omega)]
theorem zgH(out:List Nat):∀(a b:List Int) (p:Int),Yx out (a ++ b) p=(Yx out a p).bind (Yx out b)
 |[],b,p=>rfl
 |k :: a,b,p=>by
  show (if p<0\/k≠p then none else Yx out (a ++ b) (p-(out.getD p.toNat 0:Nat)))=(if p<0\/k≠p then none else Yx out a (p-(out.getD p.toNat 0:Nat))).bind (Yx out b)
  by_cases h:p<0\/k≠p
  ·rw[if_pos h,if_pos h];rfl
  ·rw[if_neg h,if_neg h];exact zgH out a b _
def zfZ{l:List Nd}(h0:0<=k)(h:k<l.length):zD (l ++ r) k=zD l k:=by
 unfold zD;rw[wN (by omega)]
def JF{l:List Nd}(h:∀k∈ks,0<=k/\k<l.length):ks.map (zD (l ++ r))=ks.map (zD l):=List.map_congr_left λk hk=>zfZ (h k hk).1 (h k hk).2
def Sa.mem{s0 s:yx}(A:Sa s0 s ks K):∀k∈ks,0<=k/\k<s.nz.length:=λk hk=>by
 have:=KL _ _ _ A.sg k (wY.2 hk);omega
def Sa.start{s:yx}(F:Fw s):Sa s s [] []:=⟨⟨[],(gD _).symm⟩,F,rfl,rfl⟩
def Sa.tok{s0 s s1:yx}(A:Sa s0 s ks K)(h:s1.nz=s.nz):Sa s0 s1 ks K:=by
 obtain⟨a,⟨b,c⟩,d,e⟩:=A;exact⟨by rw[h];exact a,⟨by rw[h];exact b,by rw[h];exact c⟩,by rw[h];exact d,by rw[h];exact e⟩
def Sa.cat{s0 s s1:yx}(A:Sa s0 s ks K)(B:Sa s s1 Mn K1):Sa s0 s1 (ks ++ Mn) (K ++ K1):=by
 obtain⟨r,hr⟩:=A.pre;obtain⟨q,hq⟩:=B.pre;refine⟨⟨r ++ q,by rw[hq,hr,List.append_assoc]⟩,B.fw,?_,?_⟩
 ·rw[List.reverse_append,zgH,B.sg];have pk:s.nz.length<=s1.nz.length:=by rw[hq,pE];omega
  have e:kz s1.nz s.nz.length=kz s.nz s.nz.length:=by rw[hq];exact zbT _ _ _ (pC _)
  have:=A.sg;rw[show (some ((s.nz.length:Int)-1)).bind (Yx (kz s1.nz s1.nz.length) ks.reverse)=Yx (kz s1.nz s1.nz.length) ks.reverse ((s.nz.length:Int)-1) from rfl,<-this];refine Xo _ _ λj hj=>?_
  rw[(Jc B.fw.full pk).2 j (by omega),e]
 ·rw[List.map_append,B.kn,<-A.kn,hq,JF A.mem]
def Sa.add{s0 s:yx}(A:Sa s0 s ks K){k:Nat}{p:Int}(bG:xV k n K=true):Sa s0 {s with nz:=s.nz ++ [⟨k,x,n,ks,p⟩]} [(s.nz.length:Int)] [k]:=by
 obtain⟨r,hr⟩:=A.pre;have Dv:(s.nz ++ [(⟨k,x,n,ks,p⟩:Nd)])[s.nz.length]? =some ⟨k,x,n,ks,p⟩:=by simp
 have e:kz (s.nz ++ [(⟨k,x,n,ks,p⟩:Nd)]) s.nz.length=kz s.nz s.nz.length:=zbT _ _ _ (pC _);have hF:qm (s.nz ++ [(⟨k,x,n,ks,p⟩:Nd)]) s.nz.length:=by unfold qm;rw[e];exact A.fw.full
 have pk:s0.nz.length<=s.nz.length:=by rw[hr,pE];omega
 have hA:=A.fw.full;unfold qm at hA;obtain⟨h1,h2⟩:=zhp hF (p:=(s0.nz.length:Int)-1) (by rw[Dv,e];exact A.sg);have mV:(s.nz ++ [(⟨k,x,n,ks,p⟩:Nd)]).length=s.nz.length+1:=by simp
 refine⟨⟨r ++ [⟨k,x,n,ks,p⟩],by rw[hr,List.append_assoc]⟩,⟨by rw[mV];exact h1,λy hy=>?_⟩,?_,?_⟩
 ·unfold zbY;rcases pW.1 hy with hy|hy
  ·rw[JF (zcJ A.fw.full hy)];exact A.fw.right y hy
  ·rw[wD] at hy;subst hy;simp only;rw[JF A.mem,A.kn];exact bG
 ·simp only;rw[mV,h2,e];simp only[List.reverse_cons,List.reverse_nil,pV,Yx];rw[if_neg (by omega)];have e3:(kz s.nz s.nz.length ++ [((s.nz.length:Int)-((s0.nz.length:Int)-1)).toNat]).getD (((s.nz.length+1:Nat):Int)-1).toNat 0=s.nz.length-s0.nz.length+1:=by
   rw[show (((s.nz.length+1:Nat):Int)-1).toNat=s.nz.length by omega,pA,wM (by omega),hA];simp;omega
  rw[e3];congr 1;omega
 ·simp[zD]
def I1(a:Int):List Int:=[a]
def jB(p:Nat->Bool)(K:List Nat)(_:α):Prop:=∃k,K=[k]/\p k=true
def zmu(p:Nat->Bool)(K:List Nat)(_:α):Prop:=K≠[]/\∀k∈K,p k=true
def zoo(p:Nat->Bool)(K:List Nat)(_:α):Prop:=∀k∈K,p k=true
def Fd(Q:List Nat->α->Prop)(vs:α->List Int)(m:PM α):Prop:=∀(E:zr) (s:yx) (a:α) (s':yx),Fw s->m E s=.ok a s'->∃K,Sa s s' (vs a) K/\Q K a
def Nn(m:PM α):Prop:=∀(E:zr) (s:yx) (a:α) (s':yx),m E s=.ok a s'->s'.nz=s.nz
section
variable {α β:Type} {E:zr} {s0 s s':yx} {ks:List Int} {K:List Nat} {b:β}
def kT{m:PM α}{f:α->PM β}{Q:List Nat->α->Prop}{vs:α->List Int}(h:(m >>= f) E s=.ok b s')(A:Sa s0 s ks K)(g:Fd Q vs m):∃a s1 K1,Q K1 a/\Sa s0 s1 (ks ++ vs a) (K ++ K1)/\f a E s1=.ok b s':=by
 obtain⟨a,s1,h1,h⟩:=zo h;obtain⟨K1,B,q⟩:=g E s a s1 A.fw h1;exact⟨a,s1,K1,q,A.cat B,h⟩
def xu{m:PM α}{f:α->PM β}(h:(m >>= f) E s=.ok b s')(A:Sa s0 s ks K)(g:Nn m):∃a s1,Sa s0 s1 ks K/\f a E s1=.ok b s':=by
 obtain⟨a,s1,h1,h⟩:=zo h;exact⟨a,s1,A.tok (g E s a s1 h1),h⟩
def xQ{k:Nat}{p a:Int}(h:zT k x n p ks E s=.ok a s')(A:Sa s0 s ks K)(bG:xV k n K=true)(hq:q k=true):∃K',Sa s0 s' (I1 a) K'/\jB q K' a:=by
 cases h;exact⟨_,A.add bG,k,rfl,hq⟩
def zY:Nn (zC x):=by
 intro E s a s' h;unfold zC at h;split at h <;> cases h;rfl
def qC{k:Nat}:Nn (xp k):=by
 intro E s a s' h;unfold xp at h;split at h <;> cases h;rfl
def xb:Nn (yo x):=by
 intro E s a s' h;unfold yo at h;split at h <;> cases h <;> rfl
def JC:Nn YU:=by intro E s a s' h;cases h;rfl
def vW:Nn jH:=by intro E s a s' h;cases h;rfl
def zcr:Nn Zd:=by intro E s a s' h;cases h;rfl
def Ki:Nn (YA l):=by intro E s a s' h;cases h;rfl
end
structure uE(P:qi):Prop where
 expr:Fd (jB zz) I1 P.expr
 unary:Fd (jB zz) I1 P.unary
 bin2:Fd (jB zz) I1 P.bin2
 block:Fd (jB (· == 28)) I1 P.block
 branch:Fd (jB (· == 29)) I1 P.branch
 kind:Fd (jB xf.type.is) I1 P.kind
 pattern:Fd (jB xf.pattern.is) I1 P.pattern
def zhO{k:Nat}(h:∀(i:Nat) (hi:i<K.length),yc k n K.length i K[i]=true):((List.range K.length).all λi=>yc k n K.length i (K.getD i 0))=true:=by
 rw[pY];intro i hi;rw[List.mem_range] at hi;rw[pA,glE hi];exact h i hi
def uV{k:Nat}(h1:yT k=true)(h2:(xr k).1<=K.length)(h3:(xr k).2=2000\/K.length<=(xr k).2)(h4:k=28->n=0\/n=1/\0<K.length)(h5:∀(i:Nat) (hi:i<K.length),yc k n K.length i K[i]=true):xV k n K=true:=by
 unfold xV;rw[zhO h5,h1];have e2:decide ((xr k).1<=K.length)=true:=wU h2;have e3:((xr k).2 == 2000 || decide (K.length<=(xr k).2))=true:=by simpa using h3
 have e4:(k != 28 || n == 0 || (n == 1 && decide (0<K.length)))=true:=by
  by_cases hk:k=28
  ·rcases h4 hk with h|⟨h,h'⟩
   ·simp[h]
   ·simp[h,h']
  ·simp[hk]
 rw[e2,e3,e4];rfl
def yI{k:Nat}(hK:∀j∈K,p j=true)(hs:∀m i j,p j=true->yc k n m i j=true)(h1:yT k=true:=by decide)(h2:(xr k).1<=K.length:=by simp[xr])(h3:(xr k).2=2000\/K.length<=(xr k).2:=by simp[xr])(h4:k≠28:=by decide):xV k n K=true:=uV h1 h2 h3 (λe=>absurd e h4) λi hi=>hs _ _ _ (hK _ (wE hi))
section
variable {R:qi}
theorem zd4{part:PM Int}{p:Nat->Bool}(hp:Fd (jB p) I1 part):∀(n:Nat) (acc:List Int) {E:zr} {s0 s:yx} {a:List Int} {s':yx} {K:List Nat},Sa s0 s acc K->(∀k∈K,p k=true)->jI n part acc E s=.ok a s'->∃K,Sa s0 s' a K/\K≠[]/\∀k∈K,p k=true
 |0,_,_,_,_,_,_,_,_,_,h=>by cases h
 |n+1,acc,E,s0,s,a,s',K,A,hK,h=>by
  unfold jI at h;obtain⟨x,s1,K1,⟨k,rfl,hk⟩,A,h⟩:=kT h A hp;have gw:∀j∈K ++ [k],p j=true:=λj hj=>by
   rcases pW.1 hj with hj|hj
   ·exact hK j hj
   ·rw[wD] at hj;rw[hj];exact hk
  obtain⟨b,s2,A,h⟩:=xu h A xb;cases b with
  |true=>exact zd4 hp n _ A gw h
  |false=>
   obtain⟨rfl,rfl⟩:=zK h;exact⟨_,A,by simp,gw⟩
def zcx(hp:Fd (jB p) I1 part):Fd (zmu p) (λl=>l) (jW part):=λE s a s' F h=>zd4 hp _ [] (Sa.start F) (λk hk=>by cases hk) h
def XB(hp:Fd (jB p) I1 part):Fd (zmu p) (λl=>l) (qB part):=by
 intro E s a s' F h;have A:=Sa.start F;unfold qB at h;obtain⟨x,s1,A,h⟩:=xu h A zY;obtain⟨l,sl,Kl,ql,A,h⟩:=kT h A (zcx hp);obtain⟨y,s2,A,h⟩:=xu h A zY;obtain⟨rfl,rfl⟩:=zK h;exact⟨_,A,ql⟩
def JH{w:List (List UInt8)}(hp:Fd (jB p) I1 part):Fd (zoo p) (λl=>l) (do if <-YA w then pure [] else jW part:PM (List Int)):=by
 intro E s a s' F h;have A:=Sa.start F;obtain⟨b,s1,A,h⟩:=xu h A Ki;split at h
 ·obtain⟨rfl,rfl⟩:=zK h;exact⟨_,A,λk hk=>by cases hk⟩
 ·obtain⟨K,B,q⟩:=zcx hp E s1 a s' A.fw h;exact⟨_,A.cat B,q.2⟩
def VG(hp:Fd (jB p) I1 part):Fd (zoo p) (λl=>l) (jd part):=by
 intro E s a s' F h;have A:=Sa.start F;unfold jd at h;obtain⟨b,s1,A,h⟩:=xu h A xb;split at h
 ·obtain⟨l,sl,Kl,ql,A,h⟩:=kT h A (zcx hp);obtain⟨y,s2,A,h⟩:=xu h A zY;obtain⟨rfl,rfl⟩:=zK h;exact⟨_,A,ql.2⟩
 ·obtain⟨rfl,rfl⟩:=zK h;exact⟨_,A,λk hk=>by cases hk⟩
def zdP(hR:uE R):Fd (jB (· == 88)) I1 (ka R):=by
 intro E s a s' F h;have A:=Sa.start F;unfold ka at h;obtain⟨t,s1,A,h⟩:=xu h A qC;obtain⟨_,s2,A,h⟩:=xu h A zY;obtain⟨x,s3,_,⟨k,rfl,hk⟩,A,h⟩:=kT h A hR.kind;exact xQ h A (yI (p:=xf.type.is) (by simpa using hk) (λ_ _ _ h=>h)) rfl
def zlM(hR:uE R):Fd (jB (· == 89)) I1 (Yz R):=by
 intro E s a s' F h;have A:=Sa.start F;unfold Yz at h;obtain⟨t,s1,A,h⟩:=xu h A qC;obtain⟨l,sl,Kl,ql,A,h⟩:=kT h A (VG hR.kind);exact xQ h A (yI (p:=xf.type.is) ql (λ_ _ _ h=>h)) rfl
def zki(K:List Nat)(_:α):Prop:=∃ps k,K=ps ++ [k]/\(∀j∈ps,(j == 88)=true)/\xf.type.is k=true
def zcG(hR:uE R):Fd zki (λl=>l) (Zh R):=by
 intro E s a s' F h;have A:=Sa.start F;unfold Zh at h;obtain⟨_,s1,A,h⟩:=xu h A zY;obtain⟨l,sl,Kl,ql,A,h⟩:=kT h A (JH (zdP hR));obtain⟨_,s2,A,h⟩:=xu h A zY;obtain⟨_,s3,A,h⟩:=xu h A zY;obtain⟨x,s4,_,⟨k,rfl,hk⟩,A,h⟩:=kT h A hR.kind;obtain⟨rfl,rfl⟩:=zK h;exact⟨_,A,Kl,k,rfl,ql,hk⟩
def zlK(hR:uE R):Fd (jB xf.type.is) I1 (YB R):=by
 intro E s a s' F h;have A:=Sa.start F;unfold YB at h;obtain⟨t,s1,A,h⟩:=xu h A JC;split at h
 ·obtain⟨_,s2,A,h⟩:=xu h A vW;exact xQ h A (by decide) rfl
 obtain⟨b,s2,A,h⟩:=xu h A xb;split at h
 ·exact xQ h A (by decide) rfl
 obtain⟨b,s2,A,h⟩:=xu h A xb;split at h
 ·exact xQ h A (by decide) rfl
 obtain⟨b,s2,A,h⟩:=xu h A xb;split at h
 ·exact xQ h A (by decide) rfl
 obtain⟨b,s2,A,h⟩:=xu h A xb;split at h
 ·exact xQ h A (by decide) rfl
 obtain⟨b,s2,A,h⟩:=xu h A xb;split at h
 ·obtain⟨x,s3,_,⟨k,rfl,hk⟩,A,h⟩:=kT h A hR.kind;exact xQ h A (yI (p:=xf.type.is) (by simpa using hk) (λ_ _ _ h=>h)) rfl
 obtain⟨b,s2,A,h⟩:=xu h A xb;split at h
 ·obtain⟨x,s3,_,⟨k,rfl,hk⟩,A,h⟩:=kT h A hR.kind;exact xQ h A (yI (p:=xf.type.is) (by simpa using hk) (λ_ _ _ h=>h)) rfl
 obtain⟨_,s3,A,h⟩:=xu h A zY;obtain⟨_,s3,A,h⟩:=xu h A zY;obtain⟨l,sl,Kl,ql,A,h⟩:=kT h A (JH hR.kind);obtain⟨_,s3,A,h⟩:=xu h A zY;obtain⟨_,s3,A,h⟩:=xu h A zY;obtain⟨x,s4,_,⟨k,rfl,hk⟩,A,h⟩:=kT h A hR.kind;refine xQ h A (yI (p:=xf.type.is) (λj hj=>?_) (λ_ _ _ h=>h)) rfl;rcases pW.1 hj with hj|hj
 ·exact ql j hj
 ·rw[wD] at hj;rw[hj];exact hk
def zhW{k x y:Nat}(hk:k∈[8,9,10,11,12,13,14,15,16,17,18,19,20,21,22])(hx:zz x=true)(hy:zz y=true):xV k 0 [x,y]=true:=by
 have h1:∀k,k∈[8,9,10,11,12,13,14,15,16,17,18,19,20,21,22]->yT k=true/\xr k=(2,2)/\k≠28/\zz k=true:=by decide
 have h2:∀m i j,yc k 0 m i j=zz j:=by
  intro m i j;simp only[wI,wL,or_false] at hk;rcases hk with rfl|rfl|rfl|rfl|rfl|rfl|rfl|rfl|rfl|rfl|rfl|rfl|rfl|rfl|rfl <;> rfl
 obtain⟨a,b,c,_⟩:=h1 k hk;exact yI (p:=zz) (by simp[hx,hy]) (λm i j h=>by rw[h2];exact h) a (by rw[b];exact pC 2) (.inr (by rw[b];exact pC 2)) c
def zlk(hR:uE R):Fd (λK (x:Int×Bool)=>∃k,K=[k]/\xf.stmt.is k=true/\(x.2=true->zz k=true)) (λx=>[x.1]) (Ze R):=by
 intro E s a s' F h;have A:=Sa.start F;unfold Ze at h;obtain⟨t,s1,A,h⟩:=xu h A JC;obtain⟨b,s2,A,h⟩:=xu h A xb;split at h
 ·obtain⟨_,s3,A,h⟩:=xu h A qC;obtain⟨_,s3,A,h⟩:=xu h A zY;obtain⟨x,s3,_,⟨k,rfl,hk⟩,A,h⟩:=kT h A hR.expr;obtain⟨r,s4,h4,h⟩:=zo h;obtain⟨K',B,k',rfl,rU⟩:=xQ (q:=xf.stmt.is) h4 A (yI (p:=zz) (by simpa using hk) (λ_ _ _ h=>h)) rfl;obtain⟨rfl,rfl⟩:=zK h;exact⟨_,B,k',rfl,rU,λe=>by cases e⟩
 obtain⟨b,s2,A,h⟩:=xu h A xb;split at h
 ·obtain⟨_,s3,A,h⟩:=xu h A qC;obtain⟨_,s3,A,h⟩:=xu h A zY;obtain⟨x,s3,_,⟨k,rfl,hk⟩,A,h⟩:=kT h A hR.expr;obtain⟨r,s4,h4,h⟩:=zo h;obtain⟨K',B,k',rfl,rU⟩:=xQ (q:=xf.stmt.is) h4 A (yI (p:=zz) (by simpa using hk) (λ_ _ _ h=>h)) rfl;obtain⟨rfl,rfl⟩:=zK h;exact⟨_,B,k',rfl,rU,λe=>by cases e⟩
 obtain⟨x,s3,_,⟨k,rfl,hk⟩,A,h⟩:=kT h A hR.expr;obtain⟨b,s4,A,h⟩:=xu h A Ki;split at h
 ·have sC:[zD s4.nz x]=[k]:=A.kn;obtain⟨j,s5,h5,h⟩:=zo h;cases h5;split at h
  ·rename_i hj;obtain⟨u,s5,A,h⟩:=xu h A zcr;obtain⟨y,s6,_,⟨k2,rfl,nj⟩,A,h⟩:=kT h A hR.expr;obtain⟨r,s7,h7,h⟩:=zo h;have dU:k=5\/k=23:=by
    have e:zD s4.nz x=k:=(List.cons.inj sC).1;rw[wG,pR,pR] at hj;rw[<-e];exact hj
   obtain⟨K',B,k',rfl,rU⟩:=xQ (q:=xf.stmt.is) h7 A (by rcases dU with rfl|rfl <;> simp[xV,yT,xr,List.range_succ,yc,nj]) rfl;obtain⟨rfl,rfl⟩:=zK h;exact⟨_,B,k',rfl,rU,λe=>by cases e⟩
  ·cases h
 ·obtain⟨rfl,rfl⟩:=zK h;exact⟨_,A,k,rfl,by simp[xf.is,hk],λ_=>hk⟩
def zm2(K:List Nat)(x:List Int×Int):Prop:=(∀k∈K,xf.stmt.is k=true)/\(x.2=0\/x.2=1/\∃K' k,K=K' ++ [k]/\zz k=true)
theorem zdk(hR:uE R):∀(n:Nat) (acc:List Int) {E:zr} {s0 s:yx} {a:List Int×Int} {s':yx} {K:List Nat},Sa s0 s acc K->(∀k∈K,xf.stmt.is k=true)->qq R n acc E s=.ok a s'->∃K,Sa s0 s' a.1 K/\zm2 K a
 |0,_,_,_,_,_,_,_,_,_,h=>by cases h
 |n+1,acc,E,s0,s,a,s',K,A,hK,h=>by
  unfold qq at h;obtain⟨b,s1,A,h⟩:=xu h A Ki;split at h
  ·obtain⟨rfl,rfl⟩:=zK h;exact⟨_,A,hK,.inl rfl⟩
  ·obtain⟨x,s2,_,⟨k,rfl,hk,hx⟩,A,h⟩:=kT h A (zlk hR);have gw:∀j∈K ++ [k],xf.stmt.is j=true:=λj hj=>by
    rcases pW.1 hj with hj|hj
    ·exact hK j hj
    ·rw[wD] at hj;rw[hj];exact hk
   obtain⟨b,s3,A,h⟩:=xu h A Ki;split at h
   ·rename_i hb;rw[pJ] at hb;obtain⟨rfl,rfl⟩:=zK h;exact⟨_,A,gw,.inr ⟨rfl,K,k,rfl,hx hb.1⟩⟩
   ·obtain⟨_,s4,A,h⟩:=xu h A zY;exact zdk hR n _ A gw h
def zkx(hR:uE R):Fd (jB (· == 28)) I1 (vP R):=by
 intro E s a s' F h;have A:=Sa.start F;unfold vP at h;obtain⟨t,s1,A,h⟩:=xu h A zY;obtain⟨x,s2,h2,h⟩:=zo h;obtain⟨K,B,hK,hx⟩:=zdk hR _ [] A (λk hk=>by cases hk) h2;obtain⟨_,s3,B,h⟩:=xu h B zY;refine xQ h B ?_ rfl;rcases hx with h0|⟨h1,K',k,rfl,hk⟩
 ·rw[h0];exact uV rfl (pU _) (.inl rfl) (λ_=>.inl rfl) λi hi=>by
   have:=hK _ (wE hi);simp[yc,this]
 ·rw[h1];refine uV rfl (pU _) (.inl rfl) (λ_=>.inr ⟨rfl,by simp⟩) λi hi=>?_
  have:=hK _ (wE hi);rcases Nat.lt_or_ge (i+1) (K' ++ [k]).length with hl|hl
  ·simp only[yc,this];simp only[pE,pI] at hl ⊢;simp[hl]
  ·have e:i=K'.length:=by simp at hi hl;omega
   subst e;have e2:(K' ++ [k])[K'.length]=k:=by simp
   rw[e2] at this ⊢;simp[yc,this,hk]
def zj1:∀lv,lv<5->∀w,w∈yD lv->YX lv w∈[8,9,10,11,12,13,14,15,16,17,18,19,20,21,22]:=by decide
def znv(h:xO t l=true):t.text∈l:=by
 unfold xO at h;rw[pJ] at h;simpa using h.2
theorem zjW{tight:PM Int}(ht:Fd (jB zz) I1 tight)(lv:Nat)(Ng:lv<5):∀(n:Nat) (left:Int) {E:zr} {s0 s:yx} {a:Int} {s':yx} {k:Nat},Sa s0 s [left] [k]->zz k=true->YE lv tight n left E s=.ok a s'->∃K,Sa s0 s' (I1 a) K/\jB zz K a
 |0,_,_,_,_,_,_,_,_,_,h=>by cases h
 |n+1,left,E,s0,s,a,s',k,A,hk,h=>by
  unfold YE at h;obtain⟨b,s1,h1,h⟩:=zo h;cases h1;split at h
  ·rename_i hb;obtain⟨t,s2,h2,h⟩:=zo h;cases h2;replace A:=A.tok (s1:={s with next:=s.next+1}) rfl;obtain⟨r,s3,_,⟨k2,rfl,nj⟩,A,h⟩:=kT h A ht;obtain⟨x,s4,h4,h⟩:=zo h;have tE:=zj1 lv Ng _ (znv hb);obtain⟨K',B,k',rfl,rU⟩:=xQ (q:=zz) h4 A (zhW tE hk nj) (by
    have:∀j,j∈[8,9,10,11,12,13,14,15,16,17,18,19,20,21,22]->zz j=true:=by decide
    exact this _ tE)
   split at h
   ·obtain⟨rfl,rfl⟩:=zK h;exact⟨_,B,k',rfl,rU⟩
   ·exact zjW ht lv Ng n x B rU h
  ·obtain⟨rfl,rfl⟩:=zK h;exact⟨_,A,k,rfl,hk⟩
def zar(ht:Fd (jB zz) I1 tight)(lv:Nat)(Ng:lv<5):Fd (jB zz) I1 (Zp lv tight):=by
 intro E s a s' F h;have A:=Sa.start F;unfold Zp at h;obtain⟨l,s1,_,⟨k,rfl,hk⟩,A,h⟩:=kT h A ht;exact zjW ht lv Ng _ l A hk h
theorem zgK(hR:uE R):∀(n:Nat) (first:Bool) (acc:List Int) {E:zr} {s0 s:yx} {a:List Int} {s':yx} {K:List Nat},Sa s0 s acc K->(∀k∈K,zz k=true)->qP R n first acc E s=.ok a s'->∃K',Sa s0 s' a K'/\K'.length=K.length+n/\∀k∈K',zz k=true
 |0,_,acc,_,_,_,_,_,_,A,hK,h=>by
  obtain⟨rfl,rfl⟩:=zK h;exact⟨_,A,rfl,hK⟩
 |n+1,first,acc,E,s0,s,a,s',K,A,hK,h=>by
  unfold qP at h;obtain⟨u,s1,A,h⟩:=xu h A (by
   intro E s a s' h;split at h
   ·obtain⟨_,rfl⟩:=zK h;rfl
   ·obtain⟨_,s2,h2,h⟩:=zo h;obtain⟨_,rfl⟩:=zK h;exact zY _ _ _ _ h2)
  obtain⟨x,s2,_,⟨k,rfl,hk⟩,A,h⟩:=kT h A hR.expr;obtain⟨K',B,hl,DO⟩:=zgK hR n false _ A (λj hj=>by
   rcases pW.1 hj with hj|hj
   ·exact hK j hj
   ·rw[wD] at hj;rw[hj];exact hk) h
  exact⟨K',B,by rw[hl];simp;omega,DO⟩
def zeI:∀w,w∈zN->(if w.2.2<0 then xr w.2.1=(1,1) else if 0<w.2.2 then xr w.2.1=(w.2.2.toNat,w.2.2.toNat) else xr w.2.1=(0,0))/\yT w.2.1=true/\w.2.1≠28/\zz w.2.1=true/\w.2.1∈[44,45,46,41,42,43,47,50,51,48,49,37,38,39]:=by decide
def zeH{k:Nat}(h:k∈[44,45,46,41,42,43,47,50,51,48,49,37,38,39])(m i j:Nat):yc k 0 m i j=zz j:=by
 simp only[wI,wL,or_false] at h;rcases h with rfl|rfl|rfl|rfl|rfl|rfl|rfl|rfl|rfl|rfl|rfl|rfl|rfl|rfl <;> rfl
def zk9(hR:uE R)(t:yO)(w:Nat×Int)(x:List UInt8)(hw:(x,w)∈zN):Fd (jB zz) I1 (vn R t w):=by
 intro E s a s' F h;have A:=Sa.start F;obtain⟨hf,hk,PO,he,ml⟩:=zeI _ hw;simp only at hf hk PO he ml;unfold vn at h;obtain⟨l,s1,h1,h⟩:=zo h;have key:∃K,Sa s s1 l K/\(∀k∈K,zz k=true)/\xr w.1=(K.length,K.length):=by
  split at h1
  ·rename_i RJ;obtain⟨x,s2,_,⟨k,rfl,hk⟩,A,h1⟩:=kT h1 A hR.unary;obtain⟨rfl,rfl⟩:=zK h1;rw[if_pos RJ] at hf;exact⟨_,A,by simpa using hk,hf⟩
  ·rename_i RJ;rw[if_neg RJ] at hf;split at h1
   ·rename_i Md;rw[if_pos Md] at hf;obtain⟨_,s2,A,h1⟩:=xu h1 A zY;obtain⟨l2,s3,h3,h1⟩:=zo h1;obtain⟨K',B,hl,DO⟩:=zgK hR _ _ [] A (λk hk=>by cases hk) h3;obtain⟨_,s4,B,h1⟩:=xu h1 B zY;obtain⟨rfl,rfl⟩:=zK h1;exact⟨K',B,DO,by rw[hf,hl];simp⟩
   ·rename_i Md;rw[if_neg Md] at hf;obtain⟨rfl,rfl⟩:=zK h1;exact⟨_,A,(λk hk=>by cases hk),hf⟩
 obtain⟨K,A,hK,hf⟩:=key;exact xQ h A (yI (p:=zz) hK (λm i j hj=>by rw[zeH ml];exact hj) hk (by rw[hf];exact pC _) (.inr (by rw[hf];exact pC _)) PO) he
def znf(hR:uE R):Fd (jB (· == 27)) I1 (KD R):=by
 intro E s a s' F h;have A:=Sa.start F;unfold KD at h;obtain⟨t,s1,A,h⟩:=xu h A qC;obtain⟨_,s2,A,h⟩:=xu h A zY;obtain⟨x,s3,_,⟨k,rfl,hk⟩,A,h⟩:=kT h A hR.expr;exact xQ h A (yI (p:=zz) (by simpa using hk) (λ_ _ _ h=>h)) rfl
def znL(hR:uE R):Fd (jB (· == 32)) I1 (KF R):=by
 intro E s a s' F h;have A:=Sa.start F;unfold KF at h;obtain⟨x,s1,_,⟨k,rfl,hk⟩,A,h⟩:=kT h A hR.pattern;obtain⟨t,s2,A,h⟩:=xu h A zY;obtain⟨y,s3,_,⟨k2,rfl,nj⟩,A,h⟩:=kT h A hR.expr;exact xQ h A (by simp[xV,yT,xr,List.range_succ,yc,hk,nj]) rfl
end
section
variable {R:qi}
def zc5(k:Nat):Bool:=k == 63 || k == 64
def zgA(K:List Nat):Prop:=K≠[]/\∀(i:Nat) (hi:i<K.length),xf.way.is K[i]=true/\(i+1=K.length\/K[i]≠65)
theorem zbQ(hR:uE R):∀(n:Nat) (acc:List Int) {E:zr} {s0 s:yx} {a:List Int} {s':yx} {K:List Nat},Sa s0 s acc K->(∀k∈K,zc5 k=true)->uj R n acc E s=.ok a s'->∃K',Sa s0 s' a K'/\zgA K'
 |0,_,_,_,_,_,_,_,_,_,h=>by cases h
 |n+1,acc,E,s0,s,a,s',K,A,hK,h=>by
  have fin:∀(k:Nat),xf.way.is k=true->zgA (K ++ [k]):=λk hk=>⟨by simp,λi hi=>by
   rcases Nat.lt_or_ge i K.length with hl|hl
   ·rw[List.getElem_append_left hl];have:=hK _ (wE hl);unfold zc5 at this;simp only[wG,pR] at this;simp only[xf.is,pJ,pK];omega
   ·have e:i=K.length:=by simp at hi;omega
    subst e;simp[hk]⟩
  have more:∀(k:Nat),zc5 k=true->∀j∈K ++ [k],zc5 j=true:=λk hk j hj=>by
   rcases pW.1 hj with hj|hj
   ·exact hK j hj
   ·rw[wD] at hj;rw[hj];exact hk
  unfold uj at h;obtain⟨_,_,A,h⟩:=xu h A JC;obtain⟨b,s2,A,h⟩:=xu h A xb;have A0:=Sa.start A.fw;split at h
  ·obtain⟨x,s3,_,⟨k,rfl,hk⟩,B,h⟩:=kT h A0 hR.expr;obtain⟨_,_,B,h⟩:=xu h B zY;obtain⟨_,_,B,h⟩:=xu h B qC;obtain⟨_,_,B,h⟩:=xu h B zY;obtain⟨y,s4,_,⟨k2,rfl,nj⟩,B,h⟩:=kT h B hR.expr;obtain⟨r,s5,h5,h⟩:=zo h;obtain⟨_,B,k',rfl,rU⟩:=xQ (q:=zc5) h5 B (by simp[xV,yT,xr,List.range_succ,yc,hk,nj]) rfl;replace A:=A.cat B;obtain⟨b,s6,A,h⟩:=xu h A xb;split at h
   ·exact zbQ hR n _ A (more _ rU) h
   ·obtain⟨rfl,rfl⟩:=zK h;exact⟨_,A,fin _ (by unfold zc5 at rU;simp[xf.is] at rU ⊢;omega)⟩
  obtain⟨b,s2,A,h⟩:=xu h A xb;have A0:=Sa.start A.fw;split at h
  ·obtain⟨x,s3,_,⟨k,rfl,hk⟩,B,h⟩:=kT h A0 hR.expr;obtain⟨_,_,B,h⟩:=xu h B zY;obtain⟨y,s4,_,⟨k2,rfl,nj⟩,B,h⟩:=kT h B hR.expr;obtain⟨_,_,B,h⟩:=xu h B zY;obtain⟨z,s4,_,⟨k3,rfl,na⟩,B,h⟩:=kT h B hR.expr;obtain⟨r,s5,h5,h⟩:=zo h;obtain⟨_,B,k',rfl,rU⟩:=xQ (q:=zc5) h5 B (by simp[xV,yT,xr,List.range_succ,yc,hk,nj,na]) rfl;replace A:=A.cat B;obtain⟨b,s6,A,h⟩:=xu h A xb;split at h
   ·exact zbQ hR n _ A (more _ rU) h
   ·obtain⟨rfl,rfl⟩:=zK h;exact⟨_,A,fin _ (by unfold zc5 at rU;simp[xf.is] at rU ⊢;omega)⟩
  obtain⟨_,_,A,h⟩:=xu h A zY;obtain⟨_,_,A,h⟩:=xu h A zY;have A0:=Sa.start A.fw;obtain⟨x,s3,_,⟨k,rfl,hk⟩,B,h⟩:=kT h A0 hR.expr;obtain⟨r,s5,h5,h⟩:=zo h;obtain⟨_,B,k',rfl,rU⟩:=xQ (q:=xf.way.is) h5 B (by simp[xV,yT,xr,List.range_succ,yc,hk]) rfl;replace A:=A.cat B;obtain⟨rfl,rfl⟩:=zK h;exact⟨_,A,fin _ rU⟩
def ze4(h:zgA K):xV 35 0 K=true:=uV rfl (by have:=List.length_pos_iff.2 h.1;exact this) (.inl rfl) (λe=>by cases e) λi hi=>by
 obtain⟨a,b⟩:=h.2 i hi;have:(decide (i+1=K.length) || K[i] != 65)=true:=by simpa using b
 simp only[yc,a];exact this
def zhZ(hR:uE R):Fd (λK _=>zgA K) (λl=>l) (kD R):=by
 intro E s a s' F h;have A:=Sa.start F;unfold kD at h;obtain⟨_,_,A,h⟩:=xu h A zY;obtain⟨x,s2,h2,h⟩:=zo h;obtain⟨K,A,hK⟩:=zbQ hR _ [] A (λk hk=>by cases hk) h2;obtain⟨_,_,A,h⟩:=xu h A zY;obtain⟨rfl,rfl⟩:=zK h;exact⟨K,A,hK⟩
def zbD(hR:uE R):Fd (jB (· == 29)) I1 (jz R):=by
 intro E s a s' F h;have A:=Sa.start F;unfold jz at h;obtain⟨_,_,A,h⟩:=xu h A zY;obtain⟨c,_,_,⟨k1,rfl,nO⟩,A,h⟩:=kT h A (hR.expr);obtain⟨b,_,_,⟨k2,rfl,nj⟩,A,h⟩:=kT h A (hR.block);simp only[pR] at nj;subst nj;obtain⟨_,_,A,h⟩:=xu h A xb;split at h
 ·obtain⟨_,_,A,h⟩:=xu h A Ki;split at h
  ·obtain⟨x,_,_,⟨k3,rfl,na⟩,A,h⟩:=kT h A (hR.branch);simp only[pR] at na;subst na;exact xQ h A (by simp[xV,yT,xr,List.range_succ,yc,xf.is,nO]) rfl
  ·obtain⟨x,_,_,⟨k3,rfl,na⟩,A,h⟩:=kT h A (hR.block);simp only[pR] at na;subst na;exact xQ h A (by simp[xV,yT,xr,List.range_succ,yc,xf.is,nO]) rfl
 ·exact xQ h A (by simp[xV,yT,xr,List.range_succ,yc,xf.is,nO]) rfl
def ze6{k c:Nat}(hc:zz c=true)(hK:∀j∈K,p j=true)(h1:yT k=true)(h2:(xr k).1<=K.length+1)(h3:(xr k).2=2000)(h4:k≠28)(s0:∀m,yc k 0 m 0 c=true)(s1:∀m i j,p j=true->yc k 0 m (i+1) j=true):xV k 0 (c :: K)=true:=uV h1 h2 (.inl h3) (λe=>absurd e h4) λi hi=>by
 cases i with
 |zero=>exact s0 _
 |succ i=>exact s1 _ _ _ (hK _ (wE (by simpa using hi)))
def za1{k:Nat}(hk:k=33\/k=102){l:List Int}(h:zki K l):xV k n (K ++ [28])=true:=by
 obtain⟨ps,t,rfl,hp,ht⟩:=h;have h1:yT k=true/\xr k=(2,2000)/\k≠28:=by rcases hk with rfl|rfl <;> decide
 refine uV h1.1 (by rw[h1.2.1];simp) (.inl (by rw[h1.2.1])) (λe=>absurd e h1.2.2) λi hi=>?_
 have hs:yc k n (ps ++ [t] ++ [28]).length i ((ps ++ [t] ++ [28])[i])=((decide (i+2<(ps ++ [t] ++ [28]).length) && (ps ++ [t] ++ [28])[i] == 88) || (decide (i+2=(ps ++ [t] ++ [28]).length) && xf.type.is (ps ++ [t] ++ [28])[i]) || (decide (i+1=(ps ++ [t] ++ [28]).length) && (ps ++ [t] ++ [28])[i] == 28)):=by rcases hk with rfl|rfl <;> rfl
 rw[hs];have hl:(ps ++ [t] ++ [28]).length=ps.length+2:=by simp
 rw[hl];have po:i<ps.length\/i=ps.length\/i=ps.length+1:=by omega
 rcases po with h|h|h
 ·have e:(ps ++ [t] ++ [28])[i]=ps[i]:=by rw[List.getElem_append_left (by simp;omega),List.getElem_append_left h]
  have:=hp _ (wE h);rw[e,this];simp[h]
 ·subst h;simp[ht]
 ·subst h;simp
def zhX{l:List Int}(h:zki K l):xV 103 0 K=true:=by
 obtain⟨ps,t,rfl,hp,ht⟩:=h;refine uV rfl (by simp[xr]) (.inl rfl) (λe=>by cases e) λi hi=>?_
 have hs:yc 103 0 (ps ++ [t]).length i ((ps ++ [t])[i])=((decide (i+1<(ps ++ [t]).length) && (ps ++ [t])[i] == 88) || (decide (i+1=(ps ++ [t]).length) && xf.type.is (ps ++ [t])[i])):=rfl;rw[hs];have hl:(ps ++ [t]).length=ps.length+1:=by simp
 rw[hl];have po:i<ps.length\/i=ps.length:=by omega
 rcases po with h|h
 ·have e:(ps ++ [t])[i]=ps[i]:=List.getElem_append_left h;have:=hp _ (wE h);rw[e,this];simp[h]
 ·subst h;simp[ht]
def zgk(hR:uE R)(t:yO):Fd (jB zz) I1 (xL R t):=by
 intro E s a s' F h;have A:=Sa.start F;unfold xL at h;obtain⟨_,_,A,h⟩:=xu h A Ki;split at h
 ·rename_i s1 A1 _ _;obtain⟨K,B,k,rfl,hk⟩:=zbD hR E _ a s' A.fw h;simp only[pR] at hk;subst hk;exact⟨_,A.cat B,29,rfl,rfl⟩
 obtain⟨_,_,A,h⟩:=xu h A xb;split at h
 ·obtain⟨c,_,_,⟨k1,rfl,nO⟩,A,h⟩:=kT h A (hR.expr);obtain⟨b,_,_,⟨k2,rfl,nj⟩,A,h⟩:=kT h A (hR.block);simp only[pR] at nj;subst nj;exact xQ h A (by simp[xV,yT,xr,List.range_succ,yc,xf.is,nO]) rfl
 obtain⟨_,_,A,h⟩:=xu h A xb;split at h
 ·obtain⟨c,_,_,⟨k1,rfl,nO⟩,A,h⟩:=kT h A (hR.expr);obtain⟨l,s3,K,⟨mu,hK⟩,A,h⟩:=kT h A (XB (znL hR));have:=List.length_pos_iff.2 mu;exact xQ h A (ze6 (p:=(· == 32)) nO hK rfl (show 2<=K.length+1 by omega) rfl (by decide) (λ_=>by simp[yc,nO]) λm i j hj=>by simp only[pR] at hj;subst hj;simp[yc]) rfl
 obtain⟨_,_,A,h⟩:=xu h A xb;split at h
 ·obtain⟨l,s3,K,hK,A,h⟩:=kT h A (zcG hR);obtain⟨b,_,_,⟨k2,rfl,nj⟩,A,h⟩:=kT h A (hR.block);simp only[pR] at nj;subst nj;exact xQ h A (za1 (.inl rfl) hK) rfl
 obtain⟨_,_,A,h⟩:=xu h A xb;split at h
 ·obtain⟨b,_,_,⟨k1,rfl,nO⟩,A,h⟩:=kT h A (hR.block);obtain⟨_,_,A,h⟩:=xu h A zY;obtain⟨_,_,A,h⟩:=xu h A qC;obtain⟨c,_,_,⟨k2,rfl,nj⟩,A,h⟩:=kT h A (hR.block);simp only[pR] at nO nj;subst nO nj;exact xQ h A (by decide) rfl
 obtain⟨_,_,A,h⟩:=xu h A xb;split at h
 ·obtain⟨x,_,_,⟨k1,rfl,nO⟩,A,h⟩:=kT h A (hR.expr);obtain⟨_,_,A,h⟩:=xu h A zY;obtain⟨_,_,A,h⟩:=xu h A qC;obtain⟨b,_,_,⟨k2,rfl,nj⟩,A,h⟩:=kT h A (hR.block);obtain⟨_,_,A,h⟩:=xu h A zY;obtain⟨c,_,_,⟨k3,rfl,na⟩,A,h⟩:=kT h A (hR.block);simp only[pR] at nj na;subst nj na;exact xQ h A (by simp[xV,yT,xr,List.range_succ,yc,xf.is,nO]) rfl
 obtain⟨_,_,A,h⟩:=xu h A xb;split at h
 ·obtain⟨_,_,A,h⟩:=xu h A qC;obtain⟨l,s3,K,⟨mu,hK⟩,A,h⟩:=kT h A (XB (znf hR));have:=List.length_pos_iff.2 mu;exact xQ h A (yI (p:=(· == 27)) hK (λm i j hj=>hj) (h2:=this)) rfl
 obtain⟨_,_,A,h⟩:=xu h A xb;split at h
 ·obtain⟨k,_,_,⟨k1,rfl,nO⟩,A,h⟩:=kT h A (hR.kind);obtain⟨_,_,A,h⟩:=xu h A zY;obtain⟨_,_,A,h⟩:=xu h A qC;obtain⟨_,_,A,h⟩:=xu h A zY;exact xQ h A (yI (p:=xf.type.is) (by simpa using nO) (λ_ _ _ h=>h)) rfl
 obtain⟨_,_,A,h⟩:=xu h A zY;obtain⟨l,s3,K,hK,A,h⟩:=kT h A (zhZ hR);exact xQ h A (ze4 hK) rfl
def zk7{w:Nat×Int}(h:xB x=some w):(x,w)∈zN:=by
 unfold xB at h;cases hf:zN.find? λw=>w.1 == x with
 |none=>rw[hf] at h;cases h
 |some y=>
  rw[hf] at h;have h1:=List.find?_some hf;have h2:=List.mem_of_find?_eq_some hf;rw[pR] at h1;have h3:y.2=w:=Option.some.inj h;rw[<-h1,<-h3];exact h2
def zl9(hR:uE R):Fd (jB zz) I1 (Zi R):=by
 intro E s a s' F h;have A:=Sa.start F;unfold Zi at h;obtain⟨t,s1,h1,h⟩:=zo h;cases h1;split at h
 ·obtain⟨_,_,A,h⟩:=xu h A vW;exact xQ h A (by simp[xV,yT,xr]) rfl
 split at h
 ·obtain⟨_,_,A,h⟩:=xu h A vW;exact xQ h A (by decide) rfl
 split at h
 ·obtain⟨_,_,A,h⟩:=xu h A vW;exact xQ h A (by decide) rfl
 split at h
 ·obtain⟨_,_,A,h⟩:=xu h A vW;obtain⟨l,s3,K,hK,A,h⟩:=kT h A (VG hR.expr);exact xQ h A (yI (p:=zz) hK (λm i j hj=>hj) (h2:=pU _)) rfl
 obtain⟨_,_,A,h⟩:=xu h A xb;split at h
 ·obtain⟨_,_,A,h⟩:=xu h A xb;split at h
  ·exact xQ h A (by decide) rfl
  ·obtain⟨x,_,_,⟨k1,rfl,nO⟩,A,h⟩:=kT h A (hR.expr);obtain⟨_,_,A,h⟩:=xu h A zY;obtain⟨rfl,rfl⟩:=zK h;exact⟨_,A,k1,rfl,nO⟩
 obtain⟨_,_,A,h⟩:=xu h A xb;split at h
 ·exact xQ h A (by decide) rfl
 obtain⟨_,_,A,h⟩:=xu h A xb;split at h
 ·exact xQ h A (by decide) rfl
 have ctl:∀{s1:yx} {t:yO},Sa s s1 [] []->xL R t E s1=.ok a s'->∃K,Sa s s' (I1 a) K/\jB zz K a:=λ{s1 t} A h=>by
  obtain⟨K,B,q⟩:=zgk hR t E _ a s' A.fw h;exact⟨_,A.cat B,q⟩
 cases hw:xB (zw E s).text with
 |none=>
  rw[hw] at h;exact ctl A h
 |some w=>
  rw[hw] at h;simp only at h;split at h
  ·obtain⟨_,_,A,h⟩:=xu h A vW;obtain⟨K,B,q⟩:=zk9 hR _ w _ (zk7 hw) E _ a s' A.fw h;exact⟨_,A.cat B,q⟩
  ·exact ctl A h
theorem zch(hR:uE R):∀(n:Nat) (left:Int) {E:zr} {s0 s:yx} {a:Int} {s':yx} {k:Nat},Sa s0 s [left] [k]->zz k=true->Zf R n left E s=.ok a s'->∃K,Sa s0 s' (I1 a) K/\jB zz K a
 |0,_,_,_,_,_,_,_,_,_,h=>by cases h
 |n+1,left,E,s0,s,a,s',k,A,hk,h=>by
  unfold Zf at h;obtain⟨_,_,A,h⟩:=xu h A JC;obtain⟨_,_,A,h⟩:=xu h A xb;split at h
  ·obtain⟨_,_,A,h⟩:=xu h A qC;obtain⟨x,s4,h4,h⟩:=zo h;obtain⟨K',B,k',rfl,rU⟩:=xQ (q:=zz) h4 A (yI (p:=zz) (by simpa using hk) (λ_ _ _ h=>h)) rfl;exact zch hR n x B rU h
  obtain⟨_,_,A,h⟩:=xu h A xb;split at h
  ·obtain⟨l,s3,K,hK,A,h⟩:=kT h A (JH hR.expr);obtain⟨_,_,A,h⟩:=xu h A zY;obtain⟨x,s4,h4,h⟩:=zo h;obtain⟨K',B,k',rfl,rU⟩:=xQ (q:=zz) h4 A (yI (p:=zz) (λj hj=>by
    rcases pW.1 hj with hj|hj
    ·rw[wD] at hj;rw[hj];exact hk
    ·exact hK j hj) (λ_ _ _ h=>h)) rfl
   exact zch hR n x B rU h
  ·obtain⟨rfl,rfl⟩:=zK h;exact⟨_,A,k,rfl,hk⟩
def zc8(hR:uE R):Fd (jB zz) I1 (vO R):=by
 intro E s a s' F h;have A:=Sa.start F;unfold vO at h;obtain⟨_,_,A,h⟩:=xu h A Ki;split at h
 ·obtain⟨_,_,A,h⟩:=xu h A zcr;obtain⟨x,_,_,⟨k1,rfl,nO⟩,A,h⟩:=kT h A (hR.unary);exact xQ h A (yI (p:=zz) (by simpa using nO) (λ_ _ _ h=>h)) rfl
 ·obtain⟨x,_,_,⟨k1,rfl,nO⟩,A,h⟩:=kT h A (zl9 hR);exact zch hR _ x A nO h
def zl4(hR:uE R):Fd (jB zz) I1 (zho R):=zar (zc8 hR) 4 (by decide)
def zl5(hR:uE R):Fd (jB zz) I1 (XQ R):=zar (zl4 hR) 3 (by decide)
def zhx(hR:uE R):Fd (jB zz) I1 (Zy R):=by
 intro E s a s' F h;have A:=Sa.start F;unfold Zy at h;obtain⟨_,_,A,h⟩:=xu h A Ki;split at h
 ·obtain⟨_,_,A,h⟩:=xu h A zcr;obtain⟨x,_,_,⟨k1,rfl,nO⟩,A,h⟩:=kT h A (hR.bin2);exact xQ h A (yI (p:=zz) (by simpa using nO) (λ_ _ _ h=>h)) rfl
 ·obtain⟨K,B,q⟩:=zar (zl5 hR) 2 (by decide) E _ a s' A.fw h;exact⟨_,A.cat B,q⟩
def zlY(hR:uE R):Fd (jB zz) I1 (zeh R):=zar (zar (zhx hR) 1 (by decide)) 0 (by decide)
def zfK(hR:uE R):Fd (jB xf.pattern.is) I1 (jo R):=by
 intro E s a s' F h;have A:=Sa.start F;unfold jo at h;obtain⟨_,_,A,h⟩:=xu h A JC;split at h
 ·obtain⟨_,_,A,h⟩:=xu h A vW;exact xQ h A (by decide) rfl
 split at h
 ·obtain⟨_,_,A,h⟩:=xu h A vW;exact xQ h A (by simp[xV,yT,xr]) rfl
 split at h
 ·obtain⟨_,_,A,h⟩:=xu h A vW;exact xQ h A (by decide) rfl
 split at h
 ·obtain⟨_,_,A,h⟩:=xu h A vW;obtain⟨l,s3,K,hK,A,h⟩:=kT h A (VG hR.pattern);exact xQ h A (yI (p:=xf.pattern.is) hK (λm i j hj=>hj) (h2:=pU _)) rfl
 obtain⟨_,_,A,h⟩:=xu h A xb;split at h
 ·exact xQ h A (by decide) rfl
 obtain⟨_,_,A,h⟩:=xu h A xb;split at h
 ·exact xQ h A (by decide) rfl
 obtain⟨_,_,A,h⟩:=xu h A zY;obtain⟨_,_,A,h⟩:=xu h A qC;exact xQ h A (by simp[xV,yT,xr]) rfl
def zlP(hR:uE R):Fd (jB xf.item.is) I1 (Zg R):=by
 intro E s a s' F h;have A:=Sa.start F;unfold Zg at h;obtain⟨_,_,A,h⟩:=xu h A JC;obtain⟨_,_,A,h⟩:=xu h A xb;split at h
 ·obtain⟨_,_,A,h⟩:=xu h A qC;obtain⟨l,s3,K,⟨mu,hK⟩,A,h⟩:=kT h A (XB (zdP hR));exact xQ h A (yI (p:=(· == 88)) hK (λm i j hj=>hj) (h2:=List.length_pos_iff.2 mu)) rfl
 obtain⟨_,_,A,h⟩:=xu h A xb;split at h
 ·obtain⟨_,_,A,h⟩:=xu h A qC;obtain⟨l,s3,K,⟨mu,hK⟩,A,h⟩:=kT h A (XB (zlM hR));exact xQ h A (yI (p:=(· == 89)) hK (λm i j hj=>hj) (h2:=List.length_pos_iff.2 mu)) rfl
 obtain⟨_,_,A,h⟩:=xu h A xb;split at h
 ·obtain⟨_,_,A,h⟩:=xu h A zY;obtain⟨_,_,A,h⟩:=xu h A qC;obtain⟨l,s3,K,hK,A,h⟩:=kT h A (zcG hR);obtain⟨_,_,A,h⟩:=xu h A zY;exact xQ h A (zhX hK) rfl
 obtain⟨_,_,A,h⟩:=xu h A xb;split at h
 ·obtain⟨_,_,A,h⟩:=xu h A qC;obtain⟨_,_,A,h⟩:=xu h A zY;obtain⟨k,_,_,⟨k1,rfl,nO⟩,A,h⟩:=kT h A (hR.kind);obtain⟨_,_,A,h⟩:=xu h A zY;obtain⟨x,_,_,⟨k2,rfl,nj⟩,A,h⟩:=kT h A (hR.expr);obtain⟨_,_,A,h⟩:=xu h A zY;exact xQ h A (by simp[xV,yT,xr,List.range_succ,yc,nO,nj]) rfl
 obtain⟨_,_,A,h⟩:=xu h A xb;obtain⟨_,_,A,h⟩:=xu h A zY;obtain⟨_,_,A,h⟩:=xu h A qC;obtain⟨l,s3,K,hK,A,h⟩:=kT h A (zcG hR);obtain⟨b,_,_,⟨k2,rfl,nj⟩,A,h⟩:=kT h A (hR.block);simp only[pR] at nj;subst nj;exact xQ h A (za1 (.inr rfl) hK) rfl
def VJ{Q:List Nat->α->Prop}{vs:α->List Int}{m:PM α}(hm:∀E s,m E s=.bad 0):Fd Q vs m:=by
 intro E s a s' _ h;rw[hm] at h;cases h
theorem YO:∀n,uE (Yi n)
 |0=>⟨VJ λ_ _=>rfl,VJ λ_ _=>rfl,VJ λ_ _=>rfl,VJ λ_ _=>rfl,VJ λ_ _=>rfl,VJ λ_ _=>rfl,VJ λ_ _=>rfl⟩
 |n+1=>⟨zlY (YO n),zc8 (YO n),zhx (YO n),zkx (YO n),zbD (YO n),zlK (YO n),zfK (YO n)⟩
end
theorem zea{m:Nat}:∀(n:Nat) (E:zr) (s s':yx) (K:List Nat),s.next<=E.tz.length->WFs s->Sa ⟨[],[],0⟩ s s.iz K->(∀k∈K,xf.item.is k=true)->vo (Yi m) n E s=.ok () s'->∃K',Sa ⟨[],[],0⟩ s' s'.iz K'/\∀k∈K',xf.item.is k=true
 |0,_,_,_,_,_,_,_,_,h=>by cases h
 |n+1,E,s,s',K,h0,hw,A,hK,h=>by
  unfold vo at h;split at h
  ·cases hm:Zg (Yi m) E s with
   |bad p=>rw[hm] at h;cases h
   |ok i s1=>
    rw[hm] at h;dsimp only at h;obtain⟨N,_⟩:=QW (jm m) h0 hw hm;obtain⟨K1,B,k,rfl,hk⟩:=zlP (YO m) E s i s1 A.fw hm;have C:=(A.cat B).tok (s1:={s1 with iz:=s1.iz ++ [i]}) rfl;refine zea n E {s1 with iz:=s1.iz ++ [i]} s' (K ++ [k]) N.le N.wf (by have e:=N.it;simp only at e ⊢;exact C.tok rfl |> λD=>(show s1.iz ++ [i]=s.iz ++ I1 i by rw[e];rfl)▸D) (λj hj=>?_) h;rcases pW.1 hj with hj|hj
    ·exact hK j hj
    ·rw[wD] at hj;rw[hj];exact hk
  ·cases h;exact⟨K,A,hK⟩
theorem zkg(l:List Nd)(out:List Nat):∀(rk:List Int) (p:Int),(∀k∈rk,xf.item.is (zD l k)=true)->itR l out rk p=Yx out rk p
 |[],p,_=>rfl
 |k :: r,p,h=>by
  unfold itR Yx;by_cases hc:p<0\/k≠p
  ·rw[if_pos hc,if_pos (by omega)]
  ·have hk:k=p:=by omega
   have:=h k (List.mem_cons_self ..);rw[hk] at this;rw[if_neg hc,if_neg (by rw[this];simp;omega)];exact zkg l out r _ λj hj=>h j (wJ _ hj)
def znD{l:List yO}{s:yx}(h:qh l len=.ok () s):qm s.nz s.nz.length/\itR s.nz (kz s.nz s.nz.length) s.iz.reverse ((s.nz.length:Int)-1)=some (-1)/\∀x∈s.nz,zbY s.nz x=true:=by
 have F0:Fw ⟨[],[],0⟩:=⟨rfl,λx hx=>by cases hx⟩;obtain⟨K,A,hK⟩:=zea _ ⟨l,len⟩ _ s [] (pU _) (λi x hx=>by simp at hx) (Sa.start F0) (λk hk=>by cases hk) h;refine⟨A.fw.full,?_,A.fw.right⟩;rw[zkg]
 ·exact A.sg
 ·intro k hk;refine hK _ ?_;rw[<-A.kn];exact List.mem_map_of_mem (wY.1 hk)
def EOk(E:zr)(F:Nat):Prop:=(∀t∈E.tz,t.kind≠0/\(t.kind=6->xB t.text=none))/\E.tz.length+200*F+1000<=900000
structure Pr(E:zr)(F L:Nat)(j k:Int)(V:List Int)(s:yx):Prop where
 wf:WFs s
 le:s.next<=E.tz.length
 cr:(s.nz.length:Int)+k<=s.next
 fu:(E.tz.length:Int)+j+1<=s.next+F
 lo:(E.tz.length:Int)+j+1<=s.next+L
 vd:∀a∈V,Vd s a
 jn:j<=s.next
def uM(s:yx):jR:=⟨s.nz,s.next,false⟩
def tkN(E:zr)(n:Nat):yO:=(E.tz[n]?).getD ⟨0,[],E.len⟩
structure znW(E:zr)(d:Nat)(p:Int)(s:jR):Prop where
 bad:s.bad=true
 le:s.n<=E.tz.length
 at_:((tkN E s.n).at_:Int)=p
 few:s.nz.length<=E.tz.length+d
def jA(E:zr)(d:Nat)(s:yx)(m:RM α)(f:PM α):Prop:=
 (∀a t,f E s=.ok a t->m E (uM s)=some (a,uM t))/\∀p,f E s=.bad p->∃a s',m E (uM s)=some (a,s')/\znW E d p s'
def Bk(e:Nat)(m:RM α):Prop:=∀(E:zr) (s:jR),s.bad=true->s.nz.length+e<=900000->∃a s',m E s=some (a,s')/\s'.bad=true/\s'.n=s.n/\s'.nz.length<=s.nz.length+e
def SK(F L:Nat)(j k:Int)(d:Nat)(V:List Int)(t:yO)(m:RM α)(f:PM α):Prop:=∀E s,EOk E F->Pr E F L j k V s->zw E s=t->jA E d s m f
section
variable {α β:Type} {e e1:Nat} {m:RM α} {g:α→RM β} {E:zr} {s:jR} {x:List UInt8}
def qM{a:α}(h:m E s=some (a,s1)):(m >>= g) E s=g a E s1:=by
 change RM.bind m g E s=_;unfold RM.bind;rw[h]
def zcz(h:s.bad=true):Qu E s=0:=by unfold Qu;rw[h];rfl
def VU(h:s.bad=true):uP E s x=false:=by unfold uP;rw[zcz h];rfl
theorem Bk.pure{a:α}:Bk e (Pure.pure a:RM α):=λE s hb _=>⟨a,s,rfl,hb,rfl,Nat.le_add_right _ _⟩
def Bk.bind(h:Bk e1 m)(hg:∀a,Bk e (g a)):Bk (e+e1) (m >>= g):=by
 intro E s hb hn;obtain⟨a,s1,h1,b1,n1,l1⟩:=h E s hb (by omega);obtain⟨b,s2,h2,b2,n2,l2⟩:=hg a E s1 b1 (by omega);exact⟨b,s2,(qM h1).trans h2,b2,by omega,by omega⟩
def Bk.mono(h:Bk e1 m)(he:e1<=e2):Bk e2 m:=λE s hb hn=>by
 obtain⟨a,s1,h1,b1,n1,l1⟩:=h E s hb (by omega);exact⟨a,s1,h1,b1,n1,by omega⟩
def Bk.jx{g:Int->RM β}(hg:∀p,Bk e (g p)):Bk e (qy >>= g):=λE s hb hn=>hg (plR E s) E s hb hn
def Bk.kd{g:Nat->RM β}(hg:Bk e (g 0)):Bk e (rKd >>= g):=λE s hb hn=>by
 have:=hg E s hb hn;rw[<-zcz (E:=E) hb] at this;exact this
def Bk.isF{g:Bool->RM β}(hg:Bk e (g false)):Bk e (rIs x >>= g):=λE s hb hn=>by
 have:=hg E s hb hn;rw[<-VU (E:=E) (x:=x) hb] at this;exact this
def Bk.mayF{g:Bool->RM β}(hg:Bk e (g false)):Bk e (xm x >>= g):=λE s hb hn=>by
 have h:=hg E s hb hn
 rwa [qM (s1:=s) (a:=false) (by unfold xm;rw[VU hb];rfl)]
def Bk.isIf{A B:RM β}(hg:Bk e B):Bk e (rIs x >>= λb=>if b=true then A else B):=Bk.isF hg
def Bk.mayIf{A B:RM β}(hg:Bk e B):Bk e (xm x >>= λb=>if b=true then A else B):=Bk.mayF hg
def Jd(h:s.bad=true):s.fail=s:=by
 obtain⟨n,i,b⟩:=s;cases h;rfl
def Bk.need{g:Unit->RM β}(hg:∀a,Bk e (g a)):Bk e (zI x >>= g):=λE s hb hn=>by
 have h:=hg () E s hb hn
 rwa [qM (s1:=s) (a:=()) (by unfold zI;rw[VU hb,Jd hb];rfl)]
def Bk.tx{k:Nat}{g:List UInt8->RM β}(h0:k≠0)(hg:∀a,Bk e (g a)):Bk e (Ye k >>= g):=λE s hb hn=>by
 have h:=hg [] E s hb hn
 rwa [qM (s1:=s) (a:=[]) (by unfold Ye;rw[zcz hb,if_neg (Ne.symm h0),Jd hb])]
def Bk.fail{g:Unit->RM β}(hg:∀a,Bk e (g a)):Bk e (QH >>= g):=λE s hb hn=>by
 have h:=hg () E s hb hn
 rwa [qM (s1:=s) (a:=()) (by unfold QH;rw[Jd hb])]
def Bk.end_{k:Nat}{t:List UInt8}{p:Int}{l:List Int}:Bk (e+1) (yv k t n p l):=λE s hb hn=>⟨(s.nz.length:Int),{s with nz:=s.nz ++ [⟨k,t,n,l,p⟩]},by unfold yv;rw[if_pos (by omega)],hb,rfl,by simp⟩
def Bk.endB{k:Nat}{t:List UInt8}{p:Int}{l:List Int}{g:Int->RM β}(hg:∀a,Bk e (g a)):Bk (e+1) (yv k t n p l >>= g):=Bk.bind (Bk.end_ (e:=0)) hg
def Bk.oper{l:List (List UInt8×Nat)}{g:Nat->RM β}(hg:Bk e (g 0)):Bk e (XM l >>= g):=λE s hb hn=>by
 have h:=hg E s hb hn;have e2:(l.find? λx=>uP E s x.1)=none:=List.find?_eq_none.2 λx _=>by rw[VU hb];decide
 rwa [qM (s1:=s) (a:=0) (by unfold XM;rw[e2];rfl)]
def Bk.wd{g:List UInt8->RM β}(hg:Bk e (g [])):Bk e (rWd >>= g):=λE s hb hn=>by
 have h:=hg E s hb hn
 rwa [qM (s1:=s) (a:=[]) (by unfold rWd wdR;rw[zcz hb];rfl)]
def Bk.go{g:Bool->RM β}(hg:Bk e (g false)):Bk e (rGo >>= g):=λE s hb hn=>by
 have h:=hg E s hb hn
 rwa [qM (s1:=s) (a:=false) (by unfold rGo;rw[hb];rfl)]
def Bk.loop{m:Nat->RM α}(h:∀n,Bk e (m (n+1))):Bk e (λE s=>m (E.tz.length+1) E s):=λE s hb hn=>h E.tz.length E s hb hn
end
section
variable {α β:Type} {F L d d1:Nat} {j j1 k k1:Int} {V:List Int} {t:yO} {E:zr} {s:yx} {x:List UInt8}
def Pr.down(P:Pr E F L j k V s)(hj:j1<=j)(h:k1<=k)(hV:∀a∈V',a∈V):Pr E F L j1 k1 V' s:=⟨P.wf,P.le,by have:=P.cr;omega,by have:=P.fu;omega,by have:=P.lo;omega,λa ha=>P.vd a (hV a ha),by have:=P.jn;omega⟩
def Pr.next{s1:yx}(P:Pr E F L j k V s)(N:Nx E dd s s1)(hW:∀a∈W,Vd s1 a):Pr E F L (j+dd) (k+dd) (W ++ V) s1:=by
 have h1:=P.cr;have h2:=P.fu;have h3:=P.lo;have h4:=N.cr;have h5:=N.adv;have h6:=P.jn;refine⟨N.wf,N.le,by omega,by omega,by omega,λa ha=>?_,by omega⟩;rcases pW.1 ha with h|h
 ·exact hW a h
 ·exact (P.vd a h).later N
def Pr.step(P:Pr E F L j k V s)(h:s.next<E.tz.length):Pr E F L (j+1) (k+1) V {s with next:=s.next+1}:=P.next (W:=[]) (Xq h P.wf) (λ_ h=>by cases h)
def VR:Qu E (uM s)=(zw E s).kind:=by
 unfold Qu zw uM;simp only[Bool.false_eq_true,if_false];cases E.tz[s.next]? <;> rfl
def zeP:txR E (uM s)=(zw E s).text:=by
 unfold txR zw uM;cases E.tz[s.next]? <;> rfl
def Qm:uP E (uM s) x=xO (zw E s) [x]:=by
 unfold uP xO;rw[VR,zeP];congr 1;simp only[List.contains_cons,List.contains_nil,Bool.or_false]
def zni(h:(zw E s).kind≠0):plR E (uM s)=((zw E s).at_:Int):=by
 unfold plR uM;unfold zw at *;cases hx:E.tz[s.next]? with
 |none=>rw[hx] at h;exact absurd rfl h
 |some t=>rfl
def zH(h:xO t l=true):t.kind≠0:=by
 unfold xO at h;rw[pJ,wG,pR,pR] at h;omega
def zhc(h:xO t [x]=true):t.text=x:=by
 unfold xO at h;rw[pJ] at h;simpa using h.2
def ZJ(h:xO t [x]=true)(hn:x≠y):xO t [y]=false:=by
 unfold xO;rw[zhc h];simp[hn]
def zf3(h:t.kind≠5/\t.kind≠6):xO t l=false:=by
 unfold xO;have h1:(t.kind == 5)=false:=pB.2 h.1;have h2:(t.kind == 6)=false:=pB.2 h.2;rw[h1,h2];rfl
def zaf(P:Pr E F L j k V s)(hE:EOk E F)(h0:0<=k){m:RM α}(hk:Bk 8 m)(hd:8<=d):∃a s',m E (uM s).fail=some (a,s')/\znW E d ((zw E s).at_:Int) s':=by
 have h1:=P.cr;have h2:=P.le;have h3:=hE.2;have e:(uM s).fail.nz.length=s.nz.length:=rfl;obtain⟨a,s',hm,hb,hn,hl⟩:=hk E (uM s).fail rfl (by omega);have e2:s'.n=s.next:=hn;exact⟨a,s',hm,hb,by omega,by rw[e2];rfl,by omega⟩
theorem SK.down{m:RM α}{f:PM α}(h:SK F L j1 k1 d1 V' t m f)(hj:j1<=j)(hk:k1<=k)(hd:d1<=d)(hV:∀a∈V',a∈V):SK F L j k d V t m f:=λE s hE P ht=>by
 obtain⟨a,b⟩:=h E s hE (P.down hj hk hV) ht;refine⟨a,λp hp=>?_⟩;obtain⟨x,s',h1,h2⟩:=b p hp;exact⟨x,s',h1,h2.bad,h2.le,h2.at_,by have:=h2.few;omega⟩
theorem SK.bind{m:RM α}{f:PM α}{g:α->RM β}{h:α->PM β}{vs:α->List Int}{Q:yx->α->Prop}(hm:SK F L j1 k1 d1 [] t m f)(gd:Gd dd Q f)(hg:∀a u,SK F L (j+dd) (k+dd) d (vs a ++ V) u (g a) (h a))(hk:∀a,Bk 8 (g a))(hQ:∀s a,Q s a->∀k∈vs a,Vd s k)(hj:j1<=j)(h1:k1<=k)(hd:d1+8<=d)(hd2:d<=200*F+900):SK F L j k d V t (m >>= g) (f >>= h):=λE s hE P ht=>by
 have hS:=hm E s hE (P.down hj h1 (λ_ h=>by cases h)) ht;have h3:=hE.2;refine⟨λb s2 e=>?_,λp e=>?_⟩
 ·obtain⟨a,s1,e1,e2⟩:=zo e;obtain⟨N,q⟩:=gd P.le P.wf e1;rw[qM (hS.1 a s1 e1)];exact (hg a _ E s1 hE (P.next N (hQ _ _ q)) rfl).1 b s2 e2
 ·change PM.bind f h E s=_ at e;unfold PM.bind at e;cases hf:f E s with
  |ok a s1=>
   rw[hf] at e;obtain⟨N,q⟩:=gd P.le P.wf hf;rw[qM (hS.1 a s1 hf)];exact (hg a _ E s1 hE (P.next N (hQ _ _ q)) rfl).2 p e
  |bad p'=>
   rw[hf] at e;have e:qK.bad p'=qK.bad p:=e;cases e;obtain⟨a,s',e1,B⟩:=hS.2 _ hf;have:=B.few;obtain⟨b,s2,e2,b2,n2,l2⟩:=hk a E s' B.bad (by omega);rw[qM e1];exact⟨b,s2,e2,b2,by rw[n2];exact B.le,by rw[n2];exact B.at_,by omega⟩
theorem SK.pure{a:α}:SK F L j k d V t (Pure.pure a:RM α) (Pure.pure a:PM α):=λE s hE P ht=>⟨λb s2 e=>by obtain⟨rfl,rfl⟩:=zK e;rfl,λp e=>by cases e⟩
def Pr.few(P:Pr E F L j k V s)(hE:EOk E F)(h0:0<=k):s.nz.length<100000000/\s.nz.length<900000:=by
 have:=P.cr;have:=P.le;have:=hE.2;omega
def zhu{kd:Nat}{p:Int}{l:List Int}(P:Pr E F L j k V s)(hE:EOk E F)(h0:0<=k):yv kd x n p l E (uM s)=some ((s.nz.length:Int),uM {s with nz:=s.nz ++ [⟨kd,x,n,l,p⟩]}):=by
 unfold yv;have:=(P.few hE h0).2;rw[if_pos (show (uM s).nz.length<900000 from this)];rfl
def SK.end_{kd:Nat}{p:Int}{l:List Int}(h0:0<=k):SK F L j k d V t (yv kd x n p l) (zT kd x n p l):=λE s hE P ht=>⟨λb s2 e=>by
 rw[zhu P hE h0];cases e;rfl,λp e=>by cases e⟩
def SK.endB{kd:Nat}{p:Int}{l:List Int}{g:Int->RM β}{h:Int->PM β}(hg:∀a,SK F L j (k-1) d (a :: V) t (g a) (h a))(hl:∀a∈l,a∈V)(h0:0<=k):SK F L j k d V t (yv kd x n p l >>= g) (zT kd x n p l >>= h):=λE s hE P ht=>by
 obtain⟨N,q⟩:=zQ (kind:=kd) (text:=x) (n:=n) (at_:=p) (E:=E) P.le P.wf (λa ha=>P.vd a (hl a ha)) rfl;have P2:=P.next N (W:=[(s.nz.length:Int)]) (λa ha=>by rw[wD] at ha;rw[ha];exact q);have:=hg _ E _ hE ⟨P2.wf,P2.le,P2.cr,P.fu,P.lo,P2.vd,P.jn⟩ ht;unfold jA;rw[qM (zhu P hE h0)];exact this
def SK.placeL{g:Int->RM α}{f:PM α}(hg:∀p:Int,(t.kind≠0->p=t.at_)->SK F L j k d V t (g p) f):SK F L j k d V t (qy >>= g) f:=λE s hE P ht=>hg (plR E (uM s)) (λh=>by rw[<-ht] at h ⊢;exact zni h) E s hE P ht
def SK.kdL{g:Nat->RM α}{f:PM α}(hg:SK F L j k d V t (g t.kind) f):SK F L j k d V t (rKd >>= g) f:=λE s hE P ht=>by
 have:=hg E s hE P ht;unfold jA;rw[qM (s1:=uM s) (a:=t.kind) (by unfold rKd;rw[VR,ht])];exact this
def SK.tokR{m:RM α}{h:yO->PM α}(hg:SK F L j k d V t m (h t)):SK F L j k d V t m (YU >>= h):=λE s hE P ht=>by
 have:=hg E s hE P ht;subst ht;exact this
def SK.isL{g:Bool->RM α}{f:PM α}(hg:SK F L j k d V t (g (xO t [x])) f):SK F L j k d V t (rIs x >>= g) f:=λE s hE P ht=>by
 have:=hg E s hE P ht;unfold jA;rw[qM (s1:=uM s) (a:=xO t [x]) (by unfold rIs;rw[Qm,ht])];exact this
def SK.uP{m:RM α}{h:Bool->PM α}(hg:SK F L j k d V t m (h (xO t l))):SK F L j k d V t m (YA l >>= h):=λE s hE P ht=>by
 have:=hg E s hE P ht;subst ht;exact this
def SK.is2{A B:RM α}{A' B':PM α}(h1:xO t [x]=true->SK F L j k d V t A A')(h2:xO t [x]=false->SK F L j k d V t B B'):SK F L j k d V t (rIs x >>= λb=>if b=true then A else B) (YA [x] >>= λb=>if b=true then A' else B'):=by
 refine SK.isL (SK.uP ?_);cases h:xO t [x] with
 |true=>exact h1 h
 |false=>exact h2 h
def qr(h:(zw E s).kind≠0):s.next<E.tz.length:=qw rfl h
def VM{m:Bool->RM α}(hw:xO (zw E s) [x]=true):(xm x >>= m) E (uM s)=m true E (uM {s with next:=s.next+1}):=qM (by unfold xm;rw[Qm,hw];rfl)
def zj0{m:Bool->RM α}(hw:xO (zw E s) [x]=false):(xm x >>= m) E (uM s)=m false E (uM s):=qM (by unfold xm;rw[Qm,hw];rfl)
def zms{m:Bool->PM α}(hw:xO (zw E s) [x]=true):(yo x >>= m) E s=m true E {s with next:=s.next+1}:=by
 change PM.bind (yo x) m E s=_;unfold PM.bind yo;rw[hw];rfl
def zoc{m:Bool->PM α}(hw:xO (zw E s) [x]=false):(yo x >>= m) E s=m false E s:=by
 change PM.bind (yo x) m E s=_;unfold PM.bind yo;rw[hw];rfl
def zng{h:yO->PM α}(hj:(zw E s).kind=kk):(xp kk >>= h) E s=h (zw E s) E {s with next:=s.next+1}:=by
 change PM.bind (xp kk) h E s=_;unfold PM.bind xp;rw[if_pos (pR.2 hj)]
def znh{h:yO->PM α}(hj:(zw E s).kind≠kk):(xp kk >>= h) E s=.bad ((zw E s).at_:Int):=by
 change PM.bind (xp kk) h E s=_;unfold PM.bind xp;rw[if_neg (by rw[pR];exact hj)]
def zjM{h:yO->PM α}(hw:xO (zw E s) [x]=true):(zC x >>= h) E s=h (zw E s) E {s with next:=s.next+1}:=by
 change PM.bind (zC x) h E s=_;unfold PM.bind zC;rw[hw];rfl
def zjN{h:yO->PM α}(hw:xO (zw E s) [x]=false):(zC x >>= h) E s=.bad ((zw E s).at_:Int):=by
 change PM.bind (zC x) h E s=_;unfold PM.bind zC;rw[hw];rfl
def SK.mayL{g:Bool->RM α}{f:PM α}(hw:xO t [x]=false)(hg:SK F L j k d V t (g false) f):SK F L j k d V t (xm x >>= g) f:=λE s hE P ht=>by
 have:=hg E s hE P ht;subst ht;unfold jA;rw[zj0 hw];exact this
def SK.mayR{m:RM α}{h:Bool->PM α}(hw:xO t [x]=false)(hg:SK F L j k d V t m (h false)):SK F L j k d V t m (yo x >>= h):=λE s hE P ht=>by
 have:=hg E s hE P ht;subst ht;unfold jA;rw[zoc hw];exact this
def SK.mayLI{A B:RM α}{f:PM α}(hw:xO t [x]=false)(hg:SK F L j k d V t B f):SK F L j k d V t (xm x >>= λb=>if b=true then A else B) f:=SK.mayL hw hg
def SK.mayRI{m:RM α}{A B:PM α}(hw:xO t [x]=false)(hg:SK F L j k d V t m B):SK F L j k d V t m (yo x >>= λb=>if b=true then A else B):=SK.mayR hw hg
def SK.mayYY{g:Bool->RM α}{h:Bool->PM α}(hw:xO t [x]=true)(hg:∀u,SK F L (j+1) (k+1) d V u (g true) (h true)):SK F L j k d V t (xm x >>= g) (yo x >>= h):=λE s hE P ht=>by
 subst ht;have:=hg _ E _ hE (P.step (qr (zH hw))) rfl;unfold jA;rw[VM hw,zms hw];exact this
def SK.mayB{g:Bool->RM α}{h:Bool->PM α}(h1:xO t [x]=true->∀u,SK F L (j+1) (k+1) d V u (g true) (h true))(h2:xO t [x]=false->SK F L j k d V t (g false) (h false)):SK F L j k d V t (xm x >>= g) (yo x >>= h):=by
 cases hw:xO t [x] with
 |true=>exact SK.mayYY hw (h1 hw)
 |false=>exact SK.mayL hw (SK.mayR hw (h2 hw))
def SK.may{A B:RM α}{A' B':PM α}(h1:xO t [x]=true->∀u,SK F L (j+1) (k+1) d V u A A')(h2:xO t [x]=false->SK F L j k d V t B B'):SK F L j k d V t (xm x >>= λb=>if b=true then A else B) (yo x >>= λb=>if b=true then A' else B'):=SK.mayB h1 h2
def SK.mayMust{g:Bool->RM α}{h:yO->PM α}(hw:xO t [x]=true)(hg:∀u,SK F L (j+1) (k+1) d V u (g true) (h t)):SK F L j k d V t (xm x >>= g) (zC x >>= h):=λE s hE P ht=>by
 subst ht;have:=hg _ E _ hE (P.step (qr (zH hw))) rfl;unfold jA;rw[VM hw,zjM hw];exact this
def SK.mayTake{g:Bool->RM α}{h:yO->PM α}(hw:xO t [x]=true)(hg:∀u,SK F L (j+1) (k+1) d V u (g true) (h t)):SK F L j k d V t (xm x >>= g) (Zd >>= h):=λE s hE P ht=>by
 subst ht;have:=hg _ E _ hE (P.step (qr (zH hw))) rfl;unfold jA;rw[VM hw];exact this
def zeO{g:Unit->RM α}(h:s.next<E.tz.length):(rUp >>= g) E (uM s)=g () E (uM {s with next:=s.next+1}):=qM (by unfold rUp;rw[if_pos (show (uM s).n<E.tz.length from h)];rfl)
def SK.upTake{g:Unit->RM α}{h:yO->PM α}(hw:t.kind≠0)(hg:∀u,SK F L (j+1) (k+1) d V u (g ()) (h t)):SK F L j k d V t (rUp >>= g) (Zd >>= h):=λE s hE P ht=>by
 subst ht;have:=hg _ E _ hE (P.step (qr hw)) rfl;unfold jA;rw[zeO (qr hw)];exact this
def SK.upSkip{g:Unit->RM α}{h:Unit->PM α}(hw:t.kind≠0)(hg:∀u,SK F L (j+1) (k+1) d V u (g ()) (h ())):SK F L j k d V t (rUp >>= g) (jH >>= h):=λE s hE P ht=>by
 subst ht;have:=hg _ E _ hE (P.step (qr hw)) rfl;unfold jA;rw[zeO (qr hw)];exact this
def SK.upMay{g:Unit->RM α}{h:Bool->PM α}(hw:xO t [x]=true)(hg:∀u,SK F L (j+1) (k+1) d V u (g ()) (h true)):SK F L j k d V t (rUp >>= g) (yo x >>= h):=λE s hE P ht=>by
 subst ht;have hl:=qr (zH hw);have:=hg _ E _ hE (P.step hl) rfl;unfold jA;rw[zeO hl,zms hw];exact this
def zgC{g:List UInt8->RM α}(h:(zw E s).kind=kk):(Ye kk >>= g) E (uM s)=g (zw E s).text E (uM {s with next:=s.next+1}):=qM (by unfold Ye;rw[VR,if_pos h,zeP];rfl)
def zgD{g:List UInt8->RM α}(h:(zw E s).kind≠kk):(Ye kk >>= g) E (uM s)=g [] E (uM s).fail:=qM (by unfold Ye;rw[VR,if_neg h])
def zbi{g:Unit->RM α}(h:xO (zw E s) [x]=false):(zI x >>= g) E (uM s)=g () E (uM s).fail:=qM (by unfold zI;rw[Qm,h];rfl)
def zio{g:Unit->RM α}(h:xO (zw E s) [x]=true):(zI x >>= g) E (uM s)=g () E (uM {s with next:=s.next+1}):=qM (by unfold zI;rw[Qm,h];rfl)
def SK.txSkip{g:List UInt8->RM α}{h:Unit->PM α}(hq:t.kind=kk)(h0:kk≠0)(hg:∀u,SK F L (j+1) (k+1) d V u (g t.text) (h ())):SK F L j k d V t (Ye kk >>= g) (jH >>= h):=λE s hE P ht=>by
 subst ht;have:=hg _ E _ hE (P.step (qw hq h0)) rfl;unfold jA;rw[zgC hq];exact this
def SK.tx{g:List UInt8->RM α}{h:yO->PM α}(h0:kk≠0)(hg:t.kind=kk->∀u,SK F L (j+1) (k+1) d V u (g t.text) (h t))(hk:∀a,Bk 8 (g a))(hk0:0<=k)(hd:8<=d):SK F L j k d V t (Ye kk >>= g) (xp kk >>= h):=λE s hE P ht=>by
 subst ht;by_cases hq:(zw E s).kind=kk
 ·have:=hg hq _ E _ hE (P.step (qw hq h0)) rfl;unfold jA;rw[zgC hq,zng hq];exact this
 ·unfold jA;rw[zgD hq,znh hq];exact⟨λ_ _ h=>(by cases h),λp h=>by cases h;exact zaf P hE hk0 (hk _) hd⟩
def SK.need{g:Unit->RM α}{h:yO->PM α}(hg:xO t [x]=true->∀u,SK F L (j+1) (k+1) d V u (g ()) (h t))(hk:∀a,Bk 8 (g a))(hk0:0<=k)(hd:8<=d):SK F L j k d V t (zI x >>= g) (zC x >>= h):=λE s hE P ht=>by
 subst ht;cases hw:xO (zw E s) [x] with
 |true=>
  have:=hg hw _ E _ hE (P.step (qr (zH hw))) rfl;unfold jA;rw[zio hw,zjM hw];exact this
 |false=>
  unfold jA;rw[zbi hw,zjN hw];exact⟨λ_ _ h=>(by cases h),λp h=>by cases h;exact zaf P hE hk0 (hk _) hd⟩
def PF(t:yO)(f:PM α):Prop:=∀E s,zw E s=t->f E s=.bad (t.at_:Int)
def LF(t:yO)(m:RM α):Prop:=∀E s,zw E s=t->∃m':RM α,Bk 8 m'/\m E (uM s)=m' E (uM s).fail
def SK.stop{m:RM α}{f:PM α}(hl:LF t m)(hr:PF t f)(hk0:0<=k)(hd:8<=d):SK F L j k d V t m f:=λE s hE P ht=>by
 obtain⟨m',hk,e⟩:=hl E s ht;have e2:=hr E s ht;subst ht;unfold jA;rw[e,e2];exact⟨λ_ _ h=>(by cases h),λp h=>by cases h;exact zaf P hE hk0 hk hd⟩
def LF.tx{g:List UInt8->RM α}(h:t.kind≠kk)(hk:∀a,Bk 8 (g a)):LF t (Ye kk >>= g):=λE s ht=>⟨g [],hk _,by subst ht;exact zgD h⟩
def LF.need{g:Unit->RM α}(h:xO t [x]=false)(hk:∀a,Bk 8 (g a)):LF t (zI x >>= g):=λE s ht=>⟨g (),hk _,by subst ht;exact zbi h⟩
def LF.fail{g:Unit->RM α}(hk:∀a,Bk 8 (g a)):LF t (QH >>= g):=λE s ht=>⟨g (),hk _,rfl⟩
def PF.must{h:yO->PM α}(hw:xO t [x]=false):PF t (zC x >>= h):=λE s ht=>by
 subst ht;exact zjN hw
def PF.fail:PF t (zgV:PM α):=λE s ht=>by subst ht;rfl
def SK.loop{m:Nat->RM α}{f:Nat->PM α}(h:∀L,SK F L j k d V t (m L) (f L)):SK F L j k d V t (λE s=>m (E.tz.length+1) E s) (λE s=>f (E.tz.length+1) E s):=λE s hE P ht=>h (E.tz.length+1) E s hE ⟨P.wf,P.le,P.cr,P.fu,by have:=P.jn;omega,P.vd,P.jn⟩ ht
def SK.zero{m:RM α}{f:PM α}(h0:0<=j):SK F 0 j k d V t m f:=λE s hE P ht=>by
 have:=P.lo;have:=P.le;omega
def SK.fuel{m:RM α}{f:PM α}(h:SK F L j k d V t m f):SK F (L+1) (j+1) k d V t m f:=λE s hE P ht=>h E s hE ⟨P.wf,P.le,P.cr,by have:=P.fu;omega,by have:=P.lo;omega,P.vd,by have:=P.jn;omega⟩ ht
def SK.congrR{m:RM α}{f f':PM α}(h:SK F L j k d V t m f)(e:∀E s,f' E s=f E s):SK F L j k d V t m f':=λE s hE P ht=>by
 unfold jA;rw[e];exact h E s hE P ht
def SK.congrL{m m':RM α}{f:PM α}(h:SK F L j k d V t m f)(e:∀E s,m' E s=m E s):SK F L j k d V t m' f:=λE s hE P ht=>by
 unfold jA;rw[e];exact h E s hE P ht
end
structure qe(F:Nat)(R:xn)(P:qi):Prop where
 gd:yW P
 he:∀L t,SK F L 1 0 (200*F) [] t R.expr P.expr
 hn:∀L t,SK F L 1 0 (200*F) [] t R.not P.bin2
 hu:∀L t,SK F L 1 0 (200*F) [] t R.unary P.unary
 hb:∀L t,SK F L 1 0 (200*F) [] t R.block P.block
 hl:∀L t,SK F L 1 0 (200*F) [] t R.els (YA [[105,102]] >>= λb=>if b=true then P.branch else P.block)
 ht:∀L t,SK F L 1 0 (200*F) [] t R.type P.kind
 hp:∀L t,SK F L 1 0 (200*F) [] t R.pattern P.pattern
 ke:Bk 1 R.expr
 kn:Bk 1 R.not
 ku:Bk 1 R.unary
 kb:Bk 1 R.block
 kl:Bk 1 R.els
 kt:Bk 1 R.type
 kp:Bk 1 R.pattern
section
variable {α β γ:Type} {F L d d1:Nat} {j j1 k k1:Int} {V:List Int} {t:yO} {x:List UInt8} {R:xn} {P:qi}
def vX{part:RM Int}:Bk e (vg part acc):=Bk.loop (m:=λn=>qN n part acc) λ_=>Bk.mayIf Bk.pure
def SK.bindI{m:RM Int}{f:PM Int}{g:Int->RM β}{h:Int->PM β}(hm:SK F L j1 k1 d1 [] t m f)(gd:Gd dd Vd f)(hg:∀a u,SK F L (j+dd) (k+dd) d (a :: V) u (g a) (h a))(hk:∀a,Bk 8 (g a):=by intro a;repeat (first|exact Bk.pure|exact Bk.end_|refine Bk.endB λ_=>?_|refine Bk.jx λ_=>?_|refine Bk.need λ_=>?_|refine Bk.tx (by decide) λ_=>?_|refine Bk.mayIf ?_|refine Bk.isIf ?_|refine Bk.fail λ_=>?_|refine Bk.bind (e1:=1) (by assumption) λ_=>?_|refine Bk.bind (e1:=3) (by assumption) λ_=>?_|refine Bk.bind (e1:=4) (by assumption) λ_=>?_|refine Bk.bind (e1:=0) vX λ_=>?_|refine Bk.bind (e1:=0) (by assumption) λ_=>?_))(hj:j1<=j:=by decide)(h1:k1<=k:=by decide)(hd:d1+8<=d:=by omega)(hd2:d<=200*F+900:=by omega):SK F L j k d V t (m >>= g) (f >>= h):=SK.bind (vs:=λa=>[a]) hm gd hg hk (λs a h k hk=>by rw[wD] at hk;rw[hk];exact h) hj h1 hd hd2
def SK.bindL{m:RM (List Int)}{f:PM (List Int)}{g:List Int->RM β}{h:List Int->PM β}(hm:SK F L j1 k1 d1 [] t m f)(gd:Gd dd JO f)(hg:∀a u,SK F L (j+dd) (k+dd) d (a ++ V) u (g a) (h a))(hk:∀a,Bk 8 (g a):=by intro a;repeat (first|exact Bk.pure|exact Bk.end_|refine Bk.endB λ_=>?_|refine Bk.jx λ_=>?_|refine Bk.need λ_=>?_|refine Bk.tx (by decide) λ_=>?_|refine Bk.mayIf ?_|refine Bk.isIf ?_|refine Bk.fail λ_=>?_|refine Bk.bind (e1:=1) (by assumption) λ_=>?_|refine Bk.bind (e1:=3) (by assumption) λ_=>?_|refine Bk.bind (e1:=4) (by assumption) λ_=>?_|refine Bk.bind (e1:=0) vX λ_=>?_|refine Bk.bind (e1:=0) (by assumption) λ_=>?_))(hj:j1<=j:=by decide)(h1:k1<=k:=by decide)(hd:d1+8<=d:=by omega)(hd2:d<=200*F+900:=by omega):SK F L j k d V t (m >>= g) (f >>= h):=SK.bind (vs:=λa=>a) hm gd hg hk (λs a h k hk=>h k hk) hj h1 hd hd2
def SK.tx'{g:List UInt8->RM α}{h:yO->PM α}(hg:t.kind=kk->∀u,SK F L (j+1) (k+1) d V u (g t.text) (h t))(h0:kk≠0:=by decide)(hk:∀a,Bk 8 (g a):=by intro a;repeat (first|exact Bk.pure|exact Bk.end_|refine Bk.endB λ_=>?_|refine Bk.jx λ_=>?_|refine Bk.need λ_=>?_|refine Bk.tx (by decide) λ_=>?_|refine Bk.mayIf ?_|refine Bk.isIf ?_|refine Bk.fail λ_=>?_|refine Bk.bind (e1:=1) (by assumption) λ_=>?_|refine Bk.bind (e1:=3) (by assumption) λ_=>?_|refine Bk.bind (e1:=4) (by assumption) λ_=>?_|refine Bk.bind (e1:=0) vX λ_=>?_|refine Bk.bind (e1:=0) (by assumption) λ_=>?_))(hk0:0<=k:=by decide)(hd:8<=d:=by omega):SK F L j k d V t (Ye kk >>= g) (xp kk >>= h):=SK.tx h0 hg hk hk0 hd
def SK.need'{g:Unit->RM α}{h:yO->PM α}(hg:xO t [x]=true->∀u,SK F L (j+1) (k+1) d V u (g ()) (h t))(hk:∀a,Bk 8 (g a):=by intro a;repeat (first|exact Bk.pure|exact Bk.end_|refine Bk.endB λ_=>?_|refine Bk.jx λ_=>?_|refine Bk.need λ_=>?_|refine Bk.tx (by decide) λ_=>?_|refine Bk.mayIf ?_|refine Bk.isIf ?_|refine Bk.fail λ_=>?_|refine Bk.bind (e1:=1) (by assumption) λ_=>?_|refine Bk.bind (e1:=3) (by assumption) λ_=>?_|refine Bk.bind (e1:=4) (by assumption) λ_=>?_|refine Bk.bind (e1:=0) vX λ_=>?_|refine Bk.bind (e1:=0) (by assumption) λ_=>?_))(hk0:0<=k:=by decide)(hd:8<=d:=by omega):SK F L j k d V t (zI x >>= g) (zC x >>= h):=SK.need hg hk hk0 hd
def pmA(a:PM α)(b:α->PM β)(c:β->PM γ)(E:zr)(s:yx):((a >>= b) >>= c) E s=(a >>= λx=>b x >>= c) E s:=by
 change PM.bind (PM.bind a b) c E s=PM.bind a (λx=>PM.bind (b x) c) E s;unfold PM.bind;cases a E s <;> rfl
def zfE{a:PM α}{b b':α->PM β}{s:yx}(h:∀x s,b x E s=b' x E s):(a >>= b) E s=(a >>= b') E s:=by
 change PM.bind a b E s=PM.bind a b' E s;unfold PM.bind;cases a E s with
 |ok x s=>exact h x s
 |bad p=>rfl
def zod{A B:PM α}{c:α->PM β}(E:zr)(s:yx):((a >>= λb=>if b=true then A else B) >>= c) E s=(a >>= λb=>if b=true then (A >>= c) else (B >>= c)) E s:=by
 rw[pmA];exact zfE λb s=>by cases b <;> rfl
def kdF(h:t.kind≠kk):¬((t.kind == kk)=true):=λe=>h (pR.1 e)
def kdT(h:t.kind=kk):(t.kind == kk)=true:=pR.2 h
def ze0(a:PM α)(b:α->PM β)(c:β->PM γ):((a >>= b) >>= c)=(a >>= λx=>b x >>= c):=funext λE=>funext λs=>pmA a b c E s
def zn8(b:Bool)(A B:PM α)(c:α->PM β):((if b=true then A else B) >>= c)=if b=true then (A >>= c) else (B >>= c):=by cases b <;> rfl
def zn7(a:α)(c:α->PM β):((Pure.pure a:PM α) >>= c)=c a:=rfl
def VH{c:List Int->PM β}(E:zr)(s:yx):(jd part >>= c) E s=(yo [40] >>= λb=>if b=true then (jW part >>= λl=>zC [41] >>= λ_=>c l) else c []) E s:=by
 unfold jd;rw[zod];refine zfE λb s=>?_
 cases b with
 |true=>
  simp only[if_true];rw[pmA];refine zfE λl s=>?_
  rw[pmA];rfl
 |false=>rfl
theorem zg2{part:RM Int}{part':PM Int}(hp:∀L t,SK F L 1 0 d1 [] t part part')(gp:Gd 0 Vd part')(hd:d1+8<=d)(hd2:d<=200*F+900):∀(L:Nat) (acc V:List Int) (t:yO),SK F L 1 0 d V t (part >>= λx=>qN L part (acc ++ [x])) (jI L part' acc)
 |0,acc,V,t=>SK.zero (by decide)
 |n+1,acc,V,t=>SK.bindI (hp _ _) gp (λx u=>SK.may (λhw v=>SK.fuel ((zg2 hp gp hd hd2 n (acc ++ [x]) [] v).down (by decide) (by decide) (pC _) (λ_ h=>by cases h))) λhw=>SK.pure)
def Xv{part:RM Int}(hp:∀L t,SK F L 1 0 d1 [] t part part')(gp:Gd 0 Vd part')(hd:d1+8<=d)(hd2:d<=200*F+900)(t:yO):SK F L 1 0 d V t (part >>= λx=>vg part [x]) (jW part'):=
 (SK.loop (m:=λL=>part >>= λx=>qN L part ([] ++ [x])) (f:=λL=>jI L part' []) λL=>zg2 hp gp hd hd2 L [] V t).congrL λ_ _=>rfl
def zda(k:Bk 1 R.type):Bk 1 (Qf R):=Bk.bind (e:=0) k λ_=>vX
def zer(k:Bk 1 R.expr):Bk 1 (Yj R):=Bk.bind (e:=0) k λ_=>vX
def zc9(H:qe F R P)(t:yO):SK F L 1 0 (200*F+10) V t (Qf R) (jW P.kind):=Xv H.ht H.gd.kind (by omega) (by omega) t
def zeq(H:qe F R P)(t:yO):SK F L 1 0 (200*F+10) V t (Yj R) (jW P.expr):=Xv H.he H.gd.expr (by omega) (by omega) t
def zjR(k:Bk 1 R.type):Bk 3 (Vw R):=Bk.jx λ_=>Bk.tx (by decide) λ_=>Bk.need λ_=>Bk.bind (e:=2) k λ_=>Bk.end_
def zjQ(H:qe F R P)(t:yO):SK F L 0 0 (200*F+10) V t (Vw R) (ka P):=by
 obtain⟨gd,he,hn,hu,hb,hl,ht,hp,ke,kn,ku,kb,kl,kt,kp⟩:=H;unfold Vw ka;refine SK.placeL λp hp=>SK.tx' λhk u=>?_
 obtain rfl:=hp (by omega);refine SK.need' λ_ u=>?_
 refine SK.bindI (ht _ _) gd.kind λx u=>?_
 exact SK.end_ (by decide)
theorem VI(H:qe F R P):∀(L:Nat) (acc V:List Int) (t:yO),SK F L 0 0 (200*F+20) V t (Zb R L acc) (jI L (ka P) acc)
 |0,acc,V,t=>SK.zero (by decide)
 |n+1,acc,V,t=>SK.bindI (zjQ H _) (vj H.gd) (λx u=>SK.may (λhw v=>SK.fuel ((VI H n (acc ++ [x]) [] v).down (by decide) (by decide) (pC _) (λ_ h=>by cases h))) λhw=>SK.pure)
def zbf(H:qe F R P)(t:yO):SK F L 0 0 (200*F+20) V t (Zs R) (jW (ka P)):=SK.loop (m:=λL=>Zb R L []) (f:=λL=>jI L (ka P) []) λL=>VI H L [] V t
def Jy(k:Bk 1 R.type):Bk 3 (Zs R):=Bk.loop (m:=λn=>Zb R n []) λ_=>Bk.bind (e:=0) (zjR k) λ_=>Bk.mayIf Bk.pure
def zhk(k:Bk 1 R.type):Bk 4 (YR R):=Bk.need λ_=>Bk.bind (e1:=3) (e:=1) (Bk.isIf (Jy k)) λ_=>Bk.need λ_=>Bk.need λ_=>Bk.bind (e:=0) k λ_=>Bk.pure
def zhi(H:qe F R P)(t:yO):SK F L 0 0 (200*F+30) V t (YR R) (Zh P):=by
 have hq:=zbf (L:=L) (V:=[]) H;have kq:Bk 3 (rIs [41] >>= λb=>if b=true then (pure []:RM (List Int)) else Zs R):=Bk.isIf (Jy H.kt);obtain⟨gd,he,hn,hu,hb,hl,ht,hp,ke,kn,ku,kb,kl,kt,kp⟩:=H;unfold YR Zh;refine SK.need' λ_ u=>?_
 refine SK.bindL (SK.is2 (λ_=>SK.pure) λ_=>hq u) (uQ (vj gd)) λl u=>?_
 refine SK.need' λ_ u=>SK.need' λ_ u=>?_
 refine SK.bindI (ht _ _) gd.kind λx u=>?_
 exact SK.pure
def zl2(k:Bk 1 R.type):Bk 3 (YS R):=Bk.jx λ_=>Bk.tx (by decide) λ_=>Bk.mayIf Bk.end_
def zl1(H:qe F R P)(t:yO):SK F L 0 0 (200*F+20) V t (YS R) (Yz P):=by
 have hq:=zc9 (L:=L) (V:=[]) H;have kq:=zda H.kt;obtain⟨gd,he,hn,hu,hb,hl,ht,hp,ke,kn,ku,kb,kl,kt,kp⟩:=H;unfold YS Yz;refine SK.placeL λp hp=>SK.tx' λhk u=>?_
 obtain rfl:=hp (by omega);refine SK.congrR (SK.may (λ_ u=>?_) λ_=>?_) (VH (c:=_))
 ·refine SK.bindL (hq _) (jg gd.kind) λl u=>?_
  refine SK.need' λ_ u=>?_
  exact SK.end_ (by decide)
 ·exact SK.end_ (by decide)
def zgB:Bk 1 (za9 R):=Bk.jx λ_=>Bk.mayIf (Bk.mayIf (Bk.mayIf (Bk.mayIf (Bk.mayIf (Bk.mayIf (Bk.mayIf (Bk.tx (by decide) λ_=>Bk.end_)))))))
def zld(H:qe F R P)(t:yO):SK F L 0 0 (200*F+30) V t (za9 R) (YB P):=by
 have hq:=zc9 (L:=L) (V:=[]) H;have kq:Bk 1 (rIs [41] >>= λb=>if b=true then (pure []:RM (List Int)) else Qf R):=Bk.isIf (zda H.kt);obtain⟨gd,he,hn,hu,hb,hl,ht,hp,ke,kn,ku,kb,kl,kt,kp⟩:=H;unfold za9 YB;refine SK.placeL λp hp=>SK.tokR ?_
 by_cases h2:t.kind=2
 ·rw[if_pos (kdT h2)];obtain rfl:=hp (by omega)
  iterate 7 (refine SK.mayLI (zf3 ⟨by omega,by omega⟩) ?_)
  exact SK.txSkip h2 (by decide) λu=>SK.end_ (by decide)
 ·rw[if_neg (kdF h2)]
  iterate 4 (refine SK.may (λhw u=>?_) λ_=>?_;· (obtain rfl:=hp (zH hw);exact SK.end_ (by decide)))
  iterate 2 (refine SK.may (λhw u=>?_) λ_=>?_;· (obtain rfl:=hp (zH hw);exact SK.bindI (ht _ _) gd.kind λx u=>SK.end_ (by decide)))
  cases hw:xO t [[102,110]] with
  |true=>
   obtain rfl:=hp (zH hw);refine SK.mayMust hw λu=>?_
   simp only[if_true];refine SK.need' λ_ u=>?_
   refine SK.bindL (SK.is2 (λ_=>SK.pure) λ_=>hq u) (uQ gd.kind) λl u=>?_
   refine SK.need' λ_ u=>SK.need' λ_ u=>?_
   exact SK.bindI (ht _ _) gd.kind λx u=>SK.end_ (by decide)
  |false=>exact SK.mayLI hw (SK.stop (LF.tx h2 λ_=>Bk.end_) (PF.must hw) (by decide) (by omega))
def VF:Bk 1 (ZU R):=Bk.jx λ_=>Bk.kd (Bk.mayIf (Bk.mayIf (Bk.mayIf (Bk.tx (by decide) λ_=>Bk.mayIf Bk.end_))))
def zfH(H:qe F R P)(t:yO):SK F L 0 0 (200*F+30) V t (ZU R) (jo P):=by
 have hq:∀t,SK F L 1 0 (200*F+10) [] t _ _:=Xv H.hp H.gd.pattern (by omega) (by omega);obtain⟨gd,he,hn,hu,hb,hl,ht,Mb,ke,kn,ku,kb,kl,kt,kp⟩:=H;have kq2:Bk 1 (R.pattern >>= λa=>vg R.pattern [a]):=Bk.bind (e:=0) kp λ_=>vX
 unfold ZU jo;refine SK.placeL λp hp=>SK.kdL (SK.tokR ?_)
 by_cases h1:t.kind=1
 ·obtain rfl:=hp (by omega);rw[if_pos h1,if_pos (kdT h1)];exact SK.txSkip h1 (by decide) λu=>SK.end_ (by decide)
 rw[if_neg h1,if_neg (kdF h1)];by_cases h3:t.kind=3
 ·obtain rfl:=hp (by omega);rw[if_pos h3,if_pos (kdT h3)];exact SK.txSkip h3 (by decide) λu=>SK.end_ (by decide)
 rw[if_neg h3,if_neg (kdF h3)];by_cases h4:t.kind=4
 ·obtain rfl:=hp (by omega);rw[if_pos h4,if_pos (kdT h4)];exact SK.txSkip h4 (by decide) λu=>SK.end_ (by decide)
 rw[if_neg h4,if_neg (kdF h4)];by_cases h2:t.kind=2
 ·obtain rfl:=hp (by omega);rw[if_pos (kdT h2)]
  iterate 3 (refine SK.mayLI (zf3 ⟨by omega,by omega⟩) ?_)
  refine SK.txSkip h2 (by decide) λu=>?_
  refine SK.congrR (SK.may (λ_ u=>?_) λ_=>SK.end_ (by decide)) (VH (c:=_));refine SK.congrL (SK.bindL (hq _) (jg gd.pattern) λl u=>?_) λE s=>(rmA _ _ _ E s).symm
  refine SK.need' λ_ u=>?_
  exact SK.end_ (by decide)
 rw[if_neg (kdF h2)];cases hw:xO t [[45]] with
 |true=>
  obtain rfl:=hp (zH hw);refine SK.mayRI (ZJ hw (by decide)) (SK.mayRI (ZJ hw (by decide)) ?_);refine SK.mayMust hw λu=>?_
  simp only[if_true];exact SK.tx' λhk u=>SK.end_ (by decide)
 |false=>
  refine SK.mayLI hw ?_
  iterate 2 (refine SK.may (λhw u=>?_) λ_=>?_;· (obtain rfl:=hp (zH hw);exact SK.end_ (by decide)))
  exact SK.stop (LF.tx h2 λ_=>Bk.mayIf Bk.end_) (PF.must hw) (by decide) (by omega)
end
section
variable {α β γ:Type} {F L d d1:Nat} {j j1 k k1:Int} {V:List Int} {t:yO} {x:List UInt8} {R:xn} {P:qi}
def SK.isUp{A B:RM α}{A' B':PM α}(h1:xO t [x]=true->∀u,SK F L (j+1) (k+1) d V u A A')(h2:xO t [x]=false->SK F L j k d V t B B'):SK F L j k d V t (rIs x >>= λb=>if b=true then (rUp >>= λ_=>A) else B) (yo x >>= λb=>if b=true then A' else B'):=by
 refine SK.isL ?_;cases hw:xO t [x] with
 |true=>exact SK.upMay hw (h1 hw)
 |false=>exact SK.mayR hw (h2 hw)
def SK.kinds{g:Nat->RM α}{h:Nat->PM α}{a:Int}(ha:a∈V)(hg:∀q:Nat,SK F L j k d V t (g q) (h q)):SK F L j k d V t (Ju a >>= g) (zdQ a >>= h):=λE s hE P ht=>by
 have hv:=P.vd a ha;have:=hg ((s.nz[a.toNat]?).elim 0 Nd.kind) E s hE P ht;unfold jA;rw[qM (s1:=uM s) (a:=(s.nz[a.toNat]?).elim 0 Nd.kind) (by unfold Ju;rw[if_pos hv.1];rfl)];exact this
def zli(H:qe F R P)(t:yO):SK F L 1 0 (200*F+10) V t (Kf R) (Ze P):=by
 obtain⟨gd,he,hn,hu,hb,hl,ht,hp,ke,kn,ku,kb,kl,kt,kp⟩:=H;unfold Kf Ze;refine SK.placeL λp hp=>SK.tokR ?_
 iterate 2
  refine SK.isUp (λhw u=>?_) λ_=>?_
  ·obtain rfl:=hp (zH hw);refine SK.tx' λhk u=>?_
   refine SK.need' λ_ u=>?_
   refine SK.bindI (he _ _) gd.expr λx u=>?_
   exact SK.endB (λa=>SK.pure) (by simp) (by decide)
 refine SK.bindI (he _ _) gd.expr (λa u=>?_) (hk:=λa=>Bk.isIf Bk.pure);refine SK.is2 (λhw=>?_) λ_=>SK.pure
 refine SK.kinds (by simp) λq=>?_
 by_cases hq:q=5\/q=23
 ·rw[if_pos hq,if_pos (by simpa using hq)];refine SK.placeL λp hp=>SK.upTake (zH hw) λu=>?_
  obtain rfl:=hp (zH hw);refine SK.bindI (he _ _) gd.expr λx u=>?_
  exact SK.endB (λa=>SK.pure) (by simp) (by decide)
 ·rw[if_neg hq,if_neg (by simpa using hq)];exact SK.stop (LF.fail λ_=>Bk.pure) PF.fail (by decide) (by omega)
def SK.goL{g:Bool->RM α}{f:PM α}(hg:SK F L j k d V t (g (!xO t [[125]])) f):SK F L j k d V t (rGo >>= g) f:=λE s hE P ht=>by
 have:=hg E s hE P ht;unfold jA;rw[qM (s1:=uM s) (a:= !xO t [[125]]) (by unfold rGo;rw[Qm,ht];rfl)];exact this
def SK.bindS{m:RM (Int×Bool)}{g:Int×Bool->RM β}{h:Int×Bool->PM β}(hm:SK F L j1 k1 d1 [] t m f)(gd:Gd dd (λs (x:Int×Bool)=>Vd s x.1) f)(hg:∀a u,SK F L (j+dd) (k+dd) d (a.1 :: V) u (g a) (h a))(hk:∀a,Bk 8 (g a))(hj:j1<=j:=by decide)(h1:k1<=k:=by decide)(hd:d1+8<=d:=by omega)(hd2:d<=200*F+900:=by omega):SK F L j k d V t (m >>= g) (f >>= h):=SK.bind (vs:=λa=>[a.1]) hm gd hg hk (λs a h k hk=>by rw[wD] at hk;rw[hk];exact h) hj h1 hd hd2
def zdi{n:Nat}:Bk e (kC R (n+1) acc):=Bk.go Bk.pure
theorem zdg(H:qe F R P){c:List Int×Int->RM β}{c':List Int×Int->PM β}(hc:∀L V x u,SK F L 1 0 (200*F+20) V u (c x) (c' x))(kc:∀x,Bk 4 (c x)):∀(L:Nat) (acc V:List Int) (t:yO),SK F L 1 0 (200*F+20) V t (kC R L acc >>= λx=>zI [125] >>= λ_=>c x) (qq P L acc >>= λx=>zC [125] >>= λ_=>c' x)
 |0,acc,V,t=>SK.zero (by decide)
 |n+1,acc,V,t=>by
  have key:SK F (n+1) 1 0 (200*F+20) V t (rGo >>= λb=>if b=true then (Kf R >>= λx=>xm [59] >>= λb=>if b=true then (kC R n (acc ++ [x.1]) >>= λx=>zI [125] >>= λ_=>c x) else if x.2=true then (zI [125] >>= λ_=>c (acc ++ [x.1],1)) else (QH >>= λ_=>zI [125] >>= λ_=>c (acc ++ [x.1],1))) else (zI [125] >>= λ_=>c (acc,0)))
   (YA [[125]] >>= λb=>if b=true then (zC [125] >>= λ_=>c' (acc,0)) else (Ze P >>= λx=>YA [[125]] >>= λb=>if (x.2 && b)=true then (zC [125] >>= λ_=>c' (acc ++ [x.1],1)) else (zC [59] >>= λ_=>qq P n (acc ++ [x.1]) >>= λx=>zC [125] >>= λ_=>c' x))):=by
   refine SK.goL (SK.uP ?_);cases hw:xO t [[125]] with
   |true=>
    simp only[Bool.not_true,Bool.false_eq_true,if_false,if_true];exact SK.need (λ_ u=>(hc _ _ _ _).down (by decide) (by decide) (pC _) (λ_ h=>h)) (λ_=>(kc _).mono (by omega)) (by decide) (by omega)
   |false=>
    simp only[Bool.not_false,Bool.false_eq_true,if_false,if_true];refine SK.bindS (zli H t) (zbV H.gd) (λx u=>?_) λx=>?_
    ·refine SK.uP ?_;cases h2:xO u [[59]] with
     |true=>
      rw[ZJ h2 (by decide),Bool.and_false,if_neg (show ¬(false=true) by decide)];exact SK.mayMust h2 λv=>SK.fuel (j:=1+0) ((zdg H hc kc n (acc ++ [x.1]) _ v).down (by decide) (by decide) (pC _) (λ_ h=>h))
     |false=>
      refine SK.mayLI h2 ?_;cases hx:x.2 with
      |true=>
       rw[if_pos rfl];cases h3:xO u [[125]] with
       |true=>
        rw[if_pos (show (true && true)=true from rfl)];exact SK.need (λ_ u=>(hc _ _ _ _).down (by decide) (by decide) (pC _) (λ_ h=>h)) (λ_=>(kc _).mono (by omega)) (by decide) (by omega)
       |false=>
        rw[if_neg (show ¬((true && false)=true) by decide)];exact SK.stop (LF.need h3 λ_=>(kc _).mono (by omega)) (PF.must h2) (by decide) (by omega)
      |false=>
       rw[if_neg (show ¬(false=true) by decide),Bool.false_and,if_neg (show ¬(false=true) by decide)];exact SK.stop (LF.fail λ_=>Bk.need λ_=>(kc _).mono (by omega)) (PF.must h2) (by decide) (by omega)
    ·refine Bk.mayIf ?_;cases x.2 with
     |true=>rw[if_pos rfl];exact Bk.need λ_=>(kc _).mono (by omega)
     |false=>rw[if_neg (by decide)];exact Bk.fail λ_=>Bk.need λ_=>(kc _).mono (by omega)
  rw[show kC R (n+1) acc=(rGo >>= λb=>if b=true then (Kf R >>= λx=>xm [59] >>= λb=>if b=true then kC R n (acc ++ [x.1]) else if x.2=true then Pure.pure (acc ++ [x.1],1) else (QH >>= λ_=>Pure.pure (acc ++ [x.1],1))) else Pure.pure (acc,0)) from rfl];unfold qq;simp only[kg,Zo,uH,ze0,zn8,zn7];exact key
def zap:Bk 1 (Qh R):=Bk.jx λ_=>Bk.need λ_=>Bk.bind (e:=1) (e1:=0) (Bk.loop (m:=λn=>kC R n []) λ_=>zdi) λ_=>Bk.need λ_=>Bk.end_
def zev(H:qe F R P)(t:yO):SK F L 0 0 (200*F+20) V t (Qh R) (vP P):=by
 unfold Qh vP;refine SK.placeL λp hp=>SK.need (λhw u=>?_) (λ_=>Bk.bind (e:=8) (e1:=0) (Bk.loop (m:=λn=>kC R n []) λ_=>zdi) λ_=>Bk.need λ_=>Bk.end_) (by decide) (by omega)
 obtain rfl:=hp (zH hw);have:=SK.loop (λL=>zdg H (c:=λx=>yv 28 [] x.2 t.at_ x.1) (c':=λx=>zT 28 [] x.2 t.at_ x.1) (λL V x u=>SK.end_ (by decide)) (λx=>Bk.end_) L [] V u) (L:=L);exact ((this.congrR λ_ _=>rfl).congrL λ_ _=>rfl).down (by decide) (by decide) (pC _) (λ_ h=>h)
def SK.one{m:RM α}{f:PM α}(h:t.kind≠0)(h0:0<=j):SK F 1 j k d V t m f:=λE s hE P ht=>by
 have:=P.lo;subst ht;have:=qr h;omega
def zgE{a x:Int}(ha:a∈V):∀y∈[a,x],y∈x :: V:=by
 intro y hy;simp at hy;rcases hy with rfl|rfl
 ·exact wJ _ ha
 ·exact List.mem_cons_self ..
theorem Vc{w:List UInt8}{kd lv:Nat}{part:RM Int}{part':PM Int}(h1:yD lv=[w])(h2:YX lv w=kd)(h3:(lv == 2)=false)(hp:∀L t,SK F L 0 0 d1 [] t part part')(gp:Gd 0 Vd part')(hd:d1+8<=d)(hd2:d<=200*F+900):∀(L:Nat) (a:Int) (V:List Int) (t:yO),a∈V->SK F L 0 0 d V t (vf w kd part L a) (YE lv part' L a)
 |0,a,V,t,ha=>SK.zero (by decide)
 |n+1,a,V,t,ha=>by
  unfold vf YE;rw[h1];refine SK.is2 (λhw=>?_) λ_=>SK.pure
  cases n with
  |zero=>exact SK.one (zH hw) (by decide)
  |succ n=>
   refine SK.placeL λp Mb=>SK.upTake (zH hw) λu=>?_
   obtain rfl:=Mb (zH hw);rw[zhc hw,h2,h3];refine SK.bindI (hp _ _) gp (λx u=>?_) (hk:=λa=>Bk.endB (e:=7) λ_=>Bk.isIf Bk.pure);refine SK.endB (λc=>?_) (zgE ha) (by decide);refine SK.down (j1:=0+1) (k1:=0) (V':=[c]) (SK.fuel (Vc h1 h2 h3 hp gp hd hd2 (n+1) c [c] _ (wD.2 rfl))) (by decide) (by decide) (pC _) (λy hy=>by simp at hy;simp[hy])
theorem zgX(t:yO):∀l:List (List UInt8×Nat),(l.find? λx=>xO t [x.1]).elim 0 (·.2)=if xO t (l.map (·.1))=true then (l.map (·.2)).getD ((l.map (·.1)).idxOf t.text) 0 else 0
 |[]=>by simp[xO]
 |y :: l=>by
  have ih:=zgX t l;by_cases dm:t.kind=5\/t.kind=6
  ·have hk:(t.kind == 5 || t.kind == 6)=true:=by simp[dm]
   have e:∀l,xO t l=l.contains t.text:=λl=>by unfold xO;rw[hk,Bool.true_and]
   simp only[e] at ih ⊢;by_cases hy:t.text=y.1
   ·simp[hy]
   ·have mM:(y.1 == t.text)=false:=pB.2 (Ne.symm hy);have mU:(t.text == y.1)=false:=pB.2 hy;have hb:([y.1].contains t.text)=false:=by rw[List.contains_cons,mU];rfl
    rw[List.find?_cons_of_neg (by rw[hb];decide),ih,List.map_cons,List.map_cons,List.contains_cons,mU,Bool.false_or,List.idxOf_cons,mM];rfl
  ·have e:∀l,xO t l=false:=λl=>zf3 (by omega)
   simp only[e];rw[List.find?_eq_none.2 (λx _=>by decide)];rfl
def SK.operL{l:List (List UInt8×Nat)}{g:Nat->RM α}{f:PM α}(hg:SK F L j k d V t (g (if xO t (l.map (·.1))=true then (l.map (·.2)).getD ((l.map (·.1)).idxOf t.text) 0 else 0)) f):SK F L j k d V t (XM l >>= g) f:=λE s hE P ht=>by
 have:=hg E s hE P ht;unfold jA;have e:XM l E (uM s)=some ((if xO t (l.map (·.1))=true then (l.map (·.2)).getD ((l.map (·.1)).idxOf t.text) 0 else 0),uM s):=by
  unfold XM;rw[<-zgX,<-ht];simp only[Qm]
 rw[qM e];exact this
def zco:∀r,r∈[4,5,6]->(zaH r).map (·.1)=yD (r-2)/\(zaH r).map (·.2)=qv (r-2):=by decide
def zmv:∀r,r∈[4,5,6]->∀w,w∈yD (r-2)->YX (r-2) w≠0:=by decide
def zhd(h:xO t l=true):t.text∈l:=by
 unfold xO at h;rw[pJ] at h;simpa using h.2
theorem zcp{r:Nat}{part:RM Int}{part':PM Int}(hr:r∈[4,5,6])(h3:(r-2 == 2)=false)(hp:∀L t,SK F L 0 0 d1 [] t part part')(gp:Gd 0 Vd part')(hd:d1+8<=d)(hd2:d<=200*F+900):∀(L:Nat) (a:Int) (V:List Int) (t:yO),a∈V->SK F L 0 0 d V t (Zt r part L a) (YE (r-2) part' L a)
 |0,a,V,t,ha=>SK.zero (by decide)
 |n+1,a,V,t,ha=>by
  unfold Zt YE;refine SK.operL (SK.uP ?_);rw[(zco r hr).1,(zco r hr).2];cases hw:xO t (yD (r-2)) with
  |false=>exact SK.pure
  |true=>
   simp only[if_true];rw[if_neg (show ¬((qv (r-2)).getD (List.idxOf t.text (yD (r-2))) 0=0) from zmv r hr _ (zhd hw))];cases n with
   |zero=>exact SK.one (zH hw) (by decide)
   |succ n=>
    refine SK.placeL λp Mb=>SK.upTake (zH hw) λu=>?_
    obtain rfl:=Mb (zH hw);rw[h3];refine SK.bindI (hp _ _) gp (λx u=>?_) (hk:=λa=>Bk.endB (e:=7) λ_=>Bk.oper Bk.pure);refine SK.endB (λc=>?_) (zgE ha) (by decide);refine SK.down (j1:=0+1) (k1:=0) (V':=[c]) (SK.fuel (zcp hr h3 hp gp hd hd2 (n+1) c [c] _ (wD.2 rfl))) (by decide) (by decide) (pC _) (λy hy=>by simp at hy;simp[hy])
theorem Xr(k:Bk 1 R.expr):∀(n:Nat) (first:Bool) (acc:List Int),Bk n (Za R n first acc)
 |0,first,acc=>Bk.pure
 |n+1,first,acc=>by
  unfold Za;cases first with
  |true=>exact (Bk.bind (e:=n+1) (e1:=0) Bk.pure λ_=>Bk.bind (e:=n) k λ_=>Xr k n _ _)
  |false=>exact (Bk.bind (e:=n+1) (e1:=0) (by exact λE s hb hn=>⟨(),s,(show zI [44] E s=_ by unfold zI;rw[VU hb,Jd hb];rfl),hb,rfl,pC _⟩) λ_=>Bk.bind (e:=n) k λ_=>Xr k n _ _)
theorem zgI(H:qe F R P):∀(n:Nat) (first:Bool) (acc V:List Int) (t:yO),n<=3->SK F L 1 0 (200*F+10) V t (Za R n first acc) (qP P n first acc)
 |0,first,acc,V,t,hn=>SK.pure
 |n+1,first,acc,V,t,hn=>by
  have key:∀V u,SK F L 1 0 (200*F+10) V u (R.expr >>= λx=>Za R n false (acc ++ [x])) (P.expr >>= λx=>qP P n false (acc ++ [x])):=λV u=>SK.bindI (H.he _ _) H.gd.expr (λx u=>(zgI H n false (acc ++ [x]) _ u (by omega)).down (by decide) (by decide) (pC _) (λ_ h=>h)) (hk:=λa=>(Xr H.ke n _ _).mono (by omega))
  cases first with
  |true=>exact key V t
  |false=>
   have:SK F L 1 0 (200*F+10) V t (zI [44] >>= λ_=>R.expr >>= λx=>Za R n false (acc ++ [x])) (zC [44] >>= λ_=>P.expr >>= λx=>qP P n false (acc ++ [x])):=SK.need (λ_ u=>(key V u).down (by decide) (by decide) (pC _) (λ_ h=>h)) (λ_=>Bk.bind (e:=7) H.ke λ_=>(Xr H.ke n _ _).mono (by omega)) (by decide) (by omega);refine this.congrR λE s=>?_
   change PM.bind (PM.bind (zC [44]) λ_=>Pure.pure ()) _ E s=PM.bind _ _ E s;exact pmA _ _ _ E s
