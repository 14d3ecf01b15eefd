import Derived.Test.YtcagibbaeageoaaGreatDoorSP
import Derived.Test.YtcagibbaeageoaaGreatDoorSQ
set_option maxRecDepth 100000
set_option maxHeartbeats 0
set_option linter.all false
variable{p:List UInt8->Bool}{E:Lode.zr}{s s' st st':Lode.jR}{base n pb:Nat}{G:Nat->Prop}{w:Go.World}{R:Lode.xn}{β:Type}{l:List Int}{m:Lode.RM (Int×Bool)}{x:List UInt8}
namespace Lode
theorem zep{p:List UInt8->Bool}:∀(ws:List (List UInt8)) (ks:List Nat) (j:Nat),ws.length=ks.length->j<ws.length->(∀q,q<j->p (ws.getD q [])=false)->p (ws.getD j [])=true->((ws.zip ks).find? λx=>p x.1).elim 0 (·.2)=ks.getD j 0
 |[],_,j,_,h,_,_=>absurd h (wF _)
 |w :: ws,[],j,h,_,_,_=>by cases h
 |w :: ws,k :: ks,0,_,_,_,h=>by
  have h:p w=true:=h;simp[h]
 |w :: ws,k :: ks,j+1,hl,hj,hq,h=>by
  have h0:p w=false:=hq 0 (by omega);have ih:=zep ws ks j (by simpa using hl) (by simpa using hj) (λq h'=>hq (q+1) (by omega)) h;simp only[List.zip_cons_cons];rw[List.find?_cons_of_neg (by rw[h0];decide),ih];rfl
def ziA(ws:List (List UInt8))(ks:List Nat)(h:∀q,q<ws.length->p (ws.getD q [])=false):((ws.zip ks).find? λx=>p x.1).elim 0 (·.2)=0:=by
 rw[List.find?_eq_none.2]
 ·rfl
 ·intro x hx;obtain⟨j,hj,e⟩:=List.mem_iff_getElem.1 (List.of_mem_zip hx).1;have:=h j hj;rw[pA,glE hj,Option.getD_some,e] at this;rw[this];decide
def kOp(E:zr)(s:jR)(r:Nat):Nat:=((zaH r).find? λx=>uP E s x.1).elim 0 (·.2)
def zlA:∀r,r∈[4,5,6]->zaH r=(zdT r).zip (zim r)/\(zdT r).length=(zim r).length/\(zdT r).length<=1000/\(zdT r).length≠0:=by decide
def zfW{r:Nat}(h:kOp E s r≠0):∃x,uP E s x=true:=by
 unfold kOp at h;cases hf:(zaH r).find? λx=>uP E s x.1 with
 |none=>rw[hf] at h;exact absurd rfl h
 |some y=>exact⟨y.1,List.find?_some (p:=λx:List UInt8×Nat=>uP E s x.1) hf⟩
end Lode
namespace Go.Proofs.YtcagibbaeageoaaGreatDoor
section
open Go.RowKit Lode Go.Shelf
attribute [local go_sem ↓] wp_at_zero wp_at_succ
open Go.Proofs.Tryz
section
variable {β:Type} {E:zr} {base pb:Nat} {G:Nat→Prop} {w0 w:World} {st:jR} {r:Option (β×jR)}
def rup(h:Hid (RW E base pb G w st))(F:Hid (RF base pb w0 w)):(w.cell? ⟨pb,1,none⟩=some (.int .i64 st.n)/\w.frozen? ⟨pb,1,none⟩=false)/\Hid (RW E base pb G (w.setCell ⟨pb,1,none⟩ (.int .i64 ((st.n:Int)+1))) st.up)/\Hid (RF base pb w0 (w.setCell ⟨pb,1,none⟩ (.int .i64 ((st.n:Int)+1))))/\Hid (RF base pb w (w.setCell ⟨pb,1,none⟩ (.int .i64 ((st.n:Int)+1)))):=by
 obtain⟨p,cap,nv,c0,c1,c2,c3,cf,ht⟩:=h.q.look;obtain⟨a,b⟩:=h.q.up;exact⟨⟨c1,cf 1⟩,zh a,zh (F.q.trans b),zh b⟩
def zna(h:Hid (RW E base pb G w st))(F:Hid (RF base pb w0 w)):(w.cell? ⟨pb,3,none⟩=some (.bool st.bad)/\w.frozen? ⟨pb,3,none⟩=false)/\Hid (RW E base pb G (w.setCell ⟨pb,3,none⟩ (.bool true)) st.fail)/\Hid (RF base pb w0 (w.setCell ⟨pb,3,none⟩ (.bool true)))/\Hid (RF base pb w (w.setCell ⟨pb,3,none⟩ (.bool true))):=by
 obtain⟨p,cap,nv,c0,c1,c2,c3,cf,ht⟩:=h.q.look;obtain⟨a,b⟩:=h.q.fail;exact⟨⟨c3,cf 3⟩,zh a,zh (F.q.trans b),zh b⟩
def uv{f:Unit->RM β}(mD:st.n<E.tz.length)(hr:Hid ((rUp >>= f) E st=r)):Hid (f () E st.up=r):=by
 have hr:=hr.q;change RM.bind rUp f E st=r at hr;unfold RM.bind rUp at hr;rw[if_pos mD] at hr;exact zh hr
def kr(mD:st.n<E.tz.length)(hl:E.tz.length<=100000):IntKind.i64.wrap ((st.n:Int)+1)=(st.n:Int)+1:=pF _ ⟨by omega,by omega⟩
end
def zfj(h:RW E base pb G w st)(r:Nat)(hr:r∈[4,5,6]):Calls prog 265 #[.pointer (some ⟨pb,0,none⟩),.int .i64 (r:Nat)] w λe w'=>e=.returned (.int .u8 (kOp E st r))/\Below w.heap.size w w':=by
 obtain⟨hz,mV,hn,h0⟩:=zlA r hr;have hO:=zh (zjG r (wJ _ hr) w);have hI:=zh (λ(W:World) (x:List UInt8) (hW:Below w.heap.size w W)=>uX (h.below hW) x);unfold kOp;rw[hz];generalize zdT r=ws at *;generalize zim r=ks at *;obtain⟨R,hR⟩:=exE (((ws.zip ks).find? λx=>uP E st x.1).elim 0 (·.2));rw[hR];have HF:=zh (λj h1 h2 h3=>hR.symm.trans (zep (p:=uP E st) ws ks j mV h1 h2 h3));have GO:=zh (λh=>hR.symm.trans (ziA (p:=uP E st) ws ks h));clear hR hz h hr;go_enter func265,ntmps265;go_wp2_with fail;refine hO.q.mono ?_;rintro e w1 ⟨v,u,rfl,⟨⟨hv,_⟩,hu,_⟩,mF⟩;obtain⟨g,c,rfl,_⟩:=QM hv h0;obtain⟨g2,c2,rfl,_⟩:=QM hu (by rw[<-mV];exact h0);obtain⟨n,rg⟩:∃n,ws.length=n:=⟨_,rfl⟩;have hc:=zh (λ(j:Nat) (hj:j<n) W (hW:Below w1.heap.size w1 W)=>(show W.cell? ⟨g,j,none⟩=some (.string ⟨(ws.getD j []).toArray⟩)/\W.cell? ⟨g2,j,none⟩=some (.int .u8 (ks.getD j 0:Nat)) from by
  have h1:j<ws.length:=by omega
  have h2:j<ks.length:=by omega
  exact⟨zl hW (QN hv (by rw[wC,glE h1,pA,glE h1];rfl)),zl hW (QN hu (by rw[wC,glE h2,pA,glE h2];rfl))⟩))
 have Hks:=zh (show ks.length=n by omega);have CO:=zh (rg▸GO.q);have HF':=zh (rg▸HF.q);have ro:=zh mF;rw[<-mV];rw[rg] at hn ⊢;clear hv hu mV h0 rg HF GO hO;go_wp2;go_loopw [7] (λi wr=>∃j:Nat,i=.int .i64 j/\j<=n/\Below w1.heap.size w1 wr/\Hid (∀q,q<j->uP E st (ws.getD q [])=false)) (λi _=>n-(intOf i).toNat)
 case atStart=>exact⟨0,rfl,by omega,pG _ _,zh (λq hq=>absurd hq (wF _))⟩
 case round=>
  obtain⟨j,rfl,hj,hb,rR⟩:=hrel;by_cases mD:j<n
  ·have me:(j:Int)<(n:Int):=by omega
   have th:¬((j:Int)<0):=by omega
   have hy:=pF ((j:Int)+1) (by omega);obtain⟨q1,_⟩:=hc.q j mD wr hb;have hB:=zg ro.q hb;have cV:=zh (hI.q wr (ws.getD j []) hB);obtain⟨x,hx⟩:=exE (ws.getD j []);rw[hx] at q1 cV;have HX:=zh hx;clear hx;go_wp2_with fail;refine cV.q.mono ?_;rintro e w2 ⟨rfl,mM⟩;have mU:=zg hb mM;obtain⟨_,q2⟩:=hc.q j mD w2 mU;have HB2:=zh (zg hB mM);cases hi:uP E st x with
   |true=>
    have e:=HF'.q j mD rR.q (by rw[HX.q];exact hi);rw[<-e] at q2;clear e;go_wp2;go_ret;exact⟨rfl,HB2.q⟩
   |false=>
    clear q2;go_wp2;go_roundw
    case rel=>exact⟨j+1,by go_num,by omega,mU,zh (λq hq=>by
     by_cases e:q=j
     ·rw[e,HX.q];exact hi
     ·exact rR.q q (by omega))⟩
    case measure=>simp[intOf];omega
  ·have me:¬((j:Int)<(n:Int)):=by omega
   have e:=CO.q (λq hq=>rR.q q (by omega));subst e;go_wp2;go_ret;exact⟨rfl,zg ro.q hb⟩
def zfm(hl:E.tz.length<=100000)(hP:Xn E base pb 142 (zaF R)):Xn E base pb 94 (zdH R):=by
 intro G w st st' a h0 hr;replace hP:=zh hP;unfold zdH at hr;have mL:=h0.bs;have F0:=zh (RF.refl base pb w);replace h0:=zh h0;replace hr:=zh hr;go_enter func94,ntmps94;go_wp2_with fail;refine ye hr (yX hP.q h0) F0 ?_;clear hr;intro x1 s1 w1 m1 h1 F1 f1 hr;have mK:∃s a1 k,vf [111,114] 22 (zaF R) k a1 E s=some (a,st')/\Value.int .i64 x1=.int .i64 a1/\RW E base pb G w1 s/\RF base pb w w1:=⟨s1,x1,_,hr.q,rfl,h1.q,F1.q⟩;replace mK:=zh mK;clear hr;go_wp2;go_loopw [3] (λv wr=>∃s a1 k,vf [111,114] 22 (zaF R) k a1 E s=some (a,st')/\v=.int .i64 a1/\RW E base pb G wr s/\RF base pb w wr) (λ_ wr=>E.tz.length+1-qj pb wr)
 case atStart=>exact mK.q
 case round=>
  obtain⟨s,a1,k,hr,rfl,h2,F2⟩:=hrel;cases k with
  |zero=>cases hr
  |succ k=>
   unfold vf at hr;replace hr:=zh hr;replace h2:=zh h2;replace F2:=zh F2;go_wp2_with fail;refine ye hr (XK h2 _) F2 ?_;clear hr;intro x3 s3 w3 m3 h3 F3 f3 hr;have e3:uP E s [111,114]=x3/\s=s3:=by
    have:=Option.some.inj m3.q;exact⟨congrArg Prod.fst this,congrArg Prod.snd this⟩
   obtain⟨e3,rfl⟩:=e3;cases x3 with
   |true=>
    replace hr:=rtt hr;have mD:=qI e3;go_wp2_with fail;refine ye hr (xl h3) F3 ?_;clear hr;intro x4 s4 w4 m4 h4 F4 f4 hr;have e4:s=s4:=by
     have:=Option.some.inj m4.q;exact congrArg Prod.snd this
    subst e4;have mD:=mD;replace hr:=uv mD hr;have hy:=kr mD hl;obtain⟨⟨c1,f1⟩,h5,F5,g5⟩:=rup h4 F4;go_wp2_with fail;refine ye hr (yX hP.q h5) F5 ?_;clear hr;intro x6 s6 w6 m6 h6 F6 f6 hr;obtain⟨h7,F7,hk⟩:=ze8 h6 F6 [a1,x6] #[.int .i64 a1,.int .i64 x6] 2;go_wp2_with fail;refine ye hr (uw h7 hk) F7 ?_;clear hr;intro x8 s8 w8 m8 h8 F8 f8 hr;have n2:qj pb wr<qj pb w8:=by
     have a:=h2.q.qj;have b:=h5.q.qj;have c:=f6.q.mn;have d:=f8.q.mn;have e:qj pb w6<=qj pb (w6.alloc (.cells #[.int .i64 a1,.int .i64 x6] 3 (0,0))):=(h6.q.rf (zf w6 _)).mn;have g:s.up.n=s.n+1:=rfl;omega
    have aT:=h2.q.qj;go_wp2;go_roundw
    case rel=>exact⟨_,_,_,hr.q,rfl,h8.q,F8.q⟩
    case measure=>omega
   |false=>
    replace hr:=rff hr;have e:=Option.some.inj hr.q;cases e;go_wp2;go_ret;exact⟨rfl,h3.q,F3.q⟩
def zif(hl:E.tz.length<=100000)(hP:Xn E base pb 200 (KC R)):Xn E base pb 142 (zaF R):=by
 intro G w st st' a h0 hr;replace hP:=zh hP;unfold zaF at hr;have mL:=h0.bs;have F0:=zh (RF.refl base pb w);replace h0:=zh h0;replace hr:=zh hr;go_enter func142,ntmps142;go_wp2_with fail;refine ye hr (yX hP.q h0) F0 ?_;clear hr;intro x1 s1 w1 m1 h1 F1 f1 hr;have mK:∃s a1 k,vf [97,110,100] 21 (KC R) k a1 E s=some (a,st')/\Value.int .i64 x1=.int .i64 a1/\RW E base pb G w1 s/\RF base pb w w1:=⟨s1,x1,_,hr.q,rfl,h1.q,F1.q⟩;replace mK:=zh mK;clear hr;go_wp2;go_loopw [3] (λv wr=>∃s a1 k,vf [97,110,100] 21 (KC R) k a1 E s=some (a,st')/\v=.int .i64 a1/\RW E base pb G wr s/\RF base pb w wr) (λ_ wr=>E.tz.length+1-qj pb wr)
 case atStart=>exact mK.q
 case round=>
  obtain⟨s,a1,k,hr,rfl,h2,F2⟩:=hrel;cases k with
  |zero=>cases hr
  |succ k=>
   unfold vf at hr;replace hr:=zh hr;replace h2:=zh h2;replace F2:=zh F2;go_wp2_with fail;refine ye hr (XK h2 _) F2 ?_;clear hr;intro x3 s3 w3 m3 h3 F3 f3 hr;have e3:uP E s [97,110,100]=x3/\s=s3:=by
    have:=Option.some.inj m3.q;exact⟨congrArg Prod.fst this,congrArg Prod.snd this⟩
   obtain⟨e3,rfl⟩:=e3;cases x3 with
   |true=>
    replace hr:=rtt hr;have mD:=qI e3;go_wp2_with fail;refine ye hr (xl h3) F3 ?_;clear hr;intro x4 s4 w4 m4 h4 F4 f4 hr;have e4:s=s4:=by
     have:=Option.some.inj m4.q;exact congrArg Prod.snd this
    subst e4;have mD:=mD;replace hr:=uv mD hr;have hy:=kr mD hl;obtain⟨⟨c1,f1⟩,h5,F5,g5⟩:=rup h4 F4;go_wp2_with fail;refine ye hr (yX hP.q h5) F5 ?_;clear hr;intro x6 s6 w6 m6 h6 F6 f6 hr;obtain⟨h7,F7,hk⟩:=ze8 h6 F6 [a1,x6] #[.int .i64 a1,.int .i64 x6] 2;go_wp2_with fail;refine ye hr (uw h7 hk) F7 ?_;clear hr;intro x8 s8 w8 m8 h8 F8 f8 hr;have n2:qj pb wr<qj pb w8:=by
     have a:=h2.q.qj;have b:=h5.q.qj;have c:=f6.q.mn;have d:=f8.q.mn;have e:qj pb w6<=qj pb (w6.alloc (.cells #[.int .i64 a1,.int .i64 x6] 3 (0,0))):=(h6.q.rf (zf w6 _)).mn;have g:s.up.n=s.n+1:=rfl;omega
    have aT:=h2.q.qj;go_wp2;go_roundw
    case rel=>exact⟨_,_,_,hr.q,rfl,h8.q,F8.q⟩
    case measure=>omega
   |false=>
    replace hr:=rff hr;have e:=Option.some.inj hr.q;cases e;go_wp2;go_ret;exact⟨rfl,h3.q,F3.q⟩
def QD(h:Hid (RW E base pb G w st))(r:Nat)(hr:r∈[4,5,6]):∀a st',XM (zaH r) E st=some (a,st')->Calls prog 265 #[.pointer (some ⟨pb,0,none⟩),.int .i64 (r:Nat)] w λe w'=>e=.returned (.int .u8 (a:Nat))/\RW E base pb G w' st'/\RF base pb w w':=by
 intro a st' e;cases e;refine (zfj h.q r hr).mono ?_;rintro e w1 ⟨rfl,hb⟩;exact⟨rfl,h.q.below hb,h.q.rf hb⟩
def zjX{r k:Nat}(h:XM (zaH r) E s=some (k,s')):kOp E s r=k/\s=s':=by
 have:=Option.some.inj h;exact⟨congrArg Prod.fst this,congrArg Prod.snd this⟩
def zdU{r:Nat}{f:Nat->RM β}:(XM (zaH r) >>= f) E s=f (kOp E s r) E s:=rfl
def zia(hl:E.tz.length<=100000)(hP:Xn E base pb 279 (XL R)):Xn E base pb 264 (zfs R):=by
 intro G w st st' a h0 hr;replace hP:=zh hP;unfold zfs at hr;have mL:=h0.bs;have F0:=zh (RF.refl base pb w);replace h0:=zh h0;replace hr:=zh hr;go_enter func264,ntmps264;go_wp2_with fail;refine ye hr (yX hP.q h0) F0 ?_;clear hr;intro x1 s1 w1 m1 h1 F1 f1 hr;go_wp2_with fail;refine (QD h1 5 (by decide) _ _ rfl).mono ?_;rintro e w2 ⟨rfl,h2,f2⟩;have mK:∃s a1 k,Zt 5 (XL R) k a1 E s=some (a,st')/\Value.int .i64 x1=.int .i64 a1/\Value.int .u8 (kOp E s1 5:Nat)=.int .u8 (kOp E s 5:Nat)/\RW E base pb G w2 s/\RF base pb w w2:=⟨s1,x1,_,hr.q,rfl,rfl,h2,F1.q.trans f2⟩;replace mK:=zh mK;clear hr h2 f2;go_wp2;go_loopw [3,4] (λv u wr=>∃s a1 k,Zt 5 (XL R) k a1 E s=some (a,st')/\v=.int .i64 a1/\u=.int .u8 (kOp E s 5:Nat)/\RW E base pb G wr s/\RF base pb w wr) (λ_ _ wr=>E.tz.length+1-qj pb wr)
 case atStart=>exact mK.q
 case round=>
  obtain⟨s,a1,k,hr,rfl,rfl,h2,F2⟩:=hrel;cases k with
  |zero=>cases hr
  |succ k=>
   unfold Zt at hr;rw[zdU] at hr;have dW:=zh (zfW (E:=E) (s:=s) (r:=5));generalize kOp E s 5=q at *;replace h2:=zh h2;replace F2:=zh F2;by_cases h0:q=0
   ·rw[if_pos h0] at hr;subst h0;have e:=Option.some.inj hr;cases e;clear hr dW;go_wp2;go_ret;exact⟨rfl,h2.q,F2.q⟩
   ·rw[if_neg h0] at hr;replace hr:=zh hr;obtain⟨y,cw⟩:=dW.q h0;have hz:((q:Int) == 0)=false:=bfE (by omega)
    have mD:=qI cw;clear cw dW;go_wp2_with fail;refine ye hr (xl h2) F2 ?_;clear hr;intro x4 s4 w4 m4 h4 F4 f4 hr;have e4:s=s4:=by
     have:=Option.some.inj m4.q;exact congrArg Prod.snd this
    subst e4;have mD:=mD;replace hr:=uv mD hr;have hy:=kr mD hl;obtain⟨⟨c1,f1⟩,h5,F5,g5⟩:=rup h4 F4;go_wp2_with fail;refine ye hr (yX hP.q h5) F5 ?_;clear hr;intro x6 s6 w6 m6 h6 F6 f6 hr;obtain⟨h7,F7,hk⟩:=ze8 h6 F6 [a1,x6] #[.int .i64 a1,.int .i64 x6] 2;go_wp2_with fail;refine ye hr (uw h7 hk) F7 ?_;clear hr;intro x8 s8 w8 m8 h8 F8 f8 hr;go_wp2_with fail;refine (QD h8 5 (by decide) _ _ rfl).mono ?_;rintro e w9 ⟨rfl,h9,f9⟩;have n2:qj pb wr<qj pb w9:=by
     have a:=h2.q.qj;have b:=h5.q.qj;have c:=f6.q.mn;have d:=f8.q.mn;have e:qj pb w6<=qj pb (w6.alloc (.cells #[.int .i64 a1,.int .i64 x6] 3 (0,0))):=(h6.q.rf (zf w6 _)).mn;have g:s.up.n=s.n+1:=rfl;have i:=f9.mn;omega
    have aT:=h2.q.qj;have F9:=zh (F8.q.trans f9);replace h9:=zh h9;clear f9 hz;go_wp2;go_roundw
    case rel=>exact⟨_,_,_,hr.q,rfl,rfl,h9.q,F9.q⟩
    case measure=>omega
def zff(hl:E.tz.length<=100000)(hP:Xn E base pb 293 (ux R)):Xn E base pb 279 (XL R):=by
 intro G w st st' a h0 hr;replace hP:=zh hP;unfold XL at hr;have mL:=h0.bs;have F0:=zh (RF.refl base pb w);replace h0:=zh h0;replace hr:=zh hr;go_enter func279,ntmps279;go_wp2_with fail;refine ye hr (yX hP.q h0) F0 ?_;clear hr;intro x1 s1 w1 m1 h1 F1 f1 hr;go_wp2_with fail;refine (QD h1 6 (by decide) _ _ rfl).mono ?_;rintro e w2 ⟨rfl,h2,f2⟩;have mK:∃s a1 k,Zt 6 (ux R) k a1 E s=some (a,st')/\Value.int .i64 x1=.int .i64 a1/\Value.int .u8 (kOp E s1 6:Nat)=.int .u8 (kOp E s 6:Nat)/\RW E base pb G w2 s/\RF base pb w w2:=⟨s1,x1,_,hr.q,rfl,rfl,h2,F1.q.trans f2⟩;replace mK:=zh mK;clear hr h2 f2;go_wp2;go_loopw [3,4] (λv u wr=>∃s a1 k,Zt 6 (ux R) k a1 E s=some (a,st')/\v=.int .i64 a1/\u=.int .u8 (kOp E s 6:Nat)/\RW E base pb G wr s/\RF base pb w wr) (λ_ _ wr=>E.tz.length+1-qj pb wr)
 case atStart=>exact mK.q
 case round=>
  obtain⟨s,a1,k,hr,rfl,rfl,h2,F2⟩:=hrel;cases k with
  |zero=>cases hr
  |succ k=>
   unfold Zt at hr;rw[zdU] at hr;have dW:=zh (zfW (E:=E) (s:=s) (r:=6));generalize kOp E s 6=q at *;replace h2:=zh h2;replace F2:=zh F2;by_cases h0:q=0
   ·rw[if_pos h0] at hr;subst h0;have e:=Option.some.inj hr;cases e;clear hr dW;go_wp2;go_ret;exact⟨rfl,h2.q,F2.q⟩
   ·rw[if_neg h0] at hr;replace hr:=zh hr;obtain⟨y,cw⟩:=dW.q h0;have hz:((q:Int) == 0)=false:=bfE (by omega)
    have mD:=qI cw;clear cw dW;go_wp2_with fail;refine ye hr (xl h2) F2 ?_;clear hr;intro x4 s4 w4 m4 h4 F4 f4 hr;have e4:s=s4:=by
     have:=Option.some.inj m4.q;exact congrArg Prod.snd this
    subst e4;have mD:=mD;replace hr:=uv mD hr;have hy:=kr mD hl;obtain⟨⟨c1,f1⟩,h5,F5,g5⟩:=rup h4 F4;go_wp2_with fail;refine ye hr (yX hP.q h5) F5 ?_;clear hr;intro x6 s6 w6 m6 h6 F6 f6 hr;obtain⟨h7,F7,hk⟩:=ze8 h6 F6 [a1,x6] #[.int .i64 a1,.int .i64 x6] 2;go_wp2_with fail;refine ye hr (uw h7 hk) F7 ?_;clear hr;intro x8 s8 w8 m8 h8 F8 f8 hr;go_wp2_with fail;refine (QD h8 6 (by decide) _ _ rfl).mono ?_;rintro e w9 ⟨rfl,h9,f9⟩;have n2:qj pb wr<qj pb w9:=by
     have a:=h2.q.qj;have b:=h5.q.qj;have c:=f6.q.mn;have d:=f8.q.mn;have e:qj pb w6<=qj pb (w6.alloc (.cells #[.int .i64 a1,.int .i64 x6] 3 (0,0))):=(h6.q.rf (zf w6 _)).mn;have g:s.up.n=s.n+1:=rfl;have i:=f9.mn;omega
    have aT:=h2.q.qj;have F9:=zh (F8.q.trans f9);replace h9:=zh h9;clear f9 hz;go_wp2;go_roundw
    case rel=>exact⟨_,_,_,hr.q,rfl,rfl,h9.q,F9.q⟩
    case measure=>omega
def zid(hl:E.tz.length<=100000)(hP:Xn E base pb 264 (zfs R)):Xn E base pb 250 (jE R):=by
 intro G w st st' a h0 hr;replace hP:=zh hP;unfold jE at hr;have mL:=h0.bs;have F0:=zh (RF.refl base pb w);replace h0:=zh h0;replace hr:=zh hr;go_enter func250,ntmps250;go_wp2_with fail;refine ye hr (yX hP.q h0) F0 ?_;clear hr;intro x1 s1 w1 m1 h1 F1 f1 hr;go_wp2_with fail;refine ye hr (QD h1 4 (by decide)) F1 ?_;clear hr;intro x2 s2 w2 m2 h2 F2 f2 hr;obtain⟨e2,rfl⟩:=zjX m2.q;by_cases hq:x2=0
 ·have mj:=hr.q;rw[if_pos hq] at mj;have e:=Option.some.inj mj;cases e;subst hq;clear hr mj e2 m2;go_wp2;go_ret;exact⟨rfl,h2.q,F2.q⟩
 ·obtain⟨y,cw⟩:=zfW (show kOp E s1 4≠0 by rw[e2];exact hq);have hz:((x2:Int) == 0)=false:=bfE (by omega)
  have mD:=qI cw;have mj:=hr.q;rw[if_neg hq] at mj;replace hr:=zh mj;clear cw mj e2 m2;go_wp2_with fail;refine ye hr (xl h2) F2 ?_;clear hr;intro x4 s4 w4 m4 h4 F4 f4 hr;have e4:s1=s4:=by
   have:=Option.some.inj m4.q;exact congrArg Prod.snd this
  subst e4;have mD:=mD;replace hr:=uv mD hr;have hy:=kr mD hl;obtain⟨⟨c1,f1⟩,h5,F5,g5⟩:=rup h4 F4;go_wp2_with fail;refine ye hr (yX hP.q h5) F5 ?_;clear hr;intro x6 s6 w6 m6 h6 F6 f6 hr;obtain⟨h7,F7,hk⟩:=ze8 h6 F6 [x1,x6] #[.int .i64 x1,.int .i64 x6] 2;go_wp2_with fail;refine zU hr h7 F7 hk λW h F=>?_
  go_wp2;go_ret;exact⟨rfl,h,F⟩
end
end Go.Proofs.YtcagibbaeageoaaGreatDoor
namespace Lode
theorem zg3{part:RM Int}{E:zr}{st':jR}{l:List Int}:∀(k:Nat) (acc:List Int) (s:jR),qN k part acc E s=some (l,st')->acc≠[]->l≠[]
 |0,_,_,h,_=>by cases h
 |k+1,acc,s,h,ha=>by
  obtain⟨b,s1,h1,h2⟩:∃b s1,xm [44] E s=some (b,s1)/\(if b=true then (part >>= λx=>qN k part (acc ++ [x])) else Pure.pure acc:RM (List Int)) E s1=some (l,st'):=⟨_,_,rfl,h⟩;cases b with
  |false=>
   have:=Option.some.inj h2;have e:acc=l:=congrArg Prod.fst this;rw[<-e];exact ha
  |true=>
   change RM.bind part (λx=>qN k part (acc ++ [x])) E s1=_ at h2;unfold RM.bind at h2;split at h2
   ·exact zg3 k _ _ h2 (by simp)
   ·cases h2
def zko(h:Yj R E s=some (l,st')):l≠[]:=by
 have h2:=h;unfold Yj vg at h2;change RM.bind R.expr (λx=>(λE s=>qN (E.tz.length+1) R.expr [x] E s)) E s=_ at h2;unfold RM.bind at h2;split at h2
 ·exact zg3 _ _ _ h2 (by simp)
 ·cases h2
end Lode
namespace Go.Proofs.YtcagibbaeageoaaGreatDoor
section
open Go.RowKit Lode Go.Shelf
attribute [local go_sem ↓] wp_at_zero wp_at_succ
open Go.Proofs.Tryz
def zfi(hR:qJ E base pb R)(hA:Xn E base pb 305 (Vy R)):Xn E base pb 303 (zba R):=by
 have hX:=zh (Kc hR);replace hA:=zh hA;intro G w st st' a h0 hr;have hl:=hR.lim;unfold zba at hr;have MJ:=h0.bs;have F0:=zh (RF.refl base pb w);replace h0:=zh h0;replace hr:=zh hr;go_enter func303,ntmps303;go_wp2_with fail;refine ye hr (yX hA.q h0) F0 ?_;clear hr;intro x1 s1 w1 m1 h1 F1 f1 hr;have mK:∃s a1 k,ZG R k a1 E s=some (a,st')/\Value.int .i64 x1=.int .i64 a1/\RW E base pb G w1 s/\RF base pb w w1:=⟨s1,x1,_,hr.q,rfl,h1.q,F1.q⟩;replace mK:=zh mK;clear hr h1 F1 f1 m1 h0 F0;go_wp2;go_loopw [3] (λv wr=>∃s a1 k,ZG R k a1 E s=some (a,st')/\v=.int .i64 a1/\RW E base pb G wr s/\RF base pb w wr) (λ_ wr=>E.tz.length+1-qj pb wr)
 case atStart=>exact mK.q
 case round=>
  obtain⟨s,a1,k,hr,rfl,h0,FW⟩:=hrel;cases k with
  |zero=>cases hr
  |succ k=>
   unfold ZG at hr;simp only[kg,Zo,uH] at hr;replace hr:=zh hr;have mL:=h0.bs;have hG:=zh h0.glt;have F0:=zh (RF.refl base pb wr);replace h0:=zh h0;replace FW:=zh FW;have rp:=h0.q.qj;go_wp2_with fail;refine ye hr (xl h0) F0 ?_;clear hr;intro x1 s1 w1 m1 h1 F1 f1 hr;have n1:=qz h0 h1 f1;obtain⟨hN,h2,F2⟩:=ZS h1 F1 0 [] 0 x1;go_wp2_with fail;have mW:=hr;clear hr;refine yK mW h2 hl F2 (λw3 nV h3 F3 f3 hr=>?_) (λw3 h3 F3 f3 hr=>?_) <;> clear mW <;> replace hN:=zh (hN.q.rf f3.q)
   ·have mD:=qI nV;have u3:s1.up.n=s1.n+1:=rfl;go_wp2_with fail;refine ye hr (xh h3 hl 1) F3 ?_;clear hr;intro x4 s4 w4 m4 h4 F4 f4 hr;replace hN:=zh (hN.q.rf f4.q);have n4:=qz h3 h4 f4;obtain⟨hN,h5,F5,o⟩:=uF hN h4 F4 [a1] #[.int .i64 a1] 1;have oo:=zS o.q hN.q.hb 0 (.int .u8 23);obtain⟨⟨Cz,eK⟩,hN,h6,F6⟩:=ya hN h5 F5 mL.1 0 (.int .u8 23);replace o:=zh oo;clear oo;have oo:=zS o.q hN.q.hb 1 (.string ⟨x4.toArray⟩);obtain⟨⟨DA,CX⟩,hN,h7,F7⟩:=ya hN h6 F6 mL.1 1 (.string ⟨x4.toArray⟩);replace o:=zh oo;clear oo;have oo:=zS o.q hN.q.hb 3 (.slice (some ⟨w4.heap.size,0,none⟩) 1 1);obtain⟨⟨Gf,Mu⟩,hN,h8,F8⟩:=ya hN h7 F7 mL.1 3 (.slice (some ⟨w4.heap.size,0,none⟩) 1 1);replace o:=zh oo;clear oo;obtain⟨h8,hk⟩:=jY h8 o hG.q;obtain⟨d0,d1,d2,d3,d4,_⟩:=hN.q.cells;go_wp2_with fail;refine ye hr (uw h8 hk) F8 ?_;clear hr;intro x9 s9 w9 m9 h9 F9 f9 hr;have n9:=qz h8 h9 f9;go_wp2;go_roundw
    case rel=>exact⟨_,_,_,hr.q,rfl,h9.q,FW.q.trans F9.q⟩
    case measure=>
     have bD:=h9.q.qj;omega
   go_wp2_with fail;have mW:=hr;clear hr;refine yK mW h3 hl F3 (λw4 WN h4 F4 f4 hr=>?_) (λw4 h4 F4 f4 hr=>?_) <;> clear mW <;> replace hN:=zh (hN.q.rf f4.q)
   ·have mD:=qI WN;have u3:s1.up.n=s1.n+1:=rfl;obtain⟨hN,h5,F5,o⟩:=uF hN h4 F4 [a1] #[.int .i64 a1] 1;have oo:=zS o.q hN.q.hb 0 (.int .u8 24);obtain⟨⟨Cz,eK⟩,hN,h6,F6⟩:=ya hN h5 F5 mL.1 0 (.int .u8 24);replace o:=zh oo;clear oo;have oo:=zS o.q hN.q.hb 3 (.slice (some ⟨w4.heap.size,0,none⟩) 1 1);obtain⟨⟨DA,CX⟩,hN,h7,F7⟩:=ya hN h6 F6 mL.1 3 (.slice (some ⟨w4.heap.size,0,none⟩) 1 1);replace o:=zh oo;clear oo;go_wp2_with fail;refine ye hr (XK h7 _) F7 ?_;clear hr;intro x8 s8 w8 m8 h8 F8 f8 hr;replace hN:=zh (hN.q.rf f8.q);replace o:=zh (zx o.q h7.q f8.q);have n8:=qz h7 h8 f8;cases x8 with
    |true=>
     replace hr:=rtt hr;go_wp2_with fail;refine ye hr (zJ h8 hl _) F8 ?_;clear hr;intro rG ec nB fA mR mi nI hr;replace hN:=zh (hN.q.rf nI.q);replace o:=zh (zx o.q h8.q nI.q);have tj:=qz h8 mR nI;obtain⟨mR,hk⟩:=jY mR o hG.q;obtain⟨d0,d1,d2,d3,d4,_⟩:=hN.q.cells;go_wp2_with fail;refine ye hr (uw mR hk) mi ?_;clear hr;intro rr Hu al Mo mX ms rH hr;have ak:=qz mR mX rH;go_wp2;go_roundw
     case rel=>exact⟨_,_,_,hr.q,rfl,mX.q,FW.q.trans ms.q⟩
     case measure=>
      have bD:=mX.q.qj;omega
    |false=>
     replace hr:=rff hr;have sK:=hN.q.hb;have cy:=F8.q.b.size;go_wp2_with fail;have hS:=jh sK;have hd:=ko h8;replace hN:=zh (hN.q.rf (h8.q.rf hd));replace o:=zh (zm o.q hd);replace F8:=zh (F8.q.trans (h8.q.rf hd));replace h8:=zh (h8.q.below hd);clear hd;refine LodeX.xC (RR:=jX (w1.heap.size)) (Xp:=λ_ _=>False) [(0,0),(1,1),(2,0),(3,2),(4,2),(5,0),(6,3)] ?_;refine LodeX.xt ?_;refine LodeX.callX λK hK=>?_
     go_simp;refine zaC hr (hX.q) h8 F8 ?_;clear hr;intro x9 s9 wc vl mc hc Fc fc ol ll hr;have n9:=qz h8 hc fc;replace hN:=zh (hN.q.rf fc.q);replace o:=zh (zx o.q h8.q fc.q);replace hc:=zh hc.q.ungw;obtain⟨pl,cl,rfl⟩:=(KS.own ol.q).form;refine⟨hN.q.hb.trans sK.symm,hK _ _ ?_⟩;clear hK K hS
     try simp only[Act.put,yh,yf,yg]
     refine LodeX.callX λK hK=>?_
     refine zcZ _ _ rfl (by rfl) o.q (by rfl) ol.q (zko mc.q) (by first|omega|(simp;omega)|simp) (by have:=Fc.q.b.size;omega) ?_;intro g' cap' wd mC mA mJ;replace mJ:=Or.imp_left (congrArg some∘Eq.symm) mJ;obtain⟨⟨fz,cz⟩,hq,v9,c9,e9,ev9,nS,h9,F9,o'⟩:=kI (ys:=x9) hc hN o Fc mL mC mA mJ;rw[e9];refine⟨hq,hK _ _ ?_⟩;replace hN:=nS;replace o:=o';subst ev9
     try simp only[pQ,pV,pH,pM,Nat.zero_add,Nat.reduceAdd] at hN h9 F9 o
     clear hK K mC mA mJ e9 hq nS o' sK cy
     try simp only[Act.put,yh,yf,yg]
     refine LodeX.xt ?_;refine LodeX.yG rfl rfl (λV hV=>?_);cases hV;go_simp;refine LodeX.yL ?_;go_wp2_with fail;refine ye hr (zJ h9 hl _) F9 ?_;clear hr;intro rG ec nB fA mR mi nI hr;replace hN:=zh (hN.q.rf nI.q);replace o:=zh (zx o.q h9.q nI.q);have tj:=qz h9 mR nI;obtain⟨mR,hk⟩:=jY mR o hG.q;obtain⟨d0,d1,d2,d3,d4,_⟩:=hN.q.cells;go_wp2_with fail;refine ye hr (uw mR hk) mi ?_;clear hr;intro rr Hu al Mo mX ms rH hr;have ak:=qz mR mX rH;go_wp2;go_roundw
     case rel=>exact⟨_,_,_,hr.q,rfl,mX.q,FW.q.trans ms.q⟩
     case measure=>
      have bD:=mX.q.qj;omega
   ·replace hr:=hr.q;have e:=Option.some.inj hr;cases e;go_wp2;go_ret;exact⟨rfl,h4.q,FW.q.trans F4.q⟩
def zor(E:zr)(base pb:Nat)(G:Nat->Prop)(R:xn)(n:Nat)(w:World)(r:List Int×jR)(v i:Value)(wr:World):Prop:=∃st acc j,(Za R (n-j) (j == 0) acc >>= λl=>zI [41] >>= λ_=>pure l) E st=some r/\i=.int .i64 (j:Nat)/\j<=n/\acc.length=j/\wr.ownsRow w.heap.size 3 1 v acc.length (yl acc)/\RW E base pb (Gw G v) wr st/\RF base pb w wr
def zfh(hR:qJ E base pb R)(hn:n<=3)(h0:RW E base pb G w st)(hr:Vt R n E st=some (l,st')):Calls prog 310 #[.pointer (some ⟨pb,0,none⟩),.int .i64 (n:Nat)] w λe w'=>∃v,e=.returned v/\w'.ownsRow w.heap.size 3 1 v l.length (yl l)/\RW E base pb (Gw G v) w' st'/\RF base pb w w'/\l.length<=200000:=by
 have hl:=hR.lim;replace hR:=zh hR;unfold Vt at hr;have mL:=h0.bs;have F0:=zh (RF.refl base pb w);replace h0:=zh h0;replace hr:=zh hr;go_enter func310,ntmps310;go_wp2_with fail;refine ye hr (zJ h0 hl _) F0 ?_;clear hr;intro x1 s1 w1 m1 h1 F1 f1 hr;have mK:zor E base pb G R n w (l,st') (.slice (some ⟨w1.heap.size,0,none⟩) 0 0) (.int .i64 (0:Nat)) (w1.alloc (.cells #[] 3 (0,0))):=⟨s1,[],0,hr.q,rfl,pU _,rfl,xD (Jz w1) F1.q.b.size,h1.q.glit _ 0 0,F1.q.trans (h1.q.rf (zf _ _))⟩;replace mK:=zh mK;clear hr h1 F1 f1 m1 h0 F0;go_wp2;go_loopw [5,6] (λv i wr=>zor E base pb G R n w (l,st') v i wr) (λ_ i _=>n-(intOf i).toNat)
 case atStart=>exact mK.q
 case round=>
  obtain⟨s,acc,j,hr,rfl,hj,rc,mG,h0,F0⟩:=hrel;obtain⟨p3,c3,rfl⟩:=(KS.own mG).form;replace h0:=zh h0;replace F0:=zh F0;replace mG:=zh mG;have hy:=pF ((j:Int)+1) (by omega);have pq:acc.length<=3:=by omega
  replace rc:=zh rc;by_cases mD:j<n
  ·have me:(j:Int)<(n:Int):=by omega
   obtain⟨k,hk⟩:∃k,n-j=k+1:=⟨n-j-1,by omega⟩;have nO:k=n-(j+1):=by omega
   rw[hk] at hr;unfold Za at hr;rw[nO,show false=(j+1 == 0) from rfl] at hr;by_cases th:j=0
   ·have hz:¬(0<(j:Int)):=by omega
    rw[show (j == 0)=true by simp[th]] at hr;replace hr:Hid ((R.expr >>= λx=>Za R (n-(j+1)) (j+1 == 0) (acc ++ [x]) >>= λl=>zI [41] >>= λ_=>pure l) E s=some (l,st')):=by
     simp only[kg,uH,if_true] at hr;exact zh hr
    clear th hk nO;go_wp2_with fail;refine ye hr (yX hR.q.expr h0) F0 ?_;clear hr;intro x4 s4 w4 m4 h4 F4 f4 hr;have o4:=zh (zx mG.q h0.q f4.q);have mQ:=h4.q.bs;go_wp2_with (at_builtin;refine yA rfl _ _ rfl rfl (zm (o4.q) (zf _ _)) rfl (zd (zk w4 _) 0) rfl rfl (by omega) (by have:=(F4.q).b.size;simp;omega) ?_);intro g' cap' w5 mC mA mJ;obtain⟨v5,e5,o5,h5,DD,dD⟩:=Vq h4.q (o4.q) mL.1 mC mA (mJ.imp id (λh=>by simpa using h));rw[e5];replace o5:=zh o5;replace h5:=zh h5;replace dD:=zh dD;clear mC mA mJ e5;have F5:=zh (dD.q w F4.q (pC _) mL.1 mL.2);have Pz:(acc ++ [x4]).length=j+1:=by rw[pE,rc.q];rfl
    replace Pz:=zh Pz;clear dD;go_wp2;go_roundw
    case rel=>exact⟨_,_,j+1,hr.q,by go_num,by omega,Pz.q,o5.q,h5.q,F5.q⟩
    case measure=>simp[intOf];omega
   ·have hz:0<(j:Int):=by omega
    rw[show (j == 0)=false by simp[th]] at hr;replace hr:Hid ((zI [44] >>= λ_=>R.expr >>= λx=>Za R (n-(j+1)) (j+1 == 0) (acc ++ [x]) >>= λl=>zI [41] >>= λ_=>pure l) E s=some (l,st')):=by
     simp only[kg,Bool.false_eq_true,if_false] at hr;exact zh hr
    clear th hk nO;go_wp2_with fail;refine ye hr (zJ h0 hl _) F0 ?_;clear hr;intro x2 s2 w2 m2 h2 F2 f2 hr;have o2:=zh (zx mG.q h0.q f2.q);go_wp2_with fail;refine ye hr (yX hR.q.expr h2) F2 ?_;clear hr;intro x4 s4 w4 m4 h4 F4 f4 hr;have o4:=zh (zx o2.q h2.q f4.q);have mQ:=h4.q.bs;go_wp2_with (at_builtin;refine yA rfl _ _ rfl rfl (zm (o4.q) (zf _ _)) rfl (zd (zk w4 _) 0) rfl rfl (by omega) (by have:=(F4.q).b.size;simp;omega) ?_);intro g' cap' w5 mC mA mJ;obtain⟨v5,e5,o5,h5,DD,dD⟩:=Vq h4.q (o4.q) mL.1 mC mA (mJ.imp id (λh=>by simpa using h));rw[e5];replace o5:=zh o5;replace h5:=zh h5;replace dD:=zh dD;clear mC mA mJ e5;have F5:=zh (dD.q w F4.q (pC _) mL.1 mL.2);have Pz:(acc ++ [x4]).length=j+1:=by rw[pE,rc.q];rfl
    replace Pz:=zh Pz;clear dD;go_wp2;go_roundw
    case rel=>exact⟨_,_,j+1,hr.q,by go_num,by omega,Pz.q,o5.q,h5.q,F5.q⟩
    case measure=>simp[intOf];omega
  ·have me:¬((j:Int)<(n:Int)):=by omega
   rw[show n-j=0 by omega] at hr;replace hr:Hid ((zI [41] >>= λ_=>pure acc) E s=some (l,st')):=zh hr;go_wp2_with fail;refine ye hr (zJ h0 hl _) F0 ?_;clear hr;intro x2 s2 w2 m2 h2 F2 f2 hr;have o2:=zh (zx mG.q h0.q f2.q);have e:=Option.some.inj hr.q;cases e;go_wp2;go_ret;exact⟨_,rfl,o2.q,h2.q,F2.q,by omega⟩
def zjt(h:Hid (RW E base pb G w st))(a:Int):∀k st',Ju a E st=some (k,st')->Calls prog 201 #[.pointer (some ⟨pb,0,none⟩),.int .i64 a] w λe w'=>e=.returned (.int .u8 (k:Nat))/\RW E base pb G w' st'/\RF base pb w w':=by
 intro k st' hr;unfold Ju at hr;by_cases h0:0<=a
 ·rw[if_pos h0] at hr;cases hr;have Hx:=zh (λ(W:World) (hb:Below w.heap.size w W)=>And.intro (h.q.below hb) (h.q.rf hb));obtain⟨j,rfl⟩:=pO h0;rw[pZ];obtain⟨nv,tv,kv,P,_,_⟩:=h.q;have hn:=KR P.nz P.kvl P.kz;obtain⟨p,cap,rfl⟩:=hn.form;have c2:w.cell? ⟨pb,2,none⟩=some (.slice p st.nz.length cap):=zd P.obj 2;cases hx:st.nz[j]? with
  |none=>
   have pk:=List.getElem?_eq_none_iff.1 hx;have dv:(st.nz.length:Int)<=(j:Int):=by omega
   clear P hn h;generalize st.nz.length=n at *;go_enter func201,ntmps201;go_wp2;go_ret;exact⟨rfl,Hx.q _ bR⟩
  |some x=>
   obtain⟨g,off,u,rfl,hN⟩:=hn.at hx;have d0:=hN.c0;have mD:=(gtL hx);have me:¬((st.nz.length:Int)<=(j:Int)):=by omega
   have th:¬((j:Int)<0):=by omega
   have py:(j:Int)<(st.nz.length:Int):=by omega
   clear P hn hN h;generalize st.nz.length=n at *;go_enter func201,ntmps201;go_wp2;go_ret;exact⟨rfl,Hx.q _ bR⟩
 ·rw[if_neg h0] at hr;cases hr
def RCs(E:zr)(base pb f:Nat)(m:RM (Int×Bool)):Prop:=∀(G:Nat->Prop) (w:World) (st st':jR) (a:Int×Bool),RW E base pb G w st->m E st=some (a,st')->Calls prog f #[.pointer (some ⟨pb,0,none⟩)] w λe w'=>e=.returned (.tuple #[.int .i64 a.1,.bool a.2])/\RW E base pb G w' st'/\RF base pb w w'
def zfg(hR:qJ E base pb R):RCs E base pb 143 (Kf R):=by
 intro G w st st' a h0 hr;have hl:=hR.lim;replace hR:=zh hR;unfold Kf at hr
 try simp only[kg,Zo,uH] at hr
 have mL:=h0.bs;have F0:=zh (RF.refl base pb w);replace h0:=zh h0;replace hr:=zh hr;go_enter func143,ntmps143;go_wp2_with fail;refine ye hr (xl h0) F0 ?_;clear hr;intro x1 s1 w1 m1 h1 F1 f1 hr;obtain⟨hN,h2,F2⟩:=ZS h1 F1 0 [] 0 x1;go_wp2_with fail;refine ye hr (XK h2 _) F2 ?_;clear hr;intro x3 s3 w3 m3 h3 F3 f3 hr;replace hN:=zh (hN.q.rf f3.q);have e3:uP E s1 [108,101,116]=x3/\s1=s3:=by
  have:=Option.some.inj m3.q;exact⟨congrArg Prod.fst this,congrArg Prod.snd this⟩
 obtain⟨e3,rfl⟩:=e3;cases x3 with
 |true=>
  replace hr:=rtt hr;have mD:=qI e3;obtain⟨⟨fz,cz⟩,hN,h4,F4⟩:=ya hN h3 F3 mL.1 0 (.int .u8 61);have fH:=uX h4.q [108,101,116];rw[e3] at fH;replace fH:=zh fH;go_wp2_with fail;refine fH.q.mono ?_;rintro e w5 ⟨rfl,mt⟩;have f5:=zh (h4.q.rf mt);have h5:=zh (h4.q.below mt);have F5:=zh (F4.q.trans f5.q);replace hN:=zh (hN.q.rf f5.q);clear mt fH;obtain⟨⟨fz,cz⟩,hN,h6,F6⟩:=ya hN h5 F5 mL.1 0 (.int .u8 60);have mD:=mD;replace hr:=uv mD hr;have hy:=kr mD hl;obtain⟨⟨c1,f1⟩,h7,F7,g7⟩:=rup h6 F6;replace hN:=zh (hN.q.rf g7.q);go_wp2_with fail;refine ye hr (xh h7 hl 1) F7 ?_;clear hr;intro x8 s8 w8 m8 h8 F8 f8 hr;replace hN:=zh (hN.q.rf f8.q);obtain⟨⟨fz,cz⟩,hN,h9,F9⟩:=ya hN h8 F8 mL.1 1 (.string ⟨x8.toArray⟩);go_wp2_with fail;refine ye hr (zJ h9 hl _) F9 ?_;clear hr;intro rG ec nB fA mR mi nI hr;replace hN:=zh (hN.q.rf nI.q);go_wp2_with fail;refine ye hr (yX hR.q.expr mR) mi ?_;clear hr;intro rr Hu al Mo mX ms rH hr;replace hN:=zh (hN.q.rf rH.q);obtain⟨⟨fz,cz⟩,hN,mh,mx,hk⟩:=JZ hN mX ms mL.1 [rr] #[.int .i64 rr] 1;obtain⟨d0,d1,d2,d3,d4,_⟩:=hN.q.cells;go_wp2_with fail;refine ye hr (uw mh hk) mx ?_;clear hr;intro rz gn cn Mp nN ng ru hr;have e:=Option.some.inj hr.q;cases e;go_wp2;go_ret2;exact⟨rfl,nN.q,ng.q⟩
 |false=>
  replace hr:=rff hr;go_wp2_with fail;refine ye hr (XK h3 _) F3 ?_;clear hr;intro x4 s4 w4 m4 h4 F4 f4 hr;replace hN:=zh (hN.q.rf f4.q);have e4:uP E s1 [118,97,114]=x4/\s1=s4:=by
   have:=Option.some.inj m4.q;exact⟨congrArg Prod.fst this,congrArg Prod.snd this⟩
  obtain⟨e4,rfl⟩:=e4;cases x4 with
  |true=>
   replace hr:=rtt hr;have mD:=qI e4;obtain⟨⟨fz,cz⟩,hN,h5,F5⟩:=ya hN h4 F4 mL.1 0 (.int .u8 61);have TO:=uX h5.q [108,101,116];rw[e3] at TO;replace TO:=zh TO;go_wp2_with fail;refine TO.q.mono ?_;rintro e w6 ⟨rfl,nR⟩;have f6:=zh (h5.q.rf nR);have h6:=zh (h5.q.below nR);have F6:=zh (F5.q.trans f6.q);replace hN:=zh (hN.q.rf f6.q);clear nR TO;have mD:=mD;replace hr:=uv mD hr;have hy:=kr mD hl;obtain⟨⟨c1,f1⟩,h7,F7,g7⟩:=rup h6 F6;replace hN:=zh (hN.q.rf g7.q);go_wp2_with fail;refine ye hr (xh h7 hl 1) F7 ?_;clear hr;intro x8 s8 w8 m8 h8 F8 f8 hr;replace hN:=zh (hN.q.rf f8.q);obtain⟨⟨fz,cz⟩,hN,h9,F9⟩:=ya hN h8 F8 mL.1 1 (.string ⟨x8.toArray⟩);go_wp2_with fail;refine ye hr (zJ h9 hl _) F9 ?_;clear hr;intro rG ec nB fA mR mi nI hr;replace hN:=zh (hN.q.rf nI.q);go_wp2_with fail;refine ye hr (yX hR.q.expr mR) mi ?_;clear hr;intro rr Hu al Mo mX ms rH hr;replace hN:=zh (hN.q.rf rH.q);obtain⟨⟨fz,cz⟩,hN,mh,mx,hk⟩:=JZ hN mX ms mL.1 [rr] #[.int .i64 rr] 1;obtain⟨d0,d1,d2,d3,d4,_⟩:=hN.q.cells;go_wp2_with fail;refine ye hr (uw mh hk) mx ?_;clear hr;intro rz gn cn Mp nN ng ru hr;have e:=Option.some.inj hr.q;cases e;go_wp2;go_ret2;exact⟨rfl,nN.q,ng.q⟩
  |false=>
   replace hr:=rff hr;go_wp2_with fail;refine ye hr (yX hR.q.expr h4) F4 ?_;clear hr;intro x5 s5 w5 m5 h5 F5 f5 hr;replace hN:=zh (hN.q.rf f5.q);go_wp2_with fail;refine ye hr (XK h5 _) F5 ?_;clear hr;intro x6 s6 w6 m6 h6 F6 f6 hr;replace hN:=zh (hN.q.rf f6.q);cases x6 with
   |false=>
    replace hr:=rff hr;have e:=Option.some.inj hr.q;cases e;go_wp2;go_ret2;exact⟨rfl,h6.q,F6.q⟩
   |true=>
    replace hr:=rtt hr;go_wp2_with fail;refine ye hr (zjt h6 _) F6 ?_;clear hr;intro x7 s7 w7 m7 h7 F7 f7 hr;replace hN:=zh (hN.q.rf f7.q);have Wg:s7.n<E.tz.length:=by
     have a:=Option.some.inj m6.q;have b:=qI (congrArg Prod.fst a);have c:s5=s6:=congrArg Prod.snd a;subst c;have d:=m7.q;unfold Ju at d;split at d
     ·cases d;exact b
     ·cases d
    by_cases dU:x7=5\/x7=23
    ·have mj:=hr.q;rw[if_pos dU] at mj;replace hr:=zh mj;clear mj;rcases dU with rfl|rfl
     ·go_wp2_with fail;refine ye hr (xl h7) F7 ?_;clear hr;intro x8 s8 w8 m8 h8 F8 f8 hr;replace hN:=zh (hN.q.rf f8.q);have e8:s7=s8:=by
       have:=Option.some.inj m8.q;exact congrArg Prod.snd this
      subst e8;obtain⟨⟨fz,cz⟩,hN,h9,F9⟩:=ya hN h8 F8 mL.1 0 (.int .u8 62);obtain⟨⟨fz,cz⟩,hN,mR,mi⟩:=ya hN h9 F9 mL.1 1 (.string ⟨#[]⟩);obtain⟨⟨fz,cz⟩,hN,mX,ms⟩:=ya hN mR mi mL.1 2 (.int .i64 0);obtain⟨⟨fz,cz⟩,hN,mh,mx⟩:=ya hN mX ms mL.1 3 (.slice none 0 0);obtain⟨⟨fz,cz⟩,hN,nN,ng⟩:=ya hN mh mx mL.1 4 (.int .i64 x8);have mD:=Wg;replace hr:=uv mD hr;have hy:=kr mD hl;obtain⟨⟨c1,f1⟩,nY,rQ,Sz⟩:=rup nN ng;replace hN:=zh (hN.q.rf Sz.q);go_wp2_with fail;refine ye hr (yX hR.q.expr nY) rQ ?_;clear hr;intro bu Se eF m15 rA sI aW hr;replace hN:=zh (hN.q.rf aW.q);obtain⟨⟨fz,cz⟩,hN,rM,sJ,hk⟩:=JZ hN rA sI mL.1 [x5,bu] #[.int .i64 x5,.int .i64 bu] 2;obtain⟨d0,d1,d2,d3,d4,_⟩:=hN.q.cells;go_wp2_with fail;refine ye hr (uw rM hk) sJ ?_;clear hr;intro fD CB CH m17 td bI PJ hr;have e:=Option.some.inj hr.q;cases e;go_wp2;go_ret2;exact⟨rfl,td.q,bI.q⟩
     ·go_wp2_with fail;refine ye hr (xl h7) F7 ?_;clear hr;intro x8 s8 w8 m8 h8 F8 f8 hr;replace hN:=zh (hN.q.rf f8.q);have e8:s7=s8:=by
       have:=Option.some.inj m8.q;exact congrArg Prod.snd this
      subst e8;obtain⟨⟨fz,cz⟩,hN,h9,F9⟩:=ya hN h8 F8 mL.1 0 (.int .u8 62);obtain⟨⟨fz,cz⟩,hN,mR,mi⟩:=ya hN h9 F9 mL.1 1 (.string ⟨#[]⟩);obtain⟨⟨fz,cz⟩,hN,mX,ms⟩:=ya hN mR mi mL.1 2 (.int .i64 0);obtain⟨⟨fz,cz⟩,hN,mh,mx⟩:=ya hN mX ms mL.1 3 (.slice none 0 0);obtain⟨⟨fz,cz⟩,hN,nN,ng⟩:=ya hN mh mx mL.1 4 (.int .i64 x8);have mD:=Wg;replace hr:=uv mD hr;have hy:=kr mD hl;obtain⟨⟨c1,f1⟩,nY,rQ,Sz⟩:=rup nN ng;replace hN:=zh (hN.q.rf Sz.q);go_wp2_with fail;refine ye hr (yX hR.q.expr nY) rQ ?_;clear hr;intro bu Se eF m15 rA sI aW hr;replace hN:=zh (hN.q.rf aW.q);obtain⟨⟨fz,cz⟩,hN,rM,sJ,hk⟩:=JZ hN rA sI mL.1 [x5,bu] #[.int .i64 x5,.int .i64 bu] 2;obtain⟨d0,d1,d2,d3,d4,_⟩:=hN.q.cells;go_wp2_with fail;refine ye hr (uw rM hk) sJ ?_;clear hr;intro fD CB CH m17 td bI PJ hr;have e:=Option.some.inj hr.q;cases e;go_wp2;go_ret2;exact⟨rfl,td.q,bI.q⟩
    ·have mj:=hr.q;rw[if_neg dU] at mj;replace hr:=zh mj;clear mj;have z1:((x7:Int) == 5)=false:=bfE (by omega)
     have z2:((x7:Int) == 23)=false:=bfE (by omega)
     have y1:((x7:Int) != 5)=true:=by rw[bne,z1];rfl
     have y2:((x7:Int) != 23)=true:=by rw[bne,z2];rfl
     clear dU;obtain⟨⟨c3,f3⟩,h8,F8,_⟩:=zna h7 F7;have e:=Option.some.inj hr.q;cases e;go_wp2;go_ret2;exact⟨rfl,h8.q,F8.q⟩
def znA{f:Bool->RM β}:(rGo >>= f) E s=f (!s.bad && !uP E s [125]) E s:=rfl
def zoR{fn:Nat}(hm:RCs E base pb fn m)(h:Hid (RW E base pb G w st)):∀a st',m E st=some (a,st')->Calls prog fn #[.pointer (some ⟨pb,0,none⟩)] w λe w'=>e=.returned ((λa:Int×Bool=>.tuple #[.int .i64 a.1,.bool a.2]) a)/\RW E base pb G w' st'/\RF base pb w w':=λa st' e=>hm G w st st' a h.q e
def zoM(E:zr)(base pb b:Nat)(G:Nat->Prop)(R:xn)(p:Int)(w:World)(r:Int×jR)(wr:World):Prop:=∃s acc k kv,(kC R k acc >>= λx=>zI [125] >>= λ_=>yv 28 [] x.2 p x.1) E s=some r/\acc.length+k<=200000/\NB base pb b w wr 28 [] 0 kv p/\wr.ownsRow w.heap.size 3 1 kv acc.length (yl acc)/\RW E base pb (Gw G kv) wr s/\RF base pb w wr
def Kd(hR:qJ E base pb R):Xn E base pb 95 (Qh R):=by
 have hS:=zh (zfg hR);intro G w st st' a h0 hr;have hl:=hR.lim;replace hR:=zh hR;unfold Qh at hr
 try simp only[kg,Zo,uH] at hr
 have mL:=h0.bs;have F0:=zh (RF.refl base pb w);replace h0:=zh h0;replace hr:=zh hr;go_enter func95,ntmps95;have hG:=zh h0.q.glt;go_wp2_with fail;refine ye hr (xl h0) F0 ?_;clear hr;intro x1 s1 w1 m1 h1 F1 f1 hr;obtain⟨hN,h2,F2⟩:=ZS h1 F1 28 [] 0 x1;go_wp2_with fail;refine ye hr (zJ h2 hl _) F2 ?_;clear hr;intro x3 s3 w3 m3 h3 F3 f3 hr;replace hN:=zh (hN.q.rf f3.q);have mK:zoM E base pb w1.heap.size G R x1 w (a,st') w3:=⟨s3,[],_,_,hr.q,by simp;omega,hN.q,jT _ _ rfl,h3.q.gnil,F3.q⟩;replace mK:=zh mK;clear hr h0 h1 h2 h3 F0 F1 F2 F3 f1 f3 m1 m3 hN;go_wp2;go_loopw [] (λwr=>zoM E base pb w1.heap.size G R x1 w (a,st') wr) (λwr=>E.tz.length+1-qj pb wr)
 case atStart=>exact mK.q
 case round=>
  obtain⟨s,acc,k,kv,hr,hk,hN,o,h0,F0⟩:=hrel;obtain⟨p3,c3,rfl⟩:=(KS.own o).form;replace h0:=zh h0;replace F0:=zh F0;replace hN:=zh hN;replace o:=zh o;have rp:=h0.q.qj;cases k with
  |zero=>cases hr
  |succ k=>
   unfold kC at hr;simp only[kg,Zo,uH] at hr;rw[znA] at hr;obtain⟨_,_,_,_,_,_,cb,_,_⟩:=h0.q.look;cases ab:s.bad with
   |true=>
    rw[ab] at hr cb;replace hr:Hid ((zI [125] >>= λ_=>yv 28 [] 0 x1 acc) E s=some (a,st')):=zh hr;go_wp2_with fail;refine ye hr (zJ h0 hl _) F0 ?_;clear hr;intro rr Hu al Mo mX ms rH hr;replace hN:=zh (hN.q.rf rH.q);replace o:=zh (zx o.q h0.q rH.q);obtain⟨mX,hk⟩:=jY mX o hG.q;obtain⟨d0,d1,d2,d3,d4,_⟩:=hN.q.cells;go_wp2_with fail;refine zU hr mX ms hk λW h F=>?_
    go_wp2;go_ret;exact⟨rfl,h,F⟩
   |false=>
    rw[ab] at hr cb;have hI:=uX h0.q [125];cases hi:uP E s [125] with
    |true=>
     rw[hi] at hr hI;replace hI:=zh hI;replace hr:Hid ((zI [125] >>= λ_=>yv 28 [] 0 x1 acc) E s=some (a,st')):=zh hr;go_wp2_with fail;refine hI.q.mono ?_;rintro e w2 ⟨rfl,hb⟩;have h2:=zh (h0.q.below hb);have F2:=zh (F0.q.trans (h0.q.rf hb));replace hN:=zh (hN.q.rf (h0.q.rf hb));replace o:=zh (zm o.q hb);clear hI hb;go_wp2_with fail;refine ye hr (zJ h2 hl _) F2 ?_;clear hr;intro rr Hu al Mo mX ms rH hr;replace hN:=zh (hN.q.rf rH.q);replace o:=zh (zx o.q h2.q rH.q);obtain⟨mX,hk⟩:=jY mX o hG.q;obtain⟨d0,d1,d2,d3,d4,_⟩:=hN.q.cells;go_wp2_with fail;refine zU hr mX ms hk λW h F=>?_
     go_wp2;go_ret;exact⟨rfl,h,F⟩
    |false=>
     rw[hi] at hr hI;replace hI:=zh hI;replace hr:Hid ((Kf R >>= λx=>xm [59] >>= λb=>if b=true then (kC R k (acc ++ [x.1]) >>= λx=>zI [125] >>= λ_=>yv 28 [] x.2 x1 x.1) else if x.2=true then (zI [125] >>= λ_=>yv 28 [] 1 x1 (acc ++ [x.1])) else (QH >>= λ_=>zI [125] >>= λ_=>yv 28 [] 1 x1 (acc ++ [x.1]))) E s=some (a,st')):=zh hr;go_wp2_with fail;refine hI.q.mono ?_;rintro e w2 ⟨rfl,hb⟩;have h2:=zh (h0.q.below hb);have F2:=zh (F0.q.trans (h0.q.rf hb));replace hN:=zh (hN.q.rf (h0.q.rf hb));replace o:=zh (zm o.q hb);clear hI hb;go_wp2_with fail;refine ye hr (zoR hS.q h2) F2 ?_;clear hr;intro x3 s3 w3 m3 h3 F3 f3 hr;replace hN:=zh (hN.q.rf f3.q);replace o:=zh (zx o.q h2.q f3.q);have n3:=qz h2 h3 f3;obtain⟨y3,b3⟩:=x3;have hA:=zf w3 (.cells #[.int .i64 (y3)] 3 (0,0));obtain⟨d0,d1,d2,d3,d4,_⟩:=hN.q.cells;have o2:=zm o.q hA;have hz:=F3.q.b.size;go_wp2_with (at_builtin;refine yA rfl _ _ rfl rfl o2 rfl (zd (zk w3 _) 0) rfl rfl (by first|omega|(simp;omega)|simp) (by simp;omega) ?_);intro g' cap' wd mC mA mJ;have em:=zh (hN.q.rf (h3.q.rf hA));obtain⟨⟨fz,cz⟩,hq,v4,c4,e4,Cs,nS,h4,F4,o'⟩:=kI (ys:=[y3]) (zh (h3.q.below hA)) em (zh o2) (zh (F3.q.trans (h3.q.rf hA))) mL mC mA (mJ.imp id λh=>h.trans (by simp));rw[e4];replace hN:=nS;replace o:=o';subst Cs
     try simp only[pQ,pV,pH,pM,Nat.zero_add,Nat.reduceAdd] at hN h4 F4 o
     clear mC mA mJ e4 hq nS o' o2 em hz hA d0 d1 d2 d3 d4;have rc:(acc ++ [y3]).length+k<=200000:=by simp;omega
     go_wp2_with fail;have mW:=hr;clear hr;refine yK mW h4 hl F4 (λw5 SP h5 F5 f5 hr=>?_) (λw5 h5 F5 f5 hr=>?_) <;> clear mW <;> replace hN:=zh (hN.q.rf f5.q)
     ·have mD:=qI SP;have u3:s3.up.n=s3.n+1:=rfl;have o5:=zx o.q h4.q f5.q;have Nh:=h5.q.qj;go_wp2;go_roundw
      case rel=>exact⟨_,_,_,_,hr.q,rc,hN.q,o5,h5.q,F5.q⟩
      case measure=>omega
     ·replace o:=zh (zx o.q h4.q f5.q);cases b3 with
      |true=>
       replace hr:=rtt hr;have oo:=zS o.q hN.q.hb 2 (.int .i64 1);obtain⟨⟨Cz,eK⟩,hN,h6,F6⟩:=ya hN h5 F5 mL.1 2 (.int .i64 1);replace o:=zh oo;clear oo;go_wp2_with fail;refine ye hr (zJ h6 hl _) F6 ?_;clear hr;intro rr Hu al Mo mX ms rH hr;replace hN:=zh (hN.q.rf rH.q);replace o:=zh (zx o.q h6.q rH.q);obtain⟨mX,hk⟩:=jY mX o hG.q;obtain⟨d0,d1,d2,d3,d4,_⟩:=hN.q.cells;go_wp2_with fail;refine zU hr mX ms hk λW h F=>?_
       go_wp2;go_ret;exact⟨rfl,h,F⟩
      |false=>
       replace hr:Hid ((zI [125] >>= λ_=>yv 28 [] 1 x1 (acc ++ [y3])) E s3.fail=some (a,st')):=zh (rff hr).q;obtain⟨⟨CT,ff3⟩,h7,F7,g7⟩:=zna h5 F5;replace hN:=zh (hN.q.rf g7.q);replace o:=zh (zx o.q h5.q g7.q);have oo:=zS o.q hN.q.hb 2 (.int .i64 1);obtain⟨⟨Gf,Mu⟩,hN,h8,F8⟩:=ya hN h7 F7 mL.1 2 (.int .i64 1);replace o:=zh oo;clear oo;go_wp2_with fail;refine ye hr (zJ h8 hl _) F8 ?_;clear hr;intro rr Hu al Mo mX ms rH hr;replace hN:=zh (hN.q.rf rH.q);replace o:=zh (zx o.q h8.q rH.q);obtain⟨mX,hk⟩:=jY mX o hG.q;obtain⟨d0,d1,d2,d3,d4,_⟩:=hN.q.cells;go_wp2_with fail;refine zU hr mX ms hk λW h F=>?_
       go_wp2;go_ret;exact⟨rfl,h,F⟩
end
end Go.Proofs.YtcagibbaeageoaaGreatDoor
namespace Lode
def zeM(l:List UInt8):∀a,a<=l.foldl (λa c=>10*a+(c.toNat-48)) a:=by
 induction l with
 |nil=>intro a;exact pC _
 |cons c l ih=>
  intro a;exact pN (by omega) (ih (10*a+(c.toNat-48)))
def zjY(l:List UInt8)(j:Nat):ym (l.take j)<=ym l:=by
 have h:ym l=(l.drop j).foldl (λa c=>10*a+(c.toNat-48)) (ym (l.take j)):=by
  unfold ym;rw[<-List.foldl_append,List.take_append_drop]
 rw[h];exact zeM _ _
def zjZ(l:List UInt8)(j:Nat)(h:j<l.length):ym (l.take (j+1))=10*ym (l.take j)+(l[j].toNat-48):=by
 unfold ym;rw[List.take_succ_eq_append_getElem h,List.foldl_append];rfl
def zaR(x:List UInt8):Prop:=x.all zL=true/\ym x<=1000000000/\x.length<=1000000
def KQ(hE:∀t∈E.tz,t.kind=3->zaR t.text)(h:Ye 3 E s=some (x,s')):zaR x:=by
 unfold Ye at h;by_cases hk:Qu E s=3
 ·rw[if_pos hk] at h;have e:=Option.some.inj h;have e1:txR E s=x:=congrArg Prod.fst e;unfold Qu at hk;split at hk
  ·cases hk
  ·unfold txR at e1;cases ht:E.tz[s.n]? with
   |none=>rw[ht] at hk;cases hk
   |some t=>
    rw[ht] at hk e1;rw[<-e1];exact hE t (wH ht) hk
 ·rw[if_neg hk] at h;have e:=Option.some.inj h;have e1:[]=x:=congrArg Prod.fst e;rw[<-e1];exact⟨rfl,by decide,by decide⟩
end Lode
namespace Go.Proofs.YtcagibbaeageoaaGreatDoor
section
open Go.RowKit Lode Go.Shelf
attribute [local go_sem ↓] wp_at_zero wp_at_succ
open Go.Proofs.Tryz
def Zu(h:zaR x)(w:World):Calls prog 307 #[.string ⟨x.toArray⟩] w λe w'=>e=.returned (.int .i64 (ym x:Nat))/\Below w.heap.size w w':=by
 obtain⟨h1,h2,h3⟩:=h;go_enter func307,ntmps307;go_wp2;go_loopw [3,4] (λv i wr=>∃j:Nat,i=.int .i64 j/\j<=x.length/\v=.int .i64 (ym (x.take j):Nat)/\Below w.heap.size w wr) (λ_ i _=>x.length-(intOf i).toNat)
 case atStart=>exact⟨0,rfl,by omega,rfl,pG _ _⟩
 case round=>
  obtain⟨j,rfl,hj,rfl,hb⟩:=hrel;by_cases mD:j<x.length
  ·have hd:zL x[j]=true:=pY.1 h1 _ (wE mD);have hs:=zjZ x j mD;have ht:=zjY x (j+1);go_wp2_with fail;have hd2:=(jr x[j]).1 hd;refine⟨⟨j+1,by go_num,by omega,?_,hb⟩,by simp[intOf];omega⟩;rw[hs];have e:(⟨x.toArray⟩:ByteArray)[j]=x[j]:=rfl;rw[e,Int.emod_eq_of_lt (by omega) (by omega)];congr 1;omega
  ·have e:x.take j=x:=List.take_of_length_le (by omega);rw[e];have me:¬((j:Int)<(x.length:Int)):=by omega
   go_wp2;go_ret;exact⟨rfl,hb⟩
def zeA(E:zr)(base pb b:Nat)(G:Nat->Prop)(part:RM Int)(c:List Int->RM Int)(kd:Nat)(t:List UInt8)(n p:Int)(w:World)(r:Int×jR)(wr:World):Prop:=∃s acc k kv,(qN k part acc >>= c) E s=some r/\acc.length+k<=200000/\NB base pb b w wr kd t n kv p/\wr.ownsRow w.heap.size 3 1 kv acc.length (yl acc)/\RW E base pb (Gw G kv) wr s/\RF base pb w wr
def zh9(hR:qJ E base pb R):Xn E base pb 315 (zjF R):=by
 intro G w st st' a h0 hr;have hl:=hR.lim;replace hR:=zh hR;unfold zjF at hr
 try simp only[kg,Zo,uH] at hr
 have mL:=h0.bs;have F0:=zh (RF.refl base pb w);replace h0:=zh h0;replace hr:=zh hr;go_enter func315,ntmps315;have hG:=zh h0.q.glt;go_wp2_with fail;refine ye hr (xl h0) F0 ?_;clear hr;intro x1 s1 w1 m1 h1 F1 f1 hr;obtain⟨hN,h2,F2⟩:=ZS h1 F1 0 [] 0 x1;go_wp2_with fail;have mW:=hr;clear hr;refine yK mW h2 hl F2 (λw3 nV h3 F3 f3 hr=>?_) (λw3 h3 F3 f3 hr=>?_) <;> clear mW <;> replace hN:=zh (hN.q.rf f3.q)
 ·go_wp2_with fail;refine ye hr (yX hR.q.expr h3) F3 ?_;clear hr;intro x4 s4 w4 m4 h4 F4 f4 hr;replace hN:=zh (hN.q.rf f4.q);obtain⟨hN,h5,F5,o⟩:=uF hN h4 F4 [x4] #[.int .i64 x4] 1;have oo:=zS o.q hN.q.hb 0 (.int .u8 63);obtain⟨⟨Cz,eK⟩,hN,h6,F6⟩:=ya hN h5 F5 mL.1 0 (.int .u8 63);replace o:=zh oo;clear oo;have oo:=zS o.q hN.q.hb 3 (.slice (some ⟨w4.heap.size,0,none⟩) 1 1);obtain⟨⟨DA,CX⟩,hN,h7,F7⟩:=ya hN h6 F6 mL.1 3 (.slice (some ⟨w4.heap.size,0,none⟩) 1 1);replace o:=zh oo;clear oo;go_wp2_with fail;refine ye hr (zJ h7 hl _) F7 ?_;clear hr;intro x8 s8 w8 m8 h8 F8 f8 hr;replace hN:=zh (hN.q.rf f8.q);replace o:=zh (zx o.q h7.q f8.q);go_wp2_with fail;refine ye hr (xh h8 hl 1) F8 ?_;clear hr;intro x9 s9 w9 m9 h9 F9 f9 hr;replace hN:=zh (hN.q.rf f9.q);replace o:=zh (zx o.q h8.q f9.q);have oo:=zS o.q hN.q.hb 1 (.string ⟨x9.toArray⟩);obtain⟨⟨PK,PB⟩,hN,mR,mi⟩:=ya hN h9 F9 mL.1 1 (.string ⟨x9.toArray⟩);replace o:=zh oo;clear oo;go_wp2_with fail;refine ye hr (zJ mR hl _) mi ?_;clear hr;intro OZ OT OX Iw sQ bw Mz hr;replace hN:=zh (hN.q.rf Mz.q);replace o:=zh (zx o.q mR.q Mz.q);have wl:=hN.q.hb;have gW:=bw.q.b.size;go_wp2_with fail;have hS:=jh wl;have hd:=ko sQ;replace hN:=zh (hN.q.rf (sQ.q.rf hd));replace o:=zh (zm o.q hd);replace bw:=zh (bw.q.trans (sQ.q.rf hd));replace sQ:=zh (sQ.q.below hd);clear hd;refine LodeX.xC (RR:=jX (w1.heap.size)) (Xp:=λ_ _=>False) [(0,0),(1,1),(2,0),(3,2),(4,2),(5,2),(6,0),(7,3)] ?_;refine LodeX.xt ?_;refine LodeX.callX λK hK=>?_
  go_simp;refine ye hr (yX hR.q.expr sQ) bw ?_;clear hr;intro Ny OU wc mc hc Fc fc hr;have OA:=qz sQ hc fc;replace hN:=zh (hN.q.rf fc.q);replace o:=zh (zx o.q sQ.q fc.q);refine⟨hN.q.hb.trans wl.symm,hK _ _ ?_⟩;clear hK K hS
  try simp only[Act.put,yh,yf,yg]
  refine LodeX.callX λK hK=>?_
  go_simp;have hA:=zf wc (.cells #[.int .i64 Ny] 3 (0,0));refine⟨hA.block _ (gtA hN.q.hb),hK _ _ ?_⟩;clear hK K
  try simp only[Act.put,yh,yf,yg]
  refine LodeX.callX λK hK=>?_
  replace hN:=zh (hN.q.rf (hc.q.rf hA));replace o:=zh (zm o.q hA);replace Fc:=zh (Fc.q.trans (hc.q.rf hA));replace hc:=zh (hc.q.below hA);refine yE _ _ rfl (by rfl) o.q (by rfl) (zd (zk wc _) 0) rfl rfl (by first|omega|(simp;omega)|simp) (by have:=Fc.q.b.size;omega) ?_;intro g' cap' wd mC mA mJ;obtain⟨⟨fz,cz⟩,hq,v21,c21,My,fF,nS,aX,eh,o'⟩:=kI (ys:=[Ny]) hc hN o Fc mL mC mA mJ;rw[My];refine⟨hq,hK _ _ ?_⟩;replace hN:=nS;replace o:=o';subst fF
  try simp only[pQ,pV,pH,pM,Nat.zero_add,Nat.reduceAdd] at hN aX eh o
  clear hK K mC mA mJ My hq nS o' wl gW
  try simp only[Act.put,yh,yf,yg]
  refine LodeX.xt ?_;refine LodeX.yG rfl rfl (λV hV=>?_);cases hV;go_simp;refine LodeX.yL ?_;obtain⟨aX,hk⟩:=jY aX o hG.q;obtain⟨d0,d1,d2,d3,d4,_⟩:=hN.q.cells;go_wp2_with fail;refine zU hr aX eh hk λW h F=>?_
  go_wp2;go_ret;exact⟨rfl,h,F⟩
 go_wp2_with fail;have mW:=hr;clear hr;refine yK mW h3 hl F3 (λw4 WN h4 F4 f4 hr=>?_) (λw4 h4 F4 f4 hr=>?_) <;> clear mW <;> replace hN:=zh (hN.q.rf f4.q)
 ·go_wp2_with fail;refine ye hr (yX hR.q.expr h4) F4 ?_;clear hr;intro x5 s5 w5 m5 h5 F5 f5 hr;replace hN:=zh (hN.q.rf f5.q);obtain⟨hN,h6,F6,o⟩:=uF hN h5 F5 [x5] #[.int .i64 x5] 1;have oo:=zS o.q hN.q.hb 0 (.int .u8 64);obtain⟨⟨DA,CX⟩,hN,h7,F7⟩:=ya hN h6 F6 mL.1 0 (.int .u8 64);replace o:=zh oo;clear oo;have oo:=zS o.q hN.q.hb 3 (.slice (some ⟨w5.heap.size,0,none⟩) 1 1);obtain⟨⟨Gf,Mu⟩,hN,h8,F8⟩:=ya hN h7 F7 mL.1 3 (.slice (some ⟨w5.heap.size,0,none⟩) 1 1);replace o:=zh oo;clear oo;go_wp2_with fail;refine ye hr (zJ h8 hl _) F8 ?_;clear hr;intro x9 s9 w9 m9 h9 F9 f9 hr;replace hN:=zh (hN.q.rf f9.q);replace o:=zh (zx o.q h8.q f9.q);have dn:=hN.q.hb;have Rh:=F9.q.b.size;go_wp2_with fail;have hS:=jh dn;have hd:=ko h9;replace hN:=zh (hN.q.rf (h9.q.rf hd));replace o:=zh (zm o.q hd);replace F9:=zh (F9.q.trans (h9.q.rf hd));replace h9:=zh (h9.q.below hd);clear hd;refine LodeX.xC (RR:=jX (w1.heap.size)) (Xp:=λ_ _=>False) [(0,0),(1,1),(2,0),(3,2),(4,2),(5,2),(6,0),(7,3)] ?_;refine LodeX.xt ?_;refine LodeX.callX λK hK=>?_
  go_simp;refine ye hr (yX hR.q.expr h9) F9 ?_;clear hr;intro rG ec wc mc hc Fc fc hr;have tj:=qz h9 hc fc;replace hN:=zh (hN.q.rf fc.q);replace o:=zh (zx o.q h9.q fc.q);refine⟨hN.q.hb.trans dn.symm,hK _ _ ?_⟩;clear hK K hS
  try simp only[Act.put,yh,yf,yg]
  refine LodeX.callX λK hK=>?_
  go_simp;have hA:=zf wc (.cells #[.int .i64 rG] 3 (0,0));refine⟨hA.block _ (gtA hN.q.hb),hK _ _ ?_⟩;clear hK K
  try simp only[Act.put,yh,yf,yg]
  refine LodeX.callX λK hK=>?_
  replace hN:=zh (hN.q.rf (hc.q.rf hA));replace o:=zh (zm o.q hA);replace Fc:=zh (Fc.q.trans (hc.q.rf hA));replace hc:=zh (hc.q.below hA);refine yE _ _ rfl (by rfl) o.q (by rfl) (zd (zk wc _) 0) rfl rfl (by first|omega|(simp;omega)|simp) (by have:=Fc.q.b.size;omega) ?_;intro g' cap' wd mC mA mJ;obtain⟨⟨fz,cz⟩,hq,OV,c10,St,Co,nS,mR,mi,o'⟩:=kI (ys:=[rG]) hc hN o Fc mL mC mA mJ;rw[St];refine⟨hq,hK _ _ ?_⟩;replace hN:=nS;replace o:=o';subst Co
  try simp only[pQ,pV,pH,pM,Nat.zero_add,Nat.reduceAdd] at hN mR mi o
  clear hK K mC mA mJ St hq nS o' dn Rh
  try simp only[Act.put,yh,yf,yg]
  refine LodeX.xt ?_;refine LodeX.yG rfl rfl (λV hV=>?_);cases hV;go_simp;refine LodeX.yL ?_;go_wp2_with fail;refine ye hr (zJ mR hl _) mi ?_;clear hr;intro OZ OT OX Iw sQ bw Mz hr;replace hN:=zh (hN.q.rf Mz.q);replace o:=zh (zx o.q mR.q Mz.q);have wl:=hN.q.hb;have gW:=bw.q.b.size;go_wp2_with fail;have hS:=jh wl;have hd:=ko sQ;replace hN:=zh (hN.q.rf (sQ.q.rf hd));replace o:=zh (zm o.q hd);replace bw:=zh (bw.q.trans (sQ.q.rf hd));replace sQ:=zh (sQ.q.below hd);clear hd;refine LodeX.xC (RR:=jX (w1.heap.size)) (Xp:=λ_ _=>False) [(0,0),(1,1),(2,0),(3,2),(4,2),(5,2),(6,0),(7,3)] ?_;refine LodeX.xt ?_;refine LodeX.callX λK hK=>?_
  go_simp;refine ye hr (yX hR.q.expr sQ) bw ?_;clear hr;intro Ny OU wc mc hc Fc fc hr;have OA:=qz sQ hc fc;replace hN:=zh (hN.q.rf fc.q);replace o:=zh (zx o.q sQ.q fc.q);refine⟨hN.q.hb.trans wl.symm,hK _ _ ?_⟩;clear hK K hS
  try simp only[Act.put,yh,yf,yg]
  refine LodeX.callX λK hK=>?_
  go_simp;have hA:=zf wc (.cells #[.int .i64 Ny] 3 (0,0));refine⟨hA.block _ (gtA hN.q.hb),hK _ _ ?_⟩;clear hK K
  try simp only[Act.put,yh,yf,yg]
  refine LodeX.callX λK hK=>?_
  replace hN:=zh (hN.q.rf (hc.q.rf hA));replace o:=zh (zm o.q hA);replace Fc:=zh (Fc.q.trans (hc.q.rf hA));replace hc:=zh (hc.q.below hA);refine yE _ _ rfl (by rfl) o.q (by rfl) (zd (zk wc _) 0) rfl rfl (by first|omega|(simp;omega)|simp) (by have:=Fc.q.b.size;omega) ?_;intro g' cap' wd mC mA mJ;obtain⟨⟨fz,cz⟩,hq,v21,c21,My,fF,nS,aX,eh,o'⟩:=kI (ys:=[Ny]) hc hN o Fc mL mC mA mJ;rw[My];refine⟨hq,hK _ _ ?_⟩;replace hN:=nS;replace o:=o';subst fF
  try simp only[pQ,pV,pH,pM,Nat.zero_add,Nat.reduceAdd] at hN aX eh o
  clear hK K mC mA mJ My hq nS o' wl gW
  try simp only[Act.put,yh,yf,yg]
  refine LodeX.xt ?_;refine LodeX.yG rfl rfl (λV hV=>?_);cases hV;go_simp;refine LodeX.yL ?_;obtain⟨aX,hk⟩:=jY aX o hG.q;obtain⟨d0,d1,d2,d3,d4,_⟩:=hN.q.cells;go_wp2_with fail;refine zU hr aX eh hk λW h F=>?_
  go_wp2;go_ret;exact⟨rfl,h,F⟩
 ·obtain⟨⟨fz,cz⟩,hN,h5,F5⟩:=ya hN h4 F4 mL.1 0 (.int .u8 65);go_wp2_with fail;refine ye hr (zJ h5 hl _) F5 ?_;clear hr;intro x6 s6 w6 m6 h6 F6 f6 hr;replace hN:=zh (hN.q.rf f6.q);replace h6:=zh h6.q.gnil;have o:Hid (w6.ownsRow w.heap.size 3 1 (.slice none 0 0) ([]:List Int).length (yl [])):=zh (jT _ _ rfl);go_wp2_with fail;refine ye hr (zJ h6 hl _) F6 ?_;clear hr;intro OZ OT OX Iw sQ bw Mz hr;replace hN:=zh (hN.q.rf Mz.q);replace o:=zh (zx o.q h6.q Mz.q);have wl:=hN.q.hb;have gW:=bw.q.b.size;go_wp2_with fail;have hS:=jh wl;have hd:=ko sQ;replace hN:=zh (hN.q.rf (sQ.q.rf hd));replace o:=zh (zm o.q hd);replace bw:=zh (bw.q.trans (sQ.q.rf hd));replace sQ:=zh (sQ.q.below hd);clear hd;refine LodeX.xC (RR:=jX (w1.heap.size)) (Xp:=λ_ _=>False) [(0,0),(1,1),(2,0),(3,2),(4,2),(5,2),(6,0),(7,3)] ?_;refine LodeX.xt ?_;refine LodeX.callX λK hK=>?_
  go_simp;refine ye hr (yX hR.q.expr sQ) bw ?_;clear hr;intro Ny OU wc mc hc Fc fc hr;have OA:=qz sQ hc fc;replace hN:=zh (hN.q.rf fc.q);replace o:=zh (zx o.q sQ.q fc.q);refine⟨hN.q.hb.trans wl.symm,hK _ _ ?_⟩;clear hK K hS
  try simp only[Act.put,yh,yf,yg]
  refine LodeX.callX λK hK=>?_
  go_simp;have hA:=zf wc (.cells #[.int .i64 Ny] 3 (0,0));refine⟨hA.block _ (gtA hN.q.hb),hK _ _ ?_⟩;clear hK K
  try simp only[Act.put,yh,yf,yg]
  refine LodeX.callX λK hK=>?_
  replace hN:=zh (hN.q.rf (hc.q.rf hA));replace o:=zh (zm o.q hA);replace Fc:=zh (Fc.q.trans (hc.q.rf hA));replace hc:=zh (hc.q.below hA);refine yE _ _ rfl (by rfl) o.q (by rfl) (zd (zk wc _) 0) rfl rfl (by first|omega|(simp;omega)|simp) (by have:=Fc.q.b.size;omega) ?_;intro g' cap' wd mC mA mJ;obtain⟨⟨fz,cz⟩,hq,v21,c21,My,fF,nS,aX,eh,o'⟩:=kI (ys:=[Ny]) hc hN o Fc mL mC mA mJ;rw[My];refine⟨hq,hK _ _ ?_⟩;replace hN:=nS;replace o:=o';subst fF
  try simp only[pQ,pV,pH,pM,Nat.zero_add,Nat.reduceAdd] at hN aX eh o
  clear hK K mC mA mJ My hq nS o' wl gW
  try simp only[Act.put,yh,yf,yg]
  refine LodeX.xt ?_;refine LodeX.yG rfl rfl (λV hV=>?_);cases hV;go_simp;refine LodeX.yL ?_;obtain⟨aX,hk⟩:=jY aX o hG.q;obtain⟨d0,d1,d2,d3,d4,_⟩:=hN.q.cells;go_wp2_with fail;refine zU hr aX eh hk λW h F=>?_
  go_wp2;go_ret;exact⟨rfl,h,F⟩
def zaD(hE:∀t∈E.tz,t.kind=3->zaR t.text)(hR:qJ E base pb R):Xn E base pb 316 (ZU R):=by
 replace hE:=zh hE;intro G w st st' a h0 hr;have hl:=hR.lim;replace hR:=zh hR;unfold ZU at hr
 try simp only[kg,Zo,uH] at hr
 have mL:=h0.bs;have F0:=zh (RF.refl base pb w);replace h0:=zh h0;replace hr:=zh hr;go_enter func316,ntmps316;have hG:=zh h0.q.glt;go_wp2_with fail;refine ye hr (xl h0) F0 ?_;clear hr;intro x1 s1 w1 m1 h1 F1 f1 hr;obtain⟨hN,h2,F2⟩:=ZS h1 F1 0 [] 0 x1;go_wp2_with fail;refine ye hr (zmk h2) F2 ?_;clear hr;intro x3 s3 w3 m3 h3 F3 f3 hr;replace hN:=zh (hN.q.rf f3.q);have e3:Qu E s1=x3/\s1=s3:=by
  have:=Option.some.inj m3.q;exact⟨congrArg Prod.fst this,congrArg Prod.snd this⟩
 obtain⟨e3,rfl⟩:=e3;by_cases nO:x3=1
 ·have mj:=hr.q;rw[if_pos nO] at mj;replace hr:=zh mj;clear mj;subst nO;go_wp2_with fail;refine ye hr (xh h3 hl 1) F3 ?_;clear hr;intro x5 s5 w5 m5 h5 F5 f5 hr;replace hN:=zh (hN.q.rf f5.q);obtain⟨⟨fz,cz⟩,hN,h6,F6⟩:=ya hN h5 F5 mL.1 0 (.int .u8 66);obtain⟨⟨fz,cz⟩,hN,h7,F7⟩:=ya hN h6 F6 mL.1 1 (.string ⟨x5.toArray⟩);obtain⟨d0,d1,d2,d3,d4,_⟩:=hN.q.cells;go_wp2_with fail;refine zU hr h7 F7 ZF λW h F=>?_
  go_wp2;go_ret;exact⟨rfl,h,F⟩
 have z1:((x3:Int) == 1)=false:=bfE (by omega)
 have mj:=hr.q;rw[if_neg nO] at mj;replace hr:=zh mj;clear mj;have TN:=vM h3.q;rw[e3] at TN;replace TN:=zh TN;go_wp2_with fail;refine TN.q.mono ?_;rintro e w4 ⟨rfl,mQ⟩;have f4:=zh (h3.q.rf mQ);have h4:=zh (h3.q.below mQ);have F4:=zh (F3.q.trans f4.q);replace hN:=zh (hN.q.rf f4.q);clear mQ TN;by_cases na:x3=3
 ·have mj:=hr.q;rw[if_pos na] at mj;replace hr:=zh mj;clear mj;subst na;go_wp2_with fail;refine ye hr (xh h4 hl 3) F4 ?_;clear hr;intro x5 s5 w5 m5 h5 F5 f5 hr;replace hN:=zh (hN.q.rf f5.q);have nL:=KQ hE.q m5.q;go_wp2_with fail;refine (Zu nL _).mono ?_;rintro e wn ⟨rfl,av⟩;replace hN:=zh (hN.q.rf (h5.q.rf av));replace F5:=zh (F5.q.trans (h5.q.rf av));replace h5:=zh (h5.q.below av);obtain⟨⟨fz,cz⟩,hN,h6,F6⟩:=ya hN h5 F5 mL.1 0 (.int .u8 67);obtain⟨⟨fz,cz⟩,hN,h7,F7⟩:=ya hN h6 F6 mL.1 2 (.int .i64 (ym x5:Nat));obtain⟨d0,d1,d2,d3,d4,_⟩:=hN.q.cells;go_wp2_with fail;refine zU hr h7 F7 ZF λW h F=>?_
  go_wp2;go_ret;exact⟨rfl,h,F⟩
 have z3:((x3:Int) == 3)=false:=bfE (by omega)
 have mj:=hr.q;rw[if_neg na] at mj;replace hr:=zh mj;clear mj;have fH:=vM h4.q;rw[e3] at fH;replace fH:=zh fH;go_wp2_with fail;refine fH.q.mono ?_;rintro e w5 ⟨rfl,mt⟩;have f5:=zh (h4.q.rf mt);have h5:=zh (h4.q.below mt);have F5:=zh (F4.q.trans f5.q);replace hN:=zh (hN.q.rf f5.q);clear mt fH;by_cases pj:x3=4
 ·have mj:=hr.q;rw[if_pos pj] at mj;replace hr:=zh mj;clear mj;subst pj;go_wp2_with fail;refine ye hr (xh h5 hl 4) F5 ?_;clear hr;intro x6 s6 w6 m6 h6 F6 f6 hr;replace hN:=zh (hN.q.rf f6.q);obtain⟨⟨fz,cz⟩,hN,h7,F7⟩:=ya hN h6 F6 mL.1 0 (.int .u8 68);obtain⟨⟨fz,cz⟩,hN,h8,F8⟩:=ya hN h7 F7 mL.1 1 (.string ⟨x6.toArray⟩);obtain⟨d0,d1,d2,d3,d4,_⟩:=hN.q.cells;go_wp2_with fail;refine zU hr h8 F8 ZF λW h F=>?_
  go_wp2;go_ret;exact⟨rfl,h,F⟩
 have z4:((x3:Int) == 4)=false:=bfE (by omega)
 have mj:=hr.q;rw[if_neg pj] at mj;replace hr:=zh mj;clear mj;go_wp2_with fail;have mW:=hr;clear hr;refine yK mW h5 hl F5 (λw6 Dx h6 F6 f6 hr=>?_) (λw6 h6 F6 f6 hr=>?_) <;> clear mW <;> replace hN:=zh (hN.q.rf f6.q)
 ·go_wp2_with fail;refine ye hr (xh h6 hl 3) F6 ?_;clear hr;intro x7 s7 w7 m7 h7 F7 f7 hr;replace hN:=zh (hN.q.rf f7.q);have nL:=KQ hE.q m7.q;go_wp2_with fail;refine (Zu nL _).mono ?_;rintro e wn ⟨rfl,av⟩;replace hN:=zh (hN.q.rf (h7.q.rf av));replace F7:=zh (F7.q.trans (h7.q.rf av));replace h7:=zh (h7.q.below av);have hy:IntKind.i64.wrap (-(ym x7:Int))= -(ym x7:Int):=pF _ ⟨by have:=nL.2.1;omega,by omega⟩;obtain⟨⟨fz,cz⟩,hN,h8,F8⟩:=ya hN h7 F7 mL.1 0 (.int .u8 67);obtain⟨⟨fz,cz⟩,hN,h9,F9⟩:=ya hN h8 F8 mL.1 2 (.int .i64 (-(ym x7:Nat)));obtain⟨d0,d1,d2,d3,d4,_⟩:=hN.q.cells;go_wp2_with fail;refine zU hr h9 F9 ZF λW h F=>?_
  go_wp2;go_ret;exact⟨rfl,h,F⟩
 go_wp2_with fail;have mW:=hr;clear hr;refine yK mW h6 hl F6 (λw7 Dy h7 F7 f7 hr=>?_) (λw7 h7 F7 f7 hr=>?_) <;> clear mW <;> replace hN:=zh (hN.q.rf f7.q)
 ·obtain⟨⟨fz,cz⟩,hN,h8,F8⟩:=ya hN h7 F7 mL.1 0 (.int .u8 69);obtain⟨⟨fz,cz⟩,hN,h9,F9⟩:=ya hN h8 F8 mL.1 2 (.int .i64 1);obtain⟨d0,d1,d2,d3,d4,_⟩:=hN.q.cells;go_wp2_with fail;refine zU hr h9 F9 ZF λW h F=>?_
  go_wp2;go_ret;exact⟨rfl,h,F⟩
 go_wp2_with fail;have mW:=hr;clear hr;refine yK mW h7 hl F7 (λw8 Lw h8 F8 f8 hr=>?_) (λw8 h8 F8 f8 hr=>?_) <;> clear mW <;> replace hN:=zh (hN.q.rf f8.q)
 ·obtain⟨⟨fz,cz⟩,hN,h9,F9⟩:=ya hN h8 F8 mL.1 0 (.int .u8 69);obtain⟨d0,d1,d2,d3,d4,_⟩:=hN.q.cells;go_wp2_with fail;refine zU hr h9 F9 ZF λW h F=>?_
  go_wp2;go_ret;exact⟨rfl,h,F⟩
 go_wp2_with fail;refine ye hr (xh h8 hl 2) F8 ?_;clear hr;intro x9 s9 w9 m9 h9 F9 f9 hr;replace hN:=zh (hN.q.rf f9.q);obtain⟨⟨fz,cz⟩,hN,mR,mi⟩:=ya hN h9 F9 mL.1 0 (.int .u8 70);obtain⟨⟨fz,cz⟩,hN,mX,ms⟩:=ya hN mR mi mL.1 1 (.string ⟨x9.toArray⟩);go_wp2_with fail;have mW:=hr;clear hr;refine yK mW mX hl ms (λfC WL mh mx sZ hr=>?_) (λfC mh mx sZ hr=>?_) <;> clear mW <;> replace hN:=zh (hN.q.rf sZ.q)
 ·go_wp2_with fail;refine ye hr (yX hR.q.pattern mh) mx ?_;clear hr;intro rz gn cn Mp nN ng ru hr;replace hN:=zh (hN.q.rf ru.q);obtain⟨hN,nY,rQ,o⟩:=uF hN nN ng [rz] #[.int .i64 rz] 1;have oo:=zS o.q hN.q.hb 3 (.slice (some ⟨cn.heap.size,0,none⟩) 1 1);obtain⟨⟨Cx,CV⟩,hN,rA,sI⟩:=ya hN nY rQ mL.1 3 (.slice (some ⟨cn.heap.size,0,none⟩) 1 1);replace o:=zh oo;clear oo;have mK:zeA E base pb (w1.heap.size) G (R.pattern) (λl=>zI [41] >>= λ_=>yv 70 x9 0 x1 l) 70 x9 0 x1 w (a,st') _:=⟨_,_,_,_,hr.q,by simp;omega,hN.q,o.q,rA.q,sI.q⟩;replace mK:=zh mK;clear hr hN o;go_wp2;go_loopw [] (λwr=>zeA E base pb (w1.heap.size) G (R.pattern) (λl=>zI [41] >>= λ_=>yv 70 x9 0 x1 l) 70 x9 0 x1 w (a,st') wr) (λwr=>E.tz.length+1-qj pb wr)
  case atStart=>exact mK.q
  case round=>
   obtain⟨s,acc,k,kv,hr,hk,hN,o,ri,am⟩:=hrel;obtain⟨p3,c3,rfl⟩:=(KS.own o).form;replace ri:=zh ri;replace am:=zh am;replace hN:=zh hN;replace o:=zh o;have rp:=ri.q.qj;cases k with
   |zero=>cases hr
   |succ k=>
    unfold qN at hr;simp only[kg,Zo,uH] at hr;replace hr:=zh hr;go_wp2_with fail;have mW:=hr;clear hr;refine yK mW ri hl am (λw51 dS nU sA tu hr=>?_) (λw51 nU sA tu hr=>?_) <;> clear mW <;> replace hN:=zh (hN.q.rf tu.q)
    ·replace o:=zh (zx o.q ri.q tu.q);have mD:=qI dS;have GA:s.up.n=s.n+1:=rfl;have rO:=hN.q.hb;have bl:=sA.q.b.size;go_wp2_with fail;have hS:=jh rO;have hd:=ko nU;replace hN:=zh (hN.q.rf (nU.q.rf hd));replace o:=zh (zm o.q hd);replace sA:=zh (sA.q.trans (nU.q.rf hd));replace nU:=zh (nU.q.below hd);clear hd;refine LodeX.xC (RR:=jX (w1.heap.size)) (Xp:=λ_ _=>False) [(0,0),(1,1),(2,0),(3,2),(4,2),(5,2),(6,0),(7,3)] ?_;refine LodeX.xt ?_;refine LodeX.callX λK hK=>?_
     go_simp;refine ye hr (yX hR.q.pattern nU) sA ?_;clear hr;intro bv Sf wc mc hc Fc fc hr;have Bx:=qz nU hc fc;replace hN:=zh (hN.q.rf fc.q);replace o:=zh (zx o.q nU.q fc.q);refine⟨hN.q.hb.trans rO.symm,hK _ _ ?_⟩;clear hK K hS
     try simp only[Act.put,yh,yf,yg]
     refine LodeX.callX λK hK=>?_
     go_simp;have hA:=zf wc (.cells #[.int .i64 bv] 3 (0,0));refine⟨hA.block _ (gtA hN.q.hb),hK _ _ ?_⟩;clear hK K
     try simp only[Act.put,yh,yf,yg]
     refine LodeX.callX λK hK=>?_
     replace hN:=zh (hN.q.rf (hc.q.rf hA));replace o:=zh (zm o.q hA);replace Fc:=zh (Fc.q.trans (hc.q.rf hA));replace hc:=zh (hc.q.below hA);refine yE _ _ rfl (by rfl) o.q (by rfl) (zd (zk wc _) 0) rfl rfl (by first|omega|(simp;omega)|simp) (by have:=Fc.q.b.size;omega) ?_;intro g' cap' wd mC mA mJ;obtain⟨⟨fz,cz⟩,hq,CF,BC,dl,bJ,nS,aQ,dA,o'⟩:=kI (ys:=[bv]) hc hN o Fc mL mC mA mJ;rw[dl];refine⟨hq,hK _ _ ?_⟩;replace hN:=nS;replace o:=o';subst bJ
     try simp only[pQ,pV,pH,pM,Nat.zero_add,Nat.reduceAdd] at hN aQ dA o
     clear hK K mC mA mJ dl hq nS o' rO bl
     try simp only[Act.put,yh,yf,yg]
     refine LodeX.xt ?_;refine LodeX.yG rfl rfl (λV hV=>?_);cases hV;go_simp;refine LodeX.yL ?_;have rc:(acc ++ [bv]).length+k<=200000:=by simp;omega
     have Nh:=aQ.q.qj;go_wp2;go_roundw
     case rel=>exact⟨_,_,_,_,hr.q,rc,hN.q,o.q,aQ.q,dA.q⟩
     case measure=>omega
    ·replace o:=zh (zx o.q ri.q tu.q);go_wp2_with fail;refine ye hr (zJ nU hl _) sA ?_;clear hr;intro CJ CC CI Bu tT eH bK hr;replace hN:=zh (hN.q.rf bK.q);replace o:=zh (zx o.q nU.q bK.q);obtain⟨tT,hk⟩:=jY tT o hG.q;obtain⟨d0,d1,d2,d3,d4,_⟩:=hN.q.cells;go_wp2_with fail;refine zU hr tT eH hk λW h F=>?_
     go_wp2;go_ret;exact⟨rfl,h,F⟩
 ·obtain⟨d0,d1,d2,d3,d4,_⟩:=hN.q.cells;go_wp2_with fail;refine zU hr mh mx ZF λW h F=>?_
  go_wp2;go_ret;exact⟨rfl,h,F⟩
def zfl(hR:qJ E base pb R):Xn E base pb 46 (zdG R):=by
 have hP:=zh (QG hR);have hH:=zh (Vs hR);have hC:=zh (zfo hR);intro G w st st' a h0 hr;have hl:=hR.lim;replace hR:=zh hR;unfold zdG at hr
 try simp only[kg,Zo,uH] at hr
 have mL:=h0.bs;have F0:=zh (RF.refl base pb w);replace h0:=zh h0;replace hr:=zh hr;go_enter func46,ntmps46;have hG:=zh h0.q.glt;go_wp2_with fail;refine ye hr (xl h0) F0 ?_;clear hr;intro x1 s1 w1 m1 h1 F1 f1 hr;obtain⟨hN,h2,F2⟩:=ZS h1 F1 0 [] 0 x1;go_wp2_with fail;have mW:=hr;clear hr;refine yK mW h2 hl F2 (λw3 nV h3 F3 f3 hr=>?_) (λw3 h3 F3 f3 hr=>?_) <;> clear mW <;> replace hN:=zh (hN.q.rf f3.q)
 ·go_wp2_with fail;refine ye hr (xh h3 hl 2) F3 ?_;clear hr;intro x4 s4 w4 m4 h4 F4 f4 hr;replace hN:=zh (hN.q.rf f4.q);obtain⟨⟨fz,cz⟩,hN,h5,F5⟩:=ya hN h4 F4 mL.1 0 (.int .u8 100);obtain⟨⟨fz,cz⟩,hN,h6,F6⟩:=ya hN h5 F5 mL.1 1 (.string ⟨x4.toArray⟩);go_wp2_with fail;refine ye hr (zJ h6 hl _) F6 ?_;clear hr;intro x7 s7 w7 m7 h7 F7 f7 hr;replace hN:=zh (hN.q.rf f7.q);go_wp2_with fail;refine zaC hr (hP.q) h7 F7 ?_;clear hr;intro x8 s8 w8 v8 m8 h8 F8 f8 o8 l8 hr;obtain⟨p8,c8,rfl⟩:=(KS.own o8.q).form;replace hN:=zh (hN.q.rf f8.q);have o:=zh (xD o8.q F7.q.b.size);have oo:=zS o.q hN.q.hb 3 (.slice p8 x8.length c8);obtain⟨⟨Gg,fE⟩,hN,h9,F9⟩:=ya hN h8 F8 mL.1 3 (.slice p8 x8.length c8);replace o:=zh oo;clear oo;go_wp2_with fail;refine ye hr (zJ h9 hl _) F9 ?_;clear hr;intro rG ec nB fA mR mi nI hr;replace hN:=zh (hN.q.rf nI.q);replace o:=zh (zx o.q h9.q nI.q);obtain⟨mR,hk⟩:=jY mR o hG.q;obtain⟨d0,d1,d2,d3,d4,_⟩:=hN.q.cells;go_wp2_with fail;refine zU hr mR mi hk λW h F=>?_
  go_wp2;go_ret;exact⟨rfl,h,F⟩
 go_wp2_with fail;have mW:=hr;clear hr;refine yK mW h3 hl F3 (λw4 WN h4 F4 f4 hr=>?_) (λw4 h4 F4 f4 hr=>?_) <;> clear mW <;> replace hN:=zh (hN.q.rf f4.q)
 ·go_wp2_with fail;refine ye hr (xh h4 hl 2) F4 ?_;clear hr;intro x5 s5 w5 m5 h5 F5 f5 hr;replace hN:=zh (hN.q.rf f5.q);obtain⟨⟨fz,cz⟩,hN,h6,F6⟩:=ya hN h5 F5 mL.1 0 (.int .u8 101);obtain⟨⟨fz,cz⟩,hN,h7,F7⟩:=ya hN h6 F6 mL.1 1 (.string ⟨x5.toArray⟩);go_wp2_with fail;refine ye hr (zJ h7 hl _) F7 ?_;clear hr;intro x8 s8 w8 m8 h8 F8 f8 hr;replace hN:=zh (hN.q.rf f8.q);go_wp2_with fail;refine ye hr (yX hC.q h8) F8 ?_;clear hr;intro x9 s9 w9 m9 h9 F9 f9 hr;replace hN:=zh (hN.q.rf f9.q);obtain⟨hN,mR,mi,o⟩:=uF hN h9 F9 [x9] #[.int .i64 x9] 1;have oo:=zS o.q hN.q.hb 3 (.slice (some ⟨w9.heap.size,0,none⟩) 1 1);obtain⟨⟨eL,eJ⟩,hN,mX,ms⟩:=ya hN mR mi mL.1 3 (.slice (some ⟨w9.heap.size,0,none⟩) 1 1);replace o:=zh oo;clear oo;have mK:zeA E base pb (w1.heap.size) G (YS R) (λl=>zI [125] >>= λ_=>yv 101 x5 0 x1 l) 101 x5 0 x1 w (a,st') _:=⟨_,_,_,_,hr.q,by simp;omega,hN.q,o.q,mX.q,ms.q⟩;replace mK:=zh mK;clear hr hN o;go_wp2;go_loopw [] (λwr=>zeA E base pb (w1.heap.size) G (YS R) (λl=>zI [125] >>= λ_=>yv 101 x5 0 x1 l) 101 x5 0 x1 w (a,st') wr) (λwr=>E.tz.length+1-qj pb wr)
  case atStart=>exact mK.q
  case round=>
   obtain⟨s,acc,k,kv,hr,hk,hN,o,ri,am⟩:=hrel;obtain⟨p3,c3,rfl⟩:=(KS.own o).form;replace ri:=zh ri;replace am:=zh am;replace hN:=zh hN;replace o:=zh o;have rp:=ri.q.qj;cases k with
   |zero=>cases hr
   |succ k=>
    unfold qN at hr;simp only[kg,Zo,uH] at hr;replace hr:=zh hr;go_wp2_with fail;have mW:=hr;clear hr;refine yK mW ri hl am (λw51 dS nU sA tu hr=>?_) (λw51 nU sA tu hr=>?_) <;> clear mW <;> replace hN:=zh (hN.q.rf tu.q)
    ·replace o:=zh (zx o.q ri.q tu.q);have mD:=qI dS;have GA:s.up.n=s.n+1:=rfl;have rO:=hN.q.hb;have bl:=sA.q.b.size;go_wp2_with fail;have hS:=jh rO;have hd:=ko nU;replace hN:=zh (hN.q.rf (nU.q.rf hd));replace o:=zh (zm o.q hd);replace sA:=zh (sA.q.trans (nU.q.rf hd));replace nU:=zh (nU.q.below hd);clear hd;refine LodeX.xC (RR:=jX (w1.heap.size)) (Xp:=λ_ _=>False) [(0,0),(1,1),(2,0),(3,2),(4,2),(5,2),(6,0),(7,3)] ?_;refine LodeX.xt ?_;refine LodeX.callX λK hK=>?_
     go_simp;refine ye hr (yX hC.q nU) sA ?_;clear hr;intro bv Sf wc mc hc Fc fc hr;have Bx:=qz nU hc fc;replace hN:=zh (hN.q.rf fc.q);replace o:=zh (zx o.q nU.q fc.q);refine⟨hN.q.hb.trans rO.symm,hK _ _ ?_⟩;clear hK K hS
     try simp only[Act.put,yh,yf,yg]
     refine LodeX.callX λK hK=>?_
     go_simp;have hA:=zf wc (.cells #[.int .i64 bv] 3 (0,0));refine⟨hA.block _ (gtA hN.q.hb),hK _ _ ?_⟩;clear hK K
     try simp only[Act.put,yh,yf,yg]
     refine LodeX.callX λK hK=>?_
     replace hN:=zh (hN.q.rf (hc.q.rf hA));replace o:=zh (zm o.q hA);replace Fc:=zh (Fc.q.trans (hc.q.rf hA));replace hc:=zh (hc.q.below hA);refine yE _ _ rfl (by rfl) o.q (by rfl) (zd (zk wc _) 0) rfl rfl (by first|omega|(simp;omega)|simp) (by have:=Fc.q.b.size;omega) ?_;intro g' cap' wd mC mA mJ;obtain⟨⟨fz,cz⟩,hq,CF,BC,dl,bJ,nS,aQ,dA,o'⟩:=kI (ys:=[bv]) hc hN o Fc mL mC mA mJ;rw[dl];refine⟨hq,hK _ _ ?_⟩;replace hN:=nS;replace o:=o';subst bJ
     try simp only[pQ,pV,pH,pM,Nat.zero_add,Nat.reduceAdd] at hN aQ dA o
     clear hK K mC mA mJ dl hq nS o' rO bl
     try simp only[Act.put,yh,yf,yg]
     refine LodeX.xt ?_;refine LodeX.yG rfl rfl (λV hV=>?_);cases hV;go_simp;refine LodeX.yL ?_;have rc:(acc ++ [bv]).length+k<=200000:=by simp;omega
     have Nh:=aQ.q.qj;go_wp2;go_roundw
     case rel=>exact⟨_,_,_,_,hr.q,rc,hN.q,o.q,aQ.q,dA.q⟩
     case measure=>omega
    ·replace o:=zh (zx o.q ri.q tu.q);go_wp2_with fail;refine ye hr (zJ nU hl _) sA ?_;clear hr;intro CJ CC CI Bu tT eH bK hr;replace hN:=zh (hN.q.rf bK.q);replace o:=zh (zx o.q nU.q bK.q);obtain⟨tT,hk⟩:=jY tT o hG.q;obtain⟨d0,d1,d2,d3,d4,_⟩:=hN.q.cells;go_wp2_with fail;refine zU hr tT eH hk λW h F=>?_
     go_wp2;go_ret;exact⟨rfl,h,F⟩
 go_wp2_with fail;have mW:=hr;clear hr;refine yK mW h4 hl F4 (λw5 SP h5 F5 f5 hr=>?_) (λw5 h5 F5 f5 hr=>?_) <;> clear mW <;> replace hN:=zh (hN.q.rf f5.q)
 ·go_wp2_with fail;refine ye hr (zJ h5 hl _) F5 ?_;clear hr;intro x6 s6 w6 m6 h6 F6 f6 hr;replace hN:=zh (hN.q.rf f6.q);go_wp2_with fail;refine ye hr (xh h6 hl 1) F6 ?_;clear hr;intro x7 s7 w7 m7 h7 F7 f7 hr;replace hN:=zh (hN.q.rf f7.q);obtain⟨⟨fz,cz⟩,hN,h8,F8⟩:=ya hN h7 F7 mL.1 0 (.int .u8 103);obtain⟨⟨fz,cz⟩,hN,h9,F9⟩:=ya hN h8 F8 mL.1 1 (.string ⟨x7.toArray⟩);go_wp2_with fail;refine zaC hr (hH.q) h9 F9 ?_;clear hr;intro rG ec nB OV fA mR mi nI eE l10 hr;obtain⟨Ao,c10,rfl⟩:=(KS.own eE.q).form;replace hN:=zh (hN.q.rf nI.q);have o:=zh (xD eE.q F9.q.b.size);have oo:=zS o.q hN.q.hb 3 (.slice Ao rG.length c10);obtain⟨⟨eL,eJ⟩,hN,mX,ms⟩:=ya hN mR mi mL.1 3 (.slice Ao rG.length c10);replace o:=zh oo;clear oo;go_wp2_with fail;refine ye hr (zJ mX hl _) ms ?_;clear hr;intro aV Ap fC Fe mh mx sZ hr;replace hN:=zh (hN.q.rf sZ.q);replace o:=zh (zx o.q mX.q sZ.q);obtain⟨mh,hk⟩:=jY mh o hG.q;obtain⟨d0,d1,d2,d3,d4,_⟩:=hN.q.cells;go_wp2_with fail;refine zU hr mh mx hk λW h F=>?_
  go_wp2;go_ret;exact⟨rfl,h,F⟩
 go_wp2_with fail;have mW:=hr;clear hr;refine yK mW h5 hl F5 (λw6 Dx h6 F6 f6 hr=>?_) (λw6 h6 F6 f6 hr=>?_) <;> clear mW <;> replace hN:=zh (hN.q.rf f6.q)
 ·go_wp2_with fail;refine ye hr (xh h6 hl 1) F6 ?_;clear hr;intro x7 s7 w7 m7 h7 F7 f7 hr;replace hN:=zh (hN.q.rf f7.q);obtain⟨⟨fz,cz⟩,hN,h8,F8⟩:=ya hN h7 F7 mL.1 0 (.int .u8 104);obtain⟨⟨fz,cz⟩,hN,h9,F9⟩:=ya hN h8 F8 mL.1 1 (.string ⟨x7.toArray⟩);go_wp2_with fail;refine ye hr (zJ h9 hl _) F9 ?_;clear hr;intro rG ec nB fA mR mi nI hr;replace hN:=zh (hN.q.rf nI.q);go_wp2_with fail;refine ye hr (yX hR.q.type mR) mi ?_;clear hr;intro rr Hu al Mo mX ms rH hr;replace hN:=zh (hN.q.rf rH.q);go_wp2_with fail;refine ye hr (zJ mX hl _) ms ?_;clear hr;intro aV Ap fC Fe mh mx sZ hr;replace hN:=zh (hN.q.rf sZ.q);go_wp2_with fail;refine ye hr (yX hR.q.expr mh) mx ?_;clear hr;intro rz gn cn Mp nN ng ru hr;replace hN:=zh (hN.q.rf ru.q);obtain⟨hN,nY,rQ,o⟩:=uF hN nN ng [rr,rz] #[.int .i64 rr,.int .i64 rz] 2;have oo:=zS o.q hN.q.hb 3 (.slice (some ⟨cn.heap.size,0,none⟩) 2 2);obtain⟨⟨Cx,CV⟩,hN,rA,sI⟩:=ya hN nY rQ mL.1 3 (.slice (some ⟨cn.heap.size,0,none⟩) 2 2);replace o:=zh oo;clear oo;go_wp2_with fail;refine ye hr (zJ rA hl _) sI ?_;clear hr;intro Nw Fx MB m16 rM sJ co hr;replace hN:=zh (hN.q.rf co.q);replace o:=zh (zx o.q rA.q co.q);obtain⟨rM,hk⟩:=jY rM o hG.q;obtain⟨d0,d1,d2,d3,d4,_⟩:=hN.q.cells;go_wp2_with fail;refine zU hr rM sJ hk λW h F=>?_
  go_wp2;go_ret;exact⟨rfl,h,F⟩
 go_wp2_with fail;refine ye hr (Qb h6 hl _) F6 ?_;clear hr;intro x7 s7 w7 m7 h7 F7 f7 hr;replace hN:=zh (hN.q.rf f7.q);cases x7 with
 |true=>
  obtain⟨⟨fz,cz⟩,hN,h8,F8⟩:=ya hN h7 F7 mL.1 2 (.int .i64 1);go_wp2_with fail;refine ye hr (zJ h8 hl _) F8 ?_;clear hr;intro x9 s9 w9 m9 h9 F9 f9 hr;replace hN:=zh (hN.q.rf f9.q);go_wp2_with fail;refine ye hr (xh h9 hl 1) F9 ?_;clear hr;intro rG ec nB fA mR mi nI hr;replace hN:=zh (hN.q.rf nI.q);obtain⟨⟨fz,cz⟩,hN,mX,ms⟩:=ya hN mR mi mL.1 0 (.int .u8 102);obtain⟨⟨fz,cz⟩,hN,mh,mx⟩:=ya hN mX ms mL.1 1 (.string ⟨rG.toArray⟩);go_wp2_with fail;refine zaC hr (hH.q) mh mx ?_;clear hr;intro rz gn cn CE Mp nN ng ru cC Iv hr;obtain⟨Nv,gv,rfl⟩:=(KS.own cC.q).form;replace hN:=zh (hN.q.rf ru.q);have o:=zh (xD cC.q mx.q.b.size);have oo:=zS o.q hN.q.hb 3 (.slice Nv rz.length gv);obtain⟨⟨PN,PD⟩,hN,nY,rQ⟩:=ya hN nN ng mL.1 3 (.slice Nv rz.length gv);replace o:=zh oo;clear oo;have dK:=hN.q.hb;have Rf:=rQ.q.b.size;go_wp2_with fail;have hS:=jh dK;have hd:=ko nY;replace hN:=zh (hN.q.rf (nY.q.rf hd));replace o:=zh (zm o.q hd);replace rQ:=zh (rQ.q.trans (nY.q.rf hd));replace nY:=zh (nY.q.below hd);clear hd;refine LodeX.xC (RR:=jX (w1.heap.size)) (Xp:=λ_ _=>False) [(0,0),(1,1),(2,0),(3,2),(4,2),(5,2),(6,0),(7,3)] ?_;refine LodeX.xt ?_;refine LodeX.callX λK hK=>?_
  go_simp;refine ye hr (yX hR.q.block nY) rQ ?_;clear hr;intro bu Se wc mc hc Fc fc hr;have Ac:=qz nY hc fc;replace hN:=zh (hN.q.rf fc.q);replace o:=zh (zx o.q nY.q fc.q);refine⟨hN.q.hb.trans dK.symm,hK _ _ ?_⟩;clear hK K hS
  try simp only[Act.put,yh,yf,yg]
  refine LodeX.callX λK hK=>?_
  go_simp;have hA:=zf wc (.cells #[.int .i64 bu] 3 (0,0));refine⟨hA.block _ (gtA hN.q.hb),hK _ _ ?_⟩;clear hK K
  try simp only[Act.put,yh,yf,yg]
  refine LodeX.callX λK hK=>?_
  replace hN:=zh (hN.q.rf (hc.q.rf hA));replace o:=zh (zm o.q hA);replace Fc:=zh (Fc.q.trans (hc.q.rf hA));replace hc:=zh (hc.q.below hA);refine yE _ _ rfl (by rfl) o.q (by rfl) (zd (zk wc _) 0) rfl rfl (by first|omega|(simp;omega)|simp) (by have:=Fc.q.b.size;omega) ?_;intro g' cap' wd mC mA mJ;obtain⟨⟨fz,cz⟩,hq,v15,c15,Sw,PH,nS,rA,sI,o'⟩:=kI (ys:=[bu]) hc hN o Fc mL mC mA mJ;rw[Sw];refine⟨hq,hK _ _ ?_⟩;replace hN:=nS;replace o:=o';subst PH
  try simp only[pQ,pV,pH,pM,Nat.zero_add,Nat.reduceAdd] at hN rA sI o
  clear hK K mC mA mJ Sw hq nS o' dK Rf
  try simp only[Act.put,yh,yf,yg]
  refine LodeX.xt ?_;refine LodeX.yG rfl rfl (λV hV=>?_);cases hV;go_simp;refine LodeX.yL ?_;obtain⟨rA,hk⟩:=jY rA o hG.q;obtain⟨d0,d1,d2,d3,d4,_⟩:=hN.q.cells;go_wp2_with fail;refine zU hr rA sI hk λW h F=>?_
  go_wp2;go_ret;exact⟨rfl,h,F⟩
 |false=>
  go_wp2_with fail;refine ye hr (zJ h7 hl _) F7 ?_;clear hr;intro x9 s9 w9 m9 h9 F9 f9 hr;replace hN:=zh (hN.q.rf f9.q);go_wp2_with fail;refine ye hr (xh h9 hl 1) F9 ?_;clear hr;intro rG ec nB fA mR mi nI hr;replace hN:=zh (hN.q.rf nI.q);obtain⟨⟨fz,cz⟩,hN,mX,ms⟩:=ya hN mR mi mL.1 0 (.int .u8 102);obtain⟨⟨fz,cz⟩,hN,mh,mx⟩:=ya hN mX ms mL.1 1 (.string ⟨rG.toArray⟩);go_wp2_with fail;refine zaC hr (hH.q) mh mx ?_;clear hr;intro rz gn cn CE Mp nN ng ru cC Iv hr;obtain⟨Nv,gv,rfl⟩:=(KS.own cC.q).form;replace hN:=zh (hN.q.rf ru.q);have o:=zh (xD cC.q mx.q.b.size);have oo:=zS o.q hN.q.hb 3 (.slice Nv rz.length gv);obtain⟨⟨PN,PD⟩,hN,nY,rQ⟩:=ya hN nN ng mL.1 3 (.slice Nv rz.length gv);replace o:=zh oo;clear oo;have dK:=hN.q.hb;have Rf:=rQ.q.b.size;go_wp2_with fail;have hS:=jh dK;have hd:=ko nY;replace hN:=zh (hN.q.rf (nY.q.rf hd));replace o:=zh (zm o.q hd);replace rQ:=zh (rQ.q.trans (nY.q.rf hd));replace nY:=zh (nY.q.below hd);clear hd;refine LodeX.xC (RR:=jX (w1.heap.size)) (Xp:=λ_ _=>False) [(0,0),(1,1),(2,0),(3,2),(4,2),(5,2),(6,0),(7,3)] ?_;refine LodeX.xt ?_;refine LodeX.callX λK hK=>?_
  go_simp;refine ye hr (yX hR.q.block nY) rQ ?_;clear hr;intro bu Se wc mc hc Fc fc hr;have Ac:=qz nY hc fc;replace hN:=zh (hN.q.rf fc.q);replace o:=zh (zx o.q nY.q fc.q);refine⟨hN.q.hb.trans dK.symm,hK _ _ ?_⟩;clear hK K hS
  try simp only[Act.put,yh,yf,yg]
  refine LodeX.callX λK hK=>?_
  go_simp;have hA:=zf wc (.cells #[.int .i64 bu] 3 (0,0));refine⟨hA.block _ (gtA hN.q.hb),hK _ _ ?_⟩;clear hK K
  try simp only[Act.put,yh,yf,yg]
  refine LodeX.callX λK hK=>?_
  replace hN:=zh (hN.q.rf (hc.q.rf hA));replace o:=zh (zm o.q hA);replace Fc:=zh (Fc.q.trans (hc.q.rf hA));replace hc:=zh (hc.q.below hA);refine yE _ _ rfl (by rfl) o.q (by rfl) (zd (zk wc _) 0) rfl rfl (by first|omega|(simp;omega)|simp) (by have:=Fc.q.b.size;omega) ?_;intro g' cap' wd mC mA mJ;obtain⟨⟨fz,cz⟩,hq,v15,c15,Sw,PH,nS,rA,sI,o'⟩:=kI (ys:=[bu]) hc hN o Fc mL mC mA mJ;rw[Sw];refine⟨hq,hK _ _ ?_⟩;replace hN:=nS;replace o:=o';subst PH
  try simp only[pQ,pV,pH,pM,Nat.zero_add,Nat.reduceAdd] at hN rA sI o
  clear hK K mC mA mJ Sw hq nS o' dK Rf
  try simp only[Act.put,yh,yf,yg]
  refine LodeX.xt ?_;refine LodeX.yG rfl rfl (λV hV=>?_);cases hV;go_simp;refine LodeX.yL ?_;obtain⟨rA,hk⟩:=jY rA o hG.q;obtain⟨d0,d1,d2,d3,d4,_⟩:=hN.q.cells;go_wp2_with fail;refine zU hr rA sI hk λW h F=>?_
  go_wp2;go_ret;exact⟨rfl,h,F⟩
def mB:Value->Nat
 | .bool true=>1
 |_=>0
def zou(E:zr)(base pb b:Nat)(G:Nat->Prop)(R:xn)(p:Int)(w:World)(r:Int×jR)(v:Value)(wr:World):Prop:=∃s acc k kv m,((bif m then uZ R k acc else pure acc) >>= λl=>zI [125] >>= λ_=>yv 35 [] 0 p l) E s=some r/\v=.bool m/\acc.length+k<=200000/\NB base pb b w wr 35 [] 0 kv p/\wr.ownsRow w.heap.size 3 1 kv acc.length (yl acc)/\RW E base pb (Gw G kv) wr s/\RF base pb w wr
def RCp(E:zr)(base pb f:Nat)(m:Int->RM Int):Prop:=∀(G:Nat->Prop) (w:World) (st st':jR) (a p:Int),RW E base pb G w st->m p E st=some (a,st')->Calls prog f #[.pointer (some ⟨pb,0,none⟩),.agg #[.int .u8 0,.string ⟨#[]⟩,.int .i64 0,.slice none 0 0,.int .i64 p]] w λe w'=>e=.returned (.int .i64 a)/\RW E base pb G w' st'/\RF base pb w w'
def YQ(hE:∀t∈E.tz,t.kind=3->zaR t.text)(hR:qJ E base pb R):RCp E base pb 311 (qc R):=by
 have hH:=zh (Vs hR);have TY:=zh (zib hR);have TG:=zh (zie hR);have Db:=zh (zh9 hR);replace hE:=zh hE;intro G w st st' a x1 h0 hr;have hl:=hR.lim;replace hR:=zh hR;unfold qc at hr;have mL:=h0.bs;have F0:=zh (RF.refl base pb w);have hG:=zh h0.glt;replace h0:=zh h0;replace hr:=zh hr;obtain⟨hN,h1,F1⟩:=ZS h0 F0 0 [] 0 x1;go_enter func311,ntmps311;go_wp2_with fail;have mW:=hr;clear hr;refine yK mW h1 hl F1 (λw2 WM h2 F2 f2 hr=>?_) (λw2 h2 F2 f2 hr=>?_) <;> clear mW <;> replace hN:=zh (hN.q.rf f2.q)
 ·obtain⟨⟨fz,cz⟩,hN,h3,F3⟩:=ya hN h2 F2 mL.1 0 (.int .u8 3);obtain⟨⟨fz,cz⟩,hN,h4,F4⟩:=ya hN h3 F3 mL.1 2 (.int .i64 1);obtain⟨d0,d1,d2,d3,d4,_⟩:=hN.q.cells;go_wp2_with fail;refine zU hr h4 F4 ZF λW h F=>?_
  go_wp2;go_ret;exact⟨rfl,h,F⟩
 go_wp2_with fail;have mW:=hr;clear hr;refine yK mW h2 hl F2 (λw3 nV h3 F3 f3 hr=>?_) (λw3 h3 F3 f3 hr=>?_) <;> clear mW <;> replace hN:=zh (hN.q.rf f3.q)
 ·obtain⟨⟨fz,cz⟩,hN,h4,F4⟩:=ya hN h3 F3 mL.1 0 (.int .u8 3);obtain⟨d0,d1,d2,d3,d4,_⟩:=hN.q.cells;go_wp2_with fail;refine zU hr h4 F4 ZF λW h F=>?_
  go_wp2;go_ret;exact⟨rfl,h,F⟩
 go_wp2_with fail;have mW:=hr;clear hr;refine yK mW h3 hl F3 (λw4 WN h4 F4 f4 hr=>?_) (λw4 h4 F4 f4 hr=>?_) <;> clear mW <;> replace hN:=zh (hN.q.rf f4.q)
 ·go_wp2_with fail;have mW:=hr;clear hr;refine yK mW h4 hl F4 (λw5 SP h5 F5 f5 hr=>?_) (λw5 h5 F5 f5 hr=>?_) <;> clear mW <;> replace hN:=zh (hN.q.rf f5.q)
  ·obtain⟨⟨fz,cz⟩,hN,h6,F6⟩:=ya hN h5 F5 mL.1 0 (.int .u8 4);obtain⟨d0,d1,d2,d3,d4,_⟩:=hN.q.cells;go_wp2_with fail;refine zU hr h6 F6 ZF λW h F=>?_
   go_wp2;go_ret;exact⟨rfl,h,F⟩
  ·go_wp2_with fail;refine ye hr (yX hR.q.expr h5) F5 ?_;clear hr;intro x6 s6 w6 m6 h6 F6 f6 hr;replace hN:=zh (hN.q.rf f6.q);go_wp2_with fail;refine ye hr (zJ h6 hl _) F6 ?_;clear hr;intro x7 s7 w7 m7 h7 F7 f7 hr;replace hN:=zh (hN.q.rf f7.q);have e:=Option.some.inj hr.q;cases e;go_wp2;go_ret;exact⟨rfl,h7.q,F7.q⟩
 go_wp2_with fail;have mW:=hr;clear hr;refine yK mW h4 hl F4 (λw5 SP h5 F5 f5 hr=>?_) (λw5 h5 F5 f5 hr=>?_) <;> clear mW <;> replace hN:=zh (hN.q.rf f5.q)
 ·go_wp2_with fail;refine ye hr (xh h5 hl 2) F5 ?_;clear hr;intro x6 s6 w6 m6 h6 F6 f6 hr;replace hN:=zh (hN.q.rf f6.q);obtain⟨⟨fz,cz⟩,hN,h7,F7⟩:=ya hN h6 F6 mL.1 0 (.int .u8 26);obtain⟨⟨fz,cz⟩,hN,h8,F8⟩:=ya hN h7 F7 mL.1 1 (.string ⟨x6.toArray⟩);go_wp2_with fail;refine ye hr (zJ h8 hl _) F8 ?_;clear hr;intro x9 s9 w9 m9 h9 F9 f9 hr;replace hN:=zh (hN.q.rf f9.q);go_wp2_with fail;refine ye hr (yX TY.q h9) F9 ?_;clear hr;intro rG ec nB fA mR mi nI hr;replace hN:=zh (hN.q.rf nI.q);obtain⟨hN,mX,ms,o⟩:=uF hN mR mi [rG] #[.int .i64 rG] 1;have oo:=zS o.q hN.q.hb 3 (.slice (some ⟨nB.heap.size,0,none⟩) 1 1);obtain⟨⟨PL,PC⟩,hN,mh,mx⟩:=ya hN mX ms mL.1 3 (.slice (some ⟨nB.heap.size,0,none⟩) 1 1);replace o:=zh oo;clear oo;have mK:zeA E base pb (w.heap.size) G (Vu R) (λl=>zI [125] >>= λ_=>yv 26 x6 0 x1 l) 26 x6 0 x1 w (a,st') _:=⟨_,_,_,_,hr.q,by simp;omega,hN.q,o.q,mh.q,mx.q⟩;replace mK:=zh mK;clear hr hN o;go_wp2;go_loopw [] (λwr=>zeA E base pb (w.heap.size) G (Vu R) (λl=>zI [125] >>= λ_=>yv 26 x6 0 x1 l) 26 x6 0 x1 w (a,st') wr) (λwr=>E.tz.length+1-qj pb wr)
  case atStart=>exact mK.q
  case round=>
   obtain⟨s,acc,k,kv,hr,hk,hN,o,ri,am⟩:=hrel;obtain⟨p3,c3,rfl⟩:=(KS.own o).form;replace ri:=zh ri;replace am:=zh am;replace hN:=zh hN;replace o:=zh o;have rp:=ri.q.qj;cases k with
   |zero=>cases hr
   |succ k=>
    unfold qN at hr;simp only[kg,Zo,uH] at hr;replace hr:=zh hr;go_wp2_with fail;have mW:=hr;clear hr;refine yK mW ri hl am (λw51 dS nU sA tu hr=>?_) (λw51 nU sA tu hr=>?_) <;> clear mW <;> replace hN:=zh (hN.q.rf tu.q)
    ·replace o:=zh (zx o.q ri.q tu.q);have mD:=qI dS;have GA:s.up.n=s.n+1:=rfl;have rO:=hN.q.hb;have bl:=sA.q.b.size;go_wp2_with fail;have hS:=jh rO;have hd:=ko nU;replace hN:=zh (hN.q.rf (nU.q.rf hd));replace o:=zh (zm o.q hd);replace sA:=zh (sA.q.trans (nU.q.rf hd));replace nU:=zh (nU.q.below hd);clear hd;refine LodeX.xC (RR:=jX (w.heap.size)) (Xp:=λ_ _=>False) [(0,0),(1,1),(2,0),(3,2),(4,2),(5,2),(6,0),(7,3)] ?_;refine LodeX.xt ?_;refine LodeX.callX λK hK=>?_
     go_simp;refine ye hr (yX TY.q nU) sA ?_;clear hr;intro bv Sf wc mc hc Fc fc hr;have Bx:=qz nU hc fc;replace hN:=zh (hN.q.rf fc.q);replace o:=zh (zx o.q nU.q fc.q);refine⟨hN.q.hb.trans rO.symm,hK _ _ ?_⟩;clear hK K hS
     try simp only[Act.put,yh,yf,yg]
     refine LodeX.callX λK hK=>?_
     go_simp;have hA:=zf wc (.cells #[.int .i64 bv] 3 (0,0));refine⟨hA.block _ (gtA hN.q.hb),hK _ _ ?_⟩;clear hK K
     try simp only[Act.put,yh,yf,yg]
     refine LodeX.callX λK hK=>?_
     replace hN:=zh (hN.q.rf (hc.q.rf hA));replace o:=zh (zm o.q hA);replace Fc:=zh (Fc.q.trans (hc.q.rf hA));replace hc:=zh (hc.q.below hA);refine yE _ _ rfl (by rfl) o.q (by rfl) (zd (zk wc _) 0) rfl rfl (by first|omega|(simp;omega)|simp) (by have:=Fc.q.b.size;omega) ?_;intro g' cap' wd mC mA mJ;obtain⟨⟨fz,cz⟩,hq,CF,BC,dl,bJ,nS,aQ,dA,o'⟩:=kI (ys:=[bv]) hc hN o Fc mL mC mA mJ;rw[dl];refine⟨hq,hK _ _ ?_⟩;replace hN:=nS;replace o:=o';subst bJ
     try simp only[pQ,pV,pH,pM,Nat.zero_add,Nat.reduceAdd] at hN aQ dA o
     clear hK K mC mA mJ dl hq nS o' rO bl
     try simp only[Act.put,yh,yf,yg]
     refine LodeX.xt ?_;refine LodeX.yG rfl rfl (λV hV=>?_);cases hV;go_simp;refine LodeX.yL ?_;have rc:(acc ++ [bv]).length+k<=200000:=by simp;omega
     have Nh:=aQ.q.qj;go_wp2;go_roundw
     case rel=>exact⟨_,_,_,_,hr.q,rc,hN.q,o.q,aQ.q,dA.q⟩
     case measure=>omega
    ·replace o:=zh (zx o.q ri.q tu.q);go_wp2_with fail;refine ye hr (zJ nU hl _) sA ?_;clear hr;intro CJ CC CI Bu tT eH bK hr;replace hN:=zh (hN.q.rf bK.q);replace o:=zh (zx o.q nU.q bK.q);obtain⟨tT,hk⟩:=jY tT o hG.q;obtain⟨d0,d1,d2,d3,d4,_⟩:=hN.q.cells;go_wp2_with fail;refine zU hr tT eH hk λW h F=>?_
     go_wp2;go_ret;exact⟨rfl,h,F⟩
 go_wp2_with fail;have mW:=hr;clear hr;refine yK mW h5 hl F5 (λw6 Dx h6 F6 f6 hr=>?_) (λw6 h6 F6 f6 hr=>?_) <;> clear mW <;> replace hN:=zh (hN.q.rf f6.q)
 ·go_wp2_with fail;refine ye hr (yX hR.q.expr h6) F6 ?_;clear hr;intro x7 s7 w7 m7 h7 F7 f7 hr;replace hN:=zh (hN.q.rf f7.q);obtain⟨hN,h8,F8,o⟩:=uF hN h7 F7 [x7] #[.int .i64 x7] 1;have oo:=zS o.q hN.q.hb 0 (.int .u8 29);obtain⟨⟨Gg,fE⟩,hN,h9,F9⟩:=ya hN h8 F8 mL.1 0 (.int .u8 29);replace o:=zh oo;clear oo;have oo:=zS o.q hN.q.hb 3 (.slice (some ⟨w7.heap.size,0,none⟩) 1 1);obtain⟨⟨PK,PB⟩,hN,mR,mi⟩:=ya hN h9 F9 mL.1 3 (.slice (some ⟨w7.heap.size,0,none⟩) 1 1);replace o:=zh oo;clear oo;have rN:=hN.q.hb;have dh:=mi.q.b.size;go_wp2_with fail;have hS:=jh rN;have hd:=ko mR;replace hN:=zh (hN.q.rf (mR.q.rf hd));replace o:=zh (zm o.q hd);replace mi:=zh (mi.q.trans (mR.q.rf hd));replace mR:=zh (mR.q.below hd);clear hd;refine LodeX.xC (RR:=jX (w.heap.size)) (Xp:=λ_ _=>False) [(0,0),(1,1),(2,0),(3,2),(4,2),(5,2),(6,0),(7,3)] ?_;refine LodeX.xt ?_;refine LodeX.callX λK hK=>?_
  go_simp;refine ye hr (yX hR.q.block mR) mi ?_;clear hr;intro rr Hu wc mc hc Fc fc hr;have ak:=qz mR hc fc;replace hN:=zh (hN.q.rf fc.q);replace o:=zh (zx o.q mR.q fc.q);refine⟨hN.q.hb.trans rN.symm,hK _ _ ?_⟩;clear hK K hS
  try simp only[Act.put,yh,yf,yg]
  refine LodeX.callX λK hK=>?_
  go_simp;have hA:=zf wc (.cells #[.int .i64 rr] 3 (0,0));refine⟨hA.block _ (gtA hN.q.hb),hK _ _ ?_⟩;clear hK K
  try simp only[Act.put,yh,yf,yg]
  refine LodeX.callX λK hK=>?_
  replace hN:=zh (hN.q.rf (hc.q.rf hA));replace o:=zh (zm o.q hA);replace Fc:=zh (Fc.q.trans (hc.q.rf hA));replace hc:=zh (hc.q.below hA);refine yE _ _ rfl (by rfl) o.q (by rfl) (zd (zk wc _) 0) rfl rfl (by first|omega|(simp;omega)|simp) (by have:=Fc.q.b.size;omega) ?_;intro g' cap' wd mC mA mJ;obtain⟨⟨fz,cz⟩,hq,v11,c11,Su,Cp,nS,mX,ms,o'⟩:=kI (ys:=[rr]) hc hN o Fc mL mC mA mJ;rw[Su];refine⟨hq,hK _ _ ?_⟩;replace hN:=nS;replace o:=o';subst Cp
  try simp only[pQ,pV,pH,pM,Nat.zero_add,Nat.reduceAdd] at hN mX ms o
  clear hK K mC mA mJ Su hq nS o' rN dh
  try simp only[Act.put,yh,yf,yg]
  refine LodeX.xt ?_;refine LodeX.yG rfl rfl (λV hV=>?_);cases hV;go_simp;refine LodeX.yL ?_;go_wp2_with fail;have mW:=hr;clear hr;refine yK mW mX hl ms (λfC WL mh mx sZ hr=>?_) (λfC mh mx sZ hr=>?_) <;> clear mW <;> replace hN:=zh (hN.q.rf sZ.q)
  ·replace o:=zh (zx o.q mX.q sZ.q);have aZ:=hN.q.hb;have Re:=mx.q.b.size;go_wp2_with fail;have hS:=jh aZ;have hd:=ko mh;replace hN:=zh (hN.q.rf (mh.q.rf hd));replace o:=zh (zm o.q hd);replace mx:=zh (mx.q.trans (mh.q.rf hd));replace mh:=zh (mh.q.below hd);clear hd;refine LodeX.xC (RR:=jX (w.heap.size)) (Xp:=λ_ _=>False) [(0,0),(1,1),(2,0),(3,2),(4,2),(5,2),(6,0),(7,3)] ?_;refine LodeX.xt ?_;refine LodeX.callX λK hK=>?_
   go_simp;refine ye hr (yX hR.q.els mh) mx ?_;clear hr;intro rz gn wc mc hc Fc fc hr;have Ab:=qz mh hc fc;replace hN:=zh (hN.q.rf fc.q);replace o:=zh (zx o.q mh.q fc.q);refine⟨hN.q.hb.trans aZ.symm,hK _ _ ?_⟩;clear hK K hS
   try simp only[Act.put,yh,yf,yg]
   refine LodeX.callX λK hK=>?_
   go_simp;have hA:=zf wc (.cells #[.int .i64 rz] 3 (0,0));refine⟨hA.block _ (gtA hN.q.hb),hK _ _ ?_⟩;clear hK K
   try simp only[Act.put,yh,yf,yg]
   refine LodeX.callX λK hK=>?_
   replace hN:=zh (hN.q.rf (hc.q.rf hA));replace o:=zh (zm o.q hA);replace Fc:=zh (Fc.q.trans (hc.q.rf hA));replace hc:=zh (hc.q.below hA);refine yE _ _ rfl (by rfl) o.q (by rfl) (zd (zk wc _) 0) rfl rfl (by first|omega|(simp;omega)|simp) (by have:=Fc.q.b.size;omega) ?_;intro g' cap' wd mC mA mJ;obtain⟨⟨fz,cz⟩,hq,CE,gv,Mx,PG,nS,nN,ng,o'⟩:=kI (ys:=[rz]) hc hN o Fc mL mC mA mJ;rw[Mx];refine⟨hq,hK _ _ ?_⟩;replace hN:=nS;replace o:=o';subst PG
   try simp only[pQ,pV,pH,pM,Nat.zero_add,Nat.reduceAdd] at hN nN ng o
   clear hK K mC mA mJ Mx hq nS o' aZ Re
   try simp only[Act.put,yh,yf,yg]
   refine LodeX.xt ?_;refine LodeX.yG rfl rfl (λV hV=>?_);cases hV;go_simp;refine LodeX.yL ?_;obtain⟨nN,hk⟩:=jY nN o hG.q;obtain⟨d0,d1,d2,d3,d4,_⟩:=hN.q.cells;go_wp2_with fail;refine zU hr nN ng hk λW h F=>?_
   go_wp2;go_ret;exact⟨rfl,h,F⟩
  ·replace o:=zh (zx o.q mX.q sZ.q);obtain⟨mh,hk⟩:=jY mh o hG.q;obtain⟨d0,d1,d2,d3,d4,_⟩:=hN.q.cells;go_wp2_with fail;refine zU hr mh mx hk λW h F=>?_
   go_wp2;go_ret;exact⟨rfl,h,F⟩
 go_wp2_with fail;have mW:=hr;clear hr;refine yK mW h6 hl F6 (λw7 Dy h7 F7 f7 hr=>?_) (λw7 h7 F7 f7 hr=>?_) <;> clear mW <;> replace hN:=zh (hN.q.rf f7.q)
 ·go_wp2_with fail;refine ye hr (yX hR.q.expr h7) F7 ?_;clear hr;intro x8 s8 w8 m8 h8 F8 f8 hr;replace hN:=zh (hN.q.rf f8.q);obtain⟨hN,h9,F9,o⟩:=uF hN h8 F8 [x8] #[.int .i64 x8] 1;have oo:=zS o.q hN.q.hb 0 (.int .u8 30);obtain⟨⟨PK,PB⟩,hN,mR,mi⟩:=ya hN h9 F9 mL.1 0 (.int .u8 30);replace o:=zh oo;clear oo;have oo:=zS o.q hN.q.hb 3 (.slice (some ⟨w8.heap.size,0,none⟩) 1 1);obtain⟨⟨eL,eJ⟩,hN,mX,ms⟩:=ya hN mR mi mL.1 3 (.slice (some ⟨w8.heap.size,0,none⟩) 1 1);replace o:=zh oo;clear oo;have bO:=hN.q.hb;have FV:=ms.q.b.size;go_wp2_with fail;have hS:=jh bO;have hd:=ko mX;replace hN:=zh (hN.q.rf (mX.q.rf hd));replace o:=zh (zm o.q hd);replace ms:=zh (ms.q.trans (mX.q.rf hd));replace mX:=zh (mX.q.below hd);clear hd;refine LodeX.xC (RR:=jX (w.heap.size)) (Xp:=λ_ _=>False) [(0,0),(1,1),(2,0),(3,2),(4,2),(5,2),(6,0),(7,3)] ?_;refine LodeX.xt ?_;refine LodeX.callX λK hK=>?_
  go_simp;refine ye hr (yX hR.q.block mX) ms ?_;clear hr;intro aV Ap wc mc hc Fc fc hr;have gY:=qz mX hc fc;replace hN:=zh (hN.q.rf fc.q);replace o:=zh (zx o.q mX.q fc.q);refine⟨hN.q.hb.trans bO.symm,hK _ _ ?_⟩;clear hK K hS
  try simp only[Act.put,yh,yf,yg]
  refine LodeX.callX λK hK=>?_
  go_simp;have hA:=zf wc (.cells #[.int .i64 aV] 3 (0,0));refine⟨hA.block _ (gtA hN.q.hb),hK _ _ ?_⟩;clear hK K
  try simp only[Act.put,yh,yf,yg]
  refine LodeX.callX λK hK=>?_
  replace hN:=zh (hN.q.rf (hc.q.rf hA));replace o:=zh (zm o.q hA);replace Fc:=zh (Fc.q.trans (hc.q.rf hA));replace hc:=zh (hc.q.below hA);refine yE _ _ rfl (by rfl) o.q (by rfl) (zd (zk wc _) 0) rfl rfl (by first|omega|(simp;omega)|simp) (by have:=Fc.q.b.size;omega) ?_;intro g' cap' wd mC mA mJ;obtain⟨⟨fz,cz⟩,hq,CD,c12,dj,Cq,nS,mh,mx,o'⟩:=kI (ys:=[aV]) hc hN o Fc mL mC mA mJ;rw[dj];refine⟨hq,hK _ _ ?_⟩;replace hN:=nS;replace o:=o';subst Cq
  try simp only[pQ,pV,pH,pM,Nat.zero_add,Nat.reduceAdd] at hN mh mx o
  clear hK K mC mA mJ dj hq nS o' bO FV
  try simp only[Act.put,yh,yf,yg]
  refine LodeX.xt ?_;refine LodeX.yG rfl rfl (λV hV=>?_);cases hV;go_simp;refine LodeX.yL ?_;obtain⟨mh,hk⟩:=jY mh o hG.q;obtain⟨d0,d1,d2,d3,d4,_⟩:=hN.q.cells;go_wp2_with fail;refine zU hr mh mx hk λW h F=>?_
  go_wp2;go_ret;exact⟨rfl,h,F⟩
 go_wp2_with fail;have mW:=hr;clear hr;refine yK mW h7 hl F7 (λw8 Lw h8 F8 f8 hr=>?_) (λw8 h8 F8 f8 hr=>?_) <;> clear mW <;> replace hN:=zh (hN.q.rf f8.q)
 ·go_wp2_with fail;refine ye hr (yX hR.q.expr h8) F8 ?_;clear hr;intro x9 s9 w9 m9 h9 F9 f9 hr;replace hN:=zh (hN.q.rf f9.q);obtain⟨hN,mR,mi,o⟩:=uF hN h9 F9 [x9] #[.int .i64 x9] 1;have oo:=zS o.q hN.q.hb 0 (.int .u8 31);obtain⟨⟨eL,eJ⟩,hN,mX,ms⟩:=ya hN mR mi mL.1 0 (.int .u8 31);replace o:=zh oo;clear oo;have oo:=zS o.q hN.q.hb 3 (.slice (some ⟨w9.heap.size,0,none⟩) 1 1);obtain⟨⟨PL,PC⟩,hN,mh,mx⟩:=ya hN mX ms mL.1 3 (.slice (some ⟨w9.heap.size,0,none⟩) 1 1);replace o:=zh oo;clear oo;go_wp2_with fail;refine ye hr (zJ mh hl _) mx ?_;clear hr;intro rz gn cn Mp nN ng ru hr;replace hN:=zh (hN.q.rf ru.q);replace o:=zh (zx o.q mh.q ru.q);have Ph:=hN.q.hb;have FX:=ng.q.b.size;go_wp2_with fail;have hS:=jh Ph;have hd:=ko nN;replace hN:=zh (hN.q.rf (nN.q.rf hd));replace o:=zh (zm o.q hd);replace ng:=zh (ng.q.trans (nN.q.rf hd));replace nN:=zh (nN.q.below hd);clear hd;refine LodeX.xC (RR:=jX (w.heap.size)) (Xp:=λ_ _=>False) [(0,0),(1,1),(2,0),(3,2),(4,2),(5,2),(6,0),(7,3)] ?_;refine LodeX.xt ?_;refine LodeX.callX λK hK=>?_
  go_simp;refine ye hr (yX TG.q nN) ng ?_;clear hr;intro eG Sd wc mc hc Fc fc hr;have Iy:=qz nN hc fc;replace hN:=zh (hN.q.rf fc.q);replace o:=zh (zx o.q nN.q fc.q);refine⟨hN.q.hb.trans Ph.symm,hK _ _ ?_⟩;clear hK K hS
  try simp only[Act.put,yh,yf,yg]
  refine LodeX.callX λK hK=>?_
  go_simp;have hA:=zf wc (.cells #[.int .i64 eG] 3 (0,0));refine⟨hA.block _ (gtA hN.q.hb),hK _ _ ?_⟩;clear hK K
  try simp only[Act.put,yh,yf,yg]
  refine LodeX.callX λK hK=>?_
  replace hN:=zh (hN.q.rf (hc.q.rf hA));replace o:=zh (zm o.q hA);replace Fc:=zh (Fc.q.trans (hc.q.rf hA));replace hc:=zh (hc.q.below hA);refine yE _ _ rfl (by rfl) o.q (by rfl) (zd (zk wc _) 0) rfl rfl (by first|omega|(simp;omega)|simp) (by have:=Fc.q.b.size;omega) ?_;intro g' cap' wd mC mA mJ;obtain⟨⟨fz,cz⟩,hq,v14,c14,Sv,Cr,nS,nY,rQ,o'⟩:=kI (ys:=[eG]) hc hN o Fc mL mC mA mJ;rw[Sv];refine⟨hq,hK _ _ ?_⟩;replace hN:=nS;replace o:=o';subst Cr
  try simp only[pQ,pV,pH,pM,Nat.zero_add,Nat.reduceAdd] at hN nY rQ o
  clear hK K mC mA mJ Sv hq nS o' Ph FX
  try simp only[Act.put,yh,yf,yg]
  refine LodeX.xt ?_;refine LodeX.yG rfl rfl (λV hV=>?_);cases hV;go_simp;refine LodeX.yL ?_;have mK:zeA E base pb (w.heap.size) G (Jv R) (λl=>zI [125] >>= λ_=>yv 31 [] 0 x1 l) 31 [] 0 x1 w (a,st') _:=⟨_,_,_,_,hr.q,by simp;omega,hN.q,o.q,nY.q,rQ.q⟩;replace mK:=zh mK;clear hr hN o;go_wp2;go_loopw [] (λwr=>zeA E base pb (w.heap.size) G (Jv R) (λl=>zI [125] >>= λ_=>yv 31 [] 0 x1 l) 31 [] 0 x1 w (a,st') wr) (λwr=>E.tz.length+1-qj pb wr)
  case atStart=>exact mK.q
  case round=>
   obtain⟨s,acc,k,kv,hr,hk,hN,o,ri,am⟩:=hrel;obtain⟨p3,c3,rfl⟩:=(KS.own o).form;replace ri:=zh ri;replace am:=zh am;replace hN:=zh hN;replace o:=zh o;have rp:=ri.q.qj;cases k with
   |zero=>cases hr
   |succ k=>
    unfold qN at hr;simp only[kg,Zo,uH] at hr;replace hr:=zh hr;go_wp2_with fail;have mW:=hr;clear hr;refine yK mW ri hl am (λw51 dS nU sA tu hr=>?_) (λw51 nU sA tu hr=>?_) <;> clear mW <;> replace hN:=zh (hN.q.rf tu.q)
    ·replace o:=zh (zx o.q ri.q tu.q);have mD:=qI dS;have GA:s.up.n=s.n+1:=rfl;have rO:=hN.q.hb;have bl:=sA.q.b.size;go_wp2_with fail;have hS:=jh rO;have hd:=ko nU;replace hN:=zh (hN.q.rf (nU.q.rf hd));replace o:=zh (zm o.q hd);replace sA:=zh (sA.q.trans (nU.q.rf hd));replace nU:=zh (nU.q.below hd);clear hd;refine LodeX.xC (RR:=jX (w.heap.size)) (Xp:=λ_ _=>False) [(0,0),(1,1),(2,0),(3,2),(4,2),(5,2),(6,0),(7,3)] ?_;refine LodeX.xt ?_;refine LodeX.callX λK hK=>?_
     go_simp;refine ye hr (yX TG.q nU) sA ?_;clear hr;intro bv Sf wc mc hc Fc fc hr;have Bx:=qz nU hc fc;replace hN:=zh (hN.q.rf fc.q);replace o:=zh (zx o.q nU.q fc.q);refine⟨hN.q.hb.trans rO.symm,hK _ _ ?_⟩;clear hK K hS
     try simp only[Act.put,yh,yf,yg]
     refine LodeX.callX λK hK=>?_
     go_simp;have hA:=zf wc (.cells #[.int .i64 bv] 3 (0,0));refine⟨hA.block _ (gtA hN.q.hb),hK _ _ ?_⟩;clear hK K
     try simp only[Act.put,yh,yf,yg]
     refine LodeX.callX λK hK=>?_
     replace hN:=zh (hN.q.rf (hc.q.rf hA));replace o:=zh (zm o.q hA);replace Fc:=zh (Fc.q.trans (hc.q.rf hA));replace hc:=zh (hc.q.below hA);refine yE _ _ rfl (by rfl) o.q (by rfl) (zd (zk wc _) 0) rfl rfl (by first|omega|(simp;omega)|simp) (by have:=Fc.q.b.size;omega) ?_;intro g' cap' wd mC mA mJ;obtain⟨⟨fz,cz⟩,hq,CF,BC,dl,bJ,nS,aQ,dA,o'⟩:=kI (ys:=[bv]) hc hN o Fc mL mC mA mJ;rw[dl];refine⟨hq,hK _ _ ?_⟩;replace hN:=nS;replace o:=o';subst bJ
     try simp only[pQ,pV,pH,pM,Nat.zero_add,Nat.reduceAdd] at hN aQ dA o
     clear hK K mC mA mJ dl hq nS o' rO bl
     try simp only[Act.put,yh,yf,yg]
     refine LodeX.xt ?_;refine LodeX.yG rfl rfl (λV hV=>?_);cases hV;go_simp;refine LodeX.yL ?_;have rc:(acc ++ [bv]).length+k<=200000:=by simp;omega
     have Nh:=aQ.q.qj;go_wp2;go_roundw
     case rel=>exact⟨_,_,_,_,hr.q,rc,hN.q,o.q,aQ.q,dA.q⟩
     case measure=>omega
    ·replace o:=zh (zx o.q ri.q tu.q);go_wp2_with fail;refine ye hr (zJ nU hl _) sA ?_;clear hr;intro CJ CC CI Bu tT eH bK hr;replace hN:=zh (hN.q.rf bK.q);replace o:=zh (zx o.q nU.q bK.q);obtain⟨tT,hk⟩:=jY tT o hG.q;obtain⟨d0,d1,d2,d3,d4,_⟩:=hN.q.cells;go_wp2_with fail;refine zU hr tT eH hk λW h F=>?_
     go_wp2;go_ret;exact⟨rfl,h,F⟩
 go_wp2_with fail;have mW:=hr;clear hr;refine yK mW h8 hl F8 (λw9 hi9 h9 F9 f9 hr=>?_) (λw9 h9 F9 f9 hr=>?_) <;> clear mW <;> replace hN:=zh (hN.q.rf f9.q)
 ·go_wp2_with fail;refine zaC hr (hH.q) h9 F9 ?_;clear hr;intro rG ec nB OV fA mR mi nI eE l10 hr;obtain⟨Ao,c10,rfl⟩:=(KS.own eE.q).form;replace hN:=zh (hN.q.rf nI.q);have o:=zh (xD eE.q F9.q.b.size);have oo:=zS o.q hN.q.hb 0 (.int .u8 33);obtain⟨⟨eL,eJ⟩,hN,mX,ms⟩:=ya hN mR mi mL.1 0 (.int .u8 33);replace o:=zh oo;clear oo;have oo:=zS o.q hN.q.hb 3 (.slice Ao rG.length c10);obtain⟨⟨PL,PC⟩,hN,mh,mx⟩:=ya hN mX ms mL.1 3 (.slice Ao rG.length c10);replace o:=zh oo;clear oo;have aZ:=hN.q.hb;have Re:=mx.q.b.size;go_wp2_with fail;have hS:=jh aZ;have hd:=ko mh;replace hN:=zh (hN.q.rf (mh.q.rf hd));replace o:=zh (zm o.q hd);replace mx:=zh (mx.q.trans (mh.q.rf hd));replace mh:=zh (mh.q.below hd);clear hd;refine LodeX.xC (RR:=jX (w.heap.size)) (Xp:=λ_ _=>False) [(0,0),(1,1),(2,0),(3,2),(4,2),(5,2),(6,0),(7,3)] ?_;refine LodeX.xt ?_;refine LodeX.callX λK hK=>?_
  go_simp;refine ye hr (yX hR.q.block mh) mx ?_;clear hr;intro rz gn wc mc hc Fc fc hr;have Ab:=qz mh hc fc;replace hN:=zh (hN.q.rf fc.q);replace o:=zh (zx o.q mh.q fc.q);refine⟨hN.q.hb.trans aZ.symm,hK _ _ ?_⟩;clear hK K hS
  try simp only[Act.put,yh,yf,yg]
  refine LodeX.callX λK hK=>?_
  go_simp;have hA:=zf wc (.cells #[.int .i64 rz] 3 (0,0));refine⟨hA.block _ (gtA hN.q.hb),hK _ _ ?_⟩;clear hK K
  try simp only[Act.put,yh,yf,yg]
  refine LodeX.callX λK hK=>?_
  replace hN:=zh (hN.q.rf (hc.q.rf hA));replace o:=zh (zm o.q hA);replace Fc:=zh (Fc.q.trans (hc.q.rf hA));replace hc:=zh (hc.q.below hA);refine yE _ _ rfl (by rfl) o.q (by rfl) (zd (zk wc _) 0) rfl rfl (by first|omega|(simp;omega)|simp) (by have:=Fc.q.b.size;omega) ?_;intro g' cap' wd mC mA mJ;obtain⟨⟨fz,cz⟩,hq,CE,gv,Mx,PG,nS,nN,ng,o'⟩:=kI (ys:=[rz]) hc hN o Fc mL mC mA mJ;rw[Mx];refine⟨hq,hK _ _ ?_⟩;replace hN:=nS;replace o:=o';subst PG
  try simp only[pQ,pV,pH,pM,Nat.zero_add,Nat.reduceAdd] at hN nN ng o
  clear hK K mC mA mJ Mx hq nS o' aZ Re
  try simp only[Act.put,yh,yf,yg]
  refine LodeX.xt ?_;refine LodeX.yG rfl rfl (λV hV=>?_);cases hV;go_simp;refine LodeX.yL ?_;obtain⟨nN,hk⟩:=jY nN o hG.q;obtain⟨d0,d1,d2,d3,d4,_⟩:=hN.q.cells;go_wp2_with fail;refine zU hr nN ng hk λW h F=>?_
  go_wp2;go_ret;exact⟨rfl,h,F⟩
 go_wp2_with fail;have mW:=hr;clear hr;refine yK mW h9 hl F9 (λnB hi10 mR mi nI hr=>?_) (λnB mR mi nI hr=>?_) <;> clear mW <;> replace hN:=zh (hN.q.rf nI.q)
 ·obtain⟨⟨fz,cz⟩,hN,mX,ms⟩:=ya hN mR mi mL.1 0 (.int .u8 34);go_wp2_with fail;refine ye hr (yX hR.q.block mX) ms ?_;clear hr;intro aV Ap fC Fe mh mx sZ hr;replace hN:=zh (hN.q.rf sZ.q);go_wp2_with fail;refine ye hr (zJ mh hl _) mx ?_;clear hr;intro rz gn cn Mp nN ng ru hr;replace hN:=zh (hN.q.rf ru.q);go_wp2_with fail;refine ye hr (xh nN hl 1) ng ?_;clear hr;intro eG Sd ee Bt nY rQ cE hr;replace hN:=zh (hN.q.rf cE.q);obtain⟨⟨fz,cz⟩,hN,rA,sI⟩:=ya hN nY rQ mL.1 1 (.string ⟨eG.toArray⟩);go_wp2_with fail;refine ye hr (yX hR.q.block rA) sI ?_;clear hr;intro Nw Fx MB m16 rM sJ co hr;replace hN:=zh (hN.q.rf co.q);obtain⟨hN,td,bI,o⟩:=uF hN rM sJ [aV,Nw] #[.int .i64 aV,.int .i64 Nw] 2;have oo:=zS o.q hN.q.hb 3 (.slice (some ⟨MB.heap.size,0,none⟩) 2 2);obtain⟨⟨fz18,cz18⟩,hN,NA,Si⟩:=ya hN td bI mL.1 3 (.slice (some ⟨MB.heap.size,0,none⟩) 2 2);replace o:=zh oo;clear oo;obtain⟨NA,hk⟩:=jY NA o hG.q;obtain⟨d0,d1,d2,d3,d4,_⟩:=hN.q.cells;go_wp2_with fail;refine zU hr NA Si hk λW h F=>?_
  go_wp2;go_ret;exact⟨rfl,h,F⟩
 go_wp2_with fail;have mW:=hr;clear hr;refine yK mW mR hl mi (λal hi11 mX ms rH hr=>?_) (λal mX ms rH hr=>?_) <;> clear mW <;> replace hN:=zh (hN.q.rf rH.q)
 ·obtain⟨⟨fz,cz⟩,hN,mh,mx⟩:=ya hN mX ms mL.1 0 (.int .u8 36);go_wp2_with fail;refine ye hr (yX hR.q.expr mh) mx ?_;clear hr;intro rz gn cn Mp nN ng ru hr;replace hN:=zh (hN.q.rf ru.q);go_wp2_with fail;refine ye hr (zJ nN hl _) ng ?_;clear hr;intro eG Sd ee Bt nY rQ cE hr;replace hN:=zh (hN.q.rf cE.q);go_wp2_with fail;refine ye hr (xh nY hl 1) rQ ?_;clear hr;intro bu Se eF m15 rA sI aW hr;replace hN:=zh (hN.q.rf aW.q);obtain⟨⟨fz,cz⟩,hN,rM,sJ⟩:=ya hN rA sI mL.1 1 (.string ⟨bu.toArray⟩);go_wp2_with fail;refine ye hr (yX hR.q.block rM) sJ ?_;clear hr;intro fD CB CH m17 td bI PJ hr;replace hN:=zh (hN.q.rf PJ.q);go_wp2_with fail;refine ye hr (zJ td hl _) bI ?_;clear hr;intro x18 s18 w18 m18 NA Si BF hr;replace hN:=zh (hN.q.rf BF.q);go_wp2_with fail;refine ye hr (yX hR.q.block NA) Si ?_;clear hr;intro Au s19 GF m19 TB CK BG hr;replace hN:=zh (hN.q.rf BG.q);obtain⟨hN,sQ,bw,o⟩:=uF hN TB CK [rz,fD,Au] #[.int .i64 rz,.int .i64 fD,.int .i64 Au] 3;have oo:=zS o.q hN.q.hb 3 (.slice (some ⟨GF.heap.size,0,none⟩) 3 3);obtain⟨⟨Cy,CW⟩,hN,aX,eh⟩:=ya hN sQ bw mL.1 3 (.slice (some ⟨GF.heap.size,0,none⟩) 3 3);replace o:=zh oo;clear oo;obtain⟨aX,hk⟩:=jY aX o hG.q;obtain⟨d0,d1,d2,d3,d4,_⟩:=hN.q.cells;go_wp2_with fail;refine zU hr aX eh hk λW h F=>?_
  go_wp2;go_ret;exact⟨rfl,h,F⟩
 go_wp2_with fail;have mW:=hr;clear hr;refine yK mW mX hl ms (λfC WL mh mx sZ hr=>?_) (λfC mh mx sZ hr=>?_) <;> clear mW <;> replace hN:=zh (hN.q.rf sZ.q)
 ·obtain⟨⟨fz,cz⟩,hN,nN,ng⟩:=ya hN mh mx mL.1 0 (.int .u8 35);go_wp2_with fail;refine ye hr (zJ nN hl _) ng ?_;clear hr;intro eG Sd ee Bt nY rQ cE hr;replace hN:=zh (hN.q.rf cE.q);have mK:zou E base pb w.heap.size G R x1 w (a,st') (.bool true) ee:=⟨Sd,[],E.tz.length+1,_,true,hr.q,rfl,by simp;omega,hN.q,jT _ _ rfl,nY.q.gnil,rQ.q⟩;replace mK:=zh mK;clear hr hN;go_wp2;go_loopw [10] (λv wr=>zou E base pb w.heap.size G R x1 w (a,st') v wr) (λv wr=>2*(E.tz.length+1-qj pb wr)+mB v)
  case atStart=>exact mK.q
  case round=>
   obtain⟨s,acc,k,kv,m,hr,rfl,hk,hN,o,ri,am⟩:=hrel;obtain⟨p3,c3,rfl⟩:=(KS.own o).form;replace ri:=zh ri;replace am:=zh am;replace hN:=zh hN;replace o:=zh o;have rp:=ri.q.qj;cases m with
   |false=>
    replace hr:Hid ((zI [125] >>= λ_=>yv 35 [] 0 x1 acc) E s=some (a,st')):=zh hr;go_wp2_with fail;refine ye hr (zJ ri hl _) am ?_;clear hr;intro CJ CC CI Bu tT eH bK hr;replace hN:=zh (hN.q.rf bK.q);replace o:=zh (zx o.q ri.q bK.q);obtain⟨tT,hk⟩:=jY tT o hG.q;obtain⟨d0,d1,d2,d3,d4,_⟩:=hN.q.cells;go_wp2_with fail;refine zU hr tT eH hk λW h F=>?_
    go_wp2;go_ret;exact⟨rfl,h,F⟩
   |true=>
    cases k with
    |zero=>cases hr
    |succ k=>
     replace hr:(uZ R (k+1) acc >>= λl=>zI [125] >>= λ_=>yv 35 [] 0 x1 l) E s=some (a,st'):=hr;unfold uZ at hr;simp only[kg,Zo,uH] at hr;replace hr:=zh hr;go_wp2_with fail;refine ye hr (XK ri _) am ?_;clear hr;intro x51 s51 w51 m51 nU sA tu hr;replace hN:=zh (hN.q.rf tu.q);replace o:=zh (zx o.q ri.q tu.q);have n51:=qz ri nU tu;have rO:=hN.q.hb;have bl:=sA.q.b.size;go_wp2_with fail;have hS:=jh rO;have hd:=ko nU;replace hN:=zh (hN.q.rf (nU.q.rf hd));replace o:=zh (zm o.q hd);replace sA:=zh (sA.q.trans (nU.q.rf hd));replace nU:=zh (nU.q.below hd);clear hd;refine LodeX.xC (RR:=jX (w.heap.size)) (Xp:=λ_ _=>False) [(0,0),(1,1),(2,0),(3,2),(4,2),(5,2),(6,0),(7,3)] ?_;refine LodeX.xt ?_;refine LodeX.callX λK hK=>?_
     go_simp;refine ye hr (yX Db.q nU) sA ?_;clear hr;intro bv Sf wc mc hc Fc fc hr;have Bx:=qz nU hc fc;replace hN:=zh (hN.q.rf fc.q);replace o:=zh (zx o.q nU.q fc.q);refine⟨hN.q.hb.trans rO.symm,hK _ _ ?_⟩;clear hK K hS
     try simp only[Act.put,yh,yf,yg]
     refine LodeX.callX λK hK=>?_
     go_simp;have hA:=zf wc (.cells #[.int .i64 bv] 3 (0,0));refine⟨hA.block _ (gtA hN.q.hb),hK _ _ ?_⟩;clear hK K
     try simp only[Act.put,yh,yf,yg]
     refine LodeX.callX λK hK=>?_
     replace hN:=zh (hN.q.rf (hc.q.rf hA));replace o:=zh (zm o.q hA);replace Fc:=zh (Fc.q.trans (hc.q.rf hA));replace hc:=zh (hc.q.below hA);refine yE _ _ rfl (by rfl) o.q (by rfl) (zd (zk wc _) 0) rfl rfl (by first|omega|(simp;omega)|simp) (by have:=Fc.q.b.size;omega) ?_;intro g' cap' wd mC mA mJ;obtain⟨⟨fz,cz⟩,hq,CF,BC,dl,bJ,nS,aQ,dA,o'⟩:=kI (ys:=[bv]) hc hN o Fc mL mC mA mJ;rw[dl];refine⟨hq,hK _ _ ?_⟩;replace hN:=nS;replace o:=o';subst bJ
     try simp only[pQ,pV,pH,pM,Nat.zero_add,Nat.reduceAdd] at hN aQ dA o
     clear hK K mC mA mJ dl hq nS o' rO bl
     try simp only[Act.put,yh,yf,yg]
     refine LodeX.xt ?_;refine LodeX.yG rfl rfl (λV hV=>?_);cases hV;go_simp;refine LodeX.yL ?_;have rc:(acc ++ [bv]).length+k<=200000:=by simp;omega
     have hn52:=aQ.q.qj;have tH:mB (.bool true)=1:=rfl;have RE:mB (.bool false)=0:=rfl;cases x51 with
     |true=>
      replace hr:=rtt hr;go_wp2;go_roundw
      case rel=>exact⟨_,_,0,_,false,hr.q,rfl,by omega,hN.q,o.q,aQ.q,dA.q⟩
      case measure=>omega
     |false=>
      replace hr:=rff hr;go_wp2_with fail;have mW:=hr;clear hr;refine yK mW aQ hl dA (λCI Dw tT eH bK hr=>?_) (λCI tT eH bK hr=>?_) <;> clear mW <;> replace hN:=zh (hN.q.rf bK.q)
      ·replace o:=zh (zx o.q aQ.q bK.q);have mD:=qI Dw;have u53:Sf.up.n=Sf.n+1:=rfl;have Ea:=tT.q.qj;go_wp2;go_roundw
       case rel=>exact⟨_,_,k,_,true,hr.q,rfl,rc,hN.q,o.q,tT.q,eH.q⟩
       case measure=>omega
      ·replace o:=zh (zx o.q aQ.q bK.q);have Ea:=tT.q.qj;go_wp2;go_roundw
       case rel=>exact⟨_,_,0,_,false,hr.q,rfl,by omega,hN.q,o.q,tT.q,eH.q⟩
       case measure=>omega
 go_wp2_with fail;have mW:=hr;clear hr;refine yK mW mh hl mx (λcn hi13 nN ng ru hr=>?_) (λcn nN ng ru hr=>?_) <;> clear mW <;> replace hN:=zh (hN.q.rf ru.q)
 ·go_wp2_with fail;refine ye hr (yX hR.q.type nN) ng ?_;clear hr;intro eG Sd ee Bt nY rQ cE hr;replace hN:=zh (hN.q.rf cE.q);obtain⟨hN,rA,sI,o⟩:=uF hN nY rQ [eG] #[.int .i64 eG] 1;have oo:=zS o.q hN.q.hb 0 (.int .u8 40);obtain⟨⟨fz16,cz16⟩,hN,rM,sJ⟩:=ya hN rA sI mL.1 0 (.int .u8 40);replace o:=zh oo;clear oo;have oo:=zS o.q hN.q.hb 3 (.slice (some ⟨ee.heap.size,0,none⟩) 1 1);obtain⟨⟨fz17,cz17⟩,hN,td,bI⟩:=ya hN rM sJ mL.1 3 (.slice (some ⟨ee.heap.size,0,none⟩) 1 1);replace o:=zh oo;clear oo;go_wp2_with fail;refine ye hr (zJ td hl _) bI ?_;clear hr;intro x18 s18 w18 m18 NA Si BF hr;replace hN:=zh (hN.q.rf BF.q);replace o:=zh (zx o.q td.q BF.q);go_wp2_with fail;refine ye hr (xh NA hl 3) Si ?_;clear hr;intro Au s19 GF m19 TB CK BG hr;replace hN:=zh (hN.q.rf BG.q);replace o:=zh (zx o.q NA.q BG.q);have nL:=KQ hE.q m19.q;go_wp2_with fail;refine (Zu nL _).mono ?_;rintro e wn ⟨rfl,av⟩;replace hN:=zh (hN.q.rf (TB.q.rf av));replace o:=zh (zm o.q av);have bw:=zh (CK.q.trans (TB.q.rf av));have sQ:=zh (TB.q.below av);have oo:=zS o.q hN.q.hb 2 (.int .i64 (ym Au:Nat));obtain⟨⟨Cy,CW⟩,hN,aX,eh⟩:=ya hN sQ bw mL.1 2 (.int .i64 (ym Au:Nat));replace o:=zh oo;clear oo;go_wp2_with fail;refine ye hr (zJ aX hl _) eh ?_;clear hr;intro x22 s22 w22 m22 TD F22 Ge hr;replace hN:=zh (hN.q.rf Ge.q);replace o:=zh (zx o.q aX.q Ge.q);obtain⟨TD,hk⟩:=jY TD o hG.q;obtain⟨d0,d1,d2,d3,d4,_⟩:=hN.q.cells;go_wp2_with fail;refine zU hr TD F22 hk λW h F=>?_
  go_wp2;go_ret;exact⟨rfl,h,F⟩
 ·replace hr:Hid (yv 0 [] 0 x1 [] E st.fail=some (a,st')):=zh hr.q;obtain⟨⟨CT,ff3⟩,nY,rQ,Sz⟩:=zna nN ng;replace hN:=zh (hN.q.rf Sz.q);obtain⟨d0,d1,d2,d3,d4,_⟩:=hN.q.cells;go_wp2_with fail;refine zU hr nY rQ ZF λW h F=>?_
  go_wp2;go_ret;exact⟨rfl,h,F⟩
def zfn(hE:∀t∈E.tz,t.kind=3->zaR t.text)(hR:qJ E base pb R):Xn E base pb 313 (zbb R):=by
 have hC:=zh (YQ hE hR);have hB:=zh (Kd hR);intro G w st st' a h0 hr;have hl:=hR.lim;replace hR:=zh hR;unfold zbb at hr
 try simp only[kg,Zo,uH] at hr
 have mL:=h0.bs;have F0:=zh (RF.refl base pb w);replace h0:=zh h0;replace hr:=zh hr;go_enter func313,ntmps313;go_wp2_with fail;refine ye hr (XK h0 _) F0 ?_;clear hr;intro x1 s1 w1 m1 h1 F1 f1 hr;cases x1 with
 |true=>
  replace hr:=rtt hr;go_wp2_with fail;refine ye hr (xl h1) F1 ?_;clear hr;intro x2 s2 w2 m2 h2 F2 f2 hr;go_wp2_with fail;refine zjC (m:=qc R x2) hr (λa st' e=>hC.q G _ _ _ a x2 h2.q e) F2 λW h F=>?_
  go_wp2;go_ret;exact⟨rfl,h,F⟩
 |false=>
  replace hr:=rff hr;go_wp2_with fail;refine zjC hr (yX hB.q h1) F1 λW h F=>?_
  go_wp2;go_ret;exact⟨rfl,h,F⟩
