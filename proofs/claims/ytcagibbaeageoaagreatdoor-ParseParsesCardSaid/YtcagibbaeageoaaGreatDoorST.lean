import Derived.Test.YtcagibbaeageoaaGreatDoorSO
import Derived.Test.YtcagibbaeageoaaGreatDoorSS
set_option maxRecDepth 100000
set_option maxHeartbeats 0
set_option linter.all false
variable{d1 e len n:Nat}{acc:List Int}{m part:Lode.RM Int}{a c:Int}{s w x y:List UInt8}{f:Lode.PM Int}{m2:Nat->Int->Lode.RM Int}{f2:Nat->Int->Lode.PM Int}{l:List Lode.Nd}{p q:Lode.Nd->Bool}{α β:Type}
namespace Lode
section
variable {α β γ:Type} {F L d d1:Nat} {j j1 k k1:Int} {V:List Int} {t:yO} {x:List UInt8} {R:xn} {P:qi}
def zjK(k:Bk 1 R.expr):Bk 3 (Vu R):=Bk.jx λ_=>Bk.tx (by decide) λ_=>Bk.need λ_=>Bk.bind (e:=2) k λ_=>Bk.end_
def znd(H:qe F R P)(t:yO):SK F L 0 0 (200*F+10) V t (Vu R) (KD P):=by
 obtain⟨gd,he,hn,hu,hb,hl,ht,hp,ke,kn,ku,kb,kl,kt,kp⟩:=H;unfold Vu KD;refine SK.placeL λp hp=>SK.tx' λhk u=>?_
 obtain rfl:=hp (by omega);refine SK.need' λ_ u=>?_
 refine SK.bindI (he _ _) gd.expr λx u=>?_
 exact SK.end_ (by decide)
def zkG(k:Bk 1 R.expr)(k2:Bk 1 R.pattern):Bk 3 (Jv R):=Bk.bind (e:=2) k2 λ_=>Bk.jx λ_=>Bk.need λ_=>Bk.bind (e:=1) k λ_=>Bk.end_
def znJ(H:qe F R P)(t:yO):SK F L 1 0 (200*F+10) V t (Jv R) (KF P):=by
 obtain⟨gd,he,hn,hu,hb,hl,ht,hp,ke,kn,ku,kb,kl,kt,kp⟩:=H;unfold Jv KF;refine SK.bindI (hp _ _) gd.pattern λx u=>?_
 refine SK.placeL λp hp=>SK.need' λhw u=>?_
 obtain rfl:=hp (zH hw);refine SK.bindI (he _ _) gd.expr λx u=>?_
 exact SK.end_ (by decide)
def zmX(k:Bk 1 R.expr):Bk 3 (zjF R):=Bk.jx λ_=>Bk.mayIf (Bk.mayIf (Bk.need λ_=>Bk.need λ_=>Bk.bind (e:=2) k λ_=>Bk.end_))
theorem zgy(H:qe F R P):∀(L:Nat) (acc V:List Int) (t:yO),SK F L 1 0 (200*F+10) V t (uZ R L acc) (uj P L acc)
 |0,acc,V,t=>SK.zero (by decide)
 |n+1,acc,V,t=>by
  have ih:=zgy H n;obtain⟨gd,he,hn,hu,hb,hl,ht,hp,ke,kn,ku,kb,kl,kt,kp⟩:=H;unfold uj uZ;refine SK.isL ?_;unfold zjF;simp only[kg,Zo,uH];refine SK.placeL λp hp=>SK.tokR ?_
  refine SK.may (λhw u=>?_) λ_=>?_
  ·obtain rfl:=hp (zH hw);rw[ZJ hw (by decide)];simp only[Bool.false_eq_true,if_false];refine SK.bindI (he _ _) gd.expr λx u=>?_
   refine SK.need' λ_ u=>?_
   refine SK.tx' λhk u=>?_
   refine SK.need' λ_ u=>?_
   refine SK.bindI (he _ _) gd.expr λy u=>?_
   refine SK.endB (λc=>?_) (by intro a ha;simp at ha;rcases ha with rfl|rfl <;> simp) (by decide);exact SK.may (λhw v=>SK.fuel ((ih (acc ++ [c]) _ v).down (by decide) (by decide) (pC _) (λ_ h=>h))) λhw=>SK.pure
  refine SK.may (λhw u=>?_) λ_=>?_
  ·obtain rfl:=hp (zH hw);rw[ZJ hw (by decide)];simp only[Bool.false_eq_true,if_false];refine SK.bindI (he _ _) gd.expr λx u=>?_
   refine SK.need' λ_ u=>?_
   refine SK.bindI (he _ _) gd.expr λy u=>?_
   refine SK.need' λ_ u=>?_
   refine SK.bindI (he _ _) gd.expr λz u=>?_
   refine SK.endB (λc=>?_) (by intro a ha;simp at ha;rcases ha with rfl|rfl|rfl <;> simp) (by decide);exact SK.may (λhw v=>SK.fuel ((ih (acc ++ [c]) _ v).down (by decide) (by decide) (pC _) (λ_ h=>h))) λhw=>SK.pure
  cases hw:xO t [[101,108,115,101]] with
  |true=>
   obtain rfl:=hp (zH hw);simp only[if_true];refine SK.need' λ_ u=>SK.need' λ_ u=>?_
   refine SK.bindI (he _ _) gd.expr λx u=>?_
   exact SK.endB (λc=>SK.pure) (by simp) (by decide)
  |false=>
   simp only[Bool.false_eq_true,if_false];exact SK.stop (LF.need hw λ_=>Bk.need λ_=>Bk.bind (e:=7) ke λ_=>Bk.endB (e:=6) λ_=>Bk.mayIf Bk.pure) (PF.must hw) (by decide) (by omega)
def zla(k:Bk 1 R.expr):Bk 3 (uZ R (n+1) acc):=Bk.isF (Bk.bind (e:=0) (zmX k) λ_=>Bk.mayIf Bk.pure)
def zm6{c:List Int->PM β}:(kD P >>= c)=(zC [123] >>= λ_=>(λE s=>uj P (E.tz.length+1) [] E s:PM (List Int)) >>= λl=>zC [125] >>= λ_=>c l):=by
 unfold kD;exact (ze0 _ _ _).trans (congrArg _ (funext λ_=>(ze0 _ _ _).trans (congrArg _ (funext λl=>(ze0 _ _ _).trans rfl))))
def KW{part:PM Int}{c:List Int->PM β}:(qB part >>= c)=(zC [123] >>= λ_=>jW part >>= λl=>zC [125] >>= λ_=>c l):=by
 unfold qB;simp only[ze0,zn7]
theorem Vx{part:RM Int}{c:Int}:∀(n:Nat) (acc:List Int),qN n part (c :: acc)=(qN n part acc >>= λl=>Pure.pure (c :: l))
 |0,acc=>rfl
 |n+1,acc=>by
  unfold qN;rw[kg];congr 1;funext b;cases b with
  |true=>
   simp only[if_true];rw[kg];congr 1;funext x;exact Vx n (acc ++ [x])
  |false=>rfl
def zdF:vg part (c :: acc)=(vg part acc >>= λl=>Pure.pure (c :: l)):=funext λE=>funext λs=>congrFun (congrFun (Vx (E.tz.length+1) acc) E) s
def zet(p:Int):Bk 1 (qc R p):=Bk.mayIf (Bk.mayIf (Bk.mayIf (Bk.mayIf (Bk.mayIf (Bk.mayIf (Bk.mayIf (Bk.mayIf (Bk.mayIf (Bk.mayIf (Bk.mayIf (Bk.mayIf (Bk.fail λ_=>Bk.end_))))))))))))
def zhv:Bk 1 (zbb R):=Bk.isIf zap
def zmx(H:qe F R P)(hw:xO t [[105,102]]=true):SK F L 0 0 (200*F+40) V t (qc R t.at_) (jz P):=by
 have hl:∀L t,SK F L 1 0 (200*F) [] t _ _:=H.hl;obtain⟨gd,he,hn,hu,hb,_,ht,hp,ke,kn,ku,kb,kl,kt,kp⟩:=H;unfold qc jz
 iterate 4 (refine SK.mayLI (ZJ hw (by decide)) ?_)
 refine SK.mayMust hw λu=>?_
 simp only[if_true];refine SK.bindI (he _ _) gd.expr λx u=>?_
 refine SK.bindI (hb _ _) gd.block λy u=>?_
 refine SK.may (λ_ u=>?_) λ_=>SK.end_ (by decide)
 have e:∀c:Int->PM Int,(YA [[105,102]] >>= λb=>if b=true then (P.branch >>= c) else (P.block >>= c))=((YA [[105,102]] >>= λb=>if b=true then P.branch else P.block) >>= c):=λc=>by simp only[ze0,zn8]
 rw[e];refine SK.bindI (hl _ _) (dd:=0) ?_ λz u=>SK.end_ (by decide)
 intro E s a s' h0 hw h;obtain⟨b,s1,h1,h⟩:=zo h;cases h1;split at h
 ·exact gd.branch h0 hw h
 ·exact gd.block h0 hw h
def zlZ(H:qe F R P)(t:yO):SK F L 0 0 (200*F+50) V t (zbb R) (YA [[105,102]] >>= λb=>if b=true then jz P else vP P):=by
 unfold zbb;refine SK.is2 (λhw=>?_) λ_=>(zev H t).down (by decide) (by decide) (by omega) (λ_ h=>h)
 refine SK.placeL λp hp=>?_
 obtain rfl:=hp (zH hw);exact (zmx H hw).down (by decide) (by decide) (by omega) (λ_ h=>h)
end
section
variable {α β γ:Type} {F L d d1:Nat} {j j1 k k1:Int} {V:List Int} {t:yO} {x:List UInt8} {R:xn} {P:qi}
def zl0(H:qe F R P)(t:yO)(p:Int)(hp:t.kind≠0->p=t.at_):SK F L 0 0 (200*F+60) V t (qc R p) (yo [40] >>= λb=>if b=true then (yo [41] >>= λb=>if b=true then zT 4 [] 0 t.at_ [] else P.expr >>= λx=>zC [41] >>= λ_=>Pure.pure x) else yo [116,114,117,101] >>= λb=>if b=true then zT 3 [] 1 t.at_ [] else yo [102,97,108,115,101] >>= λb=>if b=true then zT 3 [] 0 t.at_ [] else xL P t):=by
 have Lx:=zmx (L:=L) (V:=V) (t:=t) H;have BX:=zhi (L:=L) (V:=[]) H;have khd:Bk 4 (YR R):=zhk H.kt;have Ek:∀t,SK F L 1 0 (200*F+20) [] t _ _:=Xv (λL t=>(znd H t).down (by decide) (by decide) (pC _) (λ_ h=>h)) (VC H.gd) (by omega) (by omega);have Dg:∀t,SK F L 1 0 (200*F+20) [] t _ _:=Xv (λL t=>znJ H t) (zas H.gd) (by omega) (by omega);have kput1:=zjK H.ke;have karm1:=zkG H.ke H.kp;have kput:Bk 3 (Vu R >>= λx=>vg (Vu R) [x]):=Bk.bind (e:=0) (zjK H.ke) λ_=>vX
 have karm:Bk 3 (Jv R >>= λx=>vg (Jv R) [x]):=Bk.bind (e:=0) (zkG H.ke H.kp) λ_=>vX
 have kways:Bk 3 (λE s=>uZ R (E.tz.length+1) [] E s:RM (List Int)):=Bk.loop (m:=λn=>uZ R n []) λ_=>zla H.ke
 have AS:∀t,SK F L 1 0 (200*F+10) [] t _ _:=λt=>SK.loop (m:=λn=>uZ R n []) (f:=λn=>uj P n []) λL=>zgy H L [] [] t
 have gways:Gd 0 JO (λE s=>uj P (E.tz.length+1) [] E s:PM (List Int)):=λh0 hw h=>KG H.gd _ [] h0 hw JT h
 obtain⟨gd,he,hn,hu,hb,hl,ht,hpp,ke,kn,ku,kb,kl,kt,kp⟩:=H;cases h1:xO t [[40]] with
 |true=>
  obtain rfl:=hp (zH h1);unfold qc;refine SK.mayLI (ZJ h1 (by decide)) (SK.mayLI (ZJ h1 (by decide)) (SK.mayYY h1 λu=>?_));simp only[if_true];refine SK.may (λ_ u=>SK.end_ (by decide)) λ_=>?_
  refine SK.bindI (he _ _) gd.expr λx u=>?_
  exact SK.need' λ_ u=>SK.pure
 |false=>
 refine SK.mayRI h1 ?_;cases h2:xO t [[116,114,117,101]] with
 |true=>
  obtain rfl:=hp (zH h2);unfold qc;exact SK.mayYY h2 λu=>SK.end_ (by decide)
 |false=>
 refine SK.mayRI h2 ?_;cases h3:xO t [[102,97,108,115,101]] with
 |true=>
  obtain rfl:=hp (zH h3);unfold qc;exact SK.mayLI h2 (SK.mayYY h3 λu=>SK.end_ (by decide))
 |false=>
 refine SK.mayRI h3 ?_;unfold xL;refine SK.uP ?_;cases h4:xO t [[105,102]] with
 |true=>
  obtain rfl:=hp (zH h4);exact (Lx h4).down (by decide) (by decide) (by omega) (λ_ h=>h)
 |false=>
 simp only[Bool.false_eq_true,if_false];unfold qc;refine SK.mayLI h2 (SK.mayLI h3 (SK.mayLI h1 ?_));cases h5:xO t [[110,101,119]] with
 |true=>
  obtain rfl:=hp (zH h5)
  iterate 5 (refine SK.mayRI (ZJ h5 (by decide)) ?_)
  refine SK.mayYY h5 λu=>?_
  simp only[if_true];refine SK.tx' λhk u=>?_
  rw[KW];refine SK.need' λ_ u=>?_
  rw[<-kg];refine SK.bindL (Ek _) (jg (VC gd)) λl u=>?_
  exact SK.need' λ_ u=>SK.end_ (by decide)
 |false=>
 refine SK.mayLI h5 (SK.mayLI h4 ?_);refine SK.may (λhw u=>?_) λh6=>?_
 ·obtain rfl:=hp (zH hw);refine SK.bindI (he _ _) gd.expr λx u=>?_
  exact SK.bindI (hb _ _) gd.block λy u=>SK.end_ (by decide)
 refine SK.may (λhw u=>?_) λh7=>?_
 ·obtain rfl:=hp (zH hw);refine SK.bindI (he _ _) gd.expr λx u=>?_
  rw[KW];refine SK.need' λ_ u=>?_
  have e:∀a,vg (Jv R) [x,a]=(vg (Jv R) [a] >>= λl=>Pure.pure (x :: l)):=λa=>zdF
  simp only[e,kg,uH];rw[<-kg];refine SK.bindL (Dg _) (jg (zas gd)) λl u=>?_
  exact SK.need' λ_ u=>SK.end_ (by decide)
 refine SK.may (λhw u=>?_) λh8=>?_
 ·obtain rfl:=hp (zH hw);refine SK.bindL (BX _) (ua gd) λl u=>?_
  exact SK.bindI (hb _ _) gd.block λy u=>SK.end_ (by decide)
 refine SK.may (λhw u=>?_) λh9=>?_
 ·obtain rfl:=hp (zH hw);refine SK.bindI (hb _ _) gd.block λy u=>?_
  refine SK.need' λ_ u=>SK.tx' λhk u=>?_
  exact SK.bindI (hb _ _) gd.block λy u=>SK.end_ (by decide)
 refine SK.may (λhw u=>?_) λmR=>?_
 ·obtain rfl:=hp (zH hw);refine SK.bindI (he _ _) gd.expr λy u=>?_
  refine SK.need' λ_ u=>SK.tx' λhk u=>?_
  refine SK.bindI (hb _ _) gd.block λy u=>?_
  refine SK.need' λ_ u=>?_
  exact SK.bindI (hb _ _) gd.block λy u=>SK.end_ (by decide)
 refine SK.mayRI h5 ?_;cases mX:xO t [[115,101,108,101,99,116]] with
 |true=>
  obtain rfl:=hp (zH mX);refine SK.mayRI (ZJ mX (by decide)) (SK.mayMust mX λu=>?_);simp only[if_true];rw[zm6];refine SK.need' λ_ u=>?_
  refine SK.bindL (AS _) gways λl u=>?_
  exact SK.need' λ_ u=>SK.end_ (by decide)
 |false=>
 refine SK.mayLI mX ?_;refine SK.may (λhw u=>?_) λmh=>?_
 ·obtain rfl:=hp (zH hw);refine SK.bindI (ht _ _) gd.kind λy u=>?_
  refine SK.need' λ_ u=>SK.tx' λhk u=>SK.need' λ_ u=>?_
  exact SK.end_ (by decide)
 exact SK.stop (LF.fail λ_=>Bk.end_) (PF.must mX) (by decide) (by omega)
def zeJ{w:Nat×Int}(h:xB x=some w):(x,w)∈zN:=by
 unfold xB at h;cases hf:zN.find? λw=>w.1 == x with
 |none=>rw[hf] at h;cases h
 |some y=>
  rw[hf] at h;have h1:=List.find?_some hf;have h2:=List.mem_of_find?_eq_some hf;rw[pR] at h1;have h3:y.2=w:=Option.some.inj h;rw[<-h1,<-h3];exact h2
def zhF(h:xB x=none):(qO.map (·.1)).contains x=false/\(xd.map (·.1)).contains x=false/\(vD.map (·.1)).contains x=false:=by
 have h1:∀y,y∈zN.map (·.1)->y≠x:=by
  intro y hy e;obtain⟨z,hz,rfl⟩:=List.mem_map.1 hy;unfold xB at h;rw[Option.map_eq_none_iff,List.find?_eq_none] at h;exact h z hz (by rw[e];exact beq_self_eq_true _)
 have h2:∀y,(y∈qO.map (·.1)\/y∈xd.map (·.1)\/y∈vD.map (·.1))->y∈zN.map (·.1):=by
  have:∀y∈qO.map (·.1) ++ xd.map (·.1) ++ vD.map (·.1),y∈zN.map (·.1):=by decide
  intro y hy;exact this y (by simp only[pW];rcases hy with h|h|h <;> simp[h])
 refine⟨?_,?_,?_⟩
 all_goals
  rw[Bool.eq_false_iff];intro hc;rw[List.contains_iff_mem] at hc
 ·exact h1 x (h2 x (.inl hc)) rfl
 ·exact h1 x (h2 x (.inr (.inl hc))) rfl
 ·exact h1 x (h2 x (.inr (.inr hc))) rfl
def SK.wdL{g:List UInt8->RM α}{f:PM α}(hg:SK F L j k d V t (g (if t.kind=5\/t.kind=6 then t.text else [])) f):SK F L j k d V t (rWd >>= g) f:=λE s hE P ht=>by
 have:=hg E s hE P ht;unfold jA;rw[qM (s1:=uM s) (a:=if t.kind=5\/t.kind=6 then t.text else []) (by unfold rWd wdR;rw[VR,zeP,ht])];exact this
end
section
variable {α β γ:Type} {F L d d1:Nat} {j j1 k k1:Int} {V:List Int} {t:yO} {x:List UInt8} {R:xn} {P:qi}
def SK.six{m:RM α}{f:PM α}(h:(t.kind=6->xB t.text=none)->SK F L j k d V t m f):SK F L j k d V t m f:=λE s hE P ht=>h (λh6=>by
 subst ht;have hl:=qr (E:=E) (s:=s) (by rw[h6];decide);have e:zw E s=E.tz[s.next]:=by unfold zw;rw[glE hl];rfl
 rw[e] at h6 ⊢;exact (hE.1 _ (wE hl)).2 h6) E s hE P ht
def zk6:∀y,y∈zN->(y.1≠[40]/\y.1≠[116,114,117,101]/\y.1≠[102,97,108,115,101])/\(((qO.map (·.1)).contains y.1=true/\y.2=((qO.map (·.2)).getD ((qO.map (·.1)).idxOf y.1) 0,0))\/((qO.map (·.1)).contains y.1=false/\(xd.map (·.1)).contains y.1=true/\y.2=((xd.map (·.2)).getD ((xd.map (·.1)).idxOf y.1) 0,((QR.getD ((xd.map (·.1)).idxOf y.1) 0:Nat):Int))/\0<QR.getD ((xd.map (·.1)).idxOf y.1) 0/\QR.getD ((xd.map (·.1)).idxOf y.1) 0<=3)\/((qO.map (·.1)).contains y.1=false/\(xd.map (·.1)).contains y.1=false/\(vD.map (·.1)).contains y.1=true/\y.2=((vD.map (·.2)).getD ((vD.map (·.1)).idxOf y.1) 0,-1))):=by decide
def zf2(h:t.text=x)(hn:x≠y):xO t [y]=false:=by
 unfold xO;rw[h];simp[hn]
def zi3(k:Bk 1 R.expr)(hn:n<=3):Bk 3 (Vt R n):=Bk.need λ_=>Bk.bind (e1:=3) (e:=0) ((Xr k n true []).mono hn) λ_=>Bk.need λ_=>Bk.pure
def zi2(H:qe F R P)(hn:n<=3):SK F L 1 0 (200*F+20) V t (Vt R n) (zC [40] >>= λ_=>qP P n true [] >>= λl=>zC [41] >>= λ_=>Pure.pure l):=by
 have ks:=(Xr H.ke n true []).mono hn;unfold Vt;refine SK.need' λ_ u=>?_
 refine SK.bindL (zgI H n true [] [] u hn) (λh0 hw h=>KM H.gd n true [] h0 hw JT h) λl u=>?_
 exact SK.need' λ_ u=>SK.pure
def zk4(H:qe F R P):Gd 0 JO (zC [40] >>= λ_=>qP P n true [] >>= λl=>zC [41] >>= λ_=>Pure.pure l):=by
 intro E s a s' h0 hw h;obtain⟨_,s1,h1,h⟩:=zo h;have n1:=(zq h0 hw h1).1;obtain⟨l,s2,h2,h⟩:=zo h;obtain⟨n2,v2⟩:=KM H.gd n true [] n1.le n1.wf JT h2;obtain⟨_,s3,h3,h⟩:=zo h;have n3:=(zq n2.le n2.wf h3).1;obtain⟨rfl,rfl⟩:=zK h;exact⟨((n1.trans n2).trans n3).down (by decide),v2.later n3⟩
def zl8:Bk 1 (Vy R):=Bk.jx λ_=>Bk.kd (Bk.wd (zet _))
def zl6(H:qe F R P)(t:yO):SK F L 0 0 (200*F+70) V t (Vy R) (Zi P):=by
 have hq:=zeq (L:=L) (V:=[]) H;have kq:=zer H.ke;refine SK.six λh6=>?_
 unfold Vy Zi;refine SK.placeL λp hp=>SK.kdL (SK.tokR ?_)
 by_cases h3:t.kind=3
 ·obtain rfl:=hp (by omega);rw[if_pos h3,if_pos (kdT h3)];exact SK.txSkip h3 (by decide) λu=>SK.end_ (by decide)
 rw[if_neg h3,if_neg (kdF h3)];by_cases h4:t.kind=4
 ·obtain rfl:=hp (by omega);rw[if_pos h4,if_pos (kdT h4)];exact SK.txSkip h4 (by decide) λu=>SK.end_ (by decide)
 rw[if_neg h4,if_neg (kdF h4)];by_cases h1:t.kind=1
 ·obtain rfl:=hp (by omega);rw[if_pos h1,if_pos (kdT h1)];exact SK.txSkip h1 (by decide) λu=>SK.end_ (by decide)
 rw[if_neg h1,if_neg (kdF h1)];by_cases h2:t.kind=2
 ·obtain rfl:=hp (by omega);rw[if_pos h2,if_pos (kdT h2)];refine SK.txSkip h2 (by decide) λu=>?_
  refine SK.congrR (SK.may (λ_ u=>?_) λ_=>SK.end_ (by decide)) (VH (c:=_));refine SK.bindL (hq _) (jg H.gd.expr) λl u=>?_
  exact SK.need' λ_ u=>SK.end_ (by decide)
 rw[if_neg h2,if_neg (kdF h2)];refine SK.wdL ?_;have hc:=(zl0 (L:=L) (V:=V) H t p hp).down (j:=0) (k:=0) (d:=200*F+70) (by decide) (by decide) (by omega) (λ_ h=>h);by_cases hn:t.kind=5/\xB t.text≠none
 ·obtain⟨h5,hn⟩:=hn;obtain⟨w,hw⟩:=Option.ne_none_iff_exists'.1 hn;obtain rfl:=hp (by omega);obtain⟨⟨n1,n2,n3⟩,hc⟩:=zk6 _ (zeJ hw);simp only at n1 n2 n3 hc;have Hd:(if t.kind=5\/t.kind=6 then t.text else [])=t.text:=if_pos (.inl h5);rw[Hd];refine SK.mayRI (zf2 rfl n1) (SK.mayRI (zf2 rfl n2) (SK.mayRI (zf2 rfl n3) ?_));rw[hw];simp only;rw[if_pos (kdT h5)];unfold vn;rcases hc with⟨c1,rfl⟩|⟨c1,c2,rfl,hm,rV⟩|⟨c1,c2,c3,rfl⟩
  ·rw[c1];simp only[if_true];refine SK.upSkip (by omega) λu=>?_
   rw[if_neg (show ¬((0:Int)<0) by decide),if_neg (show ¬((0:Int)<0) by decide)];exact SK.end_ (by decide)
  ·rw[c1,c2];simp only[if_true,Bool.false_eq_true,if_false];refine SK.upSkip (by omega) λu=>?_
   generalize QR.getD ((xd.map (·.1)).idxOf t.text) 0=n at *;have kw:=zi3 (R:=R) H.ke rV;rw[if_neg (show ¬((n:Int)<0) by omega),if_pos (show (0:Int)<n by omega),pZ];exact SK.bindL (zi2 H rV) (zk4 H) λl u=>SK.end_ (by decide)
  ·rw[c1,c2,c3];simp only[if_true,Bool.false_eq_true,if_false];refine SK.upSkip (by omega) λu=>?_
   rw[if_pos (show (-1:Int)<0 by decide),ze0];exact SK.bindI (H.hu _ _) H.gd.unary λx u=>SK.end_ (by decide)
 ·have hx:(qO.map (·.1)).contains (if t.kind=5\/t.kind=6 then t.text else [])=false/\(xd.map (·.1)).contains (if t.kind=5\/t.kind=6 then t.text else [])=false/\(vD.map (·.1)).contains (if t.kind=5\/t.kind=6 then t.text else [])=false:=by
   by_cases dm:t.kind=5\/t.kind=6
   ·rw[if_pos dm];refine zhF ?_;rcases dm with h|h
    ·cases hq:xB t.text with
     |none=>rfl
     |some w=>exact absurd ⟨h,by rw[hq];exact λe=>by cases e⟩ hn
    ·exact h6 h
   ·rw[if_neg dm];exact by decide
  rw[hx.1,hx.2.1,hx.2.2];simp only[Bool.false_eq_true,if_false];cases hq:xB t.text with
  |none=>exact hc
  |some w=>
   simp only;rw[if_neg (kdF λh=>hn ⟨h,by rw[hq];exact λe=>by cases e⟩)];exact hc
end
section
variable {α β γ:Type} {F L d d1:Nat} {j j1 k k1:Int} {V:List Int} {t:yO} {x:List UInt8} {R:xn} {P:qi}
def YT:Bk e (ZG R (n+1) a):=Bk.jx λ_=>Bk.mayIf (Bk.mayIf Bk.pure)
def SK.over{m:RM α}{f:PM α}(h0:1<=j):SK F (0+1) j k d V t m f:=λE s hE P ht=>by
 have:=P.lo;have:=P.le;omega
theorem zdM(H:qe F R P):∀(L:Nat) (a:Int) (V:List Int) (t:yO),a∈V->SK F L 0 0 (200*F+80) V t (ZG R L a) (Zf P L a)
 |0,a,V,t,ha=>SK.zero (by decide)
 |n+1,a,V,t,ha=>by
  have ih:=zdM H n;have hq:=λL=>zeq (L:=L) (V:=[]) H
  have kq:Bk 1 (rIs [41] >>= λb=>if b=true then (pure []:RM (List Int)) else Yj R):=Bk.isIf (zer H.ke);obtain⟨gd,he,hn,hu,hb,hl,ht,hp,ke,kn,ku,kb,kl,kt,kp⟩:=H;unfold ZG Zf;refine SK.placeL λp hp=>SK.tokR ?_
  refine SK.may (λhw u=>?_) λ_=>SK.may (λhw u=>?_) λ_=>SK.pure
  ·obtain rfl:=hp (zH hw);cases n with
   |zero=>exact SK.over (by decide)
   |succ n=>
    refine SK.tx (by decide) (λhk u=>?_) (λ_=>Bk.endB (e:=7) λ_=>YT) (by decide) (by omega);refine SK.endB (λc=>?_) (by intro y hy;simp at hy;rw[hy];exact ha) (by decide);exact SK.down (j1:=0+1) (k1:=0) (V':=[c]) (SK.fuel (ih c [c] _ (wD.2 rfl))) (by decide) (by decide) (pC _) (λy hy=>by simp at hy;simp[hy])
  ·obtain rfl:=hp (zH hw);cases n with
   |zero=>exact SK.over (by decide)
   |succ n=>
    refine SK.bindL (SK.is2 (λ_=>SK.pure) λ_=>hq _ u) (uQ gd.expr) (λl u=>?_) (hk:=λ_=>Bk.need λ_=>Bk.endB (e:=7) λ_=>YT);refine SK.need (λhw u=>?_) (λ_=>Bk.endB (e:=7) λ_=>YT) (by decide) (by omega);refine SK.endB (λc=>?_) (by intro y hy;simp at hy;rcases hy with rfl|hy;exact pW.2 (.inr ha);exact pW.2 (.inl hy)) (by decide);exact SK.down (j1:=0+1) (k1:=0) (V':=[c]) (SK.fuel (ih c [c] _ (wD.2 rfl))) (by decide) (by decide) (pC _) (λy hy=>by simp at hy;simp[hy])
def zly:Bk 1 (zba R):=Bk.bind (e:=0) zl8 λa=>Bk.loop (m:=λn=>ZG R n a) λ_=>YT
def Vh:Bk 1 (ux R):=Bk.jx λ_=>Bk.mayIf zly
def QS(hm:SK F L 0 0 d1 [] t m f)(gd:Gd 0 Vd f)(hl:∀L a V u,a∈V->SK F L 0 0 d V u (m2 L a) (f2 L a))(hk:∀n a,Bk 8 (m2 (n+1) a))(hd:d1+8<=d)(hd2:d<=200*F+900):SK F L 0 0 d V t (m >>= λa=>(λE s=>m2 (E.tz.length+1) a E s:RM Int)) (f >>= λa=>(λE s=>f2 (E.tz.length+1) a E s:PM Int)):=
 SK.bindI hm gd (λa u=>SK.loop λL=>hl L a _ u (List.mem_cons_self ..)) (hk:=λa=>Bk.loop (m:=λn=>m2 n a) λn=>hk n a) (hd:=hd) (hd2:=hd2)
def zlx(H:qe F R P)(t:yO):SK F L 0 0 (200*F+80) V t (zba R) (Zi P >>= λleft=>(λE s=>Zf P (E.tz.length+1) left E s:PM Int)):=
 QS (zl6 H t) (zcO H.gd) (λL a V u ha=>zdM H L a V u ha) (λn a=>YT) (by omega) (by omega)
def Vg(H:qe F R P)(L:Nat)(t:yO):SK F L 0 0 (200*F+90) V t (ux R) (vO P):=by
 have hq:=zlx (L:=L) (V:=V) H;obtain⟨gd,he,hn,hu,hb,hl,ht,hp,ke,kn,ku,kb,kl,kt,kp⟩:=H;unfold ux vO;refine SK.placeL λp hp=>SK.uP ?_
 cases hw:xO t [[45]] with
 |true=>
  obtain rfl:=hp (zH hw);simp only[if_true];refine SK.mayTake hw λu=>?_
  simp only[if_true];exact SK.bindI (hu _ _) gd.unary λx u=>SK.end_ (by decide)
 |false=>
  simp only[Bool.false_eq_true,if_false];exact SK.mayLI hw ((hq t).down (by decide) (by decide) (by omega) (λ_ h=>h))
def KT{r:Nat}:Bk e (Zt r part (n+1) a):=Bk.oper Bk.pure
def Qx{kd:Nat}:Bk e (vf w kd part (n+1) a):=Bk.isIf Bk.pure
def zlf:Bk 1 (XL R):=Bk.bind (e:=0) Vh λa=>Bk.loop (m:=λn=>Zt 6 (ux R) n a) λ_=>KT
def zgF(H:qe F R P)(L:Nat)(t:yO):SK F L 0 0 (200*F+100) V t (XL R) (zho P):=
 QS (Vg H L t) (YJ H.gd) (λL a V u ha=>zcp (r:=6) (by decide) (by decide) (λL t=>Vg H L t) (YJ H.gd) (by omega) (by omega) L a V u ha) (λn a=>KT) (by omega) (by omega)
def zji:Bk 1 (zfs R):=Bk.bind (e:=0) zlf λa=>Bk.loop (m:=λn=>Zt 5 (XL R) n a) λ_=>KT
def zjh(H:qe F R P)(L:Nat)(t:yO):SK F L 0 0 (200*F+110) V t (zfs R) (XQ P):=
 QS (zgF H L t) (KX H.gd) (λL a V u ha=>zcp (r:=5) (by decide) (by decide) (λL t=>zgF H L t) (KX H.gd) (by omega) (by omega) L a V u ha) (λn a=>KT) (by omega) (by omega)
def zaP:Bk 1 (jE R):=Bk.bind (e:=0) zji λ_=>Bk.oper Bk.pure
def zaO(H:qe F R P)(L:Nat)(t:yO):SK F L 0 0 (200*F+120) V t (jE R) (Zp 2 (XQ P)):=by
 have ks:=zji (R:=R);unfold jE Zp;refine SK.bindI (zjh H L t) (KY H.gd) (λa u=>?_) (hk:=λ_=>Bk.oper Bk.pure);refine SK.loop (m:=λ_=>_) (f:=λL=>YE 2 (XQ P) L a) λL=>?_
 cases L with
 |zero=>exact SK.zero (by decide)
 |succ n=>
  unfold YE;refine SK.operL (SK.uP ?_);rw[(zco 4 (by decide)).1,(zco 4 (by decide)).2];cases hw:xO u (yD 2) with
  |false=>exact SK.pure
  |true=>
   simp only[if_true];rw[if_neg (show ¬((qv 2).getD (List.idxOf u.text (yD 2)) 0=0) from zmv 4 (by decide) _ (zhd hw))];refine SK.placeL λp Mb=>SK.upTake (zH hw) λv=>?_
   obtain rfl:=Mb (zH hw);refine SK.bindI (zjh H (n+1) v) (KY H.gd) λx u=>?_
   exact SK.end_ (by decide)
def zfP:Bk 1 (KC R):=Bk.jx λ_=>Bk.mayIf zaP
def zfO(H:qe F R P)(L:Nat)(t:yO):SK F L 0 0 (200*F+130) V t (KC R) (Zy P):=by
 have hq:=zaO (V:=V) H L;obtain⟨gd,he,hn,hu,hb,hl,ht,hp,ke,kn,ku,kb,kl,kt,kp⟩:=H;unfold KC Zy;refine SK.placeL λp hp=>SK.uP ?_
 cases hw:xO t [[110,111,116]] with
 |true=>
  obtain rfl:=hp (zH hw);simp only[if_true];refine SK.mayTake hw λu=>?_
  simp only[if_true];exact SK.bindI (hn _ _) gd.bin2 λx u=>SK.end_ (by decide)
 |false=>
  simp only[Bool.false_eq_true,if_false];exact SK.mayLI hw ((hq t).down (by decide) (by decide) (by omega) (λ_ h=>h))
def znM:Bk 1 (zaF R):=Bk.bind (e:=0) zfP λa=>Bk.loop (m:=λn=>vf [97,110,100] 21 (KC R) n a) λ_=>Qx
def zkH(H:qe F R P)(L:Nat)(t:yO):SK F L 0 0 (200*F+140) V t (zaF R) (Zp 1 (Zy P)):=
 QS (zfO H L t) (Zz H.gd) (λL a V u ha=>Vc (lv:=1) (by decide) (by decide) (by decide) (λL t=>zfO H L t) (Zz H.gd) (by omega) (by omega) L a V u ha) (λn a=>Qx) (by omega) (by omega)
def zht:Bk 1 (zdH R):=Bk.bind (e:=0) znM λa=>Bk.loop (m:=λn=>vf [111,114] 22 (zaF R) n a) λ_=>Qx
def zlV(H:qe F R P)(L:Nat)(t:yO):SK F L 0 0 (200*F+150) V t (zdH R) (zeh P):=
 QS (zkH H L t) (Xk (Zz H.gd) 1) (λL a V u ha=>Vc (lv:=0) (by decide) (by decide) (by decide) (λL t=>zkH H L t) (Xk (Zz H.gd) 1) (by omega) (by omega) L a V u ha) (λn a=>Qx) (by omega) (by omega)
def SK.lift{m:RM α}{f:PM α}(h:SK F L 0 0 d [] t m f)(hd:d<=200*(F+1)):SK (F+1) L 1 0 (200*(F+1)) [] t m f:=λE s hE P ht=>by
 obtain⟨a,b⟩:=h E s ⟨hE.1,by have:=hE.2;omega⟩ ⟨P.wf,P.le,P.cr,by have:=P.fu;omega,by have:=P.lo;omega,P.vd,by omega⟩ ht;refine⟨a,λp hp=>?_⟩;obtain⟨x,s',h1,h2⟩:=b p hp;exact⟨x,s',h1,h2.bad,h2.le,h2.at_,by have:=h2.few;omega⟩
def SK.none_{m:RM α}{f:PM α}:SK 1 L 1 0 d V t m f:=λE s hE P ht=>by
 have:=P.fu;have:=P.le;omega
theorem YM:∀F,qe (F+1) (Yy (F+1)) (Yi F)
 |0=>⟨jm 0,λ_ _=>SK.none_,λ_ _=>SK.none_,λ_ _=>SK.none_,λ_ _=>SK.none_,λ_ _=>SK.none_,λ_ _=>SK.none_,λ_ _=>SK.none_,zht,zfP,Vh,zap,zhv,zgB,VF⟩
 |F+1=>⟨jm (F+1),λL t=>(zlV (YM F) L t).lift (by omega),λL t=>(zfO (YM F) L t).lift (by omega),λL t=>(Vg (YM F) L t).lift (by omega),λL t=>(zev (YM F) t).lift (by omega),λL t=>(zlZ (YM F) t).lift (by omega),λL t=>(zld (YM F) t).lift (by omega),λL t=>(zfH (YM F) t).lift (by omega),zht,zfP,Vh,zap,zhv,zgB,VF⟩
end
section
variable {α β γ:Type} {F L d d1:Nat} {j j1 k k1:Int} {V:List Int} {t:yO} {x:List UInt8} {R:xn} {P:qi}
def zlN(H:qe F R P)(t:yO):SK F L 0 0 (200*F+60) V t (zdG R) (Zg P):=by
 have BX:=zhi (L:=L) (V:=[]) H;have khd:Bk 4 (YR R):=zhk H.kt;have Eh:=zbf (L:=L) (V:=[]) H;have kpar:=Jy H.kt;have WA:∀t,SK F L 1 0 (200*F+30) [] t _ _:=Xv (λL t=>(zl1 H t).down (by decide) (by decide) (pC _) (λ_ h=>h)) (QU H.gd) (by omega) (by omega);have kcase1:=zl2 H.kt;have kcase:Bk 3 (YS R >>= λx=>vg (YS R) [x]):=Bk.bind (e:=0) kcase1 λ_=>vX
 obtain⟨gd,he,hn,hu,hb,hl,ht,hpp,ke,kn,ku,kb,kl,kt,kp⟩:=H;unfold zdG Zg;refine SK.placeL λp hp=>SK.tokR ?_
 refine SK.may (λhw u=>?_) λ_=>?_
 ·obtain rfl:=hp (zH hw);refine SK.tx' λhk u=>?_
  rw[KW];refine SK.need' λ_ u=>?_
  refine SK.bindL (Eh _) (jg (vj gd)) λl u=>?_
  exact SK.need' λ_ u=>SK.end_ (by decide)
 refine SK.may (λhw u=>?_) λ_=>?_
 ·obtain rfl:=hp (zH hw);refine SK.tx' λhk u=>?_
  rw[KW];refine SK.need' λ_ u=>?_
  rw[<-kg];refine SK.bindL (WA _) (jg (QU gd)) λl u=>?_
  exact SK.need' λ_ u=>SK.end_ (by decide)
 refine SK.may (λhw u=>?_) λ_=>?_
 ·obtain rfl:=hp (zH hw);refine SK.need' λ_ u=>SK.tx' λhk u=>?_
  refine SK.bindL (BX _) (ua gd) λl u=>?_
  exact SK.need' λ_ u=>SK.end_ (by decide)
 refine SK.may (λhw u=>?_) λ_=>?_
 ·obtain rfl:=hp (zH hw);refine SK.tx' λhk u=>SK.need' λ_ u=>?_
  refine SK.bindI (ht _ _) gd.kind λx u=>?_
  refine SK.need' λ_ u=>?_
  refine SK.bindI (he _ _) gd.expr λx u=>?_
  exact SK.need' λ_ u=>SK.end_ (by decide)
 have rest:∀(b:Bool) (j:Int) (u:yO),(u.kind≠0->p=t.at_)->0<=j->SK F L j j (200*F+60) V u (zI [102,117,110] >>= λ_=>Ye 1 >>= λx=>YR R >>= λl=>R.block >>= λc=>yv 102 x (if b=true then 1 else 0) p (l ++ [c])) (zC [102,117,110] >>= λ_=>xp 1 >>= λm=>Zh P >>= λl=>P.block >>= λc=>zT 102 m.text (if b=true then 1 else 0) t.at_ (l ++ [c])):=λb j u hp hj=>by
  refine SK.need' (λhw u=>?_) (hk0:=hj);obtain rfl:=hp (zH hw);refine SK.tx' (λhk u=>?_) (hk0:=by omega);refine SK.bindL (BX _) (ua gd) (λl u=>?_) (hj:=by omega) (h1:=by omega);exact SK.bindI (hb _ _) gd.block (λx u=>SK.end_ (by omega)) (hj:=by omega) (h1:=by omega)
 refine SK.mayB (λhw u=>?_) λhw=>?_
 ·obtain rfl:=hp (zH hw);exact rest true _ u (λ_=>rfl) (by decide)
 ·exact rest false 0 t hp (by decide)
theorem zd9(H:qe F R P):∀(n:Nat) (E:zr) (s:yx),EOk E F->WFs s->s.next<=E.tz.length->s.nz.length<=s.next->E.tz.length+1<=s.next+F->E.tz.length+1<=s.next+n->(∀t,vo P n E s=.ok () t->Zv R n s.iz E (uM s)=some (t.iz,uM t))/\∀p,vo P n E s=.bad p->∃l s',Zv R n s.iz E (uM s)=some (l,s')/\znW E (200*F+60) p s'
 |0,E,s,hE,hw,h0,hc,hf,hn=>by omega
 |n+1,E,s,hE,hw,h0,hc,hf,hn=>by
  unfold vo Zv;by_cases mD:s.next<E.tz.length
  ·rw[if_pos mD,if_pos (show (uM s).bad=false/\(uM s).n<E.tz.length from ⟨rfl,mD⟩)];have hS:=zlN H (zw E s) (L:=E.tz.length+2) (V:=[]) E s hE ⟨hw,h0,by omega,by omega,by omega,λ_ h=>(by cases h),by omega⟩ rfl;cases hm:Zg P E s with
   |ok i s1=>
    obtain⟨N,v⟩:=QW H.gd h0 hw hm;have WB:=N.cr;have hadv:=N.adv;have ih:=zd9 H n E {s1 with iz:=s1.iz ++ [i]} hE N.wf N.le (by simp only;omega) (by simp only;omega) (by simp only;omega);simp only;rw[qM (hS.1 i s1 hm),<-N.it];exact ih
   |bad p=>
    obtain⟨a,s',h1,B⟩:=hS.2 p hm;simp only;rw[qM h1];refine⟨λt h=>(by cases h),λq h=>?_⟩;cases h;obtain⟨m,rfl⟩:∃m,n=m+1:=⟨n-1,by omega⟩;unfold Zv;rw[if_neg (by rw[B.bad];exact λh=>by cases h.1)];exact⟨_,_,rfl,B⟩
  ·rw[if_neg mD,if_neg (show ¬((uM s).bad=false/\(uM s).n<E.tz.length) from λh=>mD h.2)];exact⟨λt h=>(by cases h;rfl),λp h=>(by cases h)⟩
def zlq(l:List yO)(len:Nat)(hl:l.length<=2000)(hk:∀t∈l,t.kind≠0/\(t.kind=6->xB t.text=none)):
 (∀t,qh l len=.ok () t->Vv l len=some (t.iz,⟨t.nz,t.next,false⟩))/\∀p,qh l len=.bad p->∃r s',Vv l len=some (r,s')/\s'.bad=true/\(((l[s'.n]?).getD ⟨0,[],len⟩).at_:Int)=p:=by
 have h:=zd9 (YM (l.length+1)) (l.length+1) ⟨l,len⟩ ⟨[],[],0⟩ ⟨hk,by simp only;omega⟩ (λi x hx=>by cases hx) (pU _) (pC _) (by simp only;omega) (by simp only;omega);refine⟨h.1,λp hp=>?_⟩;obtain⟨r,s',h1,B⟩:=h.2 p hp;exact⟨r,s',h1,B.bad,B.at_⟩
end
def zhU:∀g,g∈yd->xB g=none:=by decide
def zhM{k:Nat}{t:List UInt8}{m:Nat}(h:xR s=some (k,t,m)):k≠0/\(k=6->xB t=none):=by
 unfold xR at h;split at h
 ·cases h
 ·rename_i c r;dsimp only at h;split at h
  ·split at h
   ·injection h with h;injection h with h _;split at h <;> omega
   ·cases h
  ·split at h
   ·split at h
    ·injection h with h;injection h with h _;omega
    ·cases h
   ·split at h
    ·split at h
     ·injection h with h;injection h with h _;omega
     ·cases h
    ·split at h
     ·cases hq:jZ (c :: r) with
      |none=>rw[hq] at h;cases h
      |some x=>
       rw[hq] at h;injection h with h;injection h with h _;omega
     ·cases hq:yd.find? (λg=>jy g (c :: r)) with
      |none=>rw[hq] at h;cases h
      |some x=>
       rw[hq] at h;injection h with h;injection h with h1 h;injection h with h2 _;exact⟨by omega,λ_=>by rw[<-h2];exact zhU x (List.mem_of_find?_eq_some hq)⟩
theorem za3:∀(f n at_:Nat) (r:List UInt8),∀t∈(YD f n at_ r).1,t.kind≠0/\(t.kind=6->xB t.text=none)
 |0,_,_,_=>by
  unfold YD;exact λt ht=>by cases ht
 |f+1,n,at_,r=>by
  unfold YD;dsimp only;split
  ·exact λt ht=>by cases ht
  ·split
   ·exact λt ht=>by cases ht
   ·rename_i k t m h1;split
    ·exact λt ht=>by cases ht
    ·split
     ·have ih:=za3 f (n+1) (at_+yb false r+m) (r.drop (yb false r) |>.drop m);intro x hx;rcases wI.1 hx with rfl|hx
      ·exact zhM h1
      ·exact ih x hx
     ·exact λt ht=>by cases ht
def zh8(s:List UInt8):∀t∈(vB s).1,t.kind≠0/\(t.kind=6->xB t.text=none):=by
 unfold vB;split
 ·exact λt ht=>by cases ht
 ·exact za3 _ _ _ _
theorem zgG{out:List Nat}:∀(rk:List Int) (p e:Int),(∀j:Nat,(j:Int)<=p->1<=out.getD j 0)->Yx out rk p=some e->(rk.length:Int)<=p+1\/rk=[]
 |[],_,_,_,_=>.inr rfl
 |k :: r,p,e,ho,h=>by
  unfold Yx at h;split at h
  ·cases h
  ·rename_i hc;have h1:=ho p.toNat (by omega);rcases zgG r _ e (λj hj=>ho j (by omega)) h with h2|h2
   ·exact .inl (by simp only[pH];omega)
   ·exact .inl (by rw[h2];simp;omega)
def zkl(h:qm l l.length){x:Nd}(hx:x∈l):x.kz.length<=l.length:=by
 obtain⟨i,hi,rfl⟩:=List.mem_iff_getElem.1 hx;obtain⟨p,hp,_,_⟩:=qR h hi;rw[glE hi] at hp;simp only[Option.elim] at hp;have:=zgG _ _ p (λj hj=>by
  obtain⟨q,_,h1,h2⟩:=qR h (i:=j) (by omega);omega) hp
 rw[gC] at this;rcases this with h|h
 ·omega
 ·rw[List.reverse_eq_nil_iff] at h;rw[h];exact pU _
def zci{l:List yO}{t:yx}(h:qh l len=.ok () t)(hn:t.nz.length<=1000):jO ⟨t.nz,t.iz⟩=Zm ⟨t.nz,t.iz⟩/\∀x∈t.nz,xE x=kF t.nz x:=by
 obtain⟨hF,hI,hS⟩:=znD h;refine⟨zai hF hI,λx hx=>?_⟩;have hs:=hS x hx;unfold zbY xV at hs;simp only[pJ,pY,List.mem_range,pK,wZ] at hs;obtain⟨⟨⟨⟨_,h1⟩,_⟩,_⟩,h2⟩:=hs;refine za0 h1 (λi hi=>?_) (pN (zkl hF hx) hn);have:=h2 i hi;have e:(x.kz.map (zD t.nz)).getD i 0=zD t.nz (x.kz.getD i 0):=by
  rw[pA,wC,glE hi,pA,glE hi];rfl
 rw[e] at this;exact this
def zgg(h:∀x∈l,p x=q x):l.find? (λx=> !p x)=l.find? (λx=> !q x):=by
 induction l with
 |nil=>rfl
 |cons a l ih=>
  have ha:=h a (List.mem_cons_self ..);have ih:=ih λx hx=>h x (wJ _ hx)
  simp only[List.find?_cons,ha,ih]
end Lode
namespace Go.Proofs.YtcagibbaeageoaaGreatDoor
section
open Go.RowKit Lode Go.Shelf
attribute [local go_sem ↓] wp_at_zero wp_at_succ
open Go.Proofs.Tryz
def zlB{t:List UInt8}(h:kj t=true):zaR t:=by
 have hl:=zg0 h;simp only[kj,pJ,Bool.not_eq_true',pK,wG] at h;obtain⟨⟨⟨h1,h2⟩,h3⟩,h4⟩:=h;exact⟨h2,h3,by omega⟩
theorem zac{α:Type}{p:α->Bool}{x:α}:∀{l:List α} {k:Nat},l[k]? =some x->p x=true->(∀(j:Nat) (y:α),j<k->l[j]? =some y->p y=false)->l.find? p=some x
 |[],k,h,_,_=>by simp at h
 |a :: l,0,h,hp,_=>by
  simp only[List.getElem?_cons_zero,wO] at h;subst h;rw[List.find?_cons,hp]
 |a :: l,k+1,h,hp,hb=>by
  rw[List.getElem?_cons_succ] at h;rw[List.find?_cons,hb 0 a (by omega) rfl];exact zac h hp λj y hj hy=>hb (j+1) y (by omega) (by rw[List.getElem?_cons_succ];exact hy)
def zgf{p:α->Bool}{l:List α}(h:∀(j:Nat) (y:α),j<l.length->l[j]? =some y->p y=false):l.find? p=none:=by
 rw[List.find?_eq_none];intro x hx;obtain⟨j,hj,e⟩:=List.mem_iff_getElem.1 hx;rw[h j x hj (by rw[glE hj,e])];decide
def zfw(s:ByteArray)(w:World)(hs:s.size<=1000000000000):Calls prog 12 #[.string s] w (JP (yQ s.data.toList) w):=by
 obtain⟨r,hr⟩:=exE (yQ s.data.toList);rw[hr];unfold yQ at hr;have nL:∀t∈(vB s.data.toList).1,t.kind=3->zaR t.text:=λt ht hk=>zlB ((YP s.data.toList).1 t ht hk)
 have mV:=(YP s.data.toList).2;have AT:=zh8 s.data.toList;have rs:=zh (λW (hb:Below w.heap.size w W)=>zh3 s W hs);rw[show s.data.toList.length=s.size from rfl] at hr;obtain⟨⟨toks,at_,e0⟩,bE⟩:∃q,vB s.data.toList=q:=⟨_,rfl⟩;rw[bE] at hr nL mV rs AT;simp only at hr nL mV rs AT;clear bE;have hA:=zf w (.cells #[.slice none 0 0,.slice none 0 0] 26 (0,0));have hz:=zk w (.cells #[.slice none 0 0,.slice none 0 0] 26 (0,0));replace hr:=zh hr;replace nL:=zh nL;replace AT:=zh AT;go_enter func12,ntmps12;go_wp2_with fail;refine (rs.q _ hA).mono ?_;rintro e w1 ⟨tv,rfl,hT,mF⟩;have mY:=zi mF hz;have sd:=hA.trans (mF.mono hA.size);have tN:=hT.tk;obtain⟨tp,tc,rfl⟩:=hT.form;have cI:w.heap.size<w1.heap.size:=(gtA mY);clear rs hA hz mF hT;generalize rE:w.heap.size=N at *;have z0:=zd mY 0;have z1:=zd mY 1;have g0:=zj mY 0;have g1:=zj mY 1;by_cases he:e0=0
 ·subst he;have mO:(match qh toks s.size with
   | .bad p=>((⟨[],[]⟩,p,4):yJ×Int×Nat)
   | .ok _ st=>if 1000<st.nz.length\/40<st.iz.length\/40<jO ⟨st.nz,st.iz⟩ then (⟨[],[]⟩,0,5)
    else match st.nz.find? λx=> !xE x with
     |some x=>(⟨[],[]⟩,x.at_,3)
     |none=>(⟨st.nz,st.iz⟩,0,0))=r:=by
   have:=hr.q;rw[if_neg (by simp)] at this;exact this
  replace mO:=zh mO;clear hr;have Pa:=zh (zlq toks s.size (by omega) AT.q);obtain⟨items,st,HQ⟩:∃items st,Vv toks s.size=some (items,st):=by
   cases cY:qh toks s.size with
   |ok u t=>cases u;exact⟨_,_,Pa.q.1 t cY⟩
   |bad p=>obtain⟨a,b,h,_⟩:=Pa.q.2 p cY;exact⟨a,b,h⟩
  have HR:=zh (zdt (E:=⟨toks,s.size⟩) (base:=w1.heap.size) (pb:=w1.heap.size) nL.q (by simp only;omega) (toks.length+2));have HI:=zh (zfl HR.q);have mM:=zh (zg (zf w1 (.cells #[.slice tp toks.length tc,.int .i64 0,.slice none 0 0,.bool false] 63 (0,0))) (zf _ (.cells #[.slice none 0 0,.slice none 0 0] 26 (0,0))));have mK:ItR ⟨toks,s.size⟩ w1.heap.size w1.heap.size (w1.heap.size+1) (Yy (toks.length+2)) w1 (items,st) ((w1.alloc (.cells #[.slice tp toks.length tc,.int .i64 0,.slice none 0 0,.bool false] 63 (0,0))).alloc (.cells #[.slice none 0 0,.slice none 0 0] 26 (0,0))):=by
   refine⟨⟨[],0,false⟩,[],toks.length+1,.slice none 0 0,HQ,by simp,?_,jT _ _ rfl,⟨.slice none 0 0,.slice tp toks.length tc,[],⟨pC _,?_,tN.fr mM.q,⟨rfl,.inl ⟨rfl,rfl⟩⟩,rfl,(λj x v h=>by cases h)⟩,(λv h=>by cases h),λg h=>?_⟩,mM.q⟩
   ·have:=zk (w1.alloc (.cells #[.slice tp toks.length tc,.int .i64 0,.slice none 0 0,.bool false] 63 (0,0))) (.cells #[.slice none 0 0,.slice none 0 0] 26 (0,0));simpa using this
   ·exact zi (zf _ _) (zk w1 _)
   ·rcases h with h|h
    ·exact h.elim
    ·cases h
  replace mK:=zh mK;have em:=zh cI;have hZ:=zh mY;have hBB:=zh sd;replace HQ:=zh HQ;clear z0 z1 g0 g1 mY sd cI;go_wp2;go_loopw [] (λwr=>ItR ⟨toks,s.size⟩ w1.heap.size w1.heap.size (w1.heap.size+1) (Yy (toks.length+2)) w1 (items,st) wr) (λwr=>toks.length+1-znz (w1.heap.size+1) wr)
  case atStart=>exact mK.q
  case round=>
   obtain⟨z,acc,k,iv,hr,hk,ht,o,h0,F0⟩:=hrel;obtain⟨ip,ic,rfl⟩:=(KS.own o).form;have sT:=zhh ht;replace h0:=zh h0;replace F0:=zh F0;replace o:=zh o;cases k with
   |zero=>cases hr
   |succ k=>
    unfold Zv at hr;by_cases hc:z.bad=false/\z.n<toks.length
    ·obtain⟨_,_,_,_,c1,_,c3,_,_⟩:=h0.q.look;rw[if_pos (by simpa using hc)] at hr;rw[hc.1] at c3;have me:(z.n:Int)<(toks.length:Int):=by omega
     replace hr:=zh hr;have sC:acc.length<=100000:=by simp only at hk;omega
     have HT:=zh ht;have htn:=zh (show toks.length+1-(acc.length+1)<toks.length+1-acc.length by simp only at hk;omega);have rU:=zh (show (acc.length+1)+k=toks.length+1 by simp only at hk;omega);clear hk hc;go_wp2_with fail;have hS:∀W,(jX (w1.heap.size+1)).rel wr.drew W->(W.cell? ⟨w1.heap.size+1,1,none⟩=some (.slice ip acc.length ic)):=λW hW=>zd ((show W.heap[w1.heap.size+1]? =wr.heap[w1.heap.size+1]? from hW).trans HT.q) 1
     have hd:=ko h0;have FD:=zh (zi hd HT.q);have o1:=zh (zm o.q hd);have F1:=zh (F0.q.drew);have h1:=zh (h0.q.below hd);clear hd;refine LodeX.xC (RR:=jX (w1.heap.size+1)) (Xp:=λ_ _=>False) [(0,0),(1,1),(2,2),(3,2),(4,2),(5,0),(6,3)] ?_;refine LodeX.xt ?_;refine LodeX.callX λK hK=>?_
     go_simp;refine ye hr (yX HI.q h1) (zh (RF.refl _ _ _)) ?_;clear hr;intro x2 z2 wc mc hc Fc fc hr;have SU:=(ZY h1 fc FD.q ⟨by decide,by decide⟩).trans FD.q;have o2:=zh (zx o1.q h1.q fc.q);have F2:=zh (F1.q.trans fc.q.b);refine⟨SU.trans FD.q.symm,hK _ _ ?_⟩;clear hK K hS
     try simp only[Act.put,yh,yf,yg]
     refine LodeX.callX λK hK=>?_
     go_simp;have dE:=zf wc (.cells #[.int .i64 x2] 3 (0,0));have gU:=zi dE SU;have o3:=zh (zm o2.q dE);have F3:=zh (F2.q.trans (dE.mono hc.q.bs.1));have h3:=zh (hc.q.below dE);refine⟨gU.trans SU.symm,hK _ _ ?_⟩;clear hK K
     try simp only[Act.put,yh,yf,yg]
     refine LodeX.callX λK hK=>?_
     refine yE _ _ rfl (by rfl) o3.q (by rfl) (zd (zk wc _) 0) rfl rfl (by omega) (by have:=F3.q.size;omega) ?_;intro g' cap' wd mC mA mJ;obtain⟨⟨fz,cz⟩,hq,v4,c4,e4,Cs,SW,h4,F4,o4⟩:=zoj (x:=x2) h3 gU o3 F3 (pC _) (Nat.le_succ _) mC mA mJ;rw[e4];refine⟨hq,hK _ _ ?_⟩;subst Cs;have EA:=zhh SW;clear hK K mC mA mJ hq e4
     try simp only[Act.put,yh,yf,yg]
     refine LodeX.xt ?_;refine LodeX.yG rfl rfl (λV hV=>?_);cases hV;go_simp;refine LodeX.yL ?_;have dV:(acc ++ [x2]).length+k=toks.length+1:=by rw[pE,pI];exact rU.q
     go_wp2;go_roundw
     case rel=>exact⟨_,_,_,_,hr.q,dV,SW,o4.q,h4.q,F4.q⟩
     case measure=>rw[sT,EA];exact htn.q
    ·rw[if_neg (by simpa using hc)] at hr;have e:=Option.some.inj hr;cases e;obtain⟨nv,tv,kv,P,_,_⟩:=h0.q;have aG:=KR P.nz P.kvl P.kz;have NL:TR wr nv (.slice ip items.length ic) ⟨st.nz,items⟩:=⟨⟨kv,aG⟩,KS.own o.q⟩;have bf:=P.obj;obtain⟨np,nc,rfl⟩:=aG.form;obtain⟨tp2,tc2,Pn,DW⟩:=tN.fr F0.q;cases Pn;have FZ:=(F0.q.block N em.q).trans hZ.q;have Gv:=zh (hBB.q.trans (F0.q.mono (Nat.le_of_lt em.q)));clear P aG h0 o hk sT F0 hr;obtain⟨tb,Bm⟩:=exE (w1.heap.size+1);rw[Bm] at ht;have hNt:N<tb:=by have:=em.q;omega
     have hNp:=em.q;have HTR:=zh NL;have ho:=zh (zt ht 0 (.slice np st.nz.length nc));have Wr:=zh ((zv (w:=wr) (i:=0) (v:=.slice np st.nz.length nc) (show w1.heap.size≠tb by omega)).trans bf);have mT:=zh ((zv (w:=wr) (i:=0) (v:=.slice np st.nz.length nc) (show N≠tb by omega)).trans FZ);have eo:=zh (NL.ZY ht (λg hg=>zv (i:=0) (v:=.slice np st.nz.length nc) hg));have rB:Hid (Below N w (wr.setCell ⟨tb,0,none⟩ (.slice np st.nz.length nc))):=zh (Gv.q.setCell (by show N<=tb;omega) _);have c1:=zd bf 1;have c2:=zd bf 2;have c3:=zd bf 3;have t0:=zd ht 0;have t1:=zd ht 1;have f0:=zj ht 0;cases ab:st.bad with
     |true=>
      rw[ab] at c3;cases cY:qh toks s.size with
      |ok u t=>
       have e1:=Pa.q.1 t cY;rw[HQ.q] at e1;have e2:st=⟨t.nz,t.next,false⟩:=congrArg Prod.snd (Option.some.inj e1);rw[e2] at ab;cases ab
      |bad p=>
       have mS:=mO.q;rw[cY] at mS;have mS:((⟨[],[]⟩,p,4):yJ×Int×Nat)=r:=mS;obtain⟨_,s',e1,_,hp⟩:=Pa.q.2 p cY;rw[HQ.q] at e1;have e2:st=s':=congrArg Prod.snd (Option.some.inj e1);rw[<-e2] at hp;clear e1 e2;by_cases mD:st.n<toks.length
       ·have me:(st.n:Int)<(toks.length:Int):=by omega
        have rp:¬((st.n:Int)<0):=by omega
        obtain⟨tk,AJ⟩:∃t,toks[st.n]? =some t:=⟨_,glE mD⟩;rw[AJ] at hp;have hp:(tk.at_:Int)=p:=hp;subst hp;obtain⟨g,gcs,gfr,dQ,rfl,hg,Pt⟩:=DW.resolve_left (λe=>by rw[e] at mD;cases mD);have Lu:=(Pt _ _ AJ).2.2;have cT:=(zv (w:=wr) (i:=0) (v:=.slice np st.nz.length nc) (show g≠tb by omega)).trans hg;have ev:g≠N:=vZ hg FZ (by decide);have TX:w1.heap.size≠N:=by omega
        have hS:=zgO Wr.q cT (i:=1) (j:=st.n*3+2) rfl Lu;have Mm:=zi (W:=(wr.setCell ⟨tb,0,none⟩ (.slice np st.nz.length nc)).drew) (bR.drew) mT.q;have v0:=zd mT.q 0;have v1:=zd mT.q 1;have s0:=zj mT.q 0;have s1:=zj mT.q 1;have y0:=zd Mm 0;have y1:=zd Mm 1;have x0:=zj Mm 0;have x1:=zj Mm 1;clear DW Pt cT hg Lu;go_wp2_with fail;refine LodeX.xC (RR:=zgp w1.heap.size g) (Xp:=λ_ _=>False) [(0,0),(1,0),(2,0),(3,1),(4,0),(5,0),(6,1),(7,2),(8,0),(9,0)] ?_;refine LodeX.xt ?_;refine LodeX.callX λK hK=>?_
        go_simp;obtain⟨r1,r2⟩:=xJ mT.q (.slice none 0 0) (.slice none 0 0);refine⟨⟨(zv TX).trans (zv TX),(zv ev).trans (zv ev)⟩,hK _ _ ?_⟩;clear hK K hS;have hS:∀W:World,True->True:=λ_ h=>h
        try simp only[Act.put,yh,yf,yg]
        refine LodeX.xt ?_;refine LodeX.zF λW hW=>?_
        cases hW;go_wp2;refine bodyPost_ret (v:=.tuple #[.agg #[.slice none 0 0,.slice none 0 0],.int .i64 tk.at_,.int .i64 4]) (by simp[results,results12,go_sem,zd r1]) rfl ?_;rw[<-mS];exact⟨by rw[rE];exact (rB.q.trans (r2 _ (pC _))).drew,_,_,rfl,TR.nil _⟩
       ·have me:¬((st.n:Int)<(toks.length:Int)):=by omega
        have RN:(s.size:Int)=p:=by
         rw[<-hp,wP (by omega)];rfl
        clear hp;subst RN;have v0:=zd mT.q 0;have v1:=zd mT.q 1;have s0:=zj mT.q 0;have s1:=zj mT.q 1;go_wp2_with fail;obtain⟨r1,r2⟩:=xJ mT.q (.slice none 0 0) (.slice none 0 0);refine bodyPost_ret (v:=.tuple #[.agg #[.slice none 0 0,.slice none 0 0],.int .i64 s.size,.int .i64 4]) (by simp[results,results12,go_sem,zd r1]) rfl ?_;rw[<-mS];exact⟨by rw[rE];exact rB.q.trans (r2 _ (pC _)),_,_,rfl,TR.nil _⟩
     |false=>
      rw[ab] at c3;have me:¬((st.n:Int)<(toks.length:Int)):=λh=>hc ⟨ab,by omega⟩
      cases cY:qh toks s.size with
      |bad p=>
       obtain⟨_,s',e1,BT,_⟩:=Pa.q.2 p cY;rw[HQ.q] at e1;have e2:st=s':=congrArg Prod.snd (Option.some.inj e1);rw[e2,BT] at ab;cases ab
      |ok u t=>
       cases u;obtain⟨tn,ti,tx⟩:=t;have e1:=Pa.q.1 _ cY;rw[HQ.q] at e1;have e3:items=ti:=congrArg Prod.fst (Option.some.inj e1);have e2:st.nz=tn:=congrArg jR.nz (congrArg Prod.snd (Option.some.inj e1));clear e1;subst e3;subst e2;have bE:=Yk cY;have Ih:=zh (show ∀(i:Nat) (x:Nd),st.nz[i]? =some x->∀k∈x.kz,0<=k/\k<(i:Int) from bE.wf);have tE:=zh (show ∀x∈st.nz,x.kz.length<=100000 from λx hx=>by have:=bE.kz x hx;omega);have BS:=zh (λh=>zci cY h);have mS:=mO.q;rw[cY] at mS;simp only at mS;replace mS:=zh mS;have v0:=zd mT.q 0;have v1:=zd mT.q 1;have s0:=zj mT.q 0;have s1:=zj mT.q 1;have o0:=zd ho.q 0;have o1:=zd ho.q 1;clear mO cY bE Pa HQ DW FZ NL;by_cases ap:1000<st.nz.length
       ·have sa:(1000:Int)<(st.nz.length:Int):=by omega
        have pu:((⟨[],[]⟩,0,5):yJ×Int×Nat)=r:=by rw[<-mS.q,if_pos (.inl ap)]
        go_wp2_with fail;obtain⟨r1,r2⟩:=xJ mT.q (.slice none 0 0) (.slice none 0 0);refine bodyPost_ret (v:=.tuple #[.agg #[.slice none 0 0,.slice none 0 0],.int .i64 0,.int .i64 5]) (by simp[results,results12,go_sem,zd r1]) rfl ?_;rw[<-pu];exact⟨by rw[rE];exact rB.q.trans (r2 _ (pC _)),_,_,rfl,TR.nil _⟩
       ·have sa:¬((1000:Int)<(st.nz.length:Int)):=by omega
        by_cases TE:40<items.length
        ·have Ru:(40:Int)<(items.length:Int):=by omega
         have pu:((⟨[],[]⟩,0,5):yJ×Int×Nat)=r:=by rw[<-mS.q,if_pos (.inr (.inl TE))]
         go_wp2_with fail;obtain⟨r1,r2⟩:=xJ mT.q (.slice none 0 0) (.slice none 0 0);refine bodyPost_ret (v:=.tuple #[.agg #[.slice none 0 0,.slice none 0 0],.int .i64 0,.int .i64 5]) (by simp[results,results12,go_sem,zd r1]) rfl ?_;rw[<-pu];exact⟨by rw[rE];exact rB.q.trans (r2 _ (pC _)),_,_,rfl,TR.nil _⟩
        ·have Ru:¬((40:Int)<(items.length:Int)):=by omega
         have hA:=zh (BS.q (by simp only;omega));have hD:=zh (zca ⟨st.nz,items⟩ (.slice np st.nz.length nc) (.slice ip items.length ic) _ eo.q.o Ih.q (by simp only;omega) tE.q);rw[hA.q.1] at mS;generalize eR:Zm ⟨st.nz,items⟩=dp at *;go_wp2_with fail;refine hD.q.mono ?_;rintro e w4 ⟨rfl,mQ⟩;have cB:=zi mQ mT.q;have SW:w4.heap[tb]? =some (.cells #[.slice np st.nz.length nc,.slice ip items.length ic] 26 (0,0)):=zi mQ ho.q;have gy:=zh (eo.q.below mQ);have cG:=zh (rB.q.trans (mQ.mono (pN (Nat.le_of_eq rE.symm) rB.q.size)));clear v0 v1 s0 s1 o0 o1 c1 c2 c3 t0 t1 f0 Wr bf ht ho mT eo rB hD mQ HTR Gv;have v0:=zd cB 0;have v1:=zd cB 1;have s0:=zj cB 0;have s1:=zj cB 1;have o0:=zd SW 0;have o1:=zd SW 1;by_cases dN:40<dp
         ·have WD:(40:Int)<(dp:Int):=by omega
          have pu:((⟨[],[]⟩,0,5):yJ×Int×Nat)=r:=by rw[<-mS.q,if_pos (.inr (.inr dN))]
          go_wp2_with fail;obtain⟨r1,r2⟩:=xJ cB (.slice none 0 0) (.slice none 0 0);refine bodyPost_ret (v:=.tuple #[.agg #[.slice none 0 0,.slice none 0 0],.int .i64 0,.int .i64 5]) (by simp[results,results12,go_sem,zd r1]) rfl ?_;rw[<-pu];exact⟨by rw[rE];exact cG.q.trans (r2 _ (pC _)),_,_,rfl,TR.nil _⟩
         ·have WD:¬((40:Int)<(dp:Int)):=by omega
          have pu:=mS.q;rw[if_neg (by omega),zgg hA.q.2] at pu;replace pu:=zh pu;clear mS dN hA BS;go_wp2;go_loopw [10] (λi wr'=>∃k:Nat,i=.int .i64 k/\k<=st.nz.length/\Below w4.heap.size w4 wr'/\Hid (∀(j:Nat) (x:Nd),j<k->st.nz[j]? =some x->kF st.nz x=true)) (λi _=>st.nz.length-(intOf i).toNat)
          case atStart=>exact⟨0,rfl,by omega,pG _ _,zh (λj x hj=>absurd hj (wF _))⟩
          case round=>
           obtain⟨k,rfl,hk,hb,mP⟩:=hrel;have tA:=zi hb cB;have FE:=zi hb SW;have MF:=zh (gy.q.below hb);have ek:=zh (cG.q.trans (hb.mono (pN (Nat.le_of_eq rE.symm) cG.q.size)));clear v0 v1 s0 s1 o0 o1;have v0:=zd tA 0;have v1:=zd tA 1;have s0:=zj tA 0;have s1:=zj tA 1;have o0:=zd FE 0;have o1:=zd FE 1;by_cases mD:k<st.nz.length
           ·have pf:(k:Int)<(st.nz.length:Int):=by omega
            have th:¬((k:Int)<0):=by omega
            obtain⟨x,hx⟩:∃x,st.nz[k]? =some x:=⟨_,glE mD⟩;have NK:=zh (zft ⟨st.nz,items⟩ (.slice np st.nz.length nc) (.slice ip items.length ic) k x _ MF.q.o hx (λq hq=>by have:=Ih.q k x hx q hq;simp only;omega) (tE.q x (wH hx)));simp only at NK;have Hx:=zh hx;clear hx;generalize nX:kF st.nz x=sz at NK;replace nX:=zh nX;go_wp2_with fail;refine NK.q.mono ?_;rintro e w6 ⟨rfl,nR⟩;have tP:=zi nR tA;have ht6:=zi nR FE;have SC:=zh (MF.q.below nR);have rC:=zh (zg hb nR);have fG:=zh (ek.q.trans (nR.mono (pN (Nat.le_of_eq rE.symm) ek.q.size)));clear v0 v1 s0 s1 o0 o1 nR NK;cases sz with
            |true=>
             go_wp2;go_roundw
             case rel=>
              refine⟨k+1,by go_num,by omega,rC.q,zh (λj y hj hy=>?_)⟩;by_cases e:j=k
              ·subst e;rw[Hx.q] at hy;cases hy;exact nX.q
              ·exact mP.q j y (by omega) hy
             case measure=>simp[intOf];omega
            |false=>
             have hf:=zac (p:=λy=> !kF st.nz y) Hx.q (by simp only[nX.q];rfl) (λj y hj hy=>by simp only[mP.q j y hj hy];rfl);have aj:=pu.q;rw[hf] at aj;have bg:((⟨[],[]⟩,x.at_,3):yJ×Int×Nat)=r:=aj;clear hf aj pu;obtain⟨kv2,aG⟩:=SC.q.nz;obtain⟨g,off,u,rfl,hA⟩:=aG.at Hx.q;have ev:∃cs fr,w6.heap[g]? =some (.cells cs 60 fr):=by
              obtain⟨_,_,p',cap',hv,h3⟩:=aG;cases hv;rcases h3 with h3|⟨g',off',cs,fr,hp,hg,_⟩
              ·have h3:st.nz=[]:=h3;have:=Hx.q;rw[h3] at this;simp at this
              ·cases hp;exact⟨cs,fr,hg⟩
             obtain⟨gcs,gfr,HE⟩:=ev;have ev:g≠N:=vZ HE tP (by decide);have TX:tb≠N:=by omega
             have h4:gcs[off+k*5+4]? =some (.int .i64 x.at_):=by rw[<-zd HE];exact hA.c4
             have hS:=zgO ht6 HE (i:=0) (j:=off+k*5+4) rfl h4;have Mm:=zi (W:=w6.drew) (bR.drew) tP;have v0:=zd tP 0;have v1:=zd tP 1;have s0:=zj tP 0;have s1:=zj tP 1;have y0:=zd Mm 0;have y1:=zd Mm 1;have x0:=zj Mm 0;have x1:=zj Mm 1;clear hA aG HE h4;go_wp2_with fail;refine LodeX.xC (RR:=zgp tb g) (Xp:=λ_ _=>False) [(0,0),(1,0),(2,1),(3,0),(4,0),(5,0),(6,1),(7,2),(8,0),(9,0)] ?_;refine LodeX.xt ?_;refine LodeX.callX λK hK=>?_
             go_simp;obtain⟨r1,r2⟩:=xJ tP (.slice none 0 0) (.slice none 0 0);refine⟨⟨(zv TX).trans (zv TX),(zv ev).trans (zv ev)⟩,hK _ _ ?_⟩;clear hK K hS;have hS:∀W:World,True->True:=λ_ h=>h
             try simp only[Act.put,yh,yf,yg]
             refine LodeX.xt ?_;refine LodeX.zF λW hW=>?_
             cases hW;go_wp2;refine bodyPost_ret (v:=.tuple #[.agg #[.slice none 0 0,.slice none 0 0],.int .i64 x.at_,.int .i64 3]) (by simp[results,results12,go_sem,zd r1]) rfl ?_;rw[<-bg];exact⟨by rw[rE];exact (fG.q.trans (r2 _ (pC _))).drew,_,_,rfl,TR.nil _⟩
           ·have sC:k=st.nz.length:=by omega
            have pf:¬((k:Int)<(st.nz.length:Int)):=by omega
            have hf:=zgf (p:=λy=> !kF st.nz y) (l:=st.nz) (λj y hj hy=>by simp only[mP.q j y (by omega) hy];rfl);have aj:=pu.q;rw[hf] at aj;have bg:((⟨st.nz,items⟩,0,0):yJ×Int×Nat)=r:=aj;clear hf aj pu;go_wp2_with fail;obtain⟨r1,r2⟩:=xJ tA (.slice np st.nz.length nc) (.slice ip items.length ic);refine bodyPost_ret (v:=.tuple #[.agg #[.slice np st.nz.length nc,.slice ip items.length ic],.int .i64 0,.int .i64 0]) (by simp[results,results12,go_sem,zd r1]) rfl ?_;rw[<-bg];exact⟨by rw[rE];exact ek.q.trans (r2 _ (pC _)),_,_,rfl,MF.q.ZY tA (λg hg=>(zv hg).trans (zv hg))⟩
 ·have SL:((e0:Int) != 0)=true:=by simp;omega
  have Pn:((e0:Int) == 0)=false:=by simp;omega
  have mS:((⟨[],[]⟩,at_,e0):yJ×Int×Nat)=r:=by
   have:=hr.q;rw[if_pos (by simpa using he)] at this;exact this
  go_wp2_with fail;obtain⟨r1,r2⟩:=xJ mY (.slice none 0 0) (.slice none 0 0);refine bodyPost_ret (v:=.tuple #[.agg #[.slice none 0 0,.slice none 0 0],.int .i64 at_,.int .i64 e0]) (by simp[results,results12,go_sem,zd r1]) rfl ?_;rw[<-mS];exact⟨by rw[rE];exact sd.trans (r2 _ (pC _)),_,_,rfl,TR.nil _⟩
def zgZ{t:yJ}(h:okB t=true):Qt t/\∀x∈t.nz,x.kz.length<=1000:=by
 unfold okB at h;simp only[pJ,pK,pY] at h;obtain⟨⟨h1,h2⟩,h3⟩:=h;exact⟨⟨λx hx=>(h1 x hx).1.1,λx hx=>by have:=(h1 x hx).1.2;omega,λx hx=>by have:=(h1 x hx).2;omega,by omega,by omega⟩,λx hx=>(h1 x hx).2⟩
end
section
open Go.RowKit Lode Go.Shelf
attribute [local go_sem ↓] wp_at_zero wp_at_succ
attribute [local irreducible] yQ Zw Qi ze1 zck zjP zcL okB
open Go.Proofs.Tryz
def kd1:(⟨k1.toArray⟩:ByteArray).data.toList=k1:=rfl
def kd2:(⟨k2.toArray⟩:ByteArray).data.toList=k2:=rfl
def kd3:(⟨k3.toArray⟩:ByteArray).data.toList=k3:=rfl
def kd4:(⟨k4.toArray⟩:ByteArray).data.toList=k4:=rfl
def kd5:(⟨k5.toArray⟩:ByteArray).data.toList=k5:=rfl
def kd6:(⟨k6.toArray⟩:ByteArray).data.toList=k6:=rfl
def Xt{p:α×β}{a:α}{b:β}(h1:p.1=a)(h2:p.2=b):p=(a,b):=Prod.ext h1 h2
def zfX(w:World)(hG:jQ w):Calls prog 10 #[] w (ue w (.bool true)):=by
 have HG:=zh hG;obtain⟨T1,en⟩:∃T,(yQ k1).1=T:=⟨_,rfl⟩;obtain⟨T4,gy⟩:∃T,(yQ k4).1=T:=⟨_,rfl⟩;obtain⟨T5,MF⟩:∃T,(yQ k5).1=T:=⟨_,rfl⟩;obtain⟨T6,SC⟩:∃T,(yQ k6).1=T:=⟨_,rfl⟩;obtain⟨A6,TF⟩:∃a,(yQ k6).2.1=a:=⟨_,rfl⟩;obtain⟨S3,bx⟩:∃s,(Zw k3).1=s:=⟨_,rfl⟩;have nO:=zgZ (t:=T1) (by rw[<-en];exact zo7);have WR:=zgZ (t:=T6) (by rw[<-SC];exact zo0);have rW:T1.nz.length=7:=by rw[<-en];exact zo6
 have HP1:=zh (λ(W:World) (hb:Below w.heap.size w W)=>(show Calls prog 11 #[.string ⟨#[114,111,111,116,32,97,58,32,105,110,116,32,61,32,49,32,43,32,98,32,42,32,50,59]⟩] W (JP (T1,0,0) W) from by
  have:=uN ⟨k1.toArray⟩ W (by show k1.length<=_;decide) (HG.q.later hb);rw[kd1,show yQ k1=(T1,0,0) from Xt en kn1] at this;exact this))
 have HP4:=zh (λ(W:World) (hb:Below w.heap.size w W)=>(show Calls prog 11 #[.string ⟨#[114,111,111,116,32,99,58,32,99,104,97,110,32,105,110,116,32,61,32,99,104,97,110,32,105,110,116,40,57,41,59]⟩] W (JP (T4,19,3) W) from by
  have:=uN ⟨k4.toArray⟩ W (by show k4.length<=_;decide) (HG.q.later hb);rw[kd4,show yQ k4=(T4,19,3) from Xt gy kn4] at this;exact this))
 have HP5:=zh (λ(W:World) (hb:Below w.heap.size w W)=>(show Calls prog 11 #[.string ⟨#[102,117,110,32,102,40,41,58,32,117,110,105,116,32,123,32,97,40,41,32,58,61,32,49,59,32,125]⟩] W (JP (T5,20,4) W) from by
  have:=uN ⟨k5.toArray⟩ W (by show k5.length<=_;decide) (HG.q.later hb);rw[kd5,show yQ k5=(T5,20,4) from Xt MF kn5] at this;exact this))
 have HP6:=zh (λ(W:World) (hb:Below w.heap.size w W)=>(show Calls prog 11 #[.string ⟨#[102,117,110,32,102,40,41,58,32,117,110,105,116,32,123,32,40,84,41,40,49,41,59,32,45,32,45,97,59,32,40,116,104,114,111,119,32,97,41,46,102,59,32,40,110,111,116,32,97,41,32,61,61,32,98,32,125]⟩] W (JP (T6,A6,0) W) from by
  have:=uN ⟨k6.toArray⟩ W (by show k6.length<=_;decide) (HG.q.later hb);rw[kd6,show yQ k6=(T6,A6,0) from Xt SC (Xt TF kn6)] at this;exact this))
 have Sn:=zh (λ(W:World) (hb:Below w.heap.size w W)=>(show Calls prog 29 #[.string ⟨#[102,117,110,32,102,40,41,58,117,110,105,116,123,40,103,41,40,40,49,41,41,59,125]⟩] W (znP W (k2o,0,0)) from by
  have:=zau ⟨k2.toArray⟩ W (by show k2.length<=_;decide) (HG.q.later hb) (λ_=>by rw[kd2];exact (zgZ zo2).1);rw[kd2,show Zw k2=(k2o,0,0) from kn2] at this;exact this))
 have HP3:=zh (λ(W:World) (hb:Below w.heap.size w W)=>(show Calls prog 29 #[.string ⟨#[102,117,110,32,102,32,40,32,41,32,58,32,117,110,105,116,32,123,32,40,103,41,40,40,49,41,41,59,32,59,32,125]⟩] W (znP W (S3,29,4)) from by
  have:=zau ⟨k3.toArray⟩ W (by show k3.length<=_;decide) (HG.q.later hb) (λ_=>by rw[kd3];exact (zgZ zo1).1);rw[kd3,show Zw k3=(S3,29,4) from Xt bx kn3] at this;exact this))
 have HS:=zh (λ(nv iv:Value) (W:World) (hb:Below w.heap.size w W) (hT:TR W nv iv T1)=>(show Calls prog 20 #[.agg #[nv,iv],.int .i64 5] W (RdI W (5,0)) from by
  have:=zkJ T1 nv iv 5 W hT (HG.q.later hb) nO.1 nO.2;rw[<-en,zo4] at this;exact this))
 have HU:=zh (λ(nv iv:Value) (W:World) (hb:Below w.heap.size w W) (hT:TR W nv iv T1)=>(show Calls prog 18 #[.agg #[nv,iv],.int .i64 4] W (RdI W (5,0)) from by
  have:=zgq T1 nv iv 4 W hT (HG.q.later hb) nO.1;rw[<-en,zo3] at this;exact this))
 have HW:=zh (λ(nv iv:Value) (W:World) (hb:Below w.heap.size w W) (hT:TR W nv iv T1)=>(show Calls prog 19 #[.agg #[nv,iv],.int .i64 3] W (RdL W ([6,5,4,3],0)) from by
  have:=zkO T1 nv iv 3 W hT (HG.q.later hb) nO.1 nO.2;rw[<-en,zo5] at this;exact this))
 have HF:=zh (λ(nv iv:Value) (W:World) (hb:Below w.heap.size w W) (hT:TR W nv iv T1)=>(show Calls prog 21 #[.agg #[nv,iv],.int .i64 20] W (RdI W (4,0)) from by
  have:=zkS T1 nv iv 20 W hT (HG.q.later hb) nO.1;rw[<-en,zo8] at this;exact this))
 have HN:=zh (λ(nv iv:Value) (W:World) (hb:Below w.heap.size w W) (hT:TR W nv iv T6)=>(show Calls prog 27 #[.agg #[nv,iv]] W (zox W (k6o,0)) from by
  have:=zbK T6 nv iv W hT (HG.q.later hb) WR.1;rw[<-SC,zoZ] at this;exact this))
 clear en gy MF SC TF bx nO WR hG;go_enter func10,ntmps10;go_wp2_with fail;refine (HP1.q w bR).mono ?_;rintro e w1 ⟨mF,nv1,Aa,rfl,MG⟩;obtain⟨Ft,Fq,Fb,Fa,rfl,rfl⟩:=MG.form;rw[rW] at MG ⊢;generalize T1.iz.length=m1 at *;have Az:=zh MG;have mY:=zk w1 (.cells #[.slice Ft 7 Fq,.slice Fb m1 Fa] 26 (0,0));have B1:=zg mF (zf w1 (.cells #[.slice Ft 7 Fq,.slice Fb m1 Fa] 26 (0,0)));have aq:=zf w1 (.cells #[.slice Ft 7 Fq,.slice Fb m1 Fa] 26 (0,0));have eI:=zh mY;clear MG mY rW;go_wp2_with fail;refine (Sn.q _ B1).mono ?_;rintro e w2 ⟨rfl,mM⟩;have B2:=zg B1 mM;go_wp2_with fail;refine (HP3.q _ B2).mono ?_;rintro e w3 ⟨rfl,mU⟩;have B3:=zg B2 mU;have C3:=zg mM mU;go_wp2_with fail;refine (HP4.q _ B3).mono ?_;rintro e w4 ⟨mQ,nv4,iv4,rfl,Pb⟩;obtain⟨OP,OL,Is,Ip,rfl,rfl⟩:=Pb.form;have HT4:=zh Pb;clear Pb;generalize T4.nz.length=n4 at *;generalize T4.iz.length=m4 at *;have hA4:=zf w4 (.cells #[.slice OP n4 OL,.slice Is m4 Ip] 26 (0,0));have HZ4:=zh (zk w4 (.cells #[.slice OP n4 OL,.slice Is m4 Ip] 26 (0,0)));have cG:=zg mQ hA4;have B4:=zg B3 cG;have C4:=zg C3 cG;go_wp2_with fail;refine (HP5.q _ B4).mono ?_;rintro e w5 ⟨mt,nv5,iv5,rfl,Pc⟩;obtain⟨OQ,OM,It,Iq,rfl,rfl⟩:=Pc.form;have HT5:=zh Pc;clear Pc;generalize T5.nz.length=n5 at *;generalize T5.iz.length=m5 at *;have hA5:=zf w5 (.cells #[.slice OQ n5 OM,.slice It m5 Iq] 26 (0,0));have HZ5:=zh (zk w5 (.cells #[.slice OQ n5 OM,.slice It m5 Iq] 26 (0,0)));have ek:=zg mt hA5;have B5:=zg B4 ek;have C5:=zg C4 ek;have c0:=zd (zi C5 eI.q) 0;have c1:=zd (zi C5 eI.q) 1;go_wp2_with fail;clear c0 c1;refine (HS.q _ _ _ B5 (Az.q.below (zg aq C5))).mono ?_;rintro e wa ⟨rfl,wq⟩;have Ba:=zg B5 wq;have Ca:=zg C5 wq;have c0:=zd (zi Ca eI.q) 0;have c1:=zd (zi Ca eI.q) 1;go_wp2_with fail;clear c0 c1;refine (HU.q _ _ _ Ba (Az.q.below (zg aq Ca))).mono ?_;rintro e wb ⟨rfl,pn⟩;have Bb:=zg Ba pn;have Cb:=zg Ca pn;have c0:=zd (zi Cb eI.q) 0;have c1:=zd (zi Cb eI.q) 1;go_wp2_with fail;clear c0 c1;refine (HW.q _ _ _ Bb (Az.q.below (zg aq Cb))).mono ?_;rintro e wc ⟨pv,rfl,El,Lm⟩;obtain⟨pp,pc,rfl⟩:=El.form;have HPV:=zh El;clear El;have Bc:=zg Bb Lm;have Cc:=zg Cb Lm;have c0:=zd (zi Cc eI.q) 0;have c1:=zd (zi Cc eI.q) 1;go_wp2_with fail;clear c0 c1;refine (HF.q _ _ _ Bc (Az.q.below (zg aq Cc))).mono ?_;rintro e wd ⟨rfl,NN⟩;have Bd:=zg Bc NN;have Cd:=zg Cc NN;go_wp2_with fail;refine (HP6.q _ Bd).mono ?_;rintro e w6 ⟨nR,nv6,iv6,rfl,Pd⟩;obtain⟨OR,ON,Iu,Ir,rfl,rfl⟩:=Pd.form;have HT6:=zh Pd;clear Pd;generalize T6.nz.length=n6 at *;generalize T6.iz.length=m6 at *;have TF:=zf w6 (.cells #[.slice OR n6 ON,.slice Iu m6 Ir] 26 (0,0));have GU:=zh (zk w6 (.cells #[.slice OR n6 ON,.slice Iu m6 Ir] 26 (0,0)));have fG:=zg nR TF;have B6:=zg Bd fG;have C6:=zg Cd fG;have e0:=zd GU.q 0;have e1:=zd GU.q 1;go_wp2_with fail;clear e0 e1;refine (HN.q _ _ _ B6 (HT6.q.below TF)).mono ?_;rintro e we ⟨rfl,SF⟩;have Be:=zg B6 SF;have Ce:=zg C6 SF;have c0:=zd (zi Ce eI.q) 0;have c1:=zd (zi Ce eI.q) 1;have HI:=zh (λW (hb:Below we.heap.size we W) (u:Value) (hu:KSo W u [6,5,4,3])=>Qc (.slice pp 4 pc) u [6,5,4,3] [6,5,4,3] W (HPV.q.o.below (zg (zg NN (zg fG SF)) hb)) hu (by decide));go_wp2_with fail;refine (HI.q _ (zf _ _) _ (KS.lit we [6,5,4,3]).o).mono ?_;rintro e wf ⟨rfl,hbf⟩;simp only[decide_true];have Bf:=zg (zg Be (zf _ _)) hbf;clear HI c0 c1;unfold k6o;go_wp2;go_ret;exact⟨by simp,Bf⟩
end
end Go.Proofs.YtcagibbaeageoaaGreatDoor
namespace Lode
def zcj(s:List UInt8):(yQ s).1.nz.length<=1000/\(yQ s).1.iz.length<=40/\∀x∈(yQ s).1.nz,x.kz.length<=100000:=by
 obtain⟨r,hr⟩:=exE (yQ s);rw[hr];unfold yQ at hr;obtain⟨⟨l,a,e⟩,bE⟩:∃q,vB s=q:=⟨_,rfl⟩;have mV:=(YP s).2;rw[bE] at hr mV;simp only at hr mV;have z:∀(p:Int) (e:Nat),((⟨[],[]⟩,p,e):yJ×Int×Nat)=r->r.1.nz.length<=1000/\r.1.iz.length<=40/\∀x∈r.1.nz,x.kz.length<=100000:=λp e h=>by
  rw[<-h];exact⟨pU _,pU _,λx hx=>by cases hx⟩
 split at hr
 ·exact z _ _ hr
 ·cases hp:qh l s.length with
  |bad p=>rw[hp] at hr;exact z _ _ hr
  |ok u st=>
   rw[hp] at hr;simp only at hr;split at hr
   ·exact z _ _ hr
   ·rename_i hs;split at hr
    ·exact z _ _ hr
    ·rw[<-hr];simp only;exact⟨by omega,by omega,λx hx=>by have:=(Yk hp).kz x hx;omega⟩
end Lode
namespace Go.Proofs.YtcagibbaeageoaaGreatDoor
section
open Go.RowKit Lode Go.Shelf
attribute [local go_sem ↓] wp_at_zero wp_at_succ
open Go.Proofs.Tryz
def zfT(s:ByteArray)(w:World)(hG:jQ w):Calls prog 3 #[.string s] w (ue w (.bool true)):=by
 have LR:=zh (λW (hW:Below w.heap.size w W)=>zfX W (hG.later hW));by_cases hs:4000<s.size
 ·have RS:(4000:Int)<(s.size:Int):=by omega
  have B0:=zh (pG w.heap.size w);go_enter func3,ntmps3;go_wp2_with fail;refine (LR.q _ B0.q).mono ?_;rintro e w1 ⟨rfl,hb⟩;go_wp2;go_ret;exact⟨rfl,hb⟩
 ·have RS:¬((4000:Int)<(s.size:Int)):=by omega
  have hP:=zh (uN s w (by omega) hG);have hR:=zh (λW=>zfw s W (by omega));have Mg:=zh (zcj s.data.toList);generalize yQ s.data.toList=r at *;obtain⟨t,a,e0⟩:=r;clear hs;go_enter func3,ntmps3;go_wp2_with fail;refine hP.q.mono ?_;rintro e w1 ⟨mF,nv,iv,rfl,en⟩;obtain⟨p1,c1,q1,d1,rfl,rfl⟩:=en.o.form;generalize bD:t.nz.length=nl at *;generalize sT:t.iz.length=il at *;have hz:=zk w1 (.cells #[.slice none 0 0,.slice none 0 0] 26 (0,0));have hA:=zf w1 (.cells #[.slice p1 nl c1,.slice q1 il d1] 26 (0,0));have hTa:=zh (en.below hA);have hwa:=zh (zg mF hA);have sH:=zh (zk w1 (.cells #[.slice p1 nl c1,.slice q1 il d1] 26 (0,0)));have a0:=zd hz 0;have a1:=zd hz 1;have b0:=zj hz 0;have b1:=zj hz 1;clear hz hA en;replace bD:=zh bD;replace sT:=zh sT;clear hP;go_wp2_with fail;refine (hR.q _).mono ?_;rintro e w2 ⟨mM,Rj,Ri,rfl,eo⟩;have eo:=zh eo;have fV:=eo.q.o.form;simp only[bD.q,sT.q] at fV;obtain⟨p2,c2,q2,d2,rfl,rfl⟩:=fV;have cZ:=zi mM sH.q;have Lf:=hTa.q.below mM;have hz:=zk w2 (.cells #[.slice none 0 0,.slice none 0 0] 26 (0,0));have hA:=zf w2 (.cells #[.slice p2 nl c2,.slice q2 il d2] 26 (0,0));have r1:=zk w2 (.cells #[.slice p2 nl c2,.slice q2 il d2] 26 (0,0));have hTc:=zh (Lf.below hA);have hTd:=zh (eo.q.below hA);have sO:=zh (zg (zg hwa.q mM) hA);have rt:=zi hA cZ;have m0:=zd rt 0;have m1:=zd rt 1;have f0:=zd r1 0;have f1:=zd r1 1;have a0:=zd hz 0;have a1:=zd hz 1;have b0:=zj hz 0;have b1:=zj hz 1;have hSa:=zh (λW hW=>zfu t t (.slice p1 nl c1) (.slice q1 il d1) (.slice p2 nl c2) (.slice q2 il d2) W (hTc.q.o.below hW) (hTd.q.o.below hW) (by have:=Mg.q.1;have:=bD.q;omega) (by have:=Mg.q.2.1;have:=sT.q;omega) (λx hx=>by have:=Mg.q.2.2 x hx;omega));clear cZ rt Lf hz hA r1 mM sH;go_wp2_with fail;refine (hSa.q _ bR).mono ?_;rintro e w5 ⟨sb,rfl,sY,mt⟩;have mK:sb=true:=sY.2 (by first|rfl|trivial);subst mK;have AP:=zg sO.q mt;go_wp2_with fail;refine (LR.q w5 AP).mono ?_;rintro e w6 ⟨rfl,nR⟩;have AQ:=zg AP nR;go_wp2;go_ret;exact⟨rfl,AQ⟩
