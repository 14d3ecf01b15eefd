/-
  A part of the proof: contracts of functions; no conditions.
-/
import Derived.Test.YtcagibbaeageoaaGreatDoorCR
import Derived.Test.YtcagibbaeageoaaGreatDoorCS
set_option maxRecDepth 100000
set_option maxHeartbeats 40000000
set_option linter.unusedSimpArgs false
set_option linter.unusedVariables false
namespace Go.Proofs.YtcagibbaeageoaaGreatDoor
section
open Go.RowKit Lode Go.Shelf
attribute [local go_sem ↓] Go.wp_at_zero Go.wp_at_succ
open Go.Proofs.Tryz
def ctT(l:List Nd)(f z:Nat)(j:Nat):zU:=⟨jl ((l.drop f).take j) (-(f:Int)),[(z:Int)-(f:Int)]⟩
theorem zjY(l:List Nd)(f z:Nat){j:Nat}(h:f+j<=l.length):(ctT l f z j).nodes.length=j:=by
 unfold ctT jl;rw[wO,wZ,wV];omega
theorem ziu(l:List Nd)(f z:Nat){j:Nat}{x:Nd}(hx:l[f+j]? =some x):ctT l f z (j+1)=⟨(ctT l f z j).nodes ++ [ZH x (-(f:Int))],(ctT l f z j).items⟩:=by
 unfold ctT;rw[zcl (l.drop f) (-(f:Int)) (j:=j) (x:=x) (by rw[List.getElem?_drop];exact hx)]
def zkJ(B ob f:Nat)(T:Nat->zU)(m:Nat)(w:World)(i:Value)(wr:World):Prop:=∃(j:Nat) (nv iv:Value) (kv:List Value),i=.int .i64 ((f+j:Nat):Int)/\j<=m/\wr.heap[ob]? =some (.cells #[nv,iv] 26 (0,0))/\vo wr B nv iv (T j) kv/\Below B w wr
theorem zhH(t:zU)(nv iv:Value)(item:Int)(w:World)(hT:Jy w nv iv t)(hok:ut t)(hk:∀x∈t.nodes,x.kids.length<=1000):
 Calls prog 33 #[.agg #[nv,iv],.int .i64 item] w (zj9 w (KH t item)):=by
 have hCk:=zj (fun W (hW:Below w.heap.size w W)=>JX t nv iv W (hT.below hW) hok.nodes hok.items (fun x hx=>by have:=hk x hx;omega) hok.text);have hSz:=zj (fun W (hW:Below w.heap.size w W)=>JS t nv iv W (hT.below hW) hok.nodes (fun x hx=>by have:=hk x hx;omega));have hcr:=zj (fun (h:xh t=0) (j:Nat) (hj:j<t.items.length)=>And.intro (zan h hj) (Ky h (item:=j) ⟨by omega,by omega⟩));have hba:=zj (fun (h:xh t=0)=>KM (t:=t) h);have hFl:=zj (fun (h:xh t=0)=>(Zq h).1);have HT:=zj hT;have Hk:=zj hk;obtain⟨np,nc,ip,ic,rfl,rfl⟩:=hT.form;obtain⟨n1,hn1⟩:∃n,t.nodes.length=n:=⟨_,rfl⟩;obtain⟨m1,hm1⟩:∃n,t.items.length=n:=⟨_,rfl⟩;obtain⟨r,hr⟩:=exE (KH t item);rw[hr];unfold KH at hr;rw[hn1,hm1] at hCk HT hba;rw[hm1] at hr hcr;rw[hn1,hm1] at hSz;rw[hn1] at hcr hFl;rw[hn1,hm1];have h0:=zK [.cells #[.slice np n1 nc,.slice ip m1 ic] 26 (0,0),.cells #[.slice none 0 0,.slice none 0 0] 26 (0,0)] w;have hAl:Below w.heap.size w _:=zQ [.cells #[.slice np n1 nc,.slice ip m1 ic] 26 (0,0),.cells #[.slice none 0 0,.slice none 0 0] 26 (0,0)] w;simp only[List.foldl_cons,List.foldl_nil,pN,wC] at hAl h0;have r0:=h0 0 _ rfl;rw[Nat.add_zero] at r0;have r1:=h0 1 _ rfl;have c0:=zd r0 0;have c1:=zd r0 1;have R0:=zj r0;have R1:=zj r1;have HAl:=zj hAl;have Hr:=zj hr;have Hn1:=zj hn1;have Hm1:=zj hm1;generalize xh t=ck at *;clear h0 hAl r0 r1 hT hok hk hn1 hm1 hr;go_enter func33,ntmps33;go_wp2_with fail;refine (hCk.out _ HAl.out).mono ?_;rintro e w1 ⟨rfl,hb1⟩;have r0:=zi hb1 R0.out;have S1:=zj (zi hb1 R1.out);have hbe:=zj (zf HAl.out hb1);have ret0:∀(W:World) (x:Nat),Below w.heap.size w W->W.heap[w.heap.size+1]? =some (.cells #[.slice none 0 0,.slice none 0 0] 26 (0,0))->zj9 w (⟨[],[]⟩,x) (.returned (.tuple #[.agg #[.slice none 0 0,.slice none 0 0],.int .i64 x])) ((W.setCell ⟨w.heap.size+1,0,none⟩ (.slice none 0 0)).setCell ⟨w.heap.size+1,1,none⟩ (.slice none 0 0)):=fun W x hW h=>⟨hW.trans ((yW h _ _).2 _ (by omega)),_,_,rfl,TR.nil _⟩
 replace ret0:=zj ret0;have c0:=zd r0 0;have c1:=zd r0 1;have z0:=zd S1.out 0;have z1:=zd S1.out 1;have f0:=zk S1.out 0;have f1:=zk S1.out 1;have hr:=Hr.out;have R0:=zj r0;have hs1:=zj (pQ (show w.heap.size+2<=_ by simp) hb1.size);clear hb1 HAl hCk Hr R1 r0;by_cases hck:ck=0
 ·rw[if_neg (by simp[hck])] at hr;by_cases hi0:item<0
  ·rw[if_pos (.inl hi0)] at hr;subst hr;rw[hck];go_wp2_with fail;obtain⟨q1,_⟩:=yW S1.out (.slice none 0 0) (.slice none 0 0);exact bodyPost_ret (v:=.tuple #[.agg #[.slice none 0 0,.slice none 0 0],.int .i64 (7:Nat)]) (by simp[results,results33,go_sem,zd q1]) rfl (ret0.out _ 7 hbe.out S1.out)
  by_cases hi1:(m1:Int)<=item
  ·rw[if_pos (.inr hi1)] at hr;subst hr;rw[hck];go_wp2_with fail;obtain⟨q1,_⟩:=yW S1.out (.slice none 0 0) (.slice none 0 0);exact bodyPost_ret (v:=.tuple #[.agg #[.slice none 0 0,.slice none 0 0],.int .i64 (7:Nat)]) (by simp[results,results33,go_sem,zd q1]) rfl (ret0.out _ 7 hbe.out S1.out)
  rw[if_neg (by omega)] at hr;obtain⟨j,rfl⟩:=pJ (show 0<=item by omega);obtain⟨⟨f,z,hf,hz,hfz,hzn⟩,hfe⟩:=hcr.out hck j (by omega);obtain⟨ba1,ba2,ba3,ba4⟩:=hba.out hck;rw[<-hfe,hf,pO,hz] at hr;replace hr:=zj hr;replace ba3:=zj ba3;have hFl:=hFl.out hck;rw[hck];have hlt:j<m1:=by omega
  have hlt':(j:Int)<(m1:Int):=by omega
  have hjn:¬((j:Int)<0):=by omega
  have hjm:¬((m1:Int)<=(j:Int)):=by omega
  obtain⟨g1,o1,rfl,hc⟩:=HT.out.items.at (j:=j) (by rw[Hm1.out];exact hlt);rw[hz] at hc;have hsz:((qi t.nodes n1).getD z 0:Int)=(z:Int)+1-f:=by
   unfold Kz at hfe;rw[pO,hz,hf,pO,Hn1.out] at hfe;omega
  have hszl:z<(szI (qi t.nodes n1)).length:=by
   unfold szI;rw[wO,show (qi t.nodes n1).length=n1 from hFl];exact hzn
  have hszv:(szI (qi t.nodes n1)).getD z 0=(z:Int)+1-f:=by
   rw[<-hsz];unfold szI;rw[pB,pB,wD];cases (qi t.nodes n1)[z]? <;> rfl
  have hszn:(szI (qi t.nodes n1)).length=n1:=by
   unfold szI;rw[wO,show (qi t.nodes n1).length=n1 from hFl]
  generalize szI (qi t.nodes n1)=sz at *;have hc:=zh hbe.out hc;clear hck hba hcr ba4 hFl hfe hsz;have w1z:=pC ((z:Int)+1) (by omega);have wsz:IntKind.i64.wrap ((z:Int)+1-((z:Int)+1-f))=(f:Int):=by rw[pC _ ⟨by omega,by omega⟩];omega
  have wzf:=pC ((z:Int)-(f:Int)) (by omega);have wnf:IntKind.i64.wrap (-(f:Int))= -(f:Int):=pC _ ⟨by omega,by omega⟩;have k1:¬((z:Int)<0):=by omega
  have k2:(z:Int)<(n1:Int):=by omega
  go_wp2_with fail;refine (hSz.out _ hbe.out).mono ?_;rintro e w2 ⟨v2,rfl,K2,hb2⟩;obtain⟨p2,c2,rfl⟩:=K2.form;rw[hszn] at K2 ⊢;obtain⟨g2,o2,rfl,_,hd⟩:=K2.at (j:=z) (by omega);rw[hszv] at hd;have c0:=zh hb2 c0;have S2:=zj (zi hb2 S1.out);have R0:=zj (zi hb2 R0.out);have hs2:=zj (pQ hs1.out hb2.size);have hbe:=zj (zf hbe.out hb2);clear hb2 K2 c1 hc z0 z1 f0 f1 S1 hSz;go_wp2_with fail;have hbA:=zg w2 (.cells #[.int .i64 ((z:Int)-(f:Int))] 3 (0,0));have hbB:=zf hbA (zg (w2.alloc (.cells #[.int .i64 ((z:Int)-(f:Int))] 3 (0,0))) (.cells #[.slice none 0 0,.slice (some ⟨w2.heap.size,0,none⟩) 1 1] 26 (0,0)));have hob:=zl (w2.alloc (.cells #[.int .i64 ((z:Int)-(f:Int))] 3 (0,0))) (.cells #[.slice none 0 0,.slice (some ⟨w2.heap.size,0,none⟩) 1 1] 26 (0,0));rw[show (w2.alloc (.cells #[.int .i64 ((z:Int)-(f:Int))] 3 (0,0))).heap.size=w2.heap.size+1 by simp] at hob;have hw2:w.heap.size+2<=w2.heap.size:=hs2.out;have hO0:vo ((w2.alloc (.cells #[.int .i64 ((z:Int)-(f:Int))] 3 (0,0))).alloc (.cells #[.slice none 0 0,.slice (some ⟨w2.heap.size,0,none⟩) 1 1] 26 (0,0))) (w.heap.size+2) (.slice none 0 0) (.slice (some ⟨w2.heap.size,0,none⟩) 1 1) (ctT t.nodes f z 0) []:=by
   rw[show ctT t.nodes f z 0=⟨[],[(z:Int)-(f:Int)]⟩ from by simp[ctT,jl]];exact vo.mono (B:=w2.heap.size) ⟨⟨rfl,.inl ⟨rfl,rfl⟩⟩,rfl,fun j x v h=>by simp at h,zv (Xs w2 [(z:Int)-(f:Int)] (by simp)) (zg _ _),fun u hu=>by simp at hu⟩ hw2
  obtain⟨W,hW⟩:=exE ((w2.alloc (.cells #[.int .i64 ((z:Int)-(f:Int))] 3 (0,0))).alloc (.cells #[.slice none 0 0,.slice (some ⟨w2.heap.size,0,none⟩) 1 1] 26 (0,0)));have c0:=zh hbB c0;have S2:=zj (zi hbB S2.out);have hbe:=zj (zf hbe.out hbB);have hR0:=zj (zi hbB R0.out);rw[hW] at hob hO0 c0 S2 hbe hR0 ⊢;obtain⟨ob,hobe⟩:=exE (w2.heap.size+1);rw[hobe] at hob ⊢;have hobB:w.heap.size+2<=ob:=by omega
  have Hst:=zj (show zkJ (w.heap.size+2) ob f (ctT t.nodes f z) (z+1-f) W (.int .i64 (f:Int)) W from ⟨0,_,_,_,rfl,pV _,hob,hO0,pE _ _⟩);clear hW hobe hob hO0 hbA hbB c0 hw2 hs2;go_loopw [10] (zkJ (w.heap.size+2) ob f (ctT t.nodes f z) (z+1-f) W) (fun i _=>z+1-(intOf i).toNat)
  case atStart=>exact Hst.out
  case round=>
   obtain⟨j,nv,iv,kv,rfl,hj,hbox,hO,hf⟩:=hrel;have R0r:=(hf.block w.heap.size (by omega)).trans hR0.out;have y0:=zd R0r 0;have hlt1:ob<wr.heap.size:=(gtA hbox);by_cases hlt:f+j<=z
   ·obtain⟨q,hq⟩:=exE (f+j);rw[hq] at hlt ⊢;have Hq:=zj hq;have hlt':(q:Int)<=(z:Int):=by omega
    have hj0:¬((q:Int)<0):=by omega
    have hqn:(q:Int)<(n1:Int):=by omega
    have hy:=pC ((q:Int)+1) (by omega);obtain⟨x,hx⟩:∃x,t.nodes[q]? =some x:=⟨_,glE (by rw[Hn1.out];omega)⟩;have hx2:t.nodes[f+j]? =some x:=by rw[hq];exact hx
    have hmem:x∈t.nodes:=pM hx;obtain⟨g2,off2,u,rfl,N0⟩:=HT.out.nodes.at hx;have hg2:g2<w.heap.size:=World.block_lt_of_cell? w _ N0.c0;have N:=N0.below (hbe.out.trans (hf.mono (by omega)));have hx64:∀k∈x.kids,I64 (k+ -(f:Int)):=fun k hk=>by have:=ba3.out x hmem k hk;unfold I64;omega
    have hxk:x.kids.length<=100000:=by have:=Hk.out x hmem;omega
    have hS:∀V,(zj8 (w.heap.size+2) ob 0).rel wr.drew V->(V.cell? ⟨ob,0,none⟩=some nv/\V.cell? ⟨w.heap.size,0,none⟩=some (.slice (some ⟨g2,off2,none⟩) n1 nc)/\V.cell? ⟨g2,off2+q*5,none⟩=some (.int .u8 x.kind)/\V.cell? ⟨g2,off2+q*5+1,none⟩=some (.string ⟨x.text.toArray⟩)/\V.cell? ⟨g2,off2+q*5+2,none⟩=some (.int .i64 x.n)/\V.cell? ⟨g2,off2+q*5+3,none⟩=some u/\V.cell? ⟨g2,off2+q*5+4,none⟩=some (.int .i64 x.at_)):=fun V h=>by
     have key:∀k i y,k<w.heap.size+2->wr.cell? ⟨k,i,none⟩=some y->V.cell? ⟨k,i,none⟩=some y:=fun k i y hk hh=>by
      rw[World.cell?_of_block (h.1.block k hk)];exact hh
     exact⟨h.2.trans (zd hbox 0),key _ _ _ (by omega) y0,key _ _ _ (by omega) N.c0,key _ _ _ (by omega) N.c1,key _ _ _ (by omega) N.c2,key _ _ _ (by omega) N.c3,key _ _ _ (by omega) N.c4⟩
    have hstep:=ziu t.nodes f z hx2;obtain⟨T,hT⟩:=exE (ctT t.nodes f z j);obtain⟨y,hyd⟩:=exE (ZH x (-(f:Int)));rw[hT,hyd] at hstep;have hTn:T.nodes.length=j:=by rw[<-hT];exact zjY _ _ _ (by rw[Hn1.out];omega)
    rw[hT] at hO;have hTb:T.nodes.length<=100000:=by omega
    have Hstep:=zj hstep;clear hT hstep hTn;go_wp2_with fail;refine LodeX.qH (RR:=zj8 (w.heap.size+2) ob 0) (Xp:=fun _ _=>False) [(0,0),(1,1),(2,0),(3,1),(4,0),(5,0),(6,1),(7,0),(8,0),(9,2),(10,2),(11,2),(12,0),(13,3)] ?_;refine LodeX.qr ?_;clear hS;refine LodeX.callX fun K hK=>?_
    go_simp;refine (JW x u (-(f:Int)) _ (N.kids.below bR.drew) hx64 hxk).mono ?_;rintro e w3 ⟨v3,rfl,K3,B3,F3⟩;rw[hyd] at K3 ⊢;have hdn:∀g,xD v3=some g->iv.ownBlock≠some g:=fun g hg e=>by
     have h1:wr.heap.size<=g:=F3 g hg;have h2:=(hO.i.lt g e).2;omega
    obtain⟨p3,c3,rfl⟩:=K3.form;have O3:vo w3 _ _ _ _ _:=vo.below (w:=wr.drew) hO.drew B3;have hbox3:w3.heap[ob]? =_:=zi (w:=wr.drew) B3 hbox;have hs3:wr.heap.size<=w3.heap.size:=B3.size;refine⟨⟨B3.mono (show w.heap.size+2<=wr.heap.size by omega),(zd hbox3 0).trans (zd hbox 0).symm⟩,hK _ _ ?_⟩;clear hK K
    try simp only[Act.put,yC,yA,yB]
    refine LodeX.callX fun K hK=>?_
    go_simp;have hba:=zg w3 (.cells (xA y (.slice p3 y.kids.length c3)).toArray 60 (0,0));have O3b:=O3.below hba;have hbox3b:=zi hba hbox3;refine⟨⟨hba.mono (by omega),(zd hbox3b 0).trans (zd hbox3 0).symm⟩,hK _ _ ?_⟩;clear hK K
    try simp only[Act.put,yC,yA,yB]
    refine LodeX.callX fun K hK=>?_
    refine zbB (base:=w.heap.size+2) (b:=w3.heap.size) (y:=y) (u:=.slice p3 y.kids.length c3) _ _ rfl (by rfl) O3b.n (by rfl) (zl w3 _) rfl (by omega) (by simp;omega) ?_;intro v' w4 hrow hgrow;have O4:=O3b.addNode hrow hgrow (by simp;omega) (K3.below hba) hdn;have hbox4:w4.heap[ob]? =_:=(hgrow.block ob (by simp;omega) (fun e=>Qk O3b.n hbox3b (by decide) e.symm)).trans hbox3b;have hf4:=(Jq (base:=w.heap.size+2) O3b.n hgrow (by simp;omega)).b;have hf5:=((hf.trans ((pE _ wr).drew.trans (B3.mono (show w.heap.size+2<=wr.heap.size by omega)))).trans (hba.mono (by omega))).trans hf4;refine⟨⟨hf4,(zd hbox4 0).trans (zd hbox3b 0).symm⟩,hK _ _ ?_⟩;clear hK K;obtain⟨vp,vc,rfl⟩:∃vp vc,v'=.slice vp (T.nodes.length+1) vc:=by
     rcases hrow.2 with⟨_,h0⟩|⟨g',cap',cur,hv,_⟩
     ·omega
     ·exact⟨_,cap',hv⟩
    have d0:=zd hbox4 0;have e0:=zk hbox4 0;have HF:=zj (And.intro hbox4 (And.intro O4 hf5));clear hrow hgrow hO O3 O3b O4 hdn hf hf4 hf5 hbox hbox3 hbox3b hbox4 K3 B3 F3 hba hyd hx64 N N0
    try simp only[Act.put,yC,yA,yB]
    refine LodeX.qr ?_;refine LodeX.kA rfl rfl (fun V hV=>?_);cases hV;go_simp;refine LodeX.vC ?_;go_wp2;go_roundw
    case rel=>exact⟨j+1,_,_,_,by first|go_num|(congr 1;omega),by omega,zo HF.out.1 0 _,by rw[Hstep.out];exact HF.out.2.1.setBox HF.out.1 (by decide) (by decide) 0 _,HF.out.2.2.setCell (by omega) _⟩
    case measure=>simp[intOf];omega
   ·have hlt':¬(((f+j:Nat):Int)<=(z:Int)):=by omega
    have hTj:ctT t.nodes f z j=vR t f z:=by
     rw[show j=z+1-f by omega];unfold ctT vR;rw[pO,show ((z:Int)+1-(f:Int)).toNat=z+1-f by omega]
    rw[hTj] at hO;obtain⟨p7,c7,q7,e7,rfl,rfl⟩:=hO.tr.form;have o0:=zd hbox 0;have o1:=zd hbox 1;have S2r:=(hf.block (w.heap.size+1) (by omega)).trans S2.out;have z0:=zd S2r 0;have z1:=zd S2r 1;have f0:=zk S2r 0;have f1:=zk S2r 1;have hbf:=hbe.out.trans (hf.mono (by omega));have HF:=zj (And.intro S2r (And.intro hO hbf));generalize (vR t f z).nodes.length=n9 at *;generalize (vR t f z).items.length=m9 at *;clear S2r hO hbf hf hbox hTj;go_wp2_with fail;obtain⟨q1,q2⟩:=yW HF.out.1 (.slice p7 n9 c7) (.slice q7 m9 e7);refine bodyPost_ret (v:=.tuple #[.agg #[.slice p7 n9 c7,.slice q7 m9 e7],.int .i64 (0:Nat)]) (by simp[results,results33,go_sem,zd q1]) rfl ?_;rw[<-hr.out];exact⟨HF.out.2.2.trans (q2 w.heap.size (by omega)),_,_,rfl,((HF.out.2.1.setBox HF.out.1 (by decide) (by decide) 0 _).setBox (zo HF.out.1 0 _) (by decide) (by decide) 1 _).tr⟩
 ·rw[if_pos hck] at hr;subst hr;have h0':((ck:Int) != 0)=true:=by rw[gB];omega
  go_wp2_with fail;obtain⟨q1,_⟩:=yW S1.out (.slice none 0 0) (.slice none 0 0);exact bodyPost_ret (v:=.tuple #[.agg #[.slice none 0 0,.slice none 0 0],.int .i64 (ck:Nat)]) (by simp[results,results33,go_sem,zd q1]) rfl (ret0.out _ ck hbe.out S1.out)
end
end Go.Proofs.YtcagibbaeageoaaGreatDoor
