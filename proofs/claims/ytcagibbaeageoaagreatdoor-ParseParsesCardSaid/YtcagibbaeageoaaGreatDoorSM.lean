import Derived.Test.YtcagibbaeageoaaGreatDoorSL
import Derived.Deep.RegionHeld3
set_option maxRecDepth 100000
set_option maxHeartbeats 0
set_option linter.all false
variable{p:Prop}{w:Go.World}{e:Go.Ending}{T:Go.TypeId}
namespace Go.Proofs.YtcagibbaeageoaaGreatDoor
section
open Go.RowKit Lode Go.Shelf
attribute [local go_sem ↓] wp_at_zero wp_at_succ
open Go.Proofs.Tryz
def zmS(l:List Nd)(ks:List Int)(kind:Nat)(w:World)(many i:Value)(wr:World):Prop:=∃j:Nat,i=.int .i64 j/\many=.int .i64 ((ks.take j).countP λk=>zD l k == kind:Nat)/\j<=ks.length/\Below w.heap.size w wr
def zfx(t:yJ)(nv iv:Value)(i0 kind:Nat)(x:Nd)(w:World)(hT:TRo w nv iv t)(hx:t.nz[i0]? =some x)(ml:∀k∈x.kz,0<=k/\k<(t.nz.length:Int))(mf:x.kz.length<=100000):
 Calls prog 97 #[.agg #[nv,iv],.int .i64 i0,.int .u8 kind] w (ue w (.int .i64 (Xh t.nz x kind:Nat))):=by
 obtain⟨np,nc,ip,ic,rfl,rfl⟩:=hT.form;have hN:=hT.nz;have NU:(i0:Int)<(t.nz.length:Int):=by have:=(gtL hx);omega
 have Pu:¬((i0:Int)<0):=by omega
 obtain⟨g,off,u,rfl,sR⟩:=hN.at hx;obtain⟨up,uc,rfl⟩:=sR.kz.form;have hz:=zk w (.cells #[.slice (some ⟨g,off,none⟩) t.nz.length nc,.slice ip t.iz.length ic] 26 (0,0));have hA:=zf w (.cells #[.slice (some ⟨g,off,none⟩) t.nz.length nc,.slice ip t.iz.length ic] 26 (0,0));have HZ:=zh hz;have HN:=zh hN;have HK:=zh sR.kz;have H3:=zh sR.c3;have HIN:=zh ml;unfold Xh;obtain⟨y0,y1,y2,ks,y4⟩:=x;simp only at HK H3 HIN mf ⊢;obtain⟨m,hm⟩:=exE (ks.length);rw[hm] at H3 mf;have Hm:=zh hm;have mK:=zh (show zmS t.nz ks kind (w.alloc (.cells #[.slice (some ⟨g,off,none⟩) t.nz.length nc,.slice ip t.iz.length ic] 26 (0,0))) (.int .i64 0) (.int .i64 0) (w.alloc (.cells #[.slice (some ⟨g,off,none⟩) t.nz.length nc,.slice ip t.iz.length ic] 26 (0,0))) from ⟨0,rfl,rfl,pU _,pG _ _⟩);clear hT hz hN sR ml hm hx;go_enter func97,ntmps97;go_wp2;go_loopw [7,8] (zmS t.nz ks kind (w.alloc (.cells #[.slice (some ⟨g,off,none⟩) t.nz.length nc,.slice ip t.iz.length ic] 26 (0,0)))) (λ_ i _=>m-(intOf i).toNat)
 case atStart=>exact mK.q
 case round=>
  obtain⟨j,rfl,rfl,hj,hb⟩:=hrel;rw[Hm.q] at hj;have nh:=zg hA hb;have c0:=zd (zi hb HZ.q) 0;have c3:=zl nh H3.q;by_cases mD:j<m
  ·have me:(j:Int)<(m:Int):=by omega
   have th:¬((j:Int)<0):=by omega
   have hy:=pF ((j:Int)+1) (by omega);have py:j<ks.length:=by rw[Hm.q];omega
   obtain⟨g2,off2,rfl,d0⟩:=(HK.q.below nh).at py;have gX:=HIN.q (ks.getD j 0) (by rw[pA,glE py];exact wE py);have tN:ks.take (j+1)=ks.take j ++ [ks.getD j 0]:=by
    rw[gB,glE py,pA,glE py];rfl
   have Pk:(ks.take (j+1)).countP (λk=>zD t.nz k == kind)=(ks.take j).countP (λk=>zD t.nz k == kind)+if zD t.nz (ks.getD j 0) == kind then 1 else 0:=by
    rw[tN,List.countP_append,List.countP_singleton]
   have SI:(ks.take j).countP (λk=>zD t.nz k == kind)<=j:=pN List.countP_le_length (List.length_take_le _ _);generalize ks.getD j 0=z at *;obtain⟨zn,rfl⟩:=pO gX.1;have pe:¬((zn:Int)<0):=by omega
   have mY:(zn:Int)<(t.nz.length:Int):=gX.2;obtain⟨xz,Mk⟩:∃x,t.nz[zn]? =some x:=⟨_,glE (by omega)⟩;obtain⟨g3,off3,u3,dv,Gt⟩:=(HN.q.below nh).at Mk;cases dv;have WU:zD t.nz (zn:Int)=xz.kind:=by
    unfold zD;rw[pZ,Mk];rfl
   rw[WU] at Pk;have a0:=Gt.c0;have Hcnt:=zh Pk;generalize ra:(ks.take j).countP (λk=>zD t.nz k == kind)=cc at *;have hwc:=pF ((cc:Int)+1) (by omega);clear Pk Gt Mk WU tN ra gX;by_cases ID:xz.kind=kind
   ·have EG:((xz.kind:Int) == (kind:Int))=true:=by rw[pR];omega
    go_wp2_with fail;go_quiet (fail);go_wp2_with fail;have hc:=Hcnt.q;rw[if_pos (by simpa using ID)] at hc;exact⟨⟨j+1,by simp,by rw[hc];simp,by rw[Hm.q];omega,zO hb nq⟩,by simp[intOf];omega⟩
   ·have EG:((xz.kind:Int) == (kind:Int))=false:=bfE (by omega)
    go_wp2_with fail;go_quiet (fail);go_wp2_with fail;have hc:=Hcnt.q;rw[if_neg (by simpa using ID),Nat.add_zero] at hc;exact⟨⟨j+1,by simp,by rw[hc];rfl,by rw[Hm.q];omega,zO hb nq⟩,by simp[intOf];omega⟩
  ·have me:¬((j:Int)<(m:Int)):=by omega
   have fd:j=m:=by omega
   have tN:ks.take j=ks:=by rw[fd,<-Hm.q];exact List.take_length
   rw[tN];go_wp2;go_ret;exact⟨rfl,nh⟩
abbrev uk(l:List Nat):Array Value:=(l.map λ(k:Nat)=>Value.int .i64 k).toArray
def DrN(l:List Nd)(n D R:Nat)(w:World)(most i:Value)(wr:World):Prop:=∃(j m:Nat) (deep:List Nat),most=.int .i64 (m:Nat)/\i=.int .i64 ((j:Int)-1)/\j<=n/\deep.length=n/\wr.heap[D]? =some (.cells (uk deep) 3 (0,0))/\Xg l j deep m=R/\(∀x∈deep,x<=n-j+1)/\m<=n+1/\Below D w wr
def DrK(ks:List Int)(n D d B:Nat)(i:Nat)(F:List Nat)(w:World)(k:Value)(wr:World):Prop:=∃(q:Nat) (deep:List Nat),k=.int .i64 (q:Nat)/\q<=ks.length/\deep.length=n/\wr.heap[D]? =some (.cells (uk deep) 3 (0,0))/\xN d (ks.drop q) deep=F/\deep.getD i 0=d/\(∀x∈deep,x<=B)/\Below D w wr
def zca(t:yJ)(nv iv:Value)(w:World)(hT:TRo w nv iv t)(hk:∀(i:Nat) (x:Nd),t.nz[i]? =some x->∀k∈x.kz,0<=k/\k<(i:Int))(rW:t.nz.length<=1000)(mf:∀x∈t.nz,x.kz.length<=100000):
 Calls prog 47 #[.agg #[nv,iv]] w (ue w (.int .i64 (Zm t:Nat))):=by
 obtain⟨np,nc,ip,ic,rfl,rfl⟩:=hT.form;have HN:=zh hT.nz;obtain⟨nodes,items⟩:=t;unfold Zm;simp only at HN hk rW mf ⊢;obtain⟨n,hn⟩:=exE (nodes.length);generalize items.length=m;rw[hn] at rW HN ⊢;obtain⟨R,hR⟩:=exE (Xg nodes n (List.replicate n 0) 0);rw[hR];have ET:∀W:World,(Instr.makeSlice 24 (.int .i64 (n:Int)) (.int .i64 (n:Int))).run prog W=.ok (.slice (some ⟨W.heap.size,0,none⟩) n n) (W.alloc (.cells (Array.replicate n (Value.int .i64 0)) 3)):=λW=>by
  rw[zbj n (by omega) W];simp
 have h0:=zV [.cells #[.slice np n nc,.slice ip m ic] 26 (0,0),.cells (Array.replicate n (Value.int .i64 0)) 3 (0,0)] w;have hA:Below w.heap.size w _:=yw [.cells #[.slice np n nc,.slice ip m ic] 26 (0,0),.cells (Array.replicate n (Value.int .i64 0)) 3 (0,0)] w;simp only[List.foldl_cons,List.foldl_nil] at hA h0;have MM:=zk w (.cells #[.slice np n nc,.slice ip m ic] 26 (0,0));have bx0:=zd MM 0;have hz:=h0 0 _ rfl;rw[Nat.add_zero] at hz;have b0:=zd hz 0;have hd:=h0 1 _ rfl;obtain⟨W,hW⟩:=exE ((w.alloc (.cells #[.slice np n nc,.slice ip m ic] 26 (0,0))).alloc (.cells (Array.replicate n (Value.int .i64 0)) 3 (0,0)));have HW:=zh hW;have mK:DrN nodes n (w.heap.size+1) R W (.int .i64 0) (.int .i64 ((n:Int)-1)) W:=⟨n,0,List.replicate n 0,rfl,rfl,pC _,List.length_replicate,by rw[<-hW,hd];simp[uk],hR,λx hx=>by rw[(List.mem_replicate.1 hx).2];omega,by omega,pG _ _⟩;have y1:=pF ((n:Int)-1) (by omega);have Hst:=zh mK;have HA:=zh (hW▸hA);have HZ:=zh (hW▸hz);have Hn:=zh hn;have Hk:=zh hk;have Hkl:=zh mf;clear hT h0 hA MM hz hd hW mK hn hk mf hR;go_enter func47,ntmps47;go_wp2_with fail;rw[HW.q];go_loopw [4,5] (DrN nodes n (w.heap.size+1) R W) (λ_ i _=>(intOf i+1).toNat)
 case atStart=>exact Hst.q
 case round=>
  obtain⟨j,mm,deep,rfl,rfl,hj,dt,Dq,hR,NN,hmm,hb⟩:=hrel;have hZr:=(hb.block w.heap.size (by omega)).trans HZ.q;have q0:=zd hZr 0;have nh:=HA.q.trans (hb.mono (by omega));by_cases th:0<j
  ·obtain⟨i,rfl⟩:∃i,j=i+1:=⟨j-1,by omega⟩;rw[show (((i+1:Nat):Int)-1)=(i:Int) by omega];have NU:¬((i:Int)<0):=by omega
   have Pu:(0:Int)<=(i:Int):=by omega
   have ml:(i:Int)<(n:Int):=by omega
   have Br:=pF ((i:Int)-1) (by omega);obtain⟨x,hx⟩:∃x,nodes[i]? =some x:=⟨_,glE (by rw[Hn.q];omega)⟩;obtain⟨g,off,u,rfl,N0⟩:=HN.q.at hx;have N:=N0.below nh;obtain⟨e,he⟩:=exE (deep.getD i 0);have hD:∀(W':World) (dp:List Nat),dp.length=n->W'.heap[w.heap.size+1]? =some (.cells (uk dp) 3 (0,0))->∀k,k<n->W'.cell? ⟨w.heap.size+1,k,none⟩=some (.int .i64 (dp.getD k 0:Nat)):=λW' dp hl hh k hk=>by
    rw[zd hh k,pS,wC,pA,glE (by rw[hl];exact hk)];rfl
   have d0:=hD wr deep dt Dq i (by omega);rw[he] at d0;have f0:=zj Dq i;have heb:e<=n-(i+1)+1:=by
    rw[<-he,pA,glE (by rw[dt];omega)];have:=NN _ (wE (by rw[dt];omega:i<deep.length));simp only[Option.getD_some];omega
   unfold Xg at hR;rw[he,hx] at hR;simp only[Option.elim_some] at hR;obtain⟨e2,Pn⟩:=exE (max 1 e);rw[Pn] at hR;have hmx:max (1:Int) (e:Int)=(e2:Int):=by omega
   have CQ:=zh hR;have Hx:=zh hx;have HD:=zh hD;have CP:=zh N0;have Mf:(wr.setCell ⟨w.heap.size+1,i,none⟩ (.int .i64 e2)).heap[w.heap.size+1]? =some (.cells (uk (deep.set i e2)) 3 (0,0)):=by
    rw[zt Dq i];simp[uk,List.map_set]
   have Tt:=hb.setCell (p:=⟨w.heap.size+1,i,none⟩) (pC (w.heap.size+1)) (.int .i64 e2);have Hset:=zh Mf;have HbS:=zh Tt;clear hR hx N N0 he hD Mf Tt;go_wp2_with fail;generalize wr.setCell ⟨w.heap.size+1,i,none⟩ (.int .i64 e2)=wS at *;have Tt:=HbS.q;have Do:=HA.q.trans (Tt.mono (by omega));have hNS:=zh (CP.q.below Do);obtain⟨up,uc,rfl⟩:=CP.q.kz.form;obtain⟨kl,mf⟩:=exE (x.kz.length);have Hkl2:=zh mf;have EI:=Hkl.q x (wH Hx.q);rw[mf] at EI;have rv:DrK x.kz n (w.heap.size+1) e2 (n-i+1) i (xN e2 x.kz (deep.set i e2)) wS (.int .i64 0) wS:=⟨0,deep.set i e2,rfl,pU _,by simp[dt],Hset.q,by rw[List.drop_zero],by rw[pA,List.getElem?_set_self (by rw[dt];omega)];rfl,λy hy=>by
    rcases List.mem_or_eq_of_mem_set hy with h|h
    ·have:=NN y h;omega
    ·omega,pG _ _⟩
   have Hst2:=zh rv;have Hbd:=zh NN;clear rv mf NN;go_loopw [6] (DrK x.kz n (w.heap.size+1) e2 (n-i+1) i (xN e2 x.kz (deep.set i e2)) wS) (λk _=>kl-(intOf k).toNat)
   case atStart=>exact Hst2.q
   case round=>
    obtain⟨q,dp,rfl,hq,aI,ST,hF,Mc,hpb,mM⟩:=hrel;rw[Hkl2.q] at hq;have Dj:=Tt.trans mM;have hZ2:=(Dj.block w.heap.size (by omega)).trans HZ.q;have s0:=zd hZ2 0;have Dp:=HA.q.trans (Dj.mono (by omega));have NT:=CP.q.below Dp;have t3:=NT.c3;rw[Hkl2.q] at t3;by_cases db:q<kl
    ·have hql':(q:Int)<(kl:Int):=by omega
     have gL:¬((q:Int)<0):=by omega
     have Il:=pF ((q:Int)+1) (by omega);have Wy:q<x.kz.length:=by rw[Hkl2.q];exact db
     obtain⟨g2,off2,rfl,k0⟩:=NT.kz.at Wy;have gX:=Hk.q i x Hx.q (x.kz.getD q 0) (by rw[pA,glE Wy];exact wE Wy);have aS:x.kz.drop q=x.kz.getD q 0 :: x.kz.drop (q+1):=by
      rw[List.drop_eq_getElem_cons Wy,pA,glE Wy];rfl
     rw[aS] at hF;replace hF:xN e2 (x.kz.drop (q+1)) (dp.set (x.kz.getD q 0).toNat (e2+1))=xN e2 x.kz (deep.set i e2):=hF;generalize x.kz.getD q 0=z at *;obtain⟨zn,rfl⟩:=pO gX.1;rw[pZ] at hF;have pe:¬((zn:Int)<0):=by omega
     have mY:(zn:Int)<(n:Int):=by omega
     have dI:=HD.q wr dp aI ST i (by omega);rw[Mc] at dI;have hye:=pF ((e2:Int)+1) (by omega);have dZ:=HD.q wr dp aI ST zn (by omega);have fZ:=zj ST zn;have HF:=zh hF;have Hpb:=zh hpb;have hS:∀V,Cl wr.drew V->(V.cell? ⟨w.heap.size,0,none⟩=some (.slice (some ⟨g,off,none⟩) n nc)/\V.cell? ⟨g,off+i*5+3,none⟩=some (.slice (some ⟨g2,off2,none⟩) kl uc)/\V.cell? ⟨g2,off2+q,none⟩=some (.int .i64 zn)/\V.cell? ⟨w.heap.size+1,i,none⟩=some (.int .i64 e2)):=λV h=>
      ⟨zl (w:=wr.drew) h.below s0,zl (w:=wr.drew) h.below t3,zl (w:=wr.drew) h.below k0,zl (w:=wr.drew) h.below dI⟩
     clear hF hpb NT aS;go_wp2_with fail;refine zb6 [(0,0),(1,0),(2,1),(3,0),(4,0),(5,0),(6,1),(7,0),(8,0),(9,1),(10,0),(11,0),(12,0),(13,1),(14,0),(15,0),(16,3)] ?_;refine goM ?_;refine yG rfl rfl (λV hV=>?_);have Bh:V.heap[w.heap.size+1]? =_:=zi (w:=wr.drew) hV.below ST;have gz:Below (w.heap.size+1) wS V:=mM.trans ((pG _ wr).drew.trans (hV.below.mono (show w.heap.size+1<=wr.heap.size from Nat.le_of_lt (gtA ST))));have dZV:=HD.q V dp aI Bh zn (by omega);have fZV:=zj Bh zn;have No:(V.setCell ⟨w.heap.size+1,zn,none⟩ (.int .i64 ((e2:Int)+1))).heap[w.heap.size+1]? =some (.cells (uk (dp.set zn (e2+1))) 3 (0,0)):=by
      rw[zt Bh zn];simp[uk,List.map_set]
     have Tu:=gz.setCell (p:=⟨w.heap.size+1,zn,none⟩) (pC (w.heap.size+1)) (.int .i64 ((e2:Int)+1));have Hset2:=zh No;have HbV2:=zh Tu;clear No Tu gz hV Bh hS;go_simp;refine yL ?_;go_wp2;go_roundw
     case rel=>
      refine⟨q+1,dp.set zn (e2+1),by go_num,by rw[Hkl2.q];omega,by simp[aI],Hset2.q,HF.q,?_,λy hy=>?_,HbV2.q⟩
      ·rw[pA,List.getElem?_set_ne (by omega),<-pA];exact Mc
      ·rcases List.mem_or_eq_of_mem_set hy with h|h
       ·exact Hpb.q y h
       ·omega
     case measure=>simp[intOf];omega
    ·have IW:q=kl:=by omega
     have cZ:¬((q:Int)<(kl:Int)):=by omega
     rw[IW,<-Hkl2.q,List.drop_length] at hF;have TM:dp=xN e2 x.kz (deep.set i e2):=hF;have HFF:=zh TM;have Hpb:=zh hpb;clear hF TM NT hpb;go_wp2;go_roundw
     case rel=>
      refine⟨i,max mm e2,dp,by simp;omega,by congr 1,by omega,aI,ST,by rw[HFF.q];have:=CQ.q;rw[<-this,<-Pn],Hpb.q,by omega,Dj⟩
     case measure=>simp only[intOf];omega
  ·have Gk:j=0:=by omega
   subst Gk;have cZ:¬((0:Int)<=((0:Nat):Int)-1):=by omega
   have rt:¬((0:Int)<=-1):=by omega
   unfold Xg at hR;subst hR;go_wp2;go_ret;exact⟨rfl,nh⟩
def zft(t:yJ)(nv iv:Value)(i0:Nat)(x:Nd)(w:World)(hT:TRo w nv iv t)(hx:t.nz[i0]? =some x)(ml:∀k∈x.kz,0<=k/\k<(t.nz.length:Int))(mf:x.kz.length<=100000):
 Calls prog 48 #[.agg #[nv,iv],.int .i64 i0] w (ue w (.bool (kF t.nz x))):=by
 obtain⟨np,nc,ip,ic,rfl,rfl⟩:=hT.form;have hN:=hT.nz;have NU:(i0:Int)<(t.nz.length:Int):=by have:=(gtL hx);omega
 have Pu:¬((i0:Int)<0):=by omega
 obtain⟨g,off,u,rfl,sR⟩:=hN.at hx;obtain⟨up,uc,rfl⟩:=sR.kz.form;obtain⟨y0,y1,y2,ks,y4⟩:=x;have hz:=zk w (.cells #[.slice (some ⟨g,off,none⟩) t.nz.length nc,.slice ip t.iz.length ic] 26 (0,0));have hA:=zf w (.cells #[.slice (some ⟨g,off,none⟩) t.nz.length nc,.slice ip t.iz.length ic] 26 (0,0));have a0:=zl hA sR.c0;have a1:=zl hA sR.c1;have a2:=zl hA sR.c2;have a3:=zl hA sR.c3;have a4:=zl hA sR.c4;simp only at a0 a1 a2 a3 a4 mf ml;have b0:=zd hz 0;have MM:=zf (w.alloc (.cells #[.slice (some ⟨g,off,none⟩) t.nz.length nc,.slice ip t.iz.length ic] 26 (0,0))) (.cells #[.int .u8 y0,.string ⟨y1.toArray⟩,.int .i64 y2,.slice up ks.length uc,.int .i64 y4] 60 (0,0));have eV:=zk (w.alloc (.cells #[.slice (some ⟨g,off,none⟩) t.nz.length nc,.slice ip t.iz.length ic] 26 (0,0))) (.cells #[.int .u8 y0,.string ⟨y1.toArray⟩,.int .i64 y2,.slice up ks.length uc,.int .i64 y4] 60 (0,0));rw[show (w.alloc (.cells #[.slice (some ⟨g,off,none⟩) t.nz.length nc,.slice ip t.iz.length ic] 26 (0,0))).heap.size=w.heap.size+1 by simp] at eV;have k0:=zd eV 0;have k2:=zd eV 2;have k3:=zd eV 3;have t0:=zd (zi MM hz) 0;have t1:=zd (zi MM hz) 1;have tw:=zg hA MM;have hC:=zh (zfx t _ _ i0 88 _ _ (hT.below tw) hx ml mf);have Hr:Hid (kF t.nz ⟨y0,y1,y2,ks,y4⟩=kF t.nz ⟨y0,y1,y2,ks,y4⟩):=zh rfl;generalize cA:kF t.nz ⟨y0,y1,y2,ks,y4⟩=r at *;replace cA:=zh cA;clear hT hN sR hz eV Hr hx ml;generalize ra:Xh t.nz ⟨y0,y1,y2,ks,y4⟩ 88=cc at *;have Pi:=zh ra;clear ra;generalize hm:ks.length=m at *;have bz:=zh hm;clear hm;go_enter func48,ntmps48;go_wp2_with fail
 ·have hk:=zZ (k:=y0) (c:=102) (by assumption);have h:=cA.q;rw[hk] at h;refine hC.q.mono ?_;rintro e w1 ⟨rfl,hb⟩;have h2:decide (cc<=6)=r:=by rw[<-h,<-Pi.q,hk];rfl
  go_wp2;go_ret;exact⟨by rw[<-h2,<-xj];rfl,zg tw hb⟩
 ·have hk:=zZ (k:=y0) (c:=103) (by assumption);have h:=cA.q;rw[hk] at h;refine hC.q.mono ?_;rintro e w1 ⟨rfl,hb⟩;have h2:decide (cc<=6)=r:=by rw[<-h,<-Pi.q,hk];rfl
  go_wp2;go_ret;exact⟨by rw[<-h2,<-xj];rfl,zg tw hb⟩
 ·have hk:=zZ (k:=y0) (c:=33) (by assumption);have h:=cA.q;rw[hk] at h;refine hC.q.mono ?_;rintro e w1 ⟨rfl,hb⟩;have h2:decide (cc<=6)=r:=by rw[<-h,<-Pi.q,hk];rfl
  go_wp2;go_ret;exact⟨by rw[<-h2,<-xj];rfl,zg tw hb⟩
 ·have hk:=zZ (k:=y0) (c:=85) (by assumption);have h:=cA.q;rw[hk] at h;have h2:decide (m<=7)=r:=by rw[<-h,<-bz.q];rfl
  go_ret;exact⟨by rw[<-h2,<-xj];rfl,tw⟩
 ·have hk:=zZ (k:=y0) (c:=24) (by assumption);have h:=cA.q;rw[hk] at h;have h2:decide (m<=7)=r:=by rw[<-h,<-bz.q];rfl
  go_ret;exact⟨by rw[<-h2,<-xj];rfl,tw⟩
 ·have hk:=zZ (k:=y0) (c:=100) (by assumption);have h:=cA.q;rw[hk] at h;have h2:decide (m<=6)=r:=by rw[<-h,<-bz.q];rfl
  go_ret;exact⟨by rw[<-h2,<-xj];rfl,tw⟩
 ·have hk:=zZ (k:=y0) (c:=26) (by assumption);have h:=cA.q;rw[hk] at h;have h2:decide (m<=6)=r:=by rw[<-h,<-bz.q];rfl
  go_ret;exact⟨by rw[<-h2,<-xj];rfl,tw⟩
 ·have hk:=zZ (k:=y0) (c:=101) (by assumption);have h:=cA.q;rw[hk] at h;have h2:decide (m<=8)=r:=by rw[<-h,<-bz.q];rfl
  go_ret;exact⟨by rw[<-h2,<-xj];rfl,tw⟩
 ·have hk:=zZ (k:=y0) (c:=89) (by assumption);have h:=cA.q;rw[hk] at h;have h2:decide (m<=4)=r:=by rw[<-h,<-bz.q];rfl
  go_ret;exact⟨by rw[<-h2,<-xj];rfl,tw⟩
 ·have hk:=zZ (k:=y0) (c:=25) (by assumption);have h:=cA.q;rw[hk] at h;have h2:decide (m<=4)=r:=by rw[<-h,<-bz.q];rfl
  go_ret;exact⟨by rw[<-h2,<-xj];rfl,tw⟩
 ·have hk:=zZ (k:=y0) (c:=70) (by assumption);have h:=cA.q;rw[hk] at h;have h2:decide (m<=4)=r:=by rw[<-h,<-bz.q];rfl
  go_ret;exact⟨by rw[<-h2,<-xj];rfl,tw⟩
 ·have hk:=zZ (k:=y0) (c:=35) (by assumption);have h:=cA.q;rw[hk] at h;have h2:decide (m<=4)=r:=by rw[<-h,<-bz.q];rfl
  go_ret;exact⟨by rw[<-h2,<-xj];rfl,tw⟩
 ·have hk:=zZ (k:=y0) (c:=31) (by assumption);have h:=cA.q;rw[hk] at h;have h2:decide (m<=13)=r:=by rw[<-h,<-bz.q];rfl
  go_ret;exact⟨by rw[<-h2,<-xj];rfl,tw⟩
 ·have hk:=zZ (k:=y0) (c:=40) (by assumption);have h:=cA.q;rw[hk] at h;have h1:1<=y2:=by assumption
  have h2:decide (y2<=8)=r:=by
   rw[<-h];show _=(decide (1<=y2) && decide (y2<=8))
   rw[wU h1,Bool.true_and]
  go_ret;exact⟨by rw[<-h2];rfl,tw⟩
 ·have hk:=zZ (k:=y0) (c:=40) (by assumption);have h:=cA.q;rw[hk] at h;have h1:¬(1<=y2):=by first|assumption|omega
  have h2:false=r:=by
   rw[<-h];show _=(decide (1<=y2) && decide (y2<=8))
   rw[wR h1,Bool.false_and]
  go_ret;exact⟨by rw[<-h2];rfl,tw⟩
 ·have h:=cA.q;have n102:=zG (k:=y0) (c:=102) (by assumption);have n103:=zG (k:=y0) (c:=103) (by assumption);have Fj:=zG (k:=y0) (c:=33) (by assumption);have Fo:=zG (k:=y0) (c:=85) (by assumption);have Ff:=zG (k:=y0) (c:=24) (by assumption);have n100:=zG (k:=y0) (c:=100) (by assumption);have Ae:=zG (k:=y0) (c:=26) (by assumption);have n101:=zG (k:=y0) (c:=101) (by assumption);have Ah:=zG (k:=y0) (c:=89) (by assumption);have Ad:=zG (k:=y0) (c:=25) (by assumption);have Ag:=zG (k:=y0) (c:=70) (by assumption);have Fl:=zG (k:=y0) (c:=35) (by assumption);have n31:=zG (k:=y0) (c:=31) (by assumption);have Af:=zG (k:=y0) (c:=40) (by assumption);unfold kF at h;simp[n102,n103,Fj,Fo,Ff,n100,Ae,n101,Ah,Ad,Ag,Fl,n31,Af] at h;subst h;go_ret;exact⟨rfl,tw⟩
structure zkW(a b:yJ):Prop where
 len:a.nz.length=b.nz.length
 iz:a.iz=b.iz
 node:∀(j:Nat) (x y:Nd),a.nz[j]? =some x->b.nz[j]? =some y->x.kind=y.kind/\x.text=y.text/\x.n=y.n/\x.kz=y.kz
def zgu(p:Prop)(w:World)(e:Ending)(w':World):Prop:=∃r:Bool,e=.returned (.bool r)/\(r=true↔p)/\Below w.heap.size w w'
def ud{w':World}(r:Bool)(h:e=.returned (.bool r))(h2:r=true↔p)(h3:Below w.heap.size w w'):zgu p w e w':=⟨r,h,h2,h3⟩
def zle{wA:World}{a0 a1 a2 a3 a4 b0 b1 b2 b3 b4:Value}(h:World.drew ((w.alloc (.cells #[a0,a1,a2,a3,a4] T (0,0))).alloc (.cells #[b0,b1,b2,b3,b4] T (0,0)))=wA):Below w.heap.size w wA/\wA.cell? ⟨w.heap.size,0,none⟩=some a0/\wA.cell? ⟨w.heap.size,1,none⟩=some a1/\wA.cell? ⟨w.heap.size,2,none⟩=some a2/\wA.cell? ⟨w.heap.size,3,none⟩=some a3/\wA.cell? ⟨w.heap.size+1,0,none⟩=some b0/\wA.cell? ⟨w.heap.size+1,1,none⟩=some b1/\wA.cell? ⟨w.heap.size+1,2,none⟩=some b2/\wA.cell? ⟨w.heap.size+1,3,none⟩=some b3:=by
 have pe:=zV [.cells #[a0,a1,a2,a3,a4] T (0,0),.cells #[b0,b1,b2,b3,b4] T (0,0)] w;have dE:=yw [.cells #[a0,a1,a2,a3,a4] T (0,0),.cells #[b0,b1,b2,b3,b4] T (0,0)] w;simp only[List.foldl_cons,List.foldl_nil] at pe dE;have r0:wA.heap[w.heap.size]? =some (.cells #[a0,a1,a2,a3,a4] T (0,0)):=by rw[<-h];exact pe 0 _ rfl
 have r1:wA.heap[w.heap.size+1]? =some (.cells #[b0,b1,b2,b3,b4] T (0,0)):=by rw[<-h];exact pe 1 _ rfl
 exact⟨by rw[<-h];exact dE.drew,zd r0 0,zd r0 1,zd r0 2,zd r0 3,zd r1 0,zd r1 1,zd r1 2,zd r1 3⟩
def zfy(a b:yJ)(nv iv Rj Ri:Value)(w:World)(ha:TRo w nv iv a)(hb:TRo w Rj Ri b)(bD:a.nz.length<=1000000)(sT:a.iz.length<=1000000)(mf:∀x∈a.nz,x.kz.length<=1000000):
 Calls prog 49 #[.agg #[nv,iv],.agg #[Rj,Ri]] w (zgu (zkW a b) w):=by
 obtain⟨np,nc,ip,ic,rfl,rfl⟩:=ha.form;obtain⟨Ai,Sc,AZ,AY,rfl,rfl⟩:=hb.form;have hI:=zh (λW (hW:Below w.heap.size w W)=>Qc _ _ a.iz b.iz W (ha.iz.below hW) (hb.iz.below hW) sT);by_cases mV:a.nz.length=b.nz.length
 ·have Hlen:=zh mV;have hA:=ha.nz;have hB:=hb.nz;rw[<-mV] at hB ⊢;generalize hn:a.nz.length=n at *;obtain⟨n1,rW⟩:=exE (a.iz.length);obtain⟨n2,aT⟩:=exE (b.iz.length);rw[rW,aT] at hI ⊢;have Hn:=zh hn;have HA:=zh hA;have HB:=zh hB;have HK:=zh mf;have h0:=zV [.cells #[.slice np n nc,.slice ip n1 ic] 26 (0,0),.cells #[.slice Ai n Sc,.slice AZ n2 AY] 26 (0,0)] w;have dE:Below w.heap.size w _:=yw [.cells #[.slice np n nc,.slice ip n1 ic] 26 (0,0),.cells #[.slice Ai n Sc,.slice AZ n2 AY] 26 (0,0)] w;simp only[List.foldl_cons,List.foldl_nil] at dE h0;have c0:=zd (h0 0 _ rfl) 0;have c1:=zd (h0 0 _ rfl) 1;have d0:=zd (h0 1 _ rfl) 0;have d1:=zd (h0 1 _ rfl) 1;rw[Nat.add_zero] at c0 c1;have HAl:=zh dE;clear hA hB ha hb mf hn rW aT mV h0 dE;go_enter func49,ntmps49;by_cases cu:a.iz=b.iz
  ·have hd:decide (a.iz=b.iz)=true:=wU cu;go_wp2_with (go_at_call 26;refine (hI.q _ HAl.q).mono ?_;rintro e w1 ⟨rfl,mF⟩);have Hit:=zh cu;have c0:=zl mF c0;have d0:=zl mF d0;have mF:=zg HAl.q mF;clear cu hd;go_loopw [5] (λi wr=>∃k:Nat,i=.int .i64 k/\k<=n/\Below w1.heap.size w1 wr/\Hid (∀(j:Nat) (x y:Nd),j<k->a.nz[j]? =some x->b.nz[j]? =some y->x.kind=y.kind/\x.text=y.text/\x.n=y.n/\x.kz=y.kz)) (λi _=>n-(intOf i).toNat)
   case atStart=>exact⟨0,rfl,by omega,pG _ _,zh (λj x y hj=>absurd hj (wF _))⟩
   case round=>
    obtain⟨k,rfl,hk,hb,mP⟩:=hrel;have CU:=zl hb c0;have dw0:=zl hb d0;clear c0 d0;have nh:=zg mF hb;by_cases mD:k<n
    ·have me:(k:Int)<(n:Int):=by omega
     have th:¬((k:Int)<0):=by omega
     have mf:k<a.nz.length:=by rw[Hn.q];exact mD
     have WT:k<b.nz.length:=by rw[<-Hlen.q];exact mD
     obtain⟨x,hx⟩:∃x,a.nz[k]? =some x:=⟨_,glE mf⟩;obtain⟨y,hy⟩:∃y,b.nz[k]? =some y:=⟨_,glE WT⟩;obtain⟨g1,o1,u1,rfl,N1⟩:=HA.q.at hx;obtain⟨g2,o2,u2,rfl,N2⟩:=HB.q.at hy;have N1:=N1.below nh;have N2:=N2.below nh;obtain⟨k1,t1,Bv,Mn,at1⟩:=x;obtain⟨k2,t2,Bw,Sb,at2⟩:=y;have cp:=zh (λW (hW:Below wr.heap.size wr W)=>Qc _ _ Mn Sb W (N1.kz.below hW) (N2.kz.below hW) (HK.q _ (wH hx)));obtain⟨p1,q1,rfl⟩:=N1.kz.form;obtain⟨p2,q2,rfl⟩:=N2.kz.form;obtain⟨a0,a1,a2,a3,a4,_⟩:=N1;obtain⟨e0,e1,e2,e3,e4,_⟩:=N2;simp only at a0 a1 a2 a3 a4 e0 e1 e2 e3 e4 cp;obtain⟨m1,tH⟩:=exE (Mn.length);obtain⟨m2,ay⟩:=exE (Sb.length);rw[tH] at a3 cp;rw[ay] at e3 cp;have Hx:=zh hx;have Hy:=zh hy;have rR:¬(k1=k2/\t1=t2/\Bv=Bw/\Mn=Sb)->¬zkW a b:=λh1 h2=>h1 (h2.node k _ _ hx hy)
     have Hno:=zh rR;clear rR hx hy tH ay mf WT;go_wp2_with fail;refine qZ ?_;go_region_held3 (λw'=>w'.cell? ⟨w.heap.size,0,none⟩=some (.slice (some ⟨g1,o1,none⟩) n nc)/\w'.cell? ⟨w.heap.size+1,0,none⟩=some (.slice (some ⟨g2,o2,none⟩) n Sc)/\w'.cell? ⟨g1,o1+k*5,none⟩=some (.int .u8 k1)/\w'.cell? ⟨g1,o1+k*5+1,none⟩=some (.string ⟨t1.toArray⟩)/\w'.cell? ⟨g1,o1+k*5+2,none⟩=some (.int .i64 Bv)/\w'.cell? ⟨g1,o1+k*5+3,none⟩=some (.slice p1 m1 q1)/\w'.cell? ⟨g1,o1+k*5+4,none⟩=some (.int .i64 at1)/\w'.cell? ⟨g2,o2+k*5,none⟩=some (.int .u8 k2)/\w'.cell? ⟨g2,o2+k*5+1,none⟩=some (.string ⟨t2.toArray⟩)/\w'.cell? ⟨g2,o2+k*5+2,none⟩=some (.int .i64 Bw)/\w'.cell? ⟨g2,o2+k*5+3,none⟩=some (.slice p2 m2 q2)/\w'.cell? ⟨g2,o2+k*5+4,none⟩=some (.int .i64 at2)) (first|(go_keep;done)|(go_split_ands;refine⟨?_,?_,?_,?_,?_,?_,?_,?_,?_,?_,?_,?_⟩ <;> exact zl (zf _ _) (by assumption))) (fail)
     all_goals
      generalize sS:World.drew (World.alloc (World.alloc wr _) _)=wA at *;obtain⟨au,x0,x1,x2,x3,y0,y1,y2,y3⟩:=zle sS;have CU:=zl au CU;replace au:=zh au;clear a0 a1 a2 a3 a4 e0 e1 e2 e3 e4 sS;by_cases hk:k1=k2
      ·subst hk;by_cases ht:t1=t2
       ·subst ht;by_cases rg:Bv=Bw
        ·subst rg;by_cases mq:Mn=Sb
         ·have hd:decide (Mn=Sb)=true:=wU mq;rw[hd] at cp;replace mq:=zh mq;clear hd;go_wp2_with (go_at_call 26;refine (cp.q _ au.q).mono ?_;rintro e w5 ⟨rfl,mt⟩);go_roundw
          case rel=>exact⟨k+1,by go_num,by omega,zg hb (zg au.q mt),zh (λj x y hj hx hy=>by
           by_cases e:j=k
           ·subst e;rw[Hx.q] at hx;rw[Hy.q] at hy;cases hx;cases hy;exact⟨rfl,rfl,rfl,mq.q⟩
           ·exact mP.q j x y (by omega) hx hy)⟩
          case measure=>simp[intOf];omega
         ·have hd:decide (Mn=Sb)=false:=wR mq;rw[hd] at cp;replace mq:=zh mq;clear hd;go_wp2_with (go_at_call 26;refine (cp.q _ au.q).mono ?_;rintro e w5 ⟨rfl,mt⟩);go_ret;exact ud false rfl ⟨(λh=>by cases h),λh=>absurd h (Hno.q (λe=>mq.q e.2.2.2))⟩ (zg nh (zg au.q mt))
        ·have hd:(Bv != Bw)=true:=by rw[wV];exact rg
         replace rg:=zh rg;go_wp2_with (go_at_call 26;refine (cp.q _ au.q).mono ?_;rintro e w5 ⟨rfl,mt⟩);go_ret;exact ud false rfl ⟨(λh=>by cases h),λh=>absurd h (Hno.q (λe=>rg.q e.2.2.1))⟩ (zg nh au.q)
       ·have Ht:=zh ht;go_wp2_with (go_at_call 26;refine (cp.q _ au.q).mono ?_;rintro e w5 ⟨rfl,mt⟩);go_ret;exact ud false rfl ⟨(λh=>by cases h),λh=>absurd h (Hno.q (λe=>Ht.q e.2.1))⟩ (zg nh au.q)
      ·have hd:((k1:Int) != (k2:Int))=true:=by rw[wV];omega
       replace hk:=zh hk;go_wp2_with (go_at_call 26;refine (cp.q _ au.q).mono ?_;rintro e w5 ⟨rfl,mt⟩);go_ret;exact ud false rfl ⟨(λh=>by cases h),λh=>absurd h (Hno.q (λe=>hk.q e.1))⟩ (zg nh au.q)
    ·have sC:k=n:=by omega
     have me:¬((k:Int)<(n:Int)):=by omega
     go_wp2;go_ret;refine ud true rfl ⟨λ_=>⟨by rw[Hn.q];exact Hlen.q,Hit.q,λj x y hx hy=>mP.q j x y (by have:=(gtL hx);rw[Hn.q] at this;omega) hx hy⟩,λ_=>rfl⟩ (nh)
  ·have hd:decide (a.iz=b.iz)=false:=wR cu;rw[hd] at hI;replace cu:=zh cu;clear hd;go_wp2_with (go_at_call 26;refine (hI.q _ HAl.q).mono ?_;rintro e w1 ⟨rfl,mF⟩);go_ret;exact ud false rfl ⟨(λh=>by cases h),λh=>absurd h.iz cu.q⟩ (zg HAl.q mF)
 ·have mu:((a.nz.length:Int) != (b.nz.length:Int))=true:=by rw[wV];omega
  have Hlen:=zh mV;clear ha hb hI mV;go_enter func49,ntmps49;go_wp2;go_ret;exact ud false rfl ⟨(λh=>by cases h),λh=>absurd h.len Hlen.q⟩ ((zf _ _).trans ((zf _ _).mono (by simp)))
def zfu(a b:yJ)(nv iv Rj Ri:Value)(w:World)(ha:TRo w nv iv a)(hb:TRo w Rj Ri b)(bD:a.nz.length<=1000000)(sT:a.iz.length<=1000000)(mf:∀x∈a.nz,x.kz.length<=1000000):
 Calls prog 13 #[.agg #[nv,iv],.agg #[Rj,Ri]] w (zgu (a=b) w):=by
 have hC:=zh (λW (hW:Below w.heap.size w W)=>zfy a b nv iv Rj Ri W (ha.below hW) (hb.below hW) bD sT mf);obtain⟨np,nc,ip,ic,rfl,rfl⟩:=ha.form;obtain⟨Ai,Sc,AZ,AY,rfl,rfl⟩:=hb.form;generalize hn:a.nz.length=n at *;generalize aT:b.nz.length=n2 at *;generalize a.iz.length=m1 at *;generalize b.iz.length=m2 at *;have Hn:=zh hn;have BB:=zh aT;have HA:=zh ha.nz;have HB:=zh hb.nz;have h0:=zV [.cells #[.slice np n nc,.slice ip m1 ic] 26 (0,0),.cells #[.slice Ai n2 Sc,.slice AZ m2 AY] 26 (0,0)] w;have dE:Below w.heap.size w _:=yw [.cells #[.slice np n nc,.slice ip m1 ic] 26 (0,0),.cells #[.slice Ai n2 Sc,.slice AZ m2 AY] 26 (0,0)] w;simp only[List.foldl_cons,List.foldl_nil] at dE h0;have c0:=zd (h0 0 _ rfl) 0;have c1:=zd (h0 0 _ rfl) 1;have d0:=zd (h0 1 _ rfl) 0;have d1:=zd (h0 1 _ rfl) 1;rw[Nat.add_zero] at c0 c1;have HAl:=zh dE;clear ha hb mf hn aT h0 dE;go_enter func13,ntmps13;go_wp2_with (go_at_call 49;refine (hC.q _ HAl.q).mono ?_;rintro e w1 ⟨r,rfl,hr,mF⟩;have Hr:=zh hr;have c0:=zl mF c0;have d0:=zl mF d0;have mF:=zg HAl.q mF;clear hr c1 d1;cases r)
 ·go_ret;exact ud false rfl ⟨(λh=>by cases h),λh=>absurd (Hr.q.2 (by subst h;exact⟨rfl,rfl,λj x y hx hy=>by rw[hx] at hy;cases hy;exact⟨rfl,rfl,rfl,rfl⟩⟩)) (by decide)⟩ mF
 ·go_loopw [5] (λi wr=>∃k:Nat,i=.int .i64 k/\k<=n/\Below w1.heap.size w1 wr/\Hid (∀(j:Nat) (x y:Nd),j<k->a.nz[j]? =some x->b.nz[j]? =some y->x.at_=y.at_)) (λi _=>n-(intOf i).toNat)
  case atStart=>exact⟨0,rfl,by omega,pG _ _,zh (λj x y hj=>absurd hj (wF _))⟩
  case round=>
   obtain⟨k,rfl,hk,hb,mP⟩:=hrel;have CU:=zl hb c0;have dw0:=zl hb d0;clear c0 d0;have nh:=zg mF hb;by_cases mD:k<n
   ·have me:(k:Int)<(n:Int):=by omega
    have mV:n=n2:=by have:=(Hr.q.1 (by first|rfl|trivial)).len;rw[Hn.q,BB.q] at this;exact this
    have pf:(k:Int)<(n2:Int):=by omega
    have th:¬((k:Int)<0):=by omega
    obtain⟨x,hx⟩:∃x,a.nz[k]? =some x:=⟨_,glE (by rw[Hn.q];exact mD)⟩;obtain⟨y,hy⟩:∃y,b.nz[k]? =some y:=⟨_,glE (by rw[BB.q];omega)⟩;obtain⟨g1,o1,u1,rfl,N1⟩:=HA.q.at hx;obtain⟨g2,o2,u2,rfl,N2⟩:=HB.q.at hy;have a4:=(N1.below nh).c4;have e4:=(N2.below nh).c4;have Hx:=zh hx;have Hy:=zh hy;clear hx hy N1 N2 mV;by_cases tM:x.at_=y.at_
    ·have Hat:=zh tM;rw[tM] at a4;clear tM;go_wp2_with fail;go_quiet (fail);go_wp2;go_roundw
     case rel=>
      refine⟨k+1,by go_num,by omega,zO hb nq,zh (λj x' y' hj aU SY=>?_)⟩;by_cases e:j=k
      ·subst e;rw[Hx.q] at aU;rw[Hy.q] at SY;cases aU;cases SY;exact Hat.q
      ·exact mP.q j x' y' (by omega) aU SY
     case measure=>simp[intOf];omega
    ·have mu:(x.at_ != y.at_)=true:=by rw[wV];exact tM
     have Hat:=zh tM;clear tM;go_wp2_with fail;go_quiet (fail);go_wp2;go_ret;exact ud false rfl ⟨(λh=>by cases h),λh=>absurd h (λh=>Hat.q (by subst h;have:=Hy.q;rw[Hx.q] at this;cases this;rfl))⟩ (zO nh nq)
   ·have sC:k=n:=by omega
    have me:¬((k:Int)<(n:Int)):=by omega
    go_wp2;go_ret;refine ud true rfl ⟨λ_=>?_,λ_=>rfl⟩ nh;obtain⟨q1,q2,q3⟩:=Hr.q.1 (by first|rfl|trivial);obtain⟨an,ai⟩:=a;obtain⟨bn,bi⟩:=b;simp only at q1 q2 q3 mP;subst q2;have:an=bn:=List.ext_getElem? (λj=>by
     by_cases hj:j<an.length
     ·have hx:=glE hj;have hy:=glE (q1▸hj);rw[hx,hy];obtain⟨e1,e2,e3,e4⟩:=q3 j _ _ hx hy;have e5:=mP.q j _ _ (by have:=Hn.q;simp only at this;omega) hx hy;generalize an[j]=x at *;generalize bn[j]'(q1▸hj)=y at *;obtain⟨x0,x1,x2,x3,x4⟩:=x;obtain⟨y0,y1,y2,y3,y4⟩:=y;simp only at e1 e2 e3 e4 e5;rw[e1,e2,e3,e4,e5]
     ·rw[wP (by omega),wP (by omega)])
    rw[this]
