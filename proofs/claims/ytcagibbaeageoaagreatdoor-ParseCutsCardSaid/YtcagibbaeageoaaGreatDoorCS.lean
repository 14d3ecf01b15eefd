/-
  A part of the proof: contracts of functions; no conditions.
-/
import Derived.Test.YtcagibbaeageoaaGreatDoorCO
import Derived.Test.YtcagibbaeageoaaGreatDoorCQ
set_option maxRecDepth 100000
set_option maxHeartbeats 40000000
set_option linter.unusedSimpArgs false
set_option linter.unusedVariables false
namespace Lode
theorem zan{t:zU}(h:xh t=0){j:Nat}(hj:j<t.items.length):∃f z:Nat,YO t j=f/\t.items.getD j 0=z/\f<=z/\z<t.nodes.length:=by
 obtain⟨hF,_,hI⟩:=Zq h;have hm:t.items.getD j 0∈t.items:=by
  rw[pB,glE hj];exact wF hj
 obtain⟨h0,h1⟩:=hI _ hm;have he:=Ky h (item:=j) ⟨by omega,by omega⟩;unfold Kz at he;rw[pO] at he;generalize t.items.getD j 0=z at *;obtain⟨z,rfl⟩:=pJ h0;rw[pO] at he;obtain⟨p,_,hp,hlt⟩:=qn hF (show z<t.nodes.length by omega);have hle:=zaF hF z (by omega);exact⟨(YO t j).toNat,z,by omega,rfl,by omega,by omega⟩
end Lode
namespace Go.Proofs.YtcagibbaeageoaaGreatDoor
section
open Go.RowKit Lode Go.Shelf
attribute [local go_sem ↓] Go.wp_at_zero Go.wp_at_succ
open Go.Proofs.Tryz
theorem NSo.cut{w:World}{g off n cap:Nat}{l:List Nd}(h:NSo w (.slice (some ⟨g,off,none⟩) n cap) l)(f m cap':Nat)(hm:f+m<=l.length):NSo w (.slice (some ⟨g,off+f*5,none⟩) m cap') ((l.drop f).take m):=by
 obtain⟨p,c,hv,h⟩:=h;cases hv;refine⟨_,cap',by rw[wZ,wV,Nat.min_eq_left (by omega)],?_⟩;rcases h with rfl|⟨g',off',hp,hc⟩
 ·exact .inl (by simp)
 ·cases hp;refine .inr ⟨g,off+f*5,rfl,fun j x hx=>?_⟩;rw[List.getElem?_take] at hx;split at hx
  ·rw[List.getElem?_drop] at hx;obtain⟨u,hu⟩:=hc _ x hx;exact⟨u,by rw[show off+f*5+j*5=off+(f+j)*5 by omega];exact hu⟩
  ·cases hx
theorem zkb(t:zU)(nv iv:Value)(item:Int)(w:World)(hT:TR w nv iv t)(hG:qG w)(hok:ut t)(hk:∀x∈t.nodes,x.kids.length<=1000)(hcap:∀p n c,nv=.slice p n c->n<=c):
 Calls prog 31 #[.agg #[nv,iv],.int .i64 item] w (zj9 w (zgD t item)):=by
 have hCk:=zj (fun W (hW:Below w.heap.size w W)=>vB t nv iv W (hT.below hW) (hG.later hW) hok);have hcr:=zj (fun (h:yj t=0) (j:Nat) hj=>zan (t:=t) (by rw[<-uR t hk];exact h) (j:=j) hj);have hba:=zj (fun (h:yj t=0)=>KM (t:=t) (by rw[<-uR t hk];exact h));have HT:=zj hT.o;have Hk:=zj hk;obtain⟨np,nc,ip,ic,rfl,rfl⟩:=hT.form;have hnc:=hcap _ _ _ rfl;obtain⟨n1,hn1⟩:∃n,t.nodes.length=n:=⟨_,rfl⟩;obtain⟨m1,hm1⟩:∃n,t.items.length=n:=⟨_,rfl⟩;obtain⟨r,hr⟩:=exE (zgD t item);rw[hr];unfold zgD at hr;rw[hn1,hm1] at hCk HT hba;rw[hm1] at hr hcr;rw[hn1] at hcr hnc;rw[hn1,hm1];have h0:=zK [.cells #[.slice np n1 nc,.slice ip m1 ic] 26 (0,0),.cells #[.slice none 0 0,.slice none 0 0] 26 (0,0)] w;have hAl:Below w.heap.size w _:=zQ [.cells #[.slice np n1 nc,.slice ip m1 ic] 26 (0,0),.cells #[.slice none 0 0,.slice none 0 0] 26 (0,0)] w;simp only[List.foldl_cons,List.foldl_nil,pN,wC] at hAl h0;have r0:=h0 0 _ rfl;rw[Nat.add_zero] at r0;have r1:=h0 1 _ rfl;have c0:=zd r0 0;have c1:=zd r0 1;have R0:=zj r0;have R1:=zj r1;have HAl:=zj hAl;have Hr:=zj hr;have Hn1:=zj hn1;have Hm1:=zj hm1;generalize yj t=ck at *;clear h0 hAl r0 r1 hT hG hok hk hcap hn1 hm1 hr;go_enter func31,ntmps31;go_wp2_with fail;refine (hCk.out _ HAl.out).mono ?_;rintro e w1 ⟨rfl,hb1⟩;have r0:=zi hb1 R0.out;have S1:=zj (zi hb1 R1.out);have hbe:=zj (zf HAl.out hb1);have ret0:∀(W:World) (x:Nat),Below w.heap.size w W->W.heap[w.heap.size+1]? =some (.cells #[.slice none 0 0,.slice none 0 0] 26 (0,0))->zj9 w (⟨[],[]⟩,x) (.returned (.tuple #[.agg #[.slice none 0 0,.slice none 0 0],.int .i64 x])) ((W.setCell ⟨w.heap.size+1,0,none⟩ (.slice none 0 0)).setCell ⟨w.heap.size+1,1,none⟩ (.slice none 0 0)):=fun W x hW h=>⟨hW.trans ((yW h _ _).2 _ (by omega)),_,_,rfl,TR.nil _⟩
 replace ret0:=zj ret0;have c0:=zd r0 0;have c1:=zd r0 1;have z0:=zd S1.out 0;have z1:=zd S1.out 1;have f0:=zk S1.out 0;have f1:=zk S1.out 1;have hr:=Hr.out;clear hb1 R0 HAl hCk Hr R1;by_cases hck:ck=0
 ·rw[if_neg (by simp[hck])] at hr;by_cases hi0:item<0
  ·rw[if_pos (.inl hi0)] at hr;subst hr;rw[hck];go_wp2_with fail;obtain⟨q1,_⟩:=yW S1.out (.slice none 0 0) (.slice none 0 0);exact bodyPost_ret (v:=.tuple #[.agg #[.slice none 0 0,.slice none 0 0],.int .i64 (7:Nat)]) (by simp[results,results31,go_sem,zd q1]) rfl (ret0.out _ 7 hbe.out S1.out)
  by_cases hi1:(m1:Int)<=item
  ·rw[if_pos (.inr hi1)] at hr;subst hr;rw[hck];go_wp2_with fail;obtain⟨q1,_⟩:=yW S1.out (.slice none 0 0) (.slice none 0 0);exact bodyPost_ret (v:=.tuple #[.agg #[.slice none 0 0,.slice none 0 0],.int .i64 (7:Nat)]) (by simp[results,results31,go_sem,zd q1]) rfl (ret0.out _ 7 hbe.out S1.out)
  rw[if_neg (by omega)] at hr;obtain⟨j,rfl⟩:=pJ (show 0<=item by omega);obtain⟨f,z,hf,hz,hfz,hzn⟩:=hcr.out hck j (by omega);obtain⟨ba1,ba2,ba3,ba4⟩:=hba.out hck;rw[hf,pO,hz] at hr;replace hr:=zj hr;replace ba3:=zj ba3;rw[hck];clear hck hba hcr ba4;have hlt:j<m1:=by omega
  have hlt':(j:Int)<(m1:Int):=by omega
  have hjn:¬((j:Int)<0):=by omega
  have hjm:¬((m1:Int)<=(j:Int)):=by omega
  obtain⟨g1,o1,rfl,hc⟩:=HT.out.items.at (j:=j) (by rw[Hm1.out];exact hlt);rw[hz] at hc;obtain⟨x,hx⟩:∃x,t.nodes[z]? =some x:=⟨_,glE (by rw[Hn1.out];exact hzn)⟩;obtain⟨gN,oN,u,rfl,_⟩:=HT.out.nodes.at hx;clear hx;have hM:=zj (fun W (hW:Below w.heap.size w W)=>zgq ((t.nodes.drop f).take (z+1-f)) (.slice (some ⟨gN,oN+f*5,none⟩) (z+1-f) (nc-f)) (-(f:Int)) W ((HT.out.nodes.cut f (z+1-f) (nc-f) (by rw[Hn1.out];omega)).below hW)
   (fun x hx k hk=>by have:=ba3.out x (List.mem_of_mem_drop (List.mem_of_mem_take hx)) k hk;unfold I64;omega) (by rw[wZ,wV];omega) (fun x hx=>by have:=Hk.out x (List.mem_of_mem_drop (List.mem_of_mem_take hx));omega))
  have hll:((t.nodes.drop f).take (z+1-f)).length=z+1-f:=by rw[wZ,wV,Hn1.out];omega
  rw[hll] at hM;have hcut:=zj (show vR t f z=⟨jl ((t.nodes.drop f).take (z+1-f)) (-(f:Int)),[(z:Int)-(f:Int)]⟩ from by unfold vR;rw[pO,show ((z:Int)+1-(f:Int)).toNat=z+1-f by omega]);have w1z:IntKind.i64.wrap ((z:Int)+1)=((z+1:Nat):Int):=by rw[pC _ ⟨by omega,by omega⟩];omega
  have wzf:=pC ((z:Int)-(f:Int)) (by omega);have wnf:IntKind.i64.wrap (-(f:Int))= -(f:Int):=pC _ ⟨by omega,by omega⟩;have k1:¬((f:Int)<0):=by omega
  have k2:¬(((z+1:Nat):Int)<(f:Int)):=by omega
  have k3:¬((nc:Int)<((z+1:Nat):Int)):=by omega
  have k4:¬(nc=f):=by omega
  have hc:=zh hbe.out hc;have hS:∀V,Cl w1.drew V->(V.cell? ⟨w.heap.size,1,none⟩=some (.slice (some ⟨g1,o1,none⟩) m1 ic)/\V.cell? ⟨g1,o1+j,none⟩=some (.int .i64 z)):=fun V hV=>by
   have hV:Below w1.heap.size w1 V:=bR.drew.trans hV.below;exact⟨zh hV c1,zh hV hc⟩
  have hb0:=zj ((pE w1.heap.size w1).drew);go_wp2_with fail;refine xm [(0,0),(1,1),(2,0),(3,0),(4,1),(5,0),(6,0)] ?_;refine zC fun V1 hV1=>?_
  have hb1:=zf hb0.out hV1.below;have c0:=zh hb1 c0;have c1:=zh hb1 c1;have T1:=zj (zi hb1 S1.out);have hbf:=zj (zf hbe.out hb1);clear hS hV1 hb0 hb1 z0 z1 f0 f1 S1 hbe;by_cases hj0:j=0
  ·have hf0:f=0:=by
    unfold YO at hf;rw[if_neg (by omega)] at hf;omega
   subst hj0;subst hf0;go_wp2_with fail;refine (hM.out V1 hbf.out).mono ?_;rintro e w3 ⟨g3,rfl,⟨kv3,O3⟩,B3⟩;have hba:=zg w3 (.cells #[.int .i64 ((z:Int))] 3 (0,0));have r4:=zi (zf B3 hba) T1.out;have z0:=zd r4 0;have z1:=zd r4 1;have f0:=zk r4 0;have f1:=zk r4 1;have hN3:=(Xr O3.n O3.l O3.k).below hba;have R4:=zj r4;have hI3:=KS.lit w3 [(z:Int)];have hT4:=zj (TR.mk (t:=vR t ((0:Nat):Int) z) ⟨kv3,by rw[hcut.out];exact hN3⟩ (by rw[hcut.out];first|exact hI3|simpa using hI3));have hbg:=zj (zf hbf.out (zf B3 hba));clear r4 B3 hba O3 hN3 hI3 c0 c1 hc;go_wp2_with fail;obtain⟨q1,q2⟩:=yW R4.out (.slice (some ⟨g3,0,none⟩) (z+1) (z+1)) (.slice (some ⟨w3.heap.size,0,none⟩) 1 1);refine bodyPost_ret (v:=.tuple #[.agg #[.slice (some ⟨g3,0,none⟩) (z+1) (z+1),.slice (some ⟨w3.heap.size,0,none⟩) 1 1],.int .i64 (0:Nat)]) (by simp[results,results31,go_sem,zd q1]) rfl ?_;rw[<-hr.out];exact⟨hbg.out.trans (q2 w.heap.size (by omega)),_,_,rfl,hT4.out.keepT R4.out (fun g hg=>(zw hg).trans (zw hg))⟩
  ·have hj1:(0:Int)<(j:Int):=by omega
   have hf1:t.items.getD (j-1) 0+1=(f:Int):=by
    unfold YO at hf;rw[if_pos hj1,show ((j:Int)-1).toNat=j-1 by omega] at hf;exact hf
   obtain⟨g2,o2,he2,hc2⟩:=HT.out.items.at (j:=j-1) (by rw[Hm1.out];omega);cases he2;have hc2:=zh hbf.out hc2;generalize t.items.getD (j-1) 0=y at *;have wj:IntKind.i64.wrap ((j:Int)-1)=((j-1:Nat):Int):=by rw[pC _ ⟨by omega,by omega⟩];omega
   have wy:IntKind.i64.wrap (y+1)=(f:Int):=by rw[pC _ ⟨by omega,by omega⟩];exact hf1
   have k5:((j-1:Nat):Int)<(m1:Int):=by omega
   have k6:¬(((j-1:Nat):Int)<0):=by omega
   have Hf1:=zj hf1;clear hf1;go_wp2_with fail;refine (hM.out V1 hbf.out).mono ?_;rintro e w3 ⟨g3,rfl,⟨kv3,O3⟩,B3⟩;have hba:=zg w3 (.cells #[.int .i64 ((z:Int)-(f:Int))] 3 (0,0));have r4:=zi (zf B3 hba) T1.out;have z0:=zd r4 0;have z1:=zd r4 1;have f0:=zk r4 0;have f1:=zk r4 1;have hN3:=(Xr O3.n O3.l O3.k).below hba;have R4:=zj r4;have hI3:=KS.lit w3 [(z:Int)-(f:Int)];have hT4:=zj (TR.mk (t:=vR t ((f:Nat):Int) z) ⟨kv3,by rw[hcut.out];exact hN3⟩ (by rw[hcut.out];first|exact hI3|simpa using hI3));have hbg:=zj (zf hbf.out (zf B3 hba));clear r4 B3 hba O3 hN3 hI3 c0 c1 hc;go_wp2_with fail;obtain⟨q1,q2⟩:=yW R4.out (.slice (some ⟨g3,0,none⟩) (z+1-f) (z+1-f)) (.slice (some ⟨w3.heap.size,0,none⟩) 1 1);refine bodyPost_ret (v:=.tuple #[.agg #[.slice (some ⟨g3,0,none⟩) (z+1-f) (z+1-f),.slice (some ⟨w3.heap.size,0,none⟩) 1 1],.int .i64 (0:Nat)]) (by simp[results,results31,go_sem,zd q1]) rfl ?_;rw[<-hr.out];exact⟨hbg.out.trans (q2 w.heap.size (by omega)),_,_,rfl,hT4.out.keepT R4.out (fun g hg=>(zw hg).trans (zw hg))⟩
 ·rw[if_pos hck] at hr;subst hr;have h0':((ck:Int) != 0)=true:=by rw[gB];omega
  go_wp2_with fail;obtain⟨q1,_⟩:=yW S1.out (.slice none 0 0) (.slice none 0 0);exact bodyPost_ret (v:=.tuple #[.agg #[.slice none 0 0,.slice none 0 0],.int .i64 (ck:Nat)]) (by simp[results,results31,go_sem,zd q1]) rfl (ret0.out _ ck hbe.out S1.out)
end
end Go.Proofs.YtcagibbaeageoaaGreatDoor
