/-
  A part of the proof: contracts of functions; no conditions.
-/
import Derived.Test.YtcagibbaeageoaaGreatDoorCP
import Derived.Test.YtcagibbaeageoaaGreatDoorCQ
import Derived.ArgAppend
set_option maxRecDepth 100000
set_option maxHeartbeats 40000000
set_option linter.unusedSimpArgs false
set_option linter.unusedVariables false
namespace Go.Proofs.YtcagibbaeageoaaGreatDoor
section
open Go.RowKit Lode Go.Shelf
attribute [local go_sem ↓] Go.wp_at_zero Go.wp_at_succ
open Go.Proofs.Tryz
theorem zcl(l:List Nd)(d:Int){j:Nat}{x:Nd}(hx:l[j]? =some x):jl (l.take (j+1)) d=jl (l.take j) d ++ [ZH x d]:=by
 unfold jl;rw[wX,hx,List.map_append];rfl
end
end Go.Proofs.YtcagibbaeageoaaGreatDoor
namespace Lode
def za4:Nat->List (List UInt8)
 |4=>[[61,61],[33,61],[60],[60,61],[62],[62,61],[105,115]]
 |5=>[[43],[45],[43,43]]
 |6=>[[42],[47],[37]]
 |_=>[[111,114],[97,110,100]]
def ZE:Nat->List Nat
 |4=>[14,15,16,17,18,19,20]
 |5=>[8,9,10]
 |6=>[11,12,13]
 |_=>[22,21]
def wW(r:Nat):List (List UInt8):=[[105,110],[121,105,101,108,100],[99,111,108,108,101,99,116]] ++ [[115,101,110,100],[114,101,99,118],[111,117,116],[115,105,122,101],[115,104,111,119],[114,101,97,100],[98,121,116,101],[99,117,116]] ++ [[116,104,114,111,119],[115,112,97,119,110],[119,101,97,107]] ++ za4 1 ++ ((List.range' 4 (r-4)).flatMap za4)
def wK(r:Nat):List Nat:=[44,45,46] ++ [41,42,43,47,50,51,48,49] ++ [37,38,39] ++ ZE 1 ++ ((List.range' 4 (r-4)).flatMap ZE)
theorem zjt:∀r,r∈[4,5,6]->∀k,k∈ZE r->zr k=r:=by decide
theorem zf3:∀k,k<256->k∉[22,21,7,6,37,38,39,23,24]->(∀r,r∈[4,5,6]->k∉ZE r)->zr k=9:=by decide +kernel
theorem zi8:∀k,k<256->∀j,j<(wK 7).length->(wK 7).getD j 0=k->(∀i,i<j->(wK 7).getD i 0≠k)->xV k=(wW 7).getD j []:=by decide +kernel
theorem zi5:∀k,k<256->k∉wK 7->xV k=[]:=by decide +kernel
end Lode
namespace Go.Proofs.YtcagibbaeageoaaGreatDoor
section
open Go.RowKit Lode Go.Shelf
attribute [local go_sem ↓] Go.wp_at_zero Go.wp_at_succ
open Go.Proofs.Tryz
theorem Tryz.infoU8P:(prog.info? 5).map (fun i=>(i.zero,i.size,i.bytes))=some (some (.int .u8 0),1,1):=by kernel_rfl
abbrev Va(ws:List (List UInt8)):List Value:=ws.map fun s=>Value.string ⟨s.toArray⟩
abbrev u8L(ks:List Nat):List Value:=ks.map fun (k:Nat)=>Value.int .u8 k
theorem zci(w:World)(T:TypeId)(xs:List Value)(h:xs.length<=1000000):(w.alloc (.cells xs.toArray T (0,0))).ownsRow w.heap.size T 1 (.slice (some ⟨w.heap.size,0,none⟩) xs.length xs.length) xs.length xs:=
 ⟨by simp,.inr ⟨w.heap.size,xs.length,_,rfl,pF _,zl w _,pF _,by unfold maxLen;omega,by simp,by simp⟩⟩
theorem Xu{w:World}{B g n c:Nat}{T:TypeId}{xs:List Value}(h:w.ownsRow B T 1 (.slice (some ⟨g,0,none⟩) n c) n xs){j:Nat}{z:Value}(hz:xs[j]? =some z):w.cell? ⟨g,j,none⟩=some z:=by
 obtain⟨_,⟨hv,_⟩|⟨g',cap,cur,hv,_,hg,_,_,_,ht⟩⟩:=h
 ·cases hv
 ·cases hv;rw[zd hg j];rw[<-ht,List.getElem?_take] at hz;split at hz
  ·rwa [Array.getElem?_toList] at hz
  ·cases hz
theorem Xt{w:World}{B n:Nat}{T:TypeId}{v:Value}{xs:List Value}(h:w.ownsRow B T 1 v n xs)(hn:n≠0):∃g c,v=.slice (some ⟨g,0,none⟩) n c/\B<=g:=by
 obtain⟨_,⟨_,h0⟩|⟨g',cap,cur,hv,hb,_⟩⟩:=h
 ·exact absurd h0 hn
 ·exact⟨g',cap,hv,hb⟩
def zbq(w:World)(B:Nat)(T:TypeId)(v:Value)(n:Nat)(xs:List Value):Prop:=w.ownsRow B T 1 v n xs/\∃g,v=.slice (some ⟨g,0,none⟩) n n
theorem zbq.below{w W:World}{B n:Nat}{T:TypeId}{v:Value}{xs:List Value}(h:zbq w B T v n xs)(hb:Below w.heap.size w W):zbq W B T v n xs:=⟨zv h.1 hb,h.2⟩
def zlB(ws:List (List UInt8))(ks:List Nat)(w:World)(e:Ending)(w':World):Prop:=∃v u,e=.returned (.tuple #[v,u])/\(zbq w' w.heap.size 9 v ws.length (Va ws)/\zbq w' w.heap.size 5 u ks.length (u8L ks))/\Below w.heap.size w w'
theorem Jo(w:World)(ws:List (List UInt8))(ks:List Nat)(h1:ws.length<=1000)(h2:ks.length<=1000):(zbq ((w.alloc (.cells (Va ws).toArray 9 (0,0))).alloc (.cells (u8L ks).toArray 5 (0,0))) w.heap.size 9 (.slice (some ⟨w.heap.size,0,none⟩) ws.length ws.length) ws.length (Va ws)/\zbq ((w.alloc (.cells (Va ws).toArray 9 (0,0))).alloc (.cells (u8L ks).toArray 5 (0,0))) w.heap.size 5 (.slice (some ⟨w.heap.size+1,0,none⟩) ks.length ks.length) ks.length (u8L ks))/\Below w.heap.size w ((w.alloc (.cells (Va ws).toArray 9 (0,0))).alloc (.cells (u8L ks).toArray 5 (0,0))):=by
 have a1:=zci w 9 (Va ws) (by simp;omega);have a2:=zci (w.alloc (.cells (Va ws).toArray 9 (0,0))) 5 (u8L ks) (by simp;omega);have e:(w.alloc (.cells (Va ws).toArray 9 (0,0))).heap.size=w.heap.size+1:=by simp
 rw[e] at a2;simp only[wO] at a1 a2;refine⟨⟨⟨zv a1 (zg _ _),_,rfl⟩,⟨a2.1,a2.2.imp id ?_⟩,_,rfl⟩,(zg _ _).trans ((zg _ _).mono (by simp))⟩;rintro ⟨g,cap,cur,e1,e2,e3⟩;exact⟨g,cap,cur,e1,by omega,e3⟩
theorem zdE(w:World):Calls prog 172 #[] w (zlB [[105,110],[121,105,101,108,100],[99,111,108,108,101,99,116]] [44,45,46] w):=by
 have h:=Jo w [[105,110],[121,105,101,108,100],[99,111,108,108,101,99,116]] [44,45,46] (by decide) (by decide);have H:=zj h;clear h;go_enter func172,ntmps172;go_wp2;go_ret2;exact⟨_,_,rfl,H.out⟩
theorem Vf(w:World):Calls prog 174 #[] w (zlB [[116,104,114,111,119],[115,112,97,119,110],[119,101,97,107]] [37,38,39] w):=by
 have h:=Jo w [[116,104,114,111,119],[115,112,97,119,110],[119,101,97,107]] [37,38,39] (by decide) (by decide);have H:=zj h;clear h;go_enter func174,ntmps174;go_wp2;go_ret2;exact⟨_,_,rfl,H.out⟩
theorem zdK(w:World):Calls prog 173 #[] w (fun e w'=>∃v u m,e=.returned (.tuple #[v,u,m])/\(zbq w' w.heap.size 9 v 8 (Va [[115,101,110,100],[114,101,99,118],[111,117,116],[115,105,122,101],[115,104,111,119],[114,101,97,100],[98,121,116,101],[99,117,116]])/\zbq w' w.heap.size 5 u 8 (u8L [41,42,43,47,50,51,48,49]))/\Below w.heap.size w w'):=by
 have h:=Jo w [[115,101,110,100],[114,101,99,118],[111,117,116],[115,105,122,101],[115,104,111,119],[114,101,97,100],[98,121,116,101],[99,117,116]] [41,42,43,47,50,51,48,49] (by decide) (by decide);have H:=zj h;clear h;go_enter func173,ntmps173;go_wp2_with fail;go_ret3;exact⟨_,_,_,rfl,⟨H.out.1.1.below (zg _ _),H.out.1.2.below (zg _ _)⟩,zf H.out.2 (zg _ _)⟩
theorem JU(r:Nat)(hr:r∈[1,4,5,6])(w:World):Calls prog 175 #[.int .i64 (r:Nat)] w (zlB (za4 r) (ZE r) w):=by
 have h:=(by decide:∀r,r∈[1,4,5,6]->(za4 r).length<=1000/\(ZE r).length<=1000) r hr;have H:=zj (Jo w (za4 r) (ZE r) h.1 h.2);clear h;simp only[pS,pR,or_false] at hr;rcases hr with rfl|rfl|rfl|rfl
 all_goals
  go_enter func175,ntmps175;go_wp2;go_ret2;exact⟨_,_,rfl,H.out⟩
theorem zhG(v:Value)(ks:List Nat)(k B:Nat)(w:World)(h:w.ownsRow B 5 1 v ks.length (u8L ks))(hn:ks.length<=1000)(h0:ks.length≠0):
 Calls prog 257 #[v,.int .u8 k] w (qR w (.bool (decide (k∈ks)))):=by
 obtain⟨g,c,rfl,_⟩:=Xt h h0;obtain⟨n,hln⟩:=exE (ks.length);have hc:=zj (fun (j:Nat) (hj:j<ks.length) W (hW:Below w.heap.size w W)=>zh hW (Xu h (z:=.int .u8 (ks.getD j 0:Nat)) (by rw[wD,glE hj,pB,glE hj];rfl)));rw[hln] at hc hn ⊢;have Hln:=zj hln;clear h hln h0;go_enter func257,ntmps257;go_wp2;go_loopw [5] (fun i wr=>∃j:Nat,i=.int .i64 j/\j<=n/\Below w.heap.size w wr/\Hid (∀q,q<j->ks.getD q 0≠k)) (fun i _=>n-(intOf i).toNat)
 case atStart=>exact⟨0,rfl,by omega,pE _ _,zj (fun q hq=>absurd hq (pY _))⟩
 case round=>
  obtain⟨j,rfl,hj,hb,hno⟩:=hrel;by_cases hlt:j<n
  ·have hlt':(j:Int)<(n:Int):=by omega
   have hj0:¬((j:Int)<0):=by omega
   have hy:=pC ((j:Int)+1) (by omega);have c0:=hc.out j hlt wr hb;have hm:ks.getD j 0∈ks:=by rw[pB,glE (by rw[Hln.out];exact hlt)];exact wF _
   obtain⟨z,hz⟩:=exE (ks.getD j 0);rw[hz] at c0 hm;have HZ:=zj hz;clear hz;by_cases he:z=k
   ·subst he;rw[show decide (z∈ks)=true from wE hm];clear hm;go_wp2;go_ret;exact⟨rfl,hb⟩
   ·have he':((z:Int) == (k:Int))=false:=bfE (by omega)
    clear hm;go_wp2;go_roundw
    case rel=>exact⟨j+1,by go_num,by omega,hb,zj (fun q hq=>by
     by_cases e:q=j
     ·rw[e,HZ.out];exact he
     ·exact hno.out q (by omega))⟩
    case measure=>simp[intOf];omega
  ·have hlt':¬((j:Int)<(n:Int)):=by omega
   have hd:decide (k∈ks)=false:=pT (fun h=>by
    obtain⟨q,hq,e⟩:=List.getElem_of_mem h;exact hno.out q (by rw[Hln.out] at hq;omega) (by rw[pB,glE hq,<-e];rfl))
   rw[hd];go_wp2;go_ret;exact⟨rfl,hb⟩
theorem VJ(k:Nat)(hk:k<=255)(w:World):Calls prog 232 #[.int .u8 k] w (qR w (.int .i64 (zr k:Nat))):=by
 by_cases hm:k∈[22,21,7,6,37,38,39,23,24]
 ·simp only[pS,pR,or_false] at hm;rcases hm with rfl|rfl|rfl|rfl|rfl|rfl|rfl|rfl|rfl
  all_goals
   go_enter func232,ntmps232;go_wp2;go_ret;exact⟨rfl,pE _ _⟩
 ·have hne:∀q:Nat,q∈[22,21,7,6,37,38,39,23,24]->((k:Int) == (q:Int))=false:=fun q hq=>by
   rw[pA];intro e;exact hm ((show k=q by omega)▸hq)
  have n1:((k:Int) == 22)=false:=hne 22 (by decide);have n2:((k:Int) == 21)=false:=hne 21 (by decide);have n3:((k:Int) == 7)=false:=hne 7 (by decide);have n4:((k:Int) == 6)=false:=hne 6 (by decide);have n5:((k:Int) == 37)=false:=hne 37 (by decide);have n6:((k:Int) == 38)=false:=hne 38 (by decide);have n7:((k:Int) == 39)=false:=hne 39 (by decide);have n8:((k:Int) == 23)=false:=hne 23 (by decide);have n9:((k:Int) == 24)=false:=hne 24 (by decide);have Hm:=zj hm;obtain⟨R,hR⟩:=exE (zr k);rw[hR];have HR:=zj hR;clear hne hm hR;go_enter func232,ntmps232;go_wp2_with fail;clear n1 n2 n3 n4 n5 n6 n7 n8 n9;go_loopw [3] (fun i wr=>∃r:Nat,i=.int .i64 r/\(4<=r/\r<=7)/\Below w.heap.size w wr/\Hid (∀q,q∈[4,5,6]->q<r->k∉ZE q)) (fun i _=>7-(intOf i).toNat)
  case atStart=>exact⟨4,rfl,⟨by omega,by omega⟩,pE _ _,zj (fun q hq hl=>by simp at hq;omega)⟩
  case round=>
   obtain⟨r,rfl,hr,hb,hno⟩:=hrel;by_cases hlt:r<=6
   ·have hlt':(r:Int)<=6:=by omega
    have hy:=pC ((r:Int)+1) (by omega);have hr6:r∈[4,5,6]:=by
     obtain h|h|h:r=4\/r=5\/r=6:=by omega
     all_goals (rw[h];decide)
    have hlen:(ZE r).length<=1000/\(ZE r).length≠0:=(by decide:∀q,q∈[4,5,6]->(ZE q).length<=1000/\(ZE q).length≠0) r hr6;have hO:=zj (JU r (wJ _ hr6) wr);have hmem:=zj (zjt r hr6 k);go_wp2_with fail;refine hO.out.mono ?_;rintro e w1 ⟨v,u,rfl,⟨_,h2,_⟩,hb1⟩;have hH:=zj (fun W (hW:Below w1.heap.size w1 W)=>zhG _ (ZE r) k wr.heap.size W (zv h2 hW) hlen.1 hlen.2);obtain⟨b,hbq⟩:=exE (decide (k∈ZE r));rw[hbq] at hH;have Hbq:=zj hbq;have hbe:=zf hb hb1;clear hbq h2 hlen;go_wp2_with fail;refine (hH.out _ bR).mono ?_;rintro e w2 ⟨rfl,hb2⟩;have hbe2:=zf hbe hb2;cases b with
    |true=>
     have e1:=hmem.out (of_decide_eq_true Hbq.out);rw[HR.out] at e1;subst e1;go_wp2;go_ret;exact⟨rfl,hbe2⟩
    |false=>
     go_wp2;go_roundw
     case rel=>exact⟨r+1,by go_num,⟨by omega,by omega⟩,hbe2,zj (fun q hq hl=>by
      by_cases e:q=r
      ·rw[e];exact of_decide_eq_false Hbq.out
      ·exact hno.out q hq (by omega))⟩
     case measure=>simp[intOf];omega
   ·have hlt':¬((r:Int)<=6):=by omega
    have e9:=zf3 k (by omega) Hm.out (fun q hq=>hno.out q hq (by simp at hq;omega));rw[HR.out] at e9;subst e9;go_wp2;go_ret;exact⟨rfl,hb⟩
theorem Qj{w w':World}{B B' n m s s':Nat}{T E:TypeId}{v u:Value}{xs ys:List Value}(h:w.ownsRow B T s v n xs)(hu:w.ownsRow B' E s' u m ys)(hT:T≠E)(hg:w.grownBy w' u.ownBlock):w'.ownsRow B T s v n xs:=by
 refine⟨h.1,h.2.imp id ?_⟩;rintro ⟨g,cap,cur,e1,e2,e3,e4⟩;exact⟨g,cap,cur,e1,e2,(hg.block g (gtA e3) (fun e=>Qk hu e3 hT e.symm)).trans e3,e4⟩
theorem zjl{t e:TypeId}{i0:TypeInfo}{z:Value}{b:Nat}(ht:prog.underlying t=some (.slice e))(hi:prog.info? e=some i0)(hz0:i0.zero=some z)(hz1:i0.size=1)(hz2:i0.bytes=b)(hz:z.cells.size=1)(hb:b<=16)(ty:TypeId)
 {w:World} {B B' n m c:Nat} {v:Value} {xs ys:List Value} {g:Nat} (hown:w.ownsRow B e 1 v n xs) (hn:n≠0) (hu:w.ownsRow B' e 1 (.slice (some ⟨g,0,none⟩) m c) m ys) (h1:∀y∈ys,y.oneCell'=true) (hm:m≠0) (hl:n+m<=1000) :
 ∃v' w',(Builtin.append_ #[t,t] ty #[v,.slice (some ⟨g,0,none⟩) m c]).run prog w=.ok v' w'/\w'.ownsRow B e 1 v' (n+m) (xs ++ ys)/\w.grownBy w' v.ownBlock/\((∃g,v=.slice (some ⟨g,0,none⟩) n n)->w'.ownsRow w.heap.size e 1 v' (n+m) (xs ++ ys)/\Below w.heap.size w w'):=by
 have hBs:B<=w.heap.size:=by
  obtain⟨_,⟨_,h0⟩|⟨g',cap,cur,hv,hb',hg,_⟩⟩:=hown
  ·exact absurd h0 hn
  ·exact pQ hb' (Nat.le_of_lt (gtA hg))
 have hnews:∀j x,ys[j]? =some x->w.cell? ((⟨g,0,none⟩:Addr).add j)=some x:=fun j x h=>by
  have e1:(⟨g,0,none⟩:Addr).add j=⟨g,j,none⟩:=by unfold Addr.add;split <;> simp_all
  rw[e1];exact Xu hu h
 obtain⟨v',w',hr,h2,h3,_⟩:=run_append_own (P:=prog) w B t ty e i0 z 1 b ht hi hz0 hz1 hz2 hz (by decide) v n xs hown ⟨g,0,none⟩ m c ys hu.1 hnews h1 (by unfold maxLen;omega) (by
  have:(n+m)*b<=1000*16:=Nat.mul_le_mul hl hb;omega) hBs
 refine⟨v',w',hr,h2,h3,?_⟩;rintro ⟨g1,rfl⟩;have hr2:=run_append_grow (P:=prog) w t ty e i0 z ht hi hz0 ⟨g1,0,none⟩ n n xs (by rw[hz1];exact hown.1) (hown.cells (g:=g1) rfl) ⟨g,0,none⟩ m c ys (by rw[hz1];exact hu.1) hnews (by omega) (by omega) (growslice_fits (by omega) (by
  rw[hz2];have:(n+m)*b<=1000*16:=Nat.mul_le_mul hl hb;omega))
 rw[hr] at hr2;simp only[Result.ok.injEq] at hr2;obtain⟨e1,e2⟩:=hr2;subst e1;constructor
 ·refine⟨h2.1,h2.2.imp id ?_⟩;rintro ⟨g',cap,cur,e1,e3,e4⟩;refine⟨g',cap,cur,e1,?_,e4⟩;simp only[Value.slice.injEq,wN,Addr.mk.injEq,and_true] at e1;omega
 ·rw[e2];exact (pE w.heap.size w).drew.trans (zg w.drew _)
def zlF(t e:TypeId):Prop:=∃i0 z b,prog.underlying t=some (.slice e)/\prog.info? e=some i0/\i0.zero=some z/\i0.size=1/\i0.bytes=b/\z.cells.size=1/\b<=16
theorem zj4:zlF 133 9:=by
 obtain⟨i,h,h0,h1,h2⟩:=info_parts Tryz.infoStrP;exact⟨i,_,_,underlying133,h,h0,h1,h2,rfl,by decide⟩
theorem zj3:zlF 76 5:=by
 obtain⟨i,h,h0,h1,h2⟩:=info_parts Tryz.infoU8P;exact⟨i,_,_,underlying76,h,h0,h1,h2,rfl,by decide⟩
theorem vV{α:Type}{f:α->Value}{t e:TypeId}(T:zlF t e)(hf:∀x,(f x).oneCell'=true){w:World}{B B' n m:Nat}{v u:Value}{xs ys:List α}(hown:w.ownsRow B e 1 v n (xs.map f))(hu:w.ownsRow B' e 1 u m (ys.map f)){ops:Array Oper}{rest:List Oper}{o:Oper}{a:Act}{Q:Exit->Act->World->Prop}{s x:Operand}
 (h:∀v' w',w'.ownsRow B e 1 v' (n+m) ((xs ++ ys).map f)->w.grownBy w' v.ownBlock->((∃g,v=.slice (some ⟨g,0,none⟩) n n)->w'.ownsRow w.heap.size e 1 v' (n+m) ((xs ++ ys).map f)/\Below w.heap.size w w')->wpList prog ops Q rest (a.put o.dst v') w')
 (ho:o.op=.call {callee:=.builtin .append,args:= #[s,x],argTypes:= #[t,t]}:=by exact rfl) (hs:a.eval s=v:=by exact rfl) (hx:a.eval x=u:=by exact rfl) (hgd:o.guard=none:=by exact rfl) (hn:n≠0:=by decide) (hm:m≠0:=by decide) (hl:n+m<=1000:=by decide):wpList prog ops Q (o :: rest) a w:=by
 obtain⟨i0,z,b,ht,hi,hz0,hz1,hz2,hz,hb⟩:=T;obtain⟨g,c,rfl,_⟩:=Xt hu hm;refine wpList_plain hgd fun K hK=>?_
 obtain⟨v',w',hr,h2,h3,h4⟩:=zjl ht hi hz0 hz1 hz2 hz hb o.type hown hn hu (fun y hy=>by
  obtain⟨s,_,rfl⟩:=List.mem_map.1 hy;exact hf s) hm hl
 unfold Oper.wp;simp[execOp,ho,resolve,invoke,builtin,hs,hx,hr,Result.andThen];rw[<-List.map_append] at h2 h4;exact hK _ _ (h v' w' h2 h3 h4)
theorem vw{w w':World}{B n s:Nat}{T:TypeId}{v:Value}{xs:List Value}(h:w.ownsRow B T s v n xs)(hn:n≠0)(hg:w.grownBy w' v.ownBlock):Below B w w':=by
 obtain⟨_,⟨_,h0⟩|⟨g',cap,cur,rfl,hb',hg',_⟩⟩:=h
 ·exact absurd h0 hn
 ·have hlt:=(gG.1 hg').1;exact⟨hg.os,hg.tape,hg.output,hg.size,fun k hk=>hg.block k (by omega) (fun e=>by simp only[Value.ownBlock,wN] at e;omega)⟩
theorem zja:∀r,r∈[4,5,6]->wW (r+1)=wW r ++ za4 r/\wK (r+1)=wK r ++ ZE r/\(wW r).length≠0/\(za4 r).length≠0/\(ZE r).length≠0/\(wW r).length=(wK r).length/\(za4 r).length=(ZE r).length/\(wW r).length+(za4 r).length<=1000:=by decide
def WR(B r:Nat)(v u:Value)(w:World):Prop:=w.ownsRow B 9 1 v (wW r).length (Va (wW r))/\w.ownsRow B 5 1 u (wK r).length (u8L (wK r))
theorem zf4(k:Nat)(hk:k<=255)(w:World):Calls prog 119 #[.int .u8 k] w (qR w (.string ⟨(xV k).toArray⟩)):=by
 obtain⟨R,hR⟩:=exE (xV k);rw[hR];have HR:=zj hR;clear hR;have C1:=zj (zdE w);go_enter func119,ntmps119;go_wp2_with fail;refine C1.out.mono ?_;rintro e w1 ⟨va,ux,rfl,⟨a1,x1⟩,b1⟩;have C2:=zj (zdK w1);have A1:=zj a1;have X1:=zj x1;clear C1 a1 x1;go_wp2_with fail;refine C2.out.mono ?_;rintro e w2 ⟨vb,uy,mm,rfl,⟨a2,x2⟩,b2⟩;have C3:=zj (Vf w2);have A2:=zj a2;have X2:=zj x2;have s2:=b2.size;have B2:=zj (zf b1 b2);clear C2 a2 x2;go_wp2_with fail;refine C3.out.mono ?_;rintro e w3 ⟨vc,uz,rfl,⟨a3,x3⟩,b3⟩;have C4:=zj (JU 1 (by decide) w3);have A3:=zj a3;have X3:=zj x3;have B3:=zj (zf B2.out b3);clear C3 a3 x3;go_wp2_with fail;refine C4.out.mono ?_;rintro e w4 ⟨vd,uv,rfl,⟨a4,x4⟩,b4⟩;have B4:=zj (zf B3.out b4);have o34:=b3.trans (b4.mono b3.size);have o24:=b2.trans (o34.mono b2.size);have P1:=A1.out.below o24;have Q1:=X1.out.below o24;have P2:=A2.out.below o34;have Q2:=X2.out.below o34;have P3:=A3.out.below b4;have Q3:=X3.out.below b4;have PQ:=zj (fun W (hW:Below w4.heap.size w4 W)=>And.intro (And.intro (P1.below hW) (Q1.below hW)) (And.intro (And.intro (P2.below hW) (Q2.below hW)) (And.intro (And.intro (P3.below hW) (Q3.below hW)) (And.intro (a4.below hW) (x4.below hW)))));clear C4 a4 x4 A1 X1 A2 X2 A3 X3 P1 Q1 P2 Q2 P3 Q3 o34 o24 b1 b2 b3 b4 B2 B3 s2;have hd:=pE w4.heap.size w4;go_wp2_with (at_builtin;first
  |(refine vV (f:=fun (s:List UInt8)=>Value.string ⟨s.toArray⟩) zj4 (fun _=>rfl) (PQ.out _ hd).1.1.1 (PQ.out _ hd).2.1.1.1 ?_;intro v5 w5 _ _ h5;replace h5:=h5 (PQ.out _ hd).1.1.2;have O5:=zj h5.1;have b5:=hd.trans h5.2;clear h5)
  |(refine vV (f:=fun (s:List UInt8)=>Value.string ⟨s.toArray⟩) zj4 (fun _=>rfl) O5.out (PQ.out _ b5).2.2.1.1.1 ?_;intro v6 w6 h6 g6 _;have O6:=zj h6;have b6:=b5.trans (vw O5.out (by decide) g6);clear h6 g6)
  |(refine vV (f:=fun (s:List UInt8)=>Value.string ⟨s.toArray⟩) zj4 (fun _=>rfl) O6.out (PQ.out _ b6).2.2.2.1.1 ?_;intro v7 w7 h7 g7 _;have O7:=zj h7;have b7:=b6.trans (vw O6.out (by decide) g7);clear h7 g7 O5 O6 b5 b6)
  |(refine vV (f:=fun (k:Nat)=>Value.int .u8 k) zj3 (fun _=>rfl) (PQ.out _ b7).1.2.1 (PQ.out _ b7).2.1.2.1 ?_;intro v8 w8 _ _ h8;replace h8:=h8 (PQ.out _ b7).1.2.2;have O8:=zj h8.1;have b8:=h8.2;clear h8)
  |(refine vV (f:=fun (k:Nat)=>Value.int .u8 k) zj3 (fun _=>rfl) O8.out (PQ.out _ (b7.trans (b8.mono b7.size))).2.2.1.2.1 ?_;intro v9 w9 h9 g9 _;have O9:=zj h9;have b9:=b8.trans (vw O8.out (by decide) g9);clear h9 g9)
  |(refine vV (f:=fun (k:Nat)=>Value.int .u8 k) zj3 (fun _=>rfl) O9.out (PQ.out _ (b7.trans (b9.mono b7.size))).2.2.2.2.1 ?_;intro v10 w10 h10 g10 _;have O10:=zj h10;have b10:=b9.trans (vw O9.out (by decide) g10);clear h10 g10 O8 O9 b8 b9))
 have hw:=zf (zf B4.out b7) b10;have hs4:=B4.out.size;have hW0:=zj (show WR w.heap.size 4 v7 v10 w10 from ⟨vM (zv O7.out b10) hs4,vM O10.out (pQ hs4 b7.size)⟩);clear b7 b10 O7 O10 PQ B4 hs4 hd;go_loopw [12,13,14] (fun v u i wr=>∃r:Nat,i=.int .i64 r/\(4<=r/\r<=7)/\Below w.heap.size w wr/\Hid (WR w.heap.size r v u wr)) (fun _ _ i _=>7-(intOf i).toNat)
 case atStart=>exact⟨4,rfl,⟨by omega,by omega⟩,hw,hW0⟩
 case round=>
  obtain⟨r,rfl,hr,hb,hW⟩:=hrel;by_cases hlt:r<=6
  ·have hlt':(r:Int)<=6:=by omega
   have hy:=pC ((r:Int)+1) (by omega);have hr6:r∈[4,5,6]:=by
    obtain h|h|h:r=4\/r=5\/r=6:=by omega
    all_goals (rw[h];decide)
   have hO:=zj (JU r (wJ _ hr6) wr);have hst:=zj (zja r hr6);clear hr6;go_wp2_with fail;refine hO.out.mono ?_;rintro e wa ⟨ve,ue,rfl,⟨he1,he2⟩,hba⟩;have E1:=zj he1.1;have E2:=zj he2.1;have U1:=zj (zv hW.out.1 hba);have U2:=zj (zv hW.out.2 hba);have hbe:=zf hb hba;clear hO he1 he2 hb hba hW;go_wp2_with (at_builtin;first
    |(refine vV (f:=fun (s:List UInt8)=>Value.string ⟨s.toArray⟩) zj4 (fun _=>rfl) U1.out E1.out ?_ (hn:=hst.out.2.2.1) (hm:=hst.out.2.2.2.1) (hl:=hst.out.2.2.2.2.2.2.2);intro v1 wb h1 g1 _;have V1:=zj h1;have F2:=zj (Qj U2.out U1.out (by decide) g1);have F3:=zj (Qj E2.out U1.out (by decide) g1);have hbb:=hbe.trans (vw U1.out hst.out.2.2.1 g1);clear h1 g1 U1 U2 E1 E2 hbe)
    |(refine vV (f:=fun (k:Nat)=>Value.int .u8 k) zj3 (fun _=>rfl) F2.out F3.out ?_ (hn:=hst.out.2.2.2.2.2.1▸hst.out.2.2.1) (hm:=hst.out.2.2.2.2.1) (hl:=hst.out.2.2.2.2.2.1▸hst.out.2.2.2.2.2.2.1▸hst.out.2.2.2.2.2.2.2);intro u1 wc h2 g2 _;have V2:=zj h2;have V3:=zj (Qj V1.out F2.out (by decide) g2);have hbc:=hbb.trans (vw F2.out (hst.out.2.2.2.2.2.1▸hst.out.2.2.1) g2);clear h2 g2 V1 F2 F3 hbb))
   go_roundw
   case rel=>exact⟨r+1,by go_num,⟨by omega,by omega⟩,hbc,zj (by
    obtain⟨e1,e2,_⟩:=hst.out;unfold WR;rw[e1,e2,pG,pG];exact⟨V3.out,V2.out⟩)⟩
   case measure=>simp[intOf];omega
  ·have hlt':¬((r:Int)<=6):=by omega
   obtain rfl:r=7:=by omega
   obtain⟨n,hn⟩:∃n,n=(wK 7).length:=⟨_,rfl⟩;have hn1:(wW 7).length=n:=by rw[hn];decide
   have hn2:n<=1000:=by rw[hn];decide
   obtain⟨hW1,hW2⟩:=hW.out;rw[hn1] at hW1;rw[<-hn] at hW2;have hn0:n≠0:=by rw[hn];decide
   obtain⟨g,c,rfl,_⟩:=Xt hW1 hn0;obtain⟨g',c',rfl,_⟩:=Xt hW2 hn0;obtain⟨wo,rfl⟩:∃wo,wo=wr:=⟨_,rfl⟩;have hc:=zj (fun (j:Nat) (hj:j<n) W (hV:Below wo.heap.size wo W)=>And.intro (zh hV (Xu hW1 (z:=.string ⟨((wW 7).getD j []).toArray⟩) (by rw[wD,glE (show j<(wW 7).length by omega),pB,glE (show j<(wW 7).length by omega)];rfl))) (zh hV (Xu hW2 (z:=.int .u8 ((wK 7).getD j 0:Nat)) (by rw[wD,glE (show j<(wK 7).length by omega),pB,glE (show j<(wK 7).length by omega)];rfl))));have Hn:=zj hn;clear hW hW1 hW2 hn hn1 hn0 hr;go_wp2;go_loopw [17] (fun i wr=>∃j:Nat,i=.int .i64 j/\j<=n/\Below wo.heap.size wo wr/\Hid (∀q,q<j->(wK 7).getD q 0≠k)) (fun i _=>n-(intOf i).toNat)
   case atStart=>exact⟨0,rfl,by omega,pE _ _,zj (fun q hq=>absurd hq (pY _))⟩
   case round=>
    obtain⟨j,rfl,hj,hbq,hno⟩:=hrel;have hbe:=zj (zf hb hbq);by_cases hlt:j<n
    ·have hlt':(j:Int)<(n:Int):=by omega
     have hj0:¬((j:Int)<0):=by omega
     have hy:=pC ((j:Int)+1) (by omega);obtain⟨c1,c0⟩:=hc.out j hlt wr hbq;obtain⟨z,hz⟩:=exE ((wK 7).getD j 0);rw[hz] at c0;have HZ:=zj hz;clear hz;by_cases he:z=k
     ·subst he;rw[<-HR.out,zi8 z (by omega) j (by rw[<-Hn.out];exact hlt) HZ.out hno.out];generalize ((wW 7).getD j [])=T at *;go_wp2;go_ret;exact⟨rfl,hbe.out⟩
     ·have he':((z:Int) == (k:Int))=false:=bfE (by omega)
      clear c1;go_wp2;go_roundw
      case rel=>exact⟨j+1,by go_num,by omega,hbq,zj (fun q hq=>by
       by_cases e:q=j
       ·rw[e,HZ.out];exact he
       ·exact hno.out q (by omega))⟩
      case measure=>simp[intOf];omega
    ·have hlt':¬((j:Int)<(n:Int)):=by omega
     obtain rfl:R=[]:=HR.out.symm.trans (zi5 k (by omega) (fun h=>by
      obtain⟨q,hq,e⟩:=List.getElem_of_mem h;exact hno.out q (by rw[<-Hn.out] at hq;omega) (by rw[pB,glE hq,<-e];rfl)))
     go_wp2;go_ret;exact⟨rfl,hbe.out⟩
theorem ziv(m:Nat)(W:World):(Go.convert 76 9 (.slice (some ⟨W.heap.size,0,none⟩) 1 1)).run prog (W.alloc (.cells #[.int .u8 (48+(m:Int) % 10)] 5 (0,0)))=.ok (.string ⟨#[UInt8.ofNat (48+m % 10)]⟩) (W.alloc (.cells #[.int .u8 (48+(m:Int) % 10)] 5 (0,0))):=by
 have e:((UInt8.ofNat (48+m % 10)).toNat:Int)=48+(m:Int) % 10:=by rw[UInt8.toNat_ofNat'];omega
 rw[<-e];have hn:=zl W (.cells #[.int .u8 ((UInt8.ofNat (48+m % 10)).toNat:Int)] 5 (0,0));exact run_convert_bytes_back (P:=prog) _ 76 9 5 ⟨W.heap.size,0,none⟩ 1 [UInt8.ofNat (48+m % 10)] underlying76 underlying5 underlying9 (fun j hj=>by
  have hj0:j=0:=by simpa using hj
  subst hj0;exact zd hn 0)
theorem Qg:∀(f m:Nat),m<f->m<=1000000000->∀w,Calls prog 115 #[.int .i64 (m:Nat)] w (uT w (Go.Lib.decDigits m))
 |0,m,h,_=>absurd h (pY _)
 |f+1,m,hf,hm=>fun w=>by
  have h0:¬((m:Int)<0):=by omega
  have kc:=ziv m w;obtain⟨c,hc⟩:=exE (UInt8.ofNat (48+m % 10));rw[hc] at kc;have Hc:=zj hc;clear hc;by_cases h:m<10
  ·have hl:¬(10<=(m:Int)):=by omega
   go_enter func115,ntmps115;go_wp2;go_ret;refine⟨_,rfl,?_,zg _ _⟩;rw[Go.Lib.decDigits,dif_pos h,<-Hc.out,Nat.mod_eq_of_lt h]
  ·have hl:10<=(m:Int):=by omega
   have IH:=zj (Qg f (m / 10) (by omega) (by omega));rw[show ((m / 10:Nat):Int)=(m:Int) / 10 from by omega] at IH;have hq:=ZX (n:=((m / 10:Nat):Int)) (by omega) (by omega);rw[Go.Lib.itoa_nonneg] at hq;have hba:=zj (zg w (.cells #[.int .u8 (48+(m:Int) % 10)] 5 (0,0)));go_enter func115,ntmps115;go_wp2_with fail;refine (IH.out _).mono ?_;rintro e w1 ⟨b,rfl,hb,hbe⟩;have hb2:=zf hba.out hbe;have hsz:b.size<=11:=by show b.data.size<=11;rw[<-Array.length_toList,hb];exact hq
   clear kc hbe IH;go_wp2;go_ret;refine⟨_,rfl,?_,hb2⟩;rw[Go.Lib.decDigits,dif_neg h,Hc.out,<-hb];simp
theorem JV(n:Int)(h1: -1000000000<=n)(h2:n<=1000000000)(w:World):Calls prog 115 #[.int .i64 n] w (uT w (Go.Lib.itoa n)):=by
 by_cases h0:n<0
 ·obtain⟨m,hm⟩:=pJ (show 0<=-n by omega);have hw:IntKind.i64.wrap (-n)= -n:=pC _ ⟨by omega,by omega⟩;have IH:=zj (Qg (m+1) m (Nat.lt_succ_self m) (by omega));rw[<-hm] at IH;have hq:=ZX (n:=(m:Int)) (by omega) (by omega);rw[Go.Lib.itoa_nonneg] at hq;have hl:=zj (show Go.Lib.itoa n=45 :: Go.Lib.decDigits m by rw[show n= -(m:Int) by omega];exact Go.Lib.itoa_neg m (by omega));clear hm;go_enter func115,ntmps115;go_wp2_with fail;refine (IH.out _).mono ?_;rintro e w1 ⟨b,rfl,hb,hbe⟩;have hsz:b.size<=11:=by show b.data.size<=11;rw[<-Array.length_toList,hb];exact hq
  go_wp2;go_ret;refine⟨_,rfl,?_,hbe⟩;rw[hl.out,<-hb];simp
 ·obtain⟨m,rfl⟩:=pJ (show 0<=n by omega);rw[show Go.Lib.itoa (m:Nat)=Go.Lib.decDigits m from Go.Lib.itoa_nonneg m];exact Qg (m+1) m (Nat.lt_succ_self m) (by omega) w
structure TxT(w:World)(nv iv:Value)(l:List Nd):Prop where
 ns:NSo w nv l
 iv:∃p m c,iv=.slice p m c
theorem TxT.below{w W:World}{nv iv:Value}{l:List Nd}(h:TxT w nv iv l)(hb:Below w.heap.size w W):TxT W nv iv l:=⟨h.ns.below hb,h.iv⟩
abbrev zbm(w:World)(nv iv:Value):World:=w.alloc (.cells #[nv,iv] 26 (0,0))
abbrev Vp(w:World)(nv iv:Value)(k:Nat)(t:List UInt8)(n:Int)(up:Option Addr)(m uc:Nat)(a:Int):World:=(zbm w nv iv).alloc (.cells #[.int .u8 k,.string ⟨t.toArray⟩,.int .i64 n,.slice up m uc,.int .i64 a] 60 (0,0))
abbrev XN(W:World)(s:Nat)(nv iv:Value)(k:Nat)(t:List UInt8)(n:Int)(up:Option Addr)(m uc:Nat)(a:Int):Prop:=(W.cell? ⟨s,0,none⟩=some nv/\W.cell? ⟨s,1,none⟩=some iv)/\NdS W (s+1) 0 k t n up m uc a
theorem XN.later{W V:World}{s k:Nat}{nv iv:Value}{t:List UInt8}{n a:Int}{up:Option Addr}{m uc:Nat}(h:XN W s nv iv k t n up m uc a)(hb:Below W.heap.size W V):XN V s nv iv k t n up m uc a:=⟨⟨zh hb h.1.1,zh hb h.1.2⟩,h.2.later hb⟩
theorem zam(w:World)(nv iv:Value)(k:Nat)(t:List UInt8)(n:Int)(up:Option Addr)(m uc:Nat)(a:Int):XN (Vp w nv iv k t n up m uc a) w.heap.size nv iv k t n up m uc a/\Below w.heap.size w (Vp w nv iv k t n up m uc a):=by
 have hz:=zl w (.cells #[nv,iv] 26 (0,0));have hA:=zg w (.cells #[nv,iv] 26 (0,0));have hB:=zg (zbm w nv iv) (.cells #[.int .u8 k,.string ⟨t.toArray⟩,.int .i64 n,.slice up m uc,.int .i64 a] 60 (0,0));have hn:=zl (zbm w nv iv) (.cells #[.int .u8 k,.string ⟨t.toArray⟩,.int .i64 n,.slice up m uc,.int .i64 a] 60 (0,0));rw[show (zbm w nv iv).heap.size=w.heap.size+1 by simp] at hn;exact⟨⟨⟨zd (zi hB hz) 0,zd (zi hB hz) 1⟩,zd hn 0,zd hn 1,zd hn 2,zd hn 3,zd hn 4⟩,zf hA hB⟩
theorem zjZ{w:World}{p:Addr}{v:Value}(h:w.cell? p=some v):p.block<w.heap.size:=by
 unfold World.cell? at h;rcases Nat.lt_or_ge p.block w.heap.size with h'|h'
 ·exact h'
 ·rw[Array.getElem?_eq_none h'] at h;cases h
theorem Ju{w:World}{nv iv:Value}{l:List Nd}(h:TxT w nv iv l){i k:Nat}{t:List UInt8}{n a:Int}{ks:List Int}(hx:l[i]? =some ⟨k,t,n,ks,a⟩):∃g off nc ip im ic up uc,nv=.slice (some ⟨g,off,none⟩) l.length nc/\iv=.slice ip im ic/\(NdS w g (off+i*5) k t n up ks.length uc a/\NdS (zbm w nv iv) g (off+i*5) k t n up ks.length uc a)/\KW w (.slice up ks.length uc) ks/\i<l.length:=by
 obtain⟨ip,im,ic,rfl⟩:=h.iv;obtain⟨p,nc,rfl⟩:=h.ns.form;obtain⟨g,off,u,rfl,hA⟩:=h.ns.at hx;obtain⟨up,uc,rfl⟩:=hA.kids.form;have hn:NdS w g (off+i*5) k t n up ks.length uc a:=⟨hA.c0,hA.c1,hA.c2,hA.c3,hA.c4⟩;exact⟨g,off,nc,ip,im,ic,up,uc,rfl,rfl,⟨hn,hn.later (zg _ _)⟩,hA.kids,(gtL hx)⟩
theorem zf7{w:World}{nv iv:Value}{l:List Nd}(h:TxT w nv iv l){i j:Nat}{x:Nd}(hx:l[i]? =some x)(hj:j<x.kids.length)(hj3:x.kids.length<=100000)(hk:0<=zu x j/\zu x j<(l.length:Int))(h8:∀y∈l,y.kind<=255):Calls prog 171 #[.agg #[nv,iv],.int .i64 i,.int .i64 j] w (qR w (.bool (qw l x j))):=by
 obtain⟨Kd,txt,n,ks,a⟩:=x;obtain⟨z,hz⟩:=pJ hk.1;obtain⟨y,hy⟩:∃y,l[z]? =some y:=⟨_,glE (by omega)⟩;have hK8:=h8 _ (pM hx);have hy8:=h8 _ (pM hy);obtain⟨g,off,nc,ip,im,ic,up,uc,rfl,rfl,⟨cX,bX⟩,hKS,hi⟩:=Ju h hx;obtain⟨K2,t2,n2,ks2,a2⟩:=y;obtain⟨g',off',nc',_,_,_,up2,uc2,hnv,_,⟨cY,bY⟩,_,hz1⟩:=Ju h hy;simp only[Value.slice.injEq,wN,Addr.mk.injEq,and_true,true_and] at hnv;obtain⟨⟨rfl,rfl⟩,rfl⟩:=hnv;obtain⟨g2,off2,rfl,cJ⟩:=hKS.at hj;have hz':ks.getD j 0=(z:Int):=hz;rw[hz'] at cJ;have hg:=zjZ cX.1;have hka:zt l (z:Int)=K2:=by
  unfold zt;simp[hy]
 have hR:qw l ⟨Kd,txt,n,ks,a⟩ j=(if !zW K2 then false else if Kd == 23 || (Kd == 24 && j == 0) then decide (zr K2<8) || (Kd == 24 && K2 == 25 && ks2.isEmpty) else if Kd == 24 then false else if Kd == 7 then decide (zr K2<3) else if zr Kd == 7 then decide (zr K2<7) else if zr Kd == 4 then decide (zr K2<5) else if zr Kd == 1 || zr Kd == 2 || zr Kd == 5 || zr Kd == 6 then decide (zr K2<zr Kd+j) else false):=by
  unfold qw;simp[hz,hka,hy]
 obtain⟨R,hRe⟩:=exE (qw l ⟨Kd,txt,n,ks,a⟩ j);rw[hRe] at hR ⊢;have HR:=zj hR;have hrk:=zj (VJ Kd hK8);have hrk2:=zj (VJ K2 hy8);obtain⟨hE,hB⟩:=zam w (.slice (some ⟨g,off,none⟩) l.length nc) (.slice ip im ic) Kd txt n (some ⟨g2,off2,none⟩) ks.length uc a;have HE:=zj hE;have HB:=zj hB;have cJ':=zh hB cJ;have cY':=cY.later hB;have hi':(i:Int)<(l.length:Int):=by omega
 have hi0:¬((i:Int)<0):=by omega
 have hz0:¬((z:Int)<0):=by omega
 have hz1':(z:Int)<(l.length:Int):=by omega
 have hj':(j:Int)<(ks.length:Int):=by have:j<ks.length:=hj;omega
 have hj0:¬((j:Int)<0):=by omega
 have hS:∀V,(zkv (w.heap.size+2)).rel (Vp w (.slice (some ⟨g,off,none⟩) l.length nc) (.slice ip im ic) Kd txt n (some ⟨g2,off2,none⟩) ks.length uc a).drew V->(XN V w.heap.size (.slice (some ⟨g,off,none⟩) l.length nc) (.slice ip im ic) Kd txt n (some ⟨g2,off2,none⟩) ks.length uc a/\V.cell? ⟨g2,off2+j,none⟩=some (.int .i64 z)/\NdS V g (off+z*5) K2 t2 n2 up2 ks2.length uc2 a2):=fun V hV=>by
  have hV:Below _ (Vp w (.slice (some ⟨g,off,none⟩) l.length nc) (.slice ip im ic) Kd txt n (some ⟨g2,off2,none⟩) ks.length uc a) V:=bR.drew.trans (hV.mono (show (Vp w (.slice (some ⟨g,off,none⟩) l.length nc) (.slice ip im ic) Kd txt n (some ⟨g2,off2,none⟩) ks.length uc a).heap.size<=_ by simp));exact⟨HE.out.later hV,zh hV cJ',cY'.later hV⟩
 obtain⟨b0,b1,b2,b3,b4⟩:=bX;obtain⟨⟨e0,e1⟩,e2,e3,e4,e5,e6⟩:=hE;have hj4:j<100000:=wI hj hj3;clear h hx hy h8 hk hka hKS cX cY bY cJ cJ' cY' hR hRe hz hz' hB hg;go_enter func171,ntmps171;go_wp2_with fail;refine LodeX.qH (RR:=zkv (w.heap.size+2)) (Xp:=fun _ _=>False) [(0,0),(1,1),(2,0),(3,1),(4,0),(5,0),(6,1),(7,0),(8,1),(9,2),(10,3)] ?_;refine LodeX.qr ?_;refine LodeX.callX fun K hK=>?_
 go_simp;refine⟨(zg (Vp w (.slice (some ⟨g,off,none⟩) l.length nc) (.slice ip im ic) Kd txt n (some ⟨g2,off2,none⟩) ks.length uc a).drew _).mono (by simp),hK _ _ ?_⟩;clear hK K hS
 try simp only[Act.put,yC,yA,yB]
 refine LodeX.kA rfl rfl (fun V hV=>?_);cases hV;go_simp;refine LodeX.vC ?_;generalize hW3:((Vp w (.slice (some ⟨g,off,none⟩) l.length nc) (.slice ip im ic) Kd txt n (some ⟨g2,off2,none⟩) ks.length uc a).alloc (.cells #[.int .u8 K2,.string ⟨t2.toArray⟩,.int .i64 n2,.slice up2 ks2.length uc2,.int .i64 a2] 60 (0,0))).drew=W3;obtain⟨⟨hX,hY⟩,hb3⟩:(NdS W3 (w.heap.size+1) 0 Kd txt n (some ⟨g2,off2,none⟩) ks.length uc a/\NdS W3 (w.heap.size+1+1) 0 K2 t2 n2 up2 ks2.length uc2 a2)/\Below w.heap.size w W3:=by
  subst hW3;have hb:=zg (Vp w (.slice (some ⟨g,off,none⟩) l.length nc) (.slice ip im ic) Kd txt n (some ⟨g2,off2,none⟩) ks.length uc a) (.cells #[.int .u8 K2,.string ⟨t2.toArray⟩,.int .i64 n2,.slice up2 ks2.length uc2,.int .i64 a2] 60 (0,0));have hn:=zl (Vp w (.slice (some ⟨g,off,none⟩) l.length nc) (.slice ip im ic) Kd txt n (some ⟨g2,off2,none⟩) ks.length uc a) (.cells #[.int .u8 K2,.string ⟨t2.toArray⟩,.int .i64 n2,.slice up2 ks2.length uc2,.int .i64 a2] 60 (0,0));rw[show (Vp w (.slice (some ⟨g,off,none⟩) l.length nc) (.slice ip im ic) Kd txt n (some ⟨g2,off2,none⟩) ks.length uc a).heap.size=w.heap.size+1+1 by simp] at hn;exact⟨⟨HE.out.2.later hb.drew,zd hn 0,zd hn 1,zd hn 2,zd hn 3,zd hn 4⟩,(zf HB.out hb).drew⟩
 have HX:=zj hX;have HY:=zj hY;have HB3:=zj hb3;clear hW3 HE HB b0 b1 b2 b3 b4 e0 e1 e2 e3 e4 e5 e6 hX hY hb3 hi' hi0 hz0 hz1' hj' hj0;have hS:∀V,Cl W3.drew V->(V.cell? ⟨w.heap.size+1,0,none⟩=some (.int .u8 Kd)/\V.cell? ⟨w.heap.size+1+1,0,none⟩=some (.int .u8 K2)):=fun V h=>⟨zh (w:=W3.drew) h.below HX.out.1,zh (w:=W3.drew) h.below HY.out.1⟩
 go_wp2_with fail;refine Xk [(0,0),(1,1),(3,0),(4,1),(2,2),(5,2),(6,0),(7,0)] ?_;refine XQ ?_;clear hS;refine ya rfl rfl (fun K hK V hV=>?_);go_simp;refine (hrk.out V).mono ?_;rintro e V1 ⟨rfl,f1⟩;refine⟨jm.2 f1,hK _ _ ?_⟩;clear hK K;have g1:=hV.below.trans (f1.mono hV.below.size);clear f1 hV;refine ya rfl rfl (fun K hK V2 hV=>?_);go_simp;refine (hrk2.out V2).mono ?_;rintro e V3 ⟨rfl,f2⟩;refine⟨jm.2 f2,hK _ _ ?_⟩;clear hK K;have g2:=g1.trans ((hV.below.trans (f2.mono hV.below.size)).mono g1.size);clear f2 hV g1;refine XQ ?_;refine zC fun W4 h4=>?_
 have g3:Below W3.heap.size W3 W4:=(pE _ W3).drew.trans (g2.trans (h4.below.mono g2.size));have HX:=zj (HX.out.later g3);have HY:=zj (HY.out.later g3);have HB3:=zj (zf HB3.out g3);clear g2 h4 g3 hrk hrk2;have hIs:=zj (ZT K2);have cy:=HY.out.1;generalize zr Kd=r1 at *;generalize zr K2=r2 at *;generalize zW K2=eb at *;go_wp2_with fail;refine (hIs.out W4).mono ?_;rintro e W5 ⟨rfl,f⟩;obtain⟨x0,_,_,x3,_⟩:=HX.out.later f;obtain⟨y0,_,_,y3,_⟩:=HY.out.later f;have hbe:=zf HB3.out f;clear HX HY HB3 f cy hIs;cases eb with
 |false=>
  go_wp2;go_ret;exact⟨by rw[HR.out];rfl,hbe⟩
 |true=>
  have R0:=HR.out;simp only[Bool.not_true,Bool.false_eq_true,if_false] at R0;clear HR;by_cases h23:Kd=23
  ·subst h23;have R1:R=decide (r2<8):=R0.trans (by simp);by_cases hr:r2<8
   ·have hr':(r2:Int)<8:=by omega
    try clear R0
    rw[wE hr] at R1;subst R1;go_wp2;go_ret;exact⟨by first|rfl|exact congrArg (fun b=>Ending.returned (.bool b)) (by first|exact pT (by omega)|exact wE (by omega)),hbe⟩
   ·have hr':¬(r2:Int)<8:=by omega
    try clear R0
    rw[pT hr] at R1;subst R1;go_wp2;go_ret;exact⟨by first|rfl|exact congrArg (fun b=>Ending.returned (.bool b)) (by first|exact pT (by omega)|exact wE (by omega)),hbe⟩
  have n23:((Kd:Int) == 23)=false:=bfE (by omega)
  by_cases h24:Kd=24
  ·subst h24;by_cases hj:j=0
   ·subst hj;have R1:R=(decide (r2<8) || (K2 == 25 && ks2.isEmpty)):=R0.trans (by simp);by_cases hr:r2<8
    ·have hr':(r2:Int)<8:=by omega
     rw[wE hr,Bool.true_or] at R1;subst R1
     try clear R0
     go_wp2;go_ret;exact⟨by first|rfl|exact congrArg (fun b=>Ending.returned (.bool b)) (by first|exact pT (by omega)|exact wE (by omega)),hbe⟩
    ·have hr':¬(r2:Int)<8:=by omega
     rw[pT hr,Bool.false_or] at R1;by_cases h25:K2=25
     ·subst h25;replace R1:R=decide (ks2.length=0):=R1.trans (by cases ks2 <;> simp);by_cases hm:ks2.length=0
      ·have hm':((ks2.length:Int) == 0)=true:=by rw[pX];omega
       rw[wE hm] at R1;subst R1
       try clear R0
       go_wp2;go_ret;exact⟨by first|rfl|exact congrArg (fun b=>Ending.returned (.bool b)) (by first|exact pT (by omega)|exact wE (by omega)),hbe⟩
      ·have hm':((ks2.length:Int) == 0)=false:=bfE (by omega)
       rw[pT hm] at R1;subst R1
       try clear R0
       go_wp2;go_ret;exact⟨by first|rfl|exact congrArg (fun b=>Ending.returned (.bool b)) (by first|exact pT (by omega)|exact wE (by omega)),hbe⟩
     ·have n25:((K2:Int) == 25)=false:=bfE (by omega)
      rw[show (K2 == 25)=false from by rw[pA];exact h25,Bool.false_and] at R1;subst R1
      try clear R0
      go_wp2;go_ret;exact⟨by first|rfl|exact congrArg (fun b=>Ending.returned (.bool b)) (by first|exact pT (by omega)|exact wE (by omega)),hbe⟩
   ·have nj:((j:Int) == 0)=false:=bfE (by omega)
    have R1:R=false:=R0.trans (by simp[hj]);subst R1
    try clear R0
    go_wp2;go_ret;exact⟨by first|rfl|exact congrArg (fun b=>Ending.returned (.bool b)) (by first|exact pT (by omega)|exact wE (by omega)),hbe⟩
  have n24:((Kd:Int) == 24)=false:=bfE (by omega)
  by_cases h7:Kd=7
  ·subst h7;have R1:R=decide (r2<3):=R0.trans (by simp);by_cases hr:r2<3
   ·have hr':(r2:Int)<3:=by omega
    try clear R0
    rw[wE hr] at R1;subst R1;go_wp2;go_ret;exact⟨by first|rfl|exact congrArg (fun b=>Ending.returned (.bool b)) (by first|exact pT (by omega)|exact wE (by omega)),hbe⟩
   ·have hr':¬(r2:Int)<3:=by omega
    try clear R0
    rw[pT hr] at R1;subst R1;go_wp2;go_ret;exact⟨by first|rfl|exact congrArg (fun b=>Ending.returned (.bool b)) (by first|exact pT (by omega)|exact wE (by omega)),hbe⟩
  have n7:((Kd:Int) == 7)=false:=bfE (by omega)
  have R1:R=(if r1 == 7 then decide (r2<7) else if r1 == 4 then decide (r2<5) else if r1 == 1 || r1 == 2 || r1 == 5 || r1 == 6 then decide (r2<r1+j) else false):=R0.trans (by simp[h23,h24,h7]);clear R0;by_cases h1:r1=7
  ·subst h1;replace R1:R=decide (r2<7):=R1;by_cases hr:r2<7
   ·have hr':(r2:Int)<7:=by omega
    try clear R0
    rw[wE hr] at R1;subst R1;go_wp2;go_ret;exact⟨by first|rfl|exact congrArg (fun b=>Ending.returned (.bool b)) (by first|exact pT (by omega)|exact wE (by omega)),hbe⟩
   ·have hr':¬(r2:Int)<7:=by omega
    try clear R0
    rw[pT hr] at R1;subst R1;go_wp2;go_ret;exact⟨by first|rfl|exact congrArg (fun b=>Ending.returned (.bool b)) (by first|exact pT (by omega)|exact wE (by omega)),hbe⟩
  have q7:((r1:Int) == 7)=false:=bfE (by omega)
  by_cases h4:r1=4
  ·subst h4;replace R1:R=decide (r2<5):=R1;by_cases hr:r2<5
   ·have hr':(r2:Int)<5:=by omega
    try clear R0
    rw[wE hr] at R1;subst R1;go_wp2;go_ret;exact⟨by first|rfl|exact congrArg (fun b=>Ending.returned (.bool b)) (by first|exact pT (by omega)|exact wE (by omega)),hbe⟩
   ·have hr':¬(r2:Int)<5:=by omega
    try clear R0
    rw[pT hr] at R1;subst R1;go_wp2;go_ret;exact⟨by first|rfl|exact congrArg (fun b=>Ending.returned (.bool b)) (by first|exact pT (by omega)|exact wE (by omega)),hbe⟩
  have q4:((r1:Int) == 4)=false:=bfE (by omega)
  by_cases h5:r1=1\/r1=2\/r1=5\/r1=6
  ·have hw:IntKind.i64.wrap ((r1:Int)+(j:Int))=(r1:Int)+j:=pC _ ⟨by omega,by omega⟩;replace R1:R=decide (r2<r1+j):=R1.trans (by rcases h5 with rfl|rfl|rfl|rfl <;> rfl);by_cases hr:r2<r1+j
   ·have hr':(r2:Int)<(r1:Int)+j:=by omega
    rw[wE hr] at R1;subst R1;rcases h5 with rfl|rfl|rfl|rfl
    all_goals
     try clear R0
     go_wp2;go_ret;exact⟨by first|rfl|exact congrArg (fun b=>Ending.returned (.bool b)) (by first|exact pT (by omega)|exact wE (by omega)),hbe⟩
   ·have hr':¬(r2:Int)<(r1:Int)+j:=by omega
    rw[pT hr] at R1;subst R1;rcases h5 with rfl|rfl|rfl|rfl
    all_goals
     try clear R0
     go_wp2;go_ret;exact⟨by first|rfl|exact congrArg (fun b=>Ending.returned (.bool b)) (by first|exact pT (by omega)|exact wE (by omega)),hbe⟩
  ·have q1:((r1:Int) == 1)=false:=bfE (by omega)
   have q2:((r1:Int) == 2)=false:=bfE (by omega)
   have q5:((r1:Int) == 5)=false:=bfE (by omega)
   have q6:((r1:Int) == 6)=false:=bfE (by omega)
   replace R1:R=false:=R1.trans (by simp[h1,h4];omega);subst R1
   try clear R0
   go_wp2;go_ret;exact⟨by first|rfl|exact congrArg (fun b=>Ending.returned (.bool b)) (by first|exact pT (by omega)|exact wE (by omega)),hbe⟩
structure RxH(nv iv:Value)(l:List Nd)(f:Nat):Prop where
 ok:∀(w:World) (i:Nat),i<f->i<l.length->TxT w nv iv l->Calls prog 68 #[.agg #[nv,iv],.int .i64 i] w (uT w (yl l f i))
 len:∀i:Nat,i<f->i<l.length->(yl l f i).length<=3200000
 k8:∀x∈l,x.kind<=255
 kl:∀x∈l,x.kids.length<=1000
variable {nv iv:Value} {l:List Nd} {f:Nat}
def uS(l:List Nd)(f:Nat)(x:Nd)(j:Nat):Prop:=j<x.kids.length/\0<=zu x j/\zu x j<(l.length:Int)/\zu x j<(f:Int)
theorem ZL(H:RxH nv iv l f){x:Nd}{j:Nat}(hk:uS l f x j):(yE l (yl l f) x j).length<=3200002:=by
 obtain⟨_,h0,h1,h2⟩:=hk;obtain⟨z,hz⟩:=pJ h0;have:=H.len z (by omega) (by omega);unfold yE;rw[hz];split <;> simp <;> omega
theorem Xl(H:RxH nv iv l f){i j:Nat}{x:Nd}(hx:l[i]? =some x)(hk:uS l f x j)(w:World)(h:TxT w nv iv l):Calls prog 117 #[.agg #[nv,iv],.int .i64 i,.int .i64 j] w (uT w (yE l (yl l f) x j)):=by
 obtain⟨hj,hk0,hk1,hk2⟩:=hk;have hHe:=zj (fun W (hW:Below w.heap.size w W)=>zf7 (h.below hW) hx hj (pQ (H.kl _ (pM hx)) (by decide)) ⟨hk0,hk1⟩ H.k8);obtain⟨z,hz⟩:=pJ hk0;have hT:=zj (fun W (hW:Below w.heap.size w W)=>H.ok W z (by omega) (by omega) (h.below hW));have hln:=H.len z (by omega) (by omega);have hm:=H.kl _ (pM hx);obtain⟨r,hr⟩:=exE (yE l (yl l f) x j);have hr2:=hr;unfold yE at hr2;rw[hz] at hr2;rw[hr];clear hr;generalize yl l f z=T at *;generalize qw l x j=hb at *;have Hr:=zj hr2;clear hr2 H;obtain⟨Kd,txt,n,ks,a⟩:=x;obtain⟨g,off,nc,ip,im,ic,up,uc,rfl,rfl,⟨cX,bX⟩,hKS,hi⟩:=Ju h hx;obtain⟨g2,off2,rfl,cJ⟩:=hKS.at hj;rw[show ks.getD j 0=(z:Int) from hz] at cJ;have hA:=zg w (.cells #[.slice (some ⟨g,off,none⟩) l.length nc,.slice ip im ic] 26 (0,0));have hZ:=zl w (.cells #[.slice (some ⟨g,off,none⟩) l.length nc,.slice ip im ic] 26 (0,0));have HA:=zj hA;have cJ':=zh hA cJ;have HZ:=zj (And.intro (zd hZ 0) (zd hZ 1));have hi':(i:Int)<(l.length:Int):=by omega
 have hi0:¬((i:Int)<0):=by omega
 have hj':(j:Int)<(ks.length:Int):=by have:j<ks.length:=hj;omega
 have hj0:¬((j:Int)<0):=by omega
 have hS:∀V,Cl (zbm w (.slice (some ⟨g,off,none⟩) l.length nc) (.slice ip im ic)).drew V->((V.cell? ⟨w.heap.size,0,none⟩=some (.slice (some ⟨g,off,none⟩) l.length nc)/\V.cell? ⟨w.heap.size,1,none⟩=some (.slice ip im ic))/\V.cell? ⟨g,off+i*5+3,none⟩=some (.slice (some ⟨g2,off2,none⟩) ks.length uc)/\V.cell? ⟨g2,off2+j,none⟩=some (.int .i64 z)):=fun V hV=>by
  have hV:Below _ (zbm w (.slice (some ⟨g,off,none⟩) l.length nc) (.slice ip im ic)) V:=bR.drew.trans hV.below;exact⟨⟨zh hV HZ.out.1,zh hV HZ.out.2⟩,zh hV bX.2.2.2.1,zh hV cJ'⟩
 clear h hx hk0 hk1 hk2 hKS cX bX cJ cJ' hz hA hZ;go_enter func117,ntmps117;go_wp2_with fail;refine Xk [(0,1),(1,0),(2,1),(3,0),(4,0),(5,0),(6,1),(7,0),(8,0),(9,1),(10,2),(11,0)] ?_;refine XQ ?_;clear hS;refine ya rfl rfl (fun K hK V hV=>?_);go_simp;have hbV:=zf HA.out (bR.drew.trans hV.below);refine (hT.out V hbV).mono ?_;rintro e w1 ⟨b,rfl,hb1,f1⟩;refine⟨jm.2 f1,hK _ _ ?_⟩;clear hK K;have hbd:=zf hbV f1;refine XQ ?_;refine zC fun W4 h4=>?_
 have g3:=zj (zf hbd h4.below);have hsz:=yu hb1;have Hb:=zj hb1;have cS:=zj (And.intro (zh (zf (bR.drew.trans hV.below) (zf f1 h4.below)) HZ.out.1) (zh (zf (bR.drew.trans hV.below) (zf f1 h4.below)) HZ.out.2));clear hbV hbd hV f1 h4 hT hb1 HZ;obtain⟨s0,s1⟩:=cS.out;go_wp2_with fail;refine (hHe.out W4 g3.out).mono ?_;rintro e W5 ⟨rfl,f5⟩;have hbe:=zf g3.out f5;clear f5 g3 hHe s0 s1 cS;cases hb with
 |true=>
  go_wp2;go_ret;refine⟨_,rfl,?_,hbe⟩;rw[<-Hr.out,<-Hb.out];simp[zm]
 |false=>
  go_wp2;go_ret;refine⟨_,rfl,?_,hbe⟩;rw[<-Hr.out,Hb.out];rfl
theorem QZ:∀(xs:List (List UInt8)) (y:List UInt8),xs≠[]->qc (xs ++ [y])=qc xs ++ [44,32] ++ y
 |[],_,h=>absurd rfl h
 |[x],y,_=>by simp[qc]
 |x :: z :: r,y,_=>by
  have:=QZ (z :: r) y (by simp);simp only[wG,qc] at this ⊢;rw[this];simp
theorem JP(H:RxH nv iv l f){x:Nd}{a q:Nat}(hq:q<=1000)(hk:∀j,a<=j->j<a+q->uS l f x j):(qc ((List.range' a q).map (yE l (yl l f) x))).length<=3200004000:=by
 have h:=vn (ls:=(List.range' a q).map (yE l (yl l f) x)) (c:=3200002) (fun y hy=>by
  obtain⟨j,hj,rfl⟩:=List.mem_map.1 hy;rw[List.mem_range'_1] at hj;exact ZL H (hk j hj.1 hj.2))
 rw[wO,List.length_range'] at h;have:(3200002+2)*q<=(3200002+2)*1000:=Nat.mul_le_mul_left _ hq;omega
theorem zb7(H:RxH nv iv l f){i a b:Nat}{x:Nd}(hx:l[i]? =some x)(hb:b<=x.kids.length)(hk:∀j,a<=j->j<b->uS l f x j)(ha:a<=1000)(w:World)(h:TxT w nv iv l):Calls prog 118 #[.agg #[nv,iv],.int .i64 i,.int .i64 a,.int .i64 b] w (uT w (jo l (yl l f) x a b)):=by
 have hkl:=H.kl _ (pM hx);have hK:=zj (fun (j:Nat) (h1:a<=j) (h2:j<b) W (hW:Below w.heap.size w W)=>Xl H hx (hk j h1 h2) W (h.below hW));have hL:=zj (fun (j:Nat) (h1:a<=j) (h2:j<b)=>ZL H (hk j h1 h2));have hM:=zj (fun (q:Nat) (h2:a+q<=b)=>JP H (a:=a) (q:=q) (by omega) (fun j h3 h4=>hk j h3 (by omega)));obtain⟨r,hr⟩:=exE (jo l (yl l f) x a b);rw[hr];unfold jo at hr;have Hr:=zj hr;clear hr hk;generalize yE l (yl l f) x=P at *;obtain⟨p,nc,rfl⟩:=h.ns.form;obtain⟨ip,im,ic,rfl⟩:=h.iv;have hA:=zg w (.cells #[.slice p l.length nc,.slice ip im ic] 26 (0,0));have hZ:=zl w (.cells #[.slice p l.length nc,.slice ip im ic] 26 (0,0));have HZ:=zj (And.intro (zd hZ 0) (zd hZ 1));have HA:=zj hA;have hb5:b<=1000:=pQ hb hkl;clear hA hZ h H hx hb hkl;go_enter func118,ntmps118;go_wp2;go_loopw [9,10] (fun s i wr=>∃(q:Nat) (t:ByteArray),s=.string t/\i=.int .i64 ((a+q:Nat):Int)/\(a+q<=b\/q=0)/\Hid (t.data.toList=qc ((List.range' a q).map P))/\Below (zbm w (.slice p l.length nc) (.slice ip im ic)).heap.size (zbm w (.slice p l.length nc) (.slice ip im ic)) wr) (fun _ i _=>b-(intOf i).toNat)
 case atStart=>exact⟨0,_,rfl,rfl,.inr rfl,zj rfl,pE _ _⟩
 case round=>
  obtain⟨q,t,rfl,rfl,hq,ht,hbw⟩:=hrel;have s0:=zh hbw HZ.out.1;have s1:=zh hbw HZ.out.2;have hbe:=zj (zf HA.out hbw);by_cases hlt:a+q<b
  ·have hlt':((a+q:Nat):Int)<(b:Int):=by omega
   have hl1:=hM.out q (by omega);rw[<-ht.out] at hl1;have hsz:t.size<=3200004000:=hl1;have hl2:=hL.out (a+q) (by omega) hlt;have hC:=zj (hK.out (a+q) (by omega) hlt wr hbe.out);have hy:=pC (((a+q:Nat):Int)+1) (by omega);have hrs:List.range' a (q+1)=List.range' a q ++ [a+q]:=by rw[List.range'_concat];simp
   clear hl1;generalize hj:a+q=j at *;by_cases h0:q=0
   ·have hn:¬((a:Int)<(j:Int)):=by omega
    go_wp2_with fail;refine hC.out.mono ?_;rintro e w2 ⟨c,rfl,hc,f2⟩;have hsc:=yu hc;have f3:=zj (zf hbw f2);have Hc:=zj hc;clear hc f2 s0 s1 hbw hbe;go_wp2;go_roundw
    case rel=>
     refine⟨q+1,_,rfl,by congr 1;omega,by omega,zj ?_,f3.out⟩;rw[hrs,List.map_append,h0];have ht:=ht.out;rw[h0] at ht;have ht:t.data.toList=[]:=ht;simp[qc,zm,ht,Hc.out]
    case measure=>simp[intOf];omega
   ·have hn:(a:Int)<(j:Int):=by omega
    go_wp2_with fail;refine hC.out.mono ?_;rintro e w2 ⟨c,rfl,hc,f2⟩;have hsc:=yu hc;have f3:=zj (zf hbw f2);have Hc:=zj hc;clear hc f2 s0 s1 hbw hbe;go_wp2;go_roundw
    case rel=>
     refine⟨q+1,_,rfl,by congr 1;omega,by omega,zj ?_,f3.out⟩;rw[hrs,List.map_append,List.map_cons,List.map_nil,QZ _ _ (by simp[h0]),<-ht.out,<-Hc.out];simp[zm]
    case measure=>simp[intOf];omega
  ·have hlt':¬(((a+q:Nat):Int)<(b:Int)):=by omega
   go_wp2;go_ret;refine⟨_,rfl,?_,hbe.out⟩;rw[<-Hr.out,ht.out,show b-a=q by omega]
variable {nv iv:Value} {l:List Nd} {f:Nat}
theorem uV{w:World}(h:TxT w nv iv l){i k:Nat}{t:List UInt8}{n a:Int}{ks:List Int}(hx:l[i]? =some ⟨k,t,n,ks,a⟩):∃g off nc ip im ic up uc wB wA,nv=.slice (some ⟨g,off,none⟩) l.length nc/\iv=.slice ip im ic/\w.alloc (.cells #[.slice (some ⟨g,off,none⟩) l.length nc,.slice ip im ic] 26 (0,0))=wB/\wB.alloc (.cells #[.int .u8 k,.string ⟨t.toArray⟩,.int .i64 n,.slice up ks.length uc,.int .i64 a] 60 (0,0))=wA/\wB.heap.size=w.heap.size+1/\
 (wB.cell? ⟨w.heap.size,0,none⟩=some (.slice (some ⟨g,off,none⟩) l.length nc)/\NdS wB g (off+i*5) k t n up ks.length uc a)/\XN wA w.heap.size (.slice (some ⟨g,off,none⟩) l.length nc) (.slice ip im ic) k t n up ks.length uc a/\
 Hid (∀W,Below wA.heap.size wA W->XN W w.heap.size (.slice (some ⟨g,off,none⟩) l.length nc) (.slice ip im ic) k t n up ks.length uc a)/\Hid (Below w.heap.size w wA)/\(i:Int)<(l.length:Int):=by
 obtain⟨g,off,nc,ip,im,ic,up,uc,rfl,rfl,⟨_,bX⟩,_,hi⟩:=Ju h hx;obtain⟨hE,hB⟩:=zam w (.slice (some ⟨g,off,none⟩) l.length nc) (.slice ip im ic) k t n up ks.length uc a;exact⟨g,off,nc,ip,im,ic,up,uc,_,_,rfl,rfl,rfl,rfl,by simp,⟨zd (zl w (.cells #[.slice (some ⟨g,off,none⟩) l.length nc,.slice ip im ic] 26 (0,0))) 0,bX⟩,hE,zj (fun W hW=>hE.later hW),zj hB,by omega⟩
theorem zhF{i k:Nat}{txt:List UInt8}{n a:Int}{ks:List Int}(hx:l[i]? =some ⟨k,txt,n,ks,a⟩)(hK:k=80\/k=81\/k=82\/k=83\/k=84)(w:World)(h:TxT w nv iv l):Calls prog 112 #[.agg #[nv,iv],.int .i64 i] w (uT w (vD l (yl l f) ⟨k,txt,n,ks,a⟩)):=by
 obtain⟨g,off,nc,ip,im,ic,up,uc,wB,wA,rfl,rfl,q1,q2,q3,⟨b0,b1,b2,b3,b4,b5⟩,⟨⟨e0,e1⟩,e2,e3,e4,e5,e6⟩,HS,HB,hi⟩:=uV h hx;have hi0:¬((i:Int)<0):=by omega
 rcases hK with rfl|rfl|rfl|rfl|rfl
 all_goals
  clear h hx HS;simp only[Int.cast_ofNat_Int] at q2;go_enter func112,ntmps112;go_wp2;go_ret;exact⟨_,rfl,rfl,HB.out⟩
theorem zhE(H:RxH nv iv l f){i k:Nat}{txt:List UInt8}{n a:Int}{ks:List Int}(hx:l[i]? =some ⟨k,txt,n,ks,a⟩)(hK:k=86\/k=87)(hk:∀j,j<ks.length->uS l f ⟨k,txt,n,ks,a⟩ j)(hm:1<=ks.length)(w:World)(h:TxT w nv iv l):Calls prog 112 #[.agg #[nv,iv],.int .i64 i] w (uT w (vD l (yl l f) ⟨k,txt,n,ks,a⟩)):=by
 obtain⟨g,off,nc,ip,im,ic,up,uc,wB,wA,rfl,rfl,q1,q2,q3,⟨b0,b1,b2,b3,b4,b5⟩,⟨⟨e0,e1⟩,e2,e3,e4,e5,e6⟩,HS,HB,hi⟩:=uV h hx;have hi0:¬((i:Int)<0):=by omega
 have K0:=zj (fun W (hW:Below wA.heap.size wA W)=>Xl H hx (hk 0 (by omega)) W (h.below (zf HB.out hW)));have lK0:=ZL H (hk 0 (by omega));obtain⟨p0,hp0⟩:∃p,yE l (yl l f) ⟨k,txt,n,ks,a⟩ 0=p:=⟨_,rfl⟩;have hr:vD l (yl l f) ⟨k,txt,n,ks,a⟩=(if k=86 then [99,104,97,110,32] else [119,101,97,107,32]) ++ p0:=by
  rw[<-hp0];rcases hK with rfl|rfl <;> rfl
 rw[hr];rw[hp0] at K0 lK0;clear h hx HS hk H hr hp0;rcases hK with rfl|rfl
 all_goals
  simp only[Int.cast_ofNat_Int] at q2;go_enter func112,ntmps112;go_wp2_with fail;refine (K0.out _ bR).mono ?_;rintro e w1 ⟨b1,rfl,hb1,f1⟩;have z1:=yu hb1;have Hb1:=zj hb1;have hbe:=zf HB.out f1;clear hb1 f1;go_wp2;go_ret;refine⟨_,rfl,?_,hbe⟩;rw[<-Hb1.out];simp[zm]
theorem zhD(H:RxH nv iv l f){i:Nat}{txt:List UInt8}{n a:Int}{ks:List Int}(hx:l[i]? =some ⟨85,txt,n,ks,a⟩)(hk:∀j,j<ks.length->uS l f ⟨85,txt,n,ks,a⟩ j)(hm:1<=ks.length)(w:World)(h:TxT w nv iv l):Calls prog 112 #[.agg #[nv,iv],.int .i64 i] w (uT w (vD l (yl l f) ⟨85,txt,n,ks,a⟩)):=by
 have hkl:=H.kl _ (pM hx);simp only at hkl;obtain⟨g,off,nc,ip,im,ic,up,uc,wB,wA,rfl,rfl,q1,q2,q3,⟨b0,b1,b2,b3,b4,b5⟩,⟨⟨e0,e1⟩,e2,e3,e4,e5,e6⟩,HS,HB,hi⟩:=uV h hx;have hi0:¬((i:Int)<0):=by omega
 have R0:=zj (fun W (hW:Below wA.heap.size wA W)=>zb7 H hx (a:=0) (b:=(ks.length-1)) (by simp) (fun j _ h2=>hk j (by omega)) (by omega) W (h.below (zf HB.out hW)));have lR0:=JP H (x:=⟨_,txt,n,ks,a⟩) (a:=0) (q:=(ks.length-1)-0) (by omega) (fun j _ h2=>hk j (by omega));have K1:=zj (fun W (hW:Below wA.heap.size wA W)=>Xl H hx (hk (ks.length-1) (by omega)) W (h.below (zf HB.out hW)));have lK1:=ZL H (hk (ks.length-1) (by omega));have hr:vD l (yl l f) ⟨85,txt,n,ks,a⟩=[102,110,40] ++ jo l (yl l f) ⟨85,txt,n,ks,a⟩ 0 (ks.length-1) ++ [41,58,32] ++ yE l (yl l f) ⟨85,txt,n,ks,a⟩ (ks.length-1):=rfl;rw[hr];change (jo l (yl l f) ⟨85,txt,n,ks,a⟩ 0 (ks.length-1)).length<=_ at lR0;have em:((ks.length-1:Nat):Int)=(ks.length:Int)-1:=by omega
 have ew:=pC ((ks.length:Int)-1) (by omega);rw[em] at R0 K1;generalize jo l (yl l f) ⟨85,txt,n,ks,a⟩ 0 (ks.length-1)=p0 at *;generalize yE l (yl l f) ⟨85,txt,n,ks,a⟩ (ks.length-1)=p1 at *;clear h hx hk H hr em;simp only[Int.cast_ofNat_Int] at q2;have hS:∀V,Cl wA.drew V->XN V w.heap.size (.slice (some ⟨g,off,none⟩) l.length nc) (.slice ip im ic) 85 txt n up ks.length uc a:=fun V hV=>HS.out V (bR.drew.trans hV.below)
 have hb0:=zj ((pE wA.heap.size wA).drew);clear HS;go_enter func112,ntmps112;go_wp2_with fail;refine Xk [(0,1),(1,0),(2,0),(6,1),(7,0),(8,0),(3,2),(4,0),(5,0),(9,2),(10,0),(11,0)] ?_;refine XQ ?_;refine prM rfl rfl (fun _=>by go_simp) R0 hb0 fun b1 w1 hq1 zz1 hb1=>?_
 try simp only[Act.put,yC,yA,yB]
 refine XQ ?_;refine prM rfl rfl (fun _=>by go_simp) K1 hb1 fun b2 w2 hq2 zz2 hb2=>?_
 try simp only[Act.put,yC,yA,yB]
 refine XQ ?_;refine zC fun W hW=>?_
 have hbe:=zf HB.out (zf hb2.out hW.below);go_wp2;go_ret;refine⟨_,rfl,?_,hbe⟩;rw[<-hq1.out,<-hq2.out];simp[zm]
variable {nv iv:Value} {l:List Nd} {f:Nat}
theorem YY(H:RxH nv iv l f){i K:Nat}{txt:List UInt8}{n a:Int}{ks:List Int}(hx:l[i]? =some ⟨K,txt,n,ks,a⟩)(hk:∀j,j<ks.length->uS l f ⟨K,txt,n,ks,a⟩ j){w wA:World}(h:TxT w nv iv l)(hB:Below w.heap.size w wA):
 (∀(j:Nat) (ji:Int),(j:Int)=ji->j<ks.length->Hid (∀W,Below wA.heap.size wA W->Calls prog 117 #[.agg #[nv,iv],.int .i64 i,.int .i64 ji] W (uT W (yE l (yl l f) ⟨K,txt,n,ks,a⟩ j)))/\(yE l (yl l f) ⟨K,txt,n,ks,a⟩ j).length<=3200002)/\
 (∀(x y:Nat) (yi:Int),(y:Int)=yi->x<=1->y<=ks.length->Hid (∀W,Below wA.heap.size wA W->Calls prog 118 #[.agg #[nv,iv],.int .i64 i,.int .i64 x,.int .i64 yi] W (uT W (jo l (yl l f) ⟨K,txt,n,ks,a⟩ x y)))/\(jo l (yl l f) ⟨K,txt,n,ks,a⟩ x y).length<=3200004000):=by
 have hkl:=H.kl _ (pM hx);refine⟨fun j ji e hj=>⟨zj fun W hW=>e▸Xl H hx (hk j hj) W (h.below (zf hB hW)),ZL H (hk j hj)⟩,fun x y yi e hx1 hy=>⟨zj fun W hW=>e▸zb7 H hx hy (fun j _ h2=>hk j (wI h2 hy)) (by omega) W (h.below (zf hB hW)),?_⟩⟩;exact JP H (x:=⟨K,txt,n,ks,a⟩) (a:=x) (q:=y-x) (by simp only at hkl;omega) (fun j h1 h2=>hk j (by omega))
theorem zdG(H:RxH nv iv l f){i K:Nat}{txt:List UInt8}{n a:Int}{ks:List Int}(hx:l[i]? =some ⟨K,txt,n,ks,a⟩)(hr0:zH l ⟨K,txt,n,ks,a⟩=true)(ht:txt.length<=3000)(hk:∀j,j<ks.length->uS l f ⟨K,txt,n,ks,a⟩ j)(hK:100<=K/\K<=104)(w:World)(h:TxT w nv iv l):Calls prog 110 #[.agg #[nv,iv],.int .i64 i] w (uT w (Zu l (yl l f) ⟨K,txt,n,ks,a⟩)):=by
 obtain⟨g,off,nc,ip,im,ic,up,uc,wB,wA,rfl,rfl,q1,q2,q3,⟨b0,b1,b2,b3,b4,b5⟩,⟨⟨e0,e1⟩,e2,e3,e4,e5,e6⟩,HS,HB,hi⟩:=uV h hx;have hi0:¬((i:Int)<0):=by omega
 have hkl:=H.kl _ (pM hx);have hK8:=H.k8 _ (pM hx);obtain⟨hkd,hrd⟩:=YY H hx hk h HB.out;obtain⟨hkn,hfew,_,hnum,_⟩:=zF hr0;obtain⟨R,hr⟩:=exE (Zu l (yl l f) ⟨K,txt,n,ks,a⟩);rw[hr];unfold Zu at hr
 try unfold Za at hr
 simp only at hkl hK8 hkn hfew hnum hr;generalize yE l (yl l f) ⟨K,txt,n,ks,a⟩=KR at *;generalize jo l (yl l f) ⟨K,txt,n,ks,a⟩=RR at *;generalize ks.length=m at *;have ew1:=pC ((m:Int)-1) (by omega);have ew2:=pC ((m:Int)-2) (by omega);have Hr:=zj hr;have Hn:=zj hnum;have Hf:=zj hfew;have Hkn:=zj hkn;have Hkd:=zj hkd;have Hrd:=zj hrd;have hS:∀V,Cl wA.drew V->XN V w.heap.size (.slice (some ⟨g,off,none⟩) l.length nc) (.slice ip im ic) K txt n up m uc a:=fun V hV=>HS.out V (bR.drew.trans hV.below)
 have hb0:=zj ((pE wA.heap.size wA).drew);clear h hx hk H hr hnum hfew hr0 hkn hkd hrd;go_enter func110,ntmps110;go_wp2_with fail
 ·have hkc:=kd (k:=K) (by assumption);have hm:=hkc▸Hf.out;change 1<=m at hm;have hr:=hkc▸Hr.out;simp at hr;subst hr;obtain⟨K1,l1⟩:=Qd Hrd.out 0 (m) (m);refine xm [(0,0),(1,1),(2,0),(3,0),(4,1),(5,0),(6,0),(7,2),(8,0),(9,0),(10,0)] ?_;refine xZ K1 hb0 fun t1 w1 p1 z1 hb1=>?_
  refine xO HB hb1 fun W hW=>?_
  go_wp2;go_ret;refine⟨_,rfl,?_,hW⟩;simp[zm,p1.out]
 ·have hkc:=kd (k:=K) (by assumption);have hm:=hkc▸Hf.out;change 1<=m at hm;have hr:=hkc▸Hr.out;simp at hr;subst hr;obtain⟨K1,l1⟩:=Qd Hrd.out 0 (m) (m);refine xm [(0,0),(1,1),(2,0),(3,0),(4,1),(5,0),(6,0),(7,2),(8,0),(9,0),(10,0)] ?_;refine xZ K1 hb0 fun t1 w1 p1 z1 hb1=>?_
  refine xO HB hb1 fun W hW=>?_
  go_wp2;go_ret;refine⟨_,rfl,?_,hW⟩;simp[zm,p1.out]
 ·have hkc:=kd (k:=K) (by assumption);have hm:=hkc▸Hf.out;change 1<=m at hm;have hr:=hkc▸Hr.out;simp at hr;subst hr;obtain⟨K1,l1⟩:=Qd Hrd.out 0 (m-1) ((m:Int)-1);obtain⟨K2,l2⟩:=qD Hkd.out (m-1) ((m:Int)-1);refine xm [(0,0),(1,1),(2,0),(3,0),(4,1),(5,0),(6,0),(7,0),(11,1),(12,0),(13,0),(14,0),(8,2),(9,0),(10,0),(15,2),(16,0),(17,0),(18,0)] ?_;refine xZ K1 hb0 fun t1 w1 p1 z1 hb1=>?_
  refine xZ K2 hb1 fun t2 w2 p2 z2 hb2=>?_
  refine xO HB hb2 fun W hW=>?_
  go_wp2;go_ret;refine⟨_,rfl,?_,hW⟩;simp[zm,p1.out,p2.out]
 ·have hkc:=kd (k:=K) (by assumption);have hm:=hkc▸Hf.out;change 2<=m at hm;have hr:=hkc▸Hr.out;simp at hr;subst hr;obtain⟨K1,l1⟩:=qD Hkd.out (0) (0);obtain⟨K2,l2⟩:=qD Hkd.out (1) (1);refine xm [(0,0),(1,1),(2,0),(3,0),(4,1),(5,0),(9,1),(10,0),(6,2),(7,0),(8,0),(11,2),(12,0),(13,0),(14,0)] ?_;refine xZ K1 hb0 fun t1 w1 p1 z1 hb1=>?_
  refine xZ K2 hb1 fun t2 w2 p2 z2 hb2=>?_
  refine xO HB hb2 fun W hW=>?_
  go_wp2;go_ret;refine⟨_,rfl,?_,hW⟩;simp[zm,p1.out,p2.out]
 ·have hkc:K=102:=by
   simp only[pA] at *;omega
  have hm:=hkc▸Hf.out;change 2<=m at hm;have hr:=hkc▸Hr.out;simp at hr;subst hr;obtain⟨K1,l1⟩:=Qd Hrd.out 0 (m-2) ((m:Int)-2);obtain⟨K2,l2⟩:=qD Hkd.out (m-2) ((m:Int)-2);obtain⟨K3,l3⟩:=qD Hkd.out (m-1) ((m:Int)-1);refine xm [(0,0),(1,1),(2,0),(3,0),(4,1),(5,0),(6,0),(7,0),(11,1),(12,0),(13,0),(14,0),(18,1),(19,0),(20,0),(21,0),(8,2),(9,0),(10,0),(15,2),(16,0),(17,0),(22,2),(23,0),(24,0)] ?_;refine xZ K1 hb0 fun t1 w1 p1 z1 hb1=>?_
  refine xZ K2 hb1 fun t2 w2 p2 z2 hb2=>?_
  refine xZ K3 hb2 fun t3 w3 p3 z3 hb3=>?_
  refine zC fun W hW=>?_
  have hbe:=zf hb3.out hW.below;obtain⟨_,_,e3,e4,_⟩:=HS.out W hbe;go_wp2_with fail
  all_goals go_ret
  all_goals refine vf HB hbe ?_
  all_goals first|(simp[zm,p1.out,p2.out,p3.out];done)|exact absurd (pX.1 (show (n == 1)=true by assumption)) (by assumption)|exact absurd (show n=1 by assumption) (pA.1 (by assumption))
theorem zdy(H:RxH nv iv l f){i K:Nat}{txt:List UInt8}{n a:Int}{ks:List Int}(hx:l[i]? =some ⟨K,txt,n,ks,a⟩)(hr0:zH l ⟨K,txt,n,ks,a⟩=true)(_:txt.length<=3000)(hk:∀j,j<ks.length->uS l f ⟨K,txt,n,ks,a⟩ j)(hK:80<=K/\K<=87)(w:World)(h:TxT w nv iv l):Calls prog 112 #[.agg #[nv,iv],.int .i64 i] w (uT w (vD l (yl l f) ⟨K,txt,n,ks,a⟩)):=by
 have hf:=(zF hr0).2.1;by_cases h1:K<=84
 ·exact zhF hx (by omega) w h
 by_cases h2:K=85
 ·subst h2;exact zhD H hx hk hf w h
 ·refine zhE H hx (by omega) hk ?_ w h;rcases (by omega:K=86\/K=87) with rfl|rfl <;> exact hf
theorem zf6(H:RxH nv iv l f){i K:Nat}{txt:List UInt8}{n a:Int}{ks:List Int}(hx:l[i]? =some ⟨K,txt,n,ks,a⟩)(hr0:zH l ⟨K,txt,n,ks,a⟩=true)(ht:txt.length<=3000)(hk:∀j,j<ks.length->uS l f ⟨K,txt,n,ks,a⟩ j)(hK:66<=K/\K<=70)(w:World)(h:TxT w nv iv l):Calls prog 114 #[.agg #[nv,iv],.int .i64 i] w (uT w (Jh l (yl l f) ⟨K,txt,n,ks,a⟩)):=by
 obtain⟨g,off,nc,ip,im,ic,up,uc,wB,wA,rfl,rfl,q1,q2,q3,⟨b0,b1,b2,b3,b4,b5⟩,⟨⟨e0,e1⟩,e2,e3,e4,e5,e6⟩,HS,HB,hi⟩:=uV h hx;have hi0:¬((i:Int)<0):=by omega
 have hkl:=H.kl _ (pM hx);have hK8:=H.k8 _ (pM hx);obtain⟨hkd,hrd⟩:=YY H hx hk h HB.out;obtain⟨hkn,hfew,_,hnum,_⟩:=zF hr0;obtain⟨R,hr⟩:=exE (Jh l (yl l f) ⟨K,txt,n,ks,a⟩);rw[hr];unfold Jh at hr
 try unfold Za at hr
 simp only at hkl hK8 hkn hfew hnum hr;generalize yE l (yl l f) ⟨K,txt,n,ks,a⟩=KR at *;generalize jo l (yl l f) ⟨K,txt,n,ks,a⟩=RR at *;generalize ks.length=m at *;have ew1:=pC ((m:Int)-1) (by omega);have ew2:=pC ((m:Int)-2) (by omega);have Hr:=zj hr;have Hn:=zj hnum;have Hf:=zj hfew;have Hkn:=zj hkn;have Hkd:=zj hkd;have Hrd:=zj hrd;have hS:∀V,Cl wA.drew V->XN V w.heap.size (.slice (some ⟨g,off,none⟩) l.length nc) (.slice ip im ic) K txt n up m uc a:=fun V hV=>HS.out V (bR.drew.trans hV.below)
 have hb0:=zj ((pE wA.heap.size wA).drew);clear h hx hk H hr hnum hfew hr0 hkn hkd hrd;go_enter func114,ntmps114;go_wp2_with fail
 ·have hkc:=kd (k:=K) (by assumption);have hm:=hkc▸Hf.out;change 0<=m at hm;have hr:=hkc▸Hr.out;simp at hr;subst hr;go_ret;exact⟨_,rfl,rfl,HB.out⟩
 ·have hkc:=kd (k:=K) (by assumption);have hm:=hkc▸Hf.out;change 0<=m at hm;have hr:=hkc▸Hr.out;simp at hr;subst hr;have hn0:=hkc▸Hn.out;simp[zx] at hn0;refine (JV n (by omega) (by omega) _).mono ?_;rintro e w4 ⟨t4,rfl,p4,f4⟩;have hbe:=zf HB.out f4;go_wp2;go_ret;exact⟨_,rfl,p4,hbe⟩
 ·have hkc:=kd (k:=K) (by assumption);have hm:=hkc▸Hf.out;change 0<=m at hm;have hr:=hkc▸Hr.out;simp at hr;subst hr;refine (YB ⟨txt.toArray⟩ _ (by simp[ByteArray.size];omega)).mono ?_;rintro e w4 ⟨rfl,rfl⟩;go_wp2;go_ret;exact⟨_,rfl,rfl,HB.out⟩
 iterate 2
  ·have hkc:=kd (k:=K) (by assumption);have hm:=hkc▸Hf.out;change 0<=m at hm;have hr:=hkc▸Hr.out;simp at hr;subst hr;go_ret;refine⟨_,rfl,?_,HB.out⟩
   first|(have h1:=pX.1 (show (n == 1)=true by assumption);simp[h1])|(have h1:=pA.1 (show (n == 1)=false by assumption);simp[h1])
 all_goals
  have hkc:K=70:=by
   simp only[pA] at *;omega
  have hm:=hkc▸Hf.out;change 0<=m at hm;have hr:=hkc▸Hr.out;simp at hr;subst hr
 ·have hm0:m=0:=zS (c:=0) (by assumption);rw[if_pos hm0] at *;go_ret;exact⟨_,rfl,rfl,HB.out⟩
 ·have hm0:m≠0:=zE (c:=0) (by assumption);rw[if_neg hm0] at *;obtain⟨K1,l1⟩:=Qd Hrd.out 0 (m) (m);refine xm [(0,0),(1,1),(2,0),(3,1),(4,0),(5,0),(6,1),(7,0),(8,2),(9,0),(10,0),(11,0)] ?_;refine xZ K1 hb0 fun t1 w1 p1 z1 hb1=>?_
  refine xO HB hb1 fun W hW=>?_
  go_wp2;go_ret;refine⟨_,rfl,?_,hW⟩;simp[zm,p1.out]
end
end Go.Proofs.YtcagibbaeageoaaGreatDoor
namespace Lode
theorem zjj(n:Int)(KR:Nat->List UInt8){q m:Nat}(h:q<m):stR (n != 0) (q == 0) ((List.range' q (m-q)).map KR)=(if q=0 then [] else [32]) ++ KR q ++ (if q+1<m\/n=0 then [59] else []) ++ stR (n != 0) (q+1 == 0) ((List.range' (q+1) (m-(q+1))).map KR):=by
 obtain⟨d,hd⟩:∃d,m-q=d+1:=⟨m-q-1,by omega⟩;rw[hd,show m-(q+1)=d by omega,List.range'_succ,List.map_cons,stR];have e1:(List.map KR (List.range' (q+1) d)).isEmpty=decide (d=0):=by cases d <;> simp[List.range'_succ]
 rw[e1];have hc:(if q+1<m\/n=0 then ([59]:List UInt8) else [])=if (decide (d=0) && (n != 0))=true then [] else [59]:=by
  by_cases h1:q+1<m <;> by_cases h2:n=0 <;> simp[h1,h2] <;> omega
 rw[hc];simp
theorem zml{q m:Nat}{n:Int}(h:(q:Int)<(m:Int)-1\/(n == 0)=true):q+1<m\/n=0:=by
 simp at h;omega
theorem zmm{q m:Nat}{n:Int}(h:(m:Int)-1<=q/\(n == 0)=false):¬(q+1<m\/n=0):=by
 simp at h;omega
end Lode
namespace Go.Proofs.YtcagibbaeageoaaGreatDoor
section
open Go.RowKit Lode Go.Shelf
attribute [local go_sem ↓] Go.wp_at_zero Go.wp_at_succ
open Go.Proofs.Tryz
variable {nv iv:Value} {l:List Nd} {f:Nat}
theorem zf9(H:RxH nv iv l f){i K:Nat}{txt:List UInt8}{n a:Int}{ks:List Int}(hx:l[i]? =some ⟨K,txt,n,ks,a⟩)(hr0:zH l ⟨K,txt,n,ks,a⟩=true)(ht:txt.length<=3000)(hk:∀j,j<ks.length->uS l f ⟨K,txt,n,ks,a⟩ j)(hK:K=28\/K=29\/K=30\/K=31\/K=33\/K=34\/K=35\/K=36\/K=63\/K=64\/K=65\/K=89)(w:World)(h:TxT w nv iv l):Calls prog 120 #[.agg #[nv,iv],.int .i64 i] w (uT w (vS l (yl l f) ⟨K,txt,n,ks,a⟩)):=by
 obtain⟨g,off,nc,ip,im,ic,up,uc,wB,wA,rfl,rfl,q1,q2,q3,⟨b0,b1,b2,b3,b4,b5⟩,⟨⟨e0,e1⟩,e2,e3,e4,e5,e6⟩,HS,HB,hi⟩:=uV h hx;have hi0:¬((i:Int)<0):=by omega
 have hkl:=H.kl _ (pM hx);have hK8:=H.k8 _ (pM hx);obtain⟨hkd,hrd⟩:=YY H hx hk h HB.out;obtain⟨hkn,hfew,_,hnum,_⟩:=zF hr0;obtain⟨R,hr⟩:=exE (vS l (yl l f) ⟨K,txt,n,ks,a⟩);rw[hr];unfold vS at hr
 try unfold Za at hr
 simp only at hkl hK8 hkn hfew hnum hr;generalize yE l (yl l f) ⟨K,txt,n,ks,a⟩=KR at *;generalize jo l (yl l f) ⟨K,txt,n,ks,a⟩=RR at *;generalize ks.length=m at *;have ew1:=pC ((m:Int)-1) (by omega);have ew2:=pC ((m:Int)-2) (by omega);have Hr:=zj hr;have Hn:=zj hnum;have Hf:=zj hfew;have Hkn:=zj hkn;have Hkd:=zj hkd;have Hrd:=zj hrd;have hS:∀V,Cl wA.drew V->XN V w.heap.size (.slice (some ⟨g,off,none⟩) l.length nc) (.slice ip im ic) K txt n up m uc a:=fun V hV=>HS.out V (bR.drew.trans hV.below)
 have hb0:=zj ((pE wA.heap.size wA).drew);clear h hx hk H hr hnum hfew hr0 hkn hkd hrd;go_enter func120,ntmps120;go_wp2_with fail
 ·have hkc:=kd (k:=K) (by assumption);have hm:=hkc▸Hf.out;change 0<=m at hm;have hr:=hkc▸Hr.out;simp at hr;subst hr;have hm0:m=0:=zS (c:=0) (by assumption);go_ret;refine vf HB bR ?_;simp[hm0]
 ·rename ((K:Int) == 28)=true=>hk1
  rename ((m:Int) == 0)=false=>hm1
  have hkc:=kd hk1;have hm0:m≠0:=zE (c:=0) hm1;have hr:=hkc▸Hr.out;rw[if_pos (by decide),if_neg hm0] at hr;replace hr:=zj hr;clear hk1 hm1 hkc hm0 hK;go_loopw [7,8] (fun s i wr=>∃(q:Nat) (t:ByteArray),s=.string t/\i=.int .i64 (q:Nat)/\q<=m/\Hid (t.data.toList ++ stR (n != 0) (q == 0) ((List.range' q (m-q)).map KR)=[123,32] ++ stR (n != 0) true ((List.range m).map KR))/\t.size<=2+3200005*q/\Below wA.heap.size wA wr) (fun _ i _=>m-(intOf i).toNat)
  case atStart=>exact⟨0,_,rfl,rfl,pV _,zj (by rw[List.range_eq_range'];rfl),by decide,pE _ _⟩
  case round=>
   obtain⟨q,t,rfl,rfl,hq,hx,hxs,hbw⟩:=hrel;obtain⟨⟨e0,e1⟩,e2,e3,e4,e5,e6⟩:=HS.out wr hbw;by_cases hlt:q<m
   ·have hlt':(q:Int)<(m:Int):=by omega
    obtain⟨K1,l1⟩:=qD Hkd.out q q;have hy:=pC ((q:Int)+1) (by omega);have hst:=zj (zjj n KR hlt);go_wp2_with fail
    all_goals
     refine (K1.out wr hbw).mono ?_;rintro e w2 ⟨t1,rfl,p1,f2⟩;have z1:=yu p1;have hbn:=zf hbw f2;obtain⟨⟨e0,e1⟩,e2,e3,e4,e5,e6⟩:=HS.out w2 hbn;replace p1:=zj p1;replace hbn:=zj hbn;clear f2;go_wp2_with fail
     all_goals go_roundw
     all_goals first|(simp[intOf];omega)|(refine⟨q+1,_,rfl,by simp,by omega,zj ?_,?_,hbn.out⟩;rotate_left;(simp[ByteArray.size_append,z1,show (⟨#[32]⟩:ByteArray).size=1 from rfl,show (⟨#[59]⟩:ByteArray).size=1 from rfl];omega);rw[<-hx.out,hst.out,<-p1.out];(first|rw[if_pos (show q+1<m\/n=0 from by first|omega|exact zml (by assumption))]|rw[if_neg (show ¬(q+1<m\/n=0) from zmm (by first|assumption|exact⟨by assumption,by assumption⟩))]);by_cases hq0:q=0 <;> first|(exfalso;omega)|(simp[zm,hq0];done))
   ·have hlt':¬((q:Int)<(m:Int)):=by omega
    go_wp2;go_ret;refine vf HB hbw ?_;have hx:=hx.out;rw[show m-q=0 by omega] at hx;rw[<-hr.out,<-hx];simp[zm,stR]
 ·have hkc:=kd (k:=K) (by assumption);have hm:=hkc▸Hf.out;change 2<=m at hm;have hr:=hkc▸Hr.out;simp at hr;subst hr;obtain⟨K1,l1⟩:=qD Hkd.out (0) (0);obtain⟨K2,l2⟩:=qD Hkd.out (1) (1);refine xm [(0,1),(1,0),(5,1),(6,0),(2,2),(3,0),(4,0),(7,2),(8,0),(9,0)] ?_;refine xZ K1 hb0 fun t1 w1 p1 z1 hb1=>?_
  refine xZ K2 hb1 fun t2 w2 p2 z2 hb2=>?_
  refine zC fun W hW=>?_
  have hbw:=zj (zf hb2.out hW.below);obtain⟨⟨e0,e1⟩,_⟩:=HS.out W hbw.out;by_cases h3:m=3
  ·obtain⟨K3,l3⟩:=qD Hkd.out (2) (2);go_wp2_with fail;refine (K3.out W hbw.out).mono ?_;rintro e w4 ⟨t3,rfl,p3,f3⟩;have z3:=yu p3;go_wp2;go_ret;refine vf HB (zf hbw.out f3) ?_;simp[zm,p1.out,p2.out,p3]
  ·have h3':((m:Int) == 3)=false:=bfE (by omega)
   go_wp2;go_ret;refine vf HB hbw.out ?_;simp[zm,p1.out,p2.out]
 ·have hkc:=kd (k:=K) (by assumption);have hm:=hkc▸Hf.out;change 2<=m at hm;have hr:=hkc▸Hr.out;simp at hr;subst hr;obtain⟨K1,l1⟩:=qD Hkd.out (0) (0);obtain⟨K2,l2⟩:=qD Hkd.out (1) (1);refine xm [(0,1),(1,0),(5,1),(6,0),(2,2),(3,0),(4,0),(7,2),(8,0),(9,0)] ?_;refine xZ K1 hb0 fun t1 w1 p1 z1 hb1=>?_
  refine xZ K2 hb1 fun t2 w2 p2 z2 hb2=>?_
  refine xO HB hb2 fun W hW=>?_
  go_wp2;go_ret;refine⟨_,rfl,?_,hW⟩;simp[zm,p1.out,p2.out]
 ·have hkc:=kd (k:=K) (by assumption);have hm:=hkc▸Hf.out;change 2<=m at hm;have hr:=hkc▸Hr.out;simp at hr;subst hr;obtain⟨K1,l1⟩:=qD Hkd.out (0) (0);obtain⟨K2,l2⟩:=Qd Hrd.out 1 (m) (m);refine xm [(0,1),(1,0),(5,1),(6,0),(7,0),(2,2),(3,0),(4,0),(8,2),(9,0),(10,0),(11,0)] ?_;refine xZ K1 hb0 fun t1 w1 p1 z1 hb1=>?_
  refine xZ K2 hb1 fun t2 w2 p2 z2 hb2=>?_
  refine xO HB hb2 fun W hW=>?_
  go_wp2;go_ret;refine⟨_,rfl,?_,hW⟩;simp[zm,p1.out,p2.out]
 ·have hkc:=kd (k:=K) (by assumption);have hm:=hkc▸Hf.out;change 2<=m at hm;have hr:=hkc▸Hr.out;simp at hr;subst hr;obtain⟨K1,l1⟩:=Qd Hrd.out 0 (m-2) ((m:Int)-2);obtain⟨K2,l2⟩:=qD Hkd.out (m-2) ((m:Int)-2);obtain⟨K3,l3⟩:=qD Hkd.out (m-1) ((m:Int)-1);refine xm [(0,1),(1,0),(2,0),(3,0),(7,1),(8,0),(9,0),(10,0),(14,1),(15,0),(16,0),(17,0),(4,2),(5,0),(6,0),(11,2),(12,0),(13,0),(18,2),(19,0),(20,0)] ?_;refine xZ K1 hb0 fun t1 w1 p1 z1 hb1=>?_
  refine xZ K2 hb1 fun t2 w2 p2 z2 hb2=>?_
  refine xZ K3 hb2 fun t3 w3 p3 z3 hb3=>?_
  refine xO HB hb3 fun W hW=>?_
  go_wp2;go_ret;refine⟨_,rfl,?_,hW⟩;simp[zm,p1.out,p2.out,p3.out]
 ·have hkc:=kd (k:=K) (by assumption);have hm:=hkc▸Hf.out;change 2<=m at hm;have hr:=hkc▸Hr.out;simp at hr;subst hr;obtain⟨K1,l1⟩:=qD Hkd.out (0) (0);obtain⟨K2,l2⟩:=qD Hkd.out (1) (1);refine xm [(0,1),(1,0),(5,0),(6,1),(9,1),(10,0),(2,2),(3,0),(4,0),(7,0),(8,0),(11,2),(12,0),(13,0)] ?_;refine xZ K1 hb0 fun t1 w1 p1 z1 hb1=>?_
  refine xZ K2 hb1 fun t2 w2 p2 z2 hb2=>?_
  refine xO HB hb2 fun W hW=>?_
  go_wp2;go_ret;refine⟨_,rfl,?_,hW⟩;simp[zm,p1.out,p2.out]
 ·have hkc:=kd (k:=K) (by assumption);have hm:=hkc▸Hf.out;change 3<=m at hm;have hr:=hkc▸Hr.out;simp at hr;subst hr;obtain⟨K1,l1⟩:=qD Hkd.out (0) (0);obtain⟨K2,l2⟩:=qD Hkd.out (1) (1);obtain⟨K3,l3⟩:=qD Hkd.out (2) (2);refine xm [(0,1),(1,0),(5,0),(6,1),(9,1),(10,0),(14,1),(15,0),(2,2),(3,0),(4,0),(7,0),(8,0),(11,2),(12,0),(13,0),(16,2),(17,0),(18,0)] ?_;refine xZ K1 hb0 fun t1 w1 p1 z1 hb1=>?_
  refine xZ K2 hb1 fun t2 w2 p2 z2 hb2=>?_
  refine xZ K3 hb2 fun t3 w3 p3 z3 hb3=>?_
  refine xO HB hb3 fun W hW=>?_
  go_wp2;go_ret;refine⟨_,rfl,?_,hW⟩;simp[zm,p1.out,p2.out,p3.out]
 ·have hkc:=kd (k:=K) (by assumption);have hm:=hkc▸Hf.out;change 1<=m at hm;have hr:=hkc▸Hr.out;simp at hr;subst hr;obtain⟨K1,l1⟩:=Qd Hrd.out 0 (m) (m);refine (K1.out _ bR).mono ?_;rintro e w1 ⟨t1,rfl,p1,f1⟩;have z1:=yu p1;go_wp2;go_ret;refine vf HB f1 ?_;simp[zm,p1]
 ·have hkc:=kd (k:=K) (by assumption);have hm:=hkc▸Hf.out;change 2<=m at hm;have hr:=hkc▸Hr.out;simp at hr;subst hr;obtain⟨K1,l1⟩:=qD Hkd.out (0) (0);obtain⟨K2,l2⟩:=qD Hkd.out (1) (1);refine xm [(0,1),(1,0),(5,0),(6,1),(9,1),(10,0),(2,2),(3,0),(4,0),(7,0),(8,0),(11,2),(12,0),(13,0)] ?_;refine xZ K1 hb0 fun t1 w1 p1 z1 hb1=>?_
  refine xZ K2 hb1 fun t2 w2 p2 z2 hb2=>?_
  refine xO HB hb2 fun W hW=>?_
  go_wp2;go_ret;refine⟨_,rfl,?_,hW⟩;simp[zm,p1.out,p2.out]
 ·have hkc:=kd (k:=K) (by assumption);have hm:=hkc▸Hf.out;change 3<=m at hm;have hr:=hkc▸Hr.out;simp at hr;subst hr;obtain⟨K1,l1⟩:=qD Hkd.out (0) (0);obtain⟨K2,l2⟩:=qD Hkd.out (1) (1);obtain⟨K3,l3⟩:=qD Hkd.out (2) (2);refine xm [(0,1),(1,0),(5,1),(6,0),(10,1),(11,0),(2,2),(3,0),(4,0),(7,2),(8,0),(9,0),(12,2),(13,0),(14,0)] ?_;refine xZ K1 hb0 fun t1 w1 p1 z1 hb1=>?_
  refine xZ K2 hb1 fun t2 w2 p2 z2 hb2=>?_
  refine xZ K3 hb2 fun t3 w3 p3 z3 hb3=>?_
  refine xO HB hb3 fun W hW=>?_
  go_wp2;go_ret;refine⟨_,rfl,?_,hW⟩;simp[zm,p1.out,p2.out,p3.out]
 ·have hkc:=kd (k:=K) (by assumption);have hm:=hkc▸Hf.out;change 1<=m at hm;have hr:=hkc▸Hr.out;simp at hr;subst hr;obtain⟨K1,l1⟩:=qD Hkd.out (0) (0);refine (K1.out _ bR).mono ?_;rintro e w1 ⟨t1,rfl,p1,f1⟩;have z1:=yu p1;go_wp2;go_ret;refine vf HB f1 ?_;simp[zm,p1]
 ·have hkc:K=89:=by
   simp only[pA] at *;omega
  have hm:=hkc▸Hf.out;change 0<=m at hm;have hr:=hkc▸Hr.out;simp at hr;subst hr;have hm0:m=0:=zS (c:=0) (by assumption);rw[if_pos hm0] at *;go_ret;exact⟨_,rfl,rfl,HB.out⟩
 ·have hkc:K=89:=by
   simp only[pA] at *;omega
  have hm:=hkc▸Hf.out;change 0<=m at hm;have hr:=hkc▸Hr.out;simp at hr;subst hr;have hm0:m≠0:=zE (c:=0) (by assumption);rw[if_neg hm0] at *;obtain⟨K1,l1⟩:=Qd Hrd.out 0 (m) (m);refine xm [(0,0),(1,1),(2,0),(3,1),(4,0),(5,0),(6,2),(7,0),(8,0),(9,0)] ?_;refine xZ K1 hb0 fun t1 w1 p1 z1 hb1=>?_
  refine xO HB hb1 fun W hW=>?_
  go_wp2;go_ret;refine⟨_,rfl,?_,hW⟩;simp[zm,p1.out]
end
end Go.Proofs.YtcagibbaeageoaaGreatDoor
namespace Lode
theorem zgZ:∀k,k<256->(xV k).length<=10:=by decide +kernel
theorem zdf:∀k,k<256->(xS k && ![1,2,3,4,5,6,7,23,24,25,26,27,88,32,37,38,39,44,45,46,40,41,42,43,47,50,51,48,49,60,61,62].contains k && !yT.is .item k && !yT.is .type k && !yT.is .pattern k)=true->(!(xV k).isEmpty && (qK k).1 == 2 || (xV k).isEmpty && [28,29,30,31,33,34,35,36,63,64,65,89].contains k)=true:=by decide +kernel
theorem zfJ(k:Nat)(h8:k<=255)(h1:xS k=true)(h2:[1,2,3,4,5,6,7,23,24,25,26,27,88,32,37,38,39,44,45,46,40,41,42,43,47,50,51,48,49,60,61,62].contains k=false)(h3:yT.is .item k=false)(h4:yT.is .type k=false)(h5:yT.is .pattern k=false):(xV k≠[]/\(qK k).1=2)\/(xV k=[]/\(k=28\/k=29\/k=30\/k=31\/k=33\/k=34\/k=35\/k=36\/k=63\/k=64\/k=65\/k=89)):=by
 have h:=zdf k (by omega) (by rw[h1,h2,h3,h4,h5];rfl);simpa using h
theorem zd4{l:List Nd}{pr:Int->List UInt8}{x:Nd}(h2:[1,2,3,4,5,6,7,23,24,25,26,27,88,32,37,38,39,44,45,46,40,41,42,43,47,50,51,48,49,60,61,62].contains x.kind=false)(h3:yT.is .item x.kind=false)(h4:yT.is .type x.kind=false)(h5:yT.is .pattern x.kind=false):yV l pr x=if xV x.kind=[] then vS l pr x else yE l pr x 0 ++ [32] ++ xV x.kind ++ [32] ++ yE l pr x 1:=by
 have e3:(decide (100<=x.kind) && decide (x.kind<=104))=false:=h3;have e4:(decide (80<=x.kind) && decide (x.kind<=87))=false:=h4;have e5:(decide (66<=x.kind) && decide (x.kind<=70))=false:=h5;unfold yV;rw[e3,e4,e5];simp at h2;by_cases hw:xV x.kind=[] <;> simp[h2,hw]
theorem zk6{o:Option UInt8}{c:UInt8}(h:o=some c)(h1:o=some 45)(h2:((c.toNat:Int) == 45)=false):False:=by
 rw[h] at h1;cases h1;revert h2;decide
theorem zk5{o:Option UInt8}{c:UInt8}(h:o=some c)(h1:¬o=some 45)(h2:((c.toNat:Int) == 45)=true):False:=by
 rw[pX] at h2;exact h1 (by rw[h,show c=45 from UInt8.toNat_inj.1 (by show c.toNat=45;omega)])
theorem zjk(b:ByteArray)(h:0<b.size):b.data.toList.head? =some b[0]:=by
 rw[List.head?_eq_getElem?];exact glE h
end Lode
namespace Go.Proofs.YtcagibbaeageoaaGreatDoor
section
open Go.RowKit Lode Go.Shelf
attribute [local go_sem ↓] Go.wp_at_zero Go.wp_at_succ
open Go.Proofs.Tryz
variable {nv iv:Value} {l:List Nd} {f:Nat}
theorem zf5(H:RxH nv iv l f){i K:Nat}{txt:List UInt8}{n a:Int}{ks:List Int}(hx:l[i]? =some ⟨K,txt,n,ks,a⟩)(hr0:zH l ⟨K,txt,n,ks,a⟩=true)(ht:txt.length<=3000)(hk:∀j,j<ks.length->uS l f ⟨K,txt,n,ks,a⟩ j)(h6:K=6->yE l (yl l f) ⟨K,txt,n,ks,a⟩ 0≠[])(w:World)(h:TxT w nv iv l):Calls prog 68 #[.agg #[nv,iv],.int .i64 i] w (uT w (yV l (yl l f) ⟨K,txt,n,ks,a⟩)):=by
 have hIt:=fun W (hb:Below w.heap.size w W) hK=>zdG H hx hr0 ht hk hK W (h.below hb)
 have hTy:=fun W (hb:Below w.heap.size w W) hK=>zdy H hx hr0 ht hk hK W (h.below hb)
 have hPa:=fun W (hb:Below w.heap.size w W) hK=>zf6 H hx hr0 ht hk hK W (h.below hb)
 have hCo:=fun W (hb:Below w.heap.size w W) hK=>zf9 H hx hr0 ht hk hK W (h.below hb)
 have hKk:=H.k8 _ (pM hx);have hW:=zj (fun W (_:Below w.heap.size w W)=>Calls.mono (zf4 K hKk W) (fun e w2 h=>(⟨_,h.1,rfl,h.2⟩:uT W (xV K) e w2)));have lW:=zgZ K (by simp only at hKk;omega);have hLs:=zd4 (l:=l) (pr:=yl l f) (x:=⟨K,txt,n,ks,a⟩);obtain⟨g,off,nc,ip,im,ic,up,uc,wB,wA,rfl,rfl,q1,q2,q3,⟨b0,b1,b2,b3,b4,b5⟩,⟨⟨e0,e1⟩,e2,e3,e4,e5,e6⟩,HS,HB,hi⟩:=uV h hx;have hi0:¬((i:Int)<0):=by omega
 have hkl:=H.kl _ (pM hx);have hK8:=H.k8 _ (pM hx);obtain⟨hkd,hrd⟩:=YY H hx hk h HB.out;obtain⟨hkn,hfew,_,hnum,_⟩:=zF hr0;obtain⟨R,hr⟩:=exE (yV l (yl l f) ⟨K,txt,n,ks,a⟩);rw[hr]
 try rw[hr] at hLs
 unfold yV at hr
 try unfold Za at hr
 simp only at hkl hK8 hkn hfew hnum hr;generalize yE l (yl l f) ⟨K,txt,n,ks,a⟩=KR at *;generalize jo l (yl l f) ⟨K,txt,n,ks,a⟩=RR at *;simp only at hLs;generalize hwd:xV K=wd at *;have Hwd:=zj hwd;clear hwd;replace hW:=zj (fun W hb=>hW.out W (zf HB.out hb));replace hIt:=zj (fun W hb=>hIt W (zf HB.out hb));replace hTy:=zj (fun W hb=>hTy W (zf HB.out hb));replace hPa:=zj (fun W hb=>hPa W (zf HB.out hb));replace hCo:=zj (fun W hb=>hCo W (zf HB.out hb));generalize Zu l (yl l f) ⟨K,txt,n,ks,a⟩=rI at *;generalize vD l (yl l f) ⟨K,txt,n,ks,a⟩=rT at *;generalize Jh l (yl l f) ⟨K,txt,n,ks,a⟩=rP at *;generalize vS l (yl l f) ⟨K,txt,n,ks,a⟩=rC at *;generalize ks.length=m at *;have ew1:=pC ((m:Int)-1) (by omega);have ew2:=pC ((m:Int)-2) (by omega);have Hr:=zj hr;have Hn:=zj hnum;have Hf:=zj hfew;have Hkn:=zj hkn;have Hkd:=zj hkd;have Hrd:=zj hrd;have hS:∀V,Cl wA.drew V->XN V w.heap.size (.slice (some ⟨g,off,none⟩) l.length nc) (.slice ip im ic) K txt n up m uc a:=fun V hV=>HS.out V (bR.drew.trans hV.below)
 have hb0:=zj ((pE wA.heap.size wA).drew);clear h hx hk H hr hnum hfew hr0 hkn hkd hrd;clear hKk;have H6:=zj h6;have HLs:=zj hLs;clear hLs;clear h6;go_enter func68,ntmps68;go_wp2_with fail;refine (Qh K _).mono ?_;rintro e w1 ⟨rfl,f1⟩;obtain⟨⟨e0,e1⟩,e2,e3,e4,e5,e6⟩:=HS.out w1 f1;cases hI:yT.is .item K
 case true=>
  have h1:100<=K/\K<=104:=by simpa[yT.is] using hI
  have hr:=Hr.out;rw[if_pos (by simp[h1])] at hr;subst hr;go_wp2_with fail;have hb3:=zj f1;refine (hIt.out w1 f1 h1).mono ?_;rintro e w4 ⟨t4,rfl,p4,f4⟩;go_wp2;go_ret;exact⟨_,rfl,p4,zf HB.out (zf hb3.out f4)⟩
 go_wp2_with fail;refine (Qf K _).mono ?_;rintro e w2 ⟨rfl,f2⟩;replace f2:=zf f1 f2;obtain⟨⟨e0,e1⟩,e2,e3,e4,e5,e6⟩:=HS.out w2 f2;cases hT:yT.is .type K
 case true=>
  have h1:80<=K/\K<=87:=by simpa[yT.is] using hT
  have hr:=Hr.out;rw[if_neg (by simp;omega),if_pos (by simp[h1])] at hr;subst hr;go_wp2_with fail;have hb3:=zj f2;refine (hTy.out w2 f2 h1).mono ?_;rintro e w4 ⟨t4,rfl,p4,f4⟩;go_wp2;go_ret;exact⟨_,rfl,p4,zf HB.out (zf hb3.out f4)⟩
 go_wp2_with fail;refine (uZ K _).mono ?_;rintro e w3 ⟨rfl,f3⟩;replace f3:=zf f2 f3;obtain⟨⟨e0,e1⟩,e2,e3,e4,e5,e6⟩:=HS.out w3 f3;have hb3:=zj f3;cases hP:yT.is .pattern K
 case true=>
  have h1:66<=K/\K<=70:=by simpa[yT.is] using hP
  have hr:=Hr.out;rw[if_neg (by simp;omega),if_neg (by simp;omega),if_pos (by simp[h1])] at hr;subst hr;go_wp2_with fail;refine (hPa.out w3 f3 h1).mono ?_;rintro e w4 ⟨t4,rfl,p4,f4⟩;go_wp2;go_ret;exact⟨_,rfl,p4,zf HB.out (zf hb3.out f4)⟩
 have hb0:=zj (hb3.out.drew);have hS:∀V,Cl w3.drew V->XN V w.heap.size (.slice (some ⟨g,off,none⟩) l.length nc) (.slice ip im ic) K txt n up m uc a:=fun V hV=>HS.out V (zf hb0.out hV.below)
 have HI:=zj hI;have HT:=zj hT;have HP:=zj hP;clear f1 f2 f3 hI hT hP hIt hTy hPa;go_wp2_with fail
 ·have hkc:=kd (k:=K) (by assumption);have hm:=hkc▸Hf.out;change 0<=m at hm;have hr:=hkc▸Hr.out;simp at hr;subst hr;have hn0:=hkc▸Hn.out;simp[zx] at hn0;refine (JV n (by omega) (by omega) w3).mono ?_;rintro e w4 ⟨t4,rfl,p4,f4⟩;go_wp2;go_ret;exact⟨_,rfl,p4,zf HB.out (zf hb3.out f4)⟩
 ·have hkc:=kd (k:=K) (by assumption);have hm:=hkc▸Hf.out;change 0<=m at hm;have hr:=hkc▸Hr.out;simp at hr;subst hr;refine (YB ⟨txt.toArray⟩ w3 (by simp[ByteArray.size];omega)).mono ?_;rintro e w4 ⟨rfl,rfl⟩;go_wp2;go_ret;exact⟨_,rfl,rfl,zf HB.out hb3.out⟩
 iterate 2
  ·have hkc:=kd (k:=K) (by assumption);have hm:=hkc▸Hf.out;change 0<=m at hm;have hr:=hkc▸Hr.out;simp at hr;subst hr;go_ret;refine⟨_,rfl,?_,zf HB.out hb3.out⟩
   first|(have h1:=pX.1 (show (n == 1)=true by assumption);simp[h1])|(have h1:=pA.1 (show (n == 1)=false by assumption);simp[h1])
 ·have hkc:=kd (k:=K) (by assumption);have hm:=hkc▸Hf.out;change 0<=m at hm;have hr:=hkc▸Hr.out;simp at hr;subst hr;go_ret;exact⟨_,rfl,rfl,zf HB.out hb3.out⟩
 ·have hkc:=kd (k:=K) (by assumption);have hm:=hkc▸Hf.out;change 0<=m at hm;have hr:=hkc▸Hr.out;simp at hr;subst hr;go_ret;exact⟨_,rfl,rfl,zf HB.out hb3.out⟩
 ·have hkc:=kd (k:=K) (by assumption);have hm:=hkc▸Hf.out;change 1<=m at hm;have hr:=hkc▸Hr.out;simp at hr;subst hr;obtain⟨K1,l1⟩:=qD Hkd.out (0) (0);have h60:=H6.out hkc;refine (K1.out _ hb3.out).mono ?_;rintro e w4 ⟨t1,rfl,p1,f4⟩;have z1:=yu p1;have h0:0<t1.size:=by rw[z1];exact List.length_pos_iff.2 h60
  have h0':(0:Int)<(t1.size:Int):=by omega
  have hh:(KR 0).head? =some t1[0]:=by
   rw[<-p1];exact zjk t1 h0
  replace p1:=zj p1;rw[hh];replace hh:=zj hh;clear h60;go_wp2_with fail
  all_goals
   have hh:=hh.out;go_ret;refine vf HB (zf hb3.out f4) ?_
   first|(simp[zm,p1.out];done)|exact (zk6 hh (by assumption) (by assumption)).elim|exact (zk5 hh (by assumption) (by assumption)).elim
 ·have hkc:=kd (k:=K) (by assumption);have hm:=hkc▸Hf.out;change 1<=m at hm;have hr:=hkc▸Hr.out;simp at hr;subst hr;obtain⟨K1,l1⟩:=qD Hkd.out (0) (0);refine (K1.out _ hb3.out).mono ?_;rintro e w4 ⟨t1,rfl,p1,f4⟩;have z1:=yu p1;go_wp2;go_ret;refine vf HB (zf hb3.out f4) ?_;simp[zm,p1]
 ·have hkc:=kd (k:=K) (by assumption);have hm:=hkc▸Hf.out;change 1<=m at hm;have hr:=hkc▸Hr.out;simp at hr;subst hr;obtain⟨K1,l1⟩:=qD Hkd.out (0) (0);refine xm [(0,1),(1,0),(4,0),(5,1),(2,2),(3,0),(6,0),(7,0)] ?_;refine xZ K1 hb0 fun t1 w1 p1 z1 hb1=>?_
  refine xO HB hb1 fun W hW=>?_
  go_wp2;go_ret;refine⟨_,rfl,?_,hW⟩;simp[zm,p1.out]
 ·have hkc:=kd (k:=K) (by assumption);have hm:=hkc▸Hf.out;change 1<=m at hm;have hr:=hkc▸Hr.out;simp at hr;subst hr;obtain⟨K1,l1⟩:=qD Hkd.out (0) (0);obtain⟨K2,l2⟩:=Qd Hrd.out 1 (m) (m);refine xm [(0,1),(1,0),(4,1),(5,0),(6,0),(2,2),(3,0),(7,2),(8,0),(9,0),(10,0)] ?_;refine xZ K1 hb0 fun t1 w1 p1 z1 hb1=>?_
  refine xZ K2 hb1 fun t2 w2 p2 z2 hb2=>?_
  refine xO HB hb2 fun W hW=>?_
  go_wp2;go_ret;refine⟨_,rfl,?_,hW⟩;simp[zm,p1.out,p2.out]
 ·have hkc:=kd (k:=K) (by assumption);have hm:=hkc▸Hf.out;change 0<=m at hm;have hr:=hkc▸Hr.out;simp at hr;subst hr;have hm0:m=0:=zS (c:=0) (by assumption);rw[if_pos hm0] at *;go_ret;exact⟨_,rfl,rfl,zf HB.out hb3.out⟩
 ·have hkc:=kd (k:=K) (by assumption);have hm:=hkc▸Hf.out;change 0<=m at hm;have hr:=hkc▸Hr.out;simp at hr;subst hr;have hm0:m≠0:=zE (c:=0) (by assumption);rw[if_neg hm0] at *;obtain⟨K1,l1⟩:=Qd Hrd.out 0 (m) (m);refine xm [(0,0),(1,1),(2,0),(3,1),(4,0),(5,0),(6,2),(7,0),(8,0),(9,0)] ?_;refine xZ K1 hb0 fun t1 w1 p1 z1 hb1=>?_
  refine xO HB hb1 fun W hW=>?_
  go_wp2;go_ret;refine⟨_,rfl,?_,hW⟩;simp[zm,p1.out]
 ·have hkc:=kd (k:=K) (by assumption);have hm:=hkc▸Hf.out;change 1<=m at hm;have hr:=hkc▸Hr.out;simp at hr;subst hr;obtain⟨K1,l1⟩:=Qd Hrd.out 0 (m) (m);refine xm [(0,0),(1,1),(2,0),(3,0),(4,1),(5,0),(6,0),(7,2),(8,0),(9,0),(10,0)] ?_;refine xZ K1 hb0 fun t1 w1 p1 z1 hb1=>?_
  refine xO HB hb1 fun W hW=>?_
  go_wp2;go_ret;refine⟨_,rfl,?_,hW⟩;simp[zm,p1.out]
 iterate 2
  ·have hkc:=kd (k:=K) (by assumption);have hm:=hkc▸Hf.out;change 1<=m at hm;have hr:=hkc▸Hr.out;simp at hr;subst hr;obtain⟨K1,l1⟩:=qD Hkd.out (0) (0);refine xm [(0,0),(1,1),(2,0),(3,1),(4,0),(5,2),(6,0),(7,0)] ?_;refine xZ K1 hb0 fun t1 w1 p1 z1 hb1=>?_
   refine xO HB hb1 fun W hW=>?_
   go_wp2;go_ret;refine⟨_,rfl,?_,hW⟩;simp[zm,p1.out]
 ·have hkc:=kd (k:=K) (by assumption);have hm:=hkc▸Hf.out;change 2<=m at hm;have hr:=hkc▸Hr.out;simp at hr;subst hr;obtain⟨K1,l1⟩:=qD Hkd.out (0) (0);obtain⟨K2,l2⟩:=qD Hkd.out (1) (1);refine xm [(0,1),(1,0),(4,1),(5,0),(2,2),(3,0),(6,2),(7,0),(8,0)] ?_;refine xZ K1 hb0 fun t1 w1 p1 z1 hb1=>?_
  refine xZ K2 hb1 fun t2 w2 p2 z2 hb2=>?_
  refine xO HB hb2 fun W hW=>?_
  go_wp2;go_ret;refine⟨_,rfl,?_,hW⟩;simp[zm,p1.out,p2.out]
 iterate 3
  ·have hkc:=kd (k:=K) (by assumption);have hm:=hkc▸Hf.out;change 1<=m at hm;have hr:=hkc▸Hr.out;simp at hr;subst hr;obtain⟨K2,l2⟩:=qD Hkd.out (0) (0);refine xm [(0,0),(1,1),(4,1),(5,0),(2,2),(3,0),(6,2),(7,0),(8,0)] ?_;refine xZ hW hb0 fun t1 w1 p1 z1 hb1=>?_
   refine xZ K2 hb1 fun t2 w2 p2 z2 hb2=>?_
   refine xO HB hb2 fun W hW=>?_
   go_wp2;go_ret;refine⟨_,rfl,?_,hW⟩;simp[zm,p1.out,p2.out]
 iterate 3
  ·have hkc:=kd (k:=K) (by assumption);have hm:=hkc▸Hf.out;change 0<=m at hm;have hr:=hkc▸Hr.out;simp at hr;subst hr;refine (hW.out w3 hb3.out).mono ?_;rintro e w4 ⟨t4,rfl,p4,f4⟩;go_wp2;go_ret;exact⟨_,rfl,p4,zf HB.out (zf hb3.out f4)⟩
 ·have hkc:=kd (k:=K) (by assumption);have hm:=hkc▸Hf.out;change 1<=m at hm;have hr:=hkc▸Hr.out;simp at hr;subst hr;obtain⟨K1,l1⟩:=qD Hkd.out (0) (0);have hn0:=hkc▸Hn.out;simp[zx] at hn0;have K2:=zj (fun W (_:Below wA.heap.size wA W)=>JV n (by omega) (by omega) W);have l2:=ZX (n:=n) (by omega) (by omega);refine xm [(0,1),(1,0),(5,0),(6,1),(2,2),(3,0),(4,0),(7,2),(8,0),(9,0),(10,0)] ?_;refine xZ K1 hb0 fun t1 w1 p1 z1 hb1=>?_
  refine xZ K2 hb1 fun t2 w2 p2 z2 hb2=>?_
  refine xO HB hb2 fun W hW=>?_
  go_wp2;go_ret;refine⟨_,rfl,?_,hW⟩;simp[zm,p1.out,p2.out]
 iterate 8
  ·have hkc:=kd (k:=K) (by assumption);have hr:=hkc▸Hr.out;simp at hr;subst hr;obtain⟨K2,l2⟩:=Qd Hrd.out 0 (m) (m);refine xm [(0,0),(1,1),(4,1),(5,0),(6,0),(2,2),(3,0),(7,2),(8,0),(9,0),(10,0)] ?_;refine xZ hW hb0 fun t1 w1 p1 z1 hb1=>?_
   refine xZ K2 hb1 fun t2 w2 p2 z2 hb2=>?_
   refine xO HB hb2 fun W hW=>?_
   go_wp2;go_ret;refine⟨_,rfl,?_,hW⟩;simp[zm,p1.out,p2.out]
 iterate 2
  ·have hkc:=kd (k:=K) (by assumption);have hm:=hkc▸Hf.out;change 1<=m at hm;have hr:=hkc▸Hr.out;simp at hr;subst hr;obtain⟨K1,l1⟩:=qD Hkd.out (0) (0);refine xm [(0,0),(1,1),(2,0),(3,0),(4,1),(5,0),(6,2),(7,0),(8,0)] ?_;refine xZ K1 hb0 fun t1 w1 p1 z1 hb1=>?_
   refine xO HB hb1 fun W hW=>?_
   go_wp2;go_ret;refine⟨_,rfl,?_,hW⟩;simp[zm,p1.out]
 ·have hkc:=kd (k:=K) (by assumption);have hm:=hkc▸Hf.out;change 2<=m at hm;have hr:=hkc▸Hr.out;simp at hr;subst hr;obtain⟨K1,l1⟩:=qD Hkd.out (0) (0);obtain⟨K2,l2⟩:=qD Hkd.out (1) (1);refine xm [(0,1),(1,0),(4,1),(5,0),(2,2),(3,0),(6,2),(7,0),(8,0)] ?_;refine xZ K1 hb0 fun t1 w1 p1 z1 hb1=>?_
  refine xZ K2 hb1 fun t2 w2 p2 z2 hb2=>?_
  refine xO HB hb2 fun W hW=>?_
  go_wp2;go_ret;refine⟨_,rfl,?_,hW⟩;simp[zm,p1.out,p2.out]
 ·have hc:[1,2,3,4,5,6,7,23,24,25,26,27,88,32,37,38,39,44,45,46,40,41,42,43,47,50,51,48,49,60,61,62].contains K=false:=by
   simp only[pA] at *;simp;omega
  have hl:=zfJ K hK8 Hkn.out hc HI.out HT.out HP.out;have hr:=HLs.out hc HI.out HT.out HP.out;rw[Hwd.out] at hl;clear hc;refine (hW.out w3 hb3.out).mono ?_;rintro e w4 ⟨t1,rfl,p1,f4⟩;have hbw:=zj (zf hb3.out f4);have z1:=yu p1;obtain⟨⟨e0,e1⟩,e2,e3,e4,e5,e6⟩:=HS.out w4 hbw.out;clear hS f4;rcases hl with⟨h1,h2⟩|⟨h1,h2⟩
  ·have hm:2<=m:=h2▸Hf.out;have ht1:t1.toList.isEmpty=false:=by rw[ByteArray.toList_eq,p1];simpa using h1
   rw[if_neg h1] at hr;subst hr;replace p1:=zj p1;have hb0:=zj (hbw.out.drew);have hS:∀V,Cl w4.drew V->XN V w.heap.size (.slice (some ⟨g,off,none⟩) l.length nc) (.slice ip im ic) K txt n up m uc a:=fun V hV=>HS.out V (zf hb0.out hV.below)
   obtain⟨K2,l2⟩:=qD Hkd.out (0) (0);obtain⟨K3,l3⟩:=qD Hkd.out (1) (1);go_wp2_with fail;refine xm [(0,1),(1,0),(4,0),(7,1),(8,0),(2,2),(3,0),(5,0),(6,0),(9,2),(10,0),(11,0)] ?_;refine xZ K2 hb0 fun t2 w2 p2 z2 hb2=>?_
   refine xZ K3 hb2 fun t3 w3 p3 z3 hb3=>?_
   refine xO HB hb3 fun W hW=>?_
   go_wp2;go_ret;refine⟨_,rfl,?_,hW⟩;simp[zm,p1.out,p2.out,p3.out]
  ·have ht1:t1.toList.isEmpty=true:=by rw[ByteArray.toList_eq,p1,h1];rfl
   rw[if_pos h1] at hr;subst hr;go_wp2_with fail;refine (hCo.out w4 hbw.out h2).mono ?_;rintro e w5 ⟨t4,rfl,p4,f4⟩;go_wp2;go_ret;exact⟨_,rfl,p4,zf HB.out (zf hbw.out f4)⟩
theorem zde{l:List Nd}(hF:xw l l.length)(hR:∀x∈l,zH l x=true)(hn:l.length<=1000)(f i:Nat)(hf:i<f)(hi:i<l.length):(yl l f i).length<=3200000:=by
 rw[(Xa hF hR f i hi hf).1];exact ZU hF hR hn f i hi
theorem VH{nv iv:Value}{l:List Nd}(hF:xw l l.length)(hR:∀x∈l,zH l x=true)(hn:l.length<=1000)(h8:∀x∈l,x.kind<=255)(hkl:∀x∈l,x.kids.length<=1000)(ht:∀x∈l,x.text.length<=3000):∀f,RxH nv iv l f
 |0=>⟨fun _ _ h=>absurd h (pY _),fun _ h=>absurd h (pY _),h8,hkl⟩
 |f+1=>by
  refine⟨fun w i hf hi hT=>?_,fun i hf hi=>zde hF hR hn _ _ hf hi,h8,hkl⟩;have H:=VH (nv:=nv) (iv:=iv) hF hR hn h8 hkl ht f;obtain⟨x,hx⟩:∃x,l[i]? =some x:=⟨_,glE hi⟩;have hm:=pM hx;have hr:=hR x hm;have e1:yl l (f+1) i=yV l (yl l f) x:=by
   show (match l[(i:Int).toNat]? with|some x=>yV l (yl l f) x|none=>[])=_
   rw[pO,hx]
  rw[e1];have hlt:=qf hF hi;rw[(gH.1 hx).2] at hlt;have hin:∀j,j<x.kids.length->zu x j∈x.kids:=fun j hj=>by
   unfold zu;rw[pB,glE hj];exact wF hj
  have hk:∀j,j<x.kids.length->uS l f x j:=fun j hj=>by
   obtain⟨h0,h1⟩:=hlt _ (hin j hj);exact⟨hj,h0,by omega,by omega⟩
  refine zf5 H hx hr (ht x hm) hk (fun h6=>?_) w hT;have hfew:=(zF hr).2.1;have h0:0<x.kids.length:=by rw[h6] at hfew;exact hfew
  obtain⟨_,k0,k1,k2⟩:=hk 0 h0;obtain⟨z,hz⟩:=pJ k0;obtain⟨q1,q2⟩:=Xa hF hR f z (by omega) (by omega);unfold yE;split
  ·simp
  ·rename_i hh;rw[hz,q1];have hs:=(zF hr).2.2.2.2.2 0 h0;rw[h6,hz] at hs;have he:zW (zt l z)=true:=by simpa[yM] using hs
   refine (q2 he ?_).1;change ¬qw l x 0=true at hh;unfold qw at hh;rw[h6,hz,he] at hh;simp at hh;have h7:zr 6=7:=rfl;simp[h7] at hh;exact hh
theorem zdC(s:ByteArray)(w:World)(hs:s.size<=1000000000000):Calls prog 69 #[.string s] w (zgR w (XZ s.data.toList)):=by
 obtain⟨r,hr⟩:=exE (XZ s.data.toList);rw[hr];unfold XZ at hr;have hRd:=zj (zfX s w (by omega));have hsz:s.data.toList.length=s.size:=rfl;rw[hsz] at hr;by_cases h:3000<s.size
 ·rw[if_pos h] at hr;subst hr;have h':(3000:Int)<(s.size:Int):=by omega
  go_enter func69,ntmps69;go_wp2;go_ret2;exact⟨rfl,pE _ _⟩
 ·rw[if_neg h] at hr;have h':¬(3000:Int)<(s.size:Int):=by omega
  have Hr:=zj hr;clear hr;generalize jp s.data.toList=q at *;go_enter func69,ntmps69;go_wp2_with fail;refine hRd.out.mono ?_;rintro e w1 ⟨v,rfl,_,hb⟩;have hr:=Hr.out;clear hRd Hr;by_cases h0:q.2.2=0
  ·rw[if_neg (by simp[h0])] at hr;subst hr;rw[h0];go_wp2;go_ret2;exact⟨rfl,hb⟩
  ·rw[if_pos h0] at hr;subst hr;have h0':((q.2.2:Int) == 0)=false:=bfE (by omega)
   go_wp2;go_ret2;exact⟨rfl,hb⟩
theorem zez{t:zU}(h:xh t=0):t.nodes.length<=1000/\t.items.length<=40:=by
 unfold xh at h;split at h
 ·cases h
 ·omega
theorem zdz{t:zU}{nv iv:Value}{w:World}(hT:Jy w nv iv t)(hok:ut t)(hs:∀x∈t.nodes,x.kids.length<=1000/\x.text.length<=3000)(hc:xh t=0){k:Int}(hk:k∈t.items):(∀W,Below w.heap.size w W->Calls prog 68 #[.agg #[nv,iv],.int .i64 k] W (uT W (zeP t k)))/\(zeP t k).length<=3200000:=by
 obtain⟨hF,hR,hI⟩:=Zq hc;obtain⟨h0,hl⟩:=hI _ hk;obtain⟨z,rfl⟩:=pJ h0;have hn:=(zez hc).1;have H:=VH (nv:=nv) (iv:=iv) hF hR hn hok.kind (fun x hx=>(hs x hx).1) (fun x hx=>(hs x hx).2) (t.nodes.length+1);obtain⟨_,_,q,d,_,hq⟩:=hT.form;exact⟨fun W hW=>H.ok W z (by omega) (by omega) ⟨hT.nodes.below hW,⟨q,_,d,hq⟩⟩,H.len z (by omega) (by omega)⟩
theorem zdH(t:zU)(nv iv:Value)(item:Int)(w:World)(hT:Jy w nv iv t)(hok:ut t)(hs:∀x∈t.nodes,x.kids.length<=1000/\x.text.length<=3000):Calls prog 34 #[.agg #[nv,iv],.int .i64 item] w (zgR w (YL t item)):=by
 have hCk:=zj (fun W (hW:Below w.heap.size w W)=>JX t nv iv W (hT.below hW) hok.nodes hok.items (fun x hx=>by have:=hok.kids x hx;omega) hok.text);have hTx:=zj (fun hc k hk=>zdz hT hok hs hc (k:=k) hk);obtain⟨np,nc,ip,ic,rfl,rfl⟩:=hT.form;have hIt:=zj hT.items;obtain⟨r,hr⟩:=exE (YL t item);rw[hr];unfold YL at hr;obtain⟨n,hn⟩:=exE (t.nodes.length);rw[hn] at hCk hTx ⊢;obtain⟨its,hits⟩:∃l,t.items=l:=⟨_,rfl⟩;rw[hits] at hCk hTx hIt hr ⊢;have hz:=zl w (.cells #[.slice np n nc,.slice ip its.length ic] 26 (0,0));have hA:=zg w (.cells #[.slice np n nc,.slice ip its.length ic] 26 (0,0));have b0:=zd hz 0;have b1:=zd hz 1;have HA:=zj hA;have Hr:=zj hr;generalize xh t=ck at *;clear hT hr hok hs hz hn hits;go_enter func34,ntmps34;go_wp2_with fail;refine (hCk.out _ HA.out).mono ?_;rintro e w1 ⟨rfl,f1⟩;have b0:=zh f1 b0;have b1:=zh f1 b1;have hbe:=zj (zf HA.out f1);have hr:=Hr.out;clear hCk Hr f1;by_cases hck:ck=0
 ·rw[if_neg (by simp[hck])] at hr;have hTz:=zj (hTx.out hck);clear hTx;subst hck;by_cases hi0:item<0
  ·rw[if_pos (.inl hi0)] at hr;subst hr;go_wp2;go_ret2;exact⟨rfl,hbe.out⟩
  by_cases hi1:(its.length:Int)<=item
  ·rw[if_pos (.inr hi1)] at hr;subst hr;go_wp2;go_ret2;exact⟨rfl,hbe.out⟩
  rw[if_neg (by omega)] at hr;obtain⟨j,rfl⟩:=pJ (show 0<=item by omega);rw[pO] at hr;have hlt:j<its.length:=by omega
  have hlt':(j:Int)<(its.length:Int):=by omega
  obtain⟨g1,o1,rfl,hc⟩:=hIt.out.at hlt;have hmem:its.getD j 0∈its:=by
   rw[pB,glE hlt];exact wF hlt
  obtain⟨hT1,lT⟩:=hTz.out _ hmem;generalize its.getD j 0=z at *;have hc:=zh hbe.out hc;have hK:=zj (fun W (hW:Below w1.heap.size w1 W)=>hT1 W (zf hbe.out hW));have hS:∀V,Cl w1.drew V->((V.cell? ⟨w.heap.size,0,none⟩=some (.slice np n nc)/\V.cell? ⟨w.heap.size,1,none⟩=some (.slice (some ⟨g1,o1,none⟩) its.length ic))/\V.cell? ⟨g1,o1+j,none⟩=some (.int .i64 z)):=fun V hV=>by
   have hV:Below w1.heap.size w1 V:=bR.drew.trans hV.below;exact⟨⟨zh hV b0,zh hV b1⟩,zh hV hc⟩
  have hb0:=zj ((pE w1.heap.size w1).drew);replace hr:=zj hr;clear hT1 hmem hc hTz;go_wp2_with fail;refine xm [(0,1),(1,0),(2,1),(3,0),(4,0),(5,1),(6,2),(7,2),(8,0),(9,0),(10,0),(11,0)] ?_;refine xZ hK hb0 fun t1 w3 p1 z1 hb1=>?_
  refine ya rfl rfl (fun K hK V hV=>?_);have hb2:=zf hb1.out hV.below;go_simp;refine (zdC t1 V (by omega)).mono ?_;rintro e w5 ⟨rfl,f5⟩;rw[p1.out,hr.out];refine⟨jm.2 f5,hK _ _ ?_⟩;clear hK K;have hb3:=zj (zf hb2 f5)
  try simp only[Act.put,yC,yA,yB]
  refine XQ ?_;refine zC fun W hW=>?_
  have hbn:=zf hbe.out (zf hb3.out hW.below);go_wp2;go_ret2;exact⟨rfl,hbn⟩
 ·rw[if_pos hck] at hr;subst hr;have h0':((ck:Int) == 0)=false:=bfE (by omega)
  go_wp2;go_ret2;exact⟨rfl,hbe.out⟩
end
end Go.Proofs.YtcagibbaeageoaaGreatDoor
