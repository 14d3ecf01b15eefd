/-
  A part of the proof: contracts of functions; no conditions.
-/
import Derived.Test.YtcagibbaeageoaaGreatDoorUN
import Derived.Test.YtcagibbaeageoaaGreatDoorUR
set_option maxRecDepth 100000
set_option maxHeartbeats 40000000
set_option linter.unusedSimpArgs false
set_option linter.unusedVariables false
namespace Go.Proofs.YtcagibbaeageoaaGreatDoor
section
open Go.RowKit Lode Go.Shelf
attribute [local go_sem ↓] Go.wp_at_zero Go.wp_at_succ
open Go.Proofs.Tryz
def zhA(l:List Nd)(nd j:Nat):Prop:=∀(i:Nat) (x:Nd),nd<i→i<j→l[i]? =some x→x.kids.contains (nd:Int)=false
theorem zdv{t:z6}{nd j:Nat}{x:Nd}(h:zhA t.nodes nd j)(hx:t.nodes[j]? =some x)(hj:nd<j)(hin:x.kids.contains (nd:Int)=true):qR t nd=j:=by
 have hjl:=(gtL hx);have:((List.range t.nodes.length).find? fun (i:Nat)=>decide ((nd:Int)<(i:Int)) && ((t.nodes[i]?).elim [] Nd.kids).contains (nd:Int))=some j:=by
  rw[List.find?_range_eq_some];refine⟨?_,List.mem_range.2 hjl,fun i hi=>?_⟩
  ·rw[hx];simp only[Option.elim,hin,Bool.and_true,decide_eq_true_eq];omega
  ·have hy:t.nodes[i]? =some t.nodes[i]:=glE (by omega);rw[hy];by_cases hni:nd<i
   ·simp only[Option.elim,h i _ hni hi hy,Bool.and_false,Bool.not_false]
   ·have:decide ((nd:Int)<(i:Int))=false:=decide_eq_false (by omega);rw[this];rfl
 unfold qR;rw[this]
theorem zeT{t:z6}{nd:Nat}(h:zhA t.nodes nd t.nodes.length):qR t nd= -1:=by
 have:((List.range t.nodes.length).find? fun (i:Nat)=>decide ((nd:Int)<(i:Int)) && ((t.nodes[i]?).elim [] Nd.kids).contains (nd:Int))=none:=by
  rw[List.find?_range_eq_none];intro i hi;have hy:t.nodes[i]? =some t.nodes[i]:=glE hi;rw[hy];by_cases hni:nd<i
  ·simp only[Option.elim,h i _ hni hi hy,Bool.and_false,Bool.not_false]
  ·have:decide ((nd:Int)<(i:Int))=false:=decide_eq_false (by omega);rw[this];rfl
 unfold qR;rw[this]
def UpO(l:List Nd)(nd:Nat)(w:World)(i:Value)(wr:World):Prop:=∃j:Nat,i=.int .i64 j∧nd<j∧(j≤l.length∨j=nd+1)∧zhA l nd j∧Below w.heap.size w wr
def UpI(ks:List Int)(nd:Nat)(w:World)(k:Value)(wr:World):Prop:=∃q:Nat,k=.int .i64 q∧q≤ks.length∧(∀a,a<q→ks.getD a 0≠(nd:Int))∧Below w.heap.size w wr
theorem X6(t:z6)(nv iv:Value)(nd:Nat)(w:World)(hT:YC w nv iv t)(hn1:t.nodes.length≤100000)(hk1:∀x∈t.nodes,x.kids.length≤100000)(hnd:nd<t.nodes.length):
 Calls prog 62 #[.agg #[nv,iv],.int .i64 nd] w (qe w (.int .i64 (qR t nd))):=by
 obtain⟨np,nc,ip,ic,rfl,rfl⟩:=hT.form;have HN:=zj hT.nodes;obtain⟨r,hr⟩:=exE (qR t nd);rw[hr];have Hr:=zj hr;obtain⟨n,hn⟩:=exE (t.nodes.length);have Hn:=zj hn;have HK:=zj hk1;have hz:=zm w (.cells #[.slice np t.nodes.length nc,.slice ip t.items.length ic] 26 (0,0));have hA:=zg w (.cells #[.slice np t.nodes.length nc,.slice ip t.items.length ic] 26 (0,0));have hst:=zj (show UpO t.nodes nd (w.alloc (.cells #[.slice np t.nodes.length nc,.slice ip t.items.length ic] 26 (0,0))) (.int .i64 ((nd:Int)+1)) (w.alloc (.cells #[.slice np t.nodes.length nc,.slice ip t.items.length ic] 26 (0,0))) from ⟨nd+1,rfl,by omega,.inr rfl,fun i x h1 h2=>absurd h2 (by omega),Below.refl _ _⟩);rw[hn] at HN hn1 hnd hz hA hst ⊢;have hyn:=IntWalk.i64_in ((nd:Int)+1) (by omega);have HZ:=zj hz;have HA:=zj hA;clear hT hz hA hk1 hr hn;go_enter func62,ntmps62;go_wp2_with fail;generalize w.alloc (.cells #[.slice np n nc,.slice ip t.items.length ic] 26 (0,0))=wA at *;go_loopw [5] (UpO t.nodes nd wA) (fun i _=>n+1-(intOf i).toNat)
 case atStart=>exact hst.out
 case round=>
  obtain⟨j,rfl,hj1,hj2,hno,hb⟩:=hrel;rw[Hn.out] at hj2;have c0:=zf (zi hb HZ.out) 0;have HNo:=zj hno;clear hno;by_cases hlt:j<n
  ·have hlt':(j:Int)<(n:Int):=by omega
   have hj0:¬((j:Int)<0):=by omega
   have hy:=IntWalk.i64_in ((j:Int)+1) (by omega);obtain⟨x,hx⟩:∃x,t.nodes[j]? =some x:=⟨_,glE (by rw[Hn.out];exact hlt)⟩;obtain⟨g,off,u,rfl,N1⟩:=HN.out.at hx;have hkl:=HK.out _ (List.mem_of_getElem? hx);obtain⟨up,uc,rfl⟩:=N1.kids.form;have HKs:=zj N1.kids;have HC3:=zj N1.c3;obtain⟨m,hm⟩:=exE (x.kids.length);rw[hm] at HC3 HKs hkl;have Hm:=zj hm;have Hx:=zj hx;have hst2:=zj (show UpI x.kids nd wr (.int .i64 0) wr from ⟨0,rfl,Nat.zero_le _,fun a ha=>absurd ha (Nat.not_lt_zero _),Below.refl _ _⟩);have HZr:=zj (zi hb HZ.out);have Hb:=zj hb;have Hbw:=zj (zd HA.out hb);clear hm hx N1 hb;go_wp2_with fail;go_loopw [6] (UpI x.kids nd wr) (fun i _=>m-(intOf i).toNat)
   case atStart=>exact hst2.out
   case round=>
    rename_i wr0 _ _ _ _;obtain⟨q,rfl,hq,hnk,hb2⟩:=hrel;rw[Hm.out] at hq;have c0:=zf (zi hb2 HZr.out) 0;have c3:=zh (zd Hbw.out hb2) HC3.out;have Hnk:=zj hnk;clear hnk;by_cases hlq:q<m
    ·have hlq':(q:Int)<(m:Int):=by omega
     have hq0:¬((q:Int)<0):=by omega
     have hyq:=IntWalk.i64_in ((q:Int)+1) (by omega);obtain⟨g2,off2,rfl,d0⟩:=HKs.out.at (j:=q) (by rw[Hm.out];exact hlq);have d0:=zh (zd Hbw.out hb2) d0;obtain⟨z,hz⟩:=exE (x.kids.getD q 0);rw[hz] at d0;have Hz:=zj hz;clear hz;by_cases hzn:z=(nd:Int)
     ·subst hzn;have hin:x.kids.contains (nd:Int)=true:=by
       rw[List.contains_iff_mem,←Hz.out,List.getD_eq_getElem?_getD,glE (by rw[Hm.out];exact hlq)];exact List.getElem_mem _
      have hr2:(j:Int)=r:=(zdv HNo.out Hx.out hj1 hin).symm.trans Hr.out;subst hr2;go_wp2_with fail;go_ret;exact⟨rfl,zd Hbw.out hb2⟩
     ·have hzn':(z == (nd:Int))=false:=bfE hzn
      have Hzn:=zj hzn;clear hzn;go_wp2_with fail;go_roundw
      case rel=>
       refine⟨q+1,by go_num,by rw[Hm.out];omega,fun a ha=>?_,hb2⟩;by_cases e:a=q
       ·rw[e,Hz.out];exact Hzn.out
       ·exact Hnk.out a (by omega)
      case measure=>simp[intOf];omega
    ·have hqm:q=m:=by omega
     have hlq':¬((q:Int)<(m:Int)):=by omega
     go_wp2_with fail;go_roundw
     case rel=>
      refine⟨j+1,by go_num,by omega,.inl (by rw[Hn.out];omega),fun i y h1 h2 hy=>?_,zd Hb.out hb2⟩;by_cases e:i=j
      ·rw[e,Hx.out] at hy;cases hy;rw[Bool.eq_false_iff];intro h;rw[List.contains_iff_mem] at h;obtain⟨a,ha,hae⟩:=List.mem_iff_getElem.1 h;exact Hnk.out a (by rw[hqm,←Hm.out];exact ha) (by rw[List.getD_eq_getElem?_getD,glE ha,hae];rfl)
      ·exact HNo.out i y h1 (by omega) hy
     case measure=>simp[intOf];omega
  ·have hlt':¬((j:Int)<(n:Int)):=by omega
   have hr2:(-1:Int)=r:=(zeT (fun i x h1 h2 hx=>HNo.out i x h1 (by rw[Hn.out] at h2;omega) hx)).symm.trans Hr.out;subst hr2;go_wp2_with fail;go_ret;exact⟨rfl,zd HA.out hb⟩
theorem ul(t:z6)(node:Int):(yR t≠0∧kT t node=yR t)∨(yR t=0∧(node<0∨(t.nodes.length:Int)≤node)∧kT t node=7)∨(yR t=0∧(0≤node∧node<(t.nodes.length:Int))∧kT t node=0):=by
 unfold kT;by_cases h:yR t=0
 ·by_cases h2:node<0∨(t.nodes.length:Int)≤node
  ·exact .inr (.inl ⟨h,h2,by simp[h,h2]⟩)
  ·exact .inr (.inr ⟨h,by omega,by simp[h,h2]⟩)
 ·exact .inl ⟨h,by simp[h]⟩
theorem YQ(t:z6)(nv iv:Value)(node:Int)(w:World)(hT:YC w nv iv t)(hn1:t.nodes.length≤100000)(hil:t.items.length≤100000)(hk1:∀x∈t.nodes,x.kids.length≤100000)(htl:∀x∈t.nodes,x.text.length≤1000000000000):
 Calls prog 61 #[.agg #[nv,iv],.int .i64 node] w (qe w (.int .i64 (kT t node:Nat))):=by
 have hC:=zj (fun W (hW:Below w.heap.size w W)=>ZM t nv iv W (hT.below hW) hn1 hil hk1 htl);obtain⟨np,nc,ip,ic,rfl,rfl⟩:=hT.form;obtain⟨n,hn⟩:=exE (t.nodes.length);have hz:=zm w (.cells #[.slice np n nc,.slice ip t.items.length ic] 26 (0,0));have hA:=zg w (.cells #[.slice np n nc,.slice ip t.items.length ic] 26 (0,0));have b0:=zf hz 0;have b1:=zf hz 1;have HA:=zj hA;have ho:=ul t node;rw[hn] at hC ho ⊢;clear hT hz hA hn;obtain⟨c,hc⟩:=exE (yR t);obtain⟨o,hoe⟩:=exE (kT t node);rw[hc] at hC ho;rw[hoe] at ho ⊢;clear hc hoe;rcases ho with⟨h1,h2⟩|⟨h1,h3,h2⟩|⟨h1,h3,h2⟩
 ·subst h2;have h1':((o:Int) != 0)=true:=by rw[bne_iff_ne];omega
  go_enter func61,ntmps61;go_wp2_with (go_at_call 17;refine (hC.out _ HA.out).mono ?_;rintro e w1 ⟨rfl,hb1⟩);go_ret;exact⟨rfl,zd HA.out hb1⟩
 ·subst h1 h2;by_cases h4:node<0
  ·have h4':decide (node<0)=true:=decide_eq_true h4;go_enter func61,ntmps61;go_wp2_with (go_at_call 17;refine (hC.out _ HA.out).mono ?_;rintro e w1 ⟨rfl,hb1⟩;have b0:=zh hb1 b0);go_ret;exact⟨rfl,zd HA.out hb1⟩
  ·have h4':decide (node<0)=false:=decide_eq_false h4;have h5:(n:Int)≤node:=by omega
   go_enter func61,ntmps61;go_wp2_with (go_at_call 17;refine (hC.out _ HA.out).mono ?_;rintro e w1 ⟨rfl,hb1⟩;have b0:=zh hb1 b0);go_ret;exact⟨rfl,zd HA.out hb1⟩
 ·subst h1 h2;have h4':decide (node<0)=false:=decide_eq_false (by omega);have h5:¬((n:Int)≤node):=by omega
  go_enter func61,ntmps61;go_wp2_with (go_at_call 17;refine (hC.out _ HA.out).mono ?_;rintro e w1 ⟨rfl,hb1⟩;have b0:=zh hb1 b0);go_ret;exact⟨rfl,zd HA.out hb1⟩
structure TrB(t:z6):Prop where
 n:t.nodes.length≤100000
 i:t.items.length≤100000
 k:∀x∈t.nodes,x.kids.length≤100000
 t:∀x∈t.nodes,x.text.length≤1000000000000
theorem VC(t:z6)(nv iv:Value)(node:Int)(w:World)(hT:YC w nv iv t)(hB:TrB t):Calls prog 22 #[.agg #[nv,iv],.int .i64 node] w (RdI w (Yg t node)):=by
 have hO:=zj (fun W (hW:Below w.heap.size w W)=>YQ t nv iv node W (hT.below hW) hB.n hB.i hB.k hB.t);have hU:=zj (fun W (hW:Below w.heap.size w W) (nd:Nat) (h:nd<t.nodes.length)=>X6 t nv iv nd W (hT.below hW) hB.n hB.k h);obtain⟨np,nc,ip,ic,rfl,rfl⟩:=hT.form;have ho:=ul t node;unfold Yg;obtain⟨n,hn⟩:=exE (t.nodes.length);rw[hn] at hO hU ho ⊢;have hz:=zm w (.cells #[.slice np n nc,.slice ip t.items.length ic] 26 (0,0));have hA:=zg w (.cells #[.slice np n nc,.slice ip t.items.length ic] 26 (0,0));have b0:=zf hz 0;have b1:=zf hz 1;have HA:=zj hA;have Hn:=zj hn;clear hT hz hA hn hB;rcases ho with⟨h1,h2⟩|⟨h1,h3,h2⟩|⟨h1,h3,h2⟩
 ·rw[h2] at hO ⊢;rw[if_pos h1];have h1':((yR t:Int) != 0)=true:=by rw[bne_iff_ne];omega
  generalize yR t=c at *;clear h1 h2;go_enter func22,ntmps22;go_wp2_with (go_at_call 61;refine (hO.out _ HA.out).mono ?_;rintro e w1 ⟨rfl,hb1⟩);go_ret2;exact⟨rfl,zd HA.out hb1⟩
 ·rw[h2] at hO ⊢;go_enter func22,ntmps22;go_wp2_with (go_at_call 61;refine (hO.out _ HA.out).mono ?_;rintro e w1 ⟨rfl,hb1⟩);go_ret2;exact⟨rfl,zd HA.out hb1⟩
 ·rw[h2] at hO ⊢;obtain⟨nd,rfl⟩:=Int.eq_ofNat_of_zero_le h3.1;have hU2:=zj (fun W hW=>hU.out W hW nd (by omega));clear h1 h2 h3 hU;go_enter func22,ntmps22;go_wp2_with (first
   |(go_at_call 61;refine (hO.out _ HA.out).mono ?_;rintro e w1 ⟨rfl,hb1⟩;have b0:=zh hb1 b0;have b1:=zh hb1 b1;have hbw:=zj (zd HA.out hb1))
   |(go_at_call 62;refine (hU2.out _ hbw.out).mono ?_;rintro e w2 ⟨rfl,hb2⟩))
  go_ret2;exact⟨rfl,zd hbw.out hb2⟩
theorem zcS(t:z6)(nv iv:Value)(node:Int)(w:World)(hT:YC w nv iv t)(hB:TrB t):Calls prog 24 #[.agg #[nv,iv],.int .i64 node] w (RdI w (Vm t node)):=by
 have hO:=zj (fun W (hW:Below w.heap.size w W)=>YQ t nv iv node W (hT.below hW) hB.n hB.i hB.k hB.t);have hU:=zj (fun W (hW:Below w.heap.size w W)=>X5 t nv iv W (hT.below hW) hB.n hB.k);obtain⟨np,nc,ip,ic,rfl,rfl⟩:=hT.form;have ho:=ul t node;unfold Vm;have hlen:yR t=0→(szI (xQ t.nodes t.nodes.length)).length=t.nodes.length:=fun h=>by
  rw[szI,List.length_map];exact jU h
 obtain⟨n,hn⟩:=exE (t.nodes.length);rw[hn] at hO hU ho hlen ⊢;have hz:=zm w (.cells #[.slice np n nc,.slice ip t.items.length ic] 26 (0,0));have hA:=zg w (.cells #[.slice np n nc,.slice ip t.items.length ic] 26 (0,0));have b0:=zf hz 0;have b1:=zf hz 1;have HA:=zj hA;have Hn:=zj hn;clear hT hz hA hn hB;rcases ho with⟨h1,h2⟩|⟨h1,h3,h2⟩|⟨h1,h3,h2⟩
 ·rw[h2] at hO ⊢;rw[if_pos h1];have h1':((yR t:Int) != 0)=true:=by rw[bne_iff_ne];omega
  generalize yR t=c at *;clear h1 h2 hlen;go_enter func24,ntmps24;go_wp2_with (go_at_call 61;refine (hO.out _ HA.out).mono ?_;rintro e w1 ⟨rfl,hb1⟩);go_ret2;exact⟨rfl,zd HA.out hb1⟩
 ·rw[h2] at hO ⊢;clear hlen;go_enter func24,ntmps24;go_wp2_with (go_at_call 61;refine (hO.out _ HA.out).mono ?_;rintro e w1 ⟨rfl,hb1⟩);go_ret2;exact⟨rfl,zd HA.out hb1⟩
 ·rw[h2] at hO ⊢;obtain⟨nd,rfl⟩:=Int.eq_ofNat_of_zero_le h3.1;have hl:=hlen h1;have hnd:(nd:Int)<(n:Int):=h3.2;have hnd0:¬((nd:Int)<0):=by omega
  have hsp:((((xQ t.nodes n).getD (nd:Int).toNat 0:Nat):Int))=(szI (xQ t.nodes n)).getD nd 0:=by
   rw[Int.toNat_natCast,szI,List.getD_eq_getElem?_getD,List.getD_eq_getElem?_getD,List.getElem?_map];cases (xQ t.nodes n)[nd]? <;> rfl
  rw[if_neg (by simp),hsp];generalize szI (xQ t.nodes n)=ss at *;clear h1 h2 h3 hlen hsp;go_enter func24,ntmps24;go_wp2_with (go_at_call 61;refine (hO.out _ HA.out).mono ?_;rintro e w1 ⟨rfl,hb1⟩;have b0:=zh hb1 b0;have b1:=zh hb1 b1;have hbw:=zj (zd HA.out hb1));refine (hU.out _ hbw.out).mono ?_;rintro e w2 ⟨v,rfl,hv,hb2⟩;obtain⟨p,cap,rfl⟩:=hv.form;obtain⟨g,off,rfl,_,d0⟩:=hv.at (j:=nd) (by omega);rw[hl];generalize ss.getD nd 0=sz at *;clear hv hl;go_wp2_with fail;go_ret2;exact⟨rfl,zd hbw.out hb2⟩
def FdO(l:List Nd)(at_:Int)(w:World)(i:Value)(wr:World):Prop:=∃j:Nat,i=.int .i64 j∧j≤l.length∧(∀(k:Nat) (x:Nd),k<j→l[k]? =some x→x.at_≠at_)∧Below w.heap.size w wr
theorem zf7{l:List Nd}{at_:Int}{j:Nat}{x:Nd}(hx:l[j]? =some x)(hxa:x.at_=at_)(h:∀(k:Nat) (x:Nd),k<j→l[k]? =some x→x.at_≠at_):uI (fun x=>x.at_ == at_) l=j:=by
 obtain⟨hj,hxe⟩:=List.getElem?_eq_some_iff.1 hx;have:l.findIdx? (fun x=>x.at_ == at_)=some j:=by
  rw[List.findIdx?_eq_some_iff_getElem];refine⟨hj,by rw[hxe];simpa using hxa,fun k hk=>?_⟩;have:=h k l[k] hk (glE _);simpa using this
 unfold uI;rw[this]
theorem zho{l:List Nd}{at_:Int}(h:∀(k:Nat) (x:Nd),k<l.length→l[k]? =some x→x.at_≠at_):uI (fun x=>x.at_ == at_) l= -1:=by
 have:l.findIdx? (fun x=>x.at_ == at_)=none:=by
  rw[List.findIdx?_eq_none_iff];intro x hx;obtain⟨k,hk,hke⟩:=List.mem_iff_getElem.1 hx;have:=h k x hk (by rw[glE hk,hke]);simpa using this
 unfold uI;rw[this]
theorem zcV(t:z6)(nv iv:Value)(at_:Int)(w:World)(hT:YC w nv iv t)(hB:TrB t):Calls prog 25 #[.agg #[nv,iv],.int .i64 at_] w (RdI w (JI t at_)):=by
 have hC:=zj (fun W (hW:Below w.heap.size w W)=>ZM t nv iv W (hT.below hW) hB.n hB.i hB.k hB.t);have HN:=zj hT.nodes;have hn1:=hB.n;obtain⟨np,nc,ip,ic,rfl,rfl⟩:=hT.form;obtain⟨r,hr⟩:=exE (JI t at_);rw[hr];unfold JI at hr;obtain⟨n,hn⟩:=exE (t.nodes.length);rw[hn] at hC HN hn1 ⊢;have hz:=zm w (.cells #[.slice np n nc,.slice ip t.items.length ic] 26 (0,0));have hA:=zg w (.cells #[.slice np n nc,.slice ip t.items.length ic] 26 (0,0));have b0:=zf hz 0;have b1:=zf hz 1;have HA:=zj hA;have Hn:=zj hn;obtain⟨c,hc⟩:=exE (yR t);rw[hc] at hC hr;clear hT hA hn hB hc;by_cases h0:c=0
 ·subst h0;rw[if_neg (by simp)] at hr;have Hr:=zj hr;have HZ:=zj hz;clear hr hz;go_enter func25,ntmps25;go_wp2_with (go_at_call 17;refine (hC.out _ HA.out).mono ?_;rintro e w1 ⟨rfl,hb1⟩);have hst:=zj (show FdO t.nodes at_ w1 (.int .i64 0) w1 from ⟨0,rfl,Nat.zero_le _,fun k x h=>absurd h (Nat.not_lt_zero _),Below.refl _ _⟩);have HZ1:=zj (zi hb1 HZ.out);have Hbw:=zj (zd HA.out hb1);clear b0 b1;go_loopw [7] (FdO t.nodes at_ w1) (fun i _=>n-(intOf i).toNat)
  case atStart=>exact hst.out
  case round=>
   obtain⟨j,rfl,hj,hno,hb⟩:=hrel;rw[Hn.out] at hj;have c0:=zf (zi hb HZ1.out) 0;have HNo:=zj hno;clear hno;by_cases hlt:j<n
   ·have hlt':(j:Int)<(n:Int):=by omega
    have hj0:¬((j:Int)<0):=by omega
    have hy:=IntWalk.i64_in ((j:Int)+1) (by omega);obtain⟨x,hx⟩:∃x,t.nodes[j]? =some x:=⟨_,glE (by rw[Hn.out];exact hlt)⟩;obtain⟨g,off,u,rfl,N1⟩:=HN.out.at hx;have c4:=zh (zd Hbw.out hb) N1.c4;have Hx:=zj hx;clear N1 hx;by_cases hxa:x.at_=at_
    ·have hxa':(x.at_ == at_)=true:=by rw[beq_iff_eq];exact hxa
     have hix:=zf7 Hx.out hxa HNo.out;have hr2:((j:Int),0)=r:=by
      have h:=Hr.out;rw[hix,if_neg (by omega)] at h;exact h
     subst hr2;clear hix hxa;go_wp2_with fail;go_ret2;exact⟨rfl,zd Hbw.out hb⟩
    ·have hxa':(x.at_ == at_)=false:=bfE hxa
     have Hxa:=zj hxa;clear hxa;go_wp2_with fail;go_roundw
     case rel=>
      refine⟨j+1,by go_num,by rw[Hn.out];omega,fun k y hk hy=>?_,hb⟩;by_cases e:k=j
      ·rw[e,Hx.out] at hy;cases hy;exact Hxa.out
      ·exact HNo.out k y (by omega) hy
     case measure=>simp[intOf];omega
   ·have hlt':¬((j:Int)<(n:Int)):=by omega
    have hix:=zho (fun k x hk hx=>HNo.out k x (by rw[Hn.out] at hk;omega) hx);have hr2:((0:Int),7)=r:=by
     have h:=Hr.out;rw[hix,if_pos (by omega)] at h;exact h
    subst hr2;clear hix;go_wp2_with fail;go_ret2;exact⟨rfl,zd Hbw.out hb⟩
 ·rw[if_pos h0] at hr;subst hr;have h0':((c:Int) != 0)=true:=by rw[bne_iff_ne];omega
  clear h0;go_enter func25,ntmps25;go_wp2_with (go_at_call 17;refine (hC.out _ HA.out).mono ?_;rintro e w1 ⟨rfl,hb1⟩);go_ret2;exact⟨rfl,zd HA.out hb1⟩
theorem zam(t:z6)(nd:Nat):qR t nd= -1∨∃j:Nat,qR t nd=j∧nd<j∧j<t.nodes.length:=by
 unfold qR;cases h:(List.range t.nodes.length).find? fun (i:Nat)=>decide ((nd:Int)<(i:Int)) && ((t.nodes[i]?).elim [] Nd.kids).contains (nd:Int) with
 |none=>exact .inl rfl
 |some j=>
  rw[List.find?_range_eq_some] at h;obtain⟨h1,h2,_⟩:=h;simp only[Bool.and_eq_true,decide_eq_true_eq] at h1;exact .inr ⟨j,rfl,by omega,List.mem_range.1 h2⟩
theorem JT{w:World}{ops:Array Oper}{rest:List Oper}{o:Oper}{a:Act}{Q:Exit→Act→World→Prop}(hgd:o.guard=none)(s x:Operand)
 (ho:o.op=.call {callee:=.builtin .append,args:= #[s,x],argTypes:= #[24,24]})
 {base g n cap:Nat} {xs:List Value} (hs:a.eval s=.slice (some ⟨g,0,none⟩) n cap) (hown:w.ownsRow base 3 1 (.slice (some ⟨g,0,none⟩) n cap) n xs) {ad:Addr} {c2:Nat} {ys:List Int} (hx:a.eval x=.slice (some ad) ys.length c2) (hnews:∀j x,(yH ys)[j]? =some x→w.cell? (ad.add j)=some x) (hn:n+ys.length≤1000000) (hbase:base≤w.heap.size)
 (h:∀g' cap' w',w'.ownsRow base 3 1 (.slice (some ⟨g',0,none⟩) (n+ys.length) cap') (n+ys.length) (xs ++ yH ys)→w.grownBy w' (some g)→wpList prog ops Q rest (a.put o.dst (.slice (some ⟨g',0,none⟩) (n+ys.length) cap')) w'):wpList prog ops Q (o :: rest) a w:=by
 refine wpList_plain hgd fun K hK=>?_
 have hl:(yH ys).length=ys.length:=by simp
 obtain⟨g',cap',w',hr,h2,h3,h4⟩:=YO hown c2 hnews (Ym ys) (by rw[hl];exact hn) hbase o.type;rw[hl] at hr h2;unfold Oper.wp;simp[execOp,ho,resolve,invoke,builtin,hs,hx,hr,Result.andThen];exact hK _ _ (h g' cap' w' h2 h3)
def zgE(t:z6)(R:List Int)(w:World)(v1 v7:Value)(wr:World):Prop:=∃(p:Int) (f:Nat) (acc:List Int) (g c:Nat),v1=.int .i64 p∧v7=.slice (some ⟨g,0,none⟩) acc.length c∧((p= -1∧1≤f)∨∃nd:Nat,p=nd∧nd<t.nodes.length∧t.nodes.length<f+nd∧acc.length≤nd)∧acc.length≤t.nodes.length∧jP t f p acc=R∧wr.ownsRow w.heap.size 3 1 (.slice (some ⟨g,0,none⟩) acc.length c) acc.length (yH acc)∧Below w.heap.size w wr
theorem zc2{t:z6}{f:Nat}{acc:List Int}(hf:1≤f):jP t f (-1) acc=acc:=by
 obtain⟨g,rfl⟩:∃g,f=g+1:=⟨f-1,by omega⟩;unfold jP;rw[if_pos (by decide)]
theorem zfM{t:z6}{f nd:Nat}{acc:List Int}(hf:1≤f):jP t f (nd:Int) acc=jP t (f-1) (qR t nd) ((nd:Int) :: acc):=by
 obtain⟨g,rfl⟩:∃g,f=g+1:=⟨f-1,by omega⟩;rw[Nat.add_sub_cancel]
 conv=>lhs;unfold jP
 rw[if_neg (by omega)]
theorem zcT(t:z6)(nv iv:Value)(node:Int)(w:World)(hT:YC w nv iv t)(hB:TrB t):Calls prog 23 #[.agg #[nv,iv],.int .i64 node] w (RdL w (Xi t node)):=by
 have hO:=zj (fun W (hW:Below w.heap.size w W)=>YQ t nv iv node W (hT.below hW) hB.n hB.i hB.k hB.t);have hU:=zj (fun W (hW:Below w.heap.size w W) (nd:Nat) (h:nd<t.nodes.length)=>X6 t nv iv nd W (hT.below hW) hB.n hB.k h);have hn1:=hB.n;obtain⟨np,nc,ip,ic,rfl,rfl⟩:=hT.form;have ho:=ul t node;obtain⟨R,hR⟩:=exE (Xi t node);rw[hR];unfold Xi at hR;obtain⟨n,hn⟩:=exE (t.nodes.length);rw[hn] at hO hU ho hn1 hR ⊢;have hz:=zm w (.cells #[.slice np n nc,.slice ip t.items.length ic] 26 (0,0));have hA:=zg w (.cells #[.slice np n nc,.slice ip t.items.length ic] 26 (0,0));have b0:=zf hz 0;have b1:=zf hz 1;have HA:=zj hA;have Hn:=zj hn;have HZ:=zj hz;clear hT hz hA hn hB;rcases ho with⟨h1,h2⟩|⟨h1,h3,h2⟩|⟨h1,h3,h2⟩
 ·rw[h2] at hO hR;rw[if_pos h1] at hR;have h1':((yR t:Int) != 0)=true:=by rw[bne_iff_ne];omega
  generalize yR t=c at *;clear h1 h2;subst hR;go_enter func23,ntmps23;go_wp2_with (go_at_call 61;refine (hO.out _ HA.out).mono ?_;rintro e w1 ⟨rfl,hb1⟩);go_ret2;exact⟨_,rfl,KS.nil _ _ _,zd HA.out hb1⟩
 ·rw[h2] at hO hR;subst hR;go_enter func23,ntmps23;go_wp2_with (go_at_call 61;refine (hO.out _ HA.out).mono ?_;rintro e w1 ⟨rfl,hb1⟩);go_ret2;exact⟨_,rfl,KS.nil _ _ _,zd HA.out hb1⟩
 ·rw[h2] at hO hR;obtain⟨nd,rfl⟩:=Int.eq_ofNat_of_zero_le h3.1;rw[if_neg (by simp)] at hR;have hnd:nd<n:=by omega
  have HR:=zj hR;clear h1 h2 h3 hR;go_enter func23,ntmps23;go_wp2_with (go_at_call 61;refine (hO.out _ HA.out).mono ?_;rintro e w1 ⟨rfl,hb1⟩);have hst:=zj (show zgE t R.1 w1 (.int .i64 nd) (.slice (some ⟨w1.heap.size,0,none⟩) 0 0) (w1.alloc (.cells #[] 3 (0,0))) from ⟨nd,n+1,[],w1.heap.size,0,rfl,rfl,.inr ⟨nd,rfl,by rw[Hn.out];exact hnd,by rw[Hn.out];omega,Nat.zero_le _⟩,Nat.zero_le _,by rw[←HR.out],Ze w1 [] (by decide),zg _ _⟩);have hR2:R.2=0:=by rw[←HR.out]
  have HR2:=zj hR2;have HZ1:=zj (zi hb1 HZ.out);have Hbw:=zj (zd HA.out hb1);have HA1:=zj HA.out;clear b0 b1 hR2;go_loopw [1,7] (zgE t R.1 w1) (fun i _ _=>if intOf i<0 then 0 else n+1-(intOf i).toNat)
  case atStart=>exact hst.out
  case round=>
   obtain⟨p,f,acc,g,c,rfl,rfl,hp,hal,hpn,hown,hb⟩:=hrel;rcases hp with⟨rfl,hf⟩|⟨nd,rfl,hnd2,hf,hacc⟩
   ·have hRe:acc=R.1:=(zc2 hf).symm.trans hpn;have hg0:¬((-1:Int)≥0):=by omega
    have hk:=(KS.own_new hown).1;go_wp2_with fail;go_ret2;exact⟨_,by rw[HR2.out];rfl,hRe▸hk,zd Hbw.out hb⟩
   ·have hg0:(nd:Int)≥0:=by omega
    have hp2:=(zfM (t:=t) (nd:=nd) (acc:=acc) (show 1≤f by omega)).symm.trans hpn;have hs1:=hb.size;have hown1:(wr.alloc (.cells #[.int .i64 nd] 3 (0,0))).ownsRow w1.heap.size 3 1 (.slice (some ⟨wr.heap.size,0,none⟩) 1 1) 1 [.int .i64 nd]:=vQ (Ze wr [(nd:Int)] (by simp)) hs1;have hnews:∀j x,(yH acc)[j]? =some x→(wr.alloc (.cells #[.int .i64 nd] 3 (0,0))).cell? ((⟨g,0,none⟩:Addr).add j)=some x:=fun j x hj=>(zC hown (zg wr _)).cells (g:=g) rfl j x hj
    have hbA:=hb.trans ((zg wr (.cells #[.int .i64 nd] 3 (0,0))).mono hs1);have hU2:=zj (fun W hW=>hU.out W hW nd (by rw[Hn.out] at hnd2;exact hnd2));have Hp2:=zj hp2;rw[Hn.out] at hal hnd2 hf;clear hp2 hpn hown hb;go_wp2_with (at_builtin;refine JT rfl _ _ rfl rfl hown1 rfl hnews (by omega) (by simp;omega) ?_);intro g' cap' w2 hrow hgrow;have hb2:=jl hbA hown1 hgrow;have b0:=zf (zi hb2 HZ1.out) 0;have b1:=zf (zi hb2 HZ1.out) 1;have Hrow:=zj hrow;have Hb2:=zj hb2;clear hrow hgrow hnews hown1 hbA hb2;go_wp2_with (go_at_call 62;refine (hU2.out _ (zd Hbw.out Hb2.out)).mono ?_;rintro e w3 ⟨rfl,hb3⟩);have hcs:=zam t nd;rw[Hn.out] at hcs;go_roundw
    case rel=>
     refine⟨qR t nd,f-1,(nd:Int) :: acc,g',cap',rfl,by rw[List.length_cons,Nat.add_comm],?_,by rw[List.length_cons,Hn.out];omega,Hp2.out,?_,zd Hb2.out hb3⟩
     ·rcases hcs with h|⟨j,h,h1,h2⟩
      ·exact .inl ⟨h,by omega⟩
      ·exact .inr ⟨j,h,by rw[Hn.out];exact h2,by rw[Hn.out];omega,by rw[List.length_cons];omega⟩
     ·have h9:=zC Hrow.out hb3;rw[Nat.add_comm] at h9;exact h9
    case measure=>
     rcases hcs with h|⟨j,h,h1,h2⟩
     ·rw[h];show (if (-1:Int)<0 then 0 else n+1-(-1:Int).toNat)<(if (nd:Int)<0 then 0 else n+1-(nd:Int).toNat)
      rw[if_pos (by decide),if_neg (by omega),Int.toNat_natCast];omega
     ·rw[h];show (if (j:Int)<0 then 0 else n+1-(j:Int).toNat)<(if (nd:Int)<0 then 0 else n+1-(nd:Int).toNat)
      rw[if_neg (by omega),if_neg (by omega),Int.toNat_natCast,Int.toNat_natCast];omega
theorem Qc(t:z6):∀(f:Nat) (p:Int) (acc:List Int),(jP t f p acc).length≤acc.length+f
 |0,_,_=>Nat.le_refl _
 |f+1,p,acc=>by
  unfold jP;split
  ·omega
  ·have:=Qc t f (qR t p) (p :: acc);simp only[List.length_cons] at this;omega
theorem zdc(t:z6)(nv iv:Value)(node vM:Int)(w:World)(hT:YC w nv iv t)(hG:qy w)(hi:∀x∈t.nodes,∀k∈x.kids,I64 k)(h8:∀x∈t.nodes,x.kind≤255):
 Calls prog 5 #[.agg #[nv,iv],.int .i64 node,.int .i64 vM] w (qe w (.bool true)):=by
 have hL:=zj (fun W (hW:Below w.heap.size w W)=>Jr t nv iv W (hT.below hW));have hKn:=zj (fun W (hW:Below w.heap.size w W)=>Ql W (hG.later hW));obtain⟨lg,hlg⟩:∃b,YV t=b:=⟨_,rfl⟩;rw[hlg] at hL;cases lg
 ·obtain⟨bn,bi,bt⟩:=Vk hlg;have hok:JJ7 t:=⟨h8,fun x hx=>by have:=(bt x hx).2;omega,fun x hx=>by have:=(bt x hx).1;omega,by omega,by omega⟩;have hkm:∀x∈t.nodes,x.kids.length≤1000:=fun x hx=>by have:=(bt x hx).1;omega
  have hB:TrB t:=⟨by omega,by omega,fun x hx=>by have:=(bt x hx).1;omega,fun x hx=>by have:=(bt x hx).2;omega⟩;have hCp:=zj (fun W (hW:Below w.heap.size w W)=>Jg t nv iv W (hT.below hW) hi hB.n hB.i hB.k);have hR1:=zj (fun W (hW:Below w.heap.size w W)=>VC t nv iv node W (hT.below hW) hB);have hR2:=zj (fun W (hW:Below w.heap.size w W)=>zcT t nv iv node W (hT.below hW) hB);have hR3:=zj (fun W (hW:Below w.heap.size w W)=>zcS t nv iv node W (hT.below hW) hB);have hR4:=zj (fun W (hW:Below w.heap.size w W)=>zcV t nv iv vM W (hT.below hW) hB);have e1:=zj (zc3 hkm node);have e2:=zj (zgR hkm node);have e3:=zj (zdO hkm node);have e4:=zj (zf5 hkm vM);have hpl:(Xi t node).1.length≤1000000:=by
   unfold Xi;split
   ·exact Nat.zero_le _
   ·have:=Qc t (t.nodes.length+1) node [];simp only[List.length_nil] at this;show (jP t (t.nodes.length+1) node []).length≤1000000
    omega
  obtain⟨np,nc,ip,ic,rfl,rfl⟩:=hT.form;have hz:=zm w (.cells #[.slice np t.nodes.length nc,.slice ip t.items.length ic] 26 (0,0));have hbw:=zj (zg w (.cells #[.slice np t.nodes.length nc,.slice ip t.items.length ic] 26 (0,0)));have b0:=zf hz 0;have b1:=zf hz 1;replace hok:=zj hok;replace hkm:=zj hkm;replace hpl:=zj hpl;clear hT hz bn bi bt hB hi h8 hlg;go_enter func5,ntmps5;go_wp2_with (go_at_call 14;refine (hL.out _ hbw.out).mono ?_;rintro e w1 ⟨rfl,hba⟩;have b0:=zh hba b0;have b1:=zh hba b1;replace hbw:=zj (zd hbw.out hba);clear hba);go_wp2_with fail;refine (hCp.out _ hbw.out).mono ?_;rintro e wa1 ⟨na,ia,rfl,hTa,hba⟩;have hGa:=hG.later (zd hbw.out hba);have hX:=QG t na ia node wa1 hTa hGa hok.out;rw[e1.out] at hX;replace hX:=zj hX;have b0:=zh hba b0;have b1:=zh hba b1;replace hbw:=zj (zd hbw.out hba);obtain⟨pa,ca,qa,da,rfl,rfl⟩:=hTa.form;clear hTa hGa hba;generalize Yg t node=r1 at *;go_wp2_with fail;refine hX.out.mono ?_;rintro e wb1 ⟨rfl,hba⟩;have b0:=zh hba b0;have b1:=zh hba b1;replace hbw:=zj (zd hbw.out hba);clear hX hba;go_wp2_with fail;refine (hCp.out _ hbw.out).mono ?_;rintro e wa2 ⟨na,ia,rfl,hTa,hba⟩;have hGa:=hG.later (zd hbw.out hba);have hX:=zao t na ia node wa2 hTa hGa hok.out hkm.out;rw[e2.out] at hX;replace hX:=zj hX;have b0:=zh hba b0;have b1:=zh hba b1;replace hbw:=zj (zd hbw.out hba);obtain⟨pa,ca,qa,da,rfl,rfl⟩:=hTa.form;clear hTa hGa hba;generalize Xi t node=r2 at *;go_wp2_with fail;refine hX.out.mono ?_;rintro e wb2 ⟨va,rfl,hva,hba⟩;have b0:=zh hba b0;have b1:=zh hba b1;replace hbw:=zj (zd hbw.out hba);have hbv:=zj (Below.refl wb2.heap.size wb2);obtain⟨pv,cv,rfl⟩:=hva.form;replace hva:=zj hva;clear hX hba;go_wp2_with fail;refine (hCp.out _ hbw.out).mono ?_;rintro e wa3 ⟨na,ia,rfl,hTa,hba⟩;have hGa:=hG.later (zd hbw.out hba);have hX:=zan t na ia node wa3 hTa hGa hok.out hkm.out;rw[e3.out] at hX;replace hX:=zj hX;have b0:=zh hba b0;have b1:=zh hba b1;replace hbw:=zj (zd hbw.out hba);replace hbv:=zj (zd hbv.out hba);obtain⟨pa,ca,qa,da,rfl,rfl⟩:=hTa.form;clear hTa hGa hba;generalize Vm t node=r3 at *;go_wp2_with fail;refine hX.out.mono ?_;rintro e wb3 ⟨rfl,hba⟩;have b0:=zh hba b0;have b1:=zh hba b1;replace hbw:=zj (zd hbw.out hba);replace hbv:=zj (zd hbv.out hba);clear hX hba;go_wp2_with fail;refine (hCp.out _ hbw.out).mono ?_;rintro e wa4 ⟨na,ia,rfl,hTa,hba⟩;have hGa:=hG.later (zd hbw.out hba);have hX:=zaq t na ia vM wa4 hTa hGa hok.out;rw[e4.out] at hX;replace hX:=zj hX;have b0:=zh hba b0;have b1:=zh hba b1;replace hbw:=zj (zd hbw.out hba);replace hbv:=zj (zd hbv.out hba);obtain⟨pa,ca,qa,da,rfl,rfl⟩:=hTa.form;clear hTa hGa hba;generalize JI t vM=r4 at *;go_wp2_with fail;refine hX.out.mono ?_;rintro e wb4 ⟨rfl,hba⟩;have b0:=zh hba b0;have b1:=zh hba b1;replace hbw:=zj (zd hbw.out hba);replace hbv:=zj (zd hbv.out hba);clear hX hba;go_wp2_with fail;refine (hR1.out _ hbw.out).mono ?_;rintro e wc1 ⟨rfl,hba⟩;have b0:=zh hba b0;have b1:=zh hba b1;replace hbw:=zj (zd hbw.out hba);replace hbv:=zj (zd hbv.out hba);clear hba;go_wp2_with fail;refine (hR2.out _ hbw.out).mono ?_;rintro e wc2 ⟨vb,rfl,hvb,hba⟩;have b0:=zh hba b0;have b1:=zh hba b1;replace hbw:=zj (zd hbw.out hba);replace hbv:=zj (zd hbv.out hba);have hbu:=zj (Below.refl wc2.heap.size wc2);obtain⟨pu,cu,rfl⟩:=hvb.form;replace hvb:=zj hvb;clear hba;go_wp2_with fail;refine (hR3.out _ hbw.out).mono ?_;rintro e wc3 ⟨rfl,hba⟩;have b0:=zh hba b0;have b1:=zh hba b1;replace hbw:=zj (zd hbw.out hba);replace hbv:=zj (zd hbv.out hba);replace hbu:=zj (zd hbu.out hba);clear hba;go_wp2_with fail;refine (hR4.out _ hbw.out).mono ?_;rintro e wc4 ⟨rfl,hba⟩;replace hbw:=zj (zd hbw.out hba);replace hbv:=zj (zd hbv.out hba);replace hbu:=zj (zd hbu.out hba);clear hba b0 b1;have hIn:=ui _ _ r2.1 r2.1 wc4 (hva.out.o.below hbv.out) (hvb.out.o.below hbu.out) hpl.out;rw[decide_eq_true rfl] at hIn;replace hIn:=zj hIn;clear hva hvb hpl e1 e2 e3 e4 hok hkm hCp hR1 hR2 hR3 hR4 hL hG;obtain⟨a1,f1⟩:=r1;obtain⟨a3,f3⟩:=r3;obtain⟨a4,f4⟩:=r4;go_wp2_with (first
   |(go_at_call 26;refine hIn.out.mono ?_;rintro e w5 ⟨rfl,hba⟩;replace hbw:=zj (zd hbw.out hba);clear hba)
   |(go_at_call 10;refine (hKn.out _ hbw.out).mono ?_;rintro e w6 ⟨rfl,hba⟩;replace hbw:=zj (zd hbw.out hba);clear hba))
  go_ret;exact⟨rfl,hbw.out⟩
 ·obtain⟨np,nc,ip,ic,rfl,rfl⟩:=hT.form;have hA:=zj (zg w (.cells #[.slice np t.nodes.length nc,.slice ip t.items.length ic] 26 (0,0)));have hz:=zm w (.cells #[.slice np t.nodes.length nc,.slice ip t.items.length ic] 26 (0,0));have b0:=zf hz 0;have b1:=zf hz 1;clear hT hz hlg hi h8 hG;go_enter func5,ntmps5;go_wp2_with (first
   |(go_at_call 14;refine (hL.out _ hA.out).mono ?_;rintro e w1 ⟨rfl,hb1⟩;have hbw:=zj (zd hA.out hb1))
   |(go_at_call 10;refine (hKn.out _ hbw.out).mono ?_;rintro e w2 ⟨rfl,hb2⟩))
  go_ret;exact⟨rfl,zd hbw.out hb2⟩
end
end Go.Proofs.YtcagibbaeageoaaGreatDoor
