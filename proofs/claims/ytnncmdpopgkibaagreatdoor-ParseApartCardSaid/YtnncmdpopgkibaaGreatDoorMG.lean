/-
  A part of the proof: contracts of functions; no conditions.
-/
import Derived.Test.YtnncmdpopgkibaaGreatDoorMF
import Derived.ArgAppend
import Derived.OwnWalk
import Derived.OneCell
import Derived.Lib.AtoiAll
import Derived.Lib.ItoaNum
import GoSem.Op.String
import Derived.Lib.LastIndexByte
import Derived.Lib.Bytealg
import Derived.Lib.AppendIntMem
import Derived.Deep.RegionHeld3
import Derived.Deep.DrawnRows
import Derived.Deep.AppendLies
import Derived.Maps.Range
import Derived.WalkMore
import Derived.Deep.LoopGhost
import Derived.Shelf.Strings.BuilderF
import Derived.Test.YtnncmdpopgkibaaGreatDoorProg
import Derived.WalkKit
import Derived.WalkLawsBesides
import Derived.WalkSpells
import Derived.Lib.ConvBytes
import Derived.Shelf.Abstract
import Derived.Deep.RegionWith
import Derived.Deep.Light
import Derived.Deep.QuietTactic
import Derived.BigQuiet
import Derived.Laws.Runes
import Derived.Shelf.RegionOpen
import Derived.OwnWalkIn
import Derived.TacticsInMore
import Derived.LoopNIn
import Derived.LoopIn
import Derived.Deep.Onto
import Derived.OrdersIn
import Derived.TacticsIn
import Derived.Laws.CopyOwn
import Derived.Laws.MakeOwn
import Derived.Laws.OwnMore
import Derived.MapKept
import Derived.Carry
import Derived.Lib.OthersKept
import Derived.Recover
set_option maxRecDepth 100000
set_option maxHeartbeats 40000000
set_option linter.unusedSimpArgs false
set_option linter.unusedVariables false
namespace Go.Proofs.YtnncmdpopgkibaaGreatDoor
section
open Go.RowKit Lode Go.Shelf
attribute [local go_sem ↓] Go.wp_at_zero Go.wp_at_succ
open Go.Proofs.Tryz
theorem zm8(v:Value)(l:List Int)(w:World)(h:KSo w v l)(hn:l.length<=1000000):
 Calls prog 56 #[v] w fun e w'=>∃v',e=.returned v'/\w'.ownsRow w.heap.size 3 1 v' l.length (yZ l)/\Below w.heap.size w w':=by
 have hA:=zf w (.cells #[] 3 (0,0));have hU:=zi (h.below hA);have hO:=zi (zba w [] (by decide));have hb:=zi (show w.heap.size<=(w.alloc (.cells #[] 3 (0,0))).heap.size from hA.size);have HA:=zi hA;have hn0:=zi hn;obtain⟨p,c,rfl,h0⟩:=h;have hnl:∀W:World,(binOp .eql 24 (.slice p l.length c) (.slice none 0 0)).run prog W=.ok (.bool p.isNone) W:=fun W=>by
  simp only[binOp];simp[run_equal_slice_nil W 24 3 p l.length c underlying24]
 cases p with
 |none=>
  obtain rfl:l=[]:=h0.resolve_right fun ⟨_,_,e,_⟩=>(by cases e)
  simp only[pR,Option.isNone_none] at hnl ⊢;clear hA hU hO h0 hn0 hn;go_enter func56,ntmps56;go_wp2;go_ret;exact⟨_,rfl,uE w _ rfl,pF _ _⟩
 |some ad=>
  clear hA h0;go_enter func56,ntmps56;go_wp2_with (at_builtin;refine Xs rfl _ _ rfl rfl hO.out rfl hU.out hn0.out hb.out ?_);intro p cp w1 hK1 hB1;have HK1:=zi hK1;clear hK1;go_wp2;go_ret;exact⟨_,rfl,HK1.out,HA.out.trans (hB1.mono (pE _))⟩
theorem zkx:∀(l:List Nd) (kv:List Value) (l2:List Nd) (kv2:List Value),kv.length=l.length->jg (l ++ l2) (kv ++ kv2)=jg l kv ++ jg l2 kv2
 |[],[],_,_,_=>by simp[jg]
 |[],_ :: _,_,_,h=>by simp at h
 |_ :: _,[],_,_,h=>by simp at h
 |a :: l,b :: kv,l2,kv2,h=>by
  show jS a b ++ jg (l ++ l2) (kv ++ kv2)=(jS a b ++ jg l kv) ++ jg l2 kv2
  rw[zkx l kv l2 kv2 (by simpa using h),wS]
theorem zjS.cells{w:World}{B g n c:Nat}{ls:List Nd}{kv:List Value}(h:zjS w B (.slice (some ⟨g,0,none⟩) n c) ls kv)(j:Nat)(z:Value)(hz:(jg ls kv)[j]? =some z):w.cell? ⟨g,j,none⟩=some z:=by
 obtain⟨_,⟨hv,_⟩|⟨g',cap,cur,hv,_,hg,_,_,_,ht⟩⟩:=h.n
 ·cases hv
 ·cases hv;rw[zd hg j];rw[<-ht,List.getElem?_take] at hz;split at hz
  ·rwa [Array.getElem?_toList] at hz
  ·cases hz
theorem zmW{w:World}{o:Oper}{a:Act}{K:Act->World->Prop}{X:Exit->Act->World->Prop}(s x:Operand)
 (ho:o.op=.call {callee:=.builtin .append,args:= #[s,x],argTypes:= #[23,23]})
 {base b2 g n g2 m:Nat} {l l2:List Nd} {kv kv2:List Value} (hs:a.eval s=.slice (some ⟨g,0,none⟩) n n) (h1:zjS w base (.slice (some ⟨g,0,none⟩) n n) l kv) (hx:a.eval x=.slice (some ⟨g2,0,none⟩) m m) (h2:zjS w b2 (.slice (some ⟨g2,0,none⟩) m m) l2 kv2) (hl:l.length=n) (hl2:l2.length=m) (hn:n+m<=1000000) (hbase:base<=w.heap.size)
 (h:∀v' w',zjS w' base v' (l ++ l2) (kv ++ kv2)->Below w.heap.size w w'->K (a.put o.dst v') w'):o.wp prog a w K X:=by
 obtain⟨i0,hi,hz0,hz1,hz2⟩:=info_parts Tryz.infoNode;by_cases h0:m=0
 ·subst h0;obtain rfl:l2=[]:=pM hl2;obtain rfl:kv2=[]:=pM (by rw[h2.l];rfl);have hS:Src prog i0.size 23 (.slice (some ⟨g2,0,none⟩) 0 0) 0 [] w:=Src.ofSlice w underlying23 _ 0 0 [] (by simp) (fun j u h=>by cases h) (fun u h=>by cases h);have hr:=run_append_nothing w 23 23 o.type 45 i0 underlying23 hi (some ⟨g,0,none⟩) n n (pE _) _ hS;unfold Oper.wp;simp[execOp,ho,resolve,invoke,builtin,hs,hx,hr,Result.andThen];exact h _ w (by rw[wN,wN];exact h1) bR
 ·have e1:∀(g j:Nat),(⟨g,0,none⟩:Addr).add j=⟨g,j,none⟩:=fun g j=>by unfold Addr.add;split <;> simp_all
  obtain⟨v',w',hr,hrow,hgr⟩:=run_append_arg_grows (P:=prog) w 23 o.type 45 i0 _ 5 64 underlying23 hi hz0 hz1 hz2 rfl (by decide) ⟨g,0,none⟩ n n (jg l kv) (by rw[zcN l kv h1.l,hl]) (fun j z hz=>by rw[e1];exact h1.cells j z hz) ⟨g2,0,none⟩ m m (jg l2 kv2) (by rw[zcN l2 kv2 h2.l,hl2]) (fun j z hz=>by rw[e1];exact h2.cells j z hz) (by omega) (by unfold maxLen;omega) (by omega);have hB:Below w.heap.size w w':=(pF w.heap.size w).grown hgr (pE _) (fun k hk=>by cases hk);have hO:zjS w' base v' (l ++ l2) (kv ++ kv2):=by
   refine⟨?_,by simp[h1.l,h2.l],fun j y z hy hz=>?_⟩
   ·rw[pC,hl,hl2,zkx l kv l2 kv2 h1.l];refine⟨hrow.1,hrow.2.imp id ?_⟩;rintro ⟨g,cap,cur,e1,e2,e3⟩;exact⟨g,cap,cur,e1,pN hbase e2,e3⟩
   rcases Nat.lt_or_ge j kv.length with hk|hk
   ·rw[wQ hk] at hz;rw[wQ (by rw[<-h1.l];exact hk)] at hy;exact (h1.k j y z hy hz).below hB
   ·rw[wM hk] at hz;rw[wM (by rw[<-h1.l];exact hk),<-h1.l] at hy;exact (h2.k _ y z hy hz).below hB
  unfold Oper.wp;simp[execOp,ho,resolve,invoke,builtin,hs,hx,hr,Result.andThen];exact h v' w' hO hB
theorem zjS.below{w w':World}{B:Nat}{v:Value}{l:List Nd}{kv:List Value}(h:zjS w B v l kv)(hb:Below w.heap.size w w'):zjS w' B v l kv:=⟨zu h.n hb,h.l,fun j x u hx hu=>(h.k j x u hx hu).below hb⟩
theorem zjS.mono{w:World}{B B':Nat}{v:Value}{l:List Nd}{kv:List Value}(h:zjS w B v l kv)(hB:B'<=B):zjS w B' v l kv:=by
 refine⟨⟨h.n.1,h.n.2.imp id ?_⟩,h.l,h.k⟩;rintro ⟨g,cap,cur,e1,e2,e3⟩;exact⟨g,cap,cur,e1,pN hB e2,e3⟩
theorem zmC(a b:yo):(zej a b≠0/\zlV a b=(⟨[],[]⟩,zej a b))\/(zej a b=0/\zR a=0/\zR b=0/\zlV a b=if 1000<a.nodes.length+b.nodes.length\/40<a.items.length+b.items.length then (⟨[],[]⟩,5) else (zey a b,0)):=by
 unfold zlV zej;by_cases h:zR a=0
 ·by_cases h2:zR b=0
  ·right;simp[h,h2]
  ·left;simp[h,h2]
 ·left;simp[h]
theorem zno(a b:yo)(nv iv nv2 iv2:Value)(w:World)(ha:TR w nv iv a)(hb:TR w nv2 iv2 b)(hG:qH w)(oka:Zo a)(okb:Zo b)(hka:∀x∈a.nodes,x.kids.length<=1000)(hkb:∀x∈b.nodes,x.kids.length<=1000):
 Calls prog 25 #[.agg #[nv,iv],.agg #[nv2,iv2]] w (znt w (zlV a b)):=by
 have hCk:=zi (fun (p:Nat) W (hW:Below w.heap.size w W) (hp:W.heap[p]? =some (.cells #[nv,iv,nv2,iv2] 26 (0,0)))=>zep a b nv iv nv2 iv2 p W hp (ha.below hW) (hb.below hW) (hG.later hW) oka okb);have hcs:=zmC a b;have hba:=zi (fun (h:zR a=0)=>ziS (t:=a) (by rw[<-zc9 a hka];exact h));have hbb:=zi (fun (h:zR b=0)=>ziS (t:=b) (by rw[<-zc9 b hkb];exact h));have hMa:=zi (fun (hd:∀x∈a.nodes,∀k∈x.kids,I64 (k+0)) W (hW:Below w.heap.size w W)=>zkh a.nodes nv 0 W (ha.o.nodes.below hW) hd oka.nodes (fun x hx=>by have:=hka x hx;omega));have hMb:=zi (fun (d:Int) (hd:∀x∈b.nodes,∀k∈x.kids,I64 (k+d)) W (hW:Below w.heap.size w W)=>zkh b.nodes nv2 d W (hb.o.nodes.below hW) hd okb.nodes (fun x hx=>by have:=hkb x hx;omega));have hCl:=zi (fun W (hW:Below w.heap.size w W)=>zm8 iv a.items W (ha.o.items.below hW) (by have:=oka.items;omega));have Hb:=zi hb.o;obtain⟨np,nc,ip,ic,rfl,rfl⟩:=ha.form;obtain⟨np2,nc2,ip2,ic2,rfl,rfl⟩:=hb.form;obtain⟨n1,hn1⟩:∃n,a.nodes.length=n:=⟨_,rfl⟩;obtain⟨m1,hm1⟩:∃n,a.items.length=n:=⟨_,rfl⟩;obtain⟨n2,hn2⟩:∃n,b.nodes.length=n:=⟨_,rfl⟩;obtain⟨m2,hm2⟩:∃n,b.items.length=n:=⟨_,rfl⟩;rw[hn1,hm1,hn2,hm2] at hCk hcs;rw[hn1] at hMa;rw[hn2] at hMb;rw[hm1] at hCl;rw[hn2,hm2] at Hb;rw[hn1,hm1] at hba;rw[hn2,hm2] at hbb;simp only[hn1,hm1,hn2,hm2];generalize zlV a b=r at *;generalize zej a b=er at *;have h0:=zJ [.cells #[.slice np n1 nc,.slice ip m1 ic] 26 (0,0),.cells #[.slice np2 n2 nc2,.slice ip2 m2 ic2] 26 (0,0),.cells #[.slice none 0 0,.slice none 0 0] 26 (0,0),.cells #[.slice np n1 nc,.slice ip m1 ic,.slice np2 n2 nc2,.slice ip2 m2 ic2] 26 (0,0)] w;have hAl:Below w.heap.size w _:=zX [.cells #[.slice np n1 nc,.slice ip m1 ic] 26 (0,0),.cells #[.slice np2 n2 nc2,.slice ip2 m2 ic2] 26 (0,0),.cells #[.slice none 0 0,.slice none 0 0] 26 (0,0),.cells #[.slice np n1 nc,.slice ip m1 ic,.slice np2 n2 nc2,.slice ip2 m2 ic2] 26 (0,0)] w;have hsz:=zdc [.cells #[.slice np n1 nc,.slice ip m1 ic] 26 (0,0),.cells #[.slice np2 n2 nc2,.slice ip2 m2 ic2] 26 (0,0),.cells #[.slice none 0 0,.slice none 0 0] 26 (0,0),.cells #[.slice np n1 nc,.slice ip m1 ic,.slice np2 n2 nc2,.slice ip2 m2 ic2] 26 (0,0)] w;have h00:=zJ [.cells #[.slice np n1 nc,.slice ip m1 ic] 26 (0,0),.cells #[.slice np2 n2 nc2,.slice ip2 m2 ic2] 26 (0,0),.cells #[.slice none 0 0,.slice none 0 0] 26 (0,0)] w;simp only[List.foldl_cons,List.foldl_nil,pK,pR] at hAl h0 h00 hsz;have s0:=h00 0 _ rfl;have s1:=h00 1 _ rfl;have r0:=h0 0 _ rfl;rw[Nat.add_zero] at r0 s0;have r1:=h0 1 _ rfl;have r2:=h0 2 _ rfl;have r3:=h0 3 _ rfl;have c0:=zd s0 0;have c1:=zd s0 1;have d0:=zd s1 0;have d1:=zd s1 1;have R0:=zi r0;have R1:=zi r1;have R2:=zi r2;have R3:=zi r3;have HAl:=zi hAl;have Hsz:=zi hsz;have Hn1:=zi hn1;have Hm1:=zi hm1;have Hn2:=zi hn2;have Hm2:=zi hm2;clear h0 h00 hAl hsz r0 r1 r2 r3 s0 s1 ha hb hG hn1 hm1 hn2 hm2 oka okb hka hkb;go_enter func25,ntmps25;go_wp2_with fail;refine (hCk.out _ _ HAl.out R3.out).mono ?_;rintro e w1 ⟨rfl,hb1⟩;have R0:=zi (zh hb1 R0.out);have R1:=zi (zh hb1 R1.out);have R2:=zi (zh hb1 R2.out);have Hsz1:=zi (pN (Nat.le_of_eq Hsz.out.symm) hb1.size);have hbe:=zg HAl.out hb1;clear c0 c1 d0 d1 hb1 R3 HAl;have ret0:∀(W:World) (x:Nat),Below w.heap.size w W->W.heap[w.heap.size+2]? =some (.cells #[.slice none 0 0,.slice none 0 0] 26 (0,0))->znt w (⟨[],[]⟩,x) (.returned (.tuple #[.agg #[.slice none 0 0,.slice none 0 0],.int .i64 x])) ((W.setCell ⟨w.heap.size+2,0,none⟩ (.slice none 0 0)).setCell ⟨w.heap.size+2,1,none⟩ (.slice none 0 0)):=fun W x hW h=>⟨hW.trans ((jG h _ _).2 _ (by omega)),_,_,rfl,TR.nil _⟩
 replace ret0:=zi ret0;have z0:=zd R2.out 0;have z1:=zd R2.out 1;have f0:=zl R2.out 0;have f1:=zl R2.out 1;rcases hcs with⟨he,rfl⟩|⟨he,h1,h2,rfl⟩
 ·have he':((er:Int) != 0)=true:=by rw[wT];omega
  go_wp2_with fail;obtain⟨q1,_⟩:=jG R2.out (.slice none 0 0) (.slice none 0 0);refine bodyPost_ret (v:=.tuple #[.agg #[.slice none 0 0,.slice none 0 0],.int .i64 er]) (by simp[results,results25,go_sem,zd q1]) rfl (ret0.out _ er hbe R2.out)
 ·subst he;obtain⟨ba1,ba2,ba3,ba4⟩:=hba.out h1;obtain⟨bb1,bb2,bb3,bb4⟩:=hbb.out h2;have ba3:=zi ba3;have bb3:=zi bb3;have bb4:=zi bb4;clear ba4 h1 h2 hba hbb;have c0:=zd R0.out 0;have c1:=zd R0.out 1;have d0:=zd R1.out 0;have d1:=zd R1.out 1;have wn:=pJ ((n1:Int)+(n2:Int)) (by omega);have wm:=pJ ((m1:Int)+(m2:Int)) (by omega);by_cases h1000:1000<n1+n2
  ·have hq:((1000:Int)<(n1:Int)+(n2:Int)):=by omega
   rw[if_pos (.inl h1000)];go_wp2_with fail;obtain⟨q1,_⟩:=jG R2.out (.slice none 0 0) (.slice none 0 0);refine bodyPost_ret (v:=.tuple #[.agg #[.slice none 0 0,.slice none 0 0],.int .i64 (5:Nat)]) (by simp[results,results25,go_sem,zd q1]) rfl (ret0.out _ 5 hbe R2.out)
  have hq:¬((1000:Int)<(n1:Int)+(n2:Int)):=by omega
  by_cases h40:40<m1+m2
  ·have hq2:((40:Int)<(m1:Int)+(m2:Int)):=by omega
   rw[if_pos (.inr h40)];go_wp2_with fail;obtain⟨q1,_⟩:=jG R2.out (.slice none 0 0) (.slice none 0 0);refine bodyPost_ret (v:=.tuple #[.agg #[.slice none 0 0,.slice none 0 0],.int .i64 (5:Nat)]) (by simp[results,results25,go_sem,zd q1]) rfl (ret0.out _ 5 hbe R2.out)
  have hq2:¬((40:Int)<(m1:Int)+(m2:Int)):=by omega
  rw[if_neg (by omega)];have hS:∀V,Cl w1.drew V->(V.cell? ⟨w.heap.size,0,none⟩=some (.slice np n1 nc)/\V.cell? ⟨w.heap.size,1,none⟩=some (.slice ip m1 ic)/\V.cell? ⟨w.heap.size+1,0,none⟩=some (.slice np2 n2 nc2)):=fun V h=>
   ⟨zj (w:=w1.drew) h.below (zd R0.out 0),zj (w:=w1.drew) h.below (zd R0.out 1),zj (w:=w1.drew) h.below (zd R1.out 0)⟩
  have hbd:Below w.heap.size w w1.drew:=zg hbe (pF _ w1).drew;have hs1:w.heap.size+3<=w1.heap.size:=by have:=Hsz1.out;omega
  go_wp2_with fail;clear z0 z1 f0 f1 c0 c1 d0 d1;refine LodeX.znB [(0,0),(1,1),(3,0),(4,1),(5,0),(8,0),(9,1),(2,2),(6,2),(7,2),(10,2),(11,0)] [12] [(13,3)] (fun _=>.cells #[.slice none 0 0,.slice none 0 0] 26 (0,0)) (fun _=>some 8) ?_ (fun j hj=> ?hZ) ?hd
  case hZ=>
   obtain rfl:=wL.1 hj;exact⟨⟨_,rfl,rfl,fun _=>rfl,fun a w=>by go_simp⟩⟩
  case hd=>exact fun i hi j hj hne=>absurd ((wL.1 hi).trans (wL.1 hj).symm) hne
  refine goM ?_;clear hS;refine zZ rfl rfl (fun K hK V hV=>?_);have hsV:w1.heap.size<=V.heap.size:=hV.below.size;have hbV:=zg hbd hV.below;have hcV:=hV.below;go_simp;refine (hMa.out (fun x hx k hk=>zmT (ba3.out x hx k hk) (by omega)) V hbV).mono ?_;rintro e w3 ⟨g3,rfl,⟨kv3,O3⟩,B3⟩;refine⟨ux.2 B3,hK _ _ ?_⟩;clear hK K;have hb3:=zg hcV B3;have O3:=O3.mono (B':=w.heap.size+3) (by omega)
  try simp only[Act.put,yG,yE,yF]
  refine zZ rfl rfl (fun K hK V4 hV4=>?_);have hb4:=zg hb3 hV4.below;have O3:=O3.below hV4.below;go_simp;refine (hMb.out n1 (fun x hx k hk=>zmT (bb3.out x hx k hk) (by omega)) V4 (zg hbd hb4)).mono ?_;rintro e w4 ⟨g4,rfl,⟨kv4,O4⟩,B4⟩;refine⟨ux.2 B4,hK _ _ ?_⟩;clear hK K;have hb4:=zg hb4 B4;have O3:=O3.below B4
  try simp only[Act.put,yG,yE,yF]
  refine zZ rfl rfl (fun K hK V5 hV5=>?_);have hb5:=zg hb4 hV5.below;have hs5:w1.heap.size<=V5.heap.size:=hb5.size;have O3:=O3.below hV5.below;have O4:=O4.below hV5.below;refine zmW _ _ rfl (by rfl) O3 (by rfl) O4 (by unfold zbP;rw[wV];exact Hn1.out) (by unfold zbP;rw[wV];exact Hn2.out) (by omega) (by omega) ?_;intro v5 w5 O5 B5;refine⟨ux.2 B5,hK _ _ ?_⟩;clear hK K;have hb5:=zg hb5 B5
  try simp only[Act.put,yG,yE,yF]
  refine zZ rfl rfl (fun K hK V6 hV6=>?_);have hb6:=zg hb5 hV6.below;have O5:=O5.below hV6.below;have hs6:w1.heap.size<=V6.heap.size:=hb6.size;go_simp;refine (hCl.out V6 (zg hbd hb6)).mono ?_;rintro e w6 ⟨v6,rfl,O6,B6⟩;refine⟨ux.2 B6,hK _ _ ?_⟩;clear hK K;have hb6:=zg hb6 B6;have OT:zeA w6 (w.heap.size+3) v5 v6 (jn2 a b 0) (kv3 ++ kv4):=by
   have e1:(jn2 a b 0).nodes=zbP a.nodes 0 ++ zbP b.nodes n1:=by simp[jn2,zkH,Hn1.out]
   have e2:(jn2 a b 0).items=a.items:=by simp[jn2]
   have O5m:=O5.below B6;refine⟨by rw[e1];exact O5m.n,by rw[e1];exact O5m.l,by rw[e1];exact O5m.k,?_,fun u hu g hg e=>?_⟩
   ·rw[e2];refine⟨by rw[Hm1.out];exact O6.1,O6.2.imp (fun h=>by rw[Hm1.out];exact h) ?_⟩;rintro ⟨g,cap,cur,h1,h2,h3⟩;exact⟨g,cap,cur,by rw[Hm1.out];exact h1,by omega,by rw[Hm1.out];exact h3⟩
   ·obtain⟨j,hj,rfl⟩:=List.getElem_of_mem hu;have h1:=(O5.k j _ _ (glE (by rw[<-O5.l];exact hj)) (glE hj)).blk hg;have h2:=(O6.lt g e).1;omega
  obtain⟨p5,c5,q5,e5,hv5,hv6⟩:=OT.tr.form;subst hv5 hv6;clear O3 O4 O5 O6 B3 B4 B5 B6 hb3 hb4 hb5
  try simp only[Act.put,yG,yE,yF]
  refine goM ?_;refine zC fun W1 hW1=>?_
  simp only[LodeX.QFl];intro W2 ob hW2 hz hob _ W3 hW3;have hb13:=zg hW1.below (zg hW2.below hW3.below);have hb3:=zg hb6 hb13;have hz3:=zh hW3.below hz;have hob:w.heap.size+3<=ob:=pN hs1 hob;have R1:=zh (w:=w1.drew) hb3 R1.out;have R2:=zh (w:=w1.drew) hb3 R2.out;have hbe:=zg hbd hb3;have z0:=zd hz3 0;have z1:=zd hz3 1;have f0:=zl hz3 0;have f1:=zl hz3 1;have OT:=OT.below hb13
  try simp only[Act.put,yG,yE,yF]
  refine ziU rfl rfl ?_;go_simp;refine JE ?_;generalize hg5:(Value.slice p5 (jn2 a b 0).nodes.length c5)=v5 at *;generalize hg6:(Value.slice q5 (jn2 a b 0).items.length e5)=v6 at *;obtain⟨q1,q2⟩:=jG hz3 v5 v6;have O7:=(OT.setBox hz3 (by decide) (by decide) 0 v5).setBox (zr hz3 0 v5) (by decide) (by decide) 1 v6;have R1:=((q2 (w.heap.size+3) hob).block (w.heap.size+1) (by omega)).trans R1;have R2:=((q2 (w.heap.size+3) hob).block (w.heap.size+2) (by omega)).trans R2;have hbe:=hbe.trans (q2 w.heap.size (by omega));obtain⟨W,hW⟩:=exE ((W3.setCell ⟨ob,0,none⟩ v5).setCell ⟨ob,1,none⟩ v6);rw[hW] at q1 O7 R1 R2 hbe ⊢;have Hst:=zi (show znv (w.heap.size+3) ob (jn2 a b) m2 W (.int .i64 0) W from ⟨0,v5,v6,_,rfl,pU _,q1,O7,pF _ _⟩);have d1:=zd R1 1;replace R2:=zi R2;clear hW q1 q2 O7 OT hz hz3 z0 z1 f0 f1 R1 hg5 hg6 hb13 hb3 hb6 hbd hbV hcV hV hW1 hW2 hW3 R0;go_wp2;go_loopw [54] (znv (w.heap.size+3) ob (jn2 a b) m2 W) (fun i _=>m2-(intOf i).toNat)
  case atStart=>exact Hst.out
  case round=>
   obtain⟨j,nv,iv,kv,rfl,hj,hbox,hO,hf⟩:=hrel;have hlt1:ob<wr.heap.size:=(gtA hbox);clear d1;by_cases hlt:j<m2
   ·have hlt':(j:Int)<(m2:Int):=by omega
    have hj0:¬((j:Int)<0):=by omega
    have hy:=pJ ((j:Int)+1) (by omega);have hjl:j<b.items.length:=by rw[Hm2.out];exact hlt
    obtain⟨g2,off2,rfl,k0⟩:=Hb.out.items.at hjl;have k0:=zj (hbe.trans (hf.mono (by omega))) k0;have hzb:=bb4.out (b.items.getD j 0) (by rw[pA,glE hjl];exact wC hjl);have hstep:=znk a b hjl;have hTn:=znr a b (j:=j) (by rw[Hm2.out];exact hj);rw[Hn1.out] at hstep;rw[Hm1.out] at hTn;generalize b.items.getD j 0=z at *;have hwr:=pJ (z+(n1:Int)) (by omega);obtain⟨T,hT⟩:=exE (jn2 a b j);rw[hT] at hstep hO hTn;have hTb:T.items.length<=100000:=by omega
    have Hstep:=zi hstep;clear hT hstep hTn;have o1:=zd hbox 1;have hba:=zf wr (.cells #[.int .i64 (z+(n1:Int))] 3 (0,0));have O3b:=zi (hO.below hba);have hbox3b:=zi (zh hba hbox);have Hf:=zi (hf.trans (hba.mono (by omega)));clear hO hbox hf hba;go_wp2_with (at_builtin;refine xC rfl _ _ rfl rfl O3b.out.i rfl (zd (zk wr _) 0) rfl rfl (by omega) (by simp;omega) ?_);intro g' cap' w4 hrow hgrow hg';have O4:=O3b.out.addItem hrow hgrow (hg'.elim (fun h=>.inl h.symm) (fun h=>.inr (fun g e=>by
     simp only[Value.ownBlock,pQ] at e;simp at h ⊢;omega)))
    have hbox4:w4.heap[ob]? =_:=(hgrow.block ob (by simp;omega) (fun e=>za9 O3b.out.i hbox3b.out (by decide) e.symm)).trans hbox3b.out;have hf4:=Hf.out.trans ((pF (w.heap.size+3) (wr.alloc (.cells #[.int .i64 (z+(n1:Int))] 3 (0,0)))).grown hgrow (by simp;omega) (fun k hk=>(O3b.out.i.lt k hk).1));have d1:=zd hbox4 1;have e1:=zl hbox4 1;have HF:=zi (And.intro hbox4 (And.intro O4 hf4));clear hrow hgrow hg' O3b O4 Hf hf4 hbox3b hbox4 k0 o1;go_wp2;go_roundw
    case rel=>exact⟨j+1,_,_,_,by go_num,by omega,zr HF.out.1 1 _,by rw[Hstep.out];exact HF.out.2.1.setBox HF.out.1 (by decide) (by decide) 1 _,HF.out.2.2.setCell (by omega) _⟩
    case measure=>simp[intOf];omega
   ·have hlt':¬((j:Int)<(m2:Int)):=by omega
    have hjm:j=m2:=by omega
    have hTj:jn2 a b j=zey a b:=by rw[hjm,<-Hm2.out];exact zns a b
    rw[hTj] at hO;obtain⟨p7,c7,q7,e7,rfl,rfl⟩:=hO.tr.form;have o0:=zd hbox 0;have o1:=zd hbox 1;have R2r:=(hf.block (w.heap.size+2) (by omega)).trans R2.out;have z0:=zd R2r 0;have z1:=zd R2r 1;have f0:=zl R2r 0;have f1:=zl R2r 1;have hbf:=hbe.trans (hf.mono (by omega));have HF:=zi (And.intro R2r (And.intro hO hbf));generalize (zey a b).nodes.length=n9 at *;generalize (zey a b).items.length=m9 at *;clear R2r hO hbf hf hbox;go_wp2_with fail;obtain⟨q1,q2⟩:=jG HF.out.1 (.slice p7 n9 c7) (.slice q7 m9 e7);refine bodyPost_ret (v:=.tuple #[.agg #[.slice p7 n9 c7,.slice q7 m9 e7],.int .i64 (0:Nat)]) (by simp[results,results25,go_sem,zd q1]) rfl ?_;exact⟨HF.out.2.2.trans (q2 w.heap.size (by omega)),_,_,rfl,((HF.out.2.1.setBox HF.out.1 (by decide) (by decide) 0 _).setBox (zr HF.out.1 0 _) (by decide) (by decide) 1 _).tr⟩
end
end Go.Proofs.YtnncmdpopgkibaaGreatDoor
namespace Lode
theorem zm7{t:yo}(h:Qv t=0){j:Nat}(hj:j<t.items.length):∃f z:Nat,zew t j=f/\t.items.getD j 0=z/\f<=z/\z<t.nodes.length:=by
 obtain⟨hF,_,hI⟩:=zmR h;have hm:t.items.getD j 0∈t.items:=by
  rw[pA,glE hj];exact wC hj
 obtain⟨h0,h1⟩:=hI _ hm;have he:=znm h (item:=j) ⟨by omega,by omega⟩;unfold zmP at he;rw[wE] at he;generalize t.items.getD j 0=z at *;obtain⟨z,rfl⟩:=pP h0;rw[wE] at he;obtain⟨p,_,hp,hlt⟩:=qF hF (show z<t.nodes.length by omega);have hle:=zkq hF z (by omega);exact⟨(zew t j).toNat,z,by omega,rfl,by omega,by omega⟩
end Lode
namespace Go.Proofs.YtnncmdpopgkibaaGreatDoor
section
open Go.RowKit Lode Go.Shelf
attribute [local go_sem ↓] Go.wp_at_zero Go.wp_at_succ
open Go.Proofs.Tryz
theorem NSo.cut{w:World}{g off n cap:Nat}{l:List Nd}(h:NSo w (.slice (some ⟨g,off,none⟩) n cap) l)(f m cap':Nat)(hm:f+m<=l.length):NSo w (.slice (some ⟨g,off+f*5,none⟩) m cap') ((l.drop f).take m):=by
 obtain⟨p,c,hv,h⟩:=h;cases hv;refine⟨_,cap',by rw[wU,wW,Nat.min_eq_left (by omega)],?_⟩;rcases h with rfl|⟨g',off',hp,hc⟩
 ·exact .inl (by simp)
 ·cases hp;refine .inr ⟨g,off+f*5,rfl,fun j x hx=>?_⟩;rw[List.getElem?_take] at hx;split at hx
  ·rw[List.getElem?_drop] at hx;obtain⟨u,hu⟩:=hc _ x hx;exact⟨u,by rw[show off+f*5+j*5=off+(f+j)*5 by omega];exact hu⟩
  ·cases hx
theorem znu(t:yo)(nv iv:Value)(item:Int)(w:World)(hT:TR w nv iv t)(hG:qH w)(hok:Zo t)(hk:∀x∈t.nodes,x.kids.length<=1000)(hcap:∀p n c,nv=.slice p n c->n<=c):
 Calls prog 24 #[.agg #[nv,iv],.int .i64 item] w (znt w (znn t item)):=by
 have hCk:=zi (fun W (hW:Below w.heap.size w W)=>ub t nv iv W (hT.below hW) (hG.later hW) hok);have hcr:=zi (fun (h:zR t=0) (j:Nat) hj=>zm7 (t:=t) (by rw[<-zc9 t hk];exact h) (j:=j) hj);have hba:=zi (fun (h:zR t=0)=>ziS (t:=t) (by rw[<-zc9 t hk];exact h));have HT:=zi hT.o;have Hk:=zi hk;obtain⟨np,nc,ip,ic,rfl,rfl⟩:=hT.form;have hnc:=hcap _ _ _ rfl;obtain⟨n1,hn1⟩:∃n,t.nodes.length=n:=⟨_,rfl⟩;obtain⟨m1,hm1⟩:∃n,t.items.length=n:=⟨_,rfl⟩;obtain⟨r,hr⟩:=exE (znn t item);rw[hr];unfold znn at hr;rw[hn1,hm1] at hCk HT hba;rw[hm1] at hr hcr;rw[hn1] at hcr hnc;rw[hn1,hm1];have h0:=zJ [.cells #[.slice np n1 nc,.slice ip m1 ic] 26 (0,0),.cells #[.slice none 0 0,.slice none 0 0] 26 (0,0)] w;have hAl:Below w.heap.size w _:=zX [.cells #[.slice np n1 nc,.slice ip m1 ic] 26 (0,0),.cells #[.slice none 0 0,.slice none 0 0] 26 (0,0)] w;simp only[List.foldl_cons,List.foldl_nil,pK,pR] at hAl h0;have r0:=h0 0 _ rfl;rw[Nat.add_zero] at r0;have r1:=h0 1 _ rfl;have c0:=zd r0 0;have c1:=zd r0 1;have R0:=zi r0;have R1:=zi r1;have HAl:=zi hAl;have Hr:=zi hr;have Hn1:=zi hn1;have Hm1:=zi hm1;generalize zR t=ck at *;clear h0 hAl r0 r1 hT hG hok hk hcap hn1 hm1 hr;go_enter func24,ntmps24;go_wp2_with fail;refine (hCk.out _ HAl.out).mono ?_;rintro e w1 ⟨rfl,hb1⟩;have r0:=zh hb1 R0.out;have S1:=zi (zh hb1 R1.out);have hbe:=zi (zg HAl.out hb1);have ret0:∀(W:World) (x:Nat),Below w.heap.size w W->W.heap[w.heap.size+1]? =some (.cells #[.slice none 0 0,.slice none 0 0] 26 (0,0))->znt w (⟨[],[]⟩,x) (.returned (.tuple #[.agg #[.slice none 0 0,.slice none 0 0],.int .i64 x])) ((W.setCell ⟨w.heap.size+1,0,none⟩ (.slice none 0 0)).setCell ⟨w.heap.size+1,1,none⟩ (.slice none 0 0)):=fun W x hW h=>⟨hW.trans ((jG h _ _).2 _ (by omega)),_,_,rfl,TR.nil _⟩
 replace ret0:=zi ret0;have c0:=zd r0 0;have c1:=zd r0 1;have z0:=zd S1.out 0;have z1:=zd S1.out 1;have f0:=zl S1.out 0;have f1:=zl S1.out 1;have hr:=Hr.out;clear hb1 R0 HAl hCk Hr R1;by_cases hck:ck=0
 ·rw[if_neg (by simp[hck])] at hr;by_cases hi0:item<0
  ·rw[if_pos (.inl hi0)] at hr;subst hr;rw[hck];go_wp2_with fail;obtain⟨q1,_⟩:=jG S1.out (.slice none 0 0) (.slice none 0 0);exact bodyPost_ret (v:=.tuple #[.agg #[.slice none 0 0,.slice none 0 0],.int .i64 (7:Nat)]) (by simp[results,results24,go_sem,zd q1]) rfl (ret0.out _ 7 hbe.out S1.out)
  by_cases hi1:(m1:Int)<=item
  ·rw[if_pos (.inr hi1)] at hr;subst hr;rw[hck];go_wp2_with fail;obtain⟨q1,_⟩:=jG S1.out (.slice none 0 0) (.slice none 0 0);exact bodyPost_ret (v:=.tuple #[.agg #[.slice none 0 0,.slice none 0 0],.int .i64 (7:Nat)]) (by simp[results,results24,go_sem,zd q1]) rfl (ret0.out _ 7 hbe.out S1.out)
  rw[if_neg (by omega)] at hr;obtain⟨j,rfl⟩:=pP (show 0<=item by omega);obtain⟨f,z,hf,hz,hfz,hzn⟩:=hcr.out hck j (by omega);obtain⟨ba1,ba2,ba3,ba4⟩:=hba.out hck;rw[hf,wE,hz] at hr;replace hr:=zi hr;replace ba3:=zi ba3;rw[hck];clear hck hba hcr ba4;have hlt:j<m1:=by omega
  have hlt':(j:Int)<(m1:Int):=by omega
  have hjn:¬((j:Int)<0):=by omega
  have hjm:¬((m1:Int)<=(j:Int)):=by omega
  obtain⟨g1,o1,rfl,hc⟩:=HT.out.items.at (j:=j) (by rw[Hm1.out];exact hlt);rw[hz] at hc;obtain⟨x,hx⟩:∃x,t.nodes[z]? =some x:=⟨_,glE (by rw[Hn1.out];exact hzn)⟩;obtain⟨gN,oN,u,rfl,_⟩:=HT.out.nodes.at hx;clear hx;have hM:=zi (fun W (hW:Below w.heap.size w W)=>zkh ((t.nodes.drop f).take (z+1-f)) (.slice (some ⟨gN,oN+f*5,none⟩) (z+1-f) (nc-f)) (-(f:Int)) W ((HT.out.nodes.cut f (z+1-f) (nc-f) (by rw[Hn1.out];omega)).below hW)
   (fun x hx k hk=>by have:=ba3.out x (List.mem_of_mem_drop (List.mem_of_mem_take hx)) k hk;unfold I64;omega) (by rw[wU,wW];omega) (fun x hx=>by have:=Hk.out x (List.mem_of_mem_drop (List.mem_of_mem_take hx));omega))
  have hll:((t.nodes.drop f).take (z+1-f)).length=z+1-f:=by rw[wU,wW,Hn1.out];omega
  rw[hll] at hM;have hcut:=zi (show zez t f z=⟨zbP ((t.nodes.drop f).take (z+1-f)) (-(f:Int)),[(z:Int)-(f:Int)]⟩ from by unfold zez;rw[wE,show ((z:Int)+1-(f:Int)).toNat=z+1-f by omega]);have w1z:IntKind.i64.wrap ((z:Int)+1)=((z+1:Nat):Int):=by rw[pJ _ ⟨by omega,by omega⟩];omega
  have wzf:=pJ ((z:Int)-(f:Int)) (by omega);have wnf:IntKind.i64.wrap (-(f:Int))= -(f:Int):=pJ _ ⟨by omega,by omega⟩;have k1:¬((f:Int)<0):=by omega
  have k2:¬(((z+1:Nat):Int)<(f:Int)):=by omega
  have k3:¬((nc:Int)<((z+1:Nat):Int)):=by omega
  have k4:¬(nc=f):=by omega
  have hc:=zj hbe.out hc;have hS:∀V,Cl w1.drew V->(V.cell? ⟨w.heap.size,1,none⟩=some (.slice (some ⟨g1,o1,none⟩) m1 ic)/\V.cell? ⟨g1,o1+j,none⟩=some (.int .i64 z)):=fun V hV=>by
   have hV:Below w1.heap.size w1 V:=bR.drew.trans hV.below;exact⟨zj hV c1,zj hV hc⟩
  have hb0:=zi ((pF w1.heap.size w1).drew);go_wp2_with fail;refine ki [(0,0),(1,1),(2,0),(3,0),(4,1),(5,0),(6,0)] ?_;refine zC fun V1 hV1=>?_
  have hb1:=zg hb0.out hV1.below;have c0:=zj hb1 c0;have c1:=zj hb1 c1;have T1:=zi (zh hb1 S1.out);have hbf:=zi (zg hbe.out hb1);clear hS hV1 hb0 hb1 z0 z1 f0 f1 S1 hbe;by_cases hj0:j=0
  ·have hf0:f=0:=by
    unfold zew at hf;rw[if_neg (by omega)] at hf;omega
   subst hj0;subst hf0;go_wp2_with fail;refine (hM.out V1 hbf.out).mono ?_;rintro e w3 ⟨g3,rfl,⟨kv3,O3⟩,B3⟩;have hba:=zf w3 (.cells #[.int .i64 ((z:Int))] 3 (0,0));have r4:=zh (zg B3 hba) T1.out;have z0:=zd r4 0;have z1:=zd r4 1;have f0:=zl r4 0;have f1:=zl r4 1;have hN3:=(za6 O3.n O3.l O3.k).below hba;have R4:=zi r4;have hI3:=KS.lit w3 [(z:Int)];have hT4:=zi (TR.mk (t:=zez t ((0:Nat):Int) z) ⟨kv3,by rw[hcut.out];exact hN3⟩ (by rw[hcut.out];first|exact hI3|simpa using hI3));have hbg:=zi (zg hbf.out (zg B3 hba));clear r4 B3 hba O3 hN3 hI3 c0 c1 hc;go_wp2_with fail;obtain⟨q1,q2⟩:=jG R4.out (.slice (some ⟨g3,0,none⟩) (z+1) (z+1)) (.slice (some ⟨w3.heap.size,0,none⟩) 1 1);refine bodyPost_ret (v:=.tuple #[.agg #[.slice (some ⟨g3,0,none⟩) (z+1) (z+1),.slice (some ⟨w3.heap.size,0,none⟩) 1 1],.int .i64 (0:Nat)]) (by simp[results,results24,go_sem,zd q1]) rfl ?_;rw[<-hr.out];exact⟨hbg.out.trans (q2 w.heap.size (by omega)),_,_,rfl,hT4.out.keepT R4.out (fun g hg=>(zt hg).trans (zt hg))⟩
  ·have hj1:(0:Int)<(j:Int):=by omega
   have hf1:t.items.getD (j-1) 0+1=(f:Int):=by
    unfold zew at hf;rw[if_pos hj1,show ((j:Int)-1).toNat=j-1 by omega] at hf;exact hf
   obtain⟨g2,o2,he2,hc2⟩:=HT.out.items.at (j:=j-1) (by rw[Hm1.out];omega);cases he2;have hc2:=zj hbf.out hc2;generalize t.items.getD (j-1) 0=y at *;have wj:IntKind.i64.wrap ((j:Int)-1)=((j-1:Nat):Int):=by rw[pJ _ ⟨by omega,by omega⟩];omega
   have wy:IntKind.i64.wrap (y+1)=(f:Int):=by rw[pJ _ ⟨by omega,by omega⟩];exact hf1
   have k5:((j-1:Nat):Int)<(m1:Int):=by omega
   have k6:¬(((j-1:Nat):Int)<0):=by omega
   have Hf1:=zi hf1;clear hf1;go_wp2_with fail;refine (hM.out V1 hbf.out).mono ?_;rintro e w3 ⟨g3,rfl,⟨kv3,O3⟩,B3⟩;have hba:=zf w3 (.cells #[.int .i64 ((z:Int)-(f:Int))] 3 (0,0));have r4:=zh (zg B3 hba) T1.out;have z0:=zd r4 0;have z1:=zd r4 1;have f0:=zl r4 0;have f1:=zl r4 1;have hN3:=(za6 O3.n O3.l O3.k).below hba;have R4:=zi r4;have hI3:=KS.lit w3 [(z:Int)-(f:Int)];have hT4:=zi (TR.mk (t:=zez t ((f:Nat):Int) z) ⟨kv3,by rw[hcut.out];exact hN3⟩ (by rw[hcut.out];first|exact hI3|simpa using hI3));have hbg:=zi (zg hbf.out (zg B3 hba));clear r4 B3 hba O3 hN3 hI3 c0 c1 hc;go_wp2_with fail;obtain⟨q1,q2⟩:=jG R4.out (.slice (some ⟨g3,0,none⟩) (z+1-f) (z+1-f)) (.slice (some ⟨w3.heap.size,0,none⟩) 1 1);refine bodyPost_ret (v:=.tuple #[.agg #[.slice (some ⟨g3,0,none⟩) (z+1-f) (z+1-f),.slice (some ⟨w3.heap.size,0,none⟩) 1 1],.int .i64 (0:Nat)]) (by simp[results,results24,go_sem,zd q1]) rfl ?_;rw[<-hr.out];exact⟨hbg.out.trans (q2 w.heap.size (by omega)),_,_,rfl,hT4.out.keepT R4.out (fun g hg=>(zt hg).trans (zt hg))⟩
 ·rw[if_pos hck] at hr;subst hr;have h0':((ck:Int) != 0)=true:=by rw[wT];omega
  go_wp2_with fail;obtain⟨q1,_⟩:=jG S1.out (.slice none 0 0) (.slice none 0 0);exact bodyPost_ret (v:=.tuple #[.agg #[.slice none 0 0,.slice none 0 0],.int .i64 (ck:Nat)]) (by simp[results,results24,go_sem,zd q1]) rfl (ret0.out _ ck hbe.out S1.out)
end
section
open Go.RowKit Lode Go.Shelf
attribute [local go_sem] Oper.semAt_some
open Go.Proofs.Tryz
theorem zmX(s:List UInt8):Go.Lib.trimSuffix (s ++ [10]) [10]=s:=by
 unfold Go.Lib.trimSuffix;rw[if_pos (by simp[Go.Lib.hasSuffix])];simp
def ItC(w:World)(l:List (Nat×Obj))(W:World):Prop:=Below w.heap.size w W/\∀x∈l,W.heap[x.1]? =some x.2
theorem ItC.own{w W W':World}{l:List (Nat×Obj)}{B:Nat}{row:Option Nat}(hB:w.heap.size<=B)(hl:∀x∈l,x.2.isCells=true)(h:ItC w l W)(hg:W.grownBy W' row)(hr:∀r,row=some r->False\/(B<=r/\∃o:Obj,W.heap[r]? =some o/\o.isCells=false)):ItC w l W':=by
 have hr2:∀r,row=some r->B<=r/\∃o:Obj,W.heap[r]? =some o/\o.isCells=false:=fun r e=>(hr r e).elim False.elim id
 refine⟨h.1.grown hg h.1.size (fun r e=>pN hB (hr2 r e).1),fun x hx=>?_⟩;have hh:=h.2 x hx;rw[hg.block x.1 (gtA hh) (fun e=>by
  obtain⟨_,o,ho,hc⟩:=hr2 _ e.symm;rw[hh] at ho;cases ho;rw[hl x hx] at hc;cases hc)]
 exact hh
theorem KpL.setX{X:Nat->Prop}{base:Nat}{W:World}{b i:Nat}{v:Value}(hb:base<=b)(hx:X b):KpL X base W (W.setCell ⟨b,i,none⟩ v):=
 ⟨(pF _ W).setCell (p:=⟨b,i,none⟩) hb v,Nat.le_of_eq (by simp),fun k o hX _ hk=>(zt (fun e=>hX (by rw[e];exact hx))).trans hk⟩
def itL(w:World)(A:Nat)(item:Int)(j:Nat):List (Nat×Obj):=[(A,.cells #[.int .i64 j] 3 (0,0)),(w.heap.size+1,.cells #[.int .i64 item] 3 (0,0)),(w.heap.size+2,.cells #[.string ⟨#[]⟩] 9 (0,0)),(w.heap.size+3,.cells #[.int .i64 0] 31 (0,0))]
def Vk(w:World)(r:List UInt8×Nat):List (Nat×Obj):=[(w.heap.size+2,.cells #[.string ⟨r.1.toArray⟩] 9 (0,0)),(w.heap.size+3,.cells #[.int .i64 (r.2:Nat)] 31 (0,0))]
theorem zmp(w:World)(A:Nat)(item:Int)(j:Nat):∀x∈itL w A item j,x.2.isCells=true:=by simp[itL,Obj.isCells]
theorem zm5(w:World)(r:List UInt8×Nat):∀x∈Vk w r,x.2.isCells=true:=by simp[Vk,Obj.isCells]
def ItI(w:World)(A:Nat)(item:Int)(m:Nat)(pre:List ByteArray)(W:World):Prop:=ItC w (itL w A item pre.length) W/\pre.length<=m/\¬(0<=item/\item<(pre.length:Int))
theorem znl{w W:World}{r:List UInt8×Nat}{Dd:Nat}{tm:Array Value}(v2:W.heap[w.heap.size+2]? =some (.cells #[.string ⟨r.1.toArray⟩] 9 (0,0)))(v3:W.heap[w.heap.size+3]? =some (.cells #[.int .i64 (r.2:Nat)] 31 (0,0)))(vdx:W.heap[Dd]? =some (.deferred (some [])))(vb:Below w.heap.size w W)(hD:w.heap.size+4<=Dd)(h4:tm[4]? =some (.pointer (some ⟨w.heap.size+2,0,none⟩)):=by rfl)(h5:tm[5]? =some (.pointer (some ⟨w.heap.size+3,0,none⟩)):=by rfl):
 bodyPostM Fence.wide 5 prog Tryz.f26 (zlD w r) Exit.ret {tmps:=tm,defers:=[{target:=.collected Dd,args:= #[]}]} W:=by
 have u2:=zd (jI (l:=Dd) (o':=.deferred none) v2 (by omega)) 0;have u3:=zd (jI (l:=Dd) (o':=.deferred none) v3 (by omega)) 0;refine⟨by simp,.inl ⟨_,_,rfl,run_takeDeferred vdx,?_⟩⟩;refine⟨.tuple #[.string ⟨r.1.toArray⟩,.int .i64 (r.2:Nat)],by simp[results,results26,go_sem,u2,u3,h4,h5],rfl,vb.grown (grownBy_putObj' W Dd _) vb.size (fun r e=>?_)⟩;cases e;omega
theorem zmI(t:yo)(nv iv:Value)(item:Int)(w:World)(hT:TR w nv iv t)(hG:qH w)(hok:Zo t):Calls prog 26 #[.agg #[nv,iv],.int .i64 item] w (zlD w (zef t item)):=by
 obtain⟨R,hR⟩:=exE (zef t item);rw[hR];unfold zef at hR;obtain⟨np,nc,ip,ic,hnv,hiv⟩:=hT.form;have h0:=zJ [.cells #[nv,iv] 26 (0,0),.cells #[.int .i64 item] 3 (0,0),.cells #[.string ⟨#[]⟩] 9 (0,0),.cells #[.int .i64 0] 31 (0,0)] w;have hAl:Below w.heap.size w _:=zX [.cells #[nv,iv] 26 (0,0),.cells #[.int .i64 item] 3 (0,0),.cells #[.string ⟨#[]⟩] 9 (0,0),.cells #[.int .i64 0] 31 (0,0)] w;simp only[List.foldl_cons,List.foldl_nil,pK,pR] at hAl h0;have r0:=h0 0 _ rfl;rw[Nat.add_zero] at r0;have r1:=h0 1 _ rfl;have r2:=h0 2 _ rfl;have r3:=h0 3 _ rfl;have hC:=zi (ub t _ _ _ (hT.below hAl) (hG.later hAl) hok);have hPO:=zi (fun (h:zR t=0)=>zjg hok h);have c0:=zd r0 0;have c1:=zd r0 1;have HT:=zi hT;have HG:=zi hG;have HR:=zi hR;have HQ:=zi (And.intro r0 (And.intro r1 (And.intro r2 r3)));have HAl:=zi hAl;clear h0 r0 r1 r2 r3 hT hG hR hok hnv hiv hAl;generalize hck:zR t=ck at *;have Hck:=zi hck;clear hck;have hfn:∀f,Fence.wide.fn f=True:=fun _=>rfl
 refine (callsIn_wide (n:=5)).1 ?_;refine callsIn_of_wp_marks func26 rfl trivial ?_ rfl;simp only[ntmps26,List.size_toArray,pK,pR,Nat.reduceAdd,Nat.reduceSub,Array.replicate_succ,Array.replicate_zero,List.push_toArray,List.append_toArray,wJ,pT]
 gi_wp2_with fail
 refine (callsIn_wide.2 hC.out).mono ?_;rintro e w2 ⟨rfl,hb2⟩;have hB2:=zg HAl.out hb2;clear c0 c1 hC;obtain⟨r0,r1,r2,r3⟩:=HQ.out;have r0:=zh hb2 r0;have r1:=zh hb2 r1;have r2:=zh hb2 r2;have r3:=zh hb2 r3;have c0:=zd r0 0;have c1:=zd r0 1;have z2:=zd r2 0;have z3:=zd r3 0;have f2:=zl r2 0;have f3:=zl r3 0;by_cases hck:ck=0
 ·subst hck;have hr:=HR.out;rw[if_neg (by simp)] at hr;have HPO:=zi (hPO.out rfl);have HRr:=zi hr;have hw4:w.heap.size+4<=w2.heap.size:=pN (show w.heap.size+4<=_ by simp) hb2.size;clear hr z2 z3 f2 f3 HQ;have d0:=zj (zf w2 (.cells #[.int .i64 0] 3 (0,0))) c0;have d1:=zj (zf w2 (.cells #[.int .i64 0] 3 (0,0))) c1;clear c0 c1
  gi_wp2_with fail
  refine (callsIn_wide.2 (zgu _ _ _)).mono ?_;rintro e w4 ⟨rfl,rfl⟩;clear d0 d1
  gi_wp2_with fail
  obtain⟨w3,hw3⟩:=exE ((w2.alloc (.cells #[.int .i64 0] 3 (0,0))).alloc (.cells #[nv,iv] 26 (0,0)));have hbA:=zf (w2.alloc (.cells #[.int .i64 0] 3 (0,0))) (.cells #[nv,iv] 26 (0,0));have hbB:=zg (zf w2 (.cells #[.int .i64 0] 3 (0,0))) hbA;have hat:=zh hbA (zk w2 (.cells #[.int .i64 0] 3 (0,0)));have hCb:=zk (w2.alloc (.cells #[.int .i64 0] 3 (0,0))) (.cells #[nv,iv] 26 (0,0));rw[show (w2.alloc (.cells #[.int .i64 0] 3 (0,0))).heap.size=w2.heap.size+1 by simp] at hCb;have hs3:w2.heap.size+2<=((w2.alloc (.cells #[.int .i64 0] 3 (0,0))).alloc (.cells #[nv,iv] 26 (0,0))).heap.size:=by simp
  have r1:=zh hbB r1;have r2:=zh hbB r2;have r3:=zh hbB r3;have hB4:=zi (zg hB2 hbB);rw[hw3] at hat hCb hs3 r1 r2 r3 hB4 ⊢;clear hbA hbB hw3 r0;obtain⟨A,hA⟩:=exE (w2.heap.size);rw[hA] at hat hCb hs3 hw4 ⊢;generalize hact:(Act.mk _ [])=a0;have hXs:∀k,(k=A\/k=w.heap.size+2\/k=w.heap.size+3)->k<w3.heap.size:=fun k hk=>by omega
  have hXC:¬(A+1=A\/A+1=w.heap.size+2\/A+1=w.heap.size+3):=by omega
  have hws:w.heap.size<=w3.heap.size:=by omega
  have hI0:ItI w A item t.items.length [] w3:=⟨⟨hB4.out,by simp only[itL,List.forall_mem_cons];exact⟨hat,r1,r2,r3,fun x hx=>by cases hx⟩⟩,pU _,fun h=>by simp at h;omega⟩;have hm40:=HPO.out.items;have HNl:=zi (fun (k:Int) (hk:k∈t.items)=>(show (prT t k).length<=3200000 from by
   obtain⟨h0,h1⟩:=HPO.out.its k hk;obtain⟨kn,rfl⟩:=pP h0;exact VR HPO.out.full HPO.out.right HPO.out.nodes _ kn (by omega)))
  clear r1 r2 r3 hat;refine zaA (encs:=fun x:ByteArray=> #[.string x]) (gf:=77) (la:= #[]) (lb:= #[.pointer (some ⟨A+1,0,none⟩)]) rfl (by omega) (by rw[<-hact];rfl) trivial (enters_of func77 (by kernel_rfl) rfl)
   (zgt (fun k=>k=A\/k=w.heap.size+2\/k=w.heap.size+3) w (A+1) t nv iv HT.out HG.out HPO.out w3 hB4.out hCb hXC hXs _ (by omega)) (fun r h=>h.elim) (fun x=>rfl) KpL.trans (fun W l o o' hl ho=>KpL.put (w:=w3) (by omega) W l o o' hl ho)
   (ItI w A item t.items.length) (fun c _ W=>c=.ret/\ItC w (Vk w R) W) (fun pre W W' row h hg hr=>⟨h.1.own (B:=w3.heap.size) hws (zmp w A item pre.length) hg hr,h.2⟩) (fun c s W W' row h hg hr=>⟨h.1,h.2.own (B:=w3.heap.size) hws (zm5 w R) hg hr⟩) hI0
   (fun pre x a' W=>ItI w A item t.items.length pre W/\a'={tmps:=((a0.tmps.setIfInBounds 16 (.string x)).setIfInBounds 8 (.string x)),defers:=[]})
   (fun pre x a' W l o o' ⟨h1,h2⟩ hl ho hc=>⟨⟨h1.1.own (B:=w3.heap.size) hws (zmp w A item pre.length) (grownBy_putObj' W l o') (fun r e=>by cases e;exact .inr ⟨hl,o,ho,hc⟩),h1.2⟩,h2⟩) ?assign ?body ?done ?stop
  case assign=>
   rintro L pre x W K hI hGx hK;subst hact;simp only[List.zip_toArray,List.zip_cons_cons,List.zip_nil_left,List.foldl_toArray',List.foldl_cons,List.foldl_nil,yG,yE,yF]
   gi_wp2_with fail
   refine hK _ _ (KeepsOthers.refl _) (KpL.refl _ _ _) ⟨hI,?_⟩;simp only[yG,yE,yF]
  case body=>
   rintro L pre x a' W ⟨hI,rfl⟩ ⟨hpl,hx⟩;subst hact;simp only[yG,yE,yF];have hxs:=xo hx;have hmem:t.items.getD pre.length 0∈t.items:=by rw[pA,glE hpl];exact wC hpl
   have hnl:=HNl.out _ hmem;rw[pC,pI] at hxs;obtain⟨⟨hBW,hcs⟩,_,hni⟩:=hI;simp only[itL,List.forall_mem_cons] at hcs;obtain⟨q0,q1,q2,q3,_⟩:=hcs;have y0:=zd q0 0;have y1:=zd q1 0;have y2:=zd q2 0;have y3:=zd q3 0;have g0:=zl q0 0;have g2:=zl q2 0;have g3:=zl q3 0;have HQ:=zi (And.intro q0 (And.intro q1 (And.intro q2 q3)));have hfn2:∀f,(Fence.wide.inRound L).fn f=True:=fun _=>rfl
   have hpl40:pre.length<=40:=by omega
   obtain⟨j,hj⟩:=exE (pre.length);rw[hj] at hpl hx hnl hni y0 HQ hpl40 hxs;have hle:(pre ++ [x]).length=j+1:=by simp[hj]
   clear q0 q1 q2 q3 hmem;by_cases he:item=(j:Int)
   ·have he':((j:Int) == item)=true:=by rw[pS];exact he.symm
    have hR:=HRr.out;rw[if_neg (by omega),show item.toNat=j by omega] at hR;have hTs:=zi (Tryz.strings_TrimSuffix x ⟨#[10]⟩ W (by omega));rw[hx,show (⟨#[10]⟩:ByteArray).data.toList=[10] from rfl,zmX] at hTs;generalize hpl9:prT t (t.items.getD j 0)=P9 at *;clear hpl9;have hLm:=zi (zcM P9 W (by omega) (HG.out.later hBW));rw[hR] at hLm;clear hR
    gi_wp2_with fail
    refine (LodeX.Xl hTs.out).mono ?_;rintro e W' ⟨rfl,rfl⟩;clear hTs
    gi_wp2_with fail
    refine (LodeX.Xl hLm.out).mono ?_;rintro e W' ⟨rfl,hbl⟩;obtain⟨q0,q1,q2,q3⟩:=HQ.out;have q2:=zh hbl q2;have q3:=zh hbl q3;have z2:=zd q2 0;have z3:=zd q3 0;have h2:=zl q2 0;have h3:=zl q3 0;have H23:=zi (And.intro q2 (And.intro q3 (And.intro hbl (zg hBW hbl))));clear hLm HQ q0 q1 q2 q3 y0 y1 y2 y3 g0 g2 g3
    gi_wp2_with fail
    obtain⟨q2,q3,hbl,hbw⟩:=H23.out;refine⟨(KeepsOthers.trans ⟨hbl.size,fun k o hk _=>(hbl.block k (gtA hk)).trans hk⟩ (KeepsOthers.setCell _ _ _)).trans (KeepsOthers.setCell _ _ _),rfl,(hbw.setCell (p:=⟨w.heap.size+2,0,none⟩) (show w.heap.size<=w.heap.size+2 by omega) _).setCell (p:=⟨w.heap.size+3,0,none⟩) (show w.heap.size<=w.heap.size+3 by omega) _,?_⟩;simp only[Vk,List.forall_mem_cons];exact⟨(zt (by omega)).trans (zr q2 0 _),zr ((zt (by omega)).trans q3) 0 _,fun x hx=>by cases hx⟩
   ·have he':((j:Int) == item)=false:=by rw[pB];exact fun e=>he e.symm
    have wj:=pJ ((j:Int)+1) (by omega)
    gi_wp2_with fail
    obtain⟨q0,q1,q2,q3⟩:=HQ.out;refine⟨KeepsOthers.setCell _ _ _,KpL.setX (by omega) (.inl rfl),⟨hBW.setCell (p:=⟨A,0,none⟩) (show w.heap.size<=A by omega) _,?_⟩,by rw[hle];omega,by rw[hle];omega⟩;rw[hle];simp only[itL,List.forall_mem_cons];exact⟨zr q0 0 _,(zt (by omega)).trans q1,(zt (by omega)).trans q2,(zt (by omega)).trans q3,fun x hx=>by cases hx⟩
  case done=>
   intro Dd xs W hS hI hDd hdd;obtain⟨⟨hBW,hcs⟩,_,hni⟩:=hI;simp only[itL,List.forall_mem_cons] at hcs;obtain⟨_,_,q2,q3,_⟩:=hcs;have hR:=HRr.out;rw[if_pos (by omega)] at hR;subst hR;subst hact;have y2:=zd q2 0;have y3:=zd q3 0;have g2:=zl q2 0;have g3:=zl q3 0
   gi_wp2_with fail
   have hd1:Dd<W.heap.size:=(gtA hdd);have v2:((W.setCell ⟨w.heap.size+2,0,none⟩ (.string ⟨#[]⟩)).setCell ⟨w.heap.size+3,0,none⟩ (.int .i64 7)).heap[w.heap.size+2]? =_:=(zt (by omega)).trans (zr q2 0 _);have v3:((W.setCell ⟨w.heap.size+2,0,none⟩ (.string ⟨#[]⟩)).setCell ⟨w.heap.size+3,0,none⟩ (.int .i64 7)).heap[w.heap.size+3]? =_:=zr ((zt (by omega)).trans q3) 0 _;have vdx:((W.setCell ⟨w.heap.size+2,0,none⟩ (.string ⟨#[]⟩)).setCell ⟨w.heap.size+3,0,none⟩ (.int .i64 7)).heap[Dd]? =_:=(zt (by omega)).trans ((zt (by omega)).trans hdd);have vb:=(hBW.setCell (p:=⟨w.heap.size+2,0,none⟩) (show w.heap.size<=w.heap.size+2 by omega) (.string ⟨#[]⟩)).setCell (p:=⟨w.heap.size+3,0,none⟩) (show w.heap.size<=w.heap.size+3 by omega) (.int .i64 7);exact znl v2 v3 vdx vb (by omega)
  case stop=>
   rintro Dd c pre W _ ⟨rfl,hx⟩ hDd hdd;subst hact
   gi_wp2
   obtain⟨hBW,hcs⟩:=hx;simp only[Vk,List.forall_mem_cons] at hcs;exact znl hcs.1 hcs.2.1 hdd hBW (by omega)
 ·have hck':((ck:Int) == 0)=false:=bfE (by omega)
  have hr:=HR.out;rw[if_pos hck] at hr;subst hr;clear c0 c1
  gi_wp2_with fail
  have v2:((w2.setCell ⟨w.heap.size+2,0,none⟩ (.string ⟨#[]⟩)).setCell ⟨w.heap.size+3,0,none⟩ (.int .i64 ck)).heap[w.heap.size+2]? =_:=(zt (by omega)).trans (zr r2 0 _);have v3:((w2.setCell ⟨w.heap.size+2,0,none⟩ (.string ⟨#[]⟩)).setCell ⟨w.heap.size+3,0,none⟩ (.int .i64 ck)).heap[w.heap.size+3]? =_:=zr ((zt (by omega)).trans r3) 0 _;have u2:=zd v2 0;have u3:=zd v3 0;exact⟨.tuple #[.string ⟨#[]⟩,.int .i64 ck],by simp[results,results26,go_sem,u2,u3],rfl,(hB2.setCell (p:=⟨w.heap.size+2,0,none⟩) (show w.heap.size<=w.heap.size+2 by omega) _).setCell (p:=⟨w.heap.size+3,0,none⟩) (show w.heap.size<=w.heap.size+3 by omega) _⟩
end
section
open Go.RowKit Lode Go.Shelf
attribute [local go_sem ↓] Go.wp_at_zero Go.wp_at_succ
open Go.Proofs.Tryz
theorem znc{w:World}{B n s:Nat}{T:TypeId}{v:Value}{xs:List Value}(h:w.ownsRow B T s v n xs):∀p m c,v=.slice p m c->m<=c:=by
 rintro p m c rfl;obtain⟨_,⟨hv,_⟩|⟨g,cap,cur,hv,_,_,hle,_⟩⟩:=h
 ·cases hv;exact pE _
 ·cases hv;exact hle
def zgW(t:yo)(i:Nat):List UInt8:=(List.range i).flatMap fun (k:Nat)=>(zef t k).1 ++ [10]
theorem zlS(t:yo)(i:Nat):zgW t (i+1)=zgW t i ++ (zef t i).1 ++ [10]:=by
 unfold zgW;rw[List.range_succ,List.flatMap_append];simp
theorem zmD(t:yo)(i:Nat):(zef t i).1.length<=100000:=by
 unfold zef;split
 ·exact pU _
 ·split
  ·exact pU _
  ·unfold Yb;split
   ·exact pU _
   ·rename_i h;obtain⟨_,_,h3,_⟩:=Jt (Decidable.not_not.1 h);exact pN (zbB.1 h3).1 (by omega)
theorem zmo(t:yo):∀i:Nat,(zgW t i).length<=i*100001
 |0=>pE _
 |i+1=>by
  have:=zmo t i;have:=zmD t i;rw[zlS,pC,pC,pI];omega
theorem zms(a b:List UInt8):(⟨a.toArray⟩:ByteArray) ++ ⟨b.toArray⟩=⟨(a ++ b).toArray⟩:=by
 refine ByteArray.ext ?_;rw[ByteArray.data_append];simp
theorem zlP(t:yo):QK t t=true:=by simp[QK]
theorem znb{t:yo}(h:Ve t):zhO t t.items.length=t:=by
 unfold zhO;rw[znq h.fm,List.take_length,List.take_length]
theorem zmS{t:yo}(h:Ve t){i:Nat}(hi:i<t.items.length):∃cu:yo,Ve cu/\Ve (zhO t i)/\znn t i=(cu,0)/\zlV (zhO t i) cu=(zhO t (i+1),0)/\zef cu 0=zef t i/\((zef t i).2=0\/(zef t i).2=5):=by
 have hc:=zmw h hi;have hp:=zmv h (Nat.le_of_lt hi);have hq:=zmv h (i:=i+1) hi;have hj:=znj h hi;refine⟨_,hc,hp,?_,?_,zm4 h hi,?_⟩
 ·unfold znn;rw[h.qr,if_neg (by decide),if_neg (by omega),wE]
 ·unfold zlV;rw[hc.qr,hp.qr,if_neg (by decide),if_neg (by decide),hj];have h1:=congrArg (fun t=>t.nodes.length) hj;have h2:=congrArg (fun t=>t.items.length) hj;simp only[zey,zbP,pC,wV] at h1 h2;have h3:=hq.n;have h4:=hq.i;rw[if_neg (by omega)]
 ·unfold zef;rw[h.qr,if_neg (by decide),if_neg (by omega)];unfold Yb;split
  ·exact .inr rfl
  ·exact .inl rfl
def znw(t:yo)(b5:Nat)(wb:World)(sv iv:Value)(wr:World):Prop:=∃i:Nat,iv=.int .i64 i/\i<=t.items.length/\sv=.string ⟨(zgW t i).toArray⟩/\Below b5 wb wr/\∃nv5 iv5,wr.heap[b5]? =some (.cells #[nv5,iv5] 26 (0,0))/\TR wr nv5 iv5 (zhO t i)
def znx(n:Nat)(W:World)(kv:Value)(wr:World):Prop:=∃m:Nat,kv=.int .i64 m/\m<=n/\Below W.heap.size W wr
theorem zm3(s:ByteArray)(w:World)(hG:qH w):Calls prog 8 #[.string s] w (kQ w (.bool true)):=by
 have hKn:=zi (fun W (hW:Below w.heap.size w W)=>zd3 W (hG.later hW));have HP:=zi (zfj s w hG);have hwell:(pdT s.data.toList).2=true->Ve (pdT s.data.toList).1:=fun h=>by
  unfold pdT at h ⊢;split at h
  ·cases h
  ·rename_i hl;rw[if_neg hl];have h0:(zW s.data.toList).2.2=0:=by simpa using h
   obtain⟨_,st,hp⟩:=zhG (s:=s.data.toList) (t:=(zW s.data.toList).1) (p:=(zW s.data.toList).2.1) (by rw[<-h0]);exact hp.well
 have HG:=zi hG;generalize pdT s.data.toList=r at *;obtain⟨t,ok⟩:=r;simp only at hwell;clear hG;cases ok
 ·clear hwell;go_enter func8,ntmps8;go_wp2_with fail;refine HP.out.mono ?_;rintro e w1 ⟨hb1,nv,iv,rfl,hT⟩;obtain⟨p1,c1,q1,d1,rfl,rfl⟩:=hT.o.form;simp only at hT;generalize t.nodes.length=nl at *;generalize t.items.length=il at *;have hz:=zk w1 (.cells #[.slice none 0 0,.slice none 0 0] 26 (0,0));have e0:=zd hz 0;have e1:=zd hz 1;have f0:=zl hz 0;have f1:=zl hz 1;have hA:=zf w1 (.cells #[.slice p1 nl c1,.slice q1 il d1] 26 (0,0));have hW1:=zi (zg hb1 hA);clear hz hA hT hb1 HP;go_wp2_with fail;refine (hKn.out _ hW1.out).mono ?_;rintro e w9 ⟨rfl,hb9⟩;have hw9:=zg hW1.out hb9;go_wp2;go_ret;exact⟨rfl,hw9⟩
 ·have hW:=hwell rfl;obtain⟨hok,hkm⟩:=zeG hW;have hn1:=hW.n;have hi1:=hW.i;have hstep:∀i,i<t.items.length->_:=fun i hi=>zmS hW hi
  have hpl:=zmz hW;have hfull:=znb hW;obtain⟨nl,hnl⟩:∃k,t.nodes.length=k:=⟨_,rfl⟩;obtain⟨il,hil⟩:∃k,t.items.length=k:=⟨_,rfl⟩;have Hok:=zi hok;have Hkm:=zi hkm;have Hnl:=zi hnl;have Hil:=zi hil;have Hn1:=zi hn1;have Hi1:=zi hi1;have Hstep:=zi hstep;have Hpl:=zi hpl;have Hfull:=zi hfull;have HW:=zi hW;clear hwell hW hok hkm hn1 hi1 hstep hpl hfull;go_enter func8,ntmps8;go_wp2_with fail;refine HP.out.mono ?_;rintro e w1 ⟨hb1,nv,iv,rfl,hT⟩;obtain⟨p1,c1,q1,d1,rfl,rfl⟩:=hT.o.form;simp only at hT;rw[hnl,hil] at hT ⊢;have hz:=zk w1 (.cells #[.slice none 0 0,.slice none 0 0] 26 (0,0));have e0:=zd hz 0;have e1:=zd hz 1;have f0:=zl hz 0;have f1:=zl hz 1;have hz2:=zk (w1.alloc (.cells #[.slice p1 nl c1,.slice q1 il d1] 26 (0,0))) (.cells #[.slice none 0 0,.slice none 0 0] 26 (0,0));rw[World.size_alloc] at hz2;have g0:=zd hz2 0;have g1:=zd hz2 1;have k0:=zl hz2 0;have k1:=zl hz2 1;have hA:=zf w1 (.cells #[.slice p1 nl c1,.slice q1 il d1] 26 (0,0));have hW1:=zi (zg hb1 hA);have HT:=zi (hT.below hA);have hbox:=zi (zk w1 (.cells #[.slice p1 nl c1,.slice q1 il d1] 26 (0,0)));have hst:=zi (show znw t (w1.heap.size+1) (w1.alloc (.cells #[.slice p1 nl c1,.slice q1 il d1] 26 (0,0))) (.string ⟨#[]⟩) (.int .i64 0) ((w1.alloc (.cells #[.slice p1 nl c1,.slice q1 il d1] 26 (0,0))).alloc (.cells #[.slice none 0 0,.slice none 0 0] 26 (0,0))) from ⟨0,rfl,pU _,rfl,(by
   have:=zf (w1.alloc (.cells #[.slice p1 nl c1,.slice q1 il d1] 26 (0,0))) (.cells #[.slice none 0 0,.slice none 0 0] 26 (0,0));rw[World.size_alloc] at this;exact this),_,_,hz2,TR.nil _⟩)
  have hsb:=zi (show w1.heap.size+1=(w1.alloc (.cells #[.slice p1 nl c1,.slice q1 il d1] 26 (0,0))).heap.size by simp);clear hz hz2 hA hT hb1 HP hnl hil;go_wp2_with fail;generalize hwb:w1.alloc (.cells #[.slice p1 nl c1,.slice q1 il d1] 26 (0,0))=wb at *;clear e0 e1 f0 f1 g0 g1 k0 k1 hwb;have HO:=zi (fun W (hb:Below wb.heap.size wb W)=>ze4 t _ _ W (HT.out.below hb).o (by rw[Hnl.out];have:=Hn1.out;rw[Hnl.out] at this;omega) (by rw[Hil.out];have:=Hi1.out;rw[Hil.out] at this;omega) (fun y hy=>by have:=Hkm.out y hy;omega));go_loopw [6,7] (znw t (w1.heap.size+1) wb) (fun _ i _=>il-(intOf i).toNat)
  case atStart=>exact hst.out
  case round=>
   obtain⟨i,rfl,hi,rfl,hb5,nv5,iv5,hbx5,hT5⟩:=hrel;rw[Hil.out] at hi;obtain⟨p5,c5,q5,d5,rfl,rfl⟩:=hT5.form;have hb:Below wb.heap.size wb wr:=by rw[<-hsb.out];exact hb5
   have hbx3:=(hb5.block w1.heap.size (by omega)).trans hbox.out;have hbw:=zi (zg hW1.out hb);have R3:=zi hbx3;have c0:=zd hbx3 0;have c1':=zd hbx3 1;have d0:=zd hbx5 0;have d1':=zd hbx5 1;have hi1:=Hi1.out;rw[Hil.out] at hi1;by_cases hlt:i<il
   ·have hlt':(i:Int)<(il:Int):=by omega
    have hi0:¬((i:Int)<0):=by omega
    have hy:=pJ ((i:Int)+1) (by omega);obtain⟨cu,hWc,hWp,hcut,hjoin,hit,hite⟩:=Hstep.out i (by rw[Hil.out];omega);have hln:=zlS t i;have hb0:=zi hb;have HB5:=zi hb5;have HT5:=zi hT5;have R5:=zi hbx5;have HWc:=zi hWc;have HWp:=zi hWp;have Hcut:=zi hcut;have Hjoin:=zi hjoin;have Hit:=zi hit;have Hite:=zi hite;have Hln:=zi hln;clear hb hb5 hT5 hbx5 hbx3 hWc hWp hcut hjoin hit hite hln;go_wp2_with fail;refine (HO.out wr hb0.out).mono ?_;rintro e wA ⟨nvA,ivA,rfl,⟨kvA,OA⟩,hbA⟩;have hX:=znu t _ _ i wA OA.tr (HG.out.later (zg hbw.out hbA)) Hok.out Hkm.out (znc OA.n);rw[Hcut.out] at hX;obtain⟨poA1,cA,qoA1,dA,rfl,rfl⟩:=OA.tr.form;have hrA:=zi hbA;replace hX:=zi hX;clear OA hbA;go_wp2_with fail;refine hX.out.mono ?_;rintro e wB ⟨hbB,nv8,iv8,rfl,hT8⟩;obtain⟨p8,c8,q8,d8,rfl,rfl⟩:=hT8.form;simp only at hT8;obtain⟨n8,hn8⟩:∃k,cu.nodes.length=k:=⟨_,rfl⟩;obtain⟨i8,hi8⟩:∃k,cu.items.length=k:=⟨_,rfl⟩;rw[hn8,hi8] at hT8 ⊢;have hz:=zk wB (.cells #[.slice none 0 0,.slice none 0 0] 26 (0,0));have e0:=zd hz 0;have e1:=zd hz 1;have f0:=zl hz 0;have f1:=zl hz 1;have hA8:=zf wB (.cells #[.slice p8 n8 c8,.slice q8 i8 d8] 26 (0,0));have hrC:=zi (zg (zg hrA.out hbB) hA8);have R8:=zi (zk wB (.cells #[.slice p8 n8 c8,.slice q8 i8 d8] 26 (0,0)));have HT8:=zi (hT8.below hA8);have hlt8:=zi (show wB.heap.size<(wB.alloc (.cells #[.slice p8 n8 c8,.slice q8 i8 d8] 26 (0,0))).heap.size by simp);have hge8:=zi (show wr.heap.size<=wB.heap.size from (zg hrA.out hbB).size);clear hz hA8 hT8 hbB hrA hX hn8 hi8;go_wp2_with fail;generalize hwc:wB.alloc (.cells #[.slice p8 n8 c8,.slice q8 i8 d8] 26 (0,0))=woC1 at *;clear e0 e1 f0 f1 c0 c1' d0 d1' hwc;have r5:=zh hrC.out R5.out;have r3:=zh hrC.out R3.out;have hS:∀V,Cl woC1.drew V->(V.cell? ⟨w1.heap.size+1,0,none⟩=some (.slice p5 (zhO t i).nodes.length c5)/\V.cell? ⟨w1.heap.size+1,1,none⟩=some (.slice q5 (zhO t i).items.length d5)/\V.cell? ⟨wB.heap.size,0,none⟩=some (.slice p8 n8 c8)/\V.cell? ⟨wB.heap.size,1,none⟩=some (.slice q8 i8 d8)):=fun V h=>
     ⟨zj (w:=woC1.drew) h.below (zd r5 0),zj (w:=woC1.drew) h.below (zd r5 1),zj (w:=woC1.drew) h.below (zd R8.out 0),zj (w:=woC1.drew) h.below (zd R8.out 1)⟩
    have hbC:Below wr.heap.size wr woC1.drew:=zg hrC.out (pF _ woC1).drew;have hOc:=zi (fun W (hb:Below woC1.heap.size woC1 W)=>ze4 cu _ _ W (HT8.out.below hb).o (by have:=HWc.out.n;omega) (by have:=HWc.out.i;omega) (fun y hy=>by have:=(zeG HWc.out).2 y hy;omega));refine LodeX.ki 6 [(0,1),(1,1),(2,2),(3,2),(4,0),(5,0),(6,0)] [7] [(8,3),(9,0)] (fun _=>.cells #[.slice none 0 0,.slice none 0 0] 26 (0,0)) (fun _=>some 10) ?_ (fun j hj=> ?hZ) ?hd
    case hZ=>
     obtain rfl:=wL.1 hj;exact⟨⟨_,rfl,rfl,fun _=>rfl,fun a w=>by go_simp⟩⟩
    case hd=>exact fun i hi j hj hne=>absurd ((wL.1 hi).trans (wL.1 hj).symm) hne
    refine goM ?_;clear hS;refine zZ rfl rfl (fun K hK V hV=>?_);have hbV:Below woC1.heap.size woC1 V:=zg ((pF _ woC1).drew) hV.below;go_simp;refine (hOc.out V hbV).mono ?_;rintro e w3 ⟨nv3,iv3,rfl,⟨kv3,O3⟩,b3⟩;refine⟨ux.2 b3,hK _ _ ?_⟩;clear hK K;have hb3:=zg hbV b3
    try simp only[Act.put,yG,yE,yF]
    refine zZ rfl rfl (fun K hK V4 hV4=>?_);have hb4:=zg hb3 hV4.below;have hT3:=O3.tr.below hV4.below;have hJ:=zno (zhO t i) cu _ _ _ _ V4 (HT5.out.below (zg hrC.out hb4)) hT3 (HG.out.later (zg hbw.out (zg hrC.out hb4))) (zeG HWp.out).1 (zeG HWc.out).1 (zeG HWp.out).2 (zeG HWc.out).2;rw[Hjoin.out] at hJ;go_simp;refine hJ.mono ?_;rintro e w5 ⟨b5,nv6,iv6,rfl,hT6⟩;refine⟨ux.2 b5,hK _ _ ?_⟩;clear hK K;have hb5':=zg hb4 b5;obtain⟨p6,c6,q6,d6,rfl,rfl⟩:=hT6.form;simp only at hT6;obtain⟨n6,hn6⟩:∃k,(zhO t (i+1)).nodes.length=k:=⟨_,rfl⟩;obtain⟨i6,hi6⟩:∃k,(zhO t (i+1)).items.length=k:=⟨_,rfl⟩;rw[hn6,hi6] at hT6 ⊢;clear hn6 hi6
    try simp only[Act.put,yG,yE,yF]
    refine goM ?_;refine zC fun W1 hW1=>?_
    simp only[LodeX.QFl];intro W2 ob hW2 hz hob _ W3 hW3;have hb13:=zg hW1.below (zg hW2.below hW3.below);have hbC3:=zg hb5' hb13;have hz3:=zh hW3.below hz;have z0:=zd hz3 0;have z1:=zd hz3 1;have f0:=zl hz3 0;have f1:=zl hz3 1;have hT6:=hT6.below hb13
    try simp only[Act.put,yG,yE,yF]
    refine ziU rfl rfl ?_;go_simp;refine zld rfl rfl (v:=.int .i64 0) (fun w'=>by go_simp) ?_
    try simp only[Act.put,yG,yE,yF]
    refine JE ?_;obtain⟨r1,r2⟩:=jG hz3 (.slice p6 n6 c6) (.slice q6 i6 d6);have hT7:TR ((W3.setCell ⟨ob,0,none⟩ (.slice p6 n6 c6)).setCell ⟨ob,1,none⟩ (.slice q6 i6 d6)) _ _ _:=(hT6.keepT hz3 fun g hg=>(zt hg).trans (zt hg));have hob':woC1.heap.size<=ob:=hob;have hbCF:=hbC3.trans (r2 woC1.heap.size hob');obtain⟨woF1,hwF⟩:∃W,(W3.setCell ⟨ob,0,none⟩ (.slice p6 n6 c6)).setCell ⟨ob,1,none⟩ (.slice q6 i6 d6)=W:=⟨_,rfl⟩;rw[hwF] at r1 hT7 hbCF ⊢;have hrF:=zi (zg hrC.out hbCF);have R5F:=zi (zh hrF.out R5.out);have R3F:=zi (zh hrF.out R3.out);have R8F:=zi (zh hbCF R8.out);have R10F:=zi r1;have HT8F:=zi (HT8.out.below hbCF);have HT10F:=zi hT7;have hb0F:=zi (zg hb0.out hrF.out);clear hwF r1 r2 hT7 hT6 hbCF hz hz3 z0 z1 f0 f1 hW1 hW2 hW3 hb13 hbC3 hb5' b5 hJ hT3 hV4 hb4 hb3 b3 O3 hV hbV hOc hbC r5 r3;have c0:=zd R3F.out 0;have c1':=zd R3F.out 1;go_wp2_with fail;refine (HO.out woF1 hb0F.out).mono ?_;rintro e woG1 ⟨nvG,ivG,rfl,⟨kvG,OG⟩,hbG⟩;have hX:=zmI t _ _ i woG1 OG.tr (HG.out.later (zg hW1.out (zg hb0F.out hbG))) Hok.out;obtain⟨poG1,cG,qoG1,dG,rfl,rfl⟩:=OG.tr.form;have hFG:=zi hbG;have Hite':=Hite.out;have Hln':=Hln.out;have hxl:=zmD t i;have hll:=zmo t i;have Hit':=Hit.out;generalize zef t i=it at *;obtain⟨x,ex⟩:=it;simp only at Hite' Hln' hxl;have z6:¬(9223372036854775807<(zgW t i).length+x.length):=by omega
    have z7:¬(9223372036854775807<(zgW t i).length+x.length+1):=by omega
    clear hxl hll;replace hX:=zi hX;replace Hln':=zi Hln';replace Hit':=zi Hit';clear OG hbG;go_wp2_with fail;refine hX.out.mono ?_;rintro e woH1 ⟨rfl,hbH⟩;have hFH:=zi (zg hFG.out hbH);have R8H:=zh hFH.out R8F.out;clear c0 c1';have c0:=zd R8H 0;have c1':=zd R8H 1;have hX2:=zmI cu _ _ 0 woH1 (HT8F.out.below hFH.out) (HG.out.later (zg hW1.out (zg hb0F.out hFH.out))) (zeG HWc.out).1;rw[Hit'.out] at hX2;replace hX2:=zi hX2;clear R8H hX hFG hbH;go_wp2_with fail;refine hX2.out.mono ?_;rintro e woI1 ⟨rfl,hbI⟩;have hFI:=zi (zg hFH.out hbI);have R5I:=zi (zh hFI.out R5F.out);have R10I:=zh hFI.out R10F.out;clear c0 c1' hX2 hFH hbI;have c0:=zd R10I 0;have c1':=zd R10I 1;have d0:=zd R5I.out 0;have d1':=zd R5I.out 1;have f0:=zl R5I.out 0;have f1:=zl R5I.out 1;clear R10I;have HTI:=zi (HT10F.out.below hFI.out);have hrI:=zi (zg hrF.out hFI.out);rcases Hite' with rfl|rfl
    ·go_wp2;go_roundw
     case rel=>
      obtain⟨r1,r2⟩:=jG R5I.out (.slice p6 n6 c6) (.slice q6 i6 d6);exact⟨i+1,by go_num,by rw[Hil.out];omega,by rw[Hln'.out,<-zms,<-zms],HB5.out.trans ((hrI.out.mono (by have:=HB5.out.size;have:=hsb.out;omega)).trans (r2 _ (pE _))),_,_,r1,HTI.out.keepT R5I.out fun g hg=>(zt hg).trans (zt hg)⟩
     case measure=>simp[intOf];omega
    ·go_wp2;go_roundw
     case rel=>
      obtain⟨r1,r2⟩:=jG R5I.out (.slice p6 n6 c6) (.slice q6 i6 d6);exact⟨i+1,by go_num,by rw[Hil.out];omega,by rw[Hln'.out,<-zms,<-zms],HB5.out.trans ((hrI.out.mono (by have:=HB5.out.size;have:=hsb.out;omega)).trans (r2 _ (pE _))),_,_,r1,HTI.out.keepT R5I.out fun g hg=>(zt hg).trans (zt hg)⟩
     case measure=>simp[intOf];omega
   ·have hlt':¬((i:Int)<(il:Int)):=by omega
    have hie:i=t.items.length:=by rw[Hil.out];omega
    have hp:zhO t i=t:=by rw[hie];exact Hfull.out
    have hlx:zgW t i=zlU t:=by rw[hie];rfl
    rw[hlx];rw[hp] at hT5 hbx5 d0 d1';rw[Hnl.out,Hil.out] at hbx5 d0 d1';rw[Hnl.out,Hil.out] at hT5;have HT5:=zi hT5;have R5:=zi hbx5;have HT3:=zi (HT.out.below hb);have hn1:=Hn1.out;rw[Hnl.out] at hn1;have hb0:=zi hb;clear hp hlx hie hT5 hbx5 hbx3 hb hb5 hlt hi;have hst2:=zi (show znx nl wr (.int .i64 0) wr from ⟨0,rfl,pU _,pF _ _⟩);go_wp2_with fail;obtain⟨w4,hw4⟩:∃W:World,W=wr:=⟨_,rfl⟩;rw[<-hw4] at hst2 HT5 R5 HT3 hb0 hbw R3 ⊢;clear c0 c1' d0 d1' hw4;go_loopw [16] (znx nl w4) (fun k _=>nl-(intOf k).toNat)
    case atStart=>exact hst2.out
    case round=>
     obtain⟨k,rfl,hk,hbk⟩:=hrel;have r3:=zh hbk R3.out;have r5:=zh hbk R5.out;have c0:=zd r3 0;have c1':=zd r3 1;have d0:=zd r5 0;have d1':=zd r5 1;by_cases hkn:k<nl
     ·have hkn':(k:Int)<(nl:Int):=by omega
      have hk0:¬((k:Int)<0):=by omega
      have hyk:=pJ ((k:Int)+1) (by omega);obtain⟨x,hx⟩:∃x,t.nodes[k]? =some x:=⟨_,glE (by rw[Hnl.out];omega)⟩;obtain⟨kv3,hN3⟩:=HT3.out.nodes;obtain⟨g3,off3,ukx,rfl,A3⟩:=hN3.at hx;obtain⟨kv5,hN5⟩:=HT5.out.nodes;obtain⟨g5,off5,uky,rfl,A5⟩:=hN5.at hx;have a3:=(A3.below hbk).c4;have a5:=(A5.below hbk).c4;have hS:∀V,(zj9 wr.heap.size).rel wr.drew V->(V.cell? ⟨w1.heap.size+1,0,none⟩=some (.slice (some ⟨g5,off5,none⟩) nl c5)/\V.cell? ⟨w1.heap.size,0,none⟩=some (.slice (some ⟨g3,off3,none⟩) nl c1)/\V.cell? ⟨g5,off5+k*5+4,none⟩=some (.int .i64 x.at_)/\V.cell? ⟨g3,off3+k*5+4,none⟩=some (.int .i64 x.at_)):=fun V h=>⟨zj (w:=wr.drew) h d0,zj (w:=wr.drew) h c0,zj (w:=wr.drew) h a5,zj (w:=wr.drew) h a3⟩
      clear hN3 hN5 A3 A5;go_wp2_with fail;refine LodeX.jm (RR:=zj9 wr.heap.size) (Xp:=fun _ _=>False) [(0,0),(1,1),(2,0),(3,0),(4,0),(5,1),(6,0),(7,1),(8,0),(9,0),(10,0),(11,1),(12,0)] ?_;refine LodeX.qT ?_;refine LodeX.zC fun W6 hW6=>?_
      cases hW6;have hbkd:=zi (zg hbk ((pF _ wr).drew));clear hS c0 c1' d0 d1' a3 a5 r3 r5;go_wp2;go_roundw
      case rel=>exact⟨k+1,by go_num,by omega,hbkd.out⟩
      case measure=>simp[intOf];omega
     ·have hkn':¬((k:Int)<(nl:Int)):=by omega
      have hbK:=zg hb0.out hbk;have hwK:=zg hbw.out hbk;have HT5K:=zi (HT5.out.below hbk);have HT3K:=zi (HT3.out.below hbk);have R5K:=zi r5;have R3K:=zi r3;clear hkn hk r3 r5;go_wp2_with fail;refine (HO.out wr hbK).mono ?_;rintro e w5 ⟨nvH,ivH,rfl,⟨kvH,OH⟩,hbH⟩;have hX:=zay t _ _ w5 OH.tr (HG.out.later (zg hwK hbH)) Hok.out;obtain⟨pOh,cH,qOh,dH,rfl,rfl⟩:=OH.tr.form;have hwH:=zi (zg hwK hbH);have R3H:=zi (zh hbH R3K.out);have R5H:=zi (zh hbH R5K.out);have T3H:=zi (HT3K.out.below hbH);have T5H:=zi (HT5K.out.below hbH);clear OH hbH c0 c1' d0 d1' hbK hwK hbk;rcases Hpl.out with hpt|hpt
      ·rw[hpt] at hX;generalize zlU t=LT at *;go_wp2_with fail;refine hX.mono ?_;rintro e woI1 ⟨rfl,hbI⟩;have hwI:=zi (zg hwH.out hbI);have R3:=zh hbI R3H.out;have R5:=zh hbI R5H.out;have c0:=zd R3 0;have c1':=zd R3 1;have d0:=zd R5 0;have d1:=zd R5 1;have hAl:=zgP t t _ _ _ _ woI1 (T5H.out.below hbI).o (T3H.out.below hbI).o (HG.out.later hwI.out) HW.out HW.out;rw[zlP] at hAl;clear R3 R5 hX hbI;by_cases hn0:nl=0
       ·have hn0':(nl:Int)=0:=by omega
        clear hAl;go_wp2_with fail;refine (hKn.out _ hwI.out).mono ?_;rintro e w9 ⟨rfl,hb9⟩;have hw9:=zg hwI.out hb9;go_wp2;go_ret;exact⟨rfl,hw9⟩
       ·have hn0':¬((nl:Int)=0):=by omega
        go_wp2_with fail;refine hAl.mono ?_;rintro e woJ1 ⟨rfl,hbJ⟩;have hwJ:=zg hwI.out hbJ;go_wp2_with fail;refine (hKn.out _ hwJ).mono ?_;rintro e w9 ⟨rfl,hb9⟩;have hw9:=zg hwJ hb9;go_wp2;go_ret;exact⟨rfl,hw9⟩
      ·rw[hpt] at hX;generalize zlU t=LT at *;go_wp2_with fail;refine hX.mono ?_;rintro e woI1 ⟨rfl,hbI⟩;have hwI:=zi (zg hwH.out hbI);have R3:=zh hbI R3H.out;have R5:=zh hbI R5H.out;have c0:=zd R3 0;have c1':=zd R3 1;have d0:=zd R5 0;have d1:=zd R5 1;have hAl:=zgP t t _ _ _ _ woI1 (T5H.out.below hbI).o (T3H.out.below hbI).o (HG.out.later hwI.out) HW.out HW.out;rw[zlP] at hAl;clear R3 R5 hX hbI;by_cases hn0:nl=0
       ·have hn0':(nl:Int)=0:=by omega
        clear hAl;go_wp2_with fail;refine (hKn.out _ hwI.out).mono ?_;rintro e w9 ⟨rfl,hb9⟩;have hw9:=zg hwI.out hb9;go_wp2;go_ret;exact⟨rfl,hw9⟩
       ·have hn0':¬((nl:Int)=0):=by omega
        go_wp2_with fail;refine hAl.mono ?_;rintro e woJ1 ⟨rfl,hbJ⟩;have hwJ:=zg hwI.out hbJ;go_wp2_with fail;refine (hKn.out _ hwJ).mono ?_;rintro e w9 ⟨rfl,hb9⟩;have hw9:=zg hwJ hb9;go_wp2;go_ret;exact⟨rfl,hw9⟩
end
end Go.Proofs.YtnncmdpopgkibaaGreatDoor
