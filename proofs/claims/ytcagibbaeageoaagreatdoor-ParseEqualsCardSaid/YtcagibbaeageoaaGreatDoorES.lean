/-
  A part of the proof: contracts of functions; no conditions.
-/
import Derived.Test.YtcagibbaeageoaaGreatDoorER
set_option maxRecDepth 100000
set_option maxHeartbeats 40000000
set_option linter.unusedSimpArgs false
set_option linter.unusedVariables false
namespace Go.Proofs.YtcagibbaeageoaaGreatDoor
section
open Go.RowKit Lode Go.Shelf
attribute [local go_sem ↓] Go.wp_at_zero Go.wp_at_succ
open Go.Proofs.Tryz
theorem zd2(a b:zQ):zd9 a b↔QG a b=true:=by
 unfold QG;rw[pJ,pK,pK];constructor
 ·rintro ⟨h1,h2,h3⟩;refine⟨h2,List.ext_getElem? fun j=>?_⟩;rw[wE,wE];by_cases hj:j<a.nodes.length
  ·have hx:=glE hj;have hy:=glE (h1▸hj);rw[hx,hy];exact congrArg some ((Ka _ _).2 (h3 j _ _ hx hy))
  ·rw[wU (by omega),wU (by omega)]
 ·rintro ⟨h1,h2⟩;refine⟨by simpa using congrArg List.length h2,h1,fun j x y hx hy=>(Ka _ _).1 ?_⟩;have h3:=congrArg (·[j]?) h2;simpa only[wE,hx,hy,Option.map_some,wP] using h3
theorem za4(a b:zQ):(yp a≠0/\Zn a b=(false,yp a))\/(yp a=0/\yp b≠0/\Zn a b=(false,yp b))\/(yp a=0/\yp b=0/\Zn a b=(QG a b,0)):=by
 unfold Zn;by_cases h:yp a=0
 ·by_cases h2:yp b=0
  ·right;right;simp[h,h2]
  ·right;left;simp[h,h2]
 ·left;simp[h]
theorem zdj(a b:zQ)(nv iv nv2 iv2:Value)(w:World)(ha:Qx w nv iv a)(hb:Qx w nv2 iv2 b)(hA:TrB a)(hB:TrB b):
 Calls prog 37 #[.agg #[nv,iv],.agg #[nv2,iv2]] w (RdB w (Zn a b)):=by
 have hC1:=zi (fun W (hW:Below w.heap.size w W)=>Za a nv iv W (ha.below hW) hA.n hA.i hA.k hA.t);have hC2:=zi (fun W (hW:Below w.heap.size w W)=>Za b nv2 iv2 W (hb.below hW) hB.n hB.i hB.k hB.t);have hAk:=zi (fun W (hW:Below w.heap.size w W)=>JR a b nv iv nv2 iv2 W (ha.below hW) (hb.below hW) (by have:=hA.n;omega) (by have:=hA.i;omega) (fun x hx=>by have:=hA.k x hx;omega));have hsm:=zi (zd2 a b);have hcs:=za4 a b;obtain⟨np,nc,ip,ic,rfl,rfl⟩:=ha.form;obtain⟨np2,nc2,ip2,ic2,rfl,rfl⟩:=hb.form;generalize Zn a b=r at *;generalize QG a b=q at *;generalize yp a=ca at *;generalize yp b=cb at *;generalize a.nodes.length=n1 at *;generalize a.items.length=m1 at *;generalize b.nodes.length=n2 at *;generalize b.items.length=m2 at *;have h0:=zC [.cells #[.slice np n1 nc,.slice ip m1 ic] 26 (0,0),.cells #[.slice np2 n2 nc2,.slice ip2 m2 ic2] 26 (0,0)] w;have hAl:Below w.heap.size w _:=zK [.cells #[.slice np n1 nc,.slice ip m1 ic] 26 (0,0),.cells #[.slice np2 n2 nc2,.slice ip2 m2 ic2] 26 (0,0)] w;simp only[List.foldl_cons,List.foldl_nil] at hAl h0;have r0:=h0 0 _ rfl;rw[Nat.add_zero] at r0;have r1:=h0 1 _ rfl;have c0:=zd r0 0;have c1:=zd r0 1;have d0:=zd r1 0;have d1:=zd r1 1;have HAl:=zi hAl;clear h0 hAl r0 r1 ha hb hA hB;go_enter func37,ntmps37;go_wp2_with fail;refine (hC1.out _ HAl.out).mono ?_;rintro e w1 ⟨rfl,hb1⟩;have c0:=zj hb1 c0;have c1:=zj hb1 c1;have d0:=zj hb1 d0;have d1:=zj hb1 d1;have hbe:=zf HAl.out hb1;rcases hcs with⟨h1,rfl⟩|⟨h1,h2,rfl⟩|⟨h1,h2,rfl⟩
 ·have h1':((ca:Int) != 0)=true:=by rw[wV];omega
  go_wp2;go_ret2;exact⟨rfl,hbe⟩
 ·subst h1;go_wp2_with fail;refine (hC2.out _ hbe).mono ?_;rintro e w2 ⟨rfl,hb2⟩;have h1':((cb:Int) != 0)=true:=by rw[wV];omega
  go_wp2;go_ret2;exact⟨rfl,zf hbe hb2⟩
 ·subst h1 h2;go_wp2_with fail;refine (hC2.out _ hbe).mono ?_;rintro e w2 ⟨rfl,hb2⟩;have c0:=zj hb2 c0;have c1:=zj hb2 c1;have d0:=zj hb2 d0;have d1:=zj hb2 d1;have hbe:=zf hbe hb2;go_wp2_with fail;refine (hAk.out _ hbe).mono ?_;rintro e w3 ⟨s,rfl,hs,hb3⟩;have hqs:s=q:=pS.2 (hs.trans hsm.out);subst hqs;clear hs hsm;go_wp2;go_ret2;exact⟨rfl,zf hbe hb3⟩
theorem zcl(a b:zQ):(yp a≠0/\uP a b=(⟨[],[]⟩,yp a))\/(yp a=0/\yp b≠0/\uP a b=(⟨[],[]⟩,yp b))\/(yp a=0/\yp b=0/\uP a b=if 1000<a.nodes.length+b.nodes.length\/40<a.items.length+b.items.length then (⟨[],[]⟩,5) else (kD a b,0)):=by
 unfold uP;by_cases h:yp a=0
 ·by_cases h2:yp b=0
  ·right;right;simp[h,h2]
  ·right;left;simp[h,h2]
 ·left;simp[h]
theorem QP(l:List Nd):xH l 0=l:=by
 unfold xH;have:(fun x:Nd=>{x with kids:=x.kids.map fun k=>k+0})=id:=by
  funext x;obtain⟨_,_,_,_,_⟩:=x;simp
 rw[this,List.map_id]
theorem zb4(l:List Nd)(d:Int){j:Nat}{x:Nd}(hx:l[j]? =some x):xH (l.take (j+1)) d=xH (l.take j) d ++ [ZK x d]:=by
 unfold xH;rw[wY,hx,List.map_append];rfl
def jn1(a b:zQ)(j:Nat):zQ:=⟨a.nodes ++ xH (b.nodes.take j) a.nodes.length,a.items⟩
def Qj(a b:zQ)(j:Nat):zQ:=⟨a.nodes ++ xH b.nodes a.nodes.length,a.items ++ (b.items.take j).map (· +(a.nodes.length:Int))⟩
theorem ziN(a b:zQ){j:Nat}(h:j<=b.nodes.length):(jn1 a b j).nodes.length=a.nodes.length+j:=by
 unfold jn1 xH;simp;omega
theorem zaT(a b:zQ){j:Nat}(h:j<=b.items.length):(Qj a b j).items.length=a.items.length+j:=by
 unfold Qj;simp;omega
theorem zhi(a b:zQ){j:Nat}{x:Nd}(hx:b.nodes[j]? =some x):jn1 a b (j+1)=⟨(jn1 a b j).nodes ++ [ZK x a.nodes.length],(jn1 a b j).items⟩:=by
 unfold jn1;rw[zb4 _ _ hx,gD]
theorem zcm(a b:zQ){j:Nat}(h:j<b.items.length):Qj a b (j+1)=⟨(Qj a b j).nodes,(Qj a b j).items ++ [b.items.getD j 0+(a.nodes.length:Int)]⟩:=by
 unfold Qj;rw[wY,glE h,pB,glE h,List.map_append,gD];rfl
theorem ziO(a b:zQ):jn1 a b b.nodes.length=Qj a b 0:=by simp[jn1,Qj]
theorem zeC(a b:zQ):Qj a b b.items.length=kD a b:=by simp[Qj,kD,QP]
theorem zfs(a b:zQ)(nv iv nv2 iv2:Value)(w:World)(ha:Qx w nv iv a)(hb:Qx w nv2 iv2 b)(hA:TrB a)(hB:TrB b):
 Calls prog 38 #[.agg #[nv,iv],.agg #[nv2,iv2]] w (zi8 w (uP a b)):=by
 have hC1:=zi (fun W (hW:Below w.heap.size w W)=>Za a nv iv W (ha.below hW) hA.n hA.i hA.k hA.t);have hC2:=zi (fun W (hW:Below w.heap.size w W)=>Za b nv2 iv2 W (hb.below hW) hB.n hB.i hB.k hB.t);have hcs:=zcl a b;have hba:=zi (fun h=>uf (t:=a) h);have hbb:=zi (fun h=>uf (t:=b) h);have hCp:=zi (fun (h:yp a=0) W (hW:Below w.heap.size w W)=>JQ a nv iv W (ha.below hW) (fun x hx k hk=>by have:=(uf h).2.2.1 x hx k hk;unfold Jh;omega) hA.n hA.i hA.k);have Hb:=zi hb;have HkB:=zi hB.k;obtain⟨np,nc,ip,ic,rfl,rfl⟩:=ha.form;obtain⟨np2,nc2,ip2,ic2,rfl,rfl⟩:=hb.form;obtain⟨n1,hn1⟩:∃n,a.nodes.length=n:=⟨_,rfl⟩;obtain⟨m1,hm1⟩:∃n,a.items.length=n:=⟨_,rfl⟩;obtain⟨n2,hn2⟩:∃n,b.nodes.length=n:=⟨_,rfl⟩;obtain⟨m2,hm2⟩:∃n,b.items.length=n:=⟨_,rfl⟩;rw[hn1,hm1] at hC1 hCp;rw[hn2,hm2] at hC2 Hb;rw[hn1,hm1,hn2,hm2] at hcs;rw[hn1,hm1] at hba;rw[hn2,hm2] at hbb;simp only[hn1,hm1,hn2,hm2];generalize uP a b=r at *;have h0:=zC [.cells #[.slice np n1 nc,.slice ip m1 ic] 26 (0,0),.cells #[.slice np2 n2 nc2,.slice ip2 m2 ic2] 26 (0,0),.cells #[.slice none 0 0,.slice none 0 0] 26 (0,0)] w;have hAl:Below w.heap.size w _:=zK [.cells #[.slice np n1 nc,.slice ip m1 ic] 26 (0,0),.cells #[.slice np2 n2 nc2,.slice ip2 m2 ic2] 26 (0,0),.cells #[.slice none 0 0,.slice none 0 0] 26 (0,0)] w;have hsz:=uy [.cells #[.slice np n1 nc,.slice ip m1 ic] 26 (0,0),.cells #[.slice np2 n2 nc2,.slice ip2 m2 ic2] 26 (0,0),.cells #[.slice none 0 0,.slice none 0 0] 26 (0,0)] w;simp only[List.foldl_cons,List.foldl_nil,pQ,wD] at hAl h0 hsz;have r0:=h0 0 _ rfl;rw[Nat.add_zero] at r0;have r1:=h0 1 _ rfl;have r2:=h0 2 _ rfl;have c0:=zd r0 0;have c1:=zd r0 1;have Hn1:=zi hn1;have Hm1:=zi hm1;have Hn2:=zi hn2;have Hm2:=zi hm2;clear h0 ha hb hA hB hn1 hm1 hn2 hm2;have R0:=zi r0;have R1:=zi r1;have R2:=zi r2;have HAl:=zi hAl;have Hsz:=zi hsz;clear r0 r1 r2 hAl hsz;go_enter func38,ntmps38;go_wp2_with fail;refine (hC1.out _ HAl.out).mono ?_;rintro e w1 ⟨rfl,hb1⟩;have R0:=zi (zh hb1 R0.out);have R1:=zi (zh hb1 R1.out);have R2:=zi (zh hb1 R2.out);have Hsz1:=zi (pR (Nat.le_of_eq Hsz.out.symm) hb1.size);have hbe:=zf HAl.out hb1;clear c0 c1 hb1;have ret0:∀(W:World) (x:Nat),Below w.heap.size w W->W.heap[w.heap.size+2]? =some (.cells #[.slice none 0 0,.slice none 0 0] 26 (0,0))->zi8 w (⟨[],[]⟩,x) (.returned (.tuple #[.agg #[.slice none 0 0,.slice none 0 0],.int .i64 x])) ((W.setCell ⟨w.heap.size+2,0,none⟩ (.slice none 0 0)).setCell ⟨w.heap.size+2,1,none⟩ (.slice none 0 0)):=fun W x hW h=>⟨hW.trans ((yE h _ _).2 _ (by omega)),_,_,rfl,TR.nil _⟩
 replace ret0:=zi ret0;rcases hcs with⟨h1,rfl⟩|⟨h1,h2,rfl⟩|⟨h1,h2,hr⟩
 ·have h1':((yp a:Int) != 0)=true:=by rw[wV];omega
  have z0:=zd R2.out 0;have z1:=zd R2.out 1;have f0:=zk R2.out 0;have f1:=zk R2.out 1;generalize yp a=ca at *;go_wp2_with fail;obtain⟨q1,_⟩:=yE R2.out (.slice none 0 0) (.slice none 0 0);refine bodyPost_ret (v:=.tuple #[.agg #[.slice none 0 0,.slice none 0 0],.int .i64 ca]) (by simp[results,results38,go_sem,zd q1]) rfl (ret0.out _ ca hbe R2.out)
 ·have c0:=zd R1.out 0;have c1:=zd R1.out 1;rw[h1];go_wp2_with fail;refine (hC2.out _ hbe).mono ?_;rintro e w2 ⟨rfl,hb2⟩;have R2:=zi (zh hb2 R2.out);have hbe:=zf hbe hb2;have h1':((yp b:Int) != 0)=true:=by rw[wV];omega
  have z0:=zd R2.out 0;have z1:=zd R2.out 1;have f0:=zk R2.out 0;have f1:=zk R2.out 1;generalize yp b=cb at *;clear c0 c1 hb2;go_wp2_with fail;obtain⟨q1,_⟩:=yE R2.out (.slice none 0 0) (.slice none 0 0);refine bodyPost_ret (v:=.tuple #[.agg #[.slice none 0 0,.slice none 0 0],.int .i64 cb]) (by simp[results,results38,go_sem,zd q1]) rfl (ret0.out _ cb hbe R2.out)
 ·have Hr:=zi hr;clear hr;have c0:=zd R1.out 0;have c1:=zd R1.out 1;have hCp:=zi (hCp.out h1);obtain⟨ba1,ba2,ba3,ba4⟩:=hba.out h1;obtain⟨bb1,bb2,bb3,bb4⟩:=hbb.out h2;replace ba3:=zi ba3;replace ba4:=zi ba4;replace bb3:=zi bb3;replace bb4:=zi bb4;rw[h1];go_wp2_with fail;refine (hC2.out _ hbe).mono ?_;rintro e w2 ⟨rfl,hb2⟩;rw[h2];have R0:=zi (zh hb2 R0.out);have R1:=zi (zh hb2 R1.out);have R2:=zi (zh hb2 R2.out);have hs2:w.heap.size+3<=w2.heap.size:=pR Hsz1.out hb2.size;have hbe:=zf hbe hb2;clear c0 c1 hb2 hC1 hC2 hba hbb h1 h2;have hS:∀V,(zju (w.heap.size+3)).rel w2.drew V->(V.cell? ⟨w.heap.size,0,none⟩=some (.slice np n1 nc)/\V.cell? ⟨w.heap.size,1,none⟩=some (.slice ip m1 ic)):=fun V h=>
   ⟨(World.cell?_of_block (h.block w.heap.size (by omega))).trans (zd R0.out 0),(World.cell?_of_block (h.block w.heap.size (by omega))).trans (zd R0.out 1)⟩
  have hbd:Below w.heap.size w w2.drew:=zf hbe (pE _ w2).drew;go_wp2_with fail;refine LodeX.zmj (RR:=zju (w.heap.size+3)) (Xp:=fun _ _=>False) [(0,1),(2,0),(3,1),(4,0)] 1 5 [(6,2),(7,0)] (fun a0 a' w'=>∃ob nv3 iv3 kv3,a'=((((((a0.put (some 24) (.agg #[.slice np n1 nc,.slice ip m1 ic])).put (some 26) (.pointer (some ⟨w.heap.size,0,none⟩))).put (some 27) (.slice np n1 nc)).put (some 28) (.int .i64 n1)).put (some 25) (.agg #[nv3,iv3])).put (some 8) (.pointer (some ⟨ob,0,none⟩))).put (some 9) (.int .i64 n1)/\w.heap.size+3<=ob/\w'.heap[ob]? =some (.cells #[nv3,iv3] 26 (0,0))/\ki w' (w.heap.size+3) nv3 iv3 a kv3/\Below (w.heap.size+3) w2.drew w') ?_ ?_
  ·refine LodeX.qg ?_;clear hS;refine LodeX.zm fun W hW=>?_
   cases hW;refine⟨?_,?_⟩
   ·refine LodeX.callX fun K hK=>?_
    go_simp;refine (hCp.out w2.drew hbd).mono ?_;rintro e w3 ⟨nv3,iv3,rfl,⟨kv3,O3⟩,B3⟩;have hs3:w2.heap.size<=w3.heap.size:=B3.size;have B3':Below (w.heap.size+3) w2.drew w3:=B3.mono (show w.heap.size+3<=w2.heap.size from hs2);refine⟨B3',hK _ _ ?_⟩;clear hK K;have O3:=O3.mono (B':=w.heap.size+3) (show w.heap.size+3<=w2.heap.size+2 by omega);obtain⟨p5,c5,q5,e5,rfl,rfl⟩:=O3.tr.form
    try simp only[Act.put,yh,yf,yg]
    refine LodeX.callX fun K hK=>?_
    go_simp;have hba:=zg w3 (.cells #[.slice none 0 0,.slice none 0 0] 26 (0,0));have hz:=zl w3 (.cells #[.slice none 0 0,.slice none 0 0] 26 (0,0));refine⟨hba.mono (by omega),hK _ _ ?_⟩;clear hK K
    try simp only[Act.put,yh,yf,yg]
    have z0:=zd hz 0;have z1:=zd hz 1;have f0:=zk hz 0;have f1:=zk hz 1;have hba2:=zg w3 (.cells #[.slice p5 a.nodes.length c5,.slice q5 a.items.length e5] 26 (0,0));have hz2:=zl w3 (.cells #[.slice p5 a.nodes.length c5,.slice q5 a.items.length e5] 26 (0,0));have hst:=zi (show Below (w.heap.size+3) (w3.alloc (.cells #[.slice none 0 0,.slice none 0 0] 26 (0,0))) (w3.alloc (.cells #[.slice p5 a.nodes.length c5,.slice q5 a.items.length e5] 26 (0,0))) from ⟨rfl,rfl,rfl,by simp,fun k hk=>by rw[Below.heap_alloc w3 _ k (by omega),Below.heap_alloc w3 _ k (by omega)]⟩);refine LodeX.callX fun K hK=>?_
    go_simp;refine⟨hst.out,hK _ _ ?_⟩;clear hK K
    try simp only[Act.put,yh,yf,yg]
    refine LodeX.qg ?_;refine LodeX.zm fun W hW=>?_
    cases hW;refine⟨w3.heap.size,_,_,kv3,?_,by omega,hz2,O3.below hba2,B3'.trans (hba2.mono (by omega))⟩;simp only[Act.put,yh,yf,yg]
   ·refine LodeX.callX fun K hK=>?_
    go_simp;have hba:=zg w2.drew (.cells #[.slice none 0 0,.slice none 0 0] 26 (0,0));have hz:(w2.drew.alloc (.cells #[.slice none 0 0,.slice none 0 0] 26 (0,0))).heap[w2.heap.size]? =some (.cells #[.slice none 0 0,.slice none 0 0] 26 (0,0)):=zl w2.drew _;have hba':Below (w.heap.size+3) w2.drew _:=hba.mono (show w.heap.size+3<=w2.heap.size from hs2);refine⟨hba',hK _ _ ?_⟩;clear hK K
    try simp only[Act.put,yh,yf,yg]
    refine LodeX.callX fun K hK=>?_
    go_simp;refine (hCp.out _ (zf hbd hba)).mono ?_;rintro e w3 ⟨nv3,iv3,rfl,⟨kv3,O3⟩,B3⟩;have hs3:=B3.size;simp only[World.size_alloc] at hs3 O3;refine⟨B3.mono (by simp;omega),hK _ _ ?_⟩;clear hK K;have O3:=O3.mono (B':=w.heap.size+3) (by simp;omega);have hz:=zh B3 hz;have B3':=hba'.trans (B3.mono (by simp;omega));obtain⟨p5,c5,q5,e5,rfl,rfl⟩:=O3.tr.form
    try simp only[Act.put,yh,yf,yg]
    have z0:=zd hz 0;have z1:=zd hz 1;have f0:=zk hz 0;have f1:=zk hz 1;obtain⟨q1,q2⟩:=yE hz (.slice p5 a.nodes.length c5) (.slice q5 a.items.length e5);have O4:=(O3.setBox hz (by decide) (by decide) 0 (.slice p5 a.nodes.length c5)).setBox (zo hz 0 (.slice p5 a.nodes.length c5)) (by decide) (by decide) 1 (.slice q5 a.items.length e5);refine LodeX.callX fun K hK=>?_
    go_simp;refine⟨q2 _ (show w.heap.size+3<=w2.heap.size from hs2),hK _ _ ?_⟩;clear hK K
    try simp only[Act.put,yh,yf,yg]
    refine LodeX.qg ?_;refine LodeX.zm fun W hW=>?_
    cases hW;refine⟨w2.heap.size,_,_,kv3,?_,hs2,q1,O4,B3'.trans (q2 _ (show w.heap.size+3<=w2.heap.size from hs2))⟩;simp only[Act.put,yh,yf,yg]
  rintro a' W ⟨ob,nv3,iv3,kv3,rfl,hob,q1,O4,hbW⟩;clear hS;simp only[Act.put,yh,yf,yg];have R1:=(hbW.block (w.heap.size+1) (by omega)).trans R1.out;have R2:=(hbW.block (w.heap.size+2) (by omega)).trans R2.out;have hbe:=hbd.trans (hbW.mono (by omega));have Hst:=zi (show zae (w.heap.size+3) ob (jn1 a b) n2 W (.int .i64 0) W from ⟨0,nv3,iv3,kv3,rfl,pX _,q1,by simpa[jn1,xH] using O4,pE _ _⟩);replace R1:=zi R1;replace R2:=zi R2;clear q1 O4 hbW hbd;go_wp2;go_loopw [10] (zae (w.heap.size+3) ob (jn1 a b) n2 W) (fun i _=>n2-(intOf i).toNat)
  case atStart=>exact Hst.out
  case round=>
   obtain⟨j,nv,iv,kv,rfl,hj,hbox,hO,hf⟩:=hrel;have R1r:=(hf.block (w.heap.size+1) (by omega)).trans R1.out;have y0:=zd R1r 0;have hlt1:ob<wr.heap.size:=(gtA hbox);by_cases hlt:j<n2
   ·have hlt':(j:Int)<(n2:Int):=by omega
    have hj0:¬((j:Int)<0):=by omega
    have hy:=pF ((j:Int)+1) (by omega);obtain⟨x,hx⟩:∃x,b.nodes[j]? =some x:=⟨_,glE (by rw[Hn2.out];exact hlt)⟩;have hmem:x∈b.nodes:=pW hx;obtain⟨g2,off2,u,rfl,N0⟩:=Hb.out.nodes.at hx;have hg2:g2<w.heap.size:=World.block_lt_of_cell? w _ N0.c0;have N:=N0.below (hbe.trans (hf.mono (by omega)));have hx64:∀k∈x.kids,Jh (k+(n1:Int)):=fun k hk=>zap (bb3.out x hmem k hk) (by omega)
    have hxk:=HkB.out x hmem;have hS:∀V,(zf7 (w.heap.size+3) ob 0).rel wr.drew V->(V.cell? ⟨ob,0,none⟩=some nv/\V.cell? ⟨w.heap.size+1,0,none⟩=some (.slice (some ⟨g2,off2,none⟩) n2 nc2)/\V.cell? ⟨g2,off2+j*5,none⟩=some (.int .u8 x.kind)/\V.cell? ⟨g2,off2+j*5+1,none⟩=some (.string ⟨x.text.toArray⟩)/\V.cell? ⟨g2,off2+j*5+2,none⟩=some (.int .i64 x.n)/\V.cell? ⟨g2,off2+j*5+3,none⟩=some u/\V.cell? ⟨g2,off2+j*5+4,none⟩=some (.int .i64 x.at_)):=fun V h=>by
     have key:∀k i y,k<w.heap.size+3->wr.cell? ⟨k,i,none⟩=some y->V.cell? ⟨k,i,none⟩=some y:=fun k i y hk hh=>by
      rw[World.cell?_of_block (h.1.block k hk)];exact hh
     exact⟨h.2.trans (zd hbox 0),key _ _ _ (by omega) y0,key _ _ _ (by omega) N.c0,key _ _ _ (by omega) N.c1,key _ _ _ (by omega) N.c2,key _ _ _ (by omega) N.c3,key _ _ _ (by omega) N.c4⟩
    have hstep:=zhi a b hx;have hTn:=ziN a b (j:=j) (by rw[Hn2.out];exact hj);rw[Hn1.out] at hstep hTn;obtain⟨T,hT⟩:=exE (jn1 a b j);obtain⟨y,hyd⟩:=exE (ZK x (n1:Int));rw[hT,hyd] at hstep;rw[hT] at hO hTn;have hTb:T.nodes.length<=100000:=by omega
    have Hstep:=zi hstep;clear hT hstep hTn;go_wp2_with fail;refine LodeX.qJ (RR:=zf7 (w.heap.size+3) ob 0) (Xp:=fun _ _=>False) [(0,0),(1,1),(2,0),(3,1),(4,0),(5,0),(6,1),(7,0),(8,2),(9,2),(10,2),(11,0),(12,3)] ?_;refine LodeX.qg ?_;clear hS;refine LodeX.callX fun K hK=>?_
    go_simp;refine (JP x u n1 _ (N.kids.below bR.drew) hx64 hxk).mono ?_;rintro e w3 ⟨v3,rfl,K3,B3,F3⟩;rw[hyd] at K3 ⊢;have hdn:∀g,xl v3=some g->iv.ownBlock≠some g:=fun g hg e=>by
     have h1:wr.heap.size<=g:=F3 g hg;have h2:=(hO.i.lt g e).2;omega
    obtain⟨p3,c3,rfl⟩:=K3.form;have O3:ki w3 _ _ _ _ _:=ki.below (w:=wr.drew) hO.drew B3;have hbox3:w3.heap[ob]? =_:=zh (w:=wr.drew) B3 hbox;have hs3:wr.heap.size<=w3.heap.size:=B3.size;refine⟨⟨B3.mono (show w.heap.size+3<=wr.heap.size by omega),(zd hbox3 0).trans (zd hbox 0).symm⟩,hK _ _ ?_⟩;clear hK K
    try simp only[Act.put,yh,yf,yg]
    refine LodeX.callX fun K hK=>?_
    go_simp;have hba:=zg w3 (.cells (xh y (.slice p3 y.kids.length c3)).toArray 60 (0,0));have O3b:=O3.below hba;have hbox3b:=zh hba hbox3;refine⟨⟨hba.mono (by omega),(zd hbox3b 0).trans (zd hbox3 0).symm⟩,hK _ _ ?_⟩;clear hK K
    try simp only[Act.put,yh,yf,yg]
    refine LodeX.callX fun K hK=>?_
    refine zbi (base:=w.heap.size+3) (b:=w3.heap.size) (y:=y) (u:=.slice p3 y.kids.length c3) _ _ rfl (by rfl) O3b.n (by rfl) (zl w3 _) rfl (by omega) (by simp;omega) ?_;intro v' w4 hrow hgrow;have O4:=O3b.addNode hrow hgrow (by simp;omega) (K3.below hba) hdn;have hbox4:w4.heap[ob]? =_:=(hgrow.block ob (by simp;omega) (fun e=>ZF O3b.n hbox3b (by decide) e.symm)).trans hbox3b;have hf4:=(Jr (base:=w.heap.size+3) O3b.n hgrow (by simp;omega)).b;have hf5:=((hf.trans ((pE _ wr).drew.trans (B3.mono (show w.heap.size+3<=wr.heap.size by omega)))).trans (hba.mono (by omega))).trans hf4;refine⟨⟨hf4,(zd hbox4 0).trans (zd hbox3b 0).symm⟩,hK _ _ ?_⟩;clear hK K;obtain⟨vp,vc,rfl⟩:∃vp vc,v'=.slice vp (T.nodes.length+1) vc:=by
     rcases hrow.2 with⟨_,h0⟩|⟨g',cap',cur,hv,_⟩
     ·omega
     ·exact⟨_,cap',hv⟩
    have d0:=zd hbox4 0;have e0:=zk hbox4 0;have HF:=zi (And.intro hbox4 (And.intro O4 hf5));clear hrow hgrow hO O3 O3b O4 hdn hf hf4 hf5 hbox hbox3 hbox3b hbox4 K3 B3 F3 hba hyd hx64 N N0
    try simp only[Act.put,yh,yf,yg]
    refine LodeX.qg ?_;refine LodeX.kP rfl rfl (fun V hV=>?_);cases hV;go_simp;refine LodeX.jM ?_;go_wp2;go_roundw
    case rel=>exact⟨j+1,_,_,_,by go_num,by omega,zo HF.out.1 0 _,by rw[Hstep.out];exact HF.out.2.1.setBox HF.out.1 (by decide) (by decide) 0 _,HF.out.2.2.setCell (by omega) _⟩
    case measure=>simp[intOf];omega
   ·have hlt':¬((j:Int)<(n2:Int)):=by omega
    have hjn:j=n2:=by omega
    have hst2:=zi (show zae (w.heap.size+3) ob (Qj a b) m2 W (.int .i64 0) wr from ⟨0,nv,iv,kv,rfl,pX _,hbox,by rw[<-ziO,Hn2.out,<-hjn];exact hO,hf⟩);clear hO hbox hf hlt1 R1r;go_wp2_with fail;clear y0;go_loopw [11] (zae (w.heap.size+3) ob (Qj a b) m2 W) (fun i _=>m2-(intOf i).toNat)
    case atStart=>exact hst2.out
    case round=>
     obtain⟨j,nv,iv,kv,rfl,hj,hbox,hO,hf⟩:=hrel;have R1r:=(hf.block (w.heap.size+1) (by omega)).trans R1.out;have y1:=zd R1r 1;have hlt1:ob<wr.heap.size:=(gtA hbox);by_cases hlt:j<m2
     ·have hlt':(j:Int)<(m2:Int):=by omega
      have hj0:¬((j:Int)<0):=by omega
      have hy:=pF ((j:Int)+1) (by omega);have hjl:j<b.items.length:=by rw[Hm2.out];exact hlt
      obtain⟨g2,off2,rfl,k0⟩:=Hb.out.items.at hjl;have hg2:g2<w.heap.size:=World.block_lt_of_cell? w _ k0;have k0:=zj (hbe.trans (hf.mono (by omega))) k0;have hzb:=bb4.out (b.items.getD j 0) (by rw[pB,glE hjl];exact wK hjl);have hstep:=zcm a b hjl;have hTn:=zaT a b (j:=j) (by rw[Hm2.out];exact hj);rw[Hn1.out] at hstep;rw[Hm1.out] at hTn;generalize b.items.getD j 0=z at *;have hwr:=pF (z+(n1:Int)) (by omega);obtain⟨T,hT⟩:=exE (Qj a b j);rw[hT] at hstep hO hTn;have hTb:T.items.length<=100000:=by omega
      have Hstep:=zi hstep;clear hT hstep hTn;have hS:∀V,(zf7 (w.heap.size+3) ob 1).rel wr.drew V->(V.cell? ⟨ob,1,none⟩=some iv/\V.cell? ⟨w.heap.size+1,1,none⟩=some (.slice (some ⟨g2,off2,none⟩) m2 ic2)/\V.cell? ⟨g2,off2+j,none⟩=some (.int .i64 z)):=fun V h=>by
       have key:∀k i y,k<w.heap.size+3->wr.cell? ⟨k,i,none⟩=some y->V.cell? ⟨k,i,none⟩=some y:=fun k i y hk hh=>by
        rw[World.cell?_of_block (h.1.block k hk)];exact hh
       exact⟨h.2.trans (zd hbox 1),key _ _ _ (by omega) y1,key _ _ _ (by omega) k0⟩
      go_wp2_with fail;refine LodeX.qJ (RR:=zf7 (w.heap.size+3) ob 1) (Xp:=fun _ _=>False) [(0,0),(1,1),(2,0),(3,1),(4,0),(5,0),(6,1),(7,0),(8,0),(9,2),(10,2),(11,0),(12,3)] ?_;refine LodeX.qg ?_;clear hS;refine LodeX.callX fun K hK=>?_
      go_simp;have hba:=zg wr.drew (.cells #[.int .i64 (z+(n1:Int))] 3 (0,0));have O3b:ki (wr.drew.alloc (.cells #[.int .i64 (z+(n1:Int))] 3 (0,0))) _ _ _ _ _:=ki.below (w:=wr.drew) hO.drew hba;have hbox3b:=zh (w:=wr.drew) hba hbox;refine⟨⟨hba.mono (show w.heap.size+3<=wr.heap.size by omega),(zd hbox3b 1).trans (zd hbox 1).symm⟩,hK _ _ ?_⟩;clear hK K
      try simp only[Act.put,yh,yf,yg]
      refine LodeX.callX fun K hK=>?_
      refine jo _ _ rfl (by rfl) O3b.i (by rfl) (zd (zl wr.drew _) 0) rfl rfl (by omega) (by simp;omega) ?_;intro g' cap' w4 hrow hgrow hg';have O4:=O3b.addItem hrow hgrow (hg'.elim (fun h=>.inl h.symm) (fun h=>.inr (fun g e=>by
       simp only[Value.ownBlock,wP] at e;exact Nat.le_of_eq (h.symm.trans e))))
      have hbox4:w4.heap[ob]? =_:=(hgrow.block ob (by simp;omega) (fun e=>ZF O3b.i hbox3b (by decide) e.symm)).trans hbox3b;have hf4:=(pE (w.heap.size+3) (wr.drew.alloc (.cells #[.int .i64 (z+(n1:Int))] 3 (0,0)))).grown hgrow (by simp;omega) (fun k hk=>(O3b.i.lt k hk).1);have hf5:=(hf.trans ((pE _ wr).drew.trans (hba.mono (show w.heap.size+3<=wr.heap.size by omega)))).trans hf4;refine⟨⟨hf4,(zd hbox4 1).trans (zd hbox3b 1).symm⟩,hK _ _ ?_⟩;clear hK K;have d1:=zd hbox4 1;have e1:=zk hbox4 1;have HF:=zi (And.intro hbox4 (And.intro O4 hf5));clear hrow hgrow hg' hO O3b O4 hf hf4 hf5 hbox hbox3b hbox4 hba k0
      try simp only[Act.put,yh,yf,yg]
      refine LodeX.qg ?_;refine LodeX.kP rfl rfl (fun V hV=>?_);cases hV;go_simp;refine LodeX.jM ?_;go_wp2;go_roundw
      case rel=>exact⟨j+1,_,_,_,by go_num,by omega,zo HF.out.1 1 _,by rw[Hstep.out];exact HF.out.2.1.setBox HF.out.1 (by decide) (by decide) 1 _,HF.out.2.2.setCell (by omega) _⟩
      case measure=>simp[intOf];omega
     ·have hlt':¬((j:Int)<(m2:Int)):=by omega
      obtain rfl:m2=j:=by omega
      have hTn:=zaT a b (j:=m2) (by rw[Hm2.out];exact hj);have hTn2:(Qj a b m2).nodes.length=n1+n2:=by
       unfold Qj xH;simp[Hn1.out,Hn2.out]
      have hTj:Qj a b m2=kD a b:=by
       have:=zeC a b
       rwa [Hm2.out] at this
      rw[Hm1.out] at hTn;rw[hTj] at hO hTn2 hTn;obtain⟨p5,c5,q5,e5,rfl,rfl⟩:=hO.tr.form;rw[hTn2,hTn] at *;clear hTj;have o0:=zd hbox 0;have o1:=zd hbox 1;have R2r:=(hf.block (w.heap.size+2) (by omega)).trans R2.out;have z0:=zd R2r 0;have z1:=zd R2r 1;have f0:=zk R2r 0;have f1:=zk R2r 1;have hbf:=hbe.trans (hf.mono (by omega));have HF:=zi (And.intro R2r (And.intro hO hbf));clear R2r hO hbf hf hbox R1r;by_cases h1000:1000<n1+n2
      ·have hq:((1000:Int)<((n1+n2:Nat):Int)):=by omega
       go_wp2_with fail;obtain⟨q1,_⟩:=yE HF.out.1 (.slice none 0 0) (.slice none 0 0);refine bodyPost_ret (v:=.tuple #[.agg #[.slice none 0 0,.slice none 0 0],.int .i64 (5:Nat)]) (by simp[results,results38,go_sem,zd q1]) rfl (by rw[Hr.out,if_pos (by omega)];exact ret0.out _ 5 HF.out.2.2 HF.out.1)
      ·have hq:¬((1000:Int)<((n1+n2:Nat):Int)):=by omega
       by_cases h40:40<m1+m2
       ·have hq2:((40:Int)<((m1+m2:Nat):Int)):=by omega
        go_wp2_with fail;obtain⟨q1,_⟩:=yE HF.out.1 (.slice none 0 0) (.slice none 0 0);refine bodyPost_ret (v:=.tuple #[.agg #[.slice none 0 0,.slice none 0 0],.int .i64 (5:Nat)]) (by simp[results,results38,go_sem,zd q1]) rfl (by rw[Hr.out,if_pos (by omega)];exact ret0.out _ 5 HF.out.2.2 HF.out.1)
       ·have hq2:¬((40:Int)<((m1+m2:Nat):Int)):=by omega
        go_wp2_with fail;obtain⟨q1,q2⟩:=yE HF.out.1 (.slice p5 (n1+n2) c5) (.slice q5 (m1+m2) e5);refine bodyPost_ret (v:=.tuple #[.agg #[.slice p5 (n1+n2) c5,.slice q5 (m1+m2) e5],.int .i64 (0:Nat)]) (by simp[results,results38,go_sem,zd q1]) rfl ?_;rw[Hr.out,if_neg (by omega)];exact⟨HF.out.2.2.trans (q2 w.heap.size (by omega)),_,_,rfl,((HF.out.2.1.setBox HF.out.1 (by decide) (by decide) 0 _).setBox (zo HF.out.1 0 _) (by decide) (by decide) 1 _).tr⟩
end
end Go.Proofs.YtcagibbaeageoaaGreatDoor
