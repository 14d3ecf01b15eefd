/-
  A part of the proof: contracts of functions; no conditions.
-/
import Derived.Test.YtcagibbaeageoaaGreatDoorEL
import Derived.Test.YtcagibbaeageoaaGreatDoorEO
import Derived.Carry
import Derived.Lib.OthersKept
set_option maxRecDepth 100000
set_option maxHeartbeats 40000000
set_option linter.unusedSimpArgs false
set_option linter.unusedVariables false
namespace Go.Proofs.YtcagibbaeageoaaGreatDoor
section
open Go.RowKit Lode Go.Shelf
attribute [local go_sem ↓] Go.wp_at_zero Go.wp_at_succ
open Go.Proofs.Tryz
section
variable {P:Nat} {nv iv:Value} {l:List Nd} {kv:List Value} {pr:Int→List UInt8} {n:Nat}
theorem ziu(H:yH P nv iv l kv pr n)(i:Nat)(t:List UInt8)(k a:Int)(z0:Nat)(l0:z0<n)(w:World)(hC:kO w P nv iv l kv)(hx:l[i]? =some ⟨23,t,k,[(z0:Int)],a⟩)(ht:t.length<=3000):Calls prog 108 #[.pointer (some ⟨P,0,none⟩),.int .i64 i] w (jL w (zF l pr ⟨23,t,k,[(z0:Int)],a⟩)):=by
 obtain⟨R,hR⟩:=exE (zF l pr ⟨23,t,k,[(z0:Int)],a⟩);rw[hR];obtain⟨s,r,nc,gN,oN,uc,up,rfl,hx255,⟨hil,hi0⟩,⟨hu,hcap⟩,⟨a0,a1,a2,a3,a4,cP⟩,h3,wA,hwA,hA,HS⟩:=xZ H hC hx (m:=1) rfl (KI:=23) rfl (lk:= #[.string ⟨#[]⟩,.bool false]) (fun _=>rfl);obtain⟨g,off,rfl,_,d0⟩:=hu.at (j:=0) (by first|omega|simp);replace HS:=zi (fun W (hb:Below wA.heap.size wA W)=>And.intro (HS W hb) (show W.cell? ⟨g,off,none⟩=some (.int .i64 z0) from zj (zf hA hb) d0));have hb0:=zi (show Below wA.heap.size wA wA.drew from bR.drew);simp[zF,yO,zG] at hR;have HK:=zi (fun W (hb:Below w.heap.size w W)=>Zh H z0 8 W (hC.below hb) l0);have s0:(xD l pr z0 8).length<=3200002:=by have:=yX l pr z0 8;have:=H.len z0 l0;omega
 generalize xD l pr z0 8=ps0 at *;have HR:=zi hR;have HwA:=zi hwA;clear hwA hR hC hx hu h3 H;go_enter func108,ntmps108;go_wp2_with fail;rw[HwA.out];clear a0 a1 a2 a3 a4 cP;have hS:=fun W (h:Cl wA.drew W)=>HS.out W (zf hb0.out h.below)
 refine xt [(0,0),(1,0),(2,0),(3,1),(4,0),(5,1),(6,1),(7,0),(8,0),(9,0),(10,0),(11,0)] ?_;refine xL ?_;clear hS;refine zm fun V1 hV1=>?_
 have hb1:=zi (zf hb0.out hV1.below);clear hV1;obtain⟨⟨c0,c1,c2,c3,c4,cP,cS,cR,cL⟩,x0⟩:=HS.out V1 hb1.out;go_wp2_with fail;have hS:=fun W (h:Cl V1.drew W)=>HS.out W (zf hb1.out (zf bR.drew h.below))
 refine xt [(0,0),(1,0),(2,1),(3,0),(4,1),(7,0),(8,1),(5,2),(6,0),(9,0),(10,0)] ?_;have hb1d:=zi (zf hb1.out (pE V1.heap.size V1).drew);refine xL ?_;clear hS;refine zbX rfl rfl (fun _=>by go_simp) hA HK hb1d fun b2 w2 hq2 zz_2 hb2=>?_
 try simp only[Act.put,yh,yf,yg]
 refine xL ?_;refine zm fun W hW=>?_
 have hbW:=zi (zf hb2.out hW.below);clear hW;go_wp2;go_ret;refine⟨_,rfl,?_,zf hA hbW.out⟩;rw[<-HR.out];simp[zv,hq2.out]
theorem zj0(H:yH P nv iv l kv pr n)(i:Nat)(t:List UInt8)(k a:Int)(z0:Nat)(l0:z0<n)(w:World)(hC:kO w P nv iv l kv)(hx:l[i]? =some ⟨6,t,k,[(z0:Int)],a⟩)(ht:t.length<=3000):Calls prog 108 #[.pointer (some ⟨P,0,none⟩),.int .i64 i] w (jL w (zF l pr ⟨6,t,k,[(z0:Int)],a⟩)):=by
 obtain⟨R,hR⟩:=exE (zF l pr ⟨6,t,k,[(z0:Int)],a⟩);rw[hR];obtain⟨s,r,nc,gN,oN,uc,up,rfl,hx255,⟨hil,hi0⟩,⟨hu,hcap⟩,⟨a0,a1,a2,a3,a4,cP⟩,h3,wA,hwA,hA,HS⟩:=xZ H hC hx (m:=1) rfl (KI:=6) rfl (lk:= #[.string ⟨#[]⟩,.bool false]) (fun _=>rfl);obtain⟨g,off,rfl,_,d0⟩:=hu.at (j:=0) (by first|omega|simp);obtain⟨xz,hxz⟩:∃x,l[z0]? =some x:=⟨_,glE (wO l0 H.le)⟩;obtain⟨gN',oN',uz,ez,hNz⟩:=hC.ns.at hxz;cases ez;have hz1:(z0:Int)<(l.length:Int):=by have:=(gtL hxz);omega
 have hz0:¬((z0:Int)<0):=by omega
 have hkz:zE l (z0:Int)=xz.kind:=by
  unfold zE;rw[wG,hxz];rfl
 have b0:=hNz.c0;replace HS:=zi (fun W (hb:Below wA.heap.size wA W)=>And.intro (HS W hb) (show W.cell? ⟨gN,oN+z0*5,none⟩=some (.int .u8 xz.kind)/\W.cell? ⟨g,off,none⟩=some (.int .i64 z0) from ⟨zj (zf hA hb) b0,zj (zf hA hb) d0⟩));have hb0:=zi (show Below wA.heap.size wA wA.drew from bR.drew);simp[zF,yO,zG] at hR;rw[hkz] at hR;have HK:=zi (fun W (hb:Below w.heap.size w W)=>Zh H z0 7 W (hC.below hb) l0);have HN:=zi (fun W (hb:Below w.heap.size w W)=>H.ok W z0 l0 (hC.below hb));have sN:=H.len z0 l0;have s0:(xD l pr z0 7).length<=3200002:=by have:=yX l pr z0 7;have:=H.len z0 l0;omega
 generalize xD l pr z0 7=ps0 at *;generalize pr z0=pz at *;clear hkz hNz hxz b0;have HR:=zi hR;have HwA:=zi hwA;clear hwA hR hC hx hu h3 H;go_enter func108,ntmps108;go_wp2_with fail;rw[HwA.out];clear a0 a1 a2 a3 a4 cP;have hS:=fun W (h:Cl wA.drew W)=>HS.out W (zf hb0.out h.below)
 refine xt [(0,0),(1,0),(2,0),(3,1),(4,0),(5,1),(6,1),(7,0),(8,0),(9,0),(10,0),(11,0)] ?_;refine xL ?_;clear hS;refine zm fun V1 hV1=>?_
 have hb1:=zi (zf hb0.out hV1.below);clear hV1;obtain⟨⟨c0,c1,c2,c3,c4,cP,cS,cR,cL⟩,x0,x1⟩:=HS.out V1 hb1.out;go_wp2_with fail;have hS:=fun W (h:Cl V1.drew W)=>HS.out W (zf hb1.out (zf bR.drew h.below))
 refine xt [(0,0),(1,0),(2,0),(3,0),(4,1),(5,0),(6,1),(7,0),(8,1),(9,0),(10,0),(11,1),(12,0)] ?_;have hb1d:=zi (zf hb1.out (pE V1.heap.size V1).drew);clear c0 c1 c2 c3 c4 cP cS cR cL x0 x1;refine xL ?_;clear hS;refine zm fun V2 hV2=>?_
 have hb2:=zi (zf hb1d.out hV2.below);clear hV2;obtain⟨⟨c0,c1,c2,c3,c4,cP,cS,cR,cL⟩,x0,x1⟩:=HS.out V2 hb2.out;by_cases h6:xz.kind=6
 ·have h6':((xz.kind:Int) == 6)=true:=by rw[wC];omega
  have h:=HR.out;rw[if_pos h6] at h;go_wp2_with fail;refine (HN.out V2 (zf hA hb2.out)).mono ?_;rintro e w3 ⟨b3,rfl,hq3,f3⟩;have zz_3:=xS hq3;replace hq3:=zi hq3;go_wp2;go_ret;refine⟨_,rfl,?_,zf hA (zf hb2.out f3)⟩;rw[<-h];simp[zv,hq3.out]
 ·have h6':((xz.kind:Int) == 6)=false:=bfE (by omega)
  have h:=HR.out;rw[if_neg h6] at h;go_wp2_with fail;refine (HK.out V2 (zf hA hb2.out)).mono ?_;rintro e w3 ⟨b3,rfl,hq3,f3⟩;have zz_3:=xS hq3;replace hq3:=zi hq3;go_wp2;go_ret;refine⟨_,rfl,?_,zf hA (zf hb2.out f3)⟩;rw[<-h];simp[zv,hq3.out]
theorem zaE(K:Nat)(hK:K=25\/K=70\/K=89)(H:yH P nv iv l kv pr n)(i:Nat)(t:List UInt8)(k a:Int)(ks:List Int)(w:World)(hC:kO w P nv iv l kv)(hx:l[i]? =some ⟨K,t,k,ks,a⟩)(ht:t.length<=3000)(hks:∀k∈ks,0<=k/\k<(n:Int))(hkl:ks.length<=100000):Calls prog 108 #[.pointer (some ⟨P,0,none⟩),.int .i64 i] w (jL w (zF l pr ⟨K,t,k,ks,a⟩)):=by
 obtain⟨R,hR⟩:=exE (zF l pr ⟨K,t,k,ks,a⟩);rw[hR];obtain⟨KI,hKI⟩:∃KI:Int,(K:Int)=KI:=⟨_,rfl⟩;rcases hK with rfl|rfl|rfl
 all_goals
  obtain⟨s,r,nc,gN,oN,uc,up,rfl,hx255,⟨hil,hi0⟩,⟨hu,hcap⟩,⟨a0,a1,a2,a3,a4,cP⟩,h3,wA,hwA,hA,HS⟩:=xZ H hC hx (m:=ks.length) rfl (KI:=KI) hKI (lk:= #[.string ⟨#[]⟩,.bool false]) (fun _=>rfl);simp at hKI;subst hKI;have HP:=zi (fun W (hb:Below w.heap.size w W)=>zdv H (.slice up ks.length uc) ks W (hC.below hb) (hu.below hb) hks hkl);have sP:(vG pr ks).length<=320000200002:=by have:=xM H hks hkl;unfold vG;split <;> simp <;> omega
  replace HS:=zi HS;have hb0:=zi (show Below wA.heap.size wA wA.drew from bR.drew);simp[zF,yO,zG] at hR;generalize vG pr ks=pp at *;clear hks;have HR:=zi hR;have HwA:=zi hwA;clear hwA hR hC hx hu h3 H;go_enter func108,ntmps108;go_wp2_with fail;rw[HwA.out];clear a0 a1 a2 a3 a4 cP;have hS:=fun W (h:Cl wA.drew W)=>HS.out W (zf hb0.out h.below)
  refine xt [(0,0),(1,0),(2,0),(3,1),(4,0),(5,1),(6,1),(7,0),(8,0),(9,0),(10,0),(11,0)] ?_;refine xL ?_;clear hS;refine zm fun V1 hV1=>?_
  have hb1:=zi (zf hb0.out hV1.below);clear hV1;obtain⟨c0,c1,c2,c3,c4,cP,cS,cR,cL⟩:=HS.out V1 hb1.out;go_wp2_with fail;have hS:=fun W (h:Cl V1.drew W)=>HS.out W (zf hb1.out (zf bR.drew h.below))
  refine xt [(0,0),(1,1),(2,0),(3,0),(4,1),(5,2),(6,0),(7,0)] ?_;have hb1d:=zi (zf hb1.out (pE V1.heap.size V1).drew);refine xL ?_;clear hS;refine zbX rfl rfl (fun _=>by go_simp) hA HP hb1d fun b2 w2 hq2 zz_2 hb2=>?_
  try simp only[Act.put,yh,yf,yg]
  refine xL ?_;refine zm fun W hW=>?_
  have hbW:=zi (zf hb2.out hW.below);clear hW;go_wp2;go_ret;refine⟨_,rfl,?_,zf hA hbW.out⟩;rw[<-HR.out];simp[zv,hq2.out]
theorem zis(H:yH P nv iv l kv pr n)(i:Nat)(t:List UInt8)(k a:Int)(ks:List Int)(w:World)(hC:kO w P nv iv l kv)(hx:l[i]? =some ⟨28,t,k,ks,a⟩)(ht:t.length<=3000)(hks:∀k∈ks,0<=k/\k<(n:Int))(hkl:ks.length<=100000):Calls prog 108 #[.pointer (some ⟨P,0,none⟩),.int .i64 i] w (jL w (zF l pr ⟨28,t,k,ks,a⟩)):=by
 obtain⟨R,hR⟩:=exE (zF l pr ⟨28,t,k,ks,a⟩);rw[hR];obtain⟨s,r,nc,gN,oN,uc,up,rfl,hx255,⟨hil,hi0⟩,⟨hu,hcap⟩,⟨a0,a1,a2,a3,a4,cP⟩,h3,wA,hwA,hA,HS⟩:=xZ H hC hx (m:=ks.length) rfl (KI:=28) rfl (lk:= #[.string ⟨#[]⟩,.bool false]) (fun _=>rfl);have HP:=zi (show ∀W,Below w.heap.size w W->Calls prog 165 #[.pointer (some ⟨P,0,none⟩),.agg #[.int .u8 28,.string ⟨t.toArray⟩,.int .i64 k,.slice up ks.length uc,.int .i64 a]] W (jL W (ZZ pr ⟨28,t,k,ks,a⟩)) from fun W hb=>zds H ⟨28,t,k,ks,a⟩ (.slice up ks.length uc) W (hC.below hb) (hu.below hb) hks hkl);replace HS:=zi HS;have hb0:=zi (show Below wA.heap.size wA wA.drew from bR.drew);simp[zF,yO,zG] at hR;clear hks;have HR:=zi hR;have HwA:=zi hwA;clear hwA hR hC hx hu h3 H;go_enter func108,ntmps108;go_wp2_with fail;rw[HwA.out];clear a0 a1 a2 a3 a4 cP;have hS:=fun W (h:Cl wA.drew W)=>HS.out W (zf hb0.out h.below)
 refine xt [(0,0),(1,0),(2,0),(3,1),(4,0),(5,1),(6,1),(7,0),(8,0),(9,0),(10,0),(11,0)] ?_;refine xL ?_;clear hS;refine zm fun V1 hV1=>?_
 have hb1:=zi (zf hb0.out hV1.below);clear hV1;obtain⟨c0,c1,c2,c3,c4,cP,cS,cR,cL⟩:=HS.out V1 hb1.out;go_wp2_with fail;refine (HP.out V1 (zf hA hb1.out)).mono ?_;rintro e w2 ⟨b2,rfl,hq2,f2⟩;replace hq2:=zi hq2;go_wp2;go_ret;exact⟨_,rfl,hq2.out.trans HR.out,zf hA (zf hb1.out f2)⟩
theorem zit(H:yH P nv iv l kv pr n)(i:Nat)(t:List UInt8)(k a:Int)(ks:List Int)(w:World)(hC:kO w P nv iv l kv)(hx:l[i]? =some ⟨24,t,k,ks,a⟩)(ht:t.length<=3000)(hks:∀k∈ks,0<=k/\k<(n:Int))(hkl:ks.length<=100000)(hm1:1<=ks.length):Calls prog 108 #[.pointer (some ⟨P,0,none⟩),.int .i64 i] w (jL w (zF l pr ⟨24,t,k,ks,a⟩)):=by
 obtain⟨R,hR⟩:=exE (zF l pr ⟨24,t,k,ks,a⟩);rw[hR];obtain⟨s,r,nc,gN,oN,uc,up,rfl,hx255,⟨hil,hi0⟩,⟨hu,hcap⟩,⟨a0,a1,a2,a3,a4,cP⟩,h3,wA,hwA,hA,HS⟩:=xZ H hC hx (m:=ks.length) rfl (KI:=24) rfl (lk:= #[.string ⟨#[]⟩,.bool false]) (fun _=>rfl);obtain⟨g,off,rfl,_,d0⟩:=hu.at (j:=0) (by first|omega|simp);have hm0:ks.getD 0 0∈ks:=by rw[pB,glE (show 0<ks.length by omega)];exact wK _
 obtain⟨z0,hz0⟩:=pO (hks _ hm0).1;have l0:z0<n:=by have:=(hks _ hm0).2;omega
 rw[hz0] at d0;obtain⟨xz,hxz⟩:∃x,l[z0]? =some x:=⟨_,glE (wO l0 H.le)⟩;obtain⟨gN',oN',uz,ez,hNz⟩:=hC.ns.at hxz;cases ez;have hz1:(z0:Int)<(l.length:Int):=by have:=(gtL hxz);omega
 have hz9:¬((z0:Int)<0):=by omega
 have hkz:zE l (z0:Int)=xz.kind:=by
  unfold zE;rw[wG,hxz];rfl
 have hkd:∀k∈ks.drop 1,0<=k/\k<(n:Int):=fun k hk=>hks k (List.mem_of_mem_drop hk)
 have hdl:(ks.drop 1).length<=100000:=by rw[gH];omega
 have HD:=zi (fun (q:Option Addr) (c:Nat) (hq:KS w (.slice q (ks.length-1) c) (ks.drop 1)) W (hb:Below w.heap.size w W)=>jV H (.slice q (ks.length-1) c) (ks.drop 1) W (hC.below hb) (hq.below hb) hkd hdl);have sD:=xM H hkd hdl;have hD1:=zi (KS.dropc hu 1 (by omega));have hD2:=zi (fun (h:ks.length=1)=>(show KS w (.slice (some ⟨g,off,none⟩) (ks.length-1) (uc-1)) (ks.drop 1) from by rw[List.drop_eq_nil_of_le (by omega),h];exact KS.nil _ _ _));obtain⟨y0,y1,y2,y3,y4⟩:=xz;have hK3:=hNz.kids;obtain⟨zp,zc,rfl⟩:=hK3.form;obtain⟨yn,hyn⟩:∃q,y3.length=q:=⟨_,rfl⟩;have b0:=hNz.c0;have b1:=hNz.c1;have b2:=hNz.c2;have b3:=hNz.c3;have b4:=hNz.c4;simp only[hyn] at b0 b1 b2 b3 b4;replace HS:=zi (fun W (hb:Below wA.heap.size wA W)=>And.intro (HS W hb) (show W.cell? ⟨gN,oN+z0*5,none⟩=some (.int .u8 y0)/\W.cell? ⟨gN,oN+z0*5+1,none⟩=some (.string ⟨y1.toArray⟩)/\W.cell? ⟨gN,oN+z0*5+2,none⟩=some (.int .i64 y2)/\W.cell? ⟨gN,oN+z0*5+3,none⟩=some (.slice zp yn zc)/\W.cell? ⟨gN,oN+z0*5+4,none⟩=some (.int .i64 y4)/\W.cell? ⟨g,off,none⟩=some (.int .i64 z0) from ⟨zj (zf hA hb) b0,zj (zf hA hb) b1,zj (zf hA hb) b2,zj (zf hA hb) b3,zj (zf hA hb) b4,zj (zf hA hb) d0⟩));have hb0:=zi (show Below wA.heap.size wA wA.drew from bR.drew);have hemp:((l[((z0:Int)).toNat]?).elim [] Nd.kids).isEmpty=decide (yn=0):=by
  rw[wG,hxz,<-hyn];show y3.isEmpty=decide (y3.length=0)
  cases y3 <;> simp
 have hk00:zG ⟨24,t,k,ks,a⟩ 0=(z0:Int):=hz0;have hR0:(if zE l (z0:Int) == 25 && ((l[((z0:Int)).toNat]?).elim [] Nd.kids).isEmpty then [40] ++ xD l pr z0 8 ++ [41] else xD l pr z0 8) ++ [40] ++ qA pr (ks.drop 1) ++ [41]=R:=by
  rw[<-hR,<-hk00];rfl
 rw[hkz,hemp] at hR0;replace hR:=hR0;clear hR0;have HK:=zi (fun W (hb:Below w.heap.size w W)=>Zh H z0 8 W (hC.below hb) l0);have s0:(xD l pr z0 8).length<=3200002:=by have:=yX l pr z0 8;have:=H.len z0 l0;omega
 generalize xD l pr z0 8=ps0 at *;generalize qA pr (ks.drop 1)=pD at *;generalize hm:ks.length=m at *;have Hm:=zi hm;clear hm hkz hNz hxz b0 b1 b2 b3 b4 hz0 hm0 hkd hdl hks hk00 hK3 hyn hemp d0;have hi1:0<m:=by omega
 have hi3:(0:Int)<(m:Int):=by omega
 have hd1:¬((m:Int)<1):=by omega
 have hd3:1<=m:=hm1;have HR:=zi hR;have HwA:=zi hwA;clear hwA hR hC hx hu h3 H;go_enter func108,ntmps108;go_wp2_with fail;rw[HwA.out];clear a0 a1 a2 a3 a4 cP;have hS:=fun W (h:Cl wA.drew W)=>HS.out W (zf hb0.out h.below)
 refine xt [(0,0),(1,0),(2,0),(3,1),(4,0),(5,1),(6,1),(7,0),(8,0),(9,0),(10,0),(11,0)] ?_;refine xL ?_;clear hS;refine zm fun V1 hV1=>?_
 have hb1:=zi (zf hb0.out hV1.below);clear hV1;obtain⟨⟨c0,c1,c2,c3,c4,cP,cS,cR,cL⟩,x0,x1,x2,x3,x4,x5⟩:=HS.out V1 hb1.out;go_wp2_with fail;refine (HK.out V1 (zf hA hb1.out)).mono ?_;rintro e w2 ⟨b2,rfl,hq2,f2⟩;have zz_2:=xS hq2;replace hq2:=zi hq2;have hb2:=zi (zf hb1.out f2);clear c0 c1 c2 c3 c4 cP cS cR cL x0 x1 x2 x3 x4 x5;go_wp2_with fail;have hS:=fun W (h:Cl w2.drew W)=>HS.out W (zf hb2.out (zf bR.drew h.below))
 refine xt [(0,0),(1,0),(2,0),(3,0),(4,1),(5,0),(6,1),(7,0),(8,1),(9,0),(10,1),(11,2),(12,3)] ?_;refine xL ?_;clear hS;refine zU rfl rfl (fun K hK V hV=>?_);have hb3:=zi (zf hb2.out (zf bR.drew hV.below));go_simp;refine⟨qo.2 (zg _ _),hK _ _ ?_⟩;clear hK K
 try simp only[Act.put,yh,yf,yg]
 refine kP rfl rfl (fun W hW=>?_);have hz:=zh hW.below (zl V (.cells #[.int .u8 0,.string ⟨#[]⟩,.int .i64 0,.slice none 0 0,.int .i64 0] 60 (0,0)));have hb4:=zi (zf hb3.out (zf (zg V _) hW.below))
 skip
 have e0:=zd hz 0;have e1:=zd hz 1;have e2:=zd hz 2;have e3:=zd hz 3;have e4:=zd hz 4;have ef:∀j,W.frozen? ⟨V.heap.size,j,none⟩=false:=fun j=>zk hz j
 have Hz:=zi hz;clear hz;go_simp;refine jM ?_;have z5:=zo (zo (zo (zo (zo Hz.out 0 (.int .u8 y0)) 1 (.string ⟨y1.toArray⟩)) 2 (.int .i64 y2)) 3 (.slice zp yn zc)) 4 (.int .i64 y4);have hle:wA.heap.size<=V.heap.size:=hb3.out.size;have hb5:=((((hb4.out.setCell (p:=⟨V.heap.size,0,none⟩) hle (.int .u8 y0)).setCell (p:=⟨V.heap.size,1,none⟩) hle (.string ⟨y1.toArray⟩)).setCell (p:=⟨V.heap.size,2,none⟩) hle (.int .i64 y2)).setCell (p:=⟨V.heap.size,3,none⟩) hle (.slice zp yn zc)).setCell (p:=⟨V.heap.size,4,none⟩) hle (.int .i64 y4);generalize World.setCell (World.setCell (World.setCell (World.setCell (World.setCell W _ _) _ _) _ _) _ _) _ _=W5 at z5 hb5 ⊢;replace hb5:=zi hb5;clear e0 e1 e2 e3 e4 ef Hz hW;obtain⟨⟨c0,c1,c2,c3,c4,cP,cS,cR,cL⟩,x0,x1,x2,x3,x4,x5⟩:=HS.out W5 hb5.out;have m0:=zd z5 0;have m3:=zd z5 3;generalize V.heap.size=LM at *;clear z5;by_cases h25:y0=25
 ·have h25':((y0:Int) == 25)=true:=by rw[wC];omega
  by_cases hn0:yn=0
  ·have hn0':((yn:Int) == 0)=true:=by rw[wC];omega
   have h:=HR.out;rw[if_pos (by simp[h25,hn0])] at h;by_cases hu1:uc=1
   ·subst hu1;have hm1e:m=1:=by omega
    have HDD:=HD.out _ _ (hD2.out hm1e);rw[hm1e] at HDD;simp only[Nat.sub_self] at HDD;replace HDD:=zi HDD;clear hm1e;go_wp2_with fail;refine (HDD.out W5 (zf hA hb5.out)).mono ?_;rintro e w6 ⟨b6,rfl,hq6,f6⟩;have zz_6:=xS hq6;replace hq6:=zi hq6;go_wp2;go_ret;refine⟨_,rfl,?_,zf hA (zf hb5.out f6)⟩;rw[<-h];simp[zv,hq2.out,hq6.out]
   ·have hd2:¬(uc=1):=hu1;have HDD:=zi (HD.out _ _ hD1.out);go_wp2_with fail;refine (HDD.out W5 (zf hA hb5.out)).mono ?_;rintro e w6 ⟨b6,rfl,hq6,f6⟩;have zz_6:=xS hq6;replace hq6:=zi hq6;go_wp2;go_ret;refine⟨_,rfl,?_,zf hA (zf hb5.out f6)⟩;rw[<-h];simp[zv,hq2.out,hq6.out]
  ·have hn0':((yn:Int) == 0)=false:=bfE (by omega)
   have h:=HR.out;rw[if_neg (by simp[hn0])] at h;by_cases hu1:uc=1
   ·subst hu1;have hm1e:m=1:=by omega
    have HDD:=HD.out _ _ (hD2.out hm1e);rw[hm1e] at HDD;simp only[Nat.sub_self] at HDD;replace HDD:=zi HDD;clear hm1e;go_wp2_with fail;refine (HDD.out W5 (zf hA hb5.out)).mono ?_;rintro e w6 ⟨b6,rfl,hq6,f6⟩;have zz_6:=xS hq6;replace hq6:=zi hq6;go_wp2;go_ret;refine⟨_,rfl,?_,zf hA (zf hb5.out f6)⟩;rw[<-h];simp[zv,hq2.out,hq6.out]
   ·have hd2:¬(uc=1):=hu1;have HDD:=zi (HD.out _ _ hD1.out);go_wp2_with fail;refine (HDD.out W5 (zf hA hb5.out)).mono ?_;rintro e w6 ⟨b6,rfl,hq6,f6⟩;have zz_6:=xS hq6;replace hq6:=zi hq6;go_wp2;go_ret;refine⟨_,rfl,?_,zf hA (zf hb5.out f6)⟩;rw[<-h];simp[zv,hq2.out,hq6.out]
 ·have h25':((y0:Int) == 25)=false:=bfE (by omega)
  have h:=HR.out;rw[if_neg (by simp[h25])] at h;by_cases hu1:uc=1
  ·subst hu1;have hm1e:m=1:=by omega
   have HDD:=HD.out _ _ (hD2.out hm1e);rw[hm1e] at HDD;simp only[Nat.sub_self] at HDD;replace HDD:=zi HDD;clear hm1e;go_wp2_with fail;refine (HDD.out W5 (zf hA hb5.out)).mono ?_;rintro e w6 ⟨b6,rfl,hq6,f6⟩;have zz_6:=xS hq6;replace hq6:=zi hq6;go_wp2;go_ret;refine⟨_,rfl,?_,zf hA (zf hb5.out f6)⟩;rw[<-h];simp[zv,hq2.out,hq6.out]
  ·have hd2:¬(uc=1):=hu1;have HDD:=zi (HD.out _ _ hD1.out);go_wp2_with fail;refine (HDD.out W5 (zf hA hb5.out)).mono ?_;rintro e w6 ⟨b6,rfl,hq6,f6⟩;have zz_6:=xS hq6;replace hq6:=zi hq6;go_wp2;go_ret;refine⟨_,rfl,?_,zf hA (zf hb5.out f6)⟩;rw[<-h];simp[zv,hq2.out,hq6.out]
theorem jz(H:yH P nv iv l kv pr n)(i:Nat)(K:Nat)(t:List UInt8)(k a:Int)(z0:Nat)(l0:z0<n)(z1:Nat)(l1:z1<n)(w:World)(hC:kO w P nv iv l kv)(hx:l[i]? =some ⟨K,t,k,[(z0:Int),(z1:Int)],a⟩)(ht:t.length<=3000)(sg:List UInt8)(hsg:yO K=some sg)(hsl:sg.length<=10):Calls prog 108 #[.pointer (some ⟨P,0,none⟩),.int .i64 i] w (jL w (zF l pr ⟨K,t,k,[(z0:Int),(z1:Int)],a⟩)):=by
 obtain⟨R,hR⟩:=exE (zF l pr ⟨K,t,k,[(z0:Int),(z1:Int)],a⟩);rw[hR];obtain⟨s,r,nc,gN,oN,uc,up,rfl,hx255,⟨hil,hi0⟩,⟨hu,hcap⟩,⟨a0,a1,a2,a3,a4,cP⟩,h3,wA,hwA,hA,HS⟩:=xZ H hC hx (m:=2) rfl (KI:=(K:Int)) rfl (lk:= #[.string ⟨sg.toArray⟩,.bool true]) (fun _=>by rw[hsg];rfl);obtain⟨g,off,rfl,_,d0⟩:=hu.at (j:=0) (by first|omega|simp);obtain⟨g',off',e1,_,d1⟩:=hu.at (j:=1) (by first|omega|simp);cases e1;obtain⟨rk,hrk⟩:=exE (yR K);have hrk6:rk<=6:=by
  have hall:∀k,k<256->(yO k).isSome=true->yR k<=6:=by decide +kernel
  rw[<-hrk];exact hall K (by omega) (by rw[hsg];rfl)
 replace HS:=zi (fun W (hb:Below wA.heap.size wA W)=>And.intro (HS W hb) (show (Instr.lookup 164 (.map (some r)) (.int .u8 K) false).run prog W=.ok (.int .i64 rk) W/\W.cell? ⟨g,off,none⟩=some (.int .i64 z0)/\W.cell? ⟨g,off+1,none⟩=some (.int .i64 z1) from ⟨(by rw[<-hrk];exact zbR (((zf hA hb).block _ (gtA h3)).trans h3) K (by omega) (by rw[hsg];rfl)),zj (zf hA hb) d0,zj (zf hA hb) d1⟩));have hb0:=zi (show Below wA.heap.size wA wA.drew from bR.drew);unfold zF at hR;rw[hsg] at hR;simp[zG,hrk] at hR;have hrw:=pF ((rk:Int)+1) (by omega);have HK0:=zi (fun W (hb:Below w.heap.size w W) (q:Nat)=>Zh H z0 q W (hC.below hb) l0);have HK1:=zi (fun W (hb:Below w.heap.size w W) (q:Nat)=>Zh H z1 q W (hC.below hb) l1);have s0:∀q,(xD l pr z0 q).length<=3200002:=fun q=>by have:=yX l pr z0 q;have:=H.len z0 l0;omega
 have s1:∀q,(xD l pr z1 q).length<=3200002:=fun q=>by have:=yX l pr z1 q;have:=H.len z1 l1;omega
 clear hrk hsg;have hs0:=zi s0;have hs1:=zi s1;clear s0 s1 d0 d1;have HR:=zi hR;have HwA:=zi hwA;clear hwA hR hC hx hu h3 H;go_enter func108,ntmps108;go_wp2_with fail;rw[HwA.out];clear a0 a1 a2 a3 a4 cP;have hS:=fun W (h:Cl wA.drew W)=>HS.out W (zf hb0.out h.below)
 refine xt [(0,0),(1,0),(2,0),(3,1),(4,0),(5,1),(6,1),(7,0),(8,0),(9,0),(10,0),(11,0)] ?_;refine xL ?_;clear hS;refine zm fun V1 hV1=>?_
 have hb1:=zi (zf hb0.out hV1.below);clear hV1;obtain⟨⟨c0,c1,c2,c3,c4,cP,cS,cR,cL⟩,x0,x1,x2⟩:=HS.out V1 hb1.out;go_wp2_with fail;have hS:=fun W (h:Cl V1.drew W)=>HS.out W (zf hb1.out (zf bR.drew h.below))
 refine xt [(0,0),(1,0),(2,0),(3,1),(4,0),(5,1),(6,1),(7,0),(8,0),(9,0),(10,1),(11,0),(12,1),(13,1),(14,0),(15,0),(16,0)] ?_;have hb1d:=zi (zf hb1.out (pE V1.heap.size V1).drew);clear c0 c1 c2 c3 c4 cP cS cR cL x0 x1 x2;refine xL ?_;clear hS;refine zm fun V2 hV2=>?_
 have hb2:=zi (zf hb1d.out hV2.below);clear hV2;by_cases hr4:rk=4
 ·subst hr4;have h:=HR.out;rw[if_pos rfl] at h;have HA0:=zi (show ∀W,Below w.heap.size w W->Calls prog 159 #[.pointer (some ⟨P,0,none⟩),.int .i64 z0,.int .i64 5] W (jL W (xD l pr z0 5)) from fun W hb=>HK0.out W hb _);have HA1:=zi (show ∀W,Below w.heap.size w W->Calls prog 159 #[.pointer (some ⟨P,0,none⟩),.int .i64 z1,.int .i64 5] W (jL W (xD l pr z1 (5))) from fun W hb=>HK1.out W hb _);have t0:=hs0.out (5);have t1:=hs1.out (5);generalize xD l pr z0 (5)=p0 at *;generalize xD l pr z1 (5)=p1 at *;go_wp2_with fail;have hS:=fun W (h:Cl V2.drew W)=>HS.out W (zf hb2.out (zf bR.drew h.below))
  have hb2d:=zi (zf hb2.out (pE V2.heap.size V2).drew);refine xt [(0,0),(1,0),(2,1),(3,0),(4,1),(5,0),(8,0),(11,0),(12,0),(13,1),(14,0),(15,1),(16,0),(6,2),(7,0),(9,0),(10,0),(17,2),(18,0),(19,0)] ?_;refine xL ?_;clear hS;refine zbX rfl rfl (fun _=>by go_simp) hA HA0 hb2d fun b3 w3 hq3 zz_3 hb3=>?_
  try simp only[Act.put,yh,yf,yg]
  refine xL ?_;refine zbX rfl rfl (fun _=>by go_simp) hA HA1 hb3 fun b4 w4 hq4 zz_4 hb4=>?_
  try simp only[Act.put,yh,yf,yg]
  refine xL ?_;refine zm fun W hW=>?_
  have hbW:=zi (zf hb4.out hW.below);clear hW;go_wp2;go_ret;refine⟨_,rfl,?_,zf hA hbW.out⟩;rw[<-h];simp[zv,hq3.out,hq4.out]
 ·have hr4':((rk:Int) == 4)=false:=bfE (by omega)
  have h:=HR.out;rw[if_neg hr4] at h;have HA0:=zi (show ∀W,Below w.heap.size w W->Calls prog 159 #[.pointer (some ⟨P,0,none⟩),.int .i64 z0,.int .i64 rk] W (jL W (xD l pr z0 rk)) from fun W hb=>HK0.out W hb _);have HA1:=zi (show ∀W,Below w.heap.size w W->Calls prog 159 #[.pointer (some ⟨P,0,none⟩),.int .i64 z1,.int .i64 ((rk:Int)+1)] W (jL W (xD l pr z1 (rk+1))) from fun W hb=>by have h9:=HK1.out W hb (rk+1);rw[Int.natCast_add] at h9;exact h9);have t0:=hs0.out (rk);have t1:=hs1.out (rk+1);generalize xD l pr z0 (rk)=p0 at *;generalize xD l pr z1 (rk+1)=p1 at *;go_wp2_with fail;have hS:=fun W (h:Cl V2.drew W)=>HS.out W (zf hb2.out (zf bR.drew h.below))
  have hb2d:=zi (zf hb2.out (pE V2.heap.size V2).drew);refine xt [(0,0),(1,0),(2,1),(3,0),(4,1),(5,0),(8,0),(11,0),(12,0),(13,1),(14,0),(15,1),(16,0),(6,2),(7,0),(9,0),(10,0),(17,2),(18,0),(19,0)] ?_;refine xL ?_;clear hS;refine zbX rfl rfl (fun _=>by go_simp) hA HA0 hb2d fun b3 w3 hq3 zz_3 hb3=>?_
  try simp only[Act.put,yh,yf,yg]
  refine xL ?_;refine zbX rfl rfl (fun _=>by go_simp) hA HA1 hb3 fun b4 w4 hq4 zz_4 hb4=>?_
  try simp only[Act.put,yh,yf,yg]
  refine xL ?_;refine zm fun W hW=>?_
  have hbW:=zi (zf hb4.out hW.below);clear hW;go_wp2;go_ret;refine⟨_,rfl,?_,zf hA hbW.out⟩;rw[<-h];simp[zv,hq3.out,hq4.out]
end
section
variable {P:Nat} {nv iv:Value} {l:List Nd} {kv:List Value} {pr:Int→List UInt8} {n:Nat}
theorem zaC(H:yH P nv iv l kv pr n)(i:Nat)(K:Nat)(t:List UInt8)(k a:Int)(z0:Nat)(l0:z0<n)(w:World)(hC:kO w P nv iv l kv)(hx:l[i]? =some ⟨K,t,k,[(z0:Int)],a⟩)(ht:t.length<=3000)(hsg:yO K=none)(hn:NkN K)(x0:List UInt8)(x1:Nat)(x2:Int)(hfd:(ya.find? fun w=>w.2.1 == K)=some (x0,x1,x2))(hx2:x2<0)(hx0:x0.length<=20):Calls prog 108 #[.pointer (some ⟨P,0,none⟩),.int .i64 i] w (jL w (zF l pr ⟨K,t,k,[(z0:Int)],a⟩)):=by
 obtain⟨R,hR⟩:=exE (zF l pr ⟨K,t,k,[(z0:Int)],a⟩);rw[hR];obtain⟨s,r,nc,gN,oN,uc,up,rfl,hx255,⟨hil,hi0⟩,⟨hu,hcap⟩,⟨a0,a1,a2,a3,a4,cP⟩,h3,wA,hwA,hA,HS⟩:=xZ H hC hx (m:=1) rfl (KI:=(K:Int)) rfl (lk:= #[.string ⟨#[]⟩,.bool false]) (fun _=>by rw[hsg];rfl);have HW:=zi (show ∀W,Calls prog 166 #[.int .u8 K] W (qw W (.tuple #[.agg #[.string ⟨x0.toArray⟩,.int .u8 x1,.int .i64 x2],.bool true])) from fun W=>by have h9:=qj K W;unfold uW at h9;rw[hfd] at h9;exact h9);have HK:=zi (fun W (hb:Below w.heap.size w W)=>Zh H z0 7 W (hC.below hb) l0);obtain⟨g,off,rfl,_,d0⟩:=hu.at (j:=0) (by first|omega|simp);replace HS:=zi (fun W (hb:Below wA.heap.size wA W)=>And.intro (HS W hb) (show W.cell? ⟨g,off,none⟩=some (.int .i64 z0) from zj (zf hA hb) d0));have hb0:=zi (show Below wA.heap.size wA wA.drew from bR.drew);obtain⟨n1,n67,n2,n68,n3,n69,n4,n5,n66,n84,n6,n7,n23,n24,n25,n70,n89,n28⟩:=zfE hn;unfold zF at hR;rw[hsg] at hR;simp[Kc hn,hfd,zG] at hR;simp[hx2] at hR;have s0:(xD l pr z0 7).length<=3200002:=by have:=yX l pr z0 7;have:=H.len z0 l0;omega
 generalize xD l pr z0 7=ps0 at *;clear hn hfd hsg;have HR:=zi hR;have HwA:=zi hwA;clear hwA hR hC hx hu h3 H;go_enter func108,ntmps108;go_wp2_with fail;rw[HwA.out];clear a0 a1 a2 a3 a4 cP;have hS:=fun W (h:Cl wA.drew W)=>HS.out W (zf hb0.out h.below)
 refine xt [(0,0),(1,0),(2,0),(3,1),(4,0),(5,1),(6,1),(7,0),(8,0),(9,0),(10,0),(11,0)] ?_;refine xL ?_;clear hS;refine zm fun V1 hV1=>?_
 have hb1:=zi (zf hb0.out hV1.below);clear hV1;obtain⟨⟨c0,c1,c2,c3,c4,cP,cS,cR,cL⟩,xk0⟩:=HS.out V1 hb1.out;go_wp2_with fail;refine (HW.out V1).mono ?_;rintro e w2 ⟨rfl,f2⟩;have hwb:=zl w2 (.cells #[.string ⟨x0.toArray⟩,.int .u8 x1,.int .i64 x2] 180 (0,0));have hb3:=zi (zf (zf hb1.out f2) (zg w2 (.cells #[.string ⟨x0.toArray⟩,.int .u8 x1,.int .i64 x2] 180 (0,0))));have v0:=zd hwb 0;have v2:=zd hwb 2;have Hwb:=zi hwb;clear hwb;clear c0 c1 c2 c3 c4 cP cS cR cL xk0;clear n1 n67 n2 n68 n3 n69 n4 n5 n66 n84 n6 n7 n23 n24 n25 n70 n89 n28;have hx2a:decide (x2<0)=true:=wZ hx2;go_wp2_with fail;generalize hw3:w2.alloc (.cells #[.string ⟨x0.toArray⟩,.int .u8 x1,.int .i64 x2] 180 (0,0))=w3 at *;have hS:=fun W (h:Cl w3.drew W)=>And.intro (zj (zf bR.drew h.below) v0) (HS.out W (zf hb3.out (zf bR.drew h.below)))
 have hb3d:=zi (zf hb3.out (pE w3.heap.size w3).drew);clear v0 v2;refine xt [(0,0),(1,1),(2,0),(3,0),(4,0),(5,1),(6,0),(7,1),(8,2),(9,0),(10,0)] ?_;refine xL ?_;clear hS;refine zbX rfl rfl (fun _=>by go_simp) hA HK hb3d fun b4 w4 hq4 zz_4 hb4=>?_
 try simp only[Act.put,yh,yf,yg]
 refine xL ?_;refine zm fun W hW=>?_
 have hbW:=zi (zf hb4.out hW.below);clear hW;go_wp2;go_ret;refine⟨_,rfl,?_,zf hA hbW.out⟩;rw[<-HR.out];simp[zv,hq4.out]
theorem zaB(H:yH P nv iv l kv pr n)(i:Nat)(K:Nat)(t:List UInt8)(k a:Int)(ks:List Int)(w:World)(hC:kO w P nv iv l kv)(hx:l[i]? =some ⟨K,t,k,ks,a⟩)(ht:t.length<=3000)(hsg:yO K=none)(hn:NkN K)(x0:List UInt8)(x1:Nat)(x2:Int)(hfd:(ya.find? fun w=>w.2.1 == K)=some (x0,x1,x2))(hx2:x2=0)(hx0:x0.length<=20):Calls prog 108 #[.pointer (some ⟨P,0,none⟩),.int .i64 i] w (jL w (zF l pr ⟨K,t,k,ks,a⟩)):=by
 obtain⟨R,hR⟩:=exE (zF l pr ⟨K,t,k,ks,a⟩);rw[hR];obtain⟨s,r,nc,gN,oN,uc,up,rfl,hx255,⟨hil,hi0⟩,⟨hu,hcap⟩,⟨a0,a1,a2,a3,a4,cP⟩,h3,wA,hwA,hA,HS⟩:=xZ H hC hx (m:=ks.length) rfl (KI:=(K:Int)) rfl (lk:= #[.string ⟨#[]⟩,.bool false]) (fun _=>by rw[hsg];rfl);have HW:=zi (show ∀W,Calls prog 166 #[.int .u8 K] W (qw W (.tuple #[.agg #[.string ⟨x0.toArray⟩,.int .u8 x1,.int .i64 x2],.bool true])) from fun W=>by have h9:=qj K W;unfold uW at h9;rw[hfd] at h9;exact h9);replace HS:=zi HS;have hb0:=zi (show Below wA.heap.size wA wA.drew from bR.drew);obtain⟨n1,n67,n2,n68,n3,n69,n4,n5,n66,n84,n6,n7,n23,n24,n25,n70,n89,n28⟩:=zfE hn;unfold zF at hR;rw[hsg] at hR;simp[Kc hn,hfd,zG] at hR;simp[hx2] at hR;clear hn hfd hsg;have HR:=zi hR;have HwA:=zi hwA;clear hwA hR hC hx hu h3 H;go_enter func108,ntmps108;go_wp2_with fail;rw[HwA.out];clear a0 a1 a2 a3 a4 cP;have hS:=fun W (h:Cl wA.drew W)=>HS.out W (zf hb0.out h.below)
 refine xt [(0,0),(1,0),(2,0),(3,1),(4,0),(5,1),(6,1),(7,0),(8,0),(9,0),(10,0),(11,0)] ?_;refine xL ?_;clear hS;refine zm fun V1 hV1=>?_
 have hb1:=zi (zf hb0.out hV1.below);clear hV1;obtain⟨c0,c1,c2,c3,c4,cP,cS,cR,cL⟩:=HS.out V1 hb1.out;go_wp2_with fail;refine (HW.out V1).mono ?_;rintro e w2 ⟨rfl,f2⟩;have hwb:=zl w2 (.cells #[.string ⟨x0.toArray⟩,.int .u8 x1,.int .i64 x2] 180 (0,0));have hb3:=zi (zf (zf hb1.out f2) (zg w2 (.cells #[.string ⟨x0.toArray⟩,.int .u8 x1,.int .i64 x2] 180 (0,0))));have v0:=zd hwb 0;have v2:=zd hwb 2;have Hwb:=zi hwb;clear hwb;clear c0 c1 c2 c3 c4 cP cS cR cL;clear n1 n67 n2 n68 n3 n69 n4 n5 n66 n84 n6 n7 n23 n24 n25 n70 n89 n28;subst hx2;go_wp2;go_ret;exact⟨_,rfl,HR.out,zf hA hb3.out⟩
theorem uj(H:yH P nv iv l kv pr n)(i:Nat)(K:Nat)(t:List UInt8)(k a:Int)(ks:List Int)(w:World)(hC:kO w P nv iv l kv)(hx:l[i]? =some ⟨K,t,k,ks,a⟩)(ht:t.length<=3000)(hsg:yO K=none)(hn:NkN K)(x0:List UInt8)(x1:Nat)(x2:Int)(hfd:(ya.find? fun w=>w.2.1 == K)=some (x0,x1,x2))(hx2:0<x2)(hx0:x0.length<=20)(hks:∀k∈ks,0<=k/\k<(n:Int))(hkl:ks.length<=100000):Calls prog 108 #[.pointer (some ⟨P,0,none⟩),.int .i64 i] w (jL w (zF l pr ⟨K,t,k,ks,a⟩)):=by
 obtain⟨R,hR⟩:=exE (zF l pr ⟨K,t,k,ks,a⟩);rw[hR];obtain⟨s,r,nc,gN,oN,uc,up,rfl,hx255,⟨hil,hi0⟩,⟨hu,hcap⟩,⟨a0,a1,a2,a3,a4,cP⟩,h3,wA,hwA,hA,HS⟩:=xZ H hC hx (m:=ks.length) rfl (KI:=(K:Int)) rfl (lk:= #[.string ⟨#[]⟩,.bool false]) (fun _=>by rw[hsg];rfl);have HW:=zi (show ∀W,Calls prog 166 #[.int .u8 K] W (qw W (.tuple #[.agg #[.string ⟨x0.toArray⟩,.int .u8 x1,.int .i64 x2],.bool true])) from fun W=>by have h9:=qj K W;unfold uW at h9;rw[hfd] at h9;exact h9);have HL:=zi (fun W (hb:Below w.heap.size w W)=>jV H (.slice up ks.length uc) ks W (hC.below hb) (hu.below hb) hks hkl);have sL:=xM H hks hkl;replace HS:=zi HS;have hb0:=zi (show Below wA.heap.size wA wA.drew from bR.drew);obtain⟨n1,n67,n2,n68,n3,n69,n4,n5,n66,n84,n6,n7,n23,n24,n25,n70,n89,n28⟩:=zfE hn;unfold zF at hR;rw[hsg] at hR;simp[Kc hn,hfd,zG] at hR;rw[if_neg (by omega),if_neg (by omega)] at hR;generalize qA pr ks=pL at *;clear hks;clear hn hfd hsg;have HR:=zi hR;have HwA:=zi hwA;clear hwA hR hC hx hu h3 H;go_enter func108,ntmps108;go_wp2_with fail;rw[HwA.out];clear a0 a1 a2 a3 a4 cP;have hS:=fun W (h:Cl wA.drew W)=>HS.out W (zf hb0.out h.below)
 refine xt [(0,0),(1,0),(2,0),(3,1),(4,0),(5,1),(6,1),(7,0),(8,0),(9,0),(10,0),(11,0)] ?_;refine xL ?_;clear hS;refine zm fun V1 hV1=>?_
 have hb1:=zi (zf hb0.out hV1.below);clear hV1;obtain⟨c0,c1,c2,c3,c4,cP,cS,cR,cL⟩:=HS.out V1 hb1.out;go_wp2_with fail;refine (HW.out V1).mono ?_;rintro e w2 ⟨rfl,f2⟩;have hwb:=zl w2 (.cells #[.string ⟨x0.toArray⟩,.int .u8 x1,.int .i64 x2] 180 (0,0));have hb3:=zi (zf (zf hb1.out f2) (zg w2 (.cells #[.string ⟨x0.toArray⟩,.int .u8 x1,.int .i64 x2] 180 (0,0))));have v0:=zd hwb 0;have v2:=zd hwb 2;have Hwb:=zi hwb;clear hwb;clear c0 c1 c2 c3 c4 cP cS cR cL;clear n1 n67 n2 n68 n3 n69 n4 n5 n66 n84 n6 n7 n23 n24 n25 n70 n89 n28;have hx2a:decide (x2<0)=false:=wQ (by omega);have hx2b:¬(x2<0):=by omega
 have hx2c:(x2 == 0)=false:=bfE (by omega)
 go_wp2_with fail;generalize hw3:w2.alloc (.cells #[.string ⟨x0.toArray⟩,.int .u8 x1,.int .i64 x2] 180 (0,0))=w3 at *;have hS:=fun W (h:Cl w3.drew W)=>And.intro (zj (zf bR.drew h.below) v0) (HS.out W (zf hb3.out (zf bR.drew h.below)))
 have hb3d:=zi (zf hb3.out (pE w3.heap.size w3).drew);clear v0 v2;refine xt [(0,0),(1,1),(2,0),(3,0),(4,0),(5,1),(6,2),(7,0),(8,0),(9,0)] ?_;refine xL ?_;clear hS;refine zbX rfl rfl (fun _=>by go_simp) hA HL hb3d fun b4 w4 hq4 zz_4 hb4=>?_
 try simp only[Act.put,yh,yf,yg]
 refine xL ?_;refine zm fun W hW=>?_
 have hbW:=zi (zf hb4.out hW.below);clear hW;go_wp2;go_ret;refine⟨_,rfl,?_,zf hA hbW.out⟩;rw[<-HR.out];simp[zv,hq4.out]
theorem Qc(H:yH P nv iv l kv pr n)(i:Nat)(K:Nat)(t:List UInt8)(k a:Int)(ks:List Int)(w:World)(hC:kO w P nv iv l kv)(hx:l[i]? =some ⟨K,t,k,ks,a⟩)(ht:t.length<=3000)(hsg:yO K=none)(hn:NkN K)(hfd:(ya.find? fun w=>w.2.1 == K)=none)(hK:60<=K/\K<=65)(hst:∀(u:Value) (W:World),kO W P nv iv l kv->KS W u ks->Calls prog 167 #[.pointer (some ⟨P,0,none⟩),.agg #[.int .u8 K,.string ⟨t.toArray⟩,.int .i64 k,u,.int .i64 a]] W (jL W (xQ pr ⟨K,t,k,ks,a⟩))):Calls prog 108 #[.pointer (some ⟨P,0,none⟩),.int .i64 i] w (jL w (zF l pr ⟨K,t,k,ks,a⟩)):=by
 obtain⟨R,hR⟩:=exE (zF l pr ⟨K,t,k,ks,a⟩);rw[hR];obtain⟨s,r,nc,gN,oN,uc,up,rfl,hx255,⟨hil,hi0⟩,⟨hu,hcap⟩,⟨a0,a1,a2,a3,a4,cP⟩,h3,wA,hwA,hA,HS⟩:=xZ H hC hx (m:=ks.length) rfl (KI:=(K:Int)) rfl (lk:= #[.string ⟨#[]⟩,.bool false]) (fun _=>by rw[hsg];rfl);have HW:=zi (show ∀W,Calls prog 166 #[.int .u8 K] W (qw W (.tuple #[.agg #[.string ⟨#[]⟩,.int .u8 0,.int .i64 0],.bool false])) from fun W=>by have h9:=qj K W;unfold uW at h9;rw[hfd] at h9;exact h9);have HST:=zi (fun W (hb:Below w.heap.size w W)=>hst (.slice up ks.length uc) W (hC.below hb) (hu.below hb));replace HS:=zi HS;have hb0:=zi (show Below wA.heap.size wA wA.drew from bR.drew);obtain⟨n1,n67,n2,n68,n3,n69,n4,n5,n66,n84,n6,n7,n23,n24,n25,n70,n89,n28⟩:=zfE hn;unfold zF at hR;rw[hsg] at hR;simp[Kc hn,hfd,zG] at hR;rw[if_pos hK] at hR;have HB:=zi (fun W=>xO K 60 65 W);clear hn hfd hsg hst;have HR:=zi hR;have HwA:=zi hwA;clear hwA hR hC hx hu h3 H;go_enter func108,ntmps108;go_wp2_with fail;rw[HwA.out];clear a0 a1 a2 a3 a4 cP;have hS:=fun W (h:Cl wA.drew W)=>HS.out W (zf hb0.out h.below)
 refine xt [(0,0),(1,0),(2,0),(3,1),(4,0),(5,1),(6,1),(7,0),(8,0),(9,0),(10,0),(11,0)] ?_;refine xL ?_;clear hS;refine zm fun V1 hV1=>?_
 have hb1:=zi (zf hb0.out hV1.below);clear hV1;obtain⟨c0,c1,c2,c3,c4,cP,cS,cR,cL⟩:=HS.out V1 hb1.out;go_wp2_with fail;refine (HW.out V1).mono ?_;rintro e w2 ⟨rfl,f2⟩;have hwb:=zl w2 (.cells #[.string ⟨#[]⟩,.int .u8 0,.int .i64 0] 180 (0,0));have hb3:=zi (zf (zf hb1.out f2) (zg w2 (.cells #[.string ⟨#[]⟩,.int .u8 0,.int .i64 0] 180 (0,0))));have v0:=zd hwb 0;have v2:=zd hwb 2;have Hwb:=zi hwb;clear hwb;clear c0 c1 c2 c3 c4 cP cS cR cL;clear n1 n67 n2 n68 n3 n69 n4 n5 n66 n84 n6 n7 n23 n24 n25 n70 n89 n28;obtain⟨c0,c1,c2,c3,c4,cP,cS,cR,cL⟩:=HS.out _ hb3.out;go_wp2_with fail;refine (HB.out _).mono ?_;rintro e w4 ⟨rfl,f4⟩;have hb4:=zi (zf hb3.out f4);clear c0 c1 c2 c3 c4 cP cS cR cL v0 v2;obtain⟨c0,c1,c2,c3,c4,cP,cS,cR,cL⟩:=HS.out w4 hb4.out;have hbt:(decide (60<=K) && decide (K<=65))=true:=by simp[hK.1,hK.2]
 rw[hbt];clear hbt;go_wp2_with fail;refine (HST.out w4 (zf hA hb4.out)).mono ?_;rintro e w5 ⟨b5,rfl,hq5,f5⟩;replace hq5:=zi hq5;go_wp2;go_ret;exact⟨_,rfl,hq5.out.trans HR.out,zf hA (zf hb4.out f5)⟩
theorem kA(H:yH P nv iv l kv pr n)(i:Nat)(K:Nat)(t:List UInt8)(k a:Int)(ks:List Int)(w:World)(hC:kO w P nv iv l kv)(hx:l[i]? =some ⟨K,t,k,ks,a⟩)(ht:t.length<=3000)(hsg:yO K=none)(hn:NkN K)(hfd:(ya.find? fun w=>w.2.1 == K)=none)(hK:80<=K)(hst:∀(u:Value) (W:World),kO W P nv iv l kv->KS W u ks->Calls prog 168 #[.pointer (some ⟨P,0,none⟩),.agg #[.int .u8 K,.string ⟨t.toArray⟩,.int .i64 k,u,.int .i64 a]] W (jL W (yv pr ⟨K,t,k,ks,a⟩))):Calls prog 108 #[.pointer (some ⟨P,0,none⟩),.int .i64 i] w (jL w (zF l pr ⟨K,t,k,ks,a⟩)):=by
 obtain⟨R,hR⟩:=exE (zF l pr ⟨K,t,k,ks,a⟩);rw[hR];obtain⟨s,r,nc,gN,oN,uc,up,rfl,hx255,⟨hil,hi0⟩,⟨hu,hcap⟩,⟨a0,a1,a2,a3,a4,cP⟩,h3,wA,hwA,hA,HS⟩:=xZ H hC hx (m:=ks.length) rfl (KI:=(K:Int)) rfl (lk:= #[.string ⟨#[]⟩,.bool false]) (fun _=>by rw[hsg];rfl);have HW:=zi (show ∀W,Calls prog 166 #[.int .u8 K] W (qw W (.tuple #[.agg #[.string ⟨#[]⟩,.int .u8 0,.int .i64 0],.bool false])) from fun W=>by have h9:=qj K W;unfold uW at h9;rw[hfd] at h9;exact h9);have HST:=zi (fun W (hb:Below w.heap.size w W)=>hst (.slice up ks.length uc) W (hC.below hb) (hu.below hb));replace HS:=zi HS;have hb0:=zi (show Below wA.heap.size wA wA.drew from bR.drew);obtain⟨n1,n67,n2,n68,n3,n69,n4,n5,n66,n84,n6,n7,n23,n24,n25,n70,n89,n28⟩:=zfE hn;unfold zF at hR;rw[hsg] at hR;simp[Kc hn,hfd,zG] at hR;rw[if_neg (by omega),if_pos hK] at hR;have HB:=zi (fun W=>xO K 60 65 W);clear hn hfd hsg hst;have HR:=zi hR;have HwA:=zi hwA;clear hwA hR hC hx hu h3 H;go_enter func108,ntmps108;go_wp2_with fail;rw[HwA.out];clear a0 a1 a2 a3 a4 cP;have hS:=fun W (h:Cl wA.drew W)=>HS.out W (zf hb0.out h.below)
 refine xt [(0,0),(1,0),(2,0),(3,1),(4,0),(5,1),(6,1),(7,0),(8,0),(9,0),(10,0),(11,0)] ?_;refine xL ?_;clear hS;refine zm fun V1 hV1=>?_
 have hb1:=zi (zf hb0.out hV1.below);clear hV1;obtain⟨c0,c1,c2,c3,c4,cP,cS,cR,cL⟩:=HS.out V1 hb1.out;go_wp2_with fail;refine (HW.out V1).mono ?_;rintro e w2 ⟨rfl,f2⟩;have hwb:=zl w2 (.cells #[.string ⟨#[]⟩,.int .u8 0,.int .i64 0] 180 (0,0));have hb3:=zi (zf (zf hb1.out f2) (zg w2 (.cells #[.string ⟨#[]⟩,.int .u8 0,.int .i64 0] 180 (0,0))));have v0:=zd hwb 0;have v2:=zd hwb 2;have Hwb:=zi hwb;clear hwb;clear c0 c1 c2 c3 c4 cP cS cR cL;clear n1 n67 n2 n68 n3 n69 n4 n5 n66 n84 n6 n7 n23 n24 n25 n70 n89 n28;obtain⟨c0,c1,c2,c3,c4,cP,cS,cR,cL⟩:=HS.out _ hb3.out;go_wp2_with fail;refine (HB.out _).mono ?_;rintro e w4 ⟨rfl,f4⟩;have hb4:=zi (zf hb3.out f4);clear c0 c1 c2 c3 c4 cP cS cR cL v0 v2;obtain⟨c0,c1,c2,c3,c4,cP,cS,cR,cL⟩:=HS.out w4 hb4.out;have hbt:(decide (60<=K) && decide (K<=65))=false:=by simp;omega
 have hK8:(80:Int)<=(K:Int):=by omega
 rw[hbt];clear hbt;go_wp2_with fail;refine (HST.out w4 (zf hA hb4.out)).mono ?_;rintro e w5 ⟨b5,rfl,hq5,f5⟩;replace hq5:=zi hq5;go_wp2;go_ret;exact⟨_,rfl,hq5.out.trans HR.out,zf hA (zf hb4.out f5)⟩
theorem vA(H:yH P nv iv l kv pr n)(i:Nat)(K:Nat)(t:List UInt8)(k a:Int)(ks:List Int)(w:World)(hC:kO w P nv iv l kv)(hx:l[i]? =some ⟨K,t,k,ks,a⟩)(ht:t.length<=3000)(hsg:yO K=none)(hn:NkN K)(hfd:(ya.find? fun w=>w.2.1 == K)=none)(hK:K<60)(hst:∀(u:Value) (W:World),kO W P nv iv l kv->KS W u ks->Calls prog 169 #[.pointer (some ⟨P,0,none⟩),.agg #[.int .u8 K,.string ⟨t.toArray⟩,.int .i64 k,u,.int .i64 a]] W (jL W (zJ pr ⟨K,t,k,ks,a⟩))):Calls prog 108 #[.pointer (some ⟨P,0,none⟩),.int .i64 i] w (jL w (zF l pr ⟨K,t,k,ks,a⟩)):=by
 obtain⟨R,hR⟩:=exE (zF l pr ⟨K,t,k,ks,a⟩);rw[hR];obtain⟨s,r,nc,gN,oN,uc,up,rfl,hx255,⟨hil,hi0⟩,⟨hu,hcap⟩,⟨a0,a1,a2,a3,a4,cP⟩,h3,wA,hwA,hA,HS⟩:=xZ H hC hx (m:=ks.length) rfl (KI:=(K:Int)) rfl (lk:= #[.string ⟨#[]⟩,.bool false]) (fun _=>by rw[hsg];rfl);have HW:=zi (show ∀W,Calls prog 166 #[.int .u8 K] W (qw W (.tuple #[.agg #[.string ⟨#[]⟩,.int .u8 0,.int .i64 0],.bool false])) from fun W=>by have h9:=qj K W;unfold uW at h9;rw[hfd] at h9;exact h9);have HST:=zi (fun W (hb:Below w.heap.size w W)=>hst (.slice up ks.length uc) W (hC.below hb) (hu.below hb));replace HS:=zi HS;have hb0:=zi (show Below wA.heap.size wA wA.drew from bR.drew);obtain⟨n1,n67,n2,n68,n3,n69,n4,n5,n66,n84,n6,n7,n23,n24,n25,n70,n89,n28⟩:=zfE hn;unfold zF at hR;rw[hsg] at hR;simp[Kc hn,hfd,zG] at hR;rw[if_neg (by omega),if_neg (by omega)] at hR;have HB:=zi (fun W=>xO K 60 65 W);clear hn hfd hsg hst;have HR:=zi hR;have HwA:=zi hwA;clear hwA hR hC hx hu h3 H;go_enter func108,ntmps108;go_wp2_with fail;rw[HwA.out];clear a0 a1 a2 a3 a4 cP;have hS:=fun W (h:Cl wA.drew W)=>HS.out W (zf hb0.out h.below)
 refine xt [(0,0),(1,0),(2,0),(3,1),(4,0),(5,1),(6,1),(7,0),(8,0),(9,0),(10,0),(11,0)] ?_;refine xL ?_;clear hS;refine zm fun V1 hV1=>?_
 have hb1:=zi (zf hb0.out hV1.below);clear hV1;obtain⟨c0,c1,c2,c3,c4,cP,cS,cR,cL⟩:=HS.out V1 hb1.out;go_wp2_with fail;refine (HW.out V1).mono ?_;rintro e w2 ⟨rfl,f2⟩;have hwb:=zl w2 (.cells #[.string ⟨#[]⟩,.int .u8 0,.int .i64 0] 180 (0,0));have hb3:=zi (zf (zf hb1.out f2) (zg w2 (.cells #[.string ⟨#[]⟩,.int .u8 0,.int .i64 0] 180 (0,0))));have v0:=zd hwb 0;have v2:=zd hwb 2;have Hwb:=zi hwb;clear hwb;clear c0 c1 c2 c3 c4 cP cS cR cL;clear n1 n67 n2 n68 n3 n69 n4 n5 n66 n84 n6 n7 n23 n24 n25 n70 n89 n28;obtain⟨c0,c1,c2,c3,c4,cP,cS,cR,cL⟩:=HS.out _ hb3.out;go_wp2_with fail;refine (HB.out _).mono ?_;rintro e w4 ⟨rfl,f4⟩;have hb4:=zi (zf hb3.out f4);clear c0 c1 c2 c3 c4 cP cS cR cL v0 v2;obtain⟨c0,c1,c2,c3,c4,cP,cS,cR,cL⟩:=HS.out w4 hb4.out;have hbt:(decide (60<=K) && decide (K<=65))=false:=by simp;omega
 have hK8:¬((80:Int)<=(K:Int)):=by omega
 rw[hbt];clear hbt;go_wp2_with fail;refine (HST.out w4 (zf hA hb4.out)).mono ?_;rintro e w5 ⟨b5,rfl,hq5,f5⟩;replace hq5:=zi hq5;go_wp2;go_ret;exact⟨_,rfl,hq5.out.trans HR.out,zf hA (zf hb4.out f5)⟩
end
theorem ze9{x:Nd}(h:qT x=true):x.text.length<=3000:=by
 by_cases h4:xU x.kind=4
 ·unfold qT at h;rw[h4] at h;unfold xR xX at h;simp at h;split at h
  ·simp at h
  ·omega
 ·exact kR h h4
theorem zkk:∀k,(kj k).2<=2000:=fun k=>by
 unfold kj
 repeat' split
 all_goals decide
section
variable {P:Nat} {nv iv:Value} {l:List Nd} {kv:List Value} {pr:Int→List UInt8} {n:Nat}
theorem qV{ks:List Int}(h:ks.length=1)(hks:∀k∈ks,0<=k/\k<(n:Int)):∃z0:Nat,ks=[(z0:Int)]/\z0<n:=by
 match ks,h with
 |[c],_=>
  obtain⟨h0,h1⟩:=hks c (by simp);obtain⟨z,rfl⟩:=pO h0;exact⟨z,rfl,by omega⟩
theorem yx{ks:List Int}(h:ks.length=2)(hks:∀k∈ks,0<=k/\k<(n:Int)):∃z0 z1:Nat,ks=[(z0:Int),(z1:Int)]/\z0<n/\z1<n:=by
 match ks,h with
 |[c,d],_=>
  obtain⟨h0,h1⟩:=hks c (by simp);obtain⟨h2,h3⟩:=hks d (by simp);obtain⟨z,rfl⟩:=pO h0;obtain⟨y,rfl⟩:=pO h2;exact⟨z,y,rfl,by omega,by omega⟩
theorem Zy{ks:List Int}(h:ks.length=3)(hks:∀k∈ks,0<=k/\k<(n:Int)):∃z0 z1 z2:Nat,ks=[(z0:Int),(z1:Int),(z2:Int)]/\z0<n/\z1<n/\z2<n:=by
 match ks,h with
 |[c,d,e],_=>
  obtain⟨h0,h1⟩:=hks c (by simp);obtain⟨h2,h3⟩:=hks d (by simp);obtain⟨h4,h5⟩:=hks e (by simp);obtain⟨z,rfl⟩:=pO h0;obtain⟨y,rfl⟩:=pO h2;obtain⟨x,rfl⟩:=pO h4;exact⟨z,y,x,rfl,by omega,by omega,by omega⟩
theorem Jo(K:Nat)(hK:K=80\/K=81\/K=82\/K=83)(t:List UInt8)(k a:Int)(ks:List Int)(u:Value)(w:World)(hu:KS w u ks):Calls prog 168 #[.pointer (some ⟨P,0,none⟩),xW ⟨K,t,k,ks,a⟩ u] w (jL w (yv pr ⟨K,t,k,ks,a⟩)):=by
 unfold xW;obtain⟨up,uc,rfl⟩:=hu.form;have h0:∀W,(Instr.index 217 (.agg #[.string ⟨#[105,110,116]⟩,.string ⟨#[98,111,111,108]⟩,.string ⟨#[116,101,120,116]⟩,.string ⟨#[117,110,105,116]⟩]) (.int .u8 0)).run prog W=.ok (.string ⟨#[105,110,116]⟩) W:=fun W=>rfl
 have h1:∀W,(Instr.index 217 (.agg #[.string ⟨#[105,110,116]⟩,.string ⟨#[98,111,111,108]⟩,.string ⟨#[116,101,120,116]⟩,.string ⟨#[117,110,105,116]⟩]) (.int .u8 1)).run prog W=.ok (.string ⟨#[98,111,111,108]⟩) W:=fun W=>rfl
 have h2:∀W,(Instr.index 217 (.agg #[.string ⟨#[105,110,116]⟩,.string ⟨#[98,111,111,108]⟩,.string ⟨#[116,101,120,116]⟩,.string ⟨#[117,110,105,116]⟩]) (.int .u8 2)).run prog W=.ok (.string ⟨#[116,101,120,116]⟩) W:=fun W=>rfl
 have h3:∀W,(Instr.index 217 (.agg #[.string ⟨#[105,110,116]⟩,.string ⟨#[98,111,111,108]⟩,.string ⟨#[116,101,120,116]⟩,.string ⟨#[117,110,105,116]⟩]) (.int .u8 3)).run prog W=.ok (.string ⟨#[117,110,105,116]⟩) W:=fun W=>rfl
 have hA:=zg w (.cells #[.int .u8 K,.string ⟨t.toArray⟩,.int .i64 k,.slice up ks.length uc,.int .i64 a] 60 (0,0));have c0:=zd (zl w (.cells #[.int .u8 K,.string ⟨t.toArray⟩,.int .i64 k,.slice up ks.length uc,.int .i64 a] 60 (0,0))) 0;clear hu;rcases hK with rfl|rfl|rfl|rfl
 all_goals
  go_enter func168,ntmps168;go_wp2;go_ret;exact⟨_,rfl,rfl,hA⟩
def PN(P:Nat)(nv iv:Value)(l:List Nd)(kv:List Value)(pr:Int->List UInt8)(n K:Nat):Prop:=yH P nv iv l kv pr n->∀(i:Nat) (t:List UInt8) (k a:Int) (ks:List Int) (w:World),kO w P nv iv l kv->l[i]? =some ⟨K,t,k,ks,a⟩->(kj K).1<=ks.length->ks.length<=(kj K).2->zu K k ks.length=true->t.length<=3000->(∀k∈ks,0<=k/\k<(n:Int))->ks.length<=100000->Calls prog 108 #[.pointer (some ⟨P,0,none⟩),.int .i64 i] w (jL w (zF l pr ⟨K,t,k,ks,a⟩))
theorem zms:PN P nv iv l kv pr n 1:=fun H i t k a ks w hC hx h1 h2 hnum ht hks hkl=>by
 have hk: -1000000000<=k/\k<=1000000000:=by
  simp[zu] at hnum;omega
 exact zgT 1 (by decide) H i t k a ks w hC hx ht hk
theorem zk1:PN P nv iv l kv pr n 67:=fun H i t k a ks w hC hx h1 h2 hnum ht hks hkl=>by
 have hk: -1000000000<=k/\k<=1000000000:=by
  simp[zu] at hnum;omega
 exact zgT 67 (by decide) H i t k a ks w hC hx ht hk
theorem zmr:PN P nv iv l kv pr n 2:=fun H i t k a ks w hC hx h1 h2 hnum ht hks hkl=>zgS 2 (by decide) H i t k a ks w hC hx ht
theorem zk0:PN P nv iv l kv pr n 68:=fun H i t k a ks w hC hx h1 h2 hnum ht hks hkl=>zgS 68 (by decide) H i t k a ks w hC hx ht
theorem zmq:PN P nv iv l kv pr n 3:=fun H i t k a ks w hC hx h1 h2 hnum ht hks hkl=>zgR 3 (by decide) H i t k a ks w hC hx ht
theorem zkZ:PN P nv iv l kv pr n 69:=fun H i t k a ks w hC hx h1 h2 hnum ht hks hkl=>zgR 69 (by decide) H i t k a ks w hC hx ht
theorem zmp:PN P nv iv l kv pr n 4:=fun H i t k a ks w hC hx h1 h2 hnum ht hks hkl=>zaD 4 (by decide) H i t k a ks w hC hx ht
theorem zmo:PN P nv iv l kv pr n 5:=fun H i t k a ks w hC hx h1 h2 hnum ht hks hkl=>zaD 5 (by decide) H i t k a ks w hC hx ht
theorem zk2:PN P nv iv l kv pr n 66:=fun H i t k a ks w hC hx h1 h2 hnum ht hks hkl=>zaD 66 (by decide) H i t k a ks w hC hx ht
theorem zkT:PN P nv iv l kv pr n 84:=fun H i t k a ks w hC hx h1 h2 hnum ht hks hkl=>zaD 84 (by decide) H i t k a ks w hC hx ht
theorem zmn:PN P nv iv l kv pr n 6:=fun H i t k a ks w hC hx h1 h2 hnum ht hks hkl=>by
 obtain⟨z0,rfl,l0⟩:=qV (wH h2 h1) hks;exact zj0 H i t k a z0 l0 w hC hx ht
theorem zmm:PN P nv iv l kv pr n 7:=fun H i t k a ks w hC hx h1 h2 hnum ht hks hkl=>by
 obtain⟨z0,rfl,l0⟩:=qV (wH h2 h1) hks;exact zjZ H i t k a z0 l0 w hC hx ht
theorem zlB:PN P nv iv l kv pr n 23:=fun H i t k a ks w hC hx h1 h2 hnum ht hks hkl=>by
 obtain⟨z0,rfl,l0⟩:=qV (wH h2 h1) hks;exact ziu H i t k a z0 l0 w hC hx ht
theorem zlA:PN P nv iv l kv pr n 24:=fun H i t k a ks w hC hx h1 h2 hnum ht hks hkl=>zit H i t k a ks w hC hx ht hks hkl h1
theorem zlz:PN P nv iv l kv pr n 25:=fun H i t k a ks w hC hx h1 h2 hnum ht hks hkl=>zaE 25 (by decide) H i t k a ks w hC hx ht hks hkl
theorem zkY:PN P nv iv l kv pr n 70:=fun H i t k a ks w hC hx h1 h2 hnum ht hks hkl=>zaE 70 (by decide) H i t k a ks w hC hx ht hks hkl
theorem zkO:PN P nv iv l kv pr n 89:=fun H i t k a ks w hC hx h1 h2 hnum ht hks hkl=>zaE 89 (by decide) H i t k a ks w hC hx ht hks hkl
theorem zlw:PN P nv iv l kv pr n 28:=fun H i t k a ks w hC hx h1 h2 hnum ht hks hkl=>zis H i t k a ks w hC hx ht hks hkl
theorem zml:PN P nv iv l kv pr n 8:=fun H i t k a ks w hC hx h1 h2 hnum ht hks hkl=>by
 obtain⟨z0,z1,rfl,l0,l1⟩:=yx (wH h2 h1) hks;exact jz H i 8 t k a z0 l0 z1 l1 w hC hx ht [43] rfl (by decide)
theorem zmk:PN P nv iv l kv pr n 9:=fun H i t k a ks w hC hx h1 h2 hnum ht hks hkl=>by
 obtain⟨z0,z1,rfl,l0,l1⟩:=yx (wH h2 h1) hks;exact jz H i 9 t k a z0 l0 z1 l1 w hC hx ht [45] rfl (by decide)
theorem zlO:PN P nv iv l kv pr n 10:=fun H i t k a ks w hC hx h1 h2 hnum ht hks hkl=>by
 obtain⟨z0,z1,rfl,l0,l1⟩:=yx (wH h2 h1) hks;exact jz H i 10 t k a z0 l0 z1 l1 w hC hx ht [43,43] rfl (by decide)
theorem zlN:PN P nv iv l kv pr n 11:=fun H i t k a ks w hC hx h1 h2 hnum ht hks hkl=>by
 obtain⟨z0,z1,rfl,l0,l1⟩:=yx (wH h2 h1) hks;exact jz H i 11 t k a z0 l0 z1 l1 w hC hx ht [42] rfl (by decide)
theorem zlM:PN P nv iv l kv pr n 12:=fun H i t k a ks w hC hx h1 h2 hnum ht hks hkl=>by
 obtain⟨z0,z1,rfl,l0,l1⟩:=yx (wH h2 h1) hks;exact jz H i 12 t k a z0 l0 z1 l1 w hC hx ht [47] rfl (by decide)
theorem zlL:PN P nv iv l kv pr n 13:=fun H i t k a ks w hC hx h1 h2 hnum ht hks hkl=>by
 obtain⟨z0,z1,rfl,l0,l1⟩:=yx (wH h2 h1) hks;exact jz H i 13 t k a z0 l0 z1 l1 w hC hx ht [37] rfl (by decide)
theorem zlK:PN P nv iv l kv pr n 14:=fun H i t k a ks w hC hx h1 h2 hnum ht hks hkl=>by
 obtain⟨z0,z1,rfl,l0,l1⟩:=yx (wH h2 h1) hks;exact jz H i 14 t k a z0 l0 z1 l1 w hC hx ht [61,61] rfl (by decide)
theorem zlJ:PN P nv iv l kv pr n 15:=fun H i t k a ks w hC hx h1 h2 hnum ht hks hkl=>by
 obtain⟨z0,z1,rfl,l0,l1⟩:=yx (wH h2 h1) hks;exact jz H i 15 t k a z0 l0 z1 l1 w hC hx ht [33,61] rfl (by decide)
theorem zlI:PN P nv iv l kv pr n 16:=fun H i t k a ks w hC hx h1 h2 hnum ht hks hkl=>by
 obtain⟨z0,z1,rfl,l0,l1⟩:=yx (wH h2 h1) hks;exact jz H i 16 t k a z0 l0 z1 l1 w hC hx ht [60] rfl (by decide)
theorem zlH:PN P nv iv l kv pr n 17:=fun H i t k a ks w hC hx h1 h2 hnum ht hks hkl=>by
 obtain⟨z0,z1,rfl,l0,l1⟩:=yx (wH h2 h1) hks;exact jz H i 17 t k a z0 l0 z1 l1 w hC hx ht [60,61] rfl (by decide)
theorem zlG:PN P nv iv l kv pr n 18:=fun H i t k a ks w hC hx h1 h2 hnum ht hks hkl=>by
 obtain⟨z0,z1,rfl,l0,l1⟩:=yx (wH h2 h1) hks;exact jz H i 18 t k a z0 l0 z1 l1 w hC hx ht [62] rfl (by decide)
theorem zlF:PN P nv iv l kv pr n 19:=fun H i t k a ks w hC hx h1 h2 hnum ht hks hkl=>by
 obtain⟨z0,z1,rfl,l0,l1⟩:=yx (wH h2 h1) hks;exact jz H i 19 t k a z0 l0 z1 l1 w hC hx ht [62,61] rfl (by decide)
theorem zlE:PN P nv iv l kv pr n 20:=fun H i t k a ks w hC hx h1 h2 hnum ht hks hkl=>by
 obtain⟨z0,z1,rfl,l0,l1⟩:=yx (wH h2 h1) hks;exact jz H i 20 t k a z0 l0 z1 l1 w hC hx ht [105,115] rfl (by decide)
theorem zlD:PN P nv iv l kv pr n 21:=fun H i t k a ks w hC hx h1 h2 hnum ht hks hkl=>by
 obtain⟨z0,z1,rfl,l0,l1⟩:=yx (wH h2 h1) hks;exact jz H i 21 t k a z0 l0 z1 l1 w hC hx ht [97,110,100] rfl (by decide)
theorem zlC:PN P nv iv l kv pr n 22:=fun H i t k a ks w hC hx h1 h2 hnum ht hks hkl=>by
 obtain⟨z0,z1,rfl,l0,l1⟩:=yx (wH h2 h1) hks;exact jz H i 22 t k a z0 l0 z1 l1 w hC hx ht [111,114] rfl (by decide)
theorem zln:PN P nv iv l kv pr n 37:=fun H i t k a ks w hC hx h1 h2 hnum ht hks hkl=>by
 obtain⟨z0,rfl,l0⟩:=qV (wH h2 h1) hks;exact zaC H i 37 t k a z0 l0 w hC hx ht rfl (by decide) _ _ _ rfl (by decide) (by decide)
theorem zlm:PN P nv iv l kv pr n 38:=fun H i t k a ks w hC hx h1 h2 hnum ht hks hkl=>by
 obtain⟨z0,rfl,l0⟩:=qV (wH h2 h1) hks;exact zaC H i 38 t k a z0 l0 w hC hx ht rfl (by decide) _ _ _ rfl (by decide) (by decide)
theorem zll:PN P nv iv l kv pr n 39:=fun H i t k a ks w hC hx h1 h2 hnum ht hks hkl=>by
 obtain⟨z0,rfl,l0⟩:=qV (wH h2 h1) hks;exact zaC H i 39 t k a z0 l0 w hC hx ht rfl (by decide) _ _ _ rfl (by decide) (by decide)
theorem zlg:PN P nv iv l kv pr n 44:=fun H i t k a ks w hC hx h1 h2 hnum ht hks hkl=>zaB H i 44 t k a ks w hC hx ht rfl (by decide) _ _ _ rfl (by decide) (by decide)
theorem zlf:PN P nv iv l kv pr n 45:=fun H i t k a ks w hC hx h1 h2 hnum ht hks hkl=>zaB H i 45 t k a ks w hC hx ht rfl (by decide) _ _ _ rfl (by decide) (by decide)
theorem zle:PN P nv iv l kv pr n 46:=fun H i t k a ks w hC hx h1 h2 hnum ht hks hkl=>zaB H i 46 t k a ks w hC hx ht rfl (by decide) _ _ _ rfl (by decide) (by decide)
theorem zlj:PN P nv iv l kv pr n 41:=fun H i t k a ks w hC hx h1 h2 hnum ht hks hkl=>uj H i 41 t k a ks w hC hx ht rfl (by decide) _ _ _ rfl (by decide) (by decide) hks hkl
theorem zli:PN P nv iv l kv pr n 42:=fun H i t k a ks w hC hx h1 h2 hnum ht hks hkl=>uj H i 42 t k a ks w hC hx ht rfl (by decide) _ _ _ rfl (by decide) (by decide) hks hkl
theorem zlh:PN P nv iv l kv pr n 43:=fun H i t k a ks w hC hx h1 h2 hnum ht hks hkl=>uj H i 43 t k a ks w hC hx ht rfl (by decide) _ _ _ rfl (by decide) (by decide) hks hkl
theorem zld:PN P nv iv l kv pr n 47:=fun H i t k a ks w hC hx h1 h2 hnum ht hks hkl=>uj H i 47 t k a ks w hC hx ht rfl (by decide) _ _ _ rfl (by decide) (by decide) hks hkl
theorem zlc:PN P nv iv l kv pr n 48:=fun H i t k a ks w hC hx h1 h2 hnum ht hks hkl=>uj H i 48 t k a ks w hC hx ht rfl (by decide) _ _ _ rfl (by decide) (by decide) hks hkl
theorem zlb:PN P nv iv l kv pr n 49:=fun H i t k a ks w hC hx h1 h2 hnum ht hks hkl=>uj H i 49 t k a ks w hC hx ht rfl (by decide) _ _ _ rfl (by decide) (by decide) hks hkl
theorem zla:PN P nv iv l kv pr n 50:=fun H i t k a ks w hC hx h1 h2 hnum ht hks hkl=>uj H i 50 t k a ks w hC hx ht rfl (by decide) _ _ _ rfl (by decide) (by decide) hks hkl
theorem zk9:PN P nv iv l kv pr n 51:=fun H i t k a ks w hC hx h1 h2 hnum ht hks hkl=>uj H i 51 t k a ks w hC hx ht rfl (by decide) _ _ _ rfl (by decide) (by decide) hks hkl
theorem zk8:PN P nv iv l kv pr n 60:=fun H i t k a ks w hC hx h1 h2 hnum ht hks hkl=>by
 obtain⟨z0,rfl,l0⟩:=qV (wH h2 h1) hks;exact Qc H i 60 t k a _ w hC hx ht rfl (by decide) rfl ⟨by decide,by decide⟩ (fun u W hC hu=>zer 60 (.inl rfl) H t k a z0 u W hC hu l0 ht)
theorem zk7:PN P nv iv l kv pr n 61:=fun H i t k a ks w hC hx h1 h2 hnum ht hks hkl=>by
 obtain⟨z0,rfl,l0⟩:=qV (wH h2 h1) hks;exact Qc H i 61 t k a _ w hC hx ht rfl (by decide) rfl ⟨by decide,by decide⟩ (fun u W hC hu=>zer 61 (.inr rfl) H t k a z0 u W hC hu l0 ht)
theorem zk6:PN P nv iv l kv pr n 62:=fun H i t k a ks w hC hx h1 h2 hnum ht hks hkl=>by
 obtain⟨z0,z1,rfl,l0,l1⟩:=yx (wH h2 h1) hks;exact Qc H i 62 t k a _ w hC hx ht rfl (by decide) rfl ⟨by decide,by decide⟩ (fun u W hC hu=>zeq 62 (by decide) H t k a z0 z1 u W hC hu l0 l1 ht)
theorem zk5:PN P nv iv l kv pr n 63:=fun H i t k a ks w hC hx h1 h2 hnum ht hks hkl=>by
 obtain⟨z0,z1,rfl,l0,l1⟩:=yx (wH h2 h1) hks;exact Qc H i 63 t k a _ w hC hx ht rfl (by decide) rfl ⟨by decide,by decide⟩ (fun u W hC hu=>zeq 63 (by decide) H t k a z0 z1 u W hC hu l0 l1 ht)
theorem zk4:PN P nv iv l kv pr n 64:=fun H i t k a ks w hC hx h1 h2 hnum ht hks hkl=>by
 obtain⟨z0,z1,z2,rfl,l0,l1,l2⟩:=Zy (wH h2 h1) hks;exact Qc H i 64 t k a _ w hC hx ht rfl (by decide) rfl ⟨by decide,by decide⟩ (fun u W hC hu=>zio H t k a z0 z1 z2 u W hC hu l0 l1 l2 ht)
theorem zk3:PN P nv iv l kv pr n 65:=fun H i t k a ks w hC hx h1 h2 hnum ht hks hkl=>by
 obtain⟨z0,rfl,l0⟩:=qV (wH h2 h1) hks;exact Qc H i 65 t k a _ w hC hx ht rfl (by decide) rfl ⟨by decide,by decide⟩ (fun u W hC hu=>zin H t k a z0 u W hC hu l0 ht)
theorem zkX:PN P nv iv l kv pr n 80:=fun H i t k a ks w hC hx h1 h2 hnum ht hks hkl=>kA H i 80 t k a ks w hC hx ht rfl (by decide) rfl (by decide) (fun u W hC hu=>Jo 80 (by decide) t k a ks u W hu)
theorem zkW:PN P nv iv l kv pr n 81:=fun H i t k a ks w hC hx h1 h2 hnum ht hks hkl=>kA H i 81 t k a ks w hC hx ht rfl (by decide) rfl (by decide) (fun u W hC hu=>Jo 81 (by decide) t k a ks u W hu)
theorem zkV:PN P nv iv l kv pr n 82:=fun H i t k a ks w hC hx h1 h2 hnum ht hks hkl=>kA H i 82 t k a ks w hC hx ht rfl (by decide) rfl (by decide) (fun u W hC hu=>Jo 82 (by decide) t k a ks u W hu)
theorem zkU:PN P nv iv l kv pr n 83:=fun H i t k a ks w hC hx h1 h2 hnum ht hks hkl=>kA H i 83 t k a ks w hC hx ht rfl (by decide) rfl (by decide) (fun u W hC hu=>Jo 83 (by decide) t k a ks u W hu)
theorem zkS:PN P nv iv l kv pr n 85:=fun H i t k a ks w hC hx h1 h2 hnum ht hks hkl=>kA H i 85 t k a ks w hC hx ht rfl (by decide) rfl (by decide) (fun u W hC hu=>zgP H t k a ks u W hC hu hks hkl h1 ht)
theorem zkR:PN P nv iv l kv pr n 86:=fun H i t k a ks w hC hx h1 h2 hnum ht hks hkl=>by
 obtain⟨z0,rfl,l0⟩:=qV (wH h2 h1) hks;exact kA H i 86 t k a _ w hC hx ht rfl (by decide) rfl (by decide) (fun u W hC hu=>zbU 86 (.inl rfl) H t k a z0 u W hC hu l0 ht)
theorem zkQ:PN P nv iv l kv pr n 87:=fun H i t k a ks w hC hx h1 h2 hnum ht hks hkl=>by
 obtain⟨z0,rfl,l0⟩:=qV (wH h2 h1) hks;exact kA H i 87 t k a _ w hC hx ht rfl (by decide) rfl (by decide) (fun u W hC hu=>zbU 87 (.inr rfl) H t k a z0 u W hC hu l0 ht)
theorem zkP:PN P nv iv l kv pr n 88:=fun H i t k a ks w hC hx h1 h2 hnum ht hks hkl=>by
 obtain⟨z0,rfl,l0⟩:=qV (wH h2 h1) hks;exact kA H i 88 t k a _ w hC hx ht rfl (by decide) rfl (by decide) (fun u W hC hu=>zgO H t k a z0 u W hC hu l0 ht)
theorem zj5:PN P nv iv l kv pr n 100:=fun H i t k a ks w hC hx h1 h2 hnum ht hks hkl=>kA H i 100 t k a ks w hC hx ht rfl (by decide) rfl (by decide) (fun u W hC hu=>Vy 100 (.inl rfl) H t k a ks u W hC hu hks hkl h1 ht)
theorem zj4:PN P nv iv l kv pr n 101:=fun H i t k a ks w hC hx h1 h2 hnum ht hks hkl=>kA H i 101 t k a ks w hC hx ht rfl (by decide) rfl (by decide) (fun u W hC hu=>Vy 101 (.inr rfl) H t k a ks u W hC hu hks hkl h1 ht)
theorem zj3:PN P nv iv l kv pr n 102:=fun H i t k a ks w hC hx h1 h2 hnum ht hks hkl=>kA H i 102 t k a ks w hC hx ht rfl (by decide) rfl (by decide) (fun u W hC hu=>zfy H t k a ks u W hC hu hks hkl h1 ht)
theorem zj2:PN P nv iv l kv pr n 103:=fun H i t k a ks w hC hx h1 h2 hnum ht hks hkl=>kA H i 103 t k a ks w hC hx ht rfl (by decide) rfl (by decide) (fun u W hC hu=>zfx H t k a ks u W hC hu hks hkl h1 ht)
theorem zj1:PN P nv iv l kv pr n 104:=fun H i t k a ks w hC hx h1 h2 hnum ht hks hkl=>by
 obtain⟨z0,z1,rfl,l0,l1⟩:=yx (wH h2 h1) hks;exact kA H i 104 t k a _ w hC hx ht rfl (by decide) rfl (by decide) (fun u W hC hu=>zfw H t k a z0 z1 u W hC hu l0 l1 ht)
theorem zly:PN P nv iv l kv pr n 26:=fun H i t k a ks w hC hx h1 h2 hnum ht hks hkl=>vA H i 26 t k a ks w hC hx ht rfl (by decide) rfl (by decide) (fun u W hC hu=>ziB H t k a ks u W hC hu hks hkl h1 ht)
theorem zlx:PN P nv iv l kv pr n 27:=fun H i t k a ks w hC hx h1 h2 hnum ht hks hkl=>by
 obtain⟨z0,rfl,l0⟩:=qV (wH h2 h1) hks;exact vA H i 27 t k a _ w hC hx ht rfl (by decide) rfl (by decide) (fun u W hC hu=>ziA H t k a z0 u W hC hu l0 ht)
theorem zlv:PN P nv iv l kv pr n 29:=fun H i t k a ks w hC hx h1 h2 hnum ht hks hkl=>by
 by_cases h3:ks.length=2
 ·obtain⟨z0,z1,rfl,l0,l1⟩:=yx h3 hks;exact vA H i 29 t k a _ w hC hx ht rfl (by decide) rfl (by decide) (fun u W hC hu=>zgW H t k a z0 z1 u W hC hu l0 l1 ht)
 ·obtain⟨z0,z1,z2,rfl,l0,l1,l2⟩:=Zy (by have:2<=ks.length:=h1;have:ks.length<=3:=h2;omega) hks;exact vA H i 29 t k a _ w hC hx ht rfl (by decide) rfl (by decide) (fun u W hC hu=>zgV H t k a z0 z1 z2 u W hC hu l0 l1 l2 ht)
theorem zlu:PN P nv iv l kv pr n 30:=fun H i t k a ks w hC hx h1 h2 hnum ht hks hkl=>by
 obtain⟨z0,z1,rfl,l0,l1⟩:=yx (wH h2 h1) hks;exact vA H i 30 t k a _ w hC hx ht rfl (by decide) rfl (by decide) (fun u W hC hu=>zaF 30 (by decide) H t k a z0 z1 u W hC hu l0 l1 ht)
theorem zlt:PN P nv iv l kv pr n 31:=fun H i t k a ks w hC hx h1 h2 hnum ht hks hkl=>vA H i 31 t k a ks w hC hx ht rfl (by decide) rfl (by decide) (fun u W hC hu=>ziz H t k a ks u W hC hu hks hkl h1 ht)
theorem zls:PN P nv iv l kv pr n 32:=fun H i t k a ks w hC hx h1 h2 hnum ht hks hkl=>by
 obtain⟨z0,z1,rfl,l0,l1⟩:=yx (wH h2 h1) hks;exact vA H i 32 t k a _ w hC hx ht rfl (by decide) rfl (by decide) (fun u W hC hu=>zaF 32 (by decide) H t k a z0 z1 u W hC hu l0 l1 ht)
theorem zlr:PN P nv iv l kv pr n 33:=fun H i t k a ks w hC hx h1 h2 hnum ht hks hkl=>vA H i 33 t k a ks w hC hx ht rfl (by decide) rfl (by decide) (fun u W hC hu=>ziy H t k a ks u W hC hu hks hkl h1 ht)
theorem zlq:PN P nv iv l kv pr n 34:=fun H i t k a ks w hC hx h1 h2 hnum ht hks hkl=>by
 obtain⟨z0,z1,rfl,l0,l1⟩:=yx (wH h2 h1) hks;exact vA H i 34 t k a _ w hC hx ht rfl (by decide) rfl (by decide) (fun u W hC hu=>zaF 34 (by decide) H t k a z0 z1 u W hC hu l0 l1 ht)
theorem zlp:PN P nv iv l kv pr n 35:=fun H i t k a ks w hC hx h1 h2 hnum ht hks hkl=>vA H i 35 t k a ks w hC hx ht rfl (by decide) rfl (by decide) (fun u W hC hu=>zix H t k a ks u W hC hu hks hkl h1 ht)
theorem zlo:PN P nv iv l kv pr n 36:=fun H i t k a ks w hC hx h1 h2 hnum ht hks hkl=>by
 obtain⟨z0,z1,z2,rfl,l0,l1,l2⟩:=Zy (wH h2 h1) hks;exact vA H i 36 t k a _ w hC hx ht rfl (by decide) rfl (by decide) (fun u W hC hu=>ziw H t k a z0 z1 z2 u W hC hu l0 l1 l2 ht)
theorem zlk:PN P nv iv l kv pr n 40:=fun H i t k a ks w hC hx h1 h2 hnum ht hks hkl=>by
 obtain⟨z0,rfl,l0⟩:=qV (wH h2 h1) hks;have hk: -1000000000<=k/\k<=1000000000:=by
  simp[zu] at hnum;omega
 exact vA H i 40 t k a _ w hC hx ht rfl (by decide) rfl (by decide) (fun u W hC hu=>ziv H t k a z0 u W hC hu l0 ht hk)
theorem zfM:∀k,k<105->qm k=true->k∈[1,67,2,68,3,69,4,5,66,84,6,7,23,24,25,70,89,28,8,9,10,11,12,13,14,15,16,17,18,19,20,21,22,37,38,39,44,45,46,41,42,43,47,48,49,50,51,60,61,62,63,64,65,80,81,82,83,85,86,87,88,100,101,102,103,104,26,27,29,30,31,32,33,34,35,36,40]:=by decide +kernel
theorem zdq(H:yH P nv iv l kv pr n)(i:Nat)(x:Nd)(w:World)(hC:kO w P nv iv l kv)(hx:l[i]? =some x)(hr:ye l x=true)(hks:∀k∈x.kids,0<=k/\k<(n:Int)):Calls prog 108 #[.pointer (some ⟨P,0,none⟩),.int .i64 i] w (jL w (zF l pr x)):=by
 obtain⟨hkn,h1,h2,hnum,htit,_⟩:=xB hr;have ht:=ze9 htit;have hkl:x.kids.length<=100000:=pR h2 (pR (zkk _) (by decide));have hm:=zfM _ (Nat.lt_succ_of_le (uq hkn)) hkn;obtain⟨K,t,k,ks,a⟩:=x;simp only[wF,wN,or_false] at hm h1 h2 hnum ht hkl hks;refine (?_:PN P nv iv l kv pr n K) H i t k a ks w hC hx h1 h2 hnum ht hks hkl;clear hx h1 h2 hnum ht hks hkl hkn htit hr;rcases hm with rfl|rfl|rfl|rfl|rfl|rfl|rfl|rfl|rfl|rfl|rfl|rfl|rfl|rfl|rfl|rfl|rfl|rfl|rfl|rfl|rfl|rfl|rfl|rfl|rfl|rfl|rfl|rfl|rfl|rfl|rfl|rfl|rfl|rfl|rfl|rfl|rfl|rfl|rfl|rfl|rfl|rfl|rfl|rfl|rfl|rfl|rfl|rfl|rfl|rfl|rfl|rfl|rfl|rfl|rfl|rfl|rfl|rfl|rfl|rfl|rfl|rfl|rfl|rfl|rfl|rfl|rfl|rfl|rfl|rfl|rfl|rfl|rfl|rfl|rfl|rfl|rfl
 ·exact zms
 ·exact zk1
 ·exact zmr
 ·exact zk0
 ·exact zmq
 ·exact zkZ
 ·exact zmp
 ·exact zmo
 ·exact zk2
 ·exact zkT
 ·exact zmn
 ·exact zmm
 ·exact zlB
 ·exact zlA
 ·exact zlz
 ·exact zkY
 ·exact zkO
 ·exact zlw
 ·exact zml
 ·exact zmk
 ·exact zlO
 ·exact zlN
 ·exact zlM
 ·exact zlL
 ·exact zlK
 ·exact zlJ
 ·exact zlI
 ·exact zlH
 ·exact zlG
 ·exact zlF
 ·exact zlE
 ·exact zlD
 ·exact zlC
 ·exact zln
 ·exact zlm
 ·exact zll
 ·exact zlg
 ·exact zlf
 ·exact zle
 ·exact zlj
 ·exact zli
 ·exact zlh
 ·exact zld
 ·exact zlc
 ·exact zlb
 ·exact zla
 ·exact zk9
 ·exact zk8
 ·exact zk7
 ·exact zk6
 ·exact zk5
 ·exact zk4
 ·exact zk3
 ·exact zkX
 ·exact zkW
 ·exact zkV
 ·exact zkU
 ·exact zkS
 ·exact zkR
 ·exact zkQ
 ·exact zkP
 ·exact zj5
 ·exact zj4
 ·exact zj3
 ·exact zj2
 ·exact zj1
 ·exact zly
 ·exact zlx
 ·exact zlv
 ·exact zlu
 ·exact zlt
 ·exact zls
 ·exact zlr
 ·exact zlq
 ·exact zlp
 ·exact zlo
 ·exact zlk
end
theorem VA(P:Nat)(nv iv:Value)(l:List Nd)(kv:List Value)(hF:xF l l.length)(hR:∀x∈l,ye l x=true)(hn:l.length<=1000)(h255:∀x∈l,x.kind<=255):∀f m,m<=f->m<=l.length->yH P nv iv l kv (prN l f) m
 |0,m,hm,_=>by
  obtain rfl:m=0:=by omega
  exact⟨fun _ i hi=>absurd hi (wI _),fun i hi=>absurd hi (wI _),pX _,h255⟩
 |f+1,m,hm,hf=>by
  refine⟨fun w i hi hC=>?_,fun i hi=>Vz hF hR hn (f+1) i (by omega),hf,h255⟩;have hil:i<l.length:=by omega
  have ih:=VA P nv iv l kv hF hR hn h255 f i (by omega) (by omega);have hx:l[i]? =some l[i]:=glE hil;have e2:prN l (f+1) i=zF l (prN l f) l[i]:=by
   show (match l[(i:Int).toNat]? with|some x=>zF l (prN l f) x|none=>[])=_
   rw[wG,hx]
  rw[e2];exact zdq ih i l[i] w hC hx (hR _ (wK hil)) (fun k hk=>by
   obtain⟨h0,h1⟩:=jf hF hil k hk;exact⟨h0,by omega⟩)
structure FrM(base:Nat)(w w':World):Prop where
 b:Below base w w'
 keep:∀(k:Nat) (cs:Array Value) (T:TypeId) (fr:Nat×Nat),w.heap[k]? =some (.cells cs T fr)->w'.heap[k]? =some (.cells cs T fr)
theorem FrM.refl(base:Nat)(w:World):FrM base w w:=⟨pE _ _,fun _ _ _ _ h=>h⟩
theorem FrM.drew(base:Nat)(w:World):FrM base w w.drew:=⟨bR.drew,fun _ _ _ _ h=>h⟩
theorem FrM.trans{base:Nat}{a b c:World}(h:FrM base a b)(k:FrM base b c):FrM base a c:=⟨h.b.trans k.b,fun n cs T fr hn=>k.keep n cs T fr (h.keep n cs T fr hn)⟩
def zjt(base:Nat):LodeX.Rel:=⟨FrM base,FrM.refl base,FrM.trans,Eq,fun _=>rfl,Eq.trans,fun h=>h▸FrM.refl base _⟩
theorem uv{w a b:World}(h:Below w.heap.size w a)(k:FrM w.heap.size a b):Below w.heap.size w b:=h.trans k.b
theorem zay{base:Nat}{w:World}{r:Nat}{es:Array MapEntry}{c:Nat}(hr:w.heap[r]? =some (.map es c))(hb:base<=r)(o:Obj):({w with heap:=w.heap.setIfInBounds r o}:World).heap[r]? =some o/\(∀q,q≠r->({w with heap:=w.heap.setIfInBounds r o}:World).heap[q]? =w.heap[q]?)/\FrM base w {w with heap:=w.heap.setIfInBounds r o}:=by
 have hlt:=(gtA hr);refine⟨by simp[hlt],fun q hq=>by simp[Array.getElem?_setIfInBounds,Ne.symm hq],⟨⟨rfl,rfl,rfl,by simp,fun k hk=>?_⟩,fun k cs T fr hk=>?_⟩⟩
 ·simp[Array.getElem?_setIfInBounds,show r≠k by omega]
 ·have:r≠k:=fun e=>by subst e;rw[hr] at hk;cases hk
  simp[Array.getElem?_setIfInBounds,this];exact hk
theorem Kz{base:Nat}{t kt et:TypeId}(ht:prog.underlying t=some (.map kt et))(hk:prog.underlying kt=some (.int .u8)){z:Value}(hz:∀w:World,(zeroValue et).run prog w=.ok z w){w:World}{r:Nat}{l:List (Nat×Value)}(hb:w.heap[r]? =some (Zw l))(k:Nat)(hn:∀x∈l,x.1≠k)(hr:base<=r):
 ∃w',(Instr.mapEntry t (.map (some r)) (.int .u8 k)).run prog w=.ok (.tuple #[z,.int .i64 l.length]) w'/\w'.heap[r]? =some (Zw (l ++ [(k,z)]))/\(∀q,q≠r->w'.heap[q]? =w.heap[q]?)/\FrM base w w':=by
 obtain⟨h1,h2,h3⟩:=zay hb hr (Zw (l ++ [(k,z)]));exact⟨_,zhf ht hk hz hb k hn,h1,h2,h3⟩
theorem JJ{base:Nat}{t:TypeId}{w:World}{r:Nat}{l:List (Nat×Value)}{z:Value}{k:Nat}(hb:w.heap[r]? =some (Zw (l ++ [(k,z)])))(v:Value)(hr:base<=r):
 ∃w',(Instr.entryStore t (.map (some r)) (.int .i64 l.length) v).run prog w=.ok () w'/\w'.heap[r]? =some (Zw (l ++ [(k,v)]))/\(∀q,q≠r->w'.heap[q]? =w.heap[q]?)/\FrM base w w':=by
 obtain⟨h1,h2,h3⟩:=zay hb hr (Zw (l ++ [(k,v)]));exact⟨_,zhe hb v,h1,h2,h3⟩
theorem JU{base:Nat}{t kt et:TypeId}(ht:prog.underlying t=some (.map kt et))(hk:prog.underlying kt=some (.int .u8)){w:World}{r:Nat}{l:List (Nat×Value)}(hb:w.heap[r]? =some (Zw l))(k:Nat)(v:Value)(hn:∀x∈l,x.1≠k)(hr:base<=r):
 ∃w',(Instr.mapUpdate t (.map (some r)) (.int .u8 k) v).run prog w=.ok () w'/\w'.heap[r]? =some (Zw (l ++ [(k,v)]))/\(∀q,q≠r->w'.heap[q]? =w.heap[q]?)/\FrM base w w':=by
 obtain⟨h1,h2,h3⟩:=zay hb hr (Zw (l ++ [(k,v)]));exact⟨_,zkc ht hk hb k v hn,h1,h2,h3⟩
structure NpW(w wr:World)(P s r:Nat)(nv iv:Value)(c d:Nat):Prop where
 p:wr.heap[P]? =some (.cells #[nv,iv,.map (some s),.map (some r)] 166 (0,0))
 s:wr.heap[s]? =some (Zw (qO.take c))
 r:wr.heap[r]? =some (Zw (yP.take d))
 b:Below w.heap.size w wr
theorem NpW.below{w wr w':World}{P s r:Nat}{nv iv:Value}{c d:Nat}(h:NpW w wr P s r nv iv c d)(hb:Below wr.heap.size wr w'):NpW w w' P s r nv iv c d:=
 ⟨zh hb h.p,(hb.block _ (gtA h.s)).trans h.s,(hb.block _ (gtA h.r)).trans h.r,zf h.b hb⟩
def zey(j:Nat):Nat:=[0,1,2,9,12,15].getD j 15
def zjA(w:World)(P s r:Nat)(nv iv:Value)(i:Value)(wr:World):Prop:=∃j:Nat,i=.int .i64 j/\j<=5/\NpW w wr P s r nv iv (zey j) (zey j)
def zl7(w:World)(P s r:Nat)(nv iv:Value)(J N OFF LB BL:Nat)(i:Value)(wr:World):Prop:=∃k:Nat,i=.int .i64 k/\k<=N/\NpW w wr P s r nv iv (OFF+k) (OFF+k)/\wr.heap[LB]? =some (.cells #[jj BL N,jj (BL+1) N] 169 (0,0))/\wr.heap[BL]? =some (.cells ((yW J).map fun x=>Value.string ⟨x.toArray⟩).toArray 9 (0,0))/\wr.heap[BL+1]? =some (.cells ((qW J).map fun (k:Nat)=>Value.int .u8 k).toArray 5 (0,0))
abbrev zd8(J OFF:Nat)(rank:Int)(k:Nat):Prop:=∃(kd:Nat) (sg:List UInt8),(qW J)[k]? =some kd/\(yW J)[k]? =some sg/\qO.take (OFF+k+1)=qO.take (OFF+k) ++ [(kd,.string ⟨sg.toArray⟩)]/\yP.take (OFF+k+1)=yP.take (OFF+k) ++ [(kd,.int .i64 rank)]/\(∀x∈qO.take (OFF+k),x.1≠kd)/\(∀x∈yP.take (OFF+k),x.1≠kd)
theorem Kk{J OFF:Nat}{rank:Int}{k kd:Nat}{sg:List UInt8}(h1:(qW J)[k]? =some kd)(h2:(yW J)[k]? =some sg)(h3:XW[OFF+k]? =some (kd,sg))(h4:vV[OFF+k]? =some (kd,rank))(h5:((XW.take (OFF+k)).all fun x=>x.1 != kd)=true)(h6:((vV.take (OFF+k)).all fun x=>x.1 != kd)=true):zd8 J OFF rank k:=by
 refine⟨kd,sg,h1,h2,?_,?_,fun x hx=>?_,fun x hx=>?_⟩
 ·rw[wY];unfold qO;rw[wE,h3];rfl
 ·rw[wY];unfold yP;rw[wE,h4];rfl
 ·unfold qO at hx;rw[<-List.map_take] at hx;obtain⟨y,hy,rfl⟩:=List.mem_map.1 hx;simpa using pV.1 h5 y hy
 ·unfold yP at hx;rw[<-List.map_take] at hx;obtain⟨y,hy,rfl⟩:=List.mem_map.1 hx;simpa using pV.1 h6 y hy
theorem zmy:∀k,k<1->zd8 0 0 1 k:=fun k hk=>by
 obtain rfl:k=0:=by omega
 exact Kk rfl rfl rfl rfl rfl rfl
theorem zmx:∀k,k<1->zd8 1 1 2 k:=fun k hk=>by
 obtain rfl:k=0:=by omega
 exact Kk rfl rfl rfl rfl rfl rfl
theorem zmw:∀k,k<7->zd8 2 2 4 k:=fun k hk=>by
 obtain rfl|rfl|rfl|rfl|rfl|rfl|rfl:k=0\/k=1\/k=2\/k=3\/k=4\/k=5\/k=6:=by omega
 all_goals exact Kk rfl rfl rfl rfl rfl rfl
theorem zmv:∀k,k<3->zd8 3 9 5 k:=fun k hk=>by
 obtain rfl|rfl|rfl:k=0\/k=1\/k=2:=by omega
 all_goals exact Kk rfl rfl rfl rfl rfl rfl
theorem zmu:∀k,k<3->zd8 4 12 6 k:=fun k hk=>by
 obtain rfl|rfl|rfl:k=0\/k=1\/k=2:=by omega
 all_goals exact Kk rfl rfl rfl rfl rfl rfl
def NpT(w:World)(P s r:Nat)(nv iv:Value)(D L:Nat)(ks:List Nat)(i:Value)(wr:World):Prop:=∃k:Nat,i=.int .i64 k/\k<=ks.length/\NpW w wr P s r nv iv 15 (D+k)/\wr.heap[L]? =some (.cells (ks.map fun (k:Nat)=>Value.int .u8 k).toArray 5 (0,0))
theorem zjc{D:Nat}{rank:Int}{k kd:Nat}{ks:List Nat}(h1:ks[k]? =some kd)(h4:vV[D+k]? =some (kd,rank))(h6:((vV.take (D+k)).all fun x=>x.1 != kd)=true):∃kd,ks[k]? =some kd/\yP.take (D+k+1)=yP.take (D+k) ++ [(kd,.int .i64 rank)]/\∀x∈yP.take (D+k),x.1≠kd:=by
 refine⟨kd,h1,?_,fun x hx=>?_⟩
 ·rw[wY];unfold yP;rw[wE,h4];rfl
 ·unfold yP at hx;rw[<-List.map_take] at hx;obtain⟨y,hy,rfl⟩:=List.mem_map.1 hx;simpa using pV.1 h6 y hy
theorem tl1:∀k,k<4->∃kd,[6,37,38,39][k]? =some kd/\yP.take (16+k+1)=yP.take (16+k) ++ [(kd,.int .i64 7)]/\∀x∈yP.take (16+k),x.1≠kd:=fun k hk=>by
 obtain rfl|rfl|rfl|rfl:k=0\/k=1\/k=2\/k=3:=by omega
 all_goals exact zjc rfl rfl rfl
theorem tl2:∀k,k<2->∃kd,[23,24][k]? =some kd/\yP.take (20+k+1)=yP.take (20+k) ++ [(kd,.int .i64 8)]/\∀x∈yP.take (20+k),x.1≠kd:=fun k hk=>by
 obtain rfl|rfl:k=0\/k=1:=by omega
 all_goals exact zjc rfl rfl rfl
structure PrL(lo:Nat)(w:World)(P:Nat)(nv iv:Value):Prop where
 maps:∃s r,lo<=P/\lo<=s/\lo<=r/\w.heap[P]? =some (.cells #[nv,iv,.map (some s),.map (some r)] 166 (0,0))/\w.heap[s]? =some (Zw qO)/\w.heap[r]? =some (Zw yP)
theorem PrL.pr{lo:Nat}{w:World}{P:Nat}{nv iv:Value}(h:PrL lo w P nv iv):PrW w P nv iv:=by
 obtain⟨s,r,_,_,_,h1,h2,h3⟩:=h.maps;exact⟨s,r,h1,h2,h3⟩
theorem Kd(nv iv:Value)(w:World):Calls prog 107 #[.agg #[nv,iv]] w fun e w'=>∃P,e=.returned (.pointer (some ⟨P,0,none⟩))/\PrL w.heap.size w' P nv iv/\Below w.heap.size w w':=by
 have h0:=zC [.cells #[nv,iv] 26 (0,0),.map #[] 0,.map #[] 0,.cells #[nv,iv,.map (some (w.heap.size+1)),.map (some (w.heap.size+2))] 166 (0,0)] w;have hA:=zK [.cells #[nv,iv] 26 (0,0),.map #[] 0,.map #[] 0,.cells #[nv,iv,.map (some (w.heap.size+1)),.map (some (w.heap.size+2))] 166 (0,0)] w;obtain⟨P,hP⟩:=exE (w.heap.size+3);obtain⟨s,hs⟩:=exE (w.heap.size+1);obtain⟨r,hr⟩:=exE (w.heap.size+2);have hst:=zi (show zjA w P s r nv iv (.int .i64 0) ([Obj.cells #[nv,iv] 26 (0,0),.map #[] 0,.map #[] 0,.cells #[nv,iv,.map (some (w.heap.size+1)),.map (some (w.heap.size+2))] 166 (0,0)].foldl World.alloc w) from ⟨0,rfl,by omega,⟨by rw[<-hP,<-hs,<-hr];exact h0 3 _ rfl,by rw[<-hs];exact h0 1 _ rfl,by rw[<-hr];exact h0 2 _ rfl,hA⟩⟩);simp only[List.foldl_cons,List.foldl_nil] at hst;clear h0 hA;have HP:=zi hP;have Hs:=zi hs;have Hr:=zi hr;clear hP hs hr;have hmm:= @run_makeMap prog;go_enter func107,ntmps107;go_wp2_with fail;rw[show w.heap.size+1+1=w.heap.size+2 from rfl,HP.out,Hr.out,Hs.out];rw[Hr.out,Hs.out] at hst;go_loopw [19] (zjA w P s r nv iv) (fun i _=>5-(intOf i).toNat)
 case atStart=>exact hst.out
 case round=>
  obtain⟨j,rfl,hj,hw⟩:=hrel;have hPn:=HP.out;have hsn:=Hs.out;have hrn:=Hr.out;by_cases hlt:j<5
  ·have hy:=pF ((j:Int)+1) (by omega);obtain⟨N,OFF,RANK,hoff,hfin,h15,hlf,hix,hi5⟩:∃(N OFF:Nat) (RANK:Int),zey j=OFF/\Hid (zey (j+1)=OFF+N)/\Hid (OFF+N<=15)/\Hid (∀k,k<N->zd8 j OFF RANK k)/\(∀W,(Instr.index 170 (lvV (wr.heap.size+1)) (.int .i64 j)).run prog W=.ok (.agg #[jj (wr.heap.size+1+2*j) N,jj (wr.heap.size+1+2*j+1) N]) W)/\∀W,(Instr.index 167 (.agg #[.int .i64 1,.int .i64 2,.int .i64 4,.int .i64 5,.int .i64 6]) (.int .i64 j)).run prog W=.ok (.int .i64 RANK) W:=by
    obtain rfl|rfl|rfl|rfl|rfl:j=0\/j=1\/j=2\/j=3\/j=4:=by omega
    ·exact⟨1,0,1,rfl,zi rfl,zi (by decide),zi zmy,fun W=>rfl,fun W=>rfl⟩
    ·exact⟨1,1,2,rfl,zi rfl,zi (by decide),zi zmx,fun W=>rfl,fun W=>rfl⟩
    ·exact⟨7,2,4,rfl,zi rfl,zi (by decide),zi zmw,fun W=>rfl,fun W=>rfl⟩
    ·exact⟨3,9,5,rfl,zi rfl,zi (by decide),zi zmv,fun W=>rfl,fun W=>rfl⟩
    ·exact⟨3,12,6,rfl,zi rfl,zi (by decide),zi zmu,fun W=>rfl,fun W=>rfl⟩
   rw[hoff] at hw;clear hoff;have HL:=zi (Zg wr);have HW:=zi hw;go_wp2_with fail;refine HL.out.mono ?_;rintro e w2 ⟨rfl,hlv,hb2⟩;have hw2:=hw.below hb2;have hA2:=zg w2 (.cells #[jj (wr.heap.size+1+2*j) N,jj (wr.heap.size+1+2*j+1) N] 169 (0,0));have hl2:=zl w2 (.cells #[jj (wr.heap.size+1+2*j) N,jj (wr.heap.size+1+2*j+1) N] 169 (0,0));have hlv2:=(hlv.below hA2) j hlt;have hw3:=hw2.below hA2;have c1:=zd hl2 1;have hlt2:wr.heap.size+1+2*j+1<w2.heap.size:=(Array.getElem?_eq_some_iff.1 (hlv j hlt).2).1;clear hw;have HI2:=zi hl2;have HW3:=zi hw3;have HLV:=zi hlv2;clear hw3 hlv2 hlv hl2 hw2;go_wp2_with fail;generalize w2.alloc (.cells #[jj (wr.heap.size+1+2*j) N,jj (wr.heap.size+1+2*j+1) N] 169 (0,0))=w3 at *;generalize hBL:wr.heap.size+1+2*j=BL at *;generalize hLB:w2.heap.size=LB at *;have hst:=zi (show zl7 w P s r nv iv j N OFF LB BL (.int .i64 0) w3 from ⟨0,rfl,pX _,HW3.out,HI2.out,HLV.out.1,HLV.out.2⟩);clear HW3 HI2 HLV c1 hA2 HL hb2 HW;go_loopw [29] (zl7 w P s r nv iv j N OFF LB BL) (fun i _=>N-(intOf i).toNat)
   case atStart=>exact hst.out
   case round=>
    obtain⟨k,rfl,hk,hw,hl,hls,hlk⟩:=hrel;by_cases hlk2:k<N
    ·have hlt':(k:Int)<(N:Int):=by omega
     have hk0:¬((k:Int)<0):=by omega
     have hy:IntKind.i64.wrap ((k:Int)+1)=(k:Int)+1:=pF _ ⟨by omega,by have:=h15.out;omega⟩;obtain⟨kd,sg,e1,e2,h1,h2,h3,h4⟩:∃(kd:Nat) (sg:List UInt8),(qW j)[k]? =some kd/\(yW j)[k]? =some sg/\qO.take (OFF+k+1)=qO.take (OFF+k) ++ [(kd,.string ⟨sg.toArray⟩)]/\yP.take (OFF+k+1)=yP.take (OFF+k) ++ [(kd,.int .i64 RANK)]/\(∀x∈qO.take (OFF+k),x.1≠kd)/\(∀x∈yP.take (OFF+k),x.1≠kd):=hlf.out k hlk2;obtain⟨c,hc⟩:=exE (OFF+k);have hcn:c<=15:=by have:=h15.out;omega
     rw[hc] at h1 h2 h3 h4 hw;have Hc:=zi hc;clear hc;have c0:wr.cell? ⟨LB,0,none⟩=some (jj BL N):=zd hl 0;have c1:wr.cell? ⟨LB,1,none⟩=some (jj (BL+1) N):=zd hl 1;have ck:wr.cell? ⟨BL+1,k,none⟩=some (.int .u8 kd):=by
      rw[zd hlk k,pU,wE,e1];rfl
     have cs:wr.cell? ⟨BL,k,none⟩=some (.string ⟨sg.toArray⟩):=by
      rw[zd hls k,pU,wE,e2];rfl
     have hfd:FrM w.heap.size wr wr.drew:=FrM.drew _ _;have hS:∀V,(zjt w.heap.size).rel wr.drew V->V.cell? ⟨P,2,none⟩=some (.map (some s))/\V.cell? ⟨P,3,none⟩=some (.map (some r))/\V.cell? ⟨LB,0,none⟩=some (jj BL N)/\V.cell? ⟨BL,k,none⟩=some (.string ⟨sg.toArray⟩):=fun V hV=>by
      have hf:=hfd.trans hV;exact⟨zd (hf.keep _ _ _ _ hw.p) 2,zd (hf.keep _ _ _ _ hw.p) 3,zd (hf.keep _ _ _ _ hl) 0,by rw[zd (hf.keep _ _ _ _ hls) k,pU,wE,e2];rfl⟩
     obtain⟨v1,r1,s1,o1,f1⟩:=Kz (base:=w.heap.size) underlying163 underlying5 (z:=.string ⟨#[]⟩) (fun _=>by kernel_rfl) (w:=wr.drew) (r:=s) (l:=qO.take c) hw.s kd h3 (by omega);obtain⟨v2,r2,s2,o2,f2⟩:=JJ (base:=w.heap.size) (t:=163) s1 (.string ⟨sg.toArray⟩) (by omega);have q2:v2.heap[r]? =some (Zw (yP.take c)):=by rw[o2 r (by omega),o1 r (by omega)];exact hw.r
     obtain⟨v3,r3,s3,o3,f3⟩:=Kz (base:=w.heap.size) underlying164 underlying5 (z:=.int .i64 0) (fun _=>by kernel_rfl) q2 kd h4 (by omega);obtain⟨v4,r4,s4,o4,f4⟩:=JJ (base:=w.heap.size) (t:=164) s3 (.int .i64 RANK) (by omega);have hlens:(qO.take c).length=c:=by rw[gG,show qO.length=15 from rfl];have:=Hc.out;have:=h15.out;omega
     have hlenr:(yP.take c).length=c:=by rw[gG,show yP.length=22 from rfl];have:=Hc.out;have:=h15.out;omega
     rw[hlens] at r1 r2;rw[hlenr] at r3 r4;have hF:=zi ((((hfd.trans f1).trans f2).trans f3).trans f4);have G1:=zi f1;have G2:=zi f2;have G3:=zi f3;have G4:=zi f4;have hs4:=zi (show v4.heap[s]? =some (Zw (qO.take (c+1))) from by rw[o4 s (by omega),o3 s (by omega),h1];exact s2);have hr4:=zi (show v4.heap[r]? =some (Zw (yP.take (c+1))) from by rw[h2];exact s4);have HW:=zi hw;have Hl:=zi hl;have Hls:=zi hls;have Hlk:=zi hlk;clear s1 o1 f1 s2 o2 f2 s3 o3 f3 s4 o4 f4 q2 h1 h2 h3 h4 e1 e2 hlens hlenr hw hl hls hlk hfd c0;go_wp2_with fail;refine LodeX.qJ (RR:=zjt w.heap.size) (Xp:=fun _ _=>False) [(0,0),(1,0),(2,0),(3,1),(4,0),(5,0),(6,0),(7,0),(8,1),(9,0),(10,0),(11,1),(12,0),(13,0),(14,1),(15,0),(16,2),(17,0),(18,2),(19,2),(20,0),(21,2)] ?_;refine LodeX.qg ?_;clear hS;refine LodeX.zU rfl rfl (fun K hK V hV=>?_);cases hV;go_simp;refine⟨G1.out,hK _ _ ?_⟩;clear hK K
     try simp only[Act.put,yh,yf,yg]
     have hS:∀V:World,True->True:=fun _ h=>h
     refine LodeX.qg ?_;refine LodeX.zU rfl rfl (fun K hK V hV=>?_);cases hV;go_simp;refine⟨G2.out,hK _ _ ?_⟩;clear hK K
     try simp only[Act.put,yh,yf,yg]
     refine LodeX.zU rfl rfl (fun K hK V hV=>?_);cases hV;go_simp;refine⟨G3.out,hK _ _ ?_⟩;clear hK K
     try simp only[Act.put,yh,yf,yg]
     refine LodeX.qg ?_;refine LodeX.zU rfl rfl (fun K hK V hV=>?_);cases hV;go_simp;refine⟨G4.out,hK _ _ ?_⟩;clear hK K
     try simp only[Act.put,yh,yf,yg]
     refine LodeX.zm fun V hV=>?_
     cases hV;clear r1 r2 r3 r4 hS;go_wp2;go_roundw
     case rel=>exact⟨k+1,by go_num,by omega,by rw[show OFF+(k+1)=c+1 from by have:=Hc.out;omega];exact⟨hF.out.keep _ _ _ _ HW.out.p,hs4.out,hr4.out,uv HW.out.b hF.out⟩,hF.out.keep _ _ _ _ Hl.out,hF.out.keep _ _ _ _ Hls.out,hF.out.keep _ _ _ _ Hlk.out⟩
     case measure=>simp[intOf];omega
    ·have hkn:k=N:=by omega
     have hlt':¬((k:Int)<(N:Int)):=by omega
     have HW:=zi hw;clear hw hl hls hlk;go_wp2;go_roundw
     case rel=>exact⟨j+1,by go_num,by omega,by rw[hfin.out,<-hkn];exact HW.out⟩
     case measure=>simp[intOf];omega
  ·obtain rfl:j=5:=by omega
   replace hw:NpW w wr P s r nv iv 15 15:=hw;have c3:wr.cell? ⟨P,3,none⟩=some (.map (some r)):=zd hw.p 3;obtain⟨v1,r1,s1,o1,f1⟩:=JU (base:=w.heap.size) underlying164 underlying5 hw.r 7 (.int .i64 3) (by decide) (by omega);have hw1:=zi (show NpW w v1 P s r nv iv 15 16 from ⟨f1.keep _ _ _ _ hw.p,by rw[o1 s (by omega)];exact hw.s,s1,uv hw.b f1⟩);replace r1:(Instr.mapUpdate 164 (.map (some r)) (.int .u8 7) (.int .i64 3)).run prog wr=.ok () v1:=r1;clear s1 o1 f1 hw;go_wp2_with fail;have hwA:=zi (hw1.out.below (zg v1 (.cells #[.int .u8 6,.int .u8 37,.int .u8 38,.int .u8 39] 5 (0,0))));have hlA:=zi (zl v1 (.cells #[.int .u8 6,.int .u8 37,.int .u8 38,.int .u8 39] 5 (0,0)));clear hw1 r1 c3;generalize v1.alloc (.cells #[.int .u8 6,.int .u8 37,.int .u8 38,.int .u8 39] 5 (0,0))=v2 at *;generalize v1.heap.size=L1 at *;have hst1:=zi (show NpT w P s r nv iv 16 L1 [6,37,38,39] (.int .i64 0) v2 from ⟨0,rfl,pX _,hwA.out,hlA.out⟩);clear hwA hlA;go_loopw [62] (NpT w P s r nv iv 16 L1 [6,37,38,39]) (fun i _=>4-(intOf i).toNat)
   case atStart=>exact hst1.out
   case round=>
    obtain⟨k,rfl,hk,hw,hl⟩:=hrel;have hPn:=HP.out;have hsn:=Hs.out;have hrn:=Hr.out;have hk:k<=4:=hk;by_cases hlt:k<4
    ·have hlt':(k:Int)<4:=by omega
     have hk0:¬((k:Int)<0):=by omega
     have hy:=pF ((k:Int)+1) (by omega);obtain⟨kd,e1,h1,h2⟩:=tl1 k hlt;have c3:wr.cell? ⟨P,3,none⟩=some (.map (some r)):=zd hw.p 3;have ck:=zd hl k;rw[pU,wE,e1] at ck;replace ck:wr.cell? ⟨_,k,none⟩=some (.int .u8 kd):=ck;obtain⟨c,hc⟩:=exE (16+k);rw[hc] at h1 h2 hw;obtain⟨v9,r1,s1,o1,f1⟩:=JU (base:=w.heap.size) underlying164 underlying5 hw.r kd (.int .i64 7) h2 (by omega);rw[<-h1] at s1;have hw9:=zi (show NpW w v9 P s r nv iv 15 (c+1) from ⟨f1.keep _ _ _ _ hw.p,by rw[o1 s (by omega)];exact hw.s,s1,uv hw.b f1⟩);have hl9:=zi (f1.keep _ _ _ _ hl);have Hc:=zi hc;clear s1 o1 f1 hw hl h1 h2 hc e1;go_wp2;go_roundw
     case rel=>exact⟨k+1,by go_num,by simp;omega,by rw[show 16+(k+1)=c+1 from by have:=Hc.out;omega];exact hw9.out,hl9.out⟩
     case measure=>simp[intOf];omega
    ·obtain rfl:k=4:=by omega
     have HW:=zi hw;clear hl hw;go_wp2_with fail;have hwA:=zi (HW.out.below (zg wr (.cells #[.int .u8 23,.int .u8 24] 5 (0,0))));have hlA:=zi (zl wr (.cells #[.int .u8 23,.int .u8 24] 5 (0,0)));clear HW;generalize wr.alloc (.cells #[.int .u8 23,.int .u8 24] 5 (0,0))=v3 at *;generalize wr.heap.size=L2 at *;have hst2:=zi (show NpT w P s r nv iv 20 L2 [23,24] (.int .i64 0) v3 from ⟨0,rfl,pX _,hwA.out,hlA.out⟩);clear hwA hlA;go_loopw [74] (NpT w P s r nv iv 20 L2 [23,24]) (fun i _=>2-(intOf i).toNat)
     case atStart=>exact hst2.out
     case round=>
      obtain⟨k,rfl,hk,hw,hl⟩:=hrel;have hPn:=HP.out;have hsn:=Hs.out;have hrn:=Hr.out;have hk:k<=2:=hk;by_cases hlt:k<2
      ·have hlt':(k:Int)<2:=by omega
       have hk0:¬((k:Int)<0):=by omega
       have hy:=pF ((k:Int)+1) (by omega);obtain⟨kd,e1,h1,h2⟩:=tl2 k hlt;have c3:wr.cell? ⟨P,3,none⟩=some (.map (some r)):=zd hw.p 3;have ck:=zd hl k;rw[pU,wE,e1] at ck;replace ck:wr.cell? ⟨_,k,none⟩=some (.int .u8 kd):=ck;obtain⟨c,hc⟩:=exE (20+k);rw[hc] at h1 h2 hw;obtain⟨v9,r1,s1,o1,f1⟩:=JU (base:=w.heap.size) underlying164 underlying5 hw.r kd (.int .i64 8) h2 (by omega);rw[<-h1] at s1;have hw9:=zi (show NpW w v9 P s r nv iv 15 (c+1) from ⟨f1.keep _ _ _ _ hw.p,by rw[o1 s (by omega)];exact hw.s,s1,uv hw.b f1⟩);have hl9:=zi (f1.keep _ _ _ _ hl);have Hc:=zi hc;clear s1 o1 f1 hw hl h1 h2 hc e1;go_wp2;go_roundw
       case rel=>exact⟨k+1,by go_num,by simp;omega,by rw[show 20+(k+1)=c+1 from by have:=Hc.out;omega];exact hw9.out,hl9.out⟩
       case measure=>simp[intOf];omega
      ·obtain rfl:k=2:=by omega
       have HW:=zi hw;clear hl hw;go_wp2;go_ret;exact⟨P,rfl,⟨s,r,by omega,by omega,by omega,HW.out.p,HW.out.s,HW.out.r⟩,HW.out.b⟩
end
section
open Go.RowKit Lode Go.Shelf
open Go.Proofs.Tryz
def vj(b:Nat)(w w':World):Prop:=∀(k:Nat) (o:Obj),k≠b->(∀cs fr,o≠.cells cs 5 fr)->w.heap[k]? =some o->w'.heap[k]? =some o
theorem vj.refl(b:Nat)(w:World):vj b w w:=fun _ _ _ _ h=>h
theorem vj.trans{b:Nat}{x y z:World}(h:vj b x y)(k:vj b y z):vj b x z:=fun i o h1 h2 h3=>k i o h1 h2 (h i o h1 h2 h3)
theorem vj.set(b i:Nat)(v:Value)(w:World):vj b w (w.setCell ⟨b,i,none⟩ v):=fun k o h1 _ h3=>(zw h1).trans h3
theorem KD(B b:Nat)(bs:List Value)(w:World)(h:IsB B b bs w):
 Calls prog 109 #[.pointer (some ⟨b,0,none⟩)] w fun e w'=>e=.returned (.tuple #[])/\(BAt B b (.pointer (some ⟨b,0,none⟩)) bs w'/\Below B w w')/\vj b w w':=by
 rcases h with h|h
 ·refine (Zv b w h.cell0 h.shape h.frozen0).mono ?_;rintro e w' ⟨rfl,rfl⟩;exact⟨rfl,⟨h.used _,(pE B w).setCell (p:=⟨b,0,none⟩) h.1 _⟩,vj.set _ _ _ _⟩
 ·refine (ZW b w h.cell0).mono ?_;rintro e w' ⟨rfl,rfl⟩;exact⟨rfl,⟨h,pE B _⟩,vj.refl _ _⟩
theorem VC{w:World}{B:Nat}{v:Value}{m:Nat}{xs:List Value}(h:w.ownsRow B 5 1 v m xs){g:Nat}(hg:v.ownBlock=some g):∃cs fr,w.heap[g]? =some (.cells cs 5 fr):=by
 obtain⟨_,⟨hv,_⟩|⟨g',cap,cur,hv,_,hh,_⟩⟩:=h
 ·rw[hv] at hg;cases hg
 ·rw[hv] at hg;simp only[Value.ownBlock,wP] at hg;subst hg;exact⟨cur,_,hh⟩
theorem XQ(B b:Nat)(bs:List Value)(s:ByteArray)(w:World)(h:IsB B b bs w)(hlen:bs.length+s.size<=140737488355328)(hBw:B<=w.heap.size):
 Calls prog 65 #[.pointer (some ⟨b,0,none⟩),.string s] w fun e w'=>e=.returned (.tuple #[.int .i64 s.size,.nilIface])/\(BAt B b (.pointer (some ⟨b,0,none⟩)) (bs ++ Lib.strCells s) w'/\Below B w w')/\vj b w w':=by
 obtain⟨i0,hi,hz0,hz1,hz2⟩:=info_parts zdQ;go_enter func65,ntmps65;go_wp2_with (go_at_call 109;refine (KD B b bs _ h).mono ?_);rintro e w1 ⟨rfl,⟨h1,hb1⟩,hk1⟩;obtain⟨hB,v,hbk,hown,hne⟩:=h1;have HK1:=zi hk1;clear hk1;have c0:w1.cell? ⟨b,0,none⟩=some (.pointer (some ⟨b,0,none⟩)):=by rw[Lib.cell_of_heap hbk];rfl
 have c1:w1.cell? ⟨b,1,none⟩=some v:=by rw[Lib.cell_of_heap hbk];rfl
 go_wp2_with (at_builtin;refine Lib.wpList_append_own_string _ rfl _ _ 76 9 rfl B 5 i0 underlying76 underlying9 hi hz0 hz1 hz2 _ _ _ rfl hown s rfl ?c3 ?c4 ?c5 ?_)
 case c3=>unfold maxLen;omega
 case c4=>omega
 case c5=>have:=hb1.size;omega
 intro v' w2 hown' hgrow _;have hlt:b<w1.heap.size:=by
  rcases Nat.lt_or_ge b w1.heap.size with h'|h'
  ·exact h'
  ·simp[Array.getElem?_eq_none h'] at hbk
 have hk2:=zi (show vj b w1 w2 from fun k o h1 h2 h3=>by
  rw[hgrow.block k (gtA h3) (fun e=>by
   obtain⟨cs,fr,hh⟩:=VC hown e.symm;rw[h3] at hh;cases hh;exact h2 _ _ rfl)]
  exact h3)
 have hb2:w2.heap[b]? =some (.cells #[.pointer (some ⟨b,0,none⟩),v] 78 (0,0)):=by
  rw[hgrow.block b hlt (fun e=>hne e.symm)];exact hbk
 have d0:w2.cell? ⟨b,0,none⟩=some (.pointer (some ⟨b,0,none⟩)):=by rw[Lib.cell_of_heap hb2];rfl
 have d1:w2.cell? ⟨b,1,none⟩=some v:=by rw[Lib.cell_of_heap hb2];rfl
 have f1:w2.frozen? ⟨b,1,none⟩=false:=Lib.frozen_of_heap hb2 1;obtain⟨ao,n',cap,rfl⟩:∃ao n' cap,v'=.slice ao n' cap:=by
  rcases hown'.2 with⟨hv,_⟩|⟨g,cap,cur,hv,_⟩
  ·exact⟨_,_,_,hv⟩
  ·exact⟨_,_,_,hv⟩
 go_wp2;go_ret2;refine⟨rfl,⟨?_,?_⟩,(HK1.out.trans hk2.out).trans (vj.set _ _ _ _)⟩
 ·exact Lib.BuilderAt.put (T:=78) (e:=5) hB hb2 (bs':=bs ++ Lib.strCells s) (by simpa[Lib.strCells_length] using hown') (by decide)
 ·exact (hb1.grown hgrow (by have:=hb1.size;omega) (fun k hk=>(hown.lt k hk).1)).setCell (p:=⟨b,1,none⟩) hB _
theorem Bd.writeKeep{w0 w:World}{b:Nat}{ob:ByteArray}(h:Bd w0 b ob w)(x:ByteArray)(hs:ob.size+x.size<=2000000000000):
 Calls prog 65 #[.pointer (some ⟨b,0,none⟩),.string x] w fun e w'=>e=.returned (.tuple #[.int .i64 x.size,.nilIface])/\Bd w0 b (ob ++ x) w'/\vj b w w'/\Below w0.heap.size w w':=
 (XQ w0.heap.size b _ x w h.1 (pR (Nat.le_of_eq (by rw[Lib.byteCells_length];exact congrArg (· +x.size) (by simp:ob.data.toList.length=ob.size))) (by omega:ob.size+x.size<=140737488355328)) h.2.size).mono fun e w' ⟨h1,⟨h2,h3⟩,h4⟩=>⟨h1,⟨.inr (by
  have e:Lib.byteCells (ob ++ x).data.toList=Lib.byteCells ob.data.toList ++ Lib.strCells x:=by rw[zv];simp[Lib.byteCells,Lib.strCells]
  rw[e];exact h2),h.2.trans h3⟩,h4,h3⟩
theorem BAt.grown{B b:Nat}{p:Value}{bs:List Value}{w w':World}{row:Option Nat}(h:BAt B b p bs w)(hg:w.grownBy w' row)(hr:∀r,row=some r->∃o:Obj,w.heap[r]? =some o/\o.isCells=false):BAt B b p bs w':=by
 obtain⟨hB,v,hbk,hown,hne⟩:=h;refine⟨hB,v,?_,World.ownsRow.kept hown hg ?_,hne⟩
 ·rw[hg.block b (gtA hbk) (fun e=>by
   obtain⟨o,ho,hc⟩:=hr b e.symm;rw[hbk] at ho;cases ho;cases hc)]
  exact hbk
 ·cases hv:v.ownBlock with
  |none=>exact .inl rfl
  |some g=>
   refine .inr (fun e=>?_);obtain⟨cs,fr,hh⟩:=VC hown hv;obtain⟨o,ho,hc⟩:=hr g e.symm;rw[hh] at ho;cases ho;cases hc
theorem Bd.grown{w0 w w':World}{b:Nat}{ob:ByteArray}{row:Option Nat}(h:Bd w0 b ob w)(hg:w.grownBy w' row)(hr:∀r,row=some r->w0.heap.size<=r/\∃o:Obj,w.heap[r]? =some o/\o.isCells=false):Bd w0 b ob w':=
 ⟨h.1.imp (fun h=>BAt.grown h hg (fun r e=>(hr r e).2)) (fun h=>BAt.grown h hg (fun r e=>(hr r e).2)),h.2.grown hg h.2.size (fun r e=>(hr r e).1)⟩
def KpO(o:Obj):Prop:=(∃cs T fr,o=.cells cs T fr/\T≠5)\/∃es c,o=.map es c
structure KpL(X:Nat->Prop)(base:Nat)(A B:World):Prop where
 b:Below base A B
 size:A.heap.size<=B.heap.size
 keep:∀(k:Nat) (o:Obj),¬X k->KpO o->A.heap[k]? =some o->B.heap[k]? =some o
theorem KpL.refl(X:Nat->Prop)(base:Nat)(A:World):KpL X base A A:=⟨pE _ _,pG _,fun _ _ _ _ h=>h⟩
theorem KpL.trans{X:Nat->Prop}{base:Nat}{a b c:World}(h:KpL X base a b)(k:KpL X base b c):KpL X base a c:=⟨h.b.trans k.b,pR h.size k.size,fun i o h1 h2 h3=>k.keep i o h1 h2 (h.keep i o h1 h2 h3)⟩
theorem KpL.of_below{X:Nat->Prop}{base:Nat}{a b:World}(hb:base<=a.heap.size)(h:Below a.heap.size a b):KpL X base a b:=⟨h.mono hb,h.size,fun k o _ _ hk=>(h.block k (gtA hk)).trans hk⟩
theorem KpL.put{X:Nat->Prop}{base:Nat}{w:World}(hb:base<=w.heap.size)(W:World)(l:Nat)(o:Loop)(o':Obj)(hl:w.heap.size<=l)(h:W.heap[l]? =some (.loop o)):KpL X base W (W.putObj l o'):=by
 have hlt:=(gtA h);have hg:=grownBy_putObj' W l o';refine⟨(pE _ W).grown hg (by omega) (fun k hk=>by cases hk;omega),hg.size,fun k o2 _ hK hk=>?_⟩;rw[World.putObj_heap_other (fun e'=>by
  subst e';rw[h] at hk;cases hk;rcases hK with⟨cs,T,fr,he,_⟩|⟨es,c,he⟩ <;> cases he)]
 exact hk
theorem PrL.keep{X:Nat->Prop}{base lo:Nat}{w w':World}{P:Nat}{nv iv:Value}(h:PrL lo w P nv iv)(hX:∀k,X k->k<lo)(hk:KpL X base w w'):PrL lo w' P nv iv:=by
 obtain⟨s,r,l1,l2,l3,h1,h2,h3⟩:=h.maps;have hn:∀k,lo<=k->¬X k:=fun k hk hx=>by have:=hX k hx;omega
 exact⟨s,r,l1,l2,l3,hk.keep _ _ (hn _ l1) (.inl ⟨_,_,_,rfl,by decide⟩) h1,hk.keep _ _ (hn _ l2) (.inr ⟨_,_,rfl⟩) h2,hk.keep _ _ (hn _ l3) (.inr ⟨_,_,rfl⟩) h3⟩
theorem zfK(nv iv:Value)(w:World):Calls prog 64 #[.agg #[nv,iv]] w fun e w'=>e=.returned (.func (.func 106) #[] #[.pointer (some ⟨w.heap.size,0,none⟩)])/\w'=w.alloc (.cells #[nv,iv] 26 (0,0)):=by
 have hmf:∀(fn:Fn) (first cap:Array Value) (w:World),(Instr.makeFunc fn first cap).run prog w=.ok (.func fn first cap) w:=fun _ _ _ _=>rfl
 go_enter func64,ntmps64;go_wp2;go_ret;exact⟨rfl,rfl⟩
structure zl6(t:zQ):Prop where
 full:xF t.nodes t.nodes.length
 right:∀x∈t.nodes,ye t.nodes x=true
 nodes:t.nodes.length<=1000
 items:t.items.length<=40
 its:∀k∈t.items,0<=k/\k<(t.nodes.length:Int)
 kind:∀x∈t.nodes,x.kind<=255
def zjC(X:Nat->Prop)(base lo P:Nat)(nv iv:Value)(m:Nat)(J:List ByteArray->World->Prop)(Ws:World)(i:Value)(wr:World):Prop:=∃pre:List ByteArray,i=.int .i64 pre.length/\pre.length<=m/\KpL X base Ws wr/\J pre wr/\PrL lo wr P nv iv
theorem zfJ(X:Nat->Prop)(w0:World)(C:Nat)(t:zQ)(nv iv:Value)(hT:TR w0 nv iv t)(hG:qL w0)(hok:zl6 t)(w:World)(hb0:Below w0.heap.size w0 w)(hC:w.heap[C]? =some (.cells #[nv,iv] 26 (0,0)))(hXC:¬X C)(hX:∀k,X k->k<w.heap.size)(n:Nat)(hn:1<=n):
 zf6 Fence.wide n prog 106 #[] #[.pointer (some ⟨C,0,none⟩)] (fun x:ByteArray=> #[.string x]) (KpL X w0.heap.size) (fun pre x=>pre.length<t.items.length/\x.data.toList=prT t (t.items.getD pre.length 0) ++ [10]) (fun _=>False) (fun xs=>xs.length=t.items.length) (fun _=>True) w:=fun L J Jx W hW hJ hJx hY h0=>by
 have hC:=zh hW hC;have hXW:∀k,X k->k<W.heap.size:=fun k hk=>wO (hX k hk) hW.size
 have hb0:=hb0.trans (hW.mono hb0.size);obtain⟨np,nc,ip,ic,rfl,rfl⟩:=hT.form;obtain⟨kv,hN⟩:=hT.nodes;have HNode:=fun P=>zi (VA P (.slice np t.nodes.length nc) (.slice ip t.items.length ic) t.nodes kv hok.full hok.right hok.nodes hok.kind (t.nodes.length+1) t.nodes.length (by omega) (pG _))
 have c0:=zd hC 0;have c1:=zd hC 1;have HY:=zi hY;have HJ:=zi hJ;have HN:=zi hN;have HI:=zi hT.items;have HG:=zi hG;have Hits:=zi hok.its;have hm40:=hok.items;have HNP:=zi (Kd (.slice np t.nodes.length nc) (.slice ip t.items.length ic) W);have H0:=zi h0;have HC:=zi hC;clear hY hJ hN hT hG hok h0 hC;generalize hml:t.items.length=m at *;have Hml:=zi hml;clear hml;have hfn:∀f,Fence.wide.fn f=True:=fun _=>rfl
 refine callsIn_of_wp func106 rfl trivial ?_ rfl;simp only[ntmps106,List.size_toArray,pQ,wD,Nat.reduceAdd,Nat.reduceSub,Array.replicate_succ,Array.replicate_zero,List.push_toArray,List.append_toArray,wW,wJ]
 gi_wp2_with fail
 refine (callsIn_wide.2 HNP.out).mono ?_;rintro e W1 ⟨P,rfl,hP,hbP⟩;clear c0 c1;have c1:=zd (zh hbP HC.out) 1;have hst:=zi (show zjC X w0.heap.size W.heap.size P (.slice np t.nodes.length nc) (.slice ip m ic) m J W (.int .i64 0) W1 from ⟨[],rfl,pX _,KpL.of_below hb0.size hbP,HJ.out [] W W1 none H0.out (ud hbP none) (fun r e=>by cases e),hP⟩);clear hP
 gi_wp2_with fail
 clear c1
 gi_loopw [11] (zjC X w0.heap.size W.heap.size P (.slice np t.nodes.length nc) (.slice ip m ic) m J W) (fun i _=>m-(intOf i).toNat)
 case atStart=>exact hst.out
 case round=>
  obtain⟨pre,rfl,hpre,hkp,hj,hP⟩:=hrel;have hb0r:=hb0.trans hkp.b;by_cases hlt:pre.length<m
  ·have hlt':(pre.length:Int)<(m:Int):=by omega
   have hj0:¬((pre.length:Int)<0):=by omega
   have hy:=pF ((pre.length:Int)+1) (by omega);have hjl:pre.length<t.items.length:=by rw[Hml.out];exact hlt
   obtain⟨g2,off2,rfl,_,d0⟩:=(HI.out.below hb0r).at hjl;have hz:=Hits.out (t.items.getD pre.length 0) (by rw[pB,glE hjl];exact wK hjl);have HYp:=zi (fun (b:ByteArray) (w2:World) (hb:b.data.toList=prT t (t.items.getD pre.length 0) ++ [10]) (hj2:J pre w2)=>HY.out pre b w2 hj2 ⟨hlt,hb⟩);generalize t.items.getD pre.length 0=z at *;obtain⟨zn,rfl⟩:=pO hz.1;have hNd:=zi ((HNode P).out.ok wr zn (by omega) ⟨hP.pr,HN.out.below hb0r,HG.out.later hb0r⟩);have hlen:=(HNode P).out.len zn (by omega);have HKP:=zi hkp;have HJp:=zi hj;have HP:=zi hP;clear hkp hj hP
   gi_wp2_with fail
   refine (callsIn_wide.2 hNd.out).mono ?_;rintro e w2 ⟨b,rfl,hb,hf⟩;have hsz:=xS hb;have HB:=zi hb;clear hb;obtain⟨fn,tm,asg,bo,hyy,hRR⟩:=HYp.out (b ++ ⟨#[10]⟩) w2 (by rw[zv,HB.out];rfl) (HJ.out pre wr w2 none HJp.out (ud hf none) (fun r e=>by cases e));have hRR:=zi hRR;have hk2:=zi (KpL.of_below (X:=X) hb0r.size hf)
   gi_wp2_with fail
   refine hRR.out.mono ?_;rintro e W' (⟨rfl,hJ',hk'⟩|⟨rfl,hJx'⟩)
   ·have hK:=zi ((HKP.out.trans hk2.out).trans hk');have hP':=zi ((HP.out.keep hXW hk2.out).keep hXW hk');have HJ':=zi hJ';clear hJ' hk'
    gi_wp2_with fail
    go_roundw
    case rel=>exact⟨pre ++ [b ++ ⟨#[10]⟩],by rw[pM,pN];go_num,by rw[pM,pN];omega,hK.out,HJ'.out,hP'.out⟩
    case measure=>simp only[intOf];omega
   ·gi_wp2_with fail
    first|go_end0|refine bodyPost_ret (results_none rfl _ _ _) rfl ?_
    exact⟨⟨_,rfl⟩,.inr ⟨_,trivial,hJx'⟩⟩
  ·have hlt':¬((pre.length:Int)<(m:Int)):=by omega
   gi_wp2_with fail
   first|go_end0|refine bodyPost_ret (results_none rfl _ _ _) rfl ?_
   exact⟨⟨_,rfl⟩,.inl ⟨pre,by omega,hj⟩⟩
theorem Tryz.cellsU8:prog.cellsOf 5=1:=by kernel_rfl
theorem zfQ{w:World}{b:Nat}{p:Value}(hbk:w.heap[b]? =some (.cells #[p,.slice none 0 0] 78 (0,0))):
 Calls prog 67 #[.pointer (some ⟨b,0,none⟩)] w fun e w'=>e=.returned (.string .empty)/\Below w.heap.size w w':=by
 have mixed:prog.follows .mixedOrders=true:=by kernel_rfl
 have hUS:(Builtin.unsafeString_ #[128,3] 9 #[.pointer none,.int .i64 0]).run prog w.drew=.ok (.string .empty) w.drew:=Lib.run_unsafeString_none _ _ _ _ _;have hSD:(Builtin.unsafeSliceData_ #[76] 128 #[.slice none 0 0]).run prog w.drew=.ok (.pointer none) w.drew:=rfl;have c1:w.drew.cell? ⟨b,1,none⟩=some (.slice none 0 0):=zd (show w.drew.heap[b]? =_ from hbk) 1;clear hbk;go_enter func67,ntmps67;go_wp2;go_region_o
 all_goals (go_wp2;go_ret;exact⟨rfl,bR.drew⟩)
theorem Bd.strKeep{w0 w:World}{b:Nat}{ob:ByteArray}(h:Bd w0 b ob w)(h0:ob.data.toList≠[]):
 Calls prog 67 #[.pointer (some ⟨b,0,none⟩)] w fun e w'=>e=.returned (.string ob)/\Below w0.heap.size w w'/\vj b w w':=by
 obtain⟨l,hl⟩:=exE (ob.data.toList);have hob:ob=⟨l.toArray⟩:=by rw[<-hl]
 subst hob;obtain⟨p,hAt⟩:∃p,BAt w0.heap.size b p (Lib.byteCells l) w:=by
  have h1:=h.1;rw[hl] at h1;rcases h1 with h1|h1
  ·exact⟨_,h1⟩
  ·exact⟨_,h1⟩
 obtain⟨hB,v,hbk,hown,hne⟩:=hAt;rw[Lib.byteCells_length] at hown;have hbw:=h.2.size;clear h hl;have mixed:prog.follows .mixedOrders=true:=by kernel_rfl
 have h0:l≠[]:=h0;have hl0:l.length≠0:=by simpa using h0
 obtain⟨g,cap,cur,rfl,hbg,hg,hnc,hcm,hcs,htake⟩:∃g cap cur,v=.slice (some ⟨g,0,none⟩) l.length cap/\w0.heap.size<=g/\w.heap[g]? =some (.cells cur 5 (0,0))/\l.length<=cap/\cap<=maxLen/\cur.size=cap*1/\cur.toList.take (l.length*1)=Lib.byteCells l:=by
  rcases hown.2 with⟨_,hz⟩|⟨g,cap,cur,hv,r⟩
  ·exact absurd hz hl0
  ·exact⟨g,cap,cur,hv,r⟩
 have c1:w.drew.cell? ⟨b,1,none⟩=some (.slice (some ⟨g,0,none⟩) l.length cap):=zd (show w.drew.heap[b]? =_ from hbk) 1;have hSD:(Builtin.unsafeSliceData_ #[76] 128 #[.slice (some ⟨g,0,none⟩) l.length cap]).run prog w.drew=.ok (.pointer (some ⟨g,0,none⟩)) w.drew:=Lib.run_unsafeSliceData_row _ _ _ _ _ _ (by omega);have hUS:(Builtin.unsafeString_ #[128,3] 9 #[.pointer (some ⟨g,0,none⟩),.int .i64 l.length]).run prog w.drew=.ok (.string ⟨l.toArray⟩) (w.drew.freeze ⟨g,0,none⟩ l.length):=by
  refine Lib.run_unsafeString_row _ 128 3 9 5 underlying128 Tryz.cellsU8 g cur.size (by have hg':w.drew.heap[g]? =some (.cells cur 5 (0,0)):=hg;simp[World.shape?,hg']) l h0 (by omega) (by unfold maxLen at hcm;omega) ?_;intro j x hx;have:=hown.cells (g:=g) rfl j (.int .u8 x.toNat) (by simp[Lib.byteCells,hx]);exact this
 have hk:=zi (show vj b w (w.drew.freeze ⟨g,0,none⟩ l.length) from fun k o h1 h2 h3=>Lib.OthersKept.freeze (e:=5) (b:=none) (a:=w) (w:=w.drew) (Lib.OthersKept.refl _ _ w).drew ⟨g,0,none⟩ l.length ⟨cur,(0,0),hg⟩ k o h3 (by simp) (fun c fz=>h2 c fz));have hb:=zi (Lib.below_freeze (Below.drew (pE w0.heap.size w)) (p:=⟨g,0,none⟩) hbg l.length);clear hown hg hcs htake hbk;go_enter func67,ntmps67;go_wp2;go_region_o
 all_goals (go_wp2;go_ret;exact⟨rfl,hb.out,hk.out⟩)
end
end Go.Proofs.YtcagibbaeageoaaGreatDoor
