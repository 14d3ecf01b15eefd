/-
  A part of the proof: contracts of functions; no conditions.
-/
import Derived.Test.YtcagibbaeageoaaGreatDoorUO
set_option maxRecDepth 100000
set_option maxHeartbeats 40000000
set_option linter.unusedSimpArgs false
set_option linter.unusedVariables false
namespace Go.Proofs.YtcagibbaeageoaaGreatDoor
section
open Go.RowKit Lode Go.Shelf
attribute [local go_sem ↓] Go.wp_at_zero Go.wp_at_succ
open Go.Proofs.Tryz
section
variable {P:Nat} {nv iv:Value} {l:List Nd} {kv:List Value} {pr:Int→List UInt8} {n:Nat}
theorem VE(K:Nat)(hK:K=86∨K=87)(H:yt P nv iv l kv pr n)(t:List UInt8)(k a:Int)(z0:Nat)(u:Value)(w:World)(hC:jG w P nv iv l kv)(hu:KS w u [(z0:Int)])(l0:z0<n)(ht:t.length≤3000):Calls prog 168 #[.pointer (some ⟨P,0,none⟩),xI ⟨K,t,k,[(z0:Int)],a⟩ u] w (qW w (yo pr ⟨K,t,k,[(z0:Int)],a⟩)):=by
 unfold xI;obtain⟨KI,hKI⟩:∃KI:Int,(K:Int)=KI:=⟨_,rfl⟩;obtain⟨g,off,uc,wA,rfl,hu,hcap,hwA,hA,⟨c0,c1,c2,c3,x0⟩,HS⟩:=vZ hu KI t k a;replace HS:=zj HS;have HN0:=zj (jo H hC hA l0);have s0:=H.len z0 l0;obtain⟨R,hR⟩:=exE (yo pr ⟨K,t,k,[(z0:Int)],a⟩);rw[hR];rcases hK with rfl|rfl
 all_goals
  simp at hKI;subst hKI;simp[yo,zI,yM] at hR;have HR:=zj hR;have hh0:=zj (Below.refl wA.heap.size wA);generalize hp0:pr z0=p0 at *;clear hC hu H hR;have HwA:=zj hwA;clear hwA;go_enter func168,ntmps168;go_wp2_with fail;rw[HwA.out];refine (HN0.out _ hh0.out).mono ?_;rintro e w1 ⟨b1,rfl,hq1,f1⟩;have zz_1:=zQ hq1;replace hq1:=zj hq1;have hb1:=zj f1;go_wp2_with fail;go_ret;refine⟨_,rfl,?_,zd hA hb1.out⟩;rw[←HR.out];simp[zx,hq1.out]
theorem zd7(H:yt P nv iv l kv pr n)(t:List UInt8)(k a:Int)(z0:Nat)(u:Value)(w:World)(hC:jG w P nv iv l kv)(hu:KS w u [(z0:Int)])(l0:z0<n)(ht:t.length≤3000):Calls prog 168 #[.pointer (some ⟨P,0,none⟩),xI ⟨88,t,k,[(z0:Int)],a⟩ u] w (qW w (yo pr ⟨88,t,k,[(z0:Int)],a⟩)):=by
 unfold xI;obtain⟨g,off,uc,wA,rfl,hu,hcap,hwA,hA,⟨c0,c1,c2,c3,x0⟩,HS⟩:=vZ hu 88 t k a;replace HS:=zj HS;have HN0:=zj (jo H hC hA l0);have s0:=H.len z0 l0;obtain⟨R,hR⟩:=exE (yo pr ⟨88,t,k,[(z0:Int)],a⟩);rw[hR];simp[yo,zI,yM] at hR;have HR:=zj hR;have hh0:=zj (Below.refl wA.heap.size wA);generalize hp0:pr z0=p0 at *;clear hC hu H hR;have HwA:=zj hwA;clear hwA;go_enter func168,ntmps168;go_wp2_with fail;rw[HwA.out];refine zo [(0,0),(1,1),(2,0),(3,0),(4,0),(5,1),(6,0),(7,1),(8,2),(9,0),(10,0)] (by kernel_rfl) (by kernel_rfl) ?_;have hS:=fun W (h:Cl wA.drew W)=>HS.out W (zd bR.drew h.below)
 have hb0:=zj (show Below wA.heap.size wA wA.drew from bR.drew)
 iterate 8 ((first|refine zl rfl (by rfl) (by decide) ?_|(apply zk rfl (by rfl);· (intro w';go_simp;first|done|with_reducible rfl|(rw[if_neg (by first|omega|(simp;omega))];try with_reducible rfl)))|(apply zt hS rfl (by rfl);· (intro w' hw';go_split_ands;go_simp;try with_reducible rfl))|fail);simp only[Act.put,zD,lsZ,lsS])
 clear hS;refine zq rfl (by rfl) (fun K hK V hV=>?_);have hbV:=zd hb0.out hV.below;go_simp;refine (HN0.out V hbV).mono ?_;rintro e w1 ⟨b1,rfl,hq1,f1⟩;have zz_1:=zQ hq1;replace hq1:=zj hq1;have hb1:=zj (zd hbV f1);go_simp;refine⟨zV.2 f1,hK _ _ ?_⟩;clear hK K hbV hV
 try simp only[Act.put,zD,lsZ,lsS]
 iterate 2 ((first|refine zl rfl (by rfl) (by decide) ?_|(apply zk rfl (by rfl);· (intro w';go_simp;first|done|with_reducible rfl|(rw[if_neg (by first|omega|(simp;omega))];try with_reducible rfl)))|fail);simp only[Act.put,zD,lsZ,lsS])
 refine zu fun W hW=>?_
 have hbW:=zj (zd hA (zd hb1.out hW.below));clear hW;go_wp2_with fail;go_ret;refine⟨_,rfl,?_,hbW.out⟩;rw[←HR.out];simp[zx,hq1.out]
theorem zcY(H:yt P nv iv l kv pr n)(t:List UInt8)(k a:Int)(z0 z1:Nat)(u:Value)(w:World)(hC:jG w P nv iv l kv)(hu:KS w u [(z0:Int),(z1:Int)])(l0:z0<n)(l1:z1<n)(ht:t.length≤3000):Calls prog 168 #[.pointer (some ⟨P,0,none⟩),xI ⟨104,t,k,[(z0:Int),(z1:Int)],a⟩ u] w (qW w (yo pr ⟨104,t,k,[(z0:Int),(z1:Int)],a⟩)):=by
 unfold xI;obtain⟨g,off,uc,wA,rfl,hu,hcap,hwA,hA,⟨c0,c1,c2,c3,x0,x1⟩,HS⟩:=kX hu 104 t k a;replace HS:=zj HS;have HN0:=zj (jo H hC hA l0);have s0:=H.len z0 l0;have HN1:=zj (jo H hC hA l1);have s1:=H.len z1 l1;obtain⟨R,hR⟩:=exE (yo pr ⟨104,t,k,[(z0:Int),(z1:Int)],a⟩);rw[hR];simp[yo,zI,yM] at hR;have HR:=zj hR;have hh0:=zj (Below.refl wA.heap.size wA);generalize hp0:pr z0=p0 at *;generalize hp1:pr z1=p1 at *;clear hC hu H hR;have HwA:=zj hwA;clear hwA;go_enter func168,ntmps168;go_wp2_with fail;rw[HwA.out];refine zo [(0,0),(1,1),(2,0),(3,0),(4,0),(5,0),(6,1),(7,0),(8,1),(12,0),(13,0),(14,1),(15,0),(16,1),(9,2),(10,0),(11,0),(17,2),(18,0),(19,0),(20,0)] (by kernel_rfl) (by kernel_rfl) ?_;have hS:=fun W (h:Cl wA.drew W)=>HS.out W (zd bR.drew h.below)
 have hb0:=zj (show Below wA.heap.size wA wA.drew from bR.drew)
 iterate 14 ((first|refine zl rfl (by rfl) (by decide) ?_|(apply zk rfl (by rfl);· (intro w';go_simp;first|done|with_reducible rfl|(rw[if_neg (by first|omega|(simp;omega))];try with_reducible rfl)))|(apply zt hS rfl (by rfl);· (intro w' hw';go_split_ands;go_simp;try with_reducible rfl))|fail);simp only[Act.put,zD,lsZ,lsS])
 clear hS;refine zq rfl (by rfl) (fun K hK V hV=>?_);have hbV:=zd hb0.out hV.below;go_simp;refine (HN0.out V hbV).mono ?_;rintro e w1 ⟨b1,rfl,hq1,f1⟩;have zz_1:=zQ hq1;replace hq1:=zj hq1;have hb1:=zj (zd hbV f1);go_simp;refine⟨zV.2 f1,hK _ _ ?_⟩;clear hK K hbV hV
 try simp only[Act.put,zD,lsZ,lsS]
 iterate 2 ((first|refine zl rfl (by rfl) (by decide) ?_|(apply zk rfl (by rfl);· (intro w';go_simp;first|done|with_reducible rfl|(rw[if_neg (by first|omega|(simp;omega))];try with_reducible rfl)))|fail);simp only[Act.put,zD,lsZ,lsS])
 refine zq rfl (by rfl) (fun K hK V hV=>?_);have hbV:=zd hb1.out hV.below;go_simp;refine (HN1.out V hbV).mono ?_;rintro e w2 ⟨b2,rfl,hq2,f2⟩;have zz_2:=zQ hq2;replace hq2:=zj hq2;have hb2:=zj (zd hbV f2);go_simp;refine⟨zV.2 f2,hK _ _ ?_⟩;clear hK K hbV hV
 try simp only[Act.put,zD,lsZ,lsS]
 iterate 3 ((first|refine zl rfl (by rfl) (by decide) ?_|(apply zk rfl (by rfl);· (intro w';go_simp;first|done|with_reducible rfl|(rw[if_neg (by first|omega|(simp;omega))];try with_reducible rfl)))|fail);simp only[Act.put,zD,lsZ,lsS])
 refine zu fun W hW=>?_
 have hbW:=zj (zd hA (zd hb2.out hW.below));clear hW;go_wp2_with fail;go_ret;refine⟨_,rfl,?_,hbW.out⟩;rw[←HR.out];simp[zx,hq1.out,hq2.out]
theorem zd8(H:yt P nv iv l kv pr n)(t:List UInt8)(k a:Int)(ks:List Int)(u:Value)(w:World)(hC:jG w P nv iv l kv)(hu:KS w u ks)(hks:∀k∈ks,0≤k∧k<(n:Int))(hkl:ks.length≤100000)(hm1:1≤ks.length)(ht:t.length≤3000):Calls prog 168 #[.pointer (some ⟨P,0,none⟩),xI ⟨85,t,k,ks,a⟩ u] w (qW w (yo pr ⟨85,t,k,ks,a⟩)):=by
 unfold xI;obtain⟨m,g,off,uc,wA,rfl,hm,hu,hcap,hwA,hA,⟨c0,c1,c2,c3,c4⟩,HS⟩:=ko hu (by omega) 85 t k a;rw[hm] at hkl hm1;obtain⟨R,hR⟩:=exE (yo pr ⟨85,t,k,ks,a⟩);rw[hR];simp[yo,zI] at hR;replace HS:=zj HS;have HH:=zj (show ∀W,Below wA.heap.size wA W→Calls prog 231 #[.pointer (some ⟨P,0,none⟩),.agg #[.int .u8 85,.string ⟨t.toArray⟩,.int .i64 k,.slice (some ⟨g,off,none⟩) m uc,.int .i64 a],.int .i64 0] W (qW W (yM pr ⟨85,t,k,ks,a⟩ 0)) from fun W hb=>Zc H ⟨85,t,k,ks,a⟩ (.slice (some ⟨g,off,none⟩) m uc) 0 W (hC.below (zd hA hb)) (hu.below (zd hA hb)) hks (by simp only;omega) (by simp only;omega));have sH:=kG H (x:=⟨85,t,k,ks,a⟩) (wo:=0) hks (by simp only;omega) (by simp only;omega);have HR:=zj hR;have hh0:=zj (Below.refl wA.heap.size wA);generalize hpH:yM pr ⟨85,t,k,ks,a⟩ 0=pH at *;clear hC hu H hR hks;have Hm:=zj hm;clear hm;have hi0:(0:Int)<(m:Int):=by omega
 have hi1:0<m:=by omega
 have hi2:¬(m=0):=by omega
 have HwA:=zj hwA;clear hwA;go_enter func168,ntmps168;go_wp2_with fail;rw[HwA.out];refine (HH.out _ hh0.out).mono ?_;rintro e w1 ⟨b1,rfl,hq1,f1⟩;have zz_1:=zQ hq1;replace hq1:=zj hq1;have hb1:=zj f1;go_wp2_with fail;go_ret;refine⟨_,rfl,?_,zd hA hb1.out⟩;rw[←HR.out];simp[zx,hq1.out]
theorem Jj(K:Nat)(hK:K=100∨K=101)(H:yt P nv iv l kv pr n)(t:List UInt8)(k a:Int)(ks:List Int)(u:Value)(w:World)(hC:jG w P nv iv l kv)(hu:KS w u ks)(hks:∀k∈ks,0≤k∧k<(n:Int))(hkl:ks.length≤100000)(hm1:1≤ks.length)(ht:t.length≤3000):Calls prog 168 #[.pointer (some ⟨P,0,none⟩),xI ⟨K,t,k,ks,a⟩ u] w (qW w (yo pr ⟨K,t,k,ks,a⟩)):=by
 unfold xI;obtain⟨KI,hKI⟩:∃KI:Int,(K:Int)=KI:=⟨_,rfl⟩;obtain⟨m,g,off,uc,wA,rfl,hm,hu,hcap,hwA,hA,⟨c0,c1,c2,c3,c4⟩,HS⟩:=ko hu (by omega) KI t k a;rw[hm] at hkl hm1;obtain⟨R,hR⟩:=exE (yo pr ⟨K,t,k,ks,a⟩);rw[hR];rcases hK with rfl|rfl
 all_goals
  simp at hKI;subst hKI;simp[yo,zI] at hR;replace HS:=zj HS;have HA:=zj (fun W (hb:Below wA.heap.size wA W)=>jw H (.slice (some ⟨g,off,none⟩) m uc) ks W (hC.below (zd hA hb)) (hu.below (zd hA hb)) hks (by omega));have sA:=y8 H hks (by omega);have HR:=zj hR;have hh0:=zj (Below.refl wA.heap.size wA);generalize hpA:qc pr ks=pA at *;clear hC hu H hR hks;have Hm:=zj hm;clear hm;have hi0:(0:Int)<(m:Int):=by omega
  have hi1:0<m:=by omega
  have hi2:¬(m=0):=by omega
  have HwA:=zj hwA;clear hwA;go_enter func168,ntmps168;go_wp2_with fail;rw[HwA.out];refine zo [(0,0),(1,1),(2,0),(3,0),(4,0),(5,0),(6,1),(7,2),(8,0),(9,0),(10,0)] (by kernel_rfl) (by kernel_rfl) ?_;have hS:=fun W (h:Cl wA.drew W)=>HS.out W (zd bR.drew h.below)
  have hb0:=zj (show Below wA.heap.size wA wA.drew from bR.drew)
  iterate 7 ((first|refine zl rfl (by rfl) (by decide) ?_|(apply zk rfl (by rfl);· (intro w';go_simp;first|done|with_reducible rfl|(rw[if_neg (by first|omega|(simp;omega))];try with_reducible rfl)))|(apply zt hS rfl (by rfl);· (intro w' hw';go_split_ands;go_simp;try with_reducible rfl))|fail);simp only[Act.put,zD,lsZ,lsS])
  clear hS;refine zq rfl (by rfl) (fun K hK V hV=>?_);have hbV:=zd hb0.out hV.below;go_simp;refine (HA.out V hbV).mono ?_;rintro e w1 ⟨b1,rfl,hq1,f1⟩;have zz_1:=zQ hq1;replace hq1:=zj hq1;have hb1:=zj (zd hbV f1);go_simp;refine⟨zV.2 f1,hK _ _ ?_⟩;clear hK K hbV hV
  try simp only[Act.put,zD,lsZ,lsS]
  iterate 3 ((first|refine zl rfl (by rfl) (by decide) ?_|(apply zk rfl (by rfl);· (intro w';go_simp;first|done|with_reducible rfl|(rw[if_neg (by first|omega|(simp;omega))];try with_reducible rfl)))|fail);simp only[Act.put,zD,lsZ,lsS])
  refine zu fun W hW=>?_
  have hbW:=zj (zd hA (zd hb1.out hW.below));go_wp2_with fail;go_ret;refine⟨_,rfl,?_,hbW.out⟩;rw[←HR.out];simp[zx,hq1.out]
theorem zcZ(H:yt P nv iv l kv pr n)(t:List UInt8)(k a:Int)(ks:List Int)(u:Value)(w:World)(hC:jG w P nv iv l kv)(hu:KS w u ks)(hks:∀k∈ks,0≤k∧k<(n:Int))(hkl:ks.length≤100000)(hm1:1≤ks.length)(ht:t.length≤3000):Calls prog 168 #[.pointer (some ⟨P,0,none⟩),xI ⟨103,t,k,ks,a⟩ u] w (qW w (yo pr ⟨103,t,k,ks,a⟩)):=by
 unfold xI;obtain⟨m,g,off,uc,wA,rfl,hm,hu,hcap,hwA,hA,⟨c0,c1,c2,c3,c4⟩,HS⟩:=ko hu (by omega) 103 t k a;rw[hm] at hkl hm1;obtain⟨R,hR⟩:=exE (yo pr ⟨103,t,k,ks,a⟩);rw[hR];simp[yo,zI] at hR;replace HS:=zj HS;have HH:=zj (show ∀W,Below wA.heap.size wA W→Calls prog 231 #[.pointer (some ⟨P,0,none⟩),.agg #[.int .u8 103,.string ⟨t.toArray⟩,.int .i64 k,.slice (some ⟨g,off,none⟩) m uc,.int .i64 a],.int .i64 0] W (qW W (yM pr ⟨103,t,k,ks,a⟩ 0)) from fun W hb=>Zc H ⟨103,t,k,ks,a⟩ (.slice (some ⟨g,off,none⟩) m uc) 0 W (hC.below (zd hA hb)) (hu.below (zd hA hb)) hks (by simp only;omega) (by simp only;omega));have sH:=kG H (x:=⟨103,t,k,ks,a⟩) (wo:=0) hks (by simp only;omega) (by simp only;omega);have HR:=zj hR;have hh0:=zj (Below.refl wA.heap.size wA);generalize hpH:yM pr ⟨103,t,k,ks,a⟩ 0=pH at *;clear hC hu H hR hks;have Hm:=zj hm;clear hm;have hi0:(0:Int)<(m:Int):=by omega
 have hi1:0<m:=by omega
 have hi2:¬(m=0):=by omega
 have HwA:=zj hwA;clear hwA;go_enter func168,ntmps168;go_wp2_with fail;rw[HwA.out];refine zo [(0,0),(1,1),(2,0),(3,0),(4,1),(5,2),(6,0),(7,0),(8,0)] (by kernel_rfl) (by kernel_rfl) ?_;have hS:=fun W (h:Cl wA.drew W)=>HS.out W (zd bR.drew h.below)
 have hb0:=zj (show Below wA.heap.size wA wA.drew from bR.drew)
 iterate 5 ((first|refine zl rfl (by rfl) (by decide) ?_|(apply zk rfl (by rfl);· (intro w';go_simp;first|done|with_reducible rfl|(rw[if_neg (by first|omega|(simp;omega))];try with_reducible rfl)))|(apply zt hS rfl (by rfl);· (intro w' hw';go_split_ands;go_simp;try with_reducible rfl))|fail);simp only[Act.put,zD,lsZ,lsS])
 clear hS;refine zq rfl (by rfl) (fun K hK V hV=>?_);have hbV:=zd hb0.out hV.below;go_simp;refine (HH.out V hbV).mono ?_;rintro e w1 ⟨b1,rfl,hq1,f1⟩;have zz_1:=zQ hq1;replace hq1:=zj hq1;have hb1:=zj (zd hbV f1);go_simp;refine⟨zV.2 f1,hK _ _ ?_⟩;clear hK K hbV hV
 try simp only[Act.put,zD,lsZ,lsS]
 iterate 3 ((first|refine zl rfl (by rfl) (by decide) ?_|(apply zk rfl (by rfl);· (intro w';go_simp;first|done|with_reducible rfl|(rw[if_neg (by first|omega|(simp;omega))];try with_reducible rfl)))|fail);simp only[Act.put,zD,lsZ,lsS])
 refine zu fun W hW=>?_
 have hbW:=zj (zd hA (zd hb1.out hW.below));go_wp2_with fail;go_ret;refine⟨_,rfl,?_,hbW.out⟩;rw[←HR.out];simp[zx,hq1.out]
theorem zc0(H:yt P nv iv l kv pr n)(t:List UInt8)(k a:Int)(ks:List Int)(u:Value)(w:World)(hC:jG w P nv iv l kv)(hu:KS w u ks)(hks:∀k∈ks,0≤k∧k<(n:Int))(hkl:ks.length≤100000)(hm1:2≤ks.length)(ht:t.length≤3000):Calls prog 168 #[.pointer (some ⟨P,0,none⟩),xI ⟨102,t,k,ks,a⟩ u] w (qW w (yo pr ⟨102,t,k,ks,a⟩)):=by
 unfold xI;obtain⟨m,g,off,uc,wA,rfl,hm,hu,hcap,hwA,hA,⟨c0,c1,c2,c3,c4⟩,HS⟩:=ko hu (by omega) 102 t k a;rw[hm] at hkl hm1;obtain⟨zL,hzL,lL,dL⟩:=zfV hu hm hks (j:=m-1) (by omega);obtain⟨R,hR⟩:=exE (yo pr ⟨102,t,k,ks,a⟩);rw[hR];simp[yo,zI] at hR
 try rw[hm] at hR
 try rw[hzL] at hR
 replace HS:=zj (fun W (hb:Below wA.heap.size wA W)=>And.intro (HS W hb) (show W.cell? ⟨g,off+(m-1),none⟩=some (.int .i64 zL) from zh hb (zh hA dL)));have HZ:=zj (jo H hC hA lL);have sL:=H.len zL lL;have HH:=zj (show ∀W,Below wA.heap.size wA W→Calls prog 231 #[.pointer (some ⟨P,0,none⟩),.agg #[.int .u8 102,.string ⟨t.toArray⟩,.int .i64 k,.slice (some ⟨g,off,none⟩) m uc,.int .i64 a],.int .i64 1] W (qW W (yM pr ⟨102,t,k,ks,a⟩ 1)) from fun W hb=>Zc H ⟨102,t,k,ks,a⟩ (.slice (some ⟨g,off,none⟩) m uc) 1 W (hC.below (zd hA hb)) (hu.below (zd hA hb)) hks (by simp only;omega) (by simp only;omega));have sH:=kG H (x:=⟨102,t,k,ks,a⟩) (wo:=1) hks (by simp only;omega) (by simp only;omega);have HR:=zj hR;have hh0:=zj (Below.refl wA.heap.size wA);generalize hpH:yM pr ⟨102,t,k,ks,a⟩ 1=pH at *;generalize hpZ:pr zL=pZ at *;clear hzL;replace dL:=zh hA dL;clear hC hu H hR hks;have Hm:=zj hm;clear hm;have hwq:IntKind.i64.wrap ((m:Int)-1)=((m-1:Nat):Int):=by rw[IntWalk.i64_in _ ⟨by omega,by omega⟩];omega
 have hq0:¬(((m-1:Nat):Int)<0):=by omega
 have hq2:((m-1:Nat):Int)<(m:Int):=by omega
 have hi0:(0:Int)<(m:Int):=by omega
 have hi1:0<m:=by omega
 have hi2:¬(m=0):=by omega
 rw[←hwA] at dL;have HwA:=zj hwA;clear hwA;go_enter func168,ntmps168;go_wp2_with fail;rw[HwA.out];refine zo [(0,0),(1,1),(2,0),(3,0),(4,1),(8,0),(9,0),(10,1),(11,0),(12,1),(13,0),(14,0),(15,0),(16,1),(5,2),(6,0),(7,0),(17,2),(18,0),(19,0)] (by kernel_rfl) (by kernel_rfl) ?_;have hS:=fun W (h:Cl wA.drew W)=>HS.out W (zd bR.drew h.below)
 have hb0:=zj (show Below wA.heap.size wA wA.drew from bR.drew)
 iterate 14 ((first|refine zl rfl (by rfl) (by decide) ?_|(apply zk rfl (by rfl);· (intro w';go_simp;first|done|with_reducible rfl|(rw[if_neg (by first|omega|(simp;omega))];try with_reducible rfl)))|(apply zt hS rfl (by rfl);· (intro w' hw';go_split_ands;go_simp;try with_reducible rfl))|fail);simp only[Act.put,zD,lsZ,lsS])
 clear hS;refine zq rfl (by rfl) (fun K hK V hV=>?_);have hbV:=zd hb0.out hV.below;go_simp;refine (HH.out V hbV).mono ?_;rintro e w1 ⟨b1,rfl,hq1,f1⟩;have zz_1:=zQ hq1;replace hq1:=zj hq1;have hb1:=zj (zd hbV f1);go_simp;refine⟨zV.2 f1,hK _ _ ?_⟩;clear hK K hbV hV
 try simp only[Act.put,zD,lsZ,lsS]
 iterate 2 ((first|refine zl rfl (by rfl) (by decide) ?_|(apply zk rfl (by rfl);· (intro w';go_simp;first|done|with_reducible rfl|(rw[if_neg (by first|omega|(simp;omega))];try with_reducible rfl)))|fail);simp only[Act.put,zD,lsZ,lsS])
 refine zq rfl (by rfl) (fun K hK V hV=>?_);have hbV:=zd hb1.out hV.below;go_simp;refine (HZ.out V hbV).mono ?_;rintro e w2 ⟨b2,rfl,hq2,f2⟩;have zz_2:=zQ hq2;replace hq2:=zj hq2;have hb2:=zj (zd hbV f2);go_simp;refine⟨zV.2 f2,hK _ _ ?_⟩;clear hK K hbV hV
 try simp only[Act.put,zD,lsZ,lsS]
 iterate 2 ((first|refine zl rfl (by rfl) (by decide) ?_|(apply zk rfl (by rfl);· (intro w';go_simp;first|done|with_reducible rfl|(rw[if_neg (by first|omega|(simp;omega))];try with_reducible rfl)))|fail);simp only[Act.put,zD,lsZ,lsS])
 refine zu fun W hW=>?_
 have hbW:=zj (zd hA (zd hb2.out hW.below));have hc2:W.cell? ⟨w.heap.size,2,none⟩=some (.int .i64 k):=(HS.out W (zd hb2.out hW.below)).1.2.2.1;by_cases hk1:k=1
 ·subst hk1;have h:=HR.out;rw[if_pos rfl] at h;go_wp2_with fail;go_ret;refine⟨_,rfl,?_,hbW.out⟩;rw[←h];simp[zx,hq1.out,hq2.out]
 ·have hk1':(k == 1)=false:=bfE hk1
  have h:=HR.out;rw[if_neg hk1] at h;go_wp2_with fail;go_ret;refine⟨_,rfl,?_,hbW.out⟩;rw[←h];simp[zx,hq1.out,hq2.out]
end
theorem zbk{P:Program}{w:World}{t kt et:TypeId}(ht:P.underlying t=some (.map kt et))(hk:P.underlying kt=some (.int .u8)){z:Value}(hz:(zeroValue et).run P w=.ok z w){r:Nat}{l:List (Nat×Value)}(hb:w.heap[r]? =some (uH l))(k:Nat):
 (Instr.lookup t (.map (some r)) (.int .u8 k) false).run P w=.ok (((l.find? fun x=>x.1 == k).map Prod.snd).getD z) w:=by
 have h1:=fun e=>Kv (P:=P) (w:=w) hk k e
 cases hf:l.find? fun x=>x.1 == k with
 |none=>
  have hn:∀x∈l,x.1≠k:=fun x hx e=>by
   rw[List.find?_eq_none] at hf;exact hf x hx (by simpa using e)
  have h2:=Go.MapKept.run_findKey (w:=w) hk (show Instr.findNow (.int .u8) (.int .u8 k) (Xq 0 l).toArray.toList 0=some none by simpa using vX l 0 0 k hn);simp[Instr.lookup,run_underlying ht,Go.MapKept.run_getObj_map hb,h1,Result.andThen] at h2 ⊢;simp[h2,hz,Result.andThen]
 |some x=>
  obtain⟨kx,v⟩:=x;have hkx:kx=k:=by simpa using List.find?_some hf
  subst hkx;obtain⟨j,hj⟩:=Y4 l 0 0 kx v hf;have h2:=Go.MapKept.run_findKey (w:=w) hk (show Instr.findNow (.int .u8) (.int .u8 kx) (Xq 0 l).toArray.toList 0=some (some (j,v)) by simpa using hj);simp[Instr.lookup,run_underlying ht,Go.MapKept.run_getObj_map hb,h1,Result.andThen] at h2 ⊢;simp[h2]
theorem zaM{W:World}{s:Nat}(hb:W.heap[s]? =some (uH qr))(k:Nat)(hk:k<256):(Instr.lookup 163 (.map (some s)) (.int .u8 k) true).run prog W=.ok (.tuple #[.string ⟨((yC k).getD []).toArray⟩,.bool (yC k).isSome]) W:=by
 have h:=Js (P:=prog) (w:=W) (z:=.string ⟨#[]⟩) underlying163 underlying5 (by kernel_rfl) hb k;have e:(qr.find? fun x=>x.1 == k)=(YK.find? fun x=>x.1 == k).map fun x=>(x.1,Value.string ⟨x.2.toArray⟩):=by
  unfold qr;rw[List.find?_map];rfl
 have hs:=za4 k hk;rw[e] at h;rw[h,←hs];cases YK.find? fun x=>x.1 == k <;> rfl
theorem VA{W:World}{r:Nat}(hb:W.heap[r]? =some (uH yL))(k:Nat)(hk:k<256)(hs:(yC k).isSome=true):(Instr.lookup 164 (.map (some r)) (.int .u8 k) false).run prog W=.ok (.int .i64 (yO k:Nat)) W:=by
 have h:=zbk (P:=prog) (w:=W) (z:=.int .i64 0) underlying164 underlying5 (by kernel_rfl) hb k;have e:(yL.find? fun x=>x.1 == k)=(kQ.find? fun x=>x.1 == k).map fun x=>(x.1,Value.int .i64 x.2):=Xg k
 rw[e] at h;rw[h];have hall:∀k,k<256→(yC k).isSome=true→((kQ.find? fun x=>x.1 == k).map Prod.snd)=some ((yO k:Nat):Int):=by decide +kernel
 have:=hall k hk hs;cases hf:kQ.find? fun x=>x.1 == k with
 |none=>rw[hf] at this;cases this
 |some y=>
  rw[hf] at this;have e2:y.2=((yO k:Nat):Int):=by simpa using this
  show Result.ok (Value.int .i64 y.2) W=_
  rw[e2]
abbrev zi5(W:World)(b:Nat)(K:Int)(t:List UInt8)(k:Int)(up:Option Addr)(m uc:Nat)(a:Int)(P gN oN ln nc s r:Nat)(lk:Array Value):Prop:=
 W.cell? ⟨b,0,none⟩=some (.int .u8 K)∧W.cell? ⟨b,1,none⟩=some (.string ⟨t.toArray⟩)∧W.cell? ⟨b,2,none⟩=some (.int .i64 k)∧W.cell? ⟨b,3,none⟩=some (.slice up m uc)∧W.cell? ⟨b,4,none⟩=some (.int .i64 a)∧
 W.cell? ⟨P,0,none⟩=some (.slice (some ⟨gN,oN,none⟩) ln nc)∧W.cell? ⟨P,2,none⟩=some (.map (some s))∧W.cell? ⟨P,3,none⟩=some (.map (some r))∧(Instr.lookup 163 (.map (some s)) (.int .u8 K) true).run prog W=.ok (.tuple lk) W
theorem xA{P:Nat}{nv iv:Value}{l:List Nd}{kv:List Value}{pr:Int→List UInt8}{n:Nat}(H:yt P nv iv l kv pr n){w:World}(hC:jG w P nv iv l kv){i K:Nat}{t:List UInt8}{k a:Int}{ks:List Int}(hx:l[i]? =some ⟨K,t,k,ks,a⟩){m:Nat}(hm:ks.length=m){KI:Int}(hKI:(K:Int)=KI){lk:Array Value}(hl:K≤255→#[.string ⟨((yC K).getD []).toArray⟩,.bool (yC K).isSome]=lk):
 ∃(s r nc gN oN uc:Nat) (up:Option Addr),nv=.slice (some ⟨gN,oN,none⟩) l.length nc∧K≤255∧((i:Int)<(l.length:Int)∧¬((i:Int)<0))∧(KS w (.slice up m uc) ks∧m≤uc)∧
  (w.cell? ⟨gN,oN+i*5,none⟩=some (.int .u8 KI)∧w.cell? ⟨gN,oN+i*5+1,none⟩=some (.string ⟨t.toArray⟩)∧w.cell? ⟨gN,oN+i*5+2,none⟩=some (.int .i64 k)∧w.cell? ⟨gN,oN+i*5+3,none⟩=some (.slice up m uc)∧w.cell? ⟨gN,oN+i*5+4,none⟩=some (.int .i64 a)∧w.cell? ⟨P,0,none⟩=some (.slice (some ⟨gN,oN,none⟩) l.length nc))∧w.heap[r]? =some (uH yL)∧
  ∃wA,w.alloc (.cells #[.int .u8 KI,.string ⟨t.toArray⟩,.int .i64 k,.slice up m uc,.int .i64 a] 60 (0,0))=wA∧Below w.heap.size w wA∧∀W,Below wA.heap.size wA W→zi5 W w.heap.size KI t k up m uc a P gN oN l.length nc s r lk:=by
 obtain⟨s,r,h1,h2,h3⟩:=hC.pr.maps;have hx255:K≤255:=H.kind _ (List.mem_of_getElem? hx);obtain⟨np,nc,rfl⟩:=hC.ns.form;obtain⟨gN,oN,u,rfl,hN⟩:=hC.ns.at hx;have hu:KS w u ks:=hN.kids;obtain⟨up,uc,rfl⟩:=hu.form;subst hm;subst hKI;have hA:=zg w (.cells #[.int .u8 K,.string ⟨t.toArray⟩,.int .i64 k,.slice up ks.length uc,.int .i64 a] 60 (0,0));have hZ:=zm w (.cells #[.int .u8 K,.string ⟨t.toArray⟩,.int .i64 k,.slice up ks.length uc,.int .i64 a] 60 (0,0));refine⟨s,r,nc,gN,oN,uc,up,rfl,hx255,⟨by have:=(gtL hx);omega,by omega⟩,⟨hu,hu.cap.2⟩,⟨hN.c0,hN.c1,hN.c2,hN.c3,hN.c4,zf h1 0⟩,h3,_,rfl,hA,fun W hb=>?_⟩;rw[←hl hx255];exact⟨zf (zi hb hZ) 0,zf (zi hb hZ) 1,zf (zi hb hZ) 2,zf (zi hb hZ) 3,zf (zi hb hZ) 4,zf (zi (zd hA hb) h1) 0,zf (zi (zd hA hb) h1) 2,zf (zi (zd hA hb) h1) 3,zaM (((zd hA hb).block _ (gtA h2)).trans h2) _ (by omega)⟩
abbrev NkN(K:Nat):Prop:=∀c∈[1,67,2,68,3,69,4,5,66,84,6,7,23,24,25,70,89,28],K≠c
theorem Qd{K:Nat}(h:NkN K):K≠1∧K≠67∧K≠2∧K≠68∧K≠3∧K≠69∧K≠4∧K≠5∧K≠66∧K≠84∧K≠6∧K≠7∧K≠23∧K≠24∧K≠25∧K≠70∧K≠89∧K≠28:=by simpa[NkN] using h
abbrev NkB(K:Nat):Prop:=((K:Int) == 1)=false∧((K:Int) == 67)=false∧((K:Int) == 2)=false∧((K:Int) == 68)=false∧((K:Int) == 3)=false∧((K:Int) == 69)=false∧((K:Int) == 4)=false∧((K:Int) == 5)=false∧((K:Int) == 66)=false∧((K:Int) == 84)=false∧((K:Int) == 6)=false∧((K:Int) == 7)=false∧((K:Int) == 23)=false∧((K:Int) == 24)=false∧((K:Int) == 25)=false∧((K:Int) == 70)=false∧((K:Int) == 89)=false∧((K:Int) == 28)=false
theorem zc7{K:Nat}(h:NkN K):NkB K:=by
 obtain⟨h1,h2,h3,h4,h5,h6,h7,h8,h9,h10,h11,h12,h13,h14,h15,h16,h17,h18⟩:=Qd h;refine⟨?_,?_,?_,?_,?_,?_,?_,?_,?_,?_,?_,?_,?_,?_,?_,?_,?_,?_⟩ <;> (rw[beq_eq_false_iff_ne];omega)
section
variable {P:Nat} {nv iv:Value} {l:List Nd} {kv:List Value} {pr:Int→List UInt8} {n:Nat}
theorem zec(K:Nat)(hK:K=1∨K=67)(H:yt P nv iv l kv pr n)(i:Nat)(t:List UInt8)(k a:Int)(ks:List Int)(w:World)(hC:jG w P nv iv l kv)(hx:l[i]? =some ⟨K,t,k,ks,a⟩)(ht:t.length≤3000)(hk: -1000000000≤k∧k≤1000000000):Calls prog 108 #[.pointer (some ⟨P,0,none⟩),.int .i64 i] w (qW w (zF l pr ⟨K,t,k,ks,a⟩)):=by
 obtain⟨R,hR⟩:=exE (zF l pr ⟨K,t,k,ks,a⟩);rw[hR];obtain⟨KI,hKI⟩:∃KI:Int,(K:Int)=KI:=⟨_,rfl⟩;rcases hK with rfl|rfl
 all_goals
  obtain⟨s,r,nc,gN,oN,uc,up,rfl,hx255,⟨hil,hi0⟩,⟨hu,hcap⟩,⟨a0,a1,a2,a3,a4,cP⟩,h3,wA,hwA,hA,HS⟩:=xA H hC hx (m:=ks.length) rfl (KI:=KI) hKI (lk:= #[.string ⟨#[]⟩,.bool false]) (fun _=>rfl);simp at hKI;subst hKI;have HI:=zj (fun W (hb:Below w.heap.size w W)=>Tryz.strconv_Itoa k (by omega) (by omega) W (hC.below hb).gl.pow);replace HS:=zj HS;have hb0:=zj (show Below wA.heap.size wA wA.drew from bR.drew);simp[zF,yC,zI] at hR;have HR:=zj hR;have HwA:=zj hwA;clear hwA hR hC hx hu h3 H;go_enter func108,ntmps108;go_wp2_with fail;rw[HwA.out];clear a0 a1 a2 a3 a4 cP;have hS:=fun W (h:Cl wA.drew W)=>HS.out W (zd hb0.out h.below)
  refine zo [(0,0),(1,0),(2,0),(3,1),(4,0),(5,1),(6,1),(7,0),(8,0),(9,0),(10,0),(11,0)] (by kernel_rfl) (by kernel_rfl) ?_
  iterate 12 ((first|refine zl rfl (by rfl) (by decide) ?_|(apply zk rfl (by rfl);· (intro w';go_simp;first|done|with_reducible rfl|(rw[if_neg (by first|omega|(simp;omega))];try with_reducible rfl)))|(apply zt hS rfl (by rfl);· (intro w' hw';go_split_ands;go_simp;try with_reducible rfl))|fail);simp only[Act.put,zD,lsZ,lsS])
  clear hS;refine zu fun V1 hV1=>?_
  have hb1:=zj (zd hb0.out hV1.below);clear hV1;obtain⟨c0,c1,c2,c3,c4,cP,cS,cR,cL⟩:=HS.out V1 hb1.out;go_wp2_with fail;refine (HI.out _ (zd hA hb1.out)).mono ?_;rintro e w2 ⟨rfl,hwI⟩;have f2:Below V1.heap.size V1 w2:=by obtain⟨k,os,rfl⟩:=hwI;exact Lib.below_grow _ _ (Nat.le_refl _) k os
  go_wp2_with fail;go_ret;exact⟨_,rfl,HR.out,zd hA (zd hb1.out f2)⟩
theorem zeb(K:Nat)(hK:K=2∨K=68)(H:yt P nv iv l kv pr n)(i:Nat)(t:List UInt8)(k a:Int)(ks:List Int)(w:World)(hC:jG w P nv iv l kv)(hx:l[i]? =some ⟨K,t,k,ks,a⟩)(ht:t.length≤3000):Calls prog 108 #[.pointer (some ⟨P,0,none⟩),.int .i64 i] w (qW w (zF l pr ⟨K,t,k,ks,a⟩)):=by
 obtain⟨R,hR⟩:=exE (zF l pr ⟨K,t,k,ks,a⟩);rw[hR];obtain⟨KI,hKI⟩:∃KI:Int,(K:Int)=KI:=⟨_,rfl⟩;rcases hK with rfl|rfl
 all_goals
  obtain⟨s,r,nc,gN,oN,uc,up,rfl,hx255,⟨hil,hi0⟩,⟨hu,hcap⟩,⟨a0,a1,a2,a3,a4,cP⟩,h3,wA,hwA,hA,HS⟩:=xA H hC hx (m:=ks.length) rfl (KI:=KI) hKI (lk:= #[.string ⟨#[]⟩,.bool false]) (fun _=>rfl);simp at hKI;subst hKI;replace HS:=zj HS;have hb0:=zj (show Below wA.heap.size wA wA.drew from bR.drew);simp[zF,yC,zI] at hR;have HQ:=zj (fun W=>za7 t W (by omega));generalize (xJ t).1=qt at *;have HR:=zj hR;have HwA:=zj hwA;clear hwA hR hC hx hu h3 H;go_enter func108,ntmps108;go_wp2_with fail;rw[HwA.out];clear a0 a1 a2 a3 a4 cP;have hS:=fun W (h:Cl wA.drew W)=>HS.out W (zd hb0.out h.below)
  refine zo [(0,0),(1,0),(2,0),(3,1),(4,0),(5,1),(6,1),(7,0),(8,0),(9,0),(10,0),(11,0)] (by kernel_rfl) (by kernel_rfl) ?_
  iterate 12 ((first|refine zl rfl (by rfl) (by decide) ?_|(apply zk rfl (by rfl);· (intro w';go_simp;first|done|with_reducible rfl|(rw[if_neg (by first|omega|(simp;omega))];try with_reducible rfl)))|(apply zt hS rfl (by rfl);· (intro w' hw';go_split_ands;go_simp;try with_reducible rfl))|fail);simp only[Act.put,zD,lsZ,lsS])
  clear hS;refine zu fun V1 hV1=>?_
  have hb1:=zj (zd hb0.out hV1.below);clear hV1;obtain⟨c0,c1,c2,c3,c4,cP,cS,cR,cL⟩:=HS.out V1 hb1.out;go_wp2_with fail;refine (HQ.out V1).mono ?_;rintro e w2 ⟨rfl,f2⟩;go_wp2_with fail;go_ret;exact⟨_,rfl,HR.out,zd hA (zd hb1.out f2)⟩
theorem zea(K:Nat)(hK:K=3∨K=69)(H:yt P nv iv l kv pr n)(i:Nat)(t:List UInt8)(k a:Int)(ks:List Int)(w:World)(hC:jG w P nv iv l kv)(hx:l[i]? =some ⟨K,t,k,ks,a⟩)(ht:t.length≤3000):Calls prog 108 #[.pointer (some ⟨P,0,none⟩),.int .i64 i] w (qW w (zF l pr ⟨K,t,k,ks,a⟩)):=by
 obtain⟨R,hR⟩:=exE (zF l pr ⟨K,t,k,ks,a⟩);rw[hR];obtain⟨KI,hKI⟩:∃KI:Int,(K:Int)=KI:=⟨_,rfl⟩;rcases hK with rfl|rfl
 all_goals
  obtain⟨s,r,nc,gN,oN,uc,up,rfl,hx255,⟨hil,hi0⟩,⟨hu,hcap⟩,⟨a0,a1,a2,a3,a4,cP⟩,h3,wA,hwA,hA,HS⟩:=xA H hC hx (m:=ks.length) rfl (KI:=KI) hKI (lk:= #[.string ⟨#[]⟩,.bool false]) (fun _=>rfl);simp at hKI;subst hKI;replace HS:=zj HS;have hb0:=zj (show Below wA.heap.size wA wA.drew from bR.drew);simp[zF,yC,zI] at hR;have HQ:=zj (fun W=>Tryz.strconv_FormatBool (k == 1) W);have HR:=zj hR;have HwA:=zj hwA;clear hwA hR hC hx hu h3 H;go_enter func108,ntmps108;go_wp2_with fail;rw[HwA.out];clear a0 a1 a2 a3 a4 cP;have hS:=fun W (h:Cl wA.drew W)=>HS.out W (zd hb0.out h.below)
  refine zo [(0,0),(1,0),(2,0),(3,1),(4,0),(5,1),(6,1),(7,0),(8,0),(9,0),(10,0),(11,0)] (by kernel_rfl) (by kernel_rfl) ?_
  iterate 12 ((first|refine zl rfl (by rfl) (by decide) ?_|(apply zk rfl (by rfl);· (intro w';go_simp;first|done|with_reducible rfl|(rw[if_neg (by first|omega|(simp;omega))];try with_reducible rfl)))|(apply zt hS rfl (by rfl);· (intro w' hw';go_split_ands;go_simp;try with_reducible rfl))|fail);simp only[Act.put,zD,lsZ,lsS])
  clear hS;refine zu fun V1 hV1=>?_
  have hb1:=zj (zd hb0.out hV1.below);clear hV1;obtain⟨c0,c1,c2,c3,c4,cP,cS,cR,cL⟩:=HS.out V1 hb1.out;go_wp2_with fail;refine (HQ.out V1).mono ?_;rintro e w2 ⟨rfl,rfl⟩;go_wp2_with fail;go_ret;refine⟨_,rfl,?_,zd hA hb1.out⟩;rw[←HR.out];by_cases hk1:k=1
  ·subst hk1;rfl
  ·have e:(k == 1)=false:=bfE hk1
   rw[e,if_neg hk1];rfl
theorem Kj(K:Nat)(hK:K=4∨K=5∨K=66∨K=84)(H:yt P nv iv l kv pr n)(i:Nat)(t:List UInt8)(k a:Int)(ks:List Int)(w:World)(hC:jG w P nv iv l kv)(hx:l[i]? =some ⟨K,t,k,ks,a⟩)(ht:t.length≤3000):Calls prog 108 #[.pointer (some ⟨P,0,none⟩),.int .i64 i] w (qW w (zF l pr ⟨K,t,k,ks,a⟩)):=by
 obtain⟨R,hR⟩:=exE (zF l pr ⟨K,t,k,ks,a⟩);rw[hR];obtain⟨KI,hKI⟩:∃KI:Int,(K:Int)=KI:=⟨_,rfl⟩;rcases hK with rfl|rfl|rfl|rfl
 all_goals
  obtain⟨s,r,nc,gN,oN,uc,up,rfl,hx255,⟨hil,hi0⟩,⟨hu,hcap⟩,⟨a0,a1,a2,a3,a4,cP⟩,h3,wA,hwA,hA,HS⟩:=xA H hC hx (m:=ks.length) rfl (KI:=KI) hKI (lk:= #[.string ⟨#[]⟩,.bool false]) (fun _=>rfl);simp at hKI;subst hKI;replace HS:=zj HS;have hb0:=zj (show Below wA.heap.size wA wA.drew from bR.drew);simp[zF,yC,zI] at hR;have HR:=zj hR;have HwA:=zj hwA;clear hwA hR hC hx hu h3 H;go_enter func108,ntmps108;go_wp2_with fail;rw[HwA.out];clear a0 a1 a2 a3 a4 cP;have hS:=fun W (h:Cl wA.drew W)=>HS.out W (zd hb0.out h.below)
  refine zo [(0,0),(1,0),(2,0),(3,1),(4,0),(5,1),(6,1),(7,0),(8,0),(9,0),(10,0),(11,0)] (by kernel_rfl) (by kernel_rfl) ?_
  iterate 12 ((first|refine zl rfl (by rfl) (by decide) ?_|(apply zk rfl (by rfl);· (intro w';go_simp;first|done|with_reducible rfl|(rw[if_neg (by first|omega|(simp;omega))];try with_reducible rfl)))|(apply zt hS rfl (by rfl);· (intro w' hw';go_split_ands;go_simp;try with_reducible rfl))|fail);simp only[Act.put,zD,lsZ,lsS])
  clear hS;refine zu fun V1 hV1=>?_
  have hb1:=zj (zd hb0.out hV1.below);clear hV1;obtain⟨c0,c1,c2,c3,c4,cP,cS,cR,cL⟩:=HS.out V1 hb1.out;go_wp2_with fail;go_ret;exact⟨_,rfl,HR.out,zd hA hb1.out⟩
theorem zg3(H:yt P nv iv l kv pr n)(i:Nat)(t:List UInt8)(k a:Int)(z0:Nat)(l0:z0<n)(w:World)(hC:jG w P nv iv l kv)(hx:l[i]? =some ⟨7,t,k,[(z0:Int)],a⟩)(ht:t.length≤3000):Calls prog 108 #[.pointer (some ⟨P,0,none⟩),.int .i64 i] w (qW w (zF l pr ⟨7,t,k,[(z0:Int)],a⟩)):=by
 obtain⟨R,hR⟩:=exE (zF l pr ⟨7,t,k,[(z0:Int)],a⟩);rw[hR];obtain⟨s,r,nc,gN,oN,uc,up,rfl,hx255,⟨hil,hi0⟩,⟨hu,hcap⟩,⟨a0,a1,a2,a3,a4,cP⟩,h3,wA,hwA,hA,HS⟩:=xA H hC hx (m:=1) rfl (KI:=7) rfl (lk:= #[.string ⟨#[]⟩,.bool false]) (fun _=>rfl);obtain⟨g,off,rfl,_,d0⟩:=hu.at (j:=0) (by first|omega|simp);replace HS:=zj (fun W (hb:Below wA.heap.size wA W)=>And.intro (HS W hb) (show W.cell? ⟨g,off,none⟩=some (.int .i64 z0) from zh (zd hA hb) d0));have hb0:=zj (show Below wA.heap.size wA wA.drew from bR.drew);simp[zF,yC,zI] at hR;have HK:=zj (fun W (hb:Below w.heap.size w W)=>ur H z0 3 W (hC.below hb) l0);have s0:(xr l pr z0 3).length≤3200002:=by have:=yU l pr z0 3;have:=H.len z0 l0;omega
 generalize xr l pr z0 3=ps0 at *;have HR:=zj hR;have HwA:=zj hwA;clear hwA hR hC hx hu h3 H;go_enter func108,ntmps108;go_wp2_with fail;rw[HwA.out];clear a0 a1 a2 a3 a4 cP;have hS:=fun W (h:Cl wA.drew W)=>HS.out W (zd hb0.out h.below)
 refine zo [(0,0),(1,0),(2,0),(3,1),(4,0),(5,1),(6,1),(7,0),(8,0),(9,0),(10,0),(11,0)] (by kernel_rfl) (by kernel_rfl) ?_
 iterate 12 ((first|refine zl rfl (by rfl) (by decide) ?_|(apply zk rfl (by rfl);· (intro w';go_simp;first|done|with_reducible rfl|(rw[if_neg (by first|omega|(simp;omega))];try with_reducible rfl)))|(apply zt hS rfl (by rfl);· (intro w' hw';go_split_ands;go_simp;try with_reducible rfl))|fail);simp only[Act.put,zD,lsZ,lsS])
 clear hS;refine zu fun V1 hV1=>?_
 have hb1:=zj (zd hb0.out hV1.below);clear hV1;obtain⟨⟨c0,c1,c2,c3,c4,cP,cS,cR,cL⟩,x0⟩:=HS.out V1 hb1.out;go_wp2_with fail;refine (HK.out V1 (zd hA hb1.out)).mono ?_;rintro e w2 ⟨b2,rfl,hq2,f2⟩;have zz_2:=zQ hq2;replace hq2:=zj hq2;have hb2:=zj (zd hb1.out f2);go_wp2_with fail;go_ret;refine⟨_,rfl,?_,zd hA hb2.out⟩;rw[←HR.out];simp[zx,hq2.out]
end
section
variable {P:Nat} {nv iv:Value} {l:List Nd} {kv:List Value} {pr:Int→List UInt8} {n:Nat}
theorem zfB(H:yt P nv iv l kv pr n)(i:Nat)(t:List UInt8)(k a:Int)(z0:Nat)(l0:z0<n)(w:World)(hC:jG w P nv iv l kv)(hx:l[i]? =some ⟨23,t,k,[(z0:Int)],a⟩)(ht:t.length≤3000):Calls prog 108 #[.pointer (some ⟨P,0,none⟩),.int .i64 i] w (qW w (zF l pr ⟨23,t,k,[(z0:Int)],a⟩)):=by
 obtain⟨R,hR⟩:=exE (zF l pr ⟨23,t,k,[(z0:Int)],a⟩);rw[hR];obtain⟨s,r,nc,gN,oN,uc,up,rfl,hx255,⟨hil,hi0⟩,⟨hu,hcap⟩,⟨a0,a1,a2,a3,a4,cP⟩,h3,wA,hwA,hA,HS⟩:=xA H hC hx (m:=1) rfl (KI:=23) rfl (lk:= #[.string ⟨#[]⟩,.bool false]) (fun _=>rfl);obtain⟨g,off,rfl,_,d0⟩:=hu.at (j:=0) (by first|omega|simp);replace HS:=zj (fun W (hb:Below wA.heap.size wA W)=>And.intro (HS W hb) (show W.cell? ⟨g,off,none⟩=some (.int .i64 z0) from zh (zd hA hb) d0));have hb0:=zj (show Below wA.heap.size wA wA.drew from bR.drew);simp[zF,yC,zI] at hR;have HK:=zj (fun W (hb:Below w.heap.size w W)=>ur H z0 8 W (hC.below hb) l0);have s0:(xr l pr z0 8).length≤3200002:=by have:=yU l pr z0 8;have:=H.len z0 l0;omega
 generalize xr l pr z0 8=ps0 at *;have HR:=zj hR;have HwA:=zj hwA;clear hwA hR hC hx hu h3 H;go_enter func108,ntmps108;go_wp2_with fail;rw[HwA.out];clear a0 a1 a2 a3 a4 cP;have hS:=fun W (h:Cl wA.drew W)=>HS.out W (zd hb0.out h.below)
 refine zo [(0,0),(1,0),(2,0),(3,1),(4,0),(5,1),(6,1),(7,0),(8,0),(9,0),(10,0),(11,0)] (by kernel_rfl) (by kernel_rfl) ?_
 iterate 12 ((first|refine zl rfl (by rfl) (by decide) ?_|(apply zk rfl (by rfl);· (intro w';go_simp;first|done|with_reducible rfl|(rw[if_neg (by first|omega|(simp;omega))];try with_reducible rfl)))|(apply zt hS rfl (by rfl);· (intro w' hw';go_split_ands;go_simp;try with_reducible rfl))|fail);simp only[Act.put,zD,lsZ,lsS])
 clear hS;refine zu fun V1 hV1=>?_
 have hb1:=zj (zd hb0.out hV1.below);clear hV1;obtain⟨⟨c0,c1,c2,c3,c4,cP,cS,cR,cL⟩,x0⟩:=HS.out V1 hb1.out;go_wp2_with fail;have hS:=fun W (h:Cl V1.drew W)=>HS.out W (zd hb1.out (zd bR.drew h.below))
 refine zo [(0,0),(1,0),(2,1),(3,0),(4,1),(7,0),(8,1),(5,2),(6,0),(9,0),(10,0)] (by kernel_rfl) (by kernel_rfl) ?_;have hb1d:=zj (zd hb1.out (Below.refl V1.heap.size V1).drew)
 iterate 7 ((first|refine zl rfl (by rfl) (by decide) ?_|(apply zk rfl (by rfl);· (intro w';go_simp;first|done|with_reducible rfl|(rw[if_neg (by first|omega|(simp;omega))];try with_reducible rfl)))|(apply zt hS rfl (by rfl);· (intro w' hw';go_split_ands;go_simp;try with_reducible rfl))|fail);simp only[Act.put,zD,lsZ,lsS])
 clear hS;refine zq rfl (by rfl) (fun K hK V hV=>?_);have hbV:=zd hb1d.out hV.below;go_simp;refine (HK.out V (zd hA hbV)).mono ?_;rintro e w2 ⟨b2,rfl,hq2,f2⟩;have zz_2:=zQ hq2;replace hq2:=zj hq2;have hb2:=zj (zd hbV f2);go_simp;refine⟨zV.2 f2,hK _ _ ?_⟩;clear hK K hbV hV
 try simp only[Act.put,zD,lsZ,lsS]
 iterate 3 ((first|refine zl rfl (by rfl) (by decide) ?_|(apply zk rfl (by rfl);· (intro w';go_simp;first|done|with_reducible rfl|(rw[if_neg (by first|omega|(simp;omega))];try with_reducible rfl)))|fail);simp only[Act.put,zD,lsZ,lsS])
 refine zu fun W hW=>?_
 have hbW:=zj (zd hb2.out hW.below);clear hW;go_wp2_with fail;go_ret;refine⟨_,rfl,?_,zd hA hbW.out⟩;rw[←HR.out];simp[zx,hq2.out]
theorem zg4(H:yt P nv iv l kv pr n)(i:Nat)(t:List UInt8)(k a:Int)(z0:Nat)(l0:z0<n)(w:World)(hC:jG w P nv iv l kv)(hx:l[i]? =some ⟨6,t,k,[(z0:Int)],a⟩)(ht:t.length≤3000):Calls prog 108 #[.pointer (some ⟨P,0,none⟩),.int .i64 i] w (qW w (zF l pr ⟨6,t,k,[(z0:Int)],a⟩)):=by
 obtain⟨R,hR⟩:=exE (zF l pr ⟨6,t,k,[(z0:Int)],a⟩);rw[hR];obtain⟨s,r,nc,gN,oN,uc,up,rfl,hx255,⟨hil,hi0⟩,⟨hu,hcap⟩,⟨a0,a1,a2,a3,a4,cP⟩,h3,wA,hwA,hA,HS⟩:=xA H hC hx (m:=1) rfl (KI:=6) rfl (lk:= #[.string ⟨#[]⟩,.bool false]) (fun _=>rfl);obtain⟨g,off,rfl,_,d0⟩:=hu.at (j:=0) (by first|omega|simp);obtain⟨xz,hxz⟩:∃x,l[z0]? =some x:=⟨_,glE (Nat.lt_of_lt_of_le l0 H.le)⟩;obtain⟨gN',oN',uz,ez,hNz⟩:=hC.ns.at hxz;cases ez;have hz1:(z0:Int)<(l.length:Int):=by have:=(gtL hxz);omega
 have hz0:¬((z0:Int)<0):=by omega
 have hkz:zK l (z0:Int)=xz.kind:=by
  unfold zK;rw[Int.toNat_natCast,hxz];rfl
 have b0:=hNz.c0;replace HS:=zj (fun W (hb:Below wA.heap.size wA W)=>And.intro (HS W hb) (show W.cell? ⟨gN,oN+z0*5,none⟩=some (.int .u8 xz.kind)∧W.cell? ⟨g,off,none⟩=some (.int .i64 z0) from ⟨zh (zd hA hb) b0,zh (zd hA hb) d0⟩));have hb0:=zj (show Below wA.heap.size wA wA.drew from bR.drew);simp[zF,yC,zI] at hR;rw[hkz] at hR;have HK:=zj (fun W (hb:Below w.heap.size w W)=>ur H z0 7 W (hC.below hb) l0);have HN:=zj (fun W (hb:Below w.heap.size w W)=>H.ok W z0 l0 (hC.below hb));have sN:=H.len z0 l0;have s0:(xr l pr z0 7).length≤3200002:=by have:=yU l pr z0 7;have:=H.len z0 l0;omega
 generalize xr l pr z0 7=ps0 at *;generalize pr z0=pz at *;clear hkz hNz hxz b0;have HR:=zj hR;have HwA:=zj hwA;clear hwA hR hC hx hu h3 H;go_enter func108,ntmps108;go_wp2_with fail;rw[HwA.out];clear a0 a1 a2 a3 a4 cP;have hS:=fun W (h:Cl wA.drew W)=>HS.out W (zd hb0.out h.below)
 refine zo [(0,0),(1,0),(2,0),(3,1),(4,0),(5,1),(6,1),(7,0),(8,0),(9,0),(10,0),(11,0)] (by kernel_rfl) (by kernel_rfl) ?_
 iterate 12 ((first|refine zl rfl (by rfl) (by decide) ?_|(apply zk rfl (by rfl);· (intro w';go_simp;first|done|with_reducible rfl|(rw[if_neg (by first|omega|(simp;omega))];try with_reducible rfl)))|(apply zt hS rfl (by rfl);· (intro w' hw';go_split_ands;go_simp;try with_reducible rfl))|fail);simp only[Act.put,zD,lsZ,lsS])
 clear hS;refine zu fun V1 hV1=>?_
 have hb1:=zj (zd hb0.out hV1.below);clear hV1;obtain⟨⟨c0,c1,c2,c3,c4,cP,cS,cR,cL⟩,x0,x1⟩:=HS.out V1 hb1.out;go_wp2_with fail;have hS:=fun W (h:Cl V1.drew W)=>HS.out W (zd hb1.out (zd bR.drew h.below))
 refine zo [(0,0),(1,0),(2,0),(3,0),(4,1),(5,0),(6,1),(7,0),(8,1),(9,0),(10,0),(11,1),(12,0)] (by kernel_rfl) (by kernel_rfl) ?_;have hb1d:=zj (zd hb1.out (Below.refl V1.heap.size V1).drew);clear c0 c1 c2 c3 c4 cP cS cR cL x0 x1
 iterate 13 ((first|refine zl rfl (by rfl) (by decide) ?_|(apply zk rfl (by rfl);· (intro w';go_simp;first|done|with_reducible rfl|(rw[if_neg (by first|omega|(simp;omega))];try with_reducible rfl)))|(apply zt hS rfl (by rfl);· (intro w' hw';go_split_ands;go_simp;try with_reducible rfl))|fail);simp only[Act.put,zD,lsZ,lsS])
 clear hS;refine zu fun V2 hV2=>?_
 have hb2:=zj (zd hb1d.out hV2.below);clear hV2;obtain⟨⟨c0,c1,c2,c3,c4,cP,cS,cR,cL⟩,x0,x1⟩:=HS.out V2 hb2.out;by_cases h6:xz.kind=6
 ·have h6':((xz.kind:Int) == 6)=true:=by rw[beq_iff_eq];omega
  have h:=HR.out;rw[if_pos h6] at h;go_wp2_with fail;refine (HN.out V2 (zd hA hb2.out)).mono ?_;rintro e w3 ⟨b3,rfl,hq3,f3⟩;have zz_3:=zQ hq3;replace hq3:=zj hq3;go_wp2_with fail;go_ret;refine⟨_,rfl,?_,zd hA (zd hb2.out f3)⟩;rw[←h];simp[zx,hq3.out]
 ·have h6':((xz.kind:Int) == 6)=false:=bfE (by omega)
  have h:=HR.out;rw[if_neg h6] at h;go_wp2_with fail;refine (HK.out V2 (zd hA hb2.out)).mono ?_;rintro e w3 ⟨b3,rfl,hq3,f3⟩;have zz_3:=zQ hq3;replace hq3:=zj hq3;go_wp2_with fail;go_ret;refine⟨_,rfl,?_,zd hA (zd hb2.out f3)⟩;rw[←h];simp[zx,hq3.out]
theorem zfz(H:yt P nv iv l kv pr n)(i:Nat)(t:List UInt8)(k a:Int)(ks:List Int)(w:World)(hC:jG w P nv iv l kv)(hx:l[i]? =some ⟨25,t,k,ks,a⟩)(ht:t.length≤3000)(hks:∀k∈ks,0≤k∧k<(n:Int))(hkl:ks.length≤100000):Calls prog 108 #[.pointer (some ⟨P,0,none⟩),.int .i64 i] w (qW w (zF l pr ⟨25,t,k,ks,a⟩)):=by
 obtain⟨R,hR⟩:=exE (zF l pr ⟨25,t,k,ks,a⟩);rw[hR];obtain⟨s,r,nc,gN,oN,uc,up,rfl,hx255,⟨hil,hi0⟩,⟨hu,hcap⟩,⟨a0,a1,a2,a3,a4,cP⟩,h3,wA,hwA,hA,HS⟩:=xA H hC hx (m:=ks.length) rfl (KI:=25) rfl (lk:= #[.string ⟨#[]⟩,.bool false]) (fun _=>rfl);have HP:=zj (fun W (hb:Below w.heap.size w W)=>ZO H (.slice up ks.length uc) ks W (hC.below hb) (hu.below hb) hks hkl);have sP:(qi pr ks).length≤320000200002:=by have:=y8 H hks hkl;unfold qi;split <;> simp <;> omega
 replace HS:=zj HS;have hb0:=zj (show Below wA.heap.size wA wA.drew from bR.drew);simp[zF,yC,zI] at hR;generalize qi pr ks=pp at *;clear hks;have HR:=zj hR;have HwA:=zj hwA;clear hwA hR hC hx hu h3 H;go_enter func108,ntmps108;go_wp2_with fail;rw[HwA.out];clear a0 a1 a2 a3 a4 cP;have hS:=fun W (h:Cl wA.drew W)=>HS.out W (zd hb0.out h.below)
 refine zo [(0,0),(1,0),(2,0),(3,1),(4,0),(5,1),(6,1),(7,0),(8,0),(9,0),(10,0),(11,0)] (by kernel_rfl) (by kernel_rfl) ?_
 iterate 12 ((first|refine zl rfl (by rfl) (by decide) ?_|(apply zk rfl (by rfl);· (intro w';go_simp;first|done|with_reducible rfl|(rw[if_neg (by first|omega|(simp;omega))];try with_reducible rfl)))|(apply zt hS rfl (by rfl);· (intro w' hw';go_split_ands;go_simp;try with_reducible rfl))|fail);simp only[Act.put,zD,lsZ,lsS])
 clear hS;refine zu fun V1 hV1=>?_
 have hb1:=zj (zd hb0.out hV1.below);clear hV1;obtain⟨c0,c1,c2,c3,c4,cP,cS,cR,cL⟩:=HS.out V1 hb1.out;go_wp2_with fail;have hS:=fun W (h:Cl V1.drew W)=>HS.out W (zd hb1.out (zd bR.drew h.below))
 refine zo [(0,0),(1,1),(2,0),(3,0),(4,1),(5,2),(6,0),(7,0)] (by kernel_rfl) (by kernel_rfl) ?_;have hb1d:=zj (zd hb1.out (Below.refl V1.heap.size V1).drew)
 iterate 5 ((first|refine zl rfl (by rfl) (by decide) ?_|(apply zk rfl (by rfl);· (intro w';go_simp;first|done|with_reducible rfl|(rw[if_neg (by first|omega|(simp;omega))];try with_reducible rfl)))|(apply zt hS rfl (by rfl);· (intro w' hw';go_split_ands;go_simp;try with_reducible rfl))|fail);simp only[Act.put,zD,lsZ,lsS])
 clear hS;refine zq rfl (by rfl) (fun K hK V hV=>?_);have hbV:=zd hb1d.out hV.below;go_simp;refine (HP.out V (zd hA hbV)).mono ?_;rintro e w2 ⟨b2,rfl,hq2,f2⟩;have zz_2:=zQ hq2;replace hq2:=zj hq2;have hb2:=zj (zd hbV f2);go_simp;refine⟨zV.2 f2,hK _ _ ?_⟩;clear hK K hbV hV
 try simp only[Act.put,zD,lsZ,lsS]
 iterate 2 ((first|refine zl rfl (by rfl) (by decide) ?_|(apply zk rfl (by rfl);· (intro w';go_simp;first|done|with_reducible rfl|(rw[if_neg (by first|omega|(simp;omega))];try with_reducible rfl)))|fail);simp only[Act.put,zD,lsZ,lsS])
 refine zu fun W hW=>?_
 have hbW:=zj (zd hb2.out hW.below);clear hW;go_wp2_with fail;go_ret;refine⟨_,rfl,?_,zd hA hbW.out⟩;rw[←HR.out];simp[zx,hq2.out]
theorem zfx(H:yt P nv iv l kv pr n)(i:Nat)(t:List UInt8)(k a:Int)(ks:List Int)(w:World)(hC:jG w P nv iv l kv)(hx:l[i]? =some ⟨70,t,k,ks,a⟩)(ht:t.length≤3000)(hks:∀k∈ks,0≤k∧k<(n:Int))(hkl:ks.length≤100000):Calls prog 108 #[.pointer (some ⟨P,0,none⟩),.int .i64 i] w (qW w (zF l pr ⟨70,t,k,ks,a⟩)):=by
 obtain⟨R,hR⟩:=exE (zF l pr ⟨70,t,k,ks,a⟩);rw[hR];obtain⟨s,r,nc,gN,oN,uc,up,rfl,hx255,⟨hil,hi0⟩,⟨hu,hcap⟩,⟨a0,a1,a2,a3,a4,cP⟩,h3,wA,hwA,hA,HS⟩:=xA H hC hx (m:=ks.length) rfl (KI:=70) rfl (lk:= #[.string ⟨#[]⟩,.bool false]) (fun _=>rfl);have HP:=zj (fun W (hb:Below w.heap.size w W)=>ZO H (.slice up ks.length uc) ks W (hC.below hb) (hu.below hb) hks hkl);have sP:(qi pr ks).length≤320000200002:=by have:=y8 H hks hkl;unfold qi;split <;> simp <;> omega
 replace HS:=zj HS;have hb0:=zj (show Below wA.heap.size wA wA.drew from bR.drew);simp[zF,yC,zI] at hR;generalize qi pr ks=pp at *;clear hks;have HR:=zj hR;have HwA:=zj hwA;clear hwA hR hC hx hu h3 H;go_enter func108,ntmps108;go_wp2_with fail;rw[HwA.out];clear a0 a1 a2 a3 a4 cP;have hS:=fun W (h:Cl wA.drew W)=>HS.out W (zd hb0.out h.below)
 refine zo [(0,0),(1,0),(2,0),(3,1),(4,0),(5,1),(6,1),(7,0),(8,0),(9,0),(10,0),(11,0)] (by kernel_rfl) (by kernel_rfl) ?_
 iterate 12 ((first|refine zl rfl (by rfl) (by decide) ?_|(apply zk rfl (by rfl);· (intro w';go_simp;first|done|with_reducible rfl|(rw[if_neg (by first|omega|(simp;omega))];try with_reducible rfl)))|(apply zt hS rfl (by rfl);· (intro w' hw';go_split_ands;go_simp;try with_reducible rfl))|fail);simp only[Act.put,zD,lsZ,lsS])
 clear hS;refine zu fun V1 hV1=>?_
 have hb1:=zj (zd hb0.out hV1.below);clear hV1;obtain⟨c0,c1,c2,c3,c4,cP,cS,cR,cL⟩:=HS.out V1 hb1.out;go_wp2_with fail;have hS:=fun W (h:Cl V1.drew W)=>HS.out W (zd hb1.out (zd bR.drew h.below))
 refine zo [(0,0),(1,1),(2,0),(3,0),(4,1),(5,2),(6,0),(7,0)] (by kernel_rfl) (by kernel_rfl) ?_;have hb1d:=zj (zd hb1.out (Below.refl V1.heap.size V1).drew)
 iterate 5 ((first|refine zl rfl (by rfl) (by decide) ?_|(apply zk rfl (by rfl);· (intro w';go_simp;first|done|with_reducible rfl|(rw[if_neg (by first|omega|(simp;omega))];try with_reducible rfl)))|(apply zt hS rfl (by rfl);· (intro w' hw';go_split_ands;go_simp;try with_reducible rfl))|fail);simp only[Act.put,zD,lsZ,lsS])
 clear hS;refine zq rfl (by rfl) (fun K hK V hV=>?_);have hbV:=zd hb1d.out hV.below;go_simp;refine (HP.out V (zd hA hbV)).mono ?_;rintro e w2 ⟨b2,rfl,hq2,f2⟩;have zz_2:=zQ hq2;replace hq2:=zj hq2;have hb2:=zj (zd hbV f2);go_simp;refine⟨zV.2 f2,hK _ _ ?_⟩;clear hK K hbV hV
 try simp only[Act.put,zD,lsZ,lsS]
 iterate 2 ((first|refine zl rfl (by rfl) (by decide) ?_|(apply zk rfl (by rfl);· (intro w';go_simp;first|done|with_reducible rfl|(rw[if_neg (by first|omega|(simp;omega))];try with_reducible rfl)))|fail);simp only[Act.put,zD,lsZ,lsS])
 refine zu fun W hW=>?_
 have hbW:=zj (zd hb2.out hW.below);clear hW;go_wp2_with fail;go_ret;refine⟨_,rfl,?_,zd hA hbW.out⟩;rw[←HR.out];simp[zx,hq2.out]
theorem zfw(H:yt P nv iv l kv pr n)(i:Nat)(t:List UInt8)(k a:Int)(ks:List Int)(w:World)(hC:jG w P nv iv l kv)(hx:l[i]? =some ⟨89,t,k,ks,a⟩)(ht:t.length≤3000)(hks:∀k∈ks,0≤k∧k<(n:Int))(hkl:ks.length≤100000):Calls prog 108 #[.pointer (some ⟨P,0,none⟩),.int .i64 i] w (qW w (zF l pr ⟨89,t,k,ks,a⟩)):=by
 obtain⟨R,hR⟩:=exE (zF l pr ⟨89,t,k,ks,a⟩);rw[hR];obtain⟨s,r,nc,gN,oN,uc,up,rfl,hx255,⟨hil,hi0⟩,⟨hu,hcap⟩,⟨a0,a1,a2,a3,a4,cP⟩,h3,wA,hwA,hA,HS⟩:=xA H hC hx (m:=ks.length) rfl (KI:=89) rfl (lk:= #[.string ⟨#[]⟩,.bool false]) (fun _=>rfl);have HP:=zj (fun W (hb:Below w.heap.size w W)=>ZO H (.slice up ks.length uc) ks W (hC.below hb) (hu.below hb) hks hkl);have sP:(qi pr ks).length≤320000200002:=by have:=y8 H hks hkl;unfold qi;split <;> simp <;> omega
 replace HS:=zj HS;have hb0:=zj (show Below wA.heap.size wA wA.drew from bR.drew);simp[zF,yC,zI] at hR;generalize qi pr ks=pp at *;clear hks;have HR:=zj hR;have HwA:=zj hwA;clear hwA hR hC hx hu h3 H;go_enter func108,ntmps108;go_wp2_with fail;rw[HwA.out];clear a0 a1 a2 a3 a4 cP;have hS:=fun W (h:Cl wA.drew W)=>HS.out W (zd hb0.out h.below)
 refine zo [(0,0),(1,0),(2,0),(3,1),(4,0),(5,1),(6,1),(7,0),(8,0),(9,0),(10,0),(11,0)] (by kernel_rfl) (by kernel_rfl) ?_
 iterate 12 ((first|refine zl rfl (by rfl) (by decide) ?_|(apply zk rfl (by rfl);· (intro w';go_simp;first|done|with_reducible rfl|(rw[if_neg (by first|omega|(simp;omega))];try with_reducible rfl)))|(apply zt hS rfl (by rfl);· (intro w' hw';go_split_ands;go_simp;try with_reducible rfl))|fail);simp only[Act.put,zD,lsZ,lsS])
 clear hS;refine zu fun V1 hV1=>?_
 have hb1:=zj (zd hb0.out hV1.below);clear hV1;obtain⟨c0,c1,c2,c3,c4,cP,cS,cR,cL⟩:=HS.out V1 hb1.out;go_wp2_with fail;have hS:=fun W (h:Cl V1.drew W)=>HS.out W (zd hb1.out (zd bR.drew h.below))
 refine zo [(0,0),(1,1),(2,0),(3,0),(4,1),(5,2),(6,0),(7,0)] (by kernel_rfl) (by kernel_rfl) ?_;have hb1d:=zj (zd hb1.out (Below.refl V1.heap.size V1).drew)
 iterate 5 ((first|refine zl rfl (by rfl) (by decide) ?_|(apply zk rfl (by rfl);· (intro w';go_simp;first|done|with_reducible rfl|(rw[if_neg (by first|omega|(simp;omega))];try with_reducible rfl)))|(apply zt hS rfl (by rfl);· (intro w' hw';go_split_ands;go_simp;try with_reducible rfl))|fail);simp only[Act.put,zD,lsZ,lsS])
 clear hS;refine zq rfl (by rfl) (fun K hK V hV=>?_);have hbV:=zd hb1d.out hV.below;go_simp;refine (HP.out V (zd hA hbV)).mono ?_;rintro e w2 ⟨b2,rfl,hq2,f2⟩;have zz_2:=zQ hq2;replace hq2:=zj hq2;have hb2:=zj (zd hbV f2);go_simp;refine⟨zV.2 f2,hK _ _ ?_⟩;clear hK K hbV hV
 try simp only[Act.put,zD,lsZ,lsS]
 iterate 2 ((first|refine zl rfl (by rfl) (by decide) ?_|(apply zk rfl (by rfl);· (intro w';go_simp;first|done|with_reducible rfl|(rw[if_neg (by first|omega|(simp;omega))];try with_reducible rfl)))|fail);simp only[Act.put,zD,lsZ,lsS])
 refine zu fun W hW=>?_
 have hbW:=zj (zd hb2.out hW.below);clear hW;go_wp2_with fail;go_ret;refine⟨_,rfl,?_,zd hA hbW.out⟩;rw[←HR.out];simp[zx,hq2.out]
theorem zfy(H:yt P nv iv l kv pr n)(i:Nat)(t:List UInt8)(k a:Int)(ks:List Int)(w:World)(hC:jG w P nv iv l kv)(hx:l[i]? =some ⟨28,t,k,ks,a⟩)(ht:t.length≤3000)(hks:∀k∈ks,0≤k∧k<(n:Int))(hkl:ks.length≤100000):Calls prog 108 #[.pointer (some ⟨P,0,none⟩),.int .i64 i] w (qW w (zF l pr ⟨28,t,k,ks,a⟩)):=by
 obtain⟨R,hR⟩:=exE (zF l pr ⟨28,t,k,ks,a⟩);rw[hR];obtain⟨s,r,nc,gN,oN,uc,up,rfl,hx255,⟨hil,hi0⟩,⟨hu,hcap⟩,⟨a0,a1,a2,a3,a4,cP⟩,h3,wA,hwA,hA,HS⟩:=xA H hC hx (m:=ks.length) rfl (KI:=28) rfl (lk:= #[.string ⟨#[]⟩,.bool false]) (fun _=>rfl);have HP:=zj (show ∀W,Below w.heap.size w W→Calls prog 165 #[.pointer (some ⟨P,0,none⟩),.agg #[.int .u8 28,.string ⟨t.toArray⟩,.int .i64 k,.slice up ks.length uc,.int .i64 a]] W (qW W (Zb pr ⟨28,t,k,ks,a⟩)) from fun W hb=>zba H ⟨28,t,k,ks,a⟩ (.slice up ks.length uc) W (hC.below hb) (hu.below hb) hks hkl);replace HS:=zj HS;have hb0:=zj (show Below wA.heap.size wA wA.drew from bR.drew);simp[zF,yC,zI] at hR;clear hks;have HR:=zj hR;have HwA:=zj hwA;clear hwA hR hC hx hu h3 H;go_enter func108,ntmps108;go_wp2_with fail;rw[HwA.out];clear a0 a1 a2 a3 a4 cP;have hS:=fun W (h:Cl wA.drew W)=>HS.out W (zd hb0.out h.below)
 refine zo [(0,0),(1,0),(2,0),(3,1),(4,0),(5,1),(6,1),(7,0),(8,0),(9,0),(10,0),(11,0)] (by kernel_rfl) (by kernel_rfl) ?_
 iterate 12 ((first|refine zl rfl (by rfl) (by decide) ?_|(apply zk rfl (by rfl);· (intro w';go_simp;first|done|with_reducible rfl|(rw[if_neg (by first|omega|(simp;omega))];try with_reducible rfl)))|(apply zt hS rfl (by rfl);· (intro w' hw';go_split_ands;go_simp;try with_reducible rfl))|fail);simp only[Act.put,zD,lsZ,lsS])
 clear hS;refine zu fun V1 hV1=>?_
 have hb1:=zj (zd hb0.out hV1.below);clear hV1;obtain⟨c0,c1,c2,c3,c4,cP,cS,cR,cL⟩:=HS.out V1 hb1.out;go_wp2_with fail;refine (HP.out V1 (zd hA hb1.out)).mono ?_;rintro e w2 ⟨b2,rfl,hq2,f2⟩;replace hq2:=zj hq2;go_wp2_with fail;go_ret;exact⟨_,rfl,hq2.out.trans HR.out,zd hA (zd hb1.out f2)⟩
theorem zfA(H:yt P nv iv l kv pr n)(i:Nat)(t:List UInt8)(k a:Int)(ks:List Int)(w:World)(hC:jG w P nv iv l kv)(hx:l[i]? =some ⟨24,t,k,ks,a⟩)(ht:t.length≤3000)(hks:∀k∈ks,0≤k∧k<(n:Int))(hkl:ks.length≤100000)(hm1:1≤ks.length):Calls prog 108 #[.pointer (some ⟨P,0,none⟩),.int .i64 i] w (qW w (zF l pr ⟨24,t,k,ks,a⟩)):=by
 obtain⟨R,hR⟩:=exE (zF l pr ⟨24,t,k,ks,a⟩);rw[hR];obtain⟨s,r,nc,gN,oN,uc,up,rfl,hx255,⟨hil,hi0⟩,⟨hu,hcap⟩,⟨a0,a1,a2,a3,a4,cP⟩,h3,wA,hwA,hA,HS⟩:=xA H hC hx (m:=ks.length) rfl (KI:=24) rfl (lk:= #[.string ⟨#[]⟩,.bool false]) (fun _=>rfl);obtain⟨g,off,rfl,_,d0⟩:=hu.at (j:=0) (by first|omega|simp);have hm0:ks.getD 0 0∈ks:=by rw[List.getD_eq_getElem?_getD,glE (show 0<ks.length by omega)];exact List.getElem_mem _
 obtain⟨z0,hz0⟩:=Int.eq_ofNat_of_zero_le (hks _ hm0).1;have l0:z0<n:=by have:=(hks _ hm0).2;omega
 rw[hz0] at d0;obtain⟨xz,hxz⟩:∃x,l[z0]? =some x:=⟨_,glE (Nat.lt_of_lt_of_le l0 H.le)⟩;obtain⟨gN',oN',uz,ez,hNz⟩:=hC.ns.at hxz;cases ez;have hz1:(z0:Int)<(l.length:Int):=by have:=(gtL hxz);omega
 have hz9:¬((z0:Int)<0):=by omega
 have hkz:zK l (z0:Int)=xz.kind:=by
  unfold zK;rw[Int.toNat_natCast,hxz];rfl
 have hkd:∀k∈ks.drop 1,0≤k∧k<(n:Int):=fun k hk=>hks k (List.mem_of_mem_drop hk)
 have hdl:(ks.drop 1).length≤100000:=by rw[List.length_drop];omega
 have HD:=zj (fun (q:Option Addr) (c:Nat) (hq:KS w (.slice q (ks.length-1) c) (ks.drop 1)) W (hb:Below w.heap.size w W)=>jw H (.slice q (ks.length-1) c) (ks.drop 1) W (hC.below hb) (hq.below hb) hkd hdl);have sD:=y8 H hkd hdl;have hD1:=zj (KS.dropc hu 1 (by omega));have hD2:=zj (fun (h:ks.length=1)=>(show KS w (.slice (some ⟨g,off,none⟩) (ks.length-1) (uc-1)) (ks.drop 1) from by rw[List.drop_eq_nil_of_le (by omega),h];exact KS.nil _ _ _));obtain⟨y0,y1,y2,y3,y4⟩:=xz;have hK3:=hNz.kids;obtain⟨zp,zc,rfl⟩:=hK3.form;obtain⟨yn,hyn⟩:∃q,y3.length=q:=⟨_,rfl⟩;have b0:=hNz.c0;have b1:=hNz.c1;have b2:=hNz.c2;have b3:=hNz.c3;have b4:=hNz.c4;simp only[hyn] at b0 b1 b2 b3 b4;replace HS:=zj (fun W (hb:Below wA.heap.size wA W)=>And.intro (HS W hb) (show W.cell? ⟨gN,oN+z0*5,none⟩=some (.int .u8 y0)∧W.cell? ⟨gN,oN+z0*5+1,none⟩=some (.string ⟨y1.toArray⟩)∧W.cell? ⟨gN,oN+z0*5+2,none⟩=some (.int .i64 y2)∧W.cell? ⟨gN,oN+z0*5+3,none⟩=some (.slice zp yn zc)∧W.cell? ⟨gN,oN+z0*5+4,none⟩=some (.int .i64 y4)∧W.cell? ⟨g,off,none⟩=some (.int .i64 z0) from ⟨zh (zd hA hb) b0,zh (zd hA hb) b1,zh (zd hA hb) b2,zh (zd hA hb) b3,zh (zd hA hb) b4,zh (zd hA hb) d0⟩));have hb0:=zj (show Below wA.heap.size wA wA.drew from bR.drew);have hemp:((l[((z0:Int)).toNat]?).elim [] Nd.kids).isEmpty=decide (yn=0):=by
  rw[Int.toNat_natCast,hxz,←hyn];show y3.isEmpty=decide (y3.length=0)
  cases y3 <;> simp
 have hk00:zI ⟨24,t,k,ks,a⟩ 0=(z0:Int):=hz0;have hR0:(if zK l (z0:Int) == 25 && ((l[((z0:Int)).toNat]?).elim [] Nd.kids).isEmpty then [40] ++ xr l pr z0 8 ++ [41] else xr l pr z0 8) ++ [40] ++ qc pr (ks.drop 1) ++ [41]=R:=by
  rw[←hR,←hk00];rfl
 rw[hkz,hemp] at hR0;replace hR:=hR0;clear hR0;have HK:=zj (fun W (hb:Below w.heap.size w W)=>ur H z0 8 W (hC.below hb) l0);have s0:(xr l pr z0 8).length≤3200002:=by have:=yU l pr z0 8;have:=H.len z0 l0;omega
 generalize xr l pr z0 8=ps0 at *;generalize qc pr (ks.drop 1)=pD at *;generalize hm:ks.length=m at *;have Hm:=zj hm;clear hm hkz hNz hxz b0 b1 b2 b3 b4 hz0 hm0 hkd hdl hks hk00 hK3 hyn hemp d0;have hi1:0<m:=by omega
 have hi3:(0:Int)<(m:Int):=by omega
 have hd1:¬((m:Int)<1):=by omega
 have hd3:1≤m:=hm1;have HR:=zj hR;have HwA:=zj hwA;clear hwA hR hC hx hu h3 H;go_enter func108,ntmps108;go_wp2_with fail;rw[HwA.out];clear a0 a1 a2 a3 a4 cP;have hS:=fun W (h:Cl wA.drew W)=>HS.out W (zd hb0.out h.below)
 refine zo [(0,0),(1,0),(2,0),(3,1),(4,0),(5,1),(6,1),(7,0),(8,0),(9,0),(10,0),(11,0)] (by kernel_rfl) (by kernel_rfl) ?_
 iterate 12 ((first|refine zl rfl (by rfl) (by decide) ?_|(apply zk rfl (by rfl);· (intro w';go_simp;first|done|with_reducible rfl|(rw[if_neg (by first|omega|(simp;omega))];try with_reducible rfl)))|(apply zt hS rfl (by rfl);· (intro w' hw';go_split_ands;go_simp;try with_reducible rfl))|fail);simp only[Act.put,zD,lsZ,lsS])
 clear hS;refine zu fun V1 hV1=>?_
 have hb1:=zj (zd hb0.out hV1.below);clear hV1;obtain⟨⟨c0,c1,c2,c3,c4,cP,cS,cR,cL⟩,x0,x1,x2,x3,x4,x5⟩:=HS.out V1 hb1.out;go_wp2_with fail;refine (HK.out V1 (zd hA hb1.out)).mono ?_;rintro e w2 ⟨b2,rfl,hq2,f2⟩;have zz_2:=zQ hq2;replace hq2:=zj hq2;have hb2:=zj (zd hb1.out f2);clear c0 c1 c2 c3 c4 cP cS cR cL x0 x1 x2 x3 x4 x5;go_wp2_with fail;have hS:=fun W (h:Cl w2.drew W)=>HS.out W (zd hb2.out (zd bR.drew h.below))
 refine zo [(0,0),(1,0),(2,0),(3,0),(4,1),(5,0),(6,1),(7,0),(8,1),(9,0),(10,1),(11,2),(12,3)] (by kernel_rfl) (by kernel_rfl) ?_
 iterate 11 ((first|refine zl rfl (by rfl) (by decide) ?_|(apply zk rfl (by rfl);· (intro w';go_simp;first|done|with_reducible rfl|(rw[if_neg (by first|omega|(simp;omega))];try with_reducible rfl)))|(apply zt hS rfl (by rfl);· (intro w' hw';go_split_ands;go_simp;try with_reducible rfl))|fail);simp only[Act.put,zD,lsZ,lsS])
 clear hS;refine zq rfl (by rfl) (fun K hK V hV=>?_);have hb3:=zj (zd hb2.out (zd bR.drew hV.below));go_simp;refine⟨zV.2 (zg _ _),hK _ _ ?_⟩;clear hK K
 try simp only[Act.put,zD,lsZ,lsS]
 refine vJ rfl (by rfl) (fun W hW=>?_);have hz:=zi hW.below (zm V (.cells #[.int .u8 0,.string ⟨#[]⟩,.int .i64 0,.slice none 0 0,.int .i64 0] 60 (0,0)));have hb4:=zj (zd hb3.out (zd (zg V _) hW.below))
 skip
 have e0:=zf hz 0;have e1:=zf hz 1;have e2:=zf hz 2;have e3:=zf hz 3;have e4:=zf hz 4;have ef:∀j,W.frozen? ⟨V.heap.size,j,none⟩=false:=fun j=>zr hz j
 have Hz:=zj hz;clear hz;go_simp;refine uJ ?_;have z5:=zw (zw (zw (zw (zw Hz.out 0 (.int .u8 y0)) 1 (.string ⟨y1.toArray⟩)) 2 (.int .i64 y2)) 3 (.slice zp yn zc)) 4 (.int .i64 y4);have hle:wA.heap.size≤V.heap.size:=hb3.out.size;have hb5:=((((hb4.out.setCell (p:=⟨V.heap.size,0,none⟩) hle (.int .u8 y0)).setCell (p:=⟨V.heap.size,1,none⟩) hle (.string ⟨y1.toArray⟩)).setCell (p:=⟨V.heap.size,2,none⟩) hle (.int .i64 y2)).setCell (p:=⟨V.heap.size,3,none⟩) hle (.slice zp yn zc)).setCell (p:=⟨V.heap.size,4,none⟩) hle (.int .i64 y4);generalize World.setCell (World.setCell (World.setCell (World.setCell (World.setCell W _ _) _ _) _ _) _ _) _ _=W5 at z5 hb5 ⊢;replace hb5:=zj hb5;clear e0 e1 e2 e3 e4 ef Hz hW;obtain⟨⟨c0,c1,c2,c3,c4,cP,cS,cR,cL⟩,x0,x1,x2,x3,x4,x5⟩:=HS.out W5 hb5.out;have m0:=zf z5 0;have m3:=zf z5 3;generalize V.heap.size=LM at *;clear z5;by_cases h25:y0=25
 ·have h25':((y0:Int) == 25)=true:=by rw[beq_iff_eq];omega
  by_cases hn0:yn=0
  ·have hn0':((yn:Int) == 0)=true:=by rw[beq_iff_eq];omega
   have h:=HR.out;rw[if_pos (by simp[h25,hn0])] at h;by_cases hu1:uc=1
   ·subst hu1;have hm1e:m=1:=by omega
    have HDD:=HD.out _ _ (hD2.out hm1e);rw[hm1e] at HDD;simp only[Nat.sub_self] at HDD;replace HDD:=zj HDD;clear hm1e;go_wp2_with fail;refine (HDD.out W5 (zd hA hb5.out)).mono ?_;rintro e w6 ⟨b6,rfl,hq6,f6⟩;have zz_6:=zQ hq6;replace hq6:=zj hq6;go_wp2_with fail;go_ret;refine⟨_,rfl,?_,zd hA (zd hb5.out f6)⟩;rw[←h];simp[zx,hq2.out,hq6.out]
   ·have hd2:¬(uc=1):=hu1;have HDD:=zj (HD.out _ _ hD1.out);go_wp2_with fail;refine (HDD.out W5 (zd hA hb5.out)).mono ?_;rintro e w6 ⟨b6,rfl,hq6,f6⟩;have zz_6:=zQ hq6;replace hq6:=zj hq6;go_wp2_with fail;go_ret;refine⟨_,rfl,?_,zd hA (zd hb5.out f6)⟩;rw[←h];simp[zx,hq2.out,hq6.out]
  ·have hn0':((yn:Int) == 0)=false:=bfE (by omega)
   have h:=HR.out;rw[if_neg (by simp[hn0])] at h;by_cases hu1:uc=1
   ·subst hu1;have hm1e:m=1:=by omega
    have HDD:=HD.out _ _ (hD2.out hm1e);rw[hm1e] at HDD;simp only[Nat.sub_self] at HDD;replace HDD:=zj HDD;clear hm1e;go_wp2_with fail;refine (HDD.out W5 (zd hA hb5.out)).mono ?_;rintro e w6 ⟨b6,rfl,hq6,f6⟩;have zz_6:=zQ hq6;replace hq6:=zj hq6;go_wp2_with fail;go_ret;refine⟨_,rfl,?_,zd hA (zd hb5.out f6)⟩;rw[←h];simp[zx,hq2.out,hq6.out]
   ·have hd2:¬(uc=1):=hu1;have HDD:=zj (HD.out _ _ hD1.out);go_wp2_with fail;refine (HDD.out W5 (zd hA hb5.out)).mono ?_;rintro e w6 ⟨b6,rfl,hq6,f6⟩;have zz_6:=zQ hq6;replace hq6:=zj hq6;go_wp2_with fail;go_ret;refine⟨_,rfl,?_,zd hA (zd hb5.out f6)⟩;rw[←h];simp[zx,hq2.out,hq6.out]
 ·have h25':((y0:Int) == 25)=false:=bfE (by omega)
  have h:=HR.out;rw[if_neg (by simp[h25])] at h;by_cases hu1:uc=1
  ·subst hu1;have hm1e:m=1:=by omega
   have HDD:=HD.out _ _ (hD2.out hm1e);rw[hm1e] at HDD;simp only[Nat.sub_self] at HDD;replace HDD:=zj HDD;clear hm1e;go_wp2_with fail;refine (HDD.out W5 (zd hA hb5.out)).mono ?_;rintro e w6 ⟨b6,rfl,hq6,f6⟩;have zz_6:=zQ hq6;replace hq6:=zj hq6;go_wp2_with fail;go_ret;refine⟨_,rfl,?_,zd hA (zd hb5.out f6)⟩;rw[←h];simp[zx,hq2.out,hq6.out]
  ·have hd2:¬(uc=1):=hu1;have HDD:=zj (HD.out _ _ hD1.out);go_wp2_with fail;refine (HDD.out W5 (zd hA hb5.out)).mono ?_;rintro e w6 ⟨b6,rfl,hq6,f6⟩;have zz_6:=zQ hq6;replace hq6:=zj hq6;go_wp2_with fail;go_ret;refine⟨_,rfl,?_,zd hA (zd hb5.out f6)⟩;rw[←h];simp[zx,hq2.out,hq6.out]
theorem jc(H:yt P nv iv l kv pr n)(i:Nat)(K:Nat)(t:List UInt8)(k a:Int)(z0:Nat)(l0:z0<n)(z1:Nat)(l1:z1<n)(w:World)(hC:jG w P nv iv l kv)(hx:l[i]? =some ⟨K,t,k,[(z0:Int),(z1:Int)],a⟩)(ht:t.length≤3000)(sg:List UInt8)(hsg:yC K=some sg)(hsl:sg.length≤10):Calls prog 108 #[.pointer (some ⟨P,0,none⟩),.int .i64 i] w (qW w (zF l pr ⟨K,t,k,[(z0:Int),(z1:Int)],a⟩)):=by
 obtain⟨R,hR⟩:=exE (zF l pr ⟨K,t,k,[(z0:Int),(z1:Int)],a⟩);rw[hR];obtain⟨s,r,nc,gN,oN,uc,up,rfl,hx255,⟨hil,hi0⟩,⟨hu,hcap⟩,⟨a0,a1,a2,a3,a4,cP⟩,h3,wA,hwA,hA,HS⟩:=xA H hC hx (m:=2) rfl (KI:=(K:Int)) rfl (lk:= #[.string ⟨sg.toArray⟩,.bool true]) (fun _=>by rw[hsg];rfl);obtain⟨g,off,rfl,_,d0⟩:=hu.at (j:=0) (by first|omega|simp);obtain⟨g',off',e1,_,d1⟩:=hu.at (j:=1) (by first|omega|simp);cases e1;obtain⟨rk,hrk⟩:=exE (yO K);have hrk6:rk≤6:=by
  have hall:∀k,k<256→(yC k).isSome=true→yO k≤6:=by decide +kernel
  rw[←hrk];exact hall K (by omega) (by rw[hsg];rfl)
 replace HS:=zj (fun W (hb:Below wA.heap.size wA W)=>And.intro (HS W hb) (show (Instr.lookup 164 (.map (some r)) (.int .u8 K) false).run prog W=.ok (.int .i64 rk) W∧W.cell? ⟨g,off,none⟩=some (.int .i64 z0)∧W.cell? ⟨g,off+1,none⟩=some (.int .i64 z1) from ⟨(by rw[←hrk];exact VA (((zd hA hb).block _ (gtA h3)).trans h3) K (by omega) (by rw[hsg];rfl)),zh (zd hA hb) d0,zh (zd hA hb) d1⟩));have hb0:=zj (show Below wA.heap.size wA wA.drew from bR.drew);unfold zF at hR;rw[hsg] at hR;simp[zI,hrk] at hR;have hrw:=IntWalk.i64_in ((rk:Int)+1) (by omega);have HK0:=zj (fun W (hb:Below w.heap.size w W) (q:Nat)=>ur H z0 q W (hC.below hb) l0);have HK1:=zj (fun W (hb:Below w.heap.size w W) (q:Nat)=>ur H z1 q W (hC.below hb) l1);have s0:∀q,(xr l pr z0 q).length≤3200002:=fun q=>by have:=yU l pr z0 q;have:=H.len z0 l0;omega
 have s1:∀q,(xr l pr z1 q).length≤3200002:=fun q=>by have:=yU l pr z1 q;have:=H.len z1 l1;omega
 clear hrk hsg;have hs0:=zj s0;have hs1:=zj s1;clear s0 s1 d0 d1;have HR:=zj hR;have HwA:=zj hwA;clear hwA hR hC hx hu h3 H;go_enter func108,ntmps108;go_wp2_with fail;rw[HwA.out];clear a0 a1 a2 a3 a4 cP;have hS:=fun W (h:Cl wA.drew W)=>HS.out W (zd hb0.out h.below)
 refine zo [(0,0),(1,0),(2,0),(3,1),(4,0),(5,1),(6,1),(7,0),(8,0),(9,0),(10,0),(11,0)] (by kernel_rfl) (by kernel_rfl) ?_
 iterate 12 ((first|refine zl rfl (by rfl) (by decide) ?_|(apply zk rfl (by rfl);· (intro w';go_simp;first|done|with_reducible rfl|(rw[if_neg (by first|omega|(simp;omega))];try with_reducible rfl)))|(apply zt hS rfl (by rfl);· (intro w' hw';go_split_ands;go_simp;try with_reducible rfl))|fail);simp only[Act.put,zD,lsZ,lsS])
 clear hS;refine zu fun V1 hV1=>?_
 have hb1:=zj (zd hb0.out hV1.below);clear hV1;obtain⟨⟨c0,c1,c2,c3,c4,cP,cS,cR,cL⟩,x0,x1,x2⟩:=HS.out V1 hb1.out;go_wp2_with fail;have hS:=fun W (h:Cl V1.drew W)=>HS.out W (zd hb1.out (zd bR.drew h.below))
 refine zo [(0,0),(1,0),(2,0),(3,1),(4,0),(5,1),(6,1),(7,0),(8,0),(9,0),(10,1),(11,0),(12,1),(13,1),(14,0),(15,0),(16,0)] (by kernel_rfl) (by kernel_rfl) ?_;have hb1d:=zj (zd hb1.out (Below.refl V1.heap.size V1).drew);clear c0 c1 c2 c3 c4 cP cS cR cL x0 x1 x2
 iterate 17 ((first|refine zl rfl (by rfl) (by decide) ?_|(apply zk rfl (by rfl);· (intro w';go_simp;first|done|with_reducible rfl|(rw[if_neg (by first|omega|(simp;omega))];try with_reducible rfl)))|(apply zt hS rfl (by rfl);· (intro w' hw';go_split_ands;go_simp;try with_reducible rfl))|fail);simp only[Act.put,zD,lsZ,lsS])
 clear hS;refine zu fun V2 hV2=>?_
 have hb2:=zj (zd hb1d.out hV2.below);clear hV2;by_cases hr4:rk=4
 ·subst hr4;have h:=HR.out;rw[if_pos rfl] at h;have HA0:=zj (show ∀W,Below w.heap.size w W→Calls prog 159 #[.pointer (some ⟨P,0,none⟩),.int .i64 z0,.int .i64 5] W (qW W (xr l pr z0 5)) from fun W hb=>HK0.out W hb _);have HA1:=zj (show ∀W,Below w.heap.size w W→Calls prog 159 #[.pointer (some ⟨P,0,none⟩),.int .i64 z1,.int .i64 5] W (qW W (xr l pr z1 (5))) from fun W hb=>HK1.out W hb _);have t0:=hs0.out (5);have t1:=hs1.out (5);generalize xr l pr z0 (5)=p0 at *;generalize xr l pr z1 (5)=p1 at *;go_wp2_with fail;have hS:=fun W (h:Cl V2.drew W)=>HS.out W (zd hb2.out (zd bR.drew h.below))
  have hb2d:=zj (zd hb2.out (Below.refl V2.heap.size V2).drew);refine zo [(0,0),(1,0),(2,1),(3,0),(4,1),(5,0),(8,0),(11,0),(12,0),(13,1),(14,0),(15,1),(16,0),(6,2),(7,0),(9,0),(10,0),(17,2),(18,0),(19,0)] (by kernel_rfl) (by kernel_rfl) ?_
  iterate 13 ((first|refine zl rfl (by rfl) (by decide) ?_|(apply zk rfl (by rfl);· (intro w';go_simp;first|done|with_reducible rfl|(rw[if_neg (by first|omega|(simp;omega))];try with_reducible rfl)))|(apply zt hS rfl (by rfl);· (intro w' hw';go_split_ands;go_simp;try with_reducible rfl))|fail);simp only[Act.put,zD,lsZ,lsS])
  clear hS;refine zq rfl (by rfl) (fun K hK V hV=>?_);have hbV:=zd hb2d.out hV.below;go_simp;refine (HA0.out V (zd hA hbV)).mono ?_;rintro e w3 ⟨b3,rfl,hq3,f3⟩;have zz_3:=zQ hq3;replace hq3:=zj hq3;have hb3:=zj (zd hbV f3);go_simp;refine⟨zV.2 f3,hK _ _ ?_⟩;clear hK K hbV hV
  try simp only[Act.put,zD,lsZ,lsS]
  iterate 3 ((first|refine zl rfl (by rfl) (by decide) ?_|(apply zk rfl (by rfl);· (intro w';go_simp;first|done|with_reducible rfl|(rw[if_neg (by first|omega|(simp;omega))];try with_reducible rfl)))|fail);simp only[Act.put,zD,lsZ,lsS])
  refine zq rfl (by rfl) (fun K hK V hV=>?_);have hbV:=zd hb3.out hV.below;go_simp;refine (HA1.out V (zd hA hbV)).mono ?_;rintro e w4 ⟨b4,rfl,hq4,f4⟩;have zz_4:=zQ hq4;replace hq4:=zj hq4;have hb4:=zj (zd hbV f4);go_simp;refine⟨zV.2 f4,hK _ _ ?_⟩;clear hK K hbV hV
  try simp only[Act.put,zD,lsZ,lsS]
  iterate 2 ((first|refine zl rfl (by rfl) (by decide) ?_|(apply zk rfl (by rfl);· (intro w';go_simp;first|done|with_reducible rfl|(rw[if_neg (by first|omega|(simp;omega))];try with_reducible rfl)))|fail);simp only[Act.put,zD,lsZ,lsS])
  refine zu fun W hW=>?_
  have hbW:=zj (zd hb4.out hW.below);clear hW;go_wp2_with fail;go_ret;refine⟨_,rfl,?_,zd hA hbW.out⟩;rw[←h];simp[zx,hq3.out,hq4.out]
 ·have hr4':((rk:Int) == 4)=false:=bfE (by omega)
  have h:=HR.out;rw[if_neg hr4] at h;have HA0:=zj (show ∀W,Below w.heap.size w W→Calls prog 159 #[.pointer (some ⟨P,0,none⟩),.int .i64 z0,.int .i64 rk] W (qW W (xr l pr z0 rk)) from fun W hb=>HK0.out W hb _);have HA1:=zj (show ∀W,Below w.heap.size w W→Calls prog 159 #[.pointer (some ⟨P,0,none⟩),.int .i64 z1,.int .i64 ((rk:Int)+1)] W (qW W (xr l pr z1 (rk+1))) from fun W hb=>by have h9:=HK1.out W hb (rk+1);rw[Int.natCast_add] at h9;exact h9);have t0:=hs0.out (rk);have t1:=hs1.out (rk+1);generalize xr l pr z0 (rk)=p0 at *;generalize xr l pr z1 (rk+1)=p1 at *;go_wp2_with fail;have hS:=fun W (h:Cl V2.drew W)=>HS.out W (zd hb2.out (zd bR.drew h.below))
  have hb2d:=zj (zd hb2.out (Below.refl V2.heap.size V2).drew);refine zo [(0,0),(1,0),(2,1),(3,0),(4,1),(5,0),(8,0),(11,0),(12,0),(13,1),(14,0),(15,1),(16,0),(6,2),(7,0),(9,0),(10,0),(17,2),(18,0),(19,0)] (by kernel_rfl) (by kernel_rfl) ?_
  iterate 13 ((first|refine zl rfl (by rfl) (by decide) ?_|(apply zk rfl (by rfl);· (intro w';go_simp;first|done|with_reducible rfl|(rw[if_neg (by first|omega|(simp;omega))];try with_reducible rfl)))|(apply zt hS rfl (by rfl);· (intro w' hw';go_split_ands;go_simp;try with_reducible rfl))|fail);simp only[Act.put,zD,lsZ,lsS])
  clear hS;refine zq rfl (by rfl) (fun K hK V hV=>?_);have hbV:=zd hb2d.out hV.below;go_simp;refine (HA0.out V (zd hA hbV)).mono ?_;rintro e w3 ⟨b3,rfl,hq3,f3⟩;have zz_3:=zQ hq3;replace hq3:=zj hq3;have hb3:=zj (zd hbV f3);go_simp;refine⟨zV.2 f3,hK _ _ ?_⟩;clear hK K hbV hV
  try simp only[Act.put,zD,lsZ,lsS]
  iterate 3 ((first|refine zl rfl (by rfl) (by decide) ?_|(apply zk rfl (by rfl);· (intro w';go_simp;first|done|with_reducible rfl|(rw[if_neg (by first|omega|(simp;omega))];try with_reducible rfl)))|fail);simp only[Act.put,zD,lsZ,lsS])
  refine zq rfl (by rfl) (fun K hK V hV=>?_);have hbV:=zd hb3.out hV.below;go_simp;refine (HA1.out V (zd hA hbV)).mono ?_;rintro e w4 ⟨b4,rfl,hq4,f4⟩;have zz_4:=zQ hq4;replace hq4:=zj hq4;have hb4:=zj (zd hbV f4);go_simp;refine⟨zV.2 f4,hK _ _ ?_⟩;clear hK K hbV hV
  try simp only[Act.put,zD,lsZ,lsS]
  iterate 2 ((first|refine zl rfl (by rfl) (by decide) ?_|(apply zk rfl (by rfl);· (intro w';go_simp;first|done|with_reducible rfl|(rw[if_neg (by first|omega|(simp;omega))];try with_reducible rfl)))|fail);simp only[Act.put,zD,lsZ,lsS])
  refine zu fun W hW=>?_
  have hbW:=zj (zd hb4.out hW.below);clear hW;go_wp2_with fail;go_ret;refine⟨_,rfl,?_,zd hA hbW.out⟩;rw[←h];simp[zx,hq3.out,hq4.out]
end
section
variable {P:Nat} {nv iv:Value} {l:List Nd} {kv:List Value} {pr:Int→List UInt8} {n:Nat}
theorem Ki(H:yt P nv iv l kv pr n)(i:Nat)(K:Nat)(t:List UInt8)(k a:Int)(z0:Nat)(l0:z0<n)(w:World)(hC:jG w P nv iv l kv)(hx:l[i]? =some ⟨K,t,k,[(z0:Int)],a⟩)(ht:t.length≤3000)(hsg:yC K=none)(hn:NkN K)(x0:List UInt8)(x1:Nat)(x2:Int)(hfd:(z8.find? fun w=>w.2.1 == K)=some (x0,x1,x2))(hx2:x2<0)(hx0:x0.length≤20):Calls prog 108 #[.pointer (some ⟨P,0,none⟩),.int .i64 i] w (qW w (zF l pr ⟨K,t,k,[(z0:Int)],a⟩)):=by
 obtain⟨R,hR⟩:=exE (zF l pr ⟨K,t,k,[(z0:Int)],a⟩);rw[hR];obtain⟨s,r,nc,gN,oN,uc,up,rfl,hx255,⟨hil,hi0⟩,⟨hu,hcap⟩,⟨a0,a1,a2,a3,a4,cP⟩,h3,wA,hwA,hA,HS⟩:=xA H hC hx (m:=1) rfl (KI:=(K:Int)) rfl (lk:= #[.string ⟨#[]⟩,.bool false]) (fun _=>by rw[hsg];rfl);have HW:=zj (show ∀W,Calls prog 166 #[.int .u8 K] W (qe W (.tuple #[.agg #[.string ⟨x0.toArray⟩,.int .u8 x1,.int .i64 x2],.bool true])) from fun W=>by have h9:=xS K W;unfold ue at h9;rw[hfd] at h9;exact h9);have HK:=zj (fun W (hb:Below w.heap.size w W)=>ur H z0 7 W (hC.below hb) l0);obtain⟨g,off,rfl,_,d0⟩:=hu.at (j:=0) (by first|omega|simp);replace HS:=zj (fun W (hb:Below wA.heap.size wA W)=>And.intro (HS W hb) (show W.cell? ⟨g,off,none⟩=some (.int .i64 z0) from zh (zd hA hb) d0));have hb0:=zj (show Below wA.heap.size wA wA.drew from bR.drew);obtain⟨n1,n67,n2,n68,n3,n69,n4,n5,n66,n84,n6,n7,n23,n24,n25,n70,n89,n28⟩:=zc7 hn;unfold zF at hR;rw[hsg] at hR;simp[Qd hn,hfd,zI] at hR;simp[hx2] at hR;have s0:(xr l pr z0 7).length≤3200002:=by have:=yU l pr z0 7;have:=H.len z0 l0;omega
 generalize xr l pr z0 7=ps0 at *;clear hn hfd hsg;have HR:=zj hR;have HwA:=zj hwA;clear hwA hR hC hx hu h3 H;go_enter func108,ntmps108;go_wp2_with fail;rw[HwA.out];clear a0 a1 a2 a3 a4 cP;have hS:=fun W (h:Cl wA.drew W)=>HS.out W (zd hb0.out h.below)
 refine zo [(0,0),(1,0),(2,0),(3,1),(4,0),(5,1),(6,1),(7,0),(8,0),(9,0),(10,0),(11,0)] (by kernel_rfl) (by kernel_rfl) ?_
 iterate 12 ((first|refine zl rfl (by rfl) (by decide) ?_|(apply zk rfl (by rfl);· (intro w';go_simp;first|done|with_reducible rfl|(rw[if_neg (by first|omega|(simp;omega))];try with_reducible rfl)))|(apply zt hS rfl (by rfl);· (intro w' hw';go_split_ands;go_simp;try with_reducible rfl))|fail);simp only[Act.put,zD,lsZ,lsS])
 clear hS;refine zu fun V1 hV1=>?_
 have hb1:=zj (zd hb0.out hV1.below);clear hV1;obtain⟨⟨c0,c1,c2,c3,c4,cP,cS,cR,cL⟩,xk0⟩:=HS.out V1 hb1.out;go_wp2_with fail;refine (HW.out V1).mono ?_;rintro e w2 ⟨rfl,f2⟩;have hwb:=zm w2 (.cells #[.string ⟨x0.toArray⟩,.int .u8 x1,.int .i64 x2] 180 (0,0));have hb3:=zj (zd (zd hb1.out f2) (zg w2 (.cells #[.string ⟨x0.toArray⟩,.int .u8 x1,.int .i64 x2] 180 (0,0))));have v0:=zf hwb 0;have v2:=zf hwb 2;have Hwb:=zj hwb;clear hwb;clear c0 c1 c2 c3 c4 cP cS cR cL xk0;clear n1 n67 n2 n68 n3 n69 n4 n5 n66 n84 n6 n7 n23 n24 n25 n70 n89 n28;have hx2a:decide (x2<0)=true:=decide_eq_true hx2;go_wp2_with fail;generalize hw3:w2.alloc (.cells #[.string ⟨x0.toArray⟩,.int .u8 x1,.int .i64 x2] 180 (0,0))=w3 at *;have hS:=fun W (h:Cl w3.drew W)=>And.intro (zh (zd bR.drew h.below) v0) (HS.out W (zd hb3.out (zd bR.drew h.below)))
 have hb3d:=zj (zd hb3.out (Below.refl w3.heap.size w3).drew);clear v0 v2;refine zo [(0,0),(1,1),(2,0),(3,0),(4,0),(5,1),(6,0),(7,1),(8,2),(9,0),(10,0)] (by kernel_rfl) (by kernel_rfl) ?_
 iterate 8 ((first|refine zl rfl (by rfl) (by decide) ?_|(apply zk rfl (by rfl);· (intro w';go_simp;first|done|with_reducible rfl|(rw[if_neg (by first|omega|(simp;omega))];try with_reducible rfl)))|(apply zt hS rfl (by rfl);· (intro w' hw';go_split_ands;go_simp;try with_reducible rfl))|fail);simp only[Act.put,zD,lsZ,lsS])
 clear hS;refine zq rfl (by rfl) (fun K hK V hV=>?_);have hbV:=zd hb3d.out hV.below;go_simp;refine (HK.out V (zd hA hbV)).mono ?_;rintro e w4 ⟨b4,rfl,hq4,f4⟩;have zz_4:=zQ hq4;replace hq4:=zj hq4;have hb4:=zj (zd hbV f4);go_simp;refine⟨zV.2 f4,hK _ _ ?_⟩;clear hK K hbV hV
 try simp only[Act.put,zD,lsZ,lsS]
 iterate 2 ((first|refine zl rfl (by rfl) (by decide) ?_|(apply zk rfl (by rfl);· (intro w';go_simp;first|done|with_reducible rfl|(rw[if_neg (by first|omega|(simp;omega))];try with_reducible rfl)))|fail);simp only[Act.put,zD,lsZ,lsS])
 refine zu fun W hW=>?_
 have hbW:=zj (zd hb4.out hW.below);clear hW;go_wp2_with fail;go_ret;refine⟨_,rfl,?_,zd hA hbW.out⟩;rw[←HR.out];simp[zx,hq4.out]
theorem Kh(H:yt P nv iv l kv pr n)(i:Nat)(K:Nat)(t:List UInt8)(k a:Int)(ks:List Int)(w:World)(hC:jG w P nv iv l kv)(hx:l[i]? =some ⟨K,t,k,ks,a⟩)(ht:t.length≤3000)(hsg:yC K=none)(hn:NkN K)(x0:List UInt8)(x1:Nat)(x2:Int)(hfd:(z8.find? fun w=>w.2.1 == K)=some (x0,x1,x2))(hx2:x2=0)(hx0:x0.length≤20):Calls prog 108 #[.pointer (some ⟨P,0,none⟩),.int .i64 i] w (qW w (zF l pr ⟨K,t,k,ks,a⟩)):=by
 obtain⟨R,hR⟩:=exE (zF l pr ⟨K,t,k,ks,a⟩);rw[hR];obtain⟨s,r,nc,gN,oN,uc,up,rfl,hx255,⟨hil,hi0⟩,⟨hu,hcap⟩,⟨a0,a1,a2,a3,a4,cP⟩,h3,wA,hwA,hA,HS⟩:=xA H hC hx (m:=ks.length) rfl (KI:=(K:Int)) rfl (lk:= #[.string ⟨#[]⟩,.bool false]) (fun _=>by rw[hsg];rfl);have HW:=zj (show ∀W,Calls prog 166 #[.int .u8 K] W (qe W (.tuple #[.agg #[.string ⟨x0.toArray⟩,.int .u8 x1,.int .i64 x2],.bool true])) from fun W=>by have h9:=xS K W;unfold ue at h9;rw[hfd] at h9;exact h9);replace HS:=zj HS;have hb0:=zj (show Below wA.heap.size wA wA.drew from bR.drew);obtain⟨n1,n67,n2,n68,n3,n69,n4,n5,n66,n84,n6,n7,n23,n24,n25,n70,n89,n28⟩:=zc7 hn;unfold zF at hR;rw[hsg] at hR;simp[Qd hn,hfd,zI] at hR;simp[hx2] at hR;clear hn hfd hsg;have HR:=zj hR;have HwA:=zj hwA;clear hwA hR hC hx hu h3 H;go_enter func108,ntmps108;go_wp2_with fail;rw[HwA.out];clear a0 a1 a2 a3 a4 cP;have hS:=fun W (h:Cl wA.drew W)=>HS.out W (zd hb0.out h.below)
 refine zo [(0,0),(1,0),(2,0),(3,1),(4,0),(5,1),(6,1),(7,0),(8,0),(9,0),(10,0),(11,0)] (by kernel_rfl) (by kernel_rfl) ?_
 iterate 12 ((first|refine zl rfl (by rfl) (by decide) ?_|(apply zk rfl (by rfl);· (intro w';go_simp;first|done|with_reducible rfl|(rw[if_neg (by first|omega|(simp;omega))];try with_reducible rfl)))|(apply zt hS rfl (by rfl);· (intro w' hw';go_split_ands;go_simp;try with_reducible rfl))|fail);simp only[Act.put,zD,lsZ,lsS])
 clear hS;refine zu fun V1 hV1=>?_
 have hb1:=zj (zd hb0.out hV1.below);clear hV1;obtain⟨c0,c1,c2,c3,c4,cP,cS,cR,cL⟩:=HS.out V1 hb1.out;go_wp2_with fail;refine (HW.out V1).mono ?_;rintro e w2 ⟨rfl,f2⟩;have hwb:=zm w2 (.cells #[.string ⟨x0.toArray⟩,.int .u8 x1,.int .i64 x2] 180 (0,0));have hb3:=zj (zd (zd hb1.out f2) (zg w2 (.cells #[.string ⟨x0.toArray⟩,.int .u8 x1,.int .i64 x2] 180 (0,0))));have v0:=zf hwb 0;have v2:=zf hwb 2;have Hwb:=zj hwb;clear hwb;clear c0 c1 c2 c3 c4 cP cS cR cL;clear n1 n67 n2 n68 n3 n69 n4 n5 n66 n84 n6 n7 n23 n24 n25 n70 n89 n28;subst hx2;go_wp2_with fail;go_ret;exact⟨_,rfl,HR.out,zd hA hb3.out⟩
theorem vf(H:yt P nv iv l kv pr n)(i:Nat)(K:Nat)(t:List UInt8)(k a:Int)(ks:List Int)(w:World)(hC:jG w P nv iv l kv)(hx:l[i]? =some ⟨K,t,k,ks,a⟩)(ht:t.length≤3000)(hsg:yC K=none)(hn:NkN K)(x0:List UInt8)(x1:Nat)(x2:Int)(hfd:(z8.find? fun w=>w.2.1 == K)=some (x0,x1,x2))(hx2:0<x2)(hx0:x0.length≤20)(hks:∀k∈ks,0≤k∧k<(n:Int))(hkl:ks.length≤100000):Calls prog 108 #[.pointer (some ⟨P,0,none⟩),.int .i64 i] w (qW w (zF l pr ⟨K,t,k,ks,a⟩)):=by
 obtain⟨R,hR⟩:=exE (zF l pr ⟨K,t,k,ks,a⟩);rw[hR];obtain⟨s,r,nc,gN,oN,uc,up,rfl,hx255,⟨hil,hi0⟩,⟨hu,hcap⟩,⟨a0,a1,a2,a3,a4,cP⟩,h3,wA,hwA,hA,HS⟩:=xA H hC hx (m:=ks.length) rfl (KI:=(K:Int)) rfl (lk:= #[.string ⟨#[]⟩,.bool false]) (fun _=>by rw[hsg];rfl);have HW:=zj (show ∀W,Calls prog 166 #[.int .u8 K] W (qe W (.tuple #[.agg #[.string ⟨x0.toArray⟩,.int .u8 x1,.int .i64 x2],.bool true])) from fun W=>by have h9:=xS K W;unfold ue at h9;rw[hfd] at h9;exact h9);have HL:=zj (fun W (hb:Below w.heap.size w W)=>jw H (.slice up ks.length uc) ks W (hC.below hb) (hu.below hb) hks hkl);have sL:=y8 H hks hkl;replace HS:=zj HS;have hb0:=zj (show Below wA.heap.size wA wA.drew from bR.drew);obtain⟨n1,n67,n2,n68,n3,n69,n4,n5,n66,n84,n6,n7,n23,n24,n25,n70,n89,n28⟩:=zc7 hn;unfold zF at hR;rw[hsg] at hR;simp[Qd hn,hfd,zI] at hR;rw[if_neg (by omega),if_neg (by omega)] at hR;generalize qc pr ks=pL at *;clear hks;clear hn hfd hsg;have HR:=zj hR;have HwA:=zj hwA;clear hwA hR hC hx hu h3 H;go_enter func108,ntmps108;go_wp2_with fail;rw[HwA.out];clear a0 a1 a2 a3 a4 cP;have hS:=fun W (h:Cl wA.drew W)=>HS.out W (zd hb0.out h.below)
 refine zo [(0,0),(1,0),(2,0),(3,1),(4,0),(5,1),(6,1),(7,0),(8,0),(9,0),(10,0),(11,0)] (by kernel_rfl) (by kernel_rfl) ?_
 iterate 12 ((first|refine zl rfl (by rfl) (by decide) ?_|(apply zk rfl (by rfl);· (intro w';go_simp;first|done|with_reducible rfl|(rw[if_neg (by first|omega|(simp;omega))];try with_reducible rfl)))|(apply zt hS rfl (by rfl);· (intro w' hw';go_split_ands;go_simp;try with_reducible rfl))|fail);simp only[Act.put,zD,lsZ,lsS])
 clear hS;refine zu fun V1 hV1=>?_
 have hb1:=zj (zd hb0.out hV1.below);clear hV1;obtain⟨c0,c1,c2,c3,c4,cP,cS,cR,cL⟩:=HS.out V1 hb1.out;go_wp2_with fail;refine (HW.out V1).mono ?_;rintro e w2 ⟨rfl,f2⟩;have hwb:=zm w2 (.cells #[.string ⟨x0.toArray⟩,.int .u8 x1,.int .i64 x2] 180 (0,0));have hb3:=zj (zd (zd hb1.out f2) (zg w2 (.cells #[.string ⟨x0.toArray⟩,.int .u8 x1,.int .i64 x2] 180 (0,0))));have v0:=zf hwb 0;have v2:=zf hwb 2;have Hwb:=zj hwb;clear hwb;clear c0 c1 c2 c3 c4 cP cS cR cL;clear n1 n67 n2 n68 n3 n69 n4 n5 n66 n84 n6 n7 n23 n24 n25 n70 n89 n28;have hx2a:decide (x2<0)=false:=decide_eq_false (by omega);have hx2b:¬(x2<0):=by omega
 have hx2c:(x2 == 0)=false:=bfE (by omega)
 go_wp2_with fail;generalize hw3:w2.alloc (.cells #[.string ⟨x0.toArray⟩,.int .u8 x1,.int .i64 x2] 180 (0,0))=w3 at *;have hS:=fun W (h:Cl w3.drew W)=>And.intro (zh (zd bR.drew h.below) v0) (HS.out W (zd hb3.out (zd bR.drew h.below)))
 have hb3d:=zj (zd hb3.out (Below.refl w3.heap.size w3).drew);clear v0 v2;refine zo [(0,0),(1,1),(2,0),(3,0),(4,0),(5,1),(6,2),(7,0),(8,0),(9,0)] (by kernel_rfl) (by kernel_rfl) ?_
 iterate 6 ((first|refine zl rfl (by rfl) (by decide) ?_|(apply zk rfl (by rfl);· (intro w';go_simp;first|done|with_reducible rfl|(rw[if_neg (by first|omega|(simp;omega))];try with_reducible rfl)))|(apply zt hS rfl (by rfl);· (intro w' hw';go_split_ands;go_simp;try with_reducible rfl))|fail);simp only[Act.put,zD,lsZ,lsS])
 clear hS;refine zq rfl (by rfl) (fun K hK V hV=>?_);have hbV:=zd hb3d.out hV.below;go_simp;refine (HL.out V (zd hA hbV)).mono ?_;rintro e w4 ⟨b4,rfl,hq4,f4⟩;have zz_4:=zQ hq4;replace hq4:=zj hq4;have hb4:=zj (zd hbV f4);go_simp;refine⟨zV.2 f4,hK _ _ ?_⟩;clear hK K hbV hV
 try simp only[Act.put,zD,lsZ,lsS]
 iterate 3 ((first|refine zl rfl (by rfl) (by decide) ?_|(apply zk rfl (by rfl);· (intro w';go_simp;first|done|with_reducible rfl|(rw[if_neg (by first|omega|(simp;omega))];try with_reducible rfl)))|fail);simp only[Act.put,zD,lsZ,lsS])
 refine zu fun W hW=>?_
 have hbW:=zj (zd hb4.out hW.below);clear hW;go_wp2_with fail;go_ret;refine⟨_,rfl,?_,zd hA hbW.out⟩;rw[←HR.out];simp[zx,hq4.out]
theorem YS(H:yt P nv iv l kv pr n)(i:Nat)(K:Nat)(t:List UInt8)(k a:Int)(ks:List Int)(w:World)(hC:jG w P nv iv l kv)(hx:l[i]? =some ⟨K,t,k,ks,a⟩)(ht:t.length≤3000)(hsg:yC K=none)(hn:NkN K)(hfd:(z8.find? fun w=>w.2.1 == K)=none)(hK:60≤K∧K≤65)(hst:∀(u:Value) (W:World),jG W P nv iv l kv→KS W u ks→Calls prog 167 #[.pointer (some ⟨P,0,none⟩),.agg #[.int .u8 K,.string ⟨t.toArray⟩,.int .i64 k,u,.int .i64 a]] W (qW W (xq pr ⟨K,t,k,ks,a⟩))):Calls prog 108 #[.pointer (some ⟨P,0,none⟩),.int .i64 i] w (qW w (zF l pr ⟨K,t,k,ks,a⟩)):=by
 obtain⟨R,hR⟩:=exE (zF l pr ⟨K,t,k,ks,a⟩);rw[hR];obtain⟨s,r,nc,gN,oN,uc,up,rfl,hx255,⟨hil,hi0⟩,⟨hu,hcap⟩,⟨a0,a1,a2,a3,a4,cP⟩,h3,wA,hwA,hA,HS⟩:=xA H hC hx (m:=ks.length) rfl (KI:=(K:Int)) rfl (lk:= #[.string ⟨#[]⟩,.bool false]) (fun _=>by rw[hsg];rfl);have HW:=zj (show ∀W,Calls prog 166 #[.int .u8 K] W (qe W (.tuple #[.agg #[.string ⟨#[]⟩,.int .u8 0,.int .i64 0],.bool false])) from fun W=>by have h9:=xS K W;unfold ue at h9;rw[hfd] at h9;exact h9);have HST:=zj (fun W (hb:Below w.heap.size w W)=>hst (.slice up ks.length uc) W (hC.below hb) (hu.below hb));replace HS:=zj HS;have hb0:=zj (show Below wA.heap.size wA wA.drew from bR.drew);obtain⟨n1,n67,n2,n68,n3,n69,n4,n5,n66,n84,n6,n7,n23,n24,n25,n70,n89,n28⟩:=zc7 hn;unfold zF at hR;rw[hsg] at hR;simp[Qd hn,hfd,zI] at hR;rw[if_pos hK] at hR;have HB:=zj (fun W=>xC K 60 65 W);clear hn hfd hsg hst;have HR:=zj hR;have HwA:=zj hwA;clear hwA hR hC hx hu h3 H;go_enter func108,ntmps108;go_wp2_with fail;rw[HwA.out];clear a0 a1 a2 a3 a4 cP;have hS:=fun W (h:Cl wA.drew W)=>HS.out W (zd hb0.out h.below)
 refine zo [(0,0),(1,0),(2,0),(3,1),(4,0),(5,1),(6,1),(7,0),(8,0),(9,0),(10,0),(11,0)] (by kernel_rfl) (by kernel_rfl) ?_
 iterate 12 ((first|refine zl rfl (by rfl) (by decide) ?_|(apply zk rfl (by rfl);· (intro w';go_simp;first|done|with_reducible rfl|(rw[if_neg (by first|omega|(simp;omega))];try with_reducible rfl)))|(apply zt hS rfl (by rfl);· (intro w' hw';go_split_ands;go_simp;try with_reducible rfl))|fail);simp only[Act.put,zD,lsZ,lsS])
 clear hS;refine zu fun V1 hV1=>?_
 have hb1:=zj (zd hb0.out hV1.below);clear hV1;obtain⟨c0,c1,c2,c3,c4,cP,cS,cR,cL⟩:=HS.out V1 hb1.out;go_wp2_with fail;refine (HW.out V1).mono ?_;rintro e w2 ⟨rfl,f2⟩;have hwb:=zm w2 (.cells #[.string ⟨#[]⟩,.int .u8 0,.int .i64 0] 180 (0,0));have hb3:=zj (zd (zd hb1.out f2) (zg w2 (.cells #[.string ⟨#[]⟩,.int .u8 0,.int .i64 0] 180 (0,0))));have v0:=zf hwb 0;have v2:=zf hwb 2;have Hwb:=zj hwb;clear hwb;clear c0 c1 c2 c3 c4 cP cS cR cL;clear n1 n67 n2 n68 n3 n69 n4 n5 n66 n84 n6 n7 n23 n24 n25 n70 n89 n28;obtain⟨c0,c1,c2,c3,c4,cP,cS,cR,cL⟩:=HS.out _ hb3.out;go_wp2_with fail;refine (HB.out _).mono ?_;rintro e w4 ⟨rfl,f4⟩;have hb4:=zj (zd hb3.out f4);clear c0 c1 c2 c3 c4 cP cS cR cL v0 v2;obtain⟨c0,c1,c2,c3,c4,cP,cS,cR,cL⟩:=HS.out w4 hb4.out;have hbt:(decide (60≤K) && decide (K≤65))=true:=by simp[hK.1,hK.2]
 rw[hbt];clear hbt;go_wp2_with fail;refine (HST.out w4 (zd hA hb4.out)).mono ?_;rintro e w5 ⟨b5,rfl,hq5,f5⟩;replace hq5:=zj hq5;go_wp2_with fail;go_ret;exact⟨_,rfl,hq5.out.trans HR.out,zd hA (zd hb4.out f5)⟩
theorem jO(H:yt P nv iv l kv pr n)(i:Nat)(K:Nat)(t:List UInt8)(k a:Int)(ks:List Int)(w:World)(hC:jG w P nv iv l kv)(hx:l[i]? =some ⟨K,t,k,ks,a⟩)(ht:t.length≤3000)(hsg:yC K=none)(hn:NkN K)(hfd:(z8.find? fun w=>w.2.1 == K)=none)(hK:80≤K)(hst:∀(u:Value) (W:World),jG W P nv iv l kv→KS W u ks→Calls prog 168 #[.pointer (some ⟨P,0,none⟩),.agg #[.int .u8 K,.string ⟨t.toArray⟩,.int .i64 k,u,.int .i64 a]] W (qW W (yo pr ⟨K,t,k,ks,a⟩))):Calls prog 108 #[.pointer (some ⟨P,0,none⟩),.int .i64 i] w (qW w (zF l pr ⟨K,t,k,ks,a⟩)):=by
 obtain⟨R,hR⟩:=exE (zF l pr ⟨K,t,k,ks,a⟩);rw[hR];obtain⟨s,r,nc,gN,oN,uc,up,rfl,hx255,⟨hil,hi0⟩,⟨hu,hcap⟩,⟨a0,a1,a2,a3,a4,cP⟩,h3,wA,hwA,hA,HS⟩:=xA H hC hx (m:=ks.length) rfl (KI:=(K:Int)) rfl (lk:= #[.string ⟨#[]⟩,.bool false]) (fun _=>by rw[hsg];rfl);have HW:=zj (show ∀W,Calls prog 166 #[.int .u8 K] W (qe W (.tuple #[.agg #[.string ⟨#[]⟩,.int .u8 0,.int .i64 0],.bool false])) from fun W=>by have h9:=xS K W;unfold ue at h9;rw[hfd] at h9;exact h9);have HST:=zj (fun W (hb:Below w.heap.size w W)=>hst (.slice up ks.length uc) W (hC.below hb) (hu.below hb));replace HS:=zj HS;have hb0:=zj (show Below wA.heap.size wA wA.drew from bR.drew);obtain⟨n1,n67,n2,n68,n3,n69,n4,n5,n66,n84,n6,n7,n23,n24,n25,n70,n89,n28⟩:=zc7 hn;unfold zF at hR;rw[hsg] at hR;simp[Qd hn,hfd,zI] at hR;rw[if_neg (by omega),if_pos hK] at hR;have HB:=zj (fun W=>xC K 60 65 W);clear hn hfd hsg hst;have HR:=zj hR;have HwA:=zj hwA;clear hwA hR hC hx hu h3 H;go_enter func108,ntmps108;go_wp2_with fail;rw[HwA.out];clear a0 a1 a2 a3 a4 cP;have hS:=fun W (h:Cl wA.drew W)=>HS.out W (zd hb0.out h.below)
 refine zo [(0,0),(1,0),(2,0),(3,1),(4,0),(5,1),(6,1),(7,0),(8,0),(9,0),(10,0),(11,0)] (by kernel_rfl) (by kernel_rfl) ?_
 iterate 12 ((first|refine zl rfl (by rfl) (by decide) ?_|(apply zk rfl (by rfl);· (intro w';go_simp;first|done|with_reducible rfl|(rw[if_neg (by first|omega|(simp;omega))];try with_reducible rfl)))|(apply zt hS rfl (by rfl);· (intro w' hw';go_split_ands;go_simp;try with_reducible rfl))|fail);simp only[Act.put,zD,lsZ,lsS])
 clear hS;refine zu fun V1 hV1=>?_
 have hb1:=zj (zd hb0.out hV1.below);clear hV1;obtain⟨c0,c1,c2,c3,c4,cP,cS,cR,cL⟩:=HS.out V1 hb1.out;go_wp2_with fail;refine (HW.out V1).mono ?_;rintro e w2 ⟨rfl,f2⟩;have hwb:=zm w2 (.cells #[.string ⟨#[]⟩,.int .u8 0,.int .i64 0] 180 (0,0));have hb3:=zj (zd (zd hb1.out f2) (zg w2 (.cells #[.string ⟨#[]⟩,.int .u8 0,.int .i64 0] 180 (0,0))));have v0:=zf hwb 0;have v2:=zf hwb 2;have Hwb:=zj hwb;clear hwb;clear c0 c1 c2 c3 c4 cP cS cR cL;clear n1 n67 n2 n68 n3 n69 n4 n5 n66 n84 n6 n7 n23 n24 n25 n70 n89 n28;obtain⟨c0,c1,c2,c3,c4,cP,cS,cR,cL⟩:=HS.out _ hb3.out;go_wp2_with fail;refine (HB.out _).mono ?_;rintro e w4 ⟨rfl,f4⟩;have hb4:=zj (zd hb3.out f4);clear c0 c1 c2 c3 c4 cP cS cR cL v0 v2;obtain⟨c0,c1,c2,c3,c4,cP,cS,cR,cL⟩:=HS.out w4 hb4.out;have hbt:(decide (60≤K) && decide (K≤65))=false:=by simp;omega
 have hK8:(80:Int)≤(K:Int):=by omega
 rw[hbt];clear hbt;go_wp2_with fail;refine (HST.out w4 (zd hA hb4.out)).mono ?_;rintro e w5 ⟨b5,rfl,hq5,f5⟩;replace hq5:=zj hq5;go_wp2_with fail;go_ret;exact⟨_,rfl,hq5.out.trans HR.out,zd hA (zd hb4.out f5)⟩
theorem kB(H:yt P nv iv l kv pr n)(i:Nat)(K:Nat)(t:List UInt8)(k a:Int)(ks:List Int)(w:World)(hC:jG w P nv iv l kv)(hx:l[i]? =some ⟨K,t,k,ks,a⟩)(ht:t.length≤3000)(hsg:yC K=none)(hn:NkN K)(hfd:(z8.find? fun w=>w.2.1 == K)=none)(hK:K<60)(hst:∀(u:Value) (W:World),jG W P nv iv l kv→KS W u ks→Calls prog 169 #[.pointer (some ⟨P,0,none⟩),.agg #[.int .u8 K,.string ⟨t.toArray⟩,.int .i64 k,u,.int .i64 a]] W (qW W (zG pr ⟨K,t,k,ks,a⟩))):Calls prog 108 #[.pointer (some ⟨P,0,none⟩),.int .i64 i] w (qW w (zF l pr ⟨K,t,k,ks,a⟩)):=by
 obtain⟨R,hR⟩:=exE (zF l pr ⟨K,t,k,ks,a⟩);rw[hR];obtain⟨s,r,nc,gN,oN,uc,up,rfl,hx255,⟨hil,hi0⟩,⟨hu,hcap⟩,⟨a0,a1,a2,a3,a4,cP⟩,h3,wA,hwA,hA,HS⟩:=xA H hC hx (m:=ks.length) rfl (KI:=(K:Int)) rfl (lk:= #[.string ⟨#[]⟩,.bool false]) (fun _=>by rw[hsg];rfl);have HW:=zj (show ∀W,Calls prog 166 #[.int .u8 K] W (qe W (.tuple #[.agg #[.string ⟨#[]⟩,.int .u8 0,.int .i64 0],.bool false])) from fun W=>by have h9:=xS K W;unfold ue at h9;rw[hfd] at h9;exact h9);have HST:=zj (fun W (hb:Below w.heap.size w W)=>hst (.slice up ks.length uc) W (hC.below hb) (hu.below hb));replace HS:=zj HS;have hb0:=zj (show Below wA.heap.size wA wA.drew from bR.drew);obtain⟨n1,n67,n2,n68,n3,n69,n4,n5,n66,n84,n6,n7,n23,n24,n25,n70,n89,n28⟩:=zc7 hn;unfold zF at hR;rw[hsg] at hR;simp[Qd hn,hfd,zI] at hR;rw[if_neg (by omega),if_neg (by omega)] at hR;have HB:=zj (fun W=>xC K 60 65 W);clear hn hfd hsg hst;have HR:=zj hR;have HwA:=zj hwA;clear hwA hR hC hx hu h3 H;go_enter func108,ntmps108;go_wp2_with fail;rw[HwA.out];clear a0 a1 a2 a3 a4 cP;have hS:=fun W (h:Cl wA.drew W)=>HS.out W (zd hb0.out h.below)
 refine zo [(0,0),(1,0),(2,0),(3,1),(4,0),(5,1),(6,1),(7,0),(8,0),(9,0),(10,0),(11,0)] (by kernel_rfl) (by kernel_rfl) ?_
 iterate 12 ((first|refine zl rfl (by rfl) (by decide) ?_|(apply zk rfl (by rfl);· (intro w';go_simp;first|done|with_reducible rfl|(rw[if_neg (by first|omega|(simp;omega))];try with_reducible rfl)))|(apply zt hS rfl (by rfl);· (intro w' hw';go_split_ands;go_simp;try with_reducible rfl))|fail);simp only[Act.put,zD,lsZ,lsS])
 clear hS;refine zu fun V1 hV1=>?_
 have hb1:=zj (zd hb0.out hV1.below);clear hV1;obtain⟨c0,c1,c2,c3,c4,cP,cS,cR,cL⟩:=HS.out V1 hb1.out;go_wp2_with fail;refine (HW.out V1).mono ?_;rintro e w2 ⟨rfl,f2⟩;have hwb:=zm w2 (.cells #[.string ⟨#[]⟩,.int .u8 0,.int .i64 0] 180 (0,0));have hb3:=zj (zd (zd hb1.out f2) (zg w2 (.cells #[.string ⟨#[]⟩,.int .u8 0,.int .i64 0] 180 (0,0))));have v0:=zf hwb 0;have v2:=zf hwb 2;have Hwb:=zj hwb;clear hwb;clear c0 c1 c2 c3 c4 cP cS cR cL;clear n1 n67 n2 n68 n3 n69 n4 n5 n66 n84 n6 n7 n23 n24 n25 n70 n89 n28;obtain⟨c0,c1,c2,c3,c4,cP,cS,cR,cL⟩:=HS.out _ hb3.out;go_wp2_with fail;refine (HB.out _).mono ?_;rintro e w4 ⟨rfl,f4⟩;have hb4:=zj (zd hb3.out f4);clear c0 c1 c2 c3 c4 cP cS cR cL v0 v2;obtain⟨c0,c1,c2,c3,c4,cP,cS,cR,cL⟩:=HS.out w4 hb4.out;have hbt:(decide (60≤K) && decide (K≤65))=false:=by simp;omega
 have hK8:¬((80:Int)≤(K:Int)):=by omega
 rw[hbt];clear hbt;go_wp2_with fail;refine (HST.out w4 (zd hA hb4.out)).mono ?_;rintro e w5 ⟨b5,rfl,hq5,f5⟩;replace hq5:=zj hq5;go_wp2_with fail;go_ret;exact⟨_,rfl,hq5.out.trans HR.out,zd hA (zd hb4.out f5)⟩
end
theorem zcB{x:Nd}(h:qz x=true):x.text.length≤3000:=by
 by_cases h4:xG x.kind=4
 ·unfold qz at h;rw[h4] at h;unfold xE xJ at h;simp at h;split at h
  ·simp at h
  ·omega
 ·exact j8 h h4
theorem zhn:∀k,(jH k).2≤2000:=fun k=>by
 unfold jH
 repeat' split
 all_goals decide
section
variable {P:Nat} {nv iv:Value} {l:List Nd} {kv:List Value} {pr:Int→List UInt8} {n:Nat}
theorem qB{ks:List Int}(h:ks.length=1)(hks:∀k∈ks,0≤k∧k<(n:Int)):∃z0:Nat,ks=[(z0:Int)]∧z0<n:=by
 match ks,h with
 |[c],_=>
  obtain⟨h0,h1⟩:=hks c (by simp);obtain⟨z,rfl⟩:=Int.eq_ofNat_of_zero_le h0;exact⟨z,rfl,by omega⟩
theorem yu{ks:List Int}(h:ks.length=2)(hks:∀k∈ks,0≤k∧k<(n:Int)):∃z0 z1:Nat,ks=[(z0:Int),(z1:Int)]∧z0<n∧z1<n:=by
 match ks,h with
 |[c,d],_=>
  obtain⟨h0,h1⟩:=hks c (by simp);obtain⟨h2,h3⟩:=hks d (by simp);obtain⟨z,rfl⟩:=Int.eq_ofNat_of_zero_le h0;obtain⟨y,rfl⟩:=Int.eq_ofNat_of_zero_le h2;exact⟨z,y,rfl,by omega,by omega⟩
theorem uL{ks:List Int}(h:ks.length=3)(hks:∀k∈ks,0≤k∧k<(n:Int)):∃z0 z1 z2:Nat,ks=[(z0:Int),(z1:Int),(z2:Int)]∧z0<n∧z1<n∧z2<n:=by
 match ks,h with
 |[c,d,e],_=>
  obtain⟨h0,h1⟩:=hks c (by simp);obtain⟨h2,h3⟩:=hks d (by simp);obtain⟨h4,h5⟩:=hks e (by simp);obtain⟨z,rfl⟩:=Int.eq_ofNat_of_zero_le h0;obtain⟨y,rfl⟩:=Int.eq_ofNat_of_zero_le h2;obtain⟨x,rfl⟩:=Int.eq_ofNat_of_zero_le h4;exact⟨z,y,x,rfl,by omega,by omega,by omega⟩
theorem XI(K:Nat)(hK:K=80∨K=81∨K=82∨K=83)(t:List UInt8)(k a:Int)(ks:List Int)(u:Value)(w:World)(hu:KS w u ks):Calls prog 168 #[.pointer (some ⟨P,0,none⟩),xI ⟨K,t,k,ks,a⟩ u] w (qW w (yo pr ⟨K,t,k,ks,a⟩)):=by
 unfold xI;obtain⟨up,uc,rfl⟩:=hu.form;have h0:∀W,(Instr.index 217 (.agg #[.string ⟨#[105,110,116]⟩,.string ⟨#[98,111,111,108]⟩,.string ⟨#[116,101,120,116]⟩,.string ⟨#[117,110,105,116]⟩]) (.int .u8 0)).run prog W=.ok (.string ⟨#[105,110,116]⟩) W:=fun W=>rfl
 have h1:∀W,(Instr.index 217 (.agg #[.string ⟨#[105,110,116]⟩,.string ⟨#[98,111,111,108]⟩,.string ⟨#[116,101,120,116]⟩,.string ⟨#[117,110,105,116]⟩]) (.int .u8 1)).run prog W=.ok (.string ⟨#[98,111,111,108]⟩) W:=fun W=>rfl
 have h2:∀W,(Instr.index 217 (.agg #[.string ⟨#[105,110,116]⟩,.string ⟨#[98,111,111,108]⟩,.string ⟨#[116,101,120,116]⟩,.string ⟨#[117,110,105,116]⟩]) (.int .u8 2)).run prog W=.ok (.string ⟨#[116,101,120,116]⟩) W:=fun W=>rfl
 have h3:∀W,(Instr.index 217 (.agg #[.string ⟨#[105,110,116]⟩,.string ⟨#[98,111,111,108]⟩,.string ⟨#[116,101,120,116]⟩,.string ⟨#[117,110,105,116]⟩]) (.int .u8 3)).run prog W=.ok (.string ⟨#[117,110,105,116]⟩) W:=fun W=>rfl
 have hA:=zg w (.cells #[.int .u8 K,.string ⟨t.toArray⟩,.int .i64 k,.slice up ks.length uc,.int .i64 a] 60 (0,0));have c0:=zf (zm w (.cells #[.int .u8 K,.string ⟨t.toArray⟩,.int .i64 k,.slice up ks.length uc,.int .i64 a] 60 (0,0))) 0;clear hu;rcases hK with rfl|rfl|rfl|rfl
 all_goals
  go_enter func168,ntmps168;go_wp2_with fail;go_ret;exact⟨_,rfl,rfl,hA⟩
def PN(P:Nat)(nv iv:Value)(l:List Nd)(kv:List Value)(pr:Int→List UInt8)(n K:Nat):Prop:=yt P nv iv l kv pr n→∀(i:Nat) (t:List UInt8) (k a:Int) (ks:List Int) (w:World),jG w P nv iv l kv→l[i]? =some ⟨K,t,k,ks,a⟩→(jH K).1≤ks.length→ks.length≤(jH K).2→zz K k ks.length=true→t.length≤3000→(∀k∈ks,0≤k∧k<(n:Int))→ks.length≤100000→Calls prog 108 #[.pointer (some ⟨P,0,none⟩),.int .i64 i] w (qW w (zF l pr ⟨K,t,k,ks,a⟩))
theorem zjk:PN P nv iv l kv pr n 1:=fun H i t k a ks w hC hx h1 h2 hnum ht hks hkl=>by
 have hk: -1000000000≤k∧k≤1000000000:=by
  simp[zz] at hnum;omega
 exact zec 1 (by decide) H i t k a ks w hC hx ht hk
theorem zhX:PN P nv iv l kv pr n 67:=fun H i t k a ks w hC hx h1 h2 hnum ht hks hkl=>by
 have hk: -1000000000≤k∧k≤1000000000:=by
  simp[zz] at hnum;omega
 exact zec 67 (by decide) H i t k a ks w hC hx ht hk
theorem zjj:PN P nv iv l kv pr n 2:=fun H i t k a ks w hC hx h1 h2 hnum ht hks hkl=>zeb 2 (by decide) H i t k a ks w hC hx ht
theorem zhW:PN P nv iv l kv pr n 68:=fun H i t k a ks w hC hx h1 h2 hnum ht hks hkl=>zeb 68 (by decide) H i t k a ks w hC hx ht
theorem zji:PN P nv iv l kv pr n 3:=fun H i t k a ks w hC hx h1 h2 hnum ht hks hkl=>zea 3 (by decide) H i t k a ks w hC hx ht
theorem zhV:PN P nv iv l kv pr n 69:=fun H i t k a ks w hC hx h1 h2 hnum ht hks hkl=>zea 69 (by decide) H i t k a ks w hC hx ht
theorem zjh:PN P nv iv l kv pr n 4:=fun H i t k a ks w hC hx h1 h2 hnum ht hks hkl=>Kj 4 (by decide) H i t k a ks w hC hx ht
theorem zjg:PN P nv iv l kv pr n 5:=fun H i t k a ks w hC hx h1 h2 hnum ht hks hkl=>Kj 5 (by decide) H i t k a ks w hC hx ht
theorem zhY:PN P nv iv l kv pr n 66:=fun H i t k a ks w hC hx h1 h2 hnum ht hks hkl=>Kj 66 (by decide) H i t k a ks w hC hx ht
theorem zhP:PN P nv iv l kv pr n 84:=fun H i t k a ks w hC hx h1 h2 hnum ht hks hkl=>Kj 84 (by decide) H i t k a ks w hC hx ht
theorem zjf:PN P nv iv l kv pr n 6:=fun H i t k a ks w hC hx h1 h2 hnum ht hks hkl=>by
 obtain⟨z0,rfl,l0⟩:=qB (Nat.le_antisymm h2 h1) hks;exact zg4 H i t k a z0 l0 w hC hx ht
theorem zje:PN P nv iv l kv pr n 7:=fun H i t k a ks w hC hx h1 h2 hnum ht hks hkl=>by
 obtain⟨z0,rfl,l0⟩:=qB (Nat.le_antisymm h2 h1) hks;exact zg3 H i t k a z0 l0 w hC hx ht
theorem ziy:PN P nv iv l kv pr n 23:=fun H i t k a ks w hC hx h1 h2 hnum ht hks hkl=>by
 obtain⟨z0,rfl,l0⟩:=qB (Nat.le_antisymm h2 h1) hks;exact zfB H i t k a z0 l0 w hC hx ht
theorem zix:PN P nv iv l kv pr n 24:=fun H i t k a ks w hC hx h1 h2 hnum ht hks hkl=>zfA H i t k a ks w hC hx ht hks hkl h1
theorem ziw:PN P nv iv l kv pr n 25:=fun H i t k a ks w hC hx h1 h2 hnum ht hks hkl=>zfz H i t k a ks w hC hx ht hks hkl
theorem zhU:PN P nv iv l kv pr n 70:=fun H i t k a ks w hC hx h1 h2 hnum ht hks hkl=>zfx H i t k a ks w hC hx ht hks hkl
theorem zhK:PN P nv iv l kv pr n 89:=fun H i t k a ks w hC hx h1 h2 hnum ht hks hkl=>zfw H i t k a ks w hC hx ht hks hkl
theorem zit:PN P nv iv l kv pr n 28:=fun H i t k a ks w hC hx h1 h2 hnum ht hks hkl=>zfy H i t k a ks w hC hx ht hks hkl
theorem zjd:PN P nv iv l kv pr n 8:=fun H i t k a ks w hC hx h1 h2 hnum ht hks hkl=>by
 obtain⟨z0,z1,rfl,l0,l1⟩:=yu (Nat.le_antisymm h2 h1) hks;exact jc H i 8 t k a z0 l0 z1 l1 w hC hx ht [43] rfl (by decide)
theorem zjc:PN P nv iv l kv pr n 9:=fun H i t k a ks w hC hx h1 h2 hnum ht hks hkl=>by
 obtain⟨z0,z1,rfl,l0,l1⟩:=yu (Nat.le_antisymm h2 h1) hks;exact jc H i 9 t k a z0 l0 z1 l1 w hC hx ht [45] rfl (by decide)
theorem ziL:PN P nv iv l kv pr n 10:=fun H i t k a ks w hC hx h1 h2 hnum ht hks hkl=>by
 obtain⟨z0,z1,rfl,l0,l1⟩:=yu (Nat.le_antisymm h2 h1) hks;exact jc H i 10 t k a z0 l0 z1 l1 w hC hx ht [43,43] rfl (by decide)
theorem ziK:PN P nv iv l kv pr n 11:=fun H i t k a ks w hC hx h1 h2 hnum ht hks hkl=>by
 obtain⟨z0,z1,rfl,l0,l1⟩:=yu (Nat.le_antisymm h2 h1) hks;exact jc H i 11 t k a z0 l0 z1 l1 w hC hx ht [42] rfl (by decide)
theorem ziJ:PN P nv iv l kv pr n 12:=fun H i t k a ks w hC hx h1 h2 hnum ht hks hkl=>by
 obtain⟨z0,z1,rfl,l0,l1⟩:=yu (Nat.le_antisymm h2 h1) hks;exact jc H i 12 t k a z0 l0 z1 l1 w hC hx ht [47] rfl (by decide)
theorem ziI:PN P nv iv l kv pr n 13:=fun H i t k a ks w hC hx h1 h2 hnum ht hks hkl=>by
 obtain⟨z0,z1,rfl,l0,l1⟩:=yu (Nat.le_antisymm h2 h1) hks;exact jc H i 13 t k a z0 l0 z1 l1 w hC hx ht [37] rfl (by decide)
theorem ziH:PN P nv iv l kv pr n 14:=fun H i t k a ks w hC hx h1 h2 hnum ht hks hkl=>by
 obtain⟨z0,z1,rfl,l0,l1⟩:=yu (Nat.le_antisymm h2 h1) hks;exact jc H i 14 t k a z0 l0 z1 l1 w hC hx ht [61,61] rfl (by decide)
theorem ziG:PN P nv iv l kv pr n 15:=fun H i t k a ks w hC hx h1 h2 hnum ht hks hkl=>by
 obtain⟨z0,z1,rfl,l0,l1⟩:=yu (Nat.le_antisymm h2 h1) hks;exact jc H i 15 t k a z0 l0 z1 l1 w hC hx ht [33,61] rfl (by decide)
theorem ziF:PN P nv iv l kv pr n 16:=fun H i t k a ks w hC hx h1 h2 hnum ht hks hkl=>by
 obtain⟨z0,z1,rfl,l0,l1⟩:=yu (Nat.le_antisymm h2 h1) hks;exact jc H i 16 t k a z0 l0 z1 l1 w hC hx ht [60] rfl (by decide)
theorem ziE:PN P nv iv l kv pr n 17:=fun H i t k a ks w hC hx h1 h2 hnum ht hks hkl=>by
 obtain⟨z0,z1,rfl,l0,l1⟩:=yu (Nat.le_antisymm h2 h1) hks;exact jc H i 17 t k a z0 l0 z1 l1 w hC hx ht [60,61] rfl (by decide)
theorem ziD:PN P nv iv l kv pr n 18:=fun H i t k a ks w hC hx h1 h2 hnum ht hks hkl=>by
 obtain⟨z0,z1,rfl,l0,l1⟩:=yu (Nat.le_antisymm h2 h1) hks;exact jc H i 18 t k a z0 l0 z1 l1 w hC hx ht [62] rfl (by decide)
theorem ziC:PN P nv iv l kv pr n 19:=fun H i t k a ks w hC hx h1 h2 hnum ht hks hkl=>by
 obtain⟨z0,z1,rfl,l0,l1⟩:=yu (Nat.le_antisymm h2 h1) hks;exact jc H i 19 t k a z0 l0 z1 l1 w hC hx ht [62,61] rfl (by decide)
theorem ziB:PN P nv iv l kv pr n 20:=fun H i t k a ks w hC hx h1 h2 hnum ht hks hkl=>by
 obtain⟨z0,z1,rfl,l0,l1⟩:=yu (Nat.le_antisymm h2 h1) hks;exact jc H i 20 t k a z0 l0 z1 l1 w hC hx ht [105,115] rfl (by decide)
theorem ziA:PN P nv iv l kv pr n 21:=fun H i t k a ks w hC hx h1 h2 hnum ht hks hkl=>by
 obtain⟨z0,z1,rfl,l0,l1⟩:=yu (Nat.le_antisymm h2 h1) hks;exact jc H i 21 t k a z0 l0 z1 l1 w hC hx ht [97,110,100] rfl (by decide)
theorem ziz:PN P nv iv l kv pr n 22:=fun H i t k a ks w hC hx h1 h2 hnum ht hks hkl=>by
 obtain⟨z0,z1,rfl,l0,l1⟩:=yu (Nat.le_antisymm h2 h1) hks;exact jc H i 22 t k a z0 l0 z1 l1 w hC hx ht [111,114] rfl (by decide)
theorem zij:PN P nv iv l kv pr n 37:=fun H i t k a ks w hC hx h1 h2 hnum ht hks hkl=>by
 obtain⟨z0,rfl,l0⟩:=qB (Nat.le_antisymm h2 h1) hks;exact Ki H i 37 t k a z0 l0 w hC hx ht rfl (by decide) _ _ _ rfl (by decide) (by decide)
theorem zii:PN P nv iv l kv pr n 38:=fun H i t k a ks w hC hx h1 h2 hnum ht hks hkl=>by
 obtain⟨z0,rfl,l0⟩:=qB (Nat.le_antisymm h2 h1) hks;exact Ki H i 38 t k a z0 l0 w hC hx ht rfl (by decide) _ _ _ rfl (by decide) (by decide)
theorem zih:PN P nv iv l kv pr n 39:=fun H i t k a ks w hC hx h1 h2 hnum ht hks hkl=>by
 obtain⟨z0,rfl,l0⟩:=qB (Nat.le_antisymm h2 h1) hks;exact Ki H i 39 t k a z0 l0 w hC hx ht rfl (by decide) _ _ _ rfl (by decide) (by decide)
theorem zic:PN P nv iv l kv pr n 44:=fun H i t k a ks w hC hx h1 h2 hnum ht hks hkl=>Kh H i 44 t k a ks w hC hx ht rfl (by decide) _ _ _ rfl (by decide) (by decide)
theorem zib:PN P nv iv l kv pr n 45:=fun H i t k a ks w hC hx h1 h2 hnum ht hks hkl=>Kh H i 45 t k a ks w hC hx ht rfl (by decide) _ _ _ rfl (by decide) (by decide)
theorem zia:PN P nv iv l kv pr n 46:=fun H i t k a ks w hC hx h1 h2 hnum ht hks hkl=>Kh H i 46 t k a ks w hC hx ht rfl (by decide) _ _ _ rfl (by decide) (by decide)
theorem zif:PN P nv iv l kv pr n 41:=fun H i t k a ks w hC hx h1 h2 hnum ht hks hkl=>vf H i 41 t k a ks w hC hx ht rfl (by decide) _ _ _ rfl (by decide) (by decide) hks hkl
theorem zie:PN P nv iv l kv pr n 42:=fun H i t k a ks w hC hx h1 h2 hnum ht hks hkl=>vf H i 42 t k a ks w hC hx ht rfl (by decide) _ _ _ rfl (by decide) (by decide) hks hkl
theorem zid:PN P nv iv l kv pr n 43:=fun H i t k a ks w hC hx h1 h2 hnum ht hks hkl=>vf H i 43 t k a ks w hC hx ht rfl (by decide) _ _ _ rfl (by decide) (by decide) hks hkl
theorem zh9:PN P nv iv l kv pr n 47:=fun H i t k a ks w hC hx h1 h2 hnum ht hks hkl=>vf H i 47 t k a ks w hC hx ht rfl (by decide) _ _ _ rfl (by decide) (by decide) hks hkl
theorem zh8:PN P nv iv l kv pr n 48:=fun H i t k a ks w hC hx h1 h2 hnum ht hks hkl=>vf H i 48 t k a ks w hC hx ht rfl (by decide) _ _ _ rfl (by decide) (by decide) hks hkl
theorem zh7:PN P nv iv l kv pr n 49:=fun H i t k a ks w hC hx h1 h2 hnum ht hks hkl=>vf H i 49 t k a ks w hC hx ht rfl (by decide) _ _ _ rfl (by decide) (by decide) hks hkl
theorem zh6:PN P nv iv l kv pr n 50:=fun H i t k a ks w hC hx h1 h2 hnum ht hks hkl=>vf H i 50 t k a ks w hC hx ht rfl (by decide) _ _ _ rfl (by decide) (by decide) hks hkl
theorem zh5:PN P nv iv l kv pr n 51:=fun H i t k a ks w hC hx h1 h2 hnum ht hks hkl=>vf H i 51 t k a ks w hC hx ht rfl (by decide) _ _ _ rfl (by decide) (by decide) hks hkl
theorem zh4:PN P nv iv l kv pr n 60:=fun H i t k a ks w hC hx h1 h2 hnum ht hks hkl=>by
 obtain⟨z0,rfl,l0⟩:=qB (Nat.le_antisymm h2 h1) hks;exact YS H i 60 t k a _ w hC hx ht rfl (by decide) rfl ⟨by decide,by decide⟩ (fun u W hC hu=>zbX 60 (.inl rfl) H t k a z0 u W hC hu l0 ht)
theorem zh3:PN P nv iv l kv pr n 61:=fun H i t k a ks w hC hx h1 h2 hnum ht hks hkl=>by
 obtain⟨z0,rfl,l0⟩:=qB (Nat.le_antisymm h2 h1) hks;exact YS H i 61 t k a _ w hC hx ht rfl (by decide) rfl ⟨by decide,by decide⟩ (fun u W hC hu=>zbX 61 (.inr rfl) H t k a z0 u W hC hu l0 ht)
theorem zh2:PN P nv iv l kv pr n 62:=fun H i t k a ks w hC hx h1 h2 hnum ht hks hkl=>by
 obtain⟨z0,z1,rfl,l0,l1⟩:=yu (Nat.le_antisymm h2 h1) hks;exact YS H i 62 t k a _ w hC hx ht rfl (by decide) rfl ⟨by decide,by decide⟩ (fun u W hC hu=>zfu H t k a z0 z1 u W hC hu l0 l1 ht)
theorem zh1:PN P nv iv l kv pr n 63:=fun H i t k a ks w hC hx h1 h2 hnum ht hks hkl=>by
 obtain⟨z0,z1,rfl,l0,l1⟩:=yu (Nat.le_antisymm h2 h1) hks;exact YS H i 63 t k a _ w hC hx ht rfl (by decide) rfl ⟨by decide,by decide⟩ (fun u W hC hu=>zft H t k a z0 z1 u W hC hu l0 l1 ht)
theorem zh0:PN P nv iv l kv pr n 64:=fun H i t k a ks w hC hx h1 h2 hnum ht hks hkl=>by
 obtain⟨z0,z1,z2,rfl,l0,l1,l2⟩:=uL (Nat.le_antisymm h2 h1) hks;exact YS H i 64 t k a _ w hC hx ht rfl (by decide) rfl ⟨by decide,by decide⟩ (fun u W hC hu=>zfs H t k a z0 z1 z2 u W hC hu l0 l1 l2 ht)
theorem zhZ:PN P nv iv l kv pr n 65:=fun H i t k a ks w hC hx h1 h2 hnum ht hks hkl=>by
 obtain⟨z0,rfl,l0⟩:=qB (Nat.le_antisymm h2 h1) hks;exact YS H i 65 t k a _ w hC hx ht rfl (by decide) rfl ⟨by decide,by decide⟩ (fun u W hC hu=>zfr H t k a z0 u W hC hu l0 ht)
theorem zhT:PN P nv iv l kv pr n 80:=fun H i t k a ks w hC hx h1 h2 hnum ht hks hkl=>jO H i 80 t k a ks w hC hx ht rfl (by decide) rfl (by decide) (fun u W hC hu=>XI 80 (by decide) t k a ks u W hu)
theorem zhS:PN P nv iv l kv pr n 81:=fun H i t k a ks w hC hx h1 h2 hnum ht hks hkl=>jO H i 81 t k a ks w hC hx ht rfl (by decide) rfl (by decide) (fun u W hC hu=>XI 81 (by decide) t k a ks u W hu)
theorem zhR:PN P nv iv l kv pr n 82:=fun H i t k a ks w hC hx h1 h2 hnum ht hks hkl=>jO H i 82 t k a ks w hC hx ht rfl (by decide) rfl (by decide) (fun u W hC hu=>XI 82 (by decide) t k a ks u W hu)
theorem zhQ:PN P nv iv l kv pr n 83:=fun H i t k a ks w hC hx h1 h2 hnum ht hks hkl=>jO H i 83 t k a ks w hC hx ht rfl (by decide) rfl (by decide) (fun u W hC hu=>XI 83 (by decide) t k a ks u W hu)
theorem zhO:PN P nv iv l kv pr n 85:=fun H i t k a ks w hC hx h1 h2 hnum ht hks hkl=>jO H i 85 t k a ks w hC hx ht rfl (by decide) rfl (by decide) (fun u W hC hu=>zd8 H t k a ks u W hC hu hks hkl h1 ht)
theorem zhN:PN P nv iv l kv pr n 86:=fun H i t k a ks w hC hx h1 h2 hnum ht hks hkl=>by
 obtain⟨z0,rfl,l0⟩:=qB (Nat.le_antisymm h2 h1) hks;exact jO H i 86 t k a _ w hC hx ht rfl (by decide) rfl (by decide) (fun u W hC hu=>VE 86 (.inl rfl) H t k a z0 u W hC hu l0 ht)
theorem zhM:PN P nv iv l kv pr n 87:=fun H i t k a ks w hC hx h1 h2 hnum ht hks hkl=>by
 obtain⟨z0,rfl,l0⟩:=qB (Nat.le_antisymm h2 h1) hks;exact jO H i 87 t k a _ w hC hx ht rfl (by decide) rfl (by decide) (fun u W hC hu=>VE 87 (.inr rfl) H t k a z0 u W hC hu l0 ht)
theorem zhL:PN P nv iv l kv pr n 88:=fun H i t k a ks w hC hx h1 h2 hnum ht hks hkl=>by
 obtain⟨z0,rfl,l0⟩:=qB (Nat.le_antisymm h2 h1) hks;exact jO H i 88 t k a _ w hC hx ht rfl (by decide) rfl (by decide) (fun u W hC hu=>zd7 H t k a z0 u W hC hu l0 ht)
theorem zg9:PN P nv iv l kv pr n 100:=fun H i t k a ks w hC hx h1 h2 hnum ht hks hkl=>jO H i 100 t k a ks w hC hx ht rfl (by decide) rfl (by decide) (fun u W hC hu=>Jj 100 (.inl rfl) H t k a ks u W hC hu hks hkl h1 ht)
theorem zg8:PN P nv iv l kv pr n 101:=fun H i t k a ks w hC hx h1 h2 hnum ht hks hkl=>jO H i 101 t k a ks w hC hx ht rfl (by decide) rfl (by decide) (fun u W hC hu=>Jj 101 (.inr rfl) H t k a ks u W hC hu hks hkl h1 ht)
theorem zg7:PN P nv iv l kv pr n 102:=fun H i t k a ks w hC hx h1 h2 hnum ht hks hkl=>jO H i 102 t k a ks w hC hx ht rfl (by decide) rfl (by decide) (fun u W hC hu=>zc0 H t k a ks u W hC hu hks hkl h1 ht)
theorem zg6:PN P nv iv l kv pr n 103:=fun H i t k a ks w hC hx h1 h2 hnum ht hks hkl=>jO H i 103 t k a ks w hC hx ht rfl (by decide) rfl (by decide) (fun u W hC hu=>zcZ H t k a ks u W hC hu hks hkl h1 ht)
theorem zg5:PN P nv iv l kv pr n 104:=fun H i t k a ks w hC hx h1 h2 hnum ht hks hkl=>by
 obtain⟨z0,z1,rfl,l0,l1⟩:=yu (Nat.le_antisymm h2 h1) hks;exact jO H i 104 t k a _ w hC hx ht rfl (by decide) rfl (by decide) (fun u W hC hu=>zcY H t k a z0 z1 u W hC hu l0 l1 ht)
theorem ziv:PN P nv iv l kv pr n 26:=fun H i t k a ks w hC hx h1 h2 hnum ht hks hkl=>kB H i 26 t k a ks w hC hx ht rfl (by decide) rfl (by decide) (fun u W hC hu=>zfL H t k a ks u W hC hu hks hkl h1 ht)
theorem ziu:PN P nv iv l kv pr n 27:=fun H i t k a ks w hC hx h1 h2 hnum ht hks hkl=>by
 obtain⟨z0,rfl,l0⟩:=qB (Nat.le_antisymm h2 h1) hks;exact kB H i 27 t k a _ w hC hx ht rfl (by decide) rfl (by decide) (fun u W hC hu=>zfK H t k a z0 u W hC hu l0 ht)
theorem zis:PN P nv iv l kv pr n 29:=fun H i t k a ks w hC hx h1 h2 hnum ht hks hkl=>by
 by_cases h3:ks.length=2
 ·obtain⟨z0,z1,rfl,l0,l1⟩:=yu h3 hks;exact kB H i 29 t k a _ w hC hx ht rfl (by decide) rfl (by decide) (fun u W hC hu=>zee H t k a z0 z1 u W hC hu l0 l1 ht)
 ·obtain⟨z0,z1,z2,rfl,l0,l1,l2⟩:=uL (by have:2≤ks.length:=h1;have:ks.length≤3:=h2;omega) hks;exact kB H i 29 t k a _ w hC hx ht rfl (by decide) rfl (by decide) (fun u W hC hu=>zed H t k a z0 z1 z2 u W hC hu l0 l1 l2 ht)
theorem zir:PN P nv iv l kv pr n 30:=fun H i t k a ks w hC hx h1 h2 hnum ht hks hkl=>by
 obtain⟨z0,z1,rfl,l0,l1⟩:=yu (Nat.le_antisymm h2 h1) hks;exact kB H i 30 t k a _ w hC hx ht rfl (by decide) rfl (by decide) (fun u W hC hu=>zfJ H t k a z0 z1 u W hC hu l0 l1 ht)
theorem ziq:PN P nv iv l kv pr n 31:=fun H i t k a ks w hC hx h1 h2 hnum ht hks hkl=>kB H i 31 t k a ks w hC hx ht rfl (by decide) rfl (by decide) (fun u W hC hu=>zfI H t k a ks u W hC hu hks hkl h1 ht)
theorem zio:PN P nv iv l kv pr n 32:=fun H i t k a ks w hC hx h1 h2 hnum ht hks hkl=>by
 obtain⟨z0,z1,rfl,l0,l1⟩:=yu (Nat.le_antisymm h2 h1) hks;exact kB H i 32 t k a _ w hC hx ht rfl (by decide) rfl (by decide) (fun u W hC hu=>zfH H t k a z0 z1 u W hC hu l0 l1 ht)
theorem zin:PN P nv iv l kv pr n 33:=fun H i t k a ks w hC hx h1 h2 hnum ht hks hkl=>kB H i 33 t k a ks w hC hx ht rfl (by decide) rfl (by decide) (fun u W hC hu=>zfG H t k a ks u W hC hu hks hkl h1 ht)
theorem zim:PN P nv iv l kv pr n 34:=fun H i t k a ks w hC hx h1 h2 hnum ht hks hkl=>by
 obtain⟨z0,z1,rfl,l0,l1⟩:=yu (Nat.le_antisymm h2 h1) hks;exact kB H i 34 t k a _ w hC hx ht rfl (by decide) rfl (by decide) (fun u W hC hu=>zfF H t k a z0 z1 u W hC hu l0 l1 ht)
theorem zil:PN P nv iv l kv pr n 35:=fun H i t k a ks w hC hx h1 h2 hnum ht hks hkl=>kB H i 35 t k a ks w hC hx ht rfl (by decide) rfl (by decide) (fun u W hC hu=>zfE H t k a ks u W hC hu hks hkl h1 ht)
theorem zik:PN P nv iv l kv pr n 36:=fun H i t k a ks w hC hx h1 h2 hnum ht hks hkl=>by
 obtain⟨z0,z1,z2,rfl,l0,l1,l2⟩:=uL (Nat.le_antisymm h2 h1) hks;exact kB H i 36 t k a _ w hC hx ht rfl (by decide) rfl (by decide) (fun u W hC hu=>zfD H t k a z0 z1 z2 u W hC hu l0 l1 l2 ht)
theorem zig:PN P nv iv l kv pr n 40:=fun H i t k a ks w hC hx h1 h2 hnum ht hks hkl=>by
 obtain⟨z0,rfl,l0⟩:=qB (Nat.le_antisymm h2 h1) hks;have hk: -1000000000≤k∧k≤1000000000:=by
  simp[zz] at hnum;omega
 exact kB H i 40 t k a _ w hC hx ht rfl (by decide) rfl (by decide) (fun u W hC hu=>zfC H t k a z0 u W hC hu l0 ht hk)
theorem zdd:∀k,k<105→xV k=true→k∈[1,67,2,68,3,69,4,5,66,84,6,7,23,24,25,70,89,28,8,9,10,11,12,13,14,15,16,17,18,19,20,21,22,37,38,39,44,45,46,41,42,43,47,48,49,50,51,60,61,62,63,64,65,80,81,82,83,85,86,87,88,100,101,102,103,104,26,27,29,30,31,32,33,34,35,36,40]:=by decide +kernel
theorem za8(H:yt P nv iv l kv pr n)(i:Nat)(x:Nd)(w:World)(hC:jG w P nv iv l kv)(hx:l[i]? =some x)(hr:yd l x=true)(hks:∀k∈x.kids,0≤k∧k<(n:Int)):Calls prog 108 #[.pointer (some ⟨P,0,none⟩),.int .i64 i] w (qW w (zF l pr x)):=by
 obtain⟨hkn,h1,h2,hnum,htit,_⟩:=xo hr;have ht:=zcB htit;have hkl:x.kids.length≤100000:=Nat.le_trans h2 (Nat.le_trans (zhn _) (by decide));have hm:=zdd _ (Nat.lt_succ_of_le (vo hkn)) hkn;obtain⟨K,t,k,ks,a⟩:=x;simp only[List.mem_cons,List.not_mem_nil,or_false] at hm h1 h2 hnum ht hkl hks;refine (?_:PN P nv iv l kv pr n K) H i t k a ks w hC hx h1 h2 hnum ht hks hkl;clear hx h1 h2 hnum ht hks hkl hkn htit hr;rcases hm with rfl|rfl|rfl|rfl|rfl|rfl|rfl|rfl|rfl|rfl|rfl|rfl|rfl|rfl|rfl|rfl|rfl|rfl|rfl|rfl|rfl|rfl|rfl|rfl|rfl|rfl|rfl|rfl|rfl|rfl|rfl|rfl|rfl|rfl|rfl|rfl|rfl|rfl|rfl|rfl|rfl|rfl|rfl|rfl|rfl|rfl|rfl|rfl|rfl|rfl|rfl|rfl|rfl|rfl|rfl|rfl|rfl|rfl|rfl|rfl|rfl|rfl|rfl|rfl|rfl|rfl|rfl|rfl|rfl|rfl|rfl|rfl|rfl|rfl|rfl|rfl|rfl
 ·exact zjk
 ·exact zhX
 ·exact zjj
 ·exact zhW
 ·exact zji
 ·exact zhV
 ·exact zjh
 ·exact zjg
 ·exact zhY
 ·exact zhP
 ·exact zjf
 ·exact zje
 ·exact ziy
 ·exact zix
 ·exact ziw
 ·exact zhU
 ·exact zhK
 ·exact zit
 ·exact zjd
 ·exact zjc
 ·exact ziL
 ·exact ziK
 ·exact ziJ
 ·exact ziI
 ·exact ziH
 ·exact ziG
 ·exact ziF
 ·exact ziE
 ·exact ziD
 ·exact ziC
 ·exact ziB
 ·exact ziA
 ·exact ziz
 ·exact zij
 ·exact zii
 ·exact zih
 ·exact zic
 ·exact zib
 ·exact zia
 ·exact zif
 ·exact zie
 ·exact zid
 ·exact zh9
 ·exact zh8
 ·exact zh7
 ·exact zh6
 ·exact zh5
 ·exact zh4
 ·exact zh3
 ·exact zh2
 ·exact zh1
 ·exact zh0
 ·exact zhZ
 ·exact zhT
 ·exact zhS
 ·exact zhR
 ·exact zhQ
 ·exact zhO
 ·exact zhN
 ·exact zhM
 ·exact zhL
 ·exact zg9
 ·exact zg8
 ·exact zg7
 ·exact zg6
 ·exact zg5
 ·exact ziv
 ·exact ziu
 ·exact zis
 ·exact zir
 ·exact ziq
 ·exact zio
 ·exact zin
 ·exact zim
 ·exact zil
 ·exact zik
 ·exact zig
end
theorem Jl(P:Nat)(nv iv:Value)(l:List Nd)(kv:List Value)(hF:xj l l.length)(hR:∀x∈l,yd l x=true)(hn:l.length≤1000)(h255:∀x∈l,x.kind≤255):∀f m,m≤f→m≤l.length→yt P nv iv l kv (prN l f) m
 |0,m,hm,_=>by
  obtain rfl:m=0:=by omega
  exact⟨fun _ i hi=>absurd hi (Nat.not_lt_zero _),fun i hi=>absurd hi (Nat.not_lt_zero _),Nat.zero_le _,h255⟩
 |f+1,m,hm,hf=>by
  refine⟨fun w i hi hC=>?_,fun i hi=>Jk hF hR hn (f+1) i (by omega),hf,h255⟩;have hil:i<l.length:=by omega
  have ih:=Jl P nv iv l kv hF hR hn h255 f i (by omega) (by omega);have hx:l[i]? =some l[i]:=glE hil;have e2:prN l (f+1) i=zF l (prN l f) l[i]:=by
   show (match l[(i:Int).toNat]? with|some x=>zF l (prN l f) x|none=>[])=_
   rw[Int.toNat_natCast,hx]
  rw[e2];exact za8 ih i l[i] w hC hx (hR _ (List.getElem_mem hil)) (fun k hk=>by
   obtain⟨h0,h1⟩:=qK hF hil k hk;exact⟨h0,by omega⟩)
end
end Go.Proofs.YtcagibbaeageoaaGreatDoor
