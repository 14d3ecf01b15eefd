/-
  A part of the proof: contracts of functions; no conditions.
-/
import Derived.Test.YtnncmdpopgkibaaGreatDoorKQ
set_option maxRecDepth 100000
set_option maxHeartbeats 40000000
set_option linter.unusedSimpArgs false
set_option linter.unusedVariables false
namespace Go.Proofs.YtnncmdpopgkibaaGreatDoor
section
open Go.RowKit Lode Go.Shelf
attribute [local go_sem ↓] Go.wp_at_zero Go.wp_at_succ
open Go.Proofs.Tryz
theorem zlT{n:Int}(h:(Lit.int .u16 n).wf=true):∃y:Nat,n=(y:Int)/\y<=65535:=by
 have h1:IntKind.u16.min=0:=by decide
 have h2:IntKind.u16.max=65535:=by decide
 simp only[Lit.wf,pG,pH,h1,h2] at h;exact⟨n.toNat,by omega,by omega⟩
theorem zjQ(s:List UInt8):(pdT s).2=false\/((pdT s).2=true/\s.length<=700/\∃st,Vh s (pdT s).1 st):=by
 unfold pdT;by_cases h:700<s.length
 ·rw[if_pos h];exact .inl rfl
 ·rw[if_neg h];by_cases h2:(zW s).2.2=0
  ·obtain⟨_,st,hp⟩:=zhG (s:=s) (t:=(zW s).1) (p:=(zW s).2.1) (by rw[<-h2]);exact .inr ⟨by simp[h2],by omega,st,hp⟩
  ·exact .inl (by simp[h2])
theorem zfw(s:ByteArray)(many:Nat)(w:World)(hm:many<=65535)(hG:qH w):Calls prog 3 #[.string s,.int .u16 many] w (kQ w (.bool true)):=by
 have hKn:=zi (fun W (hW:Below w.heap.size w W)=>zd3 W (hG.later hW));have hsl:s.data.toList.length=s.size:=by simp
 have hPd:=zi (zfj s w hG);have hcs:=zjQ s.data.toList;generalize pdT s.data.toList=r at *;obtain⟨t,ok⟩:=r;simp only at hcs;rcases hcs with rfl|⟨rfl,h700,st,hp⟩
 ·go_enter func3,ntmps3;go_wp2_with fail;refine hPd.out.mono ?_;rintro e w1 ⟨hb1,nv,iv,rfl,hT1⟩;obtain⟨p1,c1,q1,d1,rfl,rfl⟩:=hT1.o.form;simp only at hT1;generalize t.nodes.length=nl at *;generalize t.items.length=il at *;have hz:=zk w1 (.cells #[.slice none 0 0,.slice none 0 0] 26 (0,0));have e0:=zd hz 0;have e1:=zd hz 1;have f0:=zl hz 0;have f1:=zl hz 1;have hw2:=zg hb1 (zf w1 (.cells #[.slice p1 nl c1,.slice q1 il d1] 26 (0,0)));go_wp2_with fail;refine (hKn.out _ hw2).mono ?_;rintro e w7 ⟨rfl,hb7⟩;have hw7:=zg hw2 hb7;go_wp2;go_ret;exact⟨rfl,hw7⟩
 ·obtain⟨n,hn⟩:=exE (many % ((Lode.yQ s.data.toList).1.length+1));have hnl:n<=(Lode.yQ s.data.toList).1.length:=by
   have:=Nat.mod_lt many (show 0<(Lode.yQ s.data.toList).1.length+1 by omega);omega
  obtain⟨hrd,hL1200,hchk,_⟩:=Jt hp.rd;obtain⟨e,he,he0,he1,hres⟩:=zbO hp hnl;have herr:=hp.rd;have HR:=zi (fun W (hW:Below w.heap.size w W)=>Zf s W (by omega) (hG.later hW));have HP:=zi (fun W (hW:Below w.heap.size w W)=>kW (s.extract 0 e) W (by rw[ByteArray.size_extract];omega) (hG.later hW));rw[show (s.extract 0 e).data.toList=s.data.toList.take e by rw[Go.Lib.extract_data];simp] at HP;generalize zW (s.data.toList.take e)=u at *;generalize Lode.yQ s.data.toList=R at *;obtain⟨L,ra,re⟩:=R;simp only at herr hL1200 hn hnl he1 hrd;subst herr;obtain⟨len,hlen⟩:∃k,L.length=k:=⟨_,rfl⟩;rw[hlen] at hn hnl hL1200;have Hlen:=zi hlen;have HG:=zi hG;have Hres:=zi hres;have He1:=zi he1;have He0:=zi he0;have hmod:(many:Int) % ((len:Int)+1)=(n:Int):=by rw[<-hn];exact (Int.natCast_emod many (len+1)).symm
  have hy0:=pJ ((len:Int)+1) (by omega);have hy1:=pJ ((many:Int)) (by omega);clear hG hres he1 he0 hlen hrd hchk hp;go_enter func3,ntmps3;go_wp2_with fail;refine hPd.out.mono ?_;rintro e9 w1 ⟨hb1,nv,iv,rfl,hT1⟩;obtain⟨p1,c1,q1,d1,rfl,rfl⟩:=hT1.o.form;simp only at hT1;obtain⟨nl,hnl1⟩:∃k,t.nodes.length=k:=⟨_,rfl⟩;obtain⟨il,hil1⟩:∃k,t.items.length=k:=⟨_,rfl⟩;rw[hnl1,hil1] at hT1 ⊢;have Hnl:=zi hnl1;have Hil:=zi hil1;have hz:=zk w1 (.cells #[.slice none 0 0,.slice none 0 0] 26 (0,0));have e0:=zd hz 0;have e1:=zd hz 1;have f0:=zl hz 0;have f1:=zl hz 1;have hA:=zf w1 (.cells #[.slice p1 nl c1,.slice q1 il d1] 26 (0,0));have hw2:=zi (zg hb1 hA);have hr1:=zi (zk w1 (.cells #[.slice p1 nl c1,.slice q1 il d1] 26 (0,0)));clear hz hA hT1 hb1 hnl1 hil1 hPd;go_wp2_with fail;refine (HR.out _ hw2.out).mono ?_;rintro e9 w3 ⟨v3,rfl,ht3,hb3⟩;obtain⟨p3,cp3,hv3,hc3⟩:=ht3.sl;subst hv3;have hw3:=zi (zg hw2.out hb3);have hr3:=zi (zh hb3 hr1.out);rw[Hlen.out];clear hb3 hr1 HR;by_cases hn0:n=0
  ·subst hn0;obtain rfl:e=0:=He0.out rfl;have hx:s.extract 0 0=ByteArray.empty:=by
    apply ByteArray.ext;rw[<-Array.toList_inj];simp
   rw[hx] at HP;have hw5:=hw3;have hr5:=hr3;clear hx he;go_wp2_with fail;refine (HP.out _ hw5.out).mono ?_;rintro e9 w6 ⟨hb6,nv2,iv2,rfl,hT6⟩;obtain⟨p2,c2,q2,d2,rfl,rfl⟩:=hT6.o.form;have hr6:=zh hb6 hr5.out;have hz:=zk w6 (.cells #[.slice none 0 0,.slice none 0 0] 26 (0,0));have e0:=zd hz 0;have e1:=zd hz 1;have f0:=zl hz 0;have f1:=zl hz 1;rcases Hres.out with hu|⟨u1,hu,hu1,hu2⟩
   ·subst hu;simp only[pR] at hT6 ⊢;have hA:=zf w6 (.cells #[.slice p2 0 c2,.slice q2 0 d2] 26 (0,0));have hr7:=zk w6 (.cells #[.slice p2 0 c2,.slice q2 0 d2] 26 (0,0));have hw7:=zi (zg (zg hw5.out hb6) hA);have g0:=zd hr7 0;clear hz hA hr7 hT6 hr6 hb6;go_wp2_with fail;refine (hKn.out _ hw7.out).mono ?_;rintro e9 w8 ⟨rfl,hb8⟩;have hw8:=zg hw7.out hb8;go_wp2;go_ret;exact⟨rfl,hw8⟩
   ·subst hu;simp only at hT6 ⊢;obtain⟨n1,hn1⟩:∃k,u1.nodes.length=k:=⟨_,rfl⟩;obtain⟨i1,hi1⟩:∃k,u1.items.length=k:=⟨_,rfl⟩;rw[hn1] at hu2 hT6 ⊢;rw[hi1] at hu1 hT6 ⊢;rw[Hnl.out] at hu2;rw[Hil.out] at hu1;have hu1':(i1:Int)<=(il:Int):=by omega
    have hu2':(n1:Int)<=(nl:Int):=by omega
    have hA:=zf w6 (.cells #[.slice p2 n1 c2,.slice q2 i1 d2] 26 (0,0));have hr7:=zk w6 (.cells #[.slice p2 n1 c2,.slice q2 i1 d2] 26 (0,0));have hw7:=zi (zg (zg hw5.out hb6) hA);have hr8:=zh hA hr6;have g0:=zd hr7 0;have g1:=zd hr7 1;have k0:=zd hr8 0;have k1:=zd hr8 1;clear hz hA hr7 hT6 hr6 hb6 hr8 hn1 hi1 hu1 hu2;go_wp2_with fail;refine (hKn.out _ hw7.out).mono ?_;rintro e9 w8 ⟨rfl,hb8⟩;have hw8:=zg hw7.out hb8;go_wp2;go_ret;exact⟨rfl,hw8⟩
  ·have hn1:(0:Int)<(n:Int):=by omega
   have hL0:L≠[]:=fun e9=>by
    have:=Hlen.out;rw[e9] at this;simp at this;omega
   obtain⟨g,rfl,q⟩:=hc3.resolve_left hL0;have hnl2:n-1<L.length:=by rw[Hlen.out];omega
   obtain⟨x,hx⟩:∃x,L[n-1]? =some x:=⟨_,glE hnl2⟩;obtain⟨i0,i1,i2⟩:=q (n-1) hnl2;have hxe:L[n-1]=x:=(gE.1 hx).2;rw[hxe] at i0 i1 i2;obtain⟨k1,t1,a1⟩:=x;simp only at i0 i1 i2;obtain⟨h1,h2⟩:=He1.out _ (by omega) hx;simp only[kt] at h1 h2;have hn2:IntKind.i64.wrap ((n:Int)-1)=((n-1:Nat):Int):=by rw[pJ _ ⟨by omega,by omega⟩];omega
   have HS:=zi (fun (W:World) (hb:Below w.heap.size w W)=>(show Calls prog 13 #[.agg #[.int .u8 k1,.string ⟨t1.toArray⟩,.int .i64 a1]] W (fun e w'=>e=.returned (.tuple #[.string ⟨(yV k1 t1).1.toArray⟩,.int .i64 0])/\Below W.heap.size W w') from by
    have:=zd1 k1 t1 a1 W (pN (ZR h2) (by omega)) (HG.out.later hb);rw[show (yV k1 t1).2=0 from h2] at this;exact this))
   have h1':(e:Int)=a1+(((⟨(yV k1 t1).1.toArray⟩:ByteArray).size:Nat):Int):=h1;generalize (⟨(yV k1 t1).1.toArray⟩:ByteArray)=S at *;have hes:¬((s.size:Int)<(e:Int)):=by omega
   have he0:¬((e:Int)<0):=by omega
   have hy3:IntKind.i64.wrap (a1+(S.size:Int))=(e:Int):=by rw[<-h1',pJ _ ⟨by omega,by omega⟩]
   have hes2:e<=s.size:=by omega
   clear h1 h1' hx hxe hnl2 q hL0;go_wp2_with fail;refine (HS.out _ hw3.out).mono ?_;rintro e9 w4 ⟨rfl,hb4⟩;have hw5:=zi (zg hw3.out hb4);have hr5:=zi (zh hb4 hr3.out);have i0:=zj hb4 i0;have i1:=zj hb4 i1;have i2:=zj hb4 i2;clear HS hb4;go_wp2_with fail;refine (HP.out _ hw5.out).mono ?_;rintro e9 w6 ⟨hb6,nv2,iv2,rfl,hT6⟩;obtain⟨p2,c2,q2,d2,rfl,rfl⟩:=hT6.o.form;have hr6:=zh hb6 hr5.out;have hz:=zk w6 (.cells #[.slice none 0 0,.slice none 0 0] 26 (0,0));have e0:=zd hz 0;have e1:=zd hz 1;have f0:=zl hz 0;have f1:=zl hz 1;rcases Hres.out with hu|⟨u1,hu,hu1,hu2⟩
   ·subst hu;simp only[pR] at hT6 ⊢;have hA:=zf w6 (.cells #[.slice p2 0 c2,.slice q2 0 d2] 26 (0,0));have hr7:=zk w6 (.cells #[.slice p2 0 c2,.slice q2 0 d2] 26 (0,0));have hw7:=zi (zg (zg hw5.out hb6) hA);have g0:=zd hr7 0;clear hz hA hr7 hT6 hr6 hb6;go_wp2_with fail;refine (hKn.out _ hw7.out).mono ?_;rintro e9 w8 ⟨rfl,hb8⟩;have hw8:=zg hw7.out hb8;go_wp2;go_ret;exact⟨rfl,hw8⟩
   ·subst hu;simp only at hT6 ⊢;obtain⟨n1,hn1⟩:∃k,u1.nodes.length=k:=⟨_,rfl⟩;obtain⟨i1,hi1⟩:∃k,u1.items.length=k:=⟨_,rfl⟩;rw[hn1] at hu2 hT6 ⊢;rw[hi1] at hu1 hT6 ⊢;rw[Hnl.out] at hu2;rw[Hil.out] at hu1;have hu1':(i1:Int)<=(il:Int):=by omega
    have hu2':(n1:Int)<=(nl:Int):=by omega
    have hA:=zf w6 (.cells #[.slice p2 n1 c2,.slice q2 i1 d2] 26 (0,0));have hr7:=zk w6 (.cells #[.slice p2 n1 c2,.slice q2 i1 d2] 26 (0,0));have hw7:=zi (zg (zg hw5.out hb6) hA);have hr8:=zh hA hr6;have g0:=zd hr7 0;have g1:=zd hr7 1;have k0:=zd hr8 0;have k1:=zd hr8 1;clear hz hA hr7 hT6 hr6 hb6 hr8 hn1 hi1 hu1 hu2;go_wp2_with fail;refine (hKn.out _ hw7.out).mono ?_;rintro e9 w8 ⟨rfl,hb8⟩;have hw8:=zg hw7.out hb8;go_wp2;go_ret;exact⟨rfl,hw8⟩
end
end Go.Proofs.YtnncmdpopgkibaaGreatDoor
