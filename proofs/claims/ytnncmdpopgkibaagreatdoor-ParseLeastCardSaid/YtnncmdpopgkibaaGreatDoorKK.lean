/-
  A part of the proof: contracts of functions; no conditions.
-/
import Derived.Test.YtnncmdpopgkibaaGreatDoorKH
import Derived.Test.YtnncmdpopgkibaaGreatDoorKJ
set_option maxRecDepth 100000
set_option maxHeartbeats 40000000
set_option linter.unusedSimpArgs false
set_option linter.unusedVariables false
namespace Go.Proofs.YtnncmdpopgkibaaGreatDoor
section
open Go.RowKit Lode Go.Shelf
attribute [local go_sem ↓] Go.wp_at_zero Go.wp_at_succ
open Go.Proofs.Tryz
theorem kl.tk{w:World}{b:Nat}{v:Value}{l:List yp}(h:kl w b v l):TK w.heap.size w v l:=by
 obtain⟨hl,⟨rfl,h0⟩|⟨g,cap,cur,rfl,_,hg,_,_,_,ht⟩⟩:=h
 ·exact⟨none,0,by rw[h0],.inl (pM h0)⟩
 ·refine⟨_,cap,rfl,.inr ⟨g,cur,_,(gtA hg),rfl,hg,fun j t hj=>?_⟩⟩;have hjl:=(gtL hj);have hjt:l[j]=t:=(gE.1 hj).2;have hc:=kq l j hjl;rw[hjt] at hc;have key:∀(i:Nat) (y:Value),(yI l)[i]? =some y->cur[i]? =some y:=fun i y h1=>by
   rw[<-ht,List.getElem?_take] at h1;split at h1
   ·rw[<-Array.getElem?_toList];exact h1
   ·cases h1
  exact⟨key _ _ hc.1,key _ _ hc.2.1,key _ _ hc.2.2⟩
theorem zji{t:yp}(h:ur t.text=true):ziI t:=by
 have hl:=ze7 h;simp only[ur,pG,Bool.not_eq_true',pH,wF] at h;obtain⟨⟨⟨h1,h2⟩,h3⟩,h4⟩:=h;exact⟨fun e=>by (rw[e] at h1;cases h1),h2,h3,by omega⟩
theorem zgq(s:List UInt8)(n:Nat):zbI ⟨(yQ s).1,n⟩:=fun t ht hk=>zji ((JZ s).1 t ht (by simpa using hk))
theorem TR.nil(w:World):TR w (.slice none 0 0) (.slice none 0 0) ⟨[],[]⟩:=⟨⟨[],rfl,fun j x u h=>by simp at h,none,0,rfl,.inl rfl⟩,none,0,rfl,.inl rfl⟩
def Qz(r:yo×Int×Nat)(w:World)(e:Ending)(w':World):Prop:=Below w.heap.size w w'/\∃nv iv,e=.returned (.tuple #[.agg #[nv,iv],.int .i64 r.2.1,.int .i64 r.2.2])/\TR w' nv iv r.1
theorem zdX(x:Nd)(u:Value)(w:World)(hk:KS w u x.kids):Calls prog 36 #[uV x u] w (kQ w (.bool (!ye x))):=by
 have hS:=fun W (hb:Below w.heap.size w W)=>QW x u W (hk.below hb)
 obtain⟨p,c,rfl⟩:=hk.form;clear hk;generalize ye x=b at *;obtain⟨k,t,n,ks,a⟩:=x;simp only[uV] at hS ⊢;generalize ks.length=m at *;have hz:=zk w (.cells #[.int .u8 k,.string ⟨t.toArray⟩,.int .i64 n,.slice p m c,.int .i64 a] 45 (0,0));have hA:=zf w (.cells #[.int .u8 k,.string ⟨t.toArray⟩,.int .i64 n,.slice p m c,.int .i64 a] 45 (0,0));have c0:=zd hz 0;have c1:=zd hz 1;have c2:=zd hz 2;have c3:=zd hz 3;have c4:=zd hz 4;clear hz;replace hS:=zi hS;go_enter func36,ntmps36;go_wp2_with fail;refine (hS.out _ hA).mono ?_;rintro e w1 ⟨rfl,hb⟩;go_wp2;go_ret;exact⟨rfl,zg hA hb⟩
theorem jG{W:World}{N:Nat}{a b:Value}{T:TypeId}{fr:Nat×Nat}(h:W.heap[N]? =some (.cells #[a,b] T fr))(x y:Value):((W.setCell ⟨N,0,none⟩ x).setCell ⟨N,1,none⟩ y).heap[N]? =some (.cells #[x,y] T fr)/\∀B,B<=N->Below B W ((W.setCell ⟨N,0,none⟩ x).setCell ⟨N,1,none⟩ y):=
 ⟨zr (zr h 0 x) 1 y,fun B hB=>((pF B W).setCell hB _).setCell hB _⟩
theorem KS.keepT{w w':World}{v:Value}{l:List Int}{N:Nat}{a b:Value}{fr:Nat×Nat}(h:KS w v l)(hN:w.heap[N]? =some (.cells #[a,b] 26 fr))(hf:∀g,g≠N->w'.heap[g]? =w.heap[g]?):KS w' v l:=
 h.keep fun g cs fr _ hh=>(hf g (uI hh hN (by decide))).trans hh
theorem TR.keepT{w w':World}{nv iv:Value}{t:yo}{N:Nat}{a b:Value}{fr:Nat×Nat}(h:TR w nv iv t)(hN:w.heap[N]? =some (.cells #[a,b] 26 fr))(hf:∀g,g≠N->w'.heap[g]? =w.heap[g]?):TR w' nv iv t:=by
 obtain⟨⟨kv,a1,a2,p,cap,hv,a3⟩,hi⟩:=h;refine⟨⟨kv,a1,fun j x u hx hu=>(a2 j x u hx hu).keepT hN hf,p,cap,hv,a3.imp id ?_⟩,hi.keepT hN hf⟩;rintro ⟨g,off,cs,fr,hp,hg,hc⟩;exact⟨g,off,cs,fr,hp,(hf g (uI hg hN (by decide))).trans hg,hc⟩
theorem kW(s:ByteArray)(w:World)(hs:s.size<=1000000000000)(hG:qH w):Calls prog 14 #[.string s] w (Qz (zW s.data.toList) w):=by
 obtain⟨r,hr⟩:=exE (zW s.data.toList);rw[hr];unfold zW at hr;have hnum:=zgq s.data.toList s.size;have hlen:=(JZ s.data.toList).2;have hRd:=zi (fun W (hb:Below w.heap.size w W)=>Zf s W hs (hG.later hb));rw[show s.data.toList.length=s.size from rfl] at hr;obtain⟨⟨toks,at_,e0⟩,hrd⟩:∃q,yQ s.data.toList=q:=⟨_,rfl⟩;rw[hrd] at hr hnum hlen hRd;simp only at hr hnum hlen hRd;clear hG hrd;have hA:=zf w (.cells #[.slice none 0 0,.slice none 0 0] 26 (0,0));have hz:=zk w (.cells #[.slice none 0 0,.slice none 0 0] 26 (0,0));replace hr:=zi hr;go_enter func14,ntmps14;go_wp2_with fail;refine (hRd.out _ hA).mono ?_;rintro e w1 ⟨tv,rfl,hT,hb1⟩;have hz1:=zh hb1 hz;have hB1:=hA.trans (hb1.mono hA.size);have htk:=hT.tk;obtain⟨tp,tc,rfl⟩:=hT.form;clear hRd hA hz hb1 hT;generalize hw1:w.heap.size=N at *;have z0:=zd hz1 0;have z1:=zd hz1 1;have g0:=zl hz1 0;have g1:=zl hz1 1;by_cases he:e0=0
 ·subst he;have hr2:(match xO toks s.size with
   | .bad p=>((⟨[],[]⟩,p,4):yo×Int×Nat)
   | .ok _ st=>if 1000<st.nodes.length\/40<st.items.length\/40<xJ ⟨st.nodes,st.items⟩ then (⟨[],[]⟩,0,5)
    else match st.nodes.find? fun x=> !ye x with
     |some x=>(⟨[],[]⟩,x.at_,3)
     |none=>(⟨st.nodes,st.items⟩,0,0))=r:=by
   have:=hr.out;rw[if_neg (by simp)] at this;exact this
  replace hr2:=zi hr2;clear hr;have HF:=zi (zdQ s toks (.slice tp toks.length tc) w1 htk hnum hlen);clear htk hnum;go_wp2_with fail;refine HF.out.mono ?_;rintro e w2 hp;cases hpr:xO toks s.size with
  |bad p=>
   rw[hpr] at hp hr2;have hr3:((⟨[],[]⟩,p,4):yo×Int×Nat)=r:=hr2.out;obtain⟨rfl,hb2⟩:=hp;have hz2:=zh hb2 hz1;have hN1:N<=w1.heap.size:=by rw[<-hw1];exact hB1.size
   have hB2:=hB1.trans (hb2.mono hN1);clear z0 z1 g0 g1 hz1 hB1 hb2 HF hr2;have z0:=zd hz2 0;have z1:=zd hz2 1;have g0:=zl hz2 0;have g1:=zl hz2 1;go_wp2_with fail;obtain⟨q1,q2⟩:=jG hz2 (.slice none 0 0) (.slice none 0 0);obtain⟨r1,r2⟩:=jG q1 (.slice none 0 0) (.slice none 0 0);refine bodyPost_ret (v:=.tuple #[.agg #[.slice none 0 0,.slice none 0 0],.int .i64 p,.int .i64 4]) (by simp[results,results14,go_sem,zd r1]) rfl ?_;rw[<-hr3];exact⟨by rw[hw1];exact (hB2.trans (q2 _ (pE _))).trans (r2 _ (pE _)),_,_,rfl,TR.nil _⟩
  |ok u st=>
   rw[hpr] at hp hr2;obtain⟨nv,iv,kv,rfl,hns,hks,hb2⟩:=hp;have hrd:=zaX hpr;have hTR:TR w2 nv iv ⟨st.nodes,st.items⟩:=⟨⟨kv,hns⟩,hks⟩;obtain⟨np,nc,rfl⟩:=hns.form;obtain⟨ip,ic,rfl⟩:=hks.form;have hz2:=zh hb2 hz1;have hN1:N<=w1.heap.size:=by rw[<-hw1];exact hB1.size
   have hB2:=hB1.trans (hb2.mono hN1);clear z0 z1 g0 g1 hz1 hB1 hb2 HF hns hks kv;obtain⟨nodes,items,nx⟩:=st;simp only at hTR hr2 hz2 hB2 hrd ⊢;obtain⟨n,hn⟩:=exE (nodes.length);obtain⟨m,hm⟩:=exE (items.length);rw[hn,hm] at hr2 hTR;have hTR':=zi hTR;have hrd':=zi hrd;replace hn:=zi hn;replace hm:=zi hm;clear hTR hrd;simp only[hn.out,hm.out];have z0:=zd hz2 0;have z1:=zd hz2 1;have g0:=zl hz2 0;have g1:=zl hz2 1;obtain⟨q1,q2⟩:=jG hz2 (.slice np n nc) (.slice ip m ic);have hfar:∀g,g≠N->((w2.setCell ⟨N,0,none⟩ (.slice np n nc)).setCell ⟨N,1,none⟩ (.slice ip m ic)).heap[g]? =w2.heap[g]? :=fun g hg=>(zt hg).trans (zt hg)
   have hT3:=hTR'.out.keepT hz2 hfar;have hB3:=hB2.trans (q2 N (pE _));replace q1:=zi q1;replace hT3:=zi hT3;replace hB3:=zi hB3;clear q2 hfar;by_cases h1000:1000<n
   ·have h1':(1000:Int)<(n:Int):=by omega
    have hr3:((⟨[],[]⟩,0,5):yo×Int×Nat)=r:=by rw[<-hr2.out,if_pos (.inl h1000)]
    go_wp2_with fail;obtain⟨r1,r2⟩:=jG q1.out (.slice none 0 0) (.slice none 0 0);refine bodyPost_ret (v:=.tuple #[.agg #[.slice none 0 0,.slice none 0 0],.int .i64 0,.int .i64 5]) (by simp[results,results14,go_sem,zd r1]) rfl ?_;rw[<-hr3];exact⟨by rw[hw1];exact hB3.out.trans (r2 _ (pE _)),_,_,rfl,TR.nil _⟩
   ·have h1':¬((1000:Int)<(n:Int)):=by omega
    by_cases h40:40<m
    ·have h4':(40:Int)<(m:Int):=by omega
     have hr3:((⟨[],[]⟩,0,5):yo×Int×Nat)=r:=by rw[<-hr2.out,if_pos (.inr (.inl h40))]
     go_wp2_with fail;obtain⟨r1,r2⟩:=jG q1.out (.slice none 0 0) (.slice none 0 0);refine bodyPost_ret (v:=.tuple #[.agg #[.slice none 0 0,.slice none 0 0],.int .i64 0,.int .i64 5]) (by simp[results,results14,go_sem,zd r1]) rfl ?_;rw[<-hr3];exact⟨by rw[hw1];exact hB3.out.trans (r2 _ (pE _)),_,_,rfl,TR.nil _⟩
    ·have h4':¬((40:Int)<(m:Int)):=by omega
     have hD:=zi (QZ ⟨nodes,items⟩ (.slice np n nc) (.slice ip m ic) _ hT3.out hrd'.out.wf hrd'.out.its (by simp only[hn.out];omega) (by simp only[hm.out];omega) (fun x hx=>by have:=hrd'.out.kids x hx;omega));go_wp2_with fail;refine hD.out.mono ?_;rintro e w4 ⟨rfl,hb4⟩;have hz4:=zh hb4 q1.out;have hT4:=hT3.out.below hb4;have hN4:N<=((w2.setCell ⟨N,0,none⟩ (.slice np n nc)).setCell ⟨N,1,none⟩ (.slice ip m ic)).heap.size:=pN (Nat.le_of_eq hw1.symm) hB3.out.size;have hB4:=zi (hB3.out.trans (hb4.mono hN4));have y0:=zd hz4 0;have y1:=zd hz4 1;have x0:=zl hz4 0;have x1:=zl hz4 1;clear hb4 hN4 hB3 hT3 q1 hD z0 z1 g0 g1;replace hT4:=zi hT4;generalize hdp:xJ ⟨nodes,items⟩=dp at *;by_cases hd40:40<dp
     ·have hd':(40:Int)<(dp:Int):=by omega
      have hr3:((⟨[],[]⟩,0,5):yo×Int×Nat)=r:=by rw[<-hr2.out,if_pos (.inr (.inr hd40))]
      go_wp2_with fail;obtain⟨r1,r2⟩:=jG hz4 (.slice none 0 0) (.slice none 0 0);refine bodyPost_ret (v:=.tuple #[.agg #[.slice none 0 0,.slice none 0 0],.int .i64 0,.int .i64 5]) (by simp[results,results14,go_sem,zd r1]) rfl ?_;rw[<-hr3];exact⟨by rw[hw1];exact hB4.out.trans (r2 _ (pE _)),_,_,rfl,TR.nil _⟩
     ·have hd':¬((40:Int)<(dp:Int)):=by omega
      have hr4:=hr2.out;rw[if_neg (by omega)] at hr4;replace hr4:=zi hr4;obtain⟨kv,hns⟩:=hT4.out.nodes;have hIx:=zi (ZA (.slice np n nc) 36 #[] nodes kv (fun x=> !ye x) w4 (enters_of (P:=prog) func36 (by kernel_rfl) rfl) hns (by have:=hn.out;omega) (fun W x u _ _ hk=>by rw[Array.append_empty];exact zdX x u W hk));clear hns;go_wp2_with fail;refine hIx.out.mono ?_;rintro e w5 ⟨rfl,hb5⟩;have hz5:=zh hb5 hz4;have hT5:=zi (hT4.out.below hb5);have hN5:N<=w4.heap.size:=pN (Nat.le_of_eq hw1.symm) hB4.out.size;have hB5:=zi (hB4.out.trans (hb5.mono hN5));clear y0 y1 x0 x1 hb5 hT4 hB4 hz4 hIx hN5;have y0:=zd hz5 0;have y1:=zd hz5 1;have x0:=zl hz5 0;have x1:=zl hz5 1;rcases Jz (fun x=> !ye x) nodes with⟨j,x,hj,hx,hf⟩|⟨hj,hf⟩
      ·rw[hj];rw[hf] at hr4;have hr3:((⟨[],[]⟩,x.at_,3):yo×Int×Nat)=r:=hr4.out;have hjn:(j:Int)<(n:Int):=by
        have:=(gtL hx);rw[hn.out] at this;omega
       have hj0:¬((j:Int)<0):=by omega
       have hj1:(0:Int)<=(j:Int):=by omega
       obtain⟨kv,hns⟩:=hT5.out.nodes;obtain⟨g,off,u,rfl,hA⟩:=hns.at hx;have hgN:∃cs fr,w5.heap[g]? =some (.cells cs 45 fr):=by
        obtain⟨_,_,p',cap',hv,h3⟩:=hns;cases hv;rcases h3 with h3|⟨g',off',cs,fr,hp,hg,_⟩
        ·have h3:nodes=[]:=h3;rw[h3] at hx;simp at hx
        ·cases hp;exact⟨cs,fr,hg⟩
       obtain⟨gcs,gfr,hgh⟩:=hgN;have hgN:g≠N:=uI hgh hz5 (by decide);have hdr:Below w5.heap.size w5 w5.drew:=bR.drew;have a4:=zj hdr hA.c4;have hg6:=zh hdr hgh;have hz6:=zh hdr hz5;clear y0 y1 x0 x1;have y0:=zd hz6 0;have y1:=zd hz6 1;have x0:=zl hz6 0;have x1:=zl hz6 1;have h4:gcs[off+j*5+4]? =some (.int .i64 x.at_):=by rw[<-zd hg6];exact a4
       have hS:∀W,(ziE N g).rel w5.drew W->W.cell? ⟨g,off+j*5+4,none⟩=some (.int .i64 x.at_):=fun W h=>(zd (h.2.trans hg6) _).trans h4
       clear hA hns hr4 hr2;go_wp2_with fail;refine LodeX.jm (RR:=ziE N g) (Xp:=fun _ _=>False) [(0,0),(1,0),(3,0),(2,2),(4,0),(5,0),(6,1),(7,2),(8,0),(9,0)] ?_;refine LodeX.qT ?_;refine LodeX.zZ rfl rfl (fun K hK W hW=>?_);cases hW;go_simp;refine⟨(ziE N g).refl _,hK _ _ ?_⟩;clear hK K
       try simp only[Act.put,yG,yE,yF]
       refine LodeX.qT ?_;refine LodeX.zZ rfl rfl (fun K hK W hW=>?_);cases hW;have v0:=zd hz5 0;have v1:=zd hz5 1;have s0:=zl hz5 0;have s1:=zl hz5 1;go_simp;obtain⟨r1,r2⟩:=jG hz6 (.slice none 0 0) (.slice none 0 0);have r5:=(jG hz5 (.slice none 0 0) (.slice none 0 0)).1;refine⟨⟨r2 N (pE _),(zt hgN).trans (zt hgN)⟩,hK _ _ ?_⟩;clear hK K hS
       try simp only[Act.put,yG,yE,yF]
       have hS:∀W:World,True->True:=fun _ h=>h
       refine LodeX.qT ?_;refine LodeX.zC fun W hW=>?_
       cases hW;go_wp2;refine bodyPost_ret (v:=.tuple #[.agg #[.slice none 0 0,.slice none 0 0],.int .i64 x.at_,.int .i64 3]) (by simp[results,results14,go_sem,zd r5]) rfl ?_;rw[<-hr3];exact⟨by rw[hw1];exact (hB5.out.drew).trans (r2 _ (pE _)),_,_,rfl,TR.nil _⟩
      ·rw[hj];rw[hf] at hr4;have hr3:((⟨nodes,items⟩,0,0):yo×Int×Nat)=r:=hr4.out;have hj0:((-1:Int)<0):=by omega
       go_wp2_with fail;obtain⟨r1,r2⟩:=jG hz5 (.slice np n nc) (.slice ip m ic);refine bodyPost_ret (v:=.tuple #[.agg #[.slice np n nc,.slice ip m ic],.int .i64 0,.int .i64 0]) (by simp[results,results14,go_sem,zd r1]) rfl ?_;rw[<-hr3];exact⟨by rw[hw1];exact hB5.out.trans (r2 _ (pE _)),_,_,rfl,hT5.out.keepT hz5 (fun g hg=>(zt hg).trans (zt hg))⟩
 ·have he':((e0:Int) == 0)=false:=bfE (by omega)
  have hr3:((⟨[],[]⟩,(at_:Int),e0):yo×Int×Nat)=r:=by
   have:=hr.out;rw[if_pos he] at this;exact this
  go_wp2_with fail;obtain⟨r1,r2⟩:=jG hz1 (.slice none 0 0) (.slice none 0 0);refine bodyPost_ret (v:=.tuple #[.agg #[.slice none 0 0,.slice none 0 0],.int .i64 at_,.int .i64 e0]) (by simp[results,results14,go_sem,zd r1]) rfl ?_;rw[<-hr3];exact⟨by rw[hw1];exact hB1.trans (r2 _ (pE _)),_,_,rfl,TR.nil _⟩
end
end Go.Proofs.YtnncmdpopgkibaaGreatDoor
