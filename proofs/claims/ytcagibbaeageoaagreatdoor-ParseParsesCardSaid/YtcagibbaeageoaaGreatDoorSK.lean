import Derived.Test.YtcagibbaeageoaaGreatDoorSH
import Derived.Test.YtcagibbaeageoaaGreatDoorSJ
set_option maxRecDepth 100000
set_option maxHeartbeats 0
set_option linter.all false
variable{W w w':Go.World}{a b iv nv v:Go.Value}{l:List Int}{t:Lode.yO}{N:Nat}{T:Go.TypeId}{fr:Nat×Nat}
namespace Go.Proofs.YtcagibbaeageoaaGreatDoor
section
open Go.RowKit Lode Go.Shelf
attribute [local go_sem ↓] wp_at_zero wp_at_succ
open Go.Proofs.Tryz
def Zq.tk{b:Nat}{l:List yO}(h:Zq w b v l):TK w.heap.size w v l:=by
 obtain⟨hl,⟨rfl,h0⟩|⟨g,cap,cur,rfl,_,hg,_,_,_,ht⟩⟩:=h
 ·exact⟨none,0,by rw[h0],.inl (pT h0)⟩
 ·refine⟨_,cap,rfl,.inr ⟨g,cur,_,(gtA hg),rfl,hg,λj t hj=>?_⟩⟩;have py:=(gtL hj);have hjt:l[j]=t:=(List.getElem?_eq_some_iff.1 hj).2;have hc:=Qy l j py;rw[hjt] at hc;have key:∀(i:Nat) (y:Value),(kf l)[i]? =some y->cur[i]? =some y:=λi y h1=>by
   rw[<-ht,List.getElem?_take] at h1;split at h1
   ·rw[<-Array.getElem?_toList];exact h1
   ·cases h1
  exact⟨key _ _ hc.1,key _ _ hc.2.1,key _ _ hc.2.2⟩
def zlC(h:kj t.text=true):zkP t:=by
 have hl:=zg0 h;simp only[kj,pJ,Bool.not_eq_true',pK,wG] at h;obtain⟨⟨⟨h1,h2⟩,h3⟩,h4⟩:=h;exact⟨λe=>by (rw[e] at h1;cases h1),h2,h3,by omega⟩
def zin(s:List UInt8)(n:Nat):zcS ⟨(vB s).1,n⟩:=λt ht hk=>zlC ((YP s).1 t ht (by simpa using hk))
def TR.nil(w:World):TR w (.slice none 0 0) (.slice none 0 0) ⟨[],[]⟩:=⟨⟨[],rfl,λj x u h=>by simp at h,none,0,rfl,.inl rfl⟩,none,0,rfl,.inl rfl⟩
def JP(r:yJ×Int×Nat)(w:World)(e:Ending)(w':World):Prop:=Below w.heap.size w w'/\∃nv iv,e=.returned (.tuple #[.agg #[nv,iv],.int .i64 r.2.1,.int .i64 r.2.2])/\TR w' nv iv r.1
def zfM(x:Nd)(u:Value)(w:World)(hk:KS w u x.kz):Calls prog 43 #[YH x u] w (ue w (.bool (!xE x))):=by
 have hS:=λW (hb:Below w.heap.size w W)=>Kq x u W (hk.below hb)
 obtain⟨p,c,rfl⟩:=hk.form;clear hk;generalize xE x=b at *;obtain⟨k,t,n,ks,a⟩:=x;simp only[YH] at hS ⊢;generalize ks.length=m at *;have hz:=zk w (.cells #[.int .u8 k,.string ⟨t.toArray⟩,.int .i64 n,.slice p m c,.int .i64 a] 60 (0,0));have hA:=zf w (.cells #[.int .u8 k,.string ⟨t.toArray⟩,.int .i64 n,.slice p m c,.int .i64 a] 60 (0,0));have c0:=zd hz 0;have c1:=zd hz 1;have c2:=zd hz 2;have c3:=zd hz 3;have c4:=zd hz 4;clear hz;replace hS:=zh hS;go_enter func43,ntmps43;go_wp2_with fail;refine (hS.q _ hA).mono ?_;rintro e w1 ⟨rfl,hb⟩;go_wp2;go_ret;exact⟨rfl,zg hA hb⟩
def xJ(h:W.heap[N]? =some (.cells #[a,b] T fr))(x y:Value):((W.setCell ⟨N,0,none⟩ x).setCell ⟨N,1,none⟩ y).heap[N]? =some (.cells #[x,y] T fr)/\∀B,B<=N->Below B W ((W.setCell ⟨N,0,none⟩ x).setCell ⟨N,1,none⟩ y):=
 ⟨zt (zt h 0 x) 1 y,λB hB=>((pG B W).setCell hB _).setCell hB _⟩
def KS.ZY(h:KS w v l)(hN:w.heap[N]? =some (.cells #[a,b] 26 fr))(hf:∀g,g≠N->w'.heap[g]? =w.heap[g]?):KS w' v l:=
 h.keep λg cs fr _ hh=>(hf g (vZ hh hN (by decide))).trans hh
theorem TR.ZY{t:yJ}(h:TR w nv iv t)(hN:w.heap[N]? =some (.cells #[a,b] 26 fr))(hf:∀g,g≠N->w'.heap[g]? =w.heap[g]?):TR w' nv iv t:=by
 obtain⟨⟨kv,a1,a2,p,cap,hv,a3⟩,hi⟩:=h;refine⟨⟨kv,a1,λj x u hx hu=>(a2 j x u hx hu).ZY hN hf,p,cap,hv,a3.imp id ?_⟩,hi.ZY hN hf⟩;rintro ⟨g,off,cs,fr,hp,hg,hc⟩;exact⟨g,off,cs,fr,hp,(hf g (vZ hg hN (by decide))).trans hg,hc⟩
def uN(s:ByteArray)(w:World)(hs:s.size<=1000000000000)(hG:jQ w):Calls prog 11 #[.string s] w (JP (yQ s.data.toList) w):=by
 obtain⟨r,hr⟩:=exE (yQ s.data.toList);rw[hr];unfold yQ at hr;have nL:=zin s.data.toList s.size;have mV:=(YP s.data.toList).2;have rs:=zh (λW (hb:Below w.heap.size w W)=>JD s W hs (hG.later hb));rw[show s.data.toList.length=s.size from rfl] at hr;obtain⟨⟨toks,at_,e0⟩,bE⟩:∃q,vB s.data.toList=q:=⟨_,rfl⟩;rw[bE] at hr nL mV rs;simp only at hr nL mV rs;clear hG bE;have hA:=zf w (.cells #[.slice none 0 0,.slice none 0 0] 26 (0,0));have hz:=zk w (.cells #[.slice none 0 0,.slice none 0 0] 26 (0,0));replace hr:=zh hr;go_enter func11,ntmps11;go_wp2_with fail;refine (rs.q _ hA).mono ?_;rintro e w1 ⟨tv,rfl,hT,mF⟩;have mY:=zi mF hz;have sd:=hA.trans (mF.mono hA.size);have tN:=hT.tk;obtain⟨tp,tc,rfl⟩:=hT.form;clear rs hA hz mF hT;generalize rE:w.heap.size=N at *;have z0:=zd mY 0;have z1:=zd mY 1;have g0:=zj mY 0;have g1:=zj mY 1;by_cases he:e0=0
 ·subst he;have mO:(match qh toks s.size with
   | .bad p=>((⟨[],[]⟩,p,4):yJ×Int×Nat)
   | .ok _ st=>if 1000<st.nz.length\/40<st.iz.length\/40<jO ⟨st.nz,st.iz⟩ then (⟨[],[]⟩,0,5)
    else match st.nz.find? λx=> !xE x with
     |some x=>(⟨[],[]⟩,x.at_,3)
     |none=>(⟨st.nz,st.iz⟩,0,0))=r:=by
   have:=hr.q;rw[if_neg (by simp)] at this;exact this
  replace mO:=zh mO;clear hr;have HF:=zh (zfF s toks (.slice tp toks.length tc) w1 tN nL mV);clear tN nL;go_wp2_with fail;refine HF.q.mono ?_;rintro e w2 hp;cases cY:qh toks s.size with
  |bad p=>
   rw[cY] at hp mO;have mS:((⟨[],[]⟩,p,4):yJ×Int×Nat)=r:=mO.q;obtain⟨rfl,mM⟩:=hp;have mT:=zi mM mY;have cI:N<=w1.heap.size:=by rw[<-rE];exact sd.size
   have rB:=sd.trans (mM.mono cI);clear z0 z1 g0 g1 mY sd mM HF mO;have z0:=zd mT 0;have z1:=zd mT 1;have g0:=zj mT 0;have g1:=zj mT 1;go_wp2_with fail;obtain⟨q1,q2⟩:=xJ mT (.slice none 0 0) (.slice none 0 0);obtain⟨r1,r2⟩:=xJ q1 (.slice none 0 0) (.slice none 0 0);refine bodyPost_ret (v:=.tuple #[.agg #[.slice none 0 0,.slice none 0 0],.int .i64 p,.int .i64 4]) (by simp[results,results11,go_sem,zd r1]) rfl ?_;rw[<-mS];exact⟨by rw[rE];exact (rB.trans (q2 _ (pC _))).trans (r2 _ (pC _)),_,_,rfl,TR.nil _⟩
  |ok u st=>
   rw[cY] at hp mO;obtain⟨nv,iv,kv,rfl,aG,mq,mM⟩:=hp;have bE:=Yk cY;have NL:TR w2 nv iv ⟨st.nz,st.iz⟩:=⟨⟨kv,aG⟩,mq⟩;obtain⟨np,nc,rfl⟩:=aG.form;obtain⟨ip,ic,rfl⟩:=mq.form;have mT:=zi mM mY;have cI:N<=w1.heap.size:=by rw[<-rE];exact sd.size
   have rB:=sd.trans (mM.mono cI);clear z0 z1 g0 g1 mY sd mM HF aG mq kv;obtain⟨nodes,items,nx⟩:=st;simp only at NL mO mT rB bE ⊢;obtain⟨n,hn⟩:=exE (nodes.length);obtain⟨m,hm⟩:=exE (items.length);rw[hn,hm] at mO NL;have DX:=zh NL;have RP:=zh bE;replace hn:=zh hn;replace hm:=zh hm;clear NL bE;simp only[hn.q,hm.q];have z0:=zd mT 0;have z1:=zd mT 1;have g0:=zj mT 0;have g1:=zj mT 1;obtain⟨q1,q2⟩:=xJ mT (.slice np n nc) (.slice ip m ic);have aA:∀g,g≠N->((w2.setCell ⟨N,0,none⟩ (.slice np n nc)).setCell ⟨N,1,none⟩ (.slice ip m ic)).heap[g]? =w2.heap[g]? :=λg hg=>(zv hg).trans (zv hg)
   have Te:=DX.q.ZY mT aA;have sf:=rB.trans (q2 N (pC _));replace q1:=zh q1;replace Te:=zh Te;replace sf:=zh sf;clear q2 aA;by_cases ap:1000<n
   ·have sa:(1000:Int)<(n:Int):=by omega
    have mS:((⟨[],[]⟩,0,5):yJ×Int×Nat)=r:=by rw[<-mO.q,if_pos (.inl ap)]
    go_wp2_with fail;obtain⟨r1,r2⟩:=xJ q1.q (.slice none 0 0) (.slice none 0 0);refine bodyPost_ret (v:=.tuple #[.agg #[.slice none 0 0,.slice none 0 0],.int .i64 0,.int .i64 5]) (by simp[results,results11,go_sem,zd r1]) rfl ?_;rw[<-mS];exact⟨by rw[rE];exact sf.q.trans (r2 _ (pC _)),_,_,rfl,TR.nil _⟩
   ·have sa:¬((1000:Int)<(n:Int)):=by omega
    by_cases TE:40<m
    ·have Ru:(40:Int)<(m:Int):=by omega
     have mS:((⟨[],[]⟩,0,5):yJ×Int×Nat)=r:=by rw[<-mO.q,if_pos (.inr (.inl TE))]
     go_wp2_with fail;obtain⟨r1,r2⟩:=xJ q1.q (.slice none 0 0) (.slice none 0 0);refine bodyPost_ret (v:=.tuple #[.agg #[.slice none 0 0,.slice none 0 0],.int .i64 0,.int .i64 5]) (by simp[results,results11,go_sem,zd r1]) rfl ?_;rw[<-mS];exact⟨by rw[rE];exact sf.q.trans (r2 _ (pC _)),_,_,rfl,TR.nil _⟩
    ·have Ru:¬((40:Int)<(m:Int)):=by omega
     have hD:=zh (Ks ⟨nodes,items⟩ (.slice np n nc) (.slice ip m ic) _ Te.q RP.q.wf RP.q.its (by simp only[hn.q];omega) (by simp only[hm.q];omega) (λx hx=>by have:=RP.q.kz x hx;omega));go_wp2_with fail;refine hD.q.mono ?_;rintro e w4 ⟨rfl,mQ⟩;have cB:=zi mQ q1.q;have gy:=Te.q.below mQ;have LY:N<=((w2.setCell ⟨N,0,none⟩ (.slice np n nc)).setCell ⟨N,1,none⟩ (.slice ip m ic)).heap.size:=pN (Nat.le_of_eq rE.symm) sf.q.size;have cG:=zh (sf.q.trans (mQ.mono LY));have y0:=zd cB 0;have y1:=zd cB 1;have x0:=zj cB 0;have x1:=zj cB 1;clear mQ LY sf Te q1 hD z0 z1 g0 g1;replace gy:=zh gy;generalize eR:jO ⟨nodes,items⟩=dp at *;by_cases dN:40<dp
     ·have WD:(40:Int)<(dp:Int):=by omega
      have mS:((⟨[],[]⟩,0,5):yJ×Int×Nat)=r:=by rw[<-mO.q,if_pos (.inr (.inr dN))]
      go_wp2_with fail;obtain⟨r1,r2⟩:=xJ cB (.slice none 0 0) (.slice none 0 0);refine bodyPost_ret (v:=.tuple #[.agg #[.slice none 0 0,.slice none 0 0],.int .i64 0,.int .i64 5]) (by simp[results,results11,go_sem,zd r1]) rfl ?_;rw[<-mS];exact⟨by rw[rE];exact cG.q.trans (r2 _ (pC _)),_,_,rfl,TR.nil _⟩
     ·have WD:¬((40:Int)<(dp:Int)):=by omega
      have pu:=mO.q;rw[if_neg (by omega)] at pu;replace pu:=zh pu;obtain⟨kv,aG⟩:=gy.q.nz;have aR:=zh (Yo (.slice np n nc) 43 #[] nodes kv (λx=> !xE x) w4 (enters_of (P:=prog) func43 (by kernel_rfl) rfl) aG (by have:=hn.q;omega) (λW x u _ _ hk=>by rw[Array.append_empty];exact zfM x u W hk));clear aG;go_wp2_with fail;refine aR.q.mono ?_;rintro e w5 ⟨rfl,mt⟩;have tA:=zi mt cB;have MF:=zh (gy.q.below mt);have LZ:N<=w4.heap.size:=pN (Nat.le_of_eq rE.symm) cG.q.size;have ek:=zh (cG.q.trans (mt.mono LZ));clear y0 y1 x0 x1 mt gy cG cB aR LZ;have y0:=zd tA 0;have y1:=zd tA 1;have x0:=zj tA 0;have x1:=zj tA 1;rcases KV (λx=> !xE x) nodes with⟨j,x,hj,hx,hf⟩|⟨hj,hf⟩
      ·rw[hj];rw[hf] at pu;have mS:((⟨[],[]⟩,x.at_,3):yJ×Int×Nat)=r:=pu.q;have hjn:(j:Int)<(n:Int):=by
        have:=(gtL hx);rw[hn.q] at this;omega
       have th:¬((j:Int)<0):=by omega
       have Lz:(0:Int)<=(j:Int):=by omega
       obtain⟨kv,aG⟩:=MF.q.nz;obtain⟨g,off,u,rfl,hA⟩:=aG.at hx;have ev:∃cs fr,w5.heap[g]? =some (.cells cs 60 fr):=by
        obtain⟨_,_,p',cap',hv,h3⟩:=aG;cases hv;rcases h3 with h3|⟨g',off',cs,fr,hp,hg,_⟩
        ·have h3:nodes=[]:=h3;rw[h3] at hx;simp at hx
        ·cases hp;exact⟨cs,fr,hg⟩
       obtain⟨gcs,gfr,HE⟩:=ev;have ev:g≠N:=vZ HE tA (by decide);have aS:Below w5.heap.size w5 w5.drew:=bR.drew;have a4:=zl aS hA.c4;have Ls:=zi aS HE;have tP:=zi aS tA;clear y0 y1 x0 x1;have y0:=zd tP 0;have y1:=zd tP 1;have x0:=zj tP 0;have x1:=zj tP 1;have h4:gcs[off+j*5+4]? =some (.int .i64 x.at_):=by rw[<-zd Ls];exact a4
       have hS:∀W,(zkM N g).rel w5.drew W->W.cell? ⟨g,off+j*5+4,none⟩=some (.int .i64 x.at_):=λW h=>(zd (h.2.trans Ls) _).trans h4
       clear hA aG pu mO;go_wp2_with fail;refine LodeX.xC (RR:=zkM N g) (Xp:=λ_ _=>False) [(0,0),(1,0),(3,0),(2,2),(4,0),(5,0),(6,1),(7,2),(8,0),(9,0)] ?_;refine LodeX.xt ?_;refine LodeX.yH rfl rfl (λK hK W hW=>?_);cases hW;go_simp;refine⟨(zkM N g).refl _,hK _ _ ?_⟩;clear hK K
       try simp only[Act.put,yh,yf,yg]
       refine LodeX.xt ?_;refine LodeX.yH rfl rfl (λK hK W hW=>?_);cases hW;have v0:=zd tA 0;have v1:=zd tA 1;have s0:=zj tA 0;have s1:=zj tA 1;go_simp;obtain⟨r1,r2⟩:=xJ tP (.slice none 0 0) (.slice none 0 0);have r5:=(xJ tA (.slice none 0 0) (.slice none 0 0)).1;refine⟨⟨r2 N (pC _),(zv ev).trans (zv ev)⟩,hK _ _ ?_⟩;clear hK K hS
       try simp only[Act.put,yh,yf,yg]
       have hS:∀W:World,True->True:=λ_ h=>h
       refine LodeX.xt ?_;refine LodeX.zF λW hW=>?_
       cases hW;go_wp2;refine bodyPost_ret (v:=.tuple #[.agg #[.slice none 0 0,.slice none 0 0],.int .i64 x.at_,.int .i64 3]) (by simp[results,results11,go_sem,zd r5]) rfl ?_;rw[<-mS];exact⟨by rw[rE];exact (ek.q.drew).trans (r2 _ (pC _)),_,_,rfl,TR.nil _⟩
      ·rw[hj];rw[hf] at pu;have mS:((⟨nodes,items⟩,0,0):yJ×Int×Nat)=r:=pu.q;have th:((-1:Int)<0):=by omega
       go_wp2_with fail;obtain⟨r1,r2⟩:=xJ tA (.slice np n nc) (.slice ip m ic);refine bodyPost_ret (v:=.tuple #[.agg #[.slice np n nc,.slice ip m ic],.int .i64 0,.int .i64 0]) (by simp[results,results11,go_sem,zd r1]) rfl ?_;rw[<-mS];exact⟨by rw[rE];exact ek.q.trans (r2 _ (pC _)),_,_,rfl,MF.q.ZY tA (λg hg=>(zv hg).trans (zv hg))⟩
 ·have SL:((e0:Int) == 0)=false:=bfE (by omega)
  have mS:((⟨[],[]⟩,(at_:Int),e0):yJ×Int×Nat)=r:=by
   have:=hr.q;rw[if_pos he] at this;exact this
  go_wp2_with fail;obtain⟨r1,r2⟩:=xJ mY (.slice none 0 0) (.slice none 0 0);refine bodyPost_ret (v:=.tuple #[.agg #[.slice none 0 0,.slice none 0 0],.int .i64 at_,.int .i64 e0]) (by simp[results,results11,go_sem,zd r1]) rfl ?_;rw[<-mS];exact⟨by rw[rE];exact sd.trans (r2 _ (pC _)),_,_,rfl,TR.nil _⟩
