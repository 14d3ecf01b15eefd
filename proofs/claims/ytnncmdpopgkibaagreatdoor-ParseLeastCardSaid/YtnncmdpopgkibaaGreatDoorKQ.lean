/-
  A part of the proof: contracts of functions; no conditions.
-/
import Derived.Test.YtnncmdpopgkibaaGreatDoorKO
import Derived.Test.YtnncmdpopgkibaaGreatDoorKP
set_option maxRecDepth 100000
set_option maxHeartbeats 40000000
set_option linter.unusedSimpArgs false
set_option linter.unusedVariables false
namespace Go.Proofs.YtnncmdpopgkibaaGreatDoor
section
open Go.RowKit Lode
open Go.Proofs.Tryz
theorem Jg.first{a:Nat}{r:List UInt8}{l:List yp}(h:Jg a r l):∀n,n<=l.length->∃e,e<=r.length/\(n=0->e=0)/\(∀x,0<n->l[n-1]? =some x->((a+e:Nat):Int)=x.at_+(Za (kt x)).length)/\Jg a (r.take e) (l.take n):=by
 induction h with
 | @done a G c h=>
  intro n hn;refine⟨0,pU _,fun _=>rfl,fun x h1 h2=>by simp at h2,?_⟩;simp only[List.take_zero,List.take_nil];exact .done (c:=false) rfl
 | @tok a G T R k t l h1 h2 h3 ih=>
  intro n hn;cases n with
  |zero=>exact⟨0,pU _,fun _=>rfl,fun x h=>absurd h (Nat.lt_irrefl _),.done (c:=false) rfl⟩
  |succ m=>
   obtain⟨e,he,he0,he1,he2⟩:=ih m (by simpa using hn);have htk:(G ++ (T ++ R)).take (G.length+(T.length+e))=G ++ (T ++ R.take e):=by rw[List.take_length_add_append,List.take_length_add_append]
   refine⟨G.length+(T.length+e),by simp only[pC];omega,fun h=>by omega,fun x _ hx=>?_,?_⟩
   ·rw[Nat.add_sub_cancel] at hx;cases m with
    |zero=>
     rw[List.getElem?_cons_zero] at hx;cases hx;have h6:Za (kt ⟨k,t,(a+G.length:Nat)⟩)=T:=(YV h2).2;rw[h6,he0 rfl];simp only;omega
    |succ m=>
     rw[List.getElem?_cons_succ] at hx;have:=he1 x (by omega) (by simpa using hx);omega
   ·rw[htk,List.take_succ_cons];refine .tok h1 ?_ he2;rcases Nat.eq_zero_or_pos e with h|h
    ·have:=VE h2 zhf;rw[List.take_left] at this;rw[h];exact this
    ·refine zb3 h2 ?_;rw[List.take_length_add_append,List.take_length_add_append,List.take_take,Nat.min_eq_left h]
theorem Jg.apart{a:Nat}{r:List UInt8}{l:List yp}(h:Jg a r l):(∀t∈l,(a:Int)<=t.at_/\t.at_<=(a+r.length:Nat))/\l.Pairwise fun x y=>x.at_<y.at_:=by
 induction h with
 |done h=>exact⟨fun t ht=>(by cases ht),List.Pairwise.nil⟩
 | @tok a G T R k t l h1 h2 h3 ih=>
  obtain⟨h4,h5⟩:=ih;have hp:0<T.length:=by
   have:=Yo (YV h2).1.eq;rw[(YV h2).2] at this;exact List.length_pos_iff.2 this
  refine⟨fun x hx=>?_,.cons (fun x hx=>?_) h5⟩
  ·simp only[pC];rcases wD.1 hx with rfl|hx
   ·simp only;omega
   ·have:=h4 x hx;omega
  ·have:=h4 x hx;simp only;omega
theorem zkG{l:List UInt8}(h:ur l=true):xR l<=1000000000:=by
 simp only[ur,pG,Bool.not_eq_true',pH,wF] at h;obtain⟨⟨⟨h1,h2⟩,h3⟩,h4⟩:=h;omega
theorem zi9{s:List UInt8}(h:(Lode.yQ s).2.2=0):∀t∈(Lode.yQ s).1,GdT t:=by
 obtain⟨h1,_,h3,_⟩:=Jt h;obtain⟨h4,_⟩:=Jg.apart h1;obtain⟨h5,_⟩:=zbB.1 h3;intro t ht;have:=h4 t ht;refine⟨by omega,by omega,fun hk=>zkG ((JZ s).1 t ht hk),fun _=>?_⟩;exact h1.k.allSpelt (kt t) (List.mem_map_of_mem ht)
structure Vh(s:List UInt8)(t:yo)(st:zY):Prop where
 rd:(Lode.yQ s).2.2=0
 pg:xO (Lode.yQ s).1 s.length=.ok () st
 eq:t=⟨st.nodes,st.items⟩
 n:st.nodes.length<=1000
 i:st.items.length<=40
 d:xJ ⟨st.nodes,st.items⟩<=40
 z:∀x∈st.nodes,ye x=true
theorem zjR{s:List UInt8}{st:zY}(h:Vh s ⟨st.nodes,st.items⟩ st):zW s=(⟨st.nodes,st.items⟩,0,0):=by
 unfold zW;have h1:=h.rd;have h2:=h.pg;generalize Lode.yQ s=r at *;obtain⟨l,p,e⟩:=r;simp only at h1 h2 ⊢;subst h1;have h3:=h.n;have h4:=h.i;have h5:=h.d;rw[if_neg (by decide),h2];simp only;rw[if_neg (by omega),List.find?_eq_none.2 (fun x hx=>by rw[h.z x hx];decide)]
theorem zhG{s:List UInt8}{t:yo}{p:Int}(h:zW s=(t,p,0)):p=0/\∃st,Vh s t st:=by
 unfold zW at h;cases hr:Lode.yQ s with
 |mk l q=>
  obtain⟨a,e⟩:=q;rw[hr] at h;simp only at h;split at h
  ·rename_i he;injection h with _ h;injection h with _ h;exact absurd h he
  ·rename_i he;have he:e=0:=by simpa using he
   cases hp:xO l s.length with
   |bad x=>rw[hp] at h;simp at h
   |ok u st=>
    rw[hp] at h;simp only at h;split at h
    ·simp at h
    ·rename_i hl;split at h
     ·simp at h
     ·rename_i hf;injection h with h1 h2;injection h2 with h2 _;refine⟨h2.symm,st,?_,?_,h1.symm,by omega,by omega,by omega,fun x hx=>?_⟩
      ·rw[hr];exact he
      ·rw[hr];exact hp
      ·have:=List.find?_eq_none.1 hf x hx;simpa using this
theorem Vh.qr{s:List UInt8}{t:yo}{st:zY}(h:Vh s t st):zR t=0:=by
 rw[h.eq];exact za3 (zi9 h.rd) h.pg h.n h.i h.d h.z
theorem VZ{l l' r:List Nd}(h:l.map qv=l'.map qv ++ r)(i:Nat)(hi:i<l'.length):vP l i=vP l' i:=by
 have h1:=congrArg (fun x=>x[i]?) h;simp only[wQ (by rw[wV];exact hi:i<(l'.map qv).length),pZ] at h1;unfold vP;cases h2:l[i]? <;> cases h3:l'[i]? <;> rw[h2,h3] at h1 <;> simp at h1
 ·exact (show (qv _).kids=(qv _).kids from congrArg Nd.kids h1)
theorem JU{l l' r:List Nd}(h:l.map qv=l'.map qv ++ r)(hs:∀x∈l,ye x=true):∀x∈l',ye x=true:=by
 intro x hx;have h1:qv x∈l.map qv:=by rw[h];exact List.mem_append_left _ (List.mem_map_of_mem hx)
 obtain⟨y,hy,e⟩:=List.mem_map.1 h1;have h2:=hs y hy;have h3:ye (qv y)=ye (qv x):=by rw[e]
 exact (show ye x=ye y from h3.symm).trans h2
theorem zbO{s:List UInt8}{t:yo}{st:zY}(h:Vh s t st){n:Nat}(hn:n<=(Lode.yQ s).1.length):∃e,e<=s.length/\(n=0->e=0)/\(∀x,0<n->(Lode.yQ s).1[n-1]? =some x->(e:Int)=x.at_+(Za (kt x)).length/\kK (kt x))/\
 (zW (s.take e)=(⟨[],[]⟩,(e:Int),4)\/∃u,zW (s.take e)=(u,0,0)/\u.items.length<=t.items.length/\u.nodes.length<=t.nodes.length):=by
 obtain⟨h1,h2,h3,_⟩:=Jt h.rd;obtain⟨e,he,he0,he1,he2⟩:=Jg.first h1 n hn;refine⟨e,he,he0,fun x hx hx2=>⟨by have:=he1 x hx hx2;rw[Nat.zero_add] at this;exact this,h1.k.allSpelt (kt x) (List.mem_map_of_mem (wK hx2))⟩,?_⟩;obtain⟨c1,c2⟩:=zbB.1 h3;have hlen:(s.take e).length=e:=by rw[wU];omega
 have hr:Lode.yQ (s.take e)=((Lode.yQ s).1.take n,0,0):=zeY (zbB.2 ⟨by omega,by rw[pO] at c2 ⊢;exact fun x hx=>c2 x (List.mem_of_mem_take hx)⟩) he2 (by rw[wU];omega);have hE:EB ⟨(Lode.yQ s).1,s.length⟩ ⟨(Lode.yQ s).1.take n,e⟩:=by
  refine⟨by simp only[wU];omega,fun i hi=>?_⟩;simp only[wU] at hi;have hi2:i<(Lode.yQ s).1.length:=by omega
  refine⟨_,_,_,(Lode.yQ s).1[i].at_,glE hi2,?_⟩;simp only;rw[List.getElem?_take_of_lt (by omega),glE hi2];rfl
 rcases Kg hE h.pg with⟨t',h4,h5,_⟩|⟨_,h4⟩
 ·right;obtain⟨⟨r,hr1⟩,q,hq⟩:=h5;have hnl:=congrArg List.length hr1;have hil:=congrArg List.length hq;simp only[wV,pC] at hnl hil;have hd:xJ ⟨t'.nodes,t'.items⟩<=xJ ⟨st.nodes,st.items⟩:=by
   obtain⟨hF,hI,_⟩:=zic h.pg;obtain⟨hF',hI',_⟩:=zic h4;rw[hq] at hI ⊢;obtain⟨m,hm,hm2,hm3,hm4,hm5⟩:=ziK hF hI;have hmm:m=t'.nodes.length:=by
    have e1:=zax _ _ _ _ hm2;have e2:=zax _ _ _ _ hI';cases hrv:t'.items.reverse with
    |nil=>
     rw[hrv] at e1 e2;injection e1 with e1;injection e2 with e2;omega
    |cons k ks=>
     rw[hrv] at e1 e2;unfold ZM at e1 e2;split at e1
     ·cases e1
     ·split at e2
      ·cases e2
      ·omega
   subst hmm;exact YN (fun i hi=>VZ hr1 i hi) hm hm3 fun i h6 h7 k hk=>hm5 i h7 h6 k (by unfold vP at hk;rw[glE h7] at hk;exact hk)
  refine⟨⟨t'.nodes,t'.items⟩,zjR ⟨by rw[hr],by rw[hr,hlen];exact h4,rfl,by have:=h.n;omega,by have:=h.i;omega,pN hd h.d,JU hr1 h.z⟩,?_,?_⟩
  ·rw[h.eq];simp only;omega
  ·rw[h.eq];simp only;omega
 ·left;unfold zW;rw[hr,hlen];simp only;rw[if_neg (by decide),h4]
theorem zdW{s s':List UInt8}(h:(Lode.yQ s).2.2=0)(h':(Lode.yQ s').2.2=0)(hk:(Lode.yQ s').1.map kt=(Lode.yQ s).1.map kt):(zW s').2.2=(zW s).2.2/\((zW s).2.2=0->QK (zW s).1 (zW s').1=true):=by
 have hlen:(Lode.yQ s').1.length=(Lode.yQ s).1.length:=by have:=congrArg List.length hk;simpa using this
 have eb:∀{l l':List yp} {a b:Nat},l'.map kt=l.map kt->EB ⟨l,a⟩ ⟨l',b⟩:=fun {l l' a b} e=>by
  have hl:l'.length=l.length:=by have:=congrArg List.length e;simpa using this
  refine⟨Nat.le_of_eq hl,fun i hi=>?_⟩;simp only at hi;have e1:=congrArg (fun x=>x[i]?) e;have hi2:i<l.length:=by omega
  simp only[pZ,glE hi,glE hi2,Option.map_some,pQ,kt,Prod.mk.injEq] at e1;refine⟨l[i].kind,l[i].text,l[i].at_,l'[i].at_,glE hi2,?_⟩;rw[<-e1.1,<-e1.2];exact glE hi
 have h1:=fun t hp=>Kg (len:=s.length) (len':=s'.length) (t:=t) (eb hk) hp
 have h2:=fun t hp=>Kg (len:=s'.length) (len':=s.length) (t:=t) (eb hk.symm) hp
 unfold zW;generalize Lode.yQ s=r at *;generalize Lode.yQ s'=r' at *;obtain⟨l,p,e⟩:=r;obtain⟨l',p',e'⟩:=r';simp only at h h' hlen h1 h2 ⊢;subst h;subst h';rw[if_neg (by decide),if_neg (by decide)];cases hp:xO l s.length with
 |bad x=>
  cases hp':xO l' s'.length with
  |bad y=>simp
  |ok u st'=>
   rcases h2 st' hp' with⟨t,h3,_⟩|⟨h3,_⟩
   ·rw[hp] at h3;cases h3
   ·omega
 |ok u st=>
  rcases h1 st hp with⟨st',h3,_,h4⟩|⟨h3,_⟩
  ·have h4:=h4 hlen;rw[h3];simp only;have hn:st.nodes.map qv=st'.nodes.map qv ++ []:=by rw[h4.nodes,wN]
   have hn':st'.nodes.map qv=st.nodes.map qv ++ []:=by rw[h4.nodes,wN]
   have hl:st'.nodes.length=st.nodes.length:=by have:=congrArg List.length h4.nodes;simpa using this
   have hd1:=YN (a:=st.items) (q:=[]) (l:=st.nodes) (l':=st'.nodes) (fun i hi=>VZ hn i hi) (by omega) (fun k hk=>by cases hk) (fun i h1 h2=>by omega);have hd2:=YN (a:=st.items) (q:=[]) (l:=st'.nodes) (l':=st.nodes) (fun i hi=>VZ hn' i hi) (by omega) (fun k hk=>by cases hk) (fun i h1 h2=>by omega);rw[wN] at hd1 hd2;have hd:xJ ⟨st'.nodes,st'.items⟩=xJ ⟨st.nodes,st.items⟩:=by rw[h4.items];omega
   rw[hl,hd,h4.items];split
   ·simp
   ·cases hf:st.nodes.find? (fun x=> !ye x) with
    |none=>
     rw[List.find?_eq_none.2 (fun x hx=>by
      have h5:∀y∈st.nodes,ye y=true:=fun y hy=>by simpa using List.find?_eq_none.1 hf y hy
      rw[JU hn h5 x hx];decide)]
     refine⟨rfl,fun _=>?_⟩;unfold QK;simp only[decide_true,Bool.true_and,pH];exact h4.nodes.symm
    |some x=>
     cases hf':st'.nodes.find? (fun x=> !ye x) with
     |none=>
      have h5:∀y∈st'.nodes,ye y=true:=fun y hy=>by simpa using List.find?_eq_none.1 hf' y hy
      have h6:=JU hn' h5 x (List.mem_of_find?_eq_some hf);have h7:=List.find?_some hf;rw[h6] at h7;cases h7
     |some y=>simp
  ·omega
end
end Go.Proofs.YtnncmdpopgkibaaGreatDoor
namespace Lode
structure Fm(t:yo):Prop where
 full:xL t.nodes t.nodes.length
 its:Vk t.nodes (jH t.nodes t.nodes.length) t.items.reverse ((t.nodes.length:Int)-1)=some (-1)
 right:∀x∈t.nodes,yj t.nodes x=true
theorem Fm.form{t:yo}(h:Fm t):YM t=true:=by
 obtain⟨h1,h2,h3⟩:=h;have hlen:=Ym t.nodes t.nodes.length;unfold xL at h1;unfold YM;rw[h2];simp only[pG,pO,pS];refine⟨?_,h3,trivial⟩;simp;omega
structure Ve(t:yo):Prop where
 fm:Fm t
 n:t.nodes.length<=1000
 i:t.items.length<=40
 d:xJ t<=40
 z:∀x∈t.nodes,ye x=true
theorem Ve.qr{t:yo}(h:Ve t):zR t=0:=by
 have hk:∀x∈t.nodes,x.kids.length<=1999:=fun x hx=>pN (Yg h.fm.full hx) (by have:=h.n;omega)
 have h1:=h.n;have h2:=h.i;have h3:=h.d;unfold zR;rw[if_neg (by omega),Yy t hk,h.fm.form,if_neg (by decide),if_neg (by omega),if_neg];simp only[gC,not_exists,not_and];intro x hx;rw[h.z x hx];decide
theorem Ve.kids{t:yo}(h:Ve t):∀x∈t.nodes,x.kids.length<=1000:=fun x hx=>pN (Yg h.fm.full hx) h.n
theorem zhN(x y:Nd):qv x=qv y↔x.kind=y.kind/\x.text=y.text/\x.n=y.n/\x.kids=y.kids:=by
 obtain⟨_,_,_,_,_⟩:=x;obtain⟨_,_,_,_,_⟩:=y;simp[qv]
def zej(a b:yo):Nat:=if zR a≠0 then zR a else zR b
end Lode
namespace Go.Proofs.YtnncmdpopgkibaaGreatDoor
section
open Go.RowKit Lode Go.Shelf
attribute [local go_sem ↓] Go.wp_at_zero Go.wp_at_succ
open Go.Proofs.Tryz
theorem zcf(v1 v2:Value)(l m:List Int)(w:World)(h1:KSo w v1 l)(h2:KSo w v2 m)(hl:l.length<=1000000):
 Calls prog 82 #[v1,v2] w (kQ w (.bool (decide (l=m)))):=by
 obtain⟨p1,c1,rfl⟩:=h1.form;obtain⟨p2,c2,rfl⟩:=h2.form;by_cases hlen:l.length=m.length
 ·have Hlen:=zi hlen;rw[<-hlen] at h2 ⊢;obtain⟨n,hn⟩:=exE (l.length);rw[hn] at h1 h2 hl ⊢;have H1:=zi h1;have H2:=zi h2;have Hn:=zi hn;clear hlen hn h1 h2;go_enter func82,ntmps82;go_wp2;go_loopw [13] (fun i wr=>∃k:Nat,i=.int .i64 k/\k<=n/\Below w.heap.size w wr/\Hid (∀j,j<k->l[j]? =m[j]?)) (fun i _=>n-(intOf i).toNat)
  case atStart=>exact⟨0,rfl,by omega,pF _ _,zi (fun j hj=>absurd hj (wG _))⟩
  case round=>
   obtain⟨k,rfl,hk,hb,hall⟩:=hrel;by_cases hlt:k<n
   ·have hlt':(k:Int)<(n:Int):=by omega
    have hk0:¬((k:Int)<0):=by omega
    have hy:=pJ ((k:Int)+1) (by omega);have hkl:k<l.length:=by rw[Hn.out];exact hlt
    have hkm:k<m.length:=by rw[<-Hlen.out];exact hkl
    obtain⟨g1,o1,rfl,c0⟩:=(H1.out.below hb).at hkl;obtain⟨g2,o2,rfl,d0⟩:=(H2.out.below hb).at hkm;have hx:l[k]? =some (l.getD k 0):=by rw[pA,glE hkl];rfl
    have hy':m[k]? =some (m.getD k 0):=by rw[pA,glE hkm];rfl
    generalize l.getD k 0=x at *;generalize m.getD k 0=y at *;have Hx:=zi hx;have Hy:=zi hy';clear hx hy';by_cases he:x=y
    ·subst he;go_wp2_with fail;go_quiet (fail);go_wp2;go_roundw
     case rel=>
      refine⟨k+1,by go_num,by omega,ym hb nq,zi (fun j hj=>?_)⟩;by_cases e:j=k
      ·subst e;rw[Hx.out,Hy.out]
      ·exact hall.out j (by omega)
     case measure=>simp[intOf];omega
    ·have he':(x != y)=true:=by rw[wT];exact he
     have hd:decide (l=m)=false:=wR (fun e=>he (by
      have h1:=Hx.out;rw[e,Hy.out] at h1;cases h1;rfl))
     rw[hd];go_wp2_with fail;go_quiet (fail);go_wp2;go_ret;exact⟨rfl,ym hb nq⟩
   ·have hlt':¬((k:Int)<(n:Int)):=by omega
    have hd:decide (l=m)=true:=wX (List.ext_getElem? (fun j=>by
     by_cases hj:j<n
     ·exact hall.out j (by omega)
     ·rw[wP (by rw[Hn.out];omega),wP (by rw[<-Hlen.out,Hn.out];omega)]))
    rw[hd];go_wp2;go_ret;exact⟨rfl,hb⟩
 ·have hd:decide (l=m)=false:=wR (fun e=>hlen (by rw[e]));have hne:((l.length:Int) != (m.length:Int))=true:=by rw[wT];omega
  rw[hd];clear h1 h2;generalize l.length=a at *;generalize m.length=b at *;go_enter func82,ntmps82;go_wp2;go_ret;exact⟨rfl,pF _ _⟩
theorem zga(x y:Nd)(u v:Value)(w:World)(hu:KSo w u x.kids)(hv:KSo w v y.kids)(hl:x.kids.length<=1000000):
 Calls prog 81 #[uV x u,uV y v] w (kQ w (.bool (decide (qv x=qv y)))):=by
 obtain⟨p1,q1,rfl⟩:=hu.form;obtain⟨p2,q2,rfl⟩:=hv.form;have hI:=zi (fun W (hW:Below w.heap.size w W)=>zcf _ _ _ _ W (hu.below hW) (hv.below hW) hl);rw[show decide (qv x=qv y)=decide (x.kind=y.kind/\x.text=y.text/\x.n=y.n/\x.kids=y.kids) from by simp only[zhN]];obtain⟨k1,t1,n1,ks1,a1⟩:=x;obtain⟨k2,t2,n2,ks2,a2⟩:=y;unfold uV;simp only at hI ⊢;clear hu hv hl;generalize ks1.length=m1 at *;generalize ks2.length=m2 at *;have h0:=zJ [.cells #[.int .u8 k1,.string ⟨t1.toArray⟩,.int .i64 n1,.slice p1 m1 q1,.int .i64 a1] 45 (0,0),.cells #[.int .u8 k2,.string ⟨t2.toArray⟩,.int .i64 n2,.slice p2 m2 q2,.int .i64 a2] 45 (0,0)] w;have hAl:Below w.heap.size w _:=zX [.cells #[.int .u8 k1,.string ⟨t1.toArray⟩,.int .i64 n1,.slice p1 m1 q1,.int .i64 a1] 45 (0,0),.cells #[.int .u8 k2,.string ⟨t2.toArray⟩,.int .i64 n2,.slice p2 m2 q2,.int .i64 a2] 45 (0,0)] w;simp only[List.foldl_cons,List.foldl_nil] at hAl h0;have r0:=h0 0 _ rfl;rw[Nat.add_zero] at r0;have r1:=h0 1 _ rfl;have c0:=zd r0 0;have c1:=zd r0 1;have c2:=zd r0 2;have c3:=zd r0 3;have d0:=zd r1 0;have d1:=zd r1 1;have d2:=zd r1 2;have d3:=zd r1 3;have HAl:=zi hAl;clear h0 hAl r0 r1;go_enter func81,ntmps81;by_cases hk:k1=k2
 ·subst hk;by_cases ht:t1=t2
  ·subst ht;by_cases hn:n1=n2
   ·subst hn;rw[show decide (k1=k1/\t1=t1/\n1=n1/\ks1=ks2)=decide (ks1=ks2) from by simp];generalize decide (ks1=ks2)=b at *;go_wp2_with (go_at_call 82;refine (hI.out _ HAl.out).mono ?_;rintro e w1 ⟨rfl,hb1⟩);go_ret;exact⟨rfl,zg HAl.out hb1⟩
   ·have hd:(n1 == n2)=false:=bfE hn
    rw[show decide (k1=k1/\t1=t1/\n1=n2/\ks1=ks2)=false from by simp[hn]];replace hn:=zi hn;go_wp2_with (go_at_call 82;refine (hI.out _ HAl.out).mono ?_;rintro e w1 ⟨rfl,hb1⟩);go_ret;exact⟨rfl,HAl.out⟩
  ·rw[show decide (k1=k1/\t1=t2/\n1=n2/\ks1=ks2)=false from by simp[ht]];have Ht:=zi ht;go_wp2_with (go_at_call 82;refine (hI.out _ HAl.out).mono ?_;rintro e w1 ⟨rfl,hb1⟩);go_ret;exact⟨rfl,HAl.out⟩
 ·have hd:((k1:Int) == (k2:Int))=false:=bfE (by omega)
  rw[show decide (k1=k2/\t1=t2/\n1=n2/\ks1=ks2)=false from by simp[hk]];replace hk:=zi hk;go_wp2_with (go_at_call 82;refine (hI.out _ HAl.out).mono ?_;rintro e w1 ⟨rfl,hb1⟩);go_ret;exact⟨rfl,HAl.out⟩
theorem zig(v1 v2:Value)(l m:List Nd)(w:World)(h1:NSo w v1 l)(h2:NSo w v2 m)(hl:l.length<=1000000)(hk:∀x∈l,x.kids.length<=1000000):
 Calls prog 83 #[v1,v2,.func (.func 81) #[] #[]] w (kQ w (.bool (decide (l.map qv=m.map qv)))):=by
 obtain⟨p1,c1,rfl⟩:=h1.form;obtain⟨p2,c2,rfl⟩:=h2.form;by_cases hlen:l.length=m.length
 ·have Hlen:=zi hlen;rw[<-hlen] at h2 ⊢;obtain⟨n,hn⟩:=exE (l.length);rw[hn] at h1 h2 hl ⊢;have H1:=zi h1;have H2:=zi h2;have Hn:=zi hn;have HK:=zi hk;have heg:=zi (enters_of (P:=prog) func81 (by kernel_rfl) rfl);clear hlen hn h1 h2 hk;go_enter func83,ntmps83;go_wp2;go_loopw [17] (fun i wr=>∃k:Nat,i=.int .i64 k/\k<=n/\Below w.heap.size w wr/\Hid (∀(j:Nat) (x y:Nd),j<k->l[j]? =some x->m[j]? =some y->qv x=qv y)) (fun i _=>n-(intOf i).toNat)
  case atStart=>exact⟨0,rfl,by omega,pF _ _,zi (fun j x y hj=>absurd hj (wG _))⟩
  case round=>
   obtain⟨k,rfl,hkn,hb,hall⟩:=hrel;by_cases hlt:k<n
   ·have hlt':(k:Int)<(n:Int):=by omega
    have hk0:¬((k:Int)<0):=by omega
    have hy:=pJ ((k:Int)+1) (by omega);obtain⟨x,hx⟩:∃x,l[k]? =some x:=⟨_,glE (by rw[Hn.out];exact hlt)⟩;obtain⟨y,hy'⟩:∃y,m[k]? =some y:=⟨_,glE (by rw[<-Hlen.out,Hn.out];exact hlt)⟩;obtain⟨g1,o1,u1,rfl,N1⟩:=(H1.out.below hb).at hx;obtain⟨g2,o2,u2,rfl,N2⟩:=(H2.out.below hb).at hy';have hC:=zi (fun W (hW:Below wr.heap.size wr W)=>zga x y u1 u2 W (N1.kids.below hW) (N2.kids.below hW) (HK.out x (wK hx)));have heg':=fun W=>heg.out (#[uV x u1,uV y u2]) W
    obtain⟨up1,q1,rfl⟩:=N1.kids.form;obtain⟨up2,q2,rfl⟩:=N2.kids.form;obtain⟨a0,a1,a2,a3,a4,_⟩:=N1;obtain⟨e0,e1,e2,e3,e4,_⟩:=N2;have HX:=zi (And.intro hx hy');obtain⟨b,hbq⟩:=exE (decide (qv x=qv y));rw[hbq] at hC;replace hbq:=zi hbq;clear hx hy';unfold uV at hC heg';obtain⟨k1,t1,n1,ks1,at1⟩:=x;obtain⟨k2,t2,n2,ks2,at2⟩:=y;simp only at a0 a1 a2 a3 a4 e0 e1 e2 e3 e4 hC heg';generalize ks1.length=m1 at *;generalize ks2.length=m2 at *;have hA1:=zf wr (.cells #[.int .u8 k1,.string ⟨t1.toArray⟩,.int .i64 n1,.slice up1 m1 q1,.int .i64 at1] 45 (0,0));have E0:=zj hA1 e0;have E1:=zj hA1 e1;have E2:=zj hA1 e2;have E3:=zj hA1 e3;have E4:=zj hA1 e4;have h0:=zJ [.cells #[.int .u8 k1,.string ⟨t1.toArray⟩,.int .i64 n1,.slice up1 m1 q1,.int .i64 at1] 45 (0,0),.cells #[.int .u8 k2,.string ⟨t2.toArray⟩,.int .i64 n2,.slice up2 m2 q2,.int .i64 at2] 45 (0,0)] wr;have hAl:Below wr.heap.size wr _:=zX [.cells #[.int .u8 k1,.string ⟨t1.toArray⟩,.int .i64 n1,.slice up1 m1 q1,.int .i64 at1] 45 (0,0),.cells #[.int .u8 k2,.string ⟨t2.toArray⟩,.int .i64 n2,.slice up2 m2 q2,.int .i64 at2] 45 (0,0)] wr;simp only[List.foldl_cons,List.foldl_nil] at hAl h0;have r0:=h0 0 _ rfl;rw[Nat.add_zero] at r0;have r1:=h0 1 _ rfl;have z0:=zd r0 0;have z1:=zd r0 1;have z2:=zd r0 2;have z3:=zd r0 3;have z4:=zd r0 4;have y0:=zd r1 0;have y1:=zd r1 1;have y2:=zd r1 2;have y3:=zd r1 3;have y4:=zd r1 4;have HAl:=zi hAl;clear h0 hAl r0 r1 hA1 e0 e1 e2 e3 e4;go_wp2_with fail;refine (hC.out _ HAl.out).mono ?_;rintro e w1 ⟨rfl,hb1⟩;have hbw:=zg hb (zg HAl.out hb1);cases b with
    |true=>
     go_wp2;go_roundw
     case rel=>exact⟨k+1,by go_num,by omega,hbw,zi (fun j xx yy hj hxx hyy=>by
      by_cases e:j=k
      ·rw[e] at hxx hyy;rw[HX.out.1] at hxx;rw[HX.out.2] at hyy;cases hxx;cases hyy;exact of_decide_eq_true hbq.out
      ·exact hall.out j xx yy (by omega) hxx hyy)⟩
     case measure=>simp[intOf];omega
    |false=>
     have hd:decide (l.map qv=m.map qv)=false:=wR (fun h=>by
      have h2:=congrArg (·[k]?) h;simp only[pZ,HX.out.1,HX.out.2,Option.map_some,pQ] at h2;exact of_decide_eq_false hbq.out h2)
     replace hd:=zi hd;go_wp2;go_ret;exact⟨by rw[hd.out];rfl,hbw⟩
   ·have hlt':¬((k:Int)<(n:Int)):=by omega
    have hd:decide (l.map qv=m.map qv)=true:=wX (List.ext_getElem? (fun j=>by
     rw[pZ,pZ];by_cases hj:j<n
     ·have hx:=glE (show j<l.length by rw[Hn.out];exact hj);have hy:=glE (show j<m.length by rw[<-Hlen.out,Hn.out];exact hj);rw[hx,hy];exact congrArg some (hall.out j _ _ (by omega) hx hy)
     ·rw[wP (by rw[Hn.out];omega),wP (by rw[<-Hlen.out,Hn.out];omega)]))
    rw[hd];go_wp2;go_ret;exact⟨rfl,hb⟩
 ·have hd:decide (l.map qv=m.map qv)=false:=wR (fun e=>hlen (by simpa using congrArg List.length e));have hne:((l.length:Int) != (m.length:Int))=true:=by rw[wT];omega
  rw[hd];clear h1 h2 hk;generalize l.length=a at *;generalize m.length=b at *;go_enter func83,ntmps83;go_wp2;go_ret;exact⟨rfl,pF _ _⟩
theorem zep(a b:yo)(nv iv nv2 iv2:Value)(p:Nat)(w:World)(hp:w.heap[p]? =some (.cells #[nv,iv,nv2,iv2] 26 (0,0)))(ha:TR w nv iv a)(hb:TR w nv2 iv2 b)(hG:qH w)(oka:Zo a)(okb:Zo b):
 Calls prog 55 #[.slice (some ⟨p,0,none⟩) 2 2] w (kQ w (.int .i64 (zej a b:Nat))):=by
 have hA:=zi (fun W (hW:Below w.heap.size w W)=>ub a nv iv W (ha.below hW) (hG.later hW) oka);have hB:=zi (fun W (hW:Below w.heap.size w W)=>ub b nv2 iv2 W (hb.below hW) (hG.later hW) okb);obtain⟨np,nc,ip,ic,rfl,rfl⟩:=ha.form;obtain⟨np2,nc2,ip2,ic2,rfl,rfl⟩:=hb.form;unfold zej;generalize zR a=ca at *;generalize zR b=cb at *;generalize a.nodes.length=n1 at *;generalize a.items.length=m1 at *;generalize b.nodes.length=n2 at *;generalize b.items.length=m2 at *;have HP:=zi hp;clear hp ha hb hG;obtain⟨R,hR⟩:=exE ((if ca≠0 then ca else cb));rw[hR];have HR:=zi hR;clear hR;go_enter func55,ntmps55;go_wp2;go_loopw [8] (fun i wr=>∃k:Nat,i=.int .i64 k/\k<=2/\Below w.heap.size w wr/\Hid (0<k->ca=0)/\Hid (1<k->cb=0)) (fun i _=>2-(intOf i).toNat)
 case atStart=>exact⟨0,rfl,by omega,pF _ _,zi (by omega),zi (by omega)⟩
 case round=>
  obtain⟨k,rfl,hk,hbw,h1,h2⟩:=hrel;have hPr:=zh hbw HP.out;have c0:=zd hPr 0;have c1:=zd hPr 1;have c2:=zd hPr 2;have c3:=zd hPr 3;clear hPr;obtain rfl|rfl|rfl:k=0\/k=1\/k=2:=by omega
  ·have hA1:=zf wr (.cells #[.slice np n1 nc,.slice ip m1 ic] 26 (0,0));have hz:=zk wr (.cells #[.slice np n1 nc,.slice ip m1 ic] 26 (0,0));have z0:=zd hz 0;have z1:=zd hz 1;have HA1:=zi hA1;clear hz hA1;go_wp2_with fail;refine (hA.out _ (zg hbw HA1.out)).mono ?_;rintro e w1 ⟨rfl,hb1⟩;have hbe:=zg hbw (zg HA1.out hb1);by_cases hc:ca=0
   ·subst hc;go_wp2;go_roundw
    case rel=>exact⟨1,by go_num,by omega,hbe,zi (by first|trivial|omega|simp),zi (by first|trivial|omega|simp)⟩
    case measure=>simp[intOf]
   ·have hc':((ca:Int) != 0)=true:=by rw[wT];omega
    have hq:=HR.out;rw[if_pos hc] at hq;subst hq;go_wp2;go_ret;exact⟨rfl,hbe⟩
  ·have hA1:=zf wr (.cells #[.slice np2 n2 nc2,.slice ip2 m2 ic2] 26 (0,0));have hz:=zk wr (.cells #[.slice np2 n2 nc2,.slice ip2 m2 ic2] 26 (0,0));have z0:=zd hz 0;have z1:=zd hz 1;have HA1:=zi hA1;clear hz hA1;go_wp2_with fail;refine (hB.out _ (zg hbw HA1.out)).mono ?_;rintro e w1 ⟨rfl,hb1⟩;have hbe:=zg hbw (zg HA1.out hb1);by_cases hc:cb=0
   ·subst hc;go_wp2;go_roundw
    case rel=>exact⟨2,by go_num,by omega,hbe,zi (by first|trivial|exact fun _=>h1.out (by omega)),zi (by first|trivial|omega|simp)⟩
    case measure=>simp[intOf]
   ·have hc':((cb:Int) != 0)=true:=by rw[wT];omega
    have hq:=HR.out;rw[h1.out (by omega),if_neg (by simp)] at hq;subst hq;go_wp2;go_ret;exact⟨rfl,hbe⟩
  ·have hq:=HR.out;rw[h1.out (by omega),h2.out (by omega),if_neg (by simp)] at hq;subst hq;go_wp2;go_ret;exact⟨rfl,hbw⟩
def RdB(w:World)(r:Bool×Nat)(e:Ending)(w':World):Prop:=e=.returned (.tuple #[.bool r.1,.int .i64 (r.2:Nat)])/\Below w.heap.size w w'
theorem zby(a b:yo):zej a b≠0/\Xi a b=(false,zej a b)\/zej a b=0/\Xi a b=(QK a b,0):=by
 unfold zej Xi;by_cases h:zR a=0
 ·rw[h,if_neg (by simp),if_neg (by simp)];by_cases h2:zR b=0
  ·rw[h2];right;simp
  ·left;simp[h2]
 ·left;simp[h]
theorem zgV(a b:yo)(nv iv nv2 iv2:Value)(w:World)(ha:TR w nv iv a)(hb:TR w nv2 iv2 b)(hG:qH w)(oka:Zo a)(okb:Zo b):
 Calls prog 49 #[.agg #[nv,iv],.agg #[nv2,iv2]] w (RdB w (Xi a b)):=by
 have hCk:=zi (fun (p:Nat) W (hW:Below w.heap.size w W) (hp:W.heap[p]? =some (.cells #[nv,iv,nv2,iv2] 26 (0,0)))=>zep a b nv iv nv2 iv2 p W hp (ha.below hW) (hb.below hW) (hG.later hW) oka okb);have hIt:=zi (fun W (hW:Below w.heap.size w W)=>zcf iv iv2 a.items b.items W (ha.o.items.below hW) (hb.o.items.below hW) (by have:=oka.items;omega));have hNo:=zi (fun W (hW:Below w.heap.size w W)=>zig nv nv2 a.nodes b.nodes W (ha.o.nodes.below hW) (hb.o.nodes.below hW) (by have:=oka.nodes;omega) (fun x hx=>by have:=oka.kids x hx;omega));have hcs:=zby a b;unfold QK at hcs;obtain⟨np,nc,ip,ic,rfl,rfl⟩:=ha.form;obtain⟨np2,nc2,ip2,ic2,rfl,rfl⟩:=hb.form;generalize Xi a b=r at *;generalize zej a b=er at *;generalize decide (a.items=b.items)=q1 at *;generalize decide (a.nodes.map qv=b.nodes.map qv)=q2 at *;generalize a.nodes.length=n1 at *;generalize a.items.length=m1 at *;generalize b.nodes.length=n2 at *;generalize b.items.length=m2 at *;have h0:=zJ [.cells #[.slice np n1 nc,.slice ip m1 ic] 26 (0,0),.cells #[.slice np2 n2 nc2,.slice ip2 m2 ic2] 26 (0,0),.cells #[.slice np n1 nc,.slice ip m1 ic,.slice np2 n2 nc2,.slice ip2 m2 ic2] 26 (0,0)] w;have hAl:Below w.heap.size w _:=zX [.cells #[.slice np n1 nc,.slice ip m1 ic] 26 (0,0),.cells #[.slice np2 n2 nc2,.slice ip2 m2 ic2] 26 (0,0),.cells #[.slice np n1 nc,.slice ip m1 ic,.slice np2 n2 nc2,.slice ip2 m2 ic2] 26 (0,0)] w;have h00:=zJ [.cells #[.slice np n1 nc,.slice ip m1 ic] 26 (0,0),.cells #[.slice np2 n2 nc2,.slice ip2 m2 ic2] 26 (0,0)] w;simp only[List.foldl_cons,List.foldl_nil] at hAl h0 h00;have s0:=h00 0 _ rfl;have s1:=h00 1 _ rfl;have r0:=h0 0 _ rfl;rw[Nat.add_zero] at r0 s0;have r1:=h0 1 _ rfl;have r2:=h0 2 _ rfl;have c0:=zd s0 0;have c1:=zd s0 1;have d0:=zd s1 0;have d1:=zd s1 1;have R0:=zi r0;have R1:=zi r1;have R2:=zi r2;have HAl:=zi hAl;clear h0 h00 hAl r0 r1 r2 s0 s1 ha hb hG;go_enter func49,ntmps49;go_wp2_with fail;refine (hCk.out _ _ HAl.out R2.out).mono ?_;rintro e w1 ⟨rfl,hb1⟩;have hbe:=zg HAl.out hb1;have v0:=zh hb1 R0.out;have v1:=zh hb1 R1.out;have z0:=zd v0 0;have z1:=zd v0 1;have y0:=zd v1 0;have y1:=zd v1 1;clear v0 v1 c0 c1 d0 d1;rcases hcs with⟨he,rfl⟩|⟨he,rfl⟩
 ·have he':((er:Int) != 0)=true:=by rw[wT];omega
  go_wp2;go_ret2;exact⟨rfl,hbe⟩
 ·subst he;have hI2:=zi (hIt.out w1 hbe);cases q1 with
  |false=>
   go_wp2_with fail;refine hI2.out.mono ?_;rintro e w2 ⟨rfl,hb2⟩;go_wp2;go_ret2;exact⟨rfl,zg hbe hb2⟩
  |true=>
   go_wp2_with fail;refine hI2.out.mono ?_;rintro e w2 ⟨rfl,hb2⟩;have hbe2:=zg hbe hb2;have hN2:=zi (hNo.out w2 hbe2);have z0:=zj hb2 z0;have y0:=zj hb2 y0;go_wp2_with fail;refine hN2.out.mono ?_;rintro e w3 ⟨rfl,hb3⟩;go_wp2;go_ret2;exact⟨rfl,zg hbe2 hb3⟩
theorem zeG{t:yo}(h:Ve t):Zo t/\∀x∈t.nodes,x.kids.length<=1000:=by
 have hk:=h.kids;have hn:=h.n;have hi:=h.i;refine⟨⟨fun x hx=>?_,fun x hx=>?_,fun x hx=>by have:=hk x hx;omega,by omega,by omega⟩,hk⟩
 ·have:=uH (yY (h.fm.right x hx)).1;omega
 ·obtain⟨_,_,_,_,h5,_⟩:=yY (h.fm.right x hx);unfold jz at h5;split at h5
  ·have:x.text=[]:=by simpa using h5
   rw[this];exact pU _
  ·have h6:(yV (xf x.kind) x.text).2=0:=by simpa using h5
   have h7:kK (xf x.kind,x.text):=h6;exact pN (ZR h7) (by omega)
theorem Vh.well{s:List UInt8}{t:yo}{st:zY}(h:Vh s t st):Ve t:=by
 have hc:=h.qr;rw[h.eq] at hc ⊢;obtain⟨hF,hI,_⟩:=zic h.pg;have hk:∀x∈st.nodes,x.kids.length<=1999:=fun x hx=>pN (Yg hF hx) (by have:=h.n;omega)
 have hf:qD ⟨st.nodes,st.items⟩=true:=by
  unfold zR at hc;split at hc
  ·cases hc
  ·split at hc
   ·cases hc
   ·rename_i h2;simpa using h2
 rw[Yy _ hk] at hf;obtain⟨a,b,c⟩:=Zj hf;exact⟨⟨a,b,c⟩,h.n,h.i,h.d,h.z⟩
def pdT(s:List UInt8):yo×Bool:=if 700<s.length then (⟨[],[]⟩,false) else ((zW s).1,(zW s).2.2 == 0)
def zmg(r:yo×Bool)(w:World)(e:Ending)(w':World):Prop:=Below w.heap.size w w'/\∃nv iv,e=.returned (.tuple #[.agg #[nv,iv],.bool r.2])/\TR w' nv iv r.1
theorem zfj(s:ByteArray)(w:World)(hG:qH w):Calls prog 10 #[.string s] w (zmg (pdT s.data.toList) w):=by
 have hA:=zf w (.cells #[.slice none 0 0,.slice none 0 0] 26 (0,0));have hZ:=zk w (.cells #[.slice none 0 0,.slice none 0 0] 26 (0,0));by_cases hb:700<s.size
 ·have hb':(700:Int)<(s.size:Int):=by omega
  have e:pdT s.data.toList=(⟨[],[]⟩,false):=by unfold pdT;rw[if_pos (by simpa using hb)]
  rw[e];have z0:=zd hZ 0;have z1:=zd hZ 1;have f0:=zl hZ 0;have f1:=zl hZ 1;replace hA:=zi hA;replace hZ:=zi hZ;go_enter func10,ntmps10;go_wp2;refine bodyPost_ret (v:=.tuple #[.agg #[.slice none 0 0,.slice none 0 0],.bool false]) (by simp[results,results10,go_sem,zd hZ.out]) rfl ?_;exact⟨hA.out,_,_,rfl,TR.nil _⟩
 ·have hb':¬((700:Int)<(s.size:Int)):=by omega
  have e:pdT s.data.toList=((zW s.data.toList).1,(zW s.data.toList).2.2 == 0):=by unfold pdT;rw[if_neg (by simpa using hb)]
  rw[e];have hP:=zi (kW s _ (by omega) (hG.later hA));generalize zW s.data.toList=r at *;obtain⟨t,a,c⟩:=r;replace hA:=zi hA;replace hZ:=zi hZ;go_enter func10,ntmps10;go_wp2_with fail;refine hP.out.mono ?_;rintro e w1 ⟨hb1,nv,iv,rfl,hT1⟩;obtain⟨p1,c1,q1,d1,rfl,rfl⟩:=hT1.o.form;simp only at hT1;generalize hnl:t.nodes.length=nl at *;generalize hil:t.items.length=il at *;have hB:=zf w1 (.cells #[.slice p1 nl c1,.slice q1 il d1] 26 (0,0));have hY:=zk w1 (.cells #[.slice p1 nl c1,.slice q1 il d1] 26 (0,0));have hb1B:=zg hb1 hB;have hZ2:=zh hb1B hZ.out;have hT2:=zi (hT1.below hB);have hA2:=zi (zg hA.out hb1B);have hz0:=zk w1 (.cells #[.slice none 0 0,.slice none 0 0] 26 (0,0));have a0:=zd hz0 0;have a1:=zd hz0 1;have b0:=zl hz0 0;have b1:=zl hz0 1;have y0:=zd hY 0;have y1:=zd hY 1;have z0:=zd hZ2 0;have z1:=zd hZ2 1;have f0:=zl hZ2 0;have f1:=zl hZ2 1;replace hnl:=zi hnl;replace hil:=zi hil;have HZ2:=zi hZ2;clear hT1 hb1 hB hY hb1B hZ2 hz0 hA hZ;go_wp2_with fail;have hcc:((c:Int) == 0)=(c == 0):=by rw[pW,pS,pS];omega
  have zA:=zr HZ2.out 0 (.slice p1 nl c1);have zB:=zr zA 1 (.slice q1 il d1);refine bodyPost_ret (v:=.tuple #[.agg #[.slice p1 nl c1,.slice q1 il d1],.bool (c == 0)]) (by simp[results,results10,go_sem,zd zB,hcc]) rfl ?_;exact⟨(hA2.out.setCell (pE _) _).setCell (pE _) _,_,_,rfl,hT2.out.keepT HZ2.out fun g hg=>(zt hg).trans (zt hg)⟩
def zj9(base:Nat):LodeX.Rel:=⟨fun a b=>Below base a b,fun w=>pF _ w,fun h k=>h.trans k,Eq,fun _=>rfl,Eq.trans,fun h=>h▸pF _ _⟩
theorem zgP(a b:yo)(nv iv nv2 iv2:Value)(w:World)(ha:TRo w nv iv a)(hb:TRo w nv2 iv2 b)(hG:qH w)(wa:Ve a)(wb:Ve b):Calls prog 22 #[.agg #[nv,iv],.agg #[nv2,iv2]] w (kQ w (.bool (QK a b))):=by
 obtain⟨oka,ka⟩:=zeG wa;obtain⟨okb,kb⟩:=zeG wb;have hEq:Xi a b=(QK a b,0):=by unfold Xi;rw[wa.qr,wb.qr,if_neg (by decide),if_neg (by decide)]
 obtain⟨np,nc,ip,ic,rfl,rfl⟩:=ha.form;obtain⟨np2,nc2,ip2,ic2,rfl,rfl⟩:=hb.form;have h0:=zJ [.cells #[.slice np a.nodes.length nc,.slice ip a.items.length ic] 26 (0,0),.cells #[.slice np2 b.nodes.length nc2,.slice ip2 b.items.length ic2] 26 (0,0)] w;have hA:Below w.heap.size w _:=zX [.cells #[.slice np a.nodes.length nc,.slice ip a.items.length ic] 26 (0,0),.cells #[.slice np2 b.nodes.length nc2,.slice ip2 b.items.length ic2] 26 (0,0)] w;simp only[List.foldl_cons,List.foldl_nil] at hA h0;have HZ:=zi (h0 0 _ rfl);have HQ:=zi (h0 1 _ rfl);have HA:=zi hA;have HG:=zi hG;have Ha:=zi ha;have Hb:=zi hb;have hna:=wa.n;have hnb:=wb.n;have hia:=wa.i;have hib:=wb.i;clear h0 hA hG ha hb;go_enter func22,ntmps22;go_wp2_with fail;generalize hW:(w.alloc (.cells #[.slice np a.nodes.length nc,.slice ip a.items.length ic] 26 (0,0))).alloc (.cells #[.slice np2 b.nodes.length nc2,.slice ip2 b.items.length ic2] 26 (0,0))=W at *;clear hW;have hsz:w.heap.size+2<=W.heap.size:=by
  have:=(gtA HQ.out);omega
 have hS:∀V,(zj9 (w.heap.size+2)).rel W.drew V->(V.cell? ⟨w.heap.size,0,none⟩=some (.slice np a.nodes.length nc)/\V.cell? ⟨w.heap.size,1,none⟩=some (.slice ip a.items.length ic)/\V.cell? ⟨w.heap.size+1,0,none⟩=some (.slice np2 b.nodes.length nc2)/\V.cell? ⟨w.heap.size+1,1,none⟩=some (.slice ip2 b.items.length ic2)):=fun V h=>by
  have k0:V.heap[w.heap.size]? =_:=(Below.block (w:=W.drew) h w.heap.size (by omega)).trans HZ.out;have k1:V.heap[w.heap.size+1]? =_:=(Below.block (w:=W.drew) h (w.heap.size+1) (by omega)).trans HQ.out;exact⟨zd k0 0,zd k0 1,zd k1 0,zd k1 1⟩
 refine LodeX.jm (RR:=zj9 (w.heap.size+2)) (Xp:=fun _ _=>False) [(0,1),(2,1),(1,2),(3,2),(4,2),(5,0),(6,0),(7,0),(8,0),(9,0)] ?_;refine LodeX.qT ?_;refine LodeX.zZ rfl rfl (fun K hK V hV=>?_);cases hV;go_simp;refine (ze4 a _ _ _ (Ha.out.below (HA.out.trans ((pF _ W).drew))) (by omega) (by omega) (fun x hx=>by have:=ka x hx;omega)).mono ?_;rintro e w3 ⟨nv3,iv3,rfl,⟨kv3,O3⟩,B3⟩;have B3':Below W.heap.size W.drew w3:=B3;have hs3:W.heap.size<=w3.heap.size:=B3'.size;refine⟨B3'.mono hsz,hK _ _ ?_⟩;clear hK K
 try simp only[Act.put,yG,yE,yF]
 refine LodeX.zZ rfl rfl (fun K hK V hV=>?_);cases hV;go_simp;refine (ze4 b _ _ _ ((Hb.out.below (HA.out.trans ((pF _ W).drew))).below B3) (by omega) (by omega) (fun x hx=>by have:=kb x hx;omega)).mono ?_;rintro e w4 ⟨nv4,iv4,rfl,⟨kv4,O4⟩,B4⟩;have hs4:w3.heap.size<=w4.heap.size:=B4.size;refine⟨B4.mono (by omega),hK _ _ ?_⟩;clear hK K
 try simp only[Act.put,yG,yE,yF]
 refine LodeX.zZ rfl rfl (fun K hK V hV=>?_);cases hV;go_simp;have hw4:Below w.heap.size w w4:=(HA.out.trans ((pF _ W).drew)).trans ((B3'.mono (by omega)).trans (B4.mono (by omega)));have hE:=zgV a b nv3 iv3 nv4 iv4 w4 (O3.tr.below B4) O4.tr (HG.out.later hw4) oka okb;rw[hEq] at hE;refine hE.mono ?_;rintro e w5 ⟨rfl,B5⟩;have hs5:=B5.size;refine⟨B5.mono (by omega),hK _ _ ?_⟩;clear hK K
 try simp only[Act.put,yG,yE,yF]
 refine LodeX.qT ?_;refine LodeX.zC fun W6 hW6=>?_
 cases hW6;have hw5:=zi (hw4.trans (B5.mono (by omega)));clear hS HZ HQ O3 O4 B3 B3' B4 B5 hE hEq;generalize QK a b=r at *;cases r
 ·go_wp2;go_ret;exact⟨rfl,hw5.out⟩
 ·go_wp2;go_ret;exact⟨rfl,hw5.out⟩
theorem ze6{t:yo}(h:okB t=true):Zo t/\∀x∈t.nodes,x.kids.length<=1000:=by
 unfold okB at h;simp only[pG,pH,pO] at h;obtain⟨⟨h1,h2⟩,h3⟩:=h;exact⟨⟨fun x hx=>(h1 x hx).1.1,fun x hx=>by have:=(h1 x hx).1.2;omega,fun x hx=>by have:=(h1 x hx).2;omega,by omega,by omega⟩,fun x hx=>(h1 x hx).2⟩
end
section
open Go.RowKit Lode Go.Shelf
attribute [local go_sem ↓] Go.wp_at_zero Go.wp_at_succ
attribute [local irreducible] zW uD YZ zdB za4 zhF zbx okB
open Go.Proofs.Tryz
theorem kd1:(⟨k1.toArray⟩:ByteArray).data.toList=k1:=rfl
theorem kd2:(⟨k2.toArray⟩:ByteArray).data.toList=k2:=rfl
theorem kd3:(⟨k3.toArray⟩:ByteArray).data.toList=k3:=rfl
theorem kd4:(⟨k4.toArray⟩:ByteArray).data.toList=k4:=rfl
theorem kd5:(⟨k5.toArray⟩:ByteArray).data.toList=k5:=rfl
theorem kd6:(⟨k6.toArray⟩:ByteArray).data.toList=k6:=rfl
theorem Yt{α β:Type}{p:α×β}{a:α}{b:β}(h1:p.1=a)(h2:p.2=b):p=(a,b):=Prod.ext h1 h2
theorem zd3(w:World)(hG:qH w):Calls prog 11 #[] w (kQ w (.bool true)):=by
 have HG:=zi hG;obtain⟨T1,hT1⟩:∃T,(zW k1).1=T:=⟨_,rfl⟩;obtain⟨T4,hT4⟩:∃T,(zW k4).1=T:=⟨_,rfl⟩;obtain⟨T5,hT5⟩:∃T,(zW k5).1=T:=⟨_,rfl⟩;obtain⟨T6,hT6⟩:∃T,(zW k6).1=T:=⟨_,rfl⟩;obtain⟨A6,hA6⟩:∃a,(zW k6).2.1=a:=⟨_,rfl⟩;obtain⟨S3,hS3⟩:∃s,(uD k3).1=s:=⟨_,rfl⟩;have hk1:=ze6 (t:=T1) (by rw[<-hT1];exact zmb);have hk6:=ze6 (t:=T6) (by rw[<-hT6];exact zl4);have hn1:T1.nodes.length=7:=by rw[<-hT1];exact zma
 have HP1:=zi (fun (W:World) (hb:Below w.heap.size w W)=>(show Calls prog 14 #[.string ⟨#[114,111,111,116,32,97,58,32,105,110,116,32,61,32,49,32,43,32,98,32,42,32,50,59]⟩] W (Qz (T1,0,0) W) from by
  have:=kW ⟨k1.toArray⟩ W (by show k1.length<=_;decide) (HG.out.later hb);rw[kd1,show zW k1=(T1,0,0) from Yt hT1 kn1] at this;exact this))
 have HP4:=zi (fun (W:World) (hb:Below w.heap.size w W)=>(show Calls prog 14 #[.string ⟨#[114,111,111,116,32,99,58,32,99,104,97,110,32,105,110,116,32,61,32,99,104,97,110,32,105,110,116,40,57,41,59]⟩] W (Qz (T4,19,3) W) from by
  have:=kW ⟨k4.toArray⟩ W (by show k4.length<=_;decide) (HG.out.later hb);rw[kd4,show zW k4=(T4,19,3) from Yt hT4 kn4] at this;exact this))
 have HP5:=zi (fun (W:World) (hb:Below w.heap.size w W)=>(show Calls prog 14 #[.string ⟨#[102,117,110,32,102,40,41,58,32,117,110,105,116,32,123,32,97,40,41,32,58,61,32,49,59,32,125]⟩] W (Qz (T5,20,4) W) from by
  have:=kW ⟨k5.toArray⟩ W (by show k5.length<=_;decide) (HG.out.later hb);rw[kd5,show zW k5=(T5,20,4) from Yt hT5 kn5] at this;exact this))
 have HP6:=zi (fun (W:World) (hb:Below w.heap.size w W)=>(show Calls prog 14 #[.string ⟨#[102,117,110,32,102,40,41,58,32,117,110,105,116,32,123,32,40,84,41,40,49,41,59,32,45,32,45,97,59,32,40,116,104,114,111,119,32,97,41,46,102,59,32,40,110,111,116,32,97,41,32,61,61,32,98,32,125]⟩] W (Qz (T6,A6,0) W) from by
  have:=kW ⟨k6.toArray⟩ W (by show k6.length<=_;decide) (HG.out.later hb);rw[kd6,show zW k6=(T6,A6,0) from Yt hT6 (Yt hA6 kn6)] at this;exact this))
 have HP2:=zi (fun (W:World) (hb:Below w.heap.size w W)=>(show Calls prog 21 #[.string ⟨#[102,117,110,32,102,40,41,58,117,110,105,116,123,40,103,41,40,40,49,41,41,59,125]⟩] W (zk2 W (k2o,0,0)) from by
  have:=Vg ⟨k2.toArray⟩ W (by show k2.length<=_;decide) (HG.out.later hb) (fun _=>by rw[kd2];exact (ze6 zl6).1);rw[kd2,show uD k2=(k2o,0,0) from kn2] at this;exact this))
 have HP3:=zi (fun (W:World) (hb:Below w.heap.size w W)=>(show Calls prog 21 #[.string ⟨#[102,117,110,32,102,32,40,32,41,32,58,32,117,110,105,116,32,123,32,40,103,41,40,40,49,41,41,59,32,59,32,125]⟩] W (zk2 W (S3,29,4)) from by
  have:=Vg ⟨k3.toArray⟩ W (by show k3.length<=_;decide) (HG.out.later hb) (fun _=>by rw[kd3];exact (ze6 zl5).1);rw[kd3,show uD k3=(S3,29,4) from Yt hS3 kn3] at this;exact this))
 have HS:=zi (fun (nv iv:Value) (W:World) (hb:Below w.heap.size w W) (hT:TR W nv iv T1)=>(show Calls prog 15 #[.agg #[nv,iv],.int .i64 5] W (RdI W (5,0)) from by
  have:=ziA T1 nv iv 5 W hT (HG.out.later hb) hk1.1 hk1.2;rw[<-hT1,zl8] at this;exact this))
 have HU:=zi (fun (nv iv:Value) (W:World) (hb:Below w.heap.size w W) (hT:TR W nv iv T1)=>(show Calls prog 19 #[.agg #[nv,iv],.int .i64 4] W (RdI W (5,0)) from by
  have:=zex T1 nv iv 4 W hT (HG.out.later hb) hk1.1;rw[<-hT1,zl7] at this;exact this))
 have HW:=zi (fun (nv iv:Value) (W:World) (hb:Below w.heap.size w W) (hT:TR W nv iv T1)=>(show Calls prog 17 #[.agg #[nv,iv],.int .i64 3] W (RdL W ([6,5,4,3],0)) from by
  have:=ziG T1 nv iv 3 W hT (HG.out.later hb) hk1.1 hk1.2;rw[<-hT1,zl9] at this;exact this))
 have HF:=zi (fun (nv iv:Value) (W:World) (hb:Below w.heap.size w W) (hT:TR W nv iv T1)=>(show Calls prog 18 #[.agg #[nv,iv],.int .i64 20] W (RdI W (4,0)) from by
  have:=ziN T1 nv iv 20 W hT (HG.out.later hb) hk1.1;rw[<-hT1,zmc] at this;exact this))
 have HN:=zi (fun (nv iv:Value) (W:World) (hb:Below w.heap.size w W) (hT:TR W nv iv T6)=>(show Calls prog 20 #[.agg #[nv,iv]] W (zlD W (k6o,0)) from by
  have:=zay T6 nv iv W hT (HG.out.later hb) hk6.1;rw[<-hT6,zl3] at this;exact this))
 clear hT1 hT4 hT5 hT6 hA6 hS3 hk1 hk6 hG;go_enter func11,ntmps11;go_wp2_with fail;refine (HP1.out w bR).mono ?_;rintro e w1 ⟨hb1,nv1,iv1,rfl,hTr1⟩;obtain⟨np1,nc1,ip1,ic1,rfl,rfl⟩:=hTr1.form;rw[hn1] at hTr1 ⊢;generalize T1.items.length=m1 at *;have HT1:=zi hTr1;have hz1:=zk w1 (.cells #[.slice np1 7 nc1,.slice ip1 m1 ic1] 26 (0,0));have B1:=zg hb1 (zf w1 (.cells #[.slice np1 7 nc1,.slice ip1 m1 ic1] 26 (0,0)));have hA1:=zf w1 (.cells #[.slice np1 7 nc1,.slice ip1 m1 ic1] 26 (0,0));have HZ1:=zi hz1;clear hTr1 hz1 hn1;go_wp2_with fail;refine (HP2.out _ B1).mono ?_;rintro e w2 ⟨rfl,hb2⟩;have B2:=zg B1 hb2;go_wp2_with fail;refine (HP3.out _ B2).mono ?_;rintro e w3 ⟨rfl,hb3⟩;have B3:=zg B2 hb3;have C3:=zg hb2 hb3;go_wp2_with fail;refine (HP4.out _ B3).mono ?_;rintro e w4 ⟨hb4,nv4,iv4,rfl,hTr4⟩;obtain⟨np4,nc4,ip4,ic4,rfl,rfl⟩:=hTr4.form;have HT4:=zi hTr4;clear hTr4;generalize T4.nodes.length=n4 at *;generalize T4.items.length=m4 at *;have hA4:=zf w4 (.cells #[.slice np4 n4 nc4,.slice ip4 m4 ic4] 26 (0,0));have HZ4:=zi (zk w4 (.cells #[.slice np4 n4 nc4,.slice ip4 m4 ic4] 26 (0,0)));have hB4:=zg hb4 hA4;have B4:=zg B3 hB4;have C4:=zg C3 hB4;go_wp2_with fail;refine (HP5.out _ B4).mono ?_;rintro e w5 ⟨hb5,nv5,iv5,rfl,hTr5⟩;obtain⟨np5,nc5,ip5,ic5,rfl,rfl⟩:=hTr5.form;have HT5:=zi hTr5;clear hTr5;generalize T5.nodes.length=n5 at *;generalize T5.items.length=m5 at *;have hA5:=zf w5 (.cells #[.slice np5 n5 nc5,.slice ip5 m5 ic5] 26 (0,0));have HZ5:=zi (zk w5 (.cells #[.slice np5 n5 nc5,.slice ip5 m5 ic5] 26 (0,0)));have hB5:=zg hb5 hA5;have B5:=zg B4 hB5;have C5:=zg C4 hB5;have c0:=zd (zh C5 HZ1.out) 0;have c1:=zd (zh C5 HZ1.out) 1;go_wp2_with fail;clear c0 c1;refine (HS.out _ _ _ B5 (HT1.out.below (zg hA1 C5))).mono ?_;rintro e wa ⟨rfl,hba⟩;have Ba:=zg B5 hba;have Ca:=zg C5 hba;have c0:=zd (zh Ca HZ1.out) 0;have c1:=zd (zh Ca HZ1.out) 1;go_wp2_with fail;clear c0 c1;refine (HU.out _ _ _ Ba (HT1.out.below (zg hA1 Ca))).mono ?_;rintro e wb ⟨rfl,hbb⟩;have Bb:=zg Ba hbb;have Cb:=zg Ca hbb;have c0:=zd (zh Cb HZ1.out) 0;have c1:=zd (zh Cb HZ1.out) 1;go_wp2_with fail;clear c0 c1;refine (HW.out _ _ _ Bb (HT1.out.below (zg hA1 Cb))).mono ?_;rintro e wc ⟨pv,rfl,hpv,hbc⟩;obtain⟨pp,pc,rfl⟩:=hpv.form;have HPV:=zi hpv;clear hpv;have Bc:=zg Bb hbc;have Cc:=zg Cb hbc;have c0:=zd (zh Cc HZ1.out) 0;have c1:=zd (zh Cc HZ1.out) 1;go_wp2_with fail;clear c0 c1;refine (HF.out _ _ _ Bc (HT1.out.below (zg hA1 Cc))).mono ?_;rintro e wd ⟨rfl,hbd⟩;have Bd:=zg Bc hbd;have Cd:=zg Cc hbd;go_wp2_with fail;refine (HP6.out _ Bd).mono ?_;rintro e w6 ⟨hb6,nv6,iv6,rfl,hTr6⟩;obtain⟨np6,nc6,ip6,ic6,rfl,rfl⟩:=hTr6.form;have HT6:=zi hTr6;clear hTr6;generalize T6.nodes.length=n6 at *;generalize T6.items.length=m6 at *;have hA6:=zf w6 (.cells #[.slice np6 n6 nc6,.slice ip6 m6 ic6] 26 (0,0));have HZ6:=zi (zk w6 (.cells #[.slice np6 n6 nc6,.slice ip6 m6 ic6] 26 (0,0)));have hB6:=zg hb6 hA6;have B6:=zg Bd hB6;have C6:=zg Cd hB6;have e0:=zd HZ6.out 0;have e1:=zd HZ6.out 1;go_wp2_with fail;clear e0 e1;refine (HN.out _ _ _ B6 (HT6.out.below hA6)).mono ?_;rintro e we ⟨rfl,hbe⟩;have Be:=zg B6 hbe;have Ce:=zg C6 hbe;have c0:=zd (zh Ce HZ1.out) 0;have c1:=zd (zh Ce HZ1.out) 1;have HI:=zi (fun W (hb:Below we.heap.size we W) (u:Value) (hu:KSo W u [6,5,4,3])=>zdH (.slice pp 4 pc) u [6,5,4,3] [6,5,4,3] W (HPV.out.o.below (zg (zg hbd (zg hB6 hbe)) hb)) hu (by decide));go_wp2_with fail;refine (HI.out _ (zf _ _) _ (KS.lit we [6,5,4,3]).o).mono ?_;rintro e wf ⟨rfl,hbf⟩;simp only[decide_true];have Bf:=zg (zg Be (zf _ _)) hbf;clear HI c0 c1;unfold k6o;go_wp2;go_ret;exact⟨by simp,Bf⟩
end
end Go.Proofs.YtnncmdpopgkibaaGreatDoor
