/-
  A part of the proof: contracts of functions; no conditions.
-/
import Derived.Test.YtnncmdpopgkibaaGreatDoorKH
import Derived.Test.YtnncmdpopgkibaaGreatDoorKL
import Derived.Deep.Upon
set_option maxRecDepth 100000
set_option maxHeartbeats 40000000
set_option linter.unusedSimpArgs false
set_option linter.unusedVariables false
namespace Go.Proofs.YtnncmdpopgkibaaGreatDoor
section
open Go.RowKit Lode Go.Shelf
attribute [local go_sem ↓] Go.wp_at_zero Go.wp_at_succ
open Go.Proofs.Tryz
theorem KS.set{w:World}{v:Value}{l:List Int}(h:KS w v l){b i:Nat}{cs:Array Value}{T:TypeId}{fr:Nat×Nat}(hb:w.heap[b]? =some (.cells cs T fr))(hT:T≠3)(y:Value):KS (w.setCell ⟨b,i,.none⟩ y) v l:=
 h.fri (base:=0) ⟨(pF 0 w).setCell (pU _) y,fun k cs' fr' hk=>by
  rw[zt (fun e=>by
   subst e;rw[hb] at hk;cases hk;exact hT rfl)]
  exact hk⟩
theorem zi8{w:World}{base g cap:Nat}{l:List Int}{u:Value}(hown:w.ownsRow base 3 1 (.slice (some ⟨g,0,none⟩) 0 cap) 0 [])(hu:KSo w u l)(hn:l.length<=1000000)(hbase:base<=w.heap.size)(ty:TypeId):
 ∃v' w',(Builtin.append_ #[24,24] ty #[.slice (some ⟨g,0,none⟩) 0 cap,u]).run prog w=.ok v' w'/\w'.ownsRow base 3 1 v' l.length (yZ l)/\Below g w w':=by
 obtain⟨i0,hi,hz0,hz1,hz2⟩:=info_parts Tryz.infoIntP;obtain⟨p,cp,rfl,hu⟩:=hu;by_cases h0:l=[]
 ·subst h0;have hS:Src prog i0.size 24 (.slice p ([]:List Int).length cp) 0 [] w:=by
   cases p with
   |none=>exact Src.ofNil w underlying24 cp
   |some a=>exact Src.ofSlice w underlying24 a 0 cp [] (by simp) (fun j u h=>by cases h) (fun u h=>by cases h)
  refine⟨_,_,run_append_nothing w 24 24 ty 3 i0 underlying24 hi (some ⟨g,0,none⟩) 0 cap (pU _) _ hS,hown,pF _ _⟩
 ·obtain⟨g2,off,rfl,hc⟩:=hu.resolve_left h0;obtain⟨v',w',hr,h2,h3,_⟩:=run_append_own (P:=prog) w base 24 ty 3 i0 _ 1 8 underlying24 hi hz0 hz1 hz2 rfl (by decide) _ 0 [] hown ⟨g2,off,none⟩ l.length cp (yZ l) (by simp) (fun j u hj=>by
   have hj':j<l.length:=by have:=(gtL hj);simpa using this
   have:=hc j hj';have e:(⟨g2,off,none⟩:Addr).add j=⟨g2,off+j,none⟩:=by unfold Addr.add;split <;> simp_all
   rw[e,this];rw[pZ,glE hj'] at hj;cases hj;rw[pA,glE hj'];rfl) (KA l) (by unfold maxLen;omega) (by omega) hbase
  rw[Nat.zero_add,wJ] at h2;refine⟨v',w',hr,h2,?_⟩;exact⟨h3.os,h3.tape,h3.output,h3.size,fun k hk=>h3.block k (wI hk (by
   have:g<w.heap.size:=(hown.lt g rfl).2;omega)) (fun e=>by simp only[Value.ownBlock,pQ] at e;omega)⟩
theorem Xs{w:World}{ops:Array Oper}{rest:List Oper}{o:Oper}{a:Act}{Q:Exit->Act->World->Prop}(hgd:o.guard=none)(s x:Operand)
 (ho:o.op=.call {callee:=.builtin .append,args:= #[s,x],argTypes:= #[24,24]})
 {base g cap:Nat} {l:List Int} {u:Value} (hs:a.eval s=.slice (some ⟨g,0,none⟩) 0 cap) (hown:w.ownsRow base 3 1 (.slice (some ⟨g,0,none⟩) 0 cap) 0 []) (hx:a.eval x=u) (hu:KSo w u l) (hn:l.length<=1000000) (hbase:base<=w.heap.size)
 (h:∀p cp w',w'.ownsRow base 3 1 (.slice p l.length cp) l.length (yZ l)->Below g w w'->wpList prog ops Q rest (a.put o.dst (.slice p l.length cp)) w'):wpList prog ops Q (o :: rest) a w:=by
 refine wpList_plain hgd fun K hK=>?_
 obtain⟨v',w',hr,h2,h3⟩:=zi8 hown hu hn hbase o.type;obtain⟨p,cp,rfl⟩:=(KS.own h2).form;unfold Oper.wp;simp[execOp,ho,resolve,invoke,builtin,hs,hx,hr,Result.andThen];exact hK _ _ (h p cp w' h2 h3)
theorem zgX{w:World}{o:Oper}{a:Act}{K:Act->World->Prop}{X:Exit->Act->World->Prop}(s x:Operand)
 (ho:o.op=.call {callee:=.builtin .append,args:= #[s,x],argTypes:= #[23,23]})
 {base n:Nat} {v:Value} {xs:List Value} (hs:a.eval s=v) (hown:w.ownsRow base 45 5 v n xs) {b:Nat} {y:Nd} {u:Value} (hx:a.eval x=.slice (some ⟨b,0,none⟩) 1 1) (hu:w.heap[b]? =some (.cells (jS y u).toArray 45 (0,0))) (hu1:u.oneCell'=true) (hn:n<=1000000) (hbase:base<=w.heap.size)
 (h:∀v' w',w'.ownsRow base 45 5 v' (n+1) (xs ++ jS y u)->w.grownBy w' v.ownBlock->K (a.put o.dst v') w'):o.wp prog a w K X:=by
 obtain⟨i0,hi,hz0,hz1,hz2⟩:=info_parts Tryz.infoNode;obtain⟨v',w',hr,h2,h3,_⟩:=run_append_own (P:=prog) w base 23 o.type 45 i0 _ 5 64 underlying23 hi hz0 hz1 hz2 rfl (by decide) _ n xs hown ⟨b,0,none⟩ 1 1 (jS y u) rfl (fun j z hz=>by
  have e1:(⟨b,0,none⟩:Addr).add j=⟨b,j,none⟩:=by unfold Addr.add;split <;> simp_all
  rw[e1,zd hu j,pV];exact hz) (fun z hz=>by
  simp[jS] at hz;rcases hz with rfl|rfl|rfl|rfl|rfl <;> first|rfl|exact hu1) (by unfold maxLen;omega) (by omega) hbase
 unfold Oper.wp;simp[execOp,ho,resolve,invoke,builtin,hs,hx,hr,Result.andThen];exact h v' w' h2 h3
theorem za9{w:World}{B n sz:Nat}{E:TypeId}{v:Value}{xs:List Value}(h:w.ownsRow B E sz v n xs){k:Nat}{cs:Array Value}{T:TypeId}{fr:Nat×Nat}(hk:w.heap[k]? =some (.cells cs T fr))(hT:T≠E):v.ownBlock≠some k:=fun e=>by
 obtain⟨_,⟨hv,_⟩|⟨g,cap,cur,hv,_,hh,_⟩⟩:=h
 ·rw[hv] at e;cases e
 ·rw[hv] at e;simp only[Value.ownBlock,pQ] at e;rw[e,hk] at hh;cases hh;exact hT rfl
theorem FrI.trans{base:Nat}{a b c:World}(h:FrI base a b)(k:FrI base b c):FrI base a c:=⟨h.b.trans k.b,fun n cs fr hn=>k.keep n cs fr (h.keep n cs fr hn)⟩
theorem FrI.of_below{base:Nat}{w w':World}(hb:base<=w.heap.size)(h:Below w.heap.size w w'):FrI base w w':=⟨h.mono hb,fun _ _ _ hk=>zh h hk⟩
theorem zfv{base pb:Nat}{w:World}{cs:Array Value}{T:TypeId}{fr:Nat×Nat}(hp:base<=pb)(ho:w.heap[pb]? =some (.cells cs T fr))(hT:T≠3)(i:Nat)(v:Value):FrI base w (w.setCell ⟨pb,i,none⟩ v):=by
 refine⟨(pF base w).setCell hp v,fun k cs' fr' hk=>?_⟩;rw[zt (fun e=>by
  subst e;rw[ho] at hk;cases hk;exact hT rfl)]
 exact hk
def zkl(B ob:Nat)(nodes:List Nd)(iv:Value)(w:World)(i:Value)(wr:World):Prop:=∃(j:Nat) (nv:Value) (kv:List Value),i=.int .i64 j/\j<=nodes.length/\kv.length=j/\wr.heap[ob]? =some (.cells #[nv,iv] 26 (0,0))/\wr.ownsRow B 45 5 nv j (jg (nodes.take j) kv)/\(∀(k:Nat) (x:Nd) (v:Value),nodes[k]? =some x->kv[k]? =some v->KS wr v x.kids)/\FrI B w wr/\∀u∈kv,∀g,qV u=some g->iv.ownBlock≠some g
structure zeA(w:World)(B:Nat)(nv iv:Value)(t:yo)(kv:List Value):Prop where
 n:w.ownsRow B 45 5 nv t.nodes.length (jg t.nodes kv)
 l:kv.length=t.nodes.length
 k:∀(j:Nat) (x:Nd) (v:Value),t.nodes[j]? =some x->kv[j]? =some v->KS w v x.kids
 i:w.ownsRow B 3 1 iv t.items.length (yZ t.items)
 d:∀u∈kv,∀g,qV u=some g->iv.ownBlock≠some g
theorem zeA.tr{w:World}{B:Nat}{nv iv:Value}{t:yo}{kv:List Value}(h:zeA w B nv iv t kv):TR w nv iv t:=⟨⟨kv,za6 h.n h.l h.k⟩,KS.own h.i⟩
theorem zeA.setBox{w:World}{B:Nat}{nv iv:Value}{t:yo}{kv:List Value}(h:zeA w B nv iv t kv){b:Nat}{cs:Array Value}{T:TypeId}{fr:Nat×Nat}(hb:w.heap[b]? =some (.cells cs T fr))(hT:T≠3)(hN:T≠45)(i:Nat)(y:Value):zeA (w.setCell ⟨b,i,none⟩ y) B nv iv t kv:=
 ⟨ownsRow_setCell_other h.n (za9 h.n hb hN) y,h.l,fun j x u hx hu=>(h.k j x u hx hu).set hb hT y,ownsRow_setCell_other h.i (za9 h.i hb hT) y,h.d⟩
end
end Go.Proofs.YtnncmdpopgkibaaGreatDoor
