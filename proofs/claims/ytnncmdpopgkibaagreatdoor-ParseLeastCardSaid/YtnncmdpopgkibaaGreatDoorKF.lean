/-
  A part of the proof: contracts of functions; no conditions.
-/
import Derived.Test.YtnncmdpopgkibaaGreatDoorKD
import Derived.OwnWalk
import Derived.OneCell
set_option maxRecDepth 100000
set_option maxHeartbeats 40000000
set_option linter.unusedSimpArgs false
set_option linter.unusedVariables false
namespace Go.Proofs.YtnncmdpopgkibaaGreatDoor
section
open Go.RowKit Lode Go.Shelf
open Go.Proofs.Tryz
abbrev yZ(l:List Int):List Value:=l.map (Value.int .i64)
def KS(w:World)(v:Value)(l:List Int):Prop:=∃(p:Option Addr) (cap:Nat),v=.slice p l.length (l.length+cap)/\(l=[]\/∃(g off:Nat) (cs:Array Value) (fr:Nat×Nat),p=some ⟨g,off,none⟩/\w.heap[g]? =some (.cells cs 3 fr)/\∀(j:Nat) (z:Int),l[j]? =some z->cs[off+j]? =some (.int .i64 z))
structure Fr(base:Nat)(w w':World):Prop where
 b:Below base w w'
 keep:∀(k:Nat) (cs:Array Value) (T:TypeId) (fr:Nat×Nat),w.heap[k]? =some (.cells cs T fr)->T≠120->T≠45->w'.heap[k]? =some (.cells cs T fr)
theorem Fr.refl(base:Nat)(w:World):Fr base w w:=⟨pF _ _,fun _ _ _ _ h _ _=>h⟩
theorem Fr.trans{base:Nat}{a b c:World}(h:Fr base a b)(k:Fr base b c):Fr base a c:=⟨h.b.trans k.b,fun n cs T fr hn h1 h2=>k.keep n cs T fr (h.keep n cs T fr hn h1 h2) h1 h2⟩
theorem Fr.of_below{base:Nat}{w w':World}(hb:base<=w.heap.size)(h:Below w.heap.size w w'):Fr base w w':=⟨h.mono hb,fun _ _ _ _ hk _ _=>zh h hk⟩
structure FrI(base:Nat)(w w':World):Prop where
 b:Below base w w'
 keep:∀(k:Nat) (cs:Array Value) (fr:Nat×Nat),w.heap[k]? =some (.cells cs 3 fr)->w'.heap[k]? =some (.cells cs 3 fr)
theorem Fr.i{base:Nat}{w w':World}(f:Fr base w w'):FrI base w w':=⟨f.b,fun k cs fr h=>f.keep k cs _ fr h (by decide) (by decide)⟩
theorem KS.fri{base:Nat}{w w':World}{v:Value}{l:List Int}(h:KS w v l)(f:FrI base w w'):KS w' v l:=by
 obtain⟨p,cap,hv,h⟩:=h;exact⟨p,cap,hv,h.imp id fun ⟨g,off,cs,fr,hp,hg,hc⟩=>⟨g,off,cs,fr,hp,f.keep g cs fr hg,hc⟩⟩
theorem KS.fr{base:Nat}{w w':World}{v:Value}{l:List Int}(h:KS w v l)(f:Fr base w w'):KS w' v l:=by
 obtain⟨p,cap,hv,h⟩:=h;exact⟨p,cap,hv,h.imp id fun ⟨g,off,cs,fr,hp,hg,hc⟩=>⟨g,off,cs,fr,hp,f.keep g cs _ fr hg (by decide) (by decide),hc⟩⟩
theorem KS.form{w:World}{v:Value}{l:List Int}(h:KS w v l):∃p cap,v=.slice p l.length cap:=by
 obtain⟨p,cap,hv,_⟩:=h;exact⟨p,_,hv⟩
theorem KS.nil(w:World)(cap:Nat)(p:Option Addr):KS w (.slice p 0 cap) []:=⟨p,cap,by simp,.inl rfl⟩
def TK(base:Nat)(w:World)(v:Value)(l:List yp):Prop:=∃(p:Option Addr) (cap:Nat),v=.slice p l.length cap/\(l=[]\/∃(g:Nat) (cs:Array Value) (fr:Nat×Nat),g<base/\p=some ⟨g,0,none⟩/\w.heap[g]? =some (.cells cs 37 fr)/\∀(j:Nat) (t:yp),l[j]? =some t->cs[j*3]? =some (.int .u8 t.kind)/\cs[j*3+1]? =some (.string ⟨t.text.toArray⟩)/\cs[j*3+2]? =some (.int .i64 t.at_))
theorem TK.fr{base:Nat}{w w':World}{v:Value}{l:List yp}(h:TK base w v l)(f:Below base w w'):TK base w' v l:=by
 obtain⟨p,cap,hv,h⟩:=h;exact⟨p,cap,hv,h.imp id fun ⟨g,cs,fr,hgb,hp,hg,hc⟩=>⟨g,cs,fr,hgb,hp,by rw[f.block g hgb];exact hg,hc⟩⟩
def jS(x:Nd)(kv:Value):List Value:=[.int .u8 x.kind,.string ⟨x.text.toArray⟩,.int .i64 x.n,kv,.int .i64 x.at_]
def jg(l:List Nd)(kv:List Value):List Value:=(l.zip kv).flatMap fun x=>jS x.1 x.2
structure PWv(E:zv)(base pb:Nat)(w:World)(st:zY)(nv iv tv:Value)(s:ByteArray)(kv:List Value):Prop where
 hpb:base<=pb
 obj:w.heap[pb]? =some (.cells #[nv,iv,.string s,tv,.int .i64 st.next] 120 (0,0))
 len:s.size=E.len
 toks:TK base w tv E.toks
 nodes:w.ownsRow base 45 5 nv st.nodes.length (jg st.nodes kv)
 kvl:kv.length=st.nodes.length
 kids:∀(j:Nat) (x:Nd) (v:Value),st.nodes[j]? =some x->kv[j]? =some v->KS w v x.kids
 items:w.ownsRow base 3 1 iv st.items.length (yZ st.items)
def qV:Value->Option Nat
 | .slice (some a) (_+1) _=>some a.block
 |_=>none
def PW(E:zv)(base pb:Nat)(iv:Value)(G:Nat->Prop)(w:World)(st:zY):Prop:=∃nv tv s kv,PWv E base pb w st nv iv tv s kv/\(∀v∈kv,∀g,qV v=some g->¬G g)/\∀g,G g->g<w.heap.size
structure qG(E:zv)(st:zY):Prop where
 le:st.next<=E.toks.length
 wf:WFs st
 few:st.nodes.length<=st.next
 lim:E.toks.length<=1200
def vM(t:yp):Value:=.agg #[.int .u8 t.kind,.string ⟨t.text.toArray⟩,.int .i64 t.at_]
def Pan(p:Int):Ending:=.panicked [{v:=.iface 122 (.agg #[.int .i64 p]),recovered:=false}]
theorem zH{base b:Nat}{w w':World}{v:Value}{e:TypeId}{sz n:Nat}{xs:List Value}(h:w.ownsRow b e sz v n xs)(f:Fr base w w')(h1:e≠120)(h2:e≠45):w'.ownsRow b e sz v n xs:=by
 obtain⟨hl,h⟩:=h;refine⟨hl,h.imp id fun ⟨g,cap,cur,hv,hb,hg,r⟩=>⟨g,cap,cur,hv,hb,f.keep g cur e _ hg h1 h2,r⟩⟩
theorem zcw{base b:Nat}{w w':World}{v:Value}{sz n:Nat}{xs:List Value}(h:w.ownsRow b 3 sz v n xs)(f:FrI base w w'):w'.ownsRow b 3 sz v n xs:=by
 obtain⟨hl,h⟩:=h;exact⟨hl,h.imp id fun ⟨g,cap,cur,hv,hb,hg,r⟩=>⟨g,cap,cur,hv,hb,f.keep g cur _ hg,r⟩⟩
theorem PWv.mk'{E:zv}{base pb:Nat}{w w':World}{st st':zY}{nv nv' iv tv:Value}{s:ByteArray}{kv kv':List Value}(P:PWv E base pb w st nv iv tv s kv)(F:FrI base w w')
 (hobj:w'.heap[pb]? =some (.cells #[nv',iv,.string s,tv,.int .i64 st'.next] 120 (0,0))) (hn:w'.ownsRow base 45 5 nv' st'.nodes.length (jg st'.nodes kv')) (hk:kv'.length=st'.nodes.length)
 (hkids:∀(j:Nat) (x:Nd) (v:Value),st'.nodes[j]? =some x->kv'[j]? =some v->KS w' v x.kids) (hit:st'.items=st.items):PWv E base pb w' st' nv' iv tv s kv':=
 ⟨P.hpb,hobj,P.len,P.toks.fr F.b,hn,hk,hkids,by rw[hit];exact zcw P.items F⟩
theorem PWv.below{E:zv}{base pb:Nat}{w w':World}{st:zY}{nv iv tv:Value}{s:ByteArray}{kv:List Value}(P:PWv E base pb w st nv iv tv s kv)(h:Below w.heap.size w w'):PWv E base pb w' st nv iv tv s kv:=by
 have hb:base<=w.heap.size:=pN P.hpb (Nat.le_of_lt (gtA P.obj));have F:=Fr.of_below hb h;refine P.mk' F.i (zh h P.obj) ?_ P.kvl (fun j x v hx hv=>(P.kids j x v hx hv).fr F) rfl;exact World.ownsRow.kept (row:=none) P.nodes ⟨h.os,h.tape,h.output,h.size,fun k hk _=>h.block k hk⟩ (by cases nv.ownBlock <;> simp)
theorem PW.below{E:zv}{base pb:Nat}{iv:Value}{G:Nat->Prop}{w w':World}{st:zY}(h:PW E base pb iv G w st)(hb:Below w.heap.size w w'):PW E base pb iv G w' st:=by
 obtain⟨nv,tv,s,kv,P,hG,hL⟩:=h;exact⟨nv,tv,s,kv,P.below hb,hG,fun g hg=>wI (hL g hg) hb.size⟩
theorem PW.base{E:zv}{base pb:Nat}{iv:Value}{G:Nat->Prop}{w:World}{st:zY}(h:PW E base pb iv G w st):base<=w.heap.size:=by
 obtain⟨nv,tv,s,kv,P,_⟩:=h;exact pN P.hpb (Nat.le_of_lt (gtA P.obj))
theorem zeg{base pb:Nat}{w:World}{cs:Array Value}{fr:Nat×Nat}(hp:base<=pb)(ho:w.heap[pb]? =some (.cells cs 120 fr))(i:Nat)(v:Value):Fr base w (w.setCell ⟨pb,i,none⟩ v):=by
 refine⟨(pF base w).setCell hp v,fun k cs' T fr' hk h1 _=>?_⟩;by_cases e:k=pb
 ·subst e;rw[ho] at hk;cases hk;exact absurd rfl h1
 ·rw[Below.heap_setCell _ _ _ _ e];exact hk
theorem PWv.next{E:zv}{base pb:Nat}{w:World}{st:zY}{nv iv tv:Value}{s:ByteArray}{kv:List Value}(P:PWv E base pb w st nv iv tv s kv)(n:Nat):PWv E base pb (w.setCell ⟨pb,4,none⟩ (.int .i64 n)) {st with next:=n} nv iv tv s kv/\Fr base w (w.setCell ⟨pb,4,none⟩ (.int .i64 n)):=by
 have F:=zeg P.hpb P.obj 4 (.int .i64 n);refine⟨P.mk' F.i ?_ ?_ P.kvl (fun j x v hx hv=>(P.kids j x v hx hv).fr F) rfl,F⟩
 ·rw[zr P.obj];rfl
 ·refine ownsRow_setCell_other P.nodes (fun e=>?_) _;obtain⟨_,⟨hv,_⟩|⟨g,cap,cur,hv,_,hg,_⟩⟩:=P.nodes
  ·rw[hv] at e;cases e
  ·rw[hv] at e;simp only[Value.ownBlock,pQ] at e;rw[e] at hg;have:=hg.symm.trans P.obj;simp at this
theorem PWv.cells{E:zv}{base pb:Nat}{w:World}{st:zY}{nv iv tv:Value}{s:ByteArray}{kv:List Value}(P:PWv E base pb w st nv iv tv s kv):w.cell? ⟨pb,0,none⟩=some nv/\w.cell? ⟨pb,1,none⟩=some iv/\w.cell? ⟨pb,2,none⟩=some (.string s)/\w.cell? ⟨pb,3,none⟩=some tv/\w.cell? ⟨pb,4,none⟩=some (.int .i64 st.next)/\∀j,w.frozen? ⟨pb,j,none⟩=false:=
 ⟨zd P.obj 0,zd P.obj 1,zd P.obj 2,zd P.obj 3,zd P.obj 4,fun j=>zl P.obj j⟩
structure Upd(B pb:Nat)(w w':World):Prop where
 os:w'.os=w.os
 tape:w'.tape=w.tape
 output:w'.output=w.output
 size:w.heap.size<=w'.heap.size
 block:∀k,k<B->k≠pb->w'.heap[k]? =w.heap[k]?
theorem Upd.of{B pb:Nat}{w w':World}(h:Below B w w'):Upd B pb w w':=⟨h.os,h.tape,h.output,h.size,fun k hk _=>h.block k hk⟩
theorem Upd.setCell{B pb:Nat}{w w':World}(h:Upd B pb w w'){p:Addr}(hp:B<=p.block\/p.block=pb)(v:Value):Upd B pb w (w'.setCell p v):=
 ⟨h.os,h.tape,h.output,by simpa using h.size,fun k hk hn=>by rw[Below.heap_setCell _ _ _ _ (by omega)];exact h.block k hk hn⟩
theorem Upd.alloc{B pb:Nat}{w w':World}(h:Upd B pb w w')(hB:B<=w'.heap.size)(o:Obj):Upd B pb w (w'.alloc o):=
 ⟨h.os,h.tape,h.output,pN h.size (by simp),fun k hk hn=>by rw[Below.heap_alloc _ _ _ (by omega)];exact h.block k hk hn⟩
theorem PWv.upd{E:zv}{base pb:Nat}{w w':World}{st:zY}{nv iv tv:Value}{s:ByteArray}{kv:List Value}(P:PWv E base pb w st nv iv tv s kv)(U:Upd w.heap.size pb w w')(n:Nat)(ho:w'.heap[pb]? =some (.cells #[nv,iv,.string s,tv,.int .i64 n] 120 (0,0))):PWv E base pb w' {st with next:=n} nv iv tv s kv/\Fr base w w':=by
 have hpl:=(gtA P.obj);have hpb:=P.hpb;have F:Fr base w w':=⟨⟨U.os,U.tape,U.output,U.size,fun k hk=>U.block k (by omega) (by omega)⟩,fun k cs T fr hk h1 _=>by
  by_cases e:k=pb
  ·subst e;rw[P.obj] at hk;cases hk;exact absurd rfl h1
  ·rw[U.block k (gtA hk) e];exact hk⟩
 refine⟨P.mk' F.i ho ?_ P.kvl (fun j x v hx hv=>(P.kids j x v hx hv).fr F) rfl,F⟩;obtain⟨hl,⟨hv,h0⟩|⟨g,cap,cur,hv,hb,hg,r⟩⟩:=P.nodes
 ·exact⟨hl,.inl ⟨hv,h0⟩⟩
 ·refine⟨hl,.inr ⟨g,cap,cur,hv,hb,?_,r⟩⟩;rw[U.block g (gtA hg) (fun e=>by
   rw[e] at hg;have:=hg.symm.trans P.obj;simp at this)]
  exact hg
theorem PW.setTok{E:zv}{base pb:Nat}{iv:Value}{G:Nat->Prop}{w:World}{st:zY}(h:PW E base pb iv G w st){R:Nat}{cs:Array Value}{fr:Nat×Nat}(hR:w.heap[R]? =some (.cells cs 37 fr))(hb:base<=R)(i:Nat)(v:Value):PW E base pb iv G (w.setCell ⟨R,i,none⟩ v) st:=by
 obtain⟨nv,tv,s,kv,P,hG,hL⟩:=h;have F:FrI base w (w.setCell ⟨R,i,none⟩ v):=⟨(pF base w).setCell hb v,fun k cs' fr' hk=>by
  rw[Below.heap_setCell _ _ _ _ (fun e=>by
   simp only at e;rw[e,hR] at hk;simp at hk)]
  exact hk⟩
 refine⟨nv,tv,s,kv,P.mk' F ?_ ?_ P.kvl (fun j x v' hx hv=>(P.kids j x v' hx hv).fri F) rfl,hG,fun g hg=>by have:=hL g hg;simpa using this⟩
 ·rw[Below.heap_setCell _ _ _ _ (fun e=>by
   simp only at e;have:=P.obj;rw[e,hR] at this;simp at this)]
  exact P.obj
 ·refine ownsRow_setCell_other P.nodes (fun e=>?_) _;obtain⟨_,⟨hv,_⟩|⟨g,cap,cur,hv,_,hg,_⟩⟩:=P.nodes
  ·rw[hv] at e;cases e
  ·rw[hv] at e;simp only[Value.ownBlock,pQ] at e;rw[e] at hg;have:=hg.symm.trans hR;simp at this
theorem Fr.setNew{base:Nat}{w w':World}(F:Fr base w w'){R:Nat}(hR:w.heap.size<=R)(hb:base<=R)(i:Nat)(v:Value):Fr base w (w'.setCell ⟨R,i,none⟩ v):=
 ⟨F.b.setCell hb v,fun k cs T fr hk h1 h2=>by
  have:=(gtA hk);rw[Below.heap_setCell _ _ _ _ (by simp only;omega)];exact F.keep k cs T fr hk h1 h2⟩
theorem KS.below{w w':World}{v:Value}{l:List Int}(h:KS w v l)(hb:Below w.heap.size w w'):KS w' v l:=h.fr (Fr.of_below (pE _) hb)
theorem KS.cap{w:World}{p:Option Addr}{n cap:Nat}{l:List Int}(h:KS w (.slice p n cap) l):n=l.length/\n<=cap:=by
 obtain⟨p',cap',hv,_⟩:=h;cases hv;exact⟨rfl,Nat.le_add_right _ _⟩
theorem KS.sub{w:World}{g off n cap cap':Nat}{l:List Int}(h:KS w (.slice (some ⟨g,off,none⟩) n cap) l)(a b:Nat)(hab:a<=b)(hb:b<=l.length)(hc:b-a<=cap'):KS w (.slice (some ⟨g,off+a,none⟩) (b-a) cap') ((l.take b).drop a):=by
 obtain⟨p',cap2,hv,h⟩:=h;cases hv;have hlen:((l.take b).drop a).length=b-a:=by rw[wW,wU];omega
 refine⟨some ⟨g,off+a,none⟩,cap'-(b-a),by rw[hlen,Nat.add_sub_cancel' hc],?_⟩;rcases h with rfl|⟨g',off',cs,fr,he,hg,hcs⟩
 ·left;simp
 ·cases he;refine .inr ⟨g,off+a,cs,fr,rfl,hg,fun j z hz=>?_⟩;rw[List.getElem?_drop,List.getElem?_take] at hz;split at hz
  ·rw[show off+a+j=off+(a+j) by omega];exact hcs _ _ hz
  ·cases hz
theorem KS.at{w:World}{p:Option Addr}{n cap:Nat}{l:List Int}(h:KS w (.slice p n cap) l){j:Nat}(hj:j<l.length):∃g off,p=some ⟨g,off,none⟩/\g<w.heap.size/\w.cell? ⟨g,off+j,none⟩=some (.int .i64 (l.getD j 0)):=by
 obtain⟨p',cap',hv,h⟩:=h;cases hv;rcases h with rfl|⟨g,off,cs,fr,rfl,hg,hc⟩
 ·simp at hj
 ·refine⟨g,off,rfl,(gtA hg),(zd hg _).trans ?_⟩;rw[pA,glE hj];exact hc j _ (glE hj)
abbrev uV(x:Nd)(u:Value):Value:=.agg #[.int .u8 x.kind,.string ⟨x.text.toArray⟩,.int .i64 x.n,u,.int .i64 x.at_]
def NS(w:World)(v:Value)(l:List Nd)(kv:List Value):Prop:=kv.length=l.length/\(∀(j:Nat) (x:Nd) (u:Value),l[j]? =some x->kv[j]? =some u->KS w u x.kids)/\∃(p:Option Addr) (cap:Nat),v=.slice p l.length cap/\(l=[]\/∃(g off:Nat) (cs:Array Value) (fr:Nat×Nat),p=some ⟨g,off,none⟩/\w.heap[g]? =some (.cells cs 45 fr)/\∀(j:Nat) (x:Nd) (u:Value),l[j]? =some x->kv[j]? =some u->∀(i:Nat) (y:Value),(jS x u)[i]? =some y->cs[off+j*5+i]? =some y)
theorem NS.below{w w':World}{v:Value}{l:List Nd}{kv:List Value}(h:NS w v l kv)(hb:Below w.heap.size w w'):NS w' v l kv:=by
 obtain⟨h1,h2,p,cap,hv,h3⟩:=h;refine⟨h1,fun j x u hx hu=>(h2 j x u hx hu).below hb,p,cap,hv,h3.imp id ?_⟩;rintro ⟨g,off,cs,fr,hp,hg,hc⟩;exact⟨g,off,cs,fr,hp,zh hb hg,hc⟩
theorem NS.form{w:World}{v:Value}{l:List Nd}{kv:List Value}(h:NS w v l kv):∃p cap,v=.slice p l.length cap:=by
 obtain⟨_,_,p,cap,hv,_⟩:=h;exact⟨p,cap,hv⟩
structure ziJ(w:World)(g i:Nat)(x:Nd)(u:Value):Prop where
 lt:g<w.heap.size
 c0:w.cell? ⟨g,i,none⟩=some (.int .u8 x.kind)
 c1:w.cell? ⟨g,i+1,none⟩=some (.string ⟨x.text.toArray⟩)
 c2:w.cell? ⟨g,i+2,none⟩=some (.int .i64 x.n)
 c3:w.cell? ⟨g,i+3,none⟩=some u
 c4:w.cell? ⟨g,i+4,none⟩=some (.int .i64 x.at_)
 kids:KS w u x.kids
theorem ziJ.below{w w':World}{g i:Nat}{x:Nd}{u:Value}(h:ziJ w g i x u)(hb:Below w.heap.size w w'):ziJ w' g i x u:=
 ⟨wI h.lt hb.size,zj hb h.c0,zj hb h.c1,zj hb h.c2,zj hb h.c3,zj hb h.c4,h.kids.below hb⟩
theorem NS.at{w:World}{p:Option Addr}{n cap:Nat}{l:List Nd}{kv:List Value}(h:NS w (.slice p n cap) l kv){j:Nat}{x:Nd}(hx:l[j]? =some x):∃g off u,p=some ⟨g,off,none⟩/\ziJ w g (off+j*5) x u:=by
 obtain⟨h1,h2,p',cap',hv,h3⟩:=h;cases hv;have hj:j<l.length:=(gtL hx);obtain⟨u,hu⟩:∃u,kv[j]? =some u:=⟨_,glE (by rw[h1];exact hj)⟩;rcases h3 with rfl|⟨g,off,cs,fr,rfl,hg,hc⟩
 ·simp at hj
 ·have hc:=hc j x u hx hu;refine⟨g,off,u,rfl,(gtA hg),(zd hg _).trans (hc 0 _ rfl),(zd hg _).trans (hc 1 _ rfl),(zd hg _).trans (hc 2 _ rfl),(zd hg _).trans (hc 3 _ rfl),(zd hg _).trans (hc 4 _ rfl),h2 j x u hx hu⟩
structure TR(w:World)(nv iv:Value)(t:yo):Prop where
 nodes:∃kv,NS w nv t.nodes kv
 items:KS w iv t.items
theorem TR.below{w w':World}{nv iv:Value}{t:yo}(h:TR w nv iv t)(hb:Below w.heap.size w w'):TR w' nv iv t:=⟨h.nodes.imp fun _ h=>h.below hb,h.items.below hb⟩
theorem TR.form{w:World}{nv iv:Value}{t:yo}(h:TR w nv iv t):∃p c q d,nv=.slice p t.nodes.length c/\iv=.slice q t.items.length d:=by
 obtain⟨_,h1⟩:=h.nodes;obtain⟨p,c,hp⟩:=h1.form;obtain⟨q,d,hq⟩:=h.items.form;exact⟨p,c,q,d,hp,hq⟩
def kQ(w:World)(v:Value)(e:Ending)(w':World):Prop:=e=.returned v/\Below w.heap.size w w'
end
section
open Go.RowKit Lode Go.Shelf
attribute [local go_sem ↓] Go.wp_at_zero Go.wp_at_succ
open Go.Proofs.Tryz
theorem JL(a b c:Value)(W:World):(Instr.field 37 (.agg #[a,b,c]) 0).run prog W=.ok a W:=by kernel_rfl
theorem zkp(a b c:Value)(W:World):(Instr.field 37 (.agg #[a,b,c]) 1).run prog W=.ok b W:=by kernel_rfl
theorem JK(a b c:Value)(W:World):(Instr.field 37 (.agg #[a,b,c]) 2).run prog W=.ok c W:=by kernel_rfl
theorem qy{E:zv}{base pb:Nat}{iv:Value}{G:Nat->Prop}{w:World}{st:zY}(h:PW E base pb iv G w st):Calls prog 132 #[.pointer (some ⟨pb,0,none⟩)] w fun e w'=>e=.returned (vM (zy E st))/\Below w.heap.size w w':=by
 obtain⟨nv,tv,s,kv,P,_,_⟩:=h;have c2:∀o,(w.alloc o).cell? ⟨pb,2,none⟩=some (.string s):=fun o=>zj (zf w o) (zd P.obj 2)
 have c3:∀o,(w.alloc o).cell? ⟨pb,3,none⟩=some tv:=fun o=>zj (zf w o) (zd P.obj 3)
 have c4:∀o,(w.alloc o).cell? ⟨pb,4,none⟩=some (.int .i64 st.next):=fun o=>zj (zf w o) (zd P.obj 4)
 have hlen:=P.len;obtain⟨p,cap,rfl,hT⟩:=P.toks;clear P;have hba:=fun o=>zf w o
 by_cases hlt:st.next<E.toks.length
 ·have hne:E.toks≠[]:=fun e=>by rw[e] at hlt;simp at hlt
  obtain⟨g,cs,fr,_,rfl,hg,hc⟩:=hT.resolve_left hne;obtain⟨h0,h1,h2⟩:=hc st.next _ (glE hlt);have d0:∀o,(w.alloc o).cell? ⟨g,st.next*3,none⟩=_:=fun o=>zj (zf w o) ((zd hg _).trans h0)
  have d1:∀o,(w.alloc o).cell? ⟨g,st.next*3+1,none⟩=_:=fun o=>zj (zf w o) ((zd hg _).trans h1)
  have d2:∀o,(w.alloc o).cell? ⟨g,st.next*3+2,none⟩=_:=fun o=>zj (zf w o) ((zd hg _).trans h2)
  have ht:zy E st=E.toks[st.next]:=by unfold zy;rw[glE hlt];rfl
  rw[ht];clear ht hc h0 h1 h2 hne hT hg;generalize E.toks[st.next]=t at *;obtain⟨k1,t1,a1⟩:=t;generalize E.toks.length=n at *;generalize st.next=i at *;simp only at d0 d1 d2;go_enter func132,ntmps132;go_wp2_with fail;go_quiet (fail);go_wp2_with fail;go_region;go_wp2;refine bodyPost_ret (v:=vM ⟨k1,t1,a1⟩) (by simp[results,results132,go_sem,vM]) rfl ?_;exact⟨rfl,(((ym (hba _) _).setCell (pE _) _).setCell (pE _) _).setCell (pE _) _⟩
 ·have ht:zy E st=⟨0,[],E.len⟩:=by unfold zy;rw[wP (by omega)];rfl
  rw[ht];clear ht hT;generalize E.toks.length=n at *;generalize st.next=i at *;go_enter func132,ntmps132;go_wp2_with fail;go_quiet (fail);go_wp2;refine bodyPost_ret (v:=vM ⟨0,[],E.len⟩) (by simp[results,results132,go_sem,vM]) rfl ?_;exact⟨rfl,(((ym (hba _) _).setCell (pE _) _).setCell (pE _) _).setCell (pE _) _⟩
theorem KL{E:zv}{base pb:Nat}{iv:Value}{G:Nat->Prop}{w:World}{st:zY}(h:PW E base pb iv G w st):Calls prog 168 #[.pointer (some ⟨pb,0,none⟩)] w fun e w'=>e=Pan (zy E st).at_/\Below w.heap.size w w':=by
 have hT:=zi (qy h);unfold vM at hT;generalize zy E st=t at *;obtain⟨k1,t1,a1⟩:=t;have hf0:=JL;have hf2:=JK;go_enter func168,ntmps168;go_wp2_with fail;refine hT.out.mono ?_;rintro e w1 ⟨rfl,hb⟩;go_wp2_with fail;exact⟨rfl,rfl,hb⟩
theorem Ky{E:zv}{base pb:Nat}{iv:Value}{G:Nat->Prop}{w:World}{st:zY}(h:PW E base pb iv G w st)(k:Nat):Calls prog 167 #[.pointer (some ⟨pb,0,none⟩),.int .u8 k] w fun e w'=>e=.returned (.bool ((zy E st).kind == k))/\Below w.heap.size w w':=by
 have hT:=zi (qy h);unfold vM at hT;generalize zy E st=t at *;obtain⟨k1,t1,a1⟩:=t;have hk:((k1:Int) == (k:Int))=(k1 == k):=by
  rw[pW,pS,pS];omega
 have hf0:=JL;have hf2:=JK;go_enter func167,ntmps167;go_wp2_with fail;refine hT.out.mono ?_;rintro e w1 ⟨rfl,hb⟩;go_wp2;go_ret;exact⟨rfl,hb⟩
def BA(l:List UInt8):ByteArray:=⟨l.toArray⟩
theorem ziQ{a b:List UInt8}(h:BA a=BA b):a=b:=by
 have h1:=congrArg (fun x=>x.data.toList) h;simpa[BA] using h1
theorem zbA(l:List (List UInt8))(t:List UInt8):Lib.containsS ((l.map BA).take l.length) (BA t)=l.contains t:=by
 rw[List.take_of_length_le (by simp),pW,Lib.containsS_iff,List.contains_iff_mem,List.mem_map];constructor
 ·rintro ⟨x,hx,e⟩;rw[<-ziQ e];exact hx
 ·exact fun h=>⟨t,h,rfl⟩
def SS(w:World)(g:Nat)(l:List (List UInt8)):Prop:=∀j,j<(l.map BA).length->w.cell? ⟨g,0+j,none⟩=some (.string ((l.map BA).getD j ByteArray.empty))
theorem SS.later{w w':World}{g:Nat}{l:List (List UInt8)}(h:SS w g l)(hb:Below w.heap.size w w'):SS w' g l:=fun j hj=>zj hb (h j hj)
theorem zd6{E:zv}{base pb:Nat}{iv:Value}{G:Nat->Prop}{w:World}{st:zY}(h:PW E base pb iv G w st)(l:List (List UInt8))(g cap:Nat)(hs:SS w g l)(hl:l.length<=1000):Calls prog 166 #[.pointer (some ⟨pb,0,none⟩),.slice (some ⟨g,0,none⟩) l.length cap] w fun e w'=>e=.returned (.bool (uq (zy E st) l))/\Below w.heap.size w w':=by
 have hT:=zi (qy h);unfold vM at hT;generalize zy E st=t at *;obtain⟨k1,t1,a1⟩:=t;have hC:=zi (fun (W:World) (hb:Below w.heap.size w W)=>(show Calls prog 94 #[.slice (some ⟨g,0,none⟩) l.length cap,.string ⟨t1.toArray⟩] W (fun e w'=>e=.returned (.bool (l.contains t1))/\w'=W) from by
  have:=Tryz.slices_Contains_string g 0 l.length cap (l.map BA) (BA t1) W (by simp) (by omega) (hs.later hb);rw[zbA] at this;exact this))
 unfold uq;simp only;generalize l.contains t1=c at *;generalize l.length=n at *;clear hs;by_cases h5:k1=5
 ·have e1:(k1 == 5 || k1 == 6)=true:=by rw[h5];rfl
  have z1:((k1:Int) == 5)=true:=by rw[h5];rfl
  rw[e1,Bool.true_and];clear h5 e1;go_enter func166,ntmps166;go_wp2_with fail;refine hT.out.mono ?_;rintro e w1 ⟨rfl,hb⟩;go_wp2_with fail;refine (hC.out _ (yP hb _)).mono ?_;rintro e w2 ⟨rfl,rfl⟩;go_wp2;go_ret;exact⟨rfl,yP hb _⟩
 ·have z1:((k1:Int) == 5)=false:=bfE (by omega)
  by_cases h6:k1=6
  ·have e1:(k1 == 5 || k1 == 6)=true:=by rw[h6];rfl
   have z2:((k1:Int) == 6)=true:=by rw[h6];rfl
   rw[e1,Bool.true_and];clear h5 h6 e1;go_enter func166,ntmps166;go_wp2_with fail;refine hT.out.mono ?_;rintro e w1 ⟨rfl,hb⟩;go_wp2_with fail;refine (hC.out _ (yP hb _)).mono ?_;rintro e w2 ⟨rfl,rfl⟩;go_wp2;go_ret;exact⟨rfl,yP hb _⟩
  ·have e1:(k1 == 5 || k1 == 6)=false:=by simp[h5,h6]
   have z2:((k1:Int) == 6)=false:=bfE (by omega)
   rw[e1,Bool.false_and];clear h5 h6 e1;go_enter func166,ntmps166;go_wp2_with fail;refine hT.out.mono ?_;rintro e w1 ⟨rfl,hb⟩;go_wp2;go_ret;exact⟨rfl,yP hb _⟩
def xK{α:Type}(E:zv)(base pb:Nat)(iv:Value)(G:Nat->Prop)(r:qw α)(val:World->Value->α->Prop)(w:World)(e:Ending)(w':World):Prop:=match r with
 | .ok a st'=>(∃v,e=.returned v/\val w' v a)/\PW E base pb iv G w' st'/\Fr base w w'
 | .bad p=>e=Pan p/\Below base w w'
def kO(_:World)(v:Value)(t:yp):Prop:=v=vM t
def ju(_:World)(v:Value)(n:Int):Prop:=v=.int .i64 n
def Qq(_:World)(v:Value)(b:Bool):Prop:=v=.bool b
theorem vu{E:zv}{base pb:Nat}{iv:Value}{G:Nat->Prop}{w:World}{st:zY}(h:PW E base pb iv G w st)(hn:st.next<=1000000):Calls prog 169 #[.pointer (some ⟨pb,0,none⟩)] w (xK E base pb iv G (vU E st) kO w):=by
 have HT:=zi (fun (W:World) (hb:Below w.heap.size w W)=>qy (h.below hb));unfold vU xK kO;simp only;have H:=zi h;unfold vM at HT ⊢;generalize zy E st=t at *;obtain⟨k1,t1,a1⟩:=t;clear h;have hB:=H.out.base;have hy:IntKind.i64.wrap ((st.next:Int)+1)=((st.next+1:Nat):Int):=by rw[pJ _ ⟨by omega,by omega⟩];omega
 obtain⟨nv,tv,s,kv,P,hG,hL⟩:=H.out;replace hG:=zi hG;replace hL:=zi hL;have hpl:=(gtA P.obj);have HP:=zi P;clear P H;go_enter func169,ntmps169;go_wp2_with fail;have hba:=zf w (.cells #[.int .u8 0,.string ⟨#[]⟩,.int .i64 0] 37 (0,0));have hnew:=zk w (.cells #[.int .u8 0,.string ⟨#[]⟩,.int .i64 0] 37 (0,0));refine (HT.out _ hba).mono ?_;rintro e w1 ⟨rfl,hb⟩;have hb1:=zg hba hb;have hobj:=zh hb1 HP.out.obj;have c4:∀o,(w1.alloc o).cell? ⟨pb,4,none⟩=some (.int .i64 st.next):=fun o=>zj (zf w1 o) (zd hobj 4)
 have f4:∀o,(w1.alloc o).frozen? ⟨pb,4,none⟩=false:=fun o=>zl (zh (zf w1 o) hobj) 4
 have hRp:w.heap.size≠pb:=by omega
 have hnew1:=zh hb hnew;have hz:∀o v,((w1.alloc o).setCell ⟨pb,4,none⟩ v).heap[w.heap.size]? =some (.cells #[.int .u8 0,.string ⟨#[]⟩,.int .i64 0] 37 (0,0)):=fun o v=>(zt hRp).trans (zh (zf w1 o) hnew1)
 have r0:∀o v,((w1.alloc o).setCell ⟨pb,4,none⟩ v).cell? ⟨w.heap.size,0,none⟩=some (.int .u8 0):=fun o v=>zd (hz o v) 0
 have r1:∀o v,((w1.alloc o).setCell ⟨pb,4,none⟩ v).cell? ⟨w.heap.size,1,none⟩=some (.string ⟨#[]⟩):=fun o v=>zd (hz o v) 1
 have r2:∀o v,((w1.alloc o).setCell ⟨pb,4,none⟩ v).cell? ⟨w.heap.size,2,none⟩=some (.int .i64 0):=fun o v=>zd (hz o v) 2
 have q0:∀o v j,((w1.alloc o).setCell ⟨pb,4,none⟩ v).frozen? ⟨w.heap.size,j,none⟩=false:=fun o v j=>zl (hz o v) j
 have Hb1:=zi hb1;have Hobj:=zi hobj;clear hnew hnew1 hz hobj;go_wp2_with fail;have hne:pb≠w.heap.size:=fun e=>hRp e.symm
 obtain⟨h1,h2⟩:=HP.out.upd ((((((Upd.of Hb1.out).alloc Hb1.out.size _).setCell (p:=⟨pb,4,none⟩) (.inr rfl) _).setCell (p:=⟨w.heap.size,0,none⟩) (.inl (pE _)) _).setCell (p:=⟨w.heap.size,1,none⟩) (.inl (pE _)) _).setCell (p:=⟨w.heap.size,2,none⟩) (.inl (pE _)) _) (st.next+1) ((zt hne).trans ((zt hne).trans ((zt hne).trans (zr (zh (zf w1 _) Hobj.out) 4 _))));refine bodyPost_ret (v:=vM ⟨k1,t1,a1⟩) (by simp[results,results169,go_sem,vM,r0,r1,r2]) rfl ?_;exact⟨⟨_,rfl,rfl⟩,⟨nv,tv,s,kv,h1,hG.out,fun g hg=>wI (hL.out g hg) h2.b.size⟩,h2⟩
theorem xK.bad{α:Type}{E:zv}{base pb:Nat}{iv:Value}{G:Nat->Prop}{w w':World}{val:World->Value->α->Prop}{e:Ending}{p:Int}(h:xK E base pb iv G (.bad p) val w e w'):e=Pan p/\Below base w w':=h
theorem xK.ok{α:Type}{E:zv}{base pb:Nat}{iv:Value}{G:Nat->Prop}{w w':World}{val:World->Value->α->Prop}{e:Ending}{a:α}{st:zY}(h:xK E base pb iv G (.ok a st) val w e w'):(∃v,e=.returned v/\val w' v a)/\PW E base pb iv G w' st/\Fr base w w':=h
theorem xq{E:zv}{base pb:Nat}{iv:Value}{G:Nat->Prop}{w:World}{st:zY}(h:PW E base pb iv G w st)(hn:st.next<=1000000)(k:Nat):Calls prog 134 #[.pointer (some ⟨pb,0,none⟩),.int .u8 k] w (xK E base pb iv G (xr k E st) kO w):=by
 have hB:=h.base;have H1:=zi (fun (W:World) (hb:Below w.heap.size w W)=>Ky (h.below hb) k);have H2:=zi (fun (W:World) (hb:Below w.heap.size w W)=>KL (h.below hb));have H3:=zi (fun (W:World) (hb:Below w.heap.size w W)=>vu (h.below hb) hn);have h0:=zf w (.cells #[.int .u8 0,.string ⟨#[]⟩,.int .i64 0] 37 (0,0));have hnew:=zi (zk w (.cells #[.int .u8 0,.string ⟨#[]⟩,.int .i64 0] 37 (0,0)));unfold vU xK kO at H3;unfold xr;cases hk:(zy E st).kind == k with
 |false=>
  rw[hk] at H1;rw[if_neg (by decide)];unfold xK;generalize zy E st=t at *;obtain⟨k1,t1,a1⟩:=t;unfold Pan at *;simp only at *;clear hk h H3;go_enter func134,ntmps134;go_wp2_with fail;refine (H1.out _ h0).mono ?_;rintro e w1 ⟨rfl,hb⟩;have hb1:=zg h0 hb;go_wp2_with fail;refine (H2.out _ hb1).mono ?_;rintro e w2 ⟨rfl,hb2⟩;go_wp2_with fail;exact⟨rfl,rfl,(zg hb1 hb2).mono hB⟩
 |true=>
  rw[hk] at H1;rw[if_pos rfl];unfold xK kO;simp only at *;unfold vM at *;generalize zy E st=t at *;obtain⟨k1,t1,a1⟩:=t;simp only at *;clear hk H2 h;go_enter func134,ntmps134;go_wp2_with fail;refine (H1.out _ h0).mono ?_;rintro e w1 ⟨rfl,hb⟩;have hb1:=zg h0 hb;go_wp2_with fail;refine (H3.out _ hb1).mono ?_;rintro e w2 ⟨⟨_,rfl,rfl⟩,hp,hf⟩;have hz:=hf.keep _ _ _ _ (zh hb hnew.out) (by decide) (by decide);have r0:=zd hz 0;have r1:=zd hz 1;have r2:=zd hz 2;have q0:∀j,w2.frozen? ⟨w.heap.size,j,none⟩=false:=fun j=>zl hz j
  have Hz:=zi hz;clear hz;go_wp2;refine bodyPost_ret (v:=vM ⟨k1,t1,a1⟩) (by simp[results,results134,go_sem,vM,r0,r1,r2]) rfl ?_;have hF:=(Fr.of_below hB hb1).trans hf;have z1:=zr Hz.out 0 (.int .u8 k1);have z2:=zr z1 1 (.string ⟨t1.toArray⟩);exact⟨⟨_,rfl,rfl⟩,((hp.setTok Hz.out hB 0 _).setTok z1 hB 1 _).setTok z2 hB 2 _,((hF.setNew (pE _) hB 0 _).setNew (pE _) hB 1 _).setNew (pE _) hB 2 _⟩
theorem jN{E:zv}{base pb:Nat}{iv:Value}{G:Nat->Prop}{w:World}{st:zY}(h:PW E base pb iv G w st)(x:List UInt8):Calls prog 166 #[.pointer (some ⟨pb,0,none⟩),.slice (some ⟨w.heap.size,0,none⟩) 1 1] (w.alloc (.cells #[.string ⟨x.toArray⟩] 9 (0,0))) fun e w'=>e=.returned (.bool (uq (zy E st) [x]))/\Below (w.alloc (.cells #[.string ⟨x.toArray⟩] 9 (0,0))).heap.size (w.alloc (.cells #[.string ⟨x.toArray⟩] 9 (0,0))) w':=by
 refine zd6 (h.below (zf w _)) [x] w.heap.size 1 (fun j hj=>?_) (by simp);have hj0:j=0:=by simp at hj;exact hj
 subst hj0;exact zd (zk w _) 0
theorem zw{E:zv}{base pb:Nat}{iv:Value}{G:Nat->Prop}{w:World}{st:zY}(h:PW E base pb iv G w st)(hn:st.next<=1000000)(x:List UInt8):Calls prog 139 #[.pointer (some ⟨pb,0,none⟩),.string ⟨x.toArray⟩] w (xK E base pb iv G (zL x E st) kO w):=by
 have hB:=h.base;have H2:=zi (fun (W:World) (hb:Below w.heap.size w W)=>KL (h.below hb));have H3:=zi (fun (W:World) (hb:Below w.heap.size w W)=>vu (h.below hb) hn);have h0:=zf w (.cells #[.int .u8 0,.string ⟨#[]⟩,.int .i64 0] 37 (0,0));have hsz:(w.alloc (.cells #[.int .u8 0,.string ⟨#[]⟩,.int .i64 0] 37 (0,0))).heap.size=w.heap.size+1:=by simp
 have H1:=jN (h.below h0) x;rw[hsz] at H1;replace H1:=zi H1;clear hsz;have hnew:=zi (zk w (.cells #[.int .u8 0,.string ⟨#[]⟩,.int .i64 0] 37 (0,0)));unfold vU xK kO at H3;unfold zL;cases hk:uq (zy E st) [x] with
 |false=>
  rw[hk] at H1;rw[if_neg (by decide)];unfold xK;generalize zy E st=t at *;obtain⟨k1,t1,a1⟩:=t;unfold Pan at *;simp only at *;clear hk h H3;go_enter func139,ntmps139;go_wp2_with fail;refine H1.out.mono ?_;rintro e w1 ⟨rfl,hb0⟩;have hb:=zg (zf _ (.cells #[.string ⟨x.toArray⟩] 9 (0,0))) hb0;have hb1:=zg h0 hb;go_wp2_with fail;refine (H2.out _ hb1).mono ?_;rintro e w2 ⟨rfl,hb2⟩;go_wp2_with fail;exact⟨rfl,rfl,(zg hb1 hb2).mono hB⟩
 |true=>
  rw[hk] at H1;rw[if_pos rfl];unfold xK kO;simp only at *;unfold vM at *;generalize zy E st=t at *;obtain⟨k1,t1,a1⟩:=t;simp only at *;clear hk H2 h;go_enter func139,ntmps139;go_wp2_with fail;refine H1.out.mono ?_;rintro e w1 ⟨rfl,hb0⟩;have hb:=zg (zf _ (.cells #[.string ⟨x.toArray⟩] 9 (0,0))) hb0;have hb1:=zg h0 hb;go_wp2_with fail;refine (H3.out _ hb1).mono ?_;rintro e w2 ⟨⟨_,rfl,rfl⟩,hp,hf⟩;have hz:=hf.keep _ _ _ _ (zh hb hnew.out) (by decide) (by decide);have r0:=zd hz 0;have r1:=zd hz 1;have r2:=zd hz 2;have q0:∀j,w2.frozen? ⟨w.heap.size,j,none⟩=false:=fun j=>zl hz j
  have Hz:=zi hz;clear hz;go_wp2;refine bodyPost_ret (v:=vM ⟨k1,t1,a1⟩) (by simp[results,results139,go_sem,vM,r0,r1,r2]) rfl ?_;have hF:=(Fr.of_below hB hb1).trans hf;have z1:=zr Hz.out 0 (.int .u8 k1);have z2:=zr z1 1 (.string ⟨t1.toArray⟩);exact⟨⟨_,rfl,rfl⟩,((hp.setTok Hz.out hB 0 _).setTok z1 hB 1 _).setTok z2 hB 2 _,((hF.setNew (pE _) hB 0 _).setNew (pE _) hB 1 _).setNew (pE _) hB 2 _⟩
theorem yl{E:zv}{base pb:Nat}{iv:Value}{G:Nat->Prop}{w:World}{st:zY}(h:PW E base pb iv G w st)(hn:st.next<=1000000)(x:List UInt8):Calls prog 133 #[.pointer (some ⟨pb,0,none⟩),.string ⟨x.toArray⟩] w (xK E base pb iv G (yu x E st) Qq w):=by
 have hB:=h.base;have H1:=zi (jN h x);have hy:IntKind.i64.wrap ((st.next:Int)+1)=((st.next+1:Nat):Int):=by rw[pJ _ ⟨by omega,by omega⟩];omega
 have h0:=zf w (.cells #[.string ⟨x.toArray⟩] 9 (0,0));unfold yu;cases hk:uq (zy E st) [x] with
 |false=>
  rw[hk] at H1;rw[if_neg (by decide)];unfold xK Qq;simp only;have H:=zi h;clear hk h;go_enter func133,ntmps133;go_wp2_with fail;refine H1.out.mono ?_;rintro e w1 ⟨rfl,hb⟩;have hb1:=zg h0 hb;go_wp2;go_ret;exact⟨⟨_,rfl,rfl⟩,H.out.below hb1,Fr.of_below hB hb1⟩
 |true=>
  rw[hk] at H1;rw[if_pos rfl];unfold xK Qq;simp only;have H:=zi h;clear hk h;go_enter func133,ntmps133;go_wp2_with fail;refine H1.out.mono ?_;rintro e w1 ⟨rfl,hb⟩;have hb1:=zg h0 hb;obtain⟨nv,tv,s,kv,P,hG,hL⟩:=H.out.below hb1;replace hG:=zi hG;replace hL:=zi hL;obtain⟨_,_,_,_,c4,f⟩:=P.cells;obtain⟨hp,hf⟩:=P.next (st.next+1);have hp:=zi hp;have hf:=zi hf;clear P;go_wp2;go_ret;exact⟨⟨_,rfl,rfl⟩,⟨nv,tv,s,kv,hp.out,hG.out,fun g hg=>wI (hL.out g hg) hf.out.b.size⟩,(Fr.of_below hB hb1).trans hf.out⟩
theorem Tryz.infoNode:(prog.info? 45).map (fun i=>(i.zero,i.size,i.bytes))=some (some (.agg #[.int .u8 0,.string ⟨#[]⟩,.int .i64 0,.slice none 0 0,.int .i64 0]),5,64):=by kernel_rfl
theorem zfq{base:Nat}{W W':World}{nv:Value}{n:Nat}{xs:List Value}(hown:W.ownsRow base 45 5 nv n xs)(hg:W.grownBy W' nv.ownBlock)(hb:base<=W.heap.size):Fr base W W':=by
 refine⟨(pF base W).grown hg hb (fun k hk=>(hown.lt k hk).1),fun k cs T fr hk _ h2=>?_⟩;rw[hg.block k (gtA hk) (fun e=>?_)]
 ·exact hk
 ·obtain⟨_,⟨hv,_⟩|⟨g,cap,cur,hv,_,hgg,_⟩⟩:=hown
  ·rw[hv] at e;cases e
  ·rw[hv] at e;simp only[Value.ownBlock,pQ] at e;rw[e,hgg] at hk;cases hk;exact absurd rfl h2
theorem za7{base pb:Nat}{W:World}{nv:Value}{n:Nat}{xs cs:List Value}{fr:Nat×Nat}(hown:W.ownsRow base 45 5 nv n xs)(ho:W.heap[pb]? =some (.cells cs.toArray 120 fr)):nv.ownBlock≠some pb:=fun e=>by
 obtain⟨_,⟨hv,_⟩|⟨g,cap,cur,hv,_,hgg,_⟩⟩:=hown
 ·rw[hv] at e;cases e
 ·rw[hv] at e;simp only[Value.ownBlock,pQ] at e;rw[e] at hgg;have:=hgg.symm.trans ho;simp at this
theorem XF(l:List Nd)(kv:List Value)(x:Nd)(v:Value)(h:kv.length=l.length):jg (l ++ [x]) (kv ++ [v])=jg l kv ++ jS x v:=by
 unfold jg;rw[List.zip_append h.symm,List.flatMap_append];simp
theorem zz{E:zv}{base pb:Nat}{iv:Value}{G:Nat->Prop}{w:World}{st:zY}(h:PW E base pb iv G w st)(kind:Nat)(text:List UInt8)(n at_:Int)(kids:List Int)(kvv:Value)(hk:KS w kvv kids)(hkG:∀g,qV kvv=some g->¬G g)(hlen:st.nodes.length<=1000000):
 Calls prog 135 #[.pointer (some ⟨pb,0,none⟩),.int .u8 kind,.string ⟨text.toArray⟩,.int .i64 n,.int .i64 at_,kvv] w (xK E base pb iv G (zG kind text n at_ kids E st) ju w):=by
 obtain⟨i0,hi,hz0,hz1,hz2⟩:=info_parts Tryz.infoNode;have Hk:=zi hk;obtain⟨kp,kcap,rfl⟩:=hk.form;have hB:=h.base;obtain⟨nv,tv,s,kv,P,hG,hL⟩:=h;replace hG:=zi hG;replace hL:=zi hL;replace hkG:=zi hkG;unfold zG xK ju;simp only;have Hi:=zi (And.intro hi (And.intro hz0 (And.intro hz1 hz2)));clear hi hz0 hz1 hz2;obtain⟨m,hm⟩:=exE (st.nodes.length);have hba:=zf w (.cells #[.int .u8 kind,.string ⟨text.toArray⟩,.int .i64 n,(.slice kp kids.length kcap),.int .i64 at_] 45 (0,0));have hnew:=zk w (.cells #[.int .u8 kind,.string ⟨text.toArray⟩,.int .i64 n,(.slice kp kids.length kcap),.int .i64 at_] 45 (0,0));have P2:=P.below hba;have c0:=(P.cells).1;have hrow:=P2.nodes;rw[hm] at hrow hlen ⊢;have HP:=zi P;have HP2:=zi P2;have Hm:=zi hm;have Hnew:=zi hnew;have Hrow:=zi hrow;clear P P2 hm hnew hrow;go_enter func135,ntmps135;go_wp2_with (at_builtin;go_loud (refine wpList_append_own _ rfl _ _ 23 rfl base 45 i0 _ 5 64 underlying23 Hi.out.1 Hi.out.2.1 Hi.out.2.2.1 Hi.out.2.2.2 rfl (by decide) _ _ _ rfl Hrow.out ⟨w.heap.size,0,none⟩ 1 1 (jS ⟨kind,text,n,kids,at_⟩ (.slice kp kids.length kcap)) rfl rfl ?c1 ?c2 ?c3 ?c4 ?c5 ?_))
 case c1=>
  intro j u hu;have e1:(⟨w.heap.size,0,none⟩:Addr).add j=⟨w.heap.size,j,none⟩:=by unfold Addr.add;split <;> simp_all
  rw[e1,zd Hnew.out j,pV];exact hu
 case c2=>
  intro u hu;simp[jS] at hu;rcases hu with rfl|rfl|rfl|rfl|rfl <;> rfl
 case c3=>unfold maxLen;omega
 case c4=>omega
 case c5=>exact pN hB hba.size
 intro v' w5 hown' hgrow _;have hobj5:w5.heap[pb]? =some (.cells #[nv,iv,.string s,tv,.int .i64 st.next] 120 (0,0)):=by
  rw[hgrow.block pb (gtA HP2.out.obj) (fun e=>za7 (cs:=[nv,iv,.string s,tv,.int .i64 st.next]) Hrow.out HP2.out.obj e.symm)];exact HP2.out.obj
 have hF:Fr base w w5:=(Fr.of_below hB hba).trans (zfq Hrow.out hgrow (pN hB hba.size));obtain⟨g',cap',rfl⟩:∃g' cap',v'=.slice (some ⟨g',0,none⟩) (m+1) cap':=by
  rcases hown'.2 with⟨_,h0⟩|⟨g',cap',cur,hv,_⟩
  ·omega
  ·exact⟨g',cap',hv⟩
 have d0:=zd hobj5 0;have f0:=zl hobj5 0;have y1:IntKind.i64.wrap (((m+1:Nat):Int)-1)=(m:Int):=by rw[pJ _ ⟨by omega,by omega⟩];omega
 have y2:IntKind.i64.wrap ((m:Int)+1-1)=(m:Int):=by rw[pJ _ ⟨by omega,by omega⟩];omega
 simp only[pV,List.getElem?_cons_zero] at d0;have hne5:=za7 (cs:=[nv,iv,.string s,tv,.int .i64 st.next]) hown' hobj5;have F2:=hF.trans (zeg HP.out.hpb hobj5 0 (.slice (some ⟨g',0,none⟩) (m+1) cap'));have hfin:PW E base pb iv G (w5.setCell ⟨pb,0,none⟩ (.slice (some ⟨g',0,none⟩) (m+1) cap')) {st with nodes:=st.nodes ++ [⟨kind,text,n,kids,at_⟩]}:=by
  refine⟨_,tv,s,kv ++ [.slice kp kids.length kcap],HP.out.mk' F2.i (zr hobj5 0 _) ?_ ?_ ?_ rfl,fun v hv g hg=>?_,fun g hg=>wI (hL.out g hg) F2.b.size⟩
  rotate_right
  ·rcases pX.1 hv with hv|hv
   ·exact hG.out v hv g hg
   ·rw[wL] at hv;subst hv;exact hkG.out g hg
  ·have h1:=ownsRow_setCell_other hown' (a:=⟨pb,0,none⟩) hne5 (.slice (some ⟨g',0,none⟩) (m+1) cap');rw[XF _ _ _ _ HP.out.kvl];simp only[pC,pI,Hm.out];exact h1
  ·simp[HP.out.kvl]
  ·intro j x v hx hv;rcases Nat.lt_or_ge j st.nodes.length with hj|hj
   ·rw[wQ hj] at hx;rw[wQ (by rw[HP.out.kvl];exact hj)] at hv;exact (HP.out.kids j x v hx hv).fr F2
   ·rw[wM hj] at hx;rw[wM (by rw[HP.out.kvl];exact hj),HP.out.kvl] at hv;have hz:j-st.nodes.length=0\/0<j-st.nodes.length:=by omega
    rcases hz with hz|hz
    ·rw[hz] at hx hv;cases hx;cases hv;exact Hk.out.fr F2
    ·rw[wP (by simp;omega)] at hx;cases hx
 have Hfin:=zi hfin;have HF2:=zi F2;have Hobj5:=zi hobj5;clear hfin F2 hF hown' hgrow hobj5 hba;go_wp2;go_ret;exact⟨⟨_,rfl,rfl⟩,Hfin.out,HF2.out⟩
theorem yb{α β:Type}{m:PM α}{f:α->PM β}{E:zv}{s s':zY}{a:α}(h:m E s=.ok a s'):(m >>= f) E s=f a E s':=by
 show PM.bind m f E s=_
 unfold PM.bind;rw[h]
theorem vI{α β:Type}{m:PM α}{f:α->PM β}{E:zv}{s:zY}{p:Int}(h:m E s=.bad p):(m >>= f) E s=.bad p:=by
 show PM.bind m f E s=_
 unfold PM.bind;rw[h]
theorem qG.nx{E:zv}{st st':zY}{d:Int}(h:qG E st)(n:Nx E d st st')(hd:0<=d):qG E st':=⟨n.le,n.wf,by have:=n.cr;have:=h.few;have:=n.next;omega,h.lim⟩
def yO(base:Nat):LodeX.Rel:=⟨Fr base,Fr.refl base,Fr.trans,Eq,fun _=>rfl,Eq.trans,fun h=>h▸Fr.refl base _⟩
def Vi(E:zv)(base pb:Nat)(iv:Value)(n f:Nat)(m:PM Int):Prop:=∀(G:Nat->Prop) (w:World) (st:zY),PW E base pb iv G w st->qG E st->E.toks.length-st.next<n->Calls prog f #[.pointer (some ⟨pb,0,none⟩)] w (xK E base pb iv G (m E st) ju w)
structure kg(E:zv)(base pb:Nat)(iv:Value)(n:Nat)(R:xN):Prop where
 good:yH R
 expr:Vi E base pb iv n 142 R.expr
 unary:Vi E base pb iv n 199 R.unary
 block:Vi E base pb iv n 143 R.block
 branch:Vi E base pb iv n 225 R.branch
 kind:Vi E base pb iv n 141 R.kind
 pattern:Vi E base pb iv n 229 R.pattern
theorem PW.fresh{E:zv}{base pb:Nat}{iv:Value}{G:Nat->Prop}{w:World}{st:zY}(h:PW E base pb iv G w st)(n cap:Nat):∀g,qV (.slice (some ⟨w.heap.size,0,none⟩) n cap)=some g->¬G g:=fun g hg hGg=>by
 obtain⟨_,_,_,_,_,_,hL⟩:=h;have:=hL g hGg;cases n with
 |zero=>cases hg
 |succ n=>
  simp only[qV,pQ] at hg;omega
theorem KS.lit(w:World)(l:List Int):KS (w.alloc (.cells (yZ l).toArray 3 (0,0))) (.slice (some ⟨w.heap.size,0,none⟩) l.length l.length) l:=
 ⟨_,0,rfl,.inr ⟨w.heap.size,0,_,_,rfl,zk w _,fun j z hz=>by rw[Nat.zero_add,pV,yZ,pZ,hz];rfl⟩⟩
theorem xK.cases{α:Type}{E:zv}{base pb:Nat}{iv:Value}{G:Nat->Prop}{w w':World}{val:World->Value->α->Prop}{e:Ending}{r:qw α}(h:xK E base pb iv G r val w e w'):(∃p,r=.bad p/\e=Pan p/\Below base w w')\/(∃a st,r=.ok a st/\∃v,e=.returned v/\val w' v a/\PW E base pb iv G w' st/\Fr base w w'):=by
 cases r with
 |bad p=>exact .inl ⟨p,rfl,h.bad.1,h.bad.2⟩
 |ok a st=>
  obtain⟨⟨v,he,hv⟩,h1,h2⟩:=h.ok;exact .inr ⟨a,st,rfl,v,he,hv,h1,h2⟩
section
variable {α β:Type} {E:zv} {base pb:Nat} {iv:Value} {G:Nat→Prop} {w0 w w2:World} {st:zY} {val:World→Value→α→Prop} {m:PM α} {f:α→PM β} {r:qw β} {fn:Nat} {args:Array Value} {K:Ending→World→Prop}
theorem pgo(hr:Hid ((m >>= f) E st=r))(hc:Calls prog fn args w2 (xK E base pb iv G (m E st) val w2))(F:Fr base w0 w)(fr:Fr base w w2)(h:∀W a st1 v,val W v a->m E st=.ok a st1->PW E base pb iv G W st1->Fr base w2 W->Fr base w0 W->Hid (f a E st1=r)->K (.returned v) W)(hb:∀p W,r=.bad p->Below base w0 W->K (.panicked [{v:=.iface 122 (.agg #[.int .i64 p]),recovered:=false}]) W:=by rintro p W rfl hb;first|exact⟨rfl,p,rfl,rfl,hb⟩|(go_wp2_with fail;exact⟨rfl,rfl,hb⟩)):Calls prog fn args w2 K:=by
 refine hc.mono fun e W hp=>?_
 rcases hp.cases with⟨p,hm,he,hq⟩|⟨a,st1,hm,v,he,hv,h1,f1⟩
 ·rw[he];exact hb p W (hr.out.symm.trans (vI hm)) ((F.trans fr).b.trans hq)
 ·rw[he];exact h W a st1 v hv hm h1 f1 ((F.trans fr).trans f1) (zi ((yb hm).symm.trans hr.out))
theorem XV{m:PM Int}{f:Int->PM β}(hr:Hid ((m >>= f) E st=r))(hc:Calls prog fn args w2 (xK E base pb iv G (m E st) ju w2))(F:Fr base w0 w)(fr:Fr base w w2)(h:∀W a st1,m E st=.ok a st1->PW E base pb iv G W st1->Fr base w2 W->Fr base w0 W->Hid (f a E st1=r)->K (.returned (.int .i64 a)) W)(hb:∀p W,r=.bad p->Below base w0 W->K (.panicked [{v:=.iface 122 (.agg #[.int .i64 p]),recovered:=false}]) W:=by rintro p W rfl hb;first|exact⟨rfl,p,rfl,rfl,hb⟩|(go_wp2_with fail;exact⟨rfl,rfl,hb⟩)):Calls prog fn args w2 K:=
 pgo hr hc F fr (hb:=hb) fun W a st1 v hv hm h1 f1 F1 hr1=>by
  unfold ju at hv;subst hv;exact h W a st1 hm h1 f1 F1 hr1
theorem zO{m:PM Int}{r:qw Int}(hr:Hid (m E st=r))(hc:Calls prog fn args w2 (xK E base pb iv G (m E st) ju w2))(F:Fr base w0 w)(fr:Fr base w w2)(h:∀W a st1,m E st=.ok a st1->r=.ok a st1->PW E base pb iv G W st1->Fr base w2 W->Fr base w0 W->K (.returned (.int .i64 a)) W)(hb:∀p W,r=.bad p->Below base w0 W->K (.panicked [{v:=.iface 122 (.agg #[.int .i64 p]),recovered:=false}]) W:=by rintro p W rfl hb;first|exact⟨rfl,p,rfl,rfl,hb⟩|(go_wp2_with fail;exact⟨rfl,rfl,hb⟩)):Calls prog fn args w2 K:=by
 refine hc.mono fun e W hp=>?_
 rcases hp.cases with⟨p,hm,he,hq⟩|⟨a,st1,hm,v,he,hv,h1,f1⟩
 ·rw[he];exact hb p W (hr.out.symm.trans hm) ((F.trans fr).b.trans hq)
 ·unfold ju at hv;rw[he,hv];exact h W a st1 hm (hr.out.symm.trans hm) h1 f1 ((F.trans fr).trans f1)
theorem jo{m:PM yp}{f:yp->PM β}{d:Int}{Q:zY->yp->Prop}(hr:Hid ((m >>= f) E st=r))(hc:Calls prog fn args w2 (xK E base pb iv G (m E st) kO w2))(F:Fr base w0 w)(fr:Fr base w w2)(ok:Hid (qG E st))(gd:Gd d Q m)(h:∀W a st1,m E st=.ok a st1->PW E base pb iv G W st1->Fr base w2 W->Fr base w0 W->Nx E d st st1->Hid (qG E st1)->st1.next<=E.toks.length->st.next<=st1.next->Hid (f a E st1=r)->K (.returned (.agg #[.int .u8 a.kind,.string ⟨a.text.toArray⟩,.int .i64 a.at_])) W)(hd:0<=d:=by decide)(hb:∀p W,r=.bad p->Below base w0 W->K (.panicked [{v:=.iface 122 (.agg #[.int .i64 p]),recovered:=false}]) W:=by rintro p W rfl hb;first|exact⟨rfl,p,rfl,rfl,hb⟩|(go_wp2_with fail;exact⟨rfl,rfl,hb⟩)):Calls prog fn args w2 K:=
 pgo hr hc F fr (hb:=hb) fun W a st1 v hv hm h1 f1 F1 hr1=>by
  unfold kO vM at hv;subst hv;obtain⟨n,_⟩:=gd ok.out.le ok.out.wf hm;exact h W a st1 hm h1 f1 F1 n (zi (ok.out.nx n hd)) n.le n.next hr1
theorem XI{m:PM Int}{f:Int->PM β}{d:Int}{Q:zY->Int->Prop}(hr:Hid ((m >>= f) E st=r))(hc:Calls prog fn args w2 (xK E base pb iv G (m E st) ju w2))(F:Fr base w0 w)(fr:Fr base w w2)(ok:Hid (qG E st))(gd:Gd d Q m)(h:∀W a st1,m E st=.ok a st1->PW E base pb iv G W st1->Fr base w2 W->Fr base w0 W->Nx E d st st1->Q st1 a->Hid (qG E st1)->st1.next<=E.toks.length->st.next<=st1.next->Hid (f a E st1=r)->K (.returned (.int .i64 a)) W)(hd:0<=d:=by decide)(hb:∀p W,r=.bad p->Below base w0 W->K (.panicked [{v:=.iface 122 (.agg #[.int .i64 p]),recovered:=false}]) W:=by rintro p W rfl hb;first|exact⟨rfl,p,rfl,rfl,hb⟩|(go_wp2_with fail;exact⟨rfl,rfl,hb⟩)):Calls prog fn args w2 K:=
 XV hr hc F fr (hb:=hb) fun W a st1 hm h1 f1 F1 hr1=>by
  obtain⟨n,q⟩:=gd ok.out.le ok.out.wf hm;exact h W a st1 hm h1 f1 F1 n q (zi (ok.out.nx n hd)) n.le n.next hr1
theorem Yu{x:List UInt8}{f:Bool->PM β}(hr:Hid ((yu x >>= f) E st=r))(hc:Calls prog fn args w2 (xK E base pb iv G (yu x E st) Qq w2))(F:Fr base w0 w)(fr:Fr base w w2)(ok:Hid (qG E st))(h:∀W a st1,yu x E st=.ok a st1->PW E base pb iv G W st1->Fr base w2 W->Fr base w0 W->Nx E (if a then 1 else 0) st st1->Hid (qG E st1)->st1.next<=E.toks.length->Hid (f a E st1=r)->K (.returned (.bool a)) W)(hb:∀p W,r=.bad p->Below base w0 W->K (.panicked [{v:=.iface 122 (.agg #[.int .i64 p]),recovered:=false}]) W:=by rintro p W rfl hb;first|exact⟨rfl,p,rfl,rfl,hb⟩|(go_wp2_with fail;exact⟨rfl,rfl,hb⟩)):Calls prog fn args w2 K:=
 pgo hr hc F fr (hb:=hb) fun W a st1 v hv hm h1 f1 F1 hr1=>by
  unfold Qq at hv;subst hv;have n:=Zx ok.out.le ok.out.wf hm;exact h W a st1 hm h1 f1 F1 n (zi (ok.out.nx n (by split <;> decide))) n.le hr1
end
theorem LodeX.callX{RR:LodeX.Rel}{Xp:List PanicEntry->World->Prop}{P:Program}{l:List Oper}{Q:Act->World->Prop}{q:List (Nat×Nat)}{b:World}{a:Act}{i:Nat}{o:Oper}(h:∀K:World->Act->Prop,(∀w' a',LodeX.kh RR Xp P l.toArray Q q w' a'->K w' a')->o.wp P a b (fun a' w'=>RR.rel b w'/\K w' a') (LodeX.xOf Xp))(hi':l[i]? =some o:=by exact rfl)(hw:Region.wanted o (yielded l.toArray a.tmps)=true:=by exact rfl)(hE:RR.yg=Eq:=by exact rfl):LodeX.kh RR Xp P l.toArray Q ((i,2) :: q) b a:=
 LodeX.zZ hi' hw fun K hK W hW=>by
  rw[hE] at hW;subst hW;exact h K hK
abbrev XP{β:Type}(base:Nat)(r:qw β)(w:World)(c:List PanicEntry)(W:World):Prop:=∃p,r=.bad p/\c=[{v:=.iface 122 (.agg #[.int .i64 p]),recovered:=false}]/\Below base w W
theorem VT{E:zv}{base pb n:Nat}{iv:Value}{R:xN}(hR:kg E base pb iv n R):Vi E base pb iv (n+1) 137 (jE R):=by
 intro G w st0 h0 ok0 hn;obtain⟨r,hr⟩:=exE (jE R E st0);rw[hr];unfold jE at hr;replace hr:=zi hr;replace ok0:=zi ok0;replace hR:=zi hR;have F0:=Fr.refl base w;have hlim:=ok0.out.lim;have hle:=ok0.out.le;go_enter func137,ntmps137;go_wp2_with fail;refine jo hr (xq h0 (by omega) 1) F0 (Fr.refl _ _) ok0 (yh (by decide)) ?_;clear hr;intro w1 x1 st1 hm1 h1 f1 F1 n1 ok1 hle1 ha1 hr;obtain⟨k1,t1,a1⟩:=x1;simp only at hr ⊢;go_wp2_with fail;refine jo hr (zw (h1.below (zf _ _)) (by omega) [58]) F1 (Fr.of_below h1.base (zf _ _)) ok1 (zo) ?_;clear hr;intro w2 x2 st2 hm2 h2 f2 F2 n2 ok2 hle2 ha2 hr;have hz:=f2.keep _ _ _ _ (zk w1 _) (by decide) (by decide);have hS:∀W,(yO base).rel w2.drew W->(W.cell? ⟨w1.heap.size,1,none⟩=some (.string ⟨t1.toArray⟩)/\W.cell? ⟨w1.heap.size,2,none⟩=some (.int .i64 a1)):=fun W hF=>by
  have:=hF.keep _ _ _ _ hz (by decide) (by decide);exact⟨zd this 1,zd this 2⟩
 clear hz;go_wp2_with fail;refine LodeX.jm (RR:=yO base) (Xp:=XP base r w) [(0,0),(1,0),(2,1),(3,0),(4,1),(5,0),(6,2),(7,2),(8,2),(9,0)] ?_;refine LodeX.qT ?_;have hrem:E.toks.length-st2.next<n:=by have:=n1.adv;have:=n2.adv;omega
 refine LodeX.callX fun K hK=>?_
 go_simp;refine XV hr (hR.out.kind _ _ _ (h2.below bR.drew) ok2.out hrem) F2 ((Fr.of_below h2.base bR.drew)) ?_;clear hr;intro w3 x3 st3 hm3 h3 f3 F3 hr;refine⟨f3,hK _ _ ?_⟩;clear hK K;have hS:=fun W (hF:(yO base).rel w3 W)=>hS W (Fr.trans f3 hF)
 try simp only[Act.put,yG,yE,yF]
 obtain⟨n3,v3⟩:=hR.out.good.kind ok2.out.le ok2.out.wf hm3;have ok3:=ok2.out.nx n3 (by decide);have hfew:st3.nodes.length<=1000000:=by have:=ok3.few;have:=ok3.le;omega
 refine LodeX.callX fun K hK=>?_
 go_simp;refine⟨Fr.of_below h3.base (zf _ _),hK _ _ ?_⟩;clear hK K
 try simp only[Act.put,yG,yE,yF]
 refine LodeX.callX fun K hK=>?_
 go_simp;refine zO hr (zz (h3.below (zf _ _)) 88 t1 0 a1 [x3] _ (KS.lit _ [x3]) (h3.fresh _ _) hfew) F3 (Fr.of_below h3.base (zf _ _)) ?_;rintro w4 x4 st4 hm4 rfl h4 f4 F4;refine⟨f4,hK _ _ ?_⟩;clear hK K
 try simp only[Act.put,yG,yE,yF]
 refine LodeX.qT ?_;refine LodeX.zC fun W hW=>?_
 cases hW;clear hS;go_wp2;go_ret;exact⟨⟨_,rfl,rfl⟩,h4,F4⟩
end
section
open Go.RowKit Lode Go.Shelf
open Go.Proofs.Tryz
theorem Tryz.infoIntP:(prog.info? 3).map (fun i=>(i.zero,i.size,i.bytes))=some (some (.int .i64 0),1,8):=by kernel_rfl
theorem zhs{w:World}{base g n cap:Nat}{xs:List Value}(hown:w.ownsRow base 3 1 (.slice (some ⟨g,0,none⟩) n cap) n xs){ad:Addr}{u:Value}(hu:w.cell? ad=some u)(hs:ad.spot=none)(h1:u.oneCell'=true)(hn:n<=1000000)(hbase:base<=w.heap.size)(ty:TypeId):
 ∃g' cap' w',(Builtin.append_ #[24,24] ty #[.slice (some ⟨g,0,none⟩) n cap,.slice (some ad) 1 1]).run prog w=.ok (.slice (some ⟨g',0,none⟩) (n+1) cap') w'/\w'.ownsRow base 3 1 (.slice (some ⟨g',0,none⟩) (n+1) cap') (n+1) (xs ++ [u])/\w.grownBy w' (some g)/\(g'=g\/g'=w.heap.size):=by
 obtain⟨i0,hi,hz0,hz1,hz2⟩:=info_parts Tryz.infoIntP;have hnews:∀j x,[u][j]? =some x->w.cell? (ad.add j)=some x:=fun j x h=>by
  match j,h with
  |0,h=>
   simp at h;subst h;obtain⟨b,o,s⟩:=ad;simp only at hs;subst hs;exact hu
 have h1':∀x∈[u],x.oneCell'=true:=fun x hx=>by rw[wL] at hx;subst hx;exact h1
 obtain⟨v',w',hr,h2,h3,_⟩:=run_append_own (P:=prog) w base 24 ty 3 i0 _ 1 8 underlying24 hi hz0 hz1 hz2 rfl (by decide) _ n xs hown ad 1 1 [u] rfl hnews h1' (by unfold maxLen;omega) (by omega) hbase;have key:∃g' cap',v'=.slice (some ⟨g',0,none⟩) (n+1) cap'/\(g'=g\/g'=w.heap.size):=by
  rcases id hown.2 with⟨h,_⟩|⟨g2,cap2,cur,h,_,hg,hnc,hcm,hcs,htake⟩
  ·simp at h
  ·simp only[Value.slice.injEq,pQ,Addr.mk.injEq,and_true,true_and] at h;obtain⟨rfl,rfl⟩:=h;by_cases hroom:n+1<=cap
   ·have hr2:=run_append_room (P:=prog) w 24 ty 3 i0 underlying24 hi g n cap cur hg ad 1 1 [u] (by rw[hz1];rfl) hnews h1' hroom (by rw[hz1,hcs];simp;omega);rw[hr] at hr2;simp only[Result.ok.injEq] at hr2;exact⟨g,cap,hr2.1,.inl rfl⟩
   ·have hr2:=run_append_grow (P:=prog) w 24 ty 3 i0 _ underlying24 hi hz0 ⟨g,0,none⟩ n cap xs (by rw[hz1];exact hown.1) (hown.cells (g:=g) rfl) ad 1 1 [u] (by rw[hz1];rfl) hnews (by omega) (by omega) (growslice_fits (by omega) (by rw[hz2];omega));rw[hr] at hr2;simp only[Result.ok.injEq] at hr2;exact⟨_,_,hr2.1,.inr rfl⟩
 obtain⟨g',cap',rfl,hg'⟩:=key;exact⟨g',cap',w',hr,h2,h3,hg'⟩
theorem zcl{w:World}{base n:Nat}{v:Value}{xs:List Value}(hown:w.ownsRow base 3 1 v n xs){ad:Addr}{u:Value}(hu:w.cell? ad=some u)(hs:ad.spot=none)(h1:u.oneCell'=true)(hn:n<=1000000)(hbase:base<=w.heap.size)(ty:TypeId):
 ∃g' cap' w',(Builtin.append_ #[24,24] ty #[v,.slice (some ad) 1 1]).run prog w=.ok (.slice (some ⟨g',0,none⟩) (n+1) cap') w'/\w'.ownsRow base 3 1 (.slice (some ⟨g',0,none⟩) (n+1) cap') (n+1) (xs ++ [u])/\w.grownBy w' v.ownBlock/\(v.ownBlock=some g'\/g'=w.heap.size):=by
 rcases id hown.2 with⟨rfl,h0⟩|⟨g,cap,cur,rfl,_⟩
 ·obtain⟨i0,hi,hz0,hz1,hz2⟩:=info_parts Tryz.infoIntP;have hnews:∀j x,[u][j]? =some x->w.cell? (ad.add j)=some x:=fun j x h=>by
   match j,h with
   |0,h=>
    simp at h;subst h;obtain⟨b,o,s⟩:=ad;simp only at hs;subst hs;exact hu
  have h1':∀x∈[u],x.oneCell'=true:=fun x hx=>by rw[wL] at hx;subst hx;exact h1
  obtain⟨v',w',hr,h2,h3,_⟩:=run_append_own (P:=prog) w base 24 ty 3 i0 _ 1 8 underlying24 hi hz0 hz1 hz2 rfl (by decide) _ n xs hown ad 1 1 [u] rfl hnews h1' (by unfold maxLen;omega) (by omega) hbase;have hr2:=run_append_nil (P:=prog) w 24 ty 3 i0 _ underlying24 hi hz0 ad 1 1 [u] (by rw[hz1];rfl) hnews (by decide) (by decide) (by rw[hz2];decide);rw[hr] at hr2;simp only[Result.ok.injEq] at hr2;obtain⟨rfl,rfl⟩:=hr2;subst h0;exact⟨_,_,_,hr,h2,h3,.inr rfl⟩
 ·obtain⟨g',cap',w',a,b,c,d⟩:=zhs hown hu hs h1 hn hbase ty;refine⟨g',cap',w',a,b,c,d.imp (fun h=>?_) id⟩;rw[h];rfl
theorem xC{w:World}{ops:Array Oper}{rest:List Oper}{o:Oper}{a:Act}{Q:Exit->Act->World->Prop}(hgd:o.guard=none)(s x:Operand)
 (ho:o.op=.call {callee:=.builtin .append,args:= #[s,x],argTypes:= #[24,24]})
 {base n:Nat} {v:Value} {xs:List Value} (hs:a.eval s=v) (hown:w.ownsRow base 3 1 v n xs) {ad:Addr} {u:Value} (hx:a.eval x=.slice (some ad) 1 1) (hu:w.cell? ad=some u) (hsp:ad.spot=none) (h1:u.oneCell'=true) (hn:n<=1000000) (hbase:base<=w.heap.size)
 (h:∀g' cap' w',w'.ownsRow base 3 1 (.slice (some ⟨g',0,none⟩) (n+1) cap') (n+1) (xs ++ [u])->w.grownBy w' v.ownBlock->(v.ownBlock=some g'\/g'=w.heap.size)->wpList prog ops Q rest (a.put o.dst (.slice (some ⟨g',0,none⟩) (n+1) cap')) w'):wpList prog ops Q (o :: rest) a w:=by
 refine wpList_plain hgd fun K hK=>?_
 obtain⟨g',cap',w',hr,h2,h3,h4⟩:=zcl hown hu hsp h1 hn hbase o.type;unfold Oper.wp;simp[execOp,ho,resolve,invoke,builtin,hs,hx,hr,Result.andThen];exact hK _ _ (h g' cap' w' h2 h3 h4)
theorem Xm{w:World}{v:Value}{l:List Int}(h:KS w v l){g:Nat}(hg:qV v=some g):∃cs fr,w.heap[g]? =some (.cells cs 3 fr):=by
 obtain⟨p,cap,rfl,h⟩:=h;rcases h with rfl|⟨g',off,cs,fr,rfl,hh,_⟩
 ·simp[qV] at hg
 ·cases hl:l.length with
  |zero=>rw[hl] at hg;cases hg
  |succ n=>
   rw[hl] at hg;simp only[qV,pQ] at hg;subst hg;exact⟨cs,fr,hh⟩
theorem zbb{w:World}{B n:Nat}{v:Value}{xs:List Value}(h:w.ownsRow B 3 1 v n xs){g:Nat}(hg:v.ownBlock=some g):∃cs,w.heap[g]? =some (.cells cs 3 (0,0)):=by
 obtain⟨_,⟨hv,_⟩|⟨g',cap,cur,hv,_,hh,_⟩⟩:=h
 ·rw[hv] at hg;cases hg
 ·rw[hv] at hg;simp only[Value.ownBlock,pQ] at hg;subst hg;exact⟨cur,hh⟩
theorem PW.append{E:zv}{base pb B:Nat}{iv:Value}{G G':Nat->Prop}{w w':World}{st:zY}(h:PW E base pb iv G w st){v:Value}{n:Nat}{xs:List Value}(hown:w.ownsRow B 3 1 v n xs)(hB:base<=B)(hv:∀g,v.ownBlock=some g->G g)(hi:∀g,v.ownBlock=some g->iv.ownBlock≠some g){g':Nat}(hg:w.grownBy w' v.ownBlock)(hg':v.ownBlock=some g'\/g'=w.heap.size)(hlt:g'<w'.heap.size)
 (hG:∀g,G' g->G g\/g=g'):PW E base pb iv G' w' st:=by
 have hbase:=h.base;obtain⟨nv,tv,s,kv,P,hK,hL⟩:=h;have hpb:v.ownBlock≠some pb:=fun e=>by
  obtain⟨cs,hh⟩:=zbb hown e;have:=hh.symm.trans P.obj;simp at this
 have hkids:∀(j:Nat) (x:Nd) (u:Value),st.nodes[j]? =some x->kv[j]? =some u->KS w' u x.kids:=fun j x u hx hu=>by
  have hk:=P.kids j x u hx hu;have hm:u∈kv:=wK hu;obtain⟨p,cap,rfl,hk2⟩:=id hk;refine⟨p,cap,rfl,?_⟩;rcases hk2 with h0|⟨g,off,cs,fr,rfl,hh,hc⟩
  ·exact .inl h0
  ·by_cases h0:x.kids=[]
   ·exact .inl h0
   ·refine .inr ⟨g,off,cs,fr,rfl,?_,hc⟩;have hb:qV (.slice (some ⟨g,off,none⟩) x.kids.length (x.kids.length+cap))=some g:=by
     cases hl:x.kids.length with
     |zero=>exact absurd (pM hl) h0
     |succ m=>rfl
    rw[hg.block g (gtA hh) (fun e=>hK _ hm g hb (hv g e.symm))];exact hh
 refine⟨nv,tv,s,kv,⟨P.hpb,?_,P.len,?_,?_,P.kvl,hkids,?_⟩,fun u hu g hgb hgG=>?_,fun g hgG=>?_⟩
 ·rw[hg.block pb (gtA P.obj) (fun e=>hpb e.symm)];exact P.obj
 ·exact P.toks.fr ((pF base w).grown hg hbase (fun k hk=>pN hB (hown.lt k hk).1))
 ·refine World.ownsRow.kept P.nodes hg ?_;obtain⟨_,⟨hnv,_⟩|⟨g,cap,cur,hnv,_,hh,_⟩⟩:=P.nodes
  ·exact .inl (by rw[hnv];rfl)
  ·refine .inr (fun e=>?_);rw[hnv] at e;obtain⟨cs,hh2⟩:=zbb hown e.symm;have:=hh.symm.trans hh2;simp at this
 ·refine World.ownsRow.kept P.items hg ?_;cases hiv:iv.ownBlock with
  |none=>exact .inl rfl
  |some g=>exact .inr (fun e=>hi g e.symm hiv)
 ·rcases hG g hgG with h1|rfl
  ·exact hK u hu g hgb h1
  ·rcases hg' with h2|h2
   ·exact hK u hu _ hgb (hv _ h2)
   ·obtain⟨j,hj,rfl⟩:=List.mem_iff_getElem.1 hu;have hx:st.nodes[j]? =some (st.nodes[j]'(by rw[<-P.kvl];exact hj)):=glE _;obtain⟨cs,fr,hh⟩:=Xm (P.kids j _ _ hx (glE hj)) hgb;have:=(gtA hh);omega
 ·rcases hG g hgG with h1|rfl
  ·exact wI (hL g h1) hg.size
  ·exact hlt
theorem Fr.grow_new{base:Nat}{w W W':World}{row:Option Nat}(F:Fr base w W)(hg:W.grownBy W' row)(hb:base<=w.heap.size)(hrow:∀k,row=some k->w.heap.size<=k):Fr base w W':=
 ⟨F.b.grown hg (pN hb F.b.size) (fun k hk=>pN hb (hrow k hk)),fun k cs T fr hk h1 h2=>by
  have hl:=(gtA hk);rw[hg.block k (wI hl F.b.size) (fun e=>by have:=hrow k e.symm;omega)];exact F.keep k cs T fr hk h1 h2⟩
end
section
open Go.RowKit Lode Go.Shelf
attribute [local go_sem ↓] Go.wp_at_zero Go.wp_at_succ
open Go.Proofs.Tryz
theorem zu{w W:World}{b:Nat}{e:TypeId}{sz:Nat}{v:Value}{n:Nat}{xs:List Value}(h:w.ownsRow b e sz v n xs)(hb:Below w.heap.size w W):W.ownsRow b e sz v n xs:=
 World.ownsRow.kept (row:=none) h ⟨hb.os,hb.tape,hb.output,hb.size,fun k hk _=>hb.block k hk⟩ (by cases v.ownBlock <;> simp)
theorem PW.weaken{E:zv}{base pb:Nat}{iv:Value}{G G':Nat->Prop}{w:World}{st:zY}(h:PW E base pb iv G w st)(hG:∀g,G' g->G g):PW E base pb iv G' w st:=by
 obtain⟨nv,tv,s,kv,P,h1,h2⟩:=h;exact⟨nv,tv,s,kv,P,fun v hv g hg hg'=>h1 v hv g hg (hG g hg'),fun g hg=>h2 g (hG g hg)⟩
theorem PW.ivlt{E:zv}{base pb:Nat}{iv:Value}{G:Nat->Prop}{w:World}{st:zY}(h:PW E base pb iv G w st){g:Nat}(hg:iv.ownBlock=some g):g<w.heap.size:=by
 obtain⟨nv,tv,s,kv,P,h1,h2⟩:=h;exact (P.items.lt g hg).2
def Gw(G:Nat->Prop)(v:Value):Nat->Prop:=fun g=>G g\/v.ownBlock=some g
def uT(E:zv)(base pb:Nat)(iv:Value)(G:Nat->Prop)(b:Nat)(r:qw (List Int))(w:World)(e:Ending)(w':World):Prop:=match r with
 | .ok l st'=>∃v,e=.returned v/\l.length<=b/\w'.ownsRow w.heap.size 3 1 v l.length (yZ l)/\PW E base pb iv (Gw G v) w' st'/\Fr base w w'
 | .bad p=>e=Pan p/\Below base w w'
theorem uT.cases{E:zv}{base pb:Nat}{iv:Value}{G:Nat->Prop}{w w':World}{e:Ending}{b:Nat}{r:qw (List Int)}(h:uT E base pb iv G b r w e w'):(∃p,r=.bad p/\e=Pan p/\Below base w w')\/(∃l st,r=.ok l st/\∃v,e=.returned v/\l.length<=b/\w'.ownsRow w.heap.size 3 1 v l.length (yZ l)/\PW E base pb iv (Gw G v) w' st/\Fr base w w'):=by
 cases r with
 |bad p=>exact .inl ⟨p,rfl,h.1,h.2⟩
 |ok a st=>
  obtain⟨v,he,h0,h1,h2,h3⟩:=h;exact .inr ⟨a,st,rfl,v,he,h0,h1,h2,h3⟩
theorem lgo{β:Type}{E:zv}{base pb b:Nat}{iv:Value}{G:Nat->Prop}{w0 w w2:World}{st:zY}{m:PM (List Int)}{f:List Int->PM β}{r:qw β}{fn:Nat}{args:Array Value}{K:Ending->World->Prop}(hr:Hid ((m >>= f) E st=r))(hc:Calls prog fn args w2 (uT E base pb iv G b (m E st) w2))(F:Fr base w0 w)(fr:Fr base w w2)(h:∀W a st1 v,a.length<=b->W.ownsRow w2.heap.size 3 1 v a.length (yZ a)->m E st=.ok a st1->PW E base pb iv (Gw G v) W st1->Fr base w2 W->Fr base w0 W->Hid (f a E st1=r)->K (.returned v) W)(hb:∀p W,r=.bad p->Below base w0 W->K (.panicked [{v:=.iface 122 (.agg #[.int .i64 p]),recovered:=false}]) W:=by rintro p W rfl hb;first|exact⟨rfl,p,rfl,rfl,hb⟩|(go_wp2_with fail;exact⟨rfl,rfl,hb⟩)):Calls prog fn args w2 K:=by
 refine hc.mono fun e W hp=>?_
 rcases hp.cases with⟨p,hm,he,hq⟩|⟨a,st1,hm,v,he,hl,ho,h1,f1⟩
 ·rw[he];exact hb p W (hr.out.symm.trans (vI hm)) ((F.trans fr).b.trans hq)
 ·rw[he];exact h W a st1 v hl ho hm h1 f1 ((F.trans fr).trans f1) (zi ((yb hm).symm.trans hr.out))
def zlK(E:zv)(base pb n:Nat)(iv:Value)(G:Nat->Prop)(part:PM Int)(w:World)(r:qw (List Int))(v:Value)(wr:World):Prop:=∃st acc k,qm k part acc E st=r/\E.toks.length-st.next<k/\E.toks.length-st.next<n/\acc.length<=st.next/\qG E st/\wr.ownsRow w.heap.size 3 1 v acc.length (yZ acc)/\PW E base pb iv (Gw G v) wr st/\Fr base w wr
def xh(pb:Nat)(W:World):Nat:=match W.cell? ⟨pb,4,none⟩ with
 |some (.int _ n)=>n.toNat
 |_=>0
theorem PW.xh{E:zv}{base pb:Nat}{iv:Value}{G:Nat->Prop}{w:World}{st:zY}(h:PW E base pb iv G w st):xh pb w=st.next:=by
 obtain⟨nv,tv,s,kv,P,h1,h2⟩:=h;unfold Go.Proofs.YtnncmdpopgkibaaGreatDoor.xh;rw[P.cells.2.2.2.2.1];simp
theorem yw{x:List UInt8}{E:zv}{s s':zY}(h:yu x E s=.ok true s'):s'.next=s.next+1:=by
 unfold yu at h;split at h
 ·cases h;rfl
 ·cases h
theorem Ya{E:zv}{base pb n f:Nat}{iv:Value}{part:PM Int}(hf:Vi E base pb iv n f part)(hg:Gd 0 Vd part)(heg:Enters prog f)
 {G:Nat->Prop} {w:World} {st:zY} (h:PW E base pb iv G w st) (ok:qG E st) (hn:E.toks.length-st.next<n):Calls prog 170 #[.pointer (some ⟨pb,0,none⟩),.func (.func f) #[.pointer (some ⟨pb,0,none⟩)] #[]] w (uT E base pb iv G (E.toks.length+1) (kC part E st) w):=by
 obtain⟨r,hr⟩:=exE (kC part E st);rw[hr];unfold kC at hr;have hbase:=h.base;have hlim:=ok.lim;have hst:zlK E base pb n iv G part w r (.slice none 0 0) w:=⟨st,[],_,hr,by omega,hn,pU _,ok,⟨rfl,.inl ⟨rfl,rfl⟩⟩,h.weaken (fun g hg=>by
  rcases hg with hg|hg
  ·exact hg
  ·cases hg),Fr.refl base w⟩
 replace hst:=zi hst;replace heg:=zi heg;have hivlt:=zi (fun g=>h.ivlt (g:=g));clear hr h ok hn;go_enter func170,ntmps170;go_wp2;go_loopw [4] (fun v wr=>zlK E base pb n iv G part w r v wr) (fun _ wr=>E.toks.length+1-xh pb wr)
 case atStart=>exact hst.out
 case round=>
  obtain⟨st0,acc,k,hr,hk,hn,hacc,ok0,hown,h0,F0⟩:=hrel;obtain⟨k,rfl⟩:∃m,k=m+1:=⟨k-1,by omega⟩;unfold qm at hr;replace hr:=zi hr;replace hown:=zi hown;have hle0:=ok0.le;have heg':=fun W=>heg.out #[.pointer (some ⟨pb,0,none⟩)] W
  have ok0:=zi ok0;go_wp2_with fail;refine (hf _ _ _ h0 ok0.out hn).mono ?_;rintro e w1 hp;rcases hp.cases with⟨p,hm,he,hb⟩|⟨x1,st1,hm1,v,rfl,hv,h1,f1⟩
  ·unfold Pan at he;subst he;have hr2:=(vI hm).symm.trans hr.out;subst hr2;go_wp2_with fail;exact⟨rfl,(show uT E base pb iv G (E.toks.length+1) (.bad p) w _ w1 from ⟨rfl,F0.b.trans hb⟩)⟩
  replace hr:=zi ((yb hm1).symm.trans hr.out);unfold ju at hv;subst hv;have F1:=F0.trans f1;obtain⟨n1,v1⟩:=hg ok0.out.le ok0.out.wf hm1;have ok1:=zi (ok0.out.nx n1 (by decide));have hn1:=n1.next;have hle1:=ok1.out.le;have hown1:=zH hown.out f1 (by decide) (by decide);have hsz1:w.heap.size<=w1.heap.size:=F1.b.size;have hA:=zf w1 (.cells #[.int .i64 x1] 3 (0,0));have hown2:=zu hown1 hA;go_wp2_with (at_builtin;refine xC rfl _ _ rfl rfl hown2 rfl (zd (zk w1 _) 0) rfl rfl (by omega) (by simp;omega) ?_);intro g' cap' w2 hrow hgrow hg';have hrow2:w2.ownsRow w.heap.size 3 1 (.slice (some ⟨g',0,none⟩) (acc ++ [x1]).length cap') (acc ++ [x1]).length (yZ (acc ++ [x1])):=by
   rw[pC,pI];simp only[yZ,List.map_append,List.map_cons,List.map_nil];exact hrow
  have hv2:(Value.slice (some ⟨g',0,none⟩) (acc ++ [x1]).length cap').ownBlock=some g':=rfl;have h2:PW E base pb iv (Gw G (.slice (some ⟨g',0,none⟩) (acc ++ [x1]).length cap')) w2 st1:=(h1.below hA).append hown2 hbase (fun g hg=>.inr hg) (fun g hg e=>by
   have a:=(hown2.lt g hg).1;have b:=hivlt.out g e;omega) hgrow (hg'.imp id (fun h=>by simpa using h)) (hrow2.lt g' hv2).2 (fun g hg=>by
   rcases hg with hg|hg
   ·exact .inl (.inl hg)
   ·rw[hv2] at hg;exact .inr (Option.some.inj hg).symm)
  have F2:=(F1.trans (Fr.of_below h1.base hA)).grow_new hgrow hbase (fun k hk=>(hown2.lt k hk).1);have hlen:(acc ++ [x1]).length=acc.length+1:=by simp
  rw[<-hlen];have hacc2:(acc ++ [x1]).length<=st1.next+1:=by omega
  replace hrow2:=zi hrow2;clear hrow hgrow hg' hown2 hown1 hA hv2 hlen hown f1;generalize acc ++ [x1]=acc2 at *;go_wp2_with fail;refine (yl h2 (by omega) [44]).mono ?_;rintro e w3 hp;rcases hp.cases with⟨p,hm,he,hb⟩|⟨x3,st3,hm3,v,rfl,hv,h3,f3⟩
  ·unfold Pan at he;subst he;have hr2:=(vI hm).symm.trans hr.out;subst hr2;go_wp2_with fail;exact⟨rfl,(show uT E base pb iv G (E.toks.length+1) (.bad p) w _ w3 from ⟨rfl,F2.b.trans hb⟩)⟩
  replace hr:=zi ((yb hm3).symm.trans hr.out);unfold Qq at hv;subst hv;have F3:=F2.trans f3;have hown3:=zH hrow2.out f3 (by decide) (by decide);replace hown3:=zi hown3;have n3:=Zx ok1.out.le ok1.out.wf hm3;have ok3:=ok1.out.nx n3 (by split <;> decide);cases x3 with
  |true=>
   have hr3:qm k part acc2 E st3=r:=by
    have:=hr.out
    rwa [if_pos rfl] at this
   replace hr3:=zi hr3;have hnx:=n3.cr;have hnn:st1.next+1=st3.next:=by
    have:=yw hm3;exact this.symm
   have hle3:=ok3.le;go_wp2;go_roundw
   case rel=>exact⟨st3,acc2,k,hr3.out,by omega,by omega,by omega,ok3,hown3.out,h3,F3⟩
   case measure=>
    rw[h3.xh,h0.xh];omega
  |false=>
   have hr3:qw.ok acc2 st3=r:=by
    have:=hr.out
    rwa [if_neg (by decide)] at this
   subst hr3;go_wp2;go_ret;exact⟨_,rfl,by omega,hown3.out,h3,F3⟩
theorem ZZ{w:World}{b b':Nat}{e:TypeId}{sz:Nat}{v:Value}{n:Nat}{xs:List Value}(h:w.ownsRow b e sz v n xs)(hb:b'<=b):w.ownsRow b' e sz v n xs:=by
 obtain⟨hl,h⟩:=h;exact⟨hl,h.imp id fun ⟨g,cap,cur,hv,hg,r⟩=>⟨g,cap,cur,hv,pN hb hg,r⟩⟩
theorem uE(w:World)(b:Nat){l:List Int}(hl:[]=l):w.ownsRow b 3 1 (.slice none 0 0) l.length (yZ l):=hl▸⟨rfl,.inl ⟨rfl,rfl⟩⟩
theorem zba(w:World)(l:List Int)(hl:l.length<=1000000):(w.alloc (.cells (yZ l).toArray 3 (0,0))).ownsRow w.heap.size 3 1 (.slice (some ⟨w.heap.size,0,none⟩) l.length l.length) l.length (yZ l):=
 ⟨by simp[yZ],.inr ⟨w.heap.size,l.length,_,rfl,pE _,zk w _,pE _,by unfold maxLen;omega,by simp[yZ],by simp[yZ];rw[List.take_of_length_le (by simp)]⟩⟩
theorem PW.gnil{E:zv}{base pb:Nat}{iv:Value}{G:Nat->Prop}{w:World}{st:zY}(h:PW E base pb iv G w st):PW E base pb iv (Gw G (.slice none 0 0)) w st:=h.weaken (fun g hg=>by
 rcases hg with hg|hg
 ·exact hg
 ·cases hg)
theorem PW.ungw{E:zv}{base pb:Nat}{iv v:Value}{G:Nat->Prop}{w:World}{st:zY}(h:PW E base pb iv (Gw G v) w st):PW E base pb iv G w st:=h.weaken fun _ hg=>.inl hg
theorem PW.glt{E:zv}{base pb:Nat}{iv:Value}{G:Nat->Prop}{w:World}{st:zY}(h:PW E base pb iv G w st):∀g,G g->g<w.heap.size:=by
 obtain⟨nv,tv,s,kv,P,h1,h2⟩:=h;exact h2
theorem xb{E:zv}{base pb B:Nat}{iv v:Value}{G:Nat->Prop}{w1 w2:World}{st:zY}{acc:List Int}{x:Int}{g' cap':Nat}(h1:PW E base pb iv (Gw G v) w1 st)(hown:w1.ownsRow B 3 1 v acc.length (yZ acc))(hB:base<=B)(hiv:∀g,iv.ownBlock=some g->g<B)
 (hrow:w2.ownsRow B 3 1 (.slice (some ⟨g',0,none⟩) (acc.length+1) cap') (acc.length+1) (yZ acc ++ [.int .i64 x])) (hgrow:(w1.alloc (.cells #[.int .i64 x] 3 (0,0))).grownBy w2 v.ownBlock) (hg':v.ownBlock=some g'\/g'=w1.heap.size+1) :
 ∃v2,Value.slice (some ⟨g',0,none⟩) (acc.length+1) cap'=v2/\w2.ownsRow B 3 1 v2 (acc ++ [x]).length (yZ (acc ++ [x]))/\PW E base pb iv (Gw G v2) w2 st/\w1.heap.size<=w2.heap.size/\∀w,Fr base w w1->w.heap.size<=B->base<=w.heap.size->Fr base w w2:=by
 have hA:=zf w1 (.cells #[.int .i64 x] 3 (0,0));have hown2:=zu hown hA;have hrow2:w2.ownsRow B 3 1 (.slice (some ⟨g',0,none⟩) (acc.length+1) cap') (acc ++ [x]).length (yZ (acc ++ [x])):=by
  rw[pC,pI];simp only[yZ,List.map_append,List.map_cons,List.map_nil];exact hrow
 refine⟨_,rfl,hrow2,(h1.below hA).append hown2 hB (fun g hg=>.inr hg) (fun g hg e=>?_) hgrow (hg'.imp id (fun h=>by simpa using h)) (hrow2.lt g' rfl).2 (fun g hg=>?_),pN hA.size hgrow.size,fun w F hw hb=>(F.trans (Fr.of_below h1.base hA)).grow_new hgrow hb (fun k hk=>pN hw (hown2.lt k hk).1)⟩
 ·have a:=(hown2.lt g hg).1;have b:=hiv g e;omega
 ·rcases hg with hg|hg
  ·exact .inl (.inl hg)
  ·exact .inr (Option.some.inj hg).symm
theorem Kx{E:zv}{s:zY}{l:List (List UInt8)}{m:PM (List Int)}(h:uq (zy E s) l=true){x:List Int}(hx:[]=x):(do if <-uU l then pure [] else m:PM (List Int)) E s=.ok x s:=by
 subst hx;rw[yb (a:=true) (s':=s) (by unfold uU;rw[h])];rfl
theorem Qn{E:zv}{s:zY}{l:List (List UInt8)}{m:PM (List Int)}(h:uq (zy E s) l=false):(do if <-uU l then pure [] else m:PM (List Int)) E s=m E s:=by
 rw[yb (a:=false) (s':=s) (by unfold uU;rw[h])];rfl
theorem ZJ{E:zv}{base pb n f:Nat}{iv:Value}{part:PM Int}(hf:Vi E base pb iv n f part)(hg:Gd 0 Vd part)(heg:Enters prog f)
 {G:Nat->Prop} {w:World} {st0:zY} (h0:PW E base pb iv G w st0) (ok0:qG E st0) (hn:E.toks.length-st0.next<n+1):Calls prog 136 #[.pointer (some ⟨pb,0,none⟩),.func (.func f) #[.pointer (some ⟨pb,0,none⟩)] #[]] w (uT E base pb iv G (E.toks.length+1) (xQ part E st0) w):=by
 obtain⟨r,hr⟩:=exE (xQ part E st0);rw[hr];unfold xQ at hr;replace hr:=zi hr;replace ok0:=zi ok0;replace heg:=zi heg;have F0:=Fr.refl base w;have hlim:=ok0.out.lim;have hle:=ok0.out.le;go_enter func136,ntmps136;go_wp2_with fail;refine jo hr (zw h0 (by omega) [123]) F0 (Fr.refl _ _) ok0 (zo) ?_;clear hr;intro w1 x1 st1 hm1 h1 f1 F1 n1 ok1 hle1 ha1 hr;have ha1:=n1.adv;go_wp2_with fail;refine lgo hr (Ya hf hg heg.out h1 ok1.out (by omega)) F1 (Fr.refl _ _) ?_;clear hr;intro w2 x2 st2 v2 l2 o2 hm2 h2 f2 F2 hr;obtain⟨n2,vl2⟩:=uG hg ok1.out.le ok1.out.wf hm2;have ok2:=zi (ok1.out.nx n2 (by decide));have hle2:=ok2.out.le;replace o2:=zi o2;go_wp2_with fail;refine jo hr (zw h2 (by omega) [125]) F2 (Fr.refl _ _) ok2 (zo) ?_;clear hr;intro w3 x3 st3 hm3 h3 f3 F3 n3 ok3 hle3 ha3 hr;have hr3:qw.ok x2 st3=r:=hr.out;subst hr3;go_wp2;go_ret;exact⟨_,rfl,l2,ZZ (zH o2.out f3 (by decide) (by decide)) F1.b.size,h3,F3⟩
theorem Qh{E:zv}{base pb n f:Nat}{iv:Value}{part:PM Int}(hf:Vi E base pb iv n f part)(hg:Gd 0 Vd part)(heg:Enters prog f)
 {G:Nat->Prop} {w:World} {st0:zY} (h0:PW E base pb iv G w st0) (ok0:qG E st0) (hn:E.toks.length-st0.next<n+1):Calls prog 171 #[.pointer (some ⟨pb,0,none⟩),.func (.func f) #[.pointer (some ⟨pb,0,none⟩)] #[]] w (uT E base pb iv G (E.toks.length+1) (qk part E st0) w):=by
 obtain⟨r,hr⟩:=exE (qk part E st0);rw[hr];unfold qk at hr;replace hr:=zi hr;replace ok0:=zi ok0;replace heg:=zi heg;have F0:=Fr.refl base w;have hlim:=ok0.out.lim;have hle:=ok0.out.le;go_enter func171,ntmps171;go_wp2_with fail;refine Yu hr (yl h0 (by omega) [40]) F0 (Fr.refl _ _) ok0 ?_;clear hr;intro w1 x1 st1 hm1 h1 f1 F1 n1 ok1 hle1 hr;cases x1 with
 |true=>
  have ha1:=yw hm1;replace hr:=zi ((if_pos (rfl:true=true)▸hr.out:_));go_wp2_with fail;refine lgo hr (Ya hf hg heg.out h1 ok1.out (by omega)) F1 (Fr.refl _ _) ?_;clear hr;intro w2 x2 st2 v2 l2 o2 hm2 h2 f2 F2 hr;obtain⟨n2,vl2⟩:=uG hg ok1.out.le ok1.out.wf hm2;have ok2:=zi (ok1.out.nx n2 (by decide));have hle2:=ok2.out.le;replace o2:=zi o2;go_wp2_with fail;refine jo hr (zw h2 (by omega) [41]) F2 (Fr.refl _ _) ok2 (zo) ?_;clear hr;intro w3 x3 st3 hm3 h3 f3 F3 n3 ok3 hle3 ha3 hr;have hr3:qw.ok x2 st3=r:=hr.out;subst hr3;go_wp2;go_ret;exact⟨_,rfl,l2,ZZ (zH o2.out f3 (by decide) (by decide)) F1.b.size,h3,F3⟩
 |false=>
  have hr3:qw.ok [] st1=r:=hr.out;subst hr3;go_wp2;go_ret;exact⟨_,rfl,pU _,uE _ _ rfl,h1.gnil,F1⟩
theorem ua{α β:Type}{m m':PM α}{f:α->PM β}{E:zv}{s:zY}(h:m E s=m' E s):(m >>= f) E s=(m' >>= f) E s:=by
 show PM.bind m f E s=PM.bind m' f E s
 unfold PM.bind;rw[h]
theorem XL{E:zv}{base pb n:Nat}{iv:Value}{R:xN}(hR:kg E base pb iv n R){G:Nat->Prop}{w:World}{st0:zY}(h0:PW E base pb iv G w st0)(ok0:qG E st0)(hn:E.toks.length-st0.next<n+1):Calls prog 140 #[.pointer (some ⟨pb,0,none⟩)] w (uT E base pb iv G (E.toks.length+2) (vA R E st0) w):=by
 obtain⟨r,hr⟩:=exE (vA R E st0);rw[hr];unfold vA at hr;replace hr:=zi hr;replace ok0:=zi ok0;replace hR:=zi hR;have F0:=Fr.refl base w;have hlim:=ok0.out.lim;have hle:=ok0.out.le;have hbase:=h0.base;have hivlt:=zi (fun g=>h0.ivlt (g:=g));have henter:=zi (enters_of (P:=prog) func137 (by kernel_rfl) rfl);go_enter func140,ntmps140;go_wp2_with fail;refine jo hr (zw h0 (by omega) [40]) F0 (Fr.refl _ _) ok0 (zo) ?_;clear hr;intro w1 x1 st1 hm1 h1 f1 F1 n1 ok1 hle1 ha1 hr;have ha1:=n1.adv;go_wp2_with fail;refine (jN h1 [41]).mono ?_;rintro e wi ⟨rfl,hbi⟩;have hbi:=zg (zf w1 _) hbi;have hi:=h1.below hbi;have Fi:=F1.trans (Fr.of_below h1.base hbi);cases hk:uq (zy E st1) [[41]] with
 |true=>
  obtain⟨x2,hx2⟩:∃x2:List Int,[]=x2:=⟨_,rfl⟩;replace hr:=zi ((yb (Kx hk hx2)).symm.trans hr.out);have n2:=Nx.refl ok1.out.le ok1.out.wf;have ok2:=ok1;have h2:=hi.gnil;have F2:=Fi;have o2:=uE wi w1.heap.size hx2;have l2:x2.length<=E.toks.length+1:=by rw[<-hx2];exact pU _
  clear hx2;have hle2:=ok2.out.le;replace o2:=zi o2;go_wp2_with fail;refine jo hr (zw h2 (by omega) [41]) F2 (Fr.refl _ _) ok2 (zo) ?_;clear hr;intro w3 x3 st3 hm3 h3 f3 F3 n3 ok3 hle3 ha3 hr;go_wp2_with fail;refine jo hr (zw h3 (by omega) [58]) F3 (Fr.refl _ _) ok3 (zo) ?_;clear hr;intro w4 x4 st4 hm4 h4 f4 F4 n4 ok4 hle4 ha4 hr;have ha4:=n4.adv;have ha3:=n3.adv;have ha2:=n2.next;go_wp2_with fail;refine XI hr (hR.out.kind _ _ _ h4 ok4.out (by omega)) F4 (Fr.refl _ _) ok4 (hR.out.good.kind) ?_;clear hr;intro w5 x5 st5 hm5 h5 f5 F5 n5 vd5 ok5 hle5 ha5 hr;have o5:=ZZ (zH (zH (zH o2.out f3 (by decide) (by decide)) f4 (by decide) (by decide)) f5 (by decide) (by decide)) F1.b.size;have hb5:=h5.base;have hs5:=F5.b.size;go_wp2_with (at_builtin;refine xC rfl _ _ rfl rfl (zu o5 (zf _ _)) rfl (zd (zk w5 _) 0) rfl rfl (by omega) (by simp;omega) ?_);intro g' cap' w6 hrow hgrow hg';obtain⟨v6,e6,o6,h6,_,F6⟩:=xb h5 o5 hbase hivlt.out hrow hgrow hg';rw[e6];have hr3:=(show qw.ok _ st5=r from hr.out);subst hr3;replace o6:=zi o6;have F6:=F6 w F5 (pE _) hbase;clear hrow hgrow hg' e6 o5;go_wp2;go_ret;exact⟨_,rfl,by rw[pC,pI];omega,o6.out,h6,F6⟩
 |false=>
  replace hr:=zi ((ua (Qn hk)).symm.trans hr.out);have F1:=Fi;have h1:=hi;go_wp2_with fail;refine lgo hr (Ya (VT hR.out) (Zd hR.out.good) henter.out h1 ok1.out (by omega)) F1 (Fr.refl _ _) ?_;clear hr;intro w2 x2 st2 v2 l2 o2 hm2 h2 f2 F2 hr;obtain⟨n2,vl2⟩:=uG (Zd hR.out.good) ok1.out.le ok1.out.wf hm2;have ok2:=zi (ok1.out.nx n2 (by decide));have hle2:=ok2.out.le;replace o2:=zi o2;go_wp2_with fail;refine jo hr (zw h2 (by omega) [41]) F2 (Fr.refl _ _) ok2 (zo) ?_;clear hr;intro w3 x3 st3 hm3 h3 f3 F3 n3 ok3 hle3 ha3 hr;go_wp2_with fail;refine jo hr (zw h3 (by omega) [58]) F3 (Fr.refl _ _) ok3 (zo) ?_;clear hr;intro w4 x4 st4 hm4 h4 f4 F4 n4 ok4 hle4 ha4 hr;have ha4:=n4.adv;have ha3:=n3.adv;have ha2:=n2.next;go_wp2_with fail;refine XI hr (hR.out.kind _ _ _ h4 ok4.out (by omega)) F4 (Fr.refl _ _) ok4 (hR.out.good.kind) ?_;clear hr;intro w5 x5 st5 hm5 h5 f5 F5 n5 vd5 ok5 hle5 ha5 hr;have o5:=ZZ (zH (zH (zH o2.out f3 (by decide) (by decide)) f4 (by decide) (by decide)) f5 (by decide) (by decide)) F1.b.size;have hb5:=h5.base;have hs5:=F5.b.size;go_wp2_with (at_builtin;refine xC rfl _ _ rfl rfl (zu o5 (zf _ _)) rfl (zd (zk w5 _) 0) rfl rfl (by omega) (by simp;omega) ?_);intro g' cap' w6 hrow hgrow hg';obtain⟨v6,e6,o6,h6,_,F6⟩:=xb h5 o5 hbase hivlt.out hrow hgrow hg';rw[e6];have hr3:=(show qw.ok _ st5=r from hr.out);subst hr3;replace o6:=zi o6;have F6:=F6 w F5 (pE _) hbase;clear hrow hgrow hg' e6 o5;go_wp2;go_ret;exact⟨_,rfl,by rw[pC,pI];omega,o6.out,h6,F6⟩
theorem KS.own{w:World}{b:Nat}{v:Value}{l:List Int}(h:w.ownsRow b 3 1 v l.length (yZ l)):KS w v l:=by
 obtain⟨_,⟨hv,h0⟩|⟨g,cap,cur,hv,_,hg,hnc,hcm,hcs,ht⟩⟩:=h
 ·subst hv;exact⟨none,0,by rw[h0],.inl (pM h0)⟩
 ·refine⟨_,cap-l.length,by rw[hv,Nat.add_sub_cancel' (by omega)],.inr ⟨g,0,cur,_,rfl,hg,fun j z hz=>?_⟩⟩;have hj:j<l.length:=(gtL hz);have h1:(yZ l)[j]? =some (.int .i64 z):=by rw[yZ,pZ,hz];rfl
  rw[<-ht,List.getElem?_take,if_pos (by simp;exact hj),Array.getElem?_toList] at h1;rw[Nat.zero_add];exact h1
theorem yB{w:World}{b:Nat}{v:Value}{l:List Int}{G:Nat->Prop}(h:w.ownsRow b 3 1 v l.length (yZ l))(hG:∀g,G g->g<b):∀g,qV v=some g->¬G g:=fun g hg hGg=>by
 have hb:v.ownBlock=some g:=by
  obtain⟨_,⟨hv,_⟩|⟨g',cap,cur,hv,_⟩⟩:=h
  ·rw[hv] at hg;cases hg
  ·rw[hv] at hg ⊢;cases hl:l.length with
   |zero=>rw[hl] at hg;cases hg
   |succ m=>
    rw[hl] at hg;exact hg
 have:=(h.lt g hb).1;have:=hG g hGg;omega
theorem zh2{E:zv}{base pb n:Nat}{iv:Value}{R:xN}(hR:kg E base pb iv n R):Vi E base pb iv (n+1) 138 (ul R):=by
 intro G w st0 h0 ok0 hn;obtain⟨r,hr⟩:=exE (ul R E st0);rw[hr];unfold ul at hr;replace hr:=zi hr;replace ok0:=zi ok0;replace hR:=zi hR;have F0:=Fr.refl base w;have hlim:=ok0.out.lim;have hle:=ok0.out.le;have hG0:=h0.glt;have henter:=zi (enters_of (P:=prog) func141 (by kernel_rfl) rfl);go_enter func138,ntmps138;go_wp2_with fail;refine jo hr (xq h0 (by omega) 2) F0 (Fr.refl _ _) ok0 (yh (by decide)) ?_;clear hr;intro w1 x1 st1 hm1 h1 f1 F1 n1 ok1 hle1 ha1 hr;have ha1:=n1.adv;obtain⟨k1,t1,a1⟩:=x1;simp only at hr ⊢;have hz:=zk w1 (.cells #[.int .u8 k1,.string ⟨t1.toArray⟩,.int .i64 a1] 37 (0,0));have h2:=h1.below (zf w1 (.cells #[.int .u8 k1,.string ⟨t1.toArray⟩,.int .i64 a1] 37 (0,0)));have F2:=F1.trans (Fr.of_below h1.base (zf w1 (.cells #[.int .u8 k1,.string ⟨t1.toArray⟩,.int .i64 a1] 37 (0,0))));go_wp2_with fail;generalize w1.alloc (.cells #[.int .u8 k1,.string ⟨t1.toArray⟩,.int .i64 a1] 37 (0,0))=w2 at *;have hS:∀W,(yO base).rel w2.drew W->(W.cell? ⟨w1.heap.size,1,none⟩=some (.string ⟨t1.toArray⟩)/\W.cell? ⟨w1.heap.size,2,none⟩=some (.int .i64 a1)):=fun W hF=>by
  have:=hF.keep _ _ _ _ hz (by decide) (by decide);exact⟨zd this 1,zd this 2⟩
 clear hz;have ok2:=ok1;refine LodeX.jm (RR:=yO base) (Xp:=XP base r w) [(0,0),(1,0),(2,1),(3,0),(4,1),(5,0),(6,0),(7,2),(8,2),(9,2),(10,0)] ?_;refine LodeX.qT ?_
 iterate 1 (refine LodeX.callX fun K hK=>?_;go_simp;refine⟨Fr.refl _ _,hK _ _ ?_⟩;clear hK K;try simp only[Act.put,yG,yE,yF])
 refine LodeX.callX fun K hK=>?_
 go_simp;refine lgo hr (Qh hR.out.kind hR.out.good.kind henter.out (h2.below bR.drew) ok2.out (by omega)) F2 ((Fr.of_below h2.base bR.drew)) ?_;clear hr;intro w3 x3 st3 v3 l3 o3 hm3 h3 f3 F3 hr;refine⟨f3,hK _ _ ?_⟩;clear hK K;have hS:=fun W (hF:(yO base).rel w3 W)=>hS W (Fr.trans f3 hF)
 try simp only[Act.put,yG,yE,yF]
 obtain⟨n3,vl3⟩:=Zc hR.out.good.kind ok2.out.le ok2.out.wf hm3;have ok3:=zi (ok2.out.nx n3 (by decide));have hle3:=ok3.out.le;have hfew:=ok3.out.few;have hsz2:=F2.b.size;have hsz3:(w2.drew).heap.size=w2.heap.size:=rfl;refine LodeX.callX fun K hK=>?_
 go_simp;refine zO hr (zz h3.ungw 89 t1 0 a1 x3 _ (KS.own o3) (yB o3 (fun g hg=>by have:=hG0 g hg;omega)) (by omega)) F3 ((Fr.refl _ _)) ?_;rintro w4 x4 st4 hm4 rfl h4 f4 F4;refine⟨f4,hK _ _ ?_⟩;clear hK K
 try simp only[Act.put,yG,yE,yF]
 refine LodeX.qT ?_;refine LodeX.zC fun W hW=>?_
 cases hW;clear hS;go_wp2;go_ret;exact⟨⟨_,rfl,rfl⟩,h4,F4⟩
end
section
open Go.RowKit Lode Go.Shelf
attribute [local go_sem ↓] Go.wp_at_zero Go.wp_at_succ
attribute [local go_sem] JL zkp JK
open Go.Proofs.Tryz
theorem zjd{E:zv}{base pb n:Nat}{iv:Value}{R:xN}(hR:kg E base pb iv n R):Vi E base pb iv (n+1) 227 (Xa R):=by
 intro G w st0 h0 ok0 hn;obtain⟨r,hr⟩:=exE (Xa R E st0);rw[hr];unfold Xa at hr;replace hr:=zi hr;replace ok0:=zi ok0;replace hR:=zi hR;have F0:=Fr.refl base w;have hlim:=ok0.out.lim;have hle:=ok0.out.le;have hG0:=h0.glt;have hbase:=h0.base;have hivlt:=zi (fun g=>h0.ivlt (g:=g));go_enter func227,ntmps227;go_wp2_with fail;refine jo hr (xq h0 (by omega) 1) F0 (Fr.refl _ _) ok0 (yh (by decide)) ?_;clear hr;intro w1 x1 st1 hm1 h1 f1 F1 n1 ok1 hle1 ha1 hr;obtain⟨k1,t1,a1⟩:=x1;simp only at hr ⊢;go_wp2_with fail;refine jo hr (zw (h1.below (zf _ _)) (by omega) [58]) F1 (Fr.of_below h1.base (zf _ _)) ok1 (zo) ?_;clear hr;intro w2 x2 st2 hm2 h2 f2 F2 n2 ok2 hle2 ha2 hr;have hz:=f2.keep _ _ _ _ (zk w1 _) (by decide) (by decide);have hS:∀W,(yO base).rel w2.drew W->(W.cell? ⟨w1.heap.size,1,none⟩=some (.string ⟨t1.toArray⟩)/\W.cell? ⟨w1.heap.size,2,none⟩=some (.int .i64 a1)):=fun W hF=>by
  have:=hF.keep _ _ _ _ hz (by decide) (by decide);exact⟨zd this 1,zd this 2⟩
 clear hz;go_wp2_with fail;refine LodeX.jm (RR:=yO base) (Xp:=XP base r w) [(0,0),(1,0),(2,1),(3,0),(4,1),(5,0),(6,2),(7,2),(8,2),(9,0)] ?_;refine LodeX.qT ?_;have hrem:E.toks.length-st2.next<n:=by have:=n1.adv;have:=n2.adv;omega
 refine LodeX.callX fun K hK=>?_
 go_simp;refine XV hr (hR.out.expr _ _ _ (h2.below bR.drew) ok2.out hrem) F2 ((Fr.of_below h2.base bR.drew)) ?_;clear hr;intro w3 x3 st3 hm3 h3 f3 F3 hr;refine⟨f3,hK _ _ ?_⟩;clear hK K;have hS:=fun W (hF:(yO base).rel w3 W)=>hS W (Fr.trans f3 hF)
 try simp only[Act.put,yG,yE,yF]
 obtain⟨n3,v3⟩:=hR.out.good.expr ok2.out.le ok2.out.wf hm3;have ok3:=ok2.out.nx n3 (by decide);have hfew:st3.nodes.length<=1000000:=by have:=ok3.few;have:=ok3.le;omega
 refine LodeX.callX fun K hK=>?_
 go_simp;refine⟨Fr.of_below h3.base (zf _ _),hK _ _ ?_⟩;clear hK K
 try simp only[Act.put,yG,yE,yF]
 refine LodeX.callX fun K hK=>?_
 go_simp;refine zO hr (zz (h3.below (zf _ _)) 27 t1 0 a1 [x3] _ (KS.lit _ [x3]) (h3.fresh _ _) hfew) F3 (Fr.of_below h3.base (zf _ _)) ?_;rintro w4 x4 st4 hm4 rfl h4 f4 F4;refine⟨f4,hK _ _ ?_⟩;clear hK K
 try simp only[Act.put,yG,yE,yF]
 refine LodeX.qT ?_;refine LodeX.zC fun W hW=>?_
 cases hW;clear hS;go_wp2;go_ret;exact⟨⟨_,rfl,rfl⟩,h4,F4⟩
theorem zjN{E:zv}{base pb n:Nat}{iv:Value}{R:xN}(hR:kg E base pb iv n R):Vi E base pb iv n 226 (Xb R):=by
 intro G w st0 h0 ok0 hn;obtain⟨r,hr⟩:=exE (Xb R E st0);rw[hr];unfold Xb at hr;replace hr:=zi hr;replace ok0:=zi ok0;replace hR:=zi hR;have F0:=Fr.refl base w;have hlim:=ok0.out.lim;have hle:=ok0.out.le;have hG0:=h0.glt;have hbase:=h0.base;have hivlt:=zi (fun g=>h0.ivlt (g:=g));go_enter func226,ntmps226;go_wp2_with fail;refine XI hr (hR.out.pattern _ _ _ h0 ok0.out hn) F0 (Fr.refl _ _) ok0 (hR.out.good.pattern) ?_;clear hr;intro w1 x1 st1 hm1 h1 f1 F1 n1 YD ok1 hle1 ha1 hr;go_wp2_with fail;refine jo hr (zw h1 (by omega) [61,62]) F1 (Fr.refl _ _) ok1 (zo) ?_;clear hr;intro w2 x2 st2 hm2 h2 f2 F2 n2 ok2 hle2 ha2 hr;obtain⟨k2,t2,a2⟩:=x2;simp only at hr ⊢;go_wp2_with fail;refine XI hr (hR.out.expr _ _ _ h2 ok2.out (by omega)) F2 (Fr.refl _ _) ok2 (hR.out.good.expr) ?_;clear hr;intro w3 x3 st3 hm3 h3 f3 F3 n3 vd3 ok3 hle3 ha3 hr;have hfew:st3.nodes.length<=1000000:=by have:=ok3.out.few;have:=ok3.out.le;omega
 go_wp2_with fail;refine zO hr (zz (h3.below (zf _ _)) 32 [] 0 a2 [x1,x3] _ (KS.lit _ [x1,x3]) (h3.fresh _ _) hfew) F3 (Fr.of_below h3.base (zf _ _)) ?_;rintro w4 x4 st4 hm4 rfl h4 f4 F4;go_wp2;go_ret;exact⟨⟨_,rfl,rfl⟩,h4,F4⟩
end
section
open Go.RowKit Lode Go.Shelf
attribute [local go_sem ↓] Go.wp_at_zero Go.wp_at_succ
open Go.Proofs.Tryz
theorem PW.glit{E:zv}{base pb:Nat}{iv:Value}{G:Nat->Prop}{w:World}{st:zY}(h:PW E base pb iv G w st)(o:Obj)(n cap:Nat):PW E base pb iv (Gw G (.slice (some ⟨w.heap.size,0,none⟩) n cap)) (w.alloc o) st:=by
 obtain⟨nv,tv,s,kv,P,hK,hL⟩:=h;refine⟨nv,tv,s,kv,P.below (zf _ _),fun u hu g hgb hgG=>?_,fun g hgG=>?_⟩
 ·rcases hgG with h1|h1
  ·exact hK u hu g hgb h1
  ·obtain⟨j,hj,rfl⟩:=List.mem_iff_getElem.1 hu;have hx:st.nodes[j]? =some (st.nodes[j]'(by rw[<-P.kvl];exact hj)):=glE _;obtain⟨cs,fr,hh⟩:=Xm (P.kids j _ _ hx (glE hj)) hgb;have:=(gtA hh);have:=Option.some.inj (show some w.heap.size=some g from h1);omega
 ·rcases hgG with h1|h1
  ·have:=hL g h1;simp;omega
  ·have:=Option.some.inj (show some w.heap.size=some g from h1);simp;omega
theorem za8(w:World)(x:Int){l:List Int}(hl:[x]=l):(w.alloc (.cells #[.int .i64 x] 3 (0,0))).ownsRow w.heap.size 3 1 (.slice (some ⟨w.heap.size,0,none⟩) 1 1) l.length (yZ l):=by
 subst hl;exact zba w [x] (by simp)
theorem vD{α:Type}{E:zv}{s:zY}{l:List (List UInt8)}{m m':PM α}(h:uq (zy E s) l=true):(do if <-uU l then m else m':PM α) E s=m E s:=by
 rw[yb (a:=true) (s':=s) (by unfold uU;rw[h])];rfl
theorem jV{α:Type}{E:zv}{s:zY}{l:List (List UInt8)}{m m':PM α}(h:uq (zy E s) l=false):(do if <-uU l then m else m':PM α) E s=m' E s:=by
 rw[yb (a:=false) (s':=s) (by unfold uU;rw[h])];rfl
theorem KW{E:zv}{base pb n:Nat}{iv:Value}{R:xN}(hR:kg E base pb iv n R):Vi E base pb iv (n+1) 225 (qh R):=by
 intro G w st0 h0 ok0 hn;obtain⟨r,hr⟩:=exE (qh R E st0);rw[hr];unfold qh at hr;replace hr:=zi hr;replace ok0:=zi ok0;replace hR:=zi hR;have F0:=Fr.refl base w;have hlim:=ok0.out.lim;have hle:=ok0.out.le;have hG0:=h0.glt;have hbase:=h0.base;have hivlt:=zi (fun g=>h0.ivlt (g:=g));go_enter func225,ntmps225;go_wp2_with fail;refine jo hr (zw h0 (by omega) [105,102]) F0 (Fr.refl _ _) ok0 (zo) ?_;clear hr;intro w1 x1 st1 hm1 h1 f1 F1 n1 ok1 hle1 ha1 hr;have ha1:=n1.adv;obtain⟨k1,t1,a1⟩:=x1;simp only at hr ⊢;go_wp2_with fail;refine XI hr (hR.out.expr _ _ _ (h1.below (zf _ _)) ok1.out (by omega)) F1 (Fr.of_below h1.base (zf _ _)) ok1 (hR.out.good.expr) ?_;clear hr;intro w2 x2 st2 hm2 h2 f2 F2 n2 vd2 ok2 hle2 ha2 hr;have hts2:=f2.b.size;go_wp2_with fail;refine XI hr (hR.out.block _ _ _ (h2.glit _ 1 1) ok2.out (by omega)) F2 (Fr.of_below h2.base (zf _ _)) ok2 (hR.out.good.block) ?_;clear hr;intro w3 x3 st3 hm3 h3 f3 F3 n3 vd3 ok3 hle3 ha3 hr;obtain⟨acc,hacc⟩:∃l:List Int,[x2]=l:=⟨_,rfl⟩;have hal:acc.length<=1:=by rw[<-hacc];exact pE _
 have o3:=zH (za8 w2 x2 hacc) f3 (by decide) (by decide);have hs2:=F2.b.size;have hs3:=F3.b.size;have hb3:w2.heap.size<=w3.heap.size:=by have:=f3.b.size;simp at this;omega
 have T3:=(f2.trans (Fr.of_below h2.base (zf w2 (.cells #[.int .i64 x2] 3 (0,0))))).trans f3;generalize Value.slice (some ⟨w2.heap.size,0,none⟩) 1 1=va at h3 o3 ⊢;have hbs4:=h3.base;have hss4:=F3.b.size;go_wp2_with (at_builtin;refine xC rfl _ _ rfl rfl (zu o3 (zf _ _)) rfl (zd (zk w3 _) 0) rfl rfl (by omega) (by simp;omega) ?_);intro g' cap' w4 hrow hgrow hg';obtain⟨v4,e4,o4,h4,gs4,FF4⟩:=xb h3 o3 (by omega) (fun g hg=>by have:=hivlt.out g hg;omega) hrow hgrow hg';rw[e4];replace o4:=zi o4;replace FF4:=zi FF4;clear hrow hgrow hg' e4;have F4:=FF4.out w F3 hs2 hbase;have T4:=FF4.out _ T3 hts2 (by have:=h1.base;simp;omega);have ok4:=ok3;have hl4:(acc ++ [x3]).length<=2:=by simp;omega
 obtain⟨acc2,hacc2⟩:∃l:List Int,acc ++ [x3]=l:=⟨_,rfl⟩;rw[hacc2] at hl4 o4;clear FF4;go_wp2_with fail;refine Yu hr (yl h4 (by omega) [101,108,115,101]) F4 (Fr.refl _ _) ok4 ?_;clear hr;intro w6 x6 st6 hm6 h6 f6 F6 n6 ok6 hle6 hr;have ha6:=n6.next;have T6:=(T4.trans (Fr.refl _ _)).trans f6;have o6:=zH o4.out f6 (by decide) (by decide);have hb6:w2.heap.size<=w6.heap.size:=by have:=f6.b.size;omega
 cases x6 with
 |true=>
  replace hr:=zi ((if_pos (rfl:true=true)▸hr.out:_));go_wp2_with fail;refine (jN h6 [105,102]).mono ?_;rintro e wi ⟨rfl,hbi⟩;have hbi:=zg (zf w6 _) hbi;have hi:=h6.below hbi;have Fi:=F6.trans (Fr.of_below h6.base hbi);have Ti:=T6.trans (Fr.of_below h6.base hbi);have oi:=zu o6 hbi;have oki:=ok6;have hbsi:=hbi.size;cases hk:uq (zy E st6) [[105,102]] with
  |true=>
   replace hr:=zi ((vD hk).symm.trans hr.out);go_wp2_with fail;refine XI hr (hR.out.branch _ _ _ hi oki.out (by omega)) Fi (Fr.refl _ _) oki (hR.out.good.branch) ?_;clear hr;intro w7 x7 st7 hm7 h7 f7 F7 n7 vd7 ok7 hle7 ha7 hr;have T7:=(Ti.trans (Fr.refl _ _)).trans f7;have ha7:=n7.next;have hle7:=ok7.out.le;have o7:=zH oi f7 (by decide) (by decide);have hb7:=f7.b.size;have hbs8:=h7.base;have hss8:=F7.b.size;go_wp2_with (at_builtin;refine xC rfl _ _ rfl rfl (zu o7 (zf _ _)) rfl (zd (zk w7 _) 0) rfl rfl (by omega) (by simp;omega) ?_);intro g' cap' w8 hrow hgrow hg';obtain⟨v8,e8,o8,h8,gs8,FF8⟩:=xb h7 o7 (by omega) (fun g hg=>by have:=hivlt.out g hg;omega) hrow hgrow hg';rw[e8];replace o8:=zi o8;replace FF8:=zi FF8;clear hrow hgrow hg' e8;have F8:=FF8.out w F7 (by omega) hbase;have T8:=FF8.out _ T7 hts2 (by have:=h1.base;simp;omega);have hz8:=zd (T8.keep _ _ _ _ (zk w1 _) (by decide) (by decide)) 2;have hfew:st7.nodes.length<=1000000:=by have:=ok7.out.few;omega
   subst hacc2;subst hacc;go_wp2_with fail;refine zO hr (zz (h8.ungw.below bR) 29 [] 0 a1 _ _ (KS.own o8.out) (yB o8.out (fun g hg=>by have:=hG0 g hg;omega)) hfew) F8 (Fr.refl _ _) ?_;rintro w9 x9 st9 hm9 rfl h9 f9 F9;go_wp2;go_ret;exact⟨⟨_,rfl,rfl⟩,h9,F9⟩
  |false=>
   replace hr:=zi ((jV hk).symm.trans hr.out);go_wp2_with fail;refine XI hr (hR.out.block _ _ _ hi oki.out (by omega)) Fi (Fr.refl _ _) oki (hR.out.good.block) ?_;clear hr;intro w7 x7 st7 hm7 h7 f7 F7 n7 vd7 ok7 hle7 ha7 hr;have T7:=(Ti.trans (Fr.refl _ _)).trans f7;have ha7:=n7.next;have hle7:=ok7.out.le;have o7:=zH oi f7 (by decide) (by decide);have hb7:=f7.b.size;have hbs8:=h7.base;have hss8:=F7.b.size;go_wp2_with (at_builtin;refine xC rfl _ _ rfl rfl (zu o7 (zf _ _)) rfl (zd (zk w7 _) 0) rfl rfl (by omega) (by simp;omega) ?_);intro g' cap' w8 hrow hgrow hg';obtain⟨v8,e8,o8,h8,gs8,FF8⟩:=xb h7 o7 (by omega) (fun g hg=>by have:=hivlt.out g hg;omega) hrow hgrow hg';rw[e8];replace o8:=zi o8;replace FF8:=zi FF8;clear hrow hgrow hg' e8;have F8:=FF8.out w F7 (by omega) hbase;have T8:=FF8.out _ T7 hts2 (by have:=h1.base;simp;omega);have hz8:=zd (T8.keep _ _ _ _ (zk w1 _) (by decide) (by decide)) 2;have hfew:st7.nodes.length<=1000000:=by have:=ok7.out.few;omega
   subst hacc2;subst hacc;go_wp2_with fail;refine zO hr (zz (h8.ungw.below bR) 29 [] 0 a1 _ _ (KS.own o8.out) (yB o8.out (fun g hg=>by have:=hG0 g hg;omega)) hfew) F8 (Fr.refl _ _) ?_;rintro w9 x9 st9 hm9 rfl h9 f9 F9;go_wp2;go_ret;exact⟨⟨_,rfl,rfl⟩,h9,F9⟩
 |false=>
  replace hr:=zi ((show zG 29 [] 0 a1 [x2,x3] E st6=r from hr.out));have hz6:=zd (T6.keep _ _ _ _ (zk w1 _) (by decide) (by decide)) 2;have hfew:st6.nodes.length<=1000000:=by have:=ok6.out.few;omega
  have o6:=zi o6;subst hacc2;subst hacc;go_wp2_with fail;refine zO hr (zz (h6.ungw.below bR) 29 [] 0 a1 _ _ (KS.own o6.out) (yB o6.out (fun g hg=>by have:=hG0 g hg;omega)) hfew) F6 (Fr.refl _ _) ?_;rintro w9 x9 st9 hm9 rfl h9 f9 F9;go_wp2;go_ret;exact⟨⟨_,rfl,rfl⟩,h9,F9⟩
theorem PW.skip{E:zv}{base pb:Nat}{iv:Value}{G:Nat->Prop}{w:World}{st:zY}(h:PW E base pb iv G w st):w.cell? ⟨pb,4,none⟩=some (.int .i64 st.next)/\w.frozen? ⟨pb,4,none⟩=false/\PW E base pb iv G (w.setCell ⟨pb,4,none⟩ (.int .i64 ((st.next:Int)+1))) {st with next:=st.next+1}/\Fr base w (w.setCell ⟨pb,4,none⟩ (.int .i64 ((st.next:Int)+1))):=by
 obtain⟨nv,tv,s,kv,P,h1,h2⟩:=h;obtain⟨_,_,_,_,c4,f⟩:=P.cells;obtain⟨hp,hf⟩:=P.next (st.next+1);rw[show ((st.next+1:Nat):Int)=(st.next:Int)+1 by omega] at hp hf;exact⟨c4,f 4,⟨nv,tv,s,kv,hp,h1,fun g hg=>by have:=h2 g hg;simpa using this⟩,hf⟩
structure VB(base N:Nat)(w w':World):Prop where
 b:Below base w w'
 keep:∀(k:Nat) (cs:Array Value) (T:TypeId) (fr:Nat×Nat),k<N->w.heap[k]? =some (.cells cs T fr)->T≠120->T≠45->w'.heap[k]? =some (.cells cs T fr)
theorem VB.refl(base N:Nat)(w:World):VB base N w w:=⟨pF _ _,fun _ _ _ _ _ h _ _=>h⟩
theorem VB.trans{base N:Nat}{a b c:World}(h:VB base N a b)(k:VB base N b c):VB base N a c:=⟨h.b.trans k.b,fun n cs T fr hN hn h1 h2=>k.keep n cs T fr hN (h.keep n cs T fr hN hn h1 h2) h1 h2⟩
theorem Fr.cut{base N:Nat}{a b:World}(h:Fr base a b):VB base N a b:=⟨h.b,fun n cs T fr _ hn h1 h2=>h.keep n cs T fr hn h1 h2⟩
theorem VB.grow{base N:Nat}{w w':World}{row:Option Nat}(hg:w.grownBy w' row)(hb:base<=w.heap.size)(hrow:∀k,row=some k->base<=k/\N<=k):VB base N w w':=
 ⟨(pF base w).grown hg hb (fun k hk=>(hrow k hk).1),fun k cs T fr hN hk h1 h2=>by
  rw[hg.block k (gtA hk) (fun e=>by have:=(hrow k e.symm).2;omega)];exact hk⟩
def zlC(base N:Nat):LodeX.Rel:=⟨VB base N,VB.refl base N,VB.trans,Eq,fun _=>rfl,Eq.trans,fun h=>h▸VB.refl base N _⟩
theorem km{w:World}{o:Oper}{a:Act}{K:Act->World->Prop}{X:Exit->Act->World->Prop}(s x:Operand)
 (ho:o.op=.call {callee:=.builtin .append,args:= #[s,x],argTypes:= #[24,24]})
 {base n:Nat} {v:Value} {xs:List Value} (hs:a.eval s=v) (hown:w.ownsRow base 3 1 v n xs) {ad:Addr} {u:Value} (hx:a.eval x=.slice (some ad) 1 1) (hu:w.cell? ad=some u) (hsp:ad.spot=none) (h1:u.oneCell'=true) (hn:n<=1000000) (hbase:base<=w.heap.size)
 (h:∀g' cap' w',w'.ownsRow base 3 1 (.slice (some ⟨g',0,none⟩) (n+1) cap') (n+1) (xs ++ [u])->w.grownBy w' v.ownBlock->(v.ownBlock=some g'\/g'=w.heap.size)->K (a.put o.dst (.slice (some ⟨g',0,none⟩) (n+1) cap')) w'):o.wp prog a w K X:=by
 obtain⟨g',cap',w',hr,h2,h3,h4⟩:=zcl hown hu hsp h1 hn hbase o.type;unfold Oper.wp;simp[execOp,ho,resolve,invoke,builtin,hs,hx,hr,Result.andThen];exact h g' cap' w' h2 h3 h4
def kw(R:xN)(t:yp):List (List UInt8×Nat)->PM Int
 |[]=>do
  if <-yu [99,104,97,110] then
   let k <-R.kind
   zG 86 [] 0 t.at_ [k]
  else if <-yu [119,101,97,107] then
   let k <-R.kind
   zG 87 [] 0 t.at_ [k]
  else
   let _ <-zL [102,110]
   let _ <-zL [40]
   let l <-(do if <-uU [[41]] then pure [] else kC R.kind:PM (List Int))
   let _ <-zL [41]
   let _ <-zL [58]
   let k <-R.kind
   zG 85 [] 0 t.at_ (l ++ [k])
 |x :: l=>do
  if <-yu x.1 then zG x.2 [] 0 t.at_ []
  else kw R t l
def kws:List (List UInt8×Nat):=[([105,110,116],80),([98,111,111,108],81),([116,101,120,116],82),([117,110,105,116],83)]
theorem zlr(R:xN):vG R=(do
 let t <-qP
 if t.kind == 2 then
  jD
  zG 84 t.text 0 t.at_ []
 else kw R t kws):=rfl
theorem KS.nil'(w:World):KS w (.slice none 0 0) []:=KS.nil w 0 none
theorem xt{G:Nat->Prop}:∀g,qV (.slice none 0 0)=some g->¬G g:=fun g hg=>by cases hg
def zkg(E:zv)(base pb:Nat)(iv:Value)(G:Nat->Prop)(R:xN)(t:yp)(w wt:World)(st:zY)(r:qw Int)(i:Value)(wr:World):Prop:=∃k:Nat,k<=4/\i=.int .i64 k/\kw R t (kws.drop k) E st=r/\PW E base pb iv G wr st/\Fr base w wr/\Fr base wt wr
theorem zkQ(W:World):(Instr.index 215 (.agg #[.string ⟨[105,110,116].toArray⟩,.string ⟨[98,111,111,108].toArray⟩,.string ⟨[116,101,120,116].toArray⟩,.string ⟨[117,110,105,116].toArray⟩]) (.int .i64 0)).run prog W=.ok (.string ⟨[105,110,116].toArray⟩) W:=by kernel_rfl
theorem zkP(W:World):(Instr.index 215 (.agg #[.string ⟨[105,110,116].toArray⟩,.string ⟨[98,111,111,108].toArray⟩,.string ⟨[116,101,120,116].toArray⟩,.string ⟨[117,110,105,116].toArray⟩]) (.int .i64 1)).run prog W=.ok (.string ⟨[98,111,111,108].toArray⟩) W:=by kernel_rfl
theorem zkO(W:World):(Instr.index 215 (.agg #[.string ⟨[105,110,116].toArray⟩,.string ⟨[98,111,111,108].toArray⟩,.string ⟨[116,101,120,116].toArray⟩,.string ⟨[117,110,105,116].toArray⟩]) (.int .i64 2)).run prog W=.ok (.string ⟨[116,101,120,116].toArray⟩) W:=by kernel_rfl
theorem zkN(W:World):(Instr.index 215 (.agg #[.string ⟨[105,110,116].toArray⟩,.string ⟨[98,111,111,108].toArray⟩,.string ⟨[116,101,120,116].toArray⟩,.string ⟨[117,110,105,116].toArray⟩]) (.int .i64 3)).run prog W=.ok (.string ⟨[117,110,105,116].toArray⟩) W:=by kernel_rfl
theorem yd{x:List UInt8}{E:zv}{s s':zY}(h:yu x E s=.ok false s'):s'=s:=by
 unfold yu at h;split at h
 ·cases h
 ·cases h;rfl
theorem zh1{E:zv}{base pb n:Nat}{iv:Value}{R:xN}(hR:kg E base pb iv n R):Vi E base pb iv (n+1) 141 (vG R):=by
 intro G w st0 h0 ok0 hn;obtain⟨r,hr⟩:=exE (vG R E st0);rw[hr];rw[zlr] at hr;replace hr:=zi hr;replace ok0:=zi ok0;replace hR:=zi hR;have F0:=Fr.refl base w;have hlim:=ok0.out.lim;have hle:=ok0.out.le;have hG0:=h0.glt;have hbase:=h0.base;have hivlt:=zi (fun g=>h0.ivlt (g:=g));have henter:=zi (enters_of (P:=prog) func141 (by kernel_rfl) rfl);have HT:=zi (qy h0);have HS:=zi (fun (W:World) (hb:Below w.heap.size w W)=>Ky (h0.below hb) 2);replace hr:=zi ((yb (show qP E st0=.ok (zy E st0) st0 from rfl)).symm.trans hr.out);have hlt:=zi (fun (h:((zy E st0).kind == 2)=true)=>qQ (E:=E) (s:=st0) (k:=2) (by simpa using h) (by decide));generalize zy E st0=t at *;obtain⟨k1,t1,a1⟩:=t;unfold vM at HT;go_enter func141,ntmps141;go_wp2_with fail;refine HT.out.mono ?_;rintro e w1 ⟨rfl,hb1⟩;have hb1':Below w.heap.size w w1:=zg bR hb1;have hA:=zf w1 (.cells #[.int .u8 k1,.string ⟨t1.toArray⟩,.int .i64 a1] 37 (0,0));have hz1:=zk w1 (.cells #[.int .u8 k1,.string ⟨t1.toArray⟩,.int .i64 a1] 37 (0,0));have hb2:=hb1'.trans (hA.mono hb1'.size);go_wp2_with fail;refine (HS.out _ hb2).mono ?_;rintro e w2 ⟨rfl,hb3⟩;have hb4:=zg hb2 hb3;have h2:=h0.below hb4;have F2:=Fr.of_below h0.base hb4;have T2:Fr base (w1.alloc (.cells #[.int .u8 k1,.string ⟨t1.toArray⟩,.int .i64 a1] 37 (0,0))) w2:=Fr.of_below (by have:=hb2.size;omega) hb3;have hz2:=T2.keep _ _ _ _ hz1 (by decide) (by decide);have cz1:=zd hz2 1;have cz2:=zd hz2 2;cases hk:(k1 == 2) with
 |true=>
  have hlt2:=hlt.out hk;obtain⟨c4,f4,h3,f3⟩:=h2.skip;have hr3:zG 84 t1 0 a1 [] E {st0 with next:=st0.next+1}=r:=by
   have:=hr.out;rw[if_pos (by exact hk)] at this;exact this
  replace hr:=zi hr3;have hy:=pJ ((st0.next:Int)+1) (by omega);have hz3:=f3.keep _ _ _ _ hz2 (by decide) (by decide);have dz1:=zd hz3 1;have dz2:=zd hz3 2;have F3:=F2.trans f3;have hfew:st0.nodes.length<=1000000:=by have:=ok0.out.few;omega
  clear hz1 hz2 hz3;go_wp2_with fail;refine zO hr (zz h3 84 t1 0 a1 [] _ (KS.nil' _) xt (by exact hfew)) F3 (Fr.refl _ _) ?_;rintro w4 x4 st4 hm4 rfl h4 f4 F4;go_wp2;go_ret;exact⟨⟨_,rfl,rfl⟩,h4,F4⟩
 |false=>
  have hr3:kw R ⟨k1,t1,a1⟩ kws E st0=r:=by
   have:=hr.out;rw[if_neg (by rw[hk];decide)] at this;exact this
  have hst:zkg E base pb iv G R ⟨k1,t1,a1⟩ w _ st0 r (.int .i64 0) w2:=⟨0,by decide,rfl,hr3,h2,F2,T2⟩;replace hst:=zi hst;replace hz1:=zi hz1;clear hr hr3 h2 F2 T2 hz2 cz1 cz2;go_wp2;go_loopw [25] (zkg E base pb iv G R ⟨k1,t1,a1⟩ w (w1.alloc (.cells #[.int .u8 k1,.string ⟨t1.toArray⟩,.int .i64 a1] 37 (0,0))) st0 r) (fun i _=>4-(intOf i).toNat)
  case atStart=>exact hst.out
  case round=>
   obtain⟨k,hk4,rfl,hr5,h5,F5,T5⟩:=hrel;have ok5:=ok0;obtain rfl|rfl|rfl|rfl|rfl:k=0\/k=1\/k=2\/k=3\/k=4:=by omega
   ·replace hr:=zi (show (do if <-yu [105,110,116] then zG 80 [] 0 a1 [] else kw R ⟨k1,t1,a1⟩ (kws.drop (0+1)):PM Int) E st0=r from hr5);have hix:=zkQ;simp only[List.toArray] at hix;go_wp2_with fail;refine Yu hr (yl h5 (by omega) [105,110,116]) F5 (Fr.refl _ _) ok5 ?_;clear hr;intro w6 x6 st6 hm6 h6 f6 F6 n6 ok6 hle6 hr;have T6:=T5.trans f6;cases x6 with
    |true=>
     replace hr:=zi ((if_pos (rfl:true=true)▸hr.out:_));have cz6:=zd (T6.keep _ _ _ _ hz1.out (by decide) (by decide)) 2;have hfew:st6.nodes.length<=1000000:=by have:=ok6.out.few;omega
     go_wp2_with fail;refine zO hr (zz h6 80 [] 0 a1 [] _ (KS.nil' _) xt hfew) F6 (Fr.refl _ _) ?_;rintro w7 x7 st7 hm7 rfl h7 f7 F7;go_wp2;go_ret;exact⟨⟨_,rfl,rfl⟩,h7,F7⟩
    |false=>
     have hst:st6=st0:=yd hm6;subst hst;replace hr:=zi (show kw R ⟨k1,t1,a1⟩ (kws.drop (0+1)) E st6=r from hr.out);go_wp2;go_roundw
     case rel=>exact⟨0+1,by decide,rfl,hr.out,h6,F6,T6⟩
     case measure=>decide
   ·replace hr:=zi (show (do if <-yu [98,111,111,108] then zG 81 [] 0 a1 [] else kw R ⟨k1,t1,a1⟩ (kws.drop (1+1)):PM Int) E st0=r from hr5);have hix:=zkP;simp only[List.toArray] at hix;go_wp2_with fail;refine Yu hr (yl h5 (by omega) [98,111,111,108]) F5 (Fr.refl _ _) ok5 ?_;clear hr;intro w6 x6 st6 hm6 h6 f6 F6 n6 ok6 hle6 hr;have T6:=T5.trans f6;cases x6 with
    |true=>
     replace hr:=zi ((if_pos (rfl:true=true)▸hr.out:_));have cz6:=zd (T6.keep _ _ _ _ hz1.out (by decide) (by decide)) 2;have hfew:st6.nodes.length<=1000000:=by have:=ok6.out.few;omega
     go_wp2_with fail;refine zO hr (zz h6 81 [] 0 a1 [] _ (KS.nil' _) xt hfew) F6 (Fr.refl _ _) ?_;rintro w7 x7 st7 hm7 rfl h7 f7 F7;go_wp2;go_ret;exact⟨⟨_,rfl,rfl⟩,h7,F7⟩
    |false=>
     have hst:st6=st0:=yd hm6;subst hst;replace hr:=zi (show kw R ⟨k1,t1,a1⟩ (kws.drop (1+1)) E st6=r from hr.out);go_wp2;go_roundw
     case rel=>exact⟨1+1,by decide,rfl,hr.out,h6,F6,T6⟩
     case measure=>decide
   ·replace hr:=zi (show (do if <-yu [116,101,120,116] then zG 82 [] 0 a1 [] else kw R ⟨k1,t1,a1⟩ (kws.drop (2+1)):PM Int) E st0=r from hr5);have hix:=zkO;simp only[List.toArray] at hix;go_wp2_with fail;refine Yu hr (yl h5 (by omega) [116,101,120,116]) F5 (Fr.refl _ _) ok5 ?_;clear hr;intro w6 x6 st6 hm6 h6 f6 F6 n6 ok6 hle6 hr;have T6:=T5.trans f6;cases x6 with
    |true=>
     replace hr:=zi ((if_pos (rfl:true=true)▸hr.out:_));have cz6:=zd (T6.keep _ _ _ _ hz1.out (by decide) (by decide)) 2;have hfew:st6.nodes.length<=1000000:=by have:=ok6.out.few;omega
     go_wp2_with fail;refine zO hr (zz h6 82 [] 0 a1 [] _ (KS.nil' _) xt hfew) F6 (Fr.refl _ _) ?_;rintro w7 x7 st7 hm7 rfl h7 f7 F7;go_wp2;go_ret;exact⟨⟨_,rfl,rfl⟩,h7,F7⟩
    |false=>
     have hst:st6=st0:=yd hm6;subst hst;replace hr:=zi (show kw R ⟨k1,t1,a1⟩ (kws.drop (2+1)) E st6=r from hr.out);go_wp2;go_roundw
     case rel=>exact⟨2+1,by decide,rfl,hr.out,h6,F6,T6⟩
     case measure=>decide
   ·replace hr:=zi (show (do if <-yu [117,110,105,116] then zG 83 [] 0 a1 [] else kw R ⟨k1,t1,a1⟩ (kws.drop (3+1)):PM Int) E st0=r from hr5);have hix:=zkN;simp only[List.toArray] at hix;go_wp2_with fail;refine Yu hr (yl h5 (by omega) [117,110,105,116]) F5 (Fr.refl _ _) ok5 ?_;clear hr;intro w6 x6 st6 hm6 h6 f6 F6 n6 ok6 hle6 hr;have T6:=T5.trans f6;cases x6 with
    |true=>
     replace hr:=zi ((if_pos (rfl:true=true)▸hr.out:_));have cz6:=zd (T6.keep _ _ _ _ hz1.out (by decide) (by decide)) 2;have hfew:st6.nodes.length<=1000000:=by have:=ok6.out.few;omega
     go_wp2_with fail;refine zO hr (zz h6 83 [] 0 a1 [] _ (KS.nil' _) xt hfew) F6 (Fr.refl _ _) ?_;rintro w7 x7 st7 hm7 rfl h7 f7 F7;go_wp2;go_ret;exact⟨⟨_,rfl,rfl⟩,h7,F7⟩
    |false=>
     have hst:st6=st0:=yd hm6;subst hst;replace hr:=zi (show kw R ⟨k1,t1,a1⟩ (kws.drop (3+1)) E st6=r from hr.out);go_wp2;go_roundw
     case rel=>exact⟨3+1,by decide,rfl,hr.out,h6,F6,T6⟩
     case measure=>decide
   ·replace hr:=zi (show kw R ⟨k1,t1,a1⟩ [] E st0=r from hr5);unfold kw at hr;go_wp2_with fail;refine Yu hr (yl h5 (by omega) [99,104,97,110]) F5 (Fr.refl _ _) ok5 ?_;clear hr;intro w6 x6 st6 hm6 h6 f6 F6 n6 ok6 hle6 hr;have T6:=T5.trans f6;cases x6 with
    |true=>
     replace hr:=zi ((if_pos (rfl:true=true)▸hr.out:_));have cz6:=T6.keep _ _ _ _ hz1.out (by decide) (by decide);have hS:∀W,(yO base).rel w6.drew W->W.cell? ⟨w1.heap.size,2,none⟩=some (.int .i64 a1):=fun W hF=>zd (hF.keep _ _ _ _ cz6 (by decide) (by decide)) 2
     clear cz6;go_wp2_with fail;refine LodeX.jm (RR:=yO base) (Xp:=XP base r w) [(0,0),(1,0),(2,1),(3,0),(4,2),(5,2),(6,2),(7,0)] ?_;refine LodeX.qT ?_;have hrem:E.toks.length-st6.next<n:=by have:=yw hm6;omega
     refine LodeX.callX fun K hK=>?_
     go_simp;refine XV hr (hR.out.kind _ _ _ (h6.below bR.drew) ok6.out hrem) F6 ((Fr.of_below h6.base bR.drew)) ?_;clear hr;intro w7 x7 st7 hm7 h7 f7 F7 hr;refine⟨f7,hK _ _ ?_⟩;clear hK K;have hS:=fun W (hF:(yO base).rel w7 W)=>hS W (Fr.trans f7 hF)
     try simp only[Act.put,yG,yE,yF]
     obtain⟨n7,vd7⟩:=hR.out.good.kind ok6.out.le ok6.out.wf hm7;have ok7:=ok6.out.nx n7 (by decide);have hfew:st7.nodes.length<=1000000:=by have:=ok7.few;have:=ok7.le;omega
     refine LodeX.callX fun K hK=>?_
     go_simp;refine⟨Fr.of_below h7.base (zf _ _),hK _ _ ?_⟩;clear hK K
     try simp only[Act.put,yG,yE,yF]
     refine LodeX.callX fun K hK=>?_
     go_simp;refine zO hr (zz (h7.below (zf _ _)) 86 [] 0 a1 [x7] _ (KS.lit _ [x7]) (h7.fresh _ _) hfew) F7 (Fr.of_below h7.base (zf _ _)) ?_;rintro w8 x8 st8 hm8 rfl h8 f8 F8;refine⟨f8,hK _ _ ?_⟩;clear hK K
     try simp only[Act.put,yG,yE,yF]
     refine LodeX.qT ?_;refine LodeX.zC fun W hW=>?_
     cases hW;clear hS;go_wp2;go_ret;exact⟨⟨_,rfl,rfl⟩,h8,F8⟩
    |false=>
     have hst:st6=st0:=yd hm6;subst hst;have hr6:=hr.out;rw[if_neg (by decide)] at hr6;replace hr:=zi hr6;clear hr6;have h5:=h6;have F5:=F6;have T5:=T6;have ok5:=ok6;clear hm6 n6 f6;go_wp2_with fail;refine Yu hr (yl h5 (by omega) [119,101,97,107]) F5 (Fr.refl _ _) ok5 ?_;clear hr;intro wc xc stc hmc hc fc Fc nc okc hlec hr;have Tc:=T5.trans fc;cases xc with
     |true=>
      replace hr:=zi ((if_pos (rfl:true=true)▸hr.out:_));have cz6:=Tc.keep _ _ _ _ hz1.out (by decide) (by decide);have hS:∀W,(yO base).rel wc.drew W->W.cell? ⟨w1.heap.size,2,none⟩=some (.int .i64 a1):=fun W hF=>zd (hF.keep _ _ _ _ cz6 (by decide) (by decide)) 2
      clear cz6;go_wp2_with fail;refine LodeX.jm (RR:=yO base) (Xp:=XP base r w) [(0,0),(1,0),(2,1),(3,0),(4,2),(5,2),(6,2),(7,0)] ?_;refine LodeX.qT ?_;have hrem:E.toks.length-stc.next<n:=by have:=yw hmc;omega
      refine LodeX.callX fun K hK=>?_
      go_simp;refine XV hr (hR.out.kind _ _ _ (hc.below bR.drew) okc.out hrem) Fc ((Fr.of_below hc.base bR.drew)) ?_;clear hr;intro w7 x7 st7 hm7 h7 f7 F7 hr;refine⟨f7,hK _ _ ?_⟩;clear hK K;have hS:=fun W (hF:(yO base).rel w7 W)=>hS W (Fr.trans f7 hF)
      try simp only[Act.put,yG,yE,yF]
      obtain⟨n7,vd7⟩:=hR.out.good.kind okc.out.le okc.out.wf hm7;have ok7:=okc.out.nx n7 (by decide);have hfew:st7.nodes.length<=1000000:=by have:=ok7.few;have:=ok7.le;omega
      refine LodeX.callX fun K hK=>?_
      go_simp;refine⟨Fr.of_below h7.base (zf _ _),hK _ _ ?_⟩;clear hK K
      try simp only[Act.put,yG,yE,yF]
      refine LodeX.callX fun K hK=>?_
      go_simp;refine zO hr (zz (h7.below (zf _ _)) 87 [] 0 a1 [x7] _ (KS.lit _ [x7]) (h7.fresh _ _) hfew) F7 (Fr.of_below h7.base (zf _ _)) ?_;rintro w8 x8 st8 hm8 rfl h8 f8 F8;refine⟨f8,hK _ _ ?_⟩;clear hK K
      try simp only[Act.put,yG,yE,yF]
      refine LodeX.qT ?_;refine LodeX.zC fun W hW=>?_
      cases hW;clear hS;go_wp2;go_ret;exact⟨⟨_,rfl,rfl⟩,h8,F8⟩
     |false=>
      have hst:stc=_:=yd hmc;subst hst;have hr6:=hr.out;rw[if_neg (by decide)] at hr6;replace hr:=zi hr6;clear hr6;have hts6:=Tc.b.size;go_wp2_with fail;refine jo hr (zw hc (by omega) [102,110]) Fc (Fr.refl _ _) okc (zo) ?_;clear hr;intro w9 x9 st9 hm9 h9 f9 F9 n9 ok9 hle9 ha9 hr;have ha9:=n9.adv;go_wp2_with fail;refine jo hr (zw h9 (by omega) [40]) F9 (Fr.refl _ _) ok9 (zo) ?_;clear hr;intro w10 x10 st10 hm10 h10 f10 F10 n10 ok10 hle10 ha10 hr;have ha10:=n10.adv;have T10:=(Tc.trans f9).trans f10;go_wp2_with fail;refine (jN h10 [41]).mono ?_;rintro e w12 ⟨rfl,hbi⟩;have hbi:=zg (zf w10 _) hbi;have hi:=h10.below hbi;have Fi:=F10.trans (Fr.of_below h10.base hbi);have Ti:=T10.trans (Fr.of_below h10.base hbi);have hbsi:=hbi.size;cases hk:uq (zy E st10) [[41]] with
      |true=>
       obtain⟨x12,hx12⟩:∃x2:List Int,[]=x2:=⟨_,rfl⟩;replace hr:=zi ((yb (Kx hk hx12)).symm.trans hr.out);have n12:=Nx.refl ok10.out.le ok10.out.wf;have ok12:=ok10;have h12:=hi.gnil;have F12:=Fi;have T12:=Ti;have o12:=zi (uE w12 w10.heap.size hx12);have l12:x12.length<=E.toks.length+1:=by rw[<-hx12];exact pU _
       clear hx12;have hle12:=ok12.out.le;go_wp2_with fail;refine jo hr (zw h12 (by omega) [41]) F12 (Fr.refl _ _) ok12 (zo) ?_;clear hr;intro w13 x13 st13 hm13 h13 f13 F13 n13 ok13 hle13 ha13 hr;go_wp2_with fail;refine jo hr (zw h13 (by omega) [58]) F13 (Fr.refl _ _) ok13 (zo) ?_;clear hr;intro w14 x14 st14 hm14 h14 f14 F14 n14 ok14 hle14 ha14 hr;have ha12:=n12.next;have T14:=(T12.trans f13).trans f14;have o14:=zH (zH o12.out f13 (by decide) (by decide)) f14 (by decide) (by decide);replace o14:=zi o14;have hts:w1.heap.size+1<=w10.heap.size:=by have:=T10.b.size;simp at this;omega
       have hzt:=T14.keep _ _ _ _ hz1.out (by decide) (by decide);have hS:∀W,VB base w10.heap.size w14.drew W->W.cell? ⟨w1.heap.size,2,none⟩=some (.int .i64 a1):=fun W hF=>zd (hF.keep _ _ _ _ (by omega) hzt (by decide) (by decide)) 2
       clear hzt;go_wp2_with fail;refine LodeX.jm (RR:=zlC base w10.heap.size) (Xp:=XP base r w) [(0,0),(1,0),(2,1),(3,0),(4,0),(5,2),(6,2),(7,2),(8,2),(9,0)] ?_;refine LodeX.qT ?_;have hrem:E.toks.length-st14.next<n:=by omega
       refine LodeX.callX fun K hK=>?_
       go_simp;refine XV hr (hR.out.kind _ _ _ (h14.below bR.drew) ok14.out hrem) F14 ((Fr.of_below h14.base bR.drew)) ?_;clear hr;intro w15 x15 st15 hm15 h15 f15 F15 hr;refine⟨f15.cut,hK _ _ ?_⟩;clear hK K;have hS:=fun W (hF:VB base _ w15 W)=>hS W (VB.trans f15.cut hF)
       try simp only[Act.put,yG,yE,yF]
       obtain⟨n15,vd15⟩:=hR.out.good.kind ok14.out.le ok14.out.wf hm15;have ok15:=ok14.out.nx n15 (by decide);have hfew:st15.nodes.length<=1000000:=by have:=ok15.few;have:=ok15.le;omega
       have o15:=zH (zu o14.out bR.drew) f15 (by decide) (by decide);have hs10:=F10.b.size;have hs15:w10.heap.size<=w15.heap.size:=by have:=f13.b.size;have:=f14.b.size;have:w14.heap.size<=w15.heap.size:=f15.b.size;omega
       refine LodeX.callX fun K hK=>?_
       go_simp;refine⟨(Fr.of_below h15.base (zf _ _)).cut,hK _ _ ?_⟩;clear hK K
       try simp only[Act.put,yG,yE,yF]
       have hbs16:=h15.base;have hss16:=F15.b.size;refine LodeX.callX fun K hK=>?_
       refine km _ _ rfl (by rfl) (zu o15 (zf _ _)) (by rfl) (zd (zk w15 _) 0) rfl rfl (by omega) (by simp;omega) ?_;intro g' cap' w16 hrow hgrow hg';obtain⟨v16,e16,o16,h16,gs16,FF16⟩:=xb h15 o15 (by omega) (fun g hg=>by have:=hivlt.out g hg;omega) hrow hgrow (hg'.imp id (fun h=>by simpa using h));rw[e16];refine⟨VB.grow hgrow (by simp;omega) (fun k hk=>⟨by have:=((o15).lt k hk).1;omega,((o15).lt k hk).1⟩),hK _ _ ?_⟩;clear hK K;replace o16:=zi o16;replace FF16:=zi FF16;clear hrow hgrow hg' e16
       try simp only[Act.put,yG,yE,yF]
       have F16:=FF16.out w F15 hs10 hbase;refine LodeX.callX fun K hK=>?_
       go_simp;refine zO hr (zz h16.ungw 85 [] 0 a1 (x12 ++ [x15]) _ (KS.own o16.out) (yB o16.out (fun g hg=>by have:=hG0 g hg;omega)) hfew) F16 ((Fr.refl _ _)) ?_;rintro w17 x17 st17 hm17 rfl h17 f17 F17;refine⟨f17.cut,hK _ _ ?_⟩;clear hK K
       try simp only[Act.put,yG,yE,yF]
       refine LodeX.qT ?_;refine LodeX.zC fun W hW=>?_
       cases hW;clear hS;go_wp2;go_ret;exact⟨⟨_,rfl,rfl⟩,h17,F17⟩
      |false=>
       replace hr:=zi ((ua (Qn hk)).symm.trans hr.out);have F11:=Fi;have h11:=hi;have ok11:=ok10;have T11:=Ti;have hb12:=hbsi;clear hbsi;go_wp2_with fail;refine lgo hr (Ya hR.out.kind hR.out.good.kind henter.out h11 ok11.out (by omega)) F11 (Fr.refl _ _) ?_;clear hr;intro w12 x12 st12 v12 l12 o12 hm12 h12 f12 F12 hr;obtain⟨n12,vl12⟩:=uG hR.out.good.kind ok11.out.le ok11.out.wf hm12;have ok12:=zi (ok11.out.nx n12 (by decide));have T12:=T11.trans f12;have hbsi:=pN hb12 f12.b.size;replace o12:=zi (ZZ o12 hb12);have hle12:=ok12.out.le;go_wp2_with fail;refine jo hr (zw h12 (by omega) [41]) F12 (Fr.refl _ _) ok12 (zo) ?_;clear hr;intro w13 x13 st13 hm13 h13 f13 F13 n13 ok13 hle13 ha13 hr;go_wp2_with fail;refine jo hr (zw h13 (by omega) [58]) F13 (Fr.refl _ _) ok13 (zo) ?_;clear hr;intro w14 x14 st14 hm14 h14 f14 F14 n14 ok14 hle14 ha14 hr;have ha12:=n12.next;have T14:=(T12.trans f13).trans f14;have o14:=zH (zH o12.out f13 (by decide) (by decide)) f14 (by decide) (by decide);replace o14:=zi o14;have hts:w1.heap.size+1<=w10.heap.size:=by have:=T10.b.size;simp at this;omega
       have hzt:=T14.keep _ _ _ _ hz1.out (by decide) (by decide);have hS:∀W,VB base w10.heap.size w14.drew W->W.cell? ⟨w1.heap.size,2,none⟩=some (.int .i64 a1):=fun W hF=>zd (hF.keep _ _ _ _ (by omega) hzt (by decide) (by decide)) 2
       clear hzt;go_wp2_with fail;refine LodeX.jm (RR:=zlC base w10.heap.size) (Xp:=XP base r w) [(0,0),(1,0),(2,1),(3,0),(4,0),(5,2),(6,2),(7,2),(8,2),(9,0)] ?_;refine LodeX.qT ?_;have hrem:E.toks.length-st14.next<n:=by omega
       refine LodeX.callX fun K hK=>?_
       go_simp;refine XV hr (hR.out.kind _ _ _ (h14.below bR.drew) ok14.out hrem) F14 ((Fr.of_below h14.base bR.drew)) ?_;clear hr;intro w15 x15 st15 hm15 h15 f15 F15 hr;refine⟨f15.cut,hK _ _ ?_⟩;clear hK K;have hS:=fun W (hF:VB base _ w15 W)=>hS W (VB.trans f15.cut hF)
       try simp only[Act.put,yG,yE,yF]
       obtain⟨n15,vd15⟩:=hR.out.good.kind ok14.out.le ok14.out.wf hm15;have ok15:=ok14.out.nx n15 (by decide);have hfew:st15.nodes.length<=1000000:=by have:=ok15.few;have:=ok15.le;omega
       have o15:=zH (zu o14.out bR.drew) f15 (by decide) (by decide);have hs10:=F10.b.size;have hs15:w10.heap.size<=w15.heap.size:=by have:=f13.b.size;have:=f14.b.size;have:w14.heap.size<=w15.heap.size:=f15.b.size;omega
       refine LodeX.callX fun K hK=>?_
       go_simp;refine⟨(Fr.of_below h15.base (zf _ _)).cut,hK _ _ ?_⟩;clear hK K
       try simp only[Act.put,yG,yE,yF]
       have hbs16:=h15.base;have hss16:=F15.b.size;refine LodeX.callX fun K hK=>?_
       refine km _ _ rfl (by rfl) (zu o15 (zf _ _)) (by rfl) (zd (zk w15 _) 0) rfl rfl (by omega) (by simp;omega) ?_;intro g' cap' w16 hrow hgrow hg';obtain⟨v16,e16,o16,h16,gs16,FF16⟩:=xb h15 o15 (by omega) (fun g hg=>by have:=hivlt.out g hg;omega) hrow hgrow (hg'.imp id (fun h=>by simpa using h));rw[e16];refine⟨VB.grow hgrow (by simp;omega) (fun k hk=>⟨by have:=((o15).lt k hk).1;omega,((o15).lt k hk).1⟩),hK _ _ ?_⟩;clear hK K;replace o16:=zi o16;replace FF16:=zi FF16;clear hrow hgrow hg' e16
       try simp only[Act.put,yG,yE,yF]
       have F16:=FF16.out w F15 hs10 hbase;refine LodeX.callX fun K hK=>?_
       go_simp;refine zO hr (zz h16.ungw 85 [] 0 a1 (x12 ++ [x15]) _ (KS.own o16.out) (yB o16.out (fun g hg=>by have:=hG0 g hg;omega)) hfew) F16 ((Fr.refl _ _)) ?_;rintro w17 x17 st17 hm17 rfl h17 f17 F17;refine⟨f17.cut,hK _ _ ?_⟩;clear hK K
       try simp only[Act.put,yG,yE,yF]
       refine LodeX.qT ?_;refine LodeX.zC fun W hW=>?_
       cases hW;clear hS;go_wp2;go_ret;exact⟨⟨_,rfl,rfl⟩,h17,F17⟩
end
end Go.Proofs.YtnncmdpopgkibaaGreatDoor
