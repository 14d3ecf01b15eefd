import Derived.Test.YtcagibbaeageoaaGreatDoorSD
import Derived.OwnWalk
import Derived.OneCell
set_option maxRecDepth 100000
set_option maxHeartbeats 0
set_option linter.all false
variable{a:Go.Act}{W W' c w w' w1 w2:Go.World}{iv nv tv u v:Go.Value}{acc l:List Int}{e:Go.TypeId}{B N cap' fn g g' n pb sz:Nat}{kv kv' xs:List Go.Value}{E:Lode.zr}{s' st st' mI:Lode.yx}{s:ByteArray}{G G':Nat->Prop}{args cs:Array Go.Value}{d p:Int}{R:Lode.qi}{x:List UInt8}{t:Lode.yJ}{α β:Type}{Q X:Go.Exit->Go.Act->Go.World->Prop}{Xp:List Go.PanicEntry->Go.World->Prop}{P:Go.Program}{q:List (Nat×Nat)}{o:Go.Oper}{ad:Go.Addr}{ops:Array Go.Oper}{rest:List Go.Oper}{row:Option Nat}{K:Go.Ending->Go.World->Prop}{part:Lode.PM Int}
namespace Go.Proofs.YtcagibbaeageoaaGreatDoor
section
open Go.RowKit Lode Go.Shelf
open Go.Proofs.Tryz
abbrev yl(l:List Int):List Value:=l.map (Value.int .i64)
def KS(w:World)(v:Value)(l:List Int):Prop:=∃(p:Option Addr) (cap:Nat),v=.slice p l.length (l.length+cap)/\(l=[]\/∃(g off:Nat) (cs:Array Value) (fr:Nat×Nat),p=some ⟨g,off,none⟩/\w.heap[g]? =some (.cells cs 3 fr)/\∀(j:Nat) (z:Int),l[j]? =some z->cs[off+j]? =some (.int .i64 z))
structure Fr(base:Nat)(w w':World):Prop where
 b:Below base w w'
 keep:∀(k:Nat) (cs:Array Value) (T:TypeId) (fr:Nat×Nat),w.heap[k]? =some (.cells cs T fr)->T≠100->T≠60->w'.heap[k]? =some (.cells cs T fr)
def Fr.refl(base:Nat)(w:World):Fr base w w:=⟨pG _ _,λ_ _ _ _ h _ _=>h⟩
theorem Fr.trans{base:Nat}{a b:World}(h:Fr base a b)(k:Fr base b c):Fr base a c:=⟨h.b.trans k.b,λn cs T fr hn h1 h2=>k.keep n cs T fr (h.keep n cs T fr hn h1 h2) h1 h2⟩
def Fr.of_below{base:Nat}(hb:base<=w.heap.size)(h:Below w.heap.size w w'):Fr base w w':=⟨h.mono hb,λ_ _ _ _ hk _ _=>zi h hk⟩
structure FrI(base:Nat)(w w':World):Prop where
 b:Below base w w'
 keep:∀(k:Nat) (cs:Array Value) (fr:Nat×Nat),w.heap[k]? =some (.cells cs 3 fr)->w'.heap[k]? =some (.cells cs 3 fr)
def Fr.i{base:Nat}(f:Fr base w w'):FrI base w w':=⟨f.b,λk cs fr h=>f.keep k cs _ fr h (by decide) (by decide)⟩
def KS.fri{base:Nat}(h:KS w v l)(f:FrI base w w'):KS w' v l:=by
 obtain⟨p,cap,hv,h⟩:=h;exact⟨p,cap,hv,h.imp id λ⟨g,off,cs,fr,hp,hg,hc⟩=>⟨g,off,cs,fr,hp,f.keep g cs fr hg,hc⟩⟩
theorem KS.fr{base:Nat}{w w':World}{v:Value}{l:List Int}(h:KS w v l)(f:Fr base w w'):KS w' v l:=by
 obtain⟨p,cap,hv,h⟩:=h;exact⟨p,cap,hv,h.imp id λ⟨g,off,cs,fr,hp,hg,hc⟩=>⟨g,off,cs,fr,hp,f.keep g cs _ fr hg (by decide) (by decide),hc⟩⟩
def KS.form(h:KS w v l):∃p cap,v=.slice p l.length cap:=by
 obtain⟨p,cap,hv,_⟩:=h;exact⟨p,_,hv⟩
def KS.nil(w:World)(cap:Nat)(p:Option Addr):KS w (.slice p 0 cap) []:=⟨p,cap,by simp,.inl rfl⟩
def TK(base:Nat)(w:World)(v:Value)(l:List yO):Prop:=∃(p:Option Addr) (cap:Nat),v=.slice p l.length cap/\(l=[]\/∃(g:Nat) (cs:Array Value) (fr:Nat×Nat),g<base/\p=some ⟨g,0,none⟩/\w.heap[g]? =some (.cells cs 66 fr)/\∀(j:Nat) (t:yO),l[j]? =some t->cs[j*3]? =some (.int .u8 t.kind)/\cs[j*3+1]? =some (.string ⟨t.text.toArray⟩)/\cs[j*3+2]? =some (.int .i64 t.at_))
theorem TK.fr{base:Nat}{w w':World}{v:Value}{l:List yO}(h:TK base w v l)(f:Below base w w'):TK base w' v l:=by
 obtain⟨p,cap,hv,h⟩:=h;exact⟨p,cap,hv,h.imp id λ⟨g,cs,fr,dQ,hp,hg,hc⟩=>⟨g,cs,fr,dQ,hp,by rw[f.block g dQ];exact hg,hc⟩⟩
def uy(x:Nd)(kv:Value):List Value:=[.int .u8 x.kind,.string ⟨x.text.toArray⟩,.int .i64 x.n,kv,.int .i64 x.at_]
def je(l:List Nd)(kv:List Value):List Value:=(l.zip kv).flatMap λx=>uy x.1 x.2
structure PWv(E:zr)(base pb:Nat)(w:World)(st:yx)(nv iv tv:Value)(s:ByteArray)(kv:List Value):Prop where
 hpb:base<=pb
 obj:w.heap[pb]? =some (.cells #[nv,iv,.string s,tv,.int .i64 st.next] 100 (0,0))
 len:s.size=E.len
 tz:TK base w tv E.tz
 nz:w.ownsRow base 60 5 nv st.nz.length (je st.nz kv)
 kvl:kv.length=st.nz.length
 kz:∀(j:Nat) (x:Nd) (v:Value),st.nz[j]? =some x->kv[j]? =some v->KS w v x.kz
 iz:w.ownsRow base 3 1 iv st.iz.length (yl st.iz)
def yY:Value->Option Nat
 | .slice (some a) (_+1) _=>some a.block
 |_=>none
def PW(E:zr)(base pb:Nat)(iv:Value)(G:Nat->Prop)(w:World)(st:yx):Prop:=∃nv tv s kv,PWv E base pb w st nv iv tv s kv/\(∀v∈kv,∀g,yY v=some g->¬G g)/\∀g,G g->g<w.heap.size
structure qT(E:zr)(st:yx):Prop where
 le:st.next<=E.tz.length
 wf:WFs st
 few:st.nz.length<=st.next
 lim:E.tz.length<=1200
def uu(t:yO):Value:=.agg #[.int .u8 t.kind,.string ⟨t.text.toArray⟩,.int .i64 t.at_]
def Pan(p:Int):Ending:=.panicked [{v:=.iface 102 (.agg #[.int .i64 p]),recovered:=false}]
def zP{base b:Nat}(h:w.ownsRow b e sz v n xs)(f:Fr base w w')(h1:e≠100)(h2:e≠60):w'.ownsRow b e sz v n xs:=by
 obtain⟨hl,h⟩:=h;refine⟨hl,h.imp id λ⟨g,cap,cur,hv,hb,hg,r⟩=>⟨g,cap,cur,hv,hb,f.keep g cur e _ hg h1 h2,r⟩⟩
def zjS{base b:Nat}(h:w.ownsRow b 3 sz v n xs)(f:FrI base w w'):w'.ownsRow b 3 sz v n xs:=by
 obtain⟨hl,h⟩:=h;exact⟨hl,h.imp id λ⟨g,cap,cur,hv,hb,hg,r⟩=>⟨g,cap,cur,hv,hb,f.keep g cur _ hg,r⟩⟩
def PWv.mk'{base:Nat}{nv':Value}(P:PWv E base pb w st nv iv tv s kv)(F:FrI base w w')(pg:w'.heap[pb]? =some (.cells #[nv',iv,.string s,tv,.int .i64 st'.next] 100 (0,0)))(hn:w'.ownsRow base 60 5 nv' st'.nz.length (je st'.nz kv'))(hk:kv'.length=st'.nz.length)(aB:∀(j:Nat) (x:Nd) (v:Value),st'.nz[j]? =some x->kv'[j]? =some v->KS w' v x.kz)(cu:st'.iz=st.iz):PWv E base pb w' st' nv' iv tv s kv':=
 ⟨P.hpb,pg,P.len,P.tz.fr F.b,hn,hk,aB,by rw[cu];exact zjS P.iz F⟩
def PWv.below{base:Nat}(P:PWv E base pb w st nv iv tv s kv)(h:Below w.heap.size w w'):PWv E base pb w' st nv iv tv s kv:=by
 have hb:base<=w.heap.size:=pN P.hpb (Nat.le_of_lt (gtA P.obj));have F:=Fr.of_below hb h;refine P.mk' F.i (zi h P.obj) ?_ P.kvl (λj x v hx hv=>(P.kz j x v hx hv).fr F) rfl;exact World.ownsRow.kept (row:=none) P.nz ⟨h.os,h.tape,h.output,h.size,λk hk _=>h.block k hk⟩ (by cases nv.ownBlock <;> simp)
theorem PW.below{base:Nat}(h:PW E base pb iv G w st)(hb:Below w.heap.size w w'):PW E base pb iv G w' st:=by
 obtain⟨nv,tv,s,kv,P,hG,hL⟩:=h;exact⟨nv,tv,s,kv,P.below hb,hG,λg hg=>pX (hL g hg) hb.size⟩
theorem PW.base{E:zr}{base pb:Nat}{iv:Value}{G:Nat->Prop}{w:World}{st:yx}(h:PW E base pb iv G w st):base<=w.heap.size:=by
 obtain⟨nv,tv,s,kv,P,_⟩:=h;exact pN P.hpb (Nat.le_of_lt (gtA P.obj))
def zge{base:Nat}{fr:Nat×Nat}(hp:base<=pb)(ho:w.heap[pb]? =some (.cells cs 100 fr))(i:Nat)(v:Value):Fr base w (w.setCell ⟨pb,i,none⟩ v):=by
 refine⟨(pG base w).setCell hp v,λk cs' T fr' hk h1 _=>?_⟩;by_cases e:k=pb
 ·subst e;rw[ho] at hk;cases hk;exact absurd rfl h1
 ·rw[Below.heap_setCell _ _ _ _ e];exact hk
theorem PWv.next{E:zr}{base pb:Nat}{w:World}{st:yx}{nv iv tv:Value}{s:ByteArray}{kv:List Value}(P:PWv E base pb w st nv iv tv s kv)(n:Nat):PWv E base pb (w.setCell ⟨pb,4,none⟩ (.int .i64 n)) {st with next:=n} nv iv tv s kv/\Fr base w (w.setCell ⟨pb,4,none⟩ (.int .i64 n)):=by
 have F:=zge P.hpb P.obj 4 (.int .i64 n);refine⟨P.mk' F.i ?_ ?_ P.kvl (λj x v hx hv=>(P.kz j x v hx hv).fr F) rfl,F⟩
 ·rw[zt P.obj];rfl
 ·refine ownsRow_setCell_other P.nz (λe=>?_) _;obtain⟨_,⟨hv,_⟩|⟨g,cap,cur,hv,_,hg,_⟩⟩:=P.nz
  ·rw[hv] at e;cases e
  ·rw[hv] at e;simp only[Value.ownBlock,wO] at e;rw[e] at hg;have:=hg.symm.trans P.obj;simp at this
def PWv.cells{base:Nat}(P:PWv E base pb w st nv iv tv s kv):w.cell? ⟨pb,0,none⟩=some nv/\w.cell? ⟨pb,1,none⟩=some iv/\w.cell? ⟨pb,2,none⟩=some (.string s)/\w.cell? ⟨pb,3,none⟩=some tv/\w.cell? ⟨pb,4,none⟩=some (.int .i64 st.next)/\∀j,w.frozen? ⟨pb,j,none⟩=false:=
 ⟨zd P.obj 0,zd P.obj 1,zd P.obj 2,zd P.obj 3,zd P.obj 4,λj=>zj P.obj j⟩
structure Upd(B pb:Nat)(w w':World):Prop where
 os:w'.os=w.os
 tape:w'.tape=w.tape
 output:w'.output=w.output
 size:w.heap.size<=w'.heap.size
 block:∀k,k<B->k≠pb->w'.heap[k]? =w.heap[k]?
def Upd.of(h:Below B w w'):Upd B pb w w':=⟨h.os,h.tape,h.output,h.size,λk hk _=>h.block k hk⟩
theorem Upd.setCell(h:Upd B pb w w'){p:Addr}(hp:B<=p.block\/p.block=pb)(v:Value):Upd B pb w (w'.setCell p v):=
 ⟨h.os,h.tape,h.output,by simpa using h.size,λk hk hn=>by rw[Below.heap_setCell _ _ _ _ (by omega)];exact h.block k hk hn⟩
theorem Upd.alloc(h:Upd B pb w w')(hB:B<=w'.heap.size)(o:Obj):Upd B pb w (w'.alloc o):=
 ⟨h.os,h.tape,h.output,pN h.size (by simp),λk hk hn=>by rw[Below.heap_alloc _ _ _ (by omega)];exact h.block k hk hn⟩
def PWv.upd{base:Nat}(P:PWv E base pb w st nv iv tv s kv)(U:Upd w.heap.size pb w w')(n:Nat)(ho:w'.heap[pb]? =some (.cells #[nv,iv,.string s,tv,.int .i64 n] 100 (0,0))):PWv E base pb w' {st with next:=n} nv iv tv s kv/\Fr base w w':=by
 have aI:=(gtA P.obj);have hpb:=P.hpb;have F:Fr base w w':=⟨⟨U.os,U.tape,U.output,U.size,λk hk=>U.block k (by omega) (by omega)⟩,λk cs T fr hk h1 _=>by
  by_cases e:k=pb
  ·subst e;rw[P.obj] at hk;cases hk;exact absurd rfl h1
  ·rw[U.block k (gtA hk) e];exact hk⟩
 refine⟨P.mk' F.i ho ?_ P.kvl (λj x v hx hv=>(P.kz j x v hx hv).fr F) rfl,F⟩;obtain⟨hl,⟨hv,h0⟩|⟨g,cap,cur,hv,hb,hg,r⟩⟩:=P.nz
 ·exact⟨hl,.inl ⟨hv,h0⟩⟩
 ·refine⟨hl,.inr ⟨g,cap,cur,hv,hb,?_,r⟩⟩;rw[U.block g (gtA hg) (λe=>by
   rw[e] at hg;have:=hg.symm.trans P.obj;simp at this)]
  exact hg
def PW.setTok{base:Nat}(h:PW E base pb iv G w st){R:Nat}{fr:Nat×Nat}(hR:w.heap[R]? =some (.cells cs 66 fr))(hb:base<=R)(i:Nat)(v:Value):PW E base pb iv G (w.setCell ⟨R,i,none⟩ v) st:=by
 obtain⟨nv,tv,s,kv,P,hG,hL⟩:=h;have F:FrI base w (w.setCell ⟨R,i,none⟩ v):=⟨(pG base w).setCell hb v,λk cs' fr' hk=>by
  rw[Below.heap_setCell _ _ _ _ (λe=>by
   simp only at e;rw[e,hR] at hk;simp at hk)]
  exact hk⟩
 refine⟨nv,tv,s,kv,P.mk' F ?_ ?_ P.kvl (λj x v' hx hv=>(P.kz j x v' hx hv).fri F) rfl,hG,λg hg=>by have:=hL g hg;simpa using this⟩
 ·rw[Below.heap_setCell _ _ _ _ (λe=>by
   simp only at e;have:=P.obj;rw[e,hR] at this;simp at this)]
  exact P.obj
 ·refine ownsRow_setCell_other P.nz (λe=>?_) _;obtain⟨_,⟨hv,_⟩|⟨g,cap,cur,hv,_,hg,_⟩⟩:=P.nz
  ·rw[hv] at e;cases e
  ·rw[hv] at e;simp only[Value.ownBlock,wO] at e;rw[e] at hg;have:=hg.symm.trans hR;simp at this
def Fr.setNew{base:Nat}(F:Fr base w w'){R:Nat}(hR:w.heap.size<=R)(hb:base<=R)(i:Nat)(v:Value):Fr base w (w'.setCell ⟨R,i,none⟩ v):=
 ⟨F.b.setCell hb v,λk cs T fr hk h1 h2=>by
  have:=(gtA hk);rw[Below.heap_setCell _ _ _ _ (by simp only;omega)];exact F.keep k cs T fr hk h1 h2⟩
def KS.below(h:KS w v l)(hb:Below w.heap.size w w'):KS w' v l:=h.fr (Fr.of_below (pC _) hb)
theorem KS.cap{w:World}{p:Option Addr}{n cap:Nat}{l:List Int}(h:KS w (.slice p n cap) l):n=l.length/\n<=cap:=by
 obtain⟨p',cap',hv,_⟩:=h;cases hv;exact⟨rfl,Nat.le_add_right _ _⟩
def KS.sub{off cap:Nat}(h:KS w (.slice (some ⟨g,off,none⟩) n cap) l)(a b:Nat)(BR:a<=b)(hb:b<=l.length)(hc:b-a<=cap'):KS w (.slice (some ⟨g,off+a,none⟩) (b-a) cap') ((l.take b).drop a):=by
 obtain⟨p',cap2,hv,h⟩:=h;cases hv;have mV:((l.take b).drop a).length=b-a:=by rw[wT,gE];omega
 refine⟨some ⟨g,off+a,none⟩,cap'-(b-a),by rw[mV,Nat.add_sub_cancel' hc],?_⟩;rcases h with rfl|⟨g',off',cs,fr,he,hg,ae⟩
 ·left;simp
 ·cases he;refine .inr ⟨g,off+a,cs,fr,rfl,hg,λj z hz=>?_⟩;rw[List.getElem?_drop,List.getElem?_take] at hz;split at hz
  ·rw[show off+a+j=off+(a+j) by omega];exact ae _ _ hz
  ·cases hz
theorem KS.at{w:World}{p:Option Addr}{n cap:Nat}{l:List Int}(h:KS w (.slice p n cap) l){j:Nat}(hj:j<l.length):∃g off,p=some ⟨g,off,none⟩/\g<w.heap.size/\w.cell? ⟨g,off+j,none⟩=some (.int .i64 (l.getD j 0)):=by
 obtain⟨p',cap',hv,h⟩:=h;cases hv;rcases h with rfl|⟨g,off,cs,fr,rfl,hg,hc⟩
 ·simp at hj
 ·refine⟨g,off,rfl,(gtA hg),(zd hg _).trans ?_⟩;rw[pA,glE hj];exact hc j _ (glE hj)
abbrev YH(x:Nd)(u:Value):Value:=.agg #[.int .u8 x.kind,.string ⟨x.text.toArray⟩,.int .i64 x.n,u,.int .i64 x.at_]
def NS(w:World)(v:Value)(l:List Nd)(kv:List Value):Prop:=kv.length=l.length/\(∀(j:Nat) (x:Nd) (u:Value),l[j]? =some x->kv[j]? =some u->KS w u x.kz)/\∃(p:Option Addr) (cap:Nat),v=.slice p l.length cap/\(l=[]\/∃(g off:Nat) (cs:Array Value) (fr:Nat×Nat),p=some ⟨g,off,none⟩/\w.heap[g]? =some (.cells cs 60 fr)/\∀(j:Nat) (x:Nd) (u:Value),l[j]? =some x->kv[j]? =some u->∀(i:Nat) (y:Value),(uy x u)[i]? =some y->cs[off+j*5+i]? =some y)
theorem NS.below{l:List Nd}(h:NS w v l kv)(hb:Below w.heap.size w w'):NS w' v l kv:=by
 obtain⟨h1,h2,p,cap,hv,h3⟩:=h;refine⟨h1,λj x u hx hu=>(h2 j x u hx hu).below hb,p,cap,hv,h3.imp id ?_⟩;rintro ⟨g,off,cs,fr,hp,hg,hc⟩;exact⟨g,off,cs,fr,hp,zi hb hg,hc⟩
def NS.form{l:List Nd}(h:NS w v l kv):∃p cap,v=.slice p l.length cap:=by
 obtain⟨_,_,p,cap,hv,_⟩:=h;exact⟨p,cap,hv⟩
structure zkQ(w:World)(g i:Nat)(x:Nd)(u:Value):Prop where
 lt:g<w.heap.size
 c0:w.cell? ⟨g,i,none⟩=some (.int .u8 x.kind)
 c1:w.cell? ⟨g,i+1,none⟩=some (.string ⟨x.text.toArray⟩)
 c2:w.cell? ⟨g,i+2,none⟩=some (.int .i64 x.n)
 c3:w.cell? ⟨g,i+3,none⟩=some u
 c4:w.cell? ⟨g,i+4,none⟩=some (.int .i64 x.at_)
 kz:KS w u x.kz
theorem zkQ.below{i:Nat}{x:Nd}(h:zkQ w g i x u)(hb:Below w.heap.size w w'):zkQ w' g i x u:=
 ⟨pX h.lt hb.size,zl hb h.c0,zl hb h.c1,zl hb h.c2,zl hb h.c3,zl hb h.c4,h.kz.below hb⟩
theorem NS.at{w:World}{p:Option Addr}{n cap:Nat}{l:List Nd}{kv:List Value}(h:NS w (.slice p n cap) l kv){j:Nat}{x:Nd}(hx:l[j]? =some x):∃g off u,p=some ⟨g,off,none⟩/\zkQ w g (off+j*5) x u:=by
 obtain⟨h1,h2,p',cap',hv,h3⟩:=h;cases hv;have hj:j<l.length:=(gtL hx);obtain⟨u,hu⟩:∃u,kv[j]? =some u:=⟨_,glE (by rw[h1];exact hj)⟩;rcases h3 with rfl|⟨g,off,cs,fr,rfl,hg,hc⟩
 ·simp at hj
 ·have hc:=hc j x u hx hu;refine⟨g,off,u,rfl,(gtA hg),(zd hg _).trans (hc 0 _ rfl),(zd hg _).trans (hc 1 _ rfl),(zd hg _).trans (hc 2 _ rfl),(zd hg _).trans (hc 3 _ rfl),(zd hg _).trans (hc 4 _ rfl),h2 j x u hx hu⟩
structure TR(w:World)(nv iv:Value)(t:yJ):Prop where
 nz:∃kv,NS w nv t.nz kv
 iz:KS w iv t.iz
theorem TR.below(h:TR w nv iv t)(hb:Below w.heap.size w w'):TR w' nv iv t:=⟨h.nz.imp λ_ h=>h.below hb,h.iz.below hb⟩
theorem TR.form(h:TR w nv iv t):∃p c q d,nv=.slice p t.nz.length c/\iv=.slice q t.iz.length d:=by
 obtain⟨_,h1⟩:=h.nz;obtain⟨p,c,hp⟩:=h1.form;obtain⟨q,d,hq⟩:=h.iz.form;exact⟨p,c,q,d,hp,hq⟩
def ue(w:World)(v:Value)(e:Ending)(w':World):Prop:=e=.returned v/\Below w.heap.size w w'
end
section
open Go.RowKit Lode Go.Shelf
attribute [local go_sem ↓] wp_at_zero wp_at_succ
open Go.Proofs.Tryz
def Vj(a b c:Value)(W:World):(Instr.field 66 (.agg #[a,b,c]) 0).run prog W=.ok a W:=by kernel_rfl
def zmY(a b c:Value)(W:World):(Instr.field 66 (.agg #[a,b,c]) 1).run prog W=.ok b W:=by kernel_rfl
def Vi(a b c:Value)(W:World):(Instr.field 66 (.agg #[a,b,c]) 2).run prog W=.ok c W:=by kernel_rfl
def qL{base:Nat}(h:PW E base pb iv G w st):Calls prog 188 #[.pointer (some ⟨pb,0,none⟩)] w λe w'=>e=.returned (uu (zw E st))/\Below w.heap.size w w':=by
 obtain⟨nv,tv,s,kv,P,_,_⟩:=h;have c2:∀o,(w.alloc o).cell? ⟨pb,2,none⟩=some (.string s):=λo=>zl (zf w o) (zd P.obj 2)
 have c3:∀o,(w.alloc o).cell? ⟨pb,3,none⟩=some tv:=λo=>zl (zf w o) (zd P.obj 3)
 have c4:∀o,(w.alloc o).cell? ⟨pb,4,none⟩=some (.int .i64 st.next):=λo=>zl (zf w o) (zd P.obj 4)
 have mV:=P.len;obtain⟨p,cap,rfl,hT⟩:=P.tz;clear P;have wq:=λo=>zf w o
 by_cases mD:st.next<E.tz.length
 ·have mu:E.tz≠[]:=λe=>by rw[e] at mD;simp at mD
  obtain⟨g,cs,fr,_,rfl,hg,hc⟩:=hT.resolve_left mu;obtain⟨h0,h1,h2⟩:=hc st.next _ (glE mD);have d0:∀o,(w.alloc o).cell? ⟨g,st.next*3,none⟩=_:=λo=>zl (zf w o) ((zd hg _).trans h0)
  have d1:∀o,(w.alloc o).cell? ⟨g,st.next*3+1,none⟩=_:=λo=>zl (zf w o) ((zd hg _).trans h1)
  have d2:∀o,(w.alloc o).cell? ⟨g,st.next*3+2,none⟩=_:=λo=>zl (zf w o) ((zd hg _).trans h2)
  have ht:zw E st=E.tz[st.next]:=by unfold zw;rw[glE mD];rfl
  rw[ht];clear ht hc h0 h1 h2 mu hT hg;generalize E.tz[st.next]=t at *;obtain⟨k1,t1,a1⟩:=t;generalize E.tz.length=n at *;generalize st.next=i at *;simp only at d0 d1 d2;go_enter func188,ntmps188;go_wp2_with fail;go_quiet (fail);go_wp2_with fail;go_region;go_wp2;refine bodyPost_ret (v:=uu ⟨k1,t1,a1⟩) (by simp[results,results188,go_sem,uu]) rfl ?_;exact⟨rfl,(((zO (wq _) _).setCell (pC _) _).setCell (pC _) _).setCell (pC _) _⟩
 ·have ht:zw E st=⟨0,[],E.len⟩:=by unfold zw;rw[wP (by omega)];rfl
  rw[ht];clear ht hT;generalize E.tz.length=n at *;generalize st.next=i at *;go_enter func188,ntmps188;go_wp2_with fail;go_quiet (fail);go_wp2;refine bodyPost_ret (v:=uu ⟨0,[],E.len⟩) (by simp[results,results188,go_sem,uu]) rfl ?_;exact⟨rfl,(((zO (wq _) _).setCell (pC _) _).setCell (pC _) _).setCell (pC _) _⟩
def zag{base:Nat}(h:PW E base pb iv G w st):Calls prog 244 #[.pointer (some ⟨pb,0,none⟩)] w λe w'=>e=Pan (zw E st).at_/\Below w.heap.size w w':=by
 have hT:=zh (qL h);unfold uu at hT;generalize zw E st=t at *;obtain⟨k1,t1,a1⟩:=t;have hf0:=Vj;have fV:=Vi;go_enter func244,ntmps244;go_wp2_with fail;refine hT.q.mono ?_;rintro e w1 ⟨rfl,hb⟩;go_wp2_with fail;exact⟨rfl,rfl,hb⟩
def VV{base:Nat}(h:PW E base pb iv G w st)(k:Nat):Calls prog 243 #[.pointer (some ⟨pb,0,none⟩),.int .u8 k] w λe w'=>e=.returned (.bool ((zw E st).kind == k))/\Below w.heap.size w w':=by
 have hT:=zh (qL h);unfold uu at hT;generalize zw E st=t at *;obtain⟨k1,t1,a1⟩:=t;have hk:((k1:Int) == (k:Int))=(k1 == k):=by
  rw[pP,pR,pR];omega
 have hf0:=Vj;have fV:=Vi;go_enter func243,ntmps243;go_wp2_with fail;refine hT.q.mono ?_;rintro e w1 ⟨rfl,hb⟩;go_wp2;go_ret;exact⟨rfl,hb⟩
def BA(l:List UInt8):ByteArray:=⟨l.toArray⟩
def zkV{a b:List UInt8}(h:BA a=BA b):a=b:=by
 have h1:=congrArg (λx=>x.data.toList) h;simpa[BA] using h1
def zcM(l:List (List UInt8))(t:List UInt8):Lib.containsS ((l.map BA).take l.length) (BA t)=l.contains t:=by
 rw[List.take_of_length_le (by simp),pP,Lib.containsS_iff,List.contains_iff_mem,List.mem_map];constructor
 ·rintro ⟨x,hx,e⟩;rw[<-zkV e];exact hx
 ·exact λh=>⟨t,h,rfl⟩
def SS(w:World)(g:Nat)(l:List (List UInt8)):Prop:=∀j,j<(l.map BA).length->w.cell? ⟨g,0+j,none⟩=some (.string ((l.map BA).getD j ByteArray.empty))
def SS.later{l:List (List UInt8)}(h:SS w g l)(hb:Below w.heap.size w w'):SS w' g l:=λj hj=>zl hb (h j hj)
def zf1{base:Nat}(h:PW E base pb iv G w st)(l:List (List UInt8))(g cap:Nat)(hs:SS w g l)(hl:l.length<=1000):Calls prog 242 #[.pointer (some ⟨pb,0,none⟩),.slice (some ⟨g,0,none⟩) l.length cap] w λe w'=>e=.returned (.bool (xO (zw E st) l))/\Below w.heap.size w w':=by
 have hT:=zh (qL h);unfold uu at hT;generalize zw E st=t at *;obtain⟨k1,t1,a1⟩:=t;have hC:=zh (λ(W:World) (hb:Below w.heap.size w W)=>(show Calls prog 184 #[.slice (some ⟨g,0,none⟩) l.length cap,.string ⟨t1.toArray⟩] W (λe w'=>e=.returned (.bool (l.contains t1))/\w'=W) from by
  have:=Tryz.slices_Contains_string g 0 l.length cap (l.map BA) (BA t1) W (by simp) (by omega) (hs.later hb);rw[zcM] at this;exact this))
 unfold xO;simp only;generalize l.contains t1=c at *;generalize l.length=n at *;clear hs;by_cases h5:k1=5
 ·have e1:(k1 == 5 || k1 == 6)=true:=by rw[h5];rfl
  have z1:((k1:Int) == 5)=true:=by rw[h5];rfl
  rw[e1,Bool.true_and];clear h5 e1;go_enter func242,ntmps242;go_wp2_with fail;refine hT.q.mono ?_;rintro e w1 ⟨rfl,hb⟩;go_wp2_with fail;refine (hC.q _ (yt hb _)).mono ?_;rintro e w2 ⟨rfl,rfl⟩;go_wp2;go_ret;exact⟨rfl,yt hb _⟩
 ·have z1:((k1:Int) == 5)=false:=bfE (by omega)
  by_cases h6:k1=6
  ·have e1:(k1 == 5 || k1 == 6)=true:=by rw[h6];rfl
   have z2:((k1:Int) == 6)=true:=by rw[h6];rfl
   rw[e1,Bool.true_and];clear h5 h6 e1;go_enter func242,ntmps242;go_wp2_with fail;refine hT.q.mono ?_;rintro e w1 ⟨rfl,hb⟩;go_wp2_with fail;refine (hC.q _ (yt hb _)).mono ?_;rintro e w2 ⟨rfl,rfl⟩;go_wp2;go_ret;exact⟨rfl,yt hb _⟩
  ·have e1:(k1 == 5 || k1 == 6)=false:=by simp[h5,h6]
   have z2:((k1:Int) == 6)=false:=bfE (by omega)
   rw[e1,Bool.false_and];clear h5 h6 e1;go_enter func242,ntmps242;go_wp2_with fail;refine hT.q.mono ?_;rintro e w1 ⟨rfl,hb⟩;go_wp2;go_ret;exact⟨rfl,yt hb _⟩
def xZ(E:zr)(base pb:Nat)(iv:Value)(G:Nat->Prop)(r:qK α)(val:World->Value->α->Prop)(w:World)(e:Ending)(w':World):Prop:=match r with
 | .ok a st'=>(∃v,e=.returned v/\val w' v a)/\PW E base pb iv G w' st'/\Fr base w w'
 | .bad p=>e=Pan p/\Below base w w'
def vF(_:World)(v:Value)(t:yO):Prop:=v=uu t
def jL(_:World)(v:Value)(n:Int):Prop:=v=.int .i64 n
def JI(_:World)(v:Value)(b:Bool):Prop:=v=.bool b
def uh{base:Nat}(h:PW E base pb iv G w st)(hn:st.next<=1000000):Calls prog 245 #[.pointer (some ⟨pb,0,none⟩)] w (xZ E base pb iv G (Zd E st) vF w):=by
 have HT:=zh (λ(W:World) (hb:Below w.heap.size w W)=>qL (h.below hb));unfold Zd xZ vF;simp only;have H:=zh h;unfold uu at HT ⊢;generalize zw E st=t at *;obtain⟨k1,t1,a1⟩:=t;clear h;have hB:=H.q.base;have hy:IntKind.i64.wrap ((st.next:Int)+1)=((st.next+1:Nat):Int):=by rw[pF _ ⟨by omega,by omega⟩];omega
 obtain⟨nv,tv,s,kv,P,hG,hL⟩:=H.q;replace hG:=zh hG;replace hL:=zh hL;have aI:=(gtA P.obj);have HP:=zh P;clear P H;go_enter func245,ntmps245;go_wp2_with fail;have wq:=zf w (.cells #[.int .u8 0,.string ⟨#[]⟩,.int .i64 0] 66 (0,0));have tZ:=zk w (.cells #[.int .u8 0,.string ⟨#[]⟩,.int .i64 0] 66 (0,0));refine (HT.q _ wq).mono ?_;rintro e w1 ⟨rfl,hb⟩;have mF:=zg wq hb;have pg:=zi mF HP.q.obj;have c4:∀o,(w1.alloc o).cell? ⟨pb,4,none⟩=some (.int .i64 st.next):=λo=>zl (zf w1 o) (zd pg 4)
 have f4:∀o,(w1.alloc o).frozen? ⟨pb,4,none⟩=false:=λo=>zj (zi (zf w1 o) pg) 4
 have Le:w.heap.size≠pb:=by omega
 have Nj:=zi hb tZ;have hz:∀o v,((w1.alloc o).setCell ⟨pb,4,none⟩ v).heap[w.heap.size]? =some (.cells #[.int .u8 0,.string ⟨#[]⟩,.int .i64 0] 66 (0,0)):=λo v=>(zv Le).trans (zi (zf w1 o) Nj)
 have r0:∀o v,((w1.alloc o).setCell ⟨pb,4,none⟩ v).cell? ⟨w.heap.size,0,none⟩=some (.int .u8 0):=λo v=>zd (hz o v) 0
 have r1:∀o v,((w1.alloc o).setCell ⟨pb,4,none⟩ v).cell? ⟨w.heap.size,1,none⟩=some (.string ⟨#[]⟩):=λo v=>zd (hz o v) 1
 have r2:∀o v,((w1.alloc o).setCell ⟨pb,4,none⟩ v).cell? ⟨w.heap.size,2,none⟩=some (.int .i64 0):=λo v=>zd (hz o v) 2
 have q0:∀o v j,((w1.alloc o).setCell ⟨pb,4,none⟩ v).frozen? ⟨w.heap.size,j,none⟩=false:=λo v j=>zj (hz o v) j
 have GV:=zh mF;have Hobj:=zh pg;clear tZ Nj hz pg;go_wp2_with fail;have mu:pb≠w.heap.size:=λe=>Le e.symm
 obtain⟨h1,h2⟩:=HP.q.upd ((((((Upd.of GV.q).alloc GV.q.size _).setCell (p:=⟨pb,4,none⟩) (.inr rfl) _).setCell (p:=⟨w.heap.size,0,none⟩) (.inl (pC _)) _).setCell (p:=⟨w.heap.size,1,none⟩) (.inl (pC _)) _).setCell (p:=⟨w.heap.size,2,none⟩) (.inl (pC _)) _) (st.next+1) ((zv mu).trans ((zv mu).trans ((zv mu).trans (zt (zi (zf w1 _) Hobj.q) 4 _))));refine bodyPost_ret (v:=uu ⟨k1,t1,a1⟩) (by simp[results,results245,go_sem,uu,r0,r1,r2]) rfl ?_;exact⟨⟨_,rfl,rfl⟩,⟨nv,tv,s,kv,h1,hG.q,λg hg=>pX (hL.q g hg) h2.b.size⟩,h2⟩
theorem xZ.bad{base:Nat}{val:World->Value->α->Prop}{e:Ending}(h:xZ E base pb iv G (.bad p) val w e w'):e=Pan p/\Below base w w':=h
theorem xZ.ok{base:Nat}{val:World->Value->α->Prop}{e:Ending}{a:α}(h:xZ E base pb iv G (.ok a st) val w e w'):(∃v,e=.returned v/\val w' v a)/\PW E base pb iv G w' st/\Fr base w w':=h
def xK{base:Nat}(h:PW E base pb iv G w st)(hn:st.next<=1000000)(k:Nat):Calls prog 190 #[.pointer (some ⟨pb,0,none⟩),.int .u8 k] w (xZ E base pb iv G (xp k E st) vF w):=by
 have hB:=h.base;have H1:=zh (λ(W:World) (hb:Below w.heap.size w W)=>VV (h.below hb) k);have H2:=zh (λ(W:World) (hb:Below w.heap.size w W)=>zag (h.below hb));have H3:=zh (λ(W:World) (hb:Below w.heap.size w W)=>uh (h.below hb) hn);have h0:=zf w (.cells #[.int .u8 0,.string ⟨#[]⟩,.int .i64 0] 66 (0,0));have tZ:=zh (zk w (.cells #[.int .u8 0,.string ⟨#[]⟩,.int .i64 0] 66 (0,0)));unfold Zd xZ vF at H3;unfold xp;cases hk:(zw E st).kind == k with
 |false=>
  rw[hk] at H1;rw[if_neg (by decide)];unfold xZ;generalize zw E st=t at *;obtain⟨k1,t1,a1⟩:=t;unfold Pan at *;simp only at *;clear hk h H3;go_enter func190,ntmps190;go_wp2_with fail;refine (H1.q _ h0).mono ?_;rintro e w1 ⟨rfl,hb⟩;have mF:=zg h0 hb;go_wp2_with fail;refine (H2.q _ mF).mono ?_;rintro e w2 ⟨rfl,mM⟩;go_wp2_with fail;exact⟨rfl,rfl,(zg mF mM).mono hB⟩
 |true=>
  rw[hk] at H1;rw[if_pos rfl];unfold xZ vF;simp only at *;unfold uu at *;generalize zw E st=t at *;obtain⟨k1,t1,a1⟩:=t;simp only at *;clear hk H2 h;go_enter func190,ntmps190;go_wp2_with fail;refine (H1.q _ h0).mono ?_;rintro e w1 ⟨rfl,hb⟩;have mF:=zg h0 hb;go_wp2_with fail;refine (H3.q _ mF).mono ?_;rintro e w2 ⟨⟨_,rfl,rfl⟩,hp,hf⟩;have hz:=hf.keep _ _ _ _ (zi hb tZ.q) (by decide) (by decide);have r0:=zd hz 0;have r1:=zd hz 1;have r2:=zd hz 2;have q0:∀j,w2.frozen? ⟨w.heap.size,j,none⟩=false:=λj=>zj hz j
  have Hz:=zh hz;clear hz;go_wp2;refine bodyPost_ret (v:=uu ⟨k1,t1,a1⟩) (by simp[results,results190,go_sem,uu,r0,r1,r2]) rfl ?_;have hF:=(Fr.of_below hB mF).trans hf;have z1:=zt Hz.q 0 (.int .u8 k1);have z2:=zt z1 1 (.string ⟨t1.toArray⟩);exact⟨⟨_,rfl,rfl⟩,((hp.setTok Hz.q hB 0 _).setTok z1 hB 1 _).setTok z2 hB 2 _,((hF.setNew (pC _) hB 0 _).setNew (pC _) hB 1 _).setNew (pC _) hB 2 _⟩
def kB{base:Nat}(h:PW E base pb iv G w st)(x:List UInt8):Calls prog 242 #[.pointer (some ⟨pb,0,none⟩),.slice (some ⟨w.heap.size,0,none⟩) 1 1] (w.alloc (.cells #[.string ⟨x.toArray⟩] 9 (0,0))) λe w'=>e=.returned (.bool (xO (zw E st) [x]))/\Below (w.alloc (.cells #[.string ⟨x.toArray⟩] 9 (0,0))).heap.size (w.alloc (.cells #[.string ⟨x.toArray⟩] 9 (0,0))) w':=by
 refine zf1 (h.below (zf w _)) [x] w.heap.size 1 (λj hj=>?_) (by simp);have th:j=0:=by simp at hj;exact hj
 subst th;exact zd (zk w _) 0
def zy{base:Nat}(h:PW E base pb iv G w st)(hn:st.next<=1000000)(x:List UInt8):Calls prog 195 #[.pointer (some ⟨pb,0,none⟩),.string ⟨x.toArray⟩] w (xZ E base pb iv G (zC x E st) vF w):=by
 have hB:=h.base;have H2:=zh (λ(W:World) (hb:Below w.heap.size w W)=>zag (h.below hb));have H3:=zh (λ(W:World) (hb:Below w.heap.size w W)=>uh (h.below hb) hn);have h0:=zf w (.cells #[.int .u8 0,.string ⟨#[]⟩,.int .i64 0] 66 (0,0));have nX:(w.alloc (.cells #[.int .u8 0,.string ⟨#[]⟩,.int .i64 0] 66 (0,0))).heap.size=w.heap.size+1:=by simp
 have H1:=kB (h.below h0) x;rw[nX] at H1;replace H1:=zh H1;clear nX;have tZ:=zh (zk w (.cells #[.int .u8 0,.string ⟨#[]⟩,.int .i64 0] 66 (0,0)));unfold Zd xZ vF at H3;unfold zC;cases hk:xO (zw E st) [x] with
 |false=>
  rw[hk] at H1;rw[if_neg (by decide)];unfold xZ;generalize zw E st=t at *;obtain⟨k1,t1,a1⟩:=t;unfold Pan at *;simp only at *;clear hk h H3;go_enter func195,ntmps195;go_wp2_with fail;refine H1.q.mono ?_;rintro e w1 ⟨rfl,nA⟩;have hb:=zg (zf _ (.cells #[.string ⟨x.toArray⟩] 9 (0,0))) nA;have mF:=zg h0 hb;go_wp2_with fail;refine (H2.q _ mF).mono ?_;rintro e w2 ⟨rfl,mM⟩;go_wp2_with fail;exact⟨rfl,rfl,(zg mF mM).mono hB⟩
 |true=>
  rw[hk] at H1;rw[if_pos rfl];unfold xZ vF;simp only at *;unfold uu at *;generalize zw E st=t at *;obtain⟨k1,t1,a1⟩:=t;simp only at *;clear hk H2 h;go_enter func195,ntmps195;go_wp2_with fail;refine H1.q.mono ?_;rintro e w1 ⟨rfl,nA⟩;have hb:=zg (zf _ (.cells #[.string ⟨x.toArray⟩] 9 (0,0))) nA;have mF:=zg h0 hb;go_wp2_with fail;refine (H3.q _ mF).mono ?_;rintro e w2 ⟨⟨_,rfl,rfl⟩,hp,hf⟩;have hz:=hf.keep _ _ _ _ (zi hb tZ.q) (by decide) (by decide);have r0:=zd hz 0;have r1:=zd hz 1;have r2:=zd hz 2;have q0:∀j,w2.frozen? ⟨w.heap.size,j,none⟩=false:=λj=>zj hz j
  have Hz:=zh hz;clear hz;go_wp2;refine bodyPost_ret (v:=uu ⟨k1,t1,a1⟩) (by simp[results,results195,go_sem,uu,r0,r1,r2]) rfl ?_;have hF:=(Fr.of_below hB mF).trans hf;have z1:=zt Hz.q 0 (.int .u8 k1);have z2:=zt z1 1 (.string ⟨t1.toArray⟩);exact⟨⟨_,rfl,rfl⟩,((hp.setTok Hz.q hB 0 _).setTok z1 hB 1 _).setTok z2 hB 2 _,((hF.setNew (pC _) hB 0 _).setNew (pC _) hB 1 _).setNew (pC _) hB 2 _⟩
def yC{base:Nat}(h:PW E base pb iv G w st)(hn:st.next<=1000000)(x:List UInt8):Calls prog 189 #[.pointer (some ⟨pb,0,none⟩),.string ⟨x.toArray⟩] w (xZ E base pb iv G (yo x E st) JI w):=by
 have hB:=h.base;have H1:=zh (kB h x);have hy:IntKind.i64.wrap ((st.next:Int)+1)=((st.next+1:Nat):Int):=by rw[pF _ ⟨by omega,by omega⟩];omega
 have h0:=zf w (.cells #[.string ⟨x.toArray⟩] 9 (0,0));unfold yo;cases hk:xO (zw E st) [x] with
 |false=>
  rw[hk] at H1;rw[if_neg (by decide)];unfold xZ JI;simp only;have H:=zh h;clear hk h;go_enter func189,ntmps189;go_wp2_with fail;refine H1.q.mono ?_;rintro e w1 ⟨rfl,hb⟩;have mF:=zg h0 hb;go_wp2;go_ret;exact⟨⟨_,rfl,rfl⟩,H.q.below mF,Fr.of_below hB mF⟩
 |true=>
  rw[hk] at H1;rw[if_pos rfl];unfold xZ JI;simp only;have H:=zh h;clear hk h;go_enter func189,ntmps189;go_wp2_with fail;refine H1.q.mono ?_;rintro e w1 ⟨rfl,hb⟩;have mF:=zg h0 hb;obtain⟨nv,tv,s,kv,P,hG,hL⟩:=H.q.below mF;replace hG:=zh hG;replace hL:=zh hL;obtain⟨_,_,_,_,c4,f⟩:=P.cells;obtain⟨hp,hf⟩:=P.next (st.next+1);have hp:=zh hp;have hf:=zh hf;clear P;go_wp2;go_ret;exact⟨⟨_,rfl,rfl⟩,⟨nv,tv,s,kv,hp.q,hG.q,λg hg=>pX (hL.q g hg) hf.q.b.size⟩,(Fr.of_below hB mF).trans hf.q⟩
def Tryz.infoNode:(prog.info? 60).map (λi=>(i.zero,i.size,i.bytes))=some (some (.agg #[.int .u8 0,.string ⟨#[]⟩,.int .i64 0,.slice none 0 0,.int .i64 0]),5,64):=by kernel_rfl
def zlS{base:Nat}(mG:W.ownsRow base 60 5 nv n xs)(hg:W.grownBy W' nv.ownBlock)(hb:base<=W.heap.size):Fr base W W':=by
 refine⟨(pG base W).grown hg hb (λk hk=>(mG.lt k hk).1),λk cs T fr hk _ h2=>?_⟩;rw[hg.block k (gtA hk) (λe=>?_)]
 ·exact hk
 ·obtain⟨_,⟨hv,_⟩|⟨g,cap,cur,hv,_,fa,_⟩⟩:=mG
  ·rw[hv] at e;cases e
  ·rw[hv] at e;simp only[Value.ownBlock,wO] at e;rw[e,fa] at hk;cases hk;exact absurd rfl h2
def zcm{base:Nat}{cs:List Value}{fr:Nat×Nat}(mG:W.ownsRow base 60 5 nv n xs)(ho:W.heap[pb]? =some (.cells cs.toArray 100 fr)):nv.ownBlock≠some pb:=λe=>by
 obtain⟨_,⟨hv,_⟩|⟨g,cap,cur,hv,_,fa,_⟩⟩:=mG
 ·rw[hv] at e;cases e
 ·rw[hv] at e;simp only[Value.ownBlock,wO] at e;rw[e] at fa;have:=fa.symm.trans ho;simp at this
def QQ(l:List Nd)(kv:List Value)(x:Nd)(v:Value)(h:kv.length=l.length):je (l ++ [x]) (kv ++ [v])=je l kv ++ uy x v:=by
 unfold je;rw[List.zip_append h.symm,List.flatMap_append];simp
def zE{base:Nat}(h:PW E base pb iv G w st)(kind:Nat)(text:List UInt8)(n at_:Int)(kids:List Int)(kvv:Value)(hk:KS w kvv kids)(fe:∀g,yY kvv=some g->¬G g)(mV:st.nz.length<=1000000):
 Calls prog 191 #[.pointer (some ⟨pb,0,none⟩),.int .u8 kind,.string ⟨text.toArray⟩,.int .i64 n,.int .i64 at_,kvv] w (xZ E base pb iv G (zT kind text n at_ kids E st) jL w):=by
 obtain⟨i0,hi,pe,mY,mT⟩:=info_parts Tryz.infoNode;have Hk:=zh hk;obtain⟨kp,kcap,rfl⟩:=hk.form;have hB:=h.base;obtain⟨nv,tv,s,kv,P,hG,hL⟩:=h;replace hG:=zh hG;replace hL:=zh hL;replace fe:=zh fe;unfold zT xZ jL;simp only;have Hi:=zh (And.intro hi (And.intro pe (And.intro mY mT)));clear hi pe mY mT;obtain⟨m,hm⟩:=exE (st.nz.length);have wq:=zf w (.cells #[.int .u8 kind,.string ⟨text.toArray⟩,.int .i64 n,(.slice kp kids.length kcap),.int .i64 at_] 60 (0,0));have tZ:=zk w (.cells #[.int .u8 kind,.string ⟨text.toArray⟩,.int .i64 n,(.slice kp kids.length kcap),.int .i64 at_] 60 (0,0));have P2:=P.below wq;have c0:=(P.cells).1;have mC:=P2.nz;rw[hm] at mC mV ⊢;have HP:=zh P;have Sn:=zh P2;have Hm:=zh hm;have Hnew:=zh tZ;have Hrow:=zh mC;clear P P2 hm tZ mC;go_enter func191,ntmps191;go_wp2_with (at_builtin;go_loud (refine wpList_append_own _ rfl _ _ 23 rfl base 60 i0 _ 5 64 underlying23 Hi.q.1 Hi.q.2.1 Hi.q.2.2.1 Hi.q.2.2.2 rfl (by decide) _ _ _ rfl Hrow.q ⟨w.heap.size,0,none⟩ 1 1 (uy ⟨kind,text,n,kids,at_⟩ (.slice kp kids.length kcap)) rfl rfl ?c1 ?c2 ?c3 ?c4 ?c5 ?_))
 case c1=>
  intro j u hu;have e1:(⟨w.heap.size,0,none⟩:Addr).add j=⟨w.heap.size,j,none⟩:=by unfold Addr.add;split <;> simp_all
  rw[e1,zd Hnew.q j,pS];exact hu
 case c2=>
  intro u hu;simp[uy] at hu;rcases hu with rfl|rfl|rfl|rfl|rfl <;> rfl
 case c3=>unfold maxLen;omega
 case c4=>omega
 case c5=>exact pN hB wq.size
 intro v' w5 nC mA _;have aH:w5.heap[pb]? =some (.cells #[nv,iv,.string s,tv,.int .i64 st.next] 100 (0,0)):=by
  rw[mA.block pb (gtA Sn.q.obj) (λe=>zcm (cs:=[nv,iv,.string s,tv,.int .i64 st.next]) Hrow.q Sn.q.obj e.symm)];exact Sn.q.obj
 have hF:Fr base w w5:=(Fr.of_below hB wq).trans (zlS Hrow.q mA (pN hB wq.size));obtain⟨g',cap',rfl⟩:∃g' cap',v'=.slice (some ⟨g',0,none⟩) (m+1) cap':=by
  rcases nC.2 with⟨_,h0⟩|⟨g',cap',cur,hv,_⟩
  ·omega
  ·exact⟨g',cap',hv⟩
 have d0:=zd aH 0;have f0:=zj aH 0;have y1:IntKind.i64.wrap (((m+1:Nat):Int)-1)=(m:Int):=by rw[pF _ ⟨by omega,by omega⟩];omega
 have y2:IntKind.i64.wrap ((m:Int)+1-1)=(m:Int):=by rw[pF _ ⟨by omega,by omega⟩];omega
 simp only[pS,List.getElem?_cons_zero] at d0;have Ec:=zcm (cs:=[nv,iv,.string s,tv,.int .i64 st.next]) nC aH;have F2:=hF.trans (zge HP.q.hpb aH 0 (.slice (some ⟨g',0,none⟩) (m+1) cap'));have nZ:PW E base pb iv G (w5.setCell ⟨pb,0,none⟩ (.slice (some ⟨g',0,none⟩) (m+1) cap')) {st with nz:=st.nz ++ [⟨kind,text,n,kids,at_⟩]}:=by
  refine⟨_,tv,s,kv ++ [.slice kp kids.length kcap],HP.q.mk' F2.i (zt aH 0 _) ?_ ?_ ?_ rfl,λv hv g hg=>?_,λg hg=>pX (hL.q g hg) F2.b.size⟩
  rotate_right
  ·rcases pW.1 hv with hv|hv
   ·exact hG.q v hv g hg
   ·rw[wD] at hv;subst hv;exact fe.q g hg
  ·have h1:=ownsRow_setCell_other nC (a:=⟨pb,0,none⟩) Ec (.slice (some ⟨g',0,none⟩) (m+1) cap');rw[QQ _ _ _ _ HP.q.kvl];simp only[pE,pI,Hm.q];exact h1
  ·simp[HP.q.kvl]
  ·intro j x v hx hv;rcases Nat.lt_or_ge j st.nz.length with hj|hj
   ·rw[wN hj] at hx;rw[wN (by rw[HP.q.kvl];exact hj)] at hv;exact (HP.q.kz j x v hx hv).fr F2
   ·rw[wM hj] at hx;rw[wM (by rw[HP.q.kvl];exact hj),HP.q.kvl] at hv;have hz:j-st.nz.length=0\/0<j-st.nz.length:=by omega
    rcases hz with hz|hz
    ·rw[hz] at hx hv;cases hx;cases hv;exact Hk.q.fr F2
    ·rw[wP (by simp;omega)] at hx;cases hx
 have Hfin:=zh nZ;have HF2:=zh F2;have Hobj5:=zh aH;clear nZ F2 hF nC mA aH wq;go_wp2;go_ret;exact⟨⟨_,rfl,rfl⟩,Hfin.q,HF2.q⟩
def yu{m:PM α}{f:α->PM β}{s:yx}{a:α}(h:m E s=.ok a s'):(m >>= f) E s=f a E s':=by
 show PM.bind m f E s=_
 unfold PM.bind;rw[h]
def Xj{m:PM α}{f:α->PM β}{s:yx}(h:m E s=.bad p):(m >>= f) E s=.bad p:=by
 show PM.bind m f E s=_
 unfold PM.bind;rw[h]
def qT.nx(h:qT E st)(n:Nx E d st st')(hd:0<=d):qT E st':=⟨n.le,n.wf,by have:=n.cr;have:=h.few;have:=n.next;omega,h.lim⟩
def xg(base:Nat):LodeX.Rel:=⟨Fr base,Fr.refl base,Fr.trans,Eq,λ_=>rfl,Eq.trans,λh=>h▸Fr.refl base _⟩
def PCn(E:zr)(base pb:Nat)(iv:Value)(n f:Nat)(m:PM Int):Prop:=∀(G:Nat->Prop) (w:World) (st:yx),PW E base pb iv G w st->qT E st->E.tz.length-st.next<n->Calls prog f #[.pointer (some ⟨pb,0,none⟩)] w (xZ E base pb iv G (m E st) jL w)
structure kQ(E:zr)(base pb:Nat)(iv:Value)(n:Nat)(R:qi):Prop where
 good:yW R
 expr:PCn E base pb iv n 198 R.expr
 unary:PCn E base pb iv n 263 R.unary
 block:PCn E base pb iv n 199 R.block
 branch:PCn E base pb iv n 299 R.branch
 kind:PCn E base pb iv n 197 R.kind
 pattern:PCn E base pb iv n 304 R.pattern
def PW.fresh{base:Nat}(h:PW E base pb iv G w st)(n cap:Nat):∀g,yY (.slice (some ⟨w.heap.size,0,none⟩) n cap)=some g->¬G g:=λg hg MC=>by
 obtain⟨_,_,_,_,_,_,hL⟩:=h;have:=hL g MC;cases n with
 |zero=>cases hg
 |succ n=>
  simp only[yY,wO] at hg;omega
def KS.lit(w:World)(l:List Int):KS (w.alloc (.cells (yl l).toArray 3 (0,0))) (.slice (some ⟨w.heap.size,0,none⟩) l.length l.length) l:=
 ⟨_,0,rfl,.inr ⟨w.heap.size,0,_,_,rfl,zk w _,λj z hz=>by rw[Nat.zero_add,pS,yl,wC,hz];rfl⟩⟩
theorem xZ.cases{α:Type}{E:zr}{base pb:Nat}{iv:Value}{G:Nat->Prop}{w w':World}{val:World->Value->α->Prop}{e:Ending}{r:qK α}(h:xZ E base pb iv G r val w e w'):(∃p,r=.bad p/\e=Pan p/\Below base w w')\/(∃a st,r=.ok a st/\∃v,e=.returned v/\val w' v a/\PW E base pb iv G w' st/\Fr base w w'):=by
 cases r with
 |bad p=>exact .inl ⟨p,rfl,h.bad.1,h.bad.2⟩
 |ok a st=>
  obtain⟨⟨v,he,hv⟩,h1,h2⟩:=h.ok;exact .inr ⟨a,st,rfl,v,he,hv,h1,h2⟩
section
variable {α β:Type} {E:zr} {base pb:Nat} {iv:Value} {G:Nat→Prop} {w0 w w2:World} {st:yx} {val:World→Value→α→Prop} {m:PM α} {f:α→PM β} {r:qK β} {fn:Nat} {args:Array Value} {K:Ending→World→Prop}
def pgo(hr:Hid ((m >>= f) E st=r))(hc:Calls prog fn args w2 (xZ E base pb iv G (m E st) val w2))(F:Fr base w0 w)(fr:Fr base w w2)(h:∀W a mr v,val W v a->m E st=.ok a mr->PW E base pb iv G W mr->Fr base w2 W->Fr base w0 W->Hid (f a E mr=r)->K (.returned v) W)(hb:∀p W,r=.bad p->Below base w0 W->K (.panicked [{v:=.iface 102 (.agg #[.int .i64 p]),recovered:=false}]) W:=by rintro p W rfl hb;first|exact⟨rfl,p,rfl,rfl,hb⟩|(go_wp2_with fail;exact⟨rfl,rfl,hb⟩)):Calls prog fn args w2 K:=by
 refine hc.mono λe W hp=>?_
 rcases hp.cases with⟨p,hm,he,hq⟩|⟨a,mr,hm,v,he,hv,h1,f1⟩
 ·rw[he];exact hb p W (hr.q.symm.trans (Xj hm)) ((F.trans fr).b.trans hq)
 ·rw[he];exact h W a mr v hv hm h1 f1 ((F.trans fr).trans f1) (zh ((yu hm).symm.trans hr.q))
def Jk{m:PM Int}{f:Int->PM β}(hr:Hid ((m >>= f) E st=r))(hc:Calls prog fn args w2 (xZ E base pb iv G (m E st) jL w2))(F:Fr base w0 w)(fr:Fr base w w2)(h:∀W a mr,m E st=.ok a mr->PW E base pb iv G W mr->Fr base w2 W->Fr base w0 W->Hid (f a E mr=r)->K (.returned (.int .i64 a)) W)(hb:∀p W,r=.bad p->Below base w0 W->K (.panicked [{v:=.iface 102 (.agg #[.int .i64 p]),recovered:=false}]) W:=by rintro p W rfl hb;first|exact⟨rfl,p,rfl,rfl,hb⟩|(go_wp2_with fail;exact⟨rfl,rfl,hb⟩)):Calls prog fn args w2 K:=
 pgo hr hc F fr (hb:=hb) λW a mr v hv hm h1 f1 F1 sH=>by
  unfold jL at hv;subst hv;exact h W a mr hm h1 f1 F1 sH
def zX{m:PM Int}{r:qK Int}(hr:Hid (m E st=r))(hc:Calls prog fn args w2 (xZ E base pb iv G (m E st) jL w2))(F:Fr base w0 w)(fr:Fr base w w2)(h:∀W a mr,m E st=.ok a mr->r=.ok a mr->PW E base pb iv G W mr->Fr base w2 W->Fr base w0 W->K (.returned (.int .i64 a)) W)(hb:∀p W,r=.bad p->Below base w0 W->K (.panicked [{v:=.iface 102 (.agg #[.int .i64 p]),recovered:=false}]) W:=by rintro p W rfl hb;first|exact⟨rfl,p,rfl,rfl,hb⟩|(go_wp2_with fail;exact⟨rfl,rfl,hb⟩)):Calls prog fn args w2 K:=by
 refine hc.mono λe W hp=>?_
 rcases hp.cases with⟨p,hm,he,hq⟩|⟨a,mr,hm,v,he,hv,h1,f1⟩
 ·rw[he];exact hb p W (hr.q.symm.trans hm) ((F.trans fr).b.trans hq)
 ·unfold jL at hv;rw[he,hv];exact h W a mr hm (hr.q.symm.trans hm) h1 f1 ((F.trans fr).trans f1)
def jC{m:PM yO}{f:yO->PM β}{Q:yx->yO->Prop}(hr:Hid ((m >>= f) E st=r))(hc:Calls prog fn args w2 (xZ E base pb iv G (m E st) vF w2))(F:Fr base w0 w)(fr:Fr base w w2)(ok:Hid (qT E st))(gd:Gd d Q m)(h:∀W a mr,m E st=.ok a mr->PW E base pb iv G W mr->Fr base w2 W->Fr base w0 W->Nx E d st mr->Hid (qT E mr)->mr.next<=E.tz.length->st.next<=mr.next->Hid (f a E mr=r)->K (.returned (.agg #[.int .u8 a.kind,.string ⟨a.text.toArray⟩,.int .i64 a.at_])) W)(hd:0<=d:=by decide)(hb:∀p W,r=.bad p->Below base w0 W->K (.panicked [{v:=.iface 102 (.agg #[.int .i64 p]),recovered:=false}]) W:=by rintro p W rfl hb;first|exact⟨rfl,p,rfl,rfl,hb⟩|(go_wp2_with fail;exact⟨rfl,rfl,hb⟩)):Calls prog fn args w2 K:=
 pgo hr hc F fr (hb:=hb) λW a mr v hv hm h1 f1 F1 sH=>by
  unfold vF uu at hv;subst hv;obtain⟨n,_⟩:=gd ok.q.le ok.q.wf hm;exact h W a mr hm h1 f1 F1 n (zh (ok.q.nx n hd)) n.le n.next sH
def QX{m:PM Int}{f:Int->PM β}{Q:yx->Int->Prop}(hr:Hid ((m >>= f) E st=r))(hc:Calls prog fn args w2 (xZ E base pb iv G (m E st) jL w2))(F:Fr base w0 w)(fr:Fr base w w2)(ok:Hid (qT E st))(gd:Gd d Q m)(h:∀W a mr,m E st=.ok a mr->PW E base pb iv G W mr->Fr base w2 W->Fr base w0 W->Nx E d st mr->Q mr a->Hid (qT E mr)->mr.next<=E.tz.length->st.next<=mr.next->Hid (f a E mr=r)->K (.returned (.int .i64 a)) W)(hd:0<=d:=by decide)(hb:∀p W,r=.bad p->Below base w0 W->K (.panicked [{v:=.iface 102 (.agg #[.int .i64 p]),recovered:=false}]) W:=by rintro p W rfl hb;first|exact⟨rfl,p,rfl,rfl,hb⟩|(go_wp2_with fail;exact⟨rfl,rfl,hb⟩)):Calls prog fn args w2 K:=
 Jk hr hc F fr (hb:=hb) λW a mr hm h1 f1 F1 sH=>by
  obtain⟨n,q⟩:=gd ok.q.le ok.q.wf hm;exact h W a mr hm h1 f1 F1 n q (zh (ok.q.nx n hd)) n.le n.next sH
def Xu{f:Bool->PM β}(hr:Hid ((yo x >>= f) E st=r))(hc:Calls prog fn args w2 (xZ E base pb iv G (yo x E st) JI w2))(F:Fr base w0 w)(fr:Fr base w w2)(ok:Hid (qT E st))(h:∀W a mr,yo x E st=.ok a mr->PW E base pb iv G W mr->Fr base w2 W->Fr base w0 W->Nx E (if a then 1 else 0) st mr->Hid (qT E mr)->mr.next<=E.tz.length->Hid (f a E mr=r)->K (.returned (.bool a)) W)(hb:∀p W,r=.bad p->Below base w0 W->K (.panicked [{v:=.iface 102 (.agg #[.int .i64 p]),recovered:=false}]) W:=by rintro p W rfl hb;first|exact⟨rfl,p,rfl,rfl,hb⟩|(go_wp2_with fail;exact⟨rfl,rfl,hb⟩)):Calls prog fn args w2 K:=
 pgo hr hc F fr (hb:=hb) λW a mr v hv hm h1 f1 F1 sH=>by
  unfold JI at hv;subst hv;have n:=Ym ok.q.le ok.q.wf hm;exact h W a mr hm h1 f1 F1 n (zh (ok.q.nx n (by split <;> decide))) n.le sH
end
def LodeX.callX{RR:LodeX.Rel}{l:List Oper}{Q:Act->World->Prop}{b:World}{i:Nat}(h:∀K:World->Act->Prop,(∀w' a',LodeX.kR RR Xp P l.toArray Q q w' a'->K w' a')->o.wp P a b (λa' w'=>RR.rel b w'/\K w' a') (LodeX.xOf Xp))(po:l[i]? =some o:=by exact rfl)(hw:Region.wanted o (yielded l.toArray a.tmps)=true:=by exact rfl)(hE:RR.zR=Eq:=by exact rfl):LodeX.kR RR Xp P l.toArray Q ((i,2) :: q) b a:=
 LodeX.yH po hw λK hK W hW=>by
  rw[hE] at hW;subst hW;exact h K hK
abbrev XP(base:Nat)(r:qK β)(w:World)(c:List PanicEntry)(W:World):Prop:=∃p,r=.bad p/\c=[{v:=.iface 102 (.agg #[.int .i64 p]),recovered:=false}]/\Below base w W
def zbg{base:Nat}(hR:kQ E base pb iv n R):PCn E base pb iv (n+1) 193 (ka R):=by
 intro G w mI h0 mN hn;obtain⟨r,hr⟩:=exE (ka R E mI);rw[hr];unfold ka at hr;replace hr:=zh hr;replace mN:=zh mN;replace hR:=zh hR;have F0:=Fr.refl base w;have nK:=mN.q.lim;have pk:=mN.q.le;go_enter func193,ntmps193;go_wp2_with fail;refine jC hr (xK h0 (by omega) 1) F0 (Fr.refl _ _) mN (yB (by decide)) ?_;clear hr;intro w1 x1 mr tH h1 f1 F1 n1 nM tF sB hr;obtain⟨k1,t1,a1⟩:=x1;simp only at hr ⊢;go_wp2_with fail;refine jC hr (zy (h1.below (zf _ _)) (by omega) [58]) F1 (Fr.of_below h1.base (zf _ _)) nM (zq) ?_;clear hr;intro w2 x2 cD ay h2 f2 F2 n2 nT sV tf hr;have hz:=f2.keep _ _ _ _ (zk w1 _) (by decide) (by decide);have hS:∀W,(xg base).rel w2.drew W->(W.cell? ⟨w1.heap.size,1,none⟩=some (.string ⟨t1.toArray⟩)/\W.cell? ⟨w1.heap.size,2,none⟩=some (.int .i64 a1)):=λW hF=>by
  have:=hF.keep _ _ _ _ hz (by decide) (by decide);exact⟨zd this 1,zd this 2⟩
 clear hz;go_wp2_with fail;refine LodeX.xC (RR:=xg base) (Xp:=XP base r w) [(0,0),(1,0),(2,1),(3,0),(4,1),(5,0),(6,2),(7,2),(8,2),(9,0)] ?_;refine LodeX.xt ?_;have aJ:E.tz.length-cD.next<n:=by have:=n1.adv;have:=n2.adv;omega
 refine LodeX.callX λK hK=>?_
 go_simp;refine Jk hr (hR.q.kind _ _ _ (h2.below bR.drew) nT.q aJ) F2 ((Fr.of_below h2.base bR.drew)) ?_;clear hr;intro w3 x3 st3 rV h3 f3 F3 hr;refine⟨f3,hK _ _ ?_⟩;clear hK K;have hS:=λW (hF:(xg base).rel w3 W)=>hS W (Fr.trans f3 hF)
 try simp only[Act.put,yh,yf,yg]
 obtain⟨n3,v3⟩:=hR.q.good.kind nT.q.le nT.q.wf rV;have mZ:=nT.q.nx n3 (by decide);have mE:st3.nz.length<=1000000:=by have:=mZ.few;have:=mZ.le;omega
 refine LodeX.callX λK hK=>?_
 go_simp;refine⟨Fr.of_below h3.base (zf _ _),hK _ _ ?_⟩;clear hK K
 try simp only[Act.put,yh,yf,yg]
 refine LodeX.callX λK hK=>?_
 go_simp;refine zX hr (zE (h3.below (zf _ _)) 88 t1 0 a1 [x3] _ (KS.lit _ [x3]) (h3.fresh _ _) mE) F3 (Fr.of_below h3.base (zf _ _)) ?_;rintro w4 x4 aN az rfl h4 f4 F4;refine⟨f4,hK _ _ ?_⟩;clear hK K
 try simp only[Act.put,yh,yf,yg]
 refine LodeX.xt ?_;refine LodeX.zF λW hW=>?_
 cases hW;clear hS;go_wp2;go_ret;exact⟨⟨_,rfl,rfl⟩,h4,F4⟩
end
section
open Go.RowKit Lode Go.Shelf
open Go.Proofs.Tryz
def Tryz.infoIntP:(prog.info? 3).map (λi=>(i.zero,i.size,i.bytes))=some (some (.int .i64 0),1,8):=by kernel_rfl
def zjw{base cap:Nat}(mG:w.ownsRow base 3 1 (.slice (some ⟨g,0,none⟩) n cap) n xs)(hu:w.cell? ad=some u)(hs:ad.spot=none)(h1:u.oneCell'=true)(hn:n<=1000000)(mH:base<=w.heap.size)(ty:TypeId):
 ∃g' cap' w',(Builtin.append_ #[24,24] ty #[.slice (some ⟨g,0,none⟩) n cap,.slice (some ad) 1 1]).run prog w=.ok (.slice (some ⟨g',0,none⟩) (n+1) cap') w'/\w'.ownsRow base 3 1 (.slice (some ⟨g',0,none⟩) (n+1) cap') (n+1) (xs ++ [u])/\w.grownBy w' (some g)/\(g'=g\/g'=w.heap.size):=by
 obtain⟨i0,hi,pe,mY,mT⟩:=info_parts Tryz.infoIntP;have nF:∀j x,[u][j]? =some x->w.cell? (ad.add j)=some x:=λj x h=>by
  match j,h with
  |0,h=>
   simp at h;subst h;obtain⟨b,o,s⟩:=ad;simp only at hs;subst hs;exact hu
 have sa:∀x∈[u],x.oneCell'=true:=λx hx=>by rw[wD] at hx;subst hx;exact h1
 obtain⟨v',w',hr,h2,h3,_⟩:=run_append_own (P:=prog) w base 24 ty 3 i0 _ 1 8 underlying24 hi pe mY mT rfl (by decide) _ n xs mG ad 1 1 [u] rfl nF sa (by unfold maxLen;omega) (by omega) mH;have key:∃g' cap',v'=.slice (some ⟨g',0,none⟩) (n+1) cap'/\(g'=g\/g'=w.heap.size):=by
  rcases id mG.2 with⟨h,_⟩|⟨g2,cap2,cur,h,_,hg,Ni,SJ,ae,cd⟩
  ·simp at h
  ·simp only[Value.slice.injEq,wO,Addr.mk.injEq,and_true,true_and] at h;obtain⟨rfl,rfl⟩:=h;by_cases aK:n+1<=cap
   ·have mO:=run_append_room (P:=prog) w 24 ty 3 i0 underlying24 hi g n cap cur hg ad 1 1 [u] (by rw[mY];rfl) nF sa aK (by rw[mY,ae];simp;omega);rw[hr] at mO;simp only[Result.ok.injEq] at mO;exact⟨g,cap,mO.1,.inl rfl⟩
   ·have mO:=run_append_grow (P:=prog) w 24 ty 3 i0 _ underlying24 hi pe ⟨g,0,none⟩ n cap xs (by rw[mY];exact mG.1) (mG.cells (g:=g) rfl) ad 1 1 [u] (by rw[mY];rfl) nF (by omega) (by omega) (growslice_fits (by omega) (by rw[mT];omega));rw[hr] at mO;simp only[Result.ok.injEq] at mO;exact⟨_,_,mO.1,.inr rfl⟩
 obtain⟨g',cap',rfl,mJ⟩:=key;exact⟨g',cap',w',hr,h2,h3,mJ⟩
def zdv{base:Nat}(mG:w.ownsRow base 3 1 v n xs)(hu:w.cell? ad=some u)(hs:ad.spot=none)(h1:u.oneCell'=true)(hn:n<=1000000)(mH:base<=w.heap.size)(ty:TypeId):
 ∃g' cap' w',(Builtin.append_ #[24,24] ty #[v,.slice (some ad) 1 1]).run prog w=.ok (.slice (some ⟨g',0,none⟩) (n+1) cap') w'/\w'.ownsRow base 3 1 (.slice (some ⟨g',0,none⟩) (n+1) cap') (n+1) (xs ++ [u])/\w.grownBy w' v.ownBlock/\(v.ownBlock=some g'\/g'=w.heap.size):=by
 rcases id mG.2 with⟨rfl,h0⟩|⟨g,cap,cur,rfl,_⟩
 ·obtain⟨i0,hi,pe,mY,mT⟩:=info_parts Tryz.infoIntP;have nF:∀j x,[u][j]? =some x->w.cell? (ad.add j)=some x:=λj x h=>by
   match j,h with
   |0,h=>
    simp at h;subst h;obtain⟨b,o,s⟩:=ad;simp only at hs;subst hs;exact hu
  have sa:∀x∈[u],x.oneCell'=true:=λx hx=>by rw[wD] at hx;subst hx;exact h1
  obtain⟨v',w',hr,h2,h3,_⟩:=run_append_own (P:=prog) w base 24 ty 3 i0 _ 1 8 underlying24 hi pe mY mT rfl (by decide) _ n xs mG ad 1 1 [u] rfl nF sa (by unfold maxLen;omega) (by omega) mH;have mO:=run_append_nil (P:=prog) w 24 ty 3 i0 _ underlying24 hi pe ad 1 1 [u] (by rw[mY];rfl) nF (by decide) (by decide) (by rw[mT];decide);rw[hr] at mO;simp only[Result.ok.injEq] at mO;obtain⟨rfl,rfl⟩:=mO;subst h0;exact⟨_,_,_,hr,h2,h3,.inr rfl⟩
 ·obtain⟨g',cap',w',a,b,c,d⟩:=zjw mG hu hs h1 hn mH ty;refine⟨g',cap',w',a,b,c,d.imp (λh=>?_) id⟩;rw[h];rfl
def yA(NR:o.guard=none)(s x:Operand)(ho:o.op=.call {callee:=.builtin .append,args:= #[s,x],argTypes:= #[24,24]}){base:Nat}(hs:a.eval s=v)(mG:w.ownsRow base 3 1 v n xs)(hx:a.eval x=.slice (some ad) 1 1)(hu:w.cell? ad=some u)(eY:ad.spot=none)(h1:u.oneCell'=true)(hn:n<=1000000)(mH:base<=w.heap.size)(h:∀g' cap' w',w'.ownsRow base 3 1 (.slice (some ⟨g',0,none⟩) (n+1) cap') (n+1) (xs ++ [u])->w.grownBy w' v.ownBlock->(v.ownBlock=some g'\/g'=w.heap.size)->wpList prog ops Q rest (a.put o.dst (.slice (some ⟨g',0,none⟩) (n+1) cap')) w'):wpList prog ops Q (o :: rest) a w:=by
 refine wpList_plain NR λK hK=>?_
 obtain⟨g',cap',w',hr,h2,h3,h4⟩:=zdv mG hu eY h1 hn mH o.type;unfold Oper.wp;simp[execOp,ho,resolve,invoke,builtin,hs,hx,hr,Result.andThen];exact hK _ _ (h g' cap' w' h2 h3 h4)
def Yv(h:KS w v l)(hg:yY v=some g):∃cs fr,w.heap[g]? =some (.cells cs 3 fr):=by
 obtain⟨p,cap,rfl,h⟩:=h;rcases h with rfl|⟨g',off,cs,fr,rfl,hh,_⟩
 ·simp[yY] at hg
 ·cases hl:l.length with
  |zero=>rw[hl] at hg;cases hg
  |succ n=>
   rw[hl] at hg;simp only[yY,wO] at hg;subst hg;exact⟨cs,fr,hh⟩
def uJ(h:w.ownsRow B 3 1 v n xs)(hg:v.ownBlock=some g):∃cs,w.heap[g]? =some (.cells cs 3 (0,0)):=by
 obtain⟨_,⟨hv,_⟩|⟨g',cap,cur,hv,_,hh,_⟩⟩:=h
 ·rw[hv] at hg;cases hg
 ·rw[hv] at hg;simp only[Value.ownBlock,wO] at hg;subst hg;exact⟨cur,hh⟩
def PW.append{base:Nat}(h:PW E base pb iv G w st)(mG:w.ownsRow B 3 1 v n xs)(hB:base<=B)(hv:∀g,v.ownBlock=some g->G g)(hi:∀g,v.ownBlock=some g->iv.ownBlock≠some g)(hg:w.grownBy w' v.ownBlock)(mJ:v.ownBlock=some g'\/g'=w.heap.size)(mD:g'<w'.heap.size)(hG:∀g,G' g->G g\/g=g'):PW E base pb iv G' w' st:=by
 have mH:=h.base;obtain⟨nv,tv,s,kv,P,hK,hL⟩:=h;have hpb:v.ownBlock≠some pb:=λe=>by
  obtain⟨cs,hh⟩:=uJ mG e;have:=hh.symm.trans P.obj;simp at this
 have aB:∀(j:Nat) (x:Nd) (u:Value),st.nz[j]? =some x->kv[j]? =some u->KS w' u x.kz:=λj x u hx hu=>by
  have hk:=P.kz j x u hx hu;have hm:u∈kv:=wH hu;obtain⟨p,cap,rfl,nj⟩:=id hk;refine⟨p,cap,rfl,?_⟩;rcases nj with h0|⟨g,off,cs,fr,rfl,hh,hc⟩
  ·exact .inl h0
  ·by_cases h0:x.kz=[]
   ·exact .inl h0
   ·refine .inr ⟨g,off,cs,fr,rfl,?_,hc⟩;have hb:yY (.slice (some ⟨g,off,none⟩) x.kz.length (x.kz.length+cap))=some g:=by
     cases hl:x.kz.length with
     |zero=>exact absurd (pT hl) h0
     |succ m=>rfl
    rw[hg.block g (gtA hh) (λe=>hK _ hm g hb (hv g e.symm))];exact hh
 refine⟨nv,tv,s,kv,⟨P.hpb,?_,P.len,?_,?_,P.kvl,aB,?_⟩,λu hu g dQ Ps=>?_,λg Ps=>?_⟩
 ·rw[hg.block pb (gtA P.obj) (λe=>hpb e.symm)];exact P.obj
 ·exact P.tz.fr ((pG base w).grown hg mH (λk hk=>pN hB (mG.lt k hk).1))
 ·refine World.ownsRow.kept P.nz hg ?_;obtain⟨_,⟨MY,_⟩|⟨g,cap,cur,MY,_,hh,_⟩⟩:=P.nz
  ·exact .inl (by rw[MY];rfl)
  ·refine .inr (λe=>?_);rw[MY] at e;obtain⟨cs,hh2⟩:=uJ mG e.symm;have:=hh.symm.trans hh2;simp at this
 ·refine World.ownsRow.kept P.iz hg ?_;cases Pv:iv.ownBlock with
  |none=>exact .inl rfl
  |some g=>exact .inr (λe=>hi g e.symm Pv)
 ·rcases hG g Ps with h1|rfl
  ·exact hK u hu g dQ h1
  ·rcases mJ with h2|h2
   ·exact hK u hu _ dQ (hv _ h2)
   ·obtain⟨j,hj,rfl⟩:=List.mem_iff_getElem.1 hu;have hx:st.nz[j]? =some (st.nz[j]'(by rw[<-P.kvl];exact hj)):=glE _;obtain⟨cs,fr,hh⟩:=Yv (P.kz j _ _ hx (glE hj)) dQ;have:=(gtA hh);omega
 ·rcases hG g Ps with h1|rfl
  ·exact pX (hL g h1) hg.size
  ·exact mD
def Fr.grow_new{base:Nat}(F:Fr base w W)(hg:W.grownBy W' row)(hb:base<=w.heap.size)(mC:∀k,row=some k->w.heap.size<=k):Fr base w W':=
 ⟨F.b.grown hg (pN hb F.b.size) (λk hk=>pN hb (mC k hk)),λk cs T fr hk h1 h2=>by
  have hl:=(gtA hk);rw[hg.block k (pX hl F.b.size) (λe=>by have:=mC k e.symm;omega)];exact F.keep k cs T fr hk h1 h2⟩
end
section
open Go.RowKit Lode Go.Shelf
attribute [local go_sem ↓] wp_at_zero wp_at_succ
open Go.Proofs.Tryz
def zm{b:Nat}(h:w.ownsRow b e sz v n xs)(hb:Below w.heap.size w W):W.ownsRow b e sz v n xs:=
 World.ownsRow.kept (row:=none) h ⟨hb.os,hb.tape,hb.output,hb.size,λk hk _=>hb.block k hk⟩ (by cases v.ownBlock <;> simp)
def PW.weaken{base:Nat}(h:PW E base pb iv G w st)(hG:∀g,G' g->G g):PW E base pb iv G' w st:=by
 obtain⟨nv,tv,s,kv,P,h1,h2⟩:=h;exact⟨nv,tv,s,kv,P,λv hv g hg mJ=>h1 v hv g hg (hG g mJ),λg hg=>h2 g (hG g hg)⟩
def PW.ivlt{base:Nat}(h:PW E base pb iv G w st)(hg:iv.ownBlock=some g):g<w.heap.size:=by
 obtain⟨nv,tv,s,kv,P,h1,h2⟩:=h;exact (P.iz.lt g hg).2
def Gw(G:Nat->Prop)(v:Value):Nat->Prop:=λg=>G g\/v.ownBlock=some g
def ZM(E:zr)(base pb:Nat)(iv:Value)(G:Nat->Prop)(b:Nat)(r:qK (List Int))(w:World)(e:Ending)(w':World):Prop:=match r with
 | .ok l st'=>∃v,e=.returned v/\l.length<=b/\w'.ownsRow w.heap.size 3 1 v l.length (yl l)/\PW E base pb iv (Gw G v) w' st'/\Fr base w w'
 | .bad p=>e=Pan p/\Below base w w'
theorem ZM.cases{E:zr}{base pb:Nat}{iv:Value}{G:Nat->Prop}{w w':World}{e:Ending}{b:Nat}{r:qK (List Int)}(h:ZM E base pb iv G b r w e w'):(∃p,r=.bad p/\e=Pan p/\Below base w w')\/(∃l st,r=.ok l st/\∃v,e=.returned v/\l.length<=b/\w'.ownsRow w.heap.size 3 1 v l.length (yl l)/\PW E base pb iv (Gw G v) w' st/\Fr base w w'):=by
 cases r with
 |bad p=>exact .inl ⟨p,rfl,h.1,h.2⟩
 |ok a st=>
  obtain⟨v,he,h0,h1,h2,h3⟩:=h;exact .inr ⟨a,st,rfl,v,he,h0,h1,h2,h3⟩
def lgo{base b:Nat}{w0:World}{m:PM (List Int)}{f:List Int->PM β}{r:qK β}(hr:Hid ((m >>= f) E st=r))(hc:Calls prog fn args w2 (ZM E base pb iv G b (m E st) w2))(F:Fr base w0 w)(fr:Fr base w w2)(h:∀W a mr v,a.length<=b->W.ownsRow w2.heap.size 3 1 v a.length (yl a)->m E st=.ok a mr->PW E base pb iv (Gw G v) W mr->Fr base w2 W->Fr base w0 W->Hid (f a E mr=r)->K (.returned v) W)(hb:∀p W,r=.bad p->Below base w0 W->K (.panicked [{v:=.iface 102 (.agg #[.int .i64 p]),recovered:=false}]) W:=by rintro p W rfl hb;first|exact⟨rfl,p,rfl,rfl,hb⟩|(go_wp2_with fail;exact⟨rfl,rfl,hb⟩)):Calls prog fn args w2 K:=by
 refine hc.mono λe W hp=>?_
 rcases hp.cases with⟨p,hm,he,hq⟩|⟨a,mr,hm,v,he,hl,ho,h1,f1⟩
 ·rw[he];exact hb p W (hr.q.symm.trans (Xj hm)) ((F.trans fr).b.trans hq)
 ·rw[he];exact h W a mr v hl ho hm h1 f1 ((F.trans fr).trans f1) (zh ((yu hm).symm.trans hr.q))
def zoF(E:zr)(base pb n:Nat)(iv:Value)(G:Nat->Prop)(part:PM Int)(w:World)(r:qK (List Int))(v:Value)(wr:World):Prop:=∃st acc k,jI k part acc E st=r/\E.tz.length-st.next<k/\E.tz.length-st.next<n/\acc.length<=st.next/\qT E st/\wr.ownsRow w.heap.size 3 1 v acc.length (yl acc)/\PW E base pb iv (Gw G v) wr st/\Fr base w wr
def xw(pb:Nat)(W:World):Nat:=match W.cell? ⟨pb,4,none⟩ with
 |some (.int _ n)=>n.toNat
 |_=>0
theorem PW.xw{E:zr}{base pb:Nat}{iv:Value}{G:Nat->Prop}{w:World}{st:yx}(h:PW E base pb iv G w st):xw pb w=st.next:=by
 obtain⟨nv,tv,s,kv,P,h1,h2⟩:=h;unfold Go.Proofs.YtcagibbaeageoaaGreatDoor.xw;rw[P.cells.2.2.2.2.1];simp
def yR{s:yx}(h:yo x E s=.ok true s'):s'.next=s.next+1:=by
 unfold yo at h;split at h
 ·cases h;rfl
 ·cases h
def YY{base pb n f:Nat}(hf:PCn E base pb iv n f part)(hg:Gd 0 Vd part)(rZ:Enters prog f)(h:PW E base pb iv G w st)(ok:qT E st)(hn:E.tz.length-st.next<n):Calls prog 246 #[.pointer (some ⟨pb,0,none⟩),.func (.func f) #[.pointer (some ⟨pb,0,none⟩)] #[]] w (ZM E base pb iv G (E.tz.length+1) (jW part E st) w):=by
 obtain⟨r,hr⟩:=exE (jW part E st);rw[hr];unfold jW at hr;have mH:=h.base;have nK:=ok.lim;have mK:zoF E base pb n iv G part w r (.slice none 0 0) w:=⟨st,[],_,hr,by omega,hn,pU _,ok,⟨rfl,.inl ⟨rfl,rfl⟩⟩,h.weaken (λg hg=>by
  rcases hg with hg|hg
  ·exact hg
  ·cases hg),Fr.refl base w⟩
 replace mK:=zh mK;replace rZ:=zh rZ;have ma:=zh (λg=>h.ivlt (g:=g));clear hr h ok hn;go_enter func246,ntmps246;go_wp2;go_loopw [4] (λv wr=>zoF E base pb n iv G part w r v wr) (λ_ wr=>E.tz.length+1-xw pb wr)
 case atStart=>exact mK.q
 case round=>
  obtain⟨mI,acc,k,hr,hk,hn,nu,mN,mG,h0,F0⟩:=hrel;obtain⟨k,rfl⟩:∃m,k=m+1:=⟨k-1,by omega⟩;unfold jI at hr;replace hr:=zh hr;replace mG:=zh mG;have hle0:=mN.le;have wy:=λW=>rZ.q #[.pointer (some ⟨pb,0,none⟩)] W
  have mN:=zh mN;go_wp2_with fail;refine (hf _ _ _ h0 mN.q hn).mono ?_;rintro e w1 hp;rcases hp.cases with⟨p,hm,he,hb⟩|⟨x1,mr,tH,v,rfl,hv,h1,f1⟩
  ·unfold Pan at he;subst he;have mO:=(Xj hm).symm.trans hr.q;subst mO;go_wp2_with fail;exact⟨rfl,(show ZM E base pb iv G (E.tz.length+1) (.bad p) w _ w1 from ⟨rfl,F0.b.trans hb⟩)⟩
  replace hr:=zh ((yu tH).symm.trans hr.q);unfold jL at hv;subst hv;have F1:=F0.trans f1;obtain⟨n1,v1⟩:=hg mN.q.le mN.q.wf tH;have nM:=zh (mN.q.nx n1 (by decide));have rW:=n1.next;have tF:=nM.q.le;have Nk:=zP mG.q f1 (by decide) (by decide);have hsz1:w.heap.size<=w1.heap.size:=F1.b.size;have hA:=zf w1 (.cells #[.int .i64 x1] 3 (0,0));have my:=zm Nk hA;go_wp2_with (at_builtin;refine yA rfl _ _ rfl rfl my rfl (zd (zk w1 _) 0) rfl rfl (by omega) (by simp;omega) ?_);intro g' cap' w2 mC mA mJ;have nH:w2.ownsRow w.heap.size 3 1 (.slice (some ⟨g',0,none⟩) (acc ++ [x1]).length cap') (acc ++ [x1]).length (yl (acc ++ [x1])):=by
   rw[pE,pI];simp only[yl,List.map_append,List.map_cons,List.map_nil];exact mC
  have Mi:(Value.slice (some ⟨g',0,none⟩) (acc ++ [x1]).length cap').ownBlock=some g':=rfl;have h2:PW E base pb iv (Gw G (.slice (some ⟨g',0,none⟩) (acc ++ [x1]).length cap')) w2 mr:=(h1.below hA).append my mH (λg hg=>.inr hg) (λg hg e=>by
   have a:=(my.lt g hg).1;have b:=ma.q g e;omega) mA (mJ.imp id (λh=>by simpa using h)) (nH.lt g' Mi).2 (λg hg=>by
   rcases hg with hg|hg
   ·exact .inl (.inl hg)
   ·rw[Mi] at hg;exact .inr (Option.some.inj hg).symm)
  have F2:=(F1.trans (Fr.of_below h1.base hA)).grow_new mA mH (λk hk=>(my.lt k hk).1);have mV:(acc ++ [x1]).length=acc.length+1:=by simp
  rw[<-mV];have cM:(acc ++ [x1]).length<=mr.next+1:=by omega
  replace nH:=zh nH;clear mC mA mJ my Nk hA Mi mV mG f1;generalize acc ++ [x1]=acc2 at *;go_wp2_with fail;refine (yC h2 (by omega) [44]).mono ?_;rintro e w3 hp;rcases hp.cases with⟨p,hm,he,hb⟩|⟨x3,st3,rV,v,rfl,hv,h3,f3⟩
  ·unfold Pan at he;subst he;have mO:=(Xj hm).symm.trans hr.q;subst mO;go_wp2_with fail;exact⟨rfl,(show ZM E base pb iv G (E.tz.length+1) (.bad p) w _ w3 from ⟨rfl,F2.b.trans hb⟩)⟩
  replace hr:=zh ((yu rV).symm.trans hr.q);unfold JI at hv;subst hv;have F3:=F2.trans f3;have sF:=zP nH.q f3 (by decide) (by decide);replace sF:=zh sF;have n3:=Ym nM.q.le nM.q.wf rV;have mZ:=nM.q.nx n3 (by split <;> decide);cases x3 with
  |true=>
   have mS:jI k part acc2 E st3=r:=by
    have:=hr.q
    rwa [if_pos rfl] at this
   replace mS:=zh mS;have hnx:=n3.cr;have Bg:mr.next+1=st3.next:=by
    have:=yR rV;exact this.symm
   have rD:=mZ.le;go_wp2;go_roundw
   case rel=>exact⟨st3,acc2,k,mS.q,by omega,by omega,by omega,mZ,sF.q,h3,F3⟩
   case measure=>
    rw[h3.xw,h0.xw];omega
  |false=>
   have mS:qK.ok acc2 st3=r:=by
    have:=hr.q
    rwa [if_neg (by decide)] at this
   subst mS;go_wp2;go_ret;exact⟨_,rfl,by omega,sF.q,h3,F3⟩
def xD{b b':Nat}(h:w.ownsRow b e sz v n xs)(hb:b'<=b):w.ownsRow b' e sz v n xs:=by
 obtain⟨hl,h⟩:=h;exact⟨hl,h.imp id λ⟨g,cap,cur,hv,hg,r⟩=>⟨g,cap,cur,hv,pN hb hg,r⟩⟩
def jT(w:World)(b:Nat)(hl:[]=l):w.ownsRow b 3 1 (.slice none 0 0) l.length (yl l):=hl▸⟨rfl,.inl ⟨rfl,rfl⟩⟩
def zgW(w:World)(l:List Int)(hl:l.length<=1000000):(w.alloc (.cells (yl l).toArray 3 (0,0))).ownsRow w.heap.size 3 1 (.slice (some ⟨w.heap.size,0,none⟩) l.length l.length) l.length (yl l):=
 ⟨by simp[yl],.inr ⟨w.heap.size,l.length,_,rfl,pC _,zk w _,pC _,by unfold maxLen;omega,by simp[yl],by simp[yl];rw[List.take_of_length_le (by simp)]⟩⟩
def PW.gnil{base:Nat}(h:PW E base pb iv G w st):PW E base pb iv (Gw G (.slice none 0 0)) w st:=h.weaken (λg hg=>by
 rcases hg with hg|hg
 ·exact hg
 ·cases hg)
def PW.ungw{base:Nat}(h:PW E base pb iv (Gw G v) w st):PW E base pb iv G w st:=h.weaken λ_ hg=>.inl hg
def PW.glt{base:Nat}(h:PW E base pb iv G w st):∀g,G g->g<w.heap.size:=by
 obtain⟨nv,tv,s,kv,P,h1,h2⟩:=h;exact h2
def xq{base:Nat}{x:Int}(h1:PW E base pb iv (Gw G v) w1 st)(mG:w1.ownsRow B 3 1 v acc.length (yl acc))(hB:base<=B)(Pv:∀g,iv.ownBlock=some g->g<B)(mC:w2.ownsRow B 3 1 (.slice (some ⟨g',0,none⟩) (acc.length+1) cap') (acc.length+1) (yl acc ++ [.int .i64 x]))(mA:(w1.alloc (.cells #[.int .i64 x] 3 (0,0))).grownBy w2 v.ownBlock)(mJ:v.ownBlock=some g'\/g'=w1.heap.size+1):
 ∃v2,Value.slice (some ⟨g',0,none⟩) (acc.length+1) cap'=v2/\w2.ownsRow B 3 1 v2 (acc ++ [x]).length (yl (acc ++ [x]))/\PW E base pb iv (Gw G v2) w2 st/\w1.heap.size<=w2.heap.size/\∀w,Fr base w w1->w.heap.size<=B->base<=w.heap.size->Fr base w w2:=by
 have hA:=zf w1 (.cells #[.int .i64 x] 3 (0,0));have my:=zm mG hA;have nH:w2.ownsRow B 3 1 (.slice (some ⟨g',0,none⟩) (acc.length+1) cap') (acc ++ [x]).length (yl (acc ++ [x])):=by
  rw[pE,pI];simp only[yl,List.map_append,List.map_cons,List.map_nil];exact mC
 refine⟨_,rfl,nH,(h1.below hA).append my hB (λg hg=>.inr hg) (λg hg e=>?_) mA (mJ.imp id (λh=>by simpa using h)) (nH.lt g' rfl).2 (λg hg=>?_),pN hA.size mA.size,λw F hw hb=>(F.trans (Fr.of_below h1.base hA)).grow_new mA hb (λk hk=>pN hw (my.lt k hk).1)⟩
 ·have a:=(my.lt g hg).1;have b:=Pv g e;omega
 ·rcases hg with hg|hg
  ·exact .inl (.inl hg)
  ·exact .inr (Option.some.inj hg).symm
def VT{s:yx}{l:List (List UInt8)}{m:PM (List Int)}(h:xO (zw E s) l=true){x:List Int}(hx:[]=x):(do if <-YA l then pure [] else m:PM (List Int)) E s=.ok x s:=by
 subst hx;rw[yu (a:=true) (s':=s) (by unfold YA;rw[h])];rfl
def JG{s:yx}{l:List (List UInt8)}{m:PM (List Int)}(h:xO (zw E s) l=false):(do if <-YA l then pure [] else m:PM (List Int)) E s=m E s:=by
 rw[yu (a:=false) (s':=s) (by unfold YA;rw[h])];rfl
def Yu{base pb n f:Nat}(hf:PCn E base pb iv n f part)(hg:Gd 0 Vd part)(rZ:Enters prog f)(h0:PW E base pb iv G w mI)(mN:qT E mI)(hn:E.tz.length-mI.next<n+1):Calls prog 192 #[.pointer (some ⟨pb,0,none⟩),.func (.func f) #[.pointer (some ⟨pb,0,none⟩)] #[]] w (ZM E base pb iv G (E.tz.length+1) (qB part E mI) w):=by
 obtain⟨r,hr⟩:=exE (qB part E mI);rw[hr];unfold qB at hr;replace hr:=zh hr;replace mN:=zh mN;replace rZ:=zh rZ;have F0:=Fr.refl base w;have nK:=mN.q.lim;have pk:=mN.q.le;go_enter func192,ntmps192;go_wp2_with fail;refine jC hr (zy h0 (by omega) [123]) F0 (Fr.refl _ _) mN (zq) ?_;clear hr;intro w1 x1 mr tH h1 f1 F1 n1 nM tF sB hr;have sB:=n1.adv;go_wp2_with fail;refine lgo hr (YY hf hg rZ.q h1 nM.q (by omega)) F1 (Fr.refl _ _) ?_;clear hr;intro w2 x2 cD v2 l2 o2 ay h2 f2 F2 hr;obtain⟨n2,OW⟩:=jg hg nM.q.le nM.q.wf ay;have nT:=zh (nM.q.nx n2 (by decide));have sV:=nT.q.le;replace o2:=zh o2;go_wp2_with fail;refine jC hr (zy h2 (by omega) [125]) F2 (Fr.refl _ _) nT (zq) ?_;clear hr;intro w3 x3 st3 rV h3 f3 F3 n3 mZ rD tg hr;have mS:qK.ok x2 st3=r:=hr.q;subst mS;go_wp2;go_ret;exact⟨_,rfl,l2,xD (zP o2.q f3 (by decide) (by decide)) F1.b.size,h3,F3⟩
def Jw{base pb n f:Nat}(hf:PCn E base pb iv n f part)(hg:Gd 0 Vd part)(rZ:Enters prog f)(h0:PW E base pb iv G w mI)(mN:qT E mI)(hn:E.tz.length-mI.next<n+1):Calls prog 247 #[.pointer (some ⟨pb,0,none⟩),.func (.func f) #[.pointer (some ⟨pb,0,none⟩)] #[]] w (ZM E base pb iv G (E.tz.length+1) (jd part E mI) w):=by
 obtain⟨r,hr⟩:=exE (jd part E mI);rw[hr];unfold jd at hr;replace hr:=zh hr;replace mN:=zh mN;replace rZ:=zh rZ;have F0:=Fr.refl base w;have nK:=mN.q.lim;have pk:=mN.q.le;go_enter func247,ntmps247;go_wp2_with fail;refine Xu hr (yC h0 (by omega) [40]) F0 (Fr.refl _ _) mN ?_;clear hr;intro w1 x1 mr tH h1 f1 F1 n1 nM tF hr;cases x1 with
 |true=>
  have sB:=yR tH;replace hr:=zh ((if_pos (rfl:true=true)▸hr.q:_));go_wp2_with fail;refine lgo hr (YY hf hg rZ.q h1 nM.q (by omega)) F1 (Fr.refl _ _) ?_;clear hr;intro w2 x2 cD v2 l2 o2 ay h2 f2 F2 hr;obtain⟨n2,OW⟩:=jg hg nM.q.le nM.q.wf ay;have nT:=zh (nM.q.nx n2 (by decide));have sV:=nT.q.le;replace o2:=zh o2;go_wp2_with fail;refine jC hr (zy h2 (by omega) [41]) F2 (Fr.refl _ _) nT (zq) ?_;clear hr;intro w3 x3 st3 rV h3 f3 F3 n3 mZ rD tg hr;have mS:qK.ok x2 st3=r:=hr.q;subst mS;go_wp2;go_ret;exact⟨_,rfl,l2,xD (zP o2.q f3 (by decide) (by decide)) F1.b.size,h3,F3⟩
 |false=>
  have mS:qK.ok [] mr=r:=hr.q;subst mS;go_wp2;go_ret;exact⟨_,rfl,pU _,jT _ _ rfl,h1.gnil,F1⟩
def uR{m m':PM α}{f:α->PM β}{s:yx}(h:m E s=m' E s):(m >>= f) E s=(m' >>= f) E s:=by
 show PM.bind m f E s=PM.bind m' f E s
 unfold PM.bind;rw[h]
def Ja{base:Nat}(hR:kQ E base pb iv n R)(h0:PW E base pb iv G w mI)(mN:qT E mI)(hn:E.tz.length-mI.next<n+1):Calls prog 196 #[.pointer (some ⟨pb,0,none⟩)] w (ZM E base pb iv G (E.tz.length+2) (Zh R E mI) w):=by
 obtain⟨r,hr⟩:=exE (Zh R E mI);rw[hr];unfold Zh at hr;replace hr:=zh hr;replace mN:=zh mN;replace hR:=zh hR;have F0:=Fr.refl base w;have nK:=mN.q.lim;have pk:=mN.q.le;have mH:=h0.base;have ma:=zh (λg=>h0.ivlt (g:=g));have nJ:=zh (enters_of (P:=prog) func193 (by kernel_rfl) rfl);go_enter func196,ntmps196;go_wp2_with fail;refine jC hr (zy h0 (by omega) [40]) F0 (Fr.refl _ _) mN (zq) ?_;clear hr;intro w1 x1 mr tH h1 f1 F1 n1 nM tF sB hr;have sB:=n1.adv;go_wp2_with fail;refine (kB h1 [41]).mono ?_;rintro e wi ⟨rfl,bP⟩;have bP:=zg (zf w1 _) bP;have hi:=h1.below bP;have Fi:=F1.trans (Fr.of_below h1.base bP);cases hk:xO (zw E mr) [[41]] with
 |true=>
  obtain⟨x2,cg⟩:∃x2:List Int,[]=x2:=⟨_,rfl⟩;replace hr:=zh ((yu (VT hk cg)).symm.trans hr.q);have n2:=Nx.refl nM.q.le nM.q.wf;have nT:=nM;have h2:=hi.gnil;have F2:=Fi;have o2:=jT wi w1.heap.size cg;have l2:x2.length<=E.tz.length+1:=by rw[<-cg];exact pU _
  clear cg;have sV:=nT.q.le;replace o2:=zh o2;go_wp2_with fail;refine jC hr (zy h2 (by omega) [41]) F2 (Fr.refl _ _) nT (zq) ?_;clear hr;intro w3 x3 st3 rV h3 f3 F3 n3 mZ rD tg hr;go_wp2_with fail;refine jC hr (zy h3 (by omega) [58]) F3 (Fr.refl _ _) mZ (zq) ?_;clear hr;intro w4 x4 aN az h4 f4 F4 n4 rl fo fL hr;have fL:=n4.adv;have tg:=n3.adv;have tf:=n2.next;go_wp2_with fail;refine QX hr (hR.q.kind _ _ _ h4 rl.q (by omega)) F4 (Fr.refl _ _) rl (hR.q.good.kind) ?_;clear hr;intro w5 x5 ry bA h5 f5 F5 n5 GC rm dX Pf hr;have o5:=xD (zP (zP (zP o2.q f3 (by decide) (by decide)) f4 (by decide) (by decide)) f5 (by decide) (by decide)) F1.b.size;have mt:=h5.base;have Ib:=F5.b.size;go_wp2_with (at_builtin;refine yA rfl _ _ rfl rfl (zm o5 (zf _ _)) rfl (zd (zk w5 _) 0) rfl rfl (by omega) (by simp;omega) ?_);intro g' cap' w6 mC mA mJ;obtain⟨v6,e6,o6,h6,_,F6⟩:=xq h5 o5 mH ma.q mC mA mJ;rw[e6];have mS:=(show qK.ok _ ry=r from hr.q);subst mS;replace o6:=zh o6;have F6:=F6 w F5 (pC _) mH;clear mC mA mJ e6 o5;go_wp2;go_ret;exact⟨_,rfl,by rw[pE,pI];omega,o6.q,h6,F6⟩
 |false=>
  replace hr:=zh ((uR (JG hk)).symm.trans hr.q);have F1:=Fi;have h1:=hi;go_wp2_with fail;refine lgo hr (YY (zbg hR.q) (vj hR.q.good) nJ.q h1 nM.q (by omega)) F1 (Fr.refl _ _) ?_;clear hr;intro w2 x2 cD v2 l2 o2 ay h2 f2 F2 hr;obtain⟨n2,OW⟩:=jg (vj hR.q.good) nM.q.le nM.q.wf ay;have nT:=zh (nM.q.nx n2 (by decide));have sV:=nT.q.le;replace o2:=zh o2;go_wp2_with fail;refine jC hr (zy h2 (by omega) [41]) F2 (Fr.refl _ _) nT (zq) ?_;clear hr;intro w3 x3 st3 rV h3 f3 F3 n3 mZ rD tg hr;go_wp2_with fail;refine jC hr (zy h3 (by omega) [58]) F3 (Fr.refl _ _) mZ (zq) ?_;clear hr;intro w4 x4 aN az h4 f4 F4 n4 rl fo fL hr;have fL:=n4.adv;have tg:=n3.adv;have tf:=n2.next;go_wp2_with fail;refine QX hr (hR.q.kind _ _ _ h4 rl.q (by omega)) F4 (Fr.refl _ _) rl (hR.q.good.kind) ?_;clear hr;intro w5 x5 ry bA h5 f5 F5 n5 GC rm dX Pf hr;have o5:=xD (zP (zP (zP o2.q f3 (by decide) (by decide)) f4 (by decide) (by decide)) f5 (by decide) (by decide)) F1.b.size;have mt:=h5.base;have Ib:=F5.b.size;go_wp2_with (at_builtin;refine yA rfl _ _ rfl rfl (zm o5 (zf _ _)) rfl (zd (zk w5 _) 0) rfl rfl (by omega) (by simp;omega) ?_);intro g' cap' w6 mC mA mJ;obtain⟨v6,e6,o6,h6,_,F6⟩:=xq h5 o5 mH ma.q mC mA mJ;rw[e6];have mS:=(show qK.ok _ ry=r from hr.q);subst mS;replace o6:=zh o6;have F6:=F6 w F5 (pC _) mH;clear mC mA mJ e6 o5;go_wp2;go_ret;exact⟨_,rfl,by rw[pE,pI];omega,o6.q,h6,F6⟩
def KS.own{b:Nat}(h:w.ownsRow b 3 1 v l.length (yl l)):KS w v l:=by
 obtain⟨_,⟨hv,h0⟩|⟨g,cap,cur,hv,_,hg,Ni,SJ,ae,ht⟩⟩:=h
 ·subst hv;exact⟨none,0,by rw[h0],.inl (pT h0)⟩
 ·refine⟨_,cap-l.length,by rw[hv,Nat.add_sub_cancel' (by omega)],.inr ⟨g,0,cur,_,rfl,hg,λj z hz=>?_⟩⟩;have hj:j<l.length:=(gtL hz);have h1:(yl l)[j]? =some (.int .i64 z):=by rw[yl,wC,hz];rfl
  rw[<-ht,List.getElem?_take,if_pos (by simp;exact hj),Array.getElem?_toList] at h1;rw[Nat.zero_add];exact h1
def yM{b:Nat}(h:w.ownsRow b 3 1 v l.length (yl l))(hG:∀g,G g->g<b):∀g,yY v=some g->¬G g:=λg hg MC=>by
 have hb:v.ownBlock=some g:=by
  obtain⟨_,⟨hv,_⟩|⟨g',cap,cur,hv,_⟩⟩:=h
  ·rw[hv] at hg;cases hg
  ·rw[hv] at hg ⊢;cases hl:l.length with
   |zero=>rw[hl] at hg;cases hg
   |succ m=>
    rw[hl] at hg;exact hg
 have:=(h.lt g hb).1;have:=hG g MC;omega
def zke{base:Nat}(hR:kQ E base pb iv n R):PCn E base pb iv (n+1) 194 (Yz R):=by
 intro G w mI h0 mN hn;obtain⟨r,hr⟩:=exE (Yz R E mI);rw[hr];unfold Yz at hr;replace hr:=zh hr;replace mN:=zh mN;replace hR:=zh hR;have F0:=Fr.refl base w;have nK:=mN.q.lim;have pk:=mN.q.le;have rj:=h0.glt;have nJ:=zh (enters_of (P:=prog) func197 (by kernel_rfl) rfl);go_enter func194,ntmps194;go_wp2_with fail;refine jC hr (xK h0 (by omega) 2) F0 (Fr.refl _ _) mN (yB (by decide)) ?_;clear hr;intro w1 x1 mr tH h1 f1 F1 n1 nM tF sB hr;have sB:=n1.adv;obtain⟨k1,t1,a1⟩:=x1;simp only at hr ⊢;have hz:=zk w1 (.cells #[.int .u8 k1,.string ⟨t1.toArray⟩,.int .i64 a1] 66 (0,0));have h2:=h1.below (zf w1 (.cells #[.int .u8 k1,.string ⟨t1.toArray⟩,.int .i64 a1] 66 (0,0)));have F2:=F1.trans (Fr.of_below h1.base (zf w1 (.cells #[.int .u8 k1,.string ⟨t1.toArray⟩,.int .i64 a1] 66 (0,0))));go_wp2_with fail;generalize w1.alloc (.cells #[.int .u8 k1,.string ⟨t1.toArray⟩,.int .i64 a1] 66 (0,0))=w2 at *;have hS:∀W,(xg base).rel w2.drew W->(W.cell? ⟨w1.heap.size,1,none⟩=some (.string ⟨t1.toArray⟩)/\W.cell? ⟨w1.heap.size,2,none⟩=some (.int .i64 a1)):=λW hF=>by
  have:=hF.keep _ _ _ _ hz (by decide) (by decide);exact⟨zd this 1,zd this 2⟩
 clear hz;have nT:=nM;refine LodeX.xC (RR:=xg base) (Xp:=XP base r w) [(0,0),(1,0),(2,1),(3,0),(4,1),(5,0),(6,0),(7,2),(8,2),(9,2),(10,0)] ?_;refine LodeX.xt ?_
 iterate 1 (refine LodeX.callX λK hK=>?_;go_simp;refine⟨Fr.refl _ _,hK _ _ ?_⟩;clear hK K;try simp only[Act.put,yh,yf,yg])
 refine LodeX.callX λK hK=>?_
 go_simp;refine lgo hr (Jw hR.q.kind hR.q.good.kind nJ.q (h2.below bR.drew) nT.q (by omega)) F2 ((Fr.of_below h2.base bR.drew)) ?_;clear hr;intro w3 x3 st3 v3 l3 o3 rV h3 f3 F3 hr;refine⟨f3,hK _ _ ?_⟩;clear hK K;have hS:=λW (hF:(xg base).rel w3 W)=>hS W (Fr.trans f3 hF)
 try simp only[Act.put,yh,yf,yg]
 obtain⟨n3,vl3⟩:=ZV hR.q.good.kind nT.q.le nT.q.wf rV;have mZ:=zh (nT.q.nx n3 (by decide));have rD:=mZ.q.le;have mE:=mZ.q.few;have FC:=F2.b.size;have eZ:(w2.drew).heap.size=w2.heap.size:=rfl;refine LodeX.callX λK hK=>?_
 go_simp;refine zX hr (zE h3.ungw 89 t1 0 a1 x3 _ (KS.own o3) (yM o3 (λg hg=>by have:=rj g hg;omega)) (by omega)) F3 ((Fr.refl _ _)) ?_;rintro w4 x4 aN az rfl h4 f4 F4;refine⟨f4,hK _ _ ?_⟩;clear hK K
 try simp only[Act.put,yh,yf,yg]
 refine LodeX.xt ?_;refine LodeX.zF λW hW=>?_
 cases hW;clear hS;go_wp2;go_ret;exact⟨⟨_,rfl,rfl⟩,h4,F4⟩
end
section
open Go.RowKit Lode Go.Shelf
attribute [local go_sem ↓] wp_at_zero wp_at_succ
attribute [local go_sem] Vj zmY Vi
open Go.Proofs.Tryz
def zlt{base:Nat}(hR:kQ E base pb iv n R):PCn E base pb iv (n+1) 301 (KD R):=by
 intro G w mI h0 mN hn;obtain⟨r,hr⟩:=exE (KD R E mI);rw[hr];unfold KD at hr;replace hr:=zh hr;replace mN:=zh mN;replace hR:=zh hR;have F0:=Fr.refl base w;have nK:=mN.q.lim;have pk:=mN.q.le;have rj:=h0.glt;have mH:=h0.base;have ma:=zh (λg=>h0.ivlt (g:=g));go_enter func301,ntmps301;go_wp2_with fail;refine jC hr (xK h0 (by omega) 1) F0 (Fr.refl _ _) mN (yB (by decide)) ?_;clear hr;intro w1 x1 mr tH h1 f1 F1 n1 nM tF sB hr;obtain⟨k1,t1,a1⟩:=x1;simp only at hr ⊢;go_wp2_with fail;refine jC hr (zy (h1.below (zf _ _)) (by omega) [58]) F1 (Fr.of_below h1.base (zf _ _)) nM (zq) ?_;clear hr;intro w2 x2 cD ay h2 f2 F2 n2 nT sV tf hr;have hz:=f2.keep _ _ _ _ (zk w1 _) (by decide) (by decide);have hS:∀W,(xg base).rel w2.drew W->(W.cell? ⟨w1.heap.size,1,none⟩=some (.string ⟨t1.toArray⟩)/\W.cell? ⟨w1.heap.size,2,none⟩=some (.int .i64 a1)):=λW hF=>by
  have:=hF.keep _ _ _ _ hz (by decide) (by decide);exact⟨zd this 1,zd this 2⟩
 clear hz;go_wp2_with fail;refine LodeX.xC (RR:=xg base) (Xp:=XP base r w) [(0,0),(1,0),(2,1),(3,0),(4,1),(5,0),(6,2),(7,2),(8,2),(9,0)] ?_;refine LodeX.xt ?_;have aJ:E.tz.length-cD.next<n:=by have:=n1.adv;have:=n2.adv;omega
 refine LodeX.callX λK hK=>?_
 go_simp;refine Jk hr (hR.q.expr _ _ _ (h2.below bR.drew) nT.q aJ) F2 ((Fr.of_below h2.base bR.drew)) ?_;clear hr;intro w3 x3 st3 rV h3 f3 F3 hr;refine⟨f3,hK _ _ ?_⟩;clear hK K;have hS:=λW (hF:(xg base).rel w3 W)=>hS W (Fr.trans f3 hF)
 try simp only[Act.put,yh,yf,yg]
 obtain⟨n3,v3⟩:=hR.q.good.expr nT.q.le nT.q.wf rV;have mZ:=nT.q.nx n3 (by decide);have mE:st3.nz.length<=1000000:=by have:=mZ.few;have:=mZ.le;omega
 refine LodeX.callX λK hK=>?_
 go_simp;refine⟨Fr.of_below h3.base (zf _ _),hK _ _ ?_⟩;clear hK K
 try simp only[Act.put,yh,yf,yg]
 refine LodeX.callX λK hK=>?_
 go_simp;refine zX hr (zE (h3.below (zf _ _)) 27 t1 0 a1 [x3] _ (KS.lit _ [x3]) (h3.fresh _ _) mE) F3 (Fr.of_below h3.base (zf _ _)) ?_;rintro w4 x4 aN az rfl h4 f4 F4;refine⟨f4,hK _ _ ?_⟩;clear hK K
 try simp only[Act.put,yh,yf,yg]
 refine LodeX.xt ?_;refine LodeX.zF λW hW=>?_
 cases hW;clear hS;go_wp2;go_ret;exact⟨⟨_,rfl,rfl⟩,h4,F4⟩
def zmb{base:Nat}(hR:kQ E base pb iv n R):PCn E base pb iv n 300 (KF R):=by
 intro G w mI h0 mN hn;obtain⟨r,hr⟩:=exE (KF R E mI);rw[hr];unfold KF at hr;replace hr:=zh hr;replace mN:=zh mN;replace hR:=zh hR;have F0:=Fr.refl base w;have nK:=mN.q.lim;have pk:=mN.q.le;have rj:=h0.glt;have mH:=h0.base;have ma:=zh (λg=>h0.ivlt (g:=g));go_enter func300,ntmps300;go_wp2_with fail;refine QX hr (hR.q.pattern _ _ _ h0 mN.q hn) F0 (Fr.refl _ _) mN (hR.q.good.pattern) ?_;clear hr;intro w1 x1 mr tH h1 f1 F1 n1 XE nM tF sB hr;go_wp2_with fail;refine jC hr (zy h1 (by omega) [61,62]) F1 (Fr.refl _ _) nM (zq) ?_;clear hr;intro w2 x2 cD ay h2 f2 F2 n2 nT sV tf hr;obtain⟨k2,t2,a2⟩:=x2;simp only at hr ⊢;go_wp2_with fail;refine QX hr (hR.q.expr _ _ _ h2 nT.q (by omega)) F2 (Fr.refl _ _) nT (hR.q.good.expr) ?_;clear hr;intro w3 x3 st3 rV h3 f3 F3 n3 Sg mZ rD tg hr;have mE:st3.nz.length<=1000000:=by have:=mZ.q.few;have:=mZ.q.le;omega
 go_wp2_with fail;refine zX hr (zE (h3.below (zf _ _)) 32 [] 0 a2 [x1,x3] _ (KS.lit _ [x1,x3]) (h3.fresh _ _) mE) F3 (Fr.of_below h3.base (zf _ _)) ?_;rintro w4 x4 aN az rfl h4 f4 F4;go_wp2;go_ret;exact⟨⟨_,rfl,rfl⟩,h4,F4⟩
end
section
open Go.RowKit Lode Go.Shelf
attribute [local go_sem ↓] wp_at_zero wp_at_succ
open Go.Proofs.Tryz
def PW.glit{base:Nat}(h:PW E base pb iv G w st)(o:Obj)(n cap:Nat):PW E base pb iv (Gw G (.slice (some ⟨w.heap.size,0,none⟩) n cap)) (w.alloc o) st:=by
 obtain⟨nv,tv,s,kv,P,hK,hL⟩:=h;refine⟨nv,tv,s,kv,P.below (zf _ _),λu hu g dQ Ps=>?_,λg Ps=>?_⟩
 ·rcases Ps with h1|h1
  ·exact hK u hu g dQ h1
  ·obtain⟨j,hj,rfl⟩:=List.mem_iff_getElem.1 hu;have hx:st.nz[j]? =some (st.nz[j]'(by rw[<-P.kvl];exact hj)):=glE _;obtain⟨cs,fr,hh⟩:=Yv (P.kz j _ _ hx (glE hj)) dQ;have:=(gtA hh);have:=Option.some.inj (show some w.heap.size=some g from h1);omega
 ·rcases Ps with h1|h1
  ·have:=hL g h1;simp;omega
  ·have:=Option.some.inj (show some w.heap.size=some g from h1);simp;omega
def QL(w:World)(x:Int)(hl:[x]=l):(w.alloc (.cells #[.int .i64 x] 3 (0,0))).ownsRow w.heap.size 3 1 (.slice (some ⟨w.heap.size,0,none⟩) 1 1) l.length (yl l):=by
 subst hl;exact zgW w [x] (by simp)
def ul{s:yx}{l:List (List UInt8)}{m m':PM α}(h:xO (zw E s) l=true):(do if <-YA l then m else m':PM α) E s=m E s:=by
 rw[yu (a:=true) (s':=s) (by unfold YA;rw[h])];rfl
def kL{s:yx}{l:List (List UInt8)}{m m':PM α}(h:xO (zw E s) l=false):(do if <-YA l then m else m':PM α) E s=m' E s:=by
 rw[yu (a:=false) (s':=s) (by unfold YA;rw[h])];rfl
def zao{base:Nat}(hR:kQ E base pb iv n R):PCn E base pb iv (n+1) 299 (jz R):=by
 intro G w mI h0 mN hn;obtain⟨r,hr⟩:=exE (jz R E mI);rw[hr];unfold jz at hr;replace hr:=zh hr;replace mN:=zh mN;replace hR:=zh hR;have F0:=Fr.refl base w;have nK:=mN.q.lim;have pk:=mN.q.le;have rj:=h0.glt;have mH:=h0.base;have ma:=zh (λg=>h0.ivlt (g:=g));go_enter func299,ntmps299;go_wp2_with fail;refine jC hr (zy h0 (by omega) [105,102]) F0 (Fr.refl _ _) mN (zq) ?_;clear hr;intro w1 x1 mr tH h1 f1 F1 n1 nM tF sB hr;have sB:=n1.adv;obtain⟨k1,t1,a1⟩:=x1;simp only at hr ⊢;go_wp2_with fail;refine QX hr (hR.q.expr _ _ _ (h1.below (zf _ _)) nM.q (by omega)) F1 (Fr.of_below h1.base (zf _ _)) nM (hR.q.good.expr) ?_;clear hr;intro w2 x2 cD ay h2 f2 F2 n2 CG nT sV tf hr;have RX:=f2.b.size;go_wp2_with fail;refine QX hr (hR.q.block _ _ _ (h2.glit _ 1 1) nT.q (by omega)) F2 (Fr.of_below h2.base (zf _ _)) nT (hR.q.good.block) ?_;clear hr;intro w3 x3 st3 rV h3 f3 F3 n3 Sg mZ rD tg hr;obtain⟨acc,nu⟩:∃l:List Int,[x2]=l:=⟨_,rfl⟩;have BS:acc.length<=1:=by rw[<-nu];exact pC _
 have o3:=zP (QL w2 x2 nu) f3 (by decide) (by decide);have ew:=F2.b.size;have ex:=F3.b.size;have mU:w2.heap.size<=w3.heap.size:=by have:=f3.b.size;simp at this;omega
 have T3:=(f2.trans (Fr.of_below h2.base (zf w2 (.cells #[.int .i64 x2] 3 (0,0))))).trans f3;generalize Value.slice (some ⟨w2.heap.size,0,none⟩) 1 1=va at h3 o3 ⊢;have Tw:=h3.base;have aL:=F3.b.size;go_wp2_with (at_builtin;refine yA rfl _ _ rfl rfl (zm o3 (zf _ _)) rfl (zd (zk w3 _) 0) rfl rfl (by omega) (by simp;omega) ?_);intro g' cap' w4 mC mA mJ;obtain⟨v4,e4,o4,h4,Gj,dC⟩:=xq h3 o3 (by omega) (λg hg=>by have:=ma.q g hg;omega) mC mA mJ;rw[e4];replace o4:=zh o4;replace dC:=zh dC;clear mC mA mJ e4;have F4:=dC.q w F3 ew mH;have T4:=dC.q _ T3 RX (by have:=h1.base;simp;omega);have rl:=mZ;have sU:(acc ++ [x3]).length<=2:=by simp;omega
 obtain⟨acc2,cM⟩:∃l:List Int,acc ++ [x3]=l:=⟨_,rfl⟩;rw[cM] at sU o4;clear dC;go_wp2_with fail;refine Xu hr (yC h4 (by omega) [101,108,115,101]) F4 (Fr.refl _ _) rl ?_;clear hr;intro w6 x6 pm tI h6 f6 F6 n6 rn tG hr;have fM:=n6.next;have T6:=(T4.trans (Fr.refl _ _)).trans f6;have o6:=zP o4.q f6 (by decide) (by decide);have nR:w2.heap.size<=w6.heap.size:=by have:=f6.b.size;omega
 cases x6 with
 |true=>
  replace hr:=zh ((if_pos (rfl:true=true)▸hr.q:_));go_wp2_with fail;refine (kB h6 [105,102]).mono ?_;rintro e wi ⟨rfl,bP⟩;have bP:=zg (zf w6 _) bP;have hi:=h6.below bP;have Fi:=F6.trans (Fr.of_below h6.base bP);have Ti:=T6.trans (Fr.of_below h6.base bP);have oi:=zm o6 bP;have CA:=rn;have MK:=bP.size;cases hk:xO (zw E pm) [[105,102]] with
  |true=>
   replace hr:=zh ((ul hk).symm.trans hr.q);go_wp2_with fail;refine QX hr (hR.q.branch _ _ _ hi CA.q (by omega)) Fi (Fr.refl _ _) CA (hR.q.good.branch) ?_;clear hr;intro w7 x7 ta so h7 f7 F7 n7 Ro pa af dJ hr;have T7:=(Ti.trans (Fr.refl _ _)).trans f7;have dJ:=n7.next;have af:=pa.q.le;have o7:=zP oi f7 (by decide) (by decide);have rC:=f7.b.size;have Dl:=h7.base;have Ez:=F7.b.size;go_wp2_with (at_builtin;refine yA rfl _ _ rfl rfl (zm o7 (zf _ _)) rfl (zd (zk w7 _) 0) rfl rfl (by omega) (by simp;omega) ?_);intro g' cap' w8 mC mA mJ;obtain⟨v8,e8,o8,h8,BH,aP⟩:=xq h7 o7 (by omega) (λg hg=>by have:=ma.q g hg;omega) mC mA mJ;rw[e8];replace o8:=zh o8;replace aP:=zh aP;clear mC mA mJ e8;have F8:=aP.q w F7 (by omega) mH;have T8:=aP.q _ T7 RX (by have:=h1.base;simp;omega);have cy:=zd (T8.keep _ _ _ _ (zk w1 _) (by decide) (by decide)) 2;have mE:ta.nz.length<=1000000:=by have:=pa.q.few;omega
   subst cM;subst nu;go_wp2_with fail;refine zX hr (zE (h8.ungw.below bR) 29 [] 0 a1 _ _ (KS.own o8.q) (yM o8.q (λg hg=>by have:=rj g hg;omega)) mE) F8 (Fr.refl _ _) ?_;rintro w9 x9 bH bX rfl h9 f9 F9;go_wp2;go_ret;exact⟨⟨_,rfl,rfl⟩,h9,F9⟩
  |false=>
   replace hr:=zh ((kL hk).symm.trans hr.q);go_wp2_with fail;refine QX hr (hR.q.block _ _ _ hi CA.q (by omega)) Fi (Fr.refl _ _) CA (hR.q.good.block) ?_;clear hr;intro w7 x7 ta so h7 f7 F7 n7 Ro pa af dJ hr;have T7:=(Ti.trans (Fr.refl _ _)).trans f7;have dJ:=n7.next;have af:=pa.q.le;have o7:=zP oi f7 (by decide) (by decide);have rC:=f7.b.size;have Dl:=h7.base;have Ez:=F7.b.size;go_wp2_with (at_builtin;refine yA rfl _ _ rfl rfl (zm o7 (zf _ _)) rfl (zd (zk w7 _) 0) rfl rfl (by omega) (by simp;omega) ?_);intro g' cap' w8 mC mA mJ;obtain⟨v8,e8,o8,h8,BH,aP⟩:=xq h7 o7 (by omega) (λg hg=>by have:=ma.q g hg;omega) mC mA mJ;rw[e8];replace o8:=zh o8;replace aP:=zh aP;clear mC mA mJ e8;have F8:=aP.q w F7 (by omega) mH;have T8:=aP.q _ T7 RX (by have:=h1.base;simp;omega);have cy:=zd (T8.keep _ _ _ _ (zk w1 _) (by decide) (by decide)) 2;have mE:ta.nz.length<=1000000:=by have:=pa.q.few;omega
   subst cM;subst nu;go_wp2_with fail;refine zX hr (zE (h8.ungw.below bR) 29 [] 0 a1 _ _ (KS.own o8.q) (yM o8.q (λg hg=>by have:=rj g hg;omega)) mE) F8 (Fr.refl _ _) ?_;rintro w9 x9 bH bX rfl h9 f9 F9;go_wp2;go_ret;exact⟨⟨_,rfl,rfl⟩,h9,F9⟩
 |false=>
  replace hr:=zh ((show zT 29 [] 0 a1 [x2,x3] E pm=r from hr.q));have tP:=zd (T6.keep _ _ _ _ (zk w1 _) (by decide) (by decide)) 2;have mE:pm.nz.length<=1000000:=by have:=rn.q.few;omega
  have o6:=zh o6;subst cM;subst nu;go_wp2_with fail;refine zX hr (zE (h6.ungw.below bR) 29 [] 0 a1 _ _ (KS.own o6.q) (yM o6.q (λg hg=>by have:=rj g hg;omega)) mE) F6 (Fr.refl _ _) ?_;rintro w9 x9 bH bX rfl h9 f9 F9;go_wp2;go_ret;exact⟨⟨_,rfl,rfl⟩,h9,F9⟩
def PW.skip{base:Nat}(h:PW E base pb iv G w st):w.cell? ⟨pb,4,none⟩=some (.int .i64 st.next)/\w.frozen? ⟨pb,4,none⟩=false/\PW E base pb iv G (w.setCell ⟨pb,4,none⟩ (.int .i64 ((st.next:Int)+1))) {st with next:=st.next+1}/\Fr base w (w.setCell ⟨pb,4,none⟩ (.int .i64 ((st.next:Int)+1))):=by
 obtain⟨nv,tv,s,kv,P,h1,h2⟩:=h;obtain⟨_,_,_,_,c4,f⟩:=P.cells;obtain⟨hp,hf⟩:=P.next (st.next+1);rw[show ((st.next+1:Nat):Int)=(st.next:Int)+1 by omega] at hp hf;exact⟨c4,f 4,⟨nv,tv,s,kv,hp,h1,λg hg=>by have:=h2 g hg;simpa using this⟩,hf⟩
structure FrB(base N:Nat)(w w':World):Prop where
 b:Below base w w'
 keep:∀(k:Nat) (cs:Array Value) (T:TypeId) (fr:Nat×Nat),k<N->w.heap[k]? =some (.cells cs T fr)->T≠100->T≠60->w'.heap[k]? =some (.cells cs T fr)
def FrB.refl(base N:Nat)(w:World):FrB base N w w:=⟨pG _ _,λ_ _ _ _ _ h _ _=>h⟩
theorem FrB.trans{base:Nat}{a b:World}(h:FrB base N a b)(k:FrB base N b c):FrB base N a c:=⟨h.b.trans k.b,λn cs T fr hN hn h1 h2=>k.keep n cs T fr hN (h.keep n cs T fr hN hn h1 h2) h1 h2⟩
def Fr.cut{base:Nat}{a b:World}(h:Fr base a b):FrB base N a b:=⟨h.b,λn cs T fr _ hn h1 h2=>h.keep n cs T fr hn h1 h2⟩
def FrB.grow{base:Nat}(hg:w.grownBy w' row)(hb:base<=w.heap.size)(mC:∀k,row=some k->base<=k/\N<=k):FrB base N w w':=
 ⟨(pG base w).grown hg hb (λk hk=>(mC k hk).1),λk cs T fr hN hk h1 h2=>by
  rw[hg.block k (gtA hk) (λe=>by have:=(mC k e.symm).2;omega)];exact hk⟩
def zow(base N:Nat):LodeX.Rel:=⟨FrB base N,FrB.refl base N,FrB.trans,Eq,λ_=>rfl,Eq.trans,λh=>h▸FrB.refl base N _⟩
def yE{K:Act->World->Prop}(s x:Operand)(ho:o.op=.call {callee:=.builtin .append,args:= #[s,x],argTypes:= #[24,24]}){base:Nat}(hs:a.eval s=v)(mG:w.ownsRow base 3 1 v n xs)(hx:a.eval x=.slice (some ad) 1 1)(hu:w.cell? ad=some u)(eY:ad.spot=none)(h1:u.oneCell'=true)(hn:n<=1000000)(mH:base<=w.heap.size)(h:∀g' cap' w',w'.ownsRow base 3 1 (.slice (some ⟨g',0,none⟩) (n+1) cap') (n+1) (xs ++ [u])->w.grownBy w' v.ownBlock->(v.ownBlock=some g'\/g'=w.heap.size)->K (a.put o.dst (.slice (some ⟨g',0,none⟩) (n+1) cap')) w'):o.wp prog a w K X:=by
 obtain⟨g',cap',w',hr,h2,h3,h4⟩:=zdv mG hu eY h1 hn mH o.type;unfold Oper.wp;simp[execOp,ho,resolve,invoke,builtin,hs,hx,hr,Result.andThen];exact h g' cap' w' h2 h3 h4
def kw(R:qi)(t:yO):List (List UInt8×Nat)->PM Int
 |[]=>do
  if <-yo [99,104,97,110] then
   let k <-R.kind
   zT 86 [] 0 t.at_ [k]
  else if <-yo [119,101,97,107] then
   let k <-R.kind
   zT 87 [] 0 t.at_ [k]
  else
   let _ <-zC [102,110]
   let _ <-zC [40]
   let l <-(do if <-YA [[41]] then pure [] else jW R.kind:PM (List Int))
   let _ <-zC [41]
   let _ <-zC [58]
   let k <-R.kind
   zT 85 [] 0 t.at_ (l ++ [k])
 |x :: l=>do
  if <-yo x.1 then zT x.2 [] 0 t.at_ []
  else kw R t l
def kws:List (List UInt8×Nat):=[([105,110,116],80),([98,111,111,108],81),([116,101,120,116],82),([117,110,105,116],83)]
def zoi(R:qi):YB R=(do
 let t <-YU
 if t.kind == 2 then
  jH
  zT 84 t.text 0 t.at_ []
 else kw R t kws):=rfl
def KS.nil'(w:World):KS w (.slice none 0 0) []:=KS.nil w 0 none
def xM:∀g,yY (.slice none 0 0)=some g->¬G g:=λg hg=>by cases hg
def zmO(E:zr)(base pb:Nat)(iv:Value)(G:Nat->Prop)(R:qi)(t:yO)(w wt:World)(st:yx)(r:qK Int)(i:Value)(wr:World):Prop:=∃k:Nat,k<=4/\i=.int .i64 k/\kw R t (kws.drop k) E st=r/\PW E base pb iv G wr st/\Fr base w wr/\Fr base wt wr
def znu(W:World):(Instr.index 217 (.agg #[.string ⟨[105,110,116].toArray⟩,.string ⟨[98,111,111,108].toArray⟩,.string ⟨[116,101,120,116].toArray⟩,.string ⟨[117,110,105,116].toArray⟩]) (.int .i64 0)).run prog W=.ok (.string ⟨[105,110,116].toArray⟩) W:=by kernel_rfl
def znt(W:World):(Instr.index 217 (.agg #[.string ⟨[105,110,116].toArray⟩,.string ⟨[98,111,111,108].toArray⟩,.string ⟨[116,101,120,116].toArray⟩,.string ⟨[117,110,105,116].toArray⟩]) (.int .i64 1)).run prog W=.ok (.string ⟨[98,111,111,108].toArray⟩) W:=by kernel_rfl
def zns(W:World):(Instr.index 217 (.agg #[.string ⟨[105,110,116].toArray⟩,.string ⟨[98,111,111,108].toArray⟩,.string ⟨[116,101,120,116].toArray⟩,.string ⟨[117,110,105,116].toArray⟩]) (.int .i64 2)).run prog W=.ok (.string ⟨[116,101,120,116].toArray⟩) W:=by kernel_rfl
def znr(W:World):(Instr.index 217 (.agg #[.string ⟨[105,110,116].toArray⟩,.string ⟨[98,111,111,108].toArray⟩,.string ⟨[116,101,120,116].toArray⟩,.string ⟨[117,110,105,116].toArray⟩]) (.int .i64 3)).run prog W=.ok (.string ⟨[117,110,105,116].toArray⟩) W:=by kernel_rfl
def yz{s:yx}(h:yo x E s=.ok false s'):s'=s:=by
 unfold yo at h;split at h
 ·cases h
 ·cases h;rfl
def zkd{base:Nat}(hR:kQ E base pb iv n R):PCn E base pb iv (n+1) 197 (YB R):=by
 intro G w mI h0 mN hn;obtain⟨r,hr⟩:=exE (YB R E mI);rw[hr];rw[zoi] at hr;replace hr:=zh hr;replace mN:=zh mN;replace hR:=zh hR;have F0:=Fr.refl base w;have nK:=mN.q.lim;have pk:=mN.q.le;have rj:=h0.glt;have mH:=h0.base;have ma:=zh (λg=>h0.ivlt (g:=g));have nJ:=zh (enters_of (P:=prog) func197 (by kernel_rfl) rfl);have HT:=zh (qL h0);have HS:=zh (λ(W:World) (hb:Below w.heap.size w W)=>VV (h0.below hb) 2);replace hr:=zh ((yu (show YU E mI=.ok (zw E mI) mI from rfl)).symm.trans hr.q);have mD:=zh (λ(h:((zw E mI).kind == 2)=true)=>qw (E:=E) (s:=mI) (k:=2) (by simpa using h) (by decide));generalize zw E mI=t at *;obtain⟨k1,t1,a1⟩:=t;unfold uu at HT;go_enter func197,ntmps197;go_wp2_with fail;refine HT.q.mono ?_;rintro e w1 ⟨rfl,mF⟩;have ro:Below w.heap.size w w1:=zg bR mF;have hA:=zf w1 (.cells #[.int .u8 k1,.string ⟨t1.toArray⟩,.int .i64 a1] 66 (0,0));have mY:=zk w1 (.cells #[.int .u8 k1,.string ⟨t1.toArray⟩,.int .i64 a1] 66 (0,0));have mM:=ro.trans (hA.mono ro.size);go_wp2_with fail;refine (HS.q _ mM).mono ?_;rintro e w2 ⟨rfl,mU⟩;have mQ:=zg mM mU;have h2:=h0.below mQ;have F2:=Fr.of_below h0.base mQ;have T2:Fr base (w1.alloc (.cells #[.int .u8 k1,.string ⟨t1.toArray⟩,.int .i64 a1] 66 (0,0))) w2:=Fr.of_below (by have:=mM.size;omega) mU;have mT:=T2.keep _ _ _ _ mY (by decide) (by decide);have BD:=zd mT 1;have BE:=zd mT 2;cases hk:(k1 == 2) with
 |true=>
  have pf:=mD.q hk;obtain⟨c4,f4,h3,f3⟩:=h2.skip;have mS:zT 84 t1 0 a1 [] E {mI with next:=mI.next+1}=r:=by
   have:=hr.q;rw[if_pos (by exact hk)] at this;exact this
  replace hr:=zh mS;have hy:=pF ((mI.next:Int)+1) (by omega);have rK:=f3.keep _ _ _ _ mT (by decide) (by decide);have Mv:=zd rK 1;have Mw:=zd rK 2;have F3:=F2.trans f3;have mE:mI.nz.length<=1000000:=by have:=mN.q.few;omega
  clear mY mT rK;go_wp2_with fail;refine zX hr (zE h3 84 t1 0 a1 [] _ (KS.nil' _) xM (by exact mE)) F3 (Fr.refl _ _) ?_;rintro w4 x4 aN az rfl h4 f4 F4;go_wp2;go_ret;exact⟨⟨_,rfl,rfl⟩,h4,F4⟩
 |false=>
  have mS:kw R ⟨k1,t1,a1⟩ kws E mI=r:=by
   have:=hr.q;rw[if_neg (by rw[hk];decide)] at this;exact this
  have mK:zmO E base pb iv G R ⟨k1,t1,a1⟩ w _ mI r (.int .i64 0) w2:=⟨0,by decide,rfl,mS,h2,F2,T2⟩;replace mK:=zh mK;replace mY:=zh mY;clear hr mS h2 F2 T2 mT BD BE;go_wp2;go_loopw [25] (zmO E base pb iv G R ⟨k1,t1,a1⟩ w (w1.alloc (.cells #[.int .u8 k1,.string ⟨t1.toArray⟩,.int .i64 a1] 66 (0,0))) mI r) (λi _=>4-(intOf i).toNat)
  case atStart=>exact mK.q
  case round=>
   obtain⟨k,pj,rfl,aj,h5,F5,T5⟩:=hrel;have rm:=mN;obtain rfl|rfl|rfl|rfl|rfl:k=0\/k=1\/k=2\/k=3\/k=4:=by omega
   ·replace hr:=zh (show (do if <-yo [105,110,116] then zT 80 [] 0 a1 [] else kw R ⟨k1,t1,a1⟩ (kws.drop (0+1)):PM Int) E mI=r from aj);have bU:=znu;simp only[List.toArray] at bU;go_wp2_with fail;refine Xu hr (yC h5 (by omega) [105,110,116]) F5 (Fr.refl _ _) rm ?_;clear hr;intro w6 x6 pm tI h6 f6 F6 n6 rn tG hr;have T6:=T5.trans f6;cases x6 with
    |true=>
     replace hr:=zh ((if_pos (rfl:true=true)▸hr.q:_));have eK:=zd (T6.keep _ _ _ _ mY.q (by decide) (by decide)) 2;have mE:pm.nz.length<=1000000:=by have:=rn.q.few;omega
     go_wp2_with fail;refine zX hr (zE h6 80 [] 0 a1 [] _ (KS.nil' _) xM mE) F6 (Fr.refl _ _) ?_;rintro w7 x7 ta so rfl h7 f7 F7;go_wp2;go_ret;exact⟨⟨_,rfl,rfl⟩,h7,F7⟩
    |false=>
     have mK:pm=mI:=yz tI;subst mK;replace hr:=zh (show kw R ⟨k1,t1,a1⟩ (kws.drop (0+1)) E pm=r from hr.q);go_wp2;go_roundw
     case rel=>exact⟨0+1,by decide,rfl,hr.q,h6,F6,T6⟩
     case measure=>decide
   ·replace hr:=zh (show (do if <-yo [98,111,111,108] then zT 81 [] 0 a1 [] else kw R ⟨k1,t1,a1⟩ (kws.drop (1+1)):PM Int) E mI=r from aj);have bU:=znt;simp only[List.toArray] at bU;go_wp2_with fail;refine Xu hr (yC h5 (by omega) [98,111,111,108]) F5 (Fr.refl _ _) rm ?_;clear hr;intro w6 x6 pm tI h6 f6 F6 n6 rn tG hr;have T6:=T5.trans f6;cases x6 with
    |true=>
     replace hr:=zh ((if_pos (rfl:true=true)▸hr.q:_));have eK:=zd (T6.keep _ _ _ _ mY.q (by decide) (by decide)) 2;have mE:pm.nz.length<=1000000:=by have:=rn.q.few;omega
     go_wp2_with fail;refine zX hr (zE h6 81 [] 0 a1 [] _ (KS.nil' _) xM mE) F6 (Fr.refl _ _) ?_;rintro w7 x7 ta so rfl h7 f7 F7;go_wp2;go_ret;exact⟨⟨_,rfl,rfl⟩,h7,F7⟩
    |false=>
     have mK:pm=mI:=yz tI;subst mK;replace hr:=zh (show kw R ⟨k1,t1,a1⟩ (kws.drop (1+1)) E pm=r from hr.q);go_wp2;go_roundw
     case rel=>exact⟨1+1,by decide,rfl,hr.q,h6,F6,T6⟩
     case measure=>decide
   ·replace hr:=zh (show (do if <-yo [116,101,120,116] then zT 82 [] 0 a1 [] else kw R ⟨k1,t1,a1⟩ (kws.drop (2+1)):PM Int) E mI=r from aj);have bU:=zns;simp only[List.toArray] at bU;go_wp2_with fail;refine Xu hr (yC h5 (by omega) [116,101,120,116]) F5 (Fr.refl _ _) rm ?_;clear hr;intro w6 x6 pm tI h6 f6 F6 n6 rn tG hr;have T6:=T5.trans f6;cases x6 with
    |true=>
     replace hr:=zh ((if_pos (rfl:true=true)▸hr.q:_));have eK:=zd (T6.keep _ _ _ _ mY.q (by decide) (by decide)) 2;have mE:pm.nz.length<=1000000:=by have:=rn.q.few;omega
     go_wp2_with fail;refine zX hr (zE h6 82 [] 0 a1 [] _ (KS.nil' _) xM mE) F6 (Fr.refl _ _) ?_;rintro w7 x7 ta so rfl h7 f7 F7;go_wp2;go_ret;exact⟨⟨_,rfl,rfl⟩,h7,F7⟩
    |false=>
     have mK:pm=mI:=yz tI;subst mK;replace hr:=zh (show kw R ⟨k1,t1,a1⟩ (kws.drop (2+1)) E pm=r from hr.q);go_wp2;go_roundw
     case rel=>exact⟨2+1,by decide,rfl,hr.q,h6,F6,T6⟩
     case measure=>decide
   ·replace hr:=zh (show (do if <-yo [117,110,105,116] then zT 83 [] 0 a1 [] else kw R ⟨k1,t1,a1⟩ (kws.drop (3+1)):PM Int) E mI=r from aj);have bU:=znr;simp only[List.toArray] at bU;go_wp2_with fail;refine Xu hr (yC h5 (by omega) [117,110,105,116]) F5 (Fr.refl _ _) rm ?_;clear hr;intro w6 x6 pm tI h6 f6 F6 n6 rn tG hr;have T6:=T5.trans f6;cases x6 with
    |true=>
     replace hr:=zh ((if_pos (rfl:true=true)▸hr.q:_));have eK:=zd (T6.keep _ _ _ _ mY.q (by decide) (by decide)) 2;have mE:pm.nz.length<=1000000:=by have:=rn.q.few;omega
     go_wp2_with fail;refine zX hr (zE h6 83 [] 0 a1 [] _ (KS.nil' _) xM mE) F6 (Fr.refl _ _) ?_;rintro w7 x7 ta so rfl h7 f7 F7;go_wp2;go_ret;exact⟨⟨_,rfl,rfl⟩,h7,F7⟩
    |false=>
     have mK:pm=mI:=yz tI;subst mK;replace hr:=zh (show kw R ⟨k1,t1,a1⟩ (kws.drop (3+1)) E pm=r from hr.q);go_wp2;go_roundw
     case rel=>exact⟨3+1,by decide,rfl,hr.q,h6,F6,T6⟩
     case measure=>decide
   ·replace hr:=zh (show kw R ⟨k1,t1,a1⟩ [] E mI=r from aj);unfold kw at hr;go_wp2_with fail;refine Xu hr (yC h5 (by omega) [99,104,97,110]) F5 (Fr.refl _ _) rm ?_;clear hr;intro w6 x6 pm tI h6 f6 F6 n6 rn tG hr;have T6:=T5.trans f6;cases x6 with
    |true=>
     replace hr:=zh ((if_pos (rfl:true=true)▸hr.q:_));have eK:=T6.keep _ _ _ _ mY.q (by decide) (by decide);have hS:∀W,(xg base).rel w6.drew W->W.cell? ⟨w1.heap.size,2,none⟩=some (.int .i64 a1):=λW hF=>zd (hF.keep _ _ _ _ eK (by decide) (by decide)) 2
     clear eK;go_wp2_with fail;refine LodeX.xC (RR:=xg base) (Xp:=XP base r w) [(0,0),(1,0),(2,1),(3,0),(4,2),(5,2),(6,2),(7,0)] ?_;refine LodeX.xt ?_;have aJ:E.tz.length-pm.next<n:=by have:=yR tI;omega
     refine LodeX.callX λK hK=>?_
     go_simp;refine Jk hr (hR.q.kind _ _ _ (h6.below bR.drew) rn.q aJ) F6 ((Fr.of_below h6.base bR.drew)) ?_;clear hr;intro w7 x7 ta so h7 f7 F7 hr;refine⟨f7,hK _ _ ?_⟩;clear hK K;have hS:=λW (hF:(xg base).rel w7 W)=>hS W (Fr.trans f7 hF)
     try simp only[Act.put,yh,yf,yg]
     obtain⟨n7,Ro⟩:=hR.q.good.kind rn.q.le rn.q.wf so;have pa:=rn.q.nx n7 (by decide);have mE:ta.nz.length<=1000000:=by have:=pa.few;have:=pa.le;omega
     refine LodeX.callX λK hK=>?_
     go_simp;refine⟨Fr.of_below h7.base (zf _ _),hK _ _ ?_⟩;clear hK K
     try simp only[Act.put,yh,yf,yg]
     refine LodeX.callX λK hK=>?_
     go_simp;refine zX hr (zE (h7.below (zf _ _)) 86 [] 0 a1 [x7] _ (KS.lit _ [x7]) (h7.fresh _ _) mE) F7 (Fr.of_below h7.base (zf _ _)) ?_;rintro w8 x8 aO su rfl h8 f8 F8;refine⟨f8,hK _ _ ?_⟩;clear hK K
     try simp only[Act.put,yh,yf,yg]
     refine LodeX.xt ?_;refine LodeX.zF λW hW=>?_
     cases hW;clear hS;go_wp2;go_ret;exact⟨⟨_,rfl,rfl⟩,h8,F8⟩
    |false=>
     have mK:pm=mI:=yz tI;subst mK;have bg:=hr.q;rw[if_neg (by decide)] at bg;replace hr:=zh bg;clear bg;have h5:=h6;have F5:=F6;have T5:=T6;have rm:=rn;clear tI n6 f6;go_wp2_with fail;refine Xu hr (yC h5 (by omega) [119,101,97,107]) F5 (Fr.refl _ _) rm ?_;clear hr;intro wc xc stc Wl hc fc Fc nc Ms EL hr;have Tc:=T5.trans fc;cases xc with
     |true=>
      replace hr:=zh ((if_pos (rfl:true=true)▸hr.q:_));have eK:=Tc.keep _ _ _ _ mY.q (by decide) (by decide);have hS:∀W,(xg base).rel wc.drew W->W.cell? ⟨w1.heap.size,2,none⟩=some (.int .i64 a1):=λW hF=>zd (hF.keep _ _ _ _ eK (by decide) (by decide)) 2
      clear eK;go_wp2_with fail;refine LodeX.xC (RR:=xg base) (Xp:=XP base r w) [(0,0),(1,0),(2,1),(3,0),(4,2),(5,2),(6,2),(7,0)] ?_;refine LodeX.xt ?_;have aJ:E.tz.length-stc.next<n:=by have:=yR Wl;omega
      refine LodeX.callX λK hK=>?_
      go_simp;refine Jk hr (hR.q.kind _ _ _ (hc.below bR.drew) Ms.q aJ) Fc ((Fr.of_below hc.base bR.drew)) ?_;clear hr;intro w7 x7 ta so h7 f7 F7 hr;refine⟨f7,hK _ _ ?_⟩;clear hK K;have hS:=λW (hF:(xg base).rel w7 W)=>hS W (Fr.trans f7 hF)
      try simp only[Act.put,yh,yf,yg]
      obtain⟨n7,Ro⟩:=hR.q.good.kind Ms.q.le Ms.q.wf so;have pa:=Ms.q.nx n7 (by decide);have mE:ta.nz.length<=1000000:=by have:=pa.few;have:=pa.le;omega
      refine LodeX.callX λK hK=>?_
      go_simp;refine⟨Fr.of_below h7.base (zf _ _),hK _ _ ?_⟩;clear hK K
      try simp only[Act.put,yh,yf,yg]
      refine LodeX.callX λK hK=>?_
      go_simp;refine zX hr (zE (h7.below (zf _ _)) 87 [] 0 a1 [x7] _ (KS.lit _ [x7]) (h7.fresh _ _) mE) F7 (Fr.of_below h7.base (zf _ _)) ?_;rintro w8 x8 aO su rfl h8 f8 F8;refine⟨f8,hK _ _ ?_⟩;clear hK K
      try simp only[Act.put,yh,yf,yg]
      refine LodeX.xt ?_;refine LodeX.zF λW hW=>?_
      cases hW;clear hS;go_wp2;go_ret;exact⟨⟨_,rfl,rfl⟩,h8,F8⟩
     |false=>
      have mK:stc=_:=yz Wl;subst mK;have bg:=hr.q;rw[if_neg (by decide)] at bg;replace hr:=zh bg;clear bg;have hts6:=Tc.b.size;go_wp2_with fail;refine jC hr (zy hc (by omega) [102,110]) Fc (Fr.refl _ _) Ms (zq) ?_;clear hr;intro w9 x9 bH bX h9 f9 F9 n9 rF eU NM hr;have NM:=n9.adv;go_wp2_with fail;refine jC hr (zy h9 (by omega) [40]) F9 (Fr.refl _ _) rF (zq) ?_;clear hr;intro nB rG rh rJ mR nI mi tj pw dy eN hr;have eN:=tj.adv;have PA:=(Tc.trans f9).trans nI;go_wp2_with fail;refine (kB mR [41]).mono ?_;rintro e fC ⟨rfl,bP⟩;have bP:=zg (zf nB _) bP;have hi:=mR.below bP;have Fi:=mi.trans (Fr.of_below mR.base bP);have Ti:=PA.trans (Fr.of_below mR.base bP);have MK:=bP.size;cases hk:xO (zw E rh) [[41]] with
      |true=>
       obtain⟨aV,Mj⟩:∃x2:List Int,[]=x2:=⟨_,rfl⟩;replace hr:=zh ((yu (VT hk Mj)).symm.trans hr.q);have gY:=Nx.refl pw.q.le pw.q.wf;have rx:=pw;have mh:=hi.gnil;have mx:=Fi;have Rp:=Ti;have cj:=zh (jT fC nB.heap.size Mj);have l12:aV.length<=E.tz.length+1:=by rw[<-Mj];exact pU _
       clear Mj;have fj:=rx.q.le;go_wp2_with fail;refine jC hr (zy mh (by omega) [41]) mx (Fr.refl _ _) rx (zq) ?_;clear hr;intro cn rz bt da nN ru ng Ab bp fl Pe hr;go_wp2_with fail;refine jC hr (zy nN (by omega) [58]) ng (Fr.refl _ _) bp (zq) ?_;clear hr;intro ee eG Rm EP nY cE rQ Iy bq WW De hr;have Dc:=gY.next;have CS:=(Rp.trans ru).trans cE;have Rk:=zP (zP cj.q ru (by decide) (by decide)) cE (by decide) (by decide);replace Rk:=zh Rk;have FG:w1.heap.size+1<=nB.heap.size:=by have:=PA.b.size;simp at this;omega
       have AX:=CS.keep _ _ _ _ mY.q (by decide) (by decide);have hS:∀W,FrB base nB.heap.size ee.drew W->W.cell? ⟨w1.heap.size,2,none⟩=some (.int .i64 a1):=λW hF=>zd (hF.keep _ _ _ _ (by omega) AX (by decide) (by decide)) 2
       clear AX;go_wp2_with fail;refine LodeX.xC (RR:=zow base nB.heap.size) (Xp:=XP base r w) [(0,0),(1,0),(2,1),(3,0),(4,0),(5,2),(6,2),(7,2),(8,2),(9,0)] ?_;refine LodeX.xt ?_;have aJ:E.tz.length-Rm.next<n:=by omega
       refine LodeX.callX λK hK=>?_
       go_simp;refine Jk hr (hR.q.kind _ _ _ (nY.below bR.drew) bq.q aJ) rQ ((Fr.of_below nY.base bR.drew)) ?_;clear hr;intro eF bu Rn RG rA aW sI hr;refine⟨aW.cut,hK _ _ ?_⟩;clear hK K;have hS:=λW (hF:FrB base _ eF W)=>hS W (FrB.trans aW.cut hF)
       try simp only[Act.put,yh,yf,yg]
       obtain⟨Ac,GB⟩:=hR.q.good.kind bq.q.le bq.q.wf RG;have ga:=bq.q.nx Ac (by decide);have mE:Rn.nz.length<=1000000:=by have:=ga.few;have:=ga.le;omega
       have Mr:=zP (zm Rk.q bR.drew) aW (by decide) (by decide);have RT:=mi.b.size;have Eu:nB.heap.size<=eF.heap.size:=by have:=ru.b.size;have:=cE.b.size;have:ee.heap.size<=eF.heap.size:=aW.b.size;omega
       refine LodeX.callX λK hK=>?_
       go_simp;refine⟨(Fr.of_below rA.base (zf _ _)).cut,hK _ _ ?_⟩;clear hK K
       try simp only[Act.put,yh,yf,yg]
       have Tv:=rA.base;have AE:=sI.b.size;refine LodeX.callX λK hK=>?_
       refine yE _ _ rfl (by rfl) (zm Mr (zf _ _)) (by rfl) (zd (zk eF _) 0) rfl rfl (by omega) (by simp;omega) ?_;intro g' cap' MB mC mA mJ;obtain⟨v16,Sx,di,rM,DC,dB⟩:=xq rA Mr (by omega) (λg hg=>by have:=ma.q g hg;omega) mC mA (mJ.imp id (λh=>by simpa using h));rw[Sx];refine⟨FrB.grow mA (by simp;omega) (λk hk=>⟨by have:=((Mr).lt k hk).1;omega,((Mr).lt k hk).1⟩),hK _ _ ?_⟩;clear hK K;replace di:=zh di;replace dB:=zh dB;clear mC mA mJ Sx
       try simp only[Act.put,yh,yf,yg]
       have sJ:=dB.q w sI RT mH;refine LodeX.callX λK hK=>?_
       go_simp;refine zX hr (zE rM.ungw 85 [] 0 a1 (aV ++ [bu]) _ (KS.own di.q) (yM di.q (λg hg=>by have:=rj g hg;omega)) mE) sJ ((Fr.refl _ _)) ?_;rintro CH fD Fy EQ rfl td PJ bI;refine⟨PJ.cut,hK _ _ ?_⟩;clear hK K
       try simp only[Act.put,yh,yf,yg]
       refine LodeX.xt ?_;refine LodeX.zF λW hW=>?_
       cases hW;clear hS;go_wp2;go_ret;exact⟨⟨_,rfl,rfl⟩,td,bI⟩
      |false=>
       replace hr:=zh ((uR (JG hk)).symm.trans hr.q);have ms:=Fi;have mX:=hi;have px:=pw;have T11:=Ti;have aZ:=MK;clear MK;go_wp2_with fail;refine lgo hr (YY hR.q.kind hR.q.good.kind nJ.q mX px.q (by omega)) ms (Fr.refl _ _) ?_;clear hr;intro fC aV gq CD l12 cj gG mh sZ mx hr;obtain⟨gY,vl12⟩:=jg hR.q.good.kind px.q.le px.q.wf gG;have rx:=zh (px.q.nx gY (by decide));have Rp:=T11.trans sZ;have MK:=pN aZ sZ.b.size;replace cj:=zh (xD cj aZ);have fj:=rx.q.le;go_wp2_with fail;refine jC hr (zy mh (by omega) [41]) mx (Fr.refl _ _) rx (zq) ?_;clear hr;intro cn rz bt da nN ru ng Ab bp fl Pe hr;go_wp2_with fail;refine jC hr (zy nN (by omega) [58]) ng (Fr.refl _ _) bp (zq) ?_;clear hr;intro ee eG Rm EP nY cE rQ Iy bq WW De hr;have Dc:=gY.next;have CS:=(Rp.trans ru).trans cE;have Rk:=zP (zP cj.q ru (by decide) (by decide)) cE (by decide) (by decide);replace Rk:=zh Rk;have FG:w1.heap.size+1<=nB.heap.size:=by have:=PA.b.size;simp at this;omega
       have AX:=CS.keep _ _ _ _ mY.q (by decide) (by decide);have hS:∀W,FrB base nB.heap.size ee.drew W->W.cell? ⟨w1.heap.size,2,none⟩=some (.int .i64 a1):=λW hF=>zd (hF.keep _ _ _ _ (by omega) AX (by decide) (by decide)) 2
       clear AX;go_wp2_with fail;refine LodeX.xC (RR:=zow base nB.heap.size) (Xp:=XP base r w) [(0,0),(1,0),(2,1),(3,0),(4,0),(5,2),(6,2),(7,2),(8,2),(9,0)] ?_;refine LodeX.xt ?_;have aJ:E.tz.length-Rm.next<n:=by omega
       refine LodeX.callX λK hK=>?_
       go_simp;refine Jk hr (hR.q.kind _ _ _ (nY.below bR.drew) bq.q aJ) rQ ((Fr.of_below nY.base bR.drew)) ?_;clear hr;intro eF bu Rn RG rA aW sI hr;refine⟨aW.cut,hK _ _ ?_⟩;clear hK K;have hS:=λW (hF:FrB base _ eF W)=>hS W (FrB.trans aW.cut hF)
       try simp only[Act.put,yh,yf,yg]
       obtain⟨Ac,GB⟩:=hR.q.good.kind bq.q.le bq.q.wf RG;have ga:=bq.q.nx Ac (by decide);have mE:Rn.nz.length<=1000000:=by have:=ga.few;have:=ga.le;omega
       have Mr:=zP (zm Rk.q bR.drew) aW (by decide) (by decide);have RT:=mi.b.size;have Eu:nB.heap.size<=eF.heap.size:=by have:=ru.b.size;have:=cE.b.size;have:ee.heap.size<=eF.heap.size:=aW.b.size;omega
       refine LodeX.callX λK hK=>?_
       go_simp;refine⟨(Fr.of_below rA.base (zf _ _)).cut,hK _ _ ?_⟩;clear hK K
       try simp only[Act.put,yh,yf,yg]
       have Tv:=rA.base;have AE:=sI.b.size;refine LodeX.callX λK hK=>?_
       refine yE _ _ rfl (by rfl) (zm Mr (zf _ _)) (by rfl) (zd (zk eF _) 0) rfl rfl (by omega) (by simp;omega) ?_;intro g' cap' MB mC mA mJ;obtain⟨v16,Sx,di,rM,DC,dB⟩:=xq rA Mr (by omega) (λg hg=>by have:=ma.q g hg;omega) mC mA (mJ.imp id (λh=>by simpa using h));rw[Sx];refine⟨FrB.grow mA (by simp;omega) (λk hk=>⟨by have:=((Mr).lt k hk).1;omega,((Mr).lt k hk).1⟩),hK _ _ ?_⟩;clear hK K;replace di:=zh di;replace dB:=zh dB;clear mC mA mJ Sx
       try simp only[Act.put,yh,yf,yg]
       have sJ:=dB.q w sI RT mH;refine LodeX.callX λK hK=>?_
       go_simp;refine zX hr (zE rM.ungw 85 [] 0 a1 (aV ++ [bu]) _ (KS.own di.q) (yM di.q (λg hg=>by have:=rj g hg;omega)) mE) sJ ((Fr.refl _ _)) ?_;rintro CH fD Fy EQ rfl td PJ bI;refine⟨PJ.cut,hK _ _ ?_⟩;clear hK K
       try simp only[Act.put,yh,yf,yg]
       refine LodeX.xt ?_;refine LodeX.zF λW hW=>?_
       cases hW;clear hS;go_wp2;go_ret;exact⟨⟨_,rfl,rfl⟩,td,bI⟩
