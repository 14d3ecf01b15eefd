/-
  A part of the proof: contracts of functions; no conditions.
-/
import Derived.Test.YtnncmdpopgkibaaGreatDoorKC
set_option maxRecDepth 100000
set_option maxHeartbeats 40000000
set_option linter.unusedSimpArgs false
set_option linter.unusedVariables false
namespace Lode
structure Nd where
 kind:Nat
 text:List UInt8
 n:Int
 kids:List Int
 at_:Int
 deriving DecidableEq
structure zY where
 nodes:List Nd
 items:List Int
 next:Nat
structure zv where
 toks:List yp
 len:Nat
inductive qw (α:Type) where
 |ok (a:α) (s:zY):qw α
 |bad (p:Int):qw α
def PM(α:Type):Type:=zv->zY->qw α
def PM.ret{α:Type}(a:α):PM α:=fun _ s=>.ok a s
def PM.bind{α β:Type}(m:PM α)(f:α->PM β):PM β:=fun E s=>match m E s with
 | .ok a s'=>f a E s'
 | .bad p=>.bad p
instance:Monad PM where
 pure:=PM.ret
 bind:=PM.bind
def zy(E:zv)(s:zY):yp:=(E.toks[s.next]?).getD ⟨0,[],E.len⟩
def qP:PM yp:=fun E s=>.ok (zy E s) s
def kL{α:Type}:PM α:=fun E s=>.bad (zy E s).at_
def uq(t:yp)(l:List (List UInt8)):Bool:=(t.kind == 5 || t.kind == 6) && l.contains t.text
def uU(l:List (List UInt8)):PM Bool:=fun E s=>.ok (uq (zy E s) l) s
def jD:PM Unit:=fun _ s=>.ok () {s with next:=s.next+1}
def vU:PM yp:=fun E s=>.ok (zy E s) {s with next:=s.next+1}
def zL(x:List UInt8):PM yp:=fun E s=>if uq (zy E s) [x] then .ok (zy E s) {s with next:=s.next+1} else .bad (zy E s).at_
def xr(k:Nat):PM yp:=fun E s=>if (zy E s).kind == k then .ok (zy E s) {s with next:=s.next+1} else .bad (zy E s).at_
def yu(x:List UInt8):PM Bool:=fun E s=>if uq (zy E s) [x] then .ok true {s with next:=s.next+1} else .ok false s
def zG(kind:Nat)(text:List UInt8)(n at_:Int)(kids:List Int):PM Int:=fun _ s=>.ok s.nodes.length {s with nodes:=s.nodes ++ [⟨kind,text,n,kids,at_⟩]}
def YJ(k:Int):PM Nat:=fun _ s=>.ok ((s.nodes[k.toNat]?).elim 0 Nd.kind) s
def qm:Nat->PM Int->List Int->PM (List Int)
 |0,_,_=>fun _ _=>.bad 0
 |k+1,part,acc=>do
  let x <-part
  if <-yu [44] then qm k part (acc ++ [x]) else pure (acc ++ [x])
def kC(part:PM Int):PM (List Int):=fun E s=>qm (E.toks.length+1) part [] E s
def xQ(part:PM Int):PM (List Int):=do
 let _ <-zL [123]
 let l <-kC part
 let _ <-zL [125]
 pure l
def qk(part:PM Int):PM (List Int):=do
 if <-yu [40] then
  let l <-kC part
  let _ <-zL [41]
  pure l
 else pure []
structure xN where
 expr:PM Int
 unary:PM Int
 bin2:PM Int
 block:PM Int
 branch:PM Int
 kind:PM Int
 pattern:PM Int
def jE(R:xN):PM Int:=do
 let t <-xr 1
 let _ <-zL [58]
 let k <-R.kind
 zG 88 t.text 0 t.at_ [k]
def ul(R:xN):PM Int:=do
 let t <-xr 2
 let l <-qk R.kind
 zG 89 t.text 0 t.at_ l
def vA(R:xN):PM (List Int):=do
 let _ <-zL [40]
 let l <-(do if <-uU [[41]] then pure [] else kC (jE R):PM (List Int))
 let _ <-zL [41]
 let _ <-zL [58]
 let k <-R.kind
 pure (l ++ [k])
def vG(R:xN):PM Int:=do
 let t <-qP
 if t.kind == 2 then
  jD
  zG 84 t.text 0 t.at_ []
 else if <-yu [105,110,116] then zG 80 [] 0 t.at_ []
 else if <-yu [98,111,111,108] then zG 81 [] 0 t.at_ []
 else if <-yu [116,101,120,116] then zG 82 [] 0 t.at_ []
 else if <-yu [117,110,105,116] then zG 83 [] 0 t.at_ []
 else if <-yu [99,104,97,110] then
  let k <-R.kind
  zG 86 [] 0 t.at_ [k]
 else if <-yu [119,101,97,107] then
  let k <-R.kind
  zG 87 [] 0 t.at_ [k]
 else
  let _ <-zL [102,110]
  let _ <-zL [40]
  let l <-(do if <-uU [[41]] then pure [] else kC R.kind:PM (List Int))
  let _ <-zL [41]
  let _ <-zL [58]
  let k <-R.kind
  zG 85 [] 0 t.at_ (l ++ [k])
def vw(R:xN):PM (Int×Bool):=do
 let t <-qP
 if <-yu [108,101,116] then
  let m <-xr 1
  let _ <-zL [61]
  let x <-R.expr
  let r <-zG 60 m.text 0 t.at_ [x]
  pure (r,false)
 else if <-yu [118,97,114] then
  let m <-xr 1
  let _ <-zL [61]
  let x <-R.expr
  let r <-zG 61 m.text 0 t.at_ [x]
  pure (r,false)
 else
  let left <-R.expr
  if <-uU [[58,61]] then
   let k <-YJ left
   if k == 5 || k == 23 then
    let u <-vU
    let x <-R.expr
    let r <-zG 62 [] 0 u.at_ [left,x]
    pure (r,false)
   else kL
  else pure (left,true)
def yR(R:xN):Nat->List Int->PM (List Int×Int)
 |0,_=>fun _ _=>.bad 0
 |k+1,acc=>do
  if <-uU [[125]] then pure (acc,0)
  else
   let x <-vw R
   if x.2 && (<-uU [[125]]) then pure (acc ++ [x.1],1)
   else
    let _ <-zL [59]
    yR R k (acc ++ [x.1])
def qE(R:xN):PM Int:=do
 let t <-zL [123]
 let x <-(fun E s=>yR R (E.toks.length+1) [] E s:PM (List Int×Int))
 let _ <-zL [125]
 zG 28 [] x.2 t.at_ x.1
def yS:Nat->List (List UInt8)
 |0=>[[111,114]]
 |1=>[[97,110,100]]
 |2=>[[61,61],[33,61],[60],[60,61],[62],[62,61],[105,115]]
 |3=>[[43],[45],[43,43]]
 |_=>[[42],[47],[37]]
def jk:Nat->List Nat
 |0=>[22]
 |1=>[21]
 |2=>[14,15,16,17,18,19,20]
 |3=>[8,9,10]
 |_=>[11,12,13]
def Qj(at_:Nat)(t:List UInt8):Nat:=(jk at_).getD ((yS at_).idxOf t) 0
def uR(at_:Nat)(tight:PM Int):Nat->Int->PM Int
 |0,_=>fun _ _=>.bad 0
 |k+1,left=>do
  if <-uU (yS at_) then
   let t <-vU
   let r <-tight
   let x <-zG (Qj at_ t.text) [] 0 t.at_ [left,r]
   if at_ == 2 then pure x else uR at_ tight k x
  else pure left
def uy(at_:Nat)(tight:PM Int):PM Int:=do
 let left <-tight
 (fun E s=>uR at_ tight (E.toks.length+1) left E s:PM Int)
def zM:List (List UInt8×Nat×Int):=[([105,110],44,0),([121,105,101,108,100],45,0),([99,111,108,108,101,99,116],46,0),([115,101,110,100],41,2),([114,101,99,118],42,1),([111,117,116],43,1),([115,105,122,101],47,1),([115,104,111,119],50,1),([114,101,97,100],51,1),([98,121,116,101],48,2),([99,117,116],49,3),([116,104,114,111,119],37,-1),([115,112,97,119,110],38,-1),([119,101,97,107],39,-1)]
def xV(s:List UInt8):Option (Nat×Int):=(zM.find? fun w=>w.1 == s).map (·.2)
def qB(R:xN):Nat->Bool->List Int->PM (List Int)
 |0,_,acc=>pure acc
 |k+1,first,acc=>do
  let _ <-(do if first then pure () else (do let _ <-zL [44];pure ()):PM Unit)
  let x <-R.expr
  qB R k false (acc ++ [x])
def jK(R:xN)(t:yp)(w:Nat×Int):PM Int:=do
 let kids <-(do
  if w.2<0 then
   let x <-R.unary
   pure [x]
  else if 0<w.2 then
   let _ <-zL [40]
   let l <-qB R w.2.toNat true []
   let _ <-zL [41]
   pure l
  else pure []:PM (List Int))
 zG w.1 [] 0 t.at_ kids
def vC(t:yp):Int:=xR t.text
def Xa(R:xN):PM Int:=do
 let t <-xr 1
 let _ <-zL [58]
 let x <-R.expr
 zG 27 t.text 0 t.at_ [x]
def Xb(R:xN):PM Int:=do
 let p <-R.pattern
 let t <-zL [61,62]
 let x <-R.expr
 zG 32 [] 0 t.at_ [p,x]
def jf(R:xN):Nat->List Int->PM (List Int)
 |0,_=>fun _ _=>.bad 0
 |k+1,acc=>do
  let t <-qP
  if <-yu [114,101,99,118] then
   let x <-R.expr
   let _ <-zL [97,115]
   let m <-xr 1
   let _ <-zL [61,62]
   let y <-R.expr
   let r <-zG 63 m.text 0 t.at_ [x,y]
   if <-yu [44] then jf R k (acc ++ [r]) else pure (acc ++ [r])
  else if <-yu [115,101,110,100] then
   let x <-R.expr
   let _ <-zL [44]
   let y <-R.expr
   let _ <-zL [61,62]
   let z <-R.expr
   let r <-zG 64 [] 0 t.at_ [x,y,z]
   if <-yu [44] then jf R k (acc ++ [r]) else pure (acc ++ [r])
  else
   let _ <-zL [101,108,115,101]
   let _ <-zL [61,62]
   let x <-R.expr
   let r <-zG 65 [] 0 t.at_ [x]
   pure (acc ++ [r])
def jP(R:xN):PM (List Int):=do
 let _ <-zL [123]
 let l <-(fun E s=>jf R (E.toks.length+1) [] E s:PM (List Int))
 let _ <-zL [125]
 pure l
def qh(R:xN):PM Int:=do
 let t <-zL [105,102]
 let c <-R.expr
 let b <-R.block
 if <-yu [101,108,115,101] then
  if <-uU [[105,102]] then
   let x <-R.branch
   zG 29 [] 0 t.at_ [c,b,x]
  else
   let x <-R.block
   zG 29 [] 0 t.at_ [c,b,x]
 else zG 29 [] 0 t.at_ [c,b]
def yA(R:xN)(t:yp):PM Int:=do
 if <-uU [[105,102]] then qh R
 else if <-yu [119,104,105,108,101] then
  let c <-R.expr
  let b <-R.block
  zG 30 [] 0 t.at_ [c,b]
 else if <-yu [109,97,116,99,104] then
  let c <-R.expr
  let l <-xQ (Xb R)
  zG 31 [] 0 t.at_ (c :: l)
 else if <-yu [102,110] then
  let l <-vA R
  let b <-R.block
  zG 33 [] 0 t.at_ (l ++ [b])
 else if <-yu [116,114,121] then
  let b <-R.block
  let _ <-zL [99,97,116,99,104]
  let m <-xr 1
  let c <-R.block
  zG 34 m.text 0 t.at_ [b,c]
 else if <-yu [104,111,108,100] then
  let x <-R.expr
  let _ <-zL [97,115]
  let m <-xr 1
  let b <-R.block
  let _ <-zL [101,108,115,101]
  let c <-R.block
  zG 36 m.text 0 t.at_ [x,b,c]
 else if <-yu [110,101,119] then
  let m <-xr 2
  let l <-xQ (Xa R)
  zG 26 m.text 0 t.at_ l
 else if <-yu [99,104,97,110] then
  let k <-R.kind
  let _ <-zL [40]
  let m <-xr 3
  let _ <-zL [41]
  zG 40 [] (vC m) t.at_ [k]
 else
  let _ <-zL [115,101,108,101,99,116]
  let l <-jP R
  zG 35 [] 0 t.at_ l
def vB(R:xN):PM Int:=do
 let t <-qP
 if t.kind == 3 then
  jD
  zG 1 [] (vC t) t.at_ []
 else if t.kind == 4 then
  jD
  zG 2 t.text 0 t.at_ []
 else if t.kind == 1 then
  jD
  zG 5 t.text 0 t.at_ []
 else if t.kind == 2 then
  jD
  let l <-qk R.expr
  zG 25 t.text 0 t.at_ l
 else if <-yu [40] then
  if <-yu [41] then zG 4 [] 0 t.at_ []
  else
   let x <-R.expr
   let _ <-zL [41]
   pure x
 else if <-yu [116,114,117,101] then zG 3 [] 1 t.at_ []
 else if <-yu [102,97,108,115,101] then zG 3 [] 0 t.at_ []
 else match xV t.text with
  |some w=>if t.kind == 5 then (do jD;jK R t w) else yA R t
  |none=>yA R t
def jL(R:xN):Nat->Int->PM Int
 |0,_=>fun _ _=>.bad 0
 |k+1,left=>do
  let t <-qP
  if <-yu [46] then
   let m <-xr 1
   let x <-zG 23 m.text 0 t.at_ [left]
   jL R k x
  else if <-yu [40] then
   let l <-(do if <-uU [[41]] then pure [] else kC R.expr:PM (List Int))
   let _ <-zL [41]
   let x <-zG 24 [] 0 t.at_ (left :: l)
   jL R k x
  else pure left
def jc(R:xN):PM Int:=do
 if <-uU [[45]] then
  let t <-vU
  let x <-R.unary
  zG 6 [] 0 t.at_ [x]
 else
  let left <-vB R
  (fun E s=>jL R (E.toks.length+1) left E s:PM Int)
def zib(R:xN):PM Int:=uy 4 (jc R)
def KF(R:xN):PM Int:=uy 3 (zib R)
def kP(R:xN):PM Int:=do
 if <-uU [[110,111,116]] then
  let t <-vU
  let x <-R.bin2
  zG 7 [] 0 t.at_ [x]
 else uy 2 (KF R)
def zaj(R:xN):PM Int:=uy 0 (uy 1 (kP R))
def xI(R:xN):PM Int:=do
 let t <-qP
 if t.kind == 1 then
  jD
  zG 66 t.text 0 t.at_ []
 else if t.kind == 3 then
  jD
  zG 67 [] (vC t) t.at_ []
 else if t.kind == 4 then
  jD
  zG 68 t.text 0 t.at_ []
 else if t.kind == 2 then
  jD
  let l <-qk R.pattern
  zG 70 t.text 0 t.at_ l
 else if <-yu [116,114,117,101] then zG 69 [] 1 t.at_ []
 else if <-yu [102,97,108,115,101] then zG 69 [] 0 t.at_ []
 else
  let _ <-zL [45]
  let m <-xr 3
  zG 67 [] (-(vC m)) t.at_ []
def zjX:xN:=⟨fun _ _=>.bad 0,fun _ _=>.bad 0,fun _ _=>.bad 0,fun _ _=>.bad 0,fun _ _=>.bad 0,fun _ _=>.bad 0,fun _ _=>.bad 0⟩
def jA:Nat->xN
 |0=>zjX
 |n+1=>⟨zaj (jA n),jc (jA n),kP (jA n),qE (jA n),qh (jA n),vG (jA n),xI (jA n)⟩
def jT(R:xN):PM Int:=do
 let t <-qP
 if <-yu [99,108,97,115,115] then
  let m <-xr 2
  let l <-xQ (jE R)
  zG 100 m.text 0 t.at_ l
 else if <-yu [107,105,110,100] then
  let m <-xr 2
  let l <-xQ (ul R)
  zG 101 m.text 0 t.at_ l
 else if <-yu [101,120,116,101,114,110] then
  let _ <-zL [102,117,110]
  let m <-xr 1
  let l <-vA R
  let _ <-zL [59]
  zG 103 m.text 0 t.at_ l
 else if <-yu [114,111,111,116] then
  let m <-xr 1
  let _ <-zL [58]
  let k <-R.kind
  let _ <-zL [61]
  let x <-R.expr
  let _ <-zL [59]
  zG 104 m.text 0 t.at_ [k,x]
 else
  let pure_ <-yu [112,117,114,101]
  let _ <-zL [102,117,110]
  let m <-xr 1
  let l <-vA R
  let b <-R.block
  zG 102 m.text (if pure_ then 1 else 0) t.at_ (l ++ [b])
def qn(R:xN):Nat->PM Unit
 |0=>fun _ _=>.bad 0
 |k+1=>fun E s=>if s.next<E.toks.length then match jT R E s with
  | .ok i s'=>qn R k E {s' with items:=s'.items ++ [i]}
  | .bad p=>.bad p
  else .ok () s
def xO(l:List yp)(len:Nat):qw Unit:=qn (jA (l.length+1)) (l.length+1) ⟨l,len⟩ ⟨[],[],0⟩
def Vd(s:zY)(a:Int):Prop:=0<=a/\a<s.nodes.length
def WFs(s:zY):Prop:=∀(i:Nat) (x:Nd),s.nodes[i]? =some x->∀k∈x.kids,0<=k/\k<i
structure Nx(E:zv)(d:Int)(s s':zY):Prop where
 next:s.next<=s'.next
 le:s'.next<=E.toks.length
 cr:(s'.nodes.length:Int)-s.nodes.length+d<=(s'.next:Int)-s.next
 wf:WFs s'
 pre:∃r,s'.nodes=s.nodes ++ r
 it:s'.items=s.items
theorem Nx.refl{E:zv}{s:zY}(h:s.next<=E.toks.length)(hw:WFs s):Nx E 0 s s:=⟨pE _,h,by omega,hw,⟨[],(wN _).symm⟩,rfl⟩
theorem Nx.trans{E:zv}{d e:Int}{a b c:zY}(h:Nx E d a b)(k:Nx E e b c):Nx E (d+e) a c:=by
 obtain⟨r,hr⟩:=h.pre;obtain⟨q,hq⟩:=k.pre;have h1:=h.cr;have h2:=k.cr;exact⟨pN h.next k.next,k.le,by omega,k.wf,⟨r ++ q,by rw[hq,hr,wS]⟩,k.it.trans h.it⟩
theorem Nx.down{E:zv}{d e:Int}{a b:zY}(h:Nx E d a b)(hd:e<=d):Nx E e a b:=⟨h.next,h.le,by have:=h.cr;omega,h.wf,h.pre,h.it⟩
theorem Vd.later{E:zv}{d:Int}{s s':zY}{a:Int}(h:Vd s a)(n:Nx E d s s'):Vd s' a:=by
 obtain⟨r,hr⟩:=n.pre;refine⟨h.1,?_⟩;rw[hr,pC];have:=h.2;omega
def Gd{α:Type}(d:Int)(Q:zY->α->Prop)(m:PM α):Prop:=∀{E:zv} {s:zY} {a:α} {s':zY},s.next<=E.toks.length->WFs s->m E s=.ok a s'->Nx E d s s'/\Q s' a
theorem zm{α β:Type}{m:PM α}{f:α->PM β}{E:zv}{s s':zY}{b:β}(h:(m >>= f) E s=.ok b s'):∃a s1,m E s=.ok a s1/\f a E s1=.ok b s':=by
 change PM.bind m f E s=_ at h;unfold PM.bind at h;cases hm:m E s with
 |ok a s1=>rw[hm] at h;exact⟨a,s1,rfl,h⟩
 |bad p=>rw[hm] at h;cases h
theorem zD{α:Type}{a b:α}{E:zv}{s s':zY}(h:(pure a:PM α) E s=.ok b s'):b=a/\s'=s:=by
 change qw.ok a s=_ at h;cases h;exact⟨rfl,rfl⟩
theorem vQ{E:zv}{s:zY}{l:List (List UInt8)}(h:uq (zy E s) l=true):s.next<E.toks.length:=by
 rcases Nat.lt_or_ge s.next E.toks.length with h'|h'
 ·exact h'
 ·simp[uq,zy,wP h'] at h
theorem qQ{E:zv}{s:zY}{k:Nat}(h:(zy E s).kind=k)(hk:k≠0):s.next<E.toks.length:=by
 rcases Nat.lt_or_ge s.next E.toks.length with h'|h'
 ·exact h'
 ·simp[zy,wP h'] at h;exact absurd h.symm hk
theorem Xu{E:zv}{s:zY}(h:s.next<E.toks.length)(hw:WFs s):Nx E 1 s {s with next:=s.next+1}:=⟨Nat.le_succ _,h,by simp;omega,hw,⟨[],(wN _).symm⟩,rfl⟩
theorem zo{x:List UInt8}:Gd 1 (fun _ _=>True) (zL x):=by
 intro E s a s' h0 hw h;unfold zL at h;split at h
 ·rename_i hi;cases h;exact⟨Xu (vQ hi) hw,trivial⟩
 ·cases h
theorem yh{k:Nat}(hk:k≠0):Gd 1 (fun _ _=>True) (xr k):=by
 intro E s a s' h0 hw h;unfold xr at h;split at h
 ·rename_i hi;cases h;exact⟨Xu (qQ (by simpa using hi) hk) hw,trivial⟩
 ·cases h
theorem Zx{x:List UInt8}{E:zv}{s s':zY}{b:Bool}(h0:s.next<=E.toks.length)(hw:WFs s)(h:yu x E s=.ok b s'):Nx E (if b then 1 else 0) s s':=by
 unfold yu at h;split at h
 ·rename_i hi;cases h;exact Xu (vQ hi) hw
 ·cases h;exact Nx.refl h0 hw
theorem zjj{x:List UInt8}:Gd 0 (fun _ _=>True) (yu x):=by
 intro E s b s' h0 hw h;have:=Zx h0 hw h;cases b
 ·exact⟨this,trivial⟩
 ·exact⟨this.down (by decide),trivial⟩
theorem gb{α β:Type}{m:PM α}{f:α->PM β}{E:zv}{s0 s s':zY}{b:β}{d0 d:Int}{Q:zY->α->Prop}(h:(m >>= f) E s=.ok b s')(N:Nx E d0 s0 s)(g:Gd d Q m):∃a s1,Nx E d s s1/\Q s1 a/\Nx E (d0+d) s0 s1/\f a E s1=.ok b s':=by
 obtain⟨a,s1,h1,h⟩:=zm h;obtain⟨n,v⟩:=g N.le N.wf h1;exact⟨a,s1,n,v,N.trans n,h⟩
theorem gm{β:Type}{x:List UInt8}{f:Bool->PM β}{E:zv}{s0 s s':zY}{b:β}{d0:Int}(h:(yu x >>= f) E s=.ok b s')(N:Nx E d0 s0 s):∃a s1,Nx E (if a then 1 else 0) s s1/\yu x E s=.ok a s1/\Nx E (d0+if a then 1 else 0) s0 s1/\f a E s1=.ok b s':=by
 obtain⟨a,s1,h1,h⟩:=zm h;have n:=Zx N.le N.wf h1;exact⟨a,s1,n,h1,N.trans n,h⟩
theorem qJ{E:zv}{s0 s s':zY}{d0 d e:Int}{p:Prop}(N:Nx E d0 s0 s)(g:Nx E d s s'/\p)(he:e<=d0+d):Nx E e s0 s'/\p:=⟨(N.trans g.1).down he,g.2⟩
theorem zh5{l:List (List UInt8)}:Gd 0 (fun _ _=>True) (uU l):=by
 intro E s b s' h0 hw h;cases h;exact⟨Nx.refl h0 hw,trivial⟩
theorem zK{kind:Nat}{text:List UInt8}{n at_:Int}{kids:List Int}{E:zv}{s s':zY}{a:Int}(h0:s.next<=E.toks.length)(hw:WFs s)(hk:∀k∈kids,Vd s k)(h:zG kind text n at_ kids E s=.ok a s'):Nx E (-1) s s'/\Vd s' a:=by
 cases h;refine⟨⟨pE _,h0,by simp;omega,fun i x hx k hkm=>?_,⟨_,rfl⟩,rfl⟩,⟨by omega,by simp;omega⟩⟩;rw[List.getElem?_append] at hx;split at hx
 ·exact hw i x hx k hkm
 ·rename_i hi;have hz:i-s.nodes.length=0\/0<i-s.nodes.length:=by omega
  rcases hz with hz|hz
  ·rw[hz] at hx;cases hx;have:=hk k hkm;exact⟨this.1,by have:=this.2;omega⟩
  ·rw[wP (by simp;omega)] at hx;cases hx
structure yH(R:xN):Prop where
 expr:Gd 0 Vd R.expr
 unary:Gd 0 Vd R.unary
 bin2:Gd 0 Vd R.bin2
 block:Gd 0 Vd R.block
 branch:Gd 0 Vd R.branch
 kind:Gd 0 Vd R.kind
 pattern:Gd 0 Vd R.pattern
def JC(s:zY)(l:List Int):Prop:=∀k∈l,Vd s k
theorem JC.later{E:zv}{d:Int}{s s':zY}{l:List Int}(h:JC s l)(n:Nx E d s s'):JC s' l:=fun k hk=>(h k hk).later n
theorem JC.snoc{s:zY}{l:List Int}{a:Int}(h:JC s l)(ha:Vd s a):JC s (l ++ [a]):=fun k hk=>by
 rw[pX,wL] at hk;rcases hk with hk|rfl
 ·exact h k hk
 ·exact ha
theorem zcJ{part:PM Int}(hp:Gd 0 Vd part):∀(n:Nat) (acc:List Int) {E:zv} {s:zY} {a:List Int} {s':zY},s.next<=E.toks.length->WFs s->JC s acc->qm n part acc E s=.ok a s'->Nx E 0 s s'/\JC s' a
 |0,_,_,_,_,_,_,_,_,h=>by cases h
 |n+1,acc,E,s,a,s',h0,hw,ha,h=>by
  unfold qm at h;obtain⟨x,s1,h1,h⟩:=zm h;obtain⟨n1,v1⟩:=hp h0 hw h1;obtain⟨b,s2,h2,h⟩:=zm h;have n2:=Zx n1.le n1.wf h2;have n3:=n1.trans n2;have hacc:=(ha.later n3).snoc (v1.later n2);cases b with
  |true=>
   obtain⟨n4,v4⟩:=zcJ hp n (acc ++ [x]) n3.le n3.wf hacc h;exact⟨(n3.trans n4).down (by decide),v4⟩
  |false=>
   obtain⟨rfl,rfl⟩:=zD h;exact⟨n3.down (by decide),hacc⟩
theorem uG{part:PM Int}(hp:Gd 0 Vd part):Gd 0 JC (kC part):=fun h0 hw h=>zcJ hp _ [] h0 hw (fun k hk=>by cases hk) h
theorem JI{s:zY}:∀k∈([]:List Int),Vd s k:=fun k hk=>by cases hk
theorem YD{s:zY}{a:Int}(h:Vd s a):∀k∈[a],Vd s k:=fun k hk=>by
 rw[wL] at hk;rw[hk];exact h
theorem Jp{s:zY}{a:Int}{l:List Int}(h:Vd s a)(hl:∀k∈l,Vd s k):∀k∈a :: l,Vd s k:=fun k hk=>by
 rcases wD.1 hk with rfl|hk
 ·exact h
 ·exact hl k hk
theorem vda{s:zY}{a:Int}{l:List Int}(hl:JC s l)(h:Vd s a):∀k∈l ++ [a],Vd s k:=hl.snoc h
theorem ke{part:PM Int}(hp:Gd 0 Vd part):Gd 2 JC (xQ part):=by
 intro E s a s' h0 hw h;have N:=Nx.refl h0 hw;unfold xQ at h;obtain⟨x,sx,nx,vx,N,h⟩:=gb h N (zo);obtain⟨l,sl,nl,vl,N,h⟩:=gb h N (uG hp);obtain⟨y,sy,ny,vy,N,h⟩:=gb h N (zo);replace vl:=vl.later ny;obtain⟨rfl,rfl⟩:=zD h;exact⟨N.down (by decide),vl⟩
theorem Zc{part:PM Int}(hp:Gd 0 Vd part):Gd 0 JC (qk part):=by
 intro E s a s' h0 hw h;have N:=Nx.refl h0 hw;unfold qk at h;obtain⟨b,sb,nb,hb,N,h⟩:=gm h N;cases b with
 |true=>
  rw[if_pos rfl] at h;obtain⟨l,sl,nl,vl,N,h⟩:=gb h N (uG hp);obtain⟨y,sy,ny,vy,N,h⟩:=gb h N (zo);replace vl:=vl.later ny;obtain⟨rfl,rfl⟩:=zD h;exact⟨N.down (by decide),vl⟩
 |false=>
  rw[if_neg (by decide)] at h;obtain⟨rfl,rfl⟩:=zD h;exact⟨N.down (by decide),JI⟩
theorem Zd{R:xN}(hR:yH R):Gd 0 Vd (jE R):=by
 intro E s a s' h0 hw h;have N:=Nx.refl h0 hw;unfold jE at h;obtain⟨t,st,nt,vt,N,h⟩:=gb h N ((yh (by decide)));obtain⟨x,sx,nx,vx,N,h⟩:=gb h N (zo);obtain⟨k,sk,nk,vk,N,h⟩:=gb h N (hR.kind);exact qJ N (zK N.le N.wf (YD vk) h) (by decide)
theorem zbl{R:xN}(hR:yH R):Gd 0 Vd (ul R):=by
 intro E s a s' h0 hw h;have N:=Nx.refl h0 hw;unfold ul at h;obtain⟨t,st,nt,vt,N,h⟩:=gb h N ((yh (by decide)));obtain⟨l,sl,nl,vl,N,h⟩:=gb h N ((Zc hR.kind));exact qJ N (zK N.le N.wf (vl) h) (by decide)
theorem Qo{part:PM Int}{w:List (List UInt8)}(hp:Gd 0 Vd part):Gd 0 JC (do if <-uU w then pure [] else kC part:PM (List Int)):=by
 intro E s a s' h0 hw h;have N:=Nx.refl h0 hw;obtain⟨b,sb,nb,vb,N,h⟩:=gb h N (zh5);cases b with
 |true=>
  rw[if_pos rfl] at h;obtain⟨rfl,rfl⟩:=zD h;exact⟨N.down (by decide),JI⟩
 |false=>
  rw[if_neg (by decide)] at h;obtain⟨nl,vl⟩:=uG hp N.le N.wf h;exact⟨(N.trans nl).down (by decide),vl⟩
theorem ZC{R:xN}(hR:yH R):Gd 3 JC (vA R):=by
 intro E s a s' h0 hw h;have N:=Nx.refl h0 hw;unfold vA at h;obtain⟨x,sx,nx,vx,N,h⟩:=gb h N (zo);obtain⟨l,sl,nl,vl,N,h⟩:=gb h N ((Qo (Zd hR)));obtain⟨y,sy,ny,vy,N,h⟩:=gb h N (zo);replace vl:=vl.later ny;obtain⟨z,sz,nz,vz,N,h⟩:=gb h N (zo);replace vl:=vl.later nz;obtain⟨k,sk,nk,vk,N,h⟩:=gb h N (hR.kind);replace vl:=vl.later nk;obtain⟨rfl,rfl⟩:=zD h;exact⟨N.down (by decide),vl.snoc vk⟩
theorem vh{E:zv}{s s':zY}{u:Unit}(hlt:s.next<E.toks.length)(hw:WFs s)(h:jD E s=.ok u s'):Nx E 1 s s':=by
 cases h;exact Xu hlt hw
theorem zjq{R:xN}(hR:yH R):Gd 0 Vd (vG R):=by
 intro E s a s' h0 hw h;have N:=Nx.refl h0 hw;unfold vG at h;obtain⟨t,s0,h1,h⟩:=zm h;cases h1;split at h
 ·rename_i hk;obtain⟨u,s1,h1,h⟩:=zm h;have n1:=vh (qQ (k:=2) (by simpa using hk) (by decide)) hw h1;replace N:=N.trans n1;exact qJ N (zK N.le N.wf (JI) h) (by decide)
 ·obtain⟨a1,sa1,na1,ha1,N,h⟩:=gm h N;cases a1 with
  |true=>
   rw[if_pos rfl] at h;exact qJ N (zK N.le N.wf (JI) h) (by decide)
  |false=>
  rw[if_neg (by decide)] at h;obtain⟨a2,sa2,na2,ha2,N,h⟩:=gm h N;cases a2 with
  |true=>
   rw[if_pos rfl] at h;exact qJ N (zK N.le N.wf (JI) h) (by decide)
  |false=>
  rw[if_neg (by decide)] at h;obtain⟨a3,sa3,na3,ha3,N,h⟩:=gm h N;cases a3 with
  |true=>
   rw[if_pos rfl] at h;exact qJ N (zK N.le N.wf (JI) h) (by decide)
  |false=>
  rw[if_neg (by decide)] at h;obtain⟨a4,sa4,na4,ha4,N,h⟩:=gm h N;cases a4 with
  |true=>
   rw[if_pos rfl] at h;exact qJ N (zK N.le N.wf (JI) h) (by decide)
  |false=>
  rw[if_neg (by decide)] at h;obtain⟨a5,sa5,na5,ha5,N,h⟩:=gm h N;cases a5 with
  |true=>
   rw[if_pos rfl] at h;obtain⟨k,sk,nk,vk,N,h⟩:=gb h N (hR.kind);exact qJ N (zK N.le N.wf (YD vk) h) (by decide)
  |false=>
  rw[if_neg (by decide)] at h;obtain⟨a6,sa6,na6,ha6,N,h⟩:=gm h N;cases a6 with
  |true=>
   rw[if_pos rfl] at h;obtain⟨k,sk,nk,vk,N,h⟩:=gb h N (hR.kind);exact qJ N (zK N.le N.wf (YD vk) h) (by decide)
  |false=>
  rw[if_neg (by decide)] at h;obtain⟨x,sx,nx,vx,N,h⟩:=gb h N (zo);obtain⟨y,sy,ny,vy,N,h⟩:=gb h N (zo);obtain⟨l,sl,nl,vl,N,h⟩:=gb h N ((Qo hR.kind));obtain⟨z,sz,nz,vz,N,h⟩:=gb h N (zo);replace vl:=vl.later nz;obtain⟨q,sq,nq,vq,N,h⟩:=gb h N (zo);replace vl:=vl.later nq;obtain⟨k,sk,nk,vk,N,h⟩:=gb h N (hR.kind);replace vl:=vl.later nk;exact qJ N (zK N.le N.wf (vda vl vk) h) (by decide)
theorem vg{E:zv}{s s':zY}{t:yp}(hlt:s.next<E.toks.length)(hw:WFs s)(h:vU E s=.ok t s'):Nx E 1 s s':=by
 cases h;exact Xu hlt hw
theorem zeN{R:xN}(hR:yH R):Gd 0 (fun s (x:Int×Bool)=>Vd s x.1) (vw R):=by
 intro E s a s' h0 hw h;have N:=Nx.refl h0 hw;unfold vw at h;obtain⟨t,s0,h1,h⟩:=zm h;cases h1;obtain⟨a1,sa1,na1,ha1,N,h⟩:=gm h N;cases a1 with
 |true=>
  rw[if_pos rfl] at h;obtain⟨m,sm,nm,vm,N,h⟩:=gb h N ((yh (by decide)));obtain⟨x,sx,nx,vx,N,h⟩:=gb h N (zo);obtain⟨e,se,ne,ve,N,h⟩:=gb h N (hR.expr);obtain⟨r,s9,h9,h⟩:=zm h;obtain⟨nz,vz⟩:=zK N.le N.wf (YD ve) h9;obtain⟨rfl,rfl⟩:=zD h;exact⟨(N.trans nz).down (by decide),vz⟩
 |false=>
 rw[if_neg (by decide)] at h;obtain⟨a2,sa2,na2,ha2,N,h⟩:=gm h N;cases a2 with
 |true=>
  rw[if_pos rfl] at h;obtain⟨m,sm,nm,vm,N,h⟩:=gb h N ((yh (by decide)));obtain⟨x,sx,nx,vx,N,h⟩:=gb h N (zo);obtain⟨e,se,ne,ve,N,h⟩:=gb h N (hR.expr);obtain⟨r,s9,h9,h⟩:=zm h;obtain⟨nz,vz⟩:=zK N.le N.wf (YD ve) h9;obtain⟨rfl,rfl⟩:=zD h;exact⟨(N.trans nz).down (by decide),vz⟩
 |false=>
 rw[if_neg (by decide)] at h;obtain⟨e,se,ne,ve,N,h⟩:=gb h N (hR.expr);obtain⟨b,s3,h3,h⟩:=zm h;cases h3;split at h
 ·rename_i hb;obtain⟨k,s4,h4,h⟩:=zm h;cases h4;split at h
  ·obtain⟨u,s5,h5,h⟩:=zm h;have n5:=vg (vQ hb) N.wf h5;replace N:=N.trans n5;replace ve:=ve.later n5;obtain⟨y,sy,ny,vy,N,h⟩:=gb h N (hR.expr);replace ve:=ve.later ny;obtain⟨r,s9,h9,h⟩:=zm h;obtain⟨nz,vz⟩:=zK N.le N.wf (Jp ve (YD vy)) h9;obtain⟨rfl,rfl⟩:=zD h;exact⟨(N.trans nz).down (by decide),vz⟩
  ·cases h
 ·obtain⟨rfl,rfl⟩:=zD h;exact⟨N.down (by decide),ve⟩
theorem zb8{R:xN}(hR:yH R):∀(n:Nat) (acc:List Int) {E:zv} {s:zY} {a:List Int×Int} {s':zY},s.next<=E.toks.length->WFs s->JC s acc->yR R n acc E s=.ok a s'->Nx E 0 s s'/\JC s' a.1
 |0,_,_,_,_,_,_,_,_,h=>by cases h
 |n+1,acc,E,s,a,s',h0,hw,ha,h=>by
  have N:=Nx.refl h0 hw;unfold yR at h;obtain⟨b,s1,h1,h⟩:=zm h;cases h1;split at h
  ·obtain⟨rfl,rfl⟩:=zD h;exact⟨N.down (by decide),ha⟩
  ·obtain⟨x,sx,nx,vx,N,h⟩:=gb h N ((zeN hR));replace ha:=ha.later nx;obtain⟨b,s2,h2,h⟩:=zm h;cases h2;split at h
   ·obtain⟨rfl,rfl⟩:=zD h;exact⟨N.down (by decide),ha.snoc vx⟩
   ·obtain⟨y,sy,ny,vy,N,h⟩:=gb h N (zo);replace vx:=vx.later ny;replace ha:=ha.later ny;obtain⟨n4,v4⟩:=zb8 hR n (acc ++ [x.1]) N.le N.wf (ha.snoc vx) h;exact⟨(N.trans n4).down (by decide),v4⟩
theorem zin{R:xN}(hR:yH R):Gd 0 Vd (qE R):=by
 intro E s a s' h0 hw h;have N:=Nx.refl h0 hw;unfold qE at h;obtain⟨t,st,nt,vt,N,h⟩:=gb h N (zo);obtain⟨x,s2,h2,h⟩:=zm h;obtain⟨n2,v2⟩:=zb8 hR _ [] N.le N.wf JI h2;replace N:=N.trans n2;obtain⟨y,sy,ny,vy,N,h⟩:=gb h N (zo);replace v2:=v2.later ny;exact qJ N (zK N.le N.wf (v2) h) (by decide)
theorem zhK{tight:PM Int}(ht:Gd 0 Vd tight)(lv:Nat):∀(n:Nat) (left:Int) {E:zv} {s:zY} {a:Int} {s':zY},s.next<=E.toks.length->WFs s->Vd s left->uR lv tight n left E s=.ok a s'->Nx E 0 s s'/\Vd s' a
 |0,_,_,_,_,_,_,_,_,h=>by cases h
 |n+1,left,E,s,a,s',h0,hw,vl,h=>by
  have N:=Nx.refl h0 hw;unfold uR at h;obtain⟨b,s1,h1,h⟩:=zm h;cases h1;split at h
  ·rename_i hb;obtain⟨t,s2,h2,h⟩:=zm h;have n2:=vg (vQ hb) hw h2;replace N:=N.trans n2;replace vl:=vl.later n2;obtain⟨r,sr,nr,vr,N,h⟩:=gb h N (ht);replace vl:=vl.later nr;obtain⟨x,s9,h9,h⟩:=zm h;obtain⟨nz,vz⟩:=zK N.le N.wf (Jp vl (YD vr)) h9;replace N:=N.trans nz;split at h
   ·obtain⟨rfl,rfl⟩:=zD h;exact⟨N.down (by decide),vz⟩
   ·obtain⟨n4,v4⟩:=zhK ht lv n x N.le N.wf vz h;exact⟨(N.trans n4).down (by decide),v4⟩
  ·obtain⟨rfl,rfl⟩:=zD h;exact⟨N.down (by decide),vl⟩
theorem Qx{tight:PM Int}(ht:Gd 0 Vd tight)(lv:Nat):Gd 0 Vd (uy lv tight):=by
 intro E s a s' h0 hw h;have N:=Nx.refl h0 hw;unfold uy at h;obtain⟨l,sl,nl,vl,N,h⟩:=gb h N (ht);obtain⟨n4,v4⟩:=zhK ht lv _ l N.le N.wf vl h;exact⟨(N.trans n4).down (by decide),v4⟩
theorem zeQ{R:xN}(hR:yH R):∀(n:Nat) (first:Bool) (acc:List Int) {E:zv} {s:zY} {a:List Int} {s':zY},s.next<=E.toks.length->WFs s->JC s acc->qB R n first acc E s=.ok a s'->Nx E 0 s s'/\JC s' a
 |0,_,acc,_,_,_,_,h0,hw,ha,h=>by
  obtain⟨rfl,rfl⟩:=zD h;exact⟨Nx.refl h0 hw,ha⟩
 |n+1,first,acc,E,s,a,s',h0,hw,ha,h=>by
  have N:=Nx.refl h0 hw;unfold qB at h;obtain⟨u,s1,h1,h⟩:=zm h;have n1:Nx E 0 s s1:=by
   split at h1
   ·obtain⟨_,rfl⟩:=zD h1;exact N
   ·obtain⟨_,s2,h2,h1⟩:=zm h1;obtain⟨_,rfl⟩:=zD h1;exact (zo h0 hw h2).1.down (by decide)
  replace N:=N.trans n1;replace ha:=ha.later n1;obtain⟨x,sx,nx,vx,N,h⟩:=gb h N (hR.expr);obtain⟨n4,v4⟩:=zeQ hR n false (acc ++ [x]) N.le N.wf ((ha.later nx).snoc vx) h;exact⟨(N.trans n4).down (by decide),v4⟩
theorem ziY{R:xN}(hR:yH R)(t:yp)(w:Nat×Int):Gd (-1) Vd (jK R t w):=by
 intro E s a s' h0 hw h;have N:=Nx.refl h0 hw;unfold jK at h;obtain⟨l,s1,h1,h⟩:=zm h;have n1:Nx E 0 s s1/\JC s1 l:=by
  split at h1
  ·obtain⟨x,s2,h2,h1⟩:=zm h1;obtain⟨n2,v2⟩:=hR.unary h0 hw h2;obtain⟨rfl,rfl⟩:=zD h1;exact⟨n2,YD v2⟩
  ·split at h1
   ·obtain⟨x,s2,h2,h1⟩:=zm h1;obtain⟨n2,_⟩:=zo h0 hw h2;obtain⟨y,s3,h3,h1⟩:=zm h1;obtain⟨n3,v3⟩:=zeQ hR _ _ [] n2.le n2.wf JI h3;obtain⟨z,s4,h4,h1⟩:=zm h1;obtain⟨n4,_⟩:=zo n3.le n3.wf h4;obtain⟨rfl,rfl⟩:=zD h1;exact⟨((n2.trans n3).trans n4).down (by decide),v3.later n4⟩
   ·obtain⟨rfl,rfl⟩:=zD h1;exact⟨N,JI⟩
 obtain⟨nz,vz⟩:=zK n1.1.le n1.1.wf n1.2 h;exact⟨(n1.1.trans nz).down (by decide),vz⟩
theorem zdK{R:xN}(hR:yH R):Gd 0 Vd (Xa R):=by
 intro E s a s' h0 hw h;have N:=Nx.refl h0 hw;unfold Xa at h;obtain⟨t,st,nt,vt,N,h⟩:=gb h N ((yh (by decide)));obtain⟨x,sx,nx,vx,N,h⟩:=gb h N (zo);obtain⟨k,sk,nk,vk,N,h⟩:=gb h N (hR.expr);exact qJ N (zK N.le N.wf (YD vk) h) (by decide)
theorem zet{R:xN}(hR:yH R):Gd 0 Vd (Xb R):=by
 intro E s a s' h0 hw h;have N:=Nx.refl h0 hw;unfold Xb at h;obtain⟨p,sp,np,vp,N,h⟩:=gb h N (hR.pattern);obtain⟨t,st,nt,vt,N,h⟩:=gb h N (zo);replace vp:=vp.later nt;obtain⟨x,sx,nx,vx,N,h⟩:=gb h N (hR.expr);replace vp:=vp.later nx;exact qJ N (zK N.le N.wf (Jp vp (YD vx)) h) (by decide)
theorem zaE{R:xN}(hR:yH R):∀(n:Nat) (acc:List Int) {E:zv} {s:zY} {a:List Int} {s':zY},s.next<=E.toks.length->WFs s->JC s acc->jf R n acc E s=.ok a s'->Nx E 0 s s'/\JC s' a
 |0,_,_,_,_,_,_,_,_,h=>by cases h
 |n+1,acc,E,s,a,s',h0,hw,ha,h=>by
  have N:=Nx.refl h0 hw;unfold jf at h;obtain⟨t,s1,h1,h⟩:=zm h;cases h1;obtain⟨a1,sa1,na1,ha1,N,h⟩:=gm h N;cases a1 with
  |true=>
   rw[if_pos rfl] at h;obtain⟨x,sx,nx,vx,N,h⟩:=gb h N (hR.expr);obtain⟨q,sq,nq,vq,N,h⟩:=gb h N (zo);replace vx:=vx.later nq;obtain⟨m,sm,nm,vm,N,h⟩:=gb h N ((yh (by decide)));replace vx:=vx.later nm;obtain⟨e,se,ne,ve,N,h⟩:=gb h N (zo);replace vx:=vx.later ne;obtain⟨y,sy,ny,vy,N,h⟩:=gb h N (hR.expr);replace vx:=vx.later ny;obtain⟨r,s9,h9,h⟩:=zm h;obtain⟨nz,vz⟩:=zK N.le N.wf (Jp vx (YD vy)) h9;replace N:=N.trans nz;have ha2:=(ha.later N).snoc vz;obtain⟨c,sc,nc,hc,N,h⟩:=gm h N;cases c with
   |true=>
    rw[if_pos rfl] at h;obtain⟨n4,v4⟩:=zaE hR n (acc ++ [r]) N.le N.wf (ha2.later nc) h;exact⟨(N.trans n4).down (by decide),v4⟩
   |false=>
    rw[if_neg (by decide)] at h;obtain⟨rfl,rfl⟩:=zD h;exact⟨N.down (by decide),ha2.later nc⟩
  |false=>
  rw[if_neg (by decide)] at h;obtain⟨a2,sa2,na2,ha2,N,h⟩:=gm h N;cases a2 with
  |true=>
   rw[if_pos rfl] at h;obtain⟨x,sx,nx,vx,N,h⟩:=gb h N (hR.expr);obtain⟨q,sq,nq,vq,N,h⟩:=gb h N (zo);replace vx:=vx.later nq;obtain⟨y,sy,ny,vy,N,h⟩:=gb h N (hR.expr);replace vx:=vx.later ny;obtain⟨e,se,ne,ve,N,h⟩:=gb h N (zo);replace vx:=vx.later ne;replace vy:=vy.later ne;obtain⟨z,sz,nz,vz,N,h⟩:=gb h N (hR.expr);replace vx:=vx.later nz;replace vy:=vy.later nz;obtain⟨r,s9,h9,h⟩:=zm h;obtain⟨nz,vz⟩:=zK N.le N.wf (Jp vx (Jp vy (YD vz))) h9;replace N:=N.trans nz;have ha2:=(ha.later N).snoc vz;obtain⟨c,sc,nc,hc,N,h⟩:=gm h N;cases c with
   |true=>
    rw[if_pos rfl] at h;obtain⟨n4,v4⟩:=zaE hR n (acc ++ [r]) N.le N.wf (ha2.later nc) h;exact⟨(N.trans n4).down (by decide),v4⟩
   |false=>
    rw[if_neg (by decide)] at h;obtain⟨rfl,rfl⟩:=zD h;exact⟨N.down (by decide),ha2.later nc⟩
  |false=>
  rw[if_neg (by decide)] at h;obtain⟨q,sq,nq,vq,N,h⟩:=gb h N (zo);obtain⟨e,se,ne,ve,N,h⟩:=gb h N (zo);obtain⟨x,sx,nx,vx,N,h⟩:=gb h N (hR.expr);obtain⟨r,s9,h9,h⟩:=zm h;obtain⟨nz,vz⟩:=zK N.le N.wf (YD vx) h9;replace N:=N.trans nz;obtain⟨rfl,rfl⟩:=zD h;exact⟨N.down (by decide),(ha.later N).snoc vz⟩
theorem VL{R:xN}(hR:yH R):Gd 2 JC (jP R):=by
 intro E s a s' h0 hw h;have N:=Nx.refl h0 hw;unfold jP at h;obtain⟨t,st,nt,vt,N,h⟩:=gb h N (zo);obtain⟨x,s2,h2,h⟩:=zm h;obtain⟨n2,v2⟩:=zaE hR _ [] N.le N.wf JI h2;replace N:=N.trans n2;obtain⟨y,sy,ny,vy,N,h⟩:=gb h N (zo);obtain⟨rfl,rfl⟩:=zD h;exact⟨N.down (by decide),v2.later ny⟩
theorem zaq{R:xN}(hR:yH R):Gd 0 Vd (qh R):=by
 intro E s a s' h0 hw h;have N:=Nx.refl h0 hw;unfold qh at h;obtain⟨t,st,nt,vt,N,h⟩:=gb h N (zo);obtain⟨c,sc,nc,vc,N,h⟩:=gb h N (hR.expr);obtain⟨b,sb,nb,vb,N,h⟩:=gb h N (hR.block);replace vc:=vc.later nb;obtain⟨a1,sa1,na1,ha1,N,h⟩:=gm h N;replace vc:=vc.later na1;replace vb:=vb.later na1;cases a1 with
 |true=>
  rw[if_pos rfl] at h;obtain⟨i,si,ni,vi,N,h⟩:=gb h N (zh5);replace vc:=vc.later ni;replace vb:=vb.later ni;split at h
  ·obtain⟨x,sx,nx,vx,N,h⟩:=gb h N (hR.branch);replace vc:=vc.later nx;replace vb:=vb.later nx;exact qJ N (zK N.le N.wf (Jp vc (Jp vb (YD vx))) h) (by decide)
  ·obtain⟨x,sx,nx,vx,N,h⟩:=gb h N (hR.block);replace vc:=vc.later nx;replace vb:=vb.later nx;exact qJ N (zK N.le N.wf (Jp vc (Jp vb (YD vx))) h) (by decide)
 |false=>
  rw[if_neg (by decide)] at h;exact qJ N (zK N.le N.wf (Jp vc (YD vb)) h) (by decide)
theorem KU{R:xN}(hR:yH R)(t:yp):Gd 0 Vd (yA R t):=by
 intro E s a s' h0 hw h;have N:=Nx.refl h0 hw;unfold yA at h;obtain⟨i,si,ni,vi,N,h⟩:=gb h N (zh5);split at h
 ·obtain⟨nb,vb⟩:=zaq hR N.le N.wf h;exact⟨(N.trans nb).down (by decide),vb⟩
 ·obtain⟨a1,sa1,na1,ha1,N,h⟩:=gm h N;cases a1 with
  |true=>
   rw[if_pos rfl] at h;obtain⟨c,sc,nc,vc,N,h⟩:=gb h N (hR.expr);obtain⟨b,sb,nb,vb,N,h⟩:=gb h N (hR.block);replace vc:=vc.later nb;exact qJ N (zK N.le N.wf (Jp vc (YD vb)) h) (by decide)
  |false=>
  rw[if_neg (by decide)] at h;obtain⟨a2,sa2,na2,ha2,N,h⟩:=gm h N;cases a2 with
  |true=>
   rw[if_pos rfl] at h;obtain⟨c,sc,nc,vc,N,h⟩:=gb h N (hR.expr);obtain⟨l,sl,nl,vl,N,h⟩:=gb h N ((ke (zet hR)));replace vc:=vc.later nl;exact qJ N (zK N.le N.wf (Jp vc vl) h) (by decide)
  |false=>
  rw[if_neg (by decide)] at h;obtain⟨a3,sa3,na3,ha3,N,h⟩:=gm h N;cases a3 with
  |true=>
   rw[if_pos rfl] at h;obtain⟨l,sl,nl,vl,N,h⟩:=gb h N ((ZC hR));obtain⟨b,sb,nb,vb,N,h⟩:=gb h N (hR.block);replace vl:=vl.later nb;exact qJ N (zK N.le N.wf (vda vl vb) h) (by decide)
  |false=>
  rw[if_neg (by decide)] at h;obtain⟨a4,sa4,na4,ha4,N,h⟩:=gm h N;cases a4 with
  |true=>
   rw[if_pos rfl] at h;obtain⟨b,sb,nb,vb,N,h⟩:=gb h N (hR.block);obtain⟨q,sq,nq,vq,N,h⟩:=gb h N (zo);replace vb:=vb.later nq;obtain⟨m,sm,nm,vm,N,h⟩:=gb h N ((yh (by decide)));replace vb:=vb.later nm;obtain⟨c,sc,nc,vc,N,h⟩:=gb h N (hR.block);replace vb:=vb.later nc;exact qJ N (zK N.le N.wf (Jp vb (YD vc)) h) (by decide)
  |false=>
  rw[if_neg (by decide)] at h;obtain⟨a5,sa5,na5,ha5,N,h⟩:=gm h N;cases a5 with
  |true=>
   rw[if_pos rfl] at h;obtain⟨x,sx,nx,vx,N,h⟩:=gb h N (hR.expr);obtain⟨q,sq,nq,vq,N,h⟩:=gb h N (zo);replace vx:=vx.later nq;obtain⟨m,sm,nm,vm,N,h⟩:=gb h N ((yh (by decide)));replace vx:=vx.later nm;obtain⟨b,sb,nb,vb,N,h⟩:=gb h N (hR.block);replace vx:=vx.later nb;obtain⟨r,sr,nr,vr,N,h⟩:=gb h N (zo);replace vx:=vx.later nr;replace vb:=vb.later nr;obtain⟨c,sc,nc,vc,N,h⟩:=gb h N (hR.block);replace vx:=vx.later nc;replace vb:=vb.later nc;exact qJ N (zK N.le N.wf (Jp vx (Jp vb (YD vc))) h) (by decide)
  |false=>
  rw[if_neg (by decide)] at h;obtain⟨a6,sa6,na6,ha6,N,h⟩:=gm h N;cases a6 with
  |true=>
   rw[if_pos rfl] at h;obtain⟨m,sm,nm,vm,N,h⟩:=gb h N ((yh (by decide)));obtain⟨l,sl,nl,vl,N,h⟩:=gb h N ((ke (zdK hR)));exact qJ N (zK N.le N.wf (vl) h) (by decide)
  |false=>
  rw[if_neg (by decide)] at h;obtain⟨a7,sa7,na7,ha7,N,h⟩:=gm h N;cases a7 with
  |true=>
   rw[if_pos rfl] at h;obtain⟨k,sk,nk,vk,N,h⟩:=gb h N (hR.kind);obtain⟨q,sq,nq,vq,N,h⟩:=gb h N (zo);replace vk:=vk.later nq;obtain⟨m,sm,nm,vm,N,h⟩:=gb h N ((yh (by decide)));replace vk:=vk.later nm;obtain⟨r,sr,nr,vr,N,h⟩:=gb h N (zo);replace vk:=vk.later nr;exact qJ N (zK N.le N.wf (YD vk) h) (by decide)
  |false=>
  rw[if_neg (by decide)] at h;obtain⟨q,sq,nq,vq,N,h⟩:=gb h N (zo);obtain⟨l,sl,nl,vl,N,h⟩:=gb h N ((VL hR));exact qJ N (zK N.le N.wf (vl) h) (by decide)
theorem zfG{R:xN}(hR:yH R):Gd 0 Vd (vB R):=by
 intro E s a s' h0 hw h;have N:=Nx.refl h0 hw;unfold vB at h;obtain⟨t,s0,h1,h⟩:=zm h;cases h1;split at h
 ·rename_i hk;obtain⟨u,s1,h1,h⟩:=zm h;have n1:=vh (qQ (k:=3) (by simpa using hk) (by decide)) hw h1;replace N:=N.trans n1;exact qJ N (zK N.le N.wf (JI) h) (by decide)
 split at h
 ·rename_i hk;obtain⟨u,s1,h1,h⟩:=zm h;have n1:=vh (qQ (k:=4) (by simpa using hk) (by decide)) hw h1;replace N:=N.trans n1;exact qJ N (zK N.le N.wf (JI) h) (by decide)
 split at h
 ·rename_i hk;obtain⟨u,s1,h1,h⟩:=zm h;have n1:=vh (qQ (k:=1) (by simpa using hk) (by decide)) hw h1;replace N:=N.trans n1;exact qJ N (zK N.le N.wf (JI) h) (by decide)
 split at h
 ·rename_i hk;obtain⟨u,s1,h1,h⟩:=zm h;have n1:=vh (qQ (k:=2) (by simpa using hk) (by decide)) hw h1;replace N:=N.trans n1;obtain⟨l,sl,nl,vl,N,h⟩:=gb h N ((Zc hR.expr));exact qJ N (zK N.le N.wf (vl) h) (by decide)
 obtain⟨a1,sa1,na1,ha1,N,h⟩:=gm h N;cases a1 with
 |true=>
  rw[if_pos rfl] at h;obtain⟨a2,sa2,na2,ha2,N,h⟩:=gm h N;cases a2 with
  |true=>
   rw[if_pos rfl] at h;exact qJ N (zK N.le N.wf (JI) h) (by decide)
  |false=>
   rw[if_neg (by decide)] at h;obtain⟨x,sx,nx,vx,N,h⟩:=gb h N (hR.expr);obtain⟨q,sq,nq,vq,N,h⟩:=gb h N (zo);replace vx:=vx.later nq;obtain⟨rfl,rfl⟩:=zD h;exact⟨N.down (by decide),vx⟩
 |false=>
 rw[if_neg (by decide)] at h;obtain⟨a3,sa3,na3,ha3,N,h⟩:=gm h N;cases a3 with
 |true=>
  rw[if_pos rfl] at h;exact qJ N (zK N.le N.wf (JI) h) (by decide)
 |false=>
 rw[if_neg (by decide)] at h;obtain⟨a4,sa4,na4,ha4,N,h⟩:=gm h N;cases a4 with
 |true=>
  rw[if_pos rfl] at h;exact qJ N (zK N.le N.wf (JI) h) (by decide)
 |false=>
 rw[if_neg (by decide)] at h;have hkt:s.next=sa4.next:=by
  have e1:sa1=s:=by unfold yu at ha1;split at ha1 <;> cases ha1;rfl
  have e3:sa3=sa1:=by unfold yu at ha3;split at ha3 <;> cases ha3;rfl
  have e4:sa4=sa3:=by unfold yu at ha4;split at ha4 <;> cases ha4;rfl
  rw[e4,e3,e1]
 cases hw9:xV (zy E s).text with
 |some w=>
  rw[hw9] at h;simp only at h;split at h
  ·rename_i hk;obtain⟨u,s1,h1,h⟩:=zm h;have hlt:=qQ (k:=5) (by simpa using hk) (by decide);have n1:=vh (by omega) N.wf h1;replace N:=N.trans n1;obtain⟨nb,vb⟩:=ziY hR _ w N.le N.wf h;exact⟨(N.trans nb).down (by decide),vb⟩
  ·obtain⟨nb,vb⟩:=KU hR _ N.le N.wf h;exact⟨(N.trans nb).down (by decide),vb⟩
 |none=>
  rw[hw9] at h;obtain⟨nb,vb⟩:=KU hR _ N.le N.wf h;exact⟨(N.trans nb).down (by decide),vb⟩
theorem za1{R:xN}(hR:yH R):∀(n:Nat) (left:Int) {E:zv} {s:zY} {a:Int} {s':zY},s.next<=E.toks.length->WFs s->Vd s left->jL R n left E s=.ok a s'->Nx E 0 s s'/\Vd s' a
 |0,_,_,_,_,_,_,_,_,h=>by cases h
 |n+1,left,E,s,a,s',h0,hw,vl,h=>by
  have N:=Nx.refl h0 hw;unfold jL at h;obtain⟨t,s1,h1,h⟩:=zm h;cases h1;obtain⟨a1,sa1,na1,ha1,N,h⟩:=gm h N;replace vl:=vl.later na1;cases a1 with
  |true=>
   rw[if_pos rfl] at h;obtain⟨m,sm,nm,vm,N,h⟩:=gb h N ((yh (by decide)));replace vl:=vl.later nm;obtain⟨x,s9,h9,h⟩:=zm h;obtain⟨nz,vz⟩:=zK N.le N.wf (YD vl) h9;replace N:=N.trans nz;obtain⟨n4,v4⟩:=za1 hR n x N.le N.wf vz h;exact⟨(N.trans n4).down (by decide),v4⟩
  |false=>
  rw[if_neg (by decide)] at h;obtain⟨a2,sa2,na2,ha2,N,h⟩:=gm h N;replace vl:=vl.later na2;cases a2 with
  |true=>
   rw[if_pos rfl] at h;obtain⟨k,sk,nk,vk,N,h⟩:=gb h N ((Qo hR.expr));replace vl:=vl.later nk;obtain⟨q,sq,nq,vq,N,h⟩:=gb h N (zo);replace vl:=vl.later nq;replace vk:=vk.later nq;obtain⟨x,s9,h9,h⟩:=zm h;obtain⟨nz,vz⟩:=zK N.le N.wf (Jp vl vk) h9;replace N:=N.trans nz;obtain⟨n4,v4⟩:=za1 hR n x N.le N.wf vz h;exact⟨(N.trans n4).down (by decide),v4⟩
  |false=>
  rw[if_neg (by decide)] at h;obtain⟨rfl,rfl⟩:=zD h;exact⟨N.down (by decide),vl⟩
theorem JJ{R:xN}(hR:yH R):Gd 0 Vd (jc R):=by
 intro E s a s' h0 hw h;have N:=Nx.refl h0 hw;unfold jc at h;obtain⟨b,s1,h1,h⟩:=zm h;cases h1;split at h
 ·rename_i hb;obtain⟨t,s2,h2,h⟩:=zm h;have n2:=vg (vQ hb) hw h2;replace N:=N.trans n2;obtain⟨x,sx,nx,vx,N,h⟩:=gb h N (hR.unary);exact qJ N (zK N.le N.wf (YD vx) h) (by decide)
 ·obtain⟨l,sl,nl,vl,N,h⟩:=gb h N ((zfG hR));obtain⟨n4,v4⟩:=za1 hR _ l N.le N.wf vl h;exact⟨(N.trans n4).down (by decide),v4⟩
theorem zfB{R:xN}(hR:yH R):Gd 0 Vd (zib R):=Qx (JJ hR) 4
theorem zfC{R:xN}(hR:yH R):Gd 0 Vd (KF R):=Qx (zfB hR) 3
theorem JB{R:xN}(hR:yH R):Gd 0 Vd (kP R):=by
 intro E s a s' h0 hw h;have N:=Nx.refl h0 hw;unfold kP at h;obtain⟨b,s1,h1,h⟩:=zm h;cases h1;split at h
 ·rename_i hb;obtain⟨t,s2,h2,h⟩:=zm h;have n2:=vg (vQ hb) hw h2;replace N:=N.trans n2;obtain⟨x,sx,nx,vx,N,h⟩:=gb h N (hR.bin2);exact qJ N (zK N.le N.wf (YD vx) h) (by decide)
 ·obtain⟨n4,v4⟩:=Qx (zfC hR) 2 N.le N.wf h;exact⟨(N.trans n4).down (by decide),v4⟩
theorem zjE{R:xN}(hR:yH R):Gd 0 Vd (zaj R):=Qx (Qx (JB hR) 1) 0
theorem zdT{R:xN}(hR:yH R):Gd 0 Vd (xI R):=by
 intro E s a s' h0 hw h;have N:=Nx.refl h0 hw;unfold xI at h;obtain⟨t,s0,h1,h⟩:=zm h;cases h1;split at h
 ·rename_i hk;obtain⟨u,s1,h1,h⟩:=zm h;have n1:=vh (qQ (k:=1) (by simpa using hk) (by decide)) hw h1;replace N:=N.trans n1;exact qJ N (zK N.le N.wf (JI) h) (by decide)
 split at h
 ·rename_i hk;obtain⟨u,s1,h1,h⟩:=zm h;have n1:=vh (qQ (k:=3) (by simpa using hk) (by decide)) hw h1;replace N:=N.trans n1;exact qJ N (zK N.le N.wf (JI) h) (by decide)
 split at h
 ·rename_i hk;obtain⟨u,s1,h1,h⟩:=zm h;have n1:=vh (qQ (k:=4) (by simpa using hk) (by decide)) hw h1;replace N:=N.trans n1;exact qJ N (zK N.le N.wf (JI) h) (by decide)
 split at h
 ·rename_i hk;obtain⟨u,s1,h1,h⟩:=zm h;have n1:=vh (qQ (k:=2) (by simpa using hk) (by decide)) hw h1;replace N:=N.trans n1;obtain⟨l,sl,nl,vl,N,h⟩:=gb h N ((Zc hR.pattern));exact qJ N (zK N.le N.wf (vl) h) (by decide)
 obtain⟨a1,sa1,na1,ha1,N,h⟩:=gm h N;cases a1 with
 |true=>
  rw[if_pos rfl] at h;exact qJ N (zK N.le N.wf (JI) h) (by decide)
 |false=>
 rw[if_neg (by decide)] at h;obtain⟨a2,sa2,na2,ha2,N,h⟩:=gm h N;cases a2 with
 |true=>
  rw[if_pos rfl] at h;exact qJ N (zK N.le N.wf (JI) h) (by decide)
 |false=>
 rw[if_neg (by decide)] at h;obtain⟨q,sq,nq,vq,N,h⟩:=gb h N (zo);obtain⟨m,sm,nm,vm,N,h⟩:=gb h N ((yh (by decide)));exact qJ N (zK N.le N.wf (JI) h) (by decide)
theorem Xn{α:Type}{d:Int}{Q:zY->α->Prop}{m:PM α}(hm:∀E s,m E s=.bad 0):Gd d Q m:=by
 intro E s a s' _ _ h;rw[hm] at h;cases h
theorem zfr:yH zjX:=⟨Xn fun _ _=>rfl,Xn fun _ _=>rfl,Xn fun _ _=>rfl,Xn fun _ _=>rfl,Xn fun _ _=>rfl,Xn fun _ _=>rfl,Xn fun _ _=>rfl⟩
theorem qX:∀n,yH (jA n)
 |0=>zfr
 |n+1=>⟨zjE (qX n),JJ (qX n),JB (qX n),zin (qX n),zaq (qX n),zjq (qX n),zdT (qX n)⟩
theorem Nx.adv{E:zv}{d:Int}{s s':zY}(n:Nx E d s s'):(s.next:Int)+d<=s'.next:=by
 obtain⟨r,hr⟩:=n.pre;have:=n.cr;rw[hr,pC] at this;omega
structure yo where
 nodes:List Nd
 items:List Int
 deriving DecidableEq
inductive yN where
 |expr|stmt|type|pattern|way|item|els|Kj
 |one (k:Nat)
 deriving DecidableEq
def zx(k:Nat):Bool:=decide (1<=k) && decide (k<=51) && k != 27 && k != 32 && k != 28
def yN.is:yN->Nat->Bool
 | .expr,k=>zx k
 | .stmt,k=>(decide (60<=k) && decide (k<=62)) || zx k
 | .type,k=>decide (80<=k) && decide (k<=87)
 | .pattern,k=>decide (66<=k) && decide (k<=70)
 | .way,k=>decide (63<=k) && decide (k<=65)
 | .item,k=>decide (100<=k) && decide (k<=104)
 | .els,k=>k == 28 || k == 29
 | .Kj,k=>k == 5 || k == 23
 | .one j,k=>k == j
structure xl where
 first:List yN
 more:Option yN
 least:Nat
 last:List yN
 deriving DecidableEq
def Zg(l:List yN):xl:=⟨l,none,0,[]⟩
def zF(k:Nat):Option xl:=
 if [1,2,3,4,5,44,45,46,80,81,82,83,84,66,67,68,69].contains k then some (Zg [])
 else if [6,7,23,27,37,38,39,42,43,47,50,51,60,61,65].contains k then some (Zg [.expr])
 else if [41,48,63].contains k then some (Zg [.expr,.expr])
 else if [49,64].contains k then some (Zg [.expr,.expr,.expr])
 else if k == 24 then some ⟨[.expr],some .expr,0,[]⟩
 else if k == 25 then some ⟨[],some .expr,0,[]⟩
 else if k == 26 then some ⟨[],some (.one 27),1,[]⟩
 else if k == 28 then some ⟨[],some .stmt,0,[]⟩
 else if k == 29 then some ⟨[.expr,.one 28],some .els,0,[]⟩
 else if k == 30 then some (Zg [.expr,.one 28])
 else if k == 31 then some ⟨[.expr],some (.one 32),1,[]⟩
 else if k == 32 then some (Zg [.pattern,.expr])
 else if k == 33 || k == 102 then some ⟨[],some (.one 88),0,[.type,.one 28]⟩
 else if k == 34 then some (Zg [.one 28,.one 28])
 else if k == 35 then some ⟨[],some .way,1,[]⟩
 else if k == 36 then some (Zg [.expr,.one 28,.one 28])
 else if k == 40 || k == 86 || k == 87 || k == 88 then some (Zg [.type])
 else if k == 62 then some (Zg [.Kj,.expr])
 else if k == 70 then some ⟨[],some .pattern,0,[]⟩
 else if k == 85 then some ⟨[],some .type,0,[.type]⟩
 else if k == 89 then some ⟨[],some .type,0,[]⟩
 else if k == 100 then some ⟨[],some (.one 88),1,[]⟩
 else if k == 101 then some ⟨[],some (.one 89),1,[]⟩
 else if k == 103 then some ⟨[],some (.one 88),0,[.type]⟩
 else if k == 104 then some (Zg [.type,.expr])
 else if decide (8<=k) && decide (k<=22) then some (Zg [.expr,.expr])
 else none
def xl.at_(s:xl)(k many:Nat):Option yN:=
 if k<s.first.length then s.first[k]?
 else if many<=k+s.last.length then s.last[k+s.last.length-many]?
 else s.more
def xl.fits(s:xl)(many:Nat):Bool:=
 decide (s.first.length+s.last.length+s.least<=many) && (s.more.isSome || decide (many=s.first.length+s.last.length))
def xf(k:Nat):Nat:=
 if k == 2 || k == 68 then 4
 else if [25,26,84,70,89,100,101].contains k then 2
 else if [5,23,27,66,88,60,61,34,36,63,102,103,104].contains k then 1
 else 0
def zQ(k:Nat):Int×Int:=
 if k == 1 || k == 40 then (0,1000000000)
 else if k == 67 then (-1000000000,1000000000)
 else if k == 3 || k == 69 || k == 28 || k == 102 then (0,1)
 else (0,0)
def qR(x:Nd):Bool:=
 if x.n<(zQ x.kind).1\/(zQ x.kind).2<x.n\/x.at_<0\/3000<x.at_ then false
 else if xf x.kind == 0 then x.text == []
 else (yV (xf x.kind) x.text).2 == 0
def zE(l:List Nd)(k:Int):Nat:=(l[k.toNat]?).elim 0 Nd.kind
def xD(l:List Nd)(x:Nd):Bool:=
 if x.kids.any fun k=>decide (k<0) || decide ((l.length:Int)<=k) then false
 else if x.kind == 28 then x.n == 0 || (match x.kids.getLast? with|some k=>zx (zE l k)|none=>false)
 else if x.kind == 29 then decide (x.kids.length<=3)
 else if x.kind == 35 then decide (x.kids.length<=(x.kids.findIdx fun k=>zE l k == 65)+1)
 else true
def Zk(g:Int->Int->yN->Option Int)(h:xl)(many:Nat):List Int->Int->Option Int
 |[],next=>some next
 |k :: r,next=>match h.at_ r.length many with
  |none=>none
  |some s=>(g next k s).bind (Zk g h many r)
def qK(l:List Nd):Nat->Int->Int->yN->Option Int
 |0,_,_,_=>none
 |f+1,next,number,s=>
  if next<0\/number≠next then none else
  match l[number.toNat]? with
  |none=>none
  |some x=>match zF x.kind with
   |none=>none
   |some h=>if s.is x.kind && qR x && h.fits x.kids.length && xD l x then Zk (qK l f) h x.kids.length x.kids.reverse (next-1) else none
def Yh(l:List Nd):List Int->Int->Option Int
 |[],next=>some next
 |k :: r,next=>(qK l (l.length+1) next k .item).bind (Yh l r)
def qD(t:yo):Bool:=match Yh t.nodes t.items.reverse ((t.nodes.length:Int)-1) with
 |some next=>decide (next<0)
 |none=>false
def xZ(d:Nat):List Int->List Nat->List Nat
 |[],deep=>deep
 |k :: r,deep=>xZ d r (deep.set k.toNat (d+1))
def vH(l:List Nd):Nat->List Nat->Nat->Nat
 |0,_,most=>most
 |i+1,deep,most=>vH l i (xZ (deep.getD i 0) ((l[i]?).elim [] Nd.kids) deep) (max most (deep.getD i 0))
def xJ(t:yo):Nat:=vH t.nodes t.nodes.length (t.items.foldl (fun d k=>d.set k.toNat 1) (List.replicate t.nodes.length 0)) 0
def js(k:Nat):Nat:=
 if k == 102 || k == 33 then 8
 else if k == 103 || k == 85 || k == 24 then 7
 else if k == 100 || k == 26 then 6
 else if k == 101 then 8
 else if k == 89 || k == 25 || k == 70 then 4
 else if k == 31 then 13
 else if k == 35 then 4
 else 1000
def ye(x:Nd):Bool:=if x.kind == 40 then decide (1<=x.n) && decide (x.n<=8) else decide (x.kids.length<=js x.kind)
def zR(t:yo):Nat:=
 if 1000<t.nodes.length\/40<t.items.length then 5
 else if !qD t then 4
 else if 40<xJ t then 5
 else if t.nodes.any fun x=> !ye x then 3
 else 0
def Xo{α:Type}(p:α->Bool)(l:List α):Int:=match l.findIdx? p with
 |some i=>i
 |none=> -1
def upT(t:yo)(node:Int):Int:=Xo (fun x=>x.kids.contains node) t.nodes
def zg3(t:yo):Nat->Int->List Int->List Int
 |0,_,acc=>acc
 |f+1,at_,acc=>if at_<0 then acc else zg3 t f (upT t at_) (at_ :: acc)
def zg2(t:yo)(node:Int):List Int:=zg3 t (t.nodes.length+1) node []
def QH(l:List Nd):Nat->Int->Int
 |0,_=>0
 |f+1,node=>((l[node.toNat]?).elim [] Nd.kids).foldl (fun n k=>n+QH l f k) 1
def zeU(t:yo)(node:Int):Int:=QH t.nodes (t.nodes.length+1) node
def zam{α:Type}(t:yo)(node:Int)(of:yo->Int->α)(d:α):α×Nat:=
 if zR t≠0 then (d,zR t)
 else if node<0\/(t.nodes.length:Int)<=node then (d,7)
 else (of t node,0)
def za4(t:yo)(node:Int):Int×Nat:=zam t node upT 0
def zhF(t:yo)(node:Int):List Int×Nat:=zam t node zg2 []
def zdB(t:yo)(node:Int):Int×Nat:=zam t node zeU 0
def zbx(t:yo)(p:Int):Int×Nat:=
 if zR t≠0 then (0,zR t)
 else if Xo (fun x=>x.at_ == p) t.nodes<0 then (0,7)
 else (Xo (fun x=>x.at_ == p) t.nodes,0)
def zW(s:List UInt8):yo×Int×Nat:=
 match yQ s with
 |(l,at_,e)=>if e≠0 then (⟨[],[]⟩,at_,e) else
  match xO l s.length with
  | .bad p=>(⟨[],[]⟩,p,4)
  | .ok _ st=>
   if 1000<st.nodes.length\/40<st.items.length\/40<xJ ⟨st.nodes,st.items⟩ then (⟨[],[]⟩,0,5)
   else match st.nodes.find? fun x=> !ye x with
    |some x=>(⟨[],[]⟩,x.at_,3)
    |none=>(⟨st.nodes,st.items⟩,0,0)
def xE(k:Nat):Option (List UInt8):=
 if k == 22 then some [111,114] else if k == 21 then some [97,110,100]
 else if k == 14 then some [61,61] else if k == 15 then some [33,61] else if k == 16 then some [60] else if k == 17 then some [60,61] else if k == 18 then some [62] else if k == 19 then some [62,61] else if k == 20 then some [105,115]
 else if k == 8 then some [43] else if k == 9 then some [45] else if k == 10 then some [43,43]
 else if k == 11 then some [42] else if k == 12 then some [47] else if k == 13 then some [37]
 else none
def qj(k:Nat):Nat:=
 if k == 22 then 1 else if k == 21 then 2 else if decide (14<=k) && decide (k<=20) then 4
 else if k == 8 || k == 9 || k == 10 then 5 else if k == 11 || k == 12 || k == 13 then 6
 else if k == 7 then 3 else if k == 6 || k == 37 || k == 38 || k == 39 then 7
 else if k == 23 || k == 24 then 8 else 9
def kZ:List (List UInt8)->List UInt8
 |[]=>[]
 |[x]=>x
 |x :: r=>x ++ [44,32] ++ kZ r
section
variable (l:List Nd) (pr:Int→List UInt8)
def jq(node:Int)(least:Nat):List UInt8:=if qj (zE l node)<least then [40] ++ pr node ++ [41] else pr node
def xY(k:List Int):List UInt8:=kZ (k.map pr)
def vX(k:List Int):List UInt8:=if k=[] then [] else [40] ++ xY pr k ++ [41]
def qo(last:Bool):List Int->List UInt8
 |[]=>[]
 |[k]=>pr k ++ (if last then [] else [59]) ++ [32]
 |k :: r=>pr k ++ [59] ++ [32] ++ qo last r
def Ys(x:Nd):List UInt8:=if x.kids=[] then [123,125] else [123,32] ++ qo pr (x.n != 0) x.kids ++ [125]
def zN(x:Nd)(i:Nat):Int:=x.kids.getD i 0
def qO(x:Nd)(without:Nat):List UInt8:=[40] ++ xY pr (x.kids.take (x.kids.length-1-without)) ++ [41,58,32] ++ pr (zN x (x.kids.length-1-without))
def jR(x:Nd):List UInt8:=
 if x.kind == 60 then [108,101,116,32] ++ x.text ++ [32,61,32] ++ pr (zN x 0)
 else if x.kind == 61 then [118,97,114,32] ++ x.text ++ [32,61,32] ++ pr (zN x 0)
 else if x.kind == 62 then pr (zN x 0) ++ [32,58,61,32] ++ pr (zN x 1)
 else if x.kind == 63 then [114,101,99,118,32] ++ pr (zN x 0) ++ [32,97,115,32] ++ x.text ++ [32,61,62,32] ++ pr (zN x 1)
 else if x.kind == 64 then [115,101,110,100,32] ++ xY pr (x.kids.take 2) ++ [32,61,62,32] ++ pr (zN x 2)
 else [101,108,115,101,32,61,62,32] ++ pr (zN x 0)
def qe(x:Nd):List UInt8:=
 if x.kind == 80 then [105,110,116] else if x.kind == 81 then [98,111,111,108] else if x.kind == 82 then [116,101,120,116] else if x.kind == 83 then [117,110,105,116]
 else if x.kind == 85 then [102,110] ++ qO pr x 0
 else if x.kind == 86 then [99,104,97,110,32] ++ pr (zN x 0)
 else if x.kind == 87 then [119,101,97,107,32] ++ pr (zN x 0)
 else if x.kind == 88 then x.text ++ [58,32] ++ pr (zN x 0)
 else if x.kind == 100 then [99,108,97,115,115,32] ++ x.text ++ [32,123,32] ++ xY pr x.kids ++ [32,125]
 else if x.kind == 101 then [107,105,110,100,32] ++ x.text ++ [32,123,32] ++ xY pr x.kids ++ [32,125]
 else if x.kind == 103 then [101,120,116,101,114,110,32,102,117,110,32] ++ x.text ++ qO pr x 0 ++ [59]
 else if x.kind == 104 then [114,111,111,116,32] ++ x.text ++ [58,32] ++ pr (zN x 0) ++ [32,61,32] ++ pr (zN x 1) ++ [59]
 else (if x.n == 1 then [112,117,114,101,32] else []) ++ ([102,117,110,32] ++ x.text ++ qO pr x 1 ++ [32] ++ pr (zN x (x.kids.length-1)))
def xu(x:Nd):List UInt8:=
 if x.kind == 29 then [105,102,32] ++ pr (zN x 0) ++ [32] ++ pr (zN x 1) ++ (if x.kids.length == 3 then [32,101,108,115,101,32] ++ pr (zN x 2) else [])
 else if x.kind == 30 then [119,104,105,108,101,32] ++ pr (zN x 0) ++ [32] ++ pr (zN x 1)
 else if x.kind == 31 then [109,97,116,99,104,32] ++ pr (zN x 0) ++ [32,123,32] ++ xY pr (x.kids.drop 1) ++ [32,125]
 else if x.kind == 32 then pr (zN x 0) ++ [32,61,62,32] ++ pr (zN x 1)
 else if x.kind == 33 then [102,110] ++ qO pr x 1 ++ [32] ++ pr (zN x (x.kids.length-1))
 else if x.kind == 34 then [116,114,121,32] ++ pr (zN x 0) ++ [32,99,97,116,99,104,32] ++ x.text ++ [32] ++ pr (zN x 1)
 else if x.kind == 35 then [115,101,108,101,99,116,32,123,32] ++ xY pr x.kids ++ [32,125]
 else if x.kind == 36 then [104,111,108,100,32] ++ pr (zN x 0) ++ [32,97,115,32] ++ x.text ++ [32] ++ pr (zN x 1) ++ [32,101,108,115,101,32] ++ pr (zN x 2)
 else if x.kind == 26 then [110,101,119,32] ++ x.text ++ [32,123,32] ++ xY pr x.kids ++ [32,125]
 else if x.kind == 27 then x.text ++ [58,32] ++ pr (zN x 0)
 else [99,104,97,110,32] ++ pr (zN x 0) ++ [40] ++ Go.Lib.itoa x.n ++ [41]
def yU(x:Nd):List UInt8:=
 match xE x.kind with
 |some sign=>jq l pr (zN x 0) (if qj x.kind == 4 then 5 else qj x.kind) ++ [32] ++ sign ++ [32] ++ jq l pr (zN x 1) (qj x.kind+1)
 |none=>
  if x.kind == 1 || x.kind == 67 then Go.Lib.itoa x.n
  else if x.kind == 2 || x.kind == 68 then (qA x.text).1
  else if x.kind == 3 || x.kind == 69 then (if x.n == 1 then [116,114,117,101] else [102,97,108,115,101])
  else if x.kind == 4 then [40,41]
  else if x.kind == 5 || x.kind == 66 || x.kind == 84 then x.text
  else if x.kind == 6 then (if zE l (zN x 0) == 6 then [45,32] ++ pr (zN x 0) else [45] ++ jq l pr (zN x 0) 7)
  else if x.kind == 7 then [110,111,116,32] ++ jq l pr (zN x 0) 3
  else if x.kind == 23 then jq l pr (zN x 0) 8 ++ [46] ++ x.text
  else if x.kind == 24 then (if zE l (zN x 0) == 25 && ((l[(zN x 0).toNat]?).elim [] Nd.kids).isEmpty then [40] ++ jq l pr (zN x 0) 8 ++ [41] else jq l pr (zN x 0) 8) ++ [40] ++ xY pr (x.kids.drop 1) ++ [41]
  else if x.kind == 25 || x.kind == 70 || x.kind == 89 then x.text ++ vX pr x.kids
  else if x.kind == 28 then Ys pr x
  else match zM.find? fun w=>w.2.1 == x.kind with
   |some w=>if w.2.2<0 then w.1 ++ [32] ++ jq l pr (zN x 0) 7 else if w.2.2 == 0 then w.1 else w.1 ++ [40] ++ xY pr x.kids ++ [41]
   |none=>
    if decide (60<=x.kind) && decide (x.kind<=65) then jR pr x
    else if 80<=x.kind then qe pr x
    else xu pr x
end
def prN(l:List Nd):Nat->Int->List UInt8
 |0,_=>[]
 |f+1,node=>match l[node.toNat]? with
  |some x=>yU l (prN l f) x
  |none=>[]
def prT(t:yo)(node:Int):List UInt8:=prN t.nodes (t.nodes.length+1) node
def Yb(s:List UInt8):List UInt8×Nat:=if (yQ s).2.2≠0 then ([],5) else (s,0)
def YZ(t:yo):List UInt8×Nat:=if zR t≠0 then ([],zR t) else Yb (t.items.flatMap fun k=>prT t k ++ [10])
def uD(s:List UInt8):List UInt8×Int×Nat:=match zW s with
 |(t,at_,e)=>if e≠0 then ([],at_,e) else ((YZ t).1,0,(YZ t).2)
def xd(k:Nat):Nat×Nat:=
 if [1,2,3,4,5,44,45,46,66,67,68,69,80,81,82,83,84].contains k then (0,0)
 else if [6,7,23,27,37,38,39,40,42,43,47,50,51,60,61,65,86,87,88].contains k then (1,1)
 else if [49,64,36].contains k then (3,3)
 else if k == 29 then (2,3)
 else if [24,26,35,85,103,100,101].contains k then (1,2000)
 else if [31,33,102].contains k then (2,2000)
 else if [25,28,70,89].contains k then (0,2000)
 else (2,2)
def zS(k:Nat)(n:Int)(m i kd:Nat):Bool:=
 if k == 100 then kd == 88
 else if k == 101 then kd == 89
 else if k == 26 then kd == 27
 else if k == 70 then yN.pattern.is kd
 else if k == 88 || k == 89 || k == 85 || k == 86 || k == 87 || k == 40 then yN.type.is kd
 else if k == 103 then (decide (i+1<m) && kd == 88) || (decide (i+1=m) && yN.type.is kd)
 else if k == 102 || k == 33 then (decide (i+2<m) && kd == 88) || (decide (i+2=m) && yN.type.is kd) || (decide (i+1=m) && kd == 28)
 else if k == 104 then (decide (i=0) && yN.type.is kd) || (decide (i=1) && zx kd)
 else if k == 28 then yN.stmt.is kd && (decide (i+1<m) || n == 0 || zx kd)
 else if k == 62 then (decide (i=1) && zx kd) || (decide (i=0) && (kd == 5 || kd == 23))
 else if k == 29 then (decide (i=0) && zx kd) || (decide (0<i) && kd == 28) || (decide (i=2) && kd == 29)
 else if k == 30 || k == 36 then (decide (i=0) && zx kd) || (decide (0<i) && kd == 28)
 else if k == 34 then kd == 28
 else if k == 31 then (decide (i=0) && zx kd) || (decide (0<i) && kd == 32)
 else if k == 32 then (decide (i=0) && yN.pattern.is kd) || (decide (i=1) && zx kd)
 else if k == 35 then yN.way.is kd && (decide (i+1=m) || kd != 65)
 else zx kd
def xw(k:Nat)(n:Int)(m:Nat):Bool:=
 if k == 1 || k == 40 then decide (0<=n) && decide (n<=1000000000)
 else if k == 67 then decide (-1000000000<=n) && decide (n<=1000000000)
 else if k == 3 || k == 69 || k == 102 then n == 0 || n == 1
 else if k == 28 then n == 0 || (n == 1 && decide (0<m))
 else n == 0
def yz(k:Nat):Bool:=(decide (1<=k) && decide (k<=51)) || (decide (60<=k) && decide (k<=70)) || (decide (80<=k) && decide (k<=89)) || (decide (100<=k) && decide (k<=104))
def jz(x:Nd):Bool:=if xf x.kind == 0 then x.text == [] else (yV (xf x.kind) x.text).2 == 0
def yj(l:List Nd)(x:Nd):Bool:=
 yz x.kind && decide ((xd x.kind).1<=x.kids.length) && decide (x.kids.length<=(xd x.kind).2) && xw x.kind x.n x.kids.length && decide (0<=x.at_) && decide (x.at_<=3000) && jz x &&
 (List.range x.kids.length).all fun i=>zS x.kind x.n x.kids.length i (zE l (x.kids.getD i 0))
def jp(h:xl)(m i kd:Nat):Bool:=match h.at_ i m with
 |some s=>s.is kd
 |none=>false
def xH(l:List Nd)(x:Nd):Bool:=match zF x.kind with
 |none=>false
 |some h=>qR x && h.fits x.kids.length && xD l x && (List.range x.kids.length).all fun i=>jp h x.kids.length i (zE l (x.kids.getD i 0))
theorem uH{k:Nat}(h:yz k=true):k<=104:=by
 simp only[yz,wF,pG,pH] at h;omega
theorem zcQ:∀k,k<=104->(zF k).isSome=yz k:=by decide +kernel
theorem zdF{k:Nat}(h:¬k<=104):zF k=none:=by
 have h2:∀(l:List Nat),(∀x∈l,x<=104)->l.contains k=false:=fun l hl=>by
  rw[Bool.eq_false_iff];intro hc;rw[List.contains_iff_mem] at hc;exact h (hl k hc)
 have h3:∀j,j<=104->(k == j)=false:=fun j hj=>by rw[pB];omega
 unfold zF;rw[h2 _ (by decide),h2 _ (by decide),h2 _ (by decide),h2 _ (by decide)];simp only[h3 24 (by decide),h3 25 (by decide),h3 26 (by decide),h3 28 (by decide),h3 29 (by decide),h3 30 (by decide),h3 31 (by decide),h3 32 (by decide),h3 33 (by decide),h3 102 (by decide),h3 34 (by decide),h3 35 (by decide),h3 36 (by decide),h3 40 (by decide),h3 86 (by decide),h3 87 (by decide),h3 88 (by decide),h3 62 (by decide),h3 70 (by decide),h3 85 (by decide),h3 89 (by decide),h3 100 (by decide),h3 101 (by decide),h3 103 (by decide),h3 104 (by decide)];rw[show decide (k<=22)=false from by rw[wO];omega];simp
theorem QI(k:Nat):(zF k).isSome=yz k:=by
 by_cases h:k<=104
 ·exact zcQ k h
 ·rw[zdF h];cases hk:yz k with
  |true=>exact absurd (uH hk) h
  |false=>rfl
theorem ut(x:Nd):qR x=((decide ((zQ x.kind).1<=x.n) && decide (x.n<=(zQ x.kind).2)) && (decide (0<=x.at_) && decide (x.at_<=3000)) && jz x):=by
 unfold qR jz;by_cases h:x.n<(zQ x.kind).1\/(zQ x.kind).2<x.n\/x.at_<0\/3000<x.at_
 ·rw[if_pos h];symm;rw[Bool.and_eq_false_iff];left;rw[Bool.and_eq_false_iff,Bool.and_eq_false_iff,Bool.and_eq_false_iff];simp only[wO];omega
 ·rw[if_neg h];have h1:decide ((zQ x.kind).1<=x.n)=true:=by rw[pH];omega
  have h2:decide (x.n<=(zQ x.kind).2)=true:=by rw[pH];omega
  have h3:decide (0<=x.at_)=true:=by rw[pH];omega
  have h4:decide (x.at_<=3000)=true:=by rw[pH];omega
  rw[h1,h2,h3,h4];simp
theorem jQ{m:Nat}{p q:Nat->Bool}(h:∀i,i<m->p i=q i):(List.range m).all p=(List.range m).all q:=by
 rw[pW,pO,pO];constructor <;> (intro hh i hi;have:=hh i hi;have e:=h i (List.mem_range.1 hi);simp_all)
theorem zht{l:List Nd}{x:Nd}{h:xl}(hs:zF x.kind=some h)(hsp:xD l x=true)
 (hf:h.fits x.kids.length=(decide ((xd x.kind).1<=x.kids.length) && decide (x.kids.length<=(xd x.kind).2)))
 (hb:(decide ((zQ x.kind).1<=x.n) && decide (x.n<=(zQ x.kind).2))=xw x.kind x.n x.kids.length)
 (hd:h.fits x.kids.length=true->∀i,i<x.kids.length->∀kd,jp h x.kids.length i kd=zS x.kind x.n x.kids.length i kd):xH l x=yj l x:=by
 have hk:yz x.kind=true:=by rw[<-QI,hs];rfl
 unfold xH yj;rw[hs];simp only[hsp,hk,ut,hb,<-hf,Bool.true_and,Bool.and_true];cases hfit:h.fits x.kids.length with
 |false=>
  simp
 |true=>
  rw[jQ (fun i hi=>hd hfit i hi _)];simp only[Bool.true_and,Bool.and_true];generalize xw x.kind x.n x.kids.length=a;generalize decide (0<=x.at_)=b;generalize decide (x.at_<=3000)=c;generalize jz x=d;cases a <;> cases b <;> cases c <;> cases d <;> simp
def InR(l:List Nd)(x:Nd):Prop:=∀k∈x.kids,0<=k/\k<(l.length:Int)
theorem Zs{l:List Nd}{x:Nd}(h:InR l x):(x.kids.any fun k=>decide (k<0) || decide ((l.length:Int)<=k))=false:=by
 rw[List.any_eq_false];intro k hk;have:=h k hk;simp;omega
theorem Vq{l:List Nd}{x:Nd}(h:InR l x)(h1:x.kind≠28)(h2:x.kind≠29)(h3:x.kind≠35):xD l x=true:=by
 unfold xD;rw[Zs h];simp[h1,h2,h3]
theorem zal(l:List yN)(m:Nat):(Zg l).fits m=decide (m=l.length):=by
 unfold xl.fits Zg;rw[pW];simp;omega
theorem uF(k:Nat)(n:Int)(m:Nat)(h:k≠28):(decide ((zQ k).1<=n) && decide (n<=(zQ k).2))=xw k n m:=by
 have h28:(k == 28)=false:=bfE h
 unfold zQ xw;rw[h28];by_cases h1:(k == 1 || k == 40)=true
 ·rw[if_pos h1,if_pos h1]
 ·rw[if_neg h1,if_neg h1];by_cases h2:(k == 67)=true
  ·rw[if_pos h2,if_pos h2]
  ·rw[if_neg h2,if_neg h2];by_cases h3:(k == 3 || k == 69 || k == 102)=true
   ·have h4:(k == 3 || k == 69 || false || k == 102)=true:=by simpa using h3
    rw[if_pos h3,if_pos h4,pW];simp;omega
   ·have h4:¬(k == 3 || k == 69 || false || k == 102)=true:=by simpa using h3
    rw[if_neg h3,if_neg h4,if_neg (by decide),pW];simp;omega
theorem Zl(f:List yN)(s:yN)(least:Nat)(la:List yN)(m:Nat):(xl.mk f (some s) least la).fits m=decide (f.length+la.length+least<=m):=by
 unfold xl.fits;simp
theorem VQ{l:List Nd}{x:Nd}(hin:InR l x)(h:xl)(ks:List Nat)(hk:x.kind∈ks)(h1:∀k∈ks,zF k=some h)(h2:∀k∈ks,k≠28/\k≠29/\k≠35)(hf:∀k∈ks,h.fits x.kids.length=(decide ((xd k).1<=x.kids.length) && decide (x.kids.length<=(xd k).2)))(hd:∀k∈ks,h.fits x.kids.length=true->∀i,i<x.kids.length->∀kd,jp h x.kids.length i kd=zS k x.n x.kids.length i kd):xH l x=yj l x:=
 zht (h1 _ hk) (Vq hin (h2 _ hk).1 (h2 _ hk).2.1 (h2 _ hk).2.2) (hf _ hk) (uF _ _ _ (h2 _ hk).1) (hd _ hk)
theorem kA{l:List Nd}{x:Nd}(hin:InR l x)(ls:List yN)(ks:List Nat)(hk:x.kind∈ks)(h1:∀k∈ks,zF k=some (Zg ls))(h2:∀k∈ks,k≠28/\k≠29/\k≠35)(h3:∀k∈ks,xd k=(ls.length,ls.length))(h4:∀k∈ks,∀(n:Int) (i kd:Nat),i<ls.length->jp (Zg ls) ls.length i kd=zS k n ls.length i kd):xH l x=yj l x:=
 VQ hin (Zg ls) ks hk h1 h2 (fun k hk=>by
  rw[h3 k hk,zal];generalize x.kids.length=m;rw[pW];simp;omega) (fun k hk hf i hi kd=>by
  rw[zal,pH] at hf;rw[hf] at hi ⊢;exact h4 k hk _ i kd hi)
theorem xM{l:List Nd}{x:Nd}(hin:InR l x)(hk:x.kind∈[1,2,3,4,5,44,45,46,80,81,82,83,84,66,67,68,69]\/x.kind∈[6,7,23,27,37,38,39,42,43,47,50,51,60,61,65]\/x.kind∈[40,86,87,88]\/x.kind∈[41,48,63,8,9,10,11,12,13,14,15,16,17,18,19,20,21,22]\/x.kind∈[49,64]\/x.kind∈[30]\/x.kind∈[32]\/x.kind∈[34]\/x.kind∈[36]\/x.kind∈[62]\/x.kind∈[104]):xH l x=yj l x:=by
 rcases hk with hk|hk|hk|hk|hk|hk|hk|hk|hk|hk|hk
 case' inl=>refine kA hin [] _ hk (by decide) (by decide) (by decide) ?_
 case' inr.inl=>refine kA hin [.expr] _ hk (by decide) (by decide) (by decide) ?_
 case' inr.inr.inl=>refine kA hin [.type] _ hk (by decide) (by decide) (by decide) ?_
 case' inr.inr.inr.inl=>refine kA hin [.expr,.expr] _ hk (by decide) (by decide) (by decide) ?_
 case' inr.inr.inr.inr.inl=>refine kA hin [.expr,.expr,.expr] _ hk (by decide) (by decide) (by decide) ?_
 case' inr.inr.inr.inr.inr.inl=>refine kA hin [.expr,.one 28] _ hk (by decide) (by decide) (by decide) ?_
 case' inr.inr.inr.inr.inr.inr.inl=>refine kA hin [.pattern,.expr] _ hk (by decide) (by decide) (by decide) ?_
 case' inr.inr.inr.inr.inr.inr.inr.inl=>refine kA hin [.one 28,.one 28] _ hk (by decide) (by decide) (by decide) ?_
 case' inr.inr.inr.inr.inr.inr.inr.inr.inl=>refine kA hin [.expr,.one 28,.one 28] _ hk (by decide) (by decide) (by decide) ?_
 case' inr.inr.inr.inr.inr.inr.inr.inr.inr.inl=>refine kA hin [.Kj,.expr] _ hk (by decide) (by decide) (by decide) ?_
 case' inr.inr.inr.inr.inr.inr.inr.inr.inr.inr=>refine kA hin [.type,.expr] _ hk (by decide) (by decide) (by decide) ?_
 all_goals
  simp only[List.forall_mem_cons]
  repeat' refine And.intro ?_ ?_
  all_goals first
   |(intro x hx;cases hx;done)
   |(intro n i kd hi;rcases (show i=0\/i=1\/i=2 by simp only[pK,pR] at hi;omega) with rfl|rfl|rfl <;> first|(simp[jp,xl.at_,Zg,zS,yN.is];done)|(simp at hi;done))
theorem kz{l:List Nd}{x:Nd}(hin:InR l x)(hm:x.kids.length<=1999)(f:List yN)(s:yN)(least:Nat)(la:List yN)(ks:List Nat)(hk:x.kind∈ks)(h1:∀k∈ks,zF k=some ⟨f,some s,least,la⟩)(h2:∀k∈ks,k≠28/\k≠29/\k≠35)(h3:∀k∈ks,xd k=(f.length+la.length+least,2000))(h4:∀k∈ks,∀(n:Int) (m i kd:Nat),f.length+la.length+least<=m->i<m->jp ⟨f,some s,least,la⟩ m i kd=zS k n m i kd):xH l x=yj l x:=
 VQ hin _ ks hk h1 h2 (fun k hk=>by
  rw[h3 k hk,Zl];generalize x.kids.length=m at *;rw[pW];simp;omega) (fun k hk hf i hi kd=>by
  rw[Zl,pH] at hf;exact h4 k hk _ _ i kd hf hi)
theorem Zb{l:List Nd}{x:Nd}(hin:InR l x)(hm:x.kids.length<=1999)(hk:x.kind∈[25]\/x.kind∈[70]\/x.kind∈[89]\/x.kind∈[26]\/x.kind∈[100]\/x.kind∈[101]):xH l x=yj l x:=by
 rcases hk with hk|hk|hk|hk|hk|hk
 case' inl=>refine kz hin hm [] .expr 0 [] _ hk (by decide) (by decide) (by decide) ?_
 case' inr.inl=>refine kz hin hm [] .pattern 0 [] _ hk (by decide) (by decide) (by decide) ?_
 case' inr.inr.inl=>refine kz hin hm [] .type 0 [] _ hk (by decide) (by decide) (by decide) ?_
 case' inr.inr.inr.inl=>refine kz hin hm [] (.one 27) 1 [] _ hk (by decide) (by decide) (by decide) ?_
 case' inr.inr.inr.inr.inl=>refine kz hin hm [] (.one 88) 1 [] _ hk (by decide) (by decide) (by decide) ?_
 case' inr.inr.inr.inr.inr=>refine kz hin hm [] (.one 89) 1 [] _ hk (by decide) (by decide) (by decide) ?_
 all_goals
  intro k hk n m i kd hfit hi;simp only[wD,wH,or_false] at hk;subst hk;unfold jp xl.at_;rw[if_neg (by simp),if_neg (by simp;omega)];simp[zS,yN.is]
theorem zgg{l:List Nd}{x:Nd}(hin:InR l x)(hm:x.kids.length<=1999)(hk:x.kind∈[24]):xH l x=yj l x:=
 kz hin hm [.expr] .expr 0 [] _ hk (by decide) (by decide) (by decide) (fun k hk n m i kd hfit hi=>by
  simp only[wD,wH,or_false] at hk;subst hk;simp only[pK,pR] at hfit;unfold jp xl.at_;have hi3:i=0\/0<i:=by omega
  rcases hi3 with rfl|hi3
  ·simp[zS,yN.is]
  ·rw[if_neg (by simp;omega),if_neg (by simp;omega)];simp[zS,yN.is])
theorem zgf{l:List Nd}{x:Nd}(hin:InR l x)(hm:x.kids.length<=1999)(hk:x.kind∈[31]):xH l x=yj l x:=
 kz hin hm [.expr] (.one 32) 1 [] _ hk (by decide) (by decide) (by decide) (fun k hk n m i kd hfit hi=>by
  simp only[wD,wH,or_false] at hk;subst hk;simp only[pK,pR] at hfit;unfold jp xl.at_;have hi3:i=0\/0<i:=by omega
  rcases hi3 with rfl|hi3
  ·simp[zS,yN.is]
  ·rw[if_neg (by simp;omega),if_neg (by simp;omega)];have h0:i≠0:=by omega
   simp[zS,yN.is,h0,hi3])
theorem zge{l:List Nd}{x:Nd}(hin:InR l x)(hm:x.kids.length<=1999)(hk:x.kind∈[85]):xH l x=yj l x:=
 kz hin hm [] .type 0 [.type] _ hk (by decide) (by decide) (by decide) (fun k hk n m i kd hfit hi=>by
  simp only[wD,wH,or_false] at hk;subst hk;simp only[pK,pR] at hfit;unfold jp xl.at_;have hi3:i+1=m\/i+1<m:=by omega
  rcases hi3 with rfl|hi3
  ·simp[zS,yN.is]
  ·rw[if_neg (by simp),if_neg (by simp;omega)];simp[zS,yN.is])
theorem zdI{l:List Nd}{x:Nd}(hin:InR l x)(hm:x.kids.length<=1999)(hk:x.kind∈[103]):xH l x=yj l x:=
 kz hin hm [] (.one 88) 0 [.type] _ hk (by decide) (by decide) (by decide) (fun k hk n m i kd hfit hi=>by
  simp only[wD,wH,or_false] at hk;subst hk;simp only[pK,pR] at hfit;unfold jp xl.at_;have hi3:i+1=m\/i+1<m:=by omega
  rcases hi3 with rfl|hi3
  ·simp[zS,yN.is]
  ·rw[if_neg (by simp),if_neg (by simp;omega)];have h0:i+1≠m:=by omega
   simp[zS,yN.is,h0,hi3])
theorem VP{l:List Nd}{x:Nd}(hin:InR l x)(hm:x.kids.length<=1999)(hk:x.kind∈[33,102]):xH l x=yj l x:=
 kz hin hm [] (.one 88) 0 [.type,.one 28] _ hk (by decide) (by decide) (by decide) (fun k hk n m i kd hfit hi=>by
  simp only[wD,wH,or_false] at hk;simp only[pK,pR] at hfit;unfold jp xl.at_;have hi3:i+1=m\/i+2=m\/i+2<m:=by omega
  rcases hi3 with rfl|rfl|hi3
  ·rw[if_neg (by simp),if_pos (by simp)];rcases hk with rfl|rfl <;> simp[zS,yN.is]
  ·rw[if_neg (by simp),if_pos (by simp)];rcases hk with rfl|rfl <;> simp[zS,yN.is]
  ·rw[if_neg (by simp),if_neg (by simp;omega)];have h0:i+1≠m:=by omega
   have h1:i+2≠m:=by omega
   rcases hk with rfl|rfl <;> simp[zS,yN.is,h0,h1,hi3])
theorem XM:∀(l:List Int) (k:Int),l.getLast? =some k->l.getD (l.length-1) 0=k
 |[],k,h=>by cases h
 |[a],k,h=>by cases h;rfl
 |a :: b :: r,k,h=>by
  have h2:(b :: r).getLast? =some k:=by simpa using h
  have:=XM (b :: r) k h2;simpa using this
theorem zhw{l:List Nd}{x:Nd}(hin:InR l x)(hm:x.kids.length<=1999)(hk:x.kind=28):xH l x=yj l x:=by
 unfold xH yj;have hs:zF x.kind=some ⟨[],some .stmt,0,[]⟩:=by rw[hk];rfl
 have hsp:xD l x=(x.n == 0 || (match x.kids.getLast? with|some k=>zx (zE l k)|none=>false)):=by
  unfold xD;rw[Zs hin,hk];rfl
 rw[hs,hsp];simp only[Zl,ut,hk];have hP:∀i,i<x.kids.length->∀kd,jp ⟨[],some .stmt,0,[]⟩ x.kids.length i kd=yN.stmt.is kd:=fun i hi kd=>by
  unfold jp xl.at_;rw[if_neg (by simp),if_neg (by simp;omega)]
 have hR:∀i kd,zS 28 x.n x.kids.length i kd=(yN.stmt.is kd && (decide (i+1<x.kids.length) || x.n == 0 || zx kd)):=fun i kd=>rfl
 rw[jQ (fun i hi=>hP i hi _)];simp only[hR];have hb:zQ 28=(0,1):=rfl;have hf:xd 28=(0,2000):=rfl;have hn:xw 28 x.n x.kids.length=(x.n == 0 || (x.n == 1 && decide (0<x.kids.length))):=rfl;have hkn:yz 28=true:=rfl;rw[hb,hf,hn,hkn];have e1:decide ((([]:List yN).length+([]:List yN).length+0)<=x.kids.length)=true:=by simp
 have e2:decide (x.kids.length<=2000)=true:=by rw[pH];omega
 rw[e1,e2];simp only[pU,decide_true,Bool.true_and,Bool.and_true];by_cases h0:x.n=0
 ·rw[h0];simp
 ·have h0':(x.n == 0)=false:=bfE h0
  by_cases h1:x.n=1
  ·have h1':(x.n == 1)=true:=by rw[pS];exact h1
   rw[h0',h1',h1];simp only[Bool.false_or,Bool.or_false,Bool.true_and];cases hl:x.kids.getLast? with
   |none=>
    rw[List.getLast?_eq_none_iff] at hl;rw[hl];simp
   |some k=>
    have hlen:0<x.kids.length:=by
     cases hh:x.kids with
     |nil=>rw[hh] at hl;cases hl
     |cons _ _=>simp
    have hd:=XM _ _ hl;have e3:decide (0<x.kids.length)=true:=by rw[pH];exact hlen
    rw[e3];have key:((List.range x.kids.length).all fun i=>yN.stmt.is (zE l (x.kids.getD i 0)) && (decide (i+1<x.kids.length) || zx (zE l (x.kids.getD i 0))))=(zx (zE l k) && (List.range x.kids.length).all fun i=>yN.stmt.is (zE l (x.kids.getD i 0))):=by
     rw[pW,pG,pO,pO];constructor
     ·intro h;refine⟨?_,fun i hi=>?_⟩
      ·have:=h (x.kids.length-1) (List.mem_range.2 (by omega));rw[hd,pG,wF,pH] at this;rcases this.2 with h'|h'
       ·omega
       ·exact h'
      ·have:=h i hi;rw[pG] at this;exact this.1
     ·rintro ⟨h1,h2⟩ i hi;rw[pG,wF,pH];refine⟨h2 i hi,?_⟩;rcases Nat.lt_or_ge (i+1) x.kids.length with h'|h'
      ·exact .inl h'
      ·right;have hi':=List.mem_range.1 hi;have:i=x.kids.length-1:=by omega
       rw[this,hd];exact h1
    rw[key];dsimp only;generalize decide (0<=x.at_)=b;generalize decide (x.at_<=3000)=c;generalize jz x=d;generalize zx (zE l k)=e;generalize (List.range x.kids.length).all _=f;cases b <;> cases c <;> cases d <;> cases e <;> cases f <;> simp
  ·have h1':(x.n == 1)=false:=bfE h1
   have h2:(decide (0<=x.n) && decide (x.n<=1))=false:=by
    rw[Bool.and_eq_false_iff,wO,wO];omega
   rw[h0',h1',h2];simp
theorem zhv{l:List Nd}{x:Nd}(hin:InR l x)(hk:x.kind=29):xH l x=yj l x:=by
 unfold xH yj;have hs:zF x.kind=some ⟨[.expr,.one 28],some .els,0,[]⟩:=by rw[hk];rfl
 have hsp:xD l x=decide (x.kids.length<=3):=by
  unfold xD;rw[Zs hin,hk];rfl
 rw[hs,hsp];simp only[Zl,ut,hk];have hb:=uF 29 x.n x.kids.length (by decide);have hf:xd 29=(2,3):=rfl;have hkn:yz 29=true:=rfl;have e1:decide (([yN.expr,yN.one 28].length+([]:List yN).length+0)<=x.kids.length)=decide (2<=x.kids.length):=rfl;rw[hb,hf,hkn,e1];simp only[Bool.true_and];by_cases h3:2<=x.kids.length/\x.kids.length<=3
 ·have hd:∀i,i<x.kids.length->∀kd,jp ⟨[.expr,.one 28],some .els,0,[]⟩ x.kids.length i kd=zS 29 x.n x.kids.length i kd:=fun i hi kd=>by
   have h4:x.kids.length=2\/x.kids.length=3:=by omega
   generalize x.kids.length=m at *;unfold jp xl.at_;rcases h4 with rfl|rfl
   ·have hi3:i=0\/i=1:=by omega
    rcases hi3 with rfl|rfl <;> simp[zS,yN.is]
   ·have hi3:i=0\/i=1\/i=2:=by omega
    rcases hi3 with rfl|rfl|rfl <;> simp[zS,yN.is]
  rw[jQ (fun i hi=>hd i hi _)];have e4:decide (2<=x.kids.length)=true:=by rw[pH];exact h3.1
  have e5:decide (x.kids.length<=3)=true:=by rw[pH];exact h3.2
  rw[e4,e5];generalize xw 29 x.n x.kids.length=a;generalize decide (0<=x.at_)=b;generalize decide (x.at_<=3000)=c;generalize jz x=d;cases a <;> cases b <;> cases c <;> cases d <;> simp
 ·have e4:(decide (2<=x.kids.length) && decide (x.kids.length<=3))=false:=by
   rw[Bool.and_eq_false_iff,wO,wO];omega
  rw[Bool.and_eq_false_iff] at e4;rcases e4 with e|e
  ·rw[e];simp
  ·rw[e];simp
theorem zeh(p:Int->Bool)(l:List Int):decide (l.length<=l.findIdx p+1)=(List.range l.length).all fun i=>decide (i+1=l.length) || !p (l.getD i 0):=by
 rw[pW,pH,pO];constructor
 ·intro h i hi;have hi':=List.mem_range.1 hi;rw[wF,pH];rcases Nat.lt_or_ge (i+1) l.length with h'|h'
  ·right;have:=List.not_of_lt_findIdx (p:=p) (xs:=l) (i:=i) (by omega);rw[pA,glE hi',Option.getD_some];simpa using this
  ·left;omega
 ·intro h;rcases Nat.lt_or_ge (l.findIdx p) l.length with h'|h'
  ·have h2:=h _ (List.mem_range.2 h');rw[wF,pH,pA,glE h',Option.getD_some] at h2;rcases h2 with h2|h2
   ·omega
   ·have:=List.findIdx_getElem (p:=p) (xs:=l) (w:=h');rw[this] at h2;cases h2
  ·omega
theorem zhu{l:List Nd}{x:Nd}(hin:InR l x)(hm:x.kids.length<=1999)(hk:x.kind=35):xH l x=yj l x:=by
 unfold xH yj;have hs:zF x.kind=some ⟨[],some .way,1,[]⟩:=by rw[hk];rfl
 have hsp:xD l x=decide (x.kids.length<=(x.kids.findIdx fun k=>zE l k == 65)+1):=by
  unfold xD;rw[Zs hin,hk];rfl
 rw[hs,hsp,zeh];simp only[Zl,ut,hk];have hb:=uF 35 x.n x.kids.length (by decide);have hf:xd 35=(1,2000):=rfl;have hkn:yz 35=true:=rfl;have e1:decide ((([]:List yN).length+([]:List yN).length+1)<=x.kids.length)=decide (1<=x.kids.length):=by simp
 have e2:decide (x.kids.length<=2000)=true:=by rw[pH];omega
 have hP:∀i,i<x.kids.length->∀kd,jp ⟨[],some .way,1,[]⟩ x.kids.length i kd=yN.way.is kd:=fun i hi kd=>by
  unfold jp xl.at_;rw[if_neg (by simp),if_neg (by simp;omega)]
 have hR:∀i kd,zS 35 x.n x.kids.length i kd=(yN.way.is kd && (decide (i+1=x.kids.length) || !(kd == 65))):=fun i kd=>rfl
 rw[jQ (fun i hi=>hP i hi _)];simp only[hR];rw[hb,hf,hkn,e1,e2];have key:((List.range x.kids.length).all fun i=>yN.way.is (zE l (x.kids.getD i 0)) && (decide (i+1=x.kids.length) || !(zE l (x.kids.getD i 0) == 65)))=(((List.range x.kids.length).all fun i=>decide (i+1=x.kids.length) || !(zE l (x.kids.getD i 0) == 65)) && (List.range x.kids.length).all fun i=>yN.way.is (zE l (x.kids.getD i 0))):=by
  rw[pW,pG,pO,pO,pO];constructor
  ·intro h;refine⟨fun i hi=>?_,fun i hi=>?_⟩
   ·have:=h i hi;rw[pG] at this;exact this.2
   ·have:=h i hi;rw[pG] at this;exact this.1
  ·rintro ⟨h1,h2⟩ i hi;rw[pG];exact⟨h2 i hi,h1 i hi⟩
 rw[key];generalize xw 35 x.n x.kids.length=a;generalize decide (0<=x.at_)=b;generalize decide (x.at_<=3000)=c;generalize jz x=d;generalize decide (1<=x.kids.length)=e;cases a <;> cases b <;> cases c <;> cases d <;> cases e <;> simp
theorem zcm{l:List Nd}{x:Nd}(hin:InR l x)(hm:x.kids.length<=1999):xH l x=yj l x:=by
 cases hk:yz x.kind with
 |false=>
  have hs:zF x.kind=none:=by
   have:=QI x.kind;rw[hk] at this;cases h:zF x.kind with
   |none=>rfl
   |some _=>rw[h] at this;cases this
  unfold xH yj;rw[hs,hk];simp
 |true=>
  have h104:=uH hk;have hall:∀k,k<=104->yz k=true->k∈[1,2,3,4,5,44,45,46,80,81,82,83,84,66,67,68,69]\/k∈[6,7,23,27,37,38,39,42,43,47,50,51,60,61,65]\/k∈[40,86,87,88]\/k∈[41,48,63,8,9,10,11,12,13,14,15,16,17,18,19,20,21,22]\/k∈[49,64,30,32,34,36,62,104,25,70,89,26,100,101,24,31,85,103,33,102,28,29,35]:=by decide +kernel
  rcases hall _ h104 hk with h|h|h|h|h
  ·exact xM hin (.inl h)
  ·exact xM hin (.inr (.inl h))
  ·exact xM hin (.inr (.inr (.inl h)))
  ·exact xM hin (.inr (.inr (.inr (.inl h))))
  ·simp only[wD,wH,or_false] at h;rcases h with h|h|h|h|h|h|h|h|h|h|h|h|h|h|h|h|h|h|h|h|h|h|h
   ·exact xM hin (by rw[h];decide)
   ·exact xM hin (by rw[h];decide)
   ·exact xM hin (by rw[h];decide)
   ·exact xM hin (by rw[h];decide)
   ·exact xM hin (by rw[h];decide)
   ·exact xM hin (by rw[h];decide)
   ·exact xM hin (by rw[h];decide)
   ·exact xM hin (by rw[h];decide)
   ·exact Zb hin hm (by rw[h];decide)
   ·exact Zb hin hm (by rw[h];decide)
   ·exact Zb hin hm (by rw[h];decide)
   ·exact Zb hin hm (by rw[h];decide)
   ·exact Zb hin hm (by rw[h];decide)
   ·exact Zb hin hm (by rw[h];decide)
   ·exact zgg hin hm (by rw[h];decide)
   ·exact zgf hin hm (by rw[h];decide)
   ·exact zge hin hm (by rw[h];decide)
   ·exact zdI hin hm (by rw[h];decide)
   ·exact VP hin hm (by rw[h];decide)
   ·exact VP hin hm (by rw[h];decide)
   ·exact zhw hin hm h
   ·exact zhv hin h
   ·exact zhu hin hm h
def ZM(out:List Nat):List Int->Int->Option Int
 |[],p=>some p
 |k :: r,p=>if p<0\/k≠p then none else ZM out r (p-(out.getD p.toNat 0:Nat))
def jH(l:List Nd):Nat->List Nat
 |0=>[]
 |i+1=>if (jH l i).length<i then jH l i else
  match ZM (jH l i) ((l[i]?).elim [] Nd.kids).reverse ((i:Int)-1) with
  |none=>jH l i
  |some p=>jH l i ++ [((i:Int)-p).toNat]
def Vk(l:List Nd)(out:List Nat):List Int->Int->Option Int
 |[],p=>some p
 |k :: r,p=>if p<0\/k≠p\/yN.item.is (zE l p)=false then none else Vk l out r (p-(out.getD p.toNat 0:Nat))
def YM(t:yo):Bool:= !decide ((jH t.nodes t.nodes.length).length<t.nodes.length) && match Vk t.nodes (jH t.nodes t.nodes.length) t.items.reverse ((t.nodes.length:Int)-1) with
 |none=>false
 |some p=>t.nodes.all (yj t.nodes) && p == -1
theorem Ym(l:List Nd):∀i,(jH l i).length<=i
 |0=>pE _
 |i+1=>by
  have:=Ym l i;unfold jH;split
  ·omega
  ·split
   ·omega
   ·rw[pC,pI];omega
theorem Yn{out out':List Nat}:∀(rk:List Int) (p:Int),(∀j:Nat,(j:Int)<=p->out.getD j 0=out'.getD j 0)->ZM out rk p=ZM out' rk p
 |[],_,_=>rfl
 |k :: r,p,h=>by
  unfold ZM;by_cases hc:p<0\/k≠p
  ·rw[if_pos hc,if_pos hc]
  ·rw[if_neg hc,if_neg hc,h p.toNat (by omega)];exact Yn r _ (fun j hj=>h j (by omega))
theorem zae(l:List Nd){out out':List Nat}:∀(rk:List Int) (p:Int),(∀j:Nat,(j:Int)<=p->out.getD j 0=out'.getD j 0)->Vk l out rk p=Vk l out' rk p
 |[],_,_=>rfl
 |k :: r,p,h=>by
  unfold Vk;by_cases hc:p<0\/k≠p\/yN.item.is (zE l p)=false
  ·rw[if_pos hc,if_pos hc]
  ·rw[if_neg hc,if_neg hc,h p.toNat (by omega)];exact zae l r _ (fun j hj=>h j (by omega))
def xL(l:List Nd)(i:Nat):Prop:=(jH l i).length=i
theorem zgA(l:List Nd):xL l 0:=rfl
theorem zak{l:List Nd}{i:Nat}(h:xL l (i+1)):xL l i/\∃p,ZM (jH l i) ((l[i]?).elim [] Nd.kids).reverse ((i:Int)-1)=some p/\jH l (i+1)=jH l i ++ [((i:Int)-p).toNat]:=by
 have hl:=Ym l i;unfold xL at h ⊢;unfold jH at h;split at h
 ·omega
 ·have hi:(jH l i).length=i:=by omega
  refine⟨hi,?_⟩;split at h
  ·omega
  ·rename_i p hp;refine⟨p,hp,?_⟩
   conv=>lhs;unfold jH
   rw[if_neg (by omega),hp]
theorem zfu{l:List Nd}{i:Nat}{p:Int}(h:xL l i)(hp:ZM (jH l i) ((l[i]?).elim [] Nd.kids).reverse ((i:Int)-1)=some p):xL l (i+1)/\jH l (i+1)=jH l i ++ [((i:Int)-p).toNat]:=by
 have e:jH l (i+1)=jH l i ++ [((i:Int)-p).toNat]:=by
  unfold xL at h
  conv=>lhs;unfold jH
  rw[if_neg (by omega),hp]
 refine⟨?_,e⟩;unfold xL at *;rw[e,pC,h,pI]
theorem XN{l:List Nd}{i:Nat}:∀{n:Nat},xL l n->i<=n->xL l i/\∀j,j<i->(jH l n).getD j 0=(jH l i).getD j 0
 |0,h,hi=>by
  have:i=0:=by omega
  subst this;exact⟨h,fun j hj=>absurd hj (wG _)⟩
 |n+1,h,hi=>by
  by_cases e:i=n+1
  ·subst e;exact⟨h,fun _ _=>rfl⟩
  ·obtain⟨h1,p,_,he⟩:=zak h;obtain⟨h2,h3⟩:=XN h1 (by omega:i<=n);refine⟨h2,fun j hj=>?_⟩;rw[he,pA,wQ (by unfold xL at h1;omega),<-pA];exact h3 j hj
theorem VG{out:List Nat}:∀(rk:List Int) (p e:Int),ZM out rk p=some e->e<=p
 |[],p,e,h=>by cases h;exact Int.le_refl _
 |k :: r,p,e,h=>by
  unfold ZM at h;split at h
  ·cases h
  ·have:=VG r _ e h;omega
theorem qF{l:List Nd}{n:Nat}(h:xL l n){i:Nat}(hi:i<n):∃p:Int,ZM (jH l n) ((l[i]?).elim [] Nd.kids).reverse ((i:Int)-1)=some p/\((jH l n).getD i 0:Int)=i-p/\p<i:=by
 obtain⟨h1,h1e⟩:=XN h (by omega:i+1<=n);obtain⟨h2,p,hp,he⟩:=zak h1;have hb:=VG _ _ _ hp;refine⟨p,?_,?_,by omega⟩
 ·rw[Yn (out':=jH l i) _ _ (fun j hj=>?_)]
  ·exact hp
  ·rw[h1e j (by omega),he,pA,wQ (by unfold xL at h2;omega),<-pA]
 ·rw[h1e i (by omega),he,pA,wM (by unfold xL at h2;omega)];have:i-(jH l i).length=0:=by unfold xL at h2;omega
  rw[this];simp;omega
theorem zdz{h:xl}{m i kd:Nat}(hs:jp h m i kd=true):∃s,h.at_ i m=some s/\s.is kd=true:=by
 unfold jp at hs;cases ha:h.at_ i m with
 |none=>rw[ha] at hs;cases hs
 |some s=>rw[ha] at hs;exact⟨s,rfl,hs⟩
theorem zcn(k:Int)(r:List Int):(k :: r).reverse.getD r.length 0=k:=by
 rw[List.reverse_cons,pA,wM (by simp)];simp
theorem zco(k:Int)(r:List Int){p:Nat}(hp:p<r.length):(k :: r).reverse.getD p 0=r.reverse.getD p 0:=by
 rw[List.reverse_cons,pA,wQ (by simpa using hp),<-pA]
theorem zc3{l:List Nd}(hF:xL l l.length)(hR:∀x∈l,xH l x=true):∀(i f:Nat) (s:yN),i<l.length->i<f->s.is (zE l i)=true->qK l f i i s=some ((i:Int)-((jH l l.length).getD i 0:Nat))
 |i,0,s,_,hf,_=>absurd hf (wG _)
 |i,f+1,s,hi,hf,hs=>by
  obtain⟨p,hp,hsz,hpi⟩:=qF hF hi;have hx:l[i]? =some l[i]:=glE hi;have hr:=hR l[i] (wC _);rw[hx] at hp;simp only[Option.elim] at hp;have hk:zE l i=l[i].kind:=by unfold zE;rw[wE,hx];rfl
  rw[hk] at hs;generalize l[i]=x at *;unfold xH at hr;cases hsh:zF x.kind with
  |none=>rw[hsh] at hr;cases hr
  |some h=>
   rw[hsh] at hr;simp only[pG,pO,List.mem_range] at hr;obtain⟨⟨⟨h1,h2⟩,h3⟩,h4⟩:=hr;have key:∀(rk:List Int) (next e:Int),next<i->ZM (jH l l.length) rk next=some e->(∀q,q<rk.length->jp h x.kids.length q (zE l (rk.reverse.getD q 0))=true)->Zk (qK l f) h x.kids.length rk next=some e:=by
    intro rk;induction rk with
    |nil=>intro next e _ he _;exact he
    |cons k r ih=>
     intro next e hn he hq
     unfold ZM at he;split at he
     ·cases he
     ·rename_i hc;have hk0:0<=next/\k=next:=by omega
      obtain⟨k',rfl⟩:=pP hk0.1;have hsr:=hq r.length (by simp);rw[zcn,hk0.2] at hsr;obtain⟨sr,ha,hsr⟩:=zdz hsr;unfold Zk;rw[ha,hk0.2];simp only;rw[zc3 hF hR k' f sr (by omega) (by omega) hsr,Option.bind_some];exact ih _ e (by omega) (by simpa using he) (fun q hq'=>by have:=hq q (by simp;omega);rwa [zco k r hq'] at this)
   unfold qK;rw[if_neg (by omega),wE,hx];simp only[hsh];rw[if_pos (by rw[hs,h1,h2,h3];rfl),key _ _ p (by omega) hp (fun q hq=>by
    rw[List.reverse_reverse];exact h4 q (by simpa using hq)),hsz]
   congr 1;omega
termination_by i=>i
theorem zc6{l:List Nd}(hF:xL l l.length)(hR:∀x∈l,xH l x=true):∀(rk:List Int) (next e:Int),next<l.length->Vk l (jH l l.length) rk next=some e->Yh l rk next=some e
 |[],_,_,_,h=>h
 |k :: r,next,e,hn,h=>by
  unfold Vk at h;split at h
  ·cases h
  ·rename_i hc;have hk0:0<=next/\k=next:=by omega
   obtain⟨k',rfl⟩:=pP hk0.1;unfold Yh;rw[hk0.2,zc3 hF hR k' _ .item (by omega) (by omega) (by
    cases hb:yN.item.is (zE l (k':Int)) with
    |true=>rfl
    |false=>exact absurd (.inr (.inr hb)) hc),Option.bind_some]
   exact zc6 hF hR r _ e (by omega) h
def Vj(l:List Nd)(e i:Int):Prop:=∀j:Nat,e<j->(j:Int)<=i->∃x,l[j]? =some x/\xH l x=true
theorem Vj.join{l:List Nd}{a b c:Int}(h:Vj l a b)(k:Vj l b c):Vj l a c:=fun j h1 h2=>by
 by_cases e:(j:Int)<=b
 ·exact h j h1 e
 ·exact k j (by omega) h2
def XT(l:List Nd)(e:Int):Prop:=xL l (e+1).toNat
theorem zc2{l:List Nd}:∀(f:Nat) (i num:Int) (s:yN) (e:Int),-1<=i->i<l.length->qK l f i num s=some e->num=i/\0<=i/\-1<=e/\e<i/\s.is (zE l i)=true/\(XT l e->XT l i/\((jH l (i+1).toNat).getD i.toNat 0:Int)=i-e/\Vj l e i)
 |0,_,_,_,_,_,_,h=>by cases h
 |f+1,i,num,s,e,hi,hl,h=>by
  unfold qK at h;split at h
  ·cases h
  ·rename_i hc;have hc2:0<=i/\num=i:=by omega
   obtain⟨rfl⟩:=hc2.2;obtain⟨i,rfl⟩:=pP hc2.1;have hil:i<l.length:=by omega
   rw[wE,glE hil] at h;have hx:l[i]? =some l[i]:=glE hil;have hk:zE l i=l[i].kind:=by unfold zE;rw[wE,hx];rfl
   generalize l[i]=x at *;simp only at h;cases hsh:zF x.kind with
   |none=>rw[hsh] at h;cases h
   |some sh=>
    rw[hsh] at h;simp only at h;split at h
    ·rename_i hcond;simp only[pG] at hcond;obtain⟨⟨⟨hs,h1⟩,h2⟩,h3⟩:=hcond;have key:∀(rk:List Int) (next e:Int),-1<=next->next<l.length->Zk (qK l f) sh x.kids.length rk next=some e->-1<=e/\e<=next/\(∀q,q<rk.length->jp sh x.kids.length q (zE l (rk.reverse.getD q 0))=true)/\(XT l e->XT l next/\ZM (jH l (next+1).toNat) rk next=some e/\Vj l e next):=by
      intro rk;induction rk with
      |nil=>
       intro next e hn _ he
       cases he;exact⟨hn,Int.le_refl _,fun q hq=>absurd hq (wG _),fun hf=>⟨hf,rfl,fun j h1 h2=>by omega⟩⟩
      |cons k r ih=>
       intro next e hn hnl he
       unfold Zk at he;cases ha:sh.at_ r.length x.kids.length with
       |none=>rw[ha] at he;cases he
       |some sr=>
        rw[ha] at he;simp only at he;cases hg:qK l f next k sr with
        |none=>rw[hg] at he;cases he
        |some e1=>
         rw[hg,Option.bind_some] at he;obtain⟨hk1,hn0,he1,he2,hsr,hful⟩:=zc2 f next k sr e1 hn hnl hg
         obtain⟨i1,i2,i3,i4⟩:=ih e1 e he1 (by omega) he;refine⟨i1,by omega,fun q hq=>?_,fun hf=>?_⟩
         ·have hq2:q=r.length\/q<r.length:=by simp at hq;omega
          rcases hq2 with rfl|hq2
          ·rw[zcn,hk1];unfold jp;rw[ha];exact hsr
          ·rw[zco k r hq2];exact i3 q hq2
         ·obtain⟨j1,j2,j3⟩:=i4 hf;obtain⟨k1,k2,k3⟩:=hful j1;refine⟨k1,?_,j3.join k3⟩;unfold ZM;rw[if_neg (by omega),k2,show next-(next-e1)=e1 by omega,<-j2];exact Yn _ _ (fun j hj=>(XN k1 (by omega:(e1+1).toNat<=(next+1).toNat)).2 j (by omega))
     obtain⟨a1,a2,a3,a4⟩:=key _ _ e (by omega) (by omega) h;refine⟨rfl,by omega,a1,by omega,by rw[hk];exact hs,fun hf=>?_⟩;obtain⟨b1,b2,b3⟩:=a4 hf;have hn1:((i:Int)-1+1).toNat=i:=by omega
     unfold XT at b1;rw[hn1] at b1 b2;have hu:=zfu (p:=e) b1 (by rw[hx];exact b2);have hn2:((i:Int)+1).toNat=i+1:=by omega
     refine⟨by unfold XT;rw[hn2];exact hu.1,?_,?_⟩
     ·rw[hn2,wE,hu.2,pA,wM (by unfold xL at b1;omega)];have:i-(jH l i).length=0:=by unfold xL at b1;omega
      rw[this];simp;omega
     ·refine b3.join (fun j h1' h2'=>?_);have hj:j=i:=by omega
      subst hj;refine⟨x,hx,?_⟩;unfold xH;rw[hsh];simp only[pG,pO,List.mem_range];exact⟨⟨⟨h1,h2⟩,h3⟩,fun q hq=>by have:=a3 q (by simpa using hq);rwa [List.reverse_reverse] at this⟩
    ·cases h
theorem zc5{l:List Nd}:∀(rk:List Int) (next e:Int),-1<=next->next<l.length->Yh l rk next=some e->-1<=e/\e<=next/\(XT l e->XT l next/\Vk l (jH l (next+1).toNat) rk next=some e/\Vj l e next)
 |[],next,e,hn,_,h=>by
  cases h;exact⟨hn,Int.le_refl _,fun hf=>⟨hf,rfl,fun j h1 h2=>by omega⟩⟩
 |k :: r,next,e,hn,hnl,h=>by
  unfold Yh at h;cases hg:qK l (l.length+1) next k .item with
  |none=>rw[hg] at h;cases h
  |some e1=>
   rw[hg,Option.bind_some] at h;obtain⟨hk1,hn0,he1,he2,hsr,hful⟩:=zc2 _ next k _ e1 hn hnl hg
   obtain⟨i1,i2,i4⟩:=zc5 r e1 e he1 (by omega) h;refine⟨i1,by omega,fun hf=>?_⟩;obtain⟨j1,j2,j3⟩:=i4 hf;obtain⟨k1,k2,k3⟩:=hful j1;refine⟨k1,?_,j3.join k3⟩;unfold Vk;rw[if_neg (by rw[hsr];simp;omega),k2,show next-(next-e1)=e1 by omega,<-j2];exact zae l _ _ (fun j hj=>(XN k1 (by omega:(e1+1).toNat<=(next+1).toNat)).2 j (by omega))
theorem Jq{out:List Nat}:∀(rk:List Int) (p e:Int),ZM out rk p=some e->∀k∈rk,0<=k/\k<=p
 |[],_,_,_,k,hk=>by cases hk
 |k :: r,p,e,h,j,hj=>by
  unfold ZM at h;split at h
  ·cases h
  ·rcases wD.1 hj with rfl|hj
   ·omega
   ·have:=Jq r _ e h j hj;omega
theorem zbw{l:List Nd}(h:xL l l.length){x:Nd}(hx:x∈l):InR l x:=by
 obtain⟨i,hi,rfl⟩:=List.mem_iff_getElem.1 hx;obtain⟨p,hp,_,_⟩:=qF h hi;rw[glE hi] at hp;intro k hk;have:=Jq _ _ _ hp k (wY.2 hk);omega
theorem Yy(t:yo)(hm:∀x∈t.nodes,x.kids.length<=1999):qD t=YM t:=by
 rw[pW];constructor
 ·intro h;unfold qD at h;cases hI:Yh t.nodes t.items.reverse ((t.nodes.length:Int)-1) with
  |none=>rw[hI] at h;cases h
  |some e=>
   rw[hI] at h;simp only[pH] at h;obtain⟨h1,h2,h3⟩:=zc5 _ _ e (by omega) (by omega) hI;have he:e= -1:=by omega
   subst he;obtain⟨h4,h5,h6⟩:=h3 (zgA _);have hn:((t.nodes.length:Int)-1+1).toNat=t.nodes.length:=by omega
   unfold XT at h4;rw[hn] at h4 h5;have hall:t.nodes.all (yj t.nodes)=true:=by
    rw[pO];intro x hx;rw[<-zcm (zbw h4 hx) (hm x hx)];obtain⟨j,hj,rfl⟩:=List.mem_iff_getElem.1 hx;obtain⟨y,hy,hr⟩:=h6 j (by omega) (by omega);rw[glE hj] at hy;cases hy;exact hr
   unfold YM;rw[h5,hall];unfold xL at h4;rw[h4];simp
 ·intro h;unfold YM at h;rw[pG] at h;obtain⟨h1,h2⟩:=h;have hF:xL t.nodes t.nodes.length:=by
   have:=Ym t.nodes t.nodes.length;unfold xL;simp at h1;omega
  cases hI:Vk t.nodes (jH t.nodes t.nodes.length) t.items.reverse ((t.nodes.length:Int)-1) with
  |none=>rw[hI] at h2;cases h2
  |some e=>
   rw[hI] at h2;simp only[pG,pO,pS] at h2;have hR:∀x∈t.nodes,xH t.nodes x=true:=fun x hx=>by rw[zcm (zbw hF hx) (hm x hx)];exact h2.1 x hx
   have:=zc6 hF hR _ _ e (by omega) hI;unfold qD;rw[this];simp only[pH];omega
def zbz(l:List Nd):Nat->List Nat->Nat->Nat
 |0,_,most=>most
 |i+1,deep,most=>zbz l i (xZ (max 1 (deep.getD i 0)) ((l[i]?).elim [] Nd.kids) (deep.set i (max 1 (deep.getD i 0)))) (max most (max 1 (deep.getD i 0)))
def KN(t:yo):Nat:=zbz t.nodes t.nodes.length (List.replicate t.nodes.length 0) 0
def KR(l:List Nd)(x:Nd)(k:Nat):Nat:=x.kids.countP fun j=>zE l j == k
def JV(l:List Nd)(x:Nd):Bool:=
 if x.kind == 102 || x.kind == 103 || x.kind == 33 then decide (KR l x 88<=6)
 else if x.kind == 85 || x.kind == 24 then decide (x.kids.length<=7)
 else if x.kind == 100 || x.kind == 26 then decide (x.kids.length<=6)
 else if x.kind == 101 then decide (x.kids.length<=8)
 else if x.kind == 89 || x.kind == 25 || x.kind == 70 || x.kind == 35 then decide (x.kids.length<=4)
 else if x.kind == 31 then decide (x.kids.length<=13)
 else if x.kind == 40 then decide (1<=x.n) && decide (x.n<=8)
 else true
def Qv(t:yo):Nat:=
 if 1000<t.nodes.length\/40<t.items.length then 5
 else if !YM t then 4
 else if 40<KN t then 5
 else if t.nodes.any fun x=> !JV t.nodes x then 3
 else 0
def zlN(t:yo):Prop:=∀j:Nat,j<t.nodes.length->(j:Int)∈t.items\/∃i,j<i/\∃x,t.nodes[i]? =some x/\(j:Int)∈x.kids
theorem VF{out:List Nat}:∀(rk:List Int) (p e:Int),ZM out rk p=some e->∀j:Nat,e<j->(j:Int)<=p->∃k:Nat,(k:Int)∈rk/\(k:Int)<=p/\j<=k/\(k:Int)-(out.getD k 0:Nat)<j
 |[],p,e,h,j,h1,h2=>by cases h;omega
 |k :: r,p,e,h,j,h1,h2=>by
  unfold ZM at h;split at h
  ·cases h
  ·rename_i hc;have hk0:0<=p/\k=p:=by omega
   obtain⟨q,rfl⟩:=pP hk0.1;rw[wE] at h;by_cases hj:(q:Int)-(out.getD q 0:Nat)<j
   ·exact⟨q,by rw[hk0.2];exact List.mem_cons_self ..,Int.le_refl _,by omega,hj⟩
   ·obtain⟨k2,a,b,c,d⟩:=VF r _ e h j h1 (by omega);exact⟨k2,pY _ a,by omega,c,d⟩
theorem zad(l:List Nd){out:List Nat}:∀(rk:List Int) (p e:Int),Vk l out rk p=some e->∀j:Nat,e<j->(j:Int)<=p->∃k:Nat,(k:Int)∈rk/\(k:Int)<=p/\j<=k/\(k:Int)-(out.getD k 0:Nat)<j
 |[],p,e,h,j,h1,h2=>by cases h;omega
 |k :: r,p,e,h,j,h1,h2=>by
  unfold Vk at h;split at h
  ·cases h
  ·rename_i hc;have hk0:0<=p/\k=p:=by omega
   obtain⟨q,rfl⟩:=pP hk0.1;rw[wE] at h;by_cases hj:(q:Int)-(out.getD q 0:Nat)<j
   ·exact⟨q,by rw[hk0.2];exact List.mem_cons_self ..,Int.le_refl _,by omega,hj⟩
   ·obtain⟨k2,a,b,c,d⟩:=zad l r _ e h j h1 (by omega);exact⟨k2,pY _ a,by omega,c,d⟩
theorem zb6{l:List Nd}(hF:xL l l.length):∀(i j:Nat),i<l.length->j<i->(i:Int)-((jH l l.length).getD i 0:Nat)<j->∃i',j<i'/\∃x,l[i']? =some x/\(j:Int)∈x.kids
 |i,j,hi,hj,h=>by
  obtain⟨p,hp,hsz,hpi⟩:=qF hF hi;obtain⟨k,hk,hkp,hjk,hlt⟩:=VF _ _ p hp j (by omega) (by omega);have hx:l[i]? =some l[i]:=glE hi;rw[hx] at hk;simp only[Option.elim,wY] at hk;by_cases e:j=k
  ·subst e;exact⟨i,hj,l[i],hx,hk⟩
  ·exact zb6 hF k j (by omega) (by omega) hlt
termination_by i=>i
theorem zjz{t:yo}(hF:xL t.nodes t.nodes.length)(hI:Vk t.nodes (jH t.nodes t.nodes.length) t.items.reverse ((t.nodes.length:Int)-1)=some (-1)):zlN t:=fun j hj=>by
 obtain⟨k,hk,hkp,hjk,hlt⟩:=zad _ _ _ _ hI j (by omega) (by omega);by_cases e:j=k
 ·subst e;exact .inl (wY.1 hk)
 ·exact .inr (zb6 hF k j (by omega) (by omega) hlt)
theorem uu(l:List Nat)(i j v:Nat):(l.set i v).getD j 0=if i=j/\j<l.length then v else l.getD j 0:=by
 rw[pA,List.getElem?_set,pA];by_cases e:i=j
 ·subst e;by_cases h:i<l.length
  ·simp[h]
  ·simp[h]
 ·simp[e]
structure zlO(t:yo)(i:Nat)(P R:List Nat):Prop where
 lp:P.length=t.nodes.length
 lr:R.length=t.nodes.length
 eq:∀j,j<i->(R.getD j 0=0/\P.getD j 0=(if (j:Int)∈t.items then 1 else 0))\/(1<=R.getD j 0/\P.getD j 0=R.getD j 0)
 got:∀i' x,i<=i'->t.nodes[i']? =some x->∀j:Nat,(j:Int)∈x.kids->j<i->1<=R.getD j 0
theorem ZG(d:Nat):∀(k:List Int) (l:List Nat),(xZ d k l).length=l.length
 |[],l=>rfl
 |a :: r,l=>by unfold xZ;rw[ZG d r,List.length_set]
theorem vZ(d:Nat):∀(k:List Int) (l:List Nat) (j:Nat),j<l.length->(xZ d k l).getD j 0=if (∃a∈k,a.toNat=j) then d+1 else l.getD j 0
 |[],l,j,_=>by simp[xZ]
 |a :: r,l,j,h=>by
  unfold xZ;rw[vZ d r _ j (by rw[List.length_set];exact h),uu];by_cases e:a.toNat=j
  ·by_cases e2:∃b∈r,b.toNat=j
   ·rw[if_pos e2,if_pos (by obtain⟨b,hb,hbj⟩:=e2;exact⟨b,pY _ hb,hbj⟩)]
   ·rw[if_neg e2,if_pos ⟨e,h⟩,if_pos ⟨a,List.mem_cons_self ..,e⟩]
  ·by_cases e2:∃b∈r,b.toNat=j
   ·rw[if_pos e2,if_pos (by obtain⟨b,hb,hbj⟩:=e2;exact⟨b,pY _ hb,hbj⟩)]
   ·rw[if_neg e2,if_neg (fun h'=>e h'.1),if_neg (by
     rintro ⟨b,hb,hbj⟩;rcases wD.1 hb with rfl|hb
     ·exact e hbj
     ·exact e2 ⟨b,hb,hbj⟩)]
theorem zfA{t:yo}(hH:zlN t):∀(i:Nat) (P R:List Nat) (most:Nat),i<=t.nodes.length->zlO t i P R->vH t.nodes i P most=zbz t.nodes i R most
 |0,_,_,_,_,_=>rfl
 |i+1,P,R,most,hi,D=>by
  have hil:i<t.nodes.length:=by omega
  have hx:t.nodes[i]? =some t.nodes[i]:=glE hil;have hd:P.getD i 0=max 1 (R.getD i 0):=by
   rcases D.eq i (by omega) with⟨h1,h2⟩|⟨h1,h2⟩
   ·rcases hH i hil with hh|⟨i',hlt,x,hx',hm⟩
    ·rw[h2,if_pos hh,h1];rfl
    ·have:=D.got i' x (by omega) hx' i hm (by omega);omega
   ·rw[h2];omega
  unfold vH zbz;rw[hx,<-hd];simp only[Option.elim];generalize t.nodes[i]=x at *;refine zfA hH i _ _ _ (by omega) ⟨by rw[ZG,D.lp],by rw[ZG,List.length_set,D.lr],fun j hj=>?_,fun i' y hi' hy j hjm hji=>?_⟩
  ·rw[vZ _ _ _ j (by first|(rw[D.lp];omega)|(rw[List.length_set,D.lr];omega)),vZ _ _ _ j (by first|(rw[D.lp];omega)|(rw[List.length_set,D.lr];omega))];by_cases e:∃a∈x.kids,a.toNat=j
   ·rw[if_pos e,if_pos e];exact .inr ⟨by omega,rfl⟩
   ·rw[if_neg e,if_neg e,uu,if_neg (by omega)];exact D.eq j (by omega)
  ·rw[vZ _ _ _ j (by rw[List.length_set,D.lr];omega)];by_cases e:∃a∈x.kids,a.toNat=j
   ·rw[if_pos e];omega
   ·rw[if_neg e,uu,if_neg (by omega)];have hii:i'≠i:=fun e2=>by
     subst e2;rw[hx] at hy;cases hy;exact e ⟨(j:Int),hjm,by simp⟩
    exact D.got i' y (by omega) hy j hjm (by omega)
theorem zac(n:Nat):∀(l:List Int) (d:List Nat) (j:Nat),j<d.length->(l.foldl (fun (d:List Nat) k=>d.set k.toNat 1) d).getD j 0=if (∃a∈l,a.toNat=j) then 1 else d.getD j 0
 |[],d,j,_=>by simp
 |a :: r,d,j,h=>by
  rw[List.foldl_cons,zac n r _ j (by rw[List.length_set];exact h),uu];by_cases e:a.toNat=j
  ·by_cases e2:∃b∈r,b.toNat=j
   ·rw[if_pos e2,if_pos (by obtain⟨b,hb,hbj⟩:=e2;exact⟨b,pY _ hb,hbj⟩)]
   ·rw[if_neg e2,if_pos ⟨e,h⟩,if_pos ⟨a,List.mem_cons_self ..,e⟩]
  ·by_cases e2:∃b∈r,b.toNat=j
   ·rw[if_pos e2,if_pos (by obtain⟨b,hb,hbj⟩:=e2;exact⟨b,pY _ hb,hbj⟩)]
   ·rw[if_neg e2,if_neg (fun h'=>e h'.1),if_neg (by
     rintro ⟨b,hb,hbj⟩;rcases wD.1 hb with rfl|hb
     ·exact e hbj
     ·exact e2 ⟨b,hb,hbj⟩)]
theorem zab:∀(l:List Int) (d:List Nat),(l.foldl (fun (d:List Nat) k=>d.set k.toNat 1) d).length=d.length
 |[],d=>rfl
 |a :: r,d=>by rw[List.foldl_cons,zab r,List.length_set]
theorem zbp(l:List Nd){out:List Nat}:∀(rk:List Int) (p e:Int),Vk l out rk p=some e->∀k∈rk,0<=k/\k<=p
 |[],_,_,_,k,hk=>by cases hk
 |k :: r,p,e,h,j,hj=>by
  unfold Vk at h;split at h
  ·cases h
  ·rcases wD.1 hj with rfl|hj
   ·omega
   ·have:=zbp l r _ e h j hj;omega
theorem zek{t:yo}(hF:xL t.nodes t.nodes.length)(hI:Vk t.nodes (jH t.nodes t.nodes.length) t.items.reverse ((t.nodes.length:Int)-1)=some (-1)):xJ t=KN t:=by
 unfold xJ KN;refine zfA (zjz hF hI) _ _ _ _ (pE _) ⟨by rw[zab,List.length_replicate],List.length_replicate,fun j hj=>.inl ⟨?_,?_⟩,fun i' x hi' hx j hm hj=>?_⟩
 ·simp[pA,hj]
 ·rw[zac t.nodes.length _ _ j (by rw[List.length_replicate];exact hj)];have e0:(List.replicate t.nodes.length 0).getD j 0=0:=by simp[pA,hj]
  rw[e0];have hiff:(∃a∈t.items,a.toNat=j)↔(j:Int)∈t.items:=by
   constructor
   ·rintro ⟨a,ha,rfl⟩;have:=zbp _ _ _ _ hI a (wY.2 ha);rw[Int.toNat_of_nonneg this.1];exact ha
   ·exact fun h=>⟨_,h,by simp⟩
  by_cases h:(j:Int)∈t.items
  ·rw[if_pos (hiff.2 h),if_pos h]
  ·rw[if_neg (fun h'=>h (hiff.1 h')),if_neg h]
 ·have:=(gtL hx);omega
theorem zel(p:Int->Bool)(l:List Int)(h:∀x∈l,p x=true):l.countP p=l.length:=List.countP_eq_length.2 h
theorem zgI(p:Int->Bool)(l:List Int)(h:∀x∈l,p x=false):l.countP p=0:=List.countP_eq_zero.2 (fun x hx=>by rw[h x hx];decide)
theorem Jc(l:List Nd)(x:Nd)(c:Nat)(hc:c<=x.kids.length)(h1:∀i,i+c<x.kids.length->zE l (x.kids.getD i 0)=88)(h2:∀i,x.kids.length<=i+c->i<x.kids.length->zE l (x.kids.getD i 0)≠88):KR l x 88=x.kids.length-c:=by
 unfold KR;rw[<-List.take_append_drop (x.kids.length-c) x.kids,List.countP_append,zel,zgI]
 ·simp
 ·intro k hk;obtain⟨i,hi,rfl⟩:=List.mem_iff_getElem.1 hk;rw[wW] at hi;rw[List.getElem_drop];have:=h2 (x.kids.length-c+i) (by omega) (by omega);rw[pA,glE (by omega),Option.getD_some] at this;rw[pB];exact this
 ·intro k hk;obtain⟨i,hi,rfl⟩:=List.mem_iff_getElem.1 hk;rw[wU] at hi;rw[List.getElem_take];have:=h1 i (by omega);rw[pA,glE (by omega),Option.getD_some] at this;rw[pS];exact this
theorem zf3{l:List Nd}{x:Nd}(hlo:(xd x.kind).1<=x.kids.length)(hs:∀i,i<x.kids.length->zS x.kind x.n x.kids.length i (zE l (x.kids.getD i 0))=true)(hm:x.kids.length<=1000):ye x=JV l x:=by
 have hfun:(x.kind=102\/x.kind=33)->KR l x 88=x.kids.length-2/\2<=x.kids.length:=fun hk=>by
  have h2:2<=x.kids.length:=by rcases hk with hk|hk <;> (rw[hk] at hlo;exact hlo)
  have hs':∀i,i<x.kids.length->((decide (i+2<x.kids.length) && zE l (x.kids.getD i 0) == 88) || (decide (i+2=x.kids.length) && yN.type.is (zE l (x.kids.getD i 0))) || (decide (i+1=x.kids.length) && zE l (x.kids.getD i 0) == 28))=true:=fun i hi=>by
   have:=hs i hi;rcases hk with hk|hk <;> (rw[hk] at this;exact this)
  refine⟨Jc l x 2 h2 (fun i hi=>?_) (fun i h3 h4=>?_),h2⟩
  ·have:=hs' i (by omega);simp only[wF,pG,pH,pS] at this;omega
  ·have:=hs' i h4;simp only[wF,pG,pH,pS,yN.is] at this;omega
 have hext:x.kind=103->KR l x 88=x.kids.length-1/\1<=x.kids.length:=fun hk=>by
  have h2:1<=x.kids.length:=by rw[hk] at hlo;exact hlo
  have hs':∀i,i<x.kids.length->((decide (i+1<x.kids.length) && zE l (x.kids.getD i 0) == 88) || (decide (i+1=x.kids.length) && yN.type.is (zE l (x.kids.getD i 0))))=true:=fun i hi=>by
   have:=hs i hi;rw[hk] at this;exact this
  refine⟨Jc l x 1 h2 (fun i hi=>?_) (fun i h3 h4=>?_),h2⟩
  ·have:=hs' i (by omega);simp only[wF,pG,pH,pS] at this;omega
  ·have:=hs' i h4;simp only[wF,pG,pH,pS,yN.is] at this;omega
 have h1000:decide (x.kids.length<=1000)=true:=by rw[pH];exact hm
 unfold ye JV js;generalize hkk:x.kind=k at *;by_cases e1:k=102
 ·subst e1;obtain⟨a,b⟩:=hfun (.inl rfl);simp[a]
 by_cases e2:k=33
 ·subst e2;obtain⟨a,b⟩:=hfun (.inr rfl);simp[a]
 by_cases e3:k=103
 ·subst e3;obtain⟨a,b⟩:=hext rfl;simp[a]
 by_cases e4:k=85
 ·subst e4;simp
 by_cases e5:k=24
 ·subst e5;simp
 by_cases e6:k=100
 ·subst e6;simp
 by_cases e7:k=26
 ·subst e7;simp
 by_cases e8:k=101
 ·subst e8;simp
 by_cases e9:k=89
 ·subst e9;simp
 by_cases e10:k=25
 ·subst e10;simp
 by_cases e11:k=70
 ·subst e11;simp
 by_cases e12:k=35
 ·subst e12;simp
 by_cases e13:k=31
 ·subst e13;simp
 by_cases e14:k=40
 ·subst e14;simp
 simp[e1,e2,e3,e4,e5,e6,e7,e8,e9,e10,e11,e12,e13,e14,hm]
theorem zhj{l:List Nd}{x:Nd}(hr:yj l x=true)(hm:x.kids.length<=1000):ye x=JV l x:=by
 unfold yj at hr;simp only[pG,pO,List.mem_range,pH] at hr;obtain⟨⟨⟨⟨⟨⟨⟨_,hlo⟩,_⟩,_⟩,_⟩,_⟩,_⟩,hs⟩:=hr;exact zf3 hlo hs hm
theorem Zj{t:yo}(h:YM t=true):xL t.nodes t.nodes.length/\Vk t.nodes (jH t.nodes t.nodes.length) t.items.reverse ((t.nodes.length:Int)-1)=some (-1)/\∀x∈t.nodes,yj t.nodes x=true:=by
 unfold YM at h;rw[pG] at h;obtain⟨h1,h2⟩:=h;have hF:xL t.nodes t.nodes.length:=by
  have:=Ym t.nodes t.nodes.length;unfold xL;simp at h1;omega
 cases hI:Vk t.nodes (jH t.nodes t.nodes.length) t.items.reverse ((t.nodes.length:Int)-1) with
 |none=>rw[hI] at h2;cases h2
 |some e=>
  rw[hI] at h2;simp only[pG,pO,pS] at h2;exact⟨hF,by rw[h2.2],h2.1⟩
theorem zc9(t:yo)(hm:∀x∈t.nodes,x.kids.length<=1000):zR t=Qv t:=by
 unfold zR Qv;rw[Yy t (fun x hx=>by have:=hm x hx;omega)];cases hf:YM t with
 |false=>rfl
 |true=>
  obtain⟨hF,hI,hR⟩:=Zj hf;rw[zek hF hI];have:(t.nodes.any fun x=> !ye x)=t.nodes.any fun x=> !JV t.nodes x:=by
   rw[pW,gC,gC];constructor <;> (rintro ⟨x,hx,h⟩;refine⟨x,hx,?_⟩;have e:=zhj (hR x hx) (hm x hx);first|(rw[e] at h;exact h)|(rw[e];exact h))
  rw[this]
end Lode
