/-
  A part of the proof: contracts of functions; no conditions.
-/
import Derived.Test.YtcagibbaeageoaaGreatDoorRC
set_option maxRecDepth 100000
set_option maxHeartbeats 40000000
set_option linter.unusedSimpArgs false
set_option linter.unusedVariables false
namespace Lode
structure Nd where
 kind:Nat
 text:List UInt8
 n:Int
 kids:List Int
 at_:Int
 deriving DecidableEq
structure yK where
 nodes:List Nd
 items:List Int
 next:Nat
structure zJ where
 toks:List xQ
 len:Nat
inductive qx (α:Type) where
 |ok (a:α) (s:yK):qx α
 |bad (p:Int):qx α
def PM(α:Type):Type:=zJ->yK->qx α
def PM.ret{α:Type}(a:α):PM α:=fun _ s=>.ok a s
def PM.bind{α β:Type}(m:PM α)(f:α->PM β):PM β:=fun E s=>match m E s with
 | .ok a s'=>f a E s'
 | .bad p=>.bad p
instance:Monad PM where
 pure:=PM.ret
 bind:=PM.bind
def zS(E:zJ)(s:yK):xQ:=(E.toks[s.next]?).getD ⟨0,[],E.len⟩
def YP:PM xQ:=fun E s=>.ok (zS E s) s
def zhI{α:Type}:PM α:=fun E s=>.bad (zS E s).at_
def Ym(t:xQ)(l:List (List UInt8)):Bool:=(t.kind == 5 || t.kind == 6) && l.contains t.text
def XQ(l:List (List UInt8)):PM Bool:=fun E s=>.ok (Ym (zS E s) l) s
def jH:PM Unit:=fun _ s=>.ok () {s with next:=s.next+1}
def ZA:PM xQ:=fun E s=>.ok (zS E s) {s with next:=s.next+1}
def zV(x:List UInt8):PM xQ:=fun E s=>if Ym (zS E s) [x] then .ok (zS E s) {s with next:=s.next+1} else .bad (zS E s).at_
def xT(k:Nat):PM xQ:=fun E s=>if (zS E s).kind == k then .ok (zS E s) {s with next:=s.next+1} else .bad (zS E s).at_
def yF(x:List UInt8):PM Bool:=fun E s=>if Ym (zS E s) [x] then .ok true {s with next:=s.next+1} else .ok false s
def zZ(kind:Nat)(text:List UInt8)(n at_:Int)(kids:List Int):PM Int:=fun _ s=>.ok s.nodes.length {s with nodes:=s.nodes ++ [⟨kind,text,n,kids,at_⟩]}
def zeW(k:Int):PM Nat:=fun _ s=>.ok ((s.nodes[k.toNat]?).elim 0 Nd.kind) s
def vW:Nat->PM Int->List Int->PM (List Int)
 |0,_,_=>fun _ _=>.bad 0
 |k+1,part,acc=>do
  let x <-part
  if <-yF [44] then vW k part (acc ++ [x]) else pure (acc ++ [x])
def ul(part:PM Int):PM (List Int):=fun E s=>vW (E.toks.length+1) part [] E s
def jl(part:PM Int):PM (List Int):=do
 let _ <-zV [123]
 let l <-ul part
 let _ <-zV [125]
 pure l
def jF(part:PM Int):PM (List Int):=do
 if <-yF [40] then
  let l <-ul part
  let _ <-zV [41]
  pure l
 else pure []
structure xV where
 expr:PM Int
 unary:PM Int
 bin2:PM Int
 block:PM Int
 branch:PM Int
 kind:PM Int
 pattern:PM Int
def Zj(R:xV):PM Int:=do
 let t <-xT 1
 let _ <-zV [58]
 let k <-R.kind
 zZ 88 t.text 0 t.at_ [k]
def QN(R:xV):PM Int:=do
 let t <-xT 2
 let l <-jF R.kind
 zZ 89 t.text 0 t.at_ l
def Yv(R:xV):PM (List Int):=do
 let _ <-zV [40]
 let l <-(do if <-XQ [[41]] then pure [] else ul (Zj R):PM (List Int))
 let _ <-zV [41]
 let _ <-zV [58]
 let k <-R.kind
 pure (l ++ [k])
def QV(R:xV):PM Int:=do
 let t <-YP
 if t.kind == 2 then
  jH
  zZ 84 t.text 0 t.at_ []
 else if <-yF [105,110,116] then zZ 80 [] 0 t.at_ []
 else if <-yF [98,111,111,108] then zZ 81 [] 0 t.at_ []
 else if <-yF [116,101,120,116] then zZ 82 [] 0 t.at_ []
 else if <-yF [117,110,105,116] then zZ 83 [] 0 t.at_ []
 else if <-yF [99,104,97,110] then
  let k <-R.kind
  zZ 86 [] 0 t.at_ [k]
 else if <-yF [119,101,97,107] then
  let k <-R.kind
  zZ 87 [] 0 t.at_ [k]
 else
  let _ <-zV [102,110]
  let _ <-zV [40]
  let l <-(do if <-XQ [[41]] then pure [] else ul R.kind:PM (List Int))
  let _ <-zV [41]
  let _ <-zV [58]
  let k <-R.kind
  zZ 85 [] 0 t.at_ (l ++ [k])
def Yt(R:xV):PM (Int×Bool):=do
 let t <-YP
 if <-yF [108,101,116] then
  let m <-xT 1
  let _ <-zV [61]
  let x <-R.expr
  let r <-zZ 60 m.text 0 t.at_ [x]
  pure (r,false)
 else if <-yF [118,97,114] then
  let m <-xT 1
  let _ <-zV [61]
  let x <-R.expr
  let r <-zZ 61 m.text 0 t.at_ [x]
  pure (r,false)
 else
  let left <-R.expr
  if <-XQ [[58,61]] then
   let k <-zeW left
   if k == 5 || k == 23 then
    let u <-ZA
    let x <-R.expr
    let r <-zZ 62 [] 0 u.at_ [left,x]
    pure (r,false)
   else zhI
  else pure (left,true)
def qR(R:xV):Nat->List Int->PM (List Int×Int)
 |0,_=>fun _ _=>.bad 0
 |k+1,acc=>do
  if <-XQ [[125]] then pure (acc,0)
  else
   let x <-Yt R
   if x.2 && (<-XQ [[125]]) then pure (acc ++ [x.1],1)
   else
    let _ <-zV [59]
    qR R k (acc ++ [x.1])
def ZT(R:xV):PM Int:=do
 let t <-zV [123]
 let x <-(fun E s=>qR R (E.toks.length+1) [] E s:PM (List Int×Int))
 let _ <-zV [125]
 zZ 28 [] x.2 t.at_ x.1
def xd:Nat->List (List UInt8)
 |0=>[[111,114]]
 |1=>[[97,110,100]]
 |2=>[[61,61],[33,61],[60],[60,61],[62],[62,61],[105,115]]
 |3=>[[43],[45],[43,43]]
 |_=>[[42],[47],[37]]
def qY:Nat->List Nat
 |0=>[22]
 |1=>[21]
 |2=>[14,15,16,17,18,19,20]
 |3=>[8,9,10]
 |_=>[11,12,13]
def Ke(at_:Nat)(t:List UInt8):Nat:=(qY at_).getD ((xd at_).idxOf t) 0
def Ve(at_:Nat)(tight:PM Int):Nat->Int->PM Int
 |0,_=>fun _ _=>.bad 0
 |k+1,left=>do
  if <-XQ (xd at_) then
   let t <-ZA
   let r <-tight
   let x <-zZ (Ke at_ t.text) [] 0 t.at_ [left,r]
   if at_ == 2 then pure x else Ve at_ tight k x
  else pure left
def ZL(at_:Nat)(tight:PM Int):PM Int:=do
 let left <-tight
 (fun E s=>Ve at_ tight (E.toks.length+1) left E s:PM Int)
def zK:List (List UInt8×Nat×Int):=[([105,110],44,0),([121,105,101,108,100],45,0),([99,111,108,108,101,99,116],46,0),([115,101,110,100],41,2),([114,101,99,118],42,1),([111,117,116],43,1),([115,105,122,101],47,1),([115,104,111,119],50,1),([114,101,97,100],51,1),([98,121,116,101],48,2),([99,117,116],49,3),([116,104,114,111,119],37,-1),([115,112,97,119,110],38,-1),([119,101,97,107],39,-1)]
def vg(s:List UInt8):Option (Nat×Int):=(zK.find? fun w=>w.1 == s).map (·.2)
def jG(R:xV):Nat->Bool->List Int->PM (List Int)
 |0,_,acc=>pure acc
 |k+1,first,acc=>do
  let _ <-(do if first then pure () else (do let _ <-zV [44];pure ()):PM Unit)
  let x <-R.expr
  jG R k false (acc ++ [x])
def vA(R:xV)(t:xQ)(w:Nat×Int):PM Int:=do
 let kids <-(do
  if w.2<0 then
   let x <-R.unary
   pure [x]
  else if 0<w.2 then
   let _ <-zV [40]
   let l <-jG R w.2.toNat true []
   let _ <-zV [41]
   pure l
  else pure []:PM (List Int))
 zZ w.1 [] 0 t.at_ kids
def uR(t:xQ):Int:=xC t.text
def zb9(R:xV):PM Int:=do
 let t <-xT 1
 let _ <-zV [58]
 let x <-R.expr
 zZ 27 t.text 0 t.at_ [x]
def zca(R:xV):PM Int:=do
 let p <-R.pattern
 let t <-zV [61,62]
 let x <-R.expr
 zZ 32 [] 0 t.at_ [p,x]
def Ys(R:xV):Nat->List Int->PM (List Int)
 |0,_=>fun _ _=>.bad 0
 |k+1,acc=>do
  let t <-YP
  if <-yF [114,101,99,118] then
   let x <-R.expr
   let _ <-zV [97,115]
   let m <-xT 1
   let _ <-zV [61,62]
   let y <-R.expr
   let r <-zZ 63 m.text 0 t.at_ [x,y]
   if <-yF [44] then Ys R k (acc ++ [r]) else pure (acc ++ [r])
  else if <-yF [115,101,110,100] then
   let x <-R.expr
   let _ <-zV [44]
   let y <-R.expr
   let _ <-zV [61,62]
   let z <-R.expr
   let r <-zZ 64 [] 0 t.at_ [x,y,z]
   if <-yF [44] then Ys R k (acc ++ [r]) else pure (acc ++ [r])
  else
   let _ <-zV [101,108,115,101]
   let _ <-zV [61,62]
   let x <-R.expr
   let r <-zZ 65 [] 0 t.at_ [x]
   pure (acc ++ [r])
def uk(R:xV):PM (List Int):=do
 let _ <-zV [123]
 let l <-(fun E s=>Ys R (E.toks.length+1) [] E s:PM (List Int))
 let _ <-zV [125]
 pure l
def vF(R:xV):PM Int:=do
 let t <-zV [105,102]
 let c <-R.expr
 let b <-R.block
 if <-yF [101,108,115,101] then
  if <-XQ [[105,102]] then
   let x <-R.branch
   zZ 29 [] 0 t.at_ [c,b,x]
  else
   let x <-R.block
   zZ 29 [] 0 t.at_ [c,b,x]
 else zZ 29 [] 0 t.at_ [c,b]
def qm(R:xV)(t:xQ):PM Int:=do
 if <-XQ [[105,102]] then vF R
 else if <-yF [119,104,105,108,101] then
  let c <-R.expr
  let b <-R.block
  zZ 30 [] 0 t.at_ [c,b]
 else if <-yF [109,97,116,99,104] then
  let c <-R.expr
  let l <-jl (zca R)
  zZ 31 [] 0 t.at_ (c :: l)
 else if <-yF [102,110] then
  let l <-Yv R
  let b <-R.block
  zZ 33 [] 0 t.at_ (l ++ [b])
 else if <-yF [116,114,121] then
  let b <-R.block
  let _ <-zV [99,97,116,99,104]
  let m <-xT 1
  let c <-R.block
  zZ 34 m.text 0 t.at_ [b,c]
 else if <-yF [104,111,108,100] then
  let x <-R.expr
  let _ <-zV [97,115]
  let m <-xT 1
  let b <-R.block
  let _ <-zV [101,108,115,101]
  let c <-R.block
  zZ 36 m.text 0 t.at_ [x,b,c]
 else if <-yF [110,101,119] then
  let m <-xT 2
  let l <-jl (zb9 R)
  zZ 26 m.text 0 t.at_ l
 else if <-yF [99,104,97,110] then
  let k <-R.kind
  let _ <-zV [40]
  let m <-xT 3
  let _ <-zV [41]
  zZ 40 [] (uR m) t.at_ [k]
 else
  let _ <-zV [115,101,108,101,99,116]
  let l <-uk R
  zZ 35 [] 0 t.at_ l
def Yw(R:xV):PM Int:=do
 let t <-YP
 if t.kind == 3 then
  jH
  zZ 1 [] (uR t) t.at_ []
 else if t.kind == 4 then
  jH
  zZ 2 t.text 0 t.at_ []
 else if t.kind == 1 then
  jH
  zZ 5 t.text 0 t.at_ []
 else if t.kind == 2 then
  jH
  let l <-jF R.expr
  zZ 25 t.text 0 t.at_ l
 else if <-yF [40] then
  if <-yF [41] then zZ 4 [] 0 t.at_ []
  else
   let x <-R.expr
   let _ <-zV [41]
   pure x
 else if <-yF [116,114,117,101] then zZ 3 [] 1 t.at_ []
 else if <-yF [102,97,108,115,101] then zZ 3 [] 0 t.at_ []
 else match vg t.text with
  |some w=>if t.kind == 5 then (do jH;vA R t w) else qm R t
  |none=>qm R t
def Yu(R:xV):Nat->Int->PM Int
 |0,_=>fun _ _=>.bad 0
 |k+1,left=>do
  let t <-YP
  if <-yF [46] then
   let m <-xT 1
   let x <-zZ 23 m.text 0 t.at_ [left]
   Yu R k x
  else if <-yF [40] then
   let l <-(do if <-XQ [[41]] then pure [] else ul R.expr:PM (List Int))
   let _ <-zV [41]
   let x <-zZ 24 [] 0 t.at_ (left :: l)
   Yu R k x
  else pure left
def Zu(R:xV):PM Int:=do
 if <-XQ [[45]] then
  let t <-ZA
  let x <-R.unary
  zZ 6 [] 0 t.at_ [x]
 else
  let left <-Yw R
  (fun E s=>Yu R (E.toks.length+1) left E s:PM Int)
def zkk(R:xV):PM Int:=ZL 4 (Zu R)
def zab(R:xV):PM Int:=ZL 3 (zkk R)
def XF(R:xV):PM Int:=do
 if <-XQ [[110,111,116]] then
  let t <-ZA
  let x <-R.bin2
  zZ 7 [] 0 t.at_ [x]
 else ZL 2 (zab R)
def zic(R:xV):PM Int:=ZL 0 (ZL 1 (XF R))
def kV(R:xV):PM Int:=do
 let t <-YP
 if t.kind == 1 then
  jH
  zZ 66 t.text 0 t.at_ []
 else if t.kind == 3 then
  jH
  zZ 67 [] (uR t) t.at_ []
 else if t.kind == 4 then
  jH
  zZ 68 t.text 0 t.at_ []
 else if t.kind == 2 then
  jH
  let l <-jF R.pattern
  zZ 70 t.text 0 t.at_ l
 else if <-yF [116,114,117,101] then zZ 69 [] 1 t.at_ []
 else if <-yF [102,97,108,115,101] then zZ 69 [] 0 t.at_ []
 else
  let _ <-zV [45]
  let m <-xT 3
  zZ 67 [] (-(uR m)) t.at_ []
def zki:xV:=⟨fun _ _=>.bad 0,fun _ _=>.bad 0,fun _ _=>.bad 0,fun _ _=>.bad 0,fun _ _=>.bad 0,fun _ _=>.bad 0,fun _ _=>.bad 0⟩
def YN:Nat->xV
 |0=>zki
 |n+1=>⟨zic (YN n),Zu (YN n),XF (YN n),ZT (YN n),vF (YN n),QV (YN n),kV (YN n)⟩
def Xt(R:xV):PM Int:=do
 let t <-YP
 if <-yF [99,108,97,115,115] then
  let m <-xT 2
  let l <-jl (Zj R)
  zZ 100 m.text 0 t.at_ l
 else if <-yF [107,105,110,100] then
  let m <-xT 2
  let l <-jl (QN R)
  zZ 101 m.text 0 t.at_ l
 else if <-yF [101,120,116,101,114,110] then
  let _ <-zV [102,117,110]
  let m <-xT 1
  let l <-Yv R
  let _ <-zV [59]
  zZ 103 m.text 0 t.at_ l
 else if <-yF [114,111,111,116] then
  let m <-xT 1
  let _ <-zV [58]
  let k <-R.kind
  let _ <-zV [61]
  let x <-R.expr
  let _ <-zV [59]
  zZ 104 m.text 0 t.at_ [k,x]
 else
  let pure_ <-yF [112,117,114,101]
  let _ <-zV [102,117,110]
  let m <-xT 1
  let l <-Yv R
  let b <-R.block
  zZ 102 m.text (if pure_ then 1 else 0) t.at_ (l ++ [b])
def Zk(R:xV):Nat->PM Unit
 |0=>fun _ _=>.bad 0
 |k+1=>fun E s=>if s.next<E.toks.length then match Xt R E s with
  | .ok i s'=>Zk R k E {s' with items:=s'.items ++ [i]}
  | .bad p=>.bad p
  else .ok () s
def vV(l:List xQ)(len:Nat):qx Unit:=Zk (YN (l.length+1)) (l.length+1) ⟨l,len⟩ ⟨[],[],0⟩
def Vd(s:yK)(a:Int):Prop:=0<=a/\a<s.nodes.length
def WFs(s:yK):Prop:=∀(i:Nat) (x:Nd),s.nodes[i]? =some x->∀k∈x.kids,0<=k/\k<i
structure Nx(E:zJ)(d:Int)(s s':yK):Prop where
 next:s.next<=s'.next
 le:s'.next<=E.toks.length
 cr:(s'.nodes.length:Int)-s.nodes.length+d<=(s'.next:Int)-s.next
 wf:WFs s'
 pre:∃r,s'.nodes=s.nodes ++ r
 it:s'.items=s.items
theorem Nx.refl{E:zJ}{s:yK}(h:s.next<=E.toks.length)(hw:WFs s):Nx E 0 s s:=⟨pG _,h,by omega,hw,⟨[],(gP _).symm⟩,rfl⟩
theorem Nx.trans{E:zJ}{d e:Int}{a b c:yK}(h:Nx E d a b)(k:Nx E e b c):Nx E (d+e) a c:=by
 obtain⟨r,hr⟩:=h.pre;obtain⟨q,hq⟩:=k.pre;have h1:=h.cr;have h2:=k.cr;exact⟨pU h.next k.next,k.le,by omega,k.wf,⟨r ++ q,by rw[hq,hr,List.append_assoc]⟩,k.it.trans h.it⟩
theorem Nx.down{E:zJ}{d e:Int}{a b:yK}(h:Nx E d a b)(hd:e<=d):Nx E e a b:=⟨h.next,h.le,by have:=h.cr;omega,h.wf,h.pre,h.it⟩
theorem Vd.later{E:zJ}{d:Int}{s s':yK}{a:Int}(h:Vd s a)(n:Nx E d s s'):Vd s' a:=by
 obtain⟨r,hr⟩:=n.pre;refine⟨h.1,?_⟩;rw[hr,pK];have:=h.2;omega
def Gd{α:Type}(d:Int)(Q:yK->α->Prop)(m:PM α):Prop:=∀{E:zJ} {s:yK} {a:α} {s':yK},s.next<=E.toks.length->WFs s->m E s=.ok a s'->Nx E d s s'/\Q s' a
theorem zz{α β:Type}{m:PM α}{f:α->PM β}{E:zJ}{s s':yK}{b:β}(h:(m >>= f) E s=.ok b s'):∃a s1,m E s=.ok a s1/\f a E s1=.ok b s':=by
 change PM.bind m f E s=_ at h;unfold PM.bind at h;cases hm:m E s with
 |ok a s1=>rw[hm] at h;exact⟨a,s1,rfl,h⟩
 |bad p=>rw[hm] at h;cases h
theorem yL{α:Type}{a b:α}{E:zJ}{s s':yK}(h:(pure a:PM α) E s=.ok b s'):b=a/\s'=s:=by
 change qx.ok a s=_ at h;cases h;exact⟨rfl,rfl⟩
theorem vo{E:zJ}{s:yK}{l:List (List UInt8)}(h:Ym (zS E s) l=true):s.next<E.toks.length:=by
 rcases Nat.lt_or_ge s.next E.toks.length with h'|h'
 ·exact h'
 ·simp[Ym,zS,wY h'] at h
theorem qF{E:zJ}{s:yK}{k:Nat}(h:(zS E s).kind=k)(hk:k≠0):s.next<E.toks.length:=by
 rcases Nat.lt_or_ge s.next E.toks.length with h'|h'
 ·exact h'
 ·simp[zS,wY h'] at h;exact absurd h.symm hk
theorem Xi{E:zJ}{s:yK}(h:s.next<E.toks.length)(hw:WFs s):Nx E 1 s {s with next:=s.next+1}:=⟨Nat.le_succ _,h,by simp;omega,hw,⟨[],(gP _).symm⟩,rfl⟩
theorem zr{x:List UInt8}:Gd 1 (fun _ _=>True) (zV x):=by
 intro E s a s' h0 hw h;unfold zV at h;split at h
 ·rename_i hi;cases h;exact⟨Xi (vo hi) hw,trivial⟩
 ·cases h
theorem yv{k:Nat}(hk:k≠0):Gd 1 (fun _ _=>True) (xT k):=by
 intro E s a s' h0 hw h;unfold xT at h;split at h
 ·rename_i hi;cases h;exact⟨Xi (qF (by simpa using hi) hk) hw,trivial⟩
 ·cases h
theorem Zm{x:List UInt8}{E:zJ}{s s':yK}{b:Bool}(h0:s.next<=E.toks.length)(hw:WFs s)(h:yF x E s=.ok b s'):Nx E (if b then 1 else 0) s s':=by
 unfold yF at h;split at h
 ·rename_i hi;cases h;exact Xi (vo hi) hw
 ·cases h;exact Nx.refl h0 hw
theorem zjD{x:List UInt8}:Gd 0 (fun _ _=>True) (yF x):=by
 intro E s b s' h0 hw h;have:=Zm h0 hw h;cases b
 ·exact⟨this,trivial⟩
 ·exact⟨this.down (by decide),trivial⟩
theorem gb{α β:Type}{m:PM α}{f:α->PM β}{E:zJ}{s0 s s':yK}{b:β}{d0 d:Int}{Q:yK->α->Prop}(h:(m >>= f) E s=.ok b s')(N:Nx E d0 s0 s)(g:Gd d Q m):∃a s1,Nx E d s s1/\Q s1 a/\Nx E (d0+d) s0 s1/\f a E s1=.ok b s':=by
 obtain⟨a,s1,h1,h⟩:=zz h;obtain⟨n,v⟩:=g N.le N.wf h1;exact⟨a,s1,n,v,N.trans n,h⟩
theorem gm{β:Type}{x:List UInt8}{f:Bool->PM β}{E:zJ}{s0 s s':yK}{b:β}{d0:Int}(h:(yF x >>= f) E s=.ok b s')(N:Nx E d0 s0 s):∃a s1,Nx E (if a then 1 else 0) s s1/\yF x E s=.ok a s1/\Nx E (d0+if a then 1 else 0) s0 s1/\f a E s1=.ok b s':=by
 obtain⟨a,s1,h1,h⟩:=zz h;have n:=Zm N.le N.wf h1;exact⟨a,s1,n,h1,N.trans n,h⟩
theorem qu{E:zJ}{s0 s s':yK}{d0 d e:Int}{p:Prop}(N:Nx E d0 s0 s)(g:Nx E d s s'/\p)(he:e<=d0+d):Nx E e s0 s'/\p:=⟨(N.trans g.1).down he,g.2⟩
theorem zh5{l:List (List UInt8)}:Gd 0 (fun _ _=>True) (XQ l):=by
 intro E s b s' h0 hw h;cases h;exact⟨Nx.refl h0 hw,trivial⟩
theorem zR{kind:Nat}{text:List UInt8}{n at_:Int}{kids:List Int}{E:zJ}{s s':yK}{a:Int}(h0:s.next<=E.toks.length)(hw:WFs s)(hk:∀k∈kids,Vd s k)(h:zZ kind text n at_ kids E s=.ok a s'):Nx E (-1) s s'/\Vd s' a:=by
 cases h;refine⟨⟨pG _,h0,by simp;omega,fun i x hx k hkm=>?_,⟨_,rfl⟩,rfl⟩,⟨by omega,by simp;omega⟩⟩;rw[List.getElem?_append] at hx;split at hx
 ·exact hw i x hx k hkm
 ·rename_i hi;have hz:i-s.nodes.length=0\/0<i-s.nodes.length:=by omega
  rcases hz with hz|hz
  ·rw[hz] at hx;cases hx;have:=hk k hkm;exact⟨this.1,by have:=this.2;omega⟩
  ·rw[wY (by simp;omega)] at hx;cases hx
structure yQ(R:xV):Prop where
 expr:Gd 0 Vd R.expr
 unary:Gd 0 Vd R.unary
 bin2:Gd 0 Vd R.bin2
 block:Gd 0 Vd R.block
 branch:Gd 0 Vd R.branch
 kind:Gd 0 Vd R.kind
 pattern:Gd 0 Vd R.pattern
def Jy(s:yK)(l:List Int):Prop:=∀k∈l,Vd s k
theorem Jy.later{E:zJ}{d:Int}{s s':yK}{l:List Int}(h:Jy s l)(n:Nx E d s s'):Jy s' l:=fun k hk=>(h k hk).later n
theorem Jy.snoc{s:yK}{l:List Int}{a:Int}(h:Jy s l)(ha:Vd s a):Jy s (l ++ [a]):=fun k hk=>by
 rw[wQ,wX] at hk;rcases hk with hk|rfl
 ·exact h k hk
 ·exact ha
theorem zcn{part:PM Int}(hp:Gd 0 Vd part):∀(n:Nat) (acc:List Int) {E:zJ} {s:yK} {a:List Int} {s':yK},s.next<=E.toks.length->WFs s->Jy s acc->vW n part acc E s=.ok a s'->Nx E 0 s s'/\Jy s' a
 |0,_,_,_,_,_,_,_,_,h=>by cases h
 |n+1,acc,E,s,a,s',h0,hw,ha,h=>by
  unfold vW at h;obtain⟨x,s1,h1,h⟩:=zz h;obtain⟨n1,v1⟩:=hp h0 hw h1;obtain⟨b,s2,h2,h⟩:=zz h;have n2:=Zm n1.le n1.wf h2;have n3:=n1.trans n2;have hacc:=(ha.later n3).snoc (v1.later n2);cases b with
  |true=>
   obtain⟨n4,v4⟩:=zcn hp n (acc ++ [x]) n3.le n3.wf hacc h;exact⟨(n3.trans n4).down (by decide),v4⟩
  |false=>
   obtain⟨rfl,rfl⟩:=yL h;exact⟨n3.down (by decide),hacc⟩
theorem uo{part:PM Int}(hp:Gd 0 Vd part):Gd 0 Jy (ul part):=fun h0 hw h=>zcn hp _ [] h0 hw (fun k hk=>by cases hk) h
theorem JC{s:yK}:∀k∈([]:List Int),Vd s k:=fun k hk=>by cases hk
theorem Yl{s:yK}{a:Int}(h:Vd s a):∀k∈[a],Vd s k:=fun k hk=>by
 rw[wX] at hk;rw[hk];exact h
theorem Ji{s:yK}{a:Int}{l:List Int}(h:Vd s a)(hl:∀k∈l,Vd s k):∀k∈a :: l,Vd s k:=fun k hk=>by
 rcases pT.1 hk with rfl|hk
 ·exact h
 ·exact hl k hk
theorem vda{s:yK}{a:Int}{l:List Int}(hl:Jy s l)(h:Vd s a):∀k∈l ++ [a],Vd s k:=hl.snoc h
theorem jO{part:PM Int}(hp:Gd 0 Vd part):Gd 2 Jy (jl part):=by
 intro E s a s' h0 hw h;have N:=Nx.refl h0 hw;unfold jl at h;obtain⟨x,sx,nx,vx,N,h⟩:=gb h N (zr);obtain⟨l,sl,nl,vl,N,h⟩:=gb h N (uo hp);obtain⟨y,sy,ny,vy,N,h⟩:=gb h N (zr);replace vl:=vl.later ny;obtain⟨rfl,rfl⟩:=yL h;exact⟨N.down (by decide),vl⟩
theorem uO{part:PM Int}(hp:Gd 0 Vd part):Gd 0 Jy (jF part):=by
 intro E s a s' h0 hw h;have N:=Nx.refl h0 hw;unfold jF at h;obtain⟨b,sb,nb,hb,N,h⟩:=gm h N;cases b with
 |true=>
  rw[if_pos rfl] at h;obtain⟨l,sl,nl,vl,N,h⟩:=gb h N (uo hp);obtain⟨y,sy,ny,vy,N,h⟩:=gb h N (zr);replace vl:=vl.later ny;obtain⟨rfl,rfl⟩:=yL h;exact⟨N.down (by decide),vl⟩
 |false=>
  rw[if_neg (by decide)] at h;obtain⟨rfl,rfl⟩:=yL h;exact⟨N.down (by decide),JC⟩
theorem uQ{R:xV}(hR:yQ R):Gd 0 Vd (Zj R):=by
 intro E s a s' h0 hw h;have N:=Nx.refl h0 hw;unfold Zj at h;obtain⟨t,st,nt,vt,N,h⟩:=gb h N ((yv (by decide)));obtain⟨x,sx,nx,vx,N,h⟩:=gb h N (zr);obtain⟨k,sk,nk,vk,N,h⟩:=gb h N (hR.kind);exact qu N (zR N.le N.wf (Yl vk) h) (by decide)
theorem za5{R:xV}(hR:yQ R):Gd 0 Vd (QN R):=by
 intro E s a s' h0 hw h;have N:=Nx.refl h0 hw;unfold QN at h;obtain⟨t,st,nt,vt,N,h⟩:=gb h N ((yv (by decide)));obtain⟨l,sl,nl,vl,N,h⟩:=gb h N ((uO hR.kind));exact qu N (zR N.le N.wf (vl) h) (by decide)
theorem Qp{part:PM Int}{w:List (List UInt8)}(hp:Gd 0 Vd part):Gd 0 Jy (do if <-XQ w then pure [] else ul part:PM (List Int)):=by
 intro E s a s' h0 hw h;have N:=Nx.refl h0 hw;obtain⟨b,sb,nb,vb,N,h⟩:=gb h N (zh5);cases b with
 |true=>
  rw[if_pos rfl] at h;obtain⟨rfl,rfl⟩:=yL h;exact⟨N.down (by decide),JC⟩
 |false=>
  rw[if_neg (by decide)] at h;obtain⟨nl,vl⟩:=uo hp N.le N.wf h;exact⟨(N.trans nl).down (by decide),vl⟩
theorem Zs{R:xV}(hR:yQ R):Gd 3 Jy (Yv R):=by
 intro E s a s' h0 hw h;have N:=Nx.refl h0 hw;unfold Yv at h;obtain⟨x,sx,nx,vx,N,h⟩:=gb h N (zr);obtain⟨l,sl,nl,vl,N,h⟩:=gb h N ((Qp (uQ hR)));obtain⟨y,sy,ny,vy,N,h⟩:=gb h N (zr);replace vl:=vl.later ny;obtain⟨z,sz,nz,vz,N,h⟩:=gb h N (zr);replace vl:=vl.later nz;obtain⟨k,sk,nk,vk,N,h⟩:=gb h N (hR.kind);replace vl:=vl.later nk;obtain⟨rfl,rfl⟩:=yL h;exact⟨N.down (by decide),vl.snoc vk⟩
theorem kG{E:zJ}{s s':yK}{u:Unit}(hlt:s.next<E.toks.length)(hw:WFs s)(h:jH E s=.ok u s'):Nx E 1 s s':=by
 cases h;exact Xi hlt hw
theorem zjJ{R:xV}(hR:yQ R):Gd 0 Vd (QV R):=by
 intro E s a s' h0 hw h;have N:=Nx.refl h0 hw;unfold QV at h;obtain⟨t,s0,h1,h⟩:=zz h;cases h1;split at h
 ·rename_i hk;obtain⟨u,s1,h1,h⟩:=zz h;have n1:=kG (qF (k:=2) (by simpa using hk) (by decide)) hw h1;replace N:=N.trans n1;exact qu N (zR N.le N.wf (JC) h) (by decide)
 ·obtain⟨a1,sa1,na1,ha1,N,h⟩:=gm h N;cases a1 with
  |true=>
   rw[if_pos rfl] at h;exact qu N (zR N.le N.wf (JC) h) (by decide)
  |false=>
  rw[if_neg (by decide)] at h;obtain⟨a2,sa2,na2,ha2,N,h⟩:=gm h N;cases a2 with
  |true=>
   rw[if_pos rfl] at h;exact qu N (zR N.le N.wf (JC) h) (by decide)
  |false=>
  rw[if_neg (by decide)] at h;obtain⟨a3,sa3,na3,ha3,N,h⟩:=gm h N;cases a3 with
  |true=>
   rw[if_pos rfl] at h;exact qu N (zR N.le N.wf (JC) h) (by decide)
  |false=>
  rw[if_neg (by decide)] at h;obtain⟨a4,sa4,na4,ha4,N,h⟩:=gm h N;cases a4 with
  |true=>
   rw[if_pos rfl] at h;exact qu N (zR N.le N.wf (JC) h) (by decide)
  |false=>
  rw[if_neg (by decide)] at h;obtain⟨a5,sa5,na5,ha5,N,h⟩:=gm h N;cases a5 with
  |true=>
   rw[if_pos rfl] at h;obtain⟨k,sk,nk,vk,N,h⟩:=gb h N (hR.kind);exact qu N (zR N.le N.wf (Yl vk) h) (by decide)
  |false=>
  rw[if_neg (by decide)] at h;obtain⟨a6,sa6,na6,ha6,N,h⟩:=gm h N;cases a6 with
  |true=>
   rw[if_pos rfl] at h;obtain⟨k,sk,nk,vk,N,h⟩:=gb h N (hR.kind);exact qu N (zR N.le N.wf (Yl vk) h) (by decide)
  |false=>
  rw[if_neg (by decide)] at h;obtain⟨x,sx,nx,vx,N,h⟩:=gb h N (zr);obtain⟨y,sy,ny,vy,N,h⟩:=gb h N (zr);obtain⟨l,sl,nl,vl,N,h⟩:=gb h N ((Qp hR.kind));obtain⟨z,sz,nz,vz,N,h⟩:=gb h N (zr);replace vl:=vl.later nz;obtain⟨q,sq,nq,vq,N,h⟩:=gb h N (zr);replace vl:=vl.later nq;obtain⟨k,sk,nk,vk,N,h⟩:=gb h N (hR.kind);replace vl:=vl.later nk;exact qu N (zR N.le N.wf (vda vl vk) h) (by decide)
theorem kF{E:zJ}{s s':yK}{t:xQ}(hlt:s.next<E.toks.length)(hw:WFs s)(h:ZA E s=.ok t s'):Nx E 1 s s':=by
 cases h;exact Xi hlt hw
theorem zeJ{R:xV}(hR:yQ R):Gd 0 (fun s (x:Int×Bool)=>Vd s x.1) (Yt R):=by
 intro E s a s' h0 hw h;have N:=Nx.refl h0 hw;unfold Yt at h;obtain⟨t,s0,h1,h⟩:=zz h;cases h1;obtain⟨a1,sa1,na1,ha1,N,h⟩:=gm h N;cases a1 with
 |true=>
  rw[if_pos rfl] at h;obtain⟨m,sm,nm,vm,N,h⟩:=gb h N ((yv (by decide)));obtain⟨x,sx,nx,vx,N,h⟩:=gb h N (zr);obtain⟨e,se,ne,ve,N,h⟩:=gb h N (hR.expr);obtain⟨r,s9,h9,h⟩:=zz h;obtain⟨nz,vz⟩:=zR N.le N.wf (Yl ve) h9;obtain⟨rfl,rfl⟩:=yL h;exact⟨(N.trans nz).down (by decide),vz⟩
 |false=>
 rw[if_neg (by decide)] at h;obtain⟨a2,sa2,na2,ha2,N,h⟩:=gm h N;cases a2 with
 |true=>
  rw[if_pos rfl] at h;obtain⟨m,sm,nm,vm,N,h⟩:=gb h N ((yv (by decide)));obtain⟨x,sx,nx,vx,N,h⟩:=gb h N (zr);obtain⟨e,se,ne,ve,N,h⟩:=gb h N (hR.expr);obtain⟨r,s9,h9,h⟩:=zz h;obtain⟨nz,vz⟩:=zR N.le N.wf (Yl ve) h9;obtain⟨rfl,rfl⟩:=yL h;exact⟨(N.trans nz).down (by decide),vz⟩
 |false=>
 rw[if_neg (by decide)] at h;obtain⟨e,se,ne,ve,N,h⟩:=gb h N (hR.expr);obtain⟨b,s3,h3,h⟩:=zz h;cases h3;split at h
 ·rename_i hb;obtain⟨k,s4,h4,h⟩:=zz h;cases h4;split at h
  ·obtain⟨u,s5,h5,h⟩:=zz h;have n5:=kF (vo hb) N.wf h5;replace N:=N.trans n5;replace ve:=ve.later n5;obtain⟨y,sy,ny,vy,N,h⟩:=gb h N (hR.expr);replace ve:=ve.later ny;obtain⟨r,s9,h9,h⟩:=zz h;obtain⟨nz,vz⟩:=zR N.le N.wf (Ji ve (Yl vy)) h9;obtain⟨rfl,rfl⟩:=yL h;exact⟨(N.trans nz).down (by decide),vz⟩
  ·cases h
 ·obtain⟨rfl,rfl⟩:=yL h;exact⟨N.down (by decide),ve⟩
theorem zbJ{R:xV}(hR:yQ R):∀(n:Nat) (acc:List Int) {E:zJ} {s:yK} {a:List Int×Int} {s':yK},s.next<=E.toks.length->WFs s->Jy s acc->qR R n acc E s=.ok a s'->Nx E 0 s s'/\Jy s' a.1
 |0,_,_,_,_,_,_,_,_,h=>by cases h
 |n+1,acc,E,s,a,s',h0,hw,ha,h=>by
  have N:=Nx.refl h0 hw;unfold qR at h;obtain⟨b,s1,h1,h⟩:=zz h;cases h1;split at h
  ·obtain⟨rfl,rfl⟩:=yL h;exact⟨N.down (by decide),ha⟩
  ·obtain⟨x,sx,nx,vx,N,h⟩:=gb h N ((zeJ hR));replace ha:=ha.later nx;obtain⟨b,s2,h2,h⟩:=zz h;cases h2;split at h
   ·obtain⟨rfl,rfl⟩:=yL h;exact⟨N.down (by decide),ha.snoc vx⟩
   ·obtain⟨y,sy,ny,vy,N,h⟩:=gb h N (zr);replace vx:=vx.later ny;replace ha:=ha.later ny;obtain⟨n4,v4⟩:=zbJ hR n (acc ++ [x.1]) N.le N.wf (ha.snoc vx) h;exact⟨(N.trans n4).down (by decide),v4⟩
theorem zim{R:xV}(hR:yQ R):Gd 0 Vd (ZT R):=by
 intro E s a s' h0 hw h;have N:=Nx.refl h0 hw;unfold ZT at h;obtain⟨t,st,nt,vt,N,h⟩:=gb h N (zr);obtain⟨x,s2,h2,h⟩:=zz h;obtain⟨n2,v2⟩:=zbJ hR _ [] N.le N.wf JC h2;replace N:=N.trans n2;obtain⟨y,sy,ny,vy,N,h⟩:=gb h N (zr);replace v2:=v2.later ny;exact qu N (zR N.le N.wf (v2) h) (by decide)
theorem zhK{tight:PM Int}(ht:Gd 0 Vd tight)(lv:Nat):∀(n:Nat) (left:Int) {E:zJ} {s:yK} {a:Int} {s':yK},s.next<=E.toks.length->WFs s->Vd s left->Ve lv tight n left E s=.ok a s'->Nx E 0 s s'/\Vd s' a
 |0,_,_,_,_,_,_,_,_,h=>by cases h
 |n+1,left,E,s,a,s',h0,hw,vl,h=>by
  have N:=Nx.refl h0 hw;unfold Ve at h;obtain⟨b,s1,h1,h⟩:=zz h;cases h1;split at h
  ·rename_i hb;obtain⟨t,s2,h2,h⟩:=zz h;have n2:=kF (vo hb) hw h2;replace N:=N.trans n2;replace vl:=vl.later n2;obtain⟨r,sr,nr,vr,N,h⟩:=gb h N (ht);replace vl:=vl.later nr;obtain⟨x,s9,h9,h⟩:=zz h;obtain⟨nz,vz⟩:=zR N.le N.wf (Ji vl (Yl vr)) h9;replace N:=N.trans nz;split at h
   ·obtain⟨rfl,rfl⟩:=yL h;exact⟨N.down (by decide),vz⟩
   ·obtain⟨n4,v4⟩:=zhK ht lv n x N.le N.wf vz h;exact⟨(N.trans n4).down (by decide),v4⟩
  ·obtain⟨rfl,rfl⟩:=yL h;exact⟨N.down (by decide),vl⟩
theorem Qw{tight:PM Int}(ht:Gd 0 Vd tight)(lv:Nat):Gd 0 Vd (ZL lv tight):=by
 intro E s a s' h0 hw h;have N:=Nx.refl h0 hw;unfold ZL at h;obtain⟨l,sl,nl,vl,N,h⟩:=gb h N (ht);obtain⟨n4,v4⟩:=zhK ht lv _ l N.le N.wf vl h;exact⟨(N.trans n4).down (by decide),v4⟩
theorem zeL{R:xV}(hR:yQ R):∀(n:Nat) (first:Bool) (acc:List Int) {E:zJ} {s:yK} {a:List Int} {s':yK},s.next<=E.toks.length->WFs s->Jy s acc->jG R n first acc E s=.ok a s'->Nx E 0 s s'/\Jy s' a
 |0,_,acc,_,_,_,_,h0,hw,ha,h=>by
  obtain⟨rfl,rfl⟩:=yL h;exact⟨Nx.refl h0 hw,ha⟩
 |n+1,first,acc,E,s,a,s',h0,hw,ha,h=>by
  have N:=Nx.refl h0 hw;unfold jG at h;obtain⟨u,s1,h1,h⟩:=zz h;have n1:Nx E 0 s s1:=by
   split at h1
   ·obtain⟨_,rfl⟩:=yL h1;exact N
   ·obtain⟨_,s2,h2,h1⟩:=zz h1;obtain⟨_,rfl⟩:=yL h1;exact (zr h0 hw h2).1.down (by decide)
  replace N:=N.trans n1;replace ha:=ha.later n1;obtain⟨x,sx,nx,vx,N,h⟩:=gb h N (hR.expr);obtain⟨n4,v4⟩:=zeL hR n false (acc ++ [x]) N.le N.wf ((ha.later nx).snoc vx) h;exact⟨(N.trans n4).down (by decide),v4⟩
theorem ziZ{R:xV}(hR:yQ R)(t:xQ)(w:Nat×Int):Gd (-1) Vd (vA R t w):=by
 intro E s a s' h0 hw h;have N:=Nx.refl h0 hw;unfold vA at h;obtain⟨l,s1,h1,h⟩:=zz h;have n1:Nx E 0 s s1/\Jy s1 l:=by
  split at h1
  ·obtain⟨x,s2,h2,h1⟩:=zz h1;obtain⟨n2,v2⟩:=hR.unary h0 hw h2;obtain⟨rfl,rfl⟩:=yL h1;exact⟨n2,Yl v2⟩
  ·split at h1
   ·obtain⟨x,s2,h2,h1⟩:=zz h1;obtain⟨n2,_⟩:=zr h0 hw h2;obtain⟨y,s3,h3,h1⟩:=zz h1;obtain⟨n3,v3⟩:=zeL hR _ _ [] n2.le n2.wf JC h3;obtain⟨z,s4,h4,h1⟩:=zz h1;obtain⟨n4,_⟩:=zr n3.le n3.wf h4;obtain⟨rfl,rfl⟩:=yL h1;exact⟨((n2.trans n3).trans n4).down (by decide),v3.later n4⟩
   ·obtain⟨rfl,rfl⟩:=yL h1;exact⟨N,JC⟩
 obtain⟨nz,vz⟩:=zR n1.1.le n1.1.wf n1.2 h;exact⟨(n1.1.trans nz).down (by decide),vz⟩
theorem zdI{R:xV}(hR:yQ R):Gd 0 Vd (zb9 R):=by
 intro E s a s' h0 hw h;have N:=Nx.refl h0 hw;unfold zb9 at h;obtain⟨t,st,nt,vt,N,h⟩:=gb h N ((yv (by decide)));obtain⟨x,sx,nx,vx,N,h⟩:=gb h N (zr);obtain⟨k,sk,nk,vk,N,h⟩:=gb h N (hR.expr);exact qu N (zR N.le N.wf (Yl vk) h) (by decide)
theorem zew{R:xV}(hR:yQ R):Gd 0 Vd (zca R):=by
 intro E s a s' h0 hw h;have N:=Nx.refl h0 hw;unfold zca at h;obtain⟨p,sp,np,vp,N,h⟩:=gb h N (hR.pattern);obtain⟨t,st,nt,vt,N,h⟩:=gb h N (zr);replace vp:=vp.later nt;obtain⟨x,sx,nx,vx,N,h⟩:=gb h N (hR.expr);replace vp:=vp.later nx;exact qu N (zR N.le N.wf (Ji vp (Yl vx)) h) (by decide)
theorem zau{R:xV}(hR:yQ R):∀(n:Nat) (acc:List Int) {E:zJ} {s:yK} {a:List Int} {s':yK},s.next<=E.toks.length->WFs s->Jy s acc->Ys R n acc E s=.ok a s'->Nx E 0 s s'/\Jy s' a
 |0,_,_,_,_,_,_,_,_,h=>by cases h
 |n+1,acc,E,s,a,s',h0,hw,ha,h=>by
  have N:=Nx.refl h0 hw;unfold Ys at h;obtain⟨t,s1,h1,h⟩:=zz h;cases h1;obtain⟨a1,sa1,na1,ha1,N,h⟩:=gm h N;cases a1 with
  |true=>
   rw[if_pos rfl] at h;obtain⟨x,sx,nx,vx,N,h⟩:=gb h N (hR.expr);obtain⟨q,sq,nq,vq,N,h⟩:=gb h N (zr);replace vx:=vx.later nq;obtain⟨m,sm,nm,vm,N,h⟩:=gb h N ((yv (by decide)));replace vx:=vx.later nm;obtain⟨e,se,ne,ve,N,h⟩:=gb h N (zr);replace vx:=vx.later ne;obtain⟨y,sy,ny,vy,N,h⟩:=gb h N (hR.expr);replace vx:=vx.later ny;obtain⟨r,s9,h9,h⟩:=zz h;obtain⟨nz,vz⟩:=zR N.le N.wf (Ji vx (Yl vy)) h9;replace N:=N.trans nz;have ha2:=(ha.later N).snoc vz;obtain⟨c,sc,nc,hc,N,h⟩:=gm h N;cases c with
   |true=>
    rw[if_pos rfl] at h;obtain⟨n4,v4⟩:=zau hR n (acc ++ [r]) N.le N.wf (ha2.later nc) h;exact⟨(N.trans n4).down (by decide),v4⟩
   |false=>
    rw[if_neg (by decide)] at h;obtain⟨rfl,rfl⟩:=yL h;exact⟨N.down (by decide),ha2.later nc⟩
  |false=>
  rw[if_neg (by decide)] at h;obtain⟨a2,sa2,na2,ha2,N,h⟩:=gm h N;cases a2 with
  |true=>
   rw[if_pos rfl] at h;obtain⟨x,sx,nx,vx,N,h⟩:=gb h N (hR.expr);obtain⟨q,sq,nq,vq,N,h⟩:=gb h N (zr);replace vx:=vx.later nq;obtain⟨y,sy,ny,vy,N,h⟩:=gb h N (hR.expr);replace vx:=vx.later ny;obtain⟨e,se,ne,ve,N,h⟩:=gb h N (zr);replace vx:=vx.later ne;replace vy:=vy.later ne;obtain⟨z,sz,nz,vz,N,h⟩:=gb h N (hR.expr);replace vx:=vx.later nz;replace vy:=vy.later nz;obtain⟨r,s9,h9,h⟩:=zz h;obtain⟨nz,vz⟩:=zR N.le N.wf (Ji vx (Ji vy (Yl vz))) h9;replace N:=N.trans nz;have ha2:=(ha.later N).snoc vz;obtain⟨c,sc,nc,hc,N,h⟩:=gm h N;cases c with
   |true=>
    rw[if_pos rfl] at h;obtain⟨n4,v4⟩:=zau hR n (acc ++ [r]) N.le N.wf (ha2.later nc) h;exact⟨(N.trans n4).down (by decide),v4⟩
   |false=>
    rw[if_neg (by decide)] at h;obtain⟨rfl,rfl⟩:=yL h;exact⟨N.down (by decide),ha2.later nc⟩
  |false=>
  rw[if_neg (by decide)] at h;obtain⟨q,sq,nq,vq,N,h⟩:=gb h N (zr);obtain⟨e,se,ne,ve,N,h⟩:=gb h N (zr);obtain⟨x,sx,nx,vx,N,h⟩:=gb h N (hR.expr);obtain⟨r,s9,h9,h⟩:=zz h;obtain⟨nz,vz⟩:=zR N.le N.wf (Yl vx) h9;replace N:=N.trans nz;obtain⟨rfl,rfl⟩:=yL h;exact⟨N.down (by decide),(ha.later N).snoc vz⟩
theorem Vy{R:xV}(hR:yQ R):Gd 2 Jy (uk R):=by
 intro E s a s' h0 hw h;have N:=Nx.refl h0 hw;unfold uk at h;obtain⟨t,st,nt,vt,N,h⟩:=gb h N (zr);obtain⟨x,s2,h2,h⟩:=zz h;obtain⟨n2,v2⟩:=zau hR _ [] N.le N.wf JC h2;replace N:=N.trans n2;obtain⟨y,sy,ny,vy,N,h⟩:=gb h N (zr);obtain⟨rfl,rfl⟩:=yL h;exact⟨N.down (by decide),v2.later ny⟩
theorem zak{R:xV}(hR:yQ R):Gd 0 Vd (vF R):=by
 intro E s a s' h0 hw h;have N:=Nx.refl h0 hw;unfold vF at h;obtain⟨t,st,nt,vt,N,h⟩:=gb h N (zr);obtain⟨c,sc,nc,vc,N,h⟩:=gb h N (hR.expr);obtain⟨b,sb,nb,vb,N,h⟩:=gb h N (hR.block);replace vc:=vc.later nb;obtain⟨a1,sa1,na1,ha1,N,h⟩:=gm h N;replace vc:=vc.later na1;replace vb:=vb.later na1;cases a1 with
 |true=>
  rw[if_pos rfl] at h;obtain⟨i,si,ni,vi,N,h⟩:=gb h N (zh5);replace vc:=vc.later ni;replace vb:=vb.later ni;split at h
  ·obtain⟨x,sx,nx,vx,N,h⟩:=gb h N (hR.branch);replace vc:=vc.later nx;replace vb:=vb.later nx;exact qu N (zR N.le N.wf (Ji vc (Ji vb (Yl vx))) h) (by decide)
  ·obtain⟨x,sx,nx,vx,N,h⟩:=gb h N (hR.block);replace vc:=vc.later nx;replace vb:=vb.later nx;exact qu N (zR N.le N.wf (Ji vc (Ji vb (Yl vx))) h) (by decide)
 |false=>
  rw[if_neg (by decide)] at h;exact qu N (zR N.le N.wf (Ji vc (Yl vb)) h) (by decide)
theorem KC{R:xV}(hR:yQ R)(t:xQ):Gd 0 Vd (qm R t):=by
 intro E s a s' h0 hw h;have N:=Nx.refl h0 hw;unfold qm at h;obtain⟨i,si,ni,vi,N,h⟩:=gb h N (zh5);split at h
 ·obtain⟨nb,vb⟩:=zak hR N.le N.wf h;exact⟨(N.trans nb).down (by decide),vb⟩
 ·obtain⟨a1,sa1,na1,ha1,N,h⟩:=gm h N;cases a1 with
  |true=>
   rw[if_pos rfl] at h;obtain⟨c,sc,nc,vc,N,h⟩:=gb h N (hR.expr);obtain⟨b,sb,nb,vb,N,h⟩:=gb h N (hR.block);replace vc:=vc.later nb;exact qu N (zR N.le N.wf (Ji vc (Yl vb)) h) (by decide)
  |false=>
  rw[if_neg (by decide)] at h;obtain⟨a2,sa2,na2,ha2,N,h⟩:=gm h N;cases a2 with
  |true=>
   rw[if_pos rfl] at h;obtain⟨c,sc,nc,vc,N,h⟩:=gb h N (hR.expr);obtain⟨l,sl,nl,vl,N,h⟩:=gb h N ((jO (zew hR)));replace vc:=vc.later nl;exact qu N (zR N.le N.wf (Ji vc vl) h) (by decide)
  |false=>
  rw[if_neg (by decide)] at h;obtain⟨a3,sa3,na3,ha3,N,h⟩:=gm h N;cases a3 with
  |true=>
   rw[if_pos rfl] at h;obtain⟨l,sl,nl,vl,N,h⟩:=gb h N ((Zs hR));obtain⟨b,sb,nb,vb,N,h⟩:=gb h N (hR.block);replace vl:=vl.later nb;exact qu N (zR N.le N.wf (vda vl vb) h) (by decide)
  |false=>
  rw[if_neg (by decide)] at h;obtain⟨a4,sa4,na4,ha4,N,h⟩:=gm h N;cases a4 with
  |true=>
   rw[if_pos rfl] at h;obtain⟨b,sb,nb,vb,N,h⟩:=gb h N (hR.block);obtain⟨q,sq,nq,vq,N,h⟩:=gb h N (zr);replace vb:=vb.later nq;obtain⟨m,sm,nm,vm,N,h⟩:=gb h N ((yv (by decide)));replace vb:=vb.later nm;obtain⟨c,sc,nc,vc,N,h⟩:=gb h N (hR.block);replace vb:=vb.later nc;exact qu N (zR N.le N.wf (Ji vb (Yl vc)) h) (by decide)
  |false=>
  rw[if_neg (by decide)] at h;obtain⟨a5,sa5,na5,ha5,N,h⟩:=gm h N;cases a5 with
  |true=>
   rw[if_pos rfl] at h;obtain⟨x,sx,nx,vx,N,h⟩:=gb h N (hR.expr);obtain⟨q,sq,nq,vq,N,h⟩:=gb h N (zr);replace vx:=vx.later nq;obtain⟨m,sm,nm,vm,N,h⟩:=gb h N ((yv (by decide)));replace vx:=vx.later nm;obtain⟨b,sb,nb,vb,N,h⟩:=gb h N (hR.block);replace vx:=vx.later nb;obtain⟨r,sr,nr,vr,N,h⟩:=gb h N (zr);replace vx:=vx.later nr;replace vb:=vb.later nr;obtain⟨c,sc,nc,vc,N,h⟩:=gb h N (hR.block);replace vx:=vx.later nc;replace vb:=vb.later nc;exact qu N (zR N.le N.wf (Ji vx (Ji vb (Yl vc))) h) (by decide)
  |false=>
  rw[if_neg (by decide)] at h;obtain⟨a6,sa6,na6,ha6,N,h⟩:=gm h N;cases a6 with
  |true=>
   rw[if_pos rfl] at h;obtain⟨m,sm,nm,vm,N,h⟩:=gb h N ((yv (by decide)));obtain⟨l,sl,nl,vl,N,h⟩:=gb h N ((jO (zdI hR)));exact qu N (zR N.le N.wf (vl) h) (by decide)
  |false=>
  rw[if_neg (by decide)] at h;obtain⟨a7,sa7,na7,ha7,N,h⟩:=gm h N;cases a7 with
  |true=>
   rw[if_pos rfl] at h;obtain⟨k,sk,nk,vk,N,h⟩:=gb h N (hR.kind);obtain⟨q,sq,nq,vq,N,h⟩:=gb h N (zr);replace vk:=vk.later nq;obtain⟨m,sm,nm,vm,N,h⟩:=gb h N ((yv (by decide)));replace vk:=vk.later nm;obtain⟨r,sr,nr,vr,N,h⟩:=gb h N (zr);replace vk:=vk.later nr;exact qu N (zR N.le N.wf (Yl vk) h) (by decide)
  |false=>
  rw[if_neg (by decide)] at h;obtain⟨q,sq,nq,vq,N,h⟩:=gb h N (zr);obtain⟨l,sl,nl,vl,N,h⟩:=gb h N ((Vy hR));exact qu N (zR N.le N.wf (vl) h) (by decide)
theorem zfj{R:xV}(hR:yQ R):Gd 0 Vd (Yw R):=by
 intro E s a s' h0 hw h;have N:=Nx.refl h0 hw;unfold Yw at h;obtain⟨t,s0,h1,h⟩:=zz h;cases h1;split at h
 ·rename_i hk;obtain⟨u,s1,h1,h⟩:=zz h;have n1:=kG (qF (k:=3) (by simpa using hk) (by decide)) hw h1;replace N:=N.trans n1;exact qu N (zR N.le N.wf (JC) h) (by decide)
 split at h
 ·rename_i hk;obtain⟨u,s1,h1,h⟩:=zz h;have n1:=kG (qF (k:=4) (by simpa using hk) (by decide)) hw h1;replace N:=N.trans n1;exact qu N (zR N.le N.wf (JC) h) (by decide)
 split at h
 ·rename_i hk;obtain⟨u,s1,h1,h⟩:=zz h;have n1:=kG (qF (k:=1) (by simpa using hk) (by decide)) hw h1;replace N:=N.trans n1;exact qu N (zR N.le N.wf (JC) h) (by decide)
 split at h
 ·rename_i hk;obtain⟨u,s1,h1,h⟩:=zz h;have n1:=kG (qF (k:=2) (by simpa using hk) (by decide)) hw h1;replace N:=N.trans n1;obtain⟨l,sl,nl,vl,N,h⟩:=gb h N ((uO hR.expr));exact qu N (zR N.le N.wf (vl) h) (by decide)
 obtain⟨a1,sa1,na1,ha1,N,h⟩:=gm h N;cases a1 with
 |true=>
  rw[if_pos rfl] at h;obtain⟨a2,sa2,na2,ha2,N,h⟩:=gm h N;cases a2 with
  |true=>
   rw[if_pos rfl] at h;exact qu N (zR N.le N.wf (JC) h) (by decide)
  |false=>
   rw[if_neg (by decide)] at h;obtain⟨x,sx,nx,vx,N,h⟩:=gb h N (hR.expr);obtain⟨q,sq,nq,vq,N,h⟩:=gb h N (zr);replace vx:=vx.later nq;obtain⟨rfl,rfl⟩:=yL h;exact⟨N.down (by decide),vx⟩
 |false=>
 rw[if_neg (by decide)] at h;obtain⟨a3,sa3,na3,ha3,N,h⟩:=gm h N;cases a3 with
 |true=>
  rw[if_pos rfl] at h;exact qu N (zR N.le N.wf (JC) h) (by decide)
 |false=>
 rw[if_neg (by decide)] at h;obtain⟨a4,sa4,na4,ha4,N,h⟩:=gm h N;cases a4 with
 |true=>
  rw[if_pos rfl] at h;exact qu N (zR N.le N.wf (JC) h) (by decide)
 |false=>
 rw[if_neg (by decide)] at h;have hkt:s.next=sa4.next:=by
  have e1:sa1=s:=by unfold yF at ha1;split at ha1 <;> cases ha1;rfl
  have e3:sa3=sa1:=by unfold yF at ha3;split at ha3 <;> cases ha3;rfl
  have e4:sa4=sa3:=by unfold yF at ha4;split at ha4 <;> cases ha4;rfl
  rw[e4,e3,e1]
 cases hw9:vg (zS E s).text with
 |some w=>
  rw[hw9] at h;simp only at h;split at h
  ·rename_i hk;obtain⟨u,s1,h1,h⟩:=zz h;have hlt:=qF (k:=5) (by simpa using hk) (by decide);have n1:=kG (by omega) N.wf h1;replace N:=N.trans n1;obtain⟨nb,vb⟩:=ziZ hR _ w N.le N.wf h;exact⟨(N.trans nb).down (by decide),vb⟩
  ·obtain⟨nb,vb⟩:=KC hR _ N.le N.wf h;exact⟨(N.trans nb).down (by decide),vb⟩
 |none=>
  rw[hw9] at h;obtain⟨nb,vb⟩:=KC hR _ N.le N.wf h;exact⟨(N.trans nb).down (by decide),vb⟩
theorem zaM{R:xV}(hR:yQ R):∀(n:Nat) (left:Int) {E:zJ} {s:yK} {a:Int} {s':yK},s.next<=E.toks.length->WFs s->Vd s left->Yu R n left E s=.ok a s'->Nx E 0 s s'/\Vd s' a
 |0,_,_,_,_,_,_,_,_,h=>by cases h
 |n+1,left,E,s,a,s',h0,hw,vl,h=>by
  have N:=Nx.refl h0 hw;unfold Yu at h;obtain⟨t,s1,h1,h⟩:=zz h;cases h1;obtain⟨a1,sa1,na1,ha1,N,h⟩:=gm h N;replace vl:=vl.later na1;cases a1 with
  |true=>
   rw[if_pos rfl] at h;obtain⟨m,sm,nm,vm,N,h⟩:=gb h N ((yv (by decide)));replace vl:=vl.later nm;obtain⟨x,s9,h9,h⟩:=zz h;obtain⟨nz,vz⟩:=zR N.le N.wf (Yl vl) h9;replace N:=N.trans nz;obtain⟨n4,v4⟩:=zaM hR n x N.le N.wf vz h;exact⟨(N.trans n4).down (by decide),v4⟩
  |false=>
  rw[if_neg (by decide)] at h;obtain⟨a2,sa2,na2,ha2,N,h⟩:=gm h N;replace vl:=vl.later na2;cases a2 with
  |true=>
   rw[if_pos rfl] at h;obtain⟨k,sk,nk,vk,N,h⟩:=gb h N ((Qp hR.expr));replace vl:=vl.later nk;obtain⟨q,sq,nq,vq,N,h⟩:=gb h N (zr);replace vl:=vl.later nq;replace vk:=vk.later nq;obtain⟨x,s9,h9,h⟩:=zz h;obtain⟨nz,vz⟩:=zR N.le N.wf (Ji vl vk) h9;replace N:=N.trans nz;obtain⟨n4,v4⟩:=zaM hR n x N.le N.wf vz h;exact⟨(N.trans n4).down (by decide),v4⟩
  |false=>
  rw[if_neg (by decide)] at h;obtain⟨rfl,rfl⟩:=yL h;exact⟨N.down (by decide),vl⟩
theorem JD{R:xV}(hR:yQ R):Gd 0 Vd (Zu R):=by
 intro E s a s' h0 hw h;have N:=Nx.refl h0 hw;unfold Zu at h;obtain⟨b,s1,h1,h⟩:=zz h;cases h1;split at h
 ·rename_i hb;obtain⟨t,s2,h2,h⟩:=zz h;have n2:=kF (vo hb) hw h2;replace N:=N.trans n2;obtain⟨x,sx,nx,vx,N,h⟩:=gb h N (hR.unary);exact qu N (zR N.le N.wf (Yl vx) h) (by decide)
 ·obtain⟨l,sl,nl,vl,N,h⟩:=gb h N ((zfj hR));obtain⟨n4,v4⟩:=zaM hR _ l N.le N.wf vl h;exact⟨(N.trans n4).down (by decide),v4⟩
theorem zfh{R:xV}(hR:yQ R):Gd 0 Vd (zkk R):=Qw (JD hR) 4
theorem zfi{R:xV}(hR:yQ R):Gd 0 Vd (zab R):=Qw (zfh hR) 3
theorem Jw{R:xV}(hR:yQ R):Gd 0 Vd (XF R):=by
 intro E s a s' h0 hw h;have N:=Nx.refl h0 hw;unfold XF at h;obtain⟨b,s1,h1,h⟩:=zz h;cases h1;split at h
 ·rename_i hb;obtain⟨t,s2,h2,h⟩:=zz h;have n2:=kF (vo hb) hw h2;replace N:=N.trans n2;obtain⟨x,sx,nx,vx,N,h⟩:=gb h N (hR.bin2);exact qu N (zR N.le N.wf (Yl vx) h) (by decide)
 ·obtain⟨n4,v4⟩:=Qw (zfi hR) 2 N.le N.wf h;exact⟨(N.trans n4).down (by decide),v4⟩
theorem zjY{R:xV}(hR:yQ R):Gd 0 Vd (zic R):=Qw (Qw (Jw hR) 1) 0
theorem zdR{R:xV}(hR:yQ R):Gd 0 Vd (kV R):=by
 intro E s a s' h0 hw h;have N:=Nx.refl h0 hw;unfold kV at h;obtain⟨t,s0,h1,h⟩:=zz h;cases h1;split at h
 ·rename_i hk;obtain⟨u,s1,h1,h⟩:=zz h;have n1:=kG (qF (k:=1) (by simpa using hk) (by decide)) hw h1;replace N:=N.trans n1;exact qu N (zR N.le N.wf (JC) h) (by decide)
 split at h
 ·rename_i hk;obtain⟨u,s1,h1,h⟩:=zz h;have n1:=kG (qF (k:=3) (by simpa using hk) (by decide)) hw h1;replace N:=N.trans n1;exact qu N (zR N.le N.wf (JC) h) (by decide)
 split at h
 ·rename_i hk;obtain⟨u,s1,h1,h⟩:=zz h;have n1:=kG (qF (k:=4) (by simpa using hk) (by decide)) hw h1;replace N:=N.trans n1;exact qu N (zR N.le N.wf (JC) h) (by decide)
 split at h
 ·rename_i hk;obtain⟨u,s1,h1,h⟩:=zz h;have n1:=kG (qF (k:=2) (by simpa using hk) (by decide)) hw h1;replace N:=N.trans n1;obtain⟨l,sl,nl,vl,N,h⟩:=gb h N ((uO hR.pattern));exact qu N (zR N.le N.wf (vl) h) (by decide)
 obtain⟨a1,sa1,na1,ha1,N,h⟩:=gm h N;cases a1 with
 |true=>
  rw[if_pos rfl] at h;exact qu N (zR N.le N.wf (JC) h) (by decide)
 |false=>
 rw[if_neg (by decide)] at h;obtain⟨a2,sa2,na2,ha2,N,h⟩:=gm h N;cases a2 with
 |true=>
  rw[if_pos rfl] at h;exact qu N (zR N.le N.wf (JC) h) (by decide)
 |false=>
 rw[if_neg (by decide)] at h;obtain⟨q,sq,nq,vq,N,h⟩:=gb h N (zr);obtain⟨m,sm,nm,vm,N,h⟩:=gb h N ((yv (by decide)));exact qu N (zR N.le N.wf (JC) h) (by decide)
theorem Xa{α:Type}{d:Int}{Q:yK->α->Prop}{m:PM α}(hm:∀E s,m E s=.bad 0):Gd d Q m:=by
 intro E s a s' _ _ h;rw[hm] at h;cases h
theorem zfb:yQ zki:=⟨Xa fun _ _=>rfl,Xa fun _ _=>rfl,Xa fun _ _=>rfl,Xa fun _ _=>rfl,Xa fun _ _=>rfl,Xa fun _ _=>rfl,Xa fun _ _=>rfl⟩
theorem kf:∀n,yQ (YN n)
 |0=>zfb
 |n+1=>⟨zjY (kf n),JD (kf n),Jw (kf n),zim (kf n),zak (kf n),zjJ (kf n),zdR (kf n)⟩
theorem Nx.adv{E:zJ}{d:Int}{s s':yK}(n:Nx E d s s'):(s.next:Int)+d<=s'.next:=by
 obtain⟨r,hr⟩:=n.pre;have:=n.cr;rw[hr,pK] at this;omega
structure yl where
 nodes:List Nd
 items:List Int
 deriving DecidableEq
inductive yX where
 |expr|stmt|type|pattern|way|item|els|JX
 |one (k:Nat)
 deriving DecidableEq
def zW(k:Nat):Bool:=decide (1<=k) && decide (k<=51) && k != 27 && k != 32 && k != 28
def yX.is:yX->Nat->Bool
 | .expr,k=>zW k
 | .stmt,k=>(decide (60<=k) && decide (k<=62)) || zW k
 | .type,k=>decide (80<=k) && decide (k<=87)
 | .pattern,k=>decide (66<=k) && decide (k<=70)
 | .way,k=>decide (63<=k) && decide (k<=65)
 | .item,k=>decide (100<=k) && decide (k<=104)
 | .els,k=>k == 28 || k == 29
 | .JX,k=>k == 5 || k == 23
 | .one j,k=>k == j
structure xo where
 first:List yX
 more:Option yX
 least:Nat
 last:List yX
 deriving DecidableEq
def uS(l:List yX):xo:=⟨l,none,0,[]⟩
def zO(k:Nat):Option xo:=
 if [1,2,3,4,5,44,45,46,80,81,82,83,84,66,67,68,69].contains k then some (uS [])
 else if [6,7,23,27,37,38,39,42,43,47,50,51,60,61,65].contains k then some (uS [.expr])
 else if [41,48,63].contains k then some (uS [.expr,.expr])
 else if [49,64].contains k then some (uS [.expr,.expr,.expr])
 else if k == 24 then some ⟨[.expr],some .expr,0,[]⟩
 else if k == 25 then some ⟨[],some .expr,0,[]⟩
 else if k == 26 then some ⟨[],some (.one 27),1,[]⟩
 else if k == 28 then some ⟨[],some .stmt,0,[]⟩
 else if k == 29 then some ⟨[.expr,.one 28],some .els,0,[]⟩
 else if k == 30 then some (uS [.expr,.one 28])
 else if k == 31 then some ⟨[.expr],some (.one 32),1,[]⟩
 else if k == 32 then some (uS [.pattern,.expr])
 else if k == 33 || k == 102 then some ⟨[],some (.one 88),0,[.type,.one 28]⟩
 else if k == 34 then some (uS [.one 28,.one 28])
 else if k == 35 then some ⟨[],some .way,1,[]⟩
 else if k == 36 then some (uS [.expr,.one 28,.one 28])
 else if k == 40 || k == 86 || k == 87 || k == 88 then some (uS [.type])
 else if k == 62 then some (uS [.JX,.expr])
 else if k == 70 then some ⟨[],some .pattern,0,[]⟩
 else if k == 85 then some ⟨[],some .type,0,[.type]⟩
 else if k == 89 then some ⟨[],some .type,0,[]⟩
 else if k == 100 then some ⟨[],some (.one 88),1,[]⟩
 else if k == 101 then some ⟨[],some (.one 89),1,[]⟩
 else if k == 103 then some ⟨[],some (.one 88),0,[.type]⟩
 else if k == 104 then some (uS [.type,.expr])
 else if decide (8<=k) && decide (k<=22) then some (uS [.expr,.expr])
 else none
def xo.at_(s:xo)(k many:Nat):Option yX:=
 if k<s.first.length then s.first[k]?
 else if many<=k+s.last.length then s.last[k+s.last.length-many]?
 else s.more
def xo.fits(s:xo)(many:Nat):Bool:=
 decide (s.first.length+s.last.length+s.least<=many) && (s.more.isSome || decide (many=s.first.length+s.last.length))
def xE(k:Nat):Nat:=
 if k == 2 || k == 68 then 4
 else if [25,26,84,70,89,100,101].contains k then 2
 else if [5,23,27,66,88,60,61,34,36,63,102,103,104].contains k then 1
 else 0
def xp(k:Nat):Int×Int:=
 if k == 1 || k == 40 then (0,1000000000)
 else if k == 67 then (-1000000000,1000000000)
 else if k == 3 || k == 69 || k == 28 || k == 102 then (0,1)
 else (0,0)
def kH(x:Nd):Bool:=
 if x.n<(xp x.kind).1\/(xp x.kind).2<x.n\/x.at_<0\/3000<x.at_ then false
 else if xE x.kind == 0 then x.text == []
 else (xD (xE x.kind) x.text).2 == 0
def zw(l:List Nd)(k:Int):Nat:=(l[k.toNat]?).elim 0 Nd.kind
def xG(l:List Nd)(x:Nd):Bool:=
 if x.kids.any fun k=>decide (k<0) || decide ((l.length:Int)<=k) then false
 else if x.kind == 28 then x.n == 0 || (match x.kids.getLast? with|some k=>zW (zw l k)|none=>false)
 else if x.kind == 29 then decide (x.kids.length<=3)
 else if x.kind == 35 then decide (x.kids.length<=(x.kids.findIdx fun k=>zw l k == 65)+1)
 else true
def uV(g:Int->Int->yX->Option Int)(h:xo)(many:Nat):List Int->Int->Option Int
 |[],next=>some next
 |k :: r,next=>match h.at_ r.length many with
  |none=>none
  |some s=>(g next k s).bind (uV g h many r)
def qB(l:List Nd):Nat->Int->Int->yX->Option Int
 |0,_,_,_=>none
 |f+1,next,number,s=>
  if next<0\/number≠next then none else
  match l[number.toNat]? with
  |none=>none
  |some x=>match zO x.kind with
   |none=>none
   |some h=>if s.is x.kind && kH x && h.fits x.kids.length && xG l x then uV (qB l f) h x.kids.length x.kids.reverse (next-1) else none
def ZU(l:List Nd):List Int->Int->Option Int
 |[],next=>some next
 |k :: r,next=>(qB l (l.length+1) next k .item).bind (ZU l r)
def jg(t:yl):Bool:=match ZU t.nodes t.items.reverse ((t.nodes.length:Int)-1) with
 |some next=>decide (next<0)
 |none=>false
def xA(d:Nat):List Int->List Nat->List Nat
 |[],deep=>deep
 |k :: r,deep=>xA d r (deep.set k.toNat (d+1))
def Yz(l:List Nd):Nat->List Nat->Nat->Nat
 |0,_,most=>most
 |i+1,deep,most=>Yz l i (xA (deep.getD i 0) ((l[i]?).elim [] Nd.kids) deep) (max most (deep.getD i 0))
def kh(t:yl):Nat:=Yz t.nodes t.nodes.length (t.items.foldl (fun d k=>d.set k.toNat 1) (List.replicate t.nodes.length 0)) 0
def jc(k:Nat):Nat:=
 if k == 102 || k == 33 then 8
 else if k == 103 || k == 85 || k == 24 then 7
 else if k == 100 || k == 26 then 6
 else if k == 101 then 8
 else if k == 89 || k == 25 || k == 70 then 4
 else if k == 31 then 13
 else if k == 35 then 4
 else 1000
def xN(x:Nd):Bool:=if x.kind == 40 then decide (1<=x.n) && decide (x.n<=8) else decide (x.kids.length<=jc x.kind)
def yJ(t:yl):Nat:=
 if 1000<t.nodes.length\/40<t.items.length then 5
 else if !jg t then 4
 else if 40<kh t then 5
 else if t.nodes.any fun x=> !xN x then 3
 else 0
def Xb{α:Type}(p:α->Bool)(l:List α):Int:=match l.findIdx? p with
 |some i=>i
 |none=> -1
def upT(t:yl)(node:Int):Int:=Xb (fun x=>x.kids.contains node) t.nodes
def zgQ(t:yl):Nat->Int->List Int->List Int
 |0,_,acc=>acc
 |f+1,at_,acc=>if at_<0 then acc else zgQ t f (upT t at_) (at_ :: acc)
def zgP(t:yl)(node:Int):List Int:=zgQ t (t.nodes.length+1) node []
def QE(l:List Nd):Nat->Int->Int
 |0,_=>0
 |f+1,node=>((l[node.toNat]?).elim [] Nd.kids).foldl (fun n k=>n+QE l f k) 1
def zeN(t:yl)(node:Int):Int:=QE t.nodes (t.nodes.length+1) node
def zaf{α:Type}(t:yl)(node:Int)(of:yl->Int->α)(d:α):α×Nat:=
 if yJ t≠0 then (d,yJ t)
 else if node<0\/(t.nodes.length:Int)<=node then (d,7)
 else (of t node,0)
def zaS(t:yl)(node:Int):Int×Nat:=zaf t node upT 0
def zhH(t:yl)(node:Int):List Int×Nat:=zaf t node zgP []
def zdh(t:yl)(node:Int):Int×Nat:=zaf t node zeN 0
def zbd(t:yl)(p:Int):Int×Nat:=
 if yJ t≠0 then (0,yJ t)
 else if Xb (fun x=>x.at_ == p) t.nodes<0 then (0,7)
 else (Xb (fun x=>x.at_ == p) t.nodes,0)
def xl(s:List UInt8):yl×Int×Nat:=
 match ju s with
 |(l,at_,e)=>if e≠0 then (⟨[],[]⟩,at_,e) else
  match vV l s.length with
  | .bad p=>(⟨[],[]⟩,p,4)
  | .ok _ st=>
   if 1000<st.nodes.length\/40<st.items.length\/40<kh ⟨st.nodes,st.items⟩ then (⟨[],[]⟩,0,5)
   else match st.nodes.find? fun x=> !xN x with
    |some x=>(⟨[],[]⟩,x.at_,3)
    |none=>(⟨st.nodes,st.items⟩,0,0)
def zY(k:Nat):Option (List UInt8):=
 if k == 22 then some [111,114] else if k == 21 then some [97,110,100]
 else if k == 14 then some [61,61] else if k == 15 then some [33,61] else if k == 16 then some [60] else if k == 17 then some [60,61] else if k == 18 then some [62] else if k == 19 then some [62,61] else if k == 20 then some [105,115]
 else if k == 8 then some [43] else if k == 9 then some [45] else if k == 10 then some [43,43]
 else if k == 11 then some [42] else if k == 12 then some [47] else if k == 13 then some [37]
 else none
def zv(k:Nat):Nat:=
 if k == 22 then 1 else if k == 21 then 2 else if decide (14<=k) && decide (k<=20) then 4
 else if k == 8 || k == 9 || k == 10 then 5 else if k == 11 || k == 12 || k == 13 then 6
 else if k == 7 then 3 else if k == 6 || k == 37 || k == 38 || k == 39 then 7
 else if k == 23 || k == 24 then 8 else 9
def qc:List (List UInt8)->List UInt8
 |[]=>[]
 |[x]=>x
 |x :: r=>x ++ [44,32] ++ qc r
section
variable (l:List Nd) (pr:Int→List UInt8)
def yz(node:Int)(least:Nat):List UInt8:=if zv (zw l node)<least then [40] ++ pr node ++ [41] else pr node
def yW(k:List Int):List UInt8:=qc (k.map pr)
def jk(k:List Int):List UInt8:=if k=[] then [] else [40] ++ yW pr k ++ [41]
def yY(last:Bool):List Int->List UInt8
 |[]=>[]
 |[k]=>pr k ++ (if last then [] else [59]) ++ [32]
 |k :: r=>pr k ++ [59] ++ [32] ++ yY last r
def vD(x:Nd):List UInt8:=if x.kids=[] then [123,125] else [123,32] ++ yY pr (x.n != 0) x.kids ++ [125]
def zt(x:Nd)(i:Nat):Int:=x.kids.getD i 0
def yE(x:Nd)(without:Nat):List UInt8:=[40] ++ yW pr (x.kids.take (x.kids.length-1-without)) ++ [41,58,32] ++ pr (zt x (x.kids.length-1-without))
def xb(x:Nd):List UInt8:=
 if x.kind == 60 then [108,101,116,32] ++ x.text ++ [32,61,32] ++ pr (zt x 0)
 else if x.kind == 61 then [118,97,114,32] ++ x.text ++ [32,61,32] ++ pr (zt x 0)
 else if x.kind == 62 then pr (zt x 0) ++ [32,58,61,32] ++ pr (zt x 1)
 else if x.kind == 63 then [114,101,99,118,32] ++ pr (zt x 0) ++ [32,97,115,32] ++ x.text ++ [32,61,62,32] ++ pr (zt x 1)
 else if x.kind == 64 then [115,101,110,100,32] ++ yW pr (x.kids.take 2) ++ [32,61,62,32] ++ pr (zt x 2)
 else [101,108,115,101,32,61,62,32] ++ pr (zt x 0)
def ya(x:Nd):List UInt8:=
 if x.kind == 80 then [105,110,116] else if x.kind == 81 then [98,111,111,108] else if x.kind == 82 then [116,101,120,116] else if x.kind == 83 then [117,110,105,116]
 else if x.kind == 85 then [102,110] ++ yE pr x 0
 else if x.kind == 86 then [99,104,97,110,32] ++ pr (zt x 0)
 else if x.kind == 87 then [119,101,97,107,32] ++ pr (zt x 0)
 else if x.kind == 88 then x.text ++ [58,32] ++ pr (zt x 0)
 else if x.kind == 100 then [99,108,97,115,115,32] ++ x.text ++ [32,123,32] ++ yW pr x.kids ++ [32,125]
 else if x.kind == 101 then [107,105,110,100,32] ++ x.text ++ [32,123,32] ++ yW pr x.kids ++ [32,125]
 else if x.kind == 103 then [101,120,116,101,114,110,32,102,117,110,32] ++ x.text ++ yE pr x 0 ++ [59]
 else if x.kind == 104 then [114,111,111,116,32] ++ x.text ++ [58,32] ++ pr (zt x 0) ++ [32,61,32] ++ pr (zt x 1) ++ [59]
 else (if x.n == 1 then [112,117,114,101,32] else []) ++ ([102,117,110,32] ++ x.text ++ yE pr x 1 ++ [32] ++ pr (zt x (x.kids.length-1)))
def zC(x:Nd):List UInt8:=
 if x.kind == 29 then [105,102,32] ++ pr (zt x 0) ++ [32] ++ pr (zt x 1) ++ (if x.kids.length == 3 then [32,101,108,115,101,32] ++ pr (zt x 2) else [])
 else if x.kind == 30 then [119,104,105,108,101,32] ++ pr (zt x 0) ++ [32] ++ pr (zt x 1)
 else if x.kind == 31 then [109,97,116,99,104,32] ++ pr (zt x 0) ++ [32,123,32] ++ yW pr (x.kids.drop 1) ++ [32,125]
 else if x.kind == 32 then pr (zt x 0) ++ [32,61,62,32] ++ pr (zt x 1)
 else if x.kind == 33 then [102,110] ++ yE pr x 1 ++ [32] ++ pr (zt x (x.kids.length-1))
 else if x.kind == 34 then [116,114,121,32] ++ pr (zt x 0) ++ [32,99,97,116,99,104,32] ++ x.text ++ [32] ++ pr (zt x 1)
 else if x.kind == 35 then [115,101,108,101,99,116,32,123,32] ++ yW pr x.kids ++ [32,125]
 else if x.kind == 36 then [104,111,108,100,32] ++ pr (zt x 0) ++ [32,97,115,32] ++ x.text ++ [32] ++ pr (zt x 1) ++ [32,101,108,115,101,32] ++ pr (zt x 2)
 else if x.kind == 26 then [110,101,119,32] ++ x.text ++ [32,123,32] ++ yW pr x.kids ++ [32,125]
 else if x.kind == 27 then x.text ++ [58,32] ++ pr (zt x 0)
 else [99,104,97,110,32] ++ pr (zt x 0) ++ [40] ++ Go.Lib.itoa x.n ++ [41]
def zq(x:Nd):List UInt8:=
 match zY x.kind with
 |some sign=>yz l pr (zt x 0) (if zv x.kind == 4 then 5 else zv x.kind) ++ [32] ++ sign ++ [32] ++ yz l pr (zt x 1) (zv x.kind+1)
 |none=>
  if x.kind == 1 || x.kind == 67 then Go.Lib.itoa x.n
  else if x.kind == 2 || x.kind == 68 then (xr x.text).1
  else if x.kind == 3 || x.kind == 69 then (if x.n == 1 then [116,114,117,101] else [102,97,108,115,101])
  else if x.kind == 4 then [40,41]
  else if x.kind == 5 || x.kind == 66 || x.kind == 84 then x.text
  else if x.kind == 6 then (if zw l (zt x 0) == 6 then [45,32] ++ pr (zt x 0) else [45] ++ yz l pr (zt x 0) 7)
  else if x.kind == 7 then [110,111,116,32] ++ yz l pr (zt x 0) 3
  else if x.kind == 23 then yz l pr (zt x 0) 8 ++ [46] ++ x.text
  else if x.kind == 24 then (if zw l (zt x 0) == 25 && ((l[(zt x 0).toNat]?).elim [] Nd.kids).isEmpty then [40] ++ yz l pr (zt x 0) 8 ++ [41] else yz l pr (zt x 0) 8) ++ [40] ++ yW pr (x.kids.drop 1) ++ [41]
  else if x.kind == 25 || x.kind == 70 || x.kind == 89 then x.text ++ jk pr x.kids
  else if x.kind == 28 then vD pr x
  else match zK.find? fun w=>w.2.1 == x.kind with
   |some w=>if w.2.2<0 then w.1 ++ [32] ++ yz l pr (zt x 0) 7 else if w.2.2 == 0 then w.1 else w.1 ++ [40] ++ yW pr x.kids ++ [41]
   |none=>
    if decide (60<=x.kind) && decide (x.kind<=65) then xb pr x
    else if 80<=x.kind then ya pr x
    else zC pr x
end
def Vc(l:List Nd):Nat->Int->List UInt8
 |0,_=>[]
 |f+1,node=>match l[node.toNat]? with
  |some x=>zq l (Vc l f) x
  |none=>[]
def prT(t:yl)(node:Int):List UInt8:=Vc t.nodes (t.nodes.length+1) node
def vY(s:List UInt8):List UInt8×Nat:=if (ju s).2.2≠0 then ([],5) else (s,0)
def uD(t:yl):List UInt8×Nat:=if yJ t≠0 then ([],yJ t) else vY (t.items.flatMap fun k=>prT t k ++ [10])
def ui(s:List UInt8):List UInt8×Int×Nat:=match xl s with
 |(t,at_,e)=>if e≠0 then ([],at_,e) else ((uD t).1,0,(uD t).2)
def jh(k:Nat):Nat×Nat:=
 if [1,2,3,4,5,44,45,46,66,67,68,69,80,81,82,83,84].contains k then (0,0)
 else if [6,7,23,27,37,38,39,40,42,43,47,50,51,60,61,65,86,87,88].contains k then (1,1)
 else if [49,64,36].contains k then (3,3)
 else if k == 29 then (2,3)
 else if [24,26,35,85,103,100,101].contains k then (1,2000)
 else if [31,33,102].contains k then (2,2000)
 else if [25,28,70,89].contains k then (0,2000)
 else (2,2)
def yO(k:Nat)(n:Int)(m i kd:Nat):Bool:=
 if k == 100 then kd == 88
 else if k == 101 then kd == 89
 else if k == 26 then kd == 27
 else if k == 70 then yX.pattern.is kd
 else if k == 88 || k == 89 || k == 85 || k == 86 || k == 87 || k == 40 then yX.type.is kd
 else if k == 103 then (decide (i+1<m) && kd == 88) || (decide (i+1=m) && yX.type.is kd)
 else if k == 102 || k == 33 then (decide (i+2<m) && kd == 88) || (decide (i+2=m) && yX.type.is kd) || (decide (i+1=m) && kd == 28)
 else if k == 104 then (decide (i=0) && yX.type.is kd) || (decide (i=1) && zW kd)
 else if k == 28 then yX.stmt.is kd && (decide (i+1<m) || n == 0 || zW kd)
 else if k == 62 then (decide (i=1) && zW kd) || (decide (i=0) && (kd == 5 || kd == 23))
 else if k == 29 then (decide (i=0) && zW kd) || (decide (0<i) && kd == 28) || (decide (i=2) && kd == 29)
 else if k == 30 || k == 36 then (decide (i=0) && zW kd) || (decide (0<i) && kd == 28)
 else if k == 34 then kd == 28
 else if k == 31 then (decide (i=0) && zW kd) || (decide (0<i) && kd == 32)
 else if k == 32 then (decide (i=0) && yX.pattern.is kd) || (decide (i=1) && zW kd)
 else if k == 35 then yX.way.is kd && (decide (i+1=m) || kd != 65)
 else zW kd
def zy(k:Nat)(n:Int)(m:Nat):Bool:=
 if k == 1 || k == 40 then decide (0<=n) && decide (n<=1000000000)
 else if k == 67 then decide (-1000000000<=n) && decide (n<=1000000000)
 else if k == 3 || k == 69 || k == 102 then n == 0 || n == 1
 else if k == 28 then n == 0 || (n == 1 && decide (0<m))
 else n == 0
def xX(k:Nat):Bool:=(decide (1<=k) && decide (k<=51)) || (decide (60<=k) && decide (k<=70)) || (decide (80<=k) && decide (k<=89)) || (decide (100<=k) && decide (k<=104))
def xY(x:Nd):Bool:=if xE x.kind == 0 then x.text == [] else (xD (xE x.kind) x.text).2 == 0
def zI(l:List Nd)(x:Nd):Bool:=
 xX x.kind && decide ((jh x.kind).1<=x.kids.length) && decide (x.kids.length<=(jh x.kind).2) && zy x.kind x.n x.kids.length && decide (0<=x.at_) && decide (x.at_<=3000) && xY x &&
 (List.range x.kids.length).all fun i=>yO x.kind x.n x.kids.length i (zw l (x.kids.getD i 0))
def jb(h:xo)(m i kd:Nat):Bool:=match h.at_ i m with
 |some s=>s.is kd
 |none=>false
def xI(l:List Nd)(x:Nd):Bool:=match zO x.kind with
 |none=>false
 |some h=>kH x && h.fits x.kids.length && xG l x && (List.range x.kids.length).all fun i=>jb h x.kids.length i (zw l (x.kids.getD i 0))
theorem jK{k:Nat}(h:xX k=true):k<=104:=by
 simp only[xX,wM,pM,pJ] at h;omega
theorem zcq:∀k,k<=104->(zO k).isSome=xX k:=by decide +kernel
theorem zdk{k:Nat}(h:¬k<=104):zO k=none:=by
 have h2:∀(l:List Nat),(∀x∈l,x<=104)->l.contains k=false:=fun l hl=>by
  rw[Bool.eq_false_iff];intro hc;rw[List.contains_iff_mem] at hc;exact h (hl k hc)
 have h3:∀j,j<=104->(k == j)=false:=fun j hj=>by rw[pB];omega
 unfold zO;rw[h2 _ (by decide),h2 _ (by decide),h2 _ (by decide),h2 _ (by decide)];simp only[h3 24 (by decide),h3 25 (by decide),h3 26 (by decide),h3 28 (by decide),h3 29 (by decide),h3 30 (by decide),h3 31 (by decide),h3 32 (by decide),h3 33 (by decide),h3 102 (by decide),h3 34 (by decide),h3 35 (by decide),h3 36 (by decide),h3 40 (by decide),h3 86 (by decide),h3 87 (by decide),h3 88 (by decide),h3 62 (by decide),h3 70 (by decide),h3 85 (by decide),h3 89 (by decide),h3 100 (by decide),h3 101 (by decide),h3 103 (by decide),h3 104 (by decide)];rw[show decide (k<=22)=false from by rw[wV];omega];simp
theorem QG(k:Nat):(zO k).isSome=xX k:=by
 by_cases h:k<=104
 ·exact zcq k h
 ·rw[zdk h];cases hk:xX k with
  |true=>exact absurd (jK hk) h
  |false=>rfl
theorem Zq(x:Nd):kH x=((decide ((xp x.kind).1<=x.n) && decide (x.n<=(xp x.kind).2)) && (decide (0<=x.at_) && decide (x.at_<=3000)) && xY x):=by
 unfold kH xY;by_cases h:x.n<(xp x.kind).1\/(xp x.kind).2<x.n\/x.at_<0\/3000<x.at_
 ·rw[if_pos h];symm;rw[Bool.and_eq_false_iff];left;rw[Bool.and_eq_false_iff,Bool.and_eq_false_iff,Bool.and_eq_false_iff];simp only[wV];omega
 ·rw[if_neg h];have h1:decide ((xp x.kind).1<=x.n)=true:=by rw[pJ];omega
  have h2:decide (x.n<=(xp x.kind).2)=true:=by rw[pJ];omega
  have h3:decide (0<=x.at_)=true:=by rw[pJ];omega
  have h4:decide (x.at_<=3000)=true:=by rw[pJ];omega
  rw[h1,h2,h3,h4];simp
theorem jB{m:Nat}{p q:Nat->Bool}(h:∀i,i<m->p i=q i):(List.range m).all p=(List.range m).all q:=by
 rw[pR,pY,pY];constructor <;> (intro hh i hi;have:=hh i hi;have e:=h i (List.mem_range.1 hi);simp_all)
theorem zhi{l:List Nd}{x:Nd}{h:xo}(hs:zO x.kind=some h)(hsp:xG l x=true)
 (hf:h.fits x.kids.length=(decide ((jh x.kind).1<=x.kids.length) && decide (x.kids.length<=(jh x.kind).2)))
 (hb:(decide ((xp x.kind).1<=x.n) && decide (x.n<=(xp x.kind).2))=zy x.kind x.n x.kids.length)
 (hd:h.fits x.kids.length=true->∀i,i<x.kids.length->∀kd,jb h x.kids.length i kd=yO x.kind x.n x.kids.length i kd):xI l x=zI l x:=by
 have hk:xX x.kind=true:=by rw[<-QG,hs];rfl
 unfold xI zI;rw[hs];simp only[hsp,hk,Zq,hb,<-hf,Bool.true_and,Bool.and_true];cases hfit:h.fits x.kids.length with
 |false=>
  simp
 |true=>
  rw[jB (fun i hi=>hd hfit i hi _)];simp only[Bool.true_and,Bool.and_true];generalize zy x.kind x.n x.kids.length=a;generalize decide (0<=x.at_)=b;generalize decide (x.at_<=3000)=c;generalize xY x=d;cases a <;> cases b <;> cases c <;> cases d <;> simp
def InR(l:List Nd)(x:Nd):Prop:=∀k∈x.kids,0<=k/\k<(l.length:Int)
theorem Zf{l:List Nd}{x:Nd}(h:InR l x):(x.kids.any fun k=>decide (k<0) || decide ((l.length:Int)<=k))=false:=by
 rw[List.any_eq_false];intro k hk;have:=h k hk;simp;omega
theorem KY{l:List Nd}{x:Nd}(h:InR l x)(h1:x.kind≠28)(h2:x.kind≠29)(h3:x.kind≠35):xG l x=true:=by
 unfold xG;rw[Zf h];simp[h1,h2,h3]
theorem zae(l:List yX)(m:Nat):(uS l).fits m=decide (m=l.length):=by
 unfold xo.fits uS;rw[pR];simp;omega
theorem ZN(k:Nat)(n:Int)(m:Nat)(h:k≠28):(decide ((xp k).1<=n) && decide (n<=(xp k).2))=zy k n m:=by
 have h28:(k == 28)=false:=bfE h
 unfold xp zy;rw[h28];by_cases h1:(k == 1 || k == 40)=true
 ·rw[if_pos h1,if_pos h1]
 ·rw[if_neg h1,if_neg h1];by_cases h2:(k == 67)=true
  ·rw[if_pos h2,if_pos h2]
  ·rw[if_neg h2,if_neg h2];by_cases h3:(k == 3 || k == 69 || k == 102)=true
   ·have h4:(k == 3 || k == 69 || false || k == 102)=true:=by simpa using h3
    rw[if_pos h3,if_pos h4,pR];simp;omega
   ·have h4:¬(k == 3 || k == 69 || false || k == 102)=true:=by simpa using h3
    rw[if_neg h3,if_neg h4,if_neg (by decide),pR];simp;omega
theorem uW(f:List yX)(s:yX)(least:Nat)(la:List yX)(m:Nat):(xo.mk f (some s) least la).fits m=decide (f.length+la.length+least<=m):=by
 unfold xo.fits;simp
theorem VC{l:List Nd}{x:Nd}(hin:InR l x)(h:xo)(ks:List Nat)(hk:x.kind∈ks)(h1:∀k∈ks,zO k=some h)(h2:∀k∈ks,k≠28/\k≠29/\k≠35)(hf:∀k∈ks,h.fits x.kids.length=(decide ((jh k).1<=x.kids.length) && decide (x.kids.length<=(jh k).2)))(hd:∀k∈ks,h.fits x.kids.length=true->∀i,i<x.kids.length->∀kd,jb h x.kids.length i kd=yO k x.n x.kids.length i kd):xI l x=zI l x:=
 zhi (h1 _ hk) (KY hin (h2 _ hk).1 (h2 _ hk).2.1 (h2 _ hk).2.2) (hf _ hk) (ZN _ _ _ (h2 _ hk).1) (hd _ hk)
theorem jV{l:List Nd}{x:Nd}(hin:InR l x)(ls:List yX)(ks:List Nat)(hk:x.kind∈ks)(h1:∀k∈ks,zO k=some (uS ls))(h2:∀k∈ks,k≠28/\k≠29/\k≠35)(h3:∀k∈ks,jh k=(ls.length,ls.length))(h4:∀k∈ks,∀(n:Int) (i kd:Nat),i<ls.length->jb (uS ls) ls.length i kd=yO k n ls.length i kd):xI l x=zI l x:=
 VC hin (uS ls) ks hk h1 h2 (fun k hk=>by
  rw[h3 k hk,zae];generalize x.kids.length=m;rw[pR];simp;omega) (fun k hk hf i hi kd=>by
  rw[zae,pJ] at hf;rw[hf] at hi ⊢;exact h4 k hk _ i kd hi)
theorem xL{l:List Nd}{x:Nd}(hin:InR l x)(hk:x.kind∈[1,2,3,4,5,44,45,46,80,81,82,83,84,66,67,68,69]\/x.kind∈[6,7,23,27,37,38,39,42,43,47,50,51,60,61,65]\/x.kind∈[40,86,87,88]\/x.kind∈[41,48,63,8,9,10,11,12,13,14,15,16,17,18,19,20,21,22]\/x.kind∈[49,64]\/x.kind∈[30]\/x.kind∈[32]\/x.kind∈[34]\/x.kind∈[36]\/x.kind∈[62]\/x.kind∈[104]):xI l x=zI l x:=by
 rcases hk with hk|hk|hk|hk|hk|hk|hk|hk|hk|hk|hk
 case' inl=>refine jV hin [] _ hk (by decide) (by decide) (by decide) ?_
 case' inr.inl=>refine jV hin [.expr] _ hk (by decide) (by decide) (by decide) ?_
 case' inr.inr.inl=>refine jV hin [.type] _ hk (by decide) (by decide) (by decide) ?_
 case' inr.inr.inr.inl=>refine jV hin [.expr,.expr] _ hk (by decide) (by decide) (by decide) ?_
 case' inr.inr.inr.inr.inl=>refine jV hin [.expr,.expr,.expr] _ hk (by decide) (by decide) (by decide) ?_
 case' inr.inr.inr.inr.inr.inl=>refine jV hin [.expr,.one 28] _ hk (by decide) (by decide) (by decide) ?_
 case' inr.inr.inr.inr.inr.inr.inl=>refine jV hin [.pattern,.expr] _ hk (by decide) (by decide) (by decide) ?_
 case' inr.inr.inr.inr.inr.inr.inr.inl=>refine jV hin [.one 28,.one 28] _ hk (by decide) (by decide) (by decide) ?_
 case' inr.inr.inr.inr.inr.inr.inr.inr.inl=>refine jV hin [.expr,.one 28,.one 28] _ hk (by decide) (by decide) (by decide) ?_
 case' inr.inr.inr.inr.inr.inr.inr.inr.inr.inl=>refine jV hin [.JX,.expr] _ hk (by decide) (by decide) (by decide) ?_
 case' inr.inr.inr.inr.inr.inr.inr.inr.inr.inr=>refine jV hin [.type,.expr] _ hk (by decide) (by decide) (by decide) ?_
 all_goals
  simp only[gG]
  repeat' refine And.intro ?_ ?_
  all_goals first
   |(intro x hx;cases hx;done)
   |(intro n i kd hi;rcases (show i=0\/i=1\/i=2 by simp only[pQ,wJ] at hi;omega) with rfl|rfl|rfl <;> first|(simp[jb,xo.at_,uS,yO,yX.is];done)|(simp at hi;done))
theorem jU{l:List Nd}{x:Nd}(hin:InR l x)(hm:x.kids.length<=1999)(f:List yX)(s:yX)(least:Nat)(la:List yX)(ks:List Nat)(hk:x.kind∈ks)(h1:∀k∈ks,zO k=some ⟨f,some s,least,la⟩)(h2:∀k∈ks,k≠28/\k≠29/\k≠35)(h3:∀k∈ks,jh k=(f.length+la.length+least,2000))(h4:∀k∈ks,∀(n:Int) (m i kd:Nat),f.length+la.length+least<=m->i<m->jb ⟨f,some s,least,la⟩ m i kd=yO k n m i kd):xI l x=zI l x:=
 VC hin _ ks hk h1 h2 (fun k hk=>by
  rw[h3 k hk,uW];generalize x.kids.length=m at *;rw[pR];simp;omega) (fun k hk hf i hi kd=>by
  rw[uW,pJ] at hf;exact h4 k hk _ _ i kd hf hi)
theorem uN{l:List Nd}{x:Nd}(hin:InR l x)(hm:x.kids.length<=1999)(hk:x.kind∈[25]\/x.kind∈[70]\/x.kind∈[89]\/x.kind∈[26]\/x.kind∈[100]\/x.kind∈[101]):xI l x=zI l x:=by
 rcases hk with hk|hk|hk|hk|hk|hk
 case' inl=>refine jU hin hm [] .expr 0 [] _ hk (by decide) (by decide) (by decide) ?_
 case' inr.inl=>refine jU hin hm [] .pattern 0 [] _ hk (by decide) (by decide) (by decide) ?_
 case' inr.inr.inl=>refine jU hin hm [] .type 0 [] _ hk (by decide) (by decide) (by decide) ?_
 case' inr.inr.inr.inl=>refine jU hin hm [] (.one 27) 1 [] _ hk (by decide) (by decide) (by decide) ?_
 case' inr.inr.inr.inr.inl=>refine jU hin hm [] (.one 88) 1 [] _ hk (by decide) (by decide) (by decide) ?_
 case' inr.inr.inr.inr.inr=>refine jU hin hm [] (.one 89) 1 [] _ hk (by decide) (by decide) (by decide) ?_
 all_goals
  intro k hk n m i kd hfit hi;simp only[pT,pS,or_false] at hk;subst hk;unfold jb xo.at_;rw[if_neg (by simp),if_neg (by simp;omega)];simp[yO,yX.is]
theorem zfQ{l:List Nd}{x:Nd}(hin:InR l x)(hm:x.kids.length<=1999)(hk:x.kind∈[24]):xI l x=zI l x:=
 jU hin hm [.expr] .expr 0 [] _ hk (by decide) (by decide) (by decide) (fun k hk n m i kd hfit hi=>by
  simp only[pT,pS,or_false] at hk;subst hk;simp only[pQ,wJ] at hfit;unfold jb xo.at_;have hi3:i=0\/0<i:=by omega
  rcases hi3 with rfl|hi3
  ·simp[yO,yX.is]
  ·rw[if_neg (by simp;omega),if_neg (by simp;omega)];simp[yO,yX.is])
theorem zfP{l:List Nd}{x:Nd}(hin:InR l x)(hm:x.kids.length<=1999)(hk:x.kind∈[31]):xI l x=zI l x:=
 jU hin hm [.expr] (.one 32) 1 [] _ hk (by decide) (by decide) (by decide) (fun k hk n m i kd hfit hi=>by
  simp only[pT,pS,or_false] at hk;subst hk;simp only[pQ,wJ] at hfit;unfold jb xo.at_;have hi3:i=0\/0<i:=by omega
  rcases hi3 with rfl|hi3
  ·simp[yO,yX.is]
  ·rw[if_neg (by simp;omega),if_neg (by simp;omega)];have h0:i≠0:=by omega
   simp[yO,yX.is,h0,hi3])
theorem zfO{l:List Nd}{x:Nd}(hin:InR l x)(hm:x.kids.length<=1999)(hk:x.kind∈[85]):xI l x=zI l x:=
 jU hin hm [] .type 0 [.type] _ hk (by decide) (by decide) (by decide) (fun k hk n m i kd hfit hi=>by
  simp only[pT,pS,or_false] at hk;subst hk;simp only[pQ,wJ] at hfit;unfold jb xo.at_;have hi3:i+1=m\/i+1<m:=by omega
  rcases hi3 with rfl|hi3
  ·simp[yO,yX.is]
  ·rw[if_neg (by simp),if_neg (by simp;omega)];simp[yO,yX.is])
theorem zdm{l:List Nd}{x:Nd}(hin:InR l x)(hm:x.kids.length<=1999)(hk:x.kind∈[103]):xI l x=zI l x:=
 jU hin hm [] (.one 88) 0 [.type] _ hk (by decide) (by decide) (by decide) (fun k hk n m i kd hfit hi=>by
  simp only[pT,pS,or_false] at hk;subst hk;simp only[pQ,wJ] at hfit;unfold jb xo.at_;have hi3:i+1=m\/i+1<m:=by omega
  rcases hi3 with rfl|hi3
  ·simp[yO,yX.is]
  ·rw[if_neg (by simp),if_neg (by simp;omega)];have h0:i+1≠m:=by omega
   simp[yO,yX.is,h0,hi3])
theorem VB{l:List Nd}{x:Nd}(hin:InR l x)(hm:x.kids.length<=1999)(hk:x.kind∈[33,102]):xI l x=zI l x:=
 jU hin hm [] (.one 88) 0 [.type,.one 28] _ hk (by decide) (by decide) (by decide) (fun k hk n m i kd hfit hi=>by
  simp only[pT,pS,or_false] at hk;simp only[pQ,wJ] at hfit;unfold jb xo.at_;have hi3:i+1=m\/i+2=m\/i+2<m:=by omega
  rcases hi3 with rfl|rfl|hi3
  ·rw[if_neg (by simp),if_pos (by simp)];rcases hk with rfl|rfl <;> simp[yO,yX.is]
  ·rw[if_neg (by simp),if_pos (by simp)];rcases hk with rfl|rfl <;> simp[yO,yX.is]
  ·rw[if_neg (by simp),if_neg (by simp;omega)];have h0:i+1≠m:=by omega
   have h1:i+2≠m:=by omega
   rcases hk with rfl|rfl <;> simp[yO,yX.is,h0,h1,hi3])
theorem XE:∀(l:List Int) (k:Int),l.getLast? =some k->l.getD (l.length-1) 0=k
 |[],k,h=>by cases h
 |[a],k,h=>by cases h;rfl
 |a :: b :: r,k,h=>by
  have h2:(b :: r).getLast? =some k:=by simpa using h
  have:=XE (b :: r) k h2;simpa using this
theorem zhl{l:List Nd}{x:Nd}(hin:InR l x)(hm:x.kids.length<=1999)(hk:x.kind=28):xI l x=zI l x:=by
 unfold xI zI;have hs:zO x.kind=some ⟨[],some .stmt,0,[]⟩:=by rw[hk];rfl
 have hsp:xG l x=(x.n == 0 || (match x.kids.getLast? with|some k=>zW (zw l k)|none=>false)):=by
  unfold xG;rw[Zf hin,hk];rfl
 rw[hs,hsp];simp only[uW,Zq,hk];have hP:∀i,i<x.kids.length->∀kd,jb ⟨[],some .stmt,0,[]⟩ x.kids.length i kd=yX.stmt.is kd:=fun i hi kd=>by
  unfold jb xo.at_;rw[if_neg (by simp),if_neg (by simp;omega)]
 have hR:∀i kd,yO 28 x.n x.kids.length i kd=(yX.stmt.is kd && (decide (i+1<x.kids.length) || x.n == 0 || zW kd)):=fun i kd=>rfl
 rw[jB (fun i hi=>hP i hi _)];simp only[hR];have hb:xp 28=(0,1):=rfl;have hf:jh 28=(0,2000):=rfl;have hn:zy 28 x.n x.kids.length=(x.n == 0 || (x.n == 1 && decide (0<x.kids.length))):=rfl;have hkn:xX 28=true:=rfl;rw[hb,hf,hn,hkn];have e1:decide ((([]:List yX).length+([]:List yX).length+0)<=x.kids.length)=true:=by simp
 have e2:decide (x.kids.length<=2000)=true:=by rw[pJ];omega
 rw[e1,e2];simp only[wE,decide_true,Bool.true_and,Bool.and_true];by_cases h0:x.n=0
 ·rw[h0];simp
 ·have h0':(x.n == 0)=false:=bfE h0
  by_cases h1:x.n=1
  ·have h1':(x.n == 1)=true:=by rw[wC];exact h1
   rw[h0',h1',h1];simp only[Bool.false_or,Bool.or_false,Bool.true_and];cases hl:x.kids.getLast? with
   |none=>
    rw[List.getLast?_eq_none_iff] at hl;rw[hl];simp
   |some k=>
    have hlen:0<x.kids.length:=by
     cases hh:x.kids with
     |nil=>rw[hh] at hl;cases hl
     |cons _ _=>simp
    have hd:=XE _ _ hl;have e3:decide (0<x.kids.length)=true:=by rw[pJ];exact hlen
    rw[e3];have key:((List.range x.kids.length).all fun i=>yX.stmt.is (zw l (x.kids.getD i 0)) && (decide (i+1<x.kids.length) || zW (zw l (x.kids.getD i 0))))=(zW (zw l k) && (List.range x.kids.length).all fun i=>yX.stmt.is (zw l (x.kids.getD i 0))):=by
     rw[pR,pM,pY,pY];constructor
     ·intro h;refine⟨?_,fun i hi=>?_⟩
      ·have:=h (x.kids.length-1) (List.mem_range.2 (by omega));rw[hd,pM,wM,pJ] at this;rcases this.2 with h'|h'
       ·omega
       ·exact h'
      ·have:=h i hi;rw[pM] at this;exact this.1
     ·rintro ⟨h1,h2⟩ i hi;rw[pM,wM,pJ];refine⟨h2 i hi,?_⟩;rcases Nat.lt_or_ge (i+1) x.kids.length with h'|h'
      ·exact .inl h'
      ·right;have hi':=List.mem_range.1 hi;have:i=x.kids.length-1:=by omega
       rw[this,hd];exact h1
    rw[key];dsimp only;generalize decide (0<=x.at_)=b;generalize decide (x.at_<=3000)=c;generalize xY x=d;generalize zW (zw l k)=e;generalize (List.range x.kids.length).all _=f;cases b <;> cases c <;> cases d <;> cases e <;> cases f <;> simp
  ·have h1':(x.n == 1)=false:=bfE h1
   have h2:(decide (0<=x.n) && decide (x.n<=1))=false:=by
    rw[Bool.and_eq_false_iff,wV,wV];omega
   rw[h0',h1',h2];simp
theorem zhk{l:List Nd}{x:Nd}(hin:InR l x)(hk:x.kind=29):xI l x=zI l x:=by
 unfold xI zI;have hs:zO x.kind=some ⟨[.expr,.one 28],some .els,0,[]⟩:=by rw[hk];rfl
 have hsp:xG l x=decide (x.kids.length<=3):=by
  unfold xG;rw[Zf hin,hk];rfl
 rw[hs,hsp];simp only[uW,Zq,hk];have hb:=ZN 29 x.n x.kids.length (by decide);have hf:jh 29=(2,3):=rfl;have hkn:xX 29=true:=rfl;have e1:decide (([yX.expr,yX.one 28].length+([]:List yX).length+0)<=x.kids.length)=decide (2<=x.kids.length):=rfl;rw[hb,hf,hkn,e1];simp only[Bool.true_and];by_cases h3:2<=x.kids.length/\x.kids.length<=3
 ·have hd:∀i,i<x.kids.length->∀kd,jb ⟨[.expr,.one 28],some .els,0,[]⟩ x.kids.length i kd=yO 29 x.n x.kids.length i kd:=fun i hi kd=>by
   have h4:x.kids.length=2\/x.kids.length=3:=by omega
   generalize x.kids.length=m at *;unfold jb xo.at_;rcases h4 with rfl|rfl
   ·have hi3:i=0\/i=1:=by omega
    rcases hi3 with rfl|rfl <;> simp[yO,yX.is]
   ·have hi3:i=0\/i=1\/i=2:=by omega
    rcases hi3 with rfl|rfl|rfl <;> simp[yO,yX.is]
  rw[jB (fun i hi=>hd i hi _)];have e4:decide (2<=x.kids.length)=true:=by rw[pJ];exact h3.1
  have e5:decide (x.kids.length<=3)=true:=by rw[pJ];exact h3.2
  rw[e4,e5];generalize zy 29 x.n x.kids.length=a;generalize decide (0<=x.at_)=b;generalize decide (x.at_<=3000)=c;generalize xY x=d;cases a <;> cases b <;> cases c <;> cases d <;> simp
 ·have e4:(decide (2<=x.kids.length) && decide (x.kids.length<=3))=false:=by
   rw[Bool.and_eq_false_iff,wV,wV];omega
  rw[Bool.and_eq_false_iff] at e4;rcases e4 with e|e
  ·rw[e];simp
  ·rw[e];simp
theorem zep(p:Int->Bool)(l:List Int):decide (l.length<=l.findIdx p+1)=(List.range l.length).all fun i=>decide (i+1=l.length) || !p (l.getD i 0):=by
 rw[pR,pJ,pY];constructor
 ·intro h i hi;have hi':=List.mem_range.1 hi;rw[wM,pJ];rcases Nat.lt_or_ge (i+1) l.length with h'|h'
  ·right;have:=List.not_of_lt_findIdx (p:=p) (xs:=l) (i:=i) (by omega);rw[pC,glE hi',Option.getD_some];simpa using this
  ·left;omega
 ·intro h;rcases Nat.lt_or_ge (l.findIdx p) l.length with h'|h'
  ·have h2:=h _ (List.mem_range.2 h');rw[wM,pJ,pC,glE h',Option.getD_some] at h2;rcases h2 with h2|h2
   ·omega
   ·have:=List.findIdx_getElem (p:=p) (xs:=l) (w:=h');rw[this] at h2;cases h2
  ·omega
theorem zhj{l:List Nd}{x:Nd}(hin:InR l x)(hm:x.kids.length<=1999)(hk:x.kind=35):xI l x=zI l x:=by
 unfold xI zI;have hs:zO x.kind=some ⟨[],some .way,1,[]⟩:=by rw[hk];rfl
 have hsp:xG l x=decide (x.kids.length<=(x.kids.findIdx fun k=>zw l k == 65)+1):=by
  unfold xG;rw[Zf hin,hk];rfl
 rw[hs,hsp,zep];simp only[uW,Zq,hk];have hb:=ZN 35 x.n x.kids.length (by decide);have hf:jh 35=(1,2000):=rfl;have hkn:xX 35=true:=rfl;have e1:decide ((([]:List yX).length+([]:List yX).length+1)<=x.kids.length)=decide (1<=x.kids.length):=by simp
 have e2:decide (x.kids.length<=2000)=true:=by rw[pJ];omega
 have hP:∀i,i<x.kids.length->∀kd,jb ⟨[],some .way,1,[]⟩ x.kids.length i kd=yX.way.is kd:=fun i hi kd=>by
  unfold jb xo.at_;rw[if_neg (by simp),if_neg (by simp;omega)]
 have hR:∀i kd,yO 35 x.n x.kids.length i kd=(yX.way.is kd && (decide (i+1=x.kids.length) || !(kd == 65))):=fun i kd=>rfl
 rw[jB (fun i hi=>hP i hi _)];simp only[hR];rw[hb,hf,hkn,e1,e2];have key:((List.range x.kids.length).all fun i=>yX.way.is (zw l (x.kids.getD i 0)) && (decide (i+1=x.kids.length) || !(zw l (x.kids.getD i 0) == 65)))=(((List.range x.kids.length).all fun i=>decide (i+1=x.kids.length) || !(zw l (x.kids.getD i 0) == 65)) && (List.range x.kids.length).all fun i=>yX.way.is (zw l (x.kids.getD i 0))):=by
  rw[pR,pM,pY,pY,pY];constructor
  ·intro h;refine⟨fun i hi=>?_,fun i hi=>?_⟩
   ·have:=h i hi;rw[pM] at this;exact this.2
   ·have:=h i hi;rw[pM] at this;exact this.1
  ·rintro ⟨h1,h2⟩ i hi;rw[pM];exact⟨h2 i hi,h1 i hi⟩
 rw[key];generalize zy 35 x.n x.kids.length=a;generalize decide (0<=x.at_)=b;generalize decide (x.at_<=3000)=c;generalize xY x=d;generalize decide (1<=x.kids.length)=e;cases a <;> cases b <;> cases c <;> cases d <;> cases e <;> simp
theorem zbT{l:List Nd}{x:Nd}(hin:InR l x)(hm:x.kids.length<=1999):xI l x=zI l x:=by
 cases hk:xX x.kind with
 |false=>
  have hs:zO x.kind=none:=by
   have:=QG x.kind;rw[hk] at this;cases h:zO x.kind with
   |none=>rfl
   |some _=>rw[h] at this;cases this
  unfold xI zI;rw[hs,hk];simp
 |true=>
  have h104:=jK hk;have hall:∀k,k<=104->xX k=true->k∈[1,2,3,4,5,44,45,46,80,81,82,83,84,66,67,68,69]\/k∈[6,7,23,27,37,38,39,42,43,47,50,51,60,61,65]\/k∈[40,86,87,88]\/k∈[41,48,63,8,9,10,11,12,13,14,15,16,17,18,19,20,21,22]\/k∈[49,64,30,32,34,36,62,104,25,70,89,26,100,101,24,31,85,103,33,102,28,29,35]:=by decide +kernel
  rcases hall _ h104 hk with h|h|h|h|h
  ·exact xL hin (.inl h)
  ·exact xL hin (.inr (.inl h))
  ·exact xL hin (.inr (.inr (.inl h)))
  ·exact xL hin (.inr (.inr (.inr (.inl h))))
  ·simp only[pT,pS,or_false] at h;rcases h with h|h|h|h|h|h|h|h|h|h|h|h|h|h|h|h|h|h|h|h|h|h|h
   ·exact xL hin (by rw[h];decide)
   ·exact xL hin (by rw[h];decide)
   ·exact xL hin (by rw[h];decide)
   ·exact xL hin (by rw[h];decide)
   ·exact xL hin (by rw[h];decide)
   ·exact xL hin (by rw[h];decide)
   ·exact xL hin (by rw[h];decide)
   ·exact xL hin (by rw[h];decide)
   ·exact uN hin hm (by rw[h];decide)
   ·exact uN hin hm (by rw[h];decide)
   ·exact uN hin hm (by rw[h];decide)
   ·exact uN hin hm (by rw[h];decide)
   ·exact uN hin hm (by rw[h];decide)
   ·exact uN hin hm (by rw[h];decide)
   ·exact zfQ hin hm (by rw[h];decide)
   ·exact zfP hin hm (by rw[h];decide)
   ·exact zfO hin hm (by rw[h];decide)
   ·exact zdm hin hm (by rw[h];decide)
   ·exact VB hin hm (by rw[h];decide)
   ·exact VB hin hm (by rw[h];decide)
   ·exact zhl hin hm h
   ·exact zhk hin h
   ·exact zhj hin hm h
def Xg(out:List Nat):List Int->Int->Option Int
 |[],p=>some p
 |k :: r,p=>if p<0\/k≠p then none else Xg out r (p-(out.getD p.toNat 0:Nat))
def qJ(l:List Nd):Nat->List Nat
 |0=>[]
 |i+1=>if (qJ l i).length<i then qJ l i else
  match Xg (qJ l i) ((l[i]?).elim [] Nd.kids).reverse ((i:Int)-1) with
  |none=>qJ l i
  |some p=>qJ l i ++ [((i:Int)-p).toNat]
def Vg(l:List Nd)(out:List Nat):List Int->Int->Option Int
 |[],p=>some p
 |k :: r,p=>if p<0\/k≠p\/yX.item.is (zw l p)=false then none else Vg l out r (p-(out.getD p.toNat 0:Nat))
def ut(t:yl):Bool:= !decide ((qJ t.nodes t.nodes.length).length<t.nodes.length) && match Vg t.nodes (qJ t.nodes t.nodes.length) t.items.reverse ((t.nodes.length:Int)-1) with
 |none=>false
 |some p=>t.nodes.all (zI t.nodes) && p == -1
theorem Xf(l:List Nd):∀i,(qJ l i).length<=i
 |0=>pG _
 |i+1=>by
  have:=Xf l i;unfold qJ;split
  ·omega
  ·split
   ·omega
   ·rw[pK,pO];omega
theorem XW{out out':List Nat}:∀(rk:List Int) (p:Int),(∀j:Nat,(j:Int)<=p->out.getD j 0=out'.getD j 0)->Xg out rk p=Xg out' rk p
 |[],_,_=>rfl
 |k :: r,p,h=>by
  unfold Xg;by_cases hc:p<0\/k≠p
  ·rw[if_pos hc,if_pos hc]
  ·rw[if_neg hc,if_neg hc,h p.toNat (by omega)];exact XW r _ (fun j hj=>h j (by omega))
theorem VW(l:List Nd){out out':List Nat}:∀(rk:List Int) (p:Int),(∀j:Nat,(j:Int)<=p->out.getD j 0=out'.getD j 0)->Vg l out rk p=Vg l out' rk p
 |[],_,_=>rfl
 |k :: r,p,h=>by
  unfold Vg;by_cases hc:p<0\/k≠p\/yX.item.is (zw l p)=false
  ·rw[if_pos hc,if_pos hc]
  ·rw[if_neg hc,if_neg hc,h p.toNat (by omega)];exact VW l r _ (fun j hj=>h j (by omega))
def xB(l:List Nd)(i:Nat):Prop:=(qJ l i).length=i
theorem zac(l:List Nd):xB l 0:=rfl
theorem zad{l:List Nd}{i:Nat}(h:xB l (i+1)):xB l i/\∃p,Xg (qJ l i) ((l[i]?).elim [] Nd.kids).reverse ((i:Int)-1)=some p/\qJ l (i+1)=qJ l i ++ [((i:Int)-p).toNat]:=by
 have hl:=Xf l i;unfold xB at h ⊢;unfold qJ at h;split at h
 ·omega
 ·have hi:(qJ l i).length=i:=by omega
  refine⟨hi,?_⟩;split at h
  ·omega
  ·rename_i p hp;refine⟨p,hp,?_⟩
   conv=>lhs;unfold qJ
   rw[if_neg (by omega),hp]
theorem zjS{l:List Nd}{i:Nat}{p:Int}(h:xB l i)(hp:Xg (qJ l i) ((l[i]?).elim [] Nd.kids).reverse ((i:Int)-1)=some p):xB l (i+1)/\qJ l (i+1)=qJ l i ++ [((i:Int)-p).toNat]:=by
 have e:qJ l (i+1)=qJ l i ++ [((i:Int)-p).toNat]:=by
  unfold xB at h
  conv=>lhs;unfold qJ
  rw[if_neg (by omega),hp]
 refine⟨?_,e⟩;unfold xB at *;rw[e,pK,h,pO]
theorem Jt{l:List Nd}{i:Nat}:∀{n:Nat},xB l n->i<=n->xB l i/\∀j,j<i->(qJ l n).getD j 0=(qJ l i).getD j 0
 |0,h,hi=>by
  have:i=0:=by omega
  subst this;exact⟨h,fun j hj=>absurd hj (wD _)⟩
 |n+1,h,hi=>by
  by_cases e:i=n+1
  ·subst e;exact⟨h,fun _ _=>rfl⟩
  ·obtain⟨h1,p,_,he⟩:=zad h;obtain⟨h2,h3⟩:=Jt h1 (by omega:i<=n);refine⟨h2,fun j hj=>?_⟩;rw[he,pC,gD (by unfold xB at h1;omega),<-pC];exact h3 j hj
theorem Vx{out:List Nat}:∀(rk:List Int) (p e:Int),Xg out rk p=some e->e<=p
 |[],p,e,h=>by cases h;exact Int.le_refl _
 |k :: r,p,e,h=>by
  unfold Xg at h;split at h
  ·cases h
  ·have:=Vx r _ e h;omega
theorem qN{l:List Nd}{n:Nat}(h:xB l n){i:Nat}(hi:i<n):∃p:Int,Xg (qJ l n) ((l[i]?).elim [] Nd.kids).reverse ((i:Int)-1)=some p/\((qJ l n).getD i 0:Int)=i-p/\p<i:=by
 obtain⟨h1,h1e⟩:=Jt h (by omega:i+1<=n);obtain⟨h2,p,hp,he⟩:=zad h1;have hb:=Vx _ _ _ hp;refine⟨p,?_,?_,by omega⟩
 ·rw[XW (out':=qJ l i) _ _ (fun j hj=>?_)]
  ·exact hp
  ·rw[h1e j (by omega),he,pC,gD (by unfold xB at h2;omega),<-pC]
 ·rw[h1e i (by omega),he,pC,wT (by unfold xB at h2;omega)];have:i-(qJ l i).length=0:=by unfold xB at h2;omega
  rw[this];simp;omega
theorem zdf{h:xo}{m i kd:Nat}(hs:jb h m i kd=true):∃s,h.at_ i m=some s/\s.is kd=true:=by
 unfold jb at hs;cases ha:h.at_ i m with
 |none=>rw[ha] at hs;cases hs
 |some s=>rw[ha] at hs;exact⟨s,rfl,hs⟩
theorem zbV(k:Int)(r:List Int):(k :: r).reverse.getD r.length 0=k:=by
 rw[List.reverse_cons,pC,wT (by simp)];simp
theorem zbW(k:Int)(r:List Int){p:Nat}(hp:p<r.length):(k :: r).reverse.getD p 0=r.reverse.getD p 0:=by
 rw[List.reverse_cons,pC,gD (by simpa using hp),<-pC]
theorem zcD{l:List Nd}(hF:xB l l.length)(hR:∀x∈l,xI l x=true):∀(i f:Nat) (s:yX),i<l.length->i<f->s.is (zw l i)=true->qB l f i i s=some ((i:Int)-((qJ l l.length).getD i 0:Nat))
 |i,0,s,_,hf,_=>absurd hf (wD _)
 |i,f+1,s,hi,hf,hs=>by
  obtain⟨p,hp,hsz,hpi⟩:=qN hF hi;have hx:l[i]? =some l[i]:=glE hi;have hr:=hR l[i] (wL _);rw[hx] at hp;simp only[Option.elim] at hp;have hk:zw l i=l[i].kind:=by unfold zw;rw[pW,hx];rfl
  rw[hk] at hs;generalize l[i]=x at *;unfold xI at hr;cases hsh:zO x.kind with
  |none=>rw[hsh] at hr;cases hr
  |some h=>
   rw[hsh] at hr;simp only[pM,pY,List.mem_range] at hr;obtain⟨⟨⟨h1,h2⟩,h3⟩,h4⟩:=hr;have key:∀(rk:List Int) (next e:Int),next<i->Xg (qJ l l.length) rk next=some e->(∀q,q<rk.length->jb h x.kids.length q (zw l (rk.reverse.getD q 0))=true)->uV (qB l f) h x.kids.length rk next=some e:=by
    intro rk;induction rk with
    |nil=>intro next e _ he _;exact he
    |cons k r ih=>
     intro next e hn he hq
     unfold Xg at he;split at he
     ·cases he
     ·rename_i hc;have hk0:0<=next/\k=next:=by omega
      obtain⟨k',rfl⟩:=pN hk0.1;have hsr:=hq r.length (by simp);rw[zbV,hk0.2] at hsr;obtain⟨sr,ha,hsr⟩:=zdf hsr;unfold uV;rw[ha,hk0.2];simp only;rw[zcD hF hR k' f sr (by omega) (by omega) hsr,Option.bind_some];exact ih _ e (by omega) (by simpa using he) (fun q hq'=>by have:=hq q (by simp;omega);rwa [zbW k r hq'] at this)
   unfold qB;rw[if_neg (by omega),pW,hx];simp only[hsh];rw[if_pos (by rw[hs,h1,h2,h3];rfl),key _ _ p (by omega) hp (fun q hq=>by
    rw[List.reverse_reverse];exact h4 q (by simpa using hq)),hsz]
   congr 1;omega
termination_by i=>i
theorem zcG{l:List Nd}(hF:xB l l.length)(hR:∀x∈l,xI l x=true):∀(rk:List Int) (next e:Int),next<l.length->Vg l (qJ l l.length) rk next=some e->ZU l rk next=some e
 |[],_,_,_,h=>h
 |k :: r,next,e,hn,h=>by
  unfold Vg at h;split at h
  ·cases h
  ·rename_i hc;have hk0:0<=next/\k=next:=by omega
   obtain⟨k',rfl⟩:=pN hk0.1;unfold ZU;rw[hk0.2,zcD hF hR k' _ .item (by omega) (by omega) (by
    cases hb:yX.item.is (zw l (k':Int)) with
    |true=>rfl
    |false=>exact absurd (.inr (.inr hb)) hc),Option.bind_some]
   exact zcG hF hR r _ e (by omega) h
def zbp(l:List Nd)(e i:Int):Prop:=∀j:Nat,e<j->(j:Int)<=i->∃x,l[j]? =some x/\xI l x=true
theorem zbp.join{l:List Nd}{a b c:Int}(h:zbp l a b)(k:zbp l b c):zbp l a c:=fun j h1 h2=>by
 by_cases e:(j:Int)<=b
 ·exact h j h1 e
 ·exact k j (by omega) h2
def XN(l:List Nd)(e:Int):Prop:=xB l (e+1).toNat
theorem zcC{l:List Nd}:∀(f:Nat) (i num:Int) (s:yX) (e:Int),-1<=i->i<l.length->qB l f i num s=some e->num=i/\0<=i/\-1<=e/\e<i/\s.is (zw l i)=true/\(XN l e->XN l i/\((qJ l (i+1).toNat).getD i.toNat 0:Int)=i-e/\zbp l e i)
 |0,_,_,_,_,_,_,h=>by cases h
 |f+1,i,num,s,e,hi,hl,h=>by
  unfold qB at h;split at h
  ·cases h
  ·rename_i hc;have hc2:0<=i/\num=i:=by omega
   obtain⟨rfl⟩:=hc2.2;obtain⟨i,rfl⟩:=pN hc2.1;have hil:i<l.length:=by omega
   rw[pW,glE hil] at h;have hx:l[i]? =some l[i]:=glE hil;have hk:zw l i=l[i].kind:=by unfold zw;rw[pW,hx];rfl
   generalize l[i]=x at *;simp only at h;cases hsh:zO x.kind with
   |none=>rw[hsh] at h;cases h
   |some sh=>
    rw[hsh] at h;simp only at h;split at h
    ·rename_i hcond;simp only[pM] at hcond;obtain⟨⟨⟨hs,h1⟩,h2⟩,h3⟩:=hcond;have key:∀(rk:List Int) (next e:Int),-1<=next->next<l.length->uV (qB l f) sh x.kids.length rk next=some e->-1<=e/\e<=next/\(∀q,q<rk.length->jb sh x.kids.length q (zw l (rk.reverse.getD q 0))=true)/\(XN l e->XN l next/\Xg (qJ l (next+1).toNat) rk next=some e/\zbp l e next):=by
      intro rk;induction rk with
      |nil=>
       intro next e hn _ he
       cases he;exact⟨hn,Int.le_refl _,fun q hq=>absurd hq (wD _),fun hf=>⟨hf,rfl,fun j h1 h2=>by omega⟩⟩
      |cons k r ih=>
       intro next e hn hnl he
       unfold uV at he;cases ha:sh.at_ r.length x.kids.length with
       |none=>rw[ha] at he;cases he
       |some sr=>
        rw[ha] at he;simp only at he;cases hg:qB l f next k sr with
        |none=>rw[hg] at he;cases he
        |some e1=>
         rw[hg,Option.bind_some] at he;obtain⟨hk1,hn0,he1,he2,hsr,hful⟩:=zcC f next k sr e1 hn hnl hg
         obtain⟨i1,i2,i3,i4⟩:=ih e1 e he1 (by omega) he;refine⟨i1,by omega,fun q hq=>?_,fun hf=>?_⟩
         ·have hq2:q=r.length\/q<r.length:=by simp at hq;omega
          rcases hq2 with rfl|hq2
          ·rw[zbV,hk1];unfold jb;rw[ha];exact hsr
          ·rw[zbW k r hq2];exact i3 q hq2
         ·obtain⟨j1,j2,j3⟩:=i4 hf;obtain⟨k1,k2,k3⟩:=hful j1;refine⟨k1,?_,j3.join k3⟩;unfold Xg;rw[if_neg (by omega),k2,show next-(next-e1)=e1 by omega,<-j2];exact XW _ _ (fun j hj=>(Jt k1 (by omega:(e1+1).toNat<=(next+1).toNat)).2 j (by omega))
     obtain⟨a1,a2,a3,a4⟩:=key _ _ e (by omega) (by omega) h;refine⟨rfl,by omega,a1,by omega,by rw[hk];exact hs,fun hf=>?_⟩;obtain⟨b1,b2,b3⟩:=a4 hf;have hn1:((i:Int)-1+1).toNat=i:=by omega
     unfold XN at b1;rw[hn1] at b1 b2;have hu:=zjS (p:=e) b1 (by rw[hx];exact b2);have hn2:((i:Int)+1).toNat=i+1:=by omega
     refine⟨by unfold XN;rw[hn2];exact hu.1,?_,?_⟩
     ·rw[hn2,pW,hu.2,pC,wT (by unfold xB at b1;omega)];have:i-(qJ l i).length=0:=by unfold xB at b1;omega
      rw[this];simp;omega
     ·refine b3.join (fun j h1' h2'=>?_);have hj:j=i:=by omega
      subst hj;refine⟨x,hx,?_⟩;unfold xI;rw[hsh];simp only[pM,pY,List.mem_range];exact⟨⟨⟨h1,h2⟩,h3⟩,fun q hq=>by have:=a3 q (by simpa using hq);rwa [List.reverse_reverse] at this⟩
    ·cases h
theorem zcF{l:List Nd}:∀(rk:List Int) (next e:Int),-1<=next->next<l.length->ZU l rk next=some e->-1<=e/\e<=next/\(XN l e->XN l next/\Vg l (qJ l (next+1).toNat) rk next=some e/\zbp l e next)
 |[],next,e,hn,_,h=>by
  cases h;exact⟨hn,Int.le_refl _,fun hf=>⟨hf,rfl,fun j h1 h2=>by omega⟩⟩
 |k :: r,next,e,hn,hnl,h=>by
  unfold ZU at h;cases hg:qB l (l.length+1) next k .item with
  |none=>rw[hg] at h;cases h
  |some e1=>
   rw[hg,Option.bind_some] at h;obtain⟨hk1,hn0,he1,he2,hsr,hful⟩:=zcC _ next k _ e1 hn hnl hg
   obtain⟨i1,i2,i4⟩:=zcF r e1 e he1 (by omega) h;refine⟨i1,by omega,fun hf=>?_⟩;obtain⟨j1,j2,j3⟩:=i4 hf;obtain⟨k1,k2,k3⟩:=hful j1;refine⟨k1,?_,j3.join k3⟩;unfold Vg;rw[if_neg (by rw[hsr];simp;omega),k2,show next-(next-e1)=e1 by omega,<-j2];exact VW l _ _ (fun j hj=>(Jt k1 (by omega:(e1+1).toNat<=(next+1).toNat)).2 j (by omega))
theorem Jj{out:List Nat}:∀(rk:List Int) (p e:Int),Xg out rk p=some e->∀k∈rk,0<=k/\k<=p
 |[],_,_,_,k,hk=>by cases hk
 |k :: r,p,e,h,j,hj=>by
  unfold Xg at h;split at h
  ·cases h
  ·rcases pT.1 hj with rfl|hj
   ·omega
   ·have:=Jj r _ e h j hj;omega
theorem zbb{l:List Nd}(h:xB l l.length){x:Nd}(hx:x∈l):InR l x:=by
 obtain⟨i,hi,rfl⟩:=List.mem_iff_getElem.1 hx;obtain⟨p,hp,_,_⟩:=qN h hi;rw[glE hi] at hp;intro k hk;have:=Jj _ _ _ hp k (gI.2 hk);omega
theorem zbc(t:yl)(hm:∀x∈t.nodes,x.kids.length<=1999):jg t=ut t:=by
 rw[pR];constructor
 ·intro h;unfold jg at h;cases hI:ZU t.nodes t.items.reverse ((t.nodes.length:Int)-1) with
  |none=>rw[hI] at h;cases h
  |some e=>
   rw[hI] at h;simp only[pJ] at h;obtain⟨h1,h2,h3⟩:=zcF _ _ e (by omega) (by omega) hI;have he:e= -1:=by omega
   subst he;obtain⟨h4,h5,h6⟩:=h3 (zac _);have hn:((t.nodes.length:Int)-1+1).toNat=t.nodes.length:=by omega
   unfold XN at h4;rw[hn] at h4 h5;have hall:t.nodes.all (zI t.nodes)=true:=by
    rw[pY];intro x hx;rw[<-zbT (zbb h4 hx) (hm x hx)];obtain⟨j,hj,rfl⟩:=List.mem_iff_getElem.1 hx;obtain⟨y,hy,hr⟩:=h6 j (by omega) (by omega);rw[glE hj] at hy;cases hy;exact hr
   unfold ut;rw[h5,hall];unfold xB at h4;rw[h4];simp
 ·intro h;unfold ut at h;rw[pM] at h;obtain⟨h1,h2⟩:=h;have hF:xB t.nodes t.nodes.length:=by
   have:=Xf t.nodes t.nodes.length;unfold xB;simp at h1;omega
  cases hI:Vg t.nodes (qJ t.nodes t.nodes.length) t.items.reverse ((t.nodes.length:Int)-1) with
  |none=>rw[hI] at h2;cases h2
  |some e=>
   rw[hI] at h2;simp only[pM,pY,wC] at h2;have hR:∀x∈t.nodes,xI t.nodes x=true:=fun x hx=>by rw[zbT (zbb hF hx) (hm x hx)];exact h2.1 x hx
   have:=zcG hF hR _ _ e (by omega) hI;unfold jg;rw[this];simp only[pJ];omega
def ZV(l:List Nd):Nat->List Nat->Nat->Nat
 |0,_,most=>most
 |i+1,deep,most=>ZV l i (xA (max 1 (deep.getD i 0)) ((l[i]?).elim [] Nd.kids) (deep.set i (max 1 (deep.getD i 0)))) (max most (max 1 (deep.getD i 0)))
def uY(t:yl):Nat:=ZV t.nodes t.nodes.length (List.replicate t.nodes.length 0) 0
def ZW(l:List Nd)(x:Nd)(k:Nat):Nat:=x.kids.countP fun j=>zw l j == k
def vh(l:List Nd)(x:Nd):Bool:=
 if x.kind == 102 || x.kind == 103 || x.kind == 33 then decide (ZW l x 88<=6)
 else if x.kind == 85 || x.kind == 24 then decide (x.kids.length<=7)
 else if x.kind == 100 || x.kind == 26 then decide (x.kids.length<=6)
 else if x.kind == 101 then decide (x.kids.length<=8)
 else if x.kind == 89 || x.kind == 25 || x.kind == 70 || x.kind == 35 then decide (x.kids.length<=4)
 else if x.kind == 31 then decide (x.kids.length<=13)
 else if x.kind == 40 then decide (1<=x.n) && decide (x.n<=8)
 else true
def qS(t:yl):Nat:=
 if 1000<t.nodes.length\/40<t.items.length then 5
 else if !ut t then 4
 else if 40<uY t then 5
 else if t.nodes.any fun x=> !vh t.nodes x then 3
 else 0
def zni(t:yl):Prop:=∀j:Nat,j<t.nodes.length->(j:Int)∈t.items\/∃i,j<i/\∃x,t.nodes[i]? =some x/\(j:Int)∈x.kids
theorem Vw{out:List Nat}:∀(rk:List Int) (p e:Int),Xg out rk p=some e->∀j:Nat,e<j->(j:Int)<=p->∃k:Nat,(k:Int)∈rk/\(k:Int)<=p/\j<=k/\(k:Int)-(out.getD k 0:Nat)<j
 |[],p,e,h,j,h1,h2=>by cases h;omega
 |k :: r,p,e,h,j,h1,h2=>by
  unfold Xg at h;split at h
  ·cases h
  ·rename_i hc;have hk0:0<=p/\k=p:=by omega
   obtain⟨q,rfl⟩:=pN hk0.1;rw[pW] at h;by_cases hj:(q:Int)-(out.getD q 0:Nat)<j
   ·exact⟨q,by rw[hk0.2];exact List.mem_cons_self ..,Int.le_refl _,by omega,hj⟩
   ·obtain⟨k2,a,b,c,d⟩:=Vw r _ e h j h1 (by omega);exact⟨k2,wP _ a,by omega,c,d⟩
theorem VV(l:List Nd){out:List Nat}:∀(rk:List Int) (p e:Int),Vg l out rk p=some e->∀j:Nat,e<j->(j:Int)<=p->∃k:Nat,(k:Int)∈rk/\(k:Int)<=p/\j<=k/\(k:Int)-(out.getD k 0:Nat)<j
 |[],p,e,h,j,h1,h2=>by cases h;omega
 |k :: r,p,e,h,j,h1,h2=>by
  unfold Vg at h;split at h
  ·cases h
  ·rename_i hc;have hk0:0<=p/\k=p:=by omega
   obtain⟨q,rfl⟩:=pN hk0.1;rw[pW] at h;by_cases hj:(q:Int)-(out.getD q 0:Nat)<j
   ·exact⟨q,by rw[hk0.2];exact List.mem_cons_self ..,Int.le_refl _,by omega,hj⟩
   ·obtain⟨k2,a,b,c,d⟩:=VV l r _ e h j h1 (by omega);exact⟨k2,wP _ a,by omega,c,d⟩
theorem zbH{l:List Nd}(hF:xB l l.length):∀(i j:Nat),i<l.length->j<i->(i:Int)-((qJ l l.length).getD i 0:Nat)<j->∃i',j<i'/\∃x,l[i']? =some x/\(j:Int)∈x.kids
 |i,j,hi,hj,h=>by
  obtain⟨p,hp,hsz,hpi⟩:=qN hF hi;obtain⟨k,hk,hkp,hjk,hlt⟩:=Vw _ _ p hp j (by omega) (by omega);have hx:l[i]? =some l[i]:=glE hi;rw[hx] at hk;simp only[Option.elim,gI] at hk;by_cases e:j=k
  ·subst e;exact⟨i,hj,l[i],hx,hk⟩
  ·exact zbH hF k j (by omega) (by omega) hlt
termination_by i=>i
theorem zjO{t:yl}(hF:xB t.nodes t.nodes.length)(hI:Vg t.nodes (qJ t.nodes t.nodes.length) t.items.reverse ((t.nodes.length:Int)-1)=some (-1)):zni t:=fun j hj=>by
 obtain⟨k,hk,hkp,hjk,hlt⟩:=VV _ _ _ _ hI j (by omega) (by omega);by_cases e:j=k
 ·subst e;exact .inl (gI.1 hk)
 ·exact .inr (zbH hF k j (by omega) (by omega) hlt)
theorem ua(l:List Nat)(i j v:Nat):(l.set i v).getD j 0=if i=j/\j<l.length then v else l.getD j 0:=by
 rw[pC,List.getElem?_set,pC];by_cases e:i=j
 ·subst e;by_cases h:i<l.length
  ·simp[h]
  ·simp[h]
 ·simp[e]
structure znj(t:yl)(i:Nat)(P R:List Nat):Prop where
 lp:P.length=t.nodes.length
 lr:R.length=t.nodes.length
 eq:∀j,j<i->(R.getD j 0=0/\P.getD j 0=(if (j:Int)∈t.items then 1 else 0))\/(1<=R.getD j 0/\P.getD j 0=R.getD j 0)
 got:∀i' x,i<=i'->t.nodes[i']? =some x->∀j:Nat,(j:Int)∈x.kids->j<i->1<=R.getD j 0
theorem Zv(d:Nat):∀(k:List Int) (l:List Nat),(xA d k l).length=l.length
 |[],l=>rfl
 |a :: r,l=>by unfold xA;rw[Zv d r,List.length_set]
theorem vG(d:Nat):∀(k:List Int) (l:List Nat) (j:Nat),j<l.length->(xA d k l).getD j 0=if (∃a∈k,a.toNat=j) then d+1 else l.getD j 0
 |[],l,j,_=>by simp[xA]
 |a :: r,l,j,h=>by
  unfold xA;rw[vG d r _ j (by rw[List.length_set];exact h),ua];by_cases e:a.toNat=j
  ·by_cases e2:∃b∈r,b.toNat=j
   ·rw[if_pos e2,if_pos (by obtain⟨b,hb,hbj⟩:=e2;exact⟨b,wP _ hb,hbj⟩)]
   ·rw[if_neg e2,if_pos ⟨e,h⟩,if_pos ⟨a,List.mem_cons_self ..,e⟩]
  ·by_cases e2:∃b∈r,b.toNat=j
   ·rw[if_pos e2,if_pos (by obtain⟨b,hb,hbj⟩:=e2;exact⟨b,wP _ hb,hbj⟩)]
   ·rw[if_neg e2,if_neg (fun h'=>e h'.1),if_neg (by
     rintro ⟨b,hb,hbj⟩;rcases pT.1 hb with rfl|hb
     ·exact e hbj
     ·exact e2 ⟨b,hb,hbj⟩)]
theorem zfg{t:yl}(hH:zni t):∀(i:Nat) (P R:List Nat) (most:Nat),i<=t.nodes.length->znj t i P R->Yz t.nodes i P most=ZV t.nodes i R most
 |0,_,_,_,_,_=>rfl
 |i+1,P,R,most,hi,D=>by
  have hil:i<t.nodes.length:=by omega
  have hx:t.nodes[i]? =some t.nodes[i]:=glE hil;have hd:P.getD i 0=max 1 (R.getD i 0):=by
   rcases D.eq i (by omega) with⟨h1,h2⟩|⟨h1,h2⟩
   ·rcases hH i hil with hh|⟨i',hlt,x,hx',hm⟩
    ·rw[h2,if_pos hh,h1];rfl
    ·have:=D.got i' x (by omega) hx' i hm (by omega);omega
   ·rw[h2];omega
  unfold Yz ZV;rw[hx,<-hd];simp only[Option.elim];generalize t.nodes[i]=x at *;refine zfg hH i _ _ _ (by omega) ⟨by rw[Zv,D.lp],by rw[Zv,List.length_set,D.lr],fun j hj=>?_,fun i' y hi' hy j hjm hji=>?_⟩
  ·rw[vG _ _ _ j (by first|(rw[D.lp];omega)|(rw[List.length_set,D.lr];omega)),vG _ _ _ j (by first|(rw[D.lp];omega)|(rw[List.length_set,D.lr];omega))];by_cases e:∃a∈x.kids,a.toNat=j
   ·rw[if_pos e,if_pos e];exact .inr ⟨by omega,rfl⟩
   ·rw[if_neg e,if_neg e,ua,if_neg (by omega)];exact D.eq j (by omega)
  ·rw[vG _ _ _ j (by rw[List.length_set,D.lr];omega)];by_cases e:∃a∈x.kids,a.toNat=j
   ·rw[if_pos e];omega
   ·rw[if_neg e,ua,if_neg (by omega)];have hii:i'≠i:=fun e2=>by
     subst e2;rw[hx] at hy;cases hy;exact e ⟨(j:Int),hjm,by simp⟩
    exact D.got i' y (by omega) hy j hjm (by omega)
theorem VU(n:Nat):∀(l:List Int) (d:List Nat) (j:Nat),j<d.length->(l.foldl (fun (d:List Nat) k=>d.set k.toNat 1) d).getD j 0=if (∃a∈l,a.toNat=j) then 1 else d.getD j 0
 |[],d,j,_=>by simp
 |a :: r,d,j,h=>by
  rw[List.foldl_cons,VU n r _ j (by rw[List.length_set];exact h),ua];by_cases e:a.toNat=j
  ·by_cases e2:∃b∈r,b.toNat=j
   ·rw[if_pos e2,if_pos (by obtain⟨b,hb,hbj⟩:=e2;exact⟨b,wP _ hb,hbj⟩)]
   ·rw[if_neg e2,if_pos ⟨e,h⟩,if_pos ⟨a,List.mem_cons_self ..,e⟩]
  ·by_cases e2:∃b∈r,b.toNat=j
   ·rw[if_pos e2,if_pos (by obtain⟨b,hb,hbj⟩:=e2;exact⟨b,wP _ hb,hbj⟩)]
   ·rw[if_neg e2,if_neg (fun h'=>e h'.1),if_neg (by
     rintro ⟨b,hb,hbj⟩;rcases pT.1 hb with rfl|hb
     ·exact e hbj
     ·exact e2 ⟨b,hb,hbj⟩)]
theorem VT:∀(l:List Int) (d:List Nat),(l.foldl (fun (d:List Nat) k=>d.set k.toNat 1) d).length=d.length
 |[],d=>rfl
 |a :: r,d=>by rw[List.foldl_cons,VT r,List.length_set]
theorem Jq(l:List Nd){out:List Nat}:∀(rk:List Int) (p e:Int),Vg l out rk p=some e->∀k∈rk,0<=k/\k<=p
 |[],_,_,_,k,hk=>by cases hk
 |k :: r,p,e,h,j,hj=>by
  unfold Vg at h;split at h
  ·cases h
  ·rcases pT.1 hj with rfl|hj
   ·omega
   ·have:=Jq l r _ e h j hj;omega
theorem zer{t:yl}(hF:xB t.nodes t.nodes.length)(hI:Vg t.nodes (qJ t.nodes t.nodes.length) t.items.reverse ((t.nodes.length:Int)-1)=some (-1)):kh t=uY t:=by
 unfold kh uY;refine zfg (zjO hF hI) _ _ _ _ (pG _) ⟨by rw[VT,List.length_replicate],List.length_replicate,fun j hj=>.inl ⟨?_,?_⟩,fun i' x hi' hx j hm hj=>?_⟩
 ·simp[pC,hj]
 ·rw[VU t.nodes.length _ _ j (by rw[List.length_replicate];exact hj)];have e0:(List.replicate t.nodes.length 0).getD j 0=0:=by simp[pC,hj]
  rw[e0];have hiff:(∃a∈t.items,a.toNat=j)↔(j:Int)∈t.items:=by
   constructor
   ·rintro ⟨a,ha,rfl⟩;have:=Jq _ _ _ _ hI a (gI.2 ha);rw[Int.toNat_of_nonneg this.1];exact ha
   ·exact fun h=>⟨_,h,by simp⟩
  by_cases h:(j:Int)∈t.items
  ·rw[if_pos (hiff.2 h),if_pos h]
  ·rw[if_neg (fun h'=>h (hiff.1 h')),if_neg h]
 ·have:=(gtL hx);omega
theorem zes(p:Int->Bool)(l:List Int)(h:∀x∈l,p x=true):l.countP p=l.length:=List.countP_eq_length.2 h
theorem zgu(p:Int->Bool)(l:List Int)(h:∀x∈l,p x=false):l.countP p=0:=List.countP_eq_zero.2 (fun x hx=>by rw[h x hx];decide)
theorem QY(l:List Nd)(x:Nd)(c:Nat)(hc:c<=x.kids.length)(h1:∀i,i+c<x.kids.length->zw l (x.kids.getD i 0)=88)(h2:∀i,x.kids.length<=i+c->i<x.kids.length->zw l (x.kids.getD i 0)≠88):ZW l x 88=x.kids.length-c:=by
 unfold ZW;rw[<-List.take_append_drop (x.kids.length-c) x.kids,List.countP_append,zes,zgu]
 ·simp
 ·intro k hk;obtain⟨i,hi,rfl⟩:=List.mem_iff_getElem.1 hk;rw[gE] at hi;rw[List.getElem_drop];have:=h2 (x.kids.length-c+i) (by omega) (by omega);rw[pC,glE (by omega),Option.getD_some] at this;rw[pB];exact this
 ·intro k hk;obtain⟨i,hi,rfl⟩:=List.mem_iff_getElem.1 hk;rw[gJ] at hi;rw[List.getElem_take];have:=h1 i (by omega);rw[pC,glE (by omega),Option.getD_some] at this;rw[wC];exact this
theorem zg8{l:List Nd}{x:Nd}(hr:zI l x=true)(hm:x.kids.length<=1000):xN x=vh l x:=by
 unfold zI at hr;simp only[pM,pY,List.mem_range,pJ] at hr;obtain⟨⟨⟨⟨⟨⟨⟨_,hlo⟩,_⟩,_⟩,_⟩,_⟩,_⟩,hs⟩:=hr;have hfun:(x.kind=102\/x.kind=33)->ZW l x 88=x.kids.length-2/\2<=x.kids.length:=fun hk=>by
  have h2:2<=x.kids.length:=by rcases hk with hk|hk <;> (rw[hk] at hlo;exact hlo)
  have hs':∀i,i<x.kids.length->((decide (i+2<x.kids.length) && zw l (x.kids.getD i 0) == 88) || (decide (i+2=x.kids.length) && yX.type.is (zw l (x.kids.getD i 0))) || (decide (i+1=x.kids.length) && zw l (x.kids.getD i 0) == 28))=true:=fun i hi=>by
   have:=hs i hi;rcases hk with hk|hk <;> (rw[hk] at this;exact this)
  refine⟨QY l x 2 h2 (fun i hi=>?_) (fun i h3 h4=>?_),h2⟩
  ·have:=hs' i (by omega);simp only[wM,pM,pJ,wC] at this;omega
  ·have:=hs' i h4;simp only[wM,pM,pJ,wC,yX.is] at this;omega
 have hext:x.kind=103->ZW l x 88=x.kids.length-1/\1<=x.kids.length:=fun hk=>by
  have h2:1<=x.kids.length:=by rw[hk] at hlo;exact hlo
  have hs':∀i,i<x.kids.length->((decide (i+1<x.kids.length) && zw l (x.kids.getD i 0) == 88) || (decide (i+1=x.kids.length) && yX.type.is (zw l (x.kids.getD i 0))))=true:=fun i hi=>by
   have:=hs i hi;rw[hk] at this;exact this
  refine⟨QY l x 1 h2 (fun i hi=>?_) (fun i h3 h4=>?_),h2⟩
  ·have:=hs' i (by omega);simp only[wM,pM,pJ,wC] at this;omega
  ·have:=hs' i h4;simp only[wM,pM,pJ,wC,yX.is] at this;omega
 have h1000:decide (x.kids.length<=1000)=true:=by rw[pJ];exact hm
 unfold xN vh jc;generalize hkk:x.kind=k at *;by_cases e1:k=102
 ·subst e1;obtain⟨a,b⟩:=hfun (.inl rfl);simp[a]
 by_cases e2:k=33
 ·subst e2;obtain⟨a,b⟩:=hfun (.inr rfl);simp[a]
 by_cases e3:k=103
 ·subst e3;obtain⟨a,b⟩:=hext rfl;simp[a]
 by_cases e4:k=85
 ·subst e4;simp
 by_cases e5:k=24
 ·subst e5;simp
 by_cases e6:k=100
 ·subst e6;simp
 by_cases e7:k=26
 ·subst e7;simp
 by_cases e8:k=101
 ·subst e8;simp
 by_cases e9:k=89
 ·subst e9;simp
 by_cases e10:k=25
 ·subst e10;simp
 by_cases e11:k=70
 ·subst e11;simp
 by_cases e12:k=35
 ·subst e12;simp
 by_cases e13:k=31
 ·subst e13;simp
 by_cases e14:k=40
 ·subst e14;simp
 simp[e1,e2,e3,e4,e5,e6,e7,e8,e9,e10,e11,e12,e13,e14,hm]
theorem vL{t:yl}(h:ut t=true):xB t.nodes t.nodes.length/\Vg t.nodes (qJ t.nodes t.nodes.length) t.items.reverse ((t.nodes.length:Int)-1)=some (-1)/\∀x∈t.nodes,zI t.nodes x=true:=by
 unfold ut at h;rw[pM] at h;obtain⟨h1,h2⟩:=h;have hF:xB t.nodes t.nodes.length:=by
  have:=Xf t.nodes t.nodes.length;unfold xB;simp at h1;omega
 cases hI:Vg t.nodes (qJ t.nodes t.nodes.length) t.items.reverse ((t.nodes.length:Int)-1) with
 |none=>rw[hI] at h2;cases h2
 |some e=>
  rw[hI] at h2;simp only[pM,pY,wC] at h2;exact⟨hF,by rw[h2.2],h2.1⟩
theorem KH(t:yl)(hm:∀x∈t.nodes,x.kids.length<=1000):yJ t=qS t:=by
 unfold yJ qS;rw[zbc t (fun x hx=>by have:=hm x hx;omega)];cases hf:ut t with
 |false=>rfl
 |true=>
  obtain⟨hF,hI,hR⟩:=vL hf;rw[zer hF hI];have:(t.nodes.any fun x=> !xN x)=t.nodes.any fun x=> !vh t.nodes x:=by
   rw[pR,gF,gF];constructor <;> (rintro ⟨x,hx,h⟩;refine⟨x,hx,?_⟩;have e:=zg8 (hR x hx) (hm x hx);first|(rw[e] at h;exact h)|(rw[e];exact h))
  rw[this]
end Lode
