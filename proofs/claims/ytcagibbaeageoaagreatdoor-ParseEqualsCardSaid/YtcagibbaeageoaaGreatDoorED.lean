/-
  A part of the proof: contracts of functions; no conditions.
-/
import Derived.Test.YtcagibbaeageoaaGreatDoorEC
set_option maxRecDepth 100000
set_option maxHeartbeats 40000000
set_option linter.unusedSimpArgs false
set_option linter.unusedVariables false
namespace Lode
structure Nd where
 kind:Nat
 text:List UInt8
 n:Int
 kids:List Int
 at_:Int
 deriving DecidableEq
structure yI where
 nodes:List Nd
 items:List Int
 next:Nat
structure zH where
 toks:List xT
 len:Nat
inductive qz (α:Type) where
 |ok (a:α) (s:yI):qz α
 |bad (p:Int):qz α
def PM(α:Type):Type:=zH->yI->qz α
def PM.ret{α:Type}(a:α):PM α:=fun _ s=>.ok a s
def PM.bind{α β:Type}(m:PM α)(f:α->PM β):PM β:=fun E s=>match m E s with
 | .ok a s'=>f a E s'
 | .bad p=>.bad p
instance:Monad PM where
 pure:=PM.ret
 bind:=PM.bind
def zT(E:zH)(s:yI):xT:=(E.toks[s.next]?).getD ⟨0,[],E.len⟩
def YM:PM xT:=fun E s=>.ok (zT E s) s
def zgY{α:Type}:PM α:=fun E s=>.bad (zT E s).at_
def Yl(t:xT)(l:List (List UInt8)):Bool:=(t.kind == 5 || t.kind == 6) && l.contains t.text
def XN(l:List (List UInt8)):PM Bool:=fun E s=>.ok (Yl (zT E s) l) s
def jD:PM Unit:=fun _ s=>.ok () {s with next:=s.next+1}
def Zu:PM xT:=fun E s=>.ok (zT E s) {s with next:=s.next+1}
def zV(x:List UInt8):PM xT:=fun E s=>if Yl (zT E s) [x] then .ok (zT E s) {s with next:=s.next+1} else .bad (zT E s).at_
def xN(k:Nat):PM xT:=fun E s=>if (zT E s).kind == k then .ok (zT E s) {s with next:=s.next+1} else .bad (zT E s).at_
def yD(x:List UInt8):PM Bool:=fun E s=>if Yl (zT E s) [x] then .ok true {s with next:=s.next+1} else .ok false s
def zY(kind:Nat)(text:List UInt8)(n at_:Int)(kids:List Int):PM Int:=fun _ s=>.ok s.nodes.length {s with nodes:=s.nodes ++ [⟨kind,text,n,kids,at_⟩]}
def zet(k:Int):PM Nat:=fun _ s=>.ok ((s.nodes[k.toNat]?).elim 0 Nd.kind) s
def vY:Nat->PM Int->List Int->PM (List Int)
 |0,_,_=>fun _ _=>.bad 0
 |k+1,part,acc=>do
  let x <-part
  if <-yD [44] then vY k part (acc ++ [x]) else pure (acc ++ [x])
def ul(part:PM Int):PM (List Int):=fun E s=>vY (E.toks.length+1) part [] E s
def ji(part:PM Int):PM (List Int):=do
 let _ <-zV [123]
 let l <-ul part
 let _ <-zV [125]
 pure l
def jA(part:PM Int):PM (List Int):=do
 if <-yD [40] then
  let l <-ul part
  let _ <-zV [41]
  pure l
 else pure []
structure xP where
 expr:PM Int
 unary:PM Int
 bin2:PM Int
 block:PM Int
 branch:PM Int
 kind:PM Int
 pattern:PM Int
def Zb(R:xP):PM Int:=do
 let t <-xN 1
 let _ <-zV [58]
 let k <-R.kind
 zY 88 t.text 0 t.at_ [k]
def QL(R:xP):PM Int:=do
 let t <-xN 2
 let l <-jA R.kind
 zY 89 t.text 0 t.at_ l
def Yt(R:xP):PM (List Int):=do
 let _ <-zV [40]
 let l <-(do if <-XN [[41]] then pure [] else ul (Zb R):PM (List Int))
 let _ <-zV [41]
 let _ <-zV [58]
 let k <-R.kind
 pure (l ++ [k])
def QU(R:xP):PM Int:=do
 let t <-YM
 if t.kind == 2 then
  jD
  zY 84 t.text 0 t.at_ []
 else if <-yD [105,110,116] then zY 80 [] 0 t.at_ []
 else if <-yD [98,111,111,108] then zY 81 [] 0 t.at_ []
 else if <-yD [116,101,120,116] then zY 82 [] 0 t.at_ []
 else if <-yD [117,110,105,116] then zY 83 [] 0 t.at_ []
 else if <-yD [99,104,97,110] then
  let k <-R.kind
  zY 86 [] 0 t.at_ [k]
 else if <-yD [119,101,97,107] then
  let k <-R.kind
  zY 87 [] 0 t.at_ [k]
 else
  let _ <-zV [102,110]
  let _ <-zV [40]
  let l <-(do if <-XN [[41]] then pure [] else ul R.kind:PM (List Int))
  let _ <-zV [41]
  let _ <-zV [58]
  let k <-R.kind
  zY 85 [] 0 t.at_ (l ++ [k])
def Yr(R:xP):PM (Int×Bool):=do
 let t <-YM
 if <-yD [108,101,116] then
  let m <-xN 1
  let _ <-zV [61]
  let x <-R.expr
  let r <-zY 60 m.text 0 t.at_ [x]
  pure (r,false)
 else if <-yD [118,97,114] then
  let m <-xN 1
  let _ <-zV [61]
  let x <-R.expr
  let r <-zY 61 m.text 0 t.at_ [x]
  pure (r,false)
 else
  let left <-R.expr
  if <-XN [[58,61]] then
   let k <-zet left
   if k == 5 || k == 23 then
    let u <-Zu
    let x <-R.expr
    let r <-zY 62 [] 0 u.at_ [left,x]
    pure (r,false)
   else zgY
  else pure (left,true)
def qQ(R:xP):Nat->List Int->PM (List Int×Int)
 |0,_=>fun _ _=>.bad 0
 |k+1,acc=>do
  if <-XN [[125]] then pure (acc,0)
  else
   let x <-Yr R
   if x.2 && (<-XN [[125]]) then pure (acc ++ [x.1],1)
   else
    let _ <-zV [59]
    qQ R k (acc ++ [x.1])
def ZR(R:xP):PM Int:=do
 let t <-zV [123]
 let x <-(fun E s=>qQ R (E.toks.length+1) [] E s:PM (List Int×Int))
 let _ <-zV [125]
 zY 28 [] x.2 t.at_ x.1
def yW:Nat->List (List UInt8)
 |0=>[[111,114]]
 |1=>[[97,110,100]]
 |2=>[[61,61],[33,61],[60],[60,61],[62],[62,61],[105,115]]
 |3=>[[43],[45],[43,43]]
 |_=>[[42],[47],[37]]
def qW:Nat->List Nat
 |0=>[22]
 |1=>[21]
 |2=>[14,15,16,17,18,19,20]
 |3=>[8,9,10]
 |_=>[11,12,13]
def Kg(at_:Nat)(t:List UInt8):Nat:=(qW at_).getD ((yW at_).idxOf t) 0
def KW(at_:Nat)(tight:PM Int):Nat->Int->PM Int
 |0,_=>fun _ _=>.bad 0
 |k+1,left=>do
  if <-XN (yW at_) then
   let t <-Zu
   let r <-tight
   let x <-zY (Kg at_ t.text) [] 0 t.at_ [left,r]
   if at_ == 2 then pure x else KW at_ tight k x
  else pure left
def ZE(at_:Nat)(tight:PM Int):PM Int:=do
 let left <-tight
 (fun E s=>KW at_ tight (E.toks.length+1) left E s:PM Int)
def ya:List (List UInt8×Nat×Int):=[([105,110],44,0),([121,105,101,108,100],45,0),([99,111,108,108,101,99,116],46,0),([115,101,110,100],41,2),([114,101,99,118],42,1),([111,117,116],43,1),([115,105,122,101],47,1),([115,104,111,119],50,1),([114,101,97,100],51,1),([98,121,116,101],48,2),([99,117,116],49,3),([116,104,114,111,119],37,-1),([115,112,97,119,110],38,-1),([119,101,97,107],39,-1)]
def vo(s:List UInt8):Option (Nat×Int):=(ya.find? fun w=>w.1 == s).map (·.2)
def jC(R:xP):Nat->Bool->List Int->PM (List Int)
 |0,_,acc=>pure acc
 |k+1,first,acc=>do
  let _ <-(do if first then pure () else (do let _ <-zV [44];pure ()):PM Unit)
  let x <-R.expr
  jC R k false (acc ++ [x])
def vE(R:xP)(t:xT)(w:Nat×Int):PM Int:=do
 let kids <-(do
  if w.2<0 then
   let x <-R.unary
   pure [x]
  else if 0<w.2 then
   let _ <-zV [40]
   let l <-jC R w.2.toNat true []
   let _ <-zV [41]
   pure l
  else pure []:PM (List Int))
 zY w.1 [] 0 t.at_ kids
def uN(t:xT):Int:=xu t.text
def zb0(R:xP):PM Int:=do
 let t <-xN 1
 let _ <-zV [58]
 let x <-R.expr
 zY 27 t.text 0 t.at_ [x]
def zb1(R:xP):PM Int:=do
 let p <-R.pattern
 let t <-zV [61,62]
 let x <-R.expr
 zY 32 [] 0 t.at_ [p,x]
def Yq(R:xP):Nat->List Int->PM (List Int)
 |0,_=>fun _ _=>.bad 0
 |k+1,acc=>do
  let t <-YM
  if <-yD [114,101,99,118] then
   let x <-R.expr
   let _ <-zV [97,115]
   let m <-xN 1
   let _ <-zV [61,62]
   let y <-R.expr
   let r <-zY 63 m.text 0 t.at_ [x,y]
   if <-yD [44] then Yq R k (acc ++ [r]) else pure (acc ++ [r])
  else if <-yD [115,101,110,100] then
   let x <-R.expr
   let _ <-zV [44]
   let y <-R.expr
   let _ <-zV [61,62]
   let z <-R.expr
   let r <-zY 64 [] 0 t.at_ [x,y,z]
   if <-yD [44] then Yq R k (acc ++ [r]) else pure (acc ++ [r])
  else
   let _ <-zV [101,108,115,101]
   let _ <-zV [61,62]
   let x <-R.expr
   let r <-zY 65 [] 0 t.at_ [x]
   pure (acc ++ [r])
def uk(R:xP):PM (List Int):=do
 let _ <-zV [123]
 let l <-(fun E s=>Yq R (E.toks.length+1) [] E s:PM (List Int))
 let _ <-zV [125]
 pure l
def vK(R:xP):PM Int:=do
 let t <-zV [105,102]
 let c <-R.expr
 let b <-R.block
 if <-yD [101,108,115,101] then
  if <-XN [[105,102]] then
   let x <-R.branch
   zY 29 [] 0 t.at_ [c,b,x]
  else
   let x <-R.block
   zY 29 [] 0 t.at_ [c,b,x]
 else zY 29 [] 0 t.at_ [c,b]
def ql(R:xP)(t:xT):PM Int:=do
 if <-XN [[105,102]] then vK R
 else if <-yD [119,104,105,108,101] then
  let c <-R.expr
  let b <-R.block
  zY 30 [] 0 t.at_ [c,b]
 else if <-yD [109,97,116,99,104] then
  let c <-R.expr
  let l <-ji (zb1 R)
  zY 31 [] 0 t.at_ (c :: l)
 else if <-yD [102,110] then
  let l <-Yt R
  let b <-R.block
  zY 33 [] 0 t.at_ (l ++ [b])
 else if <-yD [116,114,121] then
  let b <-R.block
  let _ <-zV [99,97,116,99,104]
  let m <-xN 1
  let c <-R.block
  zY 34 m.text 0 t.at_ [b,c]
 else if <-yD [104,111,108,100] then
  let x <-R.expr
  let _ <-zV [97,115]
  let m <-xN 1
  let b <-R.block
  let _ <-zV [101,108,115,101]
  let c <-R.block
  zY 36 m.text 0 t.at_ [x,b,c]
 else if <-yD [110,101,119] then
  let m <-xN 2
  let l <-ji (zb0 R)
  zY 26 m.text 0 t.at_ l
 else if <-yD [99,104,97,110] then
  let k <-R.kind
  let _ <-zV [40]
  let m <-xN 3
  let _ <-zV [41]
  zY 40 [] (uN m) t.at_ [k]
 else
  let _ <-zV [115,101,108,101,99,116]
  let l <-uk R
  zY 35 [] 0 t.at_ l
def Yu(R:xP):PM Int:=do
 let t <-YM
 if t.kind == 3 then
  jD
  zY 1 [] (uN t) t.at_ []
 else if t.kind == 4 then
  jD
  zY 2 t.text 0 t.at_ []
 else if t.kind == 1 then
  jD
  zY 5 t.text 0 t.at_ []
 else if t.kind == 2 then
  jD
  let l <-jA R.expr
  zY 25 t.text 0 t.at_ l
 else if <-yD [40] then
  if <-yD [41] then zY 4 [] 0 t.at_ []
  else
   let x <-R.expr
   let _ <-zV [41]
   pure x
 else if <-yD [116,114,117,101] then zY 3 [] 1 t.at_ []
 else if <-yD [102,97,108,115,101] then zY 3 [] 0 t.at_ []
 else match vo t.text with
  |some w=>if t.kind == 5 then (do jD;vE R t w) else ql R t
  |none=>ql R t
def Ys(R:xP):Nat->Int->PM Int
 |0,_=>fun _ _=>.bad 0
 |k+1,left=>do
  let t <-YM
  if <-yD [46] then
   let m <-xN 1
   let x <-zY 23 m.text 0 t.at_ [left]
   Ys R k x
  else if <-yD [40] then
   let l <-(do if <-XN [[41]] then pure [] else ul R.expr:PM (List Int))
   let _ <-zV [41]
   let x <-zY 24 [] 0 t.at_ (left :: l)
   Ys R k x
  else pure left
def Zm(R:xP):PM Int:=do
 if <-XN [[45]] then
  let t <-Zu
  let x <-R.unary
  zY 6 [] 0 t.at_ [x]
 else
  let left <-Yu R
  (fun E s=>Ys R (E.toks.length+1) left E s:PM Int)
def zjk(R:xP):PM Int:=ZE 4 (Zm R)
def VR(R:xP):PM Int:=ZE 3 (zjk R)
def XD(R:xP):PM Int:=do
 if <-XN [[110,111,116]] then
  let t <-Zu
  let x <-R.bin2
  zY 7 [] 0 t.at_ [x]
 else ZE 2 (VR R)
def zhp(R:xP):PM Int:=ZE 0 (ZE 1 (XD R))
def kY(R:xP):PM Int:=do
 let t <-YM
 if t.kind == 1 then
  jD
  zY 66 t.text 0 t.at_ []
 else if t.kind == 3 then
  jD
  zY 67 [] (uN t) t.at_ []
 else if t.kind == 4 then
  jD
  zY 68 t.text 0 t.at_ []
 else if t.kind == 2 then
  jD
  let l <-jA R.pattern
  zY 70 t.text 0 t.at_ l
 else if <-yD [116,114,117,101] then zY 69 [] 1 t.at_ []
 else if <-yD [102,97,108,115,101] then zY 69 [] 0 t.at_ []
 else
  let _ <-zV [45]
  let m <-xN 3
  zY 67 [] (-(uN m)) t.at_ []
def zji:xP:=⟨fun _ _=>.bad 0,fun _ _=>.bad 0,fun _ _=>.bad 0,fun _ _=>.bad 0,fun _ _=>.bad 0,fun _ _=>.bad 0,fun _ _=>.bad 0⟩
def YJ:Nat->xP
 |0=>zji
 |n+1=>⟨zhp (YJ n),Zm (YJ n),XD (YJ n),ZR (YJ n),vK (YJ n),QU (YJ n),kY (YJ n)⟩
def Xt(R:xP):PM Int:=do
 let t <-YM
 if <-yD [99,108,97,115,115] then
  let m <-xN 2
  let l <-ji (Zb R)
  zY 100 m.text 0 t.at_ l
 else if <-yD [107,105,110,100] then
  let m <-xN 2
  let l <-ji (QL R)
  zY 101 m.text 0 t.at_ l
 else if <-yD [101,120,116,101,114,110] then
  let _ <-zV [102,117,110]
  let m <-xN 1
  let l <-Yt R
  let _ <-zV [59]
  zY 103 m.text 0 t.at_ l
 else if <-yD [114,111,111,116] then
  let m <-xN 1
  let _ <-zV [58]
  let k <-R.kind
  let _ <-zV [61]
  let x <-R.expr
  let _ <-zV [59]
  zY 104 m.text 0 t.at_ [k,x]
 else
  let pure_ <-yD [112,117,114,101]
  let _ <-zV [102,117,110]
  let m <-xN 1
  let l <-Yt R
  let b <-R.block
  zY 102 m.text (if pure_ then 1 else 0) t.at_ (l ++ [b])
def Zc(R:xP):Nat->PM Unit
 |0=>fun _ _=>.bad 0
 |k+1=>fun E s=>if s.next<E.toks.length then match Xt R E s with
  | .ok i s'=>Zc R k E {s' with items:=s'.items ++ [i]}
  | .bad p=>.bad p
  else .ok () s
def vX(l:List xT)(len:Nat):qz Unit:=Zc (YJ (l.length+1)) (l.length+1) ⟨l,len⟩ ⟨[],[],0⟩
def Vd(s:yI)(a:Int):Prop:=0<=a/\a<s.nodes.length
def WFs(s:yI):Prop:=∀(i:Nat) (x:Nd),s.nodes[i]? =some x->∀k∈x.kids,0<=k/\k<i
structure Nx(E:zH)(d:Int)(s s':yI):Prop where
 next:s.next<=s'.next
 le:s'.next<=E.toks.length
 cr:(s'.nodes.length:Int)-s.nodes.length+d<=(s'.next:Int)-s.next
 wf:WFs s'
 pre:∃r,s'.nodes=s.nodes ++ r
 it:s'.items=s.items
theorem Nx.refl{E:zH}{s:yI}(h:s.next<=E.toks.length)(hw:WFs s):Nx E 0 s s:=⟨pG _,h,by omega,hw,⟨[],(gJ _).symm⟩,rfl⟩
theorem Nx.trans{E:zH}{d e:Int}{a b c:yI}(h:Nx E d a b)(k:Nx E e b c):Nx E (d+e) a c:=by
 obtain⟨r,hr⟩:=h.pre;obtain⟨q,hq⟩:=k.pre;have h1:=h.cr;have h2:=k.cr;exact⟨pR h.next k.next,k.le,by omega,k.wf,⟨r ++ q,by rw[hq,hr,gD]⟩,k.it.trans h.it⟩
theorem Nx.down{E:zH}{d e:Int}{a b:yI}(h:Nx E d a b)(hd:e<=d):Nx E e a b:=⟨h.next,h.le,by have:=h.cr;omega,h.wf,h.pre,h.it⟩
theorem Vd.later{E:zH}{d:Int}{s s':yI}{a:Int}(h:Vd s a)(n:Nx E d s s'):Vd s' a:=by
 obtain⟨r,hr⟩:=n.pre;refine⟨h.1,?_⟩;rw[hr,pM];have:=h.2;omega
def Gd{α:Type}(d:Int)(Q:yI->α->Prop)(m:PM α):Prop:=∀{E:zH} {s:yI} {a:α} {s':yI},s.next<=E.toks.length->WFs s->m E s=.ok a s'->Nx E d s s'/\Q s' a
theorem zt{α β:Type}{m:PM α}{f:α->PM β}{E:zH}{s s':yI}{b:β}(h:(m >>= f) E s=.ok b s'):∃a s1,m E s=.ok a s1/\f a E s1=.ok b s':=by
 change PM.bind m f E s=_ at h;unfold PM.bind at h;cases hm:m E s with
 |ok a s1=>rw[hm] at h;exact⟨a,s1,rfl,h⟩
 |bad p=>rw[hm] at h;cases h
theorem yJ{α:Type}{a b:α}{E:zH}{s s':yI}(h:(pure a:PM α) E s=.ok b s'):b=a/\s'=s:=by
 change qz.ok a s=_ at h;cases h;exact⟨rfl,rfl⟩
theorem vC{E:zH}{s:yI}{l:List (List UInt8)}(h:Yl (zT E s) l=true):s.next<E.toks.length:=by
 rcases Nat.lt_or_ge s.next E.toks.length with h'|h'
 ·exact h'
 ·simp[Yl,zT,wU h'] at h
theorem qF{E:zH}{s:yI}{k:Nat}(h:(zT E s).kind=k)(hk:k≠0):s.next<E.toks.length:=by
 rcases Nat.lt_or_ge s.next E.toks.length with h'|h'
 ·exact h'
 ·simp[zT,wU h'] at h;exact absurd h.symm hk
theorem Xk{E:zH}{s:yI}(h:s.next<E.toks.length)(hw:WFs s):Nx E 1 s {s with next:=s.next+1}:=⟨Nat.le_succ _,h,by simp;omega,hw,⟨[],(gJ _).symm⟩,rfl⟩
theorem zq{x:List UInt8}:Gd 1 (fun _ _=>True) (zV x):=by
 intro E s a s' h0 hw h;unfold zV at h;split at h
 ·rename_i hi;cases h;exact⟨Xk (vC hi) hw,trivial⟩
 ·cases h
theorem yt{k:Nat}(hk:k≠0):Gd 1 (fun _ _=>True) (xN k):=by
 intro E s a s' h0 hw h;unfold xN at h;split at h
 ·rename_i hi;cases h;exact⟨Xk (qF (by simpa using hi) hk) hw,trivial⟩
 ·cases h
theorem Zf{x:List UInt8}{E:zH}{s s':yI}{b:Bool}(h0:s.next<=E.toks.length)(hw:WFs s)(h:yD x E s=.ok b s'):Nx E (if b then 1 else 0) s s':=by
 unfold yD at h;split at h
 ·rename_i hi;cases h;exact Xk (vC hi) hw
 ·cases h;exact Nx.refl h0 hw
theorem ziD{x:List UInt8}:Gd 0 (fun _ _=>True) (yD x):=by
 intro E s b s' h0 hw h;have:=Zf h0 hw h;cases b
 ·exact⟨this,trivial⟩
 ·exact⟨this.down (by decide),trivial⟩
theorem gb{α β:Type}{m:PM α}{f:α->PM β}{E:zH}{s0 s s':yI}{b:β}{d0 d:Int}{Q:yI->α->Prop}(h:(m >>= f) E s=.ok b s')(N:Nx E d0 s0 s)(g:Gd d Q m):∃a s1,Nx E d s s1/\Q s1 a/\Nx E (d0+d) s0 s1/\f a E s1=.ok b s':=by
 obtain⟨a,s1,h1,h⟩:=zt h;obtain⟨n,v⟩:=g N.le N.wf h1;exact⟨a,s1,n,v,N.trans n,h⟩
theorem gm{β:Type}{x:List UInt8}{f:Bool->PM β}{E:zH}{s0 s s':yI}{b:β}{d0:Int}(h:(yD x >>= f) E s=.ok b s')(N:Nx E d0 s0 s):∃a s1,Nx E (if a then 1 else 0) s s1/\yD x E s=.ok a s1/\Nx E (d0+if a then 1 else 0) s0 s1/\f a E s1=.ok b s':=by
 obtain⟨a,s1,h1,h⟩:=zt h;have n:=Zf N.le N.wf h1;exact⟨a,s1,n,h1,N.trans n,h⟩
theorem qv{E:zH}{s0 s s':yI}{d0 d e:Int}{p:Prop}(N:Nx E d0 s0 s)(g:Nx E d s s'/\p)(he:e<=d0+d):Nx E e s0 s'/\p:=⟨(N.trans g.1).down he,g.2⟩
theorem zhk{l:List (List UInt8)}:Gd 0 (fun _ _=>True) (XN l):=by
 intro E s b s' h0 hw h;cases h;exact⟨Nx.refl h0 hw,trivial⟩
theorem zS{kind:Nat}{text:List UInt8}{n at_:Int}{kids:List Int}{E:zH}{s s':yI}{a:Int}(h0:s.next<=E.toks.length)(hw:WFs s)(hk:∀k∈kids,Vd s k)(h:zY kind text n at_ kids E s=.ok a s'):Nx E (-1) s s'/\Vd s' a:=by
 cases h;refine⟨⟨pG _,h0,by simp;omega,fun i x hx k hkm=>?_,⟨_,rfl⟩,rfl⟩,⟨by omega,by simp;omega⟩⟩;rw[List.getElem?_append] at hx;split at hx
 ·exact hw i x hx k hkm
 ·rename_i hi;have hz:i-s.nodes.length=0\/0<i-s.nodes.length:=by omega
  rcases hz with hz|hz
  ·rw[hz] at hx;cases hx;have:=hk k hkm;exact⟨this.1,by have:=this.2;omega⟩
  ·rw[wU (by simp;omega)] at hx;cases hx
structure yM(R:xP):Prop where
 expr:Gd 0 Vd R.expr
 unary:Gd 0 Vd R.unary
 bin2:Gd 0 Vd R.bin2
 block:Gd 0 Vd R.block
 branch:Gd 0 Vd R.branch
 kind:Gd 0 Vd R.kind
 pattern:Gd 0 Vd R.pattern
def Jw(s:yI)(l:List Int):Prop:=∀k∈l,Vd s k
theorem Jw.later{E:zH}{d:Int}{s s':yI}{l:List Int}(h:Jw s l)(n:Nx E d s s'):Jw s' l:=fun k hk=>(h k hk).later n
theorem Jw.snoc{s:yI}{l:List Int}{a:Int}(h:Jw s l)(ha:Vd s a):Jw s (l ++ [a]):=fun k hk=>by
 rw[pP,wT] at hk;rcases hk with hk|rfl
 ·exact h k hk
 ·exact ha
theorem zce{part:PM Int}(hp:Gd 0 Vd part):∀(n:Nat) (acc:List Int) {E:zH} {s:yI} {a:List Int} {s':yI},s.next<=E.toks.length->WFs s->Jw s acc->vY n part acc E s=.ok a s'->Nx E 0 s s'/\Jw s' a
 |0,_,_,_,_,_,_,_,_,h=>by cases h
 |n+1,acc,E,s,a,s',h0,hw,ha,h=>by
  unfold vY at h;obtain⟨x,s1,h1,h⟩:=zt h;obtain⟨n1,v1⟩:=hp h0 hw h1;obtain⟨b,s2,h2,h⟩:=zt h;have n2:=Zf n1.le n1.wf h2;have n3:=n1.trans n2;have hacc:=(ha.later n3).snoc (v1.later n2);cases b with
  |true=>
   obtain⟨n4,v4⟩:=zce hp n (acc ++ [x]) n3.le n3.wf hacc h;exact⟨(n3.trans n4).down (by decide),v4⟩
  |false=>
   obtain⟨rfl,rfl⟩:=yJ h;exact⟨n3.down (by decide),hacc⟩
theorem uo{part:PM Int}(hp:Gd 0 Vd part):Gd 0 Jw (ul part):=fun h0 hw h=>zce hp _ [] h0 hw (fun k hk=>by cases hk) h
theorem JC{s:yI}:∀k∈([]:List Int),Vd s k:=fun k hk=>by cases hk
theorem Yj{s:yI}{a:Int}(h:Vd s a):∀k∈[a],Vd s k:=fun k hk=>by
 rw[wT] at hk;rw[hk];exact h
theorem Jj{s:yI}{a:Int}{l:List Int}(h:Vd s a)(hl:∀k∈l,Vd s k):∀k∈a :: l,Vd s k:=fun k hk=>by
 rcases wF.1 hk with rfl|hk
 ·exact h
 ·exact hl k hk
theorem vda{s:yI}{a:Int}{l:List Int}(hl:Jw s l)(h:Vd s a):∀k∈l ++ [a],Vd s k:=hl.snoc h
theorem jI{part:PM Int}(hp:Gd 0 Vd part):Gd 2 Jw (ji part):=by
 intro E s a s' h0 hw h;have N:=Nx.refl h0 hw;unfold ji at h;obtain⟨x,sx,nx,vx,N,h⟩:=gb h N (zq);obtain⟨l,sl,nl,vl,N,h⟩:=gb h N (uo hp);obtain⟨y,sy,ny,vy,N,h⟩:=gb h N (zq);replace vl:=vl.later ny;obtain⟨rfl,rfl⟩:=yJ h;exact⟨N.down (by decide),vl⟩
theorem uK{part:PM Int}(hp:Gd 0 Vd part):Gd 0 Jw (jA part):=by
 intro E s a s' h0 hw h;have N:=Nx.refl h0 hw;unfold jA at h;obtain⟨b,sb,nb,hb,N,h⟩:=gm h N;cases b with
 |true=>
  rw[if_pos rfl] at h;obtain⟨l,sl,nl,vl,N,h⟩:=gb h N (uo hp);obtain⟨y,sy,ny,vy,N,h⟩:=gb h N (zq);replace vl:=vl.later ny;obtain⟨rfl,rfl⟩:=yJ h;exact⟨N.down (by decide),vl⟩
 |false=>
  rw[if_neg (by decide)] at h;obtain⟨rfl,rfl⟩:=yJ h;exact⟨N.down (by decide),JC⟩
theorem uM{R:xP}(hR:yM R):Gd 0 Vd (Zb R):=by
 intro E s a s' h0 hw h;have N:=Nx.refl h0 hw;unfold Zb at h;obtain⟨t,st,nt,vt,N,h⟩:=gb h N ((yt (by decide)));obtain⟨x,sx,nx,vx,N,h⟩:=gb h N (zq);obtain⟨k,sk,nk,vk,N,h⟩:=gb h N (hR.kind);exact qv N (zS N.le N.wf (Yj vk) h) (by decide)
theorem zaS{R:xP}(hR:yM R):Gd 0 Vd (QL R):=by
 intro E s a s' h0 hw h;have N:=Nx.refl h0 hw;unfold QL at h;obtain⟨t,st,nt,vt,N,h⟩:=gb h N ((yt (by decide)));obtain⟨l,sl,nl,vl,N,h⟩:=gb h N ((uK hR.kind));exact qv N (zS N.le N.wf (vl) h) (by decide)
theorem Ql{part:PM Int}{w:List (List UInt8)}(hp:Gd 0 Vd part):Gd 0 Jw (do if <-XN w then pure [] else ul part:PM (List Int)):=by
 intro E s a s' h0 hw h;have N:=Nx.refl h0 hw;obtain⟨b,sb,nb,vb,N,h⟩:=gb h N (zhk);cases b with
 |true=>
  rw[if_pos rfl] at h;obtain⟨rfl,rfl⟩:=yJ h;exact⟨N.down (by decide),JC⟩
 |false=>
  rw[if_neg (by decide)] at h;obtain⟨nl,vl⟩:=uo hp N.le N.wf h;exact⟨(N.trans nl).down (by decide),vl⟩
theorem Zl{R:xP}(hR:yM R):Gd 3 Jw (Yt R):=by
 intro E s a s' h0 hw h;have N:=Nx.refl h0 hw;unfold Yt at h;obtain⟨x,sx,nx,vx,N,h⟩:=gb h N (zq);obtain⟨l,sl,nl,vl,N,h⟩:=gb h N ((Ql (uM hR)));obtain⟨y,sy,ny,vy,N,h⟩:=gb h N (zq);replace vl:=vl.later ny;obtain⟨z,sz,nz,vz,N,h⟩:=gb h N (zq);replace vl:=vl.later nz;obtain⟨k,sk,nk,vk,N,h⟩:=gb h N (hR.kind);replace vl:=vl.later nk;obtain⟨rfl,rfl⟩:=yJ h;exact⟨N.down (by decide),vl.snoc vk⟩
theorem kK{E:zH}{s s':yI}{u:Unit}(hlt:s.next<E.toks.length)(hw:WFs s)(h:jD E s=.ok u s'):Nx E 1 s s':=by
 cases h;exact Xk hlt hw
theorem ziJ{R:xP}(hR:yM R):Gd 0 Vd (QU R):=by
 intro E s a s' h0 hw h;have N:=Nx.refl h0 hw;unfold QU at h;obtain⟨t,s0,h1,h⟩:=zt h;cases h1;split at h
 ·rename_i hk;obtain⟨u,s1,h1,h⟩:=zt h;have n1:=kK (qF (k:=2) (by simpa using hk) (by decide)) hw h1;replace N:=N.trans n1;exact qv N (zS N.le N.wf (JC) h) (by decide)
 ·obtain⟨a1,sa1,na1,ha1,N,h⟩:=gm h N;cases a1 with
  |true=>
   rw[if_pos rfl] at h;exact qv N (zS N.le N.wf (JC) h) (by decide)
  |false=>
  rw[if_neg (by decide)] at h;obtain⟨a2,sa2,na2,ha2,N,h⟩:=gm h N;cases a2 with
  |true=>
   rw[if_pos rfl] at h;exact qv N (zS N.le N.wf (JC) h) (by decide)
  |false=>
  rw[if_neg (by decide)] at h;obtain⟨a3,sa3,na3,ha3,N,h⟩:=gm h N;cases a3 with
  |true=>
   rw[if_pos rfl] at h;exact qv N (zS N.le N.wf (JC) h) (by decide)
  |false=>
  rw[if_neg (by decide)] at h;obtain⟨a4,sa4,na4,ha4,N,h⟩:=gm h N;cases a4 with
  |true=>
   rw[if_pos rfl] at h;exact qv N (zS N.le N.wf (JC) h) (by decide)
  |false=>
  rw[if_neg (by decide)] at h;obtain⟨a5,sa5,na5,ha5,N,h⟩:=gm h N;cases a5 with
  |true=>
   rw[if_pos rfl] at h;obtain⟨k,sk,nk,vk,N,h⟩:=gb h N (hR.kind);exact qv N (zS N.le N.wf (Yj vk) h) (by decide)
  |false=>
  rw[if_neg (by decide)] at h;obtain⟨a6,sa6,na6,ha6,N,h⟩:=gm h N;cases a6 with
  |true=>
   rw[if_pos rfl] at h;obtain⟨k,sk,nk,vk,N,h⟩:=gb h N (hR.kind);exact qv N (zS N.le N.wf (Yj vk) h) (by decide)
  |false=>
  rw[if_neg (by decide)] at h;obtain⟨x,sx,nx,vx,N,h⟩:=gb h N (zq);obtain⟨y,sy,ny,vy,N,h⟩:=gb h N (zq);obtain⟨l,sl,nl,vl,N,h⟩:=gb h N ((Ql hR.kind));obtain⟨z,sz,nz,vz,N,h⟩:=gb h N (zq);replace vl:=vl.later nz;obtain⟨q,sq,nq,vq,N,h⟩:=gb h N (zq);replace vl:=vl.later nq;obtain⟨k,sk,nk,vk,N,h⟩:=gb h N (hR.kind);replace vl:=vl.later nk;exact qv N (zS N.le N.wf (vda vl vk) h) (by decide)
theorem kJ{E:zH}{s s':yI}{t:xT}(hlt:s.next<E.toks.length)(hw:WFs s)(h:Zu E s=.ok t s'):Nx E 1 s s':=by
 cases h;exact Xk hlt hw
theorem zeg{R:xP}(hR:yM R):Gd 0 (fun s (x:Int×Bool)=>Vd s x.1) (Yr R):=by
 intro E s a s' h0 hw h;have N:=Nx.refl h0 hw;unfold Yr at h;obtain⟨t,s0,h1,h⟩:=zt h;cases h1;obtain⟨a1,sa1,na1,ha1,N,h⟩:=gm h N;cases a1 with
 |true=>
  rw[if_pos rfl] at h;obtain⟨m,sm,nm,vm,N,h⟩:=gb h N ((yt (by decide)));obtain⟨x,sx,nx,vx,N,h⟩:=gb h N (zq);obtain⟨e,se,ne,ve,N,h⟩:=gb h N (hR.expr);obtain⟨r,s9,h9,h⟩:=zt h;obtain⟨nz,vz⟩:=zS N.le N.wf (Yj ve) h9;obtain⟨rfl,rfl⟩:=yJ h;exact⟨(N.trans nz).down (by decide),vz⟩
 |false=>
 rw[if_neg (by decide)] at h;obtain⟨a2,sa2,na2,ha2,N,h⟩:=gm h N;cases a2 with
 |true=>
  rw[if_pos rfl] at h;obtain⟨m,sm,nm,vm,N,h⟩:=gb h N ((yt (by decide)));obtain⟨x,sx,nx,vx,N,h⟩:=gb h N (zq);obtain⟨e,se,ne,ve,N,h⟩:=gb h N (hR.expr);obtain⟨r,s9,h9,h⟩:=zt h;obtain⟨nz,vz⟩:=zS N.le N.wf (Yj ve) h9;obtain⟨rfl,rfl⟩:=yJ h;exact⟨(N.trans nz).down (by decide),vz⟩
 |false=>
 rw[if_neg (by decide)] at h;obtain⟨e,se,ne,ve,N,h⟩:=gb h N (hR.expr);obtain⟨b,s3,h3,h⟩:=zt h;cases h3;split at h
 ·rename_i hb;obtain⟨k,s4,h4,h⟩:=zt h;cases h4;split at h
  ·obtain⟨u,s5,h5,h⟩:=zt h;have n5:=kJ (vC hb) N.wf h5;replace N:=N.trans n5;replace ve:=ve.later n5;obtain⟨y,sy,ny,vy,N,h⟩:=gb h N (hR.expr);replace ve:=ve.later ny;obtain⟨r,s9,h9,h⟩:=zt h;obtain⟨nz,vz⟩:=zS N.le N.wf (Jj ve (Yj vy)) h9;obtain⟨rfl,rfl⟩:=yJ h;exact⟨(N.trans nz).down (by decide),vz⟩
  ·cases h
 ·obtain⟨rfl,rfl⟩:=yJ h;exact⟨N.down (by decide),ve⟩
theorem zby{R:xP}(hR:yM R):∀(n:Nat) (acc:List Int) {E:zH} {s:yI} {a:List Int×Int} {s':yI},s.next<=E.toks.length->WFs s->Jw s acc->qQ R n acc E s=.ok a s'->Nx E 0 s s'/\Jw s' a.1
 |0,_,_,_,_,_,_,_,_,h=>by cases h
 |n+1,acc,E,s,a,s',h0,hw,ha,h=>by
  have N:=Nx.refl h0 hw;unfold qQ at h;obtain⟨b,s1,h1,h⟩:=zt h;cases h1;split at h
  ·obtain⟨rfl,rfl⟩:=yJ h;exact⟨N.down (by decide),ha⟩
  ·obtain⟨x,sx,nx,vx,N,h⟩:=gb h N ((zeg hR));replace ha:=ha.later nx;obtain⟨b,s2,h2,h⟩:=zt h;cases h2;split at h
   ·obtain⟨rfl,rfl⟩:=yJ h;exact⟨N.down (by decide),ha.snoc vx⟩
   ·obtain⟨y,sy,ny,vy,N,h⟩:=gb h N (zq);replace vx:=vx.later ny;replace ha:=ha.later ny;obtain⟨n4,v4⟩:=zby hR n (acc ++ [x.1]) N.le N.wf (ha.snoc vx) h;exact⟨(N.trans n4).down (by decide),v4⟩
theorem zhA{R:xP}(hR:yM R):Gd 0 Vd (ZR R):=by
 intro E s a s' h0 hw h;have N:=Nx.refl h0 hw;unfold ZR at h;obtain⟨t,st,nt,vt,N,h⟩:=gb h N (zq);obtain⟨x,s2,h2,h⟩:=zt h;obtain⟨n2,v2⟩:=zby hR _ [] N.le N.wf JC h2;replace N:=N.trans n2;obtain⟨y,sy,ny,vy,N,h⟩:=gb h N (zq);replace v2:=v2.later ny;exact qv N (zS N.le N.wf (v2) h) (by decide)
theorem zg0{tight:PM Int}(ht:Gd 0 Vd tight)(lv:Nat):∀(n:Nat) (left:Int) {E:zH} {s:yI} {a:Int} {s':yI},s.next<=E.toks.length->WFs s->Vd s left->KW lv tight n left E s=.ok a s'->Nx E 0 s s'/\Vd s' a
 |0,_,_,_,_,_,_,_,_,h=>by cases h
 |n+1,left,E,s,a,s',h0,hw,vl,h=>by
  have N:=Nx.refl h0 hw;unfold KW at h;obtain⟨b,s1,h1,h⟩:=zt h;cases h1;split at h
  ·rename_i hb;obtain⟨t,s2,h2,h⟩:=zt h;have n2:=kJ (vC hb) hw h2;replace N:=N.trans n2;replace vl:=vl.later n2;obtain⟨r,sr,nr,vr,N,h⟩:=gb h N (ht);replace vl:=vl.later nr;obtain⟨x,s9,h9,h⟩:=zt h;obtain⟨nz,vz⟩:=zS N.le N.wf (Jj vl (Yj vr)) h9;replace N:=N.trans nz;split at h
   ·obtain⟨rfl,rfl⟩:=yJ h;exact⟨N.down (by decide),vz⟩
   ·obtain⟨n4,v4⟩:=zg0 ht lv n x N.le N.wf vz h;exact⟨(N.trans n4).down (by decide),v4⟩
  ·obtain⟨rfl,rfl⟩:=yJ h;exact⟨N.down (by decide),vl⟩
theorem Qt{tight:PM Int}(ht:Gd 0 Vd tight)(lv:Nat):Gd 0 Vd (ZE lv tight):=by
 intro E s a s' h0 hw h;have N:=Nx.refl h0 hw;unfold ZE at h;obtain⟨l,sl,nl,vl,N,h⟩:=gb h N (ht);obtain⟨n4,v4⟩:=zg0 ht lv _ l N.le N.wf vl h;exact⟨(N.trans n4).down (by decide),v4⟩
theorem zei{R:xP}(hR:yM R):∀(n:Nat) (first:Bool) (acc:List Int) {E:zH} {s:yI} {a:List Int} {s':yI},s.next<=E.toks.length->WFs s->Jw s acc->jC R n first acc E s=.ok a s'->Nx E 0 s s'/\Jw s' a
 |0,_,acc,_,_,_,_,h0,hw,ha,h=>by
  obtain⟨rfl,rfl⟩:=yJ h;exact⟨Nx.refl h0 hw,ha⟩
 |n+1,first,acc,E,s,a,s',h0,hw,ha,h=>by
  have N:=Nx.refl h0 hw;unfold jC at h;obtain⟨u,s1,h1,h⟩:=zt h;have n1:Nx E 0 s s1:=by
   split at h1
   ·obtain⟨_,rfl⟩:=yJ h1;exact N
   ·obtain⟨_,s2,h2,h1⟩:=zt h1;obtain⟨_,rfl⟩:=yJ h1;exact (zq h0 hw h2).1.down (by decide)
  replace N:=N.trans n1;replace ha:=ha.later n1;obtain⟨x,sx,nx,vx,N,h⟩:=gb h N (hR.expr);obtain⟨n4,v4⟩:=zei hR n false (acc ++ [x]) N.le N.wf ((ha.later nx).snoc vx) h;exact⟨(N.trans n4).down (by decide),v4⟩
theorem zh6{R:xP}(hR:yM R)(t:xT)(w:Nat×Int):Gd (-1) Vd (vE R t w):=by
 intro E s a s' h0 hw h;have N:=Nx.refl h0 hw;unfold vE at h;obtain⟨l,s1,h1,h⟩:=zt h;have n1:Nx E 0 s s1/\Jw s1 l:=by
  split at h1
  ·obtain⟨x,s2,h2,h1⟩:=zt h1;obtain⟨n2,v2⟩:=hR.unary h0 hw h2;obtain⟨rfl,rfl⟩:=yJ h1;exact⟨n2,Yj v2⟩
  ·split at h1
   ·obtain⟨x,s2,h2,h1⟩:=zt h1;obtain⟨n2,_⟩:=zq h0 hw h2;obtain⟨y,s3,h3,h1⟩:=zt h1;obtain⟨n3,v3⟩:=zei hR _ _ [] n2.le n2.wf JC h3;obtain⟨z,s4,h4,h1⟩:=zt h1;obtain⟨n4,_⟩:=zq n3.le n3.wf h4;obtain⟨rfl,rfl⟩:=yJ h1;exact⟨((n2.trans n3).trans n4).down (by decide),v3.later n4⟩
   ·obtain⟨rfl,rfl⟩:=yJ h1;exact⟨N,JC⟩
 obtain⟨nz,vz⟩:=zS n1.1.le n1.1.wf n1.2 h;exact⟨(n1.1.trans nz).down (by decide),vz⟩
theorem zdl{R:xP}(hR:yM R):Gd 0 Vd (zb0 R):=by
 intro E s a s' h0 hw h;have N:=Nx.refl h0 hw;unfold zb0 at h;obtain⟨t,st,nt,vt,N,h⟩:=gb h N ((yt (by decide)));obtain⟨x,sx,nx,vx,N,h⟩:=gb h N (zq);obtain⟨k,sk,nk,vk,N,h⟩:=gb h N (hR.expr);exact qv N (zS N.le N.wf (Yj vk) h) (by decide)
theorem zd0{R:xP}(hR:yM R):Gd 0 Vd (zb1 R):=by
 intro E s a s' h0 hw h;have N:=Nx.refl h0 hw;unfold zb1 at h;obtain⟨p,sp,np,vp,N,h⟩:=gb h N (hR.pattern);obtain⟨t,st,nt,vt,N,h⟩:=gb h N (zq);replace vp:=vp.later nt;obtain⟨x,sx,nx,vx,N,h⟩:=gb h N (hR.expr);replace vp:=vp.later nx;exact qv N (zS N.le N.wf (Jj vp (Yj vx)) h) (by decide)
theorem zaj{R:xP}(hR:yM R):∀(n:Nat) (acc:List Int) {E:zH} {s:yI} {a:List Int} {s':yI},s.next<=E.toks.length->WFs s->Jw s acc->Yq R n acc E s=.ok a s'->Nx E 0 s s'/\Jw s' a
 |0,_,_,_,_,_,_,_,_,h=>by cases h
 |n+1,acc,E,s,a,s',h0,hw,ha,h=>by
  have N:=Nx.refl h0 hw;unfold Yq at h;obtain⟨t,s1,h1,h⟩:=zt h;cases h1;obtain⟨a1,sa1,na1,ha1,N,h⟩:=gm h N;cases a1 with
  |true=>
   rw[if_pos rfl] at h;obtain⟨x,sx,nx,vx,N,h⟩:=gb h N (hR.expr);obtain⟨q,sq,nq,vq,N,h⟩:=gb h N (zq);replace vx:=vx.later nq;obtain⟨m,sm,nm,vm,N,h⟩:=gb h N ((yt (by decide)));replace vx:=vx.later nm;obtain⟨e,se,ne,ve,N,h⟩:=gb h N (zq);replace vx:=vx.later ne;obtain⟨y,sy,ny,vy,N,h⟩:=gb h N (hR.expr);replace vx:=vx.later ny;obtain⟨r,s9,h9,h⟩:=zt h;obtain⟨nz,vz⟩:=zS N.le N.wf (Jj vx (Yj vy)) h9;replace N:=N.trans nz;have ha2:=(ha.later N).snoc vz;obtain⟨c,sc,nc,hc,N,h⟩:=gm h N;cases c with
   |true=>
    rw[if_pos rfl] at h;obtain⟨n4,v4⟩:=zaj hR n (acc ++ [r]) N.le N.wf (ha2.later nc) h;exact⟨(N.trans n4).down (by decide),v4⟩
   |false=>
    rw[if_neg (by decide)] at h;obtain⟨rfl,rfl⟩:=yJ h;exact⟨N.down (by decide),ha2.later nc⟩
  |false=>
  rw[if_neg (by decide)] at h;obtain⟨a2,sa2,na2,ha2,N,h⟩:=gm h N;cases a2 with
  |true=>
   rw[if_pos rfl] at h;obtain⟨x,sx,nx,vx,N,h⟩:=gb h N (hR.expr);obtain⟨q,sq,nq,vq,N,h⟩:=gb h N (zq);replace vx:=vx.later nq;obtain⟨y,sy,ny,vy,N,h⟩:=gb h N (hR.expr);replace vx:=vx.later ny;obtain⟨e,se,ne,ve,N,h⟩:=gb h N (zq);replace vx:=vx.later ne;replace vy:=vy.later ne;obtain⟨z,sz,nz,vz,N,h⟩:=gb h N (hR.expr);replace vx:=vx.later nz;replace vy:=vy.later nz;obtain⟨r,s9,h9,h⟩:=zt h;obtain⟨nz,vz⟩:=zS N.le N.wf (Jj vx (Jj vy (Yj vz))) h9;replace N:=N.trans nz;have ha2:=(ha.later N).snoc vz;obtain⟨c,sc,nc,hc,N,h⟩:=gm h N;cases c with
   |true=>
    rw[if_pos rfl] at h;obtain⟨n4,v4⟩:=zaj hR n (acc ++ [r]) N.le N.wf (ha2.later nc) h;exact⟨(N.trans n4).down (by decide),v4⟩
   |false=>
    rw[if_neg (by decide)] at h;obtain⟨rfl,rfl⟩:=yJ h;exact⟨N.down (by decide),ha2.later nc⟩
  |false=>
  rw[if_neg (by decide)] at h;obtain⟨q,sq,nq,vq,N,h⟩:=gb h N (zq);obtain⟨e,se,ne,ve,N,h⟩:=gb h N (zq);obtain⟨x,sx,nx,vx,N,h⟩:=gb h N (hR.expr);obtain⟨r,s9,h9,h⟩:=zt h;obtain⟨nz,vz⟩:=zS N.le N.wf (Yj vx) h9;replace N:=N.trans nz;obtain⟨rfl,rfl⟩:=yJ h;exact⟨N.down (by decide),(ha.later N).snoc vz⟩
theorem Vo{R:xP}(hR:yM R):Gd 2 Jw (uk R):=by
 intro E s a s' h0 hw h;have N:=Nx.refl h0 hw;unfold uk at h;obtain⟨t,st,nt,vt,N,h⟩:=gb h N (zq);obtain⟨x,s2,h2,h⟩:=zt h;obtain⟨n2,v2⟩:=zaj hR _ [] N.le N.wf JC h2;replace N:=N.trans n2;obtain⟨y,sy,ny,vy,N,h⟩:=gb h N (zq);obtain⟨rfl,rfl⟩:=yJ h;exact⟨N.down (by decide),v2.later ny⟩
theorem VZ{R:xP}(hR:yM R):Gd 0 Vd (vK R):=by
 intro E s a s' h0 hw h;have N:=Nx.refl h0 hw;unfold vK at h;obtain⟨t,st,nt,vt,N,h⟩:=gb h N (zq);obtain⟨c,sc,nc,vc,N,h⟩:=gb h N (hR.expr);obtain⟨b,sb,nb,vb,N,h⟩:=gb h N (hR.block);replace vc:=vc.later nb;obtain⟨a1,sa1,na1,ha1,N,h⟩:=gm h N;replace vc:=vc.later na1;replace vb:=vb.later na1;cases a1 with
 |true=>
  rw[if_pos rfl] at h;obtain⟨i,si,ni,vi,N,h⟩:=gb h N (zhk);replace vc:=vc.later ni;replace vb:=vb.later ni;split at h
  ·obtain⟨x,sx,nx,vx,N,h⟩:=gb h N (hR.branch);replace vc:=vc.later nx;replace vb:=vb.later nx;exact qv N (zS N.le N.wf (Jj vc (Jj vb (Yj vx))) h) (by decide)
  ·obtain⟨x,sx,nx,vx,N,h⟩:=gb h N (hR.block);replace vc:=vc.later nx;replace vb:=vb.later nx;exact qv N (zS N.le N.wf (Jj vc (Jj vb (Yj vx))) h) (by decide)
 |false=>
  rw[if_neg (by decide)] at h;exact qv N (zS N.le N.wf (Jj vc (Yj vb)) h) (by decide)
theorem KF{R:xP}(hR:yM R)(t:xT):Gd 0 Vd (ql R t):=by
 intro E s a s' h0 hw h;have N:=Nx.refl h0 hw;unfold ql at h;obtain⟨i,si,ni,vi,N,h⟩:=gb h N (zhk);split at h
 ·obtain⟨nb,vb⟩:=VZ hR N.le N.wf h;exact⟨(N.trans nb).down (by decide),vb⟩
 ·obtain⟨a1,sa1,na1,ha1,N,h⟩:=gm h N;cases a1 with
  |true=>
   rw[if_pos rfl] at h;obtain⟨c,sc,nc,vc,N,h⟩:=gb h N (hR.expr);obtain⟨b,sb,nb,vb,N,h⟩:=gb h N (hR.block);replace vc:=vc.later nb;exact qv N (zS N.le N.wf (Jj vc (Yj vb)) h) (by decide)
  |false=>
  rw[if_neg (by decide)] at h;obtain⟨a2,sa2,na2,ha2,N,h⟩:=gm h N;cases a2 with
  |true=>
   rw[if_pos rfl] at h;obtain⟨c,sc,nc,vc,N,h⟩:=gb h N (hR.expr);obtain⟨l,sl,nl,vl,N,h⟩:=gb h N ((jI (zd0 hR)));replace vc:=vc.later nl;exact qv N (zS N.le N.wf (Jj vc vl) h) (by decide)
  |false=>
  rw[if_neg (by decide)] at h;obtain⟨a3,sa3,na3,ha3,N,h⟩:=gm h N;cases a3 with
  |true=>
   rw[if_pos rfl] at h;obtain⟨l,sl,nl,vl,N,h⟩:=gb h N ((Zl hR));obtain⟨b,sb,nb,vb,N,h⟩:=gb h N (hR.block);replace vl:=vl.later nb;exact qv N (zS N.le N.wf (vda vl vb) h) (by decide)
  |false=>
  rw[if_neg (by decide)] at h;obtain⟨a4,sa4,na4,ha4,N,h⟩:=gm h N;cases a4 with
  |true=>
   rw[if_pos rfl] at h;obtain⟨b,sb,nb,vb,N,h⟩:=gb h N (hR.block);obtain⟨q,sq,nq,vq,N,h⟩:=gb h N (zq);replace vb:=vb.later nq;obtain⟨m,sm,nm,vm,N,h⟩:=gb h N ((yt (by decide)));replace vb:=vb.later nm;obtain⟨c,sc,nc,vc,N,h⟩:=gb h N (hR.block);replace vb:=vb.later nc;exact qv N (zS N.le N.wf (Jj vb (Yj vc)) h) (by decide)
  |false=>
  rw[if_neg (by decide)] at h;obtain⟨a5,sa5,na5,ha5,N,h⟩:=gm h N;cases a5 with
  |true=>
   rw[if_pos rfl] at h;obtain⟨x,sx,nx,vx,N,h⟩:=gb h N (hR.expr);obtain⟨q,sq,nq,vq,N,h⟩:=gb h N (zq);replace vx:=vx.later nq;obtain⟨m,sm,nm,vm,N,h⟩:=gb h N ((yt (by decide)));replace vx:=vx.later nm;obtain⟨b,sb,nb,vb,N,h⟩:=gb h N (hR.block);replace vx:=vx.later nb;obtain⟨r,sr,nr,vr,N,h⟩:=gb h N (zq);replace vx:=vx.later nr;replace vb:=vb.later nr;obtain⟨c,sc,nc,vc,N,h⟩:=gb h N (hR.block);replace vx:=vx.later nc;replace vb:=vb.later nc;exact qv N (zS N.le N.wf (Jj vx (Jj vb (Yj vc))) h) (by decide)
  |false=>
  rw[if_neg (by decide)] at h;obtain⟨a6,sa6,na6,ha6,N,h⟩:=gm h N;cases a6 with
  |true=>
   rw[if_pos rfl] at h;obtain⟨m,sm,nm,vm,N,h⟩:=gb h N ((yt (by decide)));obtain⟨l,sl,nl,vl,N,h⟩:=gb h N ((jI (zdl hR)));exact qv N (zS N.le N.wf (vl) h) (by decide)
  |false=>
  rw[if_neg (by decide)] at h;obtain⟨a7,sa7,na7,ha7,N,h⟩:=gm h N;cases a7 with
  |true=>
   rw[if_pos rfl] at h;obtain⟨k,sk,nk,vk,N,h⟩:=gb h N (hR.kind);obtain⟨q,sq,nq,vq,N,h⟩:=gb h N (zq);replace vk:=vk.later nq;obtain⟨m,sm,nm,vm,N,h⟩:=gb h N ((yt (by decide)));replace vk:=vk.later nm;obtain⟨r,sr,nr,vr,N,h⟩:=gb h N (zq);replace vk:=vk.later nr;exact qv N (zS N.le N.wf (Yj vk) h) (by decide)
  |false=>
  rw[if_neg (by decide)] at h;obtain⟨q,sq,nq,vq,N,h⟩:=gb h N (zq);obtain⟨l,sl,nl,vl,N,h⟩:=gb h N ((Vo hR));exact qv N (zS N.le N.wf (vl) h) (by decide)
theorem zeR{R:xP}(hR:yM R):Gd 0 Vd (Yu R):=by
 intro E s a s' h0 hw h;have N:=Nx.refl h0 hw;unfold Yu at h;obtain⟨t,s0,h1,h⟩:=zt h;cases h1;split at h
 ·rename_i hk;obtain⟨u,s1,h1,h⟩:=zt h;have n1:=kK (qF (k:=3) (by simpa using hk) (by decide)) hw h1;replace N:=N.trans n1;exact qv N (zS N.le N.wf (JC) h) (by decide)
 split at h
 ·rename_i hk;obtain⟨u,s1,h1,h⟩:=zt h;have n1:=kK (qF (k:=4) (by simpa using hk) (by decide)) hw h1;replace N:=N.trans n1;exact qv N (zS N.le N.wf (JC) h) (by decide)
 split at h
 ·rename_i hk;obtain⟨u,s1,h1,h⟩:=zt h;have n1:=kK (qF (k:=1) (by simpa using hk) (by decide)) hw h1;replace N:=N.trans n1;exact qv N (zS N.le N.wf (JC) h) (by decide)
 split at h
 ·rename_i hk;obtain⟨u,s1,h1,h⟩:=zt h;have n1:=kK (qF (k:=2) (by simpa using hk) (by decide)) hw h1;replace N:=N.trans n1;obtain⟨l,sl,nl,vl,N,h⟩:=gb h N ((uK hR.expr));exact qv N (zS N.le N.wf (vl) h) (by decide)
 obtain⟨a1,sa1,na1,ha1,N,h⟩:=gm h N;cases a1 with
 |true=>
  rw[if_pos rfl] at h;obtain⟨a2,sa2,na2,ha2,N,h⟩:=gm h N;cases a2 with
  |true=>
   rw[if_pos rfl] at h;exact qv N (zS N.le N.wf (JC) h) (by decide)
  |false=>
   rw[if_neg (by decide)] at h;obtain⟨x,sx,nx,vx,N,h⟩:=gb h N (hR.expr);obtain⟨q,sq,nq,vq,N,h⟩:=gb h N (zq);replace vx:=vx.later nq;obtain⟨rfl,rfl⟩:=yJ h;exact⟨N.down (by decide),vx⟩
 |false=>
 rw[if_neg (by decide)] at h;obtain⟨a3,sa3,na3,ha3,N,h⟩:=gm h N;cases a3 with
 |true=>
  rw[if_pos rfl] at h;exact qv N (zS N.le N.wf (JC) h) (by decide)
 |false=>
 rw[if_neg (by decide)] at h;obtain⟨a4,sa4,na4,ha4,N,h⟩:=gm h N;cases a4 with
 |true=>
  rw[if_pos rfl] at h;exact qv N (zS N.le N.wf (JC) h) (by decide)
 |false=>
 rw[if_neg (by decide)] at h;have hkt:s.next=sa4.next:=by
  have e1:sa1=s:=by unfold yD at ha1;split at ha1 <;> cases ha1;rfl
  have e3:sa3=sa1:=by unfold yD at ha3;split at ha3 <;> cases ha3;rfl
  have e4:sa4=sa3:=by unfold yD at ha4;split at ha4 <;> cases ha4;rfl
  rw[e4,e3,e1]
 cases hw9:vo (zT E s).text with
 |some w=>
  rw[hw9] at h;simp only at h;split at h
  ·rename_i hk;obtain⟨u,s1,h1,h⟩:=zt h;have hlt:=qF (k:=5) (by simpa using hk) (by decide);have n1:=kK (by omega) N.wf h1;replace N:=N.trans n1;obtain⟨nb,vb⟩:=zh6 hR _ w N.le N.wf h;exact⟨(N.trans nb).down (by decide),vb⟩
  ·obtain⟨nb,vb⟩:=KF hR _ N.le N.wf h;exact⟨(N.trans nb).down (by decide),vb⟩
 |none=>
  rw[hw9] at h;obtain⟨nb,vb⟩:=KF hR _ N.le N.wf h;exact⟨(N.trans nb).down (by decide),vb⟩
theorem zaA{R:xP}(hR:yM R):∀(n:Nat) (left:Int) {E:zH} {s:yI} {a:Int} {s':yI},s.next<=E.toks.length->WFs s->Vd s left->Ys R n left E s=.ok a s'->Nx E 0 s s'/\Vd s' a
 |0,_,_,_,_,_,_,_,_,h=>by cases h
 |n+1,left,E,s,a,s',h0,hw,vl,h=>by
  have N:=Nx.refl h0 hw;unfold Ys at h;obtain⟨t,s1,h1,h⟩:=zt h;cases h1;obtain⟨a1,sa1,na1,ha1,N,h⟩:=gm h N;replace vl:=vl.later na1;cases a1 with
  |true=>
   rw[if_pos rfl] at h;obtain⟨m,sm,nm,vm,N,h⟩:=gb h N ((yt (by decide)));replace vl:=vl.later nm;obtain⟨x,s9,h9,h⟩:=zt h;obtain⟨nz,vz⟩:=zS N.le N.wf (Yj vl) h9;replace N:=N.trans nz;obtain⟨n4,v4⟩:=zaA hR n x N.le N.wf vz h;exact⟨(N.trans n4).down (by decide),v4⟩
  |false=>
  rw[if_neg (by decide)] at h;obtain⟨a2,sa2,na2,ha2,N,h⟩:=gm h N;replace vl:=vl.later na2;cases a2 with
  |true=>
   rw[if_pos rfl] at h;obtain⟨k,sk,nk,vk,N,h⟩:=gb h N ((Ql hR.expr));replace vl:=vl.later nk;obtain⟨q,sq,nq,vq,N,h⟩:=gb h N (zq);replace vl:=vl.later nq;replace vk:=vk.later nq;obtain⟨x,s9,h9,h⟩:=zt h;obtain⟨nz,vz⟩:=zS N.le N.wf (Jj vl vk) h9;replace N:=N.trans nz;obtain⟨n4,v4⟩:=zaA hR n x N.le N.wf vz h;exact⟨(N.trans n4).down (by decide),v4⟩
  |false=>
  rw[if_neg (by decide)] at h;obtain⟨rfl,rfl⟩:=yJ h;exact⟨N.down (by decide),vl⟩
theorem JD{R:xP}(hR:yM R):Gd 0 Vd (Zm R):=by
 intro E s a s' h0 hw h;have N:=Nx.refl h0 hw;unfold Zm at h;obtain⟨b,s1,h1,h⟩:=zt h;cases h1;split at h
 ·rename_i hb;obtain⟨t,s2,h2,h⟩:=zt h;have n2:=kJ (vC hb) hw h2;replace N:=N.trans n2;obtain⟨x,sx,nx,vx,N,h⟩:=gb h N (hR.unary);exact qv N (zS N.le N.wf (Yj vx) h) (by decide)
 ·obtain⟨l,sl,nl,vl,N,h⟩:=gb h N ((zeR hR));obtain⟨n4,v4⟩:=zaA hR _ l N.le N.wf vl h;exact⟨(N.trans n4).down (by decide),v4⟩
theorem zeP{R:xP}(hR:yM R):Gd 0 Vd (zjk R):=Qt (JD hR) 4
theorem zeQ{R:xP}(hR:yM R):Gd 0 Vd (VR R):=Qt (zeP hR) 3
theorem Jv{R:xP}(hR:yM R):Gd 0 Vd (XD R):=by
 intro E s a s' h0 hw h;have N:=Nx.refl h0 hw;unfold XD at h;obtain⟨b,s1,h1,h⟩:=zt h;cases h1;split at h
 ·rename_i hb;obtain⟨t,s2,h2,h⟩:=zt h;have n2:=kJ (vC hb) hw h2;replace N:=N.trans n2;obtain⟨x,sx,nx,vx,N,h⟩:=gb h N (hR.bin2);exact qv N (zS N.le N.wf (Yj vx) h) (by decide)
 ·obtain⟨n4,v4⟩:=Qt (zeQ hR) 2 N.le N.wf h;exact⟨(N.trans n4).down (by decide),v4⟩
theorem zi0{R:xP}(hR:yM R):Gd 0 Vd (zhp R):=Qt (Qt (Jv hR) 1) 0
theorem zdu{R:xP}(hR:yM R):Gd 0 Vd (kY R):=by
 intro E s a s' h0 hw h;have N:=Nx.refl h0 hw;unfold kY at h;obtain⟨t,s0,h1,h⟩:=zt h;cases h1;split at h
 ·rename_i hk;obtain⟨u,s1,h1,h⟩:=zt h;have n1:=kK (qF (k:=1) (by simpa using hk) (by decide)) hw h1;replace N:=N.trans n1;exact qv N (zS N.le N.wf (JC) h) (by decide)
 split at h
 ·rename_i hk;obtain⟨u,s1,h1,h⟩:=zt h;have n1:=kK (qF (k:=3) (by simpa using hk) (by decide)) hw h1;replace N:=N.trans n1;exact qv N (zS N.le N.wf (JC) h) (by decide)
 split at h
 ·rename_i hk;obtain⟨u,s1,h1,h⟩:=zt h;have n1:=kK (qF (k:=4) (by simpa using hk) (by decide)) hw h1;replace N:=N.trans n1;exact qv N (zS N.le N.wf (JC) h) (by decide)
 split at h
 ·rename_i hk;obtain⟨u,s1,h1,h⟩:=zt h;have n1:=kK (qF (k:=2) (by simpa using hk) (by decide)) hw h1;replace N:=N.trans n1;obtain⟨l,sl,nl,vl,N,h⟩:=gb h N ((uK hR.pattern));exact qv N (zS N.le N.wf (vl) h) (by decide)
 obtain⟨a1,sa1,na1,ha1,N,h⟩:=gm h N;cases a1 with
 |true=>
  rw[if_pos rfl] at h;exact qv N (zS N.le N.wf (JC) h) (by decide)
 |false=>
 rw[if_neg (by decide)] at h;obtain⟨a2,sa2,na2,ha2,N,h⟩:=gm h N;cases a2 with
 |true=>
  rw[if_pos rfl] at h;exact qv N (zS N.le N.wf (JC) h) (by decide)
 |false=>
 rw[if_neg (by decide)] at h;obtain⟨q,sq,nq,vq,N,h⟩:=gb h N (zq);obtain⟨m,sm,nm,vm,N,h⟩:=gb h N ((yt (by decide)));exact qv N (zS N.le N.wf (JC) h) (by decide)
theorem YZ{α:Type}{d:Int}{Q:yI->α->Prop}{m:PM α}(hm:∀E s,m E s=.bad 0):Gd d Q m:=by
 intro E s a s' _ _ h;rw[hm] at h;cases h
theorem zeI:yM zji:=⟨YZ fun _ _=>rfl,YZ fun _ _=>rfl,YZ fun _ _=>rfl,YZ fun _ _=>rfl,YZ fun _ _=>rfl,YZ fun _ _=>rfl,YZ fun _ _=>rfl⟩
theorem jY:∀n,yM (YJ n)
 |0=>zeI
 |n+1=>⟨zi0 (jY n),JD (jY n),Jv (jY n),zhA (jY n),VZ (jY n),ziJ (jY n),zdu (jY n)⟩
theorem Nx.adv{E:zH}{d:Int}{s s':yI}(n:Nx E d s s'):(s.next:Int)+d<=s'.next:=by
 obtain⟨r,hr⟩:=n.pre;have:=n.cr;rw[hr,pM] at this;omega
structure zQ where
 nodes:List Nd
 items:List Int
 deriving DecidableEq
inductive xd where
 |expr|stmt|type|pattern|way|item|els|JX
 |one (k:Nat)
 deriving DecidableEq
def yC(k:Nat):Bool:=decide (1<=k) && decide (k<=51) && k != 27 && k != 32 && k != 28
def xd.is:xd->Nat->Bool
 | .expr,k=>yC k
 | .stmt,k=>(decide (60<=k) && decide (k<=62)) || yC k
 | .type,k=>decide (80<=k) && decide (k<=87)
 | .pattern,k=>decide (66<=k) && decide (k<=70)
 | .way,k=>decide (63<=k) && decide (k<=65)
 | .item,k=>decide (100<=k) && decide (k<=104)
 | .els,k=>k == 28 || k == 29
 | .JX,k=>k == 5 || k == 23
 | .one j,k=>k == j
structure xg where
 first:List xd
 more:Option xd
 least:Nat
 last:List xd
 deriving DecidableEq
def uO(l:List xd):xg:=⟨l,none,0,[]⟩
def zP(k:Nat):Option xg:=
 if [1,2,3,4,5,44,45,46,80,81,82,83,84,66,67,68,69].contains k then some (uO [])
 else if [6,7,23,27,37,38,39,42,43,47,50,51,60,61,65].contains k then some (uO [.expr])
 else if [41,48,63].contains k then some (uO [.expr,.expr])
 else if [49,64].contains k then some (uO [.expr,.expr,.expr])
 else if k == 24 then some ⟨[.expr],some .expr,0,[]⟩
 else if k == 25 then some ⟨[],some .expr,0,[]⟩
 else if k == 26 then some ⟨[],some (.one 27),1,[]⟩
 else if k == 28 then some ⟨[],some .stmt,0,[]⟩
 else if k == 29 then some ⟨[.expr,.one 28],some .els,0,[]⟩
 else if k == 30 then some (uO [.expr,.one 28])
 else if k == 31 then some ⟨[.expr],some (.one 32),1,[]⟩
 else if k == 32 then some (uO [.pattern,.expr])
 else if k == 33 || k == 102 then some ⟨[],some (.one 88),0,[.type,.one 28]⟩
 else if k == 34 then some (uO [.one 28,.one 28])
 else if k == 35 then some ⟨[],some .way,1,[]⟩
 else if k == 36 then some (uO [.expr,.one 28,.one 28])
 else if k == 40 || k == 86 || k == 87 || k == 88 then some (uO [.type])
 else if k == 62 then some (uO [.JX,.expr])
 else if k == 70 then some ⟨[],some .pattern,0,[]⟩
 else if k == 85 then some ⟨[],some .type,0,[.type]⟩
 else if k == 89 then some ⟨[],some .type,0,[]⟩
 else if k == 100 then some ⟨[],some (.one 88),1,[]⟩
 else if k == 101 then some ⟨[],some (.one 89),1,[]⟩
 else if k == 103 then some ⟨[],some (.one 88),0,[.type]⟩
 else if k == 104 then some (uO [.type,.expr])
 else if decide (8<=k) && decide (k<=22) then some (uO [.expr,.expr])
 else none
def xg.at_(s:xg)(k many:Nat):Option xd:=
 if k<s.first.length then s.first[k]?
 else if many<=k+s.last.length then s.last[k+s.last.length-many]?
 else s.more
def xg.fits(s:xg)(many:Nat):Bool:=
 decide (s.first.length+s.last.length+s.least<=many) && (s.more.isSome || decide (many=s.first.length+s.last.length))
def xU(k:Nat):Nat:=
 if k == 2 || k == 68 then 4
 else if [25,26,84,70,89,100,101].contains k then 2
 else if [5,23,27,66,88,60,61,34,36,63,102,103,104].contains k then 1
 else 0
def xj(k:Nat):Int×Int:=
 if k == 1 || k == 40 then (0,1000000000)
 else if k == 67 then (-1000000000,1000000000)
 else if k == 3 || k == 69 || k == 28 || k == 102 then (0,1)
 else (0,0)
def kL(x:Nd):Bool:=
 if x.n<(xj x.kind).1\/(xj x.kind).2<x.n\/x.at_<0\/3000<x.at_ then false
 else if xU x.kind == 0 then x.text == []
 else (xR (xU x.kind) x.text).2 == 0
def zE(l:List Nd)(k:Int):Nat:=(l[k.toNat]?).elim 0 Nd.kind
def xy(l:List Nd)(x:Nd):Bool:=
 if x.kids.any fun k=>decide (k<0) || decide ((l.length:Int)<=k) then false
 else if x.kind == 28 then x.n == 0 || (match x.kids.getLast? with|some k=>yC (zE l k)|none=>false)
 else if x.kind == 29 then decide (x.kids.length<=3)
 else if x.kind == 35 then decide (x.kids.length<=(x.kids.findIdx fun k=>zE l k == 65)+1)
 else true
def uQ(g:Int->Int->xd->Option Int)(h:xg)(many:Nat):List Int->Int->Option Int
 |[],next=>some next
 |k :: r,next=>match h.at_ r.length many with
  |none=>none
  |some s=>(g next k s).bind (uQ g h many r)
def qB(l:List Nd):Nat->Int->Int->xd->Option Int
 |0,_,_,_=>none
 |f+1,next,number,s=>
  if next<0\/number≠next then none else
  match l[number.toNat]? with
  |none=>none
  |some x=>match zP x.kind with
   |none=>none
   |some h=>if s.is x.kind && kL x && h.fits x.kids.length && xy l x then uQ (qB l f) h x.kids.length x.kids.reverse (next-1) else none
def ZS(l:List Nd):List Int->Int->Option Int
 |[],next=>some next
 |k :: r,next=>(qB l (l.length+1) next k .item).bind (ZS l r)
def je(t:zQ):Bool:=match ZS t.nodes t.items.reverse ((t.nodes.length:Int)-1) with
 |some next=>decide (next<0)
 |none=>false
def xr(d:Nat):List Int->List Nat->List Nat
 |[],deep=>deep
 |k :: r,deep=>xr d r (deep.set k.toNat (d+1))
def Yx(l:List Nd):Nat->List Nat->Nat->Nat
 |0,_,most=>most
 |i+1,deep,most=>Yx l i (xr (deep.getD i 0) ((l[i]?).elim [] Nd.kids) deep) (max most (deep.getD i 0))
def ke(t:zQ):Nat:=Yx t.nodes t.nodes.length (t.items.foldl (fun d k=>d.set k.toNat 1) (List.replicate t.nodes.length 0)) 0
def qZ(k:Nat):Nat:=
 if k == 102 || k == 33 then 8
 else if k == 103 || k == 85 || k == 24 then 7
 else if k == 100 || k == 26 then 6
 else if k == 101 then 8
 else if k == 89 || k == 25 || k == 70 then 4
 else if k == 31 then 13
 else if k == 35 then 4
 else 1000
def xJ(x:Nd):Bool:=if x.kind == 40 then decide (1<=x.n) && decide (x.n<=8) else decide (x.kids.length<=qZ x.kind)
def zW(t:zQ):Nat:=
 if 1000<t.nodes.length\/40<t.items.length then 5
 else if !je t then 4
 else if 40<ke t then 5
 else if t.nodes.any fun x=> !xJ x then 3
 else 0
def Xb{α:Type}(p:α->Bool)(l:List α):Int:=match l.findIdx? p with
 |some i=>i
 |none=> -1
def upT(t:zQ)(node:Int):Int:=Xb (fun x=>x.kids.contains node) t.nodes
def zgk(t:zQ):Nat->Int->List Int->List Int
 |0,_,acc=>acc
 |f+1,at_,acc=>if at_<0 then acc else zgk t f (upT t at_) (at_ :: acc)
def zgj(t:zQ)(node:Int):List Int:=zgk t (t.nodes.length+1) node []
def QD(l:List Nd):Nat->Int->Int
 |0,_=>0
 |f+1,node=>((l[node.toNat]?).elim [] Nd.kids).foldl (fun n k=>n+QD l f k) 1
def zek(t:zQ)(node:Int):Int:=QD t.nodes (t.nodes.length+1) node
def VV{α:Type}(t:zQ)(node:Int)(of:zQ->Int->α)(d:α):α×Nat:=
 if zW t≠0 then (d,zW t)
 else if node<0\/(t.nodes.length:Int)<=node then (d,7)
 else (of t node,0)
def zaG(t:zQ)(node:Int):Int×Nat:=VV t node upT 0
def zgX(t:zQ)(node:Int):List Int×Nat:=VV t node zgj []
def zc4(t:zQ)(node:Int):Int×Nat:=VV t node zek 0
def za2(t:zQ)(p:Int):Int×Nat:=
 if zW t≠0 then (0,zW t)
 else if Xb (fun x=>x.at_ == p) t.nodes<0 then (0,7)
 else (Xb (fun x=>x.at_ == p) t.nodes,0)
def yZ(s:List UInt8):zQ×Int×Nat:=
 match vw s with
 |(l,at_,e)=>if e≠0 then (⟨[],[]⟩,at_,e) else
  match vX l s.length with
  | .bad p=>(⟨[],[]⟩,p,4)
  | .ok _ st=>
   if 1000<st.nodes.length\/40<st.items.length\/40<ke ⟨st.nodes,st.items⟩ then (⟨[],[]⟩,0,5)
   else match st.nodes.find? fun x=> !xJ x with
    |some x=>(⟨[],[]⟩,x.at_,3)
    |none=>(⟨st.nodes,st.items⟩,0,0)
def yO(k:Nat):Option (List UInt8):=
 if k == 22 then some [111,114] else if k == 21 then some [97,110,100]
 else if k == 14 then some [61,61] else if k == 15 then some [33,61] else if k == 16 then some [60] else if k == 17 then some [60,61] else if k == 18 then some [62] else if k == 19 then some [62,61] else if k == 20 then some [105,115]
 else if k == 8 then some [43] else if k == 9 then some [45] else if k == 10 then some [43,43]
 else if k == 11 then some [42] else if k == 12 then some [47] else if k == 13 then some [37]
 else none
def yR(k:Nat):Nat:=
 if k == 22 then 1 else if k == 21 then 2 else if decide (14<=k) && decide (k<=20) then 4
 else if k == 8 || k == 9 || k == 10 then 5 else if k == 11 || k == 12 || k == 13 then 6
 else if k == 7 then 3 else if k == 6 || k == 37 || k == 38 || k == 39 then 7
 else if k == 23 || k == 24 then 8 else 9
def kH:List (List UInt8)->List UInt8
 |[]=>[]
 |[x]=>x
 |x :: r=>x ++ [44,32] ++ kH r
section
variable (l:List Nd) (pr:Int→List UInt8)
def xD(node:Int)(least:Nat):List UInt8:=if yR (zE l node)<least then [40] ++ pr node ++ [41] else pr node
def qA(k:List Int):List UInt8:=kH (k.map pr)
def vG(k:List Int):List UInt8:=if k=[] then [] else [40] ++ qA pr k ++ [41]
def xY(last:Bool):List Int->List UInt8
 |[]=>[]
 |[k]=>pr k ++ (if last then [] else [59]) ++ [32]
 |k :: r=>pr k ++ [59] ++ [32] ++ xY last r
def ZZ(x:Nd):List UInt8:=if x.kids=[] then [123,125] else [123,32] ++ xY pr (x.n != 0) x.kids ++ [125]
def zG(x:Nd)(i:Nat):Int:=x.kids.getD i 0
def yV(x:Nd)(without:Nat):List UInt8:=[40] ++ qA pr (x.kids.take (x.kids.length-1-without)) ++ [41,58,32] ++ pr (zG x (x.kids.length-1-without))
def xQ(x:Nd):List UInt8:=
 if x.kind == 60 then [108,101,116,32] ++ x.text ++ [32,61,32] ++ pr (zG x 0)
 else if x.kind == 61 then [118,97,114,32] ++ x.text ++ [32,61,32] ++ pr (zG x 0)
 else if x.kind == 62 then pr (zG x 0) ++ [32,58,61,32] ++ pr (zG x 1)
 else if x.kind == 63 then [114,101,99,118,32] ++ pr (zG x 0) ++ [32,97,115,32] ++ x.text ++ [32,61,62,32] ++ pr (zG x 1)
 else if x.kind == 64 then [115,101,110,100,32] ++ qA pr (x.kids.take 2) ++ [32,61,62,32] ++ pr (zG x 2)
 else [101,108,115,101,32,61,62,32] ++ pr (zG x 0)
def yv(x:Nd):List UInt8:=
 if x.kind == 80 then [105,110,116] else if x.kind == 81 then [98,111,111,108] else if x.kind == 82 then [116,101,120,116] else if x.kind == 83 then [117,110,105,116]
 else if x.kind == 85 then [102,110] ++ yV pr x 0
 else if x.kind == 86 then [99,104,97,110,32] ++ pr (zG x 0)
 else if x.kind == 87 then [119,101,97,107,32] ++ pr (zG x 0)
 else if x.kind == 88 then x.text ++ [58,32] ++ pr (zG x 0)
 else if x.kind == 100 then [99,108,97,115,115,32] ++ x.text ++ [32,123,32] ++ qA pr x.kids ++ [32,125]
 else if x.kind == 101 then [107,105,110,100,32] ++ x.text ++ [32,123,32] ++ qA pr x.kids ++ [32,125]
 else if x.kind == 103 then [101,120,116,101,114,110,32,102,117,110,32] ++ x.text ++ yV pr x 0 ++ [59]
 else if x.kind == 104 then [114,111,111,116,32] ++ x.text ++ [58,32] ++ pr (zG x 0) ++ [32,61,32] ++ pr (zG x 1) ++ [59]
 else (if x.n == 1 then [112,117,114,101,32] else []) ++ ([102,117,110,32] ++ x.text ++ yV pr x 1 ++ [32] ++ pr (zG x (x.kids.length-1)))
def zJ(x:Nd):List UInt8:=
 if x.kind == 29 then [105,102,32] ++ pr (zG x 0) ++ [32] ++ pr (zG x 1) ++ (if x.kids.length == 3 then [32,101,108,115,101,32] ++ pr (zG x 2) else [])
 else if x.kind == 30 then [119,104,105,108,101,32] ++ pr (zG x 0) ++ [32] ++ pr (zG x 1)
 else if x.kind == 31 then [109,97,116,99,104,32] ++ pr (zG x 0) ++ [32,123,32] ++ qA pr (x.kids.drop 1) ++ [32,125]
 else if x.kind == 32 then pr (zG x 0) ++ [32,61,62,32] ++ pr (zG x 1)
 else if x.kind == 33 then [102,110] ++ yV pr x 1 ++ [32] ++ pr (zG x (x.kids.length-1))
 else if x.kind == 34 then [116,114,121,32] ++ pr (zG x 0) ++ [32,99,97,116,99,104,32] ++ x.text ++ [32] ++ pr (zG x 1)
 else if x.kind == 35 then [115,101,108,101,99,116,32,123,32] ++ qA pr x.kids ++ [32,125]
 else if x.kind == 36 then [104,111,108,100,32] ++ pr (zG x 0) ++ [32,97,115,32] ++ x.text ++ [32] ++ pr (zG x 1) ++ [32,101,108,115,101,32] ++ pr (zG x 2)
 else if x.kind == 26 then [110,101,119,32] ++ x.text ++ [32,123,32] ++ qA pr x.kids ++ [32,125]
 else if x.kind == 27 then x.text ++ [58,32] ++ pr (zG x 0)
 else [99,104,97,110,32] ++ pr (zG x 0) ++ [40] ++ Go.Lib.itoa x.n ++ [41]
def zF(x:Nd):List UInt8:=
 match yO x.kind with
 |some sign=>xD l pr (zG x 0) (if yR x.kind == 4 then 5 else yR x.kind) ++ [32] ++ sign ++ [32] ++ xD l pr (zG x 1) (yR x.kind+1)
 |none=>
  if x.kind == 1 || x.kind == 67 then Go.Lib.itoa x.n
  else if x.kind == 2 || x.kind == 68 then (xX x.text).1
  else if x.kind == 3 || x.kind == 69 then (if x.n == 1 then [116,114,117,101] else [102,97,108,115,101])
  else if x.kind == 4 then [40,41]
  else if x.kind == 5 || x.kind == 66 || x.kind == 84 then x.text
  else if x.kind == 6 then (if zE l (zG x 0) == 6 then [45,32] ++ pr (zG x 0) else [45] ++ xD l pr (zG x 0) 7)
  else if x.kind == 7 then [110,111,116,32] ++ xD l pr (zG x 0) 3
  else if x.kind == 23 then xD l pr (zG x 0) 8 ++ [46] ++ x.text
  else if x.kind == 24 then (if zE l (zG x 0) == 25 && ((l[(zG x 0).toNat]?).elim [] Nd.kids).isEmpty then [40] ++ xD l pr (zG x 0) 8 ++ [41] else xD l pr (zG x 0) 8) ++ [40] ++ qA pr (x.kids.drop 1) ++ [41]
  else if x.kind == 25 || x.kind == 70 || x.kind == 89 then x.text ++ vG pr x.kids
  else if x.kind == 28 then ZZ pr x
  else match ya.find? fun w=>w.2.1 == x.kind with
   |some w=>if w.2.2<0 then w.1 ++ [32] ++ xD l pr (zG x 0) 7 else if w.2.2 == 0 then w.1 else w.1 ++ [40] ++ qA pr x.kids ++ [41]
   |none=>
    if decide (60<=x.kind) && decide (x.kind<=65) then xQ pr x
    else if 80<=x.kind then yv pr x
    else zJ pr x
end
def prN(l:List Nd):Nat->Int->List UInt8
 |0,_=>[]
 |f+1,node=>match l[node.toNat]? with
  |some x=>zF l (prN l f) x
  |none=>[]
def prT(t:zQ)(node:Int):List UInt8:=prN t.nodes (t.nodes.length+1) node
def ZN(s:List UInt8):List UInt8×Nat:=if (vw s).2.2≠0 then ([],5) else (s,0)
def YL(t:zQ):List UInt8×Nat:=if zW t≠0 then ([],zW t) else ZN (t.items.flatMap fun k=>prT t k ++ [10])
def ui(s:List UInt8):List UInt8×Int×Nat:=match yZ s with
 |(t,at_,e)=>if e≠0 then ([],at_,e) else ((YL t).1,0,(YL t).2)
def kj(k:Nat):Nat×Nat:=
 if [1,2,3,4,5,44,45,46,66,67,68,69,80,81,82,83,84].contains k then (0,0)
 else if [6,7,23,27,37,38,39,40,42,43,47,50,51,60,61,65,86,87,88].contains k then (1,1)
 else if [49,64,36].contains k then (3,3)
 else if k == 29 then (2,3)
 else if [24,26,35,85,103,100,101].contains k then (1,2000)
 else if [31,33,102].contains k then (2,2000)
 else if [25,28,70,89].contains k then (0,2000)
 else (2,2)
def yN(k:Nat)(n:Int)(m i kd:Nat):Bool:=
 if k == 100 then kd == 88
 else if k == 101 then kd == 89
 else if k == 26 then kd == 27
 else if k == 70 then xd.pattern.is kd
 else if k == 88 || k == 89 || k == 85 || k == 86 || k == 87 || k == 40 then xd.type.is kd
 else if k == 103 then (decide (i+1<m) && kd == 88) || (decide (i+1=m) && xd.type.is kd)
 else if k == 102 || k == 33 then (decide (i+2<m) && kd == 88) || (decide (i+2=m) && xd.type.is kd) || (decide (i+1=m) && kd == 28)
 else if k == 104 then (decide (i=0) && xd.type.is kd) || (decide (i=1) && yC kd)
 else if k == 28 then xd.stmt.is kd && (decide (i+1<m) || n == 0 || yC kd)
 else if k == 62 then (decide (i=1) && yC kd) || (decide (i=0) && (kd == 5 || kd == 23))
 else if k == 29 then (decide (i=0) && yC kd) || (decide (0<i) && kd == 28) || (decide (i=2) && kd == 29)
 else if k == 30 || k == 36 then (decide (i=0) && yC kd) || (decide (0<i) && kd == 28)
 else if k == 34 then kd == 28
 else if k == 31 then (decide (i=0) && yC kd) || (decide (0<i) && kd == 32)
 else if k == 32 then (decide (i=0) && xd.pattern.is kd) || (decide (i=1) && yC kd)
 else if k == 35 then xd.way.is kd && (decide (i+1=m) || kd != 65)
 else yC kd
def zu(k:Nat)(n:Int)(m:Nat):Bool:=
 if k == 1 || k == 40 then decide (0<=n) && decide (n<=1000000000)
 else if k == 67 then decide (-1000000000<=n) && decide (n<=1000000000)
 else if k == 3 || k == 69 || k == 102 then n == 0 || n == 1
 else if k == 28 then n == 0 || (n == 1 && decide (0<m))
 else n == 0
def qm(k:Nat):Bool:=(decide (1<=k) && decide (k<=51)) || (decide (60<=k) && decide (k<=70)) || (decide (80<=k) && decide (k<=89)) || (decide (100<=k) && decide (k<=104))
def qT(x:Nd):Bool:=if xU x.kind == 0 then x.text == [] else (xR (xU x.kind) x.text).2 == 0
def ye(l:List Nd)(x:Nd):Bool:=
 qm x.kind && decide ((kj x.kind).1<=x.kids.length) && decide (x.kids.length<=(kj x.kind).2) && zu x.kind x.n x.kids.length && decide (0<=x.at_) && decide (x.at_<=3000) && qT x &&
 (List.range x.kids.length).all fun i=>yN x.kind x.n x.kids.length i (zE l (x.kids.getD i 0))
def qY(h:xg)(m i kd:Nat):Bool:=match h.at_ i m with
 |some s=>s.is kd
 |none=>false
def xC(l:List Nd)(x:Nd):Bool:=match zP x.kind with
 |none=>false
 |some h=>kL x && h.fits x.kids.length && xy l x && (List.range x.kids.length).all fun i=>qY h x.kids.length i (zE l (x.kids.getD i 0))
theorem uq{k:Nat}(h:qm k=true):k<=104:=by
 simp only[qm,wL,pJ,pK] at h;omega
theorem zch:∀k,k<=104->(zP k).isSome=qm k:=by decide +kernel
theorem zc7{k:Nat}(h:¬k<=104):zP k=none:=by
 have h2:∀(l:List Nat),(∀x∈l,x<=104)->l.contains k=false:=fun l hl=>by
  rw[Bool.eq_false_iff];intro hc;rw[List.contains_iff_mem] at hc;exact h (hl k hc)
 have h3:∀j,j<=104->(k == j)=false:=fun j hj=>by rw[pC];omega
 unfold zP;rw[h2 _ (by decide),h2 _ (by decide),h2 _ (by decide),h2 _ (by decide)];simp only[h3 24 (by decide),h3 25 (by decide),h3 26 (by decide),h3 28 (by decide),h3 29 (by decide),h3 30 (by decide),h3 31 (by decide),h3 32 (by decide),h3 33 (by decide),h3 102 (by decide),h3 34 (by decide),h3 35 (by decide),h3 36 (by decide),h3 40 (by decide),h3 86 (by decide),h3 87 (by decide),h3 88 (by decide),h3 62 (by decide),h3 70 (by decide),h3 85 (by decide),h3 89 (by decide),h3 100 (by decide),h3 101 (by decide),h3 103 (by decide),h3 104 (by decide)];rw[show decide (k<=22)=false from by rw[wX];omega];simp
theorem QE(k:Nat):(zP k).isSome=qm k:=by
 by_cases h:k<=104
 ·exact zch k h
 ·rw[zc7 h];cases hk:qm k with
  |true=>exact absurd (uq hk) h
  |false=>rfl
theorem Zj(x:Nd):kL x=((decide ((xj x.kind).1<=x.n) && decide (x.n<=(xj x.kind).2)) && (decide (0<=x.at_) && decide (x.at_<=3000)) && qT x):=by
 unfold kL qT;by_cases h:x.n<(xj x.kind).1\/(xj x.kind).2<x.n\/x.at_<0\/3000<x.at_
 ·rw[if_pos h];symm;rw[Bool.and_eq_false_iff];left;rw[Bool.and_eq_false_iff,Bool.and_eq_false_iff,Bool.and_eq_false_iff];simp only[wX];omega
 ·rw[if_neg h];have h1:decide ((xj x.kind).1<=x.n)=true:=by rw[pK];omega
  have h2:decide (x.n<=(xj x.kind).2)=true:=by rw[pK];omega
  have h3:decide (0<=x.at_)=true:=by rw[pK];omega
  have h4:decide (x.at_<=3000)=true:=by rw[pK];omega
  rw[h1,h2,h3,h4];simp
theorem jx{m:Nat}{p q:Nat->Bool}(h:∀i,i<m->p i=q i):(List.range m).all p=(List.range m).all q:=by
 rw[pS,pV,pV];constructor <;> (intro hh i hi;have:=hh i hi;have e:=h i (List.mem_range.1 hi);simp_all)
theorem zgF{l:List Nd}{x:Nd}{h:xg}(hs:zP x.kind=some h)(hsp:xy l x=true)
 (hf:h.fits x.kids.length=(decide ((kj x.kind).1<=x.kids.length) && decide (x.kids.length<=(kj x.kind).2)))
 (hb:(decide ((xj x.kind).1<=x.n) && decide (x.n<=(xj x.kind).2))=zu x.kind x.n x.kids.length)
 (hd:h.fits x.kids.length=true->∀i,i<x.kids.length->∀kd,qY h x.kids.length i kd=yN x.kind x.n x.kids.length i kd):xC l x=ye l x:=by
 have hk:qm x.kind=true:=by rw[<-QE,hs];rfl
 unfold xC ye;rw[hs];simp only[hsp,hk,Zj,hb,<-hf,Bool.true_and,Bool.and_true];cases hfit:h.fits x.kids.length with
 |false=>
  simp
 |true=>
  rw[jx (fun i hi=>hd hfit i hi _)];simp only[Bool.true_and,Bool.and_true];generalize zu x.kind x.n x.kids.length=a;generalize decide (0<=x.at_)=b;generalize decide (x.at_<=3000)=c;generalize qT x=d;cases a <;> cases b <;> cases c <;> cases d <;> simp
def InR(l:List Nd)(x:Nd):Prop:=∀k∈x.kids,0<=k/\k<(l.length:Int)
theorem uY{l:List Nd}{x:Nd}(h:InR l x):(x.kids.any fun k=>decide (k<0) || decide ((l.length:Int)<=k))=false:=by
 rw[List.any_eq_false];intro k hk;have:=h k hk;simp;omega
theorem KT{l:List Nd}{x:Nd}(h:InR l x)(h1:x.kind≠28)(h2:x.kind≠29)(h3:x.kind≠35):xy l x=true:=by
 unfold xy;rw[uY h];simp[h1,h2,h3]
theorem VU(l:List xd)(m:Nat):(uO l).fits m=decide (m=l.length):=by
 unfold xg.fits uO;rw[pS];simp;omega
theorem ZI(k:Nat)(n:Int)(m:Nat)(h:k≠28):(decide ((xj k).1<=n) && decide (n<=(xj k).2))=zu k n m:=by
 have h28:(k == 28)=false:=bfE h
 unfold xj zu;rw[h28];by_cases h1:(k == 1 || k == 40)=true
 ·rw[if_pos h1,if_pos h1]
 ·rw[if_neg h1,if_neg h1];by_cases h2:(k == 67)=true
  ·rw[if_pos h2,if_pos h2]
  ·rw[if_neg h2,if_neg h2];by_cases h3:(k == 3 || k == 69 || k == 102)=true
   ·have h4:(k == 3 || k == 69 || false || k == 102)=true:=by simpa using h3
    rw[if_pos h3,if_pos h4,pS];simp;omega
   ·have h4:¬(k == 3 || k == 69 || false || k == 102)=true:=by simpa using h3
    rw[if_neg h3,if_neg h4,if_neg (by decide),pS];simp;omega
theorem uR(f:List xd)(s:xd)(least:Nat)(la:List xd)(m:Nat):(xg.mk f (some s) least la).fits m=decide (f.length+la.length+least<=m):=by
 unfold xg.fits;simp
theorem Vr{l:List Nd}{x:Nd}(hin:InR l x)(h:xg)(ks:List Nat)(hk:x.kind∈ks)(h1:∀k∈ks,zP k=some h)(h2:∀k∈ks,k≠28/\k≠29/\k≠35)(hf:∀k∈ks,h.fits x.kids.length=(decide ((kj k).1<=x.kids.length) && decide (x.kids.length<=(kj k).2)))(hd:∀k∈ks,h.fits x.kids.length=true->∀i,i<x.kids.length->∀kd,qY h x.kids.length i kd=yN k x.n x.kids.length i kd):xC l x=ye l x:=
 zgF (h1 _ hk) (KT hin (h2 _ hk).1 (h2 _ hk).2.1 (h2 _ hk).2.2) (hf _ hk) (ZI _ _ _ (h2 _ hk).1) (hd _ hk)
theorem jS{l:List Nd}{x:Nd}(hin:InR l x)(ls:List xd)(ks:List Nat)(hk:x.kind∈ks)(h1:∀k∈ks,zP k=some (uO ls))(h2:∀k∈ks,k≠28/\k≠29/\k≠35)(h3:∀k∈ks,kj k=(ls.length,ls.length))(h4:∀k∈ks,∀(n:Int) (i kd:Nat),i<ls.length->qY (uO ls) ls.length i kd=yN k n ls.length i kd):xC l x=ye l x:=
 Vr hin (uO ls) ks hk h1 h2 (fun k hk=>by
  rw[h3 k hk,VU];generalize x.kids.length=m;rw[pS];simp;omega) (fun k hk hf i hi kd=>by
  rw[VU,pK] at hf;rw[hf] at hi ⊢;exact h4 k hk _ i kd hi)
theorem xG{l:List Nd}{x:Nd}(hin:InR l x)(hk:x.kind∈[1,2,3,4,5,44,45,46,80,81,82,83,84,66,67,68,69]\/x.kind∈[6,7,23,27,37,38,39,42,43,47,50,51,60,61,65]\/x.kind∈[40,86,87,88]\/x.kind∈[41,48,63,8,9,10,11,12,13,14,15,16,17,18,19,20,21,22]\/x.kind∈[49,64]\/x.kind∈[30]\/x.kind∈[32]\/x.kind∈[34]\/x.kind∈[36]\/x.kind∈[62]\/x.kind∈[104]):xC l x=ye l x:=by
 rcases hk with hk|hk|hk|hk|hk|hk|hk|hk|hk|hk|hk
 case' inl=>refine jS hin [] _ hk (by decide) (by decide) (by decide) ?_
 case' inr.inl=>refine jS hin [.expr] _ hk (by decide) (by decide) (by decide) ?_
 case' inr.inr.inl=>refine jS hin [.type] _ hk (by decide) (by decide) (by decide) ?_
 case' inr.inr.inr.inl=>refine jS hin [.expr,.expr] _ hk (by decide) (by decide) (by decide) ?_
 case' inr.inr.inr.inr.inl=>refine jS hin [.expr,.expr,.expr] _ hk (by decide) (by decide) (by decide) ?_
 case' inr.inr.inr.inr.inr.inl=>refine jS hin [.expr,.one 28] _ hk (by decide) (by decide) (by decide) ?_
 case' inr.inr.inr.inr.inr.inr.inl=>refine jS hin [.pattern,.expr] _ hk (by decide) (by decide) (by decide) ?_
 case' inr.inr.inr.inr.inr.inr.inr.inl=>refine jS hin [.one 28,.one 28] _ hk (by decide) (by decide) (by decide) ?_
 case' inr.inr.inr.inr.inr.inr.inr.inr.inl=>refine jS hin [.expr,.one 28,.one 28] _ hk (by decide) (by decide) (by decide) ?_
 case' inr.inr.inr.inr.inr.inr.inr.inr.inr.inl=>refine jS hin [.JX,.expr] _ hk (by decide) (by decide) (by decide) ?_
 case' inr.inr.inr.inr.inr.inr.inr.inr.inr.inr=>refine jS hin [.type,.expr] _ hk (by decide) (by decide) (by decide) ?_
 all_goals
  simp only[gE]
  repeat' refine And.intro ?_ ?_
  all_goals first
   |(intro x hx;cases hx;done)
   |(intro n i kd hi;rcases (show i=0\/i=1\/i=2 by simp only[pQ,wD] at hi;omega) with rfl|rfl|rfl <;> first|(simp[qY,xg.at_,uO,yN,xd.is];done)|(simp at hi;done))
theorem jR{l:List Nd}{x:Nd}(hin:InR l x)(hm:x.kids.length<=1999)(f:List xd)(s:xd)(least:Nat)(la:List xd)(ks:List Nat)(hk:x.kind∈ks)(h1:∀k∈ks,zP k=some ⟨f,some s,least,la⟩)(h2:∀k∈ks,k≠28/\k≠29/\k≠35)(h3:∀k∈ks,kj k=(f.length+la.length+least,2000))(h4:∀k∈ks,∀(n:Int) (m i kd:Nat),f.length+la.length+least<=m->i<m->qY ⟨f,some s,least,la⟩ m i kd=yN k n m i kd):xC l x=ye l x:=
 Vr hin _ ks hk h1 h2 (fun k hk=>by
  rw[h3 k hk,uR];generalize x.kids.length=m at *;rw[pS];simp;omega) (fun k hk hf i hi kd=>by
  rw[uR,pK] at hf;exact h4 k hk _ _ i kd hf hi)
theorem uJ{l:List Nd}{x:Nd}(hin:InR l x)(hm:x.kids.length<=1999)(hk:x.kind∈[25]\/x.kind∈[70]\/x.kind∈[89]\/x.kind∈[26]\/x.kind∈[100]\/x.kind∈[101]):xC l x=ye l x:=by
 rcases hk with hk|hk|hk|hk|hk|hk
 case' inl=>refine jR hin hm [] .expr 0 [] _ hk (by decide) (by decide) (by decide) ?_
 case' inr.inl=>refine jR hin hm [] .pattern 0 [] _ hk (by decide) (by decide) (by decide) ?_
 case' inr.inr.inl=>refine jR hin hm [] .type 0 [] _ hk (by decide) (by decide) (by decide) ?_
 case' inr.inr.inr.inl=>refine jR hin hm [] (.one 27) 1 [] _ hk (by decide) (by decide) (by decide) ?_
 case' inr.inr.inr.inr.inl=>refine jR hin hm [] (.one 88) 1 [] _ hk (by decide) (by decide) (by decide) ?_
 case' inr.inr.inr.inr.inr=>refine jR hin hm [] (.one 89) 1 [] _ hk (by decide) (by decide) (by decide) ?_
 all_goals
  intro k hk n m i kd hfit hi;simp only[wF,wN,or_false] at hk;subst hk;unfold qY xg.at_;rw[if_neg (by simp),if_neg (by simp;omega)];simp[yN,xd.is]
theorem zfr{l:List Nd}{x:Nd}(hin:InR l x)(hm:x.kids.length<=1999)(hk:x.kind∈[24]):xC l x=ye l x:=
 jR hin hm [.expr] .expr 0 [] _ hk (by decide) (by decide) (by decide) (fun k hk n m i kd hfit hi=>by
  simp only[wF,wN,or_false] at hk;subst hk;simp only[pQ,wD] at hfit;unfold qY xg.at_;have hi3:i=0\/0<i:=by omega
  rcases hi3 with rfl|hi3
  ·simp[yN,xd.is]
  ·rw[if_neg (by simp;omega),if_neg (by simp;omega)];simp[yN,xd.is])
theorem zfq{l:List Nd}{x:Nd}(hin:InR l x)(hm:x.kids.length<=1999)(hk:x.kind∈[31]):xC l x=ye l x:=
 jR hin hm [.expr] (.one 32) 1 [] _ hk (by decide) (by decide) (by decide) (fun k hk n m i kd hfit hi=>by
  simp only[wF,wN,or_false] at hk;subst hk;simp only[pQ,wD] at hfit;unfold qY xg.at_;have hi3:i=0\/0<i:=by omega
  rcases hi3 with rfl|hi3
  ·simp[yN,xd.is]
  ·rw[if_neg (by simp;omega),if_neg (by simp;omega)];have h0:i≠0:=by omega
   simp[yN,xd.is,h0,hi3])
theorem zfp{l:List Nd}{x:Nd}(hin:InR l x)(hm:x.kids.length<=1999)(hk:x.kind∈[85]):xC l x=ye l x:=
 jR hin hm [] .type 0 [.type] _ hk (by decide) (by decide) (by decide) (fun k hk n m i kd hfit hi=>by
  simp only[wF,wN,or_false] at hk;subst hk;simp only[pQ,wD] at hfit;unfold qY xg.at_;have hi3:i+1=m\/i+1<m:=by omega
  rcases hi3 with rfl|hi3
  ·simp[yN,xd.is]
  ·rw[if_neg (by simp),if_neg (by simp;omega)];simp[yN,xd.is])
theorem zda{l:List Nd}{x:Nd}(hin:InR l x)(hm:x.kids.length<=1999)(hk:x.kind∈[103]):xC l x=ye l x:=
 jR hin hm [] (.one 88) 0 [.type] _ hk (by decide) (by decide) (by decide) (fun k hk n m i kd hfit hi=>by
  simp only[wF,wN,or_false] at hk;subst hk;simp only[pQ,wD] at hfit;unfold qY xg.at_;have hi3:i+1=m\/i+1<m:=by omega
  rcases hi3 with rfl|hi3
  ·simp[yN,xd.is]
  ·rw[if_neg (by simp),if_neg (by simp;omega)];have h0:i+1≠m:=by omega
   simp[yN,xd.is,h0,hi3])
theorem Vq{l:List Nd}{x:Nd}(hin:InR l x)(hm:x.kids.length<=1999)(hk:x.kind∈[33,102]):xC l x=ye l x:=
 jR hin hm [] (.one 88) 0 [.type,.one 28] _ hk (by decide) (by decide) (by decide) (fun k hk n m i kd hfit hi=>by
  simp only[wF,wN,or_false] at hk;simp only[pQ,wD] at hfit;unfold qY xg.at_;have hi3:i+1=m\/i+2=m\/i+2<m:=by omega
  rcases hi3 with rfl|rfl|hi3
  ·rw[if_neg (by simp),if_pos (by simp)];rcases hk with rfl|rfl <;> simp[yN,xd.is]
  ·rw[if_neg (by simp),if_pos (by simp)];rcases hk with rfl|rfl <;> simp[yN,xd.is]
  ·rw[if_neg (by simp),if_neg (by simp;omega)];have h0:i+1≠m:=by omega
   have h1:i+2≠m:=by omega
   rcases hk with rfl|rfl <;> simp[yN,xd.is,h0,h1,hi3])
theorem XC:∀(l:List Int) (k:Int),l.getLast? =some k->l.getD (l.length-1) 0=k
 |[],k,h=>by cases h
 |[a],k,h=>by cases h;rfl
 |a :: b :: r,k,h=>by
  have h2:(b :: r).getLast? =some k:=by simpa using h
  have:=XC (b :: r) k h2;simpa using this
theorem zgI{l:List Nd}{x:Nd}(hin:InR l x)(hm:x.kids.length<=1999)(hk:x.kind=28):xC l x=ye l x:=by
 unfold xC ye;have hs:zP x.kind=some ⟨[],some .stmt,0,[]⟩:=by rw[hk];rfl
 have hsp:xy l x=(x.n == 0 || (match x.kids.getLast? with|some k=>yC (zE l k)|none=>false)):=by
  unfold xy;rw[uY hin,hk];rfl
 rw[hs,hsp];simp only[uR,Zj,hk];have hP:∀i,i<x.kids.length->∀kd,qY ⟨[],some .stmt,0,[]⟩ x.kids.length i kd=xd.stmt.is kd:=fun i hi kd=>by
  unfold qY xg.at_;rw[if_neg (by simp),if_neg (by simp;omega)]
 have hR:∀i kd,yN 28 x.n x.kids.length i kd=(xd.stmt.is kd && (decide (i+1<x.kids.length) || x.n == 0 || yC kd)):=fun i kd=>rfl
 rw[jx (fun i hi=>hP i hi _)];simp only[hR];have hb:xj 28=(0,1):=rfl;have hf:kj 28=(0,2000):=rfl;have hn:zu 28 x.n x.kids.length=(x.n == 0 || (x.n == 1 && decide (0<x.kids.length))):=rfl;have hkn:qm 28=true:=rfl;rw[hb,hf,hn,hkn];have e1:decide ((([]:List xd).length+([]:List xd).length+0)<=x.kids.length)=true:=by simp
 have e2:decide (x.kids.length<=2000)=true:=by rw[pK];omega
 rw[e1,e2];simp only[pX,decide_true,Bool.true_and,Bool.and_true];by_cases h0:x.n=0
 ·rw[h0];simp
 ·have h0':(x.n == 0)=false:=bfE h0
  by_cases h1:x.n=1
  ·have h1':(x.n == 1)=true:=by rw[wC];exact h1
   rw[h0',h1',h1];simp only[Bool.false_or,Bool.or_false,Bool.true_and];cases hl:x.kids.getLast? with
   |none=>
    rw[List.getLast?_eq_none_iff] at hl;rw[hl];simp
   |some k=>
    have hlen:0<x.kids.length:=by
     cases hh:x.kids with
     |nil=>rw[hh] at hl;cases hl
     |cons _ _=>simp
    have hd:=XC _ _ hl;have e3:decide (0<x.kids.length)=true:=by rw[pK];exact hlen
    rw[e3];have key:((List.range x.kids.length).all fun i=>xd.stmt.is (zE l (x.kids.getD i 0)) && (decide (i+1<x.kids.length) || yC (zE l (x.kids.getD i 0))))=(yC (zE l k) && (List.range x.kids.length).all fun i=>xd.stmt.is (zE l (x.kids.getD i 0))):=by
     rw[pS,pJ,pV,pV];constructor
     ·intro h;refine⟨?_,fun i hi=>?_⟩
      ·have:=h (x.kids.length-1) (List.mem_range.2 (by omega));rw[hd,pJ,wL,pK] at this;rcases this.2 with h'|h'
       ·omega
       ·exact h'
      ·have:=h i hi;rw[pJ] at this;exact this.1
     ·rintro ⟨h1,h2⟩ i hi;rw[pJ,wL,pK];refine⟨h2 i hi,?_⟩;rcases Nat.lt_or_ge (i+1) x.kids.length with h'|h'
      ·exact .inl h'
      ·right;have hi':=List.mem_range.1 hi;have:i=x.kids.length-1:=by omega
       rw[this,hd];exact h1
    rw[key];dsimp only;generalize decide (0<=x.at_)=b;generalize decide (x.at_<=3000)=c;generalize qT x=d;generalize yC (zE l k)=e;generalize (List.range x.kids.length).all _=f;cases b <;> cases c <;> cases d <;> cases e <;> cases f <;> simp
  ·have h1':(x.n == 1)=false:=bfE h1
   have h2:(decide (0<=x.n) && decide (x.n<=1))=false:=by
    rw[Bool.and_eq_false_iff,wX,wX];omega
   rw[h0',h1',h2];simp
theorem zgH{l:List Nd}{x:Nd}(hin:InR l x)(hk:x.kind=29):xC l x=ye l x:=by
 unfold xC ye;have hs:zP x.kind=some ⟨[.expr,.one 28],some .els,0,[]⟩:=by rw[hk];rfl
 have hsp:xy l x=decide (x.kids.length<=3):=by
  unfold xy;rw[uY hin,hk];rfl
 rw[hs,hsp];simp only[uR,Zj,hk];have hb:=ZI 29 x.n x.kids.length (by decide);have hf:kj 29=(2,3):=rfl;have hkn:qm 29=true:=rfl;have e1:decide (([xd.expr,xd.one 28].length+([]:List xd).length+0)<=x.kids.length)=decide (2<=x.kids.length):=rfl;rw[hb,hf,hkn,e1];simp only[Bool.true_and];by_cases h3:2<=x.kids.length/\x.kids.length<=3
 ·have hd:∀i,i<x.kids.length->∀kd,qY ⟨[.expr,.one 28],some .els,0,[]⟩ x.kids.length i kd=yN 29 x.n x.kids.length i kd:=fun i hi kd=>by
   have h4:x.kids.length=2\/x.kids.length=3:=by omega
   generalize x.kids.length=m at *;unfold qY xg.at_;rcases h4 with rfl|rfl
   ·have hi3:i=0\/i=1:=by omega
    rcases hi3 with rfl|rfl <;> simp[yN,xd.is]
   ·have hi3:i=0\/i=1\/i=2:=by omega
    rcases hi3 with rfl|rfl|rfl <;> simp[yN,xd.is]
  rw[jx (fun i hi=>hd i hi _)];have e4:decide (2<=x.kids.length)=true:=by rw[pK];exact h3.1
  have e5:decide (x.kids.length<=3)=true:=by rw[pK];exact h3.2
  rw[e4,e5];generalize zu 29 x.n x.kids.length=a;generalize decide (0<=x.at_)=b;generalize decide (x.at_<=3000)=c;generalize qT x=d;cases a <;> cases b <;> cases c <;> cases d <;> simp
 ·have e4:(decide (2<=x.kids.length) && decide (x.kids.length<=3))=false:=by
   rw[Bool.and_eq_false_iff,wX,wX];omega
  rw[Bool.and_eq_false_iff] at e4;rcases e4 with e|e
  ·rw[e];simp
  ·rw[e];simp
theorem zdT(p:Int->Bool)(l:List Int):decide (l.length<=l.findIdx p+1)=(List.range l.length).all fun i=>decide (i+1=l.length) || !p (l.getD i 0):=by
 rw[pS,pK,pV];constructor
 ·intro h i hi;have hi':=List.mem_range.1 hi;rw[wL,pK];rcases Nat.lt_or_ge (i+1) l.length with h'|h'
  ·right;have:=List.not_of_lt_findIdx (p:=p) (xs:=l) (i:=i) (by omega);rw[pB,glE hi',Option.getD_some];simpa using this
  ·left;omega
 ·intro h;rcases Nat.lt_or_ge (l.findIdx p) l.length with h'|h'
  ·have h2:=h _ (List.mem_range.2 h');rw[wL,pK,pB,glE h',Option.getD_some] at h2;rcases h2 with h2|h2
   ·omega
   ·have:=List.findIdx_getElem (p:=p) (xs:=l) (w:=h');rw[this] at h2;cases h2
  ·omega
theorem zgG{l:List Nd}{x:Nd}(hin:InR l x)(hm:x.kids.length<=1999)(hk:x.kind=35):xC l x=ye l x:=by
 unfold xC ye;have hs:zP x.kind=some ⟨[],some .way,1,[]⟩:=by rw[hk];rfl
 have hsp:xy l x=decide (x.kids.length<=(x.kids.findIdx fun k=>zE l k == 65)+1):=by
  unfold xy;rw[uY hin,hk];rfl
 rw[hs,hsp,zdT];simp only[uR,Zj,hk];have hb:=ZI 35 x.n x.kids.length (by decide);have hf:kj 35=(1,2000):=rfl;have hkn:qm 35=true:=rfl;have e1:decide ((([]:List xd).length+([]:List xd).length+1)<=x.kids.length)=decide (1<=x.kids.length):=by simp
 have e2:decide (x.kids.length<=2000)=true:=by rw[pK];omega
 have hP:∀i,i<x.kids.length->∀kd,qY ⟨[],some .way,1,[]⟩ x.kids.length i kd=xd.way.is kd:=fun i hi kd=>by
  unfold qY xg.at_;rw[if_neg (by simp),if_neg (by simp;omega)]
 have hR:∀i kd,yN 35 x.n x.kids.length i kd=(xd.way.is kd && (decide (i+1=x.kids.length) || !(kd == 65))):=fun i kd=>rfl
 rw[jx (fun i hi=>hP i hi _)];simp only[hR];rw[hb,hf,hkn,e1,e2];have key:((List.range x.kids.length).all fun i=>xd.way.is (zE l (x.kids.getD i 0)) && (decide (i+1=x.kids.length) || !(zE l (x.kids.getD i 0) == 65)))=(((List.range x.kids.length).all fun i=>decide (i+1=x.kids.length) || !(zE l (x.kids.getD i 0) == 65)) && (List.range x.kids.length).all fun i=>xd.way.is (zE l (x.kids.getD i 0))):=by
  rw[pS,pJ,pV,pV,pV];constructor
  ·intro h;refine⟨fun i hi=>?_,fun i hi=>?_⟩
   ·have:=h i hi;rw[pJ] at this;exact this.2
   ·have:=h i hi;rw[pJ] at this;exact this.1
  ·rintro ⟨h1,h2⟩ i hi;rw[pJ];exact⟨h2 i hi,h1 i hi⟩
 rw[key];generalize zu 35 x.n x.kids.length=a;generalize decide (0<=x.at_)=b;generalize decide (x.at_<=3000)=c;generalize qT x=d;generalize decide (1<=x.kids.length)=e;cases a <;> cases b <;> cases c <;> cases d <;> cases e <;> simp
theorem zbK{l:List Nd}{x:Nd}(hin:InR l x)(hm:x.kids.length<=1999):xC l x=ye l x:=by
 cases hk:qm x.kind with
 |false=>
  have hs:zP x.kind=none:=by
   have:=QE x.kind;rw[hk] at this;cases h:zP x.kind with
   |none=>rfl
   |some _=>rw[h] at this;cases this
  unfold xC ye;rw[hs,hk];simp
 |true=>
  have h104:=uq hk;have hall:∀k,k<=104->qm k=true->k∈[1,2,3,4,5,44,45,46,80,81,82,83,84,66,67,68,69]\/k∈[6,7,23,27,37,38,39,42,43,47,50,51,60,61,65]\/k∈[40,86,87,88]\/k∈[41,48,63,8,9,10,11,12,13,14,15,16,17,18,19,20,21,22]\/k∈[49,64,30,32,34,36,62,104,25,70,89,26,100,101,24,31,85,103,33,102,28,29,35]:=by decide +kernel
  rcases hall _ h104 hk with h|h|h|h|h
  ·exact xG hin (.inl h)
  ·exact xG hin (.inr (.inl h))
  ·exact xG hin (.inr (.inr (.inl h)))
  ·exact xG hin (.inr (.inr (.inr (.inl h))))
  ·simp only[wF,wN,or_false] at h;rcases h with h|h|h|h|h|h|h|h|h|h|h|h|h|h|h|h|h|h|h|h|h|h|h
   ·exact xG hin (by rw[h];decide)
   ·exact xG hin (by rw[h];decide)
   ·exact xG hin (by rw[h];decide)
   ·exact xG hin (by rw[h];decide)
   ·exact xG hin (by rw[h];decide)
   ·exact xG hin (by rw[h];decide)
   ·exact xG hin (by rw[h];decide)
   ·exact xG hin (by rw[h];decide)
   ·exact uJ hin hm (by rw[h];decide)
   ·exact uJ hin hm (by rw[h];decide)
   ·exact uJ hin hm (by rw[h];decide)
   ·exact uJ hin hm (by rw[h];decide)
   ·exact uJ hin hm (by rw[h];decide)
   ·exact uJ hin hm (by rw[h];decide)
   ·exact zfr hin hm (by rw[h];decide)
   ·exact zfq hin hm (by rw[h];decide)
   ·exact zfp hin hm (by rw[h];decide)
   ·exact zda hin hm (by rw[h];decide)
   ·exact Vq hin hm (by rw[h];decide)
   ·exact Vq hin hm (by rw[h];decide)
   ·exact zgI hin hm h
   ·exact zgH hin h
   ·exact zgG hin hm h
def Xi(out:List Nat):List Int->Int->Option Int
 |[],p=>some p
 |k :: r,p=>if p<0\/k≠p then none else Xi out r (p-(out.getD p.toNat 0:Nat))
def qI(l:List Nd):Nat->List Nat
 |0=>[]
 |i+1=>if (qI l i).length<i then qI l i else
  match Xi (qI l i) ((l[i]?).elim [] Nd.kids).reverse ((i:Int)-1) with
  |none=>qI l i
  |some p=>qI l i ++ [((i:Int)-p).toNat]
def KY(l:List Nd)(out:List Nat):List Int->Int->Option Int
 |[],p=>some p
 |k :: r,p=>if p<0\/k≠p\/xd.item.is (zE l p)=false then none else KY l out r (p-(out.getD p.toNat 0:Nat))
def ue(t:zQ):Bool:= !decide ((qI t.nodes t.nodes.length).length<t.nodes.length) && match KY t.nodes (qI t.nodes t.nodes.length) t.items.reverse ((t.nodes.length:Int)-1) with
 |none=>false
 |some p=>t.nodes.all (ye t.nodes) && p == -1
theorem Xh(l:List Nd):∀i,(qI l i).length<=i
 |0=>pG _
 |i+1=>by
  have:=Xh l i;unfold qI;split
  ·omega
  ·split
   ·omega
   ·rw[pM,pN];omega
theorem XU{out out':List Nat}:∀(rk:List Int) (p:Int),(∀j:Nat,(j:Int)<=p->out.getD j 0=out'.getD j 0)->Xi out rk p=Xi out' rk p
 |[],_,_=>rfl
 |k :: r,p,h=>by
  unfold Xi;by_cases hc:p<0\/k≠p
  ·rw[if_pos hc,if_pos hc]
  ·rw[if_neg hc,if_neg hc,h p.toNat (by omega)];exact XU r _ (fun j hj=>h j (by omega))
theorem VL(l:List Nd){out out':List Nat}:∀(rk:List Int) (p:Int),(∀j:Nat,(j:Int)<=p->out.getD j 0=out'.getD j 0)->KY l out rk p=KY l out' rk p
 |[],_,_=>rfl
 |k :: r,p,h=>by
  unfold KY;by_cases hc:p<0\/k≠p\/xd.item.is (zE l p)=false
  ·rw[if_pos hc,if_pos hc]
  ·rw[if_neg hc,if_neg hc,h p.toNat (by omega)];exact VL l r _ (fun j hj=>h j (by omega))
def xF(l:List Nd)(i:Nat):Prop:=(qI l i).length=i
theorem VS(l:List Nd):xF l 0:=rfl
theorem VT{l:List Nd}{i:Nat}(h:xF l (i+1)):xF l i/\∃p,Xi (qI l i) ((l[i]?).elim [] Nd.kids).reverse ((i:Int)-1)=some p/\qI l (i+1)=qI l i ++ [((i:Int)-p).toNat]:=by
 have hl:=Xh l i;unfold xF at h ⊢;unfold qI at h;split at h
 ·omega
 ·have hi:(qI l i).length=i:=by omega
  refine⟨hi,?_⟩;split at h
  ·omega
  ·rename_i p hp;refine⟨p,hp,?_⟩
   conv=>lhs;unfold qI
   rw[if_neg (by omega),hp]
theorem ziU{l:List Nd}{i:Nat}{p:Int}(h:xF l i)(hp:Xi (qI l i) ((l[i]?).elim [] Nd.kids).reverse ((i:Int)-1)=some p):xF l (i+1)/\qI l (i+1)=qI l i ++ [((i:Int)-p).toNat]:=by
 have e:qI l (i+1)=qI l i ++ [((i:Int)-p).toNat]:=by
  unfold xF at h
  conv=>lhs;unfold qI
  rw[if_neg (by omega),hp]
 refine⟨?_,e⟩;unfold xF at *;rw[e,pM,h,pN]
theorem Jt{l:List Nd}{i:Nat}:∀{n:Nat},xF l n->i<=n->xF l i/\∀j,j<i->(qI l n).getD j 0=(qI l i).getD j 0
 |0,h,hi=>by
  have:i=0:=by omega
  subst this;exact⟨h,fun j hj=>absurd hj (wI _)⟩
 |n+1,h,hi=>by
  by_cases e:i=n+1
  ·subst e;exact⟨h,fun _ _=>rfl⟩
  ·obtain⟨h1,p,_,he⟩:=VT h;obtain⟨h2,h3⟩:=Jt h1 (by omega:i<=n);refine⟨h2,fun j hj=>?_⟩;rw[he,pB,wR (by unfold xF at h1;omega),<-pB];exact h3 j hj
theorem Vn{out:List Nat}:∀(rk:List Int) (p e:Int),Xi out rk p=some e->e<=p
 |[],p,e,h=>by cases h;exact Int.le_refl _
 |k :: r,p,e,h=>by
  unfold Xi at h;split at h
  ·cases h
  ·have:=Vn r _ e h;omega
theorem qN{l:List Nd}{n:Nat}(h:xF l n){i:Nat}(hi:i<n):∃p:Int,Xi (qI l n) ((l[i]?).elim [] Nd.kids).reverse ((i:Int)-1)=some p/\((qI l n).getD i 0:Int)=i-p/\p<i:=by
 obtain⟨h1,h1e⟩:=Jt h (by omega:i+1<=n);obtain⟨h2,p,hp,he⟩:=VT h1;have hb:=Vn _ _ _ hp;refine⟨p,?_,?_,by omega⟩
 ·rw[XU (out':=qI l i) _ _ (fun j hj=>?_)]
  ·exact hp
  ·rw[h1e j (by omega),he,pB,wR (by unfold xF at h2;omega),<-pB]
 ·rw[h1e i (by omega),he,pB,wM (by unfold xF at h2;omega)];have:i-(qI l i).length=0:=by unfold xF at h2;omega
  rw[this];simp;omega
theorem zc2{h:xg}{m i kd:Nat}(hs:qY h m i kd=true):∃s,h.at_ i m=some s/\s.is kd=true:=by
 unfold qY at hs;cases ha:h.at_ i m with
 |none=>rw[ha] at hs;cases hs
 |some s=>rw[ha] at hs;exact⟨s,rfl,hs⟩
theorem zbO(k:Int)(r:List Int):(k :: r).reverse.getD r.length 0=k:=by
 rw[List.reverse_cons,pB,wM (by simp)];simp
theorem zbP(k:Int)(r:List Int){p:Nat}(hp:p<r.length):(k :: r).reverse.getD p 0=r.reverse.getD p 0:=by
 rw[List.reverse_cons,pB,wR (by simpa using hp),<-pB]
theorem zcv{l:List Nd}(hF:xF l l.length)(hR:∀x∈l,xC l x=true):∀(i f:Nat) (s:xd),i<l.length->i<f->s.is (zE l i)=true->qB l f i i s=some ((i:Int)-((qI l l.length).getD i 0:Nat))
 |i,0,s,_,hf,_=>absurd hf (wI _)
 |i,f+1,s,hi,hf,hs=>by
  obtain⟨p,hp,hsz,hpi⟩:=qN hF hi;have hx:l[i]? =some l[i]:=glE hi;have hr:=hR l[i] (wK _);rw[hx] at hp;simp only[Option.elim] at hp;have hk:zE l i=l[i].kind:=by unfold zE;rw[wG,hx];rfl
  rw[hk] at hs;generalize l[i]=x at *;unfold xC at hr;cases hsh:zP x.kind with
  |none=>rw[hsh] at hr;cases hr
  |some h=>
   rw[hsh] at hr;simp only[pJ,pV,List.mem_range] at hr;obtain⟨⟨⟨h1,h2⟩,h3⟩,h4⟩:=hr;have key:∀(rk:List Int) (next e:Int),next<i->Xi (qI l l.length) rk next=some e->(∀q,q<rk.length->qY h x.kids.length q (zE l (rk.reverse.getD q 0))=true)->uQ (qB l f) h x.kids.length rk next=some e:=by
    intro rk;induction rk with
    |nil=>intro next e _ he _;exact he
    |cons k r ih=>
     intro next e hn he hq
     unfold Xi at he;split at he
     ·cases he
     ·rename_i hc;have hk0:0<=next/\k=next:=by omega
      obtain⟨k',rfl⟩:=pO hk0.1;have hsr:=hq r.length (by simp);rw[zbO,hk0.2] at hsr;obtain⟨sr,ha,hsr⟩:=zc2 hsr;unfold uQ;rw[ha,hk0.2];simp only;rw[zcv hF hR k' f sr (by omega) (by omega) hsr,Option.bind_some];exact ih _ e (by omega) (by simpa using he) (fun q hq'=>by have:=hq q (by simp;omega);rwa [zbP k r hq'] at this)
   unfold qB;rw[if_neg (by omega),wG,hx];simp only[hsh];rw[if_pos (by rw[hs,h1,h2,h3];rfl),key _ _ p (by omega) hp (fun q hq=>by
    rw[List.reverse_reverse];exact h4 q (by simpa using hq)),hsz]
   congr 1;omega
termination_by i=>i
theorem zcy{l:List Nd}(hF:xF l l.length)(hR:∀x∈l,xC l x=true):∀(rk:List Int) (next e:Int),next<l.length->KY l (qI l l.length) rk next=some e->ZS l rk next=some e
 |[],_,_,_,h=>h
 |k :: r,next,e,hn,h=>by
  unfold KY at h;split at h
  ·cases h
  ·rename_i hc;have hk0:0<=next/\k=next:=by omega
   obtain⟨k',rfl⟩:=pO hk0.1;unfold ZS;rw[hk0.2,zcv hF hR k' _ .item (by omega) (by omega) (by
    cases hb:xd.item.is (zE l (k':Int)) with
    |true=>rfl
    |false=>exact absurd (.inr (.inr hb)) hc),Option.bind_some]
   exact zcy hF hR r _ e (by omega) h
def KO(l:List Nd)(e i:Int):Prop:=∀j:Nat,e<j->(j:Int)<=i->∃x,l[j]? =some x/\xC l x=true
theorem KO.join{l:List Nd}{a b c:Int}(h:KO l a b)(k:KO l b c):KO l a c:=fun j h1 h2=>by
 by_cases e:(j:Int)<=b
 ·exact h j h1 e
 ·exact k j (by omega) h2
def XM(l:List Nd)(e:Int):Prop:=xF l (e+1).toNat
theorem zcu{l:List Nd}:∀(f:Nat) (i num:Int) (s:xd) (e:Int),-1<=i->i<l.length->qB l f i num s=some e->num=i/\0<=i/\-1<=e/\e<i/\s.is (zE l i)=true/\(XM l e->XM l i/\((qI l (i+1).toNat).getD i.toNat 0:Int)=i-e/\KO l e i)
 |0,_,_,_,_,_,_,h=>by cases h
 |f+1,i,num,s,e,hi,hl,h=>by
  unfold qB at h;split at h
  ·cases h
  ·rename_i hc;have hc2:0<=i/\num=i:=by omega
   obtain⟨rfl⟩:=hc2.2;obtain⟨i,rfl⟩:=pO hc2.1;have hil:i<l.length:=by omega
   rw[wG,glE hil] at h;have hx:l[i]? =some l[i]:=glE hil;have hk:zE l i=l[i].kind:=by unfold zE;rw[wG,hx];rfl
   generalize l[i]=x at *;simp only at h;cases hsh:zP x.kind with
   |none=>rw[hsh] at h;cases h
   |some sh=>
    rw[hsh] at h;simp only at h;split at h
    ·rename_i hcond;simp only[pJ] at hcond;obtain⟨⟨⟨hs,h1⟩,h2⟩,h3⟩:=hcond;have key:∀(rk:List Int) (next e:Int),-1<=next->next<l.length->uQ (qB l f) sh x.kids.length rk next=some e->-1<=e/\e<=next/\(∀q,q<rk.length->qY sh x.kids.length q (zE l (rk.reverse.getD q 0))=true)/\(XM l e->XM l next/\Xi (qI l (next+1).toNat) rk next=some e/\KO l e next):=by
      intro rk;induction rk with
      |nil=>
       intro next e hn _ he
       cases he;exact⟨hn,Int.le_refl _,fun q hq=>absurd hq (wI _),fun hf=>⟨hf,rfl,fun j h1 h2=>by omega⟩⟩
      |cons k r ih=>
       intro next e hn hnl he
       unfold uQ at he;cases ha:sh.at_ r.length x.kids.length with
       |none=>rw[ha] at he;cases he
       |some sr=>
        rw[ha] at he;simp only at he;cases hg:qB l f next k sr with
        |none=>rw[hg] at he;cases he
        |some e1=>
         rw[hg,Option.bind_some] at he;obtain⟨hk1,hn0,he1,he2,hsr,hful⟩:=zcu f next k sr e1 hn hnl hg
         obtain⟨i1,i2,i3,i4⟩:=ih e1 e he1 (by omega) he;refine⟨i1,by omega,fun q hq=>?_,fun hf=>?_⟩
         ·have hq2:q=r.length\/q<r.length:=by simp at hq;omega
          rcases hq2 with rfl|hq2
          ·rw[zbO,hk1];unfold qY;rw[ha];exact hsr
          ·rw[zbP k r hq2];exact i3 q hq2
         ·obtain⟨j1,j2,j3⟩:=i4 hf;obtain⟨k1,k2,k3⟩:=hful j1;refine⟨k1,?_,j3.join k3⟩;unfold Xi;rw[if_neg (by omega),k2,show next-(next-e1)=e1 by omega,<-j2];exact XU _ _ (fun j hj=>(Jt k1 (by omega:(e1+1).toNat<=(next+1).toNat)).2 j (by omega))
     obtain⟨a1,a2,a3,a4⟩:=key _ _ e (by omega) (by omega) h;refine⟨rfl,by omega,a1,by omega,by rw[hk];exact hs,fun hf=>?_⟩;obtain⟨b1,b2,b3⟩:=a4 hf;have hn1:((i:Int)-1+1).toNat=i:=by omega
     unfold XM at b1;rw[hn1] at b1 b2;have hu:=ziU (p:=e) b1 (by rw[hx];exact b2);have hn2:((i:Int)+1).toNat=i+1:=by omega
     refine⟨by unfold XM;rw[hn2];exact hu.1,?_,?_⟩
     ·rw[hn2,wG,hu.2,pB,wM (by unfold xF at b1;omega)];have:i-(qI l i).length=0:=by unfold xF at b1;omega
      rw[this];simp;omega
     ·refine b3.join (fun j h1' h2'=>?_);have hj:j=i:=by omega
      subst hj;refine⟨x,hx,?_⟩;unfold xC;rw[hsh];simp only[pJ,pV,List.mem_range];exact⟨⟨⟨h1,h2⟩,h3⟩,fun q hq=>by have:=a3 q (by simpa using hq);rwa [List.reverse_reverse] at this⟩
    ·cases h
theorem zcx{l:List Nd}:∀(rk:List Int) (next e:Int),-1<=next->next<l.length->ZS l rk next=some e->-1<=e/\e<=next/\(XM l e->XM l next/\KY l (qI l (next+1).toNat) rk next=some e/\KO l e next)
 |[],next,e,hn,_,h=>by
  cases h;exact⟨hn,Int.le_refl _,fun hf=>⟨hf,rfl,fun j h1 h2=>by omega⟩⟩
 |k :: r,next,e,hn,hnl,h=>by
  unfold ZS at h;cases hg:qB l (l.length+1) next k .item with
  |none=>rw[hg] at h;cases h
  |some e1=>
   rw[hg,Option.bind_some] at h;obtain⟨hk1,hn0,he1,he2,hsr,hful⟩:=zcu _ next k _ e1 hn hnl hg
   obtain⟨i1,i2,i4⟩:=zcx r e1 e he1 (by omega) h;refine⟨i1,by omega,fun hf=>?_⟩;obtain⟨j1,j2,j3⟩:=i4 hf;obtain⟨k1,k2,k3⟩:=hful j1;refine⟨k1,?_,j3.join k3⟩;unfold KY;rw[if_neg (by rw[hsr];simp;omega),k2,show next-(next-e1)=e1 by omega,<-j2];exact VL l _ _ (fun j hj=>(Jt k1 (by omega:(e1+1).toNat<=(next+1).toNat)).2 j (by omega))
theorem Jk{out:List Nat}:∀(rk:List Int) (p e:Int),Xi out rk p=some e->∀k∈rk,0<=k/\k<=p
 |[],_,_,_,k,hk=>by cases hk
 |k :: r,p,e,h,j,hj=>by
  unfold Xi at h;split at h
  ·cases h
  ·rcases wF.1 hj with rfl|hj
   ·omega
   ·have:=Jk r _ e h j hj;omega
theorem za0{l:List Nd}(h:xF l l.length){x:Nd}(hx:x∈l):InR l x:=by
 obtain⟨i,hi,rfl⟩:=List.mem_iff_getElem.1 hx;obtain⟨p,hp,_,_⟩:=qN h hi;rw[glE hi] at hp;intro k hk;have:=Jk _ _ _ hp k (gI.2 hk);omega
theorem za1(t:zQ)(hm:∀x∈t.nodes,x.kids.length<=1999):je t=ue t:=by
 rw[pS];constructor
 ·intro h;unfold je at h;cases hI:ZS t.nodes t.items.reverse ((t.nodes.length:Int)-1) with
  |none=>rw[hI] at h;cases h
  |some e=>
   rw[hI] at h;simp only[pK] at h;obtain⟨h1,h2,h3⟩:=zcx _ _ e (by omega) (by omega) hI;have he:e= -1:=by omega
   subst he;obtain⟨h4,h5,h6⟩:=h3 (VS _);have hn:((t.nodes.length:Int)-1+1).toNat=t.nodes.length:=by omega
   unfold XM at h4;rw[hn] at h4 h5;have hall:t.nodes.all (ye t.nodes)=true:=by
    rw[pV];intro x hx;rw[<-zbK (za0 h4 hx) (hm x hx)];obtain⟨j,hj,rfl⟩:=List.mem_iff_getElem.1 hx;obtain⟨y,hy,hr⟩:=h6 j (by omega) (by omega);rw[glE hj] at hy;cases hy;exact hr
   unfold ue;rw[h5,hall];unfold xF at h4;rw[h4];simp
 ·intro h;unfold ue at h;rw[pJ] at h;obtain⟨h1,h2⟩:=h;have hF:xF t.nodes t.nodes.length:=by
   have:=Xh t.nodes t.nodes.length;unfold xF;simp at h1;omega
  cases hI:KY t.nodes (qI t.nodes t.nodes.length) t.items.reverse ((t.nodes.length:Int)-1) with
  |none=>rw[hI] at h2;cases h2
  |some e=>
   rw[hI] at h2;simp only[pJ,pV,wC] at h2;have hR:∀x∈t.nodes,xC t.nodes x=true:=fun x hx=>by rw[zbK (za0 hF hx) (hm x hx)];exact h2.1 x hx
   have:=zcy hF hR _ _ e (by omega) hI;unfold je;rw[this];simp only[pK];omega
def ZU(l:List Nd):Nat->List Nat->Nat->Nat
 |0,_,most=>most
 |i+1,deep,most=>ZU l i (xr (max 1 (deep.getD i 0)) ((l[i]?).elim [] Nd.kids) (deep.set i (max 1 (deep.getD i 0)))) (max most (max 1 (deep.getD i 0)))
def uT(t:zQ):Nat:=ZU t.nodes t.nodes.length (List.replicate t.nodes.length 0) 0
def ZV(l:List Nd)(x:Nd)(k:Nat):Nat:=x.kids.countP fun j=>zE l j == k
def vv(l:List Nd)(x:Nd):Bool:=
 if x.kind == 102 || x.kind == 103 || x.kind == 33 then decide (ZV l x 88<=6)
 else if x.kind == 85 || x.kind == 24 then decide (x.kids.length<=7)
 else if x.kind == 100 || x.kind == 26 then decide (x.kids.length<=6)
 else if x.kind == 101 then decide (x.kids.length<=8)
 else if x.kind == 89 || x.kind == 25 || x.kind == 70 || x.kind == 35 then decide (x.kids.length<=4)
 else if x.kind == 31 then decide (x.kids.length<=13)
 else if x.kind == 40 then decide (1<=x.n) && decide (x.n<=8)
 else true
def yp(t:zQ):Nat:=
 if 1000<t.nodes.length\/40<t.items.length then 5
 else if !ue t then 4
 else if 40<uT t then 5
 else if t.nodes.any fun x=> !vv t.nodes x then 3
 else 0
def zmd(t:zQ):Prop:=∀j:Nat,j<t.nodes.length->(j:Int)∈t.items\/∃i,j<i/\∃x,t.nodes[i]? =some x/\(j:Int)∈x.kids
theorem Vm{out:List Nat}:∀(rk:List Int) (p e:Int),Xi out rk p=some e->∀j:Nat,e<j->(j:Int)<=p->∃k:Nat,(k:Int)∈rk/\(k:Int)<=p/\j<=k/\(k:Int)-(out.getD k 0:Nat)<j
 |[],p,e,h,j,h1,h2=>by cases h;omega
 |k :: r,p,e,h,j,h1,h2=>by
  unfold Xi at h;split at h
  ·cases h
  ·rename_i hc;have hk0:0<=p/\k=p:=by omega
   obtain⟨q,rfl⟩:=pO hk0.1;rw[wG] at h;by_cases hj:(q:Int)-(out.getD q 0:Nat)<j
   ·exact⟨q,by rw[hk0.2];exact List.mem_cons_self ..,Int.le_refl _,by omega,hj⟩
   ·obtain⟨k2,a,b,c,d⟩:=Vm r _ e h j h1 (by omega);exact⟨k2,pY _ a,by omega,c,d⟩
theorem VK(l:List Nd){out:List Nat}:∀(rk:List Int) (p e:Int),KY l out rk p=some e->∀j:Nat,e<j->(j:Int)<=p->∃k:Nat,(k:Int)∈rk/\(k:Int)<=p/\j<=k/\(k:Int)-(out.getD k 0:Nat)<j
 |[],p,e,h,j,h1,h2=>by cases h;omega
 |k :: r,p,e,h,j,h1,h2=>by
  unfold KY at h;split at h
  ·cases h
  ·rename_i hc;have hk0:0<=p/\k=p:=by omega
   obtain⟨q,rfl⟩:=pO hk0.1;rw[wG] at h;by_cases hj:(q:Int)-(out.getD q 0:Nat)<j
   ·exact⟨q,by rw[hk0.2];exact List.mem_cons_self ..,Int.le_refl _,by omega,hj⟩
   ·obtain⟨k2,a,b,c,d⟩:=VK l r _ e h j h1 (by omega);exact⟨k2,pY _ a,by omega,c,d⟩
theorem zbw{l:List Nd}(hF:xF l l.length):∀(i j:Nat),i<l.length->j<i->(i:Int)-((qI l l.length).getD i 0:Nat)<j->∃i',j<i'/\∃x,l[i']? =some x/\(j:Int)∈x.kids
 |i,j,hi,hj,h=>by
  obtain⟨p,hp,hsz,hpi⟩:=qN hF hi;obtain⟨k,hk,hkp,hjk,hlt⟩:=Vm _ _ p hp j (by omega) (by omega);have hx:l[i]? =some l[i]:=glE hi;rw[hx] at hk;simp only[Option.elim,gI] at hk;by_cases e:j=k
  ·subst e;exact⟨i,hj,l[i],hx,hk⟩
  ·exact zbw hF k j (by omega) (by omega) hlt
termination_by i=>i
theorem ziR{t:zQ}(hF:xF t.nodes t.nodes.length)(hI:KY t.nodes (qI t.nodes t.nodes.length) t.items.reverse ((t.nodes.length:Int)-1)=some (-1)):zmd t:=fun j hj=>by
 obtain⟨k,hk,hkp,hjk,hlt⟩:=VK _ _ _ _ hI j (by omega) (by omega);by_cases e:j=k
 ·subst e;exact .inl (gI.1 hk)
 ·exact .inr (zbw hF k j (by omega) (by omega) hlt)
theorem ub(l:List Nat)(i j v:Nat):(l.set i v).getD j 0=if i=j/\j<l.length then v else l.getD j 0:=by
 rw[pB,List.getElem?_set,pB];by_cases e:i=j
 ·subst e;by_cases h:i<l.length
  ·simp[h]
  ·simp[h]
 ·simp[e]
structure zme(t:zQ)(i:Nat)(P R:List Nat):Prop where
 lp:P.length=t.nodes.length
 lr:R.length=t.nodes.length
 eq:∀j,j<i->(R.getD j 0=0/\P.getD j 0=(if (j:Int)∈t.items then 1 else 0))\/(1<=R.getD j 0/\P.getD j 0=R.getD j 0)
 got:∀i' x,i<=i'->t.nodes[i']? =some x->∀j:Nat,(j:Int)∈x.kids->j<i->1<=R.getD j 0
theorem Zo(d:Nat):∀(k:List Int) (l:List Nat),(xr d k l).length=l.length
 |[],l=>rfl
 |a :: r,l=>by unfold xr;rw[Zo d r,List.length_set]
theorem vL(d:Nat):∀(k:List Int) (l:List Nat) (j:Nat),j<l.length->(xr d k l).getD j 0=if (∃a∈k,a.toNat=j) then d+1 else l.getD j 0
 |[],l,j,_=>by simp[xr]
 |a :: r,l,j,h=>by
  unfold xr;rw[vL d r _ j (by rw[List.length_set];exact h),ub];by_cases e:a.toNat=j
  ·by_cases e2:∃b∈r,b.toNat=j
   ·rw[if_pos e2,if_pos (by obtain⟨b,hb,hbj⟩:=e2;exact⟨b,pY _ hb,hbj⟩)]
   ·rw[if_neg e2,if_pos ⟨e,h⟩,if_pos ⟨a,List.mem_cons_self ..,e⟩]
  ·by_cases e2:∃b∈r,b.toNat=j
   ·rw[if_pos e2,if_pos (by obtain⟨b,hb,hbj⟩:=e2;exact⟨b,pY _ hb,hbj⟩)]
   ·rw[if_neg e2,if_neg (fun h'=>e h'.1),if_neg (by
     rintro ⟨b,hb,hbj⟩;rcases wF.1 hb with rfl|hb
     ·exact e hbj
     ·exact e2 ⟨b,hb,hbj⟩)]
theorem zeO{t:zQ}(hH:zmd t):∀(i:Nat) (P R:List Nat) (most:Nat),i<=t.nodes.length->zme t i P R->Yx t.nodes i P most=ZU t.nodes i R most
 |0,_,_,_,_,_=>rfl
 |i+1,P,R,most,hi,D=>by
  have hil:i<t.nodes.length:=by omega
  have hx:t.nodes[i]? =some t.nodes[i]:=glE hil;have hd:P.getD i 0=max 1 (R.getD i 0):=by
   rcases D.eq i (by omega) with⟨h1,h2⟩|⟨h1,h2⟩
   ·rcases hH i hil with hh|⟨i',hlt,x,hx',hm⟩
    ·rw[h2,if_pos hh,h1];rfl
    ·have:=D.got i' x (by omega) hx' i hm (by omega);omega
   ·rw[h2];omega
  unfold Yx ZU;rw[hx,<-hd];simp only[Option.elim];generalize t.nodes[i]=x at *;refine zeO hH i _ _ _ (by omega) ⟨by rw[Zo,D.lp],by rw[Zo,List.length_set,D.lr],fun j hj=>?_,fun i' y hi' hy j hjm hji=>?_⟩
  ·rw[vL _ _ _ j (by first|(rw[D.lp];omega)|(rw[List.length_set,D.lr];omega)),vL _ _ _ j (by first|(rw[D.lp];omega)|(rw[List.length_set,D.lr];omega))];by_cases e:∃a∈x.kids,a.toNat=j
   ·rw[if_pos e,if_pos e];exact .inr ⟨by omega,rfl⟩
   ·rw[if_neg e,if_neg e,ub,if_neg (by omega)];exact D.eq j (by omega)
  ·rw[vL _ _ _ j (by rw[List.length_set,D.lr];omega)];by_cases e:∃a∈x.kids,a.toNat=j
   ·rw[if_pos e];omega
   ·rw[if_neg e,ub,if_neg (by omega)];have hii:i'≠i:=fun e2=>by
     subst e2;rw[hx] at hy;cases hy;exact e ⟨(j:Int),hjm,by simp⟩
    exact D.got i' y (by omega) hy j hjm (by omega)
theorem VJ(n:Nat):∀(l:List Int) (d:List Nat) (j:Nat),j<d.length->(l.foldl (fun (d:List Nat) k=>d.set k.toNat 1) d).getD j 0=if (∃a∈l,a.toNat=j) then 1 else d.getD j 0
 |[],d,j,_=>by simp
 |a :: r,d,j,h=>by
  rw[List.foldl_cons,VJ n r _ j (by rw[List.length_set];exact h),ub];by_cases e:a.toNat=j
  ·by_cases e2:∃b∈r,b.toNat=j
   ·rw[if_pos e2,if_pos (by obtain⟨b,hb,hbj⟩:=e2;exact⟨b,pY _ hb,hbj⟩)]
   ·rw[if_neg e2,if_pos ⟨e,h⟩,if_pos ⟨a,List.mem_cons_self ..,e⟩]
  ·by_cases e2:∃b∈r,b.toNat=j
   ·rw[if_pos e2,if_pos (by obtain⟨b,hb,hbj⟩:=e2;exact⟨b,pY _ hb,hbj⟩)]
   ·rw[if_neg e2,if_neg (fun h'=>e h'.1),if_neg (by
     rintro ⟨b,hb,hbj⟩;rcases wF.1 hb with rfl|hb
     ·exact e hbj
     ·exact e2 ⟨b,hb,hbj⟩)]
theorem VI:∀(l:List Int) (d:List Nat),(l.foldl (fun (d:List Nat) k=>d.set k.toNat 1) d).length=d.length
 |[],d=>rfl
 |a :: r,d=>by rw[List.foldl_cons,VI r,List.length_set]
theorem Jp(l:List Nd){out:List Nat}:∀(rk:List Int) (p e:Int),KY l out rk p=some e->∀k∈rk,0<=k/\k<=p
 |[],_,_,_,k,hk=>by cases hk
 |k :: r,p,e,h,j,hj=>by
  unfold KY at h;split at h
  ·cases h
  ·rcases wF.1 hj with rfl|hj
   ·omega
   ·have:=Jp l r _ e h j hj;omega
theorem zdV{t:zQ}(hF:xF t.nodes t.nodes.length)(hI:KY t.nodes (qI t.nodes t.nodes.length) t.items.reverse ((t.nodes.length:Int)-1)=some (-1)):ke t=uT t:=by
 unfold ke uT;refine zeO (ziR hF hI) _ _ _ _ (pG _) ⟨by rw[VI,List.length_replicate],List.length_replicate,fun j hj=>.inl ⟨?_,?_⟩,fun i' x hi' hx j hm hj=>?_⟩
 ·simp[pB,hj]
 ·rw[VJ t.nodes.length _ _ j (by rw[List.length_replicate];exact hj)];have e0:(List.replicate t.nodes.length 0).getD j 0=0:=by simp[pB,hj]
  rw[e0];have hiff:(∃a∈t.items,a.toNat=j)↔(j:Int)∈t.items:=by
   constructor
   ·rintro ⟨a,ha,rfl⟩;have:=Jp _ _ _ _ hI a (gI.2 ha);rw[Int.toNat_of_nonneg this.1];exact ha
   ·exact fun h=>⟨_,h,by simp⟩
  by_cases h:(j:Int)∈t.items
  ·rw[if_pos (hiff.2 h),if_pos h]
  ·rw[if_neg (fun h'=>h (hiff.1 h')),if_neg h]
 ·have:=(gtL hx);omega
theorem zdW(p:Int->Bool)(l:List Int)(h:∀x∈l,p x=true):l.countP p=l.length:=List.countP_eq_length.2 h
theorem zfW(p:Int->Bool)(l:List Int)(h:∀x∈l,p x=false):l.countP p=0:=List.countP_eq_zero.2 (fun x hx=>by rw[h x hx];decide)
theorem QX(l:List Nd)(x:Nd)(c:Nat)(hc:c<=x.kids.length)(h1:∀i,i+c<x.kids.length->zE l (x.kids.getD i 0)=88)(h2:∀i,x.kids.length<=i+c->i<x.kids.length->zE l (x.kids.getD i 0)≠88):ZV l x 88=x.kids.length-c:=by
 unfold ZV;rw[<-List.take_append_drop (x.kids.length-c) x.kids,List.countP_append,zdW,zfW]
 ·simp
 ·intro k hk;obtain⟨i,hi,rfl⟩:=List.mem_iff_getElem.1 hk;rw[gH] at hi;rw[List.getElem_drop];have:=h2 (x.kids.length-c+i) (by omega) (by omega);rw[pB,glE (by omega),Option.getD_some] at this;rw[pC];exact this
 ·intro k hk;obtain⟨i,hi,rfl⟩:=List.mem_iff_getElem.1 hk;rw[gG] at hi;rw[List.getElem_take];have:=h1 i (by omega);rw[pB,glE (by omega),Option.getD_some] at this;rw[wC];exact this
theorem zgw{l:List Nd}{x:Nd}(hr:ye l x=true)(hm:x.kids.length<=1000):xJ x=vv l x:=by
 unfold ye at hr;simp only[pJ,pV,List.mem_range,pK] at hr;obtain⟨⟨⟨⟨⟨⟨⟨_,hlo⟩,_⟩,_⟩,_⟩,_⟩,_⟩,hs⟩:=hr;have hfun:(x.kind=102\/x.kind=33)->ZV l x 88=x.kids.length-2/\2<=x.kids.length:=fun hk=>by
  have h2:2<=x.kids.length:=by rcases hk with hk|hk <;> (rw[hk] at hlo;exact hlo)
  have hs':∀i,i<x.kids.length->((decide (i+2<x.kids.length) && zE l (x.kids.getD i 0) == 88) || (decide (i+2=x.kids.length) && xd.type.is (zE l (x.kids.getD i 0))) || (decide (i+1=x.kids.length) && zE l (x.kids.getD i 0) == 28))=true:=fun i hi=>by
   have:=hs i hi;rcases hk with hk|hk <;> (rw[hk] at this;exact this)
  refine⟨QX l x 2 h2 (fun i hi=>?_) (fun i h3 h4=>?_),h2⟩
  ·have:=hs' i (by omega);simp only[wL,pJ,pK,wC] at this;omega
  ·have:=hs' i h4;simp only[wL,pJ,pK,wC,xd.is] at this;omega
 have hext:x.kind=103->ZV l x 88=x.kids.length-1/\1<=x.kids.length:=fun hk=>by
  have h2:1<=x.kids.length:=by rw[hk] at hlo;exact hlo
  have hs':∀i,i<x.kids.length->((decide (i+1<x.kids.length) && zE l (x.kids.getD i 0) == 88) || (decide (i+1=x.kids.length) && xd.type.is (zE l (x.kids.getD i 0))))=true:=fun i hi=>by
   have:=hs i hi;rw[hk] at this;exact this
  refine⟨QX l x 1 h2 (fun i hi=>?_) (fun i h3 h4=>?_),h2⟩
  ·have:=hs' i (by omega);simp only[wL,pJ,pK,wC] at this;omega
  ·have:=hs' i h4;simp only[wL,pJ,pK,wC,xd.is] at this;omega
 have h1000:decide (x.kids.length<=1000)=true:=by rw[pK];exact hm
 unfold xJ vv qZ;generalize hkk:x.kind=k at *;by_cases e1:k=102
 ·subst e1;obtain⟨a,b⟩:=hfun (.inl rfl);simp[a]
 by_cases e2:k=33
 ·subst e2;obtain⟨a,b⟩:=hfun (.inr rfl);simp[a]
 by_cases e3:k=103
 ·subst e3;obtain⟨a,b⟩:=hext rfl;simp[a]
 by_cases e4:k=85
 ·subst e4;simp
 by_cases e5:k=24
 ·subst e5;simp
 by_cases e6:k=100
 ·subst e6;simp
 by_cases e7:k=26
 ·subst e7;simp
 by_cases e8:k=101
 ·subst e8;simp
 by_cases e9:k=89
 ·subst e9;simp
 by_cases e10:k=25
 ·subst e10;simp
 by_cases e11:k=70
 ·subst e11;simp
 by_cases e12:k=35
 ·subst e12;simp
 by_cases e13:k=31
 ·subst e13;simp
 by_cases e14:k=40
 ·subst e14;simp
 simp[e1,e2,e3,e4,e5,e6,e7,e8,e9,e10,e11,e12,e13,e14,hm]
theorem vO{t:zQ}(h:ue t=true):xF t.nodes t.nodes.length/\KY t.nodes (qI t.nodes t.nodes.length) t.items.reverse ((t.nodes.length:Int)-1)=some (-1)/\∀x∈t.nodes,ye t.nodes x=true:=by
 unfold ue at h;rw[pJ] at h;obtain⟨h1,h2⟩:=h;have hF:xF t.nodes t.nodes.length:=by
  have:=Xh t.nodes t.nodes.length;unfold xF;simp at h1;omega
 cases hI:KY t.nodes (qI t.nodes t.nodes.length) t.items.reverse ((t.nodes.length:Int)-1) with
 |none=>rw[hI] at h2;cases h2
 |some e=>
  rw[hI] at h2;simp only[pJ,pV,wC] at h2;exact⟨hF,by rw[h2.2],h2.1⟩
theorem vf(t:zQ)(hm:∀x∈t.nodes,x.kids.length<=1000):zW t=yp t:=by
 unfold zW yp;rw[za1 t (fun x hx=>by have:=hm x hx;omega)];cases hf:ue t with
 |false=>rfl
 |true=>
  obtain⟨hF,hI,hR⟩:=vO hf;rw[zdV hF hI];have:(t.nodes.any fun x=> !xJ x)=t.nodes.any fun x=> !vv t.nodes x:=by
   rw[pS,gC,gC];constructor <;> (rintro ⟨x,hx,h⟩;refine⟨x,hx,?_⟩;have e:=zgw (hR x hx) (hm x hx);first|(rw[e] at h;exact h)|(rw[e];exact h))
  rw[this]
end Lode
