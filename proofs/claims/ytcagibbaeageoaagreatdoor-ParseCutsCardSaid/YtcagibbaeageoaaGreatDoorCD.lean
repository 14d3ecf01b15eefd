/-
  A part of the proof: contracts of functions; no conditions.
-/
import Derived.Test.YtcagibbaeageoaaGreatDoorCC
set_option maxRecDepth 100000
set_option maxHeartbeats 40000000
set_option linter.unusedSimpArgs false
set_option linter.unusedVariables false
namespace Lode
structure Nd where
 kind:Nat
 text:List UInt8
 n:Int
 kids:List Int
 at_:Int
 deriving DecidableEq
structure yI where
 nodes:List Nd
 items:List Int
 next:Nat
structure zI where
 toks:List xQ
 len:Nat
inductive qv (α:Type) where
 |ok (a:α) (s:yI):qv α
 |bad (p:Int):qv α
def PM(α:Type):Type:=zI->yI->qv α
def PM.ret{α:Type}(a:α):PM α:=fun _ s=>.ok a s
def PM.bind{α β:Type}(m:PM α)(f:α->PM β):PM β:=fun E s=>match m E s with
 | .ok a s'=>f a E s'
 | .bad p=>.bad p
instance:Monad PM where
 pure:=PM.ret
 bind:=PM.bind
def zR(E:zI)(s:yI):xQ:=(E.toks[s.next]?).getD ⟨0,[],E.len⟩
def YH:PM xQ:=fun E s=>.ok (zR E s) s
def zhP{α:Type}:PM α:=fun E s=>.bad (zR E s).at_
def Ye(t:xQ)(l:List (List UInt8)):Bool:=(t.kind == 5 || t.kind == 6) && l.contains t.text
def XO(l:List (List UInt8)):PM Bool:=fun E s=>.ok (Ye (zR E s) l) s
def jz:PM Unit:=fun _ s=>.ok () {s with next:=s.next+1}
def Zt:PM xQ:=fun E s=>.ok (zR E s) {s with next:=s.next+1}
def zV(x:List UInt8):PM xQ:=fun E s=>if Ye (zR E s) [x] then .ok (zR E s) {s with next:=s.next+1} else .bad (zR E s).at_
def xT(k:Nat):PM xQ:=fun E s=>if (zR E s).kind == k then .ok (zR E s) {s with next:=s.next+1} else .bad (zR E s).at_
def yz(x:List UInt8):PM Bool:=fun E s=>if Ye (zR E s) [x] then .ok true {s with next:=s.next+1} else .ok false s
def zY(kind:Nat)(text:List UInt8)(n at_:Int)(kids:List Int):PM Int:=fun _ s=>.ok s.nodes.length {s with nodes:=s.nodes ++ [⟨kind,text,n,kids,at_⟩]}
def ze3(k:Int):PM Nat:=fun _ s=>.ok ((s.nodes[k.toNat]?).elim 0 Nd.kind) s
def vL:Nat->PM Int->List Int->PM (List Int)
 |0,_,_=>fun _ _=>.bad 0
 |k+1,part,acc=>do
  let x <-part
  if <-yz [44] then vL k part (acc ++ [x]) else pure (acc ++ [x])
def vZ(part:PM Int):PM (List Int):=fun E s=>vL (E.toks.length+1) part [] E s
def jf(part:PM Int):PM (List Int):=do
 let _ <-zV [123]
 let l <-vZ part
 let _ <-zV [125]
 pure l
def jx(part:PM Int):PM (List Int):=do
 if <-yz [40] then
  let l <-vZ part
  let _ <-zV [41]
  pure l
 else pure []
structure xU where
 expr:PM Int
 unary:PM Int
 bin2:PM Int
 block:PM Int
 branch:PM Int
 kind:PM Int
 pattern:PM Int
def Zb(R:xU):PM Int:=do
 let t <-xT 1
 let _ <-zV [58]
 let k <-R.kind
 zY 88 t.text 0 t.at_ [k]
def QM(R:xU):PM Int:=do
 let t <-xT 2
 let l <-jx R.kind
 zY 89 t.text 0 t.at_ l
def Ym(R:xU):PM (List Int):=do
 let _ <-zV [40]
 let l <-(do if <-XO [[41]] then pure [] else vZ (Zb R):PM (List Int))
 let _ <-zV [41]
 let _ <-zV [58]
 let k <-R.kind
 pure (l ++ [k])
def QV(R:xU):PM Int:=do
 let t <-YH
 if t.kind == 2 then
  jz
  zY 84 t.text 0 t.at_ []
 else if <-yz [105,110,116] then zY 80 [] 0 t.at_ []
 else if <-yz [98,111,111,108] then zY 81 [] 0 t.at_ []
 else if <-yz [116,101,120,116] then zY 82 [] 0 t.at_ []
 else if <-yz [117,110,105,116] then zY 83 [] 0 t.at_ []
 else if <-yz [99,104,97,110] then
  let k <-R.kind
  zY 86 [] 0 t.at_ [k]
 else if <-yz [119,101,97,107] then
  let k <-R.kind
  zY 87 [] 0 t.at_ [k]
 else
  let _ <-zV [102,110]
  let _ <-zV [40]
  let l <-(do if <-XO [[41]] then pure [] else vZ R.kind:PM (List Int))
  let _ <-zV [41]
  let _ <-zV [58]
  let k <-R.kind
  zY 85 [] 0 t.at_ (l ++ [k])
def Yk(R:xU):PM (Int×Bool):=do
 let t <-YH
 if <-yz [108,101,116] then
  let m <-xT 1
  let _ <-zV [61]
  let x <-R.expr
  let r <-zY 60 m.text 0 t.at_ [x]
  pure (r,false)
 else if <-yz [118,97,114] then
  let m <-xT 1
  let _ <-zV [61]
  let x <-R.expr
  let r <-zY 61 m.text 0 t.at_ [x]
  pure (r,false)
 else
  let left <-R.expr
  if <-XO [[58,61]] then
   let k <-ze3 left
   if k == 5 || k == 23 then
    let u <-Zt
    let x <-R.expr
    let r <-zY 62 [] 0 u.at_ [left,x]
    pure (r,false)
   else zhP
  else pure (left,true)
def qP(R:xU):Nat->List Int->PM (List Int×Int)
 |0,_=>fun _ _=>.bad 0
 |k+1,acc=>do
  if <-XO [[125]] then pure (acc,0)
  else
   let x <-Yk R
   if x.2 && (<-XO [[125]]) then pure (acc ++ [x.1],1)
   else
    let _ <-zV [59]
    qP R k (acc ++ [x.1])
def ZN(R:xU):PM Int:=do
 let t <-zV [123]
 let x <-(fun E s=>qP R (E.toks.length+1) [] E s:PM (List Int×Int))
 let _ <-zV [125]
 zY 28 [] x.2 t.at_ x.1
def yX:Nat->List (List UInt8)
 |0=>[[111,114]]
 |1=>[[97,110,100]]
 |2=>[[61,61],[33,61],[60],[60,61],[62],[62,61],[105,115]]
 |3=>[[43],[45],[43,43]]
 |_=>[[42],[47],[37]]
def qU:Nat->List Nat
 |0=>[22]
 |1=>[21]
 |2=>[14,15,16,17,18,19,20]
 |3=>[8,9,10]
 |_=>[11,12,13]
def Ki(at_:Nat)(t:List UInt8):Nat:=(qU at_).getD ((yX at_).idxOf t) 0
def Vj(at_:Nat)(tight:PM Int):Nat->Int->PM Int
 |0,_=>fun _ _=>.bad 0
 |k+1,left=>do
  if <-XO (yX at_) then
   let t <-Zt
   let r <-tight
   let x <-zY (Ki at_ t.text) [] 0 t.at_ [left,r]
   if at_ == 2 then pure x else Vj at_ tight k x
  else pure left
def ZD(at_:Nat)(tight:PM Int):PM Int:=do
 let left <-tight
 (fun E s=>Vj at_ tight (E.toks.length+1) left E s:PM Int)
def zJ:List (List UInt8×Nat×Int):=[([105,110],44,0),([121,105,101,108,100],45,0),([99,111,108,108,101,99,116],46,0),([115,101,110,100],41,2),([114,101,99,118],42,1),([111,117,116],43,1),([115,105,122,101],47,1),([115,104,111,119],50,1),([114,101,97,100],51,1),([98,121,116,101],48,2),([99,117,116],49,3),([116,104,114,111,119],37,-1),([115,112,97,119,110],38,-1),([119,101,97,107],39,-1)]
def kS(s:List UInt8):Option (Nat×Int):=(zJ.find? fun w=>w.1 == s).map (·.2)
def jy(R:xU):Nat->Bool->List Int->PM (List Int)
 |0,_,acc=>pure acc
 |k+1,first,acc=>do
  let _ <-(do if first then pure () else (do let _ <-zV [44];pure ()):PM Unit)
  let x <-R.expr
  jy R k false (acc ++ [x])
def kX(R:xU)(t:xQ)(w:Nat×Int):PM Int:=do
 let kids <-(do
  if w.2<0 then
   let x <-R.unary
   pure [x]
  else if 0<w.2 then
   let _ <-zV [40]
   let l <-jy R w.2.toNat true []
   let _ <-zV [41]
   pure l
  else pure []:PM (List Int))
 zY w.1 [] 0 t.at_ kids
def uJ(t:xQ):Int:=xy t.text
def zcf(R:xU):PM Int:=do
 let t <-xT 1
 let _ <-zV [58]
 let x <-R.expr
 zY 27 t.text 0 t.at_ [x]
def zcg(R:xU):PM Int:=do
 let p <-R.pattern
 let t <-zV [61,62]
 let x <-R.expr
 zY 32 [] 0 t.at_ [p,x]
def Yj(R:xU):Nat->List Int->PM (List Int)
 |0,_=>fun _ _=>.bad 0
 |k+1,acc=>do
  let t <-YH
  if <-yz [114,101,99,118] then
   let x <-R.expr
   let _ <-zV [97,115]
   let m <-xT 1
   let _ <-zV [61,62]
   let y <-R.expr
   let r <-zY 63 m.text 0 t.at_ [x,y]
   if <-yz [44] then Yj R k (acc ++ [r]) else pure (acc ++ [r])
  else if <-yz [115,101,110,100] then
   let x <-R.expr
   let _ <-zV [44]
   let y <-R.expr
   let _ <-zV [61,62]
   let z <-R.expr
   let r <-zY 64 [] 0 t.at_ [x,y,z]
   if <-yz [44] then Yj R k (acc ++ [r]) else pure (acc ++ [r])
  else
   let _ <-zV [101,108,115,101]
   let _ <-zV [61,62]
   let x <-R.expr
   let r <-zY 65 [] 0 t.at_ [x]
   pure (acc ++ [r])
def vY(R:xU):PM (List Int):=do
 let _ <-zV [123]
 let l <-(fun E s=>Yj R (E.toks.length+1) [] E s:PM (List Int))
 let _ <-zV [125]
 pure l
def vh(R:xU):PM Int:=do
 let t <-zV [105,102]
 let c <-R.expr
 let b <-R.block
 if <-yz [101,108,115,101] then
  if <-XO [[105,102]] then
   let x <-R.branch
   zY 29 [] 0 t.at_ [c,b,x]
  else
   let x <-R.block
   zY 29 [] 0 t.at_ [c,b,x]
 else zY 29 [] 0 t.at_ [c,b]
def ql(R:xU)(t:xQ):PM Int:=do
 if <-XO [[105,102]] then vh R
 else if <-yz [119,104,105,108,101] then
  let c <-R.expr
  let b <-R.block
  zY 30 [] 0 t.at_ [c,b]
 else if <-yz [109,97,116,99,104] then
  let c <-R.expr
  let l <-jf (zcg R)
  zY 31 [] 0 t.at_ (c :: l)
 else if <-yz [102,110] then
  let l <-Ym R
  let b <-R.block
  zY 33 [] 0 t.at_ (l ++ [b])
 else if <-yz [116,114,121] then
  let b <-R.block
  let _ <-zV [99,97,116,99,104]
  let m <-xT 1
  let c <-R.block
  zY 34 m.text 0 t.at_ [b,c]
 else if <-yz [104,111,108,100] then
  let x <-R.expr
  let _ <-zV [97,115]
  let m <-xT 1
  let b <-R.block
  let _ <-zV [101,108,115,101]
  let c <-R.block
  zY 36 m.text 0 t.at_ [x,b,c]
 else if <-yz [110,101,119] then
  let m <-xT 2
  let l <-jf (zcf R)
  zY 26 m.text 0 t.at_ l
 else if <-yz [99,104,97,110] then
  let k <-R.kind
  let _ <-zV [40]
  let m <-xT 3
  let _ <-zV [41]
  zY 40 [] (uJ m) t.at_ [k]
 else
  let _ <-zV [115,101,108,101,99,116]
  let l <-vY R
  zY 35 [] 0 t.at_ l
def Yn(R:xU):PM Int:=do
 let t <-YH
 if t.kind == 3 then
  jz
  zY 1 [] (uJ t) t.at_ []
 else if t.kind == 4 then
  jz
  zY 2 t.text 0 t.at_ []
 else if t.kind == 1 then
  jz
  zY 5 t.text 0 t.at_ []
 else if t.kind == 2 then
  jz
  let l <-jx R.expr
  zY 25 t.text 0 t.at_ l
 else if <-yz [40] then
  if <-yz [41] then zY 4 [] 0 t.at_ []
  else
   let x <-R.expr
   let _ <-zV [41]
   pure x
 else if <-yz [116,114,117,101] then zY 3 [] 1 t.at_ []
 else if <-yz [102,97,108,115,101] then zY 3 [] 0 t.at_ []
 else match kS t.text with
  |some w=>if t.kind == 5 then (do jz;kX R t w) else ql R t
  |none=>ql R t
def Yl(R:xU):Nat->Int->PM Int
 |0,_=>fun _ _=>.bad 0
 |k+1,left=>do
  let t <-YH
  if <-yz [46] then
   let m <-xT 1
   let x <-zY 23 m.text 0 t.at_ [left]
   Yl R k x
  else if <-yz [40] then
   let l <-(do if <-XO [[41]] then pure [] else vZ R.expr:PM (List Int))
   let _ <-zV [41]
   let x <-zY 24 [] 0 t.at_ (left :: l)
   Yl R k x
  else pure left
def Zm(R:xU):PM Int:=do
 if <-XO [[45]] then
  let t <-Zt
  let x <-R.unary
  zY 6 [] 0 t.at_ [x]
 else
  let left <-Yn R
  (fun E s=>Yl R (E.toks.length+1) left E s:PM Int)
def zkl(R:xU):PM Int:=ZD 4 (Zm R)
def zag(R:xU):PM Int:=ZD 3 (zkl R)
def XF(R:xU):PM Int:=do
 if <-XO [[110,111,116]] then
  let t <-Zt
  let x <-R.bin2
  zY 7 [] 0 t.at_ [x]
 else ZD 2 (zag R)
def ziq(R:xU):PM Int:=ZD 0 (ZD 1 (XF R))
def kN(R:xU):PM Int:=do
 let t <-YH
 if t.kind == 1 then
  jz
  zY 66 t.text 0 t.at_ []
 else if t.kind == 3 then
  jz
  zY 67 [] (uJ t) t.at_ []
 else if t.kind == 4 then
  jz
  zY 68 t.text 0 t.at_ []
 else if t.kind == 2 then
  jz
  let l <-jx R.pattern
  zY 70 t.text 0 t.at_ l
 else if <-yz [116,114,117,101] then zY 69 [] 1 t.at_ []
 else if <-yz [102,97,108,115,101] then zY 69 [] 0 t.at_ []
 else
  let _ <-zV [45]
  let m <-xT 3
  zY 67 [] (-(uJ m)) t.at_ []
def zkj:xU:=⟨fun _ _=>.bad 0,fun _ _=>.bad 0,fun _ _=>.bad 0,fun _ _=>.bad 0,fun _ _=>.bad 0,fun _ _=>.bad 0,fun _ _=>.bad 0⟩
def YE:Nat->xU
 |0=>zkj
 |n+1=>⟨ziq (YE n),Zm (YE n),XF (YE n),ZN (YE n),vh (YE n),QV (YE n),kN (YE n)⟩
def Xq(R:xU):PM Int:=do
 let t <-YH
 if <-yz [99,108,97,115,115] then
  let m <-xT 2
  let l <-jf (Zb R)
  zY 100 m.text 0 t.at_ l
 else if <-yz [107,105,110,100] then
  let m <-xT 2
  let l <-jf (QM R)
  zY 101 m.text 0 t.at_ l
 else if <-yz [101,120,116,101,114,110] then
  let _ <-zV [102,117,110]
  let m <-xT 1
  let l <-Ym R
  let _ <-zV [59]
  zY 103 m.text 0 t.at_ l
 else if <-yz [114,111,111,116] then
  let m <-xT 1
  let _ <-zV [58]
  let k <-R.kind
  let _ <-zV [61]
  let x <-R.expr
  let _ <-zV [59]
  zY 104 m.text 0 t.at_ [k,x]
 else
  let pure_ <-yz [112,117,114,101]
  let _ <-zV [102,117,110]
  let m <-xT 1
  let l <-Ym R
  let b <-R.block
  zY 102 m.text (if pure_ then 1 else 0) t.at_ (l ++ [b])
def Zc(R:xU):Nat->PM Unit
 |0=>fun _ _=>.bad 0
 |k+1=>fun E s=>if s.next<E.toks.length then match Xq R E s with
  | .ok i s'=>Zc R k E {s' with items:=s'.items ++ [i]}
  | .bad p=>.bad p
  else .ok () s
def vK(l:List xQ)(len:Nat):qv Unit:=Zc (YE (l.length+1)) (l.length+1) ⟨l,len⟩ ⟨[],[],0⟩
def Vd(s:yI)(a:Int):Prop:=0<=a/\a<s.nodes.length
def WFs(s:yI):Prop:=∀(i:Nat) (x:Nd),s.nodes[i]? =some x->∀k∈x.kids,0<=k/\k<i
structure Nx(E:zI)(d:Int)(s s':yI):Prop where
 next:s.next<=s'.next
 le:s'.next<=E.toks.length
 cr:(s'.nodes.length:Int)-s.nodes.length+d<=(s'.next:Int)-s.next
 wf:WFs s'
 pre:∃r,s'.nodes=s.nodes ++ r
 it:s'.items=s.items
theorem Nx.refl{E:zI}{s:yI}(h:s.next<=E.toks.length)(hw:WFs s):Nx E 0 s s:=⟨pF _,h,by omega,hw,⟨[],(gI _).symm⟩,rfl⟩
theorem Nx.trans{E:zI}{d e:Int}{a b c:yI}(h:Nx E d a b)(k:Nx E e b c):Nx E (d+e) a c:=by
 obtain⟨r,hr⟩:=h.pre;obtain⟨q,hq⟩:=k.pre;have h1:=h.cr;have h2:=k.cr;exact⟨pQ h.next k.next,k.le,by omega,k.wf,⟨r ++ q,by rw[hq,hr,List.append_assoc]⟩,k.it.trans h.it⟩
theorem Nx.down{E:zI}{d e:Int}{a b:yI}(h:Nx E d a b)(hd:e<=d):Nx E e a b:=⟨h.next,h.le,by have:=h.cr;omega,h.wf,h.pre,h.it⟩
theorem Vd.later{E:zI}{d:Int}{s s':yI}{a:Int}(h:Vd s a)(n:Nx E d s s'):Vd s' a:=by
 obtain⟨r,hr⟩:=n.pre;refine⟨h.1,?_⟩;rw[hr,pG];have:=h.2;omega
def Gd{α:Type}(d:Int)(Q:yI->α->Prop)(m:PM α):Prop:=∀{E:zI} {s:yI} {a:α} {s':yI},s.next<=E.toks.length->WFs s->m E s=.ok a s'->Nx E d s s'/\Q s' a
theorem zy{α β:Type}{m:PM α}{f:α->PM β}{E:zI}{s s':yI}{b:β}(h:(m >>= f) E s=.ok b s'):∃a s1,m E s=.ok a s1/\f a E s1=.ok b s':=by
 change PM.bind m f E s=_ at h;unfold PM.bind at h;cases hm:m E s with
 |ok a s1=>rw[hm] at h;exact⟨a,s1,rfl,h⟩
 |bad p=>rw[hm] at h;cases h
theorem yJ{α:Type}{a b:α}{E:zI}{s s':yI}(h:(pure a:PM α) E s=.ok b s'):b=a/\s'=s:=by
 change qv.ok a s=_ at h;cases h;exact⟨rfl,rfl⟩
theorem kV{E:zI}{s:yI}{l:List (List UInt8)}(h:Ye (zR E s) l=true):s.next<E.toks.length:=by
 rcases Nat.lt_or_ge s.next E.toks.length with h'|h'
 ·exact h'
 ·simp[Ye,zR,wY h'] at h
theorem qC{E:zI}{s:yI}{k:Nat}(h:(zR E s).kind=k)(hk:k≠0):s.next<E.toks.length:=by
 rcases Nat.lt_or_ge s.next E.toks.length with h'|h'
 ·exact h'
 ·simp[zR,wY h'] at h;exact absurd h.symm hk
theorem Xe{E:zI}{s:yI}(h:s.next<E.toks.length)(hw:WFs s):Nx E 1 s {s with next:=s.next+1}:=⟨Nat.le_succ _,h,by simp;omega,hw,⟨[],(gI _).symm⟩,rfl⟩
theorem zq{x:List UInt8}:Gd 1 (fun _ _=>True) (zV x):=by
 intro E s a s' h0 hw h;unfold zV at h;split at h
 ·rename_i hi;cases h;exact⟨Xe (kV hi) hw,trivial⟩
 ·cases h
theorem yo{k:Nat}(hk:k≠0):Gd 1 (fun _ _=>True) (xT k):=by
 intro E s a s' h0 hw h;unfold xT at h;split at h
 ·rename_i hi;cases h;exact⟨Xe (qC (by simpa using hi) hk) hw,trivial⟩
 ·cases h
theorem Zf{x:List UInt8}{E:zI}{s s':yI}{b:Bool}(h0:s.next<=E.toks.length)(hw:WFs s)(h:yz x E s=.ok b s'):Nx E (if b then 1 else 0) s s':=by
 unfold yz at h;split at h
 ·rename_i hi;cases h;exact Xe (kV hi) hw
 ·cases h;exact Nx.refl h0 hw
theorem zjC{x:List UInt8}:Gd 0 (fun _ _=>True) (yz x):=by
 intro E s b s' h0 hw h;have:=Zf h0 hw h;cases b
 ·exact⟨this,trivial⟩
 ·exact⟨this.down (by decide),trivial⟩
theorem gb{α β:Type}{m:PM α}{f:α->PM β}{E:zI}{s0 s s':yI}{b:β}{d0 d:Int}{Q:yI->α->Prop}(h:(m >>= f) E s=.ok b s')(N:Nx E d0 s0 s)(g:Gd d Q m):∃a s1,Nx E d s s1/\Q s1 a/\Nx E (d0+d) s0 s1/\f a E s1=.ok b s':=by
 obtain⟨a,s1,h1,h⟩:=zy h;obtain⟨n,v⟩:=g N.le N.wf h1;exact⟨a,s1,n,v,N.trans n,h⟩
theorem gm{β:Type}{x:List UInt8}{f:Bool->PM β}{E:zI}{s0 s s':yI}{b:β}{d0:Int}(h:(yz x >>= f) E s=.ok b s')(N:Nx E d0 s0 s):∃a s1,Nx E (if a then 1 else 0) s s1/\yz x E s=.ok a s1/\Nx E (d0+if a then 1 else 0) s0 s1/\f a E s1=.ok b s':=by
 obtain⟨a,s1,h1,h⟩:=zy h;have n:=Zf N.le N.wf h1;exact⟨a,s1,n,h1,N.trans n,h⟩
theorem qu{E:zI}{s0 s s':yI}{d0 d e:Int}{p:Prop}(N:Nx E d0 s0 s)(g:Nx E d s s'/\p)(he:e<=d0+d):Nx E e s0 s'/\p:=⟨(N.trans g.1).down he,g.2⟩
theorem zii{l:List (List UInt8)}:Gd 0 (fun _ _=>True) (XO l):=by
 intro E s b s' h0 hw h;cases h;exact⟨Nx.refl h0 hw,trivial⟩
theorem zP{kind:Nat}{text:List UInt8}{n at_:Int}{kids:List Int}{E:zI}{s s':yI}{a:Int}(h0:s.next<=E.toks.length)(hw:WFs s)(hk:∀k∈kids,Vd s k)(h:zY kind text n at_ kids E s=.ok a s'):Nx E (-1) s s'/\Vd s' a:=by
 cases h;refine⟨⟨pF _,h0,by simp;omega,fun i x hx k hkm=>?_,⟨_,rfl⟩,rfl⟩,⟨by omega,by simp;omega⟩⟩;rw[List.getElem?_append] at hx;split at hx
 ·exact hw i x hx k hkm
 ·rename_i hi;have hz:i-s.nodes.length=0\/0<i-s.nodes.length:=by omega
  rcases hz with hz|hz
  ·rw[hz] at hx;cases hx;have:=hk k hkm;exact⟨this.1,by have:=this.2;omega⟩
  ·rw[wY (by simp;omega)] at hx;cases hx
structure yO(R:xU):Prop where
 expr:Gd 0 Vd R.expr
 unary:Gd 0 Vd R.unary
 bin2:Gd 0 Vd R.bin2
 block:Gd 0 Vd R.block
 branch:Gd 0 Vd R.branch
 kind:Gd 0 Vd R.kind
 pattern:Gd 0 Vd R.pattern
def Jw(s:yI)(l:List Int):Prop:=∀k∈l,Vd s k
theorem Jw.later{E:zI}{d:Int}{s s':yI}{l:List Int}(h:Jw s l)(n:Nx E d s s'):Jw s' l:=fun k hk=>(h k hk).later n
theorem Jw.snoc{s:yI}{l:List Int}{a:Int}(h:Jw s l)(ha:Vd s a):Jw s (l ++ [a]):=fun k hk=>by
 rw[wM,wU] at hk;rcases hk with hk|rfl
 ·exact h k hk
 ·exact ha
theorem zcu{part:PM Int}(hp:Gd 0 Vd part):∀(n:Nat) (acc:List Int) {E:zI} {s:yI} {a:List Int} {s':yI},s.next<=E.toks.length->WFs s->Jw s acc->vL n part acc E s=.ok a s'->Nx E 0 s s'/\Jw s' a
 |0,_,_,_,_,_,_,_,_,h=>by cases h
 |n+1,acc,E,s,a,s',h0,hw,ha,h=>by
  unfold vL at h;obtain⟨x,s1,h1,h⟩:=zy h;obtain⟨n1,v1⟩:=hp h0 hw h1;obtain⟨b,s2,h2,h⟩:=zy h;have n2:=Zf n1.le n1.wf h2;have n3:=n1.trans n2;have hacc:=(ha.later n3).snoc (v1.later n2);cases b with
  |true=>
   obtain⟨n4,v4⟩:=zcu hp n (acc ++ [x]) n3.le n3.wf hacc h;exact⟨(n3.trans n4).down (by decide),v4⟩
  |false=>
   obtain⟨rfl,rfl⟩:=yJ h;exact⟨n3.down (by decide),hacc⟩
theorem ud{part:PM Int}(hp:Gd 0 Vd part):Gd 0 Jw (vZ part):=fun h0 hw h=>zcu hp _ [] h0 hw (fun k hk=>by cases hk) h
theorem JE{s:yI}:∀k∈([]:List Int),Vd s k:=fun k hk=>by cases hk
theorem Yd{s:yI}{a:Int}(h:Vd s a):∀k∈[a],Vd s k:=fun k hk=>by
 rw[wU] at hk;rw[hk];exact h
theorem Jj{s:yI}{a:Int}{l:List Int}(h:Vd s a)(hl:∀k∈l,Vd s k):∀k∈a :: l,Vd s k:=fun k hk=>by
 rcases pS.1 hk with rfl|hk
 ·exact h
 ·exact hl k hk
theorem vda{s:yI}{a:Int}{l:List Int}(hl:Jw s l)(h:Vd s a):∀k∈l ++ [a],Vd s k:=hl.snoc h
theorem jG{part:PM Int}(hp:Gd 0 Vd part):Gd 2 Jw (jf part):=by
 intro E s a s' h0 hw h;have N:=Nx.refl h0 hw;unfold jf at h;obtain⟨x,sx,nx,vx,N,h⟩:=gb h N (zq);obtain⟨l,sl,nl,vl,N,h⟩:=gb h N (ud hp);obtain⟨y,sy,ny,vy,N,h⟩:=gb h N (zq);replace vl:=vl.later ny;obtain⟨rfl,rfl⟩:=yJ h;exact⟨N.down (by decide),vl⟩
theorem uF{part:PM Int}(hp:Gd 0 Vd part):Gd 0 Jw (jx part):=by
 intro E s a s' h0 hw h;have N:=Nx.refl h0 hw;unfold jx at h;obtain⟨b,sb,nb,hb,N,h⟩:=gm h N;cases b with
 |true=>
  rw[if_pos rfl] at h;obtain⟨l,sl,nl,vl,N,h⟩:=gb h N (ud hp);obtain⟨y,sy,ny,vy,N,h⟩:=gb h N (zq);replace vl:=vl.later ny;obtain⟨rfl,rfl⟩:=yJ h;exact⟨N.down (by decide),vl⟩
 |false=>
  rw[if_neg (by decide)] at h;obtain⟨rfl,rfl⟩:=yJ h;exact⟨N.down (by decide),JE⟩
theorem uH{R:xU}(hR:yO R):Gd 0 Vd (Zb R):=by
 intro E s a s' h0 hw h;have N:=Nx.refl h0 hw;unfold Zb at h;obtain⟨t,st,nt,vt,N,h⟩:=gb h N ((yo (by decide)));obtain⟨x,sx,nx,vx,N,h⟩:=gb h N (zq);obtain⟨k,sk,nk,vk,N,h⟩:=gb h N (hR.kind);exact qu N (zP N.le N.wf (Yd vk) h) (by decide)
theorem zbb{R:xU}(hR:yO R):Gd 0 Vd (QM R):=by
 intro E s a s' h0 hw h;have N:=Nx.refl h0 hw;unfold QM at h;obtain⟨t,st,nt,vt,N,h⟩:=gb h N ((yo (by decide)));obtain⟨l,sl,nl,vl,N,h⟩:=gb h N ((uF hR.kind));exact qu N (zP N.le N.wf (vl) h) (by decide)
theorem Qp{part:PM Int}{w:List (List UInt8)}(hp:Gd 0 Vd part):Gd 0 Jw (do if <-XO w then pure [] else vZ part:PM (List Int)):=by
 intro E s a s' h0 hw h;have N:=Nx.refl h0 hw;obtain⟨b,sb,nb,vb,N,h⟩:=gb h N (zii);cases b with
 |true=>
  rw[if_pos rfl] at h;obtain⟨rfl,rfl⟩:=yJ h;exact⟨N.down (by decide),JE⟩
 |false=>
  rw[if_neg (by decide)] at h;obtain⟨nl,vl⟩:=ud hp N.le N.wf h;exact⟨(N.trans nl).down (by decide),vl⟩
theorem Zk{R:xU}(hR:yO R):Gd 3 Jw (Ym R):=by
 intro E s a s' h0 hw h;have N:=Nx.refl h0 hw;unfold Ym at h;obtain⟨x,sx,nx,vx,N,h⟩:=gb h N (zq);obtain⟨l,sl,nl,vl,N,h⟩:=gb h N ((Qp (uH hR)));obtain⟨y,sy,ny,vy,N,h⟩:=gb h N (zq);replace vl:=vl.later ny;obtain⟨z,sz,nz,vz,N,h⟩:=gb h N (zq);replace vl:=vl.later nz;obtain⟨k,sk,nk,vk,N,h⟩:=gb h N (hR.kind);replace vl:=vl.later nk;obtain⟨rfl,rfl⟩:=yJ h;exact⟨N.down (by decide),vl.snoc vk⟩
theorem kr{E:zI}{s s':yI}{u:Unit}(hlt:s.next<E.toks.length)(hw:WFs s)(h:jz E s=.ok u s'):Nx E 1 s s':=by
 cases h;exact Xe hlt hw
theorem zjI{R:xU}(hR:yO R):Gd 0 Vd (QV R):=by
 intro E s a s' h0 hw h;have N:=Nx.refl h0 hw;unfold QV at h;obtain⟨t,s0,h1,h⟩:=zy h;cases h1;split at h
 ·rename_i hk;obtain⟨u,s1,h1,h⟩:=zy h;have n1:=kr (qC (k:=2) (by simpa using hk) (by decide)) hw h1;replace N:=N.trans n1;exact qu N (zP N.le N.wf (JE) h) (by decide)
 ·obtain⟨a1,sa1,na1,ha1,N,h⟩:=gm h N;cases a1 with
  |true=>
   rw[if_pos rfl] at h;exact qu N (zP N.le N.wf (JE) h) (by decide)
  |false=>
  rw[if_neg (by decide)] at h;obtain⟨a2,sa2,na2,ha2,N,h⟩:=gm h N;cases a2 with
  |true=>
   rw[if_pos rfl] at h;exact qu N (zP N.le N.wf (JE) h) (by decide)
  |false=>
  rw[if_neg (by decide)] at h;obtain⟨a3,sa3,na3,ha3,N,h⟩:=gm h N;cases a3 with
  |true=>
   rw[if_pos rfl] at h;exact qu N (zP N.le N.wf (JE) h) (by decide)
  |false=>
  rw[if_neg (by decide)] at h;obtain⟨a4,sa4,na4,ha4,N,h⟩:=gm h N;cases a4 with
  |true=>
   rw[if_pos rfl] at h;exact qu N (zP N.le N.wf (JE) h) (by decide)
  |false=>
  rw[if_neg (by decide)] at h;obtain⟨a5,sa5,na5,ha5,N,h⟩:=gm h N;cases a5 with
  |true=>
   rw[if_pos rfl] at h;obtain⟨k,sk,nk,vk,N,h⟩:=gb h N (hR.kind);exact qu N (zP N.le N.wf (Yd vk) h) (by decide)
  |false=>
  rw[if_neg (by decide)] at h;obtain⟨a6,sa6,na6,ha6,N,h⟩:=gm h N;cases a6 with
  |true=>
   rw[if_pos rfl] at h;obtain⟨k,sk,nk,vk,N,h⟩:=gb h N (hR.kind);exact qu N (zP N.le N.wf (Yd vk) h) (by decide)
  |false=>
  rw[if_neg (by decide)] at h;obtain⟨x,sx,nx,vx,N,h⟩:=gb h N (zq);obtain⟨y,sy,ny,vy,N,h⟩:=gb h N (zq);obtain⟨l,sl,nl,vl,N,h⟩:=gb h N ((Qp hR.kind));obtain⟨z,sz,nz,vz,N,h⟩:=gb h N (zq);replace vl:=vl.later nz;obtain⟨q,sq,nq,vq,N,h⟩:=gb h N (zq);replace vl:=vl.later nq;obtain⟨k,sk,nk,vk,N,h⟩:=gb h N (hR.kind);replace vl:=vl.later nk;exact qu N (zP N.le N.wf (vda vl vk) h) (by decide)
theorem kq{E:zI}{s s':yI}{t:xQ}(hlt:s.next<E.toks.length)(hw:WFs s)(h:Zt E s=.ok t s'):Nx E 1 s s':=by
 cases h;exact Xe hlt hw
theorem zeQ{R:xU}(hR:yO R):Gd 0 (fun s (x:Int×Bool)=>Vd s x.1) (Yk R):=by
 intro E s a s' h0 hw h;have N:=Nx.refl h0 hw;unfold Yk at h;obtain⟨t,s0,h1,h⟩:=zy h;cases h1;obtain⟨a1,sa1,na1,ha1,N,h⟩:=gm h N;cases a1 with
 |true=>
  rw[if_pos rfl] at h;obtain⟨m,sm,nm,vm,N,h⟩:=gb h N ((yo (by decide)));obtain⟨x,sx,nx,vx,N,h⟩:=gb h N (zq);obtain⟨e,se,ne,ve,N,h⟩:=gb h N (hR.expr);obtain⟨r,s9,h9,h⟩:=zy h;obtain⟨nz,vz⟩:=zP N.le N.wf (Yd ve) h9;obtain⟨rfl,rfl⟩:=yJ h;exact⟨(N.trans nz).down (by decide),vz⟩
 |false=>
 rw[if_neg (by decide)] at h;obtain⟨a2,sa2,na2,ha2,N,h⟩:=gm h N;cases a2 with
 |true=>
  rw[if_pos rfl] at h;obtain⟨m,sm,nm,vm,N,h⟩:=gb h N ((yo (by decide)));obtain⟨x,sx,nx,vx,N,h⟩:=gb h N (zq);obtain⟨e,se,ne,ve,N,h⟩:=gb h N (hR.expr);obtain⟨r,s9,h9,h⟩:=zy h;obtain⟨nz,vz⟩:=zP N.le N.wf (Yd ve) h9;obtain⟨rfl,rfl⟩:=yJ h;exact⟨(N.trans nz).down (by decide),vz⟩
 |false=>
 rw[if_neg (by decide)] at h;obtain⟨e,se,ne,ve,N,h⟩:=gb h N (hR.expr);obtain⟨b,s3,h3,h⟩:=zy h;cases h3;split at h
 ·rename_i hb;obtain⟨k,s4,h4,h⟩:=zy h;cases h4;split at h
  ·obtain⟨u,s5,h5,h⟩:=zy h;have n5:=kq (kV hb) N.wf h5;replace N:=N.trans n5;replace ve:=ve.later n5;obtain⟨y,sy,ny,vy,N,h⟩:=gb h N (hR.expr);replace ve:=ve.later ny;obtain⟨r,s9,h9,h⟩:=zy h;obtain⟨nz,vz⟩:=zP N.le N.wf (Jj ve (Yd vy)) h9;obtain⟨rfl,rfl⟩:=yJ h;exact⟨(N.trans nz).down (by decide),vz⟩
  ·cases h
 ·obtain⟨rfl,rfl⟩:=yJ h;exact⟨N.down (by decide),ve⟩
theorem zbQ{R:xU}(hR:yO R):∀(n:Nat) (acc:List Int) {E:zI} {s:yI} {a:List Int×Int} {s':yI},s.next<=E.toks.length->WFs s->Jw s acc->qP R n acc E s=.ok a s'->Nx E 0 s s'/\Jw s' a.1
 |0,_,_,_,_,_,_,_,_,h=>by cases h
 |n+1,acc,E,s,a,s',h0,hw,ha,h=>by
  have N:=Nx.refl h0 hw;unfold qP at h;obtain⟨b,s1,h1,h⟩:=zy h;cases h1;split at h
  ·obtain⟨rfl,rfl⟩:=yJ h;exact⟨N.down (by decide),ha⟩
  ·obtain⟨x,sx,nx,vx,N,h⟩:=gb h N ((zeQ hR));replace ha:=ha.later nx;obtain⟨b,s2,h2,h⟩:=zy h;cases h2;split at h
   ·obtain⟨rfl,rfl⟩:=yJ h;exact⟨N.down (by decide),ha.snoc vx⟩
   ·obtain⟨y,sy,ny,vy,N,h⟩:=gb h N (zq);replace vx:=vx.later ny;replace ha:=ha.later ny;obtain⟨n4,v4⟩:=zbQ hR n (acc ++ [x.1]) N.le N.wf (ha.snoc vx) h;exact⟨(N.trans n4).down (by decide),v4⟩
theorem ziB{R:xU}(hR:yO R):Gd 0 Vd (ZN R):=by
 intro E s a s' h0 hw h;have N:=Nx.refl h0 hw;unfold ZN at h;obtain⟨t,st,nt,vt,N,h⟩:=gb h N (zq);obtain⟨x,s2,h2,h⟩:=zy h;obtain⟨n2,v2⟩:=zbQ hR _ [] N.le N.wf JE h2;replace N:=N.trans n2;obtain⟨y,sy,ny,vy,N,h⟩:=gb h N (zq);replace v2:=v2.later ny;exact qu N (zP N.le N.wf (v2) h) (by decide)
theorem zhR{tight:PM Int}(ht:Gd 0 Vd tight)(lv:Nat):∀(n:Nat) (left:Int) {E:zI} {s:yI} {a:Int} {s':yI},s.next<=E.toks.length->WFs s->Vd s left->Vj lv tight n left E s=.ok a s'->Nx E 0 s s'/\Vd s' a
 |0,_,_,_,_,_,_,_,_,h=>by cases h
 |n+1,left,E,s,a,s',h0,hw,vl,h=>by
  have N:=Nx.refl h0 hw;unfold Vj at h;obtain⟨b,s1,h1,h⟩:=zy h;cases h1;split at h
  ·rename_i hb;obtain⟨t,s2,h2,h⟩:=zy h;have n2:=kq (kV hb) hw h2;replace N:=N.trans n2;replace vl:=vl.later n2;obtain⟨r,sr,nr,vr,N,h⟩:=gb h N (ht);replace vl:=vl.later nr;obtain⟨x,s9,h9,h⟩:=zy h;obtain⟨nz,vz⟩:=zP N.le N.wf (Jj vl (Yd vr)) h9;replace N:=N.trans nz;split at h
   ·obtain⟨rfl,rfl⟩:=yJ h;exact⟨N.down (by decide),vz⟩
   ·obtain⟨n4,v4⟩:=zhR ht lv n x N.le N.wf vz h;exact⟨(N.trans n4).down (by decide),v4⟩
  ·obtain⟨rfl,rfl⟩:=yJ h;exact⟨N.down (by decide),vl⟩
theorem Qw{tight:PM Int}(ht:Gd 0 Vd tight)(lv:Nat):Gd 0 Vd (ZD lv tight):=by
 intro E s a s' h0 hw h;have N:=Nx.refl h0 hw;unfold ZD at h;obtain⟨l,sl,nl,vl,N,h⟩:=gb h N (ht);obtain⟨n4,v4⟩:=zhR ht lv _ l N.le N.wf vl h;exact⟨(N.trans n4).down (by decide),v4⟩
theorem zeS{R:xU}(hR:yO R):∀(n:Nat) (first:Bool) (acc:List Int) {E:zI} {s:yI} {a:List Int} {s':yI},s.next<=E.toks.length->WFs s->Jw s acc->jy R n first acc E s=.ok a s'->Nx E 0 s s'/\Jw s' a
 |0,_,acc,_,_,_,_,h0,hw,ha,h=>by
  obtain⟨rfl,rfl⟩:=yJ h;exact⟨Nx.refl h0 hw,ha⟩
 |n+1,first,acc,E,s,a,s',h0,hw,ha,h=>by
  have N:=Nx.refl h0 hw;unfold jy at h;obtain⟨u,s1,h1,h⟩:=zy h;have n1:Nx E 0 s s1:=by
   split at h1
   ·obtain⟨_,rfl⟩:=yJ h1;exact N
   ·obtain⟨_,s2,h2,h1⟩:=zy h1;obtain⟨_,rfl⟩:=yJ h1;exact (zq h0 hw h2).1.down (by decide)
  replace N:=N.trans n1;replace ha:=ha.later n1;obtain⟨x,sx,nx,vx,N,h⟩:=gb h N (hR.expr);obtain⟨n4,v4⟩:=zeS hR n false (acc ++ [x]) N.le N.wf ((ha.later nx).snoc vx) h;exact⟨(N.trans n4).down (by decide),v4⟩
theorem zi7{R:xU}(hR:yO R)(t:xQ)(w:Nat×Int):Gd (-1) Vd (kX R t w):=by
 intro E s a s' h0 hw h;have N:=Nx.refl h0 hw;unfold kX at h;obtain⟨l,s1,h1,h⟩:=zy h;have n1:Nx E 0 s s1/\Jw s1 l:=by
  split at h1
  ·obtain⟨x,s2,h2,h1⟩:=zy h1;obtain⟨n2,v2⟩:=hR.unary h0 hw h2;obtain⟨rfl,rfl⟩:=yJ h1;exact⟨n2,Yd v2⟩
  ·split at h1
   ·obtain⟨x,s2,h2,h1⟩:=zy h1;obtain⟨n2,_⟩:=zq h0 hw h2;obtain⟨y,s3,h3,h1⟩:=zy h1;obtain⟨n3,v3⟩:=zeS hR _ _ [] n2.le n2.wf JE h3;obtain⟨z,s4,h4,h1⟩:=zy h1;obtain⟨n4,_⟩:=zq n3.le n3.wf h4;obtain⟨rfl,rfl⟩:=yJ h1;exact⟨((n2.trans n3).trans n4).down (by decide),v3.later n4⟩
   ·obtain⟨rfl,rfl⟩:=yJ h1;exact⟨N,JE⟩
 obtain⟨nz,vz⟩:=zP n1.1.le n1.1.wf n1.2 h;exact⟨(n1.1.trans nz).down (by decide),vz⟩
theorem zdM{R:xU}(hR:yO R):Gd 0 Vd (zcf R):=by
 intro E s a s' h0 hw h;have N:=Nx.refl h0 hw;unfold zcf at h;obtain⟨t,st,nt,vt,N,h⟩:=gb h N ((yo (by decide)));obtain⟨x,sx,nx,vx,N,h⟩:=gb h N (zq);obtain⟨k,sk,nk,vk,N,h⟩:=gb h N (hR.expr);exact qu N (zP N.le N.wf (Yd vk) h) (by decide)
theorem zeD{R:xU}(hR:yO R):Gd 0 Vd (zcg R):=by
 intro E s a s' h0 hw h;have N:=Nx.refl h0 hw;unfold zcg at h;obtain⟨p,sp,np,vp,N,h⟩:=gb h N (hR.pattern);obtain⟨t,st,nt,vt,N,h⟩:=gb h N (zq);replace vp:=vp.later nt;obtain⟨x,sx,nx,vx,N,h⟩:=gb h N (hR.expr);replace vp:=vp.later nx;exact qu N (zP N.le N.wf (Jj vp (Yd vx)) h) (by decide)
theorem zaC{R:xU}(hR:yO R):∀(n:Nat) (acc:List Int) {E:zI} {s:yI} {a:List Int} {s':yI},s.next<=E.toks.length->WFs s->Jw s acc->Yj R n acc E s=.ok a s'->Nx E 0 s s'/\Jw s' a
 |0,_,_,_,_,_,_,_,_,h=>by cases h
 |n+1,acc,E,s,a,s',h0,hw,ha,h=>by
  have N:=Nx.refl h0 hw;unfold Yj at h;obtain⟨t,s1,h1,h⟩:=zy h;cases h1;obtain⟨a1,sa1,na1,ha1,N,h⟩:=gm h N;cases a1 with
  |true=>
   rw[if_pos rfl] at h;obtain⟨x,sx,nx,vx,N,h⟩:=gb h N (hR.expr);obtain⟨q,sq,nq,vq,N,h⟩:=gb h N (zq);replace vx:=vx.later nq;obtain⟨m,sm,nm,vm,N,h⟩:=gb h N ((yo (by decide)));replace vx:=vx.later nm;obtain⟨e,se,ne,ve,N,h⟩:=gb h N (zq);replace vx:=vx.later ne;obtain⟨y,sy,ny,vy,N,h⟩:=gb h N (hR.expr);replace vx:=vx.later ny;obtain⟨r,s9,h9,h⟩:=zy h;obtain⟨nz,vz⟩:=zP N.le N.wf (Jj vx (Yd vy)) h9;replace N:=N.trans nz;have ha2:=(ha.later N).snoc vz;obtain⟨c,sc,nc,hc,N,h⟩:=gm h N;cases c with
   |true=>
    rw[if_pos rfl] at h;obtain⟨n4,v4⟩:=zaC hR n (acc ++ [r]) N.le N.wf (ha2.later nc) h;exact⟨(N.trans n4).down (by decide),v4⟩
   |false=>
    rw[if_neg (by decide)] at h;obtain⟨rfl,rfl⟩:=yJ h;exact⟨N.down (by decide),ha2.later nc⟩
  |false=>
  rw[if_neg (by decide)] at h;obtain⟨a2,sa2,na2,ha2,N,h⟩:=gm h N;cases a2 with
  |true=>
   rw[if_pos rfl] at h;obtain⟨x,sx,nx,vx,N,h⟩:=gb h N (hR.expr);obtain⟨q,sq,nq,vq,N,h⟩:=gb h N (zq);replace vx:=vx.later nq;obtain⟨y,sy,ny,vy,N,h⟩:=gb h N (hR.expr);replace vx:=vx.later ny;obtain⟨e,se,ne,ve,N,h⟩:=gb h N (zq);replace vx:=vx.later ne;replace vy:=vy.later ne;obtain⟨z,sz,nz,vz,N,h⟩:=gb h N (hR.expr);replace vx:=vx.later nz;replace vy:=vy.later nz;obtain⟨r,s9,h9,h⟩:=zy h;obtain⟨nz,vz⟩:=zP N.le N.wf (Jj vx (Jj vy (Yd vz))) h9;replace N:=N.trans nz;have ha2:=(ha.later N).snoc vz;obtain⟨c,sc,nc,hc,N,h⟩:=gm h N;cases c with
   |true=>
    rw[if_pos rfl] at h;obtain⟨n4,v4⟩:=zaC hR n (acc ++ [r]) N.le N.wf (ha2.later nc) h;exact⟨(N.trans n4).down (by decide),v4⟩
   |false=>
    rw[if_neg (by decide)] at h;obtain⟨rfl,rfl⟩:=yJ h;exact⟨N.down (by decide),ha2.later nc⟩
  |false=>
  rw[if_neg (by decide)] at h;obtain⟨q,sq,nq,vq,N,h⟩:=gb h N (zq);obtain⟨e,se,ne,ve,N,h⟩:=gb h N (zq);obtain⟨x,sx,nx,vx,N,h⟩:=gb h N (hR.expr);obtain⟨r,s9,h9,h⟩:=zy h;obtain⟨nz,vz⟩:=zP N.le N.wf (Yd vx) h9;replace N:=N.trans nz;obtain⟨rfl,rfl⟩:=yJ h;exact⟨N.down (by decide),(ha.later N).snoc vz⟩
theorem VB{R:xU}(hR:yO R):Gd 2 Jw (vY R):=by
 intro E s a s' h0 hw h;have N:=Nx.refl h0 hw;unfold vY at h;obtain⟨t,st,nt,vt,N,h⟩:=gb h N (zq);obtain⟨x,s2,h2,h⟩:=zy h;obtain⟨n2,v2⟩:=zaC hR _ [] N.le N.wf JE h2;replace N:=N.trans n2;obtain⟨y,sy,ny,vy,N,h⟩:=gb h N (zq);obtain⟨rfl,rfl⟩:=yJ h;exact⟨N.down (by decide),v2.later ny⟩
theorem zaq{R:xU}(hR:yO R):Gd 0 Vd (vh R):=by
 intro E s a s' h0 hw h;have N:=Nx.refl h0 hw;unfold vh at h;obtain⟨t,st,nt,vt,N,h⟩:=gb h N (zq);obtain⟨c,sc,nc,vc,N,h⟩:=gb h N (hR.expr);obtain⟨b,sb,nb,vb,N,h⟩:=gb h N (hR.block);replace vc:=vc.later nb;obtain⟨a1,sa1,na1,ha1,N,h⟩:=gm h N;replace vc:=vc.later na1;replace vb:=vb.later na1;cases a1 with
 |true=>
  rw[if_pos rfl] at h;obtain⟨i,si,ni,vi,N,h⟩:=gb h N (zii);replace vc:=vc.later ni;replace vb:=vb.later ni;split at h
  ·obtain⟨x,sx,nx,vx,N,h⟩:=gb h N (hR.branch);replace vc:=vc.later nx;replace vb:=vb.later nx;exact qu N (zP N.le N.wf (Jj vc (Jj vb (Yd vx))) h) (by decide)
  ·obtain⟨x,sx,nx,vx,N,h⟩:=gb h N (hR.block);replace vc:=vc.later nx;replace vb:=vb.later nx;exact qu N (zP N.le N.wf (Jj vc (Jj vb (Yd vx))) h) (by decide)
 |false=>
  rw[if_neg (by decide)] at h;exact qu N (zP N.le N.wf (Jj vc (Yd vb)) h) (by decide)
theorem KL{R:xU}(hR:yO R)(t:xQ):Gd 0 Vd (ql R t):=by
 intro E s a s' h0 hw h;have N:=Nx.refl h0 hw;unfold ql at h;obtain⟨i,si,ni,vi,N,h⟩:=gb h N (zii);split at h
 ·obtain⟨nb,vb⟩:=zaq hR N.le N.wf h;exact⟨(N.trans nb).down (by decide),vb⟩
 ·obtain⟨a1,sa1,na1,ha1,N,h⟩:=gm h N;cases a1 with
  |true=>
   rw[if_pos rfl] at h;obtain⟨c,sc,nc,vc,N,h⟩:=gb h N (hR.expr);obtain⟨b,sb,nb,vb,N,h⟩:=gb h N (hR.block);replace vc:=vc.later nb;exact qu N (zP N.le N.wf (Jj vc (Yd vb)) h) (by decide)
  |false=>
  rw[if_neg (by decide)] at h;obtain⟨a2,sa2,na2,ha2,N,h⟩:=gm h N;cases a2 with
  |true=>
   rw[if_pos rfl] at h;obtain⟨c,sc,nc,vc,N,h⟩:=gb h N (hR.expr);obtain⟨l,sl,nl,vl,N,h⟩:=gb h N ((jG (zeD hR)));replace vc:=vc.later nl;exact qu N (zP N.le N.wf (Jj vc vl) h) (by decide)
  |false=>
  rw[if_neg (by decide)] at h;obtain⟨a3,sa3,na3,ha3,N,h⟩:=gm h N;cases a3 with
  |true=>
   rw[if_pos rfl] at h;obtain⟨l,sl,nl,vl,N,h⟩:=gb h N ((Zk hR));obtain⟨b,sb,nb,vb,N,h⟩:=gb h N (hR.block);replace vl:=vl.later nb;exact qu N (zP N.le N.wf (vda vl vb) h) (by decide)
  |false=>
  rw[if_neg (by decide)] at h;obtain⟨a4,sa4,na4,ha4,N,h⟩:=gm h N;cases a4 with
  |true=>
   rw[if_pos rfl] at h;obtain⟨b,sb,nb,vb,N,h⟩:=gb h N (hR.block);obtain⟨q,sq,nq,vq,N,h⟩:=gb h N (zq);replace vb:=vb.later nq;obtain⟨m,sm,nm,vm,N,h⟩:=gb h N ((yo (by decide)));replace vb:=vb.later nm;obtain⟨c,sc,nc,vc,N,h⟩:=gb h N (hR.block);replace vb:=vb.later nc;exact qu N (zP N.le N.wf (Jj vb (Yd vc)) h) (by decide)
  |false=>
  rw[if_neg (by decide)] at h;obtain⟨a5,sa5,na5,ha5,N,h⟩:=gm h N;cases a5 with
  |true=>
   rw[if_pos rfl] at h;obtain⟨x,sx,nx,vx,N,h⟩:=gb h N (hR.expr);obtain⟨q,sq,nq,vq,N,h⟩:=gb h N (zq);replace vx:=vx.later nq;obtain⟨m,sm,nm,vm,N,h⟩:=gb h N ((yo (by decide)));replace vx:=vx.later nm;obtain⟨b,sb,nb,vb,N,h⟩:=gb h N (hR.block);replace vx:=vx.later nb;obtain⟨r,sr,nr,vr,N,h⟩:=gb h N (zq);replace vx:=vx.later nr;replace vb:=vb.later nr;obtain⟨c,sc,nc,vc,N,h⟩:=gb h N (hR.block);replace vx:=vx.later nc;replace vb:=vb.later nc;exact qu N (zP N.le N.wf (Jj vx (Jj vb (Yd vc))) h) (by decide)
  |false=>
  rw[if_neg (by decide)] at h;obtain⟨a6,sa6,na6,ha6,N,h⟩:=gm h N;cases a6 with
  |true=>
   rw[if_pos rfl] at h;obtain⟨m,sm,nm,vm,N,h⟩:=gb h N ((yo (by decide)));obtain⟨l,sl,nl,vl,N,h⟩:=gb h N ((jG (zdM hR)));exact qu N (zP N.le N.wf (vl) h) (by decide)
  |false=>
  rw[if_neg (by decide)] at h;obtain⟨a7,sa7,na7,ha7,N,h⟩:=gm h N;cases a7 with
  |true=>
   rw[if_pos rfl] at h;obtain⟨k,sk,nk,vk,N,h⟩:=gb h N (hR.kind);obtain⟨q,sq,nq,vq,N,h⟩:=gb h N (zq);replace vk:=vk.later nq;obtain⟨m,sm,nm,vm,N,h⟩:=gb h N ((yo (by decide)));replace vk:=vk.later nm;obtain⟨r,sr,nr,vr,N,h⟩:=gb h N (zq);replace vk:=vk.later nr;exact qu N (zP N.le N.wf (Yd vk) h) (by decide)
  |false=>
  rw[if_neg (by decide)] at h;obtain⟨q,sq,nq,vq,N,h⟩:=gb h N (zq);obtain⟨l,sl,nl,vl,N,h⟩:=gb h N ((VB hR));exact qu N (zP N.le N.wf (vl) h) (by decide)
theorem zft{R:xU}(hR:yO R):Gd 0 Vd (Yn R):=by
 intro E s a s' h0 hw h;have N:=Nx.refl h0 hw;unfold Yn at h;obtain⟨t,s0,h1,h⟩:=zy h;cases h1;split at h
 ·rename_i hk;obtain⟨u,s1,h1,h⟩:=zy h;have n1:=kr (qC (k:=3) (by simpa using hk) (by decide)) hw h1;replace N:=N.trans n1;exact qu N (zP N.le N.wf (JE) h) (by decide)
 split at h
 ·rename_i hk;obtain⟨u,s1,h1,h⟩:=zy h;have n1:=kr (qC (k:=4) (by simpa using hk) (by decide)) hw h1;replace N:=N.trans n1;exact qu N (zP N.le N.wf (JE) h) (by decide)
 split at h
 ·rename_i hk;obtain⟨u,s1,h1,h⟩:=zy h;have n1:=kr (qC (k:=1) (by simpa using hk) (by decide)) hw h1;replace N:=N.trans n1;exact qu N (zP N.le N.wf (JE) h) (by decide)
 split at h
 ·rename_i hk;obtain⟨u,s1,h1,h⟩:=zy h;have n1:=kr (qC (k:=2) (by simpa using hk) (by decide)) hw h1;replace N:=N.trans n1;obtain⟨l,sl,nl,vl,N,h⟩:=gb h N ((uF hR.expr));exact qu N (zP N.le N.wf (vl) h) (by decide)
 obtain⟨a1,sa1,na1,ha1,N,h⟩:=gm h N;cases a1 with
 |true=>
  rw[if_pos rfl] at h;obtain⟨a2,sa2,na2,ha2,N,h⟩:=gm h N;cases a2 with
  |true=>
   rw[if_pos rfl] at h;exact qu N (zP N.le N.wf (JE) h) (by decide)
  |false=>
   rw[if_neg (by decide)] at h;obtain⟨x,sx,nx,vx,N,h⟩:=gb h N (hR.expr);obtain⟨q,sq,nq,vq,N,h⟩:=gb h N (zq);replace vx:=vx.later nq;obtain⟨rfl,rfl⟩:=yJ h;exact⟨N.down (by decide),vx⟩
 |false=>
 rw[if_neg (by decide)] at h;obtain⟨a3,sa3,na3,ha3,N,h⟩:=gm h N;cases a3 with
 |true=>
  rw[if_pos rfl] at h;exact qu N (zP N.le N.wf (JE) h) (by decide)
 |false=>
 rw[if_neg (by decide)] at h;obtain⟨a4,sa4,na4,ha4,N,h⟩:=gm h N;cases a4 with
 |true=>
  rw[if_pos rfl] at h;exact qu N (zP N.le N.wf (JE) h) (by decide)
 |false=>
 rw[if_neg (by decide)] at h;have hkt:s.next=sa4.next:=by
  have e1:sa1=s:=by unfold yz at ha1;split at ha1 <;> cases ha1;rfl
  have e3:sa3=sa1:=by unfold yz at ha3;split at ha3 <;> cases ha3;rfl
  have e4:sa4=sa3:=by unfold yz at ha4;split at ha4 <;> cases ha4;rfl
  rw[e4,e3,e1]
 cases hw9:kS (zR E s).text with
 |some w=>
  rw[hw9] at h;simp only at h;split at h
  ·rename_i hk;obtain⟨u,s1,h1,h⟩:=zy h;have hlt:=qC (k:=5) (by simpa using hk) (by decide);have n1:=kr (by omega) N.wf h1;replace N:=N.trans n1;obtain⟨nb,vb⟩:=zi7 hR _ w N.le N.wf h;exact⟨(N.trans nb).down (by decide),vb⟩
  ·obtain⟨nb,vb⟩:=KL hR _ N.le N.wf h;exact⟨(N.trans nb).down (by decide),vb⟩
 |none=>
  rw[hw9] at h;obtain⟨nb,vb⟩:=KL hR _ N.le N.wf h;exact⟨(N.trans nb).down (by decide),vb⟩
theorem zaX{R:xU}(hR:yO R):∀(n:Nat) (left:Int) {E:zI} {s:yI} {a:Int} {s':yI},s.next<=E.toks.length->WFs s->Vd s left->Yl R n left E s=.ok a s'->Nx E 0 s s'/\Vd s' a
 |0,_,_,_,_,_,_,_,_,h=>by cases h
 |n+1,left,E,s,a,s',h0,hw,vl,h=>by
  have N:=Nx.refl h0 hw;unfold Yl at h;obtain⟨t,s1,h1,h⟩:=zy h;cases h1;obtain⟨a1,sa1,na1,ha1,N,h⟩:=gm h N;replace vl:=vl.later na1;cases a1 with
  |true=>
   rw[if_pos rfl] at h;obtain⟨m,sm,nm,vm,N,h⟩:=gb h N ((yo (by decide)));replace vl:=vl.later nm;obtain⟨x,s9,h9,h⟩:=zy h;obtain⟨nz,vz⟩:=zP N.le N.wf (Yd vl) h9;replace N:=N.trans nz;obtain⟨n4,v4⟩:=zaX hR n x N.le N.wf vz h;exact⟨(N.trans n4).down (by decide),v4⟩
  |false=>
  rw[if_neg (by decide)] at h;obtain⟨a2,sa2,na2,ha2,N,h⟩:=gm h N;replace vl:=vl.later na2;cases a2 with
  |true=>
   rw[if_pos rfl] at h;obtain⟨k,sk,nk,vk,N,h⟩:=gb h N ((Qp hR.expr));replace vl:=vl.later nk;obtain⟨q,sq,nq,vq,N,h⟩:=gb h N (zq);replace vl:=vl.later nq;replace vk:=vk.later nq;obtain⟨x,s9,h9,h⟩:=zy h;obtain⟨nz,vz⟩:=zP N.le N.wf (Jj vl vk) h9;replace N:=N.trans nz;obtain⟨n4,v4⟩:=zaX hR n x N.le N.wf vz h;exact⟨(N.trans n4).down (by decide),v4⟩
  |false=>
  rw[if_neg (by decide)] at h;obtain⟨rfl,rfl⟩:=yJ h;exact⟨N.down (by decide),vl⟩
theorem JF{R:xU}(hR:yO R):Gd 0 Vd (Zm R):=by
 intro E s a s' h0 hw h;have N:=Nx.refl h0 hw;unfold Zm at h;obtain⟨b,s1,h1,h⟩:=zy h;cases h1;split at h
 ·rename_i hb;obtain⟨t,s2,h2,h⟩:=zy h;have n2:=kq (kV hb) hw h2;replace N:=N.trans n2;obtain⟨x,sx,nx,vx,N,h⟩:=gb h N (hR.unary);exact qu N (zP N.le N.wf (Yd vx) h) (by decide)
 ·obtain⟨l,sl,nl,vl,N,h⟩:=gb h N ((zft hR));obtain⟨n4,v4⟩:=zaX hR _ l N.le N.wf vl h;exact⟨(N.trans n4).down (by decide),v4⟩
theorem zfr{R:xU}(hR:yO R):Gd 0 Vd (zkl R):=Qw (JF hR) 4
theorem zfs{R:xU}(hR:yO R):Gd 0 Vd (zag R):=Qw (zfr hR) 3
theorem Jv{R:xU}(hR:yO R):Gd 0 Vd (XF R):=by
 intro E s a s' h0 hw h;have N:=Nx.refl h0 hw;unfold XF at h;obtain⟨b,s1,h1,h⟩:=zy h;cases h1;split at h
 ·rename_i hb;obtain⟨t,s2,h2,h⟩:=zy h;have n2:=kq (kV hb) hw h2;replace N:=N.trans n2;obtain⟨x,sx,nx,vx,N,h⟩:=gb h N (hR.bin2);exact qu N (zP N.le N.wf (Yd vx) h) (by decide)
 ·obtain⟨n4,v4⟩:=Qw (zfs hR) 2 N.le N.wf h;exact⟨(N.trans n4).down (by decide),v4⟩
theorem zjX{R:xU}(hR:yO R):Gd 0 Vd (ziq R):=Qw (Qw (Jv hR) 1) 0
theorem zdV{R:xU}(hR:yO R):Gd 0 Vd (kN R):=by
 intro E s a s' h0 hw h;have N:=Nx.refl h0 hw;unfold kN at h;obtain⟨t,s0,h1,h⟩:=zy h;cases h1;split at h
 ·rename_i hk;obtain⟨u,s1,h1,h⟩:=zy h;have n1:=kr (qC (k:=1) (by simpa using hk) (by decide)) hw h1;replace N:=N.trans n1;exact qu N (zP N.le N.wf (JE) h) (by decide)
 split at h
 ·rename_i hk;obtain⟨u,s1,h1,h⟩:=zy h;have n1:=kr (qC (k:=3) (by simpa using hk) (by decide)) hw h1;replace N:=N.trans n1;exact qu N (zP N.le N.wf (JE) h) (by decide)
 split at h
 ·rename_i hk;obtain⟨u,s1,h1,h⟩:=zy h;have n1:=kr (qC (k:=4) (by simpa using hk) (by decide)) hw h1;replace N:=N.trans n1;exact qu N (zP N.le N.wf (JE) h) (by decide)
 split at h
 ·rename_i hk;obtain⟨u,s1,h1,h⟩:=zy h;have n1:=kr (qC (k:=2) (by simpa using hk) (by decide)) hw h1;replace N:=N.trans n1;obtain⟨l,sl,nl,vl,N,h⟩:=gb h N ((uF hR.pattern));exact qu N (zP N.le N.wf (vl) h) (by decide)
 obtain⟨a1,sa1,na1,ha1,N,h⟩:=gm h N;cases a1 with
 |true=>
  rw[if_pos rfl] at h;exact qu N (zP N.le N.wf (JE) h) (by decide)
 |false=>
 rw[if_neg (by decide)] at h;obtain⟨a2,sa2,na2,ha2,N,h⟩:=gm h N;cases a2 with
 |true=>
  rw[if_pos rfl] at h;exact qu N (zP N.le N.wf (JE) h) (by decide)
 |false=>
 rw[if_neg (by decide)] at h;obtain⟨q,sq,nq,vq,N,h⟩:=gb h N (zq);obtain⟨m,sm,nm,vm,N,h⟩:=gb h N ((yo (by decide)));exact qu N (zP N.le N.wf (JE) h) (by decide)
theorem YU{α:Type}{d:Int}{Q:yI->α->Prop}{m:PM α}(hm:∀E s,m E s=.bad 0):Gd d Q m:=by
 intro E s a s' _ _ h;rw[hm] at h;cases h
theorem zfk:yO zkj:=⟨YU fun _ _=>rfl,YU fun _ _=>rfl,YU fun _ _=>rfl,YU fun _ _=>rfl,YU fun _ _=>rfl,YU fun _ _=>rfl,YU fun _ _=>rfl⟩
theorem jT:∀n,yO (YE n)
 |0=>zfk
 |n+1=>⟨zjX (jT n),JF (jT n),Jv (jT n),ziB (jT n),zaq (jT n),zjI (jT n),zdV (jT n)⟩
theorem Nx.adv{E:zI}{d:Int}{s s':yI}(n:Nx E d s s'):(s.next:Int)+d<=s'.next:=by
 obtain⟨r,hr⟩:=n.pre;have:=n.cr;rw[hr,pG] at this;omega
structure zU where
 nodes:List Nd
 items:List Int
 deriving DecidableEq
inductive yT where
 |expr|stmt|type|pattern|way|item|els|Kf
 |one (k:Nat)
 deriving DecidableEq
def zW(k:Nat):Bool:=decide (1<=k) && decide (k<=51) && k != 27 && k != 32 && k != 28
def yT.is:yT->Nat->Bool
 | .expr,k=>zW k
 | .stmt,k=>(decide (60<=k) && decide (k<=62)) || zW k
 | .type,k=>decide (80<=k) && decide (k<=87)
 | .pattern,k=>decide (66<=k) && decide (k<=70)
 | .way,k=>decide (63<=k) && decide (k<=65)
 | .item,k=>decide (100<=k) && decide (k<=104)
 | .els,k=>k == 28 || k == 29
 | .Kf,k=>k == 5 || k == 23
 | .one j,k=>k == j
structure xl where
 first:List yT
 more:Option yT
 least:Nat
 last:List yT
 deriving DecidableEq
def uK(l:List yT):xl:=⟨l,none,0,[]⟩
def zN(k:Nat):Option xl:=
 if [1,2,3,4,5,44,45,46,80,81,82,83,84,66,67,68,69].contains k then some (uK [])
 else if [6,7,23,27,37,38,39,42,43,47,50,51,60,61,65].contains k then some (uK [.expr])
 else if [41,48,63].contains k then some (uK [.expr,.expr])
 else if [49,64].contains k then some (uK [.expr,.expr,.expr])
 else if k == 24 then some ⟨[.expr],some .expr,0,[]⟩
 else if k == 25 then some ⟨[],some .expr,0,[]⟩
 else if k == 26 then some ⟨[],some (.one 27),1,[]⟩
 else if k == 28 then some ⟨[],some .stmt,0,[]⟩
 else if k == 29 then some ⟨[.expr,.one 28],some .els,0,[]⟩
 else if k == 30 then some (uK [.expr,.one 28])
 else if k == 31 then some ⟨[.expr],some (.one 32),1,[]⟩
 else if k == 32 then some (uK [.pattern,.expr])
 else if k == 33 || k == 102 then some ⟨[],some (.one 88),0,[.type,.one 28]⟩
 else if k == 34 then some (uK [.one 28,.one 28])
 else if k == 35 then some ⟨[],some .way,1,[]⟩
 else if k == 36 then some (uK [.expr,.one 28,.one 28])
 else if k == 40 || k == 86 || k == 87 || k == 88 then some (uK [.type])
 else if k == 62 then some (uK [.Kf,.expr])
 else if k == 70 then some ⟨[],some .pattern,0,[]⟩
 else if k == 85 then some ⟨[],some .type,0,[.type]⟩
 else if k == 89 then some ⟨[],some .type,0,[]⟩
 else if k == 100 then some ⟨[],some (.one 88),1,[]⟩
 else if k == 101 then some ⟨[],some (.one 89),1,[]⟩
 else if k == 103 then some ⟨[],some (.one 88),0,[.type]⟩
 else if k == 104 then some (uK [.type,.expr])
 else if decide (8<=k) && decide (k<=22) then some (uK [.expr,.expr])
 else none
def xl.at_(s:xl)(k many:Nat):Option yT:=
 if k<s.first.length then s.first[k]?
 else if many<=k+s.last.length then s.last[k+s.last.length-many]?
 else s.more
def xl.fits(s:xl)(many:Nat):Bool:=
 decide (s.first.length+s.last.length+s.least<=many) && (s.more.isSome || decide (many=s.first.length+s.last.length))
def xC(k:Nat):Nat:=
 if k == 2 || k == 68 then 4
 else if [25,26,84,70,89,100,101].contains k then 2
 else if [5,23,27,66,88,60,61,34,36,63,102,103,104].contains k then 1
 else 0
def xn(k:Nat):Int×Int:=
 if k == 1 || k == 40 then (0,1000000000)
 else if k == 67 then (-1000000000,1000000000)
 else if k == 3 || k == 69 || k == 28 || k == 102 then (0,1)
 else (0,0)
def ku(x:Nd):Bool:=
 if x.n<(xn x.kind).1\/(xn x.kind).2<x.n\/x.at_<0\/3000<x.at_ then false
 else if xC x.kind == 0 then x.text == []
 else (xB (xC x.kind) x.text).2 == 0
def zt(l:List Nd)(k:Int):Nat:=(l[k.toNat]?).elim 0 Nd.kind
def xF(l:List Nd)(x:Nd):Bool:=
 if x.kids.any fun k=>decide (k<0) || decide ((l.length:Int)<=k) then false
 else if x.kind == 28 then x.n == 0 || (match x.kids.getLast? with|some k=>zW (zt l k)|none=>false)
 else if x.kind == 29 then decide (x.kids.length<=3)
 else if x.kind == 35 then decide (x.kids.length<=(x.kids.findIdx fun k=>zt l k == 65)+1)
 else true
def uN(g:Int->Int->yT->Option Int)(h:xl)(many:Nat):List Int->Int->Option Int
 |[],next=>some next
 |k :: r,next=>match h.at_ r.length many with
  |none=>none
  |some s=>(g next k s).bind (uN g h many r)
def qx(l:List Nd):Nat->Int->Int->yT->Option Int
 |0,_,_,_=>none
 |f+1,next,number,s=>
  if next<0\/number≠next then none else
  match l[number.toNat]? with
  |none=>none
  |some x=>match zN x.kind with
   |none=>none
   |some h=>if s.is x.kind && ku x && h.fits x.kids.length && xF l x then uN (qx l f) h x.kids.length x.kids.reverse (next-1) else none
def ZO(l:List Nd):List Int->Int->Option Int
 |[],next=>some next
 |k :: r,next=>(qx l (l.length+1) next k .item).bind (ZO l r)
def jc(t:zU):Bool:=match ZO t.nodes t.items.reverse ((t.nodes.length:Int)-1) with
 |some next=>decide (next<0)
 |none=>false
def xu(d:Nat):List Int->List Nat->List Nat
 |[],deep=>deep
 |k :: r,deep=>xu d r (deep.set k.toNat (d+1))
def Yr(l:List Nd):Nat->List Nat->Nat->Nat
 |0,_,most=>most
 |i+1,deep,most=>Yr l i (xu (deep.getD i 0) ((l[i]?).elim [] Nd.kids) deep) (max most (deep.getD i 0))
def jV(t:zU):Nat:=Yr t.nodes t.nodes.length (t.items.foldl (fun d k=>d.set k.toNat 1) (List.replicate t.nodes.length 0)) 0
def qY(k:Nat):Nat:=
 if k == 102 || k == 33 then 8
 else if k == 103 || k == 85 || k == 24 then 7
 else if k == 100 || k == 26 then 6
 else if k == 101 then 8
 else if k == 89 || k == 25 || k == 70 then 4
 else if k == 31 then 13
 else if k == 35 then 4
 else 1000
def xM(x:Nd):Bool:=if x.kind == 40 then decide (1<=x.n) && decide (x.n<=8) else decide (x.kids.length<=qY x.kind)
def yj(t:zU):Nat:=
 if 1000<t.nodes.length\/40<t.items.length then 5
 else if !jc t then 4
 else if 40<jV t then 5
 else if t.nodes.any fun x=> !xM x then 3
 else 0
def YV{α:Type}(p:α->Bool)(l:List α):Int:=match l.findIdx? p with
 |some i=>i
 |none=> -1
def upT(t:zU)(node:Int):Int:=YV (fun x=>x.kids.contains node) t.nodes
def zg3(t:zU):Nat->Int->List Int->List Int
 |0,_,acc=>acc
 |f+1,at_,acc=>if at_<0 then acc else zg3 t f (upT t at_) (at_ :: acc)
def zg2(t:zU)(node:Int):List Int:=zg3 t (t.nodes.length+1) node []
def QD(l:List Nd):Nat->Int->Int
 |0,_=>0
 |f+1,node=>((l[node.toNat]?).elim [] Nd.kids).foldl (fun n k=>n+QD l f k) 1
def zeU(t:zU)(node:Int):Int:=QD t.nodes (t.nodes.length+1) node
def zak{α:Type}(t:zU)(node:Int)(of:zU->Int->α)(d:α):α×Nat:=
 if yj t≠0 then (d,yj t)
 else if node<0\/(t.nodes.length:Int)<=node then (d,7)
 else (of t node,0)
def zaY(t:zU)(node:Int):Int×Nat:=zak t node upT 0
def zhO(t:zU)(node:Int):List Int×Nat:=zak t node zg2 []
def zdo(t:zU)(node:Int):Int×Nat:=zak t node zeU 0
def zbj(t:zU)(p:Int):Int×Nat:=
 if yj t≠0 then (0,yj t)
 else if YV (fun x=>x.at_ == p) t.nodes<0 then (0,7)
 else (YV (fun x=>x.at_ == p) t.nodes,0)
def xf(s:List UInt8):zU×Int×Nat:=
 match jp s with
 |(l,at_,e)=>if e≠0 then (⟨[],[]⟩,at_,e) else
  match vK l s.length with
  | .bad p=>(⟨[],[]⟩,p,4)
  | .ok _ st=>
   if 1000<st.nodes.length\/40<st.items.length\/40<jV ⟨st.nodes,st.items⟩ then (⟨[],[]⟩,0,5)
   else match st.nodes.find? fun x=> !xM x with
    |some x=>(⟨[],[]⟩,x.at_,3)
    |none=>(⟨st.nodes,st.items⟩,0,0)
def yf(k:Nat):Option (List UInt8):=
 if k == 22 then some [111,114] else if k == 21 then some [97,110,100]
 else if k == 14 then some [61,61] else if k == 15 then some [33,61] else if k == 16 then some [60] else if k == 17 then some [60,61] else if k == 18 then some [62] else if k == 19 then some [62,61] else if k == 20 then some [105,115]
 else if k == 8 then some [43] else if k == 9 then some [45] else if k == 10 then some [43,43]
 else if k == 11 then some [42] else if k == 12 then some [47] else if k == 13 then some [37]
 else none
def zr(k:Nat):Nat:=
 if k == 22 then 1 else if k == 21 then 2 else if decide (14<=k) && decide (k<=20) then 4
 else if k == 8 || k == 9 || k == 10 then 5 else if k == 11 || k == 12 || k == 13 then 6
 else if k == 7 then 3 else if k == 6 || k == 37 || k == 38 || k == 39 then 7
 else if k == 23 || k == 24 then 8 else 9
def qc:List (List UInt8)->List UInt8
 |[]=>[]
 |[x]=>x
 |x :: r=>x ++ [44,32] ++ qc r
section
variable (l:List Nd) (pr:Int→List UInt8)
def yZ(node:Int)(least:Nat):List UInt8:=if zr (zt l node)<least then [40] ++ pr node ++ [41] else pr node
def yH(k:List Int):List UInt8:=qc (k.map pr)
def je(k:List Int):List UInt8:=if k=[] then [] else [40] ++ yH pr k ++ [41]
def yU(last:Bool):List Int->List UInt8
 |[]=>[]
 |[k]=>pr k ++ (if last then [] else [59]) ++ [32]
 |k :: r=>pr k ++ [59] ++ [32] ++ yU last r
def vg(x:Nd):List UInt8:=if x.kids=[] then [123,125] else [123,32] ++ yU pr (x.n != 0) x.kids ++ [125]
def zu(x:Nd)(i:Nat):Int:=x.kids.getD i 0
def xI(x:Nd)(without:Nat):List UInt8:=[40] ++ yH pr (x.kids.take (x.kids.length-1-without)) ++ [41,58,32] ++ pr (zu x (x.kids.length-1-without))
def xR(x:Nd):List UInt8:=
 if x.kind == 60 then [108,101,116,32] ++ x.text ++ [32,61,32] ++ pr (zu x 0)
 else if x.kind == 61 then [118,97,114,32] ++ x.text ++ [32,61,32] ++ pr (zu x 0)
 else if x.kind == 62 then pr (zu x 0) ++ [32,58,61,32] ++ pr (zu x 1)
 else if x.kind == 63 then [114,101,99,118,32] ++ pr (zu x 0) ++ [32,97,115,32] ++ x.text ++ [32,61,62,32] ++ pr (zu x 1)
 else if x.kind == 64 then [115,101,110,100,32] ++ yH pr (x.kids.take 2) ++ [32,61,62,32] ++ pr (zu x 2)
 else [101,108,115,101,32,61,62,32] ++ pr (zu x 0)
def yN(x:Nd):List UInt8:=
 if x.kind == 80 then [105,110,116] else if x.kind == 81 then [98,111,111,108] else if x.kind == 82 then [116,101,120,116] else if x.kind == 83 then [117,110,105,116]
 else if x.kind == 85 then [102,110] ++ xI pr x 0
 else if x.kind == 86 then [99,104,97,110,32] ++ pr (zu x 0)
 else if x.kind == 87 then [119,101,97,107,32] ++ pr (zu x 0)
 else if x.kind == 88 then x.text ++ [58,32] ++ pr (zu x 0)
 else if x.kind == 100 then [99,108,97,115,115,32] ++ x.text ++ [32,123,32] ++ yH pr x.kids ++ [32,125]
 else if x.kind == 101 then [107,105,110,100,32] ++ x.text ++ [32,123,32] ++ yH pr x.kids ++ [32,125]
 else if x.kind == 103 then [101,120,116,101,114,110,32,102,117,110,32] ++ x.text ++ xI pr x 0 ++ [59]
 else if x.kind == 104 then [114,111,111,116,32] ++ x.text ++ [58,32] ++ pr (zu x 0) ++ [32,61,32] ++ pr (zu x 1) ++ [59]
 else (if x.n == 1 then [112,117,114,101,32] else []) ++ ([102,117,110,32] ++ x.text ++ xI pr x 1 ++ [32] ++ pr (zu x (x.kids.length-1)))
def yt(x:Nd):List UInt8:=
 if x.kind == 29 then [105,102,32] ++ pr (zu x 0) ++ [32] ++ pr (zu x 1) ++ (if x.kids.length == 3 then [32,101,108,115,101,32] ++ pr (zu x 2) else [])
 else if x.kind == 30 then [119,104,105,108,101,32] ++ pr (zu x 0) ++ [32] ++ pr (zu x 1)
 else if x.kind == 31 then [109,97,116,99,104,32] ++ pr (zu x 0) ++ [32,123,32] ++ yH pr (x.kids.drop 1) ++ [32,125]
 else if x.kind == 32 then pr (zu x 0) ++ [32,61,62,32] ++ pr (zu x 1)
 else if x.kind == 33 then [102,110] ++ xI pr x 1 ++ [32] ++ pr (zu x (x.kids.length-1))
 else if x.kind == 34 then [116,114,121,32] ++ pr (zu x 0) ++ [32,99,97,116,99,104,32] ++ x.text ++ [32] ++ pr (zu x 1)
 else if x.kind == 35 then [115,101,108,101,99,116,32,123,32] ++ yH pr x.kids ++ [32,125]
 else if x.kind == 36 then [104,111,108,100,32] ++ pr (zu x 0) ++ [32,97,115,32] ++ x.text ++ [32] ++ pr (zu x 1) ++ [32,101,108,115,101,32] ++ pr (zu x 2)
 else if x.kind == 26 then [110,101,119,32] ++ x.text ++ [32,123,32] ++ yH pr x.kids ++ [32,125]
 else if x.kind == 27 then x.text ++ [58,32] ++ pr (zu x 0)
 else [99,104,97,110,32] ++ pr (zu x 0) ++ [40] ++ Go.Lib.itoa x.n ++ [41]
def zz(x:Nd):List UInt8:=
 match yf x.kind with
 |some sign=>yZ l pr (zu x 0) (if zr x.kind == 4 then 5 else zr x.kind) ++ [32] ++ sign ++ [32] ++ yZ l pr (zu x 1) (zr x.kind+1)
 |none=>
  if x.kind == 1 || x.kind == 67 then Go.Lib.itoa x.n
  else if x.kind == 2 || x.kind == 68 then (xr x.text).1
  else if x.kind == 3 || x.kind == 69 then (if x.n == 1 then [116,114,117,101] else [102,97,108,115,101])
  else if x.kind == 4 then [40,41]
  else if x.kind == 5 || x.kind == 66 || x.kind == 84 then x.text
  else if x.kind == 6 then (if zt l (zu x 0) == 6 then [45,32] ++ pr (zu x 0) else [45] ++ yZ l pr (zu x 0) 7)
  else if x.kind == 7 then [110,111,116,32] ++ yZ l pr (zu x 0) 3
  else if x.kind == 23 then yZ l pr (zu x 0) 8 ++ [46] ++ x.text
  else if x.kind == 24 then (if zt l (zu x 0) == 25 && ((l[(zu x 0).toNat]?).elim [] Nd.kids).isEmpty then [40] ++ yZ l pr (zu x 0) 8 ++ [41] else yZ l pr (zu x 0) 8) ++ [40] ++ yH pr (x.kids.drop 1) ++ [41]
  else if x.kind == 25 || x.kind == 70 || x.kind == 89 then x.text ++ je pr x.kids
  else if x.kind == 28 then vg pr x
  else match zJ.find? fun w=>w.2.1 == x.kind with
   |some w=>if w.2.2<0 then w.1 ++ [32] ++ yZ l pr (zu x 0) 7 else if w.2.2 == 0 then w.1 else w.1 ++ [40] ++ yH pr x.kids ++ [41]
   |none=>
    if decide (60<=x.kind) && decide (x.kind<=65) then xR pr x
    else if 80<=x.kind then yN pr x
    else yt pr x
end
def Vi(l:List Nd):Nat->Int->List UInt8
 |0,_=>[]
 |f+1,node=>match l[node.toNat]? with
  |some x=>zz l (Vi l f) x
  |none=>[]
def prT(t:zU)(node:Int):List UInt8:=Vi t.nodes (t.nodes.length+1) node
def kH(s:List UInt8):List UInt8×Nat:=if (jp s).2.2≠0 then ([],5) else (s,0)
def YF(t:zU):List UInt8×Nat:=if yj t≠0 then ([],yj t) else kH (t.items.flatMap fun k=>prT t k ++ [10])
def VY(t:zU)(item:Int):List UInt8×Nat:=if yj t≠0 then ([],yj t) else if item<0\/(t.items.length:Int)<=item then ([],7) else kH (prT t (t.items.getD item.toNat 0))
def vX(s:List UInt8):List UInt8×Int×Nat:=match xf s with
 |(t,at_,e)=>if e≠0 then ([],at_,e) else ((YF t).1,0,(YF t).2)
def qK(k:Nat):Nat×Nat:=
 if [1,2,3,4,5,44,45,46,66,67,68,69,80,81,82,83,84].contains k then (0,0)
 else if [6,7,23,27,37,38,39,40,42,43,47,50,51,60,61,65,86,87,88].contains k then (1,1)
 else if [49,64,36].contains k then (3,3)
 else if k == 29 then (2,3)
 else if [24,26,35,85,103,100,101].contains k then (1,2000)
 else if [31,33,102].contains k then (2,2000)
 else if [25,28,70,89].contains k then (0,2000)
 else (2,2)
def yM(k:Nat)(n:Int)(m i kd:Nat):Bool:=
 if k == 100 then kd == 88
 else if k == 101 then kd == 89
 else if k == 26 then kd == 27
 else if k == 70 then yT.pattern.is kd
 else if k == 88 || k == 89 || k == 85 || k == 86 || k == 87 || k == 40 then yT.type.is kd
 else if k == 103 then (decide (i+1<m) && kd == 88) || (decide (i+1=m) && yT.type.is kd)
 else if k == 102 || k == 33 then (decide (i+2<m) && kd == 88) || (decide (i+2=m) && yT.type.is kd) || (decide (i+1=m) && kd == 28)
 else if k == 104 then (decide (i=0) && yT.type.is kd) || (decide (i=1) && zW kd)
 else if k == 28 then yT.stmt.is kd && (decide (i+1<m) || n == 0 || zW kd)
 else if k == 62 then (decide (i=1) && zW kd) || (decide (i=0) && (kd == 5 || kd == 23))
 else if k == 29 then (decide (i=0) && zW kd) || (decide (0<i) && kd == 28) || (decide (i=2) && kd == 29)
 else if k == 30 || k == 36 then (decide (i=0) && zW kd) || (decide (0<i) && kd == 28)
 else if k == 34 then kd == 28
 else if k == 31 then (decide (i=0) && zW kd) || (decide (0<i) && kd == 32)
 else if k == 32 then (decide (i=0) && yT.pattern.is kd) || (decide (i=1) && zW kd)
 else if k == 35 then yT.way.is kd && (decide (i+1=m) || kd != 65)
 else zW kd
def zx(k:Nat)(n:Int)(m:Nat):Bool:=
 if k == 1 || k == 40 then decide (0<=n) && decide (n<=1000000000)
 else if k == 67 then decide (-1000000000<=n) && decide (n<=1000000000)
 else if k == 3 || k == 69 || k == 102 then n == 0 || n == 1
 else if k == 28 then n == 0 || (n == 1 && decide (0<m))
 else n == 0
def xS(k:Nat):Bool:=(decide (1<=k) && decide (k<=51)) || (decide (60<=k) && decide (k<=70)) || (decide (80<=k) && decide (k<=89)) || (decide (100<=k) && decide (k<=104))
def xX(x:Nd):Bool:=if xC x.kind == 0 then x.text == [] else (xB (xC x.kind) x.text).2 == 0
def zH(l:List Nd)(x:Nd):Bool:=
 xS x.kind && decide ((qK x.kind).1<=x.kids.length) && decide (x.kids.length<=(qK x.kind).2) && zx x.kind x.n x.kids.length && decide (0<=x.at_) && decide (x.at_<=3000) && xX x &&
 (List.range x.kids.length).all fun i=>yM x.kind x.n x.kids.length i (zt l (x.kids.getD i 0))
def qW(h:xl)(m i kd:Nat):Bool:=match h.at_ i m with
 |some s=>s.is kd
 |none=>false
def xH(l:List Nd)(x:Nd):Bool:=match zN x.kind with
 |none=>false
 |some h=>ku x && h.fits x.kids.length && xF l x && (List.range x.kids.length).all fun i=>qW h x.kids.length i (zt l (x.kids.getD i 0))
theorem kI{k:Nat}(h:xS k=true):k<=104:=by
 simp only[xS,wH,pI,pH] at h;omega
theorem zcw:∀k,k<=104->(zN k).isSome=xS k:=by decide +kernel
theorem zdr{k:Nat}(h:¬k<=104):zN k=none:=by
 have h2:∀(l:List Nat),(∀x∈l,x<=104)->l.contains k=false:=fun l hl=>by
  rw[Bool.eq_false_iff];intro hc;rw[List.contains_iff_mem] at hc;exact h (hl k hc)
 have h3:∀j,j<=104->(k == j)=false:=fun j hj=>by rw[pA];omega
 unfold zN;rw[h2 _ (by decide),h2 _ (by decide),h2 _ (by decide),h2 _ (by decide)];simp only[h3 24 (by decide),h3 25 (by decide),h3 26 (by decide),h3 28 (by decide),h3 29 (by decide),h3 30 (by decide),h3 31 (by decide),h3 32 (by decide),h3 33 (by decide),h3 102 (by decide),h3 34 (by decide),h3 35 (by decide),h3 36 (by decide),h3 40 (by decide),h3 86 (by decide),h3 87 (by decide),h3 88 (by decide),h3 62 (by decide),h3 70 (by decide),h3 85 (by decide),h3 89 (by decide),h3 100 (by decide),h3 101 (by decide),h3 103 (by decide),h3 104 (by decide)];rw[show decide (k<=22)=false from by rw[wT];omega];simp
theorem QE(k:Nat):(zN k).isSome=xS k:=by
 by_cases h:k<=104
 ·exact zcw k h
 ·rw[zdr h];cases hk:xS k with
  |true=>exact absurd (kI hk) h
  |false=>rfl
theorem Zi(x:Nd):ku x=((decide ((xn x.kind).1<=x.n) && decide (x.n<=(xn x.kind).2)) && (decide (0<=x.at_) && decide (x.at_<=3000)) && xX x):=by
 unfold ku xX;by_cases h:x.n<(xn x.kind).1\/(xn x.kind).2<x.n\/x.at_<0\/3000<x.at_
 ·rw[if_pos h];symm;rw[Bool.and_eq_false_iff];left;rw[Bool.and_eq_false_iff,Bool.and_eq_false_iff,Bool.and_eq_false_iff];simp only[wT];omega
 ·rw[if_neg h];have h1:decide ((xn x.kind).1<=x.n)=true:=by rw[pH];omega
  have h2:decide (x.n<=(xn x.kind).2)=true:=by rw[pH];omega
  have h3:decide (0<=x.at_)=true:=by rw[pH];omega
  have h4:decide (x.at_<=3000)=true:=by rw[pH];omega
  rw[h1,h2,h3,h4];simp
theorem jv{m:Nat}{p q:Nat->Bool}(h:∀i,i<m->p i=q i):(List.range m).all p=(List.range m).all q:=by
 rw[pP,pZ,pZ];constructor <;> (intro hh i hi;have:=hh i hi;have e:=h i (List.mem_range.1 hi);simp_all)
theorem zhw{l:List Nd}{x:Nd}{h:xl}(hs:zN x.kind=some h)(hsp:xF l x=true)
 (hf:h.fits x.kids.length=(decide ((qK x.kind).1<=x.kids.length) && decide (x.kids.length<=(qK x.kind).2)))
 (hb:(decide ((xn x.kind).1<=x.n) && decide (x.n<=(xn x.kind).2))=zx x.kind x.n x.kids.length)
 (hd:h.fits x.kids.length=true->∀i,i<x.kids.length->∀kd,qW h x.kids.length i kd=yM x.kind x.n x.kids.length i kd):xH l x=zH l x:=by
 have hk:xS x.kind=true:=by rw[<-QE,hs];rfl
 unfold xH zH;rw[hs];simp only[hsp,hk,Zi,hb,<-hf,Bool.true_and,Bool.and_true];cases hfit:h.fits x.kids.length with
 |false=>
  simp
 |true=>
  rw[jv (fun i hi=>hd hfit i hi _)];simp only[Bool.true_and,Bool.and_true];generalize zx x.kind x.n x.kids.length=a;generalize decide (0<=x.at_)=b;generalize decide (x.at_<=3000)=c;generalize xX x=d;cases a <;> cases b <;> cases c <;> cases d <;> simp
def InR(l:List Nd)(x:Nd):Prop:=∀k∈x.kids,0<=k/\k<(l.length:Int)
theorem uX{l:List Nd}{x:Nd}(h:InR l x):(x.kids.any fun k=>decide (k<0) || decide ((l.length:Int)<=k))=false:=by
 rw[List.any_eq_false];intro k hk;have:=h k hk;simp;omega
theorem Vc{l:List Nd}{x:Nd}(h:InR l x)(h1:x.kind≠28)(h2:x.kind≠29)(h3:x.kind≠35):xF l x=true:=by
 unfold xF;rw[uX h];simp[h1,h2,h3]
theorem zaj(l:List yT)(m:Nat):(uK l).fits m=decide (m=l.length):=by
 unfold xl.fits uK;rw[pP];simp;omega
theorem ZF(k:Nat)(n:Int)(m:Nat)(h:k≠28):(decide ((xn k).1<=n) && decide (n<=(xn k).2))=zx k n m:=by
 have h28:(k == 28)=false:=bfE h
 unfold xn zx;rw[h28];by_cases h1:(k == 1 || k == 40)=true
 ·rw[if_pos h1,if_pos h1]
 ·rw[if_neg h1,if_neg h1];by_cases h2:(k == 67)=true
  ·rw[if_pos h2,if_pos h2]
  ·rw[if_neg h2,if_neg h2];by_cases h3:(k == 3 || k == 69 || k == 102)=true
   ·have h4:(k == 3 || k == 69 || false || k == 102)=true:=by simpa using h3
    rw[if_pos h3,if_pos h4,pP];simp;omega
   ·have h4:¬(k == 3 || k == 69 || false || k == 102)=true:=by simpa using h3
    rw[if_neg h3,if_neg h4,if_neg (by decide),pP];simp;omega
theorem uO(f:List yT)(s:yT)(least:Nat)(la:List yT)(m:Nat):(xl.mk f (some s) least la).fits m=decide (f.length+la.length+least<=m):=by
 unfold xl.fits;simp
theorem VF{l:List Nd}{x:Nd}(hin:InR l x)(h:xl)(ks:List Nat)(hk:x.kind∈ks)(h1:∀k∈ks,zN k=some h)(h2:∀k∈ks,k≠28/\k≠29/\k≠35)(hf:∀k∈ks,h.fits x.kids.length=(decide ((qK k).1<=x.kids.length) && decide (x.kids.length<=(qK k).2)))(hd:∀k∈ks,h.fits x.kids.length=true->∀i,i<x.kids.length->∀kd,qW h x.kids.length i kd=yM k x.n x.kids.length i kd):xH l x=zH l x:=
 zhw (h1 _ hk) (Vc hin (h2 _ hk).1 (h2 _ hk).2.1 (h2 _ hk).2.2) (hf _ hk) (ZF _ _ _ (h2 _ hk).1) (hd _ hk)
theorem jO{l:List Nd}{x:Nd}(hin:InR l x)(ls:List yT)(ks:List Nat)(hk:x.kind∈ks)(h1:∀k∈ks,zN k=some (uK ls))(h2:∀k∈ks,k≠28/\k≠29/\k≠35)(h3:∀k∈ks,qK k=(ls.length,ls.length))(h4:∀k∈ks,∀(n:Int) (i kd:Nat),i<ls.length->qW (uK ls) ls.length i kd=yM k n ls.length i kd):xH l x=zH l x:=
 VF hin (uK ls) ks hk h1 h2 (fun k hk=>by
  rw[h3 k hk,zaj];generalize x.kids.length=m;rw[pP];simp;omega) (fun k hk hf i hi kd=>by
  rw[zaj,pH] at hf;rw[hf] at hi ⊢;exact h4 k hk _ i kd hi)
theorem xK{l:List Nd}{x:Nd}(hin:InR l x)(hk:x.kind∈[1,2,3,4,5,44,45,46,80,81,82,83,84,66,67,68,69]\/x.kind∈[6,7,23,27,37,38,39,42,43,47,50,51,60,61,65]\/x.kind∈[40,86,87,88]\/x.kind∈[41,48,63,8,9,10,11,12,13,14,15,16,17,18,19,20,21,22]\/x.kind∈[49,64]\/x.kind∈[30]\/x.kind∈[32]\/x.kind∈[34]\/x.kind∈[36]\/x.kind∈[62]\/x.kind∈[104]):xH l x=zH l x:=by
 rcases hk with hk|hk|hk|hk|hk|hk|hk|hk|hk|hk|hk
 case' inl=>refine jO hin [] _ hk (by decide) (by decide) (by decide) ?_
 case' inr.inl=>refine jO hin [.expr] _ hk (by decide) (by decide) (by decide) ?_
 case' inr.inr.inl=>refine jO hin [.type] _ hk (by decide) (by decide) (by decide) ?_
 case' inr.inr.inr.inl=>refine jO hin [.expr,.expr] _ hk (by decide) (by decide) (by decide) ?_
 case' inr.inr.inr.inr.inl=>refine jO hin [.expr,.expr,.expr] _ hk (by decide) (by decide) (by decide) ?_
 case' inr.inr.inr.inr.inr.inl=>refine jO hin [.expr,.one 28] _ hk (by decide) (by decide) (by decide) ?_
 case' inr.inr.inr.inr.inr.inr.inl=>refine jO hin [.pattern,.expr] _ hk (by decide) (by decide) (by decide) ?_
 case' inr.inr.inr.inr.inr.inr.inr.inl=>refine jO hin [.one 28,.one 28] _ hk (by decide) (by decide) (by decide) ?_
 case' inr.inr.inr.inr.inr.inr.inr.inr.inl=>refine jO hin [.expr,.one 28,.one 28] _ hk (by decide) (by decide) (by decide) ?_
 case' inr.inr.inr.inr.inr.inr.inr.inr.inr.inl=>refine jO hin [.Kf,.expr] _ hk (by decide) (by decide) (by decide) ?_
 case' inr.inr.inr.inr.inr.inr.inr.inr.inr.inr=>refine jO hin [.type,.expr] _ hk (by decide) (by decide) (by decide) ?_
 all_goals
  simp only[wR]
  repeat' refine And.intro ?_ ?_
  all_goals first
   |(intro x hx;cases hx;done)
   |(intro n i kd hi;rcases (show i=0\/i=1\/i=2 by simp only[pN,wC] at hi;omega) with rfl|rfl|rfl <;> first|(simp[qW,xl.at_,uK,yM,yT.is];done)|(simp at hi;done))
theorem jN{l:List Nd}{x:Nd}(hin:InR l x)(hm:x.kids.length<=1999)(f:List yT)(s:yT)(least:Nat)(la:List yT)(ks:List Nat)(hk:x.kind∈ks)(h1:∀k∈ks,zN k=some ⟨f,some s,least,la⟩)(h2:∀k∈ks,k≠28/\k≠29/\k≠35)(h3:∀k∈ks,qK k=(f.length+la.length+least,2000))(h4:∀k∈ks,∀(n:Int) (m i kd:Nat),f.length+la.length+least<=m->i<m->qW ⟨f,some s,least,la⟩ m i kd=yM k n m i kd):xH l x=zH l x:=
 VF hin _ ks hk h1 h2 (fun k hk=>by
  rw[h3 k hk,uO];generalize x.kids.length=m at *;rw[pP];simp;omega) (fun k hk hf i hi kd=>by
  rw[uO,pH] at hf;exact h4 k hk _ _ i kd hf hi)
theorem uE{l:List Nd}{x:Nd}(hin:InR l x)(hm:x.kids.length<=1999)(hk:x.kind∈[25]\/x.kind∈[70]\/x.kind∈[89]\/x.kind∈[26]\/x.kind∈[100]\/x.kind∈[101]):xH l x=zH l x:=by
 rcases hk with hk|hk|hk|hk|hk|hk
 case' inl=>refine jN hin hm [] .expr 0 [] _ hk (by decide) (by decide) (by decide) ?_
 case' inr.inl=>refine jN hin hm [] .pattern 0 [] _ hk (by decide) (by decide) (by decide) ?_
 case' inr.inr.inl=>refine jN hin hm [] .type 0 [] _ hk (by decide) (by decide) (by decide) ?_
 case' inr.inr.inr.inl=>refine jN hin hm [] (.one 27) 1 [] _ hk (by decide) (by decide) (by decide) ?_
 case' inr.inr.inr.inr.inl=>refine jN hin hm [] (.one 88) 1 [] _ hk (by decide) (by decide) (by decide) ?_
 case' inr.inr.inr.inr.inr=>refine jN hin hm [] (.one 89) 1 [] _ hk (by decide) (by decide) (by decide) ?_
 all_goals
  intro k hk n m i kd hfit hi;simp only[pS,pR,or_false] at hk;subst hk;unfold qW xl.at_;rw[if_neg (by simp),if_neg (by simp;omega)];simp[yM,yT.is]
theorem zf2{l:List Nd}{x:Nd}(hin:InR l x)(hm:x.kids.length<=1999)(hk:x.kind∈[24]):xH l x=zH l x:=
 jN hin hm [.expr] .expr 0 [] _ hk (by decide) (by decide) (by decide) (fun k hk n m i kd hfit hi=>by
  simp only[pS,pR,or_false] at hk;subst hk;simp only[pN,wC] at hfit;unfold qW xl.at_;have hi3:i=0\/0<i:=by omega
  rcases hi3 with rfl|hi3
  ·simp[yM,yT.is]
  ·rw[if_neg (by simp;omega),if_neg (by simp;omega)];simp[yM,yT.is])
theorem zf1{l:List Nd}{x:Nd}(hin:InR l x)(hm:x.kids.length<=1999)(hk:x.kind∈[31]):xH l x=zH l x:=
 jN hin hm [.expr] (.one 32) 1 [] _ hk (by decide) (by decide) (by decide) (fun k hk n m i kd hfit hi=>by
  simp only[pS,pR,or_false] at hk;subst hk;simp only[pN,wC] at hfit;unfold qW xl.at_;have hi3:i=0\/0<i:=by omega
  rcases hi3 with rfl|hi3
  ·simp[yM,yT.is]
  ·rw[if_neg (by simp;omega),if_neg (by simp;omega)];have h0:i≠0:=by omega
   simp[yM,yT.is,h0,hi3])
theorem zf0{l:List Nd}{x:Nd}(hin:InR l x)(hm:x.kids.length<=1999)(hk:x.kind∈[85]):xH l x=zH l x:=
 jN hin hm [] .type 0 [.type] _ hk (by decide) (by decide) (by decide) (fun k hk n m i kd hfit hi=>by
  simp only[pS,pR,or_false] at hk;subst hk;simp only[pN,wC] at hfit;unfold qW xl.at_;have hi3:i+1=m\/i+1<m:=by omega
  rcases hi3 with rfl|hi3
  ·simp[yM,yT.is]
  ·rw[if_neg (by simp),if_neg (by simp;omega)];simp[yM,yT.is])
theorem zdt{l:List Nd}{x:Nd}(hin:InR l x)(hm:x.kids.length<=1999)(hk:x.kind∈[103]):xH l x=zH l x:=
 jN hin hm [] (.one 88) 0 [.type] _ hk (by decide) (by decide) (by decide) (fun k hk n m i kd hfit hi=>by
  simp only[pS,pR,or_false] at hk;subst hk;simp only[pN,wC] at hfit;unfold qW xl.at_;have hi3:i+1=m\/i+1<m:=by omega
  rcases hi3 with rfl|hi3
  ·simp[yM,yT.is]
  ·rw[if_neg (by simp),if_neg (by simp;omega)];have h0:i+1≠m:=by omega
   simp[yM,yT.is,h0,hi3])
theorem VE{l:List Nd}{x:Nd}(hin:InR l x)(hm:x.kids.length<=1999)(hk:x.kind∈[33,102]):xH l x=zH l x:=
 jN hin hm [] (.one 88) 0 [.type,.one 28] _ hk (by decide) (by decide) (by decide) (fun k hk n m i kd hfit hi=>by
  simp only[pS,pR,or_false] at hk;simp only[pN,wC] at hfit;unfold qW xl.at_;have hi3:i+1=m\/i+2=m\/i+2<m:=by omega
  rcases hi3 with rfl|rfl|hi3
  ·rw[if_neg (by simp),if_pos (by simp)];rcases hk with rfl|rfl <;> simp[yM,yT.is]
  ·rw[if_neg (by simp),if_pos (by simp)];rcases hk with rfl|rfl <;> simp[yM,yT.is]
  ·rw[if_neg (by simp),if_neg (by simp;omega)];have h0:i+1≠m:=by omega
   have h1:i+2≠m:=by omega
   rcases hk with rfl|rfl <;> simp[yM,yT.is,h0,h1,hi3])
theorem XE:∀(l:List Int) (k:Int),l.getLast? =some k->l.getD (l.length-1) 0=k
 |[],k,h=>by cases h
 |[a],k,h=>by cases h;rfl
 |a :: b :: r,k,h=>by
  have h2:(b :: r).getLast? =some k:=by simpa using h
  have:=XE (b :: r) k h2;simpa using this
theorem zhz{l:List Nd}{x:Nd}(hin:InR l x)(hm:x.kids.length<=1999)(hk:x.kind=28):xH l x=zH l x:=by
 unfold xH zH;have hs:zN x.kind=some ⟨[],some .stmt,0,[]⟩:=by rw[hk];rfl
 have hsp:xF l x=(x.n == 0 || (match x.kids.getLast? with|some k=>zW (zt l k)|none=>false)):=by
  unfold xF;rw[uX hin,hk];rfl
 rw[hs,hsp];simp only[uO,Zi,hk];have hP:∀i,i<x.kids.length->∀kd,qW ⟨[],some .stmt,0,[]⟩ x.kids.length i kd=yT.stmt.is kd:=fun i hi kd=>by
  unfold qW xl.at_;rw[if_neg (by simp),if_neg (by simp;omega)]
 have hR:∀i kd,yM 28 x.n x.kids.length i kd=(yT.stmt.is kd && (decide (i+1<x.kids.length) || x.n == 0 || zW kd)):=fun i kd=>rfl
 rw[jv (fun i hi=>hP i hi _)];simp only[hR];have hb:xn 28=(0,1):=rfl;have hf:qK 28=(0,2000):=rfl;have hn:zx 28 x.n x.kids.length=(x.n == 0 || (x.n == 1 && decide (0<x.kids.length))):=rfl;have hkn:xS 28=true:=rfl;rw[hb,hf,hn,hkn];have e1:decide ((([]:List yT).length+([]:List yT).length+0)<=x.kids.length)=true:=by simp
 have e2:decide (x.kids.length<=2000)=true:=by rw[pH];omega
 rw[e1,e2];simp only[pV,decide_true,Bool.true_and,Bool.and_true];by_cases h0:x.n=0
 ·rw[h0];simp
 ·have h0':(x.n == 0)=false:=bfE h0
  by_cases h1:x.n=1
  ·have h1':(x.n == 1)=true:=by rw[pX];exact h1
   rw[h0',h1',h1];simp only[Bool.false_or,Bool.or_false,Bool.true_and];cases hl:x.kids.getLast? with
   |none=>
    rw[List.getLast?_eq_none_iff] at hl;rw[hl];simp
   |some k=>
    have hlen:0<x.kids.length:=by
     cases hh:x.kids with
     |nil=>rw[hh] at hl;cases hl
     |cons _ _=>simp
    have hd:=XE _ _ hl;have e3:decide (0<x.kids.length)=true:=by rw[pH];exact hlen
    rw[e3];have key:((List.range x.kids.length).all fun i=>yT.stmt.is (zt l (x.kids.getD i 0)) && (decide (i+1<x.kids.length) || zW (zt l (x.kids.getD i 0))))=(zW (zt l k) && (List.range x.kids.length).all fun i=>yT.stmt.is (zt l (x.kids.getD i 0))):=by
     rw[pP,pI,pZ,pZ];constructor
     ·intro h;refine⟨?_,fun i hi=>?_⟩
      ·have:=h (x.kids.length-1) (List.mem_range.2 (by omega));rw[hd,pI,wH,pH] at this;rcases this.2 with h'|h'
       ·omega
       ·exact h'
      ·have:=h i hi;rw[pI] at this;exact this.1
     ·rintro ⟨h1,h2⟩ i hi;rw[pI,wH,pH];refine⟨h2 i hi,?_⟩;rcases Nat.lt_or_ge (i+1) x.kids.length with h'|h'
      ·exact .inl h'
      ·right;have hi':=List.mem_range.1 hi;have:i=x.kids.length-1:=by omega
       rw[this,hd];exact h1
    rw[key];dsimp only;generalize decide (0<=x.at_)=b;generalize decide (x.at_<=3000)=c;generalize xX x=d;generalize zW (zt l k)=e;generalize (List.range x.kids.length).all _=f;cases b <;> cases c <;> cases d <;> cases e <;> cases f <;> simp
  ·have h1':(x.n == 1)=false:=bfE h1
   have h2:(decide (0<=x.n) && decide (x.n<=1))=false:=by
    rw[Bool.and_eq_false_iff,wT,wT];omega
   rw[h0',h1',h2];simp
theorem zhy{l:List Nd}{x:Nd}(hin:InR l x)(hk:x.kind=29):xH l x=zH l x:=by
 unfold xH zH;have hs:zN x.kind=some ⟨[.expr,.one 28],some .els,0,[]⟩:=by rw[hk];rfl
 have hsp:xF l x=decide (x.kids.length<=3):=by
  unfold xF;rw[uX hin,hk];rfl
 rw[hs,hsp];simp only[uO,Zi,hk];have hb:=ZF 29 x.n x.kids.length (by decide);have hf:qK 29=(2,3):=rfl;have hkn:xS 29=true:=rfl;have e1:decide (([yT.expr,yT.one 28].length+([]:List yT).length+0)<=x.kids.length)=decide (2<=x.kids.length):=rfl;rw[hb,hf,hkn,e1];simp only[Bool.true_and];by_cases h3:2<=x.kids.length/\x.kids.length<=3
 ·have hd:∀i,i<x.kids.length->∀kd,qW ⟨[.expr,.one 28],some .els,0,[]⟩ x.kids.length i kd=yM 29 x.n x.kids.length i kd:=fun i hi kd=>by
   have h4:x.kids.length=2\/x.kids.length=3:=by omega
   generalize x.kids.length=m at *;unfold qW xl.at_;rcases h4 with rfl|rfl
   ·have hi3:i=0\/i=1:=by omega
    rcases hi3 with rfl|rfl <;> simp[yM,yT.is]
   ·have hi3:i=0\/i=1\/i=2:=by omega
    rcases hi3 with rfl|rfl|rfl <;> simp[yM,yT.is]
  rw[jv (fun i hi=>hd i hi _)];have e4:decide (2<=x.kids.length)=true:=by rw[pH];exact h3.1
  have e5:decide (x.kids.length<=3)=true:=by rw[pH];exact h3.2
  rw[e4,e5];generalize zx 29 x.n x.kids.length=a;generalize decide (0<=x.at_)=b;generalize decide (x.at_<=3000)=c;generalize xX x=d;cases a <;> cases b <;> cases c <;> cases d <;> simp
 ·have e4:(decide (2<=x.kids.length) && decide (x.kids.length<=3))=false:=by
   rw[Bool.and_eq_false_iff,wT,wT];omega
  rw[Bool.and_eq_false_iff] at e4;rcases e4 with e|e
  ·rw[e];simp
  ·rw[e];simp
theorem zeu(p:Int->Bool)(l:List Int):decide (l.length<=l.findIdx p+1)=(List.range l.length).all fun i=>decide (i+1=l.length) || !p (l.getD i 0):=by
 rw[pP,pH,pZ];constructor
 ·intro h i hi;have hi':=List.mem_range.1 hi;rw[wH,pH];rcases Nat.lt_or_ge (i+1) l.length with h'|h'
  ·right;have:=List.not_of_lt_findIdx (p:=p) (xs:=l) (i:=i) (by omega);rw[pB,glE hi',Option.getD_some];simpa using this
  ·left;omega
 ·intro h;rcases Nat.lt_or_ge (l.findIdx p) l.length with h'|h'
  ·have h2:=h _ (List.mem_range.2 h');rw[wH,pH,pB,glE h',Option.getD_some] at h2;rcases h2 with h2|h2
   ·omega
   ·have:=List.findIdx_getElem (p:=p) (xs:=l) (w:=h');rw[this] at h2;cases h2
  ·omega
theorem zhx{l:List Nd}{x:Nd}(hin:InR l x)(hm:x.kids.length<=1999)(hk:x.kind=35):xH l x=zH l x:=by
 unfold xH zH;have hs:zN x.kind=some ⟨[],some .way,1,[]⟩:=by rw[hk];rfl
 have hsp:xF l x=decide (x.kids.length<=(x.kids.findIdx fun k=>zt l k == 65)+1):=by
  unfold xF;rw[uX hin,hk];rfl
 rw[hs,hsp,zeu];simp only[uO,Zi,hk];have hb:=ZF 35 x.n x.kids.length (by decide);have hf:qK 35=(1,2000):=rfl;have hkn:xS 35=true:=rfl;have e1:decide ((([]:List yT).length+([]:List yT).length+1)<=x.kids.length)=decide (1<=x.kids.length):=by simp
 have e2:decide (x.kids.length<=2000)=true:=by rw[pH];omega
 have hP:∀i,i<x.kids.length->∀kd,qW ⟨[],some .way,1,[]⟩ x.kids.length i kd=yT.way.is kd:=fun i hi kd=>by
  unfold qW xl.at_;rw[if_neg (by simp),if_neg (by simp;omega)]
 have hR:∀i kd,yM 35 x.n x.kids.length i kd=(yT.way.is kd && (decide (i+1=x.kids.length) || !(kd == 65))):=fun i kd=>rfl
 rw[jv (fun i hi=>hP i hi _)];simp only[hR];rw[hb,hf,hkn,e1,e2];have key:((List.range x.kids.length).all fun i=>yT.way.is (zt l (x.kids.getD i 0)) && (decide (i+1=x.kids.length) || !(zt l (x.kids.getD i 0) == 65)))=(((List.range x.kids.length).all fun i=>decide (i+1=x.kids.length) || !(zt l (x.kids.getD i 0) == 65)) && (List.range x.kids.length).all fun i=>yT.way.is (zt l (x.kids.getD i 0))):=by
  rw[pP,pI,pZ,pZ,pZ];constructor
  ·intro h;refine⟨fun i hi=>?_,fun i hi=>?_⟩
   ·have:=h i hi;rw[pI] at this;exact this.2
   ·have:=h i hi;rw[pI] at this;exact this.1
  ·rintro ⟨h1,h2⟩ i hi;rw[pI];exact⟨h2 i hi,h1 i hi⟩
 rw[key];generalize zx 35 x.n x.kids.length=a;generalize decide (0<=x.at_)=b;generalize decide (x.at_<=3000)=c;generalize xX x=d;generalize decide (1<=x.kids.length)=e;cases a <;> cases b <;> cases c <;> cases d <;> cases e <;> simp
theorem zb0{l:List Nd}{x:Nd}(hin:InR l x)(hm:x.kids.length<=1999):xH l x=zH l x:=by
 cases hk:xS x.kind with
 |false=>
  have hs:zN x.kind=none:=by
   have:=QE x.kind;rw[hk] at this;cases h:zN x.kind with
   |none=>rfl
   |some _=>rw[h] at this;cases this
  unfold xH zH;rw[hs,hk];simp
 |true=>
  have h104:=kI hk;have hall:∀k,k<=104->xS k=true->k∈[1,2,3,4,5,44,45,46,80,81,82,83,84,66,67,68,69]\/k∈[6,7,23,27,37,38,39,42,43,47,50,51,60,61,65]\/k∈[40,86,87,88]\/k∈[41,48,63,8,9,10,11,12,13,14,15,16,17,18,19,20,21,22]\/k∈[49,64,30,32,34,36,62,104,25,70,89,26,100,101,24,31,85,103,33,102,28,29,35]:=by decide +kernel
  rcases hall _ h104 hk with h|h|h|h|h
  ·exact xK hin (.inl h)
  ·exact xK hin (.inr (.inl h))
  ·exact xK hin (.inr (.inr (.inl h)))
  ·exact xK hin (.inr (.inr (.inr (.inl h))))
  ·simp only[pS,pR,or_false] at h;rcases h with h|h|h|h|h|h|h|h|h|h|h|h|h|h|h|h|h|h|h|h|h|h|h
   ·exact xK hin (by rw[h];decide)
   ·exact xK hin (by rw[h];decide)
   ·exact xK hin (by rw[h];decide)
   ·exact xK hin (by rw[h];decide)
   ·exact xK hin (by rw[h];decide)
   ·exact xK hin (by rw[h];decide)
   ·exact xK hin (by rw[h];decide)
   ·exact xK hin (by rw[h];decide)
   ·exact uE hin hm (by rw[h];decide)
   ·exact uE hin hm (by rw[h];decide)
   ·exact uE hin hm (by rw[h];decide)
   ·exact uE hin hm (by rw[h];decide)
   ·exact uE hin hm (by rw[h];decide)
   ·exact uE hin hm (by rw[h];decide)
   ·exact zf2 hin hm (by rw[h];decide)
   ·exact zf1 hin hm (by rw[h];decide)
   ·exact zf0 hin hm (by rw[h];decide)
   ·exact zdt hin hm (by rw[h];decide)
   ·exact VE hin hm (by rw[h];decide)
   ·exact VE hin hm (by rw[h];decide)
   ·exact zhz hin hm h
   ·exact zhy hin h
   ·exact zhx hin hm h
def Xc(out:List Nat):List Int->Int->Option Int
 |[],p=>some p
 |k :: r,p=>if p<0\/k≠p then none else Xc out r (p-(out.getD p.toNat 0:Nat))
def qi(l:List Nd):Nat->List Nat
 |0=>[]
 |i+1=>if (qi l i).length<i then qi l i else
  match Xc (qi l i) ((l[i]?).elim [] Nd.kids).reverse ((i:Int)-1) with
  |none=>qi l i
  |some p=>qi l i ++ [((i:Int)-p).toNat]
def Xz(l:List Nd)(out:List Nat):List Int->Int->Option Int
 |[],p=>some p
 |k :: r,p=>if p<0\/k≠p\/yT.item.is (zt l p)=false then none else Xz l out r (p-(out.getD p.toNat 0:Nat))
def kY(t:zU):Bool:= !decide ((qi t.nodes t.nodes.length).length<t.nodes.length) && match Xz t.nodes (qi t.nodes t.nodes.length) t.items.reverse ((t.nodes.length:Int)-1) with
 |none=>false
 |some p=>t.nodes.all (zH t.nodes) && p == -1
theorem Xb(l:List Nd):∀i,(qi l i).length<=i
 |0=>pF _
 |i+1=>by
  have:=Xb l i;unfold qi;split
  ·omega
  ·split
   ·omega
   ·rw[pG,pK];omega
theorem XW{out out':List Nat}:∀(rk:List Int) (p:Int),(∀j:Nat,(j:Int)<=p->out.getD j 0=out'.getD j 0)->Xc out rk p=Xc out' rk p
 |[],_,_=>rfl
 |k :: r,p,h=>by
  unfold Xc;by_cases hc:p<0\/k≠p
  ·rw[if_pos hc,if_pos hc]
  ·rw[if_neg hc,if_neg hc,h p.toNat (by omega)];exact XW r _ (fun j hj=>h j (by omega))
theorem zaa(l:List Nd){out out':List Nat}:∀(rk:List Int) (p:Int),(∀j:Nat,(j:Int)<=p->out.getD j 0=out'.getD j 0)->Xz l out rk p=Xz l out' rk p
 |[],_,_=>rfl
 |k :: r,p,h=>by
  unfold Xz;by_cases hc:p<0\/k≠p\/yT.item.is (zt l p)=false
  ·rw[if_pos hc,if_pos hc]
  ·rw[if_neg hc,if_neg hc,h p.toNat (by omega)];exact zaa l r _ (fun j hj=>h j (by omega))
def xw(l:List Nd)(i:Nat):Prop:=(qi l i).length=i
theorem zah(l:List Nd):xw l 0:=rfl
theorem zai{l:List Nd}{i:Nat}(h:xw l (i+1)):xw l i/\∃p,Xc (qi l i) ((l[i]?).elim [] Nd.kids).reverse ((i:Int)-1)=some p/\qi l (i+1)=qi l i ++ [((i:Int)-p).toNat]:=by
 have hl:=Xb l i;unfold xw at h ⊢;unfold qi at h;split at h
 ·omega
 ·have hi:(qi l i).length=i:=by omega
  refine⟨hi,?_⟩;split at h
  ·omega
  ·rename_i p hp;refine⟨p,hp,?_⟩
   conv=>lhs;unfold qi
   rw[if_neg (by omega),hp]
theorem zjR{l:List Nd}{i:Nat}{p:Int}(h:xw l i)(hp:Xc (qi l i) ((l[i]?).elim [] Nd.kids).reverse ((i:Int)-1)=some p):xw l (i+1)/\qi l (i+1)=qi l i ++ [((i:Int)-p).toNat]:=by
 have e:qi l (i+1)=qi l i ++ [((i:Int)-p).toNat]:=by
  unfold xw at h
  conv=>lhs;unfold qi
  rw[if_neg (by omega),hp]
 refine⟨?_,e⟩;unfold xw at *;rw[e,pG,h,pK]
theorem Js{l:List Nd}{i:Nat}:∀{n:Nat},xw l n->i<=n->xw l i/\∀j,j<i->(qi l n).getD j 0=(qi l i).getD j 0
 |0,h,hi=>by
  have:i=0:=by omega
  subst this;exact⟨h,fun j hj=>absurd hj (pY _)⟩
 |n+1,h,hi=>by
  by_cases e:i=n+1
  ·subst e;exact⟨h,fun _ _=>rfl⟩
  ·obtain⟨h1,p,_,he⟩:=zai h;obtain⟨h2,h3⟩:=Js h1 (by omega:i<=n);refine⟨h2,fun j hj=>?_⟩;rw[he,pB,wQ (by unfold xw at h1;omega),<-pB];exact h3 j hj
theorem VA{out:List Nat}:∀(rk:List Int) (p e:Int),Xc out rk p=some e->e<=p
 |[],p,e,h=>by cases h;exact Int.le_refl _
 |k :: r,p,e,h=>by
  unfold Xc at h;split at h
  ·cases h
  ·have:=VA r _ e h;omega
theorem qn{l:List Nd}{n:Nat}(h:xw l n){i:Nat}(hi:i<n):∃p:Int,Xc (qi l n) ((l[i]?).elim [] Nd.kids).reverse ((i:Int)-1)=some p/\((qi l n).getD i 0:Int)=i-p/\p<i:=by
 obtain⟨h1,h1e⟩:=Js h (by omega:i+1<=n);obtain⟨h2,p,hp,he⟩:=zai h1;have hb:=VA _ _ _ hp;refine⟨p,?_,?_,by omega⟩
 ·rw[XW (out':=qi l i) _ _ (fun j hj=>?_)]
  ·exact hp
  ·rw[h1e j (by omega),he,pB,wQ (by unfold xw at h2;omega),<-pB]
 ·rw[h1e i (by omega),he,pB,wL (by unfold xw at h2;omega)];have:i-(qi l i).length=0:=by unfold xw at h2;omega
  rw[this];simp;omega
theorem zdm{h:xl}{m i kd:Nat}(hs:qW h m i kd=true):∃s,h.at_ i m=some s/\s.is kd=true:=by
 unfold qW at hs;cases ha:h.at_ i m with
 |none=>rw[ha] at hs;cases hs
 |some s=>rw[ha] at hs;exact⟨s,rfl,hs⟩
theorem zb2(k:Int)(r:List Int):(k :: r).reverse.getD r.length 0=k:=by
 rw[List.reverse_cons,pB,wL (by simp)];simp
theorem zb3(k:Int)(r:List Int){p:Nat}(hp:p<r.length):(k :: r).reverse.getD p 0=r.reverse.getD p 0:=by
 rw[List.reverse_cons,pB,wQ (by simpa using hp),<-pB]
theorem zcK{l:List Nd}(hF:xw l l.length)(hR:∀x∈l,xH l x=true):∀(i f:Nat) (s:yT),i<l.length->i<f->s.is (zt l i)=true->qx l f i i s=some ((i:Int)-((qi l l.length).getD i 0:Nat))
 |i,0,s,_,hf,_=>absurd hf (pY _)
 |i,f+1,s,hi,hf,hs=>by
  obtain⟨p,hp,hsz,hpi⟩:=qn hF hi;have hx:l[i]? =some l[i]:=glE hi;have hr:=hR l[i] (wF _);rw[hx] at hp;simp only[Option.elim] at hp;have hk:zt l i=l[i].kind:=by unfold zt;rw[pO,hx];rfl
  rw[hk] at hs;generalize l[i]=x at *;unfold xH at hr;cases hsh:zN x.kind with
  |none=>rw[hsh] at hr;cases hr
  |some h=>
   rw[hsh] at hr;simp only[pI,pZ,List.mem_range] at hr;obtain⟨⟨⟨h1,h2⟩,h3⟩,h4⟩:=hr;have key:∀(rk:List Int) (next e:Int),next<i->Xc (qi l l.length) rk next=some e->(∀q,q<rk.length->qW h x.kids.length q (zt l (rk.reverse.getD q 0))=true)->uN (qx l f) h x.kids.length rk next=some e:=by
    intro rk;induction rk with
    |nil=>intro next e _ he _;exact he
    |cons k r ih=>
     intro next e hn he hq
     unfold Xc at he;split at he
     ·cases he
     ·rename_i hc;have hk0:0<=next/\k=next:=by omega
      obtain⟨k',rfl⟩:=pJ hk0.1;have hsr:=hq r.length (by simp);rw[zb2,hk0.2] at hsr;obtain⟨sr,ha,hsr⟩:=zdm hsr;unfold uN;rw[ha,hk0.2];simp only;rw[zcK hF hR k' f sr (by omega) (by omega) hsr,Option.bind_some];exact ih _ e (by omega) (by simpa using he) (fun q hq'=>by have:=hq q (by simp;omega);rwa [zb3 k r hq'] at this)
   unfold qx;rw[if_neg (by omega),pO,hx];simp only[hsh];rw[if_pos (by rw[hs,h1,h2,h3];rfl),key _ _ p (by omega) hp (fun q hq=>by
    rw[List.reverse_reverse];exact h4 q (by simpa using hq)),hsz]
   congr 1;omega
termination_by i=>i
theorem zcN{l:List Nd}(hF:xw l l.length)(hR:∀x∈l,xH l x=true):∀(rk:List Int) (next e:Int),next<l.length->Xz l (qi l l.length) rk next=some e->ZO l rk next=some e
 |[],_,_,_,h=>h
 |k :: r,next,e,hn,h=>by
  unfold Xz at h;split at h
  ·cases h
  ·rename_i hc;have hk0:0<=next/\k=next:=by omega
   obtain⟨k',rfl⟩:=pJ hk0.1;unfold ZO;rw[hk0.2,zcK hF hR k' _ .item (by omega) (by omega) (by
    cases hb:yT.item.is (zt l (k':Int)) with
    |true=>rfl
    |false=>exact absurd (.inr (.inr hb)) hc),Option.bind_some]
   exact zcN hF hR r _ e (by omega) h
def KV(l:List Nd)(e i:Int):Prop:=∀j:Nat,e<j->(j:Int)<=i->∃x,l[j]? =some x/\xH l x=true
theorem KV.join{l:List Nd}{a b c:Int}(h:KV l a b)(k:KV l b c):KV l a c:=fun j h1 h2=>by
 by_cases e:(j:Int)<=b
 ·exact h j h1 e
 ·exact k j (by omega) h2
def XM(l:List Nd)(e:Int):Prop:=xw l (e+1).toNat
theorem zcJ{l:List Nd}:∀(f:Nat) (i num:Int) (s:yT) (e:Int),-1<=i->i<l.length->qx l f i num s=some e->num=i/\0<=i/\-1<=e/\e<i/\s.is (zt l i)=true/\(XM l e->XM l i/\((qi l (i+1).toNat).getD i.toNat 0:Int)=i-e/\KV l e i)
 |0,_,_,_,_,_,_,h=>by cases h
 |f+1,i,num,s,e,hi,hl,h=>by
  unfold qx at h;split at h
  ·cases h
  ·rename_i hc;have hc2:0<=i/\num=i:=by omega
   obtain⟨rfl⟩:=hc2.2;obtain⟨i,rfl⟩:=pJ hc2.1;have hil:i<l.length:=by omega
   rw[pO,glE hil] at h;have hx:l[i]? =some l[i]:=glE hil;have hk:zt l i=l[i].kind:=by unfold zt;rw[pO,hx];rfl
   generalize l[i]=x at *;simp only at h;cases hsh:zN x.kind with
   |none=>rw[hsh] at h;cases h
   |some sh=>
    rw[hsh] at h;simp only at h;split at h
    ·rename_i hcond;simp only[pI] at hcond;obtain⟨⟨⟨hs,h1⟩,h2⟩,h3⟩:=hcond;have key:∀(rk:List Int) (next e:Int),-1<=next->next<l.length->uN (qx l f) sh x.kids.length rk next=some e->-1<=e/\e<=next/\(∀q,q<rk.length->qW sh x.kids.length q (zt l (rk.reverse.getD q 0))=true)/\(XM l e->XM l next/\Xc (qi l (next+1).toNat) rk next=some e/\KV l e next):=by
      intro rk;induction rk with
      |nil=>
       intro next e hn _ he
       cases he;exact⟨hn,Int.le_refl _,fun q hq=>absurd hq (pY _),fun hf=>⟨hf,rfl,fun j h1 h2=>by omega⟩⟩
      |cons k r ih=>
       intro next e hn hnl he
       unfold uN at he;cases ha:sh.at_ r.length x.kids.length with
       |none=>rw[ha] at he;cases he
       |some sr=>
        rw[ha] at he;simp only at he;cases hg:qx l f next k sr with
        |none=>rw[hg] at he;cases he
        |some e1=>
         rw[hg,Option.bind_some] at he;obtain⟨hk1,hn0,he1,he2,hsr,hful⟩:=zcJ f next k sr e1 hn hnl hg
         obtain⟨i1,i2,i3,i4⟩:=ih e1 e he1 (by omega) he;refine⟨i1,by omega,fun q hq=>?_,fun hf=>?_⟩
         ·have hq2:q=r.length\/q<r.length:=by simp at hq;omega
          rcases hq2 with rfl|hq2
          ·rw[zb2,hk1];unfold qW;rw[ha];exact hsr
          ·rw[zb3 k r hq2];exact i3 q hq2
         ·obtain⟨j1,j2,j3⟩:=i4 hf;obtain⟨k1,k2,k3⟩:=hful j1;refine⟨k1,?_,j3.join k3⟩;unfold Xc;rw[if_neg (by omega),k2,show next-(next-e1)=e1 by omega,<-j2];exact XW _ _ (fun j hj=>(Js k1 (by omega:(e1+1).toNat<=(next+1).toNat)).2 j (by omega))
     obtain⟨a1,a2,a3,a4⟩:=key _ _ e (by omega) (by omega) h;refine⟨rfl,by omega,a1,by omega,by rw[hk];exact hs,fun hf=>?_⟩;obtain⟨b1,b2,b3⟩:=a4 hf;have hn1:((i:Int)-1+1).toNat=i:=by omega
     unfold XM at b1;rw[hn1] at b1 b2;have hu:=zjR (p:=e) b1 (by rw[hx];exact b2);have hn2:((i:Int)+1).toNat=i+1:=by omega
     refine⟨by unfold XM;rw[hn2];exact hu.1,?_,?_⟩
     ·rw[hn2,pO,hu.2,pB,wL (by unfold xw at b1;omega)];have:i-(qi l i).length=0:=by unfold xw at b1;omega
      rw[this];simp;omega
     ·refine b3.join (fun j h1' h2'=>?_);have hj:j=i:=by omega
      subst hj;refine⟨x,hx,?_⟩;unfold xH;rw[hsh];simp only[pI,pZ,List.mem_range];exact⟨⟨⟨h1,h2⟩,h3⟩,fun q hq=>by have:=a3 q (by simpa using hq);rwa [List.reverse_reverse] at this⟩
    ·cases h
theorem zcM{l:List Nd}:∀(rk:List Int) (next e:Int),-1<=next->next<l.length->ZO l rk next=some e->-1<=e/\e<=next/\(XM l e->XM l next/\Xz l (qi l (next+1).toNat) rk next=some e/\KV l e next)
 |[],next,e,hn,_,h=>by
  cases h;exact⟨hn,Int.le_refl _,fun hf=>⟨hf,rfl,fun j h1 h2=>by omega⟩⟩
 |k :: r,next,e,hn,hnl,h=>by
  unfold ZO at h;cases hg:qx l (l.length+1) next k .item with
  |none=>rw[hg] at h;cases h
  |some e1=>
   rw[hg,Option.bind_some] at h;obtain⟨hk1,hn0,he1,he2,hsr,hful⟩:=zcJ _ next k _ e1 hn hnl hg
   obtain⟨i1,i2,i4⟩:=zcM r e1 e he1 (by omega) h;refine⟨i1,by omega,fun hf=>?_⟩;obtain⟨j1,j2,j3⟩:=i4 hf;obtain⟨k1,k2,k3⟩:=hful j1;refine⟨k1,?_,j3.join k3⟩;unfold Xz;rw[if_neg (by rw[hsr];simp;omega),k2,show next-(next-e1)=e1 by omega,<-j2];exact zaa l _ _ (fun j hj=>(Js k1 (by omega:(e1+1).toNat<=(next+1).toNat)).2 j (by omega))
theorem Jk{out:List Nat}:∀(rk:List Int) (p e:Int),Xc out rk p=some e->∀k∈rk,0<=k/\k<=p
 |[],_,_,_,k,hk=>by cases hk
 |k :: r,p,e,h,j,hj=>by
  unfold Xc at h;split at h
  ·cases h
  ·rcases pS.1 hj with rfl|hj
   ·omega
   ·have:=Jk r _ e h j hj;omega
theorem zbh{l:List Nd}(h:xw l l.length){x:Nd}(hx:x∈l):InR l x:=by
 obtain⟨i,hi,rfl⟩:=List.mem_iff_getElem.1 hx;obtain⟨p,hp,_,_⟩:=qn h hi;rw[glE hi] at hp;intro k hk;have:=Jk _ _ _ hp k (gD.2 hk);omega
theorem zbi(t:zU)(hm:∀x∈t.nodes,x.kids.length<=1999):jc t=kY t:=by
 rw[pP];constructor
 ·intro h;unfold jc at h;cases hI:ZO t.nodes t.items.reverse ((t.nodes.length:Int)-1) with
  |none=>rw[hI] at h;cases h
  |some e=>
   rw[hI] at h;simp only[pH] at h;obtain⟨h1,h2,h3⟩:=zcM _ _ e (by omega) (by omega) hI;have he:e= -1:=by omega
   subst he;obtain⟨h4,h5,h6⟩:=h3 (zah _);have hn:((t.nodes.length:Int)-1+1).toNat=t.nodes.length:=by omega
   unfold XM at h4;rw[hn] at h4 h5;have hall:t.nodes.all (zH t.nodes)=true:=by
    rw[pZ];intro x hx;rw[<-zb0 (zbh h4 hx) (hm x hx)];obtain⟨j,hj,rfl⟩:=List.mem_iff_getElem.1 hx;obtain⟨y,hy,hr⟩:=h6 j (by omega) (by omega);rw[glE hj] at hy;cases hy;exact hr
   unfold kY;rw[h5,hall];unfold xw at h4;rw[h4];simp
 ·intro h;unfold kY at h;rw[pI] at h;obtain⟨h1,h2⟩:=h;have hF:xw t.nodes t.nodes.length:=by
   have:=Xb t.nodes t.nodes.length;unfold xw;simp at h1;omega
  cases hI:Xz t.nodes (qi t.nodes t.nodes.length) t.items.reverse ((t.nodes.length:Int)-1) with
  |none=>rw[hI] at h2;cases h2
  |some e=>
   rw[hI] at h2;simp only[pI,pZ,pX] at h2;have hR:∀x∈t.nodes,xH t.nodes x=true:=fun x hx=>by rw[zb0 (zbh hF hx) (hm x hx)];exact h2.1 x hx
   have:=zcN hF hR _ _ e (by omega) hI;unfold jc;rw[this];simp only[pH];omega
def ZP(l:List Nd):Nat->List Nat->Nat->Nat
 |0,_,most=>most
 |i+1,deep,most=>ZP l i (xu (max 1 (deep.getD i 0)) ((l[i]?).elim [] Nd.kids) (deep.set i (max 1 (deep.getD i 0)))) (max most (max 1 (deep.getD i 0)))
def uQ(t:zU):Nat:=ZP t.nodes t.nodes.length (List.replicate t.nodes.length 0) 0
def ZQ(l:List Nd)(x:Nd)(k:Nat):Nat:=x.kids.countP fun j=>zt l j == k
def kT(l:List Nd)(x:Nd):Bool:=
 if x.kind == 102 || x.kind == 103 || x.kind == 33 then decide (ZQ l x 88<=6)
 else if x.kind == 85 || x.kind == 24 then decide (x.kids.length<=7)
 else if x.kind == 100 || x.kind == 26 then decide (x.kids.length<=6)
 else if x.kind == 101 then decide (x.kids.length<=8)
 else if x.kind == 89 || x.kind == 25 || x.kind == 70 || x.kind == 35 then decide (x.kids.length<=4)
 else if x.kind == 31 then decide (x.kids.length<=13)
 else if x.kind == 40 then decide (1<=x.n) && decide (x.n<=8)
 else true
def xh(t:zU):Nat:=
 if 1000<t.nodes.length\/40<t.items.length then 5
 else if !kY t then 4
 else if 40<uQ t then 5
 else if t.nodes.any fun x=> !kT t.nodes x then 3
 else 0
def zmf(t:zU):Prop:=∀j:Nat,j<t.nodes.length->(j:Int)∈t.items\/∃i,j<i/\∃x,t.nodes[i]? =some x/\(j:Int)∈x.kids
theorem Vz{out:List Nat}:∀(rk:List Int) (p e:Int),Xc out rk p=some e->∀j:Nat,e<j->(j:Int)<=p->∃k:Nat,(k:Int)∈rk/\(k:Int)<=p/\j<=k/\(k:Int)-(out.getD k 0:Nat)<j
 |[],p,e,h,j,h1,h2=>by cases h;omega
 |k :: r,p,e,h,j,h1,h2=>by
  unfold Xc at h;split at h
  ·cases h
  ·rename_i hc;have hk0:0<=p/\k=p:=by omega
   obtain⟨q,rfl⟩:=pJ hk0.1;rw[pO] at h;by_cases hj:(q:Int)-(out.getD q 0:Nat)<j
   ·exact⟨q,by rw[hk0.2];exact List.mem_cons_self ..,Int.le_refl _,by omega,hj⟩
   ·obtain⟨k2,a,b,c,d⟩:=Vz r _ e h j h1 (by omega);exact⟨k2,wJ _ a,by omega,c,d⟩
theorem VZ(l:List Nd){out:List Nat}:∀(rk:List Int) (p e:Int),Xz l out rk p=some e->∀j:Nat,e<j->(j:Int)<=p->∃k:Nat,(k:Int)∈rk/\(k:Int)<=p/\j<=k/\(k:Int)-(out.getD k 0:Nat)<j
 |[],p,e,h,j,h1,h2=>by cases h;omega
 |k :: r,p,e,h,j,h1,h2=>by
  unfold Xz at h;split at h
  ·cases h
  ·rename_i hc;have hk0:0<=p/\k=p:=by omega
   obtain⟨q,rfl⟩:=pJ hk0.1;rw[pO] at h;by_cases hj:(q:Int)-(out.getD q 0:Nat)<j
   ·exact⟨q,by rw[hk0.2];exact List.mem_cons_self ..,Int.le_refl _,by omega,hj⟩
   ·obtain⟨k2,a,b,c,d⟩:=VZ l r _ e h j h1 (by omega);exact⟨k2,wJ _ a,by omega,c,d⟩
theorem zbO{l:List Nd}(hF:xw l l.length):∀(i j:Nat),i<l.length->j<i->(i:Int)-((qi l l.length).getD i 0:Nat)<j->∃i',j<i'/\∃x,l[i']? =some x/\(j:Int)∈x.kids
 |i,j,hi,hj,h=>by
  obtain⟨p,hp,hsz,hpi⟩:=qn hF hi;obtain⟨k,hk,hkp,hjk,hlt⟩:=Vz _ _ p hp j (by omega) (by omega);have hx:l[i]? =some l[i]:=glE hi;rw[hx] at hk;simp only[Option.elim,gD] at hk;by_cases e:j=k
  ·subst e;exact⟨i,hj,l[i],hx,hk⟩
  ·exact zbO hF k j (by omega) (by omega) hlt
termination_by i=>i
theorem zjN{t:zU}(hF:xw t.nodes t.nodes.length)(hI:Xz t.nodes (qi t.nodes t.nodes.length) t.items.reverse ((t.nodes.length:Int)-1)=some (-1)):zmf t:=fun j hj=>by
 obtain⟨k,hk,hkp,hjk,hlt⟩:=VZ _ _ _ _ hI j (by omega) (by omega);by_cases e:j=k
 ·subst e;exact .inl (gD.1 hk)
 ·exact .inr (zbO hF k j (by omega) (by omega) hlt)
theorem vP(l:List Nat)(i j v:Nat):(l.set i v).getD j 0=if i=j/\j<l.length then v else l.getD j 0:=by
 rw[pB,List.getElem?_set,pB];by_cases e:i=j
 ·subst e;by_cases h:i<l.length
  ·simp[h]
  ·simp[h]
 ·simp[e]
structure zmg(t:zU)(i:Nat)(P R:List Nat):Prop where
 lp:P.length=t.nodes.length
 lr:R.length=t.nodes.length
 eq:∀j,j<i->(R.getD j 0=0/\P.getD j 0=(if (j:Int)∈t.items then 1 else 0))\/(1<=R.getD j 0/\P.getD j 0=R.getD j 0)
 got:∀i' x,i<=i'->t.nodes[i']? =some x->∀j:Nat,(j:Int)∈x.kids->j<i->1<=R.getD j 0
theorem Zn(d:Nat):∀(k:List Int) (l:List Nat),(xu d k l).length=l.length
 |[],l=>rfl
 |a :: r,l=>by unfold xu;rw[Zn d r,List.length_set]
theorem vj(d:Nat):∀(k:List Int) (l:List Nat) (j:Nat),j<l.length->(xu d k l).getD j 0=if (∃a∈k,a.toNat=j) then d+1 else l.getD j 0
 |[],l,j,_=>by simp[xu]
 |a :: r,l,j,h=>by
  unfold xu;rw[vj d r _ j (by rw[List.length_set];exact h),vP];by_cases e:a.toNat=j
  ·by_cases e2:∃b∈r,b.toNat=j
   ·rw[if_pos e2,if_pos (by obtain⟨b,hb,hbj⟩:=e2;exact⟨b,wJ _ hb,hbj⟩)]
   ·rw[if_neg e2,if_pos ⟨e,h⟩,if_pos ⟨a,List.mem_cons_self ..,e⟩]
  ·by_cases e2:∃b∈r,b.toNat=j
   ·rw[if_pos e2,if_pos (by obtain⟨b,hb,hbj⟩:=e2;exact⟨b,wJ _ hb,hbj⟩)]
   ·rw[if_neg e2,if_neg (fun h'=>e h'.1),if_neg (by
     rintro ⟨b,hb,hbj⟩;rcases pS.1 hb with rfl|hb
     ·exact e hbj
     ·exact e2 ⟨b,hb,hbj⟩)]
theorem zfp{t:zU}(hH:zmf t):∀(i:Nat) (P R:List Nat) (most:Nat),i<=t.nodes.length->zmg t i P R->Yr t.nodes i P most=ZP t.nodes i R most
 |0,_,_,_,_,_=>rfl
 |i+1,P,R,most,hi,D=>by
  have hil:i<t.nodes.length:=by omega
  have hx:t.nodes[i]? =some t.nodes[i]:=glE hil;have hd:P.getD i 0=max 1 (R.getD i 0):=by
   rcases D.eq i (by omega) with⟨h1,h2⟩|⟨h1,h2⟩
   ·rcases hH i hil with hh|⟨i',hlt,x,hx',hm⟩
    ·rw[h2,if_pos hh,h1];rfl
    ·have:=D.got i' x (by omega) hx' i hm (by omega);omega
   ·rw[h2];omega
  unfold Yr ZP;rw[hx,<-hd];simp only[Option.elim];generalize t.nodes[i]=x at *;refine zfp hH i _ _ _ (by omega) ⟨by rw[Zn,D.lp],by rw[Zn,List.length_set,D.lr],fun j hj=>?_,fun i' y hi' hy j hjm hji=>?_⟩
  ·rw[vj _ _ _ j (by first|(rw[D.lp];omega)|(rw[List.length_set,D.lr];omega)),vj _ _ _ j (by first|(rw[D.lp];omega)|(rw[List.length_set,D.lr];omega))];by_cases e:∃a∈x.kids,a.toNat=j
   ·rw[if_pos e,if_pos e];exact .inr ⟨by omega,rfl⟩
   ·rw[if_neg e,if_neg e,vP,if_neg (by omega)];exact D.eq j (by omega)
  ·rw[vj _ _ _ j (by rw[List.length_set,D.lr];omega)];by_cases e:∃a∈x.kids,a.toNat=j
   ·rw[if_pos e];omega
   ·rw[if_neg e,vP,if_neg (by omega)];have hii:i'≠i:=fun e2=>by
     subst e2;rw[hx] at hy;cases hy;exact e ⟨(j:Int),hjm,by simp⟩
    exact D.got i' y (by omega) hy j hjm (by omega)
theorem VX(n:Nat):∀(l:List Int) (d:List Nat) (j:Nat),j<d.length->(l.foldl (fun (d:List Nat) k=>d.set k.toNat 1) d).getD j 0=if (∃a∈l,a.toNat=j) then 1 else d.getD j 0
 |[],d,j,_=>by simp
 |a :: r,d,j,h=>by
  rw[List.foldl_cons,VX n r _ j (by rw[List.length_set];exact h),vP];by_cases e:a.toNat=j
  ·by_cases e2:∃b∈r,b.toNat=j
   ·rw[if_pos e2,if_pos (by obtain⟨b,hb,hbj⟩:=e2;exact⟨b,wJ _ hb,hbj⟩)]
   ·rw[if_neg e2,if_pos ⟨e,h⟩,if_pos ⟨a,List.mem_cons_self ..,e⟩]
  ·by_cases e2:∃b∈r,b.toNat=j
   ·rw[if_pos e2,if_pos (by obtain⟨b,hb,hbj⟩:=e2;exact⟨b,wJ _ hb,hbj⟩)]
   ·rw[if_neg e2,if_neg (fun h'=>e h'.1),if_neg (by
     rintro ⟨b,hb,hbj⟩;rcases pS.1 hb with rfl|hb
     ·exact e hbj
     ·exact e2 ⟨b,hb,hbj⟩)]
theorem VW:∀(l:List Int) (d:List Nat),(l.foldl (fun (d:List Nat) k=>d.set k.toNat 1) d).length=d.length
 |[],d=>rfl
 |a :: r,d=>by rw[List.foldl_cons,VW r,List.length_set]
theorem Xy(l:List Nd){out:List Nat}:∀(rk:List Int) (p e:Int),Xz l out rk p=some e->∀k∈rk,0<=k/\k<=p
 |[],_,_,_,k,hk=>by cases hk
 |k :: r,p,e,h,j,hj=>by
  unfold Xz at h;split at h
  ·cases h
  ·rcases pS.1 hj with rfl|hj
   ·omega
   ·have:=Xy l r _ e h j hj;omega
theorem zew{t:zU}(hF:xw t.nodes t.nodes.length)(hI:Xz t.nodes (qi t.nodes t.nodes.length) t.items.reverse ((t.nodes.length:Int)-1)=some (-1)):jV t=uQ t:=by
 unfold jV uQ;refine zfp (zjN hF hI) _ _ _ _ (pF _) ⟨by rw[VW,List.length_replicate],List.length_replicate,fun j hj=>.inl ⟨?_,?_⟩,fun i' x hi' hx j hm hj=>?_⟩
 ·simp[pB,hj]
 ·rw[VX t.nodes.length _ _ j (by rw[List.length_replicate];exact hj)];have e0:(List.replicate t.nodes.length 0).getD j 0=0:=by simp[pB,hj]
  rw[e0];have hiff:(∃a∈t.items,a.toNat=j)↔(j:Int)∈t.items:=by
   constructor
   ·rintro ⟨a,ha,rfl⟩;have:=Xy _ _ _ _ hI a (gD.2 ha);rw[Int.toNat_of_nonneg this.1];exact ha
   ·exact fun h=>⟨_,h,by simp⟩
  by_cases h:(j:Int)∈t.items
  ·rw[if_pos (hiff.2 h),if_pos h]
  ·rw[if_neg (fun h'=>h (hiff.1 h')),if_neg h]
 ·have:=(gtL hx);omega
theorem zey(p:Int->Bool)(l:List Int)(h:∀x∈l,p x=true):l.countP p=l.length:=List.countP_eq_length.2 h
theorem zgG(p:Int->Bool)(l:List Int)(h:∀x∈l,p x=false):l.countP p=0:=List.countP_eq_zero.2 (fun x hx=>by rw[h x hx];decide)
theorem QY(l:List Nd)(x:Nd)(c:Nat)(hc:c<=x.kids.length)(h1:∀i,i+c<x.kids.length->zt l (x.kids.getD i 0)=88)(h2:∀i,x.kids.length<=i+c->i<x.kids.length->zt l (x.kids.getD i 0)≠88):ZQ l x 88=x.kids.length-c:=by
 unfold ZQ;rw[<-List.take_append_drop (x.kids.length-c) x.kids,List.countP_append,zey,zgG]
 ·simp
 ·intro k hk;obtain⟨i,hi,rfl⟩:=List.mem_iff_getElem.1 hk;rw[wV] at hi;rw[List.getElem_drop];have:=h2 (x.kids.length-c+i) (by omega) (by omega);rw[pB,glE (by omega),Option.getD_some] at this;rw[pA];exact this
 ·intro k hk;obtain⟨i,hi,rfl⟩:=List.mem_iff_getElem.1 hk;rw[wZ] at hi;rw[List.getElem_take];have:=h1 i (by omega);rw[pB,glE (by omega),Option.getD_some] at this;rw[pX];exact this
theorem zhl{l:List Nd}{x:Nd}(hr:zH l x=true)(hm:x.kids.length<=1000):xM x=kT l x:=by
 unfold zH at hr;simp only[pI,pZ,List.mem_range,pH] at hr;obtain⟨⟨⟨⟨⟨⟨⟨_,hlo⟩,_⟩,_⟩,_⟩,_⟩,_⟩,hs⟩:=hr;have hfun:(x.kind=102\/x.kind=33)->ZQ l x 88=x.kids.length-2/\2<=x.kids.length:=fun hk=>by
  have h2:2<=x.kids.length:=by rcases hk with hk|hk <;> (rw[hk] at hlo;exact hlo)
  have hs':∀i,i<x.kids.length->((decide (i+2<x.kids.length) && zt l (x.kids.getD i 0) == 88) || (decide (i+2=x.kids.length) && yT.type.is (zt l (x.kids.getD i 0))) || (decide (i+1=x.kids.length) && zt l (x.kids.getD i 0) == 28))=true:=fun i hi=>by
   have:=hs i hi;rcases hk with hk|hk <;> (rw[hk] at this;exact this)
  refine⟨QY l x 2 h2 (fun i hi=>?_) (fun i h3 h4=>?_),h2⟩
  ·have:=hs' i (by omega);simp only[wH,pI,pH,pX] at this;omega
  ·have:=hs' i h4;simp only[wH,pI,pH,pX,yT.is] at this;omega
 have hext:x.kind=103->ZQ l x 88=x.kids.length-1/\1<=x.kids.length:=fun hk=>by
  have h2:1<=x.kids.length:=by rw[hk] at hlo;exact hlo
  have hs':∀i,i<x.kids.length->((decide (i+1<x.kids.length) && zt l (x.kids.getD i 0) == 88) || (decide (i+1=x.kids.length) && yT.type.is (zt l (x.kids.getD i 0))))=true:=fun i hi=>by
   have:=hs i hi;rw[hk] at this;exact this
  refine⟨QY l x 1 h2 (fun i hi=>?_) (fun i h3 h4=>?_),h2⟩
  ·have:=hs' i (by omega);simp only[wH,pI,pH,pX] at this;omega
  ·have:=hs' i h4;simp only[wH,pI,pH,pX,yT.is] at this;omega
 have h1000:decide (x.kids.length<=1000)=true:=by rw[pH];exact hm
 unfold xM kT qY;generalize hkk:x.kind=k at *;by_cases e1:k=102
 ·subst e1;obtain⟨a,b⟩:=hfun (.inl rfl);simp[a]
 by_cases e2:k=33
 ·subst e2;obtain⟨a,b⟩:=hfun (.inr rfl);simp[a]
 by_cases e3:k=103
 ·subst e3;obtain⟨a,b⟩:=hext rfl;simp[a]
 by_cases e4:k=85
 ·subst e4;simp
 by_cases e5:k=24
 ·subst e5;simp
 by_cases e6:k=100
 ·subst e6;simp
 by_cases e7:k=26
 ·subst e7;simp
 by_cases e8:k=101
 ·subst e8;simp
 by_cases e9:k=89
 ·subst e9;simp
 by_cases e10:k=25
 ·subst e10;simp
 by_cases e11:k=70
 ·subst e11;simp
 by_cases e12:k=35
 ·subst e12;simp
 by_cases e13:k=31
 ·subst e13;simp
 by_cases e14:k=40
 ·subst e14;simp
 simp[e1,e2,e3,e4,e5,e6,e7,e8,e9,e10,e11,e12,e13,e14,hm]
theorem jE{t:zU}(h:kY t=true):xw t.nodes t.nodes.length/\Xz t.nodes (qi t.nodes t.nodes.length) t.items.reverse ((t.nodes.length:Int)-1)=some (-1)/\∀x∈t.nodes,zH t.nodes x=true:=by
 unfold kY at h;rw[pI] at h;obtain⟨h1,h2⟩:=h;have hF:xw t.nodes t.nodes.length:=by
  have:=Xb t.nodes t.nodes.length;unfold xw;simp at h1;omega
 cases hI:Xz t.nodes (qi t.nodes t.nodes.length) t.items.reverse ((t.nodes.length:Int)-1) with
 |none=>rw[hI] at h2;cases h2
 |some e=>
  rw[hI] at h2;simp only[pI,pZ,pX] at h2;exact⟨hF,by rw[h2.2],h2.1⟩
theorem uR(t:zU)(hm:∀x∈t.nodes,x.kids.length<=1000):yj t=xh t:=by
 unfold yj xh;rw[zbi t (fun x hx=>by have:=hm x hx;omega)];cases hf:kY t with
 |false=>rfl
 |true=>
  obtain⟨hF,hI,hR⟩:=jE hf;rw[zew hF hI];have:(t.nodes.any fun x=> !xM x)=t.nodes.any fun x=> !kT t.nodes x:=by
   rw[pP,gC,gC];constructor <;> (rintro ⟨x,hx,h⟩;refine⟨x,hx,?_⟩;have e:=zhl (hR x hx) (hm x hx);first|(rw[e] at h;exact h)|(rw[e];exact h))
  rw[this]
end Lode
