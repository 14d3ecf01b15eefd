/-
  A part of the proof: contracts of functions; no conditions.
-/
import Derived.Test.YtcagibbaeageoaaGreatDoorUC
set_option maxRecDepth 100000
set_option maxHeartbeats 40000000
set_option linter.unusedSimpArgs false
set_option linter.unusedVariables false
namespace Lode
structure Nd where
 kind:Nat
 text:List UInt8
 n:Int
 kids:List Int
 at_:Int
 deriving DecidableEq
structure yD where
 nodes:List Nd
 items:List Int
 next:Nat
structure zN where
 toks:List xF
 len:Nat
inductive qn (α:Type) where
 |ok (a:α) (s:yD):qn α
 |bad (p:Int):qn α
def PM(α:Type):Type:=zN→yD→qn α
def PM.ret{α:Type}(a:α):PM α:=fun _ s=>.ok a s
def PM.bind{α β:Type}(m:PM α)(f:α→PM β):PM β:=fun E s=>match m E s with
 | .ok a s'=>f a E s'
 | .bad p=>.bad p
instance:Monad PM where
 pure:=PM.ret
 bind:=PM.bind
def zW(E:zN)(s:yD):xF:=(E.toks[s.next]?).getD ⟨0,[],E.len⟩
def ZP:PM xF:=fun E s=>.ok (zW E s) s
def zef{α:Type}:PM α:=fun E s=>.bad (zW E s).at_
def Zo(t:xF)(l:List (List UInt8)):Bool:=(t.kind == 5 || t.kind == 6) && l.contains t.text
def YB(l:List (List UInt8)):PM Bool:=fun E s=>.ok (Zo (zW E s) l) s
def jf:PM Unit:=fun _ s=>.ok () {s with next:=s.next+1}
def uE:PM xF:=fun E s=>.ok (zW E s) {s with next:=s.next+1}
def zX(x:List UInt8):PM xF:=fun E s=>if Zo (zW E s) [x] then .ok (zW E s) {s with next:=s.next+1} else .bad (zW E s).at_
def xB(k:Nat):PM xF:=fun E s=>if (zW E s).kind == k then .ok (zW E s) {s with next:=s.next+1} else .bad (zW E s).at_
def yz(x:List UInt8):PM Bool:=fun E s=>if Zo (zW E s) [x] then .ok true {s with next:=s.next+1} else .ok false s
def zZ(kind:Nat)(text:List UInt8)(n at_:Int)(kids:List Int):PM Int:=fun _ s=>.ok s.nodes.length {s with nodes:=s.nodes ++ [⟨kind,text,n,kids,at_⟩]}
def zb0(k:Int):PM Nat:=fun _ s=>.ok ((s.nodes[k.toNat]?).elim 0 Nd.kind) s
def kS:Nat→PM Int→List Int→PM (List Int)
 |0,_,_=>fun _ _=>.bad 0
 |k+1,part,acc=>do
  let x ←part
  if ←yz [44] then kS k part (acc ++ [x]) else pure (acc ++ [x])
def vh(part:PM Int):PM (List Int):=fun E s=>kS (E.toks.length+1) part [] E s
def qM(part:PM Int):PM (List Int):=do
 let _ ←zX [123]
 let l ←vh part
 let _ ←zX [125]
 pure l
def jd(part:PM Int):PM (List Int):=do
 if ←yz [40] then
  let l ←vh part
  let _ ←zX [41]
  pure l
 else pure []
structure xD where
 expr:PM Int
 unary:PM Int
 bin2:PM Int
 block:PM Int
 branch:PM Int
 kind:PM Int
 pattern:PM Int
def uj(R:xD):PM Int:=do
 let t ←xB 1
 let _ ←zX [58]
 let k ←R.kind
 zZ 88 t.text 0 t.at_ [k]
def Xj(R:xD):PM Int:=do
 let t ←xB 2
 let l ←jd R.kind
 zZ 89 t.text 0 t.at_ l
def Zx(R:xD):PM (List Int):=do
 let _ ←zX [40]
 let l ←(do if ←YB [[41]] then pure [] else vh (uj R):PM (List Int))
 let _ ←zX [41]
 let _ ←zX [58]
 let k ←R.kind
 pure (l ++ [k])
def Xt(R:xD):PM Int:=do
 let t ←ZP
 if t.kind == 2 then
  jf
  zZ 84 t.text 0 t.at_ []
 else if ←yz [105,110,116] then zZ 80 [] 0 t.at_ []
 else if ←yz [98,111,111,108] then zZ 81 [] 0 t.at_ []
 else if ←yz [116,101,120,116] then zZ 82 [] 0 t.at_ []
 else if ←yz [117,110,105,116] then zZ 83 [] 0 t.at_ []
 else if ←yz [99,104,97,110] then
  let k ←R.kind
  zZ 86 [] 0 t.at_ [k]
 else if ←yz [119,101,97,107] then
  let k ←R.kind
  zZ 87 [] 0 t.at_ [k]
 else
  let _ ←zX [102,110]
  let _ ←zX [40]
  let l ←(do if ←YB [[41]] then pure [] else vh R.kind:PM (List Int))
  let _ ←zX [41]
  let _ ←zX [58]
  let k ←R.kind
  zZ 85 [] 0 t.at_ (l ++ [k])
def Zv(R:xD):PM (Int×Bool):=do
 let t ←ZP
 if ←yz [108,101,116] then
  let m ←xB 1
  let _ ←zX [61]
  let x ←R.expr
  let r ←zZ 60 m.text 0 t.at_ [x]
  pure (r,false)
 else if ←yz [118,97,114] then
  let m ←xB 1
  let _ ←zX [61]
  let x ←R.expr
  let r ←zZ 61 m.text 0 t.at_ [x]
  pure (r,false)
 else
  let left ←R.expr
  if ←YB [[58,61]] then
   let k ←zb0 left
   if k == 5 || k == 23 then
    let u ←uE
    let x ←R.expr
    let r ←zZ 62 [] 0 u.at_ [left,x]
    pure (r,false)
   else zef
  else pure (left,true)
def qv(R:xD):Nat→List Int→PM (List Int×Int)
 |0,_=>fun _ _=>.bad 0
 |k+1,acc=>do
  if ←YB [[125]] then pure (acc,0)
  else
   let x ←Zv R
   if x.2 && (←YB [[125]]) then pure (acc ++ [x.1],1)
   else
    let _ ←zX [59]
    qv R k (acc ++ [x.1])
def uW(R:xD):PM Int:=do
 let t ←zX [123]
 let x ←(fun E s=>qv R (E.toks.length+1) [] E s:PM (List Int×Int))
 let _ ←zX [125]
 zZ 28 [] x.2 t.at_ x.1
def yS:Nat→List (List UInt8)
 |0=>[[111,114]]
 |1=>[[97,110,100]]
 |2=>[[61,61],[33,61],[60],[60,61],[62],[62,61],[105,115]]
 |3=>[[43],[45],[43,43]]
 |_=>[[42],[47],[37]]
def qC:Nat→List Nat
 |0=>[22]
 |1=>[21]
 |2=>[14,15,16,17,18,19,20]
 |3=>[8,9,10]
 |_=>[11,12,13]
def Qg(at_:Nat)(t:List UInt8):Nat:=(qC at_).getD ((yS at_).idxOf t) 0
def QT(at_:Nat)(tight:PM Int):Nat→Int→PM Int
 |0,_=>fun _ _=>.bad 0
 |k+1,left=>do
  if ←YB (yS at_) then
   let t ←uE
   let r ←tight
   let x ←zZ (Qg at_ t.text) [] 0 t.at_ [left,r]
   if at_ == 2 then pure x else QT at_ tight k x
  else pure left
def uP(at_:Nat)(tight:PM Int):PM Int:=do
 let left ←tight
 (fun E s=>QT at_ tight (E.toks.length+1) left E s:PM Int)
def z8:List (List UInt8×Nat×Int):=[([105,110],44,0),([121,105,101,108,100],45,0),([99,111,108,108,101,99,116],46,0),([115,101,110,100],41,2),([114,101,99,118],42,1),([111,117,116],43,1),([115,105,122,101],47,1),([115,104,111,119],50,1),([114,101,97,100],51,1),([98,121,116,101],48,2),([99,117,116],49,3),([116,104,114,111,119],37,-1),([115,112,97,119,110],38,-1),([119,101,97,107],39,-1)]
def ky(s:List UInt8):Option (Nat×Int):=(z8.find? fun w=>w.1 == s).map (·.2)
def je(R:xD):Nat→Bool→List Int→PM (List Int)
 |0,_,acc=>pure acc
 |k+1,first,acc=>do
  let _ ←(do if first then pure () else (do let _ ←zX [44];pure ()):PM Unit)
  let x ←R.expr
  je R k false (acc ++ [x])
def kF(R:xD)(t:xF)(w:Nat×Int):PM Int:=do
 let kids ←(do
  if w.2<0 then
   let x ←R.unary
   pure [x]
  else if 0<w.2 then
   let _ ←zX [40]
   let l ←je R w.2.toNat true []
   let _ ←zX [41]
   pure l
  else pure []:PM (List Int))
 zZ w.1 [] 0 t.at_ kids
def vR(t:xF):Int:=xh t.text
def VK(R:xD):PM Int:=do
 let t ←xB 1
 let _ ←zX [58]
 let x ←R.expr
 zZ 27 t.text 0 t.at_ [x]
def VL(R:xD):PM Int:=do
 let p ←R.pattern
 let t ←zX [61,62]
 let x ←R.expr
 zZ 32 [] 0 t.at_ [p,x]
def Zu(R:xD):Nat→List Int→PM (List Int)
 |0,_=>fun _ _=>.bad 0
 |k+1,acc=>do
  let t ←ZP
  if ←yz [114,101,99,118] then
   let x ←R.expr
   let _ ←zX [97,115]
   let m ←xB 1
   let _ ←zX [61,62]
   let y ←R.expr
   let r ←zZ 63 m.text 0 t.at_ [x,y]
   if ←yz [44] then Zu R k (acc ++ [r]) else pure (acc ++ [r])
  else if ←yz [115,101,110,100] then
   let x ←R.expr
   let _ ←zX [44]
   let y ←R.expr
   let _ ←zX [61,62]
   let z ←R.expr
   let r ←zZ 64 [] 0 t.at_ [x,y,z]
   if ←yz [44] then Zu R k (acc ++ [r]) else pure (acc ++ [r])
  else
   let _ ←zX [101,108,115,101]
   let _ ←zX [61,62]
   let x ←R.expr
   let r ←zZ 65 [] 0 t.at_ [x]
   pure (acc ++ [r])
def vg(R:xD):PM (List Int):=do
 let _ ←zX [123]
 let l ←(fun E s=>Zu R (E.toks.length+1) [] E s:PM (List Int))
 let _ ←zX [125]
 pure l
def kH(R:xD):PM Int:=do
 let t ←zX [105,102]
 let c ←R.expr
 let b ←R.block
 if ←yz [101,108,115,101] then
  if ←YB [[105,102]] then
   let x ←R.branch
   zZ 29 [] 0 t.at_ [c,b,x]
  else
   let x ←R.block
   zZ 29 [] 0 t.at_ [c,b,x]
 else zZ 29 [] 0 t.at_ [c,b]
def xU(R:xD)(t:xF):PM Int:=do
 if ←YB [[105,102]] then kH R
 else if ←yz [119,104,105,108,101] then
  let c ←R.expr
  let b ←R.block
  zZ 30 [] 0 t.at_ [c,b]
 else if ←yz [109,97,116,99,104] then
  let c ←R.expr
  let l ←qM (VL R)
  zZ 31 [] 0 t.at_ (c :: l)
 else if ←yz [102,110] then
  let l ←Zx R
  let b ←R.block
  zZ 33 [] 0 t.at_ (l ++ [b])
 else if ←yz [116,114,121] then
  let b ←R.block
  let _ ←zX [99,97,116,99,104]
  let m ←xB 1
  let c ←R.block
  zZ 34 m.text 0 t.at_ [b,c]
 else if ←yz [104,111,108,100] then
  let x ←R.expr
  let _ ←zX [97,115]
  let m ←xB 1
  let b ←R.block
  let _ ←zX [101,108,115,101]
  let c ←R.block
  zZ 36 m.text 0 t.at_ [x,b,c]
 else if ←yz [110,101,119] then
  let m ←xB 2
  let l ←qM (VK R)
  zZ 26 m.text 0 t.at_ l
 else if ←yz [99,104,97,110] then
  let k ←R.kind
  let _ ←zX [40]
  let m ←xB 3
  let _ ←zX [41]
  zZ 40 [] (vR m) t.at_ [k]
 else
  let _ ←zX [115,101,108,101,99,116]
  let l ←vg R
  zZ 35 [] 0 t.at_ l
def Zy(R:xD):PM Int:=do
 let t ←ZP
 if t.kind == 3 then
  jf
  zZ 1 [] (vR t) t.at_ []
 else if t.kind == 4 then
  jf
  zZ 2 t.text 0 t.at_ []
 else if t.kind == 1 then
  jf
  zZ 5 t.text 0 t.at_ []
 else if t.kind == 2 then
  jf
  let l ←jd R.expr
  zZ 25 t.text 0 t.at_ l
 else if ←yz [40] then
  if ←yz [41] then zZ 4 [] 0 t.at_ []
  else
   let x ←R.expr
   let _ ←zX [41]
   pure x
 else if ←yz [116,114,117,101] then zZ 3 [] 1 t.at_ []
 else if ←yz [102,97,108,115,101] then zZ 3 [] 0 t.at_ []
 else match ky t.text with
  |some w=>if t.kind == 5 then (do jf;kF R t w) else xU R t
  |none=>xU R t
def Zw(R:xD):Nat→Int→PM Int
 |0,_=>fun _ _=>.bad 0
 |k+1,left=>do
  let t ←ZP
  if ←yz [46] then
   let m ←xB 1
   let x ←zZ 23 m.text 0 t.at_ [left]
   Zw R k x
  else if ←yz [40] then
   let l ←(do if ←YB [[41]] then pure [] else vh R.expr:PM (List Int))
   let _ ←zX [41]
   let x ←zZ 24 [] 0 t.at_ (left :: l)
   Zw R k x
  else pure left
def ux(R:xD):PM Int:=do
 if ←YB [[45]] then
  let t ←uE
  let x ←R.unary
  zZ 6 [] 0 t.at_ [x]
 else
  let left ←Zy R
  (fun E s=>Zw R (E.toks.length+1) left E s:PM Int)
def zgq(R:xD):PM Int:=uP 4 (ux R)
def JE(R:xD):PM Int:=uP 3 (zgq R)
def Ys(R:xD):PM Int:=do
 if ←YB [[110,111,116]] then
  let t ←uE
  let x ←R.bin2
  zZ 7 [] 0 t.at_ [x]
 else uP 2 (JE R)
def zeC(R:xD):PM Int:=uP 0 (uP 1 (Ys R))
def kj(R:xD):PM Int:=do
 let t ←ZP
 if t.kind == 1 then
  jf
  zZ 66 t.text 0 t.at_ []
 else if t.kind == 3 then
  jf
  zZ 67 [] (vR t) t.at_ []
 else if t.kind == 4 then
  jf
  zZ 68 t.text 0 t.at_ []
 else if t.kind == 2 then
  jf
  let l ←jd R.pattern
  zZ 70 t.text 0 t.at_ l
 else if ←yz [116,114,117,101] then zZ 69 [] 1 t.at_ []
 else if ←yz [102,97,108,115,101] then zZ 69 [] 0 t.at_ []
 else
  let _ ←zX [45]
  let m ←xB 3
  zZ 67 [] (-(vR m)) t.at_ []
def zgo:xD:=⟨fun _ _=>.bad 0,fun _ _=>.bad 0,fun _ _=>.bad 0,fun _ _=>.bad 0,fun _ _=>.bad 0,fun _ _=>.bad 0,fun _ _=>.bad 0⟩
def ZL:Nat→xD
 |0=>zgo
 |n+1=>⟨zeC (ZL n),ux (ZL n),Ys (ZL n),uW (ZL n),kH (ZL n),Xt (ZL n),kj (ZL n)⟩
def Yh(R:xD):PM Int:=do
 let t ←ZP
 if ←yz [99,108,97,115,115] then
  let m ←xB 2
  let l ←qM (uj R)
  zZ 100 m.text 0 t.at_ l
 else if ←yz [107,105,110,100] then
  let m ←xB 2
  let l ←qM (Xj R)
  zZ 101 m.text 0 t.at_ l
 else if ←yz [101,120,116,101,114,110] then
  let _ ←zX [102,117,110]
  let m ←xB 1
  let l ←Zx R
  let _ ←zX [59]
  zZ 103 m.text 0 t.at_ l
 else if ←yz [114,111,111,116] then
  let m ←xB 1
  let _ ←zX [58]
  let k ←R.kind
  let _ ←zX [61]
  let x ←R.expr
  let _ ←zX [59]
  zZ 104 m.text 0 t.at_ [k,x]
 else
  let pure_ ←yz [112,117,114,101]
  let _ ←zX [102,117,110]
  let m ←xB 1
  let l ←Zx R
  let b ←R.block
  zZ 102 m.text (if pure_ then 1 else 0) t.at_ (l ++ [b])
def uk(R:xD):Nat→PM Unit
 |0=>fun _ _=>.bad 0
 |k+1=>fun E s=>if s.next<E.toks.length then match Yh R E s with
  | .ok i s'=>uk R k E {s' with items:=s'.items ++ [i]}
  | .bad p=>.bad p
  else .ok () s
def kR(l:List xF)(len:Nat):qn Unit:=uk (ZL (l.length+1)) (l.length+1) ⟨l,len⟩ ⟨[],[],0⟩
def Vd(s:yD)(a:Int):Prop:=0≤a∧a<s.nodes.length
def WFs(s:yD):Prop:=∀(i:Nat) (x:Nd),s.nodes[i]? =some x→∀k∈x.kids,0≤k∧k<i
structure Nx(E:zN)(d:Int)(s s':yD):Prop where
 next:s.next≤s'.next
 le:s'.next≤E.toks.length
 cr:(s'.nodes.length:Int)-s.nodes.length+d≤(s'.next:Int)-s.next
 wf:WFs s'
 pre:∃r,s'.nodes=s.nodes ++ r
 it:s'.items=s.items
theorem Nx.refl{E:zN}{s:yD}(h:s.next≤E.toks.length)(hw:WFs s):Nx E 0 s s:=⟨Nat.le_refl _,h,by omega,hw,⟨[],(List.append_nil _).symm⟩,rfl⟩
theorem Nx.trans{E:zN}{d e:Int}{a b c:yD}(h:Nx E d a b)(k:Nx E e b c):Nx E (d+e) a c:=by
 obtain⟨r,hr⟩:=h.pre;obtain⟨q,hq⟩:=k.pre;have h1:=h.cr;have h2:=k.cr;exact⟨Nat.le_trans h.next k.next,k.le,by omega,k.wf,⟨r ++ q,by rw[hq,hr,List.append_assoc]⟩,k.it.trans h.it⟩
theorem Nx.down{E:zN}{d e:Int}{a b:yD}(h:Nx E d a b)(hd:e≤d):Nx E e a b:=⟨h.next,h.le,by have:=h.cr;omega,h.wf,h.pre,h.it⟩
theorem Vd.later{E:zN}{d:Int}{s s':yD}{a:Int}(h:Vd s a)(n:Nx E d s s'):Vd s' a:=by
 obtain⟨r,hr⟩:=n.pre;refine⟨h.1,?_⟩;rw[hr,List.length_append];have:=h.2;omega
def Gd{α:Type}(d:Int)(Q:yD→α→Prop)(m:PM α):Prop:=∀{E:zN} {s:yD} {a:α} {s':yD},s.next≤E.toks.length→WFs s→m E s=.ok a s'→Nx E d s s'∧Q s' a
theorem zy{α β:Type}{m:PM α}{f:α→PM β}{E:zN}{s s':yD}{b:β}(h:(m >>= f) E s=.ok b s'):∃a s1,m E s=.ok a s1∧f a E s1=.ok b s':=by
 change PM.bind m f E s=_ at h;unfold PM.bind at h;cases hm:m E s with
 |ok a s1=>rw[hm] at h;exact⟨a,s1,rfl,h⟩
 |bad p=>rw[hm] at h;cases h
theorem yE{α:Type}{a b:α}{E:zN}{s s':yD}(h:(pure a:PM α) E s=.ok b s'):b=a∧s'=s:=by
 change qn.ok a s=_ at h;cases h;exact⟨rfl,rfl⟩
theorem kD{E:zN}{s:yD}{l:List (List UInt8)}(h:Zo (zW E s) l=true):s.next<E.toks.length:=by
 rcases Nat.lt_or_ge s.next E.toks.length with h'|h'
 ·exact h'
 ·simp[Zo,zW,List.getElem?_eq_none h'] at h
theorem qj{E:zN}{s:yD}{k:Nat}(h:(zW E s).kind=k)(hk:k≠0):s.next<E.toks.length:=by
 rcases Nat.lt_or_ge s.next E.toks.length with h'|h'
 ·exact h'
 ·simp[zW,List.getElem?_eq_none h'] at h;exact absurd h.symm hk
theorem Z4{E:zN}{s:yD}(h:s.next<E.toks.length)(hw:WFs s):Nx E 1 s {s with next:=s.next+1}:=⟨Nat.le_succ _,h,by simp;omega,hw,⟨[],(List.append_nil _).symm⟩,rfl⟩
theorem zv{x:List UInt8}:Gd 1 (fun _ _=>True) (zX x):=by
 intro E s a s' h0 hw h;unfold zX at h;split at h
 ·rename_i hi;cases h;exact⟨Z4 (kD hi) hw,trivial⟩
 ·cases h
theorem yl{k:Nat}(hk:k≠0):Gd 1 (fun _ _=>True) (xB k):=by
 intro E s a s' h0 hw h;unfold xB at h;split at h
 ·rename_i hi;cases h;exact⟨Z4 (qj (by simpa using hi) hk) hw,trivial⟩
 ·cases h
theorem uo{x:List UInt8}{E:zN}{s s':yD}{b:Bool}(h0:s.next≤E.toks.length)(hw:WFs s)(h:yz x E s=.ok b s'):Nx E (if b then 1 else 0) s s':=by
 unfold yz at h;split at h
 ·rename_i hi;cases h;exact Z4 (kD hi) hw
 ·cases h;exact Nx.refl h0 hw
theorem zfO{x:List UInt8}:Gd 0 (fun _ _=>True) (yz x):=by
 intro E s b s' h0 hw h;have:=uo h0 hw h;cases b
 ·exact⟨this,trivial⟩
 ·exact⟨this.down (by decide),trivial⟩
theorem gb{α β:Type}{m:PM α}{f:α→PM β}{E:zN}{s0 s s':yD}{b:β}{d0 d:Int}{Q:yD→α→Prop}(h:(m >>= f) E s=.ok b s')(N:Nx E d0 s0 s)(g:Gd d Q m):∃a s1,Nx E d s s1∧Q s1 a∧Nx E (d0+d) s0 s1∧f a E s1=.ok b s':=by
 obtain⟨a,s1,h1,h⟩:=zy h;obtain⟨n,v⟩:=g N.le N.wf h1;exact⟨a,s1,n,v,N.trans n,h⟩
theorem gm{β:Type}{x:List UInt8}{f:Bool→PM β}{E:zN}{s0 s s':yD}{b:β}{d0:Int}(h:(yz x >>= f) E s=.ok b s')(N:Nx E d0 s0 s):∃a s1,Nx E (if a then 1 else 0) s s1∧yz x E s=.ok a s1∧Nx E (d0+if a then 1 else 0) s0 s1∧f a E s1=.ok b s':=by
 obtain⟨a,s1,h1,h⟩:=zy h;have n:=uo N.le N.wf h1;exact⟨a,s1,n,h1,N.trans n,h⟩
theorem xZ{E:zN}{s0 s s':yD}{d0 d e:Int}{p:Prop}(N:Nx E d0 s0 s)(g:Nx E d s s'∧p)(he:e≤d0+d):Nx E e s0 s'∧p:=⟨(N.trans g.1).down he,g.2⟩
theorem zex{l:List (List UInt8)}:Gd 0 (fun _ _=>True) (YB l):=by
 intro E s b s' h0 hw h;cases h;exact⟨Nx.refl h0 hw,trivial⟩
theorem zU{kind:Nat}{text:List UInt8}{n at_:Int}{kids:List Int}{E:zN}{s s':yD}{a:Int}(h0:s.next≤E.toks.length)(hw:WFs s)(hk:∀k∈kids,Vd s k)(h:zZ kind text n at_ kids E s=.ok a s'):Nx E (-1) s s'∧Vd s' a:=by
 cases h;refine⟨⟨Nat.le_refl _,h0,by simp;omega,fun i x hx k hkm=>?_,⟨_,rfl⟩,rfl⟩,⟨by omega,by simp;omega⟩⟩;rw[List.getElem?_append] at hx;split at hx
 ·exact hw i x hx k hkm
 ·rename_i hi;have hz:i-s.nodes.length=0∨0<i-s.nodes.length:=by omega
  rcases hz with hz|hz
  ·rw[hz] at hx;cases hx;have:=hk k hkm;exact⟨this.1,by have:=this.2;omega⟩
  ·rw[List.getElem?_eq_none (by simp;omega)] at hx;cases hx
structure yJ(R:xD):Prop where
 expr:Gd 0 Vd R.expr
 unary:Gd 0 Vd R.unary
 bin2:Gd 0 Vd R.bin2
 block:Gd 0 Vd R.block
 branch:Gd 0 Vd R.branch
 kind:Gd 0 Vd R.kind
 pattern:Gd 0 Vd R.pattern
def XO(s:yD)(l:List Int):Prop:=∀k∈l,Vd s k
theorem XO.later{E:zN}{d:Int}{s s':yD}{l:List Int}(h:XO s l)(n:Nx E d s s'):XO s' l:=fun k hk=>(h k hk).later n
theorem XO.snoc{s:yD}{l:List Int}{a:Int}(h:XO s l)(ha:Vd s a):XO s (l ++ [a]):=fun k hk=>by
 rw[List.mem_append,List.mem_singleton] at hk;rcases hk with hk|rfl
 ·exact h k hk
 ·exact ha
theorem VW{part:PM Int}(hp:Gd 0 Vd part):∀(n:Nat) (acc:List Int) {E:zN} {s:yD} {a:List Int} {s':yD},s.next≤E.toks.length→WFs s→XO s acc→kS n part acc E s=.ok a s'→Nx E 0 s s'∧XO s' a
 |0,_,_,_,_,_,_,_,_,h=>by cases h
 |n+1,acc,E,s,a,s',h0,hw,ha,h=>by
  unfold kS at h;obtain⟨x,s1,h1,h⟩:=zy h;obtain⟨n1,v1⟩:=hp h0 hw h1;obtain⟨b,s2,h2,h⟩:=zy h;have n2:=uo n1.le n1.wf h2;have n3:=n1.trans n2;have hacc:=(ha.later n3).snoc (v1.later n2);cases b with
  |true=>
   obtain⟨n4,v4⟩:=VW hp n (acc ++ [x]) n3.le n3.wf hacc h;exact⟨(n3.trans n4).down (by decide),v4⟩
  |false=>
   obtain⟨rfl,rfl⟩:=yE h;exact⟨n3.down (by decide),hacc⟩
theorem vn{part:PM Int}(hp:Gd 0 Vd part):Gd 0 XO (vh part):=fun h0 hw h=>VW hp _ [] h0 hw (fun k hk=>by cases hk) h
theorem XQ{s:yD}:∀k∈([]:List Int),Vd s k:=fun k hk=>by cases hk
theorem Zm{s:yD}{a:Int}(h:Vd s a):∀k∈[a],Vd s k:=fun k hk=>by
 rw[List.mem_singleton] at hk;rw[hk];exact h
theorem XE{s:yD}{a:Int}{l:List Int}(h:Vd s a)(hl:∀k∈l,Vd s k):∀k∈a :: l,Vd s k:=fun k hk=>by
 rcases List.mem_cons.1 hk with rfl|hk
 ·exact h
 ·exact hl k hk
theorem vda{s:yD}{a:Int}{l:List Int}(hl:XO s l)(h:Vd s a):∀k∈l ++ [a],Vd s k:=hl.snoc h
theorem jk{part:PM Int}(hp:Gd 0 Vd part):Gd 2 XO (qM part):=by
 intro E s a s' h0 hw h;have N:=Nx.refl h0 hw;unfold qM at h;obtain⟨x,sx,nx,vx,N,h⟩:=gb h N (zv);obtain⟨l,sl,nl,vl,N,h⟩:=gb h N (vn hp);obtain⟨y,sy,ny,vy,N,h⟩:=gb h N (zv);replace vl:=vl.later ny;obtain⟨rfl,rfl⟩:=yE h;exact⟨N.down (by decide),vl⟩
theorem vN{part:PM Int}(hp:Gd 0 Vd part):Gd 0 XO (jd part):=by
 intro E s a s' h0 hw h;have N:=Nx.refl h0 hw;unfold jd at h;obtain⟨b,sb,nb,hb,N,h⟩:=gm h N;cases b with
 |true=>
  rw[if_pos rfl] at h;obtain⟨l,sl,nl,vl,N,h⟩:=gb h N (vn hp);obtain⟨y,sy,ny,vy,N,h⟩:=gb h N (zv);replace vl:=vl.later ny;obtain⟨rfl,rfl⟩:=yE h;exact⟨N.down (by decide),vl⟩
 |false=>
  rw[if_neg (by decide)] at h;obtain⟨rfl,rfl⟩:=yE h;exact⟨N.down (by decide),XQ⟩
theorem vP{R:xD}(hR:yJ R):Gd 0 Vd (uj R):=by
 intro E s a s' h0 hw h;have N:=Nx.refl h0 hw;unfold uj at h;obtain⟨t,st,nt,vt,N,h⟩:=gb h N ((yl (by decide)));obtain⟨x,sx,nx,vx,N,h⟩:=gb h N (zv);obtain⟨k,sk,nk,vk,N,h⟩:=gb h N (hR.kind);exact xZ N (zU N.le N.wf (Zm vk) h) (by decide)
theorem Kw{R:xD}(hR:yJ R):Gd 0 Vd (Xj R):=by
 intro E s a s' h0 hw h;have N:=Nx.refl h0 hw;unfold Xj at h;obtain⟨t,st,nt,vt,N,h⟩:=gb h N ((yl (by decide)));obtain⟨l,sl,nl,vl,N,h⟩:=gb h N ((vN hR.kind));exact xZ N (zU N.le N.wf (vl) h) (by decide)
theorem YZ{part:PM Int}{w:List (List UInt8)}(hp:Gd 0 Vd part):Gd 0 XO (do if ←YB w then pure [] else vh part:PM (List Int)):=by
 intro E s a s' h0 hw h;have N:=Nx.refl h0 hw;obtain⟨b,sb,nb,vb,N,h⟩:=gb h N (zex);cases b with
 |true=>
  rw[if_pos rfl] at h;obtain⟨rfl,rfl⟩:=yE h;exact⟨N.down (by decide),XQ⟩
 |false=>
  rw[if_neg (by decide)] at h;obtain⟨nl,vl⟩:=vn hp N.le N.wf h;exact⟨(N.trans nl).down (by decide),vl⟩
theorem uw{R:xD}(hR:yJ R):Gd 3 XO (Zx R):=by
 intro E s a s' h0 hw h;have N:=Nx.refl h0 hw;unfold Zx at h;obtain⟨x,sx,nx,vx,N,h⟩:=gb h N (zv);obtain⟨l,sl,nl,vl,N,h⟩:=gb h N ((YZ (vP hR)));obtain⟨y,sy,ny,vy,N,h⟩:=gb h N (zv);replace vl:=vl.later ny;obtain⟨z,sz,nz,vz,N,h⟩:=gb h N (zv);replace vl:=vl.later nz;obtain⟨k,sk,nk,vk,N,h⟩:=gb h N (hR.kind);replace vl:=vl.later nk;obtain⟨rfl,rfl⟩:=yE h;exact⟨N.down (by decide),vl.snoc vk⟩
theorem jW{E:zN}{s s':yD}{u:Unit}(hlt:s.next<E.toks.length)(hw:WFs s)(h:jf E s=.ok u s'):Nx E 1 s s':=by
 cases h;exact Z4 hlt hw
theorem zfU{R:xD}(hR:yJ R):Gd 0 Vd (Xt R):=by
 intro E s a s' h0 hw h;have N:=Nx.refl h0 hw;unfold Xt at h;obtain⟨t,s0,h1,h⟩:=zy h;cases h1;split at h
 ·rename_i hk;obtain⟨u,s1,h1,h⟩:=zy h;have n1:=jW (qj (k:=2) (by simpa using hk) (by decide)) hw h1;replace N:=N.trans n1;exact xZ N (zU N.le N.wf (XQ) h) (by decide)
 ·obtain⟨a1,sa1,na1,ha1,N,h⟩:=gm h N;cases a1 with
  |true=>
   rw[if_pos rfl] at h;exact xZ N (zU N.le N.wf (XQ) h) (by decide)
  |false=>
  rw[if_neg (by decide)] at h;obtain⟨a2,sa2,na2,ha2,N,h⟩:=gm h N;cases a2 with
  |true=>
   rw[if_pos rfl] at h;exact xZ N (zU N.le N.wf (XQ) h) (by decide)
  |false=>
  rw[if_neg (by decide)] at h;obtain⟨a3,sa3,na3,ha3,N,h⟩:=gm h N;cases a3 with
  |true=>
   rw[if_pos rfl] at h;exact xZ N (zU N.le N.wf (XQ) h) (by decide)
  |false=>
  rw[if_neg (by decide)] at h;obtain⟨a4,sa4,na4,ha4,N,h⟩:=gm h N;cases a4 with
  |true=>
   rw[if_pos rfl] at h;exact xZ N (zU N.le N.wf (XQ) h) (by decide)
  |false=>
  rw[if_neg (by decide)] at h;obtain⟨a5,sa5,na5,ha5,N,h⟩:=gm h N;cases a5 with
  |true=>
   rw[if_pos rfl] at h;obtain⟨k,sk,nk,vk,N,h⟩:=gb h N (hR.kind);exact xZ N (zU N.le N.wf (Zm vk) h) (by decide)
  |false=>
  rw[if_neg (by decide)] at h;obtain⟨a6,sa6,na6,ha6,N,h⟩:=gm h N;cases a6 with
  |true=>
   rw[if_pos rfl] at h;obtain⟨k,sk,nk,vk,N,h⟩:=gb h N (hR.kind);exact xZ N (zU N.le N.wf (Zm vk) h) (by decide)
  |false=>
  rw[if_neg (by decide)] at h;obtain⟨x,sx,nx,vx,N,h⟩:=gb h N (zv);obtain⟨y,sy,ny,vy,N,h⟩:=gb h N (zv);obtain⟨l,sl,nl,vl,N,h⟩:=gb h N ((YZ hR.kind));obtain⟨z,sz,nz,vz,N,h⟩:=gb h N (zv);replace vl:=vl.later nz;obtain⟨q,sq,nq,vq,N,h⟩:=gb h N (zv);replace vl:=vl.later nq;obtain⟨k,sk,nk,vk,N,h⟩:=gb h N (hR.kind);replace vl:=vl.later nk;exact xZ N (zU N.le N.wf (vda vl vk) h) (by decide)
theorem jV{E:zN}{s s':yD}{t:xF}(hlt:s.next<E.toks.length)(hw:WFs s)(h:uE E s=.ok t s'):Nx E 1 s s':=by
 cases h;exact Z4 hlt hw
theorem zbO{R:xD}(hR:yJ R):Gd 0 (fun s (x:Int×Bool)=>Vd s x.1) (Zv R):=by
 intro E s a s' h0 hw h;have N:=Nx.refl h0 hw;unfold Zv at h;obtain⟨t,s0,h1,h⟩:=zy h;cases h1;obtain⟨a1,sa1,na1,ha1,N,h⟩:=gm h N;cases a1 with
 |true=>
  rw[if_pos rfl] at h;obtain⟨m,sm,nm,vm,N,h⟩:=gb h N ((yl (by decide)));obtain⟨x,sx,nx,vx,N,h⟩:=gb h N (zv);obtain⟨e,se,ne,ve,N,h⟩:=gb h N (hR.expr);obtain⟨r,s9,h9,h⟩:=zy h;obtain⟨nz,vz⟩:=zU N.le N.wf (Zm ve) h9;obtain⟨rfl,rfl⟩:=yE h;exact⟨(N.trans nz).down (by decide),vz⟩
 |false=>
 rw[if_neg (by decide)] at h;obtain⟨a2,sa2,na2,ha2,N,h⟩:=gm h N;cases a2 with
 |true=>
  rw[if_pos rfl] at h;obtain⟨m,sm,nm,vm,N,h⟩:=gb h N ((yl (by decide)));obtain⟨x,sx,nx,vx,N,h⟩:=gb h N (zv);obtain⟨e,se,ne,ve,N,h⟩:=gb h N (hR.expr);obtain⟨r,s9,h9,h⟩:=zy h;obtain⟨nz,vz⟩:=zU N.le N.wf (Zm ve) h9;obtain⟨rfl,rfl⟩:=yE h;exact⟨(N.trans nz).down (by decide),vz⟩
 |false=>
 rw[if_neg (by decide)] at h;obtain⟨e,se,ne,ve,N,h⟩:=gb h N (hR.expr);obtain⟨b,s3,h3,h⟩:=zy h;cases h3;split at h
 ·rename_i hb;obtain⟨k,s4,h4,h⟩:=zy h;cases h4;split at h
  ·obtain⟨u,s5,h5,h⟩:=zy h;have n5:=jV (kD hb) N.wf h5;replace N:=N.trans n5;replace ve:=ve.later n5;obtain⟨y,sy,ny,vy,N,h⟩:=gb h N (hR.expr);replace ve:=ve.later ny;obtain⟨r,s9,h9,h⟩:=zy h;obtain⟨nz,vz⟩:=zU N.le N.wf (XE ve (Zm vy)) h9;obtain⟨rfl,rfl⟩:=yE h;exact⟨(N.trans nz).down (by decide),vz⟩
  ·cases h
 ·obtain⟨rfl,rfl⟩:=yE h;exact⟨N.down (by decide),ve⟩
theorem Vg{R:xD}(hR:yJ R):∀(n:Nat) (acc:List Int) {E:zN} {s:yD} {a:List Int×Int} {s':yD},s.next≤E.toks.length→WFs s→XO s acc→qv R n acc E s=.ok a s'→Nx E 0 s s'∧XO s' a.1
 |0,_,_,_,_,_,_,_,_,h=>by cases h
 |n+1,acc,E,s,a,s',h0,hw,ha,h=>by
  have N:=Nx.refl h0 hw;unfold qv at h;obtain⟨b,s1,h1,h⟩:=zy h;cases h1;split at h
  ·obtain⟨rfl,rfl⟩:=yE h;exact⟨N.down (by decide),ha⟩
  ·obtain⟨x,sx,nx,vx,N,h⟩:=gb h N ((zbO hR));replace ha:=ha.later nx;obtain⟨b,s2,h2,h⟩:=zy h;cases h2;split at h
   ·obtain⟨rfl,rfl⟩:=yE h;exact⟨N.down (by decide),ha.snoc vx⟩
   ·obtain⟨y,sy,ny,vy,N,h⟩:=gb h N (zv);replace vx:=vx.later ny;replace ha:=ha.later ny;obtain⟨n4,v4⟩:=Vg hR n (acc ++ [x.1]) N.le N.wf (ha.snoc vx) h;exact⟨(N.trans n4).down (by decide),v4⟩
theorem zeK{R:xD}(hR:yJ R):Gd 0 Vd (uW R):=by
 intro E s a s' h0 hw h;have N:=Nx.refl h0 hw;unfold uW at h;obtain⟨t,st,nt,vt,N,h⟩:=gb h N (zv);obtain⟨x,s2,h2,h⟩:=zy h;obtain⟨n2,v2⟩:=Vg hR _ [] N.le N.wf XQ h2;replace N:=N.trans n2;obtain⟨y,sy,ny,vy,N,h⟩:=gb h N (zv);replace v2:=v2.later ny;exact xZ N (zU N.le N.wf (v2) h) (by decide)
theorem zei{tight:PM Int}(ht:Gd 0 Vd tight)(lv:Nat):∀(n:Nat) (left:Int) {E:zN} {s:yD} {a:Int} {s':yD},s.next≤E.toks.length→WFs s→Vd s left→QT lv tight n left E s=.ok a s'→Nx E 0 s s'∧Vd s' a
 |0,_,_,_,_,_,_,_,_,h=>by cases h
 |n+1,left,E,s,a,s',h0,hw,vl,h=>by
  have N:=Nx.refl h0 hw;unfold QT at h;obtain⟨b,s1,h1,h⟩:=zy h;cases h1;split at h
  ·rename_i hb;obtain⟨t,s2,h2,h⟩:=zy h;have n2:=jV (kD hb) hw h2;replace N:=N.trans n2;replace vl:=vl.later n2;obtain⟨r,sr,nr,vr,N,h⟩:=gb h N (ht);replace vl:=vl.later nr;obtain⟨x,s9,h9,h⟩:=zy h;obtain⟨nz,vz⟩:=zU N.le N.wf (XE vl (Zm vr)) h9;replace N:=N.trans nz;split at h
   ·obtain⟨rfl,rfl⟩:=yE h;exact⟨N.down (by decide),vz⟩
   ·obtain⟨n4,v4⟩:=zei ht lv n x N.le N.wf vz h;exact⟨(N.trans n4).down (by decide),v4⟩
  ·obtain⟨rfl,rfl⟩:=yE h;exact⟨N.down (by decide),vl⟩
theorem Y7{tight:PM Int}(ht:Gd 0 Vd tight)(lv:Nat):Gd 0 Vd (uP lv tight):=by
 intro E s a s' h0 hw h;have N:=Nx.refl h0 hw;unfold uP at h;obtain⟨l,sl,nl,vl,N,h⟩:=gb h N (ht);obtain⟨n4,v4⟩:=zei ht lv _ l N.le N.wf vl h;exact⟨(N.trans n4).down (by decide),v4⟩
theorem zbQ{R:xD}(hR:yJ R):∀(n:Nat) (first:Bool) (acc:List Int) {E:zN} {s:yD} {a:List Int} {s':yD},s.next≤E.toks.length→WFs s→XO s acc→je R n first acc E s=.ok a s'→Nx E 0 s s'∧XO s' a
 |0,_,acc,_,_,_,_,h0,hw,ha,h=>by
  obtain⟨rfl,rfl⟩:=yE h;exact⟨Nx.refl h0 hw,ha⟩
 |n+1,first,acc,E,s,a,s',h0,hw,ha,h=>by
  have N:=Nx.refl h0 hw;unfold je at h;obtain⟨u,s1,h1,h⟩:=zy h;have n1:Nx E 0 s s1:=by
   split at h1
   ·obtain⟨_,rfl⟩:=yE h1;exact N
   ·obtain⟨_,s2,h2,h1⟩:=zy h1;obtain⟨_,rfl⟩:=yE h1;exact (zv h0 hw h2).1.down (by decide)
  replace N:=N.trans n1;replace ha:=ha.later n1;obtain⟨x,sx,nx,vx,N,h⟩:=gb h N (hR.expr);obtain⟨n4,v4⟩:=zbQ hR n false (acc ++ [x]) N.le N.wf ((ha.later nx).snoc vx) h;exact⟨(N.trans n4).down (by decide),v4⟩
theorem zfa{R:xD}(hR:yJ R)(t:xF)(w:Nat×Int):Gd (-1) Vd (kF R t w):=by
 intro E s a s' h0 hw h;have N:=Nx.refl h0 hw;unfold kF at h;obtain⟨l,s1,h1,h⟩:=zy h;have n1:Nx E 0 s s1∧XO s1 l:=by
  split at h1
  ·obtain⟨x,s2,h2,h1⟩:=zy h1;obtain⟨n2,v2⟩:=hR.unary h0 hw h2;obtain⟨rfl,rfl⟩:=yE h1;exact⟨n2,Zm v2⟩
  ·split at h1
   ·obtain⟨x,s2,h2,h1⟩:=zy h1;obtain⟨n2,_⟩:=zv h0 hw h2;obtain⟨y,s3,h3,h1⟩:=zy h1;obtain⟨n3,v3⟩:=zbQ hR _ _ [] n2.le n2.wf XQ h3;obtain⟨z,s4,h4,h1⟩:=zy h1;obtain⟨n4,_⟩:=zv n3.le n3.wf h4;obtain⟨rfl,rfl⟩:=yE h1;exact⟨((n2.trans n3).trans n4).down (by decide),v3.later n4⟩
   ·obtain⟨rfl,rfl⟩:=yE h1;exact⟨N,XQ⟩
 obtain⟨nz,vz⟩:=zU n1.1.le n1.1.wf n1.2 h;exact⟨(n1.1.trans nz).down (by decide),vz⟩
theorem za3{R:xD}(hR:yJ R):Gd 0 Vd (VK R):=by
 intro E s a s' h0 hw h;have N:=Nx.refl h0 hw;unfold VK at h;obtain⟨t,st,nt,vt,N,h⟩:=gb h N ((yl (by decide)));obtain⟨x,sx,nx,vx,N,h⟩:=gb h N (zv);obtain⟨k,sk,nk,vk,N,h⟩:=gb h N (hR.expr);exact xZ N (zU N.le N.wf (Zm vk) h) (by decide)
theorem zbE{R:xD}(hR:yJ R):Gd 0 Vd (VL R):=by
 intro E s a s' h0 hw h;have N:=Nx.refl h0 hw;unfold VL at h;obtain⟨p,sp,np,vp,N,h⟩:=gb h N (hR.pattern);obtain⟨t,st,nt,vt,N,h⟩:=gb h N (zv);replace vp:=vp.later nt;obtain⟨x,sx,nx,vx,N,h⟩:=gb h N (hR.expr);replace vp:=vp.later nx;exact xZ N (zU N.le N.wf (XE vp (Zm vx)) h) (by decide)
theorem JZ{R:xD}(hR:yJ R):∀(n:Nat) (acc:List Int) {E:zN} {s:yD} {a:List Int} {s':yD},s.next≤E.toks.length→WFs s→XO s acc→Zu R n acc E s=.ok a s'→Nx E 0 s s'∧XO s' a
 |0,_,_,_,_,_,_,_,_,h=>by cases h
 |n+1,acc,E,s,a,s',h0,hw,ha,h=>by
  have N:=Nx.refl h0 hw;unfold Zu at h;obtain⟨t,s1,h1,h⟩:=zy h;cases h1;obtain⟨a1,sa1,na1,ha1,N,h⟩:=gm h N;cases a1 with
  |true=>
   rw[if_pos rfl] at h;obtain⟨x,sx,nx,vx,N,h⟩:=gb h N (hR.expr);obtain⟨q,sq,nq,vq,N,h⟩:=gb h N (zv);replace vx:=vx.later nq;obtain⟨m,sm,nm,vm,N,h⟩:=gb h N ((yl (by decide)));replace vx:=vx.later nm;obtain⟨e,se,ne,ve,N,h⟩:=gb h N (zv);replace vx:=vx.later ne;obtain⟨y,sy,ny,vy,N,h⟩:=gb h N (hR.expr);replace vx:=vx.later ny;obtain⟨r,s9,h9,h⟩:=zy h;obtain⟨nz,vz⟩:=zU N.le N.wf (XE vx (Zm vy)) h9;replace N:=N.trans nz;have ha2:=(ha.later N).snoc vz;obtain⟨c,sc,nc,hc,N,h⟩:=gm h N;cases c with
   |true=>
    rw[if_pos rfl] at h;obtain⟨n4,v4⟩:=JZ hR n (acc ++ [r]) N.le N.wf (ha2.later nc) h;exact⟨(N.trans n4).down (by decide),v4⟩
   |false=>
    rw[if_neg (by decide)] at h;obtain⟨rfl,rfl⟩:=yE h;exact⟨N.down (by decide),ha2.later nc⟩
  |false=>
  rw[if_neg (by decide)] at h;obtain⟨a2,sa2,na2,ha2,N,h⟩:=gm h N;cases a2 with
  |true=>
   rw[if_pos rfl] at h;obtain⟨x,sx,nx,vx,N,h⟩:=gb h N (hR.expr);obtain⟨q,sq,nq,vq,N,h⟩:=gb h N (zv);replace vx:=vx.later nq;obtain⟨y,sy,ny,vy,N,h⟩:=gb h N (hR.expr);replace vx:=vx.later ny;obtain⟨e,se,ne,ve,N,h⟩:=gb h N (zv);replace vx:=vx.later ne;replace vy:=vy.later ne;obtain⟨z,sz,nz,vz,N,h⟩:=gb h N (hR.expr);replace vx:=vx.later nz;replace vy:=vy.later nz;obtain⟨r,s9,h9,h⟩:=zy h;obtain⟨nz,vz⟩:=zU N.le N.wf (XE vx (XE vy (Zm vz))) h9;replace N:=N.trans nz;have ha2:=(ha.later N).snoc vz;obtain⟨c,sc,nc,hc,N,h⟩:=gm h N;cases c with
   |true=>
    rw[if_pos rfl] at h;obtain⟨n4,v4⟩:=JZ hR n (acc ++ [r]) N.le N.wf (ha2.later nc) h;exact⟨(N.trans n4).down (by decide),v4⟩
   |false=>
    rw[if_neg (by decide)] at h;obtain⟨rfl,rfl⟩:=yE h;exact⟨N.down (by decide),ha2.later nc⟩
  |false=>
  rw[if_neg (by decide)] at h;obtain⟨q,sq,nq,vq,N,h⟩:=gb h N (zv);obtain⟨e,se,ne,ve,N,h⟩:=gb h N (zv);obtain⟨x,sx,nx,vx,N,h⟩:=gb h N (hR.expr);obtain⟨r,s9,h9,h⟩:=zy h;obtain⟨nz,vz⟩:=zU N.le N.wf (Zm vx) h9;replace N:=N.trans nz;obtain⟨rfl,rfl⟩:=yE h;exact⟨N.down (by decide),(ha.later N).snoc vz⟩
theorem Ja{R:xD}(hR:yJ R):Gd 2 XO (vg R):=by
 intro E s a s' h0 hw h;have N:=Nx.refl h0 hw;unfold vg at h;obtain⟨t,st,nt,vt,N,h⟩:=gb h N (zv);obtain⟨x,s2,h2,h⟩:=zy h;obtain⟨n2,v2⟩:=JZ hR _ [] N.le N.wf XQ h2;replace N:=N.trans n2;obtain⟨y,sy,ny,vy,N,h⟩:=gb h N (zv);obtain⟨rfl,rfl⟩:=yE h;exact⟨N.down (by decide),v2.later ny⟩
theorem JM{R:xD}(hR:yJ R):Gd 0 Vd (kH R):=by
 intro E s a s' h0 hw h;have N:=Nx.refl h0 hw;unfold kH at h;obtain⟨t,st,nt,vt,N,h⟩:=gb h N (zv);obtain⟨c,sc,nc,vc,N,h⟩:=gb h N (hR.expr);obtain⟨b,sb,nb,vb,N,h⟩:=gb h N (hR.block);replace vc:=vc.later nb;obtain⟨a1,sa1,na1,ha1,N,h⟩:=gm h N;replace vc:=vc.later na1;replace vb:=vb.later na1;cases a1 with
 |true=>
  rw[if_pos rfl] at h;obtain⟨i,si,ni,vi,N,h⟩:=gb h N (zex);replace vc:=vc.later ni;replace vb:=vb.later ni;split at h
  ·obtain⟨x,sx,nx,vx,N,h⟩:=gb h N (hR.branch);replace vc:=vc.later nx;replace vb:=vb.later nx;exact xZ N (zU N.le N.wf (XE vc (XE vb (Zm vx))) h) (by decide)
  ·obtain⟨x,sx,nx,vx,N,h⟩:=gb h N (hR.block);replace vc:=vc.later nx;replace vb:=vb.later nx;exact xZ N (zU N.le N.wf (XE vc (XE vb (Zm vx))) h) (by decide)
 |false=>
  rw[if_neg (by decide)] at h;exact xZ N (zU N.le N.wf (XE vc (Zm vb)) h) (by decide)
theorem QC{R:xD}(hR:yJ R)(t:xF):Gd 0 Vd (xU R t):=by
 intro E s a s' h0 hw h;have N:=Nx.refl h0 hw;unfold xU at h;obtain⟨i,si,ni,vi,N,h⟩:=gb h N (zex);split at h
 ·obtain⟨nb,vb⟩:=JM hR N.le N.wf h;exact⟨(N.trans nb).down (by decide),vb⟩
 ·obtain⟨a1,sa1,na1,ha1,N,h⟩:=gm h N;cases a1 with
  |true=>
   rw[if_pos rfl] at h;obtain⟨c,sc,nc,vc,N,h⟩:=gb h N (hR.expr);obtain⟨b,sb,nb,vb,N,h⟩:=gb h N (hR.block);replace vc:=vc.later nb;exact xZ N (zU N.le N.wf (XE vc (Zm vb)) h) (by decide)
  |false=>
  rw[if_neg (by decide)] at h;obtain⟨a2,sa2,na2,ha2,N,h⟩:=gm h N;cases a2 with
  |true=>
   rw[if_pos rfl] at h;obtain⟨c,sc,nc,vc,N,h⟩:=gb h N (hR.expr);obtain⟨l,sl,nl,vl,N,h⟩:=gb h N ((jk (zbE hR)));replace vc:=vc.later nl;exact xZ N (zU N.le N.wf (XE vc vl) h) (by decide)
  |false=>
  rw[if_neg (by decide)] at h;obtain⟨a3,sa3,na3,ha3,N,h⟩:=gm h N;cases a3 with
  |true=>
   rw[if_pos rfl] at h;obtain⟨l,sl,nl,vl,N,h⟩:=gb h N ((uw hR));obtain⟨b,sb,nb,vb,N,h⟩:=gb h N (hR.block);replace vl:=vl.later nb;exact xZ N (zU N.le N.wf (vda vl vb) h) (by decide)
  |false=>
  rw[if_neg (by decide)] at h;obtain⟨a4,sa4,na4,ha4,N,h⟩:=gm h N;cases a4 with
  |true=>
   rw[if_pos rfl] at h;obtain⟨b,sb,nb,vb,N,h⟩:=gb h N (hR.block);obtain⟨q,sq,nq,vq,N,h⟩:=gb h N (zv);replace vb:=vb.later nq;obtain⟨m,sm,nm,vm,N,h⟩:=gb h N ((yl (by decide)));replace vb:=vb.later nm;obtain⟨c,sc,nc,vc,N,h⟩:=gb h N (hR.block);replace vb:=vb.later nc;exact xZ N (zU N.le N.wf (XE vb (Zm vc)) h) (by decide)
  |false=>
  rw[if_neg (by decide)] at h;obtain⟨a5,sa5,na5,ha5,N,h⟩:=gm h N;cases a5 with
  |true=>
   rw[if_pos rfl] at h;obtain⟨x,sx,nx,vx,N,h⟩:=gb h N (hR.expr);obtain⟨q,sq,nq,vq,N,h⟩:=gb h N (zv);replace vx:=vx.later nq;obtain⟨m,sm,nm,vm,N,h⟩:=gb h N ((yl (by decide)));replace vx:=vx.later nm;obtain⟨b,sb,nb,vb,N,h⟩:=gb h N (hR.block);replace vx:=vx.later nb;obtain⟨r,sr,nr,vr,N,h⟩:=gb h N (zv);replace vx:=vx.later nr;replace vb:=vb.later nr;obtain⟨c,sc,nc,vc,N,h⟩:=gb h N (hR.block);replace vx:=vx.later nc;replace vb:=vb.later nc;exact xZ N (zU N.le N.wf (XE vx (XE vb (Zm vc))) h) (by decide)
  |false=>
  rw[if_neg (by decide)] at h;obtain⟨a6,sa6,na6,ha6,N,h⟩:=gm h N;cases a6 with
  |true=>
   rw[if_pos rfl] at h;obtain⟨m,sm,nm,vm,N,h⟩:=gb h N ((yl (by decide)));obtain⟨l,sl,nl,vl,N,h⟩:=gb h N ((jk (za3 hR)));exact xZ N (zU N.le N.wf (vl) h) (by decide)
  |false=>
  rw[if_neg (by decide)] at h;obtain⟨a7,sa7,na7,ha7,N,h⟩:=gm h N;cases a7 with
  |true=>
   rw[if_pos rfl] at h;obtain⟨k,sk,nk,vk,N,h⟩:=gb h N (hR.kind);obtain⟨q,sq,nq,vq,N,h⟩:=gb h N (zv);replace vk:=vk.later nq;obtain⟨m,sm,nm,vm,N,h⟩:=gb h N ((yl (by decide)));replace vk:=vk.later nm;obtain⟨r,sr,nr,vr,N,h⟩:=gb h N (zv);replace vk:=vk.later nr;exact xZ N (zU N.le N.wf (Zm vk) h) (by decide)
  |false=>
  rw[if_neg (by decide)] at h;obtain⟨q,sq,nq,vq,N,h⟩:=gb h N (zv);obtain⟨l,sl,nl,vl,N,h⟩:=gb h N ((Ja hR));exact xZ N (zU N.le N.wf (vl) h) (by decide)
theorem zco{R:xD}(hR:yJ R):Gd 0 Vd (Zy R):=by
 intro E s a s' h0 hw h;have N:=Nx.refl h0 hw;unfold Zy at h;obtain⟨t,s0,h1,h⟩:=zy h;cases h1;split at h
 ·rename_i hk;obtain⟨u,s1,h1,h⟩:=zy h;have n1:=jW (qj (k:=3) (by simpa using hk) (by decide)) hw h1;replace N:=N.trans n1;exact xZ N (zU N.le N.wf (XQ) h) (by decide)
 split at h
 ·rename_i hk;obtain⟨u,s1,h1,h⟩:=zy h;have n1:=jW (qj (k:=4) (by simpa using hk) (by decide)) hw h1;replace N:=N.trans n1;exact xZ N (zU N.le N.wf (XQ) h) (by decide)
 split at h
 ·rename_i hk;obtain⟨u,s1,h1,h⟩:=zy h;have n1:=jW (qj (k:=1) (by simpa using hk) (by decide)) hw h1;replace N:=N.trans n1;exact xZ N (zU N.le N.wf (XQ) h) (by decide)
 split at h
 ·rename_i hk;obtain⟨u,s1,h1,h⟩:=zy h;have n1:=jW (qj (k:=2) (by simpa using hk) (by decide)) hw h1;replace N:=N.trans n1;obtain⟨l,sl,nl,vl,N,h⟩:=gb h N ((vN hR.expr));exact xZ N (zU N.le N.wf (vl) h) (by decide)
 obtain⟨a1,sa1,na1,ha1,N,h⟩:=gm h N;cases a1 with
 |true=>
  rw[if_pos rfl] at h;obtain⟨a2,sa2,na2,ha2,N,h⟩:=gm h N;cases a2 with
  |true=>
   rw[if_pos rfl] at h;exact xZ N (zU N.le N.wf (XQ) h) (by decide)
  |false=>
   rw[if_neg (by decide)] at h;obtain⟨x,sx,nx,vx,N,h⟩:=gb h N (hR.expr);obtain⟨q,sq,nq,vq,N,h⟩:=gb h N (zv);replace vx:=vx.later nq;obtain⟨rfl,rfl⟩:=yE h;exact⟨N.down (by decide),vx⟩
 |false=>
 rw[if_neg (by decide)] at h;obtain⟨a3,sa3,na3,ha3,N,h⟩:=gm h N;cases a3 with
 |true=>
  rw[if_pos rfl] at h;exact xZ N (zU N.le N.wf (XQ) h) (by decide)
 |false=>
 rw[if_neg (by decide)] at h;obtain⟨a4,sa4,na4,ha4,N,h⟩:=gm h N;cases a4 with
 |true=>
  rw[if_pos rfl] at h;exact xZ N (zU N.le N.wf (XQ) h) (by decide)
 |false=>
 rw[if_neg (by decide)] at h;have hkt:s.next=sa4.next:=by
  have e1:sa1=s:=by unfold yz at ha1;split at ha1 <;> cases ha1;rfl
  have e3:sa3=sa1:=by unfold yz at ha3;split at ha3 <;> cases ha3;rfl
  have e4:sa4=sa3:=by unfold yz at ha4;split at ha4 <;> cases ha4;rfl
  rw[e4,e3,e1]
 cases hw9:ky (zW E s).text with
 |some w=>
  rw[hw9] at h;simp only at h;split at h
  ·rename_i hk;obtain⟨u,s1,h1,h⟩:=zy h;have hlt:=qj (k:=5) (by simpa using hk) (by decide);have n1:=jW (by omega) N.wf h1;replace N:=N.trans n1;obtain⟨nb,vb⟩:=zfa hR _ w N.le N.wf h;exact⟨(N.trans nb).down (by decide),vb⟩
  ·obtain⟨nb,vb⟩:=QC hR _ N.le N.wf h;exact⟨(N.trans nb).down (by decide),vb⟩
 |none=>
  rw[hw9] at h;obtain⟨nb,vb⟩:=QC hR _ N.le N.wf h;exact⟨(N.trans nb).down (by decide),vb⟩
theorem Kg{R:xD}(hR:yJ R):∀(n:Nat) (left:Int) {E:zN} {s:yD} {a:Int} {s':yD},s.next≤E.toks.length→WFs s→Vd s left→Zw R n left E s=.ok a s'→Nx E 0 s s'∧Vd s' a
 |0,_,_,_,_,_,_,_,_,h=>by cases h
 |n+1,left,E,s,a,s',h0,hw,vl,h=>by
  have N:=Nx.refl h0 hw;unfold Zw at h;obtain⟨t,s1,h1,h⟩:=zy h;cases h1;obtain⟨a1,sa1,na1,ha1,N,h⟩:=gm h N;replace vl:=vl.later na1;cases a1 with
  |true=>
   rw[if_pos rfl] at h;obtain⟨m,sm,nm,vm,N,h⟩:=gb h N ((yl (by decide)));replace vl:=vl.later nm;obtain⟨x,s9,h9,h⟩:=zy h;obtain⟨nz,vz⟩:=zU N.le N.wf (Zm vl) h9;replace N:=N.trans nz;obtain⟨n4,v4⟩:=Kg hR n x N.le N.wf vz h;exact⟨(N.trans n4).down (by decide),v4⟩
  |false=>
  rw[if_neg (by decide)] at h;obtain⟨a2,sa2,na2,ha2,N,h⟩:=gm h N;replace vl:=vl.later na2;cases a2 with
  |true=>
   rw[if_pos rfl] at h;obtain⟨k,sk,nk,vk,N,h⟩:=gb h N ((YZ hR.expr));replace vl:=vl.later nk;obtain⟨q,sq,nq,vq,N,h⟩:=gb h N (zv);replace vl:=vl.later nq;replace vk:=vk.later nq;obtain⟨x,s9,h9,h⟩:=zy h;obtain⟨nz,vz⟩:=zU N.le N.wf (XE vl vk) h9;replace N:=N.trans nz;obtain⟨n4,v4⟩:=Kg hR n x N.le N.wf vz h;exact⟨(N.trans n4).down (by decide),v4⟩
  |false=>
  rw[if_neg (by decide)] at h;obtain⟨rfl,rfl⟩:=yE h;exact⟨N.down (by decide),vl⟩
theorem XR{R:xD}(hR:yJ R):Gd 0 Vd (ux R):=by
 intro E s a s' h0 hw h;have N:=Nx.refl h0 hw;unfold ux at h;obtain⟨b,s1,h1,h⟩:=zy h;cases h1;split at h
 ·rename_i hb;obtain⟨t,s2,h2,h⟩:=zy h;have n2:=jV (kD hb) hw h2;replace N:=N.trans n2;obtain⟨x,sx,nx,vx,N,h⟩:=gb h N (hR.unary);exact xZ N (zU N.le N.wf (Zm vx) h) (by decide)
 ·obtain⟨l,sl,nl,vl,N,h⟩:=gb h N ((zco hR));obtain⟨n4,v4⟩:=Kg hR _ l N.le N.wf vl h;exact⟨(N.trans n4).down (by decide),v4⟩
theorem zcm{R:xD}(hR:yJ R):Gd 0 Vd (zgq R):=Y7 (XR hR) 4
theorem zcn{R:xD}(hR:yJ R):Gd 0 Vd (JE R):=Y7 (zcm hR) 3
theorem XN{R:xD}(hR:yJ R):Gd 0 Vd (Ys R):=by
 intro E s a s' h0 hw h;have N:=Nx.refl h0 hw;unfold Ys at h;obtain⟨b,s1,h1,h⟩:=zy h;cases h1;split at h
 ·rename_i hb;obtain⟨t,s2,h2,h⟩:=zy h;have n2:=jV (kD hb) hw h2;replace N:=N.trans n2;obtain⟨x,sx,nx,vx,N,h⟩:=gb h N (hR.bin2);exact xZ N (zU N.le N.wf (Zm vx) h) (by decide)
 ·obtain⟨n4,v4⟩:=Y7 (zcn hR) 2 N.le N.wf h;exact⟨(N.trans n4).down (by decide),v4⟩
theorem zf9{R:xD}(hR:yJ R):Gd 0 Vd (zeC R):=Y7 (Y7 (XN hR) 1) 0
theorem zbc{R:xD}(hR:yJ R):Gd 0 Vd (kj R):=by
 intro E s a s' h0 hw h;have N:=Nx.refl h0 hw;unfold kj at h;obtain⟨t,s0,h1,h⟩:=zy h;cases h1;split at h
 ·rename_i hk;obtain⟨u,s1,h1,h⟩:=zy h;have n1:=jW (qj (k:=1) (by simpa using hk) (by decide)) hw h1;replace N:=N.trans n1;exact xZ N (zU N.le N.wf (XQ) h) (by decide)
 split at h
 ·rename_i hk;obtain⟨u,s1,h1,h⟩:=zy h;have n1:=jW (qj (k:=3) (by simpa using hk) (by decide)) hw h1;replace N:=N.trans n1;exact xZ N (zU N.le N.wf (XQ) h) (by decide)
 split at h
 ·rename_i hk;obtain⟨u,s1,h1,h⟩:=zy h;have n1:=jW (qj (k:=4) (by simpa using hk) (by decide)) hw h1;replace N:=N.trans n1;exact xZ N (zU N.le N.wf (XQ) h) (by decide)
 split at h
 ·rename_i hk;obtain⟨u,s1,h1,h⟩:=zy h;have n1:=jW (qj (k:=2) (by simpa using hk) (by decide)) hw h1;replace N:=N.trans n1;obtain⟨l,sl,nl,vl,N,h⟩:=gb h N ((vN hR.pattern));exact xZ N (zU N.le N.wf (vl) h) (by decide)
 obtain⟨a1,sa1,na1,ha1,N,h⟩:=gm h N;cases a1 with
 |true=>
  rw[if_pos rfl] at h;exact xZ N (zU N.le N.wf (XQ) h) (by decide)
 |false=>
 rw[if_neg (by decide)] at h;obtain⟨a2,sa2,na2,ha2,N,h⟩:=gm h N;cases a2 with
 |true=>
  rw[if_pos rfl] at h;exact xZ N (zU N.le N.wf (XQ) h) (by decide)
 |false=>
 rw[if_neg (by decide)] at h;obtain⟨q,sq,nq,vq,N,h⟩:=gb h N (zv);obtain⟨m,sm,nm,vm,N,h⟩:=gb h N ((yl (by decide)));exact xZ N (zU N.le N.wf (XQ) h) (by decide)
theorem ZZ{α:Type}{d:Int}{Q:yD→α→Prop}{m:PM α}(hm:∀E s,m E s=.bad 0):Gd d Q m:=by
 intro E s a s' _ _ h;rw[hm] at h;cases h
theorem zcf:yJ zgo:=⟨ZZ fun _ _=>rfl,ZZ fun _ _=>rfl,ZZ fun _ _=>rfl,ZZ fun _ _=>rfl,ZZ fun _ _=>rfl,ZZ fun _ _=>rfl,ZZ fun _ _=>rfl⟩
theorem jA:∀n,yJ (ZL n)
 |0=>zcf
 |n+1=>⟨zf9 (jA n),XR (jA n),XN (jA n),zeK (jA n),JM (jA n),zfU (jA n),zbc (jA n)⟩
theorem Nx.adv{E:zN}{d:Int}{s s':yD}(n:Nx E d s s'):(s.next:Int)+d≤s'.next:=by
 obtain⟨r,hr⟩:=n.pre;have:=n.cr;rw[hr,List.length_append] at this;omega
structure z6 where
 nodes:List Nd
 items:List Int
 deriving DecidableEq
inductive yY where
 |expr|stmt|type|pattern|way|item|els|vM
 |one (k:Nat)
 deriving DecidableEq
def yy(k:Nat):Bool:=decide (1≤k) && decide (k≤51) && k != 27 && k != 32 && k != 28
def yY.is:yY→Nat→Bool
 | .expr,k=>yy k
 | .stmt,k=>(decide (60≤k) && decide (k≤62)) || yy k
 | .type,k=>decide (80≤k) && decide (k≤87)
 | .pattern,k=>decide (66≤k) && decide (k≤70)
 | .way,k=>decide (63≤k) && decide (k≤65)
 | .item,k=>decide (100≤k) && decide (k≤104)
 | .els,k=>k == 28 || k == 29
 | .vM,k=>k == 5 || k == 23
 | .one j,k=>k == j
structure y5 where
 first:List yY
 more:Option yY
 least:Nat
 last:List yY
 deriving DecidableEq
def vT(l:List yY):y5:=⟨l,none,0,[]⟩
def zP(k:Nat):Option y5:=
 if [1,2,3,4,5,44,45,46,80,81,82,83,84,66,67,68,69].contains k then some (vT [])
 else if [6,7,23,27,37,38,39,42,43,47,50,51,60,61,65].contains k then some (vT [.expr])
 else if [41,48,63].contains k then some (vT [.expr,.expr])
 else if [49,64].contains k then some (vT [.expr,.expr,.expr])
 else if k == 24 then some ⟨[.expr],some .expr,0,[]⟩
 else if k == 25 then some ⟨[],some .expr,0,[]⟩
 else if k == 26 then some ⟨[],some (.one 27),1,[]⟩
 else if k == 28 then some ⟨[],some .stmt,0,[]⟩
 else if k == 29 then some ⟨[.expr,.one 28],some .els,0,[]⟩
 else if k == 30 then some (vT [.expr,.one 28])
 else if k == 31 then some ⟨[.expr],some (.one 32),1,[]⟩
 else if k == 32 then some (vT [.pattern,.expr])
 else if k == 33 || k == 102 then some ⟨[],some (.one 88),0,[.type,.one 28]⟩
 else if k == 34 then some (vT [.one 28,.one 28])
 else if k == 35 then some ⟨[],some .way,1,[]⟩
 else if k == 36 then some (vT [.expr,.one 28,.one 28])
 else if k == 40 || k == 86 || k == 87 || k == 88 then some (vT [.type])
 else if k == 62 then some (vT [.vM,.expr])
 else if k == 70 then some ⟨[],some .pattern,0,[]⟩
 else if k == 85 then some ⟨[],some .type,0,[.type]⟩
 else if k == 89 then some ⟨[],some .type,0,[]⟩
 else if k == 100 then some ⟨[],some (.one 88),1,[]⟩
 else if k == 101 then some ⟨[],some (.one 89),1,[]⟩
 else if k == 103 then some ⟨[],some (.one 88),0,[.type]⟩
 else if k == 104 then some (vT [.type,.expr])
 else if decide (8≤k) && decide (k≤22) then some (vT [.expr,.expr])
 else none
def y5.at_(s:y5)(k many:Nat):Option yY:=
 if k<s.first.length then s.first[k]?
 else if many≤k+s.last.length then s.last[k+s.last.length-many]?
 else s.more
def y5.fits(s:y5)(many:Nat):Bool:=
 decide (s.first.length+s.last.length+s.least≤many) && (s.more.isSome || decide (many=s.first.length+s.last.length))
def xG(k:Nat):Nat:=
 if k == 2 || k == 68 then 4
 else if [25,26,84,70,89,100,101].contains k then 2
 else if [5,23,27,66,88,60,61,34,36,63,102,103,104].contains k then 1
 else 0
def y6(k:Nat):Int×Int:=
 if k == 1 || k == 40 then (0,1000000000)
 else if k == 67 then (-1000000000,1000000000)
 else if k == 3 || k == 69 || k == 28 || k == 102 then (0,1)
 else (0,0)
def jX(x:Nd):Bool:=
 if x.n<(y6 x.kind).1∨(y6 x.kind).2<x.n∨x.at_<0∨3000<x.at_ then false
 else if xG x.kind == 0 then x.text == []
 else (xE (xG x.kind) x.text).2 == 0
def zK(l:List Nd)(k:Int):Nat:=(l[k.toNat]?).elim 0 Nd.kind
def xm(l:List Nd)(x:Nd):Bool:=
 if x.kids.any fun k=>decide (k<0) || decide ((l.length:Int)≤k) then false
 else if x.kind == 28 then x.n == 0 || (match x.kids.getLast? with|some k=>yy (zK l k)|none=>false)
 else if x.kind == 29 then decide (x.kids.length≤3)
 else if x.kind == 35 then decide (x.kids.length≤(x.kids.findIdx fun k=>zK l k == 65)+1)
 else true
def vV(g:Int→Int→yY→Option Int)(h:y5)(many:Nat):List Int→Int→Option Int
 |[],next=>some next
 |k :: r,next=>match h.at_ r.length many with
  |none=>none
  |some s=>(g next k s).bind (vV g h many r)
def qd(l:List Nd):Nat→Int→Int→yY→Option Int
 |0,_,_,_=>none
 |f+1,next,number,s=>
  if next<0∨number≠next then none else
  match l[number.toNat]? with
  |none=>none
  |some x=>match zP x.kind with
   |none=>none
   |some h=>if s.is x.kind && jX x && h.fits x.kids.length && xm l x then vV (qd l f) h x.kids.length x.kids.reverse (next-1) else none
def uX(l:List Nd):List Int→Int→Option Int
 |[],next=>some next
 |k :: r,next=>(qd l (l.length+1) next k .item).bind (uX l r)
def qJ(t:z6):Bool:=match uX t.nodes t.items.reverse ((t.nodes.length:Int)-1) with
 |some next=>decide (next<0)
 |none=>false
def xg(d:Nat):List Int→List Nat→List Nat
 |[],deep=>deep
 |k :: r,deep=>xg d r (deep.set k.toNat (d+1))
def ZB(l:List Nd):Nat→List Nat→Nat→Nat
 |0,_,most=>most
 |i+1,deep,most=>ZB l i (xg (deep.getD i 0) ((l[i]?).elim [] Nd.kids) deep) (max most (deep.getD i 0))
def jC(t:z6):Nat:=ZB t.nodes t.nodes.length (t.items.foldl (fun d k=>d.set k.toNat 1) (List.replicate t.nodes.length 0)) 0
def qG(k:Nat):Nat:=
 if k == 102 || k == 33 then 8
 else if k == 103 || k == 85 || k == 24 then 7
 else if k == 100 || k == 26 then 6
 else if k == 101 then 8
 else if k == 89 || k == 25 || k == 70 then 4
 else if k == 31 then 13
 else if k == 35 then 4
 else 1000
def xx(x:Nd):Bool:=if x.kind == 40 then decide (1≤x.n) && decide (x.n≤8) else decide (x.kids.length≤qG x.kind)
def yB(t:z6):Nat:=
 if 1000<t.nodes.length∨40<t.items.length then 5
 else if !qJ t then 4
 else if 40<jC t then 5
 else if t.nodes.any fun x=> !xx x then 3
 else 0
def uI{α:Type}(p:α→Bool)(l:List α):Int:=match l.findIdx? p with
 |some i=>i
 |none=> -1
def upT(t:z6)(node:Int):Int:=uI (fun x=>x.kids.contains node) t.nodes
def zav(t:z6):Nat→Int→List Int→List Int
 |0,_,acc=>acc
 |f+1,at_,acc=>if at_<0 then acc else zav t f (upT t at_) (at_ :: acc)
def zcy(t:z6)(node:Int):List Int:=zav t (t.nodes.length+1) node []
def Xd(l:List Nd):Nat→Int→Int
 |0,_=>0
 |f+1,node=>((l[node.toNat]?).elim [] Nd.kids).foldl (fun n k=>n+Xd l f k) 1
def Vl(t:z6)(node:Int):Int:=Xd t.nodes (t.nodes.length+1) node
def Yt{α:Type}(t:z6)(node:Int)(of:z6→Int→α)(d:α):α×Nat:=
 if yB t≠0 then (d,yB t)
 else if node<0∨(t.nodes.length:Int)≤node then (d,7)
 else (of t node,0)
def Yf(t:z6)(node:Int):Int×Nat:=Yt t node upT 0
def VI(t:z6)(node:Int):List Int×Nat:=Yt t node zcy []
def XZ(t:z6)(node:Int):Int×Nat:=Yt t node Vl 0
def Y5(t:z6)(p:Int):Int×Nat:=
 if yB t≠0 then (0,yB t)
 else if uI (fun x=>x.at_ == p) t.nodes<0 then (0,7)
 else (uI (fun x=>x.at_ == p) t.nodes,0)
def yW(s:List UInt8):z6×Int×Nat:=
 match kA s with
 |(l,at_,e)=>if e≠0 then (⟨[],[]⟩,at_,e) else
  match kR l s.length with
  | .bad p=>(⟨[],[]⟩,p,4)
  | .ok _ st=>
   if 1000<st.nodes.length∨40<st.items.length∨40<jC ⟨st.nodes,st.items⟩ then (⟨[],[]⟩,0,5)
   else match st.nodes.find? fun x=> !xx x with
    |some x=>(⟨[],[]⟩,x.at_,3)
    |none=>(⟨st.nodes,st.items⟩,0,0)
def yC(k:Nat):Option (List UInt8):=
 if k == 22 then some [111,114] else if k == 21 then some [97,110,100]
 else if k == 14 then some [61,61] else if k == 15 then some [33,61] else if k == 16 then some [60] else if k == 17 then some [60,61] else if k == 18 then some [62] else if k == 19 then some [62,61] else if k == 20 then some [105,115]
 else if k == 8 then some [43] else if k == 9 then some [45] else if k == 10 then some [43,43]
 else if k == 11 then some [42] else if k == 12 then some [47] else if k == 13 then some [37]
 else none
def yO(k:Nat):Nat:=
 if k == 22 then 1 else if k == 21 then 2 else if decide (14≤k) && decide (k≤20) then 4
 else if k == 8 || k == 9 || k == 10 then 5 else if k == 11 || k == 12 || k == 13 then 6
 else if k == 7 then 3 else if k == 6 || k == 37 || k == 38 || k == 39 then 7
 else if k == 23 || k == 24 then 8 else 9
def jT:List (List UInt8)→List UInt8
 |[]=>[]
 |[x]=>x
 |x :: r=>x ++ [44,32] ++ jT r
section
variable (l:List Nd) (pr:Int→List UInt8)
def xr(node:Int)(least:Nat):List UInt8:=if yO (zK l node)<least then [40] ++ pr node ++ [41] else pr node
def qc(k:List Int):List UInt8:=jT (k.map pr)
def qi(k:List Int):List UInt8:=if k=[] then [] else [40] ++ qc pr k ++ [41]
def xK(last:Bool):List Int→List UInt8
 |[]=>[]
 |[k]=>pr k ++ (if last then [] else [59]) ++ [32]
 |k :: r=>pr k ++ [59] ++ [32] ++ xK last r
def Zb(x:Nd):List UInt8:=if x.kids=[] then [123,125] else [123,32] ++ xK pr (x.n != 0) x.kids ++ [125]
def zI(x:Nd)(i:Nat):Int:=x.kids.getD i 0
def yM(x:Nd)(without:Nat):List UInt8:=[40] ++ qc pr (x.kids.take (x.kids.length-1-without)) ++ [41,58,32] ++ pr (zI x (x.kids.length-1-without))
def xq(x:Nd):List UInt8:=
 if x.kind == 60 then [108,101,116,32] ++ x.text ++ [32,61,32] ++ pr (zI x 0)
 else if x.kind == 61 then [118,97,114,32] ++ x.text ++ [32,61,32] ++ pr (zI x 0)
 else if x.kind == 62 then pr (zI x 0) ++ [32,58,61,32] ++ pr (zI x 1)
 else if x.kind == 63 then [114,101,99,118,32] ++ pr (zI x 0) ++ [32,97,115,32] ++ x.text ++ [32,61,62,32] ++ pr (zI x 1)
 else if x.kind == 64 then [115,101,110,100,32] ++ qc pr (x.kids.take 2) ++ [32,61,62,32] ++ pr (zI x 2)
 else [101,108,115,101,32,61,62,32] ++ pr (zI x 0)
def yo(x:Nd):List UInt8:=
 if x.kind == 80 then [105,110,116] else if x.kind == 81 then [98,111,111,108] else if x.kind == 82 then [116,101,120,116] else if x.kind == 83 then [117,110,105,116]
 else if x.kind == 85 then [102,110] ++ yM pr x 0
 else if x.kind == 86 then [99,104,97,110,32] ++ pr (zI x 0)
 else if x.kind == 87 then [119,101,97,107,32] ++ pr (zI x 0)
 else if x.kind == 88 then x.text ++ [58,32] ++ pr (zI x 0)
 else if x.kind == 100 then [99,108,97,115,115,32] ++ x.text ++ [32,123,32] ++ qc pr x.kids ++ [32,125]
 else if x.kind == 101 then [107,105,110,100,32] ++ x.text ++ [32,123,32] ++ qc pr x.kids ++ [32,125]
 else if x.kind == 103 then [101,120,116,101,114,110,32,102,117,110,32] ++ x.text ++ yM pr x 0 ++ [59]
 else if x.kind == 104 then [114,111,111,116,32] ++ x.text ++ [58,32] ++ pr (zI x 0) ++ [32,61,32] ++ pr (zI x 1) ++ [59]
 else (if x.n == 1 then [112,117,114,101,32] else []) ++ ([102,117,110,32] ++ x.text ++ yM pr x 1 ++ [32] ++ pr (zI x (x.kids.length-1)))
def zG(x:Nd):List UInt8:=
 if x.kind == 29 then [105,102,32] ++ pr (zI x 0) ++ [32] ++ pr (zI x 1) ++ (if x.kids.length == 3 then [32,101,108,115,101,32] ++ pr (zI x 2) else [])
 else if x.kind == 30 then [119,104,105,108,101,32] ++ pr (zI x 0) ++ [32] ++ pr (zI x 1)
 else if x.kind == 31 then [109,97,116,99,104,32] ++ pr (zI x 0) ++ [32,123,32] ++ qc pr (x.kids.drop 1) ++ [32,125]
 else if x.kind == 32 then pr (zI x 0) ++ [32,61,62,32] ++ pr (zI x 1)
 else if x.kind == 33 then [102,110] ++ yM pr x 1 ++ [32] ++ pr (zI x (x.kids.length-1))
 else if x.kind == 34 then [116,114,121,32] ++ pr (zI x 0) ++ [32,99,97,116,99,104,32] ++ x.text ++ [32] ++ pr (zI x 1)
 else if x.kind == 35 then [115,101,108,101,99,116,32,123,32] ++ qc pr x.kids ++ [32,125]
 else if x.kind == 36 then [104,111,108,100,32] ++ pr (zI x 0) ++ [32,97,115,32] ++ x.text ++ [32] ++ pr (zI x 1) ++ [32,101,108,115,101,32] ++ pr (zI x 2)
 else if x.kind == 26 then [110,101,119,32] ++ x.text ++ [32,123,32] ++ qc pr x.kids ++ [32,125]
 else if x.kind == 27 then x.text ++ [58,32] ++ pr (zI x 0)
 else [99,104,97,110,32] ++ pr (zI x 0) ++ [40] ++ Go.Lib.itoa x.n ++ [41]
def zF(x:Nd):List UInt8:=
 match yC x.kind with
 |some sign=>xr l pr (zI x 0) (if yO x.kind == 4 then 5 else yO x.kind) ++ [32] ++ sign ++ [32] ++ xr l pr (zI x 1) (yO x.kind+1)
 |none=>
  if x.kind == 1 || x.kind == 67 then Go.Lib.itoa x.n
  else if x.kind == 2 || x.kind == 68 then (xJ x.text).1
  else if x.kind == 3 || x.kind == 69 then (if x.n == 1 then [116,114,117,101] else [102,97,108,115,101])
  else if x.kind == 4 then [40,41]
  else if x.kind == 5 || x.kind == 66 || x.kind == 84 then x.text
  else if x.kind == 6 then (if zK l (zI x 0) == 6 then [45,32] ++ pr (zI x 0) else [45] ++ xr l pr (zI x 0) 7)
  else if x.kind == 7 then [110,111,116,32] ++ xr l pr (zI x 0) 3
  else if x.kind == 23 then xr l pr (zI x 0) 8 ++ [46] ++ x.text
  else if x.kind == 24 then (if zK l (zI x 0) == 25 && ((l[(zI x 0).toNat]?).elim [] Nd.kids).isEmpty then [40] ++ xr l pr (zI x 0) 8 ++ [41] else xr l pr (zI x 0) 8) ++ [40] ++ qc pr (x.kids.drop 1) ++ [41]
  else if x.kind == 25 || x.kind == 70 || x.kind == 89 then x.text ++ qi pr x.kids
  else if x.kind == 28 then Zb pr x
  else match z8.find? fun w=>w.2.1 == x.kind with
   |some w=>if w.2.2<0 then w.1 ++ [32] ++ xr l pr (zI x 0) 7 else if w.2.2 == 0 then w.1 else w.1 ++ [40] ++ qc pr x.kids ++ [41]
   |none=>
    if decide (60≤x.kind) && decide (x.kind≤65) then xq pr x
    else if 80≤x.kind then yo pr x
    else zG pr x
end
def prN(l:List Nd):Nat→Int→List UInt8
 |0,_=>[]
 |f+1,node=>match l[node.toNat]? with
  |some x=>zF l (prN l f) x
  |none=>[]
def prT(t:z6)(node:Int):List UInt8:=prN t.nodes (t.nodes.length+1) node
def uS(s:List UInt8):List UInt8×Nat:=if (kA s).2.2≠0 then ([],5) else (s,0)
def ZN(t:z6):List UInt8×Nat:=if yB t≠0 then ([],yB t) else uS (t.items.flatMap fun k=>prT t k ++ [10])
def vd(s:List UInt8):List UInt8×Int×Nat:=match yW s with
 |(t,at_,e)=>if e≠0 then ([],at_,e) else ((ZN t).1,0,(ZN t).2)
def jH(k:Nat):Nat×Nat:=
 if [1,2,3,4,5,44,45,46,66,67,68,69,80,81,82,83,84].contains k then (0,0)
 else if [6,7,23,27,37,38,39,40,42,43,47,50,51,60,61,65,86,87,88].contains k then (1,1)
 else if [49,64,36].contains k then (3,3)
 else if k == 29 then (2,3)
 else if [24,26,35,85,103,100,101].contains k then (1,2000)
 else if [31,33,102].contains k then (2,2000)
 else if [25,28,70,89].contains k then (0,2000)
 else (2,2)
def yK(k:Nat)(n:Int)(m i kd:Nat):Bool:=
 if k == 100 then kd == 88
 else if k == 101 then kd == 89
 else if k == 26 then kd == 27
 else if k == 70 then yY.pattern.is kd
 else if k == 88 || k == 89 || k == 85 || k == 86 || k == 87 || k == 40 then yY.type.is kd
 else if k == 103 then (decide (i+1<m) && kd == 88) || (decide (i+1=m) && yY.type.is kd)
 else if k == 102 || k == 33 then (decide (i+2<m) && kd == 88) || (decide (i+2=m) && yY.type.is kd) || (decide (i+1=m) && kd == 28)
 else if k == 104 then (decide (i=0) && yY.type.is kd) || (decide (i=1) && yy kd)
 else if k == 28 then yY.stmt.is kd && (decide (i+1<m) || n == 0 || yy kd)
 else if k == 62 then (decide (i=1) && yy kd) || (decide (i=0) && (kd == 5 || kd == 23))
 else if k == 29 then (decide (i=0) && yy kd) || (decide (0<i) && kd == 28) || (decide (i=2) && kd == 29)
 else if k == 30 || k == 36 then (decide (i=0) && yy kd) || (decide (0<i) && kd == 28)
 else if k == 34 then kd == 28
 else if k == 31 then (decide (i=0) && yy kd) || (decide (0<i) && kd == 32)
 else if k == 32 then (decide (i=0) && yY.pattern.is kd) || (decide (i=1) && yy kd)
 else if k == 35 then yY.way.is kd && (decide (i+1=m) || kd != 65)
 else yy kd
def zz(k:Nat)(n:Int)(m:Nat):Bool:=
 if k == 1 || k == 40 then decide (0≤n) && decide (n≤1000000000)
 else if k == 67 then decide (-1000000000≤n) && decide (n≤1000000000)
 else if k == 3 || k == 69 || k == 102 then n == 0 || n == 1
 else if k == 28 then n == 0 || (n == 1 && decide (0<m))
 else n == 0
def xV(k:Nat):Bool:=(decide (1≤k) && decide (k≤51)) || (decide (60≤k) && decide (k≤70)) || (decide (80≤k) && decide (k≤89)) || (decide (100≤k) && decide (k≤104))
def qz(x:Nd):Bool:=if xG x.kind == 0 then x.text == [] else (xE (xG x.kind) x.text).2 == 0
def yd(l:List Nd)(x:Nd):Bool:=
 xV x.kind && decide ((jH x.kind).1≤x.kids.length) && decide (x.kids.length≤(jH x.kind).2) && zz x.kind x.n x.kids.length && decide (0≤x.at_) && decide (x.at_≤3000) && qz x &&
 (List.range x.kids.length).all fun i=>yK x.kind x.n x.kids.length i (zK l (x.kids.getD i 0))
def qF(h:y5)(m i kd:Nat):Bool:=match h.at_ i m with
 |some s=>s.is kd
 |none=>false
def xp(l:List Nd)(x:Nd):Bool:=match zP x.kind with
 |none=>false
 |some h=>jX x && h.fits x.kids.length && xm l x && (List.range x.kids.length).all fun i=>qF h x.kids.length i (zK l (x.kids.getD i 0))
theorem vo{k:Nat}(h:xV k=true):k≤104:=by
 simp only[xV,Bool.or_eq_true,Bool.and_eq_true,decide_eq_true_eq] at h;omega
theorem VZ:∀k,k≤104→(zP k).isSome=xV k:=by decide +kernel
theorem zaO{k:Nat}(h:¬k≤104):zP k=none:=by
 have h2:∀(l:List Nat),(∀x∈l,x≤104)→l.contains k=false:=fun l hl=>by
  rw[Bool.eq_false_iff];intro hc;rw[List.contains_iff_mem] at hc;exact h (hl k hc)
 have h3:∀j,j≤104→(k == j)=false:=fun j hj=>by rw[beq_eq_false_iff_ne];omega
 unfold zP;rw[h2 _ (by decide),h2 _ (by decide),h2 _ (by decide),h2 _ (by decide)];simp only[h3 24 (by decide),h3 25 (by decide),h3 26 (by decide),h3 28 (by decide),h3 29 (by decide),h3 30 (by decide),h3 31 (by decide),h3 32 (by decide),h3 33 (by decide),h3 102 (by decide),h3 34 (by decide),h3 35 (by decide),h3 36 (by decide),h3 40 (by decide),h3 86 (by decide),h3 87 (by decide),h3 88 (by decide),h3 62 (by decide),h3 70 (by decide),h3 85 (by decide),h3 89 (by decide),h3 100 (by decide),h3 101 (by decide),h3 103 (by decide),h3 104 (by decide)];rw[show decide (k≤22)=false from by rw[decide_eq_false_iff_not];omega];simp
theorem Xe(k:Nat):(zP k).isSome=xV k:=by
 by_cases h:k≤104
 ·exact VZ k h
 ·rw[zaO h];cases hk:xV k with
  |true=>exact absurd (vo hk) h
  |false=>rfl
theorem uu(x:Nd):jX x=((decide ((y6 x.kind).1≤x.n) && decide (x.n≤(y6 x.kind).2)) && (decide (0≤x.at_) && decide (x.at_≤3000)) && qz x):=by
 unfold jX qz;by_cases h:x.n<(y6 x.kind).1∨(y6 x.kind).2<x.n∨x.at_<0∨3000<x.at_
 ·rw[if_pos h];symm;rw[Bool.and_eq_false_iff];left;rw[Bool.and_eq_false_iff,Bool.and_eq_false_iff,Bool.and_eq_false_iff];simp only[decide_eq_false_iff_not];omega
 ·rw[if_neg h];have h1:decide ((y6 x.kind).1≤x.n)=true:=by rw[decide_eq_true_eq];omega
  have h2:decide (x.n≤(y6 x.kind).2)=true:=by rw[decide_eq_true_eq];omega
  have h3:decide (0≤x.at_)=true:=by rw[decide_eq_true_eq];omega
  have h4:decide (x.at_≤3000)=true:=by rw[decide_eq_true_eq];omega
  rw[h1,h2,h3,h4];simp
theorem ja{m:Nat}{p q:Nat→Bool}(h:∀i,i<m→p i=q i):(List.range m).all p=(List.range m).all q:=by
 rw[Bool.eq_iff_iff,List.all_eq_true,List.all_eq_true];constructor <;> (intro hh i hi;have:=hh i hi;have e:=h i (List.mem_range.1 hi);simp_all)
theorem zdY{l:List Nd}{x:Nd}{h:y5}(hs:zP x.kind=some h)(hsp:xm l x=true)
 (hf:h.fits x.kids.length=(decide ((jH x.kind).1≤x.kids.length) && decide (x.kids.length≤(jH x.kind).2)))
 (hb:(decide ((y6 x.kind).1≤x.n) && decide (x.n≤(y6 x.kind).2))=zz x.kind x.n x.kids.length)
 (hd:h.fits x.kids.length=true→∀i,i<x.kids.length→∀kd,qF h x.kids.length i kd=yK x.kind x.n x.kids.length i kd):xp l x=yd l x:=by
 have hk:xV x.kind=true:=by rw[←Xe,hs];rfl
 unfold xp yd;rw[hs];simp only[hsp,hk,uu,hb,←hf,Bool.true_and,Bool.and_true];cases hfit:h.fits x.kids.length with
 |false=>
  simp
 |true=>
  rw[ja (fun i hi=>hd hfit i hi _)];simp only[Bool.true_and,Bool.and_true];generalize zz x.kind x.n x.kids.length=a;generalize decide (0≤x.at_)=b;generalize decide (x.at_≤3000)=c;generalize qz x=d;cases a <;> cases b <;> cases c <;> cases d <;> simp
def KU(l:List Nd)(x:Nd):Prop:=∀k∈x.kids,0≤k∧k<(l.length:Int)
theorem ug{l:List Nd}{x:Nd}(h:KU l x):(x.kids.any fun k=>decide (k<0) || decide ((l.length:Int)≤k))=false:=by
 rw[List.any_eq_false];intro k hk;have:=h k hk;simp;omega
theorem QQ{l:List Nd}{x:Nd}(h:KU l x)(h1:x.kind≠28)(h2:x.kind≠29)(h3:x.kind≠35):xm l x=true:=by
 unfold xm;rw[ug h];simp[h1,h2,h3]
theorem JH(l:List yY)(m:Nat):(vT l).fits m=decide (m=l.length):=by
 unfold y5.fits vT;rw[Bool.eq_iff_iff];simp;omega
theorem uQ(k:Nat)(n:Int)(m:Nat)(h:k≠28):(decide ((y6 k).1≤n) && decide (n≤(y6 k).2))=zz k n m:=by
 have h28:(k == 28)=false:=bfE h
 unfold y6 zz;rw[h28];by_cases h1:(k == 1 || k == 40)=true
 ·rw[if_pos h1,if_pos h1]
 ·rw[if_neg h1,if_neg h1];by_cases h2:(k == 67)=true
  ·rw[if_pos h2,if_pos h2]
  ·rw[if_neg h2,if_neg h2];by_cases h3:(k == 3 || k == 69 || k == 102)=true
   ·have h4:(k == 3 || k == 69 || false || k == 102)=true:=by simpa using h3
    rw[if_pos h3,if_pos h4,Bool.eq_iff_iff];simp;omega
   ·have h4:¬(k == 3 || k == 69 || false || k == 102)=true:=by simpa using h3
    rw[if_neg h3,if_neg h4,if_neg (by decide),Bool.eq_iff_iff];simp;omega
theorem vW(f:List yY)(s:yY)(least:Nat)(la:List yY)(m:Nat):(y5.mk f (some s) least la).fits m=decide (f.length+la.length+least≤m):=by
 unfold y5.fits;simp
theorem Jc{l:List Nd}{x:Nd}(hin:KU l x)(h:y5)(ks:List Nat)(hk:x.kind∈ks)(h1:∀k∈ks,zP k=some h)(h2:∀k∈ks,k≠28∧k≠29∧k≠35)(hf:∀k∈ks,h.fits x.kids.length=(decide ((jH k).1≤x.kids.length) && decide (x.kids.length≤(jH k).2)))(hd:∀k∈ks,h.fits x.kids.length=true→∀i,i<x.kids.length→∀kd,qF h x.kids.length i kd=yK k x.n x.kids.length i kd):xp l x=yd l x:=
 zdY (h1 _ hk) (QQ hin (h2 _ hk).1 (h2 _ hk).2.1 (h2 _ hk).2.2) (hf _ hk) (uQ _ _ _ (h2 _ hk).1) (hd _ hk)
theorem jt{l:List Nd}{x:Nd}(hin:KU l x)(ls:List yY)(ks:List Nat)(hk:x.kind∈ks)(h1:∀k∈ks,zP k=some (vT ls))(h2:∀k∈ks,k≠28∧k≠29∧k≠35)(h3:∀k∈ks,jH k=(ls.length,ls.length))(h4:∀k∈ks,∀(n:Int) (i kd:Nat),i<ls.length→qF (vT ls) ls.length i kd=yK k n ls.length i kd):xp l x=yd l x:=
 Jc hin (vT ls) ks hk h1 h2 (fun k hk=>by
  rw[h3 k hk,JH];generalize x.kids.length=m;rw[Bool.eq_iff_iff];simp;omega) (fun k hk hf i hi kd=>by
  rw[JH,decide_eq_true_eq] at hf;rw[hf] at hi ⊢;exact h4 k hk _ i kd hi)
theorem xu{l:List Nd}{x:Nd}(hin:KU l x)(hk:x.kind∈[1,2,3,4,5,44,45,46,80,81,82,83,84,66,67,68,69]∨x.kind∈[6,7,23,27,37,38,39,42,43,47,50,51,60,61,65]∨x.kind∈[40,86,87,88]∨x.kind∈[41,48,63,8,9,10,11,12,13,14,15,16,17,18,19,20,21,22]∨x.kind∈[49,64]∨x.kind∈[30]∨x.kind∈[32]∨x.kind∈[34]∨x.kind∈[36]∨x.kind∈[62]∨x.kind∈[104]):xp l x=yd l x:=by
 rcases hk with hk|hk|hk|hk|hk|hk|hk|hk|hk|hk|hk
 case' inl=>refine jt hin [] _ hk (by decide) (by decide) (by decide) ?_
 case' inr.inl=>refine jt hin [.expr] _ hk (by decide) (by decide) (by decide) ?_
 case' inr.inr.inl=>refine jt hin [.type] _ hk (by decide) (by decide) (by decide) ?_
 case' inr.inr.inr.inl=>refine jt hin [.expr,.expr] _ hk (by decide) (by decide) (by decide) ?_
 case' inr.inr.inr.inr.inl=>refine jt hin [.expr,.expr,.expr] _ hk (by decide) (by decide) (by decide) ?_
 case' inr.inr.inr.inr.inr.inl=>refine jt hin [.expr,.one 28] _ hk (by decide) (by decide) (by decide) ?_
 case' inr.inr.inr.inr.inr.inr.inl=>refine jt hin [.pattern,.expr] _ hk (by decide) (by decide) (by decide) ?_
 case' inr.inr.inr.inr.inr.inr.inr.inl=>refine jt hin [.one 28,.one 28] _ hk (by decide) (by decide) (by decide) ?_
 case' inr.inr.inr.inr.inr.inr.inr.inr.inl=>refine jt hin [.expr,.one 28,.one 28] _ hk (by decide) (by decide) (by decide) ?_
 case' inr.inr.inr.inr.inr.inr.inr.inr.inr.inl=>refine jt hin [.vM,.expr] _ hk (by decide) (by decide) (by decide) ?_
 case' inr.inr.inr.inr.inr.inr.inr.inr.inr.inr=>refine jt hin [.type,.expr] _ hk (by decide) (by decide) (by decide) ?_
 all_goals
  simp only[List.forall_mem_cons]
  repeat' refine And.intro ?_ ?_
  all_goals first
   |(intro x hx;cases hx;done)
   |(intro n i kd hi;rcases (show i=0∨i=1∨i=2 by simp only[List.length_cons,List.length_nil] at hi;omega) with rfl|rfl|rfl <;> first|(simp[qF,y5.at_,vT,yK,yY.is];done)|(simp at hi;done))
theorem js{l:List Nd}{x:Nd}(hin:KU l x)(hm:x.kids.length≤1999)(f:List yY)(s:yY)(least:Nat)(la:List yY)(ks:List Nat)(hk:x.kind∈ks)(h1:∀k∈ks,zP k=some ⟨f,some s,least,la⟩)(h2:∀k∈ks,k≠28∧k≠29∧k≠35)(h3:∀k∈ks,jH k=(f.length+la.length+least,2000))(h4:∀k∈ks,∀(n:Int) (m i kd:Nat),f.length+la.length+least≤m→i<m→qF ⟨f,some s,least,la⟩ m i kd=yK k n m i kd):xp l x=yd l x:=
 Jc hin _ ks hk h1 h2 (fun k hk=>by
  rw[h3 k hk,vW];generalize x.kids.length=m at *;rw[Bool.eq_iff_iff];simp;omega) (fun k hk hf i hi kd=>by
  rw[vW,decide_eq_true_eq] at hf;exact h4 k hk _ _ i kd hf hi)
theorem vL{l:List Nd}{x:Nd}(hin:KU l x)(hm:x.kids.length≤1999)(hk:x.kind∈[25]∨x.kind∈[70]∨x.kind∈[89]∨x.kind∈[26]∨x.kind∈[100]∨x.kind∈[101]):xp l x=yd l x:=by
 rcases hk with hk|hk|hk|hk|hk|hk
 case' inl=>refine js hin hm [] .expr 0 [] _ hk (by decide) (by decide) (by decide) ?_
 case' inr.inl=>refine js hin hm [] .pattern 0 [] _ hk (by decide) (by decide) (by decide) ?_
 case' inr.inr.inl=>refine js hin hm [] .type 0 [] _ hk (by decide) (by decide) (by decide) ?_
 case' inr.inr.inr.inl=>refine js hin hm [] (.one 27) 1 [] _ hk (by decide) (by decide) (by decide) ?_
 case' inr.inr.inr.inr.inl=>refine js hin hm [] (.one 88) 1 [] _ hk (by decide) (by decide) (by decide) ?_
 case' inr.inr.inr.inr.inr=>refine js hin hm [] (.one 89) 1 [] _ hk (by decide) (by decide) (by decide) ?_
 all_goals
  intro k hk n m i kd hfit hi;simp only[List.mem_cons,List.not_mem_nil,or_false] at hk;subst hk;unfold qF y5.at_;rw[if_neg (by simp),if_neg (by simp;omega)];simp[yK,yY.is]
theorem zcR{l:List Nd}{x:Nd}(hin:KU l x)(hm:x.kids.length≤1999)(hk:x.kind∈[24]):xp l x=yd l x:=
 js hin hm [.expr] .expr 0 [] _ hk (by decide) (by decide) (by decide) (fun k hk n m i kd hfit hi=>by
  simp only[List.mem_cons,List.not_mem_nil,or_false] at hk;subst hk;simp only[List.length_cons,List.length_nil] at hfit;unfold qF y5.at_;have hi3:i=0∨0<i:=by omega
  rcases hi3 with rfl|hi3
  ·simp[yK,yY.is]
  ·rw[if_neg (by simp;omega),if_neg (by simp;omega)];simp[yK,yY.is])
theorem zcQ{l:List Nd}{x:Nd}(hin:KU l x)(hm:x.kids.length≤1999)(hk:x.kind∈[31]):xp l x=yd l x:=
 js hin hm [.expr] (.one 32) 1 [] _ hk (by decide) (by decide) (by decide) (fun k hk n m i kd hfit hi=>by
  simp only[List.mem_cons,List.not_mem_nil,or_false] at hk;subst hk;simp only[List.length_cons,List.length_nil] at hfit;unfold qF y5.at_;have hi3:i=0∨0<i:=by omega
  rcases hi3 with rfl|hi3
  ·simp[yK,yY.is]
  ·rw[if_neg (by simp;omega),if_neg (by simp;omega)];have h0:i≠0:=by omega
   simp[yK,yY.is,h0,hi3])
theorem zcP{l:List Nd}{x:Nd}(hin:KU l x)(hm:x.kids.length≤1999)(hk:x.kind∈[85]):xp l x=yd l x:=
 js hin hm [] .type 0 [.type] _ hk (by decide) (by decide) (by decide) (fun k hk n m i kd hfit hi=>by
  simp only[List.mem_cons,List.not_mem_nil,or_false] at hk;subst hk;simp only[List.length_cons,List.length_nil] at hfit;unfold qF y5.at_;have hi3:i+1=m∨i+1<m:=by omega
  rcases hi3 with rfl|hi3
  ·simp[yK,yY.is]
  ·rw[if_neg (by simp),if_neg (by simp;omega)];simp[yK,yY.is])
theorem zaR{l:List Nd}{x:Nd}(hin:KU l x)(hm:x.kids.length≤1999)(hk:x.kind∈[103]):xp l x=yd l x:=
 js hin hm [] (.one 88) 0 [.type] _ hk (by decide) (by decide) (by decide) (fun k hk n m i kd hfit hi=>by
  simp only[List.mem_cons,List.not_mem_nil,or_false] at hk;subst hk;simp only[List.length_cons,List.length_nil] at hfit;unfold qF y5.at_;have hi3:i+1=m∨i+1<m:=by omega
  rcases hi3 with rfl|hi3
  ·simp[yK,yY.is]
  ·rw[if_neg (by simp),if_neg (by simp;omega)];have h0:i+1≠m:=by omega
   simp[yK,yY.is,h0,hi3])
theorem Jb{l:List Nd}{x:Nd}(hin:KU l x)(hm:x.kids.length≤1999)(hk:x.kind∈[33,102]):xp l x=yd l x:=
 js hin hm [] (.one 88) 0 [.type,.one 28] _ hk (by decide) (by decide) (by decide) (fun k hk n m i kd hfit hi=>by
  simp only[List.mem_cons,List.not_mem_nil,or_false] at hk;simp only[List.length_cons,List.length_nil] at hfit;unfold qF y5.at_;have hi3:i+1=m∨i+2=m∨i+2<m:=by omega
  rcases hi3 with rfl|rfl|hi3
  ·rw[if_neg (by simp),if_pos (by simp)];rcases hk with rfl|rfl <;> simp[yK,yY.is]
  ·rw[if_neg (by simp),if_pos (by simp)];rcases hk with rfl|rfl <;> simp[yK,yY.is]
  ·rw[if_neg (by simp),if_neg (by simp;omega)];have h0:i+1≠m:=by omega
   have h1:i+2≠m:=by omega
   rcases hk with rfl|rfl <;> simp[yK,yY.is,h0,h1,hi3])
theorem Yr:∀(l:List Int) (k:Int),l.getLast? =some k→l.getD (l.length-1) 0=k
 |[],k,h=>by cases h
 |[a],k,h=>by cases h;rfl
 |a :: b :: r,k,h=>by
  have h2:(b :: r).getLast? =some k:=by simpa using h
  have:=Yr (b :: r) k h2;simpa using this
theorem zd1{l:List Nd}{x:Nd}(hin:KU l x)(hm:x.kids.length≤1999)(hk:x.kind=28):xp l x=yd l x:=by
 unfold xp yd;have hs:zP x.kind=some ⟨[],some .stmt,0,[]⟩:=by rw[hk];rfl
 have hsp:xm l x=(x.n == 0 || (match x.kids.getLast? with|some k=>yy (zK l k)|none=>false)):=by
  unfold xm;rw[ug hin,hk];rfl
 rw[hs,hsp];simp only[vW,uu,hk];have hP:∀i,i<x.kids.length→∀kd,qF ⟨[],some .stmt,0,[]⟩ x.kids.length i kd=yY.stmt.is kd:=fun i hi kd=>by
  unfold qF y5.at_;rw[if_neg (by simp),if_neg (by simp;omega)]
 have hR:∀i kd,yK 28 x.n x.kids.length i kd=(yY.stmt.is kd && (decide (i+1<x.kids.length) || x.n == 0 || yy kd)):=fun i kd=>rfl
 rw[ja (fun i hi=>hP i hi _)];simp only[hR];have hb:y6 28=(0,1):=rfl;have hf:jH 28=(0,2000):=rfl;have hn:zz 28 x.n x.kids.length=(x.n == 0 || (x.n == 1 && decide (0<x.kids.length))):=rfl;have hkn:xV 28=true:=rfl;rw[hb,hf,hn,hkn];have e1:decide ((([]:List yY).length+([]:List yY).length+0)≤x.kids.length)=true:=by simp
 have e2:decide (x.kids.length≤2000)=true:=by rw[decide_eq_true_eq];omega
 rw[e1,e2];simp only[Nat.zero_le,decide_true,Bool.true_and,Bool.and_true];by_cases h0:x.n=0
 ·rw[h0];simp
 ·have h0':(x.n == 0)=false:=bfE h0
  by_cases h1:x.n=1
  ·have h1':(x.n == 1)=true:=by rw[beq_iff_eq];exact h1
   rw[h0',h1',h1];simp only[Bool.false_or,Bool.or_false,Bool.true_and];cases hl:x.kids.getLast? with
   |none=>
    rw[List.getLast?_eq_none_iff] at hl;rw[hl];simp
   |some k=>
    have hlen:0<x.kids.length:=by
     cases hh:x.kids with
     |nil=>rw[hh] at hl;cases hl
     |cons _ _=>simp
    have hd:=Yr _ _ hl;have e3:decide (0<x.kids.length)=true:=by rw[decide_eq_true_eq];exact hlen
    rw[e3];have key:((List.range x.kids.length).all fun i=>yY.stmt.is (zK l (x.kids.getD i 0)) && (decide (i+1<x.kids.length) || yy (zK l (x.kids.getD i 0))))=(yy (zK l k) && (List.range x.kids.length).all fun i=>yY.stmt.is (zK l (x.kids.getD i 0))):=by
     rw[Bool.eq_iff_iff,Bool.and_eq_true,List.all_eq_true,List.all_eq_true];constructor
     ·intro h;refine⟨?_,fun i hi=>?_⟩
      ·have:=h (x.kids.length-1) (List.mem_range.2 (by omega));rw[hd,Bool.and_eq_true,Bool.or_eq_true,decide_eq_true_eq] at this;rcases this.2 with h'|h'
       ·omega
       ·exact h'
      ·have:=h i hi;rw[Bool.and_eq_true] at this;exact this.1
     ·rintro ⟨h1,h2⟩ i hi;rw[Bool.and_eq_true,Bool.or_eq_true,decide_eq_true_eq];refine⟨h2 i hi,?_⟩;rcases Nat.lt_or_ge (i+1) x.kids.length with h'|h'
      ·exact .inl h'
      ·right;have hi':=List.mem_range.1 hi;have:i=x.kids.length-1:=by omega
       rw[this,hd];exact h1
    rw[key];dsimp only;generalize decide (0≤x.at_)=b;generalize decide (x.at_≤3000)=c;generalize qz x=d;generalize yy (zK l k)=e;generalize (List.range x.kids.length).all _=f;cases b <;> cases c <;> cases d <;> cases e <;> cases f <;> simp
  ·have h1':(x.n == 1)=false:=bfE h1
   have h2:(decide (0≤x.n) && decide (x.n≤1))=false:=by
    rw[Bool.and_eq_false_iff,decide_eq_false_iff_not,decide_eq_false_iff_not];omega
   rw[h0',h1',h2];simp
theorem zd0{l:List Nd}{x:Nd}(hin:KU l x)(hk:x.kind=29):xp l x=yd l x:=by
 unfold xp yd;have hs:zP x.kind=some ⟨[.expr,.one 28],some .els,0,[]⟩:=by rw[hk];rfl
 have hsp:xm l x=decide (x.kids.length≤3):=by
  unfold xm;rw[ug hin,hk];rfl
 rw[hs,hsp];simp only[vW,uu,hk];have hb:=uQ 29 x.n x.kids.length (by decide);have hf:jH 29=(2,3):=rfl;have hkn:xV 29=true:=rfl;have e1:decide (([yY.expr,yY.one 28].length+([]:List yY).length+0)≤x.kids.length)=decide (2≤x.kids.length):=rfl;rw[hb,hf,hkn,e1];simp only[Bool.true_and];by_cases h3:2≤x.kids.length∧x.kids.length≤3
 ·have hd:∀i,i<x.kids.length→∀kd,qF ⟨[.expr,.one 28],some .els,0,[]⟩ x.kids.length i kd=yK 29 x.n x.kids.length i kd:=fun i hi kd=>by
   have h4:x.kids.length=2∨x.kids.length=3:=by omega
   generalize x.kids.length=m at *;unfold qF y5.at_;rcases h4 with rfl|rfl
   ·have hi3:i=0∨i=1:=by omega
    rcases hi3 with rfl|rfl <;> simp[yK,yY.is]
   ·have hi3:i=0∨i=1∨i=2:=by omega
    rcases hi3 with rfl|rfl|rfl <;> simp[yK,yY.is]
  rw[ja (fun i hi=>hd i hi _)];have e4:decide (2≤x.kids.length)=true:=by rw[decide_eq_true_eq];exact h3.1
  have e5:decide (x.kids.length≤3)=true:=by rw[decide_eq_true_eq];exact h3.2
  rw[e4,e5];generalize zz 29 x.n x.kids.length=a;generalize decide (0≤x.at_)=b;generalize decide (x.at_≤3000)=c;generalize qz x=d;cases a <;> cases b <;> cases c <;> cases d <;> simp
 ·have e4:(decide (2≤x.kids.length) && decide (x.kids.length≤3))=false:=by
   rw[Bool.and_eq_false_iff,decide_eq_false_iff_not,decide_eq_false_iff_not];omega
  rw[Bool.and_eq_false_iff] at e4;rcases e4 with e|e
  ·rw[e];simp
  ·rw[e];simp
theorem zbx(p:Int→Bool)(l:List Int):decide (l.length≤l.findIdx p+1)=(List.range l.length).all fun i=>decide (i+1=l.length) || !p (l.getD i 0):=by
 rw[Bool.eq_iff_iff,decide_eq_true_eq,List.all_eq_true];constructor
 ·intro h i hi;have hi':=List.mem_range.1 hi;rw[Bool.or_eq_true,decide_eq_true_eq];rcases Nat.lt_or_ge (i+1) l.length with h'|h'
  ·right;have:=List.not_of_lt_findIdx (p:=p) (xs:=l) (i:=i) (by omega);rw[List.getD_eq_getElem?_getD,glE hi',Option.getD_some];simpa using this
  ·left;omega
 ·intro h;rcases Nat.lt_or_ge (l.findIdx p) l.length with h'|h'
  ·have h2:=h _ (List.mem_range.2 h');rw[Bool.or_eq_true,decide_eq_true_eq,List.getD_eq_getElem?_getD,glE h',Option.getD_some] at h2;rcases h2 with h2|h2
   ·omega
   ·have:=List.findIdx_getElem (p:=p) (xs:=l) (w:=h');rw[this] at h2;cases h2
  ·omega
theorem zdZ{l:List Nd}{x:Nd}(hin:KU l x)(hm:x.kids.length≤1999)(hk:x.kind=35):xp l x=yd l x:=by
 unfold xp yd;have hs:zP x.kind=some ⟨[],some .way,1,[]⟩:=by rw[hk];rfl
 have hsp:xm l x=decide (x.kids.length≤(x.kids.findIdx fun k=>zK l k == 65)+1):=by
  unfold xm;rw[ug hin,hk];rfl
 rw[hs,hsp,zbx];simp only[vW,uu,hk];have hb:=uQ 35 x.n x.kids.length (by decide);have hf:jH 35=(1,2000):=rfl;have hkn:xV 35=true:=rfl;have e1:decide ((([]:List yY).length+([]:List yY).length+1)≤x.kids.length)=decide (1≤x.kids.length):=by simp
 have e2:decide (x.kids.length≤2000)=true:=by rw[decide_eq_true_eq];omega
 have hP:∀i,i<x.kids.length→∀kd,qF ⟨[],some .way,1,[]⟩ x.kids.length i kd=yY.way.is kd:=fun i hi kd=>by
  unfold qF y5.at_;rw[if_neg (by simp),if_neg (by simp;omega)]
 have hR:∀i kd,yK 35 x.n x.kids.length i kd=(yY.way.is kd && (decide (i+1=x.kids.length) || !(kd == 65))):=fun i kd=>rfl
 rw[ja (fun i hi=>hP i hi _)];simp only[hR];rw[hb,hf,hkn,e1,e2];have key:((List.range x.kids.length).all fun i=>yY.way.is (zK l (x.kids.getD i 0)) && (decide (i+1=x.kids.length) || !(zK l (x.kids.getD i 0) == 65)))=(((List.range x.kids.length).all fun i=>decide (i+1=x.kids.length) || !(zK l (x.kids.getD i 0) == 65)) && (List.range x.kids.length).all fun i=>yY.way.is (zK l (x.kids.getD i 0))):=by
  rw[Bool.eq_iff_iff,Bool.and_eq_true,List.all_eq_true,List.all_eq_true,List.all_eq_true];constructor
  ·intro h;refine⟨fun i hi=>?_,fun i hi=>?_⟩
   ·have:=h i hi;rw[Bool.and_eq_true] at this;exact this.2
   ·have:=h i hi;rw[Bool.and_eq_true] at this;exact this.1
  ·rintro ⟨h1,h2⟩ i hi;rw[Bool.and_eq_true];exact⟨h2 i hi,h1 i hi⟩
 rw[key];generalize zz 35 x.n x.kids.length=a;generalize decide (0≤x.at_)=b;generalize decide (x.at_≤3000)=c;generalize qz x=d;generalize decide (1≤x.kids.length)=e;cases a <;> cases b <;> cases c <;> cases d <;> cases e <;> simp
theorem Vt{l:List Nd}{x:Nd}(hin:KU l x)(hm:x.kids.length≤1999):xp l x=yd l x:=by
 cases hk:xV x.kind with
 |false=>
  have hs:zP x.kind=none:=by
   have:=Xe x.kind;rw[hk] at this;cases h:zP x.kind with
   |none=>rfl
   |some _=>rw[h] at this;cases this
  unfold xp yd;rw[hs,hk];simp
 |true=>
  have h104:=vo hk;have hall:∀k,k≤104→xV k=true→k∈[1,2,3,4,5,44,45,46,80,81,82,83,84,66,67,68,69]∨k∈[6,7,23,27,37,38,39,42,43,47,50,51,60,61,65]∨k∈[40,86,87,88]∨k∈[41,48,63,8,9,10,11,12,13,14,15,16,17,18,19,20,21,22]∨k∈[49,64,30,32,34,36,62,104,25,70,89,26,100,101,24,31,85,103,33,102,28,29,35]:=by decide +kernel
  rcases hall _ h104 hk with h|h|h|h|h
  ·exact xu hin (.inl h)
  ·exact xu hin (.inr (.inl h))
  ·exact xu hin (.inr (.inr (.inl h)))
  ·exact xu hin (.inr (.inr (.inr (.inl h))))
  ·simp only[List.mem_cons,List.not_mem_nil,or_false] at h;rcases h with h|h|h|h|h|h|h|h|h|h|h|h|h|h|h|h|h|h|h|h|h|h|h
   ·exact xu hin (by rw[h];decide)
   ·exact xu hin (by rw[h];decide)
   ·exact xu hin (by rw[h];decide)
   ·exact xu hin (by rw[h];decide)
   ·exact xu hin (by rw[h];decide)
   ·exact xu hin (by rw[h];decide)
   ·exact xu hin (by rw[h];decide)
   ·exact xu hin (by rw[h];decide)
   ·exact vL hin hm (by rw[h];decide)
   ·exact vL hin hm (by rw[h];decide)
   ·exact vL hin hm (by rw[h];decide)
   ·exact vL hin hm (by rw[h];decide)
   ·exact vL hin hm (by rw[h];decide)
   ·exact vL hin hm (by rw[h];decide)
   ·exact zcR hin hm (by rw[h];decide)
   ·exact zcQ hin hm (by rw[h];decide)
   ·exact zcP hin hm (by rw[h];decide)
   ·exact zaR hin hm (by rw[h];decide)
   ·exact Jb hin hm (by rw[h];decide)
   ·exact Jb hin hm (by rw[h];decide)
   ·exact zd1 hin hm h
   ·exact zd0 hin h
   ·exact zdZ hin hm h
def Z2(out:List Nat):List Int→Int→Option Int
 |[],p=>some p
 |k :: r,p=>if p<0∨k≠p then none else Z2 out r (p-(out.getD p.toNat 0:Nat))
def xQ(l:List Nd):Nat→List Nat
 |0=>[]
 |i+1=>if (xQ l i).length<i then xQ l i else
  match Z2 (xQ l i) ((l[i]?).elim [] Nd.kids).reverse ((i:Int)-1) with
  |none=>xQ l i
  |some p=>xQ l i ++ [((i:Int)-p).toNat]
def QV(l:List Nd)(out:List Nat):List Int→Int→Option Int
 |[],p=>some p
 |k :: r,p=>if p<0∨k≠p∨yY.item.is (zK l p)=false then none else QV l out r (p-(out.getD p.toNat 0:Nat))
def vw(t:z6):Bool:= !decide ((xQ t.nodes t.nodes.length).length<t.nodes.length) && match QV t.nodes (xQ t.nodes t.nodes.length) t.items.reverse ((t.nodes.length:Int)-1) with
 |none=>false
 |some p=>t.nodes.all (yd t.nodes) && p == -1
theorem Z1(l:List Nd):∀i,(xQ l i).length≤i
 |0=>Nat.le_refl _
 |i+1=>by
  have:=Z1 l i;unfold xQ;split
  ·omega
  ·split
   ·omega
   ·rw[List.length_append,List.length_singleton];omega
theorem YI{out out':List Nat}:∀(rk:List Int) (p:Int),(∀j:Nat,(j:Int)≤p→out.getD j 0=out'.getD j 0)→Z2 out rk p=Z2 out' rk p
 |[],_,_=>rfl
 |k :: r,p,h=>by
  unfold Z2;by_cases hc:p<0∨k≠p
  ·rw[if_pos hc,if_pos hc]
  ·rw[if_neg hc,if_neg hc,h p.toNat (by omega)];exact YI r _ (fun j hj=>h j (by omega))
theorem Jy(l:List Nd){out out':List Nat}:∀(rk:List Int) (p:Int),(∀j:Nat,(j:Int)≤p→out.getD j 0=out'.getD j 0)→QV l out rk p=QV l out' rk p
 |[],_,_=>rfl
 |k :: r,p,h=>by
  unfold QV;by_cases hc:p<0∨k≠p∨yY.item.is (zK l p)=false
  ·rw[if_pos hc,if_pos hc]
  ·rw[if_neg hc,if_neg hc,h p.toNat (by omega)];exact Jy l r _ (fun j hj=>h j (by omega))
def xj(l:List Nd)(i:Nat):Prop:=(xQ l i).length=i
theorem JF(l:List Nd):xj l 0:=rfl
theorem JG{l:List Nd}{i:Nat}(h:xj l (i+1)):xj l i∧∃p,Z2 (xQ l i) ((l[i]?).elim [] Nd.kids).reverse ((i:Int)-1)=some p∧xQ l (i+1)=xQ l i ++ [((i:Int)-p).toNat]:=by
 have hl:=Z1 l i;unfold xj at h ⊢;unfold xQ at h;split at h
 ·omega
 ·have hi:(xQ l i).length=i:=by omega
  refine⟨hi,?_⟩;split at h
  ·omega
  ·rename_i p hp;refine⟨p,hp,?_⟩
   conv=>lhs;unfold xQ
   rw[if_neg (by omega),hp]
theorem zf1{l:List Nd}{i:Nat}{p:Int}(h:xj l i)(hp:Z2 (xQ l i) ((l[i]?).elim [] Nd.kids).reverse ((i:Int)-1)=some p):xj l (i+1)∧xQ l (i+1)=xQ l i ++ [((i:Int)-p).toNat]:=by
 have e:xQ l (i+1)=xQ l i ++ [((i:Int)-p).toNat]:=by
  unfold xj at h
  conv=>lhs;unfold xQ
  rw[if_neg (by omega),hp]
 refine⟨?_,e⟩;unfold xj at *;rw[e,List.length_append,h,List.length_singleton]
theorem XL{l:List Nd}{i:Nat}:∀{n:Nat},xj l n→i≤n→xj l i∧∀j,j<i→(xQ l n).getD j 0=(xQ l i).getD j 0
 |0,h,hi=>by
  have:i=0:=by omega
  subst this;exact⟨h,fun j hj=>absurd hj (Nat.not_lt_zero _)⟩
 |n+1,h,hi=>by
  by_cases e:i=n+1
  ·subst e;exact⟨h,fun _ _=>rfl⟩
  ·obtain⟨h1,p,_,he⟩:=JG h;obtain⟨h2,h3⟩:=XL h1 (by omega:i≤n);refine⟨h2,fun j hj=>?_⟩;rw[he,List.getD_eq_getElem?_getD,List.getElem?_append_left (by unfold xj at h1;omega),←List.getD_eq_getElem?_getD];exact h3 j hj
theorem Q9{out:List Nat}:∀(rk:List Int) (p e:Int),Z2 out rk p=some e→e≤p
 |[],p,e,h=>by cases h;exact Int.le_refl _
 |k :: r,p,e,h=>by
  unfold Z2 at h;split at h
  ·cases h
  ·have:=Q9 r _ e h;omega
theorem qq{l:List Nd}{n:Nat}(h:xj l n){i:Nat}(hi:i<n):∃p:Int,Z2 (xQ l n) ((l[i]?).elim [] Nd.kids).reverse ((i:Int)-1)=some p∧((xQ l n).getD i 0:Int)=i-p∧p<i:=by
 obtain⟨h1,h1e⟩:=XL h (by omega:i+1≤n);obtain⟨h2,p,hp,he⟩:=JG h1;have hb:=Q9 _ _ _ hp;refine⟨p,?_,?_,by omega⟩
 ·rw[YI (out':=xQ l i) _ _ (fun j hj=>?_)]
  ·exact hp
  ·rw[h1e j (by omega),he,List.getD_eq_getElem?_getD,List.getElem?_append_left (by unfold xj at h2;omega),←List.getD_eq_getElem?_getD]
 ·rw[h1e i (by omega),he,List.getD_eq_getElem?_getD,List.getElem?_append_right (by unfold xj at h2;omega)];have:i-(xQ l i).length=0:=by unfold xj at h2;omega
  rw[this];simp;omega
theorem zaK{h:y5}{m i kd:Nat}(hs:qF h m i kd=true):∃s,h.at_ i m=some s∧s.is kd=true:=by
 unfold qF at hs;cases ha:h.at_ i m with
 |none=>rw[ha] at hs;cases hs
 |some s=>rw[ha] at hs;exact⟨s,rfl,hs⟩
theorem Vx(k:Int)(r:List Int):(k :: r).reverse.getD r.length 0=k:=by
 rw[List.reverse_cons,List.getD_eq_getElem?_getD,List.getElem?_append_right (by simp)];simp
theorem Vy(k:Int)(r:List Int){p:Nat}(hp:p<r.length):(k :: r).reverse.getD p 0=r.reverse.getD p 0:=by
 rw[List.reverse_cons,List.getD_eq_getElem?_getD,List.getElem?_append_left (by simpa using hp),←List.getD_eq_getElem?_getD]
theorem zad{l:List Nd}(hF:xj l l.length)(hR:∀x∈l,xp l x=true):∀(i f:Nat) (s:yY),i<l.length→i<f→s.is (zK l i)=true→qd l f i i s=some ((i:Int)-((xQ l l.length).getD i 0:Nat))
 |i,0,s,_,hf,_=>absurd hf (Nat.not_lt_zero _)
 |i,f+1,s,hi,hf,hs=>by
  obtain⟨p,hp,hsz,hpi⟩:=qq hF hi;have hx:l[i]? =some l[i]:=glE hi;have hr:=hR l[i] (List.getElem_mem _);rw[hx] at hp;simp only[Option.elim] at hp;have hk:zK l i=l[i].kind:=by unfold zK;rw[Int.toNat_natCast,hx];rfl
  rw[hk] at hs;generalize l[i]=x at *;unfold xp at hr;cases hsh:zP x.kind with
  |none=>rw[hsh] at hr;cases hr
  |some h=>
   rw[hsh] at hr;simp only[Bool.and_eq_true,List.all_eq_true,List.mem_range] at hr;obtain⟨⟨⟨h1,h2⟩,h3⟩,h4⟩:=hr;have key:∀(rk:List Int) (next e:Int),next<i→Z2 (xQ l l.length) rk next=some e→(∀q,q<rk.length→qF h x.kids.length q (zK l (rk.reverse.getD q 0))=true)→vV (qd l f) h x.kids.length rk next=some e:=by
    intro rk;induction rk with
    |nil=>intro next e _ he _;exact he
    |cons k r ih=>
     intro next e hn he hq
     unfold Z2 at he;split at he
     ·cases he
     ·rename_i hc;have hk0:0≤next∧k=next:=by omega
      obtain⟨k',rfl⟩:=Int.eq_ofNat_of_zero_le hk0.1;have hsr:=hq r.length (by simp);rw[Vx,hk0.2] at hsr;obtain⟨sr,ha,hsr⟩:=zaK hsr;unfold vV;rw[ha,hk0.2];simp only;rw[zad hF hR k' f sr (by omega) (by omega) hsr,Option.bind_some];exact ih _ e (by omega) (by simpa using he) (fun q hq'=>by have:=hq q (by simp;omega);rwa [Vy k r hq'] at this)
   unfold qd;rw[if_neg (by omega),Int.toNat_natCast,hx];simp only[hsh];rw[if_pos (by rw[hs,h1,h2,h3];rfl),key _ _ p (by omega) hp (fun q hq=>by
    rw[List.reverse_reverse];exact h4 q (by simpa using hq)),hsz]
   congr 1;omega
termination_by i=>i
theorem zag{l:List Nd}(hF:xj l l.length)(hR:∀x∈l,xp l x=true):∀(rk:List Int) (next e:Int),next<l.length→QV l (xQ l l.length) rk next=some e→uX l rk next=some e
 |[],_,_,_,h=>h
 |k :: r,next,e,hn,h=>by
  unfold QV at h;split at h
  ·cases h
  ·rename_i hc;have hk0:0≤next∧k=next:=by omega
   obtain⟨k',rfl⟩:=Int.eq_ofNat_of_zero_le hk0.1;unfold uX;rw[hk0.2,zad hF hR k' _ .item (by omega) (by omega) (by
    cases hb:yY.item.is (zK l (k':Int)) with
    |true=>rfl
    |false=>exact absurd (.inr (.inr hb)) hc),Option.bind_some]
   exact zag hF hR r _ e (by omega) h
def QK(l:List Nd)(e i:Int):Prop:=∀j:Nat,e<j→(j:Int)≤i→∃x,l[j]? =some x∧xp l x=true
theorem QK.join{l:List Nd}{a b c:Int}(h:QK l a b)(k:QK l b c):QK l a c:=fun j h1 h2=>by
 by_cases e:(j:Int)≤b
 ·exact h j h1 e
 ·exact k j (by omega) h2
def YA(l:List Nd)(e:Int):Prop:=xj l (e+1).toNat
theorem zac{l:List Nd}:∀(f:Nat) (i num:Int) (s:yY) (e:Int),-1≤i→i<l.length→qd l f i num s=some e→num=i∧0≤i∧-1≤e∧e<i∧s.is (zK l i)=true∧(YA l e→YA l i∧((xQ l (i+1).toNat).getD i.toNat 0:Int)=i-e∧QK l e i)
 |0,_,_,_,_,_,_,h=>by cases h
 |f+1,i,num,s,e,hi,hl,h=>by
  unfold qd at h;split at h
  ·cases h
  ·rename_i hc;have hc2:0≤i∧num=i:=by omega
   obtain⟨rfl⟩:=hc2.2;obtain⟨i,rfl⟩:=Int.eq_ofNat_of_zero_le hc2.1;have hil:i<l.length:=by omega
   rw[Int.toNat_natCast,glE hil] at h;have hx:l[i]? =some l[i]:=glE hil;have hk:zK l i=l[i].kind:=by unfold zK;rw[Int.toNat_natCast,hx];rfl
   generalize l[i]=x at *;simp only at h;cases hsh:zP x.kind with
   |none=>rw[hsh] at h;cases h
   |some sh=>
    rw[hsh] at h;simp only at h;split at h
    ·rename_i hcond;simp only[Bool.and_eq_true] at hcond;obtain⟨⟨⟨hs,h1⟩,h2⟩,h3⟩:=hcond;have key:∀(rk:List Int) (next e:Int),-1≤next→next<l.length→vV (qd l f) sh x.kids.length rk next=some e→-1≤e∧e≤next∧(∀q,q<rk.length→qF sh x.kids.length q (zK l (rk.reverse.getD q 0))=true)∧(YA l e→YA l next∧Z2 (xQ l (next+1).toNat) rk next=some e∧QK l e next):=by
      intro rk;induction rk with
      |nil=>
       intro next e hn _ he
       cases he;exact⟨hn,Int.le_refl _,fun q hq=>absurd hq (Nat.not_lt_zero _),fun hf=>⟨hf,rfl,fun j h1 h2=>by omega⟩⟩
      |cons k r ih=>
       intro next e hn hnl he
       unfold vV at he;cases ha:sh.at_ r.length x.kids.length with
       |none=>rw[ha] at he;cases he
       |some sr=>
        rw[ha] at he;simp only at he;cases hg:qd l f next k sr with
        |none=>rw[hg] at he;cases he
        |some e1=>
         rw[hg,Option.bind_some] at he;obtain⟨hk1,hn0,he1,he2,hsr,hful⟩:=zac f next k sr e1 hn hnl hg
         obtain⟨i1,i2,i3,i4⟩:=ih e1 e he1 (by omega) he;refine⟨i1,by omega,fun q hq=>?_,fun hf=>?_⟩
         ·have hq2:q=r.length∨q<r.length:=by simp at hq;omega
          rcases hq2 with rfl|hq2
          ·rw[Vx,hk1];unfold qF;rw[ha];exact hsr
          ·rw[Vy k r hq2];exact i3 q hq2
         ·obtain⟨j1,j2,j3⟩:=i4 hf;obtain⟨k1,k2,k3⟩:=hful j1;refine⟨k1,?_,j3.join k3⟩;unfold Z2;rw[if_neg (by omega),k2,show next-(next-e1)=e1 by omega,←j2];exact YI _ _ (fun j hj=>(XL k1 (by omega:(e1+1).toNat≤(next+1).toNat)).2 j (by omega))
     obtain⟨a1,a2,a3,a4⟩:=key _ _ e (by omega) (by omega) h;refine⟨rfl,by omega,a1,by omega,by rw[hk];exact hs,fun hf=>?_⟩;obtain⟨b1,b2,b3⟩:=a4 hf;have hn1:((i:Int)-1+1).toNat=i:=by omega
     unfold YA at b1;rw[hn1] at b1 b2;have hu:=zf1 (p:=e) b1 (by rw[hx];exact b2);have hn2:((i:Int)+1).toNat=i+1:=by omega
     refine⟨by unfold YA;rw[hn2];exact hu.1,?_,?_⟩
     ·rw[hn2,Int.toNat_natCast,hu.2,List.getD_eq_getElem?_getD,List.getElem?_append_right (by unfold xj at b1;omega)];have:i-(xQ l i).length=0:=by unfold xj at b1;omega
      rw[this];simp;omega
     ·refine b3.join (fun j h1' h2'=>?_);have hj:j=i:=by omega
      subst hj;refine⟨x,hx,?_⟩;unfold xp;rw[hsh];simp only[Bool.and_eq_true,List.all_eq_true,List.mem_range];exact⟨⟨⟨h1,h2⟩,h3⟩,fun q hq=>by have:=a3 q (by simpa using hq);rwa [List.reverse_reverse] at this⟩
    ·cases h
theorem zaf{l:List Nd}:∀(rk:List Int) (next e:Int),-1≤next→next<l.length→uX l rk next=some e→-1≤e∧e≤next∧(YA l e→YA l next∧QV l (xQ l (next+1).toNat) rk next=some e∧QK l e next)
 |[],next,e,hn,_,h=>by
  cases h;exact⟨hn,Int.le_refl _,fun hf=>⟨hf,rfl,fun j h1 h2=>by omega⟩⟩
 |k :: r,next,e,hn,hnl,h=>by
  unfold uX at h;cases hg:qd l (l.length+1) next k .item with
  |none=>rw[hg] at h;cases h
  |some e1=>
   rw[hg,Option.bind_some] at h;obtain⟨hk1,hn0,he1,he2,hsr,hful⟩:=zac _ next k _ e1 hn hnl hg
   obtain⟨i1,i2,i4⟩:=zaf r e1 e he1 (by omega) h;refine⟨i1,by omega,fun hf=>?_⟩;obtain⟨j1,j2,j3⟩:=i4 hf;obtain⟨k1,k2,k3⟩:=hful j1;refine⟨k1,?_,j3.join k3⟩;unfold QV;rw[if_neg (by rw[hsr];simp;omega),k2,show next-(next-e1)=e1 by omega,←j2];exact Jy l _ _ (fun j hj=>(XL k1 (by omega:(e1+1).toNat≤(next+1).toNat)).2 j (by omega))
theorem XF{out:List Nat}:∀(rk:List Int) (p e:Int),Z2 out rk p=some e→∀k∈rk,0≤k∧k≤p
 |[],_,_,_,k,hk=>by cases hk
 |k :: r,p,e,h,j,hj=>by
  unfold Z2 at h;split at h
  ·cases h
  ·rcases List.mem_cons.1 hj with rfl|hj
   ·omega
   ·have:=XF r _ e h j hj;omega
theorem KD{l:List Nd}(h:xj l l.length){x:Nd}(hx:x∈l):KU l x:=by
 obtain⟨i,hi,rfl⟩:=List.mem_iff_getElem.1 hx;obtain⟨p,hp,_,_⟩:=qq h hi;rw[glE hi] at hp;intro k hk;have:=XF _ _ _ hp k (List.mem_reverse.2 hk);omega
theorem KF(t:z6)(hm:∀x∈t.nodes,x.kids.length≤1999):qJ t=vw t:=by
 rw[Bool.eq_iff_iff];constructor
 ·intro h;unfold qJ at h;cases hI:uX t.nodes t.items.reverse ((t.nodes.length:Int)-1) with
  |none=>rw[hI] at h;cases h
  |some e=>
   rw[hI] at h;simp only[decide_eq_true_eq] at h;obtain⟨h1,h2,h3⟩:=zaf _ _ e (by omega) (by omega) hI;have he:e= -1:=by omega
   subst he;obtain⟨h4,h5,h6⟩:=h3 (JF _);have hn:((t.nodes.length:Int)-1+1).toNat=t.nodes.length:=by omega
   unfold YA at h4;rw[hn] at h4 h5;have hall:t.nodes.all (yd t.nodes)=true:=by
    rw[List.all_eq_true];intro x hx;rw[←Vt (KD h4 hx) (hm x hx)];obtain⟨j,hj,rfl⟩:=List.mem_iff_getElem.1 hx;obtain⟨y,hy,hr⟩:=h6 j (by omega) (by omega);rw[glE hj] at hy;cases hy;exact hr
   unfold vw;rw[h5,hall];unfold xj at h4;rw[h4];simp
 ·intro h;unfold vw at h;rw[Bool.and_eq_true] at h;obtain⟨h1,h2⟩:=h;have hF:xj t.nodes t.nodes.length:=by
   have:=Z1 t.nodes t.nodes.length;unfold xj;simp at h1;omega
  cases hI:QV t.nodes (xQ t.nodes t.nodes.length) t.items.reverse ((t.nodes.length:Int)-1) with
  |none=>rw[hI] at h2;cases h2
  |some e=>
   rw[hI] at h2;simp only[Bool.and_eq_true,List.all_eq_true,beq_iff_eq] at h2;have hR:∀x∈t.nodes,xp t.nodes x=true:=fun x hx=>by rw[Vt (KD hF hx) (hm x hx)];exact h2.1 x hx
   have:=zag hF hR _ _ e (by omega) hI;unfold qJ;rw[this];simp only[decide_eq_true_eq];omega
def uY(l:List Nd):Nat→List Nat→Nat→Nat
 |0,_,most=>most
 |i+1,deep,most=>uY l i (xg (max 1 (deep.getD i 0)) ((l[i]?).elim [] Nd.kids) (deep.set i (max 1 (deep.getD i 0)))) (max most (max 1 (deep.getD i 0)))
def vY(t:z6):Nat:=uY t.nodes t.nodes.length (List.replicate t.nodes.length 0) 0
def uZ(l:List Nd)(x:Nd)(k:Nat):Nat:=x.kids.countP fun j=>zK l j == k
def kz(l:List Nd)(x:Nd):Bool:=
 if x.kind == 102 || x.kind == 103 || x.kind == 33 then decide (uZ l x 88≤6)
 else if x.kind == 85 || x.kind == 24 then decide (x.kids.length≤7)
 else if x.kind == 100 || x.kind == 26 then decide (x.kids.length≤6)
 else if x.kind == 101 then decide (x.kids.length≤8)
 else if x.kind == 89 || x.kind == 25 || x.kind == 70 || x.kind == 35 then decide (x.kids.length≤4)
 else if x.kind == 31 then decide (x.kids.length≤13)
 else if x.kind == 40 then decide (1≤x.n) && decide (x.n≤8)
 else true
def yR(t:z6):Nat:=
 if 1000<t.nodes.length∨40<t.items.length then 5
 else if !vw t then 4
 else if 40<vY t then 5
 else if t.nodes.any fun x=> !kz t.nodes x then 3
 else 0
def zja(t:z6):Prop:=∀j:Nat,j<t.nodes.length→(j:Int)∈t.items∨∃i,j<i∧∃x,t.nodes[i]? =some x∧(j:Int)∈x.kids
theorem Q8{out:List Nat}:∀(rk:List Int) (p e:Int),Z2 out rk p=some e→∀j:Nat,e<j→(j:Int)≤p→∃k:Nat,(k:Int)∈rk∧(k:Int)≤p∧j≤k∧(k:Int)-(out.getD k 0:Nat)<j
 |[],p,e,h,j,h1,h2=>by cases h;omega
 |k :: r,p,e,h,j,h1,h2=>by
  unfold Z2 at h;split at h
  ·cases h
  ·rename_i hc;have hk0:0≤p∧k=p:=by omega
   obtain⟨q,rfl⟩:=Int.eq_ofNat_of_zero_le hk0.1;rw[Int.toNat_natCast] at h;by_cases hj:(q:Int)-(out.getD q 0:Nat)<j
   ·exact⟨q,by rw[hk0.2];exact List.mem_cons_self ..,Int.le_refl _,by omega,hj⟩
   ·obtain⟨k2,a,b,c,d⟩:=Q8 r _ e h j h1 (by omega);exact⟨k2,List.mem_cons_of_mem _ a,by omega,c,d⟩
theorem Jw(l:List Nd){out:List Nat}:∀(rk:List Int) (p e:Int),QV l out rk p=some e→∀j:Nat,e<j→(j:Int)≤p→∃k:Nat,(k:Int)∈rk∧(k:Int)≤p∧j≤k∧(k:Int)-(out.getD k 0:Nat)<j
 |[],p,e,h,j,h1,h2=>by cases h;omega
 |k :: r,p,e,h,j,h1,h2=>by
  unfold QV at h;split at h
  ·cases h
  ·rename_i hc;have hk0:0≤p∧k=p:=by omega
   obtain⟨q,rfl⟩:=Int.eq_ofNat_of_zero_le hk0.1;rw[Int.toNat_natCast] at h;by_cases hj:(q:Int)-(out.getD q 0:Nat)<j
   ·exact⟨q,by rw[hk0.2];exact List.mem_cons_self ..,Int.le_refl _,by omega,hj⟩
   ·obtain⟨k2,a,b,c,d⟩:=Jw l r _ e h j h1 (by omega);exact⟨k2,List.mem_cons_of_mem _ a,by omega,c,d⟩
theorem Ve{l:List Nd}(hF:xj l l.length):∀(i j:Nat),i<l.length→j<i→(i:Int)-((xQ l l.length).getD i 0:Nat)<j→∃i',j<i'∧∃x,l[i']? =some x∧(j:Int)∈x.kids
 |i,j,hi,hj,h=>by
  obtain⟨p,hp,hsz,hpi⟩:=qq hF hi;obtain⟨k,hk,hkp,hjk,hlt⟩:=Q8 _ _ p hp j (by omega) (by omega);have hx:l[i]? =some l[i]:=glE hi;rw[hx] at hk;simp only[Option.elim,List.mem_reverse] at hk;by_cases e:j=k
  ·subst e;exact⟨i,hj,l[i],hx,hk⟩
  ·exact Ve hF k j (by omega) (by omega) hlt
termination_by i=>i
theorem zfZ{t:z6}(hF:xj t.nodes t.nodes.length)(hI:QV t.nodes (xQ t.nodes t.nodes.length) t.items.reverse ((t.nodes.length:Int)-1)=some (-1)):zja t:=fun j hj=>by
 obtain⟨k,hk,hkp,hjk,hlt⟩:=Jw _ _ _ _ hI j (by omega) (by omega);by_cases e:j=k
 ·subst e;exact .inl (List.mem_reverse.1 hk)
 ·exact .inr (Ve hF k j (by omega) (by omega) hlt)
theorem kV(l:List Nat)(i j v:Nat):(l.set i v).getD j 0=if i=j∧j<l.length then v else l.getD j 0:=by
 rw[List.getD_eq_getElem?_getD,List.getElem?_set,List.getD_eq_getElem?_getD];by_cases e:i=j
 ·subst e;by_cases h:i<l.length
  ·simp[h]
  ·simp[h]
 ·simp[e]
structure zjb(t:z6)(i:Nat)(P R:List Nat):Prop where
 lp:P.length=t.nodes.length
 lr:R.length=t.nodes.length
 eq:∀j,j<i→(R.getD j 0=0∧P.getD j 0=(if (j:Int)∈t.items then 1 else 0))∨(1≤R.getD j 0∧P.getD j 0=R.getD j 0)
 got:∀i' x,i≤i'→t.nodes[i']? =some x→∀j:Nat,(j:Int)∈x.kids→j<i→1≤R.getD j 0
theorem uy(d:Nat):∀(k:List Int) (l:List Nat),(xg d k l).length=l.length
 |[],l=>rfl
 |a :: r,l=>by unfold xg;rw[uy d r,List.length_set]
theorem kI(d:Nat):∀(k:List Int) (l:List Nat) (j:Nat),j<l.length→(xg d k l).getD j 0=if (∃a∈k,a.toNat=j) then d+1 else l.getD j 0
 |[],l,j,_=>by simp[xg]
 |a :: r,l,j,h=>by
  unfold xg;rw[kI d r _ j (by rw[List.length_set];exact h),kV];by_cases e:a.toNat=j
  ·by_cases e2:∃b∈r,b.toNat=j
   ·rw[if_pos e2,if_pos (by obtain⟨b,hb,hbj⟩:=e2;exact⟨b,List.mem_cons_of_mem _ hb,hbj⟩)]
   ·rw[if_neg e2,if_pos ⟨e,h⟩,if_pos ⟨a,List.mem_cons_self ..,e⟩]
  ·by_cases e2:∃b∈r,b.toNat=j
   ·rw[if_pos e2,if_pos (by obtain⟨b,hb,hbj⟩:=e2;exact⟨b,List.mem_cons_of_mem _ hb,hbj⟩)]
   ·rw[if_neg e2,if_neg (fun h'=>e h'.1),if_neg (by
     rintro ⟨b,hb,hbj⟩;rcases List.mem_cons.1 hb with rfl|hb
     ·exact e hbj
     ·exact e2 ⟨b,hb,hbj⟩)]
theorem zcl{t:z6}(hH:zja t):∀(i:Nat) (P R:List Nat) (most:Nat),i≤t.nodes.length→zjb t i P R→ZB t.nodes i P most=uY t.nodes i R most
 |0,_,_,_,_,_=>rfl
 |i+1,P,R,most,hi,D=>by
  have hil:i<t.nodes.length:=by omega
  have hx:t.nodes[i]? =some t.nodes[i]:=glE hil;have hd:P.getD i 0=max 1 (R.getD i 0):=by
   rcases D.eq i (by omega) with⟨h1,h2⟩|⟨h1,h2⟩
   ·rcases hH i hil with hh|⟨i',hlt,x,hx',hm⟩
    ·rw[h2,if_pos hh,h1];rfl
    ·have:=D.got i' x (by omega) hx' i hm (by omega);omega
   ·rw[h2];omega
  unfold ZB uY;rw[hx,←hd];simp only[Option.elim];generalize t.nodes[i]=x at *;refine zcl hH i _ _ _ (by omega) ⟨by rw[uy,D.lp],by rw[uy,List.length_set,D.lr],fun j hj=>?_,fun i' y hi' hy j hjm hji=>?_⟩
  ·rw[kI _ _ _ j (by first|(rw[D.lp];omega)|(rw[List.length_set,D.lr];omega)),kI _ _ _ j (by first|(rw[D.lp];omega)|(rw[List.length_set,D.lr];omega))];by_cases e:∃a∈x.kids,a.toNat=j
   ·rw[if_pos e,if_pos e];exact .inr ⟨by omega,rfl⟩
   ·rw[if_neg e,if_neg e,kV,if_neg (by omega)];exact D.eq j (by omega)
  ·rw[kI _ _ _ j (by rw[List.length_set,D.lr];omega)];by_cases e:∃a∈x.kids,a.toNat=j
   ·rw[if_pos e];omega
   ·rw[if_neg e,kV,if_neg (by omega)];have hii:i'≠i:=fun e2=>by
     subst e2;rw[hx] at hy;cases hy;exact e ⟨(j:Int),hjm,by simp⟩
    exact D.got i' y (by omega) hy j hjm (by omega)
theorem Jv(n:Nat):∀(l:List Int) (d:List Nat) (j:Nat),j<d.length→(l.foldl (fun (d:List Nat) k=>d.set k.toNat 1) d).getD j 0=if (∃a∈l,a.toNat=j) then 1 else d.getD j 0
 |[],d,j,_=>by simp
 |a :: r,d,j,h=>by
  rw[List.foldl_cons,Jv n r _ j (by rw[List.length_set];exact h),kV];by_cases e:a.toNat=j
  ·by_cases e2:∃b∈r,b.toNat=j
   ·rw[if_pos e2,if_pos (by obtain⟨b,hb,hbj⟩:=e2;exact⟨b,List.mem_cons_of_mem _ hb,hbj⟩)]
   ·rw[if_neg e2,if_pos ⟨e,h⟩,if_pos ⟨a,List.mem_cons_self ..,e⟩]
  ·by_cases e2:∃b∈r,b.toNat=j
   ·rw[if_pos e2,if_pos (by obtain⟨b,hb,hbj⟩:=e2;exact⟨b,List.mem_cons_of_mem _ hb,hbj⟩)]
   ·rw[if_neg e2,if_neg (fun h'=>e h'.1),if_neg (by
     rintro ⟨b,hb,hbj⟩;rcases List.mem_cons.1 hb with rfl|hb
     ·exact e hbj
     ·exact e2 ⟨b,hb,hbj⟩)]
theorem Ju:∀(l:List Int) (d:List Nat),(l.foldl (fun (d:List Nat) k=>d.set k.toNat 1) d).length=d.length
 |[],d=>rfl
 |a :: r,d=>by rw[List.foldl_cons,Ju r,List.length_set]
theorem KA(l:List Nd){out:List Nat}:∀(rk:List Int) (p e:Int),QV l out rk p=some e→∀k∈rk,0≤k∧k≤p
 |[],_,_,_,k,hk=>by cases hk
 |k :: r,p,e,h,j,hj=>by
  unfold QV at h;split at h
  ·cases h
  ·rcases List.mem_cons.1 hj with rfl|hj
   ·omega
   ·have:=KA l r _ e h j hj;omega
theorem zbz{t:z6}(hF:xj t.nodes t.nodes.length)(hI:QV t.nodes (xQ t.nodes t.nodes.length) t.items.reverse ((t.nodes.length:Int)-1)=some (-1)):jC t=vY t:=by
 unfold jC vY;refine zcl (zfZ hF hI) _ _ _ _ (Nat.le_refl _) ⟨by rw[Ju,List.length_replicate],List.length_replicate,fun j hj=>.inl ⟨?_,?_⟩,fun i' x hi' hx j hm hj=>?_⟩
 ·simp[List.getD_eq_getElem?_getD,hj]
 ·rw[Jv t.nodes.length _ _ j (by rw[List.length_replicate];exact hj)];have e0:(List.replicate t.nodes.length 0).getD j 0=0:=by simp[List.getD_eq_getElem?_getD,hj]
  rw[e0];have hiff:(∃a∈t.items,a.toNat=j)↔(j:Int)∈t.items:=by
   constructor
   ·rintro ⟨a,ha,rfl⟩;have:=KA _ _ _ _ hI a (List.mem_reverse.2 ha);rw[Int.toNat_of_nonneg this.1];exact ha
   ·exact fun h=>⟨_,h,by simp⟩
  by_cases h:(j:Int)∈t.items
  ·rw[if_pos (hiff.2 h),if_pos h]
  ·rw[if_neg (fun h'=>h (hiff.1 h')),if_neg h]
 ·have:=(gtL hx);omega
theorem zbA(p:Int→Bool)(l:List Int)(h:∀x∈l,p x=true):l.countP p=l.length:=List.countP_eq_length.2 h
theorem zdn(p:Int→Bool)(l:List Int)(h:∀x∈l,p x=false):l.countP p=0:=List.countP_eq_zero.2 (fun x hx=>by rw[h x hx];decide)
theorem Xw(l:List Nd)(x:Nd)(c:Nat)(hc:c≤x.kids.length)(h1:∀i,i+c<x.kids.length→zK l (x.kids.getD i 0)=88)(h2:∀i,x.kids.length≤i+c→i<x.kids.length→zK l (x.kids.getD i 0)≠88):uZ l x 88=x.kids.length-c:=by
 unfold uZ;rw[←List.take_append_drop (x.kids.length-c) x.kids,List.countP_append,zbA,zdn]
 ·simp
 ·intro k hk;obtain⟨i,hi,rfl⟩:=List.mem_iff_getElem.1 hk;rw[List.length_drop] at hi;rw[List.getElem_drop];have:=h2 (x.kids.length-c+i) (by omega) (by omega);rw[List.getD_eq_getElem?_getD,glE (by omega),Option.getD_some] at this;rw[beq_eq_false_iff_ne];exact this
 ·intro k hk;obtain⟨i,hi,rfl⟩:=List.mem_iff_getElem.1 hk;rw[List.length_take] at hi;rw[List.getElem_take];have:=h1 i (by omega);rw[List.getD_eq_getElem?_getD,glE (by omega),Option.getD_some] at this;rw[beq_iff_eq];exact this
theorem zdP{l:List Nd}{x:Nd}(hr:yd l x=true)(hm:x.kids.length≤1000):xx x=kz l x:=by
 unfold yd at hr;simp only[Bool.and_eq_true,List.all_eq_true,List.mem_range,decide_eq_true_eq] at hr;obtain⟨⟨⟨⟨⟨⟨⟨_,hlo⟩,_⟩,_⟩,_⟩,_⟩,_⟩,hs⟩:=hr;have hfun:(x.kind=102∨x.kind=33)→uZ l x 88=x.kids.length-2∧2≤x.kids.length:=fun hk=>by
  have h2:2≤x.kids.length:=by rcases hk with hk|hk <;> (rw[hk] at hlo;exact hlo)
  have hs':∀i,i<x.kids.length→((decide (i+2<x.kids.length) && zK l (x.kids.getD i 0) == 88) || (decide (i+2=x.kids.length) && yY.type.is (zK l (x.kids.getD i 0))) || (decide (i+1=x.kids.length) && zK l (x.kids.getD i 0) == 28))=true:=fun i hi=>by
   have:=hs i hi;rcases hk with hk|hk <;> (rw[hk] at this;exact this)
  refine⟨Xw l x 2 h2 (fun i hi=>?_) (fun i h3 h4=>?_),h2⟩
  ·have:=hs' i (by omega);simp only[Bool.or_eq_true,Bool.and_eq_true,decide_eq_true_eq,beq_iff_eq] at this;omega
  ·have:=hs' i h4;simp only[Bool.or_eq_true,Bool.and_eq_true,decide_eq_true_eq,beq_iff_eq,yY.is] at this;omega
 have hext:x.kind=103→uZ l x 88=x.kids.length-1∧1≤x.kids.length:=fun hk=>by
  have h2:1≤x.kids.length:=by rw[hk] at hlo;exact hlo
  have hs':∀i,i<x.kids.length→((decide (i+1<x.kids.length) && zK l (x.kids.getD i 0) == 88) || (decide (i+1=x.kids.length) && yY.type.is (zK l (x.kids.getD i 0))))=true:=fun i hi=>by
   have:=hs i hi;rw[hk] at this;exact this
  refine⟨Xw l x 1 h2 (fun i hi=>?_) (fun i h3 h4=>?_),h2⟩
  ·have:=hs' i (by omega);simp only[Bool.or_eq_true,Bool.and_eq_true,decide_eq_true_eq,beq_iff_eq] at this;omega
  ·have:=hs' i h4;simp only[Bool.or_eq_true,Bool.and_eq_true,decide_eq_true_eq,beq_iff_eq,yY.is] at this;omega
 have h1000:decide (x.kids.length≤1000)=true:=by rw[decide_eq_true_eq];exact hm
 unfold xx kz qG;generalize hkk:x.kind=k at *;by_cases e1:k=102
 ·subst e1;obtain⟨a,b⟩:=hfun (.inl rfl);simp[a]
 by_cases e2:k=33
 ·subst e2;obtain⟨a,b⟩:=hfun (.inr rfl);simp[a]
 by_cases e3:k=103
 ·subst e3;obtain⟨a,b⟩:=hext rfl;simp[a]
 by_cases e4:k=85
 ·subst e4;simp
 by_cases e5:k=24
 ·subst e5;simp
 by_cases e6:k=100
 ·subst e6;simp
 by_cases e7:k=26
 ·subst e7;simp
 by_cases e8:k=101
 ·subst e8;simp
 by_cases e9:k=89
 ·subst e9;simp
 by_cases e10:k=25
 ·subst e10;simp
 by_cases e11:k=70
 ·subst e11;simp
 by_cases e12:k=35
 ·subst e12;simp
 by_cases e13:k=31
 ·subst e13;simp
 by_cases e14:k=40
 ·subst e14;simp
 simp[e1,e2,e3,e4,e5,e6,e7,e8,e9,e10,e11,e12,e13,e14,hm]
theorem vU{t:z6}(h:vw t=true):xj t.nodes t.nodes.length∧QV t.nodes (xQ t.nodes t.nodes.length) t.items.reverse ((t.nodes.length:Int)-1)=some (-1)∧∀x∈t.nodes,yd t.nodes x=true:=by
 unfold vw at h;rw[Bool.and_eq_true] at h;obtain⟨h1,h2⟩:=h;have hF:xj t.nodes t.nodes.length:=by
  have:=Z1 t.nodes t.nodes.length;unfold xj;simp at h1;omega
 cases hI:QV t.nodes (xQ t.nodes t.nodes.length) t.items.reverse ((t.nodes.length:Int)-1) with
 |none=>rw[hI] at h2;cases h2
 |some e=>
  rw[hI] at h2;simp only[Bool.and_eq_true,List.all_eq_true,beq_iff_eq] at h2;exact⟨hF,by rw[h2.2],h2.1⟩
theorem kY(t:z6)(hm:∀x∈t.nodes,x.kids.length≤1000):yB t=yR t:=by
 unfold yB yR;rw[KF t (fun x hx=>by have:=hm x hx;omega)];cases hf:vw t with
 |false=>rfl
 |true=>
  obtain⟨hF,hI,hR⟩:=vU hf;rw[zbz hF hI];have:(t.nodes.any fun x=> !xx x)=t.nodes.any fun x=> !kz t.nodes x:=by
   rw[Bool.eq_iff_iff,List.any_eq_true,List.any_eq_true];constructor <;> (rintro ⟨x,hx,h⟩;refine⟨x,hx,?_⟩;have e:=zdP (hR x hx) (hm x hx);first|(rw[e] at h;exact h)|(rw[e];exact h))
  rw[this]
end Lode
