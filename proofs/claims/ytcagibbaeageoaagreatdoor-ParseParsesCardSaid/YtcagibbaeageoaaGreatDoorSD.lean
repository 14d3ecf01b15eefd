import Derived.Test.YtcagibbaeageoaaGreatDoorSC
set_option maxRecDepth 100000
set_option maxHeartbeats 0
set_option linter.all false
variable{α β:Type}{a d d0 e:Int}{i k m:Nat}{x:List UInt8}{b:Bool}{p:Prop}{w:List (List UInt8)}{t:Lode.yO}{q:Nat->Bool}
namespace Lode
structure Nd where
 kind:Nat
 text:List UInt8
 n:Int
 kz:List Int
 at_:Int
 deriving DecidableEq
structure yx where
 nz:List Nd
 iz:List Int
 next:Nat
structure zr where
 tz:List yO
 len:Nat
inductive qK (α:Type) where
 |ok (a:α) (s:yx):qK α
 |bad (p:Int):qK α
def PM(α:Type):Type:=zr->yx->qK α
def PM.ret(a:α):PM α:=λ_ s=>.ok a s
def PM.bind(m:PM α)(f:α->PM β):PM β:=λE s=>match m E s with
 | .ok a s'=>f a E s'
 | .bad p=>.bad p
instance:Monad PM where
 pure:=PM.ret
 bind:=PM.bind
def zw(E:zr)(s:yx):yO:=(E.tz[s.next]?).getD ⟨0,[],E.len⟩
def YU:PM yO:=λE s=>.ok (zw E s) s
def zgV:PM α:=λE s=>.bad (zw E s).at_
def xO(t:yO)(l:List (List UInt8)):Bool:=(t.kind == 5 || t.kind == 6) && l.contains t.text
def YA(l:List (List UInt8)):PM Bool:=λE s=>.ok (xO (zw E s) l) s
def jH:PM Unit:=λ_ s=>.ok () {s with next:=s.next+1}
def Zd:PM yO:=λE s=>.ok (zw E s) {s with next:=s.next+1}
def zC(x:List UInt8):PM yO:=λE s=>if xO (zw E s) [x] then .ok (zw E s) {s with next:=s.next+1} else .bad (zw E s).at_
def xp(k:Nat):PM yO:=λE s=>if (zw E s).kind == k then .ok (zw E s) {s with next:=s.next+1} else .bad (zw E s).at_
def yo(x:List UInt8):PM Bool:=λE s=>if xO (zw E s) [x] then .ok true {s with next:=s.next+1} else .ok false s
def zT(kind:Nat)(text:List UInt8)(n at_:Int)(kids:List Int):PM Int:=λ_ s=>.ok s.nz.length {s with nz:=s.nz ++ [⟨kind,text,n,kids,at_⟩]}
def zdQ(k:Int):PM Nat:=λ_ s=>.ok ((s.nz[k.toNat]?).elim 0 Nd.kind) s
def jI:Nat->PM Int->List Int->PM (List Int)
 |0,_,_=>λ_ _=>.bad 0
 |k+1,part,acc=>do
  let x <-part
  if <-yo [44] then jI k part (acc ++ [x]) else pure (acc ++ [x])
def jW(part:PM Int):PM (List Int):=λE s=>jI (E.tz.length+1) part [] E s
def qB(part:PM Int):PM (List Int):=do
 let _ <-zC [123]
 let l <-jW part
 let _ <-zC [125]
 pure l
def jd(part:PM Int):PM (List Int):=do
 if <-yo [40] then
  let l <-jW part
  let _ <-zC [41]
  pure l
 else pure []
structure qi where
 expr:PM Int
 unary:PM Int
 bin2:PM Int
 block:PM Int
 branch:PM Int
 kind:PM Int
 pattern:PM Int
def ka(R:qi):PM Int:=do
 let t <-xp 1
 let _ <-zC [58]
 let k <-R.kind
 zT 88 t.text 0 t.at_ [k]
def Yz(R:qi):PM Int:=do
 let t <-xp 2
 let l <-jd R.kind
 zT 89 t.text 0 t.at_ l
def Zh(R:qi):PM (List Int):=do
 let _ <-zC [40]
 let l <-(do if <-YA [[41]] then pure [] else jW (ka R):PM (List Int))
 let _ <-zC [41]
 let _ <-zC [58]
 let k <-R.kind
 pure (l ++ [k])
def YB(R:qi):PM Int:=do
 let t <-YU
 if t.kind == 2 then
  jH
  zT 84 t.text 0 t.at_ []
 else if <-yo [105,110,116] then zT 80 [] 0 t.at_ []
 else if <-yo [98,111,111,108] then zT 81 [] 0 t.at_ []
 else if <-yo [116,101,120,116] then zT 82 [] 0 t.at_ []
 else if <-yo [117,110,105,116] then zT 83 [] 0 t.at_ []
 else if <-yo [99,104,97,110] then
  let k <-R.kind
  zT 86 [] 0 t.at_ [k]
 else if <-yo [119,101,97,107] then
  let k <-R.kind
  zT 87 [] 0 t.at_ [k]
 else
  let _ <-zC [102,110]
  let _ <-zC [40]
  let l <-(do if <-YA [[41]] then pure [] else jW R.kind:PM (List Int))
  let _ <-zC [41]
  let _ <-zC [58]
  let k <-R.kind
  zT 85 [] 0 t.at_ (l ++ [k])
def Ze(R:qi):PM (Int×Bool):=do
 let t <-YU
 if <-yo [108,101,116] then
  let m <-xp 1
  let _ <-zC [61]
  let x <-R.expr
  let r <-zT 60 m.text 0 t.at_ [x]
  pure (r,false)
 else if <-yo [118,97,114] then
  let m <-xp 1
  let _ <-zC [61]
  let x <-R.expr
  let r <-zT 61 m.text 0 t.at_ [x]
  pure (r,false)
 else
  let left <-R.expr
  if <-YA [[58,61]] then
   let k <-zdQ left
   if k == 5 || k == 23 then
    let u <-Zd
    let x <-R.expr
    let r <-zT 62 [] 0 u.at_ [left,x]
    pure (r,false)
   else zgV
  else pure (left,true)
def qq(R:qi):Nat->List Int->PM (List Int×Int)
 |0,_=>λ_ _=>.bad 0
 |k+1,acc=>do
  if <-YA [[125]] then pure (acc,0)
  else
   let x <-Ze R
   if x.2 && (<-YA [[125]]) then pure (acc ++ [x.1],1)
   else
    let _ <-zC [59]
    qq R k (acc ++ [x.1])
def vP(R:qi):PM Int:=do
 let t <-zC [123]
 let x <-(λE s=>qq R (E.tz.length+1) [] E s:PM (List Int×Int))
 let _ <-zC [125]
 zT 28 [] x.2 t.at_ x.1
def yD:Nat->List (List UInt8)
 |0=>[[111,114]]
 |1=>[[97,110,100]]
 |2=>[[61,61],[33,61],[60],[60,61],[62],[62,61],[105,115]]
 |3=>[[43],[45],[43,43]]
 |_=>[[42],[47],[37]]
def qv:Nat->List Nat
 |0=>[22]
 |1=>[21]
 |2=>[14,15,16,17,18,19,20]
 |3=>[8,9,10]
 |_=>[11,12,13]
def YX(at_:Nat)(t:List UInt8):Nat:=(qv at_).getD ((yD at_).idxOf t) 0
def YE(at_:Nat)(tight:PM Int):Nat->Int->PM Int
 |0,_=>λ_ _=>.bad 0
 |k+1,left=>do
  if <-YA (yD at_) then
   let t <-Zd
   let r <-tight
   let x <-zT (YX at_ t.text) [] 0 t.at_ [left,r]
   if at_ == 2 then pure x else YE at_ tight k x
  else pure left
def Zp(at_:Nat)(tight:PM Int):PM Int:=do
 let left <-tight
 (λE s=>YE at_ tight (E.tz.length+1) left E s:PM Int)
def zN:List (List UInt8×Nat×Int):=[([105,110],44,0),([121,105,101,108,100],45,0),([99,111,108,108,101,99,116],46,0),([115,101,110,100],41,2),([114,101,99,118],42,1),([111,117,116],43,1),([115,105,122,101],47,1),([115,104,111,119],50,1),([114,101,97,100],51,1),([98,121,116,101],48,2),([99,117,116],49,3),([116,104,114,111,119],37,-1),([115,112,97,119,110],38,-1),([119,101,97,107],39,-1)]
def xB(s:List UInt8):Option (Nat×Int):=(zN.find? λw=>w.1 == s).map (·.2)
def qP(R:qi):Nat->Bool->List Int->PM (List Int)
 |0,_,acc=>pure acc
 |k+1,first,acc=>do
  let _ <-(do if first then pure () else (do let _ <-zC [44];pure ()):PM Unit)
  let x <-R.expr
  qP R k false (acc ++ [x])
def vn(R:qi)(t:yO)(w:Nat×Int):PM Int:=do
 let kids <-(do
  if w.2<0 then
   let x <-R.unary
   pure [x]
  else if 0<w.2 then
   let _ <-zC [40]
   let l <-qP R w.2.toNat true []
   let _ <-zC [41]
   pure l
  else pure []:PM (List Int))
 zT w.1 [] 0 t.at_ kids
def ZX(t:yO):Int:=ym t.text
def KD(R:qi):PM Int:=do
 let t <-xp 1
 let _ <-zC [58]
 let x <-R.expr
 zT 27 t.text 0 t.at_ [x]
def KF(R:qi):PM Int:=do
 let p <-R.pattern
 let t <-zC [61,62]
 let x <-R.expr
 zT 32 [] 0 t.at_ [p,x]
def uj(R:qi):Nat->List Int->PM (List Int)
 |0,_=>λ_ _=>.bad 0
 |k+1,acc=>do
  let t <-YU
  if <-yo [114,101,99,118] then
   let x <-R.expr
   let _ <-zC [97,115]
   let m <-xp 1
   let _ <-zC [61,62]
   let y <-R.expr
   let r <-zT 63 m.text 0 t.at_ [x,y]
   if <-yo [44] then uj R k (acc ++ [r]) else pure (acc ++ [r])
  else if <-yo [115,101,110,100] then
   let x <-R.expr
   let _ <-zC [44]
   let y <-R.expr
   let _ <-zC [61,62]
   let z <-R.expr
   let r <-zT 64 [] 0 t.at_ [x,y,z]
   if <-yo [44] then uj R k (acc ++ [r]) else pure (acc ++ [r])
  else
   let _ <-zC [101,108,115,101]
   let _ <-zC [61,62]
   let x <-R.expr
   let r <-zT 65 [] 0 t.at_ [x]
   pure (acc ++ [r])
def kD(R:qi):PM (List Int):=do
 let _ <-zC [123]
 let l <-(λE s=>uj R (E.tz.length+1) [] E s:PM (List Int))
 let _ <-zC [125]
 pure l
def jz(R:qi):PM Int:=do
 let t <-zC [105,102]
 let c <-R.expr
 let b <-R.block
 if <-yo [101,108,115,101] then
  if <-YA [[105,102]] then
   let x <-R.branch
   zT 29 [] 0 t.at_ [c,b,x]
  else
   let x <-R.block
   zT 29 [] 0 t.at_ [c,b,x]
 else zT 29 [] 0 t.at_ [c,b]
def xL(R:qi)(t:yO):PM Int:=do
 if <-YA [[105,102]] then jz R
 else if <-yo [119,104,105,108,101] then
  let c <-R.expr
  let b <-R.block
  zT 30 [] 0 t.at_ [c,b]
 else if <-yo [109,97,116,99,104] then
  let c <-R.expr
  let l <-qB (KF R)
  zT 31 [] 0 t.at_ (c :: l)
 else if <-yo [102,110] then
  let l <-Zh R
  let b <-R.block
  zT 33 [] 0 t.at_ (l ++ [b])
 else if <-yo [116,114,121] then
  let b <-R.block
  let _ <-zC [99,97,116,99,104]
  let m <-xp 1
  let c <-R.block
  zT 34 m.text 0 t.at_ [b,c]
 else if <-yo [104,111,108,100] then
  let x <-R.expr
  let _ <-zC [97,115]
  let m <-xp 1
  let b <-R.block
  let _ <-zC [101,108,115,101]
  let c <-R.block
  zT 36 m.text 0 t.at_ [x,b,c]
 else if <-yo [110,101,119] then
  let m <-xp 2
  let l <-qB (KD R)
  zT 26 m.text 0 t.at_ l
 else if <-yo [99,104,97,110] then
  let k <-R.kind
  let _ <-zC [40]
  let m <-xp 3
  let _ <-zC [41]
  zT 40 [] (ZX m) t.at_ [k]
 else
  let _ <-zC [115,101,108,101,99,116]
  let l <-kD R
  zT 35 [] 0 t.at_ l
def Zi(R:qi):PM Int:=do
 let t <-YU
 if t.kind == 3 then
  jH
  zT 1 [] (ZX t) t.at_ []
 else if t.kind == 4 then
  jH
  zT 2 t.text 0 t.at_ []
 else if t.kind == 1 then
  jH
  zT 5 t.text 0 t.at_ []
 else if t.kind == 2 then
  jH
  let l <-jd R.expr
  zT 25 t.text 0 t.at_ l
 else if <-yo [40] then
  if <-yo [41] then zT 4 [] 0 t.at_ []
  else
   let x <-R.expr
   let _ <-zC [41]
   pure x
 else if <-yo [116,114,117,101] then zT 3 [] 1 t.at_ []
 else if <-yo [102,97,108,115,101] then zT 3 [] 0 t.at_ []
 else match xB t.text with
  |some w=>if t.kind == 5 then (do jH;vn R t w) else xL R t
  |none=>xL R t
def Zf(R:qi):Nat->Int->PM Int
 |0,_=>λ_ _=>.bad 0
 |k+1,left=>do
  let t <-YU
  if <-yo [46] then
   let m <-xp 1
   let x <-zT 23 m.text 0 t.at_ [left]
   Zf R k x
  else if <-yo [40] then
   let l <-(do if <-YA [[41]] then pure [] else jW R.expr:PM (List Int))
   let _ <-zC [41]
   let x <-zT 24 [] 0 t.at_ (left :: l)
   Zf R k x
  else pure left
def vO(R:qi):PM Int:=do
 if <-YA [[45]] then
  let t <-Zd
  let x <-R.unary
  zT 6 [] 0 t.at_ [x]
 else
  let left <-Zi R
  (λE s=>Zf R (E.tz.length+1) left E s:PM Int)
def zho(R:qi):PM Int:=Zp 4 (vO R)
def XQ(R:qi):PM Int:=Zp 3 (zho R)
def Zy(R:qi):PM Int:=do
 if <-YA [[110,111,116]] then
  let t <-Zd
  let x <-R.bin2
  zT 7 [] 0 t.at_ [x]
 else Zp 2 (XQ R)
def zeh(R:qi):PM Int:=Zp 0 (Zp 1 (Zy R))
def jo(R:qi):PM Int:=do
 let t <-YU
 if t.kind == 1 then
  jH
  zT 66 t.text 0 t.at_ []
 else if t.kind == 3 then
  jH
  zT 67 [] (ZX t) t.at_ []
 else if t.kind == 4 then
  jH
  zT 68 t.text 0 t.at_ []
 else if t.kind == 2 then
  jH
  let l <-jd R.pattern
  zT 70 t.text 0 t.at_ l
 else if <-yo [116,114,117,101] then zT 69 [] 1 t.at_ []
 else if <-yo [102,97,108,115,101] then zT 69 [] 0 t.at_ []
 else
  let _ <-zC [45]
  let m <-xp 3
  zT 67 [] (-(ZX m)) t.at_ []
def zmt:qi:=⟨λ_ _=>.bad 0,λ_ _=>.bad 0,λ_ _=>.bad 0,λ_ _=>.bad 0,λ_ _=>.bad 0,λ_ _=>.bad 0,λ_ _=>.bad 0⟩
def Yi:Nat->qi
 |0=>zmt
 |n+1=>⟨zeh (Yi n),vO (Yi n),Zy (Yi n),vP (Yi n),jz (Yi n),YB (Yi n),jo (Yi n)⟩
def Zg(R:qi):PM Int:=do
 let t <-YU
 if <-yo [99,108,97,115,115] then
  let m <-xp 2
  let l <-qB (ka R)
  zT 100 m.text 0 t.at_ l
 else if <-yo [107,105,110,100] then
  let m <-xp 2
  let l <-qB (Yz R)
  zT 101 m.text 0 t.at_ l
 else if <-yo [101,120,116,101,114,110] then
  let _ <-zC [102,117,110]
  let m <-xp 1
  let l <-Zh R
  let _ <-zC [59]
  zT 103 m.text 0 t.at_ l
 else if <-yo [114,111,111,116] then
  let m <-xp 1
  let _ <-zC [58]
  let k <-R.kind
  let _ <-zC [61]
  let x <-R.expr
  let _ <-zC [59]
  zT 104 m.text 0 t.at_ [k,x]
 else
  let pure_ <-yo [112,117,114,101]
  let _ <-zC [102,117,110]
  let m <-xp 1
  let l <-Zh R
  let b <-R.block
  zT 102 m.text (if pure_ then 1 else 0) t.at_ (l ++ [b])
def vo(R:qi):Nat->PM Unit
 |0=>λ_ _=>.bad 0
 |k+1=>λE s=>if s.next<E.tz.length then match Zg R E s with
  | .ok i s'=>vo R k E {s' with iz:=s'.iz ++ [i]}
  | .bad p=>.bad p
  else .ok () s
def qh(l:List yO)(len:Nat):qK Unit:=vo (Yi (l.length+1)) (l.length+1) ⟨l,len⟩ ⟨[],[],0⟩
def Vd(s:yx)(a:Int):Prop:=0<=a/\a<s.nz.length
def WFs(s:yx):Prop:=∀(i:Nat) (x:Nd),s.nz[i]? =some x->∀k∈x.kz,0<=k/\k<i
structure Nx(E:zr)(d:Int)(s s':yx):Prop where
 next:s.next<=s'.next
 le:s'.next<=E.tz.length
 cr:(s'.nz.length:Int)-s.nz.length+d<=(s'.next:Int)-s.next
 wf:WFs s'
 pre:∃r,s'.nz=s.nz ++ r
 it:s'.iz=s.iz
def Nx.refl{E:zr}{s:yx}(h:s.next<=E.tz.length)(hw:WFs s):Nx E 0 s s:=⟨pC _,h,by omega,hw,⟨[],(gD _).symm⟩,rfl⟩
theorem Nx.trans{E:zr}{a b c:yx}(h:Nx E d a b)(k:Nx E e b c):Nx E (d+e) a c:=by
 obtain⟨r,hr⟩:=h.pre;obtain⟨q,hq⟩:=k.pre;have h1:=h.cr;have h2:=k.cr;exact⟨pN h.next k.next,k.le,by omega,k.wf,⟨r ++ q,by rw[hq,hr,List.append_assoc]⟩,k.it.trans h.it⟩
def Nx.down{E:zr}{a b:yx}(h:Nx E d a b)(hd:e<=d):Nx E e a b:=⟨h.next,h.le,by have:=h.cr;omega,h.wf,h.pre,h.it⟩
def Vd.later{E:zr}{s s':yx}(h:Vd s a)(n:Nx E d s s'):Vd s' a:=by
 obtain⟨r,hr⟩:=n.pre;refine⟨h.1,?_⟩;rw[hr,pE];have:=h.2;omega
def Gd(d:Int)(Q:yx->α->Prop)(m:PM α):Prop:=∀{E:zr} {s:yx} {a:α} {s':yx},s.next<=E.tz.length->WFs s->m E s=.ok a s'->Nx E d s s'/\Q s' a
def zo{m:PM α}{f:α->PM β}{E:zr}{s s':yx}{b:β}(h:(m >>= f) E s=.ok b s'):∃a s1,m E s=.ok a s1/\f a E s1=.ok b s':=by
 change PM.bind m f E s=_ at h;unfold PM.bind at h;cases hm:m E s with
 |ok a s1=>rw[hm] at h;exact⟨a,s1,rfl,h⟩
 |bad p=>rw[hm] at h;cases h
def zK{a b:α}{E:zr}{s s':yx}(h:(pure a:PM α) E s=.ok b s'):b=a/\s'=s:=by
 change qK.ok a s=_ at h;cases h;exact⟨rfl,rfl⟩
def uB{E:zr}{s:yx}{l:List (List UInt8)}(h:xO (zw E s) l=true):s.next<E.tz.length:=by
 rcases Nat.lt_or_ge s.next E.tz.length with h'|h'
 ·exact h'
 ·simp[xO,zw,wP h'] at h
def qw{E:zr}{s:yx}(h:(zw E s).kind=k)(hk:k≠0):s.next<E.tz.length:=by
 rcases Nat.lt_or_ge s.next E.tz.length with h'|h'
 ·exact h'
 ·simp[zw,wP h'] at h;exact absurd h.symm hk
def Xq{E:zr}{s:yx}(h:s.next<E.tz.length)(hw:WFs s):Nx E 1 s {s with next:=s.next+1}:=⟨Nat.le_succ _,h,by simp;omega,hw,⟨[],(gD _).symm⟩,rfl⟩
def zq:Gd 1 (λ_ _=>True) (zC x):=by
 intro E s a s' h0 hw h;unfold zC at h;split at h
 ·rename_i hi;cases h;exact⟨Xq (uB hi) hw,trivial⟩
 ·cases h
def yB(hk:k≠0):Gd 1 (λ_ _=>True) (xp k):=by
 intro E s a s' h0 hw h;unfold xp at h;split at h
 ·rename_i hi;cases h;exact⟨Xq (qw (by simpa using hi) hk) hw,trivial⟩
 ·cases h
def Ym{E:zr}{s s':yx}(h0:s.next<=E.tz.length)(hw:WFs s)(h:yo x E s=.ok b s'):Nx E (if b then 1 else 0) s s':=by
 unfold yo at h;split at h
 ·rename_i hi;cases h;exact Xq (uB hi) hw
 ·cases h;exact Nx.refl h0 hw
def zlD:Gd 0 (λ_ _=>True) (yo x):=by
 intro E s b s' h0 hw h;have:=Ym h0 hw h;cases b
 ·exact⟨this,trivial⟩
 ·exact⟨this.down (by decide),trivial⟩
def gb{m:PM α}{f:α->PM β}{E:zr}{s0 s s':yx}{b:β}{Q:yx->α->Prop}(h:(m >>= f) E s=.ok b s')(N:Nx E d0 s0 s)(g:Gd d Q m):∃a s1,Nx E d s s1/\Q s1 a/\Nx E (d0+d) s0 s1/\f a E s1=.ok b s':=by
 obtain⟨a,s1,h1,h⟩:=zo h;obtain⟨n,v⟩:=g N.le N.wf h1;exact⟨a,s1,n,v,N.trans n,h⟩
def gm{f:Bool->PM β}{E:zr}{s0 s s':yx}{b:β}(h:(yo x >>= f) E s=.ok b s')(N:Nx E d0 s0 s):∃a s1,Nx E (if a then 1 else 0) s s1/\yo x E s=.ok a s1/\Nx E (d0+if a then 1 else 0) s0 s1/\f a E s1=.ok b s':=by
 obtain⟨a,s1,h1,h⟩:=zo h;have n:=Ym N.le N.wf h1;exact⟨a,s1,n,h1,N.trans n,h⟩
def qW{E:zr}{s0 s s':yx}(N:Nx E d0 s0 s)(g:Nx E d s s'/\p)(he:e<=d0+d):Nx E e s0 s'/\p:=⟨(N.trans g.1).down he,g.2⟩
def zkh{l:List (List UInt8)}:Gd 0 (λ_ _=>True) (YA l):=by
 intro E s b s' h0 hw h;cases h;exact⟨Nx.refl h0 hw,trivial⟩
def zQ{kind:Nat}{text:List UInt8}{n at_:Int}{kids:List Int}{E:zr}{s s':yx}(h0:s.next<=E.tz.length)(hw:WFs s)(hk:∀k∈kids,Vd s k)(h:zT kind text n at_ kids E s=.ok a s'):Nx E (-1) s s'/\Vd s' a:=by
 cases h;refine⟨⟨pC _,h0,by simp;omega,λi x hx k dx=>?_,⟨_,rfl⟩,rfl⟩,⟨by omega,by simp;omega⟩⟩;rw[List.getElem?_append] at hx;split at hx
 ·exact hw i x hx k dx
 ·rename_i hi;have hz:i-s.nz.length=0\/0<i-s.nz.length:=by omega
  rcases hz with hz|hz
  ·rw[hz] at hx;cases hx;have:=hk k dx;exact⟨this.1,by have:=this.2;omega⟩
  ·rw[wP (by simp;omega)] at hx;cases hx
structure yW(R:qi):Prop where
 expr:Gd 0 Vd R.expr
 unary:Gd 0 Vd R.unary
 bin2:Gd 0 Vd R.bin2
 block:Gd 0 Vd R.block
 branch:Gd 0 Vd R.branch
 kind:Gd 0 Vd R.kind
 pattern:Gd 0 Vd R.pattern
def JO(s:yx)(l:List Int):Prop:=∀k∈l,Vd s k
theorem JO.later{E:zr}{s s':yx}{l:List Int}(h:JO s l)(n:Nx E d s s'):JO s' l:=λk hk=>(h k hk).later n
def JO.snoc{s:yx}{l:List Int}(h:JO s l)(ha:Vd s a):JO s (l ++ [a]):=λk hk=>by
 rw[pW,wD] at hk;rcases hk with hk|rfl
 ·exact h k hk
 ·exact ha
theorem zd3{part:PM Int}(hp:Gd 0 Vd part):∀(n:Nat) (acc:List Int) {E:zr} {s:yx} {a:List Int} {s':yx},s.next<=E.tz.length->WFs s->JO s acc->jI n part acc E s=.ok a s'->Nx E 0 s s'/\JO s' a
 |0,_,_,_,_,_,_,_,_,h=>by cases h
 |n+1,acc,E,s,a,s',h0,hw,ha,h=>by
  unfold jI at h;obtain⟨x,s1,h1,h⟩:=zo h;obtain⟨n1,v1⟩:=hp h0 hw h1;obtain⟨b,s2,h2,h⟩:=zo h;have n2:=Ym n1.le n1.wf h2;have n3:=n1.trans n2;have nu:=(ha.later n3).snoc (v1.later n2);cases b with
  |true=>
   obtain⟨n4,v4⟩:=zd3 hp n (acc ++ [x]) n3.le n3.wf nu h;exact⟨(n3.trans n4).down (by decide),v4⟩
  |false=>
   obtain⟨rfl,rfl⟩:=zK h;exact⟨n3.down (by decide),nu⟩
def jg{part:PM Int}(hp:Gd 0 Vd part):Gd 0 JO (jW part):=λh0 hw h=>zd3 hp _ [] h0 hw (λk hk=>by cases hk) h
def JT{s:yx}:∀k∈([]:List Int),Vd s k:=λk hk=>by cases hk
def XE{s:yx}(h:Vd s a):∀k∈[a],Vd s k:=λk hk=>by
 rw[wD] at hk;rw[hk];exact h
def KH{s:yx}{l:List Int}(h:Vd s a)(hl:∀k∈l,Vd s k):∀k∈a :: l,Vd s k:=λk hk=>by
 rcases wI.1 hk with rfl|hk
 ·exact h
 ·exact hl k hk
def vda{s:yx}{l:List Int}(hl:JO s l)(h:Vd s a):∀k∈l ++ [a],Vd s k:=hl.snoc h
def kP{part:PM Int}(hp:Gd 0 Vd part):Gd 2 JO (qB part):=by
 intro E s a s' h0 hw h;have N:=Nx.refl h0 hw;unfold qB at h;obtain⟨x,sx,nx,vx,N,h⟩:=gb h N (zq);obtain⟨l,sl,nl,vl,N,h⟩:=gb h N (jg hp);obtain⟨y,sy,ny,vy,N,h⟩:=gb h N (zq);replace vl:=vl.later ny;obtain⟨rfl,rfl⟩:=zK h;exact⟨N.down (by decide),vl⟩
def ZV{part:PM Int}(hp:Gd 0 Vd part):Gd 0 JO (jd part):=by
 intro E s a s' h0 hw h;have N:=Nx.refl h0 hw;unfold jd at h;obtain⟨b,sb,nb,hb,N,h⟩:=gm h N;cases b with
 |true=>
  rw[if_pos rfl] at h;obtain⟨l,sl,nl,vl,N,h⟩:=gb h N (jg hp);obtain⟨y,sy,ny,vy,N,h⟩:=gb h N (zq);replace vl:=vl.later ny;obtain⟨rfl,rfl⟩:=zK h;exact⟨N.down (by decide),vl⟩
 |false=>
  rw[if_neg (by decide)] at h;obtain⟨rfl,rfl⟩:=zK h;exact⟨N.down (by decide),JT⟩
def vj{R:qi}(hR:yW R):Gd 0 Vd (ka R):=by
 intro E s a s' h0 hw h;have N:=Nx.refl h0 hw;unfold ka at h;obtain⟨t,st,nt,vt,N,h⟩:=gb h N ((yB (by decide)));obtain⟨x,sx,nx,vx,N,h⟩:=gb h N (zq);obtain⟨k,sk,nk,vk,N,h⟩:=gb h N (hR.kind);exact qW N (zQ N.le N.wf (XE vk) h) (by decide)
def QU{R:qi}(hR:yW R):Gd 0 Vd (Yz R):=by
 intro E s a s' h0 hw h;have N:=Nx.refl h0 hw;unfold Yz at h;obtain⟨t,st,nt,vt,N,h⟩:=gb h N ((yB (by decide)));obtain⟨l,sl,nl,vl,N,h⟩:=gb h N ((ZV hR.kind));exact qW N (zQ N.le N.wf (vl) h) (by decide)
def uQ{part:PM Int}(hp:Gd 0 Vd part):Gd 0 JO (do if <-YA w then pure [] else jW part:PM (List Int)):=by
 intro E s a s' h0 hw h;have N:=Nx.refl h0 hw;obtain⟨b,sb,nb,vb,N,h⟩:=gb h N (zkh);cases b with
 |true=>
  rw[if_pos rfl] at h;obtain⟨rfl,rfl⟩:=zK h;exact⟨N.down (by decide),JT⟩
 |false=>
  rw[if_neg (by decide)] at h;obtain⟨nl,vl⟩:=jg hp N.le N.wf h;exact⟨(N.trans nl).down (by decide),vl⟩
def ua{R:qi}(hR:yW R):Gd 3 JO (Zh R):=by
 intro E s a s' h0 hw h;have N:=Nx.refl h0 hw;unfold Zh at h;obtain⟨x,sx,nx,vx,N,h⟩:=gb h N (zq);obtain⟨l,sl,nl,vl,N,h⟩:=gb h N ((uQ (vj hR)));obtain⟨y,sy,ny,vy,N,h⟩:=gb h N (zq);replace vl:=vl.later ny;obtain⟨z,sz,nz,vz,N,h⟩:=gb h N (zq);replace vl:=vl.later nz;obtain⟨k,sk,nk,vk,N,h⟩:=gb h N (hR.kind);replace vl:=vl.later nk;obtain⟨rfl,rfl⟩:=zK h;exact⟨N.down (by decide),vl.snoc vk⟩
def vV{E:zr}{s s':yx}{u:Unit}(mD:s.next<E.tz.length)(hw:WFs s)(h:jH E s=.ok u s'):Nx E 1 s s':=by
 cases h;exact Xq mD hw
def zlJ{R:qi}(hR:yW R):Gd 0 Vd (YB R):=by
 intro E s a s' h0 hw h;have N:=Nx.refl h0 hw;unfold YB at h;obtain⟨t,s0,h1,h⟩:=zo h;cases h1;split at h
 ·rename_i hk;obtain⟨u,s1,h1,h⟩:=zo h;have n1:=vV (qw (k:=2) (by simpa using hk) (by decide)) hw h1;replace N:=N.trans n1;exact qW N (zQ N.le N.wf (JT) h) (by decide)
 ·obtain⟨a1,MA,fB,sB,N,h⟩:=gm h N;cases a1 with
  |true=>
   rw[if_pos rfl] at h;exact qW N (zQ N.le N.wf (JT) h) (by decide)
  |false=>
  rw[if_neg (by decide)] at h;obtain⟨a2,Rl,Mq,tf,N,h⟩:=gm h N;cases a2 with
  |true=>
   rw[if_pos rfl] at h;exact qW N (zQ N.le N.wf (JT) h) (by decide)
  |false=>
  rw[if_neg (by decide)] at h;obtain⟨a3,Aq,By,tg,N,h⟩:=gm h N;cases a3 with
  |true=>
   rw[if_pos rfl] at h;exact qW N (zQ N.le N.wf (JT) h) (by decide)
  |false=>
  rw[if_neg (by decide)] at h;obtain⟨a4,Ar,Bz,fL,N,h⟩:=gm h N;cases a4 with
  |true=>
   rw[if_pos rfl] at h;exact qW N (zQ N.le N.wf (JT) h) (by decide)
  |false=>
  rw[if_neg (by decide)] at h;obtain⟨a5,sa5,na5,Pf,N,h⟩:=gm h N;cases a5 with
  |true=>
   rw[if_pos rfl] at h;obtain⟨k,sk,nk,vk,N,h⟩:=gb h N (hR.kind);exact qW N (zQ N.le N.wf (XE vk) h) (by decide)
  |false=>
  rw[if_neg (by decide)] at h;obtain⟨a6,sa6,na6,fM,N,h⟩:=gm h N;cases a6 with
  |true=>
   rw[if_pos rfl] at h;obtain⟨k,sk,nk,vk,N,h⟩:=gb h N (hR.kind);exact qW N (zQ N.le N.wf (XE vk) h) (by decide)
  |false=>
  rw[if_neg (by decide)] at h;obtain⟨x,sx,nx,vx,N,h⟩:=gb h N (zq);obtain⟨y,sy,ny,vy,N,h⟩:=gb h N (zq);obtain⟨l,sl,nl,vl,N,h⟩:=gb h N ((uQ hR.kind));obtain⟨z,sz,nz,vz,N,h⟩:=gb h N (zq);replace vl:=vl.later nz;obtain⟨q,sq,nq,vq,N,h⟩:=gb h N (zq);replace vl:=vl.later nq;obtain⟨k,sk,nk,vk,N,h⟩:=gb h N (hR.kind);replace vl:=vl.later nk;exact qW N (zQ N.le N.wf (vda vl vk) h) (by decide)
def vU{E:zr}{s s':yx}(mD:s.next<E.tz.length)(hw:WFs s)(h:Zd E s=.ok t s'):Nx E 1 s s':=by
 cases h;exact Xq mD hw
def zbV{R:qi}(hR:yW R):Gd 0 (λs (x:Int×Bool)=>Vd s x.1) (Ze R):=by
 intro E s a s' h0 hw h;have N:=Nx.refl h0 hw;unfold Ze at h;obtain⟨t,s0,h1,h⟩:=zo h;cases h1;obtain⟨a1,MA,fB,sB,N,h⟩:=gm h N;cases a1 with
 |true=>
  rw[if_pos rfl] at h;obtain⟨m,sm,nm,vm,N,h⟩:=gb h N ((yB (by decide)));obtain⟨x,sx,nx,vx,N,h⟩:=gb h N (zq);obtain⟨e,se,ne,ve,N,h⟩:=gb h N (hR.expr);obtain⟨r,s9,h9,h⟩:=zo h;obtain⟨nz,vz⟩:=zQ N.le N.wf (XE ve) h9;obtain⟨rfl,rfl⟩:=zK h;exact⟨(N.trans nz).down (by decide),vz⟩
 |false=>
 rw[if_neg (by decide)] at h;obtain⟨a2,Rl,Mq,tf,N,h⟩:=gm h N;cases a2 with
 |true=>
  rw[if_pos rfl] at h;obtain⟨m,sm,nm,vm,N,h⟩:=gb h N ((yB (by decide)));obtain⟨x,sx,nx,vx,N,h⟩:=gb h N (zq);obtain⟨e,se,ne,ve,N,h⟩:=gb h N (hR.expr);obtain⟨r,s9,h9,h⟩:=zo h;obtain⟨nz,vz⟩:=zQ N.le N.wf (XE ve) h9;obtain⟨rfl,rfl⟩:=zK h;exact⟨(N.trans nz).down (by decide),vz⟩
 |false=>
 rw[if_neg (by decide)] at h;obtain⟨e,se,ne,ve,N,h⟩:=gb h N (hR.expr);obtain⟨b,s3,h3,h⟩:=zo h;cases h3;split at h
 ·rename_i hb;obtain⟨k,s4,h4,h⟩:=zo h;cases h4;split at h
  ·obtain⟨u,s5,h5,h⟩:=zo h;have n5:=vU (uB hb) N.wf h5;replace N:=N.trans n5;replace ve:=ve.later n5;obtain⟨y,sy,ny,vy,N,h⟩:=gb h N (hR.expr);replace ve:=ve.later ny;obtain⟨r,s9,h9,h⟩:=zo h;obtain⟨nz,vz⟩:=zQ N.le N.wf (KH ve (XE vy)) h9;obtain⟨rfl,rfl⟩:=zK h;exact⟨(N.trans nz).down (by decide),vz⟩
  ·cases h
 ·obtain⟨rfl,rfl⟩:=zK h;exact⟨N.down (by decide),ve⟩
theorem zdj{R:qi}(hR:yW R):∀(n:Nat) (acc:List Int) {E:zr} {s:yx} {a:List Int×Int} {s':yx},s.next<=E.tz.length->WFs s->JO s acc->qq R n acc E s=.ok a s'->Nx E 0 s s'/\JO s' a.1
 |0,_,_,_,_,_,_,_,_,h=>by cases h
 |n+1,acc,E,s,a,s',h0,hw,ha,h=>by
  have N:=Nx.refl h0 hw;unfold qq at h;obtain⟨b,s1,h1,h⟩:=zo h;cases h1;split at h
  ·obtain⟨rfl,rfl⟩:=zK h;exact⟨N.down (by decide),ha⟩
  ·obtain⟨x,sx,nx,vx,N,h⟩:=gb h N ((zbV hR));replace ha:=ha.later nx;obtain⟨b,s2,h2,h⟩:=zo h;cases h2;split at h
   ·obtain⟨rfl,rfl⟩:=zK h;exact⟨N.down (by decide),ha.snoc vx⟩
   ·obtain⟨y,sy,ny,vy,N,h⟩:=gb h N (zq);replace vx:=vx.later ny;replace ha:=ha.later ny;obtain⟨n4,v4⟩:=zdj hR n (acc ++ [x.1]) N.le N.wf (ha.snoc vx) h;exact⟨(N.trans n4).down (by decide),v4⟩
def zkw{R:qi}(hR:yW R):Gd 0 Vd (vP R):=by
 intro E s a s' h0 hw h;have N:=Nx.refl h0 hw;unfold vP at h;obtain⟨t,st,nt,vt,N,h⟩:=gb h N (zq);obtain⟨x,s2,h2,h⟩:=zo h;obtain⟨n2,v2⟩:=zdj hR _ [] N.le N.wf JT h2;replace N:=N.trans n2;obtain⟨y,sy,ny,vy,N,h⟩:=gb h N (zq);replace v2:=v2.later ny;exact qW N (zQ N.le N.wf (v2) h) (by decide)
theorem zjV{tight:PM Int}(ht:Gd 0 Vd tight)(lv:Nat):∀(n:Nat) (left:Int) {E:zr} {s:yx} {a:Int} {s':yx},s.next<=E.tz.length->WFs s->Vd s left->YE lv tight n left E s=.ok a s'->Nx E 0 s s'/\Vd s' a
 |0,_,_,_,_,_,_,_,_,h=>by cases h
 |n+1,left,E,s,a,s',h0,hw,vl,h=>by
  have N:=Nx.refl h0 hw;unfold YE at h;obtain⟨b,s1,h1,h⟩:=zo h;cases h1;split at h
  ·rename_i hb;obtain⟨t,s2,h2,h⟩:=zo h;have n2:=vU (uB hb) hw h2;replace N:=N.trans n2;replace vl:=vl.later n2;obtain⟨r,sr,nr,vr,N,h⟩:=gb h N (ht);replace vl:=vl.later nr;obtain⟨x,s9,h9,h⟩:=zo h;obtain⟨nz,vz⟩:=zQ N.le N.wf (KH vl (XE vr)) h9;replace N:=N.trans nz;split at h
   ·obtain⟨rfl,rfl⟩:=zK h;exact⟨N.down (by decide),vz⟩
   ·obtain⟨n4,v4⟩:=zjV ht lv n x N.le N.wf vz h;exact⟨(N.trans n4).down (by decide),v4⟩
  ·obtain⟨rfl,rfl⟩:=zK h;exact⟨N.down (by decide),vl⟩
def Xk{tight:PM Int}(ht:Gd 0 Vd tight)(lv:Nat):Gd 0 Vd (Zp lv tight):=by
 intro E s a s' h0 hw h;have N:=Nx.refl h0 hw;unfold Zp at h;obtain⟨l,sl,nl,vl,N,h⟩:=gb h N (ht);obtain⟨n4,v4⟩:=zjV ht lv _ l N.le N.wf vl h;exact⟨(N.trans n4).down (by decide),v4⟩
theorem KM{R:qi}(hR:yW R):∀(n:Nat) (first:Bool) (acc:List Int) {E:zr} {s:yx} {a:List Int} {s':yx},s.next<=E.tz.length->WFs s->JO s acc->qP R n first acc E s=.ok a s'->Nx E 0 s s'/\JO s' a
 |0,_,acc,_,_,_,_,h0,hw,ha,h=>by
  obtain⟨rfl,rfl⟩:=zK h;exact⟨Nx.refl h0 hw,ha⟩
 |n+1,first,acc,E,s,a,s',h0,hw,ha,h=>by
  have N:=Nx.refl h0 hw;unfold qP at h;obtain⟨u,s1,h1,h⟩:=zo h;have n1:Nx E 0 s s1:=by
   split at h1
   ·obtain⟨_,rfl⟩:=zK h1;exact N
   ·obtain⟨_,s2,h2,h1⟩:=zo h1;obtain⟨_,rfl⟩:=zK h1;exact (zq h0 hw h2).1.down (by decide)
  replace N:=N.trans n1;replace ha:=ha.later n1;obtain⟨x,sx,nx,vx,N,h⟩:=gb h N (hR.expr);obtain⟨n4,v4⟩:=KM hR n false (acc ++ [x]) N.le N.wf ((ha.later nx).snoc vx) h;exact⟨(N.trans n4).down (by decide),v4⟩
def zk8{R:qi}(hR:yW R)(t:yO)(w:Nat×Int):Gd (-1) Vd (vn R t w):=by
 intro E s a s' h0 hw h;have N:=Nx.refl h0 hw;unfold vn at h;obtain⟨l,s1,h1,h⟩:=zo h;have n1:Nx E 0 s s1/\JO s1 l:=by
  split at h1
  ·obtain⟨x,s2,h2,h1⟩:=zo h1;obtain⟨n2,v2⟩:=hR.unary h0 hw h2;obtain⟨rfl,rfl⟩:=zK h1;exact⟨n2,XE v2⟩
  ·split at h1
   ·obtain⟨x,s2,h2,h1⟩:=zo h1;obtain⟨n2,_⟩:=zq h0 hw h2;obtain⟨y,s3,h3,h1⟩:=zo h1;obtain⟨n3,v3⟩:=KM hR _ _ [] n2.le n2.wf JT h3;obtain⟨z,s4,h4,h1⟩:=zo h1;obtain⟨n4,_⟩:=zq n3.le n3.wf h4;obtain⟨rfl,rfl⟩:=zK h1;exact⟨((n2.trans n3).trans n4).down (by decide),v3.later n4⟩
   ·obtain⟨rfl,rfl⟩:=zK h1;exact⟨N,JT⟩
 obtain⟨nz,vz⟩:=zQ n1.1.le n1.1.wf n1.2 h;exact⟨(n1.1.trans nz).down (by decide),vz⟩
def VC{R:qi}(hR:yW R):Gd 0 Vd (KD R):=by
 intro E s a s' h0 hw h;have N:=Nx.refl h0 hw;unfold KD at h;obtain⟨t,st,nt,vt,N,h⟩:=gb h N ((yB (by decide)));obtain⟨x,sx,nx,vx,N,h⟩:=gb h N (zq);obtain⟨k,sk,nk,vk,N,h⟩:=gb h N (hR.expr);exact qW N (zQ N.le N.wf (XE vk) h) (by decide)
def zas{R:qi}(hR:yW R):Gd 0 Vd (KF R):=by
 intro E s a s' h0 hw h;have N:=Nx.refl h0 hw;unfold KF at h;obtain⟨p,sp,np,vp,N,h⟩:=gb h N (hR.pattern);obtain⟨t,st,nt,vt,N,h⟩:=gb h N (zq);replace vp:=vp.later nt;obtain⟨x,sx,nx,vx,N,h⟩:=gb h N (hR.expr);replace vp:=vp.later nx;exact qW N (zQ N.le N.wf (KH vp (XE vx)) h) (by decide)
theorem KG{R:qi}(hR:yW R):∀(n:Nat) (acc:List Int) {E:zr} {s:yx} {a:List Int} {s':yx},s.next<=E.tz.length->WFs s->JO s acc->uj R n acc E s=.ok a s'->Nx E 0 s s'/\JO s' a
 |0,_,_,_,_,_,_,_,_,h=>by cases h
 |n+1,acc,E,s,a,s',h0,hw,ha,h=>by
  have N:=Nx.refl h0 hw;unfold uj at h;obtain⟨t,s1,h1,h⟩:=zo h;cases h1;obtain⟨a1,MA,fB,sB,N,h⟩:=gm h N;cases a1 with
  |true=>
   rw[if_pos rfl] at h;obtain⟨x,sx,nx,vx,N,h⟩:=gb h N (hR.expr);obtain⟨q,sq,nq,vq,N,h⟩:=gb h N (zq);replace vx:=vx.later nq;obtain⟨m,sm,nm,vm,N,h⟩:=gb h N ((yB (by decide)));replace vx:=vx.later nm;obtain⟨e,se,ne,ve,N,h⟩:=gb h N (zq);replace vx:=vx.later ne;obtain⟨y,sy,ny,vy,N,h⟩:=gb h N (hR.expr);replace vx:=vx.later ny;obtain⟨r,s9,h9,h⟩:=zo h;obtain⟨nz,vz⟩:=zQ N.le N.wf (KH vx (XE vy)) h9;replace N:=N.trans nz;have tf:=(ha.later N).snoc vz;obtain⟨c,sc,nc,hc,N,h⟩:=gm h N;cases c with
   |true=>
    rw[if_pos rfl] at h;obtain⟨n4,v4⟩:=KG hR n (acc ++ [r]) N.le N.wf (tf.later nc) h;exact⟨(N.trans n4).down (by decide),v4⟩
   |false=>
    rw[if_neg (by decide)] at h;obtain⟨rfl,rfl⟩:=zK h;exact⟨N.down (by decide),tf.later nc⟩
  |false=>
  rw[if_neg (by decide)] at h;obtain⟨a2,Rl,Mq,tf,N,h⟩:=gm h N;cases a2 with
  |true=>
   rw[if_pos rfl] at h;obtain⟨x,sx,nx,vx,N,h⟩:=gb h N (hR.expr);obtain⟨q,sq,nq,vq,N,h⟩:=gb h N (zq);replace vx:=vx.later nq;obtain⟨y,sy,ny,vy,N,h⟩:=gb h N (hR.expr);replace vx:=vx.later ny;obtain⟨e,se,ne,ve,N,h⟩:=gb h N (zq);replace vx:=vx.later ne;replace vy:=vy.later ne;obtain⟨z,sz,nz,vz,N,h⟩:=gb h N (hR.expr);replace vx:=vx.later nz;replace vy:=vy.later nz;obtain⟨r,s9,h9,h⟩:=zo h;obtain⟨nz,vz⟩:=zQ N.le N.wf (KH vx (KH vy (XE vz))) h9;replace N:=N.trans nz;have tf:=(ha.later N).snoc vz;obtain⟨c,sc,nc,hc,N,h⟩:=gm h N;cases c with
   |true=>
    rw[if_pos rfl] at h;obtain⟨n4,v4⟩:=KG hR n (acc ++ [r]) N.le N.wf (tf.later nc) h;exact⟨(N.trans n4).down (by decide),v4⟩
   |false=>
    rw[if_neg (by decide)] at h;obtain⟨rfl,rfl⟩:=zK h;exact⟨N.down (by decide),tf.later nc⟩
  |false=>
  rw[if_neg (by decide)] at h;obtain⟨q,sq,nq,vq,N,h⟩:=gb h N (zq);obtain⟨e,se,ne,ve,N,h⟩:=gb h N (zq);obtain⟨x,sx,nx,vx,N,h⟩:=gb h N (hR.expr);obtain⟨r,s9,h9,h⟩:=zo h;obtain⟨nz,vz⟩:=zQ N.le N.wf (XE vx) h9;replace N:=N.trans nz;obtain⟨rfl,rfl⟩:=zK h;exact⟨N.down (by decide),(ha.later N).snoc vz⟩
def za2{R:qi}(hR:yW R):Gd 2 JO (kD R):=by
 intro E s a s' h0 hw h;have N:=Nx.refl h0 hw;unfold kD at h;obtain⟨t,st,nt,vt,N,h⟩:=gb h N (zq);obtain⟨x,s2,h2,h⟩:=zo h;obtain⟨n2,v2⟩:=KG hR _ [] N.le N.wf JT h2;replace N:=N.trans n2;obtain⟨y,sy,ny,vy,N,h⟩:=gb h N (zq);obtain⟨rfl,rfl⟩:=zK h;exact⟨N.down (by decide),v2.later ny⟩
def zbC{R:qi}(hR:yW R):Gd 0 Vd (jz R):=by
 intro E s a s' h0 hw h;have N:=Nx.refl h0 hw;unfold jz at h;obtain⟨t,st,nt,vt,N,h⟩:=gb h N (zq);obtain⟨c,sc,nc,vc,N,h⟩:=gb h N (hR.expr);obtain⟨b,sb,nb,vb,N,h⟩:=gb h N (hR.block);replace vc:=vc.later nb;obtain⟨a1,MA,fB,sB,N,h⟩:=gm h N;replace vc:=vc.later fB;replace vb:=vb.later fB;cases a1 with
 |true=>
  rw[if_pos rfl] at h;obtain⟨i,si,ni,vi,N,h⟩:=gb h N (zkh);replace vc:=vc.later ni;replace vb:=vb.later ni;split at h
  ·obtain⟨x,sx,nx,vx,N,h⟩:=gb h N (hR.branch);replace vc:=vc.later nx;replace vb:=vb.later nx;exact qW N (zQ N.le N.wf (KH vc (KH vb (XE vx))) h) (by decide)
  ·obtain⟨x,sx,nx,vx,N,h⟩:=gb h N (hR.block);replace vc:=vc.later nx;replace vb:=vb.later nx;exact qW N (zQ N.le N.wf (KH vc (KH vb (XE vx))) h) (by decide)
 |false=>
  rw[if_neg (by decide)] at h;exact qW N (zQ N.le N.wf (KH vc (XE vb)) h) (by decide)
def zam{R:qi}(hR:yW R)(t:yO):Gd 0 Vd (xL R t):=by
 intro E s a s' h0 hw h;have N:=Nx.refl h0 hw;unfold xL at h;obtain⟨i,si,ni,vi,N,h⟩:=gb h N (zkh);split at h
 ·obtain⟨nb,vb⟩:=zbC hR N.le N.wf h;exact⟨(N.trans nb).down (by decide),vb⟩
 ·obtain⟨a1,MA,fB,sB,N,h⟩:=gm h N;cases a1 with
  |true=>
   rw[if_pos rfl] at h;obtain⟨c,sc,nc,vc,N,h⟩:=gb h N (hR.expr);obtain⟨b,sb,nb,vb,N,h⟩:=gb h N (hR.block);replace vc:=vc.later nb;exact qW N (zQ N.le N.wf (KH vc (XE vb)) h) (by decide)
  |false=>
  rw[if_neg (by decide)] at h;obtain⟨a2,Rl,Mq,tf,N,h⟩:=gm h N;cases a2 with
  |true=>
   rw[if_pos rfl] at h;obtain⟨c,sc,nc,vc,N,h⟩:=gb h N (hR.expr);obtain⟨l,sl,nl,vl,N,h⟩:=gb h N ((kP (zas hR)));replace vc:=vc.later nl;exact qW N (zQ N.le N.wf (KH vc vl) h) (by decide)
  |false=>
  rw[if_neg (by decide)] at h;obtain⟨a3,Aq,By,tg,N,h⟩:=gm h N;cases a3 with
  |true=>
   rw[if_pos rfl] at h;obtain⟨l,sl,nl,vl,N,h⟩:=gb h N ((ua hR));obtain⟨b,sb,nb,vb,N,h⟩:=gb h N (hR.block);replace vl:=vl.later nb;exact qW N (zQ N.le N.wf (vda vl vb) h) (by decide)
  |false=>
  rw[if_neg (by decide)] at h;obtain⟨a4,Ar,Bz,fL,N,h⟩:=gm h N;cases a4 with
  |true=>
   rw[if_pos rfl] at h;obtain⟨b,sb,nb,vb,N,h⟩:=gb h N (hR.block);obtain⟨q,sq,nq,vq,N,h⟩:=gb h N (zq);replace vb:=vb.later nq;obtain⟨m,sm,nm,vm,N,h⟩:=gb h N ((yB (by decide)));replace vb:=vb.later nm;obtain⟨c,sc,nc,vc,N,h⟩:=gb h N (hR.block);replace vb:=vb.later nc;exact qW N (zQ N.le N.wf (KH vb (XE vc)) h) (by decide)
  |false=>
  rw[if_neg (by decide)] at h;obtain⟨a5,sa5,na5,Pf,N,h⟩:=gm h N;cases a5 with
  |true=>
   rw[if_pos rfl] at h;obtain⟨x,sx,nx,vx,N,h⟩:=gb h N (hR.expr);obtain⟨q,sq,nq,vq,N,h⟩:=gb h N (zq);replace vx:=vx.later nq;obtain⟨m,sm,nm,vm,N,h⟩:=gb h N ((yB (by decide)));replace vx:=vx.later nm;obtain⟨b,sb,nb,vb,N,h⟩:=gb h N (hR.block);replace vx:=vx.later nb;obtain⟨r,sr,nr,vr,N,h⟩:=gb h N (zq);replace vx:=vx.later nr;replace vb:=vb.later nr;obtain⟨c,sc,nc,vc,N,h⟩:=gb h N (hR.block);replace vx:=vx.later nc;replace vb:=vb.later nc;exact qW N (zQ N.le N.wf (KH vx (KH vb (XE vc))) h) (by decide)
  |false=>
  rw[if_neg (by decide)] at h;obtain⟨a6,sa6,na6,fM,N,h⟩:=gm h N;cases a6 with
  |true=>
   rw[if_pos rfl] at h;obtain⟨m,sm,nm,vm,N,h⟩:=gb h N ((yB (by decide)));obtain⟨l,sl,nl,vl,N,h⟩:=gb h N ((kP (VC hR)));exact qW N (zQ N.le N.wf (vl) h) (by decide)
  |false=>
  rw[if_neg (by decide)] at h;obtain⟨a7,sa7,na7,dJ,N,h⟩:=gm h N;cases a7 with
  |true=>
   rw[if_pos rfl] at h;obtain⟨k,sk,nk,vk,N,h⟩:=gb h N (hR.kind);obtain⟨q,sq,nq,vq,N,h⟩:=gb h N (zq);replace vk:=vk.later nq;obtain⟨m,sm,nm,vm,N,h⟩:=gb h N ((yB (by decide)));replace vk:=vk.later nm;obtain⟨r,sr,nr,vr,N,h⟩:=gb h N (zq);replace vk:=vk.later nr;exact qW N (zQ N.le N.wf (XE vk) h) (by decide)
  |false=>
  rw[if_neg (by decide)] at h;obtain⟨q,sq,nq,vq,N,h⟩:=gb h N (zq);obtain⟨l,sl,nl,vl,N,h⟩:=gb h N ((za2 hR));exact qW N (zQ N.le N.wf (vl) h) (by decide)
def zcO{R:qi}(hR:yW R):Gd 0 Vd (Zi R):=by
 intro E s a s' h0 hw h;have N:=Nx.refl h0 hw;unfold Zi at h;obtain⟨t,s0,h1,h⟩:=zo h;cases h1;split at h
 ·rename_i hk;obtain⟨u,s1,h1,h⟩:=zo h;have n1:=vV (qw (k:=3) (by simpa using hk) (by decide)) hw h1;replace N:=N.trans n1;exact qW N (zQ N.le N.wf (JT) h) (by decide)
 split at h
 ·rename_i hk;obtain⟨u,s1,h1,h⟩:=zo h;have n1:=vV (qw (k:=4) (by simpa using hk) (by decide)) hw h1;replace N:=N.trans n1;exact qW N (zQ N.le N.wf (JT) h) (by decide)
 split at h
 ·rename_i hk;obtain⟨u,s1,h1,h⟩:=zo h;have n1:=vV (qw (k:=1) (by simpa using hk) (by decide)) hw h1;replace N:=N.trans n1;exact qW N (zQ N.le N.wf (JT) h) (by decide)
 split at h
 ·rename_i hk;obtain⟨u,s1,h1,h⟩:=zo h;have n1:=vV (qw (k:=2) (by simpa using hk) (by decide)) hw h1;replace N:=N.trans n1;obtain⟨l,sl,nl,vl,N,h⟩:=gb h N ((ZV hR.expr));exact qW N (zQ N.le N.wf (vl) h) (by decide)
 obtain⟨a1,MA,fB,sB,N,h⟩:=gm h N;cases a1 with
 |true=>
  rw[if_pos rfl] at h;obtain⟨a2,Rl,Mq,tf,N,h⟩:=gm h N;cases a2 with
  |true=>
   rw[if_pos rfl] at h;exact qW N (zQ N.le N.wf (JT) h) (by decide)
  |false=>
   rw[if_neg (by decide)] at h;obtain⟨x,sx,nx,vx,N,h⟩:=gb h N (hR.expr);obtain⟨q,sq,nq,vq,N,h⟩:=gb h N (zq);replace vx:=vx.later nq;obtain⟨rfl,rfl⟩:=zK h;exact⟨N.down (by decide),vx⟩
 |false=>
 rw[if_neg (by decide)] at h;obtain⟨a3,Aq,By,tg,N,h⟩:=gm h N;cases a3 with
 |true=>
  rw[if_pos rfl] at h;exact qW N (zQ N.le N.wf (JT) h) (by decide)
 |false=>
 rw[if_neg (by decide)] at h;obtain⟨a4,Ar,Bz,fL,N,h⟩:=gm h N;cases a4 with
 |true=>
  rw[if_pos rfl] at h;exact qW N (zQ N.le N.wf (JT) h) (by decide)
 |false=>
 rw[if_neg (by decide)] at h;have BY:s.next=Ar.next:=by
  have e1:MA=s:=by unfold yo at sB;split at sB <;> cases sB;rfl
  have e3:Aq=MA:=by unfold yo at tg;split at tg <;> cases tg;rfl
  have e4:Ar=Aq:=by unfold yo at fL;split at fL <;> cases fL;rfl
  rw[e4,e3,e1]
 cases Rc:xB (zw E s).text with
 |some w=>
  rw[Rc] at h;simp only at h;split at h
  ·rename_i hk;obtain⟨u,s1,h1,h⟩:=zo h;have mD:=qw (k:=5) (by simpa using hk) (by decide);have n1:=vV (by omega) N.wf h1;replace N:=N.trans n1;obtain⟨nb,vb⟩:=zk8 hR _ w N.le N.wf h;exact⟨(N.trans nb).down (by decide),vb⟩
  ·obtain⟨nb,vb⟩:=zam hR _ N.le N.wf h;exact⟨(N.trans nb).down (by decide),vb⟩
 |none=>
  rw[Rc] at h;obtain⟨nb,vb⟩:=zam hR _ N.le N.wf h;exact⟨(N.trans nb).down (by decide),vb⟩
theorem zcg{R:qi}(hR:yW R):∀(n:Nat) (left:Int) {E:zr} {s:yx} {a:Int} {s':yx},s.next<=E.tz.length->WFs s->Vd s left->Zf R n left E s=.ok a s'->Nx E 0 s s'/\Vd s' a
 |0,_,_,_,_,_,_,_,_,h=>by cases h
 |n+1,left,E,s,a,s',h0,hw,vl,h=>by
  have N:=Nx.refl h0 hw;unfold Zf at h;obtain⟨t,s1,h1,h⟩:=zo h;cases h1;obtain⟨a1,MA,fB,sB,N,h⟩:=gm h N;replace vl:=vl.later fB;cases a1 with
  |true=>
   rw[if_pos rfl] at h;obtain⟨m,sm,nm,vm,N,h⟩:=gb h N ((yB (by decide)));replace vl:=vl.later nm;obtain⟨x,s9,h9,h⟩:=zo h;obtain⟨nz,vz⟩:=zQ N.le N.wf (XE vl) h9;replace N:=N.trans nz;obtain⟨n4,v4⟩:=zcg hR n x N.le N.wf vz h;exact⟨(N.trans n4).down (by decide),v4⟩
  |false=>
  rw[if_neg (by decide)] at h;obtain⟨a2,Rl,Mq,tf,N,h⟩:=gm h N;replace vl:=vl.later Mq;cases a2 with
  |true=>
   rw[if_pos rfl] at h;obtain⟨k,sk,nk,vk,N,h⟩:=gb h N ((uQ hR.expr));replace vl:=vl.later nk;obtain⟨q,sq,nq,vq,N,h⟩:=gb h N (zq);replace vl:=vl.later nq;replace vk:=vk.later nq;obtain⟨x,s9,h9,h⟩:=zo h;obtain⟨nz,vz⟩:=zQ N.le N.wf (KH vl vk) h9;replace N:=N.trans nz;obtain⟨n4,v4⟩:=zcg hR n x N.le N.wf vz h;exact⟨(N.trans n4).down (by decide),v4⟩
  |false=>
  rw[if_neg (by decide)] at h;obtain⟨rfl,rfl⟩:=zK h;exact⟨N.down (by decide),vl⟩
def YJ{R:qi}(hR:yW R):Gd 0 Vd (vO R):=by
 intro E s a s' h0 hw h;have N:=Nx.refl h0 hw;unfold vO at h;obtain⟨b,s1,h1,h⟩:=zo h;cases h1;split at h
 ·rename_i hb;obtain⟨t,s2,h2,h⟩:=zo h;have n2:=vU (uB hb) hw h2;replace N:=N.trans n2;obtain⟨x,sx,nx,vx,N,h⟩:=gb h N (hR.unary);exact qW N (zQ N.le N.wf (XE vx) h) (by decide)
 ·obtain⟨l,sl,nl,vl,N,h⟩:=gb h N ((zcO hR));obtain⟨n4,v4⟩:=zcg hR _ l N.le N.wf vl h;exact⟨(N.trans n4).down (by decide),v4⟩
def KX{R:qi}(hR:yW R):Gd 0 Vd (zho R):=Xk (YJ hR) 4
def KY{R:qi}(hR:yW R):Gd 0 Vd (XQ R):=Xk (KX hR) 3
def Zz{R:qi}(hR:yW R):Gd 0 Vd (Zy R):=by
 intro E s a s' h0 hw h;have N:=Nx.refl h0 hw;unfold Zy at h;obtain⟨b,s1,h1,h⟩:=zo h;cases h1;split at h
 ·rename_i hb;obtain⟨t,s2,h2,h⟩:=zo h;have n2:=vU (uB hb) hw h2;replace N:=N.trans n2;obtain⟨x,sx,nx,vx,N,h⟩:=gb h N (hR.bin2);exact qW N (zQ N.le N.wf (XE vx) h) (by decide)
 ·obtain⟨n4,v4⟩:=Xk (KY hR) 2 N.le N.wf h;exact⟨(N.trans n4).down (by decide),v4⟩
def zlX{R:qi}(hR:yW R):Gd 0 Vd (zeh R):=Xk (Xk (Zz hR) 1) 0
def zfJ{R:qi}(hR:yW R):Gd 0 Vd (jo R):=by
 intro E s a s' h0 hw h;have N:=Nx.refl h0 hw;unfold jo at h;obtain⟨t,s0,h1,h⟩:=zo h;cases h1;split at h
 ·rename_i hk;obtain⟨u,s1,h1,h⟩:=zo h;have n1:=vV (qw (k:=1) (by simpa using hk) (by decide)) hw h1;replace N:=N.trans n1;exact qW N (zQ N.le N.wf (JT) h) (by decide)
 split at h
 ·rename_i hk;obtain⟨u,s1,h1,h⟩:=zo h;have n1:=vV (qw (k:=3) (by simpa using hk) (by decide)) hw h1;replace N:=N.trans n1;exact qW N (zQ N.le N.wf (JT) h) (by decide)
 split at h
 ·rename_i hk;obtain⟨u,s1,h1,h⟩:=zo h;have n1:=vV (qw (k:=4) (by simpa using hk) (by decide)) hw h1;replace N:=N.trans n1;exact qW N (zQ N.le N.wf (JT) h) (by decide)
 split at h
 ·rename_i hk;obtain⟨u,s1,h1,h⟩:=zo h;have n1:=vV (qw (k:=2) (by simpa using hk) (by decide)) hw h1;replace N:=N.trans n1;obtain⟨l,sl,nl,vl,N,h⟩:=gb h N ((ZV hR.pattern));exact qW N (zQ N.le N.wf (vl) h) (by decide)
 obtain⟨a1,MA,fB,sB,N,h⟩:=gm h N;cases a1 with
 |true=>
  rw[if_pos rfl] at h;exact qW N (zQ N.le N.wf (JT) h) (by decide)
 |false=>
 rw[if_neg (by decide)] at h;obtain⟨a2,Rl,Mq,tf,N,h⟩:=gm h N;cases a2 with
 |true=>
  rw[if_pos rfl] at h;exact qW N (zQ N.le N.wf (JT) h) (by decide)
 |false=>
 rw[if_neg (by decide)] at h;obtain⟨q,sq,nq,vq,N,h⟩:=gb h N (zq);obtain⟨m,sm,nm,vm,N,h⟩:=gb h N ((yB (by decide)));exact qW N (zQ N.le N.wf (JT) h) (by decide)
def Qs{Q:yx->α->Prop}{m:PM α}(hm:∀E s,m E s=.bad 0):Gd d Q m:=by
 intro E s a s' _ _ h;rw[hm] at h;cases h
def zhl:yW zmt:=⟨Qs λ_ _=>rfl,Qs λ_ _=>rfl,Qs λ_ _=>rfl,Qs λ_ _=>rfl,Qs λ_ _=>rfl,Qs λ_ _=>rfl,Qs λ_ _=>rfl⟩
theorem jm:∀n,yW (Yi n)
 |0=>zhl
 |n+1=>⟨zlX (jm n),YJ (jm n),Zz (jm n),zkw (jm n),zbC (jm n),zlJ (jm n),zfJ (jm n)⟩
def Nx.adv{E:zr}{s s':yx}(n:Nx E d s s'):(s.next:Int)+d<=s'.next:=by
 obtain⟨r,hr⟩:=n.pre;have:=n.cr;rw[hr,pE] at this;omega
structure yJ where
 nz:List Nd
 iz:List Int
 deriving DecidableEq
inductive xf where
 |expr|stmt|type|pattern|way|item|els|jx
 |one (k:Nat)
 deriving DecidableEq
def zz(k:Nat):Bool:=decide (1<=k) && decide (k<=51) && k != 27 && k != 32 && k != 28
def xf.is:xf->Nat->Bool
 | .expr,k=>zz k
 | .stmt,k=>(decide (60<=k) && decide (k<=62)) || zz k
 | .type,k=>decide (80<=k) && decide (k<=87)
 | .pattern,k=>decide (66<=k) && decide (k<=70)
 | .way,k=>decide (63<=k) && decide (k<=65)
 | .item,k=>decide (100<=k) && decide (k<=104)
 | .els,k=>k == 28 || k == 29
 | .jx,k=>k == 5 || k == 23
 | .one j,k=>k == j
structure xA where
 first:List xf
 more:Option xf
 least:Nat
 last:List xf
 deriving DecidableEq
def ZZ(l:List xf):xA:=⟨l,none,0,[]⟩
def zM(k:Nat):Option xA:=
 if [1,2,3,4,5,44,45,46,80,81,82,83,84,66,67,68,69].contains k then some (ZZ [])
 else if [6,7,23,27,37,38,39,42,43,47,50,51,60,61,65].contains k then some (ZZ [.expr])
 else if [41,48,63].contains k then some (ZZ [.expr,.expr])
 else if [49,64].contains k then some (ZZ [.expr,.expr,.expr])
 else if k == 24 then some ⟨[.expr],some .expr,0,[]⟩
 else if k == 25 then some ⟨[],some .expr,0,[]⟩
 else if k == 26 then some ⟨[],some (.one 27),1,[]⟩
 else if k == 28 then some ⟨[],some .stmt,0,[]⟩
 else if k == 29 then some ⟨[.expr,.one 28],some .els,0,[]⟩
 else if k == 30 then some (ZZ [.expr,.one 28])
 else if k == 31 then some ⟨[.expr],some (.one 32),1,[]⟩
 else if k == 32 then some (ZZ [.pattern,.expr])
 else if k == 33 || k == 102 then some ⟨[],some (.one 88),0,[.type,.one 28]⟩
 else if k == 34 then some (ZZ [.one 28,.one 28])
 else if k == 35 then some ⟨[],some .way,1,[]⟩
 else if k == 36 then some (ZZ [.expr,.one 28,.one 28])
 else if k == 40 || k == 86 || k == 87 || k == 88 then some (ZZ [.type])
 else if k == 62 then some (ZZ [.jx,.expr])
 else if k == 70 then some ⟨[],some .pattern,0,[]⟩
 else if k == 85 then some ⟨[],some .type,0,[.type]⟩
 else if k == 89 then some ⟨[],some .type,0,[]⟩
 else if k == 100 then some ⟨[],some (.one 88),1,[]⟩
 else if k == 101 then some ⟨[],some (.one 89),1,[]⟩
 else if k == 103 then some ⟨[],some (.one 88),0,[.type]⟩
 else if k == 104 then some (ZZ [.type,.expr])
 else if decide (8<=k) && decide (k<=22) then some (ZZ [.expr,.expr])
 else none
def xA.at_(s:xA)(k many:Nat):Option xf:=
 if k<s.first.length then s.first[k]?
 else if many<=k+s.last.length then s.last[k+s.last.length-many]?
 else s.more
def xA.fits(s:xA)(many:Nat):Bool:=
 decide (s.first.length+s.last.length+s.least<=many) && (s.more.isSome || decide (many=s.first.length+s.last.length))
def jS(k:Nat):Nat:=
 if k == 2 || k == 68 then 4
 else if [25,26,84,70,89,100,101].contains k then 2
 else if [5,23,27,66,88,60,61,34,36,63,102,103,104].contains k then 1
 else 0
def xF(k:Nat):Int×Int:=
 if k == 1 || k == 40 then (0,1000000000)
 else if k == 67 then (-1000000000,1000000000)
 else if k == 3 || k == 69 || k == 28 || k == 102 then (0,1)
 else (0,0)
def vY(x:Nd):Bool:=
 if x.n<(xF x.kind).1\/(xF x.kind).2<x.n\/x.at_<0\/3000<x.at_ then false
 else if jS x.kind == 0 then x.text == []
 else (jf (jS x.kind) x.text).2 == 0
def zD(l:List Nd)(k:Int):Nat:=(l[k.toNat]?).elim 0 Nd.kind
def xT(l:List Nd)(x:Nd):Bool:=
 if x.kz.any λk=>decide (k<0) || decide ((l.length:Int)<=k) then false
 else if x.kind == 28 then x.n == 0 || (match x.kz.getLast? with|some k=>zz (zD l k)|none=>false)
 else if x.kind == 29 then decide (x.kz.length<=3)
 else if x.kind == 35 then decide (x.kz.length<=(x.kz.findIdx λk=>zD l k == 65)+1)
 else true
def Yb(g:Int->Int->xf->Option Int)(h:xA)(many:Nat):List Int->Int->Option Int
 |[],next=>some next
 |k :: r,next=>match h.at_ r.length many with
  |none=>none
  |some s=>(g next k s).bind (Yb g h many r)
def qX(l:List Nd):Nat->Int->Int->xf->Option Int
 |0,_,_,_=>none
 |f+1,next,number,s=>
  if next<0\/number≠next then none else
  match l[number.toNat]? with
  |none=>none
  |some x=>match zM x.kind with
   |none=>none
   |some h=>if s.is x.kind && vY x && h.fits x.kz.length && xT l x then Yb (qX l f) h x.kz.length x.kz.reverse (next-1) else none
def Xe(l:List Nd):List Int->Int->Option Int
 |[],next=>some next
 |k :: r,next=>(qX l (l.length+1) next k .item).bind (Xe l r)
def jN(t:yJ):Bool:=match Xe t.nz t.iz.reverse ((t.nz.length:Int)-1) with
 |some next=>decide (next<0)
 |none=>false
def xN(d:Nat):List Int->List Nat->List Nat
 |[],deep=>deep
 |k :: r,deep=>xN d r (deep.set k.toNat (d+1))
def XR(l:List Nd):Nat->List Nat->Nat->Nat
 |0,_,most=>most
 |i+1,deep,most=>XR l i (xN (deep.getD i 0) ((l[i]?).elim [] Nd.kz) deep) (max most (deep.getD i 0))
def jO(t:yJ):Nat:=XR t.nz t.nz.length (t.iz.foldl (λd k=>d.set k.toNat 1) (List.replicate t.nz.length 0)) 0
def jJ(k:Nat):Nat:=
 if k == 102 || k == 33 then 8
 else if k == 103 || k == 85 || k == 24 then 7
 else if k == 100 || k == 26 then 6
 else if k == 101 then 8
 else if k == 89 || k == 25 || k == 70 then 4
 else if k == 31 then 13
 else if k == 35 then 4
 else 1000
def xE(x:Nd):Bool:=if x.kind == 40 then decide (1<=x.n) && decide (x.n<=8) else decide (x.kz.length<=jJ x.kind)
def yU(t:yJ):Nat:=
 if 1000<t.nz.length\/40<t.iz.length then 5
 else if !jN t then 4
 else if 40<jO t then 5
 else if t.nz.any λx=> !xE x then 3
 else 0
def Qv(p:α->Bool)(l:List α):Int:=match l.findIdx? p with
 |some i=>i
 |none=> -1
def upT(t:yJ)(node:Int):Int:=Qv (λx=>x.kz.contains node) t.nz
def zi8(t:yJ):Nat->Int->List Int->List Int
 |0,_,acc=>acc
 |f+1,at_,acc=>if at_<0 then acc else zi8 t f (upT t at_) (at_ :: acc)
def zi7(t:yJ)(node:Int):List Int:=zi8 t (t.nz.length+1) node []
def JW(l:List Nd):Nat->Int->Int
 |0,_=>0
 |f+1,node=>((l[node.toNat]?).elim [] Nd.kz).foldl (λn k=>n+JW l f k) 1
def zgM(t:yJ)(node:Int):Int:=JW t.nz (t.nz.length+1) node
def zby(t:yJ)(node:Int)(of:yJ->Int->α)(d:α):α×Nat:=
 if yU t≠0 then (d,yU t)
 else if node<0\/(t.nz.length:Int)<=node then (d,7)
 else (of t node,0)
def zck(t:yJ)(node:Int):Int×Nat:=zby t node upT 0
def zjP(t:yJ)(node:Int):List Int×Nat:=zby t node zi7 []
def ze1(t:yJ)(node:Int):Int×Nat:=zby t node zgM 0
def zcL(t:yJ)(p:Int):Int×Nat:=
 if yU t≠0 then (0,yU t)
 else if Qv (λx=>x.at_ == p) t.nz<0 then (0,7)
 else (Qv (λx=>x.at_ == p) t.nz,0)
def yQ(s:List UInt8):yJ×Int×Nat:=
 match vB s with
 |(l,at_,e)=>if e≠0 then (⟨[],[]⟩,at_,e) else
  match qh l s.length with
  | .bad p=>(⟨[],[]⟩,p,4)
  | .ok _ st=>
   if 1000<st.nz.length\/40<st.iz.length\/40<jO ⟨st.nz,st.iz⟩ then (⟨[],[]⟩,0,5)
   else match st.nz.find? λx=> !xE x with
    |some x=>(⟨[],[]⟩,x.at_,3)
    |none=>(⟨st.nz,st.iz⟩,0,0)
def xU(k:Nat):Option (List UInt8):=
 if k == 22 then some [111,114] else if k == 21 then some [97,110,100]
 else if k == 14 then some [61,61] else if k == 15 then some [33,61] else if k == 16 then some [60] else if k == 17 then some [60,61] else if k == 18 then some [62] else if k == 19 then some [62,61] else if k == 20 then some [105,115]
 else if k == 8 then some [43] else if k == 9 then some [45] else if k == 10 then some [43,43]
 else if k == 11 then some [42] else if k == 12 then some [47] else if k == 13 then some [37]
 else none
def qx(k:Nat):Nat:=
 if k == 22 then 1 else if k == 21 then 2 else if decide (14<=k) && decide (k<=20) then 4
 else if k == 8 || k == 9 || k == 10 then 5 else if k == 11 || k == 12 || k == 13 then 6
 else if k == 7 then 3 else if k == 6 || k == 37 || k == 38 || k == 39 then 7
 else if k == 23 || k == 24 then 8 else 9
def vS:List (List UInt8)->List UInt8
 |[]=>[]
 |[x]=>x
 |x :: r=>x ++ [44,32] ++ vS r
section
variable (l:List Nd) (pr:Int→List UInt8)
def jF(node:Int)(least:Nat):List UInt8:=if qx (zD l node)<least then [40] ++ pr node ++ [41] else pr node
def qo(k:List Int):List UInt8:=vS (k.map pr)
def uI(k:List Int):List UInt8:=if k=[] then [] else [40] ++ qo pr k ++ [41]
def qA(last:Bool):List Int->List UInt8
 |[]=>[]
 |[k]=>pr k ++ (if last then [] else [59]) ++ [32]
 |k :: r=>pr k ++ [59] ++ [32] ++ qA last r
def Xs(x:Nd):List UInt8:=if x.kz=[] then [123,125] else [123,32] ++ qA pr (x.n != 0) x.kz ++ [125]
def zW(x:Nd)(i:Nat):Int:=x.kz.getD i 0
def jc(x:Nd)(without:Nat):List UInt8:=[40] ++ qo pr (x.kz.take (x.kz.length-1-without)) ++ [41,58,32] ++ pr (zW x (x.kz.length-1-without))
def kH(x:Nd):List UInt8:=
 if x.kind == 60 then [108,101,116,32] ++ x.text ++ [32,61,32] ++ pr (zW x 0)
 else if x.kind == 61 then [118,97,114,32] ++ x.text ++ [32,61,32] ++ pr (zW x 0)
 else if x.kind == 62 then pr (zW x 0) ++ [32,58,61,32] ++ pr (zW x 1)
 else if x.kind == 63 then [114,101,99,118,32] ++ pr (zW x 0) ++ [32,97,115,32] ++ x.text ++ [32,61,62,32] ++ pr (zW x 1)
 else if x.kind == 64 then [115,101,110,100,32] ++ qo pr (x.kz.take 2) ++ [32,61,62,32] ++ pr (zW x 2)
 else [101,108,115,101,32,61,62,32] ++ pr (zW x 0)
def qu(x:Nd):List UInt8:=
 if x.kind == 80 then [105,110,116] else if x.kind == 81 then [98,111,111,108] else if x.kind == 82 then [116,101,120,116] else if x.kind == 83 then [117,110,105,116]
 else if x.kind == 85 then [102,110] ++ jc pr x 0
 else if x.kind == 86 then [99,104,97,110,32] ++ pr (zW x 0)
 else if x.kind == 87 then [119,101,97,107,32] ++ pr (zW x 0)
 else if x.kind == 88 then x.text ++ [58,32] ++ pr (zW x 0)
 else if x.kind == 100 then [99,108,97,115,115,32] ++ x.text ++ [32,123,32] ++ qo pr x.kz ++ [32,125]
 else if x.kind == 101 then [107,105,110,100,32] ++ x.text ++ [32,123,32] ++ qo pr x.kz ++ [32,125]
 else if x.kind == 103 then [101,120,116,101,114,110,32,102,117,110,32] ++ x.text ++ jc pr x 0 ++ [59]
 else if x.kind == 104 then [114,111,111,116,32] ++ x.text ++ [58,32] ++ pr (zW x 0) ++ [32,61,32] ++ pr (zW x 1) ++ [59]
 else (if x.n == 1 then [112,117,114,101,32] else []) ++ ([102,117,110,32] ++ x.text ++ jc pr x 1 ++ [32] ++ pr (zW x (x.kz.length-1)))
def xP(x:Nd):List UInt8:=
 if x.kind == 29 then [105,102,32] ++ pr (zW x 0) ++ [32] ++ pr (zW x 1) ++ (if x.kz.length == 3 then [32,101,108,115,101,32] ++ pr (zW x 2) else [])
 else if x.kind == 30 then [119,104,105,108,101,32] ++ pr (zW x 0) ++ [32] ++ pr (zW x 1)
 else if x.kind == 31 then [109,97,116,99,104,32] ++ pr (zW x 0) ++ [32,123,32] ++ qo pr (x.kz.drop 1) ++ [32,125]
 else if x.kind == 32 then pr (zW x 0) ++ [32,61,62,32] ++ pr (zW x 1)
 else if x.kind == 33 then [102,110] ++ jc pr x 1 ++ [32] ++ pr (zW x (x.kz.length-1))
 else if x.kind == 34 then [116,114,121,32] ++ pr (zW x 0) ++ [32,99,97,116,99,104,32] ++ x.text ++ [32] ++ pr (zW x 1)
 else if x.kind == 35 then [115,101,108,101,99,116,32,123,32] ++ qo pr x.kz ++ [32,125]
 else if x.kind == 36 then [104,111,108,100,32] ++ pr (zW x 0) ++ [32,97,115,32] ++ x.text ++ [32] ++ pr (zW x 1) ++ [32,101,108,115,101,32] ++ pr (zW x 2)
 else if x.kind == 26 then [110,101,119,32] ++ x.text ++ [32,123,32] ++ qo pr x.kz ++ [32,125]
 else if x.kind == 27 then x.text ++ [58,32] ++ pr (zW x 0)
 else [99,104,97,110,32] ++ pr (zW x 0) ++ [40] ++ Go.Lib.itoa x.n ++ [41]
def xo(x:Nd):List UInt8:=
 match xU x.kind with
 |some sign=>jF l pr (zW x 0) (if qx x.kind == 4 then 5 else qx x.kind) ++ [32] ++ sign ++ [32] ++ jF l pr (zW x 1) (qx x.kind+1)
 |none=>
  if x.kind == 1 || x.kind == 67 then Go.Lib.itoa x.n
  else if x.kind == 2 || x.kind == 68 then (vC x.text).1
  else if x.kind == 3 || x.kind == 69 then (if x.n == 1 then [116,114,117,101] else [102,97,108,115,101])
  else if x.kind == 4 then [40,41]
  else if x.kind == 5 || x.kind == 66 || x.kind == 84 then x.text
  else if x.kind == 6 then (if zD l (zW x 0) == 6 then [45,32] ++ pr (zW x 0) else [45] ++ jF l pr (zW x 0) 7)
  else if x.kind == 7 then [110,111,116,32] ++ jF l pr (zW x 0) 3
  else if x.kind == 23 then jF l pr (zW x 0) 8 ++ [46] ++ x.text
  else if x.kind == 24 then (if zD l (zW x 0) == 25 && ((l[(zW x 0).toNat]?).elim [] Nd.kz).isEmpty then [40] ++ jF l pr (zW x 0) 8 ++ [41] else jF l pr (zW x 0) 8) ++ [40] ++ qo pr (x.kz.drop 1) ++ [41]
  else if x.kind == 25 || x.kind == 70 || x.kind == 89 then x.text ++ uI pr x.kz
  else if x.kind == 28 then Xs pr x
  else match zN.find? λw=>w.2.1 == x.kind with
   |some w=>if w.2.2<0 then w.1 ++ [32] ++ jF l pr (zW x 0) 7 else if w.2.2 == 0 then w.1 else w.1 ++ [40] ++ qo pr x.kz ++ [41]
   |none=>
    if decide (60<=x.kind) && decide (x.kind<=65) then kH pr x
    else if 80<=x.kind then qu pr x
    else xP pr x
end
def prN(l:List Nd):Nat->Int->List UInt8
 |0,_=>[]
 |f+1,node=>match l[node.toNat]? with
  |some x=>xo l (prN l f) x
  |none=>[]
def prT(t:yJ)(node:Int):List UInt8:=prN t.nz (t.nz.length+1) node
def YZ(s:List UInt8):List UInt8×Nat:=if (vB s).2.2≠0 then ([],5) else (s,0)
def Qi(t:yJ):List UInt8×Nat:=if yU t≠0 then ([],yU t) else YZ (t.iz.flatMap λk=>prT t k ++ [10])
def Zw(s:List UInt8):List UInt8×Int×Nat:=match yQ s with
 |(t,at_,e)=>if e≠0 then ([],at_,e) else ((Qi t).1,0,(Qi t).2)
def xr(k:Nat):Nat×Nat:=
 if [1,2,3,4,5,44,45,46,66,67,68,69,80,81,82,83,84].contains k then (0,0)
 else if [6,7,23,27,37,38,39,40,42,43,47,50,51,60,61,65,86,87,88].contains k then (1,1)
 else if [49,64,36].contains k then (3,3)
 else if k == 29 then (2,3)
 else if [24,26,35,85,103,100,101].contains k then (1,2000)
 else if [31,33,102].contains k then (2,2000)
 else if [25,28,70,89].contains k then (0,2000)
 else (2,2)
def yc(k:Nat)(n:Int)(m i kd:Nat):Bool:=
 if k == 100 then kd == 88
 else if k == 101 then kd == 89
 else if k == 26 then kd == 27
 else if k == 70 then xf.pattern.is kd
 else if k == 88 || k == 89 || k == 85 || k == 86 || k == 87 || k == 40 then xf.type.is kd
 else if k == 103 then (decide (i+1<m) && kd == 88) || (decide (i+1=m) && xf.type.is kd)
 else if k == 102 || k == 33 then (decide (i+2<m) && kd == 88) || (decide (i+2=m) && xf.type.is kd) || (decide (i+1=m) && kd == 28)
 else if k == 104 then (decide (i=0) && xf.type.is kd) || (decide (i=1) && zz kd)
 else if k == 28 then xf.stmt.is kd && (decide (i+1<m) || n == 0 || zz kd)
 else if k == 62 then (decide (i=1) && zz kd) || (decide (i=0) && (kd == 5 || kd == 23))
 else if k == 29 then (decide (i=0) && zz kd) || (decide (0<i) && kd == 28) || (decide (i=2) && kd == 29)
 else if k == 30 || k == 36 then (decide (i=0) && zz kd) || (decide (0<i) && kd == 28)
 else if k == 34 then kd == 28
 else if k == 31 then (decide (i=0) && zz kd) || (decide (0<i) && kd == 32)
 else if k == 32 then (decide (i=0) && xf.pattern.is kd) || (decide (i=1) && zz kd)
 else if k == 35 then xf.way.is kd && (decide (i+1=m) || kd != 65)
 else zz kd
def qd(k:Nat)(n:Int)(m:Nat):Bool:=
 if k == 1 || k == 40 then decide (0<=n) && decide (n<=1000000000)
 else if k == 67 then decide (-1000000000<=n) && decide (n<=1000000000)
 else if k == 3 || k == 69 || k == 102 then n == 0 || n == 1
 else if k == 28 then n == 0 || (n == 1 && decide (0<m))
 else n == 0
def yT(k:Nat):Bool:=(decide (1<=k) && decide (k<=51)) || (decide (60<=k) && decide (k<=70)) || (decide (80<=k) && decide (k<=89)) || (decide (100<=k) && decide (k<=104))
def ky(x:Nd):Bool:=if jS x.kind == 0 then x.text == [] else (jf (jS x.kind) x.text).2 == 0
def yF(l:List Nd)(x:Nd):Bool:=
 yT x.kind && decide ((xr x.kind).1<=x.kz.length) && decide (x.kz.length<=(xr x.kind).2) && qd x.kind x.n x.kz.length && decide (0<=x.at_) && decide (x.at_<=3000) && ky x &&
 (List.range x.kz.length).all λi=>yc x.kind x.n x.kz.length i (zD l (x.kz.getD i 0))
def jD(h:xA)(m i kd:Nat):Bool:=match h.at_ i m with
 |some s=>s.is kd
 |none=>false
def xY(l:List Nd)(x:Nd):Bool:=match zM x.kind with
 |none=>false
 |some h=>vY x && h.fits x.kz.length && xT l x && (List.range x.kz.length).all λi=>jD h x.kz.length i (zD l (x.kz.getD i 0))
def Xb(h:yT k=true):k<=104:=by
 simp only[yT,wG,pJ,pK] at h;omega
def zd7:∀k,k<=104->(zM k).isSome=yT k:=by decide +kernel
def ze5(h:¬k<=104):zM k=none:=by
 have h2:∀(l:List Nat),(∀x∈l,x<=104)->l.contains k=false:=λl hl=>by
  rw[Bool.eq_false_iff];intro hc;rw[List.contains_iff_mem] at hc;exact h (hl k hc)
 have h3:∀j,j<=104->(k == j)=false:=λj hj=>by rw[pB];omega
 unfold zM;rw[h2 _ (by decide),h2 _ (by decide),h2 _ (by decide),h2 _ (by decide)];simp only[h3 24 (by decide),h3 25 (by decide),h3 26 (by decide),h3 28 (by decide),h3 29 (by decide),h3 30 (by decide),h3 31 (by decide),h3 32 (by decide),h3 33 (by decide),h3 102 (by decide),h3 34 (by decide),h3 35 (by decide),h3 36 (by decide),h3 40 (by decide),h3 86 (by decide),h3 87 (by decide),h3 88 (by decide),h3 62 (by decide),h3 70 (by decide),h3 85 (by decide),h3 89 (by decide),h3 100 (by decide),h3 101 (by decide),h3 103 (by decide),h3 104 (by decide)];rw[show decide (k<=22)=false from by rw[wQ];omega];simp
def JX(k:Nat):(zM k).isSome=yT k:=by
 by_cases h:k<=104
 ·exact zd7 k h
 ·rw[ze5 h];cases hk:yT k with
  |true=>exact absurd (Xb hk) h
  |false=>rfl
def Yp(x:Nd):vY x=((decide ((xF x.kind).1<=x.n) && decide (x.n<=(xF x.kind).2)) && (decide (0<=x.at_) && decide (x.at_<=3000)) && ky x):=by
 unfold vY ky;by_cases h:x.n<(xF x.kind).1\/(xF x.kind).2<x.n\/x.at_<0\/3000<x.at_
 ·rw[if_pos h];symm;rw[Bool.and_eq_false_iff];left;rw[Bool.and_eq_false_iff,Bool.and_eq_false_iff,Bool.and_eq_false_iff];simp only[wQ];omega
 ·rw[if_neg h];have h1:decide ((xF x.kind).1<=x.n)=true:=by rw[pK];omega
  have h2:decide (x.n<=(xF x.kind).2)=true:=by rw[pK];omega
  have h3:decide (0<=x.at_)=true:=by rw[pK];omega
  have h4:decide (x.at_<=3000)=true:=by rw[pK];omega
  rw[h1,h2,h3,h4];simp
def kE{p:Nat->Bool}(h:∀i,i<m->p i=q i):(List.range m).all p=(List.range m).all q:=by
 rw[pP,pY,pY];constructor <;> (intro hh i hi;have:=hh i hi;have e:=h i (List.mem_range.1 hi);simp_all)
def zjy{l:List Nd}{x:Nd}{h:xA}(hs:zM x.kind=some h)(eY:xT l x=true)(hf:h.fits x.kz.length=(decide ((xr x.kind).1<=x.kz.length) && decide (x.kz.length<=(xr x.kind).2)))(hb:(decide ((xF x.kind).1<=x.n) && decide (x.n<=(xF x.kind).2))=qd x.kind x.n x.kz.length)(hd:h.fits x.kz.length=true->∀i,i<x.kz.length->∀kd,jD h x.kz.length i kd=yc x.kind x.n x.kz.length i kd):xY l x=yF l x:=by
 have hk:yT x.kind=true:=by rw[<-JX,hs];rfl
 unfold xY yF;rw[hs];simp only[eY,hk,Yp,hb,<-hf,Bool.true_and,Bool.and_true];cases nw:h.fits x.kz.length with
 |false=>
  simp
 |true=>
  rw[kE (λi hi=>hd nw i hi _)];simp only[Bool.true_and,Bool.and_true];generalize qd x.kind x.n x.kz.length=a;generalize decide (0<=x.at_)=b;generalize decide (x.at_<=3000)=c;generalize ky x=d;cases a <;> cases b <;> cases c <;> cases d <;> simp
def InR(l:List Nd)(x:Nd):Prop:=∀k∈x.kz,0<=k/\k<(l.length:Int)
def Yh{l:List Nd}{x:Nd}(h:InR l x):(x.kz.any λk=>decide (k<0) || decide ((l.length:Int)<=k))=false:=by
 rw[List.any_eq_false];intro k hk;have:=h k hk;simp;omega
def zaA{l:List Nd}{x:Nd}(h:InR l x)(h1:x.kind≠28)(h2:x.kind≠29)(h3:x.kind≠35):xT l x=true:=by
 unfold xT;rw[Yh h];simp[h1,h2,h3]
def zbx(l:List xf)(m:Nat):(ZZ l).fits m=decide (m=l.length):=by
 unfold xA.fits ZZ;rw[pP];simp;omega
def YV(k:Nat)(n:Int)(m:Nat)(h:k≠28):(decide ((xF k).1<=n) && decide (n<=(xF k).2))=qd k n m:=by
 have PO:(k == 28)=false:=bfE h
 unfold xF qd;rw[PO];by_cases h1:(k == 1 || k == 40)=true
 ·rw[if_pos h1,if_pos h1]
 ·rw[if_neg h1,if_neg h1];by_cases h2:(k == 67)=true
  ·rw[if_pos h2,if_pos h2]
  ·rw[if_neg h2,if_neg h2];by_cases h3:(k == 3 || k == 69 || k == 102)=true
   ·have h4:(k == 3 || k == 69 || false || k == 102)=true:=by simpa using h3
    rw[if_pos h3,if_pos h4,pP];simp;omega
   ·have h4:¬(k == 3 || k == 69 || false || k == 102)=true:=by simpa using h3
    rw[if_neg h3,if_neg h4,if_neg (by decide),pP];simp;omega
def Yc(f:List xf)(s:xf)(least:Nat)(la:List xf)(m:Nat):(xA.mk f (some s) least la).fits m=decide (f.length+la.length+least<=m):=by
 unfold xA.fits;simp
def za6{l:List Nd}{x:Nd}(ml:InR l x)(h:xA)(ks:List Nat)(hk:x.kind∈ks)(h1:∀k∈ks,zM k=some h)(h2:∀k∈ks,k≠28/\k≠29/\k≠35)(hf:∀k∈ks,h.fits x.kz.length=(decide ((xr k).1<=x.kz.length) && decide (x.kz.length<=(xr k).2)))(hd:∀k∈ks,h.fits x.kz.length=true->∀i,i<x.kz.length->∀kd,jD h x.kz.length i kd=yc k x.n x.kz.length i kd):xY l x=yF l x:=
 zjy (h1 _ hk) (zaA ml (h2 _ hk).1 (h2 _ hk).2.1 (h2 _ hk).2.2) (hf _ hk) (YV _ _ _ (h2 _ hk).1) (hd _ hk)
def kY{l:List Nd}{x:Nd}(ml:InR l x)(ls:List xf)(ks:List Nat)(hk:x.kind∈ks)(h1:∀k∈ks,zM k=some (ZZ ls))(h2:∀k∈ks,k≠28/\k≠29/\k≠35)(h3:∀k∈ks,xr k=(ls.length,ls.length))(h4:∀k∈ks,∀(n:Int) (i kd:Nat),i<ls.length->jD (ZZ ls) ls.length i kd=yc k n ls.length i kd):xY l x=yF l x:=
 za6 ml (ZZ ls) ks hk h1 h2 (λk hk=>by
  rw[h3 k hk,zbx];generalize x.kz.length=m;rw[pP];simp;omega) (λk hk hf i hi kd=>by
  rw[zbx,pK] at hf;rw[hf] at hi ⊢;exact h4 k hk _ i kd hi)
def qf{l:List Nd}{x:Nd}(ml:InR l x)(hk:x.kind∈[1,2,3,4,5,44,45,46,80,81,82,83,84,66,67,68,69]\/x.kind∈[6,7,23,27,37,38,39,42,43,47,50,51,60,61,65]\/x.kind∈[40,86,87,88]\/x.kind∈[41,48,63,8,9,10,11,12,13,14,15,16,17,18,19,20,21,22]\/x.kind∈[49,64]\/x.kind∈[30]\/x.kind∈[32]\/x.kind∈[34]\/x.kind∈[36]\/x.kind∈[62]\/x.kind∈[104]):xY l x=yF l x:=by
 rcases hk with hk|hk|hk|hk|hk|hk|hk|hk|hk|hk|hk
 case' inl=>refine kY ml [] _ hk (by decide) (by decide) (by decide) ?_
 case' inr.inl=>refine kY ml [.expr] _ hk (by decide) (by decide) (by decide) ?_
 case' inr.inr.inl=>refine kY ml [.type] _ hk (by decide) (by decide) (by decide) ?_
 case' inr.inr.inr.inl=>refine kY ml [.expr,.expr] _ hk (by decide) (by decide) (by decide) ?_
 case' inr.inr.inr.inr.inl=>refine kY ml [.expr,.expr,.expr] _ hk (by decide) (by decide) (by decide) ?_
 case' inr.inr.inr.inr.inr.inl=>refine kY ml [.expr,.one 28] _ hk (by decide) (by decide) (by decide) ?_
 case' inr.inr.inr.inr.inr.inr.inl=>refine kY ml [.pattern,.expr] _ hk (by decide) (by decide) (by decide) ?_
 case' inr.inr.inr.inr.inr.inr.inr.inl=>refine kY ml [.one 28,.one 28] _ hk (by decide) (by decide) (by decide) ?_
 case' inr.inr.inr.inr.inr.inr.inr.inr.inl=>refine kY ml [.expr,.one 28,.one 28] _ hk (by decide) (by decide) (by decide) ?_
 case' inr.inr.inr.inr.inr.inr.inr.inr.inr.inl=>refine kY ml [.jx,.expr] _ hk (by decide) (by decide) (by decide) ?_
 case' inr.inr.inr.inr.inr.inr.inr.inr.inr.inr=>refine kY ml [.type,.expr] _ hk (by decide) (by decide) (by decide) ?_
 all_goals
  simp only[List.forall_mem_cons]
  repeat' refine And.intro ?_ ?_
  all_goals first
   |(intro x hx;cases hx;done)
   |(intro n i kd hi;rcases (show i=0\/i=1\/i=2 by simp only[pH,pM] at hi;omega) with rfl|rfl|rfl <;> first|(simp[jD,xA.at_,ZZ,yc,xf.is];done)|(simp at hi;done))
def kX{l:List Nd}{x:Nd}(ml:InR l x)(hm:x.kz.length<=1999)(f:List xf)(s:xf)(least:Nat)(la:List xf)(ks:List Nat)(hk:x.kind∈ks)(h1:∀k∈ks,zM k=some ⟨f,some s,least,la⟩)(h2:∀k∈ks,k≠28/\k≠29/\k≠35)(h3:∀k∈ks,xr k=(f.length+la.length+least,2000))(h4:∀k∈ks,∀(n:Int) (m i kd:Nat),f.length+la.length+least<=m->i<m->jD ⟨f,some s,least,la⟩ m i kd=yc k n m i kd):xY l x=yF l x:=
 za6 ml _ ks hk h1 h2 (λk hk=>by
  rw[h3 k hk,Yc];generalize x.kz.length=m at *;rw[pP];simp;omega) (λk hk hf i hi kd=>by
  rw[Yc,pK] at hf;exact h4 k hk _ _ i kd hf hi)
def ZT{l:List Nd}{x:Nd}(ml:InR l x)(hm:x.kz.length<=1999)(hk:x.kind∈[25]\/x.kind∈[70]\/x.kind∈[89]\/x.kind∈[26]\/x.kind∈[100]\/x.kind∈[101]):xY l x=yF l x:=by
 rcases hk with hk|hk|hk|hk|hk|hk
 case' inl=>refine kX ml hm [] .expr 0 [] _ hk (by decide) (by decide) (by decide) ?_
 case' inr.inl=>refine kX ml hm [] .pattern 0 [] _ hk (by decide) (by decide) (by decide) ?_
 case' inr.inr.inl=>refine kX ml hm [] .type 0 [] _ hk (by decide) (by decide) (by decide) ?_
 case' inr.inr.inr.inl=>refine kX ml hm [] (.one 27) 1 [] _ hk (by decide) (by decide) (by decide) ?_
 case' inr.inr.inr.inr.inl=>refine kX ml hm [] (.one 88) 1 [] _ hk (by decide) (by decide) (by decide) ?_
 case' inr.inr.inr.inr.inr=>refine kX ml hm [] (.one 89) 1 [] _ hk (by decide) (by decide) (by decide) ?_
 all_goals
  intro k hk n m i kd nw hi;simp only[wI,wL,or_false] at hk;subst hk;unfold jD xA.at_;rw[if_neg (by simp),if_neg (by simp;omega)];simp[yc,xf.is]
def zh7{l:List Nd}{x:Nd}(ml:InR l x)(hm:x.kz.length<=1999)(hk:x.kind∈[24]):xY l x=yF l x:=
 kX ml hm [.expr] .expr 0 [] _ hk (by decide) (by decide) (by decide) (λk hk n m i kd nw hi=>by
  simp only[wI,wL,or_false] at hk;subst hk;simp only[pH,pM] at nw;unfold jD xA.at_;have nV:i=0\/0<i:=by omega
  rcases nV with rfl|nV
  ·simp[yc,xf.is]
  ·rw[if_neg (by simp;omega),if_neg (by simp;omega)];simp[yc,xf.is])
def zh6{l:List Nd}{x:Nd}(ml:InR l x)(hm:x.kz.length<=1999)(hk:x.kind∈[31]):xY l x=yF l x:=
 kX ml hm [.expr] (.one 32) 1 [] _ hk (by decide) (by decide) (by decide) (λk hk n m i kd nw hi=>by
  simp only[wI,wL,or_false] at hk;subst hk;simp only[pH,pM] at nw;unfold jD xA.at_;have nV:i=0\/0<i:=by omega
  rcases nV with rfl|nV
  ·simp[yc,xf.is]
  ·rw[if_neg (by simp;omega),if_neg (by simp;omega)];have h0:i≠0:=by omega
   simp[yc,xf.is,h0,nV])
def zh5{l:List Nd}{x:Nd}(ml:InR l x)(hm:x.kz.length<=1999)(hk:x.kind∈[85]):xY l x=yF l x:=
 kX ml hm [] .type 0 [.type] _ hk (by decide) (by decide) (by decide) (λk hk n m i kd nw hi=>by
  simp only[wI,wL,or_false] at hk;subst hk;simp only[pH,pM] at nw;unfold jD xA.at_;have nV:i+1=m\/i+1<m:=by omega
  rcases nV with rfl|nV
  ·simp[yc,xf.is]
  ·rw[if_neg (by simp),if_neg (by simp;omega)];simp[yc,xf.is])
def ze9{l:List Nd}{x:Nd}(ml:InR l x)(hm:x.kz.length<=1999)(hk:x.kind∈[103]):xY l x=yF l x:=
 kX ml hm [] (.one 88) 0 [.type] _ hk (by decide) (by decide) (by decide) (λk hk n m i kd nw hi=>by
  simp only[wI,wL,or_false] at hk;subst hk;simp only[pH,pM] at nw;unfold jD xA.at_;have nV:i+1=m\/i+1<m:=by omega
  rcases nV with rfl|nV
  ·simp[yc,xf.is]
  ·rw[if_neg (by simp),if_neg (by simp;omega)];have h0:i+1≠m:=by omega
   simp[yc,xf.is,h0,nV])
def za5{l:List Nd}{x:Nd}(ml:InR l x)(hm:x.kz.length<=1999)(hk:x.kind∈[33,102]):xY l x=yF l x:=
 kX ml hm [] (.one 88) 0 [.type,.one 28] _ hk (by decide) (by decide) (by decide) (λk hk n m i kd nw hi=>by
  simp only[wI,wL,or_false] at hk;simp only[pH,pM] at nw;unfold jD xA.at_;have nV:i+1=m\/i+2=m\/i+2<m:=by omega
  rcases nV with rfl|rfl|nV
  ·rw[if_neg (by simp),if_pos (by simp)];rcases hk with rfl|rfl <;> simp[yc,xf.is]
  ·rw[if_neg (by simp),if_pos (by simp)];rcases hk with rfl|rfl <;> simp[yc,xf.is]
  ·rw[if_neg (by simp),if_neg (by simp;omega)];have h0:i+1≠m:=by omega
   have h1:i+2≠m:=by omega
   rcases hk with rfl|rfl <;> simp[yc,xf.is,h0,h1,nV])
theorem Jb:∀(l:List Int) (k:Int),l.getLast? =some k->l.getD (l.length-1) 0=k
 |[],k,h=>by cases h
 |[a],k,h=>by cases h;rfl
 |a :: b :: r,k,h=>by
  have h2:(b :: r).getLast? =some k:=by simpa using h
  have:=Jb (b :: r) k h2;simpa using this
def zjB{l:List Nd}{x:Nd}(ml:InR l x)(hm:x.kz.length<=1999)(hk:x.kind=28):xY l x=yF l x:=by
 unfold xY yF;have hs:zM x.kind=some ⟨[],some .stmt,0,[]⟩:=by rw[hk];rfl
 have eY:xT l x=(x.n == 0 || (match x.kz.getLast? with|some k=>zz (zD l k)|none=>false)):=by
  unfold xT;rw[Yh ml,hk];rfl
 rw[hs,eY];simp only[Yc,Yp,hk];have hP:∀i,i<x.kz.length->∀kd,jD ⟨[],some .stmt,0,[]⟩ x.kz.length i kd=xf.stmt.is kd:=λi hi kd=>by
  unfold jD xA.at_;rw[if_neg (by simp),if_neg (by simp;omega)]
 have hR:∀i kd,yc 28 x.n x.kz.length i kd=(xf.stmt.is kd && (decide (i+1<x.kz.length) || x.n == 0 || zz kd)):=λi kd=>rfl
 rw[kE (λi hi=>hP i hi _)];simp only[hR];have hb:xF 28=(0,1):=rfl;have hf:xr 28=(0,2000):=rfl;have hn:qd 28 x.n x.kz.length=(x.n == 0 || (x.n == 1 && decide (0<x.kz.length))):=rfl;have sC:yT 28=true:=rfl;rw[hb,hf,hn,sC];have e1:decide ((([]:List xf).length+([]:List xf).length+0)<=x.kz.length)=true:=by simp
 have e2:decide (x.kz.length<=2000)=true:=by rw[pK];omega
 rw[e1,e2];simp only[pU,decide_true,Bool.true_and,Bool.and_true];by_cases h0:x.n=0
 ·rw[h0];simp
 ·have Rr:(x.n == 0)=false:=bfE h0
  by_cases h1:x.n=1
  ·have sa:(x.n == 1)=true:=by rw[pR];exact h1
   rw[Rr,sa,h1];simp only[Bool.false_or,Bool.or_false,Bool.true_and];cases hl:x.kz.getLast? with
   |none=>
    rw[List.getLast?_eq_none_iff] at hl;rw[hl];simp
   |some k=>
    have mV:0<x.kz.length:=by
     cases hh:x.kz with
     |nil=>rw[hh] at hl;cases hl
     |cons _ _=>simp
    have hd:=Jb _ _ hl;have e3:decide (0<x.kz.length)=true:=by rw[pK];exact mV
    rw[e3];have key:((List.range x.kz.length).all λi=>xf.stmt.is (zD l (x.kz.getD i 0)) && (decide (i+1<x.kz.length) || zz (zD l (x.kz.getD i 0))))=(zz (zD l k) && (List.range x.kz.length).all λi=>xf.stmt.is (zD l (x.kz.getD i 0))):=by
     rw[pP,pJ,pY,pY];constructor
     ·intro h;refine⟨?_,λi hi=>?_⟩
      ·have:=h (x.kz.length-1) (List.mem_range.2 (by omega));rw[hd,pJ,wG,pK] at this;rcases this.2 with h'|h'
       ·omega
       ·exact h'
      ·have:=h i hi;rw[pJ] at this;exact this.1
     ·rintro ⟨h1,h2⟩ i hi;rw[pJ,wG,pK];refine⟨h2 i hi,?_⟩;rcases Nat.lt_or_ge (i+1) x.kz.length with h'|h'
      ·exact .inl h'
      ·right;have po:=List.mem_range.1 hi;have:i=x.kz.length-1:=by omega
       rw[this,hd];exact h1
    rw[key];dsimp only;generalize decide (0<=x.at_)=b;generalize decide (x.at_<=3000)=c;generalize ky x=d;generalize zz (zD l k)=e;generalize (List.range x.kz.length).all _=f;cases b <;> cases c <;> cases d <;> cases e <;> cases f <;> simp
  ·have sa:(x.n == 1)=false:=bfE h1
   have h2:(decide (0<=x.n) && decide (x.n<=1))=false:=by
    rw[Bool.and_eq_false_iff,wQ,wQ];omega
   rw[Rr,sa,h2];simp
def zjA{l:List Nd}{x:Nd}(ml:InR l x)(hk:x.kind=29):xY l x=yF l x:=by
 unfold xY yF;have hs:zM x.kind=some ⟨[.expr,.one 28],some .els,0,[]⟩:=by rw[hk];rfl
 have eY:xT l x=decide (x.kz.length<=3):=by
  unfold xT;rw[Yh ml,hk];rfl
 rw[hs,eY];simp only[Yc,Yp,hk];have hb:=YV 29 x.n x.kz.length (by decide);have hf:xr 29=(2,3):=rfl;have sC:yT 29=true:=rfl;have e1:decide (([xf.expr,xf.one 28].length+([]:List xf).length+0)<=x.kz.length)=decide (2<=x.kz.length):=rfl;rw[hb,hf,sC,e1];simp only[Bool.true_and];by_cases h3:2<=x.kz.length/\x.kz.length<=3
 ·have hd:∀i,i<x.kz.length->∀kd,jD ⟨[.expr,.one 28],some .els,0,[]⟩ x.kz.length i kd=yc 29 x.n x.kz.length i kd:=λi hi kd=>by
   have h4:x.kz.length=2\/x.kz.length=3:=by omega
   generalize x.kz.length=m at *;unfold jD xA.at_;rcases h4 with rfl|rfl
   ·have nV:i=0\/i=1:=by omega
    rcases nV with rfl|rfl <;> simp[yc,xf.is]
   ·have nV:i=0\/i=1\/i=2:=by omega
    rcases nV with rfl|rfl|rfl <;> simp[yc,xf.is]
  rw[kE (λi hi=>hd i hi _)];have e4:decide (2<=x.kz.length)=true:=by rw[pK];exact h3.1
  have e5:decide (x.kz.length<=3)=true:=by rw[pK];exact h3.2
  rw[e4,e5];generalize qd 29 x.n x.kz.length=a;generalize decide (0<=x.at_)=b;generalize decide (x.at_<=3000)=c;generalize ky x=d;cases a <;> cases b <;> cases c <;> cases d <;> simp
 ·have e4:(decide (2<=x.kz.length) && decide (x.kz.length<=3))=false:=by
   rw[Bool.and_eq_false_iff,wQ,wQ];omega
  rw[Bool.and_eq_false_iff] at e4;rcases e4 with e|e
  ·rw[e];simp
  ·rw[e];simp
def zgh(p:Int->Bool)(l:List Int):decide (l.length<=l.findIdx p+1)=(List.range l.length).all λi=>decide (i+1=l.length) || !p (l.getD i 0):=by
 rw[pP,pK,pY];constructor
 ·intro h i hi;have po:=List.mem_range.1 hi;rw[wG,pK];rcases Nat.lt_or_ge (i+1) l.length with h'|h'
  ·right;have:=List.not_of_lt_findIdx (p:=p) (xs:=l) (i:=i) (by omega);rw[pA,glE po,Option.getD_some];simpa using this
  ·left;omega
 ·intro h;rcases Nat.lt_or_ge (l.findIdx p) l.length with h'|h'
  ·have h2:=h _ (List.mem_range.2 h');rw[wG,pK,pA,glE h',Option.getD_some] at h2;rcases h2 with h2|h2
   ·omega
   ·have:=List.findIdx_getElem (p:=p) (xs:=l) (w:=h');rw[this] at h2;cases h2
  ·omega
def zjz{l:List Nd}{x:Nd}(ml:InR l x)(hm:x.kz.length<=1999)(hk:x.kind=35):xY l x=yF l x:=by
 unfold xY yF;have hs:zM x.kind=some ⟨[],some .way,1,[]⟩:=by rw[hk];rfl
 have eY:xT l x=decide (x.kz.length<=(x.kz.findIdx λk=>zD l k == 65)+1):=by
  unfold xT;rw[Yh ml,hk];rfl
 rw[hs,eY,zgh];simp only[Yc,Yp,hk];have hb:=YV 35 x.n x.kz.length (by decide);have hf:xr 35=(1,2000):=rfl;have sC:yT 35=true:=rfl;have e1:decide ((([]:List xf).length+([]:List xf).length+1)<=x.kz.length)=decide (1<=x.kz.length):=by simp
 have e2:decide (x.kz.length<=2000)=true:=by rw[pK];omega
 have hP:∀i,i<x.kz.length->∀kd,jD ⟨[],some .way,1,[]⟩ x.kz.length i kd=xf.way.is kd:=λi hi kd=>by
  unfold jD xA.at_;rw[if_neg (by simp),if_neg (by simp;omega)]
 have hR:∀i kd,yc 35 x.n x.kz.length i kd=(xf.way.is kd && (decide (i+1=x.kz.length) || !(kd == 65))):=λi kd=>rfl
 rw[kE (λi hi=>hP i hi _)];simp only[hR];rw[hb,hf,sC,e1,e2];have key:((List.range x.kz.length).all λi=>xf.way.is (zD l (x.kz.getD i 0)) && (decide (i+1=x.kz.length) || !(zD l (x.kz.getD i 0) == 65)))=(((List.range x.kz.length).all λi=>decide (i+1=x.kz.length) || !(zD l (x.kz.getD i 0) == 65)) && (List.range x.kz.length).all λi=>xf.way.is (zD l (x.kz.getD i 0))):=by
  rw[pP,pJ,pY,pY,pY];constructor
  ·intro h;refine⟨λi hi=>?_,λi hi=>?_⟩
   ·have:=h i hi;rw[pJ] at this;exact this.2
   ·have:=h i hi;rw[pJ] at this;exact this.1
  ·rintro ⟨h1,h2⟩ i hi;rw[pJ];exact⟨h2 i hi,h1 i hi⟩
 rw[key];generalize qd 35 x.n x.kz.length=a;generalize decide (0<=x.at_)=b;generalize decide (x.at_<=3000)=c;generalize ky x=d;generalize decide (1<=x.kz.length)=e;cases a <;> cases b <;> cases c <;> cases d <;> cases e <;> simp
def zdw{l:List Nd}{x:Nd}(ml:InR l x)(hm:x.kz.length<=1999):xY l x=yF l x:=by
 cases hk:yT x.kind with
 |false=>
  have hs:zM x.kind=none:=by
   have:=JX x.kind;rw[hk] at this;cases h:zM x.kind with
   |none=>rfl
   |some _=>rw[h] at this;cases this
  unfold xY yF;rw[hs,hk];simp
 |true=>
  have DE:=Xb hk;have mP:∀k,k<=104->yT k=true->k∈[1,2,3,4,5,44,45,46,80,81,82,83,84,66,67,68,69]\/k∈[6,7,23,27,37,38,39,42,43,47,50,51,60,61,65]\/k∈[40,86,87,88]\/k∈[41,48,63,8,9,10,11,12,13,14,15,16,17,18,19,20,21,22]\/k∈[49,64,30,32,34,36,62,104,25,70,89,26,100,101,24,31,85,103,33,102,28,29,35]:=by decide +kernel
  rcases mP _ DE hk with h|h|h|h|h
  ·exact qf ml (.inl h)
  ·exact qf ml (.inr (.inl h))
  ·exact qf ml (.inr (.inr (.inl h)))
  ·exact qf ml (.inr (.inr (.inr (.inl h))))
  ·simp only[wI,wL,or_false] at h;rcases h with h|h|h|h|h|h|h|h|h|h|h|h|h|h|h|h|h|h|h|h|h|h|h
   ·exact qf ml (by rw[h];decide)
   ·exact qf ml (by rw[h];decide)
   ·exact qf ml (by rw[h];decide)
   ·exact qf ml (by rw[h];decide)
   ·exact qf ml (by rw[h];decide)
   ·exact qf ml (by rw[h];decide)
   ·exact qf ml (by rw[h];decide)
   ·exact qf ml (by rw[h];decide)
   ·exact ZT ml hm (by rw[h];decide)
   ·exact ZT ml hm (by rw[h];decide)
   ·exact ZT ml hm (by rw[h];decide)
   ·exact ZT ml hm (by rw[h];decide)
   ·exact ZT ml hm (by rw[h];decide)
   ·exact ZT ml hm (by rw[h];decide)
   ·exact zh7 ml hm (by rw[h];decide)
   ·exact zh6 ml hm (by rw[h];decide)
   ·exact zh5 ml hm (by rw[h];decide)
   ·exact ze9 ml hm (by rw[h];decide)
   ·exact za5 ml hm (by rw[h];decide)
   ·exact za5 ml hm (by rw[h];decide)
   ·exact zjB ml hm h
   ·exact zjA ml h
   ·exact zjz ml hm h
def Yx(out:List Nat):List Int->Int->Option Int
 |[],p=>some p
 |k :: r,p=>if p<0\/k≠p then none else Yx out r (p-(out.getD p.toNat 0:Nat))
def kz(l:List Nd):Nat->List Nat
 |0=>[]
 |i+1=>if (kz l i).length<i then kz l i else
  match Yx (kz l i) ((l[i]?).elim [] Nd.kz).reverse ((i:Int)-1) with
  |none=>kz l i
  |some p=>kz l i ++ [((i:Int)-p).toNat]
def itR(l:List Nd)(out:List Nat):List Int->Int->Option Int
 |[],p=>some p
 |k :: r,p=>if p<0\/k≠p\/xf.item.is (zD l p)=false then none else itR l out r (p-(out.getD p.toNat 0:Nat))
def VY(t:yJ):Bool:= !decide ((kz t.nz t.nz.length).length<t.nz.length) && match itR t.nz (kz t.nz t.nz.length) t.iz.reverse ((t.nz.length:Int)-1) with
 |none=>false
 |some p=>t.nz.all (yF t.nz) && p == -1
theorem KJ(l:List Nd):∀i,(kz l i).length<=i
 |0=>pC _
 |i+1=>by
  have:=KJ l i;unfold kz;split
  ·omega
  ·split
   ·omega
   ·rw[pE,pI];omega
theorem Xo{out out':List Nat}:∀(rk:List Int) (p:Int),(∀j:Nat,(j:Int)<=p->out.getD j 0=out'.getD j 0)->Yx out rk p=Yx out' rk p
 |[],_,_=>rfl
 |k :: r,p,h=>by
  unfold Yx;by_cases hc:p<0\/k≠p
  ·rw[if_pos hc,if_pos hc]
  ·rw[if_neg hc,if_neg hc,h p.toNat (by omega)];exact Xo r _ (λj hj=>h j (by omega))
theorem zbs(l:List Nd){out out':List Nat}:∀(rk:List Int) (p:Int),(∀j:Nat,(j:Int)<=p->out.getD j 0=out'.getD j 0)->itR l out rk p=itR l out' rk p
 |[],_,_=>rfl
 |k :: r,p,h=>by
  unfold itR;by_cases hc:p<0\/k≠p\/xf.item.is (zD l p)=false
  ·rw[if_pos hc,if_pos hc]
  ·rw[if_neg hc,if_neg hc,h p.toNat (by omega)];exact zbs l r _ (λj hj=>h j (by omega))
def qm(l:List Nd)(i:Nat):Prop:=(kz l i).length=i
def ziw(l:List Nd):qm l 0:=rfl
def zbw{l:List Nd}(h:qm l (i+1)):qm l i/\∃p,Yx (kz l i) ((l[i]?).elim [] Nd.kz).reverse ((i:Int)-1)=some p/\kz l (i+1)=kz l i ++ [((i:Int)-p).toNat]:=by
 have hl:=KJ l i;unfold qm at h ⊢;unfold kz at h;split at h
 ·omega
 ·have hi:(kz l i).length=i:=by omega
  refine⟨hi,?_⟩;split at h
  ·omega
  ·rename_i p hp;refine⟨p,hp,?_⟩
   conv=>lhs;unfold kz
   rw[if_neg (by omega),hp]
def zhp{l:List Nd}{p:Int}(h:qm l i)(hp:Yx (kz l i) ((l[i]?).elim [] Nd.kz).reverse ((i:Int)-1)=some p):qm l (i+1)/\kz l (i+1)=kz l i ++ [((i:Int)-p).toNat]:=by
 have e:kz l (i+1)=kz l i ++ [((i:Int)-p).toNat]:=by
  unfold qm at h
  conv=>lhs;unfold kz
  rw[if_neg (by omega),hp]
 refine⟨?_,e⟩;unfold qm at *;rw[e,pE,h,pI]
theorem Jc{l:List Nd}{i:Nat}:∀{n:Nat},qm l n->i<=n->qm l i/\∀j,j<i->(kz l n).getD j 0=(kz l i).getD j 0
 |0,h,hi=>by
  have:i=0:=by omega
  subst this;exact⟨h,λj hj=>absurd hj (wF _)⟩
 |n+1,h,hi=>by
  by_cases e:i=n+1
  ·subst e;exact⟨h,λ_ _=>rfl⟩
  ·obtain⟨h1,p,_,he⟩:=zbw h;obtain⟨h2,h3⟩:=Jc h1 (by omega:i<=n);refine⟨h2,λj hj=>?_⟩;rw[he,pA,wN (by unfold qm at h1;omega),<-pA];exact h3 j hj
theorem zaZ{out:List Nat}:∀(rk:List Int) (p e:Int),Yx out rk p=some e->e<=p
 |[],p,e,h=>by cases h;exact Int.le_refl _
 |k :: r,p,e,h=>by
  unfold Yx at h;split at h
  ·cases h
  ·have:=zaZ r _ e h;omega
def qR{l:List Nd}{n:Nat}(h:qm l n)(hi:i<n):∃p:Int,Yx (kz l n) ((l[i]?).elim [] Nd.kz).reverse ((i:Int)-1)=some p/\((kz l n).getD i 0:Int)=i-p/\p<i:=by
 obtain⟨h1,Gl⟩:=Jc h (by omega:i+1<=n);obtain⟨h2,p,hp,he⟩:=zbw h1;have hb:=zaZ _ _ _ hp;refine⟨p,?_,?_,by omega⟩
 ·rw[Xo (out':=kz l i) _ _ (λj hj=>?_)]
  ·exact hp
  ·rw[Gl j (by omega),he,pA,wN (by unfold qm at h2;omega),<-pA]
 ·rw[Gl i (by omega),he,pA,wM (by unfold qm at h2;omega)];have:i-(kz l i).length=0:=by unfold qm at h2;omega
  rw[this];simp;omega
def zeY{h:xA}{kd:Nat}(hs:jD h m i kd=true):∃s,h.at_ i m=some s/\s.is kd=true:=by
 unfold jD at hs;cases ha:h.at_ i m with
 |none=>rw[ha] at hs;cases hs
 |some s=>rw[ha] at hs;exact⟨s,rfl,hs⟩
def zdA(k:Int)(r:List Int):(k :: r).reverse.getD r.length 0=k:=by
 rw[List.reverse_cons,pA,wM (by simp)];simp
def zdB(k:Int)(r:List Int){p:Nat}(hp:p<r.length):(k :: r).reverse.getD p 0=r.reverse.getD p 0:=by
 rw[List.reverse_cons,pA,wN (by simpa using hp),<-pA]
theorem zek{l:List Nd}(hF:qm l l.length)(hR:∀x∈l,xY l x=true):∀(i f:Nat) (s:xf),i<l.length->i<f->s.is (zD l i)=true->qX l f i i s=some ((i:Int)-((kz l l.length).getD i 0:Nat))
 |i,0,s,_,hf,_=>absurd hf (wF _)
 |i,f+1,s,hi,hf,hs=>by
  obtain⟨p,hp,nX,Mc⟩:=qR hF hi;have hx:l[i]? =some l[i]:=glE hi;have hr:=hR l[i] (wE _);rw[hx] at hp;simp only[Option.elim] at hp;have hk:zD l i=l[i].kind:=by unfold zD;rw[pZ,hx];rfl
  rw[hk] at hs;generalize l[i]=x at *;unfold xY at hr;cases bG:zM x.kind with
  |none=>rw[bG] at hr;cases hr
  |some h=>
   rw[bG] at hr;simp only[pJ,pY,List.mem_range] at hr;obtain⟨⟨⟨h1,h2⟩,h3⟩,h4⟩:=hr;have key:∀(rk:List Int) (next e:Int),next<i->Yx (kz l l.length) rk next=some e->(∀q,q<rk.length->jD h x.kz.length q (zD l (rk.reverse.getD q 0))=true)->Yb (qX l f) h x.kz.length rk next=some e:=by
    intro rk;induction rk with
    |nil=>intro next e _ he _;exact he
    |cons k r ih=>
     intro next e hn he hq
     unfold Yx at he;split at he
     ·cases he
     ·rename_i hc;have hk0:0<=next/\k=next:=by omega
      obtain⟨k',rfl⟩:=pO hk0.1;have Np:=hq r.length (by simp);rw[zdA,hk0.2] at Np;obtain⟨sr,ha,Np⟩:=zeY Np;unfold Yb;rw[ha,hk0.2];simp only;rw[zek hF hR k' f sr (by omega) (by omega) Np,Option.bind_some];exact ih _ e (by omega) (by simpa using he) (λq Nl=>by have:=hq q (by simp;omega);rwa [zdB k r Nl] at this)
   unfold qX;rw[if_neg (by omega),pZ,hx];simp only[bG];rw[if_pos (by rw[hs,h1,h2,h3];rfl),key _ _ p (by omega) hp (λq hq=>by
    rw[List.reverse_reverse];exact h4 q (by simpa using hq)),nX]
   congr 1;omega
termination_by i=>i
theorem zen{l:List Nd}(hF:qm l l.length)(hR:∀x∈l,xY l x=true):∀(rk:List Int) (next e:Int),next<l.length->itR l (kz l l.length) rk next=some e->Xe l rk next=some e
 |[],_,_,_,h=>h
 |k :: r,next,e,hn,h=>by
  unfold itR at h;split at h
  ·cases h
  ·rename_i hc;have hk0:0<=next/\k=next:=by omega
   obtain⟨k',rfl⟩:=pO hk0.1;unfold Xe;rw[hk0.2,zek hF hR k' _ .item (by omega) (by omega) (by
    cases hb:xf.item.is (zD l (k':Int)) with
    |true=>rfl
    |false=>exact absurd (.inr (.inr hb)) hc),Option.bind_some]
   exact zen hF hR r _ e (by omega) h
def zaw(l:List Nd)(e i:Int):Prop:=∀j:Nat,e<j->(j:Int)<=i->∃x,l[j]? =some x/\xY l x=true
def zaw.join{l:List Nd}{b c:Int}(h:zaw l a b)(k:zaw l b c):zaw l a c:=λj h1 h2=>by
 by_cases e:(j:Int)<=b
 ·exact h j h1 e
 ·exact k j (by omega) h2
def Jj(l:List Nd)(e:Int):Prop:=qm l (e+1).toNat
theorem zej{l:List Nd}:∀(f:Nat) (i num:Int) (s:xf) (e:Int),-1<=i->i<l.length->qX l f i num s=some e->num=i/\0<=i/\-1<=e/\e<i/\s.is (zD l i)=true/\(Jj l e->Jj l i/\((kz l (i+1).toNat).getD i.toNat 0:Int)=i-e/\zaw l e i)
 |0,_,_,_,_,_,_,h=>by cases h
 |f+1,i,num,s,e,hi,hl,h=>by
  unfold qX at h;split at h
  ·cases h
  ·rename_i hc;have eu:0<=i/\num=i:=by omega
   obtain⟨rfl⟩:=eu.2;obtain⟨i,rfl⟩:=pO eu.1;have sT:i<l.length:=by omega
   rw[pZ,glE sT] at h;have hx:l[i]? =some l[i]:=glE sT;have hk:zD l i=l[i].kind:=by unfold zD;rw[pZ,hx];rfl
   generalize l[i]=x at *;simp only at h;cases bG:zM x.kind with
   |none=>rw[bG] at h;cases h
   |some sh=>
    rw[bG] at h;simp only at h;split at h
    ·rename_i NP;simp only[pJ] at NP;obtain⟨⟨⟨hs,h1⟩,h2⟩,h3⟩:=NP;have key:∀(rk:List Int) (next e:Int),-1<=next->next<l.length->Yb (qX l f) sh x.kz.length rk next=some e->-1<=e/\e<=next/\(∀q,q<rk.length->jD sh x.kz.length q (zD l (rk.reverse.getD q 0))=true)/\(Jj l e->Jj l next/\Yx (kz l (next+1).toNat) rk next=some e/\zaw l e next):=by
      intro rk;induction rk with
      |nil=>
       intro next e hn _ he
       cases he;exact⟨hn,Int.le_refl _,λq hq=>absurd hq (wF _),λhf=>⟨hf,rfl,λj h1 h2=>by omega⟩⟩
      |cons k r ih=>
       intro next e hn bD he
       unfold Yb at he;cases ha:sh.at_ r.length x.kz.length with
       |none=>rw[ha] at he;cases he
       |some sr=>
        rw[ha] at he;simp only at he;cases hg:qX l f next k sr with
        |none=>rw[hg] at he;cases he
        |some e1=>
         rw[hg,Option.bind_some] at he;obtain⟨nO,rp,Dr,Pn,Np,Pq⟩:=zej f next k sr e1 hn bD hg
         obtain⟨i1,i2,i3,i4⟩:=ih e1 e Dr (by omega) he;refine⟨i1,by omega,λq hq=>?_,λhf=>?_⟩
         ·have rt:q=r.length\/q<r.length:=by simp at hq;omega
          rcases rt with rfl|rt
          ·rw[zdA,nO];unfold jD;rw[ha];exact Np
          ·rw[zdB k r rt];exact i3 q rt
         ·obtain⟨j1,j2,j3⟩:=i4 hf;obtain⟨k1,k2,k3⟩:=Pq j1;refine⟨k1,?_,j3.join k3⟩;unfold Yx;rw[if_neg (by omega),k2,show next-(next-e1)=e1 by omega,<-j2];exact Xo _ _ (λj hj=>(Jc k1 (by omega:(e1+1).toNat<=(next+1).toNat)).2 j (by omega))
     obtain⟨a1,a2,a3,a4⟩:=key _ _ e (by omega) (by omega) h;refine⟨rfl,by omega,a1,by omega,by rw[hk];exact hs,λhf=>?_⟩;obtain⟨b1,b2,b3⟩:=a4 hf;have rW:((i:Int)-1+1).toNat=i:=by omega
     unfold Jj at b1;rw[rW] at b1 b2;have hu:=zhp (p:=e) b1 (by rw[hx];exact b2);have aT:((i:Int)+1).toNat=i+1:=by omega
     refine⟨by unfold Jj;rw[aT];exact hu.1,?_,?_⟩
     ·rw[aT,pZ,hu.2,pA,wM (by unfold qm at b1;omega)];have:i-(kz l i).length=0:=by unfold qm at b1;omega
      rw[this];simp;omega
     ·refine b3.join (λj sa Gm=>?_);have hj:j=i:=by omega
      subst hj;refine⟨x,hx,?_⟩;unfold xY;rw[bG];simp only[pJ,pY,List.mem_range];exact⟨⟨⟨h1,h2⟩,h3⟩,λq hq=>by have:=a3 q (by simpa using hq);rwa [List.reverse_reverse] at this⟩
    ·cases h
theorem zem{l:List Nd}:∀(rk:List Int) (next e:Int),-1<=next->next<l.length->Xe l rk next=some e->-1<=e/\e<=next/\(Jj l e->Jj l next/\itR l (kz l (next+1).toNat) rk next=some e/\zaw l e next)
 |[],next,e,hn,_,h=>by
  cases h;exact⟨hn,Int.le_refl _,λhf=>⟨hf,rfl,λj h1 h2=>by omega⟩⟩
 |k :: r,next,e,hn,bD,h=>by
  unfold Xe at h;cases hg:qX l (l.length+1) next k .item with
  |none=>rw[hg] at h;cases h
  |some e1=>
   rw[hg,Option.bind_some] at h;obtain⟨nO,rp,Dr,Pn,Np,Pq⟩:=zej _ next k _ e1 hn bD hg
   obtain⟨i1,i2,i4⟩:=zem r e1 e Dr (by omega) h;refine⟨i1,by omega,λhf=>?_⟩;obtain⟨j1,j2,j3⟩:=i4 hf;obtain⟨k1,k2,k3⟩:=Pq j1;refine⟨k1,?_,j3.join k3⟩;unfold itR;rw[if_neg (by rw[Np];simp;omega),k2,show next-(next-e1)=e1 by omega,<-j2];exact zbs l _ _ (λj hj=>(Jc k1 (by omega:(e1+1).toNat<=(next+1).toNat)).2 j (by omega))
theorem KL{out:List Nat}:∀(rk:List Int) (p e:Int),Yx out rk p=some e->∀k∈rk,0<=k/\k<=p
 |[],_,_,_,k,hk=>by cases hk
 |k :: r,p,e,h,j,hj=>by
  unfold Yx at h;split at h
  ·cases h
  ·rcases wI.1 hj with rfl|hj
   ·omega
   ·have:=KL r _ e h j hj;omega
def zcJ{l:List Nd}(h:qm l l.length){x:Nd}(hx:x∈l):InR l x:=by
 obtain⟨i,hi,rfl⟩:=List.mem_iff_getElem.1 hx;obtain⟨p,hp,_,_⟩:=qR h hi;rw[glE hi] at hp;intro k hk;have:=KL _ _ _ hp k (wY.2 hk);omega
def zcK(t:yJ)(hm:∀x∈t.nz,x.kz.length<=1999):jN t=VY t:=by
 rw[pP];constructor
 ·intro h;unfold jN at h;cases hI:Xe t.nz t.iz.reverse ((t.nz.length:Int)-1) with
  |none=>rw[hI] at h;cases h
  |some e=>
   rw[hI] at h;simp only[pK] at h;obtain⟨h1,h2,h3⟩:=zem _ _ e (by omega) (by omega) hI;have he:e= -1:=by omega
   subst he;obtain⟨h4,h5,h6⟩:=h3 (ziw _);have hn:((t.nz.length:Int)-1+1).toNat=t.nz.length:=by omega
   unfold Jj at h4;rw[hn] at h4 h5;have mP:t.nz.all (yF t.nz)=true:=by
    rw[pY];intro x hx;rw[<-zdw (zcJ h4 hx) (hm x hx)];obtain⟨j,hj,rfl⟩:=List.mem_iff_getElem.1 hx;obtain⟨y,hy,hr⟩:=h6 j (by omega) (by omega);rw[glE hj] at hy;cases hy;exact hr
   unfold VY;rw[h5,mP];unfold qm at h4;rw[h4];simp
 ·intro h;unfold VY at h;rw[pJ] at h;obtain⟨h1,h2⟩:=h;have hF:qm t.nz t.nz.length:=by
   have:=KJ t.nz t.nz.length;unfold qm;simp at h1;omega
  cases hI:itR t.nz (kz t.nz t.nz.length) t.iz.reverse ((t.nz.length:Int)-1) with
  |none=>rw[hI] at h2;cases h2
  |some e=>
   rw[hI] at h2;simp only[pJ,pY,pR] at h2;have hR:∀x∈t.nz,xY t.nz x=true:=λx hx=>by rw[zdw (zcJ hF hx) (hm x hx)];exact h2.1 x hx
   have:=zen hF hR _ _ e (by omega) hI;unfold jN;rw[this];simp only[pK];omega
def Xg(l:List Nd):Nat->List Nat->Nat->Nat
 |0,_,most=>most
 |i+1,deep,most=>Xg l i (xN (max 1 (deep.getD i 0)) ((l[i]?).elim [] Nd.kz) (deep.set i (max 1 (deep.getD i 0)))) (max most (max 1 (deep.getD i 0)))
def Zm(t:yJ):Nat:=Xg t.nz t.nz.length (List.replicate t.nz.length 0) 0
def Xh(l:List Nd)(x:Nd)(k:Nat):Nat:=x.kz.countP λj=>zD l j == k
def kF(l:List Nd)(x:Nd):Bool:=
 if x.kind == 102 || x.kind == 103 || x.kind == 33 then decide (Xh l x 88<=6)
 else if x.kind == 85 || x.kind == 24 then decide (x.kz.length<=7)
 else if x.kind == 100 || x.kind == 26 then decide (x.kz.length<=6)
 else if x.kind == 101 then decide (x.kz.length<=8)
 else if x.kind == 89 || x.kind == 25 || x.kind == 70 || x.kind == 35 then decide (x.kz.length<=4)
 else if x.kind == 31 then decide (x.kz.length<=13)
 else if x.kind == 40 then decide (1<=x.n) && decide (x.n<=8)
 else true
def JM(t:yJ):Nat:=
 if 1000<t.nz.length\/40<t.iz.length then 5
 else if !VY t then 4
 else if 40<Zm t then 5
 else if t.nz.any λx=> !kF t.nz x then 3
 else 0
def zoI(t:yJ):Prop:=∀j:Nat,j<t.nz.length->(j:Int)∈t.iz\/∃i,j<i/\∃x,t.nz[i]? =some x/\(j:Int)∈x.kz
theorem zaY{out:List Nat}:∀(rk:List Int) (p e:Int),Yx out rk p=some e->∀j:Nat,e<j->(j:Int)<=p->∃k:Nat,(k:Int)∈rk/\(k:Int)<=p/\j<=k/\(k:Int)-(out.getD k 0:Nat)<j
 |[],p,e,h,j,h1,h2=>by cases h;omega
 |k :: r,p,e,h,j,h1,h2=>by
  unfold Yx at h;split at h
  ·cases h
  ·rename_i hc;have hk0:0<=p/\k=p:=by omega
   obtain⟨q,rfl⟩:=pO hk0.1;rw[pZ] at h;by_cases hj:(q:Int)-(out.getD q 0:Nat)<j
   ·exact⟨q,by rw[hk0.2];exact List.mem_cons_self ..,Int.le_refl _,by omega,hj⟩
   ·obtain⟨k2,a,b,c,d⟩:=zaY r _ e h j h1 (by omega);exact⟨k2,wJ _ a,by omega,c,d⟩
theorem zbr(l:List Nd){out:List Nat}:∀(rk:List Int) (p e:Int),itR l out rk p=some e->∀j:Nat,e<j->(j:Int)<=p->∃k:Nat,(k:Int)∈rk/\(k:Int)<=p/\j<=k/\(k:Int)-(out.getD k 0:Nat)<j
 |[],p,e,h,j,h1,h2=>by cases h;omega
 |k :: r,p,e,h,j,h1,h2=>by
  unfold itR at h;split at h
  ·cases h
  ·rename_i hc;have hk0:0<=p/\k=p:=by omega
   obtain⟨q,rfl⟩:=pO hk0.1;rw[pZ] at h;by_cases hj:(q:Int)-(out.getD q 0:Nat)<j
   ·exact⟨q,by rw[hk0.2];exact List.mem_cons_self ..,Int.le_refl _,by omega,hj⟩
   ·obtain⟨k2,a,b,c,d⟩:=zbr l r _ e h j h1 (by omega);exact⟨k2,wJ _ a,by omega,c,d⟩
theorem zdf{l:List Nd}(hF:qm l l.length):∀(i j:Nat),i<l.length->j<i->(i:Int)-((kz l l.length).getD i 0:Nat)<j->∃i',j<i'/\∃x,l[i']? =some x/\(j:Int)∈x.kz
 |i,j,hi,hj,h=>by
  obtain⟨p,hp,nX,Mc⟩:=qR hF hi;obtain⟨k,hk,bV,hjk,mD⟩:=zaY _ _ p hp j (by omega) (by omega);have hx:l[i]? =some l[i]:=glE hi;rw[hx] at hk;simp only[Option.elim,wY] at hk;by_cases e:j=k
  ·subst e;exact⟨i,hj,l[i],hx,hk⟩
  ·exact zdf hF k j (by omega) (by omega) mD
termination_by i=>i
def zlQ{t:yJ}(hF:qm t.nz t.nz.length)(hI:itR t.nz (kz t.nz t.nz.length) t.iz.reverse ((t.nz.length:Int)-1)=some (-1)):zoI t:=λj hj=>by
 obtain⟨k,hk,bV,hjk,mD⟩:=zbr _ _ _ _ hI j (by omega) (by omega);by_cases e:j=k
 ·subst e;exact .inl (wY.1 hk)
 ·exact .inr (zdf hF k j (by omega) (by omega) mD)
def Zk(l:List Nat)(i j v:Nat):(l.set i v).getD j 0=if i=j/\j<l.length then v else l.getD j 0:=by
 rw[pA,List.getElem?_set,pA];by_cases e:i=j
 ·subst e;by_cases h:i<l.length
  ·simp[h]
  ·simp[h]
 ·simp[e]
structure zoL(t:yJ)(i:Nat)(P R:List Nat):Prop where
 lp:P.length=t.nz.length
 lr:R.length=t.nz.length
 eq:∀j,j<i->(R.getD j 0=0/\P.getD j 0=(if (j:Int)∈t.iz then 1 else 0))\/(1<=R.getD j 0/\P.getD j 0=R.getD j 0)
 got:∀i' x,i<=i'->t.nz[i']? =some x->∀j:Nat,(j:Int)∈x.kz->j<i->1<=R.getD j 0
theorem Yr(d:Nat):∀(k:List Int) (l:List Nat),(xN d k l).length=l.length
 |[],l=>rfl
 |a :: r,l=>by unfold xN;rw[Yr d r,List.length_set]
theorem uL(d:Nat):∀(k:List Int) (l:List Nat) (j:Nat),j<l.length->(xN d k l).getD j 0=if (∃a∈k,a.toNat=j) then d+1 else l.getD j 0
 |[],l,j,_=>by simp[xN]
 |a :: r,l,j,h=>by
  unfold xN;rw[uL d r _ j (by rw[List.length_set];exact h),Zk];by_cases e:a.toNat=j
  ·by_cases e2:∃b∈r,b.toNat=j
   ·rw[if_pos e2,if_pos (by obtain⟨b,hb,eQ⟩:=e2;exact⟨b,wJ _ hb,eQ⟩)]
   ·rw[if_neg e2,if_pos ⟨e,h⟩,if_pos ⟨a,List.mem_cons_self ..,e⟩]
  ·by_cases e2:∃b∈r,b.toNat=j
   ·rw[if_pos e2,if_pos (by obtain⟨b,hb,eQ⟩:=e2;exact⟨b,wJ _ hb,eQ⟩)]
   ·rw[if_neg e2,if_neg (λh'=>e h'.1),if_neg (by
     rintro ⟨b,hb,eQ⟩;rcases wI.1 hb with rfl|hb
     ·exact e eQ
     ·exact e2 ⟨b,hb,eQ⟩)]
theorem zhw{t:yJ}(hH:zoI t):∀(i:Nat) (P R:List Nat) (most:Nat),i<=t.nz.length->zoL t i P R->XR t.nz i P most=Xg t.nz i R most
 |0,_,_,_,_,_=>rfl
 |i+1,P,R,most,hi,D=>by
  have sT:i<t.nz.length:=by omega
  have hx:t.nz[i]? =some t.nz[i]:=glE sT;have hd:P.getD i 0=max 1 (R.getD i 0):=by
   rcases D.eq i (by omega) with⟨h1,h2⟩|⟨h1,h2⟩
   ·rcases hH i sT with hh|⟨i',mD,x,aU,hm⟩
    ·rw[h2,if_pos hh,h1];rfl
    ·have:=D.got i' x (by omega) aU i hm (by omega);omega
   ·rw[h2];omega
  unfold XR Xg;rw[hx,<-hd];simp only[Option.elim];generalize t.nz[i]=x at *;refine zhw hH i _ _ _ (by omega) ⟨by rw[Yr,D.lp],by rw[Yr,List.length_set,D.lr],λj hj=>?_,λi' y po hy j fd HO=>?_⟩
  ·rw[uL _ _ _ j (by first|(rw[D.lp];omega)|(rw[List.length_set,D.lr];omega)),uL _ _ _ j (by first|(rw[D.lp];omega)|(rw[List.length_set,D.lr];omega))];by_cases e:∃a∈x.kz,a.toNat=j
   ·rw[if_pos e,if_pos e];exact .inr ⟨by omega,rfl⟩
   ·rw[if_neg e,if_neg e,Zk,if_neg (by omega)];exact D.eq j (by omega)
  ·rw[uL _ _ _ j (by rw[List.length_set,D.lr];omega)];by_cases e:∃a∈x.kz,a.toNat=j
   ·rw[if_pos e];omega
   ·rw[if_neg e,Zk,if_neg (by omega)];have cV:i'≠i:=λe2=>by
     subst e2;rw[hx] at hy;cases hy;exact e ⟨(j:Int),fd,by simp⟩
    exact D.got i' y (by omega) hy j fd (by omega)
theorem zbq(n:Nat):∀(l:List Int) (d:List Nat) (j:Nat),j<d.length->(l.foldl (λ(d:List Nat) k=>d.set k.toNat 1) d).getD j 0=if (∃a∈l,a.toNat=j) then 1 else d.getD j 0
 |[],d,j,_=>by simp
 |a :: r,d,j,h=>by
  rw[List.foldl_cons,zbq n r _ j (by rw[List.length_set];exact h),Zk];by_cases e:a.toNat=j
  ·by_cases e2:∃b∈r,b.toNat=j
   ·rw[if_pos e2,if_pos (by obtain⟨b,hb,eQ⟩:=e2;exact⟨b,wJ _ hb,eQ⟩)]
   ·rw[if_neg e2,if_pos ⟨e,h⟩,if_pos ⟨a,List.mem_cons_self ..,e⟩]
  ·by_cases e2:∃b∈r,b.toNat=j
   ·rw[if_pos e2,if_pos (by obtain⟨b,hb,eQ⟩:=e2;exact⟨b,wJ _ hb,eQ⟩)]
   ·rw[if_neg e2,if_neg (λh'=>e h'.1),if_neg (by
     rintro ⟨b,hb,eQ⟩;rcases wI.1 hb with rfl|hb
     ·exact e eQ
     ·exact e2 ⟨b,hb,eQ⟩)]
theorem zbp:∀(l:List Int) (d:List Nat),(l.foldl (λ(d:List Nat) k=>d.set k.toNat 1) d).length=d.length
 |[],d=>rfl
 |a :: r,d=>by rw[List.foldl_cons,zbp r,List.length_set]
theorem zcD(l:List Nd){out:List Nat}:∀(rk:List Int) (p e:Int),itR l out rk p=some e->∀k∈rk,0<=k/\k<=p
 |[],_,_,_,k,hk=>by cases hk
 |k :: r,p,e,h,j,hj=>by
  unfold itR at h;split at h
  ·cases h
  ·rcases wI.1 hj with rfl|hj
   ·omega
   ·have:=zcD l r _ e h j hj;omega
def zai{t:yJ}(hF:qm t.nz t.nz.length)(hI:itR t.nz (kz t.nz t.nz.length) t.iz.reverse ((t.nz.length:Int)-1)=some (-1)):jO t=Zm t:=by
 unfold jO Zm;refine zhw (zlQ hF hI) _ _ _ _ (pC _) ⟨by rw[zbp,List.length_replicate],List.length_replicate,λj hj=>.inl ⟨?_,?_⟩,λi' x po hx j hm hj=>?_⟩
 ·simp[pA,hj]
 ·rw[zbq t.nz.length _ _ j (by rw[List.length_replicate];exact hj)];have e0:(List.replicate t.nz.length 0).getD j 0=0:=by simp[pA,hj]
  rw[e0];have WO:(∃a∈t.iz,a.toNat=j)↔(j:Int)∈t.iz:=by
   constructor
   ·rintro ⟨a,ha,rfl⟩;have:=zcD _ _ _ _ hI a (wY.2 ha);rw[Int.toNat_of_nonneg this.1];exact ha
   ·exact λh=>⟨_,h,by simp⟩
  by_cases h:(j:Int)∈t.iz
  ·rw[if_pos (WO.2 h),if_pos h]
  ·rw[if_neg (λh'=>h (WO.1 h')),if_neg h]
 ·have:=(gtL hx);omega
def zgj(p:Int->Bool)(l:List Int)(h:∀x∈l,p x=true):l.countP p=l.length:=List.countP_eq_length.2 h
def ziF(p:Int->Bool)(l:List Int)(h:∀x∈l,p x=false):l.countP p=0:=List.countP_eq_zero.2 (λx hx=>by rw[h x hx];decide)
def Kt(l:List Nd)(x:Nd)(c:Nat)(hc:c<=x.kz.length)(h1:∀i,i+c<x.kz.length->zD l (x.kz.getD i 0)=88)(h2:∀i,x.kz.length<=i+c->i<x.kz.length->zD l (x.kz.getD i 0)≠88):Xh l x 88=x.kz.length-c:=by
 unfold Xh;rw[<-List.take_append_drop (x.kz.length-c) x.kz,List.countP_append,zgj,ziF]
 ·simp
 ·intro k hk;obtain⟨i,hi,rfl⟩:=List.mem_iff_getElem.1 hk;rw[wT] at hi;rw[List.getElem_drop];have:=h2 (x.kz.length-c+i) (by omega) (by omega);rw[pA,glE (by omega),Option.getD_some] at this;rw[pB];exact this
 ·intro k hk;obtain⟨i,hi,rfl⟩:=List.mem_iff_getElem.1 hk;rw[gE] at hi;rw[List.getElem_take];have:=h1 i (by omega);rw[pA,glE (by omega),Option.getD_some] at this;rw[pR];exact this
def za0{l:List Nd}{x:Nd}(SR:(xr x.kind).1<=x.kz.length)(hs:∀i,i<x.kz.length->yc x.kind x.n x.kz.length i (zD l (x.kz.getD i 0))=true)(hm:x.kz.length<=1000):xE x=kF l x:=by
 have WJ:(x.kind=102\/x.kind=33)->Xh l x 88=x.kz.length-2/\2<=x.kz.length:=λhk=>by
  have h2:2<=x.kz.length:=by rcases hk with hk|hk <;> (rw[hk] at SR;exact SR)
  have RS:∀i,i<x.kz.length->((decide (i+2<x.kz.length) && zD l (x.kz.getD i 0) == 88) || (decide (i+2=x.kz.length) && xf.type.is (zD l (x.kz.getD i 0))) || (decide (i+1=x.kz.length) && zD l (x.kz.getD i 0) == 28))=true:=λi hi=>by
   have:=hs i hi;rcases hk with hk|hk <;> (rw[hk] at this;exact this)
  refine⟨Kt l x 2 h2 (λi hi=>?_) (λi h3 h4=>?_),h2⟩
  ·have:=RS i (by omega);simp only[wG,pJ,pK,pR] at this;omega
  ·have:=RS i h4;simp only[wG,pJ,pK,pR,xf.is] at this;omega
 have Dt:x.kind=103->Xh l x 88=x.kz.length-1/\1<=x.kz.length:=λhk=>by
  have h2:1<=x.kz.length:=by rw[hk] at SR;exact SR
  have RS:∀i,i<x.kz.length->((decide (i+1<x.kz.length) && zD l (x.kz.getD i 0) == 88) || (decide (i+1=x.kz.length) && xf.type.is (zD l (x.kz.getD i 0))))=true:=λi hi=>by
   have:=hs i hi;rw[hk] at this;exact this
  refine⟨Kt l x 1 h2 (λi hi=>?_) (λi h3 h4=>?_),h2⟩
  ·have:=RS i (by omega);simp only[wG,pJ,pK,pR] at this;omega
  ·have:=RS i h4;simp only[wG,pJ,pK,pR,xf.is] at this;omega
 have ap:decide (x.kz.length<=1000)=true:=by rw[pK];exact hm
 unfold xE kF jJ;generalize dV:x.kind=k at *;by_cases e1:k=102
 ·subst e1;obtain⟨a,b⟩:=WJ (.inl rfl);simp[a]
 by_cases e2:k=33
 ·subst e2;obtain⟨a,b⟩:=WJ (.inr rfl);simp[a]
 by_cases e3:k=103
 ·subst e3;obtain⟨a,b⟩:=Dt rfl;simp[a]
 by_cases e4:k=85
 ·subst e4;simp
 by_cases e5:k=24
 ·subst e5;simp
 by_cases e6:k=100
 ·subst e6;simp
 by_cases e7:k=26
 ·subst e7;simp
 by_cases e8:k=101
 ·subst e8;simp
 by_cases e9:k=89
 ·subst e9;simp
 by_cases St:k=25
 ·subst St;simp
 by_cases Su:k=70
 ·subst Su;simp
 by_cases dj:k=35
 ·subst dj;simp
 by_cases Mx:k=31
 ·subst Mx;simp
 by_cases Sv:k=40
 ·subst Sv;simp
 simp[e1,e2,e3,e4,e5,e6,e7,e8,e9,St,Su,dj,Mx,Sv,hm]
def zjn{l:List Nd}{x:Nd}(hr:yF l x=true)(hm:x.kz.length<=1000):xE x=kF l x:=by
 unfold yF at hr;simp only[pJ,pY,List.mem_range,pK] at hr;obtain⟨⟨⟨⟨⟨⟨⟨_,SR⟩,_⟩,_⟩,_⟩,_⟩,_⟩,hs⟩:=hr;exact za0 SR hs hm
def Xz{t:yJ}(h:VY t=true):qm t.nz t.nz.length/\itR t.nz (kz t.nz t.nz.length) t.iz.reverse ((t.nz.length:Int)-1)=some (-1)/\∀x∈t.nz,yF t.nz x=true:=by
 unfold VY at h;rw[pJ] at h;obtain⟨h1,h2⟩:=h;have hF:qm t.nz t.nz.length:=by
  have:=KJ t.nz t.nz.length;unfold qm;simp at h1;omega
 cases hI:itR t.nz (kz t.nz t.nz.length) t.iz.reverse ((t.nz.length:Int)-1) with
 |none=>rw[hI] at h2;cases h2
 |some e=>
  rw[hI] at h2;simp only[pJ,pY,pR] at h2;exact⟨hF,by rw[h2.2],h2.1⟩
def zeu(t:yJ)(hm:∀x∈t.nz,x.kz.length<=1000):yU t=JM t:=by
 unfold yU JM;rw[zcK t (λx hx=>by have:=hm x hx;omega)];cases hf:VY t with
 |false=>rfl
 |true=>
  obtain⟨hF,hI,hR⟩:=Xz hf;rw[zai hF hI];have:(t.nz.any λx=> !xE x)=t.nz.any λx=> !kF t.nz x:=by
   rw[pP,gF,gF];constructor <;> (rintro ⟨x,hx,h⟩;refine⟨x,hx,?_⟩;have e:=zjn (hR x hx) (hm x hx);first|(rw[e] at h;exact h)|(rw[e];exact h))
  rw[this]
