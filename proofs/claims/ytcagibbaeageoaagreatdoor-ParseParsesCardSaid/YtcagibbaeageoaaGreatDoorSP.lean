import Derived.Test.YtcagibbaeageoaaGreatDoorSF
import Derived.ChangeSlices
import Derived.Lib.LaidTab
import Derived.LaidSub
import Derived.Stop.LaidErr
import Derived.WalkKit
import Derived.Test.YtcagibbaeageoaaGreatDoorRows
import Derived.Test.YtcagibbaeageoaaGreatDoorProg
set_option maxRecDepth 100000
set_option maxHeartbeats 0
set_option linter.all false
variable{α β:Type}{B N base cap' fn g' i k k' kind:Nat}{W w w' w1 w2:Go.World}{args cs:Array Go.Value}{T:Go.TypeId}{fr:Nat×Nat}{nv' old sl u v:Go.Value}{acc l:List Int}{kv' xs ys zs:List Go.Value}{G G':Nat->Prop}{E:Lode.zr}{ad:Go.Addr}{o:Go.Oper}{a n' p p':Int}{X:Go.Exit->Go.Act->Go.World->Prop}{row:Option Nat}{t t':List UInt8}
namespace Go.Proofs.YtcagibbaeageoaaGreatDoor
section
open Go.RowKit Lode Go.Shelf
open Go.Proofs.Tryz
def Tryz.laidOut:laidOutB prog=true:=by kernel_rfl
def zjl: "*" ++ "errors.errorString" = "*errors.errorString" :=by decide
def zoa(u:TypeId)(h:prog.typeName? 3 u=some "*errors.errorString"):u=284:=
 typeName_ptr_named (nm:= "errors.errorString") (by rw[zjl];kernel_rfl) (by kernel_rfl) (by decide) u (by rw[zjl];exact h)
def zlT(w:World)(hL:laidMet prog Rows.parseChecksRow.laid w):jQ w:=by
 refine⟨?_,?_,?_⟩
 ·have h:=hL.filter (λx=>x.1 == "strings.asciiSpace");have e:(Rows.parseChecksRow.laid.filter λx=>x.1 == "strings.asciiSpace")=[("strings.asciiSpace",Lib.tabData .u8 Lib.asciiSpaceTab)]:=by rfl
  rw[e] at h;exact Lib.tabIs_of_head (g:=0) (t:=220) (e:=5) (n:=256) (by kernel_rfl) (by kernel_rfl) (by kernel_rfl) (by kernel_rfl) (by kernel_rfl) (by kernel_rfl) h
 ·have h:=hL.filter (λx=>x.1 == "internal/strconv.uint64pow10");have e:(Rows.parseChecksRow.laid.filter λx=>x.1 == "internal/strconv.uint64pow10")=[("internal/strconv.uint64pow10",Lib.tabData .u64 Lib.pow10Tab)]:=by rfl
  rw[e] at h;exact Lib.tabIs_of_head (g:=3) (t:=268) (e:=245) (n:=20) (by kernel_rfl) (by kernel_rfl) (by kernel_rfl) (by kernel_rfl) (by kernel_rfl) (by kernel_rfl) h
 ·have h:=hL.filter (λx=>x.1 == "strconv.ErrRange");have e:(Rows.parseChecksRow.laid.filter λx=>x.1 == "strconv.ErrRange")=[("strconv.ErrRange",.iface "*errors.errorString" (.ptr (.agg [.lit (.string [118,97,108,117,101,32,111,117,116,32,111,102,32,114,97,110,103,101])])))]:=by rfl
  rw[e] at h;obtain⟨a,s,hv,_⟩:=laid_sentinel (g:=5) (tp:=284) (te:=286) (ts:=9) (ti:=82) h (by kernel_rfl) (by kernel_rfl) underlying82 zoa underlying284 underlying286 rfl rfl (by kernel_rfl) (by kernel_rfl) (by kernel_rfl);exact⟨_,_,hv⟩
end
end Go.Proofs.YtcagibbaeageoaaGreatDoor
namespace Lode
structure jR where
 nz:List Nd
 n:Nat
 bad:Bool
def RM(α:Type):Type:=zr->jR->Option (α×jR)
def RM.bind(m:RM α)(f:α->RM β):RM β:=λE s=>match m E s with
 |some x=>f x.1 E x.2
 |none=>none
instance:Monad RM where
 pure a:=λ_ s=>some (a,s)
 bind:=RM.bind
def Qu(E:zr)(s:jR):Nat:=if s.bad then 0 else (E.tz[s.n]?).elim 0 yO.kind
def txR(E:zr)(s:jR):List UInt8:=(E.tz[s.n]?).elim [] yO.text
def uP(E:zr)(s:jR)(x:List UInt8):Bool:=(Qu E s == 5 || Qu E s == 6) && txR E s == x
def plR(E:zr)(s:jR):Int:=(E.tz[s.n]?).elim 0 λt=>(t.at_:Int)
def jR.up(s:jR):jR:={s with n:=s.n+1}
def jR.fail(s:jR):jR:={s with bad:=true}
def qy:RM Int:=λE s=>some (plR E s,s)
def rKd:RM Nat:=λE s=>some (Qu E s,s)
def rIs(x:List UInt8):RM Bool:=λE s=>some (uP E s x,s)
def zI(x:List UInt8):RM Unit:=λE s=>some ((),if uP E s x then s.up else s.fail)
def xm(x:List UInt8):RM Bool:=λE s=>some (uP E s x,if uP E s x then s.up else s)
def Ye(k:Nat):RM (List UInt8):=λE s=>some (if Qu E s=k then (txR E s,s.up) else ([],s.fail))
def rUp:RM Unit:=λE s=>if s.n<E.tz.length then some ((),s.up) else none
def QH:RM Unit:=λ_ s=>some ((),s.fail)
def yv(kind:Nat)(text:List UInt8)(n at_:Int)(kids:List Int):RM Int:=λ_ s=>
 if s.nz.length<900000 then some (s.nz.length,{s with nz:=s.nz ++ [⟨kind,text,n,kids,at_⟩]}) else none
def uG:RM α:=λ_ _=>none
structure xn where
 expr:RM Int
 not:RM Int
 unary:RM Int
 block:RM Int
 els:RM Int
 type:RM Int
 pattern:RM Int
def qN:Nat->RM Int->List Int->RM (List Int)
 |0,_,_=>uG
 |k+1,part,acc=>do
  if <-xm [44] then
   let x <-part
   qN k part (acc ++ [x])
  else pure acc
def vg(part:RM Int)(acc:List Int):RM (List Int):=λE s=>qN (E.tz.length+1) part acc E s
def Vw(R:xn):RM Int:=do
 let p <-qy
 let x <-Ye 1
 zI [58]
 let t <-R.type
 yv 88 x 0 p [t]
def Zb(R:xn):Nat->List Int->RM (List Int)
 |0,_=>uG
 |k+1,acc=>do
  let x <-Vw R
  if <-xm [44] then Zb R k (acc ++ [x]) else pure (acc ++ [x])
def Zs(R:xn):RM (List Int):=λE s=>Zb R (E.tz.length+1) [] E s
def Qf(R:xn):RM (List Int):=do
 let x <-R.type
 vg R.type [x]
def Yj(R:xn):RM (List Int):=do
 let x <-R.expr
 vg R.expr [x]
def YR(R:xn):RM (List Int):=do
 zI [40]
 let l <-(do if <-rIs [41] then pure [] else Zs R:RM (List Int))
 zI [41]
 zI [58]
 let t <-R.type
 pure (l ++ [t])
def YS(R:xn):RM Int:=do
 let p <-qy
 let x <-Ye 2
 if <-xm [40] then
  let l <-Qf R
  zI [41]
  yv 89 x 0 p l
 else yv 89 x 0 p []
def za9(R:xn):RM Int:=do
 let p <-qy
 if <-xm [105,110,116] then yv 80 [] 0 p []
 else if <-xm [98,111,111,108] then yv 81 [] 0 p []
 else if <-xm [116,101,120,116] then yv 82 [] 0 p []
 else if <-xm [117,110,105,116] then yv 83 [] 0 p []
 else if <-xm [99,104,97,110] then
  let t <-R.type
  yv 86 [] 0 p [t]
 else if <-xm [119,101,97,107] then
  let t <-R.type
  yv 87 [] 0 p [t]
 else if <-xm [102,110] then
  zI [40]
  let l <-(do if <-rIs [41] then pure [] else Qf R:RM (List Int))
  zI [41]
  zI [58]
  let t <-R.type
  yv 85 [] 0 p (l ++ [t])
 else
  let x <-Ye 2
  yv 84 x 0 p []
def Ju(a:Int):RM Nat:=λ_ s=>if 0<=a then some ((s.nz[a.toNat]?).elim 0 Nd.kind,s) else none
def Kf(R:xn):RM (Int×Bool):=do
 let p <-qy
 if (<-rIs [108,101,116]) then
  rUp
  let x <-Ye 1
  zI [61]
  let e <-R.expr
  let r <-yv 60 x 0 p [e]
  pure (r,false)
 else if (<-rIs [118,97,114]) then
  rUp
  let x <-Ye 1
  zI [61]
  let e <-R.expr
  let r <-yv 61 x 0 p [e]
  pure (r,false)
 else
  let a <-R.expr
  if <-rIs [58,61] then
   let k <-Ju a
   if k=5\/k=23 then
    let q <-qy
    rUp
    let e <-R.expr
    let r <-yv 62 [] 0 q [a,e]
    pure (r,false)
   else
    QH
    pure (a,false)
  else pure (a,true)
def rGo:RM Bool:=λE s=>some (!s.bad && !uP E s [125],s)
def kC(R:xn):Nat->List Int->RM (List Int×Int)
 |0,_=>uG
 |k+1,acc=>do
  if <-rGo then
   let x <-Kf R
   if <-xm [59] then kC R k (acc ++ [x.1])
   else if x.2 then pure (acc ++ [x.1],1)
   else
    QH
    pure (acc ++ [x.1],1)
  else pure (acc,0)
def Qh(R:xn):RM Int:=do
 let p <-qy
 zI [123]
 let x <-(λE s=>kC R (E.tz.length+1) [] E s:RM (List Int×Int))
 zI [125]
 yv 28 [] x.2 p x.1
def zdG(R:xn):RM Int:=do
 let p <-qy
 if <-xm [99,108,97,115,115] then
  let x <-Ye 2
  zI [123]
  let l <-Zs R
  zI [125]
  yv 100 x 0 p l
 else if <-xm [107,105,110,100] then
  let x <-Ye 2
  zI [123]
  let a <-YS R
  let l <-vg (YS R) [a]
  zI [125]
  yv 101 x 0 p l
 else if <-xm [101,120,116,101,114,110] then
  zI [102,117,110]
  let x <-Ye 1
  let l <-YR R
  zI [59]
  yv 103 x 0 p l
 else if <-xm [114,111,111,116] then
  let x <-Ye 1
  zI [58]
  let a <-R.type
  zI [61]
  let e <-R.expr
  zI [59]
  yv 104 x 0 p [a,e]
 else
  let u <-xm [112,117,114,101]
  zI [102,117,110]
  let x <-Ye 1
  let l <-YR R
  let b <-R.block
  yv 102 x (if u then 1 else 0) p (l ++ [b])
def XM(l:List (List UInt8×Nat)):RM Nat:=λE s=>some ((l.find? λx=>uP E s x.1).elim 0 (·.2),s)
def zaH(rank:Nat):List (List UInt8×Nat):=(yD (rank-2)).zip (qv (rank-2))
def vf(w:List UInt8)(kind:Nat)(part:RM Int):Nat->Int->RM Int
 |0,_=>uG
 |k+1,a=>do
  if <-rIs w then
   let p <-qy
   rUp
   let b <-part
   let c <-yv kind [] 0 p [a,b]
   vf w kind part k c
  else pure a
def Zt(rank:Nat)(part:RM Int):Nat->Int->RM Int
 |0,_=>uG
 |n+1,a=>do
  let k <-XM (zaH rank)
  if k=0 then pure a
  else
   let p <-qy
   rUp
   let b <-part
   let c <-yv k [] 0 p [a,b]
   Zt rank part n c
def Za(R:xn):Nat->Bool->List Int->RM (List Int)
 |0,_,acc=>pure acc
 |k+1,first,acc=>do
  let _ <-(do if first then pure () else zI [44]:RM Unit)
  let x <-R.expr
  Za R k false (acc ++ [x])
def Vt(R:xn)(many:Nat):RM (List Int):=do
 zI [40]
 let l <-Za R many true []
 zI [41]
 pure l
def Vu(R:xn):RM Int:=do
 let p <-qy
 let x <-Ye 1
 zI [58]
 let e <-R.expr
 yv 27 x 0 p [e]
def Jv(R:xn):RM Int:=do
 let a <-R.pattern
 let p <-qy
 zI [61,62]
 let e <-R.expr
 yv 32 [] 0 p [a,e]
def zjF(R:xn):RM Int:=do
 let p <-qy
 if <-xm [114,101,99,118] then
  let a <-R.expr
  zI [97,115]
  let x <-Ye 1
  zI [61,62]
  let e <-R.expr
  yv 63 x 0 p [a,e]
 else if <-xm [115,101,110,100] then
  let a <-R.expr
  zI [44]
  let b <-R.expr
  zI [61,62]
  let e <-R.expr
  yv 64 [] 0 p [a,b,e]
 else
  zI [101,108,115,101]
  zI [61,62]
  let e <-R.expr
  yv 65 [] 0 p [e]
def uZ(R:xn):Nat->List Int->RM (List Int)
 |0,_=>uG
 |k+1,acc=>do
  let last <-rIs [101,108,115,101]
  let x <-zjF R
  if last then pure (acc ++ [x])
  else if <-xm [44] then uZ R k (acc ++ [x])
  else pure (acc ++ [x])
def qc(R:xn)(p:Int):RM Int:=do
 if <-xm [116,114,117,101] then yv 3 [] 1 p []
 else if <-xm [102,97,108,115,101] then yv 3 [] 0 p []
 else if <-xm [40] then
  if <-xm [41] then yv 4 [] 0 p []
  else
   let a <-R.expr
   zI [41]
   pure a
 else if <-xm [110,101,119] then
  let x <-Ye 2
  zI [123]
  let a <-Vu R
  let l <-vg (Vu R) [a]
  zI [125]
  yv 26 x 0 p l
 else if <-xm [105,102] then
  let c <-R.expr
  let b <-R.block
  if <-xm [101,108,115,101] then
   let e <-R.els
   yv 29 [] 0 p [c,b,e]
  else yv 29 [] 0 p [c,b]
 else if <-xm [119,104,105,108,101] then
  let c <-R.expr
  let b <-R.block
  yv 30 [] 0 p [c,b]
 else if <-xm [109,97,116,99,104] then
  let c <-R.expr
  zI [123]
  let a <-Jv R
  let l <-vg (Jv R) [c,a]
  zI [125]
  yv 31 [] 0 p l
 else if <-xm [102,110] then
  let l <-YR R
  let b <-R.block
  yv 33 [] 0 p (l ++ [b])
 else if <-xm [116,114,121] then
  let a <-R.block
  zI [99,97,116,99,104]
  let x <-Ye 1
  let b <-R.block
  yv 34 x 0 p [a,b]
 else if <-xm [104,111,108,100] then
  let a <-R.expr
  zI [97,115]
  let x <-Ye 1
  let b <-R.block
  zI [101,108,115,101]
  let c <-R.block
  yv 36 x 0 p [a,b,c]
 else if <-xm [115,101,108,101,99,116] then
  zI [123]
  let l <-(λE s=>uZ R (E.tz.length+1) [] E s:RM (List Int))
  zI [125]
  yv 35 [] 0 p l
 else if <-xm [99,104,97,110] then
  let t <-R.type
  zI [40]
  let x <-Ye 3
  zI [41]
  yv 40 [] (ym x) p [t]
 else
  QH
  yv 0 [] 0 p []
def zbb(R:xn):RM Int:=do
 if <-rIs [105,102] then
  let p <-qy
  qc R p
 else Qh R
def wdR(E:zr)(s:jR):List UInt8:=if Qu E s=5\/Qu E s=6 then txR E s else []
def rWd:RM (List UInt8):=λE s=>some (wdR E s,s)
def qO:List (List UInt8×Nat):=[([105,110],44),([121,105,101,108,100],45),([99,111,108,108,101,99,116],46)]
def xd:List (List UInt8×Nat):=[([115,101,110,100],41),([114,101,99,118],42),([111,117,116],43),([115,105,122,101],47),([115,104,111,119],50),([114,101,97,100],51),([98,121,116,101],48),([99,117,116],49)]
def QR:List Nat:=[2,1,1,1,1,1,2,3]
def vD:List (List UInt8×Nat):=[([116,104,114,111,119],37),([115,112,97,119,110],38),([119,101,97,107],39)]
def Vy(R:xn):RM Int:=do
 let p <-qy
 let k <-rKd
 if k=3 then
  let x <-Ye 3
  yv 1 [] (ym x) p []
 else if k=4 then
  let x <-Ye 4
  yv 2 x 0 p []
 else if k=1 then
  let x <-Ye 1
  yv 5 x 0 p []
 else if k=2 then
  let x <-Ye 2
  if <-xm [40] then
   let l <-Yj R
   zI [41]
   yv 25 x 0 p l
  else yv 25 x 0 p []
 else
  let w <-rWd
  if (qO.map (·.1)).contains w then
   rUp
   yv ((qO.map (·.2)).getD ((qO.map (·.1)).idxOf w) 0) [] 0 p []
  else if (xd.map (·.1)).contains w then
   rUp
   let l <-Vt R (QR.getD ((xd.map (·.1)).idxOf w) 0)
   yv ((xd.map (·.2)).getD ((xd.map (·.1)).idxOf w) 0) [] 0 p l
  else if (vD.map (·.1)).contains w then
   rUp
   let x <-R.unary
   yv ((vD.map (·.2)).getD ((vD.map (·.1)).idxOf w) 0) [] 0 p [x]
  else qc R p
def ZG(R:xn):Nat->Int->RM Int
 |0,_=>uG
 |k+1,a=>do
  let p <-qy
  if <-xm [46] then
   let x <-Ye 1
   let b <-yv 23 x 0 p [a]
   ZG R k b
  else if <-xm [40] then
   let l <-(do if <-rIs [41] then pure [] else Yj R:RM (List Int))
   zI [41]
   let b <-yv 24 [] 0 p (a :: l)
   ZG R k b
  else pure a
def zba(R:xn):RM Int:=do
 let a <-Vy R
 (λE s=>ZG R (E.tz.length+1) a E s:RM Int)
def ux(R:xn):RM Int:=do
 let p <-qy
 if <-xm [45] then
  let a <-R.unary
  yv 6 [] 0 p [a]
 else zba R
def XL(R:xn):RM Int:=do
 let a <-ux R
 (λE s=>Zt 6 (ux R) (E.tz.length+1) a E s:RM Int)
def zfs(R:xn):RM Int:=do
 let a <-XL R
 (λE s=>Zt 5 (XL R) (E.tz.length+1) a E s:RM Int)
def jE(R:xn):RM Int:=do
 let a <-zfs R
 let k <-XM (zaH 4)
 if k=0 then pure a
 else
  let p <-qy
  rUp
  let b <-zfs R
  yv k [] 0 p [a,b]
def KC(R:xn):RM Int:=do
 let p <-qy
 if <-xm [110,111,116] then
  let a <-R.not
  yv 7 [] 0 p [a]
 else jE R
def zaF(R:xn):RM Int:=do
 let a <-KC R
 (λE s=>vf [97,110,100] 21 (KC R) (E.tz.length+1) a E s:RM Int)
def zdH(R:xn):RM Int:=do
 let a <-zaF R
 (λE s=>vf [111,114] 22 (zaF R) (E.tz.length+1) a E s:RM Int)
def ZU(R:xn):RM Int:=do
 let p <-qy
 let k <-rKd
 if k=1 then
  let x <-Ye 1
  yv 66 x 0 p []
 else if k=3 then
  let x <-Ye 3
  yv 67 [] (ym x) p []
 else if k=4 then
  let x <-Ye 4
  yv 68 x 0 p []
 else if <-xm [45] then
  let x <-Ye 3
  yv 67 [] (-(ym x:Int)) p []
 else if <-xm [116,114,117,101] then yv 69 [] 1 p []
 else if <-xm [102,97,108,115,101] then yv 69 [] 0 p []
 else
  let x <-Ye 2
  if <-xm [40] then
   let a <-R.pattern
   let l <-vg R.pattern [a]
   zI [41]
   yv 70 x 0 p l
  else yv 70 x 0 p []
def Yy:Nat->xn
 |0=>⟨uG,uG,uG,uG,uG,uG,uG⟩
 |n+1=>⟨zdH (Yy n),KC (Yy n),ux (Yy n),Qh (Yy n),zbb (Yy n),za9 (Yy n),ZU (Yy n)⟩
def Zv(R:xn):Nat->List Int->RM (List Int)
 |0,_=>uG
 |k+1,acc=>λE s=>
  if s.bad=false/\s.n<E.tz.length then (do
   let x <-zdG R
   Zv R k (acc ++ [x]):RM (List Int)) E s
  else some (acc,s)
def Vv(l:List yO)(len:Nat):Option (List Int×jR):=Zv (Yy (l.length+2)) (l.length+1) [] ⟨l,len⟩ ⟨[],0,false⟩
section
variable {α β γ:Type}
def rmA(a:RM α)(b:α->RM β)(c:β->RM γ)(E:zr)(s:jR):((a >>= b) >>= c) E s=(a >>= λx=>b x >>= c) E s:=by
 change RM.bind (RM.bind a b) c E s=RM.bind a (λx=>RM.bind (b x) c) E s;unfold RM.bind;cases a E s <;> rfl
def kg(a:RM α)(b:α->RM β)(c:β->RM γ):((a >>= b) >>= c)=(a >>= λx=>b x >>= c):=funext λE=>funext λs=>rmA a b c E s
def Zo(b:Bool)(A B:RM α)(c:α->RM β):((if b=true then A else B) >>= c)=if b=true then (A >>= c) else (B >>= c):=by cases b <;> rfl
def uH(a:α)(c:α->RM β):((Pure.pure a:RM α) >>= c)=c a:=rfl
end
end Lode
namespace Go.Proofs.YtcagibbaeageoaaGreatDoor
section
open Go.RowKit Lode Go.Shelf
open Go.Proofs.Tryz
def qU(pb:Nat)(w:World):Option Nat:=((w.heap[pb]?).bind λo=>match o with
 | .cells cs _ _=>(cs[2]?).bind Value.ownBlock
 |_=>none)
def znx:Value->Nat
 | .int _ n=>n.toNat
 |_=>0
def qj(pb:Nat)(w:World):Nat:=((w.heap[pb]?).bind λo=>match o with
 | .cells cs _ _=>(cs[1]?).map znx
 |_=>none).getD 0
structure RF(base pb:Nat)(w w':World):Prop where
 b:Below base w w'
 keep:∀k,k<w.heap.size->k≠pb->qU pb w≠some k->w'.heap[k]? =w.heap[k]?
 nb:qU pb w'=qU pb w\/∃g,qU pb w'=some g/\w.heap.size<=g
 mn:qj pb w<=qj pb w'
def RF.refl(base pb:Nat)(w:World):RF base pb w w:=⟨pG _ _,λ_ _ _ _=>rfl,.inl rfl,pC _⟩
theorem RF.trans{pb:Nat}{a b c:World}(h:RF base pb a b)(k:RF base pb b c):RF base pb a c:=by
 refine⟨h.b.trans k.b,λn hn h1 h2=>?_,?_,pN h.mn k.mn⟩
 ·rw[k.keep n (pX hn h.b.size) h1 ?_]
  ·exact h.keep n hn h1 h2
  ·rcases h.nb with e|⟨g,e,hg⟩
   ·rw[e];exact h2
   ·rw[e];intro e2;cases e2;omega
 ·rcases k.nb with e|⟨g,e,hg⟩
  ·rw[e];exact h.nb
  ·exact .inr ⟨g,e,pN h.b.size hg⟩
def RF.below{pb:Nat}(hb:base<=w.heap.size)(hp:pb<w.heap.size)(h:Below w.heap.size w w'):RF base pb w w':=
 ⟨h.mono hb,λk hk _ _=>h.block k hk,.inl (by unfold qU;rw[h.block pb hp]),by unfold qj;rw[h.block pb hp];exact pC _⟩
structure RWv(E:zr)(base pb:Nat)(w:World)(st:jR)(nv tv:Value)(kv:List Value):Prop where
 hpb:base<=pb
 obj:w.heap[pb]? =some (.cells #[tv,.int .i64 st.n,nv,.bool st.bad] 63 (0,0))
 tz:TK base w tv E.tz
 nz:w.ownsRow base 60 5 nv st.nz.length (je st.nz kv)
 kvl:kv.length=st.nz.length
 kz:∀(j:Nat) (x:Nd) (v:Value),st.nz[j]? =some x->kv[j]? =some v->KS w v x.kz
def RW(E:zr)(base pb:Nat)(G:Nat->Prop)(w:World)(st:jR):Prop:=∃nv tv kv,RWv E base pb w st nv tv kv/\(∀v∈kv,∀g,yY v=some g->¬G g)/\∀g,G g->g<w.heap.size
section
variable {E:zr} {base pb:Nat} {G:Nat→Prop} {w w':World} {st:jR} {nv tv:Value} {kv:List Value}
theorem RWv.qU(P:RWv E base pb w st nv tv kv):qU pb w=nv.ownBlock:=by
 unfold Go.Proofs.YtcagibbaeageoaaGreatDoor.qU;rw[P.obj];rfl
theorem RWv.qj(P:RWv E base pb w st nv tv kv):qj pb w=st.n:=by
 unfold Go.Proofs.YtcagibbaeageoaaGreatDoor.qj;rw[P.obj];rfl
def RWv.lt(P:RWv E base pb w st nv tv kv):pb<w.heap.size:=(gtA P.obj)
def RWv.nt(P:RWv E base pb w st nv tv kv)(h:nv.ownBlock=some k):base<=k/\∃cs,w.heap[k]? =some (.cells cs 60 (0,0)):=by
 obtain⟨_,⟨hv,_⟩|⟨g,cap,cur,hv,hb,hg,_⟩⟩:=P.nz
 ·rw[hv] at h;cases h
 ·rw[hv] at h;simp only[Value.ownBlock,wO] at h;subst h;exact⟨hb,cur,hg⟩
def RWv.far(P:RWv E base pb w st nv tv kv)(h:w.heap[k]? =some (.cells cs T fr))(hT:T≠63/\T≠60):k≠pb/\nv.ownBlock≠some k:=by
 constructor
 ·intro e;have:=P.obj;rw[<-e,h] at this;simp at this;exact hT.1 this.2.1
 ·intro e;obtain⟨_,Rq,h2⟩:=P.nt e;rw[h] at h2;simp at h2;exact hT.2 h2.2.1
def RWv.kfar(P:RWv E base pb w st nv tv kv)(h:KS w v l)(F:RF base pb w w'):KS w' v l:=by
 obtain⟨p,cap,hv,h⟩:=h;refine⟨p,cap,hv,h.imp id λ⟨g,off,cs,fr,hp,hg,hc⟩=>⟨g,off,cs,fr,hp,?_,hc⟩⟩;obtain⟨h1,h2⟩:=P.far hg ⟨by decide,by decide⟩;rw[F.keep g (gtA hg) h1 (by rw[P.qU];exact h2)];exact hg
def RWv.mk'{st':jR}(P:RWv E base pb w st nv tv kv)(F:RF base pb w w')(pg:w'.heap[pb]? =some (.cells #[tv,.int .i64 st'.n,nv',.bool st'.bad] 63 (0,0)))(hn:w'.ownsRow base 60 5 nv' st'.nz.length (je st'.nz kv'))(hk:kv'.length=st'.nz.length)(aB:∀(j:Nat) (x:Nd) (v:Value),st'.nz[j]? =some x->kv'[j]? =some v->KS w' v x.kz):RWv E base pb w' st' nv' tv kv':=
 ⟨P.hpb,pg,P.tz.fr F.b,hn,hk,aB⟩
def RWv.rowKept(P:RWv E base pb w st nv tv kv)(h:∀k,nv.ownBlock=some k->w'.heap[k]? =w.heap[k]?):w'.ownsRow base 60 5 nv st.nz.length (je st.nz kv):=by
 obtain⟨hl,⟨hv,h0⟩|⟨g,cap,cur,hv,hb,hg,r⟩⟩:=P.nz
 ·exact⟨hl,.inl ⟨hv,h0⟩⟩
 ·exact⟨hl,.inr ⟨g,cap,cur,hv,hb,by rw[h g (by rw[hv];rfl)];exact hg,r⟩⟩
def RW.bs(h:RW E base pb G w st):base<=w.heap.size/\pb<w.heap.size:=by
 obtain⟨nv,tv,kv,P,_⟩:=h;have:=P.lt;have:=P.hpb;omega
def RW.glt(h:RW E base pb G w st):∀g,G g->g<w.heap.size:=by
 obtain⟨nv,tv,kv,P,_,hL⟩:=h;exact hL
def RW.rf(h:RW E base pb G w st)(hb:Below w.heap.size w w'):RF base pb w w':=RF.below h.bs.1 h.bs.2 hb
def RW.below(h:RW E base pb G w st)(hb:Below w.heap.size w w'):RW E base pb G w' st:=by
 have F:=h.rf hb;obtain⟨nv,tv,kv,P,hG,hL⟩:=h;exact⟨nv,tv,kv,P.mk' F (zi hb P.obj) (P.rowKept λk hk=>hb.block k (by obtain⟨_,cs,hh⟩:=P.nt hk;exact (gtA hh))) P.kvl λj x v hx hv=>P.kfar (P.kz j x v hx hv) F,hG,λg hg=>pX (hL g hg) hb.size⟩
def RW.weaken(h:RW E base pb G w st)(hG:∀g,G' g->G g):RW E base pb G' w st:=by
 obtain⟨nv,tv,kv,P,h1,h2⟩:=h;exact⟨nv,tv,kv,P,λv hv g hg h=>h1 v hv g hg (hG g h),λg h=>h2 g (hG g h)⟩
def RW.setP(h:RW E base pb G w st){st':jR}(hs:st'.nz=st.nz)(hn:st.n<=st'.n)(hc:∀tv nv,(#[tv,.int .i64 st.n,nv,.bool st.bad]:Array Value).setIfInBounds i v= #[tv,.int .i64 st'.n,nv,.bool st'.bad]):RW E base pb G (w.setCell ⟨pb,i,none⟩ v) st'/\RF base pb w (w.setCell ⟨pb,i,none⟩ v):=by
 obtain⟨nv,tv,kv,P,hG,hL⟩:=h;have ho:=(zt P.obj i v).trans (by rw[hc]);have hk:∀k,k≠pb->(w.setCell ⟨pb,i,none⟩ v).heap[k]? =w.heap[k]? :=λk hk=>Below.heap_setCell _ _ _ _ (by simpa using hk)
 have F:RF base pb w (w.setCell ⟨pb,i,none⟩ v):=by
  refine⟨(pG base w).setCell P.hpb v,λk _ h1 _=>hk k h1,.inl ?_,?_⟩
  ·rw[P.qU];unfold Go.Proofs.YtcagibbaeageoaaGreatDoor.qU;rw[ho];rfl
  ·rw[P.qj];unfold Go.Proofs.YtcagibbaeageoaaGreatDoor.qj;rw[ho];exact hn
 refine⟨⟨nv,tv,kv,P.mk' F ho ?_ (by rw[hs];exact P.kvl) (λj x u hx hv=>P.kfar (P.kz j x u (hs▸hx) hv) F),hG,λg hg=>by simpa using hL g hg⟩,F⟩;rw[hs];exact P.rowKept λk hn=>hk k λe=>by
  obtain⟨_,cs,hh⟩:=P.nt hn;rw[e,P.obj] at hh;simp at hh
def RW.setN(h:RW E base pb G w st){b:Nat}(hb:w.heap[b]? =some (.cells cs 60 fr))(hn:qU pb w≠some b)(mH:base<=b)(i:Nat)(v:Value):RW E base pb G (w.setCell ⟨b,i,none⟩ v) st/\qU pb (w.setCell ⟨b,i,none⟩ v)=qU pb w:=by
 obtain⟨nv,tv,kv,P,hG,hL⟩:=h;have hk:∀k,k≠b->(w.setCell ⟨b,i,none⟩ v).heap[k]? =w.heap[k]? :=λk hk=>Below.heap_setCell _ _ _ _ (by simpa using hk)
 have hpb:pb≠b:=λe=>by
  have:=P.obj;rw[e,hb] at this;simp at this
 have bf:=(hk pb hpb).trans P.obj;have gI:Go.Proofs.YtcagibbaeageoaaGreatDoor.qU pb (w.setCell ⟨b,i,none⟩ v)=Go.Proofs.YtcagibbaeageoaaGreatDoor.qU pb w:=by
  unfold Go.Proofs.YtcagibbaeageoaaGreatDoor.qU;rw[hk pb hpb]
 refine⟨⟨nv,tv,kv,⟨P.hpb,bf,P.tz.fr ((pG base w).setCell mH v),P.rowKept λk hh=>hk k λe=>?_,P.kvl,λj x u hx hu=>?_⟩,hG,λg hg=>by simpa using hL g hg⟩,gI⟩
 ·rw[P.qU,hh,e] at hn;exact hn rfl
 ·obtain⟨p,cap,hv,mq⟩:=P.kz j x u hx hu;refine⟨p,cap,hv,mq.imp id λ⟨g,off,cs',fr',hp,hg,hc⟩=>⟨g,off,cs',fr',hp,?_,hc⟩⟩;rw[hk g λe=>by
   rw[e,hb] at hg;simp at hg]
  exact hg
def RF.setNew(F:RF base pb w w')(h:qU pb w2=qU pb w'){b:Nat}(e:w2=w'.setCell ⟨b,i,none⟩ v)(hp:b≠pb)(hb:w.heap.size<=b)(mH:base<=b):RF base pb w w2:=by
 subst e;exact⟨F.b.setCell mH v,λk hk h1 h2=>by rw[Below.heap_setCell _ _ _ _ (by simp only;omega)];exact F.keep k hk h1 h2,by rw[h];simpa using F.nb,by unfold qj;rw[Below.heap_setCell _ _ _ _ (by simpa using hp.symm)];exact F.mn⟩
end
end
section
open Go.RowKit Lode Go.Shelf
attribute [local go_sem ↓] wp_at_zero wp_at_succ
open Go.Proofs.Tryz
def RW.look{pb:Nat}{st:jR}(h:RW E base pb G w st):∃(p:Option Addr) (cap:Nat) (nv:Value),w.cell? ⟨pb,0,none⟩=some (.slice p E.tz.length cap)/\w.cell? ⟨pb,1,none⟩=some (.int .i64 st.n)/\w.cell? ⟨pb,2,none⟩=some nv/\w.cell? ⟨pb,3,none⟩=some (.bool st.bad)/\(∀j,w.frozen? ⟨pb,j,none⟩=false)/\∀(j:Nat) (t:yO),E.tz[j]? =some t->∃g,p=some ⟨g,0,none⟩/\w.cell? ⟨g,j*3,none⟩=some (.int .u8 t.kind)/\w.cell? ⟨g,j*3+1,none⟩=some (.string ⟨t.text.toArray⟩)/\w.cell? ⟨g,j*3+2,none⟩=some (.int .i64 t.at_):=by
 obtain⟨nv,tv,kv,P,_,_⟩:=h;obtain⟨p,cap,rfl,hT⟩:=P.tz;refine⟨p,cap,nv,zd P.obj 0,zd P.obj 1,zd P.obj 2,zd P.obj 3,λj=>zj P.obj j,λj t ht=>?_⟩;obtain⟨g,cs,fr,_,rfl,hg,hc⟩:=hT.resolve_left (λe=>by rw[e] at ht;simp at ht);obtain⟨h0,h1,h2⟩:=hc j t ht;exact⟨g,rfl,(zd hg _).trans h0,(zd hg _).trans h1,(zd hg _).trans h2⟩
section
variable {E:zr} {base pb:Nat} {G:Nat→Prop} {w:World} {st:jR}
def vM(h:RW E base pb G w st):Calls prog 140 #[.pointer (some ⟨pb,0,none⟩)] w λe w'=>e=.returned (.int .u8 (Qu E st))/\Below w.heap.size w w':=by
 obtain⟨p,cap,nv,c0,c1,c2,c3,cf,ht⟩:=h.look;have B0:=pG w.heap.size w;unfold Qu;clear cf c2 h;obtain⟨nodes,i,bad⟩:=st;simp only at *;cases bad with
 |true=>
  go_enter func140,ntmps140;go_wp2_with fail;go_quiet (fail);go_wp2;go_ret;exact⟨rfl,zO B0 _⟩
 |false=>
  cases hx:E.tz[i]? with
  |none=>
   have hi:E.tz.length<=i:=List.getElem?_eq_none_iff.1 hx;clear ht;generalize E.tz.length=n at *;go_enter func140,ntmps140;go_wp2_with fail;go_quiet (fail);go_wp2;go_ret;exact⟨rfl,zO B0 _⟩
  |some t=>
   have hi:i<E.tz.length:=(gtL hx);obtain⟨g,rfl,d0,d1,d2⟩:=ht _ t hx;clear ht hx;generalize E.tz.length=n at *;obtain⟨k1,t1,a1⟩:=t;simp only at *;go_enter func140,ntmps140;go_wp2_with fail;go_quiet (fail);go_wp2_with fail;go_quiet (fail);go_wp2;go_ret;exact⟨rfl,zO B0 _⟩
def zdD(h:RW E base pb G w st):Calls prog 86 #[.pointer (some ⟨pb,0,none⟩)] w λe w'=>e=.returned (.int .i64 (plR E st))/\Below w.heap.size w w':=by
 obtain⟨p,cap,nv,c0,c1,c2,c3,cf,ht⟩:=h.look;have B0:=pG w.heap.size w;unfold plR;clear cf c2 c3 h;obtain⟨nodes,i,bad⟩:=st;simp only at *;cases hx:E.tz[i]? with
 |none=>
  have hi:E.tz.length<=i:=List.getElem?_eq_none_iff.1 hx;clear ht hx;generalize E.tz.length=n at *;go_enter func86,ntmps86;go_wp2_with fail;go_quiet (fail);go_wp2;go_ret;exact⟨rfl,zO B0 _⟩
 |some t=>
  have hi:i<E.tz.length:=(gtL hx);obtain⟨g,rfl,d0,d1,d2⟩:=ht _ t hx;clear ht hx;generalize E.tz.length=n at *;obtain⟨k1,t1,a1⟩:=t;simp only at *;go_enter func86,ntmps86;go_wp2_with fail;go_quiet (fail);go_wp2_with fail;go_quiet (fail);go_wp2;go_ret;exact⟨rfl,zO (zO B0 _) _⟩
def QT(hk:Qu E st=k)(h0:k≠0):st.bad=false/\∃t,E.tz[st.n]? =some t/\t.kind=k/\txR E st=t.text:=by
 unfold Qu at hk;unfold txR;cases hb:st.bad with
 |true=>rw[hb,if_pos rfl] at hk;omega
 |false=>
  rw[hb] at hk;cases hx:E.tz[st.n]? with
  |none=>rw[hx] at hk;exact absurd hk.symm h0
  |some t=>
   rw[hx] at hk;exact⟨rfl,t,rfl,hk,rfl⟩
def uX(h:RW E base pb G w st)(x:List UInt8):Calls prog 139 #[.pointer (some ⟨pb,0,none⟩),.string ⟨x.toArray⟩] w λe w'=>e=.returned (.bool (uP E st x))/\Below w.heap.size w w':=by
 have hK:=zh (vM h);have hD:=zh (λ(W:World) (hb:Below w.heap.size w W)=>(h.below hb).look);have hs:=zh (λk (hk:Qu E st=k) (h0:k≠0)=>QT hk h0);clear h;unfold uP;generalize Qu E st=k at *;by_cases dm:k=5\/k=6
 ·obtain⟨_,t,hx,_,Hd⟩:=hs.q k rfl (by omega);have hi:st.n<E.tz.length:=(gtL hx);have e1:(k == 5 || k == 6)=true:=by simp[dm]
  rw[e1,Hd,Bool.true_and];clear hs e1 Hd;go_enter func139,ntmps139;go_wp2_with fail;refine hK.q.mono ?_;rintro e w1 ⟨rfl,hb⟩;obtain⟨p,cap,nv,c0,c1,c2,c3,cf,ht⟩:=hD.q w1 hb;obtain⟨g,rfl,d0,d1,d2⟩:=ht _ t hx;clear c2 c3 cf ht d0 d2 hx hK hD;generalize E.tz.length=n at *;obtain⟨nodes,i,bad⟩:=st;obtain⟨k1,t1,a1⟩:=t;simp only at *;rcases dm with rfl|rfl
  all_goals
   go_wp2_with fail;go_quiet (fail);go_wp2;go_ret;exact⟨rfl,zO hb _⟩
 ·have e1:(k == 5 || k == 6)=false:=by simp;omega
  have z1:((k:Int) == 5)=false:=bfE (by omega)
  have z2:((k:Int) == 6)=false:=bfE (by omega)
  rw[e1,Bool.false_and];clear dm e1 hs hD;go_enter func139,ntmps139;go_wp2_with fail;refine hK.q.mono ?_;rintro e w1 ⟨rfl,hb⟩;go_wp2_with fail;go_quiet (fail);go_wp2;go_ret;exact⟨rfl,zO hb _⟩
def qI{x:List UInt8}(h:uP E st x=true):st.n<E.tz.length:=by
 unfold uP at h;rw[pJ,wG,pR,pR] at h;obtain⟨_,t,hx,_⟩:=QT (E:=E) (st:=st) rfl (by omega);exact (gtL hx)
theorem RW.up(h:RW E base pb G w st):RW E base pb G (w.setCell ⟨pb,1,none⟩ (.int .i64 ((st.n:Int)+1))) st.up/\RF base pb w (w.setCell ⟨pb,1,none⟩ (.int .i64 ((st.n:Int)+1))):=h.setP rfl (Nat.le_succ _) λ_ _=>rfl
theorem RW.fail(h:RW E base pb G w st):RW E base pb G (w.setCell ⟨pb,3,none⟩ (.bool true)) st.fail/\RF base pb w (w.setCell ⟨pb,3,none⟩ (.bool true)):=h.setP rfl (pC _) λ_ _=>rfl
def zfk(h:RW E base pb G w st)(hl:E.tz.length<=100000)(x:List UInt8):Calls prog 89 #[.pointer (some ⟨pb,0,none⟩),.string ⟨x.toArray⟩] w λe w'=>e=.returned (.tuple #[])/\RW E base pb G w' (if uP E st x then st.up else st.fail)/\RF base pb w w':=by
 have hI:=zh (uX h x);have H:=zh h;clear h;cases hk:uP E st x with
 |true=>
  have mD:=qI hk;have hy:=pF ((st.n:Int)+1) (by omega);rw[hk] at hI;rw[if_pos rfl];go_enter func89,ntmps89;go_wp2_with fail;refine hI.q.mono ?_;rintro e w1 ⟨rfl,hb⟩;have h1:=H.q.below hb;obtain⟨h2,F2⟩:=h1.up;obtain⟨p,cap,nv,c0,c1,c2,c3,cf,ht⟩:=h1.look;have f1:=cf 1;have H2:=zh h2;have HF:=zh ((H.q.rf hb).trans F2);clear ht cf c0 c2 c3 h1 h2 F2;go_wp2_with fail;go_end0;exact⟨rfl,H2.q,HF.q⟩
 |false=>
  rw[hk] at hI;rw[if_neg (by decide)];go_enter func89,ntmps89;go_wp2_with fail;refine hI.q.mono ?_;rintro e w1 ⟨rfl,hb⟩;have h1:=H.q.below hb;obtain⟨h2,F2⟩:=h1.fail;obtain⟨p,cap,nv,c0,c1,c2,c3,cf,ht⟩:=h1.look;have f3:=cf 3;have H2:=zh h2;have HF:=zh ((H.q.rf hb).trans F2);clear ht cf c0 c1 c2 h1 h2 F2;go_wp2_with fail
  (try simp only[Exit.inBlock,Exit.then]);refine bodyPost_ret (results_none rfl _ _ _) rfl ?_
  exact⟨rfl,H2.q,HF.q⟩
def za7(h:RW E base pb G w st)(hl:E.tz.length<=100000)(x:List UInt8):Calls prog 87 #[.pointer (some ⟨pb,0,none⟩),.string ⟨x.toArray⟩] w λe w'=>e=.returned (.bool (uP E st x))/\RW E base pb G w' (if uP E st x then st.up else st)/\RF base pb w w':=by
 have hI:=zh (uX h x);have H:=zh h;clear h;cases hk:uP E st x with
 |true=>
  have mD:=qI hk;have hy:=pF ((st.n:Int)+1) (by omega);rw[hk] at hI;rw[if_pos rfl];go_enter func87,ntmps87;go_wp2_with fail;refine hI.q.mono ?_;rintro e w1 ⟨rfl,hb⟩;have h1:=H.q.below hb;obtain⟨h2,F2⟩:=h1.up;obtain⟨p,cap,nv,c0,c1,c2,c3,cf,ht⟩:=h1.look;have f1:=cf 1;have H2:=zh h2;have HF:=zh ((H.q.rf hb).trans F2);clear ht cf c0 c2 c3 h1 h2 F2;go_wp2;go_ret;exact⟨rfl,H2.q,HF.q⟩
 |false=>
  rw[hk] at hI;rw[if_neg (by decide)];go_enter func87,ntmps87;go_wp2_with fail;refine hI.q.mono ?_;rintro e w1 ⟨rfl,hb⟩;go_wp2;go_ret;exact⟨rfl,H.q.below hb,H.q.rf hb⟩
def zfe(h:RW E base pb G w st)(hl:E.tz.length<=100000)(h0:k≠0):Calls prog 88 #[.pointer (some ⟨pb,0,none⟩),.int .u8 k] w λe w'=>e=.returned (.string ⟨(if Qu E st=k then (txR E st,st.up) else ([],st.fail)).1.toArray⟩)/\RW E base pb G w' (if Qu E st=k then (txR E st,st.up) else ([],st.fail)).2/\RF base pb w w':=by
 have hI:=zh (vM h);have H:=zh h;clear h;by_cases hk:Qu E st=k
 ·obtain⟨_,t,hx,_,Hd⟩:=QT hk h0;have mD:=(gtL hx);have hy:=pF ((st.n:Int)+1) (by omega);have Br:IntKind.i64.wrap ((st.n:Int)+1-1)=(st.n:Int):=by rw[pF _ ⟨by omega,by omega⟩];omega
  rw[if_pos hk,Hd];rw[hk] at hI;simp only;clear hk Hd;go_enter func88,ntmps88;go_wp2_with fail;refine hI.q.mono ?_;rintro e w1 ⟨rfl,hb⟩;have h1:=H.q.below hb;obtain⟨h2,F2⟩:=h1.up;obtain⟨p,cap,nv,c0,c1,c2,c3,cf,ht⟩:=h1.look;have f1:=cf 1;have H2:=zh h2;have HF:=zh ((H.q.rf hb).trans F2);obtain⟨p',cap',nv',c0',Ga,_,_,_,If⟩:=h2.look;obtain⟨g,rfl,d0,d1,d2⟩:=If _ t hx;replace Ga:_=some (Value.int .i64 ((st.n:Int)+1)):=Ga;clear ht If cf c2 c3 c0 h1 h2 F2 d0 d2;go_wp2_with fail;go_quiet (fail);go_wp2;go_ret;exact⟨rfl,H2.q.below (zO bR _),HF.q.trans (H2.q.rf (zO bR _))⟩
 ·rw[if_neg hk];simp only;have z:((Qu E st:Int) == (k:Int))=false:=bfE (by omega)
  go_enter func88,ntmps88;go_wp2_with fail;refine hI.q.mono ?_;rintro e w1 ⟨rfl,hb⟩;have h1:=H.q.below hb;obtain⟨h2,F2⟩:=h1.fail;obtain⟨p,cap,nv,c0,c1,c2,c3,cf,ht⟩:=h1.look;have f3:=cf 3;have H2:=zh h2;have HF:=zh ((H.q.rf hb).trans F2);clear ht cf c0 c1 c2 h1 h2 F2;go_wp2;go_ret;exact⟨rfl,H2.q,HF.q⟩
end
def zjx{base n:Nat}(mG:w.ownsRow base 60 5 v n xs)(hy:ys.length=1*5)(hu:∀j x,ys[j]? =some x->w.cell? (ad.add j)=some x)(h1:∀x∈ys,x.oneCell'=true)(hn:n<=1000000)(mH:base<=w.heap.size)(ty:TypeId):
 ∃g' cap' w',(Builtin.append_ #[23,23] ty #[v,.slice (some ad) 1 1]).run prog w=.ok (.slice (some ⟨g',0,none⟩) (n+1) cap') w'/\w'.ownsRow base 60 5 (.slice (some ⟨g',0,none⟩) (n+1) cap') (n+1) (xs ++ ys)/\w.grownBy w' v.ownBlock/\(v.ownBlock=some g'\/g'=w.heap.size):=by
 obtain⟨i0,hi,pe,mY,mT⟩:=info_parts Tryz.infoNode;obtain⟨v',w',hr,h2,h3,_⟩:=run_append_own (P:=prog) w base 23 ty 60 i0 _ 5 64 underlying23 hi pe mY mT rfl (by decide) _ n xs mG ad 1 1 ys hy hu h1 (by unfold maxLen;omega) (by omega) mH;have key:∃g' cap',v'=.slice (some ⟨g',0,none⟩) (n+1) cap'/\(v.ownBlock=some g'\/g'=w.heap.size):=by
  rcases id mG.2 with⟨rfl,h0⟩|⟨g,cap,cur,rfl,_,hg,Ni,SJ,ae,cd⟩
  ·have mO:=run_append_nil (P:=prog) w 23 ty 60 i0 _ underlying23 hi pe ad 1 1 ys (by rw[mY];exact hy) hu (by decide) (by decide) (by rw[mT];decide);rw[hr] at mO;simp only[Result.ok.injEq] at mO;subst h0;exact⟨_,_,mO.1,.inr rfl⟩
  ·by_cases aK:n+1<=cap
   ·have mO:=run_append_room (P:=prog) w 23 ty 60 i0 underlying23 hi g n cap cur hg ad 1 1 ys (by rw[mY];exact hy) hu h1 aK (by rw[mY,ae,hy];omega);rw[hr] at mO;simp only[Result.ok.injEq] at mO;exact⟨g,cap,mO.1,.inl rfl⟩
   ·have mO:=run_append_grow (P:=prog) w 23 ty 60 i0 _ underlying23 hi pe ⟨g,0,none⟩ n cap xs (by rw[mY];exact mG.1) (mG.cells (g:=g) rfl) ad 1 1 ys (by rw[mY];exact hy) hu (by omega) (by omega) (growslice_fits (by omega) (by rw[mT];omega));rw[hr] at mO;simp only[Result.ok.injEq] at mO;exact⟨_,_,mO.1,.inr rfl⟩
 obtain⟨g',cap',rfl,mJ⟩:=key;exact⟨g',cap',w',hr,h2,h3,mJ⟩
def zi1{a:Act}{K:Act->World->Prop}(s x:Operand)(ho:o.op=.call {callee:=.builtin .append,args:= #[s,x],argTypes:= #[23,23]}){base n:Nat}(hs:a.eval s=v)(mG:w.ownsRow base 60 5 v n xs)(hx:a.eval x=.slice (some ad) 1 1)(hy:ys.length=1*5)(hu:∀j x,ys[j]? =some x->w.cell? (ad.add j)=some x)(h1:∀x∈ys,x.oneCell'=true)(hn:n<=1000000)(mH:base<=w.heap.size)(h:∀g' cap' w',w'.ownsRow base 60 5 (.slice (some ⟨g',0,none⟩) (n+1) cap') (n+1) (xs ++ ys)->w.grownBy w' v.ownBlock->(v.ownBlock=some g'\/g'=w.heap.size)->K (a.put o.dst (.slice (some ⟨g',0,none⟩) (n+1) cap')) w'):o.wp prog a w K X:=by
 obtain⟨g',cap',w',hr,h2,h3,h4⟩:=zjx mG hy hu h1 hn mH o.type;unfold Oper.wp;simp[execOp,ho,resolve,invoke,builtin,hs,hx,hr,Result.andThen];exact h g' cap' w' h2 h3 h4
def RW.added{pb:Nat}{st:jR}{nv tv kvv:Value}{kv:List Value}{x:Nd}(P:RWv E base pb w st nv tv kv)(hG:∀v∈kv,∀g,yY v=some g->¬G g)(hL:∀g,G g->g<w.heap.size)(hk:KS w kvv x.kz)(fe:∀g,yY kvv=some g->¬G g)(hb:Below w.heap.size w w1)(mC:w2.ownsRow base 60 5 (.slice (some ⟨g',0,none⟩) (st.nz.length+1) cap') (st.nz.length+1) (je st.nz kv ++ uy x kvv))(dR:w1.grownBy w2 nv.ownBlock)(mJ:nv.ownBlock=some g'\/g'=w1.heap.size):
 w2.heap[pb]? =some (.cells #[tv,.int .i64 st.n,nv,.bool st.bad] 63 (0,0))/\RW E base pb G (w2.setCell ⟨pb,2,none⟩ (.slice (some ⟨g',0,none⟩) (st.nz.length+1) cap')) {st with nz:=st.nz ++ [x]}/\RF base pb w (w2.setCell ⟨pb,2,none⟩ (.slice (some ⟨g',0,none⟩) (st.nz.length+1) cap')):=by
 have mD:=P.lt;have hpb:=P.hpb;have Ee:nv.ownBlock≠some pb:=λe=>by
  obtain⟨_,cs,hh⟩:=P.nt e;rw[P.obj] at hh;simp at hh
 have nj:∀k,k<w.heap.size->nv.ownBlock≠some k->w2.heap[k]? =w.heap[k]? :=λk hk h=>by
  rw[dR.block k (pX hk hb.size) (λe=>h e.symm)];exact hb.block k hk
 have pg:=(nj pb mD Ee).trans P.obj;have hB:Below base w w2:=(hb.mono (by omega)).grown dR (by have:=hb.size;omega) λk hk=>(P.nt hk).1
 have Mf:∀k v,k≠pb->(w2.setCell ⟨pb,2,none⟩ v).heap[k]? =w2.heap[k]? :=λk v hk=>Below.heap_setCell _ _ _ _ (by simpa using hk)
 have ho:=λv=>zt pg 2 v
 have F:RF base pb w (w2.setCell ⟨pb,2,none⟩ (.slice (some ⟨g',0,none⟩) (st.nz.length+1) cap')):=by
  refine⟨hB.setCell hpb _,λk hk h1 h2=>?_,?_,by rw[P.qj];unfold qj;rw[ho];exact pC _⟩
  ·rw[Mf k _ h1];rw[P.qU] at h2;exact nj k hk h2
  ·have e:qU pb (w2.setCell ⟨pb,2,none⟩ (.slice (some ⟨g',0,none⟩) (st.nz.length+1) cap'))=some g':=by
    unfold Go.Proofs.YtcagibbaeageoaaGreatDoor.qU;rw[ho];rfl
   rw[e,P.qU];rcases mJ with h|h
   ·exact .inl h.symm
   ·exact .inr ⟨g',rfl,by have:=hb.size;omega⟩
 refine⟨pg,⟨_,tv,kv ++ [kvv],P.mk' F (ho _) ?_ ?_ λj y v hy hv=>?_,λv hv g hg=>?_,λg hg=>by have:=hL g hg;have:=F.b.size;omega⟩,F⟩
 ·have mu:g'≠pb:=λe=>by
   obtain⟨_,⟨h0,_⟩|⟨g,c,cur,hv,_,hh,_⟩⟩:=mC
   ·cases h0
   ·cases hv;rw[e,pg] at hh;simp at hh
  rw[QQ _ _ _ _ P.kvl];simp only[pE,pI];exact ownsRow_setCell_other mC (a:=⟨pb,2,none⟩) (λe=>mu (Option.some.inj e)) _
 ·simp[P.kvl]
 ·rcases Nat.lt_or_ge j st.nz.length with hj|hj
  ·rw[wN hj] at hy;rw[wN (by rw[P.kvl];exact hj)] at hv;exact P.kfar (P.kz j y v hy hv) F
  ·rw[wM hj] at hy;rw[wM (by rw[P.kvl];exact hj),P.kvl] at hv;rcases Nat.eq_zero_or_pos (j-st.nz.length) with hz|hz
   ·rw[hz] at hy hv;cases hy;cases hv;exact P.kfar hk F
   ·rw[wP (by simp;omega)] at hy;cases hy
 ·rcases pW.1 hv with hv|hv
  ·exact hG v hv g hg
  ·rw[wD] at hv;subst hv;exact fe g hg
def zgp(p q:Nat):LodeX.Rel:=⟨λa b=>b.heap[p]? =a.heap[p]? /\b.heap[q]? =a.heap[q]?,λ_=>⟨rfl,rfl⟩,λh k=>⟨k.1.trans h.1,k.2.trans h.2⟩,Eq,λ_=>rfl,Eq.trans,λh=>h▸⟨rfl,rfl⟩⟩
def za8{pb:Nat}{st:jR}(h:RW E base pb G w st)(kind:Nat)(text:List UInt8)(n at_:Int)(kids:List Int)(kvv:Value)(hk:KS w kvv kids)(fe:∀g,yY kvv=some g->¬G g)(mV:st.nz.length<900000):
 Calls prog 96 #[.pointer (some ⟨pb,0,none⟩),.agg #[.int .u8 kind,.string ⟨text.toArray⟩,.int .i64 n,kvv,.int .i64 at_]] w λe w'=>e=.returned (.int .i64 st.nz.length)/\RW E base pb G w' {st with nz:=st.nz ++ [⟨kind,text,n,kids,at_⟩]}/\RF base pb w w':=by
 obtain⟨kp,kcap,rfl⟩:=hk.form;obtain⟨nv,tv,kv,P,hG,hL⟩:=h;have mD:=P.lt;have hpb:=P.hpb;have wq:=zf w (.cells #[.int .u8 kind,.string ⟨text.toArray⟩,.int .i64 n,(.slice kp kids.length kcap),.int .i64 at_] 60 (0,0));have tZ:=zk w (.cells #[.int .u8 kind,.string ⟨text.toArray⟩,.int .i64 n,(.slice kp kids.length kcap),.int .i64 at_] 60 (0,0));generalize rE:w.alloc (.cells #[.int .u8 kind,.string ⟨text.toArray⟩,.int .i64 n,(.slice kp kids.length kcap),.int .i64 at_] 60 (0,0))=w1 at *;have pg:=zi wq P.obj;have HP:=zh P;have HH:=zh (And.intro hG (And.intro hL (And.intro hk (And.intro fe wq))));have Hnew:=zh tZ;have Hobj:=zh pg;have fx:pb<w1.heap.size:=pX mD wq.size;obtain⟨m,hm⟩:=exE (st.nz.length);have Hm:=zh hm;have mC:=zh (P.rowKept (w':=w1) λk hk=>wq.block k (by obtain⟨_,cs,hh⟩:=P.nt hk;exact (gtA hh)));have hS:∀W,(zgp pb w.heap.size).rel w1.drew W->(W.cell? ⟨pb,2,none⟩=some nv/\W.frozen? ⟨pb,2,none⟩=false/\W.cell? ⟨w.heap.size,0,none⟩=some (.int .u8 kind)/\W.cell? ⟨w.heap.size,1,none⟩=some (.string ⟨text.toArray⟩)/\W.cell? ⟨w.heap.size,2,none⟩=some (.int .i64 n)/\W.cell? ⟨w.heap.size,3,none⟩=some (.slice kp kids.length kcap)/\W.cell? ⟨w.heap.size,4,none⟩=some (.int .i64 at_)):=λW h=>by
  have a:=(show W.heap[pb]? =w1.heap[pb]? from h.1).trans Hobj.q;have b:=(show W.heap[w.heap.size]? =w1.heap[w.heap.size]? from h.2).trans Hnew.q;exact⟨zd a 2,zj a 2,zd b 0,zd b 1,zd b 2,zd b 3,zd b 4⟩
 clear P hG hL hk fe wq tZ pg hm;go_enter func96,ntmps96;go_wp2_with fail;refine LodeX.xC (RR:=zgp pb w.heap.size) (Xp:=λ_ _=>False) [(0,0),(1,0),(2,0),(3,0),(4,1),(5,1),(6,2),(7,2),(8,0),(9,0),(10,3)] ?_;refine LodeX.xt ?_;refine LodeX.callX λK hK=>?_
 go_simp;have sd:=(zf w1 (.cells #[.int .u8 kind,.string ⟨text.toArray⟩,.int .i64 n,(.slice kp kids.length kcap),.int .i64 at_] 60 (0,0))).drew;have sR:=zk w1 (.cells #[.int .u8 kind,.string ⟨text.toArray⟩,.int .i64 n,(.slice kp kids.length kcap),.int .i64 at_] 60 (0,0));have mF:w.heap.size<w1.heap.size:=(gtA Hnew.q);have aq:(w1.alloc (.cells #[.int .u8 kind,.string ⟨text.toArray⟩,.int .i64 n,(.slice kp kids.length kcap),.int .i64 at_] 60 (0,0))).drew.heap[pb]? =w1.heap[pb]? :=sd.block pb fx;have ND:(w1.alloc (.cells #[.int .u8 kind,.string ⟨text.toArray⟩,.int .i64 n,(.slice kp kids.length kcap),.int .i64 at_] 60 (0,0))).drew.heap[w.heap.size]? =w1.heap[w.heap.size]? :=sd.block _ mF;refine⟨⟨aq,ND⟩,hK _ _ ?_⟩;clear hK K
 try simp only[Act.put,yh,yf,yg]
 refine LodeX.callX λK hK=>?_
 refine zi1 _ _ rfl (by rfl) (zm mC.q sd) (by rfl) (ys:=uy ⟨kind,text,n,kids,at_⟩ (.slice kp kids.length kcap)) rfl (λj u hu=> ?c1) (λu hu=> ?c2) (by omega) (by have:=sd.size;omega) ?_
 case c1=>
  have e1:(⟨w1.heap.size,0,none⟩:Addr).add j=⟨w1.heap.size,j,none⟩:=by unfold Addr.add;split <;> simp_all
  refine (congrArg _ e1).trans ((zd sR j).trans ?_);rw[pS];exact hu
 case c2=>
  simp[uy] at hu;rcases hu with rfl|rfl|rfl|rfl|rfl <;> rfl
 intro g' cap' w4 Nm mA mJ;obtain⟨hG,hL,hk,fe,wq⟩:=HH.q;obtain⟨gJ,h5,F5⟩:=RW.added (x:=⟨kind,text,n,kids,at_⟩) HP.q hG hL hk fe (zg wq sd) Nm mA mJ;have mu:w.heap.size≠pb:=by omega
 have gI:qU pb w≠some w.heap.size:=λe=>by
  rw[HP.q.qU] at e;obtain⟨_,cs,hh⟩:=HP.q.nt e;have:=(gtA hh);omega
 have e4:w4.heap[w.heap.size]? =w1.heap[w.heap.size]? :=(mA.block _ (pX mF sd.size) (λe=>gI (HP.q.qU.trans e.symm))).trans ND;refine⟨⟨gJ.trans (aq.trans Hobj.q).symm,e4.trans ND.symm⟩,hK _ _ ?_⟩;have f4:=zj gJ 2;have c4:=zd gJ 2;have c5:=zd (zt gJ 2 (.slice (some ⟨g',0,none⟩) (st.nz.length+1) cap')) 2;have H5:=zh h5;have HF5:=zh F5;clear hK K hS h5 F5 e4 gI mu gJ Nm mA mJ hG hL hk fe wq sR aq ND sd rE HP HH Hobj Hnew mC
 try simp only[Act.put,yh,yf,yg]
 refine LodeX.xt ?_;refine LodeX.yG rfl rfl (λV hV=>?_);cases hV;go_simp;refine LodeX.yL ?_;have y1:IntKind.i64.wrap (((st.nz.length+1:Nat):Int)-1)=(st.nz.length:Int):=by rw[pF _ ⟨by omega,by omega⟩];omega
 have y2:IntKind.i64.wrap ((st.nz.length:Int)+1-1)=(st.nz.length:Int):=by rw[pF _ ⟨by omega,by omega⟩];omega
 go_wp2;go_ret;exact⟨rfl,H5.q,HF5.q⟩
end
section
open Go.RowKit Lode Go.Shelf
open Go.Proofs.Tryz
section
variable {E:zr} {base pb:Nat} {G:Nat→Prop} {w w':World} {st:jR}
def RW.kidsOld(P:RW E base pb G w st):∃nv tv kv,RWv E base pb w st nv tv kv/\(∀v∈kv,∀g,yY v=some g->¬G g/\g<w.heap.size)/\∀g,G g->g<w.heap.size:=by
 obtain⟨nv,tv,kv,P,hK,hL⟩:=P;refine⟨nv,tv,kv,P,λv hv g hg=>⟨hK v hv g hg,?_⟩,hL⟩;obtain⟨j,hj,rfl⟩:=List.mem_iff_getElem.1 hv;have hx:st.nz[j]? =some (st.nz[j]'(by rw[<-P.kvl];exact hj)):=glE _;obtain⟨cs,fr,hh⟩:=Yv (P.kz j _ _ hx (glE hj)) hg;exact (gtA hh)
def RW.glit(h:RW E base pb G w st)(o:Obj)(n cap:Nat):RW E base pb (Gw G (.slice (some ⟨w.heap.size,0,none⟩) n cap)) (w.alloc o) st:=by
 obtain⟨nv,tv,kv,P,hK,hL⟩:=h.kidsOld;have F:=h.rf (zf w o);refine⟨nv,tv,kv,P.mk' F (zi (zf w o) P.obj) (P.rowKept λk hk=>(zf w o).block k (by obtain⟨_,cs,hh⟩:=P.nt hk;exact (gtA hh))) P.kvl (λj x v hx hv=>P.kfar (P.kz j x v hx hv) F),λu hu g hg MC=>?_,λg hg=>?_⟩
 ·obtain⟨h1,h2⟩:=hK u hu g hg;rcases MC with h|h
  ·exact h1 h
  ·have:=Option.some.inj (show some w.heap.size=some g from h);omega
 ·rcases hg with h|h
  ·have:=hL g h;simp;omega
  ·have:=Option.some.inj (show some w.heap.size=some g from h);simp;omega
def RW.gnil(h:RW E base pb G w st):RW E base pb (Gw G (.slice none 0 0)) w st:=h.weaken (λg hg=>by
 rcases hg with hg|hg
 ·exact hg
 ·cases hg)
def RW.ungw(h:RW E base pb (Gw G v) w st):RW E base pb G w st:=h.weaken λ_ hg=>.inl hg
def RF.grow(F:RF base pb w W)(hg:W.grownBy w' row)(hb:base<=w.heap.size)(hp:pb<w.heap.size)(mC:∀k,row=some k->w.heap.size<=k):RF base pb w w':=
 ⟨F.b.grown hg (pN hb F.b.size) (λk hk=>pN hb (mC k hk)),λk hk h1 h2=>by
  rw[hg.block k (pX hk F.b.size) (λe=>by have:=mC k e.symm;omega)];exact F.keep k hk h1 h2,by
  have e:qU pb w'=qU pb W:=by
   unfold qU;rw[hg.block pb (pX hp F.b.size) (λe=>by have:=mC pb e.symm;omega)]
  rw[e];exact F.nb,by
  unfold qj;rw[hg.block pb (pX hp F.b.size) (λe=>by have:=mC pb e.symm;omega)];exact F.mn⟩
def zfa{ys:List Int}(h1:RW E base pb (Gw G v) w1 st)(my:w1.ownsRow B 3 1 v acc.length (yl acc))(hB:base<=B)(mC:w2.ownsRow B 3 1 (.slice (some ⟨g',0,none⟩) (acc.length+ys.length) cap') (acc.length+ys.length) (yl acc ++ yl ys))(mA:w1.grownBy w2 v.ownBlock)(mJ:v.ownBlock=some g'\/g'=w1.heap.size):
 ∃v2,Value.slice (some ⟨g',0,none⟩) (acc.length+ys.length) cap'=v2/\w2.ownsRow B 3 1 v2 (acc ++ ys).length (yl (acc ++ ys))/\RW E base pb (Gw G v2) w2 st/\w1.heap.size<=w2.heap.size/\∀w,RF base pb w w1->w.heap.size<=B->base<=w.heap.size->pb<w.heap.size->RF base pb w w2:=by
 have nH:w2.ownsRow B 3 1 (.slice (some ⟨g',0,none⟩) (acc.length+ys.length) cap') (acc ++ ys).length (yl (acc ++ ys)):=by
  rw[pE];simp only[yl,List.map_append];exact mC
 obtain⟨nv,tv,kv,P,hK,hL⟩:=h1.kidsOld;have nX:=mA.size;have Wp:∀(k:Nat) (cs:Array Value) (T:TypeId) (fr:Nat×Nat),w1.heap[k]? =some (.cells cs T fr)->T≠3->w2.heap[k]? =some (.cells cs T fr):=λk cs T fr hk hT=>by
  rw[mA.block k (gtA hk) (λe=>by
   obtain⟨Rq,hh⟩:=uJ my e.symm;rw[hk] at hh;cases hh;exact hT rfl)]
  exact hk
 have pg:=Wp pb _ _ _ P.obj (by decide);refine⟨_,rfl,nH,⟨nv,tv,kv,⟨P.hpb,pg,P.tz.fr ((pG base _).grown mA h1.bs.1 (λk hk=>pN hB (my.lt k hk).1)),P.rowKept λk hk=>?_,P.kvl,λj y u hy hu=>?_⟩,λu hu g hg MC=>?_,λg hg=>?_⟩,nX,λw F hw hb hp=>F.grow mA hb hp (λk hk=>pN hw (my.lt k hk).1)⟩
 ·obtain⟨_,cs,hh⟩:=P.nt hk;rw[Wp k _ _ _ hh (by decide)];exact hh.symm
 ·obtain⟨p,cap,rfl,mq⟩:=P.kz j y u hy hu;refine⟨p,cap,rfl,?_⟩;rcases mq with h0|⟨g,off,cs,fr,rfl,hh,hc⟩
  ·exact .inl h0
  ·by_cases h0:y.kz=[]
   ·exact .inl h0
   ·refine .inr ⟨g,off,cs,fr,rfl,?_,hc⟩;have hb:yY (.slice (some ⟨g,off,none⟩) y.kz.length (y.kz.length+cap))=some g:=by
     cases hl:y.kz.length with
     |zero=>exact absurd (pT hl) h0
     |succ m=>rfl
    rw[mA.block g (gtA hh) (λe=>(hK _ (wH hu) g hb).1 (.inr e.symm))];exact hh
 ·obtain⟨a,b⟩:=hK u hu g hg;rcases MC with h|h
  ·exact a (.inl h)
  ·have e:=Option.some.inj (show some g'=some g from h);rcases mJ with h'|h'
   ·exact a (.inr (h'.trans (congrArg _ e)))
   ·omega
 ·rcases hg with h|h
  ·exact pX (hL g (.inl h)) nX
  ·have e:=Option.some.inj (show some g'=some g from h);rw[<-e];exact (nH.lt g' rfl).2
def Vq{x:Int}(h1:RW E base pb (Gw G v) w1 st)(mG:w1.ownsRow B 3 1 v acc.length (yl acc))(hB:base<=B)(mC:w2.ownsRow B 3 1 (.slice (some ⟨g',0,none⟩) (acc.length+1) cap') (acc.length+1) (yl acc ++ [.int .i64 x]))(mA:(w1.alloc (.cells #[.int .i64 x] 3 (0,0))).grownBy w2 v.ownBlock)(mJ:v.ownBlock=some g'\/g'=w1.heap.size+1):
 ∃v2,Value.slice (some ⟨g',0,none⟩) (acc.length+1) cap'=v2/\w2.ownsRow B 3 1 v2 (acc ++ [x]).length (yl (acc ++ [x]))/\RW E base pb (Gw G v2) w2 st/\w1.heap.size<=w2.heap.size/\∀w,RF base pb w w1->w.heap.size<=B->base<=w.heap.size->pb<w.heap.size->RF base pb w w2:=by
 have hA:=zf w1 (.cells #[.int .i64 x] 3 (0,0));obtain⟨v2,e,a,b,c,d⟩:=zfa (ys:=[x]) (h1.below hA) (zm mG hA) hB mC mA (mJ.imp id (λh=>by simpa using h));exact⟨v2,e,a,b,pN hA.size c,λw F h2 h3 h4=>d w (F.trans (h1.rf hA)) h2 h3 h4⟩
end
end
section
open Go.RowKit Lode Go.Shelf
attribute [local go_sem ↓] wp_at_zero wp_at_succ
open Go.Proofs.Tryz
def Xn(E:zr)(base pb f:Nat)(m:RM Int):Prop:=∀(G:Nat->Prop) (w:World) (st st':jR) (a:Int),RW E base pb G w st->m E st=some (a,st')->Calls prog f #[.pointer (some ⟨pb,0,none⟩)] w λe w'=>e=.returned (.int .i64 a)/\RW E base pb G w' st'/\RF base pb w w'
structure qJ(E:zr)(base pb:Nat)(R:xn):Prop where
 lim:E.tz.length<=100000
 expr:Xn E base pb 94 R.expr
 not:Xn E base pb 200 R.not
 unary:Xn E base pb 293 R.unary
 block:Xn E base pb 95 R.block
 els:Xn E base pb 313 R.els
 type:Xn E base pb 93 R.type
 pattern:Xn E base pb 316 R.pattern
def rb{m:RM α}{f:α->RM β}{s:jR}{r:β×jR}(h:(m >>= f) E s=some r):∃a s1,m E s=some (a,s1)/\Hid (f a E s1=some r):=by
 have h':RM.bind m f E s=some r:=h;unfold RM.bind at h';split at h'
 ·rename_i x hx;exact⟨x.1,x.2,hx,zh h'⟩
 ·cases h'
structure NB(base pb b:Nat)(w0 w:World)(k:Nat)(t:List UInt8)(n:Int)(kv:Value)(p:Int):Prop where
 new:w0.heap.size<=b
 hb:w.heap[b]? =some (.cells #[.int .u8 k,.string ⟨t.toArray⟩,.int .i64 n,kv,.int .i64 p] 60 (0,0))
 nb:qU pb w≠some b
 pb:b≠pb
section
variable {E:zr} {base pb b k:Nat} {G:Nat→Prop} {w0 w w':World} {st:jR} {t:List UInt8} {n p:Int} {kv:Value}
def NB.mk0(h:RW E base pb G w st)(F:RF base pb w0 w):NB base pb w.heap.size w0 (w.alloc (.cells #[.int .u8 k,.string ⟨t.toArray⟩,.int .i64 n,kv,.int .i64 p] 60 (0,0))) k t n kv p:=by
 have hb:=h.bs;refine⟨F.b.size,zk w _,?_,by omega⟩;have h2:=h.below (zf w (.cells #[.int .u8 k,.string ⟨t.toArray⟩,.int .i64 n,kv,.int .i64 p] 60 (0,0)));obtain⟨nv,tv,kvs,P,_⟩:=h;intro e;have e2:qU pb (w.alloc (.cells #[.int .u8 k,.string ⟨t.toArray⟩,.int .i64 n,kv,.int .i64 p] 60 (0,0)))=qU pb w:=by
  unfold qU;rw[(zf w _).block pb P.lt]
 rw[e2,P.qU] at e;obtain⟨_,cs,hh⟩:=P.nt e;have:=(gtA hh);omega
def NB.rf(h:NB base pb b w0 w k t n kv p)(F:RF base pb w w'):NB base pb b w0 w' k t n kv p:=by
 have hl:=(gtA h.hb);refine⟨h.new,by rw[F.keep b hl h.pb h.nb];exact h.hb,?_,h.pb⟩;rcases F.nb with e|⟨g,e,hg⟩
 ·rw[e];exact h.nb
 ·rw[e];intro e2;cases e2;omega
def NB.set(h:NB base pb b w0 w k t n kv p)(H:RW E base pb G w st)(F:RF base pb w0 w)(h0:base<=w0.heap.size){kv':Value}(hc:(#[.int .u8 k,.string ⟨t.toArray⟩,.int .i64 n,kv,.int .i64 p]:Array Value).setIfInBounds i v= #[.int .u8 k',.string ⟨t'.toArray⟩,.int .i64 n',kv',.int .i64 p']):NB base pb b w0 (w.setCell ⟨b,i,none⟩ v) k' t' n' kv' p'/\RW E base pb G (w.setCell ⟨b,i,none⟩ v) st/\RF base pb w0 (w.setCell ⟨b,i,none⟩ v):=by
 have hn:=h.new;obtain⟨h1,h2⟩:=H.setN h.hb h.nb (by omega) i v;exact⟨⟨hn,(zt h.hb i v).trans (by rw[hc]),by rw[h2];exact h.nb,h.pb⟩,h1,F.setNew h2 rfl h.pb hn (by omega)⟩
def NB.cells(h:NB base pb b w0 w k t n kv p):w.cell? ⟨b,0,none⟩=some (.int .u8 k)/\w.cell? ⟨b,1,none⟩=some (.string ⟨t.toArray⟩)/\w.cell? ⟨b,2,none⟩=some (.int .i64 n)/\w.cell? ⟨b,3,none⟩=some kv/\w.cell? ⟨b,4,none⟩=some (.int .i64 p)/\∀j,w.frozen? ⟨b,j,none⟩=false:=
 ⟨zd h.hb 0,zd h.hb 1,zd h.hb 2,zd h.hb 3,zd h.hb 4,λj=>zj h.hb j⟩
def zgN{x:List UInt8}{kids:List Int}{r:Int×jR}(h:yv kind x n p kids E st=some r):st.nz.length<900000/\r=((st.nz.length:Int),{st with nz:=st.nz ++ [⟨kind,x,n,kids,p⟩]}):=by
 unfold yv at h;split at h
 ·rename_i hl;exact⟨hl,(Option.some.inj h).symm⟩
 ·cases h
def zg8(h:KS w v l)(hb:w.heap[b]? =some (.cells cs 60 fr))(i:Nat):KS (w.setCell ⟨b,i,none⟩ u) v l:=by
 obtain⟨q,cap,hv,h⟩:=h;refine⟨q,cap,hv,h.imp id λ⟨g,off,cs',fr',hp,hg,hc⟩=>⟨g,off,cs',fr',hp,?_,hc⟩⟩;rw[Below.heap_setCell _ _ _ _ (λe=>by
  simp only at e;rw[e,hb] at hg;simp at hg)]
 exact hg
def RW.newFree(h:RW E base pb G w st)(m cap:Nat):∀g,yY (.slice (some ⟨w.heap.size,0,none⟩) m cap)=some g->¬G g:=λg hg MC=>by
 have:=h.glt g MC;cases m with
 |zero=>cases hg
 |succ m=>
  simp only[yY,wO] at hg;omega
end
section
variable {α β:Type} {E:zr} {base pb:Nat} {G:Nat→Prop} {w0 w w2:World} {st:jR} {m:RM α} {f:α→RM β} {r:β×jR} {fn:Nat} {args:Array Value} {K:Ending→World→Prop}
def ye{val:α->Value}(hr:Hid ((m >>= f) E st=some r))(hc:∀a st',m E st=some (a,st')->Calls prog fn args w2 λe w'=>e=.returned (val a)/\RW E base pb G w' st'/\RF base pb w2 w')(F:Hid (RF base pb w0 w2))(h:∀a st' W,Hid (m E st=some (a,st'))->Hid (RW E base pb G W st')->Hid (RF base pb w0 W)->Hid (RF base pb w2 W)->Hid (f a E st'=some r)->K (.returned (val a)) W):Calls prog fn args w2 K:=by
 obtain⟨a,s1,hm,sH⟩:=rb hr.q;refine (hc a s1 hm).mono ?_;rintro e W ⟨rfl,h1,f1⟩;exact h a s1 W (zh hm) (zh h1) (zh (F.q.trans f1)) (zh f1) sH
def xl(h:Hid (RW E base pb G w st)):∀a st',qy E st=some (a,st')->Calls prog 86 #[.pointer (some ⟨pb,0,none⟩)] w λe w'=>e=.returned (.int .i64 a)/\RW E base pb G w' st'/\RF base pb w w':=by
 intro a st' e;cases e;refine (zdD h.q).mono ?_;rintro e w1 ⟨rfl,hb⟩;exact⟨rfl,h.q.below hb,h.q.rf hb⟩
def XK(h:Hid (RW E base pb G w st))(x:List UInt8):∀a st',rIs x E st=some (a,st')->Calls prog 139 #[.pointer (some ⟨pb,0,none⟩),.string ⟨x.toArray⟩] w λe w'=>e=.returned (.bool a)/\RW E base pb G w' st'/\RF base pb w w':=by
 intro a st' e;cases e;refine (uX h.q x).mono ?_;rintro e w1 ⟨rfl,hb⟩;exact⟨rfl,h.q.below hb,h.q.rf hb⟩
def zmk(h:Hid (RW E base pb G w st)):∀a st',rKd E st=some (a,st')->Calls prog 140 #[.pointer (some ⟨pb,0,none⟩)] w λe w'=>e=.returned (.int .u8 a)/\RW E base pb G w' st'/\RF base pb w w':=by
 intro a st' e;cases e;refine (vM h.q).mono ?_;rintro e w1 ⟨rfl,hb⟩;exact⟨rfl,h.q.below hb,h.q.rf hb⟩
def zJ(h:Hid (RW E base pb G w st))(hl:E.tz.length<=100000)(x:List UInt8):∀a st',zI x E st=some (a,st')->Calls prog 89 #[.pointer (some ⟨pb,0,none⟩),.string ⟨x.toArray⟩] w λe w'=>e=.returned ((λ_:Unit=>.tuple #[]) a)/\RW E base pb G w' st'/\RF base pb w w':=by
 intro a st' e;cases e;exact zfk h.q hl x
def Qb(h:Hid (RW E base pb G w st))(hl:E.tz.length<=100000)(x:List UInt8):∀a st',xm x E st=some (a,st')->Calls prog 87 #[.pointer (some ⟨pb,0,none⟩),.string ⟨x.toArray⟩] w λe w'=>e=.returned (.bool a)/\RW E base pb G w' st'/\RF base pb w w':=by
 intro a st' e;cases e;exact za7 h.q hl x
def xh(h:Hid (RW E base pb G w st))(hl:E.tz.length<=100000)(k:Nat)(h0:k≠0:=by decide):∀a st',Ye k E st=some (a,st')->Calls prog 88 #[.pointer (some ⟨pb,0,none⟩),.int .u8 k] w λe w'=>e=.returned (.string ⟨a.toArray⟩)/\RW E base pb G w' st'/\RF base pb w w':=by
 intro a st' e;have e2:(if Qu E st=k then (txR E st,st.up) else ([],st.fail))=(a,st'):=Option.some.inj e;have:=zfe h.q hl h0;rw[e2] at this;exact this
def yX{m:RM Int}(hm:Xn E base pb fn m)(h:Hid (RW E base pb G w st)):∀a st',m E st=some (a,st')->Calls prog fn #[.pointer (some ⟨pb,0,none⟩)] w λe w'=>e=.returned (.int .i64 a)/\RW E base pb G w' st'/\RF base pb w w':=λa st' e=>hm G w st st' a h.q e
def ZS(h:Hid (RW E base pb G w st))(F:Hid (RF base pb w0 w))(k:Nat)(t:List UInt8)(n p:Int):Hid (NB base pb w.heap.size w0 (w.alloc (.cells #[.int .u8 k,.string ⟨t.toArray⟩,.int .i64 n,.slice none 0 0,.int .i64 p] 60 (0,0))) k t n (.slice none 0 0) p)/\Hid (RW E base pb G (w.alloc (.cells #[.int .u8 k,.string ⟨t.toArray⟩,.int .i64 n,.slice none 0 0,.int .i64 p] 60 (0,0))) st)/\Hid (RF base pb w0 (w.alloc (.cells #[.int .u8 k,.string ⟨t.toArray⟩,.int .i64 n,.slice none 0 0,.int .i64 p] 60 (0,0)))):=
 ⟨zh (NB.mk0 h.q F.q),zh (h.q.below (zf _ _)),zh (F.q.trans (h.q.rf (zf _ _)))⟩
def JZ{b:Nat}{n:Int}{kv:Value}(hN:Hid (NB base pb b w0 w k t n kv p))(h:Hid (RW E base pb G w st))(F:Hid (RF base pb w0 w))(mL:base<=w0.heap.size)(l:List Int)(cs:Array Value)(m:Nat)(ae:cs=(yl l).toArray:=by rfl)(hm:m=l.length:=by rfl):
 ((w.alloc (.cells cs 3 (0,0))).frozen? ⟨b,3,none⟩=false/\(w.alloc (.cells cs 3 (0,0))).cell? ⟨b,3,none⟩=some kv)/\Hid (NB base pb b w0 ((w.alloc (.cells cs 3 (0,0))).setCell ⟨b,3,none⟩ (.slice (some ⟨w.heap.size,0,none⟩) m m)) k t n (.slice (some ⟨w.heap.size,0,none⟩) m m) p)/\Hid (RW E base pb G ((w.alloc (.cells cs 3 (0,0))).setCell ⟨b,3,none⟩ (.slice (some ⟨w.heap.size,0,none⟩) m m)) st)/\Hid (RF base pb w0 ((w.alloc (.cells cs 3 (0,0))).setCell ⟨b,3,none⟩ (.slice (some ⟨w.heap.size,0,none⟩) m m)))/\Hid (KS ((w.alloc (.cells cs 3 (0,0))).setCell ⟨b,3,none⟩ (.slice (some ⟨w.heap.size,0,none⟩) m m)) (.slice (some ⟨w.heap.size,0,none⟩) m m) l/\∀g,yY (.slice (some ⟨w.heap.size,0,none⟩) m m)=some g->¬G g):=by
 subst ae hm;have hA:=zf w (.cells (yl l).toArray 3 (0,0));have cI:=hN.q.rf (h.q.rf hA);have h1:=h.q.below hA;obtain⟨a,b,c⟩:=cI.set (i:=3) (kv':=.slice (some ⟨w.heap.size,0,none⟩) l.length l.length) (k':=k) (t':=t) (n':=n) (p':=p) (v:=.slice (some ⟨w.heap.size,0,none⟩) l.length l.length) h1 (F.q.trans (h.q.rf hA)) mL rfl;exact⟨⟨cI.cells.2.2.2.2.2 3,cI.cells.2.2.2.1⟩,zh a,zh b,zh c,zh ⟨zg8 (KS.lit w l) cI.hb 3,h.q.newFree _ _⟩⟩
def zU{n:Int}{kv:Value}{st':jR}(hr:Hid (yv k t n p l E st=some (a,st')))(H:Hid (RW E base pb G w st))(F:Hid (RF base pb w0 w))(hk:Hid (KS w kv l/\∀g,yY kv=some g->¬G g))(h:∀W,RW E base pb G W st'->RF base pb w0 W->K (.returned (.int .i64 a)) W):Calls prog 96 #[.pointer (some ⟨pb,0,none⟩),.agg #[.int .u8 k,.string ⟨t.toArray⟩,.int .i64 n,kv,.int .i64 p]] w K:=by
 obtain⟨hl,e⟩:=zgN hr.q;cases e;refine (za8 H.q k t n p l kv hk.q.1 hk.q.2 hl).mono ?_;rintro e W ⟨rfl,h1,f1⟩;exact h W h1 (F.q.trans f1)
end
def zib{pb:Nat}{R:xn}(hR:qJ E base pb R):Xn E base pb 312 (Vu R):=by
 intro G w st st' a h0 hr;have hl:=hR.lim;replace hR:=zh hR;unfold Vu at hr
 try simp only[kg,Zo,uH] at hr
 have mL:=h0.bs;have F0:=zh (RF.refl base pb w);replace h0:=zh h0;replace hr:=zh hr;go_enter func312,ntmps312;go_wp2_with fail;refine ye hr (xl h0) F0 ?_;clear hr;intro x1 s1 w1 m1 h1 F1 f1 hr;go_wp2_with fail;refine ye hr (xh h1 hl 1) F1 ?_;clear hr;intro x2 s2 w2 m2 h2 F2 f2 hr;obtain⟨hN,h3,F3⟩:=ZS h2 F2 27 x2 0 x1;go_wp2_with fail;refine ye hr (zJ h3 hl _) F3 ?_;clear hr;intro x4 s4 w4 m4 h4 F4 f4 hr;replace hN:=zh (hN.q.rf f4.q);go_wp2_with fail;refine ye hr (yX hR.q.expr h4) F4 ?_;clear hr;intro x5 s5 w5 m5 h5 F5 f5 hr;replace hN:=zh (hN.q.rf f5.q);obtain⟨⟨fz,cz⟩,hN,h6,F6,hk⟩:=JZ hN h5 F5 mL.1 [x5] #[.int .i64 x5] 1;obtain⟨d0,d1,d2,d3,d4,_⟩:=hN.q.cells;go_wp2_with fail;refine zU hr h6 F6 hk λW h F=>?_
 go_wp2;go_ret;exact⟨rfl,h,F⟩
def zie{pb:Nat}{R:xn}(hR:qJ E base pb R):Xn E base pb 314 (Jv R):=by
 intro G w st st' a h0 hr;have hl:=hR.lim;replace hR:=zh hR;unfold Jv at hr
 try simp only[kg,Zo,uH] at hr
 have mL:=h0.bs;have F0:=zh (RF.refl base pb w);replace h0:=zh h0;replace hr:=zh hr;go_enter func314,ntmps314;go_wp2_with fail;refine ye hr (yX hR.q.pattern h0) F0 ?_;clear hr;intro x1 s1 w1 m1 h1 F1 f1 hr;go_wp2_with fail;refine ye hr (xl h1) F1 ?_;clear hr;intro x2 s2 w2 m2 h2 F2 f2 hr;obtain⟨hN,h3,F3⟩:=ZS h2 F2 32 [] 0 x2;go_wp2_with fail;refine ye hr (zJ h3 hl _) F3 ?_;clear hr;intro x4 s4 w4 m4 h4 F4 f4 hr;replace hN:=zh (hN.q.rf f4.q);go_wp2_with fail;refine ye hr (yX hR.q.expr h4) F4 ?_;clear hr;intro x5 s5 w5 m5 h5 F5 f5 hr;replace hN:=zh (hN.q.rf f5.q);obtain⟨⟨fz,cz⟩,hN,h6,F6,hk⟩:=JZ hN h5 F5 mL.1 [x1,x5] #[.int .i64 x1,.int .i64 x5] 2;obtain⟨d0,d1,d2,d3,d4,_⟩:=hN.q.cells;go_wp2_with fail;refine zU hr h6 F6 hk λW h F=>?_
 go_wp2;go_ret;exact⟨rfl,h,F⟩
section
variable {α β:Type} {E:zr} {base pb:Nat} {G:Nat→Prop} {w0 w w2:World} {st:jR} {r:Option (β×jR)} {fn:Nat} {args:Array Value} {K:Ending→World→Prop}
def rtt{A B:RM β}(h:Hid ((if true=true then A else B) E st=r)):Hid (A E st=r):=h
def rff{A B:RM β}(h:Hid ((if false=true then A else B) E st=r)):Hid (B E st=r):=h
def ze8(h:Hid (RW E base pb G w st))(F:Hid (RF base pb w0 w))(l:List Int)(cs:Array Value)(m:Nat)(ae:cs=(yl l).toArray:=by rfl)(hm:m=l.length:=by rfl):Hid (RW E base pb G (w.alloc (.cells cs 3 (0,0))) st)/\Hid (RF base pb w0 (w.alloc (.cells cs 3 (0,0))))/\Hid (KS (w.alloc (.cells cs 3 (0,0))) (.slice (some ⟨w.heap.size,0,none⟩) m m) l/\∀g,yY (.slice (some ⟨w.heap.size,0,none⟩) m m)=some g->¬G g):=by
 subst ae hm;exact⟨zh (h.q.below (zf _ _)),zh (F.q.trans (h.q.rf (zf _ _))),zh ⟨KS.lit w l,h.q.newFree _ _⟩⟩
def zjC{m:RM Int}{st':jR}(hr:Hid (m E st=some (a,st')))(hc:∀a st',m E st=some (a,st')->Calls prog fn args w2 λe w'=>e=.returned (.int .i64 a)/\RW E base pb G w' st'/\RF base pb w2 w')(F:Hid (RF base pb w0 w2))(h:∀W,RW E base pb G W st'->RF base pb w0 W->K (.returned (.int .i64 a)) W):Calls prog fn args w2 K:=by
 refine (hc a st' hr.q).mono ?_;rintro e W ⟨rfl,h1,f1⟩;exact h W h1 (F.q.trans f1)
end
def zic{pb:Nat}{R:xn}(hR:qJ E base pb R)(hC:Xn E base pb 250 (jE R)):Xn E base pb 200 (KC R):=by
 replace hC:=zh hC;intro G w st st' a h0 hr;have hl:=hR.lim;replace hR:=zh hR;unfold KC at hr
 try simp only[kg,Zo,uH] at hr
 have mL:=h0.bs;have F0:=zh (RF.refl base pb w);replace h0:=zh h0;replace hr:=zh hr;go_enter func200,ntmps200;go_wp2_with fail;refine ye hr (xl h0) F0 ?_;clear hr;intro x1 s1 w1 m1 h1 F1 f1 hr;go_wp2_with fail;refine ye hr (Qb h1 hl _) F1 ?_;clear hr;intro x2 s2 w2 m2 h2 F2 f2 hr;cases x2 with
 |true=>
  replace hr:=rtt hr;go_wp2_with fail;refine ye hr (yX hR.q.not h2) F2 ?_;clear hr;intro x3 s3 w3 m3 h3 F3 f3 hr;obtain⟨h4,F4,hk⟩:=ze8 h3 F3 [x3] #[.int .i64 x3] 1;go_wp2_with fail;refine zU hr h4 F4 hk λW h F=>?_
  go_wp2;go_ret;exact⟨rfl,h,F⟩
 |false=>
  replace hr:=rff hr;go_wp2_with fail;refine zjC hr (yX hC.q h2) F2 λW h F=>?_
  go_wp2;go_ret;exact⟨rfl,h,F⟩
def zdC{pb:Nat}{R:xn}(hR:qJ E base pb R)(hC:Xn E base pb 303 (zba R)):Xn E base pb 293 (ux R):=by
 replace hC:=zh hC;intro G w st st' a h0 hr;have hl:=hR.lim;replace hR:=zh hR;unfold ux at hr
 try simp only[kg,Zo,uH] at hr
 have mL:=h0.bs;have F0:=zh (RF.refl base pb w);replace h0:=zh h0;replace hr:=zh hr;go_enter func293,ntmps293;go_wp2_with fail;refine ye hr (xl h0) F0 ?_;clear hr;intro x1 s1 w1 m1 h1 F1 f1 hr;go_wp2_with fail;refine ye hr (Qb h1 hl _) F1 ?_;clear hr;intro x2 s2 w2 m2 h2 F2 f2 hr;cases x2 with
 |true=>
  replace hr:=rtt hr;go_wp2_with fail;refine ye hr (yX hR.q.unary h2) F2 ?_;clear hr;intro x3 s3 w3 m3 h3 F3 f3 hr;obtain⟨h4,F4,hk⟩:=ze8 h3 F3 [x3] #[.int .i64 x3] 1;go_wp2_with fail;refine zU hr h4 F4 hk λW h F=>?_
  go_wp2;go_ret;exact⟨rfl,h,F⟩
 |false=>
  replace hr:=rff hr;go_wp2_with fail;refine zjC hr (yX hC.q h2) F2 λW h F=>?_
  go_wp2;go_ret;exact⟨rfl,h,F⟩
def RLc(E:zr)(base pb f:Nat)(m:RM (List Int))(N:Nat:=200000):Prop:=∀(G:Nat->Prop) (w:World) (st st':jR) (l:List Int),RW E base pb G w st->m E st=some (l,st')->Calls prog f #[.pointer (some ⟨pb,0,none⟩)] w λe w'=>∃v,e=.returned v/\w'.ownsRow w.heap.size 3 1 v l.length (yl l)/\RW E base pb (Gw G v) w' st'/\RF base pb w w'/\l.length<=N
def zhz(E:zr)(base pb:Nat)(G:Nat->Prop)(part:RM Int)(w:World)(r:List Int×jR)(v:Value)(wr:World):Prop:=∃st acc k,qN k part acc E st=some r/\acc.length+k<=200000/\wr.ownsRow w.heap.size 3 1 v acc.length (yl acc)/\RW E base pb (Gw G v) wr st/\RF base pb w wr
theorem RW.qj{E:zr}{base pb:Nat}{G:Nat->Prop}{w:World}{st:jR}(h:RW E base pb G w st):qj pb w=st.n:=by
 obtain⟨nv,tv,kv,P,_⟩:=h;exact P.qj
def zx{base pb B n:Nat}{st:jR}(h:w.ownsRow B 3 1 v n xs)(H:RW E base pb G w st)(F:RF base pb w w'):w'.ownsRow B 3 1 v n xs:=by
 obtain⟨nv,tv,kv,P,_⟩:=H;obtain⟨hl,h⟩:=h;refine⟨hl,h.imp id λ⟨g,cap,cur,hv,hb,hg,r⟩=>⟨g,cap,cur,hv,hb,?_,r⟩⟩;obtain⟨h1,h2⟩:=P.far hg ⟨by decide,by decide⟩;rw[F.keep g (gtA hg) h1 (by rw[P.qU];exact h2)];exact hg
def VL{x:List UInt8}{s s3:jR}(h:xm x E s=some (true,s3)):uP E s x=true/\s3=s.up:=by
 unfold xm at h;have h1:=Option.some.inj h;have h2:uP E s x=true:=congrArg Prod.fst h1;have h3:=congrArg Prod.snd h1;rw[h2] at h3;exact⟨h2,h3.symm⟩
def Ka{pb:Nat}{R:xn}(hR:qJ E base pb R):RLc E base pb 141 (Qf R):=by
 intro G w st st' l h0 hr;have hl:=hR.lim;replace hR:=zh hR;unfold Qf vg at hr;have mL:=h0.bs;have F0:=zh (RF.refl base pb w);replace h0:=zh h0;replace hr:=zh hr;go_enter func141,ntmps141;go_wp2_with fail;refine ye hr (yX hR.q.type h0) F0 ?_;clear hr;intro x1 s1 w1 m1 h1 F1 f1 hr;have mK:zhz E base pb G R.type w (l,st') (.slice (some ⟨w1.heap.size,0,none⟩) 1 1) (w1.alloc (.cells #[.int .i64 x1] 3 (0,0))):=⟨s1,[x1],_,hr.q,by simp;omega,xD (QL w1 x1 rfl) F1.q.b.size,h1.q.glit _ 1 1,F1.q.trans (h1.q.rf (zf _ _))⟩;replace mK:=zh mK;clear hr;go_wp2;go_loopw [3] (λv wr=>zhz E base pb G R.type w (l,st') v wr) (λ_ wr=>E.tz.length+1-qj pb wr)
 case atStart=>exact mK.q
 case round=>
  obtain⟨s,acc,k,hr,hk,mG,h2,F2⟩:=hrel;cases k with
  |zero=>cases hr
  |succ k=>
   unfold qN at hr;replace hr:=zh hr;replace h2:=zh h2;replace F2:=zh F2;replace mG:=zh mG;go_wp2_with fail;refine ye hr (Qb h2 hl _) F2 ?_;clear hr;intro x3 s3 w3 m3 h3 F3 f3 hr;have sF:=zh (zx mG.q h2.q f3.q);cases x3 with
   |true=>
    replace hr:=rtt hr;obtain⟨hi,ex⟩:=VL m3.q;have mD:=qI hi;go_wp2_with fail;refine ye hr (yX hR.q.type h3) F3 ?_;clear hr;intro x4 s4 w4 m4 h4 F4 f4 hr;have cX:=zh (zx sF.q h3.q f4.q);have mQ:=h4.q.bs;go_wp2_with (at_builtin;refine yA rfl _ _ rfl rfl (zm cX.q (zf _ _)) rfl (zd (zk w4 _) 0) rfl rfl (by omega) (by have:=F4.q.b.size;simp;omega) ?_);intro g' cap' w5 mC mA mJ;obtain⟨v5,e5,o5,h5,DD,dD⟩:=Vq h4.q cX.q mL.1 mC mA (mJ.imp id (λh=>by simpa using h));rw[e5];have F5:=dD w F4.q (pC _) mL.1 mL.2;have n5:qj pb wr<qj pb w5:=by
     have a:=h2.q.qj;have c:=h3.q.qj;have d:=f4.q.mn;have e:=h5.qj;have f:=h4.q.qj;rw[ex] at c;have g:s.up.n=s.n+1:=rfl;omega
    replace hr:=zh hr.q;replace o5:=zh o5;replace h5:=zh h5;replace F5:=zh F5;have rc:(acc ++ [x4]).length+k<=200000:=by simp;omega
    have aT:=h2.q.qj;clear mC mA mJ e5 dD;go_wp2;go_roundw
    case rel=>exact⟨_,_,_,hr.q,rc,o5.q,h5.q,F5.q⟩
    case measure=>omega
   |false=>
    replace hr:=rff hr;have e:=Option.some.inj hr.q;cases e;go_wp2;go_ret;exact⟨_,rfl,sF.q,h3.q,F3.q,by omega⟩
def Kc{pb:Nat}{R:xn}(hR:qJ E base pb R):RLc E base pb 306 (Yj R):=by
 intro G w st st' l h0 hr;have hl:=hR.lim;replace hR:=zh hR;unfold Yj vg at hr;have mL:=h0.bs;have F0:=zh (RF.refl base pb w);replace h0:=zh h0;replace hr:=zh hr;go_enter func306,ntmps306;go_wp2_with fail;refine ye hr (yX hR.q.expr h0) F0 ?_;clear hr;intro x1 s1 w1 m1 h1 F1 f1 hr;have mK:zhz E base pb G R.expr w (l,st') (.slice (some ⟨w1.heap.size,0,none⟩) 1 1) (w1.alloc (.cells #[.int .i64 x1] 3 (0,0))):=⟨s1,[x1],_,hr.q,by simp;omega,xD (QL w1 x1 rfl) F1.q.b.size,h1.q.glit _ 1 1,F1.q.trans (h1.q.rf (zf _ _))⟩;replace mK:=zh mK;clear hr;go_wp2;go_loopw [3] (λv wr=>zhz E base pb G R.expr w (l,st') v wr) (λ_ wr=>E.tz.length+1-qj pb wr)
 case atStart=>exact mK.q
 case round=>
  obtain⟨s,acc,k,hr,hk,mG,h2,F2⟩:=hrel;cases k with
  |zero=>cases hr
  |succ k=>
   unfold qN at hr;replace hr:=zh hr;replace h2:=zh h2;replace F2:=zh F2;replace mG:=zh mG;go_wp2_with fail;refine ye hr (Qb h2 hl _) F2 ?_;clear hr;intro x3 s3 w3 m3 h3 F3 f3 hr;have sF:=zh (zx mG.q h2.q f3.q);cases x3 with
   |true=>
    replace hr:=rtt hr;obtain⟨hi,ex⟩:=VL m3.q;have mD:=qI hi;go_wp2_with fail;refine ye hr (yX hR.q.expr h3) F3 ?_;clear hr;intro x4 s4 w4 m4 h4 F4 f4 hr;have cX:=zh (zx sF.q h3.q f4.q);have mQ:=h4.q.bs;go_wp2_with (at_builtin;refine yA rfl _ _ rfl rfl (zm cX.q (zf _ _)) rfl (zd (zk w4 _) 0) rfl rfl (by omega) (by have:=F4.q.b.size;simp;omega) ?_);intro g' cap' w5 mC mA mJ;obtain⟨v5,e5,o5,h5,DD,dD⟩:=Vq h4.q cX.q mL.1 mC mA (mJ.imp id (λh=>by simpa using h));rw[e5];have F5:=dD w F4.q (pC _) mL.1 mL.2;have n5:qj pb wr<qj pb w5:=by
     have a:=h2.q.qj;have c:=h3.q.qj;have d:=f4.q.mn;have e:=h5.qj;have f:=h4.q.qj;rw[ex] at c;have g:s.up.n=s.n+1:=rfl;omega
    replace hr:=zh hr.q;replace o5:=zh o5;replace h5:=zh h5;replace F5:=zh F5;have rc:(acc ++ [x4]).length+k<=200000:=by simp;omega
    have aT:=h2.q.qj;clear mC mA mJ e5 dD;go_wp2;go_roundw
    case rel=>exact⟨_,_,_,hr.q,rc,o5.q,h5.q,F5.q⟩
    case measure=>omega
   |false=>
    replace hr:=rff hr;have e:=Option.some.inj hr.q;cases e;go_wp2;go_ret;exact⟨_,rfl,sF.q,h3.q,F3.q,by omega⟩
theorem RW.kfar{pb:Nat}{st:jR}(h:RW E base pb G w st)(k:KS w v l)(F:RF base pb w w'):KS w' v l:=by
 obtain⟨_,_,_,P,_⟩:=h;exact P.kfar k F
section
variable {β:Type} {E:zr} {base pb:Nat} {G:Nat→Prop} {w0 w w2:World} {st:jR} {m:RM (List Int)} {f:List Int→RM β} {r:β×jR} {fn:Nat} {K:Ending→World→Prop}
def zml(hr:Hid ((m >>= f) E st=some r))(hc:∀l st',m E st=some (l,st')->Calls prog fn args w2 λe w'=>∃v,e=.returned v/\w'.ownsRow w2.heap.size 3 1 v l.length (yl l)/\RW E base pb (Gw G v) w' st'/\RF base pb w2 w'/\l.length<=N)(F:Hid (RF base pb w0 w2))(h:∀l st' W v,Hid (m E st=some (l,st'))->Hid (RW E base pb (Gw G v) W st')->Hid (RF base pb w0 W)->Hid (RF base pb w2 W)->Hid (W.ownsRow w2.heap.size 3 1 v l.length (yl l))->l.length<=N->Hid (f l E st'=some r)->K (.returned v) W):Calls prog fn args w2 K:=by
 obtain⟨l,s1,hm,sH⟩:=rb hr.q;refine (hc l s1 hm).mono ?_;rintro e W ⟨v,rfl,ho,h1,f1,hn⟩;exact h l s1 W v (zh hm) (zh h1) (zh (F.q.trans f1)) (zh f1) (zh ho) hn sH
def zaC(hr:Hid ((m >>= f) E st=some r))(hc:RLc E base pb fn m N)(H:Hid (RW E base pb G w2 st))(F:Hid (RF base pb w0 w2))(h:∀l st' W v,Hid (m E st=some (l,st'))->Hid (RW E base pb (Gw G v) W st')->Hid (RF base pb w0 W)->Hid (RF base pb w2 W)->Hid (W.ownsRow w2.heap.size 3 1 v l.length (yl l))->l.length<=N->Hid (f l E st'=some r)->K (.returned v) W):Calls prog fn #[.pointer (some ⟨pb,0,none⟩)] w2 K:=zml hr (λl s1 hm=>hc G w2 st s1 l H.q hm) F h
def zm8{b:Nat}{n:Int}{kv v:Value}(hN:Hid (NB base pb b w0 w k t n kv p))(h:Hid (RW E base pb (Gw G v) w st))(F:Hid (RF base pb w0 w))(mL:base<=w0.heap.size)(o:Hid (w.ownsRow B 3 1 v l.length (yl l)))(hB:∀g,G g->g<B):
 (w.frozen? ⟨b,3,none⟩=false/\w.cell? ⟨b,3,none⟩=some kv)/\Hid (NB base pb b w0 (w.setCell ⟨b,3,none⟩ v) k t n v p)/\Hid (RW E base pb G (w.setCell ⟨b,3,none⟩ v) st)/\Hid (RF base pb w0 (w.setCell ⟨b,3,none⟩ v))/\Hid (KS (w.setCell ⟨b,3,none⟩ v) v l/\∀g,yY v=some g->¬G g):=by
 obtain⟨a,b',c⟩:=hN.q.set (i:=3) (kv':=v) (k':=k) (t':=t) (n':=n) (p':=p) (v:=v) h.q F.q mL rfl;exact⟨⟨hN.q.cells.2.2.2.2.2 3,hN.q.cells.2.2.2.1⟩,zh a,zh b'.ungw,zh c,zh ⟨zg8 (KS.own o.q) hN.q.hb 3,yM o.q hB⟩⟩
end
def zfo{pb:Nat}{R:xn}(hR:qJ E base pb R):Xn E base pb 91 (YS R):=by
 have hT:=zh (Ka hR);intro G w st st' a h0 hr;have hl:=hR.lim;replace hR:=zh hR;unfold YS at hr
 try simp only[kg,Zo,uH] at hr
 have mL:=h0.bs;have F0:=zh (RF.refl base pb w);replace h0:=zh h0;replace hr:=zh hr;go_enter func91,ntmps91;go_wp2_with fail;refine ye hr (xl h0) F0 ?_;clear hr;intro x1 s1 w1 m1 h1 F1 f1 hr;go_wp2_with fail;refine ye hr (xh h1 hl 2) F1 ?_;clear hr;intro x2 s2 w2 m2 h2 F2 f2 hr;obtain⟨hN,h3,F3⟩:=ZS h2 F2 89 x2 0 x1;go_wp2_with fail;refine ye hr (Qb h3 hl _) F3 ?_;clear hr;intro x4 s4 w4 m4 h4 F4 f4 hr;replace hN:=zh (hN.q.rf f4.q);cases x4 with
 |true=>
  replace hr:=rtt hr;have hB:=zh h4.q.glt;go_wp2_with fail;refine zaC hr hT.q h4 F4 ?_;clear hr;intro x5 s5 w5 v5 m5 h5 F5 f5 o5 l5 hr;obtain⟨p5,c5,rfl⟩:=(KS.own o5.q).form;replace hN:=zh (hN.q.rf f5.q);obtain⟨⟨fz,cz⟩,hN,h6,F6,hk⟩:=zm8 hN h5 F5 mL.1 o5 hB.q;go_wp2_with fail;refine ye hr (zJ h6 hl _) F6 ?_;clear hr;intro x7 s7 w7 m7 h7 F7 f7 hr;replace hN:=zh (hN.q.rf f7.q);obtain⟨d0,d1,d2,d3,d4,_⟩:=hN.q.cells;replace hk:=zh (And.intro ((h6.q).kfar hk.q.1 f7.q) hk.q.2);go_wp2_with fail;refine zU hr h7 F7 hk λW h F=>?_
  go_wp2;go_ret;exact⟨rfl,h,F⟩
 |false=>
  replace hr:=rff hr;have hk:=zh (And.intro (KS.nil w4 0 none) (show ∀g,yY (.slice none 0 0)=some g->¬G g from λg hg=>by cases hg));obtain⟨d0,d1,d2,d3,d4,_⟩:=hN.q.cells;go_wp2_with fail;refine zU hr h4 F4 hk λW h F=>?_
  go_wp2;go_ret;exact⟨rfl,h,F⟩
def Jz(w:World):(w.alloc (.cells #[] 3 (0,0))).ownsRow w.heap.size 3 1 (.slice (some ⟨w.heap.size,0,none⟩) 0 0) 0 []:=⟨rfl,.inr ⟨w.heap.size,0,_,rfl,pC _,zk w _,pC _,by unfold maxLen;omega,by simp,by simp⟩⟩
def uw{pb:Nat}{st:jR}{n:Int}{kv:Value}(H:Hid (RW E base pb G w st))(hk:Hid (KS w kv l/\∀g,yY kv=some g->¬G g)):∀a st',yv k t n p l E st=some (a,st')->Calls prog 96 #[.pointer (some ⟨pb,0,none⟩),.agg #[.int .u8 k,.string ⟨t.toArray⟩,.int .i64 n,kv,.int .i64 p]] w λe w'=>e=.returned (.int .i64 a)/\RW E base pb G w' st'/\RF base pb w w':=by
 intro a st' hr;obtain⟨hl,e⟩:=zgN hr;cases e;exact za8 H.q k t n p l kv hk.q.1 hk.q.2 hl
def zoA(E:zr)(base pb:Nat)(G:Nat->Prop)(R:xn)(w:World)(r:List Int×jR)(v:Value)(wr:World):Prop:=∃st acc k,Zb R k acc E st=some r/\acc.length+k<=200000/\wr.ownsRow w.heap.size 3 1 v acc.length (yl acc)/\RW E base pb (Gw G v) wr st/\RF base pb w wr
def QG{pb:Nat}{R:xn}(hR:qJ E base pb R):RLc E base pb 90 (Zs R):=by
 intro G w st st' l h0 hr;have hl:=hR.lim;replace hR:=zh hR;unfold Zs at hr;have mL:=h0.bs;have mK:zoA E base pb G R w (l,st') (.slice (some ⟨w.heap.size,0,none⟩) 0 0) (w.alloc (.cells #[] 3 (0,0))):=⟨st,[],_,hr,by simp;omega,Jz w,h0.glit _ 0 0,h0.rf (zf _ _)⟩;replace mK:=zh mK;clear hr h0;go_enter func90,ntmps90;go_wp2;go_loopw [3] (λv wr=>zoA E base pb G R w (l,st') v wr) (λ_ wr=>E.tz.length+1-qj pb wr)
 case atStart=>exact mK.q
 case round=>
  obtain⟨s,acc,k,hr,hk,mG,h0,FW⟩:=hrel;obtain⟨p3,c3,rfl⟩:=(KS.own mG).form;cases k with
  |zero=>cases hr
  |succ k=>
   unfold Zb Vw at hr;simp only[kg] at hr;replace hr:=zh hr;have MJ:=mL;have mL:=h0.bs;have F0:=zh (RF.refl base pb wr);replace h0:=zh h0;replace FW:=zh FW;replace mG:=zh mG;go_wp2_with fail;refine ye hr (xl h0) F0 ?_;clear hr;intro x1 s1 w1 m1 h1 F1 f1 hr;go_wp2_with fail;refine ye hr (xh h1 hl 1) F1 ?_;clear hr;intro x2 s2 w2 m2 h2 F2 f2 hr;obtain⟨hN,h3,F3⟩:=ZS h2 F2 88 x2 0 x1;go_wp2_with fail;refine ye hr (zJ h3 hl _) F3 ?_;clear hr;intro x4 s4 w4 m4 h4 F4 f4 hr;replace hN:=zh (hN.q.rf f4.q);go_wp2_with fail;refine ye hr (yX hR.q.type h4) F4 ?_;clear hr;intro x5 s5 w5 m5 h5 F5 f5 hr;replace hN:=zh (hN.q.rf f5.q);obtain⟨⟨fz,cz⟩,hN,h6,F6,hk⟩:=JZ hN h5 F5 mL.1 [x5] #[.int .i64 x5] 1;obtain⟨d0,d1,d2,d3,d4,_⟩:=hN.q.cells;go_wp2_with fail;refine ye hr (uw h6 hk) F6 ?_;clear hr;intro x7 s7 w7 m7 h7 F7 f7 hr;have gK:=zh (zx mG.q h0.q F7.q);have CN:=zh (FW.q.trans F7.q);have rc:(acc ++ [x7]).length+k<=200000:=by simp;omega
   have n7:qj pb wr<=s7.n:=by have:=F7.q.mn;rw[h7.q.qj] at this;exact this
   clear hN hk mG;have rC:=h7.q.bs;go_wp2_with (at_builtin;refine yA rfl _ _ rfl rfl (zm (gK.q) (zf _ _)) rfl (zd (zk w7 _) 0) rfl rfl (by omega) (by have:=(CN.q).b.size;simp;omega) ?_);intro g' cap' w8 mC mA mJ;obtain⟨v8,e8,o8,h8,BH,aP⟩:=Vq h7.q (gK.q) MJ.1 mC mA (mJ.imp id (λh=>by simpa using h));rw[e8];replace o8:=zh o8;replace h8:=zh h8;replace aP:=zh aP;clear mC mA mJ e8;have F8:=zh (aP.q w CN.q (pC _) MJ.1 MJ.2);clear aP gK CN F7 F6 F5 F4 F3 F2 F1;go_wp2_with fail;refine ye hr (Qb h8 hl _) F8 ?_;clear hr;intro x9 s9 w9 m9 h9 F9 f9 hr;have o9:=zh (zx o8.q h8.q f9.q);cases x9 with
   |true=>
    replace hr:=rtt hr;obtain⟨hi,Bl⟩:=VL m9.q;have mD:=qI hi;have n9:qj pb wr<qj pb w9:=by
     rw[h9.q.qj,Bl];show qj pb wr<s7.n+1
     omega
    have hr:=zh hr.q;go_wp2;go_roundw
    case rel=>exact⟨_,_,_,hr.q,rc,o9.q,h9.q,F9.q⟩
    case measure=>
     have:qj pb wr<=E.tz.length:=by omega
     omega
   |false=>
    replace hr:=rff hr;have e:=Option.some.inj hr.q;cases e;go_wp2;go_ret;exact⟨_,rfl,o9.q,h9.q,F9.q,by omega⟩
def Vs{pb:Nat}{R:xn}(hR:qJ E base pb R):RLc E base pb 92 (YR R) 200001:=by
 have hP:=zh (QG hR);intro G w st st' l h0 hr;have hl:=hR.lim;replace hR:=zh hR;unfold YR at hr;simp only[kg] at hr;have mL:=h0.bs;have F0:=zh (RF.refl base pb w);replace h0:=zh h0;replace hr:=zh hr;go_enter func92,ntmps92;go_wp2_with fail;refine ye hr (zJ h0 hl _) F0 ?_;clear hr;intro x1 s1 w1 m1 h1 F1 f1 hr;have Ma:=zh (xD (Jz w1) F1.q.b.size);have h2:=zh (h1.q.glit (.cells #[] 3 (0,0)) 0 0);have F2:=zh (F1.q.trans (h1.q.rf (zf w1 (.cells #[] 3 (0,0)))));go_wp2_with fail;refine ye hr (XK h2 _) F2 ?_;clear hr;intro x3 s3 w3 m3 h3 F3 f3 hr;cases x3 with
 |true=>
  replace hr:Hid ((zI [41] >>= λ_=>zI [58] >>= λ_=>R.type >>= λt=>pure ([] ++ [t])) E s3=some (l,st')):=hr;have o4:=zh (zx Ma.q h2.q f3.q);obtain⟨x4,Bp⟩:∃x:List Int,x=[]:=⟨_,rfl⟩;have l4:x4.length<=200000:=by rw[Bp];exact pU _
  have h4:=h3;have F4:=F3;have q4:Hid (w3.ownsRow w.heap.size 3 1 (.slice (some ⟨w1.heap.size,0,none⟩) 0 0) x4.length (yl x4)):=Bp▸o4;replace hr:Hid ((zI [41] >>= λ_=>zI [58] >>= λ_=>R.type >>= λt=>pure (x4 ++ [t])) E s3=some (l,st')):=Bp▸hr;replace o4:=q4;clear q4 Ma Bp;go_wp2_with fail;refine ye hr (zJ h4 hl _) F4 ?_;clear hr;intro x5 s5 w5 m5 h5 F5 f5 hr;go_wp2_with fail;refine ye hr (zJ h5 hl _) F5 ?_;clear hr;intro x6 s6 w6 m6 h6 F6 f6 hr;go_wp2_with fail;refine ye hr (yX hR.q.type h6) F6 ?_;clear hr;intro x7 s7 w7 m7 h7 F7 f7 hr;have o7:=zh (zx (zx (zx o4.q h4.q f5.q) h5.q f6.q) h6.q f7.q);have rC:=h7.q.bs;go_wp2_with (at_builtin;refine yA rfl _ _ rfl rfl (zm (o7.q) (zf _ _)) rfl (zd (zk w7 _) 0) rfl rfl (by omega) (by have:=(F7.q).b.size;simp;omega) ?_);intro g' cap' w8 mC mA mJ;obtain⟨v8,e8,o8,h8,BH,aP⟩:=Vq h7.q (o7.q) mL.1 mC mA (mJ.imp id (λh=>by simpa using h));rw[e8];replace o8:=zh o8;replace h8:=zh h8;replace aP:=zh aP;clear mC mA mJ e8;have F8:=zh (aP.q w F7.q (pC _) mL.1 mL.2);have e:=Option.some.inj hr.q;cases e;go_wp2;go_ret;exact⟨_,rfl,o8.q,h8.q,F8.q,by simp;omega⟩
 |false=>
  replace hr:Hid ((Zs R >>= λl=>zI [41] >>= λ_=>zI [58] >>= λ_=>R.type >>= λt=>pure (l ++ [t])) E s3=some (l,st')):=hr;replace h3:=zh h3.q.ungw;have ex:=F3.q.b.size;go_wp2_with fail;refine zaC hr (hP.q) h3 F3 ?_;clear hr;intro x4 s4 w4 v4 m4 h4 F4 f4 o4 l4 hr;obtain⟨p4,c4,rfl⟩:=(KS.own o4.q).form;replace o4:=zh (xD o4.q ex);go_wp2_with fail;refine ye hr (zJ h4 hl _) F4 ?_;clear hr;intro x5 s5 w5 m5 h5 F5 f5 hr;go_wp2_with fail;refine ye hr (zJ h5 hl _) F5 ?_;clear hr;intro x6 s6 w6 m6 h6 F6 f6 hr;go_wp2_with fail;refine ye hr (yX hR.q.type h6) F6 ?_;clear hr;intro x7 s7 w7 m7 h7 F7 f7 hr;have o7:=zh (zx (zx (zx o4.q h4.q f5.q) h5.q f6.q) h6.q f7.q);have rC:=h7.q.bs;go_wp2_with (at_builtin;refine yA rfl _ _ rfl rfl (zm (o7.q) (zf _ _)) rfl (zd (zk w7 _) 0) rfl rfl (by omega) (by have:=(F7.q).b.size;simp;omega) ?_);intro g' cap' w8 mC mA mJ;obtain⟨v8,e8,o8,h8,BH,aP⟩:=Vq h7.q (o7.q) mL.1 mC mA (mJ.imp id (λh=>by simpa using h));rw[e8];replace o8:=zh o8;replace h8:=zh h8;replace aP:=zh aP;clear mC mA mJ e8;have F8:=zh (aP.q w F7.q (pC _) mL.1 mL.2);have e:=Option.some.inj hr.q;cases e;go_wp2;go_ret;exact⟨_,rfl,o8.q,h8.q,F8.q,by simp;omega⟩
def jX(b:Nat):LodeX.Rel:=⟨λx y=>y.heap[b]? =x.heap[b]?,λ_=>rfl,λh k=>k.trans h,Eq,λ_=>rfl,Eq.trans,λh=>h▸rfl⟩
def qz{pb:Nat}{st st':jR}(h:Hid (RW E base pb G w st))(h':Hid (RW E base pb G' w' st'))(f:Hid (RF base pb w w')):st.n<=st'.n:=by
 have:=f.q.mn;rw[h.q.qj,h'.q.qj] at this;exact this
section
variable {E:zr} {base pb b k B:Nat} {G:Nat→Prop} {w0 w w1 w2:World} {st:jR} {t:List UInt8} {n p:Int} {kv v:Value} {l:List Int} {x:Int}
def ya(hN:Hid (NB base pb b w0 w k t n kv p))(h:Hid (RW E base pb G w st))(F:Hid (RF base pb w0 w))(mL:base<=w0.heap.size)(i:Nat)(u:Value){kv':Value}(hc:(#[.int .u8 k,.string ⟨t.toArray⟩,.int .i64 n,kv,.int .i64 p]:Array Value).setIfInBounds i u= #[.int .u8 k',.string ⟨t'.toArray⟩,.int .i64 n',kv',.int .i64 p']:=by rfl)(ho:(#[.int .u8 k,.string ⟨t.toArray⟩,.int .i64 n,kv,.int .i64 p]:Array Value)[i]? =some old:=by rfl):
 (w.frozen? ⟨b,i,none⟩=false/\w.cell? ⟨b,i,none⟩=some old)/\Hid (NB base pb b w0 (w.setCell ⟨b,i,none⟩ u) k' t' n' kv' p')/\Hid (RW E base pb G (w.setCell ⟨b,i,none⟩ u) st)/\Hid (RF base pb w0 (w.setCell ⟨b,i,none⟩ u)):=by
 obtain⟨a,b',c⟩:=hN.q.set (i:=i) (v:=u) h.q F.q mL hc;exact⟨⟨zj hN.q.hb i,(zd hN.q.hb i).trans ho⟩,zh a,zh b',zh c⟩
def zS{m:Nat}(o:w.ownsRow B 3 1 v m xs)(hb:w.heap[b]? =some (.cells cs 60 fr))(i:Nat)(u:Value):(w.setCell ⟨b,i,none⟩ u).ownsRow B 3 1 v m xs:=ownsRow_setCell_other o (a:=⟨b,i,none⟩) (λe=>by
 obtain⟨Rq,hh⟩:=uJ o (g:=b) e;rw[hb] at hh;simp at hh) u
def kI{ys:List Int}{g' cap' m:Nat}(h1:Hid (RW E base pb (Gw G v) w1 st))(hN:Hid (NB base pb b w0 w1 k t n v p))(o:Hid (w1.ownsRow w0.heap.size 3 1 v acc.length (yl acc)))(F:Hid (RF base pb w0 w1))(mL:base<=w0.heap.size/\pb<w0.heap.size)(mC:w2.ownsRow w0.heap.size 3 1 sl m zs)(mA:w1.grownBy w2 v.ownBlock)(mJ:v.ownBlock=some g'\/g'=w1.heap.size)(Ey:sl=.slice (some ⟨g',0,none⟩) (acc.length+ys.length) cap':=by rfl)(hm:m=acc.length+ys.length:=by rfl)(hz:zs=yl acc ++ yl ys:=by rfl):
 (w2.frozen? ⟨b,3,none⟩=false/\w2.cell? ⟨b,3,none⟩=some v)/\w2.heap[b]? =w1.heap[b]? /\∃v2 c2,sl=v2/\v2=.slice (some ⟨g',0,none⟩) (acc.length+ys.length) c2/\Hid (NB base pb b w0 (w2.setCell ⟨b,3,none⟩ v2) k t n v2 p)/\Hid (RW E base pb (Gw G v2) (w2.setCell ⟨b,3,none⟩ v2) st)/\Hid (RF base pb w0 (w2.setCell ⟨b,3,none⟩ v2))/\Hid ((w2.setCell ⟨b,3,none⟩ v2).ownsRow w0.heap.size 3 1 v2 (acc ++ ys).length (yl (acc ++ ys))):=by
 subst Ey hm hz;obtain⟨v2,e2,o2,h2,Gh,FF⟩:=zfa h1.q o.q mL.1 mC mA mJ;have mF:=hN.q.hb;have mM:w2.heap[b]? =w1.heap[b]? :=mA.block b (gtA mF) λe=>by
  obtain⟨Rq,hh⟩:=uJ o.q e.symm;rw[mF] at hh;simp at hh
 have hpb:qU pb w2=qU pb w1:=by
  unfold qU;rw[mA.block pb h1.q.bs.2 (λe=>by
   obtain⟨Rq,hh⟩:=uJ o.q e.symm;obtain⟨_,_,_,P,_⟩:=h1.q;rw[P.obj] at hh;simp at hh)]
 have em:NB base pb b w0 w2 k t n v p:=⟨hN.q.new,mM.trans mF,by rw[hpb];exact hN.q.nb,hN.q.pb⟩;have F2:=FF w0 F.q (pC _) mL.1 mL.2;obtain⟨a,b',c⟩:=em.set (i:=3) (v:=v2) (kv':=v2) (k':=k) (t':=t) (n':=n) (p':=p) h2 F2 mL.1 rfl;exact⟨⟨zj em.hb 3,zd em.hb 3⟩,mM,v2,cap',e2,e2.symm,zh a,zh b',zh c,zh (zS o2 em.hb 3 v2)⟩
def uF(hN:Hid (NB base pb b w0 w k t n kv p))(h:Hid (RW E base pb G w st))(F:Hid (RF base pb w0 w))(l:List Int)(cs:Array Value)(m:Nat)(ae:cs=(yl l).toArray:=by rfl)(hm:m=l.length:=by rfl)(hl:l.length<=1000:=by simp):Hid (NB base pb b w0 (w.alloc (.cells cs 3 (0,0))) k t n kv p)/\Hid (RW E base pb (Gw G (.slice (some ⟨w.heap.size,0,none⟩) m m)) (w.alloc (.cells cs 3 (0,0))) st)/\Hid (RF base pb w0 (w.alloc (.cells cs 3 (0,0))))/\Hid ((w.alloc (.cells cs 3 (0,0))).ownsRow w0.heap.size 3 1 (.slice (some ⟨w.heap.size,0,none⟩) m m) l.length (yl l)):=by
 subst ae hm;exact⟨zh (hN.q.rf (h.q.rf (zf _ _))),zh (h.q.glit _ _ _),zh (F.q.trans (h.q.rf (zf _ _))),zh (xD (zgW w l (by omega)) F.q.b.size)⟩
def jY(h:Hid (RW E base pb (Gw G v) w st))(o:Hid (w.ownsRow w0.heap.size 3 1 v l.length (yl l)))(hG:∀g,G g->g<w0.heap.size):Hid (RW E base pb G w st)/\Hid (KS w v l/\∀g,yY v=some g->¬G g):=⟨zh h.q.ungw,zh ⟨KS.own o.q,yM o.q hG⟩⟩
def jh{c0 c1 c2 c4:Value}(hb:w.heap[b]? =some (.cells #[c0,c1,c2,kv,c4] T (0,0))):∀W,(jX b).rel w.drew W->(W.cell? ⟨b,3,none⟩=some kv/\W.frozen? ⟨b,3,none⟩=false):=λW hW=>⟨zd ((show W.heap[b]? =w.heap[b]? from hW).trans hb) 3,zj ((show W.heap[b]? =w.heap[b]? from hW).trans hb) 3⟩
def ko(_:Hid (RW E base pb G w st)):Below w.heap.size w w.drew:=bR.drew
def ZF:Hid (KS w (.slice none 0 0) []/\∀g,yY (.slice none 0 0)=some g->¬G g):=zh ⟨KS.nil w 0 none,λg hg=>by cases hg⟩
end
section
variable {α β:Type} {E:zr} {base pb:Nat} {G:Nat→Prop} {w0 w2:World} {st:jR} {r:Option (β×jR)} {K:Ending→World→Prop} {x:List UInt8}
def yK{A B:RM β}(hr:Hid ((xm x >>= λb=>if b=true then A else B) E st=r))(H:Hid (RW E base pb G w2 st))(hl:E.tz.length<=100000)(F:Hid (RF base pb w0 w2))(h1:∀W,uP E st x=true->Hid (RW E base pb G W st.up)->Hid (RF base pb w0 W)->Hid (RF base pb w2 W)->Hid (A E st.up=r)->K (.returned (.bool true)) W)(h2:∀W,Hid (RW E base pb G W st)->Hid (RF base pb w0 W)->Hid (RF base pb w2 W)->Hid (B E st=r)->K (.returned (.bool false)) W):Calls prog 87 #[.pointer (some ⟨pb,0,none⟩),.string ⟨x.toArray⟩] w2 K:=by
 have hr:=hr.q;change RM.bind (xm x) _ E st=r at hr;unfold RM.bind xm at hr;refine (za7 H.q hl x).mono ?_;rintro e W ⟨rfl,a,b⟩;cases hi:uP E st x with
 |true=>
  rw[hi] at hr a;exact h1 W hi (zh a) (zh (F.q.trans b)) (zh b) (zh hr)
 |false=>
  rw[hi] at hr a;exact h2 W (zh a) (zh (F.q.trans b)) (zh b) (zh hr)
end
def zfd{pb:Nat}{R:xn}(hR:qJ E base pb R):Xn E base pb 93 (za9 R):=by
 have hT:=zh (Ka hR);intro G w st st' a h0 hr;have hl:=hR.lim;replace hR:=zh hR;unfold za9 at hr
 try simp only[kg,Zo,uH] at hr
 have mL:=h0.bs;have F0:=zh (RF.refl base pb w);replace h0:=zh h0;replace hr:=zh hr;go_enter func93,ntmps93;have hG:=zh h0.q.glt;go_wp2_with fail;refine ye hr (xl h0) F0 ?_;clear hr;intro x1 s1 w1 m1 h1 F1 f1 hr;obtain⟨hN,h2,F2⟩:=ZS h1 F1 0 [] 0 x1;go_wp2_with fail;have mW:=hr;clear hr;refine yK mW h2 hl F2 (λw3 nV h3 F3 f3 hr=>?_) (λw3 h3 F3 f3 hr=>?_) <;> clear mW <;> replace hN:=zh (hN.q.rf f3.q)
 ·obtain⟨⟨fz,cz⟩,hN,h4,F4⟩:=ya hN h3 F3 mL.1 0 (.int .u8 80);obtain⟨d0,d1,d2,d3,d4,_⟩:=hN.q.cells;go_wp2_with fail;refine zU hr h4 F4 ZF λW h F=>?_
  go_wp2;go_ret;exact⟨rfl,h,F⟩
 go_wp2_with fail;have mW:=hr;clear hr;refine yK mW h3 hl F3 (λw4 WN h4 F4 f4 hr=>?_) (λw4 h4 F4 f4 hr=>?_) <;> clear mW <;> replace hN:=zh (hN.q.rf f4.q)
 ·obtain⟨⟨fz,cz⟩,hN,h5,F5⟩:=ya hN h4 F4 mL.1 0 (.int .u8 81);obtain⟨d0,d1,d2,d3,d4,_⟩:=hN.q.cells;go_wp2_with fail;refine zU hr h5 F5 ZF λW h F=>?_
  go_wp2;go_ret;exact⟨rfl,h,F⟩
 go_wp2_with fail;have mW:=hr;clear hr;refine yK mW h4 hl F4 (λw5 SP h5 F5 f5 hr=>?_) (λw5 h5 F5 f5 hr=>?_) <;> clear mW <;> replace hN:=zh (hN.q.rf f5.q)
 ·obtain⟨⟨fz,cz⟩,hN,h6,F6⟩:=ya hN h5 F5 mL.1 0 (.int .u8 82);obtain⟨d0,d1,d2,d3,d4,_⟩:=hN.q.cells;go_wp2_with fail;refine zU hr h6 F6 ZF λW h F=>?_
  go_wp2;go_ret;exact⟨rfl,h,F⟩
 go_wp2_with fail;have mW:=hr;clear hr;refine yK mW h5 hl F5 (λw6 Dx h6 F6 f6 hr=>?_) (λw6 h6 F6 f6 hr=>?_) <;> clear mW <;> replace hN:=zh (hN.q.rf f6.q)
 ·obtain⟨⟨fz,cz⟩,hN,h7,F7⟩:=ya hN h6 F6 mL.1 0 (.int .u8 83);obtain⟨d0,d1,d2,d3,d4,_⟩:=hN.q.cells;go_wp2_with fail;refine zU hr h7 F7 ZF λW h F=>?_
  go_wp2;go_ret;exact⟨rfl,h,F⟩
 go_wp2_with fail;have mW:=hr;clear hr;refine yK mW h6 hl F6 (λw7 Dy h7 F7 f7 hr=>?_) (λw7 h7 F7 f7 hr=>?_) <;> clear mW <;> replace hN:=zh (hN.q.rf f7.q)
 ·go_wp2_with fail;refine ye hr (yX hR.q.type h7) F7 ?_;clear hr;intro x8 s8 w8 m8 h8 F8 f8 hr;replace hN:=zh (hN.q.rf f8.q);obtain⟨hN,h9,F9,o⟩:=uF hN h8 F8 [x8] #[.int .i64 x8] 1;have oo:=zS o.q hN.q.hb 0 (.int .u8 86);obtain⟨⟨PK,PB⟩,hN,mR,mi⟩:=ya hN h9 F9 mL.1 0 (.int .u8 86);replace o:=zh oo;clear oo;have oo:=zS o.q hN.q.hb 3 (.slice (some ⟨w8.heap.size,0,none⟩) 1 1);obtain⟨⟨eL,eJ⟩,hN,mX,ms⟩:=ya hN mR mi mL.1 3 (.slice (some ⟨w8.heap.size,0,none⟩) 1 1);replace o:=zh oo;clear oo;obtain⟨mX,hk⟩:=jY mX o hG.q;obtain⟨d0,d1,d2,d3,d4,_⟩:=hN.q.cells;go_wp2_with fail;refine zU hr mX ms hk λW h F=>?_
  go_wp2;go_ret;exact⟨rfl,h,F⟩
 go_wp2_with fail;have mW:=hr;clear hr;refine yK mW h7 hl F7 (λw8 Lw h8 F8 f8 hr=>?_) (λw8 h8 F8 f8 hr=>?_) <;> clear mW <;> replace hN:=zh (hN.q.rf f8.q)
 ·go_wp2_with fail;refine ye hr (yX hR.q.type h8) F8 ?_;clear hr;intro x9 s9 w9 m9 h9 F9 f9 hr;replace hN:=zh (hN.q.rf f9.q);obtain⟨hN,mR,mi,o⟩:=uF hN h9 F9 [x9] #[.int .i64 x9] 1;have oo:=zS o.q hN.q.hb 0 (.int .u8 87);obtain⟨⟨eL,eJ⟩,hN,mX,ms⟩:=ya hN mR mi mL.1 0 (.int .u8 87);replace o:=zh oo;clear oo;have oo:=zS o.q hN.q.hb 3 (.slice (some ⟨w9.heap.size,0,none⟩) 1 1);obtain⟨⟨PL,PC⟩,hN,mh,mx⟩:=ya hN mX ms mL.1 3 (.slice (some ⟨w9.heap.size,0,none⟩) 1 1);replace o:=zh oo;clear oo;obtain⟨mh,hk⟩:=jY mh o hG.q;obtain⟨d0,d1,d2,d3,d4,_⟩:=hN.q.cells;go_wp2_with fail;refine zU hr mh mx hk λW h F=>?_
  go_wp2;go_ret;exact⟨rfl,h,F⟩
 go_wp2_with fail;have mW:=hr;clear hr;refine yK mW h8 hl F8 (λw9 hi9 h9 F9 f9 hr=>?_) (λw9 h9 F9 f9 hr=>?_) <;> clear mW <;> replace hN:=zh (hN.q.rf f9.q)
 ·obtain⟨⟨fz,cz⟩,hN,mR,mi⟩:=ya hN h9 F9 mL.1 0 (.int .u8 85);go_wp2_with fail;refine ye hr (zJ mR hl _) mi ?_;clear hr;intro rr Hu al Mo mX ms rH hr;replace hN:=zh (hN.q.rf rH.q);go_wp2_with fail;refine ye hr (XK mX _) ms ?_;clear hr;intro aV Ap fC Fe mh mx sZ hr;replace hN:=zh (hN.q.rf sZ.q);cases aV with
  |true=>
   replace hr:=rtt hr;replace mh:=zh mh.q.gnil;have o:Hid (fC.ownsRow w.heap.size 3 1 (.slice none 0 0) ([]:List Int).length (yl [])):=zh (jT _ _ rfl);go_wp2_with fail;refine ye hr (zJ mh hl _) mx ?_;clear hr;intro bu Se eF m15 rA sI aW hr;replace hN:=zh (hN.q.rf aW.q);replace o:=zh (zx o.q mh.q aW.q);go_wp2_with fail;refine ye hr (zJ rA hl _) sI ?_;clear hr;intro Nw Fx MB m16 rM sJ co hr;replace hN:=zh (hN.q.rf co.q);replace o:=zh (zx o.q rA.q co.q);have dL:=hN.q.hb;have Rg:=sJ.q.b.size;go_wp2_with fail;have hS:=jh dL;have hd:=ko rM;replace hN:=zh (hN.q.rf (rM.q.rf hd));replace o:=zh (zm o.q hd);replace sJ:=zh (sJ.q.trans (rM.q.rf hd));replace rM:=zh (rM.q.below hd);clear hd;refine LodeX.xC (RR:=jX (w1.heap.size)) (Xp:=λ_ _=>False) [(0,0),(1,1),(2,0),(3,2),(4,2),(5,2),(6,0),(7,3)] ?_;refine LodeX.xt ?_;refine LodeX.callX λK hK=>?_
   go_simp;refine ye hr (yX hR.q.type rM) sJ ?_;clear hr;intro fD CB wc mc hc Fc fc hr;have n17:=qz rM hc fc;replace hN:=zh (hN.q.rf fc.q);replace o:=zh (zx o.q rM.q fc.q);refine⟨hN.q.hb.trans dL.symm,hK _ _ ?_⟩;clear hK K hS
   try simp only[Act.put,yh,yf,yg]
   refine LodeX.callX λK hK=>?_
   go_simp;have hA:=zf wc (.cells #[.int .i64 fD] 3 (0,0));refine⟨hA.block _ (gtA hN.q.hb),hK _ _ ?_⟩;clear hK K
   try simp only[Act.put,yh,yf,yg]
   refine LodeX.callX λK hK=>?_
   replace hN:=zh (hN.q.rf (hc.q.rf hA));replace o:=zh (zm o.q hA);replace Fc:=zh (Fc.q.trans (hc.q.rf hA));replace hc:=zh (hc.q.below hA);refine yE _ _ rfl (by rfl) o.q (by rfl) (zd (zk wc _) 0) rfl rfl (by first|omega|(simp;omega)|simp) (by have:=Fc.q.b.size;omega) ?_;intro g' cap' wd mC mA mJ;obtain⟨⟨fz,cz⟩,hq,v17,c17,Sy,PI,nS,td,bI,o'⟩:=kI (ys:=[fD]) hc hN o Fc mL mC mA mJ;rw[Sy];refine⟨hq,hK _ _ ?_⟩;replace hN:=nS;replace o:=o';subst PI
   try simp only[pQ,pV,pH,pM,Nat.zero_add,Nat.reduceAdd] at hN td bI o
   clear hK K mC mA mJ Sy hq nS o' dL Rg
   try simp only[Act.put,yh,yf,yg]
   refine LodeX.xt ?_;refine LodeX.yG rfl rfl (λV hV=>?_);cases hV;go_simp;refine LodeX.yL ?_;obtain⟨td,hk⟩:=jY td o hG.q;obtain⟨d0,d1,d2,d3,d4,_⟩:=hN.q.cells;go_wp2_with fail;refine zU hr td bI hk λW h F=>?_
   go_wp2;go_ret;exact⟨rfl,h,F⟩
  |false=>
   replace hr:=rff hr;go_wp2_with fail;refine zaC hr (hT.q) mh mx ?_;clear hr;intro rz gn cn CE Mp nN ng ru cC Iv hr;obtain⟨Nv,gv,rfl⟩:=(KS.own cC.q).form;replace hN:=zh (hN.q.rf ru.q);have o:=zh (xD cC.q mx.q.b.size);have oo:=zS o.q hN.q.hb 3 (.slice Nv rz.length gv);obtain⟨⟨PN,PD⟩,hN,nY,rQ⟩:=ya hN nN ng mL.1 3 (.slice Nv rz.length gv);replace o:=zh oo;clear oo;go_wp2_with fail;refine ye hr (zJ nY hl _) rQ ?_;clear hr;intro bu Se eF m15 rA sI aW hr;replace hN:=zh (hN.q.rf aW.q);replace o:=zh (zx o.q nY.q aW.q);go_wp2_with fail;refine ye hr (zJ rA hl _) sI ?_;clear hr;intro Nw Fx MB m16 rM sJ co hr;replace hN:=zh (hN.q.rf co.q);replace o:=zh (zx o.q rA.q co.q);have dL:=hN.q.hb;have Rg:=sJ.q.b.size;go_wp2_with fail;have hS:=jh dL;have hd:=ko rM;replace hN:=zh (hN.q.rf (rM.q.rf hd));replace o:=zh (zm o.q hd);replace sJ:=zh (sJ.q.trans (rM.q.rf hd));replace rM:=zh (rM.q.below hd);clear hd;refine LodeX.xC (RR:=jX (w1.heap.size)) (Xp:=λ_ _=>False) [(0,0),(1,1),(2,0),(3,2),(4,2),(5,2),(6,0),(7,3)] ?_;refine LodeX.xt ?_;refine LodeX.callX λK hK=>?_
   go_simp;refine ye hr (yX hR.q.type rM) sJ ?_;clear hr;intro fD CB wc mc hc Fc fc hr;have n17:=qz rM hc fc;replace hN:=zh (hN.q.rf fc.q);replace o:=zh (zx o.q rM.q fc.q);refine⟨hN.q.hb.trans dL.symm,hK _ _ ?_⟩;clear hK K hS
   try simp only[Act.put,yh,yf,yg]
   refine LodeX.callX λK hK=>?_
   go_simp;have hA:=zf wc (.cells #[.int .i64 fD] 3 (0,0));refine⟨hA.block _ (gtA hN.q.hb),hK _ _ ?_⟩;clear hK K
   try simp only[Act.put,yh,yf,yg]
   refine LodeX.callX λK hK=>?_
   replace hN:=zh (hN.q.rf (hc.q.rf hA));replace o:=zh (zm o.q hA);replace Fc:=zh (Fc.q.trans (hc.q.rf hA));replace hc:=zh (hc.q.below hA);refine yE _ _ rfl (by rfl) o.q (by rfl) (zd (zk wc _) 0) rfl rfl (by first|omega|(simp;omega)|simp) (by have:=Fc.q.b.size;omega) ?_;intro g' cap' wd mC mA mJ;obtain⟨⟨fz,cz⟩,hq,v17,c17,Sy,PI,nS,td,bI,o'⟩:=kI (ys:=[fD]) hc hN o Fc mL mC mA mJ;rw[Sy];refine⟨hq,hK _ _ ?_⟩;replace hN:=nS;replace o:=o';subst PI
   try simp only[pQ,pV,pH,pM,Nat.zero_add,Nat.reduceAdd] at hN td bI o
   clear hK K mC mA mJ Sy hq nS o' dL Rg
   try simp only[Act.put,yh,yf,yg]
   refine LodeX.xt ?_;refine LodeX.yG rfl rfl (λV hV=>?_);cases hV;go_simp;refine LodeX.yL ?_;obtain⟨td,hk⟩:=jY td o hG.q;obtain⟨d0,d1,d2,d3,d4,_⟩:=hN.q.cells;go_wp2_with fail;refine zU hr td bI hk λW h F=>?_
   go_wp2;go_ret;exact⟨rfl,h,F⟩
 ·go_wp2_with fail;refine ye hr (xh h9 hl 2) F9 ?_;clear hr;intro rG ec nB fA mR mi nI hr;replace hN:=zh (hN.q.rf nI.q);obtain⟨⟨fz,cz⟩,hN,mX,ms⟩:=ya hN mR mi mL.1 0 (.int .u8 84);obtain⟨⟨fz,cz⟩,hN,mh,mx⟩:=ya hN mX ms mL.1 1 (.string ⟨rG.toArray⟩);obtain⟨d0,d1,d2,d3,d4,_⟩:=hN.q.cells;go_wp2_with fail;refine zU hr mh mx ZF λW h F=>?_
  go_wp2;go_ret;exact⟨rfl,h,F⟩
