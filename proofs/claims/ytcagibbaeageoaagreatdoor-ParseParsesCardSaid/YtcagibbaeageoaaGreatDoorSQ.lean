import Derived.Test.YtcagibbaeageoaaGreatDoorSK
import Derived.Test.YtcagibbaeageoaaGreatDoorSM
import Derived.Test.YtcagibbaeageoaaGreatDoorSN
import Derived.Deep.Upon
import Derived.Laws.CopyOwn
import Derived.ArgAppend
set_option maxRecDepth 100000
set_option maxHeartbeats 0
set_option linter.all false
variable{w:Go.World}{B j n:Nat}{T:Go.TypeId}{xs:List Go.Value}{v z:Go.Value}
namespace Lode
def zdT:Nat->List (List UInt8)
 |4=>[[61,61],[33,61],[60],[60,61],[62],[62,61],[105,115]]
 |5=>[[43],[45],[43,43]]
 |6=>[[42],[47],[37]]
 |_=>[[111,114],[97,110,100]]
def zim:Nat->List Nat
 |4=>[14,15,16,17,18,19,20]
 |5=>[8,9,10]
 |6=>[11,12,13]
 |_=>[22,21]
end Lode
namespace Go.Proofs.YtcagibbaeageoaaGreatDoor
section
open Go.RowKit Lode Go.Shelf
attribute [local go_sem ↓] wp_at_zero wp_at_succ
open Go.Proofs.Tryz
abbrev KB(ws:List (List UInt8)):List Value:=ws.map λs=>Value.string ⟨s.toArray⟩
abbrev u8L(ks:List Nat):List Value:=ks.map λ(k:Nat)=>Value.int .u8 k
def zdS(w:World)(T:TypeId)(xs:List Value)(h:xs.length<=1000000):(w.alloc (.cells xs.toArray T (0,0))).ownsRow w.heap.size T 1 (.slice (some ⟨w.heap.size,0,none⟩) xs.length xs.length) xs.length xs:=
 ⟨by simp,.inr ⟨w.heap.size,xs.length,_,rfl,pC _,zk w _,pC _,by unfold maxLen;omega,by simp,by simp⟩⟩
def QN{g c:Nat}(h:w.ownsRow B T 1 (.slice (some ⟨g,0,none⟩) n c) n xs)(hz:xs[j]? =some z):w.cell? ⟨g,j,none⟩=some z:=by
 obtain⟨_,⟨hv,_⟩|⟨g',cap,cur,hv,_,hg,_,_,_,ht⟩⟩:=h
 ·cases hv
 ·cases hv;rw[zd hg j];rw[<-ht,List.getElem?_take] at hz;split at hz
  ·rwa [Array.getElem?_toList] at hz
  ·cases hz
def QM(h:w.ownsRow B T 1 v n xs)(hn:n≠0):∃g c,v=.slice (some ⟨g,0,none⟩) n c/\B<=g:=by
 obtain⟨_,⟨_,h0⟩|⟨g',cap,cur,hv,hb,_⟩⟩:=h
 ·exact absurd h0 hn
 ·exact⟨g',cap,hv,hb⟩
def zmf(w:World)(B:Nat)(T:TypeId)(v:Value)(n:Nat)(xs:List Value):Prop:=w.ownsRow B T 1 v n xs/\∃g,v=.slice (some ⟨g,0,none⟩) n n
def ziS(ws:List (List UInt8))(ks:List Nat)(w:World)(e:Ending)(w':World):Prop:=∃v u,e=.returned (.tuple #[v,u])/\(zmf w' w.heap.size 9 v ws.length (KB ws)/\zmf w' w.heap.size 5 u ks.length (u8L ks))/\Below w.heap.size w w'
def zcv(w:World)(ws:List (List UInt8))(ks:List Nat)(h1:ws.length<=1000)(h2:ks.length<=1000):(zmf ((w.alloc (.cells (KB ws).toArray 9 (0,0))).alloc (.cells (u8L ks).toArray 5 (0,0))) w.heap.size 9 (.slice (some ⟨w.heap.size,0,none⟩) ws.length ws.length) ws.length (KB ws)/\zmf ((w.alloc (.cells (KB ws).toArray 9 (0,0))).alloc (.cells (u8L ks).toArray 5 (0,0))) w.heap.size 5 (.slice (some ⟨w.heap.size+1,0,none⟩) ks.length ks.length) ks.length (u8L ks))/\Below w.heap.size w ((w.alloc (.cells (KB ws).toArray 9 (0,0))).alloc (.cells (u8L ks).toArray 5 (0,0))):=by
 have a1:=zdS w 9 (KB ws) (by simp;omega);have a2:=zdS (w.alloc (.cells (KB ws).toArray 9 (0,0))) 5 (u8L ks) (by simp;omega);have e:(w.alloc (.cells (KB ws).toArray 9 (0,0))).heap.size=w.heap.size+1:=by simp
 rw[e] at a2;simp only[wZ] at a1 a2;refine⟨⟨⟨zm a1 (zf _ _),_,rfl⟩,⟨a2.1,a2.2.imp id ?_⟩,_,rfl⟩,(zf _ _).trans ((zf _ _).mono (by simp))⟩;rintro ⟨g,cap,cur,e1,e2,e3⟩;exact⟨g,cap,cur,e1,by omega,e3⟩
def zfv(w:World):Calls prog 172 #[] w (ziS [[105,110],[121,105,101,108,100],[99,111,108,108,101,99,116]] [44,45,46] w):=by
 have h:=zcv w [[105,110],[121,105,101,108,100],[99,111,108,108,101,99,116]] [44,45,46] (by decide) (by decide);have H:=zh h;clear h;go_enter func172,ntmps172;go_wp2;go_ret2;exact⟨_,_,rfl,H.q⟩
def zaE(w:World):Calls prog 174 #[] w (ziS [[116,104,114,111,119],[115,112,97,119,110],[119,101,97,107]] [37,38,39] w):=by
 have h:=zcv w [[116,104,114,111,119],[115,112,97,119,110],[119,101,97,107]] [37,38,39] (by decide) (by decide);have H:=zh h;clear h;go_enter func174,ntmps174;go_wp2;go_ret2;exact⟨_,_,rfl,H.q⟩
def zjG(r:Nat)(hr:r∈[1,4,5,6])(w:World):Calls prog 175 #[.int .i64 (r:Nat)] w (ziS (zdT r) (zim r) w):=by
 have h:=(by decide:∀r,r∈[1,4,5,6]->(zdT r).length<=1000/\(zim r).length<=1000) r hr;have H:=zh (zcv w (zdT r) (zim r) h.1 h.2);clear h;simp only[wI,wL,or_false] at hr;rcases hr with rfl|rfl|rfl|rfl
 all_goals
  go_enter func175,ntmps175;go_wp2;go_ret2;exact⟨_,_,rfl,H.q⟩
