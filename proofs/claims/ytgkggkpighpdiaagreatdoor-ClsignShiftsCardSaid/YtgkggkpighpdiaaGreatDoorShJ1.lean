/- Plain law: SHA-256 and its code in numbers. No program in sight. The walks of package hash: words in memory, the schedule of a block. The walks of package hash: the schedule of a block. The walks of package hash: the constants and the state at the beginning. The walk of package hash: the state after a block. The walk of package hash: Sum. The walk of package hash: Mac. The walks of package coins: what a well-formed tape is. Plain law: the first bits of a row of bytes. The walks of package coins: the blocks of an attempt. The walks of package coins: an attempt at a coin. The walks of package coins: a draw. The walks of package coins: draws that fail. The walks of package coins: a draw from a seed. The walks of package coins: draw in general, Below. -/
import Derived.Test.YtgkggkpighpdiaaGreatDoorShBW
import Derived.Laws.Rows
import Derived.StillTailTactics
import Derived.Deep.RegionHeld3
import Derived.Test.YtgkggkpighpdiaaGreatDoorShBR
import Derived.Laws.CopyOwn
import Derived.Deep.RegionLaw
import Derived.Deep.DeepCutAuto
import Derived.Deep.CutBlock
import Derived.Test.YtgkggkpighpdiaaGreatDoorShBP
import Derived.Lib.AppendIntMem
import Derived.Lib.ItoaMem
import Derived.Lib.ItoaLen
import Derived.Stop.RegionWithIn
import Derived.RangeFuncNested
import Derived.RangeFuncBound
import Derived.RangeFuncCalls
import Derived.RangeFuncLeaves
import Derived.RangeFuncFrom
import Derived.Shelf.Abstract
import Derived.Shelf.RegionOpen
import Derived.WalkKit
import Derived.OwnWalkIn
import Derived.TacticsInMore
import Derived.LoopNIn
import Derived.LoopIn
import Derived.Lib.AppendStr
namespace Go.Proofs.YtgkggkpighpdiaaGreatDoor
set_option maxRecDepth 100000
set_option linter.unusedVariables false
def xor32 (a b : Nat) : Nat:=a ^^^ b
def and32 (a b : Nat) : Nat:=a &&& b
def not32 (a : Nat) : Nat:=4294967295 - a
def add32 (a b : Nat) : Nat:=(a+b) % 4294967296
def rotr (x n : Nat) : Nat:=x / 2 ^ n ||| x*2 ^ (32 - n) % 4294967296
def xor3 (x a b c : Nat) : Nat:=xor32 (xor32 (rotr x a) (rotr x b)) (rotr x c)
def sig0 (x : Nat) : Nat:=xor32 (xor32 (rotr x 7) (rotr x 18)) (x / 8)
def sig1 (x : Nat) : Nat:=xor32 (xor32 (rotr x 17) (rotr x 19)) (x / 1024)
def schedF : Nat→List Nat→List Nat
 | 0,l=>l
 | k+1,l=>schedF k (l++[add32 (add32 (add32 (l.getD (l.length - 16) 0) (sig0 (l.getD (l.length - 15) 0))) (l.getD (l.length - 7) 0)) (sig1 (l.getD (l.length - 2) 0))])
def wordAt (b : List UInt8) (i : Nat) : Nat:=(b.getD (4*i) 0).toNat*16777216+(b.getD (4*i+1) 0).toNat*65536+(b.getD (4*i+2) 0).toNat*256+(b.getD (4*i+3) 0).toNat
def words16 (b : List UInt8) : List Nat:=(List.range 16).map (wordAt b)
def sched (b : List UInt8) : List Nat:=schedF 48 (words16 b)
def consts : List Nat:=[0x428a2f98,0x71374491,0xb5c0fbcf,0xe9b5dba5,0x3956c25b,0x59f111f1,0x923f82a4,0xab1c5ed5,0xd807aa98,0x12835b01,0x243185be,0x550c7dc3,0x72be5d74,0x80deb1fe,0x9bdc06a7,0xc19bf174,
 0xe49b69c1,0xefbe4786,0x0fc19dc6,0x240ca1cc,0x2de92c6f,0x4a7484aa,0x5cb0a9dc,0x76f988da,0x983e5152,0xa831c66d,0xb00327c8,0xbf597fc7,0xc6e00bf3,0xd5a79147,0x06ca6351,0x14292967,
 0x27b70a85,0x2e1b2138,0x4d2c6dfc,0x53380d13,0x650a7354,0x766a0abb,0x81c2c92e,0x92722c85,0xa2bfe8a1,0xa81a664b,0xc24b8b70,0xc76c51a3,0xd192e819,0xd6990624,0xf40e3585,0x106aa070,
 0x19a4c116,0x1e376c08,0x2748774c,0x34b0bcb5,0x391c0cb3,0x4ed8aa4a,0x5b9cca4f,0x682e6ff3,0x748f82ee,0x78a5636f,0x84c87814,0x8cc70208,0x90befffa,0xa4506ceb,0xbef9a3f7,0xc67178f2]
def state0 : List Nat:=[0x6a09e667,0xbb67ae85,0x3c6ef372,0xa54ff53a,0x510e527f,0x9b05688c,0x1f83d9ab,0x5be0cd19]
def roundF (v : List Nat) (k w : Nat) : List Nat :=
 let a:=v.getD 0 0;let b:=v.getD 1 0;let c:=v.getD 2 0;let d:=v.getD 3 0;let e:=v.getD 4 0;let f:=v.getD 5 0;let g:=v.getD 6 0;let h:=v.getD 7 0
 let t:=add32 (add32 (add32 (add32 h (xor3 e 6 11 25)) (xor32 (and32 e f) (and32 (not32 e) g))) k) w
 let u:=add32 (xor3 a 2 13 22) (xor32 (xor32 (and32 a b) (and32 a c)) (and32 b c))
 [add32 t u,a,b,c,add32 d t,e,f,g]
def roundsF (v : List Nat) (ws : List Nat) : Nat→List Nat
 | 0=>v
 | k+1=>roundF (roundsF v ws k) (consts.getD k 0) (ws.getD k 0)
def after (s : List Nat) (b : List UInt8) : List Nat :=
 (List.range 8).map fun i=>add32 ((roundsF s (sched b) 64).getD i 0) (s.getD i 0)
def padded (s : List UInt8) : List UInt8 :=
 s++[128]++List.replicate ((119 - s.length % 64) % 64) 0++(List.range 8).map fun i=>UInt8.ofNat (s.length*8 / 256 ^ (7 - i))
def blocksF : Nat→List Nat→List UInt8→List Nat
 | 0,s,_=>s
 | k+1,s,m=>blocksF k (after s (m.take 64)) (m.drop 64)
def outBytes (s : List Nat) : List UInt8:=s.flatMap fun w=>[UInt8.ofNat (w / 16777216),UInt8.ofNat (w / 65536),UInt8.ofNat (w / 256),UInt8.ofNat w]
def sumL (s : List UInt8) : List UInt8:=outBytes (blocksF ((padded s).length / 64) state0 (padded s))
def macL (key s : List UInt8) : List UInt8 :=
 let k:=if 64 < key.length then sumL key else key
 let pad (x : UInt8) : List UInt8:=(List.range 64).map fun i=>k.getD i 0 ^^^ x
 sumL (pad 92++sumL (pad 54++s))
end Go.Proofs.YtgkggkpighpdiaaGreatDoor
namespace Go.Proofs.YtgkggkpighpdiaaGreatDoor
open Go.RowKit
set_option maxRecDepth 100000
set_option linter.unusedVariables false
set_option maxHeartbeats 1000000
def u32Cells (L : List Nat) : Array Value:=(L.map fun (n : Nat)=>Value.int .u32 n).toArray
def C32 (w : World) (g : Nat) (T : TypeId) (L : List Nat) : Prop:=w.heap[g]?=some (.cells (u32Cells L) T (0,0))
theorem u32Cells_get (L : List Nat) (k : Nat) (h : k < L.length) : (u32Cells L)[k]?=some (.int .u32 (L.getD k 0 : Nat)):=by
 simp [u32Cells,List.getD,h]
theorem u32Cells_set (L : List Nat) (k n : Nat) : (u32Cells L).setIfInBounds k (.int .u32 n)=u32Cells (L.set k n):=by
 simp [u32Cells,List.map_set]
section
variable {w w' : World} {g : Nat} {T : TypeId} {L : List Nat}
theorem C32.cell (h : C32 w g T L) {k : Nat} (hk : k < L.length) : w.cell? ⟨g,k,none⟩=some (.int .u32 (L.getD k 0 : Nat)):=by
 unfold C32 at h
 simp only [World.cell?,h]
 exact u32Cells_get L k hk
theorem C32.free (h : C32 w g T L) (k : Nat) : w.frozen? ⟨g,k,none⟩=false:=by
 unfold C32 at h
 simp [World.frozen?,h]
theorem C32.lt (h : C32 w g T L) : g < w.heap.size:=by
 rcases Nat.lt_or_ge g w.heap.size with hlt | hge
 · exact hlt
 · unfold C32 at h;rw [Array.getElem?_eq_none hge] at h;cases h
theorem C32.set (h : C32 w g T L) (k n : Nat) : C32 (w.setCell ⟨g,k,none⟩ (.int .u32 n)) g T (L.set k n):=by
 unfold C32 at h ⊢
 rw [← u32Cells_set]
 simp [World.setCell,Array.getElem?_modify,h]
theorem C32.far (h : C32 w g T L) {p : Addr} (hp : g≠p.block) (u : Value) : C32 (w.setCell p u) g T L:=(Below.heap_setCell w p u g hp).trans h
theorem C32.alloc (h : C32 w g T L) (o : Obj) : C32 (w.alloc o) g T L:=(Below.heap_alloc w o g h.lt).trans h
theorem C32.below {B : Nat} (h : C32 w g T L) (hb : Below B w w') (hg : g < B) : C32 w' g T L:=(hb.block g hg).trans h
theorem C32.new (w : World) (T : TypeId) (L : List Nat) : C32 (w.alloc (.cells (u32Cells L) T)) w.heap.size T L:=heap_alloc_new w _
end
end Go.Proofs.YtgkggkpighpdiaaGreatDoor
namespace Go.Proofs.YtgkggkpighpdiaaGreatDoor
open Go.RowKit
set_option maxRecDepth 100000
set_option linter.unusedVariables false
set_option maxHeartbeats 2000000
theorem C32.setCells {g : Nat} {T : TypeId} : ∀ (vs : List Nat) (A B : List Nat) (w : World),C32 w g T (A++B)→B.length=vs.length→C32 (w.setCells g A.length (vs.map fun (n : Nat)=>Value.int .u32 n)) g T (A++vs):=by
 intro vs
 induction vs with
 | nil =>
   intro A B w h hl
   have : B=[]:=List.length_eq_zero_iff.mp hl
   subst this
   exact h
 | cons v vs ih =>
   intro A B w h hl
   cases B with
   | nil=>cases hl
   | cons b B =>
     have h2:=h.set A.length v
     rw [List.set_append_right _ _ (Nat.le_refl _),Nat.sub_self,List.set_cons_zero] at h2
     have h3:=ih (A++[v]) B (w.setCell ⟨g,A.length,none⟩ (.int .u32 v)) (by rw [List.append_assoc];exact h2) (by simpa using hl)
     rw [List.append_assoc,List.length_append] at h3
     exact h3
theorem C32.setAll {g : Nat} {T : TypeId} {w : World} {A : List Nat} (vs : List Nat) (h : C32 w g T A) (hl : A.length=vs.length) : C32 (w.setCells g 0 (u32Cells vs).toList) g T vs:=by
 have:=C32.setCells vs [] A w h hl
 simpa [u32Cells] using this
theorem Below.setCells {B b : Nat} {a : World} (hb : B≤b) : ∀ (vs : List Value) (o : Nat) (w : World),Below B a w→Below B a (w.setCells b o vs):=by
 intro vs
 induction vs with
 | nil=>intro o w h;exact h
 | cons v vs ih=>intro o w h;exact ih (o+1) _ (h.setCell hb v)
theorem C32.there {w : World} {g : Nat} {T : TypeId} {L : List Nat} (h : C32 w g T L) : w.there g 0 L.length:=by
 intro j hj
 rw [Nat.zero_add,h.cell hj,h.free]
 exact ⟨rfl,rfl⟩
end Go.Proofs.YtgkggkpighpdiaaGreatDoor
namespace Go.Proofs.YtgkggkpighpdiaaGreatDoor
open Go.RowKit
set_option maxRecDepth 100000
set_option linter.unusedVariables false
set_option maxHeartbeats 2000000
theorem C32.farCells {g b : Nat} {T : TypeId} {L : List Nat} (hp : g≠b) : ∀ (vs : List Value) (o : Nat) (w : World),C32 w g T L→C32 (w.setCells b o vs) g T L:=by
 intro vs
 induction vs with
 | nil=>intro o w h;exact h
 | cons v vs ih=>intro o w h;exact ih (o+1) _ (h.far hp v)
end Go.Proofs.YtgkggkpighpdiaaGreatDoor
namespace Go.Proofs.YtgkggkpighpdiaaGreatDoor
open Go.RowKit
set_option maxRecDepth 100000
set_option linter.unusedVariables false
set_option maxHeartbeats 2000000
@[simp] theorem size_cells (b : Nat) : ∀ (vs : List Value) (o : Nat) (w : World),(w.setCells b o vs).heap.size=w.heap.size:=by
 intro vs
 induction vs with
 | nil=>intro o w;rfl
 | cons v vs ih=>intro o w;rw [World.setCells,ih];simp
structure AfterAt (B Q : Nat) (w wr : World) (S W V : List Nat) : Prop where
 k : C32 wr Q 217 consts
 ws : C32 wr (Q+1) 217 W
 x : C32 wr (Q+2) 207 V
 s : C32 wr B 207 S
 r : C32 wr (B+1) 207 (List.replicate 8 0)
 bel : Below B w wr
section
variable {B Q : Nat} {w wr wq : World} {S W V V' : List Nat}
theorem AfterAt.put (h : AfterAt B Q w wr S W V) (hQ : B+2≤Q) (i n : Nat) : AfterAt B Q w (wr.setCell ⟨Q+2,i,none⟩ (.int .u32 n)) S W (V.set i n) :=
 ⟨h.k.far (by simp) _,h.ws.far (by simp) _,h.x.set i n,h.s.far (by simp;omega) _,h.r.far (by simp;omega) _,h.bel.setCell (p:=⟨Q+2,i,none⟩) (by simp;omega) _⟩
theorem AfterAt.start (hS : S.length=8) (hW : W.length=64) (hQ : B+2≤w.heap.size) (hs : C32 w B 207 S) (hr : C32 w (B+1) 207 (List.replicate 8 0)) (hb : Below B wr w) :
  ((w.alloc (.cells (u32Cells (List.replicate 64 0)) 217)).alloc (.cells (u32Cells (List.replicate 64 0)) 217)).there w.heap.size 0 64 ∧
  (((w.alloc (.cells (u32Cells (List.replicate 64 0)) 217)).alloc (.cells (u32Cells (List.replicate 64 0)) 217)).setCells w.heap.size 0 (u32Cells consts).toList).there (w.heap.size+1) 0 64 ∧
  ((((w.alloc (.cells (u32Cells (List.replicate 64 0)) 217)).alloc (.cells (u32Cells (List.replicate 64 0)) 217)).setCells w.heap.size 0 (u32Cells consts).toList).setCells (w.heap.size+1) 0 (u32Cells W).toList).heap[B]?=some (.cells (u32Cells S) 207 (0,0)) ∧
  (((((w.alloc (.cells (u32Cells (List.replicate 64 0)) 217)).alloc (.cells (u32Cells (List.replicate 64 0)) 217)).setCells w.heap.size 0 (u32Cells consts).toList).setCells (w.heap.size+1) 0 (u32Cells W).toList).alloc (.cells (u32Cells (List.replicate 8 0)) 207)).there (w.heap.size+2) 0 8 ∧
  AfterAt B w.heap.size wr ((((((w.alloc (.cells (u32Cells (List.replicate 64 0)) 217)).alloc (.cells (u32Cells (List.replicate 64 0)) 217)).setCells w.heap.size 0 (u32Cells consts).toList).setCells (w.heap.size+1) 0 (u32Cells W).toList).alloc (.cells (u32Cells (List.replicate 8 0)) 207)).setCells (w.heap.size+2) 0 (u32Cells S).toList) S W S:=by
 have a0:=(C32.new w 217 (List.replicate 64 0)).alloc (.cells (u32Cells (List.replicate 64 0)) 217)
 have a1:=C32.new (w.alloc (.cells (u32Cells (List.replicate 64 0)) 217)) 217 (List.replicate 64 0)
 rw [World.size_alloc] at a1
 have sS:=(hs.alloc (.cells (u32Cells (List.replicate 64 0)) 217)).alloc (.cells (u32Cells (List.replicate 64 0)) 217)
 have sR:=(hr.alloc (.cells (u32Cells (List.replicate 64 0)) 217)).alloc (.cells (u32Cells (List.replicate 64 0)) 217)
 have bb:=(hb.alloc (o:=.cells (u32Cells (List.replicate 64 0)) 217) (by omega)).alloc (o:=.cells (u32Cells (List.replicate 64 0)) 217) (by simp;omega)
 have z : ((w.alloc (.cells (u32Cells (List.replicate 64 0)) 217)).alloc (.cells (u32Cells (List.replicate 64 0)) 217)).heap.size=w.heap.size+2:=by simp
 generalize ((w.alloc (.cells (u32Cells (List.replicate 64 0)) 217)).alloc (.cells (u32Cells (List.replicate 64 0)) 217))=w1 at a0 a1 sS sR bb z ⊢
 have b0:=a0.setAll consts rfl
 have b1:=C32.farCells (b:=w.heap.size) (by omega) (u32Cells consts).toList 0 _ a1
 have tS:=C32.farCells (b:=w.heap.size) (by omega) (u32Cells consts).toList 0 _ sS
 have tR:=C32.farCells (b:=w.heap.size) (by omega) (u32Cells consts).toList 0 _ sR
 have cb:=Below.setCells (b:=w.heap.size) (by omega) (u32Cells consts).toList 0 _ bb
 have z1 : (w1.setCells w.heap.size 0 (u32Cells consts).toList).heap.size=w.heap.size+2:=by rw [size_cells,z]
 refine ⟨a0.there,b1.there,?_⟩
 generalize w1.setCells w.heap.size 0 (u32Cells consts).toList=w2 at b0 b1 tS tR cb z1 ⊢
 have c1:=b1.setAll W (by rw [hW];rfl)
 have c0:=C32.farCells (b:=w.heap.size+1) (by omega) (u32Cells W).toList 0 _ b0
 have uS:=C32.farCells (b:=w.heap.size+1) (by omega) (u32Cells W).toList 0 _ tS
 have uR:=C32.farCells (b:=w.heap.size+1) (by omega) (u32Cells W).toList 0 _ tR
 have db:=Below.setCells (b:=w.heap.size+1) (by omega) (u32Cells W).toList 0 _ cb
 have z2 : (w2.setCells (w.heap.size+1) 0 (u32Cells W).toList).heap.size=w.heap.size+2:=by rw [size_cells,z1]
 refine ⟨uS,?_⟩
 generalize w2.setCells (w.heap.size+1) 0 (u32Cells W).toList=w3 at c0 c1 uS uR db z2 ⊢
 have d:=C32.new w3 207 (List.replicate 8 0)
 rw [z2] at d
 have e0:=c0.alloc (.cells (u32Cells (List.replicate 8 0)) 207)
 have e1:=c1.alloc (.cells (u32Cells (List.replicate 8 0)) 207)
 have vS:=uS.alloc (.cells (u32Cells (List.replicate 8 0)) 207)
 have vR:=uR.alloc (.cells (u32Cells (List.replicate 8 0)) 207)
 have eb:=db.alloc (o:=.cells (u32Cells (List.replicate 8 0)) 207) (by omega)
 refine ⟨d.there,?_⟩
 generalize w3.alloc (.cells (u32Cells (List.replicate 8 0)) 207)=w4 at d e0 e1 vS vR eb ⊢
 exact ⟨C32.farCells (by omega) _ 0 _ e0,C32.farCells (by omega) _ 0 _ e1,d.setAll S (by rw [hS];rfl),C32.farCells (by omega) _ 0 _ vS,C32.farCells (by omega) _ 0 _ vR,Below.setCells (by omega) _ 0 _ eb⟩
end
end Go.Proofs.YtgkggkpighpdiaaGreatDoor
namespace Go.Proofs.YtgkggkpighpdiaaGreatDoor
open Go.RowKit
set_option maxRecDepth 100000
set_option linter.unusedVariables false
set_option maxHeartbeats 2000000
theorem OwnB.alloc {w : World} {base : Nat} {v : Value} {n : Nat} {L : List UInt8} (h : OwnB w base v n L) (hb : base≤w.heap.size) (o : Obj) : OwnB (w.alloc o) base v n L:=by
 refine ⟨h.1,h.2.1,?_⟩
 rcases h.2.2 with hn | ⟨g,cap,cur,rfl,h1,hg,rest⟩
 · exact .inl hn
 · exact .inr ⟨g,cap,cur,rfl,h1,(Below.heap_alloc w o g (Array.getElem?_eq_some_iff.1 hg).1).trans hg,rest⟩
end Go.Proofs.YtgkggkpighpdiaaGreatDoor
namespace Go.Proofs.YtgkggkpighpdiaaGreatDoor
open Go.RowKit
set_option maxRecDepth 100000
set_option linter.unusedVariables false
set_option maxHeartbeats 2000000
def macS (key s : ByteArray) : ByteArray:=⟨(macL key.data.toList s.data.toList).toArray⟩
end Go.Proofs.YtgkggkpighpdiaaGreatDoor
namespace Go.Proofs.YtgkggkpighpdiaaGreatDoor
open Go.RowKit
set_option maxRecDepth 100000
set_option linter.unusedVariables false
set_option maxHeartbeats 1000000
def goodT (vals : List ByteArray) (z : Int) : Bool:=decide (0≤z)&&(decide (z≤2147483647)&&vals.all valid)
def readyT (vals : List ByteArray) (z : Int) (n : ByteArray) : Int:=if (goodT vals z&&valid n)=true then (if n.toList.isEmpty=true then 11 else 0) else 3
theorem coins_good1 (s : ByteArray) (w : World) : Calls Tryz.prog 162 #[.string s] w fun e w'=>e=.returned (.bool (!valid s))∧w=w':=by
 go_enter Tryz.func162, Tryz.ntmps162
 go_wp2_with (go_at_call 46;refine (natural_Valid _ _).mono ?_;rintro e w' ⟨rfl,rfl⟩)
 go_ret
 exact ⟨rfl,rfl⟩
theorem ls_all_not {ls : List ByteArray} {p : ByteArray→Bool} {k : Nat} (hk : k < ls.length) (h : p (ls.getD k ByteArray.empty)=false) : ls.all p=false:=by
 rw [List.all_eq_false];exact ⟨ls[k],List.getElem_mem hk,by rw [sgetD_lt hk] at h;simp [h]⟩
theorem ls_all_of {ls : List ByteArray} {p : ByteArray→Bool} (h : ∀ j,j < ls.length→p (ls.getD j ByteArray.empty)=true) : ls.all p=true:=by
 rw [List.all_eq_true]
 intro x hx
 obtain ⟨j,hj,rfl⟩:=List.getElem_of_mem hx
 have:=h j hj
 rw [sgetD_lt hj] at this
 exact this
theorem index_valid (ls : List ByteArray) (A : Option Addr) (n c b : Nat) (w : World) (hn : ls.length=n) (hm : n≤100000) (h : SLs w b A ls) :
  Calls Tryz.prog 148 #[.slice A n c,.func (.func 162) #[] #[]] w fun e w'=>(∃ z : Int,e=.returned (.int .i64 z)∧decide (0≤z)=!(ls.all valid))∧w=w':=by
 have HN:=Lib.hid hn
 have HS:=Lib.hid h
 clear hn h
 go_enter Tryz.func148, Tryz.ntmps148
 go_wp2
 go_loop [8] (fun v=>∃ k : Nat,k≤n∧v=.int .i64 k∧∀ j,j < k→valid (ls.getD j ByteArray.empty)=true) (fun v=>n - (intOf v).toNat)
 case atStart=>exact ⟨0,by omega,rfl,fun j h=>absurd h (by omega)⟩
 case round =>
  obtain ⟨k,hk,rfl,hall⟩:=hrel
  have HA:=Lib.hid hall
  clear hall
  by_cases hlt : k < n
  · obtain ⟨ad,rfl,hc⟩:=HS.out.at_ (k:=k) (by rw [HN.out];exact hlt)
    obtain ⟨s,hs⟩ : ∃ s,ls.getD k ByteArray.empty=s:=⟨_,rfl⟩
    rw [hs] at hc
    have HSS:=Lib.hid hs
    clear hs
    cases hv : valid s
    · have HF : Hid (ls.all valid=false):=Lib.hid (ls_all_not (k:=k) (by rw [HN.out];exact hlt) (by rw [HSS.out];exact hv))
      have hck:=coins_good1 s
      rw [hv] at hck
      have HCK:=Lib.hid hck
      clear hck hv
      go_wp2_with (go_at_call 162;refine (HCK.out _).mono ?_;rintro e w' ⟨rfl,rfl⟩)
      go_ret
      refine ⟨⟨(k : Int),rfl,?_⟩,rfl⟩
      rw [HF.out]
      simp
    · have HV:=Lib.hid hv
      clear hv
      have hck:=coins_good1 s
      rw [HV.out] at hck
      have HCK:=Lib.hid hck
      clear hck
      go_wp2_with (go_at_call 162;refine (HCK.out _).mono ?_;rintro e w' ⟨rfl,rfl⟩)
      go_round
      case rel=>exact ⟨k+1,by omega,by go_num,fun j hj=>by
       by_cases e : j=k
       · subst e;rw [HSS.out];exact HV.out
       · exact HA.out j (by omega)⟩
      case measure=>simp [intOf];omega
  · obtain rfl : k=n:=by omega
    have HF : Hid (ls.all valid=true):=Lib.hid (ls_all_of (fun j hj=>HA.out j (by rw [HN.out] at hj;exact hj)))
    go_wp2
    go_ret
    refine ⟨⟨-1,rfl,?_⟩,rfl⟩
    rw [HF.out]
    rfl
theorem contains_valid (ls : List ByteArray) (A : Option Addr) (n c b : Nat) (w : World) (hn : ls.length=n) (hm : n≤100000) (h : SLs w b A ls) :
  Calls Tryz.prog 97 #[.slice A n c,.func (.func 162) #[] #[]] w fun e w'=>e=.returned (.bool (!(ls.all valid)))∧w=w':=by
 have H:=Lib.hid (index_valid ls A n c b w hn hm h)
 clear h
 go_enter Tryz.func97, Tryz.ntmps97
 go_wp2_with (go_at_call 148;refine H.out.mono ?_;rintro e w' ⟨⟨z,rfl,hz⟩,rfl⟩;have HZ:=Lib.hid hz;clear hz)
 go_ret
 exact ⟨ret_bool HZ.out,rfl⟩
theorem coins_good (vals : List ByteArray) (A : Option Addr) (n c b : Nat) (seed : ByteArray) (z : Int) (w : World) (hn : vals.length=n) (hm : n≤100000) (h : SLs w b A vals) (hb : b≤w.heap.size) :
  Calls Tryz.prog 124 #[.agg #[.slice A n c,.string seed,.int .i64 z]] w fun e w'=>e=.returned (.bool (goodT vals z))∧Below w.heap.size w w':=by
 have H:=Lib.hid (contains_valid vals A n c b (w.alloc (.cells #[.slice A n c,.string seed,.int .i64 z] 39)) hn hm (h.next hb ((Below.refl _ _).alloc (Nat.le_refl _) _)))
 have HG : Hid (goodT vals z=(decide (0≤z)&&(decide (z≤2147483647)&&vals.all valid))):=Lib.hid rfl
 clear h
 by_cases h0 : 0≤z
 · by_cases h1 : z≤2147483647
   · cases hv : vals.all valid
     · rw [hv] at H HG
       have HR : Hid (goodT vals z=false):=Lib.hid (by rw [HG.out];simp)
       clear hv HG
       go_enter Tryz.func124, Tryz.ntmps124
       go_wp2_with (go_at_call 97;refine H.out.mono ?_;rintro e w' ⟨rfl,rfl⟩)
       go_ret
       exact ⟨ret_bool HR.out.symm,(Below.refl _ _).alloc (Nat.le_refl _) _⟩
     · rw [hv] at H HG
       have HR : Hid (goodT vals z=true):=Lib.hid (by rw [HG.out];simp [h0,h1])
       clear hv HG
       go_enter Tryz.func124, Tryz.ntmps124
       go_wp2_with (go_at_call 97;refine H.out.mono ?_;rintro e w' ⟨rfl,rfl⟩)
       go_ret
       exact ⟨ret_bool HR.out.symm,(Below.refl _ _).alloc (Nat.le_refl _) _⟩
   · have HR : Hid (goodT vals z=false):=Lib.hid (by rw [HG.out];simp [h1])
     clear HG H
     go_enter Tryz.func124, Tryz.ntmps124
     go_wp2
     go_ret
     exact ⟨ret_bool HR.out.symm,(Below.refl _ _).alloc (Nat.le_refl _) _⟩
 · have HR : Hid (goodT vals z=false):=Lib.hid (by rw [HG.out];simp [h0])
   clear HG H
   go_enter Tryz.func124, Tryz.ntmps124
   go_wp2
   go_ret
   exact ⟨ret_bool HR.out.symm,(Below.refl _ _).alloc (Nat.le_refl _) _⟩
theorem coins_ready (vals : List ByteArray) (A : Option Addr) (n c b : Nat) (seed m : ByteArray) (z : Int) (w : World) (hn : vals.length=n) (hm : n≤100000) (h : SLs w b A vals) (hb : b≤w.heap.size) :
  Calls Tryz.prog 71 #[.agg #[.slice A n c,.string seed,.int .i64 z],.string m] w fun e w'=>e=.returned (.int .i64 (readyT vals z m))∧Below w.heap.size w w':=by
 have hba : Below w.heap.size w (w.alloc (.cells #[.slice A n c,.string seed,.int .i64 z] 39)):=(Below.refl _ _).alloc (Nat.le_refl _) _
 have H:=Lib.hid (coins_good vals A n c b seed z (w.alloc (.cells #[.slice A n c,.string seed,.int .i64 z] 39)) hn hm (h.next hb hba) (Nat.le_trans hb hba.size))
 have HBA:=Lib.hid hba
 have HG : Hid (readyT vals z m=if (goodT vals z&&valid m)=true then (if m.toList.isEmpty=true then 11 else 0) else 3):=Lib.hid rfl
 clear h hba
 cases hg : goodT vals z
 · rw [hg] at H HG
   clear hg
   go_enter Tryz.func71, Tryz.ntmps71
   go_wp2_with (go_at_call 124;refine H.out.mono ?_;rintro e w1 ⟨rfl,hb1⟩;have HB1:=Lib.hid hb1;clear hb1)
   go_ret
   exact ⟨ret_int (by rw [HG.out];rfl),HBA.out.trans (HB1.out.mono HBA.out.size)⟩
 · rw [hg] at H HG
   clear hg
   cases hv : valid m
   · rw [hv] at HG
     have hck:=natural_Valid m
     rw [hv] at hck
     have HCK:=Lib.hid hck
     clear hck hv
     go_enter Tryz.func71, Tryz.ntmps71
     go_wp2_with (first | (go_at_call 124;refine H.out.mono ?_;rintro e w1 ⟨rfl,hb1⟩;have HB1:=Lib.hid hb1;clear hb1) | (go_at_call 46;refine (HCK.out _).mono ?_;rintro e w' ⟨rfl,rfl⟩))
     go_ret
     exact ⟨ret_int (by rw [HG.out];rfl),HBA.out.trans (HB1.out.mono HBA.out.size)⟩
   · rw [hv] at HG
     have hck:=natural_Valid m
     rw [hv] at hck
     have HCK:=Lib.hid hck
     clear hck hv
     cases he : m.toList.isEmpty
     · rw [he] at HG
       go_enter Tryz.func71, Tryz.ntmps71
       go_wp2_with (first | (go_at_call 124;refine H.out.mono ?_;rintro e w1 ⟨rfl,hb1⟩;have HB1:=Lib.hid hb1;clear hb1) | (go_at_call 46;refine (HCK.out _).mono ?_;rintro e w' ⟨rfl,rfl⟩))
       go_ret
       exact ⟨ret_int (by rw [HG.out];rfl),HBA.out.trans (HB1.out.mono HBA.out.size)⟩
     · rw [he] at HG
       go_enter Tryz.func71, Tryz.ntmps71
       go_wp2_with (first | (go_at_call 124;refine H.out.mono ?_;rintro e w1 ⟨rfl,hb1⟩;have HB1:=Lib.hid hb1;clear hb1) | (go_at_call 46;refine (HCK.out _).mono ?_;rintro e w' ⟨rfl,rfl⟩))
       go_ret
       exact ⟨ret_int (by rw [HG.out];rfl),HBA.out.trans (HB1.out.mono HBA.out.size)⟩
end Go.Proofs.YtgkggkpighpdiaaGreatDoor
namespace Go.Proofs.YtgkggkpighpdiaaGreatDoor
open Go.RowKit
set_option linter.unusedVariables false
end Go.Proofs.YtgkggkpighpdiaaGreatDoor
namespace Go.Proofs.YtgkggkpighpdiaaGreatDoor
open Go.RowKit Go.Shelf
set_option maxRecDepth 100000
set_option linter.unusedVariables false
set_option maxHeartbeats 8000000
attribute [local go_sem] Oper.semAt_some
def Tab10 (w : World) : Prop:=Lib.TabIs Tryz.prog w "internal/strconv.uint64pow10" .u64 Lib.pow10Tab
theorem globalNamed10 : Tryz.prog.globalNamed "internal/strconv.uint64pow10"=some 4:=by kernel_rfl
theorem Tab10.below {w w' : World} (h : Tab10 w) (hb : Below w.heap.size w w') : Tab10 w':=by
 unfold Tab10 Lib.TabIs World.var? at h ⊢
 rw [globalNamed10] at h ⊢
 simp only [Option.bind_some] at h ⊢
 have hlt : 4 < w.heap.size:=by
  rcases Nat.lt_or_ge 4 w.heap.size with h' | h'
  · exact h'
  · rw [Array.getElem?_eq_none h'] at h;cases h
 rw [hb.block _ hlt]
 exact h
def itS (z : Int) : ByteArray:=⟨(Lib.itoa z).toArray⟩
def nameS (z a b : Int) : ByteArray:=itS z++⟨#[46]⟩++itS a++⟨#[46]⟩++itS b
end Go.Proofs.YtgkggkpighpdiaaGreatDoor
namespace Go.Proofs.YtgkggkpighpdiaaGreatDoor
open Go.RowKit Go.Shelf
set_option maxRecDepth 100000
set_option linter.unusedVariables false
set_option maxHeartbeats 4000000
attribute [local go_sem] Oper.semAt_some
def blockL (seed : ByteArray) (z a : Int) : List UInt8:=(macS seed (nameS z a 0)).data.toList
def attN (seed : ByteArray) (z a : Int) (len : Nat) : Nat:=val ((blockL seed z a).take ((len+7) / 8)) % 2 ^ len
theorem keeps_below' {W W' : World} (h : Below W.heap.size W W') : KeepsOthers W W' :=
 ⟨h.size,fun k o hk _=>(h.block k (Array.getElem?_eq_some_iff.1 hk).1).trans hk⟩
theorem put_cell {W : World} {l k j : Nat} {o' : Obj} (h : k≠l) : (W.putObj l o').cell? ⟨k,j,none⟩=W.cell? ⟨k,j,none⟩:=World.cell?_of_block (World.putObj_heap_other h)
theorem put_frozen {W : World} {l k j : Nat} {o' : Obj} (h : k≠l) : (W.putObj l o').frozen? ⟨k,j,none⟩=W.frozen? ⟨k,j,none⟩:=World.frozen?_of_block (World.putObj_heap_other h)
theorem put_below {B : Nat} {w W : World} {l : Nat} {o o' : Obj} (h : Below B w W) (hB : B≤l) (hl : W.heap[l]?=some o) (hw : B≤w.heap.size) : Below B w (W.putObj l o') :=
 h.grown (grownBy_putObj' W l o') (Nat.le_trans hw h.size) (fun k e=>by cases e;exact hB)
theorem put_own {W : World} {base n l : Nat} {v : Value} {L : List UInt8} {o o' : Obj} (h : OwnB W base v n L) (hl : W.heap[l]?=some o) (ho : o.isCells=false) : OwnB (W.putObj l o') base v n L:=by
 refine ⟨h.1,h.2.1,?_⟩
 rcases h.2.2 with hn | ⟨g,cap,cur,rfl,h1,hg,rest⟩
 · exact .inl hn
 · refine .inr ⟨g,cap,cur,rfl,h1,?_,rest⟩
   have hne : g≠l:=by
    intro e
    subst e
    rw [hg] at hl
    cases hl
    cases ho
   rw [World.putObj_heap_other hne]
   exact hg
theorem put_size {W : World} {l : Nat} {o' : Obj} : (W.putObj l o').heap.size=W.heap.size:=by simp [World.putObj]
theorem OwnB.setCell {w : World} {base n : Nat} {v u : Value} {L : List UInt8} {p : Addr} (h : OwnB w base v n L) (hp : p.block < base) : OwnB (w.setCell p u) base v n L:=by
 refine ⟨h.1,h.2.1,?_⟩
 rcases h.2.2 with hn | ⟨g,cap,cur,rfl,h1,hg,rest⟩
 · exact .inl hn
 · exact .inr ⟨g,cap,cur,rfl,h1,(Below.heap_setCell w p u g (by omega)).trans hg,rest⟩
theorem OwnB.free {w : World} {base n g c : Nat} {L : List UInt8} (h : OwnB w base (.slice (some ⟨g,0,none⟩) n c) n L) (hn : 0 < n) (k : Nat) : w.frozen? ⟨g,k,none⟩=false:=by
 rcases h.2.2 with ⟨hn,_⟩ | ⟨g',cap,cur,hv,h1,hg,rest⟩
 · cases hn
 · injection hv with e1 e2 e3
   injection e1 with e1
   injection e1 with e1
   subst e1
   simp [World.frozen?,hg]
structure AtI (w W : World) (size : Nat) : Prop where
 cs : W.cell? ⟨w.heap.size+1,0,none⟩=some (.int .i64 size)
 co : W.cell? ⟨w.heap.size+2,0,none⟩=some (.slice none 0 0)
 fo : W.frozen? ⟨w.heap.size+2,0,none⟩=false
 bel : Below w.heap.size w W
 sz : w.heap.size+5≤W.heap.size
structure AtX (w W : World) (size : Nat) (L : List UInt8) : Prop where
 cs : W.cell? ⟨w.heap.size+1,0,none⟩=some (.int .i64 size)
 co : ∃ v,W.cell? ⟨w.heap.size+2,0,none⟩=some v∧OwnB W (w.heap.size+5) v 32 L
 fo : W.frozen? ⟨w.heap.size+2,0,none⟩=false
 bel : Below w.heap.size w W
 sz : w.heap.size+5≤W.heap.size
theorem AtI.next {w W W' : World} {size : Nat} (h : AtI w W size) (hb : Below W.heap.size W W') : AtI w W' size :=
 ⟨(hb.cell (p:=⟨w.heap.size+1,0,none⟩) (by have:=h.sz;show w.heap.size+1 < _;omega)).trans h.cs,(hb.cell (p:=⟨w.heap.size+2,0,none⟩) (by have:=h.sz;show w.heap.size+2 < _;omega)).trans h.co,
   (hb.frozen (p:=⟨w.heap.size+2,0,none⟩) (by have:=h.sz;show w.heap.size+2 < _;omega)).trans h.fo,h.bel.trans (hb.mono (by have:=h.sz;omega)),Nat.le_trans h.sz hb.size⟩
theorem AtI.put {w W : World} {size l : Nat} {o o' : Obj} (h : AtI w W size) (hl : w.heap.size+5≤l) (ho : W.heap[l]?=some o) : AtI w (W.putObj l o') size :=
 ⟨(put_cell (by omega)).trans h.cs,(put_cell (by omega)).trans h.co,(put_frozen (by omega)).trans h.fo,put_below h.bel (by omega) ho (Nat.le_refl _),by rw [put_size];exact h.sz⟩
theorem AtX.put {w W : World} {size l : Nat} {L : List UInt8} {o o' : Obj} (h : AtX w W size L) (hl : w.heap.size+5≤l) (ho : W.heap[l]?=some o) (hc : o.isCells=false) : AtX w (W.putObj l o') size L:=by
 obtain ⟨v,hv,hown⟩:=h.co
 exact ⟨(put_cell (by omega)).trans h.cs,⟨v,(put_cell (by omega)).trans hv,put_own hown ho hc⟩,(put_frozen (by omega)).trans h.fo,put_below h.bel (by omega) ho (Nat.le_refl _),by rw [put_size];exact h.sz⟩
end Go.Proofs.YtgkggkpighpdiaaGreatDoor
namespace Go.Proofs.YtgkggkpighpdiaaGreatDoor
open Go.RowKit
set_option maxRecDepth 100000
set_option linter.unusedVariables false
set_option maxHeartbeats 4000000
def tryF (seed : ByteArray) (z : Int) (m : Nat) : Option Nat:=(List.range 256).findSome? fun (a : Nat)=>if attN seed z a (bitsN m) < m then some (attN seed z a (bitsN m)) else none
def drawS (vals : List ByteArray) (seed : ByteArray) (z : Int) (m : Nat) : Int × Nat :=
 if z < vals.length then (if m≤num (vals.getD z.toNat ByteArray.empty) then (2,0) else (0,num (vals.getD z.toNat ByteArray.empty)))
 else if seed.toList.isEmpty=true∨z=2147483647 then (14,0)
 else match tryF seed z m with
  | some x=>(0,x)
  | none=>(14,0)
theorem madeCells_strs (n : Nat) : madeCells #[Value.string ByteArray.empty] n=(List.replicate n (Value.string ByteArray.empty)).toArray:=by
 apply Array.ext
 · simp [madeCells]
 · intro i h1 h2
   simp [madeCells,Nat.mod_one]
theorem make_strs (n : Nat) (h : n≤1000000) (w : World) : (Instr.makeSlice 31 (.int .i64 (n : Int)) (.int .i64 (n : Int))).run Tryz.prog w =
  .ok (.slice (some ⟨w.heap.size,0,none⟩) n n) (w.alloc (.cells (List.replicate n (Value.string ByteArray.empty)).toArray 22)):=by
 rw [← madeCells_strs]
 exact run_make_row' 31 22 (.string ByteArray.empty) 16 Tryz.underlying31 nat_info rfl .i64 .i64 n (by omega) (by omega) w
theorem world_on {α : Exit→Act→World→Prop} {e : Exit} {a : Act} {WX : World} (R : World→Prop) (hR : R WX) (h : ∀ wx,R wx→α e a wx) : α e a WX:=h WX hR
structure AtD (w wx : World) (gb gs : Nat) (A : Option Addr) (n c : Nat) (seed : ByteArray) (z : Int) (ls : List Value) : Prop where
 t0 : wx.cell? ⟨w.heap.size,0,none⟩=some (.slice A n c)
 t1 : wx.cell? ⟨w.heap.size,1,none⟩=some (.string seed)
 t2 : wx.cell? ⟨w.heap.size,2,none⟩=some (.int .i64 z)
 r : wx.heap[w.heap.size+1]?=some (.cells #[.slice none 0 0,.string ⟨#[]⟩,.int .i64 0] 39 (0,0))
 b : wx.heap[gb]?=some (.cells #[.slice (some ⟨gs,0,none⟩) n n,.string seed,.int .i64 (z+1)] 39 (0,0))
 s : wx.heap[gs]?=some (.cells ls.toArray 22 (0,0))
 hb : w.heap.size+2≤gb
 hs : w.heap.size+2≤gs
 ne : gb≠gs
 bel : Below w.heap.size w wx
theorem AtD.b0 {w wx : World} {gb gs n c : Nat} {A : Option Addr} {seed : ByteArray} {z : Int} {ls : List Value} (h : AtD w wx gb gs A n c seed z ls) :
  wx.cell? ⟨gb,0,none⟩=some (.slice (some ⟨gs,0,none⟩) n n)∧wx.cell? ⟨gb,1,none⟩=some (.string seed)∧wx.cell? ⟨gb,2,none⟩=some (.int .i64 (z+1)):=by
 simp [World.cell?,h.b]
theorem AtD.r0 {w wx : World} {gb gs n c : Nat} {A : Option Addr} {seed : ByteArray} {z : Int} {ls : List Value} (h : AtD w wx gb gs A n c seed z ls) :
  wx.cell? ⟨w.heap.size+1,0,none⟩=some (.slice none 0 0)∧wx.cell? ⟨w.heap.size+1,1,none⟩=some (.string ⟨#[]⟩)∧wx.cell? ⟨w.heap.size+1,2,none⟩=some (.int .i64 0)∧(∀ k,wx.frozen? ⟨w.heap.size+1,k,none⟩=false):=by
 refine ⟨?_,?_,?_,fun k=>?_⟩<;>simp [World.cell?,World.frozen?,h.r]
theorem AtD.row {w wx : World} {gb gs n c : Nat} {A : Option Addr} {seed : ByteArray} {z : Int} {vals : List ByteArray} (h : AtD w wx gb gs A n c seed z (vals.map Value.string)) : SRow wx gs vals:=by
 intro j hj
 simp only [World.cell?,h.s]
 simp [List.getD,hj]
theorem AtD.lt {w wx : World} {gb gs n c : Nat} {A : Option Addr} {seed : ByteArray} {z : Int} {ls : List Value} (h : AtD w wx gb gs A n c seed z ls) : gs < wx.heap.size:=(Array.getElem?_eq_some_iff.1 h.s).1
theorem AtD.copied {w wx : World} {gb gs n c : Nat} {A : Option Addr} {seed : ByteArray} {z : Int} {ls ms : List Value} (h : AtD w wx gb gs A n c seed z ls) : AtD w (wx.setRow gs ms.toArray) gb gs A n c seed z ms:=by
 have hX : w.heap.size≠gs:=by have:=h.hs;omega
 have hX1 : w.heap.size+1≠gs:=by have:=h.hs;omega
 refine ⟨?_,?_,?_,(setRow_other wx gs _ _ hX1).trans h.r,(setRow_other wx gs _ _ h.ne).trans h.b,setRow_heap wx gs _ _ _ _ h.s,h.hb,h.hs,h.ne,below_setRow h.bel (by have:=h.hs;omega) _⟩
 · exact (World.cell?_of_block (setRow_other wx gs _ _ hX)).trans h.t0
 · exact (World.cell?_of_block (setRow_other wx gs _ _ hX)).trans h.t1
 · exact (World.cell?_of_block (setRow_other wx gs _ _ hX)).trans h.t2
theorem new4 (w : World) (a b c d : Obj) : ((((w.alloc a).alloc b).alloc c).alloc d).drew.heap[w.heap.size+1]?=some b∧((((w.alloc a).alloc b).alloc c).alloc d).drew.heap[w.heap.size+1+1]?=some c∧((((w.alloc a).alloc b).alloc c).alloc d).drew.heap[w.heap.size+1+1+1]?=some d:=by
 have h2 : ((w.alloc a).alloc b).heap[w.heap.size+1]?=some b:=by have:=heap_alloc_new (w.alloc a) b;rwa [World.size_alloc] at this
 have h3 : (((w.alloc a).alloc b).alloc c).heap[w.heap.size+1+1]?=some c:=by have:=heap_alloc_new ((w.alloc a).alloc b) c;rwa [World.size_alloc,World.size_alloc] at this
 have h4 : ((((w.alloc a).alloc b).alloc c).alloc d).heap[w.heap.size+1+1+1]?=some d:=by have:=heap_alloc_new (((w.alloc a).alloc b).alloc c) d;rwa [World.size_alloc,World.size_alloc,World.size_alloc] at this
 exact ⟨(Below.heap_alloc _ _ _ (by simp)).trans ((Below.heap_alloc _ _ _ (by simp)).trans h2),(Below.heap_alloc _ _ _ (by simp)).trans h3,h4⟩
theorem atD_A (w : World) (A : Option Addr) (n c : Nat) (seed : ByteArray) (z : Int) (hz : IntKind.i64.wrap (z+1)=z+1) :
  AtD w ((((w.alloc (.cells #[.slice A n c,.string seed,.int .i64 z] 39)).alloc (.cells #[.slice none 0 0,.string ⟨#[]⟩,.int .i64 0] 39)).alloc (.cells #[.slice (some ⟨w.heap.size+1+1+1,0,none⟩) n n,.string seed,.int .i64 (z+1)] 39)).alloc (.cells (Array.replicate n (.string ByteArray.empty)) 22)).drew
   (w.heap.size+1+1) (w.heap.size+1+1+1) A n c seed z (List.replicate n (.string ByteArray.empty)):=by
 have hb : Below w.heap.size w ((((w.alloc (.cells #[.slice A n c,.string seed,.int .i64 z] 39)).alloc (.cells #[.slice none 0 0,.string ⟨#[]⟩,.int .i64 0] 39)).alloc (.cells #[.slice (some ⟨w.heap.size+1+1+1,0,none⟩) n n,.string seed,.int .i64 (z+1)] 39)).alloc (.cells (Array.replicate n (.string ByteArray.empty)) 22)).drew :=
  (((((Below.refl _ _).alloc (Nat.le_refl _) _).alloc (by simp) _).alloc (by simp;omega) _).alloc (by simp;omega) _).drew
 exact ⟨by simp [go_sem],by simp [go_sem],by simp [go_sem],(new4 w _ _ _ _).1,(new4 w _ _ _ _).2.1,(new4 w _ _ _ _).2.2,by omega,by omega,by omega,hb⟩
theorem atD_B (w : World) (A : Option Addr) (n c : Nat) (seed : ByteArray) (z : Int) (hz : IntKind.i64.wrap (z+1)=z+1) :
  AtD w ((((w.alloc (.cells #[.slice A n c,.string seed,.int .i64 z] 39)).alloc (.cells #[.slice none 0 0,.string ⟨#[]⟩,.int .i64 0] 39)).alloc (.cells (Array.replicate n (.string ByteArray.empty)) 22)).alloc (.cells #[.slice (some ⟨w.heap.size+1+1,0,none⟩) n n,.string seed,.int .i64 (z+1)] 39)).drew
   (w.heap.size+1+1+1) (w.heap.size+1+1) A n c seed z (List.replicate n (.string ByteArray.empty)):=by
 have hb : Below w.heap.size w ((((w.alloc (.cells #[.slice A n c,.string seed,.int .i64 z] 39)).alloc (.cells #[.slice none 0 0,.string ⟨#[]⟩,.int .i64 0] 39)).alloc (.cells (Array.replicate n (.string ByteArray.empty)) 22)).alloc (.cells #[.slice (some ⟨w.heap.size+1+1,0,none⟩) n n,.string seed,.int .i64 (z+1)] 39)).drew :=
  (((((Below.refl _ _).alloc (Nat.le_refl _) _).alloc (by simp) _).alloc (by simp;omega) _).alloc (by simp;omega) _).drew
 exact ⟨by simp [go_sem],by simp [go_sem],by simp [go_sem],(new4 w _ _ _ _).1,(new4 w _ _ _ _).2.2,(new4 w _ _ _ _).2.1,by omega,by omega,by omega,hb⟩
theorem copy_row (n : Nat) (e : Value) (L : List Value) (h : L.length=n) : ((List.replicate n e).toArray.toList.take 0++(L++(List.replicate n e).toArray.toList.drop (0+L.length)))=L:=by
 rw [List.take_zero,List.nil_append,Nat.zero_add,h]
 simp
theorem hop3 {w : World} {r : Nat} {x y z : Value} {a : Addr} {u : Option Value} (h : r≠a.block) (hc : w.cell? a=u) : (((w.setCell ⟨r,0,none⟩ x).setCell ⟨r,1,none⟩ y).setCell ⟨r,2,none⟩ z).drew.cell? a=u:=by
 have h' : ∀ k,(⟨r,k,none⟩ : Addr)≠a:=fun k e=>h (by rw [← e])
 exact (World.cell?_setCell_other _ _ _ _ (h' 2)).trans ((World.cell?_setCell_other _ _ _ _ (h' 1)).trans ((World.cell?_setCell_other _ _ _ _ (h' 0)).trans hc))
theorem some3 {w : World} {r : Nat} {x y z : Value} {a : Addr} (h : ∃ u,w.cell? a=some u) : ∃ u,(((w.setCell ⟨r,0,none⟩ x).setCell ⟨r,1,none⟩ y).setCell ⟨r,2,none⟩ z).drew.cell? a=some u:=by
 obtain ⟨u,hu⟩:=h
 obtain ⟨u1,h1⟩ : ∃ u1,(w.setCell ⟨r,0,none⟩ x).cell? a=some u1:=cell?_setCell_some hu
 obtain ⟨u2,h2⟩ : ∃ u2,((w.setCell ⟨r,0,none⟩ x).setCell ⟨r,1,none⟩ y).cell? a=some u2:=cell?_setCell_some h1
 obtain ⟨u3,h3⟩ : ∃ u3,(((w.setCell ⟨r,0,none⟩ x).setCell ⟨r,1,none⟩ y).setCell ⟨r,2,none⟩ z).cell? a=some u3:=cell?_setCell_some h2
 exact ⟨u3,h3⟩
theorem free3 {w : World} {r : Nat} {x y z : Value} {a : Addr} {b : Bool} (h : w.frozen? a=b) : (((w.setCell ⟨r,0,none⟩ x).setCell ⟨r,1,none⟩ y).setCell ⟨r,2,none⟩ z).drew.frozen? a=b :=
 (World.frozen?_setCell _ _ _ _).trans ((World.frozen?_setCell _ _ _ _).trans ((World.frozen?_setCell _ _ _ _).trans h))
theorem str_ones (l : List ByteArray) : ∀ v ∈ l.map Value.string,v.oneCell'=true:=by
 intro v hv
 obtain ⟨n,_,rfl⟩:=List.mem_map.mp hv
 rfl
theorem src_cells {w wx : World} {ad : Addr} {vals : List ByteArray} (hb : Below w.heap.size w wx) (had : ad.block < w.heap.size) (h : ∀ j,j < vals.length→w.cell? (ad.add j)=some (.string (vals.getD j ByteArray.empty))) :
  ∀ j v,(vals.map Value.string)[j]?=some v→wx.cell? (ad.add j)=some v:=by
 intro j v hv
 rw [List.getElem?_map,Option.map_eq_some_iff] at hv
 obtain ⟨x,hx,rfl⟩:=hv
 have hj:=(List.getElem?_eq_some_iff.1 hx).1
 rw [hb.cell (by rw [block_of_add];exact had),h j hj,sgetD_lt hj,(List.getElem?_eq_some_iff.1 hx).2]
theorem AtD.stored {w w6 : World} {gb gs n c : Nat} {ad p : Addr} {seed : ByteArray} {z : Int} {ls : List Value} {u x y t : Value} (h : AtD w w6 gb gs (some ad) n c seed z ls) (hp : p.block < w.heap.size) (hsrc : w6.cell? p=some u) :
  (((w6.setCell ⟨w.heap.size+1,0,none⟩ x).setCell ⟨w.heap.size+1,1,none⟩ y).setCell ⟨w.heap.size+1,2,none⟩ t).drew.cell? ⟨w.heap.size,0,none⟩=some (.slice (some ad) n c) ∧
  (((w6.setCell ⟨w.heap.size+1,0,none⟩ x).setCell ⟨w.heap.size+1,1,none⟩ y).setCell ⟨w.heap.size+1,2,none⟩ t).drew.cell? ⟨w.heap.size,2,none⟩=some (.int .i64 z) ∧
  (((w6.setCell ⟨w.heap.size+1,0,none⟩ x).setCell ⟨w.heap.size+1,1,none⟩ y).setCell ⟨w.heap.size+1,2,none⟩ t).drew.cell? p=some u ∧
  (((w6.setCell ⟨w.heap.size+1,0,none⟩ x).setCell ⟨w.heap.size+1,1,none⟩ y).setCell ⟨w.heap.size+1,2,none⟩ t).drew.cell? ⟨gb,0,none⟩=some (.slice (some ⟨gs,0,none⟩) n n) ∧
  (((w6.setCell ⟨w.heap.size+1,0,none⟩ x).setCell ⟨w.heap.size+1,1,none⟩ y).setCell ⟨w.heap.size+1,2,none⟩ t).drew.cell? ⟨gb,1,none⟩=some (.string seed) ∧
  (((w6.setCell ⟨w.heap.size+1,0,none⟩ x).setCell ⟨w.heap.size+1,1,none⟩ y).setCell ⟨w.heap.size+1,2,none⟩ t).drew.cell? ⟨gb,2,none⟩=some (.int .i64 (z+1)) ∧
  (∃ u,(((w6.setCell ⟨w.heap.size+1,0,none⟩ x).setCell ⟨w.heap.size+1,1,none⟩ y).setCell ⟨w.heap.size+1,2,none⟩ t).drew.cell? ⟨w.heap.size+1,0,none⟩=some u) ∧
  (∃ u,(((w6.setCell ⟨w.heap.size+1,0,none⟩ x).setCell ⟨w.heap.size+1,1,none⟩ y).setCell ⟨w.heap.size+1,2,none⟩ t).drew.cell? ⟨w.heap.size+1,1,none⟩=some u) ∧
  (∃ u,(((w6.setCell ⟨w.heap.size+1,0,none⟩ x).setCell ⟨w.heap.size+1,1,none⟩ y).setCell ⟨w.heap.size+1,2,none⟩ t).drew.cell? ⟨w.heap.size+1,2,none⟩=some u) ∧
  (((w6.setCell ⟨w.heap.size+1,0,none⟩ x).setCell ⟨w.heap.size+1,1,none⟩ y).setCell ⟨w.heap.size+1,2,none⟩ t).drew.frozen? ⟨w.heap.size+1,0,none⟩=false ∧
  (((w6.setCell ⟨w.heap.size+1,0,none⟩ x).setCell ⟨w.heap.size+1,1,none⟩ y).setCell ⟨w.heap.size+1,2,none⟩ t).drew.frozen? ⟨w.heap.size+1,1,none⟩=false ∧
  (((w6.setCell ⟨w.heap.size+1,0,none⟩ x).setCell ⟨w.heap.size+1,1,none⟩ y).setCell ⟨w.heap.size+1,2,none⟩ t).drew.frozen? ⟨w.heap.size+1,2,none⟩=false:=by
 obtain ⟨v0,v1,v2⟩:=h.b0
 obtain ⟨r0,r1,r2,rf⟩:=h.r0
 have hb:=h.hb
 have nX : w.heap.size+1≠w.heap.size:=by omega
 have nb : w.heap.size+1≠gb:=by omega
 exact ⟨hop3 nX h.t0,hop3 nX h.t2,hop3 (by omega) hsrc,hop3 nb v0,hop3 nb v1,hop3 nb v2,some3 ⟨_,r0⟩,some3 ⟨_,r1⟩,some3 ⟨_,r2⟩,free3 (rf 0),free3 (rf 1),free3 (rf 2)⟩
theorem AtD.res {w w6 : World} {gb gs n c : Nat} {A : Option Addr} {seed : ByteArray} {z : Int} {vals : List ByteArray} {x y t : Value} (h : AtD w w6 gb gs A n c seed z (vals.map Value.string)) :
  SLs (((w6.setCell ⟨w.heap.size+1,0,none⟩ x).setCell ⟨w.heap.size+1,1,none⟩ y).setCell ⟨w.heap.size+1,2,none⟩ t).drew (((w6.setCell ⟨w.heap.size+1,0,none⟩ x).setCell ⟨w.heap.size+1,1,none⟩ y).setCell ⟨w.heap.size+1,2,none⟩ t).drew.heap.size (some ⟨gs,0,none⟩) vals ∧
  Below w.heap.size w (((w6.setCell ⟨w.heap.size+1,0,none⟩ x).setCell ⟨w.heap.size+1,1,none⟩ y).setCell ⟨w.heap.size+1,2,none⟩ t).drew:=by
 have hs:=h.hs
 have le : w.heap.size≤w.heap.size+1:=Nat.le_succ _
 refine ⟨SLs.of_row (fun j hj=>hop3 (by show w.heap.size+1≠gs;omega) (h.row j hj)) ?_,(((h.bel.setCell (p:=⟨w.heap.size+1,0,none⟩) le x).setCell (p:=⟨w.heap.size+1,1,none⟩) le y).setCell (p:=⟨w.heap.size+1,2,none⟩) le t).drew⟩
 have:=h.lt
 simpa [World.drew] using this
end Go.Proofs.YtgkggkpighpdiaaGreatDoor
namespace Go.Proofs.YtgkggkpighpdiaaGreatDoor
open Go.RowKit
set_option maxRecDepth 100000
set_option linter.unusedVariables false
set_option maxHeartbeats 4000000
theorem below_res (w : World) (a b : Obj) : Below w.heap.size w ((w.alloc a).alloc b):=((Below.refl _ _).alloc (Nat.le_refl _) _).alloc (by simp) _
theorem draw_high (vals : List ByteArray) (A : Option Addr) (n c : Nat) (seed : ByteArray) (k v m : Nat) (w : World) (hn : vals.length=n) (hm : n≤1000) (h : SLs w w.heap.size A vals) (hk : k < n)
  (hv : vals.getD k ByteArray.empty=B v) (hv1 : v < lim) (hvm : m≤v) (hm1 : m < 18446744073709551616) :
  Calls Tryz.prog 72 #[.agg #[.slice A n c,.string seed,.int .i64 k],.string (B m)] w fun e w'=>e=.returned (.tuple #[.string ⟨#[]⟩,.agg #[.slice none 0 0,.string ⟨#[]⟩,.int .i64 0],.int .i64 2])∧Below w.heap.size w w':=by
 obtain ⟨ad,rfl,hadb,hall⟩:=h (by intro e;rw [e] at hn;simp at hn;omega)
 have hc0:=hall k (by omega)
 rw [hv] at hc0
 have hc1 : ((w.alloc (.cells #[.slice (some ad) n c,.string seed,.int .i64 k] 39)).alloc (.cells #[.slice none 0 0,.string ⟨#[]⟩,.int .i64 0] 39)).cell? (ad.add k)=some (.string (B v)):=by
  rw [World.cell?_alloc_lt _ _ _ (by rw [block_of_add];simp;omega),World.cell?_alloc_lt _ _ _ (by rw [block_of_add];exact hadb)]
  exact hc0
 have i0 : (0 : Int)≤(k : Int):=by omega
 have i1 : (k : Int) < (n : Int):=by omega
 have KC:=Lib.hid (fun w=>natural_Cmp (B v) (B m) w)
 rw [natCmp_BB hv1 (Nat.lt_trans hm1 (by decide))] at KC
 obtain ⟨y,hy,hy0⟩ : ∃ y : Int,cmpN v m=y∧0≤y:=⟨_,rfl,by unfold cmpN;rw [if_neg (by omega)];split<;>decide⟩
 rw [hy] at KC
 clear hy hall hn hc0 hv
 go_enter Tryz.func72, Tryz.ntmps72
 go_wp2_with (first | (go_at_call 43;(with_reducible refine (KC.out _).mono ?_);rintro e w1 ⟨rfl,rfl⟩))
 exact bodyPost_ret (v:=.tuple #[.string ⟨#[]⟩,.agg #[.slice none 0 0,.string ⟨#[]⟩,.int .i64 0],.int .i64 2]) (by simp [results,Tryz.results72,go_sem]) rfl ⟨rfl,below_res w _ _⟩
theorem draw_none (vals : List ByteArray) (A : Option Addr) (n c : Nat) (seed : ByteArray) (z : Int) (m : Nat) (w : World) (hm : n≤1000) (hz : (n : Int)≤z) (hs : seed.toList.isEmpty=true∨z=2147483647) :
  Calls Tryz.prog 72 #[.agg #[.slice A n c,.string seed,.int .i64 z],.string (B m)] w fun e w'=>e=.returned (.tuple #[.string ⟨#[]⟩,.agg #[.slice none 0 0,.string ⟨#[]⟩,.int .i64 0],.int .i64 14])∧Below w.heap.size w w':=by
 have i1 : ¬ z < (n : Int):=by omega
 have i2 : (n : Int)≤z:=hz
 cases he : seed.toList.isEmpty
 · have hz2 : z=2147483647:=by rcases hs with h | h;· rw [he] at h;cases h
                               · exact h
   subst hz2
   go_enter Tryz.func72, Tryz.ntmps72
   go_wp2
   exact bodyPost_ret (v:=.tuple #[.string ⟨#[]⟩,.agg #[.slice none 0 0,.string ⟨#[]⟩,.int .i64 0],.int .i64 14]) (by simp [results,Tryz.results72,go_sem]) rfl ⟨rfl,below_res w _ _⟩
 · go_enter Tryz.func72, Tryz.ntmps72
   go_wp2
   exact bodyPost_ret (v:=.tuple #[.string ⟨#[]⟩,.agg #[.slice none 0 0,.string ⟨#[]⟩,.int .i64 0],.int .i64 14]) (by simp [results,Tryz.results72,go_sem]) rfl ⟨rfl,below_res w _ _⟩
end Go.Proofs.YtgkggkpighpdiaaGreatDoor
namespace Go.Proofs.YtgkggkpighpdiaaGreatDoor
open Go.RowKit
set_option maxRecDepth 100000
set_option linter.unusedVariables false
set_option maxHeartbeats 4000000
theorem AtD.next {w wx wy : World} {gb gs n c : Nat} {A : Option Addr} {seed : ByteArray} {z : Int} {ls : List Value} (h : AtD w wx gb gs A n c seed z ls) (hb : Below wx.heap.size wx wy) : AtD w wy gb gs A n c seed z ls:=by
 have lb : gb < wx.heap.size:=(Array.getElem?_eq_some_iff.1 h.b).1
 have lr : w.heap.size+1 < wx.heap.size:=(Array.getElem?_eq_some_iff.1 h.r).1
 exact ⟨(hb.cell (p:=⟨w.heap.size,0,none⟩) (by show w.heap.size < _;omega)).trans h.t0,(hb.cell (p:=⟨w.heap.size,1,none⟩) (by show w.heap.size < _;omega)).trans h.t1,(hb.cell (p:=⟨w.heap.size,2,none⟩) (by show w.heap.size < _;omega)).trans h.t2,
  (hb.block _ lr).trans h.r,(hb.block _ lb).trans h.b,(hb.block _ h.lt).trans h.s,h.hb,h.hs,h.ne,h.bel.trans (hb.mono (by have:=h.bel.size;omega))⟩
theorem AtD.bel3 {w w6 : World} {gb gs n c : Nat} {A : Option Addr} {seed : ByteArray} {z : Int} {ls : List Value} {x y t : Value} (h : AtD w w6 gb gs A n c seed z ls) :
  Below w.heap.size w (((w6.setCell ⟨w.heap.size+1,0,none⟩ x).setCell ⟨w.heap.size+1,1,none⟩ y).setCell ⟨w.heap.size+1,2,none⟩ t):=by
 have le : w.heap.size≤w.heap.size+1:=Nat.le_succ _
 exact ((h.bel.setCell (p:=⟨w.heap.size+1,0,none⟩) le x).setCell (p:=⟨w.heap.size+1,1,none⟩) le y).setCell (p:=⟨w.heap.size+1,2,none⟩) le t
end Go.Proofs.YtgkggkpighpdiaaGreatDoor
namespace Go.Proofs.YtgkggkpighpdiaaGreatDoor
open Go.RowKit
set_option maxRecDepth 100000
set_option linter.unusedVariables false
set_option maxHeartbeats 4000000
theorem good_parts {vals : List ByteArray} {z : Int} (h : goodT vals z=true) : 0≤z∧z≤2147483647∧vals.all valid=true:=by
 unfold goodT at h
 simpa using h
structure AtB (w wx : World) (A : Option Addr) (n c : Nat) (seed : ByteArray) (z : Int) : Prop where
 t0 : wx.cell? ⟨w.heap.size,0,none⟩=some (.slice A n c)
 t1 : wx.cell? ⟨w.heap.size,1,none⟩=some (.string seed)
 t2 : wx.cell? ⟨w.heap.size,2,none⟩=some (.int .i64 z)
 r : wx.heap[w.heap.size+1]?=some (.cells #[.slice none 0 0,.string ⟨#[]⟩,.int .i64 0] 39 (0,0))
 bel : Below w.heap.size w wx
theorem AtB.start (w : World) (A : Option Addr) (n c : Nat) (seed : ByteArray) (z : Int) : AtB w ((w.alloc (.cells #[.slice A n c,.string seed,.int .i64 z] 39)).alloc (.cells #[.slice none 0 0,.string ⟨#[]⟩,.int .i64 0] 39)) A n c seed z :=
 ⟨by simp [go_sem],by simp [go_sem],by simp [go_sem],by have:=heap_alloc_new (w.alloc (.cells #[.slice A n c,.string seed,.int .i64 z] 39)) (.cells #[.slice none 0 0,.string ⟨#[]⟩,.int .i64 0] 39);rwa [World.size_alloc] at this,below_res w _ _⟩
section
variable {w wx wy : World} {A : Option Addr} {n c : Nat} {seed : ByteArray} {z : Int} {x y t : Value}
theorem AtB.next (h : AtB w wx A n c seed z) (hb : Below wx.heap.size wx wy) : AtB w wy A n c seed z:=by
 have lr : w.heap.size+1 < wx.heap.size:=(Array.getElem?_eq_some_iff.1 h.r).1
 exact ⟨(hb.cell (p:=⟨w.heap.size,0,none⟩) (by show w.heap.size < _;omega)).trans h.t0,(hb.cell (p:=⟨w.heap.size,1,none⟩) (by show w.heap.size < _;omega)).trans h.t1,(hb.cell (p:=⟨w.heap.size,2,none⟩) (by show w.heap.size < _;omega)).trans h.t2,
  (hb.block _ lr).trans h.r,h.bel.trans (hb.mono (by omega))⟩
theorem AtB.r0 (h : AtB w wx A n c seed z) : wx.cell? ⟨w.heap.size+1,0,none⟩=some (.slice none 0 0)∧wx.cell? ⟨w.heap.size+1,1,none⟩=some (.string ⟨#[]⟩)∧wx.cell? ⟨w.heap.size+1,2,none⟩=some (.int .i64 0) ∧
  wx.frozen? ⟨w.heap.size+1,0,none⟩=false∧wx.frozen? ⟨w.heap.size+1,1,none⟩=false∧wx.frozen? ⟨w.heap.size+1,2,none⟩=false:=by
 refine ⟨?_,?_,?_,?_,?_,?_⟩<;>simp [World.cell?,World.frozen?,h.r]
theorem AtB.bel3 (h : AtB w wx A n c seed z) : Below w.heap.size w (((wx.setCell ⟨w.heap.size+1,0,none⟩ x).setCell ⟨w.heap.size+1,1,none⟩ y).setCell ⟨w.heap.size+1,2,none⟩ t):=by
 have le : w.heap.size≤w.heap.size+1:=Nat.le_succ _
 exact ((h.bel.setCell (p:=⟨w.heap.size+1,0,none⟩) le x).setCell (p:=⟨w.heap.size+1,1,none⟩) le y).setCell (p:=⟨w.heap.size+1,2,none⟩) le t
theorem AtB.keepS {g : Nat} {vals : List ByteArray} (h : AtB w wx A n c seed z) (hs : SLs wx wx.heap.size (some ⟨g,0,none⟩) vals) :
  SLs (((wx.setCell ⟨w.heap.size+1,0,none⟩ x).setCell ⟨w.heap.size+1,1,none⟩ y).setCell ⟨w.heap.size+1,2,none⟩ t) (((wx.setCell ⟨w.heap.size+1,0,none⟩ x).setCell ⟨w.heap.size+1,1,none⟩ y).setCell ⟨w.heap.size+1,2,none⟩ t).heap.size (some ⟨g,0,none⟩) vals:=by
 intro hne
 obtain ⟨ad,e,hb,hc⟩:=hs hne
 injection e with e
 subst e
 have h0:=hc 0 (List.length_pos_iff.mpr hne)
 rw [addr_add] at h0
 have hg : w.heap.size+1≠g:=by
  intro e
  have:=h.r0.1
  rw [e] at this
  rw [show 0+0=0 from rfl,this] at h0
  cases h0
 refine ⟨_,rfl,by simpa using hb,fun j hj=>?_⟩
 have hj':=hc j hj
 rw [addr_add] at hj' ⊢
 exact hop3 (by show w.heap.size+1≠g;exact hg) hj'
end
theorem readyT_bad {vals : List ByteArray} {z : Int} {m : ByteArray} (h : goodT vals z=false) : readyT vals z m=3:=by unfold readyT;rw [h];rfl
theorem readyT_good {vals : List ByteArray} {z : Int} {m : Nat} (h : goodT vals z=true) (hm0 : 1≤m) (hm1 : m < lim) : readyT vals z (B m)=0:=by
 unfold readyT
 rw [h,valid_B hm1,B_isEmpty_false (by omega)]
 rfl
def belowS (vals : List ByteArray) (seed : ByteArray) (z : Int) (m : Nat) : Int × Nat:=if goodT vals z=true then drawS vals seed z m else (3,0)
end Go.Proofs.YtgkggkpighpdiaaGreatDoor
