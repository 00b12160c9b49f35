/- Plain law: SHA-256 and its code in numbers. No program in sight. The walks of package hash: words in memory, the schedule of a block. The walks of package hash: the schedule of a block. The walks of package hash: the constants and the state at the beginning. The walk of package hash: the state after a block. The walk of package hash: Sum. The walk of package hash: Mac. The walks of package coins: what a well-formed tape is. Plain law: the first bits of a row of bytes. The walks of package coins: the blocks of an attempt. The walks of package coins: an attempt at a coin. The walks of package coins: a draw. The walks of package coins: draws that fail. The walks of package coins: a draw from a seed. The walks of package coins: draw in general, Below. -/
import Derived.Test.YtiacajjpkncomaaGreatDoorExBW
import Derived.Laws.Rows
import Derived.StillTailTactics
import Derived.Deep.RegionHeld3
import Derived.Test.YtiacajjpkncomaaGreatDoorExBR
import Derived.Laws.CopyOwn
import Derived.Deep.RegionLaw
import Derived.Deep.DeepCutAuto
import Derived.Deep.CutBlock
import Derived.Test.YtiacajjpkncomaaGreatDoorExBP
import Derived.Test.YtiacajjpkncomaaGreatDoorExOn
import Derived.Lib.AppendIntMem
import Derived.Lib.ItoaMem
import Derived.Lib.ItoaLen
import Derived.Stop.RegionWithIn
import Derived.Lib.AppendStr
import Derived.OwnWalkIn
namespace Go.Proofs.YtiacajjpkncomaaGreatDoor
set_option maxRecDepth 100000
set_option linter.unusedVariables false
theorem ofInt_u32 (a:Nat) (h:a<4294967296):(BitVec.ofInt 32 (a:Int)).toNat=a:=by
 rw [BitVec.toNat_ofInt];omega
theorem wrap_u32_nat (a:Nat) (h:a<4294967296):IntKind.u32.wrap (a:Int)=(a:Int):=by
 simp only [IntKind.wrap,IntKind.bits,IntKind.signed];simp;omega
theorem u32_and_nat (a b:Nat) (ha:a<4294967296) (hb:b<4294967296):bits .and .u32 (a:Int) (b:Int)=((a &&& b:Nat):Int):=by
 have hx:a &&& b<2^32:=Nat.and_lt_two_pow _ (by omega);show IntKind.u32.wrap ((BitVec.ofInt 32 (a:Int) &&& BitVec.ofInt 32 (b:Int)).toNat:Int)=_;rw [BitVec.toNat_and,ofInt_u32 a ha,ofInt_u32 b hb,wrap_u32_nat _ (by omega)]
theorem u32_or_nat (a b:Nat) (ha:a<4294967296) (hb:b<4294967296):bits .or .u32 (a:Int) (b:Int)=((a ||| b:Nat):Int):=by
 have hx:a ||| b<2^32:=Nat.or_lt_two_pow (by omega) (by omega);show IntKind.u32.wrap ((BitVec.ofInt 32 (a:Int) ||| BitVec.ofInt 32 (b:Int)).toNat:Int)=_;rw [BitVec.toNat_or,ofInt_u32 a ha,ofInt_u32 b hb,wrap_u32_nat _ (by omega)]
theorem u32_xor_nat (a b:Nat) (ha:a<4294967296) (hb:b<4294967296):bits .xor .u32 (a:Int) (b:Int)=((a ^^^ b:Nat):Int):=by
 have hx:a ^^^ b<2^32:=Nat.xor_lt_two_pow (by omega) (by omega);show IntKind.u32.wrap ((BitVec.ofInt 32 (a:Int) ^^^ BitVec.ofInt 32 (b:Int)).toNat:Int)=_;rw [BitVec.toNat_xor,ofInt_u32 a ha,ofInt_u32 b hb,wrap_u32_nat _ (by omega)]
def xor32 (a b:Nat):Nat:=a ^^^ b
def and32 (a b:Nat):Nat:=a &&& b
def not32 (a:Nat):Nat:=4294967295-a
def add32 (a b:Nat):Nat:=(a+b)%4294967296
def rotr (x n:Nat):Nat:=x/2^n ||| x*2^(32-n)%4294967296
def xor3 (x a b c:Nat):Nat:=xor32 (xor32 (rotr x a) (rotr x b)) (rotr x c)
def sig0 (x:Nat):Nat:=xor32 (xor32 (rotr x 7) (rotr x 18)) (x/8)
def sig1 (x:Nat):Nat:=xor32 (xor32 (rotr x 17) (rotr x 19)) (x/1024)
theorem rotr_lt (x n:Nat) (h:x<4294967296) (h1:1≤n) (h2:n<32):rotr x n<4294967296:=by
 unfold rotr;have a:x/2^n<2^32:=Nat.lt_of_le_of_lt (Nat.div_le_self _ _) (by omega);have b:x*2^(32-n)%4294967296<2^32:=Nat.mod_lt _ (by decide);exact Nat.or_lt_two_pow a b
theorem xor32_lt {a b:Nat} (ha:a<4294967296) (hb:b<4294967296):xor32 a b<4294967296:=Nat.xor_lt_two_pow (n:=32) ha hb
theorem and32_lt {a b:Nat} (hb:b<4294967296):and32 a b<4294967296:=Nat.and_lt_two_pow (n:=32) _ hb
theorem add32_lt (a b:Nat):add32 a b<4294967296:=Nat.mod_lt _ (by decide)
def schedF:Nat→List Nat→List Nat
 | 0,l=>l
 | k+1,l=>schedF k (l++[add32 (add32 (add32 (l.getD (l.length-16) 0) (sig0 (l.getD (l.length-15) 0))) (l.getD (l.length-7) 0)) (sig1 (l.getD (l.length-2) 0))])
def wordAt (b:List UInt8) (i:Nat):Nat:=(b.getD (4*i) 0).toNat*16777216+(b.getD (4*i+1) 0).toNat*65536+(b.getD (4*i+2) 0).toNat*256+(b.getD (4*i+3) 0).toNat
def words16 (b:List UInt8):List Nat:=(List.range 16).map (wordAt b)
def sched (b:List UInt8):List Nat:=schedF 48 (words16 b)
def consts:List Nat:=[0x428a2f98,0x71374491,0xb5c0fbcf,0xe9b5dba5,0x3956c25b,0x59f111f1,0x923f82a4,0xab1c5ed5,0xd807aa98,0x12835b01,0x243185be,0x550c7dc3,0x72be5d74,0x80deb1fe,0x9bdc06a7,0xc19bf174,
 0xe49b69c1,0xefbe4786,0x0fc19dc6,0x240ca1cc,0x2de92c6f,0x4a7484aa,0x5cb0a9dc,0x76f988da,0x983e5152,0xa831c66d,0xb00327c8,0xbf597fc7,0xc6e00bf3,0xd5a79147,0x06ca6351,0x14292967,
 0x27b70a85,0x2e1b2138,0x4d2c6dfc,0x53380d13,0x650a7354,0x766a0abb,0x81c2c92e,0x92722c85,0xa2bfe8a1,0xa81a664b,0xc24b8b70,0xc76c51a3,0xd192e819,0xd6990624,0xf40e3585,0x106aa070,
 0x19a4c116,0x1e376c08,0x2748774c,0x34b0bcb5,0x391c0cb3,0x4ed8aa4a,0x5b9cca4f,0x682e6ff3,0x748f82ee,0x78a5636f,0x84c87814,0x8cc70208,0x90befffa,0xa4506ceb,0xbef9a3f7,0xc67178f2]
def state0:List Nat:=[0x6a09e667,0xbb67ae85,0x3c6ef372,0xa54ff53a,0x510e527f,0x9b05688c,0x1f83d9ab,0x5be0cd19]
def roundF (v:List Nat) (k w:Nat):List Nat :=
 let a:=v.getD 0 0;let b:=v.getD 1 0;let c:=v.getD 2 0;let d:=v.getD 3 0;let e:=v.getD 4 0;let f:=v.getD 5 0;let g:=v.getD 6 0;let h:=v.getD 7 0
 let t:=add32 (add32 (add32 (add32 h (xor3 e 6 11 25)) (xor32 (and32 e f) (and32 (not32 e) g))) k) w
 let u:=add32 (xor3 a 2 13 22) (xor32 (xor32 (and32 a b) (and32 a c)) (and32 b c))
 [add32 t u,a,b,c,add32 d t,e,f,g]
def roundsF (v:List Nat) (ws:List Nat):Nat→List Nat
 | 0=>v
 | k+1=>roundF (roundsF v ws k) (consts.getD k 0) (ws.getD k 0)
def after (s:List Nat) (b:List UInt8):List Nat :=
 (List.range 8).map fun i=>add32 ((roundsF s (sched b) 64).getD i 0) (s.getD i 0)
def padded (s:List UInt8):List UInt8 :=
 s++[128]++List.replicate ((119-s.length%64)%64) 0++(List.range 8).map fun i=>UInt8.ofNat (s.length*8/256^(7-i))
def blocksF:Nat→List Nat→List UInt8→List Nat
 | 0,s,_=>s
 | k+1,s,m=>blocksF k (after s (m.take 64)) (m.drop 64)
def outBytes (s:List Nat):List UInt8:=s.flatMap fun w=>[UInt8.ofNat (w/16777216),UInt8.ofNat (w/65536),UInt8.ofNat (w/256),UInt8.ofNat w]
def sumL (s:List UInt8):List UInt8:=outBytes (blocksF ((padded s).length/64) state0 (padded s))
def macL (key s:List UInt8):List UInt8 :=
 let k:=if 64<key.length then sumL key else key
 let pad (x:UInt8):List UInt8:=(List.range 64).map fun i=>k.getD i 0 ^^^ x
 sumL (pad 92++sumL (pad 54++s))
end Go.Proofs.YtiacajjpkncomaaGreatDoor
namespace Go.Proofs.YtiacajjpkncomaaGreatDoor
open Go.RowKit
set_option maxRecDepth 100000
set_option linter.unusedVariables false
set_option maxHeartbeats 1000000
def u32Cells (L:List Nat):Array Value:=(L.map fun (n:Nat)=>Value.int .u32 n).toArray
def C32 (w:World) (g:Nat) (T:TypeId) (L:List Nat):Prop:=w.heap[g]?=some (.cells (u32Cells L) T (0,0))
theorem u32Cells_get (L:List Nat) (k:Nat) (h:k<L.length):(u32Cells L)[k]?=some (.int .u32 (L.getD k 0:Nat)):=by
 simp [u32Cells,List.getD,h]
theorem u32Cells_set (L:List Nat) (k n:Nat):(u32Cells L).setIfInBounds k (.int .u32 n)=u32Cells (L.set k n):=by
 simp [u32Cells,List.map_set]
section
variable {w w':World} {g:Nat} {T:TypeId} {L:List Nat}
theorem C32.cell (h:C32 w g T L) {k:Nat} (hk:k<L.length):w.cell? ⟨g,k,none⟩=some (.int .u32 (L.getD k 0:Nat)):=by
 unfold C32 at h;simp only [World.cell?,h];exact u32Cells_get L k hk
theorem C32.free (h:C32 w g T L) (k:Nat):w.frozen? ⟨g,k,none⟩=false:=by
 unfold C32 at h;simp [World.frozen?,h]
theorem C32.lt (h:C32 w g T L):g<w.heap.size:=by
 rcases Nat.lt_or_ge g w.heap.size with hlt|hge
 · exact hlt
 · unfold C32 at h;rw [Array.getElem?_eq_none hge] at h;cases h
theorem C32.set (h:C32 w g T L) (k n:Nat):C32 (w.setCell ⟨g,k,none⟩ (.int .u32 n)) g T (L.set k n):=by
 unfold C32 at h ⊢;rw [← u32Cells_set];simp [World.setCell,Array.getElem?_modify,h]
theorem C32.far (h:C32 w g T L) {p:Addr} (hp:g≠p.block) (u:Value):C32 (w.setCell p u) g T L:=(Below.heap_setCell w p u g hp).trans h
theorem C32.alloc (h:C32 w g T L) (o:Obj):C32 (w.alloc o) g T L:=(Below.heap_alloc w o g h.lt).trans h
theorem C32.below {B:Nat} (h:C32 w g T L) (hb:Below B w w') (hg:g<B):C32 w' g T L:=(hb.block g hg).trans h
theorem C32.new (w:World) (T:TypeId) (L:List Nat):C32 (w.alloc (.cells (u32Cells L) T)) w.heap.size T L:=heap_alloc_new w _
end
theorem rot_close (x n a b:Nat) (hx:x<4294967296) (ha:2^(32-n)=a) (hb:2^n=b):bits .or .u32 ((x:Int)*(a:Int)%4294967296) ((x:Int)/(b:Int))=((rotr x n:Nat):Int):=by
 have e1:((x:Int)*(a:Int)%4294967296)=((x*a%4294967296:Nat):Int):=by rw [Int.natCast_emod,Int.natCast_mul];rfl
 have e2:((x:Int)/(b:Int))=((x/b:Nat):Int):=by rw [Int.natCast_ediv]
 rw [e1,e2,u32_or_nat _ _ (Nat.mod_lt _ (by decide)) (Nat.lt_of_le_of_lt (Nat.div_le_self _ _) hx),Nat.or_comm];unfold rotr;rw [ha,hb]
theorem rot_2 (x:Nat) (w:World) (hx:x<4294967296) :
  Calls Tryz.prog 216 #[.int .u32 x,.int .i64 (-2)] w fun e w'=>e=.returned (.int .u32 (rotr x 2:Nat))∧w=w':=by
 have hb:bits .and .u64 (IntKind.u64.wrap (-2)) 31=30:=by decide
 have HC:=Lib.hid (rot_close x 2 1073741824 4 hx (by decide) (by decide))
 go_enter Tryz.func216, Tryz.ntmps216
 go_wp2;go_ret;exact ⟨ret_int HC.out,rfl⟩
theorem turn_2 (x:Nat) (w:World) (hx:x<4294967296) :
  Calls Tryz.prog 211 #[.int .u32 x,.int .i64 2] w fun e w'=>e=.returned (.int .u32 (rotr x 2:Nat))∧w=w':=by
 have H:=Lib.hid (fun w=>rot_2 x w hx)
 go_enter Tryz.func211, Tryz.ntmps211
 go_wp2_with (go_at_call 216;(with_reducible refine (H.out _).mono ?_);rintro e w' ⟨rfl,rfl⟩);go_ret;exact ⟨rfl,rfl⟩
theorem rot_6 (x:Nat) (w:World) (hx:x<4294967296) :
  Calls Tryz.prog 216 #[.int .u32 x,.int .i64 (-6)] w fun e w'=>e=.returned (.int .u32 (rotr x 6:Nat))∧w=w':=by
 have hb:bits .and .u64 (IntKind.u64.wrap (-6)) 31=26:=by decide
 have HC:=Lib.hid (rot_close x 6 67108864 64 hx (by decide) (by decide))
 go_enter Tryz.func216, Tryz.ntmps216
 go_wp2;go_ret;exact ⟨ret_int HC.out,rfl⟩
theorem turn_6 (x:Nat) (w:World) (hx:x<4294967296) :
  Calls Tryz.prog 211 #[.int .u32 x,.int .i64 6] w fun e w'=>e=.returned (.int .u32 (rotr x 6:Nat))∧w=w':=by
 have H:=Lib.hid (fun w=>rot_6 x w hx)
 go_enter Tryz.func211, Tryz.ntmps211
 go_wp2_with (go_at_call 216;(with_reducible refine (H.out _).mono ?_);rintro e w' ⟨rfl,rfl⟩);go_ret;exact ⟨rfl,rfl⟩
theorem rot_7 (x:Nat) (w:World) (hx:x<4294967296) :
  Calls Tryz.prog 216 #[.int .u32 x,.int .i64 (-7)] w fun e w'=>e=.returned (.int .u32 (rotr x 7:Nat))∧w=w':=by
 have hb:bits .and .u64 (IntKind.u64.wrap (-7)) 31=25:=by decide
 have HC:=Lib.hid (rot_close x 7 33554432 128 hx (by decide) (by decide))
 go_enter Tryz.func216, Tryz.ntmps216
 go_wp2;go_ret;exact ⟨ret_int HC.out,rfl⟩
theorem turn_7 (x:Nat) (w:World) (hx:x<4294967296) :
  Calls Tryz.prog 211 #[.int .u32 x,.int .i64 7] w fun e w'=>e=.returned (.int .u32 (rotr x 7:Nat))∧w=w':=by
 have H:=Lib.hid (fun w=>rot_7 x w hx)
 go_enter Tryz.func211, Tryz.ntmps211
 go_wp2_with (go_at_call 216;(with_reducible refine (H.out _).mono ?_);rintro e w' ⟨rfl,rfl⟩);go_ret;exact ⟨rfl,rfl⟩
theorem rot_11 (x:Nat) (w:World) (hx:x<4294967296) :
  Calls Tryz.prog 216 #[.int .u32 x,.int .i64 (-11)] w fun e w'=>e=.returned (.int .u32 (rotr x 11:Nat))∧w=w':=by
 have hb:bits .and .u64 (IntKind.u64.wrap (-11)) 31=21:=by decide
 have HC:=Lib.hid (rot_close x 11 2097152 2048 hx (by decide) (by decide))
 go_enter Tryz.func216, Tryz.ntmps216
 go_wp2;go_ret;exact ⟨ret_int HC.out,rfl⟩
theorem turn_11 (x:Nat) (w:World) (hx:x<4294967296) :
  Calls Tryz.prog 211 #[.int .u32 x,.int .i64 11] w fun e w'=>e=.returned (.int .u32 (rotr x 11:Nat))∧w=w':=by
 have H:=Lib.hid (fun w=>rot_11 x w hx)
 go_enter Tryz.func211, Tryz.ntmps211
 go_wp2_with (go_at_call 216;(with_reducible refine (H.out _).mono ?_);rintro e w' ⟨rfl,rfl⟩);go_ret;exact ⟨rfl,rfl⟩
theorem rot_13 (x:Nat) (w:World) (hx:x<4294967296) :
  Calls Tryz.prog 216 #[.int .u32 x,.int .i64 (-13)] w fun e w'=>e=.returned (.int .u32 (rotr x 13:Nat))∧w=w':=by
 have hb:bits .and .u64 (IntKind.u64.wrap (-13)) 31=19:=by decide
 have HC:=Lib.hid (rot_close x 13 524288 8192 hx (by decide) (by decide))
 go_enter Tryz.func216, Tryz.ntmps216
 go_wp2;go_ret;exact ⟨ret_int HC.out,rfl⟩
theorem turn_13 (x:Nat) (w:World) (hx:x<4294967296) :
  Calls Tryz.prog 211 #[.int .u32 x,.int .i64 13] w fun e w'=>e=.returned (.int .u32 (rotr x 13:Nat))∧w=w':=by
 have H:=Lib.hid (fun w=>rot_13 x w hx)
 go_enter Tryz.func211, Tryz.ntmps211
 go_wp2_with (go_at_call 216;(with_reducible refine (H.out _).mono ?_);rintro e w' ⟨rfl,rfl⟩);go_ret;exact ⟨rfl,rfl⟩
theorem rot_17 (x:Nat) (w:World) (hx:x<4294967296) :
  Calls Tryz.prog 216 #[.int .u32 x,.int .i64 (-17)] w fun e w'=>e=.returned (.int .u32 (rotr x 17:Nat))∧w=w':=by
 have hb:bits .and .u64 (IntKind.u64.wrap (-17)) 31=15:=by decide
 have HC:=Lib.hid (rot_close x 17 32768 131072 hx (by decide) (by decide))
 go_enter Tryz.func216, Tryz.ntmps216
 go_wp2;go_ret;exact ⟨ret_int HC.out,rfl⟩
theorem turn_17 (x:Nat) (w:World) (hx:x<4294967296) :
  Calls Tryz.prog 211 #[.int .u32 x,.int .i64 17] w fun e w'=>e=.returned (.int .u32 (rotr x 17:Nat))∧w=w':=by
 have H:=Lib.hid (fun w=>rot_17 x w hx)
 go_enter Tryz.func211, Tryz.ntmps211
 go_wp2_with (go_at_call 216;(with_reducible refine (H.out _).mono ?_);rintro e w' ⟨rfl,rfl⟩);go_ret;exact ⟨rfl,rfl⟩
theorem rot_18 (x:Nat) (w:World) (hx:x<4294967296) :
  Calls Tryz.prog 216 #[.int .u32 x,.int .i64 (-18)] w fun e w'=>e=.returned (.int .u32 (rotr x 18:Nat))∧w=w':=by
 have hb:bits .and .u64 (IntKind.u64.wrap (-18)) 31=14:=by decide
 have HC:=Lib.hid (rot_close x 18 16384 262144 hx (by decide) (by decide))
 go_enter Tryz.func216, Tryz.ntmps216
 go_wp2;go_ret;exact ⟨ret_int HC.out,rfl⟩
theorem turn_18 (x:Nat) (w:World) (hx:x<4294967296) :
  Calls Tryz.prog 211 #[.int .u32 x,.int .i64 18] w fun e w'=>e=.returned (.int .u32 (rotr x 18:Nat))∧w=w':=by
 have H:=Lib.hid (fun w=>rot_18 x w hx)
 go_enter Tryz.func211, Tryz.ntmps211
 go_wp2_with (go_at_call 216;(with_reducible refine (H.out _).mono ?_);rintro e w' ⟨rfl,rfl⟩);go_ret;exact ⟨rfl,rfl⟩
theorem rot_19 (x:Nat) (w:World) (hx:x<4294967296) :
  Calls Tryz.prog 216 #[.int .u32 x,.int .i64 (-19)] w fun e w'=>e=.returned (.int .u32 (rotr x 19:Nat))∧w=w':=by
 have hb:bits .and .u64 (IntKind.u64.wrap (-19)) 31=13:=by decide
 have HC:=Lib.hid (rot_close x 19 8192 524288 hx (by decide) (by decide))
 go_enter Tryz.func216, Tryz.ntmps216
 go_wp2;go_ret;exact ⟨ret_int HC.out,rfl⟩
theorem turn_19 (x:Nat) (w:World) (hx:x<4294967296) :
  Calls Tryz.prog 211 #[.int .u32 x,.int .i64 19] w fun e w'=>e=.returned (.int .u32 (rotr x 19:Nat))∧w=w':=by
 have H:=Lib.hid (fun w=>rot_19 x w hx)
 go_enter Tryz.func211, Tryz.ntmps211
 go_wp2_with (go_at_call 216;(with_reducible refine (H.out _).mono ?_);rintro e w' ⟨rfl,rfl⟩);go_ret;exact ⟨rfl,rfl⟩
theorem rot_22 (x:Nat) (w:World) (hx:x<4294967296) :
  Calls Tryz.prog 216 #[.int .u32 x,.int .i64 (-22)] w fun e w'=>e=.returned (.int .u32 (rotr x 22:Nat))∧w=w':=by
 have hb:bits .and .u64 (IntKind.u64.wrap (-22)) 31=10:=by decide
 have HC:=Lib.hid (rot_close x 22 1024 4194304 hx (by decide) (by decide))
 go_enter Tryz.func216, Tryz.ntmps216
 go_wp2;go_ret;exact ⟨ret_int HC.out,rfl⟩
theorem turn_22 (x:Nat) (w:World) (hx:x<4294967296) :
  Calls Tryz.prog 211 #[.int .u32 x,.int .i64 22] w fun e w'=>e=.returned (.int .u32 (rotr x 22:Nat))∧w=w':=by
 have H:=Lib.hid (fun w=>rot_22 x w hx)
 go_enter Tryz.func211, Tryz.ntmps211
 go_wp2_with (go_at_call 216;(with_reducible refine (H.out _).mono ?_);rintro e w' ⟨rfl,rfl⟩);go_ret;exact ⟨rfl,rfl⟩
theorem rot_25 (x:Nat) (w:World) (hx:x<4294967296) :
  Calls Tryz.prog 216 #[.int .u32 x,.int .i64 (-25)] w fun e w'=>e=.returned (.int .u32 (rotr x 25:Nat))∧w=w':=by
 have hb:bits .and .u64 (IntKind.u64.wrap (-25)) 31=7:=by decide
 have HC:=Lib.hid (rot_close x 25 128 33554432 hx (by decide) (by decide))
 go_enter Tryz.func216, Tryz.ntmps216
 go_wp2;go_ret;exact ⟨ret_int HC.out,rfl⟩
theorem turn_25 (x:Nat) (w:World) (hx:x<4294967296) :
  Calls Tryz.prog 211 #[.int .u32 x,.int .i64 25] w fun e w'=>e=.returned (.int .u32 (rotr x 25:Nat))∧w=w':=by
 have H:=Lib.hid (fun w=>rot_25 x w hx)
 go_enter Tryz.func211, Tryz.ntmps211
 go_wp2_with (go_at_call 216;(with_reducible refine (H.out _).mono ?_);rintro e w' ⟨rfl,rfl⟩);go_ret;exact ⟨rfl,rfl⟩
end Go.Proofs.YtiacajjpkncomaaGreatDoor
namespace Go.Proofs.YtiacajjpkncomaaGreatDoor
open Go.RowKit
set_option maxRecDepth 100000
set_option linter.unusedVariables false
set_option maxHeartbeats 2000000
def firstW (b:List UInt8) (k:Nat):List Nat:=(List.range k).map (wordAt b)++List.replicate (64-k) 0
theorem wrap_add32 (a b:Nat):((a:Int)+(b:Int))%4294967296=((add32 a b:Nat):Int):=by
 unfold add32;omega
theorem xor_part (x a b d:Nat) (hx:x<4294967296) (ha:1≤a) (ha2:a<32) (hb:1≤b) (hb2:b<32) :
  bits .xor .u32 (bits .xor .u32 ((rotr x a:Nat):Int) ((rotr x b:Nat):Int)) ((x:Int)/(d:Int))=((xor32 (xor32 (rotr x a) (rotr x b)) (x/d):Nat):Int):=by
 have e:(x:Int)/(d:Int)=((x/d:Nat):Int):=by rw [Int.natCast_ediv]
 rw [e,u32_xor_nat _ _ (rotr_lt _ _ hx ha ha2) (rotr_lt _ _ hx hb hb2)];exact u32_xor_nat _ _ (xor32_lt (rotr_lt _ _ hx ha ha2) (rotr_lt _ _ hx hb hb2)) (Nat.lt_of_le_of_lt (Nat.div_le_self _ _) hx)
theorem sched_word (z x u y:Nat) (hx:x<4294967296) (hy:y<4294967296) :
  ((((z:Int)+bits .xor .u32 (bits .xor .u32 ((rotr x 7:Nat):Int) ((rotr x 18:Nat):Int)) ((x:Int)/8))%4294967296+(u:Int))%4294967296+bits .xor .u32 (bits .xor .u32 ((rotr y 17:Nat):Int) ((rotr y 19:Nat):Int)) ((y:Int)/1024))%4294967296=((add32 (add32 (add32 z (sig0 x)) u) (sig1 y):Nat):Int):=by
 have e1:=xor_part x 7 18 8 hx (by decide) (by decide) (by decide) (by decide);have e2:=xor_part y 17 19 1024 hy (by decide) (by decide) (by decide) (by decide);have e1':bits .xor .u32 (bits .xor .u32 ((rotr x 7:Nat):Int) ((rotr x 18:Nat):Int)) ((x:Int)/8)=((sig0 x:Nat):Int):=e1;have e2':bits .xor .u32 (bits .xor .u32 ((rotr y 17:Nat):Int) ((rotr y 19:Nat):Int)) ((y:Int)/1024)=((sig1 y:Nat):Int):=e2;rw [e1',e2',wrap_add32,wrap_add32,wrap_add32]
theorem C32.setCells {g:Nat} {T:TypeId}:∀ (vs:List Nat) (A B:List Nat) (w:World),C32 w g T (A++B)→B.length=vs.length→C32 (w.setCells g A.length (vs.map fun (n:Nat)=>Value.int .u32 n)) g T (A++vs):=by
 intro vs
 induction vs with
 | nil =>
   intro A B w h hl;have:B=[]:=List.length_eq_zero_iff.mp hl;subst this;exact h
 | cons v vs ih =>
   intro A B w h hl
   cases B with
   | nil=>cases hl
   | cons b B =>
     have h2:=h.set A.length v;rw [List.set_append_right _ _ (Nat.le_refl _),Nat.sub_self,List.set_cons_zero] at h2;have h3:=ih (A++[v]) B (w.setCell ⟨g,A.length,none⟩ (.int .u32 v)) (by rw [List.append_assoc];exact h2) (by simpa using hl);rw [List.append_assoc,List.length_append] at h3;exact h3
theorem C32.setAll {g:Nat} {T:TypeId} {w:World} {A:List Nat} (vs:List Nat) (h:C32 w g T A) (hl:A.length=vs.length):C32 (w.setCells g 0 (u32Cells vs).toList) g T vs:=by
 have:=C32.setCells vs [] A w h hl;simpa [u32Cells] using this
theorem Below.setCells {B b:Nat} {a:World} (hb:B≤b):∀ (vs:List Value) (o:Nat) (w:World),Below B a w→Below B a (w.setCells b o vs):=by
 intro vs
 induction vs with
 | nil=>intro o w h;exact h
 | cons v vs ih=>intro o w h;exact ih (o+1) _ (h.setCell hb v)
theorem C32.there {w:World} {g:Nat} {T:TypeId} {L:List Nat} (h:C32 w g T L):w.there g 0 L.length:=by
 intro j hj;rw [Nat.zero_add,h.cell hj,h.free];exact ⟨rfl,rfl⟩
theorem u32Cells_one (L:List Nat):(u32Cells L).all (·.oneCell')=true:=by
 refine all_oneCell_toArray ?_;intro v hv;obtain ⟨n,_,rfl⟩:=List.mem_map.mp hv;rfl
theorem firstW_step (b:List UInt8) (k:Nat) (h:k<64):(firstW b k).set k (wordAt b k)=firstW b (k+1):=by
 unfold firstW;have e:64-k=(64-(k+1))+1:=by omega
 rw [List.set_append_right _ _ (by simp),e,List.replicate_succ,List.length_map,List.length_range,Nat.sub_self,List.set_cons_zero,List.range_succ,List.map_append,List.append_assoc];rfl
theorem word_or (a b c d:Nat) (ha:a<256) (hb:b<256) (hc:c<256) (hd:d<256) :
  bits .or .u32 (bits .or .u32 (bits .or .u32 ((a:Int)*16777216) ((b:Int)*65536)) ((c:Int)*256)) (d:Int)=((a*16777216+b*65536+c*256+d:Nat):Int):=by
 have ea:(a:Int)*16777216=((a*16777216:Nat):Int):=by omega
 have eb:(b:Int)*65536=((b*65536:Nat):Int):=by omega
 have ec:(c:Int)*256=((c*256:Nat):Int):=by omega
 have o1:a*16777216 ||| b*65536=a*16777216+b*65536:=by
  have:=Nat.two_pow_add_eq_or_of_lt (i:=24) (b:=b*65536) (by omega) a;rw [Nat.mul_comm] at this;exact this.symm
 have o2:(a*16777216+b*65536) ||| c*256=a*16777216+b*65536+c*256:=by
  have:=Nat.two_pow_add_eq_or_of_lt (i:=16) (b:=c*256) (by omega) (a*256+b);have e:2^16*(a*256+b)=a*16777216+b*65536:=by omega
  rw [e] at this;exact this.symm
 have o3:(a*16777216+b*65536+c*256) ||| d=a*16777216+b*65536+c*256+d:=by
  have:=Nat.two_pow_add_eq_or_of_lt (i:=8) (b:=d) (by omega) (a*65536+b*256+c);have e:2^8*(a*65536+b*256+c)=a*16777216+b*65536+c*256:=by omega
  rw [e] at this;exact this.symm
 rw [ea,eb,ec,u32_or_nat _ _ (by omega) (by omega),o1,u32_or_nat _ _ (by omega) (by omega),o2,u32_or_nat _ _ (by omega) (by omega),o3]
def nextF (l:List Nat):Nat:=add32 (add32 (add32 (l.getD (l.length-16) 0) (sig0 (l.getD (l.length-15) 0))) (l.getD (l.length-7) 0)) (sig1 (l.getD (l.length-2) 0))
theorem schedF_snoc:∀ (k:Nat) (l:List Nat),schedF (k+1) l=schedF k l++[nextF (schedF k l)]:=by
 intro k
 induction k with
 | zero=>intro l;rfl
 | succ k ih=>intro l;exact ih (l++[nextF l])
theorem schedF_len:∀ (k:Nat) (l:List Nat),(schedF k l).length=l.length+k:=by
 intro k
 induction k with
 | zero=>intro l;rfl
 | succ k ih=>intro l;rw [schedF_snoc,List.length_append,ih];simp;omega
theorem schedF_lt:∀ (k:Nat) (l:List Nat),(∀ x∈l,x<4294967296)→∀ x∈schedF k l,x<4294967296:=by
 intro k
 induction k with
 | zero=>intro l h;exact h
 | succ k ih =>
   intro l h x hx;rw [schedF_snoc,List.mem_append] at hx
   rcases hx with hx|hx
   · exact ih l h x hx
   · rw [List.mem_singleton] at hx
     rw [hx];exact add32_lt _ _
theorem words16_lt (b:List UInt8):∀ x∈words16 b,x<4294967296:=by
 intro x hx;obtain ⟨i,_,rfl⟩:=List.mem_map.mp hx;unfold wordAt;have (u:UInt8):u.toNat<256:=u.toBitVec.isLt;have h0:=this (b.getD (4*i) 0);have h1:=this (b.getD (4*i+1) 0);have h2:=this (b.getD (4*i+2) 0);have h3:=this (b.getD (4*i+3) 0);omega
def laterW (b:List UInt8) (i:Nat):List Nat:=schedF i (words16 b)++List.replicate (48-i) 0
theorem laterW_zero (b:List UInt8):firstW b 16=laterW b 0:=rfl
theorem laterW_last (b:List UInt8):laterW b 48=sched b:=by
 show schedF 48 (words16 b)++[]=_;rw [List.append_nil];rfl
theorem laterW_len (b:List UInt8) {i:Nat} (h:i≤48):(laterW b i).length=64:=by
 unfold laterW;rw [List.length_append,schedF_len,List.length_replicate];simp [words16];omega
theorem laterW_lt (b:List UInt8) (i k:Nat):(laterW b i).getD k 0<4294967296:=by
 have hall:∀ x∈laterW b i,x<4294967296:=by
  intro x hx
  rcases List.mem_append.mp hx with h|h
  · exact schedF_lt _ _ (words16_lt b) x h
  · rw [List.eq_of_mem_replicate h];decide
 rw [List.getD_eq_getElem?_getD]
 cases hk:(laterW b i)[k]? with
 | none=>decide
 | some v=>exact hall v (List.mem_of_getElem? hk)
theorem laterW_step (b:List UInt8) (i:Nat) (h:i<48) :
  (laterW b i).set (i+16) (add32 (add32 (add32 ((laterW b i).getD i 0) (sig0 ((laterW b i).getD (i+1) 0))) ((laterW b i).getD (i+9) 0)) (sig1 ((laterW b i).getD (i+14) 0)))=laterW b (i+1):=by
 have hl:(schedF i (words16 b)).length=16+i:=by rw [schedF_len];simp [words16]
 have g (k:Nat) (hk:k<16+i):(laterW b i).getD k 0=(schedF i (words16 b)).getD k 0:=by
  unfold laterW;rw [List.getD_eq_getElem?_getD,List.getD_eq_getElem?_getD,List.getElem?_append_left (by omega)]
 rw [g i (by omega),g (i+1) (by omega),g (i+9) (by omega),g (i+14) (by omega)];have e:48-i=(48-(i+1))+1:=by omega
 unfold laterW;rw [schedF_snoc,List.set_append_right _ _ (by omega),e,List.replicate_succ,hl,show i+16-(16+i)=0 from by omega,List.set_cons_zero,List.append_assoc];unfold nextF;rw [hl,show 16+i-16=i from by omega,show 16+i-15=i+1 from by omega,show 16+i-7=i+9 from by omega,show 16+i-2=i+14 from by omega];rfl
theorem byte_lt (b:UInt8):b.toNat<256:=by have:=b.toBitVec.isLt;exact this
theorem cell_hop {w:World} {p a:Addr} {v:Value} {u:Option Value} (h:p.block≠a.block) (hc:w.cell? a=u):(w.setCell p v).drew.cell? a=u :=
 (World.cell?_setCell_other _ _ _ _ (fun e=>h (by rw [e]))).trans hc
theorem some_hop {w:World} {p a:Addr} {v:Value} (h:∃ u,w.cell? a=some u):∃ u,(w.setCell p v).drew.cell? a=some u:=by
 obtain ⟨u,hu⟩:=h;exact cell?_setCell_some hu
theorem free_hop {w:World} {p a:Addr} {v:Value} {b:Bool} (h:w.frozen? a=b):(w.setCell p v).drew.frozen? a=b :=
 (World.frozen?_setCell _ _ _ _).trans h
theorem off_hop {w:World} {g a b:Nat} {v:Value} {u:Option Value} (h:b≠a) (hc:w.cell? ⟨g,a,none⟩=u):(w.setCell ⟨g,b,none⟩ v).drew.cell? ⟨g,a,none⟩=u :=
 (World.cell?_setCell_other _ _ _ _ (fun e=>h (by injection e))).trans hc
theorem hash_schedule (gb o c:Nat) (L:List UInt8) (w:World) (hl:L.length=64) (hc:64≤c) (hc2:c≤1000000) (hrow:Row w gb o L) (hg:gb<w.heap.size) :
  Calls Tryz.prog 210 #[.slice (some ⟨gb,o,none⟩) 64 c] w fun e w'=>e=.returned (.agg (u32Cells (sched L)))∧Below w.heap.size w w':=by
 have HROW:=Lib.hid hrow;have HL:=Lib.hid hl;clear hrow hl
 go_enter Tryz.func210, Tryz.ntmps210
 go_wp2
 have h0:C32 ((w.alloc (.cells (u32Cells (List.replicate 64 0)) 215)).alloc (.cells (u32Cells (List.replicate 64 0)) 215)) (w.heap.size+1) 215 (firstW L 0):=by
  have:=C32.new (w.alloc (.cells (u32Cells (List.replicate 64 0)) 215)) 215 (firstW L 0);rw [World.size_alloc] at this;exact this
 have hb0:Below w.heap.size w ((w.alloc (.cells (u32Cells (List.replicate 64 0)) 215)).alloc (.cells (u32Cells (List.replicate 64 0)) 215)):=((Below.refl _ _).alloc (Nat.le_refl _) _).alloc (by simp) _;have z0:C32 ((w.alloc (.cells (u32Cells (List.replicate 64 0)) 215)).alloc (.cells (u32Cells (List.replicate 64 0)) 215)) w.heap.size 215 (List.replicate 64 0):=(C32.new w _ _).alloc _;have Z0:=Lib.hid z0;clear z0;have H0:=Lib.hid h0;have HB0:=Lib.hid hb0;clear h0 hb0;go_loopw [9] (fun v wr=>∃ k:Nat,v=.int .i64 k∧k≤16∧C32 wr w.heap.size 215 (List.replicate 64 0)∧C32 wr (w.heap.size+1) 215 (firstW L k)∧Below w.heap.size w wr) (fun v _=>16-(intOf v).toNat)
 case atStart=>exact ⟨0,rfl,by decide,Z0.out,H0.out,HB0.out⟩
 case round =>
  obtain ⟨k,rfl,hk,hzk,hck,hbel⟩:=hrel;have HZK:=Lib.hid hzk;clear hzk;have HCK:=Lib.hid hck;have HBE:=Lib.hid hbel;have HR2:=Lib.hid (HROW.out.below hbel hg);clear hck hbel;by_cases hlt:k<16
  · have e4:4*k+4-4*k=4:=by omega
    have b0:=HR2.out (4*k) (by rw [HL.out];omega);have b1:=HR2.out (4*k+1) (by rw [HL.out];omega);have b2:=HR2.out (4*k+2) (by rw [HL.out];omega);have b3:=HR2.out (4*k+3) (by rw [HL.out];omega);obtain ⟨B0,hB0⟩:∃ x,(L.getD (4*k) 0).toNat=x:=⟨_,rfl⟩;obtain ⟨B1,hB1⟩:∃ x,(L.getD (4*k+1) 0).toNat=x:=⟨_,rfl⟩;obtain ⟨B2,hB2⟩:∃ x,(L.getD (4*k+2) 0).toNat=x:=⟨_,rfl⟩;obtain ⟨B3,hB3⟩:∃ x,(L.getD (4*k+3) 0).toNat=x:=⟨_,rfl⟩;rw [hB0] at b0;rw [hB1] at b1;rw [hB2] at b2;rw [hB3] at b3;have l0:B0<256:=by rw [← hB0];exact byte_lt _
    have l1:B1<256:=by rw [← hB1];exact byte_lt _
    have l2:B2<256:=by rw [← hB2];exact byte_lt _
    have l3:B3<256:=by rw [← hB3];exact byte_lt _
    have ne1:¬ gb=w.heap.size+1:=by omega
    have cw:=HCK.out.cell (k:=k) (by simp [firstW];omega);have fw:=HCK.out.free k;have HLT:=Lib.hid hlt;have i0:(0:Int)≤(k:Int):=by omega
    have i1:(k:Int)<64/16*16:=by omega
    have i2:(k:Int)<(64:Int):=by omega
    simp only [← Nat.add_assoc] at b1 b2 b3;go_wp2_with fail;go_region_held3 (fun w'=>w'.cell? ⟨gb,o+4*k,none⟩=some (.int .u8 B0)∧w'.cell? ⟨gb,o+4*k+1,none⟩=some (.int .u8 B1)∧w'.cell? ⟨gb,o+4*k+2,none⟩=some (.int .u8 B2)∧w'.cell? ⟨gb,o+4*k+3,none⟩=some (.int .u8 B3)∧(∃ v,w'.cell? ⟨w.heap.size+1,k,none⟩=some v)∧w'.frozen? ⟨w.heap.size+1,k,none⟩=false) (first|(go_split_ands; (repeat' apply And.intro) <;> first | assumption | (refine cell_hop (Ne.symm ne1) ?_; assumption) | (refine some_hop ?_; assumption) | (refine free_hop ?_; assumption))|go_keep) (first|fail)
    all_goals
     go_wp2_with fail;go_roundw
     case rel =>
      refine ⟨k+1,by rfl,by omega,HZK.out.far (by simp) _,?_,?_⟩
      · rw [← firstW_step L k (by omega)]
        have e:(Value.int .u32 (bits .or .u32 (bits .or .u32 (bits .or .u32 ((B0:Int)*16777216) ((B1:Int)*65536)) ((B2:Int)*256)) (B3:Int)))=.int .u32 (wordAt L k:Nat):=by
         rw [word_or B0 B1 B2 B3 l0 l1 l2 l3];unfold wordAt;rw [hB0,hB1,hB2,hB3]
        rw [e];exact HCK.out.set k _
      · exact (HBE.out.setCell (p:=⟨w.heap.size+1,k,none⟩) (Nat.le_succ _) _).drew
     case measure=>show 16-((k:Int)+1).toNat<16-(k:Int).toNat;omega
  · have ek:k=16:=by omega
    subst ek;clear hlt hk;go_wp2_with fail;rw [show ((16:Nat):Int)=16 from rfl];go_loopw [6] (fun v wr=>∃ j:Nat,v=.int .i64 j∧16≤j∧j≤64∧C32 wr w.heap.size 215 (List.replicate 64 0)∧C32 wr (w.heap.size+1) 215 (laterW L (j-16))∧Below w.heap.size w wr) (fun v _=>64-(intOf v).toNat)
    case atStart=>exact ⟨16,rfl,by decide,by decide,HZK.out,HCK.out,HBE.out⟩
    case round =>
     obtain ⟨j,rfl,hj1,hj2,hzj,hci,hbei⟩:=hrel;have HZJ:=Lib.hid hzj;clear hzj;have HCI:=Lib.hid hci;have HBI:=Lib.hid hbei;clear hci hbei;by_cases hlt:j<64
     · obtain ⟨i,hji⟩:∃ i,j=i+16:=⟨j-16,by omega⟩
       obtain ⟨i1,h1⟩:∃ x,i+1=x:=⟨_,rfl⟩;obtain ⟨i9,h9⟩:∃ x,i+9=x:=⟨_,rfl⟩;obtain ⟨iE,hE⟩:∃ x,i+14=x:=⟨_,rfl⟩;rw [show j-16=i from by omega] at HCI;have c0:=HCI.out.cell (k:=i) (by rw [laterW_len L (by omega)];omega);have c1:=HCI.out.cell (k:=i1) (by rw [laterW_len L (by omega)];omega);have c9:=HCI.out.cell (k:=i9) (by rw [laterW_len L (by omega)];omega);have cE:=HCI.out.cell (k:=iE) (by rw [laterW_len L (by omega)];omega);have cJ:=HCI.out.cell (k:=j) (by rw [laterW_len L (by omega)];omega);have gJ:=HCI.out.free j;have X0:=Lib.hid (laterW_lt L i i);have X1:=Lib.hid (laterW_lt L i i1);have X9:=Lib.hid (laterW_lt L i i9);have XE:=Lib.hid (laterW_lt L i iE);obtain ⟨z,hz⟩:∃ x,(laterW L i).getD i 0=x:=⟨_,rfl⟩;obtain ⟨x,hx⟩:∃ x,(laterW L i).getD i1 0=x:=⟨_,rfl⟩;obtain ⟨u,hu⟩:∃ x,(laterW L i).getD i9 0=x:=⟨_,rfl⟩;obtain ⟨y,hy⟩:∃ x,(laterW L i).getD iE 0=x:=⟨_,rfl⟩;rw [hz] at c0 X0;rw [hx] at c1 X1;rw [hu] at c9 X9;rw [hy] at cE XE;have F0:IntKind.i64.wrap ((j:Int)-16)=(i:Int):=by rw [IntKind.wrap_i64];omega
       have F1:IntKind.i64.wrap ((j:Int)-15)=(i1:Int):=by rw [IntKind.wrap_i64];omega
       have F9:IntKind.i64.wrap ((j:Int)-7)=(i9:Int):=by rw [IntKind.wrap_i64];omega
       have FE:IntKind.i64.wrap ((j:Int)-2)=(iE:Int):=by rw [IntKind.wrap_i64];omega
       have FJ:IntKind.i64.wrap ((j:Int)+1)=(j:Int)+1:=by rw [IntKind.wrap_i64];omega
       have p0:(0:Int)≤(i:Int):=by omega
       have r0:(i:Int)<64:=by omega
       have p1:(0:Int)≤(i1:Int):=by omega
       have r1:(i1:Int)<64:=by omega
       have p9:(0:Int)≤(i9:Int):=by omega
       have r9:(i9:Int)<64:=by omega
       have pE:(0:Int)≤(iE:Int):=by omega
       have rE:(iE:Int)<64:=by omega
       have pJ:(0:Int)≤(j:Int):=by omega
       have rJ:(j:Int)<64:=by omega
       have H1:=Lib.hid (And.intro h1 (And.intro h9 (And.intro hE hji)));have HV:=Lib.hid (And.intro hz (And.intro hx (And.intro hu hy)));have HB:=Lib.hid (And.intro hj1 hlt);clear h1 h9 hE hji hz hx hu hy hj1 hj2 hlt;go_wp2_with fail;go_region_held3 (fun w'=>w'.cell? ⟨w.heap.size+1,i1,none⟩=some (.int .u32 x)∧w'.cell? ⟨w.heap.size+1,iE,none⟩=some (.int .u32 y)) (first|go_keep) (first|fail);go_wp2_with fail;have cX:∃ v,wr.cell? ⟨w.heap.size+1,j,none⟩=some v:=⟨_,cJ⟩;clear c1 cE;have nj:j≠i:=by have:=H1.out;omega
       have nj9:j≠i9:=by have:=H1.out;omega
       go_region_held3 (fun w'=>w'.cell? ⟨w.heap.size+1,i,none⟩=some (.int .u32 z)∧w'.cell? ⟨w.heap.size+1,i9,none⟩=some (.int .u32 u)∧(∃ v,w'.cell? ⟨w.heap.size+1,j,none⟩=some v)∧w'.frozen? ⟨w.heap.size+1,j,none⟩=false) (first|assumption|(go_split_ands; (repeat' apply And.intro) <;> first | assumption | (refine off_hop nj ?_; assumption) | (refine off_hop nj9 ?_; assumption) | (refine some_hop ?_; assumption) | (refine free_hop ?_; assumption))|go_keep) (first|(go_at_call 211;(with_reducible refine (turn_7 _ _ X1.out).mono ?_);rintro e w' ⟨rfl,rfl⟩)|(go_at_call 211;(with_reducible refine (turn_18 _ _ X1.out).mono ?_);rintro e w' ⟨rfl,rfl⟩)|(go_at_call 211;(with_reducible refine (turn_17 _ _ XE.out).mono ?_);rintro e w' ⟨rfl,rfl⟩)|(go_at_call 211;(with_reducible refine (turn_19 _ _ XE.out).mono ?_);rintro e w' ⟨rfl,rfl⟩));go_wp2_with fail;go_roundw
       case rel =>
        obtain ⟨h1,h9,hE,hji⟩:=H1.out;obtain ⟨hz,hx,hu,hy⟩:=HV.out;obtain ⟨hj1,hlt⟩:=HB.out;refine ⟨j+1,by rfl,by omega,by omega,HZJ.out.far (by simp) _,?_,?_⟩
        · rw [show j+1-16=i+1 from by omega,← laterW_step L i (by omega),h1,h9,hE,hz,hx,hu,hy,← hji,sched_word z x u y X1.out XE.out]
          exact HCI.out.set j _
        · exact (HBI.out.setCell (p:=⟨w.heap.size+1,j,none⟩) (Nat.le_succ _) _).drew.drew
       case measure=>have:=HB.out;show 64-((j:Int)+1).toNat<64-(j:Int).toNat;omega
     · have ej:j=64:=by omega
       subst ej;clear hlt hj1 hj2;have HC:Hid (C32 wr (w.heap.size+1) 215 (sched L)):=Lib.hid (by rw [← laterW_last];exact HCI.out);have hlen:(u32Cells (sched L)).size=64:=by rw [← laterW_last];simp [u32Cells,laterW_len]
       have HLEN:=Lib.hid hlen;have hset:=C32.setAll (sched L) HZJ.out (by rw [← laterW_last,laterW_len L (Nat.le_refl _)];rfl);have HSET:=Lib.hid hset;clear hlen hset;go_wp2_with (first|(refine wpList_load_row rfl 215 _ rfl (w.heap.size+1) rfl _ _ _ _ HC.out Tryz.underlying215 rfl (by rw [HLEN.out];rfl) ?_)|(refine wpList_store_mid rfl 215 _ _ rfl w.heap.size 0 (u32Cells (sched L)) rfl rfl (by rw [HLEN.out];exact HZJ.out.there) (by rw [HLEN.out];rfl) (u32Cells_one _) ?_));have hcell:C32 (wr.setCells w.heap.size 0 (u32Cells (sched L)).toList) w.heap.size 215 (sched L):=HSET.out;refine bodyPost_ret (v:=.agg (u32Cells (sched L))) ?_ ?_ ?_;rotate_left 2
       · refine ⟨rfl,?_⟩
         exact Below.setCells (Nat.le_refl _) (u32Cells (sched L)).toList 0 wr HBI.out
       rotate_left 1
       · rfl
       refine results_cell_row Tryz.results210 _ _ w.heap.size 215 (u32Cells (sched L)) (0,0) _ ?_ hcell Tryz.underlying215 ?_ ?_
       · rfl
       · rfl
       · rw [HLEN.out];rfl
end Go.Proofs.YtiacajjpkncomaaGreatDoor
namespace Go.Proofs.YtiacajjpkncomaaGreatDoor
open Go.RowKit
set_option maxRecDepth 100000
set_option linter.unusedVariables false
set_option maxHeartbeats 2000000
theorem C32.farCells {g b:Nat} {T:TypeId} {L:List Nat} (hp:g≠b):∀ (vs:List Value) (o:Nat) (w:World),C32 w g T L→C32 (w.setCells b o vs) g T L:=by
 intro vs
 induction vs with
 | nil=>intro o w h;exact h
 | cons v vs ih=>intro o w h;exact ih (o+1) _ (h.far hp v)
theorem hash_constants (w:World):Calls Tryz.prog 209 #[] w fun e w'=>e=.returned (.agg (u32Cells consts))∧Below w.heap.size w w':=by
 have z:=C32.new w 215 (List.replicate 64 0);have hs:=C32.setAll consts z rfl;have HS:=Lib.hid hs;have Z:=Lib.hid z;clear hs z
 go_enter Tryz.func209, Tryz.ntmps209
 go_wp2_with (first|(refine wpList_store_mid rfl 215 _ _ rfl w.heap.size 0 (u32Cells consts) rfl rfl Z.out.there rfl (u32Cells_one _) ?_));refine bodyPost_ret (v:=.agg (u32Cells consts)) ?_ rfl ⟨rfl,Below.setCells (Nat.le_refl _) _ _ _ ((Below.refl _ _).alloc (Nat.le_refl _) _)⟩;exact results_cell_row Tryz.results209 _ _ w.heap.size 215 (u32Cells consts) (0,0) _ rfl HS.out Tryz.underlying215 rfl rfl
theorem hash_first (w:World):Calls Tryz.prog 199 #[] w fun e w'=>e=.returned (.agg (u32Cells state0))∧Below w.heap.size w w':=by
 have z:=C32.new w 205 (List.replicate 8 0);have hs:=C32.setAll state0 z rfl;have HS:=Lib.hid hs;have Z:=Lib.hid z;clear hs z
 go_enter Tryz.func199, Tryz.ntmps199
 go_wp2_with (first|(refine wpList_store_mid rfl 205 _ _ rfl w.heap.size 0 (u32Cells state0) rfl rfl Z.out.there rfl (u32Cells_one _) ?_));refine bodyPost_ret (v:=.agg (u32Cells state0)) ?_ rfl ⟨rfl,Below.setCells (Nat.le_refl _) _ _ _ ((Below.refl _ _).alloc (Nat.le_refl _) _)⟩;exact results_cell_row Tryz.results199 _ _ w.heap.size 205 (u32Cells state0) (0,0) _ rfl HS.out Tryz.underlying205 rfl rfl
end Go.Proofs.YtiacajjpkncomaaGreatDoor
namespace Go.Proofs.YtiacajjpkncomaaGreatDoor
open Go.RowKit
set_option maxRecDepth 100000
set_option linter.unusedVariables false
set_option maxHeartbeats 2000000
theorem sched_len (L:List UInt8):(sched L).length=64:=by rw [← laterW_last];exact laterW_len L (Nat.le_refl _)
theorem sched_lt (L:List UInt8) (k:Nat):(sched L).getD k 0<4294967296:=by rw [← laterW_last];exact laterW_lt L 48 k
theorem u32Cells_size (L:List Nat):(u32Cells L).size=L.length:=by simp [u32Cells]
@[simp] theorem size_cells (b:Nat):∀ (vs:List Value) (o:Nat) (w:World),(w.setCells b o vs).heap.size=w.heap.size:=by
 intro vs
 induction vs with
 | nil=>intro o w;rfl
 | cons v vs ih=>intro o w;rw [World.setCells,ih];simp
structure AfterAt (B Q:Nat) (w wr:World) (S W V:List Nat):Prop where
 k:C32 wr Q 215 consts
 ws:C32 wr (Q+1) 215 W
 x:C32 wr (Q+2) 205 V
 s:C32 wr B 205 S
 r:C32 wr (B+1) 205 (List.replicate 8 0)
 bel:Below B w wr
section
variable {B Q:Nat} {w wr wq:World} {S W V V':List Nat}
theorem AfterAt.put (h:AfterAt B Q w wr S W V) (hQ:B+2≤Q) (i n:Nat):AfterAt B Q w (wr.setCell ⟨Q+2,i,none⟩ (.int .u32 n)) S W (V.set i n) :=
 ⟨h.k.far (by simp) _,h.ws.far (by simp) _,h.x.set i n,h.s.far (by simp;omega) _,h.r.far (by simp;omega) _,h.bel.setCell (p:=⟨Q+2,i,none⟩) (by simp;omega) _⟩
theorem AfterAt.turn (h:AfterAt B Q w wr S W V) (hQ:B+2≤Q) (hb:Below (Q+2) wr wq) (hx:C32 wq (Q+2) 205 V'):AfterAt B Q w wq S W V' :=
 ⟨h.k.below hb (by omega),h.ws.below hb (by omega),hx,h.s.below hb (by omega),h.r.below hb (by omega),h.bel.trans (hb.mono (by omega))⟩
theorem AfterAt.start (hS:S.length=8) (hW:W.length=64) (hQ:B+2≤w.heap.size) (hs:C32 w B 205 S) (hr:C32 w (B+1) 205 (List.replicate 8 0)) (hb:Below B wr w) :
  ((w.alloc (.cells (u32Cells (List.replicate 64 0)) 215)).alloc (.cells (u32Cells (List.replicate 64 0)) 215)).there w.heap.size 0 64 ∧
  (((w.alloc (.cells (u32Cells (List.replicate 64 0)) 215)).alloc (.cells (u32Cells (List.replicate 64 0)) 215)).setCells w.heap.size 0 (u32Cells consts).toList).there (w.heap.size+1) 0 64 ∧
  ((((w.alloc (.cells (u32Cells (List.replicate 64 0)) 215)).alloc (.cells (u32Cells (List.replicate 64 0)) 215)).setCells w.heap.size 0 (u32Cells consts).toList).setCells (w.heap.size+1) 0 (u32Cells W).toList).heap[B]?=some (.cells (u32Cells S) 205 (0,0)) ∧
  (((((w.alloc (.cells (u32Cells (List.replicate 64 0)) 215)).alloc (.cells (u32Cells (List.replicate 64 0)) 215)).setCells w.heap.size 0 (u32Cells consts).toList).setCells (w.heap.size+1) 0 (u32Cells W).toList).alloc (.cells (u32Cells (List.replicate 8 0)) 205)).there (w.heap.size+2) 0 8 ∧
  AfterAt B w.heap.size wr ((((((w.alloc (.cells (u32Cells (List.replicate 64 0)) 215)).alloc (.cells (u32Cells (List.replicate 64 0)) 215)).setCells w.heap.size 0 (u32Cells consts).toList).setCells (w.heap.size+1) 0 (u32Cells W).toList).alloc (.cells (u32Cells (List.replicate 8 0)) 205)).setCells (w.heap.size+2) 0 (u32Cells S).toList) S W S:=by
 have a0:=(C32.new w 215 (List.replicate 64 0)).alloc (.cells (u32Cells (List.replicate 64 0)) 215);have a1:=C32.new (w.alloc (.cells (u32Cells (List.replicate 64 0)) 215)) 215 (List.replicate 64 0);rw [World.size_alloc] at a1;have sS:=(hs.alloc (.cells (u32Cells (List.replicate 64 0)) 215)).alloc (.cells (u32Cells (List.replicate 64 0)) 215);have sR:=(hr.alloc (.cells (u32Cells (List.replicate 64 0)) 215)).alloc (.cells (u32Cells (List.replicate 64 0)) 215);have bb:=(hb.alloc (o:=.cells (u32Cells (List.replicate 64 0)) 215) (by omega)).alloc (o:=.cells (u32Cells (List.replicate 64 0)) 215) (by simp;omega);have z:((w.alloc (.cells (u32Cells (List.replicate 64 0)) 215)).alloc (.cells (u32Cells (List.replicate 64 0)) 215)).heap.size=w.heap.size+2:=by simp
 generalize ((w.alloc (.cells (u32Cells (List.replicate 64 0)) 215)).alloc (.cells (u32Cells (List.replicate 64 0)) 215))=w1 at a0 a1 sS sR bb z ⊢;have b0:=a0.setAll consts rfl;have b1:=C32.farCells (b:=w.heap.size) (by omega) (u32Cells consts).toList 0 _ a1;have tS:=C32.farCells (b:=w.heap.size) (by omega) (u32Cells consts).toList 0 _ sS;have tR:=C32.farCells (b:=w.heap.size) (by omega) (u32Cells consts).toList 0 _ sR;have cb:=Below.setCells (b:=w.heap.size) (by omega) (u32Cells consts).toList 0 _ bb;have z1:(w1.setCells w.heap.size 0 (u32Cells consts).toList).heap.size=w.heap.size+2:=by rw [size_cells,z]
 refine ⟨a0.there,b1.there,?_⟩;generalize w1.setCells w.heap.size 0 (u32Cells consts).toList=w2 at b0 b1 tS tR cb z1 ⊢;have c1:=b1.setAll W (by rw [hW];rfl);have c0:=C32.farCells (b:=w.heap.size+1) (by omega) (u32Cells W).toList 0 _ b0;have uS:=C32.farCells (b:=w.heap.size+1) (by omega) (u32Cells W).toList 0 _ tS;have uR:=C32.farCells (b:=w.heap.size+1) (by omega) (u32Cells W).toList 0 _ tR;have db:=Below.setCells (b:=w.heap.size+1) (by omega) (u32Cells W).toList 0 _ cb;have z2:(w2.setCells (w.heap.size+1) 0 (u32Cells W).toList).heap.size=w.heap.size+2:=by rw [size_cells,z1]
 refine ⟨uS,?_⟩;generalize w2.setCells (w.heap.size+1) 0 (u32Cells W).toList=w3 at c0 c1 uS uR db z2 ⊢;have d:=C32.new w3 205 (List.replicate 8 0);rw [z2] at d;have e0:=c0.alloc (.cells (u32Cells (List.replicate 8 0)) 205);have e1:=c1.alloc (.cells (u32Cells (List.replicate 8 0)) 205);have vS:=uS.alloc (.cells (u32Cells (List.replicate 8 0)) 205);have vR:=uR.alloc (.cells (u32Cells (List.replicate 8 0)) 205);have eb:=db.alloc (o:=.cells (u32Cells (List.replicate 8 0)) 205) (by omega);refine ⟨d.there,?_⟩;generalize w3.alloc (.cells (u32Cells (List.replicate 8 0)) 205)=w4 at d e0 e1 vS vR eb ⊢;exact ⟨C32.farCells (by omega) _ 0 _ e0,C32.farCells (by omega) _ 0 _ e1,d.setAll S (by rw [hS];rfl),C32.farCells (by omega) _ 0 _ vS,C32.farCells (by omega) _ 0 _ vR,Below.setCells (by omega) _ 0 _ eb⟩
end
theorem roundF_len (v:List Nat) (k w:Nat):(roundF v k w).length=8:=rfl
theorem roundsF_len (v ws:List Nat) (h:v.length=8):∀ k,(roundsF v ws k).length=8:=by
 intro k
 cases k with
 | zero=>exact h
 | succ k=>exact roundF_len _ _ _
theorem eight (V:List Nat) (h:V.length=8):∃ a b c d e f g i,V=[a,b,c,d,e,f,g,i]:=by
 match V,h with
 | [a,b,c,d,e,f,g,i],_=>exact ⟨a,b,c,d,e,f,g,i,rfl⟩
theorem eight_lt {a b c d e f g i:Nat} (h:∀ x∈[a,b,c,d,e,f,g,i],x<4294967296):a<4294967296∧b<4294967296∧c<4294967296∧d<4294967296∧e<4294967296∧f<4294967296∧g<4294967296∧i<4294967296 :=
 ⟨h a (by simp),h b (by simp),h c (by simp),h d (by simp),h e (by simp),h f (by simp),h g (by simp),h i (by simp)⟩
theorem roundsF_lt (v ws:List Nat) (h:∀ x∈v,x<4294967296):∀ k,∀ x∈roundsF v ws k,x<4294967296:=by
 intro k
 induction k with
 | zero=>exact h
 | succ k ih =>
   have ih' (i:Nat):(roundsF v ws k).getD i 0<4294967296:=by
    rw [List.getD_eq_getElem?_getD]
    cases hk:(roundsF v ws k)[i]? with
    | none=>decide
    | some u=>exact ih u (List.mem_of_getElem? hk)
   intro x hx;unfold roundsF roundF at hx;simp only [List.mem_cons,List.not_mem_nil,or_false] at hx
   rcases hx with h|h|h|h|h|h|h|h<;>rw [h]
   · exact add32_lt _ _
   · exact ih' 0
   · exact ih' 1
   · exact ih' 2
   · exact add32_lt _ _
   · exact ih' 4
   · exact ih' 5
   · exact ih' 6
theorem not32_lt (a:Nat):not32 a<4294967296:=by unfold not32;omega
theorem u32_not (x:Nat) (hx:x<4294967296):bits .xor .u32 IntKind.u32.max (x:Int)=((not32 x:Nat):Int):=by
 have e:IntKind.u32.max=((4294967295:Nat):Int):=by decide
 rw [e,u32_xor_nat _ _ (by decide) hx];have h:=congrArg BitVec.toNat (BitVec.allOnes_xor (x:=BitVec.ofNat 32 x));rw [BitVec.toNat_xor,BitVec.toNat_not,BitVec.toNat_allOnes,BitVec.toNat_ofNat,Nat.mod_eq_of_lt (a:=x) (by omega)] at h;show ((4294967295 ^^^ x:Nat):Int)=((4294967295-x:Nat):Int);rw [← h]
theorem u32_and32 (a b:Nat) (ha:a<4294967296) (hb:b<4294967296):bits .and .u32 (a:Int) (b:Int)=((and32 a b:Nat):Int):=u32_and_nat a b ha hb
theorem u32_xor32 (a b:Nat) (ha:a<4294967296) (hb:b<4294967296):bits .xor .u32 (a:Int) (b:Int)=((xor32 a b:Nat):Int):=u32_xor_nat a b ha hb
theorem xor3_bits (x a b c:Nat) (hx:x<4294967296) (ha:1≤a) (ha2:a<32) (hb:1≤b) (hb2:b<32) (hc:1≤c) (hc2:c<32) :
  bits .xor .u32 (bits .xor .u32 ((rotr x a:Nat):Int) ((rotr x b:Nat):Int)) ((rotr x c:Nat):Int)=((xor3 x a b c:Nat):Int):=by
 rw [u32_xor_nat _ _ (rotr_lt _ _ hx ha ha2) (rotr_lt _ _ hx hb hb2)];exact u32_xor_nat _ _ (xor32_lt (rotr_lt _ _ hx ha ha2) (rotr_lt _ _ hx hb hb2)) (rotr_lt _ _ hx hc hc2)
theorem wrap_add (a b:Nat):IntKind.u32.wrap ((a:Int)+(b:Int))=((add32 a b:Nat):Int):=by
 rw [← wrap_add32];simp [IntKind.wrap,IntKind.bits,IntKind.signed]
theorem round_t (e f g h k w:Nat) (he:e<4294967296) (hf:f<4294967296) (hg:g<4294967296) :
  IntKind.u32.wrap (IntKind.u32.wrap (IntKind.u32.wrap (IntKind.u32.wrap ((h:Int)+bits .xor .u32 (bits .xor .u32 ((rotr e 6:Nat):Int) ((rotr e 11:Nat):Int)) ((rotr e 25:Nat):Int)) +
   bits .xor .u32 (bits .and .u32 (e:Int) (f:Int)) (bits .and .u32 (bits .xor .u32 IntKind.u32.max (e:Int)) (g:Int)))+(k:Int))+(w:Int)) =
  ((add32 (add32 (add32 (add32 h (xor3 e 6 11 25)) (xor32 (and32 e f) (and32 (not32 e) g))) k) w:Nat):Int):=by
 rw [xor3_bits e 6 11 25 he (by decide) (by decide) (by decide) (by decide) (by decide) (by decide),u32_not e he,u32_and32 e f he hf,u32_and32 (not32 e) g (not32_lt e) hg,u32_xor32 _ _ (and32_lt hf) (and32_lt hg),wrap_add];rw [wrap_add,wrap_add,wrap_add]
theorem round_u (a b c:Nat) (ha:a<4294967296) (hb:b<4294967296) (hc:c<4294967296) :
  (bits .xor .u32 (bits .xor .u32 ((rotr a 2:Nat):Int) ((rotr a 13:Nat):Int)) ((rotr a 22:Nat):Int)+bits .xor .u32 (bits .xor .u32 (bits .and .u32 (a:Int) (b:Int)) (bits .and .u32 (a:Int) (c:Int))) (bits .and .u32 (b:Int) (c:Int)))%4294967296 =
  ((add32 (xor3 a 2 13 22) (xor32 (xor32 (and32 a b) (and32 a c)) (and32 b c)):Nat):Int):=by
 rw [xor3_bits a 2 13 22 ha (by decide) (by decide) (by decide) (by decide) (by decide) (by decide),u32_and32 a b ha hb,u32_and32 a c ha hc,u32_and32 b c hb hc,u32_xor32 _ _ (and32_lt hb) (and32_lt hc)];rw [u32_xor32 _ _ (xor32_lt (and32_lt hb) (and32_lt hc)) (and32_lt hc),wrap_add32]
theorem ones (l:List Nat):∀ v∈l.map (fun (n:Nat)=>Value.int .u32 n),v.oneCell'=true:=by
 intro v hv;obtain ⟨n,_,rfl⟩:=List.mem_map.mp hv;rfl
theorem cellsX {w:World} {g:Nat} {T:TypeId} {a b c d e f h i:Nat} (hx:C32 w g T [a,b,c,d,e,f,h,i]) (j:Nat) (v:Value)
  (hv:([.int .u32 a,.int .u32 b,.int .u32 c,.int .u32 d,.int .u32 e,.int .u32 f,.int .u32 h]:List Value)[j]?=some v):w.cell? ((⟨g,0,none⟩:Addr).add j)=some v:=by
 have hj:j<7:=by have:=(List.getElem?_eq_some_iff.mp hv).1;simpa using this
 have ha:(⟨g,0,none⟩:Addr).add j=⟨g,j,none⟩:=by unfold Addr.add;split<;>simp_all
 rw [ha,hx.cell (k:=j) (by simp;omega)];rw [← hv]
 match j,hj with
 | 0,_|1,_|2,_|3,_|4,_|5,_|6,_=>rfl
def mixW (X S:List Nat) (j:Nat):List Nat:=(List.range 8).map fun i=>if i<j then add32 (X.getD i 0) (S.getD i 0) else X.getD i 0
theorem mixW_zero (a b c d e f g h:Nat) (S:List Nat):mixW [a,b,c,d,e,f,g,h] S 0=[a,b,c,d,e,f,g,h]:=rfl
theorem after_len (S:List Nat) (L:List UInt8):(after S L).length=8:=by unfold after;rw [List.length_map,List.length_range]
theorem mixW_len (X S:List Nat) (j:Nat):(mixW X S j).length=8:=rfl
theorem mixW_at (X S:List Nat) {j:Nat} (h:j<8):(mixW X S j).getD j 0=X.getD j 0:=by
 match j,h with
 | 0,_|1,_|2,_|3,_|4,_|5,_|6,_|7,_=>rfl
theorem mixW_step (X S:List Nat) {j:Nat} (h:j<8):(mixW X S j).set j (add32 (X.getD j 0) (S.getD j 0))=mixW X S (j+1):=by
 match j,h with
 | 0,_|1,_|2,_|3,_|4,_|5,_|6,_|7,_=>rfl
theorem mixW_last (X S:List Nat) (L:List UInt8) (h:X=roundsF S (sched L) 64):mixW X S 8=after S L:=by
 unfold after;rw [← h];rfl
theorem hash_after (gb o c s0 s1 s2 s3 s4 s5 s6 s7:Nat) (L:List UInt8) (w:World) (hl:L.length=64) (hc:64≤c) (hc2:c≤1000000) (hrow:Row w gb o L) (hg:gb<w.heap.size)
  (hS:∀ x∈[s0,s1,s2,s3,s4,s5,s6,s7],x<4294967296) :
  Calls Tryz.prog 200 #[.agg (u32Cells [s0,s1,s2,s3,s4,s5,s6,s7]),.slice (some ⟨gb,o,none⟩) 64 c] w fun e w'=>e=.returned (.agg (u32Cells (after [s0,s1,s2,s3,s4,s5,s6,s7] L)))∧Below w.heap.size w w':=by
 have HROW:=Lib.hid hrow;have HL:=Lib.hid hl;have HS:=Lib.hid hS;clear hrow hl hS;have hbA:Below w.heap.size w ((w.alloc (.cells (u32Cells [s0,s1,s2,s3,s4,s5,s6,s7]) 205)).alloc (.cells (u32Cells (List.replicate 8 0)) 205)):=((Below.refl _ _).alloc (Nat.le_refl _) _).alloc (by simp) _;have hcS:C32 ((w.alloc (.cells (u32Cells [s0,s1,s2,s3,s4,s5,s6,s7]) 205)).alloc (.cells (u32Cells (List.replicate 8 0)) 205)) w.heap.size 205 [s0,s1,s2,s3,s4,s5,s6,s7]:=(C32.new _ _ _).alloc _
 have hcR:C32 ((w.alloc (.cells (u32Cells [s0,s1,s2,s3,s4,s5,s6,s7]) 205)).alloc (.cells (u32Cells (List.replicate 8 0)) 205)) (w.heap.size+1) 205 (List.replicate 8 0):=by
  have:=C32.new (w.alloc (.cells (u32Cells [s0,s1,s2,s3,s4,s5,s6,s7]) 205)) 205 (List.replicate 8 0);rw [World.size_alloc] at this;exact this
 have HCS:=Lib.hid hcS;have HCR:=Lib.hid hcR;have HBA:=Lib.hid hbA;clear hbA hcS hcR;obtain ⟨CC,hCC⟩:∃ x,x=u32Cells consts:=⟨_,rfl⟩;obtain ⟨CW,hCW⟩:∃ x,x=u32Cells (sched L):=⟨_,rfl⟩;obtain ⟨CS,hCS⟩:∃ x,x=u32Cells [s0,s1,s2,s3,s4,s5,s6,s7]:=⟨_,rfl⟩;have KC:=Lib.hid (fun w=>hash_constants w);have KS:=Lib.hid (fun w=>hash_schedule gb o c L w HL.out hc hc2);have HE:=Lib.hid (And.intro hCC (And.intro hCW hCS));rw [← hCC] at KC;rw [← hCW] at KS;rw [← hCS] at HCS HCR HBA ⊢;have nC:=Lib.hid (show CC.size=64 by rw [hCC];rfl);have nW:=Lib.hid (show CW.size=64 by rw [hCW,u32Cells_size,sched_len]);have nS:=Lib.hid (show CS.size=8 by rw [hCS];rfl);have oC:=Lib.hid (show CC.all (·.oneCell')=true by rw [hCC];exact u32Cells_one _);have oW:=Lib.hid (show CW.all (·.oneCell')=true by rw [hCW];exact u32Cells_one _);have oS:=Lib.hid (show CS.all (·.oneCell')=true by rw [hCS];exact u32Cells_one _);have HCS':Hid (((w.alloc (.cells CS 205)).alloc (.cells (u32Cells (List.replicate 8 0)) 205)).heap[w.heap.size]?=some (.cells CS 205 (0,0))):=Lib.hid (by have:=HCS.out;unfold C32 at this;rw [← hCS] at this;exact this);clear hCC hCW hCS
 go_enter Tryz.func200, Tryz.ntmps200
 go_wp2_with (first
  | (go_at_call 209;(with_reducible refine (KC.out _).mono ?_);rintro e w1 ⟨rfl,hb1⟩
     have HB1:=Lib.hid (hb1.mono (B':=w.heap.size+2) (by simp));clear hb1)
  | (go_at_call 210;(with_reducible refine (KS.out _ (HROW.out.below (HBA.out.trans (HB1.out.mono (by simp))) hg) (Nat.lt_of_lt_of_le hg (Nat.le_trans (by simp;omega) HB1.out.size))).mono ?_)
     rintro e w2 ⟨rfl,hb2⟩;have hz:w.heap.size+2≤w1.heap.size:=Nat.le_trans (by simp) HB1.out.size;have hb3:=HB1.out.trans (hb2.mono hz);have HZ:=Lib.hid (Nat.le_trans hz hb2.size);have hst:=AfterAt.start (S:=[s0,s1,s2,s3,s4,s5,s6,s7]) rfl (sched_len L) HZ.out (HCS.out.below hb3 (by omega)) (HCR.out.below hb3 (by omega)) (HBA.out.trans (hb3.mono (by omega)));rw [← HE.out.1,← HE.out.2.1,← HE.out.2.2] at hst;have HST:=Lib.hid hst
     clear hb2 hb3 hz hst)
  | (refine wpList_store_mid rfl 215 _ _ rfl w2.heap.size 0 CC rfl rfl (by rw [nC.out];exact HST.out.1) (by rw [nC.out];rfl) oC.out ?_)
  | (refine wpList_store_mid rfl 215 _ _ rfl (w2.heap.size+1) 0 CW rfl rfl (by rw [nW.out];exact HST.out.2.1) (by rw [nW.out];rfl) oW.out ?_)
  | (refine wpList_load_row rfl 205 _ rfl w.heap.size rfl _ _ _ _ HST.out.2.2.1 Tryz.underlying205 rfl (by rw [nS.out];rfl) ?_)
  | (refine wpList_store_mid rfl 205 _ _ rfl (w2.heap.size+2) 0 CS rfl rfl (by rw [nS.out];exact HST.out.2.2.2.1) (by rw [nS.out];rfl) oS.out ?_)
  | fail)
 go_loopw [22] (fun v wr=>∃ k:Nat,v=.int .i64 k∧k≤64∧AfterAt w.heap.size w2.heap.size w wr [s0,s1,s2,s3,s4,s5,s6,s7] (sched L) (roundsF [s0,s1,s2,s3,s4,s5,s6,s7] (sched L) k)) (fun v _=>64-(intOf v).toNat)
 case atStart=>exact ⟨0,rfl,by decide,HST.out.2.2.2.2⟩
 case round =>
  clear HCR HCS HCS' HBA HST KC KS HB1 oC oW oS nC nW nS;obtain ⟨k,rfl,hk,hat⟩:=hrel;obtain ⟨V,hV⟩:∃ x,x=roundsF [s0,s1,s2,s3,s4,s5,s6,s7] (sched L) k:=⟨_,rfl⟩;rw [← hV] at hat;have hlt8:∀ x∈V,x<4294967296:=by rw [hV];exact roundsF_lt _ _ HS.out k
  obtain ⟨x0,x1,x2,x3,x4,x5,x6,x7,hV8⟩:=eight V (by rw [hV];exact roundsF_len _ _ rfl k);obtain ⟨g0,g1,g2,g3,g4,g5,g6,g7⟩:=eight_lt (by rw [hV8] at hlt8;exact hlt8);rw [hV8] at hV;rw [hV8] at hat;clear hV8 hlt8;have HV:=Lib.hid hV;have HAT:=Lib.hid hat;clear hV hat;by_cases hlt:k<64
  · have y0:wr.cell? ⟨w2.heap.size+2,0,none⟩=some (.int .u32 (x0:Nat)):=HAT.out.x.cell (k:=0) (by simp)
    have y1:wr.cell? ⟨w2.heap.size+2,1,none⟩=some (.int .u32 (x1:Nat)):=HAT.out.x.cell (k:=1) (by simp);have y2:wr.cell? ⟨w2.heap.size+2,2,none⟩=some (.int .u32 (x2:Nat)):=HAT.out.x.cell (k:=2) (by simp);have y4:wr.cell? ⟨w2.heap.size+2,4,none⟩=some (.int .u32 (x4:Nat)):=HAT.out.x.cell (k:=4) (by simp);have y5:wr.cell? ⟨w2.heap.size+2,5,none⟩=some (.int .u32 (x5:Nat)):=HAT.out.x.cell (k:=5) (by simp);have y6:wr.cell? ⟨w2.heap.size+2,6,none⟩=some (.int .u32 (x6:Nat)):=HAT.out.x.cell (k:=6) (by simp);have y7:wr.cell? ⟨w2.heap.size+2,7,none⟩=some (.int .u32 (x7:Nat)):=HAT.out.x.cell (k:=7) (by simp);have yk:=HAT.out.k.cell (k:=k) (by simpa [consts] using hlt);have yw:=HAT.out.ws.cell (k:=k) (by rw [sched_len];exact hlt);obtain ⟨kk,hkk⟩:∃ x,consts.getD k 0=x:=⟨_,rfl⟩;obtain ⟨ww,hww⟩:∃ x,(sched L).getD k 0=x:=⟨_,rfl⟩;rw [hkk] at yk;rw [hww] at yw;have HK:=Lib.hid (And.intro hkk hww);have i0:(0:Int)≤(k:Int):=by omega
    have i2:(k:Int)<(64:Int):=by omega
    have G0:=Lib.hid g0;have G1:=Lib.hid g1;have G2:=Lib.hid g2;have G3:=Lib.hid g3;have G4:=Lib.hid g4;have G5:=Lib.hid g5;have G6:=Lib.hid g6;have G7:=Lib.hid g7;have HLT:=Lib.hid hlt;clear hkk hww hlt hk g0 g1 g2 g3 g4 g5 g6 g7;go_wp2_with fail;go_region_held3 (fun w'=>w'.cell? ⟨w2.heap.size+2,0,none⟩=some (.int .u32 x0)∧w'.cell? ⟨w2.heap.size+2,1,none⟩=some (.int .u32 x1)∧w'.cell? ⟨w2.heap.size+2,2,none⟩=some (.int .u32 x2)∧w'.cell? ⟨w2.heap.size+2,4,none⟩=some (.int .u32 x4)∧w'.cell? ⟨w2.heap.size+2,5,none⟩=some (.int .u32 x5)∧w'.cell? ⟨w2.heap.size+2,6,none⟩=some (.int .u32 x6)) (first|go_keep) (first|fail);go_wp2_with fail;clear y0 y1 y2 y4 y5 y6;go_region_held3 (fun w'=>w'.cell? ⟨w2.heap.size+2,7,none⟩=some (.int .u32 x7)∧w'.cell? ⟨w2.heap.size,k,none⟩=some (.int .u32 kk)∧w'.cell? ⟨w2.heap.size+1,k,none⟩=some (.int .u32 ww)) (first|go_keep) (first|(go_at_call 211;(with_reducible refine (turn_6 _ _ G4.out).mono ?_);rintro e w' ⟨rfl,rfl⟩)|(go_at_call 211;(with_reducible refine (turn_11 _ _ G4.out).mono ?_);rintro e w' ⟨rfl,rfl⟩)|(go_at_call 211;(with_reducible refine (turn_25 _ _ G4.out).mono ?_);rintro e w' ⟨rfl,rfl⟩));go_wp2_with (first|(go_at_call 211;(with_reducible refine (turn_2 _ _ G0.out).mono ?_);rintro e w' ⟨rfl,rfl⟩)|(go_at_call 211;(with_reducible refine (turn_13 _ _ G0.out).mono ?_);rintro e w' ⟨rfl,rfl⟩)|(go_at_call 211;(with_reducible refine (turn_22 _ _ G0.out).mono ?_);rintro e w' ⟨rfl,rfl⟩))
    rw [round_t x4 x5 x6 x7 kk ww G4.out G5.out G6.out,round_u x0 x1 x2 G0.out G1.out G2.out];obtain ⟨t,ht⟩:∃ t,t=add32 (add32 (add32 (add32 x7 (xor3 x4 6 11 25)) (xor32 (and32 x4 x5) (and32 (not32 x4) x6))) kk) ww:=⟨_,rfl⟩;obtain ⟨u,hu⟩:∃ u,u=add32 (xor3 x0 2 13 22) (xor32 (xor32 (and32 x0 x1) (and32 x0 x2)) (and32 x1 x2)):=⟨_,rfl⟩;rw [← ht,← hu];have HT:=Lib.hid (And.intro ht hu);clear ht hu y7 yk yw;go_region_law (refine step_copy_splice rfl (.tmp 85) (.tmp 86) _ _ rfl 198 rfl rfl (some ⟨w2.heap.size+1+1,1,none⟩) (some ⟨w2.heap.size+1+1,0,none⟩) 7 7 7 8 (by simp [Act.eval,Act.put]) (by simp [Act.eval,Act.put]) (w2.heap.size+1+1) 1 [.int .u32 x0,.int .u32 x1,.int .u32 x2,.int .u32 x3,.int .u32 x4,.int .u32 x5,.int .u32 x6,.int .u32 x7] 205 HAT.out.x [.int .u32 x0,.int .u32 x1,.int .u32 x2,.int .u32 x3,.int .u32 x4,.int .u32 x5,.int .u32 x6] rfl (fun _=>⟨rfl,_,rfl,cellsX HAT.out.x⟩) (Nat.le_refl 8) (ones [x0,x1,x2,x3,x4,x5,x6]) (w2.heap.size+1+1) wr ⟨rfl,rfl,rfl,Nat.le_refl _,fun _ _=>rfl⟩ (Nat.le_refl _) ?_;intro w4 hg4 hb4);have hat4:AfterAt w.heap.size w2.heap.size w w4 [s0,s1,s2,s3,s4,s5,s6,s7] (sched L) [x0,x0,x1,x2,x3,x4,x5,x6]:=HAT.out.turn HZ.out hb4 hg4.out;have z4:w4.cell? ⟨w2.heap.size+2,4,none⟩=some (.int .u32 (x3:Nat)):=hat4.x.cell (k:=4) (by simp);have z0:w4.cell? ⟨w2.heap.size+2,0,none⟩=some (.int .u32 (x0:Nat)):=hat4.x.cell (k:=0) (by simp);have f4:w4.frozen? ⟨w2.heap.size+2,4,none⟩=false:=hat4.x.free 4
    have f0:w4.frozen? ⟨w2.heap.size+2,0,none⟩=false:=hat4.x.free 0;have HA4:=Lib.hid hat4;clear hat4 hg4 hb4;go_wp2_with fail;go_roundw
    case rel =>
     refine ⟨k+1,by rfl,by have:=HLT.out;omega,?_⟩
     have e:roundsF [s0,s1,s2,s3,s4,s5,s6,s7] (sched L) (k+1)=[add32 t u,x0,x1,x2,add32 x3 t,x4,x5,x6]:=by
      show roundF (roundsF [s0,s1,s2,s3,s4,s5,s6,s7] (sched L) k) (consts.getD k 0) ((sched L).getD k 0)=_;rw [← HV.out,HK.out.1,HK.out.2,HT.out.1,HT.out.2];rfl
     rw [e,wrap_add32,wrap_add32];exact (HA4.out.put HZ.out 4 (add32 x3 t)).put HZ.out 0 (add32 t u)
    case measure=>have:=HLT.out;show 64-((k:Int)+1).toNat<64-(k:Int).toNat;omega
  · have ek:k=64:=by omega
    subst ek;clear hlt hk;go_wp2_with fail;rw [show ((64:Nat):Int)=64 from rfl];go_loopw [98] (fun v wr=>∃ j:Nat,v=.int .i64 j∧j≤8∧AfterAt w.heap.size w2.heap.size w wr [s0,s1,s2,s3,s4,s5,s6,s7] (sched L) (mixW [x0,x1,x2,x3,x4,x5,x6,x7] [s0,s1,s2,s3,s4,s5,s6,s7] j)) (fun v _=>8-(intOf v).toNat)
    case atStart=>exact ⟨0,rfl,by decide,by rw [mixW_zero];exact HAT.out⟩
    case round =>
     clear HAT;obtain ⟨j,rfl,hj,hat⟩:=hrel;have HAT:=Lib.hid hat;clear hat;by_cases hlt:j<8
     · have yx:wr.cell? ⟨w2.heap.size+2,j,none⟩=some (.int .u32 ([x0,x1,x2,x3,x4,x5,x6,x7].getD j 0:Nat)):=by
        rw [HAT.out.x.cell (k:=j) (by rw [mixW_len];exact hlt),mixW_at _ _ hlt]
       have ys:wr.cell? ⟨w.heap.size,j,none⟩=some (.int .u32 ([s0,s1,s2,s3,s4,s5,s6,s7].getD j 0:Nat)):=HAT.out.s.cell (k:=j) (by simpa using hlt);have fx:=HAT.out.x.free j;obtain ⟨xv,hxv⟩:∃ x,[x0,x1,x2,x3,x4,x5,x6,x7].getD j 0=x:=⟨_,rfl⟩;obtain ⟨sv,hsv⟩:∃ x,[s0,s1,s2,s3,s4,s5,s6,s7].getD j 0=x:=⟨_,rfl⟩;rw [hxv] at yx;rw [hsv] at ys;have HK:=Lib.hid (And.intro hxv hsv);have HLT:=Lib.hid hlt;have i0:(0:Int)≤(j:Int):=by omega
       have i2:(j:Int)<(8:Int):=by omega
       clear hxv hsv hlt hj;go_wp2_with fail;go_region_law (fail)
       all_goals
        go_wp2_with fail;go_roundw
        case rel =>
         refine ⟨j+1,by rfl,by have:=HLT.out;omega,?_⟩;have e:=mixW_step [x0,x1,x2,x3,x4,x5,x6,x7] [s0,s1,s2,s3,s4,s5,s6,s7] HLT.out;rw [HK.out.1,HK.out.2] at e;rw [← e,wrap_add32]
         first
          | exact HAT.out.put HZ.out j (add32 xv sv)
          | (refine AfterAt.turn (HAT.out.put HZ.out j (add32 xv sv)) HZ.out ⟨rfl,rfl,rfl,Nat.le_refl _,fun _ _=>rfl⟩ (HAT.out.put HZ.out j (add32 xv sv)).x)
        case measure=>have:=HLT.out;show 8-((j:Int)+1).toNat<8-(j:Int).toNat;omega
     · have ej:j=8:=by omega
       subst ej;have e:=mixW_last _ _ L HV.out;obtain ⟨A,hA⟩:∃ x,x=after [s0,s1,s2,s3,s4,s5,s6,s7] L:=⟨_,rfl⟩;have lA:A.length=8:=by rw [hA,after_len]
       have HAx:=HAT.out.x;rw [e,← hA] at HAx;have HX:=Lib.hid HAx;have HE':=Lib.hid (And.intro e hA);have lS:=Lib.hid (show (u32Cells A).size=8 by rw [u32Cells_size,lA]);have hset:=HAT.out.r.setAll A (by rw [lA];rfl);have HSET:=Lib.hid hset;clear hlt hj e hA lA HAx hset;go_wp2_with (first|(refine wpList_load_row rfl 205 _ rfl (w2.heap.size+2) rfl _ _ _ _ HX.out Tryz.underlying205 rfl (by rw [lS.out];rfl) ?_)|(refine wpList_store_mid rfl 205 _ _ rfl (w.heap.size+1) 0 (u32Cells A) rfl rfl (by rw [lS.out];exact HAT.out.r.there) (by rw [lS.out];rfl) (u32Cells_one _) ?_));refine bodyPost_ret (v:=.agg (u32Cells A)) ?_ ?_ ?_;rotate_left 2
       · exact ⟨by rw [HE'.out.2],Below.setCells (by omega) (u32Cells A).toList 0 wr HAT.out.bel⟩
       rotate_left 1
       · rfl
       exact results_cell_row Tryz.results200 _ _ (w.heap.size+1) 205 (u32Cells A) (0,0) _ rfl HSET.out Tryz.underlying205 rfl (by rw [lS.out];rfl)
end Go.Proofs.YtiacajjpkncomaaGreatDoor
namespace Go.Proofs.YtiacajjpkncomaaGreatDoor
open Go.RowKit
set_option maxRecDepth 100000
set_option linter.unusedVariables false
set_option maxHeartbeats 2000000
def sumS (s:ByteArray):ByteArray:=⟨(sumL s.data.toList).toArray⟩
def zerosOf (n:Nat):Nat:=(119-n%64)%64
def padTo (s:List UInt8) (j:Nat):List UInt8:=s++[128]++List.replicate j 0
def lenBytes (n i:Nat):List UInt8:=(List.range i).map fun i=>UInt8.ofNat (n*8/256^(7-i))
theorem padTo_len (s:List UInt8) (j:Nat):(padTo s j).length=s.length+1+j:=by simp [padTo];omega
theorem padTo_step (s:List UInt8) (j:Nat):padTo s j++[0]=padTo s (j+1):=by
 unfold padTo;rw [List.append_assoc,← List.replicate_succ']
theorem lenBytes_step (n i:Nat):lenBytes n i++[UInt8.ofNat (n*8/256^(7-i))]=lenBytes n (i+1):=by
 unfold lenBytes;rw [List.range_succ,List.map_append];rfl
theorem lenBytes_len (n i:Nat):(lenBytes n i).length=i:=by simp [lenBytes]
theorem padded_eq (s:List UInt8):padded s=padTo s (zerosOf s.length)++lenBytes s.length 8:=rfl
theorem row_one (w:World) (b:UInt8) (z:Int) (hz:z=(b.toNat:Int)) (T:TypeId):Row (w.alloc (.cells #[.int .u8 z] T)) w.heap.size 0 [b]:=by
 subst hz;exact (Bk.new w T [b]).row
theorem row_four (w:World) (a b c d:UInt8) (T:TypeId):Row (w.alloc (.cells #[.int .u8 a.toNat,.int .u8 b.toNat,.int .u8 c.toNat,.int .u8 d.toNat] T)) w.heap.size 0 [a,b,c,d]:=(Bk.new w T [a,b,c,d]).row
theorem after_lt (S:List Nat) (L:List UInt8):∀ x∈after S L,x<4294967296:=by
 intro x hx;unfold after at hx;obtain ⟨i,_,rfl⟩:=List.mem_map.mp hx;exact add32_lt _ _
theorem OwnB.alloc {w:World} {base:Nat} {v:Value} {n:Nat} {L:List UInt8} (h:OwnB w base v n L) (hb:base≤w.heap.size) (o:Obj):OwnB (w.alloc o) base v n L:=by
 refine ⟨h.1,h.2.1,?_⟩
 rcases h.2.2 with hn|⟨g,cap,cur,rfl,h1,hg,rest⟩
 · exact .inl hn
 · exact .inr ⟨g,cap,cur,rfl,h1,(Below.heap_alloc w o g (Array.getElem?_eq_some_iff.1 hg).1).trans hg,rest⟩
theorem conv_str {w:World} {g o:Nat} {L:List UInt8} (h:Row w g o L) (n c:Nat) (hn:L.length=n) :
  (convert 94 9 (.slice (some ⟨g,o,none⟩) n c)).run Tryz.prog w=.ok (.string ⟨L.toArray⟩) w:=by
 subst hn
 exact run_convert_bytes_back w 94 9 5 ⟨g,o,none⟩ c L Tryz.underlying94 Tryz.underlying5 Tryz.underlying9 (fun j hj=>by
  have:=h j hj;rw [getD_lt hj] at this
  rw [addr_add];exact this)
theorem outBytes_step (V:List Nat) (k:Nat) (h:k<V.length):outBytes (V.take k)++[UInt8.ofNat (V.getD k 0/16777216),UInt8.ofNat (V.getD k 0/65536),UInt8.ofNat (V.getD k 0/256),UInt8.ofNat (V.getD k 0)]=outBytes (V.take (k+1)):=by
 have e:V.getD k 0=V[k]:=by simp [List.getD,h]
 rw [List.take_succ_eq_append_getElem h,e];unfold outBytes;rw [List.flatMap_append];rfl
theorem idx_state (a b c d e f g h:Nat) (w:World):∀ k,k<8→(Instr.index 205 (.agg (u32Cells [a,b,c,d,e,f,g,h])) (.int .i64 (k:Nat))).run Tryz.prog w=.ok (.int .u32 ([a,b,c,d,e,f,g,h].getD k 0:Nat)) w
 | 0,_=>by kernel_rfl
 | 1,_=>by kernel_rfl
 | 2,_=>by kernel_rfl
 | 3,_=>by kernel_rfl
 | 4,_=>by kernel_rfl
 | 5,_=>by kernel_rfl
 | 6,_=>by kernel_rfl
 | 7,_=>by kernel_rfl
 | n+8,h=>absurd h (by omega)
theorem hash_Sum (s:ByteArray) (w:World) (hs:s.size≤100000) :
  Calls Tryz.prog 191 #[.string s] w fun e w'=>e=.returned (.string (sumS s))∧Below w.heap.size w w':=by
 have hlen:s.data.toList.length=s.size:=by rw [← Lib.size_eq]
 have HL:=Lib.hid hlen;obtain ⟨C,hC⟩:∃ C,C=s.size+72:=⟨_,rfl⟩;have hmk:=make_bytes_cap s.size C (by omega) (by omega);rw [show ((C:Nat):Int)=(s.size:Int)+72 by omega] at hmk
 have hB0:Bk (w.alloc (.cells (cellsOf (List.replicate C 0)) 5)) w.heap.size 5 (List.replicate s.size 0++List.replicate 72 0):=by
  rw [List.replicate_append_replicate,← hC];exact Bk.new _ _ _
 have HB0:=Lib.hid hB0;have HC:=Lib.hid hC;clear hC hB0 hlen;obtain ⟨CZ,hCZ⟩:∃ x,x=u32Cells state0:=⟨_,rfl⟩;have KF:=Lib.hid (fun w=>hash_first w);rw [← hCZ] at KF;have HCZ:=Lib.hid hCZ;have nZ:=Lib.hid (show CZ.size=8 by rw [hCZ];rfl);have oZ:=Lib.hid (show CZ.all (·.oneCell')=true by rw [hCZ];exact u32Cells_one _);clear hCZ
 go_enter Tryz.func191, Tryz.ntmps191
 go_wp2_with (first
  | (refine wpList_copy_str rfl (.tmp 16) (.tmp 17) _ rfl w.heap.size s.size C 5 (List.replicate s.size 0) (List.replicate 72 0) s rfl rfl (Nat.le_refl _) HB0.out (by simp) ?_
     intro w1 hb1 hbel1 _;have HM1:Hid (Mb w1 w.heap.size C s.data.toList):=Lib.hid ⟨by rw [HL.out,HC.out];omega,by rw [HL.out,show C-s.size=72 from by rw [HC.out];omega];exact hb1⟩;have HE1:=Lib.hid (hbel1 w.heap.size w (Nat.le_refl _) ((Below.refl _ _).alloc (Nat.le_refl _) _))
     clear hb1 hbel1)
  | (at_builtin;refine wpList_append_mb rfl (.tmp 19) (.tmp 20) rfl w.heap.size s.size C s.data.toList rfl (HM1.out.alloc _) HL.out _ 0 1 1 [128] rfl (row_one _ 128 128 rfl _) rfl (by rw [HC.out];omega) ?_
     intro w2 hm2 hb2;have HM2:Hid (Mb w2 w.heap.size C (padTo s.data.toList 0)):=Lib.hid (by unfold padTo;rw [List.replicate_zero,List.append_nil];exact hm2);have HE2:=Lib.hid (hb2 w.heap.size w (Nat.le_refl _) (HE1.out.alloc (by have:=HM1.out.lt;omega) _))
     clear hm2 hb2))
 have HZ:=Lib.hid (show zerosOf s.size<64∧(s.size+1+zerosOf s.size)%64=56∧∀ j,j<zerosOf s.size→(s.size+1+j)%64≠56 by unfold zerosOf;refine ⟨?_,?_,?_⟩<;>intros<;>omega);obtain ⟨Z,hZ⟩:∃ Z,Z=zerosOf s.size:=⟨_,rfl⟩;rw [← hZ] at HZ;have HZE:=Lib.hid hZ;clear hZ HM1 HE1 HB0 hmk;go_loopw [3] (fun v wr=>∃ m j:Nat,v=.slice (some ⟨w.heap.size,0,none⟩) m C∧m=s.size+1+j∧j≤Z∧Mb wr w.heap.size C (padTo s.data.toList j)∧Below w.heap.size w wr) (fun v _=>s.size+1+Z-sliceLen v)
 case atStart=>exact ⟨s.size+1,0,rfl,rfl,Nat.zero_le _,HM2.out,HE2.out⟩
 case round =>
  clear HM2 HE2;obtain ⟨m,j,rfl,hm,hj,hmb,hbe⟩:=hrel;have HM:=Lib.hid hmb;have HE:=Lib.hid hbe;have HMJ:=Lib.hid hm;have HLM:=Lib.hid (show (padTo s.data.toList j).length=m by rw [padTo_len,HL.out,hm]);have hm1:m≤100064:=by have:=HZ.out.1;omega
  clear hmb hbe;by_cases hlt:j<Z
  · have hq:m%64≠56:=by rw [hm];exact HZ.out.2.2 j hlt
    have q1:((m:Int)%64==56)=false:=by rw [beq_eq_false_iff_ne];omega
    have q2:(Int.tmod (m:Int) 64==56)=false:=by rw [Int.tmod_eq_emod_of_nonneg (by omega)];exact q1
    have HJ:=Lib.hid hlt;have HRM:=Lib.hid (show m+1≤C by have:=HZ.out.1;have:=HC.out;omega);clear hm hlt hj hq
    go_wp2_with (at_builtin;refine wpList_append_mb rfl (.tmp 26) (.tmp 27) rfl w.heap.size m C (padTo s.data.toList j) rfl (HM.out.alloc _) HLM.out _ 0 1 1 [0] rfl (row_one _ 0 0 rfl _) rfl HRM.out ?_
                 intro w3 hm3 hb3;rw [padTo_step] at hm3;have HM3:=Lib.hid hm3;have HE3:=Lib.hid (hb3 w.heap.size w (Nat.le_refl _) (HE.out.alloc (Nat.le_of_lt HM.out.lt) _))
                 clear hm3 hb3)
    go_roundw
    case rel=>exact ⟨m+1,j+1,rfl,by have:=HMJ.out;omega,HJ.out,HM3.out,HE3.out⟩
    case measure=>have:=HMJ.out;have:=HJ.out;simp only [sliceLen];omega
  · have ej:j=Z:=by omega
    subst ej;have hq:m%64=56:=by rw [hm];exact HZ.out.2.1
    have q1:((m:Int)%64==56)=true:=by rw [beq_iff_eq];omega
    have q2:(Int.tmod (m:Int) 64==56)=true:=by rw [Int.tmod_eq_emod_of_nonneg (by omega)];exact q1
    clear hm hlt hj hq;go_wp2_with fail;rw [show (((m:Int)%64) != 56)=false from by rw [bne,q1];rfl];go_loopw [3,5] (fun v3 v5 wr=>∃ (i m2:Nat) (z:Int),v3=.slice (some ⟨w.heap.size,0,none⟩) m2 C∧v5=.int .i64 z∧z=56-8*(i:Int)∧m2=m+i∧i≤8∧Mb wr w.heap.size C (padTo s.data.toList j++lenBytes s.size i)∧Below w.heap.size w wr) (fun _ v _=>(intOf v+8).toNat)
    case atStart=>exact ⟨0,m,56,rfl,rfl,rfl,rfl,by decide,by show Mb wr w.heap.size C (padTo s.data.toList j++[]);rw [List.append_nil];exact HM.out,HE.out⟩
    case round =>
     clear HM HE;obtain ⟨i,m2,z,rfl,rfl,hz,hm2,hi,hmb,hbe⟩:=hrel;have HM2:=Lib.hid hmb;have HE2:=Lib.hid hbe;have HMJ2:=Lib.hid hm2;have HLM2:=Lib.hid (show (padTo s.data.toList j++lenBytes s.size i).length=m2 by rw [List.length_append,lenBytes_len,HLM.out,hm2]);have HRM2:=Lib.hid (show i<8→m2+1≤C by have:=HZ.out.1;have:=HC.out;have:=HMJ.out;omega);have hm3:m2≤100072:=by omega
     clear hmb hbe q1 q2;have hcases:i=0∨i=1∨i=2∨i=3∨i=4∨i=5∨i=6∨i=7∨i=8:=by omega
     rcases hcases with rfl|rfl|rfl|rfl|rfl|rfl|rfl|rfl|rfl
     · obtain rfl:z=56:=by omega
       obtain ⟨b,hb⟩:∃ b,b=UInt8.ofNat (s.size*8/256^(7-0)):=⟨_,rfl⟩;have e:((s.size:Int)*8/72057594037927936)=(b.toNat:Int):=by rw [hb,UInt8.toNat_ofNat'];omega
       have HB:=Lib.hid hb;clear hb hz hi hm2
       go_wp2_with (at_builtin;refine wpList_append_mb rfl (.tmp 37) (.tmp 42) rfl w.heap.size m2 C (padTo s.data.toList j++lenBytes s.size 0) rfl (HM2.out.alloc _) HLM2.out _ 0 1 1 [b] rfl (row_one _ b _ rfl _) rfl (HRM2.out (by decide)) ?_
                    intro w3 hm3 hb3;rw [HB.out,List.append_assoc,lenBytes_step] at hm3;have HM3:=Lib.hid hm3;have HE3:=Lib.hid (hb3 w.heap.size w (Nat.le_refl _) (HE2.out.alloc (Nat.le_of_lt HM2.out.lt) _))
                    clear hm3 hb3)
       go_roundw
       case rel=>exact ⟨1,m2+1,48,rfl,rfl,rfl,by have:=HMJ2.out;omega,by decide,HM3.out,HE3.out⟩
       case measure=>simp [intOf]
     · obtain rfl:z=48:=by omega
       obtain ⟨b,hb⟩:∃ b,b=UInt8.ofNat (s.size*8/256^(7-1)):=⟨_,rfl⟩;have e:((s.size:Int)*8/281474976710656)=(b.toNat:Int):=by rw [hb,UInt8.toNat_ofNat'];omega
       have HB:=Lib.hid hb;clear hb hz hi hm2
       go_wp2_with (at_builtin;refine wpList_append_mb rfl (.tmp 37) (.tmp 42) rfl w.heap.size m2 C (padTo s.data.toList j++lenBytes s.size 1) rfl (HM2.out.alloc _) HLM2.out _ 0 1 1 [b] rfl (row_one _ b _ rfl _) rfl (HRM2.out (by decide)) ?_
                    intro w3 hm3 hb3;rw [HB.out,List.append_assoc,lenBytes_step] at hm3;have HM3:=Lib.hid hm3;have HE3:=Lib.hid (hb3 w.heap.size w (Nat.le_refl _) (HE2.out.alloc (Nat.le_of_lt HM2.out.lt) _))
                    clear hm3 hb3)
       go_roundw
       case rel=>exact ⟨2,m2+1,40,rfl,rfl,rfl,by have:=HMJ2.out;omega,by decide,HM3.out,HE3.out⟩
       case measure=>simp [intOf]
     · obtain rfl:z=40:=by omega
       obtain ⟨b,hb⟩:∃ b,b=UInt8.ofNat (s.size*8/256^(7-2)):=⟨_,rfl⟩;have e:((s.size:Int)*8/1099511627776)=(b.toNat:Int):=by rw [hb,UInt8.toNat_ofNat'];omega
       have HB:=Lib.hid hb;clear hb hz hi hm2
       go_wp2_with (at_builtin;refine wpList_append_mb rfl (.tmp 37) (.tmp 42) rfl w.heap.size m2 C (padTo s.data.toList j++lenBytes s.size 2) rfl (HM2.out.alloc _) HLM2.out _ 0 1 1 [b] rfl (row_one _ b _ rfl _) rfl (HRM2.out (by decide)) ?_
                    intro w3 hm3 hb3;rw [HB.out,List.append_assoc,lenBytes_step] at hm3;have HM3:=Lib.hid hm3;have HE3:=Lib.hid (hb3 w.heap.size w (Nat.le_refl _) (HE2.out.alloc (Nat.le_of_lt HM2.out.lt) _))
                    clear hm3 hb3)
       go_roundw
       case rel=>exact ⟨3,m2+1,32,rfl,rfl,rfl,by have:=HMJ2.out;omega,by decide,HM3.out,HE3.out⟩
       case measure=>simp [intOf]
     · obtain rfl:z=32:=by omega
       obtain ⟨b,hb⟩:∃ b,b=UInt8.ofNat (s.size*8/256^(7-3)):=⟨_,rfl⟩;have e:((s.size:Int)*8/4294967296)=(b.toNat:Int):=by rw [hb,UInt8.toNat_ofNat'];omega
       have HB:=Lib.hid hb;clear hb hz hi hm2
       go_wp2_with (at_builtin;refine wpList_append_mb rfl (.tmp 37) (.tmp 42) rfl w.heap.size m2 C (padTo s.data.toList j++lenBytes s.size 3) rfl (HM2.out.alloc _) HLM2.out _ 0 1 1 [b] rfl (row_one _ b _ rfl _) rfl (HRM2.out (by decide)) ?_
                    intro w3 hm3 hb3;rw [HB.out,List.append_assoc,lenBytes_step] at hm3;have HM3:=Lib.hid hm3;have HE3:=Lib.hid (hb3 w.heap.size w (Nat.le_refl _) (HE2.out.alloc (Nat.le_of_lt HM2.out.lt) _))
                    clear hm3 hb3)
       go_roundw
       case rel=>exact ⟨4,m2+1,24,rfl,rfl,rfl,by have:=HMJ2.out;omega,by decide,HM3.out,HE3.out⟩
       case measure=>simp [intOf]
     · obtain rfl:z=24:=by omega
       obtain ⟨b,hb⟩:∃ b,b=UInt8.ofNat (s.size*8/256^(7-4)):=⟨_,rfl⟩;have e:((s.size:Int)*8/16777216)=(b.toNat:Int):=by rw [hb,UInt8.toNat_ofNat'];omega
       have HB:=Lib.hid hb;clear hb hz hi hm2
       go_wp2_with (at_builtin;refine wpList_append_mb rfl (.tmp 37) (.tmp 42) rfl w.heap.size m2 C (padTo s.data.toList j++lenBytes s.size 4) rfl (HM2.out.alloc _) HLM2.out _ 0 1 1 [b] rfl (row_one _ b _ rfl _) rfl (HRM2.out (by decide)) ?_
                    intro w3 hm3 hb3;rw [HB.out,List.append_assoc,lenBytes_step] at hm3;have HM3:=Lib.hid hm3;have HE3:=Lib.hid (hb3 w.heap.size w (Nat.le_refl _) (HE2.out.alloc (Nat.le_of_lt HM2.out.lt) _))
                    clear hm3 hb3)
       go_roundw
       case rel=>exact ⟨5,m2+1,16,rfl,rfl,rfl,by have:=HMJ2.out;omega,by decide,HM3.out,HE3.out⟩
       case measure=>simp [intOf]
     · obtain rfl:z=16:=by omega
       obtain ⟨b,hb⟩:∃ b,b=UInt8.ofNat (s.size*8/256^(7-5)):=⟨_,rfl⟩;have e:((s.size:Int)*8/65536)=(b.toNat:Int):=by rw [hb,UInt8.toNat_ofNat'];omega
       have HB:=Lib.hid hb;clear hb hz hi hm2
       go_wp2_with (at_builtin;refine wpList_append_mb rfl (.tmp 37) (.tmp 42) rfl w.heap.size m2 C (padTo s.data.toList j++lenBytes s.size 5) rfl (HM2.out.alloc _) HLM2.out _ 0 1 1 [b] rfl (row_one _ b _ rfl _) rfl (HRM2.out (by decide)) ?_
                    intro w3 hm3 hb3;rw [HB.out,List.append_assoc,lenBytes_step] at hm3;have HM3:=Lib.hid hm3;have HE3:=Lib.hid (hb3 w.heap.size w (Nat.le_refl _) (HE2.out.alloc (Nat.le_of_lt HM2.out.lt) _))
                    clear hm3 hb3)
       go_roundw
       case rel=>exact ⟨6,m2+1,8,rfl,rfl,rfl,by have:=HMJ2.out;omega,by decide,HM3.out,HE3.out⟩
       case measure=>simp [intOf]
     · obtain rfl:z=8:=by omega
       obtain ⟨b,hb⟩:∃ b,b=UInt8.ofNat (s.size*8/256^(7-6)):=⟨_,rfl⟩;have e:((s.size:Int)*8/256%256)=(b.toNat:Int):=by rw [hb,UInt8.toNat_ofNat'];omega
       have HB:=Lib.hid hb;clear hb hz hi hm2
       go_wp2_with (at_builtin;refine wpList_append_mb rfl (.tmp 37) (.tmp 42) rfl w.heap.size m2 C (padTo s.data.toList j++lenBytes s.size 6) rfl (HM2.out.alloc _) HLM2.out _ 0 1 1 [b] rfl (row_one _ b _ rfl _) rfl (HRM2.out (by decide)) ?_
                    intro w3 hm3 hb3;rw [HB.out,List.append_assoc,lenBytes_step] at hm3;have HM3:=Lib.hid hm3;have HE3:=Lib.hid (hb3 w.heap.size w (Nat.le_refl _) (HE2.out.alloc (Nat.le_of_lt HM2.out.lt) _))
                    clear hm3 hb3)
       go_roundw
       case rel=>exact ⟨7,m2+1,0,rfl,rfl,rfl,by have:=HMJ2.out;omega,by decide,HM3.out,HE3.out⟩
       case measure=>simp [intOf]
     · obtain rfl:z=0:=by omega
       obtain ⟨b,hb⟩:∃ b,b=UInt8.ofNat (s.size*8/256^(7-7)):=⟨_,rfl⟩;have e:((s.size:Int)*8%256)=(b.toNat:Int):=by rw [hb,UInt8.toNat_ofNat',Nat.sub_self,Nat.pow_zero,Nat.div_one];omega
       have HB:=Lib.hid hb;clear hb hz hi hm2
       go_wp2_with (at_builtin;refine wpList_append_mb rfl (.tmp 37) (.tmp 42) rfl w.heap.size m2 C (padTo s.data.toList j++lenBytes s.size 7) rfl (HM2.out.alloc _) HLM2.out _ 0 1 1 [b] rfl (row_one _ b _ rfl _) rfl (HRM2.out (by decide)) ?_
                    intro w3 hm3 hb3;rw [HB.out,List.append_assoc,lenBytes_step] at hm3;have HM3:=Lib.hid hm3;have HE3:=Lib.hid (hb3 w.heap.size w (Nat.le_refl _) (HE2.out.alloc (Nat.le_of_lt HM2.out.lt) _))
                    clear hm3 hb3)
       go_roundw
       case rel=>exact ⟨8,m2+1,-8,rfl,rfl,rfl,by have:=HMJ2.out;omega,by decide,HM3.out,HE3.out⟩
       case measure=>simp [intOf]
     · obtain rfl:z=-8:=by omega
       clear hz hi hm2;obtain ⟨P,hP⟩:∃ P,P=padded s.data.toList:=⟨_,rfl⟩
       have hmp:Mb wr w.heap.size C P:=by
        rw [hP,padded_eq,HL.out,← HZE.out];exact HM2.out
       have hpl:P.length=m2:=by rw [hP,padded_eq,HL.out,← HZE.out,HLM2.out]
       have hnb:m2%64=0∧m2≤C:=by
        have:=HZ.out;have:=HMJ.out;have:=HMJ2.out;have:=HC.out;omega
       have HP:=Lib.hid hP;have HPL:=Lib.hid hpl;have HNB:=Lib.hid hnb;have HCB:=Lib.hid (show C≤100072 by have:=HC.out;omega);have HMP:=Lib.hid hmp;have HE3:=HE2;clear hP hmp hpl hnb HM2 HMJ2 HLM2 HRM2 HE2 HLM HMJ HZ HZE
       go_wp2_with (first
        | (go_at_call 199;(with_reducible refine (KF.out _).mono ?_);rintro e w4 ⟨rfl,hb4⟩
           have HG4:=Lib.hid (Nat.lt_of_lt_of_le HMP.out.lt hb4.size);have HM4:=Lib.hid (HMP.out.below hb4 HMP.out.lt);have HE4:=Lib.hid (HE3.out.trans (hb4.mono HE3.out.size));have hz4:=C32.new w4 205 (List.replicate 8 0);have HZ4:=Lib.hid hz4;have hx4:=hz4.setAll state0 rfl;rw [← HCZ.out] at hx4;have HX4:=Lib.hid hx4
           clear hb4 hz4 hx4)
        | (refine wpList_store_mid rfl 205 _ _ rfl w4.heap.size 0 CZ rfl rfl (by rw [nZ.out];exact HZ4.out.there) (by rw [nZ.out];rfl) oZ.out ?_))
       dsimp only [Act.put];go_loopw [3] (fun v3 wr=>∃ (i A r:Nat) (V:List Nat),v3=.slice (some ⟨w.heap.size,A,none⟩) r (C-64*i)∧r+64*i=m2∧(0<r→A=64*i)∧V.length=8∧(∀ x∈V,x<4294967296)∧blocksF (r/64) V (P.drop (64*i))=blocksF (m2/64) state0 P∧C32 wr w4.heap.size 205 V∧Mb wr w.heap.size C P∧Below w.heap.size w wr) (fun v _=>sliceLen v)
       case atStart=>exact ⟨0,0,m2,state0,rfl,rfl,fun _=>rfl,rfl,by decide,rfl,HX4.out,(HM4.out.alloc _).cells (Nat.ne_of_lt HG4.out) _ _,Below.setCells (Nat.le_of_lt HG4.out) _ _ _ (HE4.out.alloc (Nat.le_of_lt HG4.out) _)⟩
       case round =>
        clear HX4 HZ4 HM4 HE4 HMP HE3;obtain ⟨i,A,r,V,rfl,hr,hA,hV8,hVl,hbl,hx,hm,hbe⟩:=hrel;have HR:=Lib.hid hr;have HBL:=Lib.hid hbl;have HX:=Lib.hid hx;have HM:=Lib.hid hm;have HE:=Lib.hid hbe;clear hr hbl hx hm hbe;by_cases hlt:0<r
        · obtain rfl:A=64*i:=hA hlt
          have h64:64≤r:=by have:=HR.out;have:=HNB.out;omega
          obtain ⟨cc,hcc⟩:∃ cc,cc=C-64*i:=⟨_,rfl⟩;have hcc1:r≤cc:=by have:=HR.out;have:=HNB.out;omega
          have hcc2:cc≤1000000:=by have:=HCB.out;omega
          have HVL:=Lib.hid hVl;obtain ⟨v0,v1,v2,v3,v4,v5,v6,v7,rfl⟩:=eight V hV8;obtain ⟨Lb,hLb⟩:∃ Lb,Lb=(P.drop (64*i)).take 64:=⟨_,rfl⟩;have hLl:Lb.length=64:=by rw [hLb];simp;have:=HPL.out;have:=HR.out;omega
          obtain ⟨a0,a1,a2,a3,a4,a5,a6,a7,hAf⟩:=eight (after [v0,v1,v2,v3,v4,v5,v6,v7] Lb) (after_len _ _);obtain ⟨o,ho⟩:∃ o,o=64*i:=⟨_,rfl⟩;have KA:=Lib.hid (fun wq h1 h2=>hash_after w.heap.size o cc v0 v1 v2 v3 v4 v5 v6 v7 Lb wq hLl (by omega) hcc2 h1 h2 HVL.out);have e9:u32Cells (after [v0,v1,v2,v3,v4,v5,v6,v7] Lb)=#[.int .u32 a0,.int .u32 a1,.int .u32 a2,.int .u32 a3,.int .u32 a4,.int .u32 a5,.int .u32 a6,.int .u32 a7]:=by rw [hAf];rfl
          have e8:u32Cells [v0,v1,v2,v3,v4,v5,v6,v7]=#[.int .u32 v0,.int .u32 v1,.int .u32 v2,.int .u32 v3,.int .u32 v4,.int .u32 v5,.int .u32 v6,.int .u32 v7]:=rfl;rw [e9,e8] at KA;have HAF:=Lib.hid hAf;have HLB:=Lib.hid hLb;have HO:=Lib.hid ho;have HCC:=Lib.hid hcc;rw [← hcc,← ho]
          have hrow:Row wr.drew w.heap.size o Lb:=by
           have:=(HM.out.row.drop (64*i)).take 64;rw [Nat.zero_add,← hLb,← ho] at this;exact this
          have HRW:=Lib.hid hrow;have HXD:Hid (C32 wr.drew w4.heap.size 205 [v0,v1,v2,v3,v4,v5,v6,v7]):=Lib.hid HX.out;have HMD:Hid (Mb wr.drew w.heap.size C P):=Lib.hid HM.out;have HGT:Hid (w.heap.size<wr.drew.heap.size):=Lib.hid HM.out.lt;have y0:wr.cell? ⟨w4.heap.size,0,none⟩=some (.int .u32 (v0:Nat)):=HX.out.cell (k:=0) (by simp);have y1:wr.cell? ⟨w4.heap.size,1,none⟩=some (.int .u32 (v1:Nat)):=HX.out.cell (k:=1) (by simp);have y2:wr.cell? ⟨w4.heap.size,2,none⟩=some (.int .u32 (v2:Nat)):=HX.out.cell (k:=2) (by simp);have y3:wr.cell? ⟨w4.heap.size,3,none⟩=some (.int .u32 (v3:Nat)):=HX.out.cell (k:=3) (by simp);have y4:wr.cell? ⟨w4.heap.size,4,none⟩=some (.int .u32 (v4:Nat)):=HX.out.cell (k:=4) (by simp);have y5:wr.cell? ⟨w4.heap.size,5,none⟩=some (.int .u32 (v5:Nat)):=HX.out.cell (k:=5) (by simp);have y6:wr.cell? ⟨w4.heap.size,6,none⟩=some (.int .u32 (v6:Nat)):=HX.out.cell (k:=6) (by simp);have y7:wr.cell? ⟨w4.heap.size,7,none⟩=some (.int .u32 (v7:Nat)):=HX.out.cell (k:=7) (by simp);have p0:(0:Int)<(r:Int):=by omega
          have p64:64≤cc:=by omega
          clear e9 e8 hAf hLb ho hcc hrow hA hlt hV8;go_wp2_with fail
          go_region_with (first
           | (go_at_call 200;(with_reducible refine (KA.out _ HRW.out HGT.out).mono ?_);rintro e w6 ⟨rfl,hb6⟩
              have HX6:=Lib.hid (HXD.out.below hb6 HXD.out.lt);have HM6:=Lib.hid (HMD.out.below hb6 HGT.out);have HE6:=Lib.hid (HE.out.drew.trans (hb6.mono (Nat.le_of_lt HGT.out)));have z0:=HX6.out.cell (k:=0) (by simp);have f0:=HX6.out.free 0;have z1:=HX6.out.cell (k:=1) (by simp);have f1:=HX6.out.free 1;have z2:=HX6.out.cell (k:=2) (by simp);have f2:=HX6.out.free 2;have z3:=HX6.out.cell (k:=3) (by simp);have f3:=HX6.out.free 3;have z4:=HX6.out.cell (k:=4) (by simp);have f4:=HX6.out.free 4;have z5:=HX6.out.cell (k:=5) (by simp);have f5:=HX6.out.free 5;have z6:=HX6.out.cell (k:=6) (by simp);have f6:=HX6.out.free 6;have z7:=HX6.out.cell (k:=7) (by simp);have f7:=HX6.out.free 7
              clear hb6))
          all_goals
           go_wp2_with fail;go_roundw
           case rel =>
            refine ⟨i+1,if cc=64 then o else o+64,r-64,[a0,a1,a2,a3,a4,a5,a6,a7],?_,?_,?_,rfl,?_,?_,?_,?_,?_⟩
            · rw [show C-64*(i+1)=cc-64 by rw [HCC.out];omega]
              split<;>rfl
            · have:=HR.out;omega
            · intro h;rw [if_neg (by omega),HO.out];omega
            · rw [← HAF.out];exact after_lt _ _
            · have h:=HBL.out
              rw [show r/64=(r-64)/64+1 by omega] at h;rw [← h];show _=blocksF ((r-64)/64) (after [v0,v1,v2,v3,v4,v5,v6,v7] ((P.drop (64*i)).take 64)) ((P.drop (64*i)).drop 64);rw [← HLB.out,HAF.out,List.drop_drop,Nat.mul_add]
            · exact (((((((HX6.out.set 0 a0).set 1 a1).set 2 a2).set 3 a3).set 4 a4).set 5 a5).set 6 a6).set 7 a7
            · have ne:=Nat.ne_of_lt HG4.out
              exact (((((((HM6.out.far ne _).far ne _).far ne _).far ne _).far ne _).far ne _).far ne _).far ne _
            · have le:=Nat.le_of_lt HG4.out
              exact (((((((HE6.out.setCell (p:=⟨_,0,none⟩) le _).setCell (p:=⟨_,1,none⟩) le _).setCell (p:=⟨_,2,none⟩) le _).setCell (p:=⟨_,3,none⟩) le _).setCell (p:=⟨_,4,none⟩) le _).setCell (p:=⟨_,5,none⟩) le _).setCell (p:=⟨_,6,none⟩) le _).setCell (p:=⟨_,7,none⟩) le _
           case measure=>simp only [sliceLen];omega
        · obtain rfl:r=0:=by omega
          have HVL:=Lib.hid hVl
          have hsum:outBytes V=sumL s.data.toList:=by
           unfold sumL;rw [← HP.out,HPL.out];have h:=HBL.out;rw [show 0/64=0 from rfl] at h;rw [← h];rfl
          obtain ⟨v0,v1,v2,v3,v4,v5,v6,v7,rfl⟩:=eight V hV8;have HSUM:=Lib.hid hsum;obtain ⟨CV,hCV⟩:∃ x,x=u32Cells [v0,v1,v2,v3,v4,v5,v6,v7]:=⟨_,rfl⟩;have hxv:wr.heap[w4.heap.size]?=some (.cells CV 205 (0,0)):=by rw [hCV];exact HX.out
          have HXV:=Lib.hid hxv;have nV:=Lib.hid (show CV.size=8 by rw [hCV];rfl);have HIX:Hid (∀ k,k<8→∀ w,(Instr.index 205 (.agg CV) (.int .i64 (k:Nat))).run Tryz.prog w=.ok (.int .u32 ([v0,v1,v2,v3,v4,v5,v6,v7].getD k 0:Nat)) w):=Lib.hid (by rw [hCV];exact fun k hk w=>idx_state v0 v1 v2 v3 v4 v5 v6 v7 w k hk);clear hsum hV8 hVl hlt hA hxv hCV;go_wp2_with (first|(refine wpList_load_row rfl 205 _ rfl w4.heap.size rfl _ _ _ _ HXV.out Tryz.underlying205 rfl (by rw [nV.out];rfl) ?_));go_loopw [7,55] (fun u7 v55 wr=>∃ k:Nat,v55=.int .i64 k∧k≤8∧OwnB wr w.heap.size u7 (4*k) (outBytes (List.take k [v0,v1,v2,v3,v4,v5,v6,v7]))∧Below w.heap.size w wr) (fun _ v _=>8-(intOf v).toNat)
          case atStart=>exact ⟨0,rfl,by decide,OwnB.nil_ _ _,HE.out⟩
          case round =>
           clear HX HM HE HBL HR HXV;obtain ⟨k,rfl,hk,how,hbe⟩:=hrel;have HOW:=Lib.hid how;have HEB:=Lib.hid hbe;have HES:=Lib.hid hbe.size;clear how hbe;by_cases hlt:k<8
           · have hix:=HIX.out k hlt
             obtain ⟨x,hx⟩:∃ x,[v0,v1,v2,v3,v4,v5,v6,v7].getD k 0=x:=⟨_,rfl⟩;rw [hx] at hix;obtain ⟨b3,h3⟩:∃ b,b=UInt8.ofNat (x/16777216):=⟨_,rfl⟩;obtain ⟨b2,h2⟩:∃ b,b=UInt8.ofNat (x/65536):=⟨_,rfl⟩;obtain ⟨b1,h1⟩:∃ b,b=UInt8.ofNat (x/256):=⟨_,rfl⟩;obtain ⟨b0,h0⟩:∃ b,b=UInt8.ofNat x:=⟨_,rfl⟩;have e3:((x:Int)/16777216%256)=(b3.toNat:Int):=by rw [h3,UInt8.toNat_ofNat'];omega
             have e2:((x:Int)/65536%256)=(b2.toNat:Int):=by rw [h2,UInt8.toNat_ofNat'];omega
             have e1:((x:Int)/256%256)=(b1.toNat:Int):=by rw [h1,UInt8.toNat_ofNat'];omega
             have e0:((x:Int)%256)=(b0.toNat:Int):=by rw [h0,UInt8.toNat_ofNat'];omega
             have HBS:=Lib.hid (show outBytes (List.take k [v0,v1,v2,v3,v4,v5,v6,v7])++[b3,b2,b1,b0]=outBytes (List.take (k+1) [v0,v1,v2,v3,v4,v5,v6,v7]) by
              rw [h3,h2,h1,h0,← hx]
              exact outBytes_step _ k (by simpa using hlt))
             have HLT:=Lib.hid hlt;have p8:(k:Int)<8:=by omega
             clear h3 h2 h1 h0 hx hlt hk
             go_wp2_with (at_builtin;refine wpList_append_own rfl (.tmp 58) (.tmp 70) rfl w.heap.size u7 (4*k) _ rfl (HOW.out.alloc HES.out _) _ 0 4 4 [b3,b2,b1,b0] rfl (row_four _ b3 b2 b1 b0 _) (by simp) rfl (by have:=HLT.out;omega) (by have:=HES.out;simp;omega) ?_
                          intro v9 w9 hown9 hb9;rw [HBS.out] at hown9;have HO9:=Lib.hid hown9;have HE9:=Lib.hid ((HEB.out.alloc HES.out _).trans hb9)
                          clear hown9 hb9)
             go_roundw
             case rel=>exact ⟨k+1,rfl,HLT.out,HO9.out,HE9.out⟩
             case measure=>have:=HLT.out;show 8-((k:Int)+1).toNat<8-(k:Int).toNat;omega
           · obtain rfl:k=8:=by omega
             rcases HOW.out.form HES.out with ⟨rfl,h0⟩|⟨g7,c7,rfl,hb7,hl7,hc7,hr7⟩
             · cases h0
             · have hcv:=conv_str hr7 32 c7 HOW.out.1
               have e7:(⟨(outBytes (List.take 8 [v0,v1,v2,v3,v4,v5,v6,v7])).toArray⟩:ByteArray)=sumS s:=by unfold sumS;rw [← HSUM.out];rfl
               rw [e7] at hcv;clear e7 hr7 hb7 hl7;go_wp2_with fail;go_ret;exact ⟨rfl,HEB.out⟩
end Go.Proofs.YtiacajjpkncomaaGreatDoor
namespace Go.Proofs.YtiacajjpkncomaaGreatDoor
open Go.RowKit
set_option maxRecDepth 100000
set_option linter.unusedVariables false
set_option maxHeartbeats 2000000
def macS (key s:ByteArray):ByteArray:=⟨(macL key.data.toList s.data.toList).toArray⟩
def padK (k:ByteArray):List UInt8:=k.data.toList++List.replicate (64-k.size) 0
def xorK (L:List UInt8) (x:UInt8) (i:Nat):List UInt8:=(L.take i).map (· ^^^ x)++L.drop i
theorem padK_len (k:ByteArray) (h:k.size≤64):(padK k).length=64:=by
 have hlen:k.data.toList.length=k.size:=by rw [← Lib.size_eq]
 unfold padK;rw [List.length_append,List.length_replicate,hlen];omega
theorem xorK_len (L:List UInt8) (x:UInt8) (i:Nat):(xorK L x i).length=L.length:=by
 unfold xorK;rw [List.length_append,List.length_map,List.length_take,List.length_drop];omega
theorem xorK_at (L:List UInt8) (x:UInt8) (i:Nat) (h:i<L.length):(xorK L x i).getD i 0=L.getD i 0:=by
 unfold xorK;rw [List.getD_eq_getElem?_getD,List.getD_eq_getElem?_getD,List.getElem?_append_right (by simp;omega),List.getElem?_drop];simp [Nat.min_eq_left (Nat.le_of_lt h)]
theorem xorK_step (L:List UInt8) (x:UInt8) (i:Nat) (h:i<L.length):(xorK L x i).set i (L.getD i 0 ^^^ x)=xorK L x (i+1):=by
 unfold xorK;have hl:((L.take i).map (· ^^^ x)).length=i:=by simp;omega
 rw [List.set_append_right _ _ (by omega),hl,Nat.sub_self,List.drop_eq_getElem_cons h,List.set_cons_zero,List.take_succ_eq_append_getElem h,List.map_append,List.append_assoc,getD_lt h];rfl
theorem padK_at (k:ByteArray) (j:Nat):(padK k).getD j 0=k.data.toList.getD j 0:=by
 unfold padK;rw [List.getD_eq_getElem?_getD,List.getD_eq_getElem?_getD];by_cases hk:j<k.data.toList.length
 · rw [List.getElem?_append_left hk]
 · rw [List.getElem?_append_right (by omega),List.getElem?_replicate,List.getElem?_eq_none (by omega:k.data.toList.length≤j)]
   split<;>rfl
theorem xorK_last (k:ByteArray) (x:UInt8) (h:k.size≤64):xorK (padK k) x 64=(List.range 64).map fun i=>k.data.toList.getD i 0 ^^^ x:=by
 have hlen:k.data.toList.length=k.size:=by rw [← Lib.size_eq]
 unfold xorK;rw [List.drop_eq_nil_of_le (by rw [padK_len k h];exact Nat.le_refl _),List.append_nil,List.take_of_length_le (by rw [padK_len k h];exact Nat.le_refl _)];apply List.ext_getElem?;intro j;rw [List.getElem?_map,List.getElem?_map];by_cases hj:j<64
 · rw [List.getElem?_range hj]
   have hj2:j<(padK k).length:=by rw [padK_len k h];exact hj
   rw [List.getElem?_eq_getElem hj2];simp only [Option.map_some];rw [← getD_lt hj2,padK_at]
 · rw [List.getElem?_eq_none (by rw [padK_len k h];omega),List.getElem?_eq_none (by simp;omega)]
   rfl
theorem u8_xor (a b:UInt8):bits .xor .u8 (a.toNat:Int) (b.toNat:Int)=((a ^^^ b).toNat:Int):=by
 have hx:∀ a:UInt8,(BitVec.ofInt 8 (a.toNat:Int)).toNat=a.toNat:=by
  intro a;rw [BitVec.toNat_ofInt];have:=byte_lt a;omega
 show IntKind.u8.wrap ((BitVec.ofInt 8 (a.toNat:Int) ^^^ BitVec.ofInt 8 (b.toNat:Int)).toNat:Int)=_;rw [BitVec.toNat_xor,hx,hx,UInt8.toNat_xor];have h2:a.toNat ^^^ b.toNat<2^8:=Nat.xor_lt_two_pow (byte_lt a) (byte_lt b);simp only [IntKind.wrap,IntKind.bits,IntKind.signed];simp;omega
theorem macS_eq (key s K:ByteArray) (hK:K=if 64<key.size then sumS key else key) (h:K.size≤64) :
  macS key s=sumS (⟨(xorK (padK K) 92 64).toArray⟩++sumS (⟨(xorK (padK K) 54 64).toArray⟩++s)):=by
 have hl:key.data.toList.length=key.size:=by rw [← Lib.size_eq]
 have e:(if 64<key.data.toList.length then sumL key.data.toList else key.data.toList)=K.data.toList:=by
  rw [hK,hl]
  split<;>rfl
 rw [xorK_last K 92 h,xorK_last K 54 h];unfold macS macL;simp only [e];unfold sumS;simp
theorem outBytes_len (s:List Nat):(outBytes s).length=4*s.length:=by
 unfold outBytes
 induction s with
 | nil=>rfl
 | cons a s ih=>rw [List.flatMap_cons,List.length_append,ih];simp;omega
theorem blocksF_len:∀ (k:Nat) (s:List Nat) (m:List UInt8),s.length=8→(blocksF k s m).length=8:=by
 intro k
 induction k with
 | zero=>intro s m h;exact h
 | succ k ih=>intro s m h;exact ih _ _ (after_len _ _)
theorem sumS_size (s:ByteArray):(sumS s).size=32:=by
 show (sumL s.data.toList).toArray.size=32;rw [List.size_toArray];unfold sumL;rw [outBytes_len,blocksF_len _ _ _ rfl]
theorem key_room (w:World) (K:ByteArray) (h:K.size≤64) :
  Bk ((w.alloc (.cells (cellsOf (List.replicate 64 0)) 171)).alloc (.cells (cellsOf (List.replicate 64 0)) 171)) w.heap.size 171 (List.replicate K.size 0++List.replicate (64-K.size) 0) ∧
  Bk ((w.alloc (.cells (cellsOf (List.replicate 64 0)) 171)).alloc (.cells (cellsOf (List.replicate 64 0)) 171)) (w.heap.size+1) 171 (List.replicate K.size 0++List.replicate (64-K.size) 0):=by
 rw [List.replicate_append_replicate,show K.size+(64-K.size)=64 by omega];refine ⟨(Bk.new w _ _).alloc _,?_⟩;have:=Bk.new (w.alloc (.cells (cellsOf (List.replicate 64 0)) 171)) 171 (List.replicate 64 0);rw [World.size_alloc] at this;exact this
theorem hash_Mac (key s:ByteArray) (w:World) (hk:key.size≤100000) (hs:s.size≤90000) :
  Calls Tryz.prog 175 #[.string key,.string s] w fun e w'=>e=.returned (.string (macS key s))∧Below w.heap.size w w':=by
 by_cases h64:64<key.size
 · obtain ⟨K,hK⟩:∃ K,K=sumS key:=⟨_,rfl⟩
   have hKK:K=if 64<key.size then sumS key else key:=by rw [if_pos h64];exact hK
   have hK64:K.size≤64:=by rw [hK,sumS_size];decide
   have h65:(64:Int)<(key.size:Int):=by omega
   have KS:=Lib.hid (fun wq=>hash_Sum key wq hk);rw [← hK] at KS;clear hK;obtain ⟨I,hI⟩:∃ I:ByteArray,I=⟨(xorK (padK K) 54 64).toArray⟩:=⟨_,rfl⟩;obtain ⟨O,hO⟩:∃ O:ByteArray,O=⟨(xorK (padK K) 92 64).toArray⟩:=⟨_,rfl⟩;obtain ⟨M1,hM1⟩:∃ M,M=sumS (I++s):=⟨_,rfl⟩;obtain ⟨R,hR⟩:∃ R,R=sumS (O++M1):=⟨_,rfl⟩;have hres:R=macS key s:=by rw [macS_eq key s K hKK hK64,← hI,← hO,← hM1,← hR]
   have sI:I.size=64:=by rw [hI];show (xorK (padK K) 54 64).toArray.size=64;rw [List.size_toArray,xorK_len,padK_len _ hK64]
   have sO:O.size=64:=by rw [hO];show (xorK (padK K) 92 64).toArray.size=64;rw [List.size_toArray,xorK_len,padK_len _ hK64]
   have sM:M1.size=32:=by rw [hM1];exact sumS_size _
   have KI:=Lib.hid (fun wq=>hash_Sum (I++s) wq (by rw [ByteArray.size_append];omega));have KO:=Lib.hid (fun wq=>hash_Sum (O++M1) wq (by rw [ByteArray.size_append];omega));rw [← hM1] at KI;rw [← hR] at KO;have HRES:=Lib.hid hres;have HI:=Lib.hid hI;have HO:=Lib.hid hO;have HK64:=Lib.hid hK64;have HPL:=Lib.hid (padK_len K hK64);clear hI hO hM1 hR hres hKK hK64
   go_enter Tryz.func175, Tryz.ntmps175
   go_wp2_with (first
    | (go_at_call 191;(with_reducible refine (KS.out _).mono ?_);rintro e w0 ⟨rfl,hb0⟩
       have HB0:=Lib.hid hb0
       clear hb0)
    | (refine wpList_copy_str rfl (.tmp 13) (.tmp 14) _ rfl w0.heap.size 64 64 171 (List.replicate K.size 0) (List.replicate (64-K.size) 0) K rfl rfl HK64.out (key_room w0 K HK64.out).1 (by simp) ?_
       intro w1 hb1 hbel1 hfar1;have HB1:=Lib.hid hb1;have HC1:=Lib.hid ((hfar1 (w0.heap.size+1) (by omega)).trans (key_room w0 K HK64.out).2);have HE1:=Lib.hid (hbel1 w0.heap.size w0 (Nat.le_refl _) (((Below.refl _ _).alloc (Nat.le_refl _) _).alloc (by simp) _))
       clear hb1 hbel1 hfar1)
    | (refine wpList_copy_str rfl (.tmp 16) (.tmp 17) _ rfl (w0.heap.size+1) 64 64 171 (List.replicate K.size 0) (List.replicate (64-K.size) 0) K rfl rfl HK64.out HC1.out (by simp) ?_
       intro w2 hb2 hbel2 hfar2;have HB2:=Lib.hid ((hfar2 w0.heap.size (by omega)).trans HB1.out);have HC2:=Lib.hid hb2;have HE2:=Lib.hid (hbel2 w0.heap.size w0 (by omega) HE1.out)
       clear hb2 hbel2 hfar2))
   go_loopw [19] (fun v wr=>∃ i:Nat,v=.int .i64 i∧i≤64∧Bk wr w0.heap.size 171 (xorK (padK K) 54 i)∧Bk wr (w0.heap.size+1) 171 (xorK (padK K) 92 i)∧Below w0.heap.size w0 wr) (fun v _=>64-(intOf v).toNat)
   case atStart=>exact ⟨0,rfl,by decide,HB2.out,HC2.out,HE2.out⟩
   case round =>
    clear HB2 HC2 HE2;obtain ⟨i,rfl,hi,hbi,hbo,hbe⟩:=hrel;have HBI:=Lib.hid hbi;have HBO:=Lib.hid hbo;have HE:=Lib.hid hbe;clear hbi hbo hbe;by_cases hlt:i<64
    · have hci:=HBI.out.cell (k:=i) (by rw [xorK_len,HPL.out];exact hlt)
      have hco:=HBO.out.cell (k:=i) (by rw [xorK_len,HPL.out];exact hlt);rw [xorK_at _ _ _ (by rw [HPL.out];exact hlt)] at hci hco;obtain ⟨b,hb⟩:∃ b,(padK K).getD i 0=b:=⟨_,rfl⟩;rw [hb] at hci hco;obtain ⟨bi,hbi⟩:∃ x,x=b ^^^ 54:=⟨_,rfl⟩;obtain ⟨bo,hbo⟩:∃ x,x=b ^^^ 92:=⟨_,rfl⟩;have ei:bits .xor .u8 (b.toNat:Int) 54=(bi.toNat:Int):=by rw [hbi];exact u8_xor b 54
      have eo:bits .xor .u8 (b.toNat:Int) 92=(bo.toNat:Int):=by rw [hbo];exact u8_xor b 92
      have fi:=HBI.out.free i;have fo:=HBO.out.free i;have HSI:=Lib.hid (show (xorK (padK K) 54 i).set i bi=xorK (padK K) 54 (i+1) by rw [hbi,← hb];exact xorK_step _ _ _ (by rw [HPL.out];exact hlt));have HSO:=Lib.hid (show (xorK (padK K) 92 i).set i bo=xorK (padK K) 92 (i+1) by rw [hbo,← hb];exact xorK_step _ _ _ (by rw [HPL.out];exact hlt));have i0:(0:Int)≤(i:Int):=by omega
      have i1:(i:Int)<64:=by omega
      have HLT:=Lib.hid hlt;clear hb hbi hbo hlt hi;go_wp2_with fail;go_roundw
      case rel =>
       refine ⟨i+1,rfl,HLT.out,?_,?_,?_⟩
       · rw [← HSI.out];exact (HBI.out.set i bi).far (by simp) _
       · rw [← HSO.out];exact (HBO.out.far (by simp) _).set i bo
       · exact (HE.out.setCell (p:=⟨w0.heap.size,i,none⟩) (Nat.le_refl _) _).setCell (p:=⟨w0.heap.size+1,i,none⟩) (Nat.le_succ _) _
      case measure=>have:=HLT.out;show 64-((i:Int)+1).toNat<64-(i:Int).toNat;omega
    · obtain rfl:i=64:=by omega
      have hcv (wq:World) (hI:Row wq w0.heap.size 0 (xorK (padK K) 54 64)) (hO:Row wq (w0.heap.size+1) 0 (xorK (padK K) 92 64)) :
        (convert 94 9 (.slice (some ⟨w0.heap.size,0,none⟩) 64 64)).run Tryz.prog wq=.ok (.string I) wq∧(convert 94 9 (.slice (some ⟨w0.heap.size+1,0,none⟩) 64 64)).run Tryz.prog wq=.ok (.string O) wq:=by
       rw [HI.out,HO.out];exact ⟨conv_str hI 64 64 (by rw [xorK_len,HPL.out]),conv_str hO 64 64 (by rw [xorK_len,HPL.out])⟩
      have HCV:=Lib.hid hcv;obtain ⟨q1,q2⟩:=hcv wr.drew HBI.out.row HBO.out.row;have HBID:Hid (Bk wr.drew w0.heap.size 171 (xorK (padK K) 54 64)):=Lib.hid HBI.out;have HBOD:Hid (Bk wr.drew (w0.heap.size+1) 171 (xorK (padK K) 92 64)):=Lib.hid HBO.out;clear hcv hlt hi;go_wp2_with fail
      go_region_with (first
       | (go_at_call 191;(with_reducible refine (KI.out _).mono ?_);rintro e w7 ⟨rfl,hb7⟩
          obtain ⟨q3,q4⟩:=HCV.out w7 (HBID.out.below hb7 HBID.out.lt).row (HBOD.out.below hb7 HBOD.out.lt).row;have HE7:=Lib.hid (HE.out.drew.trans (hb7.mono HE.out.drew.size))
          clear hb7)
       | (go_at_call 191;(with_reducible refine (KO.out _).mono ?_);rintro e w8 ⟨rfl,hb8⟩
          have HE8:=Lib.hid (HE7.out.trans (hb8.mono HE7.out.size))
          clear hb8))
      all_goals
       go_wp2_with fail;go_ret;exact ⟨ret_string HRES.out,HB0.out.trans (HE8.out.mono HB0.out.size)⟩
 · have hKK:key=if 64<key.size then sumS key else key:=by rw [if_neg h64]
   have hK64:key.size≤64:=by omega
   have h65:¬ (64:Int)<(key.size:Int):=by omega
   obtain ⟨I,hI⟩:∃ I:ByteArray,I=⟨(xorK (padK key) 54 64).toArray⟩:=⟨_,rfl⟩;obtain ⟨O,hO⟩:∃ O:ByteArray,O=⟨(xorK (padK key) 92 64).toArray⟩:=⟨_,rfl⟩;obtain ⟨M1,hM1⟩:∃ M,M=sumS (I++s):=⟨_,rfl⟩;obtain ⟨R,hR⟩:∃ R,R=sumS (O++M1):=⟨_,rfl⟩;have hres:R=macS key s:=by rw [macS_eq key s key hKK hK64,← hI,← hO,← hM1,← hR]
   have sI:I.size=64:=by rw [hI];show (xorK (padK key) 54 64).toArray.size=64;rw [List.size_toArray,xorK_len,padK_len _ hK64]
   have sO:O.size=64:=by rw [hO];show (xorK (padK key) 92 64).toArray.size=64;rw [List.size_toArray,xorK_len,padK_len _ hK64]
   have sM:M1.size=32:=by rw [hM1];exact sumS_size _
   have KI:=Lib.hid (fun wq=>hash_Sum (I++s) wq (by rw [ByteArray.size_append];omega));have KO:=Lib.hid (fun wq=>hash_Sum (O++M1) wq (by rw [ByteArray.size_append];omega));rw [← hM1] at KI;rw [← hR] at KO;have HRES:=Lib.hid hres;have HI:=Lib.hid hI;have HO:=Lib.hid hO;have HK64:=Lib.hid hK64;have HPL:=Lib.hid (padK_len key hK64);clear hI hO hM1 hR hres hKK hK64
   go_enter Tryz.func175, Tryz.ntmps175
   go_wp2_with (first
    | fail
    | (refine wpList_copy_str rfl (.tmp 13) (.tmp 14) _ rfl w.heap.size 64 64 171 (List.replicate key.size 0) (List.replicate (64-key.size) 0) key rfl rfl HK64.out (key_room w key HK64.out).1 (by simp) ?_
       intro w1 hb1 hbel1 hfar1;have HB1:=Lib.hid hb1;have HC1:=Lib.hid ((hfar1 (w.heap.size+1) (by omega)).trans (key_room w key HK64.out).2);have HE1:=Lib.hid (hbel1 w.heap.size w (Nat.le_refl _) (((Below.refl _ _).alloc (Nat.le_refl _) _).alloc (by simp) _))
       clear hb1 hbel1 hfar1)
    | (refine wpList_copy_str rfl (.tmp 16) (.tmp 17) _ rfl (w.heap.size+1) 64 64 171 (List.replicate key.size 0) (List.replicate (64-key.size) 0) key rfl rfl HK64.out HC1.out (by simp) ?_
       intro w2 hb2 hbel2 hfar2;have HB2:=Lib.hid ((hfar2 w.heap.size (by omega)).trans HB1.out);have HC2:=Lib.hid hb2;have HE2:=Lib.hid (hbel2 w.heap.size w (by omega) HE1.out)
       clear hb2 hbel2 hfar2))
   go_loopw [19] (fun v wr=>∃ i:Nat,v=.int .i64 i∧i≤64∧Bk wr w.heap.size 171 (xorK (padK key) 54 i)∧Bk wr (w.heap.size+1) 171 (xorK (padK key) 92 i)∧Below w.heap.size w wr) (fun v _=>64-(intOf v).toNat)
   case atStart=>exact ⟨0,rfl,by decide,HB2.out,HC2.out,HE2.out⟩
   case round =>
    clear HB2 HC2 HE2;obtain ⟨i,rfl,hi,hbi,hbo,hbe⟩:=hrel;have HBI:=Lib.hid hbi;have HBO:=Lib.hid hbo;have HE:=Lib.hid hbe;clear hbi hbo hbe;by_cases hlt:i<64
    · have hci:=HBI.out.cell (k:=i) (by rw [xorK_len,HPL.out];exact hlt)
      have hco:=HBO.out.cell (k:=i) (by rw [xorK_len,HPL.out];exact hlt);rw [xorK_at _ _ _ (by rw [HPL.out];exact hlt)] at hci hco;obtain ⟨b,hb⟩:∃ b,(padK key).getD i 0=b:=⟨_,rfl⟩;rw [hb] at hci hco;obtain ⟨bi,hbi⟩:∃ x,x=b ^^^ 54:=⟨_,rfl⟩;obtain ⟨bo,hbo⟩:∃ x,x=b ^^^ 92:=⟨_,rfl⟩;have ei:bits .xor .u8 (b.toNat:Int) 54=(bi.toNat:Int):=by rw [hbi];exact u8_xor b 54
      have eo:bits .xor .u8 (b.toNat:Int) 92=(bo.toNat:Int):=by rw [hbo];exact u8_xor b 92
      have fi:=HBI.out.free i;have fo:=HBO.out.free i;have HSI:=Lib.hid (show (xorK (padK key) 54 i).set i bi=xorK (padK key) 54 (i+1) by rw [hbi,← hb];exact xorK_step _ _ _ (by rw [HPL.out];exact hlt));have HSO:=Lib.hid (show (xorK (padK key) 92 i).set i bo=xorK (padK key) 92 (i+1) by rw [hbo,← hb];exact xorK_step _ _ _ (by rw [HPL.out];exact hlt));have i0:(0:Int)≤(i:Int):=by omega
      have i1:(i:Int)<64:=by omega
      have HLT:=Lib.hid hlt;clear hb hbi hbo hlt hi;go_wp2_with fail;go_roundw
      case rel =>
       refine ⟨i+1,rfl,HLT.out,?_,?_,?_⟩
       · rw [← HSI.out];exact (HBI.out.set i bi).far (by simp) _
       · rw [← HSO.out];exact (HBO.out.far (by simp) _).set i bo
       · exact (HE.out.setCell (p:=⟨w.heap.size,i,none⟩) (Nat.le_refl _) _).setCell (p:=⟨w.heap.size+1,i,none⟩) (Nat.le_succ _) _
      case measure=>have:=HLT.out;show 64-((i:Int)+1).toNat<64-(i:Int).toNat;omega
    · obtain rfl:i=64:=by omega
      have hcv (wq:World) (hI:Row wq w.heap.size 0 (xorK (padK key) 54 64)) (hO:Row wq (w.heap.size+1) 0 (xorK (padK key) 92 64)) :
        (convert 94 9 (.slice (some ⟨w.heap.size,0,none⟩) 64 64)).run Tryz.prog wq=.ok (.string I) wq∧(convert 94 9 (.slice (some ⟨w.heap.size+1,0,none⟩) 64 64)).run Tryz.prog wq=.ok (.string O) wq:=by
       rw [HI.out,HO.out];exact ⟨conv_str hI 64 64 (by rw [xorK_len,HPL.out]),conv_str hO 64 64 (by rw [xorK_len,HPL.out])⟩
      have HCV:=Lib.hid hcv;obtain ⟨q1,q2⟩:=hcv wr.drew HBI.out.row HBO.out.row;have HBID:Hid (Bk wr.drew w.heap.size 171 (xorK (padK key) 54 64)):=Lib.hid HBI.out;have HBOD:Hid (Bk wr.drew (w.heap.size+1) 171 (xorK (padK key) 92 64)):=Lib.hid HBO.out;clear hcv hlt hi;go_wp2_with fail
      go_region_with (first
       | (go_at_call 191;(with_reducible refine (KI.out _).mono ?_);rintro e w7 ⟨rfl,hb7⟩
          obtain ⟨q3,q4⟩:=HCV.out w7 (HBID.out.below hb7 HBID.out.lt).row (HBOD.out.below hb7 HBOD.out.lt).row;have HE7:=Lib.hid (HE.out.drew.trans (hb7.mono HE.out.drew.size))
          clear hb7)
       | (go_at_call 191;(with_reducible refine (KO.out _).mono ?_);rintro e w8 ⟨rfl,hb8⟩
          have HE8:=Lib.hid (HE7.out.trans (hb8.mono HE7.out.size))
          clear hb8))
      all_goals
       go_wp2_with fail;go_ret;exact ⟨ret_string HRES.out,HE8.out⟩
end Go.Proofs.YtiacajjpkncomaaGreatDoor
namespace Go.Proofs.YtiacajjpkncomaaGreatDoor
open Go.RowKit
set_option maxRecDepth 100000
set_option linter.unusedVariables false
set_option maxHeartbeats 1000000
def goodT (vals:List ByteArray) (z:Int):Bool:=decide (0≤z)&&(decide (z≤2147483647)&&vals.all valid)
def readyT (vals:List ByteArray) (z:Int) (n:ByteArray):Int:=if (goodT vals z&&valid n)=true then (if n.toList.isEmpty=true then 11 else 0) else 3
theorem coins_good1 (s:ByteArray) (w:World):Calls Tryz.prog 148 #[.string s] w fun e w'=>e=.returned (.bool (!valid s))∧w=w':=by
 go_enter Tryz.func148, Tryz.ntmps148
 go_wp2_with (go_at_call 46;refine (natural_Valid _ _).mono ?_;rintro e w' ⟨rfl,rfl⟩);go_ret;exact ⟨rfl,rfl⟩
theorem ls_all_not {ls:List ByteArray} {p:ByteArray→Bool} {k:Nat} (hk:k<ls.length) (h:p (ls.getD k ByteArray.empty)=false):ls.all p=false:=by
 rw [List.all_eq_false];exact ⟨ls[k],List.getElem_mem hk,by rw [sgetD_lt hk] at h;simp [h]⟩
theorem ls_all_of {ls:List ByteArray} {p:ByteArray→Bool} (h:∀ j,j<ls.length→p (ls.getD j ByteArray.empty)=true):ls.all p=true:=by
 rw [List.all_eq_true];intro x hx;obtain ⟨j,hj,rfl⟩:=List.getElem_of_mem hx;have:=h j hj;rw [sgetD_lt hj] at this;exact this
theorem index_valid (ls:List ByteArray) (A:Option Addr) (n c b:Nat) (w:World) (hn:ls.length=n) (hm:n≤100000) (h:SLs w b A ls) :
  Calls Tryz.prog 136 #[.slice A n c,.func (.func 148) #[] #[]] w fun e w'=>(∃ z:Int,e=.returned (.int .i64 z)∧decide (0≤z)=!(ls.all valid))∧w=w':=by
 have HN:=Lib.hid hn;have HS:=Lib.hid h;clear hn h
 go_enter Tryz.func136, Tryz.ntmps136
 go_wp2;go_loop [8] (fun v=>∃ k:Nat,k≤n∧v=.int .i64 k∧∀ j,j<k→valid (ls.getD j ByteArray.empty)=true) (fun v=>n-(intOf v).toNat)
 case atStart=>exact ⟨0,by omega,rfl,fun j h=>absurd h (by omega)⟩
 case round =>
  obtain ⟨k,hk,rfl,hall⟩:=hrel;have HA:=Lib.hid hall;clear hall;by_cases hlt:k<n
  · obtain ⟨ad,rfl,hc⟩:=HS.out.at_ (k:=k) (by rw [HN.out];exact hlt)
    obtain ⟨s,hs⟩:∃ s,ls.getD k ByteArray.empty=s:=⟨_,rfl⟩;rw [hs] at hc;have HSS:=Lib.hid hs;clear hs
    cases hv:valid s
    · have HF:Hid (ls.all valid=false):=Lib.hid (ls_all_not (k:=k) (by rw [HN.out];exact hlt) (by rw [HSS.out];exact hv))
      have hck:=coins_good1 s;rw [hv] at hck;have HCK:=Lib.hid hck;clear hck hv;go_wp2_with (go_at_call 148;refine (HCK.out _).mono ?_;rintro e w' ⟨rfl,rfl⟩);go_ret;refine ⟨⟨(k:Int),rfl,?_⟩,rfl⟩;rw [HF.out];simp
    · have HV:=Lib.hid hv
      clear hv;have hck:=coins_good1 s;rw [HV.out] at hck;have HCK:=Lib.hid hck;clear hck;go_wp2_with (go_at_call 148;refine (HCK.out _).mono ?_;rintro e w' ⟨rfl,rfl⟩);go_round
      case rel=>exact ⟨k+1,by omega,by go_num,fun j hj=>by
       by_cases e:j=k
       · subst e;rw [HSS.out];exact HV.out
       · exact HA.out j (by omega)⟩
      case measure=>simp [intOf];omega
  · obtain rfl:k=n:=by omega
    have HF:Hid (ls.all valid=true):=Lib.hid (ls_all_of (fun j hj=>HA.out j (by rw [HN.out] at hj;exact hj)));go_wp2;go_ret;refine ⟨⟨-1,rfl,?_⟩,rfl⟩;rw [HF.out];rfl
theorem contains_valid (ls:List ByteArray) (A:Option Addr) (n c b:Nat) (w:World) (hn:ls.length=n) (hm:n≤100000) (h:SLs w b A ls) :
  Calls Tryz.prog 82 #[.slice A n c,.func (.func 148) #[] #[]] w fun e w'=>e=.returned (.bool (!(ls.all valid)))∧w=w':=by
 have H:=Lib.hid (index_valid ls A n c b w hn hm h);clear h
 go_enter Tryz.func82, Tryz.ntmps82
 go_wp2_with (go_at_call 136;refine H.out.mono ?_;rintro e w' ⟨⟨z,rfl,hz⟩,rfl⟩;have HZ:=Lib.hid hz;clear hz);go_ret;exact ⟨ret_bool HZ.out,rfl⟩
theorem coins_good (vals:List ByteArray) (A:Option Addr) (n c b:Nat) (seed:ByteArray) (z:Int) (w:World) (hn:vals.length=n) (hm:n≤100000) (h:SLs w b A vals) (hb:b≤w.heap.size) :
  Calls Tryz.prog 111 #[.agg #[.slice A n c,.string seed,.int .i64 z]] w fun e w'=>e=.returned (.bool (goodT vals z))∧Below w.heap.size w w':=by
 have H:=Lib.hid (contains_valid vals A n c b (w.alloc (.cells #[.slice A n c,.string seed,.int .i64 z] 39)) hn hm (h.next hb ((Below.refl _ _).alloc (Nat.le_refl _) _)));have HG:Hid (goodT vals z=(decide (0≤z)&&(decide (z≤2147483647)&&vals.all valid))):=Lib.hid rfl;clear h;by_cases h0:0≤z
 · by_cases h1:z≤2147483647
   · cases hv:vals.all valid
     · rw [hv] at H HG
       have HR:Hid (goodT vals z=false):=Lib.hid (by rw [HG.out];simp);clear hv HG
       go_enter Tryz.func111, Tryz.ntmps111
       go_wp2_with (go_at_call 82;refine H.out.mono ?_;rintro e w' ⟨rfl,rfl⟩);go_ret;exact ⟨ret_bool HR.out.symm,(Below.refl _ _).alloc (Nat.le_refl _) _⟩
     · rw [hv] at H HG
       have HR:Hid (goodT vals z=true):=Lib.hid (by rw [HG.out];simp [h0,h1]);clear hv HG
       go_enter Tryz.func111, Tryz.ntmps111
       go_wp2_with (go_at_call 82;refine H.out.mono ?_;rintro e w' ⟨rfl,rfl⟩);go_ret;exact ⟨ret_bool HR.out.symm,(Below.refl _ _).alloc (Nat.le_refl _) _⟩
   · have HR:Hid (goodT vals z=false):=Lib.hid (by rw [HG.out];simp [h1])
     clear HG H
     go_enter Tryz.func111, Tryz.ntmps111
     go_wp2;go_ret;exact ⟨ret_bool HR.out.symm,(Below.refl _ _).alloc (Nat.le_refl _) _⟩
 · have HR:Hid (goodT vals z=false):=Lib.hid (by rw [HG.out];simp [h0])
   clear HG H
   go_enter Tryz.func111, Tryz.ntmps111
   go_wp2;go_ret;exact ⟨ret_bool HR.out.symm,(Below.refl _ _).alloc (Nat.le_refl _) _⟩
theorem coins_ready (vals:List ByteArray) (A:Option Addr) (n c b:Nat) (seed m:ByteArray) (z:Int) (w:World) (hn:vals.length=n) (hm:n≤100000) (h:SLs w b A vals) (hb:b≤w.heap.size) :
  Calls Tryz.prog 54 #[.agg #[.slice A n c,.string seed,.int .i64 z],.string m] w fun e w'=>e=.returned (.int .i64 (readyT vals z m))∧Below w.heap.size w w':=by
 have hba:Below w.heap.size w (w.alloc (.cells #[.slice A n c,.string seed,.int .i64 z] 39)):=(Below.refl _ _).alloc (Nat.le_refl _) _;have H:=Lib.hid (coins_good vals A n c b seed z (w.alloc (.cells #[.slice A n c,.string seed,.int .i64 z] 39)) hn hm (h.next hb hba) (Nat.le_trans hb hba.size));have HBA:=Lib.hid hba;have HG:Hid (readyT vals z m=if (goodT vals z&&valid m)=true then (if m.toList.isEmpty=true then 11 else 0) else 3):=Lib.hid rfl;clear h hba
 cases hg:goodT vals z
 · rw [hg] at H HG
   clear hg
   go_enter Tryz.func54, Tryz.ntmps54
   go_wp2_with (go_at_call 111;refine H.out.mono ?_;rintro e w1 ⟨rfl,hb1⟩;have HB1:=Lib.hid hb1;clear hb1);go_ret;exact ⟨ret_int (by rw [HG.out];rfl),HBA.out.trans (HB1.out.mono HBA.out.size)⟩
 · rw [hg] at H HG
   clear hg
   cases hv:valid m
   · rw [hv] at HG
     have hck:=natural_Valid m;rw [hv] at hck;have HCK:=Lib.hid hck;clear hck hv
     go_enter Tryz.func54, Tryz.ntmps54
     go_wp2_with (first|(go_at_call 111;refine H.out.mono ?_;rintro e w1 ⟨rfl,hb1⟩;have HB1:=Lib.hid hb1;clear hb1)|(go_at_call 46;refine (HCK.out _).mono ?_;rintro e w' ⟨rfl,rfl⟩));go_ret;exact ⟨ret_int (by rw [HG.out];rfl),HBA.out.trans (HB1.out.mono HBA.out.size)⟩
   · rw [hv] at HG
     have hck:=natural_Valid m;rw [hv] at hck;have HCK:=Lib.hid hck;clear hck hv
     cases he:m.toList.isEmpty
     · rw [he] at HG
       go_enter Tryz.func54, Tryz.ntmps54
       go_wp2_with (first|(go_at_call 111;refine H.out.mono ?_;rintro e w1 ⟨rfl,hb1⟩;have HB1:=Lib.hid hb1;clear hb1)|(go_at_call 46;refine (HCK.out _).mono ?_;rintro e w' ⟨rfl,rfl⟩));go_ret;exact ⟨ret_int (by rw [HG.out];rfl),HBA.out.trans (HB1.out.mono HBA.out.size)⟩
     · rw [he] at HG
       go_enter Tryz.func54, Tryz.ntmps54
       go_wp2_with (first|(go_at_call 111;refine H.out.mono ?_;rintro e w1 ⟨rfl,hb1⟩;have HB1:=Lib.hid hb1;clear hb1)|(go_at_call 46;refine (HCK.out _).mono ?_;rintro e w' ⟨rfl,rfl⟩));go_ret;exact ⟨ret_int (by rw [HG.out];rfl),HBA.out.trans (HB1.out.mono HBA.out.size)⟩
end Go.Proofs.YtiacajjpkncomaaGreatDoor
namespace Go.Proofs.YtiacajjpkncomaaGreatDoor
open Go.RowKit
set_option linter.unusedVariables false
theorem pow_256_two (k:Nat):256^k=2^(8*k):=by rw [show (256:Nat)=2^8 from rfl,← Nat.pow_mul]
theorem mask_val (b:UInt8) (r:List UInt8) (len sh:Nat) (h:8*(r.length+1)=len+sh) (h7:sh≤7) :
  val (UInt8.ofNat (b.toNat%2^(8-sh))::r)=val (b::r)%2^len:=by
 have e:2^len=2^(8-sh)*256^r.length:=by
  rw [pow_256_two,← Nat.pow_add];congr 1;omega
 have hv:=val_lt r;obtain ⟨P,hP⟩:∃ P,P=2^(8-sh):=⟨_,rfl⟩;have hP0:0<P:=by rw [hP];exact Nat.pow_pos (by decide)
 have hP8:P≤256:=by rw [hP,show (256:Nat)=2^8 from rfl];exact Nat.pow_le_pow_right (by decide) (by omega)
 have hb:(UInt8.ofNat (b.toNat%P)).toNat=b.toNat%P:=by
  rw [UInt8.toNat_ofNat'];have:=Nat.mod_lt b.toNat hP0;exact Nat.mod_eq_of_lt (by omega)
 rw [val_cons,val_cons,e,← hP,hb];obtain ⟨K,hK⟩:∃ K,K=256^r.length:=⟨_,rfl⟩;rw [← hK] at hv ⊢;have hd:=Nat.div_add_mod b.toNat P;have hm:=Nat.mod_lt b.toNat hP0
 have e2:b.toNat*K+val r=P*K*(b.toNat/P)+(b.toNat%P*K+val r):=by
  have:b.toNat*K=(P*(b.toNat/P)+b.toNat%P)*K:=by rw [hd]
  rw [this,Nat.add_mul];have:P*(b.toNat/P)*K=P*K*(b.toNat/P):=by rw [Nat.mul_assoc,Nat.mul_comm (b.toNat/P),← Nat.mul_assoc]
  omega
 rw [e2,Nat.mul_add_mod];refine (Nat.mod_eq_of_lt ?_).symm
 have:b.toNat%P*K+K≤P*K:=by
  rw [← Nat.succ_mul];exact Nat.mul_le_mul_right K hm
 omega
theorem u8_and_mask (b:UInt8) (k:Nat) (hk:k≤8):bits .and .u8 (b.toNat:Int) ((2^k-1:Nat):Int)=((b.toNat%2^k:Nat):Int):=by
 have hx:∀ a:Nat,a<256→(BitVec.ofInt 8 (a:Int)).toNat=a:=by
  intro a ha;rw [BitVec.toNat_ofInt];omega
 have hp:2^k≤2^8:=Nat.pow_le_pow_right (by decide) hk;have hp0:0<2^k:=Nat.pow_pos (by decide);have hb:=byte_lt b;show IntKind.u8.wrap ((BitVec.ofInt 8 (b.toNat:Int) &&& BitVec.ofInt 8 ((2^k-1:Nat):Int)).toNat:Int)=_;rw [BitVec.toNat_and,hx _ hb,hx _ (by omega),Nat.and_two_pow_sub_one_eq_mod];have h1:=Nat.mod_lt b.toNat hp0;obtain ⟨x,hx2⟩:∃ x,x=b.toNat%2^k:=⟨_,rfl⟩;rw [← hx2] at h1 ⊢;have h2:x<256:=by omega
 clear h1 hx2;simp only [IntKind.wrap,IntKind.bits,IntKind.signed];simp;omega
end Go.Proofs.YtiacajjpkncomaaGreatDoor
namespace Go.Proofs.YtiacajjpkncomaaGreatDoor
open Go.RowKit Go.Shelf
set_option maxRecDepth 100000
set_option linter.unusedVariables false
set_option maxHeartbeats 8000000
attribute [local go_sem] Oper.semAt_some
def Tab10 (w:World):Prop:=Lib.TabIs Tryz.prog w "internal/strconv.uint64pow10" .u64 Lib.pow10Tab
theorem globalNamed10:Tryz.prog.globalNamed "internal/strconv.uint64pow10"=some 4:=by kernel_rfl
theorem Tab10.below {w w':World} (h:Tab10 w) (hb:Below w.heap.size w w'):Tab10 w':=by
 unfold Tab10 Lib.TabIs World.var? at h ⊢;rw [globalNamed10] at h ⊢;simp only [Option.bind_some] at h ⊢
 have hlt:4<w.heap.size:=by
  rcases Nat.lt_or_ge 4 w.heap.size with h'|h'
  · exact h'
  · rw [Array.getElem?_eq_none h'] at h;cases h
 rw [hb.block _ hlt];exact h
def itS (z:Int):ByteArray:=⟨(Lib.itoa z).toArray⟩
theorem itoa_below (z:Int) (w:World) (h0:0≤z) (h1:z≤9223372036854775807) (hT:Tab10 w) :
  Calls Tryz.prog 174 #[.int .i64 z] w fun e w'=>e=.returned (.string (itS z))∧Below w.heap.size w w' :=
 (Tryz.strconv_Itoa z (by omega) h1 w hT).mono (by rintro e w' ⟨rfl,k,os,rfl⟩;exact ⟨rfl,Lib.below_grow _ _ (Nat.le_refl _) _ _⟩)
theorem itS_size (z:Int) (h0:0≤z) (h1:z≤9223372036854775807):(itS z).size≤21:=by
 show (Lib.itoa z).toArray.size≤21;rw [List.size_toArray];exact Lib.itoa_length_le z (by omega) h1
def nameS (z a b:Int):ByteArray:=itS z++⟨#[46]⟩++itS a++⟨#[46]⟩++itS b
theorem coins_blocks (A:Option Addr) (n c:Nat) (seed:ByteArray) (z a:Int) (w:World) :
  Calls Tryz.prog 149 #[.agg #[.slice A n c,.string seed,.int .i64 z],.int .i64 a] w fun e w'=>e=.returned (.func (.func 173) #[] #[.pointer (some ⟨w.heap.size,0,none⟩),.pointer (some ⟨w.heap.size+1,0,none⟩)])∧w'=(w.alloc (.cells #[.slice A n c,.string seed,.int .i64 z] 39)).alloc (.cells #[.int .i64 a] 3):=by
 go_enter Tryz.func149, Tryz.ntmps149
 go_wp2;go_ret;exact ⟨rfl,rfl⟩
theorem blocks1_once (n:Nat) (hn:1≤n) (g:Nat) (A:Option Addr) (m c:Nat) (seed:ByteArray) (z a:Int) (w:World) (hz0:0≤z) (hz1:z≤2147483647) (ha0:0≤a) (ha1:a≤1000) (hs:seed.size≤100000) (hT:Tab10 w)
  (c0:w.cell? ⟨g,1,none⟩=some (.string seed)) (c1:w.cell? ⟨g,2,none⟩=some (.int .i64 z)) (c2:w.cell? ⟨g+1,0,none⟩=some (.int .i64 a)) (hg:g+1<w.heap.size) :
  OnceSeq Fence.wide n Tryz.prog 173 #[.pointer (some ⟨g,0,none⟩),.pointer (some ⟨g+1,0,none⟩)] (.string (macS seed (nameS z a 0))) w:=by
 intro l R W hW hY;have d0:W.cell? ⟨g,1,none⟩=some (.string seed):=(hW.cell (p:=⟨g,1,none⟩) (by show g<_;omega)).trans c0;have d1:W.cell? ⟨g,2,none⟩=some (.int .i64 z):=(hW.cell (p:=⟨g,2,none⟩) (by show g<_;omega)).trans c1;have d2:W.cell? ⟨g+1,0,none⟩=some (.int .i64 a):=(hW.cell (p:=⟨g+1,0,none⟩) hg).trans c2;have hgW:g+1<W.heap.size:=Nat.lt_of_lt_of_le hg hW.size;unfold nameS at hY;have HY:=Lib.hid hY;have HT:=Lib.hid (hT.below hW);clear hY hW c0 c1 c2 hg hT;show CallsIn Fence.wide n Tryz.prog 173 #[.func (.yield l) #[] #[],.pointer (some ⟨g,0,none⟩),.pointer (some ⟨g+1,0,none⟩)] W _;refine callsIn_of_wp Tryz.func173 rfl trivial ?_ rfl;simp only [Tryz.ntmps173,List.size_toArray,List.length_cons,List.length_nil,Nat.reduceAdd,Nat.reduceSub,Array.replicate_succ,Array.replicate_zero,List.push_toArray,List.append_toArray,List.nil_append,List.cons_append]
 gi_wp2
 gi_loopw [4] (fun v wr=>v=.int .i64 0∧wr=W) (fun _ _=>0)
 case atStart=>exact ⟨rfl,rfl⟩
 case round =>
  obtain ⟨rfl,rfl⟩:=hrel;have HTD:Hid (Tab10 wr.drew):=Lib.hid HT.out;have hgD:g+1<wr.drew.heap.size:=hgW;have K1:=Lib.hid (fun w (h:Tab10 w)=>itoa_below z w hz0 (by omega) h);have K2:=Lib.hid (fun w (h:Tab10 w)=>itoa_below a w ha0 (by omega) h);have K3:=Lib.hid (fun w (h:Tab10 w)=>itoa_below 0 w (by omega) (by omega) h);have sz:=itS_size z hz0 (by omega);have sa:=itS_size a ha0 (by omega);have s0:=itS_size 0 (by omega) (by omega);have KM:=Lib.hid (fun w=>hash_Mac seed (itS z++⟨#[46]⟩++itS a++⟨#[46]⟩++itS 0) w hs (by simp only [ByteArray.size_append];have:(⟨#[46]⟩:ByteArray).size=1:=rfl;omega))
  gi_wp2
  gi_region_with (first
   | (refine ⟨trivial,?_⟩;gi_at_call 174;(with_reducible refine (callsIn_wide.2 (K1.out _ HTD.out)).mono ?_);rintro e w1 ⟨rfl,hb1⟩
      have HT1:=Lib.hid (HTD.out.below hb1);have HB1:=Lib.hid hb1;have d1':w1.cell? ⟨g,2,none⟩=some (.int .i64 z):=(hb1.cell (p:=⟨g,2,none⟩) (by show g<_;omega)).trans d1;have d2':w1.cell? ⟨g+1,0,none⟩=some (.int .i64 a):=(hb1.cell (p:=⟨g+1,0,none⟩) hgD).trans d2;have d0':w1.cell? ⟨g,1,none⟩=some (.string seed):=(hb1.cell (p:=⟨g,1,none⟩) (by show g<_;omega)).trans d0;have hg1:g+1<w1.heap.size:=Nat.lt_of_lt_of_le hgD hb1.size
      clear hb1)
   | (refine ⟨trivial,?_⟩;gi_at_call 174;(with_reducible refine (callsIn_wide.2 (K2.out _ HT1.out)).mono ?_);rintro e w2 ⟨rfl,hb2⟩
      have HT2:=Lib.hid (HT1.out.below hb2);have HB2:=Lib.hid (HB1.out.trans (hb2.mono HB1.out.size));have d0'':w2.cell? ⟨g,1,none⟩=some (.string seed):=(hb2.cell (p:=⟨g,1,none⟩) (by show g<_;omega)).trans d0';have hg2:g+1<w2.heap.size:=Nat.lt_of_lt_of_le hg1 hb2.size
      clear hb2)
   | (refine ⟨trivial,?_⟩;gi_at_call 174;(with_reducible refine (callsIn_wide.2 (K3.out _ HT2.out)).mono ?_);rintro e w3 ⟨rfl,hb3⟩
      have HB3:=Lib.hid (HB2.out.trans (hb3.mono HB2.out.size));have d03:w3.cell? ⟨g,1,none⟩=some (.string seed):=(hb3.cell (p:=⟨g,1,none⟩) (by show g<_;omega)).trans d0''
      clear hb3))
  all_goals
   gi_wp2_with (refine ⟨trivial,?_⟩;gi_at_call 175;(with_reducible refine (callsIn_wide.2 (KM.out _)).mono ?_);rintro e w5 ⟨rfl,hb5⟩
                obtain ⟨fn,tmps,assign,body,hy,hR⟩:=HY.out w5 ((Below.refl _ _).drew.trans (HB3.out.trans (hb5.mono HB3.out.size)))
                clear hb5)
   refine hR.mono ?_;rintro e W3 ⟨rfl,hR3⟩
   gi_wp2
   refine bodyPost_ret (results_none rfl _ _ _) rfl ?_;exact ⟨⟨_,rfl⟩,hR3⟩
end Go.Proofs.YtiacajjpkncomaaGreatDoor
namespace Go.Proofs.YtiacajjpkncomaaGreatDoor
open Go.RowKit Go.Shelf
set_option maxRecDepth 100000
set_option linter.unusedVariables false
set_option maxHeartbeats 4000000
attribute [local go_sem] Oper.semAt_some
def blockL (seed:ByteArray) (z a:Int):List UInt8:=(macS seed (nameS z a 0)).data.toList
def attN (seed:ByteArray) (z a:Int) (len:Nat):Nat:=val ((blockL seed z a).take ((len+7)/8))%2^len
theorem macS_size (key s:ByteArray):(macS key s).size=32:=by
 have:∃ t,macS key s=sumS t:=⟨⟨_⟩,rfl⟩;obtain ⟨t,h⟩:=this;rw [h,sumS_size]
theorem keeps_below' {W W':World} (h:Below W.heap.size W W'):KeepsOthers W W' :=
 ⟨h.size,fun k o hk _=>(h.block k (Array.getElem?_eq_some_iff.1 hk).1).trans hk⟩
theorem put_cell {W:World} {l k j:Nat} {o':Obj} (h:k≠l):(W.putObj l o').cell? ⟨k,j,none⟩=W.cell? ⟨k,j,none⟩:=World.cell?_of_block (World.putObj_heap_other h)
theorem put_frozen {W:World} {l k j:Nat} {o':Obj} (h:k≠l):(W.putObj l o').frozen? ⟨k,j,none⟩=W.frozen? ⟨k,j,none⟩:=World.frozen?_of_block (World.putObj_heap_other h)
theorem put_below {B:Nat} {w W:World} {l:Nat} {o o':Obj} (h:Below B w W) (hB:B≤l) (hl:W.heap[l]?=some o) (hw:B≤w.heap.size):Below B w (W.putObj l o') :=
 h.grown (grownBy_putObj' W l o') (Nat.le_trans hw h.size) (fun k e=>by cases e;exact hB)
theorem put_own {W:World} {base n l:Nat} {v:Value} {L:List UInt8} {o o':Obj} (h:OwnB W base v n L) (hl:W.heap[l]?=some o) (ho:o.isCells=false):OwnB (W.putObj l o') base v n L:=by
 refine ⟨h.1,h.2.1,?_⟩
 rcases h.2.2 with hn|⟨g,cap,cur,rfl,h1,hg,rest⟩
 · exact .inl hn
 · refine .inr ⟨g,cap,cur,rfl,h1,?_,rest⟩
   have hne:g≠l:=by
    intro e;subst e;rw [hg] at hl
    cases hl
    cases ho
   rw [World.putObj_heap_other hne];exact hg
theorem put_size {W:World} {l:Nat} {o':Obj}:(W.putObj l o').heap.size=W.heap.size:=by simp [World.putObj]
theorem OwnB.setCell {w:World} {base n:Nat} {v u:Value} {L:List UInt8} {p:Addr} (h:OwnB w base v n L) (hp:p.block<base):OwnB (w.setCell p u) base v n L:=by
 refine ⟨h.1,h.2.1,?_⟩
 rcases h.2.2 with hn|⟨g,cap,cur,rfl,h1,hg,rest⟩
 · exact .inl hn
 · exact .inr ⟨g,cap,cur,rfl,h1,(Below.heap_setCell w p u g (by omega)).trans hg,rest⟩
theorem OwnB.free {w:World} {base n g c:Nat} {L:List UInt8} (h:OwnB w base (.slice (some ⟨g,0,none⟩) n c) n L) (hn:0<n) (k:Nat):w.frozen? ⟨g,k,none⟩=false:=by
 rcases h.2.2 with ⟨hn,_⟩|⟨g',cap,cur,hv,h1,hg,rest⟩
 · cases hn
 · injection hv with e1 e2 e3
   injection e1 with e1
   injection e1 with e1
   subst e1;simp [World.frozen?,hg]
theorem wpListIn_append_strB {F:Fence} {n':Nat} {w:World} {ops:Array Oper} {rest:List Oper} {o:Oper} {a:Act} {Q:Exit→Act→World→Prop} (hgd:o.guard=none) (sl x:Operand)
  (ho:o.op=.call { callee:=.builtin .append,args:=#[sl,x],argTypes:=#[94,9] })
  (base:Nat) (v:Value) (n:Nat) (L:List UInt8) (hs:a.eval sl=v) (hown:OwnB w base v n L) (s:ByteArray) (hx:a.eval x=.string s) (hsz:n+s.size≤1000000) (hbase:base≤w.heap.size)
  (h:∀ v' w',OwnB w' base v' (n+s.size) (L++s.data.toList)→w.grownBy w' v.ownBlock→Below base w w'→wpListIn F n' Tryz.prog ops Q rest (a.put o.dst v') w'):wpListIn F n' Tryz.prog ops Q (o::rest) a w:=by
 obtain ⟨i,hi,hz,hs1,hb1⟩:=u8_infoE;refine wpListIn_plain hgd fun K hK=>?_
 obtain ⟨v',w',hr,h2,h3,_⟩:=Lib.run_append_own_string (P:=Tryz.prog) w base 94 9 o.type 5 i Tryz.underlying94 Tryz.underlying9 hi hz hs1 hb1 v n (cells8 L) hown.2 s (by unfold maxLen;omega) (by omega) hbase;have hlen:s.data.toList.length=s.size:=by rw [← Lib.size_eq]
 unfold Oper.wpIn;refine ⟨?_,?_⟩
 · simp [Oper.about,ho,resolve,Target.leads,Sem.run_pure]
 · rw [Oper.semAt_plain F _ _ (by rw [ho];intro c hc';cases hc')]
   simp [execOp,ho,resolve,invoke,builtin,hs,hx,hr,Result.andThen];refine hK _ _ (h v' w' ⟨by rw [List.length_append,hown.1,hlen],?_⟩ h3 (below_grown h3 hbase fun g hg=>(hown.2.lt g hg).1));have e:cells8 (L++s.data.toList)=cells8 L++Lib.strCells s:=by unfold cells8;rw [List.map_append];rfl
   rw [e];exact h2
structure AtI (w W:World) (size:Nat):Prop where
 cs:W.cell? ⟨w.heap.size+1,0,none⟩=some (.int .i64 size)
 co:W.cell? ⟨w.heap.size+2,0,none⟩=some (.slice none 0 0)
 fo:W.frozen? ⟨w.heap.size+2,0,none⟩=false
 bel:Below w.heap.size w W
 sz:w.heap.size+5≤W.heap.size
structure AtX (w W:World) (size:Nat) (L:List UInt8):Prop where
 cs:W.cell? ⟨w.heap.size+1,0,none⟩=some (.int .i64 size)
 co:∃ v,W.cell? ⟨w.heap.size+2,0,none⟩=some v∧OwnB W (w.heap.size+5) v 32 L
 fo:W.frozen? ⟨w.heap.size+2,0,none⟩=false
 bel:Below w.heap.size w W
 sz:w.heap.size+5≤W.heap.size
theorem AtI.next {w W W':World} {size:Nat} (h:AtI w W size) (hb:Below W.heap.size W W'):AtI w W' size :=
 ⟨(hb.cell (p:=⟨w.heap.size+1,0,none⟩) (by have:=h.sz;show w.heap.size+1<_;omega)).trans h.cs,(hb.cell (p:=⟨w.heap.size+2,0,none⟩) (by have:=h.sz;show w.heap.size+2<_;omega)).trans h.co,
   (hb.frozen (p:=⟨w.heap.size+2,0,none⟩) (by have:=h.sz;show w.heap.size+2<_;omega)).trans h.fo,h.bel.trans (hb.mono (by have:=h.sz;omega)),Nat.le_trans h.sz hb.size⟩
theorem AtI.put {w W:World} {size l:Nat} {o o':Obj} (h:AtI w W size) (hl:w.heap.size+5≤l) (ho:W.heap[l]?=some o):AtI w (W.putObj l o') size :=
 ⟨(put_cell (by omega)).trans h.cs,(put_cell (by omega)).trans h.co,(put_frozen (by omega)).trans h.fo,put_below h.bel (by omega) ho (Nat.le_refl _),by rw [put_size];exact h.sz⟩
theorem AtX.put {w W:World} {size l:Nat} {L:List UInt8} {o o':Obj} (h:AtX w W size L) (hl:w.heap.size+5≤l) (ho:W.heap[l]?=some o) (hc:o.isCells=false):AtX w (W.putObj l o') size L:=by
 obtain ⟨v,hv,hown⟩:=h.co;exact ⟨(put_cell (by omega)).trans h.cs,⟨v,(put_cell (by omega)).trans hv,put_own hown ho hc⟩,(put_frozen (by omega)).trans h.fo,put_below h.bel (by omega) ho (Nat.le_refl _),by rw [put_size];exact h.sz⟩
theorem form_pos {w:World} {base:Nat} {v:Value} {n:Nat} {L:List UInt8} (h:OwnB w base v n L) (hz:base≤w.heap.size) (hn:0<n) :
  ∃ g c,v=.slice (some ⟨g,0,none⟩) n c∧base≤g∧g<w.heap.size∧n≤c∧Row w g 0 L:=by
 rcases h.form hz with ⟨_,h0⟩|h
 · omega
 · exact h
def onlyN (Q:Exit→Act→World→Prop):Exit→Act→World→Prop
 | .normal,a,w=>Q .normal a w
 | _,_,_=>False
theorem only_normal {F:Fence} {n:Nat} {P:Program} {c:Code} {Q:Exit→Act→World→Prop} {a:Act} {w:World} (h:c.wpIn F n P (onlyN Q) a w):c.wpIn F n P Q a w:=by
 refine wpIn_mono h ?_;rintro e a w h
 cases e<;>first|exact h|exact h.elim
theorem pow_shift {sh:Nat} (h:sh≤7):((255:Int)/2^sh)=((2^(8-sh)-1:Nat):Int):=by
 have:sh=0∨sh=1∨sh=2∨sh=3∨sh=4∨sh=5∨sh=6∨sh=7:=by omega
 rcases this with rfl|rfl|rfl|rfl|rfl|rfl|rfl|rfl<;>rfl
theorem row_first {w:World} {g:Nat} {b b':UInt8} {r:List UInt8} (h:Row w g 0 (b::r)):Row (w.setCell ⟨g,0,none⟩ (.int .u8 b'.toNat)) g 0 (b'::r):=by
 intro k hk;rw [Nat.zero_add];have hk':=h k (by simpa using hk);rw [Nat.zero_add] at hk'
 cases k with
 | zero=>exact World.cell?_setCell_same _ _ _ hk'
 | succ k=>exact (World.cell?_setCell_other _ _ _ _ (by simp)).trans hk'
theorem row_far {w:World} {g o:Nat} {L:List UInt8} {p:Addr} {u:Value} (h:Row w g o L) (hp:p.block≠g):Row (w.setCell p u) g o L :=
 fun k hk=>(World.cell?_setCell_other _ _ _ _ (fun e=>hp (by rw [e]))).trans (h k hk)
theorem att_val (seed:ByteArray) (z a:Int) (len size sh:Nat) (b:UInt8) (r:List UInt8) (hbr:blockL seed z a=b::r) (hr:r.length=31) (hsz:size=(len+7)/8) (h1:1≤size) (h2:size≤32) (hsh:8*size=len+sh) (h7:sh≤7) :
  val ((UInt8.ofNat (b.toNat%2^(8-sh))::r).take size)=attN seed z a len:=by
 obtain ⟨m,rfl⟩:∃ m,size=m+1:=⟨size-1,by omega⟩;unfold attN;rw [hbr,← hsz,List.take_succ_cons,List.take_succ_cons];exact mask_val b (r.take m) len sh (by rw [List.length_take,hr];omega) h7
theorem coins_attempt (A:Option Addr) (n c:Nat) (seed:ByteArray) (z a:Int) (len:Nat) (w:World) (hz0:0≤z) (hz1:z≤2147483647) (ha0:0≤a) (ha1:a≤1000) (hs:seed.size≤100000) (hT:Tab10 w) (hl0:1≤len) (hl1:len≤256) :
  Calls Tryz.prog 112 #[.agg #[.slice A n c,.string seed,.int .i64 z],.int .i64 a,.int .i64 len] w fun e w'=>e=.returned (.string (B (attN seed z a len)))∧Below w.heap.size w w':=by
 obtain ⟨size,hsize⟩:∃ size,size=(len+7)/8:=⟨_,rfl⟩;have e1:((len:Int)+7)/8=(size:Int):=by omega
 have e2:Int.tdiv ((len:Int)+7) 8=(size:Int):=by rw [Int.tdiv_eq_ediv_of_nonneg (by omega)];exact e1
 have hs1:1≤size:=by omega
 have hs2:size≤32:=by omega
 have HSZ:=Lib.hid hsize;have HT:=Lib.hid hT;have KB:=Lib.hid (fun w=>coins_blocks A n c seed z a w);clear hsize hT;refine (callsIn_wide (n:=3)).1 ?_;refine callsIn_of_wp_marks Tryz.func112 rfl trivial ?_ rfl;simp only [Tryz.ntmps112,List.size_toArray,List.length_cons,List.length_nil,Nat.reduceAdd,Nat.reduceSub,Array.replicate_succ,Array.replicate_zero,List.push_toArray,List.append_toArray,List.nil_append,List.cons_append]
 gi_wp2_with (first|(refine ⟨trivial,?_⟩;gi_at_call 149;(with_reducible refine (callsIn_wide.2 (KB.out _)).mono ?_);rintro e w2 ⟨rfl,rfl⟩))
 obtain ⟨BS,hBS⟩:∃ BS,BS=macS seed (nameS z a 0):=⟨_,rfl⟩;have hB32:BS.size=32:=by rw [hBS];exact macS_size _ _
 have hBL:BS.data.toList=blockL seed z a:=by rw [hBS];rfl
 obtain ⟨W,hW⟩:∃ W,W=(((((w.alloc (.cells #[.slice A n c,.string seed,.int .i64 z] 39)).alloc (.cells #[.int .i64 size] 3)).alloc (.cells #[.slice none 0 0] 94)).alloc (.cells #[.slice A n c,.string seed,.int .i64 z] 39)).alloc (.cells #[.int .i64 a] 3)):=⟨_,rfl⟩;rw [← hW];have hbw:Below w.heap.size w W:=by rw [hW];exact (((((Below.refl _ _).alloc (Nat.le_refl _) _).alloc (by simp) _).alloc (by simp;omega) _).alloc (by simp;omega) _).alloc (by simp;omega) _
 have hsW:W.heap.size=w.heap.size+5:=by rw [hW];simp
 have hI0:AtI w W size:=⟨by rw [hW];simp [go_sem],by rw [hW];simp [go_sem],by rw [hW];simp [go_sem],hbw,by omega⟩;have c0:W.cell? ⟨w.heap.size+3,1,none⟩=some (.string seed):=by rw [hW];simp [go_sem]
 have c1:W.cell? ⟨w.heap.size+3,2,none⟩=some (.int .i64 z):=by rw [hW];simp [go_sem]
 have c2:W.cell? ⟨w.heap.size+3+1,0,none⟩=some (.int .i64 a):=by rw [hW];simp [go_sem]
 have hseq:=blocks1_once 2 (by omega) (w.heap.size+3) A n c seed z a W hz0 hz1 ha0 ha1 hs (HT.out.below hbw) c0 c1 c2 (by omega);rw [← hBS] at hseq;have HSEQ:=Lib.hid hseq;have HI0:=Lib.hid hI0;have HBL:=Lib.hid hBL;have HSW:=Lib.hid hsW;clear hseq hI0 c0 c1 c2 hbw hBL hBS hW hsW KB HT
 refine wpIn_rangeFunc_once rfl (by omega) (gf:=173) (lb:=#[.pointer (some ⟨w.heap.size+3,0,none⟩),.pointer (some ⟨w.heap.size+3+1,0,none⟩)]) rfl trivial (enters_of Tryz.func173 (by kernel_rfl) rfl)
  (.string BS) HSEQ.out (fun W'=>AtI w W' size) (fun id W'=>id=0∧AtX w W' size BS.data.toList) (fun _ _ h hb=>h.next hb)
  (fun _ l o o' h hl ho _=>h.put (by rw [HSW.out] at hl;exact hl) ho) (fun id _ l o o' h hl ho hc=>⟨h.1,h.2.put (by rw [HSW.out] at hl;exact hl) ho hc⟩) HI0.out
  { tmps:=#[.agg #[.slice A n c,.string seed,.int .i64 z],.int .i64 a,.int .i64 len,.pointer (some ⟨w.heap.size,0,none⟩),undef,undef,.string ⟨#[]⟩,.pointer (some ⟨w.heap.size+1,0,none⟩),.pointer (some ⟨w.heap.size+1+1,0,none⟩),.string BS,.int .i64 len,.int .i64 ((len:Int)+7),.int .i64 size,.agg #[.slice A n c,.string seed,.int .i64 z],.int .i64 a,
    .func (.func 173) #[] #[.pointer (some ⟨w.heap.size+1+1+1,0,none⟩),.pointer (some ⟨w.heap.size+1+1+1+1,0,none⟩)],.string BS,undef,undef,undef,undef,undef,undef,undef,undef,undef,undef,undef,undef,undef,undef,undef,undef,undef,undef,undef,undef,undef,undef,undef,undef,undef,undef,undef,undef,undef,undef,undef,undef,undef,undef,undef],defers:=[] } ?assign ?body ?stop
 case assign =>
  intro l W2 K hK
  gi_wp2
  exact hK
 case body =>
  intro l W2 hI;have dS:=hI.cs;have dO:=hI.co;have gO:=hI.fo;have hz2:w.heap.size+5≤W2.heap.size:=hI.sz;have HI:=Lib.hid hI;clear hI
  gi_wp2_with (refine wpListIn_append_strB rfl (.tmp 17) (.tmp 18) rfl (w.heap.size+5) (.slice none 0 0) 0 [] rfl (OwnB.nil_ _ _) BS rfl (by omega) hz2 ?_
               intro v7 w7 hown7 hg7 hb7;have hb8:=below_grown hg7 (Nat.le_refl _) (fun g h=>by cases h);obtain ⟨g7,c7,rfl,h57,hl7,hc7,hr7⟩:=form_pos hown7 (Nat.le_trans hz2 hb8.size) (by omega);have eS:=(hb8.cell (p:=⟨w.heap.size+1,0,none⟩) (by show w.heap.size+1<_;omega)).trans dS;have eO:=(hb8.cell (p:=⟨w.heap.size+2,0,none⟩) (by show w.heap.size+2<_;omega)).trans dO;have hO:=(hb8.frozen (p:=⟨w.heap.size+2,0,none⟩) (by show w.heap.size+2<_;omega)).trans gO;have HOWN:=Lib.hid hown7;have HB8:=Lib.hid hb8
               clear hown7 hg7 hb7 hb8)
  refine ⟨(keeps_below' HB8.out).trans (KeepsOthers.setCell _ _ _),rfl,?_⟩;have hown:OwnB w7 (w.heap.size+5) (.slice (some ⟨g7,0,none⟩) 32 c7) 32 BS.data.toList:=by have:=HOWN.out;simpa [hB32] using this
  have hI7:=HI.out.next HB8.out
  exact ⟨(World.cell?_setCell_other _ _ _ _ (by simp)).trans eS,⟨_,World.cell?_setCell_same _ _ _ eO,by simpa [hB32] using hown.setCell (p:=⟨w.heap.size+2,0,none⟩) (by show w.heap.size+2<_;omega)⟩,
   (World.frozen?_setCell _ _ _ _).trans hO,hI7.bel.setCell (p:=⟨w.heap.size+2,0,none⟩) (by show w.heap.size≤w.heap.size+2;omega) _,by simpa using hI7.sz⟩
 case stop =>
  rintro D id W2 hD ⟨rfl,hX⟩ hK;have cS:=hX.cs;have fO:=hX.fo;have hz2:w.heap.size+5≤W2.heap.size:=hX.sz;obtain ⟨v,cO,hown⟩:=hX.co;obtain ⟨g7,c7,rfl,h57,hl7,hc7,hr7⟩:=form_pos hown hz2 (by omega);have hLl:BS.data.toList.length=32:=hown.1
  obtain ⟨b,r,hbr⟩:∃ b r,BS.data.toList=b::r:=by
   cases hh:BS.data.toList with
   | nil=>rw [hh] at hLl;cases hLl
   | cons b r=>exact ⟨b,r,rfl⟩
  have c70:W2.cell? ⟨g7,0,none⟩=some (.int .u8 b.toNat):=by have:=hr7 0 (by omega);rw [hbr] at this;exact this
  have f70:=hown.free (by omega) 0;have HR7:=Lib.hid hr7;have HBR:=Lib.hid hbr;have HLL:=Lib.hid hLl;have HBEL:=Lib.hid hX.bel;have hgD:g7≠D:=by intro e;rw [e] at c70;simp [World.cell?,hK] at c70
  have hDX:w.heap.size+5≤D:=by rw [HSW.out] at hD;exact hD
  have HK:=Lib.hid hK;have HD:=Lib.hid (And.intro hgD hDX);clear hX hown hr7 hbr hLl hK hD hgD hDX;have n1:¬ w.heap.size+1+1=g7:=by omega
  have n2:¬ w.heap.size+1=g7:=by omega
  have n3:¬ g7=w.heap.size+1+1:=by omega
  have n4:¬ g7=w.heap.size+1:=by omega
  have p1:(0:Int)<(size:Int):=by omega
  obtain ⟨sh,hsh,hsh7⟩:∃ sh,8*size=len+sh∧sh≤7:=⟨8*size-len,by have:=HSZ.out;omega,by have:=HSZ.out;omega⟩;have q1:(8*(size:Int)-(len:Int))=(sh:Int):=by omega
  have q2:IntKind.i64.wrap (8*(size:Int))=8*(size:Int):=by rw [IntKind.wrap_i64];omega
  have q3:IntKind.i64.wrap (sh:Int)=(sh:Int):=by rw [IntKind.wrap_i64];omega
  gi_wp2
  obtain ⟨b',hb'⟩:∃ b',b'=UInt8.ofNat (b.toNat%2^(8-sh)):=⟨_,rfl⟩
  have q4:bits BinOp.and .u8 (b.toNat:Int) (255/2^sh)=(b'.toNat:Int):=by
   rw [pow_shift hsh7,u8_and_mask b (8-sh) (by omega),hb',UInt8.toNat_ofNat'];have h1:b.toNat%2^(8-sh)<256:=Nat.lt_of_le_of_lt (Nat.mod_le _ _) (byte_lt b);rw [Nat.mod_eq_of_lt h1]
  obtain ⟨Ld,hLd⟩:∃ Ld,Ld=(b'::r).take size:=⟨_,rfl⟩;have hLdl:Ld.length=size:=by rw [hLd,List.length_take,List.length_cons];have:=HLL.out;rw [HBR.out] at this;simp at this;omega
  have hval:val Ld=attN seed z a len:=by
   rw [hLd,hb'];have hr31:=HLL.out;rw [HBR.out] at hr31;exact att_val seed z a len size sh b r (by rw [← HBL.out,HBR.out]) (by simpa using hr31) HSZ.out hs1 hs2 hsh hsh7
  have hrd (u:Value):Row ((W2.setCell ⟨w.heap.size+1+1,0,none⟩ u).setCell ⟨g7,0,none⟩ (.int .u8 b'.toNat)) g7 0 Ld:=by
   rw [hLd];refine (row_first (b:=b) (row_far ?_ n1)).take size;have:=HR7.out;rw [HBR.out] at this;exact this
  have HVAL:=Lib.hid hval;have HLD:=Lib.hid hLdl;have HRD:=Lib.hid hrd;have HN:=Lib.hid (And.intro n1 (And.intro n3 h57));have HC7:=Lib.hid hc7;clear hb' hLd hval hLdl hrd;refine only_normal ?_
  gi_region_with (fail)
  all_goals
   dsimp only [onlyN]
   gi_wp2
   gi_loopw [39] (fun _ wr=>(∃ k A:Nat,k≤size∧wr.cell? ⟨w.heap.size+1+1,0,none⟩=some (.slice (some ⟨g7,A,none⟩) (size-k) (c7-k))∧(k<size→A=k)∧trimL (Ld.drop k)=trimL Ld)∧wr.frozen? ⟨w.heap.size+1+1,0,none⟩=false∧Row wr g7 0 Ld∧Below w.heap.size w wr∧wr.heap[D]?=some (.deferred (some []))) (fun _ wr=>match wr.cell? ⟨w.heap.size+1+1,0,none⟩ with|some v=>sliceLen v|none=>0)
   case atStart =>
    refine ⟨⟨0,0,Nat.zero_le _,?_,fun _=>rfl,rfl⟩,?_,HRD.out _,?_,?_⟩
    · exact (World.cell?_setCell_other _ _ _ _ (fun e=>HN.out.2.1 (by injection e))).trans (World.cell?_setCell_same _ _ _ cO)
    · exact (World.frozen?_setCell _ _ _ _).trans ((World.frozen?_setCell _ _ _ _).trans fO)
    · have hb:=(HBEL.out.setCell (p:=⟨w.heap.size+1+1,0,none⟩) (by show w.heap.size≤w.heap.size+1+1;omega) (.slice (some ⟨g7,0,none⟩) size c7)).setCell (p:=⟨g7,0,none⟩) (by have:=HN.out.2.2;show w.heap.size≤g7;omega) (.int .u8 b'.toNat)
      first|exact hb.drew|exact hb
    · have h1:=(Below.heap_setCell W2 ⟨w.heap.size+1+1,0,none⟩ (.slice (some ⟨g7,0,none⟩) size c7) D (by have:=HD.out.2;show D≠w.heap.size+1+1;omega)).trans HK.out
      exact (Below.heap_setCell _ ⟨g7,0,none⟩ (.int .u8 b'.toNat) D (Ne.symm HD.out.1)).trans h1
   case round =>
    obtain ⟨⟨k,A2,hk,hc,hA,ht⟩,hf,hrow,hbe,hD⟩:=hrel;have HT:=Lib.hid ht;have HRW:=Lib.hid hrow;have HBE:=Lib.hid hbe;have HDD:=Lib.hid hD;clear hrow hbe hD ht c70 f70 q1 q2 q3 q4 cS cO fO;have hDw:w.heap.size≤D:=by have:=HD.out.2;omega
    by_cases hlt:k<size
    · obtain rfl:A2=k:=hA hlt
      have hx:=HRW.out A2 (by rw [HLD.out];exact hlt);rw [Nat.zero_add] at hx;by_cases h0:Ld.getD A2 0=0
      · have H0:=Lib.hid h0
        have hx0:wr.cell? ⟨g7,A2,none⟩=some (.int .u8 0):=by rw [hx,h0];rfl
        have hcc:=HC7.out;clear hx h0 hA
        gi_wp2
        go_roundw
        case rel =>
         refine ⟨⟨A2+1,if c7-A2=1 then A2 else A2+1,hlt,?_,?_,?_⟩,?_,?_,?_,?_⟩
         · rw [World.cell?_setCell_same _ _ _ hc,show size-(A2+1)=size-A2-1 by omega,show c7-(A2+1)=c7-A2-1 by omega]
           split<;>rfl
         · intro h;rw [if_neg (by omega)]
         · rw [← trimL_drop_zero (by rw [HLD.out];exact hlt) H0.out];exact HT.out
         · exact (World.frozen?_setCell _ _ _ _).trans hf
         · exact row_far HRW.out HN.out.1
         · exact HBE.out.setCell (p:=⟨w.heap.size+1+1,0,none⟩) (by show w.heap.size≤w.heap.size+1+1;omega) _
         · exact (Below.heap_setCell wr ⟨w.heap.size+1+1,0,none⟩ _ D (by have:=HD.out.2;show D≠w.heap.size+1+1;omega)).trans HDD.out
        case measure =>
         rw [World.cell?_setCell_same _ _ _ hc,hc];simp [sliceLen];omega
      · obtain ⟨y,hy⟩:∃ y:Int,((Ld.getD A2 0).toNat:Int)=y:=⟨_,rfl⟩
        have hb:(y==0)=false:=by
         rw [beq_eq_false_iff_ne];intro e;exact h0 (UInt8.toNat_inj.mp (by rw [e] at hy;simpa using hy))
        rw [hy] at hx;have hcv:=conv_row ((HRW.out.drop A2)) (size-A2) (c7-A2) (by rw [List.length_drop,HLD.out]);rw [Nat.zero_add,← trimL_drop_stop (by rw [HLD.out];exact hlt) h0,HT.out,trimL_eq,HVAL.out] at hcv;clear hy h0 hA
        gi_wp2
        refine ⟨by simp,.inl ⟨_,_,rfl,run_takeDeferred HDD.out,?_⟩⟩;exact ⟨.string (B (attN seed z a len)),by simp [results,Tryz.f112,go_sem];rfl,rfl,HBE.out.trans (belowK_b (w:=w) (Nat.le_refl _) wr D _ _ hDw HDD.out rfl rfl)⟩
    · obtain rfl:k=size:=by omega
      have e0:k-k=0:=Nat.sub_self k;rw [e0] at hc;have hcv:=conv_row_zero wr g7 A2 (c7-k)
      have hBz:B (attN seed z a len)=⟨#[]⟩:=by
       rw [← HVAL.out];have h:=HT.out;rw [List.drop_eq_nil_of_le (by rw [HLD.out];exact Nat.le_refl _),trimL_eq Ld] at h;show (⟨(enc (val Ld)).toArray⟩:ByteArray)=_;rw [← h];rfl
      have HBZ:=Lib.hid hBz;clear hBz hA
      gi_wp2
      refine ⟨by simp,.inl ⟨_,_,rfl,run_takeDeferred HDD.out,?_⟩⟩;exact ⟨.string ⟨#[]⟩,by simp [results,Tryz.f112,go_sem],by rw [HBZ.out],HBE.out.trans (belowK_b (w:=w) (Nat.le_refl _) wr D _ _ hDw HDD.out rfl rfl)⟩
end Go.Proofs.YtiacajjpkncomaaGreatDoor
namespace Go.Proofs.YtiacajjpkncomaaGreatDoor
open Go.RowKit
set_option maxRecDepth 100000
set_option linter.unusedVariables false
set_option maxHeartbeats 4000000
def tryF (seed:ByteArray) (z:Int) (m:Nat):Option Nat:=(List.range 256).findSome? fun (a:Nat)=>if attN seed z a (bitsN m)<m then some (attN seed z a (bitsN m)) else none
def drawS (vals:List ByteArray) (seed:ByteArray) (z:Int) (m:Nat):Int × Nat :=
 if z<vals.length then (if m≤num (vals.getD z.toNat ByteArray.empty) then (2,0) else (0,num (vals.getD z.toNat ByteArray.empty)))
 else if seed.toList.isEmpty=true∨z=2147483647 then (14,0)
 else match tryF seed z m with
  | some x=>(0,x)
  | none=>(14,0)
theorem madeCells_strs (n:Nat):madeCells #[Value.string ByteArray.empty] n=(List.replicate n (Value.string ByteArray.empty)).toArray:=by
 apply Array.ext
 · simp [madeCells]
 · intro i h1 h2
   simp [madeCells,Nat.mod_one]
theorem make_strs (n:Nat) (h:n≤1000000) (w:World):(Instr.makeSlice 31 (.int .i64 (n:Int)) (.int .i64 (n:Int))).run Tryz.prog w =
  .ok (.slice (some ⟨w.heap.size,0,none⟩) n n) (w.alloc (.cells (List.replicate n (Value.string ByteArray.empty)).toArray 22)):=by
 rw [← madeCells_strs];exact run_make_row' 31 22 (.string ByteArray.empty) 16 Tryz.underlying31 nat_info rfl .i64 .i64 n (by omega) (by omega) w
theorem world_on {α:Exit→Act→World→Prop} {e:Exit} {a:Act} {WX:World} (R:World→Prop) (hR:R WX) (h:∀ wx,R wx→α e a wx):α e a WX:=h WX hR
structure AtD (w wx:World) (gb gs:Nat) (A:Option Addr) (n c:Nat) (seed:ByteArray) (z:Int) (ls:List Value):Prop where
 t0:wx.cell? ⟨w.heap.size,0,none⟩=some (.slice A n c)
 t1:wx.cell? ⟨w.heap.size,1,none⟩=some (.string seed)
 t2:wx.cell? ⟨w.heap.size,2,none⟩=some (.int .i64 z)
 r:wx.heap[w.heap.size+1]?=some (.cells #[.slice none 0 0,.string ⟨#[]⟩,.int .i64 0] 39 (0,0))
 b:wx.heap[gb]?=some (.cells #[.slice (some ⟨gs,0,none⟩) n n,.string seed,.int .i64 (z+1)] 39 (0,0))
 s:wx.heap[gs]?=some (.cells ls.toArray 22 (0,0))
 hb:w.heap.size+2≤gb
 hs:w.heap.size+2≤gs
 ne:gb≠gs
 bel:Below w.heap.size w wx
theorem AtD.b0 {w wx:World} {gb gs n c:Nat} {A:Option Addr} {seed:ByteArray} {z:Int} {ls:List Value} (h:AtD w wx gb gs A n c seed z ls) :
  wx.cell? ⟨gb,0,none⟩=some (.slice (some ⟨gs,0,none⟩) n n)∧wx.cell? ⟨gb,1,none⟩=some (.string seed)∧wx.cell? ⟨gb,2,none⟩=some (.int .i64 (z+1)):=by
 simp [World.cell?,h.b]
theorem AtD.r0 {w wx:World} {gb gs n c:Nat} {A:Option Addr} {seed:ByteArray} {z:Int} {ls:List Value} (h:AtD w wx gb gs A n c seed z ls) :
  wx.cell? ⟨w.heap.size+1,0,none⟩=some (.slice none 0 0)∧wx.cell? ⟨w.heap.size+1,1,none⟩=some (.string ⟨#[]⟩)∧wx.cell? ⟨w.heap.size+1,2,none⟩=some (.int .i64 0)∧(∀ k,wx.frozen? ⟨w.heap.size+1,k,none⟩=false):=by
 refine ⟨?_,?_,?_,fun k=>?_⟩<;>simp [World.cell?,World.frozen?,h.r]
theorem AtD.row {w wx:World} {gb gs n c:Nat} {A:Option Addr} {seed:ByteArray} {z:Int} {vals:List ByteArray} (h:AtD w wx gb gs A n c seed z (vals.map Value.string)):SRow wx gs vals:=by
 intro j hj;simp only [World.cell?,h.s];simp [List.getD,hj]
theorem AtD.lt {w wx:World} {gb gs n c:Nat} {A:Option Addr} {seed:ByteArray} {z:Int} {ls:List Value} (h:AtD w wx gb gs A n c seed z ls):gs<wx.heap.size:=(Array.getElem?_eq_some_iff.1 h.s).1
theorem AtD.copied {w wx:World} {gb gs n c:Nat} {A:Option Addr} {seed:ByteArray} {z:Int} {ls ms:List Value} (h:AtD w wx gb gs A n c seed z ls):AtD w (wx.setRow gs ms.toArray) gb gs A n c seed z ms:=by
 have hX:w.heap.size≠gs:=by have:=h.hs;omega
 have hX1:w.heap.size+1≠gs:=by have:=h.hs;omega
 refine ⟨?_,?_,?_,(setRow_other wx gs _ _ hX1).trans h.r,(setRow_other wx gs _ _ h.ne).trans h.b,setRow_heap wx gs _ _ _ _ h.s,h.hb,h.hs,h.ne,below_setRow h.bel (by have:=h.hs;omega) _⟩
 · exact (World.cell?_of_block (setRow_other wx gs _ _ hX)).trans h.t0
 · exact (World.cell?_of_block (setRow_other wx gs _ _ hX)).trans h.t1
 · exact (World.cell?_of_block (setRow_other wx gs _ _ hX)).trans h.t2
theorem new4 (w:World) (a b c d:Obj):((((w.alloc a).alloc b).alloc c).alloc d).drew.heap[w.heap.size+1]?=some b∧((((w.alloc a).alloc b).alloc c).alloc d).drew.heap[w.heap.size+1+1]?=some c∧((((w.alloc a).alloc b).alloc c).alloc d).drew.heap[w.heap.size+1+1+1]?=some d:=by
 have h2:((w.alloc a).alloc b).heap[w.heap.size+1]?=some b:=by have:=heap_alloc_new (w.alloc a) b;rwa [World.size_alloc] at this
 have h3:(((w.alloc a).alloc b).alloc c).heap[w.heap.size+1+1]?=some c:=by have:=heap_alloc_new ((w.alloc a).alloc b) c;rwa [World.size_alloc,World.size_alloc] at this
 have h4:((((w.alloc a).alloc b).alloc c).alloc d).heap[w.heap.size+1+1+1]?=some d:=by have:=heap_alloc_new (((w.alloc a).alloc b).alloc c) d;rwa [World.size_alloc,World.size_alloc,World.size_alloc] at this
 exact ⟨(Below.heap_alloc _ _ _ (by simp)).trans ((Below.heap_alloc _ _ _ (by simp)).trans h2),(Below.heap_alloc _ _ _ (by simp)).trans h3,h4⟩
theorem atD_A (w:World) (A:Option Addr) (n c:Nat) (seed:ByteArray) (z:Int) (hz:IntKind.i64.wrap (z+1)=z+1) :
  AtD w ((((w.alloc (.cells #[.slice A n c,.string seed,.int .i64 z] 39)).alloc (.cells #[.slice none 0 0,.string ⟨#[]⟩,.int .i64 0] 39)).alloc (.cells #[.slice (some ⟨w.heap.size+1+1+1,0,none⟩) n n,.string seed,.int .i64 (z+1)] 39)).alloc (.cells (Array.replicate n (.string ByteArray.empty)) 22)).drew
   (w.heap.size+1+1) (w.heap.size+1+1+1) A n c seed z (List.replicate n (.string ByteArray.empty)):=by
 have hb:Below w.heap.size w ((((w.alloc (.cells #[.slice A n c,.string seed,.int .i64 z] 39)).alloc (.cells #[.slice none 0 0,.string ⟨#[]⟩,.int .i64 0] 39)).alloc (.cells #[.slice (some ⟨w.heap.size+1+1+1,0,none⟩) n n,.string seed,.int .i64 (z+1)] 39)).alloc (.cells (Array.replicate n (.string ByteArray.empty)) 22)).drew :=
  (((((Below.refl _ _).alloc (Nat.le_refl _) _).alloc (by simp) _).alloc (by simp;omega) _).alloc (by simp;omega) _).drew
 exact ⟨by simp [go_sem],by simp [go_sem],by simp [go_sem],(new4 w _ _ _ _).1,(new4 w _ _ _ _).2.1,(new4 w _ _ _ _).2.2,by omega,by omega,by omega,hb⟩
theorem atD_B (w:World) (A:Option Addr) (n c:Nat) (seed:ByteArray) (z:Int) (hz:IntKind.i64.wrap (z+1)=z+1) :
  AtD w ((((w.alloc (.cells #[.slice A n c,.string seed,.int .i64 z] 39)).alloc (.cells #[.slice none 0 0,.string ⟨#[]⟩,.int .i64 0] 39)).alloc (.cells (Array.replicate n (.string ByteArray.empty)) 22)).alloc (.cells #[.slice (some ⟨w.heap.size+1+1,0,none⟩) n n,.string seed,.int .i64 (z+1)] 39)).drew
   (w.heap.size+1+1+1) (w.heap.size+1+1) A n c seed z (List.replicate n (.string ByteArray.empty)):=by
 have hb:Below w.heap.size w ((((w.alloc (.cells #[.slice A n c,.string seed,.int .i64 z] 39)).alloc (.cells #[.slice none 0 0,.string ⟨#[]⟩,.int .i64 0] 39)).alloc (.cells (Array.replicate n (.string ByteArray.empty)) 22)).alloc (.cells #[.slice (some ⟨w.heap.size+1+1,0,none⟩) n n,.string seed,.int .i64 (z+1)] 39)).drew :=
  (((((Below.refl _ _).alloc (Nat.le_refl _) _).alloc (by simp) _).alloc (by simp;omega) _).alloc (by simp;omega) _).drew
 exact ⟨by simp [go_sem],by simp [go_sem],by simp [go_sem],(new4 w _ _ _ _).1,(new4 w _ _ _ _).2.2,(new4 w _ _ _ _).2.1,by omega,by omega,by omega,hb⟩
theorem copy_row (n:Nat) (e:Value) (L:List Value) (h:L.length=n):((List.replicate n e).toArray.toList.take 0++(L++(List.replicate n e).toArray.toList.drop (0+L.length)))=L:=by
 rw [List.take_zero,List.nil_append,Nat.zero_add,h];simp
theorem hop3 {w:World} {r:Nat} {x y z:Value} {a:Addr} {u:Option Value} (h:r≠a.block) (hc:w.cell? a=u):(((w.setCell ⟨r,0,none⟩ x).setCell ⟨r,1,none⟩ y).setCell ⟨r,2,none⟩ z).drew.cell? a=u:=by
 have h':∀ k,(⟨r,k,none⟩:Addr)≠a:=fun k e=>h (by rw [← e])
 exact (World.cell?_setCell_other _ _ _ _ (h' 2)).trans ((World.cell?_setCell_other _ _ _ _ (h' 1)).trans ((World.cell?_setCell_other _ _ _ _ (h' 0)).trans hc))
theorem some3 {w:World} {r:Nat} {x y z:Value} {a:Addr} (h:∃ u,w.cell? a=some u):∃ u,(((w.setCell ⟨r,0,none⟩ x).setCell ⟨r,1,none⟩ y).setCell ⟨r,2,none⟩ z).drew.cell? a=some u:=by
 obtain ⟨u,hu⟩:=h;obtain ⟨u1,h1⟩:∃ u1,(w.setCell ⟨r,0,none⟩ x).cell? a=some u1:=cell?_setCell_some hu;obtain ⟨u2,h2⟩:∃ u2,((w.setCell ⟨r,0,none⟩ x).setCell ⟨r,1,none⟩ y).cell? a=some u2:=cell?_setCell_some h1;obtain ⟨u3,h3⟩:∃ u3,(((w.setCell ⟨r,0,none⟩ x).setCell ⟨r,1,none⟩ y).setCell ⟨r,2,none⟩ z).cell? a=some u3:=cell?_setCell_some h2;exact ⟨u3,h3⟩
theorem free3 {w:World} {r:Nat} {x y z:Value} {a:Addr} {b:Bool} (h:w.frozen? a=b):(((w.setCell ⟨r,0,none⟩ x).setCell ⟨r,1,none⟩ y).setCell ⟨r,2,none⟩ z).drew.frozen? a=b :=
 (World.frozen?_setCell _ _ _ _).trans ((World.frozen?_setCell _ _ _ _).trans ((World.frozen?_setCell _ _ _ _).trans h))
theorem str_ones (l:List ByteArray):∀ v∈l.map Value.string,v.oneCell'=true:=by
 intro v hv;obtain ⟨n,_,rfl⟩:=List.mem_map.mp hv;rfl
theorem src_cells {w wx:World} {ad:Addr} {vals:List ByteArray} (hb:Below w.heap.size w wx) (had:ad.block<w.heap.size) (h:∀ j,j<vals.length→w.cell? (ad.add j)=some (.string (vals.getD j ByteArray.empty))) :
  ∀ j v,(vals.map Value.string)[j]?=some v→wx.cell? (ad.add j)=some v:=by
 intro j v hv;rw [List.getElem?_map,Option.map_eq_some_iff] at hv;obtain ⟨x,hx,rfl⟩:=hv;have hj:=(List.getElem?_eq_some_iff.1 hx).1;rw [hb.cell (by rw [block_of_add];exact had),h j hj,sgetD_lt hj,(List.getElem?_eq_some_iff.1 hx).2]
theorem AtD.stored {w w6:World} {gb gs n c:Nat} {ad p:Addr} {seed:ByteArray} {z:Int} {ls:List Value} {u x y t:Value} (h:AtD w w6 gb gs (some ad) n c seed z ls) (hp:p.block<w.heap.size) (hsrc:w6.cell? p=some u) :
  (((w6.setCell ⟨w.heap.size+1,0,none⟩ x).setCell ⟨w.heap.size+1,1,none⟩ y).setCell ⟨w.heap.size+1,2,none⟩ t).drew.cell? ⟨w.heap.size,0,none⟩=some (.slice (some ad) n c) ∧
  (((w6.setCell ⟨w.heap.size+1,0,none⟩ x).setCell ⟨w.heap.size+1,1,none⟩ y).setCell ⟨w.heap.size+1,2,none⟩ t).drew.cell? ⟨w.heap.size,2,none⟩=some (.int .i64 z) ∧
  (((w6.setCell ⟨w.heap.size+1,0,none⟩ x).setCell ⟨w.heap.size+1,1,none⟩ y).setCell ⟨w.heap.size+1,2,none⟩ t).drew.cell? p=some u ∧
  (((w6.setCell ⟨w.heap.size+1,0,none⟩ x).setCell ⟨w.heap.size+1,1,none⟩ y).setCell ⟨w.heap.size+1,2,none⟩ t).drew.cell? ⟨gb,0,none⟩=some (.slice (some ⟨gs,0,none⟩) n n) ∧
  (((w6.setCell ⟨w.heap.size+1,0,none⟩ x).setCell ⟨w.heap.size+1,1,none⟩ y).setCell ⟨w.heap.size+1,2,none⟩ t).drew.cell? ⟨gb,1,none⟩=some (.string seed) ∧
  (((w6.setCell ⟨w.heap.size+1,0,none⟩ x).setCell ⟨w.heap.size+1,1,none⟩ y).setCell ⟨w.heap.size+1,2,none⟩ t).drew.cell? ⟨gb,2,none⟩=some (.int .i64 (z+1)) ∧
  (∃ u,(((w6.setCell ⟨w.heap.size+1,0,none⟩ x).setCell ⟨w.heap.size+1,1,none⟩ y).setCell ⟨w.heap.size+1,2,none⟩ t).drew.cell? ⟨w.heap.size+1,0,none⟩=some u) ∧
  (∃ u,(((w6.setCell ⟨w.heap.size+1,0,none⟩ x).setCell ⟨w.heap.size+1,1,none⟩ y).setCell ⟨w.heap.size+1,2,none⟩ t).drew.cell? ⟨w.heap.size+1,1,none⟩=some u) ∧
  (∃ u,(((w6.setCell ⟨w.heap.size+1,0,none⟩ x).setCell ⟨w.heap.size+1,1,none⟩ y).setCell ⟨w.heap.size+1,2,none⟩ t).drew.cell? ⟨w.heap.size+1,2,none⟩=some u) ∧
  (((w6.setCell ⟨w.heap.size+1,0,none⟩ x).setCell ⟨w.heap.size+1,1,none⟩ y).setCell ⟨w.heap.size+1,2,none⟩ t).drew.frozen? ⟨w.heap.size+1,0,none⟩=false ∧
  (((w6.setCell ⟨w.heap.size+1,0,none⟩ x).setCell ⟨w.heap.size+1,1,none⟩ y).setCell ⟨w.heap.size+1,2,none⟩ t).drew.frozen? ⟨w.heap.size+1,1,none⟩=false ∧
  (((w6.setCell ⟨w.heap.size+1,0,none⟩ x).setCell ⟨w.heap.size+1,1,none⟩ y).setCell ⟨w.heap.size+1,2,none⟩ t).drew.frozen? ⟨w.heap.size+1,2,none⟩=false:=by
 obtain ⟨v0,v1,v2⟩:=h.b0;obtain ⟨r0,r1,r2,rf⟩:=h.r0;have hb:=h.hb;have nX:w.heap.size+1≠w.heap.size:=by omega
 have nb:w.heap.size+1≠gb:=by omega
 exact ⟨hop3 nX h.t0,hop3 nX h.t2,hop3 (by omega) hsrc,hop3 nb v0,hop3 nb v1,hop3 nb v2,some3 ⟨_,r0⟩,some3 ⟨_,r1⟩,some3 ⟨_,r2⟩,free3 (rf 0),free3 (rf 1),free3 (rf 2)⟩
theorem AtD.res {w w6:World} {gb gs n c:Nat} {A:Option Addr} {seed:ByteArray} {z:Int} {vals:List ByteArray} {x y t:Value} (h:AtD w w6 gb gs A n c seed z (vals.map Value.string)) :
  SLs (((w6.setCell ⟨w.heap.size+1,0,none⟩ x).setCell ⟨w.heap.size+1,1,none⟩ y).setCell ⟨w.heap.size+1,2,none⟩ t).drew (((w6.setCell ⟨w.heap.size+1,0,none⟩ x).setCell ⟨w.heap.size+1,1,none⟩ y).setCell ⟨w.heap.size+1,2,none⟩ t).drew.heap.size (some ⟨gs,0,none⟩) vals ∧
  Below w.heap.size w (((w6.setCell ⟨w.heap.size+1,0,none⟩ x).setCell ⟨w.heap.size+1,1,none⟩ y).setCell ⟨w.heap.size+1,2,none⟩ t).drew:=by
 have hs:=h.hs;have le:w.heap.size≤w.heap.size+1:=Nat.le_succ _;refine ⟨SLs.of_row (fun j hj=>hop3 (by show w.heap.size+1≠gs;omega) (h.row j hj)) ?_,(((h.bel.setCell (p:=⟨w.heap.size+1,0,none⟩) le x).setCell (p:=⟨w.heap.size+1,1,none⟩) le y).setCell (p:=⟨w.heap.size+1,2,none⟩) le t).drew⟩;have:=h.lt;simpa [World.drew] using this
end Go.Proofs.YtiacajjpkncomaaGreatDoor
namespace Go.Proofs.YtiacajjpkncomaaGreatDoor
open Go.RowKit
set_option maxRecDepth 100000
set_option linter.unusedVariables false
set_option maxHeartbeats 4000000
theorem below_res (w:World) (a b:Obj):Below w.heap.size w ((w.alloc a).alloc b):=((Below.refl _ _).alloc (Nat.le_refl _) _).alloc (by simp) _
theorem draw_high (vals:List ByteArray) (A:Option Addr) (n c:Nat) (seed:ByteArray) (k v m:Nat) (w:World) (hn:vals.length=n) (hm:n≤1000) (h:SLs w w.heap.size A vals) (hk:k<n)
  (hv:vals.getD k ByteArray.empty=B v) (hv1:v<lim) (hvm:m≤v) (hm1:m<18446744073709551616) :
  Calls Tryz.prog 55 #[.agg #[.slice A n c,.string seed,.int .i64 k],.string (B m)] w fun e w'=>e=.returned (.tuple #[.string ⟨#[]⟩,.agg #[.slice none 0 0,.string ⟨#[]⟩,.int .i64 0],.int .i64 2])∧Below w.heap.size w w':=by
 obtain ⟨ad,rfl,hadb,hall⟩:=h (by intro e;rw [e] at hn;simp at hn;omega);have hc0:=hall k (by omega);rw [hv] at hc0
 have hc1:((w.alloc (.cells #[.slice (some ad) n c,.string seed,.int .i64 k] 39)).alloc (.cells #[.slice none 0 0,.string ⟨#[]⟩,.int .i64 0] 39)).cell? (ad.add k)=some (.string (B v)):=by
  rw [World.cell?_alloc_lt _ _ _ (by rw [block_of_add];simp;omega),World.cell?_alloc_lt _ _ _ (by rw [block_of_add];exact hadb)];exact hc0
 have i0:(0:Int)≤(k:Int):=by omega
 have i1:(k:Int)<(n:Int):=by omega
 have KC:=Lib.hid (fun w=>natural_Cmp (B v) (B m) w);rw [natCmp_BB hv1 (Nat.lt_trans hm1 (by decide))] at KC;obtain ⟨y,hy,hy0⟩:∃ y:Int,cmpN v m=y∧0≤y:=⟨_,rfl,by unfold cmpN;rw [if_neg (by omega)];split<;>decide⟩;rw [hy] at KC;clear hy hall hn hc0 hv
 go_enter Tryz.func55, Tryz.ntmps55
 go_wp2_with (first|(go_at_call 43;(with_reducible refine (KC.out _).mono ?_);rintro e w1 ⟨rfl,rfl⟩));exact bodyPost_ret (v:=.tuple #[.string ⟨#[]⟩,.agg #[.slice none 0 0,.string ⟨#[]⟩,.int .i64 0],.int .i64 2]) (by simp [results,Tryz.results55,go_sem]) rfl ⟨rfl,below_res w _ _⟩
theorem draw_none (vals:List ByteArray) (A:Option Addr) (n c:Nat) (seed:ByteArray) (z:Int) (m:Nat) (w:World) (hm:n≤1000) (hz:(n:Int)≤z) (hs:seed.toList.isEmpty=true∨z=2147483647) :
  Calls Tryz.prog 55 #[.agg #[.slice A n c,.string seed,.int .i64 z],.string (B m)] w fun e w'=>e=.returned (.tuple #[.string ⟨#[]⟩,.agg #[.slice none 0 0,.string ⟨#[]⟩,.int .i64 0],.int .i64 14])∧Below w.heap.size w w':=by
 have i1:¬ z<(n:Int):=by omega
 have i2:(n:Int)≤z:=hz
 cases he:seed.toList.isEmpty
 · have hz2:z=2147483647:=by rcases hs with h|h;· rw [he] at h;cases h
                             · exact h
   subst hz2
   go_enter Tryz.func55, Tryz.ntmps55
   go_wp2;exact bodyPost_ret (v:=.tuple #[.string ⟨#[]⟩,.agg #[.slice none 0 0,.string ⟨#[]⟩,.int .i64 0],.int .i64 14]) (by simp [results,Tryz.results55,go_sem]) rfl ⟨rfl,below_res w _ _⟩
 · go_enter Tryz.func55, Tryz.ntmps55
   go_wp2;exact bodyPost_ret (v:=.tuple #[.string ⟨#[]⟩,.agg #[.slice none 0 0,.string ⟨#[]⟩,.int .i64 0],.int .i64 14]) (by simp [results,Tryz.results55,go_sem]) rfl ⟨rfl,below_res w _ _⟩
end Go.Proofs.YtiacajjpkncomaaGreatDoor
namespace Go.Proofs.YtiacajjpkncomaaGreatDoor
open Go.RowKit
set_option maxRecDepth 100000
set_option linter.unusedVariables false
set_option maxHeartbeats 4000000
theorem AtD.next {w wx wy:World} {gb gs n c:Nat} {A:Option Addr} {seed:ByteArray} {z:Int} {ls:List Value} (h:AtD w wx gb gs A n c seed z ls) (hb:Below wx.heap.size wx wy):AtD w wy gb gs A n c seed z ls:=by
 have lb:gb<wx.heap.size:=(Array.getElem?_eq_some_iff.1 h.b).1;have lr:w.heap.size+1<wx.heap.size:=(Array.getElem?_eq_some_iff.1 h.r).1
 exact ⟨(hb.cell (p:=⟨w.heap.size,0,none⟩) (by show w.heap.size<_;omega)).trans h.t0,(hb.cell (p:=⟨w.heap.size,1,none⟩) (by show w.heap.size<_;omega)).trans h.t1,(hb.cell (p:=⟨w.heap.size,2,none⟩) (by show w.heap.size<_;omega)).trans h.t2,
  (hb.block _ lr).trans h.r,(hb.block _ lb).trans h.b,(hb.block _ h.lt).trans h.s,h.hb,h.hs,h.ne,h.bel.trans (hb.mono (by have:=h.bel.size;omega))⟩
theorem copy_src {w wx:World} {A:Option Addr} {vals:List ByteArray} (hb:Below w.heap.size w wx) (h:SLs w w.heap.size A vals) (h0:0<vals.length) :
  ∃ ad,A=some ad∧∀ j v,(vals.map Value.string)[j]?=some v→wx.cell? (ad.add j)=some v:=by
 obtain ⟨ad,rfl,hadb,hall⟩:=h (by intro e;rw [e] at h0;cases h0);exact ⟨ad,rfl,src_cells hb hadb hall⟩
theorem wpList_copy_strs {w wx:World} {gb gs n c:Nat} {A:Option Addr} {seed:ByteArray} {z:Int} {vals:List ByteArray} {ops:Array Oper} {rest:List Oper} {o:Oper} {a:Act} {Q:Exit→Act→World→Prop} (hgd:o.guard=none) (d s:Operand)
  (ho:o.op=.call { callee:=.builtin .copy,args:=#[d,s],argTypes:=#[31,31] })
  (hd:a.eval d=.slice (some ⟨gs,0,none⟩) n n) (hs:a.eval s=.slice A n c) (HX:AtD w wx gb gs A n c seed z (List.replicate n (.string ByteArray.empty))) (hS:SLs w w.heap.size A vals) (hn:vals.length=n)
  (h:∀ w6,AtD w w6 gb gs A n c seed z (vals.map Value.string)→wpList Tryz.prog ops Q rest (a.put o.dst (goInt n)) w6):wpList Tryz.prog ops Q (o::rest) a wx:=by
 have hlen:(vals.map Value.string).length=n:=by rw [List.length_map,hn]
 rcases Nat.eq_zero_or_pos n with h0|h0
 · subst h0
   refine wpList_copy_nothing hgd d s _ _ ho 22 Tryz.underlying31 rfl (some ⟨gs,0,none⟩) A 0 0 0 c hd hs rfl ?_;have hv:vals=[]:=List.length_eq_zero_iff.mp hn;refine h wx ?_;rw [hv];exact HX
 · obtain ⟨ad,rfl,hc⟩:=copy_src HX.bel hS (by omega)
   refine wpList_copy_own hgd d s _ _ ho 22 Tryz.underlying31 rfl gs 0 n n ad n c hd hs _ 22 HX.s (vals.map Value.string) (by rw [hlen];exact (Nat.min_self n).symm) hc (by rw [hlen];simp) (str_ones vals) ?_;rw [copy_row n _ _ hlen,hlen];exact h _ HX.copied
theorem AtD.stored9 {w w6:World} {gb gs n c:Nat} {A:Option Addr} {seed:ByteArray} {z:Int} {ls:List Value} {x y t:Value} (h:AtD w w6 gb gs A n c seed z ls) :
  (((w6.setCell ⟨w.heap.size+1,0,none⟩ x).setCell ⟨w.heap.size+1,1,none⟩ y).setCell ⟨w.heap.size+1,2,none⟩ t).drew.cell? ⟨gb,0,none⟩=some (.slice (some ⟨gs,0,none⟩) n n)∧(((w6.setCell ⟨w.heap.size+1,0,none⟩ x).setCell ⟨w.heap.size+1,1,none⟩ y).setCell ⟨w.heap.size+1,2,none⟩ t).drew.cell? ⟨gb,1,none⟩=some (.string seed)∧(((w6.setCell ⟨w.heap.size+1,0,none⟩ x).setCell ⟨w.heap.size+1,1,none⟩ y).setCell ⟨w.heap.size+1,2,none⟩ t).drew.cell? ⟨gb,2,none⟩=some (.int .i64 (z+1)) ∧
  (∃ u,(((w6.setCell ⟨w.heap.size+1,0,none⟩ x).setCell ⟨w.heap.size+1,1,none⟩ y).setCell ⟨w.heap.size+1,2,none⟩ t).drew.cell? ⟨w.heap.size+1,0,none⟩=some u)∧(∃ u,(((w6.setCell ⟨w.heap.size+1,0,none⟩ x).setCell ⟨w.heap.size+1,1,none⟩ y).setCell ⟨w.heap.size+1,2,none⟩ t).drew.cell? ⟨w.heap.size+1,1,none⟩=some u)∧(∃ u,(((w6.setCell ⟨w.heap.size+1,0,none⟩ x).setCell ⟨w.heap.size+1,1,none⟩ y).setCell ⟨w.heap.size+1,2,none⟩ t).drew.cell? ⟨w.heap.size+1,2,none⟩=some u) ∧
  (((w6.setCell ⟨w.heap.size+1,0,none⟩ x).setCell ⟨w.heap.size+1,1,none⟩ y).setCell ⟨w.heap.size+1,2,none⟩ t).drew.frozen? ⟨w.heap.size+1,0,none⟩=false∧(((w6.setCell ⟨w.heap.size+1,0,none⟩ x).setCell ⟨w.heap.size+1,1,none⟩ y).setCell ⟨w.heap.size+1,2,none⟩ t).drew.frozen? ⟨w.heap.size+1,1,none⟩=false∧(((w6.setCell ⟨w.heap.size+1,0,none⟩ x).setCell ⟨w.heap.size+1,1,none⟩ y).setCell ⟨w.heap.size+1,2,none⟩ t).drew.frozen? ⟨w.heap.size+1,2,none⟩=false:=by
 obtain ⟨v0,v1,v2⟩:=h.b0;obtain ⟨r0,r1,r2,rf⟩:=h.r0;have hb:=h.hb;have nb:w.heap.size+1≠gb:=by omega
 exact ⟨hop3 nb v0,hop3 nb v1,hop3 nb v2,some3 ⟨_,r0⟩,some3 ⟨_,r1⟩,some3 ⟨_,r2⟩,free3 (rf 0),free3 (rf 1),free3 (rf 2)⟩
theorem find_hit {seed:ByteArray} {z:Int} {m i:Nat} (h:i<256) (hno:∀ j:Nat,j<i→¬ attN seed z j (bitsN m)<m) (hx:attN seed z i (bitsN m)<m):tryF seed z m=some (attN seed z i (bitsN m)):=by
 unfold tryF;rw [List.findSome?_eq_some_iff];refine ⟨List.range i,i,(List.range' (i+1) (255-i)),?_,by rw [if_pos hx],fun j hj=>by rw [if_neg (hno j (List.mem_range.1 hj))]⟩;rw [List.range_eq_range',List.range_eq_range',← List.range'_succ,show 255-i+1=256-i by omega];have:=List.range'_append (s:=0) (m:=i) (n:=256-i) (step:=1);rw [show 0+1*i=i by omega,show i+(256-i)=256 by omega] at this;exact this.symm
theorem find_miss {seed:ByteArray} {z:Int} {m:Nat} (hno:∀ j:Nat,j<256→¬ attN seed z j (bitsN m)<m):tryF seed z m=none:=by
 unfold tryF;rw [List.findSome?_eq_none_iff];intro j hj;rw [if_neg (hno j (List.mem_range.1 hj))]
theorem AtD.bel3 {w w6:World} {gb gs n c:Nat} {A:Option Addr} {seed:ByteArray} {z:Int} {ls:List Value} {x y t:Value} (h:AtD w w6 gb gs A n c seed z ls) :
  Below w.heap.size w (((w6.setCell ⟨w.heap.size+1,0,none⟩ x).setCell ⟨w.heap.size+1,1,none⟩ y).setCell ⟨w.heap.size+1,2,none⟩ t):=by
 have le:w.heap.size≤w.heap.size+1:=Nat.le_succ _;exact ((h.bel.setCell (p:=⟨w.heap.size+1,0,none⟩) le x).setCell (p:=⟨w.heap.size+1,1,none⟩) le y).setCell (p:=⟨w.heap.size+1,2,none⟩) le t
end Go.Proofs.YtiacajjpkncomaaGreatDoor
namespace Go.Proofs.YtiacajjpkncomaaGreatDoor
open Go.RowKit
set_option maxRecDepth 100000
set_option linter.unusedVariables false
set_option maxHeartbeats 4000000
theorem good_parts {vals:List ByteArray} {z:Int} (h:goodT vals z=true):0≤z∧z≤2147483647∧vals.all valid=true:=by
 unfold goodT at h;simpa using h
structure AtB (w wx:World) (A:Option Addr) (n c:Nat) (seed:ByteArray) (z:Int):Prop where
 t0:wx.cell? ⟨w.heap.size,0,none⟩=some (.slice A n c)
 t1:wx.cell? ⟨w.heap.size,1,none⟩=some (.string seed)
 t2:wx.cell? ⟨w.heap.size,2,none⟩=some (.int .i64 z)
 r:wx.heap[w.heap.size+1]?=some (.cells #[.slice none 0 0,.string ⟨#[]⟩,.int .i64 0] 39 (0,0))
 bel:Below w.heap.size w wx
theorem AtB.start (w:World) (A:Option Addr) (n c:Nat) (seed:ByteArray) (z:Int):AtB w ((w.alloc (.cells #[.slice A n c,.string seed,.int .i64 z] 39)).alloc (.cells #[.slice none 0 0,.string ⟨#[]⟩,.int .i64 0] 39)) A n c seed z :=
 ⟨by simp [go_sem],by simp [go_sem],by simp [go_sem],by have:=heap_alloc_new (w.alloc (.cells #[.slice A n c,.string seed,.int .i64 z] 39)) (.cells #[.slice none 0 0,.string ⟨#[]⟩,.int .i64 0] 39);rwa [World.size_alloc] at this,below_res w _ _⟩
section
variable {w wx wy:World} {A:Option Addr} {n c:Nat} {seed:ByteArray} {z:Int} {x y t:Value}
theorem AtB.next (h:AtB w wx A n c seed z) (hb:Below wx.heap.size wx wy):AtB w wy A n c seed z:=by
 have lr:w.heap.size+1<wx.heap.size:=(Array.getElem?_eq_some_iff.1 h.r).1
 exact ⟨(hb.cell (p:=⟨w.heap.size,0,none⟩) (by show w.heap.size<_;omega)).trans h.t0,(hb.cell (p:=⟨w.heap.size,1,none⟩) (by show w.heap.size<_;omega)).trans h.t1,(hb.cell (p:=⟨w.heap.size,2,none⟩) (by show w.heap.size<_;omega)).trans h.t2,
  (hb.block _ lr).trans h.r,h.bel.trans (hb.mono (by omega))⟩
theorem AtB.r0 (h:AtB w wx A n c seed z):wx.cell? ⟨w.heap.size+1,0,none⟩=some (.slice none 0 0)∧wx.cell? ⟨w.heap.size+1,1,none⟩=some (.string ⟨#[]⟩)∧wx.cell? ⟨w.heap.size+1,2,none⟩=some (.int .i64 0) ∧
  wx.frozen? ⟨w.heap.size+1,0,none⟩=false∧wx.frozen? ⟨w.heap.size+1,1,none⟩=false∧wx.frozen? ⟨w.heap.size+1,2,none⟩=false:=by
 refine ⟨?_,?_,?_,?_,?_,?_⟩<;>simp [World.cell?,World.frozen?,h.r]
theorem AtB.bel3 (h:AtB w wx A n c seed z):Below w.heap.size w (((wx.setCell ⟨w.heap.size+1,0,none⟩ x).setCell ⟨w.heap.size+1,1,none⟩ y).setCell ⟨w.heap.size+1,2,none⟩ t):=by
 have le:w.heap.size≤w.heap.size+1:=Nat.le_succ _;exact ((h.bel.setCell (p:=⟨w.heap.size+1,0,none⟩) le x).setCell (p:=⟨w.heap.size+1,1,none⟩) le y).setCell (p:=⟨w.heap.size+1,2,none⟩) le t
theorem AtB.keepS {g:Nat} {vals:List ByteArray} (h:AtB w wx A n c seed z) (hs:SLs wx wx.heap.size (some ⟨g,0,none⟩) vals) :
  SLs (((wx.setCell ⟨w.heap.size+1,0,none⟩ x).setCell ⟨w.heap.size+1,1,none⟩ y).setCell ⟨w.heap.size+1,2,none⟩ t) (((wx.setCell ⟨w.heap.size+1,0,none⟩ x).setCell ⟨w.heap.size+1,1,none⟩ y).setCell ⟨w.heap.size+1,2,none⟩ t).heap.size (some ⟨g,0,none⟩) vals:=by
 intro hne;obtain ⟨ad,e,hb,hc⟩:=hs hne;injection e with e
 subst e;have h0:=hc 0 (List.length_pos_iff.mpr hne);rw [addr_add] at h0
 have hg:w.heap.size+1≠g:=by
  intro e;have:=h.r0.1;rw [e] at this;rw [show 0+0=0 from rfl,this] at h0
  cases h0
 refine ⟨_,rfl,by simpa using hb,fun j hj=>?_⟩;have hj':=hc j hj;rw [addr_add] at hj' ⊢;exact hop3 (by show w.heap.size+1≠g;exact hg) hj'
end
theorem readyT_bad {vals:List ByteArray} {z:Int} {m:ByteArray} (h:goodT vals z=false):readyT vals z m=3:=by unfold readyT;rw [h];rfl
theorem readyT_good {vals:List ByteArray} {z:Int} {m:Nat} (h:goodT vals z=true) (hm0:1≤m) (hm1:m<lim):readyT vals z (B m)=0:=by
 unfold readyT;rw [h,valid_B hm1,B_isEmpty_false (by omega)];rfl
def belowS (vals:List ByteArray) (seed:ByteArray) (z:Int) (m:Nat):Int × Nat:=if goodT vals z=true then drawS vals seed z m else (3,0)
end Go.Proofs.YtiacajjpkncomaaGreatDoor
