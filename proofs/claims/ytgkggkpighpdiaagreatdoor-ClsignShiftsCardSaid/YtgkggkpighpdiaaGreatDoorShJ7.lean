/- Words for memory: slices of strings that came in; sets of strings (map[api.Nat]bool) that a call makes. Words for memory, copied from the kit's page extra-words: a slice that reads as a list; append onto a row of the call's own. Then the same for strings. The walks of package accumulator: lists of numbers, sets, powers. The walks of package accumulator: powers, Value, Witness, Add, Check. The walks of package accumulator: Add, Check. The walks of package accumulator: Witness. Package modular: Inverse at 7 and 15, Power; rsagroup.Root at two inputs. The examples of the chapter on accumulators. The examples of the chapter on accumulators: the key, awake. The examples of the chapter on accumulators: Remove, awake. The law AccumulatorOrders: it returns true. -/
import Derived.Test.YtgkggkpighpdiaaGreatDoorShBM
import Derived.Test.YtgkggkpighpdiaaGreatDoorShBR
import Derived.Maps.Own
import Derived.Maps.OwnOps
import Derived.Maps.OwnSet
import Derived.Maps.Views
import Derived.StringKeys
import Derived.Test.YtgkggkpighpdiaaGreatDoorShJ4
import Derived.Below
import Derived.Laws.OwnMore
import Derived.Deep.AppendLies
import Derived.Deep.Draws
import Derived.Maps.AppendAt
import Derived.RegionTactic
import Derived.OwnWalk
import Derived.Test.YtgkggkpighpdiaaGreatDoorShBE
import Derived.Test.YtgkggkpighpdiaaGreatDoorShII
import Derived.Test.YtgkggkpighpdiaaGreatDoorShBP
import Derived.Test.YtgkggkpighpdiaaGreatDoorShRA
import Derived.Deep.DeepCutAuto
import Derived.Deep.CutBlock
namespace Go.Proofs.YtgkggkpighpdiaaGreatDoor
open Go.RowKit
set_option maxRecDepth 100000
set_option linter.unusedVariables false
def SetMap (w : World) (b n : Nat) (ls : List ByteArray) : Prop :=
 ∃ D : DataW Unit,w.ownsMap Tryz.prog 22 (plainElem Tryz.prog 4) b n D∧Maps.IsMap D ∧
  ∀ s : ByteArray,D.atKey (.string s.data.toList) (.lit (.bool false))=.lit (.bool (ls.any fun x=>x.toList==s.toList))
theorem SetMap.made (w : World) : SetMap (w.alloc (.map #[] 0)) w.heap.size 0 [] :=
 ⟨.map [],World.ownsMap_made _ _ _ _,Maps.isMap_empty,fun s=>rfl⟩
theorem SetMap.kept {w w' : World} {b n B : Nat} {ls : List ByteArray} (h : SetMap w b n ls) (hb : Below B w w') (hB : b < B) : SetMap w' b n ls:=by
 obtain ⟨D,⟨es,clock,h1,h2⟩,hm,ha⟩:=h
 exact ⟨D,⟨es,clock,(hb.block b hB).trans h1,h2⟩,hm,ha⟩
theorem SetMap.lt {w : World} {b n : Nat} {ls : List ByteArray} (h : SetMap w b n ls) : b < w.heap.size:=by
 obtain ⟨D,ho,_,_⟩:=h
 exact ho.lt
end Go.Proofs.YtgkggkpighpdiaaGreatDoor
namespace Go.Proofs.YtgkggkpighpdiaaGreatDoor
open Go.RowKit
set_option maxRecDepth 100000
set_option linter.unusedVariables false
end Go.Proofs.YtgkggkpighpdiaaGreatDoor
namespace Go.Proofs.YtgkggkpighpdiaaGreatDoor
open Go.RowKit
set_option maxRecDepth 100000
set_option linter.unusedVariables false
set_option maxHeartbeats 1000000
theorem SetMap.snoc {w : World} {b n : Nat} {l : List ByteArray} {s : ByteArray} (h : SetMap w b n (s::l)) : SetMap w b n (l++[s]):=by
 obtain ⟨D,h1,h2,h3⟩:=h
 refine ⟨D,h1,h2,fun t=>?_⟩
 rw [h3 t,List.any_cons,List.any_append,List.any_cons,List.any_nil,Bool.or_false,Bool.or_comm]
end Go.Proofs.YtgkggkpighpdiaaGreatDoor
namespace Go.Proofs.YtgkggkpighpdiaaGreatDoor
open Go.RowKit
set_option maxRecDepth 100000
set_option linter.unusedVariables false
set_option maxHeartbeats 1000000
structure KeyAt (w : World) (g : Nat) (m o u : ByteArray) (wx : World) : Prop where
 c1 : wx.cell? ⟨g,1,none⟩=some (.string m)
 c2 : wx.cell? ⟨g,2,none⟩=some (.string o)
 c6 : wx.cell? ⟨g,6,none⟩=some (.string u)
 below : Below w.heap.size w wx
 size : g < wx.heap.size
theorem KeyAt.next {w wx w' : World} {g : Nat} {m o u : ByteArray} (h : KeyAt w g m o u wx) (hb : Below wx.heap.size wx w') : KeyAt w g m o u w':=by
 have hz:=h.size
 exact ⟨(hb.cell (p:=⟨g,1,none⟩) hz).trans h.c1,(hb.cell (p:=⟨g,2,none⟩) hz).trans h.c2,(hb.cell (p:=⟨g,6,none⟩) hz).trans h.c6,below2 h.below hb,by have:=hb.size;omega⟩
theorem KeyAt.alloc {w wx : World} {g : Nat} {m o u : ByteArray} (h : KeyAt w g m o u wx) (ob : Obj) : KeyAt w g m o u (wx.alloc ob):=h.next ((Below.refl _ _).alloc (Nat.le_refl _) _)
theorem KeyAt.drew {w wx : World} {g : Nat} {m o u : ByteArray} (h : KeyAt w g m o u wx) : KeyAt w g m o u wx.drew:=h.next ((Below.refl _ _).drew)
theorem KeyAt.box (w : World) (kn z s r h : Value) (m o u : ByteArray) (T : TypeId) : KeyAt w w.heap.size m o u (w.alloc (.cells #[kn,.string m,.string o,z,s,r,.string u,h] T)) :=
 ⟨by simp [go_sem],by simp [go_sem],by simp [go_sem],(Below.refl _ _).alloc (Nat.le_refl _) _,by simp⟩
end Go.Proofs.YtgkggkpighpdiaaGreatDoor
namespace Go.Proofs.YtgkggkpighpdiaaGreatDoor
open Go.RowKit
set_option maxRecDepth 100000
set_option linter.unusedVariables false
set_option maxHeartbeats 1000000
end Go.Proofs.YtgkggkpighpdiaaGreatDoor
namespace Go.Proofs.YtgkggkpighpdiaaGreatDoor
open Go.RowKit
set_option maxRecDepth 100000
set_option linter.unusedVariables false
set_option maxHeartbeats 1000000
structure WitAt (w : World) (m o u x : ByteArray) (gu gx : Nat) (W : World) : Prop where
 key : KeyAt w w.heap.size m o u W
 own : OwnS W w.heap.size (.slice (some ⟨gx,0,none⟩) 1 1) 1 [x]
 us : W.cell? ⟨gu,0,none⟩=some (.string u)
 ne : gx≠gu
 ng : gx≠w.heap.size
 lu : gu < W.heap.size
 lx : w.heap.size≤gx
theorem WitAt.drew {w W : World} {m o u x : ByteArray} {gu gx : Nat} (h : WitAt w m o u x gu gx W) : WitAt w m o u x gu gx W.drew:=⟨h.key.drew,h.own,h.us,h.ne,h.ng,h.lu,h.lx⟩
structure WitTo (w : World) (m o u x : ByteArray) (ls : List ByteArray) (gu : Nat) (A1 : Option Addr) (w1 : World) : Prop where
 key : KeyAt w w.heap.size m o u w1
 us : SLs w1 w1.heap.size (some ⟨gu,0,none⟩) [u]
 ms : SLs w1 w1.heap.size A1 (x::ls)
theorem WitTo.drew {w w1 : World} {m o u x : ByteArray} {ls : List ByteArray} {gu : Nat} {A1 : Option Addr} (h : WitTo w m o u x ls gu A1 w1) : WitTo w m o u x ls gu A1 w1.drew:=⟨h.key.drew,h.us,h.ms⟩
structure WitMs (w : World) (m o u x : ByteArray) (ls : List ByteArray) (A1 : Option Addr) (w1 : World) : Prop where
 key : KeyAt w w.heap.size m o u w1
 ms : SLs w1 w1.heap.size A1 (x::ls)
theorem WitMs.drew {w w1 : World} {m o u x : ByteArray} {ls : List ByteArray} {A1 : Option Addr} (h : WitMs w m o u x ls A1 w1) : WitMs w m o u x ls A1 w1.drew:=⟨h.key.drew,h.ms⟩
theorem WitMs.row {w w1 : World} {m o u x : ByteArray} {ls : List ByteArray} {A1 : Option Addr} (h : WitMs w m o u x ls A1 w1) : WitTo w m o u x ls w1.heap.size A1 (w1.alloc (.cells #[.string u] 22)) :=
 ⟨h.key.alloc _,SLs.new w1 22 [u] _ (by simp),(h.ms.below ((Below.refl _ _).alloc (Nat.le_refl _) _)).more (by simp)⟩
end Go.Proofs.YtgkggkpighpdiaaGreatDoor
namespace Go.Proofs.YtgkggkpighpdiaaGreatDoor
open Go.RowKit
set_option maxRecDepth 100000
set_option linter.unusedVariables false
set_option maxHeartbeats 1000000
theorem extended_lit (w : World) :
  Calls Tryz.prog 105 #[.string (B 7),.string (B 15)] w fun e w'=>e=.returned (.tuple #[.string (B 1),.agg #[.bool false,.string (B 13)],.agg #[.bool true,.string (B 6)],.int .i64 0])∧Below w.heap.size w w':=integer_Extended_7_15 w
theorem modular_Inverse_7_15 (w : World) :
  Calls Tryz.prog 55 #[.string (B 7),.string (B 15)] w fun e w'=>e=.returned (.tuple #[.string (B 13),.int .i64 0])∧Below w.heap.size w w':=by
 have hck:=modular_check11 (B 7) (B 15) 22 22 w
 rw [checkErr11 (small_lim (by decide)) (small_lim (by decide)) (by decide)] at hck
 have HCK:=Lib.hid hck
 have HR1:=Lib.hid (show ∀ w,Calls Tryz.prog 106 #[.string (B 7),.string (B 15)] w fun e w'=>e=.returned (.string (B 7))∧Below w.heap.size w w' from fun w=>modular_reduced 7 15 w (by decide) (by decide) (by decide))
 have HR2:=Lib.hid (show ∀ w,Calls Tryz.prog 106 #[.string (B 13),.string (B 15)] w fun e w'=>e=.returned (.string (B 13))∧Below w.heap.size w w' from fun w=>modular_reduced 13 15 w (by decide) (by decide) (by decide))
 have k1 : ((B 1).toList==[1])=true:=by rw [B_beq1];rfl
 clear hck
 go_enter Tryz.func55, Tryz.ntmps55
 go_wp2_with (first | (go_at_call 104;refine HCK.out.mono ?_;rintro e w1 ⟨rfl,hb1⟩) | (go_at_call 106;(with_reducible refine (HR1.out _).mono ?_);rintro e w2 ⟨rfl,hb2⟩) | (go_at_call 105;(with_reducible refine (extended_lit _).mono ?_);rintro e w3 ⟨rfl,hb3⟩;have hs3:=hb3.size) | (go_at_call 106;(with_reducible refine (HR2.out _).mono ?_);rintro e w4 ⟨rfl,hb4⟩))
 go_ret2
 have hb13:=below2 (below2 hb1 hb2) hb3
 exact ⟨rfl,below2 ((hb13.alloc hb13.size _).alloc (by have:=hb13.size;simp;omega) _) hb4⟩
theorem modular_Power (a m e : Nat) (w : World) (ha : a < 18446744073709551616) (hm : m < 18446744073709551616) (h0 : 0 < m) (he : e < lim) :
  Calls Tryz.prog 116 #[.string (B a),.agg #[.bool false,.string (B e)],.string (B m)] w fun r w'=>r=.returned (.tuple #[.string (B (a ^ e % m)),.int .i64 0])∧Below w.heap.size w w':=by
 have hve:=valid_B he
 have hck : Calls Tryz.prog 104 #[.slice (some ⟨w.heap.size+1,0,none⟩) 1 1,.slice (some ⟨w.heap.size+1+1,0,none⟩) 1 1] (((w.alloc (.cells #[.bool false,.string (B e)] 65)).alloc (.cells #[.string (B a)] 22)).alloc (.cells #[.string (B m)] 22)) fun e' w'=>e'=.returned (.int .i64 0)∧Below (w.heap.size+1) (w.alloc (.cells #[.bool false,.string (B e)] 65)) w':=by
  have:=modular_check11 (B a) (B m) 22 22 (w.alloc (.cells #[.bool false,.string (B e)] 65))
  rw [checkErr11 (u64_lt_lim ha) (u64_lt_lim hm) (by omega)] at this
  simp only [World.size_alloc] at this
  exact this
 have HCK:=Lib.hid hck
 have hex:=fun w=>modular_Exp a m (B e) w ha hm h0 hve
 rw [num_B] at hex
 have HE:=Lib.hid hex
 clear hck hex ha hm h0 he
 generalize a ^ e % m=R at *
 go_enter Tryz.func116, Tryz.ntmps116
 go_wp2_with (first | (go_at_call 46;refine (natural_Valid _ _).mono ?_;rintro e w' ⟨rfl,rfl⟩) | (go_at_call 104;refine HCK.out.mono ?_;rintro e w1 ⟨rfl,hb1⟩;have hc1:=fun o=>hb1.cell (p:=⟨w.heap.size,o,none⟩) (by simp);have hs1:=hb1.size;simp only [World.size_alloc] at hs1) | (go_at_call 161;(with_reducible refine (HE.out _).mono ?_);rintro e w2 ⟨rfl,hb2⟩))
 go_ret2
 exact ⟨rfl,below2 (((Below.refl _ _).alloc (Nat.le_refl _) _).trans (hb1.mono (by omega))) hb2⟩
end Go.Proofs.YtgkggkpighpdiaaGreatDoor
namespace Go.Proofs.YtgkggkpighpdiaaGreatDoor
open Go.RowKit
set_option maxRecDepth 100000
set_option linter.unusedVariables false
set_option maxHeartbeats 4000000
theorem e77_16 : elementS (B 77) (B 0) (B 7) (B 11) (B 16)=0:=by decide +kernel
theorem o77' : orderS (B 7) (B 11)=(B 15,0):=by decide +kernel
theorem q77_16 : squareS 16 7 11=true:=by decide +kernel
theorem element_lit16 (w : World) (hT : Tab w) :
  Calls Tryz.prog 112 #[.agg #[.string (B 77),.string ⟨#[]⟩],.agg #[.string (B 7),.string (B 11)],.string (B 16)] w fun e w'=>e=.returned (.int .i64 0)∧Below w.heap.size w w':=by
 have:=rsagroup_element (B 77) (B 0) (B 7) (B 11) (B 16) w (B_size_le'.2 (by decide)) hT
 rw [e77_16] at this
 exact this
theorem order_lit' (w : World) (hT : Tab w) :
  Calls Tryz.prog 29 #[.agg #[.string (B 7),.string (B 11)]] w fun e w'=>e=.returned (.tuple #[.string (B 15),.int .i64 0])∧Below w.heap.size w w':=by
 have:=rsagroup_Order (B 7) (B 11) w hT
 rw [o77'] at this
 exact this
theorem square_lit16 (w : World) :
  Calls Tryz.prog 113 #[.agg #[.string (B 7),.string (B 11)],.string (B 16)] w fun e w'=>e=.returned (.bool true)∧Below w.heap.size w w':=by
 have:=rsagroup_square 16 7 11 w (by decide) (by decide) (by decide) (by decide) (by decide)
 rw [q77_16] at this
 exact this
theorem gcd_lit7' (w : World) : Calls Tryz.prog 114 #[.string (B 7),.string (B 15)] w fun e w'=>e=.returned (.tuple #[.string (B 1),.int .i64 0])∧Below w.heap.size w w' :=
 natural_Gcd 7 15 w (by decide) (by decide)
theorem power_lit16 (w : World) : Calls Tryz.prog 116 #[.string (B 16),.agg #[.bool false,.string (B 13)],.string (B 77)] w fun e w'=>e=.returned (.tuple #[.string (B 37),.int .i64 0])∧Below w.heap.size w w' :=
 modular_Power 16 77 13 w (by decide) (by decide) (by decide) (small_lim (by decide))
theorem from_lit' (w : World) : Calls Tryz.prog 117 #[.string (B 13)] w fun e w'=>e=.returned (.agg #[.bool false,.string (B 13)])∧Below w.heap.size w w' :=
 integer_From 13 w (Lib.hid (small_lim (by decide)))
theorem rsagroup_Root_16 (w : World) (hT : Tab w) :
  Calls Tryz.prog 63 #[.agg #[.string (B 77),.string ⟨#[]⟩],.agg #[.string (B 7),.string (B 11)],.string (B 16),.string (B 7)] w fun e w'=>e=.returned (.tuple #[.string (B 37),.int .i64 0])∧Below w.heap.size w w':=by
 have v4:=valid_B (show 16 < lim from small_lim (by decide))
 have v7:=valid_B (show 7 < lim from small_lim (by decide))
 have HT:=Lib.hid ((hT.alloc (.cells #[.string (B 77),.string ⟨#[]⟩] 26)).alloc (.cells #[.string (B 7),.string (B 11)] 35))
 have F0:=Lib.hid (show Below w.heap.size w ((w.alloc (.cells #[.string (B 77),.string ⟨#[]⟩] 26)).alloc (.cells #[.string (B 7),.string (B 11)] 35)) from ((Below.refl _ _).alloc (Nat.le_refl _) _).alloc (by simp) _)
 have k1 : ((B 1).toList==(B 1).toList)=true:=by simp
 clear hT
 go_enter Tryz.func63, Tryz.ntmps63
 go_wp2_with (first | (go_at_call 46;refine (natural_Valid _ _).mono ?_;rintro e w' ⟨rfl,rfl⟩) | (go_at_call 112;refine (element_lit16 _ HT.out).mono ?_;rintro e w1 ⟨rfl,hb1⟩;have hcw1:=(bcell hb1).1;have hT1:=Lib.hid (HT.out.below hb1);have hs1:=hb1.size;have hq1 : w.heap.size+1 < w1.heap.size:=by { simp at hs1;omega }) | (go_at_call 113;refine (square_lit16 _).mono ?_;rintro e w2 ⟨rfl,hb2⟩;have hcw2:=(bcell hb2).1;have hT2:=Lib.hid (hT1.out.below hb2);have hs2:=hb2.size;have hq2 : w.heap.size+1 < w2.heap.size:=by { omega }) | (go_at_call 29;refine (order_lit' _ hT2.out).mono ?_;rintro e w3 ⟨rfl,hb3⟩;have hcw3:=(bcell hb3).1;have hs3:=hb3.size) | (go_at_call 114;(with_reducible refine (gcd_lit7' _).mono ?_);rintro e w4 ⟨rfl,hb4⟩;have hcw4:=(bcell hb4).1;have hs4:=hb4.size) | (go_at_call 115;refine (rsagroup_one _).mono ?_;rintro e w5 ⟨rfl,hb5⟩;have hcw5:=(bcell hb5).1;have hs5:=hb5.size) | (go_at_call 55;(with_reducible refine (modular_Inverse_7_15 _).mono ?_);rintro e w6 ⟨rfl,hb6⟩;have hcw6:=(bcell hb6).1;have hs6:=hb6.size))
 have hq6 : w.heap.size < w6.heap.size:=by simp at hs1;omega
 have g6 : w6.cell? ⟨w.heap.size,0,none⟩=some (.string (B 77)):=by
  have hb16:=below2 (below2 (below2 (below2 (below2 hb1 hb2) hb3) hb4) hb5) hb6
  rw [hb16.cell (p:=⟨w.heap.size,0,none⟩) (by simp;omega)]
  simp [go_sem]
 have HBB:=Lib.hid (below2 (below2 (below2 (below2 (below2 (below2 F0.out hb1) hb2) hb3) hb4) hb5) hb6)
 clear hcw1 hcw2 hcw3 hcw4 hcw5 hcw6 hs2 hs3 hs4 hs5 hs6 hs1 hq1 hq2 HT hT1 hT2 F0 hb1 hb2 hb3 hb4 hb5 hb6 v4 v7 k1
 go_region_with (first | (go_at_call 117;(with_reducible refine (from_lit' _).mono ?_);rintro e w7 ⟨rfl,hb7⟩;have hb67 : Below w6.heap.size w6 w7:=by { first | exact hb7 | exact ((Below.refl _ w6).drew).trans hb7 };have hcw7:=(bcell hb67).1) | (go_at_call 116;(with_reducible refine (power_lit16 _).mono ?_);rintro e w8 ⟨rfl,hb8⟩;have hb68 : Below w6.heap.size w6 w8:=by { first | exact below2 hb67 hb8 | exact below2 hb67 (((Below.refl _ _).drew).trans hb8) }))
 all_goals
  go_wp2_with fail
  go_ret2
  exact ⟨rfl,below2 HBB.out hb68⟩
end Go.Proofs.YtgkggkpighpdiaaGreatDoor
namespace Go.Proofs.YtgkggkpighpdiaaGreatDoor
open Go.RowKit
set_option maxRecDepth 100000
set_option linter.unusedVariables false
set_option maxHeartbeats 4000000
theorem two_boxes (w : World) (o1 o2 : Obj) : ((w.alloc o1).alloc o2).heap[w.heap.size]?=some o1∧((w.alloc o1).alloc o2).heap[w.heap.size+1]?=some o2 :=
 ⟨(Below.heap_alloc _ o2 _ (by simp)).trans (heap_alloc_new w _),by have:=heap_alloc_new (w.alloc o1) o2;rwa [World.size_alloc] at this⟩
end Go.Proofs.YtgkggkpighpdiaaGreatDoor
namespace Go.Proofs.YtgkggkpighpdiaaGreatDoor
open Go.RowKit
set_option maxRecDepth 100000
set_option linter.unusedVariables false
set_option maxHeartbeats 4000000
structure AkAt (w : World) (g : Nat) (wx : World) : Prop where
 blk : wx.heap[g]?=some (.cells #[.string ⟨#[]⟩,.string (B 77),.string ⟨#[]⟩,.string ⟨#[]⟩,.string ⟨#[]⟩,.slice none 0 0,.string (B 4),.string ⟨#[]⟩] 33 (0,0))
 blk2 : wx.heap[g+1]?=some (.cells #[.string (B 7),.string (B 11)] 35 (0,0))
 tab : Tab wx
 below : Below w.heap.size w wx
 size : g+1 < wx.heap.size
theorem AkAt.next {w wx w' : World} {g : Nat} (h : AkAt w g wx) (hb : Below wx.heap.size wx w') : AkAt w g w':=by
 have hz:=h.size
 exact ⟨(hb.block g (by omega)).trans h.blk,(hb.block (g+1) hz).trans h.blk2,h.tab.below hb,below2 h.below hb,Nat.lt_of_lt_of_le hz hb.size⟩
theorem AkAt.drew {w wx : World} {g : Nat} (h : AkAt w g wx) : AkAt w g wx.drew:=h.next ((Below.refl _ _).drew)
theorem AkAt.alloc {w wx : World} {g : Nat} (h : AkAt w g wx) (o : Obj) : AkAt w g (wx.alloc o):=h.next ((Below.refl _ _).alloc (Nat.le_refl _) _)
theorem AkAt.all {w wx : World} {g : Nat} (h : AkAt w g wx) : wx.cell? ⟨g,0,none⟩=some (.string ⟨#[]⟩)∧wx.cell? ⟨g,1,none⟩=some (.string (B 77))∧wx.cell? ⟨g,2,none⟩=some (.string ⟨#[]⟩)∧wx.cell? ⟨g,3,none⟩=some (.string ⟨#[]⟩)∧wx.cell? ⟨g,4,none⟩=some (.string ⟨#[]⟩)∧wx.cell? ⟨g,5,none⟩=some (.slice none 0 0)∧wx.cell? ⟨g,6,none⟩=some (.string (B 4))∧wx.cell? ⟨g,7,none⟩=some (.string ⟨#[]⟩)∧wx.cell? ⟨g+1,0,none⟩=some (.string (B 7))∧wx.cell? ⟨g+1,1,none⟩=some (.string (B 11)) :=
 ⟨cell_of_row wx g 0 _ _ _ h.blk,cell_of_row wx g 1 _ _ _ h.blk,cell_of_row wx g 2 _ _ _ h.blk,cell_of_row wx g 3 _ _ _ h.blk,cell_of_row wx g 4 _ _ _ h.blk,cell_of_row wx g 5 _ _ _ h.blk,cell_of_row wx g 6 _ _ _ h.blk,cell_of_row wx g 7 _ _ _ h.blk,cell_of_row wx (g+1) 0 _ _ _ h.blk2,cell_of_row wx (g+1) 1 _ _ _ h.blk2⟩
theorem AkAt.made {w w1 : World} (hT : Tab w1) (hb : Below w.heap.size w w1) : AkAt w w1.heap.size ((w1.alloc (.cells #[.string ⟨#[]⟩,.string (B 77),.string ⟨#[]⟩,.string ⟨#[]⟩,.string ⟨#[]⟩,.slice none 0 0,.string (B 4),.string ⟨#[]⟩] 33)).alloc (.cells #[.string (B 7),.string (B 11)] 35)) :=
 ⟨(two_boxes w1 _ _).1,(two_boxes w1 _ _).2,(hT.alloc _).alloc _,(hb.alloc hb.size _).alloc (by have:=hb.size;simp;omega) _,by simp⟩
end Go.Proofs.YtgkggkpighpdiaaGreatDoor
namespace Go.Proofs.YtgkggkpighpdiaaGreatDoor
open Go.RowKit
set_option maxRecDepth 100000
set_option linter.unusedVariables false
set_option maxHeartbeats 1000000
structure KbAt (w : World) (kn z s r h : Value) (m o u : ByteArray) (wx : World) : Prop where
 blk : wx.heap[w.heap.size]?=some (.cells #[kn,.string m,.string o,z,s,r,.string u,h] 33 (0,0))
 tab : Tab wx
 below : Below w.heap.size w wx
 size : w.heap.size < wx.heap.size
section
variable {w wx w' : World} {kn z s r h : Value} {m o u : ByteArray}
theorem KbAt.next (k : KbAt w kn z s r h m o u wx) (hb : Below wx.heap.size wx w') : KbAt w kn z s r h m o u w' :=
 ⟨(hb.block _ k.size).trans k.blk,k.tab.below hb,below2 k.below hb,Nat.lt_of_lt_of_le k.size hb.size⟩
theorem KbAt.alloc (k : KbAt w kn z s r h m o u wx) (ob : Obj) : KbAt w kn z s r h m o u (wx.alloc ob):=k.next ((Below.refl _ _).alloc (Nat.le_refl _) _)
theorem KbAt.drew (k : KbAt w kn z s r h m o u wx) : KbAt w kn z s r h m o u wx.drew:=k.next ((Below.refl _ _).drew)
theorem KbAt.box (hT : Tab w) : KbAt w kn z s r h m o u (w.alloc (.cells #[kn,.string m,.string o,z,s,r,.string u,h] 33)) :=
 ⟨heap_alloc_new w _,hT.alloc _,(Below.refl _ _).alloc (Nat.le_refl _) _,by simp⟩
theorem KbAt.all (k : KbAt w kn z s r h m o u wx) : wx.cell? ⟨w.heap.size,0,none⟩=some kn∧wx.cell? ⟨w.heap.size,1,none⟩=some (.string m)∧wx.cell? ⟨w.heap.size,2,none⟩=some (.string o)∧wx.cell? ⟨w.heap.size,3,none⟩=some z∧wx.cell? ⟨w.heap.size,4,none⟩=some s∧wx.cell? ⟨w.heap.size,5,none⟩=some r∧wx.cell? ⟨w.heap.size,6,none⟩=some (.string u)∧wx.cell? ⟨w.heap.size,7,none⟩=some h :=
 ⟨cell_of_row wx _ 0 _ _ _ k.blk,cell_of_row wx _ 1 _ _ _ k.blk,cell_of_row wx _ 2 _ _ _ k.blk,cell_of_row wx _ 3 _ _ _ k.blk,cell_of_row wx _ 4 _ _ _ k.blk,cell_of_row wx _ 5 _ _ _ k.blk,cell_of_row wx _ 6 _ _ _ k.blk,cell_of_row wx _ 7 _ _ _ k.blk⟩
end
end Go.Proofs.YtgkggkpighpdiaaGreatDoor
