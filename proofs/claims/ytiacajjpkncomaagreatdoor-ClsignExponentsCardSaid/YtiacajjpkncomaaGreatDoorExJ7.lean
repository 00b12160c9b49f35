/- Package modular: Inverse at 7 and 15, Power; rsagroup.Root at two inputs. The examples of the chapter on accumulators. The examples of the chapter on accumulators: the key, awake. The examples of the chapter on accumulators: Remove, awake. The law AccumulatorOrders: it returns true. -/
import Derived.Test.YtiacajjpkncomaaGreatDoorExBE
import Derived.Test.YtiacajjpkncomaaGreatDoorExII
import Derived.Test.YtiacajjpkncomaaGreatDoorExBM
import Derived.Test.YtiacajjpkncomaaGreatDoorExBR
import Derived.Test.YtiacajjpkncomaaGreatDoorExJ4
import Derived.Test.YtiacajjpkncomaaGreatDoorExBP
import Derived.Test.YtiacajjpkncomaaGreatDoorExRA
import Derived.Deep.DeepCutAuto
import Derived.Deep.CutBlock
import Derived.Below
import Derived.Laws.OwnMore
import Derived.Deep.AppendLies
import Derived.Deep.Draws
import Derived.Maps.AppendAt
import Derived.RegionTactic
import Derived.OwnWalk
import Derived.Maps.Own
import Derived.Maps.OwnOps
import Derived.Maps.OwnSet
import Derived.Maps.Views
import Derived.StringKeys
namespace Go.Proofs.YtiacajjpkncomaaGreatDoor
open Go.RowKit
set_option maxRecDepth 100000
set_option linter.unusedVariables false
set_option maxHeartbeats 1000000
theorem extended_lit (w:World) :
  Calls Tryz.prog 139 #[.string (B 7),.string (B 15)] w fun e w'=>e=.returned (.tuple #[.string (B 1),.agg #[.bool false,.string (B 13)],.agg #[.bool true,.string (B 6)],.int .i64 0])∧Below w.heap.size w w':=integer_Extended_7_15 w
theorem modular_Inverse_7_15 (w:World) :
  Calls Tryz.prog 88 #[.string (B 7),.string (B 15)] w fun e w'=>e=.returned (.tuple #[.string (B 13),.int .i64 0])∧Below w.heap.size w w':=by
 have hck:=modular_check11 (B 7) (B 15) 22 22 w;rw [checkErr11 (small_lim (by decide)) (small_lim (by decide)) (by decide)] at hck;have HCK:=Lib.hid hck;have HR1:=Lib.hid (show ∀ w,Calls Tryz.prog 140 #[.string (B 7),.string (B 15)] w fun e w'=>e=.returned (.string (B 7))∧Below w.heap.size w w' from fun w=>modular_reduced 7 15 w (by decide) (by decide) (by decide));have HR2:=Lib.hid (show ∀ w,Calls Tryz.prog 140 #[.string (B 13),.string (B 15)] w fun e w'=>e=.returned (.string (B 13))∧Below w.heap.size w w' from fun w=>modular_reduced 13 15 w (by decide) (by decide) (by decide));have k1:((B 1).toList==[1])=true:=by rw [B_beq1];rfl
 clear hck
 go_enter Tryz.func88, Tryz.ntmps88
 go_wp2_with (first|(go_at_call 138;refine HCK.out.mono ?_;rintro e w1 ⟨rfl,hb1⟩)|(go_at_call 140;(with_reducible refine (HR1.out _).mono ?_);rintro e w2 ⟨rfl,hb2⟩)|(go_at_call 139;(with_reducible refine (extended_lit _).mono ?_);rintro e w3 ⟨rfl,hb3⟩;have hs3:=hb3.size)|(go_at_call 140;(with_reducible refine (HR2.out _).mono ?_);rintro e w4 ⟨rfl,hb4⟩));go_ret2;have hb13:=below2 (below2 hb1 hb2) hb3;exact ⟨rfl,below2 ((hb13.alloc hb13.size _).alloc (by have:=hb13.size;simp;omega) _) hb4⟩
theorem modular_Power (a m e:Nat) (w:World) (ha:a<18446744073709551616) (hm:m<18446744073709551616) (h0:0<m) (he:e<lim) :
  Calls Tryz.prog 97 #[.string (B a),.agg #[.bool false,.string (B e)],.string (B m)] w fun r w'=>r=.returned (.tuple #[.string (B (a^e%m)),.int .i64 0])∧Below w.heap.size w w':=by
 have hve:=valid_B he
 have hck:Calls Tryz.prog 138 #[.slice (some ⟨w.heap.size+1,0,none⟩) 1 1,.slice (some ⟨w.heap.size+1+1,0,none⟩) 1 1] (((w.alloc (.cells #[.bool false,.string (B e)] 88)).alloc (.cells #[.string (B a)] 22)).alloc (.cells #[.string (B m)] 22)) fun e' w'=>e'=.returned (.int .i64 0)∧Below (w.heap.size+1) (w.alloc (.cells #[.bool false,.string (B e)] 88)) w':=by
  have:=modular_check11 (B a) (B m) 22 22 (w.alloc (.cells #[.bool false,.string (B e)] 88));rw [checkErr11 (u64_lt_lim ha) (u64_lt_lim hm) (by omega)] at this;simp only [World.size_alloc] at this;exact this
 have HCK:=Lib.hid hck;have hex:=fun w=>modular_Exp a m (B e) w ha hm h0 hve
 rw [num_B] at hex;have HE:=Lib.hid hex;clear hck hex ha hm h0 he;generalize a^e%m=R at *
 go_enter Tryz.func97, Tryz.ntmps97
 go_wp2_with (first|(go_at_call 46;refine (natural_Valid _ _).mono ?_;rintro e w' ⟨rfl,rfl⟩)|(go_at_call 138;refine HCK.out.mono ?_;rintro e w1 ⟨rfl,hb1⟩;have hc1:=fun o=>hb1.cell (p:=⟨w.heap.size,o,none⟩) (by simp);have hs1:=hb1.size;simp only [World.size_alloc] at hs1)|(go_at_call 144;(with_reducible refine (HE.out _).mono ?_);rintro e w2 ⟨rfl,hb2⟩));go_ret2;exact ⟨rfl,below2 (((Below.refl _ _).alloc (Nat.le_refl _) _).trans (hb1.mono (by omega))) hb2⟩
end Go.Proofs.YtiacajjpkncomaaGreatDoor
namespace Go.Proofs.YtiacajjpkncomaaGreatDoor
open Go.RowKit
set_option maxRecDepth 100000
set_option linter.unusedVariables false
set_option maxHeartbeats 4000000
theorem e77_16:elementS (B 77) (B 0) (B 7) (B 11) (B 16)=0:=by decide +kernel
theorem o77':orderS (B 7) (B 11)=(B 15,0):=by decide +kernel
theorem q77_16:squareS 16 7 11=true:=by decide +kernel
theorem element_lit16 (w:World) (hT:Tab w) :
  Calls Tryz.prog 93 #[.agg #[.string (B 77),.string ⟨#[]⟩],.agg #[.string (B 7),.string (B 11)],.string (B 16)] w fun e w'=>e=.returned (.int .i64 0)∧Below w.heap.size w w':=by
 have:=rsagroup_element (B 77) (B 0) (B 7) (B 11) (B 16) w (B_size_le'.2 (by decide)) hT;rw [e77_16] at this;exact this
theorem order_lit' (w:World) (hT:Tab w) :
  Calls Tryz.prog 21 #[.agg #[.string (B 7),.string (B 11)]] w fun e w'=>e=.returned (.tuple #[.string (B 15),.int .i64 0])∧Below w.heap.size w w':=by
 have:=rsagroup_Order (B 7) (B 11) w hT;rw [o77'] at this;exact this
theorem square_lit16 (w:World) :
  Calls Tryz.prog 94 #[.agg #[.string (B 7),.string (B 11)],.string (B 16)] w fun e w'=>e=.returned (.bool true)∧Below w.heap.size w w':=by
 have:=rsagroup_square 16 7 11 w (by decide) (by decide) (by decide) (by decide) (by decide);rw [q77_16] at this;exact this
theorem gcd_lit7' (w:World):Calls Tryz.prog 95 #[.string (B 7),.string (B 15)] w fun e w'=>e=.returned (.tuple #[.string (B 1),.int .i64 0])∧Below w.heap.size w w' :=
 natural_Gcd 7 15 w (by decide) (by decide)
theorem power_lit16 (w:World):Calls Tryz.prog 97 #[.string (B 16),.agg #[.bool false,.string (B 13)],.string (B 77)] w fun e w'=>e=.returned (.tuple #[.string (B 37),.int .i64 0])∧Below w.heap.size w w' :=
 modular_Power 16 77 13 w (by decide) (by decide) (by decide) (small_lim (by decide))
theorem from_lit' (w:World):Calls Tryz.prog 98 #[.string (B 13)] w fun e w'=>e=.returned (.agg #[.bool false,.string (B 13)])∧Below w.heap.size w w' :=
 integer_From 13 w (Lib.hid (small_lim (by decide)))
theorem rsagroup_Root_16 (w:World) (hT:Tab w) :
  Calls Tryz.prog 40 #[.agg #[.string (B 77),.string ⟨#[]⟩],.agg #[.string (B 7),.string (B 11)],.string (B 16),.string (B 7)] w fun e w'=>e=.returned (.tuple #[.string (B 37),.int .i64 0])∧Below w.heap.size w w':=by
 have v4:=valid_B (show 16<lim from small_lim (by decide));have v7:=valid_B (show 7<lim from small_lim (by decide));have HT:=Lib.hid ((hT.alloc (.cells #[.string (B 77),.string ⟨#[]⟩] 26)).alloc (.cells #[.string (B 7),.string (B 11)] 35));have F0:=Lib.hid (show Below w.heap.size w ((w.alloc (.cells #[.string (B 77),.string ⟨#[]⟩] 26)).alloc (.cells #[.string (B 7),.string (B 11)] 35)) from ((Below.refl _ _).alloc (Nat.le_refl _) _).alloc (by simp) _);have k1:((B 1).toList==(B 1).toList)=true:=by simp
 clear hT
 go_enter Tryz.func40, Tryz.ntmps40
 go_wp2_with (first|(go_at_call 46;refine (natural_Valid _ _).mono ?_;rintro e w' ⟨rfl,rfl⟩)|(go_at_call 93;refine (element_lit16 _ HT.out).mono ?_;rintro e w1 ⟨rfl,hb1⟩;have hcw1:=(bcell hb1).1;have hT1:=Lib.hid (HT.out.below hb1);have hs1:=hb1.size;have hq1:w.heap.size+1<w1.heap.size:=by { simp at hs1;omega })|(go_at_call 94;refine (square_lit16 _).mono ?_;rintro e w2 ⟨rfl,hb2⟩;have hcw2:=(bcell hb2).1;have hT2:=Lib.hid (hT1.out.below hb2);have hs2:=hb2.size;have hq2:w.heap.size+1<w2.heap.size:=by { omega })|(go_at_call 21;refine (order_lit' _ hT2.out).mono ?_;rintro e w3 ⟨rfl,hb3⟩;have hcw3:=(bcell hb3).1;have hs3:=hb3.size)|(go_at_call 95;(with_reducible refine (gcd_lit7' _).mono ?_);rintro e w4 ⟨rfl,hb4⟩;have hcw4:=(bcell hb4).1;have hs4:=hb4.size)|(go_at_call 96;refine (rsagroup_one _).mono ?_;rintro e w5 ⟨rfl,hb5⟩;have hcw5:=(bcell hb5).1;have hs5:=hb5.size)|(go_at_call 88;(with_reducible refine (modular_Inverse_7_15 _).mono ?_);rintro e w6 ⟨rfl,hb6⟩;have hcw6:=(bcell hb6).1;have hs6:=hb6.size));have hq6:w.heap.size<w6.heap.size:=by simp at hs1;omega
 have g6:w6.cell? ⟨w.heap.size,0,none⟩=some (.string (B 77)):=by
  have hb16:=below2 (below2 (below2 (below2 (below2 hb1 hb2) hb3) hb4) hb5) hb6;rw [hb16.cell (p:=⟨w.heap.size,0,none⟩) (by simp;omega)];simp [go_sem]
 have HBB:=Lib.hid (below2 (below2 (below2 (below2 (below2 (below2 F0.out hb1) hb2) hb3) hb4) hb5) hb6);clear hcw1 hcw2 hcw3 hcw4 hcw5 hcw6 hs2 hs3 hs4 hs5 hs6 hs1 hq1 hq2 HT hT1 hT2 F0 hb1 hb2 hb3 hb4 hb5 hb6 v4 v7 k1;go_region_with (first|(go_at_call 98;(with_reducible refine (from_lit' _).mono ?_);rintro e w7 ⟨rfl,hb7⟩;have hb67:Below w6.heap.size w6 w7:=by { first|exact hb7|exact ((Below.refl _ w6).drew).trans hb7 };have hcw7:=(bcell hb67).1)|(go_at_call 97;(with_reducible refine (power_lit16 _).mono ?_);rintro e w8 ⟨rfl,hb8⟩;have hb68:Below w6.heap.size w6 w8:=by { first|exact below2 hb67 hb8|exact below2 hb67 (((Below.refl _ _).drew).trans hb8) }))
 all_goals
  go_wp2_with fail;go_ret2;exact ⟨rfl,below2 HBB.out hb68⟩
end Go.Proofs.YtiacajjpkncomaaGreatDoor
namespace Go.Proofs.YtiacajjpkncomaaGreatDoor
open Go.RowKit
set_option maxRecDepth 100000
set_option linter.unusedVariables false
set_option maxHeartbeats 4000000
end Go.Proofs.YtiacajjpkncomaaGreatDoor
namespace Go.Proofs.YtiacajjpkncomaaGreatDoor
open Go.RowKit
set_option maxRecDepth 100000
set_option linter.unusedVariables false
set_option maxHeartbeats 4000000
end Go.Proofs.YtiacajjpkncomaaGreatDoor
namespace Go.Proofs.YtiacajjpkncomaaGreatDoor
open Go.RowKit
set_option maxRecDepth 100000
set_option linter.unusedVariables false
set_option maxHeartbeats 1000000
section
variable {w wx w':World} {kn z s r h:Value} {m o u:ByteArray}
end
end Go.Proofs.YtiacajjpkncomaaGreatDoor
