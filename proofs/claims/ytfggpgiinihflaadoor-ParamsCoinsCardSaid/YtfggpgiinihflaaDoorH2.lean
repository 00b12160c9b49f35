/- The walks of package hash: words in memory, the schedule of a block. -/
import Derived.Test.YtfggpgiinihflaaDoorH1
import Derived.Test.YtfggpgiinihflaaDoorW3
import Derived.Laws.Rows
namespace Go.Proofs.YtfggpgiinihflaaDoor
open Go.RowKit
set_option maxRecDepth 100000
set_option linter.unusedVariables false
set_option maxHeartbeats 1000000

def u32Cells (L : List Nat) : Array Value := (L.map fun (n : Nat) => Value.int .u32 n).toArray
/-- Block g is just these 32-bit words, and may be written. -/
def C32 (w : World) (g : Nat) (T : TypeId) (L : List Nat) : Prop := w.heap[g]? = some (.cells (u32Cells L) T (0, 0))
theorem u32Cells_get (L : List Nat) (k : Nat) (h : k < L.length) : (u32Cells L)[k]? = some (.int .u32 (L.getD k 0 : Nat)) := by
  simp [u32Cells, List.getD, h]
theorem u32Cells_set (L : List Nat) (k n : Nat) : (u32Cells L).setIfInBounds k (.int .u32 n) = u32Cells (L.set k n) := by
  simp [u32Cells, List.map_set]
section
variable {w w' : World} {g : Nat} {T : TypeId} {L : List Nat}
theorem C32.cell (h : C32 w g T L) {k : Nat} (hk : k < L.length) : w.cell? ⟨g, k, none⟩ = some (.int .u32 (L.getD k 0 : Nat)) := by
  unfold C32 at h
  simp only [World.cell?, h]
  exact u32Cells_get L k hk
theorem C32.free (h : C32 w g T L) (k : Nat) : w.frozen? ⟨g, k, none⟩ = false := by
  unfold C32 at h
  simp [World.frozen?, h]
theorem C32.lt (h : C32 w g T L) : g < w.heap.size := by
  rcases Nat.lt_or_ge g w.heap.size with hlt | hge
  · exact hlt
  · unfold C32 at h; rw [Array.getElem?_eq_none hge] at h; cases h
theorem C32.set (h : C32 w g T L) (k n : Nat) : C32 (w.setCell ⟨g, k, none⟩ (.int .u32 n)) g T (L.set k n) := by
  unfold C32 at h ⊢
  rw [← u32Cells_set]
  simp [World.setCell, Array.getElem?_modify, h]
theorem C32.far (h : C32 w g T L) {p : Addr} (hp : g ≠ p.block) (u : Value) : C32 (w.setCell p u) g T L := (Below.heap_setCell w p u g hp).trans h
theorem C32.alloc (h : C32 w g T L) (o : Obj) : C32 (w.alloc o) g T L := (Below.heap_alloc w o g h.lt).trans h
theorem C32.below {B : Nat} (h : C32 w g T L) (hb : Below B w w') (hg : g < B) : C32 w' g T L := (hb.block g hg).trans h
theorem C32.new (w : World) (T : TypeId) (L : List Nat) : C32 (w.alloc (.cells (u32Cells L) T)) w.heap.size T L := heap_alloc_new w _
end

theorem rot_close (x n a b : Nat) (hx : x < 4294967296) (ha : 2 ^ (32 - n) = a) (hb : 2 ^ n = b) : bits .or .u32 ((x : Int) * (a : Int) % 4294967296) ((x : Int) / (b : Int)) = ((rotr x n : Nat) : Int) := by
  have e1 : ((x : Int) * (a : Int) % 4294967296) = ((x * a % 4294967296 : Nat) : Int) := by rw [Int.natCast_emod, Int.natCast_mul]; rfl
  have e2 : ((x : Int) / (b : Int)) = ((x / b : Nat) : Int) := by rw [Int.natCast_ediv]
  rw [e1, e2, u32_or_nat _ _ (Nat.mod_lt _ (by decide)) (Nat.lt_of_le_of_lt (Nat.div_le_self _ _) hx), Nat.or_comm]
  unfold rotr
  rw [ha, hb]
theorem rot_2 (x : Nat) (w : World) (hx : x < 4294967296) :
    Calls Tryd.prog 99 #[.int .u32 x, .int .i64 (-2)] w fun e w' => e = .returned (.int .u32 (rotr x 2 : Nat)) ∧ w = w' := by
  have hb : bits .and .u64 (IntKind.u64.wrap (-2)) 31 = 30 := by decide
  have HC := Lib.hid (rot_close x 2 1073741824 4 hx (by decide) (by decide))
  go_enter Tryd.func99, Tryd.ntmps99
  go_wp2
  go_ret
  exact ⟨ret_int HC.out, rfl⟩
theorem turn_2 (x : Nat) (w : World) (hx : x < 4294967296) :
    Calls Tryd.prog 94 #[.int .u32 x, .int .i64 2] w fun e w' => e = .returned (.int .u32 (rotr x 2 : Nat)) ∧ w = w' := by
  have H := Lib.hid (fun w => rot_2 x w hx)
  go_enter Tryd.func94, Tryd.ntmps94
  go_wp2_with (go_at_call 99; (with_reducible refine (H.out _).mono ?_); rintro e w' ⟨rfl, rfl⟩)
  go_ret
  exact ⟨rfl, rfl⟩
theorem rot_6 (x : Nat) (w : World) (hx : x < 4294967296) :
    Calls Tryd.prog 99 #[.int .u32 x, .int .i64 (-6)] w fun e w' => e = .returned (.int .u32 (rotr x 6 : Nat)) ∧ w = w' := by
  have hb : bits .and .u64 (IntKind.u64.wrap (-6)) 31 = 26 := by decide
  have HC := Lib.hid (rot_close x 6 67108864 64 hx (by decide) (by decide))
  go_enter Tryd.func99, Tryd.ntmps99
  go_wp2
  go_ret
  exact ⟨ret_int HC.out, rfl⟩
theorem turn_6 (x : Nat) (w : World) (hx : x < 4294967296) :
    Calls Tryd.prog 94 #[.int .u32 x, .int .i64 6] w fun e w' => e = .returned (.int .u32 (rotr x 6 : Nat)) ∧ w = w' := by
  have H := Lib.hid (fun w => rot_6 x w hx)
  go_enter Tryd.func94, Tryd.ntmps94
  go_wp2_with (go_at_call 99; (with_reducible refine (H.out _).mono ?_); rintro e w' ⟨rfl, rfl⟩)
  go_ret
  exact ⟨rfl, rfl⟩
theorem rot_7 (x : Nat) (w : World) (hx : x < 4294967296) :
    Calls Tryd.prog 99 #[.int .u32 x, .int .i64 (-7)] w fun e w' => e = .returned (.int .u32 (rotr x 7 : Nat)) ∧ w = w' := by
  have hb : bits .and .u64 (IntKind.u64.wrap (-7)) 31 = 25 := by decide
  have HC := Lib.hid (rot_close x 7 33554432 128 hx (by decide) (by decide))
  go_enter Tryd.func99, Tryd.ntmps99
  go_wp2
  go_ret
  exact ⟨ret_int HC.out, rfl⟩
theorem turn_7 (x : Nat) (w : World) (hx : x < 4294967296) :
    Calls Tryd.prog 94 #[.int .u32 x, .int .i64 7] w fun e w' => e = .returned (.int .u32 (rotr x 7 : Nat)) ∧ w = w' := by
  have H := Lib.hid (fun w => rot_7 x w hx)
  go_enter Tryd.func94, Tryd.ntmps94
  go_wp2_with (go_at_call 99; (with_reducible refine (H.out _).mono ?_); rintro e w' ⟨rfl, rfl⟩)
  go_ret
  exact ⟨rfl, rfl⟩
theorem rot_11 (x : Nat) (w : World) (hx : x < 4294967296) :
    Calls Tryd.prog 99 #[.int .u32 x, .int .i64 (-11)] w fun e w' => e = .returned (.int .u32 (rotr x 11 : Nat)) ∧ w = w' := by
  have hb : bits .and .u64 (IntKind.u64.wrap (-11)) 31 = 21 := by decide
  have HC := Lib.hid (rot_close x 11 2097152 2048 hx (by decide) (by decide))
  go_enter Tryd.func99, Tryd.ntmps99
  go_wp2
  go_ret
  exact ⟨ret_int HC.out, rfl⟩
theorem turn_11 (x : Nat) (w : World) (hx : x < 4294967296) :
    Calls Tryd.prog 94 #[.int .u32 x, .int .i64 11] w fun e w' => e = .returned (.int .u32 (rotr x 11 : Nat)) ∧ w = w' := by
  have H := Lib.hid (fun w => rot_11 x w hx)
  go_enter Tryd.func94, Tryd.ntmps94
  go_wp2_with (go_at_call 99; (with_reducible refine (H.out _).mono ?_); rintro e w' ⟨rfl, rfl⟩)
  go_ret
  exact ⟨rfl, rfl⟩
theorem rot_13 (x : Nat) (w : World) (hx : x < 4294967296) :
    Calls Tryd.prog 99 #[.int .u32 x, .int .i64 (-13)] w fun e w' => e = .returned (.int .u32 (rotr x 13 : Nat)) ∧ w = w' := by
  have hb : bits .and .u64 (IntKind.u64.wrap (-13)) 31 = 19 := by decide
  have HC := Lib.hid (rot_close x 13 524288 8192 hx (by decide) (by decide))
  go_enter Tryd.func99, Tryd.ntmps99
  go_wp2
  go_ret
  exact ⟨ret_int HC.out, rfl⟩
theorem turn_13 (x : Nat) (w : World) (hx : x < 4294967296) :
    Calls Tryd.prog 94 #[.int .u32 x, .int .i64 13] w fun e w' => e = .returned (.int .u32 (rotr x 13 : Nat)) ∧ w = w' := by
  have H := Lib.hid (fun w => rot_13 x w hx)
  go_enter Tryd.func94, Tryd.ntmps94
  go_wp2_with (go_at_call 99; (with_reducible refine (H.out _).mono ?_); rintro e w' ⟨rfl, rfl⟩)
  go_ret
  exact ⟨rfl, rfl⟩
theorem rot_17 (x : Nat) (w : World) (hx : x < 4294967296) :
    Calls Tryd.prog 99 #[.int .u32 x, .int .i64 (-17)] w fun e w' => e = .returned (.int .u32 (rotr x 17 : Nat)) ∧ w = w' := by
  have hb : bits .and .u64 (IntKind.u64.wrap (-17)) 31 = 15 := by decide
  have HC := Lib.hid (rot_close x 17 32768 131072 hx (by decide) (by decide))
  go_enter Tryd.func99, Tryd.ntmps99
  go_wp2
  go_ret
  exact ⟨ret_int HC.out, rfl⟩
theorem turn_17 (x : Nat) (w : World) (hx : x < 4294967296) :
    Calls Tryd.prog 94 #[.int .u32 x, .int .i64 17] w fun e w' => e = .returned (.int .u32 (rotr x 17 : Nat)) ∧ w = w' := by
  have H := Lib.hid (fun w => rot_17 x w hx)
  go_enter Tryd.func94, Tryd.ntmps94
  go_wp2_with (go_at_call 99; (with_reducible refine (H.out _).mono ?_); rintro e w' ⟨rfl, rfl⟩)
  go_ret
  exact ⟨rfl, rfl⟩
theorem rot_18 (x : Nat) (w : World) (hx : x < 4294967296) :
    Calls Tryd.prog 99 #[.int .u32 x, .int .i64 (-18)] w fun e w' => e = .returned (.int .u32 (rotr x 18 : Nat)) ∧ w = w' := by
  have hb : bits .and .u64 (IntKind.u64.wrap (-18)) 31 = 14 := by decide
  have HC := Lib.hid (rot_close x 18 16384 262144 hx (by decide) (by decide))
  go_enter Tryd.func99, Tryd.ntmps99
  go_wp2
  go_ret
  exact ⟨ret_int HC.out, rfl⟩
theorem turn_18 (x : Nat) (w : World) (hx : x < 4294967296) :
    Calls Tryd.prog 94 #[.int .u32 x, .int .i64 18] w fun e w' => e = .returned (.int .u32 (rotr x 18 : Nat)) ∧ w = w' := by
  have H := Lib.hid (fun w => rot_18 x w hx)
  go_enter Tryd.func94, Tryd.ntmps94
  go_wp2_with (go_at_call 99; (with_reducible refine (H.out _).mono ?_); rintro e w' ⟨rfl, rfl⟩)
  go_ret
  exact ⟨rfl, rfl⟩
theorem rot_19 (x : Nat) (w : World) (hx : x < 4294967296) :
    Calls Tryd.prog 99 #[.int .u32 x, .int .i64 (-19)] w fun e w' => e = .returned (.int .u32 (rotr x 19 : Nat)) ∧ w = w' := by
  have hb : bits .and .u64 (IntKind.u64.wrap (-19)) 31 = 13 := by decide
  have HC := Lib.hid (rot_close x 19 8192 524288 hx (by decide) (by decide))
  go_enter Tryd.func99, Tryd.ntmps99
  go_wp2
  go_ret
  exact ⟨ret_int HC.out, rfl⟩
theorem turn_19 (x : Nat) (w : World) (hx : x < 4294967296) :
    Calls Tryd.prog 94 #[.int .u32 x, .int .i64 19] w fun e w' => e = .returned (.int .u32 (rotr x 19 : Nat)) ∧ w = w' := by
  have H := Lib.hid (fun w => rot_19 x w hx)
  go_enter Tryd.func94, Tryd.ntmps94
  go_wp2_with (go_at_call 99; (with_reducible refine (H.out _).mono ?_); rintro e w' ⟨rfl, rfl⟩)
  go_ret
  exact ⟨rfl, rfl⟩
theorem rot_22 (x : Nat) (w : World) (hx : x < 4294967296) :
    Calls Tryd.prog 99 #[.int .u32 x, .int .i64 (-22)] w fun e w' => e = .returned (.int .u32 (rotr x 22 : Nat)) ∧ w = w' := by
  have hb : bits .and .u64 (IntKind.u64.wrap (-22)) 31 = 10 := by decide
  have HC := Lib.hid (rot_close x 22 1024 4194304 hx (by decide) (by decide))
  go_enter Tryd.func99, Tryd.ntmps99
  go_wp2
  go_ret
  exact ⟨ret_int HC.out, rfl⟩
theorem turn_22 (x : Nat) (w : World) (hx : x < 4294967296) :
    Calls Tryd.prog 94 #[.int .u32 x, .int .i64 22] w fun e w' => e = .returned (.int .u32 (rotr x 22 : Nat)) ∧ w = w' := by
  have H := Lib.hid (fun w => rot_22 x w hx)
  go_enter Tryd.func94, Tryd.ntmps94
  go_wp2_with (go_at_call 99; (with_reducible refine (H.out _).mono ?_); rintro e w' ⟨rfl, rfl⟩)
  go_ret
  exact ⟨rfl, rfl⟩
theorem rot_25 (x : Nat) (w : World) (hx : x < 4294967296) :
    Calls Tryd.prog 99 #[.int .u32 x, .int .i64 (-25)] w fun e w' => e = .returned (.int .u32 (rotr x 25 : Nat)) ∧ w = w' := by
  have hb : bits .and .u64 (IntKind.u64.wrap (-25)) 31 = 7 := by decide
  have HC := Lib.hid (rot_close x 25 128 33554432 hx (by decide) (by decide))
  go_enter Tryd.func99, Tryd.ntmps99
  go_wp2
  go_ret
  exact ⟨ret_int HC.out, rfl⟩
theorem turn_25 (x : Nat) (w : World) (hx : x < 4294967296) :
    Calls Tryd.prog 94 #[.int .u32 x, .int .i64 25] w fun e w' => e = .returned (.int .u32 (rotr x 25 : Nat)) ∧ w = w' := by
  have H := Lib.hid (fun w => rot_25 x w hx)
  go_enter Tryd.func94, Tryd.ntmps94
  go_wp2_with (go_at_call 99; (with_reducible refine (H.out _).mono ?_); rintro e w' ⟨rfl, rfl⟩)
  go_ret
  exact ⟨rfl, rfl⟩

end Go.Proofs.YtfggpgiinihflaaDoor
