/- Package modular: powers. A range over a function that yields the binary digits of a number. -/
import Derived.RangeFuncNested
import Derived.RangeFuncBound
import Derived.RangeFuncCalls
import Derived.RangeFuncLeaves
import Derived.Shelf.Abstract
import Derived.Shelf.RegionOpen
import Derived.WalkKit
import Derived.OwnWalkIn
import Derived.TacticsInMore
import Derived.LoopNIn
import Derived.LoopIn
import Derived.Test.YtlppcnjaacbhpaaGreatDoorM1
namespace Go.Proofs.YtlppcnjaacbhpaaGreatDoor
open Go.RowKit Go.Shelf
set_option maxRecDepth 100000
set_option linter.unusedVariables false
set_option maxHeartbeats 1000000
attribute [local go_sem] Oper.semAt_some

/-- The binary digits of a number, the most significant one first. -/
def bitsL (s : ByteArray) : List Bool := (List.range (natBits s)).map fun i => natBit s (natBits s - 1 - i)
theorem bitsL_length (s : ByteArray) : (bitsL s).length = natBits s := by simp [bitsL]
theorem bitsL_take_succ (s : ByteArray) (k : Nat) (h : k < natBits s) : (bitsL s).take (k + 1) = (bitsL s).take k ++ [natBit s (natBits s - 1 - k)] := by
  rw [List.take_succ_eq_append_getElem (by rw [bitsL_length]; exact h)]
  simp [bitsL]
theorem natBits_le {s : ByteArray} (hv : valid s = true) : natBits s ≤ 1024 := by
  unfold natBits bitsN
  rw [if_pos hv]
  split
  · omega
  · rename_i h0
    have h1 := valid_num_lt hv
    have h2 := (Nat.log2_lt (k := 8 * 128) h0).2 (Nat.lt_of_lt_of_eq h1 (lim_eq.trans (pow_256 128).symm))
    clear h1
    omega
theorem lt_pow_bitsN' (n : Nat) : n < 2 ^ bitsN n := by
  unfold bitsN
  split
  · omega
  · exact Nat.lt_log2_self
theorem keeps_below {W W' : World} (h : Below W.heap.size W W') : KeepsOthers W W' :=
  ⟨h.size, fun k o hk _ => (h.block k (Array.getElem?_eq_some_iff.1 hk).1).trans hk⟩

/-- A box reads as before. -/
def Kb (Bn : Nat) (W W' : World) : Prop := W'.cell? ⟨Bn, 0, none⟩ = W.cell? ⟨Bn, 0, none⟩
theorem Kb.t {Bn : Nat} {A C D : World} (h : Kb Bn A C) (k : Kb Bn C D) : Kb Bn A D := Eq.trans k h
theorem Kb.b {Bn n : Nat} (hB : Bn < n) (W : World) (l : Nat) (o o' : Obj) (hl : n ≤ l) (_ : W.heap[l]? = some o) (_ : o.isCells = false) (_ : o.isWalk = false) : Kb Bn W (W.putObj l o') :=
  World.cell?_of_block (World.putObj_heap_other (by show Bn ≠ l; omega))
theorem modular_digits (s : ByteArray) (w : World) :
    Calls Tryz.prog 136 #[.string s] w fun e w' => e = .returned (.func (.func 152) #[] #[.pointer (some ⟨w.heap.size, 0, none⟩)]) ∧ w' = w.alloc (.cells #[.string s] 22) := by
  go_enter Tryz.func136, Tryz.ntmps136
  go_wp2
  go_ret
  exact ⟨rfl, rfl⟩
theorem digits1_in (n : Nat) (hn : 1 ≤ n) (l Bn : Nat) (s : ByteArray) (hv : valid s = true) (J Jx : List Bool → World → Prop)
    (hY : ∀ pre x W, J pre W → pre.length < natBits s → YieldAt Fence.wide (n - 1) Tryz.prog l #[.bool x] W fun e W' =>
      (e = .returned (.bool true) ∧ J (pre ++ [x]) W' ∧ Kb Bn W W') ∨ (e = .returned (.bool false) ∧ Jx (pre ++ [x]) W'))
    (W : World) (hBn : W.cell? ⟨Bn, 0, none⟩ = some (.string s)) (h0 : J [] W) :
    CallsIn Fence.wide n Tryz.prog 152 #[.func (.yield l) #[] #[], .pointer (some ⟨Bn, 0, none⟩)] W fun e W' => (∃ v, e = .returned v) ∧
      ((∃ ys, ys = bitsL s ∧ J ys W') ∨ (∃ pre, pre <+: bitsL s ∧ Jx pre W')) := by
  have hN := natBits_le hv
  obtain ⟨N, hNN⟩ : ∃ N, natBits s = N := ⟨_, rfl⟩
  have HBITS := Lib.hid (fun w => natural_Bits s w)
  rw [hNN] at HBITS hY hN
  have HNN := Lib.hid hNN
  have hsz := valid_size hv
  have HY := Lib.hid hY
  clear hNN hY
  refine callsIn_of_wp Tryz.func152 rfl trivial ?_ rfl
  simp only [Tryz.ntmps152, List.size_toArray, List.length_cons, List.length_nil, Nat.reduceAdd, Nat.reduceSub, Array.replicate_succ, Array.replicate_zero, List.push_toArray, List.append_toArray, List.nil_append, List.cons_append]
  gi_wp2_with (refine ⟨trivial, ?_⟩; gi_at_call 112; refine (callsIn_wide.2 (HBITS.out _)).mono ?_; rintro e w' ⟨rfl, rfl⟩)
  gi_loopw [3] (fun p wr => ∃ k : Nat, k ≤ N ∧ p = .int .i64 ((N : Int) - 1 - k) ∧ wr.cell? ⟨Bn, 0, none⟩ = some (.string s) ∧ J ((bitsL s).take k) wr) (fun p _ => (intOf p + 1).toNat)
  case atStart => exact ⟨0, by omega, by simp, hBn, h0⟩
  case round =>
    obtain ⟨k, hk, rfl, hc, hJ⟩ := hrel
    by_cases hlt : k < N
    · obtain ⟨i, hi⟩ : ∃ i : Nat, N - 1 - k = i := ⟨_, rfl⟩
      have ei : ((N : Int) - 1 - (k : Int)) = (i : Int) := by omega
      have hb := fun w => natural_Bit s (i : Int) i w rfl (by omega) (by omega)
      obtain ⟨b, hbb⟩ : ∃ b, natBit s i = b := ⟨_, rfl⟩
      rw [hbb] at hb
      have hts := bitsL_take_succ s k (by rw [HNN.out]; exact hlt)
      rw [HNN.out, hi, hbb] at hts
      have HB := Lib.hid hb
      have HTS := Lib.hid hts
      have HI := Lib.hid hi
      have hib : i ≤ 1024 := by omega
      obtain ⟨fn, tmps, assign, body, hy, hR⟩ := HY.out _ b wr hJ (by simp; omega)
      rw [ei]
      clear hb hts hi ei hbb
      gi_wp2_with (refine ⟨trivial, ?_⟩; gi_at_call 68; refine (callsIn_wide.2 (HB.out _)).mono ?_; rintro e w' ⟨rfl, rfl⟩)
      refine hR.mono ?_
      rintro e W3 (⟨rfl, hJ3, hk3⟩ | ⟨rfl, hJx3⟩)
      · have hc3 : W3.cell? ⟨Bn, 0, none⟩ = some (.string s) := Eq.trans hk3 hc
        gi_wp2
        go_roundw
        case rel => exact ⟨k + 1, by omega, by have := HI.out; congr 1; omega, hc3, by rw [HTS.out]; exact hJ3⟩
        case measure => simp [intOf]
      · gi_wp2
        refine bodyPost_ret (results_none rfl _ _ _) rfl ?_
        exact ⟨⟨_, rfl⟩, .inr ⟨_, by rw [← HTS.out]; exact List.take_prefix _ _, hJx3⟩⟩
    · obtain rfl : k = N := by omega
      have ei : ((k : Int) - 1 - (k : Int)) = -1 := by omega
      rw [ei]
      gi_wp2
      go_end0
      exact ⟨⟨_, rfl⟩, .inl ⟨_, by rw [List.take_of_length_le (by rw [bitsL_length, HNN.out]; omega)], hJ⟩⟩
theorem digits_stops (n : Nat) (hn : 1 ≤ n) (Bn : Nat) (s : ByteArray) (hv : valid s = true) (w : World) (hB : Bn < w.heap.size) (hc : w.cell? ⟨Bn, 0, none⟩ = some (.string s)) :
    SeqStopsK Fence.wide n Tryz.prog 152 #[.pointer (some ⟨Bn, 0, none⟩)] (fun b : Bool => #[Value.bool b]) (Kb Bn) (fun ys => ys = bitsL s) (fun pre => pre <+: bitsL s) (natBits s) w := fun l J Jx W hW _ _ hY h0 =>
  digits1_in n hn l Bn s hv J Jx hY W ((hW.cell (p := ⟨Bn, 0, none⟩) hB).trans hc) h0

/-- A power by the digits of the exponent. -/
def powL (a m : Nat) (l : List Bool) : Nat := l.foldl (fun o b => if b then (o * o % m) * a % m else o * o % m) (1 % m)
theorem powL_snoc (a m : Nat) (l : List Bool) (b : Bool) : powL a m (l ++ [b]) = if b then (powL a m l * powL a m l % m) * a % m else powL a m l * powL a m l % m := by
  simp [powL]
theorem sq_mod (x m : Nat) : (x % m) * (x % m) % m = x * x % m := (Nat.mul_mod x x m).symm
theorem powL_take (a m : Nat) (s : ByteArray) (hv : valid s = true) (k : Nat) (hk : k ≤ natBits s) : powL (a % m) m ((bitsL s).take k) = a ^ (num s / 2 ^ (natBits s - k)) % m := by
  induction k with
  | zero =>
    have h1 : num s < 2 ^ natBits s := by
      unfold natBits; rw [if_pos hv]; exact lt_pow_bitsN' (num s)
    rw [Nat.sub_zero, Nat.div_eq_of_lt h1]
    simp [powL]
  | succ k ih =>
    rw [bitsL_take_succ s k (by omega), powL_snoc, ih (by omega)]
    have e : natBits s - k = (natBits s - (k + 1)) + 1 := by omega
    have hb : natBit s (natBits s - 1 - k) = (num s / 2 ^ (natBits s - (k + 1)) % 2 == 1) := by
      unfold natBit; rw [hv, show natBits s - 1 - k = natBits s - (k + 1) by omega]; rfl
    rw [hb, e]
    generalize natBits s - (k + 1) = i
    rw [Nat.pow_succ, ← Nat.div_div_eq_div_mul]
    generalize num s / 2 ^ i = q
    by_cases ho : q % 2 = 1
    · rw [ho, if_pos (by rfl), sq_mod, mul_mod_l, Nat.mul_mod, Nat.mod_mod, ← Nat.mul_mod, ← Nat.pow_add, ← Nat.pow_succ]
      congr 2; omega
    · have : q % 2 = 0 := by omega
      rw [this, if_neg (by simp), sq_mod, ← Nat.pow_add]
      congr 2; omega
theorem powL_all (a m : Nat) (s : ByteArray) (hv : valid s = true) : powL (a % m) m (bitsL s) = a ^ num s % m := by
  have := powL_take a m s hv (natBits s) (Nat.le_refl _)
  rw [Nat.sub_self, Nat.pow_zero, Nat.div_one, List.take_of_length_le (by rw [bitsL_length]; omega)] at this
  exact this
theorem powL_lt (a m : Nat) (h : 0 < m) (l : List Bool) : powL a m l < m := by
  rcases List.eq_nil_or_concat l with rfl | ⟨l', b, rfl⟩
  · exact Nat.mod_lt _ h
  · rw [List.concat_eq_append, powL_snoc]; split <;> exact Nat.mod_lt _ h

end Go.Proofs.YtlppcnjaacbhpaaGreatDoor
