/- Package modular: powers. A range over a function that yields the binary digits of a number. Package modular: Exp. -/
import Derived.Test.YtcpglhjmhegfmaaGreatDoorTvBM
import Derived.RangeFuncNested
import Derived.RangeFuncBound
import Derived.RangeFuncCalls
import Derived.RangeFuncLeaves
import Derived.Shelf.Abstract
import Derived.Shelf.RegionOpen
import Derived.WalkKit
import Derived.OwnWalkIn
import Derived.TacticsInMore
import Derived.LoopNIn
import Derived.LoopIn
namespace Go.Proofs.YtcpglhjmhegfmaaGreatDoor
open Go.RowKit Go.Shelf
set_option maxRecDepth 100000
set_option linter.unusedVariables false
set_option maxHeartbeats 1000000
attribute [local go_sem] Oper.semAt_some
/-- The binary digits of a number, the most significant one first. -/
def bitsL (s : ByteArray) : List Bool := (List.range (natBits s)).map fun i => natBit s (natBits s - 1 - i)
theorem bitsL_length (s : ByteArray) : (bitsL s).length = natBits s := by simp [bitsL]
theorem bitsL_take_succ (s : ByteArray) (k : Nat) (h : k < natBits s) : (bitsL s).take (k + 1) = (bitsL s).take k ++ [natBit s (natBits s - 1 - k)] := by
  rw [List.take_succ_eq_append_getElem (by rw [bitsL_length]; exact h)]
  simp [bitsL]
theorem natBits_le {s : ByteArray} (hv : valid s = true) : natBits s ≤ 1024 := by
  unfold natBits bitsN
  rw [if_pos hv]
  split
  · omega
  · rename_i h0
    have h1 := valid_num_lt hv
    have h2 := (Nat.log2_lt (k := 8 * 128) h0).2 (Nat.lt_of_lt_of_eq h1 (lim_eq.trans (pow_256 128).symm))
    clear h1
    omega
theorem lt_pow_bitsN' (n : Nat) : n < 2 ^ bitsN n := by
  unfold bitsN
  split
  · omega
  · exact Nat.lt_log2_self
theorem keeps_below {W W' : World} (h : Below W.heap.size W W') : KeepsOthers W W' :=
  ⟨h.size, fun k o hk _ => (h.block k (Array.getElem?_eq_some_iff.1 hk).1).trans hk⟩
/-- A box reads as before. -/
def Kb (Bn : Nat) (W W' : World) : Prop := W'.cell? ⟨Bn, 0, none⟩ = W.cell? ⟨Bn, 0, none⟩
theorem Kb.t {Bn : Nat} {A C D : World} (h : Kb Bn A C) (k : Kb Bn C D) : Kb Bn A D := Eq.trans k h
theorem Kb.b {Bn n : Nat} (hB : Bn < n) (W : World) (l : Nat) (o o' : Obj) (hl : n ≤ l) (_ : W.heap[l]? = some o) (_ : o.isCells = false) (_ : o.isWalk = false) : Kb Bn W (W.putObj l o') :=
  World.cell?_of_block (World.putObj_heap_other (by show Bn ≠ l; omega))
theorem modular_digits (s : ByteArray) (w : World) :
    Calls Tryz.prog 85 #[.string s] w fun e w' => e = .returned (.func (.func 98) #[] #[.pointer (some ⟨w.heap.size, 0, none⟩)]) ∧ w' = w.alloc (.cells #[.string s] 22) := by
  go_enter Tryz.func85, Tryz.ntmps85
  go_wp2
  go_ret
  exact ⟨rfl, rfl⟩
theorem digits1_in (n : Nat) (hn : 1 ≤ n) (l Bn : Nat) (s : ByteArray) (hv : valid s = true) (J Jx : List Bool → World → Prop)
    (hY : ∀ pre x W, J pre W → pre.length < natBits s → YieldAt Fence.wide (n - 1) Tryz.prog l #[.bool x] W fun e W' =>
      (e = .returned (.bool true) ∧ J (pre ++ [x]) W' ∧ Kb Bn W W') ∨ (e = .returned (.bool false) ∧ Jx (pre ++ [x]) W'))
    (W : World) (hBn : W.cell? ⟨Bn, 0, none⟩ = some (.string s)) (h0 : J [] W) :
    CallsIn Fence.wide n Tryz.prog 98 #[.func (.yield l) #[] #[], .pointer (some ⟨Bn, 0, none⟩)] W fun e W' => (∃ v, e = .returned v) ∧
      ((∃ ys, ys = bitsL s ∧ J ys W') ∨ (∃ pre, pre <+: bitsL s ∧ Jx pre W')) := by
  have hN := natBits_le hv
  obtain ⟨N, hNN⟩ : ∃ N, natBits s = N := ⟨_, rfl⟩
  have HBITS := Lib.hid (fun w => natural_Bits s w)
  rw [hNN] at HBITS hY hN
  have HNN := Lib.hid hNN
  have hsz := valid_size hv
  have HY := Lib.hid hY
  clear hNN hY
  refine callsIn_of_wp Tryz.func98 rfl trivial ?_ rfl
  simp only [Tryz.ntmps98, List.size_toArray, List.length_cons, List.length_nil, Nat.reduceAdd, Nat.reduceSub, Array.replicate_succ, Array.replicate_zero, List.push_toArray, List.append_toArray, List.nil_append, List.cons_append]
  gi_wp2_with (refine ⟨trivial, ?_⟩; gi_at_call 70; refine (callsIn_wide.2 (HBITS.out _)).mono ?_; rintro e w' ⟨rfl, rfl⟩)
  gi_loopw [3] (fun p wr => ∃ k : Nat, k ≤ N ∧ p = .int .i64 ((N : Int) - 1 - k) ∧ wr.cell? ⟨Bn, 0, none⟩ = some (.string s) ∧ J ((bitsL s).take k) wr) (fun p _ => (intOf p + 1).toNat)
  case atStart => exact ⟨0, by omega, by simp, hBn, h0⟩
  case round =>
    obtain ⟨k, hk, rfl, hc, hJ⟩ := hrel
    by_cases hlt : k < N
    · obtain ⟨i, hi⟩ : ∃ i : Nat, N - 1 - k = i := ⟨_, rfl⟩
      have ei : ((N : Int) - 1 - (k : Int)) = (i : Int) := by omega
      have hb := fun w => natural_Bit s (i : Int) i w rfl (by omega) (by omega)
      obtain ⟨b, hbb⟩ : ∃ b, natBit s i = b := ⟨_, rfl⟩
      rw [hbb] at hb
      have hts := bitsL_take_succ s k (by rw [HNN.out]; exact hlt)
      rw [HNN.out, hi, hbb] at hts
      have HB := Lib.hid hb
      have HTS := Lib.hid hts
      have HI := Lib.hid hi
      have hib : i ≤ 1024 := by omega
      obtain ⟨fn, tmps, assign, body, hy, hR⟩ := HY.out _ b wr hJ (by simp; omega)
      rw [ei]
      clear hb hts hi ei hbb
      gi_wp2_with (refine ⟨trivial, ?_⟩; gi_at_call 44; refine (callsIn_wide.2 (HB.out _)).mono ?_; rintro e w' ⟨rfl, rfl⟩)
      refine hR.mono ?_
      rintro e W3 (⟨rfl, hJ3, hk3⟩ | ⟨rfl, hJx3⟩)
      · have hc3 : W3.cell? ⟨Bn, 0, none⟩ = some (.string s) := Eq.trans hk3 hc
        gi_wp2
        go_roundw
        case rel => exact ⟨k + 1, by omega, by have := HI.out; congr 1; omega, hc3, by rw [HTS.out]; exact hJ3⟩
        case measure => simp [intOf]
      · gi_wp2
        refine bodyPost_ret (results_none rfl _ _ _) rfl ?_
        exact ⟨⟨_, rfl⟩, .inr ⟨_, by rw [← HTS.out]; exact List.take_prefix _ _, hJx3⟩⟩
    · obtain rfl : k = N := by omega
      have ei : ((k : Int) - 1 - (k : Int)) = -1 := by omega
      rw [ei]
      gi_wp2
      go_end0
      exact ⟨⟨_, rfl⟩, .inl ⟨_, by rw [List.take_of_length_le (by rw [bitsL_length, HNN.out]; omega)], hJ⟩⟩
theorem digits_stops (n : Nat) (hn : 1 ≤ n) (Bn : Nat) (s : ByteArray) (hv : valid s = true) (w : World) (hB : Bn < w.heap.size) (hc : w.cell? ⟨Bn, 0, none⟩ = some (.string s)) :
    SeqStopsK Fence.wide n Tryz.prog 98 #[.pointer (some ⟨Bn, 0, none⟩)] (fun b : Bool => #[Value.bool b]) (Kb Bn) (fun ys => ys = bitsL s) (fun pre => pre <+: bitsL s) (natBits s) w := fun l J Jx W hW _ _ hY h0 =>
  digits1_in n hn l Bn s hv J Jx hY W ((hW.cell (p := ⟨Bn, 0, none⟩) hB).trans hc) h0
/-- A power by the digits of the exponent. -/
def powL (a m : Nat) (l : List Bool) : Nat := l.foldl (fun o b => if b then (o * o % m) * a % m else o * o % m) (1 % m)
theorem powL_snoc (a m : Nat) (l : List Bool) (b : Bool) : powL a m (l ++ [b]) = if b then (powL a m l * powL a m l % m) * a % m else powL a m l * powL a m l % m := by
  simp [powL]
theorem sq_mod (x m : Nat) : (x % m) * (x % m) % m = x * x % m := (Nat.mul_mod x x m).symm
theorem powL_take (a m : Nat) (s : ByteArray) (hv : valid s = true) (k : Nat) (hk : k ≤ natBits s) : powL (a % m) m ((bitsL s).take k) = a ^ (num s / 2 ^ (natBits s - k)) % m := by
  induction k with
  | zero =>
    have h1 : num s < 2 ^ natBits s := by
      unfold natBits; rw [if_pos hv]; exact lt_pow_bitsN' (num s)
    rw [Nat.sub_zero, Nat.div_eq_of_lt h1]
    simp [powL]
  | succ k ih =>
    rw [bitsL_take_succ s k (by omega), powL_snoc, ih (by omega)]
    have e : natBits s - k = (natBits s - (k + 1)) + 1 := by omega
    have hb : natBit s (natBits s - 1 - k) = (num s / 2 ^ (natBits s - (k + 1)) % 2 == 1) := by
      unfold natBit; rw [hv, show natBits s - 1 - k = natBits s - (k + 1) by omega]; rfl
    rw [hb, e]
    generalize natBits s - (k + 1) = i
    rw [Nat.pow_succ, ← Nat.div_div_eq_div_mul]
    generalize num s / 2 ^ i = q
    by_cases ho : q % 2 = 1
    · rw [ho, if_pos (by rfl), sq_mod, mul_mod_l, Nat.mul_mod, Nat.mod_mod, ← Nat.mul_mod, ← Nat.pow_add, ← Nat.pow_succ]
      congr 2; omega
    · have : q % 2 = 0 := by omega
      rw [this, if_neg (by simp), sq_mod, ← Nat.pow_add]
      congr 2; omega
theorem powL_all (a m : Nat) (s : ByteArray) (hv : valid s = true) : powL (a % m) m (bitsL s) = a ^ num s % m := by
  have := powL_take a m s hv (natBits s) (Nat.le_refl _)
  rw [Nat.sub_self, Nat.pow_zero, Nat.div_one, List.take_of_length_le (by rw [bitsL_length]; omega)] at this
  exact this
theorem powL_lt (a m : Nat) (h : 0 < m) (l : List Bool) : powL a m l < m := by
  rcases List.eq_nil_or_concat l with rfl | ⟨l', b, rfl⟩
  · exact Nat.mod_lt _ h
  · rw [List.concat_eq_append, powL_snoc]; split <;> exact Nat.mod_lt _ h
end Go.Proofs.YtcpglhjmhegfmaaGreatDoor
namespace Go.Proofs.YtcpglhjmhegfmaaGreatDoor
open Go.RowKit Go.Shelf
set_option maxRecDepth 100000
set_option linter.unusedVariables false
set_option maxHeartbeats 2000000
attribute [local go_sem] Oper.semAt_some
theorem exp_boxes {w w1 : World} {x y : ByteArray} {T : TypeId} (hb1 : Below (w.heap.size + 1 + 1) ((w.alloc (Obj.cells #[Value.string x] T)).alloc (Obj.cells #[Value.string y] T)) w1) :
    w1.cell? ⟨w.heap.size, 0, none⟩ = some (.string x) ∧ w1.cell? ⟨w.heap.size + 1, 0, none⟩ = some (.string y) ∧ w1.frozen? ⟨w.heap.size, 0, none⟩ = false ∧ w.heap.size + 1 < w1.heap.size ∧ w.heap.size < w1.heap.size ∧ Below w.heap.size w w1 := by
  have hz1 := hb1.size
  simp only [World.size_alloc] at hz1
  refine ⟨?_, ?_, ?_, by omega, by omega, ?_⟩
  · exact (hb1.cell (p := ⟨w.heap.size, 0, none⟩) (by simp; omega)).trans (by simp [go_sem])
  · exact (hb1.cell (p := ⟨w.heap.size + 1, 0, none⟩) (by simp)).trans (by simp [go_sem])
  · exact (hb1.frozen (p := ⟨w.heap.size, 0, none⟩) (by simp; omega)).trans (by simp [go_sem])
  · exact (((Below.refl _ _).alloc (Nat.le_refl _) _).alloc (by simp) _).trans (hb1.mono (by omega))
theorem cell_lt {w : World} {g o : Nat} {v : Value} (h : w.cell? ⟨g, o, none⟩ = some v) : g < w.heap.size := by
  rcases Nat.lt_or_ge g w.heap.size with h2 | h2
  · exact h2
  · simp [World.cell?, Array.getElem?_eq_none h2] at h
theorem B_one : B 1 = ⟨#[1]⟩ := rfl
theorem modular_Exp (a m : Nat) (s : ByteArray) (w : World) (ha : a < 18446744073709551616) (hm : m < 18446744073709551616) (h0 : 0 < m) (hv : valid s = true) :
    Calls Tryz.prog 78 #[.string (B a), .string s, .string (B m)] w fun e w' => e = .returned (.tuple #[.string (B (a ^ num s % m)), .int .i64 0]) ∧ Below w.heap.size w w' := by
  have he : checkErr [B a, s] [B m] = 0 := by
    have := checkErr21 (u64_lt_lim ha) (valid_num_lt hv) (u64_lt_lim hm) (by omega)
    rwa [B_num hv] at this
  have hck : Calls Tryz.prog 53 #[.slice (some ⟨w.heap.size + 1 + 1, 0, none⟩) 2 2, .slice (some ⟨w.heap.size + 1 + 1 + 1, 0, none⟩) 1 1] ((((w.alloc (Obj.cells #[Value.string (B a)] 22)).alloc (Obj.cells #[Value.string (B m)] 22)).alloc (Obj.cells #[Value.string (B a), Value.string s] 22)).alloc (Obj.cells #[Value.string (B m)] 22)) fun e w' => e = .returned (.int .i64 0) ∧ Below (w.heap.size + 1 + 1) ((w.alloc (Obj.cells #[Value.string (B a)] 22)).alloc (Obj.cells #[Value.string (B m)] 22)) w' := by
    have := modular_check21 (B a) s (B m) 22 22 ((w.alloc (Obj.cells #[Value.string (B a)] 22)).alloc (Obj.cells #[Value.string (B m)] 22))
    rw [he] at this
    simp only [World.size_alloc] at this
    exact this
  have HCK := Lib.hid hck
  have HRA := Lib.hid (fun w => modular_reduced a m w ha hm h0)
  have HR1 := Lib.hid (fun w => B_one ▸ modular_reduced 1 m w (by decide) hm h0)
  have HT := Lib.hid (fun x y w (hx : x < m) (hy : y < m) => modular_times x y m w (Nat.lt_trans hx hm) (Nat.lt_trans hy hm) hm h0)
  obtain ⟨A, hA⟩ : ∃ A, a % m = A := ⟨_, rfl⟩
  have hAm := Lib.hid (show A < m by rw [← hA]; exact Nat.mod_lt _ h0)
  have HPA := Lib.hid (show powL A m (bitsL s) = a ^ num s % m by rw [← hA]; exact powL_all a m s hv)
  have HPL := Lib.hid (powL_lt A m h0)
  rw [hA] at HRA
  obtain ⟨R, hR⟩ : ∃ R, a ^ num s % m = R := ⟨_, rfl⟩
  rw [hR] at HPA ⊢
  have HV := Lib.hid hv
  clear he hck ha hm h0 hA hR hv
  refine (callsIn_wide (n := 3)).1 ?_
  refine callsIn_of_wp_marks Tryz.func78 rfl trivial ?_ rfl
  simp only [Tryz.ntmps78, List.size_toArray, List.length_cons, List.length_nil, Nat.reduceAdd, Nat.reduceSub, Array.replicate_succ, Array.replicate_zero, List.push_toArray, List.append_toArray, List.nil_append, List.cons_append]
  gi_wp2_with (first | (refine ⟨trivial, ?_⟩; gi_at_call 53; refine (callsIn_wide.2 HCK.out).mono ?_; rintro e w1 ⟨rfl, hb1⟩; obtain ⟨c0, c1, f0, hz1, hz2, HB1⟩ := exp_boxes hb1) | (refine ⟨trivial, ?_⟩; gi_at_call 55; (with_reducible refine (callsIn_wide.2 (HRA.out _)).mono ?_); rintro e w2 ⟨rfl, hb2⟩; have hcw2 := (bcell hb2).1; have hfw2 := (bcell hb2).2; have hs2 := hb2.size; have hz3 : w.heap.size < w2.heap.size := by { omega }; have hz4 : w.heap.size + 1 < w2.heap.size := by { omega }) | (refine ⟨trivial, ?_⟩; gi_at_call 55; (with_reducible refine (callsIn_wide.2 (HR1.out _)).mono ?_); rintro e w3 ⟨rfl, hb3⟩; have hcw3 := (bcell hb3).1; have hfw3 := (bcell hb3).2; have hs3 := hb3.size) | (refine ⟨trivial, ?_⟩; gi_at_call 85; (with_reducible refine (callsIn_wide.2 (modular_digits _ _)).mono ?_); rintro e w4 ⟨rfl, rfl⟩))
  obtain ⟨W, hW⟩ : ∃ W, ((w3.alloc (Obj.cells #[Value.string (B (1 % m))] 22)).alloc (Obj.cells #[Value.string s] 22)) = W := ⟨_, rfl⟩
  have hz5 : w2.heap.size ≤ w3.heap.size := by have := hs3; simpa using this
  have x3 : w3.cell? ⟨w.heap.size, 0, none⟩ = some (.string (B A)) := by
    rw [hcw3 _ _ (by simpa using hz3)]
    exact World.cell?_setCell_same _ _ _ (by rw [hcw2 _ _ hz2]; exact c0)
  have y3 : w3.cell? ⟨w.heap.size + 1, 0, none⟩ = some (.string (B m)) := by
    rw [hcw3 _ _ (by simpa using hz4)]
    exact (World.cell?_setCell_other _ _ _ _ (by simp)).trans (by rw [hcw2 _ _ hz1]; exact c1)
  have HB3 : Below w.heap.size w w3 := below2 ((below2 HB1 hb2).setCell (by simp) _) hb3
  have hbW : Below w3.heap.size w3 W := by rw [← hW]; exact ((Below.refl _ _).alloc (Nat.le_refl _) _).alloc (by simp) _
  have cX : W.cell? ⟨w.heap.size, 0, none⟩ = some (.string (B A)) := (hbW.cell (p := ⟨w.heap.size, 0, none⟩) (by show w.heap.size < w3.heap.size; omega)).trans x3
  have cY : W.cell? ⟨w.heap.size + 1, 0, none⟩ = some (.string (B m)) := (hbW.cell (p := ⟨w.heap.size + 1, 0, none⟩) (by show w.heap.size + 1 < w3.heap.size; omega)).trans y3
  have cO : W.cell? ⟨w3.heap.size, 0, none⟩ = some (.string (B (1 % m))) := by rw [← hW]; simp [go_sem]
  have fO : W.frozen? ⟨w3.heap.size, 0, none⟩ = false := by rw [← hW]; simp [go_sem]
  have cB : W.cell? ⟨w3.heap.size + 1, 0, none⟩ = some (.string s) := by rw [← hW]; simp [go_sem]
  have hzW : W.heap.size = w3.heap.size + 1 + 1 := by rw [← hW]; simp
  have HBW : Below w.heap.size w W := below2 HB3 hbW
  rw [hW]
  clear hW hbW HB3 x3 y3 hs2 hs3 hcw2 hcw3 hfw2 hfw3 hb2 hb3 hb1 HB1 c0 c1 f0
  obtain ⟨X, hX⟩ : ∃ X, w.heap.size = X := ⟨_, rfl⟩
  obtain ⟨O, hO⟩ : ∃ O, w3.heap.size = O := ⟨_, rfl⟩
  have HXX := Lib.hid hX
  rw [hX] at cX cY HBW hz1 hz2 hz3 hz4 ⊢
  rw [hO] at cO fO cB hzW hz5 ⊢
  have hXO : X < O := by omega
  have hYO : X + 1 < O := by omega
  have hmx : X ≤ W.heap.size := by omega
  clear hX hO hz1 hz2 hz3 hz4 hz5
  refine wpIn_rangeFunc_ownF rfl (by omega) (gf := 98) (lb := #[.pointer (some ⟨O + 1, 0, none⟩)]) rfl trivial (enters_of Tryz.func98 (by kernel_rfl) rfl)
    (digits_stops (3 - 1) (by omega) (O + 1) s HV.out W (by omega) cB) Kb.t (Kb.b (by omega)) (Below.refl _ _) (fun _ => rfl)
    (fun pre W' => (W'.cell? ⟨X, 0, none⟩ = some (.string (B A)) ∧ W'.cell? ⟨X + 1, 0, none⟩ = some (.string (B m)) ∧ W'.cell? ⟨O, 0, none⟩ = some (.string (B (powL A m pre))) ∧ W'.frozen? ⟨O, 0, none⟩ = false ∧ W'.cell? ⟨O + 1, 0, none⟩ = some (.string s)) ∧ Below X w W')
    (fun _ _ _ => False)
    (OwnFrom.and (Own.from (fun s A B row hs hg hr => ⟨cell_kept hs.1 hg hr, cell_kept hs.2.1 hg hr, cell_kept hs.2.2.1 hg hr, (frozen_kept hs.2.2.1 hg hr).trans hs.2.2.2.1, cell_kept hs.2.2.2.2 hg hr⟩) _) (ownFrom_below (by rw [HXX.out]; exact Nat.le_refl _) hmx))
    (fun _ _ _ _ _ hs _ _ => hs)
    ⟨⟨cX, cY, cO, fO, cB⟩, HBW⟩
    (fun x => { tmps := #[.string (B a), .string s, .string (B m), .pointer (some ⟨X, 0, none⟩), undef, .pointer (some ⟨X + 1, 0, none⟩), .string ⟨#[]⟩, .int .i64 0, .int .i64 0, .pointer (some ⟨O, 0, none⟩), .bool x, .string (B a), .string s, .slice (some ⟨X + 1 + 1, 0, none⟩) 2 2, .string (B m), .slice (some ⟨X + 1 + 1 + 1, 0, none⟩) 1 1, .int .i64 0, .int .i64 0, .bool false, undef, .string (B a), .string (B m), .string (B A), .string (B m), .string (B (1 % m)), .string s, .func (.func 98) #[] #[.pointer (some ⟨O + 1, 0, none⟩)], .bool x, undef, undef, undef, undef, undef, undef, undef, undef, undef, undef], defers := [] }) ?assign ?body ?done ?stop
  case assign =>
    intro l x W K hK
    gi_wp2
    exact hK
  case body =>
    rintro l pre x W2 ⟨⟨dX, dY, dO, gO, dB⟩, hB⟩ _
    have hl1 := cell_lt dX
    have hl2 := cell_lt dY
    have hl3 := cell_lt dO
    have hl4 := cell_lt dB
    obtain ⟨P, hP⟩ : ∃ P, powL A m pre = P := ⟨_, rfl⟩
    have hsn := powL_snoc A m pre x
    rw [hP] at dO hsn
    have HSN := Lib.hid hsn
    have HPm := Lib.hid (show P < m by rw [← hP]; exact HPL.out pre)
    have HQm := Lib.hid (show P * P % m < m from Nat.mod_lt _ (Nat.lt_of_le_of_lt (Nat.zero_le _) HPm.out))
    have HB := Lib.hid hB
    clear hP hsn hB
    cases x
    · gi_wp2_with (refine ⟨trivial, ?_⟩; gi_at_call 81; (with_reducible refine (CallsIn.inRound l (callsIn_wide.2 (HT.out _ _ _ HPm.out HPm.out))).mono ?_); rintro e w5 ⟨rfl, hb5⟩; have hcw5 := (bcell hb5).1; have hfw5 := (bcell hb5).2)
      have hs5 := hb5.size
      have hB2 := below2 (HXX.out.symm ▸ HB.out) hb5
      rw [HXX.out] at hB2
      refine ⟨(keeps_below hb5).trans (KeepsOthers.setCell _ _ _), ?_, ⟨?_, ?_, ?_, ?_, ?_⟩, hB2.setCell (by show X ≤ O; omega) _⟩
      · exact (World.cell?_setCell_other _ _ _ _ (by simp)).trans (hcw5 _ _ hl4)
      · exact (World.cell?_setCell_other _ _ _ _ (by simp)).trans ((hcw5 _ _ hl1).trans dX)
      · exact (World.cell?_setCell_other _ _ _ _ (by simp)).trans ((hcw5 _ _ hl2).trans dY)
      · rw [HSN.out]; exact World.cell?_setCell_same _ _ _ ((hcw5 _ _ hl3).trans dO)
      · rw [World.frozen?_setCell]; exact (hfw5 _ _ hl3).trans gO
      · exact (World.cell?_setCell_other _ _ _ _ (by simp)).trans ((hcw5 _ _ hl4).trans dB)
    · gi_wp2_with (first | (refine ⟨trivial, ?_⟩; gi_at_call 81; (with_reducible refine (CallsIn.inRound l (callsIn_wide.2 (HT.out _ _ _ HPm.out HPm.out))).mono ?_); rintro e w5 ⟨rfl, hb5⟩; have hcw5 := (bcell hb5).1; have hfw5 := (bcell hb5).2; have hs5 := hb5.size; have hl5 : O < w5.heap.size := by { omega }; have hl6 : X < w5.heap.size := by { omega }; have hl7 : X + 1 < w5.heap.size := by { omega }) | (refine ⟨trivial, ?_⟩; gi_at_call 81; (with_reducible refine (CallsIn.inRound l (callsIn_wide.2 (HT.out _ _ _ HQm.out hAm.out))).mono ?_); rintro e w6 ⟨rfl, hb6⟩; have hcw6 := (bcell hb6).1; have hfw6 := (bcell hb6).2))
      have hs6 := hb6.size
      have hB2 := below2 (HXX.out.symm ▸ HB.out) hb5
      rw [HXX.out] at hB2
      have hB3 := below2 (HXX.out.symm ▸ (hB2.setCell (p := ⟨O, 0, none⟩) (by show X ≤ O; omega) (.string (B (P * P % m))))) hb6
      rw [HXX.out] at hB3
      have hl8 : O + 1 < w5.heap.size := by omega
      simp only [World.size_setCell] at hcw6 hfw6 hs6
      have e1 : w6.cell? ⟨X, 0, none⟩ = some (.string (B A)) := (hcw6 _ _ hl6).trans ((World.cell?_setCell_other _ _ _ _ (by simp)).trans ((hcw5 _ _ hl1).trans dX))
      have e2 : w6.cell? ⟨X + 1, 0, none⟩ = some (.string (B m)) := (hcw6 _ _ hl7).trans ((World.cell?_setCell_other _ _ _ _ (by simp)).trans ((hcw5 _ _ hl2).trans dY))
      have e3 : w6.cell? ⟨O, 0, none⟩ = some (.string (B (P * P % m))) := (hcw6 _ _ hl5).trans (World.cell?_setCell_same _ _ _ ((hcw5 _ _ hl3).trans dO))
      have e4 : w6.frozen? ⟨O, 0, none⟩ = false := (hfw6 _ _ hl5).trans (by rw [World.frozen?_setCell]; exact (hfw5 _ _ hl3).trans gO)
      have e5 : w6.cell? ⟨O + 1, 0, none⟩ = W2.cell? ⟨O + 1, 0, none⟩ := (hcw6 _ _ hl8).trans ((World.cell?_setCell_other _ _ _ _ (by simp)).trans (hcw5 _ _ hl4))
      refine ⟨(((keeps_below hb5).trans (KeepsOthers.setCell _ _ _)).trans (keeps_below hb6)).trans (KeepsOthers.setCell _ _ _), ?_, ⟨?_, ?_, ?_, ?_, ?_⟩, hB3.setCell (by show X ≤ O; omega) _⟩
      · exact (World.cell?_setCell_other _ _ _ _ (by simp)).trans e5
      · exact (World.cell?_setCell_other _ _ _ _ (by simp)).trans e1
      · exact (World.cell?_setCell_other _ _ _ _ (by simp)).trans e2
      · have hh : powL A m (pre ++ [true]) = P * P * A % m := by rw [HSN.out]; simp
        rw [hh]; exact World.cell?_setCell_same _ _ _ e3
      · rw [World.frozen?_setCell]; exact e4
      · exact (World.cell?_setCell_other _ _ _ _ (by simp)).trans (e5.trans dB)
  case done =>
    rintro D ys W2 hD rfl ⟨⟨_, _, dO, _, _⟩, hB⟩ hK
    gi_wp2
    refine ⟨by simp, .inl ⟨_, _, rfl, run_takeDeferred hK, ?_⟩⟩
    have hDw : w.heap.size ≤ D := by rw [HXX.out]; omega
    rw [← HXX.out] at hB
    refine ⟨.tuple #[.string (B (powL A m (bitsL s))), .int .i64 0], by simp [results, Tryz.f78, go_sem], by rw [HPA.out], hB.trans (belowK_b (w := w) (Nat.le_refl _) W2 D _ _ hDw hK rfl rfl)⟩
  case stop =>
    rintro D c pre W2 _ _ h _
    exact h.elim
end Go.Proofs.YtcpglhjmhegfmaaGreatDoor
