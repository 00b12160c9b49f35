/- The bases of a key: the iterator of the program, as a contract. -/
import Derived.Test.YtkdbemdobfddoaaGreatDoorKa
import Derived.Test.YtkdbemdobfddoaaGreatDoorOn
import Derived.RangeFuncBox
namespace Go.Proofs.YtkdbemdobfddoaaGreatDoor
open Go.RowKit Go.Shelf
set_option maxRecDepth 100000
set_option linter.unusedVariables false
set_option maxHeartbeats 4000000
attribute [local go_sem] Oper.semAt_some

/-- The bases of a key with their kinds: S, Z, U, H, R[0], R[1], .. -/
def basL (z s u h : ByteArray) (rs : List ByteArray) : List (Int × ByteArray) := (2, s) :: (0, z) :: (1, u) :: (1, h) :: rs.map fun x => (0, x)
theorem basL_length (z s u h : ByteArray) (rs : List ByteArray) : (basL z s u h rs).length = 4 + rs.length := by simp [basL]; omega
theorem basL_take {z s u h : ByteArray} {rs : List ByteArray} (k : Nat) : (basL z s u h rs).take (4 + k) = basL z s u h (rs.take k) := by
  rw [show 4 + k = k + 4 by omega]
  simp [basL, List.map_take]
theorem basL_take_succ {z s u h : ByteArray} {rs : List ByteArray} {k : Nat} (hk : k < rs.length) :
    basL z s u h (rs.take (k + 1)) = basL z s u h (rs.take k) ++ [(0, rs.getD k ByteArray.empty)] := by
  have e : rs.take (k + 1) = rs.take k ++ [rs.getD k ByteArray.empty] := by
    rw [List.take_succ_eq_append_getElem hk, sgetD_lt hk]
  rw [e]
  simp [basL]
def encB (x : Int × ByteArray) : Array Value := #[.int .i64 x.1, .string x.2]
theorem iss_bases (kn z s u h : Value) (m o : ByteArray) (R : Value) (w : World) :
    Calls Tryz.prog 81 #[.agg #[kn, .string m, .string o, z, s, R, u, h]] w fun e w' => e = .returned (.func (.func 144) #[] #[.pointer (some ⟨w.heap.size, 0, none⟩)]) ∧ w' = w.alloc (.cells #[kn, .string m, .string o, z, s, R, u, h] 33) := by
  go_enter Tryz.func81, Tryz.ntmps81
  go_wp2
  go_ret
  exact ⟨rfl, rfl⟩
/-- The key that the iterator reads: its cells and its row. -/
structure KyAt (n₀ Bk : Nat) (z s u h : ByteArray) (A : Option Addr) (n c : Nat) (rs : List ByteArray) (W : World) : Prop where
  cz : W.cell? ⟨Bk, 3, none⟩ = some (.string z)
  cs : W.cell? ⟨Bk, 4, none⟩ = some (.string s)
  cr : W.cell? ⟨Bk, 5, none⟩ = some (.slice A n c)
  cu : W.cell? ⟨Bk, 6, none⟩ = some (.string u)
  ch : W.cell? ⟨Bk, 7, none⟩ = some (.string h)
  row : SLs W n₀ A rs
  lo : Bk < n₀
theorem KyAt.next {n₀ Bk n c : Nat} {z s u h : ByteArray} {A : Option Addr} {rs : List ByteArray} {W W' : World} (k : KyAt n₀ Bk z s u h A n c rs W) (hb : Below n₀ W W') : KyAt n₀ Bk z s u h A n c rs W' :=
  ⟨(hb.cell (p := ⟨Bk, 3, none⟩) k.lo).trans k.cz, (hb.cell (p := ⟨Bk, 4, none⟩) k.lo).trans k.cs, (hb.cell (p := ⟨Bk, 5, none⟩) k.lo).trans k.cr, (hb.cell (p := ⟨Bk, 6, none⟩) k.lo).trans k.cu, (hb.cell (p := ⟨Bk, 7, none⟩) k.lo).trans k.ch, k.row.below hb, k.lo⟩
theorem bases1_in (N : Nat) (hN : 1 ≤ N) (l n₀ Bk : Nat) (z s u h : ByteArray) (A : Option Addr) (n c : Nat) (rs : List ByteArray) (hn : rs.length = n) (hm : n ≤ 1000) (J Jx : List (Int × ByteArray) → World → Prop)
    (hY : ∀ pre x W, J pre W → pre.length < 4 + n → YieldAt Fence.wide (N - 1) Tryz.prog l (encB x) W fun e W' =>
      (e = .returned (.bool true) ∧ J (pre ++ [x]) W' ∧ Below n₀ W W') ∨ (e = .returned (.bool false) ∧ Jx (pre ++ [x]) W'))
    (W : World) (hK : KyAt n₀ Bk z s u h A n c rs W) (h0 : J [] W) :
    CallsIn Fence.wide N Tryz.prog 144 #[.func (.yield l) #[] #[], .pointer (some ⟨Bk, 0, none⟩)] W fun e W' => (∃ v, e = .returned v) ∧
      ((∃ ys, ys = basL z s u h rs ∧ J ys W') ∨ (∃ pre, pre <+: basL z s u h rs ∧ Jx pre W')) := by
  have HK := Lib.hid hK
  have HN := Lib.hid hn
  have HY := Lib.hid hY
  have H0 := Lib.hid h0
  have HM := Lib.hid hm
  obtain ⟨k3, k4, k5, k6, k7, _, _⟩ := hK
  clear hn hY h0 hm
  refine callsIn_of_wp Tryz.func144 rfl trivial ?_ rfl
  simp only [Tryz.ntmps144, List.size_toArray, List.length_cons, List.length_nil, Nat.reduceAdd, Nat.reduceSub, Array.replicate_succ, Array.replicate_zero, List.push_toArray, List.append_toArray, List.nil_append, List.cons_append]
  obtain ⟨fn, tmps, assign, body, hy, hR⟩ := HY.out [] (2, s) W H0.out (by simp; omega)
  unfold encB at hy
  dsimp only at hy
  gi_wp2
  refine hR.mono ?_
  clear hy hR
  rintro e W1 (⟨rfl, hJ1, hb1⟩ | ⟨rfl, hx1⟩)
  · have HK1 := Lib.hid (HK.out.next hb1)
    have HJ1 := Lib.hid hJ1
    obtain ⟨k3, k4, k5, k6, k7, _, _⟩ := HK1.out
    clear hb1 hJ1
    obtain ⟨fn, tmps, assign, body, hy, hR⟩ := HY.out _ (0, z) W1 HJ1.out (by simp; omega)
    unfold encB at hy
    dsimp only at hy
    gi_wp2
    refine hR.mono ?_
    clear hy hR
    rintro e W2 (⟨rfl, hJ2, hb2⟩ | ⟨rfl, hx2⟩)
    · have HK2 := Lib.hid (HK1.out.next hb2)
      have HJ2 := Lib.hid hJ2
      obtain ⟨k3, k4, k5, k6, k7, _, _⟩ := HK2.out
      clear hb2 hJ2
      obtain ⟨fn, tmps, assign, body, hy, hR⟩ := HY.out _ (1, u) W2 HJ2.out (by simp; omega)
      unfold encB at hy
      dsimp only at hy
      gi_wp2
      refine hR.mono ?_
      clear hy hR
      rintro e W3 (⟨rfl, hJ3, hb3⟩ | ⟨rfl, hx3⟩)
      · have HK3 := Lib.hid (HK2.out.next hb3)
        have HJ3 := Lib.hid hJ3
        obtain ⟨k3, k4, k5, k6, k7, _, _⟩ := HK3.out
        clear hb3 hJ3
        obtain ⟨fn, tmps, assign, body, hy, hR⟩ := HY.out _ (1, h) W3 HJ3.out (by simp; omega)
        unfold encB at hy
        dsimp only at hy
        gi_wp2
        refine hR.mono ?_
        clear hy hR
        rintro e W4 (⟨rfl, hJ4, hb4⟩ | ⟨rfl, hx4⟩)
        · have HK4 := Lib.hid (HK3.out.next hb4)
          have HJ4 : Hid (J (basL z s u h (rs.take 0)) W4) := Lib.hid (by simpa [basL] using hJ4)
          obtain ⟨k3, k4, k5, k6, k7, _, _⟩ := HK4.out
          clear hb4 hJ4
          gi_wp2
          gi_loopw [34] (fun i wr => ∃ k : Nat, k ≤ n ∧ i = .int .i64 k ∧ J (basL z s u h (rs.take k)) wr ∧ KyAt n₀ Bk z s u h A n c rs wr) (fun i _ => n - (intOf i).toNat)
          case atStart => exact ⟨0, Nat.zero_le _, rfl, HJ4.out, HK4.out⟩
          case round =>
            obtain ⟨k, hk, rfl, hJs, hky⟩ := hrel
            have HJS := Lib.hid hJs
            have HKY := Lib.hid hky
            clear hJs hky
            have hm : n ≤ 1000 := HM.out
            by_cases hlt : k < n
            · obtain ⟨ad, rfl, hc⟩ := HKY.out.row.at_ (k := k) (by rw [HN.out]; exact hlt)
              obtain ⟨fn, tmps, assign, body, hy, hR⟩ := HY.out _ (0, rs.getD k ByteArray.empty) wr HJS.out (by rw [basL_length, List.length_take]; omega)
              have hsn := basL_take_succ (z := z) (s := s) (u := u) (h := h) (rs := rs) (k := k) (by rw [HN.out]; exact hlt)
              obtain ⟨x, hx⟩ : ∃ x, rs.getD k ByteArray.empty = x := ⟨_, rfl⟩
              rw [hx] at hc hy hR hsn
              have HSN := Lib.hid hsn
              clear hx hsn
              unfold encB at hy
              dsimp only at hy
              gi_wp2
              refine hR.mono ?_
              clear hy hR
              rintro e W5 (⟨rfl, hJ5, hb5⟩ | ⟨rfl, hx5⟩)
              · have HK5 := Lib.hid (HKY.out.next hb5)
                have HJ5 : Hid (J (basL z s u h (rs.take (k + 1))) W5) := Lib.hid (by rw [HSN.out]; exact hJ5)
                clear hb5 hJ5
                gi_wp2
                go_roundw
                case rel => exact ⟨k + 1, by omega, by simp, HJ5.out, HK5.out⟩
                case measure => simp [intOf]; omega
              · have HX5 : Hid (Jx (basL z s u h (rs.take (k + 1))) W5) := Lib.hid (by rw [HSN.out]; exact hx5)
                clear hx5
                gi_wp2
                refine bodyPost_ret (results_none rfl _ _ _) rfl ?_
                exact ⟨⟨_, rfl⟩, .inr ⟨_, by rw [← basL_take]; exact List.take_prefix _ _, HX5.out⟩⟩
            · obtain rfl : k = n := by omega
              have HF : Hid (J (basL z s u h rs) wr) := Lib.hid (by have := HJS.out; rwa [List.take_of_length_le (by rw [HN.out]; exact Nat.le_refl _)] at this)
              gi_wp2
              go_end0
              exact ⟨⟨_, rfl⟩, .inl ⟨_, rfl, HF.out⟩⟩
        · have HX := Lib.hid hx4
          clear hx4
          gi_wp2
          refine bodyPost_ret (results_none rfl _ _ _) rfl ?_
          exact ⟨⟨_, rfl⟩, .inr ⟨_, ⟨rs.map fun x => (0, x), by simp [basL]⟩, HX.out⟩⟩
      · have HX := Lib.hid hx3
        clear hx3
        gi_wp2
        refine ⟨fun _ h => (by cases h), ?_⟩
        gi_wp2
        refine bodyPost_ret (results_none rfl _ _ _) rfl ?_
        exact ⟨⟨_, rfl⟩, .inr ⟨_, ⟨(1, h) :: rs.map fun x => (0, x), by simp [basL]⟩, HX.out⟩⟩
    · have HX := Lib.hid hx2
      clear hx2
      gi_wp2
      refine ⟨fun _ h => (by cases h), ?_⟩
      gi_wp2
      refine bodyPost_ret (results_none rfl _ _ _) rfl ?_
      exact ⟨⟨_, rfl⟩, .inr ⟨_, ⟨(1, u) :: (1, h) :: rs.map fun x => (0, x), by simp [basL]⟩, HX.out⟩⟩
  · have HX := Lib.hid hx1
    clear hx1
    gi_wp2
    refine ⟨fun _ h => (by cases h), ?_⟩
    gi_wp2
    refine ⟨fun _ h => (by cases h), ?_⟩
    gi_wp2
    refine bodyPost_ret (results_none rfl _ _ _) rfl ?_
    exact ⟨⟨_, rfl⟩, .inr ⟨_, ⟨(0, z) :: (1, u) :: (1, h) :: rs.map fun x => (0, x), by simp [basL]⟩, HX.out⟩⟩
theorem bases_stops (N : Nat) (hN : 1 ≤ N) (n₀ Bk : Nat) (z s u h : ByteArray) (A : Option Addr) (n c : Nat) (rs : List ByteArray) (hn : rs.length = n) (hm : n ≤ 1000) (w : World) (hK : KyAt n₀ Bk z s u h A n c rs w) (h0 : n₀ ≤ w.heap.size) :
    SeqStopsK Fence.wide N Tryz.prog 144 #[.pointer (some ⟨Bk, 0, none⟩)] encB (Below n₀) (fun ys => ys = basL z s u h rs) (fun pre => pre <+: basL z s u h rs) (4 + n) w := fun l J Jx W hW _ _ hY hJ =>
  bases1_in N hN l n₀ Bk z s u h A n c rs hn hm J Jx hY W (hK.next (hW.mono h0)) hJ

end Go.Proofs.YtkdbemdobfddoaaGreatDoor
