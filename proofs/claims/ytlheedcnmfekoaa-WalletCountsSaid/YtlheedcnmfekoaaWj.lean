/- Encoding: length. -/
import Derived.Test.YtlheedcnmfekoaaWi
namespace Go.Proofs.Ytlheedcnmfekoaa
open Go.RowKit
set_option maxRecDepth 100000
set_option linter.unusedVariables false
set_option maxHeartbeats 4000000

theorem conv_str {w : World} {g o : Nat} {L : List UInt8} (h : Row w g o L) (n c : Nat) (hn : L.length = n) :
    (convert 151 9 (.slice (some ⟨g, o, none⟩) n c)).run Try.prog w = .ok (.string ⟨L.toArray⟩) w := by
  subst hn
  exact run_convert_bytes_back w 151 9 5 ⟨g, o, none⟩ c L Try.underlying151 Try.underlying5 Try.underlying9 (fun j hj => by
    have := h j hj
    rw [getD_lt hj] at this
    rw [addr_add]; exact this)
theorem or128 : ∀ x : Nat, x < 256 → bits .or .u8 (x : Int) 128 = ((x % 128 + 128 : Nat) : Int) := by decide +kernel
theorem set_next {M : List UInt8} {k : Nat} (hk : M.length = k) (h10 : k < 10) (y : UInt8) : (M ++ List.replicate (10 - k) 0).set k y = (M ++ [y]) ++ List.replicate (10 - (k + 1)) 0 := by
  subst hk
  obtain ⟨r, hr⟩ : ∃ r, 10 - M.length = r + 1 := ⟨10 - M.length - 1, by omega⟩
  have hr2 : 10 - (M.length + 1) = r := by omega
  rw [hr, hr2, List.replicate_succ]
  simp
theorem arr10 : Try.prog.arrayLen 162 = 10 := by kernel_rfl
theorem slice10 (g k : Nat) (W : World) (hk : k + 1 ≤ 10) : (Instr.sliceAt 162 (.pointer (some ⟨g, 0, none⟩)) none (some (.int .i64 ((k : Int) + 1))) none).run Try.prog W = .ok (.slice (some ⟨g, 0, none⟩) (k + 1) 10) W := by
  rw [run_sliceAt_array_h W 162 ⟨g, 0, none⟩ Try.underlying162 .i64 ((k : Int) + 1) (by omega) (by rw [arr10]; omega)]
  have hs : (sizeOf (Try.prog.elem 162)).run Try.prog W = .ok 1 W := by kernel_rfl
  rw [hs]
  have e : ((k : Int) + 1).toNat = k + 1 := by omega
  simp only [Result.andThen, slicedAt, arr10, e]
  simp [Addr.add]
/-- What the loop of length holds. -/
structure LnAt (w : World) (n0 n k : Nat) (M : List UInt8) (wr : World) : Prop where
  len : M.length = k
  eq : lenB n0 = M ++ lenF (10 - k) n
  bd : (k = 0 ∧ n < 268435456) ∨ (k = 1 ∧ n < 2097152) ∨ (k = 2 ∧ n < 16384) ∨ (k = 3 ∧ n < 128)
  blk : Bk wr w.heap.size 162 (M ++ List.replicate (10 - k) 0)
  bel : Below w.heap.size w wr
theorem LnAt.next {w wr : World} {n0 n k : Nat} {M : List UInt8} (h : LnAt w n0 n k M wr) (hn : 128 ≤ n) (y : UInt8) (q : Nat) (hy : UInt8.ofNat (n % 128 + 128) = y) (hq : n / 128 = q) :
    LnAt w n0 q (k + 1) (M ++ [y]) (wr.setCell ⟨w.heap.size, k, none⟩ (.int .u8 ((y.toNat : Nat) : Int))) := by
  have hb := h.bd
  have hk3 : k ≤ 2 := by omega
  refine ⟨by rw [List.length_append, h.len]; rfl, ?_, by omega, ?_, h.bel.setCell (p := ⟨w.heap.size, k, none⟩) (Nat.le_refl _) _⟩
  · rw [h.eq]
    obtain ⟨f, hf⟩ : ∃ f, 10 - k = f + 1 := ⟨10 - k - 1, by omega⟩
    have hf2 : 10 - (k + 1) = f := by omega
    rw [hf, hf2]
    conv => lhs; unfold lenF
    rw [if_neg (by omega), hy, hq]
    simp
  · have := h.blk.set k y
    rwa [set_next h.len (by omega) y] at this
theorem LnAt.fin {w wr : World} {n0 n k : Nat} {M : List UInt8} (h : LnAt w n0 n k M wr) (hn : ¬ 128 ≤ n) (y : UInt8) (hy : UInt8.ofNat n = y) :
    (convert 151 9 (.slice (some ⟨w.heap.size, 0, none⟩) (k + 1) 10)).run Try.prog (wr.setCell ⟨w.heap.size, k, none⟩ (.int .u8 ((y.toNat : Nat) : Int))) = .ok (.string ⟨(lenB n0).toArray⟩) (wr.setCell ⟨w.heap.size, k, none⟩ (.int .u8 ((y.toNat : Nat) : Int))) := by
  have hb := h.bd
  have h1 := h.blk.set k y
  rw [set_next h.len (by omega) y] at h1
  have h2 := h1.row.take (k + 1)
  have hl := h.len
  have e : ((M ++ [y]) ++ List.replicate (10 - (k + 1)) 0).take (k + 1) = lenB n0 := by
    rw [List.take_append_of_le_length (by simp; omega), List.take_of_length_le (by simp; omega), h.eq]
    obtain ⟨f, hf⟩ : ∃ f, 10 - k = f + 1 := ⟨10 - k - 1, by omega⟩
    rw [hf]
    unfold lenF
    rw [if_pos (by omega), hy]
  rw [e] at h2
  exact conv_str h2 (k + 1) 10 (by rw [← e]; simp; omega)
theorem enc_length (n0 : Nat) (w : World) (hn : n0 < 268435456) : Calls Try.prog 93 #[.int .i64 n0] w fun e w' => e = .returned (.string ⟨(lenB n0).toArray⟩) ∧ Below w.heap.size w w' := by
  have HL := Lib.hid (show LnAt w n0 n0 0 [] (w.alloc (.cells (cellsOf (List.replicate 10 0)) 162)) from ⟨rfl, rfl, .inl ⟨rfl, hn⟩, Bk.new w _ _, (Below.refl _ _).alloc (Nat.le_refl _) _⟩)
  clear hn
  go_enter Try.func93, Try.ntmps93
  go_wp2
  go_loopw [0, 4] (fun v0 v4 wr => ∃ (n k : Nat) (M : List UInt8), v0 = .int .i64 n ∧ v4 = .int .i64 k ∧ LnAt w n0 n k M wr) (fun v0 _ _ => (intOf v0).toNat)
  case atStart => exact ⟨n0, 0, [], rfl, rfl, HL.out⟩
  case round =>
    obtain ⟨n, k, M, rfl, rfl, hln⟩ := hrel
    have HLN := Lib.hid hln
    have hb := hln.bd
    have hk3 : k ≤ 3 := by omega
    have hn8 : n < 268435456 := by omega
    clear hln hb
    have hlen := HLN.out.len
    have hc := HLN.out.blk.cell (k := k) (by simp; omega)
    have hf := HLN.out.blk.free k
    obtain ⟨z, hz⟩ : ∃ z, (((M ++ List.replicate (10 - k) 0).getD k 0).toNat : Nat) = z := ⟨_, rfl⟩
    rw [hz] at hc
    clear hlen hz
    by_cases h128 : 128 ≤ n
    · have k1 : decide ((128 : Int) ≤ (n : Int)) = true := decide_eq_true (by omega)
      obtain ⟨y, hy⟩ : ∃ y, UInt8.ofNat (n % 128 + 128) = y := ⟨_, rfl⟩
      have hyn : y.toNat = n % 128 + 128 := by rw [← hy, UInt8.toNat_ofNat']; omega
      have hv : bits .or .u8 ((n : Int) % 256) 128 = ((y.toNat : Nat) : Int) := by
        have h1 := or128 (n % 256) (by omega)
        have h2 : ((n : Int) % 256) = ((n % 256 : Nat) : Int) := by omega
        rw [h2, h1, hyn]
        congr 1
        omega
      obtain ⟨q, hq⟩ : ∃ q, n / 128 = q := ⟨_, rfl⟩
      have hq1 : (n : Int) / 128 = (q : Int) := by omega
      have HY := Lib.hid (And.intro hy (And.intro hyn (And.intro hq h128)))
      clear hy hyn hq
      have HNX := Lib.hid (LnAt.next HLN.out HY.out.2.2.2 y q HY.out.1 HY.out.2.2.1)
      go_wp2
      exact ⟨⟨q, k + 1, M ++ [y], rfl, rfl, HNX.out⟩, by have := HY.out.2.2; simp only [intOf]; omega⟩
    · have k1 : decide ((128 : Int) ≤ (n : Int)) = false := decide_eq_false (by omega)
      obtain ⟨y, hy⟩ : ∃ y, UInt8.ofNat n = y := ⟨_, rfl⟩
      have hyn : y.toNat = n := by rw [← hy, UInt8.toNat_ofNat']; omega
      have hv : (n : Int) % 256 = ((y.toNat : Nat) : Int) := by rw [hyn]; omega
      have HY := Lib.hid (And.intro hy (And.intro hyn h128))
      have HB := Lib.hid (HLN.out.blk.set k y)
      clear hy hyn
      have hsl : ∀ W, (Instr.sliceAt 162 (.pointer (some ⟨w.heap.size, 0, none⟩)) none (some (.int .i64 ((k : Int) + 1))) none).run Try.prog W = .ok (.slice (some ⟨w.heap.size, 0, none⟩) (k + 1) 10) W := fun W => slice10 _ _ _ (by omega)
      have hcv := LnAt.fin HLN.out HY.out.2.2 y HY.out.1
      rw [HY.out.2.1] at hcv
      have HBE := Lib.hid (HLN.out.bel.setCell (p := ⟨w.heap.size, k, none⟩) (Nat.le_refl _) (.int .u8 ((n : Nat) : Int)))
      clear hv
      go_wp2
      go_ret
      exact ⟨rfl, HBE.out⟩

end Go.Proofs.Ytlheedcnmfekoaa
