/- The walk of package hash: Sum. -/
import Derived.Test.YtfggpgiinihflaaDoorH5
import Derived.Test.YtfggpgiinihflaaDoorRd
namespace Go.Proofs.YtfggpgiinihflaaDoor
open Go.RowKit
set_option maxRecDepth 100000
set_option linter.unusedVariables false
set_option maxHeartbeats 2000000

def sumS (s : ByteArray) : ByteArray := ⟨(sumL s.data.toList).toArray⟩
/-- How many zeros the padding has. -/
def zerosOf (n : Nat) : Nat := (119 - n % 64) % 64
def padTo (s : List UInt8) (j : Nat) : List UInt8 := s ++ [128] ++ List.replicate j 0
def lenBytes (n i : Nat) : List UInt8 := (List.range i).map fun i => UInt8.ofNat (n * 8 / 256 ^ (7 - i))
theorem padTo_len (s : List UInt8) (j : Nat) : (padTo s j).length = s.length + 1 + j := by simp [padTo]; omega
theorem padTo_step (s : List UInt8) (j : Nat) : padTo s j ++ [0] = padTo s (j + 1) := by
  unfold padTo
  rw [List.append_assoc, ← List.replicate_succ']
theorem lenBytes_step (n i : Nat) : lenBytes n i ++ [UInt8.ofNat (n * 8 / 256 ^ (7 - i))] = lenBytes n (i + 1) := by
  unfold lenBytes
  rw [List.range_succ, List.map_append]
  rfl
theorem lenBytes_len (n i : Nat) : (lenBytes n i).length = i := by simp [lenBytes]
theorem padded_eq (s : List UInt8) : padded s = padTo s (zerosOf s.length) ++ lenBytes s.length 8 := rfl
theorem row_one (w : World) (b : UInt8) (z : Int) (hz : z = (b.toNat : Int)) (T : TypeId) : Row (w.alloc (.cells #[.int .u8 z] T)) w.heap.size 0 [b] := by
  subst hz
  exact (Bk.new w T [b]).row
theorem row_four (w : World) (a b c d : UInt8) (T : TypeId) : Row (w.alloc (.cells #[.int .u8 a.toNat, .int .u8 b.toNat, .int .u8 c.toNat, .int .u8 d.toNat] T)) w.heap.size 0 [a, b, c, d] := (Bk.new w T [a, b, c, d]).row
theorem after_lt (S : List Nat) (L : List UInt8) : ∀ x ∈ after S L, x < 4294967296 := by
  intro x hx
  unfold after at hx
  obtain ⟨i, _, rfl⟩ := List.mem_map.mp hx
  exact add32_lt _ _
theorem OwnB.alloc {w : World} {base : Nat} {v : Value} {n : Nat} {L : List UInt8} (h : OwnB w base v n L) (hb : base ≤ w.heap.size) (o : Obj) : OwnB (w.alloc o) base v n L := by
  refine ⟨h.1, h.2.1, ?_⟩
  rcases h.2.2 with hn | ⟨g, cap, cur, rfl, h1, hg, rest⟩
  · exact .inl hn
  · exact .inr ⟨g, cap, cur, rfl, h1, (Below.heap_alloc w o g (Array.getElem?_eq_some_iff.1 hg).1).trans hg, rest⟩
theorem conv_str {w : World} {g o : Nat} {L : List UInt8} (h : Row w g o L) (n c : Nat) (hn : L.length = n) :
    (convert 70 9 (.slice (some ⟨g, o, none⟩) n c)).run Tryd.prog w = .ok (.string ⟨L.toArray⟩) w := by
  subst hn
  exact run_convert_bytes_back w 70 9 5 ⟨g, o, none⟩ c L Tryd.underlying70 Tryd.underlying5 Tryd.underlying9 (fun j hj => by
    have := h j hj
    rw [getD_lt hj] at this
    rw [addr_add]; exact this)
theorem outBytes_step (V : List Nat) (k : Nat) (h : k < V.length) : outBytes (V.take k) ++ [UInt8.ofNat (V.getD k 0 / 16777216), UInt8.ofNat (V.getD k 0 / 65536), UInt8.ofNat (V.getD k 0 / 256), UInt8.ofNat (V.getD k 0)] = outBytes (V.take (k + 1)) := by
  have e : V.getD k 0 = V[k] := by simp [List.getD, h]
  rw [List.take_succ_eq_append_getElem h, e]
  unfold outBytes
  rw [List.flatMap_append]
  rfl
theorem idx_state (a b c d e f g h : Nat) (w : World) : ∀ k, k < 8 → (Instr.index 115 (.agg (u32Cells [a, b, c, d, e, f, g, h])) (.int .i64 (k : Nat))).run Tryd.prog w = .ok (.int .u32 ([a, b, c, d, e, f, g, h].getD k 0 : Nat)) w
  | 0, _ => by kernel_rfl
  | 1, _ => by kernel_rfl
  | 2, _ => by kernel_rfl
  | 3, _ => by kernel_rfl
  | 4, _ => by kernel_rfl
  | 5, _ => by kernel_rfl
  | 6, _ => by kernel_rfl
  | 7, _ => by kernel_rfl
  | n + 8, h => absurd h (by omega)
theorem hash_Sum (s : ByteArray) (w : World) (hs : s.size ≤ 100000) :
    Calls Tryd.prog 81 #[.string s] w fun e w' => e = .returned (.string (sumS s)) ∧ Below w.heap.size w w' := by
  have hlen : s.data.toList.length = s.size := by rw [← Lib.size_eq]
  have HL := Lib.hid hlen
  obtain ⟨C, hC⟩ : ∃ C, C = s.size + 72 := ⟨_, rfl⟩
  have hmk := make_bytes_cap s.size C (by omega) (by omega)
  rw [show ((C : Nat) : Int) = (s.size : Int) + 72 by omega] at hmk
  have hB0 : Bk (w.alloc (.cells (cellsOf (List.replicate C 0)) 5)) w.heap.size 5 (List.replicate s.size 0 ++ List.replicate 72 0) := by
    rw [List.replicate_append_replicate, ← hC]
    exact Bk.new _ _ _
  have HB0 := Lib.hid hB0
  have HC := Lib.hid hC
  clear hC hB0 hlen
  obtain ⟨CZ, hCZ⟩ : ∃ x, x = u32Cells state0 := ⟨_, rfl⟩
  have KF := Lib.hid (fun w => hash_first w)
  rw [← hCZ] at KF
  have HCZ := Lib.hid hCZ
  have nZ := Lib.hid (show CZ.size = 8 by rw [hCZ]; rfl)
  have oZ := Lib.hid (show CZ.all (·.oneCell') = true by rw [hCZ]; exact u32Cells_one _)
  clear hCZ
  go_enter Tryd.func81, Tryd.ntmps81
  go_wp2_with (first
    | (refine wpList_copy_str rfl (.tmp 16) (.tmp 17) _ rfl w.heap.size s.size C 5 (List.replicate s.size 0) (List.replicate 72 0) s rfl rfl (Nat.le_refl _) HB0.out (by simp) ?_
       intro w1 hb1 hbel1 _
       have HM1 : Hid (Mb w1 w.heap.size C s.data.toList) := Lib.hid ⟨by rw [HL.out, HC.out]; omega, by rw [HL.out, show C - s.size = 72 from by rw [HC.out]; omega]; exact hb1⟩
       have HE1 := Lib.hid (hbel1 w.heap.size w (Nat.le_refl _) ((Below.refl _ _).alloc (Nat.le_refl _) _))
       clear hb1 hbel1)
    | (at_builtin; refine wpList_append_mb rfl (.tmp 19) (.tmp 20) rfl w.heap.size s.size C s.data.toList rfl (HM1.out.alloc _) HL.out _ 0 1 1 [128] rfl (row_one _ 128 128 rfl _) rfl (by rw [HC.out]; omega) ?_
       intro w2 hm2 hb2
       have HM2 : Hid (Mb w2 w.heap.size C (padTo s.data.toList 0)) := Lib.hid (by unfold padTo; rw [List.replicate_zero, List.append_nil]; exact hm2)
       have HE2 := Lib.hid (hb2 w.heap.size w (Nat.le_refl _) (HE1.out.alloc (by have := HM1.out.lt; omega) _))
       clear hm2 hb2))
  have HZ := Lib.hid (show zerosOf s.size < 64 ∧ (s.size + 1 + zerosOf s.size) % 64 = 56 ∧ ∀ j, j < zerosOf s.size → (s.size + 1 + j) % 64 ≠ 56 by unfold zerosOf; refine ⟨?_, ?_, ?_⟩ <;> intros <;> omega)
  obtain ⟨Z, hZ⟩ : ∃ Z, Z = zerosOf s.size := ⟨_, rfl⟩
  rw [← hZ] at HZ
  have HZE := Lib.hid hZ
  clear hZ HM1 HE1 HB0 hmk
  go_loopw [3] (fun v wr => ∃ m j : Nat, v = .slice (some ⟨w.heap.size, 0, none⟩) m C ∧ m = s.size + 1 + j ∧ j ≤ Z ∧ Mb wr w.heap.size C (padTo s.data.toList j) ∧ Below w.heap.size w wr) (fun v _ => s.size + 1 + Z - sliceLen v)
  case atStart => exact ⟨s.size + 1, 0, rfl, rfl, Nat.zero_le _, HM2.out, HE2.out⟩
  case round =>
    clear HM2 HE2
    obtain ⟨m, j, rfl, hm, hj, hmb, hbe⟩ := hrel
    have HM := Lib.hid hmb
    have HE := Lib.hid hbe
    have HMJ := Lib.hid hm
    have HLM := Lib.hid (show (padTo s.data.toList j).length = m by rw [padTo_len, HL.out, hm])
    have hm1 : m ≤ 100064 := by have := HZ.out.1; omega
    clear hmb hbe
    by_cases hlt : j < Z
    · have hq : m % 64 ≠ 56 := by rw [hm]; exact HZ.out.2.2 j hlt
      have q1 : ((m : Int) % 64 == 56) = false := by rw [beq_eq_false_iff_ne]; omega
      have q2 : (Int.tmod (m : Int) 64 == 56) = false := by rw [Int.tmod_eq_emod_of_nonneg (by omega)]; exact q1
      have HJ := Lib.hid hlt
      have HRM := Lib.hid (show m + 1 ≤ C by have := HZ.out.1; have := HC.out; omega)
      clear hm hlt hj hq
      go_wp2_with (at_builtin; refine wpList_append_mb rfl (.tmp 26) (.tmp 27) rfl w.heap.size m C (padTo s.data.toList j) rfl (HM.out.alloc _) HLM.out _ 0 1 1 [0] rfl (row_one _ 0 0 rfl _) rfl HRM.out ?_
                   intro w3 hm3 hb3
                   rw [padTo_step] at hm3
                   have HM3 := Lib.hid hm3
                   have HE3 := Lib.hid (hb3 w.heap.size w (Nat.le_refl _) (HE.out.alloc (Nat.le_of_lt HM.out.lt) _))
                   clear hm3 hb3)
      go_roundw
      case rel => exact ⟨m + 1, j + 1, rfl, by have := HMJ.out; omega, HJ.out, HM3.out, HE3.out⟩
      case measure => have := HMJ.out; have := HJ.out; simp only [sliceLen]; omega
    · have ej : j = Z := by omega
      subst ej
      have hq : m % 64 = 56 := by rw [hm]; exact HZ.out.2.1
      have q1 : ((m : Int) % 64 == 56) = true := by rw [beq_iff_eq]; omega
      have q2 : (Int.tmod (m : Int) 64 == 56) = true := by rw [Int.tmod_eq_emod_of_nonneg (by omega)]; exact q1
      clear hm hlt hj hq
      go_wp2_with fail
      rw [show (((m : Int) % 64) != 56) = false from by rw [bne, q1]; rfl]
      go_loopw [3, 5] (fun v3 v5 wr => ∃ (i m2 : Nat) (z : Int), v3 = .slice (some ⟨w.heap.size, 0, none⟩) m2 C ∧ v5 = .int .i64 z ∧ z = 56 - 8 * (i : Int) ∧ m2 = m + i ∧ i ≤ 8 ∧ Mb wr w.heap.size C (padTo s.data.toList j ++ lenBytes s.size i) ∧ Below w.heap.size w wr) (fun _ v _ => (intOf v + 8).toNat)
      case atStart => exact ⟨0, m, 56, rfl, rfl, rfl, rfl, by decide, by show Mb wr w.heap.size C (padTo s.data.toList j ++ []); rw [List.append_nil]; exact HM.out, HE.out⟩
      case round =>
        clear HM HE
        obtain ⟨i, m2, z, rfl, rfl, hz, hm2, hi, hmb, hbe⟩ := hrel
        have HM2 := Lib.hid hmb
        have HE2 := Lib.hid hbe
        have HMJ2 := Lib.hid hm2
        have HLM2 := Lib.hid (show (padTo s.data.toList j ++ lenBytes s.size i).length = m2 by rw [List.length_append, lenBytes_len, HLM.out, hm2])
        have HRM2 := Lib.hid (show i < 8 → m2 + 1 ≤ C by have := HZ.out.1; have := HC.out; have := HMJ.out; omega)
        have hm3 : m2 ≤ 100072 := by omega
        clear hmb hbe q1 q2
        have hcases : i = 0 ∨ i = 1 ∨ i = 2 ∨ i = 3 ∨ i = 4 ∨ i = 5 ∨ i = 6 ∨ i = 7 ∨ i = 8 := by omega
        rcases hcases with rfl | rfl | rfl | rfl | rfl | rfl | rfl | rfl | rfl
        · obtain rfl : z = 56 := by omega
          obtain ⟨b, hb⟩ : ∃ b, b = UInt8.ofNat (s.size * 8 / 256 ^ (7 - 0)) := ⟨_, rfl⟩
          have e : ((s.size : Int) * 8 / 72057594037927936) = (b.toNat : Int) := by rw [hb, UInt8.toNat_ofNat']; omega
          have HB := Lib.hid hb
          clear hb hz hi hm2
          go_wp2_with (at_builtin; refine wpList_append_mb rfl (.tmp 37) (.tmp 42) rfl w.heap.size m2 C (padTo s.data.toList j ++ lenBytes s.size 0) rfl (HM2.out.alloc _) HLM2.out _ 0 1 1 [b] rfl (row_one _ b _ rfl _) rfl (HRM2.out (by decide)) ?_
                       intro w3 hm3 hb3
                       rw [HB.out, List.append_assoc, lenBytes_step] at hm3
                       have HM3 := Lib.hid hm3
                       have HE3 := Lib.hid (hb3 w.heap.size w (Nat.le_refl _) (HE2.out.alloc (Nat.le_of_lt HM2.out.lt) _))
                       clear hm3 hb3)
          go_roundw
          case rel => exact ⟨1, m2 + 1, 48, rfl, rfl, rfl, by have := HMJ2.out; omega, by decide, HM3.out, HE3.out⟩
          case measure => simp [intOf]
        · obtain rfl : z = 48 := by omega
          obtain ⟨b, hb⟩ : ∃ b, b = UInt8.ofNat (s.size * 8 / 256 ^ (7 - 1)) := ⟨_, rfl⟩
          have e : ((s.size : Int) * 8 / 281474976710656) = (b.toNat : Int) := by rw [hb, UInt8.toNat_ofNat']; omega
          have HB := Lib.hid hb
          clear hb hz hi hm2
          go_wp2_with (at_builtin; refine wpList_append_mb rfl (.tmp 37) (.tmp 42) rfl w.heap.size m2 C (padTo s.data.toList j ++ lenBytes s.size 1) rfl (HM2.out.alloc _) HLM2.out _ 0 1 1 [b] rfl (row_one _ b _ rfl _) rfl (HRM2.out (by decide)) ?_
                       intro w3 hm3 hb3
                       rw [HB.out, List.append_assoc, lenBytes_step] at hm3
                       have HM3 := Lib.hid hm3
                       have HE3 := Lib.hid (hb3 w.heap.size w (Nat.le_refl _) (HE2.out.alloc (Nat.le_of_lt HM2.out.lt) _))
                       clear hm3 hb3)
          go_roundw
          case rel => exact ⟨2, m2 + 1, 40, rfl, rfl, rfl, by have := HMJ2.out; omega, by decide, HM3.out, HE3.out⟩
          case measure => simp [intOf]
        · obtain rfl : z = 40 := by omega
          obtain ⟨b, hb⟩ : ∃ b, b = UInt8.ofNat (s.size * 8 / 256 ^ (7 - 2)) := ⟨_, rfl⟩
          have e : ((s.size : Int) * 8 / 1099511627776) = (b.toNat : Int) := by rw [hb, UInt8.toNat_ofNat']; omega
          have HB := Lib.hid hb
          clear hb hz hi hm2
          go_wp2_with (at_builtin; refine wpList_append_mb rfl (.tmp 37) (.tmp 42) rfl w.heap.size m2 C (padTo s.data.toList j ++ lenBytes s.size 2) rfl (HM2.out.alloc _) HLM2.out _ 0 1 1 [b] rfl (row_one _ b _ rfl _) rfl (HRM2.out (by decide)) ?_
                       intro w3 hm3 hb3
                       rw [HB.out, List.append_assoc, lenBytes_step] at hm3
                       have HM3 := Lib.hid hm3
                       have HE3 := Lib.hid (hb3 w.heap.size w (Nat.le_refl _) (HE2.out.alloc (Nat.le_of_lt HM2.out.lt) _))
                       clear hm3 hb3)
          go_roundw
          case rel => exact ⟨3, m2 + 1, 32, rfl, rfl, rfl, by have := HMJ2.out; omega, by decide, HM3.out, HE3.out⟩
          case measure => simp [intOf]
        · obtain rfl : z = 32 := by omega
          obtain ⟨b, hb⟩ : ∃ b, b = UInt8.ofNat (s.size * 8 / 256 ^ (7 - 3)) := ⟨_, rfl⟩
          have e : ((s.size : Int) * 8 / 4294967296) = (b.toNat : Int) := by rw [hb, UInt8.toNat_ofNat']; omega
          have HB := Lib.hid hb
          clear hb hz hi hm2
          go_wp2_with (at_builtin; refine wpList_append_mb rfl (.tmp 37) (.tmp 42) rfl w.heap.size m2 C (padTo s.data.toList j ++ lenBytes s.size 3) rfl (HM2.out.alloc _) HLM2.out _ 0 1 1 [b] rfl (row_one _ b _ rfl _) rfl (HRM2.out (by decide)) ?_
                       intro w3 hm3 hb3
                       rw [HB.out, List.append_assoc, lenBytes_step] at hm3
                       have HM3 := Lib.hid hm3
                       have HE3 := Lib.hid (hb3 w.heap.size w (Nat.le_refl _) (HE2.out.alloc (Nat.le_of_lt HM2.out.lt) _))
                       clear hm3 hb3)
          go_roundw
          case rel => exact ⟨4, m2 + 1, 24, rfl, rfl, rfl, by have := HMJ2.out; omega, by decide, HM3.out, HE3.out⟩
          case measure => simp [intOf]
        · obtain rfl : z = 24 := by omega
          obtain ⟨b, hb⟩ : ∃ b, b = UInt8.ofNat (s.size * 8 / 256 ^ (7 - 4)) := ⟨_, rfl⟩
          have e : ((s.size : Int) * 8 / 16777216) = (b.toNat : Int) := by rw [hb, UInt8.toNat_ofNat']; omega
          have HB := Lib.hid hb
          clear hb hz hi hm2
          go_wp2_with (at_builtin; refine wpList_append_mb rfl (.tmp 37) (.tmp 42) rfl w.heap.size m2 C (padTo s.data.toList j ++ lenBytes s.size 4) rfl (HM2.out.alloc _) HLM2.out _ 0 1 1 [b] rfl (row_one _ b _ rfl _) rfl (HRM2.out (by decide)) ?_
                       intro w3 hm3 hb3
                       rw [HB.out, List.append_assoc, lenBytes_step] at hm3
                       have HM3 := Lib.hid hm3
                       have HE3 := Lib.hid (hb3 w.heap.size w (Nat.le_refl _) (HE2.out.alloc (Nat.le_of_lt HM2.out.lt) _))
                       clear hm3 hb3)
          go_roundw
          case rel => exact ⟨5, m2 + 1, 16, rfl, rfl, rfl, by have := HMJ2.out; omega, by decide, HM3.out, HE3.out⟩
          case measure => simp [intOf]
        · obtain rfl : z = 16 := by omega
          obtain ⟨b, hb⟩ : ∃ b, b = UInt8.ofNat (s.size * 8 / 256 ^ (7 - 5)) := ⟨_, rfl⟩
          have e : ((s.size : Int) * 8 / 65536) = (b.toNat : Int) := by rw [hb, UInt8.toNat_ofNat']; omega
          have HB := Lib.hid hb
          clear hb hz hi hm2
          go_wp2_with (at_builtin; refine wpList_append_mb rfl (.tmp 37) (.tmp 42) rfl w.heap.size m2 C (padTo s.data.toList j ++ lenBytes s.size 5) rfl (HM2.out.alloc _) HLM2.out _ 0 1 1 [b] rfl (row_one _ b _ rfl _) rfl (HRM2.out (by decide)) ?_
                       intro w3 hm3 hb3
                       rw [HB.out, List.append_assoc, lenBytes_step] at hm3
                       have HM3 := Lib.hid hm3
                       have HE3 := Lib.hid (hb3 w.heap.size w (Nat.le_refl _) (HE2.out.alloc (Nat.le_of_lt HM2.out.lt) _))
                       clear hm3 hb3)
          go_roundw
          case rel => exact ⟨6, m2 + 1, 8, rfl, rfl, rfl, by have := HMJ2.out; omega, by decide, HM3.out, HE3.out⟩
          case measure => simp [intOf]
        · obtain rfl : z = 8 := by omega
          obtain ⟨b, hb⟩ : ∃ b, b = UInt8.ofNat (s.size * 8 / 256 ^ (7 - 6)) := ⟨_, rfl⟩
          have e : ((s.size : Int) * 8 / 256 % 256) = (b.toNat : Int) := by rw [hb, UInt8.toNat_ofNat']; omega
          have HB := Lib.hid hb
          clear hb hz hi hm2
          go_wp2_with (at_builtin; refine wpList_append_mb rfl (.tmp 37) (.tmp 42) rfl w.heap.size m2 C (padTo s.data.toList j ++ lenBytes s.size 6) rfl (HM2.out.alloc _) HLM2.out _ 0 1 1 [b] rfl (row_one _ b _ rfl _) rfl (HRM2.out (by decide)) ?_
                       intro w3 hm3 hb3
                       rw [HB.out, List.append_assoc, lenBytes_step] at hm3
                       have HM3 := Lib.hid hm3
                       have HE3 := Lib.hid (hb3 w.heap.size w (Nat.le_refl _) (HE2.out.alloc (Nat.le_of_lt HM2.out.lt) _))
                       clear hm3 hb3)
          go_roundw
          case rel => exact ⟨7, m2 + 1, 0, rfl, rfl, rfl, by have := HMJ2.out; omega, by decide, HM3.out, HE3.out⟩
          case measure => simp [intOf]
        · obtain rfl : z = 0 := by omega
          obtain ⟨b, hb⟩ : ∃ b, b = UInt8.ofNat (s.size * 8 / 256 ^ (7 - 7)) := ⟨_, rfl⟩
          have e : ((s.size : Int) * 8 % 256) = (b.toNat : Int) := by rw [hb, UInt8.toNat_ofNat', Nat.sub_self, Nat.pow_zero, Nat.div_one]; omega
          have HB := Lib.hid hb
          clear hb hz hi hm2
          go_wp2_with (at_builtin; refine wpList_append_mb rfl (.tmp 37) (.tmp 42) rfl w.heap.size m2 C (padTo s.data.toList j ++ lenBytes s.size 7) rfl (HM2.out.alloc _) HLM2.out _ 0 1 1 [b] rfl (row_one _ b _ rfl _) rfl (HRM2.out (by decide)) ?_
                       intro w3 hm3 hb3
                       rw [HB.out, List.append_assoc, lenBytes_step] at hm3
                       have HM3 := Lib.hid hm3
                       have HE3 := Lib.hid (hb3 w.heap.size w (Nat.le_refl _) (HE2.out.alloc (Nat.le_of_lt HM2.out.lt) _))
                       clear hm3 hb3)
          go_roundw
          case rel => exact ⟨8, m2 + 1, -8, rfl, rfl, rfl, by have := HMJ2.out; omega, by decide, HM3.out, HE3.out⟩
          case measure => simp [intOf]
        · obtain rfl : z = -8 := by omega
          clear hz hi hm2
          obtain ⟨P, hP⟩ : ∃ P, P = padded s.data.toList := ⟨_, rfl⟩
          have hmp : Mb wr w.heap.size C P := by
            rw [hP, padded_eq, HL.out, ← HZE.out]
            exact HM2.out
          have hpl : P.length = m2 := by rw [hP, padded_eq, HL.out, ← HZE.out, HLM2.out]
          have hnb : m2 % 64 = 0 ∧ m2 ≤ C := by
            have := HZ.out
            have := HMJ.out
            have := HMJ2.out
            have := HC.out
            omega
          have HP := Lib.hid hP
          have HPL := Lib.hid hpl
          have HNB := Lib.hid hnb
          have HCB := Lib.hid (show C ≤ 100072 by have := HC.out; omega)
          have HMP := Lib.hid hmp
          have HE3 := HE2
          clear hP hmp hpl hnb HM2 HMJ2 HLM2 HRM2 HE2 HLM HMJ HZ HZE
          go_wp2_with (first
            | (go_at_call 85; (with_reducible refine (KF.out _).mono ?_); rintro e w4 ⟨rfl, hb4⟩
               have HG4 := Lib.hid (Nat.lt_of_lt_of_le HMP.out.lt hb4.size)
               have HM4 := Lib.hid (HMP.out.below hb4 HMP.out.lt)
               have HE4 := Lib.hid (HE3.out.trans (hb4.mono HE3.out.size))
               have hz4 := C32.new w4 115 (List.replicate 8 0)
               have HZ4 := Lib.hid hz4
               have hx4 := hz4.setAll state0 rfl
               rw [← HCZ.out] at hx4
               have HX4 := Lib.hid hx4
               clear hb4 hz4 hx4)
            | (refine wpList_store_mid rfl 115 _ _ rfl w4.heap.size 0 CZ rfl rfl (by rw [nZ.out]; exact HZ4.out.there) (by rw [nZ.out]; rfl) oZ.out ?_))
          dsimp only [Act.put]
          go_loopw [3] (fun v3 wr => ∃ (i A r : Nat) (V : List Nat), v3 = .slice (some ⟨w.heap.size, A, none⟩) r (C - 64 * i) ∧ r + 64 * i = m2 ∧ (0 < r → A = 64 * i) ∧ V.length = 8 ∧ (∀ x ∈ V, x < 4294967296) ∧ blocksF (r / 64) V (P.drop (64 * i)) = blocksF (m2 / 64) state0 P ∧ C32 wr w4.heap.size 115 V ∧ Mb wr w.heap.size C P ∧ Below w.heap.size w wr) (fun v _ => sliceLen v)
          case atStart => exact ⟨0, 0, m2, state0, rfl, rfl, fun _ => rfl, rfl, by decide, rfl, HX4.out, (HM4.out.alloc _).cells (Nat.ne_of_lt HG4.out) _ _, Below.setCells (Nat.le_of_lt HG4.out) _ _ _ (HE4.out.alloc (Nat.le_of_lt HG4.out) _)⟩
          case round =>
            clear HX4 HZ4 HM4 HE4 HMP HE3
            obtain ⟨i, A, r, V, rfl, hr, hA, hV8, hVl, hbl, hx, hm, hbe⟩ := hrel
            have HR := Lib.hid hr
            have HBL := Lib.hid hbl
            have HX := Lib.hid hx
            have HM := Lib.hid hm
            have HE := Lib.hid hbe
            clear hr hbl hx hm hbe
            by_cases hlt : 0 < r
            · obtain rfl : A = 64 * i := hA hlt
              have h64 : 64 ≤ r := by have := HR.out; have := HNB.out; omega
              obtain ⟨cc, hcc⟩ : ∃ cc, cc = C - 64 * i := ⟨_, rfl⟩
              have hcc1 : r ≤ cc := by have := HR.out; have := HNB.out; omega
              have hcc2 : cc ≤ 1000000 := by have := HCB.out; omega
              have HVL := Lib.hid hVl
              obtain ⟨v0, v1, v2, v3, v4, v5, v6, v7, rfl⟩ := eight V hV8
              obtain ⟨Lb, hLb⟩ : ∃ Lb, Lb = (P.drop (64 * i)).take 64 := ⟨_, rfl⟩
              have hLl : Lb.length = 64 := by rw [hLb]; simp; have := HPL.out; have := HR.out; omega
              obtain ⟨a0, a1, a2, a3, a4, a5, a6, a7, hAf⟩ := eight (after [v0, v1, v2, v3, v4, v5, v6, v7] Lb) (after_len _ _)
              obtain ⟨o, ho⟩ : ∃ o, o = 64 * i := ⟨_, rfl⟩
              have KA := Lib.hid (fun wq h1 h2 => hash_after w.heap.size o cc v0 v1 v2 v3 v4 v5 v6 v7 Lb wq hLl (by omega) hcc2 h1 h2 HVL.out)
              have e9 : u32Cells (after [v0, v1, v2, v3, v4, v5, v6, v7] Lb) = #[.int .u32 a0, .int .u32 a1, .int .u32 a2, .int .u32 a3, .int .u32 a4, .int .u32 a5, .int .u32 a6, .int .u32 a7] := by rw [hAf]; rfl
              have e8 : u32Cells [v0, v1, v2, v3, v4, v5, v6, v7] = #[.int .u32 v0, .int .u32 v1, .int .u32 v2, .int .u32 v3, .int .u32 v4, .int .u32 v5, .int .u32 v6, .int .u32 v7] := rfl
              rw [e9, e8] at KA
              have HAF := Lib.hid hAf
              have HLB := Lib.hid hLb
              have HO := Lib.hid ho
              have HCC := Lib.hid hcc
              rw [← hcc, ← ho]
              have hrow : Row wr.drew w.heap.size o Lb := by
                have := (HM.out.row.drop (64 * i)).take 64
                rw [Nat.zero_add, ← hLb, ← ho] at this
                exact this
              have HRW := Lib.hid hrow
              have HXD : Hid (C32 wr.drew w4.heap.size 115 [v0, v1, v2, v3, v4, v5, v6, v7]) := Lib.hid HX.out
              have HMD : Hid (Mb wr.drew w.heap.size C P) := Lib.hid HM.out
              have HGT : Hid (w.heap.size < wr.drew.heap.size) := Lib.hid HM.out.lt
              have y0 : wr.cell? ⟨w4.heap.size, 0, none⟩ = some (.int .u32 (v0 : Nat)) := HX.out.cell (k := 0) (by simp)
              have y1 : wr.cell? ⟨w4.heap.size, 1, none⟩ = some (.int .u32 (v1 : Nat)) := HX.out.cell (k := 1) (by simp)
              have y2 : wr.cell? ⟨w4.heap.size, 2, none⟩ = some (.int .u32 (v2 : Nat)) := HX.out.cell (k := 2) (by simp)
              have y3 : wr.cell? ⟨w4.heap.size, 3, none⟩ = some (.int .u32 (v3 : Nat)) := HX.out.cell (k := 3) (by simp)
              have y4 : wr.cell? ⟨w4.heap.size, 4, none⟩ = some (.int .u32 (v4 : Nat)) := HX.out.cell (k := 4) (by simp)
              have y5 : wr.cell? ⟨w4.heap.size, 5, none⟩ = some (.int .u32 (v5 : Nat)) := HX.out.cell (k := 5) (by simp)
              have y6 : wr.cell? ⟨w4.heap.size, 6, none⟩ = some (.int .u32 (v6 : Nat)) := HX.out.cell (k := 6) (by simp)
              have y7 : wr.cell? ⟨w4.heap.size, 7, none⟩ = some (.int .u32 (v7 : Nat)) := HX.out.cell (k := 7) (by simp)
              have p0 : (0 : Int) < (r : Int) := by omega
              have p64 : 64 ≤ cc := by omega
              clear e9 e8 hAf hLb ho hcc hrow hA hlt hV8
              go_wp2_with fail
              go_region_with (first
                | (go_at_call 86; (with_reducible refine (KA.out _ HRW.out HGT.out).mono ?_); rintro e w6 ⟨rfl, hb6⟩
                   have HX6 := Lib.hid (HXD.out.below hb6 HXD.out.lt)
                   have HM6 := Lib.hid (HMD.out.below hb6 HGT.out)
                   have HE6 := Lib.hid (HE.out.drew.trans (hb6.mono (Nat.le_of_lt HGT.out)))
                   have z0 := HX6.out.cell (k := 0) (by simp)
                   have f0 := HX6.out.free 0
                   have z1 := HX6.out.cell (k := 1) (by simp)
                   have f1 := HX6.out.free 1
                   have z2 := HX6.out.cell (k := 2) (by simp)
                   have f2 := HX6.out.free 2
                   have z3 := HX6.out.cell (k := 3) (by simp)
                   have f3 := HX6.out.free 3
                   have z4 := HX6.out.cell (k := 4) (by simp)
                   have f4 := HX6.out.free 4
                   have z5 := HX6.out.cell (k := 5) (by simp)
                   have f5 := HX6.out.free 5
                   have z6 := HX6.out.cell (k := 6) (by simp)
                   have f6 := HX6.out.free 6
                   have z7 := HX6.out.cell (k := 7) (by simp)
                   have f7 := HX6.out.free 7
                   clear hb6))
              all_goals
                go_wp2_with fail
                go_roundw
                case rel =>
                  refine ⟨i + 1, if cc = 64 then o else o + 64, r - 64, [a0, a1, a2, a3, a4, a5, a6, a7], ?_, ?_, ?_, rfl, ?_, ?_, ?_, ?_, ?_⟩
                  · rw [show C - 64 * (i + 1) = cc - 64 by rw [HCC.out]; omega]
                    split <;> rfl
                  · have := HR.out; omega
                  · intro h; rw [if_neg (by omega), HO.out]; omega
                  · rw [← HAF.out]; exact after_lt _ _
                  · have h := HBL.out
                    rw [show r / 64 = (r - 64) / 64 + 1 by omega] at h
                    rw [← h]
                    show _ = blocksF ((r - 64) / 64) (after [v0, v1, v2, v3, v4, v5, v6, v7] ((P.drop (64 * i)).take 64)) ((P.drop (64 * i)).drop 64)
                    rw [← HLB.out, HAF.out, List.drop_drop, Nat.mul_add]
                  · exact (((((((HX6.out.set 0 a0).set 1 a1).set 2 a2).set 3 a3).set 4 a4).set 5 a5).set 6 a6).set 7 a7
                  · have ne := Nat.ne_of_lt HG4.out
                    exact (((((((HM6.out.far ne _).far ne _).far ne _).far ne _).far ne _).far ne _).far ne _).far ne _
                  · have le := Nat.le_of_lt HG4.out
                    exact (((((((HE6.out.setCell (p := ⟨_, 0, none⟩) le _).setCell (p := ⟨_, 1, none⟩) le _).setCell (p := ⟨_, 2, none⟩) le _).setCell (p := ⟨_, 3, none⟩) le _).setCell (p := ⟨_, 4, none⟩) le _).setCell (p := ⟨_, 5, none⟩) le _).setCell (p := ⟨_, 6, none⟩) le _).setCell (p := ⟨_, 7, none⟩) le _
                case measure => simp only [sliceLen]; omega
            · obtain rfl : r = 0 := by omega
              have HVL := Lib.hid hVl
              have hsum : outBytes V = sumL s.data.toList := by
                unfold sumL
                rw [← HP.out, HPL.out]
                have h := HBL.out
                rw [show 0 / 64 = 0 from rfl] at h
                rw [← h]
                rfl
              obtain ⟨v0, v1, v2, v3, v4, v5, v6, v7, rfl⟩ := eight V hV8
              have HSUM := Lib.hid hsum
              obtain ⟨CV, hCV⟩ : ∃ x, x = u32Cells [v0, v1, v2, v3, v4, v5, v6, v7] := ⟨_, rfl⟩
              have hxv : wr.heap[w4.heap.size]? = some (.cells CV 115 (0, 0)) := by rw [hCV]; exact HX.out
              have HXV := Lib.hid hxv
              have nV := Lib.hid (show CV.size = 8 by rw [hCV]; rfl)
              have HIX : Hid (∀ k, k < 8 → ∀ w, (Instr.index 115 (.agg CV) (.int .i64 (k : Nat))).run Tryd.prog w = .ok (.int .u32 ([v0, v1, v2, v3, v4, v5, v6, v7].getD k 0 : Nat)) w) := Lib.hid (by rw [hCV]; exact fun k hk w => idx_state v0 v1 v2 v3 v4 v5 v6 v7 w k hk)
              clear hsum hV8 hVl hlt hA hxv hCV
              go_wp2_with (first | (refine wpList_load_row rfl 115 _ rfl w4.heap.size rfl _ _ _ _ HXV.out Tryd.underlying115 rfl (by rw [nV.out]; rfl) ?_))
              go_loopw [7, 55] (fun u7 v55 wr => ∃ k : Nat, v55 = .int .i64 k ∧ k ≤ 8 ∧ OwnB wr w.heap.size u7 (4 * k) (outBytes (List.take k [v0, v1, v2, v3, v4, v5, v6, v7])) ∧ Below w.heap.size w wr) (fun _ v _ => 8 - (intOf v).toNat)
              case atStart => exact ⟨0, rfl, by decide, OwnB.nil_ _ _, HE.out⟩
              case round =>
                clear HX HM HE HBL HR HXV
                obtain ⟨k, rfl, hk, how, hbe⟩ := hrel
                have HOW := Lib.hid how
                have HEB := Lib.hid hbe
                have HES := Lib.hid hbe.size
                clear how hbe
                by_cases hlt : k < 8
                · have hix := HIX.out k hlt
                  obtain ⟨x, hx⟩ : ∃ x, [v0, v1, v2, v3, v4, v5, v6, v7].getD k 0 = x := ⟨_, rfl⟩
                  rw [hx] at hix
                  obtain ⟨b3, h3⟩ : ∃ b, b = UInt8.ofNat (x / 16777216) := ⟨_, rfl⟩
                  obtain ⟨b2, h2⟩ : ∃ b, b = UInt8.ofNat (x / 65536) := ⟨_, rfl⟩
                  obtain ⟨b1, h1⟩ : ∃ b, b = UInt8.ofNat (x / 256) := ⟨_, rfl⟩
                  obtain ⟨b0, h0⟩ : ∃ b, b = UInt8.ofNat x := ⟨_, rfl⟩
                  have e3 : ((x : Int) / 16777216 % 256) = (b3.toNat : Int) := by rw [h3, UInt8.toNat_ofNat']; omega
                  have e2 : ((x : Int) / 65536 % 256) = (b2.toNat : Int) := by rw [h2, UInt8.toNat_ofNat']; omega
                  have e1 : ((x : Int) / 256 % 256) = (b1.toNat : Int) := by rw [h1, UInt8.toNat_ofNat']; omega
                  have e0 : ((x : Int) % 256) = (b0.toNat : Int) := by rw [h0, UInt8.toNat_ofNat']; omega
                  have HBS := Lib.hid (show outBytes (List.take k [v0, v1, v2, v3, v4, v5, v6, v7]) ++ [b3, b2, b1, b0] = outBytes (List.take (k + 1) [v0, v1, v2, v3, v4, v5, v6, v7]) by
                    rw [h3, h2, h1, h0, ← hx]
                    exact outBytes_step _ k (by simpa using hlt))
                  have HLT := Lib.hid hlt
                  have p8 : (k : Int) < 8 := by omega
                  clear h3 h2 h1 h0 hx hlt hk
                  go_wp2_with (at_builtin; refine wpList_append_own rfl (.tmp 58) (.tmp 70) rfl w.heap.size u7 (4 * k) _ rfl (HOW.out.alloc HES.out _) _ 0 4 4 [b3, b2, b1, b0] rfl (row_four _ b3 b2 b1 b0 _) (by simp) rfl (by have := HLT.out; omega) (by have := HES.out; simp; omega) ?_
                               intro v9 w9 hown9 hb9
                               rw [HBS.out] at hown9
                               have HO9 := Lib.hid hown9
                               have HE9 := Lib.hid ((HEB.out.alloc HES.out _).trans hb9)
                               clear hown9 hb9)
                  go_roundw
                  case rel => exact ⟨k + 1, rfl, HLT.out, HO9.out, HE9.out⟩
                  case measure => have := HLT.out; show 8 - ((k : Int) + 1).toNat < 8 - (k : Int).toNat; omega
                · obtain rfl : k = 8 := by omega
                  rcases HOW.out.form HES.out with ⟨rfl, h0⟩ | ⟨g7, c7, rfl, hb7, hl7, hc7, hr7⟩
                  · cases h0
                  · have hcv := conv_str hr7 32 c7 HOW.out.1
                    have e7 : (⟨(outBytes (List.take 8 [v0, v1, v2, v3, v4, v5, v6, v7])).toArray⟩ : ByteArray) = sumS s := by unfold sumS; rw [← HSUM.out]; rfl
                    rw [e7] at hcv
                    clear e7 hr7 hb7 hl7
                    go_wp2_with fail
                    go_ret
                    exact ⟨rfl, HEB.out⟩

end Go.Proofs.YtfggpgiinihflaaDoor
