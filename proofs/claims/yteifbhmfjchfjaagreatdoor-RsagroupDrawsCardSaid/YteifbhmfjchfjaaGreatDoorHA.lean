/- The walks of the reference's package 05 (SHA-256): right, constants, padded. -/
import Derived.Test.YteifbhmfjchfjaaGreatDoorBI
namespace Go.Proofs.YteifbhmfjchfjaaGreatDoor
open Go.RowKit
set_option maxRecDepth 100000
set_option linter.unusedVariables false
set_option maxHeartbeats 2000000

theorem rot_bits (x n : Nat) (hx : x < 4294967296) : bits .or .u32 ((x : Int) / 2 ^ n) ((x : Int) * 2 ^ (32 - n) % 4294967296) = ((rotr x n : Nat) : Int) := by
  have e1 : (x : Int) / 2 ^ n = ((x / 2 ^ n : Nat) : Int) := by rw [Int.natCast_ediv]; simp
  have e2 : (x : Int) * 2 ^ (32 - n) % 4294967296 = ((x * 2 ^ (32 - n) % 4294967296 : Nat) : Int) := by rw [Int.natCast_emod, Int.natCast_mul]; simp
  rw [e1, e2, u32_or_nat _ _ (Nat.lt_of_le_of_lt (Nat.div_le_self _ _) hx) (Nat.mod_lt _ (by decide))]
  rfl
theorem r05_right (x n : Nat) (w : World) (hx : x < 4294967296) (h1 : 1 ≤ n) (h2 : n < 32) :
    Calls Tryz.prog 307 #[.int .u32 x, .int .i64 n] w fun e w' => e = .returned (.int .u32 (rotr x n : Nat)) ∧ Below w.heap.size w w' := by
  have p1 : (0 : Int) ≤ (n : Int) := by omega
  have p2 : (0 : Int) ≤ 32 - (n : Int) := by omega
  have p3 : wrap64 (32 - (n : Int)) = 32 - (n : Int) := IntWalk.wrap64_in _ (by omega)
  have HV := Lib.hid (rot_bits x n hx)
  clear hx h1 h2
  go_enter Tryz.func307, Tryz.ntmps307
  go_wp2_with fail
  go_quiet (fail)
  go_wp2_with fail
  go_ret
  exact ⟨ret_int HV.out, below_drewN (Below.refl _ _) _⟩
theorem r05_rightL (x n : Nat) (z : Int) (w : World) (hz : z = n) (hx : x < 4294967296) (h1 : 1 ≤ n) (h2 : n < 32) :
    Calls Tryz.prog 307 #[.int .u32 x, .int .i64 z] w fun e w' => e = .returned (.int .u32 (rotr x n : Nat)) ∧ Below w.heap.size w w' := by
  subst hz
  exact r05_right x n w hx h1 h2
theorem r05_constants (w : World) :
    Calls Tryz.prog 306 #[] w fun e w' => (∃ g, e = .returned (.slice (some ⟨g, 0, none⟩) 64 64) ∧ C32 w' g 257 consts ∧ w.heap.size ≤ g) ∧ Below w.heap.size w w' := by
  go_enter Tryz.func306, Tryz.ntmps306
  go_wp2_with fail
  go_ret
  exact ⟨⟨w.heap.size, rfl, heap_alloc_new w _, Nat.le_refl _⟩, (Below.refl _ _).alloc (Nat.le_refl _) _⟩

/-- The eight bytes of the length while they are laid from the last one on: those from k on stand. -/
def fillB (n k : Nat) : List UInt8 := List.replicate k 0 ++ (lenBytes n 8).drop k
theorem fillB_zero (n : Nat) : fillB n 0 = lenBytes n 8 := rfl
theorem fillB_eight (n : Nat) : fillB n 8 = List.replicate 8 0 := by
  unfold fillB
  rw [List.drop_of_length_le (by rw [lenBytes_len]; exact Nat.le_refl _), List.append_nil]
theorem fillB_len (n k : Nat) (h : k ≤ 8) : (fillB n k).length = 8 := by
  unfold fillB
  rw [List.length_append, List.length_replicate, List.length_drop, lenBytes_len]
  omega
theorem fillB_step (n m : Nat) (h : m < 8) : (fillB n (m + 1)).set m (UInt8.ofNat (n * 8 / 256 ^ (8 - (m + 1)))) = fillB n m := by
  unfold fillB
  have hd : (lenBytes n 8).drop m = UInt8.ofNat (n * 8 / 256 ^ (8 - (m + 1))) :: (lenBytes n 8).drop (m + 1) := by
    rw [List.drop_eq_getElem_cons (by rw [lenBytes_len]; exact h)]
    congr 1
    unfold lenBytes
    rw [List.getElem_map, List.getElem_range, show 7 - m = 8 - (m + 1) by omega]
  rw [hd, List.replicate_succ', List.append_assoc, List.set_append_right _ _ (by simp), List.length_replicate, Nat.sub_self]
  rfl
theorem data_app (a b : ByteArray) : (a ++ b).data.toList = a.data.toList ++ b.data.toList := by simp
theorem size_list (s : ByteArray) : s.data.toList.length = s.size := by rw [← Lib.size_eq]
theorem of_list {s : ByteArray} {L : List UInt8} (h : s.data.toList = L) : s = ⟨L.toArray⟩ := by
  subst h
  cases s
  simp
def strLen : Value → Nat | .string t => t.size | _ => 0
theorem r05_padded (s : ByteArray) (w : World) (hs : s.size ≤ 200000) :
    Calls Tryz.prog 298 #[.string s] w fun e w' => e = .returned (.string ⟨(padded s.data.toList).toArray⟩) ∧ Below w.heap.size w w' := by
  have hmk : ∀ w : World, (Instr.makeSlice 177 (.int .i64 8) (.int .i64 8)).run Tryz.prog w = .ok (.slice (some ⟨w.heap.size, 0, none⟩) 8 8) (w.alloc (.cells (cellsOf (List.replicate 8 0)) 5)) := fun w => make_bytes 8 (by decide) w
  have hn1 : (s.size : Int) * 8 % 18446744073709551616 = ((s.size * 8 : Nat) : Int) := by omega
  have HS := Lib.hid hs
  have HZ := Lib.hid (show zerosOf s.size < 64 ∧ (s.size + 1 + zerosOf s.size) % 64 = 56 ∧ ∀ j, j < zerosOf s.size → (s.size + 1 + j) % 64 ≠ 56 by unfold zerosOf; refine ⟨?_, ?_, ?_⟩ <;> intros <;> omega)
  obtain ⟨Z, hZ⟩ : ∃ Z, Z = zerosOf s.size := ⟨_, rfl⟩
  rw [← hZ] at HZ
  have HZE := Lib.hid hZ
  clear hZ
  have hsz : (s ++ ⟨#[128]⟩ : ByteArray).size = s.size + 1 := by rw [ByteArray.size_append]; rfl
  go_enter Tryz.func298, Tryz.ntmps298
  go_wp2_with fail
  have HT0 := Lib.hid (show (s ++ ⟨#[128]⟩ : ByteArray).data.toList = padTo s.data.toList 0 by rw [data_app]; unfold padTo; rw [List.replicate_zero, List.append_nil])
  clear hsz hs
  go_loop [0] (fun v => ∃ (j : Nat) (t : ByteArray), v = .string t ∧ t.data.toList = padTo s.data.toList j ∧ j ≤ Z) (fun v => s.size + 1 + Z - strLen v)
  case atStart => exact ⟨0, _, rfl, HT0.out, Nat.zero_le _⟩
  case round =>
    clear HT0
    obtain ⟨j, t, rfl, ht, hj⟩ := hrel
    have htz : t.size = s.size + 1 + j := by rw [← size_list, ht, padTo_len, size_list]
    obtain ⟨m, hm⟩ : ∃ m, m = t.size := ⟨_, rfl⟩
    rw [← hm] at htz
    have htl : t.size ≤ 300000 := by have := HZ.out.1; have := HS.out; omega
    have HM := Lib.hid hm
    have HTZ := Lib.hid htz
    have HT := Lib.hid ht
    by_cases hlt : j < Z
    · have hq : m % 64 ≠ 56 := by rw [htz]; exact HZ.out.2.2 j hlt
      have q1 : ((t.size : Int) % 64 == 56) = false := by rw [beq_eq_false_iff_ne, ← hm]; omega
      have q2 : (Int.tmod (t.size : Int) 64 == 56) = false := by rw [Int.tmod_eq_emod_of_nonneg (by omega)]; exact q1
      have HJ := Lib.hid hlt
      clear ht htz hm hlt hj hq
      go_wp2_with fail
      go_round
      case rel => exact ⟨j + 1, t ++ ⟨#[0]⟩, rfl, by rw [data_app, HT.out, ← padTo_step], HJ.out⟩
      case measure =>
        have h1 := HM.out
        have h2 := HTZ.out
        have h3 := HJ.out
        have h4 : (t ++ ⟨#[0]⟩ : ByteArray).size = t.size + 1 := by rw [ByteArray.size_append]; rfl
        show s.size + 1 + Z - (t ++ ⟨#[0]⟩ : ByteArray).size < s.size + 1 + Z - t.size
        rw [h4]
        omega
    · have ej : j = Z := by omega
      subst ej
      have hq : m % 64 = 56 := by rw [htz]; exact HZ.out.2.1
      have q1 : ((t.size : Int) % 64 == 56) = true := by rw [beq_iff_eq, ← hm]; omega
      have q2 : (Int.tmod (t.size : Int) 64 == 56) = true := by rw [Int.tmod_eq_emod_of_nonneg (by omega)]; exact q1
      have hmk := hmk
      clear ht htz hm hlt hj hq
      go_wp2_with fail
      have hb0 : Bk (w.alloc (.cells (cellsOf [0, 0, 0, 0, 0, 0, 0, 0]) 5)) w.heap.size 5 (fillB s.size 8) := by
        rw [fillB_eight]
        exact Bk.new _ _ _
      have HB0 := Lib.hid hb0
      have HE0 := Lib.hid (show Below w.heap.size w (w.alloc (.cells (cellsOf [0, 0, 0, 0, 0, 0, 0, 0]) 5)) from (Below.refl _ _).alloc (Nat.le_refl _) _)
      clear hb0 hmk q1 q2
      go_loopw [5, 6] (fun v5 v6 wr => ∃ (k N : Nat) (z : Int), v5 = .int .u64 (N : Nat) ∧ v6 = .int .i64 z ∧ z = (k : Int) - 1 ∧ N = s.size * 8 / 256 ^ (8 - k) ∧ k ≤ 8 ∧ Bk wr w.heap.size 5 (fillB s.size k) ∧ Below w.heap.size w wr) (fun _ v _ => (intOf v + 1).toNat)
      case atStart => exact ⟨8, s.size * 8, 7, by rw [Int.natCast_mul]; rfl, rfl, rfl, by simp, by decide, HB0.out, HE0.out⟩
      case round =>
        clear HB0 HE0
        obtain ⟨k, N, z, rfl, rfl, hz, hN, hk, hbk, hbe⟩ := hrel
        have HBK := Lib.hid hbk
        have HBE := Lib.hid hbe
        clear hbe
        rcases k with _ | m
        · obtain rfl : z = -1 := by omega
          have hrow := hbk.row
          rw [fillB_zero] at hrow
          have hcv := conv_str hrow 8 8 (lenBytes_len _ _)
          have hls : (⟨(lenBytes s.size 8).toArray⟩ : ByteArray).size = 8 := by show (lenBytes s.size 8).toArray.size = 8; rw [List.size_toArray, lenBytes_len]
          have HR : Hid (t ++ ⟨(lenBytes s.size 8).toArray⟩ = (⟨(padded s.data.toList).toArray⟩ : ByteArray)) := Lib.hid (of_list (by
            rw [data_app, HT.out, padded_eq, size_list, HZE.out]))
          clear hbk hrow hz hN hk
          go_wp2_with fail
          go_ret
          exact ⟨ret_string HR.out, HBE.out⟩
        · obtain rfl : z = (m : Int) := by omega
          have cw := hbk.cell (k := m) (by rw [fillB_len _ _ hk]; omega)
          have fw := hbk.free m
          obtain ⟨b, hb⟩ : ∃ b, b = UInt8.ofNat N := ⟨_, rfl⟩
          have e1 : (N : Int) % 256 % 256 = (b.toNat : Int) := by rw [hb, UInt8.toNat_ofNat']; omega
          have e2 : (N : Int) % 256 = (b.toNat : Int) := by rw [hb, UInt8.toNat_ofNat']; omega
          have HST : Hid ((fillB s.size (m + 1)).set m b = fillB s.size m) := Lib.hid (by rw [hb, hN]; exact fillB_step s.size m (by omega))
          have HN2 : Hid (N / 256 = s.size * 8 / 256 ^ (8 - m)) := Lib.hid (by
            rw [hN, Nat.div_div_eq_div_mul, ← Nat.pow_succ, show (8 - (m + 1)).succ = 8 - m by omega])
          have HW : Hid (Value.int .u64 (IntKind.u64.wrap ((N : Int) / 256)) = .int .u64 ((N / 256 : Nat) : Int)) := Lib.hid (by
            have h1 : N ≤ s.size * 8 := by rw [hN]; exact Nat.div_le_self _ _
            have h2 := HS.out
            have h3 : IntKind.u64.wrap ((N : Int) / 256) = ((N / 256 : Nat) : Int) := by rw [IntKind.wrap_u64]; omega
            rw [h3])
          have HK := Lib.hid hk
          have m0 : (0 : Int) ≤ (m : Int) := by omega
          have m8 : (m : Int) < 8 := by omega
          clear hbk hb hN hk hz
          go_wp2_with fail
          refine ⟨⟨m, N / 256, (m : Int) - 1, HW.out, rfl, rfl, HN2.out, by have := HK.out; omega, ?_, ?_⟩, ?_⟩
          · rw [← HST.out]
            exact HBK.out.set m b
          · exact HBE.out.setCell (p := ⟨w.heap.size, m, none⟩) (Nat.le_refl _) _
          · show ((m : Int) - 1 + 1).toNat < ((m : Int) + 1).toNat
            omega

theorem byte_get (s : ByteArray) (n : Nat) (h : n < s.size) : s.data.toList.getD n 0 = s[n]'h := by
  rw [getD_lt (by rw [size_list]; exact h)]
  simp [ByteArray.getElem_eq_getElem_data]
theorem u32_info : (Tryz.prog.info? 257).map (fun i => (i.zero, i.size, i.bytes)) = some (some (.int .u32 0), 1, 4) := by kernel_rfl
theorem madeCells_u32 (n : Nat) : madeCells #[Value.int .u32 0] n = u32Cells (List.replicate n 0) := by
  apply Array.ext
  · simp [madeCells, u32Cells]
  · intro i h1 h2
    simp [madeCells, Nat.mod_one, u32Cells]
/-- 'make([]uint32, 64)'. -/
theorem make_u32 (w : World) : (Instr.makeSlice 226 (.int .i64 64) (.int .i64 64)).run Tryz.prog w =
    .ok (.slice (some ⟨w.heap.size, 0, none⟩) 64 64) (w.alloc (.cells (u32Cells (List.replicate 64 0)) 257)) := by
  rw [← madeCells_u32]
  exact run_make_row' 226 257 (.int .u32 0) 4 Tryz.underlying226 u32_info rfl .i64 .i64 64 (by omega) (by omega) w
/-- The part of a word that its first bytes are. -/
def partW (b : List UInt8) (i : Nat) : Nat → Nat
  | 0 => 0
  | k + 1 => partW b i k * 256 + (b.getD (4 * i + k) 0).toNat
theorem partW_four (b : List UInt8) (i : Nat) : partW b i 4 = wordAt b i := by
  unfold wordAt
  simp only [partW, Nat.add_zero]
  omega
theorem partW_lt (b : List UInt8) (i : Nat) : ∀ k, partW b i k < 256 ^ k := by
  intro k
  induction k with
  | zero => exact Nat.one_pos
  | succ k ih =>
    have := byte_lt (b.getD (4 * i + k) 0)
    simp only [partW, Nat.pow_succ]
    omega
/-- The words while the word number i is laid byte by byte. -/
def firstP (b : List UInt8) (i k : Nat) : List Nat := (List.range i).map (wordAt b) ++ partW b i k :: List.replicate (63 - i) 0
theorem firstP_zero (b : List UInt8) (i : Nat) (h : i < 64) : firstP b i 0 = firstW b i := by
  unfold firstP firstW
  rw [show 64 - i = 63 - i + 1 by omega, List.replicate_succ]
  rfl
theorem firstP_four (b : List UInt8) (i : Nat) (h : i < 64) : firstP b i 4 = firstW b (i + 1) := by
  unfold firstP firstW
  rw [partW_four, show 64 - (i + 1) = 63 - i by omega, List.range_succ, List.map_append, List.append_assoc]
  rfl
theorem firstP_len (b : List UInt8) (i k : Nat) (h : i < 64) : (firstP b i k).length = 64 := by
  unfold firstP
  simp
  omega
theorem firstP_at (b : List UInt8) (i k : Nat) : (firstP b i k).getD i 0 = partW b i k := by
  unfold firstP
  rw [List.getD_eq_getElem?_getD, List.getElem?_append_right (by simp)]
  simp
theorem firstP_set (b : List UInt8) (i k v : Nat) (hv : v = partW b i (k + 1)) : (firstP b i k).set i v = firstP b i (k + 1) := by
  unfold firstP
  rw [List.set_append_right _ _ (by simp), hv]
  simp
theorem r05_schedule (s : ByteArray) (w : World) (hs : s.size = 64) :
    Calls Tryz.prog 305 #[.string s] w fun e w' => (∃ g, e = .returned (.slice (some ⟨g, 0, none⟩) 64 64) ∧ C32 w' g 257 (sched s.data.toList) ∧ w.heap.size ≤ g) ∧ Below w.heap.size w w' := by
  have hmk := make_u32
  obtain ⟨CZ, hCZ⟩ : ∃ x, x = u32Cells (List.replicate 64 0) := ⟨_, rfl⟩
  rw [← hCZ] at hmk
  have HCZ := Lib.hid hCZ
  clear hCZ
  have HL := Lib.hid (show s.data.toList.length = 64 by rw [size_list, hs])
  go_enter Tryz.func305, Tryz.ntmps305
  go_wp2_with fail
  have HC0 : Hid (C32 (w.alloc (.cells CZ 257)) w.heap.size 257 (firstW s.data.toList 0)) := Lib.hid (by rw [HCZ.out]; exact C32.new w 257 (firstW s.data.toList 0))
  have HB0 := Lib.hid (show Below w.heap.size w (w.alloc (.cells CZ 257)) from (Below.refl _ _).alloc (Nat.le_refl _) _)
  clear hmk
  go_loopw [4] (fun v wr => ∃ i : Nat, v = .int .i64 i ∧ i ≤ 16 ∧ C32 wr w.heap.size 257 (firstW s.data.toList i) ∧ Below w.heap.size w wr) (fun v _ => 16 - (intOf v).toNat)
  case atStart => exact ⟨0, rfl, by decide, HC0.out, HB0.out⟩
  case round =>
    clear HC0 HB0
    obtain ⟨i, rfl, hi, hc, hb⟩ := hrel
    have HC := Lib.hid hc
    have HB := Lib.hid hb
    clear hc hb
    by_cases hlt : i < 16
    · have i1 : decide ((i : Int) < 16) = true := decide_eq_true (by omega)
      have HLT := Lib.hid hlt
      clear i1
      go_wp2_with fail
      have hz : C32 wr w.heap.size 257 (firstP s.data.toList i 0) := by rw [firstP_zero _ _ (by omega)]; exact HC.out
      have HZ := Lib.hid hz
      clear hz
      go_loopw [5] (fun v wq => ∃ k : Nat, v = .int .i64 k ∧ k ≤ 4 ∧ C32 wq w.heap.size 257 (firstP s.data.toList i k) ∧ Below w.heap.size w wq) (fun v _ => 4 - (intOf v).toNat)
      case atStart => exact ⟨0, rfl, by decide, HZ.out, HB.out⟩
      case round =>
        clear HZ HC HB
        obtain ⟨k, rfl, hk, hc, hb⟩ := hrel
        have HC := Lib.hid hc
        have HB := Lib.hid hb
        by_cases hlk : k < 4
        · have k1 : decide ((k : Int) < 4) = true := decide_eq_true (by omega)
          have cw := hc.cell (k := i) (by rw [firstP_len _ _ _ (by omega)]; omega)
          have fw := hc.free i
          rw [firstP_at] at cw
          obtain ⟨P, hP⟩ : ∃ P, P = partW s.data.toList i k := ⟨_, rfl⟩
          rw [← hP] at cw
          have HLK := Lib.hid hlk
          have n1 : (0 : Int) ≤ 4 * (i : Int) + (k : Int) := by omega
          have n2 : 4 * (i : Int) + (k : Int) < 64 := by omega
          have n3 : (i : Int) < 64 := by omega
          have w1 : IntKind.i64.wrap (4 * (i : Int)) = 4 * (i : Int) := IntWalk.i64_in _ (by omega)
          have w2 : IntKind.i64.wrap (4 * (i : Int) + (k : Int)) = 4 * (i : Int) + (k : Int) := IntWalk.i64_in _ (by omega)
          have n4 : (0 : Int) ≤ (i : Int) := by omega
          have HE : Hid (∀ h : 4 * i + k < s.size, ((P : Int) * 256 + ((s[4 * i + k]'h).toNat : Int)) % 4294967296 = ((partW s.data.toList i (k + 1) : Nat) : Int)) := Lib.hid (fun h => by
            have h1 := partW_lt s.data.toList i k
            rw [← hP] at h1
            have h2 := byte_lt (s[4 * i + k]'h)
            have h3 : (256 : Nat) ^ k ≤ 256 ^ 3 := Nat.pow_le_pow_right (by decide) (by omega)
            have h4 : partW s.data.toList i (k + 1) = P * 256 + (s[4 * i + k]'h).toNat := by
              simp only [partW, ← hP, byte_get s _ h]
            rw [h4]
            omega)
          have HQ : Hid (4 * i + k < s.size) := Lib.hid (by omega)
          clear hc hb hP
          go_wp2_with fail
          go_region
          all_goals
            go_wp2_with fail
            go_roundw
            case rel =>
              refine ⟨k + 1, by go_num, HLK.out, ?_, (HB.out.setCell (p := ⟨w.heap.size, i, none⟩) (Nat.le_refl _) _).drew⟩
              rw [HE.out HQ.out]
              have := HC.out.set i (partW s.data.toList i (k + 1))
              rw [firstP_set _ _ _ _ rfl] at this
              exact this
            case measure => have := HLK.out; show 4 - ((k : Int) + 1).toNat < 4 - (k : Int).toNat; omega
        · obtain rfl : k = 4 := by omega
          have k1 : decide (((4 : Nat) : Int) < 4) = false := rfl
          have hc2 := HC.out
          rw [firstP_four _ _ (by omega)] at hc2
          have HC2 := Lib.hid hc2
          clear hc hb hc2 HC
          go_wp2_with fail
          go_roundw
          case rel => exact ⟨i + 1, by go_num, HLT.out, HC2.out, HB.out⟩
          case measure => have := HLT.out; show 16 - ((i : Int) + 1).toNat < 16 - (i : Int).toNat; omega
    · obtain rfl : i = 16 := by omega
      clear hlt hi
      go_wp2_with fail
      rw [show ((16 : Nat) : Int) = 16 from rfl]
      have HC0 : Hid (C32 wr w.heap.size 257 (laterW s.data.toList 0)) := Lib.hid (by rw [← laterW_zero]; exact HC.out)
      clear HC
      go_loopw [6] (fun v wq => ∃ j : Nat, v = .int .i64 j ∧ 16 ≤ j ∧ j ≤ 64 ∧ C32 wq w.heap.size 257 (laterW s.data.toList (j - 16)) ∧ Below w.heap.size w wq) (fun v _ => 64 - (intOf v).toNat)
      case atStart => exact ⟨16, rfl, by decide, by decide, HC0.out, HB.out⟩
      case round =>
        clear HC0 HB
        obtain ⟨j, rfl, hj1, hj2, hci, hbei⟩ := hrel
        have HCI := Lib.hid hci
        have HBI := Lib.hid hbei
        clear hci hbei
        by_cases hlt : j < 64
        · obtain ⟨L, hLL⟩ : ∃ L, L = s.data.toList := ⟨_, rfl⟩
          rw [← hLL] at HCI
          have HLL := Lib.hid hLL
          clear hLL
          obtain ⟨i, hji⟩ : ∃ i, j = i + 16 := ⟨j - 16, by omega⟩
          obtain ⟨i1, h1⟩ : ∃ x, i + 1 = x := ⟨_, rfl⟩
          obtain ⟨i9, h9⟩ : ∃ x, i + 9 = x := ⟨_, rfl⟩
          obtain ⟨iE, hE⟩ : ∃ x, i + 14 = x := ⟨_, rfl⟩
          rw [show j - 16 = i from by omega] at HCI
          have c1 := HCI.out.cell (k := i1) (by rw [laterW_len L (by omega)]; omega)
          have cE := HCI.out.cell (k := iE) (by rw [laterW_len L (by omega)]; omega)
          have X0 := Lib.hid (laterW_lt L i i)
          have X1 := Lib.hid (laterW_lt L i i1)
          have X9 := Lib.hid (laterW_lt L i i9)
          have XE := Lib.hid (laterW_lt L i iE)
          obtain ⟨z, hz⟩ : ∃ x, (laterW L i).getD i 0 = x := ⟨_, rfl⟩
          obtain ⟨x, hx⟩ : ∃ x, (laterW L i).getD i1 0 = x := ⟨_, rfl⟩
          obtain ⟨u, hu⟩ : ∃ x, (laterW L i).getD i9 0 = x := ⟨_, rfl⟩
          obtain ⟨y, hy⟩ : ∃ x, (laterW L i).getD iE 0 = x := ⟨_, rfl⟩
          rw [hz] at X0
          rw [hx] at c1 X1
          rw [hu] at X9
          rw [hy] at cE XE
          have F0 : IntKind.i64.wrap ((j : Int) - 16) = (i : Int) := by rw [IntKind.wrap_i64]; omega
          have F1 : IntKind.i64.wrap ((j : Int) - 15) = (i1 : Int) := by rw [IntKind.wrap_i64]; omega
          have F9 : IntKind.i64.wrap ((j : Int) - 7) = (i9 : Int) := by rw [IntKind.wrap_i64]; omega
          have FE : IntKind.i64.wrap ((j : Int) - 2) = (iE : Int) := by rw [IntKind.wrap_i64]; omega
          have FJ : IntKind.i64.wrap ((j : Int) + 1) = (j : Int) + 1 := by rw [IntKind.wrap_i64]; omega
          have p0 : (0 : Int) ≤ (i : Int) := by omega
          have r0 : (i : Int) < 64 := by omega
          have p1 : (0 : Int) ≤ (i1 : Int) := by omega
          have r1 : (i1 : Int) < 64 := by omega
          have p9 : (0 : Int) ≤ (i9 : Int) := by omega
          have r9 : (i9 : Int) < 64 := by omega
          have pE : (0 : Int) ≤ (iE : Int) := by omega
          have rE : (iE : Int) < 64 := by omega
          have pJ : (0 : Int) ≤ (j : Int) := by omega
          have rJ : (j : Int) < 64 := by omega
          have HLEN := Lib.hid (laterW_len L (i := i) (by omega))
          have H1 := Lib.hid (And.intro h1 (And.intro h9 (And.intro hE hji)))
          have HV := Lib.hid (And.intro hz (And.intro hx (And.intro hu hy)))
          have HJ := Lib.hid (And.intro hj1 hlt)
          have K7 := Lib.hid (fun w => r05_rightL x 7 7 w rfl X1.out (by decide) (by decide))
          have K18 := Lib.hid (fun w => r05_rightL x 18 18 w rfl X1.out (by decide) (by decide))
          have K17 := Lib.hid (fun w => r05_rightL y 17 17 w rfl XE.out (by decide) (by decide))
          have K19 := Lib.hid (fun w => r05_rightL y 19 19 w rfl XE.out (by decide) (by decide))
          clear h1 h9 hE hji hz hx hu hy hj1 hj2 hlt hs
          have hgl := HCI.out.lt
          have HGL := Lib.hid hgl
          clear hgl
          go_wp2_with fail
          go_region_held3 (fun w' => w'.cell? ⟨w.heap.size, i1, none⟩ = some (.int .u32 x) ∧ w'.cell? ⟨w.heap.size, iE, none⟩ = some (.int .u32 y)) (first | go_keep) (first | fail)
          go_wp2_with (first
            | (go_at_call 307; (with_reducible refine (K7.out _).mono ?_); rintro e w5 ⟨rfl, hb5⟩; have HC5 := Lib.hid (C32.below (w := wr.drew) HCI.out hb5 HGL.out); have HB5 := Lib.hid (HBI.out.drew.trans (hb5.mono (Nat.le_of_lt HGL.out))); clear hb5)
            | (go_at_call 307; (with_reducible refine (K18.out _).mono ?_); rintro e w6 ⟨rfl, hb6⟩; have HC6 := Lib.hid (HC5.out.below hb6 HC5.out.lt); have HB6 := Lib.hid (HB5.out.trans (hb6.mono (Nat.le_of_lt HC5.out.lt))); clear hb6)
            | (go_at_call 307; (with_reducible refine (K17.out _).mono ?_); rintro e w7 ⟨rfl, hb7⟩; have HC7 := Lib.hid (HC6.out.below hb7 HC6.out.lt); have HB7 := Lib.hid (HB6.out.trans (hb7.mono (Nat.le_of_lt HC6.out.lt))); clear hb7)
            | (go_at_call 307; (with_reducible refine (K19.out _).mono ?_); rintro e w8 ⟨rfl, hb8⟩; have HC8 := Lib.hid (HC7.out.below hb8 HC7.out.lt); have HB8 := Lib.hid (HB7.out.trans (hb8.mono (Nat.le_of_lt HC7.out.lt))); clear hb8))
          have c0 := HC8.out.cell (k := i) (by have := H1.out; have := HJ.out; rw [HLEN.out]; omega)
          have c9 := HC8.out.cell (k := i9) (by have := H1.out; have := HJ.out; rw [HLEN.out]; omega)
          have cJ := HC8.out.cell (k := j) (by have := H1.out; have := HJ.out; rw [HLEN.out]; omega)
          have cX : ∃ v, w8.cell? ⟨w.heap.size, j, none⟩ = some v := ⟨_, cJ⟩
          have gJ := HC8.out.free j
          rw [HV.out.1] at c0
          rw [HV.out.2.2.1] at c9
          clear c1 cE
          have nj : j ≠ i := by have := H1.out; omega
          have nj9 : j ≠ i9 := by have := H1.out; omega
          clear HCI HC5 HC6 HC7 HB5 HB6 HB7 K7 K18 K17 K19
          go_region_held3 (fun w' => w'.cell? ⟨w.heap.size, i, none⟩ = some (.int .u32 z) ∧ w'.cell? ⟨w.heap.size, i9, none⟩ = some (.int .u32 u) ∧ (∃ v, w'.cell? ⟨w.heap.size, j, none⟩ = some v) ∧ w'.frozen? ⟨w.heap.size, j, none⟩ = false) (first | assumption | (go_split_ands; (repeat' apply And.intro) <;> first | assumption | (refine off_hop nj ?_; assumption) | (refine off_hop nj9 ?_; assumption) | (refine some_hop ?_; assumption) | (refine free_hop ?_; assumption)) | go_keep) (first | fail)
          all_goals
            go_wp2_with fail
            go_roundw
            case rel =>
              obtain ⟨h1, h9, hE, hji⟩ := H1.out
              obtain ⟨hz, hx, hu, hy⟩ := HV.out
              obtain ⟨hj1, hlt⟩ := HJ.out
              refine ⟨j + 1, by rfl, by omega, by omega, ?_, ?_⟩
              · rw [show j + 1 - 16 = i + 1 from by omega, ← HLL.out, ← laterW_step L i (by omega), h1, h9, hE, hz, hx, hu, hy, ← hji, sched_word z x u y X1.out XE.out]
                exact HC8.out.set j _
              · exact (HB8.out.setCell (p := ⟨w.heap.size, j, none⟩) (Nat.le_refl _) _).drew
            case measure => have := HJ.out; show 64 - ((j : Int) + 1).toNat < 64 - (j : Int).toNat; omega
        · obtain rfl : j = 64 := by omega
          have HC : Hid (C32 wr w.heap.size 257 (sched s.data.toList)) := Lib.hid (by rw [← laterW_last]; exact HCI.out)
          clear hlt hj1 hj2 HCI
          go_wp2_with fail
          go_ret
          exact ⟨⟨_, rfl, HC.out, Nat.le_refl _⟩, HBI.out⟩

end Go.Proofs.YteifbhmfjchfjaaGreatDoor
