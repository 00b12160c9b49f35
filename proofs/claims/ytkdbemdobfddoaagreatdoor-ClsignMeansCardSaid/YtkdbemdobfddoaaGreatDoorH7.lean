/- The walk of package hash: Mac. -/
import Derived.Test.YtkdbemdobfddoaaGreatDoorBI
import Derived.Deep.DeepCutAuto
import Derived.Deep.CutBlock
namespace Go.Proofs.YtkdbemdobfddoaaGreatDoor
open Go.RowKit
set_option maxRecDepth 100000
set_option linter.unusedVariables false
set_option maxHeartbeats 2000000

def macS (key s : ByteArray) : ByteArray := ⟨(macL key.data.toList s.data.toList).toArray⟩
/-- A key of at most 64 bytes, with zeros behind it. -/
def padK (k : ByteArray) : List UInt8 := k.data.toList ++ List.replicate (64 - k.size) 0
def xorK (L : List UInt8) (x : UInt8) (i : Nat) : List UInt8 := (L.take i).map (· ^^^ x) ++ L.drop i
theorem padK_len (k : ByteArray) (h : k.size ≤ 64) : (padK k).length = 64 := by
  have hlen : k.data.toList.length = k.size := by rw [← Lib.size_eq]
  unfold padK
  rw [List.length_append, List.length_replicate, hlen]
  omega
theorem xorK_len (L : List UInt8) (x : UInt8) (i : Nat) : (xorK L x i).length = L.length := by
  unfold xorK
  rw [List.length_append, List.length_map, List.length_take, List.length_drop]
  omega
theorem xorK_at (L : List UInt8) (x : UInt8) (i : Nat) (h : i < L.length) : (xorK L x i).getD i 0 = L.getD i 0 := by
  unfold xorK
  rw [List.getD_eq_getElem?_getD, List.getD_eq_getElem?_getD, List.getElem?_append_right (by simp; omega), List.getElem?_drop]
  simp [Nat.min_eq_left (Nat.le_of_lt h)]
theorem xorK_zero (L : List UInt8) (x : UInt8) : xorK L x 0 = L := rfl
theorem xorK_step (L : List UInt8) (x : UInt8) (i : Nat) (h : i < L.length) : (xorK L x i).set i (L.getD i 0 ^^^ x) = xorK L x (i + 1) := by
  unfold xorK
  have hl : ((L.take i).map (· ^^^ x)).length = i := by simp; omega
  rw [List.set_append_right _ _ (by omega), hl, Nat.sub_self, List.drop_eq_getElem_cons h, List.set_cons_zero, List.take_succ_eq_append_getElem h, List.map_append, List.append_assoc, getD_lt h]
  rfl
theorem padK_at (k : ByteArray) (j : Nat) : (padK k).getD j 0 = k.data.toList.getD j 0 := by
  unfold padK
  rw [List.getD_eq_getElem?_getD, List.getD_eq_getElem?_getD]
  by_cases hk : j < k.data.toList.length
  · rw [List.getElem?_append_left hk]
  · rw [List.getElem?_append_right (by omega), List.getElem?_replicate, List.getElem?_eq_none (by omega : k.data.toList.length ≤ j)]
    split <;> rfl
theorem xorK_last (k : ByteArray) (x : UInt8) (h : k.size ≤ 64) : xorK (padK k) x 64 = (List.range 64).map fun i => k.data.toList.getD i 0 ^^^ x := by
  have hlen : k.data.toList.length = k.size := by rw [← Lib.size_eq]
  unfold xorK
  rw [List.drop_eq_nil_of_le (by rw [padK_len k h]; exact Nat.le_refl _), List.append_nil, List.take_of_length_le (by rw [padK_len k h]; exact Nat.le_refl _)]
  apply List.ext_getElem?
  intro j
  rw [List.getElem?_map, List.getElem?_map]
  by_cases hj : j < 64
  · rw [List.getElem?_range hj]
    have hj2 : j < (padK k).length := by rw [padK_len k h]; exact hj
    rw [List.getElem?_eq_getElem hj2]
    simp only [Option.map_some]
    rw [← getD_lt hj2, padK_at]
  · rw [List.getElem?_eq_none (by rw [padK_len k h]; omega), List.getElem?_eq_none (by simp; omega)]
    rfl
theorem u8_xor (a b : UInt8) : bits .xor .u8 (a.toNat : Int) (b.toNat : Int) = ((a ^^^ b).toNat : Int) := by
  have hx : ∀ a : UInt8, (BitVec.ofInt 8 (a.toNat : Int)).toNat = a.toNat := by
    intro a
    rw [BitVec.toNat_ofInt]
    have := byte_lt a
    omega
  show IntKind.u8.wrap ((BitVec.ofInt 8 (a.toNat : Int) ^^^ BitVec.ofInt 8 (b.toNat : Int)).toNat : Int) = _
  rw [BitVec.toNat_xor, hx, hx, UInt8.toNat_xor]
  have h2 : a.toNat ^^^ b.toNat < 2 ^ 8 := Nat.xor_lt_two_pow (byte_lt a) (byte_lt b)
  simp only [IntKind.wrap, IntKind.bits, IntKind.signed]
  simp
  omega
theorem macS_eq (key s K : ByteArray) (hK : K = if 64 < key.size then sumS key else key) (h : K.size ≤ 64) :
    macS key s = sumS (⟨(xorK (padK K) 92 64).toArray⟩ ++ sumS (⟨(xorK (padK K) 54 64).toArray⟩ ++ s)) := by
  have hl : key.data.toList.length = key.size := by rw [← Lib.size_eq]
  have e : (if 64 < key.data.toList.length then sumL key.data.toList else key.data.toList) = K.data.toList := by
    rw [hK, hl]
    split <;> rfl
  rw [xorK_last K 92 h, xorK_last K 54 h]
  unfold macS macL
  simp only [e]
  unfold sumS
  simp
theorem outBytes_len (s : List Nat) : (outBytes s).length = 4 * s.length := by
  unfold outBytes
  induction s with
  | nil => rfl
  | cons a s ih => rw [List.flatMap_cons, List.length_append, ih]; simp; omega
theorem blocksF_len : ∀ (k : Nat) (s : List Nat) (m : List UInt8), s.length = 8 → (blocksF k s m).length = 8 := by
  intro k
  induction k with
  | zero => intro s m h; exact h
  | succ k ih => intro s m h; exact ih _ _ (after_len _ _)
theorem sumS_size (s : ByteArray) : (sumS s).size = 32 := by
  show (sumL s.data.toList).toArray.size = 32
  rw [List.size_toArray]
  unfold sumL
  rw [outBytes_len, blocksF_len _ _ _ rfl]

theorem key_room (w : World) (K : ByteArray) (h : K.size ≤ 64) :
    Bk ((w.alloc (.cells (cellsOf (List.replicate 64 0)) 201)).alloc (.cells (cellsOf (List.replicate 64 0)) 201)) w.heap.size 201 (List.replicate K.size 0 ++ List.replicate (64 - K.size) 0) ∧
    Bk ((w.alloc (.cells (cellsOf (List.replicate 64 0)) 201)).alloc (.cells (cellsOf (List.replicate 64 0)) 201)) (w.heap.size + 1) 201 (List.replicate K.size 0 ++ List.replicate (64 - K.size) 0) := by
  rw [List.replicate_append_replicate, show K.size + (64 - K.size) = 64 by omega]
  refine ⟨(Bk.new w _ _).alloc _, ?_⟩
  have := Bk.new (w.alloc (.cells (cellsOf (List.replicate 64 0)) 201)) 201 (List.replicate 64 0)
  rw [World.size_alloc] at this
  exact this
theorem hash_Mac (key s : ByteArray) (w : World) (hk : key.size ≤ 100000) (hs : s.size ≤ 90000) :
    Calls Tryz.prog 217 #[.string key, .string s] w fun e w' => e = .returned (.string (macS key s)) ∧ Below w.heap.size w w' := by
  by_cases h64 : 64 < key.size
  · obtain ⟨K, hK⟩ : ∃ K, K = sumS key := ⟨_, rfl⟩
    have hKK : K = if 64 < key.size then sumS key else key := by rw [if_pos h64]; exact hK
    have hK64 : K.size ≤ 64 := by rw [hK, sumS_size]; decide
    have h65 : (64 : Int) < (key.size : Int) := by omega
    have KS := Lib.hid (fun wq => hash_Sum key wq hk)
    rw [← hK] at KS
    clear hK
    obtain ⟨I, hI⟩ : ∃ I : ByteArray, I = ⟨(xorK (padK K) 54 64).toArray⟩ := ⟨_, rfl⟩
    obtain ⟨O, hO⟩ : ∃ O : ByteArray, O = ⟨(xorK (padK K) 92 64).toArray⟩ := ⟨_, rfl⟩
    obtain ⟨M1, hM1⟩ : ∃ M, M = sumS (I ++ s) := ⟨_, rfl⟩
    obtain ⟨R, hR⟩ : ∃ R, R = sumS (O ++ M1) := ⟨_, rfl⟩
    have hres : R = macS key s := by rw [macS_eq key s K hKK hK64, ← hI, ← hO, ← hM1, ← hR]
    have sI : I.size = 64 := by rw [hI]; show (xorK (padK K) 54 64).toArray.size = 64; rw [List.size_toArray, xorK_len, padK_len _ hK64]
    have sO : O.size = 64 := by rw [hO]; show (xorK (padK K) 92 64).toArray.size = 64; rw [List.size_toArray, xorK_len, padK_len _ hK64]
    have sM : M1.size = 32 := by rw [hM1]; exact sumS_size _
    have KI := Lib.hid (fun wq => hash_Sum (I ++ s) wq (by rw [ByteArray.size_append]; omega))
    have KO := Lib.hid (fun wq => hash_Sum (O ++ M1) wq (by rw [ByteArray.size_append]; omega))
    rw [← hM1] at KI
    rw [← hR] at KO
    have HRES := Lib.hid hres
    have HI := Lib.hid hI
    have HO := Lib.hid hO
    have HK64 := Lib.hid hK64
    have HPL := Lib.hid (padK_len K hK64)
    clear hI hO hM1 hR hres hKK hK64
    go_enter Tryz.func217, Tryz.ntmps217
    go_wp2_with (first
      | (go_at_call 227; (with_reducible refine (KS.out _).mono ?_); rintro e w0 ⟨rfl, hb0⟩
         have HB0 := Lib.hid hb0
         clear hb0)
      | (refine wpList_copy_str rfl (.tmp 13) (.tmp 14) _ rfl w0.heap.size 64 64 201 (List.replicate K.size 0) (List.replicate (64 - K.size) 0) K rfl rfl HK64.out (key_room w0 K HK64.out).1 (by simp) ?_
         intro w1 hb1 hbel1 hfar1
         have HB1 := Lib.hid hb1
         have HC1 := Lib.hid ((hfar1 (w0.heap.size + 1) (by omega)).trans (key_room w0 K HK64.out).2)
         have HE1 := Lib.hid (hbel1 w0.heap.size w0 (Nat.le_refl _) (((Below.refl _ _).alloc (Nat.le_refl _) _).alloc (by simp) _))
         clear hb1 hbel1 hfar1)
      | (refine wpList_copy_str rfl (.tmp 16) (.tmp 17) _ rfl (w0.heap.size + 1) 64 64 201 (List.replicate K.size 0) (List.replicate (64 - K.size) 0) K rfl rfl HK64.out HC1.out (by simp) ?_
         intro w2 hb2 hbel2 hfar2
         have HB2 := Lib.hid ((hfar2 w0.heap.size (by omega)).trans HB1.out)
         have HC2 := Lib.hid hb2
         have HE2 := Lib.hid (hbel2 w0.heap.size w0 (by omega) HE1.out)
         clear hb2 hbel2 hfar2))
    go_loopw [19] (fun v wr => ∃ i : Nat, v = .int .i64 i ∧ i ≤ 64 ∧ Bk wr w0.heap.size 201 (xorK (padK K) 54 i) ∧ Bk wr (w0.heap.size + 1) 201 (xorK (padK K) 92 i) ∧ Below w0.heap.size w0 wr) (fun v _ => 64 - (intOf v).toNat)
    case atStart => exact ⟨0, rfl, by decide, HB2.out, HC2.out, HE2.out⟩
    case round =>
      clear HB2 HC2 HE2
      obtain ⟨i, rfl, hi, hbi, hbo, hbe⟩ := hrel
      have HBI := Lib.hid hbi
      have HBO := Lib.hid hbo
      have HE := Lib.hid hbe
      clear hbi hbo hbe
      by_cases hlt : i < 64
      · have hci := HBI.out.cell (k := i) (by rw [xorK_len, HPL.out]; exact hlt)
        have hco := HBO.out.cell (k := i) (by rw [xorK_len, HPL.out]; exact hlt)
        rw [xorK_at _ _ _ (by rw [HPL.out]; exact hlt)] at hci hco
        obtain ⟨b, hb⟩ : ∃ b, (padK K).getD i 0 = b := ⟨_, rfl⟩
        rw [hb] at hci hco
        obtain ⟨bi, hbi⟩ : ∃ x, x = b ^^^ 54 := ⟨_, rfl⟩
        obtain ⟨bo, hbo⟩ : ∃ x, x = b ^^^ 92 := ⟨_, rfl⟩
        have ei : bits .xor .u8 (b.toNat : Int) 54 = (bi.toNat : Int) := by rw [hbi]; exact u8_xor b 54
        have eo : bits .xor .u8 (b.toNat : Int) 92 = (bo.toNat : Int) := by rw [hbo]; exact u8_xor b 92
        have fi := HBI.out.free i
        have fo := HBO.out.free i
        have HSI := Lib.hid (show (xorK (padK K) 54 i).set i bi = xorK (padK K) 54 (i + 1) by rw [hbi, ← hb]; exact xorK_step _ _ _ (by rw [HPL.out]; exact hlt))
        have HSO := Lib.hid (show (xorK (padK K) 92 i).set i bo = xorK (padK K) 92 (i + 1) by rw [hbo, ← hb]; exact xorK_step _ _ _ (by rw [HPL.out]; exact hlt))
        have i0 : (0 : Int) ≤ (i : Int) := by omega
        have i1 : (i : Int) < 64 := by omega
        have HLT := Lib.hid hlt
        clear hb hbi hbo hlt hi
        go_wp2_with fail
        go_roundw
        case rel =>
          refine ⟨i + 1, rfl, HLT.out, ?_, ?_, ?_⟩
          · rw [← HSI.out]; exact (HBI.out.set i bi).far (by simp) _
          · rw [← HSO.out]; exact (HBO.out.far (by simp) _).set i bo
          · exact (HE.out.setCell (p := ⟨w0.heap.size, i, none⟩) (Nat.le_refl _) _).setCell (p := ⟨w0.heap.size + 1, i, none⟩) (Nat.le_succ _) _
        case measure => have := HLT.out; show 64 - ((i : Int) + 1).toNat < 64 - (i : Int).toNat; omega
      · obtain rfl : i = 64 := by omega
        have hcv (wq : World) (hI : Row wq w0.heap.size 0 (xorK (padK K) 54 64)) (hO : Row wq (w0.heap.size + 1) 0 (xorK (padK K) 92 64)) :
            (convert 119 9 (.slice (some ⟨w0.heap.size, 0, none⟩) 64 64)).run Tryz.prog wq = .ok (.string I) wq ∧ (convert 119 9 (.slice (some ⟨w0.heap.size + 1, 0, none⟩) 64 64)).run Tryz.prog wq = .ok (.string O) wq := by
          rw [HI.out, HO.out]
          exact ⟨conv_str hI 64 64 (by rw [xorK_len, HPL.out]), conv_str hO 64 64 (by rw [xorK_len, HPL.out])⟩
        have HCV := Lib.hid hcv
        obtain ⟨q1, q2⟩ := hcv wr.drew HBI.out.row HBO.out.row
        have HBID : Hid (Bk wr.drew w0.heap.size 201 (xorK (padK K) 54 64)) := Lib.hid HBI.out
        have HBOD : Hid (Bk wr.drew (w0.heap.size + 1) 201 (xorK (padK K) 92 64)) := Lib.hid HBO.out
        clear hcv hlt hi
        go_wp2_with fail
        go_region_with (first
          | (go_at_call 227; (with_reducible refine (KI.out _).mono ?_); rintro e w7 ⟨rfl, hb7⟩
             obtain ⟨q3, q4⟩ := HCV.out w7 (HBID.out.below hb7 HBID.out.lt).row (HBOD.out.below hb7 HBOD.out.lt).row
             have HE7 := Lib.hid (HE.out.drew.trans (hb7.mono HE.out.drew.size))
             clear hb7)
          | (go_at_call 227; (with_reducible refine (KO.out _).mono ?_); rintro e w8 ⟨rfl, hb8⟩
             have HE8 := Lib.hid (HE7.out.trans (hb8.mono HE7.out.size))
             clear hb8))
        all_goals
          go_wp2_with fail
          go_ret
          exact ⟨ret_string HRES.out, HB0.out.trans (HE8.out.mono HB0.out.size)⟩

  · have hKK : key = if 64 < key.size then sumS key else key := by rw [if_neg h64]
    have hK64 : key.size ≤ 64 := by omega
    have h65 : ¬ (64 : Int) < (key.size : Int) := by omega
    obtain ⟨I, hI⟩ : ∃ I : ByteArray, I = ⟨(xorK (padK key) 54 64).toArray⟩ := ⟨_, rfl⟩
    obtain ⟨O, hO⟩ : ∃ O : ByteArray, O = ⟨(xorK (padK key) 92 64).toArray⟩ := ⟨_, rfl⟩
    obtain ⟨M1, hM1⟩ : ∃ M, M = sumS (I ++ s) := ⟨_, rfl⟩
    obtain ⟨R, hR⟩ : ∃ R, R = sumS (O ++ M1) := ⟨_, rfl⟩
    have hres : R = macS key s := by rw [macS_eq key s key hKK hK64, ← hI, ← hO, ← hM1, ← hR]
    have sI : I.size = 64 := by rw [hI]; show (xorK (padK key) 54 64).toArray.size = 64; rw [List.size_toArray, xorK_len, padK_len _ hK64]
    have sO : O.size = 64 := by rw [hO]; show (xorK (padK key) 92 64).toArray.size = 64; rw [List.size_toArray, xorK_len, padK_len _ hK64]
    have sM : M1.size = 32 := by rw [hM1]; exact sumS_size _
    have KI := Lib.hid (fun wq => hash_Sum (I ++ s) wq (by rw [ByteArray.size_append]; omega))
    have KO := Lib.hid (fun wq => hash_Sum (O ++ M1) wq (by rw [ByteArray.size_append]; omega))
    rw [← hM1] at KI
    rw [← hR] at KO
    have HRES := Lib.hid hres
    have HI := Lib.hid hI
    have HO := Lib.hid hO
    have HK64 := Lib.hid hK64
    have HPL := Lib.hid (padK_len key hK64)
    clear hI hO hM1 hR hres hKK hK64
    go_enter Tryz.func217, Tryz.ntmps217
    go_wp2_with (first
      | fail
      | (refine wpList_copy_str rfl (.tmp 13) (.tmp 14) _ rfl w.heap.size 64 64 201 (List.replicate key.size 0) (List.replicate (64 - key.size) 0) key rfl rfl HK64.out (key_room w key HK64.out).1 (by simp) ?_
         intro w1 hb1 hbel1 hfar1
         have HB1 := Lib.hid hb1
         have HC1 := Lib.hid ((hfar1 (w.heap.size + 1) (by omega)).trans (key_room w key HK64.out).2)
         have HE1 := Lib.hid (hbel1 w.heap.size w (Nat.le_refl _) (((Below.refl _ _).alloc (Nat.le_refl _) _).alloc (by simp) _))
         clear hb1 hbel1 hfar1)
      | (refine wpList_copy_str rfl (.tmp 16) (.tmp 17) _ rfl (w.heap.size + 1) 64 64 201 (List.replicate key.size 0) (List.replicate (64 - key.size) 0) key rfl rfl HK64.out HC1.out (by simp) ?_
         intro w2 hb2 hbel2 hfar2
         have HB2 := Lib.hid ((hfar2 w.heap.size (by omega)).trans HB1.out)
         have HC2 := Lib.hid hb2
         have HE2 := Lib.hid (hbel2 w.heap.size w (by omega) HE1.out)
         clear hb2 hbel2 hfar2))
    go_loopw [19] (fun v wr => ∃ i : Nat, v = .int .i64 i ∧ i ≤ 64 ∧ Bk wr w.heap.size 201 (xorK (padK key) 54 i) ∧ Bk wr (w.heap.size + 1) 201 (xorK (padK key) 92 i) ∧ Below w.heap.size w wr) (fun v _ => 64 - (intOf v).toNat)
    case atStart => exact ⟨0, rfl, by decide, HB2.out, HC2.out, HE2.out⟩
    case round =>
      clear HB2 HC2 HE2
      obtain ⟨i, rfl, hi, hbi, hbo, hbe⟩ := hrel
      have HBI := Lib.hid hbi
      have HBO := Lib.hid hbo
      have HE := Lib.hid hbe
      clear hbi hbo hbe
      by_cases hlt : i < 64
      · have hci := HBI.out.cell (k := i) (by rw [xorK_len, HPL.out]; exact hlt)
        have hco := HBO.out.cell (k := i) (by rw [xorK_len, HPL.out]; exact hlt)
        rw [xorK_at _ _ _ (by rw [HPL.out]; exact hlt)] at hci hco
        obtain ⟨b, hb⟩ : ∃ b, (padK key).getD i 0 = b := ⟨_, rfl⟩
        rw [hb] at hci hco
        obtain ⟨bi, hbi⟩ : ∃ x, x = b ^^^ 54 := ⟨_, rfl⟩
        obtain ⟨bo, hbo⟩ : ∃ x, x = b ^^^ 92 := ⟨_, rfl⟩
        have ei : bits .xor .u8 (b.toNat : Int) 54 = (bi.toNat : Int) := by rw [hbi]; exact u8_xor b 54
        have eo : bits .xor .u8 (b.toNat : Int) 92 = (bo.toNat : Int) := by rw [hbo]; exact u8_xor b 92
        have fi := HBI.out.free i
        have fo := HBO.out.free i
        have HSI := Lib.hid (show (xorK (padK key) 54 i).set i bi = xorK (padK key) 54 (i + 1) by rw [hbi, ← hb]; exact xorK_step _ _ _ (by rw [HPL.out]; exact hlt))
        have HSO := Lib.hid (show (xorK (padK key) 92 i).set i bo = xorK (padK key) 92 (i + 1) by rw [hbo, ← hb]; exact xorK_step _ _ _ (by rw [HPL.out]; exact hlt))
        have i0 : (0 : Int) ≤ (i : Int) := by omega
        have i1 : (i : Int) < 64 := by omega
        have HLT := Lib.hid hlt
        clear hb hbi hbo hlt hi
        go_wp2_with fail
        go_roundw
        case rel =>
          refine ⟨i + 1, rfl, HLT.out, ?_, ?_, ?_⟩
          · rw [← HSI.out]; exact (HBI.out.set i bi).far (by simp) _
          · rw [← HSO.out]; exact (HBO.out.far (by simp) _).set i bo
          · exact (HE.out.setCell (p := ⟨w.heap.size, i, none⟩) (Nat.le_refl _) _).setCell (p := ⟨w.heap.size + 1, i, none⟩) (Nat.le_succ _) _
        case measure => have := HLT.out; show 64 - ((i : Int) + 1).toNat < 64 - (i : Int).toNat; omega
      · obtain rfl : i = 64 := by omega
        have hcv (wq : World) (hI : Row wq w.heap.size 0 (xorK (padK key) 54 64)) (hO : Row wq (w.heap.size + 1) 0 (xorK (padK key) 92 64)) :
            (convert 119 9 (.slice (some ⟨w.heap.size, 0, none⟩) 64 64)).run Tryz.prog wq = .ok (.string I) wq ∧ (convert 119 9 (.slice (some ⟨w.heap.size + 1, 0, none⟩) 64 64)).run Tryz.prog wq = .ok (.string O) wq := by
          rw [HI.out, HO.out]
          exact ⟨conv_str hI 64 64 (by rw [xorK_len, HPL.out]), conv_str hO 64 64 (by rw [xorK_len, HPL.out])⟩
        have HCV := Lib.hid hcv
        obtain ⟨q1, q2⟩ := hcv wr.drew HBI.out.row HBO.out.row
        have HBID : Hid (Bk wr.drew w.heap.size 201 (xorK (padK key) 54 64)) := Lib.hid HBI.out
        have HBOD : Hid (Bk wr.drew (w.heap.size + 1) 201 (xorK (padK key) 92 64)) := Lib.hid HBO.out
        clear hcv hlt hi
        go_wp2_with fail
        go_region_with (first
          | (go_at_call 227; (with_reducible refine (KI.out _).mono ?_); rintro e w7 ⟨rfl, hb7⟩
             obtain ⟨q3, q4⟩ := HCV.out w7 (HBID.out.below hb7 HBID.out.lt).row (HBOD.out.below hb7 HBOD.out.lt).row
             have HE7 := Lib.hid (HE.out.drew.trans (hb7.mono HE.out.drew.size))
             clear hb7)
          | (go_at_call 227; (with_reducible refine (KO.out _).mono ?_); rintro e w8 ⟨rfl, hb8⟩
             have HE8 := Lib.hid (HE7.out.trans (hb8.mono HE7.out.size))
             clear hb8))
        all_goals
          go_wp2_with fail
          go_ret
          exact ⟨ret_string HRES.out, HE8.out⟩


end Go.Proofs.YtkdbemdobfddoaaGreatDoor
