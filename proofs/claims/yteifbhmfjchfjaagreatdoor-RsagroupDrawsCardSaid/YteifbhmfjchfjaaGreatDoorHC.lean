/- The walks of the reference's package 05 (SHA-256): Sum, xored, Mac. -/
import Derived.Test.YteifbhmfjchfjaaGreatDoorHB
import Derived.Test.YteifbhmfjchfjaaGreatDoorH7
namespace Go.Proofs.YteifbhmfjchfjaaGreatDoor
open Go.RowKit
set_option maxRecDepth 100000
set_option linter.unusedVariables false
set_option maxHeartbeats 4000000

theorem str_mid (s : ByteArray) (i n : Nat) (h : i + n ≤ s.size) : (s.extract i (i + n)).data.toList = (s.data.toList.drop i).take n := by
  rw [ByteArray.data_extract, Array.toList_extract]
  simp [List.extract_eq_take_drop]
theorem r05_Sum (s : ByteArray) (w : World) (hs : s.size ≤ 100000) :
    Calls Tryz.prog 282 #[.string s] w fun e w' => e = .returned (.string (sumS s)) ∧ Below w.heap.size w w' := by
  have KP := Lib.hid (fun w => r05_padded s w (by omega))
  obtain ⟨P, hP⟩ : ∃ P, P = padded s.data.toList := ⟨_, rfl⟩
  rw [← hP] at KP
  have hPl : P.length ≤ 100100 ∧ P.length % 64 = 0 := by
    rw [hP, padded_eq, List.length_append, padTo_len, lenBytes_len, size_list]
    unfold zerosOf
    omega
  obtain ⟨p, hp⟩ : ∃ p : ByteArray, p = ⟨P.toArray⟩ := ⟨_, rfl⟩
  rw [← hp] at KP
  have hpz : p.size = P.length := by rw [hp]; show P.toArray.size = _; simp
  have hpd : p.data.toList = P := by rw [hp]
  have HP := Lib.hid hP
  have HPD := Lib.hid hpd
  clear hP hp hpd hs
  go_enter Tryz.func282, Tryz.ntmps282
  go_wp2_with (go_at_call 298; (with_reducible refine (KP.out _).mono ?_); rintro e w2 ⟨rfl, hb2⟩
               have HC0 := Lib.hid ((C32.new w 257 state0).below hb2 (by simp))
               have HE0 := Lib.hid (((Below.refl w.heap.size w).alloc (Nat.le_refl _) (.cells (u32Cells state0) 257)).trans (hb2.mono (by simp)))
               clear hb2)
  obtain ⟨n, hn⟩ : ∃ n, n = p.size := ⟨_, rfl⟩
  have HN := Lib.hid hn
  have HNB := Lib.hid (show n ≤ 100100 ∧ n % 64 = 0 ∧ P.length = n by rw [hn, hpz]; exact ⟨hPl.1, hPl.2, rfl⟩)
  clear hpz hPl hn KP
  go_loopw [3, 5] (fun v3 v5 wr => ∃ (i g : Nat) (V : List Nat), v3 = .slice (some ⟨g, 0, none⟩) 8 8 ∧ v5 = .int .i64 ((64 * i : Nat) : Int) ∧ 64 * i ≤ n ∧ V.length = 8 ∧ (∀ x ∈ V, x < 4294967296) ∧ C32 wr g 257 V ∧ blocksF ((n - 64 * i) / 64) V (P.drop (64 * i)) = blocksF (n / 64) state0 P ∧ Below w.heap.size w wr) (fun _ v _ => n - (intOf v).toNat)
  case atStart => exact ⟨0, _, state0, rfl, rfl, Nat.zero_le _, rfl, by decide, HC0.out, rfl, HE0.out⟩
  case round =>
    clear HC0 HE0
    obtain ⟨i, g, V, rfl, rfl, hi, hV8, hVl, hc, hbl, hbe⟩ := hrel
    have HBL := Lib.hid hbl
    have HBE := Lib.hid hbe
    have hN := HN.out
    have hNB := HNB.out
    by_cases hlt : 64 * i < n
    · obtain ⟨o, ho⟩ : ∃ o, o = 64 * i := ⟨_, rfl⟩
      rw [← ho] at hbl hlt hi HBL ⊢
      have h64 : o + 64 ≤ n := by omega
      obtain ⟨b, hb⟩ : ∃ b, b = p.extract o (o + 64) := ⟨_, rfl⟩
      have hbs : b.size = 64 := by rw [hb, ByteArray.size_extract]; omega
      have hbd : b.data.toList = (P.drop o).take 64 := by rw [hb, str_mid p o 64 (by omega), HPD.out]
      have KC := fun wq (h : C32 wq g 257 V) => r05_compress g V b wq hbs h hV8 hVl
      rw [hbd] at KC
      have HB := Lib.hid hb
      have HBD := Lib.hid hbd
      have HO := Lib.hid ho
      have HC := Lib.hid hc
      have p1 : decide ((o : Int) < (p.size : Int)) = true := decide_eq_true (by omega)
      have p2 : (o : Int) + 64 ≤ (p.size : Int) := by omega
      have p4 : wrap64 ((o : Int) + 64) = (o : Int) + 64 := IntWalk.wrap64_in _ (by omega)
      rw [hb] at KC
      have KC := Lib.hid KC
      have p3 : (0 : Int) ≤ (o : Int) := by omega
      have HLT := Lib.hid h64
      clear hb hbs hbd hc hbl hbe ho hlt hi hN hNB
      go_wp2_with (go_at_call 299; (with_reducible refine (KC.out _ HC.out).mono ?_); rintro e w5 ⟨⟨g2, rfl, hc2, hg2⟩, hb5⟩; have HC2 := Lib.hid hc2; have HE2 := Lib.hid (HBE.out.trans (hb5.mono HBE.out.size)); clear hc2 hg2 hb5)
      have w1 : Value.int .i64 (wrap64 ((o : Int) + 64)) = .int .i64 ((64 * (i + 1) : Nat) : Int) := by rw [p4]; have := HO.out; congr 1; omega
      refine ⟨⟨i + 1, g2, _, rfl, w1, by have := HLT.out; have := HO.out; omega, after_len _ _, after_lt _ _, HC2.out, ?_, HE2.out⟩, ?_⟩
      · have h := HBL.out
        rw [show (n - o) / 64 = (n - 64 * (i + 1)) / 64 + 1 by have := HLT.out; have := HO.out; omega] at h
        rw [← h, show 64 * (i + 1) = o + 64 by have := HO.out; omega, ← List.drop_drop]
        rfl
      · rw [p4]
        have := HLT.out
        show n - ((o : Int) + 64).toNat < n - (o : Int).toNat
        omega
    · have hin : 64 * i = n := by omega
      have hsum : outBytes V = sumL s.data.toList := by
        have hp3 := HNB.out.2.2
        unfold sumL
        rw [← HP.out, hp3, ← hbl, hin, Nat.sub_self]
        rfl
      have HSUM := Lib.hid hsum
      have HC := Lib.hid hc
      have HVL := Lib.hid hV8
      rw [show 64 * i = p.size by rw [hin, hN]]
      obtain ⟨v0, v1, v2, v3, v4, v5, v6, v7, hVe⟩ := eight V HVL.out
      clear hsum hc hV8 hVl hbl hbe hi hlt hin hN hNB
      go_wp2_with fail
      obtain ⟨W0, hW0⟩ : ∃ W, W = wr := ⟨_, rfl⟩
      rw [← hW0] at HC HBE ⊢
      clear hW0
      go_loopw [6, 7] (fun u6 v7 wq => ∃ k : Nat, v7 = .int .i64 k ∧ k ≤ 8 ∧ OwnB wq W0.heap.size u6 (4 * k) (outBytes (List.take k V)) ∧ Below W0.heap.size W0 wq) (fun _ v _ => 8 - (intOf v).toNat)
      case atStart => exact ⟨0, rfl, by decide, OwnB.nil_ _ _, Below.refl _ _⟩
      case round =>
        obtain ⟨k, rfl, hk, how, hbe⟩ := hrel
        have HOW := Lib.hid how
        have HEB := Lib.hid hbe
        have HES := Lib.hid hbe.size
        have HCK := Lib.hid (HC.out.below hbe HC.out.lt)
        clear how hbe
        by_cases hlt : k < 8
        · obtain ⟨x, hx⟩ : ∃ x, V.getD k 0 = x := ⟨_, rfl⟩
          have cx := HCK.out.cell (k := k) (by rw [HVL.out]; exact hlt)
          rw [hx] at cx
          obtain ⟨b3, h3⟩ : ∃ b, b = UInt8.ofNat (x / 16777216) := ⟨_, rfl⟩
          obtain ⟨b2, h2⟩ : ∃ b, b = UInt8.ofNat (x / 65536) := ⟨_, rfl⟩
          obtain ⟨b1, h1⟩ : ∃ b, b = UInt8.ofNat (x / 256) := ⟨_, rfl⟩
          obtain ⟨b0, h0⟩ : ∃ b, b = UInt8.ofNat x := ⟨_, rfl⟩
          have e3 : ((x : Int) / 16777216 % 256) = (b3.toNat : Int) := by rw [h3, UInt8.toNat_ofNat']; omega
          have e2 : ((x : Int) / 65536 % 256) = (b2.toNat : Int) := by rw [h2, UInt8.toNat_ofNat']; omega
          have e1 : ((x : Int) / 256 % 256) = (b1.toNat : Int) := by rw [h1, UInt8.toNat_ofNat']; omega
          have e0 : ((x : Int) % 256) = (b0.toNat : Int) := by rw [h0, UInt8.toNat_ofNat']; omega
          have HBS := Lib.hid (show outBytes (List.take k V) ++ [b3, b2, b1, b0] = outBytes (List.take (k + 1) V) by
            rw [h3, h2, h1, h0, ← hx]
            exact outBytes_step _ k (by rw [HVL.out]; exact hlt))
          have HLT := Lib.hid hlt
          have p0 : (0 : Int) ≤ (k : Int) := by omega
          have p8 : (k : Int) < 8 := by omega
          clear h3 h2 h1 h0 hx hlt hk
          go_wp2_with (at_builtin; refine wpList_append_own rfl (.tmp 33) (.tmp 45) rfl W0.heap.size u6 (4 * k) _ rfl (HOW.out.alloc HES.out _) _ 0 4 4 [b3, b2, b1, b0] rfl (row_four _ b3 b2 b1 b0 _) (by simp) rfl (by have := HLT.out; omega) (by have := HES.out; simp; omega) ?_
                       intro v9 w9 hown9 hb9
                       rw [HBS.out] at hown9
                       have HO9 := Lib.hid hown9
                       have HE9 := Lib.hid ((HEB.out.alloc HES.out _).trans hb9)
                       clear hown9 hb9)
          go_roundw
          case rel => exact ⟨k + 1, rfl, HLT.out, HO9.out, HE9.out⟩
          case measure => have := HLT.out; show 8 - ((k : Int) + 1).toNat < 8 - (k : Int).toNat; omega
        · obtain rfl : k = 8 := by omega
          rcases HOW.out.form HES.out with ⟨rfl, h0⟩ | ⟨g7, c7, rfl, hb7, hl7, hc7, hr7⟩
          · cases h0
          · have hcv := conv_str hr7 32 c7 HOW.out.1
            have e7 : (⟨(outBytes (List.take 8 V)).toArray⟩ : ByteArray) = sumS s := by
              unfold sumS
              rw [← HSUM.out, List.take_of_length_le (by rw [HVL.out]; exact Nat.le_refl _)]
            rw [e7] at hcv
            have HEF := Lib.hid (HBE.out.trans (HEB.out.mono HBE.out.size))
            clear e7 hr7 hb7 hl7
            go_wp2_with fail
            go_ret
            exact ⟨rfl, HEF.out⟩

/-- A key of 64 bytes, each of them xored with a number; the first i of them are laid. -/
def xoP (L : List UInt8) (x : UInt8) (i : Nat) : List UInt8 := ((List.range i).map fun j => L.getD j 0 ^^^ x) ++ List.replicate (64 - i) 0
theorem xoP_len (L : List UInt8) (x : UInt8) (i : Nat) (h : i ≤ 64) : (xoP L x i).length = 64 := by
  unfold xoP
  simp
  omega
theorem xoP_step (L : List UInt8) (x y : UInt8) (i : Nat) (h : i < 64) (hy : y = L.getD i 0 ^^^ x) : (xoP L x i).set i y = xoP L x (i + 1) := by
  unfold xoP
  rw [List.set_append_right _ _ (by simp), show 64 - i = 64 - (i + 1) + 1 by omega, List.replicate_succ, List.length_map, List.length_range, Nat.sub_self, List.set_cons_zero, hy, List.range_succ, List.map_append, List.append_assoc]
  rfl
theorem xoP_set2 (L : List UInt8) (x a b : UInt8) (i : Nat) : ((xoP L x i).set i a).set i b = (xoP L x i).set i b := by rw [List.set_set]
theorem getD_out (L : List UInt8) (i : Nat) (h : L.length ≤ i) : L.getD i 0 = 0 := by
  rw [List.getD_eq_getElem?_getD, List.getElem?_eq_none h]
  rfl
theorem r05_xored (key : ByteArray) (x : UInt8) (z : Int) (w : World) (hz : z = (x.toNat : Int)) (hk : key.size ≤ 100000) :
    Calls Tryz.prog 283 #[.string key, .int .u8 z] w fun e w' => e = .returned (.string ⟨(xoP key.data.toList x 64).toArray⟩) ∧ Below w.heap.size w w' := by
  subst hz
  have hmk : ∀ w : World, (Instr.makeSlice 177 (.int .i64 64) (.int .i64 64)).run Tryz.prog w = .ok (.slice (some ⟨w.heap.size, 0, none⟩) 64 64) (w.alloc (.cells (cellsOf (List.replicate 64 0)) 5)) := fun w => make_bytes 64 (by decide) w
  obtain ⟨CZ, hCZ⟩ : ∃ x, x = cellsOf (List.replicate 64 0) := ⟨_, rfl⟩
  rw [← hCZ] at hmk
  have HCZ := Lib.hid hCZ
  have HK := Lib.hid hk
  clear hCZ hk
  go_enter Tryz.func283, Tryz.ntmps283
  go_wp2_with fail
  have HB0 : Hid (Bk (w.alloc (.cells CZ 5)) w.heap.size 5 (xoP key.data.toList x 0)) := Lib.hid (by rw [HCZ.out]; exact Bk.new _ _ _)
  have HE0 := Lib.hid (show Below w.heap.size w (w.alloc (.cells CZ 5)) from (Below.refl _ _).alloc (Nat.le_refl _) _)
  clear hmk
  go_loopw [6] (fun v wr => ∃ i : Nat, v = .int .i64 i ∧ i ≤ 64 ∧ Bk wr w.heap.size 5 (xoP key.data.toList x i) ∧ Below w.heap.size w wr) (fun v _ => 64 - (intOf v).toNat)
  case atStart => exact ⟨0, rfl, by decide, HB0.out, HE0.out⟩
  case round =>
    clear HB0 HE0
    obtain ⟨i, rfl, hi, hb, hbe⟩ := hrel
    have HB := Lib.hid hb
    have HE := Lib.hid hbe
    by_cases hlt : i < 64
    · have cw := hb.cell (k := i) (by rw [xoP_len _ _ _ (by omega)]; exact hlt)
      have fw := hb.free i
      have HLT := Lib.hid hlt
      have p0 : (0 : Int) ≤ (i : Int) := by omega
      have p64 : (i : Int) < 64 := by omega
      by_cases hik : i < key.size
      · have HX : Hid (bits .xor .u8 ((key[i]'hik).toNat : Int) (x.toNat : Int) = (((key[i]'hik) ^^^ x).toNat : Int)) := Lib.hid (u8_xor _ _)
        have HG : Hid (((xoP key.data.toList x i).set i x).set i ((key[i]'hik) ^^^ x) = xoP key.data.toList x (i + 1)) := Lib.hid (by
          rw [xoP_set2]
          exact xoP_step _ _ _ _ hlt (by rw [byte_get key i hik]))
        have pk : (i : Int) < (key.size : Int) := by omega
        clear hb hbe hlt hi
        go_wp2_with fail
        go_roundw
        case rel =>
          refine ⟨i + 1, by go_num, HLT.out, ?_, (HE.out.setCell (p := ⟨w.heap.size, i, none⟩) (Nat.le_refl _) _).setCell (p := ⟨w.heap.size, i, none⟩) (Nat.le_refl _) _⟩
          rw [HX.out, ← HG.out]
          exact (HB.out.set i x).set i _
        case measure => have := HLT.out; show 64 - ((i : Int) + 1).toNat < 64 - (i : Int).toNat; omega
      · have HG : Hid ((xoP key.data.toList x i).set i x = xoP key.data.toList x (i + 1)) := Lib.hid (xoP_step _ _ _ _ hlt (by
          rw [getD_out _ _ (by rw [size_list]; omega)]
          simp))
        have pk : ¬ (i : Int) < (key.size : Int) := by omega
        clear hb hbe hlt hi
        go_wp2_with fail
        go_roundw
        case rel =>
          refine ⟨i + 1, by go_num, HLT.out, ?_, HE.out.setCell (p := ⟨w.heap.size, i, none⟩) (Nat.le_refl _) _⟩
          rw [← HG.out]
          exact HB.out.set i x
        case measure => have := HLT.out; show 64 - ((i : Int) + 1).toNat < 64 - (i : Int).toNat; omega
    · obtain rfl : i = 64 := by omega
      have hcv := conv_str hb.row 64 64 (xoP_len _ _ _ (by decide))
      clear hb hbe hlt hi
      go_wp2_with fail
      go_ret
      exact ⟨rfl, HE.out⟩

theorem xoP_all (L : List UInt8) (x : UInt8) : xoP L x 64 = (List.range 64).map fun i => L.getD i 0 ^^^ x := by
  unfold xoP
  rw [Nat.sub_self, List.replicate_zero, List.append_nil]
theorem macS_xo (key s K : ByteArray) (hK : K = if 64 < key.size then sumS key else key) (h : K.size ≤ 64) :
    macS key s = sumS (⟨(xoP K.data.toList 92 64).toArray⟩ ++ sumS (⟨(xoP K.data.toList 54 64).toArray⟩ ++ s)) := by
  rw [macS_eq key s K hK h, xorK_last K 92 h, xorK_last K 54 h, xoP_all, xoP_all]
theorem xoP_size (L : List UInt8) (x : UInt8) : (⟨(xoP L x 64).toArray⟩ : ByteArray).size = 64 := by
  show (xoP L x 64).toArray.size = 64
  rw [List.size_toArray, xoP_len _ _ _ (by decide)]
theorem r05_Mac (key s : ByteArray) (w : World) (hk : key.size ≤ 100000) (hs : s.size ≤ 90000) :
    Calls Tryz.prog 257 #[.string key, .string s] w fun e w' => e = .returned (.string (macS key s)) ∧ Below w.heap.size w w' := by
  obtain ⟨K, hK⟩ : ∃ K, K = if 64 < key.size then sumS key else key := ⟨_, rfl⟩
  have hKz : K.size ≤ 64 := by
    rw [hK]
    split
    · rw [sumS_size]; decide
    · omega
  have HM := Lib.hid (macS_xo key s K hK hKz)
  have K92 := fun w => r05_xored K 92 92 w rfl (by omega)
  have K54 := fun w => r05_xored K 54 54 w rfl (by omega)
  have z1 := xoP_size K.data.toList 92
  have z2 := xoP_size K.data.toList 54
  obtain ⟨A, hA⟩ : ∃ A : ByteArray, A = ⟨(xoP K.data.toList 92 64).toArray⟩ := ⟨_, rfl⟩
  obtain ⟨C, hC⟩ : ∃ A : ByteArray, A = ⟨(xoP K.data.toList 54 64).toArray⟩ := ⟨_, rfl⟩
  rw [← hA] at K92 z1 HM
  rw [← hC] at K54 z2 HM
  have z3 : (sumS (C ++ s)).size = 32 := sumS_size _
  have K1 := fun w => r05_Sum key w hk
  have K2 := fun w => r05_Sum (C ++ s) w (by rw [ByteArray.size_append]; omega)
  obtain ⟨I, hI⟩ : ∃ I, I = sumS (C ++ s) := ⟨_, rfl⟩
  rw [← hI] at K2 z3 HM
  have K3 := fun w => r05_Sum (A ++ I) w (by rw [ByteArray.size_append]; omega)
  obtain ⟨O, hO⟩ : ∃ q, q = sumS (A ++ I) := ⟨_, rfl⟩
  rw [← hO] at K3 HM
  have K92 := Lib.hid K92
  have K54 := Lib.hid K54
  have K1 := Lib.hid K1
  have K2 := Lib.hid K2
  have K3 := Lib.hid K3
  clear hA hC hI hO
  by_cases h64 : 64 < key.size
  · rw [if_pos h64] at hK
    rw [← hK] at K1
    have p64 : (64 : Int) < (key.size : Int) := by omega
    clear hK hKz
    go_enter Tryz.func257, Tryz.ntmps257
    go_wp2_with (first
      | (go_at_call 282; (with_reducible refine (K1.out _).mono ?_); rintro e w1 ⟨rfl, hb1⟩; have HB1 := Lib.hid hb1; clear hb1)
      | (go_at_call 283; (with_reducible refine (K92.out _).mono ?_); rintro e w2 ⟨rfl, hb2⟩; have HB2 := Lib.hid (HB1.out.trans (hb2.mono HB1.out.size)); clear hb2)
      | (go_at_call 283; (with_reducible refine (K54.out _).mono ?_); rintro e w3 ⟨rfl, hb3⟩; have HB3 := Lib.hid (HB2.out.trans (hb3.mono HB2.out.size)); clear hb3)
      | (go_at_call 282; (with_reducible refine (K2.out _).mono ?_); rintro e w4 ⟨rfl, hb4⟩; have HB4 := Lib.hid (HB3.out.trans (hb4.mono HB3.out.size)); clear hb4)
      | (go_at_call 282; (with_reducible refine (K3.out _).mono ?_); rintro e w5 ⟨rfl, hb5⟩; have HB5 := Lib.hid (HB4.out.trans (hb5.mono HB4.out.size)); clear hb5))
    go_ret
    exact ⟨ret_string HM.out.symm, HB5.out⟩
  · rw [if_neg h64] at hK
    subst hK
    have p64 : ¬ (64 : Int) < (K.size : Int) := by omega
    have HB1 := Lib.hid (Below.refl w.heap.size w)
    clear hKz
    go_enter Tryz.func257, Tryz.ntmps257
    go_wp2_with (first
      | (go_at_call 283; (with_reducible refine (K92.out _).mono ?_); rintro e w2 ⟨rfl, hb2⟩; have HB2 := Lib.hid (HB1.out.trans (hb2.mono HB1.out.size)); clear hb2)
      | (go_at_call 283; (with_reducible refine (K54.out _).mono ?_); rintro e w3 ⟨rfl, hb3⟩; have HB3 := Lib.hid (HB2.out.trans (hb3.mono HB2.out.size)); clear hb3)
      | (go_at_call 282; (with_reducible refine (K2.out _).mono ?_); rintro e w4 ⟨rfl, hb4⟩; have HB4 := Lib.hid (HB3.out.trans (hb4.mono HB3.out.size)); clear hb4)
      | (go_at_call 282; (with_reducible refine (K3.out _).mono ?_); rintro e w5 ⟨rfl, hb5⟩; have HB5 := Lib.hid (HB4.out.trans (hb5.mono HB4.out.size)); clear hb5))
    go_ret
    exact ⟨ret_string HM.out.symm, HB5.out⟩

end Go.Proofs.YteifbhmfjchfjaaGreatDoor
