/- The walks of package natural, third part. -/
import Derived.Test.YtfggpgiinihflaaDoorW2
import Derived.Lib.ItoaNum
import Derived.Test.YtfggpgiinihflaaDoorCol
import Derived.Laws.CopyRow
namespace Go.Proofs.YtfggpgiinihflaaDoor
open Go.RowKit
set_option maxRecDepth 100000
set_option linter.unusedVariables false
set_option maxHeartbeats 400000

theorem bitsN_of {n k : Nat} (h0 : n ≠ 0) (h1 : 2 ^ k ≤ n) (h2 : n < 2 ^ (k + 1)) : bitsN n = k + 1 := by
  unfold bitsN
  rw [if_neg h0]
  have a := (Nat.le_log2 h0).2 h1
  have b := (Nat.log2_lt h0).2 h2
  omega
theorem bitLen_pos {x : Nat} (h0 : x ≠ 0) (h : x < 256) : ∃ k, Lib.bitLen x = k + 1 ∧ 2 ^ k ≤ x ∧ x < 2 ^ (k + 1) := by
  obtain ⟨a, b, c⟩ := Lib.bitLenAux_bounds 64 x (by omega) h0
  refine ⟨Lib.bitLenAux 64 x - 1, ?_, b, ?_⟩
  · unfold Lib.bitLen; omega
  · rw [show Lib.bitLenAux 64 x - 1 + 1 = Lib.bitLenAux 64 x by omega]; exact c
theorem bits_of_bytes {s : ByteArray} (hv : valid s = true) (h : 0 < s.size) : (natBits s : Int) = 8 * ((s.size : Int) - 1) + (Lib.bitLen s[0].toNat : Int) := by
  have hl := hv
  unfold valid at hl
  rw [Bool.and_eq_true] at hl
  obtain ⟨_, hl⟩ := hl
  rw [lead_getElem h] at hl
  have h0 : s[0].toNat ≠ 0 := by intro e; rw [e] at hl; simp at hl
  have hd := num_digit s (s.size - 1) (by omega)
  have e0 : s.size - 1 - (s.size - 1) = 0 := by omega
  simp only [e0] at hd
  have hlt := num_lt s
  obtain ⟨k, hk, h1, h2⟩ := bitLen_pos h0 s[0].toNat_lt
  have ep : 256 ^ s.size = 256 ^ (s.size - 1) * 256 := by
    rw [← Nat.pow_succ]
    congr 1
    omega
  rw [ep] at hlt
  have hq : num s / 256 ^ (s.size - 1) < 256 := Nat.div_lt_of_lt_mul hlt
  rw [Nat.mod_eq_of_lt hq] at hd
  rw [hd] at h1 h2
  have hp : 0 < 256 ^ (s.size - 1) := Nat.pow_pos (by omega)
  have a1 : 2 ^ (8 * (s.size - 1) + k) ≤ num s := by
    rw [Nat.pow_add, pow_256]
    exact Nat.le_trans (Nat.mul_le_mul_left _ h1) (Nat.mul_div_le _ _)
  have a2 : num s < 2 ^ (8 * (s.size - 1) + k + 1) := by
    rw [Nat.add_assoc, Nat.pow_add, pow_256, Nat.mul_comm]
    exact (Nat.div_lt_iff_lt_mul hp).1 h2
  unfold natBits
  rw [hv, if_pos rfl, bitsN_of (by have := Nat.pow_pos (n := 8 * (s.size - 1) + k) (show 0 < 2 by omega); omega) a1 a2, hk]
  omega
theorem natural_Bits (s : ByteArray) (w : World) :
    Calls Tryd.prog 45 #[.string s] w fun e w' => e = .returned (.int .i64 (natBits s)) ∧ w = w' := by
  by_cases hv : valid s = true
  · by_cases h0 : 0 < s.size
    · have he : s.toList.isEmpty = false := by
        rw [ByteArray.toList_eq, List.isEmpty_eq_false_iff]
        intro e
        have := size_eq s
        rw [e, List.length_nil] at this
        omega
      have hs := valid_size hv
      have HB := Lib.hid (bits_of_bytes hv h0)
      have hb0 : (Lib.bitLen s[0].toNat) ≤ 8 := Lib.bitLen_le8 ⟨s[0].toNat, s[0].toNat_lt⟩
      have hby : (s[0].toNat : Int) ≤ 255 := by have := s[0].toNat_lt; omega
      go_enter Tryd.func45, Tryd.ntmps45
      go_wp2_with (first | (go_at_call 33; refine (natural_Valid _ _).mono ?_; rintro e w' ⟨rfl, rfl⟩) | (go_at_call 62; (refine (Tryd.bits_Len8 _ _ (by omega) hby).mono ?_); rintro e w' ⟨rfl, rfl⟩))
      go_ret
      exact ⟨ret_int (by rw [HB.out]; rfl), rfl⟩
    · obtain rfl : s = ByteArray.empty := by
        apply ByteArray.ext
        apply Array.eq_empty_of_size_eq_zero
        show s.size = 0
        omega
      go_enter Tryd.func45, Tryd.ntmps45
      go_wp2_with (first | (go_at_call 33; refine (natural_Valid _ _).mono ?_; rintro e w' ⟨rfl, rfl⟩))
      go_ret
      exact ⟨rfl, rfl⟩
  · have hv' : valid s = false := by simpa using hv
    have hr : natBits s = 0 := by unfold natBits; rw [hv']; rfl
    have HR := Lib.hid hr
    clear hr hv
    go_enter Tryd.func45, Tryd.ntmps45
    go_wp2_with (first | (go_at_call 33; refine (natural_Valid _ _).mono ?_; rintro e w' ⟨rfl, rfl⟩))
    go_ret
    exact ⟨ret_int (by rw [HR.out]; rfl), rfl⟩

def intCells (L : List Nat) : Array Value := (L.map fun (n : Nat) => Value.int .i64 n).toArray
/-- Block g is just these numbers of int, and may be written. -/
def Ck (w : World) (g : Nat) (T : TypeId) (L : List Nat) : Prop := w.heap[g]? = some (.cells (intCells L) T (0, 0))
theorem intCells_get (L : List Nat) (k : Nat) (h : k < L.length) : (intCells L)[k]? = some (.int .i64 (L.getD k 0 : Nat)) := by
  simp [intCells, List.getD, h]
theorem intCells_set (L : List Nat) (k n : Nat) : (intCells L).setIfInBounds k (.int .i64 n) = intCells (L.set k n) := by
  simp [intCells, List.map_set]
section
variable {w w' : World} {g : Nat} {T : TypeId} {L : List Nat}
theorem Ck.cell (h : Ck w g T L) {k : Nat} (hk : k < L.length) : w.cell? ⟨g, k, none⟩ = some (.int .i64 (L.getD k 0 : Nat)) := by
  unfold Ck at h
  simp only [World.cell?, h]
  exact intCells_get L k hk
theorem Ck.free (h : Ck w g T L) (k : Nat) : w.frozen? ⟨g, k, none⟩ = false := by
  unfold Ck at h
  simp [World.frozen?, h]
theorem Ck.lt (h : Ck w g T L) : g < w.heap.size := by
  rcases Nat.lt_or_ge g w.heap.size with hlt | hge
  · exact hlt
  · unfold Ck at h; rw [Array.getElem?_eq_none hge] at h; cases h
theorem Ck.set (h : Ck w g T L) (k n : Nat) : Ck (w.setCell ⟨g, k, none⟩ (.int .i64 n)) g T (L.set k n) := by
  unfold Ck at h ⊢
  rw [← intCells_set]
  simp [World.setCell, Array.getElem?_modify, h]
theorem Ck.far (h : Ck w g T L) {p : Addr} (hp : g ≠ p.block) (u : Value) : Ck (w.setCell p u) g T L := (Below.heap_setCell w p u g hp).trans h
theorem Ck.alloc (h : Ck w g T L) (o : Obj) : Ck (w.alloc o) g T L := (Below.heap_alloc w o g h.lt).trans h
theorem Ck.below {B : Nat} (h : Ck w g T L) (hb : Below B w w') (hg : g < B) : Ck w' g T L := (hb.block g hg).trans h
end
theorem i64_info : (Tryd.prog.info? 3).map (fun i => (i.zero, i.size, i.bytes)) = some (some (.int .i64 0), 1, 8) := by kernel_rfl
theorem zeroInt (w : World) : (zeroValue 3).run Tryd.prog w = .ok (.int .i64 0) w := by kernel_rfl
theorem zeroCells_ints (n : Nat) : (Builtin.zeroCells (Value.int .i64 0).cells n).toList = (List.replicate n (Value.int .i64 0)) := by
  apply List.ext_getElem
  · simp [Builtin.zeroCells, Value.cells]
  · intro i h1 h2
    simp [Builtin.zeroCells, Value.cells, Nat.mod_one]
/-- 'clear' of a row that is zero. -/
theorem clear_zero {w : World} {g : Nat} (h : Ck w g 74 (List.replicate 256 0)) (ty : TypeId) :
    (Builtin.clear_ #[92] ty #[.slice (some ⟨g, 0, none⟩) 256 256]).run Tryd.prog w = .ok (.tuple #[]) w := by
  have hz := zeroCells_ints 256
  have hs := run_storeCells_at (P := Tryd.prog) g 0 74 (List.replicate 256 (Value.int .i64 0)) 0 _ w h (by simp [intCells]) (by intro v hv; rw [List.eq_of_mem_replicate hv]; rfl)
  have he : (List.take (0 + 0) (intCells (List.replicate 256 0)).toList ++ List.replicate 256 (Value.int .i64 0) ++ List.drop (0 + 0 + (List.replicate 256 (Value.int .i64 0)).length) (intCells (List.replicate 256 0)).toList).toArray = intCells (List.replicate 256 0) := by
    simp [intCells]
  rw [he, setRow_self w g _ _ (0, 0) h] at hs
  clear he
  generalize List.replicate 256 (Value.int .i64 0) = Z at hz hs
  simp [Builtin.clear_, run_underlying Tryd.underlying92, zeroInt w, hz, hs]

theorem getD_zeros (n k : Nat) : (List.replicate n 0).getD k 0 = 0 := by
  rw [List.getD, List.getElem?_replicate]
  split <;> rfl
set_option maxHeartbeats 4000000 in
theorem natural_product (a b : ByteArray) (g : Nat) (w : World) (sa : a.size ≤ 128) (sb : b.size ≤ 128) (hck : Ck w g 74 (List.replicate 256 0)) :
    Calls Tryd.prog 49 #[.string a, .string b, .pointer (some ⟨g, 0, none⟩)] w fun e w' => e = .returned (.string (B (num a * num b))) ∧ Below g w w' := by
  have la := Lib.hid (num_lt a)
  have lb := Lib.hid (num_lt b)
  have hg := hck.lt
  have hclr := clear_zero hck
  have HCK := Lib.hid hck
  clear hck
  have hmk := make_bytes (a.size + b.size) (by omega)
  rw [show ((a.size + b.size : Nat) : Int) = (a.size : Int) + (b.size : Int) by omega] at hmk
  go_enter Tryd.func49, Tryd.ntmps49
  go_wp2_with fail
  go_loopw [19] (fun c wr => ∃ (i : Nat) (L : List Nat), i ≤ a.size ∧ c = .int .i64 i ∧ Ck wr g 74 L ∧ L.length = 256 ∧ ev L = (num a % 256 ^ i) * num b ∧ (∀ k, L.getD k 0 ≤ 65025 * (128 * i)) ∧ Below g w wr) (fun c _ => a.size - (intOf c).toNat)
  case atStart => exact ⟨0, List.replicate 256 0, by omega, rfl, HCK.out, by simp, by rw [ev_zeros]; simp [Nat.mod_one], by intro k; rw [getD_zeros]; omega, Below.refl _ _⟩
  case round =>
    obtain ⟨i, L, hi, rfl, hck, hlen, hev, hbd, hbel⟩ := hrel
    have HC := Lib.hid hck
    have HE := Lib.hid hev
    have HBD := Lib.hid hbd
    have HLN := Lib.hid hlen
    clear hck hev hbd hlen
    by_cases hlt : i < a.size
    · obtain ⟨da, hda⟩ : ∃ d, num a / 256 ^ i % 256 = d := ⟨_, rfl⟩
      have da1 : da ≤ 255 := by omega
      have HA := Lib.hid hda
      clear hda
      go_wp2_with (first | (go_at_call 63; (with_reducible refine (natural_digit' a _ _ _ (by omega) (by omega) HA).mono ?_); rintro e w' ⟨rfl, rfl⟩))
      go_loopw [27] (fun c wr2 => ∃ (j : Nat) (L2 : List Nat), j ≤ b.size ∧ c = .int .i64 j ∧ Ck wr2 g 74 L2 ∧ L2.length = 256 ∧ ev L2 = (num a % 256 ^ i) * num b + da * 256 ^ i * (num b % 256 ^ j) ∧ (∀ k, L2.getD k 0 ≤ 65025 * (128 * i + j)) ∧ Below g w wr2) (fun c _ => b.size - (intOf c).toNat)
      case atStart => exact ⟨0, L, by omega, rfl, HC.out, HLN.out, by rw [HE.out]; simp [Nat.mod_one], HBD.out, hbel⟩
      case round =>
        obtain ⟨j, L2, hj, rfl, hck, hlen, hev, hbd, hbel2⟩ := hrel
        have HC2 := Lib.hid hck
        have HE2 := Lib.hid hev
        have HBD2 := Lib.hid hbd
        have HLN2 := Lib.hid hlen
        by_cases hltj : j < b.size
        · obtain ⟨db, hdb⟩ : ∃ d, num b / 256 ^ j % 256 = d := ⟨_, rfl⟩
          have db1 : db ≤ 255 := by omega
          have HB := Lib.hid hdb
          have hcell := hck.cell (k := i + j) (by omega)
          have hfree := hck.free (i + j)
          have hcb := hbd (i + j)
          obtain ⟨c0, hc0⟩ : ∃ c, L2.getD (i + j) 0 = c := ⟨_, rfl⟩
          rw [hc0] at hcell hcb
          have HC0 := Lib.hid hc0
          have hprod : da * db ≤ 65025 := Nat.mul_le_mul da1 db1
          have c0b : c0 ≤ 1100000000 := by omega
          clear hdb hck hev hbd hlen hc0 hcb
          have hpi : (da : Int) * (db : Int) ≤ 65025 := by have h : ((da * db : Nat) : Int) ≤ 65025 := by omega
                                                           rwa [Int.natCast_mul] at h
          have hpn : 0 ≤ (da : Int) * (db : Int) := Int.mul_nonneg (by omega) (by omega)
          have s1 : IntKind.i64.wrap ((i : Int) + (j : Int)) = (i : Int) + (j : Int) := IntWalk.i64_in _ (by omega)
          have s2 : 0 ≤ (i : Int) + (j : Int) := by omega
          have s3 : ((i : Int) + (j : Int)).toNat = i + j := by omega
          have s4 : IntKind.i64.wrap ((da : Int) * (db : Int)) = (da : Int) * (db : Int) := IntWalk.i64_in _ (by omega)
          have s5 : IntKind.i64.wrap ((c0 : Int) + (da : Int) * (db : Int)) = (c0 : Int) + (da : Int) * (db : Int) := IntWalk.i64_in _ (by omega)
          have s6 : (i : Int) + (j : Int) < 256 := by omega
          have s7 : i + j < 256 := by omega
          go_wp2_with fail
          go_region_with (first | (go_at_call 63; (with_reducible refine (natural_digit' b _ _ _ (by omega) (by omega) HB).mono ?_); rintro e w' ⟨rfl, rfl⟩))
          all_goals
            clear s1 s2 s3 s4 s5 s6
            go_wp2_with fail
            go_roundw
            case rel =>
              have h1 := ev_set L2 (i + j) (da * db) (by rw [HLN2.out]; omega)
              have h2 := getD_set_le L2 _ (da * db) (i + j) HBD2.out
              refine ⟨j + 1, L2.set (i + j) (L2.getD (i + j) 0 + da * db), by omega, by go_num, ?_, by rw [List.length_set]; exact HLN2.out, ?_, fun k => Nat.le_trans (h2 k) (by omega), ?_⟩
              · have := HC2.out.set (i + j) (c0 + da * db)
                rw [HC0.out]
                rw [show (((c0 + da * db : Nat)) : Int) = (c0 : Int) + (da : Int) * (db : Int) by rw [Int.natCast_add, Int.natCast_mul]] at this
                exact this
              · rw [h1, HE2.out]; exact prod_step _ _ _ _ _ HB.out _
              · exact (hbel2.drew).setCell (Nat.le_refl _) _
            case measure => simp [intOf]; omega
        · obtain rfl : j = b.size := by omega
          clear hck hev hbd hlen
          go_wp2_with fail
          go_roundw
          case rel => exact ⟨i + 1, L2, by omega, by go_num, HC2.out, HLN2.out, by rw [HE2.out, Nat.mod_eq_of_lt lb.out]; exact prod_row _ _ _ _ HA.out, fun k => Nat.le_trans (HBD2.out k) (by omega), hbel2⟩
          case measure => simp [intOf]; omega
    · obtain rfl : i = a.size := by omega
      obtain ⟨wo, rfl⟩ : ∃ wo : World, wo = wr := ⟨_, rfl⟩
      have hev2 : ev L = num a * num b := by rw [HE.out, Nat.mod_eq_of_lt la.out]
      have HE2 := Lib.hid hev2
      clear hev2
      go_wp2_with fail
      go_loopw [12, 55] (fun cy c wr2 => ∃ i : Nat, i ≤ a.size + b.size ∧ c = .int .i64 i ∧ cy = .int .i64 (colCarry L i : Nat) ∧ Bk wr2 wo.heap.size 5 (fill (a.size + b.size) i (num a * num b)) ∧ Below wo.heap.size wo wr2) (fun _ c _ => a.size + b.size - (intOf c).toNat)
      case atStart => exact ⟨0, by omega, rfl, by rw [colCarry_zero]; rfl, by rw [fill_zero]; exact Bk.new wo 5 (List.replicate (a.size + b.size) 0), (Below.refl _ _).alloc (Nat.le_refl _) _⟩
      case round =>
        obtain ⟨i, hi, rfl, rfl, hbk, hbel2⟩ := hrel
        by_cases hlt2 : i < a.size + b.size
        · have HB := Lib.hid hbk
          have hc2 := hbk.cell (k := a.size + b.size - 1 - i) (by rw [fill_length _ hi]; omega)
          have hf2 := hbk.free (a.size + b.size - 1 - i)
          have hgw := HC.out.lt
          have hcell := (HC.out.below hbel2 hgw).cell (k := i) (by rw [HLN.out]; omega)
          have hcb := HBD.out i
          have hcc := colCarry_le L _ HBD.out i (by rw [HLN.out]; omega)
          have h1 := colCarry_digit L i (by rw [HLN.out]; omega)
          have h2 := colCarry_next L i (by rw [HLN.out]; omega)
          rw [HE2.out] at h1
          obtain ⟨c0, hc0⟩ : ∃ c, L.getD i 0 = c := ⟨_, rfl⟩
          rw [hc0] at hcell hcb h1 h2
          generalize colCarry L i = cy at *
          have H1 := Lib.hid h1
          have H2 := Lib.hid h2
          clear hbk h1 h2 hc0
          go_wp2_with fail
          go_roundw
          case rel =>
            refine ⟨i + 1, by omega, by go_num, ?_, ?_, hbel2.setCell (by simp) _⟩
            · rw [← H2.out]; congr 1
            · rw [show ((cy : Int) + (c0 : Int)) = ((cy + c0 : Nat) : Int) by omega, u8_wrap_nat]
              have := HB.out.set (a.size + b.size - 1 - i) (UInt8.ofNat (cy + c0))
              rw [show UInt8.ofNat (cy + c0) = UInt8.ofNat ((num a * num b) / 256 ^ i) from UInt8.toNat_inj.mp (by rw [toNat_ofNat8, toNat_ofNat8, H1.out])] at this ⊢
              rw [fill_set _ hlt2] at this
              exact this
          case measure => simp [intOf]; omega
        · obtain rfl : i = a.size + b.size := by omega
          rw [fill_full] at hbk
          have HB := Lib.hid hbk
          have hlt3 : num a * num b < 256 ^ (a.size + b.size) := by
            rw [Nat.pow_add]; exact Nat.mul_lt_mul'' la.out lb.out
          have HT := Lib.hid (trimL_be hlt3)
          clear hbk hlt3
          go_wp2_with (first | (go_at_call 53; (refine (natural_trimmed' wo.heap.size (be (a.size + b.size) (num a * num b)) (a.size + b.size) (a.size + b.size) _ _ (be_length _ _) (by omega) HB.out.row HT.out).mono ?_); rintro e w' ⟨rfl, rfl⟩))
          go_ret
          exact ⟨rfl, hbel.trans (hbel2.mono (by have := HC.out.lt; omega))⟩

end Go.Proofs.YtfggpgiinihflaaDoor
