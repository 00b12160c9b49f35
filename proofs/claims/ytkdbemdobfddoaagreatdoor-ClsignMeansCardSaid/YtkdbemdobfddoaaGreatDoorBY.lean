/- The walks of package coins: what a well-formed tape is. Plain law: the first bits of a row of bytes. -/
import Derived.Test.YtkdbemdobfddoaaGreatDoorBW
import Derived.Test.YtkdbemdobfddoaaGreatDoorBP
import Derived.Test.YtkdbemdobfddoaaGreatDoorBR
import Derived.Test.YtkdbemdobfddoaaGreatDoorH7
namespace Go.Proofs.YtkdbemdobfddoaaGreatDoor
open Go.RowKit
set_option maxRecDepth 100000
set_option linter.unusedVariables false
set_option maxHeartbeats 1000000

/-- A tape is well-formed. -/
def goodT (vals : List ByteArray) (z : Int) : Bool := decide (0 ≤ z) && (decide (z ≤ 2147483647) && vals.all valid)
/-- The error of a tape and a bound. -/
def readyT (vals : List ByteArray) (z : Int) (n : ByteArray) : Int := if (goodT vals z && valid n) = true then (if n.toList.isEmpty = true then 11 else 0) else 3
theorem coins_good1 (s : ByteArray) (w : World) : Calls Tryz.prog 193 #[.string s] w fun e w' => e = .returned (.bool (!valid s)) ∧ w = w' := by
  go_enter Tryz.func193, Tryz.ntmps193
  go_wp2_with (go_at_call 61; refine (natural_Valid _ _).mono ?_; rintro e w' ⟨rfl, rfl⟩)
  go_ret
  exact ⟨rfl, rfl⟩
theorem ls_all_not {ls : List ByteArray} {p : ByteArray → Bool} {k : Nat} (hk : k < ls.length) (h : p (ls.getD k ByteArray.empty) = false) : ls.all p = false := by
  rw [List.all_eq_false]; exact ⟨ls[k], List.getElem_mem hk, by rw [sgetD_lt hk] at h; simp [h]⟩
theorem ls_all_of {ls : List ByteArray} {p : ByteArray → Bool} (h : ∀ j, j < ls.length → p (ls.getD j ByteArray.empty) = true) : ls.all p = true := by
  rw [List.all_eq_true]
  intro x hx
  obtain ⟨j, hj, rfl⟩ := List.getElem_of_mem hx
  have := h j hj
  rw [sgetD_lt hj] at this
  exact this
theorem index_valid (ls : List ByteArray) (A : Option Addr) (n c b : Nat) (w : World) (hn : ls.length = n) (hm : n ≤ 100000) (h : SLs w b A ls) :
    Calls Tryz.prog 145 #[.slice A n c, .func (.func 193) #[] #[]] w fun e w' => (∃ z : Int, e = .returned (.int .i64 z) ∧ decide (0 ≤ z) = !(ls.all valid)) ∧ w = w' := by
  have HN := Lib.hid hn
  have HS := Lib.hid h
  clear hn h
  go_enter Tryz.func145, Tryz.ntmps145
  go_wp2
  go_loop [8] (fun v => ∃ k : Nat, k ≤ n ∧ v = .int .i64 k ∧ ∀ j, j < k → valid (ls.getD j ByteArray.empty) = true) (fun v => n - (intOf v).toNat)
  case atStart => exact ⟨0, by omega, rfl, fun j h => absurd h (by omega)⟩
  case round =>
    obtain ⟨k, hk, rfl, hall⟩ := hrel
    have HA := Lib.hid hall
    clear hall
    by_cases hlt : k < n
    · obtain ⟨ad, rfl, hc⟩ := HS.out.at_ (k := k) (by rw [HN.out]; exact hlt)
      obtain ⟨s, hs⟩ : ∃ s, ls.getD k ByteArray.empty = s := ⟨_, rfl⟩
      rw [hs] at hc
      have HSS := Lib.hid hs
      clear hs
      cases hv : valid s
      · have HF : Hid (ls.all valid = false) := Lib.hid (ls_all_not (k := k) (by rw [HN.out]; exact hlt) (by rw [HSS.out]; exact hv))
        have hck := coins_good1 s
        rw [hv] at hck
        have HCK := Lib.hid hck
        clear hck hv
        go_wp2_with (go_at_call 193; refine (HCK.out _).mono ?_; rintro e w' ⟨rfl, rfl⟩)
        go_ret
        refine ⟨⟨(k : Int), rfl, ?_⟩, rfl⟩
        rw [HF.out]
        simp
      · have HV := Lib.hid hv
        clear hv
        have hck := coins_good1 s
        rw [HV.out] at hck
        have HCK := Lib.hid hck
        clear hck
        go_wp2_with (go_at_call 193; refine (HCK.out _).mono ?_; rintro e w' ⟨rfl, rfl⟩)
        go_round
        case rel => exact ⟨k + 1, by omega, by go_num, fun j hj => by
          by_cases e : j = k
          · subst e; rw [HSS.out]; exact HV.out
          · exact HA.out j (by omega)⟩
        case measure => simp [intOf]; omega
    · obtain rfl : k = n := by omega
      have HF : Hid (ls.all valid = true) := Lib.hid (ls_all_of (fun j hj => HA.out j (by rw [HN.out] at hj; exact hj)))
      go_wp2
      go_ret
      refine ⟨⟨-1, rfl, ?_⟩, rfl⟩
      rw [HF.out]
      rfl
theorem contains_valid (ls : List ByteArray) (A : Option Addr) (n c b : Nat) (w : World) (hn : ls.length = n) (hm : n ≤ 100000) (h : SLs w b A ls) :
    Calls Tryz.prog 84 #[.slice A n c, .func (.func 193) #[] #[]] w fun e w' => e = .returned (.bool (!(ls.all valid))) ∧ w = w' := by
  have H := Lib.hid (index_valid ls A n c b w hn hm h)
  clear h
  go_enter Tryz.func84, Tryz.ntmps84
  go_wp2_with (go_at_call 145; refine H.out.mono ?_; rintro e w' ⟨⟨z, rfl, hz⟩, rfl⟩; have HZ := Lib.hid hz; clear hz)
  go_ret
  exact ⟨ret_bool HZ.out, rfl⟩
theorem coins_good (vals : List ByteArray) (A : Option Addr) (n c b : Nat) (seed : ByteArray) (z : Int) (w : World) (hn : vals.length = n) (hm : n ≤ 100000) (h : SLs w b A vals) (hb : b ≤ w.heap.size) :
    Calls Tryz.prog 156 #[.agg #[.slice A n c, .string seed, .int .i64 z]] w fun e w' => e = .returned (.bool (goodT vals z)) ∧ Below w.heap.size w w' := by
  have H := Lib.hid (contains_valid vals A n c b (w.alloc (.cells #[.slice A n c, .string seed, .int .i64 z] 48)) hn hm (h.next hb ((Below.refl _ _).alloc (Nat.le_refl _) _)))
  have HG : Hid (goodT vals z = (decide (0 ≤ z) && (decide (z ≤ 2147483647) && vals.all valid))) := Lib.hid rfl
  clear h
  by_cases h0 : 0 ≤ z
  · by_cases h1 : z ≤ 2147483647
    · cases hv : vals.all valid
      · rw [hv] at H HG
        have HR : Hid (goodT vals z = false) := Lib.hid (by rw [HG.out]; simp)
        clear hv HG
        go_enter Tryz.func156, Tryz.ntmps156
        go_wp2_with (go_at_call 84; refine H.out.mono ?_; rintro e w' ⟨rfl, rfl⟩)
        go_ret
        exact ⟨ret_bool HR.out.symm, (Below.refl _ _).alloc (Nat.le_refl _) _⟩
      · rw [hv] at H HG
        have HR : Hid (goodT vals z = true) := Lib.hid (by rw [HG.out]; simp [h0, h1])
        clear hv HG
        go_enter Tryz.func156, Tryz.ntmps156
        go_wp2_with (go_at_call 84; refine H.out.mono ?_; rintro e w' ⟨rfl, rfl⟩)
        go_ret
        exact ⟨ret_bool HR.out.symm, (Below.refl _ _).alloc (Nat.le_refl _) _⟩
    · have HR : Hid (goodT vals z = false) := Lib.hid (by rw [HG.out]; simp [h1])
      clear HG H
      go_enter Tryz.func156, Tryz.ntmps156
      go_wp2
      go_ret
      exact ⟨ret_bool HR.out.symm, (Below.refl _ _).alloc (Nat.le_refl _) _⟩
  · have HR : Hid (goodT vals z = false) := Lib.hid (by rw [HG.out]; simp [h0])
    clear HG H
    go_enter Tryz.func156, Tryz.ntmps156
    go_wp2
    go_ret
    exact ⟨ret_bool HR.out.symm, (Below.refl _ _).alloc (Nat.le_refl _) _⟩
theorem coins_ready (vals : List ByteArray) (A : Option Addr) (n c b : Nat) (seed m : ByteArray) (z : Int) (w : World) (hn : vals.length = n) (hm : n ≤ 100000) (h : SLs w b A vals) (hb : b ≤ w.heap.size) :
    Calls Tryz.prog 100 #[.agg #[.slice A n c, .string seed, .int .i64 z], .string m] w fun e w' => e = .returned (.int .i64 (readyT vals z m)) ∧ Below w.heap.size w w' := by
  have hba : Below w.heap.size w (w.alloc (.cells #[.slice A n c, .string seed, .int .i64 z] 48)) := (Below.refl _ _).alloc (Nat.le_refl _) _
  have H := Lib.hid (coins_good vals A n c b seed z (w.alloc (.cells #[.slice A n c, .string seed, .int .i64 z] 48)) hn hm (h.next hb hba) (Nat.le_trans hb hba.size))
  have HBA := Lib.hid hba
  have HG : Hid (readyT vals z m = if (goodT vals z && valid m) = true then (if m.toList.isEmpty = true then 11 else 0) else 3) := Lib.hid rfl
  clear h hba
  cases hg : goodT vals z
  · rw [hg] at H HG
    clear hg
    go_enter Tryz.func100, Tryz.ntmps100
    go_wp2_with (go_at_call 156; refine H.out.mono ?_; rintro e w1 ⟨rfl, hb1⟩; have HB1 := Lib.hid hb1; clear hb1)
    go_ret
    exact ⟨ret_int (by rw [HG.out]; rfl), HBA.out.trans (HB1.out.mono HBA.out.size)⟩
  · rw [hg] at H HG
    clear hg
    cases hv : valid m
    · rw [hv] at HG
      have hck := natural_Valid m
      rw [hv] at hck
      have HCK := Lib.hid hck
      clear hck hv
      go_enter Tryz.func100, Tryz.ntmps100
      go_wp2_with (first | (go_at_call 156; refine H.out.mono ?_; rintro e w1 ⟨rfl, hb1⟩; have HB1 := Lib.hid hb1; clear hb1) | (go_at_call 61; refine (HCK.out _).mono ?_; rintro e w' ⟨rfl, rfl⟩))
      go_ret
      exact ⟨ret_int (by rw [HG.out]; rfl), HBA.out.trans (HB1.out.mono HBA.out.size)⟩
    · rw [hv] at HG
      have hck := natural_Valid m
      rw [hv] at hck
      have HCK := Lib.hid hck
      clear hck hv
      cases he : m.toList.isEmpty
      · rw [he] at HG
        go_enter Tryz.func100, Tryz.ntmps100
        go_wp2_with (first | (go_at_call 156; refine H.out.mono ?_; rintro e w1 ⟨rfl, hb1⟩; have HB1 := Lib.hid hb1; clear hb1) | (go_at_call 61; refine (HCK.out _).mono ?_; rintro e w' ⟨rfl, rfl⟩))
        go_ret
        exact ⟨ret_int (by rw [HG.out]; rfl), HBA.out.trans (HB1.out.mono HBA.out.size)⟩
      · rw [he] at HG
        go_enter Tryz.func100, Tryz.ntmps100
        go_wp2_with (first | (go_at_call 156; refine H.out.mono ?_; rintro e w1 ⟨rfl, hb1⟩; have HB1 := Lib.hid hb1; clear hb1) | (go_at_call 61; refine (HCK.out _).mono ?_; rintro e w' ⟨rfl, rfl⟩))
        go_ret
        exact ⟨ret_int (by rw [HG.out]; rfl), HBA.out.trans (HB1.out.mono HBA.out.size)⟩

end Go.Proofs.YtkdbemdobfddoaaGreatDoor

namespace Go.Proofs.YtkdbemdobfddoaaGreatDoor
open Go.RowKit
set_option linter.unusedVariables false

theorem pow_256_two (k : Nat) : 256 ^ k = 2 ^ (8 * k) := by rw [show (256 : Nat) = 2 ^ 8 from rfl, ← Nat.pow_mul]
theorem mask_val (b : UInt8) (r : List UInt8) (len sh : Nat) (h : 8 * (r.length + 1) = len + sh) (h7 : sh ≤ 7) :
    val (UInt8.ofNat (b.toNat % 2 ^ (8 - sh)) :: r) = val (b :: r) % 2 ^ len := by
  have e : 2 ^ len = 2 ^ (8 - sh) * 256 ^ r.length := by
    rw [pow_256_two, ← Nat.pow_add]
    congr 1
    omega
  have hv := val_lt r
  obtain ⟨P, hP⟩ : ∃ P, P = 2 ^ (8 - sh) := ⟨_, rfl⟩
  have hP0 : 0 < P := by rw [hP]; exact Nat.pow_pos (by decide)
  have hP8 : P ≤ 256 := by rw [hP, show (256 : Nat) = 2 ^ 8 from rfl]; exact Nat.pow_le_pow_right (by decide) (by omega)
  have hb : (UInt8.ofNat (b.toNat % P)).toNat = b.toNat % P := by
    rw [UInt8.toNat_ofNat']
    have := Nat.mod_lt b.toNat hP0
    exact Nat.mod_eq_of_lt (by omega)
  rw [val_cons, val_cons, e, ← hP, hb]
  obtain ⟨K, hK⟩ : ∃ K, K = 256 ^ r.length := ⟨_, rfl⟩
  rw [← hK] at hv ⊢
  have hd := Nat.div_add_mod b.toNat P
  have hm := Nat.mod_lt b.toNat hP0
  have e2 : b.toNat * K + val r = P * K * (b.toNat / P) + (b.toNat % P * K + val r) := by
    have : b.toNat * K = (P * (b.toNat / P) + b.toNat % P) * K := by rw [hd]
    rw [this, Nat.add_mul]
    have : P * (b.toNat / P) * K = P * K * (b.toNat / P) := by rw [Nat.mul_assoc, Nat.mul_comm (b.toNat / P), ← Nat.mul_assoc]
    omega
  rw [e2, Nat.mul_add_mod]
  refine (Nat.mod_eq_of_lt ?_).symm
  have : b.toNat % P * K + K ≤ P * K := by
    rw [← Nat.succ_mul]
    exact Nat.mul_le_mul_right K hm
  omega
theorem u8_and_mask (b : UInt8) (k : Nat) (hk : k ≤ 8) : bits .and .u8 (b.toNat : Int) ((2 ^ k - 1 : Nat) : Int) = ((b.toNat % 2 ^ k : Nat) : Int) := by
  have hx : ∀ a : Nat, a < 256 → (BitVec.ofInt 8 (a : Int)).toNat = a := by
    intro a ha
    rw [BitVec.toNat_ofInt]
    omega
  have hp : 2 ^ k ≤ 2 ^ 8 := Nat.pow_le_pow_right (by decide) hk
  have hp0 : 0 < 2 ^ k := Nat.pow_pos (by decide)
  have hb := byte_lt b
  show IntKind.u8.wrap ((BitVec.ofInt 8 (b.toNat : Int) &&& BitVec.ofInt 8 ((2 ^ k - 1 : Nat) : Int)).toNat : Int) = _
  rw [BitVec.toNat_and, hx _ hb, hx _ (by omega), Nat.and_two_pow_sub_one_eq_mod]
  have h1 := Nat.mod_lt b.toNat hp0
  obtain ⟨x, hx2⟩ : ∃ x, x = b.toNat % 2 ^ k := ⟨_, rfl⟩
  rw [← hx2] at h1 ⊢
  have h2 : x < 256 := by omega
  clear h1 hx2
  simp only [IntKind.wrap, IntKind.bits, IntKind.signed]
  simp
  omega

end Go.Proofs.YtkdbemdobfddoaaGreatDoor
