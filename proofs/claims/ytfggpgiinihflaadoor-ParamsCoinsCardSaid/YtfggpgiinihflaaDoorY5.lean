/- The walks of package coins: draws that fail. -/
import Derived.Test.YtfggpgiinihflaaDoorY4
namespace Go.Proofs.YtfggpgiinihflaaDoor
open Go.RowKit
set_option maxRecDepth 100000
set_option linter.unusedVariables false
set_option maxHeartbeats 4000000

theorem below_res (w : World) (a b : Obj) : Below w.heap.size w ((w.alloc a).alloc b) := ((Below.refl _ _).alloc (Nat.le_refl _) _).alloc (by simp) _
theorem draw_high (vals : List ByteArray) (A : Option Addr) (n c : Nat) (seed : ByteArray) (k v m : Nat) (w : World) (hn : vals.length = n) (hm : n ≤ 1000) (h : SLs w w.heap.size A vals) (hk : k < n)
    (hv : vals.getD k ByteArray.empty = B v) (hv1 : v < lim) (hvm : m ≤ v) (hm1 : m < 18446744073709551616) :
    Calls Tryd.prog 29 #[.agg #[.slice A n c, .string seed, .int .i64 k], .string (B m)] w fun e w' => e = .returned (.tuple #[.string ⟨#[]⟩, .agg #[.slice none 0 0, .string ⟨#[]⟩, .int .i64 0], .int .i64 2]) ∧ Below w.heap.size w w' := by
  obtain ⟨ad, rfl, hadb, hall⟩ := h (by intro e; rw [e] at hn; simp at hn; omega)
  have hc0 := hall k (by omega)
  rw [hv] at hc0
  have hc1 : ((w.alloc (.cells #[.slice (some ad) n c, .string seed, .int .i64 k] 24)).alloc (.cells #[.slice none 0 0, .string ⟨#[]⟩, .int .i64 0] 24)).cell? (ad.add k) = some (.string (B v)) := by
    rw [World.cell?_alloc_lt _ _ _ (by rw [block_of_add]; simp; omega), World.cell?_alloc_lt _ _ _ (by rw [block_of_add]; exact hadb)]
    exact hc0
  have i0 : (0 : Int) ≤ (k : Int) := by omega
  have i1 : (k : Int) < (n : Int) := by omega
  have KC := Lib.hid (fun w => natural_Cmp (B v) (B m) w)
  rw [natCmp_BB hv1 (Nat.lt_trans hm1 (by decide))] at KC
  obtain ⟨y, hy, hy0⟩ : ∃ y : Int, cmpN v m = y ∧ 0 ≤ y := ⟨_, rfl, by unfold cmpN; rw [if_neg (by omega)]; split <;> decide⟩
  rw [hy] at KC
  clear hy hall hn hc0 hv
  go_enter Tryd.func29, Tryd.ntmps29
  go_wp2_with (first | (go_at_call 43; (with_reducible refine (KC.out _).mono ?_); rintro e w1 ⟨rfl, rfl⟩))
  exact bodyPost_ret (v := .tuple #[.string ⟨#[]⟩, .agg #[.slice none 0 0, .string ⟨#[]⟩, .int .i64 0], .int .i64 2]) (by simp [results, Tryd.results29, go_sem]) rfl ⟨rfl, below_res w _ _⟩
theorem draw_none (vals : List ByteArray) (A : Option Addr) (n c : Nat) (seed : ByteArray) (z : Int) (m : Nat) (w : World) (hm : n ≤ 1000) (hz : (n : Int) ≤ z) (hs : seed.toList.isEmpty = true ∨ z = 2147483647) :
    Calls Tryd.prog 29 #[.agg #[.slice A n c, .string seed, .int .i64 z], .string (B m)] w fun e w' => e = .returned (.tuple #[.string ⟨#[]⟩, .agg #[.slice none 0 0, .string ⟨#[]⟩, .int .i64 0], .int .i64 14]) ∧ Below w.heap.size w w' := by
  have i1 : ¬ z < (n : Int) := by omega
  have i2 : (n : Int) ≤ z := hz
  cases he : seed.toList.isEmpty
  · have hz2 : z = 2147483647 := by rcases hs with h | h; · rw [he] at h; cases h
                                    · exact h
    subst hz2
    go_enter Tryd.func29, Tryd.ntmps29
    go_wp2
    exact bodyPost_ret (v := .tuple #[.string ⟨#[]⟩, .agg #[.slice none 0 0, .string ⟨#[]⟩, .int .i64 0], .int .i64 14]) (by simp [results, Tryd.results29, go_sem]) rfl ⟨rfl, below_res w _ _⟩
  · go_enter Tryd.func29, Tryd.ntmps29
    go_wp2
    exact bodyPost_ret (v := .tuple #[.string ⟨#[]⟩, .agg #[.slice none 0 0, .string ⟨#[]⟩, .int .i64 0], .int .i64 14]) (by simp [results, Tryd.results29, go_sem]) rfl ⟨rfl, below_res w _ _⟩

end Go.Proofs.YtfggpgiinihflaaDoor
