/- The walks of package accumulator: Add, Check. -/
import Derived.Test.YtlppcnjaacbhpaaGreatDoorU6
namespace Go.Proofs.YtlppcnjaacbhpaaGreatDoor
open Go.RowKit
set_option maxRecDepth 100000
set_option linter.unusedVariables false
set_option maxHeartbeats 1000000

def addS (m o acc u : ByteArray) : ByteArray × Int := if readyS m o [acc] [u] = 0 then (B (num acc ^ num u % num m), 0) else (E0, readyS m o [acc] [u])
def checkAS (m o acc u v : ByteArray) : Int := if readyS m o [acc, v] [u] = 0 then (if num v ^ num u % num m = num acc then 0 else 20) else readyS m o [acc, v] [u]
theorem raiseN_one (m : Nat) (u : ByteArray) (x : Nat) : raiseN m [u] x = x ^ num u % m := rfl
/-- ready, at rows that were just made. -/
theorem acc_ready_new (m o : ByteArray) (els hs : List ByteArray) (n1 n2 g1 g2 : Nat) (W W2 : World) (T1 T2 : TypeId) (hW : W2 = (W.alloc (.cells (els.map Value.string).toArray T1)).alloc (.cells (hs.map Value.string).toArray T2)) (hg1 : g1 = W.heap.size) (hg2 : g2 = W.heap.size + 1)
    (sm : m.size ≤ 8) (e1 : els.length = n1) (e2 : hs.length = n2) (b1 : n1 ≤ 1000) (b2 : n2 ≤ 1000) :
    Calls Tryz.prog 24 #[.agg #[.string m, .string o], .slice (some ⟨g1, 0, none⟩) n1 n1, .slice (some ⟨g2, 0, none⟩) n2 n2] W2 fun e w' => e = .returned (.int .i64 (readyS m o els hs)) ∧ Below W2.heap.size W2 w' := by
  subst hg1 hg2
  have hz : W2.heap.size = W.heap.size + 1 + 1 := by rw [hW]; simp
  have h1 : SLs W2 (W.heap.size + 1 + 1) (some ⟨W.heap.size, 0, none⟩) els := by
    rw [hW]
    exact ((SLs.new W T1 els (W.heap.size + 1) (by omega)).below (by have := (Below.refl (W.alloc (.cells (els.map Value.string).toArray T1)).heap.size (W.alloc (.cells (els.map Value.string).toArray T1))).alloc (Nat.le_refl _) (.cells (hs.map Value.string).toArray T2); simp only [World.size_alloc] at this; exact this)).more (by omega)
  have h2 : SLs W2 (W.heap.size + 1 + 1) (some ⟨W.heap.size + 1, 0, none⟩) hs := by
    have := SLs.new (W.alloc (.cells (els.map Value.string).toArray T1)) T2 hs (W.heap.size + 1 + 1) (by simp)
    simp only [World.size_alloc] at this
    rw [hW]
    exact this
  exact acc_ready m o els hs (some ⟨W.heap.size, 0, none⟩) (some ⟨W.heap.size + 1, 0, none⟩) n1 n2 n1 n2 W2 sm e1 e2 b1 b2 (by rw [hz]; exact h1) (by rw [hz]; exact h2)
theorem acc_Add (kn z s r h : Value) (m o ku acc u : ByteArray) (w : World) (sm : m.size ≤ 8) :
    Calls Tryz.prog 21 #[.agg #[kn, .string m, .string o, z, s, r, .string ku, h], .string acc, .string u] w fun e w' => e = .returned (.tuple #[.string (addS m o acc u).1, .int .i64 (addS m o acc u).2]) ∧ Below w.heap.size w w' := by
  have hr : addS m o acc u = if readyS m o [acc] [u] = 0 then (B (num acc ^ num u % num m), 0) else (E0, readyS m o [acc] [u]) := rfl
  have HR := Lib.hid hr
  have HB := Lib.hid (KeyAt.box w kn z s r h m o ku 27)
  have hrd := acc_ready_new m o [acc] [u] 1 1 (w.heap.size + 1) (w.heap.size + 1 + 1) (w.alloc (.cells #[kn, .string m, .string o, z, s, r, .string ku, h] 27)) (((w.alloc (.cells #[kn, .string m, .string o, z, s, r, .string ku, h] 27)).alloc (.cells #[.string acc] 22)).alloc (.cells #[.string u] 22)) 22 22 rfl (by simp) (by simp) sm rfl rfl (by decide) (by decide)
  have HB2 := Lib.hid ((HB.out.alloc (.cells #[.string acc] 22)).alloc (.cells #[.string u] 22))
  have hok := fun h0 => readyS_ok (m := m) (o := o) (els := [acc]) (hs := [u]) h0
  obtain ⟨re, hre⟩ : ∃ re, readyS m o [acc] [u] = re := ⟨_, rfl⟩
  rw [hre] at HR hrd hok
  have HRD := Lib.hid hrd
  have c1 := HB2.out.c1
  have c2 := HB2.out.c2
  clear hr hrd hre
  by_cases h0 : re = 0
  · subst h0
    obtain ⟨_, vl, hg, hx, _⟩ := hok rfl
    simp only [List.all_cons, List.all_nil, Bool.and_true] at hx
    have hva := (hasG_lt sm hx).1
    have hrz := fun (W : World) => acc_raised m o (num acc) [u] (some ⟨W.heap.size, 0, none⟩) 1 1 (W.alloc (.cells #[.string u] 22)) sm hg (by rw [B_num hva]; exact hx) rfl (by decide) (SLs.new W 22 [u] _ (by simp)) vl
    rw [B_num hva] at hrz
    simp only [raiseN_one] at hrz
    have HRZ := Lib.hid hrz
    rw [if_pos rfl] at HR
    generalize num acc ^ num u % num m = Z at *
    clear hok hrz vl hg hx hva
    go_enter Tryz.func21, Tryz.ntmps21
    go_wp2_with (first | (go_at_call 24; (with_reducible refine HRD.out.mono ?_); rintro e w1 ⟨rfl, hb1⟩; have n1 := HB2.out.next hb1; have p1 := n1.c1; have p2 := n1.c2; have H1 := Lib.hid n1; clear n1 hb1) | (go_at_call 26; (with_reducible refine (HRZ.out _).mono ?_); rintro e w3 ⟨rfl, hb3⟩; have H3 := Lib.hid ((H1.out.alloc _).next hb3); clear hb3))
    go_ret2
    exact ⟨ret_se (by rw [HR.out]) (by rw [HR.out]), H3.out.below⟩
  · rw [if_neg h0] at HR
    have hnb : (re != 0) = true := by rw [bne_iff_ne]; exact h0
    clear h0 hok
    go_enter Tryz.func21, Tryz.ntmps21
    go_wp2_with (first | (go_at_call 24; (with_reducible refine HRD.out.mono ?_); rintro e w1 ⟨rfl, hb1⟩; have H1 := Lib.hid (HB2.out.next hb1); clear hb1))
    go_ret2
    exact ⟨ret_se (by rw [HR.out] <;> rfl) (by rw [HR.out]), H1.out.below⟩
theorem acc_Check (kn z s r h : Value) (m o ku acc u v : ByteArray) (w : World) (sm : m.size ≤ 8) :
    Calls Tryz.prog 20 #[.agg #[kn, .string m, .string o, z, s, r, .string ku, h], .string acc, .string u, .string v] w fun e w' => e = .returned (.int .i64 (checkAS m o acc u v)) ∧ Below w.heap.size w w' := by
  have hr : checkAS m o acc u v = if readyS m o [acc, v] [u] = 0 then (if num v ^ num u % num m = num acc then 0 else 20) else readyS m o [acc, v] [u] := rfl
  have HR := Lib.hid hr
  have HB := Lib.hid (KeyAt.box w kn z s r h m o ku 27)
  have hrd := acc_ready_new m o [acc, v] [u] 2 1 (w.heap.size + 1) (w.heap.size + 1 + 1) (w.alloc (.cells #[kn, .string m, .string o, z, s, r, .string ku, h] 27)) (((w.alloc (.cells #[kn, .string m, .string o, z, s, r, .string ku, h] 27)).alloc (.cells #[.string acc, .string v] 22)).alloc (.cells #[.string u] 22)) 22 22 rfl (by simp) (by simp) sm rfl rfl (by decide) (by decide)
  have HB2 := Lib.hid ((HB.out.alloc (.cells #[.string acc, .string v] 22)).alloc (.cells #[.string u] 22))
  have hok := fun h0 => readyS_ok (m := m) (o := o) (els := [acc, v]) (hs := [u]) h0
  obtain ⟨re, hre⟩ : ∃ re, readyS m o [acc, v] [u] = re := ⟨_, rfl⟩
  rw [hre] at HR hrd hok
  have HRD := Lib.hid hrd
  have c1 := HB2.out.c1
  have c2 := HB2.out.c2
  clear hr hrd hre
  by_cases h0 : re = 0
  · subst h0
    obtain ⟨vels, vl, hg, hx, _⟩ := hok rfl
    simp only [List.all_cons, List.all_nil, Bool.and_true, Bool.and_eq_true] at hx vels
    have hva := vels.1
    have hvv := vels.2
    have hrz := fun (W : World) => acc_raised m o (num v) [u] (some ⟨W.heap.size, 0, none⟩) 1 1 (W.alloc (.cells #[.string u] 22)) sm hg (by rw [B_num hvv]; exact hx.2) rfl (by decide) (SLs.new W 22 [u] _ (by simp)) vl
    rw [B_num hvv] at hrz
    simp only [raiseN_one] at hrz
    have HRZ := Lib.hid hrz
    rw [if_pos rfl] at HR
    have kb := B_beq (num v ^ num u % num m) (num acc)
    rw [B_num hva] at kb
    generalize num v ^ num u % num m = Z at *
    clear hok hrz vl hg hx hva hvv vels
    by_cases hz : Z = num acc
    · rw [decide_eq_true hz] at kb
      rw [if_pos hz] at HR
      have kb2 : ((B Z).toList != acc.toList) = false := by rw [bne, kb]; rfl
      clear hz
      go_enter Tryz.func20, Tryz.ntmps20
      go_wp2_with (first | (go_at_call 24; (with_reducible refine HRD.out.mono ?_); rintro e w1 ⟨rfl, hb1⟩; have n1 := HB2.out.next hb1; have p1 := n1.c1; have p2 := n1.c2; have H1 := Lib.hid n1; clear n1 hb1) | (go_at_call 26; (with_reducible refine (HRZ.out _).mono ?_); rintro e w3 ⟨rfl, hb3⟩; have H3 := Lib.hid ((H1.out.alloc _).next hb3); clear hb3))
      go_ret
      exact ⟨ret_int (by rw [HR.out]), H3.out.below⟩
    · rw [decide_eq_false hz] at kb
      rw [if_neg hz] at HR
      have kb2 : ((B Z).toList != acc.toList) = true := by rw [bne, kb]; rfl
      clear hz
      go_enter Tryz.func20, Tryz.ntmps20
      go_wp2_with (first | (go_at_call 24; (with_reducible refine HRD.out.mono ?_); rintro e w1 ⟨rfl, hb1⟩; have n1 := HB2.out.next hb1; have p1 := n1.c1; have p2 := n1.c2; have H1 := Lib.hid n1; clear n1 hb1) | (go_at_call 26; (with_reducible refine (HRZ.out _).mono ?_); rintro e w3 ⟨rfl, hb3⟩; have H3 := Lib.hid ((H1.out.alloc _).next hb3); clear hb3))
      go_ret
      exact ⟨ret_int (by rw [HR.out]), H3.out.below⟩
  · rw [if_neg h0] at HR
    have hnb : (re != 0) = true := by rw [bne_iff_ne]; exact h0
    clear h0 hok
    go_enter Tryz.func20, Tryz.ntmps20
    go_wp2_with (first | (go_at_call 24; (with_reducible refine HRD.out.mono ?_); rintro e w1 ⟨rfl, hb1⟩; have H1 := Lib.hid (HB2.out.next hb1); clear hb1))
    go_ret
    exact ⟨ret_int (by rw [HR.out]), H1.out.below⟩

end Go.Proofs.YtlppcnjaacbhpaaGreatDoor
