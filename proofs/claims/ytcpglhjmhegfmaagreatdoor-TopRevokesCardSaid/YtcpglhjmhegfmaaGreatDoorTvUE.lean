/- The law AccumulatorProves: it returns true. -/
import Derived.Test.YtcpglhjmhegfmaaGreatDoorTvUm2
namespace Go.Proofs.YtcpglhjmhegfmaaGreatDoor
open Go.RowKit
set_option maxRecDepth 100000
set_option linter.unusedVariables false
set_option maxHeartbeats 2000000
theorem readyS_sub {m o u : ByteArray} {ms : List ByteArray} {x : ByteArray} (h : readyS m o [u] ms = 0) (hx : ms.any (fun y => y.toList == x.toList) = true) : readyS m o [u] (x :: ms) = 0 := by
  obtain ⟨h1, h2, h3, h4, h5⟩ := readyS_ok h
  rw [List.any_eq_true] at hx
  obtain ⟨y, hy, he⟩ := hx
  have exy : y = x := by
    rw [toList_beq_iff, decide_eq_true_eq] at he
    have : y.data = x.data := Array.ext' he
    cases y; cases x; simpa using this
  subst exy
  have hv : (y :: ms).all valid = true := by rw [List.all_cons, List.all_eq_true.1 h2 y hy, h2]; rfl
  have ha : (y :: ms).any (fun u => u.toList.isEmpty) = false := by
    rw [List.any_cons, h5, Bool.or_false]
    rw [List.any_eq_false] at h5
    simpa using h5 y hy
  unfold readyS at h ⊢
  split at h
  · rename_i hc
    simp only [Bool.and_eq_true] at hc
    rw [if_pos (by rw [h1, hv, hc.2.2.1, hc.2.2.2]; rfl), if_pos h3, if_pos h4, if_neg (by rw [ha]; simp)]
  · cases h
theorem filter_perm {ms : List ByteArray} {x : ByteArray} (h2 : twiceB ms = false) (hx : x ∈ ms) : (ms.filter (fun y => !(y.toList == x.toList)) ++ [x]).Perm ms := by
  induction ms with
  | nil => cases hx
  | cons a l ih =>
    simp only [twiceB, Bool.or_eq_false_iff] at h2
    rcases List.mem_cons.1 hx with rfl | hx'
    · have hf : l.filter (fun y => !(y.toList == x.toList)) = l := by
        rw [List.filter_eq_self]
        intro y hy
        have := List.any_eq_false.1 h2.1 y hy
        simpa using this
      rw [List.filter_cons_of_neg (by simp), hf]
      exact List.perm_append_comm
    · have hne : (a.toList == x.toList) = false := by
        have := List.any_eq_false.1 h2.1 x hx'
        rw [Bool.beq_comm]
        simpa using this
      rw [List.filter_cons_of_pos (by rw [hne]; rfl), List.cons_append]
      exact (ih h2.2 hx').cons a
theorem hasG_raise {m o : ByteArray} (sm : m.size ≤ 8) (hg : groupE m o = 0) {l : List ByteArray} {x : Nat} (h : hasG m o (B x) = true) : hasG m o (B (raiseN (num m) l x)) = true := by
  have hlt := (hasG_lt sm h).2.2.1
  rw [num_B] at hlt
  rw [raiseN_eq l hlt]
  exact hasG_pow sm hg h
/-- What the law finds for a member. -/
theorem proves_step {m o u : ByteArray} {ms : List ByteArray} (sm : m.size ≤ 8) (h0 : readyS m o [u] ms = 0) (h2 : twiceB ms = false) {k : Nat} (hk : k < ms.length) :
    ∃ W : Nat, witnessS m o u ms (ms.getD k ByteArray.empty) = (B W, 0) ∧ addS m o (B W) (ms.getD k ByteArray.empty) = (B (raiseN (num m) ms (num u)), 0) ∧ checkAS m o (B (raiseN (num m) ms (num u))) (ms.getD k ByteArray.empty) (B W) = 0 := by
  obtain ⟨x, hx⟩ : ∃ x, ms.getD k ByteArray.empty = x := ⟨_, rfl⟩
  have hmem : x ∈ ms := by rw [← hx, sgetD_lt hk]; exact List.getElem_mem hk
  rw [hx]
  have hany : ms.any (fun y => y.toList == x.toList) = true := List.any_eq_true.2 ⟨x, hmem, by simp⟩
  obtain ⟨h1, hv, hg, ha, he⟩ := readyS_ok h0
  simp only [List.all_cons, List.all_nil, Bool.and_true] at ha h1
  have hvu := h1
  have hbu : B (num u) = u := B_num hvu
  have ha' : hasG m o (B (num u)) = true := by rw [hbu]; exact ha
  have hlt := (hasG_lt sm ha).2.2.1
  have hgm : valid m = true ∧ valid o = true := by
    unfold readyS at h0
    split at h0
    · rename_i hc
      simp only [Bool.and_eq_true] at hc
      exact ⟨hc.2.2.1, hc.2.2.2⟩
    · cases h0
  have hvx : valid x = true := List.all_eq_true.1 hv x hmem
  have hex : x.toList.isEmpty = false := by
    have := List.any_eq_false.1 he x hmem
    simpa using this
  refine ⟨raiseN (num m) (ms.filter fun y => !(y.toList == x.toList)) (num u), ?_, ?_, ?_⟩
  · unfold witnessS
    rw [if_pos (readyS_sub h0 hany), if_neg (by rw [h2]; simp), if_pos hany]
  all_goals
    obtain ⟨W, hW⟩ : ∃ W, raiseN (num m) (ms.filter fun y => !(y.toList == x.toList)) (num u) = W := ⟨_, rfl⟩
    obtain ⟨Z, hZ⟩ : ∃ Z, raiseN (num m) ms (num u) = Z := ⟨_, rfl⟩
    have hWg : hasG m o (B W) = true := by rw [← hW]; exact hasG_raise sm hg ha'
    have hZg : hasG m o (B Z) = true := by rw [← hZ]; exact hasG_raise sm hg ha'
    have hWv := (hasG_lt sm hWg).1
    have hZv := (hasG_lt sm hZg).1
    have hpow : W ^ num x % num m = Z := by
      rw [← hW, ← hZ, ← raiseN_snoc, raiseN_eq _ hlt, raiseN_eq _ hlt, prodN_perm (filter_perm h2 hmem)]
    rw [hW, hZ]
  · unfold addS
    rw [if_pos, num_B, hpow]
    unfold readyS
    simp only [List.all_cons, List.all_nil, Bool.and_true, List.any_cons, List.any_nil, Bool.or_false]
    rw [if_pos (by rw [hWv, hvx, hgm.1, hgm.2]; rfl), if_pos hg, if_pos hWg, if_neg (by rw [hex]; simp)]
  · unfold checkAS
    rw [if_pos, num_B, num_B, if_pos hpow]
    unfold readyS
    simp only [List.all_cons, List.all_nil, Bool.and_true, List.any_cons, List.any_nil, Bool.or_false]
    rw [if_pos (by rw [hWv, hZv, hvx, hgm.1, hgm.2]; rfl), if_pos hg, if_pos (by rw [hWg, hZg]; rfl), if_neg (by rw [hex]; simp)]
end Go.Proofs.YtcpglhjmhegfmaaGreatDoor
