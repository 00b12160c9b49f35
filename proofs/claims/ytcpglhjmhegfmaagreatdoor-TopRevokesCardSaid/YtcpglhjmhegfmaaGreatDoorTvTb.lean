/- TopRevokes, plain: lists of handles, the members after a step, and what the law finds. -/
import Derived.Test.YtcpglhjmhegfmaaGreatDoorTvTa
namespace Go.Proofs.YtcpglhjmhegfmaaGreatDoor
open Go.RowKit
set_option maxRecDepth 100000
set_option linter.unusedVariables false
set_option maxHeartbeats 4000000
/-- A handle: a small prime that does not divide the order. -/
def Hdl (d : Nat) (u : ByteArray) : Prop := valid u = true ∧ 3 ≤ num u ∧ num u < 65536 ∧ isS (num u) = true ∧ d % num u ≠ 0
/-- A list of different handles. -/
def HH (d : Nat) (l : List ByteArray) : Prop := (∀ u ∈ l, Hdl d u) ∧ twiceB l = false
structure HRdy (m o p q ku u : ByteArray) (ms : List ByteArray) (Cs : List (List ByteArray)) : Prop where
  sm : m.size ≤ 8
  sq : isSquareS m o p q ku = (true, 0)
  ord : (orderS p q).2 = 0
  hms : HH (num (orderS p q).1) ms
  hml : ms.length ≤ 8
  hcs : ∀ c ∈ Cs, HH (num (orderS p q).1) c ∧ c.length ≤ 8
  hcl : Cs.length ≤ 6
  mem : u ∈ ms
theorem Hdl.ne {d : Nat} {u : ByteArray} (h : Hdl d u) : u.toList.isEmpty = false := by
  have h3 := h.2.1
  cases he : u.toList.isEmpty
  · rfl
  · have h1 := B_num h.1
    have h0 : num u = 0 := by
      unfold num
      have := List.isEmpty_iff.1 he
      rw [ByteArray.toList_eq] at this
      rw [this]
      rfl
    omega
theorem HH.all_valid {d : Nat} {l : List ByteArray} (h : HH d l) : l.all valid = true := List.all_eq_true.2 fun u hu => (h.1 u hu).1
theorem HH.none_empty {d : Nat} {l : List ByteArray} (h : HH d l) : l.any (fun u => u.toList.isEmpty) = false := List.any_eq_false.2 fun u hu => by rw [(h.1 u hu).ne]; decide
/-- What the group and its element are. -/
structure GrpOk (m o p q ku : ByteArray) : Prop where
  vm : valid m = true
  vo : valid o = true
  vk : valid ku = true
  ge : groupE m o = 0
  hg : hasG m o ku = true
theorem HRdy.grp {m o p q ku u : ByteArray} {ms : List ByteArray} {Cs : List (List ByteArray)} (h : HRdy m o p q ku u ms Cs) : GrpOk m o p q ku := by
  have hel : elementS m o p q ku = 0 := congrArg Prod.snd h.sq
  have f := elementS_zero hel
  obtain ⟨_, hg, _⟩ := checkS_zero f.chk
  obtain ⟨hoe, vo⟩ := goodS_o hg
  refine ⟨f.vm, vo, f.vx, goodS_group hg vo, ?_⟩
  unfold hasG
  rw [if_pos hoe]
  exact f.has
theorem GrpOk.ready {m o p q ku : ByteArray} {d : Nat} {l : List ByteArray} (g : GrpOk m o p q ku) (h : HH d l) : readyS m o [ku] l = 0 := by
  unfold readyS
  simp only [List.all_cons, List.all_nil, Bool.and_true]
  rw [if_pos (by rw [g.vk, h.all_valid, g.vm, g.vo]; rfl), if_pos g.ge, if_pos g.hg, if_neg (by rw [h.none_empty]; simp)]
theorem GrpOk.value {m o p q ku : ByteArray} {d : Nat} {l : List ByteArray} (g : GrpOk m o p q ku) (h : HH d l) : valueS m o ku l = (B (raiseN (num m) l (num ku)), 0) := by
  unfold valueS
  rw [if_pos (g.ready h), if_neg (by rw [h.2]; simp)]
theorem GrpOk.raise {m o p q ku : ByteArray} (g : GrpOk m o p q ku) (sm : m.size ≤ 8) (l : List ByteArray) : hasG m o (B (raiseN (num m) l (num ku))) = true :=
  hasG_raise sm g.ge (by rw [B_num g.vk]; exact g.hg)
/-- The members after a step. -/
def nextM (M C : List ByteArray) : List ByteArray := M.filter (fun x => !(C.any fun y => y.toList == x.toList)) ++ C.filter (fun x => !(M.any fun y => y.toList == x.toList))
theorem twiceB_filter {l : List ByteArray} (h : twiceB l = false) (f : ByteArray → Bool) : twiceB (l.filter f) = false := by
  induction l with
  | nil => rfl
  | cons u l ih =>
    simp only [twiceB, Bool.or_eq_false_iff] at h
    cases hf : f u
    · rw [List.filter_cons_of_neg (by rw [hf]; simp)]; exact ih h.2
    · rw [List.filter_cons_of_pos hf]
      simp only [twiceB, Bool.or_eq_false_iff]
      refine ⟨?_, ih h.2⟩
      rw [List.any_eq_false] at h ⊢
      exact fun x hx => h.1 x (List.mem_filter.1 hx).1
theorem twiceB_join {a b : List ByteArray} (ha : twiceB a = false) (hb : twiceB b = false) (h : ∀ x ∈ a, ∀ y ∈ b, (y.toList == x.toList) = false) : twiceB (a ++ b) = false := by
  induction a with
  | nil => exact hb
  | cons u a ih =>
    simp only [twiceB, Bool.or_eq_false_iff] at ha
    simp only [List.cons_append, twiceB, List.any_append, Bool.or_eq_false_iff]
    refine ⟨⟨ha.1, ?_⟩, ih ha.2 fun x hx => h x (List.mem_cons_of_mem _ hx)⟩
    rw [List.any_eq_false]
    exact fun y hy => by rw [h u (List.mem_cons_self ..) y hy]; simp
theorem HH.next {d : Nat} {M C : List ByteArray} (h1 : HH d M) (h2 : HH d C) : HH d (nextM M C) := by
  constructor
  · intro u hu
    rcases List.mem_append.1 hu with h | h
    · exact h1.1 u (List.mem_filter.1 h).1
    · exact h2.1 u (List.mem_filter.1 h).1
  · refine twiceB_join (twiceB_filter h1.2 _) (twiceB_filter h2.2 _) fun x hx y hy => ?_
    have hy2 := (List.mem_filter.1 hy).2
    have hx1 := (List.mem_filter.1 hx).1
    rw [Bool.not_eq_true', List.any_eq_false] at hy2
    have := hy2 x hx1
    rw [Bool.beq_comm]
    simpa using this
theorem nextM_length (M C : List ByteArray) : (nextM M C).length ≤ M.length + C.length := by
  unfold nextM
  rw [List.length_append]
  have h1 := List.length_filter_le (fun x => !(C.any fun y => y.toList == x.toList)) M
  have h2 := List.length_filter_le (fun x => !(M.any fun y => y.toList == x.toList)) C
  omega
/-- The witness of a member, checked against the value of any members. -/
theorem HRdy.start {m o p q ku u : ByteArray} {ms : List ByteArray} {Cs : List (List ByteArray)} (h : HRdy m o p q ku u ms Cs) :
    ∃ W Z : Nat, witnessS m o ku ms u = (B W, 0) ∧ valueS m o ku ms = (B Z, 0) ∧ ∀ M, HH (num (orderS p q).1) M → valueS m o ku M = (B (raiseN (num m) M (num ku)), 0) ∧
      checkAS m o (B (raiseN (num m) M (num ku))) u (B W) = (if raiseN (num m) M (num ku) = Z then 0 else 20) ∧ raiseN (num m) ms (num ku) = Z := by
  have g := h.grp
  obtain ⟨k, hk, he⟩ := List.getElem_of_mem h.mem
  obtain ⟨W, hw1, hw2, hw3⟩ := proves_step h.sm (g.ready h.hms) h.hms.2 hk
  have hu : ms.getD k ByteArray.empty = u := by rw [sgetD_lt hk, he]
  rw [hu] at hw1 hw2 hw3
  refine ⟨W, _, hw1, g.value h.hms, fun M hM => ⟨g.value hM, ?_, rfl⟩⟩
  have hv3 := hw3
  unfold checkAS at hw3
  split at hw3
  · rename_i hr
    rw [num_B, num_B] at hw3
    have hpow : W ^ num u % num m = raiseN (num m) ms (num ku) := by
      split at hw3
      · assumption
      · cases hw3
    have hvu := (h.hms.1 u h.mem)
    have hwg : hasG m o (B W) = true := by
      unfold readyS at hr
      split at hr
      · split at hr
        · split at hr
          · rename_i hal
            simp only [List.all_cons, List.all_nil, Bool.and_true, Bool.and_eq_true] at hal
            exact hal.2
          · cases hr
        · rename_i hne; exact absurd g.ge hne
      · cases hr
    have hzg := g.raise h.sm M
    have hr2 : readyS m o [B (raiseN (num m) M (num ku)), B W] [u] = 0 := by
      unfold readyS
      simp only [List.all_cons, List.all_nil, Bool.and_true, List.any_cons, List.any_nil, Bool.or_false]
      rw [if_pos (by rw [(hasG_lt h.sm hzg).1, (hasG_lt h.sm hwg).1, hvu.1, g.vm, g.vo]; rfl), if_pos g.ge, if_pos (by rw [hzg, hwg]; rfl), if_neg (by rw [hvu.ne]; simp)]
    unfold checkAS
    rw [if_pos hr2, num_B, num_B, hpow]
    by_cases e : raiseN (num m) M (num ku) = raiseN (num m) ms (num ku)
    · rw [if_pos e, if_pos e.symm]
    · rw [if_neg e, if_neg (fun h => e h.symm)]
  · rename_i hr
    exact absurd hw3 hr
/-- In a small group exactly one square is a witness. -/
theorem HRdy.one {m o p q ku u : ByteArray} {ms : List ByteArray} {Cs : List (List ByteArray)} (h : HRdy m o p q ku u ms Cs) (hn : num m ≤ 500) (M : List ByteArray) :
    ∃ w0, 1 ≤ w0 ∧ w0 < num m ∧ ∀ w, 1 ≤ w → w < num m → (((isSquareS m o p q (B w)).2 = 0 ∧ (isSquareS m o p q (B w)).1 = true ∧ checkAS m o (B (raiseN (num m) M (num ku))) u (B w) = 0) ↔ w = w0) := by
  have g := h.grp
  have hel : elementS m o p q ku = 0 := congrArg Prod.snd h.sq
  have f := elementS_zero hel
  have hzg := g.raise h.sm M
  have sg := small_group (by omega) f.chk
  have hq1 : (isEulS m o p q ku).1 = true := by rw [← squares_same hn, h.sq]
  unfold isEulS at hq1
  simp only [Bool.and_eq_true] at hq1
  obtain ⟨_, e1, e2⟩ := hq1
  have hdp : num p ∣ num m := ⟨num q, sg.hpq.symm⟩
  have hdq : num q ∣ num m := ⟨num p, by rw [← sg.hpq, Nat.mul_comm]⟩
  have p2 := sg.p2
  have q2 := sg.q2
  have r1 := eul_raise hdp (by omega) e1 M
  have r2 := eul_raise hdq (by omega) e2 M
  have hoe := (goodS_o (checkS_zero f.chk).2.1).1
  have hel2 : elementS m o p q (B (raiseN (num m) M (num ku))) = 0 := by
    unfold hasG at hzg
    rw [if_pos hoe] at hzg
    unfold elementS
    rw [(hasG_lt h.sm (g.raise h.sm M)).1, f.chk, hzg]
    rfl
  have hE : isEulS m o p q (B (raiseN (num m) M (num ku))) = (true, 0) := by
    unfold isEulS
    rw [hel2, num_B, r1, r2]
    rfl
  have hu := h.hms.1 u h.mem
  have vor : valid (orderS p q).1 = true := by
    have ho := h.ord
    unfold orderS at ho ⊢
    split at ho
    · split at ho
      · rename_i h1 h2
        rw [if_pos h1, if_pos h2]
        unfold natMul fitted at ho ⊢
        split at ho
        · rename_i h3
          rw [if_pos h3]
          split at ho
          · rename_i h4
            rw [if_pos h4]
            exact valid_B h4
          · cases ho
        · cases ho
      · rename_i h1 h2
        exact absurd ho h2
    · cases ho
  have hgc := handle_gcd hu.2.2.2.1 hu.2.2.1 hu.2.2.2.2
  obtain ⟨w0, a, b, c⟩ := unique_witness (m := m) (o := o) (p := p) (q := q) (acc := B (raiseN (num m) M (num ku))) (u := u) h.sm (by omega) (by rw [hE]) (by rw [hE]) h.ord
    (by unfold natGcd; rw [hu.1, vor]; rfl) (by unfold natGcd; rw [hu.1, vor]; simp only [Bool.and_self, if_true]; rw [hgc]; simp) hu.ne
  refine ⟨w0, a, b, fun w h1 h2 => ?_⟩
  rw [squares_same hn]
  exact c w h1 h2
end Go.Proofs.YtcpglhjmhegfmaaGreatDoor
