/- The walk of the law ShamirCombines. -/
import Derived.Test.YtapplggboepfaaaGreatDoorSQ
import Derived.Test.YtapplggboepfaaaGreatDoorJr
namespace Go.Proofs.YtapplggboepfaaaGreatDoor
open Go.RowKit
set_option maxRecDepth 100000
set_option linter.unusedVariables false
set_option linter.unusedSimpArgs false
set_option maxHeartbeats 4000000

theorem few_one (ys : List ByteArray) (A : Option Addr) (n c : Nat) (T : TypeId) (w : World) (hn : ys.length = n) (h : SLs w w.heap.size A ys) :
    Calls Tryz.prog 11 #[.slice (some ⟨w.heap.size, 0, none⟩) 1 1] (w.alloc (.cells #[.slice A n c] T)) fun e w' => e = .returned (.bool (fewL ys)) ∧ (w.alloc (.cells #[.slice A n c] T)) = w' := by
  have hll := LLw.new w T [(A, n, c, ys)] (by
    intro l hl
    rcases List.mem_cons.1 hl with rfl | hl
    · exact ⟨hn, h⟩
    · cases hl)
  have KF := law19_few _ w.heap.size 1 _ rfl (by decide) hll
  have e : ([(A, n, c, ys)].map fun (l : LSl) => l.2.2.2).all fewL = fewL ys := by simp
  rw [e] at KF
  exact KF
theorem law19_Combines (q : ByteArray) (is : List Int) (ys : List ByteArray) (A A2 : Option Addr) (n n2 c c2 : Nat) (w : World) (hn : is.length = n) (hn2 : ys.length = n2) (h : ISl w w.heap.size A is) (h' : SLs w w.heap.size A2 ys) (hT : Tab w) (hT10 : Tab10 w) :
    Calls Tryz.prog 4 #[.string q, .slice A n c, .slice A2 n2 c2] w fun e w' => e = .returned (.bool true) ∧ Below w.heap.size w w' := by
  have KA := Lib.hid (fun wq (h1 : Below w.heap.size w wq) => law19_awake wq (hT.below h1) (hT10.below h1))
  have HB0 := Lib.hid (Below.refl w.heap.size w)
  by_cases hq : q.size ≤ 12
  · have q1 : decide ((12 : Int) < (q.size : Int)) = false := decide_eq_false (by omega)
    by_cases hi : n ≤ 10
    · have i1 : decide ((10 : Int) < (n : Int)) = false := decide_eq_false (by omega)
      have KF := Lib.hid (fun T => few_one ys A2 n2 c2 T w hn2 h')
      have HB1 := Lib.hid (fun (T : TypeId) => (Below.refl w.heap.size w).alloc (Nat.le_refl _) (.cells #[.slice A2 n2 c2] T))
      cases hf : fewL ys
      · rw [hf] at KF
        clear hn hn2 h h' hT hT10 hq hi hf
        go_enter Tryz.func4, Tryz.ntmps4
        go_wp2_with (first
          | (go_at_call 11; (with_reducible refine (KF.out _).mono ?_); rintro e w1 ⟨rfl, rfl⟩)
          | (go_at_call 6; (with_reducible refine (KA.out _ (HB1.out _)).mono ?_); rintro e w2 ⟨rfl, hb2⟩; have HB2 := Lib.hid (below2 (HB1.out _) hb2); clear hb2))
        go_ret
        exact ⟨rfl, HB2.out⟩
      · rw [hf] at KF
        have hl : n2 ≤ 10 := by
          unfold fewL at hf
          simp only [Bool.and_eq_true, decide_eq_true_eq] at hf
          omega
        have KE := fun wq (h1 : Below w.heap.size w wq) => shamir_Combine q is ys A A2 n n2 c c2 wq hn hn2 (by omega) (by omega) (h.to h1) (h'.to h1) (hT.below h1)
        have KR := fun wq (h1 : Below w.heap.size w wq) => r19_Combine q is ys A A2 n n2 c c2 wq hn hn2 (by omega) (by omega) (h.to h1) (h'.to h1)
        obtain ⟨r1, hr1⟩ : ∃ r1, r1 = (combS q is ys).1 := ⟨_, rfl⟩
        obtain ⟨r2, hr2⟩ : ∃ r2, r2 = (combS q is ys).2 := ⟨_, rfl⟩
        rw [← hr1, ← hr2] at KE KR
        have KE := Lib.hid KE
        have KR := Lib.hid KR
        clear hn hn2 h h' hT hT10 hq hi hf hl hr1 hr2
        go_enter Tryz.func4, Tryz.ntmps4
        go_wp2_with (first
          | (go_at_call 11; (with_reducible refine (KF.out _).mono ?_); rintro e w1 ⟨rfl, rfl⟩)
          | (go_at_call 12; (with_reducible refine (KE.out _ (HB1.out _)).mono ?_); rintro e w2 ⟨rfl, hb2⟩; have HB2 := Lib.hid (below2 (HB1.out _) hb2); clear hb2)
          | (go_at_call 13; (with_reducible refine (KR.out _ HB2.out).mono ?_); rintro e w3 ⟨rfl, hb3⟩; have HB3 := Lib.hid (below2 HB2.out hb3); clear hb3)
          | (go_at_call 6; (with_reducible refine (KA.out _ HB3.out).mono ?_); rintro e w4 ⟨rfl, hb4⟩; have HB4 := Lib.hid (below2 HB3.out hb4); clear hb4))
        go_ret
        exact ⟨rfl, HB4.out⟩
    · have i1 : decide ((10 : Int) < (n : Int)) = true := decide_eq_true (by omega)
      clear hn hn2 h h' hT hT10 hq hi
      go_enter Tryz.func4, Tryz.ntmps4
      go_wp2_with (first
        | (go_at_call 6; (with_reducible refine (KA.out _ HB0.out).mono ?_); rintro e w2 ⟨rfl, hb2⟩; have HB2 := Lib.hid hb2; clear hb2))
      go_ret
      exact ⟨rfl, HB2.out⟩
  · have q1 : decide ((12 : Int) < (q.size : Int)) = true := decide_eq_true (by omega)
    clear hn hn2 h h' hT hT10 hq
    go_enter Tryz.func4, Tryz.ntmps4
    go_wp2_with (first
      | (go_at_call 6; (with_reducible refine (KA.out _ HB0.out).mono ?_); rintro e w2 ⟨rfl, hb2⟩; have HB2 := Lib.hid hb2; clear hb2))
    go_ret
    exact ⟨rfl, HB2.out⟩

end Go.Proofs.YtapplggboepfaaaGreatDoor
