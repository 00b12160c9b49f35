/- Package integer: the closure of the extended algorithm. -/
import Derived.Test.YtlppcnjaacbhpaaGreatDoorI3
import Derived.Deep.DeepCutAuto
import Derived.Deep.CutBlock
namespace Go.Proofs.YtlppcnjaacbhpaaGreatDoor
open Go.RowKit
set_option maxRecDepth 100000
set_option linter.unusedVariables false
set_option maxHeartbeats 400000

/-- Two integers, as an array holds them. -/
def iz2 (a b : Int) : Value := .agg #[.bool (decide (a < 0)), .string (B a.natAbs), .bool (decide (b < 0)), .string (B b.natAbs)]
/-- What lies behind the first statement of the closure. -/
def NextCut (w : World) (sa sb sm : Bool) (na nb nm : Nat) (p : Value) (W : World) : Prop :=
  ∃ A : Nat, p = .pointer (some ⟨A, 0, none⟩) ∧ Below w.heap.size w W ∧ w.heap.size + 1 < A ∧ A < W.heap.size ∧
    W.cell? ⟨A, 0, none⟩ = some (.bool sm) ∧ W.cell? ⟨A, 1, none⟩ = some (.string (B nm)) ∧
    W.cell? ⟨w.heap.size, 0, none⟩ = some (.bool sa) ∧ W.cell? ⟨w.heap.size, 1, none⟩ = some (.string (B na)) ∧
    W.cell? ⟨w.heap.size, 2, none⟩ = some (.bool sb) ∧ W.cell? ⟨w.heap.size, 3, none⟩ = some (.string (B nb)) ∧
    (∃ v, W.cell? ⟨w.heap.size + 1, 0, none⟩ = some v) ∧ (∃ v, W.cell? ⟨w.heap.size + 1, 1, none⟩ = some v) ∧ (∃ v, W.cell? ⟨w.heap.size + 1, 2, none⟩ = some v) ∧ (∃ v, W.cell? ⟨w.heap.size + 1, 3, none⟩ = some v) ∧
    (∀ k, W.frozen? ⟨w.heap.size + 1, k, none⟩ = false) ∧ (∀ k, W.frozen? ⟨A, k, none⟩ = false)
set_option maxHeartbeats 4000000 in
theorem integer_next (a b : Int) (q c : Nat) (w : World) (hc : c < w.heap.size) (hcell : w.cell? ⟨c, 0, none⟩ = some (.string (B q))) (hq : q < lim) (ha : a.natAbs < lim) (hb : b.natAbs < lim) (hqb : ((q : Int) * b).natAbs < lim) (hs : a.natAbs + ((q : Int) * b).natAbs < lim) :
    Calls Tryz.prog 132 #[iz2 a b, .pointer (some ⟨c, 0, none⟩)] w fun e w' => e = .returned (iz2 b (a - q * b)) ∧ Below w.heap.size w w' := by
  have HF := Lib.hid (fun w => integer_From q w (Lib.hid hq))
  have HM := Lib.hid (fun w => integer_Mul' q b w (by omega) hb hqb)
  have HS := Lib.hid (fun w => integer_Sub a (q * b) w ha hqb hs)
  generalize (q : Int) * b = m at *
  generalize a - m = d at *
  unfold iz iz2 at *
  rw [show decide ((q : Int) < 0) = false from decide_eq_false (by omega), Int.natAbs_natCast] at HM
  generalize decide (a < 0) = sa at *
  generalize decide (b < 0) = sb at *
  generalize decide (m < 0) = sm at *
  generalize decide (d < 0) = sd at *
  clear hq ha hb hqb hs
  generalize a.natAbs = na at *
  generalize b.natAbs = nb at *
  generalize m.natAbs = nm at *
  generalize d.natAbs = nd at *
  go_enter Tryz.func132, Tryz.ntmps132
  go_upto_region 1 with fail
  go_cut [4] (fun p wx => NextCut w sa sb sm na nb nm p wx)
  case first => 
    have hc1 : c < w.heap.size + 1 := by omega
    have hc2 : c < w.heap.size + 1 + 1 := by omega
    have hc3 : ¬ c = w.heap.size + 1 + 1 := by omega
    have e0 : (((w.alloc (Obj.cells #[Value.bool sa, Value.string (B na), Value.bool sb, Value.string (B nb)] 153)).alloc (Obj.cells #[Value.bool false, Value.string { data := #[] }, Value.bool false, Value.string { data := #[] }] 153))).heap.size = w.heap.size + 1 + 1 := by simp
    go_region_with (first | (go_at_call 45; (with_reducible refine (HF.out _).mono ?_); rintro e w1 ⟨rfl, hb1⟩; have hcw1 := (bcell hb1).1; have hfw1 := (bcell hb1).2; have hs1 := hb1.size; (simp at hs1); (rw [Nat.add_one_le_iff] at hs1); have hq1 : w.heap.size + 1 < w1.heap.size := by { omega }; have hq2 : w.heap.size < w1.heap.size := by { omega }; have k2 : w1.cell? ⟨w.heap.size, 2, none⟩ = some (.bool sb) := by { rw [hcw1 _ _ (by first | (simp; done) | (simp; omega))]; simp [go_sem] }; have k3 : w1.cell? ⟨w.heap.size, 3, none⟩ = some (.string (B nb)) := by { rw [hcw1 _ _ (by first | (simp; done) | (simp; omega))]; simp [go_sem] }) | (go_at_call 133; (with_reducible refine (HM.out _).mono ?_); rintro e w2 ⟨rfl, hb2⟩; have hcw2 := (bcell hb2).1; have hfw2 := (bcell hb2).2; have hs2 := hb2.size; (try simp at hs2); (try rw [Nat.add_one_le_iff] at hs2); (first | (have hq6 := Nat.lt_of_lt_of_le hs1 hs2) | (have hq6 := Nat.lt_trans hs1 hs2)); have hq3 : w.heap.size + 1 < w2.heap.size := by { omega }; have hq4 : w.heap.size < w2.heap.size := by { omega }))
    all_goals go_wp2_with fail
    all_goals go_meet
    all_goals
      have F0 : Below w.heap.size w ((w.alloc (Obj.cells #[Value.bool sa, Value.string (B na), Value.bool sb, Value.string (B nb)] 153)).alloc (Obj.cells #[Value.bool false, Value.string { data := #[] }, Value.bool false, Value.string { data := #[] }] 153)) := ((Below.refl _ _).alloc (Nat.le_refl _) _).alloc (by simp) _
      have B1 : Below w.heap.size w w1 := by
        first
          | exact below2 F0 hb1
          | exact below2 F0.drew hb1
          | exact below2 (F0.alloc (by simp; omega) _) hb1
          | exact below2 (F0.alloc (by simp; omega) _).drew hb1
          | exact below2 (F0.drew.alloc (by simp; omega) _) hb1
          | exact below2 (F0.drew.alloc (by simp; omega) _).drew hb1
      have B2 : Below w.heap.size w w2 := by
        first
          | exact below2 B1 hb2
          | exact below2 B1.drew hb2
          | exact below2 (B1.alloc (by omega) _) hb2
          | exact below2 (B1.alloc (by omega) _).drew hb2
          | exact below2 (B1.drew.alloc (by simp; omega) _) hb2
      have z0 : w2.cell? ⟨w.heap.size, 0, none⟩ = some (.bool sa) := by simp [go_sem, hcw2, hcw1, hq2]
      have z1 : w2.cell? ⟨w.heap.size, 1, none⟩ = some (.string (B na)) := by simp [go_sem, hcw2, hcw1, hq2]
      have z2 : w2.cell? ⟨w.heap.size, 2, none⟩ = some (.bool sb) := by simp [go_sem, hcw2, hcw1, hq2]
      have z3 : w2.cell? ⟨w.heap.size, 3, none⟩ = some (.string (B nb)) := by simp [go_sem, hcw2, hcw1, hq2]
      have y0 : w2.cell? ⟨w.heap.size + 1, 0, none⟩ = some (.bool false) := by simp [go_sem, hcw2, hcw1, hq1, hq2]
      have y1 : w2.cell? ⟨w.heap.size + 1, 1, none⟩ = some (.string ⟨#[]⟩) := by simp [go_sem, hcw2, hcw1, hq1, hq2]
      have y2 : w2.cell? ⟨w.heap.size + 1, 2, none⟩ = some (.bool false) := by simp [go_sem, hcw2, hcw1, hq1, hq2]
      have y3 : w2.cell? ⟨w.heap.size + 1, 3, none⟩ = some (.string ⟨#[]⟩) := by simp [go_sem, hcw2, hcw1, hq1, hq2]
      have x0 : ∀ k, w2.frozen? ⟨w.heap.size + 1, k, none⟩ = false := fun k => by simp [go_sem, hfw2, hfw1, hq1, hq2]
    all_goals
      refine ⟨_, rfl, ?_, ?_, ?_, ?_, ?_, ?_, ?_, ?_, ?_, ⟨.bool false, ?_⟩, ⟨.string ⟨#[]⟩, ?_⟩, ⟨.bool false, ?_⟩, ⟨.string ⟨#[]⟩, ?_⟩, fun k => ?_, fun k => ?_⟩
      all_goals
        first
          | exact B2.alloc (by omega) _
          | exact (B2.setCell (by simp; omega) _).setCell (by simp; omega) _
          | exact (B2.setCell (by simp) _).setCell (by simp) _
          | omega
          | (simp; done)
          | (simp; omega)
          | (simp [go_sem, z0, z1, z2, z3, y0, y1, y2, y3, x0, hq3, hq4]; done)
          | (simp [go_sem, hcw2, hcw1, hfw2, hfw1, hs1]; done)
  case rest =>
    obtain ⟨A, rfl, hbw, hA1, hA2, c1, c2, c3, c4, c5, c6, ⟨v0, d0⟩, ⟨v1, d1⟩, ⟨v2, d2⟩, ⟨v3, d3⟩, f1, f2⟩ := hcut
    have HBW := Lib.hid hbw
    have hz1 := hbw.size
    clear hbw
    go_wp2_with (go_at_call 134; (with_reducible refine (HS.out _).mono ?_); rintro e w3 ⟨rfl, hb3⟩; have hcw3 := (bcell hb3).1; have hfw3 := (bcell hb3).2; have hs3 := hb3.size; have hq1 : w.heap.size < w3.heap.size := by { omega }; have hq2 : w.heap.size + 1 < w3.heap.size := by { omega }; have hq3 : w.heap.size < wc.heap.size := by { omega }; have hq4 : w.heap.size + 1 < wc.heap.size := by { omega })
    have g0 : w3.cell? ⟨w.heap.size + 1, 0, none⟩ = some v0 := by rw [hcw3 _ _ hq4]; exact d0
    have g1 : w3.cell? ⟨w.heap.size + 1, 1, none⟩ = some v1 := by rw [hcw3 _ _ hq4]; exact d1
    have g2 : w3.cell? ⟨w.heap.size + 1, 2, none⟩ = some v2 := by rw [hcw3 _ _ hq4]; exact d2
    have g3 : w3.cell? ⟨w.heap.size + 1, 3, none⟩ = some v3 := by rw [hcw3 _ _ hq4]; exact d3
    clear hcw3 hfw3
    exact bodyPost_ret (v := .agg #[.bool sb, .string (B nb), .bool sd, .string (B nd)]) (by simp [results, Tryz.results132, go_sem, g0, g1, g2, g3, hq2]) rfl ⟨rfl, (((((below2 HBW.out hb3).setCell (by simp) _).setCell (by simp) _).setCell (by simp) _).setCell (by simp) _).alloc (by simp; omega) _⟩

end Go.Proofs.YtlppcnjaacbhpaaGreatDoor
