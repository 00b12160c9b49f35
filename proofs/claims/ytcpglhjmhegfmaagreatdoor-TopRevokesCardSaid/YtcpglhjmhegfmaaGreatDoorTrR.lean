/- The row of TopRevokes: for every history the law returns true, and the argument reads as before. Condition: the table of math/bits as the program's text lays it (the card ties it). -/
import Derived.Test.YtcpglhjmhegfmaaGreatDoorTvV0
import Derived.Test.YtcpglhjmhegfmaaGreatDoorTrG
namespace Go.Proofs.YtcpglhjmhegfmaaGreatDoor
open Go.ChangeShapes Go.WideShapes Go.ChangeAt Go.WideElems Go.RowKit Go.Deep
set_option maxRecDepth 100000
set_option linter.unusedVariables false
set_option maxHeartbeats 4000000

theorem c2Gw : Tryz.prog.cellsOf 24 = 2 := by kernel_rfl
theorem c8Kw : Tryz.prog.cellsOf 27 = 8 := by kernel_rfl
theorem c2Tw : Tryz.prog.cellsOf 29 = 2 := by kernel_rfl
theorem c13H : Tryz.prog.cellsOf 32 = 13 := by kernel_rfl
theorem c1LL : Tryz.prog.cellsOf 30 = 1 := by kernel_rfl
section
variable {H : Type} {enc : TypeId × Value → H} {W : World} {base b0 fuel : Nat} {sp : Nat → Bool} {held : Bool} {r : Reach} {v : Value} {d : DataW H} {ps : List MemPlace} {x : DataW H × List MemPlace}
theorem open_nat1 {c : Value} (hf : DataW.trod enc Tryz.prog W base sp held fuel 22 [c] = some x) : ∃ s : ByteArray, c = .string s := by
  obtain ⟨s, e, _, _⟩ := DataW.trod_string Tryz.underlying22 hf
  exact ⟨s, by simpa using e⟩
theorem open_natsF {c : Value} (hf : DataW.trod enc Tryz.prog W base sp held fuel 25 [c] = some x) :
    ∃ (A : Option Addr) (n cp : Nat) (ls : List ByteArray), c = .slice A n cp ∧ ls.length = n ∧ n ≤ maxLen ∧ n ≤ cp ∧ SLs W W.heap.size A ls := by
  rcases open_slice1 Tryz.underlying25 c1N hf with ⟨h0, _⟩ | ⟨a, len, cap, m, n, V, D, Pl, hcs, hb, hl, hm, hmm, hxx, hi⟩
  · have : c = .slice none 0 0 := by simpa using h0
    exact ⟨none, 0, 0, [], this, rfl, Nat.zero_le _, Nat.le_refl _, SLs.nil_⟩
  · have hv' : c = .slice (some a) len cap := by simpa using hcs
    have hle : len ≤ m := by rw [hmm]; split <;> omega
    have hex : ∃ ls : List ByteArray, ls.length = len ∧ ∀ i, i < len → W.cell? (a.add i) = some (.string (ls.getD i ByteArray.empty)) := by
      clear hv' hcs hmm hxx hm hl
      induction len with
      | zero => exact ⟨[], rfl, fun i hi => absurd hi (Nat.not_lt_zero _)⟩
      | succ k ih =>
        obtain ⟨ls, h1, h2⟩ := ih (by omega)
        obtain ⟨hc, ht⟩ := hi k (by omega)
        obtain ⟨s, hs⟩ := open_nat1 ht
        rw [hs] at hc
        refine ⟨ls ++ [s], by simp [h1], fun i hi => ?_⟩
        by_cases e : i = k
        · subst e
          rw [hc, List.getD_eq_getElem?_getD, List.getElem?_append_right (by omega), h1]
          simp
        · rw [h2 i (by omega), List.getD_eq_getElem?_getD, List.getD_eq_getElem?_getD, List.getElem?_append_left (by omega)]
    obtain ⟨ls, h1, h2⟩ := hex
    refine ⟨some a, len, cap, ls, hv', h1, by omega, hl, fun hne => ⟨a, rfl, ?_, fun j hj => h2 j (by omega)⟩⟩
    have h0 : 0 < len := by rw [← h1]; exact List.length_pos_iff.2 hne
    have hc0 := h2 0 h0
    have e2 : a.add 0 = a := by simp [Addr.add]
    rw [e2] at hc0
    exact World.block_lt_of_cell? W _ hc0
theorem open_lists {c : Value} (hf : DataW.trod enc Tryz.prog W base sp held fuel 30 [c] = some x) :
    ∃ (A : Option Addr) (n cp : Nat) (Cs : List (List ByteArray)), c = .slice A n cp ∧ Cs.length = n ∧ CLs W W.heap.size A Cs := by
  rcases open_slice1 Tryz.underlying30 c1L hf with ⟨h0, _⟩ | ⟨a, len, cap, m, n, V, D, Pl, hcs, hb, hl, hm, hmm, hxx, hi⟩
  · have : c = .slice none 0 0 := by simpa using h0
    exact ⟨none, 0, 0, [], this, rfl, fun h => absurd rfl h⟩
  · have hv' : c = .slice (some a) len cap := by simpa using hcs
    have hle : len ≤ m := by rw [hmm]; split <;> omega
    have hex : ∃ Cs : List (List ByteArray), Cs.length = len ∧ ∀ i, i < len → ∃ Aj nj cj, W.cell? (a.add i) = some (.slice Aj nj cj) ∧ (Cs.getD i []).length = nj ∧ nj ≤ maxLen ∧ nj ≤ cj ∧ SLs W W.heap.size Aj (Cs.getD i []) := by
      clear hv' hcs hmm hxx hm hl
      induction len with
      | zero => exact ⟨[], rfl, fun i hi => absurd hi (Nat.not_lt_zero _)⟩
      | succ k ih =>
        obtain ⟨Cs, h1, h2⟩ := ih (by omega)
        obtain ⟨hc, ht⟩ := hi k (by omega)
        obtain ⟨Aj, nj, cj, ls, hs, a1, a2, a3, a4⟩ := open_natsF ht
        rw [hs] at hc
        refine ⟨Cs ++ [ls], by simp [h1], fun i hi => ?_⟩
        by_cases e : i = k
        · subst e
          have : (Cs ++ [ls]).getD i [] = ls := by rw [List.getD_eq_getElem?_getD, List.getElem?_append_right (by omega), h1]; simp
          rw [this]
          exact ⟨Aj, nj, cj, hc, a1, a2, a3, a4⟩
        · have : (Cs ++ [ls]).getD i [] = Cs.getD i [] := by rw [List.getD_eq_getElem?_getD, List.getD_eq_getElem?_getD, List.getElem?_append_left (by omega)]
          rw [this]
          exact h2 i (by omega)
    obtain ⟨Cs, h1, h2⟩ := hex
    refine ⟨some a, len, cap, Cs, hv', h1, fun hne => ⟨a, rfl, ?_, fun j hj => h2 j (by omega)⟩⟩
    have h0 : 0 < len := by rw [← h1]; exact List.length_pos_iff.2 hne
    obtain ⟨_, _, _, hc0, _⟩ := h2 0 h0
    have e2 : a.add 0 = a := by simp [Addr.add]
    rw [e2] at hc0
    exact World.block_lt_of_cell? W _ hc0
theorem open_key8 {c0 c1 c2 c3 c4 c5 c6 c7 : Value} (hf : DataW.trod enc Tryz.prog W base sp held fuel 27 [c0, c1, c2, c3, c4, c5, c6, c7] = some x) :
    ∃ (nm m o z s u h : ByteArray) (A : Option Addr) (n c : Nat) (rs : List ByteArray), c0 = .string nm ∧ c1 = .string m ∧ c2 = .string o ∧ c3 = .string z ∧ c4 = .string s ∧ c5 = .slice A n c ∧ c6 = .string u ∧ c7 = .string h ∧ rs.length = n ∧ n ≤ maxLen ∧ SLs W W.heap.size A rs := by
  obtain ⟨xs, n, _, _, _, hlen, hfs⟩ := DataW.trod_struct Tryz.underlying27 hf
  match xs, hlen with
  | [y0, y1, y2, y3, y4, y5, y6], _ =>
  have f0 := hfs 0 _ rfl
  have f1 := hfs 1 _ rfl
  have f2 := hfs 2 _ rfl
  have f3 := hfs 3 _ rfl
  have f4 := hfs 4 _ rfl
  have f5 := hfs 5 _ rfl
  have f6 := hfs 6 _ rfl
  simp [c2Gw, c1S, c1L, c1N] at f0 f1 f2 f3 f4 f5 f6
  obtain ⟨nm, e0, _, _⟩ := DataW.trod_string Tryz.underlying9 f0
  simp at e0
  obtain ⟨z2, z3, k3, _, _, g2, g3⟩ := trod_struct2 Tryz.underlying24 f1
  simp [c1N] at g2 g3
  obtain ⟨m, e1⟩ := open_nat1 g2
  obtain ⟨o, e2⟩ := open_nat1 g3
  obtain ⟨z, e3⟩ := open_nat1 f2
  obtain ⟨s, e4⟩ := open_nat1 f3
  obtain ⟨A, n', c', rs, e5, hn, hm, _, hs⟩ := open_natsF f4
  obtain ⟨u, e6⟩ := open_nat1 f5
  obtain ⟨h, e7⟩ := open_nat1 f6
  exact ⟨nm, m, o, z, s, u, h, A, n', c', rs, e0, e1, e2, e3, e4, e5, e6, e7, hn, hm, hs⟩
theorem open_history (hok : Value.okWide Tryz.prog W r b0 32 v) (h : DataW.Trod enc Tryz.prog W base sp held 32 v d ps) :
    ∃ (nm m o z s ku kh p q U : ByteArray) (Ar Am Ac : Option Addr) (nr cr lm cm lc cc : Nat) (rs ms : List ByteArray) (Cs : List (List ByteArray)),
      v = .agg #[.string nm, .string m, .string o, .string z, .string s, .slice Ar nr cr, .string ku, .string kh, .string p, .string q, .slice Am lm cm, .string U, .slice Ac lc cc] ∧
      rs.length = nr ∧ nr ≤ maxLen ∧ SLs W W.heap.size Ar rs ∧ ms.length = lm ∧ lm ≤ maxLen ∧ lm ≤ cm ∧ SLs W W.heap.size Am ms ∧ Cs.length = lc ∧ CLs W W.heap.size Ac Cs := by
  obtain ⟨cs, rfl, hsz⟩ := okWide_struct Tryz.underlying32 hok
  rw [c13H] at hsz
  obtain ⟨l⟩ := cs
  match l, hsz with
  | [c0, c1, c2, c3, c4, c5, c6, c7, c8, c9, c10, c11, c12], _ =>
  obtain ⟨fuel, hf⟩ := h
  obtain ⟨xs, n, _, _, _, hlen, hfs⟩ := DataW.trod_struct Tryz.underlying32 hf
  match xs, hlen with
  | [y0, y1, y2, y3, y4], _ =>
  have f0 := hfs 0 _ rfl
  have f1 := hfs 1 _ rfl
  have f2 := hfs 2 _ rfl
  have f3 := hfs 3 _ rfl
  have f4 := hfs 4 _ rfl
  simp [Value.cells, c8Kw, c2Tw, c1L, c1N, c1LL] at f0 f1 f2 f3 f4
  obtain ⟨nm, m, o, z, s, u, kh, Ar, nr, cr, rs, k0, k1, k2, k3, k4, k5, k6, k7, hn, hm, hs⟩ := open_key8 f0
  obtain ⟨z2, z3, k8, _, _, g2, g3⟩ := trod_struct2 Tryz.underlying29 f1
  simp [c1N] at g2 g3
  obtain ⟨P, p0⟩ := open_nat1 g2
  obtain ⟨Q, p1⟩ := open_nat1 g3
  obtain ⟨Am, lm, cm, ms, m0, m1, m2, m3, m4⟩ := open_natsF f2
  obtain ⟨U, u0⟩ := open_nat1 f3
  obtain ⟨Ac, lc, cc, Cs, q0, q1, q2⟩ := open_lists f4
  subst k0 k1 k2 k3 k4 k5 k6 k7 p0 p1 m0 u0 q0
  exact ⟨nm, m, o, z, s, u, kh, P, Q, U, Ar, Am, Ac, nr, cr, lm, cm, lc, cc, rs, ms, Cs, rfl, hn, hm, hs, m1, m2, m3, m4, q1, q2⟩
end
theorem lifted (os : Os) (started : os.Started) (H : Type) (enc : TypeId × Value → H) :
    ReturnsInHanded {} Tryz.checked os 3 .any (fun w args => (Rows.topRevokesSpec.pre enc Tryz.prog Tryz.f3 [] false w args ∧ laidMetH Tryz.prog laidL w) ∧ sizedMet enc Tryz.prog Tryz.f3 (OpenSpec.ofChange Rows.topRevokesSpec) false w args)
      (Rows.topRevokesSpec.post enc Tryz.prog Tryz.f3 false true false false) := by
  refine returnsInHanded_of_change_and (C := Tryz.checked) (X := fun w _ => laidMetH Tryz.prog laidL w) (fun _ _ _ hh h => h.of_heap hh) ownK started (by kernel_rfl) Tryz.func3
    (ChangeSpec.witness_shaped (enc := enc) (C := Tryz.checked) (os := os) (X := fun w _ => laidMetH Tryz.prog laidL w) false (World.doorLaid Tryz.prog 400 os) #[.agg #[.string ⟨#[]⟩, .string ⟨#[]⟩, .string ⟨#[]⟩, .string ⟨#[]⟩, .string ⟨#[]⟩, .slice none 0 0, .string ⟨#[]⟩, .string ⟨#[]⟩, .string ⟨#[]⟩, .string ⟨#[]⟩, .slice none 0 0, .string ⟨#[]⟩, .slice none 0 0]] 8 rfl (World.shaped_of_RefB (by kernel_rfl) (by kernel_rfl)) (by kernel_rfl) (by kernel_rfl) (by kernel_rfl) (door_met os _)) ?_
  intro W base args ds gs before hval0 hW _ _ hL _
  have hval : ∀ (j : Nat) t v, Tryz.f3.params[j]? = some t → args[j]? = some v → Value.okWide Tryz.prog W .any base t v := hval0
  have hW' := hW
  obtain ⟨p, q, hA0, hV, rfl, hfz, hnd⟩ := hW
  have hA : DataW.TrodAll enc Tryz.prog W 0 (fun _ => true) true Tryz.f3.params.toList args.toList ds p := hA0
  rw [Tryz.params3] at hA hval
  obtain ⟨v0, d0, rfl, rfl, h0⟩ := trodAll_one hA
  obtain ⟨rfl, rfl⟩ := trodVars_none hV
  obtain ⟨nm, m, o, z, s, ku, kh, P, Q, U, Ar, Am, Ac, nr, cr, lm, cm, lc, cc, rs, ms, Cs, rfl, hnr, hmr, hsr, hnm, hmm, hcm, hsm, hnc, hsc⟩ := open_history (hval 0 32 v0 rfl rfl) h0
  clear hA0 hval0
  simp only [List.append_nil] at hW'
  refine (law_revokes nm m o z s ku kh P Q U Ar Am Ac nr cr lm cm lc cc rs ms Cs W (of_laid hL) hnr hmr hsr hnm hmm hcm hsm hnc hsc).mono fun e W' ⟨he, hb⟩ => ?_
  subst he
  have hlt : ∀ y ∈ p, y.block < W.heap.size := fun y hy => hW'.lt y hy
  refine ⟨_, rfl, post_of_below (pa := p) (pv := []) hW' (fun _ _ _ => trodAll_mk1 (shut_bool Tryz.underlying4 _)) (fun sp hs => ?_) (fun _ _ => rfl) (by simp) hb (ok_one (by kernel_rfl) rfl (okWide_bool_mk Tryz.underlying4 _))⟩
  exact trodAll_mk1
    (WideElems.Trod_stays laidOutK (by kernel_rfl) (of_decide_eq_true (by kernel_rfl)) h0 (fun y hy => hb.same (hlt y hy)) (fun y hy => hs y hy))
theorem topRevokes_closed : joinedFacts Tryz.prog 3 Tryz.f3 Rows.topRevokesSpec Rows.topRevokesRow = true := by kernel_rfl
theorem topRevokes_said : Rows.TopRevokesSaid :=
  OpenClaim.holds_of_wide 3 Tryz.f3 rfl rfl rfl rfl rfl rfl rfl ⟨rfl, rfl, rfl, rfl, rfl⟩ rfl rfl rfl rfl rfl (by kernel_rfl) Tryz.func3 topRevokes_closed
    (of_decide_eq_true (by kernel_rfl)) (by unfold Func.isWrapper; first | (rw [if_pos (by decide +kernel)]; kernel_rfl) | (rw [if_neg (by decide +kernel)]; exact ⟨rfl, rfl⟩))
    (fun os started H enc _ => lifted os started H enc)
#print axioms topRevokes_said

end Go.Proofs.YtcpglhjmhegfmaaGreatDoor
