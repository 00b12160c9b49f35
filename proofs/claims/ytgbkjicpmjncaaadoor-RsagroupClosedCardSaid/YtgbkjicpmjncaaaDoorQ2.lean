/- The row of RsagroupClosed: for every input the law returns true, and each argument reads as before. Condition: the table of math/bits as the program's text lays it (the card ties it). -/
import Derived.Test.YtgbkjicpmjncaaaDoorQ0
import Derived.Test.YtgbkjicpmjncaaaDoorLc
namespace Go.Proofs.YtgbkjicpmjncaaaDoor
open Go.ChangeShapes Go.WideShapes Go.ChangeAt Go.WideElems Go.RowKit
set_option maxRecDepth 100000

theorem c6C : Tryd.prog.cellsOf 28 = 6 := by kernel_rfl
theorem open_case {H : Type} {enc : TypeId × Value → H} {W : World} {base b0 : Nat} {sp : Nat → Bool} {held : Bool} {r : Reach} {v : Value} {d : DataW H} {ps : List MemPlace}
    (hok : Value.okWide Tryd.prog W r b0 28 v) (h : DataW.Trod enc Tryd.prog W base sp held 28 v d ps) : ∃ m o p q x e : ByteArray, v = .agg #[.string m, .string o, .string p, .string q, .string x, .string e] := by
  obtain ⟨cs, rfl, hsz⟩ := okWide_struct Tryd.underlying28 hok
  rw [c6C] at hsz
  obtain ⟨l⟩ := cs
  match l, hsz with
  | [c0, c1, c2, c3, c4, c5], _ =>
  obtain ⟨fuel, hf⟩ := h
  obtain ⟨xs, n, _, _, _, hlen, hfs⟩ := DataW.trod_struct Tryd.underlying28 hf
  match xs, hlen with
  | [y0, y1, y2, y3], _ =>
  have f0 := hfs 0 _ rfl
  have f1 := hfs 1 _ rfl
  have f2 := hfs 2 _ rfl
  have f3 := hfs 3 _ rfl
  simp [Value.cells, c2G, c2T, c1N] at f0 f1 f2 f3
  obtain ⟨z0, z1, k, _, _, g0, g1⟩ := trod_struct2 Tryd.underlying24 f0
  obtain ⟨z2, z3, k2, _, _, g2, g3⟩ := trod_struct2 Tryd.underlying26 f1
  obtain ⟨m, e0, _, _⟩ := DataW.trod_string Tryd.underlying22 g0
  obtain ⟨o, e1, _, _⟩ := DataW.trod_string Tryd.underlying22 g1
  obtain ⟨p, e2, _, _⟩ := DataW.trod_string Tryd.underlying22 g2
  obtain ⟨q, e3, _, _⟩ := DataW.trod_string Tryd.underlying22 g3
  obtain ⟨x, e4, _, _⟩ := DataW.trod_string Tryd.underlying22 f2
  obtain ⟨e, e5, _, _⟩ := DataW.trod_string Tryd.underlying22 f3
  simp [c1N] at e0 e1 e2 e3 e4 e5
  subst e0 e1 e2 e3 e4 e5
  exact ⟨m, o, p, q, x, e, rfl⟩
theorem lifted (os : Os) (started : os.Started) (H : Type) (enc : TypeId × Value → H) :
    ReturnsInHanded {} Tryd.checked os 3 .any (fun w args => (Rows.rsagroupClosedSpec.pre enc Tryd.prog Tryd.f3 [] false w args ∧ laidMetH Tryd.prog laidL w) ∧ sizedMet enc Tryd.prog Tryd.f3 (OpenSpec.ofChange Rows.rsagroupClosedSpec) false w args)
      (Rows.rsagroupClosedSpec.post enc Tryd.prog Tryd.f3 false true false false) := by
  refine returnsInHanded_of_change_and (C := Tryd.checked) (X := fun w _ => laidMetH Tryd.prog laidL w) (fun _ _ _ hh h => h.of_heap hh) ownK started (by kernel_rfl) Tryd.func3
    (ChangeSpec.witness_shaped (enc := enc) (C := Tryd.checked) (os := os) (X := fun w _ => laidMetH Tryd.prog laidL w) false (World.doorLaid Tryd.prog 400 os) #[.agg #[.string ⟨#[]⟩, .string ⟨#[]⟩, .string ⟨#[]⟩, .string ⟨#[]⟩, .string ⟨#[]⟩, .string ⟨#[]⟩], .string ⟨#[]⟩] 8 rfl (World.shaped_of_RefB (by kernel_rfl) (by kernel_rfl)) (by kernel_rfl) (by kernel_rfl) (by kernel_rfl) (door_met os _)) ?_
  intro W base args ds gs before hval0 hW _ _ hL _
  have hval : ∀ (j : Nat) t v, Tryd.f3.params[j]? = some t → args[j]? = some v → Value.okWide Tryd.prog W .any base t v := hval0
  have hW' := hW
  obtain ⟨p, q, hA0, hV, rfl, hfz, hnd⟩ := hW
  have hA : DataW.TrodAll enc Tryd.prog W 0 (fun _ => true) true Tryd.f3.params.toList args.toList ds p := hA0
  rw [Tryd.params3] at hA hval
  obtain ⟨v0, v1, d0, d1, p0, p1, rfl, rfl, rfl, h0, h1⟩ := trodAll_two hA
  obtain ⟨rfl, rfl⟩ := trodVars_none hV
  obtain ⟨m, o, pp, qq, x, ex, rfl⟩ := open_case (hval 0 28 v0 rfl rfl) h0
  obtain ⟨y, rfl⟩ := open_nat h1 ⟨_, _, hval 1 22 v1 rfl rfl⟩
  clear hA0 hval0
  simp only [List.append_nil] at hW'
  refine (law_closed m o pp qq x ex y W (of_laid hL)).mono fun e W' ⟨he, hb⟩ => ?_
  subst he
  have hlt : ∀ y ∈ p0 ++ p1, y.block < W.heap.size := fun y hy => hW'.lt y hy
  refine ⟨_, rfl, post_of_below (pa := p0 ++ p1) (pv := []) hW' (fun _ _ _ => trodAll_mk1 (shut_bool Tryd.underlying4 _)) (fun sp hs => ?_) (fun _ _ => rfl) (by simp) hb (ok_one (by kernel_rfl) rfl (okWide_bool_mk Tryd.underlying4 _))⟩
  exact trodAll_mk2
    (WideElems.Trod_stays laidOutK (by kernel_rfl) (of_decide_eq_true (by kernel_rfl)) h0 (fun y hy => hb.same (hlt y (by simp [hy]))) (fun y hy => hs y (by simp [hy])))
    (WideElems.Trod_stays laidOutK (by kernel_rfl) (of_decide_eq_true (by kernel_rfl)) h1 (fun y hy => hb.same (hlt y (by simp [hy]))) (fun y hy => hs y (by simp [hy])))
theorem rsagroupClosed_said : Rows.RsagroupClosedSaid :=
  OpenClaim.holds_of_wide 3 Tryd.f3 rfl rfl rfl rfl rfl rfl rfl ⟨rfl, rfl, rfl, rfl, rfl⟩ rfl rfl rfl rfl rfl (by kernel_rfl) Tryd.func3 (by kernel_rfl)
    (of_decide_eq_true (by kernel_rfl)) (by unfold Func.isWrapper; first | (rw [if_pos (by decide +kernel)]; kernel_rfl) | (rw [if_neg (by decide +kernel)]; exact ⟨rfl, rfl⟩))
    (fun os started H enc _ => lifted os started H enc)
#print axioms rsagroupClosed_said

end Go.Proofs.YtgbkjicpmjncaaaDoor
