/- The row of ShamirEvals: for all points the law returns true, and the argument reads as before. Condition: the tables of math/bits and of internal/strconv as the program's text lays them (the card ties them). -/
import Derived.Test.YtlcmlbdgibjmlaaGreatDoorZQ
import Derived.Test.YtlcmlbdgibjmlaaGreatDoorSQ
namespace Go.Proofs.YtlcmlbdgibjmlaaGreatDoor
open Go.ChangeShapes Go.WideShapes Go.ChangeAt Go.WideElems Go.RowKit
set_option maxRecDepth 100000
set_option maxHeartbeats 4000000

theorem c5P : Tryz.prog.cellsOf 25 = 5 := by kernel_rfl
theorem open_points {H : Type} {enc : TypeId × Value → H} {W : World} {base b0 : Nat} {sp : Nat → Bool} {held : Bool} {r : Reach} {v : Value} {d : DataW H} {ps : List MemPlace}
    (hok : Value.okWide Tryz.prog W r b0 25 v) (h : DataW.Trod enc Tryz.prog W base sp held 25 v d ps) :
    ∃ (q x : ByteArray) (AX AY : Option Addr) (nX cX nY cY : Nat) (z : Int) (xs ys : List ByteArray), v = .agg #[.string q, .slice AX nX cX, .slice AY nY cY, .string x, .int .i64 z] ∧ xs.length = nX ∧ ys.length = nY ∧ SLs W W.heap.size AX xs ∧ SLs W W.heap.size AY ys := by
  obtain ⟨cs, rfl, hsz⟩ := okWide_struct Tryz.underlying25 hok
  rw [c5P] at hsz
  obtain ⟨l⟩ := cs
  match l, hsz with
  | [c0, c1, c2, c3, c4], _ =>
  obtain ⟨fuel, hf⟩ := h
  obtain ⟨xs, m, _, _, _, hlen, hfs⟩ := DataW.trod_struct Tryz.underlying25 hf
  match xs, hlen with
  | [y0, y1, y2, y3, y4], _ =>
  have f0 := hfs 0 _ rfl
  have f1 := hfs 1 _ rfl
  have f2 := hfs 2 _ rfl
  have f3 := hfs 3 _ rfl
  have f4 := hfs 4 _ rfl
  simp [Value.cells, c1L, c1N, c1I] at f0 f1 f2 f3 f4
  obtain ⟨q, e0, _, _⟩ := DataW.trod_string Tryz.underlying22 f0
  obtain ⟨AX, nX, cX, vx, rfl, hnx, _, hsx⟩ := open_nats f1
  obtain ⟨AY, nY, cY, vy, rfl, hny, _, hsy⟩ := open_nats f2
  obtain ⟨x, e3, _, _⟩ := DataW.trod_string Tryz.underlying22 f3
  obtain ⟨z, e4, _, _⟩ := DataW.trod_int Tryz.underlying3 f4
  simp at e0 e3 e4
  subst e0 e3 e4
  exact ⟨q, x, AX, AY, nX, cX, nY, cY, z, vx, vy, rfl, hnx, hny, hsx, hsy⟩
theorem lifted (os : Os) (started : os.Started) (H : Type) (enc : TypeId × Value → H) :
    ReturnsInHanded {} Tryz.checked os 3 .any (fun w args => (Rows.shamirEvalsSpec.pre enc Tryz.prog Tryz.f3 [] false w args ∧ laidMetH Tryz.prog laidL w) ∧ sizedMet enc Tryz.prog Tryz.f3 (OpenSpec.ofChange Rows.shamirEvalsSpec) false w args)
      (Rows.shamirEvalsSpec.post enc Tryz.prog Tryz.f3 false true false false) := by
  refine returnsInHanded_of_change_and (C := Tryz.checked) (X := fun w _ => laidMetH Tryz.prog laidL w) (fun _ _ _ hh h => h.of_heap hh) ownK started (by kernel_rfl) Tryz.func3
    (ChangeSpec.witness_shaped (enc := enc) (C := Tryz.checked) (os := os) (X := fun w _ => laidMetH Tryz.prog laidL w) false (World.doorLaid Tryz.prog 400 os) #[.agg #[.string ⟨#[]⟩, .slice none 0 0, .slice none 0 0, .string ⟨#[]⟩, .int .i64 0]] 8 rfl (World.shaped_of_RefB (by kernel_rfl) (by kernel_rfl)) (by kernel_rfl) (by kernel_rfl) (by kernel_rfl) (door_met os _)) ?_
  intro W base args ds gs before hval0 hW _ _ hL _
  have hval : ∀ (j : Nat) t v, Tryz.f3.params[j]? = some t → args[j]? = some v → Value.okWide Tryz.prog W .any base t v := hval0
  have hW' := hW
  obtain ⟨p, q, hA0, hV, rfl, hfz, hnd⟩ := hW
  have hA : DataW.TrodAll enc Tryz.prog W 0 (fun _ => true) true Tryz.f3.params.toList args.toList ds p := hA0
  rw [Tryz.params3] at hA hval
  obtain ⟨v0, d0, rfl, rfl, h0⟩ := trodAll_one hA
  obtain ⟨rfl, rfl⟩ := trodVars_none hV
  obtain ⟨q, x, AX, AY, nX, cX, nY, cY, z, xs, ys, rfl, hnx, hny, hsx, hsy⟩ := open_points (hval 0 25 v0 rfl rfl) h0
  clear hA0 hval0
  simp only [List.append_nil] at hW'
  refine (law19_Evals q x xs ys AX AY nX cX nY cY z W hnx hny hsx hsy (of_laid hL) (of_laid10 hL)).mono fun e W' ⟨he, hb⟩ => ?_
  subst he
  have hlt : ∀ y ∈ p, y.block < W.heap.size := fun y hy => hW'.lt y hy
  refine ⟨_, rfl, post_of_below (pa := p) (pv := []) hW' (fun _ _ _ => trodAll_mk1 (shut_bool Tryz.underlying4 _)) (fun sp hs => ?_) (fun _ _ => rfl) (by simp) hb (ok_one (by kernel_rfl) rfl (okWide_bool_mk Tryz.underlying4 _))⟩
  exact trodAll_mk1 (WideElems.Trod_stays laidOutK (by kernel_rfl) (of_decide_eq_true (by kernel_rfl)) h0 (fun y hy => hb.same (hlt y hy)) (fun y hy => hs y hy))
theorem shamirEvals_closed : joinedFacts Tryz.prog 3 Tryz.f3 Rows.shamirEvalsSpec Rows.shamirEvalsRow = true := by kernel_rfl
theorem shamirEvals_said : Rows.ShamirEvalsSaid :=
  OpenClaim.holds_of_wide 3 Tryz.f3 rfl rfl rfl rfl rfl rfl rfl ⟨rfl, rfl, rfl, rfl, rfl⟩ rfl rfl rfl rfl rfl (by kernel_rfl) Tryz.func3 shamirEvals_closed
    (of_decide_eq_true (by kernel_rfl)) (by unfold Func.isWrapper; first | (rw [if_pos (by decide +kernel)]; kernel_rfl) | (rw [if_neg (by decide +kernel)]; exact ⟨rfl, rfl⟩))
    (fun os started H enc _ => lifted os started H enc)
#print axioms shamirEvals_said

end Go.Proofs.YtlcmlbdgibjmlaaGreatDoor
