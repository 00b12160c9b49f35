/- What the rows share: the table of math/bits, opened arguments, the last step. -/
import Derived.Test.YtcpglhjmhegfmaaGreatDoorRows
import Derived.Test.YtcpglhjmhegfmaaGreatDoorTvBP
import Derived.ProofKit
import Derived.LaidMore
import Derived.OpenShut
import Derived.Stop.Joined
import Derived.ChangeSame
import Derived.JoinedOf
import Derived.JoinedAt
import Derived.RowKit3
import Derived.Carry
import Derived.Below
import Derived.FnData
namespace Go.Proofs.YtcpglhjmhegfmaaGreatDoor
open Go.ChangeShapes Go.WideShapes Go.ChangeAt Go.WideElems Go.RowKit
set_option maxRecDepth 100000
section
variable {H : Type} {enc : TypeId × Value → H} {P : Program}
theorem post_of_below {f : Func} {s : ChangeSpec} {apart fresh handsOn again : Bool} {W W' : World} {args : Array Value} {v : Value} {ds gs : List (DataW H)} {before pa pv : List MemPlace}
    (hW : DataW.Whole enc P f.params.toList s.vars apart W args.toList ds gs before)
    (hres : ∀ (b : Nat) (sp : Nat → Bool) (hd : Bool), DataW.TrodAll enc P W' b sp hd f.resultTypes.toList (v.resultList f.resultTypes.size) (s.fn H (ds ++ gs)).results [])
    (hargs : ∀ sp : Nat → Bool, (∀ p ∈ before, sp p.block = true) → DataW.TrodAll enc P W' 0 sp true f.params.toList args.toList (s.fn H (ds ++ gs)).args pa)
    (hvars : ∀ sp : Nat → Bool, (∀ p ∈ before, sp p.block = true) → DataW.TrodVars enc P W' sp s.vars (s.fn H (ds ++ gs)).vars pv)
    (hps : before = pa ++ pv) (hb : Below W.heap.size W W')
    (hok : ∀ (j : Nat) (t : TypeId) (r : Value), f.resultTypes[j]? = some t → (v.resultList f.resultTypes.size)[j]? = some r → Value.okWide P W' .any 0 t r) :
    s.post enc P f apart fresh handsOn again W args v W' := by
  have hlt : ∀ p ∈ before, p.block < W.heap.size := fun p hp => hW.lt p hp
  have hold : ∀ p ∈ before, (fun b => decide (b < W.heap.size)) p.block = true := fun p hp => by simpa using hlt p hp
  refine ⟨ds, gs, before, [], pa, pv, hW, hres _ _ _, hargs _ hold, hvars _ hold, World.keptBut_mono (fun p hp => ⟨hp, ?_⟩) (hb.frame (· ∈ before)), fun _ => ?_⟩
  · rw [hps, List.mem_append] at hp
    exact Or.inr hp
  · obtain ⟨_, _, _, _, _, hz, hn⟩ := hW
    refine ⟨hok, _, _, ([] ++ pa) ++ pv, ⟨[] ++ pa, pv, trodAll_append (hargs _ (fun _ _ => rfl)) (hres _ _ _), hvars _ (fun _ _ => rfl), rfl, ?_, ?_⟩, ?_⟩
    · intro b off hp
      have hin : MemPlace.cell b off ∈ before := by rw [hps]; simpa using hp
      rw [hb.frozen (hlt _ hin)]
      exact hz b off hin
    · intro ha
      have := hn ha
      rw [hps] at this
      simpa using this
    · intro p hp _
      rw [hps]
      simpa using hp
end
theorem ownK : ownKnob Tryz.prog.godebug = none := by kernel_rfl
theorem laidOutK : laidOutB Tryz.prog = true := by kernel_rfl
theorem gTab : Tryz.prog.globalNamed "math/bits.deBruijn64tab" = some 0 := by kernel_rfl
theorem tTab : (Tryz.prog.globals[0]?).map (·.type) = some 122 := by kernel_rfl
theorem cU8 : Tryz.prog.cellsOf 5 = 1 := by kernel_rfl
abbrev laidL : List (String × DataW Unit) := [("math/bits.deBruijn64tab", Rows.laid_math_bits_deBruijn64tab)]
/-- The door's own heap meets the condition. -/
theorem door_met (os : Os) (args : Array Value) : laidMetH Tryz.prog laidL ((World.doorLaid Tryz.prog 400 os).forCall (fun _ _ => 0) ⟨#[], args, []⟩).memory :=
  laidMetH_of_parts3 (fuel := 8) (laidMet_of_run' 8 (by kernel_rfl) (by kernel_rfl)) (by kernel_rfl) (by kernel_rfl)
def tabData : List (DataW Unit) := match (Rows.laid_math_bits_deBruijn64tab : DataW Unit) with | .agg l => l | _ => []
theorem tabData_eq : (Rows.laid_math_bits_deBruijn64tab : DataW Unit) = .agg tabData := rfl
theorem tabData_at : ∀ j, j < 64 → tabData[j]? = some (.lit (.int .u8 (Lib.deBruijn64tab.getD j 0 : Nat))) := by
  have h : tabData = (List.range 64).map fun j => (.lit (.int .u8 (Lib.deBruijn64tab.getD j 0 : Nat)) : DataW Unit) := by kernel_rfl
  intro j hj
  rw [h]
  simp [hj]
theorem of_laid {W : World} (h : laidMetH Tryz.prog laidL W) : Tab W := by
  rw [MakeChecks.laidMetH_plain _ _ _ (by kernel_rfl)] at h
  obtain ⟨ps, ⟨g0, t0, cs0, f0, p0, q0, hg0, ht0, hv0, hd0, _, _⟩, _, _⟩ := h
  obtain rfl := Option.some.inj (gTab.symm.trans hg0)
  obtain rfl := Option.some.inj (tTab.symm.trans ht0)
  obtain ⟨xs, m1, rfl, hx1, hlen, hn3, hel⟩ := DataW.trod_array Tryz.underlying122 hd0
  simp only [Prod.mk.injEq] at hx1
  rw [tabData_eq] at hx1
  have hx := DataW.agg.inj hx1.1
  intro j hj
  have hc := World.var?_cell hg0 hv0 j
  have hj' := hel j hj
  rw [cU8] at hj'
  obtain ⟨x, hxj⟩ : ∃ x, xs[j]? = some x := ⟨xs[j]'(by omega), by simp [hn3, hj]⟩
  rw [hxj] at hj'
  obtain ⟨k, e1, e2, _⟩ := DataW.trod_int Tryz.underlying5 hj'
  have h1 : tabData[j]? = some x.1 := by rw [hx, List.getElem?_map, hxj]; rfl
  rw [tabData_at j hj, e2] at h1
  have hk : k = (Lib.deBruijn64tab.getD j 0 : Nat) := by
    have := Option.some.inj h1
    injection this with this
    injection this with _ this
    exact this.symm
  rw [hc, ← hk]
  have h2 : (cs0.toList.drop (j * 1)).take 1 = [.int .u8 k] := e1
  rw [Nat.mul_one] at h2
  have h3 : cs0.toList[j]? = some (.int .u8 k) := by
    have := congrArg (fun l => l[0]?) h2
    simpa [List.getElem?_take, List.getElem?_drop] using this
  simpa using h3
theorem c2G : Tryz.prog.cellsOf 24 = 2 := by kernel_rfl
theorem c2T : Tryz.prog.cellsOf 29 = 2 := by kernel_rfl
theorem c1N : Tryz.prog.cellsOf 22 = 1 := by kernel_rfl
theorem open_pair {H : Type} {enc : TypeId × Value → H} {W : World} {base b0 : Nat} {sp : Nat → Bool} {held : Bool} {r : Reach} {t : TypeId} {f0 f1 : Field} {v : Value} {d : DataW H} {ps : List MemPlace}
    (hu : Tryz.prog.underlying t = some (.struct #[f0, f1])) (hc : Tryz.prog.cellsOf t = 2) (h0 : f0.type = 22 ∧ f0.offset = 0) (h1 : f1.type = 22 ∧ f1.offset = 1)
    (hok : Value.okWide Tryz.prog W r b0 t v) (h : DataW.Trod enc Tryz.prog W base sp held t v d ps) : ∃ a b : ByteArray, v = .agg #[.string a, .string b] := by
  obtain ⟨cs, rfl, hsz⟩ := okWide_struct hu hok
  rw [hc] at hsz
  obtain ⟨l⟩ := cs
  match l, hsz with
  | [c0, c1], _ =>
  obtain ⟨fuel, hf⟩ := h
  obtain ⟨y0, y1, m, hx, _, hy0, hy1⟩ := trod_struct2 hu hf
  rw [h0.1, h0.2] at hy0
  rw [h1.1, h1.2] at hy1
  obtain ⟨a, e0, _, _⟩ := DataW.trod_string Tryz.underlying22 hy0
  obtain ⟨b, e1, _, _⟩ := DataW.trod_string Tryz.underlying22 hy1
  simp [Value.cells, c1N] at e0 e1
  subst e0 e1
  exact ⟨a, b, rfl⟩
theorem open_nat {H : Type} {enc : TypeId × Value → H} {W : World} {base : Nat} {sp : Nat → Bool} {held : Bool} {v : Value} {d : DataW H} {ps : List MemPlace}
    (h : DataW.Trod enc Tryz.prog W base sp held 22 v d ps) (hok : ∃ r b0, Value.okWide Tryz.prog W r b0 22 v) : ∃ a : ByteArray, v = .string a := by
  have hv : v.cells = #[v] := by
    obtain ⟨r, b0, hok⟩ := hok
    cases v <;> first | rfl | (exfalso; simp [Value.okWide, Tryz.underlying22, Cell.okWide, Cell.ok] at hok)
  obtain ⟨fuel, hf⟩ := h
  obtain ⟨a, e, _, _⟩ := DataW.trod_string Tryz.underlying22 hf
  rw [hv] at e
  exact ⟨a, by simpa using e⟩
end Go.Proofs.YtcpglhjmhegfmaaGreatDoor
