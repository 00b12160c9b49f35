/- What the rows of params share: the tables, opened tapes, the last step. -/
import Derived.Test.YtkdbemdobfddoaaGreatDoorRows
import Derived.Test.YtkdbemdobfddoaaGreatDoorY2
import Derived.Test.YtkdbemdobfddoaaGreatDoorBR
import Derived.Deep.Slices
import Derived.Lib.LaidTab
import Derived.Stop.LaidErr
import Derived.ProofKit
import Derived.LaidMore
import Derived.OpenShut
import Derived.Stop.Joined
import Derived.ChangeSame
import Derived.JoinedOf
import Derived.JoinedAt
import Derived.RowKit3
import Derived.Carry
import Derived.Below
import Derived.FnData
namespace Go.Proofs.YtkdbemdobfddoaaGreatDoor
open Go.ChangeShapes Go.WideShapes Go.ChangeAt Go.WideElems Go.RowKit Go.Deep
set_option maxRecDepth 100000

section
variable {H : Type} {enc : TypeId × Value → H} {P : Program}
theorem post_of_below {f : Func} {s : ChangeSpec} {apart fresh handsOn again : Bool} {W W' : World} {args : Array Value} {v : Value} {ds gs : List (DataW H)} {before pa pv : List MemPlace}
    (hW : DataW.Whole enc P f.params.toList s.vars apart W args.toList ds gs before)
    (hres : ∀ (b : Nat) (sp : Nat → Bool) (hd : Bool), DataW.TrodAll enc P W' b sp hd f.resultTypes.toList (v.resultList f.resultTypes.size) (s.fn H (ds ++ gs)).results [])
    (hargs : ∀ sp : Nat → Bool, (∀ p ∈ before, sp p.block = true) → DataW.TrodAll enc P W' 0 sp true f.params.toList args.toList (s.fn H (ds ++ gs)).args pa)
    (hvars : ∀ sp : Nat → Bool, (∀ p ∈ before, sp p.block = true) → DataW.TrodVars enc P W' sp s.vars (s.fn H (ds ++ gs)).vars pv)
    (hps : before = pa ++ pv) (hb : Below W.heap.size W W')
    (hok : ∀ (j : Nat) (t : TypeId) (r : Value), f.resultTypes[j]? = some t → (v.resultList f.resultTypes.size)[j]? = some r → Value.okWide P W' .any 0 t r) :
    s.post enc P f apart fresh handsOn again W args v W' := by
  have hlt : ∀ p ∈ before, p.block < W.heap.size := fun p hp => hW.lt p hp
  have hold : ∀ p ∈ before, (fun b => decide (b < W.heap.size)) p.block = true := fun p hp => by simpa using hlt p hp
  refine ⟨ds, gs, before, [], pa, pv, hW, hres _ _ _, hargs _ hold, hvars _ hold, World.keptBut_mono (fun p hp => ⟨hp, ?_⟩) (hb.frame (· ∈ before)), fun _ => ?_⟩
  · rw [hps, List.mem_append] at hp
    exact Or.inr hp
  · obtain ⟨_, _, _, _, _, hz, hn⟩ := hW
    refine ⟨hok, _, _, ([] ++ pa) ++ pv, ⟨[] ++ pa, pv, trodAll_append (hargs _ (fun _ _ => rfl)) (hres _ _ _), hvars _ (fun _ _ => rfl), rfl, ?_, ?_⟩, ?_⟩
    · intro b off hp
      have hin : MemPlace.cell b off ∈ before := by rw [hps]; simpa using hp
      rw [hb.frozen (hlt _ hin)]
      exact hz b off hin
    · intro ha
      have := hn ha
      rw [hps] at this
      simpa using this
    · intro p hp _
      rw [hps]
      simpa using hp
end

theorem ownK : ownKnob Tryz.prog.godebug = none := by kernel_rfl
theorem laidOutK : laidOutB Tryz.prog = true := by kernel_rfl
theorem gTab : Tryz.prog.globalNamed "math/bits.deBruijn64tab" = some 0 := by kernel_rfl
theorem tTab : (Tryz.prog.globals[0]?).map (·.type) = some 201 := by kernel_rfl
theorem cU8 : Tryz.prog.cellsOf 5 = 1 := by kernel_rfl
abbrev laidL : List (String × DataW Unit) := [("math/bits.deBruijn32tab", Rows.laid_math_bits_deBruijn32tab), ("math/bits.deBruijn64tab", Rows.laid_math_bits_deBruijn64tab), ("internal/strconv.uint64pow10", Rows.laid_internal_strconv_uint64pow10)]
/-- The door's own heap meets the condition. -/
theorem door_met (os : Os) (args : Array Value) : laidMetH Tryz.prog laidL ((World.doorLaid Tryz.prog 400 os).forCall (fun _ _ => 0) ⟨#[], args, []⟩).memory :=
  laidMetH_of_parts3 (fuel := 8) (laidMet_of_run' 8 (by kernel_rfl) (by kernel_rfl)) (by kernel_rfl) (by kernel_rfl)
def tabData : List (DataW Unit) := match (Rows.laid_math_bits_deBruijn64tab : DataW Unit) with | .agg l => l | _ => []
theorem tabData_eq : (Rows.laid_math_bits_deBruijn64tab : DataW Unit) = .agg tabData := rfl
theorem tabData_at : ∀ j, j < 64 → tabData[j]? = some (.lit (.int .u8 (Lib.deBruijn64tab.getD j 0 : Nat))) := by
  have h : tabData = (List.range 64).map fun j => (.lit (.int .u8 (Lib.deBruijn64tab.getD j 0 : Nat)) : DataW Unit) := by kernel_rfl
  intro j hj
  rw [h]
  simp [hj]
theorem of_laid {W : World} (h : laidMetH Tryz.prog laidL W) : Tab W := by
  rw [MakeChecks.laidMetH_plain _ _ _ (by kernel_rfl)] at h
  have h := h.tail
  obtain ⟨ps, ⟨g0, t0, cs0, f0, p0, q0, hg0, ht0, hv0, hd0, _, _⟩, _, _⟩ := h
  obtain rfl := Option.some.inj (gTab.symm.trans hg0)
  obtain rfl := Option.some.inj (tTab.symm.trans ht0)
  obtain ⟨xs, m1, rfl, hx1, hlen, hn3, hel⟩ := DataW.trod_array Tryz.underlying201 hd0
  simp only [Prod.mk.injEq] at hx1
  rw [tabData_eq] at hx1
  have hx := DataW.agg.inj hx1.1
  intro j hj
  have hc := World.var?_cell hg0 hv0 j
  have hj' := hel j hj
  rw [cU8] at hj'
  obtain ⟨x, hxj⟩ : ∃ x, xs[j]? = some x := ⟨xs[j]'(by omega), by simp [hn3, hj]⟩
  rw [hxj] at hj'
  obtain ⟨k, e1, e2, _⟩ := DataW.trod_int Tryz.underlying5 hj'
  have h1 : tabData[j]? = some x.1 := by rw [hx, List.getElem?_map, hxj]; rfl
  rw [tabData_at j hj, e2] at h1
  have hk : k = (Lib.deBruijn64tab.getD j 0 : Nat) := by
    have := Option.some.inj h1
    injection this with this
    injection this with _ this
    exact this.symm
  rw [hc, ← hk]
  have h2 : (cs0.toList.drop (j * 1)).take 1 = [.int .u8 k] := e1
  rw [Nat.mul_one] at h2
  have h3 : cs0.toList[j]? = some (.int .u8 k) := by
    have := congrArg (fun l => l[0]?) h2
    simpa [List.getElem?_take, List.getElem?_drop] using this
  simpa using h3

theorem t10 : (Tryz.prog.globals[4]?).map (·.type) = some 247 := by kernel_rfl
theorem of_laid10 {W : World} (h : laidMetH Tryz.prog laidL W) : Tab10 W := by
  rw [MakeChecks.laidMetH_plain _ _ _ (by kernel_rfl)] at h
  have h := h.tail.tail
  have e : (Rows.laid_internal_strconv_uint64pow10 : DataW Unit) = Lib.tabData .u64 Lib.pow10Tab := by kernel_rfl
  rw [e] at h
  exact Lib.tabIs_of_head globalNamed10 t10 Tryz.underlying247 Tryz.underlying66 (by kernel_rfl) (by kernel_rfl) h
theorem c1N : Tryz.prog.cellsOf 22 = 1 := by kernel_rfl
theorem c1L : Tryz.prog.cellsOf 31 = 1 := by kernel_rfl
theorem c1S : Tryz.prog.cellsOf 9 = 1 := by kernel_rfl
theorem c1I : Tryz.prog.cellsOf 3 = 1 := by kernel_rfl
theorem c3T : Tryz.prog.cellsOf 48 = 3 := by kernel_rfl
theorem open_nats {H : Type} {enc : TypeId × Value → H} {W : World} {base fuel : Nat} {sp : Nat → Bool} {held : Bool} {v : Value} {x : DataW H × List MemPlace}
    (hf : DataW.trod enc Tryz.prog W base sp held fuel 31 [v] = some x) :
    ∃ (A : Option Addr) (n c : Nat) (ls : List ByteArray), v = .slice A n c ∧ ls.length = n ∧ n ≤ maxLen ∧ SLs W W.heap.size A ls := by
  rcases open_slice Tryz.underlying31 hf with ⟨h0, _⟩ | ⟨a, len, cap, m, n, D, Pl, hcs, hb, hl, hm, hmm, hxx, hi⟩
  · have : v = .slice none 0 0 := by simpa using h0
    exact ⟨none, 0, 0, [], this, rfl, Nat.zero_le _, SLs.nil_⟩
  · have hv' : v = .slice (some a) len cap := by simpa using hcs
    have hle : len ≤ m := by rw [hmm]; split <;> omega
    have hat : ∀ i, i < len → ∃ s : ByteArray, W.cell? (a.add i) = some (.string s) := fun i hi' => by
      obtain ⟨cs', hc, ht⟩ := hi i (by omega)
      rw [c1N, Nat.mul_one] at hc
      obtain ⟨s, e, _, _⟩ := DataW.trod_string Tryz.underlying22 ht
      subst e
      obtain ⟨_, _, hat⟩ := World.cells?_some hc
      have := hat 0 (by simp)
      refine ⟨s, ?_⟩
      have e2 : (a.add i).add 0 = a.add i := by simp [Addr.add]
      rw [e2] at this
      simpa using this
    have hex : ∃ ls : List ByteArray, ls.length = len ∧ ∀ i, i < len → W.cell? (a.add i) = some (.string (ls.getD i ByteArray.empty)) := by
      clear hv' hcs hi hm hl hmm hle hf hxx
      induction len with
      | zero => exact ⟨[], rfl, fun i hi => absurd hi (Nat.not_lt_zero _)⟩
      | succ k ih =>
        obtain ⟨ls, h1, h2⟩ := ih (fun i hi => hat i (by omega))
        obtain ⟨s, hs⟩ := hat k (by omega)
        refine ⟨ls ++ [s], by simp [h1], fun i hi => ?_⟩
        by_cases e : i = k
        · subst e
          rw [hs, List.getD_eq_getElem?_getD, List.getElem?_append_right (by omega), h1]
          simp
        · rw [h2 i (by omega), List.getD_eq_getElem?_getD, List.getD_eq_getElem?_getD, List.getElem?_append_left (by omega)]
    obtain ⟨ls, h1, h2⟩ := hex
    refine ⟨some a, len, cap, ls, hv', h1, by omega, fun hne => ⟨a, rfl, ?_, fun j hj => h2 j (by omega)⟩⟩
    have h0 : 0 < len := by rw [← h1]; exact List.length_pos_iff.2 hne
    have hc0 := h2 0 h0
    have e2 : a.add 0 = a := by simp [Addr.add]
    rw [e2] at hc0
    exact World.block_lt_of_cell? W _ hc0
theorem wf_i64 {n : Int} (h : (Lit.int .i64 n).wf = true) : -9223372036854775808 ≤ n ∧ n ≤ 9223372036854775807 := by
  simp [Lit.wf, IntKind.min, IntKind.max, IntKind.bits, IntKind.signed] at h
  omega
theorem open_tape {H : Type} {enc : TypeId × Value → H} {W : World} {base b0 : Nat} {sp : Nat → Bool} {held : Bool} {r : Reach} {v : Value} {d : DataW H} {ps : List MemPlace}
    (hok : Value.okWide Tryz.prog W r b0 48 v) (h : DataW.Trod enc Tryz.prog W base sp held 48 v d ps) :
    ∃ (A : Option Addr) (n c : Nat) (seed : ByteArray) (z : Int) (vals : List ByteArray), v = .agg #[.slice A n c, .string seed, .int .i64 z] ∧ vals.length = n ∧ n ≤ maxLen ∧ SLs W W.heap.size A vals := by
  obtain ⟨cs, rfl, hsz⟩ := okWide_struct Tryz.underlying48 hok
  rw [c3T] at hsz
  obtain ⟨l⟩ := cs
  match l, hsz with
  | [c0, c1, c2], _ =>
  obtain ⟨fuel, hf⟩ := h
  obtain ⟨xs, m, _, _, _, hlen, hfs⟩ := DataW.trod_struct Tryz.underlying48 hf
  match xs, hlen with
  | [y0, y1, y2], _ =>
  have f0 := hfs 0 _ rfl
  have f1 := hfs 1 _ rfl
  have f2 := hfs 2 _ rfl
  simp [Value.cells, c1L, c1S, c1I] at f0 f1 f2
  obtain ⟨A, n, c, vals, rfl, hn, hm, hs⟩ := open_nats f0
  obtain ⟨seed, e1, _, _⟩ := DataW.trod_string Tryz.underlying9 f1
  obtain ⟨z, e2, _, _⟩ := DataW.trod_int Tryz.underlying3 f2
  simp at e1 e2
  subst e1 e2
  exact ⟨A, n, c, seed, z, vals, rfl, hn, hm, hs⟩
theorem open_bits {H : Type} {enc : TypeId × Value → H} {W : World} {base : Nat} {sp : Nat → Bool} {held : Bool} {v : Value} {d : DataW H} {ps : List MemPlace}
    (h : DataW.Trod enc Tryz.prog W base sp held 3 v d ps) (hok : ∃ r b0, Value.okWide Tryz.prog W r b0 3 v) : ∃ z : Int, v = .int .i64 z ∧ -9223372036854775808 ≤ z ∧ z ≤ 9223372036854775807 := by
  have hv : v.cells = #[v] := by
    obtain ⟨r, b0, hok⟩ := hok
    cases v <;> first | rfl | (exfalso; simp [Value.okWide, Tryz.underlying3, Cell.okWide, Cell.ok] at hok)
  obtain ⟨fuel, hf⟩ := h
  obtain ⟨a, e, _, hw⟩ := DataW.trod_int Tryz.underlying3 hf
  rw [hv] at e
  exact ⟨a, by simpa using e, wf_i64 hw⟩

end Go.Proofs.YtkdbemdobfddoaaGreatDoor
