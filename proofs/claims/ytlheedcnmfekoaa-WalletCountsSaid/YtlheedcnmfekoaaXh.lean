/- Wallet: numbers; what valid computes. -/
import Derived.Test.YtlheedcnmfekoaaXc
import Derived.Test.YtlheedcnmfekoaaWv
import Derived.Deep.DeepCutAuto
import Derived.Deep.CutBlock
namespace Go.Proofs.Ytlheedcnmfekoaa
open Go.RowKit
set_option maxRecDepth 100000
set_option linter.unusedVariables false
set_option maxHeartbeats 4000000

def numsH (x : Hz) : List ByteArray := [x.a, x.e, x.v, x.wit] ++ x.att
/-- A credential as a value. -/
def valH (x : Hz) (A : Option Addr) (n c : Nat) : Value := .agg #[.string x.iss, .string x.sch, .int .i64 x.ver, .slice A n c, .string x.a, .string x.e, .string x.v, .int .i64 x.ep, .string x.wit]
theorem wal_numbers (x : Hz) (A : Option Addr) (n c : Nat) (S : Nat → Prop) (w : World) (hn : x.att.length = n) (hm : n ≤ 100000) (h : RowC w S A n (cellsN x.att)) (hS : ∀ g, S g → g < w.heap.size) :
    Calls Try.prog 36 #[valH x A n c] w fun e w' => ∃ A' n' c', e = .returned (.slice A' n' c') ∧ n' = (numsH x).length ∧ SLs w' w'.heap.size A' (numsH x) ∧ Below w.heap.size w w' := by
  obtain ⟨iss, sch, ver, att, a, e, v, ep, wit⟩ := x
  obtain ⟨i, hi, hz, hs1, hb1⟩ := infoE_N
  dsimp only at hn h
  unfold valH
  dsimp only
  obtain ⟨W, hW⟩ : ∃ W, (((w.alloc (.cells #[.string iss, .string sch, .int .i64 ver, .slice A n c, .string a, .string e, .string v, .int .i64 ep, .string wit] 44)).alloc (.cells #[.string a, .string e, .string v] 40)).alloc (.cells #[.string a, .string e, .string v, .string wit] 23)) = W := ⟨_, rfl⟩
  have hbw : Below w.heap.size w W := by rw [← hW]; exact (((Below.refl w.heap.size w).alloc (Nat.le_refl _) _).alloc (by simp) _).alloc (by simp; omega) _
  have HR := Lib.hid (h.reads (k := 1) (by rw [cellsN_len, hn]) hS hbw)
  have hO := World.ownsRow_lit (e := 23) (size := 1) ((w.alloc (.cells #[.string iss, .string sch, .int .i64 ver, .slice A n c, .string a, .string e, .string v, .int .i64 ep, .string wit] 44)).alloc (.cells #[.string a, .string e, .string v] 40)) #[.string a, .string e, .string v, .string wit] 4 (base := w.heap.size) (by simp; omega) (by unfold maxLen; omega) rfl
  rw [hW, World.size_alloc, World.size_alloc] at hO
  have HO := Lib.hid hO
  have hsz : W.heap.size = w.heap.size + 3 := by rw [← hW]; simp
  have HZ := Lib.hid hsz
  have HBW := Lib.hid hbw
  rw [← hW] at HR HO HZ HBW
  have HN := Lib.hid hn
  have H1 := Lib.hid (cellsN_one att)
  clear h hS hn hbw hO hsz hW
  go_enter Try.func36, Try.ntmps36
  go_wp2_with (at_builtin; go_loud (refine wpList_append_any _ rfl _ _ 38 rfl w.heap.size 23 i (.string ByteArray.empty) 1 16 Try.underlying38 hi hz hs1 hb1 rfl (by decide) _ 4 [.string a, .string e, .string v, .string wit] rfl HO.out _ A n c (cellsN att) rfl HR.out H1.out (by unfold maxLen; omega) (by omega) (by simp; omega) ?_))
  intro v' w4 hown hgrow hv
  obtain ⟨A4, c4, rfl⟩ := owns_shape hown
  have hb4 : Below w.heap.size _ w4 := below_grown hgrow (by simp; omega) (fun g hg => (HO.out.lt g hg).1)
  have HB := Lib.hid (HBW.out.trans hb4)
  have HS : Hid (SLs w4 w4.heap.size A4 (numsH ⟨iss, sch, ver, att, a, e, v, ep, wit⟩)) := Lib.hid (by
    have hl : (numsH ⟨iss, sch, ver, att, a, e, v, ep, wit⟩).length = 4 + n := by unfold numsH; simp only [List.length_append]; rw [HN.out]; rfl
    have hc : [Value.string a, .string e, .string v, .string wit] ++ cellsN att = cellsN (numsH ⟨iss, sch, ver, att, a, e, v, ep, wit⟩) := by unfold cellsN numsH; simp
    have hown' : w4.ownsRow w.heap.size 23 1 (.slice A4 (4 + n) c4) (4 + n) (cellsN (numsH ⟨iss, sch, ver, att, a, e, v, ep, wit⟩)) := by
      rw [← hc]
      exact hown
    intro hne
    obtain ⟨g, off, e1, hg, hcell⟩ := owns_row hown' (by omega)
    refine ⟨_, e1, hg.2, fun j hj => ?_⟩
    rw [addr_add]
    refine hcell j _ ?_
    unfold cellsN
    rw [List.getElem?_map, List.getD_eq_getElem?_getD, List.getElem?_eq_getElem hj]
    rfl)
  have HL : Hid (4 + n = (numsH ⟨iss, sch, ver, att, a, e, v, ep, wit⟩).length) := Lib.hid (by unfold numsH; simp only [List.length_append]; rw [HN.out]; rfl)
  clear hown hgrow hv hb4
  go_wp2
  go_ret
  exact ⟨A4, _, c4, rfl, HL.out, HS.out, HB.out⟩

/-! ### what valid computes -/
def okA (x : Az) : Bool := [x.2.2.2.1, x.2.2.2.2].all valid
def validA : List ByteArray → List Az → Bool
  | _, [] => true
  | seen, x :: r => if (seen.any fun y => keyS.same y x.2.2.1) = true then false else if okA x = true then validA (x.2.2.1 :: seen) r else false
def okH (x : Hz) : Bool := (numsH x).all valid
noncomputable def validU : List (ByteArray × Int) → List Uz → Bool
  | _, [] => true
  | seen, x :: r => if x.2.2 < 1 then false else if (seen.any fun y => keyP.same y (x.1, x.2.1)) = true then false else validU ((x.1, x.2.1) :: seen) r
noncomputable def validW (sec : ByteArray) (qs : List Az) (hs : List Hz) (us : List Uz) : Bool := [sec].all valid && (validA [] qs && (hs.all okH && validU [] us))

end Go.Proofs.Ytlheedcnmfekoaa
