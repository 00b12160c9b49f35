/- What the rows of the laws on parameters share: a struct of 17 strings opened, a number of 16 bits. -/
import Derived.Test.YtfggpgiinihflaaGreatDoorZQ
namespace Go.Proofs.YtfggpgiinihflaaGreatDoor
open Go.ChangeShapes Go.WideShapes Go.ChangeAt Go.WideElems Go.RowKit Go.Deep
set_option maxRecDepth 100000

theorem c2G : Tryz.prog.cellsOf 37 = 2 := by kernel_rfl
theorem c2R : Tryz.prog.cellsOf 49 = 2 := by kernel_rfl
theorem c4P : Tryz.prog.cellsOf 51 = 4 := by kernel_rfl
theorem c17P : Tryz.prog.cellsOf 53 = 17 := by kernel_rfl
theorem open_par {H : Type} {enc : TypeId × Value → H} {W : World} {base b0 : Nat} {sp : Nat → Bool} {held : Bool} {r : Reach} {v : Value} {d : DataW H} {ps : List MemPlace}
    (hok : Value.okWide Tryz.prog W r b0 53 v) (h : DataW.Trod enc Tryz.prog W base sp held 53 v d ps) : ∃ ch sl mm mo mg mh wm wo wg wh se at_ ha el es bl ma : ByteArray, v = .agg #[.string ch, .string sl, .string mm, .string mo, .string mg, .string mh, .string wm, .string wo, .string wg, .string wh, .string se, .string at_, .string ha, .string el, .string es, .string bl, .string ma] := by
  obtain ⟨cs, rfl, hsz⟩ := okWide_struct Tryz.underlying53 hok
  rw [c17P] at hsz
  obtain ⟨l⟩ := cs
  match l, hsz with
  | [c0, c1, c2, c3, c4, c5, c6, c7, c8, c9, c10, c11, c12, c13, c14, c15, c16], _ =>
  obtain ⟨fuel, hf⟩ := h
  obtain ⟨xs, n, _, _, _, hlen, hfs⟩ := DataW.trod_struct Tryz.underlying53 hf
  match xs, hlen with
  | [y0, y1, y2, y3, y4, y5, y6, y7, y8, y9], _ =>
  have f0 := hfs 0 _ rfl
  have f1 := hfs 1 _ rfl
  have f2 := hfs 2 _ rfl
  have f3 := hfs 3 _ rfl
  have f4 := hfs 4 _ rfl
  have f5 := hfs 5 _ rfl
  have f6 := hfs 6 _ rfl
  have f7 := hfs 7 _ rfl
  have f8 := hfs 8 _ rfl
  have f9 := hfs 9 _ rfl
  simp [Value.cells, c2R, c4P, c1N] at f0 f1 f2 f3 f4 f5 f6 f7 f8 f9
  obtain ⟨z0, z1, k0, _, _, g0, g1⟩ := trod_struct2 Tryz.underlying49 f0
  obtain ⟨ps1, k1, _, _, _, hl1, hf1⟩ := DataW.trod_struct Tryz.underlying51 f1
  obtain ⟨ps2, k2, _, _, _, hl2, hf2⟩ := DataW.trod_struct Tryz.underlying51 f2
  match ps1, hl1, ps2, hl2 with
  | [u0, u1, u2], _, [v0, v1, v2], _ =>
  have a0 := hf1 0 _ rfl
  have a1 := hf1 1 _ rfl
  have a2 := hf1 2 _ rfl
  have b0' := hf2 0 _ rfl
  have b1 := hf2 1 _ rfl
  have b2 := hf2 2 _ rfl
  simp [c2G] at a0 a1 a2 b0' b1 b2
  obtain ⟨z2, z3, k3, _, _, g2, g3⟩ := trod_struct2 Tryz.underlying37 a0
  obtain ⟨z4, z5, k4, _, _, g4, g5⟩ := trod_struct2 Tryz.underlying37 b0'
  obtain ⟨s0, e0, _, _⟩ := DataW.trod_string Tryz.underlying28 g0
  obtain ⟨s1, e1, _, _⟩ := DataW.trod_string Tryz.underlying28 g1
  obtain ⟨s2, e2, _, _⟩ := DataW.trod_string Tryz.underlying28 g2
  obtain ⟨s3, e3, _, _⟩ := DataW.trod_string Tryz.underlying28 g3
  obtain ⟨s4, e4, _, _⟩ := DataW.trod_string Tryz.underlying28 a1
  obtain ⟨s5, e5, _, _⟩ := DataW.trod_string Tryz.underlying28 a2
  obtain ⟨s6, e6, _, _⟩ := DataW.trod_string Tryz.underlying28 g4
  obtain ⟨s7, e7, _, _⟩ := DataW.trod_string Tryz.underlying28 g5
  obtain ⟨s8, e8, _, _⟩ := DataW.trod_string Tryz.underlying28 b1
  obtain ⟨s9, e9, _, _⟩ := DataW.trod_string Tryz.underlying28 b2
  obtain ⟨s10, e10, _, _⟩ := DataW.trod_string Tryz.underlying28 f3
  obtain ⟨s11, e11, _, _⟩ := DataW.trod_string Tryz.underlying28 f4
  obtain ⟨s12, e12, _, _⟩ := DataW.trod_string Tryz.underlying28 f5
  obtain ⟨s13, e13, _, _⟩ := DataW.trod_string Tryz.underlying28 f6
  obtain ⟨s14, e14, _, _⟩ := DataW.trod_string Tryz.underlying28 f7
  obtain ⟨s15, e15, _, _⟩ := DataW.trod_string Tryz.underlying28 f8
  obtain ⟨s16, e16, _, _⟩ := DataW.trod_string Tryz.underlying28 f9
  simp [c1N] at e0 e1 e2 e3 e4 e5 e6 e7 e8 e9 e10 e11 e12 e13 e14 e15 e16
  subst e0 e1 e2 e3 e4 e5 e6 e7 e8 e9 e10 e11 e12 e13 e14 e15 e16
  exact ⟨_, _, _, _, _, _, _, _, _, _, _, _, _, _, _, _, _, rfl⟩
theorem wf_u16 {n : Int} (h : (Lit.int .u16 n).wf = true) : ∃ k : Nat, n = k ∧ k < 65536 := by
  simp [Lit.wf, IntKind.min, IntKind.max, IntKind.bits, IntKind.signed] at h
  exact ⟨n.toNat, by omega, by omega⟩
theorem open_u16 {H : Type} {enc : TypeId × Value → H} {W : World} {base : Nat} {sp : Nat → Bool} {held : Bool} {v : Value} {d : DataW H} {ps : List MemPlace}
    (h : DataW.Trod enc Tryz.prog W base sp held 61 v d ps) (hok : ∃ r b0, Value.okWide Tryz.prog W r b0 61 v) : ∃ k : Nat, v = .int .u16 k ∧ k < 65536 := by
  have hv : v.cells = #[v] := by
    obtain ⟨r, b0, hok⟩ := hok
    cases v <;> first | rfl | (exfalso; simp [Value.okWide, Tryz.underlying61, Cell.okWide, Cell.ok] at hok)
  obtain ⟨fuel, hf⟩ := h
  obtain ⟨a, e, _, hw⟩ := DataW.trod_int Tryz.underlying61 hf
  rw [hv] at e
  obtain ⟨k, rfl, hk⟩ := wf_u16 hw
  exact ⟨k, by simpa using e, hk⟩

end Go.Proofs.YtfggpgiinihflaaGreatDoor
