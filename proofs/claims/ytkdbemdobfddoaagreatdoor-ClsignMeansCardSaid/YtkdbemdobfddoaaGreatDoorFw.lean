/- Words for rows: a setting, two lists, a signature, opened. -/
import Derived.Test.YtkdbemdobfddoaaGreatDoorZQ
import Derived.Test.YtkdbemdobfddoaaGreatDoorKd
namespace Go.Proofs.YtkdbemdobfddoaaGreatDoor
open Go.ChangeShapes Go.WideShapes Go.ChangeAt Go.WideElems Go.RowKit Go.Deep
set_option maxRecDepth 100000
set_option maxHeartbeats 4000000

theorem c2Gw : Tryz.prog.cellsOf 26 = 2 := by kernel_rfl
theorem c2Rw : Tryz.prog.cellsOf 24 = 2 := by kernel_rfl
theorem c4Pw : Tryz.prog.cellsOf 28 = 4 := by kernel_rfl
theorem c17Pw : Tryz.prog.cellsOf 30 = 17 := by kernel_rfl
theorem c8Kw : Tryz.prog.cellsOf 33 = 8 := by kernel_rfl
theorem c2Tw : Tryz.prog.cellsOf 35 = 2 := by kernel_rfl
theorem c27w : Tryz.prog.cellsOf 37 = 27 := by kernel_rfl
theorem c3Sw : Tryz.prog.cellsOf 57 = 3 := by kernel_rfl
section
variable {H : Type} {enc : TypeId × Value → H} {W : World} {base b0 fuel : Nat} {sp : Nat → Bool} {held : Bool} {r : Reach} {v : Value} {d : DataW H} {ps : List MemPlace} {x : DataW H × List MemPlace}
theorem open_nat1 {c : Value} (hf : DataW.trod enc Tryz.prog W base sp held fuel 22 [c] = some x) : ∃ s : ByteArray, c = .string s := by
  obtain ⟨s, e, _, _⟩ := DataW.trod_string Tryz.underlying22 hf
  exact ⟨s, by simpa using e⟩
theorem open_ped4 {c0 c1 c2 c3 : Value} (hf : DataW.trod enc Tryz.prog W base sp held fuel 28 [c0, c1, c2, c3] = some x) : ∃ s0 s1 s2 s3 : ByteArray, c0 = .string s0 ∧ c1 = .string s1 ∧ c2 = .string s2 ∧ c3 = .string s3 := by
  obtain ⟨ps1, k1, _, _, _, hl1, hf1⟩ := DataW.trod_struct Tryz.underlying28 hf
  match ps1, hl1 with
  | [u0, u1, u2], _ =>
  have a0 := hf1 0 _ rfl
  have a1 := hf1 1 _ rfl
  have a2 := hf1 2 _ rfl
  simp [c2Gw, c1N] at a0 a1 a2
  obtain ⟨z2, z3, k3, _, _, g2, g3⟩ := trod_struct2 Tryz.underlying26 a0
  simp [c1N] at g2 g3
  obtain ⟨s0, e0⟩ := open_nat1 g2
  obtain ⟨s1, e1⟩ := open_nat1 g3
  obtain ⟨s2, e2⟩ := open_nat1 a1
  obtain ⟨s3, e3⟩ := open_nat1 a2
  exact ⟨s0, s1, s2, s3, e0, e1, e2, e3⟩
theorem open_par17 {c0 c1 c2 c3 c4 c5 c6 c7 c8 c9 c10 c11 c12 c13 c14 c15 c16 : Value} (hf : DataW.trod enc Tryz.prog W base sp held fuel 30 [c0, c1, c2, c3, c4, c5, c6, c7, c8, c9, c10, c11, c12, c13, c14, c15, c16] = some x) :
    ∃ s0 s1 s2 s3 s4 s5 s6 s7 s8 s9 s10 s11 s12 s13 s14 s15 s16 : ByteArray, c0 = .string s0 ∧ c1 = .string s1 ∧ c2 = .string s2 ∧ c3 = .string s3 ∧ c4 = .string s4 ∧ c5 = .string s5 ∧ c6 = .string s6 ∧ c7 = .string s7 ∧ c8 = .string s8 ∧ c9 = .string s9 ∧ c10 = .string s10 ∧ c11 = .string s11 ∧ c12 = .string s12 ∧ c13 = .string s13 ∧ c14 = .string s14 ∧ c15 = .string s15 ∧ c16 = .string s16 := by
  obtain ⟨xs, n, _, _, _, hlen, hfs⟩ := DataW.trod_struct Tryz.underlying30 hf
  match xs, hlen with
  | [y0, y1, y2, y3, y4, y5, y6, y7, y8, y9], _ =>
  have f0 := hfs 0 _ rfl
  have f1 := hfs 1 _ rfl
  have f2 := hfs 2 _ rfl
  have f3 := hfs 3 _ rfl
  have f4 := hfs 4 _ rfl
  have f5 := hfs 5 _ rfl
  have f6 := hfs 6 _ rfl
  have f7 := hfs 7 _ rfl
  have f8 := hfs 8 _ rfl
  have f9 := hfs 9 _ rfl
  simp [c2Rw, c4Pw, c1N] at f0 f1 f2 f3 f4 f5 f6 f7 f8 f9
  obtain ⟨z0, z1, k0, _, _, g0, g1⟩ := trod_struct2 Tryz.underlying24 f0
  simp [c1N] at g0 g1
  obtain ⟨s0, e0⟩ := open_nat1 g0
  obtain ⟨s1, e1⟩ := open_nat1 g1
  obtain ⟨s2, s3, s4, s5, e2, e3, e4, e5⟩ := open_ped4 f1
  obtain ⟨s6, s7, s8, s9, e6, e7, e8, e9⟩ := open_ped4 f2
  obtain ⟨s10, e10⟩ := open_nat1 f3
  obtain ⟨s11, e11⟩ := open_nat1 f4
  obtain ⟨s12, e12⟩ := open_nat1 f5
  obtain ⟨s13, e13⟩ := open_nat1 f6
  obtain ⟨s14, e14⟩ := open_nat1 f7
  obtain ⟨s15, e15⟩ := open_nat1 f8
  obtain ⟨s16, e16⟩ := open_nat1 f9
  exact ⟨s0, s1, s2, s3, s4, s5, s6, s7, s8, s9, s10, s11, s12, s13, s14, s15, s16, e0, e1, e2, e3, e4, e5, e6, e7, e8, e9, e10, e11, e12, e13, e14, e15, e16⟩
theorem open_key8 {c0 c1 c2 c3 c4 c5 c6 c7 : Value} (hf : DataW.trod enc Tryz.prog W base sp held fuel 33 [c0, c1, c2, c3, c4, c5, c6, c7] = some x) :
    ∃ (nm m o z s u h : ByteArray) (A : Option Addr) (n c : Nat) (rs : List ByteArray), c0 = .string nm ∧ c1 = .string m ∧ c2 = .string o ∧ c3 = .string z ∧ c4 = .string s ∧ c5 = .slice A n c ∧ c6 = .string u ∧ c7 = .string h ∧ rs.length = n ∧ n ≤ maxLen ∧ SLs W W.heap.size A rs := by
  obtain ⟨xs, n, _, _, _, hlen, hfs⟩ := DataW.trod_struct Tryz.underlying33 hf
  match xs, hlen with
  | [y0, y1, y2, y3, y4, y5, y6], _ =>
  have f0 := hfs 0 _ rfl
  have f1 := hfs 1 _ rfl
  have f2 := hfs 2 _ rfl
  have f3 := hfs 3 _ rfl
  have f4 := hfs 4 _ rfl
  have f5 := hfs 5 _ rfl
  have f6 := hfs 6 _ rfl
  simp [c2Gw, c1S, c1L, c1N] at f0 f1 f2 f3 f4 f5 f6
  obtain ⟨nm, e0, _, _⟩ := DataW.trod_string Tryz.underlying9 f0
  simp at e0
  obtain ⟨z2, z3, k3, _, _, g2, g3⟩ := trod_struct2 Tryz.underlying26 f1
  simp [c1N] at g2 g3
  obtain ⟨m, e1⟩ := open_nat1 g2
  obtain ⟨o, e2⟩ := open_nat1 g3
  obtain ⟨z, e3⟩ := open_nat1 f2
  obtain ⟨s, e4⟩ := open_nat1 f3
  obtain ⟨A, n', c', rs, e5, hn, hm, hs⟩ := open_nats f4
  obtain ⟨u, e6⟩ := open_nat1 f5
  obtain ⟨h, e7⟩ := open_nat1 f6
  exact ⟨nm, m, o, z, s, u, h, A, n', c', rs, e0, e1, e2, e3, e4, e5, e6, e7, hn, hm, hs⟩
theorem open_setting (hok : Value.okWide Tryz.prog W r b0 37 v) (h : DataW.Trod enc Tryz.prog W base sp held 37 v d ps) :
    ∃ (ch sl mm mo mg mh wm wo wg wh se at_ ha el es bl ma nm m o z s u h P Q : ByteArray) (AR : Option Addr) (nR cR : Nat) (rs : List ByteArray),
      v = .agg #[.string ch, .string sl, .string mm, .string mo, .string mg, .string mh, .string wm, .string wo, .string wg, .string wh, .string se, .string at_, .string ha, .string el, .string es, .string bl, .string ma, .string nm, .string m, .string o, .string z, .string s, .slice AR nR cR, .string u, .string h, .string P, .string Q] ∧
      rs.length = nR ∧ nR ≤ maxLen ∧ SLs W W.heap.size AR rs := by
  obtain ⟨cs, rfl, hsz⟩ := okWide_struct Tryz.underlying37 hok
  rw [c27w] at hsz
  obtain ⟨l⟩ := cs
  match l, hsz with
  | [c0, c1, c2, c3, c4, c5, c6, c7, c8, c9, c10, c11, c12, c13, c14, c15, c16, c17, c18, c19, c20, c21, c22, c23, c24, c25, c26], _ =>
  obtain ⟨fuel, hf⟩ := h
  obtain ⟨xs, n, _, _, _, hlen, hfs⟩ := DataW.trod_struct Tryz.underlying37 hf
  match xs, hlen with
  | [y0, y1, y2], _ =>
  have f0 := hfs 0 _ rfl
  have f1 := hfs 1 _ rfl
  have f2 := hfs 2 _ rfl
  simp [Value.cells, c17Pw, c8Kw, c2Tw] at f0 f1 f2
  obtain ⟨s0, s1, s2, s3, s4, s5, s6, s7, s8, s9, s10, s11, s12, s13, s14, s15, s16, e0, e1, e2, e3, e4, e5, e6, e7, e8, e9, e10, e11, e12, e13, e14, e15, e16⟩ := open_par17 f0
  obtain ⟨nm, m, o, z, s, u, h, A, n', c', rs, k0, k1, k2, k3, k4, k5, k6, k7, hn, hm, hs⟩ := open_key8 f1
  obtain ⟨z2, z3, k8, _, _, g2, g3⟩ := trod_struct2 Tryz.underlying35 f2
  simp [c1N] at g2 g3
  obtain ⟨P, p0⟩ := open_nat1 g2
  obtain ⟨Q, p1⟩ := open_nat1 g3
  subst e0 e1 e2 e3 e4 e5 e6 e7 e8 e9 e10 e11 e12 e13 e14 e15 e16 k0 k1 k2 k3 k4 k5 k6 k7 p0 p1
  exact ⟨s0, s1, s2, s3, s4, s5, s6, s7, s8, s9, s10, s11, s12, s13, s14, s15, s16, nm, m, o, z, s, u, h, P, Q, A, n', c', rs, rfl, hn, hm, hs⟩
theorem open_sig (hok : Value.okWide Tryz.prog W r b0 57 v) (h : DataW.Trod enc Tryz.prog W base sp held 57 v d ps) :
    ∃ sA sE sV : ByteArray, v = .agg #[.string sA, .string sE, .string sV] := by
  obtain ⟨cs, rfl, hsz⟩ := okWide_struct Tryz.underlying57 hok
  rw [c3Sw] at hsz
  obtain ⟨l⟩ := cs
  match l, hsz with
  | [c0, c1, c2], _ =>
  obtain ⟨fuel, hf⟩ := h
  obtain ⟨xs, n, _, _, _, hlen, hfs⟩ := DataW.trod_struct Tryz.underlying57 hf
  match xs, hlen with
  | [y0, y1, y2], _ =>
  have f0 := hfs 0 _ rfl
  have f1 := hfs 1 _ rfl
  have f2 := hfs 2 _ rfl
  simp [Value.cells, c1N] at f0 f1 f2
  obtain ⟨a, e0⟩ := open_nat1 f0
  obtain ⟨b, e1⟩ := open_nat1 f1
  obtain ⟨c, e2⟩ := open_nat1 f2
  subst e0 e1 e2
  exact ⟨a, b, c, rfl⟩
theorem okWide_arr {n : Nat} {e t : TypeId} (ht : Tryz.prog.underlying t = some (.array n e)) (h : Value.okWide Tryz.prog W r b0 t v) : ∃ cs, v = .agg cs ∧ cs.size = Tryz.prog.cellsOf t := by
  simp only [Value.okWide, ht] at h
  obtain ⟨cs, h1, h2, _⟩ := h
  exact ⟨cs, h1, h2⟩
theorem c2Aw : Tryz.prog.cellsOf 62 = 2 := by kernel_rfl
theorem open_two (hok : Value.okWide Tryz.prog W r b0 62 v) (h : DataW.Trod enc Tryz.prog W base sp held 62 v d ps) :
    ∃ (A1 : Option Addr) (n1 c1 : Nat) (l1 : List ByteArray) (A2 : Option Addr) (n2 c2 : Nat) (l2 : List ByteArray), v = .agg #[.slice A1 n1 c1, .slice A2 n2 c2] ∧ l1.length = n1 ∧ n1 ≤ maxLen ∧ SLs W W.heap.size A1 l1 ∧ l2.length = n2 ∧ n2 ≤ maxLen ∧ SLs W W.heap.size A2 l2 := by
  obtain ⟨cs, rfl, hsz⟩ := okWide_arr Tryz.underlying62 hok
  rw [c2Aw] at hsz
  obtain ⟨l⟩ := cs
  match l, hsz with
  | [c0, c1], _ =>
  obtain ⟨fuel, hf⟩ := h
  obtain ⟨xs, m, _, _, _, hlen, hfs⟩ := DataW.trod_array Tryz.underlying62 hf
  match xs, hlen with
  | [y0, y1], _ =>
  have f0 := hfs 0 (by omega)
  have f1 := hfs 1 (by omega)
  simp [Value.cells, c1L] at f0 f1
  obtain ⟨A1, n1, k1, l1, e0, hn1, hm1, hs1⟩ := open_nats f0
  obtain ⟨A2, n2, k2, l2, e1, hn2, hm2, hs2⟩ := open_nats f1
  subst e0 e1
  exact ⟨A1, n1, k1, l1, A2, n2, k2, l2, rfl, hn1, hm1, hs1, hn2, hm2, hs2⟩
theorem open_natl (h : DataW.Trod enc Tryz.prog W base sp held 31 v d ps) (hok : ∃ r b0, Value.okWide Tryz.prog W r b0 31 v) :
    ∃ (A : Option Addr) (n c : Nat) (ls : List ByteArray), v = .slice A n c ∧ ls.length = n ∧ n ≤ maxLen ∧ SLs W W.heap.size A ls := by
  have hv : v.cells = #[v] := by
    obtain ⟨r, b0, hok⟩ := hok
    cases v <;> first | rfl | (exfalso; simp [Value.okWide, Tryz.underlying31, Cell.okWide, Cell.ok] at hok)
  obtain ⟨fuel, hf⟩ := h
  rw [hv] at hf
  exact open_nats hf
end

end Go.Proofs.YtkdbemdobfddoaaGreatDoor
