/- Wallet: words that open the arguments of a row: slices, the wallet, the change. -/
import Derived.Test.YtlheedcnmfekoaaWeJ42
namespace Go.Proofs.Ytlheedcnmfekoaa
open Go.ChangeShapes Go.WideShapes Go.ChangeAt Go.WideElems Go.RowKit
set_option maxRecDepth 100000
set_option linter.unusedVariables false
set_option maxHeartbeats 4000000
theorem relH_flat {w : World} {S : Nat → Prop} : ∀ L : List (Hz × Option Addr × Nat), (∀ v ∈ L, RowC w S v.2.1 v.1.att.length (cellsN v.1.att)) → RelH w S (L.map (·.1)) (L.flatMap fun v => cellsH v.1 v.2.1 v.2.2)
  | [], _ => rfl
  | v :: r, h => ⟨v.2.1, v.2.2, _, rfl, h v (by simp), relH_flat r (fun u hu => h u (by simp [hu]))⟩
section
variable {H : Type} {enc : TypeId × Value → H} {W : World} {base fuel b0 : Nat} {sp : Nat → Bool} {held : Bool} {r : Reach} {x : DataW H × List MemPlace} {v : Value} {d : DataW H} {ps : List MemPlace}
theorem open_askedsR {c : Value} (hl : LeR Try.prog 24 x.1) (hf : DataW.trod enc Try.prog W base sp held fuel 24 [c] = some x) :
    ∃ (A : Option Addr) (n cp : Nat) (qs : List Az), c = .slice A n cp ∧ qs.length = n ∧ SlA W (fun g => g < W.heap.size) A qs ∧ ∀ y ∈ qs, BndA 140737488351232 y := by
  rcases tl_slice Try.underlying24 hl hf with h0 | ⟨a, len, cap, n, h1, _, _, hi⟩
  · exact ⟨none, 0, 0, [], by simpa using h0, rfl, fun h => absurd h (by simp), by simp⟩
  · rw [ceAz] at hi
    obtain ⟨L, hL, hp⟩ := choose_list (p := fun i (s : Az) => (∀ j, j < 5 → W.cell? ((a.add (i * 5)).add j) = (oneA s)[j]?) ∧ BndA 140737488351232 s) len (fun i hil => by
      obtain ⟨cs', y, h2, h3, h4, h5⟩ := hi i hil
      match cs', h2 with
      | [c0, c1, c2, c3, c4], _ =>
      obtain ⟨s, h6, h7⟩ := open_askedR h5 h4
      exact ⟨s, by rw [← h6]; exact h3, h7⟩)
    refine ⟨some a, len, cap, L, by simpa using h1, hL, ?_, fun y hy => ?_⟩
    · have := row_of (W := W) (a := a) oneA (sz := 5) (fun _ => rfl) (by decide) L hL (fun i v hv => (hp i v hv).1)
      unfold SlA
      rwa [flat_A, ← hL] at this
    · obtain ⟨i, hi⟩ := List.mem_iff_getElem?.1 hy
      exact (hp i y hi).2
theorem open_usedsR {c : Value} (hl : LeR Try.prog 26 x.1) (hf : DataW.trod enc Try.prog W base sp held fuel 26 [c] = some x) :
    ∃ (A : Option Addr) (n cp : Nat) (us : List Uz), c = .slice A n cp ∧ us.length = n ∧ SlU W (fun g => g < W.heap.size) A us ∧ ∀ y ∈ us, y.1.size ≤ 140737488351232 ∧ (Lit.int .i64 y.2.1).wf = true := by
  rcases tl_slice Try.underlying26 hl hf with h0 | ⟨a, len, cap, n, h1, _, _, hi⟩
  · exact ⟨none, 0, 0, [], by simpa using h0, rfl, fun h => absurd h (by simp), by simp⟩
  · rw [ceUz] at hi
    obtain ⟨L, hL, hp⟩ := choose_list (p := fun i (s : Uz) => (∀ j, j < 3 → W.cell? ((a.add (i * 3)).add j) = (oneU s)[j]?) ∧ s.1.size ≤ 140737488351232 ∧ (Lit.int .i64 s.2.1).wf = true) len (fun i hil => by
      obtain ⟨cs', y, h2, h3, h4, h5⟩ := hi i hil
      match cs', h2 with
      | [c0, c1, c2], _ =>
      obtain ⟨s, h6, h7⟩ := open_usedR h5 h4
      exact ⟨s, by rw [← h6]; exact h3, h7⟩)
    refine ⟨some a, len, cap, L, by simpa using h1, hL, ?_, fun y hy => ?_⟩
    · have := row_of (W := W) (a := a) oneU (sz := 3) (fun _ => rfl) (by decide) L hL (fun i v hv => (hp i v hv).1)
      unfold SlU
      rwa [flat_U, ← hL] at this
    · obtain ⟨i, hi⟩ := List.mem_iff_getElem?.1 hy
      exact (hp i y hi).2
theorem open_heldsR {c : Value} (hl : LeR Try.prog 25 x.1) (hf : DataW.trod enc Try.prog W base sp held fuel 25 [c] = some x) :
    ∃ (A : Option Addr) (n cp : Nat) (hs : List Hz), c = .slice A n cp ∧ hs.length = n ∧ SlH W (fun g => g < W.heap.size) A hs ∧ ∀ y ∈ hs, BndH 140737488351232 y := by
  rcases tl_slice Try.underlying25 hl hf with h0 | ⟨a, len, cap, n, h1, _, _, hi⟩
  · exact ⟨none, 0, 0, [], by simpa using h0, rfl, ⟨[], fun h => absurd h (by simp), rfl⟩, by simp⟩
  · rw [ceHz] at hi
    obtain ⟨L, hL, hp⟩ := choose_list (p := fun i (s : Hz × Option Addr × Nat) => (∀ j, j < 9 → W.cell? ((a.add (i * 9)).add j) = (cellsH s.1 s.2.1 s.2.2)[j]?) ∧ BndH 140737488351232 s.1 ∧ RowC W (fun g => g < W.heap.size) s.2.1 s.1.att.length (cellsN s.1.att)) len (fun i hil => by
      obtain ⟨cs', y, h2, h3, h4, h5⟩ := hi i hil
      match cs', h2 with
      | [c0, c1, c2, c3, c4, c5, c6, c7, c8], _ =>
      obtain ⟨s, A, cc, h6, h7, h8, _, _⟩ := open_heldR h5 h4
      exact ⟨(s, A, cc), by rw [← h6]; exact h3, h7, h8⟩)
    refine ⟨some a, len, cap, L.map (·.1), by simpa using h1, by simpa using hL, ⟨L.flatMap (fun v => cellsH v.1 v.2.1 v.2.2), ?_, relH_flat L (fun v hv => ?_)⟩, fun y hy => ?_⟩
    · have := row_of (W := W) (a := a) (fun v : Hz × Option Addr × Nat => cellsH v.1 v.2.1 v.2.2) (sz := 9) (fun _ => rfl) (by decide) L hL (fun i v hv => (hp i v hv).1)
      rw [List.length_map, hL]
      exact this
    · obtain ⟨i, hi⟩ := List.mem_iff_getElem?.1 hv
      exact (hp i v hi).2.2
    · obtain ⟨z, hz, rfl⟩ := List.mem_map.1 hy
      obtain ⟨i, hi⟩ := List.mem_iff_getElem?.1 hz
      exact (hp i z hi).2.1
theorem open_wallet (hok : Value.okWide Try.prog W r b0 28 v) (hl : LeR Try.prog 28 d) (h : DataW.Trod enc Try.prog W base sp held 28 v d ps) :
    ∃ (sec : ByteArray) (qs : List Az) (hs : List Hz) (us : List Uz) (Aa Ah Au : Option Addr) (na ca nh ch nu cu : Nat), v = .agg #[.string sec, .slice Aa na ca, .slice Ah nh ch, .slice Au nu cu] ∧ qs.length = na ∧ hs.length = nh ∧ us.length = nu ∧ WalM W (fun g => g < W.heap.size) qs hs us Aa Ah Au ∧
      sec.size ≤ 140737488351232 ∧ (∀ y ∈ qs, BndA 140737488351232 y) ∧ (∀ y ∈ hs, BndH 140737488351232 y) ∧ (∀ y ∈ us, y.1.size ≤ 140737488351232 ∧ (Lit.int .i64 y.2.1).wf = true) := by
  obtain ⟨cs, rfl, hsz⟩ := okWide_struct Try.underlying28 hok
  rw [ceWa] at hsz
  obtain ⟨l⟩ := cs
  match l, hsz with
  | [c0, c1, c2, c3], _ =>
  obtain ⟨fuel, hf⟩ := h
  obtain ⟨_, n, hfs⟩ := tl_struct Try.underlying28 (x := (d, ps)) hl hf
  obtain ⟨y0, f0, l0⟩ := hfs 0 _ rfl
  obtain ⟨y1, f1, l1⟩ := hfs 1 _ rfl
  obtain ⟨y2, f2, l2⟩ := hfs 2 _ rfl
  obtain ⟨y3, f3, l3⟩ := hfs 3 _ rfl
  simp [Value.cells, ceNat, ceAzs, ceHzs, ceUzs] at f0 f1 f2 f3
  obtain ⟨sec, rfl, b0⟩ := open_nat1 l0 f0
  obtain ⟨Aa, na, ca, qs, rfl, hq, ha, ba⟩ := open_askedsR l1 f1
  obtain ⟨Ah, nh, ch, hs, rfl, hn, hh, bh⟩ := open_heldsR l2 f2
  obtain ⟨Au, nu, cu, us, rfl, hu, hu2, bu⟩ := open_usedsR l3 f3
  exact ⟨sec, qs, hs, us, Aa, Ah, Au, na, ca, nh, ch, nu, cu, rfl, hq, hn, hu, ⟨ha, hh, hu2⟩, b0, ba, bh, bu⟩
theorem open_change (hok : Value.okWide Try.prog W r b0 46 v) (hl : LeR Try.prog 46 d) (h : DataW.Trod enc Try.prog W base sp held 46 v d ps) :
    ∃ (kd : Int) (y : Az) (nc : ByteArray) (ix : Int) (z : Hz) (A : Option Addr) (c : Nat) (sc : ByteArray) (pd lm : Int), v = .agg #[.int .u8 kd, .string y.1, .string y.2.1, .string y.2.2.1, .string y.2.2.2.1, .string y.2.2.2.2, .string nc, .int .i64 ix, .string z.iss, .string z.sch, .int .i64 z.ver, .slice A z.att.length c, .string z.a, .string z.e, .string z.v, .int .i64 z.ep, .string z.wit, .string sc, .int .i64 pd, .int .i64 lm] ∧
      BndA 140737488351232 y ∧ BndH 140737488351232 z ∧ nc.size ≤ 140737488351232 ∧ sc.size ≤ 140737488351232 ∧ RowC W (fun g => g < W.heap.size) A z.att.length (cellsN z.att) ∧
      (Lit.int .u8 kd).wf = true ∧ (Lit.int .i64 ix).wf = true ∧ (Lit.int .i64 z.ver).wf = true ∧ (Lit.int .i64 z.ep).wf = true ∧ (Lit.int .i64 pd).wf = true ∧ (Lit.int .i64 lm).wf = true := by
  obtain ⟨cs, rfl, hsz⟩ := okWide_struct Try.underlying46 hok
  rw [ceCh] at hsz
  obtain ⟨l⟩ := cs
  match l, hsz with
  | [c0, c1, c2, c3, c4, c5, c6, c7, c8, c9, c10, c11, c12, c13, c14, c15, c16, c17, c18, c19], _ =>
  obtain ⟨fuel, hf⟩ := h
  obtain ⟨_, n, hfs⟩ := tl_struct Try.underlying46 (x := (d, ps)) hl hf
  obtain ⟨y0, f0, l0⟩ := hfs 0 _ rfl
  obtain ⟨y1, f1, l1⟩ := hfs 1 _ rfl
  obtain ⟨y2, f2, l2⟩ := hfs 2 _ rfl
  obtain ⟨y3, f3, l3⟩ := hfs 3 _ rfl
  obtain ⟨y4, f4, l4⟩ := hfs 4 _ rfl
  obtain ⟨y5, f5, l5⟩ := hfs 5 _ rfl
  obtain ⟨y6, f6, l6⟩ := hfs 6 _ rfl
  obtain ⟨y7, f7, l7⟩ := hfs 7 _ rfl
  simp [Value.cells, ceByte, ceAz, ceStr, ceInt, ceHz] at f0 f1 f2 f3 f4 f5 f6 f7
  obtain ⟨kd, e0, _, w0⟩ := DataW.trod_int Try.underlying5 f0
  obtain ⟨y, e1, b1⟩ := open_askedR l1 f1
  obtain ⟨nc, e2, b2⟩ := open_str1 l2 f2
  obtain ⟨ix, e3, w3⟩ := open_int1 f3
  obtain ⟨z, A, c, e4, b4, r4, w4, w4'⟩ := open_heldR l4 f4
  obtain ⟨sc, e5, b5⟩ := open_str1 l5 f5
  obtain ⟨pd, e6, w6⟩ := open_int1 f6
  obtain ⟨lm, e7, w7⟩ := open_int1 f7
  simp [oneA, cellsH] at e0 e1 e4
  obtain ⟨p1, p2, p3, p4, p5⟩ := e1
  obtain ⟨q1, q2, q3, q4, q5, q6, q7, q8, q9⟩ := e4
  subst e0 p1 p2 p3 p4 p5 e2 e3 q1 q2 q3 q4 q5 q6 q7 q8 q9 e5 e6 e7
  exact ⟨kd, y, nc, ix, z, A, c, sc, pd, lm, rfl, b1, b4, b2, b5, r4, w0, w3, w4, w4', w6, w7⟩
end
end Go.Proofs.Ytlheedcnmfekoaa
