/- The walk of package hash: the state after a block. -/
import Derived.Test.YtfggpgiinihflaaDoorH4
import Derived.Laws.CopyOwn
import Derived.Deep.RegionLaw
namespace Go.Proofs.YtfggpgiinihflaaDoor
open Go.RowKit
set_option maxRecDepth 100000
set_option linter.unusedVariables false
set_option maxHeartbeats 2000000

theorem sched_len (L : List UInt8) : (sched L).length = 64 := by rw [← laterW_last]; exact laterW_len L (Nat.le_refl _)
theorem sched_lt (L : List UInt8) (k : Nat) : (sched L).getD k 0 < 4294967296 := by rw [← laterW_last]; exact laterW_lt L 48 k
theorem u32Cells_size (L : List Nat) : (u32Cells L).size = L.length := by simp [u32Cells]
@[simp] theorem size_cells (b : Nat) : ∀ (vs : List Value) (o : Nat) (w : World), (w.setCells b o vs).heap.size = w.heap.size := by
  intro vs
  induction vs with
  | nil => intro o w; rfl
  | cons v vs ih => intro o w; rw [World.setCells, ih]; simp
/-- What lies in memory in the rounds of a block: the constants, the words, the state that is turned, the state before, the result's cell. -/
structure AfterAt (B Q : Nat) (w wr : World) (S W V : List Nat) : Prop where
  k : C32 wr Q 122 consts
  ws : C32 wr (Q + 1) 122 W
  x : C32 wr (Q + 2) 115 V
  s : C32 wr B 115 S
  r : C32 wr (B + 1) 115 (List.replicate 8 0)
  bel : Below B w wr
section
variable {B Q : Nat} {w wr wq : World} {S W V V' : List Nat}
theorem AfterAt.put (h : AfterAt B Q w wr S W V) (hQ : B + 2 ≤ Q) (i n : Nat) : AfterAt B Q w (wr.setCell ⟨Q + 2, i, none⟩ (.int .u32 n)) S W (V.set i n) :=
  ⟨h.k.far (by simp) _, h.ws.far (by simp) _, h.x.set i n, h.s.far (by simp; omega) _, h.r.far (by simp; omega) _, h.bel.setCell (p := ⟨Q + 2, i, none⟩) (by simp; omega) _⟩
theorem AfterAt.turn (h : AfterAt B Q w wr S W V) (hQ : B + 2 ≤ Q) (hb : Below (Q + 2) wr wq) (hx : C32 wq (Q + 2) 115 V') : AfterAt B Q w wq S W V' :=
  ⟨h.k.below hb (by omega), h.ws.below hb (by omega), hx, h.s.below hb (by omega), h.r.below hb (by omega), h.bel.trans (hb.mono (by omega))⟩
theorem AfterAt.start (hS : S.length = 8) (hW : W.length = 64) (hQ : B + 2 ≤ w.heap.size) (hs : C32 w B 115 S) (hr : C32 w (B + 1) 115 (List.replicate 8 0)) (hb : Below B wr w) :
    ((w.alloc (.cells (u32Cells (List.replicate 64 0)) 122)).alloc (.cells (u32Cells (List.replicate 64 0)) 122)).there w.heap.size 0 64 ∧
    (((w.alloc (.cells (u32Cells (List.replicate 64 0)) 122)).alloc (.cells (u32Cells (List.replicate 64 0)) 122)).setCells w.heap.size 0 (u32Cells consts).toList).there (w.heap.size + 1) 0 64 ∧
    ((((w.alloc (.cells (u32Cells (List.replicate 64 0)) 122)).alloc (.cells (u32Cells (List.replicate 64 0)) 122)).setCells w.heap.size 0 (u32Cells consts).toList).setCells (w.heap.size + 1) 0 (u32Cells W).toList).heap[B]? = some (.cells (u32Cells S) 115 (0, 0)) ∧
    (((((w.alloc (.cells (u32Cells (List.replicate 64 0)) 122)).alloc (.cells (u32Cells (List.replicate 64 0)) 122)).setCells w.heap.size 0 (u32Cells consts).toList).setCells (w.heap.size + 1) 0 (u32Cells W).toList).alloc (.cells (u32Cells (List.replicate 8 0)) 115)).there (w.heap.size + 2) 0 8 ∧
    AfterAt B w.heap.size wr ((((((w.alloc (.cells (u32Cells (List.replicate 64 0)) 122)).alloc (.cells (u32Cells (List.replicate 64 0)) 122)).setCells w.heap.size 0 (u32Cells consts).toList).setCells (w.heap.size + 1) 0 (u32Cells W).toList).alloc (.cells (u32Cells (List.replicate 8 0)) 115)).setCells (w.heap.size + 2) 0 (u32Cells S).toList) S W S := by
  have a0 := (C32.new w 122 (List.replicate 64 0)).alloc (.cells (u32Cells (List.replicate 64 0)) 122)
  have a1 := C32.new (w.alloc (.cells (u32Cells (List.replicate 64 0)) 122)) 122 (List.replicate 64 0)
  rw [World.size_alloc] at a1
  have sS := (hs.alloc (.cells (u32Cells (List.replicate 64 0)) 122)).alloc (.cells (u32Cells (List.replicate 64 0)) 122)
  have sR := (hr.alloc (.cells (u32Cells (List.replicate 64 0)) 122)).alloc (.cells (u32Cells (List.replicate 64 0)) 122)
  have bb := (hb.alloc (o := .cells (u32Cells (List.replicate 64 0)) 122) (by omega)).alloc (o := .cells (u32Cells (List.replicate 64 0)) 122) (by simp; omega)
  have z : ((w.alloc (.cells (u32Cells (List.replicate 64 0)) 122)).alloc (.cells (u32Cells (List.replicate 64 0)) 122)).heap.size = w.heap.size + 2 := by simp
  generalize ((w.alloc (.cells (u32Cells (List.replicate 64 0)) 122)).alloc (.cells (u32Cells (List.replicate 64 0)) 122)) = w1 at a0 a1 sS sR bb z ⊢
  have b0 := a0.setAll consts rfl
  have b1 := C32.farCells (b := w.heap.size) (by omega) (u32Cells consts).toList 0 _ a1
  have tS := C32.farCells (b := w.heap.size) (by omega) (u32Cells consts).toList 0 _ sS
  have tR := C32.farCells (b := w.heap.size) (by omega) (u32Cells consts).toList 0 _ sR
  have cb := Below.setCells (b := w.heap.size) (by omega) (u32Cells consts).toList 0 _ bb
  have z1 : (w1.setCells w.heap.size 0 (u32Cells consts).toList).heap.size = w.heap.size + 2 := by rw [size_cells, z]
  refine ⟨a0.there, b1.there, ?_⟩
  generalize w1.setCells w.heap.size 0 (u32Cells consts).toList = w2 at b0 b1 tS tR cb z1 ⊢
  have c1 := b1.setAll W (by rw [hW]; rfl)
  have c0 := C32.farCells (b := w.heap.size + 1) (by omega) (u32Cells W).toList 0 _ b0
  have uS := C32.farCells (b := w.heap.size + 1) (by omega) (u32Cells W).toList 0 _ tS
  have uR := C32.farCells (b := w.heap.size + 1) (by omega) (u32Cells W).toList 0 _ tR
  have db := Below.setCells (b := w.heap.size + 1) (by omega) (u32Cells W).toList 0 _ cb
  have z2 : (w2.setCells (w.heap.size + 1) 0 (u32Cells W).toList).heap.size = w.heap.size + 2 := by rw [size_cells, z1]
  refine ⟨uS, ?_⟩
  generalize w2.setCells (w.heap.size + 1) 0 (u32Cells W).toList = w3 at c0 c1 uS uR db z2 ⊢
  have d := C32.new w3 115 (List.replicate 8 0)
  rw [z2] at d
  have e0 := c0.alloc (.cells (u32Cells (List.replicate 8 0)) 115)
  have e1 := c1.alloc (.cells (u32Cells (List.replicate 8 0)) 115)
  have vS := uS.alloc (.cells (u32Cells (List.replicate 8 0)) 115)
  have vR := uR.alloc (.cells (u32Cells (List.replicate 8 0)) 115)
  have eb := db.alloc (o := .cells (u32Cells (List.replicate 8 0)) 115) (by omega)
  refine ⟨d.there, ?_⟩
  generalize w3.alloc (.cells (u32Cells (List.replicate 8 0)) 115) = w4 at d e0 e1 vS vR eb ⊢
  exact ⟨C32.farCells (by omega) _ 0 _ e0, C32.farCells (by omega) _ 0 _ e1, d.setAll S (by rw [hS]; rfl), C32.farCells (by omega) _ 0 _ vS, C32.farCells (by omega) _ 0 _ vR, Below.setCells (by omega) _ 0 _ eb⟩
end
theorem roundF_len (v : List Nat) (k w : Nat) : (roundF v k w).length = 8 := rfl
theorem roundsF_len (v ws : List Nat) (h : v.length = 8) : ∀ k, (roundsF v ws k).length = 8 := by
  intro k
  cases k with
  | zero => exact h
  | succ k => exact roundF_len _ _ _
theorem eight (V : List Nat) (h : V.length = 8) : ∃ a b c d e f g i, V = [a, b, c, d, e, f, g, i] := by
  match V, h with
  | [a, b, c, d, e, f, g, i], _ => exact ⟨a, b, c, d, e, f, g, i, rfl⟩
theorem eight_lt {a b c d e f g i : Nat} (h : ∀ x ∈ [a, b, c, d, e, f, g, i], x < 4294967296) : a < 4294967296 ∧ b < 4294967296 ∧ c < 4294967296 ∧ d < 4294967296 ∧ e < 4294967296 ∧ f < 4294967296 ∧ g < 4294967296 ∧ i < 4294967296 :=
  ⟨h a (by simp), h b (by simp), h c (by simp), h d (by simp), h e (by simp), h f (by simp), h g (by simp), h i (by simp)⟩
theorem roundsF_lt (v ws : List Nat) (h : ∀ x ∈ v, x < 4294967296) : ∀ k, ∀ x ∈ roundsF v ws k, x < 4294967296 := by
  intro k
  induction k with
  | zero => exact h
  | succ k ih =>
    have ih' (i : Nat) : (roundsF v ws k).getD i 0 < 4294967296 := by
      rw [List.getD_eq_getElem?_getD]
      cases hk : (roundsF v ws k)[i]? with
      | none => decide
      | some u => exact ih u (List.mem_of_getElem? hk)
    intro x hx
    unfold roundsF roundF at hx
    simp only [List.mem_cons, List.not_mem_nil, or_false] at hx
    rcases hx with h | h | h | h | h | h | h | h <;> rw [h]
    · exact add32_lt _ _
    · exact ih' 0
    · exact ih' 1
    · exact ih' 2
    · exact add32_lt _ _
    · exact ih' 4
    · exact ih' 5
    · exact ih' 6
theorem not32_lt (a : Nat) : not32 a < 4294967296 := by unfold not32; omega
theorem u32_not (x : Nat) (hx : x < 4294967296) : bits .xor .u32 IntKind.u32.max (x : Int) = ((not32 x : Nat) : Int) := by
  have e : IntKind.u32.max = ((4294967295 : Nat) : Int) := by decide
  rw [e, u32_xor_nat _ _ (by decide) hx]
  have h := congrArg BitVec.toNat (BitVec.allOnes_xor (x := BitVec.ofNat 32 x))
  rw [BitVec.toNat_xor, BitVec.toNat_not, BitVec.toNat_allOnes, BitVec.toNat_ofNat, Nat.mod_eq_of_lt (a := x) (by omega)] at h
  show ((4294967295 ^^^ x : Nat) : Int) = ((4294967295 - x : Nat) : Int)
  rw [← h]
theorem u32_and32 (a b : Nat) (ha : a < 4294967296) (hb : b < 4294967296) : bits .and .u32 (a : Int) (b : Int) = ((and32 a b : Nat) : Int) := u32_and_nat a b ha hb
theorem u32_xor32 (a b : Nat) (ha : a < 4294967296) (hb : b < 4294967296) : bits .xor .u32 (a : Int) (b : Int) = ((xor32 a b : Nat) : Int) := u32_xor_nat a b ha hb
theorem xor3_bits (x a b c : Nat) (hx : x < 4294967296) (ha : 1 ≤ a) (ha2 : a < 32) (hb : 1 ≤ b) (hb2 : b < 32) (hc : 1 ≤ c) (hc2 : c < 32) :
    bits .xor .u32 (bits .xor .u32 ((rotr x a : Nat) : Int) ((rotr x b : Nat) : Int)) ((rotr x c : Nat) : Int) = ((xor3 x a b c : Nat) : Int) := by
  rw [u32_xor_nat _ _ (rotr_lt _ _ hx ha ha2) (rotr_lt _ _ hx hb hb2)]
  exact u32_xor_nat _ _ (xor32_lt (rotr_lt _ _ hx ha ha2) (rotr_lt _ _ hx hb hb2)) (rotr_lt _ _ hx hc hc2)
theorem xor3_lt (x a b c : Nat) (hx : x < 4294967296) (ha : 1 ≤ a) (ha2 : a < 32) (hb : 1 ≤ b) (hb2 : b < 32) (hc : 1 ≤ c) (hc2 : c < 32) : xor3 x a b c < 4294967296 :=
  xor32_lt (xor32_lt (rotr_lt _ _ hx ha ha2) (rotr_lt _ _ hx hb hb2)) (rotr_lt _ _ hx hc hc2)
theorem wrap_add (a b : Nat) : IntKind.u32.wrap ((a : Int) + (b : Int)) = ((add32 a b : Nat) : Int) := by
  rw [← wrap_add32]
  simp [IntKind.wrap, IntKind.bits, IntKind.signed]
theorem round_t (e f g h k w : Nat) (he : e < 4294967296) (hf : f < 4294967296) (hg : g < 4294967296) :
    IntKind.u32.wrap (IntKind.u32.wrap (IntKind.u32.wrap (IntKind.u32.wrap ((h : Int) + bits .xor .u32 (bits .xor .u32 ((rotr e 6 : Nat) : Int) ((rotr e 11 : Nat) : Int)) ((rotr e 25 : Nat) : Int)) +
      bits .xor .u32 (bits .and .u32 (e : Int) (f : Int)) (bits .and .u32 (bits .xor .u32 IntKind.u32.max (e : Int)) (g : Int))) + (k : Int)) + (w : Int)) =
    ((add32 (add32 (add32 (add32 h (xor3 e 6 11 25)) (xor32 (and32 e f) (and32 (not32 e) g))) k) w : Nat) : Int) := by
  rw [xor3_bits e 6 11 25 he (by decide) (by decide) (by decide) (by decide) (by decide) (by decide), u32_not e he, u32_and32 e f he hf, u32_and32 (not32 e) g (not32_lt e) hg, u32_xor32 _ _ (and32_lt hf) (and32_lt hg), wrap_add]
  rw [wrap_add, wrap_add, wrap_add]
theorem round_u (a b c : Nat) (ha : a < 4294967296) (hb : b < 4294967296) (hc : c < 4294967296) :
    (bits .xor .u32 (bits .xor .u32 ((rotr a 2 : Nat) : Int) ((rotr a 13 : Nat) : Int)) ((rotr a 22 : Nat) : Int) + bits .xor .u32 (bits .xor .u32 (bits .and .u32 (a : Int) (b : Int)) (bits .and .u32 (a : Int) (c : Int))) (bits .and .u32 (b : Int) (c : Int))) % 4294967296 =
    ((add32 (xor3 a 2 13 22) (xor32 (xor32 (and32 a b) (and32 a c)) (and32 b c)) : Nat) : Int) := by
  rw [xor3_bits a 2 13 22 ha (by decide) (by decide) (by decide) (by decide) (by decide) (by decide), u32_and32 a b ha hb, u32_and32 a c ha hc, u32_and32 b c hb hc, u32_xor32 _ _ (and32_lt hb) (and32_lt hc)]
  rw [u32_xor32 _ _ (xor32_lt (and32_lt hb) (and32_lt hc)) (and32_lt hc), wrap_add32]
theorem ones (l : List Nat) : ∀ v ∈ l.map (fun (n : Nat) => Value.int .u32 n), v.oneCell' = true := by
  intro v hv
  obtain ⟨n, _, rfl⟩ := List.mem_map.mp hv
  rfl
theorem cellsX {w : World} {g : Nat} {T : TypeId} {a b c d e f h i : Nat} (hx : C32 w g T [a, b, c, d, e, f, h, i]) (j : Nat) (v : Value)
    (hv : ([.int .u32 a, .int .u32 b, .int .u32 c, .int .u32 d, .int .u32 e, .int .u32 f, .int .u32 h] : List Value)[j]? = some v) : w.cell? ((⟨g, 0, none⟩ : Addr).add j) = some v := by
  have hj : j < 7 := by have := (List.getElem?_eq_some_iff.mp hv).1; simpa using this
  have ha : (⟨g, 0, none⟩ : Addr).add j = ⟨g, j, none⟩ := by unfold Addr.add; split <;> simp_all
  rw [ha, hx.cell (k := j) (by simp; omega)]
  rw [← hv]
  match j, hj with
  | 0, _ | 1, _ | 2, _ | 3, _ | 4, _ | 5, _ | 6, _ => rfl
/-- The state when j of its words have been added to those before. -/
def mixW (X S : List Nat) (j : Nat) : List Nat := (List.range 8).map fun i => if i < j then add32 (X.getD i 0) (S.getD i 0) else X.getD i 0
theorem mixW_zero (a b c d e f g h : Nat) (S : List Nat) : mixW [a, b, c, d, e, f, g, h] S 0 = [a, b, c, d, e, f, g, h] := rfl
theorem after_len (S : List Nat) (L : List UInt8) : (after S L).length = 8 := by unfold after; rw [List.length_map, List.length_range]
theorem mixW_len (X S : List Nat) (j : Nat) : (mixW X S j).length = 8 := rfl
theorem mixW_at (X S : List Nat) {j : Nat} (h : j < 8) : (mixW X S j).getD j 0 = X.getD j 0 := by
  match j, h with
  | 0, _ | 1, _ | 2, _ | 3, _ | 4, _ | 5, _ | 6, _ | 7, _ => rfl
theorem mixW_step (X S : List Nat) {j : Nat} (h : j < 8) : (mixW X S j).set j (add32 (X.getD j 0) (S.getD j 0)) = mixW X S (j + 1) := by
  match j, h with
  | 0, _ | 1, _ | 2, _ | 3, _ | 4, _ | 5, _ | 6, _ | 7, _ => rfl
theorem mixW_last (X S : List Nat) (L : List UInt8) (h : X = roundsF S (sched L) 64) : mixW X S 8 = after S L := by
  unfold after
  rw [← h]
  rfl
theorem hash_after (gb o c s0 s1 s2 s3 s4 s5 s6 s7 : Nat) (L : List UInt8) (w : World) (hl : L.length = 64) (hc : 64 ≤ c) (hc2 : c ≤ 1000000) (hrow : Row w gb o L) (hg : gb < w.heap.size)
    (hS : ∀ x ∈ [s0, s1, s2, s3, s4, s5, s6, s7], x < 4294967296) :
    Calls Tryd.prog 86 #[.agg (u32Cells [s0, s1, s2, s3, s4, s5, s6, s7]), .slice (some ⟨gb, o, none⟩) 64 c] w fun e w' => e = .returned (.agg (u32Cells (after [s0, s1, s2, s3, s4, s5, s6, s7] L))) ∧ Below w.heap.size w w' := by
  have HROW := Lib.hid hrow
  have HL := Lib.hid hl
  have HS := Lib.hid hS
  clear hrow hl hS
  have hbA : Below w.heap.size w ((w.alloc (.cells (u32Cells [s0, s1, s2, s3, s4, s5, s6, s7]) 115)).alloc (.cells (u32Cells (List.replicate 8 0)) 115)) := ((Below.refl _ _).alloc (Nat.le_refl _) _).alloc (by simp) _
  have hcS : C32 ((w.alloc (.cells (u32Cells [s0, s1, s2, s3, s4, s5, s6, s7]) 115)).alloc (.cells (u32Cells (List.replicate 8 0)) 115)) w.heap.size 115 [s0, s1, s2, s3, s4, s5, s6, s7] := (C32.new _ _ _).alloc _
  have hcR : C32 ((w.alloc (.cells (u32Cells [s0, s1, s2, s3, s4, s5, s6, s7]) 115)).alloc (.cells (u32Cells (List.replicate 8 0)) 115)) (w.heap.size + 1) 115 (List.replicate 8 0) := by
    have := C32.new (w.alloc (.cells (u32Cells [s0, s1, s2, s3, s4, s5, s6, s7]) 115)) 115 (List.replicate 8 0)
    rw [World.size_alloc] at this
    exact this
  have HCS := Lib.hid hcS
  have HCR := Lib.hid hcR
  have HBA := Lib.hid hbA
  clear hbA hcS hcR
  obtain ⟨CC, hCC⟩ : ∃ x, x = u32Cells consts := ⟨_, rfl⟩
  obtain ⟨CW, hCW⟩ : ∃ x, x = u32Cells (sched L) := ⟨_, rfl⟩
  obtain ⟨CS, hCS⟩ : ∃ x, x = u32Cells [s0, s1, s2, s3, s4, s5, s6, s7] := ⟨_, rfl⟩
  have KC := Lib.hid (fun w => hash_constants w)
  have KS := Lib.hid (fun w => hash_schedule gb o c L w HL.out hc hc2)
  have HE := Lib.hid (And.intro hCC (And.intro hCW hCS))
  rw [← hCC] at KC
  rw [← hCW] at KS
  rw [← hCS] at HCS HCR HBA ⊢
  have nC := Lib.hid (show CC.size = 64 by rw [hCC]; rfl)
  have nW := Lib.hid (show CW.size = 64 by rw [hCW, u32Cells_size, sched_len])
  have nS := Lib.hid (show CS.size = 8 by rw [hCS]; rfl)
  have oC := Lib.hid (show CC.all (·.oneCell') = true by rw [hCC]; exact u32Cells_one _)
  have oW := Lib.hid (show CW.all (·.oneCell') = true by rw [hCW]; exact u32Cells_one _)
  have oS := Lib.hid (show CS.all (·.oneCell') = true by rw [hCS]; exact u32Cells_one _)
  have HCS' : Hid (((w.alloc (.cells CS 115)).alloc (.cells (u32Cells (List.replicate 8 0)) 115)).heap[w.heap.size]? = some (.cells CS 115 (0, 0))) := Lib.hid (by have := HCS.out; unfold C32 at this; rw [← hCS] at this; exact this)
  clear hCC hCW hCS
  go_enter Tryd.func86, Tryd.ntmps86
  go_wp2_with (first
    | (go_at_call 92; (with_reducible refine (KC.out _).mono ?_); rintro e w1 ⟨rfl, hb1⟩
       have HB1 := Lib.hid (hb1.mono (B' := w.heap.size + 2) (by simp)); clear hb1)
    | (go_at_call 93; (with_reducible refine (KS.out _ (HROW.out.below (HBA.out.trans (HB1.out.mono (by simp))) hg) (Nat.lt_of_lt_of_le hg (Nat.le_trans (by simp; omega) HB1.out.size))).mono ?_)
       rintro e w2 ⟨rfl, hb2⟩
       have hz : w.heap.size + 2 ≤ w1.heap.size := Nat.le_trans (by simp) HB1.out.size
       have hb3 := HB1.out.trans (hb2.mono hz)
       have HZ := Lib.hid (Nat.le_trans hz hb2.size)
       have hst := AfterAt.start (S := [s0, s1, s2, s3, s4, s5, s6, s7]) rfl (sched_len L) HZ.out (HCS.out.below hb3 (by omega)) (HCR.out.below hb3 (by omega)) (HBA.out.trans (hb3.mono (by omega)))
       rw [← HE.out.1, ← HE.out.2.1, ← HE.out.2.2] at hst
       have HST := Lib.hid hst
       clear hb2 hb3 hz hst)
    | (refine wpList_store_mid rfl 122 _ _ rfl w2.heap.size 0 CC rfl rfl (by rw [nC.out]; exact HST.out.1) (by rw [nC.out]; rfl) oC.out ?_)
    | (refine wpList_store_mid rfl 122 _ _ rfl (w2.heap.size + 1) 0 CW rfl rfl (by rw [nW.out]; exact HST.out.2.1) (by rw [nW.out]; rfl) oW.out ?_)
    | (refine wpList_load_row rfl 115 _ rfl w.heap.size rfl _ _ _ _ HST.out.2.2.1 Tryd.underlying115 rfl (by rw [nS.out]; rfl) ?_)
    | (refine wpList_store_mid rfl 115 _ _ rfl (w2.heap.size + 2) 0 CS rfl rfl (by rw [nS.out]; exact HST.out.2.2.2.1) (by rw [nS.out]; rfl) oS.out ?_)
    | fail)
  go_loopw [22] (fun v wr => ∃ k : Nat, v = .int .i64 k ∧ k ≤ 64 ∧ AfterAt w.heap.size w2.heap.size w wr [s0, s1, s2, s3, s4, s5, s6, s7] (sched L) (roundsF [s0, s1, s2, s3, s4, s5, s6, s7] (sched L) k)) (fun v _ => 64 - (intOf v).toNat)
  case atStart => exact ⟨0, rfl, by decide, HST.out.2.2.2.2⟩
  case round =>
    clear HCR HCS HCS' HBA HST KC KS HB1 oC oW oS nC nW nS
    obtain ⟨k, rfl, hk, hat⟩ := hrel
    obtain ⟨V, hV⟩ : ∃ x, x = roundsF [s0, s1, s2, s3, s4, s5, s6, s7] (sched L) k := ⟨_, rfl⟩
    rw [← hV] at hat
    have hlt8 : ∀ x ∈ V, x < 4294967296 := by rw [hV]; exact roundsF_lt _ _ HS.out k
    obtain ⟨x0, x1, x2, x3, x4, x5, x6, x7, hV8⟩ := eight V (by rw [hV]; exact roundsF_len _ _ rfl k)
    obtain ⟨g0, g1, g2, g3, g4, g5, g6, g7⟩ := eight_lt (by rw [hV8] at hlt8; exact hlt8)
    rw [hV8] at hV
    rw [hV8] at hat
    clear hV8 hlt8
    have HV := Lib.hid hV
    have HAT := Lib.hid hat
    clear hV hat
    by_cases hlt : k < 64
    · have y0 : wr.cell? ⟨w2.heap.size + 2, 0, none⟩ = some (.int .u32 (x0 : Nat)) := HAT.out.x.cell (k := 0) (by simp)
      have y1 : wr.cell? ⟨w2.heap.size + 2, 1, none⟩ = some (.int .u32 (x1 : Nat)) := HAT.out.x.cell (k := 1) (by simp)
      have y2 : wr.cell? ⟨w2.heap.size + 2, 2, none⟩ = some (.int .u32 (x2 : Nat)) := HAT.out.x.cell (k := 2) (by simp)
      have y4 : wr.cell? ⟨w2.heap.size + 2, 4, none⟩ = some (.int .u32 (x4 : Nat)) := HAT.out.x.cell (k := 4) (by simp)
      have y5 : wr.cell? ⟨w2.heap.size + 2, 5, none⟩ = some (.int .u32 (x5 : Nat)) := HAT.out.x.cell (k := 5) (by simp)
      have y6 : wr.cell? ⟨w2.heap.size + 2, 6, none⟩ = some (.int .u32 (x6 : Nat)) := HAT.out.x.cell (k := 6) (by simp)
      have y7 : wr.cell? ⟨w2.heap.size + 2, 7, none⟩ = some (.int .u32 (x7 : Nat)) := HAT.out.x.cell (k := 7) (by simp)
      have yk := HAT.out.k.cell (k := k) (by simpa [consts] using hlt)
      have yw := HAT.out.ws.cell (k := k) (by rw [sched_len]; exact hlt)
      obtain ⟨kk, hkk⟩ : ∃ x, consts.getD k 0 = x := ⟨_, rfl⟩
      obtain ⟨ww, hww⟩ : ∃ x, (sched L).getD k 0 = x := ⟨_, rfl⟩
      rw [hkk] at yk
      rw [hww] at yw
      have HK := Lib.hid (And.intro hkk hww)
      have i0 : (0:Int) ≤ (k:Int) := by omega
      have i2 : (k:Int) < (64:Int) := by omega
      have G0 := Lib.hid g0
      have G1 := Lib.hid g1
      have G2 := Lib.hid g2
      have G3 := Lib.hid g3
      have G4 := Lib.hid g4
      have G5 := Lib.hid g5
      have G6 := Lib.hid g6
      have G7 := Lib.hid g7
      have HLT := Lib.hid hlt
      clear hkk hww hlt hk g0 g1 g2 g3 g4 g5 g6 g7
      go_wp2_with fail
      go_region_held3 (fun w' => w'.cell? ⟨w2.heap.size + 2, 0, none⟩ = some (.int .u32 x0) ∧ w'.cell? ⟨w2.heap.size + 2, 1, none⟩ = some (.int .u32 x1) ∧ w'.cell? ⟨w2.heap.size + 2, 2, none⟩ = some (.int .u32 x2) ∧ w'.cell? ⟨w2.heap.size + 2, 4, none⟩ = some (.int .u32 x4) ∧ w'.cell? ⟨w2.heap.size + 2, 5, none⟩ = some (.int .u32 x5) ∧ w'.cell? ⟨w2.heap.size + 2, 6, none⟩ = some (.int .u32 x6)) (first | go_keep) (first | fail)
      go_wp2_with fail
      clear y0 y1 y2 y4 y5 y6
      go_region_held3 (fun w' => w'.cell? ⟨w2.heap.size + 2, 7, none⟩ = some (.int .u32 x7) ∧ w'.cell? ⟨w2.heap.size, k, none⟩ = some (.int .u32 kk) ∧ w'.cell? ⟨w2.heap.size + 1, k, none⟩ = some (.int .u32 ww)) (first | go_keep) (first | (go_at_call 94; (with_reducible refine (turn_6 _ _ G4.out).mono ?_); rintro e w' ⟨rfl, rfl⟩) | (go_at_call 94; (with_reducible refine (turn_11 _ _ G4.out).mono ?_); rintro e w' ⟨rfl, rfl⟩) | (go_at_call 94; (with_reducible refine (turn_25 _ _ G4.out).mono ?_); rintro e w' ⟨rfl, rfl⟩))
      go_wp2_with (first | (go_at_call 94; (with_reducible refine (turn_2 _ _ G0.out).mono ?_); rintro e w' ⟨rfl, rfl⟩) | (go_at_call 94; (with_reducible refine (turn_13 _ _ G0.out).mono ?_); rintro e w' ⟨rfl, rfl⟩) | (go_at_call 94; (with_reducible refine (turn_22 _ _ G0.out).mono ?_); rintro e w' ⟨rfl, rfl⟩))
      rw [round_t x4 x5 x6 x7 kk ww G4.out G5.out G6.out, round_u x0 x1 x2 G0.out G1.out G2.out]
      obtain ⟨t, ht⟩ : ∃ t, t = add32 (add32 (add32 (add32 x7 (xor3 x4 6 11 25)) (xor32 (and32 x4 x5) (and32 (not32 x4) x6))) kk) ww := ⟨_, rfl⟩
      obtain ⟨u, hu⟩ : ∃ u, u = add32 (xor3 x0 2 13 22) (xor32 (xor32 (and32 x0 x1) (and32 x0 x2)) (and32 x1 x2)) := ⟨_, rfl⟩
      rw [← ht, ← hu]
      have HT := Lib.hid (And.intro ht hu)
      clear ht hu y7 yk yw
      go_region_law (refine step_copy_splice rfl (.tmp 85) (.tmp 86) _ _ rfl 113 rfl rfl (some ⟨w2.heap.size + 1 + 1, 1, none⟩) (some ⟨w2.heap.size + 1 + 1, 0, none⟩) 7 7 7 8 (by simp [Act.eval, Act.put]) (by simp [Act.eval, Act.put]) (w2.heap.size + 1 + 1) 1 [.int .u32 x0, .int .u32 x1, .int .u32 x2, .int .u32 x3, .int .u32 x4, .int .u32 x5, .int .u32 x6, .int .u32 x7] 115 HAT.out.x [.int .u32 x0, .int .u32 x1, .int .u32 x2, .int .u32 x3, .int .u32 x4, .int .u32 x5, .int .u32 x6] rfl (fun _ => ⟨rfl, _, rfl, cellsX HAT.out.x⟩) (Nat.le_refl 8) (ones [x0, x1, x2, x3, x4, x5, x6]) (w2.heap.size + 1 + 1) wr ⟨rfl, rfl, rfl, Nat.le_refl _, fun _ _ => rfl⟩ (Nat.le_refl _) ?_; intro w4 hg4 hb4)
      have hat4 : AfterAt w.heap.size w2.heap.size w w4 [s0, s1, s2, s3, s4, s5, s6, s7] (sched L) [x0, x0, x1, x2, x3, x4, x5, x6] := HAT.out.turn HZ.out hb4 hg4.out
      have z4 : w4.cell? ⟨w2.heap.size + 2, 4, none⟩ = some (.int .u32 (x3 : Nat)) := hat4.x.cell (k := 4) (by simp)
      have z0 : w4.cell? ⟨w2.heap.size + 2, 0, none⟩ = some (.int .u32 (x0 : Nat)) := hat4.x.cell (k := 0) (by simp)
      have f4 : w4.frozen? ⟨w2.heap.size + 2, 4, none⟩ = false := hat4.x.free 4
      have f0 : w4.frozen? ⟨w2.heap.size + 2, 0, none⟩ = false := hat4.x.free 0
      have HA4 := Lib.hid hat4
      clear hat4 hg4 hb4
      go_wp2_with fail
      go_roundw
      case rel =>
        refine ⟨k + 1, by rfl, by have := HLT.out; omega, ?_⟩
        have e : roundsF [s0, s1, s2, s3, s4, s5, s6, s7] (sched L) (k + 1) = [add32 t u, x0, x1, x2, add32 x3 t, x4, x5, x6] := by
          show roundF (roundsF [s0, s1, s2, s3, s4, s5, s6, s7] (sched L) k) (consts.getD k 0) ((sched L).getD k 0) = _
          rw [← HV.out, HK.out.1, HK.out.2, HT.out.1, HT.out.2]
          rfl
        rw [e, wrap_add32, wrap_add32]
        exact (HA4.out.put HZ.out 4 (add32 x3 t)).put HZ.out 0 (add32 t u)
      case measure => have := HLT.out; show 64 - ((k : Int) + 1).toNat < 64 - (k : Int).toNat; omega
    · have ek : k = 64 := by omega
      subst ek
      clear hlt hk
      go_wp2_with fail
      rw [show ((64 : Nat) : Int) = 64 from rfl]
      go_loopw [98] (fun v wr => ∃ j : Nat, v = .int .i64 j ∧ j ≤ 8 ∧ AfterAt w.heap.size w2.heap.size w wr [s0, s1, s2, s3, s4, s5, s6, s7] (sched L) (mixW [x0, x1, x2, x3, x4, x5, x6, x7] [s0, s1, s2, s3, s4, s5, s6, s7] j)) (fun v _ => 8 - (intOf v).toNat)
      case atStart => exact ⟨0, rfl, by decide, by rw [mixW_zero]; exact HAT.out⟩
      case round =>
        clear HAT
        obtain ⟨j, rfl, hj, hat⟩ := hrel
        have HAT := Lib.hid hat
        clear hat
        by_cases hlt : j < 8
        · have yx : wr.cell? ⟨w2.heap.size + 2, j, none⟩ = some (.int .u32 ([x0, x1, x2, x3, x4, x5, x6, x7].getD j 0 : Nat)) := by
            rw [HAT.out.x.cell (k := j) (by rw [mixW_len]; exact hlt), mixW_at _ _ hlt]
          have ys : wr.cell? ⟨w.heap.size, j, none⟩ = some (.int .u32 ([s0, s1, s2, s3, s4, s5, s6, s7].getD j 0 : Nat)) := HAT.out.s.cell (k := j) (by simpa using hlt)
          have fx := HAT.out.x.free j
          obtain ⟨xv, hxv⟩ : ∃ x, [x0, x1, x2, x3, x4, x5, x6, x7].getD j 0 = x := ⟨_, rfl⟩
          obtain ⟨sv, hsv⟩ : ∃ x, [s0, s1, s2, s3, s4, s5, s6, s7].getD j 0 = x := ⟨_, rfl⟩
          rw [hxv] at yx
          rw [hsv] at ys
          have HK := Lib.hid (And.intro hxv hsv)
          have HLT := Lib.hid hlt
          have i0 : (0:Int) ≤ (j:Int) := by omega
          have i2 : (j:Int) < (8:Int) := by omega
          clear hxv hsv hlt hj
          go_wp2_with fail
          go_region_law (fail)
          all_goals
            go_wp2_with fail
            go_roundw
            case rel =>
              refine ⟨j + 1, by rfl, by have := HLT.out; omega, ?_⟩
              have e := mixW_step [x0, x1, x2, x3, x4, x5, x6, x7] [s0, s1, s2, s3, s4, s5, s6, s7] HLT.out
              rw [HK.out.1, HK.out.2] at e
              rw [← e, wrap_add32]
              first
                | exact HAT.out.put HZ.out j (add32 xv sv)
                | (refine AfterAt.turn (HAT.out.put HZ.out j (add32 xv sv)) HZ.out ⟨rfl, rfl, rfl, Nat.le_refl _, fun _ _ => rfl⟩ (HAT.out.put HZ.out j (add32 xv sv)).x)
            case measure => have := HLT.out; show 8 - ((j : Int) + 1).toNat < 8 - (j : Int).toNat; omega
        · have ej : j = 8 := by omega
          subst ej
          have e := mixW_last _ _ L HV.out
          obtain ⟨A, hA⟩ : ∃ x, x = after [s0, s1, s2, s3, s4, s5, s6, s7] L := ⟨_, rfl⟩
          have lA : A.length = 8 := by rw [hA, after_len]
          have HAx := HAT.out.x
          rw [e, ← hA] at HAx
          have HX := Lib.hid HAx
          have HE' := Lib.hid (And.intro e hA)
          have lS := Lib.hid (show (u32Cells A).size = 8 by rw [u32Cells_size, lA])
          have hset := HAT.out.r.setAll A (by rw [lA]; rfl)
          have HSET := Lib.hid hset
          clear hlt hj e hA lA HAx hset
          go_wp2_with (first | (refine wpList_load_row rfl 115 _ rfl (w2.heap.size + 2) rfl _ _ _ _ HX.out Tryd.underlying115 rfl (by rw [lS.out]; rfl) ?_) | (refine wpList_store_mid rfl 115 _ _ rfl (w.heap.size + 1) 0 (u32Cells A) rfl rfl (by rw [lS.out]; exact HAT.out.r.there) (by rw [lS.out]; rfl) (u32Cells_one _) ?_))
          refine bodyPost_ret (v := .agg (u32Cells A)) ?_ ?_ ?_
          rotate_left 2
          · exact ⟨by rw [HE'.out.2], Below.setCells (by omega) (u32Cells A).toList 0 wr HAT.out.bel⟩
          rotate_left 1
          · rfl
          exact results_cell_row Tryd.results86 _ _ (w.heap.size + 1) 115 (u32Cells A) (0, 0) _ rfl HSET.out Tryd.underlying115 rfl (by rw [lS.out]; rfl)

end Go.Proofs.YtfggpgiinihflaaDoor
