/- The walk of package hash: the state after a block. The walk of package hash: Sum. -/
import Derived.Test.YtkdbemdobfddoaaGreatDoorBH
import Derived.Laws.CopyOwn
import Derived.Deep.RegionLaw
import Derived.Test.YtkdbemdobfddoaaGreatDoorBR
namespace Go.Proofs.YtkdbemdobfddoaaGreatDoor
open Go.RowKit
set_option maxRecDepth 100000
set_option linter.unusedVariables false
set_option maxHeartbeats 2000000

theorem sched_len (L : List UInt8) : (sched L).length = 64 := by rw [← laterW_last]; exact laterW_len L (Nat.le_refl _)
theorem sched_lt (L : List UInt8) (k : Nat) : (sched L).getD k 0 < 4294967296 := by rw [← laterW_last]; exact laterW_lt L 48 k
theorem u32Cells_size (L : List Nat) : (u32Cells L).size = L.length := by simp [u32Cells]
@[simp] theorem size_cells (b : Nat) : ∀ (vs : List Value) (o : Nat) (w : World), (w.setCells b o vs).heap.size = w.heap.size := by
  intro vs
  induction vs with
  | nil => intro o w; rfl
  | cons v vs ih => intro o w; rw [World.setCells, ih]; simp
/-- What lies in memory in the rounds of a block: the constants, the words, the state that is turned, the state before, the result's cell. -/
structure AfterAt (B Q : Nat) (w wr : World) (S W V : List Nat) : Prop where
  k : C32 wr Q 242 consts
  ws : C32 wr (Q + 1) 242 W
  x : C32 wr (Q + 2) 232 V
  s : C32 wr B 232 S
  r : C32 wr (B + 1) 232 (List.replicate 8 0)
  bel : Below B w wr
section
variable {B Q : Nat} {w wr wq : World} {S W V V' : List Nat}
theorem AfterAt.put (h : AfterAt B Q w wr S W V) (hQ : B + 2 ≤ Q) (i n : Nat) : AfterAt B Q w (wr.setCell ⟨Q + 2, i, none⟩ (.int .u32 n)) S W (V.set i n) :=
  ⟨h.k.far (by simp) _, h.ws.far (by simp) _, h.x.set i n, h.s.far (by simp; omega) _, h.r.far (by simp; omega) _, h.bel.setCell (p := ⟨Q + 2, i, none⟩) (by simp; omega) _⟩
theorem AfterAt.turn (h : AfterAt B Q w wr S W V) (hQ : B + 2 ≤ Q) (hb : Below (Q + 2) wr wq) (hx : C32 wq (Q + 2) 232 V') : AfterAt B Q w wq S W V' :=
  ⟨h.k.below hb (by omega), h.ws.below hb (by omega), hx, h.s.below hb (by omega), h.r.below hb (by omega), h.bel.trans (hb.mono (by omega))⟩
theorem AfterAt.start (hS : S.length = 8) (hW : W.length = 64) (hQ : B + 2 ≤ w.heap.size) (hs : C32 w B 232 S) (hr : C32 w (B + 1) 232 (List.replicate 8 0)) (hb : Below B wr w) :
    ((w.alloc (.cells (u32Cells (List.replicate 64 0)) 242)).alloc (.cells (u32Cells (List.replicate 64 0)) 242)).there w.heap.size 0 64 ∧
    (((w.alloc (.cells (u32Cells (List.replicate 64 0)) 242)).alloc (.cells (u32Cells (List.replicate 64 0)) 242)).setCells w.heap.size 0 (u32Cells consts).toList).there (w.heap.size + 1) 0 64 ∧
    ((((w.alloc (.cells (u32Cells (List.replicate 64 0)) 242)).alloc (.cells (u32Cells (List.replicate 64 0)) 242)).setCells w.heap.size 0 (u32Cells consts).toList).setCells (w.heap.size + 1) 0 (u32Cells W).toList).heap[B]? = some (.cells (u32Cells S) 232 (0, 0)) ∧
    (((((w.alloc (.cells (u32Cells (List.replicate 64 0)) 242)).alloc (.cells (u32Cells (List.replicate 64 0)) 242)).setCells w.heap.size 0 (u32Cells consts).toList).setCells (w.heap.size + 1) 0 (u32Cells W).toList).alloc (.cells (u32Cells (List.replicate 8 0)) 232)).there (w.heap.size + 2) 0 8 ∧
    AfterAt B w.heap.size wr ((((((w.alloc (.cells (u32Cells (List.replicate 64 0)) 242)).alloc (.cells (u32Cells (List.replicate 64 0)) 242)).setCells w.heap.size 0 (u32Cells consts).toList).setCells (w.heap.size + 1) 0 (u32Cells W).toList).alloc (.cells (u32Cells (List.replicate 8 0)) 232)).setCells (w.heap.size + 2) 0 (u32Cells S).toList) S W S := by
  have a0 := (C32.new w 242 (List.replicate 64 0)).alloc (.cells (u32Cells (List.replicate 64 0)) 242)
  have a1 := C32.new (w.alloc (.cells (u32Cells (List.replicate 64 0)) 242)) 242 (List.replicate 64 0)
  rw [World.size_alloc] at a1
  have sS := (hs.alloc (.cells (u32Cells (List.replicate 64 0)) 242)).alloc (.cells (u32Cells (List.replicate 64 0)) 242)
  have sR := (hr.alloc (.cells (u32Cells (List.replicate 64 0)) 242)).alloc (.cells (u32Cells (List.replicate 64 0)) 242)
  have bb := (hb.alloc (o := .cells (u32Cells (List.replicate 64 0)) 242) (by omega)).alloc (o := .cells (u32Cells (List.replicate 64 0)) 242) (by simp; omega)
  have z : ((w.alloc (.cells (u32Cells (List.replicate 64 0)) 242)).alloc (.cells (u32Cells (List.replicate 64 0)) 242)).heap.size = w.heap.size + 2 := by simp
  generalize ((w.alloc (.cells (u32Cells (List.replicate 64 0)) 242)).alloc (.cells (u32Cells (List.replicate 64 0)) 242)) = w1 at a0 a1 sS sR bb z ⊢
  have b0 := a0.setAll consts rfl
  have b1 := C32.farCells (b := w.heap.size) (by omega) (u32Cells consts).toList 0 _ a1
  have tS := C32.farCells (b := w.heap.size) (by omega) (u32Cells consts).toList 0 _ sS
  have tR := C32.farCells (b := w.heap.size) (by omega) (u32Cells consts).toList 0 _ sR
  have cb := Below.setCells (b := w.heap.size) (by omega) (u32Cells consts).toList 0 _ bb
  have z1 : (w1.setCells w.heap.size 0 (u32Cells consts).toList).heap.size = w.heap.size + 2 := by rw [size_cells, z]
  refine ⟨a0.there, b1.there, ?_⟩
  generalize w1.setCells w.heap.size 0 (u32Cells consts).toList = w2 at b0 b1 tS tR cb z1 ⊢
  have c1 := b1.setAll W (by rw [hW]; rfl)
  have c0 := C32.farCells (b := w.heap.size + 1) (by omega) (u32Cells W).toList 0 _ b0
  have uS := C32.farCells (b := w.heap.size + 1) (by omega) (u32Cells W).toList 0 _ tS
  have uR := C32.farCells (b := w.heap.size + 1) (by omega) (u32Cells W).toList 0 _ tR
  have db := Below.setCells (b := w.heap.size + 1) (by omega) (u32Cells W).toList 0 _ cb
  have z2 : (w2.setCells (w.heap.size + 1) 0 (u32Cells W).toList).heap.size = w.heap.size + 2 := by rw [size_cells, z1]
  refine ⟨uS, ?_⟩
  generalize w2.setCells (w.heap.size + 1) 0 (u32Cells W).toList = w3 at c0 c1 uS uR db z2 ⊢
  have d := C32.new w3 232 (List.replicate 8 0)
  rw [z2] at d
  have e0 := c0.alloc (.cells (u32Cells (List.replicate 8 0)) 232)
  have e1 := c1.alloc (.cells (u32Cells (List.replicate 8 0)) 232)
  have vS := uS.alloc (.cells (u32Cells (List.replicate 8 0)) 232)
  have vR := uR.alloc (.cells (u32Cells (List.replicate 8 0)) 232)
  have eb := db.alloc (o := .cells (u32Cells (List.replicate 8 0)) 232) (by omega)
  refine ⟨d.there, ?_⟩
  generalize w3.alloc (.cells (u32Cells (List.replicate 8 0)) 232) = w4 at d e0 e1 vS vR eb ⊢
  exact ⟨C32.farCells (by omega) _ 0 _ e0, C32.farCells (by omega) _ 0 _ e1, d.setAll S (by rw [hS]; rfl), C32.farCells (by omega) _ 0 _ vS, C32.farCells (by omega) _ 0 _ vR, Below.setCells (by omega) _ 0 _ eb⟩
end
theorem roundF_len (v : List Nat) (k w : Nat) : (roundF v k w).length = 8 := rfl
theorem roundsF_len (v ws : List Nat) (h : v.length = 8) : ∀ k, (roundsF v ws k).length = 8 := by
  intro k
  cases k with
  | zero => exact h
  | succ k => exact roundF_len _ _ _
theorem eight (V : List Nat) (h : V.length = 8) : ∃ a b c d e f g i, V = [a, b, c, d, e, f, g, i] := by
  match V, h with
  | [a, b, c, d, e, f, g, i], _ => exact ⟨a, b, c, d, e, f, g, i, rfl⟩
theorem eight_lt {a b c d e f g i : Nat} (h : ∀ x ∈ [a, b, c, d, e, f, g, i], x < 4294967296) : a < 4294967296 ∧ b < 4294967296 ∧ c < 4294967296 ∧ d < 4294967296 ∧ e < 4294967296 ∧ f < 4294967296 ∧ g < 4294967296 ∧ i < 4294967296 :=
  ⟨h a (by simp), h b (by simp), h c (by simp), h d (by simp), h e (by simp), h f (by simp), h g (by simp), h i (by simp)⟩
theorem roundsF_lt (v ws : List Nat) (h : ∀ x ∈ v, x < 4294967296) : ∀ k, ∀ x ∈ roundsF v ws k, x < 4294967296 := by
  intro k
  induction k with
  | zero => exact h
  | succ k ih =>
    have ih' (i : Nat) : (roundsF v ws k).getD i 0 < 4294967296 := by
      rw [List.getD_eq_getElem?_getD]
      cases hk : (roundsF v ws k)[i]? with
      | none => decide
      | some u => exact ih u (List.mem_of_getElem? hk)
    intro x hx
    unfold roundsF roundF at hx
    simp only [List.mem_cons, List.not_mem_nil, or_false] at hx
    rcases hx with h | h | h | h | h | h | h | h <;> rw [h]
    · exact add32_lt _ _
    · exact ih' 0
    · exact ih' 1
    · exact ih' 2
    · exact add32_lt _ _
    · exact ih' 4
    · exact ih' 5
    · exact ih' 6
theorem not32_lt (a : Nat) : not32 a < 4294967296 := by unfold not32; omega
theorem u32_not (x : Nat) (hx : x < 4294967296) : bits .xor .u32 IntKind.u32.max (x : Int) = ((not32 x : Nat) : Int) := by
  have e : IntKind.u32.max = ((4294967295 : Nat) : Int) := by decide
  rw [e, u32_xor_nat _ _ (by decide) hx]
  have h := congrArg BitVec.toNat (BitVec.allOnes_xor (x := BitVec.ofNat 32 x))
  rw [BitVec.toNat_xor, BitVec.toNat_not, BitVec.toNat_allOnes, BitVec.toNat_ofNat, Nat.mod_eq_of_lt (a := x) (by omega)] at h
  show ((4294967295 ^^^ x : Nat) : Int) = ((4294967295 - x : Nat) : Int)
  rw [← h]
theorem u32_and32 (a b : Nat) (ha : a < 4294967296) (hb : b < 4294967296) : bits .and .u32 (a : Int) (b : Int) = ((and32 a b : Nat) : Int) := u32_and_nat a b ha hb
theorem u32_xor32 (a b : Nat) (ha : a < 4294967296) (hb : b < 4294967296) : bits .xor .u32 (a : Int) (b : Int) = ((xor32 a b : Nat) : Int) := u32_xor_nat a b ha hb
theorem xor3_bits (x a b c : Nat) (hx : x < 4294967296) (ha : 1 ≤ a) (ha2 : a < 32) (hb : 1 ≤ b) (hb2 : b < 32) (hc : 1 ≤ c) (hc2 : c < 32) :
    bits .xor .u32 (bits .xor .u32 ((rotr x a : Nat) : Int) ((rotr x b : Nat) : Int)) ((rotr x c : Nat) : Int) = ((xor3 x a b c : Nat) : Int) := by
  rw [u32_xor_nat _ _ (rotr_lt _ _ hx ha ha2) (rotr_lt _ _ hx hb hb2)]
  exact u32_xor_nat _ _ (xor32_lt (rotr_lt _ _ hx ha ha2) (rotr_lt _ _ hx hb hb2)) (rotr_lt _ _ hx hc hc2)
theorem xor3_lt (x a b c : Nat) (hx : x < 4294967296) (ha : 1 ≤ a) (ha2 : a < 32) (hb : 1 ≤ b) (hb2 : b < 32) (hc : 1 ≤ c) (hc2 : c < 32) : xor3 x a b c < 4294967296 :=
  xor32_lt (xor32_lt (rotr_lt _ _ hx ha ha2) (rotr_lt _ _ hx hb hb2)) (rotr_lt _ _ hx hc hc2)
theorem wrap_add (a b : Nat) : IntKind.u32.wrap ((a : Int) + (b : Int)) = ((add32 a b : Nat) : Int) := by
  rw [← wrap_add32]
  simp [IntKind.wrap, IntKind.bits, IntKind.signed]
theorem round_t (e f g h k w : Nat) (he : e < 4294967296) (hf : f < 4294967296) (hg : g < 4294967296) :
    IntKind.u32.wrap (IntKind.u32.wrap (IntKind.u32.wrap (IntKind.u32.wrap ((h : Int) + bits .xor .u32 (bits .xor .u32 ((rotr e 6 : Nat) : Int) ((rotr e 11 : Nat) : Int)) ((rotr e 25 : Nat) : Int)) +
      bits .xor .u32 (bits .and .u32 (e : Int) (f : Int)) (bits .and .u32 (bits .xor .u32 IntKind.u32.max (e : Int)) (g : Int))) + (k : Int)) + (w : Int)) =
    ((add32 (add32 (add32 (add32 h (xor3 e 6 11 25)) (xor32 (and32 e f) (and32 (not32 e) g))) k) w : Nat) : Int) := by
  rw [xor3_bits e 6 11 25 he (by decide) (by decide) (by decide) (by decide) (by decide) (by decide), u32_not e he, u32_and32 e f he hf, u32_and32 (not32 e) g (not32_lt e) hg, u32_xor32 _ _ (and32_lt hf) (and32_lt hg), wrap_add]
  rw [wrap_add, wrap_add, wrap_add]
theorem round_u (a b c : Nat) (ha : a < 4294967296) (hb : b < 4294967296) (hc : c < 4294967296) :
    (bits .xor .u32 (bits .xor .u32 ((rotr a 2 : Nat) : Int) ((rotr a 13 : Nat) : Int)) ((rotr a 22 : Nat) : Int) + bits .xor .u32 (bits .xor .u32 (bits .and .u32 (a : Int) (b : Int)) (bits .and .u32 (a : Int) (c : Int))) (bits .and .u32 (b : Int) (c : Int))) % 4294967296 =
    ((add32 (xor3 a 2 13 22) (xor32 (xor32 (and32 a b) (and32 a c)) (and32 b c)) : Nat) : Int) := by
  rw [xor3_bits a 2 13 22 ha (by decide) (by decide) (by decide) (by decide) (by decide) (by decide), u32_and32 a b ha hb, u32_and32 a c ha hc, u32_and32 b c hb hc, u32_xor32 _ _ (and32_lt hb) (and32_lt hc)]
  rw [u32_xor32 _ _ (xor32_lt (and32_lt hb) (and32_lt hc)) (and32_lt hc), wrap_add32]
theorem ones (l : List Nat) : ∀ v ∈ l.map (fun (n : Nat) => Value.int .u32 n), v.oneCell' = true := by
  intro v hv
  obtain ⟨n, _, rfl⟩ := List.mem_map.mp hv
  rfl
theorem cellsX {w : World} {g : Nat} {T : TypeId} {a b c d e f h i : Nat} (hx : C32 w g T [a, b, c, d, e, f, h, i]) (j : Nat) (v : Value)
    (hv : ([.int .u32 a, .int .u32 b, .int .u32 c, .int .u32 d, .int .u32 e, .int .u32 f, .int .u32 h] : List Value)[j]? = some v) : w.cell? ((⟨g, 0, none⟩ : Addr).add j) = some v := by
  have hj : j < 7 := by have := (List.getElem?_eq_some_iff.mp hv).1; simpa using this
  have ha : (⟨g, 0, none⟩ : Addr).add j = ⟨g, j, none⟩ := by unfold Addr.add; split <;> simp_all
  rw [ha, hx.cell (k := j) (by simp; omega)]
  rw [← hv]
  match j, hj with
  | 0, _ | 1, _ | 2, _ | 3, _ | 4, _ | 5, _ | 6, _ => rfl
/-- The state when j of its words have been added to those before. -/
def mixW (X S : List Nat) (j : Nat) : List Nat := (List.range 8).map fun i => if i < j then add32 (X.getD i 0) (S.getD i 0) else X.getD i 0
theorem mixW_zero (a b c d e f g h : Nat) (S : List Nat) : mixW [a, b, c, d, e, f, g, h] S 0 = [a, b, c, d, e, f, g, h] := rfl
theorem after_len (S : List Nat) (L : List UInt8) : (after S L).length = 8 := by unfold after; rw [List.length_map, List.length_range]
theorem mixW_len (X S : List Nat) (j : Nat) : (mixW X S j).length = 8 := rfl
theorem mixW_at (X S : List Nat) {j : Nat} (h : j < 8) : (mixW X S j).getD j 0 = X.getD j 0 := by
  match j, h with
  | 0, _ | 1, _ | 2, _ | 3, _ | 4, _ | 5, _ | 6, _ | 7, _ => rfl
theorem mixW_step (X S : List Nat) {j : Nat} (h : j < 8) : (mixW X S j).set j (add32 (X.getD j 0) (S.getD j 0)) = mixW X S (j + 1) := by
  match j, h with
  | 0, _ | 1, _ | 2, _ | 3, _ | 4, _ | 5, _ | 6, _ | 7, _ => rfl
theorem mixW_last (X S : List Nat) (L : List UInt8) (h : X = roundsF S (sched L) 64) : mixW X S 8 = after S L := by
  unfold after
  rw [← h]
  rfl
theorem hash_after (gb o c s0 s1 s2 s3 s4 s5 s6 s7 : Nat) (L : List UInt8) (w : World) (hl : L.length = 64) (hc : 64 ≤ c) (hc2 : c ≤ 1000000) (hrow : Row w gb o L) (hg : gb < w.heap.size)
    (hS : ∀ x ∈ [s0, s1, s2, s3, s4, s5, s6, s7], x < 4294967296) :
    Calls Tryz.prog 237 #[.agg (u32Cells [s0, s1, s2, s3, s4, s5, s6, s7]), .slice (some ⟨gb, o, none⟩) 64 c] w fun e w' => e = .returned (.agg (u32Cells (after [s0, s1, s2, s3, s4, s5, s6, s7] L))) ∧ Below w.heap.size w w' := by
  have HROW := Lib.hid hrow
  have HL := Lib.hid hl
  have HS := Lib.hid hS
  clear hrow hl hS
  have hbA : Below w.heap.size w ((w.alloc (.cells (u32Cells [s0, s1, s2, s3, s4, s5, s6, s7]) 232)).alloc (.cells (u32Cells (List.replicate 8 0)) 232)) := ((Below.refl _ _).alloc (Nat.le_refl _) _).alloc (by simp) _
  have hcS : C32 ((w.alloc (.cells (u32Cells [s0, s1, s2, s3, s4, s5, s6, s7]) 232)).alloc (.cells (u32Cells (List.replicate 8 0)) 232)) w.heap.size 232 [s0, s1, s2, s3, s4, s5, s6, s7] := (C32.new _ _ _).alloc _
  have hcR : C32 ((w.alloc (.cells (u32Cells [s0, s1, s2, s3, s4, s5, s6, s7]) 232)).alloc (.cells (u32Cells (List.replicate 8 0)) 232)) (w.heap.size + 1) 232 (List.replicate 8 0) := by
    have := C32.new (w.alloc (.cells (u32Cells [s0, s1, s2, s3, s4, s5, s6, s7]) 232)) 232 (List.replicate 8 0)
    rw [World.size_alloc] at this
    exact this
  have HCS := Lib.hid hcS
  have HCR := Lib.hid hcR
  have HBA := Lib.hid hbA
  clear hbA hcS hcR
  obtain ⟨CC, hCC⟩ : ∃ x, x = u32Cells consts := ⟨_, rfl⟩
  obtain ⟨CW, hCW⟩ : ∃ x, x = u32Cells (sched L) := ⟨_, rfl⟩
  obtain ⟨CS, hCS⟩ : ∃ x, x = u32Cells [s0, s1, s2, s3, s4, s5, s6, s7] := ⟨_, rfl⟩
  have KC := Lib.hid (fun w => hash_constants w)
  have KS := Lib.hid (fun w => hash_schedule gb o c L w HL.out hc hc2)
  have HE := Lib.hid (And.intro hCC (And.intro hCW hCS))
  rw [← hCC] at KC
  rw [← hCW] at KS
  rw [← hCS] at HCS HCR HBA ⊢
  have nC := Lib.hid (show CC.size = 64 by rw [hCC]; rfl)
  have nW := Lib.hid (show CW.size = 64 by rw [hCW, u32Cells_size, sched_len])
  have nS := Lib.hid (show CS.size = 8 by rw [hCS]; rfl)
  have oC := Lib.hid (show CC.all (·.oneCell') = true by rw [hCC]; exact u32Cells_one _)
  have oW := Lib.hid (show CW.all (·.oneCell') = true by rw [hCW]; exact u32Cells_one _)
  have oS := Lib.hid (show CS.all (·.oneCell') = true by rw [hCS]; exact u32Cells_one _)
  have HCS' : Hid (((w.alloc (.cells CS 232)).alloc (.cells (u32Cells (List.replicate 8 0)) 232)).heap[w.heap.size]? = some (.cells CS 232 (0, 0))) := Lib.hid (by have := HCS.out; unfold C32 at this; rw [← hCS] at this; exact this)
  clear hCC hCW hCS
  go_enter Tryz.func237, Tryz.ntmps237
  go_wp2_with (first
    | (go_at_call 246; (with_reducible refine (KC.out _).mono ?_); rintro e w1 ⟨rfl, hb1⟩
       have HB1 := Lib.hid (hb1.mono (B' := w.heap.size + 2) (by simp)); clear hb1)
    | (go_at_call 247; (with_reducible refine (KS.out _ (HROW.out.below (HBA.out.trans (HB1.out.mono (by simp))) hg) (Nat.lt_of_lt_of_le hg (Nat.le_trans (by simp; omega) HB1.out.size))).mono ?_)
       rintro e w2 ⟨rfl, hb2⟩
       have hz : w.heap.size + 2 ≤ w1.heap.size := Nat.le_trans (by simp) HB1.out.size
       have hb3 := HB1.out.trans (hb2.mono hz)
       have HZ := Lib.hid (Nat.le_trans hz hb2.size)
       have hst := AfterAt.start (S := [s0, s1, s2, s3, s4, s5, s6, s7]) rfl (sched_len L) HZ.out (HCS.out.below hb3 (by omega)) (HCR.out.below hb3 (by omega)) (HBA.out.trans (hb3.mono (by omega)))
       rw [← HE.out.1, ← HE.out.2.1, ← HE.out.2.2] at hst
       have HST := Lib.hid hst
       clear hb2 hb3 hz hst)
    | (refine wpList_store_mid rfl 242 _ _ rfl w2.heap.size 0 CC rfl rfl (by rw [nC.out]; exact HST.out.1) (by rw [nC.out]; rfl) oC.out ?_)
    | (refine wpList_store_mid rfl 242 _ _ rfl (w2.heap.size + 1) 0 CW rfl rfl (by rw [nW.out]; exact HST.out.2.1) (by rw [nW.out]; rfl) oW.out ?_)
    | (refine wpList_load_row rfl 232 _ rfl w.heap.size rfl _ _ _ _ HST.out.2.2.1 Tryz.underlying232 rfl (by rw [nS.out]; rfl) ?_)
    | (refine wpList_store_mid rfl 232 _ _ rfl (w2.heap.size + 2) 0 CS rfl rfl (by rw [nS.out]; exact HST.out.2.2.2.1) (by rw [nS.out]; rfl) oS.out ?_)
    | fail)
  go_loopw [22] (fun v wr => ∃ k : Nat, v = .int .i64 k ∧ k ≤ 64 ∧ AfterAt w.heap.size w2.heap.size w wr [s0, s1, s2, s3, s4, s5, s6, s7] (sched L) (roundsF [s0, s1, s2, s3, s4, s5, s6, s7] (sched L) k)) (fun v _ => 64 - (intOf v).toNat)
  case atStart => exact ⟨0, rfl, by decide, HST.out.2.2.2.2⟩
  case round =>
    clear HCR HCS HCS' HBA HST KC KS HB1 oC oW oS nC nW nS
    obtain ⟨k, rfl, hk, hat⟩ := hrel
    obtain ⟨V, hV⟩ : ∃ x, x = roundsF [s0, s1, s2, s3, s4, s5, s6, s7] (sched L) k := ⟨_, rfl⟩
    rw [← hV] at hat
    have hlt8 : ∀ x ∈ V, x < 4294967296 := by rw [hV]; exact roundsF_lt _ _ HS.out k
    obtain ⟨x0, x1, x2, x3, x4, x5, x6, x7, hV8⟩ := eight V (by rw [hV]; exact roundsF_len _ _ rfl k)
    obtain ⟨g0, g1, g2, g3, g4, g5, g6, g7⟩ := eight_lt (by rw [hV8] at hlt8; exact hlt8)
    rw [hV8] at hV
    rw [hV8] at hat
    clear hV8 hlt8
    have HV := Lib.hid hV
    have HAT := Lib.hid hat
    clear hV hat
    by_cases hlt : k < 64
    · have y0 : wr.cell? ⟨w2.heap.size + 2, 0, none⟩ = some (.int .u32 (x0 : Nat)) := HAT.out.x.cell (k := 0) (by simp)
      have y1 : wr.cell? ⟨w2.heap.size + 2, 1, none⟩ = some (.int .u32 (x1 : Nat)) := HAT.out.x.cell (k := 1) (by simp)
      have y2 : wr.cell? ⟨w2.heap.size + 2, 2, none⟩ = some (.int .u32 (x2 : Nat)) := HAT.out.x.cell (k := 2) (by simp)
      have y4 : wr.cell? ⟨w2.heap.size + 2, 4, none⟩ = some (.int .u32 (x4 : Nat)) := HAT.out.x.cell (k := 4) (by simp)
      have y5 : wr.cell? ⟨w2.heap.size + 2, 5, none⟩ = some (.int .u32 (x5 : Nat)) := HAT.out.x.cell (k := 5) (by simp)
      have y6 : wr.cell? ⟨w2.heap.size + 2, 6, none⟩ = some (.int .u32 (x6 : Nat)) := HAT.out.x.cell (k := 6) (by simp)
      have y7 : wr.cell? ⟨w2.heap.size + 2, 7, none⟩ = some (.int .u32 (x7 : Nat)) := HAT.out.x.cell (k := 7) (by simp)
      have yk := HAT.out.k.cell (k := k) (by simpa [consts] using hlt)
      have yw := HAT.out.ws.cell (k := k) (by rw [sched_len]; exact hlt)
      obtain ⟨kk, hkk⟩ : ∃ x, consts.getD k 0 = x := ⟨_, rfl⟩
      obtain ⟨ww, hww⟩ : ∃ x, (sched L).getD k 0 = x := ⟨_, rfl⟩
      rw [hkk] at yk
      rw [hww] at yw
      have HK := Lib.hid (And.intro hkk hww)
      have i0 : (0:Int) ≤ (k:Int) := by omega
      have i2 : (k:Int) < (64:Int) := by omega
      have G0 := Lib.hid g0
      have G1 := Lib.hid g1
      have G2 := Lib.hid g2
      have G3 := Lib.hid g3
      have G4 := Lib.hid g4
      have G5 := Lib.hid g5
      have G6 := Lib.hid g6
      have G7 := Lib.hid g7
      have HLT := Lib.hid hlt
      clear hkk hww hlt hk g0 g1 g2 g3 g4 g5 g6 g7
      go_wp2_with fail
      go_region_held3 (fun w' => w'.cell? ⟨w2.heap.size + 2, 0, none⟩ = some (.int .u32 x0) ∧ w'.cell? ⟨w2.heap.size + 2, 1, none⟩ = some (.int .u32 x1) ∧ w'.cell? ⟨w2.heap.size + 2, 2, none⟩ = some (.int .u32 x2) ∧ w'.cell? ⟨w2.heap.size + 2, 4, none⟩ = some (.int .u32 x4) ∧ w'.cell? ⟨w2.heap.size + 2, 5, none⟩ = some (.int .u32 x5) ∧ w'.cell? ⟨w2.heap.size + 2, 6, none⟩ = some (.int .u32 x6)) (first | go_keep) (first | fail)
      go_wp2_with fail
      clear y0 y1 y2 y4 y5 y6
      go_region_held3 (fun w' => w'.cell? ⟨w2.heap.size + 2, 7, none⟩ = some (.int .u32 x7) ∧ w'.cell? ⟨w2.heap.size, k, none⟩ = some (.int .u32 kk) ∧ w'.cell? ⟨w2.heap.size + 1, k, none⟩ = some (.int .u32 ww)) (first | go_keep) (first | (go_at_call 248; (with_reducible refine (turn_6 _ _ G4.out).mono ?_); rintro e w' ⟨rfl, rfl⟩) | (go_at_call 248; (with_reducible refine (turn_11 _ _ G4.out).mono ?_); rintro e w' ⟨rfl, rfl⟩) | (go_at_call 248; (with_reducible refine (turn_25 _ _ G4.out).mono ?_); rintro e w' ⟨rfl, rfl⟩))
      go_wp2_with (first | (go_at_call 248; (with_reducible refine (turn_2 _ _ G0.out).mono ?_); rintro e w' ⟨rfl, rfl⟩) | (go_at_call 248; (with_reducible refine (turn_13 _ _ G0.out).mono ?_); rintro e w' ⟨rfl, rfl⟩) | (go_at_call 248; (with_reducible refine (turn_22 _ _ G0.out).mono ?_); rintro e w' ⟨rfl, rfl⟩))
      rw [round_t x4 x5 x6 x7 kk ww G4.out G5.out G6.out, round_u x0 x1 x2 G0.out G1.out G2.out]
      obtain ⟨t, ht⟩ : ∃ t, t = add32 (add32 (add32 (add32 x7 (xor3 x4 6 11 25)) (xor32 (and32 x4 x5) (and32 (not32 x4) x6))) kk) ww := ⟨_, rfl⟩
      obtain ⟨u, hu⟩ : ∃ u, u = add32 (xor3 x0 2 13 22) (xor32 (xor32 (and32 x0 x1) (and32 x0 x2)) (and32 x1 x2)) := ⟨_, rfl⟩
      rw [← ht, ← hu]
      have HT := Lib.hid (And.intro ht hu)
      clear ht hu y7 yk yw
      go_region_law (refine step_copy_splice rfl (.tmp 85) (.tmp 86) _ _ rfl 209 rfl rfl (some ⟨w2.heap.size + 1 + 1, 1, none⟩) (some ⟨w2.heap.size + 1 + 1, 0, none⟩) 7 7 7 8 (by simp [Act.eval, Act.put]) (by simp [Act.eval, Act.put]) (w2.heap.size + 1 + 1) 1 [.int .u32 x0, .int .u32 x1, .int .u32 x2, .int .u32 x3, .int .u32 x4, .int .u32 x5, .int .u32 x6, .int .u32 x7] 232 HAT.out.x [.int .u32 x0, .int .u32 x1, .int .u32 x2, .int .u32 x3, .int .u32 x4, .int .u32 x5, .int .u32 x6] rfl (fun _ => ⟨rfl, _, rfl, cellsX HAT.out.x⟩) (Nat.le_refl 8) (ones [x0, x1, x2, x3, x4, x5, x6]) (w2.heap.size + 1 + 1) wr ⟨rfl, rfl, rfl, Nat.le_refl _, fun _ _ => rfl⟩ (Nat.le_refl _) ?_; intro w4 hg4 hb4)
      have hat4 : AfterAt w.heap.size w2.heap.size w w4 [s0, s1, s2, s3, s4, s5, s6, s7] (sched L) [x0, x0, x1, x2, x3, x4, x5, x6] := HAT.out.turn HZ.out hb4 hg4.out
      have z4 : w4.cell? ⟨w2.heap.size + 2, 4, none⟩ = some (.int .u32 (x3 : Nat)) := hat4.x.cell (k := 4) (by simp)
      have z0 : w4.cell? ⟨w2.heap.size + 2, 0, none⟩ = some (.int .u32 (x0 : Nat)) := hat4.x.cell (k := 0) (by simp)
      have f4 : w4.frozen? ⟨w2.heap.size + 2, 4, none⟩ = false := hat4.x.free 4
      have f0 : w4.frozen? ⟨w2.heap.size + 2, 0, none⟩ = false := hat4.x.free 0
      have HA4 := Lib.hid hat4
      clear hat4 hg4 hb4
      go_wp2_with fail
      go_roundw
      case rel =>
        refine ⟨k + 1, by rfl, by have := HLT.out; omega, ?_⟩
        have e : roundsF [s0, s1, s2, s3, s4, s5, s6, s7] (sched L) (k + 1) = [add32 t u, x0, x1, x2, add32 x3 t, x4, x5, x6] := by
          show roundF (roundsF [s0, s1, s2, s3, s4, s5, s6, s7] (sched L) k) (consts.getD k 0) ((sched L).getD k 0) = _
          rw [← HV.out, HK.out.1, HK.out.2, HT.out.1, HT.out.2]
          rfl
        rw [e, wrap_add32, wrap_add32]
        exact (HA4.out.put HZ.out 4 (add32 x3 t)).put HZ.out 0 (add32 t u)
      case measure => have := HLT.out; show 64 - ((k : Int) + 1).toNat < 64 - (k : Int).toNat; omega
    · have ek : k = 64 := by omega
      subst ek
      clear hlt hk
      go_wp2_with fail
      rw [show ((64 : Nat) : Int) = 64 from rfl]
      go_loopw [98] (fun v wr => ∃ j : Nat, v = .int .i64 j ∧ j ≤ 8 ∧ AfterAt w.heap.size w2.heap.size w wr [s0, s1, s2, s3, s4, s5, s6, s7] (sched L) (mixW [x0, x1, x2, x3, x4, x5, x6, x7] [s0, s1, s2, s3, s4, s5, s6, s7] j)) (fun v _ => 8 - (intOf v).toNat)
      case atStart => exact ⟨0, rfl, by decide, by rw [mixW_zero]; exact HAT.out⟩
      case round =>
        clear HAT
        obtain ⟨j, rfl, hj, hat⟩ := hrel
        have HAT := Lib.hid hat
        clear hat
        by_cases hlt : j < 8
        · have yx : wr.cell? ⟨w2.heap.size + 2, j, none⟩ = some (.int .u32 ([x0, x1, x2, x3, x4, x5, x6, x7].getD j 0 : Nat)) := by
            rw [HAT.out.x.cell (k := j) (by rw [mixW_len]; exact hlt), mixW_at _ _ hlt]
          have ys : wr.cell? ⟨w.heap.size, j, none⟩ = some (.int .u32 ([s0, s1, s2, s3, s4, s5, s6, s7].getD j 0 : Nat)) := HAT.out.s.cell (k := j) (by simpa using hlt)
          have fx := HAT.out.x.free j
          obtain ⟨xv, hxv⟩ : ∃ x, [x0, x1, x2, x3, x4, x5, x6, x7].getD j 0 = x := ⟨_, rfl⟩
          obtain ⟨sv, hsv⟩ : ∃ x, [s0, s1, s2, s3, s4, s5, s6, s7].getD j 0 = x := ⟨_, rfl⟩
          rw [hxv] at yx
          rw [hsv] at ys
          have HK := Lib.hid (And.intro hxv hsv)
          have HLT := Lib.hid hlt
          have i0 : (0:Int) ≤ (j:Int) := by omega
          have i2 : (j:Int) < (8:Int) := by omega
          clear hxv hsv hlt hj
          go_wp2_with fail
          go_region_law (fail)
          all_goals
            go_wp2_with fail
            go_roundw
            case rel =>
              refine ⟨j + 1, by rfl, by have := HLT.out; omega, ?_⟩
              have e := mixW_step [x0, x1, x2, x3, x4, x5, x6, x7] [s0, s1, s2, s3, s4, s5, s6, s7] HLT.out
              rw [HK.out.1, HK.out.2] at e
              rw [← e, wrap_add32]
              first
                | exact HAT.out.put HZ.out j (add32 xv sv)
                | (refine AfterAt.turn (HAT.out.put HZ.out j (add32 xv sv)) HZ.out ⟨rfl, rfl, rfl, Nat.le_refl _, fun _ _ => rfl⟩ (HAT.out.put HZ.out j (add32 xv sv)).x)
            case measure => have := HLT.out; show 8 - ((j : Int) + 1).toNat < 8 - (j : Int).toNat; omega
        · have ej : j = 8 := by omega
          subst ej
          have e := mixW_last _ _ L HV.out
          obtain ⟨A, hA⟩ : ∃ x, x = after [s0, s1, s2, s3, s4, s5, s6, s7] L := ⟨_, rfl⟩
          have lA : A.length = 8 := by rw [hA, after_len]
          have HAx := HAT.out.x
          rw [e, ← hA] at HAx
          have HX := Lib.hid HAx
          have HE' := Lib.hid (And.intro e hA)
          have lS := Lib.hid (show (u32Cells A).size = 8 by rw [u32Cells_size, lA])
          have hset := HAT.out.r.setAll A (by rw [lA]; rfl)
          have HSET := Lib.hid hset
          clear hlt hj e hA lA HAx hset
          go_wp2_with (first | (refine wpList_load_row rfl 232 _ rfl (w2.heap.size + 2) rfl _ _ _ _ HX.out Tryz.underlying232 rfl (by rw [lS.out]; rfl) ?_) | (refine wpList_store_mid rfl 232 _ _ rfl (w.heap.size + 1) 0 (u32Cells A) rfl rfl (by rw [lS.out]; exact HAT.out.r.there) (by rw [lS.out]; rfl) (u32Cells_one _) ?_))
          refine bodyPost_ret (v := .agg (u32Cells A)) ?_ ?_ ?_
          rotate_left 2
          · exact ⟨by rw [HE'.out.2], Below.setCells (by omega) (u32Cells A).toList 0 wr HAT.out.bel⟩
          rotate_left 1
          · rfl
          exact results_cell_row Tryz.results237 _ _ (w.heap.size + 1) 232 (u32Cells A) (0, 0) _ rfl HSET.out Tryz.underlying232 rfl (by rw [lS.out]; rfl)

end Go.Proofs.YtkdbemdobfddoaaGreatDoor

namespace Go.Proofs.YtkdbemdobfddoaaGreatDoor
open Go.RowKit
set_option maxRecDepth 100000
set_option linter.unusedVariables false
set_option maxHeartbeats 2000000

def sumS (s : ByteArray) : ByteArray := ⟨(sumL s.data.toList).toArray⟩
/-- How many zeros the padding has. -/
def zerosOf (n : Nat) : Nat := (119 - n % 64) % 64
def padTo (s : List UInt8) (j : Nat) : List UInt8 := s ++ [128] ++ List.replicate j 0
def lenBytes (n i : Nat) : List UInt8 := (List.range i).map fun i => UInt8.ofNat (n * 8 / 256 ^ (7 - i))
theorem padTo_len (s : List UInt8) (j : Nat) : (padTo s j).length = s.length + 1 + j := by simp [padTo]; omega
theorem padTo_step (s : List UInt8) (j : Nat) : padTo s j ++ [0] = padTo s (j + 1) := by
  unfold padTo
  rw [List.append_assoc, ← List.replicate_succ']
theorem lenBytes_step (n i : Nat) : lenBytes n i ++ [UInt8.ofNat (n * 8 / 256 ^ (7 - i))] = lenBytes n (i + 1) := by
  unfold lenBytes
  rw [List.range_succ, List.map_append]
  rfl
theorem lenBytes_len (n i : Nat) : (lenBytes n i).length = i := by simp [lenBytes]
theorem padded_eq (s : List UInt8) : padded s = padTo s (zerosOf s.length) ++ lenBytes s.length 8 := rfl
theorem row_one (w : World) (b : UInt8) (z : Int) (hz : z = (b.toNat : Int)) (T : TypeId) : Row (w.alloc (.cells #[.int .u8 z] T)) w.heap.size 0 [b] := by
  subst hz
  exact (Bk.new w T [b]).row
theorem row_four (w : World) (a b c d : UInt8) (T : TypeId) : Row (w.alloc (.cells #[.int .u8 a.toNat, .int .u8 b.toNat, .int .u8 c.toNat, .int .u8 d.toNat] T)) w.heap.size 0 [a, b, c, d] := (Bk.new w T [a, b, c, d]).row
theorem after_lt (S : List Nat) (L : List UInt8) : ∀ x ∈ after S L, x < 4294967296 := by
  intro x hx
  unfold after at hx
  obtain ⟨i, _, rfl⟩ := List.mem_map.mp hx
  exact add32_lt _ _
theorem OwnB.alloc {w : World} {base : Nat} {v : Value} {n : Nat} {L : List UInt8} (h : OwnB w base v n L) (hb : base ≤ w.heap.size) (o : Obj) : OwnB (w.alloc o) base v n L := by
  refine ⟨h.1, h.2.1, ?_⟩
  rcases h.2.2 with hn | ⟨g, cap, cur, rfl, h1, hg, rest⟩
  · exact .inl hn
  · exact .inr ⟨g, cap, cur, rfl, h1, (Below.heap_alloc w o g (Array.getElem?_eq_some_iff.1 hg).1).trans hg, rest⟩
theorem conv_str {w : World} {g o : Nat} {L : List UInt8} (h : Row w g o L) (n c : Nat) (hn : L.length = n) :
    (convert 119 9 (.slice (some ⟨g, o, none⟩) n c)).run Tryz.prog w = .ok (.string ⟨L.toArray⟩) w := by
  subst hn
  exact run_convert_bytes_back w 119 9 5 ⟨g, o, none⟩ c L Tryz.underlying119 Tryz.underlying5 Tryz.underlying9 (fun j hj => by
    have := h j hj
    rw [getD_lt hj] at this
    rw [addr_add]; exact this)
theorem outBytes_step (V : List Nat) (k : Nat) (h : k < V.length) : outBytes (V.take k) ++ [UInt8.ofNat (V.getD k 0 / 16777216), UInt8.ofNat (V.getD k 0 / 65536), UInt8.ofNat (V.getD k 0 / 256), UInt8.ofNat (V.getD k 0)] = outBytes (V.take (k + 1)) := by
  have e : V.getD k 0 = V[k] := by simp [List.getD, h]
  rw [List.take_succ_eq_append_getElem h, e]
  unfold outBytes
  rw [List.flatMap_append]
  rfl
theorem idx_state (a b c d e f g h : Nat) (w : World) : ∀ k, k < 8 → (Instr.index 232 (.agg (u32Cells [a, b, c, d, e, f, g, h])) (.int .i64 (k : Nat))).run Tryz.prog w = .ok (.int .u32 ([a, b, c, d, e, f, g, h].getD k 0 : Nat)) w
  | 0, _ => by kernel_rfl
  | 1, _ => by kernel_rfl
  | 2, _ => by kernel_rfl
  | 3, _ => by kernel_rfl
  | 4, _ => by kernel_rfl
  | 5, _ => by kernel_rfl
  | 6, _ => by kernel_rfl
  | 7, _ => by kernel_rfl
  | n + 8, h => absurd h (by omega)
theorem hash_Sum (s : ByteArray) (w : World) (hs : s.size ≤ 100000) :
    Calls Tryz.prog 227 #[.string s] w fun e w' => e = .returned (.string (sumS s)) ∧ Below w.heap.size w w' := by
  have hlen : s.data.toList.length = s.size := by rw [← Lib.size_eq]
  have HL := Lib.hid hlen
  obtain ⟨C, hC⟩ : ∃ C, C = s.size + 72 := ⟨_, rfl⟩
  have hmk := make_bytes_cap s.size C (by omega) (by omega)
  rw [show ((C : Nat) : Int) = (s.size : Int) + 72 by omega] at hmk
  have hB0 : Bk (w.alloc (.cells (cellsOf (List.replicate C 0)) 5)) w.heap.size 5 (List.replicate s.size 0 ++ List.replicate 72 0) := by
    rw [List.replicate_append_replicate, ← hC]
    exact Bk.new _ _ _
  have HB0 := Lib.hid hB0
  have HC := Lib.hid hC
  clear hC hB0 hlen
  obtain ⟨CZ, hCZ⟩ : ∃ x, x = u32Cells state0 := ⟨_, rfl⟩
  have KF := Lib.hid (fun w => hash_first w)
  rw [← hCZ] at KF
  have HCZ := Lib.hid hCZ
  have nZ := Lib.hid (show CZ.size = 8 by rw [hCZ]; rfl)
  have oZ := Lib.hid (show CZ.all (·.oneCell') = true by rw [hCZ]; exact u32Cells_one _)
  clear hCZ
  go_enter Tryz.func227, Tryz.ntmps227
  go_wp2_with (first
    | (refine wpList_copy_str rfl (.tmp 16) (.tmp 17) _ rfl w.heap.size s.size C 5 (List.replicate s.size 0) (List.replicate 72 0) s rfl rfl (Nat.le_refl _) HB0.out (by simp) ?_
       intro w1 hb1 hbel1 _
       have HM1 : Hid (Mb w1 w.heap.size C s.data.toList) := Lib.hid ⟨by rw [HL.out, HC.out]; omega, by rw [HL.out, show C - s.size = 72 from by rw [HC.out]; omega]; exact hb1⟩
       have HE1 := Lib.hid (hbel1 w.heap.size w (Nat.le_refl _) ((Below.refl _ _).alloc (Nat.le_refl _) _))
       clear hb1 hbel1)
    | (at_builtin; refine wpList_append_mb rfl (.tmp 19) (.tmp 20) rfl w.heap.size s.size C s.data.toList rfl (HM1.out.alloc _) HL.out _ 0 1 1 [128] rfl (row_one _ 128 128 rfl _) rfl (by rw [HC.out]; omega) ?_
       intro w2 hm2 hb2
       have HM2 : Hid (Mb w2 w.heap.size C (padTo s.data.toList 0)) := Lib.hid (by unfold padTo; rw [List.replicate_zero, List.append_nil]; exact hm2)
       have HE2 := Lib.hid (hb2 w.heap.size w (Nat.le_refl _) (HE1.out.alloc (by have := HM1.out.lt; omega) _))
       clear hm2 hb2))
  have HZ := Lib.hid (show zerosOf s.size < 64 ∧ (s.size + 1 + zerosOf s.size) % 64 = 56 ∧ ∀ j, j < zerosOf s.size → (s.size + 1 + j) % 64 ≠ 56 by unfold zerosOf; refine ⟨?_, ?_, ?_⟩ <;> intros <;> omega)
  obtain ⟨Z, hZ⟩ : ∃ Z, Z = zerosOf s.size := ⟨_, rfl⟩
  rw [← hZ] at HZ
  have HZE := Lib.hid hZ
  clear hZ HM1 HE1 HB0 hmk
  go_loopw [3] (fun v wr => ∃ m j : Nat, v = .slice (some ⟨w.heap.size, 0, none⟩) m C ∧ m = s.size + 1 + j ∧ j ≤ Z ∧ Mb wr w.heap.size C (padTo s.data.toList j) ∧ Below w.heap.size w wr) (fun v _ => s.size + 1 + Z - sliceLen v)
  case atStart => exact ⟨s.size + 1, 0, rfl, rfl, Nat.zero_le _, HM2.out, HE2.out⟩
  case round =>
    clear HM2 HE2
    obtain ⟨m, j, rfl, hm, hj, hmb, hbe⟩ := hrel
    have HM := Lib.hid hmb
    have HE := Lib.hid hbe
    have HMJ := Lib.hid hm
    have HLM := Lib.hid (show (padTo s.data.toList j).length = m by rw [padTo_len, HL.out, hm])
    have hm1 : m ≤ 100064 := by have := HZ.out.1; omega
    clear hmb hbe
    by_cases hlt : j < Z
    · have hq : m % 64 ≠ 56 := by rw [hm]; exact HZ.out.2.2 j hlt
      have q1 : ((m : Int) % 64 == 56) = false := by rw [beq_eq_false_iff_ne]; omega
      have q2 : (Int.tmod (m : Int) 64 == 56) = false := by rw [Int.tmod_eq_emod_of_nonneg (by omega)]; exact q1
      have HJ := Lib.hid hlt
      have HRM := Lib.hid (show m + 1 ≤ C by have := HZ.out.1; have := HC.out; omega)
      clear hm hlt hj hq
      go_wp2_with (at_builtin; refine wpList_append_mb rfl (.tmp 26) (.tmp 27) rfl w.heap.size m C (padTo s.data.toList j) rfl (HM.out.alloc _) HLM.out _ 0 1 1 [0] rfl (row_one _ 0 0 rfl _) rfl HRM.out ?_
                   intro w3 hm3 hb3
                   rw [padTo_step] at hm3
                   have HM3 := Lib.hid hm3
                   have HE3 := Lib.hid (hb3 w.heap.size w (Nat.le_refl _) (HE.out.alloc (Nat.le_of_lt HM.out.lt) _))
                   clear hm3 hb3)
      go_roundw
      case rel => exact ⟨m + 1, j + 1, rfl, by have := HMJ.out; omega, HJ.out, HM3.out, HE3.out⟩
      case measure => have := HMJ.out; have := HJ.out; simp only [sliceLen]; omega
    · have ej : j = Z := by omega
      subst ej
      have hq : m % 64 = 56 := by rw [hm]; exact HZ.out.2.1
      have q1 : ((m : Int) % 64 == 56) = true := by rw [beq_iff_eq]; omega
      have q2 : (Int.tmod (m : Int) 64 == 56) = true := by rw [Int.tmod_eq_emod_of_nonneg (by omega)]; exact q1
      clear hm hlt hj hq
      go_wp2_with fail
      rw [show (((m : Int) % 64) != 56) = false from by rw [bne, q1]; rfl]
      go_loopw [3, 5] (fun v3 v5 wr => ∃ (i m2 : Nat) (z : Int), v3 = .slice (some ⟨w.heap.size, 0, none⟩) m2 C ∧ v5 = .int .i64 z ∧ z = 56 - 8 * (i : Int) ∧ m2 = m + i ∧ i ≤ 8 ∧ Mb wr w.heap.size C (padTo s.data.toList j ++ lenBytes s.size i) ∧ Below w.heap.size w wr) (fun _ v _ => (intOf v + 8).toNat)
      case atStart => exact ⟨0, m, 56, rfl, rfl, rfl, rfl, by decide, by show Mb wr w.heap.size C (padTo s.data.toList j ++ []); rw [List.append_nil]; exact HM.out, HE.out⟩
      case round =>
        clear HM HE
        obtain ⟨i, m2, z, rfl, rfl, hz, hm2, hi, hmb, hbe⟩ := hrel
        have HM2 := Lib.hid hmb
        have HE2 := Lib.hid hbe
        have HMJ2 := Lib.hid hm2
        have HLM2 := Lib.hid (show (padTo s.data.toList j ++ lenBytes s.size i).length = m2 by rw [List.length_append, lenBytes_len, HLM.out, hm2])
        have HRM2 := Lib.hid (show i < 8 → m2 + 1 ≤ C by have := HZ.out.1; have := HC.out; have := HMJ.out; omega)
        have hm3 : m2 ≤ 100072 := by omega
        clear hmb hbe q1 q2
        have hcases : i = 0 ∨ i = 1 ∨ i = 2 ∨ i = 3 ∨ i = 4 ∨ i = 5 ∨ i = 6 ∨ i = 7 ∨ i = 8 := by omega
        rcases hcases with rfl | rfl | rfl | rfl | rfl | rfl | rfl | rfl | rfl
        · obtain rfl : z = 56 := by omega
          obtain ⟨b, hb⟩ : ∃ b, b = UInt8.ofNat (s.size * 8 / 256 ^ (7 - 0)) := ⟨_, rfl⟩
          have e : ((s.size : Int) * 8 / 72057594037927936) = (b.toNat : Int) := by rw [hb, UInt8.toNat_ofNat']; omega
          have HB := Lib.hid hb
          clear hb hz hi hm2
          go_wp2_with (at_builtin; refine wpList_append_mb rfl (.tmp 37) (.tmp 42) rfl w.heap.size m2 C (padTo s.data.toList j ++ lenBytes s.size 0) rfl (HM2.out.alloc _) HLM2.out _ 0 1 1 [b] rfl (row_one _ b _ rfl _) rfl (HRM2.out (by decide)) ?_
                       intro w3 hm3 hb3
                       rw [HB.out, List.append_assoc, lenBytes_step] at hm3
                       have HM3 := Lib.hid hm3
                       have HE3 := Lib.hid (hb3 w.heap.size w (Nat.le_refl _) (HE2.out.alloc (Nat.le_of_lt HM2.out.lt) _))
                       clear hm3 hb3)
          go_roundw
          case rel => exact ⟨1, m2 + 1, 48, rfl, rfl, rfl, by have := HMJ2.out; omega, by decide, HM3.out, HE3.out⟩
          case measure => simp [intOf]
        · obtain rfl : z = 48 := by omega
          obtain ⟨b, hb⟩ : ∃ b, b = UInt8.ofNat (s.size * 8 / 256 ^ (7 - 1)) := ⟨_, rfl⟩
          have e : ((s.size : Int) * 8 / 281474976710656) = (b.toNat : Int) := by rw [hb, UInt8.toNat_ofNat']; omega
          have HB := Lib.hid hb
          clear hb hz hi hm2
          go_wp2_with (at_builtin; refine wpList_append_mb rfl (.tmp 37) (.tmp 42) rfl w.heap.size m2 C (padTo s.data.toList j ++ lenBytes s.size 1) rfl (HM2.out.alloc _) HLM2.out _ 0 1 1 [b] rfl (row_one _ b _ rfl _) rfl (HRM2.out (by decide)) ?_
                       intro w3 hm3 hb3
                       rw [HB.out, List.append_assoc, lenBytes_step] at hm3
                       have HM3 := Lib.hid hm3
                       have HE3 := Lib.hid (hb3 w.heap.size w (Nat.le_refl _) (HE2.out.alloc (Nat.le_of_lt HM2.out.lt) _))
                       clear hm3 hb3)
          go_roundw
          case rel => exact ⟨2, m2 + 1, 40, rfl, rfl, rfl, by have := HMJ2.out; omega, by decide, HM3.out, HE3.out⟩
          case measure => simp [intOf]
        · obtain rfl : z = 40 := by omega
          obtain ⟨b, hb⟩ : ∃ b, b = UInt8.ofNat (s.size * 8 / 256 ^ (7 - 2)) := ⟨_, rfl⟩
          have e : ((s.size : Int) * 8 / 1099511627776) = (b.toNat : Int) := by rw [hb, UInt8.toNat_ofNat']; omega
          have HB := Lib.hid hb
          clear hb hz hi hm2
          go_wp2_with (at_builtin; refine wpList_append_mb rfl (.tmp 37) (.tmp 42) rfl w.heap.size m2 C (padTo s.data.toList j ++ lenBytes s.size 2) rfl (HM2.out.alloc _) HLM2.out _ 0 1 1 [b] rfl (row_one _ b _ rfl _) rfl (HRM2.out (by decide)) ?_
                       intro w3 hm3 hb3
                       rw [HB.out, List.append_assoc, lenBytes_step] at hm3
                       have HM3 := Lib.hid hm3
                       have HE3 := Lib.hid (hb3 w.heap.size w (Nat.le_refl _) (HE2.out.alloc (Nat.le_of_lt HM2.out.lt) _))
                       clear hm3 hb3)
          go_roundw
          case rel => exact ⟨3, m2 + 1, 32, rfl, rfl, rfl, by have := HMJ2.out; omega, by decide, HM3.out, HE3.out⟩
          case measure => simp [intOf]
        · obtain rfl : z = 32 := by omega
          obtain ⟨b, hb⟩ : ∃ b, b = UInt8.ofNat (s.size * 8 / 256 ^ (7 - 3)) := ⟨_, rfl⟩
          have e : ((s.size : Int) * 8 / 4294967296) = (b.toNat : Int) := by rw [hb, UInt8.toNat_ofNat']; omega
          have HB := Lib.hid hb
          clear hb hz hi hm2
          go_wp2_with (at_builtin; refine wpList_append_mb rfl (.tmp 37) (.tmp 42) rfl w.heap.size m2 C (padTo s.data.toList j ++ lenBytes s.size 3) rfl (HM2.out.alloc _) HLM2.out _ 0 1 1 [b] rfl (row_one _ b _ rfl _) rfl (HRM2.out (by decide)) ?_
                       intro w3 hm3 hb3
                       rw [HB.out, List.append_assoc, lenBytes_step] at hm3
                       have HM3 := Lib.hid hm3
                       have HE3 := Lib.hid (hb3 w.heap.size w (Nat.le_refl _) (HE2.out.alloc (Nat.le_of_lt HM2.out.lt) _))
                       clear hm3 hb3)
          go_roundw
          case rel => exact ⟨4, m2 + 1, 24, rfl, rfl, rfl, by have := HMJ2.out; omega, by decide, HM3.out, HE3.out⟩
          case measure => simp [intOf]
        · obtain rfl : z = 24 := by omega
          obtain ⟨b, hb⟩ : ∃ b, b = UInt8.ofNat (s.size * 8 / 256 ^ (7 - 4)) := ⟨_, rfl⟩
          have e : ((s.size : Int) * 8 / 16777216) = (b.toNat : Int) := by rw [hb, UInt8.toNat_ofNat']; omega
          have HB := Lib.hid hb
          clear hb hz hi hm2
          go_wp2_with (at_builtin; refine wpList_append_mb rfl (.tmp 37) (.tmp 42) rfl w.heap.size m2 C (padTo s.data.toList j ++ lenBytes s.size 4) rfl (HM2.out.alloc _) HLM2.out _ 0 1 1 [b] rfl (row_one _ b _ rfl _) rfl (HRM2.out (by decide)) ?_
                       intro w3 hm3 hb3
                       rw [HB.out, List.append_assoc, lenBytes_step] at hm3
                       have HM3 := Lib.hid hm3
                       have HE3 := Lib.hid (hb3 w.heap.size w (Nat.le_refl _) (HE2.out.alloc (Nat.le_of_lt HM2.out.lt) _))
                       clear hm3 hb3)
          go_roundw
          case rel => exact ⟨5, m2 + 1, 16, rfl, rfl, rfl, by have := HMJ2.out; omega, by decide, HM3.out, HE3.out⟩
          case measure => simp [intOf]
        · obtain rfl : z = 16 := by omega
          obtain ⟨b, hb⟩ : ∃ b, b = UInt8.ofNat (s.size * 8 / 256 ^ (7 - 5)) := ⟨_, rfl⟩
          have e : ((s.size : Int) * 8 / 65536) = (b.toNat : Int) := by rw [hb, UInt8.toNat_ofNat']; omega
          have HB := Lib.hid hb
          clear hb hz hi hm2
          go_wp2_with (at_builtin; refine wpList_append_mb rfl (.tmp 37) (.tmp 42) rfl w.heap.size m2 C (padTo s.data.toList j ++ lenBytes s.size 5) rfl (HM2.out.alloc _) HLM2.out _ 0 1 1 [b] rfl (row_one _ b _ rfl _) rfl (HRM2.out (by decide)) ?_
                       intro w3 hm3 hb3
                       rw [HB.out, List.append_assoc, lenBytes_step] at hm3
                       have HM3 := Lib.hid hm3
                       have HE3 := Lib.hid (hb3 w.heap.size w (Nat.le_refl _) (HE2.out.alloc (Nat.le_of_lt HM2.out.lt) _))
                       clear hm3 hb3)
          go_roundw
          case rel => exact ⟨6, m2 + 1, 8, rfl, rfl, rfl, by have := HMJ2.out; omega, by decide, HM3.out, HE3.out⟩
          case measure => simp [intOf]
        · obtain rfl : z = 8 := by omega
          obtain ⟨b, hb⟩ : ∃ b, b = UInt8.ofNat (s.size * 8 / 256 ^ (7 - 6)) := ⟨_, rfl⟩
          have e : ((s.size : Int) * 8 / 256 % 256) = (b.toNat : Int) := by rw [hb, UInt8.toNat_ofNat']; omega
          have HB := Lib.hid hb
          clear hb hz hi hm2
          go_wp2_with (at_builtin; refine wpList_append_mb rfl (.tmp 37) (.tmp 42) rfl w.heap.size m2 C (padTo s.data.toList j ++ lenBytes s.size 6) rfl (HM2.out.alloc _) HLM2.out _ 0 1 1 [b] rfl (row_one _ b _ rfl _) rfl (HRM2.out (by decide)) ?_
                       intro w3 hm3 hb3
                       rw [HB.out, List.append_assoc, lenBytes_step] at hm3
                       have HM3 := Lib.hid hm3
                       have HE3 := Lib.hid (hb3 w.heap.size w (Nat.le_refl _) (HE2.out.alloc (Nat.le_of_lt HM2.out.lt) _))
                       clear hm3 hb3)
          go_roundw
          case rel => exact ⟨7, m2 + 1, 0, rfl, rfl, rfl, by have := HMJ2.out; omega, by decide, HM3.out, HE3.out⟩
          case measure => simp [intOf]
        · obtain rfl : z = 0 := by omega
          obtain ⟨b, hb⟩ : ∃ b, b = UInt8.ofNat (s.size * 8 / 256 ^ (7 - 7)) := ⟨_, rfl⟩
          have e : ((s.size : Int) * 8 % 256) = (b.toNat : Int) := by rw [hb, UInt8.toNat_ofNat', Nat.sub_self, Nat.pow_zero, Nat.div_one]; omega
          have HB := Lib.hid hb
          clear hb hz hi hm2
          go_wp2_with (at_builtin; refine wpList_append_mb rfl (.tmp 37) (.tmp 42) rfl w.heap.size m2 C (padTo s.data.toList j ++ lenBytes s.size 7) rfl (HM2.out.alloc _) HLM2.out _ 0 1 1 [b] rfl (row_one _ b _ rfl _) rfl (HRM2.out (by decide)) ?_
                       intro w3 hm3 hb3
                       rw [HB.out, List.append_assoc, lenBytes_step] at hm3
                       have HM3 := Lib.hid hm3
                       have HE3 := Lib.hid (hb3 w.heap.size w (Nat.le_refl _) (HE2.out.alloc (Nat.le_of_lt HM2.out.lt) _))
                       clear hm3 hb3)
          go_roundw
          case rel => exact ⟨8, m2 + 1, -8, rfl, rfl, rfl, by have := HMJ2.out; omega, by decide, HM3.out, HE3.out⟩
          case measure => simp [intOf]
        · obtain rfl : z = -8 := by omega
          clear hz hi hm2
          obtain ⟨P, hP⟩ : ∃ P, P = padded s.data.toList := ⟨_, rfl⟩
          have hmp : Mb wr w.heap.size C P := by
            rw [hP, padded_eq, HL.out, ← HZE.out]
            exact HM2.out
          have hpl : P.length = m2 := by rw [hP, padded_eq, HL.out, ← HZE.out, HLM2.out]
          have hnb : m2 % 64 = 0 ∧ m2 ≤ C := by
            have := HZ.out
            have := HMJ.out
            have := HMJ2.out
            have := HC.out
            omega
          have HP := Lib.hid hP
          have HPL := Lib.hid hpl
          have HNB := Lib.hid hnb
          have HCB := Lib.hid (show C ≤ 100072 by have := HC.out; omega)
          have HMP := Lib.hid hmp
          have HE3 := HE2
          clear hP hmp hpl hnb HM2 HMJ2 HLM2 HRM2 HE2 HLM HMJ HZ HZE
          go_wp2_with (first
            | (go_at_call 236; (with_reducible refine (KF.out _).mono ?_); rintro e w4 ⟨rfl, hb4⟩
               have HG4 := Lib.hid (Nat.lt_of_lt_of_le HMP.out.lt hb4.size)
               have HM4 := Lib.hid (HMP.out.below hb4 HMP.out.lt)
               have HE4 := Lib.hid (HE3.out.trans (hb4.mono HE3.out.size))
               have hz4 := C32.new w4 232 (List.replicate 8 0)
               have HZ4 := Lib.hid hz4
               have hx4 := hz4.setAll state0 rfl
               rw [← HCZ.out] at hx4
               have HX4 := Lib.hid hx4
               clear hb4 hz4 hx4)
            | (refine wpList_store_mid rfl 232 _ _ rfl w4.heap.size 0 CZ rfl rfl (by rw [nZ.out]; exact HZ4.out.there) (by rw [nZ.out]; rfl) oZ.out ?_))
          dsimp only [Act.put]
          go_loopw [3] (fun v3 wr => ∃ (i A r : Nat) (V : List Nat), v3 = .slice (some ⟨w.heap.size, A, none⟩) r (C - 64 * i) ∧ r + 64 * i = m2 ∧ (0 < r → A = 64 * i) ∧ V.length = 8 ∧ (∀ x ∈ V, x < 4294967296) ∧ blocksF (r / 64) V (P.drop (64 * i)) = blocksF (m2 / 64) state0 P ∧ C32 wr w4.heap.size 232 V ∧ Mb wr w.heap.size C P ∧ Below w.heap.size w wr) (fun v _ => sliceLen v)
          case atStart => exact ⟨0, 0, m2, state0, rfl, rfl, fun _ => rfl, rfl, by decide, rfl, HX4.out, (HM4.out.alloc _).cells (Nat.ne_of_lt HG4.out) _ _, Below.setCells (Nat.le_of_lt HG4.out) _ _ _ (HE4.out.alloc (Nat.le_of_lt HG4.out) _)⟩
          case round =>
            clear HX4 HZ4 HM4 HE4 HMP HE3
            obtain ⟨i, A, r, V, rfl, hr, hA, hV8, hVl, hbl, hx, hm, hbe⟩ := hrel
            have HR := Lib.hid hr
            have HBL := Lib.hid hbl
            have HX := Lib.hid hx
            have HM := Lib.hid hm
            have HE := Lib.hid hbe
            clear hr hbl hx hm hbe
            by_cases hlt : 0 < r
            · obtain rfl : A = 64 * i := hA hlt
              have h64 : 64 ≤ r := by have := HR.out; have := HNB.out; omega
              obtain ⟨cc, hcc⟩ : ∃ cc, cc = C - 64 * i := ⟨_, rfl⟩
              have hcc1 : r ≤ cc := by have := HR.out; have := HNB.out; omega
              have hcc2 : cc ≤ 1000000 := by have := HCB.out; omega
              have HVL := Lib.hid hVl
              obtain ⟨v0, v1, v2, v3, v4, v5, v6, v7, rfl⟩ := eight V hV8
              obtain ⟨Lb, hLb⟩ : ∃ Lb, Lb = (P.drop (64 * i)).take 64 := ⟨_, rfl⟩
              have hLl : Lb.length = 64 := by rw [hLb]; simp; have := HPL.out; have := HR.out; omega
              obtain ⟨a0, a1, a2, a3, a4, a5, a6, a7, hAf⟩ := eight (after [v0, v1, v2, v3, v4, v5, v6, v7] Lb) (after_len _ _)
              obtain ⟨o, ho⟩ : ∃ o, o = 64 * i := ⟨_, rfl⟩
              have KA := Lib.hid (fun wq h1 h2 => hash_after w.heap.size o cc v0 v1 v2 v3 v4 v5 v6 v7 Lb wq hLl (by omega) hcc2 h1 h2 HVL.out)
              have e9 : u32Cells (after [v0, v1, v2, v3, v4, v5, v6, v7] Lb) = #[.int .u32 a0, .int .u32 a1, .int .u32 a2, .int .u32 a3, .int .u32 a4, .int .u32 a5, .int .u32 a6, .int .u32 a7] := by rw [hAf]; rfl
              have e8 : u32Cells [v0, v1, v2, v3, v4, v5, v6, v7] = #[.int .u32 v0, .int .u32 v1, .int .u32 v2, .int .u32 v3, .int .u32 v4, .int .u32 v5, .int .u32 v6, .int .u32 v7] := rfl
              rw [e9, e8] at KA
              have HAF := Lib.hid hAf
              have HLB := Lib.hid hLb
              have HO := Lib.hid ho
              have HCC := Lib.hid hcc
              rw [← hcc, ← ho]
              have hrow : Row wr.drew w.heap.size o Lb := by
                have := (HM.out.row.drop (64 * i)).take 64
                rw [Nat.zero_add, ← hLb, ← ho] at this
                exact this
              have HRW := Lib.hid hrow
              have HXD : Hid (C32 wr.drew w4.heap.size 232 [v0, v1, v2, v3, v4, v5, v6, v7]) := Lib.hid HX.out
              have HMD : Hid (Mb wr.drew w.heap.size C P) := Lib.hid HM.out
              have HGT : Hid (w.heap.size < wr.drew.heap.size) := Lib.hid HM.out.lt
              have y0 : wr.cell? ⟨w4.heap.size, 0, none⟩ = some (.int .u32 (v0 : Nat)) := HX.out.cell (k := 0) (by simp)
              have y1 : wr.cell? ⟨w4.heap.size, 1, none⟩ = some (.int .u32 (v1 : Nat)) := HX.out.cell (k := 1) (by simp)
              have y2 : wr.cell? ⟨w4.heap.size, 2, none⟩ = some (.int .u32 (v2 : Nat)) := HX.out.cell (k := 2) (by simp)
              have y3 : wr.cell? ⟨w4.heap.size, 3, none⟩ = some (.int .u32 (v3 : Nat)) := HX.out.cell (k := 3) (by simp)
              have y4 : wr.cell? ⟨w4.heap.size, 4, none⟩ = some (.int .u32 (v4 : Nat)) := HX.out.cell (k := 4) (by simp)
              have y5 : wr.cell? ⟨w4.heap.size, 5, none⟩ = some (.int .u32 (v5 : Nat)) := HX.out.cell (k := 5) (by simp)
              have y6 : wr.cell? ⟨w4.heap.size, 6, none⟩ = some (.int .u32 (v6 : Nat)) := HX.out.cell (k := 6) (by simp)
              have y7 : wr.cell? ⟨w4.heap.size, 7, none⟩ = some (.int .u32 (v7 : Nat)) := HX.out.cell (k := 7) (by simp)
              have p0 : (0 : Int) < (r : Int) := by omega
              have p64 : 64 ≤ cc := by omega
              clear e9 e8 hAf hLb ho hcc hrow hA hlt hV8
              go_wp2_with fail
              go_region_with (first
                | (go_at_call 237; (with_reducible refine (KA.out _ HRW.out HGT.out).mono ?_); rintro e w6 ⟨rfl, hb6⟩
                   have HX6 := Lib.hid (HXD.out.below hb6 HXD.out.lt)
                   have HM6 := Lib.hid (HMD.out.below hb6 HGT.out)
                   have HE6 := Lib.hid (HE.out.drew.trans (hb6.mono (Nat.le_of_lt HGT.out)))
                   have z0 := HX6.out.cell (k := 0) (by simp)
                   have f0 := HX6.out.free 0
                   have z1 := HX6.out.cell (k := 1) (by simp)
                   have f1 := HX6.out.free 1
                   have z2 := HX6.out.cell (k := 2) (by simp)
                   have f2 := HX6.out.free 2
                   have z3 := HX6.out.cell (k := 3) (by simp)
                   have f3 := HX6.out.free 3
                   have z4 := HX6.out.cell (k := 4) (by simp)
                   have f4 := HX6.out.free 4
                   have z5 := HX6.out.cell (k := 5) (by simp)
                   have f5 := HX6.out.free 5
                   have z6 := HX6.out.cell (k := 6) (by simp)
                   have f6 := HX6.out.free 6
                   have z7 := HX6.out.cell (k := 7) (by simp)
                   have f7 := HX6.out.free 7
                   clear hb6))
              all_goals
                go_wp2_with fail
                go_roundw
                case rel =>
                  refine ⟨i + 1, if cc = 64 then o else o + 64, r - 64, [a0, a1, a2, a3, a4, a5, a6, a7], ?_, ?_, ?_, rfl, ?_, ?_, ?_, ?_, ?_⟩
                  · rw [show C - 64 * (i + 1) = cc - 64 by rw [HCC.out]; omega]
                    split <;> rfl
                  · have := HR.out; omega
                  · intro h; rw [if_neg (by omega), HO.out]; omega
                  · rw [← HAF.out]; exact after_lt _ _
                  · have h := HBL.out
                    rw [show r / 64 = (r - 64) / 64 + 1 by omega] at h
                    rw [← h]
                    show _ = blocksF ((r - 64) / 64) (after [v0, v1, v2, v3, v4, v5, v6, v7] ((P.drop (64 * i)).take 64)) ((P.drop (64 * i)).drop 64)
                    rw [← HLB.out, HAF.out, List.drop_drop, Nat.mul_add]
                  · exact (((((((HX6.out.set 0 a0).set 1 a1).set 2 a2).set 3 a3).set 4 a4).set 5 a5).set 6 a6).set 7 a7
                  · have ne := Nat.ne_of_lt HG4.out
                    exact (((((((HM6.out.far ne _).far ne _).far ne _).far ne _).far ne _).far ne _).far ne _).far ne _
                  · have le := Nat.le_of_lt HG4.out
                    exact (((((((HE6.out.setCell (p := ⟨_, 0, none⟩) le _).setCell (p := ⟨_, 1, none⟩) le _).setCell (p := ⟨_, 2, none⟩) le _).setCell (p := ⟨_, 3, none⟩) le _).setCell (p := ⟨_, 4, none⟩) le _).setCell (p := ⟨_, 5, none⟩) le _).setCell (p := ⟨_, 6, none⟩) le _).setCell (p := ⟨_, 7, none⟩) le _
                case measure => simp only [sliceLen]; omega
            · obtain rfl : r = 0 := by omega
              have HVL := Lib.hid hVl
              have hsum : outBytes V = sumL s.data.toList := by
                unfold sumL
                rw [← HP.out, HPL.out]
                have h := HBL.out
                rw [show 0 / 64 = 0 from rfl] at h
                rw [← h]
                rfl
              obtain ⟨v0, v1, v2, v3, v4, v5, v6, v7, rfl⟩ := eight V hV8
              have HSUM := Lib.hid hsum
              obtain ⟨CV, hCV⟩ : ∃ x, x = u32Cells [v0, v1, v2, v3, v4, v5, v6, v7] := ⟨_, rfl⟩
              have hxv : wr.heap[w4.heap.size]? = some (.cells CV 232 (0, 0)) := by rw [hCV]; exact HX.out
              have HXV := Lib.hid hxv
              have nV := Lib.hid (show CV.size = 8 by rw [hCV]; rfl)
              have HIX : Hid (∀ k, k < 8 → ∀ w, (Instr.index 232 (.agg CV) (.int .i64 (k : Nat))).run Tryz.prog w = .ok (.int .u32 ([v0, v1, v2, v3, v4, v5, v6, v7].getD k 0 : Nat)) w) := Lib.hid (by rw [hCV]; exact fun k hk w => idx_state v0 v1 v2 v3 v4 v5 v6 v7 w k hk)
              clear hsum hV8 hVl hlt hA hxv hCV
              go_wp2_with (first | (refine wpList_load_row rfl 232 _ rfl w4.heap.size rfl _ _ _ _ HXV.out Tryz.underlying232 rfl (by rw [nV.out]; rfl) ?_))
              go_loopw [7, 55] (fun u7 v55 wr => ∃ k : Nat, v55 = .int .i64 k ∧ k ≤ 8 ∧ OwnB wr w.heap.size u7 (4 * k) (outBytes (List.take k [v0, v1, v2, v3, v4, v5, v6, v7])) ∧ Below w.heap.size w wr) (fun _ v _ => 8 - (intOf v).toNat)
              case atStart => exact ⟨0, rfl, by decide, OwnB.nil_ _ _, HE.out⟩
              case round =>
                clear HX HM HE HBL HR HXV
                obtain ⟨k, rfl, hk, how, hbe⟩ := hrel
                have HOW := Lib.hid how
                have HEB := Lib.hid hbe
                have HES := Lib.hid hbe.size
                clear how hbe
                by_cases hlt : k < 8
                · have hix := HIX.out k hlt
                  obtain ⟨x, hx⟩ : ∃ x, [v0, v1, v2, v3, v4, v5, v6, v7].getD k 0 = x := ⟨_, rfl⟩
                  rw [hx] at hix
                  obtain ⟨b3, h3⟩ : ∃ b, b = UInt8.ofNat (x / 16777216) := ⟨_, rfl⟩
                  obtain ⟨b2, h2⟩ : ∃ b, b = UInt8.ofNat (x / 65536) := ⟨_, rfl⟩
                  obtain ⟨b1, h1⟩ : ∃ b, b = UInt8.ofNat (x / 256) := ⟨_, rfl⟩
                  obtain ⟨b0, h0⟩ : ∃ b, b = UInt8.ofNat x := ⟨_, rfl⟩
                  have e3 : ((x : Int) / 16777216 % 256) = (b3.toNat : Int) := by rw [h3, UInt8.toNat_ofNat']; omega
                  have e2 : ((x : Int) / 65536 % 256) = (b2.toNat : Int) := by rw [h2, UInt8.toNat_ofNat']; omega
                  have e1 : ((x : Int) / 256 % 256) = (b1.toNat : Int) := by rw [h1, UInt8.toNat_ofNat']; omega
                  have e0 : ((x : Int) % 256) = (b0.toNat : Int) := by rw [h0, UInt8.toNat_ofNat']; omega
                  have HBS := Lib.hid (show outBytes (List.take k [v0, v1, v2, v3, v4, v5, v6, v7]) ++ [b3, b2, b1, b0] = outBytes (List.take (k + 1) [v0, v1, v2, v3, v4, v5, v6, v7]) by
                    rw [h3, h2, h1, h0, ← hx]
                    exact outBytes_step _ k (by simpa using hlt))
                  have HLT := Lib.hid hlt
                  have p8 : (k : Int) < 8 := by omega
                  clear h3 h2 h1 h0 hx hlt hk
                  go_wp2_with (at_builtin; refine wpList_append_own rfl (.tmp 58) (.tmp 70) rfl w.heap.size u7 (4 * k) _ rfl (HOW.out.alloc HES.out _) _ 0 4 4 [b3, b2, b1, b0] rfl (row_four _ b3 b2 b1 b0 _) (by simp) rfl (by have := HLT.out; omega) (by have := HES.out; simp; omega) ?_
                               intro v9 w9 hown9 hb9
                               rw [HBS.out] at hown9
                               have HO9 := Lib.hid hown9
                               have HE9 := Lib.hid ((HEB.out.alloc HES.out _).trans hb9)
                               clear hown9 hb9)
                  go_roundw
                  case rel => exact ⟨k + 1, rfl, HLT.out, HO9.out, HE9.out⟩
                  case measure => have := HLT.out; show 8 - ((k : Int) + 1).toNat < 8 - (k : Int).toNat; omega
                · obtain rfl : k = 8 := by omega
                  rcases HOW.out.form HES.out with ⟨rfl, h0⟩ | ⟨g7, c7, rfl, hb7, hl7, hc7, hr7⟩
                  · cases h0
                  · have hcv := conv_str hr7 32 c7 HOW.out.1
                    have e7 : (⟨(outBytes (List.take 8 [v0, v1, v2, v3, v4, v5, v6, v7])).toArray⟩ : ByteArray) = sumS s := by unfold sumS; rw [← HSUM.out]; rfl
                    rw [e7] at hcv
                    clear e7 hr7 hb7 hl7
                    go_wp2_with fail
                    go_ret
                    exact ⟨rfl, HEB.out⟩

end Go.Proofs.YtkdbemdobfddoaaGreatDoor
