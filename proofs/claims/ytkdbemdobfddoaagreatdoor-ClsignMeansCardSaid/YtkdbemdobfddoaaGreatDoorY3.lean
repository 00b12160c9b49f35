/- The walks of package coins: an attempt at a coin. -/
import Derived.Test.YtkdbemdobfddoaaGreatDoorY2
import Derived.Test.YtkdbemdobfddoaaGreatDoorBY
import Derived.Stop.RegionWithIn
import Derived.Lib.AppendStr
import Derived.OwnWalkIn
namespace Go.Proofs.YtkdbemdobfddoaaGreatDoor
open Go.RowKit Go.Shelf
set_option maxRecDepth 100000
set_option linter.unusedVariables false
set_option maxHeartbeats 4000000
attribute [local go_sem] Oper.semAt_some

/-- The bytes of an attempt's first block. -/
def blockL (seed : ByteArray) (z a : Int) : List UInt8 := (macS seed (nameS z a 0)).data.toList
/-- An attempt at a coin with some bits (at most 256). -/
def attN (seed : ByteArray) (z a : Int) (len : Nat) : Nat := val ((blockL seed z a).take ((len + 7) / 8)) % 2 ^ len
theorem macS_size (key s : ByteArray) : (macS key s).size = 32 := by
  have : ∃ t, macS key s = sumS t := ⟨⟨_⟩, rfl⟩
  obtain ⟨t, h⟩ := this
  rw [h, sumS_size]
theorem keeps_below' {W W' : World} (h : Below W.heap.size W W') : KeepsOthers W W' :=
  ⟨h.size, fun k o hk _ => (h.block k (Array.getElem?_eq_some_iff.1 hk).1).trans hk⟩
theorem put_cell {W : World} {l k j : Nat} {o' : Obj} (h : k ≠ l) : (W.putObj l o').cell? ⟨k, j, none⟩ = W.cell? ⟨k, j, none⟩ := World.cell?_of_block (World.putObj_heap_other h)
theorem put_frozen {W : World} {l k j : Nat} {o' : Obj} (h : k ≠ l) : (W.putObj l o').frozen? ⟨k, j, none⟩ = W.frozen? ⟨k, j, none⟩ := World.frozen?_of_block (World.putObj_heap_other h)
theorem put_below {B : Nat} {w W : World} {l : Nat} {o o' : Obj} (h : Below B w W) (hB : B ≤ l) (hl : W.heap[l]? = some o) (hw : B ≤ w.heap.size) : Below B w (W.putObj l o') :=
  h.grown (grownBy_putObj' W l o') (Nat.le_trans hw h.size) (fun k e => by cases e; exact hB)
theorem put_own {W : World} {base n l : Nat} {v : Value} {L : List UInt8} {o o' : Obj} (h : OwnB W base v n L) (hl : W.heap[l]? = some o) (ho : o.isCells = false) : OwnB (W.putObj l o') base v n L := by
  refine ⟨h.1, h.2.1, ?_⟩
  rcases h.2.2 with hn | ⟨g, cap, cur, rfl, h1, hg, rest⟩
  · exact .inl hn
  · refine .inr ⟨g, cap, cur, rfl, h1, ?_, rest⟩
    have hne : g ≠ l := by
      intro e
      subst e
      rw [hg] at hl
      cases hl
      cases ho
    rw [World.putObj_heap_other hne]
    exact hg
theorem put_size {W : World} {l : Nat} {o' : Obj} : (W.putObj l o').heap.size = W.heap.size := by simp [World.putObj]
theorem OwnB.setCell {w : World} {base n : Nat} {v u : Value} {L : List UInt8} {p : Addr} (h : OwnB w base v n L) (hp : p.block < base) : OwnB (w.setCell p u) base v n L := by
  refine ⟨h.1, h.2.1, ?_⟩
  rcases h.2.2 with hn | ⟨g, cap, cur, rfl, h1, hg, rest⟩
  · exact .inl hn
  · exact .inr ⟨g, cap, cur, rfl, h1, (Below.heap_setCell w p u g (by omega)).trans hg, rest⟩
theorem OwnB.free {w : World} {base n g c : Nat} {L : List UInt8} (h : OwnB w base (.slice (some ⟨g, 0, none⟩) n c) n L) (hn : 0 < n) (k : Nat) : w.frozen? ⟨g, k, none⟩ = false := by
  rcases h.2.2 with ⟨hn, _⟩ | ⟨g', cap, cur, hv, h1, hg, rest⟩
  · cases hn
  · injection hv with e1 e2 e3
    injection e1 with e1
    injection e1 with e1
    subst e1
    simp [World.frozen?, hg]
/-- append(b, s...) of a string, inside a fence. -/
theorem wpListIn_append_strB {F : Fence} {n' : Nat} {w : World} {ops : Array Oper} {rest : List Oper} {o : Oper} {a : Act} {Q : Exit → Act → World → Prop} (hgd : o.guard = none) (sl x : Operand)
    (ho : o.op = .call { callee := .builtin .append, args := #[sl, x], argTypes := #[119, 9] })
    (base : Nat) (v : Value) (n : Nat) (L : List UInt8) (hs : a.eval sl = v) (hown : OwnB w base v n L) (s : ByteArray) (hx : a.eval x = .string s) (hsz : n + s.size ≤ 1000000) (hbase : base ≤ w.heap.size)
    (h : ∀ v' w', OwnB w' base v' (n + s.size) (L ++ s.data.toList) → w.grownBy w' v.ownBlock → Below base w w' → wpListIn F n' Tryz.prog ops Q rest (a.put o.dst v') w') : wpListIn F n' Tryz.prog ops Q (o :: rest) a w := by
  obtain ⟨i, hi, hz, hs1, hb1⟩ := u8_infoE
  refine wpListIn_plain hgd fun K hK => ?_
  obtain ⟨v', w', hr, h2, h3, _⟩ := Lib.run_append_own_string (P := Tryz.prog) w base 119 9 o.type 5 i Tryz.underlying119 Tryz.underlying9 hi hz hs1 hb1 v n (cells8 L) hown.2 s (by unfold maxLen; omega) (by omega) hbase
  have hlen : s.data.toList.length = s.size := by rw [← Lib.size_eq]
  unfold Oper.wpIn
  refine ⟨?_, ?_⟩
  · simp [Oper.about, ho, resolve, Target.leads, Sem.run_pure]
  · rw [Oper.semAt_plain F _ _ (by rw [ho]; intro c hc'; cases hc')]
    simp [execOp, ho, resolve, invoke, builtin, hs, hx, hr, Result.andThen]
    refine hK _ _ (h v' w' ⟨by rw [List.length_append, hown.1, hlen], ?_⟩ h3 (below_grown h3 hbase fun g hg => (hown.2.lt g hg).1))
    have e : cells8 (L ++ s.data.toList) = cells8 L ++ Lib.strCells s := by unfold cells8; rw [List.map_append]; rfl
    rw [e]
    exact h2
/-- What lies in memory ahead of the loop over the blocks. -/
structure AtI (w W : World) (size : Nat) : Prop where
  cs : W.cell? ⟨w.heap.size + 1, 0, none⟩ = some (.int .i64 size)
  co : W.cell? ⟨w.heap.size + 2, 0, none⟩ = some (.slice none 0 0)
  fo : W.frozen? ⟨w.heap.size + 2, 0, none⟩ = false
  bel : Below w.heap.size w W
  sz : w.heap.size + 5 ≤ W.heap.size
/-- .. and behind it. -/
structure AtX (w W : World) (size : Nat) (L : List UInt8) : Prop where
  cs : W.cell? ⟨w.heap.size + 1, 0, none⟩ = some (.int .i64 size)
  co : ∃ v, W.cell? ⟨w.heap.size + 2, 0, none⟩ = some v ∧ OwnB W (w.heap.size + 5) v 32 L
  fo : W.frozen? ⟨w.heap.size + 2, 0, none⟩ = false
  bel : Below w.heap.size w W
  sz : w.heap.size + 5 ≤ W.heap.size
theorem AtI.next {w W W' : World} {size : Nat} (h : AtI w W size) (hb : Below W.heap.size W W') : AtI w W' size :=
  ⟨(hb.cell (p := ⟨w.heap.size + 1, 0, none⟩) (by have := h.sz; show w.heap.size + 1 < _; omega)).trans h.cs, (hb.cell (p := ⟨w.heap.size + 2, 0, none⟩) (by have := h.sz; show w.heap.size + 2 < _; omega)).trans h.co,
    (hb.frozen (p := ⟨w.heap.size + 2, 0, none⟩) (by have := h.sz; show w.heap.size + 2 < _; omega)).trans h.fo, h.bel.trans (hb.mono (by have := h.sz; omega)), Nat.le_trans h.sz hb.size⟩
theorem AtI.put {w W : World} {size l : Nat} {o o' : Obj} (h : AtI w W size) (hl : w.heap.size + 5 ≤ l) (ho : W.heap[l]? = some o) : AtI w (W.putObj l o') size :=
  ⟨(put_cell (by omega)).trans h.cs, (put_cell (by omega)).trans h.co, (put_frozen (by omega)).trans h.fo, put_below h.bel (by omega) ho (Nat.le_refl _), by rw [put_size]; exact h.sz⟩
theorem AtX.put {w W : World} {size l : Nat} {L : List UInt8} {o o' : Obj} (h : AtX w W size L) (hl : w.heap.size + 5 ≤ l) (ho : W.heap[l]? = some o) (hc : o.isCells = false) : AtX w (W.putObj l o') size L := by
  obtain ⟨v, hv, hown⟩ := h.co
  exact ⟨(put_cell (by omega)).trans h.cs, ⟨v, (put_cell (by omega)).trans hv, put_own hown ho hc⟩, (put_frozen (by omega)).trans h.fo, put_below h.bel (by omega) ho (Nat.le_refl _), by rw [put_size]; exact h.sz⟩
theorem form_pos {w : World} {base : Nat} {v : Value} {n : Nat} {L : List UInt8} (h : OwnB w base v n L) (hz : base ≤ w.heap.size) (hn : 0 < n) :
    ∃ g c, v = .slice (some ⟨g, 0, none⟩) n c ∧ base ≤ g ∧ g < w.heap.size ∧ n ≤ c ∧ Row w g 0 L := by
  rcases h.form hz with ⟨_, h0⟩ | h
  · omega
  · exact h
/-- A post that only the way straight on may meet. -/
def onlyN (Q : Exit → Act → World → Prop) : Exit → Act → World → Prop
  | .normal, a, w => Q .normal a w
  | _, _, _ => False
theorem only_normal {F : Fence} {n : Nat} {P : Program} {c : Code} {Q : Exit → Act → World → Prop} {a : Act} {w : World} (h : c.wpIn F n P (onlyN Q) a w) : c.wpIn F n P Q a w := by
  refine wpIn_mono h ?_
  rintro e a w h
  cases e <;> first | exact h | exact h.elim
theorem pow_shift {sh : Nat} (h : sh ≤ 7) : ((255 : Int) / 2 ^ sh) = ((2 ^ (8 - sh) - 1 : Nat) : Int) := by
  have : sh = 0 ∨ sh = 1 ∨ sh = 2 ∨ sh = 3 ∨ sh = 4 ∨ sh = 5 ∨ sh = 6 ∨ sh = 7 := by omega
  rcases this with rfl | rfl | rfl | rfl | rfl | rfl | rfl | rfl <;> rfl
theorem row_first {w : World} {g : Nat} {b b' : UInt8} {r : List UInt8} (h : Row w g 0 (b :: r)) : Row (w.setCell ⟨g, 0, none⟩ (.int .u8 b'.toNat)) g 0 (b' :: r) := by
  intro k hk
  rw [Nat.zero_add]
  have hk' := h k (by simpa using hk)
  rw [Nat.zero_add] at hk'
  cases k with
  | zero => exact World.cell?_setCell_same _ _ _ hk'
  | succ k => exact (World.cell?_setCell_other _ _ _ _ (by simp)).trans hk'
theorem row_far {w : World} {g o : Nat} {L : List UInt8} {p : Addr} {u : Value} (h : Row w g o L) (hp : p.block ≠ g) : Row (w.setCell p u) g o L :=
  fun k hk => (World.cell?_setCell_other _ _ _ _ (fun e => hp (by rw [e]))).trans (h k hk)
theorem att_val (seed : ByteArray) (z a : Int) (len size sh : Nat) (b : UInt8) (r : List UInt8) (hbr : blockL seed z a = b :: r) (hr : r.length = 31) (hsz : size = (len + 7) / 8) (h1 : 1 ≤ size) (h2 : size ≤ 32) (hsh : 8 * size = len + sh) (h7 : sh ≤ 7) :
    val ((UInt8.ofNat (b.toNat % 2 ^ (8 - sh)) :: r).take size) = attN seed z a len := by
  obtain ⟨m, rfl⟩ : ∃ m, size = m + 1 := ⟨size - 1, by omega⟩
  unfold attN
  rw [hbr, ← hsz, List.take_succ_cons, List.take_succ_cons]
  exact mask_val b (r.take m) len sh (by rw [List.length_take, hr]; omega) h7
theorem coins_attempt (A : Option Addr) (n c : Nat) (seed : ByteArray) (z a : Int) (len : Nat) (w : World) (hz0 : 0 ≤ z) (hz1 : z ≤ 2147483647) (ha0 : 0 ≤ a) (ha1 : a ≤ 1000) (hs : seed.size ≤ 100000) (hT : Tab10 w) (hl0 : 1 ≤ len) (hl1 : len ≤ 256) :
    Calls Tryz.prog 157 #[.agg #[.slice A n c, .string seed, .int .i64 z], .int .i64 a, .int .i64 len] w fun e w' => e = .returned (.string (B (attN seed z a len))) ∧ Below w.heap.size w w' := by
  obtain ⟨size, hsize⟩ : ∃ size, size = (len + 7) / 8 := ⟨_, rfl⟩
  have e1 : ((len : Int) + 7) / 8 = (size : Int) := by omega
  have e2 : Int.tdiv ((len : Int) + 7) 8 = (size : Int) := by rw [Int.tdiv_eq_ediv_of_nonneg (by omega)]; exact e1
  have hs1 : 1 ≤ size := by omega
  have hs2 : size ≤ 32 := by omega
  have HSZ := Lib.hid hsize
  have HT := Lib.hid hT
  have KB := Lib.hid (fun w => coins_blocks A n c seed z a w)
  clear hsize hT
  refine (callsIn_wide (n := 3)).1 ?_
  refine callsIn_of_wp_marks Tryz.func157 rfl trivial ?_ rfl
  simp only [Tryz.ntmps157, List.size_toArray, List.length_cons, List.length_nil, Nat.reduceAdd, Nat.reduceSub, Array.replicate_succ, Array.replicate_zero, List.push_toArray, List.append_toArray, List.nil_append, List.cons_append]
  gi_wp2_with (first | (refine ⟨trivial, ?_⟩; gi_at_call 194; (with_reducible refine (callsIn_wide.2 (KB.out _)).mono ?_); rintro e w2 ⟨rfl, rfl⟩))
  obtain ⟨BS, hBS⟩ : ∃ BS, BS = macS seed (nameS z a 0) := ⟨_, rfl⟩
  have hB32 : BS.size = 32 := by rw [hBS]; exact macS_size _ _
  have hBL : BS.data.toList = blockL seed z a := by rw [hBS]; rfl
  obtain ⟨W, hW⟩ : ∃ W, W = (((((w.alloc (.cells #[.slice A n c, .string seed, .int .i64 z] 48)).alloc (.cells #[.int .i64 size] 3)).alloc (.cells #[.slice none 0 0] 119)).alloc (.cells #[.slice A n c, .string seed, .int .i64 z] 48)).alloc (.cells #[.int .i64 a] 3)) := ⟨_, rfl⟩
  rw [← hW]
  have hbw : Below w.heap.size w W := by rw [hW]; exact (((((Below.refl _ _).alloc (Nat.le_refl _) _).alloc (by simp) _).alloc (by simp; omega) _).alloc (by simp; omega) _).alloc (by simp; omega) _
  have hsW : W.heap.size = w.heap.size + 5 := by rw [hW]; simp
  have hI0 : AtI w W size := ⟨by rw [hW]; simp [go_sem], by rw [hW]; simp [go_sem], by rw [hW]; simp [go_sem], hbw, by omega⟩
  have c0 : W.cell? ⟨w.heap.size + 3, 1, none⟩ = some (.string seed) := by rw [hW]; simp [go_sem]
  have c1 : W.cell? ⟨w.heap.size + 3, 2, none⟩ = some (.int .i64 z) := by rw [hW]; simp [go_sem]
  have c2 : W.cell? ⟨w.heap.size + 3 + 1, 0, none⟩ = some (.int .i64 a) := by rw [hW]; simp [go_sem]
  have hseq := blocks1_once 2 (by omega) (w.heap.size + 3) A n c seed z a W hz0 hz1 ha0 ha1 hs (HT.out.below hbw) c0 c1 c2 (by omega)
  rw [← hBS] at hseq
  have HSEQ := Lib.hid hseq
  have HI0 := Lib.hid hI0
  have HBL := Lib.hid hBL
  have HSW := Lib.hid hsW
  clear hseq hI0 c0 c1 c2 hbw hBL hBS hW hsW KB HT
  refine wpIn_rangeFunc_once rfl (by omega) (gf := 215) (lb := #[.pointer (some ⟨w.heap.size + 3, 0, none⟩), .pointer (some ⟨w.heap.size + 3 + 1, 0, none⟩)]) rfl trivial (enters_of Tryz.func215 (by kernel_rfl) rfl)
    (.string BS) HSEQ.out (fun W' => AtI w W' size) (fun id W' => id = 0 ∧ AtX w W' size BS.data.toList) (fun _ _ h hb => h.next hb)
    (fun _ l o o' h hl ho _ => h.put (by rw [HSW.out] at hl; exact hl) ho) (fun id _ l o o' h hl ho hc => ⟨h.1, h.2.put (by rw [HSW.out] at hl; exact hl) ho hc⟩) HI0.out
    { tmps := #[.agg #[.slice A n c, .string seed, .int .i64 z], .int .i64 a, .int .i64 len, .pointer (some ⟨w.heap.size, 0, none⟩), undef, undef, .string ⟨#[]⟩, .pointer (some ⟨w.heap.size + 1, 0, none⟩), .pointer (some ⟨w.heap.size + 1 + 1, 0, none⟩), .string BS, .int .i64 len, .int .i64 ((len : Int) + 7), .int .i64 size, .agg #[.slice A n c, .string seed, .int .i64 z], .int .i64 a,
        .func (.func 215) #[] #[.pointer (some ⟨w.heap.size + 1 + 1 + 1, 0, none⟩), .pointer (some ⟨w.heap.size + 1 + 1 + 1 + 1, 0, none⟩)], .string BS, undef, undef, undef, undef, undef, undef, undef, undef, undef, undef, undef, undef, undef, undef, undef, undef, undef, undef, undef, undef, undef, undef, undef, undef, undef, undef, undef, undef, undef, undef, undef, undef, undef, undef, undef], defers := [] } ?assign ?body ?stop
  case assign =>
    intro l W2 K hK
    gi_wp2
    exact hK
  case body =>
    intro l W2 hI
    have dS := hI.cs
    have dO := hI.co
    have gO := hI.fo
    have hz2 : w.heap.size + 5 ≤ W2.heap.size := hI.sz
    have HI := Lib.hid hI
    clear hI
    gi_wp2_with (refine wpListIn_append_strB rfl (.tmp 17) (.tmp 18) rfl (w.heap.size + 5) (.slice none 0 0) 0 [] rfl (OwnB.nil_ _ _) BS rfl (by omega) hz2 ?_
                 intro v7 w7 hown7 hg7 hb7
                 have hb8 := below_grown hg7 (Nat.le_refl _) (fun g h => by cases h)
                 obtain ⟨g7, c7, rfl, h57, hl7, hc7, hr7⟩ := form_pos hown7 (Nat.le_trans hz2 hb8.size) (by omega)
                 have eS := (hb8.cell (p := ⟨w.heap.size + 1, 0, none⟩) (by show w.heap.size + 1 < _; omega)).trans dS
                 have eO := (hb8.cell (p := ⟨w.heap.size + 2, 0, none⟩) (by show w.heap.size + 2 < _; omega)).trans dO
                 have hO := (hb8.frozen (p := ⟨w.heap.size + 2, 0, none⟩) (by show w.heap.size + 2 < _; omega)).trans gO
                 have HOWN := Lib.hid hown7
                 have HB8 := Lib.hid hb8
                 clear hown7 hg7 hb7 hb8)
    refine ⟨(keeps_below' HB8.out).trans (KeepsOthers.setCell _ _ _), rfl, ?_⟩
    have hown : OwnB w7 (w.heap.size + 5) (.slice (some ⟨g7, 0, none⟩) 32 c7) 32 BS.data.toList := by have := HOWN.out; simpa [hB32] using this
    have hI7 := HI.out.next HB8.out
    exact ⟨(World.cell?_setCell_other _ _ _ _ (by simp)).trans eS, ⟨_, World.cell?_setCell_same _ _ _ eO, by simpa [hB32] using hown.setCell (p := ⟨w.heap.size + 2, 0, none⟩) (by show w.heap.size + 2 < _; omega)⟩,
      (World.frozen?_setCell _ _ _ _).trans hO, hI7.bel.setCell (p := ⟨w.heap.size + 2, 0, none⟩) (by show w.heap.size ≤ w.heap.size + 2; omega) _, by simpa using hI7.sz⟩
  case stop =>
    rintro D id W2 hD ⟨rfl, hX⟩ hK
    have cS := hX.cs
    have fO := hX.fo
    have hz2 : w.heap.size + 5 ≤ W2.heap.size := hX.sz
    obtain ⟨v, cO, hown⟩ := hX.co
    obtain ⟨g7, c7, rfl, h57, hl7, hc7, hr7⟩ := form_pos hown hz2 (by omega)
    have hLl : BS.data.toList.length = 32 := hown.1
    obtain ⟨b, r, hbr⟩ : ∃ b r, BS.data.toList = b :: r := by
      cases hh : BS.data.toList with
      | nil => rw [hh] at hLl; cases hLl
      | cons b r => exact ⟨b, r, rfl⟩
    have c70 : W2.cell? ⟨g7, 0, none⟩ = some (.int .u8 b.toNat) := by have := hr7 0 (by omega); rw [hbr] at this; exact this
    have f70 := hown.free (by omega) 0
    have HR7 := Lib.hid hr7
    have HBR := Lib.hid hbr
    have HLL := Lib.hid hLl
    have HBEL := Lib.hid hX.bel
    have hgD : g7 ≠ D := by intro e; rw [e] at c70; simp [World.cell?, hK] at c70
    have hDX : w.heap.size + 5 ≤ D := by rw [HSW.out] at hD; exact hD
    have HK := Lib.hid hK
    have HD := Lib.hid (And.intro hgD hDX)
    clear hX hown hr7 hbr hLl hK hD hgD hDX
    have n1 : ¬ w.heap.size + 1 + 1 = g7 := by omega
    have n2 : ¬ w.heap.size + 1 = g7 := by omega
    have n3 : ¬ g7 = w.heap.size + 1 + 1 := by omega
    have n4 : ¬ g7 = w.heap.size + 1 := by omega
    have p1 : (0 : Int) < (size : Int) := by omega
    obtain ⟨sh, hsh, hsh7⟩ : ∃ sh, 8 * size = len + sh ∧ sh ≤ 7 := ⟨8 * size - len, by have := HSZ.out; omega, by have := HSZ.out; omega⟩
    have q1 : (8 * (size : Int) - (len : Int)) = (sh : Int) := by omega
    have q2 : IntKind.i64.wrap (8 * (size : Int)) = 8 * (size : Int) := by rw [IntKind.wrap_i64]; omega
    have q3 : IntKind.i64.wrap (sh : Int) = (sh : Int) := by rw [IntKind.wrap_i64]; omega
    gi_wp2
    obtain ⟨b', hb'⟩ : ∃ b', b' = UInt8.ofNat (b.toNat % 2 ^ (8 - sh)) := ⟨_, rfl⟩
    have q4 : bits BinOp.and .u8 (b.toNat : Int) (255 / 2 ^ sh) = (b'.toNat : Int) := by
      rw [pow_shift hsh7, u8_and_mask b (8 - sh) (by omega), hb', UInt8.toNat_ofNat']
      have h1 : b.toNat % 2 ^ (8 - sh) < 256 := Nat.lt_of_le_of_lt (Nat.mod_le _ _) (byte_lt b)
      rw [Nat.mod_eq_of_lt h1]
    obtain ⟨Ld, hLd⟩ : ∃ Ld, Ld = (b' :: r).take size := ⟨_, rfl⟩
    have hLdl : Ld.length = size := by rw [hLd, List.length_take, List.length_cons]; have := HLL.out; rw [HBR.out] at this; simp at this; omega
    have hval : val Ld = attN seed z a len := by
      rw [hLd, hb']
      have hr31 := HLL.out
      rw [HBR.out] at hr31
      exact att_val seed z a len size sh b r (by rw [← HBL.out, HBR.out]) (by simpa using hr31) HSZ.out hs1 hs2 hsh hsh7
    have hrd (u : Value) : Row ((W2.setCell ⟨w.heap.size + 1 + 1, 0, none⟩ u).setCell ⟨g7, 0, none⟩ (.int .u8 b'.toNat)) g7 0 Ld := by
      rw [hLd]
      refine (row_first (b := b) (row_far ?_ n1)).take size
      have := HR7.out
      rw [HBR.out] at this
      exact this
    have HVAL := Lib.hid hval
    have HLD := Lib.hid hLdl
    have HRD := Lib.hid hrd
    have HN := Lib.hid (And.intro n1 (And.intro n3 h57))
    have HC7 := Lib.hid hc7
    clear hb' hLd hval hLdl hrd
    refine only_normal ?_
    gi_region_with (fail)
    all_goals
      dsimp only [onlyN]
      gi_wp2
      gi_loopw [39] (fun _ wr => (∃ k A : Nat, k ≤ size ∧ wr.cell? ⟨w.heap.size + 1 + 1, 0, none⟩ = some (.slice (some ⟨g7, A, none⟩) (size - k) (c7 - k)) ∧ (k < size → A = k) ∧ trimL (Ld.drop k) = trimL Ld) ∧ wr.frozen? ⟨w.heap.size + 1 + 1, 0, none⟩ = false ∧ Row wr g7 0 Ld ∧ Below w.heap.size w wr ∧ wr.heap[D]? = some (.deferred (some []))) (fun _ wr => match wr.cell? ⟨w.heap.size + 1 + 1, 0, none⟩ with | some v => sliceLen v | none => 0)
      case atStart =>
        refine ⟨⟨0, 0, Nat.zero_le _, ?_, fun _ => rfl, rfl⟩, ?_, HRD.out _, ?_, ?_⟩
        · exact (World.cell?_setCell_other _ _ _ _ (fun e => HN.out.2.1 (by injection e))).trans (World.cell?_setCell_same _ _ _ cO)
        · exact (World.frozen?_setCell _ _ _ _).trans ((World.frozen?_setCell _ _ _ _).trans fO)
        · have hb := (HBEL.out.setCell (p := ⟨w.heap.size + 1 + 1, 0, none⟩) (by show w.heap.size ≤ w.heap.size + 1 + 1; omega) (.slice (some ⟨g7, 0, none⟩) size c7)).setCell (p := ⟨g7, 0, none⟩) (by have := HN.out.2.2; show w.heap.size ≤ g7; omega) (.int .u8 b'.toNat)
          first | exact hb.drew | exact hb
        · have h1 := (Below.heap_setCell W2 ⟨w.heap.size + 1 + 1, 0, none⟩ (.slice (some ⟨g7, 0, none⟩) size c7) D (by have := HD.out.2; show D ≠ w.heap.size + 1 + 1; omega)).trans HK.out
          exact (Below.heap_setCell _ ⟨g7, 0, none⟩ (.int .u8 b'.toNat) D (Ne.symm HD.out.1)).trans h1
      case round =>
        obtain ⟨⟨k, A2, hk, hc, hA, ht⟩, hf, hrow, hbe, hD⟩ := hrel
        have HT := Lib.hid ht
        have HRW := Lib.hid hrow
        have HBE := Lib.hid hbe
        have HDD := Lib.hid hD
        clear hrow hbe hD ht c70 f70 q1 q2 q3 q4 cS cO fO
        have hDw : w.heap.size ≤ D := by have := HD.out.2; omega
        by_cases hlt : k < size
        · obtain rfl : A2 = k := hA hlt
          have hx := HRW.out A2 (by rw [HLD.out]; exact hlt)
          rw [Nat.zero_add] at hx
          by_cases h0 : Ld.getD A2 0 = 0
          · have H0 := Lib.hid h0
            have hx0 : wr.cell? ⟨g7, A2, none⟩ = some (.int .u8 0) := by rw [hx, h0]; rfl
            have hcc := HC7.out
            clear hx h0 hA
            gi_wp2
            go_roundw
            case rel =>
              refine ⟨⟨A2 + 1, if c7 - A2 = 1 then A2 else A2 + 1, hlt, ?_, ?_, ?_⟩, ?_, ?_, ?_, ?_⟩
              · rw [World.cell?_setCell_same _ _ _ hc, show size - (A2 + 1) = size - A2 - 1 by omega, show c7 - (A2 + 1) = c7 - A2 - 1 by omega]
                split <;> rfl
              · intro h; rw [if_neg (by omega)]
              · rw [← trimL_drop_zero (by rw [HLD.out]; exact hlt) H0.out]; exact HT.out
              · exact (World.frozen?_setCell _ _ _ _).trans hf
              · exact row_far HRW.out HN.out.1
              · exact HBE.out.setCell (p := ⟨w.heap.size + 1 + 1, 0, none⟩) (by show w.heap.size ≤ w.heap.size + 1 + 1; omega) _
              · exact (Below.heap_setCell wr ⟨w.heap.size + 1 + 1, 0, none⟩ _ D (by have := HD.out.2; show D ≠ w.heap.size + 1 + 1; omega)).trans HDD.out
            case measure =>
              rw [World.cell?_setCell_same _ _ _ hc, hc]
              simp [sliceLen]
              omega
          · obtain ⟨y, hy⟩ : ∃ y : Int, ((Ld.getD A2 0).toNat : Int) = y := ⟨_, rfl⟩
            have hb : (y == 0) = false := by
              rw [beq_eq_false_iff_ne]; intro e; exact h0 (UInt8.toNat_inj.mp (by rw [e] at hy; simpa using hy))
            rw [hy] at hx
            have hcv := conv_row ((HRW.out.drop A2)) (size - A2) (c7 - A2) (by rw [List.length_drop, HLD.out])
            rw [Nat.zero_add, ← trimL_drop_stop (by rw [HLD.out]; exact hlt) h0, HT.out, trimL_eq, HVAL.out] at hcv
            clear hy h0 hA
            gi_wp2
            refine ⟨by simp, .inl ⟨_, _, rfl, run_takeDeferred HDD.out, ?_⟩⟩
            exact ⟨.string (B (attN seed z a len)), by simp [results, Tryz.f157, go_sem]; rfl, rfl, HBE.out.trans (belowK_b (w := w) (Nat.le_refl _) wr D _ _ hDw HDD.out rfl rfl)⟩
        · obtain rfl : k = size := by omega
          have e0 : k - k = 0 := Nat.sub_self k
          rw [e0] at hc
          have hcv := conv_row_zero wr g7 A2 (c7 - k)
          have hBz : B (attN seed z a len) = ⟨#[]⟩ := by
            rw [← HVAL.out]
            have h := HT.out
            rw [List.drop_eq_nil_of_le (by rw [HLD.out]; exact Nat.le_refl _), trimL_eq Ld] at h
            show (⟨(enc (val Ld)).toArray⟩ : ByteArray) = _
            rw [← h]
            rfl
          have HBZ := Lib.hid hBz
          clear hBz hA
          gi_wp2
          refine ⟨by simp, .inl ⟨_, _, rfl, run_takeDeferred HDD.out, ?_⟩⟩
          exact ⟨.string ⟨#[]⟩, by simp [results, Tryz.f157, go_sem], by rw [HBZ.out], HBE.out.trans (belowK_b (w := w) (Nat.le_refl _) wr D _ _ hDw HDD.out rfl rfl)⟩

end Go.Proofs.YtkdbemdobfddoaaGreatDoor
