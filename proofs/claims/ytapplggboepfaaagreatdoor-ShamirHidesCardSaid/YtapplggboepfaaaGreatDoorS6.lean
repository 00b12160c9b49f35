/- The walk of the law ShamirHides. -/
import Derived.Test.YtapplggboepfaaaGreatDoorSP
import Derived.Test.YtapplggboepfaaaGreatDoorS1
namespace Go.Proofs.YtapplggboepfaaaGreatDoor
open Go.RowKit
set_option maxRecDepth 100000
set_option linter.unusedVariables false
set_option linter.unusedSimpArgs false
set_option maxHeartbeats 4000000

theorem bool_info : (Tryz.prog.info? 4).map (fun i => (i.zero, i.size, i.bytes)) = some (some (.bool false), 1, 1) := by kernel_rfl
theorem madeCells_bools (n : Nat) : madeCells #[Value.bool false] n = (List.replicate n (Value.bool false)).toArray := by
  apply Array.ext
  · simp [madeCells]
  · intro i h1 h2
    simp [madeCells, Nat.mod_one]
theorem make_bools (n : Nat) (h : n ≤ 1000000) (w : World) : (Instr.makeSlice 27 (.int .u64 (n : Int)) (.int .u64 (n : Int))).run Tryz.prog w =
    .ok (.slice (some ⟨w.heap.size, 0, none⟩) n n) (w.alloc (.cells (List.replicate n (Value.bool false)).toArray 4)) := by
  rw [← madeCells_bools]
  exact run_make_row' 27 4 (.bool false) 1 Tryz.underlying27 bool_info rfl .u64 .u64 n (by omega) (by omega) w
/-- The row of what was met. -/
def BRow (w : World) (g T met : Nat) : Prop := ∀ j, j < T → w.cell? ⟨g, j, none⟩ = some (.bool (met.testBit j)) ∧ w.frozen? ⟨g, j, none⟩ = false
theorem BRow.new (w : World) (T : Nat) : BRow (w.alloc (.cells (List.replicate T (Value.bool false)).toArray 4)) w.heap.size T 0 := by
  intro j hj
  have h := heap_alloc_new w (.cells (List.replicate T (Value.bool false)).toArray 4)
  constructor
  · simp only [World.cell?]; rw [h]; simp [hj]
  · simp only [World.frozen?]; rw [h]; simp
theorem BRow.lt {w : World} {g T met j : Nat} (h : BRow w g T met) (hj : j < T) : g < w.heap.size := cell_in (a := ⟨g, j, none⟩) (h j hj).1
theorem BRow.next {w w' : World} {g T met : Nat} (h : BRow w g T met) (hb : Below w.heap.size w w') : BRow w' g T met := fun j hj =>
  ⟨(hb.cell (p := ⟨g, j, none⟩) (h.lt hj)).trans (h j hj).1, (hb.frozen (p := ⟨g, j, none⟩) (h.lt hj)).trans (h j hj).2⟩
theorem BRow.set {w : World} {g T met k : Nat} (h : BRow w g T met) (hk : k < T) : BRow (w.setCell ⟨g, k, none⟩ (.bool true)) g T (met ||| 2 ^ k) := by
  intro j hj
  refine ⟨?_, (World.frozen?_setCell _ _ _ _).trans (h j hj).2⟩
  rw [met_bit]
  by_cases e : k = j
  · subst e
    rw [World.cell?_setCell_same _ _ _ (by rw [(h k hk).1])]
    simp
  · rw [World.cell?_setCell_other _ _ _ _ (by intro e2; injection e2 with _ e3; exact e e3), (h j hj).1]
    simp [e]
theorem pow_small {q j : Nat} (hq : q ≤ 13) (hj : j ≤ 1) : Value.int .u64 (IntKind.u64.wrap ((q : Int) ^ j * (q : Int))) = .int .u64 ((q ^ (j + 1) : Nat) : Int) := by
  have hj2 : j = 0 ∨ j = 1 := by omega
  rcases hj2 with rfl | rfl
  · rw [IntKind.wrap_u64]; simp; omega
  · have h := Nat.mul_le_mul hq hq
    have e : (q : Int) ^ 1 * (q : Int) = ((q * q : Nat) : Int) := by rw [Int.pow_succ, Int.pow_zero, Int.one_mul]; rfl
    rw [e, IntKind.wrap_u64, Nat.pow_two]
    congr 1
    omega
theorem mes64c {k N : Nat} (h : k + 1 < N) (h2 : k < 256) : N - (intOf (.int .i64 (wrap64 ((k : Int) + 1 + 1)))).toNat < N - (intOf (.int .i64 ((k + 1 : Nat) : Int))).toNat := by
  rw [IntWalk.wrap64_in _ (by omega)]
  show N - ((k : Int) + 1 + 1).toNat < N - (((k + 1 : Nat) : Int)).toNat
  omega
theorem stp64b {k : Nat} (h : k < 256) : Value.int .i64 (wrap64 ((k : Int) + 1 + 1)) = .int .i64 ((k + 1 + 1 : Nat) : Int) := by rw [IntWalk.wrap64_in _ (by omega)]; rfl
/-- A tape's box as it was made. -/
structure ZBh (w : World) (g : Nat) : Prop where
  h : w.heap[g]? = some (.cells #[.slice none 0 0, .string ⟨#[]⟩, .int .i64 0] 30 (0, 0))
theorem ZBh.x {w : World} {g : Nat} (h : ZBh w g) : ZBx w g := by
  constructor <;> simp [World.cell?, World.frozen?, h.h]
theorem ZBh.up {w w' : World} {g : Nat} (h : ZBh w g) (hb : Below w.heap.size w w') : ZBh w' g :=
  ⟨(hb.block g (Array.getElem?_eq_some_iff.1 h.h).1).trans h.h⟩
theorem blw_alloc {w w' : World} (h : Below w.heap.size w w') (o : Obj) : Below w.heap.size w (w'.alloc o) := h.alloc h.size o
theorem ZBh.upd {w w' : World} {g : Nat} (h : ZBh w g) (hb : Below w.heap.size w w') : ZBh w' g := h.up hb
theorem ZBh.new1 (w : World) : ZBh (w.alloc (.cells #[.slice none 0 0, .string ⟨#[]⟩, .int .i64 0] 30)) w.heap.size := ⟨heap_alloc_new w _⟩
theorem ZBh.new2 (w : World) (o : Obj) : ZBh ((w.alloc o).alloc (.cells #[.slice none 0 0, .string ⟨#[]⟩, .int .i64 0] 30)) (w.heap.size + 1) := by
  have h := ZBh.new1 (w.alloc o)
  rw [World.size_alloc] at h
  exact h
theorem ZBh.far {w : World} {g k : Nat} {A : Option Addr} {L : List ByteArray} {x y t : Value} (h : ZBh w g) (hs : SLs w k A L) (hL : 3 < L.length) :
    SLs (((w.setCell ⟨g, 0, none⟩ x).setCell ⟨g, 1, none⟩ y).setCell ⟨g, 2, none⟩ t) k A L := by
  refine SLs.farZ hs (fun a ha e => ?_)
  obtain ⟨ad, e2, _, hc⟩ := hs (by intro e3; rw [e3] at hL; simp at hL)
  rw [ha] at e2
  cases e2
  have h3 := hc 3 hL
  have hbk : (a.add 3).block = g := by rw [e]; rfl
  have hof : (a.add 3).off = a.off + 3 := rfl
  simp only [World.cell?, hbk, hof, h.h] at h3
  simp at h3
theorem sls_two1 (W : World) (o : Obj) (T : TypeId) (x y : ByteArray) : SLs ((W.alloc o).alloc (.cells #[.string x, .string y] T)) ((W.alloc o).alloc (.cells #[.string x, .string y] T)).heap.size (some ⟨W.heap.size + 1, 0, none⟩) [x, y] := by
  have h := sls_two (W.alloc o) T x y
  rw [World.size_alloc W o] at h
  exact h
theorem shr_at {q a : Nat} {cs : List Nat} (h : a < 4) : (shrL q 4 cs).getD a ByteArray.empty = B (valL q (a + 1) cs) := by
  unfold shrL
  rw [sgetD_lt (by simp; exact h), List.getElem_map, List.getElem_range]
theorem r01_SmallS (n : Nat) (w : World) (hn : n < 18446744073709551616) : Calls Tryz.prog 10 #[.string (B n)] w fun e w' => e = .returned (.tuple #[.int .u64 (n : Nat), .bool true]) ∧ w = w' := by
  have := r01_Small (B n) w
  rw [natSmall_B hn] at this
  exact this
theorem mesC {c T : Nat} (h : c < T) (hT : T ≤ 169) : T - (intOf (.int .u64 (IntKind.u64.wrap ((c : Int) + 1)))).toNat < T - (intOf (.int .u64 (c : Int))).toNat := by
  rw [IntKind.wrap_u64]
  show T - (((c : Int) + 1) % 18446744073709551616).toNat < T - ((c : Int)).toNat
  omega
theorem zbel {w w5 : World} {g : Nat} {x y t : Value} (h : Below w.heap.size w w5) (hg : w.heap.size ≤ g) : Below w.heap.size w (((w5.setCell ⟨g, 0, none⟩ x).setCell ⟨g, 1, none⟩ y).setCell ⟨g, 2, none⟩ t) :=
  ((h.setCell (p := ⟨g, 0, none⟩) hg x).setCell (p := ⟨g, 1, none⟩) hg y).setCell (p := ⟨g, 2, none⟩) hg t
theorem law19_Hides (k sc u : Nat) (w : World) (hk : k < 256) (hsc : sc < 256) (hu : u < 256) (hT : Tab w) (hT10 : Tab10 w) :
    Calls Tryz.prog 3 #[.int .u8 (k : Int), .int .u8 (sc : Int), .int .u8 (u : Int)] w fun e w' => e = .returned (.bool true) ∧ Below w.heap.size w w' := by
  have KA := Lib.hid (fun wq (h1 : Below w.heap.size w wq) => law19_awake wq (hT.below h1) (hT10.below h1))
  have KSP := Lib.hid (fun (Q S need count : Nat) (vals : List ByteArray) (A : Option Addr) (n c : Nat) (seed : ByteArray) (z : Int) wq (h1 : Below w.heap.size w wq) a1 a2 a3 a4 a5 a6 a7 a8 a9 a10 a11 a12 => shamir_Split_ok Q S need count vals A n c seed z wq a1 a2 a3 a4 a5 a6 a7 a8 a9 a10 a11 (hT10.below h1) (hT.below h1) a12)
  obtain ⟨q, hq⟩ : ∃ q, q = [5, 7, 11, 13].getD (k % 4) 0 := ⟨_, rfl⟩
  obtain ⟨N, hN⟩ : ∃ N, N = 2 + k / 4 % 2 := ⟨_, rfl⟩
  have hk4 : k % 4 < 4 := Nat.mod_lt _ (by decide)
  have hqm : q ∈ [5, 7, 11, 13] := by
    rw [hq]
    have : k % 4 = 0 ∨ k % 4 = 1 ∨ k % 4 = 2 ∨ k % 4 = 3 := by omega
    rcases this with h | h | h | h <;> rw [h] <;> decide
  have hqv : q = 5 ∨ q = 7 ∨ q = 11 ∨ q = 13 := by simpa using hqm
  have hNv : N = 2 ∨ N = 3 := by omega
  have hHB := Lib.hid (Below.refl w.heap.size w)
  clear hT hT10
  go_enter Tryz.func3, Tryz.ntmps3
  go_upto_region 4 with fail
  have hsl : ([Value.int .u64 5, Value.int .u64 7, Value.int .u64 11, Value.int .u64 13] : List Value)[k % 4]'hk4 = Value.int .u64 (q : Int) := by
    have : k % 4 = 0 ∨ k % 4 = 1 ∨ k % 4 = 2 ∨ k % 4 = 3 := by omega
    rcases this with h | h | h | h <;> (rw [hq]; simp only [h]; rfl)
  have hNi : (2 : Int) + (k : Int) / 4 % 2 = (N : Int) := by omega
  obtain ⟨b, hb⟩ : ∃ b, b = (decide (N = 3) && decide (7 < q)) := ⟨_, rfl⟩
  go_cut [8, 9, 41] (fun x y t wx => x = .int .u64 (q : Int) ∧ y = .int .i64 (N : Int) ∧ t = .bool b ∧ Below w.heap.size w wx)
  case first =>
    rw [hsl, hNi]
    clear hsl hNi hq hN
    rcases hNv with rfl | rfl
    · have hb0 : b = false := by rw [hb]; rfl
      subst hb0
      clear hb hqm
      go_wp2_with fail
      go_meet
      exact ⟨rfl, rfl, rfl, hHB.out.alloc (Nat.le_refl _) _⟩
    · rcases hqv with rfl | rfl | rfl | rfl <;>
      · first | (have hb0 : b = false := hb; clear hb; subst hb0) | (have hb0 : b = true := hb; clear hb; subst hb0)
        clear hqm
        go_wp2_with fail
        go_meet
        exact ⟨rfl, rfl, rfl, hHB.out.alloc (Nat.le_refl _) _⟩
  case rest =>
  obtain ⟨rfl, rfl, rfl, hcut⟩ := hcut
  have HB := Lib.hid hcut
  clear hcut hsl hNi
  cases b
  case true =>
    clear hb hqv hNv hqm hq hN hk4
    go_wp2_with (first | (go_at_call 6; (with_reducible refine (KA.out _ HB.out).mono ?_); rintro e w2 ⟨rfl, hb2⟩; have HB2 := Lib.hid (below2 HB.out hb2); clear hb2))
    go_ret
    exact ⟨rfl, HB2.out⟩
  case false =>
  have HBF := Lib.hid hb
  have HQV := Lib.hid hqv
  have HNV := Lib.hid hNv
  have HQM := Lib.hid hqm
  clear hb hqm hq hN hk4
  have hq0 : (q : Int) ≠ 0 := by omega
  clear hqv hNv
  have KN := Lib.hid (fun (y : Int) (s : Nat) w (hy : y = (s : Int)) (h : s < 1000) => law19_num y s w hy (by omega))
  obtain ⟨S, hS⟩ : ∃ S, S = sc % q := ⟨_, rfl⟩
  obtain ⟨a, ha⟩ : ∃ a, a = u % 4 := ⟨_, rfl⟩
  obtain ⟨b, hb⟩ : ∃ b, b = (a + 1 + u / 4 % 3) % 4 := ⟨_, rfl⟩
  have HS := Lib.hid (show S < q ∧ S < 1000 ∧ S = sc % q by
    have := HQV.out
    have h1 : sc % q < q := Nat.mod_lt _ (by omega)
    exact ⟨hS ▸ h1, by omega, hS⟩)
  have KNS := Lib.hid (fun w => law19_num ((sc : Int) % (q : Int)) S w (by rw [hS]; rfl) (by have := HS.out; omega))
  have HAB := Lib.hid (show a < 4 ∧ b < 4 ∧ a ≠ b by
    obtain ⟨x, hx, hx3⟩ : ∃ x, x = u / 4 % 3 ∧ x < 3 := ⟨_, rfl, Nat.mod_lt _ (by decide)⟩
    rw [← hx] at hb
    clear hx
    omega)
  have ea : (u : Int) % 4 = (a : Int) := by omega
  have eb1 : ((a : Int) + 1 + (u : Int) / 4 % 3) % 4 = (b : Int) := by rw [hb]; rfl
  have eb2 : ((a : Int) + 1 + (u : Int) / 4 % 3).tmod 4 = (b : Int) := by rw [Int.tmod_eq_emod_of_nonneg (by omega)]; exact eb1
  clear ha hb hS
  go_upto_region 8 with (first | (go_at_call 7; (with_reducible refine (KNS.out _).mono ?_); rintro e w2 ⟨rfl, hb2⟩; have HB2 := Lib.hid (below2 HB.out hb2); clear hb2))
  go_cut [10, 11, 12] (fun x y t wx => x = .string (B S) ∧ y = .int .i64 (a : Int) ∧ t = .int .i64 (b : Int) ∧ Below w.heap.size w wx)
  case first =>
    rw [ea]
    go_wp2_with fail
    go_meet
    exact ⟨rfl, rfl, rfl, HB2.out⟩
  case rest =>
  obtain ⟨rfl, rfl, rfl, hcut⟩ := hcut
  have HC := Lib.hid hcut
  clear hcut ea eb1 eb2 HB hk hsc hu
  go_wp2_with fail
  go_loopw [13, 14] (fun t i wr => ∃ j : Nat, i = .int .i64 ((j + 1 : Nat) : Int) ∧ j + 1 ≤ N ∧ t = .int .u64 ((q ^ j : Nat) : Int) ∧ Below w.heap.size w wr) (fun _ i _ => N - (intOf i).toNat)
  case atStart => exact ⟨0, rfl, by have := HNV.out; omega, rfl, HC.out⟩
  case round =>
    obtain ⟨j, rfl, hj, rfl, hbel⟩ := hrel
    have HBL := Lib.hid hbel
    clear hbel
    by_cases hlt : j + 1 < N
    · have p1 : decide (j + 1 < N) = true := decide_eq_true hlt
      have p2 : decide ((j : Int) + 1 < (N : Int)) = true := decide_eq_true (by omega)
      go_wp2_with fail
      refine ⟨⟨j + 1, stp64b (by have := HNV.out; omega), by omega, pow_small (by have := HQV.out; omega) (by have := HNV.out; omega), HBL.out⟩, mes64c hlt (by have := HNV.out; omega)⟩
    · have p1 : decide (j + 1 < N) = false := decide_eq_false hlt
      obtain ⟨M, hM⟩ : ∃ M, j + 1 = M := ⟨_, rfl⟩
      have p2 : decide ((M : Int) < (N : Int)) = false := decide_eq_false (by omega)
      have p3 : decide (M < N) = false := decide_eq_false (by omega)
      obtain ⟨T, hT⟩ : ∃ T, q ^ j = T := ⟨_, rfl⟩
      rw [hT, hM]
      have hj1 : (N = 2 ∧ T = q) ∨ (N = 3 ∧ T = q * q ∧ q ≤ 7) := by
        rcases HNV.out with h | h
        · have : j = 1 := by omega
          exact .inl ⟨h, by rw [← hT, this, Nat.pow_one]⟩
        · have h2 : j = 2 := by omega
          have h7 : ¬ 7 < q := fun h7 => by have := HBF.out; rw [h] at this; simp [h7] at this
          exact .inr ⟨h, by rw [← hT, h2, Nat.pow_two], by omega⟩
      have HTT := Lib.hid hj1
      have hTq : T ≤ 169 := by
        rcases hj1 with ⟨_, h⟩ | ⟨_, h, h7⟩
        · have := HQV.out; omega
        · rw [h]; exact Nat.le_trans (Nat.mul_le_mul h7 h7) (by decide)
      have HTQ := Lib.hid hTq
      have hstart : hidL q S N a b T (T - 0) 0 0 = true := by
        rcases hj1 with ⟨h1, h2⟩ | ⟨h1, h2, h7⟩
        · rw [h1, h2]; exact hid_two HQM.out HS.out.1 HAB.out.1 HAB.out.2.1
        · rw [h1, h2]; exact hid_three HQM.out h7 HS.out.1 HAB.out.1 HAB.out.2.1 HAB.out.2.2
      have HST := Lib.hid hstart
      have hmk := make_bools T (by omega)
      clear hT hj1 hTq hstart hlt hj hM p1
      go_wp2_with fail
      have HBR := Lib.hid (BRow.new wr T)
      obtain ⟨G, hG⟩ : ∃ G, G = wr.heap.size := ⟨_, rfl⟩
      have HGE := Lib.hid (show w.heap.size ≤ G by rw [hG]; exact HBL.out.size)
      have HB0 := Lib.hid (HBL.out.alloc HBL.out.size (.cells (List.replicate T (Value.bool false)).toArray 4))
      rw [← hG] at HBR ⊢
      clear hG hmk p2 p3
      rename World => wl
      go_loopw [16] (fun cv wr => ∃ (c met : Nat), cv = .int .u64 (c : Int) ∧ c ≤ T ∧ BRow wr G T met ∧ hidL q S N a b T (T - c) c met = true ∧ Below w.heap.size w wr) (fun cv _ => T - (intOf cv).toNat)
      case atStart => exact ⟨0, 0, rfl, Nat.zero_le _, HBR.out, HST.out, HB0.out⟩
      case round =>
        obtain ⟨c, met, rfl, hc, hrow, hl, hbel⟩ := hrel
        have HR := Lib.hid hrow
        have HBE := Lib.hid hbel
        clear hrow hbel HB0 HBR HST
        by_cases hlt : c < T
        · have q1 : decide ((c : Int) < (T : Int)) = true := decide_eq_true (by omega)
          have q2 : decide (c < T) = true := decide_eq_true hlt
          rw [show T - c = (T - c - 1) + 1 by omega] at hl
          have HL := Lib.hid (hidL_step hl)
          have HLT := Lib.hid hlt
          clear hl hlt hc
          obtain ⟨x, hx⟩ : ∃ x, x = c % q := ⟨_, rfl⟩
          obtain ⟨y, hy⟩ : ∃ y, y = c / q := ⟨_, rfl⟩
          have hxy : x < q ∧ x < 1000 ∧ y < 1000 ∧ (N = 3 → y < q) := by
            have h1 := HQV.out
            have h2 : c % q < q := Nat.mod_lt _ (by omega)
            have h3 : c / q ≤ c := Nat.div_le_self _ _
            have h4 := HTQ.out
            have h5 := HLT.out
            refine ⟨by omega, by omega, by omega, fun h => ?_⟩
            rcases HTT.out with ⟨h6, _⟩ | ⟨_, h6, _⟩
            · omega
            · rw [hy]; exact Nat.div_lt_of_lt_mul (by omega)
          have HXY := Lib.hid hxy
          have ex1 : (c : Int) % (q : Int) = (x : Int) := by rw [hx]; rfl
          have ex2 : (c : Int).tmod (q : Int) = (x : Int) := by rw [Int.tmod_eq_emod_of_nonneg (by omega)]; exact ex1
          have ey1 : (c : Int) / (q : Int) = (y : Int) := by rw [hy]; rfl
          have ey2 : (c : Int).tdiv (q : Int) = (y : Int) := by rw [Int.tdiv_eq_ediv_of_nonneg (by omega)]; exact ey1
          have HXE := Lib.hid (And.intro hx hy)
          have KSQ := Lib.hid (fun (A : Option Addr) (c6 : Nat) wq (h1 : Below w.heap.size w wq) (h2 : SLs wq wq.heap.size A [B x, B y]) => (show Calls Tryz.prog 8 #[.string (B q), .string (B S), .int .i64 N, .int .i64 4, .agg #[.slice A 2 c6, .string ⟨#[]⟩, .int .i64 0]] wq fun e w' => (∃ A' c' At nt ct sdt zt, e = .returned (.tuple #[.slice A' 4 c', .agg #[.slice At nt ct, .string sdt, .int .i64 zt], .int .i64 0]) ∧ SLs w' w'.heap.size A' (shrL q 4 (S :: coinsL [B x, B y] ⟨#[]⟩ q 0 (N - 1)))) ∧ Below wq.heap.size wq w' from KSP.out q S N 4 [B x, B y] A 2 c6 ⟨#[]⟩ 0 wq h1 (isE_four HQM.out) HS.out.1 (by have := HNV.out; omega) (by have := HNV.out; omega) (by decide) (by have := HQV.out; omega) rfl (by decide) h2 (good_two HXY.out.2.1 HXY.out.2.2.1 (by decide) (by decide)) (by decide) (by
            intro i hi
            have h3 : i = 0 ∨ (i = 1 ∧ N = 3) := by have := HNV.out; omega
            rcases h3 with rfl | ⟨rfl, hN3⟩
            · show (belowS [B x, B y] ⟨#[]⟩ 0 q).1 = 0
              rw [draw_two0 HXY.out.2.1 HXY.out.2.2.1 HXY.out.1]
            · show (belowS [B x, B y] ⟨#[]⟩ 1 q).1 = 0
              rw [draw_two1 HXY.out.2.1 HXY.out.2.2.1 (HXY.out.2.2.2 hN3)])))
          have KNQ := Lib.hid (fun w => law19_num (q : Int) q w rfl (by have := HQV.out; omega))
          have KNX := Lib.hid (fun w => law19_num (x : Int) x w rfl (by have := HXY.out; omega))
          have KNY := Lib.hid (fun w => law19_num (y : Int) y w rfl (by have := HXY.out; omega))
          have hq1 : q ≠ 0 := by have := HQV.out; omega
          have hq2 : ((q : Int) == 0) = false := by rw [beq_eq_false_iff_ne]; omega
          have wx1 : IntKind.u64.wrap (x : Int) = (x : Int) := by rw [IntKind.wrap_u64]; have := HXY.out; omega
          have wy1 : IntKind.u64.wrap (y : Int) = (y : Int) := by rw [IntKind.wrap_u64]; have := HXY.out; omega
          clear hx hy hxy
          go_upto_region 18 with fail
          go_cut [17, 19] (fun l e wx => e = .int .i64 0 ∧ ∃ A' c', l = .slice A' 4 c' ∧ SLs wx wx.heap.size A' (shrL q 4 (S :: coinsL [B x, B y] ⟨#[]⟩ q 0 (N - 1))) ∧ Below wr.heap.size wr wx)
          case first =>
            have HW0 := Lib.hid (Below.refl wr.heap.size wr)
            go_region_held3 (fun w' => True) (first | trivial | go_keep) (first
              | (go_at_call 7; (with_reducible refine (KNQ.out _).mono ?_); rintro e w1 ⟨rfl, hb1⟩
                 have HB1 : Hid (Below wr.heap.size wr w1) := Lib.hid (below2 (by repeat (first | with_reducible exact HW0.out | with_reducible refine Below.drew ?_ | with_reducible refine blw_alloc ?_ _)) hb1)
                 try (have NN := Lib.hid (ZBh.upd NN.out hb1))
                 try (have NN := Lib.hid (show ZBh w1 wr.heap.size from (ZBh.new1 wr.drew).up hb1))
                 clear hb1)
              | (go_at_call 7; (with_reducible refine (KNX.out _).mono ?_); rintro e w2 ⟨rfl, hb2⟩
                 have HB2 : Hid (Below wr.heap.size wr w2) := Lib.hid (below2 (by repeat (first | with_reducible exact HB1.out | with_reducible refine Below.drew ?_ | with_reducible refine blw_alloc ?_ _)) hb2)
                 try (have NN := Lib.hid (ZBh.upd NN.out hb2))
                 try (have NN := Lib.hid ((ZBh.new1 w1).up hb2))
                 clear hb2)
              | (go_at_call 7; (with_reducible refine (KNY.out _).mono ?_); rintro e w3 ⟨rfl, hb3⟩
                 have HB3 : Hid (Below wr.heap.size wr w3) := Lib.hid (below2 (by repeat (first | with_reducible exact HB2.out | with_reducible refine Below.drew ?_ | with_reducible refine blw_alloc ?_ _)) hb3)
                 try (have NN := Lib.hid (ZBh.upd NN.out hb3))
                 try (have NN := Lib.hid ((ZBh.new1 w2).up hb3))
                 clear hb3)
              | (go_at_call 9; (with_reducible refine (coins_Values [B x, B y] _ 2 _ _ rfl (by decide) ?_).mono ?_)
                 · first
                     | exact sls_two _ _ _ _
                     | exact (sls_two _ _ _ _).to ((Below.refl _ _).alloc (Nat.le_refl _) _)
                     | exact sls_two1 _ _ _ _ _
                 rintro e w4 ⟨⟨A6, c6, rfl, hs6⟩, hb4⟩
                 have HB4 : Hid (Below wr.heap.size wr w4) := Lib.hid (below2 (by repeat (first | with_reducible exact HB3.out | with_reducible refine Below.drew ?_ | with_reducible refine blw_alloc ?_ _)) hb4)
                 have HS6 := Lib.hid hs6
                 try (have NN := Lib.hid ((ZBh.up NN.out ((Below.refl _ _).alloc (Nat.le_refl _) (.cells #[.string (B x), .string (B y)] 25))).up hb4))
                 try (have NN := Lib.hid (((ZBh.new1 w3).up ((Below.refl _ _).alloc (Nat.le_refl _) (.cells #[.string (B x), .string (B y)] 25))).up hb4))
                 try (have NN := Lib.hid ((ZBh.new2 w3 (.cells #[.string (B x), .string (B y)] 25)).up hb4))
                 clear hb4 hs6)
              | (go_at_call 8; (with_reducible refine (KSQ.out A6 c6 _ (below2 HBE.out (by repeat (first | with_reducible exact HB4.out | with_reducible refine Below.drew ?_ | with_reducible refine blw_alloc ?_ _))) (by first | exact HS6.out | exact HS6.out.to ((Below.refl _ _).alloc (Nat.le_refl _) _))).mono ?_)
                 rintro e w5 ⟨⟨A7, c7, At, nt, ct, sdt, zt, rfl, hs7⟩, hb5⟩
                 have HB5 : Hid (Below wr.heap.size wr w5) := Lib.hid (below2 (by repeat (first | with_reducible exact HB4.out | with_reducible refine Below.drew ?_ | with_reducible refine blw_alloc ?_ _)) hb5)
                 have HS7 := Lib.hid hs7
                 try (have NN := Lib.hid (ZBh.upd NN.out hb5))
                 try (have NN := Lib.hid ((ZBh.new1 w4).up hb5))
                 try (have HZX := ZBh.x NN.out; obtain ⟨N0, N1, N2, F0, F1, F2⟩ := HZX)
                 clear hb5 hs7))
            all_goals
              go_wp2_with fail
              go_meet
              refine ⟨rfl, A7, c7, rfl, ?_, ?_⟩
              · first
                  | exact HS7.out.to ((Below.refl _ _).alloc (Nat.le_refl _) _)
                  | exact SLs.drew (HS7.out.to ((Below.refl _ _).alloc (Nat.le_refl _) _))
                  | exact (ZBh.far NN.out HS7.out (by unfold shrL; simp)).more (by simp)
                  | exact (SLs.drew (ZBh.far NN.out HS7.out (by unfold shrL; simp))).more (by simp [World.drew])
              · repeat (first | with_reducible exact HB5.out | with_reducible refine Below.drew ?_ | with_reducible refine blw_alloc ?_ _ | exact zbel HB5.out (by have := HB1.out.size; have := HB2.out.size; have := HB3.out.size; have := HB4.out.size; omega))
          case rest =>
          obtain ⟨rfl, A7, c7, rfl, hs7, hb7⟩ := hcut
          have HS7 := Lib.hid hs7
          have HB7 := Lib.hid hb7
          have HR7 := Lib.hid (HR.out.next hb7)
          obtain ⟨X, hX⟩ : ∃ X, X = valL q (a + 1) (S :: coinsL [B x, B y] ⟨#[]⟩ q 0 (N - 1)) := ⟨_, rfl⟩
          obtain ⟨Y, hY⟩ : ∃ Y, Y = valL q (b + 1) (S :: coinsL [B x, B y] ⟨#[]⟩ q 0 (N - 1)) := ⟨_, rfl⟩
          have hshl : (shrL q 4 (S :: coinsL [B x, B y] ⟨#[]⟩ q 0 (N - 1))).length = 4 := by unfold shrL; simp
          obtain ⟨ad, rfl, hca⟩ := HS7.out.at_ (k := a) (by rw [hshl]; exact HAB.out.1)
          obtain ⟨ad', e', hcb⟩ := HS7.out.at_ (k := b) (by rw [hshl]; exact HAB.out.2.1)
          cases e'
          rw [shr_at HAB.out.1, ← hX] at hca
          rw [shr_at HAB.out.2.1, ← hY] at hcb
          have hXq : X < q := by rw [hX]; exact valL_lt (by have := HQV.out; omega) _
          have hYq : Y < q := by rw [hY]; exact valL_lt (by have := HQV.out; omega) _
          obtain ⟨F, hF⟩ : ∃ F, F = hidF q S N a b c := ⟨_, rfl⟩
          have HL2 := HL.out
          rw [← hF] at HL2
          have hFv : (N = 3 ∧ F = X + q * Y) ∨ (N ≠ 3 ∧ F = X) := by
            rw [hF, hX, hY]
            unfold hidF
            rcases HTT.out with ⟨h2, _⟩ | ⟨h3, _, _⟩
            · right
              refine ⟨by omega, ?_⟩
              rw [h2, if_neg (by decide), coins_two1 HXY.out.2.1 HXY.out.2.2.1 HXY.out.1, HXE.out.1]
            · left
              refine ⟨h3, ?_⟩
              rw [h3, if_pos rfl, coins_two2 HXY.out.2.1 HXY.out.2.2.1 HXY.out.1 (HXY.out.2.2.2 h3), HXE.out.1, HXE.out.2]
          have HFV := Lib.hid hFv
          have HLL := Lib.hid HL2
          have HXQ := Lib.hid (And.intro hXq hYq)
          have hrF := HR7.out F HL2.1
          rw [HL2.2.1] at hrF
          have KSX := Lib.hid (fun w => r01_SmallS X w (by have := HQV.out; omega))
          have KSY := Lib.hid (fun w => r01_SmallS Y w (by have := HQV.out; omega))
          have i1 : (a : Int) < 4 := by have := HAB.out; omega
          have i2 : (b : Int) < 4 := by have := HAB.out; omega
          have i3 : (F : Int) < (T : Int) := by have := HL2.1; omega
          have i4 : F < T := HL2.1
          have i5 : a < 4 := HAB.out.1
          have i6 : b < 4 := HAB.out.2.1
          have i7 : decide ((T : Int) ≤ (F : Int)) = false := decide_eq_false (by omega)
          have i8 : decide (T ≤ F) = false := decide_eq_false (by omega)
          have hcT : Value.int .u64 (IntKind.u64.wrap ((c : Int) + 1)) = .int .u64 ((c + 1 : Nat) : Int) := by rw [IntKind.wrap_u64]; have := HTQ.out; have := HLT.out; congr 1; omega
          have HCT := Lib.hid hcT
          clear hX hY hF hs7 hb7 hshl hXq hYq hFv hcT HL2 hq0 hq1 hq2 wx1 wy1 ex1 ex2 ey1 ey2
          by_cases hN3 : N = 3
          · have hFe : F = X + q * Y := by rcases HFV.out with h | h; exact h.2; exact absurd hN3 h.1
            have n3 : ((N : Int) == 3) = true := by rw [hN3]; rfl
            have m1 : IntKind.u64.wrap ((X : Int) + (q : Int) * (Y : Int)) = (F : Int) := by
              rw [show (X : Int) + (q : Int) * (Y : Int) = (F : Int) by rw [hFe]; rfl, IntKind.wrap_u64]
              have := HTQ.out
              have := HLL.out.1
              omega
            have mA : IntKind.u64.wrap ((X : Int) + IntKind.u64.wrap ((q : Int) * (Y : Int))) = (F : Int) := by
              rw [← m1]
              simp only [IntKind.wrap_u64]
              omega
            have n4 : ((N : Int) = 3) = True := eq_true (by rw [hN3]; rfl)
            clear hFe hN3
            go_wp2_with (first | (go_at_call 10; (with_reducible refine (KSX.out _).mono ?_); rintro e w8 ⟨rfl, rfl⟩) | (go_at_call 10; (with_reducible refine (KSY.out _).mono ?_); rintro e w9 ⟨rfl, rfl⟩))
            go_roundw
            case rel =>
              refine ⟨c + 1, met ||| 2 ^ F, HCT.out, HLT.out, HR7.out.set HLL.out.1, ?_, ?_⟩
              · rw [show T - (c + 1) = T - c - 1 by omega]; exact HLL.out.2.2
              · exact below2 HBE.out HB7.out |>.setCell (p := ⟨G, F, none⟩) HGE.out _
            case measure => exact mesC HLT.out HTQ.out
          · have hFe : F = X := by rcases HFV.out with h | h; exact absurd h.1 hN3; exact h.2
            have n3 : ((N : Int) == 3) = false := by rw [beq_eq_false_iff_ne]; omega
            subst hFe
            have n4 : ((N : Int) = 3) = False := eq_false (by omega)
            clear hN3
            go_wp2_with (first | (go_at_call 10; (with_reducible refine (KSX.out _).mono ?_); rintro e w8 ⟨rfl, rfl⟩) | (go_at_call 10; (with_reducible refine (KSY.out _).mono ?_); rintro e w9 ⟨rfl, rfl⟩))
            go_roundw
            case rel =>
              refine ⟨c + 1, met ||| 2 ^ F, HCT.out, HLT.out, HR7.out.set HLL.out.1, ?_, ?_⟩
              · rw [show T - (c + 1) = T - c - 1 by omega]; exact HLL.out.2.2
              · exact below2 HBE.out HB7.out |>.setCell (p := ⟨G, F, none⟩) HGE.out _
            case measure => exact mesC HLT.out HTQ.out
        · have q1 : decide ((c : Int) < (T : Int)) = false := decide_eq_false (by omega)
          have q2 : decide (c < T) = false := decide_eq_false hlt
          clear hlt hc hl
          go_wp2_with (first | (go_at_call 6; (with_reducible refine (KA.out _ HBE.out).mono ?_); rintro e w2 ⟨rfl, hb2⟩; have HB2 := Lib.hid (below2 HBE.out hb2); clear hb2))
          go_ret
          exact ⟨rfl, HB2.out⟩

end Go.Proofs.YtapplggboepfaaaGreatDoor
