/- The walks of the reference's package 06 (coins): draw. -/
import Derived.Test.YteifbhmfjchfjaaGreatDoorCB
import Derived.Test.YteifbhmfjchfjaaGreatDoorBZ
import Derived.Test.YteifbhmfjchfjaaGreatDoorPZ
import Derived.Test.YteifbhmfjchfjaaGreatDoorSE
import Derived.Deep.DeepCutAuto
import Derived.Deep.CutBlock
namespace Go.Proofs.YteifbhmfjchfjaaGreatDoor
open Go.RowKit
set_option maxRecDepth 100000
set_option linter.unusedVariables false
set_option maxHeartbeats 4000000

theorem AtB.nextB {w wx wy : World} {A : Option Addr} {n c : Nat} {seed : ByteArray} {z : Int} (h : AtB w wx A n c seed z) (hb : Below (w.heap.size + 2) wx wy) : AtB w wy A n c seed z := by
  have l0 : w.heap.size < w.heap.size + 2 := by omega
  exact ⟨(hb.cell (p := ⟨w.heap.size, 0, none⟩) l0).trans h.t0, (hb.cell (p := ⟨w.heap.size, 1, none⟩) l0).trans h.t1, (hb.cell (p := ⟨w.heap.size, 2, none⟩) l0).trans h.t2, (hb.block _ (by omega)).trans h.r, h.bel.trans (hb.mono (by omega))⟩
/-- The boxes of a draw of the reference: the tape, the result, the next tape with its own row. -/
structure RdAt (w wx : World) (A : Option Addr) (n c : Nat) (seed : ByteArray) (z : Int) (v : Value) (vals : List ByteArray) : Prop where
  a : AtB w wx A n c seed z
  nx : wx.heap[w.heap.size + 2]? = some (.cells #[v, .string seed, .int .i64 (z + 1)] 24 (0, 0))
  own : OwnS wx (w.heap.size + 3) v n vals
theorem RdAt.size {w wx : World} {A : Option Addr} {n c : Nat} {seed : ByteArray} {z : Int} {v : Value} {vals : List ByteArray} (h : RdAt w wx A n c seed z v vals) : w.heap.size + 3 ≤ wx.heap.size := (Array.getElem?_eq_some_iff.1 h.nx).1
theorem RdAt.next {w wx wy : World} {A : Option Addr} {n c : Nat} {seed : ByteArray} {z : Int} {v : Value} {vals : List ByteArray} (h : RdAt w wx A n c seed z v vals) (hb : Below wx.heap.size wx wy) : RdAt w wy A n c seed z v vals :=
  ⟨h.a.next hb, (hb.block _ (Array.getElem?_eq_some_iff.1 h.nx).1).trans h.nx, h.own.kept (B := 0) hb⟩
theorem RdAt.cells {w wx : World} {A : Option Addr} {n c : Nat} {seed : ByteArray} {z : Int} {v : Value} {vals : List ByteArray} (h : RdAt w wx A n c seed z v vals) :
    wx.cell? ⟨w.heap.size, 0, none⟩ = some (.slice A n c) ∧ wx.cell? ⟨w.heap.size, 1, none⟩ = some (.string seed) ∧ wx.cell? ⟨w.heap.size, 2, none⟩ = some (.int .i64 z) ∧
    wx.cell? ⟨w.heap.size + 2, 0, none⟩ = some v ∧ wx.cell? ⟨w.heap.size + 2, 1, none⟩ = some (.string seed) ∧ wx.cell? ⟨w.heap.size + 2, 2, none⟩ = some (.int .i64 (z + 1)) := by
  refine ⟨h.a.t0, h.a.t1, h.a.t2, ?_, ?_, ?_⟩ <;> simp [World.cell?, h.nx]
theorem OwnS.farS {w : World} {base n : Nat} {v u : Value} {ls : List ByteArray} {p : Addr} (h : OwnS w base v n ls) (hp : p.block < base) : OwnS (w.setCell p u) base v n ls := by
  refine ⟨h.1, h.2.1, ?_⟩
  rcases h.2.2 with hn | ⟨g, cap, cur, rfl, h1, hg, rest⟩
  · exact .inl hn
  · exact .inr ⟨g, cap, cur, rfl, h1, (Below.heap_setCell _ _ _ _ (fun e => by rw [e] at h1; omega)).trans hg, rest⟩
theorem RdAt.fin {w wx : World} {A : Option Addr} {n c : Nat} {seed : ByteArray} {z : Int} {v x y t : Value} {vals : List ByteArray} (h : RdAt w wx A n c seed z v vals) :
    ∃ A' c', v = .slice A' n c' ∧ SLs (((wx.setCell ⟨w.heap.size + 1, 0, none⟩ x).setCell ⟨w.heap.size + 1, 1, none⟩ y).setCell ⟨w.heap.size + 1, 2, none⟩ t) (((wx.setCell ⟨w.heap.size + 1, 0, none⟩ x).setCell ⟨w.heap.size + 1, 1, none⟩ y).setCell ⟨w.heap.size + 1, 2, none⟩ t).heap.size A' vals ∧ ∀ a, A' = some a → w.heap.size ≤ a.block := by
  have l1 : w.heap.size + 1 < w.heap.size + 3 := by omega
  have ho := ((h.own.farS (p := ⟨w.heap.size + 1, 0, none⟩) (u := x) l1).farS (p := ⟨w.heap.size + 1, 1, none⟩) (u := y) l1).farS (p := ⟨w.heap.size + 1, 2, none⟩) (u := t) l1
  obtain ⟨A', c', e, hs⟩ := ho.form (by have := h.size; simpa using this)
  refine ⟨A', c', e, hs, fun a ha => ?_⟩
  have := (ho.blockOf a.block (by rw [e, ha]; rfl)).1
  omega
/-- What a draw of the reference hands back; the next tape's row lies at k or above. -/
def drawPostR (k : Nat) (d : Int × Nat) (n : Nat) (seed : ByteArray) (z : Int) (vals : List ByteArray) (e : Ending) (w' : World) : Prop :=
  (d.1 = 0 ∧ ∃ A' c', e = .returned (.tuple #[.string (B d.2), .agg #[.slice A' n c', .string seed, .int .i64 (z + 1)], .int .i64 0]) ∧ SLs w' w'.heap.size A' vals ∧ ∀ a, A' = some a → k ≤ a.block) ∨
  (d.1 ≠ 0 ∧ e = .returned (.tuple #[.string ⟨#[]⟩, .agg #[.slice none 0 0, .string ⟨#[]⟩, .int .i64 0], .int .i64 d.1]))
theorem natCmp_of' {a b : ByteArray} (ha : valid a = true) (hb : valid b = true) : natCmp a b = cmpN (num a) (num b) := by unfold natCmp; rw [ha, hb]; rfl
theorem cell_in'' {W : World} {a : Addr} {v : Value} (h : W.cell? a = some v) : a.block < W.heap.size := World.block_lt_of_cell? W a h
theorem r06_draw (vals : List ByteArray) (A : Option Addr) (n c : Nat) (seed : ByteArray) (z : Int) (m : Nat) (w : World) (hn : vals.length = n) (hm : n ≤ 1000) (h : SLs w w.heap.size A vals) (hg : goodT vals z = true)
    (hm0 : 1 ≤ m) (hm1 : m < 18446744073709551616) (hs : seed.size ≤ 100000) :
    Calls Tryz.prog 162 #[.agg #[.slice A n c, .string seed, .int .i64 z], .string (B m)] w fun e w' => drawPostR w.heap.size (drawS vals seed z m) n seed z vals e w' ∧ Below w.heap.size w w' := by
  obtain ⟨h0, h1, hall⟩ := good_parts hg
  have hz1 : wrap64 (z + 1) = z + 1 := IntWalk.wrap64_in _ (by omega)
  have HA0 := Lib.hid (AtB.start w A n c seed z)
  have HS := Lib.hid h
  have HN := Lib.hid hn
  obtain ⟨W3, hW3⟩ : ∃ W, W = ((w.alloc (.cells #[.slice A n c, .string seed, .int .i64 z] 24)).alloc (.cells #[.slice none 0 0, .string ⟨#[]⟩, .int .i64 0] 24)).alloc (.cells #[.slice none 0 0, .string seed, .int .i64 (z + 1)] 24) := ⟨_, rfl⟩
  have b23 : Below ((w.alloc (.cells #[.slice A n c, .string seed, .int .i64 z] 24)).alloc (.cells #[.slice none 0 0, .string ⟨#[]⟩, .int .i64 0] 24)).heap.size ((w.alloc (.cells #[.slice A n c, .string seed, .int .i64 z] 24)).alloc (.cells #[.slice none 0 0, .string ⟨#[]⟩, .int .i64 0] 24)) W3 := by rw [hW3]; exact (Below.refl _ _).alloc (Nat.le_refl _) _
  have s3 : W3.heap.size = w.heap.size + 3 := by rw [hW3, World.size_alloc, World.size_alloc, World.size_alloc]
  have HA3 := Lib.hid (HA0.out.next b23)
  have HN3 : Hid (W3.heap[w.heap.size + 2]? = some (.cells #[.slice none 0 0, .string seed, .int .i64 (z + 1)] 24 (0, 0))) := Lib.hid (by
    have := heap_alloc_new ((w.alloc (.cells #[.slice A n c, .string seed, .int .i64 z] 24)).alloc (.cells #[.slice none 0 0, .string ⟨#[]⟩, .int .i64 0] 24)) (.cells #[.slice none 0 0, .string seed, .int .i64 (z + 1)] 24)
    rw [World.size_alloc, World.size_alloc] at this
    rw [hW3]
    exact this)
  have HS3 := Lib.hid ((h.below (HA3.out.bel)).more HA3.out.bel.size)
  have HL3 := Lib.hid s3
  have hnn := hn
  clear b23 s3 HA0 h
  subst hW3
  go_enter Tryz.func162, Tryz.ntmps162
  go_upto_region 3 with (at_builtin; refine wpList_append_S rfl (.tmp 17) (.tmp 19) rfl (w.heap.size + 3) (.slice none 0 0) 0 [] rfl (OwnS.nil_ _ _) A n c vals rfl HS3.out hnn (by omega) (by rw [HL3.out]; exact Nat.le_refl _) ?_
                         intro v5 w5 h1' h2' h3'
                         rw [Nat.zero_add, List.nil_append] at h1'
                         have hsz5 : w.heap.size + 3 ≤ w5.heap.size := by have := h2'.size; rw [HL3.out] at this; exact this
                         obtain ⟨A5, c5, rfl, _⟩ := h1'.form hsz5
                         have HO5 := Lib.hid h1'
                         have hb5 := below_grown h2' (Nat.le_refl _) (fun g hg => by cases hg)
                         have HA5 := Lib.hid (HA3.out.next hb5)
                         have HN5 := Lib.hid ((hb5.block (w.heap.size + 2) (by rw [HL3.out]; omega)).trans HN3.out)
                         have x0 : w5.cell? ⟨w.heap.size + 1 + 1, 0, none⟩ = some (.slice none 0 0) := by simp [World.cell?, HN5.out]
                         have y0 : w5.frozen? ⟨w.heap.size + 1 + 1, 0, none⟩ = false := by simp [World.frozen?, HN5.out]
                         have hlt5 : w.heap.size + 2 < w5.heap.size := by omega
                         clear h1' h2' h3' hb5 hsz5)
  have HR0 := Lib.hid (show RdAt w (w5.setCell ⟨w.heap.size + 1 + 1, 0, none⟩ (.slice A5 n c5)) A n c seed z (.slice A5 n c5) vals from
    ⟨HA5.out.nextB ((Below.refl _ _).setCell (p := ⟨w.heap.size + 1 + 1, 0, none⟩) (Nat.le_refl _) _), by
      have hq := HN5.out
      show (w5.setCell ⟨w.heap.size + 2, 0, none⟩ (.slice A5 n c5)).heap[w.heap.size + 2]? = _
      simp [World.setCell, Array.getElem?_modify, hq], HO5.out.farS (p := ⟨w.heap.size + 1 + 1, 0, none⟩) (by show w.heap.size + 2 < _; omega)⟩)
  obtain ⟨W, hW⟩ : ∃ W, W = w5.setCell ⟨w.heap.size + 1 + 1, 0, none⟩ (.slice A5 n c5) := ⟨_, rfl⟩
  rw [← hW] at HR0 ⊢
  clear hW HO5 HA5 HN5 x0 y0 HS3 HL3 HN3 HA3 hnn hlt5
  obtain ⟨t0, t1, t2, x0, x1, x2⟩ := HR0.out.cells
  obtain ⟨r0, r1, r2, g0, g1, g2⟩ := HR0.out.a.r0
  by_cases hz : z < (n : Int)
  · obtain ⟨k, rfl⟩ : ∃ k : Nat, z = (k : Int) := ⟨z.toNat, by omega⟩
    have hk : k < n := by omega
    have hvalid : valid (vals.getD k ByteArray.empty) = true := by
      rw [List.all_eq_true] at hall
      rw [sgetD_lt (by omega)]
      exact hall _ (List.getElem_mem _)
    obtain ⟨ad, rfl, hc⟩ := (HS.out.below HR0.out.a.bel).at_ (k := k) (by rw [hn]; exact hk)
    have hd : drawS vals seed (k : Int) m = if m ≤ num (vals.getD k ByteArray.empty) then (2, 0) else (0, num (vals.getD k ByteArray.empty)) := by
      unfold drawS
      rw [if_pos (by rw [hn]; exact hz)]
      rfl
    have KC := fun wq => r01_Cmp (vals.getD k ByteArray.empty) (B m) wq
    rw [natCmp_of' hvalid (valid_B (Nat.lt_trans hm1 (by decide))), num_B] at KC
    have hBx : vals.getD k ByteArray.empty = B (num (vals.getD k ByteArray.empty)) := (B_num hvalid).symm
    obtain ⟨X, hX⟩ : ∃ X, X = vals.getD k ByteArray.empty := ⟨_, rfl⟩
    rw [← hX] at KC hc hd hBx
    have hneg := cmpN_neg (x := num X) (y := m)
    obtain ⟨y, hy⟩ : ∃ y, y = cmpN (num X) m := ⟨_, rfl⟩
    rw [← hy] at KC hneg
    have KC := Lib.hid KC
    have HBX := Lib.hid hBx
    have k0 : (0 : Int) ≤ (k : Int) := by omega
    have HC := Lib.hid hc
    clear hBx hX hy hvalid
    by_cases hvm : m ≤ num X
    · rw [if_pos hvm] at hd
      have HD := Lib.hid hd
      have y0 : decide (0 ≤ y) = true := decide_eq_true (by
        by_cases h : y < 0
        · have := hneg.1 h; omega
        · omega)
      clear hd hvm hneg hall hg
      go_wp2_with (go_at_call 37; (with_reducible refine (KC.out _).mono ?_); rintro e w7 ⟨rfl, hb7⟩; have HR1 := Lib.hid (HR0.out.next hb7); obtain ⟨r0, r1, r2, g0, g1, g2⟩ := HR1.out.a.r0; clear hb7)
      refine bodyPost_ret (v := .tuple #[.string ⟨#[]⟩, .agg #[.slice none 0 0, .string ⟨#[]⟩, .int .i64 0], .int .i64 2]) (by simp [results, Tryz.results162, go_sem, r0, r1, r2]) rfl ⟨.inr ⟨by rw [HD.out]; decide, by rw [HD.out]⟩, HR1.out.a.bel3⟩
    · rw [if_neg hvm] at hd
      have HD := Lib.hid hd
      have y0 : decide (0 ≤ y) = false := decide_eq_false (by have := hneg.2 (by omega); omega)
      clear hd hvm hneg hall hg
      go_upto_region 6 with (go_at_call 37; (with_reducible refine (KC.out _).mono ?_); rintro e w7 ⟨rfl, hb7⟩; have HR1 := Lib.hid (HR0.out.next hb7); have hc := ((hb7.cell (cell_in'' HC.out)).trans HC.out); obtain ⟨t0, t1, t2, x0, x1, x2⟩ := HR1.out.cells; obtain ⟨r0, r1, r2, g0, g1, g2⟩ := HR1.out.a.r0; clear hb7)
      have hx2 : w.heap.size + 2 = w.heap.size + 1 + 1 := rfl
      rw [hx2] at x0 x1 x2
      clear hx2
      go_region
      all_goals
        go_wp2_with fail
        refine bodyPost_ret (v := .tuple #[.string X, .agg #[.slice A5 n c5, .string seed, .int .i64 ((k : Int) + 1)], .int .i64 0]) (by simp [results, Tryz.results162, go_sem, r0, r1, r2]) rfl ⟨.inl ⟨by rw [HD.out], A5, c5, ?_, ?_⟩, HR1.out.a.bel3.drew⟩
        · rw [HD.out]
          show _ = Ending.returned (.tuple #[.string (B (num X)), .agg #[.slice A5 n c5, .string seed, .int .i64 ((k : Int) + 1)], .int .i64 0])
          rw [← HBX.out]
        · obtain ⟨_, _, e, hsl, hfr⟩ := HR1.out.fin (x := .slice A5 n c5) (y := .string seed) (t := .int .i64 ((k : Int) + 1))
          cases e
          exact ⟨hsl, hfr⟩
  · have z0 : decide (z < (n : Int)) = false := decide_eq_false hz
    by_cases hq : seed.toList.isEmpty = true ∨ z = 2147483647
    · have hd : drawS vals seed z m = (14, 0) := by unfold drawS; rw [if_neg (by rw [hn]; exact hz), if_pos hq]
      have HD := Lib.hid hd
      clear hd hall hg
      by_cases he : seed.toList.isEmpty = true
      · clear hq
        go_wp2_with fail
        refine bodyPost_ret (v := .tuple #[.string ⟨#[]⟩, .agg #[.slice none 0 0, .string ⟨#[]⟩, .int .i64 0], .int .i64 14]) (by simp [results, Tryz.results162, go_sem, r0, r1, r2]) rfl ⟨.inr ⟨by rw [HD.out]; decide, by rw [HD.out]⟩, HR0.out.a.bel3⟩
      · have hz3 : z = 2147483647 := hq.resolve_left he
        subst hz3
        have he : seed.toList.isEmpty = false := by simpa using he
        clear hq
        go_wp2_with fail
        refine bodyPost_ret (v := .tuple #[.string ⟨#[]⟩, .agg #[.slice none 0 0, .string ⟨#[]⟩, .int .i64 0], .int .i64 14]) (by simp [results, Tryz.results162, go_sem, r0, r1, r2]) rfl ⟨.inr ⟨by rw [HD.out]; decide, by rw [HD.out]⟩, HR0.out.a.bel3⟩
    · have he : seed.toList.isEmpty = false := by
        cases hh : seed.toList.isEmpty
        · rfl
        · exact absurd (.inl hh) hq
      have hz3 : ¬ z = 2147483647 := fun e => hq (.inr e)
      have z3 : (z == 2147483647) = false := by rw [beq_eq_false_iff_ne]; exact hz3
      have hd : drawS vals seed z m = match tryF seed z m with | some x => (0, x) | none => (14, 0) := by
        unfold drawS; rw [if_neg (by rw [hn]; exact hz), if_neg hq]; rfl
      have HD := Lib.hid hd
      clear hd hall hg hq
      have hbl : 1 ≤ bitsN m ∧ bitsN m ≤ 64 := ⟨by unfold bitsN; rw [if_neg (by omega)]; omega, bitsN_le (by omega)⟩
      have KB := fun w => r01_Bits (B m) w (valid_B (Nat.lt_trans hm1 (by decide)))
      rw [show natBits (B m) = bitsN m by unfold natBits; rw [valid_B (Nat.lt_trans hm1 (by decide)), num_B]; rfl] at KB
      have KT := fun (a : Nat) w (ha : a < 256) => r06_attempt seed z (a : Int) (bitsN m) w h0 h1 (by omega) (by omega) hs hbl.1 hbl.2
      have KC := fun (X : Nat) (hX : X < lim) w => r01_Cmp (B X) (B m) w
      have KB := Lib.hid KB
      have KT := Lib.hid KT
      have KC := Lib.hid KC
      have HM := Lib.hid hm1
      have z1 : (z == 2147483647) = false := z3
      clear hbl h0 h1 hm0 hm1 hs
      go_wp2_with fail
      clear t0 t1 t2 x0 x1 x2 r0 r1 r2 g0 g1 g2
      go_loopw [8] (fun v wr => ∃ k : Nat, v = .int .i64 k ∧ k ≤ 256 ∧ (∀ j : Nat, j < k → ¬ attN seed z j (bitsN m) < m) ∧ RdAt w wr A n c seed z (.slice A5 n c5) vals) (fun v _ => 256 - (intOf v).toNat)
      case atStart => exact ⟨0, rfl, by decide, fun j h => absurd h (Nat.not_lt_zero _), HR0.out⟩
      case round =>
        clear HR0
        obtain ⟨k, rfl, hk, hno, hr⟩ := hrel
        have HR := Lib.hid hr
        have HNO := Lib.hid hno
        clear hno hr
        by_cases hlt : k < 256
        · have KT1 := Lib.hid (fun w => KT.out k w hlt)
          obtain ⟨X, hX⟩ : ∃ X, X = attN seed z k (bitsN m) := ⟨_, rfl⟩
          rw [← hX] at KT1
          have hXl : X < lim := by rw [hX]; unfold attN; exact Nat.lt_of_lt_of_le (Nat.mod_lt _ (Nat.pow_pos (by decide))) (Nat.le_trans (Nat.pow_le_pow_right (by decide) (bitsN_le (x := m) (k := 64) HM.out)) (by decide))
          have KC1 := fun w => KC.out X hXl w
          rw [natCmp_BB hXl (Nat.lt_trans HM.out (by decide))] at KC1
          have hneg := cmpN_neg (x := X) (y := m)
          obtain ⟨y, hy⟩ : ∃ y, y = cmpN X m := ⟨_, rfl⟩
          rw [← hy] at KC1 hneg
          have KC1 := Lib.hid KC1
          have HX := Lib.hid hX
          have HLT := Lib.hid hlt
          have HW := Lib.hid (show wrap64 ((k : Int) + 1) = (k : Int) + 1 from IntWalk.wrap64_in _ (by omega))
          have k1 : decide ((k : Int) < 256) = true := decide_eq_true (by omega)
          obtain ⟨t0, t1, t2, x0, x1, x2⟩ := HR.out.cells
          clear hX hXl hy hk
          go_wp2_with fail
          go_region_held3 (fun w' => w'.cell? ⟨w.heap.size, 1, none⟩ = some (.string seed) ∧ w'.cell? ⟨w.heap.size, 2, none⟩ = some (.int .i64 z)) (first | go_keep) (first
            | (go_at_call 215; (with_reducible refine (KB.out _).mono ?_); rintro e w5 ⟨rfl, rfl⟩)
            | (go_at_call 214; (with_reducible refine (KT1.out _).mono ?_); rintro e w6 ⟨rfl, hb6⟩; have HR6 : Hid (RdAt w w6 A n c seed z (.slice A5 n c5) vals) := (by first | exact Lib.hid (HR.out.next hb6) | exact Lib.hid ((HR.out.next (Below.refl _ _).drew).next hb6)); obtain ⟨t0, t1, t2, x0, x1, x2⟩ := HR6.out.cells; clear hb6))
          all_goals
            by_cases hxm : X < m
            · have y0 : decide (y < 0) = true := decide_eq_true (hneg.2 hxm)
              have HD2 : Hid (drawS vals seed z m = (0, X)) := Lib.hid (by
                rw [HD.out, find_hit HLT.out HNO.out (by rw [← HX.out]; exact hxm), ← HX.out])
              clear hxm hneg hlt
              go_upto_region 14 with (go_at_call 37; (with_reducible refine (KC1.out _).mono ?_); rintro e w7 ⟨rfl, hb7⟩; have HR7 : Hid (RdAt w w7 A n c seed z (.slice A5 n c5) vals) := (by first | exact Lib.hid (HR6.out.next hb7) | exact Lib.hid ((HR6.out.next (Below.refl _ _).drew).next hb7)); obtain ⟨t0, t1, t2, x0, x1, x2⟩ := HR7.out.cells; obtain ⟨r0, r1, r2, g0, g1, g2⟩ := HR7.out.a.r0; clear hb7)
              have hx2 : w.heap.size + 2 = w.heap.size + 1 + 1 := rfl
              rw [hx2] at x0 x1 x2
              clear hx2
              go_region
              all_goals
                go_wp2_with fail
                refine bodyPost_ret (v := .tuple #[.string (B X), .agg #[.slice A5 n c5, .string seed, .int .i64 (z + 1)], .int .i64 0]) (by simp [results, Tryz.results162, go_sem, r0, r1, r2]) rfl ⟨.inl ⟨by rw [HD2.out], A5, c5, by rw [HD2.out], ?_⟩, HR7.out.a.bel3.drew⟩
                obtain ⟨_, _, e, hsl, hfr⟩ := HR7.out.fin (x := .slice A5 n c5) (y := .string seed) (t := .int .i64 (z + 1))
                cases e
                exact ⟨hsl, hfr⟩
            · have y0 : decide (y < 0) = false := decide_eq_false (fun h => hxm (hneg.1 h))
              have HNX : Hid (¬ attN seed z k (bitsN m) < m) := Lib.hid (by rw [← HX.out]; exact hxm)
              clear hxm hneg hlt
              go_wp2_with (go_at_call 37; (with_reducible refine (KC1.out _).mono ?_); rintro e w7 ⟨rfl, hb7⟩; have HR7 : Hid (RdAt w w7 A n c seed z (.slice A5 n c5) vals) := (by first | exact Lib.hid (HR6.out.next hb7) | exact Lib.hid ((HR6.out.next (Below.refl _ _).drew).next hb7)); clear hb7)
              go_roundw
              case rel => exact ⟨k + 1, by rw [HW.out]; rfl, HLT.out, fun j hj => by
                by_cases e : j = k
                · subst e; exact HNX.out
                · exact HNO.out j (by omega), HR7.out⟩
              case measure => rw [HW.out]; have := HLT.out; show 256 - ((k : Int) + 1).toNat < 256 - (k : Int).toNat; omega
        · obtain rfl : k = 256 := by omega
          have HD2 : Hid (drawS vals seed z m = (14, 0)) := Lib.hid (by rw [HD.out, find_miss HNO.out])
          obtain ⟨r0, r1, r2, g0, g1, g2⟩ := HR.out.a.r0
          clear hlt hk
          go_wp2_with fail
          refine bodyPost_ret (v := .tuple #[.string ⟨#[]⟩, .agg #[.slice none 0 0, .string ⟨#[]⟩, .int .i64 0], .int .i64 14]) (by simp [results, Tryz.results162, go_sem, r0, r1, r2]) rfl ⟨.inr ⟨by rw [HD2.out]; decide, by rw [HD2.out]⟩, HR.out.a.bel3⟩

end Go.Proofs.YteifbhmfjchfjaaGreatDoor
