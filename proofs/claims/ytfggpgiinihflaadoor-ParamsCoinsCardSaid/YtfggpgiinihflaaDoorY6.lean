/- The walks of package coins: a draw from a seed. -/
import Derived.Test.YtfggpgiinihflaaDoorY5
namespace Go.Proofs.YtfggpgiinihflaaDoor
open Go.RowKit
set_option maxRecDepth 100000
set_option linter.unusedVariables false
set_option maxHeartbeats 4000000

theorem AtD.next {w wx wy : World} {gb gs n c : Nat} {A : Option Addr} {seed : ByteArray} {z : Int} {ls : List Value} (h : AtD w wx gb gs A n c seed z ls) (hb : Below wx.heap.size wx wy) : AtD w wy gb gs A n c seed z ls := by
  have lb : gb < wx.heap.size := (Array.getElem?_eq_some_iff.1 h.b).1
  have lr : w.heap.size + 1 < wx.heap.size := (Array.getElem?_eq_some_iff.1 h.r).1
  exact ⟨(hb.cell (p := ⟨w.heap.size, 0, none⟩) (by show w.heap.size < _; omega)).trans h.t0, (hb.cell (p := ⟨w.heap.size, 1, none⟩) (by show w.heap.size < _; omega)).trans h.t1, (hb.cell (p := ⟨w.heap.size, 2, none⟩) (by show w.heap.size < _; omega)).trans h.t2,
    (hb.block _ lr).trans h.r, (hb.block _ lb).trans h.b, (hb.block _ h.lt).trans h.s, h.hb, h.hs, h.ne, h.bel.trans (hb.mono (by have := h.bel.size; omega))⟩
theorem copy_src {w wx : World} {A : Option Addr} {vals : List ByteArray} (hb : Below w.heap.size w wx) (h : SLs w w.heap.size A vals) (h0 : 0 < vals.length) :
    ∃ ad, A = some ad ∧ ∀ j v, (vals.map Value.string)[j]? = some v → wx.cell? (ad.add j) = some v := by
  obtain ⟨ad, rfl, hadb, hall⟩ := h (by intro e; rw [e] at h0; cases h0)
  exact ⟨ad, rfl, src_cells hb hadb hall⟩
/-- 'copy(next.Values, t.Values)'. -/
theorem wpList_copy_strs {w wx : World} {gb gs n c : Nat} {A : Option Addr} {seed : ByteArray} {z : Int} {vals : List ByteArray} {ops : Array Oper} {rest : List Oper} {o : Oper} {a : Act} {Q : Exit → Act → World → Prop} (hgd : o.guard = none) (d s : Operand)
    (ho : o.op = .call { callee := .builtin .copy, args := #[d, s], argTypes := #[22, 22] })
    (hd : a.eval d = .slice (some ⟨gs, 0, none⟩) n n) (hs : a.eval s = .slice A n c) (HX : AtD w wx gb gs A n c seed z (List.replicate n (.string ByteArray.empty))) (hS : SLs w w.heap.size A vals) (hn : vals.length = n)
    (h : ∀ w6, AtD w w6 gb gs A n c seed z (vals.map Value.string) → wpList Tryd.prog ops Q rest (a.put o.dst (goInt n)) w6) : wpList Tryd.prog ops Q (o :: rest) a wx := by
  have hlen : (vals.map Value.string).length = n := by rw [List.length_map, hn]
  rcases Nat.eq_zero_or_pos n with h0 | h0
  · subst h0
    refine wpList_copy_nothing hgd d s _ _ ho 28 Tryd.underlying22 rfl (some ⟨gs, 0, none⟩) A 0 0 0 c hd hs rfl ?_
    have hv : vals = [] := List.length_eq_zero_iff.mp hn
    refine h wx ?_
    rw [hv]
    exact HX
  · obtain ⟨ad, rfl, hc⟩ := copy_src HX.bel hS (by omega)
    refine wpList_copy_own hgd d s _ _ ho 28 Tryd.underlying22 rfl gs 0 n n ad n c hd hs _ 28 HX.s (vals.map Value.string) (by rw [hlen]; exact (Nat.min_self n).symm) hc (by rw [hlen]; simp) (str_ones vals) ?_
    rw [copy_row n _ _ hlen, hlen]
    exact h _ HX.copied
theorem AtD.stored9 {w w6 : World} {gb gs n c : Nat} {A : Option Addr} {seed : ByteArray} {z : Int} {ls : List Value} {x y t : Value} (h : AtD w w6 gb gs A n c seed z ls) :
    (((w6.setCell ⟨w.heap.size + 1, 0, none⟩ x).setCell ⟨w.heap.size + 1, 1, none⟩ y).setCell ⟨w.heap.size + 1, 2, none⟩ t).drew.cell? ⟨gb, 0, none⟩ = some (.slice (some ⟨gs, 0, none⟩) n n) ∧ (((w6.setCell ⟨w.heap.size + 1, 0, none⟩ x).setCell ⟨w.heap.size + 1, 1, none⟩ y).setCell ⟨w.heap.size + 1, 2, none⟩ t).drew.cell? ⟨gb, 1, none⟩ = some (.string seed) ∧ (((w6.setCell ⟨w.heap.size + 1, 0, none⟩ x).setCell ⟨w.heap.size + 1, 1, none⟩ y).setCell ⟨w.heap.size + 1, 2, none⟩ t).drew.cell? ⟨gb, 2, none⟩ = some (.int .i64 (z + 1)) ∧
    (∃ u, (((w6.setCell ⟨w.heap.size + 1, 0, none⟩ x).setCell ⟨w.heap.size + 1, 1, none⟩ y).setCell ⟨w.heap.size + 1, 2, none⟩ t).drew.cell? ⟨w.heap.size + 1, 0, none⟩ = some u) ∧ (∃ u, (((w6.setCell ⟨w.heap.size + 1, 0, none⟩ x).setCell ⟨w.heap.size + 1, 1, none⟩ y).setCell ⟨w.heap.size + 1, 2, none⟩ t).drew.cell? ⟨w.heap.size + 1, 1, none⟩ = some u) ∧ (∃ u, (((w6.setCell ⟨w.heap.size + 1, 0, none⟩ x).setCell ⟨w.heap.size + 1, 1, none⟩ y).setCell ⟨w.heap.size + 1, 2, none⟩ t).drew.cell? ⟨w.heap.size + 1, 2, none⟩ = some u) ∧
    (((w6.setCell ⟨w.heap.size + 1, 0, none⟩ x).setCell ⟨w.heap.size + 1, 1, none⟩ y).setCell ⟨w.heap.size + 1, 2, none⟩ t).drew.frozen? ⟨w.heap.size + 1, 0, none⟩ = false ∧ (((w6.setCell ⟨w.heap.size + 1, 0, none⟩ x).setCell ⟨w.heap.size + 1, 1, none⟩ y).setCell ⟨w.heap.size + 1, 2, none⟩ t).drew.frozen? ⟨w.heap.size + 1, 1, none⟩ = false ∧ (((w6.setCell ⟨w.heap.size + 1, 0, none⟩ x).setCell ⟨w.heap.size + 1, 1, none⟩ y).setCell ⟨w.heap.size + 1, 2, none⟩ t).drew.frozen? ⟨w.heap.size + 1, 2, none⟩ = false := by
  obtain ⟨v0, v1, v2⟩ := h.b0
  obtain ⟨r0, r1, r2, rf⟩ := h.r0
  have hb := h.hb
  have nb : w.heap.size + 1 ≠ gb := by omega
  exact ⟨hop3 nb v0, hop3 nb v1, hop3 nb v2, some3 ⟨_, r0⟩, some3 ⟨_, r1⟩, some3 ⟨_, r2⟩, free3 (rf 0), free3 (rf 1), free3 (rf 2)⟩
theorem find_hit {seed : ByteArray} {z : Int} {m i : Nat} (h : i < 256) (hno : ∀ j : Nat, j < i → ¬ attN seed z j (bitsN m) < m) (hx : attN seed z i (bitsN m) < m) : tryF seed z m = some (attN seed z i (bitsN m)) := by
  unfold tryF
  rw [List.findSome?_eq_some_iff]
  refine ⟨List.range i, i, (List.range' (i + 1) (255 - i)), ?_, by rw [if_pos hx], fun j hj => by rw [if_neg (hno j (List.mem_range.1 hj))]⟩
  rw [List.range_eq_range', List.range_eq_range', ← List.range'_succ, show 255 - i + 1 = 256 - i by omega]
  have := List.range'_append (s := 0) (m := i) (n := 256 - i) (step := 1)
  rw [show 0 + 1 * i = i by omega, show i + (256 - i) = 256 by omega] at this
  exact this.symm
theorem find_miss {seed : ByteArray} {z : Int} {m : Nat} (hno : ∀ j : Nat, j < 256 → ¬ attN seed z j (bitsN m) < m) : tryF seed z m = none := by
  unfold tryF
  rw [List.findSome?_eq_none_iff]
  intro j hj
  rw [if_neg (hno j (List.mem_range.1 hj))]
/-- What a draw from the seed hands back. -/
def seedPost (r : Option Nat) (n : Nat) (seed : ByteArray) (z : Int) (vals : List ByteArray) (e : Ending) (w' : World) : Prop :=
  match r with
  | some x => ∃ g, e = .returned (.tuple #[.string (B x), .agg #[.slice (some ⟨g, 0, none⟩) n n, .string seed, .int .i64 (z + 1)], .int .i64 0]) ∧ SLs w' w'.heap.size (some ⟨g, 0, none⟩) vals
  | none => e = .returned (.tuple #[.string ⟨#[]⟩, .agg #[.slice none 0 0, .string ⟨#[]⟩, .int .i64 0], .int .i64 14])
theorem AtD.bel3 {w w6 : World} {gb gs n c : Nat} {A : Option Addr} {seed : ByteArray} {z : Int} {ls : List Value} {x y t : Value} (h : AtD w w6 gb gs A n c seed z ls) :
    Below w.heap.size w (((w6.setCell ⟨w.heap.size + 1, 0, none⟩ x).setCell ⟨w.heap.size + 1, 1, none⟩ y).setCell ⟨w.heap.size + 1, 2, none⟩ t) := by
  have le : w.heap.size ≤ w.heap.size + 1 := Nat.le_succ _
  exact ((h.bel.setCell (p := ⟨w.heap.size + 1, 0, none⟩) le x).setCell (p := ⟨w.heap.size + 1, 1, none⟩) le y).setCell (p := ⟨w.heap.size + 1, 2, none⟩) le t
theorem draw_seed (vals : List ByteArray) (A : Option Addr) (n c : Nat) (seed : ByteArray) (z : Int) (m : Nat) (w : World) (hn : vals.length = n) (hm : n ≤ 1000) (h : SLs w w.heap.size A vals) (hz : (n : Int) ≤ z) (hz1 : z < 2147483647)
    (he : seed.toList.isEmpty = false) (hm0 : 1 ≤ m) (hm1 : m < 18446744073709551616) (hs : seed.size ≤ 100000) (hT : Tab10 w) :
    Calls Tryd.prog 29 #[.agg #[.slice A n c, .string seed, .int .i64 z], .string (B m)] w fun e w' => seedPost (tryF seed z m) n seed z vals e w' ∧ Below w.heap.size w w' := by
  have hzw : IntKind.i64.wrap (z + 1) = z + 1 := by rw [IntKind.wrap_i64]; omega
  have i1 : ¬ z < (n : Int) := by omega
  have i3 : (z == 2147483647) = false := by rw [beq_eq_false_iff_ne]; omega
  have hmk := make_strs n (by omega)
  have HN := Lib.hid hn
  have HS := Lib.hid h
  have HT := Lib.hid hT
  have HZ := Lib.hid (And.intro hz hz1)
  clear hn h hT hz1
  go_enter Tryd.func29, Tryd.ntmps29
  go_wp2_with fail
  have d0 : ((w.alloc (.cells #[.slice A n c, .string seed, .int .i64 z] 24)).alloc (.cells #[.slice none 0 0, .string ⟨#[]⟩, .int .i64 0] 24)).cell? ⟨w.heap.size, 0, none⟩ = some (.slice A n c) := by simp [go_sem]
  have d1 : ((w.alloc (.cells #[.slice A n c, .string seed, .int .i64 z] 24)).alloc (.cells #[.slice none 0 0, .string ⟨#[]⟩, .int .i64 0] 24)).cell? ⟨w.heap.size, 1, none⟩ = some (.string seed) := by simp [go_sem]
  have d2 : ((w.alloc (.cells #[.slice A n c, .string seed, .int .i64 z] 24)).alloc (.cells #[.slice none 0 0, .string ⟨#[]⟩, .int .i64 0] 24)).cell? ⟨w.heap.size, 2, none⟩ = some (.int .i64 z) := by simp [go_sem]
  go_region_held3 (fun w' => w'.cell? ⟨w.heap.size, 0, none⟩ = some (.slice A n c) ∧ w'.cell? ⟨w.heap.size, 1, none⟩ = some (.string seed) ∧ w'.cell? ⟨w.heap.size, 2, none⟩ = some (.int .i64 z)) (first | go_keep) (first | fail)
  all_goals
    first
      | (refine world_on (fun wx => AtD w wx (w.heap.size + 1 + 1) (w.heap.size + 1 + 1 + 1) A n c seed z (List.replicate n (.string ByteArray.empty))) (atD_A w A n c seed z hzw) ?_
         intro wx hx
         generalize w.heap.size + 1 + 1 + 1 = gs at hx ⊢
         generalize w.heap.size + 1 + 1 = gb at hx ⊢)
      | (refine world_on (fun wx => AtD w wx (w.heap.size + 1 + 1 + 1) (w.heap.size + 1 + 1) A n c seed z (List.replicate n (.string ByteArray.empty))) (atD_B w A n c seed z hzw) ?_
         intro wx hx
         generalize w.heap.size + 1 + 1 + 1 = gb at hx ⊢
         generalize w.heap.size + 1 + 1 = gs at hx ⊢)
    have x0 := hx.t0
    have x2 := hx.t2
    obtain ⟨y0, y1, y2⟩ := hx.b0
    have HX := Lib.hid hx
    clear hx
    have KBT := Lib.hid (fun w => natural_Bits (B m) w)
    have hbb : natBits (B m) = bitsN m := by unfold natBits; rw [valid_B (Nat.lt_trans hm1 (by decide)), num_B]; rfl
    rw [hbb] at KBT
    obtain ⟨bl, hbl⟩ : ∃ bl, bl = bitsN m := ⟨_, rfl⟩
    rw [← hbl] at KBT
    have hbl0 : 1 ≤ bl := by rw [hbl]; unfold bitsN; rw [if_neg (by omega)]; omega
    have hbl1 : bl ≤ 256 := by
      rw [hbl]
      unfold bitsN
      rw [if_neg (by omega)]
      have := (Nat.log2_lt (n := m) (k := 64) (by omega)).2 hm1
      omega
    have HBL := Lib.hid hbl
    clear hbb hbl
    go_wp2_with (first
      | (refine wpList_copy_strs rfl (.tmp 56) (.tmp 58) rfl rfl rfl HX.out HS.out HN.out ?_
         intro w6 hx6
         have z0 := hx6.t0
         have z2 := hx6.t2
         have H6 := Lib.hid hx6
         clear hx6))
    clear d0 d1 d2 x0 x2 y0 y1 y2 z0 z2 hmk
    go_loopw [73] (fun v wr => ∃ i : Nat, v = .int .i64 i ∧ i ≤ 256 ∧ AtD w wr gb gs A n c seed z (vals.map Value.string) ∧ ∀ j, j < i → ¬ attN seed z j (bitsN m) < m) (fun v _ => 256 - (intOf v).toNat)
    case atStart => exact ⟨0, rfl, by decide, H6.out, fun j h => absurd h (by omega)⟩
    case round =>
      clear H6 HX
      obtain ⟨i, rfl, hi, hat, hno⟩ := hrel
      have HA := Lib.hid hat
      have HNO := Lib.hid hno
      clear hat hno
      by_cases hlt : i < 256
      · obtain ⟨x, hx⟩ : ∃ x, x = attN seed z i bl := ⟨_, rfl⟩
        have hxl : x < 2 ^ 64 := by
          rw [hx]
          refine Nat.lt_of_lt_of_le (Nat.mod_lt _ (Nat.pow_pos (by decide))) (Nat.pow_le_pow_right (by decide) ?_)
          rw [HBL.out]
          unfold bitsN
          rw [if_neg (by omega)]
          have := (Nat.log2_lt (n := m) (k := 64) (by omega)).2 hm1
          omega
        have KAT := Lib.hid (fun wq (hT : Tab10 wq) => coins_attempt A n c seed z i bl wq (by omega) (by have := HZ.out.2; omega) (by omega) (by omega) hs hT hbl0 hbl1)
        rw [← hx] at KAT
        have HAD : Hid (AtD w wr.drew gb gs A n c seed z (vals.map Value.string)) := Lib.hid (HA.out.next (Below.refl _ _).drew)
        have HTD : Hid (Tab10 wr.drew) := Lib.hid (HT.out.below HAD.out.bel)
        have t0 := HA.out.t0
        have t1 := HA.out.t1
        have t2 := HA.out.t2
        have KC := Lib.hid (fun w => natural_Cmp (B x) (B m) w)
        rw [natCmp_BB (Nat.lt_trans hxl (by decide)) (Nat.lt_trans hm1 (by decide))] at KC
        have p1 : (i : Int) < 256 := by omega
        have HLT := Lib.hid hlt
        have HXX := Lib.hid hx
        clear hx hxl hlt hi
        by_cases hxm : x < m
        · rw [show cmpN x m = -1 from by unfold cmpN; rw [if_pos hxm]] at KC
          have HXM := Lib.hid hxm
          clear hxm
          go_wp2_with fail
          go_region_held3 (fun w' => w'.cell? ⟨w.heap.size, 0, none⟩ = some (.slice A n c) ∧ w'.cell? ⟨w.heap.size, 1, none⟩ = some (.string seed) ∧ w'.cell? ⟨w.heap.size, 2, none⟩ = some (.int .i64 z)) (first | go_keep) (first | (go_at_call 45; (with_reducible refine (KBT.out _).mono ?_); rintro e w' ⟨rfl, rfl⟩) | (go_at_call 44; (with_reducible refine (KAT.out _ HTD.out).mono ?_); rintro e w7 ⟨rfl, hb7⟩; have HA7 := Lib.hid (HAD.out.next hb7); have u0 := HA7.out.t0; have u1 := HA7.out.t1; have u2 := HA7.out.t2; clear hb7))
          have htry : tryF seed z m = some x := by
            rw [HXX.out, HBL.out]
            exact find_hit HLT.out HNO.out (by rw [← HBL.out, ← HXX.out]; exact HXM.out)
          have HTRY := Lib.hid htry
          obtain ⟨v0, v1, v2⟩ := HA7.out.b0
          obtain ⟨r0, r1, r2, rf⟩ := HA7.out.r0
          have rf0 := rf 0
          have rf1 := rf 1
          have rf2 := rf 2
          clear htry rf
          go_wp2_with (first | (go_at_call 43; (with_reducible refine (KC.out _).mono ?_); rintro e w8 ⟨rfl, rfl⟩))
          go_region_held3 (fun w' => w'.cell? ⟨gb, 0, none⟩ = some (.slice (some ⟨gs, 0, none⟩) n n) ∧ w'.cell? ⟨gb, 1, none⟩ = some (.string seed) ∧ w'.cell? ⟨gb, 2, none⟩ = some (.int .i64 (z + 1)) ∧ (∃ u, w'.cell? ⟨w.heap.size + 1, 0, none⟩ = some u) ∧ (∃ u, w'.cell? ⟨w.heap.size + 1, 1, none⟩ = some u) ∧ (∃ u, w'.cell? ⟨w.heap.size + 1, 2, none⟩ = some u) ∧ w'.frozen? ⟨w.heap.size + 1, 0, none⟩ = false ∧ w'.frozen? ⟨w.heap.size + 1, 1, none⟩ = false ∧ w'.frozen? ⟨w.heap.size + 1, 2, none⟩ = false) (first | (with_reducible exact HA7.out.stored9) | go_keep) (first | fail)
          all_goals
            go_wp2_with fail
            exact bodyPost_ret (v := .tuple #[.string (B x), .agg #[.slice (some ⟨gs, 0, none⟩) n n, .string seed, .int .i64 (z + 1)], .int .i64 0]) (by simp [results, Tryd.results29, go_sem, r0, r1, r2]) rfl ⟨by rw [HTRY.out]; exact ⟨_, rfl, HA7.out.res.1⟩, HA7.out.res.2⟩
        · obtain ⟨y, hy, hy0⟩ : ∃ y : Int, cmpN x m = y ∧ 0 ≤ y := ⟨_, rfl, by unfold cmpN; rw [if_neg hxm]; split <;> decide⟩
          rw [hy] at KC
          have HXM := Lib.hid hxm
          clear hy hxm
          go_wp2_with fail
          go_region_held3 (fun w' => w'.cell? ⟨w.heap.size, 0, none⟩ = some (.slice A n c) ∧ w'.cell? ⟨w.heap.size, 1, none⟩ = some (.string seed) ∧ w'.cell? ⟨w.heap.size, 2, none⟩ = some (.int .i64 z)) (first | go_keep) (first | (go_at_call 45; (with_reducible refine (KBT.out _).mono ?_); rintro e w' ⟨rfl, rfl⟩) | (go_at_call 44; (with_reducible refine (KAT.out _ HTD.out).mono ?_); rintro e w7 ⟨rfl, hb7⟩; have HA7 := Lib.hid (HAD.out.next hb7); have u0 := HA7.out.t0; have u1 := HA7.out.t1; have u2 := HA7.out.t2; clear hb7))
          go_wp2_with (first | (go_at_call 43; (with_reducible refine (KC.out _).mono ?_); rintro e w8 ⟨rfl, rfl⟩))
          go_roundw
          case rel =>
            refine ⟨i + 1, rfl, HLT.out, HA7.out, fun j hj => ?_⟩
            by_cases e : j = i
            · subst e; rw [← HBL.out, ← HXX.out]; exact HXM.out
            · exact HNO.out j (by omega)
          case measure => have := HLT.out; show 256 - ((i : Int) + 1).toNat < 256 - (i : Int).toNat; omega
      · obtain rfl : i = 256 := by omega
        have HTRY := Lib.hid (find_miss HNO.out)
        obtain ⟨r0, r1, r2, rf⟩ := HA.out.r0
        have rf0 := rf 0
        have rf1 := rf 1
        have rf2 := rf 2
        clear rf
        go_wp2_with fail
        exact bodyPost_ret (v := .tuple #[.string ⟨#[]⟩, .agg #[.slice none 0 0, .string ⟨#[]⟩, .int .i64 0], .int .i64 14]) (by simp [results, Tryd.results29, go_sem, r0, r1, r2]) rfl ⟨by rw [HTRY.out]; rfl, by first | exact HA.out.bel3 | exact HA.out.bel⟩

end Go.Proofs.YtfggpgiinihflaaDoor
