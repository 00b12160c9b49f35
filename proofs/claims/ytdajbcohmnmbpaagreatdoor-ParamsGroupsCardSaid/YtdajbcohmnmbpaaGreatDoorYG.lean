/- The walks of package coins: draw once more, and that the next tape lies in memory of the call's own. The walks of package coins: Many, where every draw goes through. -/
import Derived.Test.YtdajbcohmnmbpaaGreatDoorBZ
import Derived.Test.YtdajbcohmnmbpaaGreatDoorZM2
import Derived.Deep.AppendLies
import Derived.Maps.AppendAt
namespace Go.Proofs.YtdajbcohmnmbpaaGreatDoor
open Go.RowKit
set_option maxRecDepth 100000
set_option linter.unusedVariables false
set_option maxHeartbeats 4000000

theorem draw_valueF (vals : List ByteArray) (A : Option Addr) (n c : Nat) (seed : ByteArray) (k v m : Nat) (w : World) (hn : vals.length = n) (hm : n ≤ 1000) (h : SLs w w.heap.size A vals) (hk : k < n)
    (hv : vals.getD k ByteArray.empty = B v) (hv1 : v < lim) (hvm : v < m) (hm1 : m < 18446744073709551616) (hs : seed.size ≤ 100000) :
    Calls Tryz.prog 150 #[.agg #[.slice A n c, .string seed, .int .i64 k], .string (B m)] w fun e w' => (∃ g, e = .returned (.tuple #[.string (B v), .agg #[.slice (some ⟨g, 0, none⟩) n n, .string seed, .int .i64 ((k : Int) + 1)], .int .i64 0]) ∧ SLs w' w'.heap.size (some ⟨g, 0, none⟩) vals ∧ w.heap.size ≤ g) ∧ Below w.heap.size w w' := by
  obtain ⟨ad, rfl, hadb, hall⟩ := h (by intro e; rw [e] at hn; simp at hn; omega)
  have hc0 := hall k (by omega)
  rw [hv] at hc0
  have hc1 : ((w.alloc (.cells #[.slice (some ad) n c, .string seed, .int .i64 k] 24)).alloc (.cells #[.slice none 0 0, .string ⟨#[]⟩, .int .i64 0] 24)).cell? (ad.add k) = some (.string (B v)) := by
    rw [World.cell?_alloc_lt _ _ _ (by rw [block_of_add]; simp; omega), World.cell?_alloc_lt _ _ _ (by rw [block_of_add]; exact hadb)]
    exact hc0
  have hzw : IntKind.i64.wrap ((k : Int) + 1) = (k : Int) + 1 := by rw [IntKind.wrap_i64]; omega
  have i0 : (0 : Int) ≤ (k : Int) := by omega
  have i1 : (k : Int) < (n : Int) := by omega
  have i2 : ¬ ((k : Int) = 2147483647) := by omega
  have i3 : ((k : Int) == 2147483647) = false := by rw [beq_eq_false_iff_ne]; exact i2
  have hmk := make_strs n (by omega)
  have KC := Lib.hid (fun w => natural_Cmp (B v) (B m) w)
  rw [natCmp_BB hv1 (Nat.lt_trans hm1 (by decide)), show cmpN v m = -1 from by unfold cmpN; rw [if_pos hvm]] at KC
  have HV1 := Lib.hid hv1
  have HALL := Lib.hid hall
  have HN := Lib.hid hn
  have HV := Lib.hid hv
  clear hall hn hc0 hv
  go_enter Tryz.func150, Tryz.ntmps150
  go_wp2_with (first | (go_at_call 91; (with_reducible refine (KC.out _).mono ?_); rintro e w1 ⟨rfl, rfl⟩))
  have d0 : ((w.alloc (.cells #[.slice (some ad) n c, .string seed, .int .i64 k] 24)).alloc (.cells #[.slice none 0 0, .string ⟨#[]⟩, .int .i64 0] 24)).cell? ⟨w.heap.size, 0, none⟩ = some (.slice (some ad) n c) := by simp [go_sem]
  have d1 : ((w.alloc (.cells #[.slice (some ad) n c, .string seed, .int .i64 k] 24)).alloc (.cells #[.slice none 0 0, .string ⟨#[]⟩, .int .i64 0] 24)).cell? ⟨w.heap.size, 1, none⟩ = some (.string seed) := by simp [go_sem]
  have d2 : ((w.alloc (.cells #[.slice (some ad) n c, .string seed, .int .i64 k] 24)).alloc (.cells #[.slice none 0 0, .string ⟨#[]⟩, .int .i64 0] 24)).cell? ⟨w.heap.size, 2, none⟩ = some (.int .i64 k) := by simp [go_sem]
  go_region_held3 (fun w' => w'.cell? ⟨w.heap.size, 0, none⟩ = some (.slice (some ad) n c) ∧ w'.cell? ⟨w.heap.size, 1, none⟩ = some (.string seed) ∧ w'.cell? ⟨w.heap.size, 2, none⟩ = some (.int .i64 k)) (first | go_keep) (first | fail)
  all_goals
    first
      | (refine world_on (fun wx => AtD w wx (w.heap.size + 1 + 1) (w.heap.size + 1 + 1 + 1) (some ad) n c seed k (List.replicate n (.string ByteArray.empty))) (atD_A w (some ad) n c seed k hzw) ?_)
      | (refine world_on (fun wx => AtD w wx (w.heap.size + 1 + 1 + 1) (w.heap.size + 1 + 1) (some ad) n c seed k (List.replicate n (.string ByteArray.empty))) (atD_B w (some ad) n c seed k hzw) ?_)
    intro wx hx
    have x0 := hx.t0
    have x2 := hx.t2
    obtain ⟨y0, y1, y2⟩ := hx.b0
    have HX := Lib.hid hx
    clear hx
    go_wp2_with (first
    | (refine wpList_copy_own rfl (.tmp 56) (.tmp 58) _ _ rfl 28 Tryz.underlying22 rfl _ 0 n n ad n c rfl rfl _ 28 HX.out.s (vals.map Value.string) (by simp [HN.out]) (src_cells HX.out.bel hadb HALL.out) (by simp [HN.out]) (str_ones vals) ?_
       rw [copy_row n _ _ (by rw [List.length_map]; exact HN.out)]
       have hx6 := HX.out.copied (ms := vals.map Value.string)
       generalize hw6 : wx.setRow _ (vals.map Value.string).toArray = w6 at hx6 ⊢
       have z0 := hx6.t0
       have z2 := hx6.t2
       obtain ⟨v0, v1, v2⟩ := hx6.b0
       obtain ⟨r0, r1, r2, rf⟩ := hx6.r0
       have rf0 := rf 0
       have rf1 := rf 1
       have rf2 := rf 2
       have hsrc := src_cells hx6.bel hadb HALL.out k (.string (B v)) (by rw [List.getElem?_map, List.getElem?_eq_getElem (by rw [HN.out]; exact hk), ← sgetD_lt (by rw [HN.out]; exact hk), HV.out]; rfl)
       have H6 := Lib.hid hx6
       clear hx6 hw6 rf))
    have hpb : (ad.add k).block < w.heap.size := by rw [block_of_add]; exact hadb
    first
      | (go_region_held3 (fun w' => w'.cell? ⟨w.heap.size, 0, none⟩ = some (.slice (some ad) n c) ∧ w'.cell? ⟨w.heap.size, 2, none⟩ = some (.int .i64 k) ∧ w'.cell? (ad.add k) = some (.string (B v)) ∧ w'.cell? ⟨w.heap.size + 1 + 1, 0, none⟩ = some (.slice (some ⟨w.heap.size + 1 + 1 + 1, 0, none⟩) n n) ∧ w'.cell? ⟨w.heap.size + 1 + 1, 1, none⟩ = some (.string seed) ∧ w'.cell? ⟨w.heap.size + 1 + 1, 2, none⟩ = some (.int .i64 ((k : Int) + 1)) ∧ (∃ u, w'.cell? ⟨w.heap.size + 1, 0, none⟩ = some u) ∧ (∃ u, w'.cell? ⟨w.heap.size + 1, 1, none⟩ = some u) ∧ (∃ u, w'.cell? ⟨w.heap.size + 1, 2, none⟩ = some u) ∧ w'.frozen? ⟨w.heap.size + 1, 0, none⟩ = false ∧ w'.frozen? ⟨w.heap.size + 1, 1, none⟩ = false ∧ w'.frozen? ⟨w.heap.size + 1, 2, none⟩ = false) (first | (with_reducible exact H6.out.stored (p := ad.add k) hpb hsrc) | go_keep) (first | fail))
      | (go_region_held3 (fun w' => w'.cell? ⟨w.heap.size, 0, none⟩ = some (.slice (some ad) n c) ∧ w'.cell? ⟨w.heap.size, 2, none⟩ = some (.int .i64 k) ∧ w'.cell? (ad.add k) = some (.string (B v)) ∧ w'.cell? ⟨w.heap.size + 1 + 1 + 1, 0, none⟩ = some (.slice (some ⟨w.heap.size + 1 + 1, 0, none⟩) n n) ∧ w'.cell? ⟨w.heap.size + 1 + 1 + 1, 1, none⟩ = some (.string seed) ∧ w'.cell? ⟨w.heap.size + 1 + 1 + 1, 2, none⟩ = some (.int .i64 ((k : Int) + 1)) ∧ (∃ u, w'.cell? ⟨w.heap.size + 1, 0, none⟩ = some u) ∧ (∃ u, w'.cell? ⟨w.heap.size + 1, 1, none⟩ = some u) ∧ (∃ u, w'.cell? ⟨w.heap.size + 1, 2, none⟩ = some u) ∧ w'.frozen? ⟨w.heap.size + 1, 0, none⟩ = false ∧ w'.frozen? ⟨w.heap.size + 1, 1, none⟩ = false ∧ w'.frozen? ⟨w.heap.size + 1, 2, none⟩ = false) (first | (with_reducible exact H6.out.stored (p := ad.add k) hpb hsrc) | go_keep) (first | fail))
    go_wp2_with fail
    first
      | exact bodyPost_ret (v := .tuple #[.string (B v), .agg #[.slice (some ⟨w.heap.size + 1 + 1 + 1, 0, none⟩) n n, .string seed, .int .i64 ((k : Int) + 1)], .int .i64 0]) (by simp [results, Tryz.results150, go_sem, r0, r1, r2]) rfl ⟨⟨_, rfl, H6.out.res.1, Nat.le_trans (Nat.le_add_right _ 2) H6.out.hs⟩, H6.out.res.2⟩
      | exact bodyPost_ret (v := .tuple #[.string (B v), .agg #[.slice (some ⟨w.heap.size + 1 + 1, 0, none⟩) n n, .string seed, .int .i64 ((k : Int) + 1)], .int .i64 0]) (by simp [results, Tryz.results150, go_sem, r0, r1, r2]) rfl ⟨⟨_, rfl, H6.out.res.1, Nat.le_trans (Nat.le_add_right _ 2) H6.out.hs⟩, H6.out.res.2⟩

/-- What a draw from the seed hands back. -/
def seedPostF (k : Nat) (r : Option Nat) (n : Nat) (seed : ByteArray) (z : Int) (vals : List ByteArray) (e : Ending) (w' : World) : Prop :=
  match r with
  | some x => ∃ g, e = .returned (.tuple #[.string (B x), .agg #[.slice (some ⟨g, 0, none⟩) n n, .string seed, .int .i64 (z + 1)], .int .i64 0]) ∧ SLs w' w'.heap.size (some ⟨g, 0, none⟩) vals ∧ k ≤ g
  | none => e = .returned (.tuple #[.string ⟨#[]⟩, .agg #[.slice none 0 0, .string ⟨#[]⟩, .int .i64 0], .int .i64 14])
theorem draw_seedF (vals : List ByteArray) (A : Option Addr) (n c : Nat) (seed : ByteArray) (z : Int) (m : Nat) (w : World) (hn : vals.length = n) (hm : n ≤ 1000) (h : SLs w w.heap.size A vals) (hz : (n : Int) ≤ z) (hz1 : z < 2147483647)
    (he : seed.toList.isEmpty = false) (hm0 : 1 ≤ m) (hm1 : m < 18446744073709551616) (hs : seed.size ≤ 100000) (hT : Tab10 w) :
    Calls Tryz.prog 150 #[.agg #[.slice A n c, .string seed, .int .i64 z], .string (B m)] w fun e w' => seedPostF w.heap.size (tryF seed z m) n seed z vals e w' ∧ Below w.heap.size w w' := by
  have hzw : IntKind.i64.wrap (z + 1) = z + 1 := by rw [IntKind.wrap_i64]; omega
  have i1 : ¬ z < (n : Int) := by omega
  have i3 : (z == 2147483647) = false := by rw [beq_eq_false_iff_ne]; omega
  have hmk := make_strs n (by omega)
  have HN := Lib.hid hn
  have HS := Lib.hid h
  have HT := Lib.hid hT
  have HZ := Lib.hid (And.intro hz hz1)
  clear hn h hT hz1
  go_enter Tryz.func150, Tryz.ntmps150
  go_wp2_with fail
  have d0 : ((w.alloc (.cells #[.slice A n c, .string seed, .int .i64 z] 24)).alloc (.cells #[.slice none 0 0, .string ⟨#[]⟩, .int .i64 0] 24)).cell? ⟨w.heap.size, 0, none⟩ = some (.slice A n c) := by simp [go_sem]
  have d1 : ((w.alloc (.cells #[.slice A n c, .string seed, .int .i64 z] 24)).alloc (.cells #[.slice none 0 0, .string ⟨#[]⟩, .int .i64 0] 24)).cell? ⟨w.heap.size, 1, none⟩ = some (.string seed) := by simp [go_sem]
  have d2 : ((w.alloc (.cells #[.slice A n c, .string seed, .int .i64 z] 24)).alloc (.cells #[.slice none 0 0, .string ⟨#[]⟩, .int .i64 0] 24)).cell? ⟨w.heap.size, 2, none⟩ = some (.int .i64 z) := by simp [go_sem]
  go_region_held3 (fun w' => w'.cell? ⟨w.heap.size, 0, none⟩ = some (.slice A n c) ∧ w'.cell? ⟨w.heap.size, 1, none⟩ = some (.string seed) ∧ w'.cell? ⟨w.heap.size, 2, none⟩ = some (.int .i64 z)) (first | go_keep) (first | fail)
  all_goals
    first
      | (refine world_on (fun wx => AtD w wx (w.heap.size + 1 + 1) (w.heap.size + 1 + 1 + 1) A n c seed z (List.replicate n (.string ByteArray.empty))) (atD_A w A n c seed z hzw) ?_
         intro wx hx
         generalize w.heap.size + 1 + 1 + 1 = gs at hx ⊢
         generalize w.heap.size + 1 + 1 = gb at hx ⊢)
      | (refine world_on (fun wx => AtD w wx (w.heap.size + 1 + 1 + 1) (w.heap.size + 1 + 1) A n c seed z (List.replicate n (.string ByteArray.empty))) (atD_B w A n c seed z hzw) ?_
         intro wx hx
         generalize w.heap.size + 1 + 1 + 1 = gb at hx ⊢
         generalize w.heap.size + 1 + 1 = gs at hx ⊢)
    have x0 := hx.t0
    have x2 := hx.t2
    obtain ⟨y0, y1, y2⟩ := hx.b0
    have HX := Lib.hid hx
    clear hx
    have KBT := Lib.hid (fun w => natural_Bits (B m) w)
    have hbb : natBits (B m) = bitsN m := by unfold natBits; rw [valid_B (Nat.lt_trans hm1 (by decide)), num_B]; rfl
    rw [hbb] at KBT
    obtain ⟨bl, hbl⟩ : ∃ bl, bl = bitsN m := ⟨_, rfl⟩
    rw [← hbl] at KBT
    have hbl0 : 1 ≤ bl := by rw [hbl]; unfold bitsN; rw [if_neg (by omega)]; omega
    have hbl1 : bl ≤ 256 := by
      rw [hbl]
      unfold bitsN
      rw [if_neg (by omega)]
      have := (Nat.log2_lt (n := m) (k := 64) (by omega)).2 hm1
      omega
    have HBL := Lib.hid hbl
    clear hbb hbl
    go_wp2_with (first
      | (refine wpList_copy_strs rfl (.tmp 56) (.tmp 58) rfl rfl rfl HX.out HS.out HN.out ?_
         intro w6 hx6
         have z0 := hx6.t0
         have z2 := hx6.t2
         have H6 := Lib.hid hx6
         clear hx6))
    clear d0 d1 d2 x0 x2 y0 y1 y2 z0 z2 hmk
    go_loopw [73] (fun v wr => ∃ i : Nat, v = .int .i64 i ∧ i ≤ 256 ∧ AtD w wr gb gs A n c seed z (vals.map Value.string) ∧ ∀ j, j < i → ¬ attN seed z j (bitsN m) < m) (fun v _ => 256 - (intOf v).toNat)
    case atStart => exact ⟨0, rfl, by decide, H6.out, fun j h => absurd h (by omega)⟩
    case round =>
      clear H6 HX
      obtain ⟨i, rfl, hi, hat, hno⟩ := hrel
      have HA := Lib.hid hat
      have HNO := Lib.hid hno
      clear hat hno
      by_cases hlt : i < 256
      · obtain ⟨x, hx⟩ : ∃ x, x = attN seed z i bl := ⟨_, rfl⟩
        have hxl : x < 2 ^ 64 := by
          rw [hx]
          refine Nat.lt_of_lt_of_le (Nat.mod_lt _ (Nat.pow_pos (by decide))) (Nat.pow_le_pow_right (by decide) ?_)
          rw [HBL.out]
          unfold bitsN
          rw [if_neg (by omega)]
          have := (Nat.log2_lt (n := m) (k := 64) (by omega)).2 hm1
          omega
        have KAT := Lib.hid (fun wq (hT : Tab10 wq) => coins_attempt A n c seed z i bl wq (by omega) (by have := HZ.out.2; omega) (by omega) (by omega) hs hT hbl0 hbl1)
        rw [← hx] at KAT
        have HAD : Hid (AtD w wr.drew gb gs A n c seed z (vals.map Value.string)) := Lib.hid (HA.out.next (Below.refl _ _).drew)
        have HTD : Hid (Tab10 wr.drew) := Lib.hid (HT.out.below HAD.out.bel)
        have t0 := HA.out.t0
        have t1 := HA.out.t1
        have t2 := HA.out.t2
        have KC := Lib.hid (fun w => natural_Cmp (B x) (B m) w)
        rw [natCmp_BB (Nat.lt_trans hxl (by decide)) (Nat.lt_trans hm1 (by decide))] at KC
        have p1 : (i : Int) < 256 := by omega
        have HLT := Lib.hid hlt
        have HXX := Lib.hid hx
        clear hx hxl hlt hi
        by_cases hxm : x < m
        · rw [show cmpN x m = -1 from by unfold cmpN; rw [if_pos hxm]] at KC
          have HXM := Lib.hid hxm
          clear hxm
          go_wp2_with fail
          go_region_held3 (fun w' => w'.cell? ⟨w.heap.size, 0, none⟩ = some (.slice A n c) ∧ w'.cell? ⟨w.heap.size, 1, none⟩ = some (.string seed) ∧ w'.cell? ⟨w.heap.size, 2, none⟩ = some (.int .i64 z)) (first | go_keep) (first | (go_at_call 106; (with_reducible refine (KBT.out _).mono ?_); rintro e w' ⟨rfl, rfl⟩) | (go_at_call 201; (with_reducible refine (KAT.out _ HTD.out).mono ?_); rintro e w7 ⟨rfl, hb7⟩; have HA7 := Lib.hid (HAD.out.next hb7); have u0 := HA7.out.t0; have u1 := HA7.out.t1; have u2 := HA7.out.t2; clear hb7))
          have htry : tryF seed z m = some x := by
            rw [HXX.out, HBL.out]
            exact find_hit HLT.out HNO.out (by rw [← HBL.out, ← HXX.out]; exact HXM.out)
          have HTRY := Lib.hid htry
          obtain ⟨v0, v1, v2⟩ := HA7.out.b0
          obtain ⟨r0, r1, r2, rf⟩ := HA7.out.r0
          have rf0 := rf 0
          have rf1 := rf 1
          have rf2 := rf 2
          clear htry rf
          go_wp2_with (first | (go_at_call 91; (with_reducible refine (KC.out _).mono ?_); rintro e w8 ⟨rfl, rfl⟩))
          go_region_held3 (fun w' => w'.cell? ⟨gb, 0, none⟩ = some (.slice (some ⟨gs, 0, none⟩) n n) ∧ w'.cell? ⟨gb, 1, none⟩ = some (.string seed) ∧ w'.cell? ⟨gb, 2, none⟩ = some (.int .i64 (z + 1)) ∧ (∃ u, w'.cell? ⟨w.heap.size + 1, 0, none⟩ = some u) ∧ (∃ u, w'.cell? ⟨w.heap.size + 1, 1, none⟩ = some u) ∧ (∃ u, w'.cell? ⟨w.heap.size + 1, 2, none⟩ = some u) ∧ w'.frozen? ⟨w.heap.size + 1, 0, none⟩ = false ∧ w'.frozen? ⟨w.heap.size + 1, 1, none⟩ = false ∧ w'.frozen? ⟨w.heap.size + 1, 2, none⟩ = false) (first | (with_reducible exact HA7.out.stored9) | go_keep) (first | fail)
          all_goals
            go_wp2_with fail
            exact bodyPost_ret (v := .tuple #[.string (B x), .agg #[.slice (some ⟨gs, 0, none⟩) n n, .string seed, .int .i64 (z + 1)], .int .i64 0]) (by simp [results, Tryz.results150, go_sem, r0, r1, r2]) rfl ⟨by rw [HTRY.out]; exact ⟨_, rfl, HA7.out.res.1, Nat.le_trans (Nat.le_add_right _ 2) HA7.out.hs⟩, HA7.out.res.2⟩
        · obtain ⟨y, hy, hy0⟩ : ∃ y : Int, cmpN x m = y ∧ 0 ≤ y := ⟨_, rfl, by unfold cmpN; rw [if_neg hxm]; split <;> decide⟩
          rw [hy] at KC
          have HXM := Lib.hid hxm
          clear hy hxm
          go_wp2_with fail
          go_region_held3 (fun w' => w'.cell? ⟨w.heap.size, 0, none⟩ = some (.slice A n c) ∧ w'.cell? ⟨w.heap.size, 1, none⟩ = some (.string seed) ∧ w'.cell? ⟨w.heap.size, 2, none⟩ = some (.int .i64 z)) (first | go_keep) (first | (go_at_call 106; (with_reducible refine (KBT.out _).mono ?_); rintro e w' ⟨rfl, rfl⟩) | (go_at_call 201; (with_reducible refine (KAT.out _ HTD.out).mono ?_); rintro e w7 ⟨rfl, hb7⟩; have HA7 := Lib.hid (HAD.out.next hb7); have u0 := HA7.out.t0; have u1 := HA7.out.t1; have u2 := HA7.out.t2; clear hb7))
          go_wp2_with (first | (go_at_call 91; (with_reducible refine (KC.out _).mono ?_); rintro e w8 ⟨rfl, rfl⟩))
          go_roundw
          case rel =>
            refine ⟨i + 1, rfl, HLT.out, HA7.out, fun j hj => ?_⟩
            by_cases e : j = i
            · subst e; rw [← HBL.out, ← HXX.out]; exact HXM.out
            · exact HNO.out j (by omega)
          case measure => have := HLT.out; show 256 - ((i : Int) + 1).toNat < 256 - (i : Int).toNat; omega
      · obtain rfl : i = 256 := by omega
        have HTRY := Lib.hid (find_miss HNO.out)
        obtain ⟨r0, r1, r2, rf⟩ := HA.out.r0
        have rf0 := rf 0
        have rf1 := rf 1
        have rf2 := rf 2
        clear rf
        go_wp2_with fail
        exact bodyPost_ret (v := .tuple #[.string ⟨#[]⟩, .agg #[.slice none 0 0, .string ⟨#[]⟩, .int .i64 0], .int .i64 14]) (by simp [results, Tryz.results150, go_sem, r0, r1, r2]) rfl ⟨by rw [HTRY.out]; rfl, by first | exact HA.out.bel3 | exact HA.out.bel⟩

/-- What a draw hands back: the coin and the next tape, or the error. -/
def drawPostF (k : Nat) (d : Int × Nat) (n : Nat) (seed : ByteArray) (z : Int) (vals : List ByteArray) (e : Ending) (w' : World) : Prop :=
  (d.1 = 0 ∧ ∃ g, e = .returned (.tuple #[.string (B d.2), .agg #[.slice (some ⟨g, 0, none⟩) n n, .string seed, .int .i64 (z + 1)], .int .i64 0]) ∧ SLs w' w'.heap.size (some ⟨g, 0, none⟩) vals ∧ k ≤ g) ∨
  (d.1 ≠ 0 ∧ e = .returned (.tuple #[.string ⟨#[]⟩, .agg #[.slice none 0 0, .string ⟨#[]⟩, .int .i64 0], .int .i64 d.1]))
theorem coins_drawF (vals : List ByteArray) (A : Option Addr) (n c : Nat) (seed : ByteArray) (z : Int) (m : Nat) (w : World) (hn : vals.length = n) (hm : n ≤ 1000) (h : SLs w w.heap.size A vals) (hg : goodT vals z = true)
    (hm0 : 1 ≤ m) (hm1 : m < 18446744073709551616) (hs : seed.size ≤ 100000) (hT : Tab10 w) :
    Calls Tryz.prog 150 #[.agg #[.slice A n c, .string seed, .int .i64 z], .string (B m)] w fun e w' => drawPostF w.heap.size (drawS vals seed z m) n seed z vals e w' ∧ Below w.heap.size w w' := by
  obtain ⟨h0, h1, hall⟩ := good_parts hg
  by_cases hz : z < (n : Int)
  · obtain ⟨k, rfl⟩ : ∃ k : Nat, z = (k : Int) := ⟨z.toNat, by omega⟩
    have hk : k < n := by omega
    have hvalid : valid (vals.getD k ByteArray.empty) = true := by
      rw [List.all_eq_true] at hall
      rw [sgetD_lt (by omega)]
      exact hall _ (List.getElem_mem _)
    have hv := (B_num hvalid).symm
    have hv1 := valid_num_lt hvalid
    have hd : drawS vals seed (k : Int) m = if m ≤ num (vals.getD k ByteArray.empty) then (2, 0) else (0, num (vals.getD k ByteArray.empty)) := by
      unfold drawS
      rw [if_pos (by rw [hn]; exact hz)]
      rfl
    by_cases hvm : m ≤ num (vals.getD k ByteArray.empty)
    · rw [hd, if_pos hvm]
      refine (draw_high vals A n c seed k _ m w hn hm h hk hv hv1 hvm hm1).mono ?_
      rintro e w' ⟨rfl, hb⟩
      exact ⟨.inr ⟨by decide, rfl⟩, hb⟩
    · rw [hd, if_neg hvm]
      refine (draw_valueF vals A n c seed k _ m w hn hm h hk hv hv1 (by omega) hm1 hs).mono ?_
      rintro e w' ⟨⟨g, rfl, hg, hf⟩, hb⟩
      exact ⟨.inl ⟨rfl, g, rfl, hg, hf⟩, hb⟩
  · by_cases hq : seed.toList.isEmpty = true ∨ z = 2147483647
    · have hd : drawS vals seed z m = (14, 0) := by unfold drawS; rw [if_neg (by rw [hn]; exact hz), if_pos hq]
      rw [hd]
      refine (draw_none vals A n c seed z m w hm (by omega) hq).mono ?_
      rintro e w' ⟨rfl, hb⟩
      exact ⟨.inr ⟨by decide, rfl⟩, hb⟩
    · have he : seed.toList.isEmpty = false := by
        cases hh : seed.toList.isEmpty
        · rfl
        · exact absurd (.inl hh) hq
      refine (draw_seedF vals A n c seed z m w hn hm h (by omega) (by have : z ≠ 2147483647 := fun e => hq (.inr e); omega) he hm0 hm1 hs hT).mono ?_
      rintro e w' ⟨hp, hb⟩
      refine ⟨?_, hb⟩
      unfold drawS
      rw [if_neg (by rw [hn]; exact hz), if_neg hq]
      cases ht : tryF seed z m with
      | some x =>
        rw [ht] at hp
        obtain ⟨g, rfl, hg, hf⟩ := hp
        exact .inl ⟨rfl, g, rfl, hg, hf⟩
      | none =>
        rw [ht] at hp
        have hp' : e = .returned (.tuple #[.string ⟨#[]⟩, .agg #[.slice none 0 0, .string ⟨#[]⟩, .int .i64 0], .int .i64 14]) := hp
        subst hp'
        exact .inr ⟨by decide, rfl⟩

end Go.Proofs.YtdajbcohmnmbpaaGreatDoor

namespace Go.Proofs.YtdajbcohmnmbpaaGreatDoor
open Go.RowKit
set_option maxRecDepth 100000
set_option linter.unusedVariables false
set_option maxHeartbeats 4000000

theorem coinsL_snoc (vals : List ByteArray) (seed : ByteArray) (m : Nat) (z : Int) (t : Nat) : coinsL vals seed m z (t + 1) = coinsL vals seed m z t ++ [(belowS vals seed (z + (t : Nat)) m).2] := by
  unfold coinsL
  rw [List.range_succ, List.map_append]
  rfl
theorem OwnS.far {w : World} {base n : Nat} {v u : Value} {ls : List ByteArray} {p : Addr} (h : OwnS w base v n ls) (hp : p.block < base) : OwnS (w.setCell p u) base v n ls := by
  refine ⟨h.1, h.2.1, ?_⟩
  rcases h.2.2 with hn | ⟨g, cap, cur, rfl, h1, hg, rest⟩
  · exact .inl hn
  · exact .inr ⟨g, cap, cur, rfl, h1, (Below.heap_setCell _ _ _ _ (fun e => by rw [e] at h1; omega)).trans hg, rest⟩
theorem OwnS.block {w : World} {base n : Nat} {v : Value} {ls : List ByteArray} (h : OwnS w base v n ls) : ∀ k, v.ownBlock = some k → base ≤ k ∧ k < w.heap.size := by
  intro k hk
  rcases h.2.2 with ⟨rfl, _⟩ | ⟨g, cap, cur, rfl, h1, hg, rest⟩
  · cases hk
  · cases hk
    exact ⟨h1, (Array.getElem?_eq_some_iff.1 hg).1⟩
theorem OwnS.slice {w : World} {base n : Nat} {v : Value} {ls : List ByteArray} (h : OwnS w base v n ls) : ∃ A c, v = .slice A n c := by
  rcases h.2.2 with ⟨rfl, rfl⟩ | ⟨g, cap, cur, rfl, h1, hg, rest⟩
  · exact ⟨none, 0, rfl⟩
  · exact ⟨_, _, rfl⟩
theorem AtS.nextB {w wx wy : World} {A : Option Addr} {n c : Nat} {seed : ByteArray} {z : Int} (h : AtS w wx A n c seed z) (hb : Below (w.heap.size + 2) wx wy) : AtS w wy A n c seed z := by
  obtain ⟨⟨t0, t1, t2, r, bel⟩, f0, f1, f2⟩ := h
  have l0 : w.heap.size < w.heap.size + 2 := by omega
  exact ⟨⟨(hb.cell (p := ⟨w.heap.size, 0, none⟩) l0).trans t0, (hb.cell (p := ⟨w.heap.size, 1, none⟩) l0).trans t1, (hb.cell (p := ⟨w.heap.size, 2, none⟩) l0).trans t2, (hb.block _ (by omega)).trans r, bel.trans (hb.mono (by omega))⟩,
    (hb.frozen (p := ⟨w.heap.size, 0, none⟩) l0).trans f0, (hb.frozen (p := ⟨w.heap.size, 1, none⟩) l0).trans f1, (hb.frozen (p := ⟨w.heap.size, 2, none⟩) l0).trans f2⟩
theorem AtS.sz {w wx : World} {A : Option Addr} {n c : Nat} {seed : ByteArray} {z : Int} (h : AtS w wx A n c seed z) : w.heap.size + 2 ≤ wx.heap.size := (Array.getElem?_eq_some_iff.1 h.a.r).1
/-- What stands behind the append. -/
structure ManyB (w w5 : World) (gt g2 n c' : Nat) (A' : Option Addr) (seed : ByteArray) (zi : Int) (vals : List ByteArray) : Prop where
  at_ : AtS w w5 A' n c' seed zi
  b0 : w5.cell? ⟨gt, 0, none⟩ = some (.slice (some ⟨g2, 0, none⟩) n n)
  b1 : w5.cell? ⟨gt, 1, none⟩ = some (.string seed)
  b2 : w5.cell? ⟨gt, 2, none⟩ = some (.int .i64 (zi + 1))
  sl : SLs w5 w5.heap.size (some ⟨g2, 0, none⟩) vals
theorem ManyB.drew {w w5 : World} {gt g2 n c' : Nat} {A' : Option Addr} {seed : ByteArray} {zi : Int} {vals : List ByteArray} (h : ManyB w w5 gt g2 n c' A' seed zi vals) : ManyB w w5.drew gt g2 n c' A' seed zi vals :=
  ⟨h.at_.next (Below.refl _ _).drew, h.b0, h.b1, h.b2, h.sl⟩
theorem many_app {w wr w2 W4 w5 : World} {A' : Option Addr} {n c' i g2 : Nat} {seed : ByteArray} {zi : Int} {vals ls : List ByteArray} {u : Value} (hA : AtS w wr A' n c' seed zi) (hO : OwnS wr (w.heap.size + 2) u i ls) (hb2 : Below wr.heap.size wr w2)
    (hs2 : SLs w2 w2.heap.size (some ⟨g2, 0, none⟩) vals) (hf : wr.heap.size ≤ g2)
    (h4 : Below (w2.alloc (.cells #[.slice (some ⟨g2, 0, none⟩) n n, .string seed, .int .i64 (zi + 1)] 24)).heap.size (w2.alloc (.cells #[.slice (some ⟨g2, 0, none⟩) n n, .string seed, .int .i64 (zi + 1)] 24)) W4)
    (hg : W4.grownBy w5 u.ownBlock) : ManyB w w5 w2.heap.size g2 n c' A' seed zi vals := by
  have hsz := hA.sz
  have h2s := hb2.size
  have hblk := hO.block
  have ha : (w2.alloc (.cells #[.slice (some ⟨g2, 0, none⟩) n n, .string seed, .int .i64 (zi + 1)] 24)).heap.size = w2.heap.size + 1 := World.size_alloc _ _
  have h4s := h4.size
  rw [ha] at h4s
  have hb24 : Below w2.heap.size w2 W4 := ((Below.refl _ _).alloc (Nat.le_refl _) _).trans (h4.mono (by rw [ha]; omega))
  have hB5 : Below (w.heap.size + 2) W4 w5 := below_grown hg (by omega) (fun k hk => (hblk k hk).1)
  have hcell : ∀ k j v, wr.heap.size ≤ k → k < W4.heap.size → W4.cell? ⟨k, j, none⟩ = some v → w5.cell? ⟨k, j, none⟩ = some v := fun k j v h1 h2 h => by
    rw [← h]
    exact World.cell?_of_block (hg.block k h2 (fun e => by have := (hblk k e.symm).2; omega))
  have hs4 : SLs W4 W4.heap.size (some ⟨g2, 0, none⟩) vals := hs2.to hb24
  have t : ∀ j v, (w2.alloc (.cells #[.slice (some ⟨g2, 0, none⟩) n n, .string seed, .int .i64 (zi + 1)] 24)).cell? ⟨w2.heap.size, j, none⟩ = some v → w5.cell? ⟨w2.heap.size, j, none⟩ = some v := fun j v h =>
    hcell _ _ _ (by omega) (by omega) ((h4.cell (p := ⟨w2.heap.size, j, none⟩) (by rw [ha]; show w2.heap.size < _; omega)).trans h)
  refine ⟨(hA.nextB ((hb2.mono hsz).trans (hb24.mono (by omega)))).nextB hB5, t 0 _ (by simp [go_sem]), t 1 _ (by simp [go_sem]), t 2 _ (by simp [go_sem]), ?_⟩
  intro hne
  obtain ⟨ad, e, hb, hc⟩ := hs4 hne
  cases e
  refine ⟨_, rfl, Nat.lt_of_lt_of_le hb hB5.size, fun j hj => ?_⟩
  have hj' := hc j hj
  rw [addr_add] at hj' ⊢
  exact hcell _ _ _ hf hb hj'

theorem keep3 {w : World} {r : Nat} {x y z : Value} {a : Addr} {u : Option Value} (h : r ≠ a.block) (hc : w.cell? a = u) : (((w.setCell ⟨r, 0, none⟩ x).setCell ⟨r, 1, none⟩ y).setCell ⟨r, 2, none⟩ z).cell? a = u := hop3 h hc
theorem SLs.put0' {w2 : World} {g b : Nat} {vals : List ByteArray} {x y t : Value} {u1 : Option Addr} {u2 u3 : Nat} (hs : SLs w2 w2.heap.size (some ⟨g, 0, none⟩) vals) (hb : w2.cell? ⟨b, 0, none⟩ = some (.slice u1 u2 u3)) :
    SLs (((w2.setCell ⟨b, 0, none⟩ x).setCell ⟨b, 1, none⟩ y).setCell ⟨b, 2, none⟩ t) (((w2.setCell ⟨b, 0, none⟩ x).setCell ⟨b, 1, none⟩ y).setCell ⟨b, 2, none⟩ t).heap.size (some ⟨g, 0, none⟩) vals := by
  have hs4 := SLs.put (x := x) (y := y) (t := t) hs hb (fun s h => by cases h)
  have e : (((w2.setCell ⟨b, 0, none⟩ x).setCell ⟨b, 1, none⟩ y).setCell ⟨b, 2, none⟩ t).heap.size = w2.heap.size := by simp
  rwa [← e] at hs4
theorem stepK {i K : Nat} (h : i < K) (hK : K ≤ 400) : Value.int .i64 (wrap64 ((i : Int) + 1)) = .int .i64 ((i + 1 : Nat) : Int) := step64 (by omega)
theorem measK2 {i K : Nat} (h : i < K) (hK : K ≤ 400) : K - (intOf (.int .i64 (wrap64 ((i : Int) + 1)))).toNat < K - (intOf (.int .i64 (i : Int))).toNat := measT h (by omega)
end Go.Proofs.YtdajbcohmnmbpaaGreatDoor
