/- The reference: Valid, for every wallet of at most 4096 entries of a kind. -/
import Derived.Test.YtjhlddlocpkhkaaGreatWhNh
import Derived.Test.YtjhlddlocpkhkaaGreatWhJ12
namespace Go.Proofs.YtjhlddlocpkhkaaGreat
open Go.RowKit
set_option maxRecDepth 100000
set_option linter.unusedVariables false
set_option maxHeartbeats 8000000
/-- The nonces, and the scopes and periods, that have been seen. -/
def seenA (qs : List Az) (k : Nat) : List ByteArray := ((qs.take k).map fun x => x.2.2.1).reverse
def seenU (us : List Uz) (k : Nat) : List (ByteArray × Int) := ((us.take k).map fun x => (x.1, x.2.1)).reverse
theorem seenA_any (qs : List Az) (k : Nat) (nc : ByteArray) : ((seenA qs k).any fun y => keyS.same y nc) = (qs.take k).any fun y => y.2.2.1.toList == nc.toList := by
  unfold seenA
  rw [List.any_reverse, List.any_map]
  rfl
theorem seenU_any (us : List Uz) (k : Nat) (s : ByteArray) (p : Int) : ((seenU us k).any fun y => keyP.same y (s, p)) = (us.take k).any fun y => y.1.toList == s.toList && y.2.1 == p := by
  unfold seenU
  rw [List.any_reverse, List.any_map]
  rfl
theorem seenA_next {qs : List Az} {k : Nat} {x : Az} (h : qs[k]? = some x) : seenA qs (k + 1) = x.2.2.1 :: seenA qs k := by
  unfold seenA
  rw [List.take_add_one, h]
  simp
theorem seenU_next {us : List Uz} {k : Nat} {x : Uz} (h : us[k]? = some x) : seenU us (k + 1) = (x.1, x.2.1) :: seenU us k := by
  unfold seenU
  rw [List.take_add_one, h]
  simp
theorem any_next {α : Type} {l : List α} {p : α → Bool} {m : Nat} {y : α} (h : (l.take m).any p = false) (hy : l[m]? = some y) (hp : p y = false) : (l.take (m + 1)).any p = false := by
  rw [List.take_add_one, hy]
  simp [h, hp]
theorem any_found {α : Type} {l : List α} {p : α → Bool} {m k : Nat} {y : α} (hm : m < k) (hy : l[m]? = some y) (hp : p y = true) : (l.take k).any p = true := by
  rw [List.any_eq_true]
  refine ⟨y, ?_, hp⟩
  rw [List.mem_iff_getElem?]
  exact ⟨m, by rw [List.getElem?_take_of_lt hm]; exact hy⟩
theorem SlA.nonce {w : World} {S : Nat → Prop} {g off : Nat} {qs : List Az} (h : SlA w S (some ⟨g, off, none⟩) qs) {k : Nat} {x : Az} (hk : qs[k]? = some x) : w.cell? ⟨g, off + k * 5 + 2, none⟩ = some (.string x.2.2.1) := by
  obtain ⟨i, s, n, xs, b⟩ := x
  obtain ⟨g', off', e, _, _, _, h2, _⟩ := h.at_ hk
  injection e with e
  injection e with e1 e2
  subst e1 e2
  exact h2
theorem SlU.pair {w : World} {S : Nat → Prop} {g off : Nat} {us : List Uz} (h : SlU w S (some ⟨g, off, none⟩) us) {k : Nat} {x : Uz} (hk : us[k]? = some x) : w.cell? ⟨g, off + k * 3, none⟩ = some (.string x.1) ∧ w.cell? ⟨g, off + k * 3 + 1, none⟩ = some (.int .i64 x.2.1) := by
  obtain ⟨s, p, c⟩ := x
  obtain ⟨g', off', e, _, h1, h2, _⟩ := h.at_ hk
  injection e with e
  injection e with e1 e2
  subst e1 e2
  exact ⟨h1, h2⟩
theorem canR_2 (x y : ByteArray) (w : World) : Calls Tryz.prog 71 #[.slice (some ⟨w.heap.size, 0, none⟩) 2 2] (w.alloc (.cells #[.string x, .string y] 22)) fun e w' => e = .returned (.bool ([x, y].all valid)) ∧ (w.alloc (.cells #[.string x, .string y] 22)) = w' :=
  r56_canonical [x, y] (some ⟨w.heap.size, 0, none⟩) 2 2 (w.heap.size + 1) (w.alloc (.cells ([x, y].map Value.string).toArray 22)) rfl (by decide) (SLs.new _ _ [x, y] _ (by omega))
theorem canR_2d (x y : ByteArray) (w : World) : Calls Tryz.prog 71 #[.slice (some ⟨w.heap.size, 0, none⟩) 2 2] (w.alloc (.cells #[.string x, .string y] 22)).drew fun e w' => e = .returned (.bool ([x, y].all valid)) ∧ (w.alloc (.cells #[.string x, .string y] 22)).drew = w' :=
  r56_canonical [x, y] (some ⟨w.heap.size, 0, none⟩) 2 2 (w.heap.size + 1) (w.alloc (.cells ([x, y].map Value.string).toArray 22)).drew rfl (by decide) (SLs.new _ _ [x, y] _ (by omega)).drew
theorem r56_Valid (sec : ByteArray) (qs : List Az) (hs : List Hz) (us : List Uz) (Aa Ah Au : Option Addr) (na ca nh ch nu cu : Nat) (S : Nat → Prop) (w : World) (hq : qs.length = na) (hn : hs.length = nh) (hu : us.length = nu) (hma : na ≤ 4096) (hmh : nh ≤ 4096) (hmu : nu ≤ 4096)
    (hatt : ∀ x ∈ hs, x.att.length ≤ 90000) (h : WalM w S qs hs us Aa Ah Au) (hS : ∀ g, S g → g < w.heap.size) :
    Calls Tryz.prog 28 #[.agg #[.string sec, .slice Aa na ca, .slice Ah nh ch, .slice Au nu cu]] w fun e w' => e = .returned (.bool (validW sec qs hs us)) ∧ Below w.heap.size w w' := by
  have HC1 := Lib.hid (fun W => r01_Valid sec W)
  have HV0 := Lib.hid (VlB.start (sec := sec) (na := na) (ca := ca) (nh := nh) (ch := ch) (nu := nu) (cu := cu) h hS)
  have HS := Lib.hid hS
  have HQ := Lib.hid (And.intro hq (And.intro hn hu))
  have HB := Lib.hid hatt
  have ka : decide ((4096 : Int) < (na : Int)) = false := decide_eq_false (by omega)
  have kh : decide ((4096 : Int) < (nh : Int)) = false := decide_eq_false (by omega)
  have ku : decide ((4096 : Int) < (nu : Int)) = false := decide_eq_false (by omega)
  obtain ⟨VH, hVH⟩ : ∃ V, hs.all okH = V := ⟨_, rfl⟩
  obtain ⟨VA, hVA⟩ : ∃ V, validA [] qs = V := ⟨_, rfl⟩
  obtain ⟨VU, hVU⟩ : ∃ V, validU [] us = V := ⟨_, rfl⟩
  obtain ⟨R, hR⟩ : ∃ R, validW sec qs hs us = R := ⟨_, rfl⟩
  have HR : Hid ((valid sec && (VA && (VH && VU))) = R) := Lib.hid (by rw [← hR, ← hVA, ← hVH, ← hVU]; unfold validW; simp)
  rw [hR]
  have HVA := Lib.hid hVA
  have HVH := Lib.hid hVH
  have HVU := Lib.hid hVU
  clear h hS hq hn hu hatt hVA hVH hVU hR
  cases hv : valid sec with
  | false =>
    rw [hv] at HC1
    have HR1 : Hid (R = false) := Lib.hid (by rw [← HR.out, hv]; rfl)
    clear hv
    go_enter Tryz.func28, Tryz.ntmps28
    go_wp2_with (go_at_call 70; (with_reducible refine (HC1.out _).mono ?_); rintro e w5 ⟨rfl, rfl⟩)
    go_ret
    exact ⟨by rw [HR1.out]; rfl, HV0.out.bel⟩
  | true =>
    rw [hv] at HC1
    have HR1 : Hid ((VA && (VH && VU)) = R) := Lib.hid (by rw [← HR.out, hv]; rfl)
    clear hv
    go_enter Tryz.func28, Tryz.ntmps28
    go_wp2_with (go_at_call 70; (with_reducible refine (HC1.out _).mono ?_); rintro e w5 ⟨rfl, rfl⟩)
    go_loopw [3] (fun v wr => ∃ k : Nat, k ≤ na ∧ v = .int .i64 k ∧ validA (seenA qs k) (qs.drop k) = VA ∧ VlB w S sec qs hs us Aa na ca Ah nh ch Au nu cu wr) (fun v _ => na - (intOf v).toNat)
    case atStart => exact ⟨0, by omega, rfl, HVA.out, HV0.out⟩
    case round =>
      obtain ⟨k, hk, rfl, hva, hvl⟩ := hrel
      have HVK := Lib.hid hva
      have HVL := Lib.hid hvl
      clear hva hvl HV0
      obtain ⟨x0, x1, x2, x3⟩ := HVL.out.bc
      by_cases hlt : k < na
      · obtain ⟨⟨is, sc, nc, xs, bl⟩, hx⟩ : ∃ x, qs[k]? = some x := ⟨qs[k]'(by rw [HQ.out.1]; exact hlt), List.getElem?_eq_getElem _⟩
        have hd : qs.drop k = (is, sc, nc, xs, bl) :: qs.drop (k + 1) := by
          obtain ⟨h1, h2⟩ := List.getElem?_eq_some_iff.1 hx
          rw [List.drop_eq_getElem_cons h1, h2]
        have hv1 := HVK.out
        rw [hd] at hv1
        have HX := Lib.hid hx
        obtain ⟨g, off, rfl, hsg, y0, y1, y2, y3, y4⟩ := HVL.out.src.a.at_ hx
        have hil : (k : Int) < (na : Int) := by omega
        have HLT := Lib.hid hlt
        have HC2 := Lib.hid (fun W => canR_2 xs bl W)
        have HD2 := Lib.hid (fun W => canR_2d xs bl W)
        clear hd hx hsg hlt
        cases hok : [xs, bl].all valid with
        | false =>
          rw [hok] at HC2 HD2
          have HRF : Hid (R = false) := Lib.hid (by
            have hva1 : VA = false := by
              rw [← hv1]
              unfold validA
              split
              · rfl
              · rw [if_neg (by show ¬ ([xs, bl].all valid = true); rw [hok]; decide)]
            rw [← HR1.out, hva1]
            rfl)
          clear hv1 hok
          go_upto_region 6 with fail
          go_region_held3 (fun w' => w'.cell? ⟨w.heap.size, 1, none⟩ = some (.slice (some ⟨g, off, none⟩) na ca) ∧ w'.cell? ⟨g, off + k * 5 + 3, none⟩ = some (.string xs) ∧ w'.cell? ⟨g, off + k * 5 + 4, none⟩ = some (.string bl)) (first | go_keep) (first | (go_at_call 71; (first | with_reducible refine (HC2.out _).mono ?_ | with_reducible refine (HD2.out _).mono ?_); rintro e w5 ⟨rfl, rfl⟩))
          all_goals
            go_wp2_with fail
            refine bodyPost_ret (v := .bool false) (by simp [results, Tryz.results28, go_sem]) rfl ?_
            exact ⟨by rw [HRF.out], HVL.out.bel.trans (by first | exact ((Below.refl _ _).alloc HVL.out.bel.size _).drew | exact ((Below.refl _ _).alloc HVL.out.bel.size _) | exact (Below.refl _ _).drew.alloc HVL.out.bel.size _)⟩
        | true =>
          rw [hok] at HC2 HD2
          have HV6 : Hid (VlB w S sec qs hs us (some ⟨g, off, none⟩) na ca Ah nh ch Au nu cu (wr.alloc (.cells #[.string xs, .string bl] 22)).drew) := Lib.hid (HVL.out.next HS.out ((Below.refl _ _).alloc HVL.out.size _).drew)
          have HOK := Lib.hid hok
          have HV1 := Lib.hid hv1
          clear hv1 hok
          go_upto_region 6 with fail
          go_region_held3 (fun w' => w'.cell? ⟨w.heap.size, 1, none⟩ = some (.slice (some ⟨g, off, none⟩) na ca) ∧ w'.cell? ⟨g, off + k * 5 + 3, none⟩ = some (.string xs) ∧ w'.cell? ⟨g, off + k * 5 + 4, none⟩ = some (.string bl)) (first | go_keep) (first | (go_at_call 71; (first | with_reducible refine (HC2.out _).mono ?_ | with_reducible refine (HD2.out _).mono ?_); rintro e w5 ⟨rfl, rfl⟩))
          all_goals
            go_wp2_with fail
            go_loopw [4] (fun v wi => ∃ m : Nat, m ≤ k ∧ v = .int .i64 m ∧ ((qs.take m).any fun y => y.2.2.1.toList == nc.toList) = false ∧ VlB w S sec qs hs us (some ⟨g, off, none⟩) na ca Ah nh ch Au nu cu wi) (fun v _ => k - (intOf v).toNat)
            case atStart => exact ⟨0, Nat.zero_le _, rfl, rfl, HV6.out⟩
            case round =>
              obtain ⟨m, hm, rfl, hany, hvi⟩ := hrel
              have HANY := Lib.hid hany
              have HVI := Lib.hid hvi
              clear hany hvi HV6 x0 x1 x2 x3 y0 y1 y2 y3 y4
              obtain ⟨x0, x1, x2, x3⟩ := HVI.out.bc
              have hA := HVI.out.src.a
              have yk := hA.nonce HX.out
              dsimp only at yk
              by_cases hlt2 : m < k
              · obtain ⟨y, hy⟩ : ∃ y, qs[m]? = some y := ⟨qs[m]'(by rw [HQ.out.1]; have := HLT.out; omega), List.getElem?_eq_getElem _⟩
                have ym := hA.nonce hy
                obtain ⟨ny, hny⟩ : ∃ ny, y.2.2.1 = ny := ⟨_, rfl⟩
                rw [hny] at ym
                have HY := Lib.hid (And.intro hy hny)
                have hil2 : (m : Int) < (k : Int) := by omega
                have hil3 : (m : Int) < (na : Int) := by omega
                have HLT2 := Lib.hid hlt2
                have HKN := Lib.hid hma
                clear hA hy hny hlt2
                cases he : (ny.toList == nc.toList) with
                | true =>
                  have HRF : Hid (R = false) := Lib.hid (by
                    have hva1 : VA = false := by
                      rw [← HV1.out]
                      unfold validA
                      rw [if_pos (by rw [seenA_any]; exact any_found HLT2.out HY.out.1 (by show (y.2.2.1.toList == nc.toList) = true; rw [HY.out.2]; exact he))]
                    rw [← HR1.out, hva1]
                    rfl)
                  go_upto_region 11 with fail
                  go_quiet (fail)
                  go_wp2_with fail
                  refine bodyPost_ret (v := .bool false) (by simp [results, Tryz.results28, go_sem]) rfl ?_
                  exact ⟨by rw [HRF.out], HVI.out.bel.trans ((below_drewN (Below.refl _ _) _).mono (HVI.out.bel.size))⟩
                | false =>
                  have HE := Lib.hid he
                  go_upto_region 11 with fail
                  go_quiet (fail)
                  go_wp2_with fail
                  go_roundw
                  case rel => exact ⟨m + 1, HLT2.out, by go_num, any_next HANY.out HY.out.1 (by show (y.2.2.1.toList == nc.toList) = false; rw [HY.out.2]; exact HE.out), HVI.out.next HS.out (below_drewN (Below.refl _ _) _)⟩
                  case measure => have := HLT2.out; simp only [intOf]; omega
              · obtain rfl : k = m := by omega
                have HNX : Hid (validA (seenA qs (k + 1)) (qs.drop (k + 1)) = VA) := Lib.hid (by
                  rw [← HV1.out]
                  conv => rhs; unfold validA
                  rw [if_neg (by intro h; rw [seenA_any] at h; exact absurd (h.symm.trans HANY.out) (by decide)), if_pos (show okA (is, sc, nc, xs, bl) = true from HOK.out), seenA_next HX.out])
                clear hA
                go_wp2_with fail
                go_roundw
                case rel => exact ⟨k + 1, HLT.out, by go_num, HNX.out, HVI.out⟩
                case measure => have := HLT.out; simp only [intOf]; omega
      · obtain rfl : na = k := by omega
        have hva1 : VA = true := by
          have := HVK.out
          rw [List.drop_eq_nil_of_le (by rw [HQ.out.1]; exact Nat.le_refl _)] at this
          rw [← this]
          unfold validA
          rfl
        have HR2 : Hid ((VH && VU) = R) := Lib.hid (by rw [← HR1.out, hva1]; rfl)
        have HVL0 := HVL
        clear hva1 HVK HVL HR1
        go_wp2_with fail
        go_loopw [5] (fun v wr => ∃ k : Nat, k ≤ nh ∧ v = .int .i64 k ∧ (hs.drop k).all okH = VH ∧ VlB w S sec qs hs us Aa na ca Ah nh ch Au nu cu wr) (fun v _ => nh - (intOf v).toNat)
        case atStart => exact ⟨0, by omega, rfl, HVH.out, HVL0.out⟩
        case round =>
          obtain ⟨k, hk, rfl, hvh, hvl⟩ := hrel
          have HVK := Lib.hid hvh
          have HVL := Lib.hid hvl
          clear hvh hvl HVL0 x0 x1 x2 x3
          obtain ⟨x0, x1, x2, x3⟩ := HVL.out.bc
          by_cases hlt : k < nh
          · obtain ⟨x, hx⟩ : ∃ x, hs[k]? = some x := ⟨hs[k]'(by rw [HQ.out.2.1]; exact hlt), List.getElem?_eq_getElem _⟩
            have hd : hs.drop k = x :: hs.drop (k + 1) := by
              obtain ⟨h1, h2⟩ := List.getElem?_eq_some_iff.1 hx
              rw [List.drop_eq_getElem_cons h1, h2]
            have hv1 := HVK.out
            rw [hd, List.all_cons] at hv1
            obtain ⟨g, off, A', c', rfl, hsg, hrow, hcells⟩ := HVL.out.src.h.at_ hx
            have hattx := HB.out x (List.mem_of_getElem? hx)
            obtain ⟨n', hn'⟩ : ∃ n', x.att.length = n' := ⟨_, rfl⟩
            have hnl : (numsH x).length = 4 + n' := by unfold numsH; rw [List.length_append, hn']; rfl
            have HN := Lib.hid (r56_numbers x A' n' c' S wr hn' (by omega) (by rw [hn'] at hrow; exact hrow) (fun g hg => Nat.lt_of_lt_of_le (HS.out g hg) HVL.out.bel.size))
            have HCN := Lib.hid (fun (A5 : Option Addr) (n5 c5 : Nat) (W : World) (h5 : n5 = (numsH x).length) (hs5 : SLs W W.heap.size A5 (numsH x)) => r56_canonical (numsH x) A5 n5 c5 W.heap.size W h5.symm (by omega) hs5)
            have hcl : cellsH x A' c' = [.string x.iss, .string x.sch, .int .i64 x.ver, .slice A' n' c', .string x.a, .string x.e, .string x.v, .int .i64 x.ep, .string x.wit] := by unfold cellsH; rw [hn']
            rw [hcl] at hcells
            have y0 := hcells 0 _ rfl
            have y1 := hcells 1 _ rfl
            have y2 := hcells 2 _ rfl
            have y3 := hcells 3 _ rfl
            have y4 := hcells 4 _ rfl
            have y5 := hcells 5 _ rfl
            have y6 := hcells 6 _ rfl
            have y7 := hcells 7 _ rfl
            have y8 := hcells 8 _ rfl
            rw [Nat.add_zero] at y0
            have hil : (k : Int) < (nh : Int) := by omega
            have HLT := Lib.hid hlt
            obtain ⟨b, hok⟩ : ∃ b, okH x = b := ⟨_, rfl⟩
            rw [hok] at hv1
            have hok' : (numsH x).all valid = b := hok
            rw [hok'] at HCN
            simp only [valH] at HN
            clear hcl hcells hrow hattx hn' hnl hok hok' hsg hd hx
            cases b with
            | false =>
              have HRF : Hid (R = false) := Lib.hid (by rw [← HR2.out, ← hv1]; rfl)
              clear hv1
              go_wp2_with (first | (go_at_call 72; (with_reducible refine HN.out.mono ?_); rintro e w5 ⟨A5, n5, c5, rfl, hn5, hs5, hb5⟩; have HC5 := Lib.hid (HCN.out A5 n5 c5 w5 hn5 hs5); have HB5 := Lib.hid hb5; clear hn5 hs5 hb5) | (go_at_call 71; (with_reducible refine HC5.out.mono ?_); rintro e w6 ⟨rfl, rfl⟩))
              go_ret
              exact ⟨by rw [HRF.out]; rfl, below2 HVL.out.bel HB5.out⟩
            | true =>
              have HNX : Hid ((hs.drop (k + 1)).all okH = VH) := Lib.hid (by rw [← hv1]; rfl)
              clear hv1
              go_wp2_with (first | (go_at_call 72; (with_reducible refine HN.out.mono ?_); rintro e w5 ⟨A5, n5, c5, rfl, hn5, hs5, hb5⟩; have HC5 := Lib.hid (HCN.out A5 n5 c5 w5 hn5 hs5); have HB5 := Lib.hid hb5; clear hn5 hs5 hb5) | (go_at_call 71; (with_reducible refine HC5.out.mono ?_); rintro e w6 ⟨rfl, rfl⟩))
              go_roundw
              case rel => exact ⟨k + 1, HLT.out, by go_num, HNX.out, HVL.out.next HS.out (HB5.out.mono HVL.out.size)⟩
              case measure => have := HLT.out; simp only [intOf]; omega
          · obtain rfl : nh = k := by omega
            have hva1 : VH = true := by
              have := HVK.out
              rw [List.drop_eq_nil_of_le (by rw [HQ.out.2.1]; exact Nat.le_refl _)] at this
              rw [← this]
              rfl
            have HR3 : Hid (VU = R) := Lib.hid (by rw [← HR2.out, hva1]; rfl)
            have HVL0 := HVL
            clear hva1 HVK HVL HR2
            go_wp2_with fail
            go_loopw [6] (fun v wr => ∃ k : Nat, k ≤ nu ∧ v = .int .i64 k ∧ validU (seenU us k) (us.drop k) = VU ∧ VlB w S sec qs hs us Aa na ca Ah nh ch Au nu cu wr) (fun v _ => nu - (intOf v).toNat)
            case atStart => exact ⟨0, by omega, rfl, HVU.out, HVL0.out⟩
            case round =>
              obtain ⟨k, hk, rfl, hva, hvl⟩ := hrel
              have HVK := Lib.hid hva
              have HVL := Lib.hid hvl
              clear hva hvl HVL0 x0 x1 x2 x3
              obtain ⟨x0, x1, x2, x3⟩ := HVL.out.bc
              by_cases hlt : k < nu
              · obtain ⟨⟨s, p, c⟩, hx⟩ : ∃ x, us[k]? = some x := ⟨us[k]'(by rw [HQ.out.2.2]; exact hlt), List.getElem?_eq_getElem _⟩
                have hd := drop_at hx
                have hv1 := HVK.out
                rw [hd] at hv1
                have HX := Lib.hid hx
                have HV1 := Lib.hid hv1
                obtain ⟨g, off, rfl, hsg, y0, y1, y2⟩ := HVL.out.src.u.at_ hx
                have hil : (k : Int) < (nu : Int) := by omega
                have HLT := Lib.hid hlt
                clear hv1 hd hx hsg hlt
                by_cases hc1 : c < 1
                · have kc : decide (c < 1) = true := decide_eq_true hc1
                  have HRF : Hid (R = false) := Lib.hid (by rw [← HR3.out, ← HV1.out]; unfold validU; rw [if_pos hc1])
                  clear hc1
                  go_wp2_with fail
                  go_ret
                  exact ⟨by rw [HRF.out]; rfl, HVL.out.bel⟩
                · have kc : decide (c < 1) = false := decide_eq_false hc1
                  have HC1X := Lib.hid hc1
                  clear hc1
                  have HVL0 := HVL
                  go_wp2_with fail
                  go_loopw [7] (fun v wi => ∃ m : Nat, m ≤ k ∧ v = .int .i64 m ∧ ((us.take m).any fun y => y.1.toList == s.toList && y.2.1 == p) = false ∧ VlB w S sec qs hs us Aa na ca Ah nh ch (some ⟨g, off, none⟩) nu cu wi) (fun v _ => k - (intOf v).toNat)
                  case atStart => exact ⟨0, Nat.zero_le _, rfl, rfl, HVL0.out⟩
                  case round =>
                    obtain ⟨m, hm, rfl, hany, hvi⟩ := hrel
                    have HANY := Lib.hid hany
                    have HVI := Lib.hid hvi
                    clear hany hvi HVL0 HVL x0 x1 x2 x3 y0 y1 y2
                    obtain ⟨x0, x1, x2, x3⟩ := HVI.out.bc
                    have hU := HVI.out.src.u
                    obtain ⟨yk1, yk2⟩ := hU.pair HX.out
                    dsimp only at yk1 yk2
                    by_cases hlt2 : m < k
                    · obtain ⟨⟨s2, p2, c2⟩, hy⟩ : ∃ y, us[m]? = some y := ⟨us[m]'(by rw [HQ.out.2.2]; have := HLT.out; omega), List.getElem?_eq_getElem _⟩
                      obtain ⟨ym1, ym2⟩ := hU.pair hy
                      dsimp only at ym1 ym2
                      have HY := Lib.hid hy
                      have hil2 : (m : Int) < (k : Int) := by omega
                      have hil3 : (m : Int) < (nu : Int) := by omega
                      have HLT2 := Lib.hid hlt2
                      clear hU hy hlt2
                      cases he : (s2.toList == s.toList) with
                      | false =>
                        have HE := Lib.hid he
                        go_upto_region 26 with fail
                        go_quiet (fail)
                        go_wp2_with fail
                        go_roundw
                        case rel => exact ⟨m + 1, HLT2.out, by go_num, any_next HANY.out HY.out (by show (s2.toList == s.toList && p2 == p) = false; rw [HE.out]; rfl), HVI.out.next HS.out (below_drewN (Below.refl _ _) _)⟩
                        case measure => have := HLT2.out; simp only [intOf]; omega
                      | true =>
                        cases hp : (p2 == p) with
                        | false =>
                          have HE := Lib.hid hp
                          go_upto_region 26 with fail
                          go_quiet (fail)
                          go_wp2_with fail
                          go_roundw
                          case rel => exact ⟨m + 1, HLT2.out, by go_num, any_next HANY.out HY.out (by show (s2.toList == s.toList && p2 == p) = false; rw [HE.out, Bool.and_false]), HVI.out.next HS.out (below_drewN (Below.refl _ _) _)⟩
                          case measure => have := HLT2.out; simp only [intOf]; omega
                        | true =>
                          have HRF : Hid (R = false) := Lib.hid (by
                            rw [← HR3.out, ← HV1.out]
                            unfold validU
                            rw [if_neg (show ¬ (c < 1) by have := HC1X.out; omega), if_pos (by rw [seenU_any]; exact any_found HLT2.out HY.out (by show (s2.toList == s.toList && p2 == p) = true; rw [he, hp]; rfl))])
                          go_upto_region 26 with fail
                          go_quiet (fail)
                          go_wp2_with fail
                          refine bodyPost_ret (v := .bool false) (by simp [results, Tryz.results28, go_sem]) rfl ?_
                          exact ⟨by rw [HRF.out], HVI.out.bel.trans ((below_drewN (Below.refl _ _) _).mono (HVI.out.bel.size))⟩
                    · obtain rfl : k = m := by omega
                      have HNX : Hid (validU (seenU us (k + 1)) (us.drop (k + 1)) = VU) := Lib.hid (by
                        rw [← HV1.out]
                        conv => rhs; unfold validU
                        rw [if_neg (show ¬ (c < 1) by have := HC1X.out; omega), if_neg (by intro h; rw [seenU_any] at h; exact absurd (h.symm.trans HANY.out) (by decide)), seenU_next HX.out])
                      clear hU
                      go_wp2_with fail
                      go_roundw
                      case rel => exact ⟨k + 1, HLT.out, by go_num, HNX.out, HVI.out⟩
                      case measure => have := HLT.out; simp only [intOf]; omega
              · obtain rfl : nu = k := by omega
                have HRT : Hid (R = true) := Lib.hid (by
                  rw [← HR3.out, ← HVK.out, List.drop_eq_nil_of_le (by rw [HQ.out.2.2]; exact Nat.le_refl _)]
                  unfold validU
                  rfl)
                go_wp2_with fail
                go_ret
                exact ⟨by rw [HRT.out]; rfl, HVL.out.bel⟩
end Go.Proofs.YtjhlddlocpkhkaaGreat
