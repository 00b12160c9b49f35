/- The law AccumulatorOrders: it returns true. -/
import Derived.Test.YtlppcnjaacbhpaaGreatDoorUC
namespace Go.Proofs.YtlppcnjaacbhpaaGreatDoor
open Go.RowKit
set_option maxRecDepth 100000
set_option linter.unusedVariables false
set_option maxHeartbeats 2000000

theorem fewKeyS_m {m o u : ByteArray} (h : fewKeyS m o u = true) : m.size ≤ 8 := by
  unfold fewKeyS at h
  simp only [Bool.and_eq_true, decide_eq_true_eq] at h
  exact h.1
theorem fewLS_n {ls : List ByteArray} (h : fewLS ls = true) : ls.length ≤ 12 := by
  unfold fewLS at h
  simp only [Bool.and_eq_true, decide_eq_true_eq] at h
  exact h.2
theorem kb_step {w wr w5 : World} {kn z s r h : Value} {m o u y : ByteArray} {l : List ByteArray} {k : Nat} {A' : Option Addr} {c' : Nat} {v5 : Value} {ob : Obj} (hlen : l.length = k) (hk : KbAt w kn z s r h m o u wr) (hT : 1 < w.heap.size) (hown0 : OwnS (wr.alloc ob) (w.heap.size + 1) (.slice A' k c') k l)
    (hown : w5.ownsRow (w.heap.size + 1) 22 1 v5 (k + 1) (l.map Value.string ++ [y].map Value.string)) (hg : (wr.alloc ob).grownBy w5 (Value.slice A' k c').ownBlock) :
    ∃ A5 c5, v5 = .slice A5 (k + 1) c5 ∧ OwnS w5 (w.heap.size + 1) (.slice A5 (k + 1) c5) (k + 1) (l ++ [y]) ∧ KbAt w kn z s r h m o u w5 := by
  have hz1 : w.heap.size + 1 ≤ (wr.alloc ob).heap.size := by have := hk.size; simp; omega
  have hz : w.heap.size + 1 ≤ w5.heap.size := Nat.le_trans hz1 hg.size
  have ho : OwnS w5 (w.heap.size + 1) v5 (k + 1) (l ++ [y]) := ⟨by simp [hlen], by simpa using hown⟩
  obtain ⟨A, c, hv, hs⟩ := ho.form hz
  have hka := hk.alloc ob
  have hb1 : Below (w.heap.size + 1) (wr.alloc ob) w5 := (Below.refl _ _).grown hg hz1 (fun k hk => (hown0.2.lt k hk).1)
  have hb : Below w.heap.size w w5 := hka.below.trans (hb1.mono (by omega))
  refine ⟨A, c, hv, hv ▸ ho, ⟨(hb1.block _ (by omega)).trans hka.blk, ?_, hb, Nat.lt_of_lt_of_le hka.size hg.size⟩⟩
  intro j hj
  rw [← hka.tab j hj]
  exact hb1.cell (p := ⟨1, j, none⟩) (by show 1 < _; omega)
theorem law_orders (kn z s r h : Value) (m o u : ByteArray) (ls : List ByteArray) (A : Option Addr) (n c f : Nat) (w : World) (hT : Tab w) (hn : ls.length = n) (hm : n ≤ maxLen) (hf : f < 256) (hs : SLs w w.heap.size A ls) :
    Calls Tryz.prog 4 #[.agg #[kn, .string m, .string o, z, s, r, .string u, h], .slice A n c, .int .u8 f] w fun e w' => e = .returned (.bool true) ∧ Below w.heap.size w w' := by
  obtain ⟨i0, hi0, hz0, hz1, hz2⟩ := info_parts nat_info
  have HB := Lib.hid (KbAt.box (kn := kn) (z := z) (s := s) (r := r) (h := h) (m := m) (o := o) (u := u) hT)
  have HTL := Lib.hid hT.lt
  have HN := Lib.hid hn
  have HS := Lib.hid hs
  have HFK := Lib.hid (fun w => law35_FewKey kn z s r h m o u w)
  have HFW := Lib.hid (fun w b hs => law35_few ls A n c b w hn hm hs)
  have HAW := Lib.hid law35_awake
  have HVA := Lib.hid (fun (sm : m.size ≤ 8) (hle : n ≤ 12) w hs => acc_Value kn z s r h m o u ls A n c w sm hn (by omega) hs)
  have HVT := Lib.hid (fun (sm : m.size ≤ 8) (l : List ByteArray) A' c' w (hl : l.length = n) (hle : n ≤ 12) hs => acc_Value kn z s r h m o u l A' n c' w sm hl (by omega) hs)
  obtain ⟨y0, y1, y2, y3, y4, y5, y6, y7⟩ := HB.out.all
  clear hT hn hs
  cases hk : fewKeyS m o u
  · rw [hk] at HFK
    clear hk
    go_enter Tryz.func4, Tryz.ntmps4
    go_wp2_with (first | (go_at_call 7; (with_reducible refine (HFK.out _).mono ?_); rintro e w1 ⟨rfl, hb1⟩; have H1 := Lib.hid (HB.out.next hb1); clear hb1) | (go_at_call 9; (with_reducible refine (HAW.out _ H1.out.tab).mono ?_); rintro e w2 ⟨rfl, hb2⟩))
    go_ret
    exact ⟨rfl, (H1.out.next hb2).below⟩
  · have hsm := fewKeyS_m hk
    rw [hk] at HFK
    clear hk
    cases hl : fewLS ls
    · rw [hl] at HFW
      clear hl
      go_enter Tryz.func4, Tryz.ntmps4
      go_wp2_with (first | (go_at_call 7; (with_reducible refine (HFK.out _).mono ?_); rintro e w1 ⟨rfl, hb1⟩; have H1 := Lib.hid (HB.out.next hb1); clear hb1) | (go_at_call 8; (with_reducible refine (HFW.out _ _ (H1.out.sls HS.out)).mono ?_); rintro e w' ⟨rfl, rfl⟩) | (go_at_call 9; (with_reducible refine (HAW.out _ H1.out.tab).mono ?_); rintro e w2 ⟨rfl, hb2⟩))
      go_ret
      exact ⟨rfl, (H1.out.next hb2).below⟩
    · have hn12 := fewLS_n hl
      rw [HN.out] at hn12
      rw [hl] at HFW
      clear hl
      by_cases hn0 : n = 0
      · subst hn0
        go_enter Tryz.func4, Tryz.ntmps4
        go_wp2_with (first | (go_at_call 7; (with_reducible refine (HFK.out _).mono ?_); rintro e w1 ⟨rfl, hb1⟩; have H1 := Lib.hid (HB.out.next hb1); clear hb1) | (go_at_call 8; (with_reducible refine (HFW.out _ _ (H1.out.sls HS.out)).mono ?_); rintro e w' ⟨rfl, rfl⟩) | (go_at_call 9; (with_reducible refine (HAW.out _ H1.out.tab).mono ?_); rintro e w2 ⟨rfl, hb2⟩))
        go_ret
        exact ⟨rfl, (H1.out.next hb2).below⟩
      · have k0 : ((n : Int) == 0) = false := by rw [beq_eq_false_iff_ne]; omega
        obtain ⟨N, hN⟩ : ∃ N, f % n = N := ⟨_, rfl⟩
        have hNn : N < n := by rw [← hN]; exact Nat.mod_lt _ (by omega)
        have k1 : ((f : Int) % (n : Int)) = (N : Int) := by rw [← hN]; rfl
        have hnpos : 0 < n := by omega
        clear hN hn0 hm
        go_enter Tryz.func4, Tryz.ntmps4
        go_wp2_with (first | (go_at_call 7; (with_reducible refine (HFK.out _).mono ?_); rintro e w1 ⟨rfl, hb1⟩; have H1 := Lib.hid (HB.out.next hb1); clear hb1) | (go_at_call 8; (with_reducible refine (HFW.out _ _ (H1.out.sls HS.out)).mono ?_); rintro e w' ⟨rfl, rfl⟩))
        rw [k1]
        have hf0 : (0 : Int) ≤ (N : Int) := Int.natCast_nonneg _
        have HNn := Lib.hid hNn
        have HNP := Lib.hid hnpos
        have HNM := Lib.hid (show N ≤ ls.length from by rw [HN.out]; omega)
        have hN20 : (N : Int) ≤ 20 := by omega
        clear k1 hnpos
        go_loopw [8, 9] (fun v8 v9 wr => ∃ (k : Nat) (zi : Int) (A' : Option Addr) (c' : Nat), v8 = .slice A' k c' ∧ v9 = .int .i64 zi ∧ zi = (n : Int) - 1 - k ∧ k ≤ n ∧ OwnS wr (w.heap.size + 1) (.slice A' k c') k (turnK ls N k) ∧ KbAt w kn z s r h m o u wr) (fun _ v9 _ => (intOf v9 + 1).toNat)
        case atStart => exact ⟨0, (n : Int) - 1, none, 0, rfl, rfl, by omega, Nat.zero_le _, OwnS.nil_ _ _, H1.out⟩
        case round =>
          obtain ⟨k, zi, A', c', rfl, rfl, hz, hk, hown, hkb⟩ := hrel
          have HZ := Lib.hid hz
          have HOWN := Lib.hid hown
          have HKB := Lib.hid hkb
          obtain ⟨x0, x1, x2, x3, x4, x5, x6, x7⟩ := hkb.all
          clear hz hown hkb
          by_cases hlt : k < n
          · have hzp : 0 ≤ zi := by have := HZ.out; omega
            have hz1' : zi ≤ 20 := by have := HZ.out; omega
            obtain ⟨J, hJ⟩ : ∃ J, (n - 1 - k + N) % n = J := ⟨_, rfl⟩
            have hJn : J < n := by rw [← hJ]; exact Nat.mod_lt _ HNP.out
            have hj : (zi + (N : Int)) % (n : Int) = (J : Int) := by
              have e : zi + (N : Int) = ((n - 1 - k + N : Nat) : Int) := by have := HZ.out; omega
              rw [e, ← hJ]; rfl
            have hj2 : (zi + (N : Int)).tmod (n : Int) = (J : Int) := by rw [Int.tmod_eq_emod_of_nonneg (by omega)]; exact hj
            have hstep := turnK_step (ms := ls) (n := N) (k := k) HNM.out (by rw [HN.out]; exact hlt)
            rw [HN.out, hJ] at hstep
            obtain ⟨ad, rfl, hc⟩ := (HKB.out.sls HS.out).at_ (k := J) (by rw [HN.out]; exact hJn)
            obtain ⟨y, hy⟩ : ∃ y, ls.getD J ByteArray.empty = y := ⟨_, rfl⟩
            rw [hy] at hc hstep
            have HST := Lib.hid hstep
            have HLT := Lib.hid hlt
            have HOW2 := Lib.hid (HOWN.out.kept (B := 0) ((Below.refl _ _).alloc (Nat.le_refl _) (.cells #[.string y] 22)))
            have HRDY2 := Lib.hid ((SLs.new wr 22 [y] (wr.heap.size + 1) (by omega)).reads (n := 1) rfl)
            have hone : ∀ u ∈ [y].map Value.string, u.oneCell' = true := fun u hu => by
              obtain ⟨y, _, rfl⟩ := List.mem_map.1 hu
              rfl
            have HONE := Lib.hid hone
            have HMX2 := Lib.hid (show k + 1 ≤ maxLen from by unfold maxLen; omega)
            have HBY2 := Lib.hid (show (k + 1) * 16 ≤ 140737488355328 from by omega)
            have HBS2 := Lib.hid (show w.heap.size + 1 ≤ (wr.alloc (.cells #[.string y] 22)).heap.size from by have := HKB.out.size; simp; omega)
            clear hJ hy hstep hone hlt
            go_wp2_with (first | (at_builtin; refine wpList_append_any _ rfl (.tmp 40) (.tmp 50) _ rfl (w.heap.size + 1) 22 i0 _ 1 16 Tryz.underlying25 hi0 hz0 hz1 hz2 rfl (by omega) (.slice A' k c') k ((turnK ls N k).map Value.string) rfl HOW2.out.2 (wr.heap.size + 1) _ 1 1 ([y].map Value.string) rfl HRDY2.out HONE.out HMX2.out HBY2.out HBS2.out ?_; intro v5 w5 hown5 hg5 hat5; obtain ⟨A5, c5, rfl, ho5, hk5⟩ := kb_step HOWN.out.1 HKB.out HTL.out HOW2.out hown5 hg5; have HO5 := Lib.hid ho5; have HK5 := Lib.hid hk5; clear hown5 hg5 hat5 ho5 hk5))
            go_roundw
            case rel => exact ⟨k + 1, zi - 1, A5, c5, rfl, rfl, by have := HZ.out; omega, HLT.out, by rw [HST.out]; exact HO5.out, HK5.out⟩
            case measure => simp only [intOf]; omega
          · have hkn : k = n := by omega
            subst hkn
            have hzm : zi = -1 := by have := HZ.out; omega
            subst hzm
            have hlen : (turnK ls N k).length = k := HOWN.out.1
            have HLEN := Lib.hid hlen
            have hfull : turnK ls N k = turnedL ls N := by rw [← HN.out]; exact turnK_full
            have HVT2 := Lib.hid (fun w hs => HVT.out hsm (turnK ls N k) A' c' w HLEN.out (by omega) hs)
            have HVA2 := Lib.hid (fun w hs => HVA.out hsm (by omega) w hs)
            have heq : valueS m o u (turnK ls N k) = valueS m o u ls := by rw [hfull]; exact (valueS_perm hsm (turnedL_perm ls N)).symm
            have HSL := Lib.hid (own_sls HOWN.out HKB.out.size)
            rw [heq] at HVT2
            clear hlen hfull heq
            generalize (valueS m o u ls).1 = V1 at *
            generalize (valueS m o u ls).2 = V2 at *
            have e1 : (V1.toList == V1.toList) = true := by simp
            have e2 : (V2 == V2) = true := by simp
            go_wp2_with (first | (go_at_call 10; (with_reducible refine (HVA2.out _ (HKB.out.sls HS.out)).mono ?_); rintro e w3 ⟨rfl, hb3⟩; have n3 := HKB.out.next hb3; obtain ⟨x0, x1, x2, x3, x4, x5, x6, x7⟩ := n3.all; have H3 := Lib.hid n3; have HSL3 := Lib.hid (HSL.out.to hb3); clear n3 hb3) | (go_at_call 10; (with_reducible refine (HVT2.out _ HSL3.out).mono ?_); rintro e w4 ⟨rfl, hb4⟩; have H4 := Lib.hid (H3.out.next hb4); clear hb4) | (go_at_call 9; (with_reducible refine (HAW.out _ H4.out.tab).mono ?_); rintro e w2 ⟨rfl, hb2⟩))
            go_ret
            exact ⟨rfl, (H4.out.next hb2).below⟩

end Go.Proofs.YtlppcnjaacbhpaaGreatDoor
