/- The reference of encoding: canonical, Nat, Text, Valid, Depth; printed by genNa.py. strings.Builder at this program: copyCheck and WriteString (after the kit's own proofs for any program, which do not lay here). Encoding: length. Encoding, plain: what is written is read back. wallet.find. -/
import Derived.Test.YtjhlddlocpkhkaaGreatWgJ01
import Derived.Test.YtjhlddlocpkhkaaGreatShelf
import Derived.Lib.Builder
import Derived.Shelf.Strings.Builder1
import Derived.Test.YtjhlddlocpkhkaaGreatWgJ00
namespace Go.Proofs.YtjhlddlocpkhkaaGreat
open Go.RowKit
set_option maxRecDepth 100000
set_option linter.unusedVariables false
set_option maxHeartbeats 4000000
theorem isEmpty_pos {s : ByteArray} (h : 0 < s.size) : s.toList.isEmpty = false := by
  rw [ByteArray.toList_eq]
  obtain ⟨⟨l⟩⟩ := s
  cases l with
  | nil => simp [ByteArray.size] at h
  | cons b l => rfl
theorem r08_canonical (s : ByteArray) (w : World) :
    Calls Tryz.prog 129 #[.string s] w fun e w' => e = .returned (.bool (valid s)) ∧ w = w' := by
  by_cases h0 : 0 < s.size
  · have hv := Lib.hid (valid_pos h0)
    have k0 : ((s.size : Int) == 0) = false := by rw [beq_eq_false_iff_ne]; omega
    go_enter Tryz.func129, Tryz.ntmps129
    go_wp2
    all_goals
      go_ret
      exact ⟨ret_bool (by rw [hv.out]; first | (simp [*]; done) | (simp; intros; omega)), rfl⟩
  · obtain rfl : s = ByteArray.empty := by
      apply ByteArray.ext
      apply Array.eq_empty_of_size_eq_zero
      show s.size = 0
      omega
    go_enter Tryz.func129, Tryz.ntmps129
    go_wp2
    go_ret
    exact ⟨rfl, rfl⟩
theorem r08_Nat (a : ByteArray) (w : World) : Calls Tryz.prog 117 #[.string a] w fun e w' => e = .returned (.agg #[.int .i64 0, .string a, .string ⟨#[]⟩, .slice none 0 0]) ∧ Below w.heap.size w w' := by
  go_enter Tryz.func117, Tryz.ntmps117
  go_wp2
  refine bodyPost_ret (v := .agg #[.int .i64 0, .string a, .string ⟨#[]⟩, .slice none 0 0]) (by simp [results, Tryz.results117, go_sem]) rfl ?_
  exact ⟨rfl, (Below.refl _ _).alloc (Nat.le_refl _) _⟩
theorem r08_Text (a : ByteArray) (w : World) : Calls Tryz.prog 83 #[.string a] w fun e w' => e = .returned (.agg #[.int .i64 1, .string ⟨#[]⟩, .string a, .slice none 0 0]) ∧ Below w.heap.size w w' := by
  go_enter Tryz.func83, Tryz.ntmps83
  go_wp2
  refine bodyPost_ret (v := .agg #[.int .i64 1, .string ⟨#[]⟩, .string a, .slice none 0 0]) (by simp [results, Tryz.results83, go_sem]) rfl ?_
  exact ⟨rfl, (Below.refl _ _).alloc (Nat.le_refl _) _⟩
theorem r08_Valid (N : Nat) : ∀ (y : Its.One) (A : Option Addr) (c : Nat) (S : Nat → Prop) (w : World), y.2.2.2.size ≤ N → N ≤ 100000 → SlI w S A y.2.2.2 → (∀ g, S g → g < w.heap.size) → Calls Tryz.prog 108 #[valI y A c] w fun e w' => e = .returned (.bool (okOne y)) ∧ Below w.heap.size w w' := by
  induction N using Nat.strongRecOn with
  | ind N ih =>
  intro y A c S w hsz hN hsl hS
  obtain ⟨k, n, t, l⟩ := y
  have HIH := Lib.hid ih
  have HS := Lib.hid hS
  have HSZ := Lib.hid hsz
  have hl6 : l.len ≤ 100000 := Nat.le_trans (Its.len_size l) (Nat.le_trans hsz hN)
  have HV := Lib.hid (VaAt.start (k := k) (n := n) (t := t) (A := A) (l := l) (c := c) hsl hS)
  clear ih hsl hS hsz
  unfold valI
  dsimp only
  by_cases k0 : k = 0
  · subst k0
    rw [okOne_0]
    have HNV := Lib.hid (fun W => r08_canonical n W)
    have HNV2 := HNV.out
    by_cases hl : l.len = 0
    · have kl : ((l.len : Int) == 0) = true := by rw [hl]; rfl
      rw [decide_eq_true hl]
      clear HNV
      cases hv : valid n <;> cases ht : t.toList.isEmpty
      all_goals
        rw [hv] at HNV2
        have HN3 := Lib.hid HNV2
        clear HNV2 hv
        go_enter Tryz.func108, Tryz.ntmps108
        go_wp2_with (go_at_call 129; (with_reducible refine (HN3.out _).mono ?_); rintro e w' ⟨rfl, rfl⟩)
        go_ret
        exact ⟨by simp, (Below.refl _ _).alloc (Nat.le_refl _) _⟩
    · have kl : ((l.len : Int) == 0) = false := by rw [beq_eq_false_iff_ne]; omega
      rw [decide_eq_false hl]
      clear HNV
      cases hv : valid n <;> cases ht : t.toList.isEmpty
      all_goals
        rw [hv] at HNV2
        have HN3 := Lib.hid HNV2
        clear HNV2 hv
        go_enter Tryz.func108, Tryz.ntmps108
        go_wp2_with (go_at_call 129; (with_reducible refine (HN3.out _).mono ?_); rintro e w' ⟨rfl, rfl⟩)
        go_ret
        exact ⟨by simp, (Below.refl _ _).alloc (Nat.le_refl _) _⟩
  by_cases k1 : k = 1
  · subst k1
    rw [okOne_1]
    by_cases hl : l.len = 0
    · have kl : ((l.len : Int) == 0) = true := by rw [hl]; rfl
      rw [decide_eq_true hl]
      cases hn : n.toList.isEmpty
      all_goals
        go_enter Tryz.func108, Tryz.ntmps108
        go_wp2_with fail
        go_ret
        exact ⟨by simp, (Below.refl _ _).alloc (Nat.le_refl _) _⟩
    · have kl : ((l.len : Int) == 0) = false := by rw [beq_eq_false_iff_ne]; omega
      rw [decide_eq_false hl]
      cases hn : n.toList.isEmpty
      all_goals
        go_enter Tryz.func108, Tryz.ntmps108
        go_wp2_with fail
        go_ret
        exact ⟨by simp, (Below.refl _ _).alloc (Nat.le_refl _) _⟩
  by_cases k2 : k = 2
  · subst k2
    clear k0 k1
    rw [okOne_2]
    go_enter Tryz.func108, Tryz.ntmps108
    go_wp2_with fail
    go_loopw [3] (fun v wr => ∃ i : Nat, v = .int .i64 i ∧ i ≤ l.len ∧ okI (l.take i) = true ∧ VaAt w S 2 n t A l c wr) (fun v _ => l.len - (intOf v).toNat)
    case atStart => exact ⟨0, rfl, Nat.zero_le _, by rw [Its.take_zero]; rfl, HV.out⟩
    case round =>
      obtain ⟨i, rfl, hi, hok, hva⟩ := hrel
      have HOK := Lib.hid hok
      have HVA := Lib.hid hva
      obtain ⟨x0, x1, x2, x3⟩ := hva.all
      clear hok hva
      by_cases hlt : i < l.len
      · obtain ⟨y, hy⟩ := Its.get_lt hlt
        obtain ⟨g, off, A', c', rfl, hsg, y0, y1, y2, y3, hsl'⟩ := HVA.out.src.at_ hy
        have hys := Its.get_size hy
        have HTK := Lib.hid (Its.take_succ hy)
        have HNOT := Lib.hid (fun h => okI_not hy h)
        have HLT := Lib.hid hlt
        have hil : (i : Int) < (l.len : Int) := by omega
        have k1 : decide ((i : Int) < (l.len : Int)) = true := decide_eq_true (by omega)
        have k3 : (0 : Int) ≤ (i : Int) := by omega
        obtain ⟨yk, yn, yt, yl⟩ := y
        dsimp only at y0 y1 y2 y3 hys hsl'
        have hic := HIH.out yl.size (by have := HSZ.out; omega) (yk, yn, yt, yl) A' c' S wr (Nat.le_refl _) (by have := HSZ.out; omega) hsl' (fun g hg => Nat.lt_of_lt_of_le (HS.out g hg) HVA.out.bel.size)
        unfold valI at hic
        dsimp only at hic
        obtain ⟨b, hb⟩ : ∃ b, okOne (yk, yn, yt, yl) = b := ⟨_, rfl⟩
        rw [hb] at hic HNOT
        have HIC := Lib.hid hic
        have HB := Lib.hid hb
        clear hsg hsl' hys hy hlt hic hb
        cases b
        · have HF : Hid (okI l = false) := Lib.hid (HNOT.out rfl)
          go_wp2_with (go_at_call 108; (with_reducible refine HIC.out.mono ?_); rintro e w5 ⟨rfl, hb5⟩; have H5 := Lib.hid (HVA.out.next HS.out hb5); clear hb5)
          go_ret
          exact ⟨by rw [HF.out]; rfl, H5.out.bel⟩
        · go_wp2_with (go_at_call 108; (with_reducible refine HIC.out.mono ?_); rintro e w5 ⟨rfl, hb5⟩; have H5 := Lib.hid (HVA.out.next HS.out hb5); clear hb5)
          refine ⟨⟨i + 1, by go_num, HLT.out, okI_next HTK.out HOK.out HB.out, H5.out⟩, ?_⟩
          have := HLT.out
          show l.len - ((i : Int) + 1).toNat < l.len - (i : Int).toNat
          omega
      · obtain rfl : i = l.len := by omega
        have k1 : decide ((l.len : Int) < (l.len : Int)) = false := decide_eq_false (by omega)
        have HF : Hid (okI l = true) := Lib.hid (by have := HOK.out; rwa [Its.take_all l (Nat.le_refl _)] at this)
        cases hn : n.toList.isEmpty <;> cases ht : t.toList.isEmpty
        all_goals
          go_wp2_with fail
          go_ret
          exact ⟨by simp [HF.out, hn, ht], HVA.out.bel⟩
  · have q0 : (k == 0) = false := by rw [beq_eq_false_iff_ne]; exact k0
    have q1 : (k == 1) = false := by rw [beq_eq_false_iff_ne]; exact k1
    have q2 : (k == 2) = false := by rw [beq_eq_false_iff_ne]; exact k2
    rw [okOne_x k n t l k0 k1 k2]
    clear k0 k1 k2
    go_enter Tryz.func108, Tryz.ntmps108
    go_wp2_with fail
    go_ret
    exact ⟨rfl, HV.out.bel⟩
theorem r08_Depth (N : Nat) : ∀ (y : Its.One) (A : Option Addr) (c : Nat) (S : Nat → Prop) (w : World), y.2.2.2.size ≤ N → N ≤ 100000 → SlI w S A y.2.2.2 → (∀ g, S g → g < w.heap.size) → Calls Tryz.prog 139 #[valI y A c] w fun e w' => e = .returned (.int .i64 (deepOne y : Nat)) ∧ Below w.heap.size w w' := by
  induction N using Nat.strongRecOn with
  | ind N ih =>
  intro y A c S w hsz hN hsl hS
  obtain ⟨k, n, t, l⟩ := y
  have HIH := Lib.hid ih
  have HS := Lib.hid hS
  have HSZ := Lib.hid hsz
  have hl6 : l.len ≤ 100000 := Nat.le_trans (Its.len_size l) (Nat.le_trans hsz hN)
  have HDS := Lib.hid (show deepI l ≤ 100000 from Nat.le_trans (deepI_size l) (Nat.le_trans hsz hN))
  have HV := Lib.hid (VaAt.start (k := k) (n := n) (t := t) (A := A) (l := l) (c := c) hsl hS)
  clear ih hsl hS hsz
  unfold valI deepOne
  dsimp only
  by_cases k2 : k = 2
  · subst k2
    rw [if_pos rfl]
    go_enter Tryz.func139, Tryz.ntmps139
    go_wp2_with fail
    go_loopw [3, 4] (fun v3 v wr => ∃ i d : Nat, v3 = .int .i64 d ∧ v = .int .i64 i ∧ i ≤ l.len ∧ d = deepI (l.take i) ∧ d ≤ 100000 ∧ VaAt w S 2 n t A l c wr) (fun _ v _ => l.len - (intOf v).toNat)
    case atStart => exact ⟨0, 0, rfl, rfl, Nat.zero_le _, by rw [Its.take_zero]; rfl, Nat.zero_le _, HV.out⟩
    case round =>
      obtain ⟨i, d, rfl, rfl, hi, hd, hd6, hva⟩ := hrel
      have HD := Lib.hid hd
      have HVA := Lib.hid hva
      obtain ⟨x0, x1, x2, x3⟩ := hva.all
      clear hd hva
      by_cases hlt : i < l.len
      · obtain ⟨y, hy⟩ := Its.get_lt hlt
        obtain ⟨g, off, A', c', rfl, hsg, y0, y1, y2, y3, hsl'⟩ := HVA.out.src.at_ hy
        have hys := Its.get_size hy
        have HTK := Lib.hid (Its.take_succ hy)
        have HLT := Lib.hid hlt
        have hil : (i : Int) < (l.len : Int) := by omega
        have k1 : decide ((i : Int) < (l.len : Int)) = true := decide_eq_true (by omega)
        have k3 : (0 : Int) ≤ (i : Int) := by omega
        obtain ⟨yk, yn, yt, yl⟩ := y
        dsimp only at y0 y1 y2 y3 hys hsl'
        have hic := HIH.out yl.size (by have := HSZ.out; omega) (yk, yn, yt, yl) A' c' S wr (Nat.le_refl _) (by have := HSZ.out; omega) hsl' (fun g hg => Nat.lt_of_lt_of_le (HS.out g hg) HVA.out.bel.size)
        unfold valI at hic
        dsimp only at hic
        obtain ⟨b, hb⟩ : ∃ b, deepOne (yk, yn, yt, yl) = b := ⟨_, rfl⟩
        rw [hb] at hic
        obtain ⟨M, hM⟩ : ∃ M, max d b = M := ⟨_, rfl⟩
        have hmx : max (d : Int) (b : Int) = (M : Int) := by rw [← hM]; omega
        have HNX : Hid (M = deepI (l.take (i + 1))) := Lib.hid (by rw [HTK.out, deepI_app, deepI_one, ← HD.out, hb, hM])
        have HM6 : Hid (M ≤ 100000) := Lib.hid (by
          have h1 : deepOne (yk, yn, yt, yl) ≤ yl.size + 1 := by unfold deepOne; have := deepI_size yl; split <;> (first | omega | (dsimp only; omega))
          have h2 := HSZ.out
          rw [hb] at h1
          omega)
        have HIC := Lib.hid hic
        clear hsg hsl' hys hy hlt hic hb hM
        go_wp2_with (go_at_call 139; (with_reducible refine HIC.out.mono ?_); rintro e w5 ⟨rfl, hb5⟩; have H5 := Lib.hid (HVA.out.next HS.out hb5); clear hb5)
        refine ⟨⟨i + 1, M, rfl, by go_num, HLT.out, HNX.out, HM6.out, H5.out⟩, ?_⟩
        have := HLT.out
        show l.len - ((i : Int) + 1).toNat < l.len - (i : Int).toNat
        omega
      · obtain rfl : i = l.len := by omega
        have k1 : decide ((l.len : Int) < (l.len : Int)) = false := decide_eq_false (by omega)
        have HF : Hid (deepI l = d) := Lib.hid (by rw [HD.out, Its.take_all l (Nat.le_refl _)])
        go_wp2_with fail
        go_ret
        exact ⟨by rw [HF.out]; rfl, HVA.out.bel⟩
  · have q2 : (k != 2) = true := by rw [bne_iff_ne]; exact k2
    rw [if_neg k2]
    clear k2
    go_enter Tryz.func139, Tryz.ntmps139
    go_wp2_with fail
    go_ret
    exact ⟨rfl, HV.out.bel⟩
theorem bInfo : (Tryz.prog.info? 187).map (·.size) = some 2 := by kernel_rfl
theorem bLies : liesAt Tryz.prog Tryz.prog.depth 187 (2 / Tryz.prog.cellsOf 187) 0 187 1 = true := by kernel_rfl
theorem byteInfo : (Tryz.prog.info? 5).map (fun i => (i.zero, i.size, i.bytes)) = some (some (.int .u8 0), 1, 1) := by kernel_rfl
theorem copyCheck_used (b : Nat) (w : World) (h0 : w.cell? ⟨b, 0, none⟩ = some (.pointer (some ⟨b, 0, none⟩))) :
    Calls Tryz.prog 147 #[.pointer (some ⟨b, 0, none⟩)] w fun e w' => e = .returned (.tuple #[]) ∧ w' = w := by
  obtain ⟨j, hj, _⟩ := Option.map_eq_some_iff.1 bInfo
  go_enter Tryz.func147, Tryz.ntmps147
  go_wp2
  rw [Lib.run_neq_ptr_same w _ Tryz.underlying185 hj]
  go_wp2
  go_end0
  exact ⟨rfl, rfl⟩
theorem copyCheck_fresh (b : Nat) (w : World) (h0 : w.cell? ⟨b, 0, none⟩ = some (.pointer none)) (hsh : w.shape? b = some (187, 2)) (hfz : w.frozen? ⟨b, 0, none⟩ = false) :
    Calls Tryz.prog 147 #[.pointer (some ⟨b, 0, none⟩)] w fun e w' => e = .returned (.tuple #[]) ∧ w' = w.setCell ⟨b, 0, none⟩ (.pointer (some ⟨b, 0, none⟩)) := by
  obtain ⟨j, hj, hjs⟩ := Option.map_eq_some_iff.1 bInfo
  go_enter Tryz.func147, Tryz.ntmps147
  go_wp2
  rw [Lib.run_to_unsafe w ⟨b, 0, none⟩ Tryz.underlying185 Tryz.underlying195 hj (by rw [hjs]; decide) hsh (Nat.zero_lt_succ 1)]
  simp only [Result.andThen]
  rw [Oper.upon_value]
  go_wp2
  rw [run_callFunc_extern Tryz.func148 (by kernel_rfl) (by kernel_rfl) (by kernel_rfl) (e := Extern.AbiNoEscape.same) (by kernel_rfl)]
  rw [Lib.run_noEscape]
  simp only [Result.andThen]
  rw [Oper.upon_value]
  go_wp2
  rw [Lib.run_from_unsafe w ⟨b, 0, none⟩ Tryz.underlying195 Tryz.underlying185 hj hsh bLies]
  simp only [Result.andThen]
  rw [Oper.upon_value]
  go_wp2
  go_end0
  exact ⟨rfl, rfl⟩
theorem builder_copyCheck (B b : Nat) (bs : List Value) (w : World) (h : Lib.IsBuilder 187 5 B b bs w) :
    Calls Tryz.prog 147 #[.pointer (some ⟨b, 0, none⟩)] w fun e w' => e = .returned (.tuple #[]) ∧ (Lib.BuilderAt 187 5 B b (.pointer (some ⟨b, 0, none⟩)) bs w' ∧ Below B w w') := by
  rcases h with h | h
  · refine (copyCheck_fresh b w h.cell0 h.shape h.frozen0).mono ?_
    rintro e w' ⟨rfl, rfl⟩
    exact ⟨rfl, h.used _, (Below.refl B w).setCell (p := ⟨b, 0, none⟩) h.1 _⟩
  · refine (copyCheck_used b w h.cell0).mono ?_
    rintro e w' ⟨rfl, rfl⟩
    exact ⟨rfl, h, Below.refl B _⟩
theorem builder_WriteString (B b : Nat) (bs : List Value) (s : ByteArray) (w : World) (h : Lib.IsBuilder 187 5 B b bs w) (hlen : bs.length + s.size ≤ 140737488355328) (hBw : B ≤ w.heap.size) :
    Calls Tryz.prog 142 #[.pointer (some ⟨b, 0, none⟩), .string s] w fun e w' => e = .returned (.tuple #[.int .i64 s.size, .nilIface]) ∧ (Lib.BuilderAt 187 5 B b (.pointer (some ⟨b, 0, none⟩)) (bs ++ Lib.strCells s) w' ∧ Below B w w') := by
  obtain ⟨i0, hi, hz0, hz1, hz2⟩ := info_parts byteInfo
  have HCC := Lib.hid (builder_copyCheck B b bs w h)
  clear h
  go_enter Tryz.func142, Tryz.ntmps142
  go_wp2_with (go_at_call 147; (with_reducible refine HCC.out.mono ?_))
  rintro e w1 ⟨rfl, h1, hb1⟩
  obtain ⟨hB, v, hbk, hown, hne⟩ := h1
  have c0 : w1.cell? ⟨b, 0, none⟩ = some (.pointer (some ⟨b, 0, none⟩)) := by rw [Lib.cell_of_heap hbk]; rfl
  have c1 : w1.cell? ⟨b, 1, none⟩ = some v := by rw [Lib.cell_of_heap hbk]; rfl
  go_wp2_with (at_builtin; refine Lib.wpList_append_own_string _ rfl _ _ 183 9 rfl B 5 i0 Tryz.underlying183 Tryz.underlying9 hi hz0 hz1 hz2 _ _ _ rfl hown s rfl ?c3 ?c4 ?c5 ?_)
  case c3 => unfold maxLen; omega
  case c4 => omega
  case c5 => have := hb1.size; omega
  intro v' w2 hown' hgrow _
  have hlt : b < w1.heap.size := by
    rcases Nat.lt_or_ge b w1.heap.size with h' | h'
    · exact h'
    · simp [Array.getElem?_eq_none h'] at hbk
  have hb2 : w2.heap[b]? = some (.cells #[.pointer (some ⟨b, 0, none⟩), v] 187 (0, 0)) := by
    rw [hgrow.block b hlt (fun e => hne e.symm)]
    exact hbk
  have d0 : w2.cell? ⟨b, 0, none⟩ = some (.pointer (some ⟨b, 0, none⟩)) := by rw [Lib.cell_of_heap hb2]; rfl
  have d1 : w2.cell? ⟨b, 1, none⟩ = some v := by rw [Lib.cell_of_heap hb2]; rfl
  have f1 : w2.frozen? ⟨b, 1, none⟩ = false := Lib.frozen_of_heap hb2 1
  obtain ⟨ao, n', cap, rfl⟩ : ∃ ao n' cap, v' = .slice ao n' cap := by
    rcases hown'.2 with ⟨hv, _⟩ | ⟨g, cap, cur, hv, _⟩
    · exact ⟨_, _, _, hv⟩
    · exact ⟨_, _, _, hv⟩
  go_wp2
  go_ret2
  refine ⟨rfl, ?_, ?_⟩
  · exact Lib.BuilderAt.put (T := 187) (e := 5) hB hb2 (bs' := bs ++ Lib.strCells s) (by simpa [Lib.strCells_length] using hown') (by decide)
  · exact (hb1.grown hgrow (by have := hb1.size; omega) (fun k hk => (hown.lt k hk).1)).setCell (p := ⟨b, 1, none⟩) hB _
theorem conv_str {w : World} {g o : Nat} {L : List UInt8} (h : Row w g o L) (n c : Nat) (hn : L.length = n) :
    (convert 183 9 (.slice (some ⟨g, o, none⟩) n c)).run Tryz.prog w = .ok (.string ⟨L.toArray⟩) w := by
  subst hn
  exact run_convert_bytes_back w 183 9 5 ⟨g, o, none⟩ c L Tryz.underlying183 Tryz.underlying5 Tryz.underlying9 (fun j hj => by
    have := h j hj
    rw [getD_lt hj] at this
    rw [addr_add]; exact this)
theorem or128 : ∀ x : Nat, x < 256 → bits .or .u8 (x : Int) 128 = ((x % 128 + 128 : Nat) : Int) := by decide +kernel
theorem set_next {M : List UInt8} {k : Nat} (hk : M.length = k) (h10 : k < 10) (y : UInt8) : (M ++ List.replicate (10 - k) 0).set k y = (M ++ [y]) ++ List.replicate (10 - (k + 1)) 0 := by
  subst hk
  obtain ⟨r, hr⟩ : ∃ r, 10 - M.length = r + 1 := ⟨10 - M.length - 1, by omega⟩
  have hr2 : 10 - (M.length + 1) = r := by omega
  rw [hr, hr2, List.replicate_succ]
  simp
theorem arr10 : Tryz.prog.arrayLen 193 = 10 := by kernel_rfl
theorem slice10 (g k : Nat) (W : World) (hk : k + 1 ≤ 10) : (Instr.sliceAt 193 (.pointer (some ⟨g, 0, none⟩)) none (some (.int .i64 ((k : Int) + 1))) none).run Tryz.prog W = .ok (.slice (some ⟨g, 0, none⟩) (k + 1) 10) W := by
  rw [run_sliceAt_array_h W 193 ⟨g, 0, none⟩ Tryz.underlying193 .i64 ((k : Int) + 1) (by omega) (by rw [arr10]; omega)]
  have hs : (sizeOf (Tryz.prog.elem 193)).run Tryz.prog W = .ok 1 W := by kernel_rfl
  rw [hs]
  have e : ((k : Int) + 1).toNat = k + 1 := by omega
  simp only [Result.andThen, slicedAt, arr10, e]
  simp [Addr.add]
/-- What the loop of length holds. -/
structure LnAt (w : World) (n0 n k : Nat) (M : List UInt8) (wr : World) : Prop where
  len : M.length = k
  eq : lenB n0 = M ++ lenF (10 - k) n
  bd : (k = 0 ∧ n < 268435456) ∨ (k = 1 ∧ n < 2097152) ∨ (k = 2 ∧ n < 16384) ∨ (k = 3 ∧ n < 128)
  blk : Bk wr w.heap.size 193 (M ++ List.replicate (10 - k) 0)
  bel : Below w.heap.size w wr
theorem LnAt.next {w wr : World} {n0 n k : Nat} {M : List UInt8} (h : LnAt w n0 n k M wr) (hn : 128 ≤ n) (y : UInt8) (q : Nat) (hy : UInt8.ofNat (n % 128 + 128) = y) (hq : n / 128 = q) :
    LnAt w n0 q (k + 1) (M ++ [y]) (wr.setCell ⟨w.heap.size, k, none⟩ (.int .u8 ((y.toNat : Nat) : Int))) := by
  have hb := h.bd
  have hk3 : k ≤ 2 := by omega
  refine ⟨by rw [List.length_append, h.len]; rfl, ?_, by omega, ?_, h.bel.setCell (p := ⟨w.heap.size, k, none⟩) (Nat.le_refl _) _⟩
  · rw [h.eq]
    obtain ⟨f, hf⟩ : ∃ f, 10 - k = f + 1 := ⟨10 - k - 1, by omega⟩
    have hf2 : 10 - (k + 1) = f := by omega
    rw [hf, hf2]
    conv => lhs; unfold lenF
    rw [if_neg (by omega), hy, hq]
    simp
  · have := h.blk.set k y
    rwa [set_next h.len (by omega) y] at this
theorem LnAt.fin {w wr : World} {n0 n k : Nat} {M : List UInt8} (h : LnAt w n0 n k M wr) (hn : ¬ 128 ≤ n) (y : UInt8) (hy : UInt8.ofNat n = y) :
    (convert 183 9 (.slice (some ⟨w.heap.size, 0, none⟩) (k + 1) 10)).run Tryz.prog (wr.setCell ⟨w.heap.size, k, none⟩ (.int .u8 ((y.toNat : Nat) : Int))) = .ok (.string ⟨(lenB n0).toArray⟩) (wr.setCell ⟨w.heap.size, k, none⟩ (.int .u8 ((y.toNat : Nat) : Int))) := by
  have hb := h.bd
  have h1 := h.blk.set k y
  rw [set_next h.len (by omega) y] at h1
  have h2 := h1.row.take (k + 1)
  have hl := h.len
  have e : ((M ++ [y]) ++ List.replicate (10 - (k + 1)) 0).take (k + 1) = lenB n0 := by
    rw [List.take_append_of_le_length (by simp; omega), List.take_of_length_le (by simp; omega), h.eq]
    obtain ⟨f, hf⟩ : ∃ f, 10 - k = f + 1 := ⟨10 - k - 1, by omega⟩
    rw [hf]
    unfold lenF
    rw [if_pos (by omega), hy]
  rw [e] at h2
  exact conv_str h2 (k + 1) 10 (by rw [← e]; simp; omega)
theorem enc_length (n0 : Nat) (w : World) (hn : n0 < 268435456) : Calls Tryz.prog 143 #[.int .i64 n0] w fun e w' => e = .returned (.string ⟨(lenB n0).toArray⟩) ∧ Below w.heap.size w w' := by
  have HL := Lib.hid (show LnAt w n0 n0 0 [] (w.alloc (.cells (cellsOf (List.replicate 10 0)) 193)) from ⟨rfl, rfl, .inl ⟨rfl, hn⟩, Bk.new w _ _, (Below.refl _ _).alloc (Nat.le_refl _) _⟩)
  clear hn
  go_enter Tryz.func143, Tryz.ntmps143
  go_wp2
  go_loopw [0, 4] (fun v0 v4 wr => ∃ (n k : Nat) (M : List UInt8), v0 = .int .i64 n ∧ v4 = .int .i64 k ∧ LnAt w n0 n k M wr) (fun v0 _ _ => (intOf v0).toNat)
  case atStart => exact ⟨n0, 0, [], rfl, rfl, HL.out⟩
  case round =>
    obtain ⟨n, k, M, rfl, rfl, hln⟩ := hrel
    have HLN := Lib.hid hln
    have hb := hln.bd
    have hk3 : k ≤ 3 := by omega
    have hn8 : n < 268435456 := by omega
    clear hln hb
    have hlen := HLN.out.len
    have hc := HLN.out.blk.cell (k := k) (by simp; omega)
    have hf := HLN.out.blk.free k
    obtain ⟨z, hz⟩ : ∃ z, (((M ++ List.replicate (10 - k) 0).getD k 0).toNat : Nat) = z := ⟨_, rfl⟩
    rw [hz] at hc
    clear hlen hz
    by_cases h128 : 128 ≤ n
    · have k1 : decide ((128 : Int) ≤ (n : Int)) = true := decide_eq_true (by omega)
      obtain ⟨y, hy⟩ : ∃ y, UInt8.ofNat (n % 128 + 128) = y := ⟨_, rfl⟩
      have hyn : y.toNat = n % 128 + 128 := by rw [← hy, UInt8.toNat_ofNat']; omega
      have hv : bits .or .u8 ((n : Int) % 256) 128 = ((y.toNat : Nat) : Int) := by
        have h1 := or128 (n % 256) (by omega)
        have h2 : ((n : Int) % 256) = ((n % 256 : Nat) : Int) := by omega
        rw [h2, h1, hyn]
        congr 1
        omega
      obtain ⟨q, hq⟩ : ∃ q, n / 128 = q := ⟨_, rfl⟩
      have hq1 : (n : Int) / 128 = (q : Int) := by omega
      have HY := Lib.hid (And.intro hy (And.intro hyn (And.intro hq h128)))
      clear hy hyn hq
      have HNX := Lib.hid (LnAt.next HLN.out HY.out.2.2.2 y q HY.out.1 HY.out.2.2.1)
      go_wp2
      exact ⟨⟨q, k + 1, M ++ [y], rfl, rfl, HNX.out⟩, by have := HY.out.2.2; simp only [intOf]; omega⟩
    · have k1 : decide ((128 : Int) ≤ (n : Int)) = false := decide_eq_false (by omega)
      obtain ⟨y, hy⟩ : ∃ y, UInt8.ofNat n = y := ⟨_, rfl⟩
      have hyn : y.toNat = n := by rw [← hy, UInt8.toNat_ofNat']; omega
      have hv : (n : Int) % 256 = ((y.toNat : Nat) : Int) := by rw [hyn]; omega
      have HY := Lib.hid (And.intro hy (And.intro hyn h128))
      have HB := Lib.hid (HLN.out.blk.set k y)
      clear hy hyn
      have hsl : ∀ W, (Instr.sliceAt 193 (.pointer (some ⟨w.heap.size, 0, none⟩)) none (some (.int .i64 ((k : Int) + 1))) none).run Tryz.prog W = .ok (.slice (some ⟨w.heap.size, 0, none⟩) (k + 1) 10) W := fun W => slice10 _ _ _ (by omega)
      have hcv := LnAt.fin HLN.out HY.out.2.2 y HY.out.1
      rw [HY.out.2.1] at hcv
      have HBE := Lib.hid (HLN.out.bel.setCell (p := ⟨w.heap.size, k, none⟩) (Nat.le_refl _) (.int .u8 ((n : Nat) : Int)))
      clear hv
      go_wp2
      go_ret
      exact ⟨rfl, HBE.out⟩
end Go.Proofs.YtjhlddlocpkhkaaGreat

namespace Go.Proofs.YtjhlddlocpkhkaaGreat
open Go.RowKit
set_option maxRecDepth 100000
set_option linter.unusedVariables false
theorem sz_len (f : Nat) : ∀ (k n f' g : Nat) (rest : List UInt8), n < 128 ^ (f + 1) → f + 1 ≤ f' → f + 1 ≤ g → (0 < k → 0 < n) → szS f' k (lenF g n ++ rest) = some (n, rest) := by
  have base : ∀ (k n f' g : Nat) (rest : List UInt8), n < 128 → 1 ≤ f' → 1 ≤ g → (0 < k → 0 < n) → szS f' k (lenF g n ++ rest) = some (n, rest) := by
    intro k n f' g rest hn hf hg hk
    obtain ⟨f'', rfl⟩ : ∃ x, f' = x + 1 := ⟨f' - 1, by omega⟩
    obtain ⟨g', rfl⟩ : ∃ x, g = x + 1 := ⟨g - 1, by omega⟩
    have hb : (UInt8.ofNat n).toNat = n := by rw [UInt8.toNat_ofNat']; omega
    unfold lenF
    rw [if_pos hn]
    show szS (f'' + 1) k (UInt8.ofNat n :: rest) = _
    unfold szS
    rw [hb, if_neg (by omega), if_pos hn]
  induction f with
  | zero => exact fun k n f' g rest hn hf hg hk => base k n f' g rest (by simpa using hn) hf hg hk
  | succ f ih =>
    intro k n f' g rest hn hf hg hk
    by_cases h : n < 128
    · exact base k n f' g rest h (by omega) (by omega) hk
    · obtain ⟨f'', rfl⟩ : ∃ x, f' = x + 1 := ⟨f' - 1, by omega⟩
      obtain ⟨g', rfl⟩ : ∃ x, g = x + 1 := ⟨g - 1, by omega⟩
      have hb : (UInt8.ofNat (n % 128 + 128)).toNat = n % 128 + 128 := by rw [UInt8.toNat_ofNat']; omega
      have hd : n / 128 < 128 ^ (f + 1) := by
        rw [Nat.div_lt_iff_lt_mul (by decide)]
        have : 128 ^ (f + 1 + 1) = 128 ^ (f + 1) * 128 := Nat.pow_succ ..
        omega
      have he := ih (k + 1) (n / 128) f'' g' rest hd (by omega) (by omega) (by intro; omega)
      unfold lenF
      rw [if_neg h]
      show szS (f'' + 1) k (UInt8.ofNat (n % 128 + 128) :: (lenF g' (n / 128) ++ rest)) = _
      unfold szS
      rw [hb, if_neg (by omega), if_neg (by omega), he]
      dsimp only
      congr 2
      omega
theorem size0 {s : ByteArray} (h : s.size = 0) : s = E0 := by
  have h1 : s.data.toList = [] := List.eq_nil_of_length_eq_zero (by rw [← h]; simp)
  have h2 : s.data = #[] := by simpa using h1
  have h3 : (E0 : ByteArray).data = #[] := by decide
  cases s
  have : (E0 : ByteArray) = ⟨#[]⟩ := by decide
  rw [this]
  simpa using h2
theorem len0 {l : Its} (h : l.len = 0) : l = .nil := by
  cases l with
  | nil => rfl
  | cons => simp [Its.len] at h
theorem E0_data : (E0 : ByteArray).data.toList = [] := by decide
/-- The first item of what is written. -/
theorem rd1_enc {lists : Nat} {y : Its.One} {rest : List UInt8} (ho : okOne y = true) (hd : deepOne y + lists ≤ deepMax) (hl : (encOne y ++ rest).length ≤ textMax)
    (ih : y.1 = 2 → rdA (lists + 1) (encI y.2.2.2) = .ok y.2.2.2) : rdO lists (encOne y ++ rest) = .ok (y, rest) := by
  obtain ⟨k, n, t, l⟩ := y
  unfold okOne Its.one at ho
  simp only [okI, Bool.and_true] at ho
  unfold deepOne at hd
  dsimp only at hd ih
  have hbl : (bodyOne (k, n, t, l)).length ≤ textMax := by unfold encOne at hl; simp only [List.length_append, List.length_cons] at hl; omega
  have hsz : szS 5 0 (lenB (bodyOne (k, n, t, l)).length ++ (bodyOne (k, n, t, l) ++ rest)) = some ((bodyOne (k, n, t, l)).length, bodyOne (k, n, t, l) ++ rest) :=
    sz_len 4 0 _ 5 10 _ (by unfold textMax at hbl; omega) (by omega) (by omega) (by omega)
  have he : encOne (k, n, t, l) ++ rest = UInt8.ofNat k.toNat :: (lenB (bodyOne (k, n, t, l)).length ++ (bodyOne (k, n, t, l) ++ rest)) := by unfold encOne; simp
  rw [he]
  unfold rdO rd1
  have hlt : ¬ (bodyOne (k, n, t, l) ++ rest).length < (bodyOne (k, n, t, l)).length := by rw [List.length_append]; omega
  have ht : (bodyOne (k, n, t, l) ++ rest).take (bodyOne (k, n, t, l)).length = bodyOne (k, n, t, l) := by simp
  have hdr : (bodyOne (k, n, t, l) ++ rest).drop (bodyOne (k, n, t, l)).length = rest := by simp
  dsimp only
  rw [hsz]
  dsimp only
  rw [if_neg hlt, ht, hdr]
  by_cases k0 : k = 0
  · subst k0
    rw [if_pos rfl] at ho
    simp only [Bool.and_eq_true, decide_eq_true_eq] at ho
    obtain ⟨hv, h1, h2⟩ := ho
    rw [size0 h1, len0 h2]
    have hbody : bodyOne (0, n, E0, .nil) = n.data.toList := by unfold bodyOne; simp [E0_data, encI]
    rw [hbody]
    have hn : (⟨n.data.toList.toArray⟩ : ByteArray) = n := by simp
    rw [hn]
    simp [hv]
  · rw [if_neg k0] at ho
    by_cases k1 : k = 1
    · subst k1
      rw [if_pos rfl] at ho
      simp only [Bool.and_eq_true, decide_eq_true_eq] at ho
      rw [size0 ho.1, len0 ho.2]
      have hbody : bodyOne (1, E0, t, .nil) = t.data.toList := by unfold bodyOne; simp [E0_data, encI]
      rw [hbody]
      have hn : (⟨t.data.toList.toArray⟩ : ByteArray) = t := by simp
      rw [hn]
      simp
    · rw [if_neg k1] at ho
      by_cases k2 : k = 2
      · subst k2
        rw [if_pos rfl] at ho hd
        simp only [Bool.and_eq_true, decide_eq_true_eq] at ho
        obtain ⟨hv, h1, h2⟩ := ho
        rw [size0 h1, size0 h2]
        have hbody : bodyOne (2, E0, E0, l) = encI l := by unfold bodyOne; simp [E0_data]
        rw [hbody, ih rfl]
        have : lists ≠ deepMax := by omega
        simp [this]
      · rw [if_neg k2] at ho
        cases ho
theorem rd_enc (l : Its) : ∀ lists, okI l = true → deepI l + lists ≤ deepMax → (encI l).length ≤ textMax → rdA lists (encI l) = .ok l := by
  induction l with
  | nil => exact fun _ _ _ _ => rfl
  | cons k n t l r ihl ihr =>
    intro lists ho hd hl
    have ho1 : okOne (k, n, t, l) = true := by unfold okOne Its.one; simp only [okI, Bool.and_true]; simp only [okI, Bool.and_eq_true] at ho; exact ho.1
    have ho2 : okI r = true := by simp only [okI, Bool.and_eq_true] at ho; exact ho.2
    have hd1 : deepOne (k, n, t, l) + lists ≤ deepMax := by unfold deepOne; simp only [deepI] at hd; dsimp only; omega
    have hd2 : deepI r + lists ≤ deepMax := by simp only [deepI] at hd; omega
    have he : encI (.cons k n t l r) = encOne (k, n, t, l) ++ encI r := rfl
    rw [he] at hl ⊢
    have hl2 : (encI r).length ≤ textMax := by rw [List.length_append] at hl; omega
    rw [rdA_cons lists (by unfold encOne; simp)]
    have h1 := rd1_enc (lists := lists) (rest := encI r) ho1 hd1 hl (fun h2 => by
      have h2' : k = 2 := h2
      subst h2'
      unfold deepOne at hd1
      rw [if_pos rfl] at hd1
      refine ihl (lists + 1) ?_ ?_ ?_
      · unfold okOne Its.one at ho1
        simp [okI] at ho1
        exact ho1.1
      · show deepI l + (lists + 1) ≤ deepMax
        dsimp only at hd1
        omega
      · have : (encI l).length ≤ (encOne (2, n, t, l)).length := by unfold encOne bodyOne; simp only [List.length_cons, List.length_append]; omega
        rw [List.length_append] at hl
        show (encI l).length ≤ textMax
        omega)
    rw [h1]
    dsimp only
    rw [ihr lists ho2 hd2 hl2]
/-- What is written is read back. -/
theorem dec_enc {y : Its.One} (h : (encS y).2 = 0) : decS (encS y).1 = .ok y := by
  unfold encS at h ⊢
  split at h
  · rename_i ho
    rw [if_pos ho]
    split at h
    · rename_i hd
      rw [if_pos hd]
      split at h
      · rename_i hl
        rw [if_pos hl]
        unfold decS
        have hs : (⟨(encOne y).toArray⟩ : ByteArray).size = (encOne y).length := by show (encOne y).toArray.size = _; simp
        rw [if_neg (by rw [hs]; omega)]
        have h1 := rd1_enc (lists := 0) (y := y) (rest := []) ho (by omega) (by simpa using hl) (fun h2 => by
          obtain ⟨k, n, t, l⟩ := y
          have h2' : k = 2 := h2
          subst h2'
          unfold deepOne at hd
          rw [if_pos rfl] at hd
          refine rd_enc l 1 ?_ (by dsimp only at hd; omega) ?_
          · unfold okOne Its.one at ho
            simp [okI] at ho
            exact ho.1
          · have : (encI l).length ≤ (encOne (2, n, t, l)).length := by unfold encOne bodyOne; simp only [List.length_cons, List.length_append]; omega
            show (encI l).length ≤ textMax
            omega)
        rw [List.append_nil] at h1
        simp [h1]
      · cases h
    · cases h
  · cases h
end Go.Proofs.YtjhlddlocpkhkaaGreat

namespace Go.Proofs.YtjhlddlocpkhkaaGreat
open Go.RowKit
set_option maxRecDepth 100000
set_option linter.unusedVariables false
set_option maxHeartbeats 4000000
/-- A count: scope, period, count. -/
abbrev Uz := ByteArray × Int × Int
def cellsU : List Uz → List Value
  | [] => []
  | (s, p, c) :: r => .string s :: .int .i64 p :: .int .i64 c :: cellsU r
theorem cellsU_get {us : List Uz} {i : Nat} {s : ByteArray} {p c : Int} (h : us[i]? = some (s, p, c)) : (cellsU us)[i * 3]? = some (.string s) ∧ (cellsU us)[i * 3 + 1]? = some (.int .i64 p) ∧ (cellsU us)[i * 3 + 2]? = some (.int .i64 c) := by
  induction us generalizing i with
  | nil => simp at h
  | cons x r ih =>
    obtain ⟨s', p', c'⟩ := x
    cases i with
    | zero =>
      simp only [List.getElem?_cons_zero, Option.some.injEq, Prod.mk.injEq] at h
      obtain ⟨rfl, rfl, rfl⟩ := h
      exact ⟨rfl, rfl, rfl⟩
    | succ i =>
      simp only [List.getElem?_cons_succ] at h
      obtain ⟨a, b, d⟩ := ih h
      have e1 : (i + 1) * 3 = i * 3 + 1 + 1 + 1 := by omega
      rw [e1]
      simp only [cellsU, List.getElem?_cons_succ]
      exact ⟨a, b, d⟩
theorem cellsU_len (us : List Uz) : (cellsU us).length = us.length * 3 := by
  induction us with
  | nil => rfl
  | cons x r ih => obtain ⟨s, p, c⟩ := x; simp only [cellsU, List.length_cons, ih]; omega
/-- A slice of counts. -/
def SlU (w : World) (S : Nat → Prop) (A : Option Addr) (us : List Uz) : Prop := RowC w S A us.length (cellsU us)
theorem SlU.at_ {w : World} {S : Nat → Prop} {A : Option Addr} {us : List Uz} (h : SlU w S A us) {i : Nat} {s : ByteArray} {p c : Int} (hi : us[i]? = some (s, p, c)) :
    ∃ g off, A = some ⟨g, off, none⟩ ∧ S g ∧ w.cell? ⟨g, off + i * 3, none⟩ = some (.string s) ∧ w.cell? ⟨g, off + i * 3 + 1, none⟩ = some (.int .i64 p) ∧ w.cell? ⟨g, off + i * 3 + 2, none⟩ = some (.int .i64 c) := by
  obtain ⟨g, off, e, hg, hc⟩ := h (Nat.lt_of_le_of_lt (Nat.zero_le _) (List.getElem?_eq_some_iff.1 hi).1)
  obtain ⟨a, b, d⟩ := cellsU_get hi
  exact ⟨g, off, e, hg, hc _ _ a, hc _ _ b, hc _ _ d⟩
def isU (sc : ByteArray) (z : Int) (u : Uz) : Bool := u.1.toList == sc.toList && u.2.1 == z
theorem find_1 (s : ByteArray) (p c : Int) (sc : ByteArray) (z : Int) (b1 b2 : Nat) (w : World) (h1 : w.cell? ⟨b1, 0, none⟩ = some (.string sc)) (h2 : w.cell? ⟨b2, 0, none⟩ = some (.int .i64 z)) (l1 : b1 < w.heap.size) (l2 : b2 < w.heap.size) :
    Calls Tryz.prog 106 #[.agg #[.string s, .int .i64 p, .int .i64 c], .pointer (some ⟨b1, 0, none⟩), .pointer (some ⟨b2, 0, none⟩)] w fun e w' => e = .returned (.bool (isU sc z (s, p, c))) ∧ Below w.heap.size w w' := by
  have k1 : ¬ w.heap.size = b1 := by omega
  have k2 : ¬ w.heap.size = b2 := by omega
  have k3 : ¬ b1 = w.heap.size := by omega
  have k4 : ¬ b2 = w.heap.size := by omega
  unfold isU
  dsimp only
  go_enter Tryz.func106, Tryz.ntmps106
  cases hs : s.toList == sc.toList
  · go_wp2_with fail
    go_ret
    exact ⟨by simp, (Below.refl _ _).alloc (Nat.le_refl _) _⟩
  · go_wp2_with fail
    go_ret
    exact ⟨by simp, (Below.refl _ _).alloc (Nat.le_refl _) _⟩
/-- The index of the first count that is meant, or -1. -/
def idxU (f : Uz → Bool) : List Uz → Nat → Int
  | [], _ => -1
  | x :: r, k => if f x = true then (k : Int) else idxU f r (k + 1)
theorem drop_at {us : List Uz} {k : Nat} {x : Uz} (h : us[k]? = some x) : us.drop k = x :: us.drop (k + 1) := by
  obtain ⟨h1, h2⟩ := List.getElem?_eq_some_iff.1 h
  rw [List.drop_eq_getElem_cons h1, h2]
structure FdAt (w : World) (S : Nat → Prop) (A : Option Addr) (us : List Uz) (sc : ByteArray) (z : Int) (b1 b2 : Nat) (wr : World) : Prop where
  src : SlU wr S A us
  c1 : wr.cell? ⟨b1, 0, none⟩ = some (.string sc)
  c2 : wr.cell? ⟨b2, 0, none⟩ = some (.int .i64 z)
  bel : Below w.heap.size w wr
theorem FdAt.next {w wr w' : World} {S : Nat → Prop} {A : Option Addr} {us : List Uz} {sc : ByteArray} {z : Int} {b1 b2 : Nat} (h : FdAt w S A us sc z b1 b2 wr) (hS : ∀ g, S g → g < w.heap.size) (l1 : b1 < w.heap.size) (l2 : b2 < w.heap.size) (hb : Below wr.heap.size wr w') : FdAt w S A us sc z b1 b2 w' :=
  ⟨RowC.keep h.src (fun p hp => hb.cell (Nat.lt_of_lt_of_le (hS _ hp) h.bel.size)), (hb.cell (p := ⟨b1, 0, none⟩) (Nat.lt_of_lt_of_le l1 h.bel.size)).trans h.c1, (hb.cell (p := ⟨b2, 0, none⟩) (Nat.lt_of_lt_of_le l2 h.bel.size)).trans h.c2, below2 h.bel hb⟩
theorem index_U (us : List Uz) (A : Option Addr) (n c : Nat) (S : Nat → Prop) (sc : ByteArray) (z : Int) (b1 b2 : Nat) (w : World) (hn : us.length = n) (hm : n ≤ 100000) (h : SlU w S A us) (hS : ∀ g, S g → g < w.heap.size) (h1 : w.cell? ⟨b1, 0, none⟩ = some (.string sc)) (h2 : w.cell? ⟨b2, 0, none⟩ = some (.int .i64 z)) (l1 : b1 < w.heap.size) (l2 : b2 < w.heap.size) :
    Calls Tryz.prog 105 #[.slice A n c, .func (.func 106) #[] #[.pointer (some ⟨b1, 0, none⟩), .pointer (some ⟨b2, 0, none⟩)]] w fun e w' => e = .returned (.int .i64 (idxU (isU sc z) us 0)) ∧ Below w.heap.size w w' := by
  have HL := Lib.hid (And.intro hS (And.intro l1 (And.intro l2 hn)))
  have HF := Lib.hid (show FdAt w S A us sc z b1 b2 w from ⟨h, h1, h2, Below.refl _ _⟩)
  obtain ⟨R, hR⟩ : ∃ R, idxU (isU sc z) us 0 = R := ⟨_, rfl⟩
  have HR := Lib.hid hR
  rw [hR]
  clear h hS h1 h2 l1 l2 hn hR
  go_enter Tryz.func105, Tryz.ntmps105
  go_wp2_with fail
  go_loopw [8] (fun v wr => ∃ k : Nat, k ≤ n ∧ v = .int .i64 k ∧ idxU (isU sc z) (us.drop k) k = R ∧ FdAt w S A us sc z b1 b2 wr) (fun v _ => n - (intOf v).toNat)
  case atStart => exact ⟨0, by omega, rfl, HR.out, HF.out⟩
  case round =>
    obtain ⟨k, hk, rfl, hx, hf⟩ := hrel
    have HX := Lib.hid hx
    have HFD := Lib.hid hf
    clear hx hf
    by_cases hlt : k < n
    · obtain ⟨⟨s, p, q⟩, hu⟩ : ∃ u, us[k]? = some u := ⟨us[k]'(by rw [HL.out.2.2.2]; exact hlt), List.getElem?_eq_getElem _⟩
      obtain ⟨g, off, rfl, hsg, y0, y1, y2⟩ := HFD.out.src.at_ hu
      have HD := Lib.hid (drop_at hu)
      have HC := Lib.hid (find_1 s p q sc z b1 b2 wr HFD.out.c1 HFD.out.c2 (Nat.lt_of_lt_of_le HL.out.2.1 HFD.out.bel.size) (Nat.lt_of_lt_of_le HL.out.2.2.1 HFD.out.bel.size))
      obtain ⟨b, hb⟩ : ∃ b, isU sc z (s, p, q) = b := ⟨_, rfl⟩
      rw [hb] at HC
      have HB := Lib.hid hb
      have HLT := Lib.hid hlt
      have hil : (k : Int) < (n : Int) := by omega
      clear hu hsg hb hlt
      cases b
      · have hnx : idxU (isU sc z) (us.drop (k + 1)) (k + 1) = R := by
          have := HX.out
          rw [HD.out] at this
          simp only [idxU, HB.out] at this
          simpa using this
        have HNX := Lib.hid hnx
        clear hnx
        go_wp2_with (go_at_call 106; (with_reducible refine HC.out.mono ?_); rintro e w5 ⟨rfl, hb5⟩; have H5 := Lib.hid (HFD.out.next HL.out.1 HL.out.2.1 HL.out.2.2.1 hb5); clear hb5)
        go_roundw
        case rel => exact ⟨k + 1, HLT.out, by go_num, HNX.out, H5.out⟩
        case measure => have := HLT.out; simp only [intOf]; omega
      · have hkr : (k : Int) = R := by
          have := HX.out
          rw [HD.out] at this
          simp only [idxU, HB.out] at this
          simpa using this
        have HKR := Lib.hid hkr
        clear hkr
        go_wp2_with (go_at_call 106; (with_reducible refine HC.out.mono ?_); rintro e w5 ⟨rfl, hb5⟩; have H5 := Lib.hid (HFD.out.next HL.out.1 HL.out.2.1 HL.out.2.2.1 hb5); clear hb5)
        go_ret
        exact ⟨by rw [← HKR.out]; rfl, H5.out.bel⟩
    · obtain rfl : k = n := by omega
      have hr1 : R = -1 := by
        have := HX.out
        rw [List.drop_eq_nil_of_le (by rw [HL.out.2.2.2]; exact Nat.le_refl _)] at this
        exact this.symm
      have HR1 := Lib.hid hr1
      clear hr1
      go_wp2_with fail
      go_ret
      exact ⟨by rw [HR1.out]; rfl, HFD.out.bel⟩
end Go.Proofs.YtjhlddlocpkhkaaGreat
