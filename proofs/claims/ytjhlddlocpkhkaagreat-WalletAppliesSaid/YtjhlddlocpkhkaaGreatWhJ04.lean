/- The reference of encoding: canonical, Nat, Text, Valid, Depth; printed by genNa.py. strings.Builder at this program: copyCheck and WriteString (after the kit's own proofs for any program, which do not lay here). Encoding: length. -/
import Derived.Test.YtjhlddlocpkhkaaGreatWhJ03
import Derived.Test.YtjhlddlocpkhkaaGreatShelf
import Derived.Lib.Builder
import Derived.Shelf.Strings.Builder1
namespace Go.Proofs.YtjhlddlocpkhkaaGreat
open Go.RowKit
set_option maxRecDepth 100000
set_option linter.unusedVariables false
set_option maxHeartbeats 4000000
theorem isEmpty_pos {s : ByteArray} (h : 0 < s.size) : s.toList.isEmpty = false := by
  rw [ByteArray.toList_eq]
  obtain ⟨⟨l⟩⟩ := s
  cases l with
  | nil => simp [ByteArray.size] at h
  | cons b l => rfl
theorem r08_canonical (s : ByteArray) (w : World) :
    Calls Tryz.prog 129 #[.string s] w fun e w' => e = .returned (.bool (valid s)) ∧ w = w' := by
  by_cases h0 : 0 < s.size
  · have hv := Lib.hid (valid_pos h0)
    have k0 : ((s.size : Int) == 0) = false := by rw [beq_eq_false_iff_ne]; omega
    go_enter Tryz.func129, Tryz.ntmps129
    go_wp2
    all_goals
      go_ret
      exact ⟨ret_bool (by rw [hv.out]; first | (simp [*]; done) | (simp; intros; omega)), rfl⟩
  · obtain rfl : s = ByteArray.empty := by
      apply ByteArray.ext
      apply Array.eq_empty_of_size_eq_zero
      show s.size = 0
      omega
    go_enter Tryz.func129, Tryz.ntmps129
    go_wp2
    go_ret
    exact ⟨rfl, rfl⟩
theorem r08_Valid (N : Nat) : ∀ (y : Its.One) (A : Option Addr) (c : Nat) (S : Nat → Prop) (w : World), y.2.2.2.size ≤ N → N ≤ 100000 → SlI w S A y.2.2.2 → (∀ g, S g → g < w.heap.size) → Calls Tryz.prog 108 #[valI y A c] w fun e w' => e = .returned (.bool (okOne y)) ∧ Below w.heap.size w w' := by
  induction N using Nat.strongRecOn with
  | ind N ih =>
  intro y A c S w hsz hN hsl hS
  obtain ⟨k, n, t, l⟩ := y
  have HIH := Lib.hid ih
  have HS := Lib.hid hS
  have HSZ := Lib.hid hsz
  have hl6 : l.len ≤ 100000 := Nat.le_trans (Its.len_size l) (Nat.le_trans hsz hN)
  have HV := Lib.hid (VaAt.start (k := k) (n := n) (t := t) (A := A) (l := l) (c := c) hsl hS)
  clear ih hsl hS hsz
  unfold valI
  dsimp only
  by_cases k0 : k = 0
  · subst k0
    rw [okOne_0]
    have HNV := Lib.hid (fun W => r08_canonical n W)
    have HNV2 := HNV.out
    by_cases hl : l.len = 0
    · have kl : ((l.len : Int) == 0) = true := by rw [hl]; rfl
      rw [decide_eq_true hl]
      clear HNV
      cases hv : valid n <;> cases ht : t.toList.isEmpty
      all_goals
        rw [hv] at HNV2
        have HN3 := Lib.hid HNV2
        clear HNV2 hv
        go_enter Tryz.func108, Tryz.ntmps108
        go_wp2_with (go_at_call 129; (with_reducible refine (HN3.out _).mono ?_); rintro e w' ⟨rfl, rfl⟩)
        go_ret
        exact ⟨by simp, (Below.refl _ _).alloc (Nat.le_refl _) _⟩
    · have kl : ((l.len : Int) == 0) = false := by rw [beq_eq_false_iff_ne]; omega
      rw [decide_eq_false hl]
      clear HNV
      cases hv : valid n <;> cases ht : t.toList.isEmpty
      all_goals
        rw [hv] at HNV2
        have HN3 := Lib.hid HNV2
        clear HNV2 hv
        go_enter Tryz.func108, Tryz.ntmps108
        go_wp2_with (go_at_call 129; (with_reducible refine (HN3.out _).mono ?_); rintro e w' ⟨rfl, rfl⟩)
        go_ret
        exact ⟨by simp, (Below.refl _ _).alloc (Nat.le_refl _) _⟩
  by_cases k1 : k = 1
  · subst k1
    rw [okOne_1]
    by_cases hl : l.len = 0
    · have kl : ((l.len : Int) == 0) = true := by rw [hl]; rfl
      rw [decide_eq_true hl]
      cases hn : n.toList.isEmpty
      all_goals
        go_enter Tryz.func108, Tryz.ntmps108
        go_wp2_with fail
        go_ret
        exact ⟨by simp, (Below.refl _ _).alloc (Nat.le_refl _) _⟩
    · have kl : ((l.len : Int) == 0) = false := by rw [beq_eq_false_iff_ne]; omega
      rw [decide_eq_false hl]
      cases hn : n.toList.isEmpty
      all_goals
        go_enter Tryz.func108, Tryz.ntmps108
        go_wp2_with fail
        go_ret
        exact ⟨by simp, (Below.refl _ _).alloc (Nat.le_refl _) _⟩
  by_cases k2 : k = 2
  · subst k2
    clear k0 k1
    rw [okOne_2]
    go_enter Tryz.func108, Tryz.ntmps108
    go_wp2_with fail
    go_loopw [3] (fun v wr => ∃ i : Nat, v = .int .i64 i ∧ i ≤ l.len ∧ okI (l.take i) = true ∧ VaAt w S 2 n t A l c wr) (fun v _ => l.len - (intOf v).toNat)
    case atStart => exact ⟨0, rfl, Nat.zero_le _, by rw [Its.take_zero]; rfl, HV.out⟩
    case round =>
      obtain ⟨i, rfl, hi, hok, hva⟩ := hrel
      have HOK := Lib.hid hok
      have HVA := Lib.hid hva
      obtain ⟨x0, x1, x2, x3⟩ := hva.all
      clear hok hva
      by_cases hlt : i < l.len
      · obtain ⟨y, hy⟩ := Its.get_lt hlt
        obtain ⟨g, off, A', c', rfl, hsg, y0, y1, y2, y3, hsl'⟩ := HVA.out.src.at_ hy
        have hys := Its.get_size hy
        have HTK := Lib.hid (Its.take_succ hy)
        have HNOT := Lib.hid (fun h => okI_not hy h)
        have HLT := Lib.hid hlt
        have hil : (i : Int) < (l.len : Int) := by omega
        have k1 : decide ((i : Int) < (l.len : Int)) = true := decide_eq_true (by omega)
        have k3 : (0 : Int) ≤ (i : Int) := by omega
        obtain ⟨yk, yn, yt, yl⟩ := y
        dsimp only at y0 y1 y2 y3 hys hsl'
        have hic := HIH.out yl.size (by have := HSZ.out; omega) (yk, yn, yt, yl) A' c' S wr (Nat.le_refl _) (by have := HSZ.out; omega) hsl' (fun g hg => Nat.lt_of_lt_of_le (HS.out g hg) HVA.out.bel.size)
        unfold valI at hic
        dsimp only at hic
        obtain ⟨b, hb⟩ : ∃ b, okOne (yk, yn, yt, yl) = b := ⟨_, rfl⟩
        rw [hb] at hic HNOT
        have HIC := Lib.hid hic
        have HB := Lib.hid hb
        clear hsg hsl' hys hy hlt hic hb
        cases b
        · have HF : Hid (okI l = false) := Lib.hid (HNOT.out rfl)
          go_wp2_with (go_at_call 108; (with_reducible refine HIC.out.mono ?_); rintro e w5 ⟨rfl, hb5⟩; have H5 := Lib.hid (HVA.out.next HS.out hb5); clear hb5)
          go_ret
          exact ⟨by rw [HF.out]; rfl, H5.out.bel⟩
        · go_wp2_with (go_at_call 108; (with_reducible refine HIC.out.mono ?_); rintro e w5 ⟨rfl, hb5⟩; have H5 := Lib.hid (HVA.out.next HS.out hb5); clear hb5)
          refine ⟨⟨i + 1, by go_num, HLT.out, okI_next HTK.out HOK.out HB.out, H5.out⟩, ?_⟩
          have := HLT.out
          show l.len - ((i : Int) + 1).toNat < l.len - (i : Int).toNat
          omega
      · obtain rfl : i = l.len := by omega
        have k1 : decide ((l.len : Int) < (l.len : Int)) = false := decide_eq_false (by omega)
        have HF : Hid (okI l = true) := Lib.hid (by have := HOK.out; rwa [Its.take_all l (Nat.le_refl _)] at this)
        cases hn : n.toList.isEmpty <;> cases ht : t.toList.isEmpty
        all_goals
          go_wp2_with fail
          go_ret
          exact ⟨by simp [HF.out, hn, ht], HVA.out.bel⟩
  · have q0 : (k == 0) = false := by rw [beq_eq_false_iff_ne]; exact k0
    have q1 : (k == 1) = false := by rw [beq_eq_false_iff_ne]; exact k1
    have q2 : (k == 2) = false := by rw [beq_eq_false_iff_ne]; exact k2
    rw [okOne_x k n t l k0 k1 k2]
    clear k0 k1 k2
    go_enter Tryz.func108, Tryz.ntmps108
    go_wp2_with fail
    go_ret
    exact ⟨rfl, HV.out.bel⟩
theorem bInfo : (Tryz.prog.info? 187).map (·.size) = some 2 := by kernel_rfl
theorem bLies : liesAt Tryz.prog Tryz.prog.depth 187 (2 / Tryz.prog.cellsOf 187) 0 187 1 = true := by kernel_rfl
theorem byteInfo : (Tryz.prog.info? 5).map (fun i => (i.zero, i.size, i.bytes)) = some (some (.int .u8 0), 1, 1) := by kernel_rfl
theorem copyCheck_used (b : Nat) (w : World) (h0 : w.cell? ⟨b, 0, none⟩ = some (.pointer (some ⟨b, 0, none⟩))) :
    Calls Tryz.prog 147 #[.pointer (some ⟨b, 0, none⟩)] w fun e w' => e = .returned (.tuple #[]) ∧ w' = w := by
  obtain ⟨j, hj, _⟩ := Option.map_eq_some_iff.1 bInfo
  go_enter Tryz.func147, Tryz.ntmps147
  go_wp2
  rw [Lib.run_neq_ptr_same w _ Tryz.underlying185 hj]
  go_wp2
  go_end0
  exact ⟨rfl, rfl⟩
theorem copyCheck_fresh (b : Nat) (w : World) (h0 : w.cell? ⟨b, 0, none⟩ = some (.pointer none)) (hsh : w.shape? b = some (187, 2)) (hfz : w.frozen? ⟨b, 0, none⟩ = false) :
    Calls Tryz.prog 147 #[.pointer (some ⟨b, 0, none⟩)] w fun e w' => e = .returned (.tuple #[]) ∧ w' = w.setCell ⟨b, 0, none⟩ (.pointer (some ⟨b, 0, none⟩)) := by
  obtain ⟨j, hj, hjs⟩ := Option.map_eq_some_iff.1 bInfo
  go_enter Tryz.func147, Tryz.ntmps147
  go_wp2
  rw [Lib.run_to_unsafe w ⟨b, 0, none⟩ Tryz.underlying185 Tryz.underlying195 hj (by rw [hjs]; decide) hsh (Nat.zero_lt_succ 1)]
  simp only [Result.andThen]
  rw [Oper.upon_value]
  go_wp2
  rw [run_callFunc_extern Tryz.func148 (by kernel_rfl) (by kernel_rfl) (by kernel_rfl) (e := Extern.AbiNoEscape.same) (by kernel_rfl)]
  rw [Lib.run_noEscape]
  simp only [Result.andThen]
  rw [Oper.upon_value]
  go_wp2
  rw [Lib.run_from_unsafe w ⟨b, 0, none⟩ Tryz.underlying195 Tryz.underlying185 hj hsh bLies]
  simp only [Result.andThen]
  rw [Oper.upon_value]
  go_wp2
  go_end0
  exact ⟨rfl, rfl⟩
theorem builder_copyCheck (B b : Nat) (bs : List Value) (w : World) (h : Lib.IsBuilder 187 5 B b bs w) :
    Calls Tryz.prog 147 #[.pointer (some ⟨b, 0, none⟩)] w fun e w' => e = .returned (.tuple #[]) ∧ (Lib.BuilderAt 187 5 B b (.pointer (some ⟨b, 0, none⟩)) bs w' ∧ Below B w w') := by
  rcases h with h | h
  · refine (copyCheck_fresh b w h.cell0 h.shape h.frozen0).mono ?_
    rintro e w' ⟨rfl, rfl⟩
    exact ⟨rfl, h.used _, (Below.refl B w).setCell (p := ⟨b, 0, none⟩) h.1 _⟩
  · refine (copyCheck_used b w h.cell0).mono ?_
    rintro e w' ⟨rfl, rfl⟩
    exact ⟨rfl, h, Below.refl B _⟩
theorem builder_WriteString (B b : Nat) (bs : List Value) (s : ByteArray) (w : World) (h : Lib.IsBuilder 187 5 B b bs w) (hlen : bs.length + s.size ≤ 140737488355328) (hBw : B ≤ w.heap.size) :
    Calls Tryz.prog 142 #[.pointer (some ⟨b, 0, none⟩), .string s] w fun e w' => e = .returned (.tuple #[.int .i64 s.size, .nilIface]) ∧ (Lib.BuilderAt 187 5 B b (.pointer (some ⟨b, 0, none⟩)) (bs ++ Lib.strCells s) w' ∧ Below B w w') := by
  obtain ⟨i0, hi, hz0, hz1, hz2⟩ := info_parts byteInfo
  have HCC := Lib.hid (builder_copyCheck B b bs w h)
  clear h
  go_enter Tryz.func142, Tryz.ntmps142
  go_wp2_with (go_at_call 147; (with_reducible refine HCC.out.mono ?_))
  rintro e w1 ⟨rfl, h1, hb1⟩
  obtain ⟨hB, v, hbk, hown, hne⟩ := h1
  have c0 : w1.cell? ⟨b, 0, none⟩ = some (.pointer (some ⟨b, 0, none⟩)) := by rw [Lib.cell_of_heap hbk]; rfl
  have c1 : w1.cell? ⟨b, 1, none⟩ = some v := by rw [Lib.cell_of_heap hbk]; rfl
  go_wp2_with (at_builtin; refine Lib.wpList_append_own_string _ rfl _ _ 183 9 rfl B 5 i0 Tryz.underlying183 Tryz.underlying9 hi hz0 hz1 hz2 _ _ _ rfl hown s rfl ?c3 ?c4 ?c5 ?_)
  case c3 => unfold maxLen; omega
  case c4 => omega
  case c5 => have := hb1.size; omega
  intro v' w2 hown' hgrow _
  have hlt : b < w1.heap.size := by
    rcases Nat.lt_or_ge b w1.heap.size with h' | h'
    · exact h'
    · simp [Array.getElem?_eq_none h'] at hbk
  have hb2 : w2.heap[b]? = some (.cells #[.pointer (some ⟨b, 0, none⟩), v] 187 (0, 0)) := by
    rw [hgrow.block b hlt (fun e => hne e.symm)]
    exact hbk
  have d0 : w2.cell? ⟨b, 0, none⟩ = some (.pointer (some ⟨b, 0, none⟩)) := by rw [Lib.cell_of_heap hb2]; rfl
  have d1 : w2.cell? ⟨b, 1, none⟩ = some v := by rw [Lib.cell_of_heap hb2]; rfl
  have f1 : w2.frozen? ⟨b, 1, none⟩ = false := Lib.frozen_of_heap hb2 1
  obtain ⟨ao, n', cap, rfl⟩ : ∃ ao n' cap, v' = .slice ao n' cap := by
    rcases hown'.2 with ⟨hv, _⟩ | ⟨g, cap, cur, hv, _⟩
    · exact ⟨_, _, _, hv⟩
    · exact ⟨_, _, _, hv⟩
  go_wp2
  go_ret2
  refine ⟨rfl, ?_, ?_⟩
  · exact Lib.BuilderAt.put (T := 187) (e := 5) hB hb2 (bs' := bs ++ Lib.strCells s) (by simpa [Lib.strCells_length] using hown') (by decide)
  · exact (hb1.grown hgrow (by have := hb1.size; omega) (fun k hk => (hown.lt k hk).1)).setCell (p := ⟨b, 1, none⟩) hB _
theorem conv_str {w : World} {g o : Nat} {L : List UInt8} (h : Row w g o L) (n c : Nat) (hn : L.length = n) :
    (convert 183 9 (.slice (some ⟨g, o, none⟩) n c)).run Tryz.prog w = .ok (.string ⟨L.toArray⟩) w := by
  subst hn
  exact run_convert_bytes_back w 183 9 5 ⟨g, o, none⟩ c L Tryz.underlying183 Tryz.underlying5 Tryz.underlying9 (fun j hj => by
    have := h j hj
    rw [getD_lt hj] at this
    rw [addr_add]; exact this)
theorem or128 : ∀ x : Nat, x < 256 → bits .or .u8 (x : Int) 128 = ((x % 128 + 128 : Nat) : Int) := by decide +kernel
theorem set_next {M : List UInt8} {k : Nat} (hk : M.length = k) (h10 : k < 10) (y : UInt8) : (M ++ List.replicate (10 - k) 0).set k y = (M ++ [y]) ++ List.replicate (10 - (k + 1)) 0 := by
  subst hk
  obtain ⟨r, hr⟩ : ∃ r, 10 - M.length = r + 1 := ⟨10 - M.length - 1, by omega⟩
  have hr2 : 10 - (M.length + 1) = r := by omega
  rw [hr, hr2, List.replicate_succ]
  simp
theorem arr10 : Tryz.prog.arrayLen 193 = 10 := by kernel_rfl
theorem slice10 (g k : Nat) (W : World) (hk : k + 1 ≤ 10) : (Instr.sliceAt 193 (.pointer (some ⟨g, 0, none⟩)) none (some (.int .i64 ((k : Int) + 1))) none).run Tryz.prog W = .ok (.slice (some ⟨g, 0, none⟩) (k + 1) 10) W := by
  rw [run_sliceAt_array_h W 193 ⟨g, 0, none⟩ Tryz.underlying193 .i64 ((k : Int) + 1) (by omega) (by rw [arr10]; omega)]
  have hs : (sizeOf (Tryz.prog.elem 193)).run Tryz.prog W = .ok 1 W := by kernel_rfl
  rw [hs]
  have e : ((k : Int) + 1).toNat = k + 1 := by omega
  simp only [Result.andThen, slicedAt, arr10, e]
  simp [Addr.add]
/-- What the loop of length holds. -/
structure LnAt (w : World) (n0 n k : Nat) (M : List UInt8) (wr : World) : Prop where
  len : M.length = k
  eq : lenB n0 = M ++ lenF (10 - k) n
  bd : (k = 0 ∧ n < 268435456) ∨ (k = 1 ∧ n < 2097152) ∨ (k = 2 ∧ n < 16384) ∨ (k = 3 ∧ n < 128)
  blk : Bk wr w.heap.size 193 (M ++ List.replicate (10 - k) 0)
  bel : Below w.heap.size w wr
theorem LnAt.next {w wr : World} {n0 n k : Nat} {M : List UInt8} (h : LnAt w n0 n k M wr) (hn : 128 ≤ n) (y : UInt8) (q : Nat) (hy : UInt8.ofNat (n % 128 + 128) = y) (hq : n / 128 = q) :
    LnAt w n0 q (k + 1) (M ++ [y]) (wr.setCell ⟨w.heap.size, k, none⟩ (.int .u8 ((y.toNat : Nat) : Int))) := by
  have hb := h.bd
  have hk3 : k ≤ 2 := by omega
  refine ⟨by rw [List.length_append, h.len]; rfl, ?_, by omega, ?_, h.bel.setCell (p := ⟨w.heap.size, k, none⟩) (Nat.le_refl _) _⟩
  · rw [h.eq]
    obtain ⟨f, hf⟩ : ∃ f, 10 - k = f + 1 := ⟨10 - k - 1, by omega⟩
    have hf2 : 10 - (k + 1) = f := by omega
    rw [hf, hf2]
    conv => lhs; unfold lenF
    rw [if_neg (by omega), hy, hq]
    simp
  · have := h.blk.set k y
    rwa [set_next h.len (by omega) y] at this
theorem LnAt.fin {w wr : World} {n0 n k : Nat} {M : List UInt8} (h : LnAt w n0 n k M wr) (hn : ¬ 128 ≤ n) (y : UInt8) (hy : UInt8.ofNat n = y) :
    (convert 183 9 (.slice (some ⟨w.heap.size, 0, none⟩) (k + 1) 10)).run Tryz.prog (wr.setCell ⟨w.heap.size, k, none⟩ (.int .u8 ((y.toNat : Nat) : Int))) = .ok (.string ⟨(lenB n0).toArray⟩) (wr.setCell ⟨w.heap.size, k, none⟩ (.int .u8 ((y.toNat : Nat) : Int))) := by
  have hb := h.bd
  have h1 := h.blk.set k y
  rw [set_next h.len (by omega) y] at h1
  have h2 := h1.row.take (k + 1)
  have hl := h.len
  have e : ((M ++ [y]) ++ List.replicate (10 - (k + 1)) 0).take (k + 1) = lenB n0 := by
    rw [List.take_append_of_le_length (by simp; omega), List.take_of_length_le (by simp; omega), h.eq]
    obtain ⟨f, hf⟩ : ∃ f, 10 - k = f + 1 := ⟨10 - k - 1, by omega⟩
    rw [hf]
    unfold lenF
    rw [if_pos (by omega), hy]
  rw [e] at h2
  exact conv_str h2 (k + 1) 10 (by rw [← e]; simp; omega)
theorem enc_length (n0 : Nat) (w : World) (hn : n0 < 268435456) : Calls Tryz.prog 143 #[.int .i64 n0] w fun e w' => e = .returned (.string ⟨(lenB n0).toArray⟩) ∧ Below w.heap.size w w' := by
  have HL := Lib.hid (show LnAt w n0 n0 0 [] (w.alloc (.cells (cellsOf (List.replicate 10 0)) 193)) from ⟨rfl, rfl, .inl ⟨rfl, hn⟩, Bk.new w _ _, (Below.refl _ _).alloc (Nat.le_refl _) _⟩)
  clear hn
  go_enter Tryz.func143, Tryz.ntmps143
  go_wp2
  go_loopw [0, 4] (fun v0 v4 wr => ∃ (n k : Nat) (M : List UInt8), v0 = .int .i64 n ∧ v4 = .int .i64 k ∧ LnAt w n0 n k M wr) (fun v0 _ _ => (intOf v0).toNat)
  case atStart => exact ⟨n0, 0, [], rfl, rfl, HL.out⟩
  case round =>
    obtain ⟨n, k, M, rfl, rfl, hln⟩ := hrel
    have HLN := Lib.hid hln
    have hb := hln.bd
    have hk3 : k ≤ 3 := by omega
    have hn8 : n < 268435456 := by omega
    clear hln hb
    have hlen := HLN.out.len
    have hc := HLN.out.blk.cell (k := k) (by simp; omega)
    have hf := HLN.out.blk.free k
    obtain ⟨z, hz⟩ : ∃ z, (((M ++ List.replicate (10 - k) 0).getD k 0).toNat : Nat) = z := ⟨_, rfl⟩
    rw [hz] at hc
    clear hlen hz
    by_cases h128 : 128 ≤ n
    · have k1 : decide ((128 : Int) ≤ (n : Int)) = true := decide_eq_true (by omega)
      obtain ⟨y, hy⟩ : ∃ y, UInt8.ofNat (n % 128 + 128) = y := ⟨_, rfl⟩
      have hyn : y.toNat = n % 128 + 128 := by rw [← hy, UInt8.toNat_ofNat']; omega
      have hv : bits .or .u8 ((n : Int) % 256) 128 = ((y.toNat : Nat) : Int) := by
        have h1 := or128 (n % 256) (by omega)
        have h2 : ((n : Int) % 256) = ((n % 256 : Nat) : Int) := by omega
        rw [h2, h1, hyn]
        congr 1
        omega
      obtain ⟨q, hq⟩ : ∃ q, n / 128 = q := ⟨_, rfl⟩
      have hq1 : (n : Int) / 128 = (q : Int) := by omega
      have HY := Lib.hid (And.intro hy (And.intro hyn (And.intro hq h128)))
      clear hy hyn hq
      have HNX := Lib.hid (LnAt.next HLN.out HY.out.2.2.2 y q HY.out.1 HY.out.2.2.1)
      go_wp2
      exact ⟨⟨q, k + 1, M ++ [y], rfl, rfl, HNX.out⟩, by have := HY.out.2.2; simp only [intOf]; omega⟩
    · have k1 : decide ((128 : Int) ≤ (n : Int)) = false := decide_eq_false (by omega)
      obtain ⟨y, hy⟩ : ∃ y, UInt8.ofNat n = y := ⟨_, rfl⟩
      have hyn : y.toNat = n := by rw [← hy, UInt8.toNat_ofNat']; omega
      have hv : (n : Int) % 256 = ((y.toNat : Nat) : Int) := by rw [hyn]; omega
      have HY := Lib.hid (And.intro hy (And.intro hyn h128))
      have HB := Lib.hid (HLN.out.blk.set k y)
      clear hy hyn
      have hsl : ∀ W, (Instr.sliceAt 193 (.pointer (some ⟨w.heap.size, 0, none⟩)) none (some (.int .i64 ((k : Int) + 1))) none).run Tryz.prog W = .ok (.slice (some ⟨w.heap.size, 0, none⟩) (k + 1) 10) W := fun W => slice10 _ _ _ (by omega)
      have hcv := LnAt.fin HLN.out HY.out.2.2 y HY.out.1
      rw [HY.out.2.1] at hcv
      have HBE := Lib.hid (HLN.out.bel.setCell (p := ⟨w.heap.size, k, none⟩) (Nat.le_refl _) (.int .u8 ((n : Nat) : Int)))
      clear hv
      go_wp2
      go_ret
      exact ⟨rfl, HBE.out⟩
end Go.Proofs.YtjhlddlocpkhkaaGreat
