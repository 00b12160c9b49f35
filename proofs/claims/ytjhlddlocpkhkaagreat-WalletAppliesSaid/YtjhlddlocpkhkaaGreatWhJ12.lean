/- Wallet: numbers; what valid computes. Wallet: valid, for every wallet of at most 4096 entries of a kind. -/
import Derived.Test.YtjhlddlocpkhkaaGreatWhJ06
import Derived.Test.YtjhlddlocpkhkaaGreatWhJ05
import Derived.Deep.DeepCutAuto
import Derived.Deep.CutBlock
namespace Go.Proofs.YtjhlddlocpkhkaaGreat
open Go.RowKit
set_option maxRecDepth 100000
set_option linter.unusedVariables false
set_option maxHeartbeats 4000000
def numsH (x : Hz) : List ByteArray := [x.a, x.e, x.v, x.wit] ++ x.att
/-- A credential as a value. -/
def valH (x : Hz) (A : Option Addr) (n c : Nat) : Value := .agg #[.string x.iss, .string x.sch, .int .i64 x.ver, .slice A n c, .string x.a, .string x.e, .string x.v, .int .i64 x.ep, .string x.wit]
theorem wal_numbers (x : Hz) (A : Option Addr) (n c : Nat) (S : Nat → Prop) (w : World) (hn : x.att.length = n) (hm : n ≤ 100000) (h : RowC w S A n (cellsN x.att)) (hS : ∀ g, S g → g < w.heap.size) :
    Calls Tryz.prog 56 #[valH x A n c] w fun e w' => ∃ A' n' c', e = .returned (.slice A' n' c') ∧ n' = (numsH x).length ∧ SLs w' w'.heap.size A' (numsH x) ∧ Below w.heap.size w w' := by
  obtain ⟨iss, sch, ver, att, a, e, v, ep, wit⟩ := x
  obtain ⟨i, hi, hz, hs1, hb1⟩ := infoE_N
  dsimp only at hn h
  unfold valH
  dsimp only
  obtain ⟨W, hW⟩ : ∃ W, (((w.alloc (.cells #[.string iss, .string sch, .int .i64 ver, .slice A n c, .string a, .string e, .string v, .int .i64 ep, .string wit] 47)).alloc (.cells #[.string a, .string e, .string v] 43)).alloc (.cells #[.string a, .string e, .string v, .string wit] 22)) = W := ⟨_, rfl⟩
  have hbw : Below w.heap.size w W := by rw [← hW]; exact (((Below.refl w.heap.size w).alloc (Nat.le_refl _) _).alloc (by simp) _).alloc (by simp; omega) _
  have HR := Lib.hid (h.reads (k := 1) (by rw [cellsN_len, hn]) hS hbw)
  have hO := World.ownsRow_lit (e := 22) (size := 1) ((w.alloc (.cells #[.string iss, .string sch, .int .i64 ver, .slice A n c, .string a, .string e, .string v, .int .i64 ep, .string wit] 47)).alloc (.cells #[.string a, .string e, .string v] 43)) #[.string a, .string e, .string v, .string wit] 4 (base := w.heap.size) (by simp; omega) (by unfold maxLen; omega) rfl
  rw [hW, World.size_alloc, World.size_alloc] at hO
  have HO := Lib.hid hO
  have hsz : W.heap.size = w.heap.size + 3 := by rw [← hW]; simp
  have HZ := Lib.hid hsz
  have HBW := Lib.hid hbw
  rw [← hW] at HR HO HZ HBW
  have HN := Lib.hid hn
  have H1 := Lib.hid (cellsN_one att)
  clear h hS hn hbw hO hsz hW
  go_enter Tryz.func56, Tryz.ntmps56
  go_wp2_with (at_builtin; go_loud (refine wpList_append_any _ rfl _ _ 41 rfl w.heap.size 22 i (.string ByteArray.empty) 1 16 Tryz.underlying41 hi hz hs1 hb1 rfl (by decide) _ 4 [.string a, .string e, .string v, .string wit] rfl HO.out _ A n c (cellsN att) rfl HR.out H1.out (by unfold maxLen; omega) (by omega) (by simp; omega) ?_))
  intro v' w4 hown hgrow hv
  obtain ⟨A4, c4, rfl⟩ := owns_shape hown
  have hb4 : Below w.heap.size _ w4 := below_grown hgrow (by simp; omega) (fun g hg => (HO.out.lt g hg).1)
  have HB := Lib.hid (HBW.out.trans hb4)
  have HS : Hid (SLs w4 w4.heap.size A4 (numsH ⟨iss, sch, ver, att, a, e, v, ep, wit⟩)) := Lib.hid (by
    have hl : (numsH ⟨iss, sch, ver, att, a, e, v, ep, wit⟩).length = 4 + n := by unfold numsH; simp only [List.length_append]; rw [HN.out]; rfl
    have hc : [Value.string a, .string e, .string v, .string wit] ++ cellsN att = cellsN (numsH ⟨iss, sch, ver, att, a, e, v, ep, wit⟩) := by unfold cellsN numsH; simp
    have hown' : w4.ownsRow w.heap.size 22 1 (.slice A4 (4 + n) c4) (4 + n) (cellsN (numsH ⟨iss, sch, ver, att, a, e, v, ep, wit⟩)) := by
      rw [← hc]
      exact hown
    intro hne
    obtain ⟨g, off, e1, hg, hcell⟩ := owns_row hown' (by omega)
    refine ⟨_, e1, hg.2, fun j hj => ?_⟩
    rw [addr_add]
    refine hcell j _ ?_
    unfold cellsN
    rw [List.getElem?_map, List.getD_eq_getElem?_getD, List.getElem?_eq_getElem hj]
    rfl)
  have HL : Hid (4 + n = (numsH ⟨iss, sch, ver, att, a, e, v, ep, wit⟩).length) := Lib.hid (by unfold numsH; simp only [List.length_append]; rw [HN.out]; rfl)
  clear hown hgrow hv hb4
  go_wp2
  go_ret
  exact ⟨A4, _, c4, rfl, HL.out, HS.out, HB.out⟩
def okA (x : Az) : Bool := [x.2.2.2.1, x.2.2.2.2].all valid
def validA : List ByteArray → List Az → Bool
  | _, [] => true
  | seen, x :: r => if (seen.any fun y => keyS.same y x.2.2.1) = true then false else if okA x = true then validA (x.2.2.1 :: seen) r else false
def okH (x : Hz) : Bool := (numsH x).all valid
noncomputable def validU : List (ByteArray × Int) → List Uz → Bool
  | _, [] => true
  | seen, x :: r => if x.2.2 < 1 then false else if (seen.any fun y => keyP.same y (x.1, x.2.1)) = true then false else validU ((x.1, x.2.1) :: seen) r
noncomputable def validW (sec : ByteArray) (qs : List Az) (hs : List Hz) (us : List Uz) : Bool := [sec].all valid && (validA [] qs && (hs.all okH && validU [] us))
end Go.Proofs.YtjhlddlocpkhkaaGreat

namespace Go.Proofs.YtjhlddlocpkhkaaGreat
open Go.RowKit
set_option maxRecDepth 100000
set_option linter.unusedVariables false
set_option maxHeartbeats 8000000
theorem cellsA_get {qs : List Az} {k : Nat} {i s n x b : ByteArray} (h : qs[k]? = some (i, s, n, x, b)) : (cellsA qs)[k * 5]? = some (.string i) ∧ (cellsA qs)[k * 5 + 1]? = some (.string s) ∧ (cellsA qs)[k * 5 + 2]? = some (.string n) ∧ (cellsA qs)[k * 5 + 3]? = some (.string x) ∧ (cellsA qs)[k * 5 + 4]? = some (.string b) := by
  induction qs generalizing k with
  | nil => simp at h
  | cons y r ih =>
    obtain ⟨i', s', n', x', b'⟩ := y
    cases k with
    | zero =>
      simp only [List.getElem?_cons_zero, Option.some.injEq, Prod.mk.injEq] at h
      obtain ⟨rfl, rfl, rfl, rfl, rfl⟩ := h
      exact ⟨rfl, rfl, rfl, rfl, rfl⟩
    | succ k =>
      simp only [List.getElem?_cons_succ] at h
      have e1 : (k + 1) * 5 = k * 5 + 1 + 1 + 1 + 1 + 1 := by omega
      rw [e1]
      simp only [cellsA, List.getElem?_cons_succ]
      exact ih h
theorem SlA.at_ {w : World} {S : Nat → Prop} {A : Option Addr} {qs : List Az} (h : SlA w S A qs) {k : Nat} {i s n x b : ByteArray} (hk : qs[k]? = some (i, s, n, x, b)) :
    ∃ g off, A = some ⟨g, off, none⟩ ∧ S g ∧ w.cell? ⟨g, off + k * 5, none⟩ = some (.string i) ∧ w.cell? ⟨g, off + k * 5 + 1, none⟩ = some (.string s) ∧ w.cell? ⟨g, off + k * 5 + 2, none⟩ = some (.string n) ∧ w.cell? ⟨g, off + k * 5 + 3, none⟩ = some (.string x) ∧ w.cell? ⟨g, off + k * 5 + 4, none⟩ = some (.string b) := by
  obtain ⟨g, off, e, hg, hc⟩ := h (Nat.lt_of_le_of_lt (Nat.zero_le _) (List.getElem?_eq_some_iff.1 hk).1)
  obtain ⟨a0, a1, a2, a3, a4⟩ := cellsA_get hk
  exact ⟨g, off, e, hg, hc _ _ a0, hc _ _ a1, hc _ _ a2, hc _ _ a3, hc _ _ a4⟩
theorem SlH.at_ {w : World} {S : Nat → Prop} {A : Option Addr} {hs : List Hz} (h : SlH w S A hs) {k : Nat} {x : Hz} (hk : hs[k]? = some x) :
    ∃ g off A' c', A = some ⟨g, off, none⟩ ∧ S g ∧ RowC w S A' x.att.length (cellsN x.att) ∧ ∀ j u, (cellsH x A' c')[j]? = some u → w.cell? ⟨g, off + k * 9 + j, none⟩ = some u := by
  obtain ⟨L, h1, h2⟩ := h
  have hkl := (List.getElem?_eq_some_iff.1 hk).1
  obtain ⟨g, off, e, hg, hc⟩ := h1 (Nat.lt_of_le_of_lt (Nat.zero_le _) hkl)
  obtain ⟨La, A', c', Lb, hL, r1, r2, r3⟩ := h2.split hk
  refine ⟨g, off, A', c', e, hg, r2, fun j u hj => ?_⟩
  have hl : La.length = k * 9 := by rw [r1.length, List.length_take, Nat.min_eq_left (Nat.le_of_lt hkl)]
  have := hc (k * 9 + j) u (by
    rw [hL, List.getElem?_append_right (by omega), hl, show k * 9 + j - k * 9 = j by omega]
    rw [List.getElem?_append_left (List.getElem?_eq_some_iff.1 hj).1]
    exact hj)
  rwa [← Nat.add_assoc] at this
/-- What valid holds: the wallet's box, and what came in. -/
structure VlB (w : World) (S : Nat → Prop) (sec : ByteArray) (qs : List Az) (hs : List Hz) (us : List Uz) (Aa : Option Addr) (na ca : Nat) (Ah : Option Addr) (nh ch : Nat) (Au : Option Addr) (nu cu : Nat) (wx : World) : Prop where
  box : wx.heap[w.heap.size]? = some (.cells #[.string sec, .slice Aa na ca, .slice Ah nh ch, .slice Au nu cu] 27 (0, 0))
  src : WalM wx S qs hs us Aa Ah Au
  bel : Below w.heap.size w wx
  size : w.heap.size + 1 ≤ wx.heap.size
section
variable {w wx w' : World} {S : Nat → Prop} {sec : ByteArray} {qs : List Az} {hs : List Hz} {us : List Uz} {Aa : Option Addr} {na ca : Nat} {Ah : Option Addr} {nh ch : Nat} {Au : Option Addr} {nu cu : Nat}
theorem VlB.start (h : WalM w S qs hs us Aa Ah Au) (hS : ∀ g, S g → g < w.heap.size) : VlB w S sec qs hs us Aa na ca Ah nh ch Au nu cu (w.alloc (.cells #[.string sec, .slice Aa na ca, .slice Ah nh ch, .slice Au nu cu] 27)) :=
  have hb : Below w.heap.size w (w.alloc (.cells #[.string sec, .slice Aa na ca, .slice Ah nh ch, .slice Au nu cu] 27)) := (Below.refl _ _).alloc (Nat.le_refl _) _
  ⟨heap_alloc_new w _, h.keep (fun p hp => hb.cell (hS _ hp)), hb, by simp⟩
theorem VlB.next (h : VlB w S sec qs hs us Aa na ca Ah nh ch Au nu cu wx) (hS : ∀ g, S g → g < w.heap.size) (hb : Below (w.heap.size + 1) wx w') : VlB w S sec qs hs us Aa na ca Ah nh ch Au nu cu w' :=
  ⟨(hb.block _ (by omega)).trans h.box, h.src.keep (fun p hp => hb.cell (by have := hS _ hp; omega)), h.bel.trans (hb.mono (Nat.le_succ _)), Nat.le_trans h.size hb.size⟩
theorem VlB.bc (h : VlB w S sec qs hs us Aa na ca Ah nh ch Au nu cu wx) : wx.cell? ⟨w.heap.size, 0, none⟩ = some (.string sec) ∧ wx.cell? ⟨w.heap.size, 1, none⟩ = some (.slice Aa na ca) ∧ wx.cell? ⟨w.heap.size, 2, none⟩ = some (.slice Ah nh ch) ∧ wx.cell? ⟨w.heap.size, 3, none⟩ = some (.slice Au nu cu) :=
  ⟨cell_of_row wx _ 0 _ _ _ h.box, cell_of_row wx _ 1 _ _ _ h.box, cell_of_row wx _ 2 _ _ _ h.box, cell_of_row wx _ 3 _ _ _ h.box⟩
end
theorem can_1 (x : ByteArray) (w : World) (o : Obj) : Calls Tryz.prog 55 #[.slice (some ⟨w.heap.size + 1, 0, none⟩) 1 1] ((w.alloc o).alloc (.cells #[.string x] 22)) fun e w' => e = .returned (.bool ([x].all valid)) ∧ ((w.alloc o).alloc (.cells #[.string x] 22)) = w' := by
  have := wal_canonical [x] (some ⟨(w.alloc o).heap.size, 0, none⟩) 1 1 ((w.alloc o).heap.size + 1) ((w.alloc o).alloc (.cells ([x].map Value.string).toArray 22)) rfl (by decide) (SLs.new _ _ [x] _ (by omega))
  rw [World.size_alloc] at this
  exact this
theorem can_2 (x y : ByteArray) (w : World) (o : Obj) : Calls Tryz.prog 55 #[.slice (some ⟨w.heap.size + 1, 0, none⟩) 2 2] ((w.alloc o).alloc (.cells #[.string x, .string y] 22)) fun e w' => e = .returned (.bool ([x, y].all valid)) ∧ ((w.alloc o).alloc (.cells #[.string x, .string y] 22)) = w' := by
  have := wal_canonical [x, y] (some ⟨(w.alloc o).heap.size, 0, none⟩) 2 2 ((w.alloc o).heap.size + 1) ((w.alloc o).alloc (.cells ([x, y].map Value.string).toArray 22)) rfl (by decide) (SLs.new _ _ [x, y] _ (by omega))
  rw [World.size_alloc] at this
  exact this
theorem wal_valid (sec : ByteArray) (qs : List Az) (hs : List Hz) (us : List Uz) (Aa Ah Au : Option Addr) (na ca nh ch nu cu : Nat) (S : Nat → Prop) (w : World) (hq : qs.length = na) (hn : hs.length = nh) (hu : us.length = nu) (hma : na ≤ 4096) (hmh : nh ≤ 4096) (hmu : nu ≤ 4096)
    (hqs : ∀ x ∈ qs, x.2.2.1.size ≤ 100000) (hatt : ∀ x ∈ hs, x.att.length ≤ 90000) (hus : ∀ x ∈ us, x.1.size ≤ 100000 ∧ (Lit.int .i64 x.2.1).wf = true) (h : WalM w S qs hs us Aa Ah Au) (hS : ∀ g, S g → g < w.heap.size) :
    Calls Tryz.prog 17 #[.agg #[.string sec, .slice Aa na ca, .slice Ah nh ch, .slice Au nu cu]] w fun e w' => e = .returned (.bool (validW sec qs hs us)) ∧ Below w.heap.size w w' := by
  have HC1 := Lib.hid (can_1 sec w (.cells #[.string sec, .slice Aa na ca, .slice Ah nh ch, .slice Au nu cu] 27))
  have HV0 := Lib.hid (VlB.start (sec := sec) (na := na) (ca := ca) (nh := nh) (ch := ch) (nu := nu) (cu := cu) h hS)
  have HS := Lib.hid hS
  have HQ := Lib.hid (And.intro hq (And.intro hn hu))
  have HB := Lib.hid (And.intro hqs (And.intro hatt hus))
  have ka : decide ((4096 : Int) < (na : Int)) = false := decide_eq_false (by omega)
  have kh : decide ((4096 : Int) < (nh : Int)) = false := decide_eq_false (by omega)
  have ku : decide ((4096 : Int) < (nu : Int)) = false := decide_eq_false (by omega)
  have hmm := @run_makeMap Tryz.prog
  obtain ⟨VH, hVH⟩ : ∃ V, hs.all okH = V := ⟨_, rfl⟩
  obtain ⟨VA, hVA⟩ : ∃ V, validA [] qs = V := ⟨_, rfl⟩
  obtain ⟨VU, hVU⟩ : ∃ V, validU [] us = V := ⟨_, rfl⟩
  obtain ⟨R, hR⟩ : ∃ R, validW sec qs hs us = R := ⟨_, rfl⟩
  have HR : Hid (([sec].all valid && (VA && (VH && VU))) = R) := Lib.hid (by rw [← hR, ← hVA, ← hVH, ← hVU]; rfl)
  rw [hR]
  have HVA := Lib.hid hVA
  have HVH := Lib.hid hVH
  have HVU := Lib.hid hVU
  clear h hS hq hn hu hqs hatt hus hVA hVH hVU hR
  cases hv : [sec].all valid with
  | false =>
    rw [hv] at HC1
    have HR1 : Hid (R = false) := Lib.hid (by rw [← HR.out, hv]; rfl)
    clear hv
    go_enter Tryz.func17, Tryz.ntmps17
    go_wp2_with (go_at_call 55; (with_reducible refine HC1.out.mono ?_); rintro e w5 ⟨rfl, rfl⟩)
    go_ret
    exact ⟨by rw [HR1.out]; rfl, ((Below.refl _ w).alloc (Nat.le_refl _) _).alloc (by simp) _⟩
  | true =>
    rw [hv] at HC1
    have HR1 : Hid ((VA && (VH && VU)) = R) := Lib.hid (by rw [← HR.out, hv]; rfl)
    clear hv
    go_enter Tryz.func17, Tryz.ntmps17
    go_wp2_with (go_at_call 55; (with_reducible refine HC1.out.mono ?_); rintro e w5 ⟨rfl, rfl⟩)
    have HV1 : Hid (VlB w S sec qs hs us Aa na ca Ah nh ch Au nu cu (((w.alloc (.cells #[.string sec, .slice Aa na ca, .slice Ah nh ch, .slice Au nu cu] 27)).alloc (.cells #[.string sec] 22)).alloc (.map #[] 0))) := Lib.hid (HV0.out.next HS.out (((Below.refl _ _).alloc (by simp only [World.size_alloc]; omega) _).alloc (by simp only [World.size_alloc]; omega) _))
    have HM1 : Hid (SetK keyS (((w.alloc (.cells #[.string sec, .slice Aa na ca, .slice Ah nh ch, .slice Au nu cu] 27)).alloc (.cells #[.string sec] 22)).alloc (.map #[] 0)) (w.heap.size + 1 + 1) 0 []) := Lib.hid (by
      have := SetK.made (T := keyS) ((w.alloc (.cells #[.string sec, .slice Aa na ca, .slice Ah nh ch, .slice Au nu cu] 27)).alloc (.cells #[.string sec] 22))
      rw [World.size_alloc, World.size_alloc] at this
      exact this)
    clear HV0 HC1
    go_loopw [39] (fun v wr => ∃ k : Nat, k ≤ na ∧ v = .int .i64 k ∧ ∃ seen, validA seen (qs.drop k) = VA ∧ VlB w S sec qs hs us Aa na ca Ah nh ch Au nu cu wr ∧ SetK keyS wr (w.heap.size + 1 + 1) k seen) (fun v _ => na - (intOf v).toNat)
    case atStart => exact ⟨0, by omega, rfl, [], HVA.out, HV1.out, HM1.out⟩
    case round =>
      obtain ⟨k, hk, rfl, seen, hva, hvl, hset⟩ := hrel
      have HVK := Lib.hid hva
      have HVL := Lib.hid hvl
      have HSET := Lib.hid hset
      clear hva hvl hset HV1 HM1
      obtain ⟨x0, x1, x2, x3⟩ := HVL.out.bc
      by_cases hlt : k < na
      · obtain ⟨⟨is, sc, nc, xs, bl⟩, hx⟩ : ∃ x, qs[k]? = some x := ⟨qs[k]'(by rw [HQ.out.1]; exact hlt), List.getElem?_eq_getElem _⟩
        have hd : qs.drop k = (is, sc, nc, xs, bl) :: qs.drop (k + 1) := by
          obtain ⟨h1, h2⟩ := List.getElem?_eq_some_iff.1 hx
          rw [List.drop_eq_getElem_cons h1, h2]
        have hv1 := HVK.out
        rw [hd] at hv1
        obtain ⟨g, off, rfl, hsg, y0, y1, y2, y3, y4⟩ := HVL.out.src.a.at_ hx
        have HGOOD := Lib.hid (show keyS.good nc from HB.out.1 _ (List.mem_of_getElem? hx))
        have hil : (k : Int) < (na : Int) := by omega
        have HLT := Lib.hid hlt
        have HKB : Hid (k ≤ 10000) := Lib.hid (by omega)
        have hb1 : Below wr.heap.size wr (wr.alloc (.cells #[.string is, .string sc, .string nc, .string xs, .string bl] 40)) := (Below.refl wr.heap.size wr).alloc (Nat.le_refl _) _
        have HSET1 := Lib.hid (HSET.out.kept hb1 HSET.out.lt)
        have HBL1 := Lib.hid hb1
        clear hb1
        cases hsn : (seen.any fun y => keyS.same y nc) with
        | true =>
          have hva1 : VA = false := by
            rw [← hv1]
            unfold validA
            rw [if_pos hsn]
          have HSN := Lib.hid hsn
          have HRF : Hid (R = false) := Lib.hid (by rw [← HR1.out, hva1]; rfl)
          clear hsn hva1 hv1 hd hx hsg
          go_wp2_with (at_lookup; refine wpList_look_K _ rfl _ _ _ rfl Tryz.underlying111 (w.heap.size + 1 + 1) k _ rfl HSET1.out nc rfl HGOOD.out ?_; rw [HSN.out])
          go_ret
          exact ⟨by rw [HRF.out]; rfl, HVL.out.bel.trans (HBL1.out.mono HVL.out.bel.size)⟩
        | false =>
          have HSN := Lib.hid hsn
          have HC2 := Lib.hid (can_2 xs bl wr (.cells #[.string is, .string sc, .string nc, .string xs, .string bl] 40))
          have hb2 : Below wr.heap.size wr ((wr.alloc (.cells #[.string is, .string sc, .string nc, .string xs, .string bl] 40)).alloc (.cells #[.string xs, .string bl] 22)) := HBL1.out.alloc (by simp) _
          have HBL2 := Lib.hid hb2
          cases hok : [xs, bl].all valid with
          | false =>
            rw [hok] at HC2
            have hva1 : VA = false := by
              rw [← hv1]
              unfold validA
              rw [if_neg (by rw [hsn]; decide), if_neg (by show ¬ ([xs, bl].all valid = true); rw [hok]; decide)]
            have HRF : Hid (R = false) := Lib.hid (by rw [← HR1.out, hva1]; rfl)
            clear hsn hva1 hv1 hd hx hsg hok hb2
            go_wp2_with (first | (at_lookup; refine wpList_look_K _ rfl _ _ _ rfl Tryz.underlying111 (w.heap.size + 1 + 1) k _ rfl HSET1.out nc rfl HGOOD.out ?_; rw [HSN.out]) | (go_at_call 55; (with_reducible refine HC2.out.mono ?_); rintro e w5 ⟨rfl, rfl⟩))
            go_ret
            exact ⟨by rw [HRF.out]; rfl, HVL.out.bel.trans (HBL2.out.mono HVL.out.bel.size)⟩
          | true =>
            rw [hok] at HC2
            have hva1 : validA (nc :: seen) (qs.drop (k + 1)) = VA := by
              rw [← hv1]
              conv => rhs; unfold validA
              rw [if_neg (by rw [hsn]; decide), if_pos (show okA (is, sc, nc, xs, bl) = true from hok)]
            have HVA1 := Lib.hid hva1
            have HSET2 := Lib.hid (HSET.out.kept hb2 HSET.out.lt)
            clear hsn hva1 hv1 hd hx hsg hok hb2
            go_wp2_with (first | (at_lookup; refine wpList_look_K _ rfl _ _ _ rfl Tryz.underlying111 (w.heap.size + 1 + 1) k _ rfl HSET1.out nc rfl HGOOD.out ?_; rw [HSN.out]) | (go_at_call 55; (with_reducible refine HC2.out.mono ?_); rintro e w5 ⟨rfl, rfl⟩) | (at_mapUpdate; refine wpList_put_K _ rfl _ _ _ _ rfl Tryz.underlying111 (w.heap.size + 1 + 1) k _ rfl HSET2.out HKB.out nc rfl rfl HGOOD.out ?_; intro w6 hset6 hb6 hz6))
            refine ⟨⟨k + 1, HLT.out, by go_num, nc :: seen, HVA1.out, HVL.out.next HS.out ((HBL2.out.mono HVL.out.size).trans (hb6.mono (by omega))), hset6⟩, ?_⟩
            have := HLT.out
            simp only [intOf]
            omega
      · obtain rfl : na = k := by omega
        have hva1 : VA = true := by
          have := HVK.out
          rw [List.drop_eq_nil_of_le (by rw [HQ.out.1]; exact Nat.le_refl _)] at this
          rw [← this]
          unfold validA
          rfl
        have HR2 : Hid ((VH && VU) = R) := Lib.hid (by rw [← HR1.out, hva1]; rfl)
        have HVL0 := HVL
        clear hva1 HVK HSET HVL HR1
        go_wp2_with fail
        go_loopw [65] (fun v wr => ∃ k : Nat, k ≤ nh ∧ v = .int .i64 k ∧ (hs.drop k).all okH = VH ∧ VlB w S sec qs hs us Aa na ca Ah nh ch Au nu cu wr) (fun v _ => nh - (intOf v).toNat)
        case atStart => exact ⟨0, by omega, rfl, HVH.out, HVL0.out⟩
        case round =>
          obtain ⟨k, hk, rfl, hvh, hvl⟩ := hrel
          have HVK := Lib.hid hvh
          have HVL := Lib.hid hvl
          clear hvh hvl HVL0
          clear x0 x1 x2 x3
          obtain ⟨x0, x1, x2, x3⟩ := HVL.out.bc
          by_cases hlt : k < nh
          · obtain ⟨x, hx⟩ : ∃ x, hs[k]? = some x := ⟨hs[k]'(by rw [HQ.out.2.1]; exact hlt), List.getElem?_eq_getElem _⟩
            have hd : hs.drop k = x :: hs.drop (k + 1) := by
              obtain ⟨h1, h2⟩ := List.getElem?_eq_some_iff.1 hx
              rw [List.drop_eq_getElem_cons h1, h2]
            have hv1 := HVK.out
            rw [hd, List.all_cons] at hv1
            obtain ⟨g, off, A', c', rfl, hsg, hrow, hcells⟩ := HVL.out.src.h.at_ hx
            have hattx := HB.out.2.1 x (List.mem_of_getElem? hx)
            obtain ⟨n', hn'⟩ : ∃ n', x.att.length = n' := ⟨_, rfl⟩
            have hnl : (numsH x).length = 4 + n' := by unfold numsH; rw [List.length_append, hn']; rfl
            have HN0 := Lib.hid (fun W (hb : Below wr.heap.size wr W) => wal_numbers x A' n' c' S W hn' (by omega) (by rw [hn'] at hrow; exact hrow.keep (fun p hp => hb.cell (Nat.lt_of_lt_of_le (HS.out _ hp) HVL.out.bel.size))) (fun g hg => Nat.lt_of_lt_of_le (HS.out g hg) (Nat.le_trans HVL.out.bel.size hb.size)))
            have HCN := Lib.hid (fun (A5 : Option Addr) (n5 c5 : Nat) (W : World) (h5 : n5 = (numsH x).length) (hs5 : SLs W W.heap.size A5 (numsH x)) => wal_canonical (numsH x) A5 n5 c5 W.heap.size W h5.symm (by omega) hs5)
            have hcl : cellsH x A' c' = [.string x.iss, .string x.sch, .int .i64 x.ver, .slice A' n' c', .string x.a, .string x.e, .string x.v, .int .i64 x.ep, .string x.wit] := by unfold cellsH; rw [hn']
            rw [hcl] at hcells
            have y0 := hcells 0 _ rfl
            have y1 := hcells 1 _ rfl
            have y2 := hcells 2 _ rfl
            have y3 := hcells 3 _ rfl
            have y4 := hcells 4 _ rfl
            have y5 := hcells 5 _ rfl
            have y6 := hcells 6 _ rfl
            have y7 := hcells 7 _ rfl
            have y8 := hcells 8 _ rfl
            rw [Nat.add_zero] at y0
            have hil : (k : Int) < (nh : Int) := by omega
            have HLT := Lib.hid hlt
            obtain ⟨b, hok⟩ : ∃ b, okH x = b := ⟨_, rfl⟩
            rw [hok] at hv1
            have hok' : (numsH x).all valid = b := hok
            rw [hok'] at HCN
            have hb1 : Below wr.heap.size wr (wr.alloc (.cells #[.string x.iss, .string x.sch, .int .i64 x.ver, .slice A' n' c', .string x.a, .string x.e, .string x.v, .int .i64 x.ep, .string x.wit] 47)) := (Below.refl wr.heap.size wr).alloc (Nat.le_refl _) _
            have HBL1 := Lib.hid hb1
            have HN := Lib.hid (HN0.out _ hb1)
            simp only [valH] at HN
            clear hcl hcells hrow hattx hn' hnl HN0 hok hok' hb1 hsg hd hx
            cases b with
            | false =>
              have HRF : Hid (R = false) := Lib.hid (by rw [← HR2.out, ← hv1]; rfl)
              clear hv1
              go_wp2_with (first | (go_at_call 56; (with_reducible refine HN.out.mono ?_); rintro e w5 ⟨A5, n5, c5, rfl, hn5, hs5, hb5⟩; have HC5 := Lib.hid (HCN.out A5 n5 c5 w5 hn5 hs5); have HB5 := Lib.hid hb5; clear hn5 hs5 hb5) | (go_at_call 55; (with_reducible refine HC5.out.mono ?_); rintro e w6 ⟨rfl, rfl⟩))
              go_ret
              exact ⟨by rw [HRF.out]; rfl, below2 (HVL.out.bel.trans (HBL1.out.mono HVL.out.bel.size)) HB5.out⟩
            | true =>
              have HNX : Hid ((hs.drop (k + 1)).all okH = VH) := Lib.hid (by rw [← hv1]; rfl)
              clear hv1
              go_wp2_with (first | (go_at_call 56; (with_reducible refine HN.out.mono ?_); rintro e w5 ⟨A5, n5, c5, rfl, hn5, hs5, hb5⟩; have HC5 := Lib.hid (HCN.out A5 n5 c5 w5 hn5 hs5); have HB5 := Lib.hid hb5; clear hn5 hs5 hb5) | (go_at_call 55; (with_reducible refine HC5.out.mono ?_); rintro e w6 ⟨rfl, rfl⟩))
              go_roundw
              case rel => exact ⟨k + 1, HLT.out, by go_num, HNX.out, HVL.out.next HS.out ((HBL1.out.mono HVL.out.size).trans (HB5.out.mono (by have := HVL.out.size; simp; omega)))⟩
              case measure => have := HLT.out; simp only [intOf]; omega
          · obtain rfl : nh = k := by omega
            have hva1 : VH = true := by
              have := HVK.out
              rw [List.drop_eq_nil_of_le (by rw [HQ.out.2.1]; exact Nat.le_refl _)] at this
              rw [← this]
              rfl
            have HR3 : Hid (VU = R) := Lib.hid (by rw [← HR2.out, hva1]; rfl)
            have HVL0 : Hid (VlB w S sec qs hs us Aa na ca Ah nh ch Au nu cu (wr.alloc (.map #[] 0))) := Lib.hid (HVL.out.next HS.out ((Below.refl _ _).alloc HVL.out.size _))
            have HM1 := Lib.hid (SetK.made (T := keyP) wr)
            have HG : Hid (w.heap.size + 1 ≤ wr.heap.size) := Lib.hid HVL.out.size
            clear hva1 HVK HVL HR2
            obtain ⟨z0, z1, z2, z3⟩ := HVL0.out.bc
            rename World => w0
            go_wp2_with fail
            go_loopw [78] (fun v wr => ∃ k : Nat, k ≤ nu ∧ v = .int .i64 k ∧ ∃ seen, validU seen (us.drop k) = VU ∧ VlB w S sec qs hs us Aa na ca Ah nh ch Au nu cu wr ∧ SetK keyP wr w0.heap.size k seen) (fun v _ => nu - (intOf v).toNat)
            case atStart => exact ⟨0, by omega, rfl, [], HVU.out, HVL0.out, HM1.out⟩
            case round =>
              obtain ⟨k, hk, rfl, seen, hva, hvl, hset⟩ := hrel
              have HVK := Lib.hid hva
              have HVL := Lib.hid hvl
              have HSET := Lib.hid hset
              clear hva hvl hset HVL0 HM1
              clear x0 x1 x2 x3
              obtain ⟨x0, x1, x2, x3⟩ := HVL.out.bc
              by_cases hlt : k < nu
              · obtain ⟨⟨s, p, c⟩, hx⟩ : ∃ x, us[k]? = some x := ⟨us[k]'(by rw [HQ.out.2.2]; exact hlt), List.getElem?_eq_getElem _⟩
                have hd := drop_at hx
                have hv1 := HVK.out
                rw [hd] at hv1
                obtain ⟨g, off, rfl, hsg, y0, y1, y2⟩ := HVL.out.src.u.at_ hx
                have hgood : keyP.good (s, p) := HB.out.2.2 _ (List.mem_of_getElem? hx)
                have HGOOD := Lib.hid hgood
                have hil : (k : Int) < (nu : Int) := by omega
                have HLT := Lib.hid hlt
                have HKB : Hid (k ≤ 10000) := Lib.hid (by omega)
                have hb1 : Below wr.heap.size wr ((wr.alloc (.cells #[.string s, .int .i64 p, .int .i64 c] 57)).alloc (.cells #[.string s, .int .i64 p] 115)) := ((Below.refl wr.heap.size wr).alloc (Nat.le_refl _) _).alloc (by simp) _
                have hset1 := HSET.out.kept hb1 HSET.out.lt
                have HSET1 := Lib.hid hset1
                have HBL1 := Lib.hid hb1
                have hlook : (Instr.lookup 113 (.map (some w0.heap.size)) (.agg #[.string s, .int .i64 p]) false).run Tryz.prog ((wr.alloc (.cells #[.string s, .int .i64 p, .int .i64 c] 57)).alloc (.cells #[.string s, .int .i64 p] 115)) = .ok (.bool (seen.any fun y => keyP.same y (s, p))) _ := hset1.look Tryz.underlying113 (s, p) hgood
                clear hb1 hset1 hgood
                by_cases hc1 : c < 1
                · have kc : decide (c < 1) = true := decide_eq_true hc1
                  have HRF : Hid (R = false) := Lib.hid (by rw [← HR3.out, ← hv1]; unfold validU; rw [if_pos hc1])
                  clear hv1 hd hx hsg hc1 hlook
                  go_wp2_with fail
                  go_ret
                  exact ⟨by rw [HRF.out]; rfl, HVL.out.bel.trans (HBL1.out.mono HVL.out.bel.size)⟩
                · have kc : decide (c < 1) = false := decide_eq_false hc1
                  cases hsn : (seen.any fun y => keyP.same y (s, p)) with
                  | true =>
                    have HRF : Hid (R = false) := Lib.hid (by rw [← HR3.out, ← hv1]; unfold validU; rw [if_neg hc1, if_pos hsn])
                    rw [hsn] at hlook
                    clear hv1 hd hx hsg hc1 hsn
                    go_wp2_with fail
                    go_ret
                    exact ⟨by rw [HRF.out]; rfl, HVL.out.bel.trans (HBL1.out.mono HVL.out.bel.size)⟩
                  | false =>
                    have HNX : Hid (validU ((s, p) :: seen) (us.drop (k + 1)) = VU) := Lib.hid (by
                      rw [← hv1]
                      conv => rhs; unfold validU
                      rw [if_neg hc1, if_neg (by rw [hsn]; decide)])
                    rw [hsn] at hlook
                    clear hv1 hd hx hsg hc1 hsn
                    go_wp2_with (at_mapUpdate; refine wpList_put_K _ rfl _ _ _ _ rfl Tryz.underlying113 w0.heap.size k _ rfl HSET1.out HKB.out (s, p) rfl rfl HGOOD.out ?_; intro w6 hset6 hb6 hz6)
                    refine ⟨⟨k + 1, HLT.out, by go_num, (s, p) :: seen, HNX.out, HVL.out.next HS.out ((HBL1.out.mono HVL.out.size).trans (hb6.mono HG.out)), hset6⟩, ?_⟩
                    have := HLT.out
                    simp only [intOf]
                    omega
              · obtain rfl : nu = k := by omega
                have HRT : Hid (R = true) := Lib.hid (by
                  rw [← HR3.out, ← HVK.out, List.drop_eq_nil_of_le (by rw [HQ.out.2.2]; exact Nat.le_refl _)]
                  unfold validU
                  rfl)
                go_wp2_with fail
                go_ret
                exact ⟨by rw [HRT.out]; rfl, HVL.out.bel⟩
end Go.Proofs.YtjhlddlocpkhkaaGreat
