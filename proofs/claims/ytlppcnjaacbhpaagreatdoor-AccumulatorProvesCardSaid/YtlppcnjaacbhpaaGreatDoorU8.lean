/- The walks of package accumulator: Witness. -/
import Derived.Test.YtlppcnjaacbhpaaGreatDoorU7
import Derived.Test.YtlppcnjaacbhpaaGreatDoorAp
namespace Go.Proofs.YtlppcnjaacbhpaaGreatDoor
open Go.RowKit
set_option maxRecDepth 100000
set_option linter.unusedVariables false
set_option maxHeartbeats 1000000

def witnessS (m o u : ByteArray) (ms : List ByteArray) (x : ByteArray) : ByteArray × Int :=
  if readyS m o [u] (x :: ms) = 0 then (if twiceB ms = true then (E0, 8) else if ms.any (fun y => y.toList == x.toList) = true then (B (raiseN (num m) (ms.filter fun y => !(y.toList == x.toList)) (num u)), 0) else (E0, 9)) else (E0, readyS m o [u] (x :: ms))
/-- Before the append: the key, the row of the base, the row of the member. -/
structure WitAt (w : World) (m o u x : ByteArray) (gu gx : Nat) (W : World) : Prop where
  key : KeyAt w w.heap.size m o u W
  own : OwnS W w.heap.size (.slice (some ⟨gx, 0, none⟩) 1 1) 1 [x]
  us : W.cell? ⟨gu, 0, none⟩ = some (.string u)
  ne : gx ≠ gu
  ng : gx ≠ w.heap.size
  lu : gu < W.heap.size
  lx : w.heap.size ≤ gx
theorem WitAt.drew {w W : World} {m o u x : ByteArray} {gu gx : Nat} (h : WitAt w m o u x gu gx W) : WitAt w m o u x gu gx W.drew := ⟨h.key.drew, h.own, h.us, h.ne, h.ng, h.lu, h.lx⟩
/-- Behind the append. -/
structure WitTo (w : World) (m o u x : ByteArray) (ls : List ByteArray) (gu : Nat) (A1 : Option Addr) (w1 : World) : Prop where
  key : KeyAt w w.heap.size m o u w1
  us : SLs w1 w1.heap.size (some ⟨gu, 0, none⟩) [u]
  ms : SLs w1 w1.heap.size A1 (x :: ls)
theorem WitTo.drew {w w1 : World} {m o u x : ByteArray} {ls : List ByteArray} {gu : Nat} {A1 : Option Addr} (h : WitTo w m o u x ls gu A1 w1) : WitTo w m o u x ls gu A1 w1.drew := ⟨h.key.drew, h.us, h.ms⟩
theorem wit_row {n gu gx : Nat} {w W w1 : World} {v1 : Value} {m o u x : ByteArray} {ls : List ByteArray} (hn : ls.length = n) (hat : WitAt w m o u x gu gx W)
    (hown : w1.ownsRow w.heap.size 22 1 v1 (1 + n) ([x].map Value.string ++ ls.map Value.string)) (hg : W.grownBy w1 (Value.slice (some ⟨gx, 0, none⟩) 1 1).ownBlock) :
    ∃ A1 k1, v1 = .slice A1 (1 + n) k1 ∧ WitTo w m o u x ls gu A1 w1 := by
  have hz : w.heap.size ≤ w1.heap.size := Nat.le_trans hat.key.below.size hg.size
  have ho : OwnS w1 w.heap.size v1 (1 + n) (x :: ls) := ⟨by simp [hn]; omega, by simpa using hown⟩
  obtain ⟨A, c, hv, hs⟩ := ho.form hz
  have hlt := hat.key.size
  have hcell : ∀ g k, g < W.heap.size → gx ≠ g → w1.cell? ⟨g, k, none⟩ = W.cell? ⟨g, k, none⟩ := fun g k h1 h2 =>
    World.cell?_of_block (hg.block g h1 (by simp [Value.ownBlock]; omega))
  have hb : Below w.heap.size w w1 := hat.key.below.grown hg hat.key.below.size (fun k hk => by simp [Value.ownBlock] at hk; have := hat.lx; omega)
  refine ⟨A, c, hv, ⟨(hcell _ _ hlt hat.ng).trans hat.key.c1, (hcell _ _ hlt hat.ng).trans hat.key.c2, (hcell _ _ hlt hat.ng).trans hat.key.c6, hb, Nat.lt_of_lt_of_le hlt hg.size⟩, ?_, hs⟩
  refine SLs.of_row ?_ (Nat.lt_of_lt_of_le hat.lu hg.size)
  intro j hj
  have : j = 0 := by simp at hj; omega
  subst this
  exact (hcell _ _ hat.lu hat.ne).trans hat.us
/-- Behind an append that went ahead of the base's row. -/
structure WitMs (w : World) (m o u x : ByteArray) (ls : List ByteArray) (A1 : Option Addr) (w1 : World) : Prop where
  key : KeyAt w w.heap.size m o u w1
  ms : SLs w1 w1.heap.size A1 (x :: ls)
theorem WitMs.drew {w w1 : World} {m o u x : ByteArray} {ls : List ByteArray} {A1 : Option Addr} (h : WitMs w m o u x ls A1 w1) : WitMs w m o u x ls A1 w1.drew := ⟨h.key.drew, h.ms⟩
theorem WitMs.row {w w1 : World} {m o u x : ByteArray} {ls : List ByteArray} {A1 : Option Addr} (h : WitMs w m o u x ls A1 w1) : WitTo w m o u x ls w1.heap.size A1 (w1.alloc (.cells #[.string u] 22)) :=
  ⟨h.key.alloc _, SLs.new w1 22 [u] _ (by simp), (h.ms.below ((Below.refl _ _).alloc (Nat.le_refl _) _)).more (by simp)⟩
theorem wit_row3 {n gx : Nat} {w W w1 : World} {v1 : Value} {m o u x : ByteArray} {ls : List ByteArray} (hn : ls.length = n) (hk : KeyAt w w.heap.size m o u W) (hgx : gx = w.heap.size + 1)
    (hown : w1.ownsRow w.heap.size 22 1 v1 (1 + n) ([x].map Value.string ++ ls.map Value.string)) (hg : W.grownBy w1 (Value.slice (some ⟨gx, 0, none⟩) 1 1).ownBlock) :
    ∃ A1 k1, v1 = .slice A1 (1 + n) k1 ∧ WitMs w m o u x ls A1 w1 := by
  have hz : w.heap.size ≤ w1.heap.size := Nat.le_trans hk.below.size hg.size
  have ho : OwnS w1 w.heap.size v1 (1 + n) (x :: ls) := ⟨by simp [hn]; omega, by simpa using hown⟩
  obtain ⟨A, c, hv, hs⟩ := ho.form hz
  have hlt := hk.size
  have hcell : ∀ g k, g < W.heap.size → gx ≠ g → w1.cell? ⟨g, k, none⟩ = W.cell? ⟨g, k, none⟩ := fun g k h1 h2 =>
    World.cell?_of_block (hg.block g h1 (by simp [Value.ownBlock]; omega))
  have hb : Below w.heap.size w w1 := hk.below.grown hg hk.below.size (fun k hk => by simp [Value.ownBlock] at hk; omega)
  exact ⟨A, c, hv, ⟨(hcell _ _ hlt (by omega)).trans hk.c1, (hcell _ _ hlt (by omega)).trans hk.c2, (hcell _ _ hlt (by omega)).trans hk.c6, hb, Nat.lt_of_lt_of_le hlt hg.size⟩, hs⟩
theorem own_sls {w : World} {base : Nat} {A : Option Addr} {n c : Nat} {ls : List ByteArray} (h : OwnS w base (.slice A n c) n ls) (hz : base ≤ w.heap.size) : SLs w w.heap.size A ls := by
  obtain ⟨A', c', e, hs⟩ := h.form hz
  injection e with e1 _ _
  rw [e1]; exact hs
theorem all_filter {p q : ByteArray → Bool} {ls : List ByteArray} (h : ls.all p = true) : (ls.filter q).all p = true := by
  rw [List.all_eq_true] at h ⊢
  exact fun x hx => h x (List.mem_filter.1 hx).1
theorem wit_step {w wr w5 : World} {m o u y : ByteArray} {l : List ByteArray} {A' : Option Addr} {c' : Nat} {v5 : Value} {ob : Obj} (hk : KeyAt w w.heap.size m o u wr) (hown0 : OwnS (wr.alloc ob) (w.heap.size + 1) (.slice A' l.length c') l.length l)
    (hown : w5.ownsRow (w.heap.size + 1) 22 1 v5 (l.length + 1) (l.map Value.string ++ [y].map Value.string)) (hg : (wr.alloc ob).grownBy w5 (Value.slice A' l.length c').ownBlock) :
    ∃ A5 c5, v5 = .slice A5 (l.length + 1) c5 ∧ OwnS w5 (w.heap.size + 1) (.slice A5 (l.length + 1) c5) (l.length + 1) (l ++ [y]) ∧ KeyAt w w.heap.size m o u w5 := by
  have hz1 : w.heap.size ≤ (wr.alloc ob).heap.size := Nat.le_trans hk.below.size (by simp)
  have hz : w.heap.size + 1 ≤ w5.heap.size := Nat.le_trans (Nat.lt_of_lt_of_le hk.size (by simp)) hg.size
  have ho : OwnS w5 (w.heap.size + 1) v5 (l.length + 1) (l ++ [y]) := ⟨by simp, by simpa using hown⟩
  obtain ⟨A, c, hv, hs⟩ := ho.form hz
  have hlt : w.heap.size < (wr.alloc ob).heap.size := Nat.lt_of_lt_of_le hk.size (by simp)
  have hka := hk.alloc ob
  have hcell : ∀ k, w5.cell? ⟨w.heap.size, k, none⟩ = (wr.alloc ob).cell? ⟨w.heap.size, k, none⟩ := fun k => World.cell?_of_block (hg.block w.heap.size hlt (fun e => by have := (hown0.2.lt _ e.symm).1; omega))
  have hb : Below w.heap.size w w5 := hka.below.grown hg hz1 (fun k hk => by have := (hown0.2.lt k hk).1; omega)
  exact ⟨A, c, hv, hv ▸ ho, ⟨(hcell _).trans hka.c1, (hcell _).trans hka.c2, (hcell _).trans hka.c6, hb, Nat.lt_of_lt_of_le hlt hg.size⟩⟩
theorem acc_Witness (kn z s r h : Value) (m o u x : ByteArray) (ls : List ByteArray) (A : Option Addr) (n c : Nat) (w : World) (sm : m.size ≤ 8) (hn : ls.length = n) (hm : n ≤ 100) (hs : SLs w w.heap.size A ls) :
    Calls Tryz.prog 12 #[.agg #[kn, .string m, .string o, z, s, r, .string u, h], .slice A n c, .string x] w fun e w' => e = .returned (.tuple #[.string (witnessS m o u ls x).1, .int .i64 (witnessS m o u ls x).2]) ∧ Below w.heap.size w w' := by
  have hr : witnessS m o u ls x = if readyS m o [u] (x :: ls) = 0 then (if twiceB ls = true then (E0, 8) else if ls.any (fun y => y.toList == x.toList) = true then (B (raiseN (num m) (ls.filter fun y => !(y.toList == x.toList)) (num u)), 0) else (E0, 9)) else (E0, readyS m o [u] (x :: ls)) := rfl
  obtain ⟨i0, hi0, hz0, hz1, hz2⟩ := info_parts nat_info
  have HR := Lib.hid hr
  have HS := Lib.hid hs
  have HN := Lib.hid hn
  have HB := Lib.hid (KeyAt.box w kn z s r h m o u 27)
  have HB2 := Lib.hid (HB.out.alloc (.cells #[.string u] 22))
  have hwit : ∀ a b : ByteArray, ∀ gu gx : Nat, (gu = w.heap.size + 1 ∧ gx = w.heap.size + 1 + 1 ∧ a = u ∧ b = x) ∨ (gu = w.heap.size + 1 + 1 ∧ gx = w.heap.size + 1 ∧ a = x ∧ b = u) →
      WitAt w m o u x gu gx (((w.alloc (.cells #[kn, .string m, .string o, z, s, r, .string u, h] 27)).alloc (.cells #[.string a] 22)).alloc (.cells #[.string b] 22)) := by
    rintro a b gu gx (⟨rfl, rfl, rfl, rfl⟩ | ⟨rfl, rfl, rfl, rfl⟩)
    · refine ⟨(HB.out.alloc _).alloc _, ?_, by simp [go_sem], by omega, by omega, by simp, by omega⟩
      have := OwnS.lit ((w.alloc (.cells #[kn, .string m, .string o, z, s, r, .string a, h] 27)).alloc (.cells #[.string a] 22)) w.heap.size [b] 1 (by simp; omega) rfl (by decide)
      simp only [World.size_alloc] at this
      exact this
    · refine ⟨(HB.out.alloc _).alloc _, ?_, by simp [go_sem], by omega, by omega, by simp, by omega⟩
      have := (OwnS.lit (w.alloc (.cells #[kn, .string m, .string o, z, s, r, .string b, h] 27)) w.heap.size [a] 1 (by simp) rfl (by decide)).kept (B := 0) ((Below.refl _ _).alloc (Nat.le_refl _) (.cells #[.string b] 22))
      simp only [World.size_alloc] at this
      exact this
  have HW1 := Lib.hid (hwit u x _ _ (.inl ⟨rfl, rfl, rfl, rfl⟩))
  have HW2 := Lib.hid (hwit x u _ _ (.inr ⟨rfl, rfl, rfl, rfl⟩))
  clear hwit
  have HK3 := Lib.hid (HB.out.alloc (.cells #[.string x] 22))
  have hw3 := OwnS.lit (w.alloc (.cells #[kn, .string m, .string o, z, s, r, .string u, h] 27)) w.heap.size [x] 1 (by simp) rfl (by decide)
  simp only [World.size_alloc] at hw3
  have HW3 := Lib.hid hw3
  have HRD3 := Lib.hid (((HK3.out.sls hs).more HK3.out.below.size).reads hn)
  clear hw3
  have hone : ∀ l : List ByteArray, ∀ u ∈ l.map Value.string, u.oneCell' = true := fun l u hu => by
    obtain ⟨y, _, rfl⟩ := List.mem_map.1 hu
    rfl
  have HONE := Lib.hid hone
  have HRD1 := Lib.hid (((HW1.out.key.sls hs).more HW1.out.key.below.size).reads hn)
  have HRD2 := Lib.hid (((HW2.out.key.sls hs).more HW2.out.key.below.size).reads hn)
  have hmax : 1 + n ≤ maxLen := by unfold maxLen; omega
  have HMAX := Lib.hid hmax
  have hrdy := fun gu A' c' W hs1 hs2 => acc_ready m o [u] (x :: ls) (some ⟨gu, 0, none⟩) A' 1 (1 + n) 1 c' W sm rfl (by rw [List.length_cons, hn, Nat.add_comm]) (by decide) (by omega) hs1 hs2
  have hok := fun h0 => readyS_ok (m := m) (o := o) (els := [u]) (hs := x :: ls) h0
  obtain ⟨re, hre⟩ : ∃ re, readyS m o [u] (x :: ls) = re := ⟨_, rfl⟩
  rw [hre] at HR hrdy hok
  have HRDY := Lib.hid hrdy
  have c1 := HB.out.c1
  have c2 := HB.out.c2
  have c6 := HB.out.c6
  have d1 := HB2.out.c1
  have d2 := HB2.out.c2
  have d6 := HB2.out.c6
  clear hr hs hrdy hre hone hmax
  by_cases h0 : re = 0
  · subst h0
    obtain ⟨_, vl, hg, hx, _⟩ := hok rfl
    simp only [List.all_cons, List.all_nil, Bool.and_true, Bool.and_eq_true] at hx vl
    have hvu := (hasG_lt sm hx).1
    have hset1 := fun w hs ht => acc_set_ok ls A n c w hn (by omega) hs vl.2 ht
    have hset2 := fun w hs ht => acc_set_twice ls A n c w hn (by omega) hs vl.2 ht
    have hrz := fun l A' n' c' w hn' hm' hs hv => acc_raised m o (num u) l A' n' c' w sm hg (by rw [B_num hvu]; exact hx) hn' hm' hs hv
    rw [B_num hvu] at hrz
    have HSET1 := Lib.hid hset1
    have HSET2 := Lib.hid hset2
    have HRZ := Lib.hid hrz
    have HVX := Lib.hid (valid_size' vl.1)
    have HVL := Lib.hid vl.2
    rw [if_pos rfl] at HR
    clear hok hset1 hset2 hrz vl hg hx hvu
    cases htw : twiceB ls
    · rw [htw, if_neg (by simp)] at HR
      have HTW := Lib.hid htw
      clear htw
      cases han : ls.any (fun y => y.toList == x.toList)
      · rw [han, if_neg (by simp)] at HR
        have HAN := Lib.hid han
        clear han
        go_enter Tryz.func12, Tryz.ntmps12
        go_wp2_with fail
        go_region_held3 (fun w' => w'.cell? ⟨w.heap.size, 1, none⟩ = some (.string m) ∧ w'.cell? ⟨w.heap.size, 2, none⟩ = some (.string o) ∧ w'.cell? ⟨w.heap.size, 6, none⟩ = some (.string u)) (first | go_keep) (first | (refine step_append_any _ (by rfl) _ _ _ (by rfl) w.heap.size 22 i0 _ 1 16 Tryz.underlying25 hi0 hz0 hz1 hz2 rfl (by omega) (.slice (some ⟨w.heap.size + 1 + 1, 0, none⟩) 1 1) 1 ([x].map Value.string) (by rfl) (by first | exact HW1.out.own.2 | exact HW1.out.drew.own.2) _ A n c (ls.map Value.string) (by rfl) (by first | exact HRD1.out | exact HRD1.out.drew) (HONE.out ls) HMAX.out (by omega) (by simp; omega) ?_; intro v1 w1 hown1 hgrow hat; obtain ⟨A1, k1, rfl, n1⟩ := wit_row HN.out (by first | exact HW1.out | exact HW1.out.drew) hown1 hgrow; have p1 := n1.key.c1; have p2 := n1.key.c2; have p6 := n1.key.c6; have H1 := Lib.hid n1; clear n1 hown1 hgrow hat) | (refine step_append_any _ (by rfl) _ _ _ (by rfl) w.heap.size 22 i0 _ 1 16 Tryz.underlying25 hi0 hz0 hz1 hz2 rfl (by omega) (.slice (some ⟨w.heap.size + 1, 0, none⟩) 1 1) 1 ([x].map Value.string) (by rfl) (by first | exact HW2.out.own.2 | exact HW2.out.drew.own.2) _ A n c (ls.map Value.string) (by rfl) (by first | exact HRD2.out | exact HRD2.out.drew) (HONE.out ls) HMAX.out (by omega) (by simp; omega) ?_; intro v1 w1 hown1 hgrow hat; obtain ⟨A1, k1, rfl, n1⟩ := wit_row HN.out (by first | exact HW2.out | exact HW2.out.drew) hown1 hgrow; have p1 := n1.key.c1; have p2 := n1.key.c2; have p6 := n1.key.c6; have H1 := Lib.hid n1; clear n1 hown1 hgrow hat) | (refine step_append_any _ (by rfl) _ _ _ (by rfl) w.heap.size 22 i0 _ 1 16 Tryz.underlying25 hi0 hz0 hz1 hz2 rfl (by omega) (.slice (some ⟨w.heap.size + 1, 0, none⟩) 1 1) 1 ([x].map Value.string) (by rfl) (by first | exact HW3.out.2 | exact HW3.out.2.drew) _ A n c (ls.map Value.string) (by rfl) (by first | exact HRD3.out | exact HRD3.out.drew) (HONE.out ls) HMAX.out (by omega) (by simp; omega) ?_; intro v1 w1 hown1 hgrow hat; obtain ⟨A1, k1, rfl, n1⟩ := wit_row3 HN.out (by first | exact HK3.out | exact HK3.out.drew) rfl hown1 hgrow; have p1 := n1.key.c1; have p2 := n1.key.c2; have p6 := n1.key.c6; have H1 := Lib.hid n1; clear n1 hown1 hgrow hat) | (go_at_call 24; (first | (with_reducible refine (HRDY.out _ A1 k1 _ H1.out.us H1.out.ms).mono ?_) | (with_reducible refine (HRDY.out _ A1 k1 _ H1.out.drew.us H1.out.drew.ms).mono ?_)); rintro e w2 ⟨rfl, hb2⟩; have n2 : KeyAt w w.heap.size m o u w2 := by { first | exact H1.out.key.next hb2 | exact H1.out.drew.key.next hb2 }; have q1 := n2.c1; have q2 := n2.c2; have q6 := n2.c6; have H2 := Lib.hid n2; clear n2 hb2) | (go_at_call 24; (first | (with_reducible refine (HRDY.out _ A1 k1 _ H1.out.row.us H1.out.row.ms).mono ?_) | (with_reducible refine (HRDY.out _ A1 k1 _ H1.out.drew.row.us H1.out.drew.row.ms).mono ?_) | (with_reducible refine (HRDY.out _ A1 k1 _ H1.out.row.drew.us H1.out.row.drew.ms).mono ?_)); rintro e w2 ⟨rfl, hb2⟩; have n2 : KeyAt w w.heap.size m o u w2 := by { first | exact H1.out.row.key.next hb2 | exact H1.out.drew.row.key.next hb2 | exact H1.out.row.drew.key.next hb2 }; have q1 := n2.c1; have q2 := n2.c2; have q6 := n2.c6; have H2 := Lib.hid n2; clear n2 hb2))
        all_goals
          go_wp2_with (first | (go_at_call 25; (with_reducible refine (HSET1.out _ ((H2.out.sls HS.out).more H2.out.below.size) HTW.out).mono ?_); rintro e w3 ⟨bm, rfl, hbm, hsm, hb3⟩; have n3 := H2.out.next hb3; have r1 := n3.c1; have r2 := n3.c2; have r6 := n3.c6; have H3 := Lib.hid n3; have HSM := Lib.hid hsm; clear n3 hb3 hbm hsm) | (at_lookup; refine wpList_lookup_set _ rfl _ _ _ rfl Tryz.underlying69 bm _ _ rfl HSM.out x rfl HVX.out ?_; rw [HAN.out]))
          go_ret2
          exact ⟨ret_se (by rw [HR.out] <;> rfl) (by rw [HR.out]), H3.out.below⟩
      · rw [han, if_pos rfl] at HR
        have HAN := Lib.hid han
        clear han
        go_enter Tryz.func12, Tryz.ntmps12
        go_wp2_with fail
        go_region_held3 (fun w' => w'.cell? ⟨w.heap.size, 1, none⟩ = some (.string m) ∧ w'.cell? ⟨w.heap.size, 2, none⟩ = some (.string o) ∧ w'.cell? ⟨w.heap.size, 6, none⟩ = some (.string u)) (first | go_keep) (first | (refine step_append_any _ (by rfl) _ _ _ (by rfl) w.heap.size 22 i0 _ 1 16 Tryz.underlying25 hi0 hz0 hz1 hz2 rfl (by omega) (.slice (some ⟨w.heap.size + 1 + 1, 0, none⟩) 1 1) 1 ([x].map Value.string) (by rfl) (by first | exact HW1.out.own.2 | exact HW1.out.drew.own.2) _ A n c (ls.map Value.string) (by rfl) (by first | exact HRD1.out | exact HRD1.out.drew) (HONE.out ls) HMAX.out (by omega) (by simp; omega) ?_; intro v1 w1 hown1 hgrow hat; obtain ⟨A1, k1, rfl, n1⟩ := wit_row HN.out (by first | exact HW1.out | exact HW1.out.drew) hown1 hgrow; have p1 := n1.key.c1; have p2 := n1.key.c2; have p6 := n1.key.c6; have H1 := Lib.hid n1; clear n1 hown1 hgrow hat) | (refine step_append_any _ (by rfl) _ _ _ (by rfl) w.heap.size 22 i0 _ 1 16 Tryz.underlying25 hi0 hz0 hz1 hz2 rfl (by omega) (.slice (some ⟨w.heap.size + 1, 0, none⟩) 1 1) 1 ([x].map Value.string) (by rfl) (by first | exact HW2.out.own.2 | exact HW2.out.drew.own.2) _ A n c (ls.map Value.string) (by rfl) (by first | exact HRD2.out | exact HRD2.out.drew) (HONE.out ls) HMAX.out (by omega) (by simp; omega) ?_; intro v1 w1 hown1 hgrow hat; obtain ⟨A1, k1, rfl, n1⟩ := wit_row HN.out (by first | exact HW2.out | exact HW2.out.drew) hown1 hgrow; have p1 := n1.key.c1; have p2 := n1.key.c2; have p6 := n1.key.c6; have H1 := Lib.hid n1; clear n1 hown1 hgrow hat) | (refine step_append_any _ (by rfl) _ _ _ (by rfl) w.heap.size 22 i0 _ 1 16 Tryz.underlying25 hi0 hz0 hz1 hz2 rfl (by omega) (.slice (some ⟨w.heap.size + 1, 0, none⟩) 1 1) 1 ([x].map Value.string) (by rfl) (by first | exact HW3.out.2 | exact HW3.out.2.drew) _ A n c (ls.map Value.string) (by rfl) (by first | exact HRD3.out | exact HRD3.out.drew) (HONE.out ls) HMAX.out (by omega) (by simp; omega) ?_; intro v1 w1 hown1 hgrow hat; obtain ⟨A1, k1, rfl, n1⟩ := wit_row3 HN.out (by first | exact HK3.out | exact HK3.out.drew) rfl hown1 hgrow; have p1 := n1.key.c1; have p2 := n1.key.c2; have p6 := n1.key.c6; have H1 := Lib.hid n1; clear n1 hown1 hgrow hat) | (go_at_call 24; (first | (with_reducible refine (HRDY.out _ A1 k1 _ H1.out.us H1.out.ms).mono ?_) | (with_reducible refine (HRDY.out _ A1 k1 _ H1.out.drew.us H1.out.drew.ms).mono ?_)); rintro e w2 ⟨rfl, hb2⟩; have n2 : KeyAt w w.heap.size m o u w2 := by { first | exact H1.out.key.next hb2 | exact H1.out.drew.key.next hb2 }; have q1 := n2.c1; have q2 := n2.c2; have q6 := n2.c6; have H2 := Lib.hid n2; clear n2 hb2) | (go_at_call 24; (first | (with_reducible refine (HRDY.out _ A1 k1 _ H1.out.row.us H1.out.row.ms).mono ?_) | (with_reducible refine (HRDY.out _ A1 k1 _ H1.out.drew.row.us H1.out.drew.row.ms).mono ?_) | (with_reducible refine (HRDY.out _ A1 k1 _ H1.out.row.drew.us H1.out.row.drew.ms).mono ?_)); rintro e w2 ⟨rfl, hb2⟩; have n2 : KeyAt w w.heap.size m o u w2 := by { first | exact H1.out.row.key.next hb2 | exact H1.out.drew.row.key.next hb2 | exact H1.out.row.drew.key.next hb2 }; have q1 := n2.c1; have q2 := n2.c2; have q6 := n2.c6; have H2 := Lib.hid n2; clear n2 hb2))
        all_goals
          go_wp2_with (first | (go_at_call 25; (with_reducible refine (HSET1.out _ ((H2.out.sls HS.out).more H2.out.below.size) HTW.out).mono ?_); rintro e w3 ⟨bm, rfl, hbm, hsm, hb3⟩; have n3 := H2.out.next hb3; have r1 := n3.c1; have r2 := n3.c2; have r6 := n3.c6; have H3 := Lib.hid n3; have HSM := Lib.hid hsm; clear n3 hb3 hbm hsm) | (at_lookup; refine wpList_lookup_set _ rfl _ _ _ rfl Tryz.underlying69 bm _ _ rfl HSM.out x rfl HVX.out ?_; rw [HAN.out]))
          go_loopw [11, 41] (fun v11 v wr => ∃ (k : Nat) (l : List ByteArray) (A' : Option Addr) (c' : Nat), v11 = .slice A' l.length c' ∧ v = .int .i64 k ∧ k ≤ n ∧ l = (ls.take k).filter (fun y => !(y.toList == x.toList)) ∧ OwnS wr (w.heap.size + 1) (.slice A' l.length c') l.length l ∧ KeyAt w w.heap.size m o u wr) (fun _ v _ => n - (intOf v).toNat)
          case atStart => exact ⟨0, [], none, 0, rfl, rfl, Nat.zero_le _, by rw [List.take_zero]; rfl, OwnS.nil_ _ _, H3.out⟩
          case round =>
            obtain ⟨k, l, A', c', rfl, rfl, hk, hl, hown, hkey⟩ := hrel
            have HL := Lib.hid hl
            have HOWN := Lib.hid hown
            have HKEY := Lib.hid hkey
            have e1 := hkey.c1
            have e2 := hkey.c2
            have e6 := hkey.c6
            have HLL := Lib.hid (show l.length ≤ n from by rw [hl]; exact Nat.le_trans (List.length_filter_le _ _) (by rw [List.length_take]; omega))
            clear hl hown hkey
            by_cases hlt : k < n
            · obtain ⟨ad, rfl, hc⟩ := (HKEY.out.sls HS.out).at_ (k := k) (by rw [HN.out]; exact hlt)
              have htk := take_snoc' ls (k := k) (by rw [HN.out]; exact hlt)
              obtain ⟨y, hy⟩ : ∃ y, ls.getD k ByteArray.empty = y := ⟨_, rfl⟩
              rw [hy] at hc htk
              have HTK := Lib.hid htk
              have HLT := Lib.hid hlt
              clear hy hlt htk
              cases kb : (y.toList == x.toList)
              · have HF : Hid ((ls.take (k + 1)).filter (fun y => !(y.toList == x.toList)) = l ++ [y]) := Lib.hid (by rw [HTK.out, List.filter_append, ← HL.out]; simp [kb])
                have HOW2 := Lib.hid (HOWN.out.kept (B := 0) ((Below.refl _ _).alloc (Nat.le_refl _) (.cells #[.string y] 22)))
                have HRDY2 := Lib.hid ((SLs.new wr 22 [y] (wr.heap.size + 1) (by omega)).reads (n := 1) rfl)
                have HMX2 := Lib.hid (show l.length + 1 ≤ maxLen from by have := HLL.out; unfold maxLen; omega)
                have HBY2 := Lib.hid (show (l.length + 1) * 16 ≤ 140737488355328 from by have := HLL.out; omega)
                have HBS2 := Lib.hid (show w.heap.size + 1 ≤ (wr.alloc (.cells #[.string y] 22)).heap.size from by have := HKEY.out.size; simp; omega)
                go_wp2_with (at_builtin; refine wpList_append_any _ rfl (.tmp 48) (.tmp 50) _ rfl (w.heap.size + 1) 22 i0 _ 1 16 Tryz.underlying25 hi0 hz0 hz1 hz2 rfl (by omega) (.slice A' l.length c') l.length (l.map Value.string) rfl HOW2.out.2 (wr.heap.size + 1) _ 1 1 ([y].map Value.string) rfl HRDY2.out (HONE.out [y]) HMX2.out HBY2.out HBS2.out ?_; intro v5 w5 hown5 hg5 hat5; obtain ⟨A5, c5, rfl, ho5, hk5⟩ := wit_step HKEY.out HOW2.out hown5 hg5; have HO5 := Lib.hid ho5; have HK5 := Lib.hid hk5; clear hown5 hg5 hat5 ho5 hk5)
                go_roundw
                case rel => exact ⟨k + 1, l ++ [y], A5, c5, by simp, rfl, HLT.out, HF.out.symm, by simpa using HO5.out, HK5.out⟩
                case measure => have := HLT.out; simp only [intOf]; omega
              · have HF : Hid ((ls.take (k + 1)).filter (fun y => !(y.toList == x.toList)) = l) := Lib.hid (by rw [HTK.out, List.filter_append, ← HL.out]; simp [kb])
                go_wp2_with fail
                go_roundw
                case rel => exact ⟨k + 1, l, A', c', rfl, rfl, HLT.out, HF.out.symm, HOWN.out, HKEY.out⟩
                case measure => have := HLT.out; simp only [intOf]; omega
            · obtain rfl : k = n := by omega
              have HT : Hid (ls.take k = ls) := Lib.hid (List.take_of_length_le (by rw [HN.out]; exact Nat.le_refl _))
              have HSL5 := Lib.hid (own_sls HOWN.out HKEY.out.size)
              have HVL5 := Lib.hid (show l.all valid = true from by rw [HL.out, HT.out]; exact all_filter HVL.out)
              have HLM := Lib.hid (show l.length ≤ 1000 from by have := HLL.out; omega)
              go_wp2_with (go_at_call 26; (with_reducible refine (HRZ.out l A' l.length c' _ rfl HLM.out HSL5.out HVL5.out).mono ?_); rintro e w7 ⟨rfl, hb7⟩)
              go_ret2
              exact ⟨ret_se (by rw [HR.out, HL.out, HT.out]) (by rw [HR.out]), (HKEY.out.next hb7).below⟩
    · rw [htw, if_pos rfl] at HR
      have HTW := Lib.hid htw
      clear htw
      go_enter Tryz.func12, Tryz.ntmps12
      go_wp2_with fail
      go_region_held3 (fun w' => w'.cell? ⟨w.heap.size, 1, none⟩ = some (.string m) ∧ w'.cell? ⟨w.heap.size, 2, none⟩ = some (.string o) ∧ w'.cell? ⟨w.heap.size, 6, none⟩ = some (.string u)) (first | go_keep) (first | (refine step_append_any _ (by rfl) _ _ _ (by rfl) w.heap.size 22 i0 _ 1 16 Tryz.underlying25 hi0 hz0 hz1 hz2 rfl (by omega) (.slice (some ⟨w.heap.size + 1 + 1, 0, none⟩) 1 1) 1 ([x].map Value.string) (by rfl) (by first | exact HW1.out.own.2 | exact HW1.out.drew.own.2) _ A n c (ls.map Value.string) (by rfl) (by first | exact HRD1.out | exact HRD1.out.drew) (HONE.out ls) HMAX.out (by omega) (by simp; omega) ?_; intro v1 w1 hown1 hgrow hat; obtain ⟨A1, k1, rfl, n1⟩ := wit_row HN.out (by first | exact HW1.out | exact HW1.out.drew) hown1 hgrow; have p1 := n1.key.c1; have p2 := n1.key.c2; have p6 := n1.key.c6; have H1 := Lib.hid n1; clear n1 hown1 hgrow hat) | (refine step_append_any _ (by rfl) _ _ _ (by rfl) w.heap.size 22 i0 _ 1 16 Tryz.underlying25 hi0 hz0 hz1 hz2 rfl (by omega) (.slice (some ⟨w.heap.size + 1, 0, none⟩) 1 1) 1 ([x].map Value.string) (by rfl) (by first | exact HW2.out.own.2 | exact HW2.out.drew.own.2) _ A n c (ls.map Value.string) (by rfl) (by first | exact HRD2.out | exact HRD2.out.drew) (HONE.out ls) HMAX.out (by omega) (by simp; omega) ?_; intro v1 w1 hown1 hgrow hat; obtain ⟨A1, k1, rfl, n1⟩ := wit_row HN.out (by first | exact HW2.out | exact HW2.out.drew) hown1 hgrow; have p1 := n1.key.c1; have p2 := n1.key.c2; have p6 := n1.key.c6; have H1 := Lib.hid n1; clear n1 hown1 hgrow hat) | (refine step_append_any _ (by rfl) _ _ _ (by rfl) w.heap.size 22 i0 _ 1 16 Tryz.underlying25 hi0 hz0 hz1 hz2 rfl (by omega) (.slice (some ⟨w.heap.size + 1, 0, none⟩) 1 1) 1 ([x].map Value.string) (by rfl) (by first | exact HW3.out.2 | exact HW3.out.2.drew) _ A n c (ls.map Value.string) (by rfl) (by first | exact HRD3.out | exact HRD3.out.drew) (HONE.out ls) HMAX.out (by omega) (by simp; omega) ?_; intro v1 w1 hown1 hgrow hat; obtain ⟨A1, k1, rfl, n1⟩ := wit_row3 HN.out (by first | exact HK3.out | exact HK3.out.drew) rfl hown1 hgrow; have p1 := n1.key.c1; have p2 := n1.key.c2; have p6 := n1.key.c6; have H1 := Lib.hid n1; clear n1 hown1 hgrow hat) | (go_at_call 24; (first | (with_reducible refine (HRDY.out _ A1 k1 _ H1.out.us H1.out.ms).mono ?_) | (with_reducible refine (HRDY.out _ A1 k1 _ H1.out.drew.us H1.out.drew.ms).mono ?_)); rintro e w2 ⟨rfl, hb2⟩; have n2 : KeyAt w w.heap.size m o u w2 := by { first | exact H1.out.key.next hb2 | exact H1.out.drew.key.next hb2 }; have q1 := n2.c1; have q2 := n2.c2; have q6 := n2.c6; have H2 := Lib.hid n2; clear n2 hb2) | (go_at_call 24; (first | (with_reducible refine (HRDY.out _ A1 k1 _ H1.out.row.us H1.out.row.ms).mono ?_) | (with_reducible refine (HRDY.out _ A1 k1 _ H1.out.drew.row.us H1.out.drew.row.ms).mono ?_) | (with_reducible refine (HRDY.out _ A1 k1 _ H1.out.row.drew.us H1.out.row.drew.ms).mono ?_)); rintro e w2 ⟨rfl, hb2⟩; have n2 : KeyAt w w.heap.size m o u w2 := by { first | exact H1.out.row.key.next hb2 | exact H1.out.drew.row.key.next hb2 | exact H1.out.row.drew.key.next hb2 }; have q1 := n2.c1; have q2 := n2.c2; have q6 := n2.c6; have H2 := Lib.hid n2; clear n2 hb2))
      all_goals
        go_wp2_with (go_at_call 25; (with_reducible refine (HSET2.out _ ((H2.out.sls HS.out).more H2.out.below.size) HTW.out).mono ?_); rintro e w3 ⟨rfl, hb3⟩; have H3 := Lib.hid (H2.out.next hb3); clear hb3)
        go_ret2
        exact ⟨ret_se (by rw [HR.out] <;> rfl) (by rw [HR.out]), H3.out.below⟩
  · rw [if_neg h0] at HR
    have hnb : (re != 0) = true := by rw [bne_iff_ne]; exact h0
    clear h0 hok
    go_enter Tryz.func12, Tryz.ntmps12
    go_wp2_with fail
    go_region_held3 (fun w' => w'.cell? ⟨w.heap.size, 1, none⟩ = some (.string m) ∧ w'.cell? ⟨w.heap.size, 2, none⟩ = some (.string o) ∧ w'.cell? ⟨w.heap.size, 6, none⟩ = some (.string u)) (first | go_keep) (first | (refine step_append_any _ (by rfl) _ _ _ (by rfl) w.heap.size 22 i0 _ 1 16 Tryz.underlying25 hi0 hz0 hz1 hz2 rfl (by omega) (.slice (some ⟨w.heap.size + 1 + 1, 0, none⟩) 1 1) 1 ([x].map Value.string) (by rfl) (by first | exact HW1.out.own.2 | exact HW1.out.drew.own.2) _ A n c (ls.map Value.string) (by rfl) (by first | exact HRD1.out | exact HRD1.out.drew) (HONE.out ls) HMAX.out (by omega) (by simp; omega) ?_; intro v1 w1 hown1 hgrow hat; obtain ⟨A1, k1, rfl, n1⟩ := wit_row HN.out (by first | exact HW1.out | exact HW1.out.drew) hown1 hgrow; have p1 := n1.key.c1; have p2 := n1.key.c2; have p6 := n1.key.c6; have H1 := Lib.hid n1; clear n1 hown1 hgrow hat) | (refine step_append_any _ (by rfl) _ _ _ (by rfl) w.heap.size 22 i0 _ 1 16 Tryz.underlying25 hi0 hz0 hz1 hz2 rfl (by omega) (.slice (some ⟨w.heap.size + 1, 0, none⟩) 1 1) 1 ([x].map Value.string) (by rfl) (by first | exact HW2.out.own.2 | exact HW2.out.drew.own.2) _ A n c (ls.map Value.string) (by rfl) (by first | exact HRD2.out | exact HRD2.out.drew) (HONE.out ls) HMAX.out (by omega) (by simp; omega) ?_; intro v1 w1 hown1 hgrow hat; obtain ⟨A1, k1, rfl, n1⟩ := wit_row HN.out (by first | exact HW2.out | exact HW2.out.drew) hown1 hgrow; have p1 := n1.key.c1; have p2 := n1.key.c2; have p6 := n1.key.c6; have H1 := Lib.hid n1; clear n1 hown1 hgrow hat) | (refine step_append_any _ (by rfl) _ _ _ (by rfl) w.heap.size 22 i0 _ 1 16 Tryz.underlying25 hi0 hz0 hz1 hz2 rfl (by omega) (.slice (some ⟨w.heap.size + 1, 0, none⟩) 1 1) 1 ([x].map Value.string) (by rfl) (by first | exact HW3.out.2 | exact HW3.out.2.drew) _ A n c (ls.map Value.string) (by rfl) (by first | exact HRD3.out | exact HRD3.out.drew) (HONE.out ls) HMAX.out (by omega) (by simp; omega) ?_; intro v1 w1 hown1 hgrow hat; obtain ⟨A1, k1, rfl, n1⟩ := wit_row3 HN.out (by first | exact HK3.out | exact HK3.out.drew) rfl hown1 hgrow; have p1 := n1.key.c1; have p2 := n1.key.c2; have p6 := n1.key.c6; have H1 := Lib.hid n1; clear n1 hown1 hgrow hat) | (go_at_call 24; (first | (with_reducible refine (HRDY.out _ A1 k1 _ H1.out.us H1.out.ms).mono ?_) | (with_reducible refine (HRDY.out _ A1 k1 _ H1.out.drew.us H1.out.drew.ms).mono ?_)); rintro e w2 ⟨rfl, hb2⟩; have n2 : KeyAt w w.heap.size m o u w2 := by { first | exact H1.out.key.next hb2 | exact H1.out.drew.key.next hb2 }; have q1 := n2.c1; have q2 := n2.c2; have q6 := n2.c6; have H2 := Lib.hid n2; clear n2 hb2) | (go_at_call 24; (first | (with_reducible refine (HRDY.out _ A1 k1 _ H1.out.row.us H1.out.row.ms).mono ?_) | (with_reducible refine (HRDY.out _ A1 k1 _ H1.out.drew.row.us H1.out.drew.row.ms).mono ?_) | (with_reducible refine (HRDY.out _ A1 k1 _ H1.out.row.drew.us H1.out.row.drew.ms).mono ?_)); rintro e w2 ⟨rfl, hb2⟩; have n2 : KeyAt w w.heap.size m o u w2 := by { first | exact H1.out.row.key.next hb2 | exact H1.out.drew.row.key.next hb2 | exact H1.out.row.drew.key.next hb2 }; have q1 := n2.c1; have q2 := n2.c2; have q6 := n2.c6; have H2 := Lib.hid n2; clear n2 hb2))
    all_goals
      go_wp2_with fail
      go_ret2
      exact ⟨ret_se (by rw [HR.out] <;> rfl) (by rw [HR.out]), H2.out.below⟩

end Go.Proofs.YtlppcnjaacbhpaaGreatDoor
