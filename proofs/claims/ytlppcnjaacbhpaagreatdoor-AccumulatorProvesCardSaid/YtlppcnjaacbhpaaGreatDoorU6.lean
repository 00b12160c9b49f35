/- The walks of package accumulator: powers, Value, Witness, Add, Check. -/
import Derived.Test.YtlppcnjaacbhpaaGreatDoorU5
namespace Go.Proofs.YtlppcnjaacbhpaaGreatDoor
open Go.RowKit
set_option maxRecDepth 100000
set_option linter.unusedVariables false
set_option maxHeartbeats 1000000

theorem raiseN_snoc (m : Nat) (l : List ByteArray) (s : ByteArray) (x : Nat) : raiseN m (l ++ [s]) x = raiseN m l x ^ num s % m := by simp [raiseN]
theorem acc_raised (m o : ByteArray) (X : Nat) (ls : List ByteArray) (A : Option Addr) (n c : Nat) (w : World) (sm : m.size ≤ 8) (hg : groupE m o = 0) (hx : hasG m o (B X) = true) (hn : ls.length = n) (hm : n ≤ 1000) (h : SLs w w.heap.size A ls) (hv : ls.all valid = true) :
    Calls Tryz.prog 26 #[.agg #[.string m, .string o], .string (B X), .slice A n c] w fun e w' => e = .returned (.tuple #[.string (B (raiseN (num m) ls X)), .int .i64 0]) ∧ Below w.heap.size w w' := by
  have HN := Lib.hid hn
  have HS := Lib.hid h
  have HV := Lib.hid hv
  have HX := Lib.hid hx
  have HE := Lib.hid (fun y e w (hy : hasG m o (B y) = true) (he : e < lim) => power_Exp m o y e w sm hg hy he)
  have HP := Lib.hid (fun y k (hy : hasG m o (B y) = true) => hasG_pow (k := k) sm hg hy)
  have HB := Lib.hid (GrAt.box w m o 24)
  obtain ⟨M, hM⟩ : ∃ M, num m = M := ⟨_, rfl⟩
  rw [hM] at HE HP ⊢
  clear hn h hv hx hg hM
  go_enter Tryz.func26, Tryz.ntmps26
  go_wp2
  go_loopw [1, 14] (fun vx v wr => ∃ (k y : Nat), vx = .string (B y) ∧ v = .int .i64 k ∧ k ≤ n ∧ y = raiseN M (ls.take k) X ∧ hasG m o (B y) = true ∧ GrAt w w.heap.size m o wr) (fun _ v _ => n - (intOf v).toNat)
  case atStart => exact ⟨0, X, rfl, rfl, Nat.zero_le _, by rw [List.take_zero]; rfl, HX.out, HB.out⟩
  case round =>
    obtain ⟨k, y, rfl, rfl, hk, hy, hhy, hgr⟩ := hrel
    have HY := Lib.hid hy
    have HHY := Lib.hid hhy
    have HG := Lib.hid hgr
    have d0 := hgr.c0
    have d1 := hgr.c1
    clear hy hhy hgr
    by_cases hlt : k < n
    · obtain ⟨ad, rfl, hc⟩ := (HG.out.sls HS.out).at_ (k := k) (by rw [HN.out]; exact hlt)
      have hvs := all_at HV.out (k := k) (by rw [HN.out]; exact hlt)
      have htk := take_snoc' ls (k := k) (by rw [HN.out]; exact hlt)
      obtain ⟨x, hx⟩ : ∃ x, ls.getD k ByteArray.empty = x := ⟨_, rfl⟩
      rw [hx] at hc hvs htk
      obtain ⟨u, hul, rfl⟩ := (valid_iff x).1 hvs
      have hrs := raiseN_snoc M (ls.take k) (B u) X
      rw [← htk, ← HY.out, num_B] at hrs
      have HRS := Lib.hid hrs
      have HUL := Lib.hid hul
      have HLT := Lib.hid hlt
      have HEX := Lib.hid (fun w => HE.out y u w HHY.out HUL.out)
      have HP2 := Lib.hid (HP.out y u HHY.out)
      clear hx hlt htk hvs hrs hul
      generalize y ^ u % M = Z at *
      go_wp2_with fail
      go_region_held3 (fun w' => w'.cell? ⟨w.heap.size, 0, none⟩ = some (.string m) ∧ w'.cell? ⟨w.heap.size, 1, none⟩ = some (.string o)) (first | go_keep) (first | (go_at_call 45; (with_reducible refine (integer_From u _ HUL).mono ?_); rintro e w2 ⟨rfl, hb2⟩; have n2 : GrAt w w.heap.size m o w2 := by { first | exact HG.out.next hb2 | exact HG.out.drew.next hb2 | exact HG.out.next (((Below.refl _ _).drew).trans hb2) }; have p2 := n2.c0; have q2 := n2.c1; have H2 := Lib.hid n2; clear n2 hb2) | (go_at_call 44; (with_reducible refine (HEX.out _).mono ?_); rintro e w3 ⟨rfl, hb3⟩; have n3 : GrAt w w.heap.size m o w3 := by { first | exact H2.out.next hb3 | exact H2.out.drew.next hb3 | exact H2.out.next (((Below.refl _ _).drew).trans hb3) }; have p3 := n3.c0; have q3 := n3.c1; have H3 := Lib.hid n3; clear n3 hb3))
      all_goals
        go_wp2_with fail
        go_roundw
        case rel => exact ⟨k + 1, Z, rfl, rfl, HLT.out, HRS.out.symm, HP2.out, H3.out⟩
        case measure => have := HLT.out; simp only [intOf]; omega
    · obtain rfl : k = n := by omega
      have HT : Hid (ls.take k = ls) := Lib.hid (List.take_of_length_le (by rw [HN.out]; exact Nat.le_refl _))
      go_wp2_with fail
      go_ret2
      exact ⟨ret_se (by rw [HY.out, HT.out]) rfl, HG.out.below⟩
def SetOk (w : World) (ls : List ByteArray) (e : Ending) (w' : World) : Prop := ∃ b, e = .returned (.tuple #[.map (some b), .int .i64 0]) ∧ w.heap.size ≤ b ∧ SetMap w' b ls.length ls ∧ Below w.heap.size w w'
theorem acc_set_ok (ls : List ByteArray) (A : Option Addr) (n c : Nat) (w : World) (hn : ls.length = n) (hm : n ≤ 1000) (h : SLs w w.heap.size A ls) (hv : ls.all valid = true) (ht : twiceB ls = false) :
    Calls Tryz.prog 25 #[.slice A n c] w (SetOk w ls) :=
  (acc_set ls A n c w hn hm h hv).mono fun e w' h => by
    obtain ⟨hb, ⟨h1, _⟩ | ⟨_, b, he, h2, h3⟩⟩ := h
    · rw [ht] at h1; cases h1
    · exact ⟨b, he, h2, h3, hb⟩
theorem acc_set_twice (ls : List ByteArray) (A : Option Addr) (n c : Nat) (w : World) (hn : ls.length = n) (hm : n ≤ 1000) (h : SLs w w.heap.size A ls) (hv : ls.all valid = true) (ht : twiceB ls = true) :
    Calls Tryz.prog 25 #[.slice A n c] w fun e w' => e = .returned (.tuple #[.map none, .int .i64 8]) ∧ Below w.heap.size w w' :=
  (acc_set ls A n c w hn hm h hv).mono fun e w' h => by
    obtain ⟨hb, ⟨_, he⟩ | ⟨h1, _⟩⟩ := h
    · exact ⟨he, hb⟩
    · rw [ht] at h1; cases h1
/-- The key of an issuer in memory: what matters here. -/
structure KeyAt (w : World) (g : Nat) (m o u : ByteArray) (wx : World) : Prop where
  c1 : wx.cell? ⟨g, 1, none⟩ = some (.string m)
  c2 : wx.cell? ⟨g, 2, none⟩ = some (.string o)
  c6 : wx.cell? ⟨g, 6, none⟩ = some (.string u)
  below : Below w.heap.size w wx
  size : g < wx.heap.size
theorem KeyAt.next {w wx w' : World} {g : Nat} {m o u : ByteArray} (h : KeyAt w g m o u wx) (hb : Below wx.heap.size wx w') : KeyAt w g m o u w' := by
  have hz := h.size
  exact ⟨(hb.cell (p := ⟨g, 1, none⟩) hz).trans h.c1, (hb.cell (p := ⟨g, 2, none⟩) hz).trans h.c2, (hb.cell (p := ⟨g, 6, none⟩) hz).trans h.c6, below2 h.below hb, by have := hb.size; omega⟩
theorem KeyAt.alloc {w wx : World} {g : Nat} {m o u : ByteArray} (h : KeyAt w g m o u wx) (ob : Obj) : KeyAt w g m o u (wx.alloc ob) := h.next ((Below.refl _ _).alloc (Nat.le_refl _) _)
theorem KeyAt.drew {w wx : World} {g : Nat} {m o u : ByteArray} (h : KeyAt w g m o u wx) : KeyAt w g m o u wx.drew := h.next ((Below.refl _ _).drew)
theorem KeyAt.box (w : World) (kn z s r h : Value) (m o u : ByteArray) (T : TypeId) : KeyAt w w.heap.size m o u (w.alloc (.cells #[kn, .string m, .string o, z, s, r, .string u, h] T)) :=
  ⟨by simp [go_sem], by simp [go_sem], by simp [go_sem], (Below.refl _ _).alloc (Nat.le_refl _) _, by simp⟩
theorem KeyAt.sls {w wx : World} {g : Nat} {m o u : ByteArray} {A : Option Addr} {ls : List ByteArray} (h : KeyAt w g m o u wx) (hs : SLs w w.heap.size A ls) : SLs wx w.heap.size A ls := hs.below h.below
/-- A row that was just made. -/
theorem SLs.new (w : World) (T : TypeId) (ls : List ByteArray) (b : Nat) (hb : w.heap.size < b) : SLs (w.alloc (.cells (ls.map Value.string).toArray T)) b (some ⟨w.heap.size, 0, none⟩) ls := SLs.of_row (SRow.new w T ls) hb
theorem readyS_ok {m o : ByteArray} {els hs : List ByteArray} (h : readyS m o els hs = 0) : els.all valid = true ∧ hs.all valid = true ∧ groupE m o = 0 ∧ els.all (hasG m o) = true ∧ hs.any (fun u => u.toList.isEmpty) = false := by
  unfold readyS at h
  split at h
  · rename_i hv
    simp only [Bool.and_eq_true] at hv
    split at h
    · rename_i hg
      split at h
      · rename_i ha
        split at h
        · cases h
        · rename_i hn
          exact ⟨hv.1, hv.2.1, hg, ha, by simpa using hn⟩
      · cases h
    · rename_i hg; exact absurd h hg
  · cases h
theorem acc_Value (kn z s r h : Value) (m o u : ByteArray) (ls : List ByteArray) (A : Option Addr) (n c : Nat) (w : World) (sm : m.size ≤ 8) (hn : ls.length = n) (hm : n ≤ 1000) (hs : SLs w w.heap.size A ls) :
    Calls Tryz.prog 10 #[.agg #[kn, .string m, .string o, z, s, r, .string u, h], .slice A n c] w fun e w' => e = .returned (.tuple #[.string (valueS m o u ls).1, .int .i64 (valueS m o u ls).2]) ∧ Below w.heap.size w w' := by
  have hr : valueS m o u ls = if readyS m o [u] ls = 0 then (if twiceB ls = true then (E0, 8) else (B (raiseN (num m) ls (num u)), 0)) else (E0, readyS m o [u] ls) := rfl
  have HR := Lib.hid hr
  have HS := Lib.hid hs
  have HB := Lib.hid (KeyAt.box w kn z s r h m o u 27)
  have HB2 := Lib.hid (HB.out.alloc (.cells #[.string u] 22))
  have hrd := acc_ready m o [u] ls (some ⟨w.heap.size + 1, 0, none⟩) A 1 n 1 c ((w.alloc (.cells #[kn, .string m, .string o, z, s, r, .string u, h] 27)).alloc (.cells #[.string u] 22)) sm rfl hn (by decide) hm
    (by have := SLs.new (w.alloc (.cells #[kn, .string m, .string o, z, s, r, .string u, h] 27)) 22 [u] (w.heap.size + 1 + 1) (by simp); simp only [World.size_alloc] at this ⊢; exact this)
    ((HB2.out.sls hs).more (HB2.out.below.size))
  have hok := fun h0 => readyS_ok (m := m) (o := o) (els := [u]) (hs := ls) h0
  obtain ⟨re, hre⟩ : ∃ re, readyS m o [u] ls = re := ⟨_, rfl⟩
  rw [hre] at HR hrd hok
  have HRD := Lib.hid hrd
  have c1 := HB2.out.c1
  have c2 := HB2.out.c2
  have c6 := HB2.out.c6
  clear hr hrd hs hre
  by_cases h0 : re = 0
  · subst h0
    obtain ⟨_, vl, hg, hx, _⟩ := hok rfl
    simp only [List.all_cons, List.all_nil, Bool.and_true] at hx
    have hvu := (hasG_lt sm hx).1
    have hset1 := fun w hs ht => acc_set_ok ls A n c w hn hm hs vl ht
    have hset2 := fun w hs ht => acc_set_twice ls A n c w hn hm hs vl ht
    have hrz := fun w hs => acc_raised m o (num u) ls A n c w sm hg (by rw [B_num hvu]; exact hx) hn hm hs vl
    rw [B_num hvu] at hrz
    have HSET1 := Lib.hid hset1
    have HSET2 := Lib.hid hset2
    have HRZ := Lib.hid hrz
    rw [if_pos rfl] at HR
    generalize raiseN (num m) ls (num u) = Z at *
    clear hok hset1 hset2 hrz vl hg hx hvu
    cases htw : twiceB ls
    · rw [htw, if_neg (by simp)] at HR
      have HTW := Lib.hid htw
      clear htw
      go_enter Tryz.func10, Tryz.ntmps10
      go_wp2_with (first | (go_at_call 24; (with_reducible refine HRD.out.mono ?_); rintro e w1 ⟨rfl, hb1⟩; have n1 := HB2.out.next hb1; have p1 := n1.c1; have p2 := n1.c2; have p6 := n1.c6; have H1 := Lib.hid n1; clear n1 hb1) | (go_at_call 25; (with_reducible refine (HSET1.out _ ((H1.out.sls HS.out).more H1.out.below.size) HTW.out).mono ?_); rintro e w2 ⟨bm, rfl, _, _, hb2⟩; have n2 := H1.out.next hb2; have q1 := n2.c1; have q2 := n2.c2; have q6 := n2.c6; have H2 := Lib.hid n2; clear n2 hb2) | (go_at_call 26; (with_reducible refine (HRZ.out _ ((H2.out.sls HS.out).more H2.out.below.size)).mono ?_); rintro e w3 ⟨rfl, hb3⟩; have H3 := Lib.hid (H2.out.next hb3); clear hb3))
      go_ret2
      exact ⟨ret_se (by rw [HR.out]) (by rw [HR.out]), H3.out.below⟩
    · rw [htw, if_pos rfl] at HR
      have HTW := Lib.hid htw
      clear htw
      go_enter Tryz.func10, Tryz.ntmps10
      go_wp2_with (first | (go_at_call 24; (with_reducible refine HRD.out.mono ?_); rintro e w1 ⟨rfl, hb1⟩; have n1 := HB2.out.next hb1; have p1 := n1.c1; have p2 := n1.c2; have p6 := n1.c6; have H1 := Lib.hid n1; clear n1 hb1) | (go_at_call 25; (with_reducible refine (HSET2.out _ ((H1.out.sls HS.out).more H1.out.below.size) HTW.out).mono ?_); rintro e w2 ⟨rfl, hb2⟩; have H2 := Lib.hid (H1.out.next hb2); clear hb2))
      go_ret2
      exact ⟨ret_se (by rw [HR.out] <;> rfl) (by rw [HR.out]), H2.out.below⟩
  · rw [if_neg h0] at HR
    have hnb : (re != 0) = true := by rw [bne_iff_ne]; exact h0
    clear h0 hok
    go_enter Tryz.func10, Tryz.ntmps10
    go_wp2_with (first | (go_at_call 24; (with_reducible refine HRD.out.mono ?_); rintro e w1 ⟨rfl, hb1⟩; have H1 := Lib.hid (HB2.out.next hb1); clear hb1))
    go_ret2
    exact ⟨ret_se (by rw [HR.out] <;> rfl) (by rw [HR.out]), H1.out.below⟩

end Go.Proofs.YtlppcnjaacbhpaaGreatDoor
