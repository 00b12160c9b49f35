/- The walks of Eval on both sides; twice and points of shamir. -/
import Derived.Test.YtapplggboepfaaaGreatDoorSf
import Derived.Test.YtapplggboepfaaaGreatDoorU3
namespace Go.Proofs.YtapplggboepfaaaGreatDoor
open Go.RowKit
set_option maxRecDepth 100000
set_option linter.unusedVariables false
set_option maxHeartbeats 4000000

theorem LLs.new (W : World) (T : TypeId) (L : List LSl) (h : ∀ l ∈ L, l.2.2.2.length = l.2.1 ∧ l.2.1 ≤ 1000 ∧ SLs W W.heap.size l.1 l.2.2.2) :
    LLs (W.alloc (.cells (L.map fun l => Value.slice l.1 l.2.1 l.2.2.1).toArray T)) W.heap.size L := by
  intro k l hl
  obtain ⟨h1, h2, h3⟩ := h l (List.mem_of_getElem? hl)
  refine ⟨?_, h1, h2, h3.to ((Below.refl _ _).alloc (Nat.le_refl _) _)⟩
  have h := heap_alloc_new W (.cells (L.map fun l => Value.slice l.1 l.2.1 l.2.2.1).toArray T)
  simp only [World.cell?, h]
  simp [hl]
theorem sls_one (W : World) (T : TypeId) (x : ByteArray) : SLs (W.alloc (.cells #[.string x] T)) (W.alloc (.cells #[.string x] T)).heap.size (some ⟨W.heap.size, 0, none⟩) [x] :=
  SLs.new W T [x] _ (by simp)
theorem sls_two (W : World) (T : TypeId) (x y : ByteArray) : SLs (W.alloc (.cells #[.string x, .string y] T)) (W.alloc (.cells #[.string x, .string y] T)).heap.size (some ⟨W.heap.size, 0, none⟩) [x, y] :=
  SLs.new W T [x, y] _ (by simp)
theorem check_two (q x : ByteArray) (vals : List ByteArray) (A : Option Addr) (n c : Nat) (w : World) (hn : vals.length = n) (hm : n ≤ 1000) (h : SLs w w.heap.size A vals) (hT : Tab w) (T1 T2 : TypeId) :
    Calls Tryz.prog 27 #[.string q, .slice (some ⟨w.heap.size + 1, 0, none⟩) 2 2] ((w.alloc (.cells #[.string x] T1)).alloc (.cells #[.slice A n c, .slice (some ⟨w.heap.size, 0, none⟩) 1 1] T2)) fun e w' => e = .returned (.int .i64 (shE q [vals, [x]])) ∧ Below w.heap.size w w' := by
  have hb : Below w.heap.size w (w.alloc (.cells #[.string x] T1)) := (Below.refl _ _).alloc (Nat.le_refl _) _
  have hll := LLs.new (w.alloc (.cells #[.string x] T1)) T2 [(A, n, c, vals), (some ⟨w.heap.size, 0, none⟩, 1, 1, [x])] (by
    intro l hl
    rcases List.mem_cons.1 hl with rfl | hl
    · exact ⟨hn, hm, h.to hb⟩
    · rcases List.mem_cons.1 hl with rfl | hl
      · exact ⟨rfl, by show (1 : Nat) ≤ 1000; decide, sls_one w T1 x⟩
      · cases hl)
  rw [World.size_alloc] at hll
  refine (shamir_check q _ (w.heap.size + 1) 2 _ rfl (by decide) hll ((hT.alloc _).alloc _)).mono ?_
  rintro e w' ⟨rfl, hb'⟩
  exact ⟨rfl, below2 (hb.alloc hb.size _) hb'⟩
theorem shamir_Eval (q x : ByteArray) (vals : List ByteArray) (A : Option Addr) (n c : Nat) (w : World) (hn : vals.length = n) (hm : n ≤ 1000) (h : SLs w w.heap.size A vals) (hT : Tab w) :
    Calls Tryz.prog 22 #[.string q, .slice A n c, .string x] w fun e w' => e = .returned (.tuple #[.string (evalS q vals x).1, .int .i64 (evalS q vals x).2]) ∧ Below w.heap.size w w' := by
  have HCK := Lib.hid (fun T1 T2 => check_two q x vals A n c w hn hm h hT T1 T2)
  have hev : evalS q vals x = if shE q [vals, [x]] = 0 then (if (blwS q vals && blwS q [x]) = true then (B (valL (num q) (num x) (vals.map num)), 0) else (⟨#[]⟩, 2)) else (⟨#[]⟩, shE q [vals, [x]]) := rfl
  have KB1 := fun w1 (h1 : Below w.heap.size w w1) => shamir_below q vals A n c w1 hn hm (h.to h1)
  have KB2 := fun (W : World) T => shamir_below q [x] (some ⟨W.heap.size, 0, none⟩) 1 1 (W.alloc (.cells #[.string x] T)) rfl (by decide) (sls_one W T x)
  obtain ⟨e0, he0⟩ : ∃ e0, e0 = shE q [vals, [x]] := ⟨_, rfl⟩
  have hz : shE q [vals, [x]] = 0 → e0 = 0 := fun h => he0.trans h
  rw [← he0] at HCK hev
  by_cases h0 : e0 = 0
  · subst h0
    have hsh := shE_zero he0.symm
    have hQ := isE_zero hsh.2
    obtain ⟨b1, hb1⟩ : ∃ b1, b1 = blwS q vals := ⟨_, rfl⟩
    obtain ⟨b2, hb2⟩ : ∃ b2, b2 = blwS q [x] := ⟨_, rfl⟩
    rw [← hb1, ← hb2, if_pos rfl] at hev
    rw [← hb1] at KB1
    rw [← hb2] at KB2
    have KB1 := Lib.hid KB1
    have KB2 := Lib.hid KB2
    cases b1
    · have HE := Lib.hid (show evalS q vals x = (⟨#[]⟩, 2) by rw [hev]; rfl)
      clear hn hm h hT hev he0 hz hsh hQ hb1 hb2
      go_enter Tryz.func22, Tryz.ntmps22
      go_wp2_with (first
        | (go_at_call 27; (with_reducible refine (HCK.out _ _).mono ?_); rintro e w1 ⟨rfl, hb1⟩; have HB1 := Lib.hid hb1; clear hb1)
        | (go_at_call 28; (with_reducible refine (KB1.out _ HB1.out).mono ?_); rintro e w2 ⟨rfl, rfl⟩))
      go_ret2
      exact ⟨by rw [HE.out]; rfl, HB1.out⟩
    · cases b2
      · have HE := Lib.hid (show evalS q vals x = (⟨#[]⟩, 2) by rw [hev]; rfl)
        clear hn hm h hT hev he0 hz hsh hQ hb1 hb2
        go_enter Tryz.func22, Tryz.ntmps22
        go_wp2_with (first
          | (go_at_call 27; (with_reducible refine (HCK.out _ _).mono ?_); rintro e w1 ⟨rfl, hb1⟩; have HB1 := Lib.hid hb1; clear hb1)
          | (go_at_call 28; (with_reducible refine (KB1.out _ HB1.out).mono ?_); rintro e w2 ⟨rfl, rfl⟩)
          | (go_at_call 28; (with_reducible refine (KB2.out _ _).mono ?_); rintro e w3 ⟨rfl, rfl⟩))
        go_ret2
        exact ⟨by rw [HE.out]; rfl, HB1.out.alloc HB1.out.size _⟩
      · obtain ⟨hq, hq2, hqlt, _⟩ := hQ
        have hv := blw_nums (isE_zero hsh.2) (hsh.1 vals (by simp)) hb1.symm
        have hx := blw_nums (isE_zero hsh.2) (hsh.1 [x] (by simp)) hb2.symm
        obtain ⟨Q, hQ⟩ : ∃ Q, Q = num q := ⟨_, rfl⟩
        obtain ⟨X, hX⟩ : ∃ X, X = num x := ⟨_, rfl⟩
        obtain ⟨cs, hcs⟩ : ∃ cs, cs = vals.map num := ⟨_, rfl⟩
        rw [← hQ] at hq hq2 hqlt hv hx hev
        rw [← hcs] at hv hev
        rw [← hX] at hev
        have hxB : x = B X := by
          have := hx.1
          simpa [← hX] using this
        have hxQ : X < Q := hx.2 X (by simp [hX])
        have HE := Lib.hid (show evalS q vals x = (B (valL Q X cs), 0) by rw [hev]; rfl)
        have KV := fun w1 (h1 : Below w.heap.size w w1) => shamir_value Q X cs A n c w1 hqlt (by omega) (by omega) hv.2 (by rw [hcs, List.length_map]; exact hn) hm (by rw [← hv.1]; exact h.to h1)
        rw [← hq, ← hxB] at KV
        have KV := Lib.hid KV
        clear hn hm h hT hev he0 hz hsh hb1 hb2 hq hq2 hqlt hv hx hQ hX hcs hxB hxQ
        go_enter Tryz.func22, Tryz.ntmps22
        go_wp2_with (first
          | (go_at_call 27; (with_reducible refine (HCK.out _ _).mono ?_); rintro e w1 ⟨rfl, hb1⟩; have HB1 := Lib.hid hb1; clear hb1)
          | (go_at_call 28; (with_reducible refine (KB1.out _ HB1.out).mono ?_); rintro e w2 ⟨rfl, rfl⟩)
          | (go_at_call 28; (with_reducible refine (KB2.out _ _).mono ?_); rintro e w3 ⟨rfl, rfl⟩)
          | (go_at_call 30; (with_reducible refine (KV.out _ (HB1.out.alloc HB1.out.size _)).mono ?_); rintro e w4 ⟨rfl, hb4⟩; have HB4 := Lib.hid (below2 (HB1.out.alloc HB1.out.size _) hb4); clear hb4))
        go_ret2
        exact ⟨by rw [HE.out]; rfl, HB4.out⟩
  · have k0 : (e0 == 0) = false := by rw [beq_eq_false_iff_ne]; exact h0
    have HE := Lib.hid (show evalS q vals x = (⟨#[]⟩, e0) by rw [hev, if_neg h0])
    clear hn hm h hT hev he0 hz h0 KB1 KB2
    go_enter Tryz.func22, Tryz.ntmps22
    go_wp2_with (first
      | (go_at_call 27; (with_reducible refine (HCK.out _ _).mono ?_); rintro e w1 ⟨rfl, hb1⟩; have HB1 := Lib.hid hb1; clear hb1))
    go_ret2
    exact ⟨by rw [HE.out]; rfl, HB1.out⟩
theorem shE_nil {q x : ByteArray} {vals : List ByteArray} (hx : (valid q && (valid x && true)) = false ∨ vals.all valid = false) : shE q [vals, [x]] = 3 := by
  unfold shE
  cases hv : vals.all valid
  · rw [if_neg (by simp [hv])]
  · cases hxx : valid x
    · rw [if_neg (by simp [hxx])]
    · rw [if_pos (by simp [hv, hxx])]
      have hq : valid q = false := by
        rcases hx with h | h
        · rw [hxx] at h; simpa using h
        · rw [hv] at h; cases h
      have hs : smallS q = (0, 3) := by unfold smallS; rw [hq]; rfl
      unfold isE isPS
      rw [hs]
      rfl
theorem shE_all {q x : ByteArray} {vals : List ByteArray} (h1 : vals.all valid = true) (h2 : valid x = true) : shE q [vals, [x]] = isE q := by
  unfold shE
  rw [if_pos (by simp [h1, h2])]
end Go.Proofs.YtapplggboepfaaaGreatDoor
