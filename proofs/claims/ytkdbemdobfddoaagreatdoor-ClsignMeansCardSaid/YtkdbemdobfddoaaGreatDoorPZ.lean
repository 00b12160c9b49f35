/- The walk of params.numbers. -/
import Derived.Test.YtkdbemdobfddoaaGreatDoorBR
import Derived.Deep.RegionHeld3
namespace Go.Proofs.YtkdbemdobfddoaaGreatDoor
open Go.RowKit
set_option maxRecDepth 100000
set_option linter.unusedVariables false
set_option maxHeartbeats 4000000

theorem nat_infoE : ∃ i : TypeInfo, Tryz.prog.info? 22 = some i ∧ i.zero = some (.string ByteArray.empty) ∧ i.size = 1 ∧ i.bytes = 16 := by
  obtain ⟨i, hi, hz⟩ := Option.map_eq_some_iff.1 nat_info
  simp only [Prod.mk.injEq] at hz
  exact ⟨i, hi, hz.1, hz.2.1, hz.2.2⟩
theorem strs_one (l : List ByteArray) : ∀ v ∈ l.map Value.string, v.oneCell' = true := by
  intro v hv
  obtain ⟨n, _, rfl⟩ := List.mem_map.mp hv
  rfl
/-- append of a row of strings onto a row of the call's own. -/
theorem wpList_append_S {w : World} {ops : Array Oper} {rest : List Oper} {o : Oper} {a : Act} {Q : Exit → Act → World → Prop} (hgd : o.guard = none) (s x : Operand)
    (ho : o.op = .call { callee := .builtin .append, args := #[s, x], argTypes := #[31, 31] })
    (base : Nat) (v : Value) (n : Nat) (ls : List ByteArray) (hs : a.eval s = v) (hown : OwnS w base v n ls)
    (A : Option Addr) (m c : Nat) (N : List ByteArray) (hx : a.eval x = .slice A m c) (hN : SLs w w.heap.size A N) (hm : N.length = m) (hsz : n + m ≤ 100000) (hbase : base ≤ w.heap.size)
    (h : ∀ v' w', OwnS w' base v' (n + m) (ls ++ N) → w.grownBy w' v.ownBlock → (v'.ownBlock = v.ownBlock ∨ v'.ownBlock = some w.heap.size) → wpList Tryz.prog ops Q rest (a.put o.dst v') w') : wpList Tryz.prog ops Q (o :: rest) a w := by
  obtain ⟨i, hi, hz, hs1, hb1⟩ := nat_infoE
  refine wpList_append_any w hgd s x 31 ho base 22 i (.string ByteArray.empty) 1 16 Tryz.underlying31 hi hz hs1 hb1 rfl (by decide) v n (ls.map Value.string) hs hown.2 w.heap.size A m c (N.map Value.string) hx (hN.reads hm) (strs_one N) (by unfold maxLen; omega) (by omega) hbase ?_
  intro v' w' h2 h3 h4
  refine h v' w' ⟨by rw [List.length_append, hown.1, hm], ?_⟩ h3 h4
  rw [List.map_append]; exact h2
theorem OwnS.blockOf {w : World} {base n : Nat} {v : Value} {ls : List ByteArray} (h : OwnS w base v n ls) : ∀ k, v.ownBlock = some k → base ≤ k ∧ k < w.heap.size := by
  intro k hk
  rcases h.2.2 with ⟨rfl, _⟩ | ⟨g, cap, cur, rfl, h1, hg, rest⟩
  · cases hk
  · cases hk
    exact ⟨h1, (Array.getElem?_eq_some_iff.1 hg).1⟩
theorem params_numbers (ch sl mm mo mg mh wm wo wg wh se at_ ha el es bl ma : ByteArray) (w : World) :
    Calls Tryz.prog 93 #[.agg #[.string ch, .string sl, .string mm, .string mo, .string mg, .string mh, .string wm, .string wo, .string wg, .string wh, .string se, .string at_, .string ha, .string el, .string es, .string bl, .string ma]] w fun e w' => (∃ A c, e = .returned (.slice A 17 c) ∧ SLs w' w'.heap.size A [ch, sl, se, at_, ha, el, es, bl, ma, mm, mo, mg, mh, wm, wo, wg, wh]) ∧ Below w.heap.size w w' := by
  obtain ⟨W1, hW1⟩ : ∃ W1, W1 = w.alloc (.cells #[.string ch, .string sl, .string mm, .string mo, .string mg, .string mh, .string wm, .string wo, .string wg, .string wh, .string se, .string at_, .string ha, .string el, .string es, .string bl, .string ma] 30) := ⟨_, rfl⟩
  have s1 : W1.heap.size = w.heap.size + 1 := by rw [hW1, World.size_alloc]
  have b1 : Below w.heap.size w W1 := by rw [hW1]; exact (Below.refl _ _).alloc (Nat.le_refl _) _
  obtain ⟨W2, hW2⟩ : ∃ W2, W2 = W1.alloc (.cells #[.string ch, .string sl, .string se, .string at_, .string ha, .string el, .string es, .string bl, .string ma] 22) := ⟨_, rfl⟩
  have s2 : W2.heap.size = w.heap.size + 2 := by rw [hW2, World.size_alloc, s1]
  have o2 : OwnS W2 w.heap.size (.slice (some ⟨w.heap.size + 1, 0, none⟩) 9 9) 9 [ch, sl, se, at_, ha, el, es, bl, ma] := by
    have := OwnS.lit W1 w.heap.size [ch, sl, se, at_, ha, el, es, bl, ma] 9 (by omega) rfl (by decide)
    rw [s1] at this
    rw [hW2]
    exact this
  obtain ⟨W3, hW3⟩ : ∃ W3, W3 = W2.alloc (.cells #[.string mm, .string mo, .string mg, .string mh, .string wm, .string wo, .string wg, .string wh] 28) := ⟨_, rfl⟩
  have e3 : W3.heap[w.heap.size + 2]? = some (.cells #[.string mm, .string mo, .string mg, .string mh, .string wm, .string wo, .string wg, .string wh] 28 (0, 0)) := by
    have := heap_alloc_new W2 (.cells #[.string mm, .string mo, .string mg, .string mh, .string wm, .string wo, .string wg, .string wh] 28)
    rw [s2] at this
    rw [hW3]
    exact this
  have s3 : W3.heap.size = w.heap.size + 3 := by rw [hW3, World.size_alloc, s2]
  obtain ⟨W4, hW4⟩ : ∃ W4, W4 = W3.alloc (.cells #[.string mm, .string mo, .string mg, .string mh] 28) := ⟨_, rfl⟩
  have s4 : W4.heap.size = w.heap.size + 4 := by rw [hW4, World.size_alloc, s3]
  obtain ⟨W5, hW5⟩ : ∃ W5, W5 = W4.alloc (.cells #[.string mm, .string mo, .string mg, .string mh] 22) := ⟨_, rfl⟩
  have s5 : W5.heap.size = w.heap.size + 5 := by rw [hW5, World.size_alloc, s4]
  have b25 : Below W2.heap.size W2 W5 := by
    rw [hW5, hW4, hW3]
    exact (((Below.refl _ _).alloc (Nat.le_refl _) _).alloc (by rw [World.size_alloc]; omega) _).alloc (by rw [World.size_alloc, World.size_alloc]; omega) _
  have b35 : Below W3.heap.size W3 W5 := by
    rw [hW5, hW4]
    exact ((Below.refl _ _).alloc (Nat.le_refl _) _).alloc (by rw [World.size_alloc]; omega) _
  have o5 := o2.kept (B := 0) b25
  have e5 := (b35.block (w.heap.size + 2) (by omega)).trans e3
  have b12 : Below w.heap.size W1 W2 := by rw [hW2]; exact (Below.refl _ _).alloc (by omega) _
  have bw5 : Below w.heap.size w W5 := b1.trans (b12.trans (b25.mono (by omega)))
  have n5 : SLs W5 W5.heap.size (some ⟨w.heap.size + 4, 0, none⟩) [mm, mo, mg, mh] := by
    have := SLs.new W4 22 [mm, mo, mg, mh] W5.heap.size (by omega)
    rw [s4] at this
    rw [hW5] at this ⊢
    exact this
  have HO5 := Lib.hid o5
  have HE5 := Lib.hid e5
  have HB5 := Lib.hid bw5
  have HN5 := Lib.hid n5
  have HS5 := Lib.hid s5
  rw [hW4, hW3, hW2, hW1] at hW5
  subst hW5
  clear hW1 s1 b1 hW2 s2 o2 hW3 e3 s3 hW4 s4 b12 b25 b35 o5 e5 bw5 n5 s5
  clear W1 W2 W3 W4
  go_enter Tryz.func93, Tryz.ntmps93
  go_wp2_with fail
  refine wp_loop_rounds 3 ?_
  rw [rounds_succ]
  go_wp2_with (at_builtin; refine wpList_append_S rfl (.tmp 37) (.tmp 48) rfl w.heap.size (.slice (some ⟨w.heap.size + 1, 0, none⟩) 9 9) 9 _ rfl HO5.out _ 4 4 [mm, mo, mg, mh] rfl HN5.out rfl (by decide) HB5.out.size ?_
               intro v6 w6 h1 h2 h3
               have HO6 := Lib.hid h1
               have HG6 := Lib.hid h2
               have HV6 := Lib.hid h3
               clear h1 h2 h3)
  have hlt6 := HG6.out.size
  have e6 : w6.heap[w.heap.size + 2]? = some (.cells #[.string mm, .string mo, .string mg, .string mh, .string wm, .string wo, .string wg, .string wh] 28 (0, 0)) :=
    (HG6.out.block (w.heap.size + 2) (by rw [HS5.out]; omega) (by show some (w.heap.size + 2) ≠ some (w.heap.size + 1); simp)).trans HE5.out
  have c4 : w6.cell? ⟨w.heap.size + 1 + 1, 4, none⟩ = some (.string wm) := by simp [World.cell?, e6]
  have c5 : w6.cell? ⟨w.heap.size + 1 + 1, 5, none⟩ = some (.string wo) := by simp [World.cell?, e6]
  have c6 : w6.cell? ⟨w.heap.size + 1 + 1, 6, none⟩ = some (.string wg) := by simp [World.cell?, e6]
  have c7 : w6.cell? ⟨w.heap.size + 1 + 1, 7, none⟩ = some (.string wh) := by simp [World.cell?, e6]
  have HB6 := Lib.hid (HB5.out.trans (below_grown HG6.out HB5.out.size (fun k hk => by cases hk; exact Nat.le_succ _)))
  have hb7 : Below w6.heap.size w6 ((w6.alloc (.cells #[.string wm, .string wo, .string wg, .string wh] 28)).alloc (.cells #[.string wm, .string wo, .string wg, .string wh] 22)) :=
    ((Below.refl _ _).alloc (Nat.le_refl _) _).alloc (by rw [World.size_alloc]; omega) _
  have HO7 := Lib.hid (HO6.out.kept (B := 0) hb7)
  have HB7 := Lib.hid (HB6.out.trans (hb7.mono HB6.out.size))
  have hn7 := SLs.new (w6.alloc (.cells #[.string wm, .string wo, .string wg, .string wh] 28)) 22 [wm, wo, wg, wh] ((w6.alloc (.cells #[.string wm, .string wo, .string wg, .string wh] 28)).alloc (.cells #[.string wm, .string wo, .string wg, .string wh] 22)).heap.size (by simp)
  rw [World.size_alloc w6] at hn7
  have HN7 := Lib.hid hn7
  clear hlt6 e6 hb7 hn7 HO5 HE5 HN5 HO6 HV6
  rw [rounds_succ]
  go_wp2_with (at_builtin; refine wpList_append_S rfl (.tmp 37) (.tmp 48) rfl w.heap.size v6 13 _ rfl HO7.out _ 4 4 [wm, wo, wg, wh] rfl HN7.out rfl (by decide) HB7.out.size ?_
               intro v8 w8 h1 h2 h3
               have HO8 := Lib.hid h1
               have HB8 := Lib.hid (HB7.out.trans (below_grown h2 HB7.out.size (fun k hk => (HO7.out.blockOf k hk).1)))
               clear h1 h2 h3)
  rw [rounds_succ]
  go_wp2_with fail
  obtain ⟨A, c, rfl, hs⟩ := HO8.out.form HB8.out.size
  go_ret
  exact ⟨⟨A, c, rfl, hs⟩, HB8.out⟩

end Go.Proofs.YtkdbemdobfddoaaGreatDoor
