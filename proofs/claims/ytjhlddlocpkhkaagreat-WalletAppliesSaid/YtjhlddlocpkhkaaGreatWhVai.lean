/- Wallet: slices.Delete of one request (the walk). -/
import Derived.Test.YtjhlddlocpkhkaaGreatWhJ25
import Derived.Deep.RegionLaw
namespace Go.Proofs.YtjhlddlocpkhkaaGreat
open Go.RowKit
set_option maxRecDepth 100000
set_option linter.unusedVariables false
set_option maxHeartbeats 8000000
theorem grownBy_drew {w w' : World} {r : Option Nat} (h : w.drew.grownBy w' r) : w.grownBy w' r := ⟨h.os, h.tape, h.output, h.size, h.block⟩
theorem delete_A (qs : List Az) (g n cap i j base : Nat) (w : World) (hq : qs.length = n) (hi : i < n) (hm : n ≤ 100000) (hj : i + 1 = j) (h : w.ownsRow base 40 5 (.slice (some ⟨g, 0, none⟩) n cap) n (cellsA qs)) :
    Calls Tryz.prog 98 #[.slice (some ⟨g, 0, none⟩) n cap, .int .i64 i, .int .i64 j] w fun e w' => e = .returned (.slice (some ⟨g, 0, none⟩) (n - 1) cap) ∧ w'.ownsRow base 40 5 (.slice (some ⟨g, 0, none⟩) (n - 1) cap) (n - 1) (cellsA (qs.eraseIdx i)) ∧ w.grownBy w' (some g) := by
  obtain ⟨d, hd⟩ : ∃ d, n - j = d := ⟨_, rfl⟩
  obtain ⟨m, hm1⟩ : ∃ m, n - 1 = m := ⟨_, rfl⟩
  have hl := cellsA_len qs
  rw [hq] at hl
  have hcap : n ≤ cap := by
    rcases h.2 with ⟨hv, _⟩ | ⟨g', cap', cur, hv, h3, hg, h4, _⟩
    · cases hv
    · injection hv with _ _ e3; subst e3; exact h4
  have HD := Lib.hid (delete_rows (d := d) hq hi (by rw [hj]; exact hd) h.drew [.string ByteArray.empty, .string ByteArray.empty, .string ByteArray.empty, .string ByteArray.empty, .string ByteArray.empty] rfl)
  rw [hj, hm1] at HD
  obtain ⟨news, hnews⟩ : ∃ news, (cellsA qs).drop (j * 5) = news := ⟨_, rfl⟩
  rw [hnews] at HD
  have HNL : Hid (news.length = d * 5) := Lib.hid (by rw [← hnews, List.length_drop, hl]; omega)
  have HN : Hid (∀ p u, news[p]? = some u → w.cell? ⟨g, j * 5 + p, none⟩ = some u) := Lib.hid (fun p u hp => by
    have hlt : p < news.length := (List.getElem?_eq_some_iff.1 hp).1
    rw [h.cellAt (j * 5 + p) (by have := HNL.out; omega), ← hp, ← hnews, List.getElem?_drop])
  have HN1 : Hid (∀ u ∈ news, u.oneCell' = true) := Lib.hid (fun u hu => cellsA_one qs u (List.mem_of_mem_drop (hnews ▸ hu)))
  have HS : Hid (∀ p, p < news.length → (w.cell? ⟨g, 0 + i * 5 + p, none⟩).isSome = true ∧ w.frozen? ⟨g, 0 + i * 5 + p, none⟩ = false) := Lib.hid (fun p hp => by
    have := HNL.out
    refine ⟨?_, h.frozenAt _⟩
    rw [h.cellAt _ (by omega), List.getElem?_eq_getElem (by rw [hl]; omega)]
    rfl)
  have ho1 := (owns_cells news (i * 5) w.drew _ h.drew (by have := HNL.out; omega)).1
  obtain ⟨ti, hti, hz, hs1, hb1⟩ := infoE_A
  have hcl : ∀ ty, (Builtin.clear_ #[23] ty #[.slice (some ⟨g, m * 5, none⟩) 1 (cap - m)]).run Tryz.prog (w.drew.setCells g (i * 5) news) = .ok (.tuple #[]) ((w.drew.setCells g (i * 5) news).setCells g (m * 5) [.string ByteArray.empty, .string ByteArray.empty, .string ByteArray.empty, .string ByteArray.empty, .string ByteArray.empty]) := fun ty => by
    refine run_clear_one _ 23 40 ty (.agg #[.string ByteArray.empty, .string ByteArray.empty, .string ByteArray.empty, .string ByteArray.empty, .string ByteArray.empty]) Tryz.underlying23 (fun w => by simp [zeroValue, typeInfo, hti, hz]) (cellsA_one [(ByteArray.empty, ByteArray.empty, ByteArray.empty, ByteArray.empty, ByteArray.empty)]) g (m * 5) (cap - m) (fun p hp => ?_) (fun p hp => ?_)
    · have hp5 : p < 5 := hp
      rw [ho1.cellAt (m * 5 + p) (by omega), List.getElem?_eq_getElem (by rw [ho1.1]; omega)]
      rfl
    · exact ho1.frozenAt (m * 5 + p)
  have hsz : ∀ w, (sizeOf 40).run Tryz.prog w = .ok 5 w := fun w => by
    simp [sizeOf, typeInfo, hti, hs1]
  have hun := Tryz.underlying23
  have hic : i ≤ cap := by omega
  have hjn : j ≤ n := by omega
  have him : i + d = m := by omega
  have hmn : m ≤ n := by omega
  have hmc : m ≤ cap := by omega
  have hnm1 : n - m = 1 := by omega
  have hcm : ¬ cap = m := by omega
  clear h ho1 hnews hl hq
  by_cases hcj : cap = j
  · have e1 : j = n := by omega
    have e2 : cap = n := by omega
    have e3 : d = 0 := by omega
    have e4 : i = m := by omega
    subst e1 e2 e3 e4
    have e5 : news = [] := List.eq_nil_of_length_eq_zero (by have := HNL.out; simpa using this)
    subst e5
    rw [hnm1] at hcl
    clear him hcj
    go_enter Tryz.func98, Tryz.ntmps98
    go_upto_region 5 with fail
    go_region_law (refine step_append_room rfl (.tmp 22) (.tmp 25) 23 rfl 40 ti 5 hun hti hs1 g 0 i cap (by simp [Act.eval, Act.put]) ⟨g, 0, none⟩ 0 0 [] (by simp [Act.eval, Act.put]) rfl (fun p u hp => by simp at hp) (fun u hu => by simp at hu) (by omega) (fun p hp => by simp at hp) ?_)
    (try rw [Nat.zero_add])
    go_wp2_with fail
    refine bodyPost_ret (v := .slice (some ⟨g, 0, none⟩) i cap) (by simp [results, Tryz.results98, go_sem]) rfl ?_
    exact ⟨by rw [hm1], by rw [hm1]; exact HD.out.1, grownBy_drew HD.out.2⟩
  · go_enter Tryz.func98, Tryz.ntmps98
    go_upto_region 5 with fail
    go_region_law (refine step_append_room rfl (.tmp 22) (.tmp 25) 23 rfl 40 ti 5 hun hti hs1 g 0 i cap (by simp [Act.eval, Act.put]) ⟨g, j * 5, none⟩ d (cap - j) news (by simp [Act.eval, Act.put]) HNL.out (fun p u hp => by rw [World.cell?_drew, addr_add]; exact HN.out p u hp) HN1.out (by omega) HS.out ?_)
    (try rw [Nat.zero_add])
    go_wp2_with fail
    refine bodyPost_ret (v := .slice (some ⟨g, 0, none⟩) m cap) (by simp [results, Tryz.results98, go_sem]) rfl ?_
    exact ⟨by rw [hm1], by rw [hm1]; exact HD.out.1, grownBy_drew HD.out.2⟩
end Go.Proofs.YtjhlddlocpkhkaaGreat
