/- WalletChanges: for every wallet and every change the law returns true, and its arguments read as before. No condition. -/
import Derived.Test.YtjhlddlocpkhkaaGreatWgJ41
namespace Go.Proofs.YtjhlddlocpkhkaaGreat
open Go.ChangeShapes Go.WideShapes Go.ChangeAt Go.WideElems Go.RowKit
set_option linter.unusedVariables false
set_option maxRecDepth 100000
set_option maxHeartbeats 4000000
theorem laidOutW : laidOutB Tryz.prog = true := by kernel_rfl
theorem changesLifted (os : Os) (started : os.Started) (H : Type) (enc : TypeId × Value → H) :
    ReturnsInHanded {} Tryz.checked os 4 .any (Rows.walletChangesSpec.pre6 enc Tryz.prog Tryz.f4 Rows.walletChangesRow.domain false) (Rows.walletChangesSpec.post enc Tryz.prog Tryz.f4 false true false false) := by
  refine returnsInHanded_of_change_sized (C := Tryz.checked) own started (by kernel_rfl) Tryz.func4
    (ChangeSpec.witness6 (enc := enc) (C := Tryz.checked) false ⟨#[], #[.agg #[.string ⟨#[]⟩, .slice none 0 0, .slice none 0 0, .slice none 0 0], .agg #[.int .u8 0, .string ⟨#[]⟩, .string ⟨#[]⟩, .string ⟨#[]⟩, .string ⟨#[]⟩, .string ⟨#[]⟩, .string ⟨#[]⟩, .int .i64 0, .string ⟨#[]⟩, .string ⟨#[]⟩, .int .i64 0, .slice none 0 0, .string ⟨#[]⟩, .string ⟨#[]⟩, .string ⟨#[]⟩, .int .i64 0, .string ⟨#[]⟩, .string ⟨#[]⟩, .int .i64 0, .int .i64 0]], []⟩ 8 (by kernel_rfl) (by kernel_rfl) (by kernel_rfl) (by kernel_rfl)) ?_
  intro W base args ds gs before hval0 hW hcnd hsz0 _
  have hval : ∀ (j : Nat) t v, Tryz.f4.params[j]? = some t → args[j]? = some v → Value.okWide Tryz.prog W .any base t v := hval0
  have hW' := hW
  obtain ⟨p, q, hA0, hV, rfl, hfz, hnd⟩ := hW
  have hA : DataW.TrodAll enc Tryz.prog W 0 (fun _ => true) true Tryz.f4.params.toList args.toList ds p := hA0
  rw [Tryz.params4] at hA hval hsz0
  obtain ⟨v0, v1, d0, d1, p0, p1, rfl, rfl, rfl, h0, h1⟩ := trodAll_two hA
  obtain ⟨rfl, rfl⟩ := trodVars_none hV
  have hsz : ∀ k ∈ DataW.weightsEach Tryz.prog [27, 49] [d0, d1], k ≤ reachBytes := fun k hk => by
    have := List.all_eq_true.1 hsz0 k hk
    simpa using this
  have hl0 : LeR Tryz.prog 27 d0 := fun k hk => hsz k (weightsEach_mem _ _ 0 27 d0 rfl rfl k hk)
  have hl1 : LeR Tryz.prog 49 d1 := fun k hk => hsz k (weightsEach_mem _ _ 1 49 d1 rfl rfl k hk)
  obtain ⟨sec, qs, hs, us, Aa, Ah, Au, na, ca, nh, ch, nu, cu, rfl, hq, hn, hu, hm, _, ba, bh, bu⟩ := open_wallet (hval 0 27 v0 rfl rfl) hl0 h0
  obtain ⟨kd, ⟨qi, qc, qn, qx, qb⟩, nc, ix, x, A, c, sc, pd, lm, rfl, b1, b2, b3, b4, hr, w0, w1, w2, w3, w4, w5⟩ := open_change (hval 1 49 v1 rfl rfl) hl1 h1
  clear hA0 hval0 hsz0 hsz
  simp only [List.append_nil] at hW'
  refine (law56_Changes sec qs hs us Aa Ah Au na ca nh ch nu cu kd qi qc qn qx qb nc ix x A x.att.length c sc pd lm (fun g => g < W.heap.size) W 140737488351232 (by decide) ba bh (fun y hy => (bu y hy).1) (fun y hy => (bu y hy).2) b1 b2 b3 b4 hq hn hu hm (fun g hg => hg) (u8_range w0) rfl (i64_range w1) (i64_range w2) (i64_range w3) (i64_range w4) (i64_range w5).2 hr).mono fun e W' ⟨he, hb⟩ => ?_
  subst he
  have hlt : ∀ y ∈ p0 ++ p1, y.block < W.heap.size := fun y hy => hW'.lt y hy
  refine ⟨_, rfl, post_of_below (pa := p0 ++ p1) (pv := []) hW' (fun _ _ _ => (trodAll_cons_mk (shut_bool Tryz.underlying4 _) trodAll_mk0)) (fun sp hs => ?_) (fun _ _ => rfl) (by simp) hb (Go.RowKit.ok_one (by kernel_rfl) rfl (okWide_bool_mk Tryz.underlying4 _))⟩
  exact trodAll_mk2
    (WideElems.Trod_stays laidOutW (by kernel_rfl) (of_decide_eq_true (by kernel_rfl)) h0 (fun y hy => hb.same (hlt y (by simp [hy]))) (fun y hy => hs y (by simp [hy])))
    (WideElems.Trod_stays laidOutW (by kernel_rfl) (of_decide_eq_true (by kernel_rfl)) h1 (fun y hy => hb.same (hlt y (by simp [hy]))) (fun y hy => hs y (by simp [hy])))
theorem walletChanges_closed : joinedFacts Tryz.prog 4 Tryz.f4 Rows.walletChangesSpec Rows.walletChangesRow = true := by kernel_rfl
theorem walletChanges_said : Rows.WalletChangesSaid :=
  OpenClaim.holds_of_wide 4 Tryz.f4 rfl rfl rfl rfl rfl rfl rfl ⟨rfl, rfl, rfl, rfl, rfl⟩ rfl rfl rfl rfl rfl (by kernel_rfl) Tryz.func4 walletChanges_closed
    (of_decide_eq_true (by kernel_rfl)) (by unfold Func.isWrapper; first | (rw [if_pos (by decide +kernel)]; kernel_rfl) | (rw [if_neg (by decide +kernel)]; exact ⟨rfl, rfl⟩))
    (fun os started H enc _ => changesLifted os started H enc)
#print axioms walletChanges_said
end Go.Proofs.YtjhlddlocpkhkaaGreat
