/- The row of AccumulatorUnique: for every input the law returns true, and each argument reads as before. Condition: the table of math/bits as the program's text lays it (the card ties it). The law AccumulatorUnique, closed: for every input the law returns true, and each argument reads as before. Condition: the listed table of math/bits is tied to the program's text by the card. -/
import Derived.Test.YtlppcnjaacbhpaaGreatDoorV0
import Derived.Test.YtlppcnjaacbhpaaGreatDoorTm2
import Derived.Test.YtlppcnjaacbhpaaGreatDoorCards
import Derived.Test.YtlppcnjaacbhpaaGreatDoorTie
import Derived.SevenTiedAt
namespace Go.Proofs.YtlppcnjaacbhpaaGreatDoor
open Go.ChangeShapes Go.WideShapes Go.ChangeAt Go.WideElems Go.RowKit
set_option maxRecDepth 100000

theorem c27S : Tryz.prog.cellsOf 49 = 27 := by kernel_rfl
theorem c3C : Tryz.prog.cellsOf 51 = 3 := by kernel_rfl
theorem c17P : Tryz.prog.cellsOf 45 = 17 := by kernel_rfl
theorem c2R : Tryz.prog.cellsOf 41 = 2 := by kernel_rfl
theorem c4P : Tryz.prog.cellsOf 43 = 4 := by kernel_rfl
theorem open_change {H : Type} {enc : TypeId × Value → H} {W : World} {base b0 : Nat} {sp : Nat → Bool} {held : Bool} {r : Reach} {v : Value} {d : DataW H} {ps : List MemPlace}
    (hok : Value.okWide Tryz.prog W r b0 51 v) (h : DataW.Trod enc Tryz.prog W base sp held 51 v d ps) : ∃ a b c : ByteArray, v = .agg #[.string a, .string b, .string c] := by
  obtain ⟨cs, rfl, hsz⟩ := okWide_struct Tryz.underlying51 hok
  rw [c3C] at hsz
  obtain ⟨l⟩ := cs
  match l, hsz with
  | [c0, c1, c2], _ =>
  obtain ⟨fuel, hf⟩ := h
  obtain ⟨xs, n, _, _, _, hlen, hfs⟩ := DataW.trod_struct Tryz.underlying51 hf
  match xs, hlen with
  | [y0, y1, y2], _ =>
  have f0 := hfs 0 _ rfl
  have f1 := hfs 1 _ rfl
  have f2 := hfs 2 _ rfl
  simp [Value.cells, c1N] at f0 f1 f2
  obtain ⟨a, e0, _, _⟩ := DataW.trod_string Tryz.underlying22 f0
  obtain ⟨b, e1, _, _⟩ := DataW.trod_string Tryz.underlying22 f1
  obtain ⟨c, e2, _, _⟩ := DataW.trod_string Tryz.underlying22 f2
  simp at e0 e1 e2
  subst e0 e1 e2
  exact ⟨a, b, c, rfl⟩
theorem open_secret {H : Type} {enc : TypeId × Value → H} {W : World} {base b0 : Nat} {sp : Nat → Bool} {held : Bool} {r : Reach} {v : Value} {d : DataW H} {ps : List MemPlace}
    (hok : Value.okWide Tryz.prog W r b0 49 v) (h : DataW.Trod enc Tryz.prog W base sp held 49 v d ps) :
    ∃ (a0 a1 a2 a3 a4 a5 a6 a7 a8 a9 a10 a11 a13 a14 a15 a16 kn z s r h : Value) (hd m o u0 p q : ByteArray), v = .agg #[a0, a1, a2, a3, a4, a5, a6, a7, a8, a9, a10, a11, .string hd, a13, a14, a15, a16, kn, .string m, .string o, z, s, r, .string u0, h, .string p, .string q] := by
  obtain ⟨cs, rfl, hsz⟩ := okWide_struct Tryz.underlying49 hok
  rw [c27S] at hsz
  obtain ⟨l⟩ := cs
  match l, hsz with
  | [c0, c1, c2, c3, c4, c5, c6, c7, c8, c9, c10, c11, c12, c13, c14, c15, c16, c17, c18, c19, c20, c21, c22, c23, c24, c25, c26], _ =>
  obtain ⟨fuel, hf⟩ := h
  obtain ⟨xs, n, _, _, _, hlen, hfs⟩ := DataW.trod_struct Tryz.underlying49 hf
  match xs, hlen with
  | [y0, y1, y2], _ =>
  have f0 := hfs 0 _ rfl
  have f1 := hfs 1 _ rfl
  have f2 := hfs 2 _ rfl
  simp [Value.cells, c17P, c8K, c2T] at f0 f1 f2
  obtain ⟨xs1, n1, _, _, _, hlen1, hfs1⟩ := DataW.trod_struct Tryz.underlying45 f0
  match xs1, hlen1 with
  | [g0, g1, g2, g3, g4, g5, g6, g7, g8, g9], _ =>
  have p5 := hfs1 5 _ rfl
  simp [c1N] at p5
  obtain ⟨hd, e5, _, _⟩ := DataW.trod_string Tryz.underlying22 p5
  obtain ⟨xs2, n2, _, _, _, hlen2, hfs2⟩ := DataW.trod_struct Tryz.underlying27 f1
  match xs2, hlen2 with
  | [k0, k1, k2, k3, k4, k5, k6], _ =>
  have q1 := hfs2 1 _ rfl
  have q5 := hfs2 5 _ rfl
  simp [c2G, c1N] at q1 q5
  obtain ⟨z0, z1, k, _, _, gg0, gg1⟩ := trod_struct2 Tryz.underlying24 q1
  obtain ⟨m, e0, _, _⟩ := DataW.trod_string Tryz.underlying22 gg0
  obtain ⟨o, e1, _, _⟩ := DataW.trod_string Tryz.underlying22 gg1
  obtain ⟨u, e2, _, _⟩ := DataW.trod_string Tryz.underlying22 q5
  obtain ⟨t0, t1, k', _, _, tt0, tt1⟩ := trod_struct2 Tryz.underlying47 f2
  obtain ⟨p, e3, _, _⟩ := DataW.trod_string Tryz.underlying22 tt0
  obtain ⟨q, e4, _, _⟩ := DataW.trod_string Tryz.underlying22 tt1
  simp [c1N] at e0 e1 e2 e3 e4 e5
  subst e0 e1 e2 e3 e4 e5
  exact ⟨c0, c1, c2, c3, c4, c5, c6, c7, c8, c9, c10, c11, c13, c14, c15, c16, c17, c20, c21, c22, c24, hd, m, o, u, p, q, rfl⟩
theorem lifted (os : Os) (started : os.Started) (H : Type) (enc : TypeId × Value → H) :
    ReturnsInHanded {} Tryz.checked os 5 .any (fun w args => (Rows.accumulatorUniqueSpec.pre enc Tryz.prog Tryz.f5 [] false w args ∧ laidMetH Tryz.prog laidL w) ∧ sizedMet enc Tryz.prog Tryz.f5 (OpenSpec.ofChange Rows.accumulatorUniqueSpec) false w args)
      (Rows.accumulatorUniqueSpec.post enc Tryz.prog Tryz.f5 false true false false) := by
  refine returnsInHanded_of_change_and (C := Tryz.checked) (X := fun w _ => laidMetH Tryz.prog laidL w) (fun _ _ _ hh h => h.of_heap hh) ownK started (by kernel_rfl) Tryz.func5
    (ChangeSpec.witness_shaped (enc := enc) (C := Tryz.checked) (os := os) (X := fun w _ => laidMetH Tryz.prog laidL w) false (World.doorLaid Tryz.prog 400 os) #[.agg #[.string ⟨#[]⟩, .string ⟨#[]⟩, .string ⟨#[]⟩, .string ⟨#[]⟩, .string ⟨#[]⟩, .string ⟨#[]⟩, .string ⟨#[]⟩, .string ⟨#[]⟩, .string ⟨#[]⟩, .string ⟨#[]⟩, .string ⟨#[]⟩, .string ⟨#[]⟩, .string ⟨#[]⟩, .string ⟨#[]⟩, .string ⟨#[]⟩, .string ⟨#[]⟩, .string ⟨#[]⟩, .string ⟨#[]⟩, .string ⟨#[]⟩, .string ⟨#[]⟩, .string ⟨#[]⟩, .string ⟨#[]⟩, .slice none 0 0, .string ⟨#[]⟩, .string ⟨#[]⟩, .string ⟨#[]⟩, .string ⟨#[]⟩], .agg #[.string ⟨#[]⟩, .string ⟨#[]⟩, .string ⟨#[]⟩]] 8 rfl (World.shaped_of_RefB (by kernel_rfl) (by kernel_rfl)) (by kernel_rfl) (by kernel_rfl) (by kernel_rfl) (door_met os _)) ?_
  intro W base args ds gs before hval0 hW _ _ hL _
  have hval : ∀ (j : Nat) t v, Tryz.f5.params[j]? = some t → args[j]? = some v → Value.okWide Tryz.prog W .any base t v := hval0
  have hW' := hW
  obtain ⟨p, q, hA0, hV, rfl, hfz, hnd⟩ := hW
  have hA : DataW.TrodAll enc Tryz.prog W 0 (fun _ => true) true Tryz.f5.params.toList args.toList ds p := hA0
  rw [Tryz.params5] at hA hval
  obtain ⟨v0, v1, d0, d1, p0, p1, rfl, rfl, rfl, h0, h1⟩ := trodAll_two hA
  obtain ⟨rfl, rfl⟩ := trodVars_none hV
  obtain ⟨a0, a1, a2, a3, a4, a5, a6, a7, a8, a9, a10, a11, a13, a14, a15, a16, kn, z, s, r, hh, hd, m, o, u0, pp, qq, rfl⟩ := open_secret (hval 0 49 v0 rfl rfl) h0
  obtain ⟨acc, u, wv, rfl⟩ := open_change (hval 1 51 v1 rfl rfl) h1
  clear hA0 hval0
  simp only [List.append_nil] at hW'
  refine (law_unique a0 a1 a2 a3 a4 a5 a6 a7 a8 a9 a10 a11 a13 a14 a15 a16 kn z s r hh hd m o u0 pp qq acc u wv W (of_laid hL)).mono fun e W' ⟨he, hb⟩ => ?_
  subst he
  have hlt : ∀ y ∈ p0 ++ p1, y.block < W.heap.size := fun y hy => hW'.lt y hy
  refine ⟨_, rfl, post_of_below (pa := p0 ++ p1) (pv := []) hW' (fun _ _ _ => trodAll_mk1 (shut_bool Tryz.underlying4 _)) (fun sp hs => ?_) (fun _ _ => rfl) (by simp) hb (ok_one (by kernel_rfl) rfl (okWide_bool_mk Tryz.underlying4 _))⟩
  exact trodAll_mk2
    (WideElems.Trod_stays laidOutK (by kernel_rfl) (of_decide_eq_true (by kernel_rfl)) h0 (fun y hy => hb.same (hlt y (by simp [hy]))) (fun y hy => hs y (by simp [hy])))
    (WideElems.Trod_stays laidOutK (by kernel_rfl) (of_decide_eq_true (by kernel_rfl)) h1 (fun y hy => hb.same (hlt y (by simp [hy]))) (fun y hy => hs y (by simp [hy])))
theorem accumulatorUnique_said : Rows.AccumulatorUniqueSaid :=
  OpenClaim.holds_of_wide 5 Tryz.f5 rfl rfl rfl rfl rfl rfl rfl ⟨rfl, rfl, rfl, rfl, rfl⟩ rfl rfl rfl rfl rfl (by kernel_rfl) Tryz.func5 (by kernel_rfl)
    (of_decide_eq_true (by kernel_rfl)) (by unfold Func.isWrapper; first | (rw [if_pos (by decide +kernel)]; kernel_rfl) | (rw [if_neg (by decide +kernel)]; exact ⟨rfl, rfl⟩))
    (fun os started H enc _ => lifted os started H enc)
#print axioms accumulatorUnique_said

end Go.Proofs.YtlppcnjaacbhpaaGreatDoor

namespace Go.Proofs.YtlppcnjaacbhpaaGreatDoor
open Go
set_option maxRecDepth 100000
theorem accumulatorUnique_card : Rows.AccumulatorUniqueCardSaid :=
  Claim7.holds_tied_plain_at .later [] [.data] true (true, "b4e8a04a4a353dc82a018b4cb484e076cacfdd2eb54669318c8a90f8a2ca045f") false
    accumulatorUnique_said (fun _ h => by cases h) (by kernel_rfl) (fun _ h => by cases h) accumulatorUnique_row_tie rfl ⟨rfl, rfl⟩ (by kernel_rfl) rfl
    (fun f fn hf hfn => by
      obtain rfl : f = 5 := Option.some.inj ((show Tryz.prog.funcNamed "domino/dominolaw35.AccumulatorUnique" = some 5 by kernel_rfl).symm.trans hf) |>.symm
      obtain rfl : fn = Tryz.f5 := (Option.some.inj (Tryz.func5.symm.trans hfn)).symm
      exact ⟨by kernel_rfl, fun j t ht => by
        rw [Tryz.params5] at ht
        have hm : t ∈ [49, 51] := by simpa using Array.mem_of_getElem? ht
        have hall : ([49, 51].all fun u => !Tryz.prog.wantsStandIn u) = true := by kernel_rfl
        exact (show Tryz.prog.wantsStandIn t = false by simpa using List.all_eq_true.1 hall t hm)⟩)
    (by kernel_rfl)
#print axioms accumulatorUnique_card
end Go.Proofs.YtlppcnjaacbhpaaGreatDoor
