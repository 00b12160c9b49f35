/- Wallet: Apply at an entry "renewed", over its effect's contract. -/
import Derived.Test.YtlheedcnmfekoaaWeJ33
namespace Go.Proofs.Ytlheedcnmfekoaa
open Go.RowKit
set_option maxRecDepth 100000
set_option linter.unusedVariables false
set_option maxHeartbeats 8000000
theorem apply_renewed (sec : ByteArray) (qs : List Az) (hs : List Hz) (us : List Uz) (Aa Ah Au : Option Addr) (na ca nh ch nu cu : Nat) (S : Nat → Prop) (w : World) (hq : qs.length = na) (hn : hs.length = nh) (hu : us.length = nu) (ho : WalOk qs hs us) (hval : validW sec qs hs us = true) (h : WalM w S qs hs us Aa Ah Au) (hS : ∀ g, S g → g < w.heap.size)
    (s n0 t0 n1 : ByteArray) (l1 rest : Its) (hdec : decS s = .ok (2, n0, t0, .cons 1 n1 ⟨#[114, 101, 110, 101, 119, 101, 100]⟩ l1 rest)) (hrl : rest.len ≤ 10000)
    (sec' : ByteArray) (qs' : List Az) (hs' : List Hz) (us' : List Uz)
    (heff : ∀ (W : World) (A : Option Addr) (c rb : Nat) (S1 S2 : Nat → Prop), rest.len ≤ c → RdI A rest.len c rb W → SlK W S1 A rest → (∀ g, S1 g → g < W.heap.size ∧ g ≠ rb) → WalM W S2 qs hs us Aa Ah Au → (∀ g, S2 g → g < W.heap.size ∧ g ≠ rb) →
      Calls Try.prog 30 #[.agg #[.string sec, .slice Aa na ca, .slice Ah nh ch, .slice Au nu cu], .pointer (some ⟨rb, 0, none⟩)] W (EffGot W rb sec' qs' hs' us')) :
    Calls Try.prog 12 #[.agg #[.string sec, .slice Aa na ca, .slice Ah nh ch, .slice Au nu cu], .string s] w (ApGot w sec' qs' hs' us') := by
  have hmf : ∀ (fn : Fn) (first cap : Array Value) (w : World), (Instr.makeFunc fn first cap).run Try.prog w = .ok (.func fn first cap) w := fun _ _ _ _ => rfl
  have hmm := @run_makeMap Try.prog
  have HV := Lib.hid (fun W (hb : Below w.heap.size w W) => wal_valid sec qs hs us Aa Ah Au na ca nh ch nu cu S W hq hn hu (by have := ho.na; omega) (by have := ho.nh; omega) (by have := ho.nu; omega) ho.nonce ho.att ho.scope (h.keep (fun q hq => hb.cell (hS _ hq))) (fun g hg => Nat.lt_of_lt_of_le (hS g hg) hb.size))
  rw [hval] at HV
  have HD := Lib.hid (fun W => enc_Decode s _ W hdec)
  dsimp only at HD
  obtain ⟨m, hm⟩ : ∃ m, (Its.cons 1 n1 ⟨#[114, 101, 110, 101, 119, 101, 100]⟩ l1 rest).len = m := ⟨_, rfl⟩
  rw [hm] at HD
  have HM : Hid (rest.len + 1 = m) := Lib.hid hm
  clear hm
  have HSRC := Lib.hid (fun W (hb : Below w.heap.size w W) => h.keep (w' := W) (fun q hq => hb.cell (hS _ hq)))
  have HS := Lib.hid hS
  have HEFF := Lib.hid heff
  have HRL := Lib.hid hrl
  clear h hS ho hval hdec heff hq hn hu hrl
  obtain ⟨W3, hW3⟩ : ∃ W3, (((w.alloc (.cells #[.string sec, .slice Aa na ca, .slice Ah nh ch, .slice Au nu cu] 28)).alloc (.cells #[.string ⟨#[]⟩, .slice none 0 0, .slice none 0 0, .slice none 0 0] 28)).alloc (.cells #[.int .i64 0] 30)) = W3 := ⟨_, rfl⟩
  have hb3 : Below w.heap.size w W3 := by rw [← hW3]; exact (((Below.refl _ _).alloc (Nat.le_refl _) _).alloc (by simp) _).alloc (by simp only [World.size_alloc]; omega) _
  have hx3 : W3.heap[w.heap.size]? = some (.cells #[.string sec, .slice Aa na ca, .slice Ah nh ch, .slice Au nu cu] 28 (0, 0)) ∧ W3.heap[w.heap.size + 1]? = some (.cells #[.string ⟨#[]⟩, .slice none 0 0, .slice none 0 0, .slice none 0 0] 28 (0, 0)) ∧ W3.heap[w.heap.size + 1 + 1]? = some (.cells #[.int .i64 0] 30 (0, 0)) := by
    rw [← hW3]
    have e2 := heap_alloc_new ((w.alloc (.cells #[.string sec, .slice Aa na ca, .slice Ah nh ch, .slice Au nu cu] 28)).alloc (.cells #[.string ⟨#[]⟩, .slice none 0 0, .slice none 0 0, .slice none 0 0] 28)) (.cells #[.int .i64 0] 30)
    simp only [World.size_alloc] at e2
    exact ⟨(Below.heap_alloc _ _ _ (by simp only [World.size_alloc]; omega)).trans (two_boxes w _ _).1, (Below.heap_alloc _ _ _ (by simp only [World.size_alloc]; omega)).trans (two_boxes w _ _).2, e2⟩
  have hz3 : W3.heap.size = w.heap.size + 3 := by rw [← hW3]; simp
  have H3 := Lib.hid (And.intro hb3 (And.intro hx3 hz3))
  rw [← hW3] at H3
  clear hb3 hx3 hz3 hW3
  go_enter_defers Try.func12, Try.ntmps12
  go_upto_region 4 with (first
    | (go_at_call 13; (with_reducible refine (HV.out _ H3.out.1).mono ?_); rintro e w4 ⟨rfl, hb4⟩; have HB4 := Lib.hid hb4; clear hb4)
    | (go_at_call 25; (with_reducible refine (HD.out _).mono ?_); rintro e w5 ⟨A5, c5, rfl, hc5, hsl5, hb5⟩; have HB5 := Lib.hid hb5; have HC5 := Lib.hid hc5; have HSL5 := Lib.hid hsl5; clear hb5 hc5 hsl5))
  have hap : ApB w S sec qs hs us Aa na ca Ah nh ch Au nu cu n0 t0 (.cons 1 n1 ⟨#[114, 101, 110, 101, 119, 101, 100]⟩ l1 rest) A5 m c5 w5.heap.size (w5.alloc (.cells #[.int .i64 2, .string n0, .string t0, .slice A5 m c5] 69)) := by
    have hz4 := HB4.out.size
    have hz5 := HB5.out.size
    have h3 := H3.out
    have hal : Below w5.heap.size w5 (w5.alloc (.cells #[.int .i64 2, .string n0, .string t0, .slice A5 m c5] 69)) := (Below.refl _ _).alloc (Nat.le_refl _) _
    have hb : Below (w.heap.size + 3) _ (w5.alloc (.cells #[.int .i64 2, .string n0, .string t0, .slice A5 m c5] 69)) := (HB4.out.mono (by rw [h3.2.2]; exact Nat.le_refl _)).trans ((HB5.out.mono (by omega)).trans (hal.mono (by omega)))
    have hbw := h3.1.trans (hb.mono (by omega))
    exact ⟨(hb.block _ (by omega)).trans h3.2.1.1, (hb.block _ (by omega)).trans h3.2.1.2.1, (hb.block _ (by omega)).trans h3.2.1.2.2, heap_alloc_new w5 _, (HSL5.out.keep (fun p hp => hal.cell hp.2)).mono (fun g hg => ⟨by have := hg.1; omega, hg.2⟩), HSRC.out _ hbw, hbw, by omega, by simp⟩
  have HAP := Lib.hid hap
  clear hap HB4 HB5 HSL5 H3 HV HD HSRC
  obtain ⟨b6, hb6⟩ : ∃ b, w5.heap.size = b := ⟨_, rfl⟩
  have hz6 : (w5.alloc (.cells #[.int .i64 2, .string n0, .string t0, .slice A5 m c5] 69)).heap.size = b6 + 1 := by rw [World.size_alloc, hb6]
  obtain ⟨w6, hw6⟩ : ∃ w6, w5.alloc (.cells #[.int .i64 2, .string n0, .string t0, .slice A5 m c5] 69) = w6 := ⟨_, rfl⟩
  rw [hw6] at HAP hz6 ⊢
  rw [hb6] at HAP ⊢
  have HZ6 := Lib.hid hz6
  clear hw6 hb6 hz6
  obtain ⟨x0, x1, x2, x3⟩ := HAP.out.bc
  obtain ⟨i0, i1, i2, i3⟩ := HAP.out.ic
  go_upto_region 8 with fail
  have hal : Below (b6 + 1) w6 (w6.alloc (.cells #[.string sec, .slice Aa na ca, .slice Ah nh ch, .slice Au nu cu] 76)) := (Below.refl _ _).alloc (by rw [HZ6.out]; exact Nat.le_refl _) _
  have HAP7 := Lib.hid (HAP.out.next HS.out hal)
  have hst : StB sec Aa na ca Ah nh ch Au nu cu (b6 + 1) (w6.alloc (.cells #[.string sec, .slice Aa na ca, .slice Ah nh ch, .slice Au nu cu] 76)) := by
    rw [← HZ6.out]
    exact heap_alloc_new w6 _
  have HST := Lib.hid hst
  have hz7 : (w6.alloc (.cells #[.string sec, .slice Aa na ca, .slice Ah nh ch, .slice Au nu cu] 76)).heap.size = b6 + 2 := by rw [World.size_alloc, HZ6.out]
  have e6 : w6.heap.size = b6 + 1 := HZ6.out
  rw [e6]
  obtain ⟨w7, hw7⟩ : ∃ w7, w6.alloc (.cells #[.string sec, .slice Aa na ca, .slice Ah nh ch, .slice Au nu cu] 76) = w7 := ⟨_, rfl⟩
  rw [hw7] at HAP7 HST hz7 ⊢
  have HZ7 := Lib.hid hz7
  clear hw7 hz7 hal hst e6 HAP x0 x1 x2 x3 i0 i1 i2 i3
  have HMB : Hid (MpB w S sec qs hs us Aa na ca Ah nh ch Au nu cu n0 t0 (.cons 1 n1 ⟨#[114, 101, 110, 101, 119, 101, 100]⟩ l1 rest) A5 m c5 b6 w7.heap.size 0 (.map []) (w7.alloc (.map #[] 0))) := Lib.hid (by
    have hal : Below w7.heap.size w7 (w7.alloc (.map #[] 0)) := (Below.refl _ _).alloc (Nat.le_refl _) _
    have hz := HZ7.out
    exact ⟨HAP7.out.next HS.out (hal.mono (by omega)), (hal.block _ (by omega)).trans HST.out, FnMap.made w7, by omega, by simp⟩)
  clear HAP7 HST
  obtain ⟨s0, s1, s2, s3⟩ := HMB.out.st.cells
  go_upto_region 9 with (with_reducible refine wpl ?_; refine wpList_insert_fn _ rfl _ _ _ _ rfl _ Try.underlying78 w7.heap.size _ _ rfl HMB.out.fm (by decide) _ (by decide) _ rfl rfl ?_; intro w1 hfm1 hg1; replace HMB := Lib.hid (HMB.out.put HS.out hfm1 hg1); clear s0 s1 s2 s3 hfm1 hg1; obtain ⟨s0, s1, s2, s3⟩ := HMB.out.st.cells)
  obtain ⟨i0, i1, i2, i3⟩ := HMB.out.ap.ic
  go_upto_region 10 with fail
  have hb10 : RdI A5 m c5 w1.heap.size (w1.alloc (.cells #[.slice A5 m c5] 81)) := heap_alloc_new w1 _
  have hal1 : Below w1.heap.size w1 (w1.alloc (.cells #[.slice A5 m c5] 81)) := (Below.refl _ _).alloc (Nat.le_refl _) _
  have HMB1 := Lib.hid (HMB.out.put HS.out (HMB.out.fm.kept (hal1.block _ HMB.out.size)) (gb_below hal1))
  have HTX := Lib.hid (wal_text n1 ⟨#[114, 101, 110, 101, 119, 101, 100]⟩ l1 rest A5 m c5 w1.heap.size (fun g => w.heap.size + 3 ≤ g ∧ g < b6) (w1.alloc (.cells #[.slice A5 m c5] 81)) HM.out (by have := HM.out; have := HRL.out; omega) HC5.out hb10 HMB1.out.ap.mem (fun g hg => ⟨by have := HMB1.out.ap.size; have := hg.2; omega, by have := HMB.out.ap.size; have := hg.2; omega⟩))
  clear hb10 hal1 s0 s1 s2 s3 i0 i1 i2 i3
  have hz10 : ∀ W : World, (zeroValue 77).run Try.prog W = .ok .nilFunc W := fun W => by kernel_rfl
  obtain ⟨b10, hb10⟩ : ∃ b, w1.heap.size = b := ⟨_, rfl⟩
  have hl10 : w7.heap.size < b10 := by have := HMB.out.size; omega
  have hl6 : b6 < b10 := by have := HMB.out.ap.size; omega
  have hz1 : (w1.alloc (.cells #[.slice A5 m c5] 81)).heap.size = b10 + 1 := by rw [World.size_alloc, hb10]
  have HL10 := Lib.hid (And.intro hl10 (And.intro hl6 hz1))
  clear hl10 hl6 hz1
  rw [hb10] at HTX
  rw [hb10]
  clear hb10
  go_upto_region 11 with (go_at_call 34; (with_reducible refine HTX.out.mono ?_); rintro o w9 ⟨A9, c9, rfl, h1, h2, h3, h4⟩; have HMB9 := Lib.hid (HMB1.out.ap.grown HS.out h4 HL10.out.2.1); have hlk := (HMB1.out.fm.kept (h4.block _ HMB1.out.size (fun e => by have := HL10.out.1; injection e; omega))).look Try.underlying78 (hz10 w9) ⟨#[114, 101, 110, 101, 119, 101, 100]⟩ (by decide) (.func (.func 30) #[.agg #[.string sec, .slice Aa na ca, .slice Ah nh ch, .slice Au nu cu]] #[]) (by rfl) (by rfl); have HE9 := Lib.hid (HEFF.out w9 A9 c9 b10 _ S h1 h3 h2 (fun g hg => ⟨by have := HMB9.out.size; have := hg.2; omega, by have := HL10.out.2.1; have := hg.2; omega⟩) HMB9.out.src (fun g hg => ⟨Nat.lt_of_lt_of_le (HS.out g hg) HMB9.out.bel.size, by have := HS.out g hg; have := HL10.out.2.1; have := HMB9.out.lo; omega⟩)); have HG9 := Lib.hid h4; clear h1 h2 h3 h4)
  go_wp2_with (go_at_call 30; (with_reducible refine HE9.out.mono ?_); rintro o w10 ⟨B1, m1, d1, B2, m2, d2, B3, m3, d3, rfl, k1, k2, k3, hmem, hg10⟩; have HMA := Lib.hid (HMB9.out.grown HS.out hg10 HL10.out.2.1); have HG10 := Lib.hid hg10; have HK := Lib.hid (And.intro k1 (And.intro k2 k3)); have HMM := Lib.hid hmem; obtain ⟨⟨r0, r1, r2, r3⟩, ⟨g0, g1, g2, g3⟩, r4, g4⟩ := HMA.out.rc; clear k1 k2 k3 hmem hg10)
  refine leaves_cons (f := 26) (args := #[.pointer (some ⟨w.heap.size + 1, 0, none⟩), .pointer (some ⟨w.heap.size + 1 + 1, 0, none⟩)]) (by simp) (by simp [go_sem]) ?_
  obtain ⟨W, hW⟩ : ∃ W, (((((w10.setCell ⟨w.heap.size + 1, 0, none⟩ (.string sec')).setCell ⟨w.heap.size + 1, 1, none⟩ (.slice B1 m1 d1)).setCell ⟨w.heap.size + 1, 2, none⟩ (.slice B2 m2 d2)).setCell ⟨w.heap.size + 1, 3, none⟩ (.slice B3 m3 d3)).setCell ⟨w.heap.size + 1 + 1, 0, none⟩ (.int .i64 0)) = W := ⟨_, rfl⟩
  have HF := HMA.out.fin (B := w9.heap.size) (by have := HMB9.out.size; have := HMB9.out.lo; omega) HMM.out (.string sec') (.slice B1 m1 d1) (.slice B2 m2 d2) (.slice B3 m3 d3) hW
  rw [hW]
  clear hW
  refine (apply_idle _ _ _).mono ?_
  rintro e u' w12 ⟨rfl, rfl, rfl⟩
  obtain ⟨⟨z0, z1, z2, z3⟩, z4, hm12, hb12⟩ := HF
  simp [Leaves, settle, results, Try.results12, go_sem, z0, z1, z2, z3, z4]
  exact ⟨B1, m1, d1, B2, m2, d2, B3, m3, d3, rfl, HK.out.1, HK.out.2.1, HK.out.2.2, hm12, hb12⟩
end Go.Proofs.Ytlheedcnmfekoaa
