/- Wallet: the effect of the entry "used". Wallet: Apply at an entry "secret", over its effect's contract. Wallet: wallets with one count at most; what the law's walks hold. -/
import Derived.Test.YtlheedcnmfekoaaWeJ19
import Derived.Test.YtlheedcnmfekoaaWeJ33
import Derived.Test.YtlheedcnmfekoaaWeJ36
namespace Go.Proofs.Ytlheedcnmfekoaa
open Go.RowKit
set_option maxRecDepth 100000
set_option linter.unusedVariables false
set_option maxHeartbeats 8000000
theorem ex_used (w : World) (rb : Nat) (S S0 : Nat → Prop) (sec : ByteArray) (qs : List Az) (hs : List Hz) (us : List Uz) (Aa Ah Au : Option Addr) (na ca nh ch nu cu : Nat) (t : ByteArray) (p q : Int) (hp : -9223372036854775808 ≤ p ∧ p ≤ 9223372036854775807) (hq : -9223372036854775808 ≤ q ∧ q ≤ 9223372036854775807) (W : World) (h : EfX w rb S S0 sec qs hs us Aa na ca Ah nh ch Au nu cu (usedL t p q) W) :
    Calls Try.prog 54 #[.pointer (some ⟨rb, 0, none⟩)] W fun o w' => o = .returned (.agg #[.string t, .int .i64 p, .int .i64 q]) ∧ EfX w rb S S0 sec qs hs us Aa na ca Ah nh ch Au nu cu .nil w' := by
  obtain ⟨A, c, h1, h2, h3⟩ := h.inn
  refine (wal_used ⟨#[]⟩ t .nil p q hp hq A c rb S W h1 h3 h2 h.far).mono ?_
  rintro o w' ⟨rfl, hg, A2, c2, h5⟩
  exact ⟨rfl, h.gb hg ⟨A2, c2, Nat.zero_le _, ⟨[], fun e => absurd e (by simp [Its.len]), rfl⟩, h5⟩⟩
theorem wal_spent (sec : ByteArray) (qs : List Az) (hs : List Hz) (us : List Uz) (Aa Ah Au : Option Addr) (na ca nh ch nu cu : Nat) (t : ByteArray) (p : Int) (rb : Nat) (S S0 : Nat → Prop) (w : World) (hq : qs.length = na) (hn : hs.length = nh) (hu : us.length = nu) (hma : na ≤ 100000) (hmh : nh ≤ 100000) (hmu : nu < 4096) (hatt : ∀ x ∈ hs, x.att.length ≤ 100000) (hp : -9223372036854775808 ≤ p ∧ p ≤ 9223372036854775807) (hc0 : 0 ≤ cntU (isU t p) us) (hc1 : cntU (isU t p) us < 9223372036854775807)
    (hin : InI w rb S (usedL t p (cntU (isU t p) us + 1))) (hr : rb < w.heap.size) (hS : ∀ g, S g → g < w.heap.size ∧ g ≠ rb) (hm : WalM w S0 qs hs us Aa Ah Au) (hS0 : ∀ g, S0 g → g < w.heap.size ∧ g ≠ rb) :
    Calls Try.prog 31 #[.agg #[.string sec, .slice Aa na ca, .slice Ah nh ch, .slice Au nu cu], .pointer (some ⟨rb, 0, none⟩)] w (EffGot w rb sec qs hs (putU (t, p, cntU (isU t p) us + 1) us)) := by
  have H0 := Lib.hid (EfX.start (sec := sec) (na := na) (ca := ca) (nh := nh) (ch := ch) (nu := nu) (cu := cu) hin hr hS hm hS0)
  have HCN := Lib.hid (fun l W (h : EfX w rb S S0 sec qs hs us Aa na ca Ah nh ch Au nu cu l W) => wal_count us Au nu cu S0 sec Aa Ah na ca nh ch t p W hu (by omega) h.mem.u h.lt0)
  have HUSE := Lib.hid (fun l W (h : EfX w rb S S0 sec qs hs us Aa na ca Ah nh ch Au nu cu l W) => wal_use sec qs hs us Aa Ah Au na ca nh ch nu cu t p (cntU (isU t p) us + 1) S0 W hq hn hu hma hmh hmu hatt h.mem h.lt0)
  have HR := Lib.hid (ex_used w rb S S0 sec qs hs us Aa Ah Au na ca nh ch nu cu t p (cntU (isU t p) us + 1) hp (by omega) _ H0.out)
  obtain ⟨k, hk⟩ : ∃ k, cntU (isU t p) us = k := ⟨_, rfl⟩
  rw [hk] at HCN HUSE HR H0 hc0 hc1 ⊢
  obtain ⟨m, hmk⟩ : ∃ m, k + 1 = m := ⟨_, rfl⟩
  rw [hmk] at HUSE HR H0 ⊢
  have d1 : decide (m < 1) = false := decide_eq_false (by omega)
  have d2 : (m < 1) = False := by simp; omega
  have d3 : wrap64 (m - 1) = k := by unfold wrap64; omega
  have d4 : IntKind.i64.wrap (m - 1) = k := by simp only [IntKind.wrap, IntKind.bits, IntKind.signed]; simp; omega
  have HQ := Lib.hid (And.intro hq (And.intro hn hu))
  clear hq hn hu hma hmh hmu hatt hp hin hr hS hm hS0 hk hmk hc0 hc1
  go_enter Try.func31, Try.ntmps31
  go_upto_region 2 with (go_at_call 54; (with_reducible refine HR.out.mono ?_); rintro o w1 ⟨rfl, h1⟩; have H1 := Lib.hid (h1.below ((Below.refl _ _).alloc (Nat.le_refl _) (.cells #[.string t, .int .i64 p, .int .i64 m] 56))); have HB1 := Lib.hid (heap_alloc_new w1 (.cells #[.string t, .int .i64 p, .int .i64 m] 56)); clear h1 HR)
  obtain ⟨W1, hW1⟩ : ∃ W1, w1.alloc (.cells #[.string t, .int .i64 p, .int .i64 m] 56) = W1 := ⟨_, rfl⟩
  obtain ⟨b1, hb1⟩ : ∃ b1, w1.heap.size = b1 := ⟨_, rfl⟩
  rw [hW1] at H1 HB1 ⊢
  rw [hb1] at HB1 ⊢
  have HL1 : Hid (b1 < W1.heap.size) := Lib.hid (by rw [← hW1, ← hb1]; simp)
  clear hW1 hb1
  obtain ⟨y0, y1, y2, y3⟩ := H1.out.cc
  have z0 := cell_of_row _ _ 0 _ _ _ HB1.out
  have z1 := cell_of_row _ _ 1 _ _ _ HB1.out
  have z2 := cell_of_row _ _ 2 _ _ _ HB1.out
  have HKP : Hid (∀ W2, Below W1.heap.size W1 W2 → EfX w rb S S0 sec qs hs us Aa na ca Ah nh ch Au nu cu .nil W2 ∧ W2.heap[b1]? = some (.cells #[.string t, .int .i64 p, .int .i64 m] 56 (0, 0))) := Lib.hid (fun W2 hb => ⟨H1.out.below hb, (hb.block _ HL1.out).trans HB1.out⟩)
  have HCC : Hid (∀ W2, Below W1.heap.size W1 W2 → W2.cell? ⟨w.heap.size, 0, none⟩ = some (.string sec) ∧ W2.cell? ⟨w.heap.size, 1, none⟩ = some (.slice Aa na ca) ∧ W2.cell? ⟨w.heap.size, 2, none⟩ = some (.slice Ah nh ch) ∧ W2.cell? ⟨w.heap.size, 3, none⟩ = some (.slice Au nu cu) ∧ W2.cell? ⟨b1, 0, none⟩ = some (.string t) ∧ W2.cell? ⟨b1, 1, none⟩ = some (.int .i64 p) ∧ W2.cell? ⟨b1, 2, none⟩ = some (.int .i64 m)) := Lib.hid (fun W2 hb => by
    obtain ⟨h1, h2⟩ := HKP.out W2 hb
    obtain ⟨e0, e1, e2, e3⟩ := h1.cc
    exact ⟨e0, e1, e2, e3, cell_of_row _ _ 0 _ _ _ h2, cell_of_row _ _ 1 _ _ _ h2, cell_of_row _ _ 2 _ _ _ h2⟩)
  have HB2 : Hid (Below W1.heap.size W1 W1.drew) := Lib.hid (Below.refl _ _).drew
  go_region_held3 (fun w' => w'.cell? ⟨w.heap.size, 0, none⟩ = some (.string sec) ∧ w'.cell? ⟨w.heap.size, 1, none⟩ = some (.slice Aa na ca) ∧ w'.cell? ⟨w.heap.size, 2, none⟩ = some (.slice Ah nh ch) ∧ w'.cell? ⟨w.heap.size, 3, none⟩ = some (.slice Au nu cu) ∧ w'.cell? ⟨b1, 0, none⟩ = some (.string t) ∧ w'.cell? ⟨b1, 1, none⟩ = some (.int .i64 p) ∧ w'.cell? ⟨b1, 2, none⟩ = some (.int .i64 m)) (first | exact HCC.out _ HB2.out | exact HCC.out _ (Below.refl _ _) | exact HCC.out _ (Below.refl _ _).drew | go_keep) (first
    | (go_at_call 14; (first | (with_reducible refine (HCN.out _ _ H1.out).mono ?_) | (with_reducible refine (HCN.out _ _ (H1.out.below (Below.refl _ _).drew)).mono ?_)); rintro o w2 ⟨rfl, hb2⟩; have n2 : Below W1.heap.size W1 w2 := (by first | exact hb2 | exact (Below.refl _ _).drew.trans hb2); replace HB2 := Lib.hid n2; clear n2 hb2))
  all_goals
    obtain ⟨H2, HX2⟩ := HKP.out w2 HB2.out
    have H2 := Lib.hid H2
    have HX2 := Lib.hid HX2
    have HU2 := Lib.hid (HUSE.out _ _ H2.out)
    obtain ⟨u0, u1, u2, u3, u4, u5, u6⟩ := HCC.out w2 HB2.out
    clear y0 y1 y2 y3 z0 z1 z2
    go_wp2_with (go_at_call 15; (with_reducible refine HU2.out.mono ?_); rintro o w7 ⟨A1, c1, A2, c2, A3, n3, c3, rfl, k3, k4, k5⟩; have H7 := Lib.hid (H2.out.below k5); obtain ⟨⟨r0, r1, r2, r3⟩, g0, g1, g2, g3⟩ := H7.out.rc; have HF := Lib.hid (H2.out.fin (sec' := sec) (c1 := c1) (c2 := c2) (c3 := c3) HQ.out.1.symm HQ.out.2.1.symm k3 k4 k5); clear k3 k4 k5)
    refine bodyPost_ret (v := .tuple #[.agg #[.string sec, .slice A1 na c1, .slice A2 nh c2, .slice A3 n3 c3], .int .i64 0]) (by simp [results, Try.results31, go_sem, r0, r1, r2, r3]) rfl ?_
    exact HF.out _ _ _ _
theorem apply_secret (sec : ByteArray) (qs : List Az) (hs : List Hz) (us : List Uz) (Aa Ah Au : Option Addr) (na ca nh ch nu cu : Nat) (S : Nat → Prop) (w : World) (hq : qs.length = na) (hn : hs.length = nh) (hu : us.length = nu) (ho : WalOk qs hs us) (hval : validW sec qs hs us = true) (h : WalM w S qs hs us Aa Ah Au) (hS : ∀ g, S g → g < w.heap.size)
    (s n0 t0 n1 : ByteArray) (l1 rest : Its) (hdec : decS s = .ok (2, n0, t0, .cons 1 n1 ⟨#[115, 101, 99, 114, 101, 116]⟩ l1 rest)) (hrl : rest.len ≤ 10000)
    (sec' : ByteArray) (qs' : List Az) (hs' : List Hz) (us' : List Uz)
    (heff : ∀ (W : World) (A : Option Addr) (c rb : Nat) (S1 S2 : Nat → Prop), rest.len ≤ c → RdI A rest.len c rb W → SlK W S1 A rest → (∀ g, S1 g → g < W.heap.size ∧ g ≠ rb) → WalM W S2 qs hs us Aa Ah Au → (∀ g, S2 g → g < W.heap.size ∧ g ≠ rb) →
      Calls Try.prog 27 #[.agg #[.string sec, .slice Aa na ca, .slice Ah nh ch, .slice Au nu cu], .pointer (some ⟨rb, 0, none⟩)] W (EffGot W rb sec' qs' hs' us')) :
    Calls Try.prog 12 #[.agg #[.string sec, .slice Aa na ca, .slice Ah nh ch, .slice Au nu cu], .string s] w (ApGot w sec' qs' hs' us') := by
  have hmf : ∀ (fn : Fn) (first cap : Array Value) (w : World), (Instr.makeFunc fn first cap).run Try.prog w = .ok (.func fn first cap) w := fun _ _ _ _ => rfl
  have hmm := @run_makeMap Try.prog
  have HV := Lib.hid (fun W (hb : Below w.heap.size w W) => wal_valid sec qs hs us Aa Ah Au na ca nh ch nu cu S W hq hn hu (by have := ho.na; omega) (by have := ho.nh; omega) (by have := ho.nu; omega) ho.nonce ho.att ho.scope (h.keep (fun q hq => hb.cell (hS _ hq))) (fun g hg => Nat.lt_of_lt_of_le (hS g hg) hb.size))
  rw [hval] at HV
  have HD := Lib.hid (fun W => enc_Decode s _ W hdec)
  dsimp only at HD
  obtain ⟨m, hm⟩ : ∃ m, (Its.cons 1 n1 ⟨#[115, 101, 99, 114, 101, 116]⟩ l1 rest).len = m := ⟨_, rfl⟩
  rw [hm] at HD
  have HM : Hid (rest.len + 1 = m) := Lib.hid hm
  clear hm
  have HSRC := Lib.hid (fun W (hb : Below w.heap.size w W) => h.keep (w' := W) (fun q hq => hb.cell (hS _ hq)))
  have HS := Lib.hid hS
  have HEFF := Lib.hid heff
  have HRL := Lib.hid hrl
  clear h hS ho hval hdec heff hq hn hu hrl
  obtain ⟨W3, hW3⟩ : ∃ W3, (((w.alloc (.cells #[.string sec, .slice Aa na ca, .slice Ah nh ch, .slice Au nu cu] 28)).alloc (.cells #[.string ⟨#[]⟩, .slice none 0 0, .slice none 0 0, .slice none 0 0] 28)).alloc (.cells #[.int .i64 0] 30)) = W3 := ⟨_, rfl⟩
  have hb3 : Below w.heap.size w W3 := by rw [← hW3]; exact (((Below.refl _ _).alloc (Nat.le_refl _) _).alloc (by simp) _).alloc (by simp only [World.size_alloc]; omega) _
  have hx3 : W3.heap[w.heap.size]? = some (.cells #[.string sec, .slice Aa na ca, .slice Ah nh ch, .slice Au nu cu] 28 (0, 0)) ∧ W3.heap[w.heap.size + 1]? = some (.cells #[.string ⟨#[]⟩, .slice none 0 0, .slice none 0 0, .slice none 0 0] 28 (0, 0)) ∧ W3.heap[w.heap.size + 1 + 1]? = some (.cells #[.int .i64 0] 30 (0, 0)) := by
    rw [← hW3]
    have e2 := heap_alloc_new ((w.alloc (.cells #[.string sec, .slice Aa na ca, .slice Ah nh ch, .slice Au nu cu] 28)).alloc (.cells #[.string ⟨#[]⟩, .slice none 0 0, .slice none 0 0, .slice none 0 0] 28)) (.cells #[.int .i64 0] 30)
    simp only [World.size_alloc] at e2
    exact ⟨(Below.heap_alloc _ _ _ (by simp only [World.size_alloc]; omega)).trans (two_boxes w _ _).1, (Below.heap_alloc _ _ _ (by simp only [World.size_alloc]; omega)).trans (two_boxes w _ _).2, e2⟩
  have hz3 : W3.heap.size = w.heap.size + 3 := by rw [← hW3]; simp
  have H3 := Lib.hid (And.intro hb3 (And.intro hx3 hz3))
  rw [← hW3] at H3
  clear hb3 hx3 hz3 hW3
  go_enter_defers Try.func12, Try.ntmps12
  go_upto_region 4 with (first
    | (go_at_call 13; (with_reducible refine (HV.out _ H3.out.1).mono ?_); rintro e w4 ⟨rfl, hb4⟩; have HB4 := Lib.hid hb4; clear hb4)
    | (go_at_call 25; (with_reducible refine (HD.out _).mono ?_); rintro e w5 ⟨A5, c5, rfl, hc5, hsl5, hb5⟩; have HB5 := Lib.hid hb5; have HC5 := Lib.hid hc5; have HSL5 := Lib.hid hsl5; clear hb5 hc5 hsl5))
  have hap : ApB w S sec qs hs us Aa na ca Ah nh ch Au nu cu n0 t0 (.cons 1 n1 ⟨#[115, 101, 99, 114, 101, 116]⟩ l1 rest) A5 m c5 w5.heap.size (w5.alloc (.cells #[.int .i64 2, .string n0, .string t0, .slice A5 m c5] 69)) := by
    have hz4 := HB4.out.size
    have hz5 := HB5.out.size
    have h3 := H3.out
    have hal : Below w5.heap.size w5 (w5.alloc (.cells #[.int .i64 2, .string n0, .string t0, .slice A5 m c5] 69)) := (Below.refl _ _).alloc (Nat.le_refl _) _
    have hb : Below (w.heap.size + 3) _ (w5.alloc (.cells #[.int .i64 2, .string n0, .string t0, .slice A5 m c5] 69)) := (HB4.out.mono (by rw [h3.2.2]; exact Nat.le_refl _)).trans ((HB5.out.mono (by omega)).trans (hal.mono (by omega)))
    have hbw := h3.1.trans (hb.mono (by omega))
    exact ⟨(hb.block _ (by omega)).trans h3.2.1.1, (hb.block _ (by omega)).trans h3.2.1.2.1, (hb.block _ (by omega)).trans h3.2.1.2.2, heap_alloc_new w5 _, (HSL5.out.keep (fun p hp => hal.cell hp.2)).mono (fun g hg => ⟨by have := hg.1; omega, hg.2⟩), HSRC.out _ hbw, hbw, by omega, by simp⟩
  have HAP := Lib.hid hap
  clear hap HB4 HB5 HSL5 H3 HV HD HSRC
  obtain ⟨b6, hb6⟩ : ∃ b, w5.heap.size = b := ⟨_, rfl⟩
  have hz6 : (w5.alloc (.cells #[.int .i64 2, .string n0, .string t0, .slice A5 m c5] 69)).heap.size = b6 + 1 := by rw [World.size_alloc, hb6]
  obtain ⟨w6, hw6⟩ : ∃ w6, w5.alloc (.cells #[.int .i64 2, .string n0, .string t0, .slice A5 m c5] 69) = w6 := ⟨_, rfl⟩
  rw [hw6] at HAP hz6 ⊢
  rw [hb6] at HAP ⊢
  have HZ6 := Lib.hid hz6
  clear hw6 hb6 hz6
  obtain ⟨x0, x1, x2, x3⟩ := HAP.out.bc
  obtain ⟨i0, i1, i2, i3⟩ := HAP.out.ic
  go_upto_region 8 with fail
  have hal : Below (b6 + 1) w6 (w6.alloc (.cells #[.string sec, .slice Aa na ca, .slice Ah nh ch, .slice Au nu cu] 76)) := (Below.refl _ _).alloc (by rw [HZ6.out]; exact Nat.le_refl _) _
  have HAP7 := Lib.hid (HAP.out.next HS.out hal)
  have hst : StB sec Aa na ca Ah nh ch Au nu cu (b6 + 1) (w6.alloc (.cells #[.string sec, .slice Aa na ca, .slice Ah nh ch, .slice Au nu cu] 76)) := by
    rw [← HZ6.out]
    exact heap_alloc_new w6 _
  have HST := Lib.hid hst
  have hz7 : (w6.alloc (.cells #[.string sec, .slice Aa na ca, .slice Ah nh ch, .slice Au nu cu] 76)).heap.size = b6 + 2 := by rw [World.size_alloc, HZ6.out]
  have e6 : w6.heap.size = b6 + 1 := HZ6.out
  rw [e6]
  obtain ⟨w7, hw7⟩ : ∃ w7, w6.alloc (.cells #[.string sec, .slice Aa na ca, .slice Ah nh ch, .slice Au nu cu] 76) = w7 := ⟨_, rfl⟩
  rw [hw7] at HAP7 HST hz7 ⊢
  have HZ7 := Lib.hid hz7
  clear hw7 hz7 hal hst e6 HAP x0 x1 x2 x3 i0 i1 i2 i3
  have HMB : Hid (MpB w S sec qs hs us Aa na ca Ah nh ch Au nu cu n0 t0 (.cons 1 n1 ⟨#[115, 101, 99, 114, 101, 116]⟩ l1 rest) A5 m c5 b6 w7.heap.size 0 (.map []) (w7.alloc (.map #[] 0))) := Lib.hid (by
    have hal : Below w7.heap.size w7 (w7.alloc (.map #[] 0)) := (Below.refl _ _).alloc (Nat.le_refl _) _
    have hz := HZ7.out
    exact ⟨HAP7.out.next HS.out (hal.mono (by omega)), (hal.block _ (by omega)).trans HST.out, FnMap.made w7, by omega, by simp⟩)
  clear HAP7 HST
  obtain ⟨s0, s1, s2, s3⟩ := HMB.out.st.cells
  go_upto_region 9 with (with_reducible refine wpl ?_; refine wpList_insert_fn _ rfl _ _ _ _ rfl _ Try.underlying78 w7.heap.size _ _ rfl HMB.out.fm (by decide) _ (by decide) _ rfl rfl ?_; intro w1 hfm1 hg1; replace HMB := Lib.hid (HMB.out.put HS.out hfm1 hg1); clear s0 s1 s2 s3 hfm1 hg1; obtain ⟨s0, s1, s2, s3⟩ := HMB.out.st.cells)
  obtain ⟨i0, i1, i2, i3⟩ := HMB.out.ap.ic
  go_upto_region 10 with fail
  have hb10 : RdI A5 m c5 w1.heap.size (w1.alloc (.cells #[.slice A5 m c5] 81)) := heap_alloc_new w1 _
  have hal1 : Below w1.heap.size w1 (w1.alloc (.cells #[.slice A5 m c5] 81)) := (Below.refl _ _).alloc (Nat.le_refl _) _
  have HMB1 := Lib.hid (HMB.out.put HS.out (HMB.out.fm.kept (hal1.block _ HMB.out.size)) (gb_below hal1))
  have HTX := Lib.hid (wal_text n1 ⟨#[115, 101, 99, 114, 101, 116]⟩ l1 rest A5 m c5 w1.heap.size (fun g => w.heap.size + 3 ≤ g ∧ g < b6) (w1.alloc (.cells #[.slice A5 m c5] 81)) HM.out (by have := HM.out; have := HRL.out; omega) HC5.out hb10 HMB1.out.ap.mem (fun g hg => ⟨by have := HMB1.out.ap.size; have := hg.2; omega, by have := HMB.out.ap.size; have := hg.2; omega⟩))
  clear hb10 hal1 s0 s1 s2 s3 i0 i1 i2 i3
  have hz10 : ∀ W : World, (zeroValue 77).run Try.prog W = .ok .nilFunc W := fun W => by kernel_rfl
  obtain ⟨b10, hb10⟩ : ∃ b, w1.heap.size = b := ⟨_, rfl⟩
  have hl10 : w7.heap.size < b10 := by have := HMB.out.size; omega
  have hl6 : b6 < b10 := by have := HMB.out.ap.size; omega
  have hz1 : (w1.alloc (.cells #[.slice A5 m c5] 81)).heap.size = b10 + 1 := by rw [World.size_alloc, hb10]
  have HL10 := Lib.hid (And.intro hl10 (And.intro hl6 hz1))
  clear hl10 hl6 hz1
  rw [hb10] at HTX
  rw [hb10]
  clear hb10
  go_upto_region 11 with (go_at_call 34; (with_reducible refine HTX.out.mono ?_); rintro o w9 ⟨A9, c9, rfl, h1, h2, h3, h4⟩; have HMB9 := Lib.hid (HMB1.out.ap.grown HS.out h4 HL10.out.2.1); have hlk := (HMB1.out.fm.kept (h4.block _ HMB1.out.size (fun e => by have := HL10.out.1; injection e; omega))).look Try.underlying78 (hz10 w9) ⟨#[115, 101, 99, 114, 101, 116]⟩ (by decide) (.func (.func 27) #[.agg #[.string sec, .slice Aa na ca, .slice Ah nh ch, .slice Au nu cu]] #[]) (by rfl) (by rfl); have HE9 := Lib.hid (HEFF.out w9 A9 c9 b10 _ S h1 h3 h2 (fun g hg => ⟨by have := HMB9.out.size; have := hg.2; omega, by have := HL10.out.2.1; have := hg.2; omega⟩) HMB9.out.src (fun g hg => ⟨Nat.lt_of_lt_of_le (HS.out g hg) HMB9.out.bel.size, by have := HS.out g hg; have := HL10.out.2.1; have := HMB9.out.lo; omega⟩)); have HG9 := Lib.hid h4; clear h1 h2 h3 h4)
  go_wp2_with (go_at_call 27; (with_reducible refine HE9.out.mono ?_); rintro o w10 ⟨B1, m1, d1, B2, m2, d2, B3, m3, d3, rfl, k1, k2, k3, hmem, hg10⟩; have HMA := Lib.hid (HMB9.out.grown HS.out hg10 HL10.out.2.1); have HG10 := Lib.hid hg10; have HK := Lib.hid (And.intro k1 (And.intro k2 k3)); have HMM := Lib.hid hmem; obtain ⟨⟨r0, r1, r2, r3⟩, ⟨g0, g1, g2, g3⟩, r4, g4⟩ := HMA.out.rc; clear k1 k2 k3 hmem hg10)
  refine leaves_cons (f := 26) (args := #[.pointer (some ⟨w.heap.size + 1, 0, none⟩), .pointer (some ⟨w.heap.size + 1 + 1, 0, none⟩)]) (by simp) (by simp [go_sem]) ?_
  obtain ⟨W, hW⟩ : ∃ W, (((((w10.setCell ⟨w.heap.size + 1, 0, none⟩ (.string sec')).setCell ⟨w.heap.size + 1, 1, none⟩ (.slice B1 m1 d1)).setCell ⟨w.heap.size + 1, 2, none⟩ (.slice B2 m2 d2)).setCell ⟨w.heap.size + 1, 3, none⟩ (.slice B3 m3 d3)).setCell ⟨w.heap.size + 1 + 1, 0, none⟩ (.int .i64 0)) = W := ⟨_, rfl⟩
  have HF := HMA.out.fin (B := w9.heap.size) (by have := HMB9.out.size; have := HMB9.out.lo; omega) HMM.out (.string sec') (.slice B1 m1 d1) (.slice B2 m2 d2) (.slice B3 m3 d3) hW
  rw [hW]
  clear hW
  refine (apply_idle _ _ _).mono ?_
  rintro e u' w12 ⟨rfl, rfl, rfl⟩
  obtain ⟨⟨z0, z1, z2, z3⟩, z4, hm12, hb12⟩ := HF
  simp [Leaves, settle, results, Try.results12, go_sem, z0, z1, z2, z3, z4]
  exact ⟨B1, m1, d1, B2, m2, d2, B3, m3, d3, rfl, HK.out.1, HK.out.2.1, HK.out.2.2, hm12, hb12⟩
theorem isU_same (sc : ByteArray) (z c : Int) : isU sc z (sc, z, c) = true := by unfold isU; simp
theorem isU_off (sc sc' : ByteArray) (z z' c : Int) (h : z' ≠ z) : isU sc z (sc', z', c) = false := by unfold isU; simp [h]
theorem cnt_one (sc : ByteArray) (z c : Int) : cntU (isU sc z) [(sc, z, c)] = c := by unfold cntU; simp [List.find?, isU_same]
theorem cnt_not {f : Uz → Bool} {u : Uz} (h : f u = false) : cntU f [u] = 0 := by unfold cntU; simp [List.find?, h]
theorem put_one (sc : ByteArray) (z c c' : Int) : putU (sc, z, c') [(sc, z, c)] = [(sc, z, c')] := by unfold putU; simp [isU_same]
theorem val_nil {sec : ByteArray} (h : valid sec = true) : validW sec [] [] [] = true := by
  unfold validW
  simp [validA, validU, h]
theorem val_one {sec : ByteArray} {sc : ByteArray} {z c : Int} (h : valid sec = true) (hc : 1 ≤ c) : validW sec [] [] [(sc, z, c)] = true := by
  unfold validW
  have : ¬ c < 1 := by omega
  simp [validA, validU, h, this]
theorem ok_nil : WalOk [] [] [] := ⟨by decide, by decide, by decide, by simp, by simp, by simp⟩
theorem ok_one {sc : ByteArray} {z c : Int} (h : sc.size ≤ 100000) (hz : (Lit.int .i64 z).wf = true) : WalOk [] [] [(sc, z, c)] := ⟨by decide, by decide, show 1 < 4096 by decide, by simp, by simp, by simp [h, hz]⟩
/-- A wallet's box, and the wallet. -/
structure AwB (w : World) (sec : ByteArray) (A1 : Option Addr) (n1 c1 : Nat) (A2 : Option Addr) (n2 c2 : Nat) (A3 : Option Addr) (n3 c3 : Nat) (us : List Uz) (b1 : Nat) (wx : World) : Prop where
  box : wx.heap[b1]? = some (.cells #[.string sec, .slice A1 n1 c1, .slice A2 n2 c2, .slice A3 n3 c3] 28 (0, 0))
  mem : WalM wx (fun g => w.heap.size ≤ g ∧ g < wx.heap.size ∧ g ≠ b1) [] [] us A1 A2 A3
  l1 : n1 = 0
  l2 : n2 = 0
  l3 : n3 = us.length
  bel : Below w.heap.size w wx
  lo : w.heap.size ≤ b1
  lt : b1 < wx.heap.size
section
variable {w wx w' : World} {sec : ByteArray} {A1 A2 A3 : Option Addr} {n1 n2 n3 c1 c2 c3 : Nat} {us : List Uz} {b1 : Nat}
theorem AwB.next (h : AwB w sec A1 n1 c1 A2 n2 c2 A3 n3 c3 us b1 wx) (hb : Below wx.heap.size wx w') : AwB w sec A1 n1 c1 A2 n2 c2 A3 n3 c3 us b1 w' :=
  ⟨(hb.block _ h.lt).trans h.box, (h.mem.keep (fun p hp => hb.cell hp.2.1)).mono (fun g hg => ⟨hg.1, Nat.lt_of_lt_of_le hg.2.1 hb.size, hg.2.2⟩), h.l1, h.l2, h.l3, below2 h.bel hb, h.lo, Nat.lt_of_lt_of_le h.lt hb.size⟩
theorem AwB.alloc (h : AwB w sec A1 n1 c1 A2 n2 c2 A3 n3 c3 us b1 wx) (o : Obj) : AwB w sec A1 n1 c1 A2 n2 c2 A3 n3 c3 us b1 (wx.alloc o) := h.next ((Below.refl _ _).alloc (Nat.le_refl _) _)
theorem AwB.bc (h : AwB w sec A1 n1 c1 A2 n2 c2 A3 n3 c3 us b1 wx) : (wx.cell? ⟨b1, 0, none⟩ = some (.string sec) ∧ wx.cell? ⟨b1, 1, none⟩ = some (.slice A1 n1 c1) ∧ wx.cell? ⟨b1, 2, none⟩ = some (.slice A2 n2 c2) ∧ wx.cell? ⟨b1, 3, none⟩ = some (.slice A3 n3 c3)) ∧ (wx.frozen? ⟨b1, 0, none⟩ = false ∧ wx.frozen? ⟨b1, 1, none⟩ = false ∧ wx.frozen? ⟨b1, 2, none⟩ = false ∧ wx.frozen? ⟨b1, 3, none⟩ = false) :=
  ⟨⟨cell_of_row wx _ 0 _ _ _ h.box, cell_of_row wx _ 1 _ _ _ h.box, cell_of_row wx _ 2 _ _ _ h.box, cell_of_row wx _ 3 _ _ _ h.box⟩, frozen_of_row wx _ 0 _ _ h.box, frozen_of_row wx _ 1 _ _ h.box, frozen_of_row wx _ 2 _ _ h.box, frozen_of_row wx _ 3 _ _ h.box⟩
theorem AwB.start {W : World} (hb : Below w.heap.size w W) (l1 : n1 = 0) (l2 : n2 = 0) (l3 : n3 = us.length) (hm : WalM W (fun g => w.heap.size ≤ g ∧ g < W.heap.size) [] [] us A1 A2 A3) :
    AwB w sec A1 n1 c1 A2 n2 c2 A3 n3 c3 us W.heap.size (W.alloc (.cells #[.string sec, .slice A1 n1 c1, .slice A2 n2 c2, .slice A3 n3 c3] 28)) :=
  have hal : Below W.heap.size W (W.alloc (.cells #[.string sec, .slice A1 n1 c1, .slice A2 n2 c2, .slice A3 n3 c3] 28)) := (Below.refl _ _).alloc (Nat.le_refl _) _
  ⟨heap_alloc_new W _, (hm.keep (fun p hp => hal.cell hp.2)).mono (fun g hg => ⟨hg.1, by simp; have := hg.2; omega, by have := hg.2; omega⟩), l1, l2, l3, below2 hb hal, hb.size, by simp⟩
/-- The box is written with another wallet. -/
theorem AwB.put {B1 B2 B3 : Option Addr} {m1 m2 m3 d1 d2 d3 : Nat} {us' : List Uz} (h : AwB w sec A1 n1 c1 A2 n2 c2 A3 n3 c3 us b1 wx) {S : Nat → Prop} (hm : WalM wx S [] [] us' B1 B2 B3) (hS : ∀ g, S g → w.heap.size ≤ g ∧ g < wx.heap.size ∧ g ≠ b1) (l1 : m1 = 0) (l2 : m2 = 0) (l3 : m3 = us'.length) :
    AwB w sec B1 m1 d1 B2 m2 d2 B3 m3 d3 us' b1 ((((wx.setCell ⟨b1, 0, none⟩ (.string sec)).setCell ⟨b1, 1, none⟩ (.slice B1 m1 d1)).setCell ⟨b1, 2, none⟩ (.slice B2 m2 d2)).setCell ⟨b1, 3, none⟩ (.slice B3 m3 d3)) := by
  have hlo := h.lo
  have o : ∀ g, g ≠ b1 → ((((wx.setCell ⟨b1, 0, none⟩ (.string sec)).setCell ⟨b1, 1, none⟩ (.slice B1 m1 d1)).setCell ⟨b1, 2, none⟩ (.slice B2 m2 d2)).setCell ⟨b1, 3, none⟩ (.slice B3 m3 d3)).heap[g]? = wx.heap[g]? := fun g hg => by
    rw [heap_setCell_other _ _ _ _ hg, heap_setCell_other _ _ _ _ hg, heap_setCell_other _ _ _ _ hg, heap_setCell_other _ _ _ _ hg]
  have e0 := heap_setCell_same wx b1 0 _ _ (.string sec) h.box
  have e1 := heap_setCell_same _ b1 1 _ _ (.slice B1 m1 d1) e0
  have e2 := heap_setCell_same _ b1 2 _ _ (.slice B2 m2 d2) e1
  have e3 := heap_setCell_same _ b1 3 _ _ (.slice B3 m3 d3) e2
  refine ⟨e3, (hm.keep (fun p hp => World.cell?_of_block (o _ (hS _ hp).2.2))).mono (fun g hg => ?_), l1, l2, l3, (((h.bel.setCell (p := ⟨b1, 0, none⟩) hlo _).setCell (p := ⟨b1, 1, none⟩) hlo _).setCell (p := ⟨b1, 2, none⟩) hlo _).setCell (p := ⟨b1, 3, none⟩) hlo _, h.lo, by simpa using h.lt⟩
  have := hS g hg
  exact ⟨this.1, by simpa using this.2.1, this.2.2⟩
end
/-- What Use hands back. -/
def UsGot (W : World) (sec : ByteArray) (n : Int) (us : List Uz) (o : Ending) (w' : World) : Prop :=
  ∃ A1 n1 c1 A2 n2 c2 A3 n3 c3 s, o = .returned (.tuple #[.agg #[.string sec, .slice A1 n1 c1, .slice A2 n2 c2, .slice A3 n3 c3], .int .i64 n, .string s, .int .i64 0]) ∧ n1 = 0 ∧ n2 = 0 ∧ n3 = us.length ∧ WalM w' (fun g => W.heap.size ≤ g ∧ g < w'.heap.size) [] [] us A1 A2 A3 ∧ Below W.heap.size W w'
theorem AwB.use {w wx : World} {sec : ByteArray} {A1 A2 A3 : Option Addr} {n1 n2 n3 c1 c2 c3 : Nat} {us : List Uz} {b1 : Nat} (h : AwB w sec A1 n1 c1 A2 n2 c2 A3 n3 c3 us b1 wx) (sc : ByteArray) (z lim n : Int) (us' : List Uz) (ho : WalOk [] [] us) (hv : validW sec [] [] us = true) (hcn : cntU (isU sc z) us = n) (hp : putU (sc, z, n + 1) us = us') (h0 : 0 ≤ n) (hl : n < lim) (hl2 : lim ≤ 9223372036854775807) (hz : -9223372036854775808 ≤ z ∧ z ≤ 9223372036854775807) (hsc : sc.size ≤ 50000) :
    Calls Try.prog 7 #[.agg #[.string sec, .slice A1 n1 c1, .slice A2 n2 c2, .slice A3 n3 c3], .string sc, .int .i64 z, .int .i64 lim] wx (UsGot wx sec n us') := by
  subst hcn hp
  refine (wal_Use_ok sec [] [] us A1 A2 A3 n1 c1 n2 c2 n3 c3 sc z lim _ wx h.l1.symm h.l2.symm h.l3.symm ho hv h0 hl hl2 hz hsc h.mem (fun g hg => hg.2.1)).mono ?_
  rintro e w' ⟨B1, d1, B2, d2, B3, m3, d3, rfl, hm3, hm, hb⟩
  exact ⟨B1, n1, d1, B2, n2, d2, B3, m3, d3, _, rfl, h.l1, h.l2, hm3, hm, hb⟩
theorem AwB.lim {w wx : World} {sec : ByteArray} {A1 A2 A3 : Option Addr} {n1 n2 n3 c1 c2 c3 : Nat} {us : List Uz} {b1 : Nat} (h : AwB w sec A1 n1 c1 A2 n2 c2 A3 n3 c3 us b1 wx) (sc : ByteArray) (z lim : Int) (ho : WalOk [] [] us) (hv : validW sec [] [] us = true) (hl : lim ≤ cntU (isU sc z) us) :
    Calls Try.prog 7 #[.agg #[.string sec, .slice A1 n1 c1, .slice A2 n2 c2, .slice A3 n3 c3], .string sc, .int .i64 z, .int .i64 lim] wx fun e w' => e = .returned (.tuple #[.agg #[.string ⟨#[]⟩, .slice none 0 0, .slice none 0 0, .slice none 0 0], .int .i64 0, .string ⟨#[]⟩, .int .i64 24]) ∧ Below wx.heap.size wx w' :=
  wal_Use_lim sec [] [] us A1 A2 A3 n1 c1 n2 c2 n3 c3 sc z lim _ wx h.l1.symm h.l2.symm h.l3.symm ho hv hl h.mem (fun g hg => hg.2.1)
end Go.Proofs.Ytlheedcnmfekoaa
