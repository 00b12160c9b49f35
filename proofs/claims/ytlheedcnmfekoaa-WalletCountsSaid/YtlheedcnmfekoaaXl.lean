/- Wallet: Use at its limit. -/
import Derived.Test.YtlheedcnmfekoaaXk
namespace Go.Proofs.Ytlheedcnmfekoaa
open Go.RowKit
set_option maxRecDepth 100000
set_option linter.unusedVariables false
set_option maxHeartbeats 8000000

theorem wal_Use_lim (sec : ByteArray) (qs : List Az) (hs : List Hz) (us : List Uz) (Aa Ah Au : Option Addr) (na ca nh ch nu cu : Nat) (sc : ByteArray) (z lim : Int) (S : Nat → Prop) (w : World) (hq : qs.length = na) (hn : hs.length = nh) (hu : us.length = nu) (ho : WalOk qs hs us) (hval : validW sec qs hs us = true) (hlt : lim ≤ cntU (isU sc z) us) (h : WalM w S qs hs us Aa Ah Au) (hS : ∀ g, S g → g < w.heap.size) :
    Calls Try.prog 7 #[.agg #[.string sec, .slice Aa na ca, .slice Ah nh ch, .slice Au nu cu], .string sc, .int .i64 z, .int .i64 lim] w fun e w' => e = .returned (.tuple #[.agg #[.string ⟨#[]⟩, .slice none 0 0, .slice none 0 0, .slice none 0 0], .int .i64 0, .string ⟨#[]⟩, .int .i64 24]) ∧ Below w.heap.size w w' := by
  have HV := Lib.hid (fun W (hb : Below w.heap.size w W) => wal_valid sec qs hs us Aa Ah Au na ca nh ch nu cu S W hq hn hu (by have := ho.na; omega) (by have := ho.nh; omega) (by have := ho.nu; omega) ho.nonce ho.att ho.scope (h.keep (fun q hq => hb.cell (hS _ hq))) (fun g hg => Nat.lt_of_lt_of_le (hS g hg) hb.size))
  rw [hval] at HV
  have HCN := Lib.hid (fun W (hb : Below w.heap.size w W) => wal_count us Au nu cu S sec Aa Ah na ca nh ch sc z W hu (by have := ho.nu; omega) (h.keep (fun q hq => hb.cell (hS _ hq))).u (fun g hg => Nat.lt_of_lt_of_le (hS g hg) hb.size))
  obtain ⟨n, hcnt⟩ : ∃ n, cntU (isU sc z) us = n := ⟨_, rfl⟩
  rw [hcnt] at HCN hlt
  have kl : decide (lim ≤ n) = true := decide_eq_true hlt
  have HCP := Lib.hid (CpB.start (w := w) (sec := sec) (Aa := Aa) (na := na) (ca := ca) (Ah := Ah) (nh := nh) (ch := ch) (Au := Au) (nu := nu) (cu := cu))
  clear h hS hq hn hu ho hval hcnt
  go_enter Try.func7, Try.ntmps7
  go_wp2_with (first
    | (go_at_call 13; (with_reducible refine (HV.out _ HCP.out.bel).mono ?_); rintro e w1 ⟨rfl, hb1⟩; have HC1 := Lib.hid (HCP.out.next hb1); obtain ⟨⟨x0, x1, x2, x3⟩, y0, y1, y2, y3⟩ := HC1.out.bc; clear hb1)
    | (go_at_call 14; (with_reducible refine (HCN.out _ HC1.out.bel).mono ?_); rintro e w2 ⟨rfl, hb2⟩; have HC2 := Lib.hid (HC1.out.next hb2); obtain ⟨⟨r0, r1, r2, r3⟩, g0, g1, g2, g3⟩ := HC2.out.rc; clear hb2))
  refine bodyPost_ret (v := .tuple #[.agg #[.string ⟨#[]⟩, .slice none 0 0, .slice none 0 0, .slice none 0 0], .int .i64 0, .string ⟨#[]⟩, .int .i64 24]) (by simp [results, Try.results7, go_sem, r0, r1, r2, r3]) rfl ?_
  have hl : w.heap.size ≤ w.heap.size + 1 := Nat.le_succ _
  exact ⟨rfl, (((HC2.out.bel.setCell (p := ⟨w.heap.size + 1, 0, none⟩) hl _).setCell (p := ⟨w.heap.size + 1, 1, none⟩) hl _).setCell (p := ⟨w.heap.size + 1, 2, none⟩) hl _).setCell (p := ⟨w.heap.size + 1, 3, none⟩) hl _⟩

end Go.Proofs.Ytlheedcnmfekoaa
