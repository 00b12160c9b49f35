/- The walks of the reference's package 06 (coins): Below, Same. -/
import Derived.Test.YteifbhmfjchfjaaGreatDoorCC
import Derived.Test.YteifbhmfjchfjaaGreatDoorZM4
namespace Go.Proofs.YteifbhmfjchfjaaGreatDoor
open Go.RowKit
set_option maxRecDepth 100000
set_option linter.unusedVariables false
set_option maxHeartbeats 4000000

theorem r06_Below (vals : List ByteArray) (A : Option Addr) (n c : Nat) (seed : ByteArray) (z : Int) (m : Nat) (w : World) (hn : vals.length = n) (hm : n ≤ 1000) (h : SLs w w.heap.size A vals)
    (hm0 : 1 ≤ m) (hm1 : m < 18446744073709551616) (hs : seed.size ≤ 100000) :
    Calls Tryz.prog 94 #[.agg #[.slice A n c, .string seed, .int .i64 z], .string (B m)] w fun e w' => drawPostR w.heap.size (belowS vals seed z m) n seed z vals e w' ∧ Below w.heap.size w w' := by
  have HA0 := Lib.hid (AtB.start w A n c seed z)
  have hsz0 : ((w.alloc (.cells #[.slice A n c, .string seed, .int .i64 z] 24)).alloc (.cells #[.slice none 0 0, .string ⟨#[]⟩, .int .i64 0] 24)).heap.size = w.heap.size + 2 := by rw [World.size_alloc, World.size_alloc]
  have KG := fun wq (h1 : Below w.heap.size w wq) => r06_Good vals A n c seed z wq hn (Nat.le_trans hm (by decide)) ((h.below h1).more h1.size)
  have KV := Lib.hid (fun w => r01_Valid (B m) w)
  rw [valid_B (Nat.lt_trans hm1 (by decide))] at KV
  have eB : (B m).toList.isEmpty = false := B_isEmpty_false (by omega)
  have HZ0 := Lib.hid hsz0
  cases hg : goodT vals z
  · rw [hg] at KG
    have KG := Lib.hid KG
    have hd : belowS vals seed z m = (3, 0) := by unfold belowS; rw [hg]; rfl
    have HD := Lib.hid hd
    clear hn h hs hd hg hm0 hm1 hsz0
    go_enter Tryz.func94, Tryz.ntmps94
    go_wp2_with (first
      | (go_at_call 72; (with_reducible refine (KG.out _ HA0.out.bel).mono ?_); rintro e w1 ⟨rfl, hb1⟩
         have HA1 := Lib.hid (HA0.out.next hb1)
         obtain ⟨r0, r1, r2, g0, g1, g2⟩ := HA1.out.r0
         clear hb1))
    refine bodyPost_ret (v := .tuple #[.string ⟨#[]⟩, .agg #[.slice none 0 0, .string ⟨#[]⟩, .int .i64 0], .int .i64 3]) (by simp [results, Tryz.results94, go_sem, r0, r1, r2]) rfl ⟨.inr ⟨by rw [HD.out]; decide, by rw [HD.out]⟩, HA1.out.bel3⟩
  · rw [hg] at KG
    have KG := Lib.hid KG
    have hd : belowS vals seed z m = drawS vals seed z m := by unfold belowS; rw [hg]; rfl
    have KD := fun wq (h1 : Below w.heap.size w wq) => r06_draw vals A n c seed z m wq hn hm ((h.below h1).more h1.size) hg hm0 hm1 hs
    obtain ⟨d, hdd⟩ : ∃ d, d = drawS vals seed z m := ⟨_, rfl⟩
    rw [← hdd] at KD hd
    have HD := Lib.hid hd
    clear hn h hs hd hg hm0 hm1 hdd hsz0
    by_cases h0 : d.1 = 0
    · have KE : Hid (∀ wq, Below w.heap.size w wq → Calls Tryz.prog 162 #[.agg #[.slice A n c, .string seed, .int .i64 z], .string (B m)] wq fun e w' => (∃ A' c', e = .returned (.tuple #[.string (B d.2), .agg #[.slice A' n c', .string seed, .int .i64 (z + 1)], .int .i64 0]) ∧ SLs w' w'.heap.size A' vals ∧ ∀ a, A' = some a → wq.heap.size ≤ a.block) ∧ Below wq.heap.size wq w') := Lib.hid (fun wq h1 => (KD wq h1).mono (by
        rintro e w' ⟨⟨_, hp⟩ | ⟨h, _⟩, hb⟩
        · exact ⟨hp, hb⟩
        · exact absurd h0 h))
      have H0 := Lib.hid h0
      clear h0 KD
      go_enter Tryz.func94, Tryz.ntmps94
      go_wp2_with (first
        | (go_at_call 72; (with_reducible refine (KG.out _ HA0.out.bel).mono ?_); rintro e w1 ⟨rfl, hb1⟩
           have HA1 := Lib.hid (HA0.out.next hb1)
           have HS1 := Lib.hid (show w.heap.size + 2 ≤ w1.heap.size by have := hb1.size; have := HZ0.out; omega)
           have t0 := HA1.out.t0
           have t1 := HA1.out.t1
           have t2 := HA1.out.t2
           clear hb1)
        | (go_at_call 114; (with_reducible refine (KV.out _).mono ?_); rintro e w4 ⟨rfl, rfl⟩)
        | (go_at_call 162; (with_reducible refine (KE.out _ HA1.out.bel).mono ?_); rintro e w2 ⟨⟨A', c', rfl, hsl, hfr⟩, hb2⟩
           have HA2 := Lib.hid (HA1.out.next hb2)
           have HSL := Lib.hid hsl
           have HFR := Lib.hid hfr
           obtain ⟨r0, r1, r2, g0, g1, g2⟩ := HA2.out.r0
           clear hb2 hsl hfr))
      refine bodyPost_ret (v := .tuple #[.string (B d.2), .agg #[.slice A' n c', .string seed, .int .i64 (z + 1)], .int .i64 0]) (by simp [results, Tryz.results94, go_sem, r0, r1, r2]) rfl ⟨.inl ⟨by rw [HD.out]; exact H0.out, A', c', by rw [HD.out], ?_⟩, HA2.out.bel3⟩
      have hsl := HSL.out.far3 (b := w.heap.size + 1) (x := .slice A' n c') (y := .string seed) (t := .int .i64 (z + 1)) (fun a ha e => by have := HFR.out a ha; have := HS1.out; omega)
      exact ⟨by simpa using hsl, fun a ha => by have := HFR.out a ha; have := HS1.out; omega⟩
    · have KE : Hid (∀ wq, Below w.heap.size w wq → Calls Tryz.prog 162 #[.agg #[.slice A n c, .string seed, .int .i64 z], .string (B m)] wq fun e w' => e = .returned (.tuple #[.string ⟨#[]⟩, .agg #[.slice none 0 0, .string ⟨#[]⟩, .int .i64 0], .int .i64 d.1]) ∧ Below wq.heap.size wq w') := Lib.hid (fun wq h1 => (KD wq h1).mono (by
        rintro e w' ⟨⟨h, _⟩ | ⟨_, hp⟩, hb⟩
        · exact absurd h h0
        · exact ⟨hp, hb⟩))
      have H0 := Lib.hid h0
      clear h0 KD
      go_enter Tryz.func94, Tryz.ntmps94
      go_wp2_with (first
        | (go_at_call 72; (with_reducible refine (KG.out _ HA0.out.bel).mono ?_); rintro e w1 ⟨rfl, hb1⟩
           have HA1 := Lib.hid (HA0.out.next hb1)
           have t0 := HA1.out.t0
           have t1 := HA1.out.t1
           have t2 := HA1.out.t2
           clear hb1)
        | (go_at_call 114; (with_reducible refine (KV.out _).mono ?_); rintro e w4 ⟨rfl, rfl⟩)
        | (go_at_call 162; (with_reducible refine (KE.out _ HA1.out.bel).mono ?_); rintro e w2 ⟨rfl, hb2⟩
           have HA2 := Lib.hid (HA1.out.next hb2)
           obtain ⟨r0, r1, r2, g0, g1, g2⟩ := HA2.out.r0
           clear hb2))
      refine bodyPost_ret (v := .tuple #[.string ⟨#[]⟩, .agg #[.slice none 0 0, .string ⟨#[]⟩, .int .i64 0], .int .i64 d.1]) (by simp [results, Tryz.results94, go_sem, r0, r1, r2]) rfl ⟨.inr ⟨by rw [HD.out]; exact H0.out, by rw [HD.out]⟩, HA2.out.bel3⟩

end Go.Proofs.YteifbhmfjchfjaaGreatDoor
