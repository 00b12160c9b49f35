/- Words for a tape's fresh box in a region that draws its order. The walk of shamir.Split, where every draw goes through. -/
import Derived.Test.YtapplggboepfaaaGreatDoorZM2
import Derived.Deep.DeepCutAuto
import Derived.Deep.CutBlock
import Derived.Deep.RegionHeld3
import Derived.Test.YtapplggboepfaaaGreatDoorSJ
import Derived.Test.YtapplggboepfaaaGreatDoorYG
namespace Go.Proofs.YtapplggboepfaaaGreatDoor
open Go.RowKit

theorem putZ {P Q : Prop} (p : P) (k : P → Q) : Q := k p
structure ZBx (w : World) (g : Nat) : Prop where
  n0 : w.cell? ⟨g, 0, none⟩ = some (.slice none 0 0)
  n1 : w.cell? ⟨g, 1, none⟩ = some (.string ⟨#[]⟩)
  n2 : w.cell? ⟨g, 2, none⟩ = some (.int .i64 0)
  f0 : w.frozen? ⟨g, 0, none⟩ = false
  f1 : w.frozen? ⟨g, 1, none⟩ = false
  f2 : w.frozen? ⟨g, 2, none⟩ = false
theorem ZBx.lt {w : World} {g : Nat} (h : ZBx w g) : g < w.heap.size := cell_in (a := ⟨g, 0, none⟩) h.n0
theorem ZBx.of {B : Nat} {w w' : World} {g : Nat} (hb : Below B w w') (hg : g < B) (h : ZBx w g) : ZBx w' g :=
  ⟨(hb.cell (p := ⟨g, 0, none⟩) hg).trans h.n0, (hb.cell (p := ⟨g, 1, none⟩) hg).trans h.n1, (hb.cell (p := ⟨g, 2, none⟩) hg).trans h.n2, (hb.frozen (p := ⟨g, 0, none⟩) hg).trans h.f0, (hb.frozen (p := ⟨g, 1, none⟩) hg).trans h.f1, (hb.frozen (p := ⟨g, 2, none⟩) hg).trans h.f2⟩
theorem SLs.farZ {w : World} {b k : Nat} {A : Option Addr} {vals : List ByteArray} {x y t : Value} (hs : SLs w k A vals) (hb : ∀ a, A = some a → b ≠ a.block) :
    SLs (((w.setCell ⟨b, 0, none⟩ x).setCell ⟨b, 1, none⟩ y).setCell ⟨b, 2, none⟩ t) k A vals := by
  intro hne
  obtain ⟨ad, e, hb', hc⟩ := hs hne
  exact ⟨ad, e, hb', fun j hj => hop3 (a := ad.add j) (by have := hb ad e; rwa [show (ad.add j).block = ad.block by unfold Addr.add; split <;> rfl]) (hc j hj)⟩

end Go.Proofs.YtapplggboepfaaaGreatDoor

namespace Go.Proofs.YtapplggboepfaaaGreatDoor
open Go.RowKit
set_option maxRecDepth 100000
set_option linter.unusedVariables false
set_option linter.unusedSimpArgs false
set_option maxHeartbeats 4000000

/-- The shares. -/
def shrL (Q count : Nat) (cs : List Nat) : List ByteArray := (List.range count).map fun i => B (valL Q (i + 1) cs)
theorem shrL_snoc (Q k : Nat) (cs : List Nat) : shrL Q (k + 1) cs = shrL Q k cs ++ [B (valL Q (k + 1) cs)] := by
  unfold shrL; rw [List.range_succ, List.map_append]; rfl
theorem AtS.drew {w wx : World} {A : Option Addr} {n c : Nat} {seed : ByteArray} {z : Int} (h : AtS w wx A n c seed z) : AtS w wx.drew A n c seed z := h.next (Below.refl _ _).drew
theorem AtS.alloc {w wx : World} {A : Option Addr} {n c : Nat} {seed : ByteArray} {z : Int} (h : AtS w wx A n c seed z) (o : Obj) : AtS w (wx.alloc o) A n c seed z := h.next ((Below.refl _ _).alloc (Nat.le_refl _) _)
theorem AtS.boxes {w wx : World} {A : Option Addr} {n c g : Nat} {seed : ByteArray} {z : Int} {x y t : Value} (h : AtS w wx A n c seed z) (hg : w.heap.size + 2 ≤ g) : AtS w (((wx.setCell ⟨g, 0, none⟩ x).setCell ⟨g, 1, none⟩ y).setCell ⟨g, 2, none⟩ t) A n c seed z :=
  h.nextB ((((Below.refl (w.heap.size + 2) wx).setCell (p := ⟨g, 0, none⟩) hg x).setCell (p := ⟨g, 1, none⟩) hg y).setCell (p := ⟨g, 2, none⟩) hg t)
theorem shE_one {Q S : Nat} (hE : isE (B Q) = 0) (hS : S < lim) : shE (B Q) [[B S]] = 0 := by
  unfold shE
  simp [valid_B hS, hE]
theorem sub64 {need count Q : Nat} (h : 1 ≤ need ∧ need ≤ count ∧ count ≤ 255 ∧ count < Q) : wrap64 ((need : Int) - 1) = ((need - 1 : Nat) : Int) := by
  rw [IntWalk.wrap64_in _ (by omega)]; omega
theorem coinsL_ltQ {vals : List ByteArray} {seed : ByteArray} {m : Nat} {z : Int} {t : Nat} (hm : 1 ≤ m) (hok : ∀ i, i < t → (belowS vals seed (z + (i : Nat)) m).1 = 0) : ∀ a ∈ coinsL vals seed m z t, a < m := by
  intro a ha
  unfold coinsL at ha
  obtain ⟨i, hi, rfl⟩ := List.mem_map.1 ha
  exact belowS_lt hm (hok i (List.mem_range.1 hi))
theorem ofk {k : Nat} (h : k < 256) : IntKind.u64.wrap (wrap64 ((k : Int) + 1)) = ((k + 1 : Nat) : Int) := by
  rw [IntWalk.wrap64_in _ (by omega), IntKind.wrap_u64]; omega
theorem shamir_Split_ok (Q S need count : Nat) (vals : List ByteArray) (A : Option Addr) (n c : Nat) (seed : ByteArray) (z : Int) (w : World) (hE : isE (B Q) = 0) (hS : S < Q) (h1 : 1 ≤ need) (h2 : need ≤ count) (h3 : count ≤ 255) (h4 : count < Q)
    (hn : vals.length = n) (hm : n ≤ 1000) (h : SLs w w.heap.size A vals) (hg : goodT vals z = true) (hs : seed.size ≤ 100000) (hT10 : Tab10 w) (hT : Tab w) (hok : ∀ i, i < need - 1 → (belowS vals seed (z + (i : Nat)) Q).1 = 0) :
    Calls Tryz.prog 8 #[.string (B Q), .string (B S), .int .i64 need, .int .i64 count, .agg #[.slice A n c, .string seed, .int .i64 z]] w fun e w' => (∃ A' c' At nt ct sdt zt, e = .returned (.tuple #[.slice A' count c', .agg #[.slice At nt ct, .string sdt, .int .i64 zt], .int .i64 0]) ∧ SLs w' w'.heap.size A' (shrL Q count (S :: coinsL vals seed Q z (need - 1)))) ∧ Below w.heap.size w w' := by
  have hQ := isE_zero hE
  rw [num_B] at hQ
  have hQ64 := hQ.lt
  have hlim : S < lim := k_lim (by omega)
  have KM1 : Hid (∀ wq, Below w.heap.size w wq → Calls Tryz.prog 25 #[.agg #[.slice A n c, .string seed, .int .i64 z], .string (B 1), .int .i64 0] wq fun e w' => (∃ A' n' c' At ct sdt zt nt, e = .returned (.tuple #[.slice A' n' c', .agg #[.slice At nt ct, .string sdt, .int .i64 zt], .int .i64 0])) ∧ Below wq.heap.size wq w') := Lib.hid fun wq h1 => (coins_Many vals A n c seed z 1 0 wq hn hm (h.to h1) hg (by decide) (by decide) hs (hT10.below h1) (by decide) (fun i hi => absurd hi (Nat.not_lt_zero _))).mono (by
    rintro e w' ⟨⟨A', c', At, ct, sdt, zt, nt, rfl, _⟩, hb⟩
    exact ⟨⟨_, _, _, _, _, _, _, _, rfl⟩, hb⟩)
  have KM2' := (fun wq (h0 : Below w.heap.size w wq) => coins_Many vals A n c seed z Q (need - 1) wq hn hm (h.to h0) hg (by omega) hQ64 hs (hT10.below h0) (by omega) hok)
  have KM2 := Lib.hid (fun (y : Int) wq (h0 : Below w.heap.size w wq) (hy : y = ((need - 1 : Nat) : Int)) => hy ▸ KM2' wq h0)
  have KO : Hid (∀ w, Calls Tryz.prog 26 #[.int .u64 (IntKind.u64.wrap (count : Int))] w fun e w' => e = .returned (.string (B count)) ∧ Below w.heap.size w w') := Lib.hid fun w => natural_Of' _ count w (by rw [IntKind.wrap_u64]; omega) (by omega)
  have KC : Hid (∀ wq, Below w.heap.size w wq → ∀ T1 T2, Calls Tryz.prog 27 #[.string (B Q), .slice (some ⟨wq.heap.size + 1, 0, none⟩) 1 1] ((wq.alloc (.cells #[.string (B S)] T1)).alloc (.cells #[.slice (some ⟨wq.heap.size, 0, none⟩) 1 1] T2)) fun e w' => e = .returned (.int .i64 0) ∧ Below wq.heap.size wq w') := Lib.hid fun wq h1 T1 T2 => by
    have := check_oneL (B Q) [B S] (some ⟨wq.heap.size, 0, none⟩) 1 1 (wq.alloc (.cells #[.string (B S)] T1)) rfl (by decide) (sls_one wq T1 (B S)) ((hT.below h1).alloc _) T2
    rw [shE_one hE hlim] at this
    rw [World.size_alloc] at this
    refine this.mono ?_
    rintro e w' ⟨rfl, hb⟩
    exact ⟨rfl, below2 ((Below.refl _ _).alloc (Nat.le_refl _) (.cells #[.string (B S)] T1)) (by rw [World.size_alloc]; exact hb)⟩
  have KB := fun (W : World) T => shamir_below (B Q) [B S] (some ⟨W.heap.size, 0, none⟩) 1 1 (W.alloc (.cells #[.string (B S)] T)) rfl (by decide) (sls_one W T (B S))
  have hbl : blwS (B Q) [B S] = true := by
    unfold blwS
    simp only [List.all_cons, List.all_nil, Bool.and_true, decide_eq_true_eq]
    rw [natCmp_lt (valid_B hlim) (valid_B (u64_lt_lim hQ64)), num_B, num_B]
    exact hS
  rw [hbl] at KB
  have KB := Lib.hid KB
  have KCm := fun w => natural_Cmp (B count) (B Q) w
  rw [natCmp_BB (k_lim (by omega)) (u64_lt_lim hQ64), cmpN_lt h4] at KCm
  have KCm := Lib.hid KCm
  have HA0 := Lib.hid (AtS.start w A n c seed z)
  have H2 := Lib.hid (And.intro h1 (And.intro h2 (And.intro h3 h4)))
  have HQ := Lib.hid hQ
  have HSQ := Lib.hid hS
  have d1 : decide ((need : Int) < 1) = false := decide_eq_false (by omega)
  have d2 : decide ((count : Int) < (need : Int)) = false := decide_eq_false (by omega)
  have d3 : decide ((255 : Int) < (count : Int)) = false := decide_eq_false (by omega)
  have d4 : decide (need ≤ count) = true := decide_eq_true h2
  have d5 : need ≤ count := h2
  clear KM2'
  have HCL := Lib.hid (coinsL_ltQ (by omega) hok)
  clear hE hQ hQ64 hlim hbl hS h1 h2 h3 h4 hn hm h hg hs hT10 hT hok
  obtain ⟨⟨t0, t1, t2, _, _⟩, _, _, _⟩ := HA0.out
  have hlt := HA0.out.sz
  have D2 : w.heap.size + 1 + 1 ≠ w.heap.size := by omega
  go_enter Tryz.func8, Tryz.ntmps8
  go_upto_region 1 with fail
  go_cut [15] (fun e wx => e = .int .i64 0 ∧ AtS w wx A n c seed z)
  case first =>
    go_region_held3 (fun w' => w'.cell? ⟨w.heap.size, 0, none⟩ = some (.slice A n c) ∧ w'.cell? ⟨w.heap.size, 1, none⟩ = some (.string seed) ∧ w'.cell? ⟨w.heap.size, 2, none⟩ = some (.int .i64 z)) (first | (with_reducible exact ⟨keep3 D2 t0, keep3 D2 t1, keep3 D2 t2⟩) | go_keep) (first
      | (go_at_call 26; (with_reducible refine (natural_Of' 1 1 _ rfl (by decide)).mono ?_); rintro e w6 ⟨rfl, hb6⟩
         have HB6 : Hid (AtS w w6 A n c seed z) := Lib.hid (by
           refine AtS.next ?_ hb6
           repeat (first | with_reducible exact HA0.out | with_reducible refine AtS.drew ?_ | with_reducible refine AtS.alloc ?_ _))
         obtain ⟨⟨t0, t1, t2, _, _⟩, _, _, _⟩ := HB6.out
         have hlt6 := HB6.out.sz
         have D6 : w6.heap.size ≠ w.heap.size := by { omega }
         try (refine putZ (P := Hid (ZBx w6 (w.heap.size + 1 + 1))) (Lib.hid (ZBx.of hb6 ?_ ?_)) (fun NN => ?_); (focus (simp; done)); (focus (constructor <;> simp [go_sem])))
         clear hb6)
      | (go_at_call 25
         (with_reducible refine (KM1.out _ (AtB.bel (AtS.a (A := A) (n := n) (c := c) (seed := seed) (z := z) (by repeat (first | with_reducible exact HB6.out | with_reducible refine AtS.drew ?_ | with_reducible refine AtS.alloc ?_ _))))).mono ?_)
         rintro e w7 ⟨⟨A', n', c', At, ct, sdt, zt, nt, rfl⟩, hb7⟩
         have HB7 : Hid (AtS w w7 A n c seed z) := Lib.hid (by
           refine AtS.next ?_ hb7
           repeat (first | with_reducible exact HB6.out | with_reducible refine AtS.drew ?_ | with_reducible refine AtS.alloc ?_ _))
         obtain ⟨⟨t0, t1, t2, _, _⟩, _, _, _⟩ := HB7.out
         have hlt7 := HB7.out.sz
         have D7 : w7.heap.size ≠ w.heap.size := by { omega }
         try (refine putZ (P := Hid (ZBx w7 w6.heap.size ∧ w.heap.size + 2 ≤ w6.heap.size)) (Lib.hid ⟨ZBx.of hb7 ?_ ?_, HB6.out.sz⟩) (fun HNN => ?_); (focus (simp; done)); (focus (constructor <;> simp [go_sem])))
         try (refine putZ (P := Hid (ZBx w7 (w.heap.size + 1 + 1) ∧ w.heap.size + 2 ≤ w.heap.size + 1 + 1)) (Lib.hid ⟨ZBx.of hb7 (ZBx.lt (w := w6) ?_) ?_, Nat.le_refl _⟩) (fun HNN => ?_); exact NN.out; exact NN.out)
         try obtain ⟨N0, N1, N2, F0, F1, F2⟩ := HNN.out.1
         clear hb7))
    all_goals
      go_wp2_with fail
      go_meet
      refine ⟨rfl, ?_⟩
      first
        | with_reducible exact HB7.out.alloc _
        | with_reducible exact HB7.out.drew.alloc _
        | with_reducible exact (HB7.out.alloc _).drew
        | with_reducible exact HB7.out.boxes HNN.out.2
        | with_reducible exact (HB7.out.boxes HNN.out.2).drew
        | with_reducible exact (HB7.out.drew.boxes HNN.out.2)
  case rest =>
  obtain ⟨rfl, hcut⟩ := hcut
  have HA := Lib.hid hcut
  clear hcut t0 t1 t2 D2 hlt KM1 HA0
  go_upto_region 14 with (first
    | (go_at_call 27; (with_reducible refine (KC.out _ HA.out.a.bel _ _).mono ?_); rintro e w1 ⟨rfl, hb1⟩; have HA1 := Lib.hid (HA.out.next hb1); clear hb1)
    | (go_at_call 28; (with_reducible refine (KB.out w1 _).mono ?_); rintro e w2 ⟨rfl, rfl⟩; have HA2 := Lib.hid (HA1.out.alloc (.cells #[.string (B S)] 25)))
    | (go_at_call 26; (with_reducible refine (KO.out _).mono ?_); rintro e w3 ⟨rfl, hb3⟩; have HA3 := Lib.hid (HA2.out.next hb3); obtain ⟨⟨t0, t1, t2, _, _⟩, f0, f1, f2⟩ := HA3.out; clear hb3)
    | (go_at_call 29; (with_reducible refine (KCm.out _).mono ?_); rintro e w4 ⟨rfl, rfl⟩)
    | (go_at_call 25; (with_reducible refine (KM2.out _ _ HA3.out.a.bel (sub64 H2.out)).mono ?_); rintro e w7 ⟨⟨A', c', At, ct, sdt, zt, nt, rfl, hsA, hfr⟩, hb7⟩
       have HA7 := Lib.hid (HA3.out.next hb7)
       have HB7 := Lib.hid hb7
       have HS7 := Lib.hid (SLs.farZ (b := w.heap.size) (x := .slice At nt ct) (y := .string sdt) (t := .int .i64 zt) hsA (fun a ha => by have := hfr a ha; have := HA3.out.sz; omega))
       obtain ⟨⟨t0, t1, t2, _, _⟩, f0, f1, f2⟩ := HA7.out
       have HP7 := Lib.hid (HA7.out.put (A' := At) (n' := nt) (c' := ct) (seed' := sdt) (z' := zt))
       clear hb7 hsA hfr))
  clear t0 t1 t2 f0 f1 f2
  obtain ⟨Wp, hWp⟩ : ∃ Wp, (((w7.setCell ⟨w.heap.size, 0, none⟩ (.slice At nt ct)).setCell ⟨w.heap.size, 1, none⟩ (.string sdt)).setCell ⟨w.heap.size, 2, none⟩ (.int .i64 zt)) = Wp := ⟨_, rfl⟩
  have hsz7 : w7.heap.size = Wp.heap.size := by rw [← hWp]; simp
  rw [hWp] at HP7 HS7 ⊢
  have HS8 : Hid (SLs Wp Wp.heap.size A' ((coinsL vals seed Q z (need - 1)).map B)) := Lib.hid (hsz7 ▸ HS7.out)
  have HL8 : Hid (((coinsL vals seed Q z (need - 1)).map B).length = need - 1) := Lib.hid (by rw [List.length_map, coinsL_len])
  have HO8 := Lib.hid (OwnS.lit Wp (w.heap.size + 2) [B S] 1 HP7.out.sz rfl (by decide))
  have HP8 := Lib.hid (HP7.out.alloc (.cells #[.string (B S)] 25))
  clear hWp hsz7 HS7 HA7 HA3 HA2 HA1 HA HB7
  go_upto_region 16 with (at_builtin; refine wpList_append_S rfl (.tmp 83) (.tmp 84) rfl (w.heap.size + 2) (.slice (some ⟨Wp.heap.size, 0, none⟩) 1 1) 1 [B S] rfl HO8.out A' (need - 1) c' ((coinsL vals seed Q z (need - 1)).map B) rfl (HS8.out.to ((Below.refl _ _).alloc (Nat.le_refl _) _)) HL8.out (by have := H2.out; omega) HP8.out.sz ?_
                          intro v9 w9 h1' h2' h3'
                          have hP9 := HP8.out.nextB (below_grown h2' HP8.out.sz (fun g hg => (HO8.out.blockOf g hg).1))
                          obtain ⟨A9, c9, rfl, hs9⟩ := h1'.form hP9.sz
                          have HP9 := Lib.hid hP9
                          have HS9 : Hid (SLs w9 w9.heap.size A9 ((S :: coinsL vals seed Q z (need - 1)).map B)) := Lib.hid hs9
                          clear h1' h2' h3' hP9 hs9)
  clear KC KB KCm KM2 HP8 HO8 HS8 HL8 HP7 d1 d2 d4 d5
  obtain ⟨N, hN⟩ : ∃ N, 1 + (need - 1) = N := ⟨_, rfl⟩
  obtain ⟨cs, hcs⟩ : ∃ cs, S :: coinsL vals seed Q z (need - 1) = cs := ⟨_, rfl⟩
  have HCS := Lib.hid hcs
  rw [hcs] at HS9
  rw [hN]
  have KV := Lib.hid (fun (k : Nat) wq (hk : k < 256) (hb : Below w9.heap.size w9 wq) => shamir_value Q (k + 1) cs A9 N c9 wq HQ.out.lt (by have := HQ.out.two; omega) (by omega) (by
      rw [← hcs]; intro a ha
      rcases List.mem_cons.1 ha with rfl | ha
      · exact HSQ.out
      · exact HCL.out _ ha) (by rw [← hcs, List.length_cons, coinsL_len]; omega) (by have := H2.out; omega) (HS9.out.to hb))
  have KO2 := Lib.hid (fun (k : Nat) (y : Int) wq (hk : k < 256) (hy : y = ((k + 1 : Nat) : Int)) => natural_Of' y (k + 1) wq hy (by omega))
  have HCN := Lib.hid H2.out.2.2.1
  clear hN hcs H2 HSQ HS9 KO
  go_wp2_with fail
  go_loopw [19, 87] (fun u v wr => ∃ k : Nat, v = .int .i64 k ∧ k ≤ count ∧ OwnS wr w9.heap.size u k (shrL Q k cs) ∧ Below w9.heap.size w9 wr) (fun _ v _ => count - (intOf v).toNat)
  case atStart => exact ⟨0, rfl, Nat.zero_le _, OwnS.nil_ _ _, Below.refl _ _⟩
  case round =>
    obtain ⟨k, rfl, hk, hown, hbel⟩ := hrel
    obtain ⟨Au, cu, rfl⟩ := hown.slice
    have HOWN := Lib.hid hown
    have HBEL := Lib.hid hbel
    clear hown hbel
    by_cases hlt : k < count
    · have HLT := Lib.hid hlt
      have H256 : Hid (k < 256) := Lib.hid (by have := HCN.out; omega)
      clear hk
      go_wp2_with (first
        | (go_at_call 26; (with_reducible refine (KO2.out k _ _ H256.out (ofk H256.out)).mono ?_); rintro e w2 ⟨rfl, hb2⟩; have HB2 := Lib.hid hb2; clear hb2)
        | (go_at_call 30; (with_reducible refine (KV.out k _ H256.out (below2 HBEL.out HB2.out)).mono ?_); rintro e w3 ⟨rfl, hb3⟩; have hcb := comb_step HOWN.out HBEL.out (below2 HB2.out hb3) (B (valL Q (k + 1) cs)); have HOW2 := Lib.hid hcb.1; have HBA := Lib.hid hcb.2; clear hcb hb3)
        | (at_builtin; refine wpList_append_S rfl (.tmp 90) (.tmp 98) rfl w9.heap.size _ k _ rfl HOW2.out _ 1 1 [B (valL Q (k + 1) cs)] rfl (sls_one _ _ _) rfl (by have := H256.out; omega) HBA.out.size ?_; intro v5 w5 h1' h2' h3'; rw [← shrL_snoc] at h1'; have HO5 := Lib.hid h1'; have HB5 := Lib.hid (HBA.out.trans (below_grown h2' HBA.out.size (fun g hg => (HOW2.out.blockOf g hg).1))); clear h1' h2' h3'))
      go_roundw
      case rel => exact ⟨k + 1, stp64 HLT.out (by have := HCN.out; omega), HLT.out, HO5.out, HB5.out⟩
      case measure => exact mes64 HLT.out (by have := HCN.out; omega)
    · obtain rfl : k = count := by omega
      have HA := Lib.hid (HP9.out.nextB (HBEL.out.mono HP9.out.sz))
      obtain ⟨⟨t0, t1, t2, _, _⟩, f0, f1, f2⟩ := HA.out
      obtain ⟨r0, r1, r2, g0, g1, g2⟩ := HA.out.a.r0
      clear hlt hk
      go_wp2_with fail
      go_region
      all_goals
        go_wp2_with fail
        refine bodyPost_ret (v := .tuple #[.slice Au k cu, .agg #[.slice At nt ct, .string sdt, .int .i64 zt], .int .i64 0]) (by simp [results, Tryz.results8, go_sem, r0, r1, r2]) rfl ⟨⟨Au, cu, _, _, _, _, _, rfl, ?_⟩, (HA.out.a.bel3).drew⟩
        have hl : w.heap.size + 1 < w9.heap.size := HP9.out.sz
        have h6 := OwnS.kept (B := 0) (((HOWN.out.far (p := ⟨w.heap.size + 1, 0, none⟩) (u := .slice At nt ct) hl).far (p := ⟨w.heap.size + 1, 1, none⟩) (u := .string sdt) hl).far (p := ⟨w.heap.size + 1, 2, none⟩) (u := .int .i64 zt) hl) (Below.refl _ _).drew
        obtain ⟨A2, c2, e2, hs2⟩ := h6.form (by have := HBEL.out.size; simpa [World.drew] using this)
        cases e2
        rw [HCS.out]
        exact hs2

end Go.Proofs.YtapplggboepfaaaGreatDoor
