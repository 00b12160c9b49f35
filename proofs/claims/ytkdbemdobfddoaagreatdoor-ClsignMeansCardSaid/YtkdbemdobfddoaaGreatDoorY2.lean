/- The walks of package coins: the blocks of an attempt. -/
import Derived.Test.YtkdbemdobfddoaaGreatDoorBY
import Derived.Test.YtkdbemdobfddoaaGreatDoorOn
import Derived.Lib.AppendIntMem
import Derived.Lib.ItoaMem
import Derived.Lib.ItoaLen
import Derived.Stop.RegionWithIn
namespace Go.Proofs.YtkdbemdobfddoaaGreatDoor
open Go.RowKit Go.Shelf
set_option maxRecDepth 100000
set_option linter.unusedVariables false
set_option maxHeartbeats 8000000
attribute [local go_sem] Oper.semAt_some

/-- The library's table of powers of ten lies where it was laid. -/
def Tab10 (w : World) : Prop := Lib.TabIs Tryz.prog w "internal/strconv.uint64pow10" .u64 Lib.pow10Tab
theorem globalNamed10 : Tryz.prog.globalNamed "internal/strconv.uint64pow10" = some 4 := by kernel_rfl
theorem Tab10.below {w w' : World} (h : Tab10 w) (hb : Below w.heap.size w w') : Tab10 w' := by
  unfold Tab10 Lib.TabIs World.var? at h ⊢
  rw [globalNamed10] at h ⊢
  simp only [Option.bind_some] at h ⊢
  have hlt : 4 < w.heap.size := by
    rcases Nat.lt_or_ge 4 w.heap.size with h' | h'
    · exact h'
    · rw [Array.getElem?_eq_none h'] at h; cases h
  rw [hb.block _ hlt]
  exact h
def itS (z : Int) : ByteArray := ⟨(Lib.itoa z).toArray⟩
theorem itoa_below (z : Int) (w : World) (h0 : 0 ≤ z) (h1 : z ≤ 9223372036854775807) (hT : Tab10 w) :
    Calls Tryz.prog 216 #[.int .i64 z] w fun e w' => e = .returned (.string (itS z)) ∧ Below w.heap.size w w' :=
  (Tryz.strconv_Itoa z (by omega) h1 w hT).mono (by rintro e w' ⟨rfl, k, os, rfl⟩; exact ⟨rfl, Lib.below_grow _ _ (Nat.le_refl _) _ _⟩)
theorem itS_size (z : Int) (h0 : 0 ≤ z) (h1 : z ≤ 9223372036854775807) : (itS z).size ≤ 21 := by
  show (Lib.itoa z).toArray.size ≤ 21
  rw [List.size_toArray]
  exact Lib.itoa_length_le z (by omega) h1
def nameS (z a b : Int) : ByteArray := itS z ++ ⟨#[46]⟩ ++ itS a ++ ⟨#[46]⟩ ++ itS b
theorem coins_blocks (A : Option Addr) (n c : Nat) (seed : ByteArray) (z a : Int) (w : World) :
    Calls Tryz.prog 194 #[.agg #[.slice A n c, .string seed, .int .i64 z], .int .i64 a] w fun e w' => e = .returned (.func (.func 215) #[] #[.pointer (some ⟨w.heap.size, 0, none⟩), .pointer (some ⟨w.heap.size + 1, 0, none⟩)]) ∧ w' = (w.alloc (.cells #[.slice A n c, .string seed, .int .i64 z] 48)).alloc (.cells #[.int .i64 a] 3) := by
  go_enter Tryz.func194, Tryz.ntmps194
  go_wp2
  go_ret
  exact ⟨rfl, rfl⟩
theorem blocks1_once (n : Nat) (hn : 1 ≤ n) (g : Nat) (A : Option Addr) (m c : Nat) (seed : ByteArray) (z a : Int) (w : World) (hz0 : 0 ≤ z) (hz1 : z ≤ 2147483647) (ha0 : 0 ≤ a) (ha1 : a ≤ 1000) (hs : seed.size ≤ 100000) (hT : Tab10 w)
    (c0 : w.cell? ⟨g, 1, none⟩ = some (.string seed)) (c1 : w.cell? ⟨g, 2, none⟩ = some (.int .i64 z)) (c2 : w.cell? ⟨g + 1, 0, none⟩ = some (.int .i64 a)) (hg : g + 1 < w.heap.size) :
    OnceSeq Fence.wide n Tryz.prog 215 #[.pointer (some ⟨g, 0, none⟩), .pointer (some ⟨g + 1, 0, none⟩)] (.string (macS seed (nameS z a 0))) w := by
  intro l R W hW hY
  have d0 : W.cell? ⟨g, 1, none⟩ = some (.string seed) := (hW.cell (p := ⟨g, 1, none⟩) (by show g < _; omega)).trans c0
  have d1 : W.cell? ⟨g, 2, none⟩ = some (.int .i64 z) := (hW.cell (p := ⟨g, 2, none⟩) (by show g < _; omega)).trans c1
  have d2 : W.cell? ⟨g + 1, 0, none⟩ = some (.int .i64 a) := (hW.cell (p := ⟨g + 1, 0, none⟩) hg).trans c2
  have hgW : g + 1 < W.heap.size := Nat.lt_of_lt_of_le hg hW.size
  unfold nameS at hY
  have HY := Lib.hid hY
  have HT := Lib.hid (hT.below hW)
  clear hY hW c0 c1 c2 hg hT
  show CallsIn Fence.wide n Tryz.prog 215 #[.func (.yield l) #[] #[], .pointer (some ⟨g, 0, none⟩), .pointer (some ⟨g + 1, 0, none⟩)] W _
  refine callsIn_of_wp Tryz.func215 rfl trivial ?_ rfl
  simp only [Tryz.ntmps215, List.size_toArray, List.length_cons, List.length_nil, Nat.reduceAdd, Nat.reduceSub, Array.replicate_succ, Array.replicate_zero, List.push_toArray, List.append_toArray, List.nil_append, List.cons_append]
  gi_wp2
  gi_loopw [4] (fun v wr => v = .int .i64 0 ∧ wr = W) (fun _ _ => 0)
  case atStart => exact ⟨rfl, rfl⟩
  case round =>
    obtain ⟨rfl, rfl⟩ := hrel
    have HTD : Hid (Tab10 wr.drew) := Lib.hid HT.out
    have hgD : g + 1 < wr.drew.heap.size := hgW
    have K1 := Lib.hid (fun w (h : Tab10 w) => itoa_below z w hz0 (by omega) h)
    have K2 := Lib.hid (fun w (h : Tab10 w) => itoa_below a w ha0 (by omega) h)
    have K3 := Lib.hid (fun w (h : Tab10 w) => itoa_below 0 w (by omega) (by omega) h)
    have sz := itS_size z hz0 (by omega)
    have sa := itS_size a ha0 (by omega)
    have s0 := itS_size 0 (by omega) (by omega)
    have KM := Lib.hid (fun w => hash_Mac seed (itS z ++ ⟨#[46]⟩ ++ itS a ++ ⟨#[46]⟩ ++ itS 0) w hs (by simp only [ByteArray.size_append]; have : (⟨#[46]⟩ : ByteArray).size = 1 := rfl; omega))
    gi_wp2
    gi_region_with (first
      | (refine ⟨trivial, ?_⟩; gi_at_call 216; (with_reducible refine (callsIn_wide.2 (K1.out _ HTD.out)).mono ?_); rintro e w1 ⟨rfl, hb1⟩
         have HT1 := Lib.hid (HTD.out.below hb1)
         have HB1 := Lib.hid hb1
         have d1' : w1.cell? ⟨g, 2, none⟩ = some (.int .i64 z) := (hb1.cell (p := ⟨g, 2, none⟩) (by show g < _; omega)).trans d1
         have d2' : w1.cell? ⟨g + 1, 0, none⟩ = some (.int .i64 a) := (hb1.cell (p := ⟨g + 1, 0, none⟩) hgD).trans d2
         have d0' : w1.cell? ⟨g, 1, none⟩ = some (.string seed) := (hb1.cell (p := ⟨g, 1, none⟩) (by show g < _; omega)).trans d0
         have hg1 : g + 1 < w1.heap.size := Nat.lt_of_lt_of_le hgD hb1.size
         clear hb1)
      | (refine ⟨trivial, ?_⟩; gi_at_call 216; (with_reducible refine (callsIn_wide.2 (K2.out _ HT1.out)).mono ?_); rintro e w2 ⟨rfl, hb2⟩
         have HT2 := Lib.hid (HT1.out.below hb2)
         have HB2 := Lib.hid (HB1.out.trans (hb2.mono HB1.out.size))
         have d0'' : w2.cell? ⟨g, 1, none⟩ = some (.string seed) := (hb2.cell (p := ⟨g, 1, none⟩) (by show g < _; omega)).trans d0'
         have hg2 : g + 1 < w2.heap.size := Nat.lt_of_lt_of_le hg1 hb2.size
         clear hb2)
      | (refine ⟨trivial, ?_⟩; gi_at_call 216; (with_reducible refine (callsIn_wide.2 (K3.out _ HT2.out)).mono ?_); rintro e w3 ⟨rfl, hb3⟩
         have HB3 := Lib.hid (HB2.out.trans (hb3.mono HB2.out.size))
         have d03 : w3.cell? ⟨g, 1, none⟩ = some (.string seed) := (hb3.cell (p := ⟨g, 1, none⟩) (by show g < _; omega)).trans d0''
         clear hb3))
    all_goals
      gi_wp2_with (refine ⟨trivial, ?_⟩; gi_at_call 217; (with_reducible refine (callsIn_wide.2 (KM.out _)).mono ?_); rintro e w5 ⟨rfl, hb5⟩
                   obtain ⟨fn, tmps, assign, body, hy, hR⟩ := HY.out w5 ((Below.refl _ _).drew.trans (HB3.out.trans (hb5.mono HB3.out.size)))
                   clear hb5)
      refine hR.mono ?_
      rintro e W3 ⟨rfl, hR3⟩
      gi_wp2
      refine bodyPost_ret (results_none rfl _ _ _) rfl ?_
      exact ⟨⟨_, rfl⟩, hR3⟩

end Go.Proofs.YtkdbemdobfddoaaGreatDoor
