/- The law file's nats: numbers as strings. -/
import Derived.Test.YtkdbemdobfddoaaGreatDoorKm
import Derived.Test.YtkdbemdobfddoaaGreatDoorPZ
import Derived.Test.YtkdbemdobfddoaaGreatDoorBW
namespace Go.Proofs.YtkdbemdobfddoaaGreatDoor
open Go.RowKit
set_option maxRecDepth 100000
set_option linter.unusedVariables false
set_option maxHeartbeats 8000000

theorem sls_one' (W : World) (T : TypeId) (x : ByteArray) : SLs (W.alloc (.cells #[.string x] T)) (W.alloc (.cells #[.string x] T)).heap.size (some ⟨W.heap.size, 0, none⟩) [x] :=
  SLs.new W T [x] _ (by rw [World.size_alloc]; omega)
/-- Numbers of 64 bits in a row. -/
def URow (w : World) (g : Nat) (vs : List Nat) : Prop := ∀ k, k < vs.length → w.cell? ⟨g, k, none⟩ = some (.int .u64 ((vs.getD k 0 : Nat) : Int))
theorem URow.next {w w' : World} {g B : Nat} {vs : List Nat} (h : URow w g vs) (hb : Below B w w') (hg : g < B) : URow w' g vs := by
  intro k hk
  have := h k hk
  unfold World.cell? at this ⊢
  rw [hb.block g hg]
  exact this
theorem nats_step {w0 w1 w2 : World} {v : Value} {n : Nat} {ls : List ByteArray} (x : ByteArray) (h : OwnS w1 w0.heap.size v n ls) (hb1 : Below w0.heap.size w0 w1) (hb2 : Below w1.heap.size w1 w2) :
    OwnS (w2.alloc (.cells #[.string x] 22)) w0.heap.size v n ls ∧ Below w0.heap.size w0 (w2.alloc (.cells #[.string x] 22)) := by
  have hb3 : Below w1.heap.size w1 (w2.alloc (.cells #[.string x] 22)) := hb2.alloc hb2.size _
  exact ⟨h.kept (B := 0) hb3, hb1.trans (hb3.mono hb1.size)⟩
theorem law30_nats (vs : List Nat) (g n : Nat) (w : World) (hn : vs.length = n) (hm : n ≤ 1000) (hv : ∀ k, k < n → vs.getD k 0 < 18446744073709551616) (hU : URow w g vs) (hg : g < w.heap.size) :
    Calls Tryz.prog 33 #[.slice (some ⟨g, 0, none⟩) n n] w fun e w' => (∃ A c, e = .returned (.slice A n c) ∧ SLs w' w'.heap.size A (vs.map B)) ∧ Below w.heap.size w w' := by
  have HN := Lib.hid hn
  have HV := Lib.hid hv
  have HU := Lib.hid hU
  have HG := Lib.hid hg
  have KO := Lib.hid (fun (k : Nat) (hk : k < n) (wq : World) => natural_Of (vs.getD k 0) wq (hv k hk))
  clear hn hv hU hg
  go_enter Tryz.func33, Tryz.ntmps33
  go_wp2
  go_loopw [3, 4] (fun u v wr => ∃ i : Nat, v = .int .i64 i ∧ i ≤ n ∧ OwnS wr w.heap.size u i ((vs.take i).map B) ∧ Below w.heap.size w wr) (fun _ v _ => n - (intOf v).toNat)
  case atStart => exact ⟨0, rfl, Nat.zero_le _, OwnS.nil_ _ _, Below.refl _ _⟩
  case round =>
    obtain ⟨i, rfl, hi, hown, hbel⟩ := hrel
    obtain ⟨Au, cu, rfl, hsl⟩ := hown.form hbel.size
    by_cases hlt : i < n
    · have hc := (HU.out.next hbel HG.out) i (by rw [HN.out]; exact hlt)
      have KI := Lib.hid (KO.out i hlt)
      have ht : (vs.take (i + 1)).map B = (vs.take i).map B ++ [B (vs.getD i 0)] := by
        rw [List.take_add_one, List.map_append, List.getD_eq_getElem?_getD, List.getElem?_eq_getElem (by rw [HN.out]; exact hlt)]; rfl
      obtain ⟨x, hx⟩ : ∃ x, x = vs.getD i 0 := ⟨_, rfl⟩
      rw [← hx] at hc KI ht
      have HO := Lib.hid hown
      have HB := Lib.hid hbel
      have HT := Lib.hid ht
      have HLT := Lib.hid hlt
      clear hsl hown hbel ht hx KO
      go_wp2_with (first
        | (go_at_call 24; (with_reducible refine (KI.out _).mono ?_); rintro e w2 ⟨rfl, hb2⟩; have hcs := nats_step (B x) HO.out HB.out hb2; have HO2 := Lib.hid hcs.1; have HB2 := Lib.hid hcs.2; clear hcs hb2)
        | (at_builtin; refine wpList_append_S rfl (.tmp 11) (.tmp 17) rfl w.heap.size _ i _ rfl HO2.out _ 1 1 [B x] rfl (sls_one' _ _ _) rfl (by omega) HB2.out.size ?_; intro v5 w5 h1' h2' h3'; rw [← HT.out] at h1'; have HO5 := Lib.hid h1'; have HB5 := Lib.hid (HB2.out.trans (below_grown h2' HB2.out.size (fun g hg => (HO2.out.blockOf g hg).1))); clear h1' h2' h3'))
      go_roundw
      case rel => exact ⟨i + 1, by go_num, HLT.out, HO5.out, HB5.out⟩
      case measure => have := HLT.out; simp [intOf]; omega
    · obtain rfl : i = n := by omega
      have hs2 : SLs wr wr.heap.size Au (vs.map B) := by rw [List.take_of_length_le (by rw [HN.out]; exact Nat.le_refl _)] at hsl; exact hsl
      have HS := Lib.hid hs2
      have HB := Lib.hid hbel
      clear hsl hs2 hown hbel KO
      go_wp2
      go_ret
      exact ⟨⟨Au, cu, rfl, HS.out⟩, HB.out⟩

end Go.Proofs.YtkdbemdobfddoaaGreatDoor
