/- Wallet: Ask. -/
import Derived.Test.YtjhlddlocpkhkaaGreatWhJ16
import Derived.Test.YtjhlddlocpkhkaaGreatWhXk
namespace Go.Proofs.YtjhlddlocpkhkaaGreat
open Go.RowKit
set_option maxRecDepth 100000
set_option linter.unusedVariables false
set_option maxHeartbeats 8000000
section
variable {w wx w' : World} {sec : ByteArray} {Aa : Option Addr} {na ca : Nat} {Ah : Option Addr} {nh ch : Nat} {Au : Option Addr} {nu cu : Nat} {cs : Array Value} {T : TypeId} {sec' : ByteArray} {qs : List Az} {hs : List Hz} {us : List Uz} {A1 : Option Addr} {n1 c1 : Nat} {A2 : Option Addr} {n2 c2 : Nat} {A3 : Option Addr} {n3 c3 b7 : Nat}
theorem BxB.zero (h : BxB w sec Aa na ca Ah nh ch Au nu cu cs T wx) (v0 v1 v2 v3 : Value) : Below w.heap.size w ((((wx.setCell ⟨w.heap.size + 1 + 1, 0, none⟩ v0).setCell ⟨w.heap.size + 1 + 1, 1, none⟩ v1).setCell ⟨w.heap.size + 1 + 1, 2, none⟩ v2).setCell ⟨w.heap.size + 1 + 1, 3, none⟩ v3) :=
  have hl : w.heap.size ≤ w.heap.size + 1 + 1 := by omega
  (((h.bel.setCell (p := ⟨w.heap.size + 1 + 1, 0, none⟩) hl _).setCell (p := ⟨w.heap.size + 1 + 1, 1, none⟩) hl _).setCell (p := ⟨w.heap.size + 1 + 1, 2, none⟩) hl _).setCell (p := ⟨w.heap.size + 1 + 1, 3, none⟩) hl _
end
end Go.Proofs.YtjhlddlocpkhkaaGreat
