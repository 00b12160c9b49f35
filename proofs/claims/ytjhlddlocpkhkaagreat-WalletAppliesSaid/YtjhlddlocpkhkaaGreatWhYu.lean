/- Wallet: heldItem. -/
import Derived.Test.YtjhlddlocpkhkaaGreatWhJ16
import Derived.Test.YtjhlddlocpkhkaaGreatWhJ12
namespace Go.Proofs.YtjhlddlocpkhkaaGreat
open Go.RowKit
set_option maxRecDepth 100000
set_option linter.unusedVariables false
set_option maxHeartbeats 8000000
/-- Items of numbers; the items of a credential. -/
def natsI : List ByteArray → Its
  | [] => .nil
  | x :: r => .cons 0 x ⟨#[]⟩ .nil (natsI r)
theorem natsI_size (l : List ByteArray) : (natsI l).size = l.length := by
  induction l with
  | nil => rfl
  | cons x r ih => simp only [natsI, Its.size, ih, List.length_cons]; omega
def heldL (x : Hz) : Its := .cons 1 ⟨#[]⟩ x.iss .nil (.cons 1 ⟨#[]⟩ x.sch .nil (.cons 2 ⟨#[]⟩ ⟨#[]⟩ (intIt x.ver) (.cons 2 ⟨#[]⟩ ⟨#[]⟩ (natsI x.att) (.cons 0 x.a ⟨#[]⟩ .nil (.cons 0 x.e ⟨#[]⟩ .nil (.cons 0 x.v ⟨#[]⟩ .nil (.cons 2 ⟨#[]⟩ ⟨#[]⟩ (intIt x.ep) (.cons 0 x.wit ⟨#[]⟩ .nil .nil))))))))
section
variable {w wx w' : World} {x : Hz} {A : Option Addr} {n c : Nat} {L : List (Option Addr × Its)}
end
end Go.Proofs.YtjhlddlocpkhkaaGreat
