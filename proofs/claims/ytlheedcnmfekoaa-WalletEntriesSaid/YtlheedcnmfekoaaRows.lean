/-
  No cell of these rows narrows 'for every input' (looked for: loops, veiled, ifaces, maps, wideKeys, modest, calm, conditions, laid).
  DERIVED. THE GIVEN ROWS OF THIS SEAT. 2 by the template 'for every input the law returns true; each argument reads behind the call as it read before'; 0 by the template 'total and deterministic' (their statements: YtlheedcnmfekoaaTotals.lean).
  GIVEN WITH THE SEED: the statements are not yours to turn. If you find one false, say at which input.
  Laid BY PROGRAM, IN A SANDBOX (cutbox-rows.mjs): the forced cells as the released guide's own fill.sh prints them over the translation c521828e1a6def7d… (all of the seat's roots in one cut). By AI agents, Wed Nov 11 2026. No macro, syntax, notation, axiom, sorry.
-/
import Derived.Test.YtlheedcnmfekoaaChecked
import GoSem.Claim
import GoSem.ClaimJoined
import GoSem.ClaimMapViews
import Derived.JoinedTies
import Derived.KernelRfl
namespace Go.Proofs.Ytlheedcnmfekoaa
/- THE CELL 'sum', in the pinned program and in every row, IS THE sha256 OF THE DUMP (.gsa) THAT YtlheedcnmfekoaaProg.lean LOADS. Nothing in Lean hashes anything: it is a label: what it is worth is what the hold of that sum in a sandbox is worth. -/
noncomputable def Try.pinned : Pinned := { name := "ytlheedcnmfekoaa", sum := "c521828e1a6def7d811c5d75769994784fd127e1329cc419dd1a50d484b16893", checked := Try.checked }
namespace Rows
def none {H : Type} : Left H := { results := [], args := [] }

/-- 'dominolaw56.WalletCounts': WHATEVER THE INPUT: true; the input reads as it did. -/
def walletCountsSpec : ChangeSpec := { name := "walletCounts", fn := fun _ => fun
  | [d1, d2, d3] => { results := [.lit (.bool true)], args := [d1, d2, d3] }
  | _ => none }
def walletCountsRow : OpenClaim := { program := "ytlheedcnmfekoaa", sum := "c521828e1a6def7d811c5d75769994784fd127e1329cc419dd1a50d484b16893", func := "domino/dominolaw56.WalletCounts", spec := "walletCounts", inPlace := ["internal/abi.NoEscape"], unfollowed := true, recurses := true, plainKeys := false, apart := false }
def WalletCountsSaid : Prop := walletCountsRow.holds Try.pinned (OpenSpec.ofChange walletCountsSpec)

/-- ITS FALSE NEIGHBOUR: 'it returns false'. Refute it at one input. -/
def walletCountsWrong : ChangeSpec := { name := "walletCounts", fn := fun _ => fun
  | [d1, d2, d3] => { results := [.lit (.bool false)], args := [d1, d2, d3] }
  | _ => none }
def WalletCountsWrongFalsely : Prop := walletCountsRow.holds Try.pinned (OpenSpec.ofChange walletCountsWrong)

/-- 'dominolaw56.WalletEntries': WHATEVER THE INPUT: true; the input reads as it did. -/
def walletEntriesSpec : ChangeSpec := { name := "walletEntries", fn := fun _ => fun
  | [d1, d2] => { results := [.lit (.bool true)], args := [d1, d2] }
  | _ => none }
def walletEntriesRow : OpenClaim := { program := "ytlheedcnmfekoaa", sum := "c521828e1a6def7d811c5d75769994784fd127e1329cc419dd1a50d484b16893", func := "domino/dominolaw56.WalletEntries", spec := "walletEntries", inPlace := ["internal/abi.NoEscape"], unfollowed := true, recurses := true, plainKeys := false, apart := false }
def WalletEntriesSaid : Prop := walletEntriesRow.holds Try.pinned (OpenSpec.ofChange walletEntriesSpec)

/-- ITS FALSE NEIGHBOUR: 'it returns false'. Refute it at one input. -/
def walletEntriesWrong : ChangeSpec := { name := "walletEntries", fn := fun _ => fun
  | [d1, d2] => { results := [.lit (.bool false)], args := [d1, d2] }
  | _ => none }
def WalletEntriesWrongFalsely : Prop := walletEntriesRow.holds Try.pinned (OpenSpec.ofChange walletEntriesWrong)

/- THE SECOND FORM. 'bulk': how many values and letters a reading holds, each counted each time it is reached (what is shared counts as often as it is met; a slice's spare places count too). A statement '..UptoSaid' is the law's where the arguments, and the package variables that the reading takes, are together of bulk at most 1048576: NARROWER than '..Said'. Prove '..Said' where nothing that the law and all that it calls make is longer than what came in: it says more and counts as full. Else prove '..UptoSaid'. A law counts once. -/
mutual
def uptoBulk {H : Type} : DataW H → Nat
  | .lit (.string bytes) => bytes.length + 1
  | .lit _ => 1
  | .nil => 1
  | .ptr d => uptoBulk d + 1
  | .slice elems spare => uptoBulkAll elems + uptoBulkAll spare + 1
  | .agg parts => uptoBulkAll parts + 1
  | .iface _ d => uptoBulk d + 1
  | .map entries => uptoBulkEntries entries + 1
  | .held _ => 1
def uptoBulkAll {H : Type} : List (DataW H) → Nat
  | [] => 0
  | d :: r => uptoBulk d + uptoBulkAll r
def uptoBulkEntries {H : Type} : List (Lit × DataW H) → Nat
  | [] => 0
  | x :: r => uptoBulkEntry x + uptoBulkEntries r
def uptoBulkEntry {H : Type} : Lit × DataW H → Nat
  | (.string bytes, d) => bytes.length + uptoBulk d + 1
  | (_, d) => uptoBulk d + 1
 end
def uptoSmall : (H : Type) → List (DataW H) → Bool := fun _ ds => decide (uptoBulkAll ds ≤ 1048576)
def OpenSpec.upto (s : _root_.Go.ChangeSpec) : _root_.Go.OpenSpec := { _root_.Go.OpenSpec.ofChange s with cond := some uptoSmall }

/-- 'dominolaw56.WalletCounts', WHERE WHAT IT READS IS OF BULK AT MOST 1048576: true; the input reads as it did. -/
def walletCountsUptoRow : OpenClaim := { program := "ytlheedcnmfekoaa", sum := "c521828e1a6def7d811c5d75769994784fd127e1329cc419dd1a50d484b16893", func := "domino/dominolaw56.WalletCounts", spec := "walletCounts", inPlace := ["internal/abi.NoEscape"], unfollowed := true, recurses := true, plainKeys := false, apart := false, narrowed := true }
def WalletCountsUptoSaid : Prop := walletCountsUptoRow.holds Try.pinned (OpenSpec.upto walletCountsSpec)

/-- 'dominolaw56.WalletEntries', WHERE WHAT IT READS IS OF BULK AT MOST 1048576: true; the input reads as it did. -/
def walletEntriesUptoRow : OpenClaim := { program := "ytlheedcnmfekoaa", sum := "c521828e1a6def7d811c5d75769994784fd127e1329cc419dd1a50d484b16893", func := "domino/dominolaw56.WalletEntries", spec := "walletEntries", inPlace := ["internal/abi.NoEscape"], unfollowed := true, recurses := true, plainKeys := false, apart := false, narrowed := true }
def WalletEntriesUptoSaid : Prop := walletEntriesUptoRow.holds Try.pinned (OpenSpec.upto walletEntriesSpec)

end Rows
end Go.Proofs.Ytlheedcnmfekoaa
