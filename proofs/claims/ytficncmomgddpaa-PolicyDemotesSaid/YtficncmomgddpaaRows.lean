/-
  No cell of these rows narrows 'for every input' (looked for: loops, veiled, ifaces, maps, wideKeys, modest, calm, conditions, laid).
  DERIVED. THE GIVEN ROWS OF THIS SEAT. 5 by the template 'for every input the law returns true; each argument reads behind the call as it read before'; 0 by the template 'total and deterministic' (their statements: YtficncmomgddpaaTotals.lean).
  GIVEN WITH THE SEED: the statements are not yours to turn. If you find one false, say at which input.
  Laid BY PROGRAM, IN A SANDBOX (cutbox-rows.mjs): the forced cells as the released guide's own fill.sh prints them over the translation fd1b0bea72fe9623… (all of the seat's roots in one cut). By AI agents, Wed Nov 11 2026. No macro, syntax, notation, axiom, sorry.
-/
import Derived.Test.YtficncmomgddpaaChecked
import GoSem.Claim
import GoSem.ClaimJoined
import GoSem.ClaimMapViews
import Derived.JoinedTies
import Derived.KernelRfl
namespace Go.Proofs.Ytficncmomgddpaa
/- THE CELL 'sum', in the pinned program and in every row, IS THE sha256 OF THE DUMP (.gsa) THAT YtficncmomgddpaaProg.lean LOADS. Nothing in Lean hashes anything: it is a label: what it is worth is what the hold of that sum in a sandbox is worth. -/
noncomputable def Try.pinned : Pinned := { name := "ytficncmomgddpaa", sum := "fd1b0bea72fe96231b51df95087abe5e1e02822ebc1819bfa398237f5b578d7e", checked := Try.checked }
namespace Rows
def none {H : Type} : Left H := { results := [], args := [] }

/-- 'vouchlaw11.PolicyOrders': WHATEVER THE INPUT: true; the input reads as it did. -/
def policyOrdersSpec : ChangeSpec := { name := "policyOrders", fn := fun _ => fun
  | [d1, d2, d3] => { results := [.lit (.bool true)], args := [d1, d2, d3] }
  | _ => none }
def policyOrdersRow : OpenClaim := { program := "ytficncmomgddpaa", sum := "fd1b0bea72fe96231b51df95087abe5e1e02822ebc1819bfa398237f5b578d7e", func := "vouch/vouchlaw11.PolicyOrders", spec := "policyOrders", unfollowed := true, recurses := true, apart := false }
def PolicyOrdersSaid : Prop := policyOrdersRow.holds Try.pinned (OpenSpec.ofChange policyOrdersSpec)

/-- ITS FALSE NEIGHBOUR: 'it returns false'. Refute it at one input. -/
def policyOrdersWrong : ChangeSpec := { name := "policyOrders", fn := fun _ => fun
  | [d1, d2, d3] => { results := [.lit (.bool false)], args := [d1, d2, d3] }
  | _ => none }
def PolicyOrdersWrongFalsely : Prop := policyOrdersRow.holds Try.pinned (OpenSpec.ofChange policyOrdersWrong)

/-- 'vouchlaw11.PolicyDemotes': WHATEVER THE INPUT: true; the input reads as it did. -/
def policyDemotesSpec : ChangeSpec := { name := "policyDemotes", fn := fun _ => fun
  | [d1, d2] => { results := [.lit (.bool true)], args := [d1, d2] }
  | _ => none }
def policyDemotesRow : OpenClaim := { program := "ytficncmomgddpaa", sum := "fd1b0bea72fe96231b51df95087abe5e1e02822ebc1819bfa398237f5b578d7e", func := "vouch/vouchlaw11.PolicyDemotes", spec := "policyDemotes", unfollowed := true, recurses := true, apart := false }
def PolicyDemotesSaid : Prop := policyDemotesRow.holds Try.pinned (OpenSpec.ofChange policyDemotesSpec)

/-- ITS FALSE NEIGHBOUR: 'it returns false'. Refute it at one input. -/
def policyDemotesWrong : ChangeSpec := { name := "policyDemotes", fn := fun _ => fun
  | [d1, d2] => { results := [.lit (.bool false)], args := [d1, d2] }
  | _ => none }
def PolicyDemotesWrongFalsely : Prop := policyDemotesRow.holds Try.pinned (OpenSpec.ofChange policyDemotesWrong)

/-- 'vouchlaw11.PolicyLines': WHATEVER THE INPUT: true; the input reads as it did. -/
def policyLinesSpec : ChangeSpec := { name := "policyLines", fn := fun _ => fun
  | [d1, d2, d3] => { results := [.lit (.bool true)], args := [d1, d2, d3] }
  | _ => none }
def policyLinesRow : OpenClaim := { program := "ytficncmomgddpaa", sum := "fd1b0bea72fe96231b51df95087abe5e1e02822ebc1819bfa398237f5b578d7e", func := "vouch/vouchlaw11.PolicyLines", spec := "policyLines", unfollowed := true, recurses := true, apart := false }
def PolicyLinesSaid : Prop := policyLinesRow.holds Try.pinned (OpenSpec.ofChange policyLinesSpec)

/-- ITS FALSE NEIGHBOUR: 'it returns false'. Refute it at one input. -/
def policyLinesWrong : ChangeSpec := { name := "policyLines", fn := fun _ => fun
  | [d1, d2, d3] => { results := [.lit (.bool false)], args := [d1, d2, d3] }
  | _ => none }
def PolicyLinesWrongFalsely : Prop := policyLinesRow.holds Try.pinned (OpenSpec.ofChange policyLinesWrong)

/-- 'vouchlaw11.PolicyAll': WHATEVER THE INPUT: true; the input reads as it did. -/
def policyAllSpec : ChangeSpec := { name := "policyAll", fn := fun _ => fun
  | [d] => { results := [.lit (.bool true)], args := [d] }
  | _ => none }
def policyAllRow : OpenClaim := { program := "ytficncmomgddpaa", sum := "fd1b0bea72fe96231b51df95087abe5e1e02822ebc1819bfa398237f5b578d7e", func := "vouch/vouchlaw11.PolicyAll", spec := "policyAll", unfollowed := true, recurses := true, apart := false }
def PolicyAllSaid : Prop := policyAllRow.holds Try.pinned (OpenSpec.ofChange policyAllSpec)

/-- ITS FALSE NEIGHBOUR: 'it returns false'. Refute it at one input. -/
def policyAllWrong : ChangeSpec := { name := "policyAll", fn := fun _ => fun
  | [d] => { results := [.lit (.bool false)], args := [d] }
  | _ => none }
def PolicyAllWrongFalsely : Prop := policyAllRow.holds Try.pinned (OpenSpec.ofChange policyAllWrong)

/-- 'vouchlaw11.PolicyHot': WHATEVER THE INPUT: true; the input reads as it did. -/
def policyHotSpec : ChangeSpec := { name := "policyHot", fn := fun _ => fun
  | [d1, d2] => { results := [.lit (.bool true)], args := [d1, d2] }
  | _ => none }
def policyHotRow : OpenClaim := { program := "ytficncmomgddpaa", sum := "fd1b0bea72fe96231b51df95087abe5e1e02822ebc1819bfa398237f5b578d7e", func := "vouch/vouchlaw11.PolicyHot", spec := "policyHot", unfollowed := true, recurses := true, apart := false }
def PolicyHotSaid : Prop := policyHotRow.holds Try.pinned (OpenSpec.ofChange policyHotSpec)

/-- ITS FALSE NEIGHBOUR: 'it returns false'. Refute it at one input. -/
def policyHotWrong : ChangeSpec := { name := "policyHot", fn := fun _ => fun
  | [d1, d2] => { results := [.lit (.bool false)], args := [d1, d2] }
  | _ => none }
def PolicyHotWrongFalsely : Prop := policyHotRow.holds Try.pinned (OpenSpec.ofChange policyHotWrong)

/- THE SECOND FORM. 'bulk': how many values and letters a reading holds, each counted each time it is reached (what is shared counts as often as it is met; a slice's spare places count too). A statement '..UptoSaid' is the law's where the arguments, and the package variables that the reading takes, are together of bulk at most 1048576: NARROWER than '..Said'. Prove '..Said' where nothing that the law and all that it calls make is longer than what came in: it says more and counts as full. Else prove '..UptoSaid'. A law counts once. -/
mutual
def uptoBulk {H : Type} : DataW H → Nat
  | .lit (.string bytes) => bytes.length + 1
  | .lit _ => 1
  | .nil => 1
  | .ptr d => uptoBulk d + 1
  | .slice elems spare => uptoBulkAll elems + uptoBulkAll spare + 1
  | .agg parts => uptoBulkAll parts + 1
  | .iface _ d => uptoBulk d + 1
  | .map entries => uptoBulkEntries entries + 1
  | .held _ => 1
def uptoBulkAll {H : Type} : List (DataW H) → Nat
  | [] => 0
  | d :: r => uptoBulk d + uptoBulkAll r
def uptoBulkEntries {H : Type} : List (Lit × DataW H) → Nat
  | [] => 0
  | x :: r => uptoBulkEntry x + uptoBulkEntries r
def uptoBulkEntry {H : Type} : Lit × DataW H → Nat
  | (.string bytes, d) => bytes.length + uptoBulk d + 1
  | (_, d) => uptoBulk d + 1
 end
def uptoSmall : (H : Type) → List (DataW H) → Bool := fun _ ds => decide (uptoBulkAll ds ≤ 1048576)
def OpenSpec.upto (s : _root_.Go.ChangeSpec) : _root_.Go.OpenSpec := { _root_.Go.OpenSpec.ofChange s with cond := some uptoSmall }

/-- 'vouchlaw11.PolicyOrders', WHERE WHAT IT READS IS OF BULK AT MOST 1048576: true; the input reads as it did. -/
def policyOrdersUptoRow : OpenClaim := { program := "ytficncmomgddpaa", sum := "fd1b0bea72fe96231b51df95087abe5e1e02822ebc1819bfa398237f5b578d7e", func := "vouch/vouchlaw11.PolicyOrders", spec := "policyOrders", unfollowed := true, recurses := true, apart := false, narrowed := true }
def PolicyOrdersUptoSaid : Prop := policyOrdersUptoRow.holds Try.pinned (OpenSpec.upto policyOrdersSpec)

/-- 'vouchlaw11.PolicyDemotes', WHERE WHAT IT READS IS OF BULK AT MOST 1048576: true; the input reads as it did. -/
def policyDemotesUptoRow : OpenClaim := { program := "ytficncmomgddpaa", sum := "fd1b0bea72fe96231b51df95087abe5e1e02822ebc1819bfa398237f5b578d7e", func := "vouch/vouchlaw11.PolicyDemotes", spec := "policyDemotes", unfollowed := true, recurses := true, apart := false, narrowed := true }
def PolicyDemotesUptoSaid : Prop := policyDemotesUptoRow.holds Try.pinned (OpenSpec.upto policyDemotesSpec)

/-- 'vouchlaw11.PolicyLines', WHERE WHAT IT READS IS OF BULK AT MOST 1048576: true; the input reads as it did. -/
def policyLinesUptoRow : OpenClaim := { program := "ytficncmomgddpaa", sum := "fd1b0bea72fe96231b51df95087abe5e1e02822ebc1819bfa398237f5b578d7e", func := "vouch/vouchlaw11.PolicyLines", spec := "policyLines", unfollowed := true, recurses := true, apart := false, narrowed := true }
def PolicyLinesUptoSaid : Prop := policyLinesUptoRow.holds Try.pinned (OpenSpec.upto policyLinesSpec)

/-- 'vouchlaw11.PolicyAll', WHERE WHAT IT READS IS OF BULK AT MOST 1048576: true; the input reads as it did. -/
def policyAllUptoRow : OpenClaim := { program := "ytficncmomgddpaa", sum := "fd1b0bea72fe96231b51df95087abe5e1e02822ebc1819bfa398237f5b578d7e", func := "vouch/vouchlaw11.PolicyAll", spec := "policyAll", unfollowed := true, recurses := true, apart := false, narrowed := true }
def PolicyAllUptoSaid : Prop := policyAllUptoRow.holds Try.pinned (OpenSpec.upto policyAllSpec)

/-- 'vouchlaw11.PolicyHot', WHERE WHAT IT READS IS OF BULK AT MOST 1048576: true; the input reads as it did. -/
def policyHotUptoRow : OpenClaim := { program := "ytficncmomgddpaa", sum := "fd1b0bea72fe96231b51df95087abe5e1e02822ebc1819bfa398237f5b578d7e", func := "vouch/vouchlaw11.PolicyHot", spec := "policyHot", unfollowed := true, recurses := true, apart := false, narrowed := true }
def PolicyHotUptoSaid : Prop := policyHotUptoRow.holds Try.pinned (OpenSpec.upto policyHotSpec)

end Rows
end Go.Proofs.Ytficncmomgddpaa
