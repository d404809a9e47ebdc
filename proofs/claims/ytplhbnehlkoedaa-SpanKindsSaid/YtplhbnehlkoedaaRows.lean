/-
  No cell of these rows narrows 'for every input' (looked for: loops, veiled, ifaces, maps, wideKeys, modest, calm, conditions, laid).
  DERIVED. THE GIVEN ROWS OF THIS SEAT. 7 by the template 'for every input the law returns true; each argument reads behind the call as it read before'; 0 by the template 'total and deterministic' (their statements: YtplhbnehlkoedaaTotals.lean).
  GIVEN WITH THE SEED: the statements are not yours to turn. If you find one false, say at which input.
  Laid BY PROGRAM, IN A SANDBOX (cutbox-rows.mjs): the forced cells as the released guide's own fill.sh prints them over the translation 1e936690741c725a… (all of the seat's roots in one cut). By AI agents, Wed Nov 11 2026. No macro, syntax, notation, axiom, sorry.
-/
import Derived.Test.YtplhbnehlkoedaaChecked
import GoSem.Claim
import GoSem.ClaimJoined
import GoSem.ClaimMapViews
import Derived.JoinedTies
import Derived.KernelRfl
namespace Go.Proofs.Ytplhbnehlkoedaa
/- THE CELL 'sum', in the pinned program and in every row, IS THE sha256 OF THE DUMP (.gsa) THAT YtplhbnehlkoedaaProg.lean LOADS. Nothing in Lean hashes anything: it is a label: what it is worth is what the hold of that sum in a sandbox is worth. -/
noncomputable def Try.pinned : Pinned := { name := "ytplhbnehlkoedaa", sum := "1e936690741c725a3c3ef087e73ba94133255e1b93bd537783ad0e346f5e2f1e", checked := Try.checked }
namespace Rows
def none {H : Type} : Left H := { results := [], args := [] }

/-- 'vouchlaw01.SpanOf': WHATEVER THE INPUT: true; the input reads as it did. -/
def spanOfSpec : ChangeSpec := { name := "spanOf", fn := fun _ => fun
  | [d1, d2] => { results := [.lit (.bool true)], args := [d1, d2] }
  | _ => none }
def spanOfRow : OpenClaim := { program := "ytplhbnehlkoedaa", sum := "1e936690741c725a3c3ef087e73ba94133255e1b93bd537783ad0e346f5e2f1e", func := "vouch/vouchlaw01.SpanOf", spec := "spanOf", apart := false }
def SpanOfSaid : Prop := spanOfRow.holds Try.pinned (OpenSpec.ofChange spanOfSpec)

/-- ITS FALSE NEIGHBOUR: 'it returns false'. Refute it at one input. -/
def spanOfWrong : ChangeSpec := { name := "spanOf", fn := fun _ => fun
  | [d1, d2] => { results := [.lit (.bool false)], args := [d1, d2] }
  | _ => none }
def SpanOfWrongFalsely : Prop := spanOfRow.holds Try.pinned (OpenSpec.ofChange spanOfWrong)

/-- 'vouchlaw01.SpanKinds': WHATEVER THE INPUT: true; the input reads as it did. -/
def spanKindsSpec : ChangeSpec := { name := "spanKinds", fn := fun _ => fun
  | [d1, d2, d3, d4, d5] => { results := [.lit (.bool true)], args := [d1, d2, d3, d4, d5] }
  | _ => none }
def spanKindsRow : OpenClaim := { program := "ytplhbnehlkoedaa", sum := "1e936690741c725a3c3ef087e73ba94133255e1b93bd537783ad0e346f5e2f1e", func := "vouch/vouchlaw01.SpanKinds", spec := "spanKinds", apart := false }
def SpanKindsSaid : Prop := spanKindsRow.holds Try.pinned (OpenSpec.ofChange spanKindsSpec)

/-- ITS FALSE NEIGHBOUR: 'it returns false'. Refute it at one input. -/
def spanKindsWrong : ChangeSpec := { name := "spanKinds", fn := fun _ => fun
  | [d1, d2, d3, d4, d5] => { results := [.lit (.bool false)], args := [d1, d2, d3, d4, d5] }
  | _ => none }
def SpanKindsWrongFalsely : Prop := spanKindsRow.holds Try.pinned (OpenSpec.ofChange spanKindsWrong)

/-- 'vouchlaw01.SpanMeet': WHATEVER THE INPUT: true; the input reads as it did. -/
def spanMeetSpec : ChangeSpec := { name := "spanMeet", fn := fun _ => fun
  | [d1, d2] => { results := [.lit (.bool true)], args := [d1, d2] }
  | _ => none }
def spanMeetRow : OpenClaim := { program := "ytplhbnehlkoedaa", sum := "1e936690741c725a3c3ef087e73ba94133255e1b93bd537783ad0e346f5e2f1e", func := "vouch/vouchlaw01.SpanMeet", spec := "spanMeet", apart := false }
def SpanMeetSaid : Prop := spanMeetRow.holds Try.pinned (OpenSpec.ofChange spanMeetSpec)

/-- ITS FALSE NEIGHBOUR: 'it returns false'. Refute it at one input. -/
def spanMeetWrong : ChangeSpec := { name := "spanMeet", fn := fun _ => fun
  | [d1, d2] => { results := [.lit (.bool false)], args := [d1, d2] }
  | _ => none }
def SpanMeetWrongFalsely : Prop := spanMeetRow.holds Try.pinned (OpenSpec.ofChange spanMeetWrong)

/-- 'vouchlaw01.SpanCut': WHATEVER THE INPUT: true; the input reads as it did. -/
def spanCutSpec : ChangeSpec := { name := "spanCut", fn := fun _ => fun
  | [d1, d2] => { results := [.lit (.bool true)], args := [d1, d2] }
  | _ => none }
def spanCutRow : OpenClaim := { program := "ytplhbnehlkoedaa", sum := "1e936690741c725a3c3ef087e73ba94133255e1b93bd537783ad0e346f5e2f1e", func := "vouch/vouchlaw01.SpanCut", spec := "spanCut", apart := false }
def SpanCutSaid : Prop := spanCutRow.holds Try.pinned (OpenSpec.ofChange spanCutSpec)

/-- ITS FALSE NEIGHBOUR: 'it returns false'. Refute it at one input. -/
def spanCutWrong : ChangeSpec := { name := "spanCut", fn := fun _ => fun
  | [d1, d2] => { results := [.lit (.bool false)], args := [d1, d2] }
  | _ => none }
def SpanCutWrongFalsely : Prop := spanCutRow.holds Try.pinned (OpenSpec.ofChange spanCutWrong)

/-- 'vouchlaw01.SpanLines': WHATEVER THE INPUT: true; the input reads as it did. -/
def spanLinesSpec : ChangeSpec := { name := "spanLines", fn := fun _ => fun
  | [d1, d2, d3] => { results := [.lit (.bool true)], args := [d1, d2, d3] }
  | _ => none }
def spanLinesRow : OpenClaim := { program := "ytplhbnehlkoedaa", sum := "1e936690741c725a3c3ef087e73ba94133255e1b93bd537783ad0e346f5e2f1e", func := "vouch/vouchlaw01.SpanLines", spec := "spanLines", apart := false }
def SpanLinesSaid : Prop := spanLinesRow.holds Try.pinned (OpenSpec.ofChange spanLinesSpec)

/-- ITS FALSE NEIGHBOUR: 'it returns false'. Refute it at one input. -/
def spanLinesWrong : ChangeSpec := { name := "spanLines", fn := fun _ => fun
  | [d1, d2, d3] => { results := [.lit (.bool false)], args := [d1, d2, d3] }
  | _ => none }
def SpanLinesWrongFalsely : Prop := spanLinesRow.holds Try.pinned (OpenSpec.ofChange spanLinesWrong)

/-- 'vouchlaw01.SpanHull': WHATEVER THE INPUT: true; the input reads as it did. -/
def spanHullSpec : ChangeSpec := { name := "spanHull", fn := fun _ => fun
  | [d1, d2] => { results := [.lit (.bool true)], args := [d1, d2] }
  | _ => none }
def spanHullRow : OpenClaim := { program := "ytplhbnehlkoedaa", sum := "1e936690741c725a3c3ef087e73ba94133255e1b93bd537783ad0e346f5e2f1e", func := "vouch/vouchlaw01.SpanHull", spec := "spanHull", apart := false }
def SpanHullSaid : Prop := spanHullRow.holds Try.pinned (OpenSpec.ofChange spanHullSpec)

/-- ITS FALSE NEIGHBOUR: 'it returns false'. Refute it at one input. -/
def spanHullWrong : ChangeSpec := { name := "spanHull", fn := fun _ => fun
  | [d1, d2] => { results := [.lit (.bool false)], args := [d1, d2] }
  | _ => none }
def SpanHullWrongFalsely : Prop := spanHullRow.holds Try.pinned (OpenSpec.ofChange spanHullWrong)

/-- 'vouchlaw01.SpanNumbers': WHATEVER THE INPUT: true; the input reads as it did. -/
def spanNumbersSpec : ChangeSpec := { name := "spanNumbers", fn := fun _ => fun
  | [d1, d2, d3] => { results := [.lit (.bool true)], args := [d1, d2, d3] }
  | _ => none }
def spanNumbersRow : OpenClaim := { program := "ytplhbnehlkoedaa", sum := "1e936690741c725a3c3ef087e73ba94133255e1b93bd537783ad0e346f5e2f1e", func := "vouch/vouchlaw01.SpanNumbers", spec := "spanNumbers", apart := false }
def SpanNumbersSaid : Prop := spanNumbersRow.holds Try.pinned (OpenSpec.ofChange spanNumbersSpec)

/-- ITS FALSE NEIGHBOUR: 'it returns false'. Refute it at one input. -/
def spanNumbersWrong : ChangeSpec := { name := "spanNumbers", fn := fun _ => fun
  | [d1, d2, d3] => { results := [.lit (.bool false)], args := [d1, d2, d3] }
  | _ => none }
def SpanNumbersWrongFalsely : Prop := spanNumbersRow.holds Try.pinned (OpenSpec.ofChange spanNumbersWrong)

/- THE SECOND FORM. 'bulk': how many values and letters a reading holds, each counted each time it is reached (what is shared counts as often as it is met; a slice's spare places count too). A statement '..UptoSaid' is the law's where the arguments, and the package variables that the reading takes, are together of bulk at most 1048576: NARROWER than '..Said'. Prove '..Said' where nothing that the law and all that it calls make is longer than what came in: it says more and counts as full. Else prove '..UptoSaid'. A law counts once. -/
mutual
def uptoBulk {H : Type} : DataW H → Nat
  | .lit (.string bytes) => bytes.length + 1
  | .lit _ => 1
  | .nil => 1
  | .ptr d => uptoBulk d + 1
  | .slice elems spare => uptoBulkAll elems + uptoBulkAll spare + 1
  | .agg parts => uptoBulkAll parts + 1
  | .iface _ d => uptoBulk d + 1
  | .map entries => uptoBulkEntries entries + 1
  | .held _ => 1
def uptoBulkAll {H : Type} : List (DataW H) → Nat
  | [] => 0
  | d :: r => uptoBulk d + uptoBulkAll r
def uptoBulkEntries {H : Type} : List (Lit × DataW H) → Nat
  | [] => 0
  | x :: r => uptoBulkEntry x + uptoBulkEntries r
def uptoBulkEntry {H : Type} : Lit × DataW H → Nat
  | (.string bytes, d) => bytes.length + uptoBulk d + 1
  | (_, d) => uptoBulk d + 1
 end
def uptoSmall : (H : Type) → List (DataW H) → Bool := fun _ ds => decide (uptoBulkAll ds ≤ 1048576)
def OpenSpec.upto (s : _root_.Go.ChangeSpec) : _root_.Go.OpenSpec := { _root_.Go.OpenSpec.ofChange s with cond := some uptoSmall }

/-- 'vouchlaw01.SpanOf', WHERE WHAT IT READS IS OF BULK AT MOST 1048576: true; the input reads as it did. -/
def spanOfUptoRow : OpenClaim := { program := "ytplhbnehlkoedaa", sum := "1e936690741c725a3c3ef087e73ba94133255e1b93bd537783ad0e346f5e2f1e", func := "vouch/vouchlaw01.SpanOf", spec := "spanOf", apart := false, narrowed := true }
def SpanOfUptoSaid : Prop := spanOfUptoRow.holds Try.pinned (OpenSpec.upto spanOfSpec)

/-- 'vouchlaw01.SpanKinds', WHERE WHAT IT READS IS OF BULK AT MOST 1048576: true; the input reads as it did. -/
def spanKindsUptoRow : OpenClaim := { program := "ytplhbnehlkoedaa", sum := "1e936690741c725a3c3ef087e73ba94133255e1b93bd537783ad0e346f5e2f1e", func := "vouch/vouchlaw01.SpanKinds", spec := "spanKinds", apart := false, narrowed := true }
def SpanKindsUptoSaid : Prop := spanKindsUptoRow.holds Try.pinned (OpenSpec.upto spanKindsSpec)

/-- 'vouchlaw01.SpanMeet', WHERE WHAT IT READS IS OF BULK AT MOST 1048576: true; the input reads as it did. -/
def spanMeetUptoRow : OpenClaim := { program := "ytplhbnehlkoedaa", sum := "1e936690741c725a3c3ef087e73ba94133255e1b93bd537783ad0e346f5e2f1e", func := "vouch/vouchlaw01.SpanMeet", spec := "spanMeet", apart := false, narrowed := true }
def SpanMeetUptoSaid : Prop := spanMeetUptoRow.holds Try.pinned (OpenSpec.upto spanMeetSpec)

/-- 'vouchlaw01.SpanCut', WHERE WHAT IT READS IS OF BULK AT MOST 1048576: true; the input reads as it did. -/
def spanCutUptoRow : OpenClaim := { program := "ytplhbnehlkoedaa", sum := "1e936690741c725a3c3ef087e73ba94133255e1b93bd537783ad0e346f5e2f1e", func := "vouch/vouchlaw01.SpanCut", spec := "spanCut", apart := false, narrowed := true }
def SpanCutUptoSaid : Prop := spanCutUptoRow.holds Try.pinned (OpenSpec.upto spanCutSpec)

/-- 'vouchlaw01.SpanLines', WHERE WHAT IT READS IS OF BULK AT MOST 1048576: true; the input reads as it did. -/
def spanLinesUptoRow : OpenClaim := { program := "ytplhbnehlkoedaa", sum := "1e936690741c725a3c3ef087e73ba94133255e1b93bd537783ad0e346f5e2f1e", func := "vouch/vouchlaw01.SpanLines", spec := "spanLines", apart := false, narrowed := true }
def SpanLinesUptoSaid : Prop := spanLinesUptoRow.holds Try.pinned (OpenSpec.upto spanLinesSpec)

/-- 'vouchlaw01.SpanHull', WHERE WHAT IT READS IS OF BULK AT MOST 1048576: true; the input reads as it did. -/
def spanHullUptoRow : OpenClaim := { program := "ytplhbnehlkoedaa", sum := "1e936690741c725a3c3ef087e73ba94133255e1b93bd537783ad0e346f5e2f1e", func := "vouch/vouchlaw01.SpanHull", spec := "spanHull", apart := false, narrowed := true }
def SpanHullUptoSaid : Prop := spanHullUptoRow.holds Try.pinned (OpenSpec.upto spanHullSpec)

/-- 'vouchlaw01.SpanNumbers', WHERE WHAT IT READS IS OF BULK AT MOST 1048576: true; the input reads as it did. -/
def spanNumbersUptoRow : OpenClaim := { program := "ytplhbnehlkoedaa", sum := "1e936690741c725a3c3ef087e73ba94133255e1b93bd537783ad0e346f5e2f1e", func := "vouch/vouchlaw01.SpanNumbers", spec := "spanNumbers", apart := false, narrowed := true }
def SpanNumbersUptoSaid : Prop := spanNumbersUptoRow.holds Try.pinned (OpenSpec.upto spanNumbersSpec)

end Rows
end Go.Proofs.Ytplhbnehlkoedaa
