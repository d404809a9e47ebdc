/-
  No cell of these rows narrows 'for every input' (looked for: loops, veiled, ifaces, maps, wideKeys, modest, calm, conditions, laid).
  DERIVED. THE GIVEN ROWS OF THIS SEAT. 9 by the template 'for every input the law returns true; each argument reads behind the call as it read before'; 0 by the template 'total and deterministic' (their statements: YtgacbfbjikjanaaTotals.lean).
  GIVEN WITH THE SEED: the statements are not yours to turn. If you find one false, say at which input.
  Laid BY PROGRAM, IN A SANDBOX (cutbox-rows.mjs): the forced cells as the released guide's own fill.sh prints them over the translation cdfc42e43505cfde… (all of the seat's roots in one cut). By AI agents, Wed Nov 11 2026. No macro, syntax, notation, axiom, sorry.
-/
import Derived.Test.YtgacbfbjikjanaaChecked
import GoSem.Claim
import GoSem.ClaimJoined
import GoSem.ClaimMapViews
import Derived.JoinedTies
import Derived.KernelRfl
namespace Go.Proofs.Ytgacbfbjikjanaa
/- THE CELL 'sum', in the pinned program and in every row, IS THE sha256 OF THE DUMP (.gsa) THAT YtgacbfbjikjanaaProg.lean LOADS. Nothing in Lean hashes anything: it is a label: what it is worth is what the hold of that sum in a sandbox is worth. -/
noncomputable def Try.pinned : Pinned := { name := "ytgacbfbjikjanaa", sum := "cdfc42e43505cfde54ba10142cbb87898d13dabffcc09595f4694fcf697a84e0", checked := Try.checked }
namespace Rows
def none {H : Type} : Left H := { results := [], args := [] }

/-- 'vouchlaw04.BagPlays': WHATEVER THE INPUT: true; the input reads as it did. -/
def bagPlaysSpec : ChangeSpec := { name := "bagPlays", fn := fun _ => fun
  | [d1, d2] => { results := [.lit (.bool true)], args := [d1, d2] }
  | _ => none }
def bagPlaysRow : OpenClaim := { program := "ytgacbfbjikjanaa", sum := "cdfc42e43505cfde54ba10142cbb87898d13dabffcc09595f4694fcf697a84e0", func := "vouch/vouchlaw04.BagPlays", spec := "bagPlays", apart := false }
def BagPlaysSaid : Prop := bagPlaysRow.holds Try.pinned (OpenSpec.ofChange bagPlaysSpec)

/-- ITS FALSE NEIGHBOUR: 'it returns false'. Refute it at one input. -/
def bagPlaysWrong : ChangeSpec := { name := "bagPlays", fn := fun _ => fun
  | [d1, d2] => { results := [.lit (.bool false)], args := [d1, d2] }
  | _ => none }
def BagPlaysWrongFalsely : Prop := bagPlaysRow.holds Try.pinned (OpenSpec.ofChange bagPlaysWrong)

/-- 'vouchlaw04.BagOut': WHATEVER THE INPUT: true; the input reads as it did. -/
def bagOutSpec : ChangeSpec := { name := "bagOut", fn := fun _ => fun
  | [d1, d2] => { results := [.lit (.bool true)], args := [d1, d2] }
  | _ => none }
def bagOutRow : OpenClaim := { program := "ytgacbfbjikjanaa", sum := "cdfc42e43505cfde54ba10142cbb87898d13dabffcc09595f4694fcf697a84e0", func := "vouch/vouchlaw04.BagOut", spec := "bagOut", apart := false }
def BagOutSaid : Prop := bagOutRow.holds Try.pinned (OpenSpec.ofChange bagOutSpec)

/-- ITS FALSE NEIGHBOUR: 'it returns false'. Refute it at one input. -/
def bagOutWrong : ChangeSpec := { name := "bagOut", fn := fun _ => fun
  | [d1, d2] => { results := [.lit (.bool false)], args := [d1, d2] }
  | _ => none }
def BagOutWrongFalsely : Prop := bagOutRow.holds Try.pinned (OpenSpec.ofChange bagOutWrong)

/-- 'vouchlaw04.BagDoubles': WHATEVER THE INPUT: true; the input reads as it did. -/
def bagDoublesSpec : ChangeSpec := { name := "bagDoubles", fn := fun _ => fun
  | [d1, d2] => { results := [.lit (.bool true)], args := [d1, d2] }
  | _ => none }
def bagDoublesRow : OpenClaim := { program := "ytgacbfbjikjanaa", sum := "cdfc42e43505cfde54ba10142cbb87898d13dabffcc09595f4694fcf697a84e0", func := "vouch/vouchlaw04.BagDoubles", spec := "bagDoubles", apart := false }
def BagDoublesSaid : Prop := bagDoublesRow.holds Try.pinned (OpenSpec.ofChange bagDoublesSpec)

/-- ITS FALSE NEIGHBOUR: 'it returns false'. Refute it at one input. -/
def bagDoublesWrong : ChangeSpec := { name := "bagDoubles", fn := fun _ => fun
  | [d1, d2] => { results := [.lit (.bool false)], args := [d1, d2] }
  | _ => none }
def BagDoublesWrongFalsely : Prop := bagDoublesRow.holds Try.pinned (OpenSpec.ofChange bagDoublesWrong)

/-- 'vouchlaw08.RecentPlays': WHATEVER THE INPUT: true; the input reads as it did. -/
def recentPlaysSpec : ChangeSpec := { name := "recentPlays", fn := fun _ => fun
  | [d1, d2, d3] => { results := [.lit (.bool true)], args := [d1, d2, d3] }
  | _ => none }
def recentPlaysRow : OpenClaim := { program := "ytgacbfbjikjanaa", sum := "cdfc42e43505cfde54ba10142cbb87898d13dabffcc09595f4694fcf697a84e0", func := "vouch/vouchlaw08.RecentPlays", spec := "recentPlays", apart := false }
def RecentPlaysSaid : Prop := recentPlaysRow.holds Try.pinned (OpenSpec.ofChange recentPlaysSpec)

/-- ITS FALSE NEIGHBOUR: 'it returns false'. Refute it at one input. -/
def recentPlaysWrong : ChangeSpec := { name := "recentPlays", fn := fun _ => fun
  | [d1, d2, d3] => { results := [.lit (.bool false)], args := [d1, d2, d3] }
  | _ => none }
def RecentPlaysWrongFalsely : Prop := recentPlaysRow.holds Try.pinned (OpenSpec.ofChange recentPlaysWrong)

/-- 'vouchlaw08.RecentHolds': WHATEVER THE INPUT: true; the input reads as it did. -/
def recentHoldsSpec : ChangeSpec := { name := "recentHolds", fn := fun _ => fun
  | [d1, d2, d3, d4] => { results := [.lit (.bool true)], args := [d1, d2, d3, d4] }
  | _ => none }
def recentHoldsRow : OpenClaim := { program := "ytgacbfbjikjanaa", sum := "cdfc42e43505cfde54ba10142cbb87898d13dabffcc09595f4694fcf697a84e0", func := "vouch/vouchlaw08.RecentHolds", spec := "recentHolds", apart := false }
def RecentHoldsSaid : Prop := recentHoldsRow.holds Try.pinned (OpenSpec.ofChange recentHoldsSpec)

/-- ITS FALSE NEIGHBOUR: 'it returns false'. Refute it at one input. -/
def recentHoldsWrong : ChangeSpec := { name := "recentHolds", fn := fun _ => fun
  | [d1, d2, d3, d4] => { results := [.lit (.bool false)], args := [d1, d2, d3, d4] }
  | _ => none }
def RecentHoldsWrongFalsely : Prop := recentHoldsRow.holds Try.pinned (OpenSpec.ofChange recentHoldsWrong)

/-- 'vouchlaw04.BagClones': WHATEVER THE INPUT: true; the input reads as it did. -/
def bagClonesSpec : ChangeSpec := { name := "bagClones", fn := fun _ => fun
  | [d1, d2, d3] => { results := [.lit (.bool true)], args := [d1, d2, d3] }
  | _ => none }
def bagClonesRow : OpenClaim := { program := "ytgacbfbjikjanaa", sum := "cdfc42e43505cfde54ba10142cbb87898d13dabffcc09595f4694fcf697a84e0", func := "vouch/vouchlaw04.BagClones", spec := "bagClones", apart := false }
def BagClonesSaid : Prop := bagClonesRow.holds Try.pinned (OpenSpec.ofChange bagClonesSpec)

/-- ITS FALSE NEIGHBOUR: 'it returns false'. Refute it at one input. -/
def bagClonesWrong : ChangeSpec := { name := "bagClones", fn := fun _ => fun
  | [d1, d2, d3] => { results := [.lit (.bool false)], args := [d1, d2, d3] }
  | _ => none }
def BagClonesWrongFalsely : Prop := bagClonesRow.holds Try.pinned (OpenSpec.ofChange bagClonesWrong)

/-- 'vouchlaw04.BagNone': WHATEVER THE INPUT: true; the input reads as it did. -/
def bagNoneSpec : ChangeSpec := { name := "bagNone", fn := fun _ => fun
  | [d] => { results := [.lit (.bool true)], args := [d] }
  | _ => none }
def bagNoneRow : OpenClaim := { program := "ytgacbfbjikjanaa", sum := "cdfc42e43505cfde54ba10142cbb87898d13dabffcc09595f4694fcf697a84e0", func := "vouch/vouchlaw04.BagNone", spec := "bagNone", apart := false }
def BagNoneSaid : Prop := bagNoneRow.holds Try.pinned (OpenSpec.ofChange bagNoneSpec)

/-- ITS FALSE NEIGHBOUR: 'it returns false'. Refute it at one input. -/
def bagNoneWrong : ChangeSpec := { name := "bagNone", fn := fun _ => fun
  | [d] => { results := [.lit (.bool false)], args := [d] }
  | _ => none }
def BagNoneWrongFalsely : Prop := bagNoneRow.holds Try.pinned (OpenSpec.ofChange bagNoneWrong)

/-- 'vouchlaw08.RecentClones': WHATEVER THE INPUT: true; the input reads as it did. -/
def recentClonesSpec : ChangeSpec := { name := "recentClones", fn := fun _ => fun
  | [d1, d2, d3] => { results := [.lit (.bool true)], args := [d1, d2, d3] }
  | _ => none }
def recentClonesRow : OpenClaim := { program := "ytgacbfbjikjanaa", sum := "cdfc42e43505cfde54ba10142cbb87898d13dabffcc09595f4694fcf697a84e0", func := "vouch/vouchlaw08.RecentClones", spec := "recentClones", apart := false }
def RecentClonesSaid : Prop := recentClonesRow.holds Try.pinned (OpenSpec.ofChange recentClonesSpec)

/-- ITS FALSE NEIGHBOUR: 'it returns false'. Refute it at one input. -/
def recentClonesWrong : ChangeSpec := { name := "recentClones", fn := fun _ => fun
  | [d1, d2, d3] => { results := [.lit (.bool false)], args := [d1, d2, d3] }
  | _ => none }
def RecentClonesWrongFalsely : Prop := recentClonesRow.holds Try.pinned (OpenSpec.ofChange recentClonesWrong)

/-- 'vouchlaw08.RecentNone': WHATEVER THE INPUT: true; the input reads as it did. -/
def recentNoneSpec : ChangeSpec := { name := "recentNone", fn := fun _ => fun
  | [d] => { results := [.lit (.bool true)], args := [d] }
  | _ => none }
def recentNoneRow : OpenClaim := { program := "ytgacbfbjikjanaa", sum := "cdfc42e43505cfde54ba10142cbb87898d13dabffcc09595f4694fcf697a84e0", func := "vouch/vouchlaw08.RecentNone", spec := "recentNone", apart := false }
def RecentNoneSaid : Prop := recentNoneRow.holds Try.pinned (OpenSpec.ofChange recentNoneSpec)

/-- ITS FALSE NEIGHBOUR: 'it returns false'. Refute it at one input. -/
def recentNoneWrong : ChangeSpec := { name := "recentNone", fn := fun _ => fun
  | [d] => { results := [.lit (.bool false)], args := [d] }
  | _ => none }
def RecentNoneWrongFalsely : Prop := recentNoneRow.holds Try.pinned (OpenSpec.ofChange recentNoneWrong)

/- THE SECOND FORM. 'bulk': how many values and letters a reading holds, each counted each time it is reached (what is shared counts as often as it is met; a slice's spare places count too). A statement '..UptoSaid' is the law's where the arguments, and the package variables that the reading takes, are together of bulk at most 1048576: NARROWER than '..Said'. Prove '..Said' where nothing that the law and all that it calls make is longer than what came in: it says more and counts as full. Else prove '..UptoSaid'. A law counts once. -/
mutual
def uptoBulk {H : Type} : DataW H → Nat
  | .lit (.string bytes) => bytes.length + 1
  | .lit _ => 1
  | .nil => 1
  | .ptr d => uptoBulk d + 1
  | .slice elems spare => uptoBulkAll elems + uptoBulkAll spare + 1
  | .agg parts => uptoBulkAll parts + 1
  | .iface _ d => uptoBulk d + 1
  | .map entries => uptoBulkEntries entries + 1
  | .held _ => 1
def uptoBulkAll {H : Type} : List (DataW H) → Nat
  | [] => 0
  | d :: r => uptoBulk d + uptoBulkAll r
def uptoBulkEntries {H : Type} : List (Lit × DataW H) → Nat
  | [] => 0
  | x :: r => uptoBulkEntry x + uptoBulkEntries r
def uptoBulkEntry {H : Type} : Lit × DataW H → Nat
  | (.string bytes, d) => bytes.length + uptoBulk d + 1
  | (_, d) => uptoBulk d + 1
 end
def uptoSmall : (H : Type) → List (DataW H) → Bool := fun _ ds => decide (uptoBulkAll ds ≤ 1048576)
def OpenSpec.upto (s : _root_.Go.ChangeSpec) : _root_.Go.OpenSpec := { _root_.Go.OpenSpec.ofChange s with cond := some uptoSmall }

/-- 'vouchlaw04.BagPlays', WHERE WHAT IT READS IS OF BULK AT MOST 1048576: true; the input reads as it did. -/
def bagPlaysUptoRow : OpenClaim := { program := "ytgacbfbjikjanaa", sum := "cdfc42e43505cfde54ba10142cbb87898d13dabffcc09595f4694fcf697a84e0", func := "vouch/vouchlaw04.BagPlays", spec := "bagPlays", apart := false, narrowed := true }
def BagPlaysUptoSaid : Prop := bagPlaysUptoRow.holds Try.pinned (OpenSpec.upto bagPlaysSpec)

/-- 'vouchlaw04.BagOut', WHERE WHAT IT READS IS OF BULK AT MOST 1048576: true; the input reads as it did. -/
def bagOutUptoRow : OpenClaim := { program := "ytgacbfbjikjanaa", sum := "cdfc42e43505cfde54ba10142cbb87898d13dabffcc09595f4694fcf697a84e0", func := "vouch/vouchlaw04.BagOut", spec := "bagOut", apart := false, narrowed := true }
def BagOutUptoSaid : Prop := bagOutUptoRow.holds Try.pinned (OpenSpec.upto bagOutSpec)

/-- 'vouchlaw04.BagDoubles', WHERE WHAT IT READS IS OF BULK AT MOST 1048576: true; the input reads as it did. -/
def bagDoublesUptoRow : OpenClaim := { program := "ytgacbfbjikjanaa", sum := "cdfc42e43505cfde54ba10142cbb87898d13dabffcc09595f4694fcf697a84e0", func := "vouch/vouchlaw04.BagDoubles", spec := "bagDoubles", apart := false, narrowed := true }
def BagDoublesUptoSaid : Prop := bagDoublesUptoRow.holds Try.pinned (OpenSpec.upto bagDoublesSpec)

/-- 'vouchlaw08.RecentPlays', WHERE WHAT IT READS IS OF BULK AT MOST 1048576: true; the input reads as it did. -/
def recentPlaysUptoRow : OpenClaim := { program := "ytgacbfbjikjanaa", sum := "cdfc42e43505cfde54ba10142cbb87898d13dabffcc09595f4694fcf697a84e0", func := "vouch/vouchlaw08.RecentPlays", spec := "recentPlays", apart := false, narrowed := true }
def RecentPlaysUptoSaid : Prop := recentPlaysUptoRow.holds Try.pinned (OpenSpec.upto recentPlaysSpec)

/-- 'vouchlaw08.RecentHolds', WHERE WHAT IT READS IS OF BULK AT MOST 1048576: true; the input reads as it did. -/
def recentHoldsUptoRow : OpenClaim := { program := "ytgacbfbjikjanaa", sum := "cdfc42e43505cfde54ba10142cbb87898d13dabffcc09595f4694fcf697a84e0", func := "vouch/vouchlaw08.RecentHolds", spec := "recentHolds", apart := false, narrowed := true }
def RecentHoldsUptoSaid : Prop := recentHoldsUptoRow.holds Try.pinned (OpenSpec.upto recentHoldsSpec)

/-- 'vouchlaw04.BagClones', WHERE WHAT IT READS IS OF BULK AT MOST 1048576: true; the input reads as it did. -/
def bagClonesUptoRow : OpenClaim := { program := "ytgacbfbjikjanaa", sum := "cdfc42e43505cfde54ba10142cbb87898d13dabffcc09595f4694fcf697a84e0", func := "vouch/vouchlaw04.BagClones", spec := "bagClones", apart := false, narrowed := true }
def BagClonesUptoSaid : Prop := bagClonesUptoRow.holds Try.pinned (OpenSpec.upto bagClonesSpec)

/-- 'vouchlaw04.BagNone', WHERE WHAT IT READS IS OF BULK AT MOST 1048576: true; the input reads as it did. -/
def bagNoneUptoRow : OpenClaim := { program := "ytgacbfbjikjanaa", sum := "cdfc42e43505cfde54ba10142cbb87898d13dabffcc09595f4694fcf697a84e0", func := "vouch/vouchlaw04.BagNone", spec := "bagNone", apart := false, narrowed := true }
def BagNoneUptoSaid : Prop := bagNoneUptoRow.holds Try.pinned (OpenSpec.upto bagNoneSpec)

/-- 'vouchlaw08.RecentClones', WHERE WHAT IT READS IS OF BULK AT MOST 1048576: true; the input reads as it did. -/
def recentClonesUptoRow : OpenClaim := { program := "ytgacbfbjikjanaa", sum := "cdfc42e43505cfde54ba10142cbb87898d13dabffcc09595f4694fcf697a84e0", func := "vouch/vouchlaw08.RecentClones", spec := "recentClones", apart := false, narrowed := true }
def RecentClonesUptoSaid : Prop := recentClonesUptoRow.holds Try.pinned (OpenSpec.upto recentClonesSpec)

/-- 'vouchlaw08.RecentNone', WHERE WHAT IT READS IS OF BULK AT MOST 1048576: true; the input reads as it did. -/
def recentNoneUptoRow : OpenClaim := { program := "ytgacbfbjikjanaa", sum := "cdfc42e43505cfde54ba10142cbb87898d13dabffcc09595f4694fcf697a84e0", func := "vouch/vouchlaw08.RecentNone", spec := "recentNone", apart := false, narrowed := true }
def RecentNoneUptoSaid : Prop := recentNoneUptoRow.holds Try.pinned (OpenSpec.upto recentNoneSpec)

end Rows
end Go.Proofs.Ytgacbfbjikjanaa
