/-
  No cell of these rows narrows 'for every input' (looked for: loops, veiled, ifaces, maps, wideKeys, modest, calm, conditions, laid).
  DERIVED. THE GIVEN ROWS OF THIS SEAT. 7 by the template 'for every input the law returns true; each argument reads behind the call as it read before'; 0 by the template 'total and deterministic' (their statements: YtnofclmnjhkhiaaTotals.lean).
  GIVEN WITH THE SEED: the statements are not yours to turn. If you find one false, say at which input.
  Laid BY PROGRAM, IN A SANDBOX (cutbox-rows.mjs): the forced cells as the released guide's own fill.sh prints them over the translation 13da5b06ee14bcd6… (all of the seat's roots in one cut). By AI agents, Wed Nov 11 2026. No macro, syntax, notation, axiom, sorry.
-/
import Derived.Test.YtnofclmnjhkhiaaChecked
import GoSem.Claim
import GoSem.ClaimJoined
import GoSem.ClaimMapViews
import Derived.JoinedTies
import Derived.KernelRfl
namespace Go.Proofs.Ytnofclmnjhkhiaa
/- THE CELL 'sum', in the pinned program and in every row, IS THE sha256 OF THE DUMP (.gsa) THAT YtnofclmnjhkhiaaProg.lean LOADS. Nothing in Lean hashes anything: it is a label: what it is worth is what the hold of that sum in a sandbox is worth. -/
noncomputable def Try.pinned : Pinned := { name := "ytnofclmnjhkhiaa", sum := "13da5b06ee14bcd66d6a5508912babd9dc109bc11f1a985aed486bd527ab2326", checked := Try.checked }
namespace Rows
def none {H : Type} : Left H := { results := [], args := [] }

/-- 'vouchlaw02.CoverNumbers': WHATEVER THE INPUT: true; the input reads as it did. -/
def coverNumbersSpec : ChangeSpec := { name := "coverNumbers", fn := fun _ => fun
  | [d1, d2] => { results := [.lit (.bool true)], args := [d1, d2] }
  | _ => none }
def coverNumbersRow : OpenClaim := { program := "ytnofclmnjhkhiaa", sum := "13da5b06ee14bcd66d6a5508912babd9dc109bc11f1a985aed486bd527ab2326", func := "vouch/vouchlaw02.CoverNumbers", spec := "coverNumbers", inPlace := ["slices.overlaps[vouch/span.Span[int64]]"], unfollowed := true, recurses := true, apart := false }
def CoverNumbersSaid : Prop := coverNumbersRow.holds Try.pinned (OpenSpec.ofChange coverNumbersSpec)

/-- ITS FALSE NEIGHBOUR: 'it returns false'. Refute it at one input. -/
def coverNumbersWrong : ChangeSpec := { name := "coverNumbers", fn := fun _ => fun
  | [d1, d2] => { results := [.lit (.bool false)], args := [d1, d2] }
  | _ => none }
def CoverNumbersWrongFalsely : Prop := coverNumbersRow.holds Try.pinned (OpenSpec.ofChange coverNumbersWrong)

/-- 'vouchlaw02.CoverPlays': WHATEVER THE INPUT: true; the input reads as it did. -/
def coverPlaysSpec : ChangeSpec := { name := "coverPlays", fn := fun _ => fun
  | [d] => { results := [.lit (.bool true)], args := [d] }
  | _ => none }
def coverPlaysRow : OpenClaim := { program := "ytnofclmnjhkhiaa", sum := "13da5b06ee14bcd66d6a5508912babd9dc109bc11f1a985aed486bd527ab2326", func := "vouch/vouchlaw02.CoverPlays", spec := "coverPlays", inPlace := ["slices.overlaps[vouch/span.Span[int64]]"], unfollowed := true, recurses := true, apart := false }
def CoverPlaysSaid : Prop := coverPlaysRow.holds Try.pinned (OpenSpec.ofChange coverPlaysSpec)

/-- ITS FALSE NEIGHBOUR: 'it returns false'. Refute it at one input. -/
def coverPlaysWrong : ChangeSpec := { name := "coverPlays", fn := fun _ => fun
  | [d] => { results := [.lit (.bool false)], args := [d] }
  | _ => none }
def CoverPlaysWrongFalsely : Prop := coverPlaysRow.holds Try.pinned (OpenSpec.ofChange coverPlaysWrong)

/-- 'vouchlaw02.CoverHolds': WHATEVER THE INPUT: true; the input reads as it did. -/
def coverHoldsSpec : ChangeSpec := { name := "coverHolds", fn := fun _ => fun
  | [d1, d2, d3] => { results := [.lit (.bool true)], args := [d1, d2, d3] }
  | _ => none }
def coverHoldsRow : OpenClaim := { program := "ytnofclmnjhkhiaa", sum := "13da5b06ee14bcd66d6a5508912babd9dc109bc11f1a985aed486bd527ab2326", func := "vouch/vouchlaw02.CoverHolds", spec := "coverHolds", inPlace := ["slices.overlaps[vouch/span.Span[int64]]"], unfollowed := true, recurses := true, apart := false }
def CoverHoldsSaid : Prop := coverHoldsRow.holds Try.pinned (OpenSpec.ofChange coverHoldsSpec)

/-- ITS FALSE NEIGHBOUR: 'it returns false'. Refute it at one input. -/
def coverHoldsWrong : ChangeSpec := { name := "coverHolds", fn := fun _ => fun
  | [d1, d2, d3] => { results := [.lit (.bool false)], args := [d1, d2, d3] }
  | _ => none }
def CoverHoldsWrongFalsely : Prop := coverHoldsRow.holds Try.pinned (OpenSpec.ofChange coverHoldsWrong)

/-- 'vouchlaw02.CoverAll': WHATEVER THE INPUT: true; the input reads as it did. -/
def coverAllSpec : ChangeSpec := { name := "coverAll", fn := fun _ => fun
  | [d] => { results := [.lit (.bool true)], args := [d] }
  | _ => none }
def coverAllRow : OpenClaim := { program := "ytnofclmnjhkhiaa", sum := "13da5b06ee14bcd66d6a5508912babd9dc109bc11f1a985aed486bd527ab2326", func := "vouch/vouchlaw02.CoverAll", spec := "coverAll", inPlace := ["slices.overlaps[vouch/span.Span[int64]]"], unfollowed := true, recurses := true, apart := false }
def CoverAllSaid : Prop := coverAllRow.holds Try.pinned (OpenSpec.ofChange coverAllSpec)

/-- ITS FALSE NEIGHBOUR: 'it returns false'. Refute it at one input. -/
def coverAllWrong : ChangeSpec := { name := "coverAll", fn := fun _ => fun
  | [d] => { results := [.lit (.bool false)], args := [d] }
  | _ => none }
def CoverAllWrongFalsely : Prop := coverAllRow.holds Try.pinned (OpenSpec.ofChange coverAllWrong)

/-- 'vouchlaw02.CoverClones': WHATEVER THE INPUT: true; the input reads as it did. -/
def coverClonesSpec : ChangeSpec := { name := "coverClones", fn := fun _ => fun
  | [d1, d2] => { results := [.lit (.bool true)], args := [d1, d2] }
  | _ => none }
def coverClonesRow : OpenClaim := { program := "ytnofclmnjhkhiaa", sum := "13da5b06ee14bcd66d6a5508912babd9dc109bc11f1a985aed486bd527ab2326", func := "vouch/vouchlaw02.CoverClones", spec := "coverClones", inPlace := ["slices.overlaps[vouch/span.Span[int64]]"], unfollowed := true, recurses := true, apart := false }
def CoverClonesSaid : Prop := coverClonesRow.holds Try.pinned (OpenSpec.ofChange coverClonesSpec)

/-- ITS FALSE NEIGHBOUR: 'it returns false'. Refute it at one input. -/
def coverClonesWrong : ChangeSpec := { name := "coverClones", fn := fun _ => fun
  | [d1, d2] => { results := [.lit (.bool false)], args := [d1, d2] }
  | _ => none }
def CoverClonesWrongFalsely : Prop := coverClonesRow.holds Try.pinned (OpenSpec.ofChange coverClonesWrong)

/-- 'vouchlaw02.CoverMeets': WHATEVER THE INPUT: true; the input reads as it did. -/
def coverMeetsSpec : ChangeSpec := { name := "coverMeets", fn := fun _ => fun
  | [d1, d2] => { results := [.lit (.bool true)], args := [d1, d2] }
  | _ => none }
def coverMeetsRow : OpenClaim := { program := "ytnofclmnjhkhiaa", sum := "13da5b06ee14bcd66d6a5508912babd9dc109bc11f1a985aed486bd527ab2326", func := "vouch/vouchlaw02.CoverMeets", spec := "coverMeets", inPlace := ["slices.overlaps[vouch/span.Span[int64]]"], unfollowed := true, recurses := true, apart := false }
def CoverMeetsSaid : Prop := coverMeetsRow.holds Try.pinned (OpenSpec.ofChange coverMeetsSpec)

/-- ITS FALSE NEIGHBOUR: 'it returns false'. Refute it at one input. -/
def coverMeetsWrong : ChangeSpec := { name := "coverMeets", fn := fun _ => fun
  | [d1, d2] => { results := [.lit (.bool false)], args := [d1, d2] }
  | _ => none }
def CoverMeetsWrongFalsely : Prop := coverMeetsRow.holds Try.pinned (OpenSpec.ofChange coverMeetsWrong)

/-- 'vouchlaw02.CoverNone': WHATEVER THE INPUT: true; the input reads as it did. -/
def coverNoneSpec : ChangeSpec := { name := "coverNone", fn := fun _ => fun
  | [d] => { results := [.lit (.bool true)], args := [d] }
  | _ => none }
def coverNoneRow : OpenClaim := { program := "ytnofclmnjhkhiaa", sum := "13da5b06ee14bcd66d6a5508912babd9dc109bc11f1a985aed486bd527ab2326", func := "vouch/vouchlaw02.CoverNone", spec := "coverNone", inPlace := ["slices.overlaps[vouch/span.Span[int64]]"], unfollowed := true, recurses := true, apart := false }
def CoverNoneSaid : Prop := coverNoneRow.holds Try.pinned (OpenSpec.ofChange coverNoneSpec)

/-- ITS FALSE NEIGHBOUR: 'it returns false'. Refute it at one input. -/
def coverNoneWrong : ChangeSpec := { name := "coverNone", fn := fun _ => fun
  | [d] => { results := [.lit (.bool false)], args := [d] }
  | _ => none }
def CoverNoneWrongFalsely : Prop := coverNoneRow.holds Try.pinned (OpenSpec.ofChange coverNoneWrong)

/- THE SECOND FORM. 'bulk': how many values and letters a reading holds, each counted each time it is reached (what is shared counts as often as it is met; a slice's spare places count too). A statement '..UptoSaid' is the law's where the arguments, and the package variables that the reading takes, are together of bulk at most 1048576: NARROWER than '..Said'. Prove '..Said' where nothing that the law and all that it calls make is longer than what came in: it says more and counts as full. Else prove '..UptoSaid'. A law counts once. -/
mutual
def uptoBulk {H : Type} : DataW H → Nat
  | .lit (.string bytes) => bytes.length + 1
  | .lit _ => 1
  | .nil => 1
  | .ptr d => uptoBulk d + 1
  | .slice elems spare => uptoBulkAll elems + uptoBulkAll spare + 1
  | .agg parts => uptoBulkAll parts + 1
  | .iface _ d => uptoBulk d + 1
  | .map entries => uptoBulkEntries entries + 1
  | .held _ => 1
def uptoBulkAll {H : Type} : List (DataW H) → Nat
  | [] => 0
  | d :: r => uptoBulk d + uptoBulkAll r
def uptoBulkEntries {H : Type} : List (Lit × DataW H) → Nat
  | [] => 0
  | x :: r => uptoBulkEntry x + uptoBulkEntries r
def uptoBulkEntry {H : Type} : Lit × DataW H → Nat
  | (.string bytes, d) => bytes.length + uptoBulk d + 1
  | (_, d) => uptoBulk d + 1
 end
def uptoSmall : (H : Type) → List (DataW H) → Bool := fun _ ds => decide (uptoBulkAll ds ≤ 1048576)
def OpenSpec.upto (s : _root_.Go.ChangeSpec) : _root_.Go.OpenSpec := { _root_.Go.OpenSpec.ofChange s with cond := some uptoSmall }

/-- 'vouchlaw02.CoverNumbers', WHERE WHAT IT READS IS OF BULK AT MOST 1048576: true; the input reads as it did. -/
def coverNumbersUptoRow : OpenClaim := { program := "ytnofclmnjhkhiaa", sum := "13da5b06ee14bcd66d6a5508912babd9dc109bc11f1a985aed486bd527ab2326", func := "vouch/vouchlaw02.CoverNumbers", spec := "coverNumbers", inPlace := ["slices.overlaps[vouch/span.Span[int64]]"], unfollowed := true, recurses := true, apart := false, narrowed := true }
def CoverNumbersUptoSaid : Prop := coverNumbersUptoRow.holds Try.pinned (OpenSpec.upto coverNumbersSpec)

/-- 'vouchlaw02.CoverPlays', WHERE WHAT IT READS IS OF BULK AT MOST 1048576: true; the input reads as it did. -/
def coverPlaysUptoRow : OpenClaim := { program := "ytnofclmnjhkhiaa", sum := "13da5b06ee14bcd66d6a5508912babd9dc109bc11f1a985aed486bd527ab2326", func := "vouch/vouchlaw02.CoverPlays", spec := "coverPlays", inPlace := ["slices.overlaps[vouch/span.Span[int64]]"], unfollowed := true, recurses := true, apart := false, narrowed := true }
def CoverPlaysUptoSaid : Prop := coverPlaysUptoRow.holds Try.pinned (OpenSpec.upto coverPlaysSpec)

/-- 'vouchlaw02.CoverHolds', WHERE WHAT IT READS IS OF BULK AT MOST 1048576: true; the input reads as it did. -/
def coverHoldsUptoRow : OpenClaim := { program := "ytnofclmnjhkhiaa", sum := "13da5b06ee14bcd66d6a5508912babd9dc109bc11f1a985aed486bd527ab2326", func := "vouch/vouchlaw02.CoverHolds", spec := "coverHolds", inPlace := ["slices.overlaps[vouch/span.Span[int64]]"], unfollowed := true, recurses := true, apart := false, narrowed := true }
def CoverHoldsUptoSaid : Prop := coverHoldsUptoRow.holds Try.pinned (OpenSpec.upto coverHoldsSpec)

/-- 'vouchlaw02.CoverAll', WHERE WHAT IT READS IS OF BULK AT MOST 1048576: true; the input reads as it did. -/
def coverAllUptoRow : OpenClaim := { program := "ytnofclmnjhkhiaa", sum := "13da5b06ee14bcd66d6a5508912babd9dc109bc11f1a985aed486bd527ab2326", func := "vouch/vouchlaw02.CoverAll", spec := "coverAll", inPlace := ["slices.overlaps[vouch/span.Span[int64]]"], unfollowed := true, recurses := true, apart := false, narrowed := true }
def CoverAllUptoSaid : Prop := coverAllUptoRow.holds Try.pinned (OpenSpec.upto coverAllSpec)

/-- 'vouchlaw02.CoverClones', WHERE WHAT IT READS IS OF BULK AT MOST 1048576: true; the input reads as it did. -/
def coverClonesUptoRow : OpenClaim := { program := "ytnofclmnjhkhiaa", sum := "13da5b06ee14bcd66d6a5508912babd9dc109bc11f1a985aed486bd527ab2326", func := "vouch/vouchlaw02.CoverClones", spec := "coverClones", inPlace := ["slices.overlaps[vouch/span.Span[int64]]"], unfollowed := true, recurses := true, apart := false, narrowed := true }
def CoverClonesUptoSaid : Prop := coverClonesUptoRow.holds Try.pinned (OpenSpec.upto coverClonesSpec)

/-- 'vouchlaw02.CoverMeets', WHERE WHAT IT READS IS OF BULK AT MOST 1048576: true; the input reads as it did. -/
def coverMeetsUptoRow : OpenClaim := { program := "ytnofclmnjhkhiaa", sum := "13da5b06ee14bcd66d6a5508912babd9dc109bc11f1a985aed486bd527ab2326", func := "vouch/vouchlaw02.CoverMeets", spec := "coverMeets", inPlace := ["slices.overlaps[vouch/span.Span[int64]]"], unfollowed := true, recurses := true, apart := false, narrowed := true }
def CoverMeetsUptoSaid : Prop := coverMeetsUptoRow.holds Try.pinned (OpenSpec.upto coverMeetsSpec)

/-- 'vouchlaw02.CoverNone', WHERE WHAT IT READS IS OF BULK AT MOST 1048576: true; the input reads as it did. -/
def coverNoneUptoRow : OpenClaim := { program := "ytnofclmnjhkhiaa", sum := "13da5b06ee14bcd66d6a5508912babd9dc109bc11f1a985aed486bd527ab2326", func := "vouch/vouchlaw02.CoverNone", spec := "coverNone", inPlace := ["slices.overlaps[vouch/span.Span[int64]]"], unfollowed := true, recurses := true, apart := false, narrowed := true }
def CoverNoneUptoSaid : Prop := coverNoneUptoRow.holds Try.pinned (OpenSpec.upto coverNoneSpec)

end Rows
end Go.Proofs.Ytnofclmnjhkhiaa
