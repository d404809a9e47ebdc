/- CoverMeets: Meet answers as the chapter says, for every input as a new cover. No condition. -/
import Derived.Test.YtnofclmnjhkhiaaRowLib
import Derived.Test.YtnofclmnjhkhiaaCRd
import Derived.Test.YtnofclmnjhkhiaaCt
import Derived.SizedLaws
import Derived.WalkKit
import Derived.ProofKit
import Derived.OpenShut
import Derived.Lib.SmallJoins
namespace Go.Proofs.Ytnofclmnjhkhiaa.coverMeetsRow
open Go.ChangeShapes Go.WideShapes Go.ChangeAt Go.RowKit
open Go.Joins
open Go.ChangeMaps (open_string)

theorem own : ownKnob Try.prog.godebug = none := by kernel_rfl
theorem laidOut : laidOutB Try.prog = true := by kernel_rfl

set_option maxRecDepth 100000 in
set_option linter.unusedVariables false in
theorem lifted (os : Os) (started : os.Started) (H : Type) (enc : TypeId × Value → H) :
    ReturnsInHanded {} Try.checked os 8 .any (Rows.coverMeetsSpec.pre6 enc Try.prog Try.f8 Rows.coverMeetsRow.domain false) (Rows.coverMeetsSpec.post enc Try.prog Try.f8 false true false false) := by
  refine returnsInHanded_of_change_sized (C := Try.checked) own started (by kernel_rfl) Try.func8
    (ChangeSpec.witness6 (enc := enc) (C := Try.checked) false ⟨#[], #[.slice none 0 0, .slice none 0 0], []⟩ 8 (by kernel_rfl) (by kernel_rfl) (by kernel_rfl) (by kernel_rfl)) ?_
  intro W base args ds gs before hval0 hW _ hsz0 _
  have hsz : (DataW.weightsEach Try.prog (Try.f8.params.toList ++ Rows.coverMeetsSpec.plain.varTypes Try.prog) (ds ++ gs)).all (· ≤ reachBytes) = true := hsz0
  clear hsz0
  have hval : ∀ (j : Nat) t v, Try.f8.params[j]? = some t → args[j]? = some v → Value.okWide Try.prog W .any base t v := hval0
  have hW' := hW
  obtain ⟨p, q, hA0, hV, rfl, hfz, hnd⟩ := hW
  have hA : DataW.TrodAll enc Try.prog W 0 (fun _ => true) true Try.f8.params.toList args.toList ds p := hA0
  rw [Try.params8] at hA hval hsz
  obtain ⟨v0, vs0, d0, ds0, p0, q0, hargs, rfl, rfl, h0, r0⟩ := trodAll_cons hA
  obtain ⟨v1, vs1, d1, ds1, p1, q1, rfl, rfl, rfl, h1, r1⟩ := trodAll_cons r0
  obtain ⟨rfl, rfl, rfl⟩ := trodAll_nil r1
  obtain rfl : args = #[v0, v1] := by cases args; simp_all
  obtain ⟨rfl, rfl⟩ := trodVars_none hV
  clear hA0 hval0
  obtain ⟨l, hs0⟩ := Rdr.open_arg_slice (s := 4) Try.underlying22 (by kernel_rfl) (by decide) rd_op (hval 0 22 v0 rfl rfl) h0
  obtain ⟨pp0, cc0, rfl, hlc0, hcm0⟩ := hs0.form
  have hre0 : l.length ≤ 4398046511103 := by have e := slice_reach (j := 0) hsz rfl rfl Try.underlying22 h0; rw [Try.bytes27] at e; unfold reachBytes at e; omega
  obtain ⟨l2, hs1⟩ := Rdr.open_arg_slice (s := 4) Try.underlying22 (by kernel_rfl) (by decide) rd_op (hval 1 22 v1 rfl rfl) h1
  obtain ⟨pp1, cc1, rfl, hlc1, hcm1⟩ := hs1.form
  have hre1 : l2.length ≤ 4398046511103 := by have e := slice_reach (j := 1) hsz rfl rfl Try.underlying22 h1; rw [Try.bytes27] at e; unfold reachBytes at e; omega
  refine (c_meetsLaw W _ _ l l2 (slIs_ops hs0) (slIs_ops hs1) hre0 hre1).mono fun e W' ⟨he, hb⟩ => ?_
  subst he
  exact ⟨_, rfl, post_law laidOut (by kernel_rfl) rfl Try.underlying4 hW' rfl rfl hb⟩

theorem over : Rows.coverMeetsRow.holds Try.pinned (OpenSpec.ofChange Rows.coverMeetsSpec) :=
  OpenClaim.holds_of_wide 8 Try.f8 rfl rfl rfl rfl rfl rfl rfl ⟨rfl, rfl, rfl, rfl, rfl⟩ rfl rfl rfl rfl rfl (by kernel_rfl) Try.func8 (by kernel_rfl)
    (of_decide_eq_true (by kernel_rfl)) (by unfold Func.isWrapper; first | (rw [if_pos (by decide +kernel)]; kernel_rfl) | (rw [if_neg (by decide +kernel)]; exact ⟨rfl, rfl⟩))
    (fun os started H enc _ => lifted os started H enc)

end Go.Proofs.Ytnofclmnjhkhiaa.coverMeetsRow
namespace Go.Proofs.Ytnofclmnjhkhiaa
/-- THE STATEMENT. -/
theorem coverMeets_holds : Rows.CoverMeetsSaid := coverMeetsRow.over
end Go.Proofs.Ytnofclmnjhkhiaa
#print axioms Go.Proofs.Ytnofclmnjhkhiaa.coverMeets_holds
