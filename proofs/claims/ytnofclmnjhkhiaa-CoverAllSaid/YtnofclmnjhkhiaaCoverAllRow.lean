/- CoverAll: All tells the spans that the chapter says, in order. No condition. -/
import Derived.Test.YtnofclmnjhkhiaaRowLib
import Derived.Test.YtnofclmnjhkhiaaCRd
import Derived.Test.YtnofclmnjhkhiaaCl6
import Derived.SizedLaws
import Derived.WalkKit
import Derived.ProofKit
import Derived.OpenShut
import Derived.Lib.SmallJoins
namespace Go.Proofs.Ytnofclmnjhkhiaa.coverAllRow
open Go.ChangeShapes Go.WideShapes Go.ChangeAt Go.RowKit
open Go.Joins
open Go.ChangeMaps (open_string)

theorem own : ownKnob Try.prog.godebug = none := by kernel_rfl
theorem laidOut : laidOutB Try.prog = true := by kernel_rfl

set_option maxRecDepth 100000 in
set_option linter.unusedVariables false in
theorem lifted (os : Os) (started : os.Started) (H : Type) (enc : TypeId × Value → H) :
    ReturnsInHanded {} Try.checked os 6 .any (Rows.coverAllSpec.pre6 enc Try.prog Try.f6 Rows.coverAllRow.domain false) (Rows.coverAllSpec.post enc Try.prog Try.f6 false true false false) := by
  refine returnsInHanded_of_change_sized (C := Try.checked) own started (by kernel_rfl) Try.func6
    (ChangeSpec.witness6 (enc := enc) (C := Try.checked) false ⟨#[], #[.slice none 0 0], []⟩ 8 (by kernel_rfl) (by kernel_rfl) (by kernel_rfl) (by kernel_rfl)) ?_
  intro W base args ds gs before hval0 hW _ hsz0 _
  have hsz : (DataW.weightsEach Try.prog (Try.f6.params.toList ++ Rows.coverAllSpec.plain.varTypes Try.prog) (ds ++ gs)).all (· ≤ reachBytes) = true := hsz0
  clear hsz0
  have hval : ∀ (j : Nat) t v, Try.f6.params[j]? = some t → args[j]? = some v → Value.okWide Try.prog W .any base t v := hval0
  have hW' := hW
  obtain ⟨p, q, hA0, hV, rfl, hfz, hnd⟩ := hW
  have hA : DataW.TrodAll enc Try.prog W 0 (fun _ => true) true Try.f6.params.toList args.toList ds p := hA0
  rw [Try.params6] at hA hval hsz
  obtain ⟨v0, vs0, d0, ds0, p0, q0, hargs, rfl, rfl, h0, r0⟩ := trodAll_cons hA
  obtain ⟨rfl, rfl, rfl⟩ := trodAll_nil r0
  obtain rfl : args = #[v0] := by cases args; simp_all
  obtain ⟨rfl, rfl⟩ := trodVars_none hV
  clear hA0 hval0
  obtain ⟨l, hs0⟩ := Rdr.open_arg_slice (s := 4) Try.underlying22 (by kernel_rfl) (by decide) rd_op (hval 0 22 v0 rfl rfl) h0
  obtain ⟨pp0, cc0, rfl, hlc0, hcm0⟩ := hs0.form
  have hre0 : l.length ≤ 4398046511103 := by have e := slice_reach (j := 0) hsz rfl rfl Try.underlying22 h0; rw [Try.bytes27] at e; unfold reachBytes at e; omega
  refine (c_all W _ l (slIs_ops hs0) hre0).mono fun e W' ⟨he, hb⟩ => ?_
  subst he
  exact ⟨_, rfl, post_law laidOut (by kernel_rfl) rfl Try.underlying4 hW' rfl rfl hb⟩

theorem over : Rows.coverAllRow.holds Try.pinned (OpenSpec.ofChange Rows.coverAllSpec) :=
  OpenClaim.holds_of_wide 6 Try.f6 rfl rfl rfl rfl rfl rfl rfl ⟨rfl, rfl, rfl, rfl, rfl⟩ rfl rfl rfl rfl rfl (by kernel_rfl) Try.func6 (by kernel_rfl)
    (of_decide_eq_true (by kernel_rfl)) (by unfold Func.isWrapper; first | (rw [if_pos (by decide +kernel)]; kernel_rfl) | (rw [if_neg (by decide +kernel)]; exact ⟨rfl, rfl⟩))
    (fun os started H enc _ => lifted os started H enc)

end Go.Proofs.Ytnofclmnjhkhiaa.coverAllRow
namespace Go.Proofs.Ytnofclmnjhkhiaa
/-- THE STATEMENT. -/
theorem coverAll_holds : Rows.CoverAllSaid := coverAllRow.over
end Go.Proofs.Ytnofclmnjhkhiaa
#print axioms Go.Proofs.Ytnofclmnjhkhiaa.coverAll_holds
