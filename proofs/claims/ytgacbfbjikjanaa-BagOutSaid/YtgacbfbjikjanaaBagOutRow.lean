/- BagOut: what is taken is what was put, each once, whatever the order; nothing else is left. No condition. -/
import Derived.Test.YtgacbfbjikjanaaRowLib
import Derived.Test.YtgacbfbjikjanaaThRd
import Derived.Test.YtgacbfbjikjanaaTh5
import Derived.WalkKit
import Derived.ProofKit
import Derived.OpenShut
import Derived.Lib.SmallJoins
namespace Go.Proofs.Ytgacbfbjikjanaa.bagOutRow
open Go.ChangeShapes Go.WideShapes Go.ChangeAt Go.RowKit
open Go.Joins
open Go.ChangeMaps (open_string)

theorem own : ownKnob Try.prog.godebug = none := by kernel_rfl
theorem laidOut : laidOutB Try.prog = true := by kernel_rfl

set_option maxRecDepth 100000 in
set_option linter.unusedVariables false in
theorem lifted (os : Os) (started : os.Started) (H : Type) (enc : TypeId × Value → H) :
    ReturnsInHanded {} Try.checked os 4 .any (Rows.bagOutSpec.pre6 enc Try.prog Try.f4 Rows.bagOutRow.domain false) (Rows.bagOutSpec.post enc Try.prog Try.f4 false true false false) := by
  refine returnsInHanded_of_change (C := Try.checked) own started (by kernel_rfl) Try.func4
    (ChangeSpec.witness6 (enc := enc) (C := Try.checked) false ⟨#[], #[.slice none 0 0, .slice none 0 0], []⟩ 8 (by kernel_rfl) (by kernel_rfl) (by kernel_rfl) (by kernel_rfl)) ?_
  intro W base args ds gs before hval0 hW _ _
  have hval : ∀ (j : Nat) t v, Try.f4.params[j]? = some t → args[j]? = some v → Value.okWide Try.prog W .any base t v := hval0
  have hW' := hW
  obtain ⟨p, q, hA0, hV, rfl, hfz, hnd⟩ := hW
  have hA : DataW.TrodAll enc Try.prog W 0 (fun _ => true) true Try.f4.params.toList args.toList ds p := hA0
  rw [Try.params4] at hA hval
  obtain ⟨v0, vs0, d0, ds0, p0, q0, hargs, rfl, rfl, h0, r0⟩ := trodAll_cons hA
  obtain ⟨v1, vs1, d1, ds1, p1, q1, rfl, rfl, rfl, h1, r1⟩ := trodAll_cons r0
  obtain ⟨rfl, rfl, rfl⟩ := trodAll_nil r1
  obtain rfl : args = #[v0, v1] := by cases args; simp_all
  obtain ⟨rfl, rfl⟩ := trodVars_none hV
  clear hA0 hval0
  obtain ⟨l, hs0⟩ := Rdr.open_arg_slice (s := 2) Try.underlying38 (by kernel_rfl) (by decide) rd_thing (hval 0 38 v0 rfl rfl) h0
  obtain ⟨P, hs1⟩ := Rdr.open_arg_slice (s := 1) Try.underlying39 (by kernel_rfl) (by decide) (Rdr.rd_mono (Rdr.rd_int Try.underlying3) (fun (x : Int) cs h => h.1)) (hval 1 39 v1 rfl rfl) h1
  refine (bagOut W 0 0 v0 v1 l P hs0 hs1).mono fun e W' ⟨he, hb⟩ => ?_
  subst he
  exact ⟨_, rfl, post_law laidOut (by kernel_rfl) rfl Try.underlying4 hW' rfl rfl hb⟩

theorem over : Rows.bagOutRow.holds Try.pinned (OpenSpec.ofChange Rows.bagOutSpec) :=
  OpenClaim.holds_of_wide 4 Try.f4 rfl rfl rfl rfl rfl rfl rfl ⟨rfl, rfl, rfl, rfl, rfl⟩ rfl rfl rfl rfl rfl (by kernel_rfl) Try.func4 (by kernel_rfl)
    (of_decide_eq_true (by kernel_rfl)) (by unfold Func.isWrapper; first | (rw [if_pos (by decide +kernel)]; kernel_rfl) | (rw [if_neg (by decide +kernel)]; exact ⟨rfl, rfl⟩))
    (fun os started H enc _ => lifted os started H enc)

end Go.Proofs.Ytgacbfbjikjanaa.bagOutRow
namespace Go.Proofs.Ytgacbfbjikjanaa
/-- THE STATEMENT. -/
theorem bagOut_holds : Rows.BagOutSaid := bagOutRow.over
end Go.Proofs.Ytgacbfbjikjanaa
#print axioms Go.Proofs.Ytgacbfbjikjanaa.bagOut_holds
