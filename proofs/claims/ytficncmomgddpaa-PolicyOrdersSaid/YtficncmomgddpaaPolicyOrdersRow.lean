/- PolicyOrders: Before, Victim and Order answer as the chapter says. No condition. -/
import Derived.Test.YtficncmomgddpaaRowLib
import Derived.Test.YtficncmomgddpaaPRd2
import Derived.Test.YtficncmomgddpaaPa3
import Derived.WalkKit
import Derived.ProofKit
import Derived.OpenShut
import Derived.Lib.SmallJoins
namespace Go.Proofs.Ytficncmomgddpaa.policyOrdersRow
open Go.ChangeShapes Go.WideShapes Go.ChangeAt Go.RowKit
open Go.Joins
open Go.ChangeMaps (open_string)

theorem own : ownKnob Try.prog.godebug = none := by kernel_rfl
theorem laidOut : laidOutB Try.prog = true := by kernel_rfl

set_option maxRecDepth 100000 in
set_option linter.unusedVariables false in
theorem lifted (os : Os) (started : os.Started) (H : Type) (enc : TypeId × Value → H) :
    ReturnsInHanded {} Try.checked os 3 .any (Rows.policyOrdersSpec.pre6 enc Try.prog Try.f3 Rows.policyOrdersRow.domain false) (Rows.policyOrdersSpec.post enc Try.prog Try.f3 false true false false) := by
  refine returnsInHanded_of_change (C := Try.checked) own started (by kernel_rfl) Try.func3
    (ChangeSpec.witness6 (enc := enc) (C := Try.checked) false ⟨#[], #[.slice none 0 0, .agg #[.string ⟨#[]⟩, .bool false, .string ⟨#[]⟩, .int .i64 0, .int .i64 0, .bool false, .int .i64 0, .int .i64 0], .agg #[.string ⟨#[]⟩, .bool false, .string ⟨#[]⟩, .int .i64 0, .int .i64 0, .bool false, .int .i64 0, .int .i64 0]], []⟩ 8 (by kernel_rfl) (by kernel_rfl) (by kernel_rfl) (by kernel_rfl)) ?_
  intro W base args ds gs before hval0 hW _ _
  have hval : ∀ (j : Nat) t v, Try.f3.params[j]? = some t → args[j]? = some v → Value.okWide Try.prog W .any base t v := hval0
  have hW' := hW
  obtain ⟨p, q, hA0, hV, rfl, hfz, hnd⟩ := hW
  have hA : DataW.TrodAll enc Try.prog W 0 (fun _ => true) true Try.f3.params.toList args.toList ds p := hA0
  rw [Try.params3] at hA hval
  obtain ⟨v0, vs0, d0, ds0, p0, q0, hargs, rfl, rfl, h0, r0⟩ := trodAll_cons hA
  obtain ⟨v1, vs1, d1, ds1, p1, q1, rfl, rfl, rfl, h1, r1⟩ := trodAll_cons r0
  obtain ⟨v2, vs2, d2, ds2, p2, q2, rfl, rfl, rfl, h2, r2⟩ := trodAll_cons r1
  obtain ⟨rfl, rfl, rfl⟩ := trodAll_nil r2
  obtain rfl : args = #[v0, v1, v2] := by cases args; simp_all
  obtain ⟨rfl, rfl⟩ := trodVars_none hV
  clear hA0 hval0
  obtain ⟨l, hs0⟩ := Rdr.open_arg_slice (s := 8) Try.underlying22 (by kernel_rfl) (by decide) rd_en (hval 0 22 v0 rfl rfl) h0
  obtain ⟨p0', c0, rfl, hlc, hcm⟩ := hs0.form
  obtain ⟨x1, cs1, rfl, hs1⟩ := Rdr.open_arg_agg Try.underlying28 rd_en (hval 1 28 v1 rfl rfl) h1
  obtain rfl : cs1 = _ := hs1
  obtain ⟨x2, cs2, rfl, hs2⟩ := Rdr.open_arg_agg Try.underlying28 rd_en (hval 2 28 v2 rfl rfl) h2
  obtain rfl : cs2 = _ := hs2
  refine (c_orders W p0' l.length c0 _ (slIs_ents hs0) hlc (enOf x1) (enOf x2)).mono fun e W' ⟨he, hb⟩ => ?_
  subst he
  exact ⟨_, rfl, post_law laidOut (by kernel_rfl) rfl Try.underlying4 hW' rfl rfl hb⟩

theorem over : Rows.policyOrdersRow.holds Try.pinned (OpenSpec.ofChange Rows.policyOrdersSpec) :=
  OpenClaim.holds_of_wide 3 Try.f3 rfl rfl rfl rfl rfl rfl rfl ⟨rfl, rfl, rfl, rfl, rfl⟩ rfl rfl rfl rfl rfl (by kernel_rfl) Try.func3 (by kernel_rfl)
    (of_decide_eq_true (by kernel_rfl)) (by unfold Func.isWrapper; first | (rw [if_pos (by decide +kernel)]; kernel_rfl) | (rw [if_neg (by decide +kernel)]; exact ⟨rfl, rfl⟩))
    (fun os started H enc _ => lifted os started H enc)

end Go.Proofs.Ytficncmomgddpaa.policyOrdersRow
namespace Go.Proofs.Ytficncmomgddpaa
/-- THE STATEMENT. -/
theorem policyOrders_holds : Rows.PolicyOrdersSaid := policyOrdersRow.over
end Go.Proofs.Ytficncmomgddpaa
#print axioms Go.Proofs.Ytficncmomgddpaa.policyOrders_holds
