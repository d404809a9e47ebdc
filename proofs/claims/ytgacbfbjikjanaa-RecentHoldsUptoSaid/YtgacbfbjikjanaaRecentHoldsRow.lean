/- RecentHolds: where Covers says so, First is right about all that was noted, held or not. Condition: what it reads is of bulk at most 1048576. -/
import Derived.Test.YtgacbfbjikjanaaRowLib
import Derived.Test.YtgacbfbjikjanaaRecBulk
import Derived.JoinedCond
import Derived.WalkKit
import Derived.ProofKit
import Derived.OpenShut
import Derived.Lib.SmallJoins
namespace Go.Proofs.Ytgacbfbjikjanaa.recentHoldsRow
open Go.ChangeShapes Go.WideShapes Go.ChangeAt Go.RowKit
open Go.Joins
open Go.ChangeMaps (open_string)

theorem own : ownKnob Try.prog.godebug = none := by kernel_rfl
theorem laidOut : laidOutB Try.prog = true := by kernel_rfl

set_option maxRecDepth 100000 in
set_option linter.unusedVariables false in
theorem lifted (os : Os) (started : os.Started) (H : Type) (enc : TypeId × Value → H) (F0 : Stop.Interp) :
    ReturnsInHanded {} Try.checked os 7 .any ((Rows.OpenSpec.upto Rows.recentHoldsSpec).pre6 enc Try.prog Try.f7 Rows.recentHoldsUptoRow.domain false) (((Rows.OpenSpec.upto Rows.recentHoldsSpec).at F0).post enc Try.prog Try.f7 false true false false) := by
  refine returnsInHanded_of_cond (C := Try.checked) (s := (Rows.OpenSpec.upto Rows.recentHoldsSpec)) (k := Rows.uptoSmall) rfl own started (by kernel_rfl) Try.func7
    (OpenSpec.witness (enc := enc) (C := Try.checked) (s := (Rows.OpenSpec.upto Rows.recentHoldsSpec)) (k := Rows.uptoSmall) rfl false ⟨#[], #[.int .u8 0, .slice none 0 0, .string ⟨#[]⟩, .int .u8 0], []⟩ 8 (by kernel_rfl) (by kernel_rfl) (by kernel_rfl)
      (x := ([.lit (.int .u8 0), .nil, .lit (.string []), .lit (.int .u8 0)], [], [])) (by kernel_rfl) (by kernel_rfl) (by kernel_rfl)) ?_
  intro W base args ds gs before hval0 hW _ hk0 _
  have hval : ∀ (j : Nat) t v, Try.f7.params[j]? = some t → args[j]? = some v → Value.okWide Try.prog W .any base t v := hval0
  have hW' := hW
  obtain ⟨p, q, hA0, hV, rfl, hfz, hnd⟩ := hW
  have hA : DataW.TrodAll enc Try.prog W 0 (fun _ => true) true Try.f7.params.toList args.toList ds p := hA0
  rw [Try.params7] at hA hval
  obtain ⟨v0, vs0, d0, ds0, p0, q0, hargs, rfl, rfl, h0, r0⟩ := trodAll_cons hA
  obtain ⟨v1, vs1, d1, ds1, p1, q1, rfl, rfl, rfl, h1, r1⟩ := trodAll_cons r0
  obtain ⟨v2, vs2, d2, ds2, p2, q2, rfl, rfl, rfl, h2, r2⟩ := trodAll_cons r1
  obtain ⟨v3, vs3, d3, ds3, p3, q3, rfl, rfl, rfl, h3, r3⟩ := trodAll_cons r2
  obtain ⟨rfl, rfl, rfl⟩ := trodAll_nil r3
  obtain rfl : args = #[v0, v1, v2, v3] := by cases args; simp_all
  obtain ⟨rfl, rfl⟩ := trodVars_none hV
  clear hA0 hval0
  have hk := of_decide_eq_true hk0
  clear hk0
  have hbk : Rows.uptoBulk d1 ≤ 1048576 := by simp only [List.append_nil, Rows.uptoBulkAll] at hk; omega
  obtain ⟨most, rfl, rfl, rfl, wmost⟩ := open_int Try.underlying5 (hval 0 5 v0 rfl rfl) h0
  obtain ⟨Ls, hs1⟩ := Rdr.open_arg_slice (s := 1) Try.underlying67 (by kernel_rfl) (by decide) rd_lists (hval 1 67 v1 rfl rfl) h1
  obtain ⟨hl1, hl2⟩ := bulk_lists h1 Ls hs1
  obtain ⟨key, rfl, rfl, rfl, _⟩ := Go.ChangeMaps.open_string Try.underlying9 (hval 2 9 v2 rfl rfl) h2
  obtain ⟨after, rfl, rfl, rfl, wafter⟩ := open_int Try.underlying5 (hval 3 5 v3 rfl rfl) h3
  obtain ⟨m0, m1⟩ : 0 ≤ most ∧ most ≤ 255 := by simp only [Lit.wf, Bool.and_eq_true, decide_eq_true_eq] at wmost; exact wmost
  obtain ⟨m2, m3⟩ : 0 ≤ after ∧ after ≤ 255 := by simp only [Lit.wf, Bool.and_eq_true, decide_eq_true_eq] at wafter; exact wafter
  refine (recentHolds W 0 most after m0 m1 m2 m3 v1 Ls hs1 key (Nat.le_trans hl1 hbk) (fun k => Nat.le_trans (hl2 k) hbk)).mono fun e W' ⟨he, hb⟩ => ?_
  subst he
  exact ⟨_, rfl, post_law laidOut (by kernel_rfl) rfl Try.underlying4 hW' rfl rfl hb⟩

theorem over : Rows.recentHoldsUptoRow.holds Try.pinned (Rows.OpenSpec.upto Rows.recentHoldsSpec) :=
  OpenClaim.holds_of_cond 7 Try.f7 rfl rfl rfl rfl rfl rfl rfl ⟨rfl, rfl, rfl, rfl, rfl⟩ rfl rfl rfl rfl rfl (by kernel_rfl) Try.func7 (by kernel_rfl)
    (of_decide_eq_true (by kernel_rfl)) (by unfold Func.isWrapper; first | (rw [if_pos (by decide +kernel)]; kernel_rfl) | (rw [if_neg (by decide +kernel)]; exact ⟨rfl, rfl⟩))
    (fun os started H enc _ F0 => lifted os started H enc F0)

end Go.Proofs.Ytgacbfbjikjanaa.recentHoldsRow
namespace Go.Proofs.Ytgacbfbjikjanaa
/-- THE STATEMENT. -/
theorem recentHoldsUpto_holds : Rows.RecentHoldsUptoSaid := recentHoldsRow.over
end Go.Proofs.Ytgacbfbjikjanaa
#print axioms Go.Proofs.Ytgacbfbjikjanaa.recentHoldsUpto_holds
