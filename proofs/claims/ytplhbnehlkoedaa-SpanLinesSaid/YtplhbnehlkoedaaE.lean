/- Span: the plain laws. -/
import Derived.Test.YtplhbnehlkoedaaD
import Derived.Test.YtplhbnehlkoedaaC
namespace Go.Proofs.Ytplhbnehlkoedaa
set_option linter.unusedVariables false
set_option linter.unusedSimpArgs false
theorem bd (p q : Prop) [Decidable p] [Decidable q] (h : p ↔ q) : decide p = decide q := by simp [h]
theorem ofS_one {a b : Int} : (ofS a b).1 = if a < b then a else 0 := by unfold ofS; split <;> rfl
theorem ofS_two {a b : Int} : (ofS a b).2 = if a < b then b else 0 := by unfold ofS; split <;> rfl
theorem bool_iff {x y : Bool} (h : x = true ↔ y = true) : x = y := by cases x <;> cases y <;> simp_all
theorem rmeets_eq (a b c d : Int) : (!emptyB (meetS a b c d).1 (meetS a b c d).2) = meetsB a b c d := by
  apply bool_iff
  unfold meetsB emptyB meetS
  simp only [ofS_one, ofS_two, Bool.and_eq_true, Bool.not_eq_true', decide_eq_false_iff_not]
  split <;> constructor <;> intro h <;> omega
theorem rtouch_eq (a b c d : Int) : rtouchB a b c d = touchesB a b c d := by
  apply bool_iff
  unfold rtouchB touchesB emptyB meetS
  simp only [ofS_one, ofS_two, Bool.and_eq_true, Bool.or_eq_true, Bool.not_eq_true', decide_eq_false_iff_not, decide_eq_true_eq, beq_iff_eq]
  split <;> constructor <;> intro h <;> omega
theorem rwithin_eq (a b c d : Int) : rwithinB a b c d = withinB a b c d := by
  apply bool_iff
  unfold rwithinB withinB emptyB meetS
  simp only [ofS_one, ofS_two, Bool.and_eq_true, Bool.or_eq_true, decide_eq_true_eq]
  split <;> constructor <;> intro h <;> omega
theorem rcutL_eq (a b c d : Int) : rcutL a b c d = cutL a b c d := by
  unfold rcutL cutL emptyB ofS
  simp only [decide_eq_true_eq, Int.min_def]
  repeat' split
  all_goals first | rfl | (simp only [Prod.mk.injEq]; omega) | omega
theorem rcutR_eq (a b c d : Int) : rcutR a b c d = cutR a b c d := by
  have e : max a d = if a < d then d else a := by split <;> omega
  unfold rcutR cutR emptyB ofS
  simp only [decide_eq_true_eq, e]
  by_cases h4 : a < d
  all_goals (simp only [h4, if_true, if_false]; repeat' split)
  all_goals first | rfl | omega
theorem rcomp_eq (a b c d : Int) : rcompS a b c d = compS a b c d := by
  unfold rcompS compS cmpI emptyB
  simp only [ofS_one, ofS_two, decide_eq_true_eq, Bool.and_eq_true, Bool.or_eq_true, Bool.not_eq_true', decide_eq_false_iff_not, beq_iff_eq]
  by_cases h1 : b ≤ a <;> by_cases h2 : d ≤ c
  all_goals (simp only [h1, h2, if_true, if_false, true_and, and_true, false_and, and_false, or_true, true_or, or_false, false_or, not_true_eq_false, not_false_eq_true]; repeat' split)
  all_goals first | rfl | omega
end Go.Proofs.Ytplhbnehlkoedaa
