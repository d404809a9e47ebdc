/- Span: the plain laws of numbers, of order and of grouping; no Go in sight. -/
import Derived.Test.YtplhbnehlkoedaaE
namespace Go.Proofs.Ytplhbnehlkoedaa
set_option linter.unusedVariables false
set_option linter.unusedSimpArgs false
theorem num_meet (a b c d x : Int) : hasB (meetS a b c d).1 (meetS a b c d).2 x = (hasB a b x && hasB c d x) := by
  apply bool_iff
  unfold hasB meetS
  simp only [ofS_one, ofS_two, Bool.and_eq_true, decide_eq_true_eq]
  split <;> constructor <;> intro h <;> omega
theorem hull_one (a b c d : Int) : (hullS a b c d).1 = if b ≤ a then (if c < d then c else 0) else if d ≤ c then a else (if min a c < max b d then min a c else 0) := by
  unfold hullS emptyB
  simp only [decide_eq_true_eq]
  split
  · exact ofS_one
  · split
    · rfl
    · exact ofS_one
theorem hull_two (a b c d : Int) : (hullS a b c d).2 = if b ≤ a then (if c < d then d else 0) else if d ≤ c then b else (if min a c < max b d then max b d else 0) := by
  unfold hullS emptyB
  simp only [decide_eq_true_eq]
  split
  · exact ofS_two
  · split
    · rfl
    · exact ofS_two
theorem num_hull (a b c d x : Int) (h : (hasB a b x || hasB c d x) = true) : hasB (hullS a b c d).1 (hullS a b c d).2 x = true := by
  unfold hasB at *
  rw [hull_one, hull_two]
  simp only [Bool.and_eq_true, Bool.or_eq_true, decide_eq_true_eq] at *
  split
  · split <;> omega
  · split
    · omega
    · split <;> omega
theorem num_touch (a b c d x : Int) (h : touchesB a b c d = true) : hasB (hullS a b c d).1 (hullS a b c d).2 x = (hasB a b x || hasB c d x) := by
  apply bool_iff
  unfold hasB touchesB emptyB at *
  rw [hull_one, hull_two]
  simp only [Bool.and_eq_true, Bool.or_eq_true, decide_eq_true_eq] at *
  split
  · split <;> constructor <;> intro h <;> omega
  · split
    · constructor <;> intro h <;> omega
    · split <;> constructor <;> intro h <;> omega
theorem num_within (a b c d x : Int) (h : withinB a b c d = true) (h1 : hasB a b x = true) : hasB c d x = true := by
  unfold hasB withinB emptyB at *
  simp only [Bool.and_eq_true, Bool.or_eq_true, decide_eq_true_eq] at *
  omega
theorem cutL_one (a b c d : Int) : (cutL a b c d).1 = if d ≤ c then (if a < b then a else 0) else (if a < min b c then a else 0) := by
  unfold cutL emptyB; simp only [decide_eq_true_eq]; split <;> exact ofS_one
theorem cutL_two (a b c d : Int) : (cutL a b c d).2 = if d ≤ c then (if a < b then b else 0) else (if a < min b c then min b c else 0) := by
  unfold cutL emptyB; simp only [decide_eq_true_eq]; split <;> exact ofS_two
theorem cutR_one (a b c d : Int) : (cutR a b c d).1 = if d ≤ c then 0 else (if max a d < b then max a d else 0) := by
  unfold cutR emptyB; simp only [decide_eq_true_eq]; split
  · rfl
  · exact ofS_one
theorem cutR_two (a b c d : Int) : (cutR a b c d).2 = if d ≤ c then 0 else (if max a d < b then b else 0) := by
  unfold cutR emptyB; simp only [decide_eq_true_eq]; split
  · rfl
  · exact ofS_two
theorem num_cut (a b c d x : Int) : (hasB (cutL a b c d).1 (cutL a b c d).2 x || hasB (cutR a b c d).1 (cutR a b c d).2 x) = (hasB a b x && !hasB c d x) := by
  apply bool_iff
  unfold hasB
  rw [cutL_one, cutL_two, cutR_one, cutR_two]
  simp only [Bool.and_eq_true, Bool.or_eq_true, Bool.not_eq_true', Bool.and_eq_false_iff, decide_eq_true_eq, decide_eq_false_iff_not]
  by_cases h : d ≤ c
  · simp only [h, if_true]; split <;> constructor <;> intro h <;> omega
  · simp only [h, if_false]; split <;> split <;> constructor <;> intro h <;> omega
theorem num_two (a b c d : Int) : meetsB (cutL a b c d).1 (cutL a b c d).2 (cutR a b c d).1 (cutR a b c d).2 = false := by
  rw [← rmeets_eq]
  unfold emptyB meetS
  rw [ofS_one, ofS_two, cutL_one, cutL_two, cutR_one, cutR_two]
  simp only [Bool.not_eq_false', decide_eq_true_eq]
  by_cases h : d ≤ c
  · simp only [h, if_true]; split <;> split <;> omega
  · simp only [h, if_false]; split <;> split <;> split <;> omega
theorem meetS_comm (a b c d : Int) : meetS c d a b = meetS a b c d := by unfold meetS; rw [Int.max_comm, Int.min_comm]
theorem hullS_comm (a b c d : Int) : hullS c d a b = hullS a b c d := by
  refine Prod.ext ?_ ?_
  · rw [hull_one, hull_one]; repeat' split
    all_goals omega
  · rw [hull_two, hull_two]; repeat' split
    all_goals omega
theorem meetS_assoc (a b c d e f : Int) : meetS a b (meetS c d e f).1 (meetS c d e f).2 = meetS (meetS a b c d).1 (meetS a b c d).2 e f := by
  refine Prod.ext ?_ ?_
  · unfold meetS; simp only [ofS_one, ofS_two]; repeat' split
    all_goals omega
  · unfold meetS; simp only [ofS_one, ofS_two]; repeat' split
    all_goals omega
theorem hull_ll {a b c d : Int} (h : b ≤ a) : hullS a b c d = ofS c d := hullS_l (by simp [emptyB]; omega)
theorem hull_rr {a b c d : Int} (h : a < b) (h' : d ≤ c) : hullS a b c d = (a, b) := hullS_r (by simp [emptyB]; omega) (by simp [emptyB]; omega)
theorem hull_both {a b c d : Int} (h : a < b) (h' : c < d) : hullS a b c d = (min a c, max b d) := by
  rw [hullS_eq (by simp [emptyB]; omega) (by simp [emptyB]; omega) rfl rfl]
  exact ofS_pos (by omega)
theorem hullS_assoc (a b c d e f : Int) : hullS a b (hullS c d e f).1 (hullS c d e f).2 = hullS (hullS a b c d).1 (hullS a b c d).2 e f := by
  by_cases h1 : b ≤ a
  · by_cases h2 : d ≤ c
    · by_cases h3 : f ≤ e
      · rw [hull_ll h1, hull_ll h2, hull_ll h1, ofS_neg h3, ofS_neg h2]
        rw [hull_ll (by simp)]; simp [ofS]; omega
      · rw [hull_ll h1, hull_ll h2, hull_ll h1, ofS_neg h2]
        rw [hull_ll (by simp), ofS_pos (by omega : e < f)]
        exact ofS_pos (by simp; omega)
    · by_cases h3 : f ≤ e
      · rw [hull_ll h1, hull_rr (by omega) h3, hull_ll h1, ofS_pos (by omega)]
        rw [hull_rr (by simp; omega) h3]
      · rw [hull_ll h1, hull_both (by omega) (by omega), hull_ll h1, ofS_pos (by simp; omega), ofS_pos (by omega : c < d)]
        rw [hull_both (by simp; omega) (by omega)]
  · by_cases h2 : d ≤ c
    · by_cases h3 : f ≤ e
      · rw [hull_ll h2, ofS_neg h3, hull_rr (by omega) (by simp), hull_rr (by omega) h2, hull_rr (by simp; omega) h3]
      · rw [hull_ll h2, ofS_pos (by omega), hull_rr (by omega) h2]
    · by_cases h3 : f ≤ e
      · rw [hull_rr (by omega) h3, hull_both (by omega) (by omega), hull_rr (by simp; omega) h3]
      · rw [hull_both (a := c) (b := d) (c := e) (d := f) (by omega) (by omega), hull_both (a := a) (b := b) (c := c) (d := d) (by omega) (by omega), hull_both (a := a) (b := b) (by omega) (by simp; omega), hull_both (c := e) (d := f) (by simp; omega) (by omega)]
        simp only [Prod.mk.injEq]; omega
theorem comp_vals (a b c d : Int) : compS a b c d = -1 ∨ compS a b c d = 0 ∨ compS a b c d = 1 := by
  unfold compS cmpI; repeat' split
  all_goals omega
theorem comp_self (a b : Int) : compS a b a b = 0 := by
  unfold compS cmpI emptyB
  by_cases h : b ≤ a <;> simp [h]
theorem comp_neg (a b c d : Int) : compS c d a b = -compS a b c d := by
  unfold compS cmpI emptyB
  by_cases h1 : b ≤ a <;> by_cases h2 : d ≤ c
  all_goals (simp only [h1, h2, decide_true, decide_false, Bool.and_true, Bool.and_false, Bool.and_self, if_true, if_false, Bool.false_eq_true]; repeat' split)
  all_goals omega
theorem comp_ee {a b c d : Int} (h : b ≤ a) (h' : d ≤ c) : compS a b c d = 0 := by unfold compS emptyB; simp [h, h']
theorem comp_en {a b c d : Int} (h : b ≤ a) (h' : ¬ d ≤ c) : compS a b c d = -1 := by unfold compS emptyB; simp [h, h']
theorem comp_ne {a b c d : Int} (h : ¬ b ≤ a) (h' : d ≤ c) : compS a b c d = 1 := by unfold compS emptyB; simp [h, h']
theorem comp_nn {a b c d : Int} (h : ¬ b ≤ a) (h' : ¬ d ≤ c) : compS a b c d = if a < c then -1 else if c < a then 1 else if b < d then -1 else if d < b then 1 else 0 := by
  unfold compS emptyB cmpI
  simp only [h, h', decide_false, Bool.and_false, Bool.false_eq_true, if_false]
  repeat' split
  all_goals omega
set_option maxHeartbeats 2000000 in
theorem comp_trans (a b c d e f : Int) (h1 : compS a b c d ≤ 0) (h2 : compS c d e f ≤ 0) : compS a b e f ≤ 0 ∧ (compS a b e f < 0 ∨ compS a b c d = 0 ∧ compS c d e f = 0) := by
  by_cases g1 : b ≤ a <;> by_cases g2 : d ≤ c <;> by_cases g3 : f ≤ e
  · rw [comp_ee g1 g2, comp_ee g2 g3, comp_ee g1 g3]; omega
  · rw [comp_ee g1 g2, comp_en g2 g3, comp_en g1 g3]; omega
  · rw [comp_ne g2 g3] at h2; omega
  · rw [comp_en g1 g3]; omega
  · rw [comp_ne g1 g2] at h1; omega
  · rw [comp_ne g1 g2] at h1; omega
  · rw [comp_ne g2 g3] at h2; omega
  · rw [comp_nn g1 g2] at h1 ⊢
    rw [comp_nn g2 g3] at h2 ⊢
    rw [comp_nn g1 g3]
    by_cases k1 : a < c
    · rw [if_pos k1] at h1 ⊢
      by_cases k2 : c < e
      · rw [if_pos (by omega : a < e)]; omega
      · by_cases k3 : e < c
        · rw [if_neg k2, if_pos k3] at h2; omega
        · rw [if_pos (by omega : a < e)]; omega
    · by_cases k4 : c < a
      · rw [if_neg k1, if_pos k4] at h1; omega
      · obtain rfl : a = c := by omega
        by_cases k2 : a < e
        · rw [if_pos k2]; omega
        · by_cases k3 : e < a
          · rw [if_neg k2, if_pos k3] at h2; omega
          · rw [if_neg k2, if_neg k3] at h2 ⊢
            rw [if_neg k1, if_neg k1] at h1 ⊢
            rw [if_neg k2, if_neg k3]
            repeat' split at h1
            all_goals (repeat' split at h2)
            all_goals (repeat' split)
            all_goals omega
end Go.Proofs.Ytplhbnehlkoedaa
