/- The reference's spans. -/
import Derived.Test.YtnofclmnjhkhiaaCm
import Derived.WalkKit
import Derived.WalkLawsBesides
import Derived.WalkSpells
import Derived.Below
import Derived.Deep.RegionHeld3
import Derived.Deep.QuietTactic
import Derived.BigQuiet
import Derived.Deep.DeepCutAuto
import Derived.Deep.DeepMust
import Derived.KernelRfl
import Derived.Lib.Hide
import Derived.Outline
import Derived.RegionTactic
import Derived.StillTailTactics
namespace Go.Proofs.Ytnofclmnjhkhiaa
open Go.RowKit Go.Cl Go.Cv
set_option maxRecDepth 100000
set_option linter.unusedVariables false
set_option linter.unusedSimpArgs false

attribute [local go_sem] max2_int min2_int max_two min_two
theorem c_rhas (a b x : Int) (w : World) : Calls Try.prog 62 #[.agg #[.int .i64 a, .int .i64 b], .int .i64 x] w fun e w' => e = .returned (.bool (decide (a ≤ x) && decide (x < b))) ∧ Below w.heap.size w w' := by
  by_cases h : a ≤ x
  · have h1 : decide (a ≤ x) = true := decide_eq_true h
    rw [h1]
    go_enter Try.func62, Try.ntmps62
    go_wp2
    go_ret
    exact ⟨by simp, by (repeat (first | (with_reducible assumption) | (with_reducible exact Below.refl _ _) | (with_reducible refine below_set ?_ (by first | assumption | (simp; done) | (simp; omega) | omega) _) | (with_reducible apply below_alloc) | (with_reducible apply below_drew) | (with_reducible apply below_drewN) | (with_reducible refine below_call ?_ (by assumption))))⟩
  · have h1 : decide (a ≤ x) = false := decide_eq_false h
    rw [h1]
    go_enter Try.func62, Try.ntmps62
    go_wp2
    go_ret
    exact ⟨by simp, by (repeat (first | (with_reducible assumption) | (with_reducible exact Below.refl _ _) | (with_reducible refine below_set ?_ (by first | assumption | (simp; done) | (simp; omega) | omega) _) | (with_reducible apply below_alloc) | (with_reducible apply below_drew) | (with_reducible apply below_drewN) | (with_reducible refine below_call ?_ (by assumption))))⟩
theorem c_rempty (a b : Int) (w : World) : Calls Try.prog 59 #[.agg #[.int .i64 a, .int .i64 b]] w fun e w' => e = .returned (.bool (decide (b ≤ a))) ∧ Below w.heap.size w w' := by
  have hh : ∀ w, Calls Try.prog 62 #[.agg #[.int .i64 a, .int .i64 b], .int .i64 a] w fun e w' => e = .returned (.bool (!decide (b ≤ a))) ∧ Below w.heap.size w w' := fun w => by
    have := c_rhas a b a w
    have e : (decide (a ≤ a) && decide (a < b)) = !decide (b ≤ a) := by
      rw [decide_eq_true (Int.le_refl a), Bool.true_and]
      by_cases h : b ≤ a
      · rw [decide_eq_true h, decide_eq_false (show ¬ a < b by omega)]; rfl
      · rw [decide_eq_false h, decide_eq_true (show a < b by omega)]; rfl
    rw [e] at this
    exact this
  generalize decide (b ≤ a) = d at *
  have HH := Lib.hid hh; clear hh
  go_enter Try.func59, Try.ntmps59
  go_upto_region 1 with fail
  refine Ph.at_world ?_; intro W1 hW
  have k2 : hp W1 w.heap.size = some (.cells #[.int .i64 a, .int .i64 b] 53 (0, 0)) := by rw [hW]; simp [hpA, nn1, nn2]
  have HB := Lib.hid (show Below w.heap.size w W1 by rw [hW]; exact below_alloc (Below.refl _ _) _)
  clear hW
  have c2 := hp_cell k2
  clear k2
  go_wp2_with (go_at_call 62; (with_reducible refine (HH.out _).mono ?_); rintro e w1 ⟨rfl, hb⟩; have HB1 := Lib.hid (below_call HB.out hb); clear hb)
  go_ret
  exact ⟨by simp, HB1.out⟩
theorem c_rref (c : Bool) (a b x : Int) (w : World) : Calls Try.prog 39 #[.agg #[.bool c, .int .i64 a, .int .i64 b, .int .i64 x]] w fun e w' => e = .returned (.agg #[.int .i64 a, .int .i64 b]) ∧ Below w.heap.size w w' := by
  go_enter Try.func39, Try.ntmps39
  go_wp2
  refine bodyPost_ret (v := .agg #[.int .i64 a, .int .i64 b]) (by simp [results, Try.results39, go_sem, *]; done) rfl ⟨rfl, by (repeat (first | (with_reducible assumption) | (with_reducible exact Below.refl _ _) | (with_reducible refine below_set ?_ (by first | assumption | (simp; done) | (simp; omega) | omega) _) | (with_reducible apply below_alloc) | (with_reducible apply below_drew) | (with_reducible apply below_drewN) | (with_reducible refine below_call ?_ (by assumption))))⟩
theorem c_rof (a b : Int) (w : World) : Calls Try.prog 65 #[.int .i64 a, .int .i64 b] w fun e w' => e = .returned (.agg #[.int .i64 (ofS a b).1, .int .i64 (ofS a b).2]) ∧ Below w.heap.size w w' := by
  have he := c_rempty a b
  unfold ofS
  have n1 : w.heap.size ≤ w.heap.size + 1 := by omega
  by_cases h : b ≤ a
  · rw [if_pos h]
    rw [decide_eq_true h] at he
    have HE := Lib.hid he; clear he h
    go_enter Try.func65, Try.ntmps65
    go_upto_region 2 with fail
    refine Ph.at_world ?_; intro W1 hW
    have k4 : hp W1 w.heap.size = some (.cells #[.int .i64 0, .int .i64 0] 53 (0, 0)) := by rw [hW]; simp [hpA, hpS, cset_cells]
    have k5 : hp W1 (w.heap.size + 1) = some (.cells #[.int .i64 a, .int .i64 b] 53 (0, 0)) := by rw [hW]; simp [hpA, hpS, cset_cells]
    have HB := Lib.hid (show Below w.heap.size w W1 by rw [hW]; exact by (repeat (first | (with_reducible assumption) | (with_reducible exact Below.refl _ _) | (with_reducible refine below_set ?_ (by first | assumption | (simp; done) | (simp; omega) | omega) _) | (with_reducible apply below_alloc) | (with_reducible apply below_drew) | (with_reducible apply below_drewN) | (with_reducible refine below_call ?_ (by assumption)))))
    clear hW
    have K4 := Lib.hid k4
    have c5 := hp_cell k5
    clear k4 k5
    go_wp2_with (go_at_call 59; (with_reducible refine (HE.out _).mono ?_); rintro e w1 ⟨rfl, hb⟩; have hb1 := below_call HB.out hb; have c4 := hp_cell (hp_below hb K4.out); have f4 := hp_free (hp_below hb K4.out); clear hb c5)
    refine bodyPost_ret (v := .agg #[.int .i64 0, .int .i64 0]) (by simp [results, Try.results65, go_sem, *]; done) rfl ⟨rfl, by (repeat (first | (with_reducible assumption) | (with_reducible exact Below.refl _ _) | (with_reducible refine below_set ?_ (by first | assumption | (simp; done) | (simp; omega) | omega) _) | (with_reducible apply below_alloc) | (with_reducible apply below_drew) | (with_reducible apply below_drewN) | (with_reducible refine below_call ?_ (by assumption))))⟩
  · rw [if_neg h]
    rw [decide_eq_false h] at he
    have HE := Lib.hid he; clear he h
    go_enter Try.func65, Try.ntmps65
    go_upto_region 2 with fail
    refine Ph.at_world ?_; intro W1 hW
    have k4 : hp W1 w.heap.size = some (.cells #[.int .i64 0, .int .i64 0] 53 (0, 0)) := by rw [hW]; simp [hpA, hpS, cset_cells]
    have k5 : hp W1 (w.heap.size + 1) = some (.cells #[.int .i64 a, .int .i64 b] 53 (0, 0)) := by rw [hW]; simp [hpA, hpS, cset_cells]
    have HB := Lib.hid (show Below w.heap.size w W1 by rw [hW]; exact by (repeat (first | (with_reducible assumption) | (with_reducible exact Below.refl _ _) | (with_reducible refine below_set ?_ (by first | assumption | (simp; done) | (simp; omega) | omega) _) | (with_reducible apply below_alloc) | (with_reducible apply below_drew) | (with_reducible apply below_drewN) | (with_reducible refine below_call ?_ (by assumption)))))
    clear hW
    have K4 := Lib.hid (And.intro k4 k5)
    have c5 := hp_cell k5
    clear k4 k5
    go_wp2_with (go_at_call 59; (with_reducible refine (HE.out _).mono ?_); rintro e w1 ⟨rfl, hb⟩; have hb1 := below_call HB.out hb; have c4 := hp_cell (hp_below hb K4.out.1); have f4 := hp_free (hp_below hb K4.out.1); replace c5 := hp_cell (hp_below hb K4.out.2); clear hb)
    refine bodyPost_ret (v := .agg #[.int .i64 a, .int .i64 b]) (by simp [results, Try.results65, go_sem, *]; done) rfl ⟨rfl, by (repeat (first | (with_reducible assumption) | (with_reducible exact Below.refl _ _) | (with_reducible refine below_set ?_ (by first | assumption | (simp; done) | (simp; omega) | omega) _) | (with_reducible apply below_alloc) | (with_reducible apply below_drew) | (with_reducible apply below_drewN) | (with_reducible refine below_call ?_ (by assumption))))⟩
end Go.Proofs.Ytnofclmnjhkhiaa
