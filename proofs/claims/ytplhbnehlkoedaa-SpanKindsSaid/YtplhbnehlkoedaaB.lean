/- Span: comparisons over int64. -/
import Derived.Test.YtplhbnehlkoedaaA
import Derived.WalkKit
import Derived.WalkLawsBesides
import Derived.WalkSpells
import Derived.Below
import Derived.Deep.RegionHeld3
import Derived.Deep.QuietTactic
import Derived.BigQuiet
import Derived.Deep.DeepCutAuto
import Derived.Deep.DeepMust
import Derived.KernelRfl
import Derived.Outline
import Derived.RegionTactic
namespace Go.Proofs.Ytplhbnehlkoedaa
open Go.RowKit
set_option linter.unusedVariables false
set_option linter.unusedSimpArgs false

attribute [local go_sem] max2_int min2_int max_two min_two ok_ite
attribute [local simp, local go_sem] ne_2 ne_3 ne_4 ne_5 en_2 en_3 en_4 en_5


def cmpI (a b : Int) : Int := if a < b then -1 else if b < a then 1 else 0
set_option maxHeartbeats 1000000 in
theorem cmp64 (a b : Int) (w : World) :
    Calls Try.prog 54 #[.int .i64 a, .int .i64 b] w fun e w' => e = .returned (.int .i64 (cmpI a b)) ∧ w = w' := by
  by_cases h1 : a < b
  · have e1 : cmpI a b = -1 := if_pos h1
    go_enter Try.func54, Try.ntmps54
    go_wp2
    go_ret
    exact ⟨by first | rfl | (rw [e1]; rfl), rfl⟩
  · by_cases h2 : b < a
    · have e1 : cmpI a b = 1 := by unfold cmpI; rw [if_neg h1, if_pos h2]
      go_enter Try.func54, Try.ntmps54
      go_wp2
      go_ret
      exact ⟨by first | rfl | (rw [e1]; rfl), rfl⟩
    · have e1 : cmpI a b = 0 := by unfold cmpI; rw [if_neg h1, if_neg h2]
      go_enter Try.func54, Try.ntmps54
      go_wp2
      go_ret
      exact ⟨by first | rfl | (rw [e1]; rfl), rfl⟩
theorem or_int (x y : Int) (g : Nat) (w : World) (c0 : w.cell? ⟨g, 0, none⟩ = some (.int .i64 x)) (c1 : w.cell? ⟨g, 1, none⟩ = some (.int .i64 y)) :
    Calls Try.prog 49 #[.slice (some ⟨g, 0, none⟩) 2 2] w fun e w' => e = .returned (.int .i64 (if x = 0 then y else x)) ∧ w = w' := by
  by_cases h : x = 0
  · have e1 : (if x = 0 then y else x) = y := if_pos h
    rw [e1]
    subst h
    by_cases h2 : y = 0
    · subst h2
      go_enter Try.func49, Try.ntmps49
      go_wp2
      refine wp_loop_rounds 3 ?_; rw [rounds_succ]
      go_wp2
      rw [rounds_succ]
      go_wp2
      rw [rounds_succ]
      go_wp2
      go_ret
      exact ⟨rfl, rfl⟩
    · have h3 : (y != 0) = true := by simp [h2]
      go_enter Try.func49, Try.ntmps49
      go_wp2
      refine wp_loop_rounds 3 ?_; rw [rounds_succ]
      go_wp2
      rw [rounds_succ]
      go_wp2
      go_ret
      exact ⟨rfl, rfl⟩
  · have h3 : (x != 0) = true := by simp [h]
    have e1 : (if x = 0 then y else x) = x := if_neg h
    rw [e1]
    go_enter Try.func49, Try.ntmps49
    go_wp2
    refine wp_loop_rounds 3 ?_; rw [rounds_succ]
    go_wp2
    go_ret
    exact ⟨rfl, rfl⟩

def compS (a b c d : Int) : Int := if emptyB a b && emptyB c d then 0 else if emptyB a b then -1 else if emptyB c d then 1 else if cmpI a c = 0 then cmpI b d else cmpI a c

set_option maxHeartbeats 2000000 in
theorem compare64 (a b c d : Int) (w : World) :
    Calls Try.prog 40 #[.agg #[.int .i64 a, .int .i64 b], .agg #[.int .i64 c, .int .i64 d]] w fun e w' => e = .returned (.int .i64 (compS a b c d)) ∧ Below w.heap.size w w' := by
  cases h0 : emptyB a b
  · skip
    cases h1 : emptyB c d
    · skip
      go_enter Try.func40, Try.ntmps40
      go_upto_region 1 with fail
      refine Ph.at_world ?_; intro W1 hW
      have q0 : hp W1 w.heap.size = some (.cells #[.int .i64 a, .int .i64 b] 25 (0, 0)) := by rw [hW]; simp [hp_alloc, hp_set, hp_drew, hp_drewN, cset_cells]
      have q1 : hp W1 (w.heap.size + 1) = some (.cells #[.int .i64 c, .int .i64 d] 25 (0, 0)) := by rw [hW]; simp [hp_alloc, hp_set, hp_drew, hp_drewN, cset_cells]
      have HB : Below w.heap.size w W1 := by rw [hW]; (repeat (first | assumption | exact Below.refl _ _ | (refine below_call ?_ (by assumption)) | apply below_alloc | apply below_drew | apply below_drewN | (refine below_set ?_ (by first | (simp; done) | (simp; omega) | omega) _)))
      clear hW
      have k0 := q0; clear q0; have c0 := kcell k0; have f0 := kfree k0
      have k1 := q1; clear q1; have c1 := kcell k1; have f1 := kfree k1
      go_wp2_with (first | (go_at_call 15; refine (empty64 _ _ _).mono ?_; rintro e w1 ⟨rfl, hb⟩; replace HB := below_call (by first | exact HB | (repeat (first | assumption | exact Below.refl _ _ | (refine below_call ?_ (by assumption)) | apply below_alloc | apply below_drew | apply below_drewN | (refine below_set ?_ (by first | (simp; done) | (simp; omega) | omega) _)))) hb; replace k0 : hp _ w.heap.size = some (.cells #[.int .i64 a, .int .i64 b] 25 (0, 0)) := kblk hb (by first | exact k0 | (simp [hp_alloc, hp_set, hp_drew, hp_drewN, cset_cells, k0, k1]; done)); replace k1 : hp _ (w.heap.size + 1) = some (.cells #[.int .i64 c, .int .i64 d] 25 (0, 0)) := kblk hb (by first | exact k1 | (simp [hp_alloc, hp_set, hp_drew, hp_drewN, cset_cells, k0, k1]; done)); replace c0 := kcell k0; replace f0 := kfree k0; replace c1 := kcell k1; replace f1 := kfree k1) | (go_at_call 54; refine (cmp64 _ _ _).mono ?_; rintro e w1 ⟨rfl, rfl⟩) | (go_at_call 49; refine (or_int (cmpI a c) (cmpI b d) _ _ ?_ ?_).mono ?_; rotate_left; (focus (simp; done)); (focus (simp; done)); rintro e w1 ⟨rfl, rfl⟩))
      refine Ph.wp_region_gr 10 10 [] (by kernel_rfl) (by kernel_rfl) (fun _ d _ _ _ h => by cases d <;> exact h) ?_
      simp only [List.take_succ_cons, List.take_zero, List.drop_succ_cons, List.drop_zero]
      repeat (first | (apply Ph.wpG_op rfl; (focus (intro w1 hS; have d0 := kcell (kblk hS k0); have d1 := kcell (kblk hS k1); go_simp; first | exact rfl | exact ⟨rfl, Below.refl _ _⟩ | ((with_reducible refine (empty64 _ _ _).mono ?_); rintro e w2 ⟨rfl, hb⟩; exact ⟨rfl, hb⟩) | ((with_reducible refine (cmp64 _ _ _).mono ?_); rintro e w2 ⟨rfl, rfl⟩; exact ⟨rfl, Below.refl _ _⟩) | ((with_reducible refine (or_int (cmpI a c) (cmpI b d) _ _ ?_ ?_).mono ?_); rintro e w2 ⟨rfl, rfl⟩; exact ⟨rfl, Below.refl _ _⟩)))); simp only [List.tail_cons, List.tail_nil, Act.put, List.setIfInBounds_toArray, List.set_cons_zero, List.set_cons_succ])
      refine Ph.wpG_nil ?_
      refine Ph.wpAl_nil ?_; intro v1 hS hgs hne
      clear hgs hne
      replace HB := below_call (by first | exact HB | (repeat (first | assumption | exact Below.refl _ _ | (refine below_call ?_ (by assumption)) | apply below_alloc | apply below_drew | apply below_drewN | (refine below_set ?_ (by first | (simp; done) | (simp; omega) | omega) _)))) hS; replace k0 : hp _ w.heap.size = some (.cells #[.int .i64 a, .int .i64 b] 25 (0, 0)) := kblk hS (by first | exact k0 | (simp [hp_alloc, hp_set, hp_drew, hp_drewN, cset_cells, k0, k1]; done)); replace k1 : hp _ (w.heap.size + 1) = some (.cells #[.int .i64 c, .int .i64 d] 25 (0, 0)) := kblk hS (by first | exact k1 | (simp [hp_alloc, hp_set, hp_drew, hp_drewN, cset_cells, k0, k1]; done)); replace c0 := kcell k0; replace f0 := kfree k0; replace c1 := kcell k1; replace f1 := kfree k1
      go_wp2_with fail
      refine (or_int (cmpI a c) (cmpI b d) _ _ (by simp) (by simp)).mono ?_; rintro e w1 ⟨rfl, rfl⟩
      go_wp2_with (first | (go_at_call 15; refine (empty64 _ _ _).mono ?_; rintro e w1 ⟨rfl, hb⟩; replace HB := below_call (by first | exact HB | (repeat (first | assumption | exact Below.refl _ _ | (refine below_call ?_ (by assumption)) | apply below_alloc | apply below_drew | apply below_drewN | (refine below_set ?_ (by first | (simp; done) | (simp; omega) | omega) _)))) hb; replace k0 : hp _ w.heap.size = some (.cells #[.int .i64 a, .int .i64 b] 25 (0, 0)) := kblk hb (by first | exact k0 | (simp [hp_alloc, hp_set, hp_drew, hp_drewN, cset_cells, k0, k1]; done)); replace k1 : hp _ (w.heap.size + 1) = some (.cells #[.int .i64 c, .int .i64 d] 25 (0, 0)) := kblk hb (by first | exact k1 | (simp [hp_alloc, hp_set, hp_drew, hp_drewN, cset_cells, k0, k1]; done)); replace c0 := kcell k0; replace f0 := kfree k0; replace c1 := kcell k1; replace f1 := kfree k1) | (go_at_call 54; refine (cmp64 _ _ _).mono ?_; rintro e w1 ⟨rfl, rfl⟩) | (go_at_call 49; refine (or_int (cmpI a c) (cmpI b d) _ _ ?_ ?_).mono ?_; rotate_left; (focus (simp; done)); (focus (simp; done)); rintro e w1 ⟨rfl, rfl⟩))
      all_goals (go_ret; exact ⟨by first | rfl | (simp [compS, *]; done) | (simp [compS]; omega) | (simp [compS, *]; omega), by (repeat (first | assumption | exact Below.refl _ _ | (refine below_call ?_ (by assumption)) | apply below_alloc | apply below_drew | apply below_drewN | (refine below_set ?_ (by first | (simp; done) | (simp; omega) | omega) _)))⟩)
    · skip
      go_enter Try.func40, Try.ntmps40
      go_upto_region 1 with fail
      refine Ph.at_world ?_; intro W1 hW
      have q0 : hp W1 w.heap.size = some (.cells #[.int .i64 a, .int .i64 b] 25 (0, 0)) := by rw [hW]; simp [hp_alloc, hp_set, hp_drew, hp_drewN, cset_cells]
      have q1 : hp W1 (w.heap.size + 1) = some (.cells #[.int .i64 c, .int .i64 d] 25 (0, 0)) := by rw [hW]; simp [hp_alloc, hp_set, hp_drew, hp_drewN, cset_cells]
      have HB : Below w.heap.size w W1 := by rw [hW]; (repeat (first | assumption | exact Below.refl _ _ | (refine below_call ?_ (by assumption)) | apply below_alloc | apply below_drew | apply below_drewN | (refine below_set ?_ (by first | (simp; done) | (simp; omega) | omega) _)))
      clear hW
      have k0 := q0; clear q0; have c0 := kcell k0; have f0 := kfree k0
      have k1 := q1; clear q1; have c1 := kcell k1; have f1 := kfree k1
      go_wp2_with (first | (go_at_call 15; refine (empty64 _ _ _).mono ?_; rintro e w1 ⟨rfl, hb⟩; replace HB := below_call (by first | exact HB | (repeat (first | assumption | exact Below.refl _ _ | (refine below_call ?_ (by assumption)) | apply below_alloc | apply below_drew | apply below_drewN | (refine below_set ?_ (by first | (simp; done) | (simp; omega) | omega) _)))) hb; replace k0 : hp _ w.heap.size = some (.cells #[.int .i64 a, .int .i64 b] 25 (0, 0)) := kblk hb (by first | exact k0 | (simp [hp_alloc, hp_set, hp_drew, hp_drewN, cset_cells, k0, k1]; done)); replace k1 : hp _ (w.heap.size + 1) = some (.cells #[.int .i64 c, .int .i64 d] 25 (0, 0)) := kblk hb (by first | exact k1 | (simp [hp_alloc, hp_set, hp_drew, hp_drewN, cset_cells, k0, k1]; done)); replace c0 := kcell k0; replace f0 := kfree k0; replace c1 := kcell k1; replace f1 := kfree k1) | (go_at_call 54; refine (cmp64 _ _ _).mono ?_; rintro e w1 ⟨rfl, rfl⟩) | (go_at_call 49; refine (or_int (cmpI a c) (cmpI b d) _ _ ?_ ?_).mono ?_; rotate_left; (focus (simp; done)); (focus (simp; done)); rintro e w1 ⟨rfl, rfl⟩))
      all_goals (go_ret; exact ⟨by first | rfl | (simp [compS, *]; done) | (simp [compS]; omega) | (simp [compS, *]; omega), by (repeat (first | assumption | exact Below.refl _ _ | (refine below_call ?_ (by assumption)) | apply below_alloc | apply below_drew | apply below_drewN | (refine below_set ?_ (by first | (simp; done) | (simp; omega) | omega) _)))⟩)
  · skip
    cases h1 : emptyB c d
    · skip
      go_enter Try.func40, Try.ntmps40
      go_upto_region 1 with fail
      refine Ph.at_world ?_; intro W1 hW
      have q0 : hp W1 w.heap.size = some (.cells #[.int .i64 a, .int .i64 b] 25 (0, 0)) := by rw [hW]; simp [hp_alloc, hp_set, hp_drew, hp_drewN, cset_cells]
      have q1 : hp W1 (w.heap.size + 1) = some (.cells #[.int .i64 c, .int .i64 d] 25 (0, 0)) := by rw [hW]; simp [hp_alloc, hp_set, hp_drew, hp_drewN, cset_cells]
      have HB : Below w.heap.size w W1 := by rw [hW]; (repeat (first | assumption | exact Below.refl _ _ | (refine below_call ?_ (by assumption)) | apply below_alloc | apply below_drew | apply below_drewN | (refine below_set ?_ (by first | (simp; done) | (simp; omega) | omega) _)))
      clear hW
      have k0 := q0; clear q0; have c0 := kcell k0; have f0 := kfree k0
      have k1 := q1; clear q1; have c1 := kcell k1; have f1 := kfree k1
      go_wp2_with (first | (go_at_call 15; refine (empty64 _ _ _).mono ?_; rintro e w1 ⟨rfl, hb⟩; replace HB := below_call (by first | exact HB | (repeat (first | assumption | exact Below.refl _ _ | (refine below_call ?_ (by assumption)) | apply below_alloc | apply below_drew | apply below_drewN | (refine below_set ?_ (by first | (simp; done) | (simp; omega) | omega) _)))) hb; replace k0 : hp _ w.heap.size = some (.cells #[.int .i64 a, .int .i64 b] 25 (0, 0)) := kblk hb (by first | exact k0 | (simp [hp_alloc, hp_set, hp_drew, hp_drewN, cset_cells, k0, k1]; done)); replace k1 : hp _ (w.heap.size + 1) = some (.cells #[.int .i64 c, .int .i64 d] 25 (0, 0)) := kblk hb (by first | exact k1 | (simp [hp_alloc, hp_set, hp_drew, hp_drewN, cset_cells, k0, k1]; done)); replace c0 := kcell k0; replace f0 := kfree k0; replace c1 := kcell k1; replace f1 := kfree k1) | (go_at_call 54; refine (cmp64 _ _ _).mono ?_; rintro e w1 ⟨rfl, rfl⟩) | (go_at_call 49; refine (or_int (cmpI a c) (cmpI b d) _ _ ?_ ?_).mono ?_; rotate_left; (focus (simp; done)); (focus (simp; done)); rintro e w1 ⟨rfl, rfl⟩))
      all_goals (go_ret; exact ⟨by first | rfl | (simp [compS, *]; done) | (simp [compS]; omega) | (simp [compS, *]; omega), by (repeat (first | assumption | exact Below.refl _ _ | (refine below_call ?_ (by assumption)) | apply below_alloc | apply below_drew | apply below_drewN | (refine below_set ?_ (by first | (simp; done) | (simp; omega) | omega) _)))⟩)
    · skip
      go_enter Try.func40, Try.ntmps40
      go_upto_region 1 with fail
      refine Ph.at_world ?_; intro W1 hW
      have q0 : hp W1 w.heap.size = some (.cells #[.int .i64 a, .int .i64 b] 25 (0, 0)) := by rw [hW]; simp [hp_alloc, hp_set, hp_drew, hp_drewN, cset_cells]
      have q1 : hp W1 (w.heap.size + 1) = some (.cells #[.int .i64 c, .int .i64 d] 25 (0, 0)) := by rw [hW]; simp [hp_alloc, hp_set, hp_drew, hp_drewN, cset_cells]
      have HB : Below w.heap.size w W1 := by rw [hW]; (repeat (first | assumption | exact Below.refl _ _ | (refine below_call ?_ (by assumption)) | apply below_alloc | apply below_drew | apply below_drewN | (refine below_set ?_ (by first | (simp; done) | (simp; omega) | omega) _)))
      clear hW
      have k0 := q0; clear q0; have c0 := kcell k0; have f0 := kfree k0
      have k1 := q1; clear q1; have c1 := kcell k1; have f1 := kfree k1
      go_wp2_with (first | (go_at_call 15; refine (empty64 _ _ _).mono ?_; rintro e w1 ⟨rfl, hb⟩; replace HB := below_call (by first | exact HB | (repeat (first | assumption | exact Below.refl _ _ | (refine below_call ?_ (by assumption)) | apply below_alloc | apply below_drew | apply below_drewN | (refine below_set ?_ (by first | (simp; done) | (simp; omega) | omega) _)))) hb; replace k0 : hp _ w.heap.size = some (.cells #[.int .i64 a, .int .i64 b] 25 (0, 0)) := kblk hb (by first | exact k0 | (simp [hp_alloc, hp_set, hp_drew, hp_drewN, cset_cells, k0, k1]; done)); replace k1 : hp _ (w.heap.size + 1) = some (.cells #[.int .i64 c, .int .i64 d] 25 (0, 0)) := kblk hb (by first | exact k1 | (simp [hp_alloc, hp_set, hp_drew, hp_drewN, cset_cells, k0, k1]; done)); replace c0 := kcell k0; replace f0 := kfree k0; replace c1 := kcell k1; replace f1 := kfree k1) | (go_at_call 54; refine (cmp64 _ _ _).mono ?_; rintro e w1 ⟨rfl, rfl⟩) | (go_at_call 49; refine (or_int (cmpI a c) (cmpI b d) _ _ ?_ ?_).mono ?_; rotate_left; (focus (simp; done)); (focus (simp; done)); rintro e w1 ⟨rfl, rfl⟩))
      all_goals (go_ret; exact ⟨by first | rfl | (simp [compS, *]; done) | (simp [compS]; omega) | (simp [compS, *]; omega), by (repeat (first | assumption | exact Below.refl _ _ | (refine below_call ?_ (by assumption)) | apply below_alloc | apply below_drew | apply below_drewN | (refine below_set ?_ (by first | (simp; done) | (simp; omega) | omega) _)))⟩)

set_option maxHeartbeats 2000000 in
theorem rhas (a b x : Int) (w : World) :
    Calls Try.prog 19 #[.agg #[.int .i64 a, .int .i64 b], .int .i64 x] w fun e w' => e = .returned (.bool (hasB a b x)) ∧ Below w.heap.size w w' := by
  by_cases h0 : a ≤ x
  · have g0 : ¬ x < a := by omega
    go_enter Try.func19, Try.ntmps19
    go_upto_region 1 with fail
    refine Ph.at_world ?_; intro W1 hW
    have q0 : hp W1 w.heap.size = some (.cells #[.int .i64 a, .int .i64 b] 29 (0, 0)) := by rw [hW]; simp [hp_alloc, hp_set, hp_drew, hp_drewN, cset_cells]
    have HB : Below w.heap.size w W1 := by rw [hW]; (repeat (first | assumption | exact Below.refl _ _ | (refine below_call ?_ (by assumption)) | apply below_alloc | apply below_drew | apply below_drewN | (refine below_set ?_ (by first | (simp; done) | (simp; omega) | omega) _)))
    clear hW
    have k0 := q0; clear q0; have c0 := kcell k0; have f0 := kfree k0
    go_wp2_with fail
    all_goals (go_ret; exact ⟨by first | rfl | (simp [hasB, *]; done) | (simp [hasB]; omega) | (simp [hasB, *]; omega), by (repeat (first | assumption | exact Below.refl _ _ | (refine below_call ?_ (by assumption)) | apply below_alloc | apply below_drew | apply below_drewN | (refine below_set ?_ (by first | (simp; done) | (simp; omega) | omega) _)))⟩)
  · have g0 : x < a := by omega
    go_enter Try.func19, Try.ntmps19
    go_upto_region 1 with fail
    refine Ph.at_world ?_; intro W1 hW
    have q0 : hp W1 w.heap.size = some (.cells #[.int .i64 a, .int .i64 b] 29 (0, 0)) := by rw [hW]; simp [hp_alloc, hp_set, hp_drew, hp_drewN, cset_cells]
    have HB : Below w.heap.size w W1 := by rw [hW]; (repeat (first | assumption | exact Below.refl _ _ | (refine below_call ?_ (by assumption)) | apply below_alloc | apply below_drew | apply below_drewN | (refine below_set ?_ (by first | (simp; done) | (simp; omega) | omega) _)))
    clear hW
    have k0 := q0; clear q0; have c0 := kcell k0; have f0 := kfree k0
    go_wp2_with fail
    all_goals (go_ret; exact ⟨by first | rfl | (simp [hasB, *]; done) | (simp [hasB]; omega) | (simp [hasB, *]; omega), by (repeat (first | assumption | exact Below.refl _ _ | (refine below_call ?_ (by assumption)) | apply below_alloc | apply below_drew | apply below_drewN | (refine below_set ?_ (by first | (simp; done) | (simp; omega) | omega) _)))⟩)

set_option maxHeartbeats 2000000 in
theorem rempty (a b : Int) (w : World) :
    Calls Try.prog 16 #[.agg #[.int .i64 a, .int .i64 b]] w fun e w' => e = .returned (.bool (emptyB a b)) ∧ Below w.heap.size w w' := by
  go_enter Try.func16, Try.ntmps16
  go_upto_region 1 with fail
  refine Ph.at_world ?_; intro W1 hW
  have q0 : hp W1 w.heap.size = some (.cells #[.int .i64 a, .int .i64 b] 29 (0, 0)) := by rw [hW]; simp [hp_alloc, hp_set, hp_drew, hp_drewN, cset_cells]
  have HB : Below w.heap.size w W1 := by rw [hW]; (repeat (first | assumption | exact Below.refl _ _ | (refine below_call ?_ (by assumption)) | apply below_alloc | apply below_drew | apply below_drewN | (refine below_set ?_ (by first | (simp; done) | (simp; omega) | omega) _)))
  clear hW
  have k0 := q0; clear q0; have c0 := kcell k0; have f0 := kfree k0
  go_wp2_with (first | (go_at_call 19; refine (rhas _ _ _ _).mono ?_; rintro e w1 ⟨rfl, hb⟩; replace HB := below_call (by first | exact HB | (repeat (first | assumption | exact Below.refl _ _ | (refine below_call ?_ (by assumption)) | apply below_alloc | apply below_drew | apply below_drewN | (refine below_set ?_ (by first | (simp; done) | (simp; omega) | omega) _)))) hb; replace k0 : hp _ w.heap.size = some (.cells #[.int .i64 a, .int .i64 b] 29 (0, 0)) := kblk hb (by first | exact k0 | (simp [hp_alloc, hp_set, hp_drew, hp_drewN, cset_cells, k0]; done)); replace c0 := kcell k0; replace f0 := kfree k0))
  all_goals (go_ret; exact ⟨by simp [emptyB, hasB]; by_cases h : a < b <;> simp [h] <;> omega, by (repeat (first | assumption | exact Below.refl _ _ | (refine below_call ?_ (by assumption)) | apply below_alloc | apply below_drew | apply below_drewN | (refine below_set ?_ (by first | (simp; done) | (simp; omega) | omega) _)))⟩)

set_option maxHeartbeats 2000000 in
theorem rof (a b : Int) (w : World) :
    Calls Try.prog 14 #[.int .i64 a, .int .i64 b] w fun e w' => e = .returned (.agg #[.int .i64 (ofS a b).1, .int .i64 (ofS a b).2]) ∧ Below w.heap.size w w' := by
  by_cases h0 : a < b
  · have g0 : ¬ b ≤ a := by omega
    have e0 : emptyB a b = false := by unfold emptyB; simp; omega
    have z0 : (0:Int) = 0 := by omega
    go_enter Try.func14, Try.ntmps14
    go_upto_region 1 with fail
    refine Ph.at_world ?_; intro W1 hW
    have qr : hp W1 w.heap.size = some (.cells #[.int .i64 0, .int .i64 0] 29 (0, 0)) := by rw [hW]; simp [hp_alloc, hp_set, hp_drew, hp_drewN, cset_cells]
    have HB : Below w.heap.size w W1 := by rw [hW]; (repeat (first | assumption | exact Below.refl _ _ | (refine below_call ?_ (by assumption)) | apply below_alloc | apply below_drew | apply below_drewN | (refine below_set ?_ (by first | (simp; done) | (simp; omega) | omega) _)))
    clear hW
    have kr := qr; clear qr; have cr := kcell kr; have fr := kfree kr
    go_wp2_with fail
    go_at_call 16; refine Ph.at_callw ?_; intro W2 hW
    have nr5 : (w.heap.size = W1.heap.size) = False := eq_false (by have := klt kr; omega)
    have qr : hp W2 w.heap.size = some (.cells #[.int .i64 0, .int .i64 0] 29 (0, 0)) := by rw [hW]; simp [hp_alloc, hp_set, hp_drew, hp_drewN, cset_cells, kr, nr5]
    have q5 : hp W2 W1.heap.size = some (.cells #[.int .i64 a, .int .i64 b] 29 (0, 0)) := by rw [hW]; simp [hp_alloc, hp_set, hp_drew, hp_drewN, cset_cells, kr, nr5]
    have HB' : Below w.heap.size w W2 := by rw [hW]; (repeat (first | assumption | exact Below.refl _ _ | (refine below_call ?_ (by assumption)) | apply below_alloc | apply below_drew | apply below_drewN | (refine below_set ?_ (by first | (simp; done) | (simp; omega) | omega) _)))
    replace HB := HB'; clear HB'
    clear hW
    clear kr cr fr
    have kr := qr; clear qr; have cr := kcell kr; have fr := kfree kr
    have k5 := q5; clear q5; have c5 := kcell k5; have f5 := kfree k5
    refine (rempty _ _ _).mono ?_; rintro e v1 ⟨rfl, hb⟩; replace HB := below_call (by first | exact HB | (repeat (first | assumption | exact Below.refl _ _ | (refine below_call ?_ (by assumption)) | apply below_alloc | apply below_drew | apply below_drewN | (refine below_set ?_ (by first | (simp; done) | (simp; omega) | omega) _)))) hb; replace kr : hp _ w.heap.size = some (.cells #[.int .i64 0, .int .i64 0] 29 (0, 0)) := kblk hb (by first | exact kr | (simp [hp_alloc, hp_set, hp_drew, hp_drewN, cset_cells, kr, k5]; done)); replace k5 : hp _ W1.heap.size = some (.cells #[.int .i64 a, .int .i64 b] 29 (0, 0)) := kblk hb (by first | exact k5 | (simp [hp_alloc, hp_set, hp_drew, hp_drewN, cset_cells, kr, k5]; done)); replace cr := kcell kr; replace fr := kfree kr; replace c5 := kcell k5; replace f5 := kfree k5
    go_wp2_with (first | (go_at_call 16; refine (rempty _ _ _).mono ?_; rintro e w1 ⟨rfl, hb⟩; replace HB := below_call (by first | exact HB | (repeat (first | assumption | exact Below.refl _ _ | (refine below_call ?_ (by assumption)) | apply below_alloc | apply below_drew | apply below_drewN | (refine below_set ?_ (by first | (simp; done) | (simp; omega) | omega) _)))) hb; replace kr : hp _ w.heap.size = some (.cells #[.int .i64 0, .int .i64 0] 29 (0, 0)) := kblk hb (by first | exact kr | (simp [hp_alloc, hp_set, hp_drew, hp_drewN, cset_cells, kr, k5]; done)); replace k5 : hp _ W1.heap.size = some (.cells #[.int .i64 a, .int .i64 b] 29 (0, 0)) := kblk hb (by first | exact k5 | (simp [hp_alloc, hp_set, hp_drew, hp_drewN, cset_cells, kr, k5]; done)); replace cr := kcell kr; replace fr := kfree kr; replace c5 := kcell k5; replace f5 := kfree k5))
    all_goals try go_wp2
    all_goals refine bodyPost_ret (v := .agg #[.int .i64 (ofS a b).1, .int .i64 (ofS a b).2]) (by simp [results, Try.results14, go_sem, ofS_pos, ofS_neg, *]) rfl ⟨?_, by (repeat (first | assumption | exact Below.refl _ _ | (refine below_call ?_ (by assumption)) | apply below_alloc | apply below_drew | apply below_drewN | (refine below_set ?_ (by first | (simp; done) | (simp; omega) | omega) _)))⟩
    all_goals (first | rfl | (simp [ofS_pos, ofS_neg, *]; done))
  · have g0 : b ≤ a := by omega
    have e0 : emptyB a b = true := by unfold emptyB; simp; omega
    have z0 : (0:Int) = 0 := by omega
    go_enter Try.func14, Try.ntmps14
    go_upto_region 1 with fail
    refine Ph.at_world ?_; intro W1 hW
    have qr : hp W1 w.heap.size = some (.cells #[.int .i64 0, .int .i64 0] 29 (0, 0)) := by rw [hW]; simp [hp_alloc, hp_set, hp_drew, hp_drewN, cset_cells]
    have HB : Below w.heap.size w W1 := by rw [hW]; (repeat (first | assumption | exact Below.refl _ _ | (refine below_call ?_ (by assumption)) | apply below_alloc | apply below_drew | apply below_drewN | (refine below_set ?_ (by first | (simp; done) | (simp; omega) | omega) _)))
    clear hW
    have kr := qr; clear qr; have cr := kcell kr; have fr := kfree kr
    go_wp2_with fail
    go_at_call 16; refine Ph.at_callw ?_; intro W2 hW
    have nr5 : (w.heap.size = W1.heap.size) = False := eq_false (by have := klt kr; omega)
    have qr : hp W2 w.heap.size = some (.cells #[.int .i64 0, .int .i64 0] 29 (0, 0)) := by rw [hW]; simp [hp_alloc, hp_set, hp_drew, hp_drewN, cset_cells, kr, nr5]
    have q5 : hp W2 W1.heap.size = some (.cells #[.int .i64 a, .int .i64 b] 29 (0, 0)) := by rw [hW]; simp [hp_alloc, hp_set, hp_drew, hp_drewN, cset_cells, kr, nr5]
    have HB' : Below w.heap.size w W2 := by rw [hW]; (repeat (first | assumption | exact Below.refl _ _ | (refine below_call ?_ (by assumption)) | apply below_alloc | apply below_drew | apply below_drewN | (refine below_set ?_ (by first | (simp; done) | (simp; omega) | omega) _)))
    replace HB := HB'; clear HB'
    clear hW
    clear kr cr fr
    have kr := qr; clear qr; have cr := kcell kr; have fr := kfree kr
    have k5 := q5; clear q5; have c5 := kcell k5; have f5 := kfree k5
    refine (rempty _ _ _).mono ?_; rintro e v1 ⟨rfl, hb⟩; replace HB := below_call (by first | exact HB | (repeat (first | assumption | exact Below.refl _ _ | (refine below_call ?_ (by assumption)) | apply below_alloc | apply below_drew | apply below_drewN | (refine below_set ?_ (by first | (simp; done) | (simp; omega) | omega) _)))) hb; replace kr : hp _ w.heap.size = some (.cells #[.int .i64 0, .int .i64 0] 29 (0, 0)) := kblk hb (by first | exact kr | (simp [hp_alloc, hp_set, hp_drew, hp_drewN, cset_cells, kr, k5]; done)); replace k5 : hp _ W1.heap.size = some (.cells #[.int .i64 a, .int .i64 b] 29 (0, 0)) := kblk hb (by first | exact k5 | (simp [hp_alloc, hp_set, hp_drew, hp_drewN, cset_cells, kr, k5]; done)); replace cr := kcell kr; replace fr := kfree kr; replace c5 := kcell k5; replace f5 := kfree k5
    go_wp2_with (first | (go_at_call 16; refine (rempty _ _ _).mono ?_; rintro e w1 ⟨rfl, hb⟩; replace HB := below_call (by first | exact HB | (repeat (first | assumption | exact Below.refl _ _ | (refine below_call ?_ (by assumption)) | apply below_alloc | apply below_drew | apply below_drewN | (refine below_set ?_ (by first | (simp; done) | (simp; omega) | omega) _)))) hb; replace kr : hp _ w.heap.size = some (.cells #[.int .i64 0, .int .i64 0] 29 (0, 0)) := kblk hb (by first | exact kr | (simp [hp_alloc, hp_set, hp_drew, hp_drewN, cset_cells, kr, k5]; done)); replace k5 : hp _ W1.heap.size = some (.cells #[.int .i64 a, .int .i64 b] 29 (0, 0)) := kblk hb (by first | exact k5 | (simp [hp_alloc, hp_set, hp_drew, hp_drewN, cset_cells, kr, k5]; done)); replace cr := kcell kr; replace fr := kfree kr; replace c5 := kcell k5; replace f5 := kfree k5))
    all_goals try go_wp2
    all_goals refine bodyPost_ret (v := .agg #[.int .i64 (ofS a b).1, .int .i64 (ofS a b).2]) (by simp [results, Try.results14, go_sem, ofS_pos, ofS_neg, *]) rfl ⟨?_, by (repeat (first | assumption | exact Below.refl _ _ | (refine below_call ?_ (by assumption)) | apply below_alloc | apply below_drew | apply below_drewN | (refine below_set ?_ (by first | (simp; done) | (simp; omega) | omega) _)))⟩
    all_goals (first | rfl | (simp [ofS_pos, ofS_neg, *]; done))

theorem meetS_l {a b c d : Int} (h : emptyB a b = true) : meetS a b c d = (0, 0) := ofS_neg (by simp [emptyB] at h; omega)
theorem meetS_r {a b c d : Int} (h : emptyB c d = true) : meetS a b c d = (0, 0) := ofS_neg (by simp [emptyB] at h; omega)
theorem meetS_eq {a b c d x y : Int} (h1 : max a c = x) (h2 : min b d = y) : meetS a b c d = ofS x y := by unfold meetS; rw [h1, h2]
theorem hullS_eq {a b c d x y : Int} (h : emptyB a b = false) (h' : emptyB c d = false) (h1 : min a c = x) (h2 : max b d = y) : hullS a b c d = ofS x y := by unfold hullS; rw [h, h', h1, h2]; rfl
theorem hullS_l {a b c d : Int} (h : emptyB a b = true) : hullS a b c d = ofS c d := by unfold hullS; rw [h]; rfl
theorem hullS_r {a b c d : Int} (h : emptyB a b = false) (h' : emptyB c d = true) : hullS a b c d = (a, b) := by unfold hullS; rw [h, h']; rfl

set_option maxHeartbeats 2000000 in
theorem rmeet (a b c d : Int) (w : World) :
    Calls Try.prog 33 #[.agg #[.int .i64 a, .int .i64 b], .agg #[.int .i64 c, .int .i64 d]] w fun e w' => e = .returned (.agg #[.int .i64 (meetS a b c d).1, .int .i64 (meetS a b c d).2]) ∧ Below w.heap.size w w' := by
  cases h0 : emptyB a b
  · skip
    cases h1 : emptyB c d
    · skip
      by_cases h2 : a < c
      · have g2 : ¬ c ≤ a := by omega
        by_cases h3 : d < b
        · have g3 : ¬ b ≤ d := by omega
          have eq : meetS a b c d = ofS c d := meetS_eq (by omega) (by omega)
          go_enter Try.func33, Try.ntmps33
          go_upto_region 1 with fail
          refine Ph.at_world ?_; intro W1 hW
          have q0 : hp W1 w.heap.size = some (.cells #[.int .i64 a, .int .i64 b] 29 (0, 0)) := by rw [hW]; simp [hp_alloc, hp_set, hp_drew, hp_drewN, cset_cells]
          have q1 : hp W1 (w.heap.size + 1) = some (.cells #[.int .i64 c, .int .i64 d] 29 (0, 0)) := by rw [hW]; simp [hp_alloc, hp_set, hp_drew, hp_drewN, cset_cells]
          have qr0 : hp W1 (w.heap.size + 1 + 1) = some (.cells #[.int .i64 0, .int .i64 0] 29 (0, 0)) := by rw [hW]; simp [hp_alloc, hp_set, hp_drew, hp_drewN, cset_cells]
          have HB : Below w.heap.size w W1 := by rw [hW]; (repeat (first | assumption | exact Below.refl _ _ | (refine below_call ?_ (by assumption)) | apply below_alloc | apply below_drew | apply below_drewN | (refine below_set ?_ (by first | (simp; done) | (simp; omega) | omega) _)))
          clear hW
          have k0 := q0; clear q0; have c0 := kcell k0; have f0 := kfree k0
          have k1 := q1; clear q1; have c1 := kcell k1; have f1 := kfree k1
          have kr0 := qr0; clear qr0; have cr0 := kcell kr0; have fr0 := kfree kr0
          go_wp2_with fail
          go_at_call 16; refine Ph.at_callw ?_; intro W2 hW
          have q0 : hp W2 w.heap.size = some (.cells #[.int .i64 a, .int .i64 b] 29 (0, 0)) := by rw [hW]; simp [hp_alloc, hp_set, hp_drew, hp_drewN, cset_cells, k0, k1, kr0]
          have q1 : hp W2 (w.heap.size + 1) = some (.cells #[.int .i64 c, .int .i64 d] 29 (0, 0)) := by rw [hW]; simp [hp_alloc, hp_set, hp_drew, hp_drewN, cset_cells, k0, k1, kr0]
          have qr0 : hp W2 (w.heap.size + 1 + 1) = some (.cells #[.int .i64 0, .int .i64 0] 29 (0, 0)) := by rw [hW]; simp [hp_alloc, hp_set, hp_drew, hp_drewN, cset_cells, k0, k1, kr0]
          have HB' : Below w.heap.size w W2 := by rw [hW]; (repeat (first | assumption | exact Below.refl _ _ | (refine below_call ?_ (by assumption)) | apply below_alloc | apply below_drew | apply below_drewN | (refine below_set ?_ (by first | (simp; done) | (simp; omega) | omega) _)))
          replace HB := HB'; clear HB'
          clear hW
          clear k0 c0 f0
          clear k1 c1 f1
          clear kr0 cr0 fr0
          have k0 := q0; clear q0; have c0 := kcell k0; have f0 := kfree k0
          have k1 := q1; clear q1; have c1 := kcell k1; have f1 := kfree k1
          have kr0 := qr0; clear qr0; have cr0 := kcell kr0; have fr0 := kfree kr0
          refine (rempty _ _ _).mono ?_; rintro e v1 ⟨rfl, hb⟩; replace HB := below_call (by first | exact HB | (repeat (first | assumption | exact Below.refl _ _ | (refine below_call ?_ (by assumption)) | apply below_alloc | apply below_drew | apply below_drewN | (refine below_set ?_ (by first | (simp; done) | (simp; omega) | omega) _)))) hb; replace k0 : hp _ w.heap.size = some (.cells #[.int .i64 a, .int .i64 b] 29 (0, 0)) := kblk hb (by first | exact k0 | (simp [hp_alloc, hp_set, hp_drew, hp_drewN, cset_cells, k0, k1, kr0]; done)); replace k1 : hp _ (w.heap.size + 1) = some (.cells #[.int .i64 c, .int .i64 d] 29 (0, 0)) := kblk hb (by first | exact k1 | (simp [hp_alloc, hp_set, hp_drew, hp_drewN, cset_cells, k0, k1, kr0]; done)); replace kr0 : hp _ (w.heap.size + 1 + 1) = some (.cells #[.int .i64 0, .int .i64 0] 29 (0, 0)) := kblk hb (by first | exact kr0 | (simp [hp_alloc, hp_set, hp_drew, hp_drewN, cset_cells, k0, k1, kr0]; done)); replace c0 := kcell k0; replace f0 := kfree k0; replace c1 := kcell k1; replace f1 := kfree k1; replace cr0 := kcell kr0; replace fr0 := kfree kr0
          go_wp2_with fail
          go_at_call 16; refine Ph.at_callw ?_; intro W3 hW
          have q0 : hp W3 w.heap.size = some (.cells #[.int .i64 a, .int .i64 b] 29 (0, 0)) := by rw [hW]; simp [hp_alloc, hp_set, hp_drew, hp_drewN, cset_cells, k0, k1, kr0]
          have q1 : hp W3 (w.heap.size + 1) = some (.cells #[.int .i64 c, .int .i64 d] 29 (0, 0)) := by rw [hW]; simp [hp_alloc, hp_set, hp_drew, hp_drewN, cset_cells, k0, k1, kr0]
          have qr0 : hp W3 (w.heap.size + 1 + 1) = some (.cells #[.int .i64 0, .int .i64 0] 29 (0, 0)) := by rw [hW]; simp [hp_alloc, hp_set, hp_drew, hp_drewN, cset_cells, k0, k1, kr0]
          have HB' : Below w.heap.size w W3 := by rw [hW]; (repeat (first | assumption | exact Below.refl _ _ | (refine below_call ?_ (by assumption)) | apply below_alloc | apply below_drew | apply below_drewN | (refine below_set ?_ (by first | (simp; done) | (simp; omega) | omega) _)))
          replace HB := HB'; clear HB'
          clear hW
          clear k0 c0 f0
          clear k1 c1 f1
          clear kr0 cr0 fr0
          have k0 := q0; clear q0; have c0 := kcell k0; have f0 := kfree k0
          have k1 := q1; clear q1; have c1 := kcell k1; have f1 := kfree k1
          have kr0 := qr0; clear qr0; have cr0 := kcell kr0; have fr0 := kfree kr0
          refine (rempty _ _ _).mono ?_; rintro e v2 ⟨rfl, hb⟩; replace HB := below_call (by first | exact HB | (repeat (first | assumption | exact Below.refl _ _ | (refine below_call ?_ (by assumption)) | apply below_alloc | apply below_drew | apply below_drewN | (refine below_set ?_ (by first | (simp; done) | (simp; omega) | omega) _)))) hb; replace k0 : hp _ w.heap.size = some (.cells #[.int .i64 a, .int .i64 b] 29 (0, 0)) := kblk hb (by first | exact k0 | (simp [hp_alloc, hp_set, hp_drew, hp_drewN, cset_cells, k0, k1, kr0]; done)); replace k1 : hp _ (w.heap.size + 1) = some (.cells #[.int .i64 c, .int .i64 d] 29 (0, 0)) := kblk hb (by first | exact k1 | (simp [hp_alloc, hp_set, hp_drew, hp_drewN, cset_cells, k0, k1, kr0]; done)); replace kr0 : hp _ (w.heap.size + 1 + 1) = some (.cells #[.int .i64 0, .int .i64 0] 29 (0, 0)) := kblk hb (by first | exact kr0 | (simp [hp_alloc, hp_set, hp_drew, hp_drewN, cset_cells, k0, k1, kr0]; done)); replace c0 := kcell k0; replace f0 := kfree k0; replace c1 := kcell k1; replace f1 := kfree k1; replace cr0 := kcell kr0; replace fr0 := kfree kr0
          go_wp2_with fail
          refine Ph.wp_region_gr 6 6 [] (by kernel_rfl) (by kernel_rfl) (fun _ d _ _ _ h => by cases d <;> exact h) ?_
          simp only [List.take_succ_cons, List.take_zero, List.drop_succ_cons, List.drop_zero]
          repeat (first | (apply Ph.wpG_op rfl; (focus (intro w1 hS; have d0 := kcell (kblk hS k0); have d1 := kcell (kblk hS k1); have dr0 := kcell (kblk hS kr0); go_simp; first | exact rfl | exact ⟨rfl, Below.refl _ _⟩ | ((with_reducible refine (rempty _ _ _).mono ?_); rintro e w2 ⟨rfl, hb⟩; exact ⟨rfl, hb⟩) | ((with_reducible refine (rof _ _ _).mono ?_); rintro e w2 ⟨rfl, hb⟩; exact ⟨rfl, hb⟩)))); simp only [List.tail_cons, List.tail_nil, Act.put, List.setIfInBounds_toArray, List.set_cons_zero, List.set_cons_succ])
          refine Ph.wpG_nil ?_
          refine Ph.wpAl_nil ?_; intro v3 hS hgs hne
          clear hgs hne
          replace HB := below_call (by first | exact HB | (repeat (first | assumption | exact Below.refl _ _ | (refine below_call ?_ (by assumption)) | apply below_alloc | apply below_drew | apply below_drewN | (refine below_set ?_ (by first | (simp; done) | (simp; omega) | omega) _)))) hS; replace k0 : hp _ w.heap.size = some (.cells #[.int .i64 a, .int .i64 b] 29 (0, 0)) := kblk hS (by first | exact k0 | (simp [hp_alloc, hp_set, hp_drew, hp_drewN, cset_cells, k0, k1, kr0]; done)); replace k1 : hp _ (w.heap.size + 1) = some (.cells #[.int .i64 c, .int .i64 d] 29 (0, 0)) := kblk hS (by first | exact k1 | (simp [hp_alloc, hp_set, hp_drew, hp_drewN, cset_cells, k0, k1, kr0]; done)); replace kr0 : hp _ (w.heap.size + 1 + 1) = some (.cells #[.int .i64 0, .int .i64 0] 29 (0, 0)) := kblk hS (by first | exact kr0 | (simp [hp_alloc, hp_set, hp_drew, hp_drewN, cset_cells, k0, k1, kr0]; done)); replace c0 := kcell k0; replace f0 := kfree k0; replace c1 := kcell k1; replace f1 := kfree k1; replace cr0 := kcell kr0; replace fr0 := kfree kr0
          go_wp2_with (first | (go_at_call 14; refine (rof _ _ _).mono ?_; rintro e w1 ⟨rfl, hb⟩; replace HB := below_call (by first | exact HB | (repeat (first | assumption | exact Below.refl _ _ | (refine below_call ?_ (by assumption)) | apply below_alloc | apply below_drew | apply below_drewN | (refine below_set ?_ (by first | (simp; done) | (simp; omega) | omega) _)))) hb; replace k0 : hp _ w.heap.size = some (.cells #[.int .i64 a, .int .i64 b] 29 (0, 0)) := kblk hb (by first | exact k0 | (simp [hp_alloc, hp_set, hp_drew, hp_drewN, cset_cells, k0, k1, kr0]; done)); replace k1 : hp _ (w.heap.size + 1) = some (.cells #[.int .i64 c, .int .i64 d] 29 (0, 0)) := kblk hb (by first | exact k1 | (simp [hp_alloc, hp_set, hp_drew, hp_drewN, cset_cells, k0, k1, kr0]; done)); replace kr0 : hp _ (w.heap.size + 1 + 1) = some (.cells #[.int .i64 0, .int .i64 0] 29 (0, 0)) := kblk hb (by first | exact kr0 | (simp [hp_alloc, hp_set, hp_drew, hp_drewN, cset_cells, k0, k1, kr0]; done)); replace c0 := kcell k0; replace f0 := kfree k0; replace c1 := kcell k1; replace f1 := kfree k1; replace cr0 := kcell kr0; replace fr0 := kfree kr0))
          all_goals try go_wp2
          all_goals refine bodyPost_ret (v := .agg #[.int .i64 (meetS a b c d).1, .int .i64 (meetS a b c d).2]) (by simp [results, Try.results33, go_sem, meetS_l, meetS_r, *]) rfl ⟨?_, by (repeat (first | assumption | exact Below.refl _ _ | (refine below_call ?_ (by assumption)) | apply below_alloc | apply below_drew | apply below_drewN | (refine below_set ?_ (by first | (simp; done) | (simp; omega) | omega) _)))⟩
          all_goals (first | rfl | (simp [meetS_l, meetS_r, *]; done))
        · have g3 : b ≤ d := by omega
          have eq : meetS a b c d = ofS c b := meetS_eq (by omega) (by omega)
          go_enter Try.func33, Try.ntmps33
          go_upto_region 1 with fail
          refine Ph.at_world ?_; intro W1 hW
          have q0 : hp W1 w.heap.size = some (.cells #[.int .i64 a, .int .i64 b] 29 (0, 0)) := by rw [hW]; simp [hp_alloc, hp_set, hp_drew, hp_drewN, cset_cells]
          have q1 : hp W1 (w.heap.size + 1) = some (.cells #[.int .i64 c, .int .i64 d] 29 (0, 0)) := by rw [hW]; simp [hp_alloc, hp_set, hp_drew, hp_drewN, cset_cells]
          have qr0 : hp W1 (w.heap.size + 1 + 1) = some (.cells #[.int .i64 0, .int .i64 0] 29 (0, 0)) := by rw [hW]; simp [hp_alloc, hp_set, hp_drew, hp_drewN, cset_cells]
          have HB : Below w.heap.size w W1 := by rw [hW]; (repeat (first | assumption | exact Below.refl _ _ | (refine below_call ?_ (by assumption)) | apply below_alloc | apply below_drew | apply below_drewN | (refine below_set ?_ (by first | (simp; done) | (simp; omega) | omega) _)))
          clear hW
          have k0 := q0; clear q0; have c0 := kcell k0; have f0 := kfree k0
          have k1 := q1; clear q1; have c1 := kcell k1; have f1 := kfree k1
          have kr0 := qr0; clear qr0; have cr0 := kcell kr0; have fr0 := kfree kr0
          go_wp2_with fail
          go_at_call 16; refine Ph.at_callw ?_; intro W2 hW
          have q0 : hp W2 w.heap.size = some (.cells #[.int .i64 a, .int .i64 b] 29 (0, 0)) := by rw [hW]; simp [hp_alloc, hp_set, hp_drew, hp_drewN, cset_cells, k0, k1, kr0]
          have q1 : hp W2 (w.heap.size + 1) = some (.cells #[.int .i64 c, .int .i64 d] 29 (0, 0)) := by rw [hW]; simp [hp_alloc, hp_set, hp_drew, hp_drewN, cset_cells, k0, k1, kr0]
          have qr0 : hp W2 (w.heap.size + 1 + 1) = some (.cells #[.int .i64 0, .int .i64 0] 29 (0, 0)) := by rw [hW]; simp [hp_alloc, hp_set, hp_drew, hp_drewN, cset_cells, k0, k1, kr0]
          have HB' : Below w.heap.size w W2 := by rw [hW]; (repeat (first | assumption | exact Below.refl _ _ | (refine below_call ?_ (by assumption)) | apply below_alloc | apply below_drew | apply below_drewN | (refine below_set ?_ (by first | (simp; done) | (simp; omega) | omega) _)))
          replace HB := HB'; clear HB'
          clear hW
          clear k0 c0 f0
          clear k1 c1 f1
          clear kr0 cr0 fr0
          have k0 := q0; clear q0; have c0 := kcell k0; have f0 := kfree k0
          have k1 := q1; clear q1; have c1 := kcell k1; have f1 := kfree k1
          have kr0 := qr0; clear qr0; have cr0 := kcell kr0; have fr0 := kfree kr0
          refine (rempty _ _ _).mono ?_; rintro e v1 ⟨rfl, hb⟩; replace HB := below_call (by first | exact HB | (repeat (first | assumption | exact Below.refl _ _ | (refine below_call ?_ (by assumption)) | apply below_alloc | apply below_drew | apply below_drewN | (refine below_set ?_ (by first | (simp; done) | (simp; omega) | omega) _)))) hb; replace k0 : hp _ w.heap.size = some (.cells #[.int .i64 a, .int .i64 b] 29 (0, 0)) := kblk hb (by first | exact k0 | (simp [hp_alloc, hp_set, hp_drew, hp_drewN, cset_cells, k0, k1, kr0]; done)); replace k1 : hp _ (w.heap.size + 1) = some (.cells #[.int .i64 c, .int .i64 d] 29 (0, 0)) := kblk hb (by first | exact k1 | (simp [hp_alloc, hp_set, hp_drew, hp_drewN, cset_cells, k0, k1, kr0]; done)); replace kr0 : hp _ (w.heap.size + 1 + 1) = some (.cells #[.int .i64 0, .int .i64 0] 29 (0, 0)) := kblk hb (by first | exact kr0 | (simp [hp_alloc, hp_set, hp_drew, hp_drewN, cset_cells, k0, k1, kr0]; done)); replace c0 := kcell k0; replace f0 := kfree k0; replace c1 := kcell k1; replace f1 := kfree k1; replace cr0 := kcell kr0; replace fr0 := kfree kr0
          go_wp2_with fail
          go_at_call 16; refine Ph.at_callw ?_; intro W3 hW
          have q0 : hp W3 w.heap.size = some (.cells #[.int .i64 a, .int .i64 b] 29 (0, 0)) := by rw [hW]; simp [hp_alloc, hp_set, hp_drew, hp_drewN, cset_cells, k0, k1, kr0]
          have q1 : hp W3 (w.heap.size + 1) = some (.cells #[.int .i64 c, .int .i64 d] 29 (0, 0)) := by rw [hW]; simp [hp_alloc, hp_set, hp_drew, hp_drewN, cset_cells, k0, k1, kr0]
          have qr0 : hp W3 (w.heap.size + 1 + 1) = some (.cells #[.int .i64 0, .int .i64 0] 29 (0, 0)) := by rw [hW]; simp [hp_alloc, hp_set, hp_drew, hp_drewN, cset_cells, k0, k1, kr0]
          have HB' : Below w.heap.size w W3 := by rw [hW]; (repeat (first | assumption | exact Below.refl _ _ | (refine below_call ?_ (by assumption)) | apply below_alloc | apply below_drew | apply below_drewN | (refine below_set ?_ (by first | (simp; done) | (simp; omega) | omega) _)))
          replace HB := HB'; clear HB'
          clear hW
          clear k0 c0 f0
          clear k1 c1 f1
          clear kr0 cr0 fr0
          have k0 := q0; clear q0; have c0 := kcell k0; have f0 := kfree k0
          have k1 := q1; clear q1; have c1 := kcell k1; have f1 := kfree k1
          have kr0 := qr0; clear qr0; have cr0 := kcell kr0; have fr0 := kfree kr0
          refine (rempty _ _ _).mono ?_; rintro e v2 ⟨rfl, hb⟩; replace HB := below_call (by first | exact HB | (repeat (first | assumption | exact Below.refl _ _ | (refine below_call ?_ (by assumption)) | apply below_alloc | apply below_drew | apply below_drewN | (refine below_set ?_ (by first | (simp; done) | (simp; omega) | omega) _)))) hb; replace k0 : hp _ w.heap.size = some (.cells #[.int .i64 a, .int .i64 b] 29 (0, 0)) := kblk hb (by first | exact k0 | (simp [hp_alloc, hp_set, hp_drew, hp_drewN, cset_cells, k0, k1, kr0]; done)); replace k1 : hp _ (w.heap.size + 1) = some (.cells #[.int .i64 c, .int .i64 d] 29 (0, 0)) := kblk hb (by first | exact k1 | (simp [hp_alloc, hp_set, hp_drew, hp_drewN, cset_cells, k0, k1, kr0]; done)); replace kr0 : hp _ (w.heap.size + 1 + 1) = some (.cells #[.int .i64 0, .int .i64 0] 29 (0, 0)) := kblk hb (by first | exact kr0 | (simp [hp_alloc, hp_set, hp_drew, hp_drewN, cset_cells, k0, k1, kr0]; done)); replace c0 := kcell k0; replace f0 := kfree k0; replace c1 := kcell k1; replace f1 := kfree k1; replace cr0 := kcell kr0; replace fr0 := kfree kr0
          go_wp2_with fail
          refine Ph.wp_region_gr 6 6 [] (by kernel_rfl) (by kernel_rfl) (fun _ d _ _ _ h => by cases d <;> exact h) ?_
          simp only [List.take_succ_cons, List.take_zero, List.drop_succ_cons, List.drop_zero]
          repeat (first | (apply Ph.wpG_op rfl; (focus (intro w1 hS; have d0 := kcell (kblk hS k0); have d1 := kcell (kblk hS k1); have dr0 := kcell (kblk hS kr0); go_simp; first | exact rfl | exact ⟨rfl, Below.refl _ _⟩ | ((with_reducible refine (rempty _ _ _).mono ?_); rintro e w2 ⟨rfl, hb⟩; exact ⟨rfl, hb⟩) | ((with_reducible refine (rof _ _ _).mono ?_); rintro e w2 ⟨rfl, hb⟩; exact ⟨rfl, hb⟩)))); simp only [List.tail_cons, List.tail_nil, Act.put, List.setIfInBounds_toArray, List.set_cons_zero, List.set_cons_succ])
          refine Ph.wpG_nil ?_
          refine Ph.wpAl_nil ?_; intro v3 hS hgs hne
          clear hgs hne
          replace HB := below_call (by first | exact HB | (repeat (first | assumption | exact Below.refl _ _ | (refine below_call ?_ (by assumption)) | apply below_alloc | apply below_drew | apply below_drewN | (refine below_set ?_ (by first | (simp; done) | (simp; omega) | omega) _)))) hS; replace k0 : hp _ w.heap.size = some (.cells #[.int .i64 a, .int .i64 b] 29 (0, 0)) := kblk hS (by first | exact k0 | (simp [hp_alloc, hp_set, hp_drew, hp_drewN, cset_cells, k0, k1, kr0]; done)); replace k1 : hp _ (w.heap.size + 1) = some (.cells #[.int .i64 c, .int .i64 d] 29 (0, 0)) := kblk hS (by first | exact k1 | (simp [hp_alloc, hp_set, hp_drew, hp_drewN, cset_cells, k0, k1, kr0]; done)); replace kr0 : hp _ (w.heap.size + 1 + 1) = some (.cells #[.int .i64 0, .int .i64 0] 29 (0, 0)) := kblk hS (by first | exact kr0 | (simp [hp_alloc, hp_set, hp_drew, hp_drewN, cset_cells, k0, k1, kr0]; done)); replace c0 := kcell k0; replace f0 := kfree k0; replace c1 := kcell k1; replace f1 := kfree k1; replace cr0 := kcell kr0; replace fr0 := kfree kr0
          go_wp2_with (first | (go_at_call 14; refine (rof _ _ _).mono ?_; rintro e w1 ⟨rfl, hb⟩; replace HB := below_call (by first | exact HB | (repeat (first | assumption | exact Below.refl _ _ | (refine below_call ?_ (by assumption)) | apply below_alloc | apply below_drew | apply below_drewN | (refine below_set ?_ (by first | (simp; done) | (simp; omega) | omega) _)))) hb; replace k0 : hp _ w.heap.size = some (.cells #[.int .i64 a, .int .i64 b] 29 (0, 0)) := kblk hb (by first | exact k0 | (simp [hp_alloc, hp_set, hp_drew, hp_drewN, cset_cells, k0, k1, kr0]; done)); replace k1 : hp _ (w.heap.size + 1) = some (.cells #[.int .i64 c, .int .i64 d] 29 (0, 0)) := kblk hb (by first | exact k1 | (simp [hp_alloc, hp_set, hp_drew, hp_drewN, cset_cells, k0, k1, kr0]; done)); replace kr0 : hp _ (w.heap.size + 1 + 1) = some (.cells #[.int .i64 0, .int .i64 0] 29 (0, 0)) := kblk hb (by first | exact kr0 | (simp [hp_alloc, hp_set, hp_drew, hp_drewN, cset_cells, k0, k1, kr0]; done)); replace c0 := kcell k0; replace f0 := kfree k0; replace c1 := kcell k1; replace f1 := kfree k1; replace cr0 := kcell kr0; replace fr0 := kfree kr0))
          all_goals try go_wp2
          all_goals refine bodyPost_ret (v := .agg #[.int .i64 (meetS a b c d).1, .int .i64 (meetS a b c d).2]) (by simp [results, Try.results33, go_sem, meetS_l, meetS_r, *]) rfl ⟨?_, by (repeat (first | assumption | exact Below.refl _ _ | (refine below_call ?_ (by assumption)) | apply below_alloc | apply below_drew | apply below_drewN | (refine below_set ?_ (by first | (simp; done) | (simp; omega) | omega) _)))⟩
          all_goals (first | rfl | (simp [meetS_l, meetS_r, *]; done))
      · have g2 : c ≤ a := by omega
        by_cases h3 : d < b
        · have g3 : ¬ b ≤ d := by omega
          have eq : meetS a b c d = ofS a d := meetS_eq (by omega) (by omega)
          go_enter Try.func33, Try.ntmps33
          go_upto_region 1 with fail
          refine Ph.at_world ?_; intro W1 hW
          have q0 : hp W1 w.heap.size = some (.cells #[.int .i64 a, .int .i64 b] 29 (0, 0)) := by rw [hW]; simp [hp_alloc, hp_set, hp_drew, hp_drewN, cset_cells]
          have q1 : hp W1 (w.heap.size + 1) = some (.cells #[.int .i64 c, .int .i64 d] 29 (0, 0)) := by rw [hW]; simp [hp_alloc, hp_set, hp_drew, hp_drewN, cset_cells]
          have qr0 : hp W1 (w.heap.size + 1 + 1) = some (.cells #[.int .i64 0, .int .i64 0] 29 (0, 0)) := by rw [hW]; simp [hp_alloc, hp_set, hp_drew, hp_drewN, cset_cells]
          have HB : Below w.heap.size w W1 := by rw [hW]; (repeat (first | assumption | exact Below.refl _ _ | (refine below_call ?_ (by assumption)) | apply below_alloc | apply below_drew | apply below_drewN | (refine below_set ?_ (by first | (simp; done) | (simp; omega) | omega) _)))
          clear hW
          have k0 := q0; clear q0; have c0 := kcell k0; have f0 := kfree k0
          have k1 := q1; clear q1; have c1 := kcell k1; have f1 := kfree k1
          have kr0 := qr0; clear qr0; have cr0 := kcell kr0; have fr0 := kfree kr0
          go_wp2_with fail
          go_at_call 16; refine Ph.at_callw ?_; intro W2 hW
          have q0 : hp W2 w.heap.size = some (.cells #[.int .i64 a, .int .i64 b] 29 (0, 0)) := by rw [hW]; simp [hp_alloc, hp_set, hp_drew, hp_drewN, cset_cells, k0, k1, kr0]
          have q1 : hp W2 (w.heap.size + 1) = some (.cells #[.int .i64 c, .int .i64 d] 29 (0, 0)) := by rw [hW]; simp [hp_alloc, hp_set, hp_drew, hp_drewN, cset_cells, k0, k1, kr0]
          have qr0 : hp W2 (w.heap.size + 1 + 1) = some (.cells #[.int .i64 0, .int .i64 0] 29 (0, 0)) := by rw [hW]; simp [hp_alloc, hp_set, hp_drew, hp_drewN, cset_cells, k0, k1, kr0]
          have HB' : Below w.heap.size w W2 := by rw [hW]; (repeat (first | assumption | exact Below.refl _ _ | (refine below_call ?_ (by assumption)) | apply below_alloc | apply below_drew | apply below_drewN | (refine below_set ?_ (by first | (simp; done) | (simp; omega) | omega) _)))
          replace HB := HB'; clear HB'
          clear hW
          clear k0 c0 f0
          clear k1 c1 f1
          clear kr0 cr0 fr0
          have k0 := q0; clear q0; have c0 := kcell k0; have f0 := kfree k0
          have k1 := q1; clear q1; have c1 := kcell k1; have f1 := kfree k1
          have kr0 := qr0; clear qr0; have cr0 := kcell kr0; have fr0 := kfree kr0
          refine (rempty _ _ _).mono ?_; rintro e v1 ⟨rfl, hb⟩; replace HB := below_call (by first | exact HB | (repeat (first | assumption | exact Below.refl _ _ | (refine below_call ?_ (by assumption)) | apply below_alloc | apply below_drew | apply below_drewN | (refine below_set ?_ (by first | (simp; done) | (simp; omega) | omega) _)))) hb; replace k0 : hp _ w.heap.size = some (.cells #[.int .i64 a, .int .i64 b] 29 (0, 0)) := kblk hb (by first | exact k0 | (simp [hp_alloc, hp_set, hp_drew, hp_drewN, cset_cells, k0, k1, kr0]; done)); replace k1 : hp _ (w.heap.size + 1) = some (.cells #[.int .i64 c, .int .i64 d] 29 (0, 0)) := kblk hb (by first | exact k1 | (simp [hp_alloc, hp_set, hp_drew, hp_drewN, cset_cells, k0, k1, kr0]; done)); replace kr0 : hp _ (w.heap.size + 1 + 1) = some (.cells #[.int .i64 0, .int .i64 0] 29 (0, 0)) := kblk hb (by first | exact kr0 | (simp [hp_alloc, hp_set, hp_drew, hp_drewN, cset_cells, k0, k1, kr0]; done)); replace c0 := kcell k0; replace f0 := kfree k0; replace c1 := kcell k1; replace f1 := kfree k1; replace cr0 := kcell kr0; replace fr0 := kfree kr0
          go_wp2_with fail
          go_at_call 16; refine Ph.at_callw ?_; intro W3 hW
          have q0 : hp W3 w.heap.size = some (.cells #[.int .i64 a, .int .i64 b] 29 (0, 0)) := by rw [hW]; simp [hp_alloc, hp_set, hp_drew, hp_drewN, cset_cells, k0, k1, kr0]
          have q1 : hp W3 (w.heap.size + 1) = some (.cells #[.int .i64 c, .int .i64 d] 29 (0, 0)) := by rw [hW]; simp [hp_alloc, hp_set, hp_drew, hp_drewN, cset_cells, k0, k1, kr0]
          have qr0 : hp W3 (w.heap.size + 1 + 1) = some (.cells #[.int .i64 0, .int .i64 0] 29 (0, 0)) := by rw [hW]; simp [hp_alloc, hp_set, hp_drew, hp_drewN, cset_cells, k0, k1, kr0]
          have HB' : Below w.heap.size w W3 := by rw [hW]; (repeat (first | assumption | exact Below.refl _ _ | (refine below_call ?_ (by assumption)) | apply below_alloc | apply below_drew | apply below_drewN | (refine below_set ?_ (by first | (simp; done) | (simp; omega) | omega) _)))
          replace HB := HB'; clear HB'
          clear hW
          clear k0 c0 f0
          clear k1 c1 f1
          clear kr0 cr0 fr0
          have k0 := q0; clear q0; have c0 := kcell k0; have f0 := kfree k0
          have k1 := q1; clear q1; have c1 := kcell k1; have f1 := kfree k1
          have kr0 := qr0; clear qr0; have cr0 := kcell kr0; have fr0 := kfree kr0
          refine (rempty _ _ _).mono ?_; rintro e v2 ⟨rfl, hb⟩; replace HB := below_call (by first | exact HB | (repeat (first | assumption | exact Below.refl _ _ | (refine below_call ?_ (by assumption)) | apply below_alloc | apply below_drew | apply below_drewN | (refine below_set ?_ (by first | (simp; done) | (simp; omega) | omega) _)))) hb; replace k0 : hp _ w.heap.size = some (.cells #[.int .i64 a, .int .i64 b] 29 (0, 0)) := kblk hb (by first | exact k0 | (simp [hp_alloc, hp_set, hp_drew, hp_drewN, cset_cells, k0, k1, kr0]; done)); replace k1 : hp _ (w.heap.size + 1) = some (.cells #[.int .i64 c, .int .i64 d] 29 (0, 0)) := kblk hb (by first | exact k1 | (simp [hp_alloc, hp_set, hp_drew, hp_drewN, cset_cells, k0, k1, kr0]; done)); replace kr0 : hp _ (w.heap.size + 1 + 1) = some (.cells #[.int .i64 0, .int .i64 0] 29 (0, 0)) := kblk hb (by first | exact kr0 | (simp [hp_alloc, hp_set, hp_drew, hp_drewN, cset_cells, k0, k1, kr0]; done)); replace c0 := kcell k0; replace f0 := kfree k0; replace c1 := kcell k1; replace f1 := kfree k1; replace cr0 := kcell kr0; replace fr0 := kfree kr0
          go_wp2_with fail
          refine Ph.wp_region_gr 6 6 [] (by kernel_rfl) (by kernel_rfl) (fun _ d _ _ _ h => by cases d <;> exact h) ?_
          simp only [List.take_succ_cons, List.take_zero, List.drop_succ_cons, List.drop_zero]
          repeat (first | (apply Ph.wpG_op rfl; (focus (intro w1 hS; have d0 := kcell (kblk hS k0); have d1 := kcell (kblk hS k1); have dr0 := kcell (kblk hS kr0); go_simp; first | exact rfl | exact ⟨rfl, Below.refl _ _⟩ | ((with_reducible refine (rempty _ _ _).mono ?_); rintro e w2 ⟨rfl, hb⟩; exact ⟨rfl, hb⟩) | ((with_reducible refine (rof _ _ _).mono ?_); rintro e w2 ⟨rfl, hb⟩; exact ⟨rfl, hb⟩)))); simp only [List.tail_cons, List.tail_nil, Act.put, List.setIfInBounds_toArray, List.set_cons_zero, List.set_cons_succ])
          refine Ph.wpG_nil ?_
          refine Ph.wpAl_nil ?_; intro v3 hS hgs hne
          clear hgs hne
          replace HB := below_call (by first | exact HB | (repeat (first | assumption | exact Below.refl _ _ | (refine below_call ?_ (by assumption)) | apply below_alloc | apply below_drew | apply below_drewN | (refine below_set ?_ (by first | (simp; done) | (simp; omega) | omega) _)))) hS; replace k0 : hp _ w.heap.size = some (.cells #[.int .i64 a, .int .i64 b] 29 (0, 0)) := kblk hS (by first | exact k0 | (simp [hp_alloc, hp_set, hp_drew, hp_drewN, cset_cells, k0, k1, kr0]; done)); replace k1 : hp _ (w.heap.size + 1) = some (.cells #[.int .i64 c, .int .i64 d] 29 (0, 0)) := kblk hS (by first | exact k1 | (simp [hp_alloc, hp_set, hp_drew, hp_drewN, cset_cells, k0, k1, kr0]; done)); replace kr0 : hp _ (w.heap.size + 1 + 1) = some (.cells #[.int .i64 0, .int .i64 0] 29 (0, 0)) := kblk hS (by first | exact kr0 | (simp [hp_alloc, hp_set, hp_drew, hp_drewN, cset_cells, k0, k1, kr0]; done)); replace c0 := kcell k0; replace f0 := kfree k0; replace c1 := kcell k1; replace f1 := kfree k1; replace cr0 := kcell kr0; replace fr0 := kfree kr0
          go_wp2_with (first | (go_at_call 14; refine (rof _ _ _).mono ?_; rintro e w1 ⟨rfl, hb⟩; replace HB := below_call (by first | exact HB | (repeat (first | assumption | exact Below.refl _ _ | (refine below_call ?_ (by assumption)) | apply below_alloc | apply below_drew | apply below_drewN | (refine below_set ?_ (by first | (simp; done) | (simp; omega) | omega) _)))) hb; replace k0 : hp _ w.heap.size = some (.cells #[.int .i64 a, .int .i64 b] 29 (0, 0)) := kblk hb (by first | exact k0 | (simp [hp_alloc, hp_set, hp_drew, hp_drewN, cset_cells, k0, k1, kr0]; done)); replace k1 : hp _ (w.heap.size + 1) = some (.cells #[.int .i64 c, .int .i64 d] 29 (0, 0)) := kblk hb (by first | exact k1 | (simp [hp_alloc, hp_set, hp_drew, hp_drewN, cset_cells, k0, k1, kr0]; done)); replace kr0 : hp _ (w.heap.size + 1 + 1) = some (.cells #[.int .i64 0, .int .i64 0] 29 (0, 0)) := kblk hb (by first | exact kr0 | (simp [hp_alloc, hp_set, hp_drew, hp_drewN, cset_cells, k0, k1, kr0]; done)); replace c0 := kcell k0; replace f0 := kfree k0; replace c1 := kcell k1; replace f1 := kfree k1; replace cr0 := kcell kr0; replace fr0 := kfree kr0))
          all_goals try go_wp2
          all_goals refine bodyPost_ret (v := .agg #[.int .i64 (meetS a b c d).1, .int .i64 (meetS a b c d).2]) (by simp [results, Try.results33, go_sem, meetS_l, meetS_r, *]) rfl ⟨?_, by (repeat (first | assumption | exact Below.refl _ _ | (refine below_call ?_ (by assumption)) | apply below_alloc | apply below_drew | apply below_drewN | (refine below_set ?_ (by first | (simp; done) | (simp; omega) | omega) _)))⟩
          all_goals (first | rfl | (simp [meetS_l, meetS_r, *]; done))
        · have g3 : b ≤ d := by omega
          have eq : meetS a b c d = ofS a b := meetS_eq (by omega) (by omega)
          go_enter Try.func33, Try.ntmps33
          go_upto_region 1 with fail
          refine Ph.at_world ?_; intro W1 hW
          have q0 : hp W1 w.heap.size = some (.cells #[.int .i64 a, .int .i64 b] 29 (0, 0)) := by rw [hW]; simp [hp_alloc, hp_set, hp_drew, hp_drewN, cset_cells]
          have q1 : hp W1 (w.heap.size + 1) = some (.cells #[.int .i64 c, .int .i64 d] 29 (0, 0)) := by rw [hW]; simp [hp_alloc, hp_set, hp_drew, hp_drewN, cset_cells]
          have qr0 : hp W1 (w.heap.size + 1 + 1) = some (.cells #[.int .i64 0, .int .i64 0] 29 (0, 0)) := by rw [hW]; simp [hp_alloc, hp_set, hp_drew, hp_drewN, cset_cells]
          have HB : Below w.heap.size w W1 := by rw [hW]; (repeat (first | assumption | exact Below.refl _ _ | (refine below_call ?_ (by assumption)) | apply below_alloc | apply below_drew | apply below_drewN | (refine below_set ?_ (by first | (simp; done) | (simp; omega) | omega) _)))
          clear hW
          have k0 := q0; clear q0; have c0 := kcell k0; have f0 := kfree k0
          have k1 := q1; clear q1; have c1 := kcell k1; have f1 := kfree k1
          have kr0 := qr0; clear qr0; have cr0 := kcell kr0; have fr0 := kfree kr0
          go_wp2_with fail
          go_at_call 16; refine Ph.at_callw ?_; intro W2 hW
          have q0 : hp W2 w.heap.size = some (.cells #[.int .i64 a, .int .i64 b] 29 (0, 0)) := by rw [hW]; simp [hp_alloc, hp_set, hp_drew, hp_drewN, cset_cells, k0, k1, kr0]
          have q1 : hp W2 (w.heap.size + 1) = some (.cells #[.int .i64 c, .int .i64 d] 29 (0, 0)) := by rw [hW]; simp [hp_alloc, hp_set, hp_drew, hp_drewN, cset_cells, k0, k1, kr0]
          have qr0 : hp W2 (w.heap.size + 1 + 1) = some (.cells #[.int .i64 0, .int .i64 0] 29 (0, 0)) := by rw [hW]; simp [hp_alloc, hp_set, hp_drew, hp_drewN, cset_cells, k0, k1, kr0]
          have HB' : Below w.heap.size w W2 := by rw [hW]; (repeat (first | assumption | exact Below.refl _ _ | (refine below_call ?_ (by assumption)) | apply below_alloc | apply below_drew | apply below_drewN | (refine below_set ?_ (by first | (simp; done) | (simp; omega) | omega) _)))
          replace HB := HB'; clear HB'
          clear hW
          clear k0 c0 f0
          clear k1 c1 f1
          clear kr0 cr0 fr0
          have k0 := q0; clear q0; have c0 := kcell k0; have f0 := kfree k0
          have k1 := q1; clear q1; have c1 := kcell k1; have f1 := kfree k1
          have kr0 := qr0; clear qr0; have cr0 := kcell kr0; have fr0 := kfree kr0
          refine (rempty _ _ _).mono ?_; rintro e v1 ⟨rfl, hb⟩; replace HB := below_call (by first | exact HB | (repeat (first | assumption | exact Below.refl _ _ | (refine below_call ?_ (by assumption)) | apply below_alloc | apply below_drew | apply below_drewN | (refine below_set ?_ (by first | (simp; done) | (simp; omega) | omega) _)))) hb; replace k0 : hp _ w.heap.size = some (.cells #[.int .i64 a, .int .i64 b] 29 (0, 0)) := kblk hb (by first | exact k0 | (simp [hp_alloc, hp_set, hp_drew, hp_drewN, cset_cells, k0, k1, kr0]; done)); replace k1 : hp _ (w.heap.size + 1) = some (.cells #[.int .i64 c, .int .i64 d] 29 (0, 0)) := kblk hb (by first | exact k1 | (simp [hp_alloc, hp_set, hp_drew, hp_drewN, cset_cells, k0, k1, kr0]; done)); replace kr0 : hp _ (w.heap.size + 1 + 1) = some (.cells #[.int .i64 0, .int .i64 0] 29 (0, 0)) := kblk hb (by first | exact kr0 | (simp [hp_alloc, hp_set, hp_drew, hp_drewN, cset_cells, k0, k1, kr0]; done)); replace c0 := kcell k0; replace f0 := kfree k0; replace c1 := kcell k1; replace f1 := kfree k1; replace cr0 := kcell kr0; replace fr0 := kfree kr0
          go_wp2_with fail
          go_at_call 16; refine Ph.at_callw ?_; intro W3 hW
          have q0 : hp W3 w.heap.size = some (.cells #[.int .i64 a, .int .i64 b] 29 (0, 0)) := by rw [hW]; simp [hp_alloc, hp_set, hp_drew, hp_drewN, cset_cells, k0, k1, kr0]
          have q1 : hp W3 (w.heap.size + 1) = some (.cells #[.int .i64 c, .int .i64 d] 29 (0, 0)) := by rw [hW]; simp [hp_alloc, hp_set, hp_drew, hp_drewN, cset_cells, k0, k1, kr0]
          have qr0 : hp W3 (w.heap.size + 1 + 1) = some (.cells #[.int .i64 0, .int .i64 0] 29 (0, 0)) := by rw [hW]; simp [hp_alloc, hp_set, hp_drew, hp_drewN, cset_cells, k0, k1, kr0]
          have HB' : Below w.heap.size w W3 := by rw [hW]; (repeat (first | assumption | exact Below.refl _ _ | (refine below_call ?_ (by assumption)) | apply below_alloc | apply below_drew | apply below_drewN | (refine below_set ?_ (by first | (simp; done) | (simp; omega) | omega) _)))
          replace HB := HB'; clear HB'
          clear hW
          clear k0 c0 f0
          clear k1 c1 f1
          clear kr0 cr0 fr0
          have k0 := q0; clear q0; have c0 := kcell k0; have f0 := kfree k0
          have k1 := q1; clear q1; have c1 := kcell k1; have f1 := kfree k1
          have kr0 := qr0; clear qr0; have cr0 := kcell kr0; have fr0 := kfree kr0
          refine (rempty _ _ _).mono ?_; rintro e v2 ⟨rfl, hb⟩; replace HB := below_call (by first | exact HB | (repeat (first | assumption | exact Below.refl _ _ | (refine below_call ?_ (by assumption)) | apply below_alloc | apply below_drew | apply below_drewN | (refine below_set ?_ (by first | (simp; done) | (simp; omega) | omega) _)))) hb; replace k0 : hp _ w.heap.size = some (.cells #[.int .i64 a, .int .i64 b] 29 (0, 0)) := kblk hb (by first | exact k0 | (simp [hp_alloc, hp_set, hp_drew, hp_drewN, cset_cells, k0, k1, kr0]; done)); replace k1 : hp _ (w.heap.size + 1) = some (.cells #[.int .i64 c, .int .i64 d] 29 (0, 0)) := kblk hb (by first | exact k1 | (simp [hp_alloc, hp_set, hp_drew, hp_drewN, cset_cells, k0, k1, kr0]; done)); replace kr0 : hp _ (w.heap.size + 1 + 1) = some (.cells #[.int .i64 0, .int .i64 0] 29 (0, 0)) := kblk hb (by first | exact kr0 | (simp [hp_alloc, hp_set, hp_drew, hp_drewN, cset_cells, k0, k1, kr0]; done)); replace c0 := kcell k0; replace f0 := kfree k0; replace c1 := kcell k1; replace f1 := kfree k1; replace cr0 := kcell kr0; replace fr0 := kfree kr0
          go_wp2_with fail
          refine Ph.wp_region_gr 6 6 [] (by kernel_rfl) (by kernel_rfl) (fun _ d _ _ _ h => by cases d <;> exact h) ?_
          simp only [List.take_succ_cons, List.take_zero, List.drop_succ_cons, List.drop_zero]
          repeat (first | (apply Ph.wpG_op rfl; (focus (intro w1 hS; have d0 := kcell (kblk hS k0); have d1 := kcell (kblk hS k1); have dr0 := kcell (kblk hS kr0); go_simp; first | exact rfl | exact ⟨rfl, Below.refl _ _⟩ | ((with_reducible refine (rempty _ _ _).mono ?_); rintro e w2 ⟨rfl, hb⟩; exact ⟨rfl, hb⟩) | ((with_reducible refine (rof _ _ _).mono ?_); rintro e w2 ⟨rfl, hb⟩; exact ⟨rfl, hb⟩)))); simp only [List.tail_cons, List.tail_nil, Act.put, List.setIfInBounds_toArray, List.set_cons_zero, List.set_cons_succ])
          refine Ph.wpG_nil ?_
          refine Ph.wpAl_nil ?_; intro v3 hS hgs hne
          clear hgs hne
          replace HB := below_call (by first | exact HB | (repeat (first | assumption | exact Below.refl _ _ | (refine below_call ?_ (by assumption)) | apply below_alloc | apply below_drew | apply below_drewN | (refine below_set ?_ (by first | (simp; done) | (simp; omega) | omega) _)))) hS; replace k0 : hp _ w.heap.size = some (.cells #[.int .i64 a, .int .i64 b] 29 (0, 0)) := kblk hS (by first | exact k0 | (simp [hp_alloc, hp_set, hp_drew, hp_drewN, cset_cells, k0, k1, kr0]; done)); replace k1 : hp _ (w.heap.size + 1) = some (.cells #[.int .i64 c, .int .i64 d] 29 (0, 0)) := kblk hS (by first | exact k1 | (simp [hp_alloc, hp_set, hp_drew, hp_drewN, cset_cells, k0, k1, kr0]; done)); replace kr0 : hp _ (w.heap.size + 1 + 1) = some (.cells #[.int .i64 0, .int .i64 0] 29 (0, 0)) := kblk hS (by first | exact kr0 | (simp [hp_alloc, hp_set, hp_drew, hp_drewN, cset_cells, k0, k1, kr0]; done)); replace c0 := kcell k0; replace f0 := kfree k0; replace c1 := kcell k1; replace f1 := kfree k1; replace cr0 := kcell kr0; replace fr0 := kfree kr0
          go_wp2_with (first | (go_at_call 14; refine (rof _ _ _).mono ?_; rintro e w1 ⟨rfl, hb⟩; replace HB := below_call (by first | exact HB | (repeat (first | assumption | exact Below.refl _ _ | (refine below_call ?_ (by assumption)) | apply below_alloc | apply below_drew | apply below_drewN | (refine below_set ?_ (by first | (simp; done) | (simp; omega) | omega) _)))) hb; replace k0 : hp _ w.heap.size = some (.cells #[.int .i64 a, .int .i64 b] 29 (0, 0)) := kblk hb (by first | exact k0 | (simp [hp_alloc, hp_set, hp_drew, hp_drewN, cset_cells, k0, k1, kr0]; done)); replace k1 : hp _ (w.heap.size + 1) = some (.cells #[.int .i64 c, .int .i64 d] 29 (0, 0)) := kblk hb (by first | exact k1 | (simp [hp_alloc, hp_set, hp_drew, hp_drewN, cset_cells, k0, k1, kr0]; done)); replace kr0 : hp _ (w.heap.size + 1 + 1) = some (.cells #[.int .i64 0, .int .i64 0] 29 (0, 0)) := kblk hb (by first | exact kr0 | (simp [hp_alloc, hp_set, hp_drew, hp_drewN, cset_cells, k0, k1, kr0]; done)); replace c0 := kcell k0; replace f0 := kfree k0; replace c1 := kcell k1; replace f1 := kfree k1; replace cr0 := kcell kr0; replace fr0 := kfree kr0))
          all_goals try go_wp2
          all_goals refine bodyPost_ret (v := .agg #[.int .i64 (meetS a b c d).1, .int .i64 (meetS a b c d).2]) (by simp [results, Try.results33, go_sem, meetS_l, meetS_r, *]) rfl ⟨?_, by (repeat (first | assumption | exact Below.refl _ _ | (refine below_call ?_ (by assumption)) | apply below_alloc | apply below_drew | apply below_drewN | (refine below_set ?_ (by first | (simp; done) | (simp; omega) | omega) _)))⟩
          all_goals (first | rfl | (simp [meetS_l, meetS_r, *]; done))
    · skip
      go_enter Try.func33, Try.ntmps33
      go_upto_region 1 with fail
      refine Ph.at_world ?_; intro W1 hW
      have q0 : hp W1 w.heap.size = some (.cells #[.int .i64 a, .int .i64 b] 29 (0, 0)) := by rw [hW]; simp [hp_alloc, hp_set, hp_drew, hp_drewN, cset_cells]
      have q1 : hp W1 (w.heap.size + 1) = some (.cells #[.int .i64 c, .int .i64 d] 29 (0, 0)) := by rw [hW]; simp [hp_alloc, hp_set, hp_drew, hp_drewN, cset_cells]
      have qr0 : hp W1 (w.heap.size + 1 + 1) = some (.cells #[.int .i64 0, .int .i64 0] 29 (0, 0)) := by rw [hW]; simp [hp_alloc, hp_set, hp_drew, hp_drewN, cset_cells]
      have HB : Below w.heap.size w W1 := by rw [hW]; (repeat (first | assumption | exact Below.refl _ _ | (refine below_call ?_ (by assumption)) | apply below_alloc | apply below_drew | apply below_drewN | (refine below_set ?_ (by first | (simp; done) | (simp; omega) | omega) _)))
      clear hW
      have k0 := q0; clear q0; have c0 := kcell k0; have f0 := kfree k0
      have k1 := q1; clear q1; have c1 := kcell k1; have f1 := kfree k1
      have kr0 := qr0; clear qr0; have cr0 := kcell kr0; have fr0 := kfree kr0
      go_wp2_with fail
      go_at_call 16; refine Ph.at_callw ?_; intro W2 hW
      have q0 : hp W2 w.heap.size = some (.cells #[.int .i64 a, .int .i64 b] 29 (0, 0)) := by rw [hW]; simp [hp_alloc, hp_set, hp_drew, hp_drewN, cset_cells, k0, k1, kr0]
      have q1 : hp W2 (w.heap.size + 1) = some (.cells #[.int .i64 c, .int .i64 d] 29 (0, 0)) := by rw [hW]; simp [hp_alloc, hp_set, hp_drew, hp_drewN, cset_cells, k0, k1, kr0]
      have qr0 : hp W2 (w.heap.size + 1 + 1) = some (.cells #[.int .i64 0, .int .i64 0] 29 (0, 0)) := by rw [hW]; simp [hp_alloc, hp_set, hp_drew, hp_drewN, cset_cells, k0, k1, kr0]
      have HB' : Below w.heap.size w W2 := by rw [hW]; (repeat (first | assumption | exact Below.refl _ _ | (refine below_call ?_ (by assumption)) | apply below_alloc | apply below_drew | apply below_drewN | (refine below_set ?_ (by first | (simp; done) | (simp; omega) | omega) _)))
      replace HB := HB'; clear HB'
      clear hW
      clear k0 c0 f0
      clear k1 c1 f1
      clear kr0 cr0 fr0
      have k0 := q0; clear q0; have c0 := kcell k0; have f0 := kfree k0
      have k1 := q1; clear q1; have c1 := kcell k1; have f1 := kfree k1
      have kr0 := qr0; clear qr0; have cr0 := kcell kr0; have fr0 := kfree kr0
      refine (rempty _ _ _).mono ?_; rintro e v1 ⟨rfl, hb⟩; replace HB := below_call (by first | exact HB | (repeat (first | assumption | exact Below.refl _ _ | (refine below_call ?_ (by assumption)) | apply below_alloc | apply below_drew | apply below_drewN | (refine below_set ?_ (by first | (simp; done) | (simp; omega) | omega) _)))) hb; replace k0 : hp _ w.heap.size = some (.cells #[.int .i64 a, .int .i64 b] 29 (0, 0)) := kblk hb (by first | exact k0 | (simp [hp_alloc, hp_set, hp_drew, hp_drewN, cset_cells, k0, k1, kr0]; done)); replace k1 : hp _ (w.heap.size + 1) = some (.cells #[.int .i64 c, .int .i64 d] 29 (0, 0)) := kblk hb (by first | exact k1 | (simp [hp_alloc, hp_set, hp_drew, hp_drewN, cset_cells, k0, k1, kr0]; done)); replace kr0 : hp _ (w.heap.size + 1 + 1) = some (.cells #[.int .i64 0, .int .i64 0] 29 (0, 0)) := kblk hb (by first | exact kr0 | (simp [hp_alloc, hp_set, hp_drew, hp_drewN, cset_cells, k0, k1, kr0]; done)); replace c0 := kcell k0; replace f0 := kfree k0; replace c1 := kcell k1; replace f1 := kfree k1; replace cr0 := kcell kr0; replace fr0 := kfree kr0
      go_wp2_with fail
      go_at_call 16; refine Ph.at_callw ?_; intro W3 hW
      have q0 : hp W3 w.heap.size = some (.cells #[.int .i64 a, .int .i64 b] 29 (0, 0)) := by rw [hW]; simp [hp_alloc, hp_set, hp_drew, hp_drewN, cset_cells, k0, k1, kr0]
      have q1 : hp W3 (w.heap.size + 1) = some (.cells #[.int .i64 c, .int .i64 d] 29 (0, 0)) := by rw [hW]; simp [hp_alloc, hp_set, hp_drew, hp_drewN, cset_cells, k0, k1, kr0]
      have qr0 : hp W3 (w.heap.size + 1 + 1) = some (.cells #[.int .i64 0, .int .i64 0] 29 (0, 0)) := by rw [hW]; simp [hp_alloc, hp_set, hp_drew, hp_drewN, cset_cells, k0, k1, kr0]
      have HB' : Below w.heap.size w W3 := by rw [hW]; (repeat (first | assumption | exact Below.refl _ _ | (refine below_call ?_ (by assumption)) | apply below_alloc | apply below_drew | apply below_drewN | (refine below_set ?_ (by first | (simp; done) | (simp; omega) | omega) _)))
      replace HB := HB'; clear HB'
      clear hW
      clear k0 c0 f0
      clear k1 c1 f1
      clear kr0 cr0 fr0
      have k0 := q0; clear q0; have c0 := kcell k0; have f0 := kfree k0
      have k1 := q1; clear q1; have c1 := kcell k1; have f1 := kfree k1
      have kr0 := qr0; clear qr0; have cr0 := kcell kr0; have fr0 := kfree kr0
      refine (rempty _ _ _).mono ?_; rintro e v2 ⟨rfl, hb⟩; replace HB := below_call (by first | exact HB | (repeat (first | assumption | exact Below.refl _ _ | (refine below_call ?_ (by assumption)) | apply below_alloc | apply below_drew | apply below_drewN | (refine below_set ?_ (by first | (simp; done) | (simp; omega) | omega) _)))) hb; replace k0 : hp _ w.heap.size = some (.cells #[.int .i64 a, .int .i64 b] 29 (0, 0)) := kblk hb (by first | exact k0 | (simp [hp_alloc, hp_set, hp_drew, hp_drewN, cset_cells, k0, k1, kr0]; done)); replace k1 : hp _ (w.heap.size + 1) = some (.cells #[.int .i64 c, .int .i64 d] 29 (0, 0)) := kblk hb (by first | exact k1 | (simp [hp_alloc, hp_set, hp_drew, hp_drewN, cset_cells, k0, k1, kr0]; done)); replace kr0 : hp _ (w.heap.size + 1 + 1) = some (.cells #[.int .i64 0, .int .i64 0] 29 (0, 0)) := kblk hb (by first | exact kr0 | (simp [hp_alloc, hp_set, hp_drew, hp_drewN, cset_cells, k0, k1, kr0]; done)); replace c0 := kcell k0; replace f0 := kfree k0; replace c1 := kcell k1; replace f1 := kfree k1; replace cr0 := kcell kr0; replace fr0 := kfree kr0
      go_wp2_with (first | (go_at_call 16; refine (rempty _ _ _).mono ?_; rintro e w1 ⟨rfl, hb⟩; replace HB := below_call (by first | exact HB | (repeat (first | assumption | exact Below.refl _ _ | (refine below_call ?_ (by assumption)) | apply below_alloc | apply below_drew | apply below_drewN | (refine below_set ?_ (by first | (simp; done) | (simp; omega) | omega) _)))) hb; replace k0 : hp _ w.heap.size = some (.cells #[.int .i64 a, .int .i64 b] 29 (0, 0)) := kblk hb (by first | exact k0 | (simp [hp_alloc, hp_set, hp_drew, hp_drewN, cset_cells, k0, k1, kr0]; done)); replace k1 : hp _ (w.heap.size + 1) = some (.cells #[.int .i64 c, .int .i64 d] 29 (0, 0)) := kblk hb (by first | exact k1 | (simp [hp_alloc, hp_set, hp_drew, hp_drewN, cset_cells, k0, k1, kr0]; done)); replace kr0 : hp _ (w.heap.size + 1 + 1) = some (.cells #[.int .i64 0, .int .i64 0] 29 (0, 0)) := kblk hb (by first | exact kr0 | (simp [hp_alloc, hp_set, hp_drew, hp_drewN, cset_cells, k0, k1, kr0]; done)); replace c0 := kcell k0; replace f0 := kfree k0; replace c1 := kcell k1; replace f1 := kfree k1; replace cr0 := kcell kr0; replace fr0 := kfree kr0) | (go_at_call 14; refine (rof _ _ _).mono ?_; rintro e w1 ⟨rfl, hb⟩; replace HB := below_call (by first | exact HB | (repeat (first | assumption | exact Below.refl _ _ | (refine below_call ?_ (by assumption)) | apply below_alloc | apply below_drew | apply below_drewN | (refine below_set ?_ (by first | (simp; done) | (simp; omega) | omega) _)))) hb; replace k0 : hp _ w.heap.size = some (.cells #[.int .i64 a, .int .i64 b] 29 (0, 0)) := kblk hb (by first | exact k0 | (simp [hp_alloc, hp_set, hp_drew, hp_drewN, cset_cells, k0, k1, kr0]; done)); replace k1 : hp _ (w.heap.size + 1) = some (.cells #[.int .i64 c, .int .i64 d] 29 (0, 0)) := kblk hb (by first | exact k1 | (simp [hp_alloc, hp_set, hp_drew, hp_drewN, cset_cells, k0, k1, kr0]; done)); replace kr0 : hp _ (w.heap.size + 1 + 1) = some (.cells #[.int .i64 0, .int .i64 0] 29 (0, 0)) := kblk hb (by first | exact kr0 | (simp [hp_alloc, hp_set, hp_drew, hp_drewN, cset_cells, k0, k1, kr0]; done)); replace c0 := kcell k0; replace f0 := kfree k0; replace c1 := kcell k1; replace f1 := kfree k1; replace cr0 := kcell kr0; replace fr0 := kfree kr0))
      all_goals try go_wp2
      all_goals refine bodyPost_ret (v := .agg #[.int .i64 (meetS a b c d).1, .int .i64 (meetS a b c d).2]) (by simp [results, Try.results33, go_sem, meetS_l, meetS_r, *]) rfl ⟨?_, by (repeat (first | assumption | exact Below.refl _ _ | (refine below_call ?_ (by assumption)) | apply below_alloc | apply below_drew | apply below_drewN | (refine below_set ?_ (by first | (simp; done) | (simp; omega) | omega) _)))⟩
      all_goals (first | rfl | (simp [meetS_l, meetS_r, *]; done))
  · skip
    go_enter Try.func33, Try.ntmps33
    go_upto_region 1 with fail
    refine Ph.at_world ?_; intro W1 hW
    have q0 : hp W1 w.heap.size = some (.cells #[.int .i64 a, .int .i64 b] 29 (0, 0)) := by rw [hW]; simp [hp_alloc, hp_set, hp_drew, hp_drewN, cset_cells]
    have q1 : hp W1 (w.heap.size + 1) = some (.cells #[.int .i64 c, .int .i64 d] 29 (0, 0)) := by rw [hW]; simp [hp_alloc, hp_set, hp_drew, hp_drewN, cset_cells]
    have qr0 : hp W1 (w.heap.size + 1 + 1) = some (.cells #[.int .i64 0, .int .i64 0] 29 (0, 0)) := by rw [hW]; simp [hp_alloc, hp_set, hp_drew, hp_drewN, cset_cells]
    have HB : Below w.heap.size w W1 := by rw [hW]; (repeat (first | assumption | exact Below.refl _ _ | (refine below_call ?_ (by assumption)) | apply below_alloc | apply below_drew | apply below_drewN | (refine below_set ?_ (by first | (simp; done) | (simp; omega) | omega) _)))
    clear hW
    have k0 := q0; clear q0; have c0 := kcell k0; have f0 := kfree k0
    have k1 := q1; clear q1; have c1 := kcell k1; have f1 := kfree k1
    have kr0 := qr0; clear qr0; have cr0 := kcell kr0; have fr0 := kfree kr0
    go_wp2_with fail
    go_at_call 16; refine Ph.at_callw ?_; intro W2 hW
    have q0 : hp W2 w.heap.size = some (.cells #[.int .i64 a, .int .i64 b] 29 (0, 0)) := by rw [hW]; simp [hp_alloc, hp_set, hp_drew, hp_drewN, cset_cells, k0, k1, kr0]
    have q1 : hp W2 (w.heap.size + 1) = some (.cells #[.int .i64 c, .int .i64 d] 29 (0, 0)) := by rw [hW]; simp [hp_alloc, hp_set, hp_drew, hp_drewN, cset_cells, k0, k1, kr0]
    have qr0 : hp W2 (w.heap.size + 1 + 1) = some (.cells #[.int .i64 0, .int .i64 0] 29 (0, 0)) := by rw [hW]; simp [hp_alloc, hp_set, hp_drew, hp_drewN, cset_cells, k0, k1, kr0]
    have HB' : Below w.heap.size w W2 := by rw [hW]; (repeat (first | assumption | exact Below.refl _ _ | (refine below_call ?_ (by assumption)) | apply below_alloc | apply below_drew | apply below_drewN | (refine below_set ?_ (by first | (simp; done) | (simp; omega) | omega) _)))
    replace HB := HB'; clear HB'
    clear hW
    clear k0 c0 f0
    clear k1 c1 f1
    clear kr0 cr0 fr0
    have k0 := q0; clear q0; have c0 := kcell k0; have f0 := kfree k0
    have k1 := q1; clear q1; have c1 := kcell k1; have f1 := kfree k1
    have kr0 := qr0; clear qr0; have cr0 := kcell kr0; have fr0 := kfree kr0
    refine (rempty _ _ _).mono ?_; rintro e v1 ⟨rfl, hb⟩; replace HB := below_call (by first | exact HB | (repeat (first | assumption | exact Below.refl _ _ | (refine below_call ?_ (by assumption)) | apply below_alloc | apply below_drew | apply below_drewN | (refine below_set ?_ (by first | (simp; done) | (simp; omega) | omega) _)))) hb; replace k0 : hp _ w.heap.size = some (.cells #[.int .i64 a, .int .i64 b] 29 (0, 0)) := kblk hb (by first | exact k0 | (simp [hp_alloc, hp_set, hp_drew, hp_drewN, cset_cells, k0, k1, kr0]; done)); replace k1 : hp _ (w.heap.size + 1) = some (.cells #[.int .i64 c, .int .i64 d] 29 (0, 0)) := kblk hb (by first | exact k1 | (simp [hp_alloc, hp_set, hp_drew, hp_drewN, cset_cells, k0, k1, kr0]; done)); replace kr0 : hp _ (w.heap.size + 1 + 1) = some (.cells #[.int .i64 0, .int .i64 0] 29 (0, 0)) := kblk hb (by first | exact kr0 | (simp [hp_alloc, hp_set, hp_drew, hp_drewN, cset_cells, k0, k1, kr0]; done)); replace c0 := kcell k0; replace f0 := kfree k0; replace c1 := kcell k1; replace f1 := kfree k1; replace cr0 := kcell kr0; replace fr0 := kfree kr0
    go_wp2_with (first | (go_at_call 16; refine (rempty _ _ _).mono ?_; rintro e w1 ⟨rfl, hb⟩; replace HB := below_call (by first | exact HB | (repeat (first | assumption | exact Below.refl _ _ | (refine below_call ?_ (by assumption)) | apply below_alloc | apply below_drew | apply below_drewN | (refine below_set ?_ (by first | (simp; done) | (simp; omega) | omega) _)))) hb; replace k0 : hp _ w.heap.size = some (.cells #[.int .i64 a, .int .i64 b] 29 (0, 0)) := kblk hb (by first | exact k0 | (simp [hp_alloc, hp_set, hp_drew, hp_drewN, cset_cells, k0, k1, kr0]; done)); replace k1 : hp _ (w.heap.size + 1) = some (.cells #[.int .i64 c, .int .i64 d] 29 (0, 0)) := kblk hb (by first | exact k1 | (simp [hp_alloc, hp_set, hp_drew, hp_drewN, cset_cells, k0, k1, kr0]; done)); replace kr0 : hp _ (w.heap.size + 1 + 1) = some (.cells #[.int .i64 0, .int .i64 0] 29 (0, 0)) := kblk hb (by first | exact kr0 | (simp [hp_alloc, hp_set, hp_drew, hp_drewN, cset_cells, k0, k1, kr0]; done)); replace c0 := kcell k0; replace f0 := kfree k0; replace c1 := kcell k1; replace f1 := kfree k1; replace cr0 := kcell kr0; replace fr0 := kfree kr0) | (go_at_call 14; refine (rof _ _ _).mono ?_; rintro e w1 ⟨rfl, hb⟩; replace HB := below_call (by first | exact HB | (repeat (first | assumption | exact Below.refl _ _ | (refine below_call ?_ (by assumption)) | apply below_alloc | apply below_drew | apply below_drewN | (refine below_set ?_ (by first | (simp; done) | (simp; omega) | omega) _)))) hb; replace k0 : hp _ w.heap.size = some (.cells #[.int .i64 a, .int .i64 b] 29 (0, 0)) := kblk hb (by first | exact k0 | (simp [hp_alloc, hp_set, hp_drew, hp_drewN, cset_cells, k0, k1, kr0]; done)); replace k1 : hp _ (w.heap.size + 1) = some (.cells #[.int .i64 c, .int .i64 d] 29 (0, 0)) := kblk hb (by first | exact k1 | (simp [hp_alloc, hp_set, hp_drew, hp_drewN, cset_cells, k0, k1, kr0]; done)); replace kr0 : hp _ (w.heap.size + 1 + 1) = some (.cells #[.int .i64 0, .int .i64 0] 29 (0, 0)) := kblk hb (by first | exact kr0 | (simp [hp_alloc, hp_set, hp_drew, hp_drewN, cset_cells, k0, k1, kr0]; done)); replace c0 := kcell k0; replace f0 := kfree k0; replace c1 := kcell k1; replace f1 := kfree k1; replace cr0 := kcell kr0; replace fr0 := kfree kr0))
    all_goals try go_wp2
    all_goals refine bodyPost_ret (v := .agg #[.int .i64 (meetS a b c d).1, .int .i64 (meetS a b c d).2]) (by simp [results, Try.results33, go_sem, meetS_l, meetS_r, *]) rfl ⟨?_, by (repeat (first | assumption | exact Below.refl _ _ | (refine below_call ?_ (by assumption)) | apply below_alloc | apply below_drew | apply below_drewN | (refine below_set ?_ (by first | (simp; done) | (simp; omega) | omega) _)))⟩
    all_goals (first | rfl | (simp [meetS_l, meetS_r, *]; done))

set_option maxHeartbeats 2000000 in
theorem rmeets (a b c d : Int) (w : World) :
    Calls Try.prog 35 #[.agg #[.int .i64 a, .int .i64 b], .agg #[.int .i64 c, .int .i64 d]] w fun e w' => e = .returned (.bool (!emptyB (meetS a b c d).1 (meetS a b c d).2)) ∧ Below w.heap.size w w' := by
  go_enter Try.func35, Try.ntmps35
  go_upto_region 1 with fail
  refine Ph.at_world ?_; intro W1 hW
  have q0 : hp W1 w.heap.size = some (.cells #[.int .i64 a, .int .i64 b] 29 (0, 0)) := by rw [hW]; simp [hp_alloc, hp_set, hp_drew, hp_drewN, cset_cells]
  have q1 : hp W1 (w.heap.size + 1) = some (.cells #[.int .i64 c, .int .i64 d] 29 (0, 0)) := by rw [hW]; simp [hp_alloc, hp_set, hp_drew, hp_drewN, cset_cells]
  have HB : Below w.heap.size w W1 := by rw [hW]; (repeat (first | assumption | exact Below.refl _ _ | (refine below_call ?_ (by assumption)) | apply below_alloc | apply below_drew | apply below_drewN | (refine below_set ?_ (by first | (simp; done) | (simp; omega) | omega) _)))
  clear hW
  have k0 := q0; clear q0; have c0 := kcell k0; have f0 := kfree k0
  have k1 := q1; clear q1; have c1 := kcell k1; have f1 := kfree k1
  go_wp2_with fail
  go_at_call 33; refine Ph.at_callw ?_; intro W2 hW
  have q0 : hp W2 w.heap.size = some (.cells #[.int .i64 a, .int .i64 b] 29 (0, 0)) := by rw [hW]; simp [hp_alloc, hp_set, hp_drew, hp_drewN, cset_cells, k0, k1]
  have q1 : hp W2 (w.heap.size + 1) = some (.cells #[.int .i64 c, .int .i64 d] 29 (0, 0)) := by rw [hW]; simp [hp_alloc, hp_set, hp_drew, hp_drewN, cset_cells, k0, k1]
  have HB' : Below w.heap.size w W2 := by rw [hW]; (repeat (first | assumption | exact Below.refl _ _ | (refine below_call ?_ (by assumption)) | apply below_alloc | apply below_drew | apply below_drewN | (refine below_set ?_ (by first | (simp; done) | (simp; omega) | omega) _)))
  replace HB := HB'; clear HB'
  clear hW
  clear k0 c0 f0
  clear k1 c1 f1
  have k0 := q0; clear q0; have c0 := kcell k0; have f0 := kfree k0
  have k1 := q1; clear q1; have c1 := kcell k1; have f1 := kfree k1
  refine (rmeet _ _ _ _ _).mono ?_; rintro e v1 ⟨rfl, hb⟩; replace HB := below_call (by first | exact HB | (repeat (first | assumption | exact Below.refl _ _ | (refine below_call ?_ (by assumption)) | apply below_alloc | apply below_drew | apply below_drewN | (refine below_set ?_ (by first | (simp; done) | (simp; omega) | omega) _)))) hb; replace k0 : hp _ w.heap.size = some (.cells #[.int .i64 a, .int .i64 b] 29 (0, 0)) := kblk hb (by first | exact k0 | (simp [hp_alloc, hp_set, hp_drew, hp_drewN, cset_cells, k0, k1]; done)); replace k1 : hp _ (w.heap.size + 1) = some (.cells #[.int .i64 c, .int .i64 d] 29 (0, 0)) := kblk hb (by first | exact k1 | (simp [hp_alloc, hp_set, hp_drew, hp_drewN, cset_cells, k0, k1]; done)); replace c0 := kcell k0; replace f0 := kfree k0; replace c1 := kcell k1; replace f1 := kfree k1
  go_wp2_with fail
  go_at_call 16; refine Ph.at_callw ?_; intro W3 hW
  have q0 : hp W3 w.heap.size = some (.cells #[.int .i64 a, .int .i64 b] 29 (0, 0)) := by rw [hW]; simp [hp_alloc, hp_set, hp_drew, hp_drewN, cset_cells, k0, k1]
  have q1 : hp W3 (w.heap.size + 1) = some (.cells #[.int .i64 c, .int .i64 d] 29 (0, 0)) := by rw [hW]; simp [hp_alloc, hp_set, hp_drew, hp_drewN, cset_cells, k0, k1]
  have HB' : Below w.heap.size w W3 := by rw [hW]; (repeat (first | assumption | exact Below.refl _ _ | (refine below_call ?_ (by assumption)) | apply below_alloc | apply below_drew | apply below_drewN | (refine below_set ?_ (by first | (simp; done) | (simp; omega) | omega) _)))
  replace HB := HB'; clear HB'
  clear hW
  clear k0 c0 f0
  clear k1 c1 f1
  have k0 := q0; clear q0; have c0 := kcell k0; have f0 := kfree k0
  have k1 := q1; clear q1; have c1 := kcell k1; have f1 := kfree k1
  refine (rempty _ _ _).mono ?_; rintro e v2 ⟨rfl, hb⟩; replace HB := below_call (by first | exact HB | (repeat (first | assumption | exact Below.refl _ _ | (refine below_call ?_ (by assumption)) | apply below_alloc | apply below_drew | apply below_drewN | (refine below_set ?_ (by first | (simp; done) | (simp; omega) | omega) _)))) hb; replace k0 : hp _ w.heap.size = some (.cells #[.int .i64 a, .int .i64 b] 29 (0, 0)) := kblk hb (by first | exact k0 | (simp [hp_alloc, hp_set, hp_drew, hp_drewN, cset_cells, k0, k1]; done)); replace k1 : hp _ (w.heap.size + 1) = some (.cells #[.int .i64 c, .int .i64 d] 29 (0, 0)) := kblk hb (by first | exact k1 | (simp [hp_alloc, hp_set, hp_drew, hp_drewN, cset_cells, k0, k1]; done)); replace c0 := kcell k0; replace f0 := kfree k0; replace c1 := kcell k1; replace f1 := kfree k1
  go_wp2_with fail
  all_goals (go_ret; exact ⟨by first | rfl | (simp [meetsB, *]; done) | (simp [meetsB]; omega) | (simp [meetsB, *]; omega), by (repeat (first | assumption | exact Below.refl _ _ | (refine below_call ?_ (by assumption)) | apply below_alloc | apply below_drew | apply below_drewN | (refine below_set ?_ (by first | (simp; done) | (simp; omega) | omega) _)))⟩)

def rtouchB (a b c d : Int) : Bool := emptyB a b || emptyB c d || !emptyB (meetS a b c d).1 (meetS a b c d).2 || (b == c) || (d == a)

set_option maxHeartbeats 2000000 in
theorem rtouches (a b c d : Int) (w : World) :
    Calls Try.prog 45 #[.agg #[.int .i64 a, .int .i64 b], .agg #[.int .i64 c, .int .i64 d]] w fun e w' => e = .returned (.bool (rtouchB a b c d)) ∧ Below w.heap.size w w' := by
  cases h0 : emptyB a b
  · skip
    cases h1 : emptyB c d
    · skip
      cases h2 : emptyB (meetS a b c d).1 (meetS a b c d).2
      · skip
        go_enter Try.func45, Try.ntmps45
        go_upto_region 1 with fail
        refine Ph.at_world ?_; intro W1 hW
        have q0 : hp W1 w.heap.size = some (.cells #[.int .i64 a, .int .i64 b] 29 (0, 0)) := by rw [hW]; simp [hp_alloc, hp_set, hp_drew, hp_drewN, cset_cells]
        have q1 : hp W1 (w.heap.size + 1) = some (.cells #[.int .i64 c, .int .i64 d] 29 (0, 0)) := by rw [hW]; simp [hp_alloc, hp_set, hp_drew, hp_drewN, cset_cells]
        have HB : Below w.heap.size w W1 := by rw [hW]; (repeat (first | assumption | exact Below.refl _ _ | (refine below_call ?_ (by assumption)) | apply below_alloc | apply below_drew | apply below_drewN | (refine below_set ?_ (by first | (simp; done) | (simp; omega) | omega) _)))
        clear hW
        have k0 := q0; clear q0; have c0 := kcell k0; have f0 := kfree k0
        have k1 := q1; clear q1; have c1 := kcell k1; have f1 := kfree k1
        go_wp2_with fail
        go_at_call 16; refine Ph.at_callw ?_; intro W2 hW
        have q0 : hp W2 w.heap.size = some (.cells #[.int .i64 a, .int .i64 b] 29 (0, 0)) := by rw [hW]; simp [hp_alloc, hp_set, hp_drew, hp_drewN, cset_cells, k0, k1]
        have q1 : hp W2 (w.heap.size + 1) = some (.cells #[.int .i64 c, .int .i64 d] 29 (0, 0)) := by rw [hW]; simp [hp_alloc, hp_set, hp_drew, hp_drewN, cset_cells, k0, k1]
        have HB' : Below w.heap.size w W2 := by rw [hW]; (repeat (first | assumption | exact Below.refl _ _ | (refine below_call ?_ (by assumption)) | apply below_alloc | apply below_drew | apply below_drewN | (refine below_set ?_ (by first | (simp; done) | (simp; omega) | omega) _)))
        replace HB := HB'; clear HB'
        clear hW
        clear k0 c0 f0
        clear k1 c1 f1
        have k0 := q0; clear q0; have c0 := kcell k0; have f0 := kfree k0
        have k1 := q1; clear q1; have c1 := kcell k1; have f1 := kfree k1
        refine (rempty _ _ _).mono ?_; rintro e v1 ⟨rfl, hb⟩; replace HB := below_call (by first | exact HB | (repeat (first | assumption | exact Below.refl _ _ | (refine below_call ?_ (by assumption)) | apply below_alloc | apply below_drew | apply below_drewN | (refine below_set ?_ (by first | (simp; done) | (simp; omega) | omega) _)))) hb; replace k0 : hp _ w.heap.size = some (.cells #[.int .i64 a, .int .i64 b] 29 (0, 0)) := kblk hb (by first | exact k0 | (simp [hp_alloc, hp_set, hp_drew, hp_drewN, cset_cells, k0, k1]; done)); replace k1 : hp _ (w.heap.size + 1) = some (.cells #[.int .i64 c, .int .i64 d] 29 (0, 0)) := kblk hb (by first | exact k1 | (simp [hp_alloc, hp_set, hp_drew, hp_drewN, cset_cells, k0, k1]; done)); replace c0 := kcell k0; replace f0 := kfree k0; replace c1 := kcell k1; replace f1 := kfree k1
        go_wp2_with fail
        go_at_call 16; refine Ph.at_callw ?_; intro W3 hW
        have q0 : hp W3 w.heap.size = some (.cells #[.int .i64 a, .int .i64 b] 29 (0, 0)) := by rw [hW]; simp [hp_alloc, hp_set, hp_drew, hp_drewN, cset_cells, k0, k1]
        have q1 : hp W3 (w.heap.size + 1) = some (.cells #[.int .i64 c, .int .i64 d] 29 (0, 0)) := by rw [hW]; simp [hp_alloc, hp_set, hp_drew, hp_drewN, cset_cells, k0, k1]
        have HB' : Below w.heap.size w W3 := by rw [hW]; (repeat (first | assumption | exact Below.refl _ _ | (refine below_call ?_ (by assumption)) | apply below_alloc | apply below_drew | apply below_drewN | (refine below_set ?_ (by first | (simp; done) | (simp; omega) | omega) _)))
        replace HB := HB'; clear HB'
        clear hW
        clear k0 c0 f0
        clear k1 c1 f1
        have k0 := q0; clear q0; have c0 := kcell k0; have f0 := kfree k0
        have k1 := q1; clear q1; have c1 := kcell k1; have f1 := kfree k1
        refine (rempty _ _ _).mono ?_; rintro e v2 ⟨rfl, hb⟩; replace HB := below_call (by first | exact HB | (repeat (first | assumption | exact Below.refl _ _ | (refine below_call ?_ (by assumption)) | apply below_alloc | apply below_drew | apply below_drewN | (refine below_set ?_ (by first | (simp; done) | (simp; omega) | omega) _)))) hb; replace k0 : hp _ w.heap.size = some (.cells #[.int .i64 a, .int .i64 b] 29 (0, 0)) := kblk hb (by first | exact k0 | (simp [hp_alloc, hp_set, hp_drew, hp_drewN, cset_cells, k0, k1]; done)); replace k1 : hp _ (w.heap.size + 1) = some (.cells #[.int .i64 c, .int .i64 d] 29 (0, 0)) := kblk hb (by first | exact k1 | (simp [hp_alloc, hp_set, hp_drew, hp_drewN, cset_cells, k0, k1]; done)); replace c0 := kcell k0; replace f0 := kfree k0; replace c1 := kcell k1; replace f1 := kfree k1
        go_wp2_with fail
        go_at_call 35; refine Ph.at_callw ?_; intro W4 hW
        have q0 : hp W4 w.heap.size = some (.cells #[.int .i64 a, .int .i64 b] 29 (0, 0)) := by rw [hW]; simp [hp_alloc, hp_set, hp_drew, hp_drewN, cset_cells, k0, k1]
        have q1 : hp W4 (w.heap.size + 1) = some (.cells #[.int .i64 c, .int .i64 d] 29 (0, 0)) := by rw [hW]; simp [hp_alloc, hp_set, hp_drew, hp_drewN, cset_cells, k0, k1]
        have HB' : Below w.heap.size w W4 := by rw [hW]; (repeat (first | assumption | exact Below.refl _ _ | (refine below_call ?_ (by assumption)) | apply below_alloc | apply below_drew | apply below_drewN | (refine below_set ?_ (by first | (simp; done) | (simp; omega) | omega) _)))
        replace HB := HB'; clear HB'
        clear hW
        clear k0 c0 f0
        clear k1 c1 f1
        have k0 := q0; clear q0; have c0 := kcell k0; have f0 := kfree k0
        have k1 := q1; clear q1; have c1 := kcell k1; have f1 := kfree k1
        refine (rmeets _ _ _ _ _).mono ?_; rintro e v3 ⟨rfl, hb⟩; replace HB := below_call (by first | exact HB | (repeat (first | assumption | exact Below.refl _ _ | (refine below_call ?_ (by assumption)) | apply below_alloc | apply below_drew | apply below_drewN | (refine below_set ?_ (by first | (simp; done) | (simp; omega) | omega) _)))) hb; replace k0 : hp _ w.heap.size = some (.cells #[.int .i64 a, .int .i64 b] 29 (0, 0)) := kblk hb (by first | exact k0 | (simp [hp_alloc, hp_set, hp_drew, hp_drewN, cset_cells, k0, k1]; done)); replace k1 : hp _ (w.heap.size + 1) = some (.cells #[.int .i64 c, .int .i64 d] 29 (0, 0)) := kblk hb (by first | exact k1 | (simp [hp_alloc, hp_set, hp_drew, hp_drewN, cset_cells, k0, k1]; done)); replace c0 := kcell k0; replace f0 := kfree k0; replace c1 := kcell k1; replace f1 := kfree k1
        go_wp2_with fail
        all_goals (go_ret; exact ⟨by first | rfl | (simp [rtouchB, *]; done) | (simp [rtouchB]; omega) | (simp [rtouchB, *]; omega), by (repeat (first | assumption | exact Below.refl _ _ | (refine below_call ?_ (by assumption)) | apply below_alloc | apply below_drew | apply below_drewN | (refine below_set ?_ (by first | (simp; done) | (simp; omega) | omega) _)))⟩)
      · skip
        cases h3 : b == c
        · skip
          go_enter Try.func45, Try.ntmps45
          go_upto_region 1 with fail
          refine Ph.at_world ?_; intro W1 hW
          have q0 : hp W1 w.heap.size = some (.cells #[.int .i64 a, .int .i64 b] 29 (0, 0)) := by rw [hW]; simp [hp_alloc, hp_set, hp_drew, hp_drewN, cset_cells]
          have q1 : hp W1 (w.heap.size + 1) = some (.cells #[.int .i64 c, .int .i64 d] 29 (0, 0)) := by rw [hW]; simp [hp_alloc, hp_set, hp_drew, hp_drewN, cset_cells]
          have HB : Below w.heap.size w W1 := by rw [hW]; (repeat (first | assumption | exact Below.refl _ _ | (refine below_call ?_ (by assumption)) | apply below_alloc | apply below_drew | apply below_drewN | (refine below_set ?_ (by first | (simp; done) | (simp; omega) | omega) _)))
          clear hW
          have k0 := q0; clear q0; have c0 := kcell k0; have f0 := kfree k0
          have k1 := q1; clear q1; have c1 := kcell k1; have f1 := kfree k1
          go_wp2_with fail
          go_at_call 16; refine Ph.at_callw ?_; intro W2 hW
          have q0 : hp W2 w.heap.size = some (.cells #[.int .i64 a, .int .i64 b] 29 (0, 0)) := by rw [hW]; simp [hp_alloc, hp_set, hp_drew, hp_drewN, cset_cells, k0, k1]
          have q1 : hp W2 (w.heap.size + 1) = some (.cells #[.int .i64 c, .int .i64 d] 29 (0, 0)) := by rw [hW]; simp [hp_alloc, hp_set, hp_drew, hp_drewN, cset_cells, k0, k1]
          have HB' : Below w.heap.size w W2 := by rw [hW]; (repeat (first | assumption | exact Below.refl _ _ | (refine below_call ?_ (by assumption)) | apply below_alloc | apply below_drew | apply below_drewN | (refine below_set ?_ (by first | (simp; done) | (simp; omega) | omega) _)))
          replace HB := HB'; clear HB'
          clear hW
          clear k0 c0 f0
          clear k1 c1 f1
          have k0 := q0; clear q0; have c0 := kcell k0; have f0 := kfree k0
          have k1 := q1; clear q1; have c1 := kcell k1; have f1 := kfree k1
          refine (rempty _ _ _).mono ?_; rintro e v1 ⟨rfl, hb⟩; replace HB := below_call (by first | exact HB | (repeat (first | assumption | exact Below.refl _ _ | (refine below_call ?_ (by assumption)) | apply below_alloc | apply below_drew | apply below_drewN | (refine below_set ?_ (by first | (simp; done) | (simp; omega) | omega) _)))) hb; replace k0 : hp _ w.heap.size = some (.cells #[.int .i64 a, .int .i64 b] 29 (0, 0)) := kblk hb (by first | exact k0 | (simp [hp_alloc, hp_set, hp_drew, hp_drewN, cset_cells, k0, k1]; done)); replace k1 : hp _ (w.heap.size + 1) = some (.cells #[.int .i64 c, .int .i64 d] 29 (0, 0)) := kblk hb (by first | exact k1 | (simp [hp_alloc, hp_set, hp_drew, hp_drewN, cset_cells, k0, k1]; done)); replace c0 := kcell k0; replace f0 := kfree k0; replace c1 := kcell k1; replace f1 := kfree k1
          go_wp2_with fail
          go_at_call 16; refine Ph.at_callw ?_; intro W3 hW
          have q0 : hp W3 w.heap.size = some (.cells #[.int .i64 a, .int .i64 b] 29 (0, 0)) := by rw [hW]; simp [hp_alloc, hp_set, hp_drew, hp_drewN, cset_cells, k0, k1]
          have q1 : hp W3 (w.heap.size + 1) = some (.cells #[.int .i64 c, .int .i64 d] 29 (0, 0)) := by rw [hW]; simp [hp_alloc, hp_set, hp_drew, hp_drewN, cset_cells, k0, k1]
          have HB' : Below w.heap.size w W3 := by rw [hW]; (repeat (first | assumption | exact Below.refl _ _ | (refine below_call ?_ (by assumption)) | apply below_alloc | apply below_drew | apply below_drewN | (refine below_set ?_ (by first | (simp; done) | (simp; omega) | omega) _)))
          replace HB := HB'; clear HB'
          clear hW
          clear k0 c0 f0
          clear k1 c1 f1
          have k0 := q0; clear q0; have c0 := kcell k0; have f0 := kfree k0
          have k1 := q1; clear q1; have c1 := kcell k1; have f1 := kfree k1
          refine (rempty _ _ _).mono ?_; rintro e v2 ⟨rfl, hb⟩; replace HB := below_call (by first | exact HB | (repeat (first | assumption | exact Below.refl _ _ | (refine below_call ?_ (by assumption)) | apply below_alloc | apply below_drew | apply below_drewN | (refine below_set ?_ (by first | (simp; done) | (simp; omega) | omega) _)))) hb; replace k0 : hp _ w.heap.size = some (.cells #[.int .i64 a, .int .i64 b] 29 (0, 0)) := kblk hb (by first | exact k0 | (simp [hp_alloc, hp_set, hp_drew, hp_drewN, cset_cells, k0, k1]; done)); replace k1 : hp _ (w.heap.size + 1) = some (.cells #[.int .i64 c, .int .i64 d] 29 (0, 0)) := kblk hb (by first | exact k1 | (simp [hp_alloc, hp_set, hp_drew, hp_drewN, cset_cells, k0, k1]; done)); replace c0 := kcell k0; replace f0 := kfree k0; replace c1 := kcell k1; replace f1 := kfree k1
          go_wp2_with fail
          go_at_call 35; refine Ph.at_callw ?_; intro W4 hW
          have q0 : hp W4 w.heap.size = some (.cells #[.int .i64 a, .int .i64 b] 29 (0, 0)) := by rw [hW]; simp [hp_alloc, hp_set, hp_drew, hp_drewN, cset_cells, k0, k1]
          have q1 : hp W4 (w.heap.size + 1) = some (.cells #[.int .i64 c, .int .i64 d] 29 (0, 0)) := by rw [hW]; simp [hp_alloc, hp_set, hp_drew, hp_drewN, cset_cells, k0, k1]
          have HB' : Below w.heap.size w W4 := by rw [hW]; (repeat (first | assumption | exact Below.refl _ _ | (refine below_call ?_ (by assumption)) | apply below_alloc | apply below_drew | apply below_drewN | (refine below_set ?_ (by first | (simp; done) | (simp; omega) | omega) _)))
          replace HB := HB'; clear HB'
          clear hW
          clear k0 c0 f0
          clear k1 c1 f1
          have k0 := q0; clear q0; have c0 := kcell k0; have f0 := kfree k0
          have k1 := q1; clear q1; have c1 := kcell k1; have f1 := kfree k1
          refine (rmeets _ _ _ _ _).mono ?_; rintro e v3 ⟨rfl, hb⟩; replace HB := below_call (by first | exact HB | (repeat (first | assumption | exact Below.refl _ _ | (refine below_call ?_ (by assumption)) | apply below_alloc | apply below_drew | apply below_drewN | (refine below_set ?_ (by first | (simp; done) | (simp; omega) | omega) _)))) hb; replace k0 : hp _ w.heap.size = some (.cells #[.int .i64 a, .int .i64 b] 29 (0, 0)) := kblk hb (by first | exact k0 | (simp [hp_alloc, hp_set, hp_drew, hp_drewN, cset_cells, k0, k1]; done)); replace k1 : hp _ (w.heap.size + 1) = some (.cells #[.int .i64 c, .int .i64 d] 29 (0, 0)) := kblk hb (by first | exact k1 | (simp [hp_alloc, hp_set, hp_drew, hp_drewN, cset_cells, k0, k1]; done)); replace c0 := kcell k0; replace f0 := kfree k0; replace c1 := kcell k1; replace f1 := kfree k1
          go_wp2_with fail
          all_goals (go_ret; exact ⟨by first | rfl | (simp [rtouchB, *]; done) | (simp [rtouchB]; omega) | (simp [rtouchB, *]; omega), by (repeat (first | assumption | exact Below.refl _ _ | (refine below_call ?_ (by assumption)) | apply below_alloc | apply below_drew | apply below_drewN | (refine below_set ?_ (by first | (simp; done) | (simp; omega) | omega) _)))⟩)
        · skip
          go_enter Try.func45, Try.ntmps45
          go_upto_region 1 with fail
          refine Ph.at_world ?_; intro W1 hW
          have q0 : hp W1 w.heap.size = some (.cells #[.int .i64 a, .int .i64 b] 29 (0, 0)) := by rw [hW]; simp [hp_alloc, hp_set, hp_drew, hp_drewN, cset_cells]
          have q1 : hp W1 (w.heap.size + 1) = some (.cells #[.int .i64 c, .int .i64 d] 29 (0, 0)) := by rw [hW]; simp [hp_alloc, hp_set, hp_drew, hp_drewN, cset_cells]
          have HB : Below w.heap.size w W1 := by rw [hW]; (repeat (first | assumption | exact Below.refl _ _ | (refine below_call ?_ (by assumption)) | apply below_alloc | apply below_drew | apply below_drewN | (refine below_set ?_ (by first | (simp; done) | (simp; omega) | omega) _)))
          clear hW
          have k0 := q0; clear q0; have c0 := kcell k0; have f0 := kfree k0
          have k1 := q1; clear q1; have c1 := kcell k1; have f1 := kfree k1
          go_wp2_with fail
          go_at_call 16; refine Ph.at_callw ?_; intro W2 hW
          have q0 : hp W2 w.heap.size = some (.cells #[.int .i64 a, .int .i64 b] 29 (0, 0)) := by rw [hW]; simp [hp_alloc, hp_set, hp_drew, hp_drewN, cset_cells, k0, k1]
          have q1 : hp W2 (w.heap.size + 1) = some (.cells #[.int .i64 c, .int .i64 d] 29 (0, 0)) := by rw [hW]; simp [hp_alloc, hp_set, hp_drew, hp_drewN, cset_cells, k0, k1]
          have HB' : Below w.heap.size w W2 := by rw [hW]; (repeat (first | assumption | exact Below.refl _ _ | (refine below_call ?_ (by assumption)) | apply below_alloc | apply below_drew | apply below_drewN | (refine below_set ?_ (by first | (simp; done) | (simp; omega) | omega) _)))
          replace HB := HB'; clear HB'
          clear hW
          clear k0 c0 f0
          clear k1 c1 f1
          have k0 := q0; clear q0; have c0 := kcell k0; have f0 := kfree k0
          have k1 := q1; clear q1; have c1 := kcell k1; have f1 := kfree k1
          refine (rempty _ _ _).mono ?_; rintro e v1 ⟨rfl, hb⟩; replace HB := below_call (by first | exact HB | (repeat (first | assumption | exact Below.refl _ _ | (refine below_call ?_ (by assumption)) | apply below_alloc | apply below_drew | apply below_drewN | (refine below_set ?_ (by first | (simp; done) | (simp; omega) | omega) _)))) hb; replace k0 : hp _ w.heap.size = some (.cells #[.int .i64 a, .int .i64 b] 29 (0, 0)) := kblk hb (by first | exact k0 | (simp [hp_alloc, hp_set, hp_drew, hp_drewN, cset_cells, k0, k1]; done)); replace k1 : hp _ (w.heap.size + 1) = some (.cells #[.int .i64 c, .int .i64 d] 29 (0, 0)) := kblk hb (by first | exact k1 | (simp [hp_alloc, hp_set, hp_drew, hp_drewN, cset_cells, k0, k1]; done)); replace c0 := kcell k0; replace f0 := kfree k0; replace c1 := kcell k1; replace f1 := kfree k1
          go_wp2_with fail
          go_at_call 16; refine Ph.at_callw ?_; intro W3 hW
          have q0 : hp W3 w.heap.size = some (.cells #[.int .i64 a, .int .i64 b] 29 (0, 0)) := by rw [hW]; simp [hp_alloc, hp_set, hp_drew, hp_drewN, cset_cells, k0, k1]
          have q1 : hp W3 (w.heap.size + 1) = some (.cells #[.int .i64 c, .int .i64 d] 29 (0, 0)) := by rw [hW]; simp [hp_alloc, hp_set, hp_drew, hp_drewN, cset_cells, k0, k1]
          have HB' : Below w.heap.size w W3 := by rw [hW]; (repeat (first | assumption | exact Below.refl _ _ | (refine below_call ?_ (by assumption)) | apply below_alloc | apply below_drew | apply below_drewN | (refine below_set ?_ (by first | (simp; done) | (simp; omega) | omega) _)))
          replace HB := HB'; clear HB'
          clear hW
          clear k0 c0 f0
          clear k1 c1 f1
          have k0 := q0; clear q0; have c0 := kcell k0; have f0 := kfree k0
          have k1 := q1; clear q1; have c1 := kcell k1; have f1 := kfree k1
          refine (rempty _ _ _).mono ?_; rintro e v2 ⟨rfl, hb⟩; replace HB := below_call (by first | exact HB | (repeat (first | assumption | exact Below.refl _ _ | (refine below_call ?_ (by assumption)) | apply below_alloc | apply below_drew | apply below_drewN | (refine below_set ?_ (by first | (simp; done) | (simp; omega) | omega) _)))) hb; replace k0 : hp _ w.heap.size = some (.cells #[.int .i64 a, .int .i64 b] 29 (0, 0)) := kblk hb (by first | exact k0 | (simp [hp_alloc, hp_set, hp_drew, hp_drewN, cset_cells, k0, k1]; done)); replace k1 : hp _ (w.heap.size + 1) = some (.cells #[.int .i64 c, .int .i64 d] 29 (0, 0)) := kblk hb (by first | exact k1 | (simp [hp_alloc, hp_set, hp_drew, hp_drewN, cset_cells, k0, k1]; done)); replace c0 := kcell k0; replace f0 := kfree k0; replace c1 := kcell k1; replace f1 := kfree k1
          go_wp2_with fail
          go_at_call 35; refine Ph.at_callw ?_; intro W4 hW
          have q0 : hp W4 w.heap.size = some (.cells #[.int .i64 a, .int .i64 b] 29 (0, 0)) := by rw [hW]; simp [hp_alloc, hp_set, hp_drew, hp_drewN, cset_cells, k0, k1]
          have q1 : hp W4 (w.heap.size + 1) = some (.cells #[.int .i64 c, .int .i64 d] 29 (0, 0)) := by rw [hW]; simp [hp_alloc, hp_set, hp_drew, hp_drewN, cset_cells, k0, k1]
          have HB' : Below w.heap.size w W4 := by rw [hW]; (repeat (first | assumption | exact Below.refl _ _ | (refine below_call ?_ (by assumption)) | apply below_alloc | apply below_drew | apply below_drewN | (refine below_set ?_ (by first | (simp; done) | (simp; omega) | omega) _)))
          replace HB := HB'; clear HB'
          clear hW
          clear k0 c0 f0
          clear k1 c1 f1
          have k0 := q0; clear q0; have c0 := kcell k0; have f0 := kfree k0
          have k1 := q1; clear q1; have c1 := kcell k1; have f1 := kfree k1
          refine (rmeets _ _ _ _ _).mono ?_; rintro e v3 ⟨rfl, hb⟩; replace HB := below_call (by first | exact HB | (repeat (first | assumption | exact Below.refl _ _ | (refine below_call ?_ (by assumption)) | apply below_alloc | apply below_drew | apply below_drewN | (refine below_set ?_ (by first | (simp; done) | (simp; omega) | omega) _)))) hb; replace k0 : hp _ w.heap.size = some (.cells #[.int .i64 a, .int .i64 b] 29 (0, 0)) := kblk hb (by first | exact k0 | (simp [hp_alloc, hp_set, hp_drew, hp_drewN, cset_cells, k0, k1]; done)); replace k1 : hp _ (w.heap.size + 1) = some (.cells #[.int .i64 c, .int .i64 d] 29 (0, 0)) := kblk hb (by first | exact k1 | (simp [hp_alloc, hp_set, hp_drew, hp_drewN, cset_cells, k0, k1]; done)); replace c0 := kcell k0; replace f0 := kfree k0; replace c1 := kcell k1; replace f1 := kfree k1
          go_wp2_with fail
          all_goals (go_ret; exact ⟨by first | rfl | (simp [rtouchB, *]; done) | (simp [rtouchB]; omega) | (simp [rtouchB, *]; omega), by (repeat (first | assumption | exact Below.refl _ _ | (refine below_call ?_ (by assumption)) | apply below_alloc | apply below_drew | apply below_drewN | (refine below_set ?_ (by first | (simp; done) | (simp; omega) | omega) _)))⟩)
    · skip
      go_enter Try.func45, Try.ntmps45
      go_upto_region 1 with fail
      refine Ph.at_world ?_; intro W1 hW
      have q0 : hp W1 w.heap.size = some (.cells #[.int .i64 a, .int .i64 b] 29 (0, 0)) := by rw [hW]; simp [hp_alloc, hp_set, hp_drew, hp_drewN, cset_cells]
      have q1 : hp W1 (w.heap.size + 1) = some (.cells #[.int .i64 c, .int .i64 d] 29 (0, 0)) := by rw [hW]; simp [hp_alloc, hp_set, hp_drew, hp_drewN, cset_cells]
      have HB : Below w.heap.size w W1 := by rw [hW]; (repeat (first | assumption | exact Below.refl _ _ | (refine below_call ?_ (by assumption)) | apply below_alloc | apply below_drew | apply below_drewN | (refine below_set ?_ (by first | (simp; done) | (simp; omega) | omega) _)))
      clear hW
      have k0 := q0; clear q0; have c0 := kcell k0; have f0 := kfree k0
      have k1 := q1; clear q1; have c1 := kcell k1; have f1 := kfree k1
      go_wp2_with fail
      go_at_call 16; refine Ph.at_callw ?_; intro W2 hW
      have q0 : hp W2 w.heap.size = some (.cells #[.int .i64 a, .int .i64 b] 29 (0, 0)) := by rw [hW]; simp [hp_alloc, hp_set, hp_drew, hp_drewN, cset_cells, k0, k1]
      have q1 : hp W2 (w.heap.size + 1) = some (.cells #[.int .i64 c, .int .i64 d] 29 (0, 0)) := by rw [hW]; simp [hp_alloc, hp_set, hp_drew, hp_drewN, cset_cells, k0, k1]
      have HB' : Below w.heap.size w W2 := by rw [hW]; (repeat (first | assumption | exact Below.refl _ _ | (refine below_call ?_ (by assumption)) | apply below_alloc | apply below_drew | apply below_drewN | (refine below_set ?_ (by first | (simp; done) | (simp; omega) | omega) _)))
      replace HB := HB'; clear HB'
      clear hW
      clear k0 c0 f0
      clear k1 c1 f1
      have k0 := q0; clear q0; have c0 := kcell k0; have f0 := kfree k0
      have k1 := q1; clear q1; have c1 := kcell k1; have f1 := kfree k1
      refine (rempty _ _ _).mono ?_; rintro e v1 ⟨rfl, hb⟩; replace HB := below_call (by first | exact HB | (repeat (first | assumption | exact Below.refl _ _ | (refine below_call ?_ (by assumption)) | apply below_alloc | apply below_drew | apply below_drewN | (refine below_set ?_ (by first | (simp; done) | (simp; omega) | omega) _)))) hb; replace k0 : hp _ w.heap.size = some (.cells #[.int .i64 a, .int .i64 b] 29 (0, 0)) := kblk hb (by first | exact k0 | (simp [hp_alloc, hp_set, hp_drew, hp_drewN, cset_cells, k0, k1]; done)); replace k1 : hp _ (w.heap.size + 1) = some (.cells #[.int .i64 c, .int .i64 d] 29 (0, 0)) := kblk hb (by first | exact k1 | (simp [hp_alloc, hp_set, hp_drew, hp_drewN, cset_cells, k0, k1]; done)); replace c0 := kcell k0; replace f0 := kfree k0; replace c1 := kcell k1; replace f1 := kfree k1
      go_wp2_with fail
      go_at_call 16; refine Ph.at_callw ?_; intro W3 hW
      have q0 : hp W3 w.heap.size = some (.cells #[.int .i64 a, .int .i64 b] 29 (0, 0)) := by rw [hW]; simp [hp_alloc, hp_set, hp_drew, hp_drewN, cset_cells, k0, k1]
      have q1 : hp W3 (w.heap.size + 1) = some (.cells #[.int .i64 c, .int .i64 d] 29 (0, 0)) := by rw [hW]; simp [hp_alloc, hp_set, hp_drew, hp_drewN, cset_cells, k0, k1]
      have HB' : Below w.heap.size w W3 := by rw [hW]; (repeat (first | assumption | exact Below.refl _ _ | (refine below_call ?_ (by assumption)) | apply below_alloc | apply below_drew | apply below_drewN | (refine below_set ?_ (by first | (simp; done) | (simp; omega) | omega) _)))
      replace HB := HB'; clear HB'
      clear hW
      clear k0 c0 f0
      clear k1 c1 f1
      have k0 := q0; clear q0; have c0 := kcell k0; have f0 := kfree k0
      have k1 := q1; clear q1; have c1 := kcell k1; have f1 := kfree k1
      refine (rempty _ _ _).mono ?_; rintro e v2 ⟨rfl, hb⟩; replace HB := below_call (by first | exact HB | (repeat (first | assumption | exact Below.refl _ _ | (refine below_call ?_ (by assumption)) | apply below_alloc | apply below_drew | apply below_drewN | (refine below_set ?_ (by first | (simp; done) | (simp; omega) | omega) _)))) hb; replace k0 : hp _ w.heap.size = some (.cells #[.int .i64 a, .int .i64 b] 29 (0, 0)) := kblk hb (by first | exact k0 | (simp [hp_alloc, hp_set, hp_drew, hp_drewN, cset_cells, k0, k1]; done)); replace k1 : hp _ (w.heap.size + 1) = some (.cells #[.int .i64 c, .int .i64 d] 29 (0, 0)) := kblk hb (by first | exact k1 | (simp [hp_alloc, hp_set, hp_drew, hp_drewN, cset_cells, k0, k1]; done)); replace c0 := kcell k0; replace f0 := kfree k0; replace c1 := kcell k1; replace f1 := kfree k1
      go_wp2_with fail
      all_goals (go_ret; exact ⟨by first | rfl | (simp [rtouchB, *]; done) | (simp [rtouchB]; omega) | (simp [rtouchB, *]; omega), by (repeat (first | assumption | exact Below.refl _ _ | (refine below_call ?_ (by assumption)) | apply below_alloc | apply below_drew | apply below_drewN | (refine below_set ?_ (by first | (simp; done) | (simp; omega) | omega) _)))⟩)
  · skip
    go_enter Try.func45, Try.ntmps45
    go_upto_region 1 with fail
    refine Ph.at_world ?_; intro W1 hW
    have q0 : hp W1 w.heap.size = some (.cells #[.int .i64 a, .int .i64 b] 29 (0, 0)) := by rw [hW]; simp [hp_alloc, hp_set, hp_drew, hp_drewN, cset_cells]
    have q1 : hp W1 (w.heap.size + 1) = some (.cells #[.int .i64 c, .int .i64 d] 29 (0, 0)) := by rw [hW]; simp [hp_alloc, hp_set, hp_drew, hp_drewN, cset_cells]
    have HB : Below w.heap.size w W1 := by rw [hW]; (repeat (first | assumption | exact Below.refl _ _ | (refine below_call ?_ (by assumption)) | apply below_alloc | apply below_drew | apply below_drewN | (refine below_set ?_ (by first | (simp; done) | (simp; omega) | omega) _)))
    clear hW
    have k0 := q0; clear q0; have c0 := kcell k0; have f0 := kfree k0
    have k1 := q1; clear q1; have c1 := kcell k1; have f1 := kfree k1
    go_wp2_with fail
    go_at_call 16; refine Ph.at_callw ?_; intro W2 hW
    have q0 : hp W2 w.heap.size = some (.cells #[.int .i64 a, .int .i64 b] 29 (0, 0)) := by rw [hW]; simp [hp_alloc, hp_set, hp_drew, hp_drewN, cset_cells, k0, k1]
    have q1 : hp W2 (w.heap.size + 1) = some (.cells #[.int .i64 c, .int .i64 d] 29 (0, 0)) := by rw [hW]; simp [hp_alloc, hp_set, hp_drew, hp_drewN, cset_cells, k0, k1]
    have HB' : Below w.heap.size w W2 := by rw [hW]; (repeat (first | assumption | exact Below.refl _ _ | (refine below_call ?_ (by assumption)) | apply below_alloc | apply below_drew | apply below_drewN | (refine below_set ?_ (by first | (simp; done) | (simp; omega) | omega) _)))
    replace HB := HB'; clear HB'
    clear hW
    clear k0 c0 f0
    clear k1 c1 f1
    have k0 := q0; clear q0; have c0 := kcell k0; have f0 := kfree k0
    have k1 := q1; clear q1; have c1 := kcell k1; have f1 := kfree k1
    refine (rempty _ _ _).mono ?_; rintro e v1 ⟨rfl, hb⟩; replace HB := below_call (by first | exact HB | (repeat (first | assumption | exact Below.refl _ _ | (refine below_call ?_ (by assumption)) | apply below_alloc | apply below_drew | apply below_drewN | (refine below_set ?_ (by first | (simp; done) | (simp; omega) | omega) _)))) hb; replace k0 : hp _ w.heap.size = some (.cells #[.int .i64 a, .int .i64 b] 29 (0, 0)) := kblk hb (by first | exact k0 | (simp [hp_alloc, hp_set, hp_drew, hp_drewN, cset_cells, k0, k1]; done)); replace k1 : hp _ (w.heap.size + 1) = some (.cells #[.int .i64 c, .int .i64 d] 29 (0, 0)) := kblk hb (by first | exact k1 | (simp [hp_alloc, hp_set, hp_drew, hp_drewN, cset_cells, k0, k1]; done)); replace c0 := kcell k0; replace f0 := kfree k0; replace c1 := kcell k1; replace f1 := kfree k1
    go_wp2_with fail
    all_goals (go_ret; exact ⟨by first | rfl | (simp [rtouchB, *]; done) | (simp [rtouchB]; omega) | (simp [rtouchB, *]; omega), by (repeat (first | assumption | exact Below.refl _ _ | (refine below_call ?_ (by assumption)) | apply below_alloc | apply below_drew | apply below_drewN | (refine below_set ?_ (by first | (simp; done) | (simp; omega) | omega) _)))⟩)

set_option maxHeartbeats 2000000 in
theorem rhull (a b c d : Int) (w : World) :
    Calls Try.prog 43 #[.agg #[.int .i64 a, .int .i64 b], .agg #[.int .i64 c, .int .i64 d]] w fun e w' => e = .returned (.agg #[.int .i64 (hullS a b c d).1, .int .i64 (hullS a b c d).2]) ∧ Below w.heap.size w w' := by
  cases h0 : emptyB a b
  · skip
    cases h1 : emptyB c d
    · skip
      by_cases h2 : c < a
      · have g2 : ¬ a ≤ c := by omega
        by_cases h3 : b < d
        · have g3 : ¬ d ≤ b := by omega
          have eq : hullS a b c d = ofS c d := hullS_eq h0 h1 (by omega) (by omega)
          go_enter Try.func43, Try.ntmps43
          go_upto_region 1 with fail
          refine Ph.at_world ?_; intro W1 hW
          have q0 : hp W1 w.heap.size = some (.cells #[.int .i64 a, .int .i64 b] 29 (0, 0)) := by rw [hW]; simp [hp_alloc, hp_set, hp_drew, hp_drewN, cset_cells]
          have q1 : hp W1 (w.heap.size + 1) = some (.cells #[.int .i64 c, .int .i64 d] 29 (0, 0)) := by rw [hW]; simp [hp_alloc, hp_set, hp_drew, hp_drewN, cset_cells]
          have qr0 : hp W1 (w.heap.size + 1 + 1) = some (.cells #[.int .i64 0, .int .i64 0] 29 (0, 0)) := by rw [hW]; simp [hp_alloc, hp_set, hp_drew, hp_drewN, cset_cells]
          have HB : Below w.heap.size w W1 := by rw [hW]; (repeat (first | assumption | exact Below.refl _ _ | (refine below_call ?_ (by assumption)) | apply below_alloc | apply below_drew | apply below_drewN | (refine below_set ?_ (by first | (simp; done) | (simp; omega) | omega) _)))
          clear hW
          have k0 := q0; clear q0; have c0 := kcell k0; have f0 := kfree k0
          have k1 := q1; clear q1; have c1 := kcell k1; have f1 := kfree k1
          have kr0 := qr0; clear qr0; have cr0 := kcell kr0; have fr0 := kfree kr0
          go_wp2_with fail
          go_at_call 16; refine Ph.at_callw ?_; intro W2 hW
          have q0 : hp W2 w.heap.size = some (.cells #[.int .i64 a, .int .i64 b] 29 (0, 0)) := by rw [hW]; simp [hp_alloc, hp_set, hp_drew, hp_drewN, cset_cells, k0, k1, kr0]
          have q1 : hp W2 (w.heap.size + 1) = some (.cells #[.int .i64 c, .int .i64 d] 29 (0, 0)) := by rw [hW]; simp [hp_alloc, hp_set, hp_drew, hp_drewN, cset_cells, k0, k1, kr0]
          have qr0 : hp W2 (w.heap.size + 1 + 1) = some (.cells #[.int .i64 0, .int .i64 0] 29 (0, 0)) := by rw [hW]; simp [hp_alloc, hp_set, hp_drew, hp_drewN, cset_cells, k0, k1, kr0]
          have HB' : Below w.heap.size w W2 := by rw [hW]; (repeat (first | assumption | exact Below.refl _ _ | (refine below_call ?_ (by assumption)) | apply below_alloc | apply below_drew | apply below_drewN | (refine below_set ?_ (by first | (simp; done) | (simp; omega) | omega) _)))
          replace HB := HB'; clear HB'
          clear hW
          clear k0 c0 f0
          clear k1 c1 f1
          clear kr0 cr0 fr0
          have k0 := q0; clear q0; have c0 := kcell k0; have f0 := kfree k0
          have k1 := q1; clear q1; have c1 := kcell k1; have f1 := kfree k1
          have kr0 := qr0; clear qr0; have cr0 := kcell kr0; have fr0 := kfree kr0
          refine (rempty _ _ _).mono ?_; rintro e v1 ⟨rfl, hb⟩; replace HB := below_call (by first | exact HB | (repeat (first | assumption | exact Below.refl _ _ | (refine below_call ?_ (by assumption)) | apply below_alloc | apply below_drew | apply below_drewN | (refine below_set ?_ (by first | (simp; done) | (simp; omega) | omega) _)))) hb; replace k0 : hp _ w.heap.size = some (.cells #[.int .i64 a, .int .i64 b] 29 (0, 0)) := kblk hb (by first | exact k0 | (simp [hp_alloc, hp_set, hp_drew, hp_drewN, cset_cells, k0, k1, kr0]; done)); replace k1 : hp _ (w.heap.size + 1) = some (.cells #[.int .i64 c, .int .i64 d] 29 (0, 0)) := kblk hb (by first | exact k1 | (simp [hp_alloc, hp_set, hp_drew, hp_drewN, cset_cells, k0, k1, kr0]; done)); replace kr0 : hp _ (w.heap.size + 1 + 1) = some (.cells #[.int .i64 0, .int .i64 0] 29 (0, 0)) := kblk hb (by first | exact kr0 | (simp [hp_alloc, hp_set, hp_drew, hp_drewN, cset_cells, k0, k1, kr0]; done)); replace c0 := kcell k0; replace f0 := kfree k0; replace c1 := kcell k1; replace f1 := kfree k1; replace cr0 := kcell kr0; replace fr0 := kfree kr0
          go_wp2_with fail
          go_at_call 16; refine Ph.at_callw ?_; intro W3 hW
          have q0 : hp W3 w.heap.size = some (.cells #[.int .i64 a, .int .i64 b] 29 (0, 0)) := by rw [hW]; simp [hp_alloc, hp_set, hp_drew, hp_drewN, cset_cells, k0, k1, kr0]
          have q1 : hp W3 (w.heap.size + 1) = some (.cells #[.int .i64 c, .int .i64 d] 29 (0, 0)) := by rw [hW]; simp [hp_alloc, hp_set, hp_drew, hp_drewN, cset_cells, k0, k1, kr0]
          have qr0 : hp W3 (w.heap.size + 1 + 1) = some (.cells #[.int .i64 0, .int .i64 0] 29 (0, 0)) := by rw [hW]; simp [hp_alloc, hp_set, hp_drew, hp_drewN, cset_cells, k0, k1, kr0]
          have HB' : Below w.heap.size w W3 := by rw [hW]; (repeat (first | assumption | exact Below.refl _ _ | (refine below_call ?_ (by assumption)) | apply below_alloc | apply below_drew | apply below_drewN | (refine below_set ?_ (by first | (simp; done) | (simp; omega) | omega) _)))
          replace HB := HB'; clear HB'
          clear hW
          clear k0 c0 f0
          clear k1 c1 f1
          clear kr0 cr0 fr0
          have k0 := q0; clear q0; have c0 := kcell k0; have f0 := kfree k0
          have k1 := q1; clear q1; have c1 := kcell k1; have f1 := kfree k1
          have kr0 := qr0; clear qr0; have cr0 := kcell kr0; have fr0 := kfree kr0
          refine (rempty _ _ _).mono ?_; rintro e v2 ⟨rfl, hb⟩; replace HB := below_call (by first | exact HB | (repeat (first | assumption | exact Below.refl _ _ | (refine below_call ?_ (by assumption)) | apply below_alloc | apply below_drew | apply below_drewN | (refine below_set ?_ (by first | (simp; done) | (simp; omega) | omega) _)))) hb; replace k0 : hp _ w.heap.size = some (.cells #[.int .i64 a, .int .i64 b] 29 (0, 0)) := kblk hb (by first | exact k0 | (simp [hp_alloc, hp_set, hp_drew, hp_drewN, cset_cells, k0, k1, kr0]; done)); replace k1 : hp _ (w.heap.size + 1) = some (.cells #[.int .i64 c, .int .i64 d] 29 (0, 0)) := kblk hb (by first | exact k1 | (simp [hp_alloc, hp_set, hp_drew, hp_drewN, cset_cells, k0, k1, kr0]; done)); replace kr0 : hp _ (w.heap.size + 1 + 1) = some (.cells #[.int .i64 0, .int .i64 0] 29 (0, 0)) := kblk hb (by first | exact kr0 | (simp [hp_alloc, hp_set, hp_drew, hp_drewN, cset_cells, k0, k1, kr0]; done)); replace c0 := kcell k0; replace f0 := kfree k0; replace c1 := kcell k1; replace f1 := kfree k1; replace cr0 := kcell kr0; replace fr0 := kfree kr0
          go_wp2_with fail
          refine Ph.wp_region_gr 6 6 [] (by kernel_rfl) (by kernel_rfl) (fun _ d _ _ _ h => by cases d <;> exact h) ?_
          simp only [List.take_succ_cons, List.take_zero, List.drop_succ_cons, List.drop_zero]
          repeat (first | (apply Ph.wpG_op rfl; (focus (intro w1 hS; have d0 := kcell (kblk hS k0); have d1 := kcell (kblk hS k1); have dr0 := kcell (kblk hS kr0); go_simp; first | exact rfl | exact ⟨rfl, Below.refl _ _⟩))); simp only [List.tail_cons, List.tail_nil, Act.put, List.setIfInBounds_toArray, List.set_cons_zero, List.set_cons_succ])
          refine Ph.wpG_nil ?_
          refine Ph.wpAl_nil ?_; intro v3 hS hgs hne
          clear hgs hne
          replace HB := below_call (by first | exact HB | (repeat (first | assumption | exact Below.refl _ _ | (refine below_call ?_ (by assumption)) | apply below_alloc | apply below_drew | apply below_drewN | (refine below_set ?_ (by first | (simp; done) | (simp; omega) | omega) _)))) hS; replace k0 : hp _ w.heap.size = some (.cells #[.int .i64 a, .int .i64 b] 29 (0, 0)) := kblk hS (by first | exact k0 | (simp [hp_alloc, hp_set, hp_drew, hp_drewN, cset_cells, k0, k1, kr0]; done)); replace k1 : hp _ (w.heap.size + 1) = some (.cells #[.int .i64 c, .int .i64 d] 29 (0, 0)) := kblk hS (by first | exact k1 | (simp [hp_alloc, hp_set, hp_drew, hp_drewN, cset_cells, k0, k1, kr0]; done)); replace kr0 : hp _ (w.heap.size + 1 + 1) = some (.cells #[.int .i64 0, .int .i64 0] 29 (0, 0)) := kblk hS (by first | exact kr0 | (simp [hp_alloc, hp_set, hp_drew, hp_drewN, cset_cells, k0, k1, kr0]; done)); replace c0 := kcell k0; replace f0 := kfree k0; replace c1 := kcell k1; replace f1 := kfree k1; replace cr0 := kcell kr0; replace fr0 := kfree kr0
          go_wp2_with (first | (go_at_call 14; refine (rof _ _ _).mono ?_; rintro e w1 ⟨rfl, hb⟩; replace HB := below_call (by first | exact HB | (repeat (first | assumption | exact Below.refl _ _ | (refine below_call ?_ (by assumption)) | apply below_alloc | apply below_drew | apply below_drewN | (refine below_set ?_ (by first | (simp; done) | (simp; omega) | omega) _)))) hb; replace k0 : hp _ w.heap.size = some (.cells #[.int .i64 a, .int .i64 b] 29 (0, 0)) := kblk hb (by first | exact k0 | (simp [hp_alloc, hp_set, hp_drew, hp_drewN, cset_cells, k0, k1, kr0]; done)); replace k1 : hp _ (w.heap.size + 1) = some (.cells #[.int .i64 c, .int .i64 d] 29 (0, 0)) := kblk hb (by first | exact k1 | (simp [hp_alloc, hp_set, hp_drew, hp_drewN, cset_cells, k0, k1, kr0]; done)); replace kr0 : hp _ (w.heap.size + 1 + 1) = some (.cells #[.int .i64 0, .int .i64 0] 29 (0, 0)) := kblk hb (by first | exact kr0 | (simp [hp_alloc, hp_set, hp_drew, hp_drewN, cset_cells, k0, k1, kr0]; done)); replace c0 := kcell k0; replace f0 := kfree k0; replace c1 := kcell k1; replace f1 := kfree k1; replace cr0 := kcell kr0; replace fr0 := kfree kr0))
          all_goals try go_wp2
          all_goals refine bodyPost_ret (v := .agg #[.int .i64 (hullS a b c d).1, .int .i64 (hullS a b c d).2]) (by simp [results, Try.results43, go_sem, hullS_l, hullS_r, *]) rfl ⟨?_, by (repeat (first | assumption | exact Below.refl _ _ | (refine below_call ?_ (by assumption)) | apply below_alloc | apply below_drew | apply below_drewN | (refine below_set ?_ (by first | (simp; done) | (simp; omega) | omega) _)))⟩
          all_goals (first | rfl | (simp [hullS_l, hullS_r, *]; done))
        · have g3 : d ≤ b := by omega
          have eq : hullS a b c d = ofS c b := hullS_eq h0 h1 (by omega) (by omega)
          go_enter Try.func43, Try.ntmps43
          go_upto_region 1 with fail
          refine Ph.at_world ?_; intro W1 hW
          have q0 : hp W1 w.heap.size = some (.cells #[.int .i64 a, .int .i64 b] 29 (0, 0)) := by rw [hW]; simp [hp_alloc, hp_set, hp_drew, hp_drewN, cset_cells]
          have q1 : hp W1 (w.heap.size + 1) = some (.cells #[.int .i64 c, .int .i64 d] 29 (0, 0)) := by rw [hW]; simp [hp_alloc, hp_set, hp_drew, hp_drewN, cset_cells]
          have qr0 : hp W1 (w.heap.size + 1 + 1) = some (.cells #[.int .i64 0, .int .i64 0] 29 (0, 0)) := by rw [hW]; simp [hp_alloc, hp_set, hp_drew, hp_drewN, cset_cells]
          have HB : Below w.heap.size w W1 := by rw [hW]; (repeat (first | assumption | exact Below.refl _ _ | (refine below_call ?_ (by assumption)) | apply below_alloc | apply below_drew | apply below_drewN | (refine below_set ?_ (by first | (simp; done) | (simp; omega) | omega) _)))
          clear hW
          have k0 := q0; clear q0; have c0 := kcell k0; have f0 := kfree k0
          have k1 := q1; clear q1; have c1 := kcell k1; have f1 := kfree k1
          have kr0 := qr0; clear qr0; have cr0 := kcell kr0; have fr0 := kfree kr0
          go_wp2_with fail
          go_at_call 16; refine Ph.at_callw ?_; intro W2 hW
          have q0 : hp W2 w.heap.size = some (.cells #[.int .i64 a, .int .i64 b] 29 (0, 0)) := by rw [hW]; simp [hp_alloc, hp_set, hp_drew, hp_drewN, cset_cells, k0, k1, kr0]
          have q1 : hp W2 (w.heap.size + 1) = some (.cells #[.int .i64 c, .int .i64 d] 29 (0, 0)) := by rw [hW]; simp [hp_alloc, hp_set, hp_drew, hp_drewN, cset_cells, k0, k1, kr0]
          have qr0 : hp W2 (w.heap.size + 1 + 1) = some (.cells #[.int .i64 0, .int .i64 0] 29 (0, 0)) := by rw [hW]; simp [hp_alloc, hp_set, hp_drew, hp_drewN, cset_cells, k0, k1, kr0]
          have HB' : Below w.heap.size w W2 := by rw [hW]; (repeat (first | assumption | exact Below.refl _ _ | (refine below_call ?_ (by assumption)) | apply below_alloc | apply below_drew | apply below_drewN | (refine below_set ?_ (by first | (simp; done) | (simp; omega) | omega) _)))
          replace HB := HB'; clear HB'
          clear hW
          clear k0 c0 f0
          clear k1 c1 f1
          clear kr0 cr0 fr0
          have k0 := q0; clear q0; have c0 := kcell k0; have f0 := kfree k0
          have k1 := q1; clear q1; have c1 := kcell k1; have f1 := kfree k1
          have kr0 := qr0; clear qr0; have cr0 := kcell kr0; have fr0 := kfree kr0
          refine (rempty _ _ _).mono ?_; rintro e v1 ⟨rfl, hb⟩; replace HB := below_call (by first | exact HB | (repeat (first | assumption | exact Below.refl _ _ | (refine below_call ?_ (by assumption)) | apply below_alloc | apply below_drew | apply below_drewN | (refine below_set ?_ (by first | (simp; done) | (simp; omega) | omega) _)))) hb; replace k0 : hp _ w.heap.size = some (.cells #[.int .i64 a, .int .i64 b] 29 (0, 0)) := kblk hb (by first | exact k0 | (simp [hp_alloc, hp_set, hp_drew, hp_drewN, cset_cells, k0, k1, kr0]; done)); replace k1 : hp _ (w.heap.size + 1) = some (.cells #[.int .i64 c, .int .i64 d] 29 (0, 0)) := kblk hb (by first | exact k1 | (simp [hp_alloc, hp_set, hp_drew, hp_drewN, cset_cells, k0, k1, kr0]; done)); replace kr0 : hp _ (w.heap.size + 1 + 1) = some (.cells #[.int .i64 0, .int .i64 0] 29 (0, 0)) := kblk hb (by first | exact kr0 | (simp [hp_alloc, hp_set, hp_drew, hp_drewN, cset_cells, k0, k1, kr0]; done)); replace c0 := kcell k0; replace f0 := kfree k0; replace c1 := kcell k1; replace f1 := kfree k1; replace cr0 := kcell kr0; replace fr0 := kfree kr0
          go_wp2_with fail
          go_at_call 16; refine Ph.at_callw ?_; intro W3 hW
          have q0 : hp W3 w.heap.size = some (.cells #[.int .i64 a, .int .i64 b] 29 (0, 0)) := by rw [hW]; simp [hp_alloc, hp_set, hp_drew, hp_drewN, cset_cells, k0, k1, kr0]
          have q1 : hp W3 (w.heap.size + 1) = some (.cells #[.int .i64 c, .int .i64 d] 29 (0, 0)) := by rw [hW]; simp [hp_alloc, hp_set, hp_drew, hp_drewN, cset_cells, k0, k1, kr0]
          have qr0 : hp W3 (w.heap.size + 1 + 1) = some (.cells #[.int .i64 0, .int .i64 0] 29 (0, 0)) := by rw [hW]; simp [hp_alloc, hp_set, hp_drew, hp_drewN, cset_cells, k0, k1, kr0]
          have HB' : Below w.heap.size w W3 := by rw [hW]; (repeat (first | assumption | exact Below.refl _ _ | (refine below_call ?_ (by assumption)) | apply below_alloc | apply below_drew | apply below_drewN | (refine below_set ?_ (by first | (simp; done) | (simp; omega) | omega) _)))
          replace HB := HB'; clear HB'
          clear hW
          clear k0 c0 f0
          clear k1 c1 f1
          clear kr0 cr0 fr0
          have k0 := q0; clear q0; have c0 := kcell k0; have f0 := kfree k0
          have k1 := q1; clear q1; have c1 := kcell k1; have f1 := kfree k1
          have kr0 := qr0; clear qr0; have cr0 := kcell kr0; have fr0 := kfree kr0
          refine (rempty _ _ _).mono ?_; rintro e v2 ⟨rfl, hb⟩; replace HB := below_call (by first | exact HB | (repeat (first | assumption | exact Below.refl _ _ | (refine below_call ?_ (by assumption)) | apply below_alloc | apply below_drew | apply below_drewN | (refine below_set ?_ (by first | (simp; done) | (simp; omega) | omega) _)))) hb; replace k0 : hp _ w.heap.size = some (.cells #[.int .i64 a, .int .i64 b] 29 (0, 0)) := kblk hb (by first | exact k0 | (simp [hp_alloc, hp_set, hp_drew, hp_drewN, cset_cells, k0, k1, kr0]; done)); replace k1 : hp _ (w.heap.size + 1) = some (.cells #[.int .i64 c, .int .i64 d] 29 (0, 0)) := kblk hb (by first | exact k1 | (simp [hp_alloc, hp_set, hp_drew, hp_drewN, cset_cells, k0, k1, kr0]; done)); replace kr0 : hp _ (w.heap.size + 1 + 1) = some (.cells #[.int .i64 0, .int .i64 0] 29 (0, 0)) := kblk hb (by first | exact kr0 | (simp [hp_alloc, hp_set, hp_drew, hp_drewN, cset_cells, k0, k1, kr0]; done)); replace c0 := kcell k0; replace f0 := kfree k0; replace c1 := kcell k1; replace f1 := kfree k1; replace cr0 := kcell kr0; replace fr0 := kfree kr0
          go_wp2_with fail
          refine Ph.wp_region_gr 6 6 [] (by kernel_rfl) (by kernel_rfl) (fun _ d _ _ _ h => by cases d <;> exact h) ?_
          simp only [List.take_succ_cons, List.take_zero, List.drop_succ_cons, List.drop_zero]
          repeat (first | (apply Ph.wpG_op rfl; (focus (intro w1 hS; have d0 := kcell (kblk hS k0); have d1 := kcell (kblk hS k1); have dr0 := kcell (kblk hS kr0); go_simp; first | exact rfl | exact ⟨rfl, Below.refl _ _⟩))); simp only [List.tail_cons, List.tail_nil, Act.put, List.setIfInBounds_toArray, List.set_cons_zero, List.set_cons_succ])
          refine Ph.wpG_nil ?_
          refine Ph.wpAl_nil ?_; intro v3 hS hgs hne
          clear hgs hne
          replace HB := below_call (by first | exact HB | (repeat (first | assumption | exact Below.refl _ _ | (refine below_call ?_ (by assumption)) | apply below_alloc | apply below_drew | apply below_drewN | (refine below_set ?_ (by first | (simp; done) | (simp; omega) | omega) _)))) hS; replace k0 : hp _ w.heap.size = some (.cells #[.int .i64 a, .int .i64 b] 29 (0, 0)) := kblk hS (by first | exact k0 | (simp [hp_alloc, hp_set, hp_drew, hp_drewN, cset_cells, k0, k1, kr0]; done)); replace k1 : hp _ (w.heap.size + 1) = some (.cells #[.int .i64 c, .int .i64 d] 29 (0, 0)) := kblk hS (by first | exact k1 | (simp [hp_alloc, hp_set, hp_drew, hp_drewN, cset_cells, k0, k1, kr0]; done)); replace kr0 : hp _ (w.heap.size + 1 + 1) = some (.cells #[.int .i64 0, .int .i64 0] 29 (0, 0)) := kblk hS (by first | exact kr0 | (simp [hp_alloc, hp_set, hp_drew, hp_drewN, cset_cells, k0, k1, kr0]; done)); replace c0 := kcell k0; replace f0 := kfree k0; replace c1 := kcell k1; replace f1 := kfree k1; replace cr0 := kcell kr0; replace fr0 := kfree kr0
          go_wp2_with (first | (go_at_call 14; refine (rof _ _ _).mono ?_; rintro e w1 ⟨rfl, hb⟩; replace HB := below_call (by first | exact HB | (repeat (first | assumption | exact Below.refl _ _ | (refine below_call ?_ (by assumption)) | apply below_alloc | apply below_drew | apply below_drewN | (refine below_set ?_ (by first | (simp; done) | (simp; omega) | omega) _)))) hb; replace k0 : hp _ w.heap.size = some (.cells #[.int .i64 a, .int .i64 b] 29 (0, 0)) := kblk hb (by first | exact k0 | (simp [hp_alloc, hp_set, hp_drew, hp_drewN, cset_cells, k0, k1, kr0]; done)); replace k1 : hp _ (w.heap.size + 1) = some (.cells #[.int .i64 c, .int .i64 d] 29 (0, 0)) := kblk hb (by first | exact k1 | (simp [hp_alloc, hp_set, hp_drew, hp_drewN, cset_cells, k0, k1, kr0]; done)); replace kr0 : hp _ (w.heap.size + 1 + 1) = some (.cells #[.int .i64 0, .int .i64 0] 29 (0, 0)) := kblk hb (by first | exact kr0 | (simp [hp_alloc, hp_set, hp_drew, hp_drewN, cset_cells, k0, k1, kr0]; done)); replace c0 := kcell k0; replace f0 := kfree k0; replace c1 := kcell k1; replace f1 := kfree k1; replace cr0 := kcell kr0; replace fr0 := kfree kr0))
          all_goals try go_wp2
          all_goals refine bodyPost_ret (v := .agg #[.int .i64 (hullS a b c d).1, .int .i64 (hullS a b c d).2]) (by simp [results, Try.results43, go_sem, hullS_l, hullS_r, *]) rfl ⟨?_, by (repeat (first | assumption | exact Below.refl _ _ | (refine below_call ?_ (by assumption)) | apply below_alloc | apply below_drew | apply below_drewN | (refine below_set ?_ (by first | (simp; done) | (simp; omega) | omega) _)))⟩
          all_goals (first | rfl | (simp [hullS_l, hullS_r, *]; done))
      · have g2 : a ≤ c := by omega
        by_cases h3 : b < d
        · have g3 : ¬ d ≤ b := by omega
          have eq : hullS a b c d = ofS a d := hullS_eq h0 h1 (by omega) (by omega)
          go_enter Try.func43, Try.ntmps43
          go_upto_region 1 with fail
          refine Ph.at_world ?_; intro W1 hW
          have q0 : hp W1 w.heap.size = some (.cells #[.int .i64 a, .int .i64 b] 29 (0, 0)) := by rw [hW]; simp [hp_alloc, hp_set, hp_drew, hp_drewN, cset_cells]
          have q1 : hp W1 (w.heap.size + 1) = some (.cells #[.int .i64 c, .int .i64 d] 29 (0, 0)) := by rw [hW]; simp [hp_alloc, hp_set, hp_drew, hp_drewN, cset_cells]
          have qr0 : hp W1 (w.heap.size + 1 + 1) = some (.cells #[.int .i64 0, .int .i64 0] 29 (0, 0)) := by rw [hW]; simp [hp_alloc, hp_set, hp_drew, hp_drewN, cset_cells]
          have HB : Below w.heap.size w W1 := by rw [hW]; (repeat (first | assumption | exact Below.refl _ _ | (refine below_call ?_ (by assumption)) | apply below_alloc | apply below_drew | apply below_drewN | (refine below_set ?_ (by first | (simp; done) | (simp; omega) | omega) _)))
          clear hW
          have k0 := q0; clear q0; have c0 := kcell k0; have f0 := kfree k0
          have k1 := q1; clear q1; have c1 := kcell k1; have f1 := kfree k1
          have kr0 := qr0; clear qr0; have cr0 := kcell kr0; have fr0 := kfree kr0
          go_wp2_with fail
          go_at_call 16; refine Ph.at_callw ?_; intro W2 hW
          have q0 : hp W2 w.heap.size = some (.cells #[.int .i64 a, .int .i64 b] 29 (0, 0)) := by rw [hW]; simp [hp_alloc, hp_set, hp_drew, hp_drewN, cset_cells, k0, k1, kr0]
          have q1 : hp W2 (w.heap.size + 1) = some (.cells #[.int .i64 c, .int .i64 d] 29 (0, 0)) := by rw [hW]; simp [hp_alloc, hp_set, hp_drew, hp_drewN, cset_cells, k0, k1, kr0]
          have qr0 : hp W2 (w.heap.size + 1 + 1) = some (.cells #[.int .i64 0, .int .i64 0] 29 (0, 0)) := by rw [hW]; simp [hp_alloc, hp_set, hp_drew, hp_drewN, cset_cells, k0, k1, kr0]
          have HB' : Below w.heap.size w W2 := by rw [hW]; (repeat (first | assumption | exact Below.refl _ _ | (refine below_call ?_ (by assumption)) | apply below_alloc | apply below_drew | apply below_drewN | (refine below_set ?_ (by first | (simp; done) | (simp; omega) | omega) _)))
          replace HB := HB'; clear HB'
          clear hW
          clear k0 c0 f0
          clear k1 c1 f1
          clear kr0 cr0 fr0
          have k0 := q0; clear q0; have c0 := kcell k0; have f0 := kfree k0
          have k1 := q1; clear q1; have c1 := kcell k1; have f1 := kfree k1
          have kr0 := qr0; clear qr0; have cr0 := kcell kr0; have fr0 := kfree kr0
          refine (rempty _ _ _).mono ?_; rintro e v1 ⟨rfl, hb⟩; replace HB := below_call (by first | exact HB | (repeat (first | assumption | exact Below.refl _ _ | (refine below_call ?_ (by assumption)) | apply below_alloc | apply below_drew | apply below_drewN | (refine below_set ?_ (by first | (simp; done) | (simp; omega) | omega) _)))) hb; replace k0 : hp _ w.heap.size = some (.cells #[.int .i64 a, .int .i64 b] 29 (0, 0)) := kblk hb (by first | exact k0 | (simp [hp_alloc, hp_set, hp_drew, hp_drewN, cset_cells, k0, k1, kr0]; done)); replace k1 : hp _ (w.heap.size + 1) = some (.cells #[.int .i64 c, .int .i64 d] 29 (0, 0)) := kblk hb (by first | exact k1 | (simp [hp_alloc, hp_set, hp_drew, hp_drewN, cset_cells, k0, k1, kr0]; done)); replace kr0 : hp _ (w.heap.size + 1 + 1) = some (.cells #[.int .i64 0, .int .i64 0] 29 (0, 0)) := kblk hb (by first | exact kr0 | (simp [hp_alloc, hp_set, hp_drew, hp_drewN, cset_cells, k0, k1, kr0]; done)); replace c0 := kcell k0; replace f0 := kfree k0; replace c1 := kcell k1; replace f1 := kfree k1; replace cr0 := kcell kr0; replace fr0 := kfree kr0
          go_wp2_with fail
          go_at_call 16; refine Ph.at_callw ?_; intro W3 hW
          have q0 : hp W3 w.heap.size = some (.cells #[.int .i64 a, .int .i64 b] 29 (0, 0)) := by rw [hW]; simp [hp_alloc, hp_set, hp_drew, hp_drewN, cset_cells, k0, k1, kr0]
          have q1 : hp W3 (w.heap.size + 1) = some (.cells #[.int .i64 c, .int .i64 d] 29 (0, 0)) := by rw [hW]; simp [hp_alloc, hp_set, hp_drew, hp_drewN, cset_cells, k0, k1, kr0]
          have qr0 : hp W3 (w.heap.size + 1 + 1) = some (.cells #[.int .i64 0, .int .i64 0] 29 (0, 0)) := by rw [hW]; simp [hp_alloc, hp_set, hp_drew, hp_drewN, cset_cells, k0, k1, kr0]
          have HB' : Below w.heap.size w W3 := by rw [hW]; (repeat (first | assumption | exact Below.refl _ _ | (refine below_call ?_ (by assumption)) | apply below_alloc | apply below_drew | apply below_drewN | (refine below_set ?_ (by first | (simp; done) | (simp; omega) | omega) _)))
          replace HB := HB'; clear HB'
          clear hW
          clear k0 c0 f0
          clear k1 c1 f1
          clear kr0 cr0 fr0
          have k0 := q0; clear q0; have c0 := kcell k0; have f0 := kfree k0
          have k1 := q1; clear q1; have c1 := kcell k1; have f1 := kfree k1
          have kr0 := qr0; clear qr0; have cr0 := kcell kr0; have fr0 := kfree kr0
          refine (rempty _ _ _).mono ?_; rintro e v2 ⟨rfl, hb⟩; replace HB := below_call (by first | exact HB | (repeat (first | assumption | exact Below.refl _ _ | (refine below_call ?_ (by assumption)) | apply below_alloc | apply below_drew | apply below_drewN | (refine below_set ?_ (by first | (simp; done) | (simp; omega) | omega) _)))) hb; replace k0 : hp _ w.heap.size = some (.cells #[.int .i64 a, .int .i64 b] 29 (0, 0)) := kblk hb (by first | exact k0 | (simp [hp_alloc, hp_set, hp_drew, hp_drewN, cset_cells, k0, k1, kr0]; done)); replace k1 : hp _ (w.heap.size + 1) = some (.cells #[.int .i64 c, .int .i64 d] 29 (0, 0)) := kblk hb (by first | exact k1 | (simp [hp_alloc, hp_set, hp_drew, hp_drewN, cset_cells, k0, k1, kr0]; done)); replace kr0 : hp _ (w.heap.size + 1 + 1) = some (.cells #[.int .i64 0, .int .i64 0] 29 (0, 0)) := kblk hb (by first | exact kr0 | (simp [hp_alloc, hp_set, hp_drew, hp_drewN, cset_cells, k0, k1, kr0]; done)); replace c0 := kcell k0; replace f0 := kfree k0; replace c1 := kcell k1; replace f1 := kfree k1; replace cr0 := kcell kr0; replace fr0 := kfree kr0
          go_wp2_with fail
          refine Ph.wp_region_gr 6 6 [] (by kernel_rfl) (by kernel_rfl) (fun _ d _ _ _ h => by cases d <;> exact h) ?_
          simp only [List.take_succ_cons, List.take_zero, List.drop_succ_cons, List.drop_zero]
          repeat (first | (apply Ph.wpG_op rfl; (focus (intro w1 hS; have d0 := kcell (kblk hS k0); have d1 := kcell (kblk hS k1); have dr0 := kcell (kblk hS kr0); go_simp; first | exact rfl | exact ⟨rfl, Below.refl _ _⟩))); simp only [List.tail_cons, List.tail_nil, Act.put, List.setIfInBounds_toArray, List.set_cons_zero, List.set_cons_succ])
          refine Ph.wpG_nil ?_
          refine Ph.wpAl_nil ?_; intro v3 hS hgs hne
          clear hgs hne
          replace HB := below_call (by first | exact HB | (repeat (first | assumption | exact Below.refl _ _ | (refine below_call ?_ (by assumption)) | apply below_alloc | apply below_drew | apply below_drewN | (refine below_set ?_ (by first | (simp; done) | (simp; omega) | omega) _)))) hS; replace k0 : hp _ w.heap.size = some (.cells #[.int .i64 a, .int .i64 b] 29 (0, 0)) := kblk hS (by first | exact k0 | (simp [hp_alloc, hp_set, hp_drew, hp_drewN, cset_cells, k0, k1, kr0]; done)); replace k1 : hp _ (w.heap.size + 1) = some (.cells #[.int .i64 c, .int .i64 d] 29 (0, 0)) := kblk hS (by first | exact k1 | (simp [hp_alloc, hp_set, hp_drew, hp_drewN, cset_cells, k0, k1, kr0]; done)); replace kr0 : hp _ (w.heap.size + 1 + 1) = some (.cells #[.int .i64 0, .int .i64 0] 29 (0, 0)) := kblk hS (by first | exact kr0 | (simp [hp_alloc, hp_set, hp_drew, hp_drewN, cset_cells, k0, k1, kr0]; done)); replace c0 := kcell k0; replace f0 := kfree k0; replace c1 := kcell k1; replace f1 := kfree k1; replace cr0 := kcell kr0; replace fr0 := kfree kr0
          go_wp2_with (first | (go_at_call 14; refine (rof _ _ _).mono ?_; rintro e w1 ⟨rfl, hb⟩; replace HB := below_call (by first | exact HB | (repeat (first | assumption | exact Below.refl _ _ | (refine below_call ?_ (by assumption)) | apply below_alloc | apply below_drew | apply below_drewN | (refine below_set ?_ (by first | (simp; done) | (simp; omega) | omega) _)))) hb; replace k0 : hp _ w.heap.size = some (.cells #[.int .i64 a, .int .i64 b] 29 (0, 0)) := kblk hb (by first | exact k0 | (simp [hp_alloc, hp_set, hp_drew, hp_drewN, cset_cells, k0, k1, kr0]; done)); replace k1 : hp _ (w.heap.size + 1) = some (.cells #[.int .i64 c, .int .i64 d] 29 (0, 0)) := kblk hb (by first | exact k1 | (simp [hp_alloc, hp_set, hp_drew, hp_drewN, cset_cells, k0, k1, kr0]; done)); replace kr0 : hp _ (w.heap.size + 1 + 1) = some (.cells #[.int .i64 0, .int .i64 0] 29 (0, 0)) := kblk hb (by first | exact kr0 | (simp [hp_alloc, hp_set, hp_drew, hp_drewN, cset_cells, k0, k1, kr0]; done)); replace c0 := kcell k0; replace f0 := kfree k0; replace c1 := kcell k1; replace f1 := kfree k1; replace cr0 := kcell kr0; replace fr0 := kfree kr0))
          all_goals try go_wp2
          all_goals refine bodyPost_ret (v := .agg #[.int .i64 (hullS a b c d).1, .int .i64 (hullS a b c d).2]) (by simp [results, Try.results43, go_sem, hullS_l, hullS_r, *]) rfl ⟨?_, by (repeat (first | assumption | exact Below.refl _ _ | (refine below_call ?_ (by assumption)) | apply below_alloc | apply below_drew | apply below_drewN | (refine below_set ?_ (by first | (simp; done) | (simp; omega) | omega) _)))⟩
          all_goals (first | rfl | (simp [hullS_l, hullS_r, *]; done))
        · have g3 : d ≤ b := by omega
          have eq : hullS a b c d = ofS a b := hullS_eq h0 h1 (by omega) (by omega)
          go_enter Try.func43, Try.ntmps43
          go_upto_region 1 with fail
          refine Ph.at_world ?_; intro W1 hW
          have q0 : hp W1 w.heap.size = some (.cells #[.int .i64 a, .int .i64 b] 29 (0, 0)) := by rw [hW]; simp [hp_alloc, hp_set, hp_drew, hp_drewN, cset_cells]
          have q1 : hp W1 (w.heap.size + 1) = some (.cells #[.int .i64 c, .int .i64 d] 29 (0, 0)) := by rw [hW]; simp [hp_alloc, hp_set, hp_drew, hp_drewN, cset_cells]
          have qr0 : hp W1 (w.heap.size + 1 + 1) = some (.cells #[.int .i64 0, .int .i64 0] 29 (0, 0)) := by rw [hW]; simp [hp_alloc, hp_set, hp_drew, hp_drewN, cset_cells]
          have HB : Below w.heap.size w W1 := by rw [hW]; (repeat (first | assumption | exact Below.refl _ _ | (refine below_call ?_ (by assumption)) | apply below_alloc | apply below_drew | apply below_drewN | (refine below_set ?_ (by first | (simp; done) | (simp; omega) | omega) _)))
          clear hW
          have k0 := q0; clear q0; have c0 := kcell k0; have f0 := kfree k0
          have k1 := q1; clear q1; have c1 := kcell k1; have f1 := kfree k1
          have kr0 := qr0; clear qr0; have cr0 := kcell kr0; have fr0 := kfree kr0
          go_wp2_with fail
          go_at_call 16; refine Ph.at_callw ?_; intro W2 hW
          have q0 : hp W2 w.heap.size = some (.cells #[.int .i64 a, .int .i64 b] 29 (0, 0)) := by rw [hW]; simp [hp_alloc, hp_set, hp_drew, hp_drewN, cset_cells, k0, k1, kr0]
          have q1 : hp W2 (w.heap.size + 1) = some (.cells #[.int .i64 c, .int .i64 d] 29 (0, 0)) := by rw [hW]; simp [hp_alloc, hp_set, hp_drew, hp_drewN, cset_cells, k0, k1, kr0]
          have qr0 : hp W2 (w.heap.size + 1 + 1) = some (.cells #[.int .i64 0, .int .i64 0] 29 (0, 0)) := by rw [hW]; simp [hp_alloc, hp_set, hp_drew, hp_drewN, cset_cells, k0, k1, kr0]
          have HB' : Below w.heap.size w W2 := by rw [hW]; (repeat (first | assumption | exact Below.refl _ _ | (refine below_call ?_ (by assumption)) | apply below_alloc | apply below_drew | apply below_drewN | (refine below_set ?_ (by first | (simp; done) | (simp; omega) | omega) _)))
          replace HB := HB'; clear HB'
          clear hW
          clear k0 c0 f0
          clear k1 c1 f1
          clear kr0 cr0 fr0
          have k0 := q0; clear q0; have c0 := kcell k0; have f0 := kfree k0
          have k1 := q1; clear q1; have c1 := kcell k1; have f1 := kfree k1
          have kr0 := qr0; clear qr0; have cr0 := kcell kr0; have fr0 := kfree kr0
          refine (rempty _ _ _).mono ?_; rintro e v1 ⟨rfl, hb⟩; replace HB := below_call (by first | exact HB | (repeat (first | assumption | exact Below.refl _ _ | (refine below_call ?_ (by assumption)) | apply below_alloc | apply below_drew | apply below_drewN | (refine below_set ?_ (by first | (simp; done) | (simp; omega) | omega) _)))) hb; replace k0 : hp _ w.heap.size = some (.cells #[.int .i64 a, .int .i64 b] 29 (0, 0)) := kblk hb (by first | exact k0 | (simp [hp_alloc, hp_set, hp_drew, hp_drewN, cset_cells, k0, k1, kr0]; done)); replace k1 : hp _ (w.heap.size + 1) = some (.cells #[.int .i64 c, .int .i64 d] 29 (0, 0)) := kblk hb (by first | exact k1 | (simp [hp_alloc, hp_set, hp_drew, hp_drewN, cset_cells, k0, k1, kr0]; done)); replace kr0 : hp _ (w.heap.size + 1 + 1) = some (.cells #[.int .i64 0, .int .i64 0] 29 (0, 0)) := kblk hb (by first | exact kr0 | (simp [hp_alloc, hp_set, hp_drew, hp_drewN, cset_cells, k0, k1, kr0]; done)); replace c0 := kcell k0; replace f0 := kfree k0; replace c1 := kcell k1; replace f1 := kfree k1; replace cr0 := kcell kr0; replace fr0 := kfree kr0
          go_wp2_with fail
          go_at_call 16; refine Ph.at_callw ?_; intro W3 hW
          have q0 : hp W3 w.heap.size = some (.cells #[.int .i64 a, .int .i64 b] 29 (0, 0)) := by rw [hW]; simp [hp_alloc, hp_set, hp_drew, hp_drewN, cset_cells, k0, k1, kr0]
          have q1 : hp W3 (w.heap.size + 1) = some (.cells #[.int .i64 c, .int .i64 d] 29 (0, 0)) := by rw [hW]; simp [hp_alloc, hp_set, hp_drew, hp_drewN, cset_cells, k0, k1, kr0]
          have qr0 : hp W3 (w.heap.size + 1 + 1) = some (.cells #[.int .i64 0, .int .i64 0] 29 (0, 0)) := by rw [hW]; simp [hp_alloc, hp_set, hp_drew, hp_drewN, cset_cells, k0, k1, kr0]
          have HB' : Below w.heap.size w W3 := by rw [hW]; (repeat (first | assumption | exact Below.refl _ _ | (refine below_call ?_ (by assumption)) | apply below_alloc | apply below_drew | apply below_drewN | (refine below_set ?_ (by first | (simp; done) | (simp; omega) | omega) _)))
          replace HB := HB'; clear HB'
          clear hW
          clear k0 c0 f0
          clear k1 c1 f1
          clear kr0 cr0 fr0
          have k0 := q0; clear q0; have c0 := kcell k0; have f0 := kfree k0
          have k1 := q1; clear q1; have c1 := kcell k1; have f1 := kfree k1
          have kr0 := qr0; clear qr0; have cr0 := kcell kr0; have fr0 := kfree kr0
          refine (rempty _ _ _).mono ?_; rintro e v2 ⟨rfl, hb⟩; replace HB := below_call (by first | exact HB | (repeat (first | assumption | exact Below.refl _ _ | (refine below_call ?_ (by assumption)) | apply below_alloc | apply below_drew | apply below_drewN | (refine below_set ?_ (by first | (simp; done) | (simp; omega) | omega) _)))) hb; replace k0 : hp _ w.heap.size = some (.cells #[.int .i64 a, .int .i64 b] 29 (0, 0)) := kblk hb (by first | exact k0 | (simp [hp_alloc, hp_set, hp_drew, hp_drewN, cset_cells, k0, k1, kr0]; done)); replace k1 : hp _ (w.heap.size + 1) = some (.cells #[.int .i64 c, .int .i64 d] 29 (0, 0)) := kblk hb (by first | exact k1 | (simp [hp_alloc, hp_set, hp_drew, hp_drewN, cset_cells, k0, k1, kr0]; done)); replace kr0 : hp _ (w.heap.size + 1 + 1) = some (.cells #[.int .i64 0, .int .i64 0] 29 (0, 0)) := kblk hb (by first | exact kr0 | (simp [hp_alloc, hp_set, hp_drew, hp_drewN, cset_cells, k0, k1, kr0]; done)); replace c0 := kcell k0; replace f0 := kfree k0; replace c1 := kcell k1; replace f1 := kfree k1; replace cr0 := kcell kr0; replace fr0 := kfree kr0
          go_wp2_with fail
          refine Ph.wp_region_gr 6 6 [] (by kernel_rfl) (by kernel_rfl) (fun _ d _ _ _ h => by cases d <;> exact h) ?_
          simp only [List.take_succ_cons, List.take_zero, List.drop_succ_cons, List.drop_zero]
          repeat (first | (apply Ph.wpG_op rfl; (focus (intro w1 hS; have d0 := kcell (kblk hS k0); have d1 := kcell (kblk hS k1); have dr0 := kcell (kblk hS kr0); go_simp; first | exact rfl | exact ⟨rfl, Below.refl _ _⟩))); simp only [List.tail_cons, List.tail_nil, Act.put, List.setIfInBounds_toArray, List.set_cons_zero, List.set_cons_succ])
          refine Ph.wpG_nil ?_
          refine Ph.wpAl_nil ?_; intro v3 hS hgs hne
          clear hgs hne
          replace HB := below_call (by first | exact HB | (repeat (first | assumption | exact Below.refl _ _ | (refine below_call ?_ (by assumption)) | apply below_alloc | apply below_drew | apply below_drewN | (refine below_set ?_ (by first | (simp; done) | (simp; omega) | omega) _)))) hS; replace k0 : hp _ w.heap.size = some (.cells #[.int .i64 a, .int .i64 b] 29 (0, 0)) := kblk hS (by first | exact k0 | (simp [hp_alloc, hp_set, hp_drew, hp_drewN, cset_cells, k0, k1, kr0]; done)); replace k1 : hp _ (w.heap.size + 1) = some (.cells #[.int .i64 c, .int .i64 d] 29 (0, 0)) := kblk hS (by first | exact k1 | (simp [hp_alloc, hp_set, hp_drew, hp_drewN, cset_cells, k0, k1, kr0]; done)); replace kr0 : hp _ (w.heap.size + 1 + 1) = some (.cells #[.int .i64 0, .int .i64 0] 29 (0, 0)) := kblk hS (by first | exact kr0 | (simp [hp_alloc, hp_set, hp_drew, hp_drewN, cset_cells, k0, k1, kr0]; done)); replace c0 := kcell k0; replace f0 := kfree k0; replace c1 := kcell k1; replace f1 := kfree k1; replace cr0 := kcell kr0; replace fr0 := kfree kr0
          go_wp2_with (first | (go_at_call 14; refine (rof _ _ _).mono ?_; rintro e w1 ⟨rfl, hb⟩; replace HB := below_call (by first | exact HB | (repeat (first | assumption | exact Below.refl _ _ | (refine below_call ?_ (by assumption)) | apply below_alloc | apply below_drew | apply below_drewN | (refine below_set ?_ (by first | (simp; done) | (simp; omega) | omega) _)))) hb; replace k0 : hp _ w.heap.size = some (.cells #[.int .i64 a, .int .i64 b] 29 (0, 0)) := kblk hb (by first | exact k0 | (simp [hp_alloc, hp_set, hp_drew, hp_drewN, cset_cells, k0, k1, kr0]; done)); replace k1 : hp _ (w.heap.size + 1) = some (.cells #[.int .i64 c, .int .i64 d] 29 (0, 0)) := kblk hb (by first | exact k1 | (simp [hp_alloc, hp_set, hp_drew, hp_drewN, cset_cells, k0, k1, kr0]; done)); replace kr0 : hp _ (w.heap.size + 1 + 1) = some (.cells #[.int .i64 0, .int .i64 0] 29 (0, 0)) := kblk hb (by first | exact kr0 | (simp [hp_alloc, hp_set, hp_drew, hp_drewN, cset_cells, k0, k1, kr0]; done)); replace c0 := kcell k0; replace f0 := kfree k0; replace c1 := kcell k1; replace f1 := kfree k1; replace cr0 := kcell kr0; replace fr0 := kfree kr0))
          all_goals try go_wp2
          all_goals refine bodyPost_ret (v := .agg #[.int .i64 (hullS a b c d).1, .int .i64 (hullS a b c d).2]) (by simp [results, Try.results43, go_sem, hullS_l, hullS_r, *]) rfl ⟨?_, by (repeat (first | assumption | exact Below.refl _ _ | (refine below_call ?_ (by assumption)) | apply below_alloc | apply below_drew | apply below_drewN | (refine below_set ?_ (by first | (simp; done) | (simp; omega) | omega) _)))⟩
          all_goals (first | rfl | (simp [hullS_l, hullS_r, *]; done))
    · skip
      go_enter Try.func43, Try.ntmps43
      go_upto_region 1 with fail
      refine Ph.at_world ?_; intro W1 hW
      have q0 : hp W1 w.heap.size = some (.cells #[.int .i64 a, .int .i64 b] 29 (0, 0)) := by rw [hW]; simp [hp_alloc, hp_set, hp_drew, hp_drewN, cset_cells]
      have q1 : hp W1 (w.heap.size + 1) = some (.cells #[.int .i64 c, .int .i64 d] 29 (0, 0)) := by rw [hW]; simp [hp_alloc, hp_set, hp_drew, hp_drewN, cset_cells]
      have qr0 : hp W1 (w.heap.size + 1 + 1) = some (.cells #[.int .i64 0, .int .i64 0] 29 (0, 0)) := by rw [hW]; simp [hp_alloc, hp_set, hp_drew, hp_drewN, cset_cells]
      have HB : Below w.heap.size w W1 := by rw [hW]; (repeat (first | assumption | exact Below.refl _ _ | (refine below_call ?_ (by assumption)) | apply below_alloc | apply below_drew | apply below_drewN | (refine below_set ?_ (by first | (simp; done) | (simp; omega) | omega) _)))
      clear hW
      have k0 := q0; clear q0; have c0 := kcell k0; have f0 := kfree k0
      have k1 := q1; clear q1; have c1 := kcell k1; have f1 := kfree k1
      have kr0 := qr0; clear qr0; have cr0 := kcell kr0; have fr0 := kfree kr0
      go_wp2_with fail
      go_at_call 16; refine Ph.at_callw ?_; intro W2 hW
      have q0 : hp W2 w.heap.size = some (.cells #[.int .i64 a, .int .i64 b] 29 (0, 0)) := by rw [hW]; simp [hp_alloc, hp_set, hp_drew, hp_drewN, cset_cells, k0, k1, kr0]
      have q1 : hp W2 (w.heap.size + 1) = some (.cells #[.int .i64 c, .int .i64 d] 29 (0, 0)) := by rw [hW]; simp [hp_alloc, hp_set, hp_drew, hp_drewN, cset_cells, k0, k1, kr0]
      have qr0 : hp W2 (w.heap.size + 1 + 1) = some (.cells #[.int .i64 0, .int .i64 0] 29 (0, 0)) := by rw [hW]; simp [hp_alloc, hp_set, hp_drew, hp_drewN, cset_cells, k0, k1, kr0]
      have HB' : Below w.heap.size w W2 := by rw [hW]; (repeat (first | assumption | exact Below.refl _ _ | (refine below_call ?_ (by assumption)) | apply below_alloc | apply below_drew | apply below_drewN | (refine below_set ?_ (by first | (simp; done) | (simp; omega) | omega) _)))
      replace HB := HB'; clear HB'
      clear hW
      clear k0 c0 f0
      clear k1 c1 f1
      clear kr0 cr0 fr0
      have k0 := q0; clear q0; have c0 := kcell k0; have f0 := kfree k0
      have k1 := q1; clear q1; have c1 := kcell k1; have f1 := kfree k1
      have kr0 := qr0; clear qr0; have cr0 := kcell kr0; have fr0 := kfree kr0
      refine (rempty _ _ _).mono ?_; rintro e v1 ⟨rfl, hb⟩; replace HB := below_call (by first | exact HB | (repeat (first | assumption | exact Below.refl _ _ | (refine below_call ?_ (by assumption)) | apply below_alloc | apply below_drew | apply below_drewN | (refine below_set ?_ (by first | (simp; done) | (simp; omega) | omega) _)))) hb; replace k0 : hp _ w.heap.size = some (.cells #[.int .i64 a, .int .i64 b] 29 (0, 0)) := kblk hb (by first | exact k0 | (simp [hp_alloc, hp_set, hp_drew, hp_drewN, cset_cells, k0, k1, kr0]; done)); replace k1 : hp _ (w.heap.size + 1) = some (.cells #[.int .i64 c, .int .i64 d] 29 (0, 0)) := kblk hb (by first | exact k1 | (simp [hp_alloc, hp_set, hp_drew, hp_drewN, cset_cells, k0, k1, kr0]; done)); replace kr0 : hp _ (w.heap.size + 1 + 1) = some (.cells #[.int .i64 0, .int .i64 0] 29 (0, 0)) := kblk hb (by first | exact kr0 | (simp [hp_alloc, hp_set, hp_drew, hp_drewN, cset_cells, k0, k1, kr0]; done)); replace c0 := kcell k0; replace f0 := kfree k0; replace c1 := kcell k1; replace f1 := kfree k1; replace cr0 := kcell kr0; replace fr0 := kfree kr0
      go_wp2_with fail
      go_at_call 16; refine Ph.at_callw ?_; intro W3 hW
      have q0 : hp W3 w.heap.size = some (.cells #[.int .i64 a, .int .i64 b] 29 (0, 0)) := by rw [hW]; simp [hp_alloc, hp_set, hp_drew, hp_drewN, cset_cells, k0, k1, kr0]
      have q1 : hp W3 (w.heap.size + 1) = some (.cells #[.int .i64 c, .int .i64 d] 29 (0, 0)) := by rw [hW]; simp [hp_alloc, hp_set, hp_drew, hp_drewN, cset_cells, k0, k1, kr0]
      have qr0 : hp W3 (w.heap.size + 1 + 1) = some (.cells #[.int .i64 0, .int .i64 0] 29 (0, 0)) := by rw [hW]; simp [hp_alloc, hp_set, hp_drew, hp_drewN, cset_cells, k0, k1, kr0]
      have HB' : Below w.heap.size w W3 := by rw [hW]; (repeat (first | assumption | exact Below.refl _ _ | (refine below_call ?_ (by assumption)) | apply below_alloc | apply below_drew | apply below_drewN | (refine below_set ?_ (by first | (simp; done) | (simp; omega) | omega) _)))
      replace HB := HB'; clear HB'
      clear hW
      clear k0 c0 f0
      clear k1 c1 f1
      clear kr0 cr0 fr0
      have k0 := q0; clear q0; have c0 := kcell k0; have f0 := kfree k0
      have k1 := q1; clear q1; have c1 := kcell k1; have f1 := kfree k1
      have kr0 := qr0; clear qr0; have cr0 := kcell kr0; have fr0 := kfree kr0
      refine (rempty _ _ _).mono ?_; rintro e v2 ⟨rfl, hb⟩; replace HB := below_call (by first | exact HB | (repeat (first | assumption | exact Below.refl _ _ | (refine below_call ?_ (by assumption)) | apply below_alloc | apply below_drew | apply below_drewN | (refine below_set ?_ (by first | (simp; done) | (simp; omega) | omega) _)))) hb; replace k0 : hp _ w.heap.size = some (.cells #[.int .i64 a, .int .i64 b] 29 (0, 0)) := kblk hb (by first | exact k0 | (simp [hp_alloc, hp_set, hp_drew, hp_drewN, cset_cells, k0, k1, kr0]; done)); replace k1 : hp _ (w.heap.size + 1) = some (.cells #[.int .i64 c, .int .i64 d] 29 (0, 0)) := kblk hb (by first | exact k1 | (simp [hp_alloc, hp_set, hp_drew, hp_drewN, cset_cells, k0, k1, kr0]; done)); replace kr0 : hp _ (w.heap.size + 1 + 1) = some (.cells #[.int .i64 0, .int .i64 0] 29 (0, 0)) := kblk hb (by first | exact kr0 | (simp [hp_alloc, hp_set, hp_drew, hp_drewN, cset_cells, k0, k1, kr0]; done)); replace c0 := kcell k0; replace f0 := kfree k0; replace c1 := kcell k1; replace f1 := kfree k1; replace cr0 := kcell kr0; replace fr0 := kfree kr0
      go_wp2_with (first | (go_at_call 14; refine (rof _ _ _).mono ?_; rintro e w1 ⟨rfl, hb⟩; replace HB := below_call (by first | exact HB | (repeat (first | assumption | exact Below.refl _ _ | (refine below_call ?_ (by assumption)) | apply below_alloc | apply below_drew | apply below_drewN | (refine below_set ?_ (by first | (simp; done) | (simp; omega) | omega) _)))) hb; replace k0 : hp _ w.heap.size = some (.cells #[.int .i64 a, .int .i64 b] 29 (0, 0)) := kblk hb (by first | exact k0 | (simp [hp_alloc, hp_set, hp_drew, hp_drewN, cset_cells, k0, k1, kr0]; done)); replace k1 : hp _ (w.heap.size + 1) = some (.cells #[.int .i64 c, .int .i64 d] 29 (0, 0)) := kblk hb (by first | exact k1 | (simp [hp_alloc, hp_set, hp_drew, hp_drewN, cset_cells, k0, k1, kr0]; done)); replace kr0 : hp _ (w.heap.size + 1 + 1) = some (.cells #[.int .i64 0, .int .i64 0] 29 (0, 0)) := kblk hb (by first | exact kr0 | (simp [hp_alloc, hp_set, hp_drew, hp_drewN, cset_cells, k0, k1, kr0]; done)); replace c0 := kcell k0; replace f0 := kfree k0; replace c1 := kcell k1; replace f1 := kfree k1; replace cr0 := kcell kr0; replace fr0 := kfree kr0))
      all_goals try go_wp2
      all_goals refine bodyPost_ret (v := .agg #[.int .i64 (hullS a b c d).1, .int .i64 (hullS a b c d).2]) (by simp [results, Try.results43, go_sem, hullS_l, hullS_r, *]) rfl ⟨?_, by (repeat (first | assumption | exact Below.refl _ _ | (refine below_call ?_ (by assumption)) | apply below_alloc | apply below_drew | apply below_drewN | (refine below_set ?_ (by first | (simp; done) | (simp; omega) | omega) _)))⟩
      all_goals (first | rfl | (simp [hullS_l, hullS_r, *]; done))
  · skip
    go_enter Try.func43, Try.ntmps43
    go_upto_region 1 with fail
    refine Ph.at_world ?_; intro W1 hW
    have q0 : hp W1 w.heap.size = some (.cells #[.int .i64 a, .int .i64 b] 29 (0, 0)) := by rw [hW]; simp [hp_alloc, hp_set, hp_drew, hp_drewN, cset_cells]
    have q1 : hp W1 (w.heap.size + 1) = some (.cells #[.int .i64 c, .int .i64 d] 29 (0, 0)) := by rw [hW]; simp [hp_alloc, hp_set, hp_drew, hp_drewN, cset_cells]
    have qr0 : hp W1 (w.heap.size + 1 + 1) = some (.cells #[.int .i64 0, .int .i64 0] 29 (0, 0)) := by rw [hW]; simp [hp_alloc, hp_set, hp_drew, hp_drewN, cset_cells]
    have HB : Below w.heap.size w W1 := by rw [hW]; (repeat (first | assumption | exact Below.refl _ _ | (refine below_call ?_ (by assumption)) | apply below_alloc | apply below_drew | apply below_drewN | (refine below_set ?_ (by first | (simp; done) | (simp; omega) | omega) _)))
    clear hW
    have k0 := q0; clear q0; have c0 := kcell k0; have f0 := kfree k0
    have k1 := q1; clear q1; have c1 := kcell k1; have f1 := kfree k1
    have kr0 := qr0; clear qr0; have cr0 := kcell kr0; have fr0 := kfree kr0
    go_wp2_with fail
    go_at_call 16; refine Ph.at_callw ?_; intro W2 hW
    have q0 : hp W2 w.heap.size = some (.cells #[.int .i64 a, .int .i64 b] 29 (0, 0)) := by rw [hW]; simp [hp_alloc, hp_set, hp_drew, hp_drewN, cset_cells, k0, k1, kr0]
    have q1 : hp W2 (w.heap.size + 1) = some (.cells #[.int .i64 c, .int .i64 d] 29 (0, 0)) := by rw [hW]; simp [hp_alloc, hp_set, hp_drew, hp_drewN, cset_cells, k0, k1, kr0]
    have qr0 : hp W2 (w.heap.size + 1 + 1) = some (.cells #[.int .i64 0, .int .i64 0] 29 (0, 0)) := by rw [hW]; simp [hp_alloc, hp_set, hp_drew, hp_drewN, cset_cells, k0, k1, kr0]
    have HB' : Below w.heap.size w W2 := by rw [hW]; (repeat (first | assumption | exact Below.refl _ _ | (refine below_call ?_ (by assumption)) | apply below_alloc | apply below_drew | apply below_drewN | (refine below_set ?_ (by first | (simp; done) | (simp; omega) | omega) _)))
    replace HB := HB'; clear HB'
    clear hW
    clear k0 c0 f0
    clear k1 c1 f1
    clear kr0 cr0 fr0
    have k0 := q0; clear q0; have c0 := kcell k0; have f0 := kfree k0
    have k1 := q1; clear q1; have c1 := kcell k1; have f1 := kfree k1
    have kr0 := qr0; clear qr0; have cr0 := kcell kr0; have fr0 := kfree kr0
    refine (rempty _ _ _).mono ?_; rintro e v1 ⟨rfl, hb⟩; replace HB := below_call (by first | exact HB | (repeat (first | assumption | exact Below.refl _ _ | (refine below_call ?_ (by assumption)) | apply below_alloc | apply below_drew | apply below_drewN | (refine below_set ?_ (by first | (simp; done) | (simp; omega) | omega) _)))) hb; replace k0 : hp _ w.heap.size = some (.cells #[.int .i64 a, .int .i64 b] 29 (0, 0)) := kblk hb (by first | exact k0 | (simp [hp_alloc, hp_set, hp_drew, hp_drewN, cset_cells, k0, k1, kr0]; done)); replace k1 : hp _ (w.heap.size + 1) = some (.cells #[.int .i64 c, .int .i64 d] 29 (0, 0)) := kblk hb (by first | exact k1 | (simp [hp_alloc, hp_set, hp_drew, hp_drewN, cset_cells, k0, k1, kr0]; done)); replace kr0 : hp _ (w.heap.size + 1 + 1) = some (.cells #[.int .i64 0, .int .i64 0] 29 (0, 0)) := kblk hb (by first | exact kr0 | (simp [hp_alloc, hp_set, hp_drew, hp_drewN, cset_cells, k0, k1, kr0]; done)); replace c0 := kcell k0; replace f0 := kfree k0; replace c1 := kcell k1; replace f1 := kfree k1; replace cr0 := kcell kr0; replace fr0 := kfree kr0
    go_wp2_with (first | (go_at_call 14; refine (rof _ _ _).mono ?_; rintro e w1 ⟨rfl, hb⟩; replace HB := below_call (by first | exact HB | (repeat (first | assumption | exact Below.refl _ _ | (refine below_call ?_ (by assumption)) | apply below_alloc | apply below_drew | apply below_drewN | (refine below_set ?_ (by first | (simp; done) | (simp; omega) | omega) _)))) hb; replace k0 : hp _ w.heap.size = some (.cells #[.int .i64 a, .int .i64 b] 29 (0, 0)) := kblk hb (by first | exact k0 | (simp [hp_alloc, hp_set, hp_drew, hp_drewN, cset_cells, k0, k1, kr0]; done)); replace k1 : hp _ (w.heap.size + 1) = some (.cells #[.int .i64 c, .int .i64 d] 29 (0, 0)) := kblk hb (by first | exact k1 | (simp [hp_alloc, hp_set, hp_drew, hp_drewN, cset_cells, k0, k1, kr0]; done)); replace kr0 : hp _ (w.heap.size + 1 + 1) = some (.cells #[.int .i64 0, .int .i64 0] 29 (0, 0)) := kblk hb (by first | exact kr0 | (simp [hp_alloc, hp_set, hp_drew, hp_drewN, cset_cells, k0, k1, kr0]; done)); replace c0 := kcell k0; replace f0 := kfree k0; replace c1 := kcell k1; replace f1 := kfree k1; replace cr0 := kcell kr0; replace fr0 := kfree kr0))
    all_goals try go_wp2
    all_goals refine bodyPost_ret (v := .agg #[.int .i64 (hullS a b c d).1, .int .i64 (hullS a b c d).2]) (by simp [results, Try.results43, go_sem, hullS_l, hullS_r, *]) rfl ⟨?_, by (repeat (first | assumption | exact Below.refl _ _ | (refine below_call ?_ (by assumption)) | apply below_alloc | apply below_drew | apply below_drewN | (refine below_set ?_ (by first | (simp; done) | (simp; omega) | omega) _)))⟩
    all_goals (first | rfl | (simp [hullS_l, hullS_r, *]; done))

def rwithinB (a b c d : Int) : Bool := emptyB a b || (decide ((meetS a b c d).1 = a) && decide ((meetS a b c d).2 = b))

set_option maxHeartbeats 2000000 in
theorem rwithin (a b c d : Int) (w : World) :
    Calls Try.prog 37 #[.agg #[.int .i64 a, .int .i64 b], .agg #[.int .i64 c, .int .i64 d]] w fun e w' => e = .returned (.bool (rwithinB a b c d)) ∧ Below w.heap.size w w' := by
  cases h0 : emptyB a b
  · skip
    go_enter Try.func37, Try.ntmps37
    go_upto_region 1 with fail
    refine Ph.at_world ?_; intro W1 hW
    have q0 : hp W1 w.heap.size = some (.cells #[.int .i64 a, .int .i64 b] 29 (0, 0)) := by rw [hW]; simp [hp_alloc, hp_set, hp_drew, hp_drewN, cset_cells]
    have q1 : hp W1 (w.heap.size + 1) = some (.cells #[.int .i64 c, .int .i64 d] 29 (0, 0)) := by rw [hW]; simp [hp_alloc, hp_set, hp_drew, hp_drewN, cset_cells]
    have HB : Below w.heap.size w W1 := by rw [hW]; (repeat (first | assumption | exact Below.refl _ _ | (refine below_call ?_ (by assumption)) | apply below_alloc | apply below_drew | apply below_drewN | (refine below_set ?_ (by first | (simp; done) | (simp; omega) | omega) _)))
    clear hW
    have k0 := q0; clear q0; have c0 := kcell k0; have f0 := kfree k0
    have k1 := q1; clear q1; have c1 := kcell k1; have f1 := kfree k1
    go_wp2_with fail
    refine Ph.wp_region_gr 10 10 [] (by kernel_rfl) (by kernel_rfl) (fun _ d _ _ _ h => by cases d <;> exact h) ?_
    simp only [List.take_succ_cons, List.take_zero, List.drop_succ_cons, List.drop_zero]
    repeat (first | (apply Ph.wpG_op rfl; (focus (intro w1 hS; have d0 := kcell (kblk hS k0); have d1 := kcell (kblk hS k1); go_simp; first | exact rfl | exact ⟨rfl, Below.refl _ _⟩ | ((with_reducible refine (rempty _ _ _).mono ?_); rintro e w2 ⟨rfl, hb⟩; exact ⟨rfl, hb⟩) | ((with_reducible refine (rmeet _ _ _ _ _).mono ?_); rintro e w2 ⟨rfl, hb⟩; exact ⟨rfl, hb⟩)))); simp only [List.tail_cons, List.tail_nil, Act.put, List.setIfInBounds_toArray, List.set_cons_zero, List.set_cons_succ])
    refine Ph.wpG_nil ?_
    refine Ph.wpAl_nil ?_; intro v1 hS hgs hne
    clear hgs hne
    replace HB := below_call (by first | exact HB | (repeat (first | assumption | exact Below.refl _ _ | (refine below_call ?_ (by assumption)) | apply below_alloc | apply below_drew | apply below_drewN | (refine below_set ?_ (by first | (simp; done) | (simp; omega) | omega) _)))) hS; replace k0 : hp _ w.heap.size = some (.cells #[.int .i64 a, .int .i64 b] 29 (0, 0)) := kblk hS (by first | exact k0 | (simp [hp_alloc, hp_set, hp_drew, hp_drewN, cset_cells, k0, k1]; done)); replace k1 : hp _ (w.heap.size + 1) = some (.cells #[.int .i64 c, .int .i64 d] 29 (0, 0)) := kblk hS (by first | exact k1 | (simp [hp_alloc, hp_set, hp_drew, hp_drewN, cset_cells, k0, k1]; done)); replace c0 := kcell k0; replace f0 := kfree k0; replace c1 := kcell k1; replace f1 := kfree k1
    go_wp2_with (first | (go_at_call 16; refine (rempty _ _ _).mono ?_; rintro e w1 ⟨rfl, hb⟩; replace HB := below_call (by first | exact HB | (repeat (first | assumption | exact Below.refl _ _ | (refine below_call ?_ (by assumption)) | apply below_alloc | apply below_drew | apply below_drewN | (refine below_set ?_ (by first | (simp; done) | (simp; omega) | omega) _)))) hb; replace k0 : hp _ w.heap.size = some (.cells #[.int .i64 a, .int .i64 b] 29 (0, 0)) := kblk hb (by first | exact k0 | (simp [hp_alloc, hp_set, hp_drew, hp_drewN, cset_cells, k0, k1]; done)); replace k1 : hp _ (w.heap.size + 1) = some (.cells #[.int .i64 c, .int .i64 d] 29 (0, 0)) := kblk hb (by first | exact k1 | (simp [hp_alloc, hp_set, hp_drew, hp_drewN, cset_cells, k0, k1]; done)); replace c0 := kcell k0; replace f0 := kfree k0; replace c1 := kcell k1; replace f1 := kfree k1) | (go_at_call 33; refine (rmeet _ _ _ _ _).mono ?_; rintro e w1 ⟨rfl, hb⟩; replace HB := below_call (by first | exact HB | (repeat (first | assumption | exact Below.refl _ _ | (refine below_call ?_ (by assumption)) | apply below_alloc | apply below_drew | apply below_drewN | (refine below_set ?_ (by first | (simp; done) | (simp; omega) | omega) _)))) hb; replace k0 : hp _ w.heap.size = some (.cells #[.int .i64 a, .int .i64 b] 29 (0, 0)) := kblk hb (by first | exact k0 | (simp [hp_alloc, hp_set, hp_drew, hp_drewN, cset_cells, k0, k1]; done)); replace k1 : hp _ (w.heap.size + 1) = some (.cells #[.int .i64 c, .int .i64 d] 29 (0, 0)) := kblk hb (by first | exact k1 | (simp [hp_alloc, hp_set, hp_drew, hp_drewN, cset_cells, k0, k1]; done)); replace c0 := kcell k0; replace f0 := kfree k0; replace c1 := kcell k1; replace f1 := kfree k1))
    all_goals (go_ret; exact ⟨by first | rfl | (simp [rwithinB, *]; done) | (simp [rwithinB]; omega) | (simp [rwithinB, *]; omega), by (repeat (first | assumption | exact Below.refl _ _ | (refine below_call ?_ (by assumption)) | apply below_alloc | apply below_drew | apply below_drewN | (refine below_set ?_ (by first | (simp; done) | (simp; omega) | omega) _)))⟩)
  · skip
    go_enter Try.func37, Try.ntmps37
    go_upto_region 1 with fail
    refine Ph.at_world ?_; intro W1 hW
    have q0 : hp W1 w.heap.size = some (.cells #[.int .i64 a, .int .i64 b] 29 (0, 0)) := by rw [hW]; simp [hp_alloc, hp_set, hp_drew, hp_drewN, cset_cells]
    have q1 : hp W1 (w.heap.size + 1) = some (.cells #[.int .i64 c, .int .i64 d] 29 (0, 0)) := by rw [hW]; simp [hp_alloc, hp_set, hp_drew, hp_drewN, cset_cells]
    have HB : Below w.heap.size w W1 := by rw [hW]; (repeat (first | assumption | exact Below.refl _ _ | (refine below_call ?_ (by assumption)) | apply below_alloc | apply below_drew | apply below_drewN | (refine below_set ?_ (by first | (simp; done) | (simp; omega) | omega) _)))
    clear hW
    have k0 := q0; clear q0; have c0 := kcell k0; have f0 := kfree k0
    have k1 := q1; clear q1; have c1 := kcell k1; have f1 := kfree k1
    go_wp2_with fail
    refine Ph.wp_region_gr 10 10 [] (by kernel_rfl) (by kernel_rfl) (fun _ d _ _ _ h => by cases d <;> exact h) ?_
    simp only [List.take_succ_cons, List.take_zero, List.drop_succ_cons, List.drop_zero]
    repeat (first | (apply Ph.wpG_op rfl; (focus (intro w1 hS; have d0 := kcell (kblk hS k0); have d1 := kcell (kblk hS k1); go_simp; first | exact rfl | exact ⟨rfl, Below.refl _ _⟩ | ((with_reducible refine (rempty _ _ _).mono ?_); rintro e w2 ⟨rfl, hb⟩; exact ⟨rfl, hb⟩) | ((with_reducible refine (rmeet _ _ _ _ _).mono ?_); rintro e w2 ⟨rfl, hb⟩; exact ⟨rfl, hb⟩)))); simp only [List.tail_cons, List.tail_nil, Act.put, List.setIfInBounds_toArray, List.set_cons_zero, List.set_cons_succ])
    refine Ph.wpG_nil ?_
    refine Ph.wpAl_nil ?_; intro v1 hS hgs hne
    clear hgs hne
    replace HB := below_call (by first | exact HB | (repeat (first | assumption | exact Below.refl _ _ | (refine below_call ?_ (by assumption)) | apply below_alloc | apply below_drew | apply below_drewN | (refine below_set ?_ (by first | (simp; done) | (simp; omega) | omega) _)))) hS; replace k0 : hp _ w.heap.size = some (.cells #[.int .i64 a, .int .i64 b] 29 (0, 0)) := kblk hS (by first | exact k0 | (simp [hp_alloc, hp_set, hp_drew, hp_drewN, cset_cells, k0, k1]; done)); replace k1 : hp _ (w.heap.size + 1) = some (.cells #[.int .i64 c, .int .i64 d] 29 (0, 0)) := kblk hS (by first | exact k1 | (simp [hp_alloc, hp_set, hp_drew, hp_drewN, cset_cells, k0, k1]; done)); replace c0 := kcell k0; replace f0 := kfree k0; replace c1 := kcell k1; replace f1 := kfree k1
    go_wp2_with (first | (go_at_call 16; refine (rempty _ _ _).mono ?_; rintro e w1 ⟨rfl, hb⟩; replace HB := below_call (by first | exact HB | (repeat (first | assumption | exact Below.refl _ _ | (refine below_call ?_ (by assumption)) | apply below_alloc | apply below_drew | apply below_drewN | (refine below_set ?_ (by first | (simp; done) | (simp; omega) | omega) _)))) hb; replace k0 : hp _ w.heap.size = some (.cells #[.int .i64 a, .int .i64 b] 29 (0, 0)) := kblk hb (by first | exact k0 | (simp [hp_alloc, hp_set, hp_drew, hp_drewN, cset_cells, k0, k1]; done)); replace k1 : hp _ (w.heap.size + 1) = some (.cells #[.int .i64 c, .int .i64 d] 29 (0, 0)) := kblk hb (by first | exact k1 | (simp [hp_alloc, hp_set, hp_drew, hp_drewN, cset_cells, k0, k1]; done)); replace c0 := kcell k0; replace f0 := kfree k0; replace c1 := kcell k1; replace f1 := kfree k1) | (go_at_call 33; refine (rmeet _ _ _ _ _).mono ?_; rintro e w1 ⟨rfl, hb⟩; replace HB := below_call (by first | exact HB | (repeat (first | assumption | exact Below.refl _ _ | (refine below_call ?_ (by assumption)) | apply below_alloc | apply below_drew | apply below_drewN | (refine below_set ?_ (by first | (simp; done) | (simp; omega) | omega) _)))) hb; replace k0 : hp _ w.heap.size = some (.cells #[.int .i64 a, .int .i64 b] 29 (0, 0)) := kblk hb (by first | exact k0 | (simp [hp_alloc, hp_set, hp_drew, hp_drewN, cset_cells, k0, k1]; done)); replace k1 : hp _ (w.heap.size + 1) = some (.cells #[.int .i64 c, .int .i64 d] 29 (0, 0)) := kblk hb (by first | exact k1 | (simp [hp_alloc, hp_set, hp_drew, hp_drewN, cset_cells, k0, k1]; done)); replace c0 := kcell k0; replace f0 := kfree k0; replace c1 := kcell k1; replace f1 := kfree k1))
    all_goals (go_ret; exact ⟨by first | rfl | (simp [rwithinB, *]; done) | (simp [rwithinB]; omega) | (simp [rwithinB, *]; omega), by (repeat (first | assumption | exact Below.refl _ _ | (refine below_call ?_ (by assumption)) | apply below_alloc | apply below_drew | apply below_drewN | (refine below_set ?_ (by first | (simp; done) | (simp; omega) | omega) _)))⟩)

end Go.Proofs.Ytplhbnehlkoedaa
