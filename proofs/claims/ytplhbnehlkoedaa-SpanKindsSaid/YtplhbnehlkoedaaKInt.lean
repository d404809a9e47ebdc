/- Span: the contracts of the program's functions over Int. -/
import Derived.Test.YtplhbnehlkoedaaB
import Derived.WalkKit
import Derived.WalkLawsBesides
import Derived.WalkSpells
import Derived.Below
import Derived.Deep.RegionHeld3
import Derived.Deep.QuietTactic
import Derived.BigQuiet
import Derived.Deep.DeepCutAuto
import Derived.Deep.DeepMust
import Derived.KernelRfl
import Derived.Lib.Hide
import Derived.Outline
import Derived.RegionTactic
namespace Go.Proofs.Ytplhbnehlkoedaa
open Go.RowKit
set_option linter.unusedVariables false
set_option linter.unusedSimpArgs false

attribute [local go_sem] max2_int min2_int max_two min_two ok_ite
attribute [local simp, local go_sem] ne_2 ne_3 ne_4 ne_5 en_2 en_3 en_4 en_5

set_option maxHeartbeats 2000000 in
theorem ofInt (a b : Int) (w : World) :
    Calls Try.prog 46 #[.int .i64 a, .int .i64 b] w fun e w' => e = .returned (.agg #[.int .i64 (ofS a b).1, .int .i64 (ofS a b).2]) ∧ Below w.heap.size w w' := by
  by_cases h0 : a < b
  · have g0 : ¬ b ≤ a := by omega
    go_enter Try.func46, Try.ntmps46
    go_upto_region 1 with fail
    refine Ph.at_world ?_; intro W1 hW
    have qr : hp W1 w.heap.size = some (.cells #[.int .i64 0, .int .i64 0] 41 (0, 0)) := by rw [hW]; simp [hp_alloc, hp_set, hp_drew, hp_drewN, cset_cells]
    have HB : Below w.heap.size w W1 := by rw [hW]; (repeat (first | (with_reducible assumption) | (with_reducible exact Below.refl _ _) | (with_reducible refine below_set ?_ (by first | (simp; done) | (simp; omega) | omega) _) | (with_reducible apply below_alloc) | (with_reducible apply below_drew) | (with_reducible apply below_drewN) | (with_reducible refine below_call ?_ (by assumption))))
    clear hW
    have kr := qr; clear qr; have cr := kcell kr; have fr := kfree kr
    go_wp2_with fail
    all_goals try go_wp2
    all_goals refine bodyPost_ret (v := .agg #[.int .i64 (ofS a b).1, .int .i64 (ofS a b).2]) (by simp [results, Try.results46, go_sem, ofS_pos, ofS_neg, *]) rfl ⟨?_, by (repeat (first | (with_reducible assumption) | (with_reducible exact Below.refl _ _) | (with_reducible refine below_set ?_ (by first | (simp; done) | (simp; omega) | omega) _) | (with_reducible apply below_alloc) | (with_reducible apply below_drew) | (with_reducible apply below_drewN) | (with_reducible refine below_call ?_ (by assumption))))⟩
    all_goals (first | rfl | (simp [ofS_pos, ofS_neg, *]; done))
  · have g0 : b ≤ a := by omega
    go_enter Try.func46, Try.ntmps46
    go_upto_region 1 with fail
    refine Ph.at_world ?_; intro W1 hW
    have qr : hp W1 w.heap.size = some (.cells #[.int .i64 0, .int .i64 0] 41 (0, 0)) := by rw [hW]; simp [hp_alloc, hp_set, hp_drew, hp_drewN, cset_cells]
    have HB : Below w.heap.size w W1 := by rw [hW]; (repeat (first | (with_reducible assumption) | (with_reducible exact Below.refl _ _) | (with_reducible refine below_set ?_ (by first | (simp; done) | (simp; omega) | omega) _) | (with_reducible apply below_alloc) | (with_reducible apply below_drew) | (with_reducible apply below_drewN) | (with_reducible refine below_call ?_ (by assumption))))
    clear hW
    have kr := qr; clear qr; have cr := kcell kr; have fr := kfree kr
    go_wp2_with fail
    all_goals try go_wp2
    all_goals refine bodyPost_ret (v := .agg #[.int .i64 (ofS a b).1, .int .i64 (ofS a b).2]) (by simp [results, Try.results46, go_sem, ofS_pos, ofS_neg, *]) rfl ⟨?_, by (repeat (first | (with_reducible assumption) | (with_reducible exact Below.refl _ _) | (with_reducible refine below_set ?_ (by first | (simp; done) | (simp; omega) | omega) _) | (with_reducible apply below_alloc) | (with_reducible apply below_drew) | (with_reducible apply below_drewN) | (with_reducible refine below_call ?_ (by assumption))))⟩
    all_goals (first | rfl | (simp [ofS_pos, ofS_neg, *]; done))

set_option maxHeartbeats 2000000 in
theorem emptyInt (a b : Int) (w : World) :
    Calls Try.prog 48 #[.agg #[.int .i64 a, .int .i64 b]] w fun e w' => e = .returned (.bool (emptyB a b)) ∧ Below w.heap.size w w' := by
  go_enter Try.func48, Try.ntmps48
  go_upto_region 1 with fail
  refine Ph.at_world ?_; intro W1 hW
  have q0 : hp W1 w.heap.size = some (.cells #[.int .i64 a, .int .i64 b] 41 (0, 0)) := by rw [hW]; simp [hp_alloc, hp_set, hp_drew, hp_drewN, cset_cells]
  have HB : Below w.heap.size w W1 := by rw [hW]; (repeat (first | (with_reducible assumption) | (with_reducible exact Below.refl _ _) | (with_reducible refine below_set ?_ (by first | (simp; done) | (simp; omega) | omega) _) | (with_reducible apply below_alloc) | (with_reducible apply below_drew) | (with_reducible apply below_drewN) | (with_reducible refine below_call ?_ (by assumption))))
  clear hW
  have k0 := q0; clear q0; have c0 := kcell k0; have f0 := kfree k0
  go_wp2_with fail
  all_goals (go_ret; exact ⟨by first | rfl | (simp [emptyB, *]; done) | (simp [emptyB]; omega) | (simp [emptyB, *]; omega), by (repeat (first | (with_reducible assumption) | (with_reducible exact Below.refl _ _) | (with_reducible refine below_set ?_ (by first | (simp; done) | (simp; omega) | omega) _) | (with_reducible apply below_alloc) | (with_reducible apply below_drew) | (with_reducible apply below_drewN) | (with_reducible refine below_call ?_ (by assumption))))⟩)

set_option maxHeartbeats 2000000 in
theorem hasInt (a b x : Int) (w : World) :
    Calls Try.prog 26 #[.agg #[.int .i64 a, .int .i64 b], .int .i64 x] w fun e w' => e = .returned (.bool (hasB a b x)) ∧ Below w.heap.size w w' := by
  by_cases h0 : a ≤ x
  · have g0 : ¬ x < a := by omega
    go_enter Try.func26, Try.ntmps26
    go_upto_region 1 with fail
    refine Ph.at_world ?_; intro W1 hW
    have q0 : hp W1 w.heap.size = some (.cells #[.int .i64 a, .int .i64 b] 41 (0, 0)) := by rw [hW]; simp [hp_alloc, hp_set, hp_drew, hp_drewN, cset_cells]
    have HB : Below w.heap.size w W1 := by rw [hW]; (repeat (first | (with_reducible assumption) | (with_reducible exact Below.refl _ _) | (with_reducible refine below_set ?_ (by first | (simp; done) | (simp; omega) | omega) _) | (with_reducible apply below_alloc) | (with_reducible apply below_drew) | (with_reducible apply below_drewN) | (with_reducible refine below_call ?_ (by assumption))))
    clear hW
    have k0 := q0; clear q0; have c0 := kcell k0; have f0 := kfree k0
    go_wp2_with fail
    all_goals (go_ret; exact ⟨by first | rfl | (simp [hasB, *]; done) | (simp [hasB]; omega) | (simp [hasB, *]; omega), by (repeat (first | (with_reducible assumption) | (with_reducible exact Below.refl _ _) | (with_reducible refine below_set ?_ (by first | (simp; done) | (simp; omega) | omega) _) | (with_reducible apply below_alloc) | (with_reducible apply below_drew) | (with_reducible apply below_drewN) | (with_reducible refine below_call ?_ (by assumption))))⟩)
  · have g0 : x < a := by omega
    go_enter Try.func26, Try.ntmps26
    go_upto_region 1 with fail
    refine Ph.at_world ?_; intro W1 hW
    have q0 : hp W1 w.heap.size = some (.cells #[.int .i64 a, .int .i64 b] 41 (0, 0)) := by rw [hW]; simp [hp_alloc, hp_set, hp_drew, hp_drewN, cset_cells]
    have HB : Below w.heap.size w W1 := by rw [hW]; (repeat (first | (with_reducible assumption) | (with_reducible exact Below.refl _ _) | (with_reducible refine below_set ?_ (by first | (simp; done) | (simp; omega) | omega) _) | (with_reducible apply below_alloc) | (with_reducible apply below_drew) | (with_reducible apply below_drewN) | (with_reducible refine below_call ?_ (by assumption))))
    clear hW
    have k0 := q0; clear q0; have c0 := kcell k0; have f0 := kfree k0
    go_wp2_with fail
    all_goals (go_ret; exact ⟨by first | rfl | (simp [hasB, *]; done) | (simp [hasB]; omega) | (simp [hasB, *]; omega), by (repeat (first | (with_reducible assumption) | (with_reducible exact Below.refl _ _) | (with_reducible refine below_set ?_ (by first | (simp; done) | (simp; omega) | omega) _) | (with_reducible apply below_alloc) | (with_reducible apply below_drew) | (with_reducible apply below_drewN) | (with_reducible refine below_call ?_ (by assumption))))⟩)

set_option maxHeartbeats 2000000 in
theorem meetInt (a b c d : Int) (w : World) :
    Calls Try.prog 20 #[.agg #[.int .i64 a, .int .i64 b], .agg #[.int .i64 c, .int .i64 d]] w fun e w' => e = .returned (.agg #[.int .i64 (meetS a b c d).1, .int .i64 (meetS a b c d).2]) ∧ Below w.heap.size w w' := by
  go_enter Try.func20, Try.ntmps20
  go_upto_region 1 with fail
  refine Ph.at_world ?_; intro W1 hW
  have q0 : hp W1 w.heap.size = some (.cells #[.int .i64 a, .int .i64 b] 41 (0, 0)) := by rw [hW]; simp [hp_alloc, hp_set, hp_drew, hp_drewN, cset_cells]
  have q1 : hp W1 (w.heap.size + 1) = some (.cells #[.int .i64 c, .int .i64 d] 41 (0, 0)) := by rw [hW]; simp [hp_alloc, hp_set, hp_drew, hp_drewN, cset_cells]
  have qr0 : hp W1 (w.heap.size + 1 + 1) = some (.cells #[.int .i64 0, .int .i64 0] 41 (0, 0)) := by rw [hW]; simp [hp_alloc, hp_set, hp_drew, hp_drewN, cset_cells]
  have HB : Below w.heap.size w W1 := by rw [hW]; (repeat (first | (with_reducible assumption) | (with_reducible exact Below.refl _ _) | (with_reducible refine below_set ?_ (by first | (simp; done) | (simp; omega) | omega) _) | (with_reducible apply below_alloc) | (with_reducible apply below_drew) | (with_reducible apply below_drewN) | (with_reducible refine below_call ?_ (by assumption))))
  clear hW
  have k0 := q0; clear q0; have c0 := kcell k0; have f0 := kfree k0
  have k1 := q1; clear q1; have c1 := kcell k1; have f1 := kfree k1
  have kr0 := qr0; clear qr0; have cr0 := kcell kr0; have fr0 := kfree kr0
  go_wp2_with (first | (go_at_call 46; refine (ofInt _ _ _).mono ?_; rintro e w1 ⟨rfl, hb⟩; replace HB := below_call (by first | exact HB | (repeat (first | (with_reducible assumption) | (with_reducible exact Below.refl _ _) | (with_reducible refine below_set ?_ (by first | (simp; done) | (simp; omega) | omega) _) | (with_reducible apply below_alloc) | (with_reducible apply below_drew) | (with_reducible apply below_drewN) | (with_reducible refine below_call ?_ (by assumption))))) hb; replace k0 : hp _ w.heap.size = some (.cells #[.int .i64 a, .int .i64 b] 41 (0, 0)) := kblk hb (by first | exact k0 | (simp [hp_alloc, hp_set, hp_drew, hp_drewN, cset_cells, k0, k1, kr0]; done)); replace k1 : hp _ (w.heap.size + 1) = some (.cells #[.int .i64 c, .int .i64 d] 41 (0, 0)) := kblk hb (by first | exact k1 | (simp [hp_alloc, hp_set, hp_drew, hp_drewN, cset_cells, k0, k1, kr0]; done)); replace kr0 : hp _ (w.heap.size + 1 + 1) = some (.cells #[.int .i64 0, .int .i64 0] 41 (0, 0)) := kblk hb (by first | exact kr0 | (simp [hp_alloc, hp_set, hp_drew, hp_drewN, cset_cells, k0, k1, kr0]; done)); replace c0 := kcell k0; replace f0 := kfree k0; replace c1 := kcell k1; replace f1 := kfree k1; replace cr0 := kcell kr0; replace fr0 := kfree kr0))
  all_goals try go_wp2
  all_goals refine bodyPost_ret (v := .agg #[.int .i64 (meetS a b c d).1, .int .i64 (meetS a b c d).2]) (by simp [results, Try.results20, go_sem, meetS, *]) rfl ⟨?_, by (repeat (first | (with_reducible assumption) | (with_reducible exact Below.refl _ _) | (with_reducible refine below_set ?_ (by first | (simp; done) | (simp; omega) | omega) _) | (with_reducible apply below_alloc) | (with_reducible apply below_drew) | (with_reducible apply below_drewN) | (with_reducible refine below_call ?_ (by assumption))))⟩
  all_goals (first | rfl | (simp [meetS, *]; done))

set_option maxHeartbeats 1000000 in
theorem cmpInt (a b : Int) (w : World) :
    Calls Try.prog 50 #[.int .i64 a, .int .i64 b] w fun e w' => e = .returned (.int .i64 (cmpI a b)) ∧ w = w' := by
  by_cases h1 : a < b
  · skip
    have e1 : cmpI a b = -1 := by unfold cmpI; rw [if_pos h1]
    go_enter Try.func50, Try.ntmps50
    go_wp2
    go_ret
    exact ⟨by first | rfl | (rw [e1]; rfl), rfl⟩
  by_cases h2 : b < a
  · skip
    have e1 : cmpI a b = 1 := by unfold cmpI; rw [if_neg h1, if_pos h2]
    go_enter Try.func50, Try.ntmps50
    go_wp2
    go_ret
    exact ⟨by first | rfl | (rw [e1]; rfl), rfl⟩
  · skip
    have e1 : cmpI a b = 0 := by unfold cmpI; rw [if_neg h1, if_neg h2]
    go_enter Try.func50, Try.ntmps50
    go_wp2
    go_ret
    exact ⟨by first | rfl | (rw [e1]; rfl), rfl⟩

set_option maxHeartbeats 2000000 in
theorem compareInt (a b c d : Int) (w : World) :
    Calls Try.prog 23 #[.agg #[.int .i64 a, .int .i64 b], .agg #[.int .i64 c, .int .i64 d]] w fun e w' => e = .returned (.int .i64 (compS a b c d)) ∧ Below w.heap.size w w' := by
  cases h0 : emptyB a b
  · skip
    cases h1 : emptyB c d
    · skip
      go_enter Try.func23, Try.ntmps23
      go_upto_region 1 with fail
      refine Ph.at_world ?_; intro W1 hW
      have q0 : hp W1 w.heap.size = some (.cells #[.int .i64 a, .int .i64 b] 41 (0, 0)) := by rw [hW]; simp [hp_alloc, hp_set, hp_drew, hp_drewN, cset_cells]
      have q1 : hp W1 (w.heap.size + 1) = some (.cells #[.int .i64 c, .int .i64 d] 41 (0, 0)) := by rw [hW]; simp [hp_alloc, hp_set, hp_drew, hp_drewN, cset_cells]
      have HB : Below w.heap.size w W1 := by rw [hW]; (repeat (first | (with_reducible assumption) | (with_reducible exact Below.refl _ _) | (with_reducible refine below_set ?_ (by first | (simp; done) | (simp; omega) | omega) _) | (with_reducible apply below_alloc) | (with_reducible apply below_drew) | (with_reducible apply below_drewN) | (with_reducible refine below_call ?_ (by assumption))))
      clear hW
      have k0 := q0; clear q0; have c0 := kcell k0; have f0 := kfree k0
      have k1 := q1; clear q1; have c1 := kcell k1; have f1 := kfree k1
      go_wp2_with (first | (go_at_call 48; refine (emptyInt _ _ _).mono ?_; rintro e w1 ⟨rfl, hb⟩; replace HB := below_call (by first | exact HB | (repeat (first | (with_reducible assumption) | (with_reducible exact Below.refl _ _) | (with_reducible refine below_set ?_ (by first | (simp; done) | (simp; omega) | omega) _) | (with_reducible apply below_alloc) | (with_reducible apply below_drew) | (with_reducible apply below_drewN) | (with_reducible refine below_call ?_ (by assumption))))) hb; replace k0 : hp _ w.heap.size = some (.cells #[.int .i64 a, .int .i64 b] 41 (0, 0)) := kblk hb (by first | exact k0 | (simp [hp_alloc, hp_set, hp_drew, hp_drewN, cset_cells, k0, k1]; done)); replace k1 : hp _ (w.heap.size + 1) = some (.cells #[.int .i64 c, .int .i64 d] 41 (0, 0)) := kblk hb (by first | exact k1 | (simp [hp_alloc, hp_set, hp_drew, hp_drewN, cset_cells, k0, k1]; done)); replace c0 := kcell k0; replace f0 := kfree k0; replace c1 := kcell k1; replace f1 := kfree k1) | (go_at_call 50; refine (cmpInt _ _ _).mono ?_; rintro e w1 ⟨rfl, rfl⟩) | (go_at_call 49; refine (or_int (cmpI a c) (cmpI b d) _ _ ?_ ?_).mono ?_; rotate_left; (focus (simp; done)); (focus (simp; done)); rintro e w1 ⟨rfl, rfl⟩))
      refine Ph.wp_region_gr 10 10 [] (by kernel_rfl) (by kernel_rfl) (fun _ d _ _ _ h => by cases d <;> exact h) ?_
      simp only [List.take_succ_cons, List.take_zero, List.drop_succ_cons, List.drop_zero]
      repeat (first | (apply Ph.wpG_op rfl; (focus (intro w1 hS; have d0 := kcell (kblk hS k0); have d1 := kcell (kblk hS k1); go_simp; first | exact rfl | exact ⟨rfl, Below.refl _ _⟩ | ((with_reducible refine (emptyInt _ _ _).mono ?_); rintro e w2 ⟨rfl, hb⟩; exact ⟨rfl, hb⟩) | ((with_reducible refine (cmpInt _ _ _).mono ?_); rintro e w2 ⟨rfl, rfl⟩; exact ⟨rfl, Below.refl _ _⟩) | ((with_reducible refine (or_int (cmpI a c) (cmpI b d) _ _ ?_ ?_).mono ?_); rintro e w2 ⟨rfl, rfl⟩; exact ⟨rfl, Below.refl _ _⟩)))); simp only [List.tail_cons, List.tail_nil, Act.put, List.setIfInBounds_toArray, List.set_cons_zero, List.set_cons_succ])
      refine Ph.wpG_nil ?_
      refine Ph.wpAl_nil ?_; intro v1 hS hgs hne
      clear hgs hne
      replace HB := below_call (by first | exact HB | (repeat (first | (with_reducible assumption) | (with_reducible exact Below.refl _ _) | (with_reducible refine below_set ?_ (by first | (simp; done) | (simp; omega) | omega) _) | (with_reducible apply below_alloc) | (with_reducible apply below_drew) | (with_reducible apply below_drewN) | (with_reducible refine below_call ?_ (by assumption))))) hS; replace k0 : hp _ w.heap.size = some (.cells #[.int .i64 a, .int .i64 b] 41 (0, 0)) := kblk hS (by first | exact k0 | (simp [hp_alloc, hp_set, hp_drew, hp_drewN, cset_cells, k0, k1]; done)); replace k1 : hp _ (w.heap.size + 1) = some (.cells #[.int .i64 c, .int .i64 d] 41 (0, 0)) := kblk hS (by first | exact k1 | (simp [hp_alloc, hp_set, hp_drew, hp_drewN, cset_cells, k0, k1]; done)); replace c0 := kcell k0; replace f0 := kfree k0; replace c1 := kcell k1; replace f1 := kfree k1
      go_wp2_with fail
      refine (or_int (cmpI a c) (cmpI b d) _ _ (by simp) (by simp)).mono ?_; rintro e w1 ⟨rfl, rfl⟩
      go_wp2_with (first | (go_at_call 48; refine (emptyInt _ _ _).mono ?_; rintro e w1 ⟨rfl, hb⟩; replace HB := below_call (by first | exact HB | (repeat (first | (with_reducible assumption) | (with_reducible exact Below.refl _ _) | (with_reducible refine below_set ?_ (by first | (simp; done) | (simp; omega) | omega) _) | (with_reducible apply below_alloc) | (with_reducible apply below_drew) | (with_reducible apply below_drewN) | (with_reducible refine below_call ?_ (by assumption))))) hb; replace k0 : hp _ w.heap.size = some (.cells #[.int .i64 a, .int .i64 b] 41 (0, 0)) := kblk hb (by first | exact k0 | (simp [hp_alloc, hp_set, hp_drew, hp_drewN, cset_cells, k0, k1]; done)); replace k1 : hp _ (w.heap.size + 1) = some (.cells #[.int .i64 c, .int .i64 d] 41 (0, 0)) := kblk hb (by first | exact k1 | (simp [hp_alloc, hp_set, hp_drew, hp_drewN, cset_cells, k0, k1]; done)); replace c0 := kcell k0; replace f0 := kfree k0; replace c1 := kcell k1; replace f1 := kfree k1) | (go_at_call 50; refine (cmpInt _ _ _).mono ?_; rintro e w1 ⟨rfl, rfl⟩) | (go_at_call 49; refine (or_int (cmpI a c) (cmpI b d) _ _ ?_ ?_).mono ?_; rotate_left; (focus (simp; done)); (focus (simp; done)); rintro e w1 ⟨rfl, rfl⟩))
      all_goals (go_ret; exact ⟨by first | rfl | (simp [compS, *]; done) | (simp [compS]; omega) | (simp [compS, *]; omega), by (repeat (first | (with_reducible assumption) | (with_reducible exact Below.refl _ _) | (with_reducible refine below_set ?_ (by first | (simp; done) | (simp; omega) | omega) _) | (with_reducible apply below_alloc) | (with_reducible apply below_drew) | (with_reducible apply below_drewN) | (with_reducible refine below_call ?_ (by assumption))))⟩)
    · skip
      go_enter Try.func23, Try.ntmps23
      go_upto_region 1 with fail
      refine Ph.at_world ?_; intro W1 hW
      have q0 : hp W1 w.heap.size = some (.cells #[.int .i64 a, .int .i64 b] 41 (0, 0)) := by rw [hW]; simp [hp_alloc, hp_set, hp_drew, hp_drewN, cset_cells]
      have q1 : hp W1 (w.heap.size + 1) = some (.cells #[.int .i64 c, .int .i64 d] 41 (0, 0)) := by rw [hW]; simp [hp_alloc, hp_set, hp_drew, hp_drewN, cset_cells]
      have HB : Below w.heap.size w W1 := by rw [hW]; (repeat (first | (with_reducible assumption) | (with_reducible exact Below.refl _ _) | (with_reducible refine below_set ?_ (by first | (simp; done) | (simp; omega) | omega) _) | (with_reducible apply below_alloc) | (with_reducible apply below_drew) | (with_reducible apply below_drewN) | (with_reducible refine below_call ?_ (by assumption))))
      clear hW
      have k0 := q0; clear q0; have c0 := kcell k0; have f0 := kfree k0
      have k1 := q1; clear q1; have c1 := kcell k1; have f1 := kfree k1
      go_wp2_with (first | (go_at_call 48; refine (emptyInt _ _ _).mono ?_; rintro e w1 ⟨rfl, hb⟩; replace HB := below_call (by first | exact HB | (repeat (first | (with_reducible assumption) | (with_reducible exact Below.refl _ _) | (with_reducible refine below_set ?_ (by first | (simp; done) | (simp; omega) | omega) _) | (with_reducible apply below_alloc) | (with_reducible apply below_drew) | (with_reducible apply below_drewN) | (with_reducible refine below_call ?_ (by assumption))))) hb; replace k0 : hp _ w.heap.size = some (.cells #[.int .i64 a, .int .i64 b] 41 (0, 0)) := kblk hb (by first | exact k0 | (simp [hp_alloc, hp_set, hp_drew, hp_drewN, cset_cells, k0, k1]; done)); replace k1 : hp _ (w.heap.size + 1) = some (.cells #[.int .i64 c, .int .i64 d] 41 (0, 0)) := kblk hb (by first | exact k1 | (simp [hp_alloc, hp_set, hp_drew, hp_drewN, cset_cells, k0, k1]; done)); replace c0 := kcell k0; replace f0 := kfree k0; replace c1 := kcell k1; replace f1 := kfree k1) | (go_at_call 50; refine (cmpInt _ _ _).mono ?_; rintro e w1 ⟨rfl, rfl⟩) | (go_at_call 49; refine (or_int (cmpI a c) (cmpI b d) _ _ ?_ ?_).mono ?_; rotate_left; (focus (simp; done)); (focus (simp; done)); rintro e w1 ⟨rfl, rfl⟩))
      all_goals (go_ret; exact ⟨by first | rfl | (simp [compS, *]; done) | (simp [compS]; omega) | (simp [compS, *]; omega), by (repeat (first | (with_reducible assumption) | (with_reducible exact Below.refl _ _) | (with_reducible refine below_set ?_ (by first | (simp; done) | (simp; omega) | omega) _) | (with_reducible apply below_alloc) | (with_reducible apply below_drew) | (with_reducible apply below_drewN) | (with_reducible refine below_call ?_ (by assumption))))⟩)
  · skip
    cases h1 : emptyB c d
    · skip
      go_enter Try.func23, Try.ntmps23
      go_upto_region 1 with fail
      refine Ph.at_world ?_; intro W1 hW
      have q0 : hp W1 w.heap.size = some (.cells #[.int .i64 a, .int .i64 b] 41 (0, 0)) := by rw [hW]; simp [hp_alloc, hp_set, hp_drew, hp_drewN, cset_cells]
      have q1 : hp W1 (w.heap.size + 1) = some (.cells #[.int .i64 c, .int .i64 d] 41 (0, 0)) := by rw [hW]; simp [hp_alloc, hp_set, hp_drew, hp_drewN, cset_cells]
      have HB : Below w.heap.size w W1 := by rw [hW]; (repeat (first | (with_reducible assumption) | (with_reducible exact Below.refl _ _) | (with_reducible refine below_set ?_ (by first | (simp; done) | (simp; omega) | omega) _) | (with_reducible apply below_alloc) | (with_reducible apply below_drew) | (with_reducible apply below_drewN) | (with_reducible refine below_call ?_ (by assumption))))
      clear hW
      have k0 := q0; clear q0; have c0 := kcell k0; have f0 := kfree k0
      have k1 := q1; clear q1; have c1 := kcell k1; have f1 := kfree k1
      go_wp2_with (first | (go_at_call 48; refine (emptyInt _ _ _).mono ?_; rintro e w1 ⟨rfl, hb⟩; replace HB := below_call (by first | exact HB | (repeat (first | (with_reducible assumption) | (with_reducible exact Below.refl _ _) | (with_reducible refine below_set ?_ (by first | (simp; done) | (simp; omega) | omega) _) | (with_reducible apply below_alloc) | (with_reducible apply below_drew) | (with_reducible apply below_drewN) | (with_reducible refine below_call ?_ (by assumption))))) hb; replace k0 : hp _ w.heap.size = some (.cells #[.int .i64 a, .int .i64 b] 41 (0, 0)) := kblk hb (by first | exact k0 | (simp [hp_alloc, hp_set, hp_drew, hp_drewN, cset_cells, k0, k1]; done)); replace k1 : hp _ (w.heap.size + 1) = some (.cells #[.int .i64 c, .int .i64 d] 41 (0, 0)) := kblk hb (by first | exact k1 | (simp [hp_alloc, hp_set, hp_drew, hp_drewN, cset_cells, k0, k1]; done)); replace c0 := kcell k0; replace f0 := kfree k0; replace c1 := kcell k1; replace f1 := kfree k1) | (go_at_call 50; refine (cmpInt _ _ _).mono ?_; rintro e w1 ⟨rfl, rfl⟩) | (go_at_call 49; refine (or_int (cmpI a c) (cmpI b d) _ _ ?_ ?_).mono ?_; rotate_left; (focus (simp; done)); (focus (simp; done)); rintro e w1 ⟨rfl, rfl⟩))
      all_goals (go_ret; exact ⟨by first | rfl | (simp [compS, *]; done) | (simp [compS]; omega) | (simp [compS, *]; omega), by (repeat (first | (with_reducible assumption) | (with_reducible exact Below.refl _ _) | (with_reducible refine below_set ?_ (by first | (simp; done) | (simp; omega) | omega) _) | (with_reducible apply below_alloc) | (with_reducible apply below_drew) | (with_reducible apply below_drewN) | (with_reducible refine below_call ?_ (by assumption))))⟩)
    · skip
      go_enter Try.func23, Try.ntmps23
      go_upto_region 1 with fail
      refine Ph.at_world ?_; intro W1 hW
      have q0 : hp W1 w.heap.size = some (.cells #[.int .i64 a, .int .i64 b] 41 (0, 0)) := by rw [hW]; simp [hp_alloc, hp_set, hp_drew, hp_drewN, cset_cells]
      have q1 : hp W1 (w.heap.size + 1) = some (.cells #[.int .i64 c, .int .i64 d] 41 (0, 0)) := by rw [hW]; simp [hp_alloc, hp_set, hp_drew, hp_drewN, cset_cells]
      have HB : Below w.heap.size w W1 := by rw [hW]; (repeat (first | (with_reducible assumption) | (with_reducible exact Below.refl _ _) | (with_reducible refine below_set ?_ (by first | (simp; done) | (simp; omega) | omega) _) | (with_reducible apply below_alloc) | (with_reducible apply below_drew) | (with_reducible apply below_drewN) | (with_reducible refine below_call ?_ (by assumption))))
      clear hW
      have k0 := q0; clear q0; have c0 := kcell k0; have f0 := kfree k0
      have k1 := q1; clear q1; have c1 := kcell k1; have f1 := kfree k1
      go_wp2_with (first | (go_at_call 48; refine (emptyInt _ _ _).mono ?_; rintro e w1 ⟨rfl, hb⟩; replace HB := below_call (by first | exact HB | (repeat (first | (with_reducible assumption) | (with_reducible exact Below.refl _ _) | (with_reducible refine below_set ?_ (by first | (simp; done) | (simp; omega) | omega) _) | (with_reducible apply below_alloc) | (with_reducible apply below_drew) | (with_reducible apply below_drewN) | (with_reducible refine below_call ?_ (by assumption))))) hb; replace k0 : hp _ w.heap.size = some (.cells #[.int .i64 a, .int .i64 b] 41 (0, 0)) := kblk hb (by first | exact k0 | (simp [hp_alloc, hp_set, hp_drew, hp_drewN, cset_cells, k0, k1]; done)); replace k1 : hp _ (w.heap.size + 1) = some (.cells #[.int .i64 c, .int .i64 d] 41 (0, 0)) := kblk hb (by first | exact k1 | (simp [hp_alloc, hp_set, hp_drew, hp_drewN, cset_cells, k0, k1]; done)); replace c0 := kcell k0; replace f0 := kfree k0; replace c1 := kcell k1; replace f1 := kfree k1) | (go_at_call 50; refine (cmpInt _ _ _).mono ?_; rintro e w1 ⟨rfl, rfl⟩) | (go_at_call 49; refine (or_int (cmpI a c) (cmpI b d) _ _ ?_ ?_).mono ?_; rotate_left; (focus (simp; done)); (focus (simp; done)); rintro e w1 ⟨rfl, rfl⟩))
      all_goals (go_ret; exact ⟨by first | rfl | (simp [compS, *]; done) | (simp [compS]; omega) | (simp [compS, *]; omega), by (repeat (first | (with_reducible assumption) | (with_reducible exact Below.refl _ _) | (with_reducible refine below_set ?_ (by first | (simp; done) | (simp; omega) | omega) _) | (with_reducible apply below_alloc) | (with_reducible apply below_drew) | (with_reducible apply below_drewN) | (with_reducible refine below_call ?_ (by assumption))))⟩)

end Go.Proofs.Ytplhbnehlkoedaa
