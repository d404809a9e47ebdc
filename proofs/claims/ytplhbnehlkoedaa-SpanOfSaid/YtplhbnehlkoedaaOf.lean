/- Span: the laws' walks. -/
import Derived.Test.YtplhbnehlkoedaaE
import Derived.WalkKit
import Derived.WalkLawsBesides
import Derived.WalkSpells
import Derived.Below
import Derived.Deep.RegionHeld3
import Derived.Deep.QuietTactic
import Derived.BigQuiet
import Derived.Deep.DeepCutAuto
import Derived.Deep.DeepMust
import Derived.KernelRfl
import Derived.Outline
import Derived.RegionTactic
namespace Go.Proofs.Ytplhbnehlkoedaa
open Go.RowKit
set_option linter.unusedVariables false
set_option linter.unusedSimpArgs false

attribute [local go_sem] max2_int min2_int max_two min_two ok_ite
attribute [local simp, local go_sem] ne_2 ne_3 ne_4 ne_5 en_2 en_3 en_4 en_5

set_option maxHeartbeats 4000000 in
theorem spanOf (a b x : Int) (w : World) :
    Calls Try.prog 3 #[.agg #[.int .i64 a, .int .i64 b], .int .i64 x] w fun e w' => e = .returned (.bool true) ∧ Below w.heap.size w w' := by
  go_enter Try.func3, Try.ntmps3
  go_upto_region 1 with fail
  refine Ph.at_world ?_; intro W1 hW
  have q0 : hp W1 w.heap.size = some (.cells #[.int .i64 a, .int .i64 b] 23 (0, 0)) := by rw [hW]; simp [hp_alloc, hp_set, hp_drew, hp_drewN, cset_cells]
  have HB : Below w.heap.size w W1 := by rw [hW]; (repeat (first | assumption | exact Below.refl _ _ | (refine below_call ?_ (by assumption)) | apply below_alloc | apply below_drew | apply below_drewN | (refine below_set ?_ (by first | (simp; done) | (simp; omega) | omega) _)))
  clear hW
  have k0 := q0; clear q0; have c0 := kcell k0; have f0 := kfree k0
  go_wp2_with fail
  go_at_call 10; refine Ph.at_callw ?_; intro W2 hW
  have q0 : hp W2 w.heap.size = some (.cells #[.int .i64 a, .int .i64 b] 23 (0, 0)) := by rw [hW]; simp [hp_alloc, hp_set, hp_drew, hp_drewN, cset_cells, k0]
  have HB' : Below w.heap.size w W2 := by rw [hW]; (repeat (first | assumption | exact Below.refl _ _ | (refine below_call ?_ (by assumption)) | apply below_alloc | apply below_drew | apply below_drewN | (refine below_set ?_ (by first | (simp; done) | (simp; omega) | omega) _)))
  replace HB := HB'; clear HB'
  clear hW
  clear k0 c0 f0
  have k0 := q0; clear q0; have c0 := kcell k0; have f0 := kfree k0
  refine (fixed_true _).mono ?_; rintro e v1 ⟨rfl, hb⟩; replace HB := below_call (by first | exact HB | (repeat (first | assumption | exact Below.refl _ _ | (refine below_call ?_ (by assumption)) | apply below_alloc | apply below_drew | apply below_drewN | (refine below_set ?_ (by first | (simp; done) | (simp; omega) | omega) _)))) hb; replace k0 : hp _ w.heap.size = some (.cells #[.int .i64 a, .int .i64 b] 23 (0, 0)) := kblk hb (by first | exact k0 | (simp [hp_alloc, hp_set, hp_drew, hp_drewN, cset_cells, k0]; done)); replace c0 := kcell k0; replace f0 := kfree k0
  go_wp2_with fail
  go_at_call 11; refine Ph.at_callw ?_; intro W3 hW
  have q0 : hp W3 w.heap.size = some (.cells #[.int .i64 a, .int .i64 b] 23 (0, 0)) := by rw [hW]; simp [hp_alloc, hp_set, hp_drew, hp_drewN, cset_cells, k0]
  have HB' : Below w.heap.size w W3 := by rw [hW]; (repeat (first | assumption | exact Below.refl _ _ | (refine below_call ?_ (by assumption)) | apply below_alloc | apply below_drew | apply below_drewN | (refine below_set ?_ (by first | (simp; done) | (simp; omega) | omega) _)))
  replace HB := HB'; clear HB'
  clear hW
  clear k0 c0 f0
  have k0 := q0; clear q0; have c0 := kcell k0; have f0 := kfree k0
  refine (lof _ _ _).mono ?_; rintro e v2 ⟨rfl, hb⟩; replace HB := below_call (by first | exact HB | (repeat (first | assumption | exact Below.refl _ _ | (refine below_call ?_ (by assumption)) | apply below_alloc | apply below_drew | apply below_drewN | (refine below_set ?_ (by first | (simp; done) | (simp; omega) | omega) _)))) hb; replace k0 : hp _ w.heap.size = some (.cells #[.int .i64 a, .int .i64 b] 23 (0, 0)) := kblk hb (by first | exact k0 | (simp [hp_alloc, hp_set, hp_drew, hp_drewN, cset_cells, k0]; done)); replace c0 := kcell k0; replace f0 := kfree k0
  go_wp2_with fail
  refine Ph.at_world ?_; intro W4 hW
  have n0sa : (w.heap.size = v2.heap.size) = False := eq_false (by have := klt k0; omega)
  have q0 : hp W4 w.heap.size = some (.cells #[.int .i64 a, .int .i64 b] 23 (0, 0)) := by rw [hW]; simp [hp_alloc, hp_set, hp_drew, hp_drewN, cset_cells, k0, n0sa]
  have qsa : hp W4 v2.heap.size = some (.cells #[.int .i64 a, .int .i64 b] 25 (0, 0)) := by rw [hW]; simp [hp_alloc, hp_set, hp_drew, hp_drewN, cset_cells, k0, n0sa]
  have HB' : Below w.heap.size w W4 := by rw [hW]; (repeat (first | assumption | exact Below.refl _ _ | (refine below_call ?_ (by assumption)) | apply below_alloc | apply below_drew | apply below_drewN | (refine below_set ?_ (by first | (simp; done) | (simp; omega) | omega) _)))
  replace HB := HB'; clear HB'
  clear hW
  clear k0 c0 f0
  have k0 := q0; clear q0; have c0 := kcell k0; have f0 := kfree k0
  have ksa := qsa; clear qsa; have csa := kcell ksa; have fsa := kfree ksa
  refine Ph.wp_region_gr 30 30 [] (by kernel_rfl) (by kernel_rfl) (fun _ d _ _ _ h => by cases d <;> exact h) ?_
  simp only [List.take_succ_cons, List.take_zero, List.drop_succ_cons, List.drop_zero]
  repeat (first | (apply Ph.wpG_op rfl; (focus (intro w1 hS; have d0 := kcell (kblk hS k0); have dsa := kcell (kblk hS ksa); go_simp; first | exact rfl | exact ⟨rfl, Below.refl _ _⟩ | ((with_reducible refine (of64 _ _ _).mono ?_); rintro e w2 ⟨rfl, hb⟩; exact ⟨rfl, hb⟩) | ((with_reducible refine (rof _ _ _).mono ?_); rintro e w2 ⟨rfl, hb⟩; exact ⟨rfl, hb⟩) | ((with_reducible refine (lsame _ _ _ _ _).mono ?_); rintro e w2 ⟨rfl, hb⟩; exact ⟨rfl, hb⟩) | ((with_reducible refine (empty64 _ _ _).mono ?_); rintro e w2 ⟨rfl, hb⟩; exact ⟨rfl, hb⟩) | ((with_reducible refine (lref _ _ _).mono ?_); rintro e w2 ⟨rfl, hb⟩; exact ⟨rfl, hb⟩) | ((with_reducible refine (rempty _ _ _).mono ?_); rintro e w2 ⟨rfl, hb⟩; exact ⟨rfl, hb⟩) | ((with_reducible refine (has64 _ _ _ _).mono ?_); rintro e w2 ⟨rfl, hb⟩; exact ⟨rfl, hb⟩) | ((with_reducible refine (rhas _ _ _ _).mono ?_); rintro e w2 ⟨rfl, hb⟩; exact ⟨rfl, hb⟩)))); simp only [List.tail_cons, List.tail_nil, Act.put, List.setIfInBounds_toArray, List.set_cons_zero, List.set_cons_succ])
  refine Ph.wpG_nil ?_
  refine Ph.wpAl_nil ?_; intro v3 hS hgs hne
  clear hgs hne
  replace HB := below_call (by first | exact HB | (repeat (first | assumption | exact Below.refl _ _ | (refine below_call ?_ (by assumption)) | apply below_alloc | apply below_drew | apply below_drewN | (refine below_set ?_ (by first | (simp; done) | (simp; omega) | omega) _)))) hS; replace k0 : hp _ w.heap.size = some (.cells #[.int .i64 a, .int .i64 b] 23 (0, 0)) := kblk hS (by first | exact k0 | (simp [hp_alloc, hp_set, hp_drew, hp_drewN, cset_cells, k0, ksa]; done)); replace ksa : hp _ v2.heap.size = some (.cells #[.int .i64 a, .int .i64 b] 25 (0, 0)) := kblk hS (by first | exact ksa | (simp [hp_alloc, hp_set, hp_drew, hp_drewN, cset_cells, k0, ksa]; done)); replace c0 := kcell k0; replace f0 := kfree k0; replace csa := kcell ksa; replace fsa := kfree ksa
  go_wp2_with (first | (go_at_call 13; refine (of64 _ _ _).mono ?_; rintro e w1 ⟨rfl, hb⟩; replace HB := below_call (by first | exact HB | (repeat (first | assumption | exact Below.refl _ _ | (refine below_call ?_ (by assumption)) | apply below_alloc | apply below_drew | apply below_drewN | (refine below_set ?_ (by first | (simp; done) | (simp; omega) | omega) _)))) hb; replace k0 : hp _ w.heap.size = some (.cells #[.int .i64 a, .int .i64 b] 23 (0, 0)) := kblk hb (by first | exact k0 | (simp [hp_alloc, hp_set, hp_drew, hp_drewN, cset_cells, k0, ksa]; done)); replace ksa : hp _ v2.heap.size = some (.cells #[.int .i64 a, .int .i64 b] 25 (0, 0)) := kblk hb (by first | exact ksa | (simp [hp_alloc, hp_set, hp_drew, hp_drewN, cset_cells, k0, ksa]; done)); replace c0 := kcell k0; replace f0 := kfree k0; replace csa := kcell ksa; replace fsa := kfree ksa) | (go_at_call 14; refine (rof _ _ _).mono ?_; rintro e w1 ⟨rfl, hb⟩; replace HB := below_call (by first | exact HB | (repeat (first | assumption | exact Below.refl _ _ | (refine below_call ?_ (by assumption)) | apply below_alloc | apply below_drew | apply below_drewN | (refine below_set ?_ (by first | (simp; done) | (simp; omega) | omega) _)))) hb; replace k0 : hp _ w.heap.size = some (.cells #[.int .i64 a, .int .i64 b] 23 (0, 0)) := kblk hb (by first | exact k0 | (simp [hp_alloc, hp_set, hp_drew, hp_drewN, cset_cells, k0, ksa]; done)); replace ksa : hp _ v2.heap.size = some (.cells #[.int .i64 a, .int .i64 b] 25 (0, 0)) := kblk hb (by first | exact ksa | (simp [hp_alloc, hp_set, hp_drew, hp_drewN, cset_cells, k0, ksa]; done)); replace c0 := kcell k0; replace f0 := kfree k0; replace csa := kcell ksa; replace fsa := kfree ksa) | (go_at_call 12; refine (lsame _ _ _ _ _).mono ?_; rintro e w1 ⟨rfl, hb⟩; replace HB := below_call (by first | exact HB | (repeat (first | assumption | exact Below.refl _ _ | (refine below_call ?_ (by assumption)) | apply below_alloc | apply below_drew | apply below_drewN | (refine below_set ?_ (by first | (simp; done) | (simp; omega) | omega) _)))) hb; replace k0 : hp _ w.heap.size = some (.cells #[.int .i64 a, .int .i64 b] 23 (0, 0)) := kblk hb (by first | exact k0 | (simp [hp_alloc, hp_set, hp_drew, hp_drewN, cset_cells, k0, ksa]; done)); replace ksa : hp _ v2.heap.size = some (.cells #[.int .i64 a, .int .i64 b] 25 (0, 0)) := kblk hb (by first | exact ksa | (simp [hp_alloc, hp_set, hp_drew, hp_drewN, cset_cells, k0, ksa]; done)); replace c0 := kcell k0; replace f0 := kfree k0; replace csa := kcell ksa; replace fsa := kfree ksa) | (go_at_call 15; refine (empty64 _ _ _).mono ?_; rintro e w1 ⟨rfl, hb⟩; replace HB := below_call (by first | exact HB | (repeat (first | assumption | exact Below.refl _ _ | (refine below_call ?_ (by assumption)) | apply below_alloc | apply below_drew | apply below_drewN | (refine below_set ?_ (by first | (simp; done) | (simp; omega) | omega) _)))) hb; replace k0 : hp _ w.heap.size = some (.cells #[.int .i64 a, .int .i64 b] 23 (0, 0)) := kblk hb (by first | exact k0 | (simp [hp_alloc, hp_set, hp_drew, hp_drewN, cset_cells, k0, ksa]; done)); replace ksa : hp _ v2.heap.size = some (.cells #[.int .i64 a, .int .i64 b] 25 (0, 0)) := kblk hb (by first | exact ksa | (simp [hp_alloc, hp_set, hp_drew, hp_drewN, cset_cells, k0, ksa]; done)); replace c0 := kcell k0; replace f0 := kfree k0; replace csa := kcell ksa; replace fsa := kfree ksa) | (go_at_call 17; refine (lref _ _ _).mono ?_; rintro e w1 ⟨rfl, hb⟩; replace HB := below_call (by first | exact HB | (repeat (first | assumption | exact Below.refl _ _ | (refine below_call ?_ (by assumption)) | apply below_alloc | apply below_drew | apply below_drewN | (refine below_set ?_ (by first | (simp; done) | (simp; omega) | omega) _)))) hb; replace k0 : hp _ w.heap.size = some (.cells #[.int .i64 a, .int .i64 b] 23 (0, 0)) := kblk hb (by first | exact k0 | (simp [hp_alloc, hp_set, hp_drew, hp_drewN, cset_cells, k0, ksa]; done)); replace ksa : hp _ v2.heap.size = some (.cells #[.int .i64 a, .int .i64 b] 25 (0, 0)) := kblk hb (by first | exact ksa | (simp [hp_alloc, hp_set, hp_drew, hp_drewN, cset_cells, k0, ksa]; done)); replace c0 := kcell k0; replace f0 := kfree k0; replace csa := kcell ksa; replace fsa := kfree ksa) | (go_at_call 16; refine (rempty _ _ _).mono ?_; rintro e w1 ⟨rfl, hb⟩; replace HB := below_call (by first | exact HB | (repeat (first | assumption | exact Below.refl _ _ | (refine below_call ?_ (by assumption)) | apply below_alloc | apply below_drew | apply below_drewN | (refine below_set ?_ (by first | (simp; done) | (simp; omega) | omega) _)))) hb; replace k0 : hp _ w.heap.size = some (.cells #[.int .i64 a, .int .i64 b] 23 (0, 0)) := kblk hb (by first | exact k0 | (simp [hp_alloc, hp_set, hp_drew, hp_drewN, cset_cells, k0, ksa]; done)); replace ksa : hp _ v2.heap.size = some (.cells #[.int .i64 a, .int .i64 b] 25 (0, 0)) := kblk hb (by first | exact ksa | (simp [hp_alloc, hp_set, hp_drew, hp_drewN, cset_cells, k0, ksa]; done)); replace c0 := kcell k0; replace f0 := kfree k0; replace csa := kcell ksa; replace fsa := kfree ksa) | (go_at_call 18; refine (has64 _ _ _ _).mono ?_; rintro e w1 ⟨rfl, hb⟩; replace HB := below_call (by first | exact HB | (repeat (first | assumption | exact Below.refl _ _ | (refine below_call ?_ (by assumption)) | apply below_alloc | apply below_drew | apply below_drewN | (refine below_set ?_ (by first | (simp; done) | (simp; omega) | omega) _)))) hb; replace k0 : hp _ w.heap.size = some (.cells #[.int .i64 a, .int .i64 b] 23 (0, 0)) := kblk hb (by first | exact k0 | (simp [hp_alloc, hp_set, hp_drew, hp_drewN, cset_cells, k0, ksa]; done)); replace ksa : hp _ v2.heap.size = some (.cells #[.int .i64 a, .int .i64 b] 25 (0, 0)) := kblk hb (by first | exact ksa | (simp [hp_alloc, hp_set, hp_drew, hp_drewN, cset_cells, k0, ksa]; done)); replace c0 := kcell k0; replace f0 := kfree k0; replace csa := kcell ksa; replace fsa := kfree ksa) | (go_at_call 19; refine (rhas _ _ _ _).mono ?_; rintro e w1 ⟨rfl, hb⟩; replace HB := below_call (by first | exact HB | (repeat (first | assumption | exact Below.refl _ _ | (refine below_call ?_ (by assumption)) | apply below_alloc | apply below_drew | apply below_drewN | (refine below_set ?_ (by first | (simp; done) | (simp; omega) | omega) _)))) hb; replace k0 : hp _ w.heap.size = some (.cells #[.int .i64 a, .int .i64 b] 23 (0, 0)) := kblk hb (by first | exact k0 | (simp [hp_alloc, hp_set, hp_drew, hp_drewN, cset_cells, k0, ksa]; done)); replace ksa : hp _ v2.heap.size = some (.cells #[.int .i64 a, .int .i64 b] 25 (0, 0)) := kblk hb (by first | exact ksa | (simp [hp_alloc, hp_set, hp_drew, hp_drewN, cset_cells, k0, ksa]; done)); replace c0 := kcell k0; replace f0 := kfree k0; replace csa := kcell ksa; replace fsa := kfree ksa))
  all_goals (go_ret; exact ⟨by first | rfl | (simp; done), by (repeat (first | assumption | exact Below.refl _ _ | (refine below_call ?_ (by assumption)) | apply below_alloc | apply below_drew | apply below_drewN | (refine below_set ?_ (by first | (simp; done) | (simp; omega) | omega) _)))⟩)

end Go.Proofs.Ytplhbnehlkoedaa
