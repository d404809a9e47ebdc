/- Span: the laws' walks. -/
import Derived.Test.YtplhbnehlkoedaaF
import Derived.WalkKit
import Derived.WalkLawsBesides
import Derived.WalkSpells
import Derived.Below
import Derived.Deep.RegionHeld3
import Derived.Deep.QuietTactic
import Derived.BigQuiet
import Derived.Deep.DeepCutAuto
import Derived.Deep.DeepMust
import Derived.KernelRfl
import Derived.Lib.Hide
import Derived.Outline
import Derived.RegionTactic
namespace Go.Proofs.Ytplhbnehlkoedaa
open Go.RowKit
set_option linter.unusedVariables false
set_option linter.unusedSimpArgs false

attribute [local go_sem] max2_int min2_int max_two min_two ok_ite
attribute [local simp, local go_sem] ne_2 ne_3 ne_4 ne_5 en_2 en_3 en_4 en_5

set_option maxHeartbeats 16000000 in
theorem spanNumbers (a b c d x : Int) (w : World) :
    Calls Try.prog 9 #[.agg #[.int .i64 a, .int .i64 b], .agg #[.int .i64 c, .int .i64 d], .int .i64 x] w fun e w' => e = .returned (.bool true) ∧ Below w.heap.size w w' := by
  go_enter Try.func9, Try.ntmps9
  go_upto_region 1 with fail
  refine Ph.at_world ?_; intro W1 hW
  have q0 : hp W1 w.heap.size = some (.cells #[.int .i64 a, .int .i64 b] 23 (0, 0)) := by rw [hW]; simp [hp_alloc, hp_set, hp_drew, hp_drewN, cset_cells]
  have q1 : hp W1 (w.heap.size + 1) = some (.cells #[.int .i64 c, .int .i64 d] 23 (0, 0)) := by rw [hW]; simp [hp_alloc, hp_set, hp_drew, hp_drewN, cset_cells]
  have HB : Below w.heap.size w W1 := by rw [hW]; (repeat (first | assumption | exact Below.refl _ _ | (refine below_call ?_ (by assumption)) | apply below_alloc | apply below_drew | apply below_drewN | (refine below_set ?_ (by first | (simp; done) | (simp; omega) | omega) _)))
  clear hW
  have k0 := q0; clear q0; have c0 := kcell k0; have f0 := kfree k0
  have k1 := q1; clear q1; have c1 := kcell k1; have f1 := kfree k1
  go_wp2_with fail
  go_at_call 10; refine Ph.at_callw ?_; intro W2 hW
  have q0 : hp W2 w.heap.size = some (.cells #[.int .i64 a, .int .i64 b] 23 (0, 0)) := by rw [hW]; simp [hp_alloc, hp_set, hp_drew, hp_drewN, cset_cells, k0, k1]
  have q1 : hp W2 (w.heap.size + 1) = some (.cells #[.int .i64 c, .int .i64 d] 23 (0, 0)) := by rw [hW]; simp [hp_alloc, hp_set, hp_drew, hp_drewN, cset_cells, k0, k1]
  have HB' : Below w.heap.size w W2 := by rw [hW]; (repeat (first | assumption | exact Below.refl _ _ | (refine below_call ?_ (by assumption)) | apply below_alloc | apply below_drew | apply below_drewN | (refine below_set ?_ (by first | (simp; done) | (simp; omega) | omega) _)))
  replace HB := HB'; clear HB'
  clear hW
  clear k0 c0 f0
  clear k1 c1 f1
  have k0 := q0; clear q0; have c0 := kcell k0; have f0 := kfree k0
  have k1 := q1; clear q1; have c1 := kcell k1; have f1 := kfree k1
  refine (fixed_true _).mono ?_; rintro e v1 ⟨rfl, hb⟩; replace HB := below_call (by first | exact HB | (repeat (first | assumption | exact Below.refl _ _ | (refine below_call ?_ (by assumption)) | apply below_alloc | apply below_drew | apply below_drewN | (refine below_set ?_ (by first | (simp; done) | (simp; omega) | omega) _)))) hb; replace k0 : hp _ w.heap.size = some (.cells #[.int .i64 a, .int .i64 b] 23 (0, 0)) := kblk hb (by first | exact k0 | (simp [hp_alloc, hp_set, hp_drew, hp_drewN, cset_cells, k0, k1]; done)); replace k1 : hp _ (w.heap.size + 1) = some (.cells #[.int .i64 c, .int .i64 d] 23 (0, 0)) := kblk hb (by first | exact k1 | (simp [hp_alloc, hp_set, hp_drew, hp_drewN, cset_cells, k0, k1]; done)); replace c0 := kcell k0; replace f0 := kfree k0; replace c1 := kcell k1; replace f1 := kfree k1
  go_wp2_with fail
  refine Ph.wp_region_gr 4 6 [] (by kernel_rfl) (by kernel_rfl) (fun _ d _ _ _ h => by cases d <;> exact h) ?_
  simp only [List.take_succ_cons, List.take_zero, List.drop_succ_cons, List.drop_zero]
  repeat (first | (apply Ph.wpG_op rfl; (focus (intro w1 hS; have d0 := kcell (kblk hS k0); have d1 := kcell (kblk hS k1); go_simp; first | exact rfl | exact ⟨rfl, Below.refl _ _⟩ | ((with_reducible refine (lof _ _ _).mono ?_); rintro e w2 ⟨rfl, hb⟩; exact ⟨rfl, hb⟩)))); simp only [List.tail_cons, List.tail_nil, Act.put, List.setIfInBounds_toArray, List.set_cons_zero, List.set_cons_succ])
  refine Ph.wpG_nil ?_
  apply Ph.wpAl_op (fun g => .pointer (some ⟨g, 0, none⟩)) rfl; (focus (intro w1; go_simp; exact rfl))
  intro sa; simp only [List.tail_cons, List.tail_nil, Act.put, List.setIfInBounds_toArray, List.set_cons_zero, List.set_cons_succ]
  apply Ph.wpAl_op (fun g => .pointer (some ⟨g, 0, none⟩)) rfl; (focus (intro w1; go_simp; exact rfl))
  intro sb; simp only [List.tail_cons, List.tail_nil, Act.put, List.setIfInBounds_toArray, List.set_cons_zero, List.set_cons_succ]
  refine Ph.wpAl_nil ?_; intro v2 hS hgs hne
  simp only [List.nil_append, List.cons_append, List.forall_mem_cons, List.pairwise_cons, Prod.mk.injEq] at hgs hne
  obtain ⟨⟨bsa, ksa⟩, ⟨bsb, ksb⟩, _⟩ := hgs
  replace ksa : hp v2 sa = some (.cells #[.int .i64 0, .int .i64 0] 25 (0, 0)) := ksa
  replace ksb : hp v2 sb = some (.cells #[.int .i64 0, .int .i64 0] 25 (0, 0)) := ksb
  have nsasb : sa ≠ sb := by simp at hne; first | exact hne | exact hne.1 | omega
  have msasb : sb ≠ sa := fun e => nsasb e.symm
  have hk := klt k0
  have n0sa : w.heap.size ≠ sa := by omega
  have m0sa : sa ≠ w.heap.size := by omega
  have n0sb : w.heap.size ≠ sb := by omega
  have m0sb : sb ≠ w.heap.size := by omega
  clear hk
  have hk := klt k1
  have n1sa : w.heap.size + 1 ≠ sa := by omega
  have m1sa : sa ≠ w.heap.size + 1 := by omega
  have n1sb : w.heap.size + 1 ≠ sb := by omega
  have m1sb : sb ≠ w.heap.size + 1 := by omega
  clear hk
  have esa : w.heap.size ≤ sa := by have := HB.size; omega
  have esb : w.heap.size ≤ sb := by have := HB.size; omega
  replace HB := below_call (by first | exact HB | (repeat (first | assumption | exact Below.refl _ _ | (refine below_call ?_ (by assumption)) | apply below_alloc | apply below_drew | apply below_drewN | (refine below_set ?_ (by first | (simp; done) | (simp; omega) | omega) _)))) hS; replace k0 : hp _ w.heap.size = some (.cells #[.int .i64 a, .int .i64 b] 23 (0, 0)) := kblk hS (by first | exact k0 | (simp [hp_alloc, hp_set, hp_drew, hp_drewN, cset_cells, k0, k1, nsasb, msasb, n0sa, m0sa, n0sb, m0sb, n1sa, m1sa, n1sb, m1sb]; done)); replace k1 : hp _ (w.heap.size + 1) = some (.cells #[.int .i64 c, .int .i64 d] 23 (0, 0)) := kblk hS (by first | exact k1 | (simp [hp_alloc, hp_set, hp_drew, hp_drewN, cset_cells, k0, k1, nsasb, msasb, n0sa, m0sa, n0sb, m0sb, n1sa, m1sa, n1sb, m1sb]; done)); replace c0 := kcell k0; replace f0 := kfree k0; replace c1 := kcell k1; replace f1 := kfree k1
  have csa := kcell ksa; have fsa := kfree ksa
  have csb := kcell ksb; have fsb := kfree ksb
  go_wp2_with fail
  refine Ph.at_world ?_; intro W3 hW
  have q0 : hp W3 w.heap.size = some (.cells #[.int .i64 a, .int .i64 b] 23 (0, 0)) := by rw [hW]; simp [hp_alloc, hp_set, hp_drew, hp_drewN, cset_cells, k0, k1, ksa, ksb, nsasb, msasb, n0sa, m0sa, n0sb, m0sb, n1sa, m1sa, n1sb, m1sb]
  have q1 : hp W3 (w.heap.size + 1) = some (.cells #[.int .i64 c, .int .i64 d] 23 (0, 0)) := by rw [hW]; simp [hp_alloc, hp_set, hp_drew, hp_drewN, cset_cells, k0, k1, ksa, ksb, nsasb, msasb, n0sa, m0sa, n0sb, m0sb, n1sa, m1sa, n1sb, m1sb]
  have qsa : hp W3 sa = some (.cells #[.int .i64 a, .int .i64 b] 25 (0, 0)) := by rw [hW]; simp [hp_alloc, hp_set, hp_drew, hp_drewN, cset_cells, k0, k1, ksa, ksb, nsasb, msasb, n0sa, m0sa, n0sb, m0sb, n1sa, m1sa, n1sb, m1sb]
  have qsb : hp W3 sb = some (.cells #[.int .i64 c, .int .i64 d] 25 (0, 0)) := by rw [hW]; simp [hp_alloc, hp_set, hp_drew, hp_drewN, cset_cells, k0, k1, ksa, ksb, nsasb, msasb, n0sa, m0sa, n0sb, m0sb, n1sa, m1sa, n1sb, m1sb]
  have HB' : Below w.heap.size w W3 := by rw [hW]; (repeat (first | assumption | exact Below.refl _ _ | (refine below_call ?_ (by assumption)) | apply below_alloc | apply below_drew | apply below_drewN | (refine below_set ?_ (by first | (simp; done) | (simp; omega) | omega) _)))
  replace HB := HB'; clear HB'
  clear hW
  clear k0 c0 f0
  clear k1 c1 f1
  clear ksa csa fsa
  clear ksb csb fsb
  have k0 := q0; clear q0; have c0 := kcell k0; have f0 := kfree k0
  have k1 := q1; clear q1; have c1 := kcell k1; have f1 := kfree k1
  have ksa := qsa; clear qsa; have csa := kcell ksa; have fsa := kfree ksa
  have ksb := qsb; clear qsb; have csb := kcell ksb; have fsb := kfree ksb
  refine Ph.wp_region_gr 8 8 [] (by kernel_rfl) (by kernel_rfl) (fun _ d _ _ _ h => by cases d <;> exact h) ?_
  simp only [List.take_succ_cons, List.take_zero, List.drop_succ_cons, List.drop_zero]
  repeat (first | (apply Ph.wpG_op rfl; (focus (intro w1 hS; have d0 := kcell (kblk hS k0); have d1 := kcell (kblk hS k1); have dsa := kcell (kblk hS ksa); have dsb := kcell (kblk hS ksb); go_simp; first | exact rfl | exact ⟨rfl, Below.refl _ _⟩ | ((with_reducible refine (has64 _ _ _ _).mono ?_); rintro e w2 ⟨rfl, hb⟩; exact ⟨rfl, hb⟩)))); simp only [List.tail_cons, List.tail_nil, Act.put, List.setIfInBounds_toArray, List.set_cons_zero, List.set_cons_succ])
  refine Ph.wpG_nil ?_
  refine Ph.wpAl_nil ?_; intro v3 hS hgs hne
  clear hgs hne
  replace HB := below_call (by first | exact HB | (repeat (first | assumption | exact Below.refl _ _ | (refine below_call ?_ (by assumption)) | apply below_alloc | apply below_drew | apply below_drewN | (refine below_set ?_ (by first | (simp; done) | (simp; omega) | omega) _)))) hS; replace k0 : hp _ w.heap.size = some (.cells #[.int .i64 a, .int .i64 b] 23 (0, 0)) := kblk hS (by first | exact k0 | (simp [hp_alloc, hp_set, hp_drew, hp_drewN, cset_cells, k0, k1, ksa, ksb, nsasb, msasb, n0sa, m0sa, n0sb, m0sb, n1sa, m1sa, n1sb, m1sb]; done)); replace k1 : hp _ (w.heap.size + 1) = some (.cells #[.int .i64 c, .int .i64 d] 23 (0, 0)) := kblk hS (by first | exact k1 | (simp [hp_alloc, hp_set, hp_drew, hp_drewN, cset_cells, k0, k1, ksa, ksb, nsasb, msasb, n0sa, m0sa, n0sb, m0sb, n1sa, m1sa, n1sb, m1sb]; done)); replace ksa : hp _ sa = some (.cells #[.int .i64 a, .int .i64 b] 25 (0, 0)) := kblk hS (by first | exact ksa | (simp [hp_alloc, hp_set, hp_drew, hp_drewN, cset_cells, k0, k1, ksa, ksb, nsasb, msasb, n0sa, m0sa, n0sb, m0sb, n1sa, m1sa, n1sb, m1sb]; done)); replace ksb : hp _ sb = some (.cells #[.int .i64 c, .int .i64 d] 25 (0, 0)) := kblk hS (by first | exact ksb | (simp [hp_alloc, hp_set, hp_drew, hp_drewN, cset_cells, k0, k1, ksa, ksb, nsasb, msasb, n0sa, m0sa, n0sb, m0sb, n1sa, m1sa, n1sb, m1sb]; done)); replace c0 := kcell k0; replace f0 := kfree k0; replace c1 := kcell k1; replace f1 := kfree k1; replace csa := kcell ksa; replace fsa := kfree ksa; replace csb := kcell ksb; replace fsb := kfree ksb
  go_wp2_with fail
  go_at_call 38; refine Ph.at_callw ?_; intro W4 hW
  have q0 : hp W4 w.heap.size = some (.cells #[.int .i64 a, .int .i64 b] 23 (0, 0)) := by rw [hW]; simp [hp_alloc, hp_set, hp_drew, hp_drewN, cset_cells, k0, k1, ksa, ksb, nsasb, msasb, n0sa, m0sa, n0sb, m0sb, n1sa, m1sa, n1sb, m1sb]
  have q1 : hp W4 (w.heap.size + 1) = some (.cells #[.int .i64 c, .int .i64 d] 23 (0, 0)) := by rw [hW]; simp [hp_alloc, hp_set, hp_drew, hp_drewN, cset_cells, k0, k1, ksa, ksb, nsasb, msasb, n0sa, m0sa, n0sb, m0sb, n1sa, m1sa, n1sb, m1sb]
  have qsa : hp W4 sa = some (.cells #[.int .i64 a, .int .i64 b] 25 (0, 0)) := by rw [hW]; simp [hp_alloc, hp_set, hp_drew, hp_drewN, cset_cells, k0, k1, ksa, ksb, nsasb, msasb, n0sa, m0sa, n0sb, m0sb, n1sa, m1sa, n1sb, m1sb]
  have qsb : hp W4 sb = some (.cells #[.int .i64 c, .int .i64 d] 25 (0, 0)) := by rw [hW]; simp [hp_alloc, hp_set, hp_drew, hp_drewN, cset_cells, k0, k1, ksa, ksb, nsasb, msasb, n0sa, m0sa, n0sb, m0sb, n1sa, m1sa, n1sb, m1sb]
  have HB' : Below w.heap.size w W4 := by rw [hW]; (repeat (first | assumption | exact Below.refl _ _ | (refine below_call ?_ (by assumption)) | apply below_alloc | apply below_drew | apply below_drewN | (refine below_set ?_ (by first | (simp; done) | (simp; omega) | omega) _)))
  replace HB := HB'; clear HB'
  clear hW
  clear k0 c0 f0
  clear k1 c1 f1
  clear ksa csa fsa
  clear ksb csb fsb
  have k0 := q0; clear q0; have c0 := kcell k0; have f0 := kfree k0
  have k1 := q1; clear q1; have c1 := kcell k1; have f1 := kfree k1
  have ksa := qsa; clear qsa; have csa := kcell ksa; have fsa := kfree ksa
  have ksb := qsb; clear qsb; have csb := kcell ksb; have fsb := kfree ksb
  refine (cut64 _ _ _ _ _).mono ?_; rintro e v4 ⟨rfl, hb⟩; replace HB := below_call (by first | exact HB | (repeat (first | assumption | exact Below.refl _ _ | (refine below_call ?_ (by assumption)) | apply below_alloc | apply below_drew | apply below_drewN | (refine below_set ?_ (by first | (simp; done) | (simp; omega) | omega) _)))) hb; replace k0 : hp _ w.heap.size = some (.cells #[.int .i64 a, .int .i64 b] 23 (0, 0)) := kblk hb (by first | exact k0 | (simp [hp_alloc, hp_set, hp_drew, hp_drewN, cset_cells, k0, k1, ksa, ksb, nsasb, msasb, n0sa, m0sa, n0sb, m0sb, n1sa, m1sa, n1sb, m1sb]; done)); replace k1 : hp _ (w.heap.size + 1) = some (.cells #[.int .i64 c, .int .i64 d] 23 (0, 0)) := kblk hb (by first | exact k1 | (simp [hp_alloc, hp_set, hp_drew, hp_drewN, cset_cells, k0, k1, ksa, ksb, nsasb, msasb, n0sa, m0sa, n0sb, m0sb, n1sa, m1sa, n1sb, m1sb]; done)); replace ksa : hp _ sa = some (.cells #[.int .i64 a, .int .i64 b] 25 (0, 0)) := kblk hb (by first | exact ksa | (simp [hp_alloc, hp_set, hp_drew, hp_drewN, cset_cells, k0, k1, ksa, ksb, nsasb, msasb, n0sa, m0sa, n0sb, m0sb, n1sa, m1sa, n1sb, m1sb]; done)); replace ksb : hp _ sb = some (.cells #[.int .i64 c, .int .i64 d] 25 (0, 0)) := kblk hb (by first | exact ksb | (simp [hp_alloc, hp_set, hp_drew, hp_drewN, cset_cells, k0, k1, ksa, ksb, nsasb, msasb, n0sa, m0sa, n0sb, m0sb, n1sa, m1sa, n1sb, m1sb]; done)); replace c0 := kcell k0; replace f0 := kfree k0; replace c1 := kcell k1; replace f1 := kfree k1; replace csa := kcell ksa; replace fsa := kfree ksa; replace csb := kcell ksb; replace fsb := kfree ksb
  have z0 := klt k0
  have y00 : (w.heap.size = v4.heap.size) = False := eq_false (by omega)
  have y01 : (w.heap.size = v4.heap.size + 1) = False := eq_false (by omega)
  have z1 := klt k1
  have y10 : (w.heap.size + 1 = v4.heap.size) = False := eq_false (by omega)
  have y11 : (w.heap.size + 1 = v4.heap.size + 1) = False := eq_false (by omega)
  have zsa := klt ksa
  have ysa0 : (sa = v4.heap.size) = False := eq_false (by omega)
  have ysa1 : (sa = v4.heap.size + 1) = False := eq_false (by omega)
  have zsb := klt ksb
  have ysb0 : (sb = v4.heap.size) = False := eq_false (by omega)
  have ysb1 : (sb = v4.heap.size + 1) = False := eq_false (by omega)
  go_wp2_with fail
  go_at_call 18
  refine Ph.at_callw ?_; intro W9 hW
  have n0l1 : (w.heap.size = v4.heap.size) = False := eq_false (by have := klt k0; omega)
  have n1l1 : (w.heap.size + 1 = v4.heap.size) = False := eq_false (by have := klt k1; omega)
  have nsal1 : (sa = v4.heap.size) = False := eq_false (by have := klt ksa; omega)
  have nsbl1 : (sb = v4.heap.size) = False := eq_false (by have := klt ksb; omega)
  have n0l2 : (w.heap.size = v4.heap.size + 1) = False := eq_false (by have := klt k0; omega)
  have n1l2 : (w.heap.size + 1 = v4.heap.size + 1) = False := eq_false (by have := klt k1; omega)
  have nsal2 : (sa = v4.heap.size + 1) = False := eq_false (by have := klt ksa; omega)
  have nsbl2 : (sb = v4.heap.size + 1) = False := eq_false (by have := klt ksb; omega)
  have q0 : hp W9 w.heap.size = some (.cells #[.int .i64 a, .int .i64 b] 23 (0, 0)) := by rw [hW]; simp [hp_alloc, hp_set, hp_drew, hp_drewN, cset_cells, k0, k1, ksa, ksb, n0l1, n1l1, nsal1, nsbl1, n0l2, n1l2, nsal2, nsbl2, nsasb, msasb, n0sa, m0sa, n0sb, m0sb, n1sa, m1sa, n1sb, m1sb]
  have q1 : hp W9 (w.heap.size + 1) = some (.cells #[.int .i64 c, .int .i64 d] 23 (0, 0)) := by rw [hW]; simp [hp_alloc, hp_set, hp_drew, hp_drewN, cset_cells, k0, k1, ksa, ksb, n0l1, n1l1, nsal1, nsbl1, n0l2, n1l2, nsal2, nsbl2, nsasb, msasb, n0sa, m0sa, n0sb, m0sb, n1sa, m1sa, n1sb, m1sb]
  have qsa : hp W9 sa = some (.cells #[.int .i64 a, .int .i64 b] 25 (0, 0)) := by rw [hW]; simp [hp_alloc, hp_set, hp_drew, hp_drewN, cset_cells, k0, k1, ksa, ksb, n0l1, n1l1, nsal1, nsbl1, n0l2, n1l2, nsal2, nsbl2, nsasb, msasb, n0sa, m0sa, n0sb, m0sb, n1sa, m1sa, n1sb, m1sb]
  have qsb : hp W9 sb = some (.cells #[.int .i64 c, .int .i64 d] 25 (0, 0)) := by rw [hW]; simp [hp_alloc, hp_set, hp_drew, hp_drewN, cset_cells, k0, k1, ksa, ksb, n0l1, n1l1, nsal1, nsbl1, n0l2, n1l2, nsal2, nsbl2, nsasb, msasb, n0sa, m0sa, n0sb, m0sb, n1sa, m1sa, n1sb, m1sb]
  have ql1 : hp W9 v4.heap.size = some (.cells #[.int .i64 (cutL a b c d).1, .int .i64 (cutL a b c d).2] 25 (0, 0)) := by rw [hW]; simp [hp_alloc, hp_set, hp_drew, hp_drewN, cset_cells, k0, k1, ksa, ksb, n0l1, n1l1, nsal1, nsbl1, n0l2, n1l2, nsal2, nsbl2, nsasb, msasb, n0sa, m0sa, n0sb, m0sb, n1sa, m1sa, n1sb, m1sb]
  have ql2 : hp W9 (v4.heap.size + 1) = some (.cells #[.int .i64 (cutR a b c d).1, .int .i64 (cutR a b c d).2] 25 (0, 0)) := by rw [hW]; simp [hp_alloc, hp_set, hp_drew, hp_drewN, cset_cells, k0, k1, ksa, ksb, n0l1, n1l1, nsal1, nsbl1, n0l2, n1l2, nsal2, nsbl2, nsasb, msasb, n0sa, m0sa, n0sb, m0sb, n1sa, m1sa, n1sb, m1sb]
  have HB' : Below w.heap.size w W9 := by rw [hW]; (repeat (first | assumption | exact Below.refl _ _ | (refine below_call ?_ (by assumption)) | apply below_alloc | apply below_drew | apply below_drewN | (refine below_set ?_ (by first | (simp; done) | (simp; omega) | omega) _)))
  replace HB := HB'; clear HB'
  clear hW
  clear k0 c0 f0
  clear k1 c1 f1
  clear ksa csa fsa
  clear ksb csb fsb
  have k0 := q0; clear q0; have c0 := kcell k0; have f0 := kfree k0
  have k1 := q1; clear q1; have c1 := kcell k1; have f1 := kfree k1
  have ksa := qsa; clear qsa; have csa := kcell ksa; have fsa := kfree ksa
  have ksb := qsb; clear qsb; have csb := kcell ksb; have fsb := kfree ksb
  have kl1 := ql1; clear ql1; have cl1 := kcell kl1; have fl1 := kfree kl1
  have kl2 := ql2; clear ql2; have cl2 := kcell kl2; have fl2 := kfree kl2
  have fm := Lib.hid (num_meet a b c d x)
  have fh := Lib.hid (num_hull a b c d x)
  have fc := Lib.hid (num_cut a b c d x)
  have f2 := num_two a b c d
  have ft := Lib.hid (num_touch a b c d x)
  have fw := Lib.hid (num_within a b c d x)
  cases z0 : hasB a b x
  all_goals cases z1 : hasB c d x
  all_goals cases z2 : hasB (cutL a b c d).1 (cutL a b c d).2 x
  all_goals cases z3 : hasB (cutR a b c d).1 (cutR a b c d).2 x
  all_goals cases z4 : touchesB a b c d
  all_goals cases z5 : withinB a b c d
  all_goals cases z6 : hasB (hullS a b c d).1 (hullS a b c d).2 x
  all_goals (have fm' := fm.out; have fh' := fh.out; have fc' := fc.out; have ft' := ft.out; have fw' := fw.out; clear fm fh fc ft fw; simp only [z0, z1, z2, z3, z4, z5, z6, Bool.and_self, Bool.and_true, Bool.true_and, Bool.and_false, Bool.false_and, Bool.or_self, Bool.or_true, Bool.true_or, Bool.or_false, Bool.false_or, Bool.not_true, Bool.not_false, forall_const, reduceCtorEq, false_implies, imp_false, Bool.true_eq_false, Bool.false_eq_true, not_true_eq_false, not_false_eq_true] at fh' fc' ft' fw' fm')
  all_goals first | contradiction | skip
  all_goals (try clear fh'); all_goals (try clear fc'); all_goals (try clear ft'); all_goals (try clear fw')
  all_goals (go_wp2_with (first | (go_at_call 18; refine (has64 _ _ _ _).mono ?_; rintro e w1 ⟨rfl, hb⟩; replace HB := below_call (by first | exact HB | (repeat (first | assumption | exact Below.refl _ _ | (refine below_call ?_ (by assumption)) | apply below_alloc | apply below_drew | apply below_drewN | (refine below_set ?_ (by first | (simp; done) | (simp; omega) | omega) _)))) hb; replace k0 : hp _ w.heap.size = some (.cells #[.int .i64 a, .int .i64 b] 23 (0, 0)) := kblk hb (by first | exact k0 | (simp [hp_alloc, hp_set, hp_drew, hp_drewN, cset_cells, k0, k1, ksa, ksb, kl1, kl2, nsasb, msasb, n0sa, m0sa, n0sb, m0sb, n1sa, m1sa, n1sb, m1sb]; done)); replace k1 : hp _ (w.heap.size + 1) = some (.cells #[.int .i64 c, .int .i64 d] 23 (0, 0)) := kblk hb (by first | exact k1 | (simp [hp_alloc, hp_set, hp_drew, hp_drewN, cset_cells, k0, k1, ksa, ksb, kl1, kl2, nsasb, msasb, n0sa, m0sa, n0sb, m0sb, n1sa, m1sa, n1sb, m1sb]; done)); replace ksa : hp _ sa = some (.cells #[.int .i64 a, .int .i64 b] 25 (0, 0)) := kblk hb (by first | exact ksa | (simp [hp_alloc, hp_set, hp_drew, hp_drewN, cset_cells, k0, k1, ksa, ksb, kl1, kl2, nsasb, msasb, n0sa, m0sa, n0sb, m0sb, n1sa, m1sa, n1sb, m1sb]; done)); replace ksb : hp _ sb = some (.cells #[.int .i64 c, .int .i64 d] 25 (0, 0)) := kblk hb (by first | exact ksb | (simp [hp_alloc, hp_set, hp_drew, hp_drewN, cset_cells, k0, k1, ksa, ksb, kl1, kl2, nsasb, msasb, n0sa, m0sa, n0sb, m0sb, n1sa, m1sa, n1sb, m1sb]; done)); replace kl1 : hp _ v4.heap.size = some (.cells #[.int .i64 (cutL a b c d).1, .int .i64 (cutL a b c d).2] 25 (0, 0)) := kblk hb (by first | exact kl1 | (simp [hp_alloc, hp_set, hp_drew, hp_drewN, cset_cells, k0, k1, ksa, ksb, kl1, kl2, nsasb, msasb, n0sa, m0sa, n0sb, m0sb, n1sa, m1sa, n1sb, m1sb]; done)); replace kl2 : hp _ (v4.heap.size + 1) = some (.cells #[.int .i64 (cutR a b c d).1, .int .i64 (cutR a b c d).2] 25 (0, 0)) := kblk hb (by first | exact kl2 | (simp [hp_alloc, hp_set, hp_drew, hp_drewN, cset_cells, k0, k1, ksa, ksb, kl1, kl2, nsasb, msasb, n0sa, m0sa, n0sb, m0sb, n1sa, m1sa, n1sb, m1sb]; done)); replace c0 := kcell k0; replace f0 := kfree k0; replace c1 := kcell k1; replace f1 := kfree k1; replace csa := kcell ksa; replace fsa := kfree ksa; replace csb := kcell ksb; replace fsb := kfree ksb; replace cl1 := kcell kl1; replace fl1 := kfree kl1; replace cl2 := kcell kl2; replace fl2 := kfree kl2) | (go_at_call 32; refine (meet64 _ _ _ _ _).mono ?_; rintro e w1 ⟨rfl, hb⟩; replace HB := below_call (by first | exact HB | (repeat (first | assumption | exact Below.refl _ _ | (refine below_call ?_ (by assumption)) | apply below_alloc | apply below_drew | apply below_drewN | (refine below_set ?_ (by first | (simp; done) | (simp; omega) | omega) _)))) hb; replace k0 : hp _ w.heap.size = some (.cells #[.int .i64 a, .int .i64 b] 23 (0, 0)) := kblk hb (by first | exact k0 | (simp [hp_alloc, hp_set, hp_drew, hp_drewN, cset_cells, k0, k1, ksa, ksb, kl1, kl2, nsasb, msasb, n0sa, m0sa, n0sb, m0sb, n1sa, m1sa, n1sb, m1sb]; done)); replace k1 : hp _ (w.heap.size + 1) = some (.cells #[.int .i64 c, .int .i64 d] 23 (0, 0)) := kblk hb (by first | exact k1 | (simp [hp_alloc, hp_set, hp_drew, hp_drewN, cset_cells, k0, k1, ksa, ksb, kl1, kl2, nsasb, msasb, n0sa, m0sa, n0sb, m0sb, n1sa, m1sa, n1sb, m1sb]; done)); replace ksa : hp _ sa = some (.cells #[.int .i64 a, .int .i64 b] 25 (0, 0)) := kblk hb (by first | exact ksa | (simp [hp_alloc, hp_set, hp_drew, hp_drewN, cset_cells, k0, k1, ksa, ksb, kl1, kl2, nsasb, msasb, n0sa, m0sa, n0sb, m0sb, n1sa, m1sa, n1sb, m1sb]; done)); replace ksb : hp _ sb = some (.cells #[.int .i64 c, .int .i64 d] 25 (0, 0)) := kblk hb (by first | exact ksb | (simp [hp_alloc, hp_set, hp_drew, hp_drewN, cset_cells, k0, k1, ksa, ksb, kl1, kl2, nsasb, msasb, n0sa, m0sa, n0sb, m0sb, n1sa, m1sa, n1sb, m1sb]; done)); replace kl1 : hp _ v4.heap.size = some (.cells #[.int .i64 (cutL a b c d).1, .int .i64 (cutL a b c d).2] 25 (0, 0)) := kblk hb (by first | exact kl1 | (simp [hp_alloc, hp_set, hp_drew, hp_drewN, cset_cells, k0, k1, ksa, ksb, kl1, kl2, nsasb, msasb, n0sa, m0sa, n0sb, m0sb, n1sa, m1sa, n1sb, m1sb]; done)); replace kl2 : hp _ (v4.heap.size + 1) = some (.cells #[.int .i64 (cutR a b c d).1, .int .i64 (cutR a b c d).2] 25 (0, 0)) := kblk hb (by first | exact kl2 | (simp [hp_alloc, hp_set, hp_drew, hp_drewN, cset_cells, k0, k1, ksa, ksb, kl1, kl2, nsasb, msasb, n0sa, m0sa, n0sb, m0sb, n1sa, m1sa, n1sb, m1sb]; done)); replace c0 := kcell k0; replace f0 := kfree k0; replace c1 := kcell k1; replace f1 := kfree k1; replace csa := kcell ksa; replace fsa := kfree ksa; replace csb := kcell ksb; replace fsb := kfree ksb; replace cl1 := kcell kl1; replace fl1 := kfree kl1; replace cl2 := kcell kl2; replace fl2 := kfree kl2) | (go_at_call 42; refine (hull64 _ _ _ _ _).mono ?_; rintro e w1 ⟨rfl, hb⟩; replace HB := below_call (by first | exact HB | (repeat (first | assumption | exact Below.refl _ _ | (refine below_call ?_ (by assumption)) | apply below_alloc | apply below_drew | apply below_drewN | (refine below_set ?_ (by first | (simp; done) | (simp; omega) | omega) _)))) hb; replace k0 : hp _ w.heap.size = some (.cells #[.int .i64 a, .int .i64 b] 23 (0, 0)) := kblk hb (by first | exact k0 | (simp [hp_alloc, hp_set, hp_drew, hp_drewN, cset_cells, k0, k1, ksa, ksb, kl1, kl2, nsasb, msasb, n0sa, m0sa, n0sb, m0sb, n1sa, m1sa, n1sb, m1sb]; done)); replace k1 : hp _ (w.heap.size + 1) = some (.cells #[.int .i64 c, .int .i64 d] 23 (0, 0)) := kblk hb (by first | exact k1 | (simp [hp_alloc, hp_set, hp_drew, hp_drewN, cset_cells, k0, k1, ksa, ksb, kl1, kl2, nsasb, msasb, n0sa, m0sa, n0sb, m0sb, n1sa, m1sa, n1sb, m1sb]; done)); replace ksa : hp _ sa = some (.cells #[.int .i64 a, .int .i64 b] 25 (0, 0)) := kblk hb (by first | exact ksa | (simp [hp_alloc, hp_set, hp_drew, hp_drewN, cset_cells, k0, k1, ksa, ksb, kl1, kl2, nsasb, msasb, n0sa, m0sa, n0sb, m0sb, n1sa, m1sa, n1sb, m1sb]; done)); replace ksb : hp _ sb = some (.cells #[.int .i64 c, .int .i64 d] 25 (0, 0)) := kblk hb (by first | exact ksb | (simp [hp_alloc, hp_set, hp_drew, hp_drewN, cset_cells, k0, k1, ksa, ksb, kl1, kl2, nsasb, msasb, n0sa, m0sa, n0sb, m0sb, n1sa, m1sa, n1sb, m1sb]; done)); replace kl1 : hp _ v4.heap.size = some (.cells #[.int .i64 (cutL a b c d).1, .int .i64 (cutL a b c d).2] 25 (0, 0)) := kblk hb (by first | exact kl1 | (simp [hp_alloc, hp_set, hp_drew, hp_drewN, cset_cells, k0, k1, ksa, ksb, kl1, kl2, nsasb, msasb, n0sa, m0sa, n0sb, m0sb, n1sa, m1sa, n1sb, m1sb]; done)); replace kl2 : hp _ (v4.heap.size + 1) = some (.cells #[.int .i64 (cutR a b c d).1, .int .i64 (cutR a b c d).2] 25 (0, 0)) := kblk hb (by first | exact kl2 | (simp [hp_alloc, hp_set, hp_drew, hp_drewN, cset_cells, k0, k1, ksa, ksb, kl1, kl2, nsasb, msasb, n0sa, m0sa, n0sb, m0sb, n1sa, m1sa, n1sb, m1sb]; done)); replace c0 := kcell k0; replace f0 := kfree k0; replace c1 := kcell k1; replace f1 := kfree k1; replace csa := kcell ksa; replace fsa := kfree ksa; replace csb := kcell ksb; replace fsb := kfree ksb; replace cl1 := kcell kl1; replace fl1 := kfree kl1; replace cl2 := kcell kl2; replace fl2 := kfree kl2) | (go_at_call 34; refine (meets64 _ _ _ _ _).mono ?_; rintro e w1 ⟨rfl, hb⟩; replace HB := below_call (by first | exact HB | (repeat (first | assumption | exact Below.refl _ _ | (refine below_call ?_ (by assumption)) | apply below_alloc | apply below_drew | apply below_drewN | (refine below_set ?_ (by first | (simp; done) | (simp; omega) | omega) _)))) hb; replace k0 : hp _ w.heap.size = some (.cells #[.int .i64 a, .int .i64 b] 23 (0, 0)) := kblk hb (by first | exact k0 | (simp [hp_alloc, hp_set, hp_drew, hp_drewN, cset_cells, k0, k1, ksa, ksb, kl1, kl2, nsasb, msasb, n0sa, m0sa, n0sb, m0sb, n1sa, m1sa, n1sb, m1sb]; done)); replace k1 : hp _ (w.heap.size + 1) = some (.cells #[.int .i64 c, .int .i64 d] 23 (0, 0)) := kblk hb (by first | exact k1 | (simp [hp_alloc, hp_set, hp_drew, hp_drewN, cset_cells, k0, k1, ksa, ksb, kl1, kl2, nsasb, msasb, n0sa, m0sa, n0sb, m0sb, n1sa, m1sa, n1sb, m1sb]; done)); replace ksa : hp _ sa = some (.cells #[.int .i64 a, .int .i64 b] 25 (0, 0)) := kblk hb (by first | exact ksa | (simp [hp_alloc, hp_set, hp_drew, hp_drewN, cset_cells, k0, k1, ksa, ksb, kl1, kl2, nsasb, msasb, n0sa, m0sa, n0sb, m0sb, n1sa, m1sa, n1sb, m1sb]; done)); replace ksb : hp _ sb = some (.cells #[.int .i64 c, .int .i64 d] 25 (0, 0)) := kblk hb (by first | exact ksb | (simp [hp_alloc, hp_set, hp_drew, hp_drewN, cset_cells, k0, k1, ksa, ksb, kl1, kl2, nsasb, msasb, n0sa, m0sa, n0sb, m0sb, n1sa, m1sa, n1sb, m1sb]; done)); replace kl1 : hp _ v4.heap.size = some (.cells #[.int .i64 (cutL a b c d).1, .int .i64 (cutL a b c d).2] 25 (0, 0)) := kblk hb (by first | exact kl1 | (simp [hp_alloc, hp_set, hp_drew, hp_drewN, cset_cells, k0, k1, ksa, ksb, kl1, kl2, nsasb, msasb, n0sa, m0sa, n0sb, m0sb, n1sa, m1sa, n1sb, m1sb]; done)); replace kl2 : hp _ (v4.heap.size + 1) = some (.cells #[.int .i64 (cutR a b c d).1, .int .i64 (cutR a b c d).2] 25 (0, 0)) := kblk hb (by first | exact kl2 | (simp [hp_alloc, hp_set, hp_drew, hp_drewN, cset_cells, k0, k1, ksa, ksb, kl1, kl2, nsasb, msasb, n0sa, m0sa, n0sb, m0sb, n1sa, m1sa, n1sb, m1sb]; done)); replace c0 := kcell k0; replace f0 := kfree k0; replace c1 := kcell k1; replace f1 := kfree k1; replace csa := kcell ksa; replace fsa := kfree ksa; replace csb := kcell ksb; replace fsb := kfree ksb; replace cl1 := kcell kl1; replace fl1 := kfree kl1; replace cl2 := kcell kl2; replace fl2 := kfree kl2) | (go_at_call 44; refine (touches64 _ _ _ _ _).mono ?_; rintro e w1 ⟨rfl, hb⟩; replace HB := below_call (by first | exact HB | (repeat (first | assumption | exact Below.refl _ _ | (refine below_call ?_ (by assumption)) | apply below_alloc | apply below_drew | apply below_drewN | (refine below_set ?_ (by first | (simp; done) | (simp; omega) | omega) _)))) hb; replace k0 : hp _ w.heap.size = some (.cells #[.int .i64 a, .int .i64 b] 23 (0, 0)) := kblk hb (by first | exact k0 | (simp [hp_alloc, hp_set, hp_drew, hp_drewN, cset_cells, k0, k1, ksa, ksb, kl1, kl2, nsasb, msasb, n0sa, m0sa, n0sb, m0sb, n1sa, m1sa, n1sb, m1sb]; done)); replace k1 : hp _ (w.heap.size + 1) = some (.cells #[.int .i64 c, .int .i64 d] 23 (0, 0)) := kblk hb (by first | exact k1 | (simp [hp_alloc, hp_set, hp_drew, hp_drewN, cset_cells, k0, k1, ksa, ksb, kl1, kl2, nsasb, msasb, n0sa, m0sa, n0sb, m0sb, n1sa, m1sa, n1sb, m1sb]; done)); replace ksa : hp _ sa = some (.cells #[.int .i64 a, .int .i64 b] 25 (0, 0)) := kblk hb (by first | exact ksa | (simp [hp_alloc, hp_set, hp_drew, hp_drewN, cset_cells, k0, k1, ksa, ksb, kl1, kl2, nsasb, msasb, n0sa, m0sa, n0sb, m0sb, n1sa, m1sa, n1sb, m1sb]; done)); replace ksb : hp _ sb = some (.cells #[.int .i64 c, .int .i64 d] 25 (0, 0)) := kblk hb (by first | exact ksb | (simp [hp_alloc, hp_set, hp_drew, hp_drewN, cset_cells, k0, k1, ksa, ksb, kl1, kl2, nsasb, msasb, n0sa, m0sa, n0sb, m0sb, n1sa, m1sa, n1sb, m1sb]; done)); replace kl1 : hp _ v4.heap.size = some (.cells #[.int .i64 (cutL a b c d).1, .int .i64 (cutL a b c d).2] 25 (0, 0)) := kblk hb (by first | exact kl1 | (simp [hp_alloc, hp_set, hp_drew, hp_drewN, cset_cells, k0, k1, ksa, ksb, kl1, kl2, nsasb, msasb, n0sa, m0sa, n0sb, m0sb, n1sa, m1sa, n1sb, m1sb]; done)); replace kl2 : hp _ (v4.heap.size + 1) = some (.cells #[.int .i64 (cutR a b c d).1, .int .i64 (cutR a b c d).2] 25 (0, 0)) := kblk hb (by first | exact kl2 | (simp [hp_alloc, hp_set, hp_drew, hp_drewN, cset_cells, k0, k1, ksa, ksb, kl1, kl2, nsasb, msasb, n0sa, m0sa, n0sb, m0sb, n1sa, m1sa, n1sb, m1sb]; done)); replace c0 := kcell k0; replace f0 := kfree k0; replace c1 := kcell k1; replace f1 := kfree k1; replace csa := kcell ksa; replace fsa := kfree ksa; replace csb := kcell ksb; replace fsb := kfree ksb; replace cl1 := kcell kl1; replace fl1 := kfree kl1; replace cl2 := kcell kl2; replace fl2 := kfree kl2) | (go_at_call 36; refine (within64 _ _ _ _ _).mono ?_; rintro e w1 ⟨rfl, hb⟩; replace HB := below_call (by first | exact HB | (repeat (first | assumption | exact Below.refl _ _ | (refine below_call ?_ (by assumption)) | apply below_alloc | apply below_drew | apply below_drewN | (refine below_set ?_ (by first | (simp; done) | (simp; omega) | omega) _)))) hb; replace k0 : hp _ w.heap.size = some (.cells #[.int .i64 a, .int .i64 b] 23 (0, 0)) := kblk hb (by first | exact k0 | (simp [hp_alloc, hp_set, hp_drew, hp_drewN, cset_cells, k0, k1, ksa, ksb, kl1, kl2, nsasb, msasb, n0sa, m0sa, n0sb, m0sb, n1sa, m1sa, n1sb, m1sb]; done)); replace k1 : hp _ (w.heap.size + 1) = some (.cells #[.int .i64 c, .int .i64 d] 23 (0, 0)) := kblk hb (by first | exact k1 | (simp [hp_alloc, hp_set, hp_drew, hp_drewN, cset_cells, k0, k1, ksa, ksb, kl1, kl2, nsasb, msasb, n0sa, m0sa, n0sb, m0sb, n1sa, m1sa, n1sb, m1sb]; done)); replace ksa : hp _ sa = some (.cells #[.int .i64 a, .int .i64 b] 25 (0, 0)) := kblk hb (by first | exact ksa | (simp [hp_alloc, hp_set, hp_drew, hp_drewN, cset_cells, k0, k1, ksa, ksb, kl1, kl2, nsasb, msasb, n0sa, m0sa, n0sb, m0sb, n1sa, m1sa, n1sb, m1sb]; done)); replace ksb : hp _ sb = some (.cells #[.int .i64 c, .int .i64 d] 25 (0, 0)) := kblk hb (by first | exact ksb | (simp [hp_alloc, hp_set, hp_drew, hp_drewN, cset_cells, k0, k1, ksa, ksb, kl1, kl2, nsasb, msasb, n0sa, m0sa, n0sb, m0sb, n1sa, m1sa, n1sb, m1sb]; done)); replace kl1 : hp _ v4.heap.size = some (.cells #[.int .i64 (cutL a b c d).1, .int .i64 (cutL a b c d).2] 25 (0, 0)) := kblk hb (by first | exact kl1 | (simp [hp_alloc, hp_set, hp_drew, hp_drewN, cset_cells, k0, k1, ksa, ksb, kl1, kl2, nsasb, msasb, n0sa, m0sa, n0sb, m0sb, n1sa, m1sa, n1sb, m1sb]; done)); replace kl2 : hp _ (v4.heap.size + 1) = some (.cells #[.int .i64 (cutR a b c d).1, .int .i64 (cutR a b c d).2] 25 (0, 0)) := kblk hb (by first | exact kl2 | (simp [hp_alloc, hp_set, hp_drew, hp_drewN, cset_cells, k0, k1, ksa, ksb, kl1, kl2, nsasb, msasb, n0sa, m0sa, n0sb, m0sb, n1sa, m1sa, n1sb, m1sb]; done)); replace c0 := kcell k0; replace f0 := kfree k0; replace c1 := kcell k1; replace f1 := kfree k1; replace csa := kcell ksa; replace fsa := kfree ksa; replace csb := kcell ksb; replace fsb := kfree ksb; replace cl1 := kcell kl1; replace fl1 := kfree kl1; replace cl2 := kcell kl2; replace fl2 := kfree kl2)))
  all_goals (go_ret; exact ⟨by first | rfl | (simp; done) | (simp [*]; done), by (repeat (first | assumption | exact Below.refl _ _ | (refine below_call ?_ (by assumption)) | apply below_alloc | apply below_drew | apply below_drewN | (refine below_set ?_ (by first | (simp; done) | (simp; omega) | omega) _)))⟩)

end Go.Proofs.Ytplhbnehlkoedaa
