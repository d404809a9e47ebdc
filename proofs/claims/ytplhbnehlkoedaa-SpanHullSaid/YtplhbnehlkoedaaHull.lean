/- Span: the laws' walks. -/
import Derived.Test.YtplhbnehlkoedaaE
import Derived.WalkKit
import Derived.WalkLawsBesides
import Derived.WalkSpells
import Derived.Below
import Derived.Deep.RegionHeld3
import Derived.Deep.QuietTactic
import Derived.BigQuiet
import Derived.Deep.DeepCutAuto
import Derived.Deep.DeepMust
import Derived.KernelRfl
import Derived.Outline
import Derived.RegionTactic
namespace Go.Proofs.Ytplhbnehlkoedaa
open Go.RowKit
set_option linter.unusedVariables false
set_option linter.unusedSimpArgs false

attribute [local go_sem] max2_int min2_int max_two min_two ok_ite
attribute [local simp, local go_sem] ne_2 ne_3 ne_4 ne_5 en_2 en_3 en_4 en_5

theorem rtouches' (a b c d : Int) (w : World) : Calls Try.prog 45 #[.agg #[.int .i64 a, .int .i64 b], .agg #[.int .i64 c, .int .i64 d]] w fun e w' => e = .returned (.bool (touchesB a b c d)) ∧ Below w.heap.size w w' := by
  have := rtouches a b c d w; simp only [rtouch_eq] at this; exact this

set_option maxHeartbeats 4000000 in
theorem spanHull (a b c d : Int) (w : World) :
    Calls Try.prog 8 #[.agg #[.int .i64 a, .int .i64 b], .agg #[.int .i64 c, .int .i64 d]] w fun e w' => e = .returned (.bool true) ∧ Below w.heap.size w w' := by
  go_enter Try.func8, Try.ntmps8
  go_upto_region 1 with fail
  refine Ph.at_world ?_; intro W1 hW
  have q0 : hp W1 w.heap.size = some (.cells #[.int .i64 a, .int .i64 b] 23 (0, 0)) := by rw [hW]; simp [hp_alloc, hp_set, hp_drew, hp_drewN, cset_cells]
  have q1 : hp W1 (w.heap.size + 1) = some (.cells #[.int .i64 c, .int .i64 d] 23 (0, 0)) := by rw [hW]; simp [hp_alloc, hp_set, hp_drew, hp_drewN, cset_cells]
  have HB : Below w.heap.size w W1 := by rw [hW]; (repeat (first | assumption | exact Below.refl _ _ | (refine below_call ?_ (by assumption)) | apply below_alloc | apply below_drew | apply below_drewN | (refine below_set ?_ (by first | (simp; done) | (simp; omega) | omega) _)))
  clear hW
  have k0 := q0; clear q0; have c0 := kcell k0; have f0 := kfree k0
  have k1 := q1; clear q1; have c1 := kcell k1; have f1 := kfree k1
  go_wp2_with fail
  go_at_call 10; refine Ph.at_callw ?_; intro W2 hW
  have q0 : hp W2 w.heap.size = some (.cells #[.int .i64 a, .int .i64 b] 23 (0, 0)) := by rw [hW]; simp [hp_alloc, hp_set, hp_drew, hp_drewN, cset_cells, k0, k1]
  have q1 : hp W2 (w.heap.size + 1) = some (.cells #[.int .i64 c, .int .i64 d] 23 (0, 0)) := by rw [hW]; simp [hp_alloc, hp_set, hp_drew, hp_drewN, cset_cells, k0, k1]
  have HB' : Below w.heap.size w W2 := by rw [hW]; (repeat (first | assumption | exact Below.refl _ _ | (refine below_call ?_ (by assumption)) | apply below_alloc | apply below_drew | apply below_drewN | (refine below_set ?_ (by first | (simp; done) | (simp; omega) | omega) _)))
  replace HB := HB'; clear HB'
  clear hW
  clear k0 c0 f0
  clear k1 c1 f1
  have k0 := q0; clear q0; have c0 := kcell k0; have f0 := kfree k0
  have k1 := q1; clear q1; have c1 := kcell k1; have f1 := kfree k1
  refine (fixed_true _).mono ?_; rintro e v1 ⟨rfl, hb⟩; replace HB := below_call (by first | exact HB | (repeat (first | assumption | exact Below.refl _ _ | (refine below_call ?_ (by assumption)) | apply below_alloc | apply below_drew | apply below_drewN | (refine below_set ?_ (by first | (simp; done) | (simp; omega) | omega) _)))) hb; replace k0 : hp _ w.heap.size = some (.cells #[.int .i64 a, .int .i64 b] 23 (0, 0)) := kblk hb (by first | exact k0 | (simp [hp_alloc, hp_set, hp_drew, hp_drewN, cset_cells, k0, k1]; done)); replace k1 : hp _ (w.heap.size + 1) = some (.cells #[.int .i64 c, .int .i64 d] 23 (0, 0)) := kblk hb (by first | exact k1 | (simp [hp_alloc, hp_set, hp_drew, hp_drewN, cset_cells, k0, k1]; done)); replace c0 := kcell k0; replace f0 := kfree k0; replace c1 := kcell k1; replace f1 := kfree k1
  go_wp2_with fail
  refine Ph.wp_region_gr 4 6 [] (by kernel_rfl) (by kernel_rfl) (fun _ d _ _ _ h => by cases d <;> exact h) ?_
  simp only [List.take_succ_cons, List.take_zero, List.drop_succ_cons, List.drop_zero]
  repeat (first | (apply Ph.wpG_op rfl; (focus (intro w1 hS; have d0 := kcell (kblk hS k0); have d1 := kcell (kblk hS k1); go_simp; first | exact rfl | exact ⟨rfl, Below.refl _ _⟩ | ((with_reducible refine (lof _ _ _).mono ?_); rintro e w2 ⟨rfl, hb⟩; exact ⟨rfl, hb⟩)))); simp only [List.tail_cons, List.tail_nil, Act.put, List.setIfInBounds_toArray, List.set_cons_zero, List.set_cons_succ])
  refine Ph.wpG_nil ?_
  apply Ph.wpAl_op (fun g => .pointer (some ⟨g, 0, none⟩)) rfl; (focus (intro w1; go_simp; exact rfl))
  intro sa; simp only [List.tail_cons, List.tail_nil, Act.put, List.setIfInBounds_toArray, List.set_cons_zero, List.set_cons_succ]
  apply Ph.wpAl_op (fun g => .pointer (some ⟨g, 0, none⟩)) rfl; (focus (intro w1; go_simp; exact rfl))
  intro sb; simp only [List.tail_cons, List.tail_nil, Act.put, List.setIfInBounds_toArray, List.set_cons_zero, List.set_cons_succ]
  refine Ph.wpAl_nil ?_; intro v2 hS hgs hne
  simp only [List.nil_append, List.cons_append, List.forall_mem_cons, List.pairwise_cons, Prod.mk.injEq] at hgs hne
  obtain ⟨⟨bsa, ksa⟩, ⟨bsb, ksb⟩, _⟩ := hgs
  replace ksa : hp v2 sa = some (.cells #[.int .i64 0, .int .i64 0] 25 (0, 0)) := ksa
  replace ksb : hp v2 sb = some (.cells #[.int .i64 0, .int .i64 0] 25 (0, 0)) := ksb
  have nsasb : sa ≠ sb := by simp at hne; first | exact hne | exact hne.1 | omega
  have msasb : sb ≠ sa := fun e => nsasb e.symm
  have hk := klt k0
  have n0sa : w.heap.size ≠ sa := by omega
  have m0sa : sa ≠ w.heap.size := by omega
  have n0sb : w.heap.size ≠ sb := by omega
  have m0sb : sb ≠ w.heap.size := by omega
  clear hk
  have hk := klt k1
  have n1sa : w.heap.size + 1 ≠ sa := by omega
  have m1sa : sa ≠ w.heap.size + 1 := by omega
  have n1sb : w.heap.size + 1 ≠ sb := by omega
  have m1sb : sb ≠ w.heap.size + 1 := by omega
  clear hk
  have esa : w.heap.size ≤ sa := by have := HB.size; omega
  have esb : w.heap.size ≤ sb := by have := HB.size; omega
  replace HB := below_call (by first | exact HB | (repeat (first | assumption | exact Below.refl _ _ | (refine below_call ?_ (by assumption)) | apply below_alloc | apply below_drew | apply below_drewN | (refine below_set ?_ (by first | (simp; done) | (simp; omega) | omega) _)))) hS; replace k0 : hp _ w.heap.size = some (.cells #[.int .i64 a, .int .i64 b] 23 (0, 0)) := kblk hS (by first | exact k0 | (simp [hp_alloc, hp_set, hp_drew, hp_drewN, cset_cells, k0, k1, nsasb, msasb, n0sa, m0sa, n0sb, m0sb, n1sa, m1sa, n1sb, m1sb]; done)); replace k1 : hp _ (w.heap.size + 1) = some (.cells #[.int .i64 c, .int .i64 d] 23 (0, 0)) := kblk hS (by first | exact k1 | (simp [hp_alloc, hp_set, hp_drew, hp_drewN, cset_cells, k0, k1, nsasb, msasb, n0sa, m0sa, n0sb, m0sb, n1sa, m1sa, n1sb, m1sb]; done)); replace c0 := kcell k0; replace f0 := kfree k0; replace c1 := kcell k1; replace f1 := kfree k1
  have csa := kcell ksa; have fsa := kfree ksa
  have csb := kcell ksb; have fsb := kfree ksb
  go_wp2_with fail
  refine Ph.at_world ?_; intro W3 hW
  have q0 : hp W3 w.heap.size = some (.cells #[.int .i64 a, .int .i64 b] 23 (0, 0)) := by rw [hW]; simp [hp_alloc, hp_set, hp_drew, hp_drewN, cset_cells, k0, k1, ksa, ksb, nsasb, msasb, n0sa, m0sa, n0sb, m0sb, n1sa, m1sa, n1sb, m1sb]
  have q1 : hp W3 (w.heap.size + 1) = some (.cells #[.int .i64 c, .int .i64 d] 23 (0, 0)) := by rw [hW]; simp [hp_alloc, hp_set, hp_drew, hp_drewN, cset_cells, k0, k1, ksa, ksb, nsasb, msasb, n0sa, m0sa, n0sb, m0sb, n1sa, m1sa, n1sb, m1sb]
  have qsa : hp W3 sa = some (.cells #[.int .i64 a, .int .i64 b] 25 (0, 0)) := by rw [hW]; simp [hp_alloc, hp_set, hp_drew, hp_drewN, cset_cells, k0, k1, ksa, ksb, nsasb, msasb, n0sa, m0sa, n0sb, m0sb, n1sa, m1sa, n1sb, m1sb]
  have qsb : hp W3 sb = some (.cells #[.int .i64 c, .int .i64 d] 25 (0, 0)) := by rw [hW]; simp [hp_alloc, hp_set, hp_drew, hp_drewN, cset_cells, k0, k1, ksa, ksb, nsasb, msasb, n0sa, m0sa, n0sb, m0sb, n1sa, m1sa, n1sb, m1sb]
  have HB' : Below w.heap.size w W3 := by rw [hW]; (repeat (first | assumption | exact Below.refl _ _ | (refine below_call ?_ (by assumption)) | apply below_alloc | apply below_drew | apply below_drewN | (refine below_set ?_ (by first | (simp; done) | (simp; omega) | omega) _)))
  replace HB := HB'; clear HB'
  clear hW
  clear k0 c0 f0
  clear k1 c1 f1
  clear ksa csa fsa
  clear ksb csb fsb
  have k0 := q0; clear q0; have c0 := kcell k0; have f0 := kfree k0
  have k1 := q1; clear q1; have c1 := kcell k1; have f1 := kfree k1
  have ksa := qsa; clear qsa; have csa := kcell ksa; have fsa := kfree ksa
  have ksb := qsb; clear qsb; have csb := kcell ksb; have fsb := kfree ksb
  refine Ph.wp_region_gr 21 21 [] (by kernel_rfl) (by kernel_rfl) (fun _ d _ _ _ h => by cases d <;> exact h) ?_
  simp only [List.take_succ_cons, List.take_zero, List.drop_succ_cons, List.drop_zero]
  repeat (first | (apply Ph.wpG_op rfl; (focus (intro w1 hS; have d0 := kcell (kblk hS k0); have d1 := kcell (kblk hS k1); have dsa := kcell (kblk hS ksa); have dsb := kcell (kblk hS ksb); go_simp; first | exact rfl | exact ⟨rfl, Below.refl _ _⟩ | ((with_reducible refine (hull64 _ _ _ _ _).mono ?_); rintro e w2 ⟨rfl, hb⟩; exact ⟨rfl, hb⟩) | ((with_reducible refine (lref _ _ _).mono ?_); rintro e w2 ⟨rfl, hb⟩; exact ⟨rfl, hb⟩) | ((with_reducible refine (rhull _ _ _ _ _).mono ?_); rintro e w2 ⟨rfl, hb⟩; exact ⟨rfl, hb⟩) | ((with_reducible refine (lsame _ _ _ _ _).mono ?_); rintro e w2 ⟨rfl, hb⟩; exact ⟨rfl, hb⟩) | ((with_reducible refine (touches64 _ _ _ _ _).mono ?_); rintro e w2 ⟨rfl, hb⟩; exact ⟨rfl, hb⟩) | ((with_reducible refine (rtouches' _ _ _ _ _).mono ?_); rintro e w2 ⟨rfl, hb⟩; exact ⟨rfl, hb⟩)))); simp only [List.tail_cons, List.tail_nil, Act.put, List.setIfInBounds_toArray, List.set_cons_zero, List.set_cons_succ])
  refine Ph.wpG_nil ?_
  refine Ph.wpAl_nil ?_; intro v3 hS hgs hne
  clear hgs hne
  replace HB := below_call (by first | exact HB | (repeat (first | assumption | exact Below.refl _ _ | (refine below_call ?_ (by assumption)) | apply below_alloc | apply below_drew | apply below_drewN | (refine below_set ?_ (by first | (simp; done) | (simp; omega) | omega) _)))) hS; replace k0 : hp _ w.heap.size = some (.cells #[.int .i64 a, .int .i64 b] 23 (0, 0)) := kblk hS (by first | exact k0 | (simp [hp_alloc, hp_set, hp_drew, hp_drewN, cset_cells, k0, k1, ksa, ksb, nsasb, msasb, n0sa, m0sa, n0sb, m0sb, n1sa, m1sa, n1sb, m1sb]; done)); replace k1 : hp _ (w.heap.size + 1) = some (.cells #[.int .i64 c, .int .i64 d] 23 (0, 0)) := kblk hS (by first | exact k1 | (simp [hp_alloc, hp_set, hp_drew, hp_drewN, cset_cells, k0, k1, ksa, ksb, nsasb, msasb, n0sa, m0sa, n0sb, m0sb, n1sa, m1sa, n1sb, m1sb]; done)); replace ksa : hp _ sa = some (.cells #[.int .i64 a, .int .i64 b] 25 (0, 0)) := kblk hS (by first | exact ksa | (simp [hp_alloc, hp_set, hp_drew, hp_drewN, cset_cells, k0, k1, ksa, ksb, nsasb, msasb, n0sa, m0sa, n0sb, m0sb, n1sa, m1sa, n1sb, m1sb]; done)); replace ksb : hp _ sb = some (.cells #[.int .i64 c, .int .i64 d] 25 (0, 0)) := kblk hS (by first | exact ksb | (simp [hp_alloc, hp_set, hp_drew, hp_drewN, cset_cells, k0, k1, ksa, ksb, nsasb, msasb, n0sa, m0sa, n0sb, m0sb, n1sa, m1sa, n1sb, m1sb]; done)); replace c0 := kcell k0; replace f0 := kfree k0; replace c1 := kcell k1; replace f1 := kfree k1; replace csa := kcell ksa; replace fsa := kfree ksa; replace csb := kcell ksb; replace fsb := kfree ksb
  go_wp2_with (first | (go_at_call 42; refine (hull64 _ _ _ _ _).mono ?_; rintro e w1 ⟨rfl, hb⟩; replace HB := below_call (by first | exact HB | (repeat (first | assumption | exact Below.refl _ _ | (refine below_call ?_ (by assumption)) | apply below_alloc | apply below_drew | apply below_drewN | (refine below_set ?_ (by first | (simp; done) | (simp; omega) | omega) _)))) hb; replace k0 : hp _ w.heap.size = some (.cells #[.int .i64 a, .int .i64 b] 23 (0, 0)) := kblk hb (by first | exact k0 | (simp [hp_alloc, hp_set, hp_drew, hp_drewN, cset_cells, k0, k1, ksa, ksb, nsasb, msasb, n0sa, m0sa, n0sb, m0sb, n1sa, m1sa, n1sb, m1sb]; done)); replace k1 : hp _ (w.heap.size + 1) = some (.cells #[.int .i64 c, .int .i64 d] 23 (0, 0)) := kblk hb (by first | exact k1 | (simp [hp_alloc, hp_set, hp_drew, hp_drewN, cset_cells, k0, k1, ksa, ksb, nsasb, msasb, n0sa, m0sa, n0sb, m0sb, n1sa, m1sa, n1sb, m1sb]; done)); replace ksa : hp _ sa = some (.cells #[.int .i64 a, .int .i64 b] 25 (0, 0)) := kblk hb (by first | exact ksa | (simp [hp_alloc, hp_set, hp_drew, hp_drewN, cset_cells, k0, k1, ksa, ksb, nsasb, msasb, n0sa, m0sa, n0sb, m0sb, n1sa, m1sa, n1sb, m1sb]; done)); replace ksb : hp _ sb = some (.cells #[.int .i64 c, .int .i64 d] 25 (0, 0)) := kblk hb (by first | exact ksb | (simp [hp_alloc, hp_set, hp_drew, hp_drewN, cset_cells, k0, k1, ksa, ksb, nsasb, msasb, n0sa, m0sa, n0sb, m0sb, n1sa, m1sa, n1sb, m1sb]; done)); replace c0 := kcell k0; replace f0 := kfree k0; replace c1 := kcell k1; replace f1 := kfree k1; replace csa := kcell ksa; replace fsa := kfree ksa; replace csb := kcell ksb; replace fsb := kfree ksb) | (go_at_call 17; refine (lref _ _ _).mono ?_; rintro e w1 ⟨rfl, hb⟩; replace HB := below_call (by first | exact HB | (repeat (first | assumption | exact Below.refl _ _ | (refine below_call ?_ (by assumption)) | apply below_alloc | apply below_drew | apply below_drewN | (refine below_set ?_ (by first | (simp; done) | (simp; omega) | omega) _)))) hb; replace k0 : hp _ w.heap.size = some (.cells #[.int .i64 a, .int .i64 b] 23 (0, 0)) := kblk hb (by first | exact k0 | (simp [hp_alloc, hp_set, hp_drew, hp_drewN, cset_cells, k0, k1, ksa, ksb, nsasb, msasb, n0sa, m0sa, n0sb, m0sb, n1sa, m1sa, n1sb, m1sb]; done)); replace k1 : hp _ (w.heap.size + 1) = some (.cells #[.int .i64 c, .int .i64 d] 23 (0, 0)) := kblk hb (by first | exact k1 | (simp [hp_alloc, hp_set, hp_drew, hp_drewN, cset_cells, k0, k1, ksa, ksb, nsasb, msasb, n0sa, m0sa, n0sb, m0sb, n1sa, m1sa, n1sb, m1sb]; done)); replace ksa : hp _ sa = some (.cells #[.int .i64 a, .int .i64 b] 25 (0, 0)) := kblk hb (by first | exact ksa | (simp [hp_alloc, hp_set, hp_drew, hp_drewN, cset_cells, k0, k1, ksa, ksb, nsasb, msasb, n0sa, m0sa, n0sb, m0sb, n1sa, m1sa, n1sb, m1sb]; done)); replace ksb : hp _ sb = some (.cells #[.int .i64 c, .int .i64 d] 25 (0, 0)) := kblk hb (by first | exact ksb | (simp [hp_alloc, hp_set, hp_drew, hp_drewN, cset_cells, k0, k1, ksa, ksb, nsasb, msasb, n0sa, m0sa, n0sb, m0sb, n1sa, m1sa, n1sb, m1sb]; done)); replace c0 := kcell k0; replace f0 := kfree k0; replace c1 := kcell k1; replace f1 := kfree k1; replace csa := kcell ksa; replace fsa := kfree ksa; replace csb := kcell ksb; replace fsb := kfree ksb) | (go_at_call 43; refine (rhull _ _ _ _ _).mono ?_; rintro e w1 ⟨rfl, hb⟩; replace HB := below_call (by first | exact HB | (repeat (first | assumption | exact Below.refl _ _ | (refine below_call ?_ (by assumption)) | apply below_alloc | apply below_drew | apply below_drewN | (refine below_set ?_ (by first | (simp; done) | (simp; omega) | omega) _)))) hb; replace k0 : hp _ w.heap.size = some (.cells #[.int .i64 a, .int .i64 b] 23 (0, 0)) := kblk hb (by first | exact k0 | (simp [hp_alloc, hp_set, hp_drew, hp_drewN, cset_cells, k0, k1, ksa, ksb, nsasb, msasb, n0sa, m0sa, n0sb, m0sb, n1sa, m1sa, n1sb, m1sb]; done)); replace k1 : hp _ (w.heap.size + 1) = some (.cells #[.int .i64 c, .int .i64 d] 23 (0, 0)) := kblk hb (by first | exact k1 | (simp [hp_alloc, hp_set, hp_drew, hp_drewN, cset_cells, k0, k1, ksa, ksb, nsasb, msasb, n0sa, m0sa, n0sb, m0sb, n1sa, m1sa, n1sb, m1sb]; done)); replace ksa : hp _ sa = some (.cells #[.int .i64 a, .int .i64 b] 25 (0, 0)) := kblk hb (by first | exact ksa | (simp [hp_alloc, hp_set, hp_drew, hp_drewN, cset_cells, k0, k1, ksa, ksb, nsasb, msasb, n0sa, m0sa, n0sb, m0sb, n1sa, m1sa, n1sb, m1sb]; done)); replace ksb : hp _ sb = some (.cells #[.int .i64 c, .int .i64 d] 25 (0, 0)) := kblk hb (by first | exact ksb | (simp [hp_alloc, hp_set, hp_drew, hp_drewN, cset_cells, k0, k1, ksa, ksb, nsasb, msasb, n0sa, m0sa, n0sb, m0sb, n1sa, m1sa, n1sb, m1sb]; done)); replace c0 := kcell k0; replace f0 := kfree k0; replace c1 := kcell k1; replace f1 := kfree k1; replace csa := kcell ksa; replace fsa := kfree ksa; replace csb := kcell ksb; replace fsb := kfree ksb) | (go_at_call 12; refine (lsame _ _ _ _ _).mono ?_; rintro e w1 ⟨rfl, hb⟩; replace HB := below_call (by first | exact HB | (repeat (first | assumption | exact Below.refl _ _ | (refine below_call ?_ (by assumption)) | apply below_alloc | apply below_drew | apply below_drewN | (refine below_set ?_ (by first | (simp; done) | (simp; omega) | omega) _)))) hb; replace k0 : hp _ w.heap.size = some (.cells #[.int .i64 a, .int .i64 b] 23 (0, 0)) := kblk hb (by first | exact k0 | (simp [hp_alloc, hp_set, hp_drew, hp_drewN, cset_cells, k0, k1, ksa, ksb, nsasb, msasb, n0sa, m0sa, n0sb, m0sb, n1sa, m1sa, n1sb, m1sb]; done)); replace k1 : hp _ (w.heap.size + 1) = some (.cells #[.int .i64 c, .int .i64 d] 23 (0, 0)) := kblk hb (by first | exact k1 | (simp [hp_alloc, hp_set, hp_drew, hp_drewN, cset_cells, k0, k1, ksa, ksb, nsasb, msasb, n0sa, m0sa, n0sb, m0sb, n1sa, m1sa, n1sb, m1sb]; done)); replace ksa : hp _ sa = some (.cells #[.int .i64 a, .int .i64 b] 25 (0, 0)) := kblk hb (by first | exact ksa | (simp [hp_alloc, hp_set, hp_drew, hp_drewN, cset_cells, k0, k1, ksa, ksb, nsasb, msasb, n0sa, m0sa, n0sb, m0sb, n1sa, m1sa, n1sb, m1sb]; done)); replace ksb : hp _ sb = some (.cells #[.int .i64 c, .int .i64 d] 25 (0, 0)) := kblk hb (by first | exact ksb | (simp [hp_alloc, hp_set, hp_drew, hp_drewN, cset_cells, k0, k1, ksa, ksb, nsasb, msasb, n0sa, m0sa, n0sb, m0sb, n1sa, m1sa, n1sb, m1sb]; done)); replace c0 := kcell k0; replace f0 := kfree k0; replace c1 := kcell k1; replace f1 := kfree k1; replace csa := kcell ksa; replace fsa := kfree ksa; replace csb := kcell ksb; replace fsb := kfree ksb) | (go_at_call 44; refine (touches64 _ _ _ _ _).mono ?_; rintro e w1 ⟨rfl, hb⟩; replace HB := below_call (by first | exact HB | (repeat (first | assumption | exact Below.refl _ _ | (refine below_call ?_ (by assumption)) | apply below_alloc | apply below_drew | apply below_drewN | (refine below_set ?_ (by first | (simp; done) | (simp; omega) | omega) _)))) hb; replace k0 : hp _ w.heap.size = some (.cells #[.int .i64 a, .int .i64 b] 23 (0, 0)) := kblk hb (by first | exact k0 | (simp [hp_alloc, hp_set, hp_drew, hp_drewN, cset_cells, k0, k1, ksa, ksb, nsasb, msasb, n0sa, m0sa, n0sb, m0sb, n1sa, m1sa, n1sb, m1sb]; done)); replace k1 : hp _ (w.heap.size + 1) = some (.cells #[.int .i64 c, .int .i64 d] 23 (0, 0)) := kblk hb (by first | exact k1 | (simp [hp_alloc, hp_set, hp_drew, hp_drewN, cset_cells, k0, k1, ksa, ksb, nsasb, msasb, n0sa, m0sa, n0sb, m0sb, n1sa, m1sa, n1sb, m1sb]; done)); replace ksa : hp _ sa = some (.cells #[.int .i64 a, .int .i64 b] 25 (0, 0)) := kblk hb (by first | exact ksa | (simp [hp_alloc, hp_set, hp_drew, hp_drewN, cset_cells, k0, k1, ksa, ksb, nsasb, msasb, n0sa, m0sa, n0sb, m0sb, n1sa, m1sa, n1sb, m1sb]; done)); replace ksb : hp _ sb = some (.cells #[.int .i64 c, .int .i64 d] 25 (0, 0)) := kblk hb (by first | exact ksb | (simp [hp_alloc, hp_set, hp_drew, hp_drewN, cset_cells, k0, k1, ksa, ksb, nsasb, msasb, n0sa, m0sa, n0sb, m0sb, n1sa, m1sa, n1sb, m1sb]; done)); replace c0 := kcell k0; replace f0 := kfree k0; replace c1 := kcell k1; replace f1 := kfree k1; replace csa := kcell ksa; replace fsa := kfree ksa; replace csb := kcell ksb; replace fsb := kfree ksb) | (go_at_call 45; refine (rtouches' _ _ _ _ _).mono ?_; rintro e w1 ⟨rfl, hb⟩; replace HB := below_call (by first | exact HB | (repeat (first | assumption | exact Below.refl _ _ | (refine below_call ?_ (by assumption)) | apply below_alloc | apply below_drew | apply below_drewN | (refine below_set ?_ (by first | (simp; done) | (simp; omega) | omega) _)))) hb; replace k0 : hp _ w.heap.size = some (.cells #[.int .i64 a, .int .i64 b] 23 (0, 0)) := kblk hb (by first | exact k0 | (simp [hp_alloc, hp_set, hp_drew, hp_drewN, cset_cells, k0, k1, ksa, ksb, nsasb, msasb, n0sa, m0sa, n0sb, m0sb, n1sa, m1sa, n1sb, m1sb]; done)); replace k1 : hp _ (w.heap.size + 1) = some (.cells #[.int .i64 c, .int .i64 d] 23 (0, 0)) := kblk hb (by first | exact k1 | (simp [hp_alloc, hp_set, hp_drew, hp_drewN, cset_cells, k0, k1, ksa, ksb, nsasb, msasb, n0sa, m0sa, n0sb, m0sb, n1sa, m1sa, n1sb, m1sb]; done)); replace ksa : hp _ sa = some (.cells #[.int .i64 a, .int .i64 b] 25 (0, 0)) := kblk hb (by first | exact ksa | (simp [hp_alloc, hp_set, hp_drew, hp_drewN, cset_cells, k0, k1, ksa, ksb, nsasb, msasb, n0sa, m0sa, n0sb, m0sb, n1sa, m1sa, n1sb, m1sb]; done)); replace ksb : hp _ sb = some (.cells #[.int .i64 c, .int .i64 d] 25 (0, 0)) := kblk hb (by first | exact ksb | (simp [hp_alloc, hp_set, hp_drew, hp_drewN, cset_cells, k0, k1, ksa, ksb, nsasb, msasb, n0sa, m0sa, n0sb, m0sb, n1sa, m1sa, n1sb, m1sb]; done)); replace c0 := kcell k0; replace f0 := kfree k0; replace c1 := kcell k1; replace f1 := kfree k1; replace csa := kcell ksa; replace fsa := kfree ksa; replace csb := kcell ksb; replace fsb := kfree ksb))
  all_goals (go_ret; exact ⟨by first | rfl | (simp; done), by (repeat (first | assumption | exact Below.refl _ _ | (refine below_call ?_ (by assumption)) | apply below_alloc | apply below_drew | apply below_drewN | (refine below_set ?_ (by first | (simp; done) | (simp; omega) | omega) _)))⟩)

end Go.Proofs.Ytplhbnehlkoedaa
