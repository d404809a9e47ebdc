/- Span: the laws' walks. -/
import Derived.Test.YtplhbnehlkoedaaF
import Derived.WalkKit
import Derived.WalkLawsBesides
import Derived.WalkSpells
import Derived.Below
import Derived.Deep.RegionHeld3
import Derived.Deep.QuietTactic
import Derived.BigQuiet
import Derived.Deep.DeepCutAuto
import Derived.Deep.DeepMust
import Derived.KernelRfl
import Derived.Lib.Hide
import Derived.Outline
import Derived.RegionTactic
namespace Go.Proofs.Ytplhbnehlkoedaa
open Go.RowKit
set_option linter.unusedVariables false
set_option linter.unusedSimpArgs false

attribute [local go_sem] max2_int min2_int max_two min_two ok_ite
attribute [local simp, local go_sem] ne_2 ne_3 ne_4 ne_5 en_2 en_3 en_4 en_5

set_option maxHeartbeats 8000000 in
theorem spanLines (a b c d p q : Int) (w : World) :
    Calls Try.prog 7 #[.agg #[.int .i64 a, .int .i64 b], .agg #[.int .i64 c, .int .i64 d], .agg #[.int .i64 p, .int .i64 q]] w fun e w' => e = .returned (.bool true) ∧ Below w.heap.size w w' := by
  have e1 := meetS_comm a b c d
  have e2 := hullS_comm a b c d
  have e3 := meetS_assoc a b c d p q
  have e4 := hullS_assoc a b c d p q
  go_enter Try.func7, Try.ntmps7
  go_upto_region 1 with fail
  refine Ph.at_world ?_; intro W1 hW
  have q0 : hp W1 w.heap.size = some (.cells #[.int .i64 a, .int .i64 b] 23 (0, 0)) := by rw [hW]; simp [hp_alloc, hp_set, hp_drew, hp_drewN, cset_cells]
  have q1 : hp W1 (w.heap.size + 1) = some (.cells #[.int .i64 c, .int .i64 d] 23 (0, 0)) := by rw [hW]; simp [hp_alloc, hp_set, hp_drew, hp_drewN, cset_cells]
  have q2 : hp W1 (w.heap.size + 1 + 1) = some (.cells #[.int .i64 p, .int .i64 q] 23 (0, 0)) := by rw [hW]; simp [hp_alloc, hp_set, hp_drew, hp_drewN, cset_cells]
  have HB : Below w.heap.size w W1 := by rw [hW]; (repeat (first | (with_reducible assumption) | (with_reducible exact Below.refl _ _) | (with_reducible refine below_set ?_ (by first | (simp; done) | (simp; omega) | omega) _) | (with_reducible apply below_alloc) | (with_reducible apply below_drew) | (with_reducible apply below_drewN) | (with_reducible refine below_call ?_ (by assumption))))
  clear hW
  have k0 := q0; clear q0; have c0 := kcell k0; have f0 := kfree k0
  have k1 := q1; clear q1; have c1 := kcell k1; have f1 := kfree k1
  have k2 := q2; clear q2; have c2 := kcell k2; have f2 := kfree k2
  go_wp2_with fail
  go_at_call 10; refine Ph.at_callw ?_; intro W2 hW
  have q0 : hp W2 w.heap.size = some (.cells #[.int .i64 a, .int .i64 b] 23 (0, 0)) := by rw [hW]; simp [hp_alloc, hp_set, hp_drew, hp_drewN, cset_cells, k0, k1, k2]
  have q1 : hp W2 (w.heap.size + 1) = some (.cells #[.int .i64 c, .int .i64 d] 23 (0, 0)) := by rw [hW]; simp [hp_alloc, hp_set, hp_drew, hp_drewN, cset_cells, k0, k1, k2]
  have q2 : hp W2 (w.heap.size + 1 + 1) = some (.cells #[.int .i64 p, .int .i64 q] 23 (0, 0)) := by rw [hW]; simp [hp_alloc, hp_set, hp_drew, hp_drewN, cset_cells, k0, k1, k2]
  have HB' : Below w.heap.size w W2 := by rw [hW]; (repeat (first | (with_reducible assumption) | (with_reducible exact Below.refl _ _) | (with_reducible refine below_set ?_ (by first | (simp; done) | (simp; omega) | omega) _) | (with_reducible apply below_alloc) | (with_reducible apply below_drew) | (with_reducible apply below_drewN) | (with_reducible refine below_call ?_ (by assumption))))
  replace HB := HB'; clear HB'
  clear hW
  clear k0 c0 f0
  clear k1 c1 f1
  clear k2 c2 f2
  have k0 := q0; clear q0; have c0 := kcell k0; have f0 := kfree k0
  have k1 := q1; clear q1; have c1 := kcell k1; have f1 := kfree k1
  have k2 := q2; clear q2; have c2 := kcell k2; have f2 := kfree k2
  refine (fixed_true _).mono ?_; rintro e v1 ⟨rfl, hb⟩; replace HB := below_call (by first | exact HB | (repeat (first | (with_reducible assumption) | (with_reducible exact Below.refl _ _) | (with_reducible refine below_set ?_ (by first | (simp; done) | (simp; omega) | omega) _) | (with_reducible apply below_alloc) | (with_reducible apply below_drew) | (with_reducible apply below_drewN) | (with_reducible refine below_call ?_ (by assumption))))) hb; replace k0 : hp _ w.heap.size = some (.cells #[.int .i64 a, .int .i64 b] 23 (0, 0)) := kblk hb (by first | exact k0 | (simp [hp_alloc, hp_set, hp_drew, hp_drewN, cset_cells, k0, k1, k2]; done)); replace k1 : hp _ (w.heap.size + 1) = some (.cells #[.int .i64 c, .int .i64 d] 23 (0, 0)) := kblk hb (by first | exact k1 | (simp [hp_alloc, hp_set, hp_drew, hp_drewN, cset_cells, k0, k1, k2]; done)); replace k2 : hp _ (w.heap.size + 1 + 1) = some (.cells #[.int .i64 p, .int .i64 q] 23 (0, 0)) := kblk hb (by first | exact k2 | (simp [hp_alloc, hp_set, hp_drew, hp_drewN, cset_cells, k0, k1, k2]; done)); replace c0 := kcell k0; replace f0 := kfree k0; replace c1 := kcell k1; replace f1 := kfree k1; replace c2 := kcell k2; replace f2 := kfree k2
  go_wp2_with fail
  refine Ph.wp_region_gr 6 9 [] (by kernel_rfl) (by kernel_rfl) (fun _ d _ _ _ h => by cases d <;> exact h) ?_
  simp only [List.take_succ_cons, List.take_zero, List.drop_succ_cons, List.drop_zero]
  repeat (first | (apply Ph.wpG_op rfl; (focus (intro w1 hS; have d0 := kcell (kblk hS k0); have d1 := kcell (kblk hS k1); have d2 := kcell (kblk hS k2); go_simp; first | exact rfl | exact ⟨rfl, Below.refl _ _⟩ | ((with_reducible refine (lof _ _ _).mono ?_); rintro e w2 ⟨rfl, hb⟩; exact ⟨rfl, hb⟩)))); simp only [List.tail_cons, List.tail_nil, Act.put, List.setIfInBounds_toArray, List.set_cons_zero, List.set_cons_succ])
  refine Ph.wpG_nil ?_
  apply Ph.wpAl_op (fun g => .pointer (some ⟨g, 0, none⟩)) rfl; (focus (intro w1; go_simp; exact rfl))
  intro sa; simp only [List.tail_cons, List.tail_nil, Act.put, List.setIfInBounds_toArray, List.set_cons_zero, List.set_cons_succ]
  apply Ph.wpAl_op (fun g => .pointer (some ⟨g, 0, none⟩)) rfl; (focus (intro w1; go_simp; exact rfl))
  intro sb; simp only [List.tail_cons, List.tail_nil, Act.put, List.setIfInBounds_toArray, List.set_cons_zero, List.set_cons_succ]
  apply Ph.wpAl_op (fun g => .pointer (some ⟨g, 0, none⟩)) rfl; (focus (intro w1; go_simp; exact rfl))
  intro sc; simp only [List.tail_cons, List.tail_nil, Act.put, List.setIfInBounds_toArray, List.set_cons_zero, List.set_cons_succ]
  refine Ph.wpAl_nil ?_; intro v2 hS hgs hne
  simp only [List.nil_append, List.cons_append, List.forall_mem_cons, List.pairwise_cons, Prod.mk.injEq] at hgs hne
  obtain ⟨⟨bsa, ksa⟩, ⟨bsb, ksb⟩, ⟨bsc, ksc⟩, _⟩ := hgs
  replace ksa : hp v2 sa = some (.cells #[.int .i64 0, .int .i64 0] 25 (0, 0)) := ksa
  replace ksb : hp v2 sb = some (.cells #[.int .i64 0, .int .i64 0] 25 (0, 0)) := ksb
  replace ksc : hp v2 sc = some (.cells #[.int .i64 0, .int .i64 0] 25 (0, 0)) := ksc
  have nsasb : sa ≠ sb := by simp at hne; first | exact hne | exact hne.1 | omega
  have msasb : sb ≠ sa := fun e => nsasb e.symm
  have nsasc : sa ≠ sc := by simp at hne; first | exact hne | exact hne.1 | omega
  have msasc : sc ≠ sa := fun e => nsasc e.symm
  have nsbsc : sb ≠ sc := by simp at hne; first | exact hne | exact hne.1 | omega
  have msbsc : sc ≠ sb := fun e => nsbsc e.symm
  have hk := klt k0
  have n0sa : w.heap.size ≠ sa := by omega
  have m0sa : sa ≠ w.heap.size := by omega
  have n0sb : w.heap.size ≠ sb := by omega
  have m0sb : sb ≠ w.heap.size := by omega
  have n0sc : w.heap.size ≠ sc := by omega
  have m0sc : sc ≠ w.heap.size := by omega
  clear hk
  have hk := klt k1
  have n1sa : w.heap.size + 1 ≠ sa := by omega
  have m1sa : sa ≠ w.heap.size + 1 := by omega
  have n1sb : w.heap.size + 1 ≠ sb := by omega
  have m1sb : sb ≠ w.heap.size + 1 := by omega
  have n1sc : w.heap.size + 1 ≠ sc := by omega
  have m1sc : sc ≠ w.heap.size + 1 := by omega
  clear hk
  have hk := klt k2
  have n2sa : w.heap.size + 1 + 1 ≠ sa := by omega
  have m2sa : sa ≠ w.heap.size + 1 + 1 := by omega
  have n2sb : w.heap.size + 1 + 1 ≠ sb := by omega
  have m2sb : sb ≠ w.heap.size + 1 + 1 := by omega
  have n2sc : w.heap.size + 1 + 1 ≠ sc := by omega
  have m2sc : sc ≠ w.heap.size + 1 + 1 := by omega
  clear hk
  have esa : w.heap.size ≤ sa := by have := HB.size; omega
  have esb : w.heap.size ≤ sb := by have := HB.size; omega
  have esc : w.heap.size ≤ sc := by have := HB.size; omega
  replace HB := below_call (by first | exact HB | (repeat (first | (with_reducible assumption) | (with_reducible exact Below.refl _ _) | (with_reducible refine below_set ?_ (by first | (simp; done) | (simp; omega) | omega) _) | (with_reducible apply below_alloc) | (with_reducible apply below_drew) | (with_reducible apply below_drewN) | (with_reducible refine below_call ?_ (by assumption))))) hS; replace k0 : hp _ w.heap.size = some (.cells #[.int .i64 a, .int .i64 b] 23 (0, 0)) := kblk hS (by first | exact k0 | (simp [hp_alloc, hp_set, hp_drew, hp_drewN, cset_cells, k0, k1, k2, nsasb, msasb, nsasc, msasc, nsbsc, msbsc, n0sa, m0sa, n0sb, m0sb, n0sc, m0sc, n1sa, m1sa, n1sb, m1sb, n1sc, m1sc, n2sa, m2sa, n2sb, m2sb, n2sc, m2sc]; done)); replace k1 : hp _ (w.heap.size + 1) = some (.cells #[.int .i64 c, .int .i64 d] 23 (0, 0)) := kblk hS (by first | exact k1 | (simp [hp_alloc, hp_set, hp_drew, hp_drewN, cset_cells, k0, k1, k2, nsasb, msasb, nsasc, msasc, nsbsc, msbsc, n0sa, m0sa, n0sb, m0sb, n0sc, m0sc, n1sa, m1sa, n1sb, m1sb, n1sc, m1sc, n2sa, m2sa, n2sb, m2sb, n2sc, m2sc]; done)); replace k2 : hp _ (w.heap.size + 1 + 1) = some (.cells #[.int .i64 p, .int .i64 q] 23 (0, 0)) := kblk hS (by first | exact k2 | (simp [hp_alloc, hp_set, hp_drew, hp_drewN, cset_cells, k0, k1, k2, nsasb, msasb, nsasc, msasc, nsbsc, msbsc, n0sa, m0sa, n0sb, m0sb, n0sc, m0sc, n1sa, m1sa, n1sb, m1sb, n1sc, m1sc, n2sa, m2sa, n2sb, m2sb, n2sc, m2sc]; done)); replace c0 := kcell k0; replace f0 := kfree k0; replace c1 := kcell k1; replace f1 := kfree k1; replace c2 := kcell k2; replace f2 := kfree k2
  have csa := kcell ksa; have fsa := kfree ksa
  have csb := kcell ksb; have fsb := kfree ksb
  have csc := kcell ksc; have fsc := kfree ksc
  go_wp2_with fail
  refine Ph.at_world ?_; intro W3 hW
  have q0 : hp W3 w.heap.size = some (.cells #[.int .i64 a, .int .i64 b] 23 (0, 0)) := by rw [hW]; simp [hp_alloc, hp_set, hp_drew, hp_drewN, cset_cells, k0, k1, k2, ksa, ksb, ksc, nsasb, msasb, nsasc, msasc, nsbsc, msbsc, n0sa, m0sa, n0sb, m0sb, n0sc, m0sc, n1sa, m1sa, n1sb, m1sb, n1sc, m1sc, n2sa, m2sa, n2sb, m2sb, n2sc, m2sc]
  have q1 : hp W3 (w.heap.size + 1) = some (.cells #[.int .i64 c, .int .i64 d] 23 (0, 0)) := by rw [hW]; simp [hp_alloc, hp_set, hp_drew, hp_drewN, cset_cells, k0, k1, k2, ksa, ksb, ksc, nsasb, msasb, nsasc, msasc, nsbsc, msbsc, n0sa, m0sa, n0sb, m0sb, n0sc, m0sc, n1sa, m1sa, n1sb, m1sb, n1sc, m1sc, n2sa, m2sa, n2sb, m2sb, n2sc, m2sc]
  have q2 : hp W3 (w.heap.size + 1 + 1) = some (.cells #[.int .i64 p, .int .i64 q] 23 (0, 0)) := by rw [hW]; simp [hp_alloc, hp_set, hp_drew, hp_drewN, cset_cells, k0, k1, k2, ksa, ksb, ksc, nsasb, msasb, nsasc, msasc, nsbsc, msbsc, n0sa, m0sa, n0sb, m0sb, n0sc, m0sc, n1sa, m1sa, n1sb, m1sb, n1sc, m1sc, n2sa, m2sa, n2sb, m2sb, n2sc, m2sc]
  have qsa : hp W3 sa = some (.cells #[.int .i64 a, .int .i64 b] 25 (0, 0)) := by rw [hW]; simp [hp_alloc, hp_set, hp_drew, hp_drewN, cset_cells, k0, k1, k2, ksa, ksb, ksc, nsasb, msasb, nsasc, msasc, nsbsc, msbsc, n0sa, m0sa, n0sb, m0sb, n0sc, m0sc, n1sa, m1sa, n1sb, m1sb, n1sc, m1sc, n2sa, m2sa, n2sb, m2sb, n2sc, m2sc]
  have qsb : hp W3 sb = some (.cells #[.int .i64 c, .int .i64 d] 25 (0, 0)) := by rw [hW]; simp [hp_alloc, hp_set, hp_drew, hp_drewN, cset_cells, k0, k1, k2, ksa, ksb, ksc, nsasb, msasb, nsasc, msasc, nsbsc, msbsc, n0sa, m0sa, n0sb, m0sb, n0sc, m0sc, n1sa, m1sa, n1sb, m1sb, n1sc, m1sc, n2sa, m2sa, n2sb, m2sb, n2sc, m2sc]
  have qsc : hp W3 sc = some (.cells #[.int .i64 p, .int .i64 q] 25 (0, 0)) := by rw [hW]; simp [hp_alloc, hp_set, hp_drew, hp_drewN, cset_cells, k0, k1, k2, ksa, ksb, ksc, nsasb, msasb, nsasc, msasc, nsbsc, msbsc, n0sa, m0sa, n0sb, m0sb, n0sc, m0sc, n1sa, m1sa, n1sb, m1sb, n1sc, m1sc, n2sa, m2sa, n2sb, m2sb, n2sc, m2sc]
  have HB' : Below w.heap.size w W3 := by rw [hW]; (repeat (first | (with_reducible assumption) | (with_reducible exact Below.refl _ _) | (with_reducible refine below_set ?_ (by first | (simp; done) | (simp; omega) | omega) _) | (with_reducible apply below_alloc) | (with_reducible apply below_drew) | (with_reducible apply below_drewN) | (with_reducible refine below_call ?_ (by assumption))))
  replace HB := HB'; clear HB'
  clear hW
  clear k0 c0 f0
  clear k1 c1 f1
  clear k2 c2 f2
  clear ksa csa fsa
  clear ksb csb fsb
  clear ksc csc fsc
  have k0 := q0; clear q0; have c0 := kcell k0; have f0 := kfree k0
  have k1 := q1; clear q1; have c1 := kcell k1; have f1 := kfree k1
  have k2 := q2; clear q2; have c2 := kcell k2; have f2 := kfree k2
  have ksa := qsa; clear qsa; have csa := kcell ksa; have fsa := kfree ksa
  have ksb := qsb; clear qsb; have csb := kcell ksb; have fsb := kfree ksb
  have ksc := qsc; clear qsc; have csc := kcell ksc; have fsc := kfree ksc
  refine Ph.wp_region_gr 42 42 [] (by kernel_rfl) (by kernel_rfl) (fun _ d _ _ _ h => by cases d <;> exact h) ?_
  simp only [List.take_succ_cons, List.take_zero, List.drop_succ_cons, List.drop_zero]
  repeat (first | (apply Ph.wpG_op rfl; (focus (intro w1 hS; have d0 := kcell (kblk hS k0); have d1 := kcell (kblk hS k1); have d2 := kcell (kblk hS k2); have dsa := kcell (kblk hS ksa); have dsb := kcell (kblk hS ksb); have dsc := kcell (kblk hS ksc); go_simp; first | exact rfl | exact ⟨rfl, Below.refl _ _⟩ | ((with_reducible refine (meet64 _ _ _ _ _).mono ?_); rintro e w2 ⟨rfl, hb⟩; exact ⟨rfl, hb⟩) | ((with_reducible refine (hull64 _ _ _ _ _).mono ?_); rintro e w2 ⟨rfl, hb⟩; exact ⟨rfl, hb⟩)))); simp only [List.tail_cons, List.tail_nil, Act.put, List.setIfInBounds_toArray, List.set_cons_zero, List.set_cons_succ])
  refine Ph.wpG_nil ?_
  refine Ph.wpAl_nil ?_; intro v3 hS hgs hne
  clear hgs hne
  replace HB := below_call (by first | exact HB | (repeat (first | (with_reducible assumption) | (with_reducible exact Below.refl _ _) | (with_reducible refine below_set ?_ (by first | (simp; done) | (simp; omega) | omega) _) | (with_reducible apply below_alloc) | (with_reducible apply below_drew) | (with_reducible apply below_drewN) | (with_reducible refine below_call ?_ (by assumption))))) hS; replace k0 : hp _ w.heap.size = some (.cells #[.int .i64 a, .int .i64 b] 23 (0, 0)) := kblk hS (by first | exact k0 | (simp [hp_alloc, hp_set, hp_drew, hp_drewN, cset_cells, k0, k1, k2, ksa, ksb, ksc, nsasb, msasb, nsasc, msasc, nsbsc, msbsc, n0sa, m0sa, n0sb, m0sb, n0sc, m0sc, n1sa, m1sa, n1sb, m1sb, n1sc, m1sc, n2sa, m2sa, n2sb, m2sb, n2sc, m2sc]; done)); replace k1 : hp _ (w.heap.size + 1) = some (.cells #[.int .i64 c, .int .i64 d] 23 (0, 0)) := kblk hS (by first | exact k1 | (simp [hp_alloc, hp_set, hp_drew, hp_drewN, cset_cells, k0, k1, k2, ksa, ksb, ksc, nsasb, msasb, nsasc, msasc, nsbsc, msbsc, n0sa, m0sa, n0sb, m0sb, n0sc, m0sc, n1sa, m1sa, n1sb, m1sb, n1sc, m1sc, n2sa, m2sa, n2sb, m2sb, n2sc, m2sc]; done)); replace k2 : hp _ (w.heap.size + 1 + 1) = some (.cells #[.int .i64 p, .int .i64 q] 23 (0, 0)) := kblk hS (by first | exact k2 | (simp [hp_alloc, hp_set, hp_drew, hp_drewN, cset_cells, k0, k1, k2, ksa, ksb, ksc, nsasb, msasb, nsasc, msasc, nsbsc, msbsc, n0sa, m0sa, n0sb, m0sb, n0sc, m0sc, n1sa, m1sa, n1sb, m1sb, n1sc, m1sc, n2sa, m2sa, n2sb, m2sb, n2sc, m2sc]; done)); replace ksa : hp _ sa = some (.cells #[.int .i64 a, .int .i64 b] 25 (0, 0)) := kblk hS (by first | exact ksa | (simp [hp_alloc, hp_set, hp_drew, hp_drewN, cset_cells, k0, k1, k2, ksa, ksb, ksc, nsasb, msasb, nsasc, msasc, nsbsc, msbsc, n0sa, m0sa, n0sb, m0sb, n0sc, m0sc, n1sa, m1sa, n1sb, m1sb, n1sc, m1sc, n2sa, m2sa, n2sb, m2sb, n2sc, m2sc]; done)); replace ksb : hp _ sb = some (.cells #[.int .i64 c, .int .i64 d] 25 (0, 0)) := kblk hS (by first | exact ksb | (simp [hp_alloc, hp_set, hp_drew, hp_drewN, cset_cells, k0, k1, k2, ksa, ksb, ksc, nsasb, msasb, nsasc, msasc, nsbsc, msbsc, n0sa, m0sa, n0sb, m0sb, n0sc, m0sc, n1sa, m1sa, n1sb, m1sb, n1sc, m1sc, n2sa, m2sa, n2sb, m2sb, n2sc, m2sc]; done)); replace ksc : hp _ sc = some (.cells #[.int .i64 p, .int .i64 q] 25 (0, 0)) := kblk hS (by first | exact ksc | (simp [hp_alloc, hp_set, hp_drew, hp_drewN, cset_cells, k0, k1, k2, ksa, ksb, ksc, nsasb, msasb, nsasc, msasc, nsbsc, msbsc, n0sa, m0sa, n0sb, m0sb, n0sc, m0sc, n1sa, m1sa, n1sb, m1sb, n1sc, m1sc, n2sa, m2sa, n2sb, m2sb, n2sc, m2sc]; done)); replace c0 := kcell k0; replace f0 := kfree k0; replace c1 := kcell k1; replace f1 := kfree k1; replace c2 := kcell k2; replace f2 := kfree k2; replace csa := kcell ksa; replace fsa := kfree ksa; replace csb := kcell ksb; replace fsb := kfree ksb; replace csc := kcell ksc; replace fsc := kfree ksc
  clear e1 e2 e3 e4
  go_wp2_with fail
  refine Ph.wp_region_gr 12 12 [] (by kernel_rfl) (by kernel_rfl) (fun _ d _ _ _ h => by cases d <;> exact h) ?_
  simp only [List.take_succ_cons, List.take_zero, List.drop_succ_cons, List.drop_zero]
  repeat (first | (apply Ph.wpG_op rfl; (focus (intro w1 hS; have d0 := kcell (kblk hS k0); have d1 := kcell (kblk hS k1); have d2 := kcell (kblk hS k2); have dsa := kcell (kblk hS ksa); have dsb := kcell (kblk hS ksb); have dsc := kcell (kblk hS ksc); go_simp; first | exact rfl | exact ⟨rfl, Below.refl _ _⟩ | ((with_reducible refine (compare64 _ _ _ _ _).mono ?_); rintro e w2 ⟨rfl, hb⟩; exact ⟨rfl, hb⟩)))); simp only [List.tail_cons, List.tail_nil, Act.put, List.setIfInBounds_toArray, List.set_cons_zero, List.set_cons_succ])
  refine Ph.wpG_nil ?_
  refine Ph.wpAl_nil ?_; intro v4 hS hgs hne
  clear hgs hne
  replace HB := below_call (by first | exact HB | (repeat (first | (with_reducible assumption) | (with_reducible exact Below.refl _ _) | (with_reducible refine below_set ?_ (by first | (simp; done) | (simp; omega) | omega) _) | (with_reducible apply below_alloc) | (with_reducible apply below_drew) | (with_reducible apply below_drewN) | (with_reducible refine below_call ?_ (by assumption))))) hS; replace k0 : hp _ w.heap.size = some (.cells #[.int .i64 a, .int .i64 b] 23 (0, 0)) := kblk hS (by first | exact k0 | (simp [hp_alloc, hp_set, hp_drew, hp_drewN, cset_cells, k0, k1, k2, ksa, ksb, ksc, nsasb, msasb, nsasc, msasc, nsbsc, msbsc, n0sa, m0sa, n0sb, m0sb, n0sc, m0sc, n1sa, m1sa, n1sb, m1sb, n1sc, m1sc, n2sa, m2sa, n2sb, m2sb, n2sc, m2sc]; done)); replace k1 : hp _ (w.heap.size + 1) = some (.cells #[.int .i64 c, .int .i64 d] 23 (0, 0)) := kblk hS (by first | exact k1 | (simp [hp_alloc, hp_set, hp_drew, hp_drewN, cset_cells, k0, k1, k2, ksa, ksb, ksc, nsasb, msasb, nsasc, msasc, nsbsc, msbsc, n0sa, m0sa, n0sb, m0sb, n0sc, m0sc, n1sa, m1sa, n1sb, m1sb, n1sc, m1sc, n2sa, m2sa, n2sb, m2sb, n2sc, m2sc]; done)); replace k2 : hp _ (w.heap.size + 1 + 1) = some (.cells #[.int .i64 p, .int .i64 q] 23 (0, 0)) := kblk hS (by first | exact k2 | (simp [hp_alloc, hp_set, hp_drew, hp_drewN, cset_cells, k0, k1, k2, ksa, ksb, ksc, nsasb, msasb, nsasc, msasc, nsbsc, msbsc, n0sa, m0sa, n0sb, m0sb, n0sc, m0sc, n1sa, m1sa, n1sb, m1sb, n1sc, m1sc, n2sa, m2sa, n2sb, m2sb, n2sc, m2sc]; done)); replace ksa : hp _ sa = some (.cells #[.int .i64 a, .int .i64 b] 25 (0, 0)) := kblk hS (by first | exact ksa | (simp [hp_alloc, hp_set, hp_drew, hp_drewN, cset_cells, k0, k1, k2, ksa, ksb, ksc, nsasb, msasb, nsasc, msasc, nsbsc, msbsc, n0sa, m0sa, n0sb, m0sb, n0sc, m0sc, n1sa, m1sa, n1sb, m1sb, n1sc, m1sc, n2sa, m2sa, n2sb, m2sb, n2sc, m2sc]; done)); replace ksb : hp _ sb = some (.cells #[.int .i64 c, .int .i64 d] 25 (0, 0)) := kblk hS (by first | exact ksb | (simp [hp_alloc, hp_set, hp_drew, hp_drewN, cset_cells, k0, k1, k2, ksa, ksb, ksc, nsasb, msasb, nsasc, msasc, nsbsc, msbsc, n0sa, m0sa, n0sb, m0sb, n0sc, m0sc, n1sa, m1sa, n1sb, m1sb, n1sc, m1sc, n2sa, m2sa, n2sb, m2sb, n2sc, m2sc]; done)); replace ksc : hp _ sc = some (.cells #[.int .i64 p, .int .i64 q] 25 (0, 0)) := kblk hS (by first | exact ksc | (simp [hp_alloc, hp_set, hp_drew, hp_drewN, cset_cells, k0, k1, k2, ksa, ksb, ksc, nsasb, msasb, nsasc, msasc, nsbsc, msbsc, n0sa, m0sa, n0sb, m0sb, n0sc, m0sc, n1sa, m1sa, n1sb, m1sb, n1sc, m1sc, n2sa, m2sa, n2sb, m2sb, n2sc, m2sc]; done)); replace c0 := kcell k0; replace f0 := kfree k0; replace c1 := kcell k1; replace f1 := kfree k1; replace c2 := kcell k2; replace f2 := kfree k2; replace csa := kcell ksa; replace fsa := kfree ksa; replace csb := kcell ksb; replace fsb := kfree ksb; replace csc := kcell ksc; replace fsc := kfree ksc
  have cs := comp_self a b
  have cn := comp_neg a b c d
  have ct := Lib.hid (comp_trans a b c d p q)
  have y0 := comp_vals a b c d
  have y1 := comp_vals c d p q
  have y2 := comp_vals a b p q
  rcases y0 with hx | hx | hx <;> rcases y1 with hy | hy | hy <;> rcases y2 with hz | hz | hz
  all_goals (have ct' := ct.out; clear ct; rw [hx, hy, hz] at ct'; rw [hx] at cn)
  all_goals first | (exfalso; omega) | skip
  all_goals clear ct'
  all_goals (go_wp2_with (first | (go_at_call 40; refine (compare64 _ _ _ _ _).mono ?_; rintro e w1 ⟨rfl, hb⟩; replace HB := below_call (by first | exact HB | (repeat (first | (with_reducible assumption) | (with_reducible exact Below.refl _ _) | (with_reducible refine below_set ?_ (by first | (simp; done) | (simp; omega) | omega) _) | (with_reducible apply below_alloc) | (with_reducible apply below_drew) | (with_reducible apply below_drewN) | (with_reducible refine below_call ?_ (by assumption))))) hb; replace k0 : hp _ w.heap.size = some (.cells #[.int .i64 a, .int .i64 b] 23 (0, 0)) := kblk hb (by first | exact k0 | (simp [hp_alloc, hp_set, hp_drew, hp_drewN, cset_cells, k0, k1, k2, ksa, ksb, ksc, nsasb, msasb, nsasc, msasc, nsbsc, msbsc, n0sa, m0sa, n0sb, m0sb, n0sc, m0sc, n1sa, m1sa, n1sb, m1sb, n1sc, m1sc, n2sa, m2sa, n2sb, m2sb, n2sc, m2sc]; done)); replace k1 : hp _ (w.heap.size + 1) = some (.cells #[.int .i64 c, .int .i64 d] 23 (0, 0)) := kblk hb (by first | exact k1 | (simp [hp_alloc, hp_set, hp_drew, hp_drewN, cset_cells, k0, k1, k2, ksa, ksb, ksc, nsasb, msasb, nsasc, msasc, nsbsc, msbsc, n0sa, m0sa, n0sb, m0sb, n0sc, m0sc, n1sa, m1sa, n1sb, m1sb, n1sc, m1sc, n2sa, m2sa, n2sb, m2sb, n2sc, m2sc]; done)); replace k2 : hp _ (w.heap.size + 1 + 1) = some (.cells #[.int .i64 p, .int .i64 q] 23 (0, 0)) := kblk hb (by first | exact k2 | (simp [hp_alloc, hp_set, hp_drew, hp_drewN, cset_cells, k0, k1, k2, ksa, ksb, ksc, nsasb, msasb, nsasc, msasc, nsbsc, msbsc, n0sa, m0sa, n0sb, m0sb, n0sc, m0sc, n1sa, m1sa, n1sb, m1sb, n1sc, m1sc, n2sa, m2sa, n2sb, m2sb, n2sc, m2sc]; done)); replace ksa : hp _ sa = some (.cells #[.int .i64 a, .int .i64 b] 25 (0, 0)) := kblk hb (by first | exact ksa | (simp [hp_alloc, hp_set, hp_drew, hp_drewN, cset_cells, k0, k1, k2, ksa, ksb, ksc, nsasb, msasb, nsasc, msasc, nsbsc, msbsc, n0sa, m0sa, n0sb, m0sb, n0sc, m0sc, n1sa, m1sa, n1sb, m1sb, n1sc, m1sc, n2sa, m2sa, n2sb, m2sb, n2sc, m2sc]; done)); replace ksb : hp _ sb = some (.cells #[.int .i64 c, .int .i64 d] 25 (0, 0)) := kblk hb (by first | exact ksb | (simp [hp_alloc, hp_set, hp_drew, hp_drewN, cset_cells, k0, k1, k2, ksa, ksb, ksc, nsasb, msasb, nsasc, msasc, nsbsc, msbsc, n0sa, m0sa, n0sb, m0sb, n0sc, m0sc, n1sa, m1sa, n1sb, m1sb, n1sc, m1sc, n2sa, m2sa, n2sb, m2sb, n2sc, m2sc]; done)); replace ksc : hp _ sc = some (.cells #[.int .i64 p, .int .i64 q] 25 (0, 0)) := kblk hb (by first | exact ksc | (simp [hp_alloc, hp_set, hp_drew, hp_drewN, cset_cells, k0, k1, k2, ksa, ksb, ksc, nsasb, msasb, nsasc, msasc, nsbsc, msbsc, n0sa, m0sa, n0sb, m0sb, n0sc, m0sc, n1sa, m1sa, n1sb, m1sb, n1sc, m1sc, n2sa, m2sa, n2sb, m2sb, n2sc, m2sc]; done)); replace c0 := kcell k0; replace f0 := kfree k0; replace c1 := kcell k1; replace f1 := kfree k1; replace c2 := kcell k2; replace f2 := kfree k2; replace csa := kcell ksa; replace fsa := kfree ksa; replace csb := kcell ksb; replace fsb := kfree ksb; replace csc := kcell ksc; replace fsc := kfree ksc)))
  all_goals (go_ret; exact ⟨by first | rfl | (simp; done) | (simp [*]; done), by (repeat (first | (with_reducible assumption) | (with_reducible exact Below.refl _ _) | (with_reducible refine below_set ?_ (by first | (simp; done) | (simp; omega) | omega) _) | (with_reducible apply below_alloc) | (with_reducible apply below_drew) | (with_reducible apply below_drewN) | (with_reducible refine below_call ?_ (by assumption))))⟩)

end Go.Proofs.Ytplhbnehlkoedaa
