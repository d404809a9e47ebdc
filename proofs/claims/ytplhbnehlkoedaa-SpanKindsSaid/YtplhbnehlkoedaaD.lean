/- Span: the reference's Compare; what the laws call. -/
import Derived.Test.YtplhbnehlkoedaaB
import Derived.WalkKit
import Derived.WalkLawsBesides
import Derived.WalkSpells
import Derived.Below
import Derived.Deep.RegionHeld3
import Derived.Deep.QuietTactic
import Derived.BigQuiet
import Derived.Deep.DeepCutAuto
import Derived.Deep.DeepMust
import Derived.KernelRfl
import Derived.Outline
import Derived.RegionTactic
namespace Go.Proofs.Ytplhbnehlkoedaa
open Go.RowKit
set_option linter.unusedVariables false
set_option linter.unusedSimpArgs false

attribute [local go_sem] max2_int min2_int max_two min_two ok_ite
attribute [local simp, local go_sem] ne_2 ne_3 ne_4 ne_5 en_2 en_3 en_4 en_5

def rcompS (a b c d : Int) : Int :=
  if (decide ((ofS a b).1 = (ofS c d).1) && decide ((ofS a b).2 = (ofS c d).2)) then 0
  else if emptyB a b || (!emptyB c d && (decide ((ofS a b).1 < (ofS c d).1) || (((ofS a b).1 == (ofS c d).1) && decide ((ofS a b).2 < (ofS c d).2)))) then -1 else 1

theorem rofx {a b x y : Int} (h : ofS a b = (x, y)) (w : World) :
    Calls Try.prog 14 #[.int .i64 a, .int .i64 b] w fun e w' => e = .returned (.agg #[.int .i64 x, .int .i64 y]) ∧ Below w.heap.size w w' := by
  have := rof a b w; rw [h] at this; exact this

set_option maxHeartbeats 8000000 in
theorem rcompx (a b c d x1 x2 y1 y2 : Int) (ha : Hid (ofS a b = (x1, x2))) (hc : Hid (ofS c d = (y1, y2))) (w : World) :
    Calls Try.prog 41 #[.agg #[.int .i64 a, .int .i64 b], .agg #[.int .i64 c, .int .i64 d]] w fun e w' => e = .returned (.int .i64 (if (decide (x1 = y1) && decide (x2 = y2)) then 0 else if emptyB a b || (!emptyB c d && (decide (x1 < y1) || ((x1 == y1) && decide (x2 < y2)))) then -1 else 1)) ∧ Below w.heap.size w w' := by
  by_cases h0 : x1 = y1
  · subst h0
    by_cases h1 : x2 = y2
    · subst h1
      go_enter Try.func41, Try.ntmps41
      go_upto_region 1 with fail
      refine Ph.at_world ?_; intro W1 hW
      have q0 : hp W1 w.heap.size = some (.cells #[.int .i64 a, .int .i64 b] 29 (0, 0)) := by rw [hW]; simp [hp_alloc, hp_set, hp_drew, hp_drewN, cset_cells]
      have q1 : hp W1 (w.heap.size + 1) = some (.cells #[.int .i64 c, .int .i64 d] 29 (0, 0)) := by rw [hW]; simp [hp_alloc, hp_set, hp_drew, hp_drewN, cset_cells]
      have HB : Below w.heap.size w W1 := by rw [hW]; (repeat (first | assumption | exact Below.refl _ _ | (refine below_call ?_ (by assumption)) | apply below_alloc | apply below_drew | apply below_drewN | (refine below_set ?_ (by first | (simp; done) | (simp; omega) | omega) _)))
      clear hW
      have k0 := q0; clear q0; have c0 := kcell k0; have f0 := kfree k0
      have k1 := q1; clear q1; have c1 := kcell k1; have f1 := kfree k1
      go_wp2_with fail
      refine Ph.wp_region_gr 10 12 [] (by kernel_rfl) (by kernel_rfl) (fun _ d _ _ _ h => by cases d <;> exact h) ?_
      simp only [List.take_succ_cons, List.take_zero, List.drop_succ_cons, List.drop_zero]
      repeat (first | (apply Ph.wpG_op rfl; (focus (intro w1 hS; have d0 := kcell (kblk hS k0); have d1 := kcell (kblk hS k1); go_simp; first | exact rfl | exact ⟨rfl, Below.refl _ _⟩ | ((with_reducible refine (rofx ha.out _).mono ?_); rintro e w2 ⟨rfl, hb⟩; exact ⟨rfl, hb⟩) | ((with_reducible refine (rofx hc.out _).mono ?_); rintro e w2 ⟨rfl, hb⟩; exact ⟨rfl, hb⟩)))); simp only [List.tail_cons, List.tail_nil, Act.put, List.setIfInBounds_toArray, List.set_cons_zero, List.set_cons_succ])
      refine Ph.wpG_nil ?_
      apply Ph.wpAl_op (fun g => .pointer (some ⟨g, 0, none⟩)) rfl; (focus (intro w1; go_simp; exact rfl))
      intro g5; simp only [List.tail_cons, List.tail_nil, Act.put, List.setIfInBounds_toArray, List.set_cons_zero, List.set_cons_succ]
      apply Ph.wpAl_op (fun g => .pointer (some ⟨g, 0, none⟩)) rfl; (focus (intro w1; go_simp; exact rfl))
      intro g6; simp only [List.tail_cons, List.tail_nil, Act.put, List.setIfInBounds_toArray, List.set_cons_zero, List.set_cons_succ]
      refine Ph.wpAl_nil ?_; intro v1 hS hgs hne
      simp only [List.nil_append, List.cons_append, List.forall_mem_cons, List.pairwise_cons, Prod.mk.injEq] at hgs hne
      obtain ⟨⟨bg5, kg5⟩, ⟨bg6, kg6⟩, _⟩ := hgs
      replace kg5 : hp v1 g5 = some (.cells #[.int .i64 0, .int .i64 0] 29 (0, 0)) := kg5
      replace kg6 : hp v1 g6 = some (.cells #[.int .i64 0, .int .i64 0] 29 (0, 0)) := kg6
      have ng5g6 : g5 ≠ g6 := by simp at hne; first | exact hne | exact hne.1 | omega
      have mg5g6 : g6 ≠ g5 := fun e => ng5g6 e.symm
      have hk := klt k0
      have n0g5 : w.heap.size ≠ g5 := by omega
      have m0g5 : g5 ≠ w.heap.size := by omega
      have n0g6 : w.heap.size ≠ g6 := by omega
      have m0g6 : g6 ≠ w.heap.size := by omega
      clear hk
      have hk := klt k1
      have n1g5 : w.heap.size + 1 ≠ g5 := by omega
      have m1g5 : g5 ≠ w.heap.size + 1 := by omega
      have n1g6 : w.heap.size + 1 ≠ g6 := by omega
      have m1g6 : g6 ≠ w.heap.size + 1 := by omega
      clear hk
      have eg5 : w.heap.size ≤ g5 := by have := HB.size; omega
      have eg6 : w.heap.size ≤ g6 := by have := HB.size; omega
      replace HB := below_call (by first | exact HB | (repeat (first | assumption | exact Below.refl _ _ | (refine below_call ?_ (by assumption)) | apply below_alloc | apply below_drew | apply below_drewN | (refine below_set ?_ (by first | (simp; done) | (simp; omega) | omega) _)))) hS; replace k0 : hp _ w.heap.size = some (.cells #[.int .i64 a, .int .i64 b] 29 (0, 0)) := kblk hS (by first | exact k0 | (simp [hp_alloc, hp_set, hp_drew, hp_drewN, cset_cells, k0, k1, ng5g6, mg5g6, n0g5, m0g5, n0g6, m0g6, n1g5, m1g5, n1g6, m1g6]; done)); replace k1 : hp _ (w.heap.size + 1) = some (.cells #[.int .i64 c, .int .i64 d] 29 (0, 0)) := kblk hS (by first | exact k1 | (simp [hp_alloc, hp_set, hp_drew, hp_drewN, cset_cells, k0, k1, ng5g6, mg5g6, n0g5, m0g5, n0g6, m0g6, n1g5, m1g5, n1g6, m1g6]; done)); replace c0 := kcell k0; replace f0 := kfree k0; replace c1 := kcell k1; replace f1 := kfree k1
      have cg5 := kcell kg5; have fg5 := kfree kg5
      have cg6 := kcell kg6; have fg6 := kfree kg6
      go_wp2_with fail
      go_wp2_with (first | (go_at_call 14; refine (rofx ha.out _).mono ?_; rintro e w1 ⟨rfl, hb⟩; replace HB := below_call (by first | exact HB | (repeat (first | assumption | exact Below.refl _ _ | (refine below_call ?_ (by assumption)) | apply below_alloc | apply below_drew | apply below_drewN | (refine below_set ?_ (by first | (simp; done) | (simp; omega) | omega) _)))) hb; replace k0 : hp _ w.heap.size = some (.cells #[.int .i64 a, .int .i64 b] 29 (0, 0)) := kblk hb (by first | exact k0 | (simp [hp_alloc, hp_set, hp_drew, hp_drewN, cset_cells, k0, k1, kg5, kg6, ng5g6, mg5g6, n0g5, m0g5, n0g6, m0g6, n1g5, m1g5, n1g6, m1g6]; done)); replace k1 : hp _ (w.heap.size + 1) = some (.cells #[.int .i64 c, .int .i64 d] 29 (0, 0)) := kblk hb (by first | exact k1 | (simp [hp_alloc, hp_set, hp_drew, hp_drewN, cset_cells, k0, k1, kg5, kg6, ng5g6, mg5g6, n0g5, m0g5, n0g6, m0g6, n1g5, m1g5, n1g6, m1g6]; done)); replace kg5 : hp _ g5 = some (.cells #[.int .i64 0, .int .i64 0] 29 (0, 0)) := kblk hb (by first | exact kg5 | (simp [hp_alloc, hp_set, hp_drew, hp_drewN, cset_cells, k0, k1, kg5, kg6, ng5g6, mg5g6, n0g5, m0g5, n0g6, m0g6, n1g5, m1g5, n1g6, m1g6]; done)); replace kg6 : hp _ g6 = some (.cells #[.int .i64 0, .int .i64 0] 29 (0, 0)) := kblk hb (by first | exact kg6 | (simp [hp_alloc, hp_set, hp_drew, hp_drewN, cset_cells, k0, k1, kg5, kg6, ng5g6, mg5g6, n0g5, m0g5, n0g6, m0g6, n1g5, m1g5, n1g6, m1g6]; done)); replace c0 := kcell k0; replace f0 := kfree k0; replace c1 := kcell k1; replace f1 := kfree k1; replace cg5 := kcell kg5; replace fg5 := kfree kg5; replace cg6 := kcell kg6; replace fg6 := kfree kg6) | (go_at_call 14; refine (rofx hc.out _).mono ?_; rintro e w1 ⟨rfl, hb⟩; replace HB := below_call (by first | exact HB | (repeat (first | assumption | exact Below.refl _ _ | (refine below_call ?_ (by assumption)) | apply below_alloc | apply below_drew | apply below_drewN | (refine below_set ?_ (by first | (simp; done) | (simp; omega) | omega) _)))) hb; replace k0 : hp _ w.heap.size = some (.cells #[.int .i64 a, .int .i64 b] 29 (0, 0)) := kblk hb (by first | exact k0 | (simp [hp_alloc, hp_set, hp_drew, hp_drewN, cset_cells, k0, k1, kg5, kg6, ng5g6, mg5g6, n0g5, m0g5, n0g6, m0g6, n1g5, m1g5, n1g6, m1g6]; done)); replace k1 : hp _ (w.heap.size + 1) = some (.cells #[.int .i64 c, .int .i64 d] 29 (0, 0)) := kblk hb (by first | exact k1 | (simp [hp_alloc, hp_set, hp_drew, hp_drewN, cset_cells, k0, k1, kg5, kg6, ng5g6, mg5g6, n0g5, m0g5, n0g6, m0g6, n1g5, m1g5, n1g6, m1g6]; done)); replace kg5 : hp _ g5 = some (.cells #[.int .i64 0, .int .i64 0] 29 (0, 0)) := kblk hb (by first | exact kg5 | (simp [hp_alloc, hp_set, hp_drew, hp_drewN, cset_cells, k0, k1, kg5, kg6, ng5g6, mg5g6, n0g5, m0g5, n0g6, m0g6, n1g5, m1g5, n1g6, m1g6]; done)); replace kg6 : hp _ g6 = some (.cells #[.int .i64 0, .int .i64 0] 29 (0, 0)) := kblk hb (by first | exact kg6 | (simp [hp_alloc, hp_set, hp_drew, hp_drewN, cset_cells, k0, k1, kg5, kg6, ng5g6, mg5g6, n0g5, m0g5, n0g6, m0g6, n1g5, m1g5, n1g6, m1g6]; done)); replace c0 := kcell k0; replace f0 := kfree k0; replace c1 := kcell k1; replace f1 := kfree k1; replace cg5 := kcell kg5; replace fg5 := kfree kg5; replace cg6 := kcell kg6; replace fg6 := kfree kg6))
      all_goals (go_ret; exact ⟨by first | rfl | (simp [*]; done) | (simp [*]; omega), by (repeat (first | assumption | exact Below.refl _ _ | (refine below_call ?_ (by assumption)) | apply below_alloc | apply below_drew | apply below_drewN | (refine below_set ?_ (by first | (simp; done) | (simp; omega) | omega) _)))⟩)
    · have g1 : (x2 == y2) = false := beq_eq_false_iff_ne.2 h1
      cases h2 : emptyB a b
      · skip
        cases h3 : emptyB c d
        · skip
          by_cases h4 : x2 < y2
          · have g4 : ¬ y2 ≤ x2 := by omega
            go_enter Try.func41, Try.ntmps41
            go_upto_region 1 with fail
            refine Ph.at_world ?_; intro W1 hW
            have q0 : hp W1 w.heap.size = some (.cells #[.int .i64 a, .int .i64 b] 29 (0, 0)) := by rw [hW]; simp [hp_alloc, hp_set, hp_drew, hp_drewN, cset_cells]
            have q1 : hp W1 (w.heap.size + 1) = some (.cells #[.int .i64 c, .int .i64 d] 29 (0, 0)) := by rw [hW]; simp [hp_alloc, hp_set, hp_drew, hp_drewN, cset_cells]
            have HB : Below w.heap.size w W1 := by rw [hW]; (repeat (first | assumption | exact Below.refl _ _ | (refine below_call ?_ (by assumption)) | apply below_alloc | apply below_drew | apply below_drewN | (refine below_set ?_ (by first | (simp; done) | (simp; omega) | omega) _)))
            clear hW
            have k0 := q0; clear q0; have c0 := kcell k0; have f0 := kfree k0
            have k1 := q1; clear q1; have c1 := kcell k1; have f1 := kfree k1
            go_wp2_with fail
            refine Ph.wp_region_gr 10 12 [] (by kernel_rfl) (by kernel_rfl) (fun _ d _ _ _ h => by cases d <;> exact h) ?_
            simp only [List.take_succ_cons, List.take_zero, List.drop_succ_cons, List.drop_zero]
            repeat (first | (apply Ph.wpG_op rfl; (focus (intro w1 hS; have d0 := kcell (kblk hS k0); have d1 := kcell (kblk hS k1); go_simp; first | exact rfl | exact ⟨rfl, Below.refl _ _⟩ | ((with_reducible refine (rofx ha.out _).mono ?_); rintro e w2 ⟨rfl, hb⟩; exact ⟨rfl, hb⟩) | ((with_reducible refine (rofx hc.out _).mono ?_); rintro e w2 ⟨rfl, hb⟩; exact ⟨rfl, hb⟩)))); simp only [List.tail_cons, List.tail_nil, Act.put, List.setIfInBounds_toArray, List.set_cons_zero, List.set_cons_succ])
            refine Ph.wpG_nil ?_
            apply Ph.wpAl_op (fun g => .pointer (some ⟨g, 0, none⟩)) rfl; (focus (intro w1; go_simp; exact rfl))
            intro g5; simp only [List.tail_cons, List.tail_nil, Act.put, List.setIfInBounds_toArray, List.set_cons_zero, List.set_cons_succ]
            apply Ph.wpAl_op (fun g => .pointer (some ⟨g, 0, none⟩)) rfl; (focus (intro w1; go_simp; exact rfl))
            intro g6; simp only [List.tail_cons, List.tail_nil, Act.put, List.setIfInBounds_toArray, List.set_cons_zero, List.set_cons_succ]
            refine Ph.wpAl_nil ?_; intro v1 hS hgs hne
            simp only [List.nil_append, List.cons_append, List.forall_mem_cons, List.pairwise_cons, Prod.mk.injEq] at hgs hne
            obtain ⟨⟨bg5, kg5⟩, ⟨bg6, kg6⟩, _⟩ := hgs
            replace kg5 : hp v1 g5 = some (.cells #[.int .i64 0, .int .i64 0] 29 (0, 0)) := kg5
            replace kg6 : hp v1 g6 = some (.cells #[.int .i64 0, .int .i64 0] 29 (0, 0)) := kg6
            have ng5g6 : g5 ≠ g6 := by simp at hne; first | exact hne | exact hne.1 | omega
            have mg5g6 : g6 ≠ g5 := fun e => ng5g6 e.symm
            have hk := klt k0
            have n0g5 : w.heap.size ≠ g5 := by omega
            have m0g5 : g5 ≠ w.heap.size := by omega
            have n0g6 : w.heap.size ≠ g6 := by omega
            have m0g6 : g6 ≠ w.heap.size := by omega
            clear hk
            have hk := klt k1
            have n1g5 : w.heap.size + 1 ≠ g5 := by omega
            have m1g5 : g5 ≠ w.heap.size + 1 := by omega
            have n1g6 : w.heap.size + 1 ≠ g6 := by omega
            have m1g6 : g6 ≠ w.heap.size + 1 := by omega
            clear hk
            have eg5 : w.heap.size ≤ g5 := by have := HB.size; omega
            have eg6 : w.heap.size ≤ g6 := by have := HB.size; omega
            replace HB := below_call (by first | exact HB | (repeat (first | assumption | exact Below.refl _ _ | (refine below_call ?_ (by assumption)) | apply below_alloc | apply below_drew | apply below_drewN | (refine below_set ?_ (by first | (simp; done) | (simp; omega) | omega) _)))) hS; replace k0 : hp _ w.heap.size = some (.cells #[.int .i64 a, .int .i64 b] 29 (0, 0)) := kblk hS (by first | exact k0 | (simp [hp_alloc, hp_set, hp_drew, hp_drewN, cset_cells, k0, k1, ng5g6, mg5g6, n0g5, m0g5, n0g6, m0g6, n1g5, m1g5, n1g6, m1g6]; done)); replace k1 : hp _ (w.heap.size + 1) = some (.cells #[.int .i64 c, .int .i64 d] 29 (0, 0)) := kblk hS (by first | exact k1 | (simp [hp_alloc, hp_set, hp_drew, hp_drewN, cset_cells, k0, k1, ng5g6, mg5g6, n0g5, m0g5, n0g6, m0g6, n1g5, m1g5, n1g6, m1g6]; done)); replace c0 := kcell k0; replace f0 := kfree k0; replace c1 := kcell k1; replace f1 := kfree k1
            have cg5 := kcell kg5; have fg5 := kfree kg5
            have cg6 := kcell kg6; have fg6 := kfree kg6
            go_wp2_with fail
            go_wp2_with fail
            go_at_call 16; refine Ph.at_callw ?_; intro W2 hW
            have q0 : hp W2 w.heap.size = some (.cells #[.int .i64 a, .int .i64 b] 29 (0, 0)) := by rw [hW]; simp [hp_alloc, hp_set, hp_drew, hp_drewN, cset_cells, k0, k1, kg5, kg6, ng5g6, mg5g6, n0g5, m0g5, n0g6, m0g6, n1g5, m1g5, n1g6, m1g6]
            have q1 : hp W2 (w.heap.size + 1) = some (.cells #[.int .i64 c, .int .i64 d] 29 (0, 0)) := by rw [hW]; simp [hp_alloc, hp_set, hp_drew, hp_drewN, cset_cells, k0, k1, kg5, kg6, ng5g6, mg5g6, n0g5, m0g5, n0g6, m0g6, n1g5, m1g5, n1g6, m1g6]
            have qg5 : hp W2 g5 = some (.cells #[.int .i64 x1, .int .i64 x2] 29 (0, 0)) := by rw [hW]; simp [hp_alloc, hp_set, hp_drew, hp_drewN, cset_cells, k0, k1, kg5, kg6, ng5g6, mg5g6, n0g5, m0g5, n0g6, m0g6, n1g5, m1g5, n1g6, m1g6]
            have qg6 : hp W2 g6 = some (.cells #[.int .i64 x1, .int .i64 y2] 29 (0, 0)) := by rw [hW]; simp [hp_alloc, hp_set, hp_drew, hp_drewN, cset_cells, k0, k1, kg5, kg6, ng5g6, mg5g6, n0g5, m0g5, n0g6, m0g6, n1g5, m1g5, n1g6, m1g6]
            have HB' : Below w.heap.size w W2 := by rw [hW]; (repeat (first | assumption | exact Below.refl _ _ | (refine below_call ?_ (by assumption)) | apply below_alloc | apply below_drew | apply below_drewN | (refine below_set ?_ (by first | (simp; done) | (simp; omega) | omega) _)))
            replace HB := HB'; clear HB'
            clear hW
            clear k0 c0 f0
            clear k1 c1 f1
            clear kg5 cg5 fg5
            clear kg6 cg6 fg6
            have k0 := q0; clear q0; have c0 := kcell k0; have f0 := kfree k0
            have k1 := q1; clear q1; have c1 := kcell k1; have f1 := kfree k1
            have kg5 := qg5; clear qg5; have cg5 := kcell kg5; have fg5 := kfree kg5
            have kg6 := qg6; clear qg6; have cg6 := kcell kg6; have fg6 := kfree kg6
            refine (rempty _ _ _).mono ?_; rintro e v2 ⟨rfl, hb⟩; replace HB := below_call (by first | exact HB | (repeat (first | assumption | exact Below.refl _ _ | (refine below_call ?_ (by assumption)) | apply below_alloc | apply below_drew | apply below_drewN | (refine below_set ?_ (by first | (simp; done) | (simp; omega) | omega) _)))) hb; replace k0 : hp _ w.heap.size = some (.cells #[.int .i64 a, .int .i64 b] 29 (0, 0)) := kblk hb (by first | exact k0 | (simp [hp_alloc, hp_set, hp_drew, hp_drewN, cset_cells, k0, k1, kg5, kg6, ng5g6, mg5g6, n0g5, m0g5, n0g6, m0g6, n1g5, m1g5, n1g6, m1g6]; done)); replace k1 : hp _ (w.heap.size + 1) = some (.cells #[.int .i64 c, .int .i64 d] 29 (0, 0)) := kblk hb (by first | exact k1 | (simp [hp_alloc, hp_set, hp_drew, hp_drewN, cset_cells, k0, k1, kg5, kg6, ng5g6, mg5g6, n0g5, m0g5, n0g6, m0g6, n1g5, m1g5, n1g6, m1g6]; done)); replace kg5 : hp _ g5 = some (.cells #[.int .i64 x1, .int .i64 x2] 29 (0, 0)) := kblk hb (by first | exact kg5 | (simp [hp_alloc, hp_set, hp_drew, hp_drewN, cset_cells, k0, k1, kg5, kg6, ng5g6, mg5g6, n0g5, m0g5, n0g6, m0g6, n1g5, m1g5, n1g6, m1g6]; done)); replace kg6 : hp _ g6 = some (.cells #[.int .i64 x1, .int .i64 y2] 29 (0, 0)) := kblk hb (by first | exact kg6 | (simp [hp_alloc, hp_set, hp_drew, hp_drewN, cset_cells, k0, k1, kg5, kg6, ng5g6, mg5g6, n0g5, m0g5, n0g6, m0g6, n1g5, m1g5, n1g6, m1g6]; done)); replace c0 := kcell k0; replace f0 := kfree k0; replace c1 := kcell k1; replace f1 := kfree k1; replace cg5 := kcell kg5; replace fg5 := kfree kg5; replace cg6 := kcell kg6; replace fg6 := kfree kg6
            go_wp2_with fail
            go_at_call 16; refine Ph.at_callw ?_; intro W3 hW
            have q0 : hp W3 w.heap.size = some (.cells #[.int .i64 a, .int .i64 b] 29 (0, 0)) := by rw [hW]; simp [hp_alloc, hp_set, hp_drew, hp_drewN, cset_cells, k0, k1, kg5, kg6, ng5g6, mg5g6, n0g5, m0g5, n0g6, m0g6, n1g5, m1g5, n1g6, m1g6]
            have q1 : hp W3 (w.heap.size + 1) = some (.cells #[.int .i64 c, .int .i64 d] 29 (0, 0)) := by rw [hW]; simp [hp_alloc, hp_set, hp_drew, hp_drewN, cset_cells, k0, k1, kg5, kg6, ng5g6, mg5g6, n0g5, m0g5, n0g6, m0g6, n1g5, m1g5, n1g6, m1g6]
            have qg5 : hp W3 g5 = some (.cells #[.int .i64 x1, .int .i64 x2] 29 (0, 0)) := by rw [hW]; simp [hp_alloc, hp_set, hp_drew, hp_drewN, cset_cells, k0, k1, kg5, kg6, ng5g6, mg5g6, n0g5, m0g5, n0g6, m0g6, n1g5, m1g5, n1g6, m1g6]
            have qg6 : hp W3 g6 = some (.cells #[.int .i64 x1, .int .i64 y2] 29 (0, 0)) := by rw [hW]; simp [hp_alloc, hp_set, hp_drew, hp_drewN, cset_cells, k0, k1, kg5, kg6, ng5g6, mg5g6, n0g5, m0g5, n0g6, m0g6, n1g5, m1g5, n1g6, m1g6]
            have HB' : Below w.heap.size w W3 := by rw [hW]; (repeat (first | assumption | exact Below.refl _ _ | (refine below_call ?_ (by assumption)) | apply below_alloc | apply below_drew | apply below_drewN | (refine below_set ?_ (by first | (simp; done) | (simp; omega) | omega) _)))
            replace HB := HB'; clear HB'
            clear hW
            clear k0 c0 f0
            clear k1 c1 f1
            clear kg5 cg5 fg5
            clear kg6 cg6 fg6
            have k0 := q0; clear q0; have c0 := kcell k0; have f0 := kfree k0
            have k1 := q1; clear q1; have c1 := kcell k1; have f1 := kfree k1
            have kg5 := qg5; clear qg5; have cg5 := kcell kg5; have fg5 := kfree kg5
            have kg6 := qg6; clear qg6; have cg6 := kcell kg6; have fg6 := kfree kg6
            refine (rempty _ _ _).mono ?_; rintro e v3 ⟨rfl, hb⟩; replace HB := below_call (by first | exact HB | (repeat (first | assumption | exact Below.refl _ _ | (refine below_call ?_ (by assumption)) | apply below_alloc | apply below_drew | apply below_drewN | (refine below_set ?_ (by first | (simp; done) | (simp; omega) | omega) _)))) hb; replace k0 : hp _ w.heap.size = some (.cells #[.int .i64 a, .int .i64 b] 29 (0, 0)) := kblk hb (by first | exact k0 | (simp [hp_alloc, hp_set, hp_drew, hp_drewN, cset_cells, k0, k1, kg5, kg6, ng5g6, mg5g6, n0g5, m0g5, n0g6, m0g6, n1g5, m1g5, n1g6, m1g6]; done)); replace k1 : hp _ (w.heap.size + 1) = some (.cells #[.int .i64 c, .int .i64 d] 29 (0, 0)) := kblk hb (by first | exact k1 | (simp [hp_alloc, hp_set, hp_drew, hp_drewN, cset_cells, k0, k1, kg5, kg6, ng5g6, mg5g6, n0g5, m0g5, n0g6, m0g6, n1g5, m1g5, n1g6, m1g6]; done)); replace kg5 : hp _ g5 = some (.cells #[.int .i64 x1, .int .i64 x2] 29 (0, 0)) := kblk hb (by first | exact kg5 | (simp [hp_alloc, hp_set, hp_drew, hp_drewN, cset_cells, k0, k1, kg5, kg6, ng5g6, mg5g6, n0g5, m0g5, n0g6, m0g6, n1g5, m1g5, n1g6, m1g6]; done)); replace kg6 : hp _ g6 = some (.cells #[.int .i64 x1, .int .i64 y2] 29 (0, 0)) := kblk hb (by first | exact kg6 | (simp [hp_alloc, hp_set, hp_drew, hp_drewN, cset_cells, k0, k1, kg5, kg6, ng5g6, mg5g6, n0g5, m0g5, n0g6, m0g6, n1g5, m1g5, n1g6, m1g6]; done)); replace c0 := kcell k0; replace f0 := kfree k0; replace c1 := kcell k1; replace f1 := kfree k1; replace cg5 := kcell kg5; replace fg5 := kfree kg5; replace cg6 := kcell kg6; replace fg6 := kfree kg6
            go_wp2_with (first | (go_at_call 14; refine (rofx ha.out _).mono ?_; rintro e w1 ⟨rfl, hb⟩; replace HB := below_call (by first | exact HB | (repeat (first | assumption | exact Below.refl _ _ | (refine below_call ?_ (by assumption)) | apply below_alloc | apply below_drew | apply below_drewN | (refine below_set ?_ (by first | (simp; done) | (simp; omega) | omega) _)))) hb; replace k0 : hp _ w.heap.size = some (.cells #[.int .i64 a, .int .i64 b] 29 (0, 0)) := kblk hb (by first | exact k0 | (simp [hp_alloc, hp_set, hp_drew, hp_drewN, cset_cells, k0, k1, kg5, kg6, ng5g6, mg5g6, n0g5, m0g5, n0g6, m0g6, n1g5, m1g5, n1g6, m1g6]; done)); replace k1 : hp _ (w.heap.size + 1) = some (.cells #[.int .i64 c, .int .i64 d] 29 (0, 0)) := kblk hb (by first | exact k1 | (simp [hp_alloc, hp_set, hp_drew, hp_drewN, cset_cells, k0, k1, kg5, kg6, ng5g6, mg5g6, n0g5, m0g5, n0g6, m0g6, n1g5, m1g5, n1g6, m1g6]; done)); replace kg5 : hp _ g5 = some (.cells #[.int .i64 x1, .int .i64 x2] 29 (0, 0)) := kblk hb (by first | exact kg5 | (simp [hp_alloc, hp_set, hp_drew, hp_drewN, cset_cells, k0, k1, kg5, kg6, ng5g6, mg5g6, n0g5, m0g5, n0g6, m0g6, n1g5, m1g5, n1g6, m1g6]; done)); replace kg6 : hp _ g6 = some (.cells #[.int .i64 x1, .int .i64 y2] 29 (0, 0)) := kblk hb (by first | exact kg6 | (simp [hp_alloc, hp_set, hp_drew, hp_drewN, cset_cells, k0, k1, kg5, kg6, ng5g6, mg5g6, n0g5, m0g5, n0g6, m0g6, n1g5, m1g5, n1g6, m1g6]; done)); replace c0 := kcell k0; replace f0 := kfree k0; replace c1 := kcell k1; replace f1 := kfree k1; replace cg5 := kcell kg5; replace fg5 := kfree kg5; replace cg6 := kcell kg6; replace fg6 := kfree kg6) | (go_at_call 14; refine (rofx hc.out _).mono ?_; rintro e w1 ⟨rfl, hb⟩; replace HB := below_call (by first | exact HB | (repeat (first | assumption | exact Below.refl _ _ | (refine below_call ?_ (by assumption)) | apply below_alloc | apply below_drew | apply below_drewN | (refine below_set ?_ (by first | (simp; done) | (simp; omega) | omega) _)))) hb; replace k0 : hp _ w.heap.size = some (.cells #[.int .i64 a, .int .i64 b] 29 (0, 0)) := kblk hb (by first | exact k0 | (simp [hp_alloc, hp_set, hp_drew, hp_drewN, cset_cells, k0, k1, kg5, kg6, ng5g6, mg5g6, n0g5, m0g5, n0g6, m0g6, n1g5, m1g5, n1g6, m1g6]; done)); replace k1 : hp _ (w.heap.size + 1) = some (.cells #[.int .i64 c, .int .i64 d] 29 (0, 0)) := kblk hb (by first | exact k1 | (simp [hp_alloc, hp_set, hp_drew, hp_drewN, cset_cells, k0, k1, kg5, kg6, ng5g6, mg5g6, n0g5, m0g5, n0g6, m0g6, n1g5, m1g5, n1g6, m1g6]; done)); replace kg5 : hp _ g5 = some (.cells #[.int .i64 x1, .int .i64 x2] 29 (0, 0)) := kblk hb (by first | exact kg5 | (simp [hp_alloc, hp_set, hp_drew, hp_drewN, cset_cells, k0, k1, kg5, kg6, ng5g6, mg5g6, n0g5, m0g5, n0g6, m0g6, n1g5, m1g5, n1g6, m1g6]; done)); replace kg6 : hp _ g6 = some (.cells #[.int .i64 x1, .int .i64 y2] 29 (0, 0)) := kblk hb (by first | exact kg6 | (simp [hp_alloc, hp_set, hp_drew, hp_drewN, cset_cells, k0, k1, kg5, kg6, ng5g6, mg5g6, n0g5, m0g5, n0g6, m0g6, n1g5, m1g5, n1g6, m1g6]; done)); replace c0 := kcell k0; replace f0 := kfree k0; replace c1 := kcell k1; replace f1 := kfree k1; replace cg5 := kcell kg5; replace fg5 := kfree kg5; replace cg6 := kcell kg6; replace fg6 := kfree kg6))
            all_goals (go_ret; exact ⟨by first | rfl | (simp [*]; done) | (simp [*]; omega), by (repeat (first | assumption | exact Below.refl _ _ | (refine below_call ?_ (by assumption)) | apply below_alloc | apply below_drew | apply below_drewN | (refine below_set ?_ (by first | (simp; done) | (simp; omega) | omega) _)))⟩)
          · have g4 : y2 ≤ x2 := by omega
            go_enter Try.func41, Try.ntmps41
            go_upto_region 1 with fail
            refine Ph.at_world ?_; intro W1 hW
            have q0 : hp W1 w.heap.size = some (.cells #[.int .i64 a, .int .i64 b] 29 (0, 0)) := by rw [hW]; simp [hp_alloc, hp_set, hp_drew, hp_drewN, cset_cells]
            have q1 : hp W1 (w.heap.size + 1) = some (.cells #[.int .i64 c, .int .i64 d] 29 (0, 0)) := by rw [hW]; simp [hp_alloc, hp_set, hp_drew, hp_drewN, cset_cells]
            have HB : Below w.heap.size w W1 := by rw [hW]; (repeat (first | assumption | exact Below.refl _ _ | (refine below_call ?_ (by assumption)) | apply below_alloc | apply below_drew | apply below_drewN | (refine below_set ?_ (by first | (simp; done) | (simp; omega) | omega) _)))
            clear hW
            have k0 := q0; clear q0; have c0 := kcell k0; have f0 := kfree k0
            have k1 := q1; clear q1; have c1 := kcell k1; have f1 := kfree k1
            go_wp2_with fail
            refine Ph.wp_region_gr 10 12 [] (by kernel_rfl) (by kernel_rfl) (fun _ d _ _ _ h => by cases d <;> exact h) ?_
            simp only [List.take_succ_cons, List.take_zero, List.drop_succ_cons, List.drop_zero]
            repeat (first | (apply Ph.wpG_op rfl; (focus (intro w1 hS; have d0 := kcell (kblk hS k0); have d1 := kcell (kblk hS k1); go_simp; first | exact rfl | exact ⟨rfl, Below.refl _ _⟩ | ((with_reducible refine (rofx ha.out _).mono ?_); rintro e w2 ⟨rfl, hb⟩; exact ⟨rfl, hb⟩) | ((with_reducible refine (rofx hc.out _).mono ?_); rintro e w2 ⟨rfl, hb⟩; exact ⟨rfl, hb⟩)))); simp only [List.tail_cons, List.tail_nil, Act.put, List.setIfInBounds_toArray, List.set_cons_zero, List.set_cons_succ])
            refine Ph.wpG_nil ?_
            apply Ph.wpAl_op (fun g => .pointer (some ⟨g, 0, none⟩)) rfl; (focus (intro w1; go_simp; exact rfl))
            intro g5; simp only [List.tail_cons, List.tail_nil, Act.put, List.setIfInBounds_toArray, List.set_cons_zero, List.set_cons_succ]
            apply Ph.wpAl_op (fun g => .pointer (some ⟨g, 0, none⟩)) rfl; (focus (intro w1; go_simp; exact rfl))
            intro g6; simp only [List.tail_cons, List.tail_nil, Act.put, List.setIfInBounds_toArray, List.set_cons_zero, List.set_cons_succ]
            refine Ph.wpAl_nil ?_; intro v1 hS hgs hne
            simp only [List.nil_append, List.cons_append, List.forall_mem_cons, List.pairwise_cons, Prod.mk.injEq] at hgs hne
            obtain ⟨⟨bg5, kg5⟩, ⟨bg6, kg6⟩, _⟩ := hgs
            replace kg5 : hp v1 g5 = some (.cells #[.int .i64 0, .int .i64 0] 29 (0, 0)) := kg5
            replace kg6 : hp v1 g6 = some (.cells #[.int .i64 0, .int .i64 0] 29 (0, 0)) := kg6
            have ng5g6 : g5 ≠ g6 := by simp at hne; first | exact hne | exact hne.1 | omega
            have mg5g6 : g6 ≠ g5 := fun e => ng5g6 e.symm
            have hk := klt k0
            have n0g5 : w.heap.size ≠ g5 := by omega
            have m0g5 : g5 ≠ w.heap.size := by omega
            have n0g6 : w.heap.size ≠ g6 := by omega
            have m0g6 : g6 ≠ w.heap.size := by omega
            clear hk
            have hk := klt k1
            have n1g5 : w.heap.size + 1 ≠ g5 := by omega
            have m1g5 : g5 ≠ w.heap.size + 1 := by omega
            have n1g6 : w.heap.size + 1 ≠ g6 := by omega
            have m1g6 : g6 ≠ w.heap.size + 1 := by omega
            clear hk
            have eg5 : w.heap.size ≤ g5 := by have := HB.size; omega
            have eg6 : w.heap.size ≤ g6 := by have := HB.size; omega
            replace HB := below_call (by first | exact HB | (repeat (first | assumption | exact Below.refl _ _ | (refine below_call ?_ (by assumption)) | apply below_alloc | apply below_drew | apply below_drewN | (refine below_set ?_ (by first | (simp; done) | (simp; omega) | omega) _)))) hS; replace k0 : hp _ w.heap.size = some (.cells #[.int .i64 a, .int .i64 b] 29 (0, 0)) := kblk hS (by first | exact k0 | (simp [hp_alloc, hp_set, hp_drew, hp_drewN, cset_cells, k0, k1, ng5g6, mg5g6, n0g5, m0g5, n0g6, m0g6, n1g5, m1g5, n1g6, m1g6]; done)); replace k1 : hp _ (w.heap.size + 1) = some (.cells #[.int .i64 c, .int .i64 d] 29 (0, 0)) := kblk hS (by first | exact k1 | (simp [hp_alloc, hp_set, hp_drew, hp_drewN, cset_cells, k0, k1, ng5g6, mg5g6, n0g5, m0g5, n0g6, m0g6, n1g5, m1g5, n1g6, m1g6]; done)); replace c0 := kcell k0; replace f0 := kfree k0; replace c1 := kcell k1; replace f1 := kfree k1
            have cg5 := kcell kg5; have fg5 := kfree kg5
            have cg6 := kcell kg6; have fg6 := kfree kg6
            go_wp2_with fail
            go_wp2_with fail
            go_at_call 16; refine Ph.at_callw ?_; intro W2 hW
            have q0 : hp W2 w.heap.size = some (.cells #[.int .i64 a, .int .i64 b] 29 (0, 0)) := by rw [hW]; simp [hp_alloc, hp_set, hp_drew, hp_drewN, cset_cells, k0, k1, kg5, kg6, ng5g6, mg5g6, n0g5, m0g5, n0g6, m0g6, n1g5, m1g5, n1g6, m1g6]
            have q1 : hp W2 (w.heap.size + 1) = some (.cells #[.int .i64 c, .int .i64 d] 29 (0, 0)) := by rw [hW]; simp [hp_alloc, hp_set, hp_drew, hp_drewN, cset_cells, k0, k1, kg5, kg6, ng5g6, mg5g6, n0g5, m0g5, n0g6, m0g6, n1g5, m1g5, n1g6, m1g6]
            have qg5 : hp W2 g5 = some (.cells #[.int .i64 x1, .int .i64 x2] 29 (0, 0)) := by rw [hW]; simp [hp_alloc, hp_set, hp_drew, hp_drewN, cset_cells, k0, k1, kg5, kg6, ng5g6, mg5g6, n0g5, m0g5, n0g6, m0g6, n1g5, m1g5, n1g6, m1g6]
            have qg6 : hp W2 g6 = some (.cells #[.int .i64 x1, .int .i64 y2] 29 (0, 0)) := by rw [hW]; simp [hp_alloc, hp_set, hp_drew, hp_drewN, cset_cells, k0, k1, kg5, kg6, ng5g6, mg5g6, n0g5, m0g5, n0g6, m0g6, n1g5, m1g5, n1g6, m1g6]
            have HB' : Below w.heap.size w W2 := by rw [hW]; (repeat (first | assumption | exact Below.refl _ _ | (refine below_call ?_ (by assumption)) | apply below_alloc | apply below_drew | apply below_drewN | (refine below_set ?_ (by first | (simp; done) | (simp; omega) | omega) _)))
            replace HB := HB'; clear HB'
            clear hW
            clear k0 c0 f0
            clear k1 c1 f1
            clear kg5 cg5 fg5
            clear kg6 cg6 fg6
            have k0 := q0; clear q0; have c0 := kcell k0; have f0 := kfree k0
            have k1 := q1; clear q1; have c1 := kcell k1; have f1 := kfree k1
            have kg5 := qg5; clear qg5; have cg5 := kcell kg5; have fg5 := kfree kg5
            have kg6 := qg6; clear qg6; have cg6 := kcell kg6; have fg6 := kfree kg6
            refine (rempty _ _ _).mono ?_; rintro e v2 ⟨rfl, hb⟩; replace HB := below_call (by first | exact HB | (repeat (first | assumption | exact Below.refl _ _ | (refine below_call ?_ (by assumption)) | apply below_alloc | apply below_drew | apply below_drewN | (refine below_set ?_ (by first | (simp; done) | (simp; omega) | omega) _)))) hb; replace k0 : hp _ w.heap.size = some (.cells #[.int .i64 a, .int .i64 b] 29 (0, 0)) := kblk hb (by first | exact k0 | (simp [hp_alloc, hp_set, hp_drew, hp_drewN, cset_cells, k0, k1, kg5, kg6, ng5g6, mg5g6, n0g5, m0g5, n0g6, m0g6, n1g5, m1g5, n1g6, m1g6]; done)); replace k1 : hp _ (w.heap.size + 1) = some (.cells #[.int .i64 c, .int .i64 d] 29 (0, 0)) := kblk hb (by first | exact k1 | (simp [hp_alloc, hp_set, hp_drew, hp_drewN, cset_cells, k0, k1, kg5, kg6, ng5g6, mg5g6, n0g5, m0g5, n0g6, m0g6, n1g5, m1g5, n1g6, m1g6]; done)); replace kg5 : hp _ g5 = some (.cells #[.int .i64 x1, .int .i64 x2] 29 (0, 0)) := kblk hb (by first | exact kg5 | (simp [hp_alloc, hp_set, hp_drew, hp_drewN, cset_cells, k0, k1, kg5, kg6, ng5g6, mg5g6, n0g5, m0g5, n0g6, m0g6, n1g5, m1g5, n1g6, m1g6]; done)); replace kg6 : hp _ g6 = some (.cells #[.int .i64 x1, .int .i64 y2] 29 (0, 0)) := kblk hb (by first | exact kg6 | (simp [hp_alloc, hp_set, hp_drew, hp_drewN, cset_cells, k0, k1, kg5, kg6, ng5g6, mg5g6, n0g5, m0g5, n0g6, m0g6, n1g5, m1g5, n1g6, m1g6]; done)); replace c0 := kcell k0; replace f0 := kfree k0; replace c1 := kcell k1; replace f1 := kfree k1; replace cg5 := kcell kg5; replace fg5 := kfree kg5; replace cg6 := kcell kg6; replace fg6 := kfree kg6
            go_wp2_with fail
            go_at_call 16; refine Ph.at_callw ?_; intro W3 hW
            have q0 : hp W3 w.heap.size = some (.cells #[.int .i64 a, .int .i64 b] 29 (0, 0)) := by rw [hW]; simp [hp_alloc, hp_set, hp_drew, hp_drewN, cset_cells, k0, k1, kg5, kg6, ng5g6, mg5g6, n0g5, m0g5, n0g6, m0g6, n1g5, m1g5, n1g6, m1g6]
            have q1 : hp W3 (w.heap.size + 1) = some (.cells #[.int .i64 c, .int .i64 d] 29 (0, 0)) := by rw [hW]; simp [hp_alloc, hp_set, hp_drew, hp_drewN, cset_cells, k0, k1, kg5, kg6, ng5g6, mg5g6, n0g5, m0g5, n0g6, m0g6, n1g5, m1g5, n1g6, m1g6]
            have qg5 : hp W3 g5 = some (.cells #[.int .i64 x1, .int .i64 x2] 29 (0, 0)) := by rw [hW]; simp [hp_alloc, hp_set, hp_drew, hp_drewN, cset_cells, k0, k1, kg5, kg6, ng5g6, mg5g6, n0g5, m0g5, n0g6, m0g6, n1g5, m1g5, n1g6, m1g6]
            have qg6 : hp W3 g6 = some (.cells #[.int .i64 x1, .int .i64 y2] 29 (0, 0)) := by rw [hW]; simp [hp_alloc, hp_set, hp_drew, hp_drewN, cset_cells, k0, k1, kg5, kg6, ng5g6, mg5g6, n0g5, m0g5, n0g6, m0g6, n1g5, m1g5, n1g6, m1g6]
            have HB' : Below w.heap.size w W3 := by rw [hW]; (repeat (first | assumption | exact Below.refl _ _ | (refine below_call ?_ (by assumption)) | apply below_alloc | apply below_drew | apply below_drewN | (refine below_set ?_ (by first | (simp; done) | (simp; omega) | omega) _)))
            replace HB := HB'; clear HB'
            clear hW
            clear k0 c0 f0
            clear k1 c1 f1
            clear kg5 cg5 fg5
            clear kg6 cg6 fg6
            have k0 := q0; clear q0; have c0 := kcell k0; have f0 := kfree k0
            have k1 := q1; clear q1; have c1 := kcell k1; have f1 := kfree k1
            have kg5 := qg5; clear qg5; have cg5 := kcell kg5; have fg5 := kfree kg5
            have kg6 := qg6; clear qg6; have cg6 := kcell kg6; have fg6 := kfree kg6
            refine (rempty _ _ _).mono ?_; rintro e v3 ⟨rfl, hb⟩; replace HB := below_call (by first | exact HB | (repeat (first | assumption | exact Below.refl _ _ | (refine below_call ?_ (by assumption)) | apply below_alloc | apply below_drew | apply below_drewN | (refine below_set ?_ (by first | (simp; done) | (simp; omega) | omega) _)))) hb; replace k0 : hp _ w.heap.size = some (.cells #[.int .i64 a, .int .i64 b] 29 (0, 0)) := kblk hb (by first | exact k0 | (simp [hp_alloc, hp_set, hp_drew, hp_drewN, cset_cells, k0, k1, kg5, kg6, ng5g6, mg5g6, n0g5, m0g5, n0g6, m0g6, n1g5, m1g5, n1g6, m1g6]; done)); replace k1 : hp _ (w.heap.size + 1) = some (.cells #[.int .i64 c, .int .i64 d] 29 (0, 0)) := kblk hb (by first | exact k1 | (simp [hp_alloc, hp_set, hp_drew, hp_drewN, cset_cells, k0, k1, kg5, kg6, ng5g6, mg5g6, n0g5, m0g5, n0g6, m0g6, n1g5, m1g5, n1g6, m1g6]; done)); replace kg5 : hp _ g5 = some (.cells #[.int .i64 x1, .int .i64 x2] 29 (0, 0)) := kblk hb (by first | exact kg5 | (simp [hp_alloc, hp_set, hp_drew, hp_drewN, cset_cells, k0, k1, kg5, kg6, ng5g6, mg5g6, n0g5, m0g5, n0g6, m0g6, n1g5, m1g5, n1g6, m1g6]; done)); replace kg6 : hp _ g6 = some (.cells #[.int .i64 x1, .int .i64 y2] 29 (0, 0)) := kblk hb (by first | exact kg6 | (simp [hp_alloc, hp_set, hp_drew, hp_drewN, cset_cells, k0, k1, kg5, kg6, ng5g6, mg5g6, n0g5, m0g5, n0g6, m0g6, n1g5, m1g5, n1g6, m1g6]; done)); replace c0 := kcell k0; replace f0 := kfree k0; replace c1 := kcell k1; replace f1 := kfree k1; replace cg5 := kcell kg5; replace fg5 := kfree kg5; replace cg6 := kcell kg6; replace fg6 := kfree kg6
            go_wp2_with (first | (go_at_call 14; refine (rofx ha.out _).mono ?_; rintro e w1 ⟨rfl, hb⟩; replace HB := below_call (by first | exact HB | (repeat (first | assumption | exact Below.refl _ _ | (refine below_call ?_ (by assumption)) | apply below_alloc | apply below_drew | apply below_drewN | (refine below_set ?_ (by first | (simp; done) | (simp; omega) | omega) _)))) hb; replace k0 : hp _ w.heap.size = some (.cells #[.int .i64 a, .int .i64 b] 29 (0, 0)) := kblk hb (by first | exact k0 | (simp [hp_alloc, hp_set, hp_drew, hp_drewN, cset_cells, k0, k1, kg5, kg6, ng5g6, mg5g6, n0g5, m0g5, n0g6, m0g6, n1g5, m1g5, n1g6, m1g6]; done)); replace k1 : hp _ (w.heap.size + 1) = some (.cells #[.int .i64 c, .int .i64 d] 29 (0, 0)) := kblk hb (by first | exact k1 | (simp [hp_alloc, hp_set, hp_drew, hp_drewN, cset_cells, k0, k1, kg5, kg6, ng5g6, mg5g6, n0g5, m0g5, n0g6, m0g6, n1g5, m1g5, n1g6, m1g6]; done)); replace kg5 : hp _ g5 = some (.cells #[.int .i64 x1, .int .i64 x2] 29 (0, 0)) := kblk hb (by first | exact kg5 | (simp [hp_alloc, hp_set, hp_drew, hp_drewN, cset_cells, k0, k1, kg5, kg6, ng5g6, mg5g6, n0g5, m0g5, n0g6, m0g6, n1g5, m1g5, n1g6, m1g6]; done)); replace kg6 : hp _ g6 = some (.cells #[.int .i64 x1, .int .i64 y2] 29 (0, 0)) := kblk hb (by first | exact kg6 | (simp [hp_alloc, hp_set, hp_drew, hp_drewN, cset_cells, k0, k1, kg5, kg6, ng5g6, mg5g6, n0g5, m0g5, n0g6, m0g6, n1g5, m1g5, n1g6, m1g6]; done)); replace c0 := kcell k0; replace f0 := kfree k0; replace c1 := kcell k1; replace f1 := kfree k1; replace cg5 := kcell kg5; replace fg5 := kfree kg5; replace cg6 := kcell kg6; replace fg6 := kfree kg6) | (go_at_call 14; refine (rofx hc.out _).mono ?_; rintro e w1 ⟨rfl, hb⟩; replace HB := below_call (by first | exact HB | (repeat (first | assumption | exact Below.refl _ _ | (refine below_call ?_ (by assumption)) | apply below_alloc | apply below_drew | apply below_drewN | (refine below_set ?_ (by first | (simp; done) | (simp; omega) | omega) _)))) hb; replace k0 : hp _ w.heap.size = some (.cells #[.int .i64 a, .int .i64 b] 29 (0, 0)) := kblk hb (by first | exact k0 | (simp [hp_alloc, hp_set, hp_drew, hp_drewN, cset_cells, k0, k1, kg5, kg6, ng5g6, mg5g6, n0g5, m0g5, n0g6, m0g6, n1g5, m1g5, n1g6, m1g6]; done)); replace k1 : hp _ (w.heap.size + 1) = some (.cells #[.int .i64 c, .int .i64 d] 29 (0, 0)) := kblk hb (by first | exact k1 | (simp [hp_alloc, hp_set, hp_drew, hp_drewN, cset_cells, k0, k1, kg5, kg6, ng5g6, mg5g6, n0g5, m0g5, n0g6, m0g6, n1g5, m1g5, n1g6, m1g6]; done)); replace kg5 : hp _ g5 = some (.cells #[.int .i64 x1, .int .i64 x2] 29 (0, 0)) := kblk hb (by first | exact kg5 | (simp [hp_alloc, hp_set, hp_drew, hp_drewN, cset_cells, k0, k1, kg5, kg6, ng5g6, mg5g6, n0g5, m0g5, n0g6, m0g6, n1g5, m1g5, n1g6, m1g6]; done)); replace kg6 : hp _ g6 = some (.cells #[.int .i64 x1, .int .i64 y2] 29 (0, 0)) := kblk hb (by first | exact kg6 | (simp [hp_alloc, hp_set, hp_drew, hp_drewN, cset_cells, k0, k1, kg5, kg6, ng5g6, mg5g6, n0g5, m0g5, n0g6, m0g6, n1g5, m1g5, n1g6, m1g6]; done)); replace c0 := kcell k0; replace f0 := kfree k0; replace c1 := kcell k1; replace f1 := kfree k1; replace cg5 := kcell kg5; replace fg5 := kfree kg5; replace cg6 := kcell kg6; replace fg6 := kfree kg6))
            all_goals (go_ret; exact ⟨by first | rfl | (simp [*]; done) | (simp [*]; omega), by (repeat (first | assumption | exact Below.refl _ _ | (refine below_call ?_ (by assumption)) | apply below_alloc | apply below_drew | apply below_drewN | (refine below_set ?_ (by first | (simp; done) | (simp; omega) | omega) _)))⟩)
        · skip
          go_enter Try.func41, Try.ntmps41
          go_upto_region 1 with fail
          refine Ph.at_world ?_; intro W1 hW
          have q0 : hp W1 w.heap.size = some (.cells #[.int .i64 a, .int .i64 b] 29 (0, 0)) := by rw [hW]; simp [hp_alloc, hp_set, hp_drew, hp_drewN, cset_cells]
          have q1 : hp W1 (w.heap.size + 1) = some (.cells #[.int .i64 c, .int .i64 d] 29 (0, 0)) := by rw [hW]; simp [hp_alloc, hp_set, hp_drew, hp_drewN, cset_cells]
          have HB : Below w.heap.size w W1 := by rw [hW]; (repeat (first | assumption | exact Below.refl _ _ | (refine below_call ?_ (by assumption)) | apply below_alloc | apply below_drew | apply below_drewN | (refine below_set ?_ (by first | (simp; done) | (simp; omega) | omega) _)))
          clear hW
          have k0 := q0; clear q0; have c0 := kcell k0; have f0 := kfree k0
          have k1 := q1; clear q1; have c1 := kcell k1; have f1 := kfree k1
          go_wp2_with fail
          refine Ph.wp_region_gr 10 12 [] (by kernel_rfl) (by kernel_rfl) (fun _ d _ _ _ h => by cases d <;> exact h) ?_
          simp only [List.take_succ_cons, List.take_zero, List.drop_succ_cons, List.drop_zero]
          repeat (first | (apply Ph.wpG_op rfl; (focus (intro w1 hS; have d0 := kcell (kblk hS k0); have d1 := kcell (kblk hS k1); go_simp; first | exact rfl | exact ⟨rfl, Below.refl _ _⟩ | ((with_reducible refine (rofx ha.out _).mono ?_); rintro e w2 ⟨rfl, hb⟩; exact ⟨rfl, hb⟩) | ((with_reducible refine (rofx hc.out _).mono ?_); rintro e w2 ⟨rfl, hb⟩; exact ⟨rfl, hb⟩)))); simp only [List.tail_cons, List.tail_nil, Act.put, List.setIfInBounds_toArray, List.set_cons_zero, List.set_cons_succ])
          refine Ph.wpG_nil ?_
          apply Ph.wpAl_op (fun g => .pointer (some ⟨g, 0, none⟩)) rfl; (focus (intro w1; go_simp; exact rfl))
          intro g5; simp only [List.tail_cons, List.tail_nil, Act.put, List.setIfInBounds_toArray, List.set_cons_zero, List.set_cons_succ]
          apply Ph.wpAl_op (fun g => .pointer (some ⟨g, 0, none⟩)) rfl; (focus (intro w1; go_simp; exact rfl))
          intro g6; simp only [List.tail_cons, List.tail_nil, Act.put, List.setIfInBounds_toArray, List.set_cons_zero, List.set_cons_succ]
          refine Ph.wpAl_nil ?_; intro v1 hS hgs hne
          simp only [List.nil_append, List.cons_append, List.forall_mem_cons, List.pairwise_cons, Prod.mk.injEq] at hgs hne
          obtain ⟨⟨bg5, kg5⟩, ⟨bg6, kg6⟩, _⟩ := hgs
          replace kg5 : hp v1 g5 = some (.cells #[.int .i64 0, .int .i64 0] 29 (0, 0)) := kg5
          replace kg6 : hp v1 g6 = some (.cells #[.int .i64 0, .int .i64 0] 29 (0, 0)) := kg6
          have ng5g6 : g5 ≠ g6 := by simp at hne; first | exact hne | exact hne.1 | omega
          have mg5g6 : g6 ≠ g5 := fun e => ng5g6 e.symm
          have hk := klt k0
          have n0g5 : w.heap.size ≠ g5 := by omega
          have m0g5 : g5 ≠ w.heap.size := by omega
          have n0g6 : w.heap.size ≠ g6 := by omega
          have m0g6 : g6 ≠ w.heap.size := by omega
          clear hk
          have hk := klt k1
          have n1g5 : w.heap.size + 1 ≠ g5 := by omega
          have m1g5 : g5 ≠ w.heap.size + 1 := by omega
          have n1g6 : w.heap.size + 1 ≠ g6 := by omega
          have m1g6 : g6 ≠ w.heap.size + 1 := by omega
          clear hk
          have eg5 : w.heap.size ≤ g5 := by have := HB.size; omega
          have eg6 : w.heap.size ≤ g6 := by have := HB.size; omega
          replace HB := below_call (by first | exact HB | (repeat (first | assumption | exact Below.refl _ _ | (refine below_call ?_ (by assumption)) | apply below_alloc | apply below_drew | apply below_drewN | (refine below_set ?_ (by first | (simp; done) | (simp; omega) | omega) _)))) hS; replace k0 : hp _ w.heap.size = some (.cells #[.int .i64 a, .int .i64 b] 29 (0, 0)) := kblk hS (by first | exact k0 | (simp [hp_alloc, hp_set, hp_drew, hp_drewN, cset_cells, k0, k1, ng5g6, mg5g6, n0g5, m0g5, n0g6, m0g6, n1g5, m1g5, n1g6, m1g6]; done)); replace k1 : hp _ (w.heap.size + 1) = some (.cells #[.int .i64 c, .int .i64 d] 29 (0, 0)) := kblk hS (by first | exact k1 | (simp [hp_alloc, hp_set, hp_drew, hp_drewN, cset_cells, k0, k1, ng5g6, mg5g6, n0g5, m0g5, n0g6, m0g6, n1g5, m1g5, n1g6, m1g6]; done)); replace c0 := kcell k0; replace f0 := kfree k0; replace c1 := kcell k1; replace f1 := kfree k1
          have cg5 := kcell kg5; have fg5 := kfree kg5
          have cg6 := kcell kg6; have fg6 := kfree kg6
          go_wp2_with fail
          go_wp2_with fail
          go_at_call 16; refine Ph.at_callw ?_; intro W2 hW
          have q0 : hp W2 w.heap.size = some (.cells #[.int .i64 a, .int .i64 b] 29 (0, 0)) := by rw [hW]; simp [hp_alloc, hp_set, hp_drew, hp_drewN, cset_cells, k0, k1, kg5, kg6, ng5g6, mg5g6, n0g5, m0g5, n0g6, m0g6, n1g5, m1g5, n1g6, m1g6]
          have q1 : hp W2 (w.heap.size + 1) = some (.cells #[.int .i64 c, .int .i64 d] 29 (0, 0)) := by rw [hW]; simp [hp_alloc, hp_set, hp_drew, hp_drewN, cset_cells, k0, k1, kg5, kg6, ng5g6, mg5g6, n0g5, m0g5, n0g6, m0g6, n1g5, m1g5, n1g6, m1g6]
          have qg5 : hp W2 g5 = some (.cells #[.int .i64 x1, .int .i64 x2] 29 (0, 0)) := by rw [hW]; simp [hp_alloc, hp_set, hp_drew, hp_drewN, cset_cells, k0, k1, kg5, kg6, ng5g6, mg5g6, n0g5, m0g5, n0g6, m0g6, n1g5, m1g5, n1g6, m1g6]
          have qg6 : hp W2 g6 = some (.cells #[.int .i64 x1, .int .i64 y2] 29 (0, 0)) := by rw [hW]; simp [hp_alloc, hp_set, hp_drew, hp_drewN, cset_cells, k0, k1, kg5, kg6, ng5g6, mg5g6, n0g5, m0g5, n0g6, m0g6, n1g5, m1g5, n1g6, m1g6]
          have HB' : Below w.heap.size w W2 := by rw [hW]; (repeat (first | assumption | exact Below.refl _ _ | (refine below_call ?_ (by assumption)) | apply below_alloc | apply below_drew | apply below_drewN | (refine below_set ?_ (by first | (simp; done) | (simp; omega) | omega) _)))
          replace HB := HB'; clear HB'
          clear hW
          clear k0 c0 f0
          clear k1 c1 f1
          clear kg5 cg5 fg5
          clear kg6 cg6 fg6
          have k0 := q0; clear q0; have c0 := kcell k0; have f0 := kfree k0
          have k1 := q1; clear q1; have c1 := kcell k1; have f1 := kfree k1
          have kg5 := qg5; clear qg5; have cg5 := kcell kg5; have fg5 := kfree kg5
          have kg6 := qg6; clear qg6; have cg6 := kcell kg6; have fg6 := kfree kg6
          refine (rempty _ _ _).mono ?_; rintro e v2 ⟨rfl, hb⟩; replace HB := below_call (by first | exact HB | (repeat (first | assumption | exact Below.refl _ _ | (refine below_call ?_ (by assumption)) | apply below_alloc | apply below_drew | apply below_drewN | (refine below_set ?_ (by first | (simp; done) | (simp; omega) | omega) _)))) hb; replace k0 : hp _ w.heap.size = some (.cells #[.int .i64 a, .int .i64 b] 29 (0, 0)) := kblk hb (by first | exact k0 | (simp [hp_alloc, hp_set, hp_drew, hp_drewN, cset_cells, k0, k1, kg5, kg6, ng5g6, mg5g6, n0g5, m0g5, n0g6, m0g6, n1g5, m1g5, n1g6, m1g6]; done)); replace k1 : hp _ (w.heap.size + 1) = some (.cells #[.int .i64 c, .int .i64 d] 29 (0, 0)) := kblk hb (by first | exact k1 | (simp [hp_alloc, hp_set, hp_drew, hp_drewN, cset_cells, k0, k1, kg5, kg6, ng5g6, mg5g6, n0g5, m0g5, n0g6, m0g6, n1g5, m1g5, n1g6, m1g6]; done)); replace kg5 : hp _ g5 = some (.cells #[.int .i64 x1, .int .i64 x2] 29 (0, 0)) := kblk hb (by first | exact kg5 | (simp [hp_alloc, hp_set, hp_drew, hp_drewN, cset_cells, k0, k1, kg5, kg6, ng5g6, mg5g6, n0g5, m0g5, n0g6, m0g6, n1g5, m1g5, n1g6, m1g6]; done)); replace kg6 : hp _ g6 = some (.cells #[.int .i64 x1, .int .i64 y2] 29 (0, 0)) := kblk hb (by first | exact kg6 | (simp [hp_alloc, hp_set, hp_drew, hp_drewN, cset_cells, k0, k1, kg5, kg6, ng5g6, mg5g6, n0g5, m0g5, n0g6, m0g6, n1g5, m1g5, n1g6, m1g6]; done)); replace c0 := kcell k0; replace f0 := kfree k0; replace c1 := kcell k1; replace f1 := kfree k1; replace cg5 := kcell kg5; replace fg5 := kfree kg5; replace cg6 := kcell kg6; replace fg6 := kfree kg6
          go_wp2_with fail
          go_at_call 16; refine Ph.at_callw ?_; intro W3 hW
          have q0 : hp W3 w.heap.size = some (.cells #[.int .i64 a, .int .i64 b] 29 (0, 0)) := by rw [hW]; simp [hp_alloc, hp_set, hp_drew, hp_drewN, cset_cells, k0, k1, kg5, kg6, ng5g6, mg5g6, n0g5, m0g5, n0g6, m0g6, n1g5, m1g5, n1g6, m1g6]
          have q1 : hp W3 (w.heap.size + 1) = some (.cells #[.int .i64 c, .int .i64 d] 29 (0, 0)) := by rw [hW]; simp [hp_alloc, hp_set, hp_drew, hp_drewN, cset_cells, k0, k1, kg5, kg6, ng5g6, mg5g6, n0g5, m0g5, n0g6, m0g6, n1g5, m1g5, n1g6, m1g6]
          have qg5 : hp W3 g5 = some (.cells #[.int .i64 x1, .int .i64 x2] 29 (0, 0)) := by rw [hW]; simp [hp_alloc, hp_set, hp_drew, hp_drewN, cset_cells, k0, k1, kg5, kg6, ng5g6, mg5g6, n0g5, m0g5, n0g6, m0g6, n1g5, m1g5, n1g6, m1g6]
          have qg6 : hp W3 g6 = some (.cells #[.int .i64 x1, .int .i64 y2] 29 (0, 0)) := by rw [hW]; simp [hp_alloc, hp_set, hp_drew, hp_drewN, cset_cells, k0, k1, kg5, kg6, ng5g6, mg5g6, n0g5, m0g5, n0g6, m0g6, n1g5, m1g5, n1g6, m1g6]
          have HB' : Below w.heap.size w W3 := by rw [hW]; (repeat (first | assumption | exact Below.refl _ _ | (refine below_call ?_ (by assumption)) | apply below_alloc | apply below_drew | apply below_drewN | (refine below_set ?_ (by first | (simp; done) | (simp; omega) | omega) _)))
          replace HB := HB'; clear HB'
          clear hW
          clear k0 c0 f0
          clear k1 c1 f1
          clear kg5 cg5 fg5
          clear kg6 cg6 fg6
          have k0 := q0; clear q0; have c0 := kcell k0; have f0 := kfree k0
          have k1 := q1; clear q1; have c1 := kcell k1; have f1 := kfree k1
          have kg5 := qg5; clear qg5; have cg5 := kcell kg5; have fg5 := kfree kg5
          have kg6 := qg6; clear qg6; have cg6 := kcell kg6; have fg6 := kfree kg6
          refine (rempty _ _ _).mono ?_; rintro e v3 ⟨rfl, hb⟩; replace HB := below_call (by first | exact HB | (repeat (first | assumption | exact Below.refl _ _ | (refine below_call ?_ (by assumption)) | apply below_alloc | apply below_drew | apply below_drewN | (refine below_set ?_ (by first | (simp; done) | (simp; omega) | omega) _)))) hb; replace k0 : hp _ w.heap.size = some (.cells #[.int .i64 a, .int .i64 b] 29 (0, 0)) := kblk hb (by first | exact k0 | (simp [hp_alloc, hp_set, hp_drew, hp_drewN, cset_cells, k0, k1, kg5, kg6, ng5g6, mg5g6, n0g5, m0g5, n0g6, m0g6, n1g5, m1g5, n1g6, m1g6]; done)); replace k1 : hp _ (w.heap.size + 1) = some (.cells #[.int .i64 c, .int .i64 d] 29 (0, 0)) := kblk hb (by first | exact k1 | (simp [hp_alloc, hp_set, hp_drew, hp_drewN, cset_cells, k0, k1, kg5, kg6, ng5g6, mg5g6, n0g5, m0g5, n0g6, m0g6, n1g5, m1g5, n1g6, m1g6]; done)); replace kg5 : hp _ g5 = some (.cells #[.int .i64 x1, .int .i64 x2] 29 (0, 0)) := kblk hb (by first | exact kg5 | (simp [hp_alloc, hp_set, hp_drew, hp_drewN, cset_cells, k0, k1, kg5, kg6, ng5g6, mg5g6, n0g5, m0g5, n0g6, m0g6, n1g5, m1g5, n1g6, m1g6]; done)); replace kg6 : hp _ g6 = some (.cells #[.int .i64 x1, .int .i64 y2] 29 (0, 0)) := kblk hb (by first | exact kg6 | (simp [hp_alloc, hp_set, hp_drew, hp_drewN, cset_cells, k0, k1, kg5, kg6, ng5g6, mg5g6, n0g5, m0g5, n0g6, m0g6, n1g5, m1g5, n1g6, m1g6]; done)); replace c0 := kcell k0; replace f0 := kfree k0; replace c1 := kcell k1; replace f1 := kfree k1; replace cg5 := kcell kg5; replace fg5 := kfree kg5; replace cg6 := kcell kg6; replace fg6 := kfree kg6
          go_wp2_with (first | (go_at_call 14; refine (rofx ha.out _).mono ?_; rintro e w1 ⟨rfl, hb⟩; replace HB := below_call (by first | exact HB | (repeat (first | assumption | exact Below.refl _ _ | (refine below_call ?_ (by assumption)) | apply below_alloc | apply below_drew | apply below_drewN | (refine below_set ?_ (by first | (simp; done) | (simp; omega) | omega) _)))) hb; replace k0 : hp _ w.heap.size = some (.cells #[.int .i64 a, .int .i64 b] 29 (0, 0)) := kblk hb (by first | exact k0 | (simp [hp_alloc, hp_set, hp_drew, hp_drewN, cset_cells, k0, k1, kg5, kg6, ng5g6, mg5g6, n0g5, m0g5, n0g6, m0g6, n1g5, m1g5, n1g6, m1g6]; done)); replace k1 : hp _ (w.heap.size + 1) = some (.cells #[.int .i64 c, .int .i64 d] 29 (0, 0)) := kblk hb (by first | exact k1 | (simp [hp_alloc, hp_set, hp_drew, hp_drewN, cset_cells, k0, k1, kg5, kg6, ng5g6, mg5g6, n0g5, m0g5, n0g6, m0g6, n1g5, m1g5, n1g6, m1g6]; done)); replace kg5 : hp _ g5 = some (.cells #[.int .i64 x1, .int .i64 x2] 29 (0, 0)) := kblk hb (by first | exact kg5 | (simp [hp_alloc, hp_set, hp_drew, hp_drewN, cset_cells, k0, k1, kg5, kg6, ng5g6, mg5g6, n0g5, m0g5, n0g6, m0g6, n1g5, m1g5, n1g6, m1g6]; done)); replace kg6 : hp _ g6 = some (.cells #[.int .i64 x1, .int .i64 y2] 29 (0, 0)) := kblk hb (by first | exact kg6 | (simp [hp_alloc, hp_set, hp_drew, hp_drewN, cset_cells, k0, k1, kg5, kg6, ng5g6, mg5g6, n0g5, m0g5, n0g6, m0g6, n1g5, m1g5, n1g6, m1g6]; done)); replace c0 := kcell k0; replace f0 := kfree k0; replace c1 := kcell k1; replace f1 := kfree k1; replace cg5 := kcell kg5; replace fg5 := kfree kg5; replace cg6 := kcell kg6; replace fg6 := kfree kg6) | (go_at_call 14; refine (rofx hc.out _).mono ?_; rintro e w1 ⟨rfl, hb⟩; replace HB := below_call (by first | exact HB | (repeat (first | assumption | exact Below.refl _ _ | (refine below_call ?_ (by assumption)) | apply below_alloc | apply below_drew | apply below_drewN | (refine below_set ?_ (by first | (simp; done) | (simp; omega) | omega) _)))) hb; replace k0 : hp _ w.heap.size = some (.cells #[.int .i64 a, .int .i64 b] 29 (0, 0)) := kblk hb (by first | exact k0 | (simp [hp_alloc, hp_set, hp_drew, hp_drewN, cset_cells, k0, k1, kg5, kg6, ng5g6, mg5g6, n0g5, m0g5, n0g6, m0g6, n1g5, m1g5, n1g6, m1g6]; done)); replace k1 : hp _ (w.heap.size + 1) = some (.cells #[.int .i64 c, .int .i64 d] 29 (0, 0)) := kblk hb (by first | exact k1 | (simp [hp_alloc, hp_set, hp_drew, hp_drewN, cset_cells, k0, k1, kg5, kg6, ng5g6, mg5g6, n0g5, m0g5, n0g6, m0g6, n1g5, m1g5, n1g6, m1g6]; done)); replace kg5 : hp _ g5 = some (.cells #[.int .i64 x1, .int .i64 x2] 29 (0, 0)) := kblk hb (by first | exact kg5 | (simp [hp_alloc, hp_set, hp_drew, hp_drewN, cset_cells, k0, k1, kg5, kg6, ng5g6, mg5g6, n0g5, m0g5, n0g6, m0g6, n1g5, m1g5, n1g6, m1g6]; done)); replace kg6 : hp _ g6 = some (.cells #[.int .i64 x1, .int .i64 y2] 29 (0, 0)) := kblk hb (by first | exact kg6 | (simp [hp_alloc, hp_set, hp_drew, hp_drewN, cset_cells, k0, k1, kg5, kg6, ng5g6, mg5g6, n0g5, m0g5, n0g6, m0g6, n1g5, m1g5, n1g6, m1g6]; done)); replace c0 := kcell k0; replace f0 := kfree k0; replace c1 := kcell k1; replace f1 := kfree k1; replace cg5 := kcell kg5; replace fg5 := kfree kg5; replace cg6 := kcell kg6; replace fg6 := kfree kg6))
          all_goals (go_ret; exact ⟨by first | rfl | (simp [*]; done) | (simp [*]; omega), by (repeat (first | assumption | exact Below.refl _ _ | (refine below_call ?_ (by assumption)) | apply below_alloc | apply below_drew | apply below_drewN | (refine below_set ?_ (by first | (simp; done) | (simp; omega) | omega) _)))⟩)
      · skip
        go_enter Try.func41, Try.ntmps41
        go_upto_region 1 with fail
        refine Ph.at_world ?_; intro W1 hW
        have q0 : hp W1 w.heap.size = some (.cells #[.int .i64 a, .int .i64 b] 29 (0, 0)) := by rw [hW]; simp [hp_alloc, hp_set, hp_drew, hp_drewN, cset_cells]
        have q1 : hp W1 (w.heap.size + 1) = some (.cells #[.int .i64 c, .int .i64 d] 29 (0, 0)) := by rw [hW]; simp [hp_alloc, hp_set, hp_drew, hp_drewN, cset_cells]
        have HB : Below w.heap.size w W1 := by rw [hW]; (repeat (first | assumption | exact Below.refl _ _ | (refine below_call ?_ (by assumption)) | apply below_alloc | apply below_drew | apply below_drewN | (refine below_set ?_ (by first | (simp; done) | (simp; omega) | omega) _)))
        clear hW
        have k0 := q0; clear q0; have c0 := kcell k0; have f0 := kfree k0
        have k1 := q1; clear q1; have c1 := kcell k1; have f1 := kfree k1
        go_wp2_with fail
        refine Ph.wp_region_gr 10 12 [] (by kernel_rfl) (by kernel_rfl) (fun _ d _ _ _ h => by cases d <;> exact h) ?_
        simp only [List.take_succ_cons, List.take_zero, List.drop_succ_cons, List.drop_zero]
        repeat (first | (apply Ph.wpG_op rfl; (focus (intro w1 hS; have d0 := kcell (kblk hS k0); have d1 := kcell (kblk hS k1); go_simp; first | exact rfl | exact ⟨rfl, Below.refl _ _⟩ | ((with_reducible refine (rofx ha.out _).mono ?_); rintro e w2 ⟨rfl, hb⟩; exact ⟨rfl, hb⟩) | ((with_reducible refine (rofx hc.out _).mono ?_); rintro e w2 ⟨rfl, hb⟩; exact ⟨rfl, hb⟩)))); simp only [List.tail_cons, List.tail_nil, Act.put, List.setIfInBounds_toArray, List.set_cons_zero, List.set_cons_succ])
        refine Ph.wpG_nil ?_
        apply Ph.wpAl_op (fun g => .pointer (some ⟨g, 0, none⟩)) rfl; (focus (intro w1; go_simp; exact rfl))
        intro g5; simp only [List.tail_cons, List.tail_nil, Act.put, List.setIfInBounds_toArray, List.set_cons_zero, List.set_cons_succ]
        apply Ph.wpAl_op (fun g => .pointer (some ⟨g, 0, none⟩)) rfl; (focus (intro w1; go_simp; exact rfl))
        intro g6; simp only [List.tail_cons, List.tail_nil, Act.put, List.setIfInBounds_toArray, List.set_cons_zero, List.set_cons_succ]
        refine Ph.wpAl_nil ?_; intro v1 hS hgs hne
        simp only [List.nil_append, List.cons_append, List.forall_mem_cons, List.pairwise_cons, Prod.mk.injEq] at hgs hne
        obtain ⟨⟨bg5, kg5⟩, ⟨bg6, kg6⟩, _⟩ := hgs
        replace kg5 : hp v1 g5 = some (.cells #[.int .i64 0, .int .i64 0] 29 (0, 0)) := kg5
        replace kg6 : hp v1 g6 = some (.cells #[.int .i64 0, .int .i64 0] 29 (0, 0)) := kg6
        have ng5g6 : g5 ≠ g6 := by simp at hne; first | exact hne | exact hne.1 | omega
        have mg5g6 : g6 ≠ g5 := fun e => ng5g6 e.symm
        have hk := klt k0
        have n0g5 : w.heap.size ≠ g5 := by omega
        have m0g5 : g5 ≠ w.heap.size := by omega
        have n0g6 : w.heap.size ≠ g6 := by omega
        have m0g6 : g6 ≠ w.heap.size := by omega
        clear hk
        have hk := klt k1
        have n1g5 : w.heap.size + 1 ≠ g5 := by omega
        have m1g5 : g5 ≠ w.heap.size + 1 := by omega
        have n1g6 : w.heap.size + 1 ≠ g6 := by omega
        have m1g6 : g6 ≠ w.heap.size + 1 := by omega
        clear hk
        have eg5 : w.heap.size ≤ g5 := by have := HB.size; omega
        have eg6 : w.heap.size ≤ g6 := by have := HB.size; omega
        replace HB := below_call (by first | exact HB | (repeat (first | assumption | exact Below.refl _ _ | (refine below_call ?_ (by assumption)) | apply below_alloc | apply below_drew | apply below_drewN | (refine below_set ?_ (by first | (simp; done) | (simp; omega) | omega) _)))) hS; replace k0 : hp _ w.heap.size = some (.cells #[.int .i64 a, .int .i64 b] 29 (0, 0)) := kblk hS (by first | exact k0 | (simp [hp_alloc, hp_set, hp_drew, hp_drewN, cset_cells, k0, k1, ng5g6, mg5g6, n0g5, m0g5, n0g6, m0g6, n1g5, m1g5, n1g6, m1g6]; done)); replace k1 : hp _ (w.heap.size + 1) = some (.cells #[.int .i64 c, .int .i64 d] 29 (0, 0)) := kblk hS (by first | exact k1 | (simp [hp_alloc, hp_set, hp_drew, hp_drewN, cset_cells, k0, k1, ng5g6, mg5g6, n0g5, m0g5, n0g6, m0g6, n1g5, m1g5, n1g6, m1g6]; done)); replace c0 := kcell k0; replace f0 := kfree k0; replace c1 := kcell k1; replace f1 := kfree k1
        have cg5 := kcell kg5; have fg5 := kfree kg5
        have cg6 := kcell kg6; have fg6 := kfree kg6
        go_wp2_with fail
        go_wp2_with fail
        go_at_call 16; refine Ph.at_callw ?_; intro W2 hW
        have q0 : hp W2 w.heap.size = some (.cells #[.int .i64 a, .int .i64 b] 29 (0, 0)) := by rw [hW]; simp [hp_alloc, hp_set, hp_drew, hp_drewN, cset_cells, k0, k1, kg5, kg6, ng5g6, mg5g6, n0g5, m0g5, n0g6, m0g6, n1g5, m1g5, n1g6, m1g6]
        have q1 : hp W2 (w.heap.size + 1) = some (.cells #[.int .i64 c, .int .i64 d] 29 (0, 0)) := by rw [hW]; simp [hp_alloc, hp_set, hp_drew, hp_drewN, cset_cells, k0, k1, kg5, kg6, ng5g6, mg5g6, n0g5, m0g5, n0g6, m0g6, n1g5, m1g5, n1g6, m1g6]
        have qg5 : hp W2 g5 = some (.cells #[.int .i64 x1, .int .i64 x2] 29 (0, 0)) := by rw [hW]; simp [hp_alloc, hp_set, hp_drew, hp_drewN, cset_cells, k0, k1, kg5, kg6, ng5g6, mg5g6, n0g5, m0g5, n0g6, m0g6, n1g5, m1g5, n1g6, m1g6]
        have qg6 : hp W2 g6 = some (.cells #[.int .i64 x1, .int .i64 y2] 29 (0, 0)) := by rw [hW]; simp [hp_alloc, hp_set, hp_drew, hp_drewN, cset_cells, k0, k1, kg5, kg6, ng5g6, mg5g6, n0g5, m0g5, n0g6, m0g6, n1g5, m1g5, n1g6, m1g6]
        have HB' : Below w.heap.size w W2 := by rw [hW]; (repeat (first | assumption | exact Below.refl _ _ | (refine below_call ?_ (by assumption)) | apply below_alloc | apply below_drew | apply below_drewN | (refine below_set ?_ (by first | (simp; done) | (simp; omega) | omega) _)))
        replace HB := HB'; clear HB'
        clear hW
        clear k0 c0 f0
        clear k1 c1 f1
        clear kg5 cg5 fg5
        clear kg6 cg6 fg6
        have k0 := q0; clear q0; have c0 := kcell k0; have f0 := kfree k0
        have k1 := q1; clear q1; have c1 := kcell k1; have f1 := kfree k1
        have kg5 := qg5; clear qg5; have cg5 := kcell kg5; have fg5 := kfree kg5
        have kg6 := qg6; clear qg6; have cg6 := kcell kg6; have fg6 := kfree kg6
        refine (rempty _ _ _).mono ?_; rintro e v2 ⟨rfl, hb⟩; replace HB := below_call (by first | exact HB | (repeat (first | assumption | exact Below.refl _ _ | (refine below_call ?_ (by assumption)) | apply below_alloc | apply below_drew | apply below_drewN | (refine below_set ?_ (by first | (simp; done) | (simp; omega) | omega) _)))) hb; replace k0 : hp _ w.heap.size = some (.cells #[.int .i64 a, .int .i64 b] 29 (0, 0)) := kblk hb (by first | exact k0 | (simp [hp_alloc, hp_set, hp_drew, hp_drewN, cset_cells, k0, k1, kg5, kg6, ng5g6, mg5g6, n0g5, m0g5, n0g6, m0g6, n1g5, m1g5, n1g6, m1g6]; done)); replace k1 : hp _ (w.heap.size + 1) = some (.cells #[.int .i64 c, .int .i64 d] 29 (0, 0)) := kblk hb (by first | exact k1 | (simp [hp_alloc, hp_set, hp_drew, hp_drewN, cset_cells, k0, k1, kg5, kg6, ng5g6, mg5g6, n0g5, m0g5, n0g6, m0g6, n1g5, m1g5, n1g6, m1g6]; done)); replace kg5 : hp _ g5 = some (.cells #[.int .i64 x1, .int .i64 x2] 29 (0, 0)) := kblk hb (by first | exact kg5 | (simp [hp_alloc, hp_set, hp_drew, hp_drewN, cset_cells, k0, k1, kg5, kg6, ng5g6, mg5g6, n0g5, m0g5, n0g6, m0g6, n1g5, m1g5, n1g6, m1g6]; done)); replace kg6 : hp _ g6 = some (.cells #[.int .i64 x1, .int .i64 y2] 29 (0, 0)) := kblk hb (by first | exact kg6 | (simp [hp_alloc, hp_set, hp_drew, hp_drewN, cset_cells, k0, k1, kg5, kg6, ng5g6, mg5g6, n0g5, m0g5, n0g6, m0g6, n1g5, m1g5, n1g6, m1g6]; done)); replace c0 := kcell k0; replace f0 := kfree k0; replace c1 := kcell k1; replace f1 := kfree k1; replace cg5 := kcell kg5; replace fg5 := kfree kg5; replace cg6 := kcell kg6; replace fg6 := kfree kg6
        go_wp2_with (first | (go_at_call 14; refine (rofx ha.out _).mono ?_; rintro e w1 ⟨rfl, hb⟩; replace HB := below_call (by first | exact HB | (repeat (first | assumption | exact Below.refl _ _ | (refine below_call ?_ (by assumption)) | apply below_alloc | apply below_drew | apply below_drewN | (refine below_set ?_ (by first | (simp; done) | (simp; omega) | omega) _)))) hb; replace k0 : hp _ w.heap.size = some (.cells #[.int .i64 a, .int .i64 b] 29 (0, 0)) := kblk hb (by first | exact k0 | (simp [hp_alloc, hp_set, hp_drew, hp_drewN, cset_cells, k0, k1, kg5, kg6, ng5g6, mg5g6, n0g5, m0g5, n0g6, m0g6, n1g5, m1g5, n1g6, m1g6]; done)); replace k1 : hp _ (w.heap.size + 1) = some (.cells #[.int .i64 c, .int .i64 d] 29 (0, 0)) := kblk hb (by first | exact k1 | (simp [hp_alloc, hp_set, hp_drew, hp_drewN, cset_cells, k0, k1, kg5, kg6, ng5g6, mg5g6, n0g5, m0g5, n0g6, m0g6, n1g5, m1g5, n1g6, m1g6]; done)); replace kg5 : hp _ g5 = some (.cells #[.int .i64 x1, .int .i64 x2] 29 (0, 0)) := kblk hb (by first | exact kg5 | (simp [hp_alloc, hp_set, hp_drew, hp_drewN, cset_cells, k0, k1, kg5, kg6, ng5g6, mg5g6, n0g5, m0g5, n0g6, m0g6, n1g5, m1g5, n1g6, m1g6]; done)); replace kg6 : hp _ g6 = some (.cells #[.int .i64 x1, .int .i64 y2] 29 (0, 0)) := kblk hb (by first | exact kg6 | (simp [hp_alloc, hp_set, hp_drew, hp_drewN, cset_cells, k0, k1, kg5, kg6, ng5g6, mg5g6, n0g5, m0g5, n0g6, m0g6, n1g5, m1g5, n1g6, m1g6]; done)); replace c0 := kcell k0; replace f0 := kfree k0; replace c1 := kcell k1; replace f1 := kfree k1; replace cg5 := kcell kg5; replace fg5 := kfree kg5; replace cg6 := kcell kg6; replace fg6 := kfree kg6) | (go_at_call 14; refine (rofx hc.out _).mono ?_; rintro e w1 ⟨rfl, hb⟩; replace HB := below_call (by first | exact HB | (repeat (first | assumption | exact Below.refl _ _ | (refine below_call ?_ (by assumption)) | apply below_alloc | apply below_drew | apply below_drewN | (refine below_set ?_ (by first | (simp; done) | (simp; omega) | omega) _)))) hb; replace k0 : hp _ w.heap.size = some (.cells #[.int .i64 a, .int .i64 b] 29 (0, 0)) := kblk hb (by first | exact k0 | (simp [hp_alloc, hp_set, hp_drew, hp_drewN, cset_cells, k0, k1, kg5, kg6, ng5g6, mg5g6, n0g5, m0g5, n0g6, m0g6, n1g5, m1g5, n1g6, m1g6]; done)); replace k1 : hp _ (w.heap.size + 1) = some (.cells #[.int .i64 c, .int .i64 d] 29 (0, 0)) := kblk hb (by first | exact k1 | (simp [hp_alloc, hp_set, hp_drew, hp_drewN, cset_cells, k0, k1, kg5, kg6, ng5g6, mg5g6, n0g5, m0g5, n0g6, m0g6, n1g5, m1g5, n1g6, m1g6]; done)); replace kg5 : hp _ g5 = some (.cells #[.int .i64 x1, .int .i64 x2] 29 (0, 0)) := kblk hb (by first | exact kg5 | (simp [hp_alloc, hp_set, hp_drew, hp_drewN, cset_cells, k0, k1, kg5, kg6, ng5g6, mg5g6, n0g5, m0g5, n0g6, m0g6, n1g5, m1g5, n1g6, m1g6]; done)); replace kg6 : hp _ g6 = some (.cells #[.int .i64 x1, .int .i64 y2] 29 (0, 0)) := kblk hb (by first | exact kg6 | (simp [hp_alloc, hp_set, hp_drew, hp_drewN, cset_cells, k0, k1, kg5, kg6, ng5g6, mg5g6, n0g5, m0g5, n0g6, m0g6, n1g5, m1g5, n1g6, m1g6]; done)); replace c0 := kcell k0; replace f0 := kfree k0; replace c1 := kcell k1; replace f1 := kfree k1; replace cg5 := kcell kg5; replace fg5 := kfree kg5; replace cg6 := kcell kg6; replace fg6 := kfree kg6))
        all_goals (go_ret; exact ⟨by first | rfl | (simp [*]; done) | (simp [*]; omega), by (repeat (first | assumption | exact Below.refl _ _ | (refine below_call ?_ (by assumption)) | apply below_alloc | apply below_drew | apply below_drewN | (refine below_set ?_ (by first | (simp; done) | (simp; omega) | omega) _)))⟩)
  · have g0 : (x1 == y1) = false := beq_eq_false_iff_ne.2 h0
    cases h1 : emptyB a b
    · skip
      cases h2 : emptyB c d
      · skip
        by_cases h3 : x1 < y1
        · have g3 : ¬ y1 ≤ x1 := by omega
          go_enter Try.func41, Try.ntmps41
          go_upto_region 1 with fail
          refine Ph.at_world ?_; intro W1 hW
          have q0 : hp W1 w.heap.size = some (.cells #[.int .i64 a, .int .i64 b] 29 (0, 0)) := by rw [hW]; simp [hp_alloc, hp_set, hp_drew, hp_drewN, cset_cells]
          have q1 : hp W1 (w.heap.size + 1) = some (.cells #[.int .i64 c, .int .i64 d] 29 (0, 0)) := by rw [hW]; simp [hp_alloc, hp_set, hp_drew, hp_drewN, cset_cells]
          have HB : Below w.heap.size w W1 := by rw [hW]; (repeat (first | assumption | exact Below.refl _ _ | (refine below_call ?_ (by assumption)) | apply below_alloc | apply below_drew | apply below_drewN | (refine below_set ?_ (by first | (simp; done) | (simp; omega) | omega) _)))
          clear hW
          have k0 := q0; clear q0; have c0 := kcell k0; have f0 := kfree k0
          have k1 := q1; clear q1; have c1 := kcell k1; have f1 := kfree k1
          go_wp2_with fail
          refine Ph.wp_region_gr 10 12 [] (by kernel_rfl) (by kernel_rfl) (fun _ d _ _ _ h => by cases d <;> exact h) ?_
          simp only [List.take_succ_cons, List.take_zero, List.drop_succ_cons, List.drop_zero]
          repeat (first | (apply Ph.wpG_op rfl; (focus (intro w1 hS; have d0 := kcell (kblk hS k0); have d1 := kcell (kblk hS k1); go_simp; first | exact rfl | exact ⟨rfl, Below.refl _ _⟩ | ((with_reducible refine (rofx ha.out _).mono ?_); rintro e w2 ⟨rfl, hb⟩; exact ⟨rfl, hb⟩) | ((with_reducible refine (rofx hc.out _).mono ?_); rintro e w2 ⟨rfl, hb⟩; exact ⟨rfl, hb⟩)))); simp only [List.tail_cons, List.tail_nil, Act.put, List.setIfInBounds_toArray, List.set_cons_zero, List.set_cons_succ])
          refine Ph.wpG_nil ?_
          apply Ph.wpAl_op (fun g => .pointer (some ⟨g, 0, none⟩)) rfl; (focus (intro w1; go_simp; exact rfl))
          intro g5; simp only [List.tail_cons, List.tail_nil, Act.put, List.setIfInBounds_toArray, List.set_cons_zero, List.set_cons_succ]
          apply Ph.wpAl_op (fun g => .pointer (some ⟨g, 0, none⟩)) rfl; (focus (intro w1; go_simp; exact rfl))
          intro g6; simp only [List.tail_cons, List.tail_nil, Act.put, List.setIfInBounds_toArray, List.set_cons_zero, List.set_cons_succ]
          refine Ph.wpAl_nil ?_; intro v1 hS hgs hne
          simp only [List.nil_append, List.cons_append, List.forall_mem_cons, List.pairwise_cons, Prod.mk.injEq] at hgs hne
          obtain ⟨⟨bg5, kg5⟩, ⟨bg6, kg6⟩, _⟩ := hgs
          replace kg5 : hp v1 g5 = some (.cells #[.int .i64 0, .int .i64 0] 29 (0, 0)) := kg5
          replace kg6 : hp v1 g6 = some (.cells #[.int .i64 0, .int .i64 0] 29 (0, 0)) := kg6
          have ng5g6 : g5 ≠ g6 := by simp at hne; first | exact hne | exact hne.1 | omega
          have mg5g6 : g6 ≠ g5 := fun e => ng5g6 e.symm
          have hk := klt k0
          have n0g5 : w.heap.size ≠ g5 := by omega
          have m0g5 : g5 ≠ w.heap.size := by omega
          have n0g6 : w.heap.size ≠ g6 := by omega
          have m0g6 : g6 ≠ w.heap.size := by omega
          clear hk
          have hk := klt k1
          have n1g5 : w.heap.size + 1 ≠ g5 := by omega
          have m1g5 : g5 ≠ w.heap.size + 1 := by omega
          have n1g6 : w.heap.size + 1 ≠ g6 := by omega
          have m1g6 : g6 ≠ w.heap.size + 1 := by omega
          clear hk
          have eg5 : w.heap.size ≤ g5 := by have := HB.size; omega
          have eg6 : w.heap.size ≤ g6 := by have := HB.size; omega
          replace HB := below_call (by first | exact HB | (repeat (first | assumption | exact Below.refl _ _ | (refine below_call ?_ (by assumption)) | apply below_alloc | apply below_drew | apply below_drewN | (refine below_set ?_ (by first | (simp; done) | (simp; omega) | omega) _)))) hS; replace k0 : hp _ w.heap.size = some (.cells #[.int .i64 a, .int .i64 b] 29 (0, 0)) := kblk hS (by first | exact k0 | (simp [hp_alloc, hp_set, hp_drew, hp_drewN, cset_cells, k0, k1, ng5g6, mg5g6, n0g5, m0g5, n0g6, m0g6, n1g5, m1g5, n1g6, m1g6]; done)); replace k1 : hp _ (w.heap.size + 1) = some (.cells #[.int .i64 c, .int .i64 d] 29 (0, 0)) := kblk hS (by first | exact k1 | (simp [hp_alloc, hp_set, hp_drew, hp_drewN, cset_cells, k0, k1, ng5g6, mg5g6, n0g5, m0g5, n0g6, m0g6, n1g5, m1g5, n1g6, m1g6]; done)); replace c0 := kcell k0; replace f0 := kfree k0; replace c1 := kcell k1; replace f1 := kfree k1
          have cg5 := kcell kg5; have fg5 := kfree kg5
          have cg6 := kcell kg6; have fg6 := kfree kg6
          go_wp2_with fail
          go_wp2_with fail
          go_at_call 16; refine Ph.at_callw ?_; intro W2 hW
          have q0 : hp W2 w.heap.size = some (.cells #[.int .i64 a, .int .i64 b] 29 (0, 0)) := by rw [hW]; simp [hp_alloc, hp_set, hp_drew, hp_drewN, cset_cells, k0, k1, kg5, kg6, ng5g6, mg5g6, n0g5, m0g5, n0g6, m0g6, n1g5, m1g5, n1g6, m1g6]
          have q1 : hp W2 (w.heap.size + 1) = some (.cells #[.int .i64 c, .int .i64 d] 29 (0, 0)) := by rw [hW]; simp [hp_alloc, hp_set, hp_drew, hp_drewN, cset_cells, k0, k1, kg5, kg6, ng5g6, mg5g6, n0g5, m0g5, n0g6, m0g6, n1g5, m1g5, n1g6, m1g6]
          have qg5 : hp W2 g5 = some (.cells #[.int .i64 x1, .int .i64 x2] 29 (0, 0)) := by rw [hW]; simp [hp_alloc, hp_set, hp_drew, hp_drewN, cset_cells, k0, k1, kg5, kg6, ng5g6, mg5g6, n0g5, m0g5, n0g6, m0g6, n1g5, m1g5, n1g6, m1g6]
          have qg6 : hp W2 g6 = some (.cells #[.int .i64 y1, .int .i64 y2] 29 (0, 0)) := by rw [hW]; simp [hp_alloc, hp_set, hp_drew, hp_drewN, cset_cells, k0, k1, kg5, kg6, ng5g6, mg5g6, n0g5, m0g5, n0g6, m0g6, n1g5, m1g5, n1g6, m1g6]
          have HB' : Below w.heap.size w W2 := by rw [hW]; (repeat (first | assumption | exact Below.refl _ _ | (refine below_call ?_ (by assumption)) | apply below_alloc | apply below_drew | apply below_drewN | (refine below_set ?_ (by first | (simp; done) | (simp; omega) | omega) _)))
          replace HB := HB'; clear HB'
          clear hW
          clear k0 c0 f0
          clear k1 c1 f1
          clear kg5 cg5 fg5
          clear kg6 cg6 fg6
          have k0 := q0; clear q0; have c0 := kcell k0; have f0 := kfree k0
          have k1 := q1; clear q1; have c1 := kcell k1; have f1 := kfree k1
          have kg5 := qg5; clear qg5; have cg5 := kcell kg5; have fg5 := kfree kg5
          have kg6 := qg6; clear qg6; have cg6 := kcell kg6; have fg6 := kfree kg6
          refine (rempty _ _ _).mono ?_; rintro e v2 ⟨rfl, hb⟩; replace HB := below_call (by first | exact HB | (repeat (first | assumption | exact Below.refl _ _ | (refine below_call ?_ (by assumption)) | apply below_alloc | apply below_drew | apply below_drewN | (refine below_set ?_ (by first | (simp; done) | (simp; omega) | omega) _)))) hb; replace k0 : hp _ w.heap.size = some (.cells #[.int .i64 a, .int .i64 b] 29 (0, 0)) := kblk hb (by first | exact k0 | (simp [hp_alloc, hp_set, hp_drew, hp_drewN, cset_cells, k0, k1, kg5, kg6, ng5g6, mg5g6, n0g5, m0g5, n0g6, m0g6, n1g5, m1g5, n1g6, m1g6]; done)); replace k1 : hp _ (w.heap.size + 1) = some (.cells #[.int .i64 c, .int .i64 d] 29 (0, 0)) := kblk hb (by first | exact k1 | (simp [hp_alloc, hp_set, hp_drew, hp_drewN, cset_cells, k0, k1, kg5, kg6, ng5g6, mg5g6, n0g5, m0g5, n0g6, m0g6, n1g5, m1g5, n1g6, m1g6]; done)); replace kg5 : hp _ g5 = some (.cells #[.int .i64 x1, .int .i64 x2] 29 (0, 0)) := kblk hb (by first | exact kg5 | (simp [hp_alloc, hp_set, hp_drew, hp_drewN, cset_cells, k0, k1, kg5, kg6, ng5g6, mg5g6, n0g5, m0g5, n0g6, m0g6, n1g5, m1g5, n1g6, m1g6]; done)); replace kg6 : hp _ g6 = some (.cells #[.int .i64 y1, .int .i64 y2] 29 (0, 0)) := kblk hb (by first | exact kg6 | (simp [hp_alloc, hp_set, hp_drew, hp_drewN, cset_cells, k0, k1, kg5, kg6, ng5g6, mg5g6, n0g5, m0g5, n0g6, m0g6, n1g5, m1g5, n1g6, m1g6]; done)); replace c0 := kcell k0; replace f0 := kfree k0; replace c1 := kcell k1; replace f1 := kfree k1; replace cg5 := kcell kg5; replace fg5 := kfree kg5; replace cg6 := kcell kg6; replace fg6 := kfree kg6
          go_wp2_with fail
          go_at_call 16; refine Ph.at_callw ?_; intro W3 hW
          have q0 : hp W3 w.heap.size = some (.cells #[.int .i64 a, .int .i64 b] 29 (0, 0)) := by rw [hW]; simp [hp_alloc, hp_set, hp_drew, hp_drewN, cset_cells, k0, k1, kg5, kg6, ng5g6, mg5g6, n0g5, m0g5, n0g6, m0g6, n1g5, m1g5, n1g6, m1g6]
          have q1 : hp W3 (w.heap.size + 1) = some (.cells #[.int .i64 c, .int .i64 d] 29 (0, 0)) := by rw [hW]; simp [hp_alloc, hp_set, hp_drew, hp_drewN, cset_cells, k0, k1, kg5, kg6, ng5g6, mg5g6, n0g5, m0g5, n0g6, m0g6, n1g5, m1g5, n1g6, m1g6]
          have qg5 : hp W3 g5 = some (.cells #[.int .i64 x1, .int .i64 x2] 29 (0, 0)) := by rw [hW]; simp [hp_alloc, hp_set, hp_drew, hp_drewN, cset_cells, k0, k1, kg5, kg6, ng5g6, mg5g6, n0g5, m0g5, n0g6, m0g6, n1g5, m1g5, n1g6, m1g6]
          have qg6 : hp W3 g6 = some (.cells #[.int .i64 y1, .int .i64 y2] 29 (0, 0)) := by rw [hW]; simp [hp_alloc, hp_set, hp_drew, hp_drewN, cset_cells, k0, k1, kg5, kg6, ng5g6, mg5g6, n0g5, m0g5, n0g6, m0g6, n1g5, m1g5, n1g6, m1g6]
          have HB' : Below w.heap.size w W3 := by rw [hW]; (repeat (first | assumption | exact Below.refl _ _ | (refine below_call ?_ (by assumption)) | apply below_alloc | apply below_drew | apply below_drewN | (refine below_set ?_ (by first | (simp; done) | (simp; omega) | omega) _)))
          replace HB := HB'; clear HB'
          clear hW
          clear k0 c0 f0
          clear k1 c1 f1
          clear kg5 cg5 fg5
          clear kg6 cg6 fg6
          have k0 := q0; clear q0; have c0 := kcell k0; have f0 := kfree k0
          have k1 := q1; clear q1; have c1 := kcell k1; have f1 := kfree k1
          have kg5 := qg5; clear qg5; have cg5 := kcell kg5; have fg5 := kfree kg5
          have kg6 := qg6; clear qg6; have cg6 := kcell kg6; have fg6 := kfree kg6
          refine (rempty _ _ _).mono ?_; rintro e v3 ⟨rfl, hb⟩; replace HB := below_call (by first | exact HB | (repeat (first | assumption | exact Below.refl _ _ | (refine below_call ?_ (by assumption)) | apply below_alloc | apply below_drew | apply below_drewN | (refine below_set ?_ (by first | (simp; done) | (simp; omega) | omega) _)))) hb; replace k0 : hp _ w.heap.size = some (.cells #[.int .i64 a, .int .i64 b] 29 (0, 0)) := kblk hb (by first | exact k0 | (simp [hp_alloc, hp_set, hp_drew, hp_drewN, cset_cells, k0, k1, kg5, kg6, ng5g6, mg5g6, n0g5, m0g5, n0g6, m0g6, n1g5, m1g5, n1g6, m1g6]; done)); replace k1 : hp _ (w.heap.size + 1) = some (.cells #[.int .i64 c, .int .i64 d] 29 (0, 0)) := kblk hb (by first | exact k1 | (simp [hp_alloc, hp_set, hp_drew, hp_drewN, cset_cells, k0, k1, kg5, kg6, ng5g6, mg5g6, n0g5, m0g5, n0g6, m0g6, n1g5, m1g5, n1g6, m1g6]; done)); replace kg5 : hp _ g5 = some (.cells #[.int .i64 x1, .int .i64 x2] 29 (0, 0)) := kblk hb (by first | exact kg5 | (simp [hp_alloc, hp_set, hp_drew, hp_drewN, cset_cells, k0, k1, kg5, kg6, ng5g6, mg5g6, n0g5, m0g5, n0g6, m0g6, n1g5, m1g5, n1g6, m1g6]; done)); replace kg6 : hp _ g6 = some (.cells #[.int .i64 y1, .int .i64 y2] 29 (0, 0)) := kblk hb (by first | exact kg6 | (simp [hp_alloc, hp_set, hp_drew, hp_drewN, cset_cells, k0, k1, kg5, kg6, ng5g6, mg5g6, n0g5, m0g5, n0g6, m0g6, n1g5, m1g5, n1g6, m1g6]; done)); replace c0 := kcell k0; replace f0 := kfree k0; replace c1 := kcell k1; replace f1 := kfree k1; replace cg5 := kcell kg5; replace fg5 := kfree kg5; replace cg6 := kcell kg6; replace fg6 := kfree kg6
          go_wp2_with (first | (go_at_call 14; refine (rofx ha.out _).mono ?_; rintro e w1 ⟨rfl, hb⟩; replace HB := below_call (by first | exact HB | (repeat (first | assumption | exact Below.refl _ _ | (refine below_call ?_ (by assumption)) | apply below_alloc | apply below_drew | apply below_drewN | (refine below_set ?_ (by first | (simp; done) | (simp; omega) | omega) _)))) hb; replace k0 : hp _ w.heap.size = some (.cells #[.int .i64 a, .int .i64 b] 29 (0, 0)) := kblk hb (by first | exact k0 | (simp [hp_alloc, hp_set, hp_drew, hp_drewN, cset_cells, k0, k1, kg5, kg6, ng5g6, mg5g6, n0g5, m0g5, n0g6, m0g6, n1g5, m1g5, n1g6, m1g6]; done)); replace k1 : hp _ (w.heap.size + 1) = some (.cells #[.int .i64 c, .int .i64 d] 29 (0, 0)) := kblk hb (by first | exact k1 | (simp [hp_alloc, hp_set, hp_drew, hp_drewN, cset_cells, k0, k1, kg5, kg6, ng5g6, mg5g6, n0g5, m0g5, n0g6, m0g6, n1g5, m1g5, n1g6, m1g6]; done)); replace kg5 : hp _ g5 = some (.cells #[.int .i64 x1, .int .i64 x2] 29 (0, 0)) := kblk hb (by first | exact kg5 | (simp [hp_alloc, hp_set, hp_drew, hp_drewN, cset_cells, k0, k1, kg5, kg6, ng5g6, mg5g6, n0g5, m0g5, n0g6, m0g6, n1g5, m1g5, n1g6, m1g6]; done)); replace kg6 : hp _ g6 = some (.cells #[.int .i64 y1, .int .i64 y2] 29 (0, 0)) := kblk hb (by first | exact kg6 | (simp [hp_alloc, hp_set, hp_drew, hp_drewN, cset_cells, k0, k1, kg5, kg6, ng5g6, mg5g6, n0g5, m0g5, n0g6, m0g6, n1g5, m1g5, n1g6, m1g6]; done)); replace c0 := kcell k0; replace f0 := kfree k0; replace c1 := kcell k1; replace f1 := kfree k1; replace cg5 := kcell kg5; replace fg5 := kfree kg5; replace cg6 := kcell kg6; replace fg6 := kfree kg6) | (go_at_call 14; refine (rofx hc.out _).mono ?_; rintro e w1 ⟨rfl, hb⟩; replace HB := below_call (by first | exact HB | (repeat (first | assumption | exact Below.refl _ _ | (refine below_call ?_ (by assumption)) | apply below_alloc | apply below_drew | apply below_drewN | (refine below_set ?_ (by first | (simp; done) | (simp; omega) | omega) _)))) hb; replace k0 : hp _ w.heap.size = some (.cells #[.int .i64 a, .int .i64 b] 29 (0, 0)) := kblk hb (by first | exact k0 | (simp [hp_alloc, hp_set, hp_drew, hp_drewN, cset_cells, k0, k1, kg5, kg6, ng5g6, mg5g6, n0g5, m0g5, n0g6, m0g6, n1g5, m1g5, n1g6, m1g6]; done)); replace k1 : hp _ (w.heap.size + 1) = some (.cells #[.int .i64 c, .int .i64 d] 29 (0, 0)) := kblk hb (by first | exact k1 | (simp [hp_alloc, hp_set, hp_drew, hp_drewN, cset_cells, k0, k1, kg5, kg6, ng5g6, mg5g6, n0g5, m0g5, n0g6, m0g6, n1g5, m1g5, n1g6, m1g6]; done)); replace kg5 : hp _ g5 = some (.cells #[.int .i64 x1, .int .i64 x2] 29 (0, 0)) := kblk hb (by first | exact kg5 | (simp [hp_alloc, hp_set, hp_drew, hp_drewN, cset_cells, k0, k1, kg5, kg6, ng5g6, mg5g6, n0g5, m0g5, n0g6, m0g6, n1g5, m1g5, n1g6, m1g6]; done)); replace kg6 : hp _ g6 = some (.cells #[.int .i64 y1, .int .i64 y2] 29 (0, 0)) := kblk hb (by first | exact kg6 | (simp [hp_alloc, hp_set, hp_drew, hp_drewN, cset_cells, k0, k1, kg5, kg6, ng5g6, mg5g6, n0g5, m0g5, n0g6, m0g6, n1g5, m1g5, n1g6, m1g6]; done)); replace c0 := kcell k0; replace f0 := kfree k0; replace c1 := kcell k1; replace f1 := kfree k1; replace cg5 := kcell kg5; replace fg5 := kfree kg5; replace cg6 := kcell kg6; replace fg6 := kfree kg6))
          all_goals (go_ret; exact ⟨by first | rfl | (simp [*]; done) | (simp [*]; omega), by (repeat (first | assumption | exact Below.refl _ _ | (refine below_call ?_ (by assumption)) | apply below_alloc | apply below_drew | apply below_drewN | (refine below_set ?_ (by first | (simp; done) | (simp; omega) | omega) _)))⟩)
        · have g3 : y1 ≤ x1 := by omega
          go_enter Try.func41, Try.ntmps41
          go_upto_region 1 with fail
          refine Ph.at_world ?_; intro W1 hW
          have q0 : hp W1 w.heap.size = some (.cells #[.int .i64 a, .int .i64 b] 29 (0, 0)) := by rw [hW]; simp [hp_alloc, hp_set, hp_drew, hp_drewN, cset_cells]
          have q1 : hp W1 (w.heap.size + 1) = some (.cells #[.int .i64 c, .int .i64 d] 29 (0, 0)) := by rw [hW]; simp [hp_alloc, hp_set, hp_drew, hp_drewN, cset_cells]
          have HB : Below w.heap.size w W1 := by rw [hW]; (repeat (first | assumption | exact Below.refl _ _ | (refine below_call ?_ (by assumption)) | apply below_alloc | apply below_drew | apply below_drewN | (refine below_set ?_ (by first | (simp; done) | (simp; omega) | omega) _)))
          clear hW
          have k0 := q0; clear q0; have c0 := kcell k0; have f0 := kfree k0
          have k1 := q1; clear q1; have c1 := kcell k1; have f1 := kfree k1
          go_wp2_with fail
          refine Ph.wp_region_gr 10 12 [] (by kernel_rfl) (by kernel_rfl) (fun _ d _ _ _ h => by cases d <;> exact h) ?_
          simp only [List.take_succ_cons, List.take_zero, List.drop_succ_cons, List.drop_zero]
          repeat (first | (apply Ph.wpG_op rfl; (focus (intro w1 hS; have d0 := kcell (kblk hS k0); have d1 := kcell (kblk hS k1); go_simp; first | exact rfl | exact ⟨rfl, Below.refl _ _⟩ | ((with_reducible refine (rofx ha.out _).mono ?_); rintro e w2 ⟨rfl, hb⟩; exact ⟨rfl, hb⟩) | ((with_reducible refine (rofx hc.out _).mono ?_); rintro e w2 ⟨rfl, hb⟩; exact ⟨rfl, hb⟩)))); simp only [List.tail_cons, List.tail_nil, Act.put, List.setIfInBounds_toArray, List.set_cons_zero, List.set_cons_succ])
          refine Ph.wpG_nil ?_
          apply Ph.wpAl_op (fun g => .pointer (some ⟨g, 0, none⟩)) rfl; (focus (intro w1; go_simp; exact rfl))
          intro g5; simp only [List.tail_cons, List.tail_nil, Act.put, List.setIfInBounds_toArray, List.set_cons_zero, List.set_cons_succ]
          apply Ph.wpAl_op (fun g => .pointer (some ⟨g, 0, none⟩)) rfl; (focus (intro w1; go_simp; exact rfl))
          intro g6; simp only [List.tail_cons, List.tail_nil, Act.put, List.setIfInBounds_toArray, List.set_cons_zero, List.set_cons_succ]
          refine Ph.wpAl_nil ?_; intro v1 hS hgs hne
          simp only [List.nil_append, List.cons_append, List.forall_mem_cons, List.pairwise_cons, Prod.mk.injEq] at hgs hne
          obtain ⟨⟨bg5, kg5⟩, ⟨bg6, kg6⟩, _⟩ := hgs
          replace kg5 : hp v1 g5 = some (.cells #[.int .i64 0, .int .i64 0] 29 (0, 0)) := kg5
          replace kg6 : hp v1 g6 = some (.cells #[.int .i64 0, .int .i64 0] 29 (0, 0)) := kg6
          have ng5g6 : g5 ≠ g6 := by simp at hne; first | exact hne | exact hne.1 | omega
          have mg5g6 : g6 ≠ g5 := fun e => ng5g6 e.symm
          have hk := klt k0
          have n0g5 : w.heap.size ≠ g5 := by omega
          have m0g5 : g5 ≠ w.heap.size := by omega
          have n0g6 : w.heap.size ≠ g6 := by omega
          have m0g6 : g6 ≠ w.heap.size := by omega
          clear hk
          have hk := klt k1
          have n1g5 : w.heap.size + 1 ≠ g5 := by omega
          have m1g5 : g5 ≠ w.heap.size + 1 := by omega
          have n1g6 : w.heap.size + 1 ≠ g6 := by omega
          have m1g6 : g6 ≠ w.heap.size + 1 := by omega
          clear hk
          have eg5 : w.heap.size ≤ g5 := by have := HB.size; omega
          have eg6 : w.heap.size ≤ g6 := by have := HB.size; omega
          replace HB := below_call (by first | exact HB | (repeat (first | assumption | exact Below.refl _ _ | (refine below_call ?_ (by assumption)) | apply below_alloc | apply below_drew | apply below_drewN | (refine below_set ?_ (by first | (simp; done) | (simp; omega) | omega) _)))) hS; replace k0 : hp _ w.heap.size = some (.cells #[.int .i64 a, .int .i64 b] 29 (0, 0)) := kblk hS (by first | exact k0 | (simp [hp_alloc, hp_set, hp_drew, hp_drewN, cset_cells, k0, k1, ng5g6, mg5g6, n0g5, m0g5, n0g6, m0g6, n1g5, m1g5, n1g6, m1g6]; done)); replace k1 : hp _ (w.heap.size + 1) = some (.cells #[.int .i64 c, .int .i64 d] 29 (0, 0)) := kblk hS (by first | exact k1 | (simp [hp_alloc, hp_set, hp_drew, hp_drewN, cset_cells, k0, k1, ng5g6, mg5g6, n0g5, m0g5, n0g6, m0g6, n1g5, m1g5, n1g6, m1g6]; done)); replace c0 := kcell k0; replace f0 := kfree k0; replace c1 := kcell k1; replace f1 := kfree k1
          have cg5 := kcell kg5; have fg5 := kfree kg5
          have cg6 := kcell kg6; have fg6 := kfree kg6
          go_wp2_with fail
          go_wp2_with fail
          go_at_call 16; refine Ph.at_callw ?_; intro W2 hW
          have q0 : hp W2 w.heap.size = some (.cells #[.int .i64 a, .int .i64 b] 29 (0, 0)) := by rw [hW]; simp [hp_alloc, hp_set, hp_drew, hp_drewN, cset_cells, k0, k1, kg5, kg6, ng5g6, mg5g6, n0g5, m0g5, n0g6, m0g6, n1g5, m1g5, n1g6, m1g6]
          have q1 : hp W2 (w.heap.size + 1) = some (.cells #[.int .i64 c, .int .i64 d] 29 (0, 0)) := by rw [hW]; simp [hp_alloc, hp_set, hp_drew, hp_drewN, cset_cells, k0, k1, kg5, kg6, ng5g6, mg5g6, n0g5, m0g5, n0g6, m0g6, n1g5, m1g5, n1g6, m1g6]
          have qg5 : hp W2 g5 = some (.cells #[.int .i64 x1, .int .i64 x2] 29 (0, 0)) := by rw [hW]; simp [hp_alloc, hp_set, hp_drew, hp_drewN, cset_cells, k0, k1, kg5, kg6, ng5g6, mg5g6, n0g5, m0g5, n0g6, m0g6, n1g5, m1g5, n1g6, m1g6]
          have qg6 : hp W2 g6 = some (.cells #[.int .i64 y1, .int .i64 y2] 29 (0, 0)) := by rw [hW]; simp [hp_alloc, hp_set, hp_drew, hp_drewN, cset_cells, k0, k1, kg5, kg6, ng5g6, mg5g6, n0g5, m0g5, n0g6, m0g6, n1g5, m1g5, n1g6, m1g6]
          have HB' : Below w.heap.size w W2 := by rw [hW]; (repeat (first | assumption | exact Below.refl _ _ | (refine below_call ?_ (by assumption)) | apply below_alloc | apply below_drew | apply below_drewN | (refine below_set ?_ (by first | (simp; done) | (simp; omega) | omega) _)))
          replace HB := HB'; clear HB'
          clear hW
          clear k0 c0 f0
          clear k1 c1 f1
          clear kg5 cg5 fg5
          clear kg6 cg6 fg6
          have k0 := q0; clear q0; have c0 := kcell k0; have f0 := kfree k0
          have k1 := q1; clear q1; have c1 := kcell k1; have f1 := kfree k1
          have kg5 := qg5; clear qg5; have cg5 := kcell kg5; have fg5 := kfree kg5
          have kg6 := qg6; clear qg6; have cg6 := kcell kg6; have fg6 := kfree kg6
          refine (rempty _ _ _).mono ?_; rintro e v2 ⟨rfl, hb⟩; replace HB := below_call (by first | exact HB | (repeat (first | assumption | exact Below.refl _ _ | (refine below_call ?_ (by assumption)) | apply below_alloc | apply below_drew | apply below_drewN | (refine below_set ?_ (by first | (simp; done) | (simp; omega) | omega) _)))) hb; replace k0 : hp _ w.heap.size = some (.cells #[.int .i64 a, .int .i64 b] 29 (0, 0)) := kblk hb (by first | exact k0 | (simp [hp_alloc, hp_set, hp_drew, hp_drewN, cset_cells, k0, k1, kg5, kg6, ng5g6, mg5g6, n0g5, m0g5, n0g6, m0g6, n1g5, m1g5, n1g6, m1g6]; done)); replace k1 : hp _ (w.heap.size + 1) = some (.cells #[.int .i64 c, .int .i64 d] 29 (0, 0)) := kblk hb (by first | exact k1 | (simp [hp_alloc, hp_set, hp_drew, hp_drewN, cset_cells, k0, k1, kg5, kg6, ng5g6, mg5g6, n0g5, m0g5, n0g6, m0g6, n1g5, m1g5, n1g6, m1g6]; done)); replace kg5 : hp _ g5 = some (.cells #[.int .i64 x1, .int .i64 x2] 29 (0, 0)) := kblk hb (by first | exact kg5 | (simp [hp_alloc, hp_set, hp_drew, hp_drewN, cset_cells, k0, k1, kg5, kg6, ng5g6, mg5g6, n0g5, m0g5, n0g6, m0g6, n1g5, m1g5, n1g6, m1g6]; done)); replace kg6 : hp _ g6 = some (.cells #[.int .i64 y1, .int .i64 y2] 29 (0, 0)) := kblk hb (by first | exact kg6 | (simp [hp_alloc, hp_set, hp_drew, hp_drewN, cset_cells, k0, k1, kg5, kg6, ng5g6, mg5g6, n0g5, m0g5, n0g6, m0g6, n1g5, m1g5, n1g6, m1g6]; done)); replace c0 := kcell k0; replace f0 := kfree k0; replace c1 := kcell k1; replace f1 := kfree k1; replace cg5 := kcell kg5; replace fg5 := kfree kg5; replace cg6 := kcell kg6; replace fg6 := kfree kg6
          go_wp2_with fail
          go_at_call 16; refine Ph.at_callw ?_; intro W3 hW
          have q0 : hp W3 w.heap.size = some (.cells #[.int .i64 a, .int .i64 b] 29 (0, 0)) := by rw [hW]; simp [hp_alloc, hp_set, hp_drew, hp_drewN, cset_cells, k0, k1, kg5, kg6, ng5g6, mg5g6, n0g5, m0g5, n0g6, m0g6, n1g5, m1g5, n1g6, m1g6]
          have q1 : hp W3 (w.heap.size + 1) = some (.cells #[.int .i64 c, .int .i64 d] 29 (0, 0)) := by rw [hW]; simp [hp_alloc, hp_set, hp_drew, hp_drewN, cset_cells, k0, k1, kg5, kg6, ng5g6, mg5g6, n0g5, m0g5, n0g6, m0g6, n1g5, m1g5, n1g6, m1g6]
          have qg5 : hp W3 g5 = some (.cells #[.int .i64 x1, .int .i64 x2] 29 (0, 0)) := by rw [hW]; simp [hp_alloc, hp_set, hp_drew, hp_drewN, cset_cells, k0, k1, kg5, kg6, ng5g6, mg5g6, n0g5, m0g5, n0g6, m0g6, n1g5, m1g5, n1g6, m1g6]
          have qg6 : hp W3 g6 = some (.cells #[.int .i64 y1, .int .i64 y2] 29 (0, 0)) := by rw [hW]; simp [hp_alloc, hp_set, hp_drew, hp_drewN, cset_cells, k0, k1, kg5, kg6, ng5g6, mg5g6, n0g5, m0g5, n0g6, m0g6, n1g5, m1g5, n1g6, m1g6]
          have HB' : Below w.heap.size w W3 := by rw [hW]; (repeat (first | assumption | exact Below.refl _ _ | (refine below_call ?_ (by assumption)) | apply below_alloc | apply below_drew | apply below_drewN | (refine below_set ?_ (by first | (simp; done) | (simp; omega) | omega) _)))
          replace HB := HB'; clear HB'
          clear hW
          clear k0 c0 f0
          clear k1 c1 f1
          clear kg5 cg5 fg5
          clear kg6 cg6 fg6
          have k0 := q0; clear q0; have c0 := kcell k0; have f0 := kfree k0
          have k1 := q1; clear q1; have c1 := kcell k1; have f1 := kfree k1
          have kg5 := qg5; clear qg5; have cg5 := kcell kg5; have fg5 := kfree kg5
          have kg6 := qg6; clear qg6; have cg6 := kcell kg6; have fg6 := kfree kg6
          refine (rempty _ _ _).mono ?_; rintro e v3 ⟨rfl, hb⟩; replace HB := below_call (by first | exact HB | (repeat (first | assumption | exact Below.refl _ _ | (refine below_call ?_ (by assumption)) | apply below_alloc | apply below_drew | apply below_drewN | (refine below_set ?_ (by first | (simp; done) | (simp; omega) | omega) _)))) hb; replace k0 : hp _ w.heap.size = some (.cells #[.int .i64 a, .int .i64 b] 29 (0, 0)) := kblk hb (by first | exact k0 | (simp [hp_alloc, hp_set, hp_drew, hp_drewN, cset_cells, k0, k1, kg5, kg6, ng5g6, mg5g6, n0g5, m0g5, n0g6, m0g6, n1g5, m1g5, n1g6, m1g6]; done)); replace k1 : hp _ (w.heap.size + 1) = some (.cells #[.int .i64 c, .int .i64 d] 29 (0, 0)) := kblk hb (by first | exact k1 | (simp [hp_alloc, hp_set, hp_drew, hp_drewN, cset_cells, k0, k1, kg5, kg6, ng5g6, mg5g6, n0g5, m0g5, n0g6, m0g6, n1g5, m1g5, n1g6, m1g6]; done)); replace kg5 : hp _ g5 = some (.cells #[.int .i64 x1, .int .i64 x2] 29 (0, 0)) := kblk hb (by first | exact kg5 | (simp [hp_alloc, hp_set, hp_drew, hp_drewN, cset_cells, k0, k1, kg5, kg6, ng5g6, mg5g6, n0g5, m0g5, n0g6, m0g6, n1g5, m1g5, n1g6, m1g6]; done)); replace kg6 : hp _ g6 = some (.cells #[.int .i64 y1, .int .i64 y2] 29 (0, 0)) := kblk hb (by first | exact kg6 | (simp [hp_alloc, hp_set, hp_drew, hp_drewN, cset_cells, k0, k1, kg5, kg6, ng5g6, mg5g6, n0g5, m0g5, n0g6, m0g6, n1g5, m1g5, n1g6, m1g6]; done)); replace c0 := kcell k0; replace f0 := kfree k0; replace c1 := kcell k1; replace f1 := kfree k1; replace cg5 := kcell kg5; replace fg5 := kfree kg5; replace cg6 := kcell kg6; replace fg6 := kfree kg6
          go_wp2_with (first | (go_at_call 14; refine (rofx ha.out _).mono ?_; rintro e w1 ⟨rfl, hb⟩; replace HB := below_call (by first | exact HB | (repeat (first | assumption | exact Below.refl _ _ | (refine below_call ?_ (by assumption)) | apply below_alloc | apply below_drew | apply below_drewN | (refine below_set ?_ (by first | (simp; done) | (simp; omega) | omega) _)))) hb; replace k0 : hp _ w.heap.size = some (.cells #[.int .i64 a, .int .i64 b] 29 (0, 0)) := kblk hb (by first | exact k0 | (simp [hp_alloc, hp_set, hp_drew, hp_drewN, cset_cells, k0, k1, kg5, kg6, ng5g6, mg5g6, n0g5, m0g5, n0g6, m0g6, n1g5, m1g5, n1g6, m1g6]; done)); replace k1 : hp _ (w.heap.size + 1) = some (.cells #[.int .i64 c, .int .i64 d] 29 (0, 0)) := kblk hb (by first | exact k1 | (simp [hp_alloc, hp_set, hp_drew, hp_drewN, cset_cells, k0, k1, kg5, kg6, ng5g6, mg5g6, n0g5, m0g5, n0g6, m0g6, n1g5, m1g5, n1g6, m1g6]; done)); replace kg5 : hp _ g5 = some (.cells #[.int .i64 x1, .int .i64 x2] 29 (0, 0)) := kblk hb (by first | exact kg5 | (simp [hp_alloc, hp_set, hp_drew, hp_drewN, cset_cells, k0, k1, kg5, kg6, ng5g6, mg5g6, n0g5, m0g5, n0g6, m0g6, n1g5, m1g5, n1g6, m1g6]; done)); replace kg6 : hp _ g6 = some (.cells #[.int .i64 y1, .int .i64 y2] 29 (0, 0)) := kblk hb (by first | exact kg6 | (simp [hp_alloc, hp_set, hp_drew, hp_drewN, cset_cells, k0, k1, kg5, kg6, ng5g6, mg5g6, n0g5, m0g5, n0g6, m0g6, n1g5, m1g5, n1g6, m1g6]; done)); replace c0 := kcell k0; replace f0 := kfree k0; replace c1 := kcell k1; replace f1 := kfree k1; replace cg5 := kcell kg5; replace fg5 := kfree kg5; replace cg6 := kcell kg6; replace fg6 := kfree kg6) | (go_at_call 14; refine (rofx hc.out _).mono ?_; rintro e w1 ⟨rfl, hb⟩; replace HB := below_call (by first | exact HB | (repeat (first | assumption | exact Below.refl _ _ | (refine below_call ?_ (by assumption)) | apply below_alloc | apply below_drew | apply below_drewN | (refine below_set ?_ (by first | (simp; done) | (simp; omega) | omega) _)))) hb; replace k0 : hp _ w.heap.size = some (.cells #[.int .i64 a, .int .i64 b] 29 (0, 0)) := kblk hb (by first | exact k0 | (simp [hp_alloc, hp_set, hp_drew, hp_drewN, cset_cells, k0, k1, kg5, kg6, ng5g6, mg5g6, n0g5, m0g5, n0g6, m0g6, n1g5, m1g5, n1g6, m1g6]; done)); replace k1 : hp _ (w.heap.size + 1) = some (.cells #[.int .i64 c, .int .i64 d] 29 (0, 0)) := kblk hb (by first | exact k1 | (simp [hp_alloc, hp_set, hp_drew, hp_drewN, cset_cells, k0, k1, kg5, kg6, ng5g6, mg5g6, n0g5, m0g5, n0g6, m0g6, n1g5, m1g5, n1g6, m1g6]; done)); replace kg5 : hp _ g5 = some (.cells #[.int .i64 x1, .int .i64 x2] 29 (0, 0)) := kblk hb (by first | exact kg5 | (simp [hp_alloc, hp_set, hp_drew, hp_drewN, cset_cells, k0, k1, kg5, kg6, ng5g6, mg5g6, n0g5, m0g5, n0g6, m0g6, n1g5, m1g5, n1g6, m1g6]; done)); replace kg6 : hp _ g6 = some (.cells #[.int .i64 y1, .int .i64 y2] 29 (0, 0)) := kblk hb (by first | exact kg6 | (simp [hp_alloc, hp_set, hp_drew, hp_drewN, cset_cells, k0, k1, kg5, kg6, ng5g6, mg5g6, n0g5, m0g5, n0g6, m0g6, n1g5, m1g5, n1g6, m1g6]; done)); replace c0 := kcell k0; replace f0 := kfree k0; replace c1 := kcell k1; replace f1 := kfree k1; replace cg5 := kcell kg5; replace fg5 := kfree kg5; replace cg6 := kcell kg6; replace fg6 := kfree kg6))
          all_goals (go_ret; exact ⟨by first | rfl | (simp [*]; done) | (simp [*]; omega), by (repeat (first | assumption | exact Below.refl _ _ | (refine below_call ?_ (by assumption)) | apply below_alloc | apply below_drew | apply below_drewN | (refine below_set ?_ (by first | (simp; done) | (simp; omega) | omega) _)))⟩)
      · skip
        go_enter Try.func41, Try.ntmps41
        go_upto_region 1 with fail
        refine Ph.at_world ?_; intro W1 hW
        have q0 : hp W1 w.heap.size = some (.cells #[.int .i64 a, .int .i64 b] 29 (0, 0)) := by rw [hW]; simp [hp_alloc, hp_set, hp_drew, hp_drewN, cset_cells]
        have q1 : hp W1 (w.heap.size + 1) = some (.cells #[.int .i64 c, .int .i64 d] 29 (0, 0)) := by rw [hW]; simp [hp_alloc, hp_set, hp_drew, hp_drewN, cset_cells]
        have HB : Below w.heap.size w W1 := by rw [hW]; (repeat (first | assumption | exact Below.refl _ _ | (refine below_call ?_ (by assumption)) | apply below_alloc | apply below_drew | apply below_drewN | (refine below_set ?_ (by first | (simp; done) | (simp; omega) | omega) _)))
        clear hW
        have k0 := q0; clear q0; have c0 := kcell k0; have f0 := kfree k0
        have k1 := q1; clear q1; have c1 := kcell k1; have f1 := kfree k1
        go_wp2_with fail
        refine Ph.wp_region_gr 10 12 [] (by kernel_rfl) (by kernel_rfl) (fun _ d _ _ _ h => by cases d <;> exact h) ?_
        simp only [List.take_succ_cons, List.take_zero, List.drop_succ_cons, List.drop_zero]
        repeat (first | (apply Ph.wpG_op rfl; (focus (intro w1 hS; have d0 := kcell (kblk hS k0); have d1 := kcell (kblk hS k1); go_simp; first | exact rfl | exact ⟨rfl, Below.refl _ _⟩ | ((with_reducible refine (rofx ha.out _).mono ?_); rintro e w2 ⟨rfl, hb⟩; exact ⟨rfl, hb⟩) | ((with_reducible refine (rofx hc.out _).mono ?_); rintro e w2 ⟨rfl, hb⟩; exact ⟨rfl, hb⟩)))); simp only [List.tail_cons, List.tail_nil, Act.put, List.setIfInBounds_toArray, List.set_cons_zero, List.set_cons_succ])
        refine Ph.wpG_nil ?_
        apply Ph.wpAl_op (fun g => .pointer (some ⟨g, 0, none⟩)) rfl; (focus (intro w1; go_simp; exact rfl))
        intro g5; simp only [List.tail_cons, List.tail_nil, Act.put, List.setIfInBounds_toArray, List.set_cons_zero, List.set_cons_succ]
        apply Ph.wpAl_op (fun g => .pointer (some ⟨g, 0, none⟩)) rfl; (focus (intro w1; go_simp; exact rfl))
        intro g6; simp only [List.tail_cons, List.tail_nil, Act.put, List.setIfInBounds_toArray, List.set_cons_zero, List.set_cons_succ]
        refine Ph.wpAl_nil ?_; intro v1 hS hgs hne
        simp only [List.nil_append, List.cons_append, List.forall_mem_cons, List.pairwise_cons, Prod.mk.injEq] at hgs hne
        obtain ⟨⟨bg5, kg5⟩, ⟨bg6, kg6⟩, _⟩ := hgs
        replace kg5 : hp v1 g5 = some (.cells #[.int .i64 0, .int .i64 0] 29 (0, 0)) := kg5
        replace kg6 : hp v1 g6 = some (.cells #[.int .i64 0, .int .i64 0] 29 (0, 0)) := kg6
        have ng5g6 : g5 ≠ g6 := by simp at hne; first | exact hne | exact hne.1 | omega
        have mg5g6 : g6 ≠ g5 := fun e => ng5g6 e.symm
        have hk := klt k0
        have n0g5 : w.heap.size ≠ g5 := by omega
        have m0g5 : g5 ≠ w.heap.size := by omega
        have n0g6 : w.heap.size ≠ g6 := by omega
        have m0g6 : g6 ≠ w.heap.size := by omega
        clear hk
        have hk := klt k1
        have n1g5 : w.heap.size + 1 ≠ g5 := by omega
        have m1g5 : g5 ≠ w.heap.size + 1 := by omega
        have n1g6 : w.heap.size + 1 ≠ g6 := by omega
        have m1g6 : g6 ≠ w.heap.size + 1 := by omega
        clear hk
        have eg5 : w.heap.size ≤ g5 := by have := HB.size; omega
        have eg6 : w.heap.size ≤ g6 := by have := HB.size; omega
        replace HB := below_call (by first | exact HB | (repeat (first | assumption | exact Below.refl _ _ | (refine below_call ?_ (by assumption)) | apply below_alloc | apply below_drew | apply below_drewN | (refine below_set ?_ (by first | (simp; done) | (simp; omega) | omega) _)))) hS; replace k0 : hp _ w.heap.size = some (.cells #[.int .i64 a, .int .i64 b] 29 (0, 0)) := kblk hS (by first | exact k0 | (simp [hp_alloc, hp_set, hp_drew, hp_drewN, cset_cells, k0, k1, ng5g6, mg5g6, n0g5, m0g5, n0g6, m0g6, n1g5, m1g5, n1g6, m1g6]; done)); replace k1 : hp _ (w.heap.size + 1) = some (.cells #[.int .i64 c, .int .i64 d] 29 (0, 0)) := kblk hS (by first | exact k1 | (simp [hp_alloc, hp_set, hp_drew, hp_drewN, cset_cells, k0, k1, ng5g6, mg5g6, n0g5, m0g5, n0g6, m0g6, n1g5, m1g5, n1g6, m1g6]; done)); replace c0 := kcell k0; replace f0 := kfree k0; replace c1 := kcell k1; replace f1 := kfree k1
        have cg5 := kcell kg5; have fg5 := kfree kg5
        have cg6 := kcell kg6; have fg6 := kfree kg6
        go_wp2_with fail
        go_wp2_with fail
        go_at_call 16; refine Ph.at_callw ?_; intro W2 hW
        have q0 : hp W2 w.heap.size = some (.cells #[.int .i64 a, .int .i64 b] 29 (0, 0)) := by rw [hW]; simp [hp_alloc, hp_set, hp_drew, hp_drewN, cset_cells, k0, k1, kg5, kg6, ng5g6, mg5g6, n0g5, m0g5, n0g6, m0g6, n1g5, m1g5, n1g6, m1g6]
        have q1 : hp W2 (w.heap.size + 1) = some (.cells #[.int .i64 c, .int .i64 d] 29 (0, 0)) := by rw [hW]; simp [hp_alloc, hp_set, hp_drew, hp_drewN, cset_cells, k0, k1, kg5, kg6, ng5g6, mg5g6, n0g5, m0g5, n0g6, m0g6, n1g5, m1g5, n1g6, m1g6]
        have qg5 : hp W2 g5 = some (.cells #[.int .i64 x1, .int .i64 x2] 29 (0, 0)) := by rw [hW]; simp [hp_alloc, hp_set, hp_drew, hp_drewN, cset_cells, k0, k1, kg5, kg6, ng5g6, mg5g6, n0g5, m0g5, n0g6, m0g6, n1g5, m1g5, n1g6, m1g6]
        have qg6 : hp W2 g6 = some (.cells #[.int .i64 y1, .int .i64 y2] 29 (0, 0)) := by rw [hW]; simp [hp_alloc, hp_set, hp_drew, hp_drewN, cset_cells, k0, k1, kg5, kg6, ng5g6, mg5g6, n0g5, m0g5, n0g6, m0g6, n1g5, m1g5, n1g6, m1g6]
        have HB' : Below w.heap.size w W2 := by rw [hW]; (repeat (first | assumption | exact Below.refl _ _ | (refine below_call ?_ (by assumption)) | apply below_alloc | apply below_drew | apply below_drewN | (refine below_set ?_ (by first | (simp; done) | (simp; omega) | omega) _)))
        replace HB := HB'; clear HB'
        clear hW
        clear k0 c0 f0
        clear k1 c1 f1
        clear kg5 cg5 fg5
        clear kg6 cg6 fg6
        have k0 := q0; clear q0; have c0 := kcell k0; have f0 := kfree k0
        have k1 := q1; clear q1; have c1 := kcell k1; have f1 := kfree k1
        have kg5 := qg5; clear qg5; have cg5 := kcell kg5; have fg5 := kfree kg5
        have kg6 := qg6; clear qg6; have cg6 := kcell kg6; have fg6 := kfree kg6
        refine (rempty _ _ _).mono ?_; rintro e v2 ⟨rfl, hb⟩; replace HB := below_call (by first | exact HB | (repeat (first | assumption | exact Below.refl _ _ | (refine below_call ?_ (by assumption)) | apply below_alloc | apply below_drew | apply below_drewN | (refine below_set ?_ (by first | (simp; done) | (simp; omega) | omega) _)))) hb; replace k0 : hp _ w.heap.size = some (.cells #[.int .i64 a, .int .i64 b] 29 (0, 0)) := kblk hb (by first | exact k0 | (simp [hp_alloc, hp_set, hp_drew, hp_drewN, cset_cells, k0, k1, kg5, kg6, ng5g6, mg5g6, n0g5, m0g5, n0g6, m0g6, n1g5, m1g5, n1g6, m1g6]; done)); replace k1 : hp _ (w.heap.size + 1) = some (.cells #[.int .i64 c, .int .i64 d] 29 (0, 0)) := kblk hb (by first | exact k1 | (simp [hp_alloc, hp_set, hp_drew, hp_drewN, cset_cells, k0, k1, kg5, kg6, ng5g6, mg5g6, n0g5, m0g5, n0g6, m0g6, n1g5, m1g5, n1g6, m1g6]; done)); replace kg5 : hp _ g5 = some (.cells #[.int .i64 x1, .int .i64 x2] 29 (0, 0)) := kblk hb (by first | exact kg5 | (simp [hp_alloc, hp_set, hp_drew, hp_drewN, cset_cells, k0, k1, kg5, kg6, ng5g6, mg5g6, n0g5, m0g5, n0g6, m0g6, n1g5, m1g5, n1g6, m1g6]; done)); replace kg6 : hp _ g6 = some (.cells #[.int .i64 y1, .int .i64 y2] 29 (0, 0)) := kblk hb (by first | exact kg6 | (simp [hp_alloc, hp_set, hp_drew, hp_drewN, cset_cells, k0, k1, kg5, kg6, ng5g6, mg5g6, n0g5, m0g5, n0g6, m0g6, n1g5, m1g5, n1g6, m1g6]; done)); replace c0 := kcell k0; replace f0 := kfree k0; replace c1 := kcell k1; replace f1 := kfree k1; replace cg5 := kcell kg5; replace fg5 := kfree kg5; replace cg6 := kcell kg6; replace fg6 := kfree kg6
        go_wp2_with fail
        go_at_call 16; refine Ph.at_callw ?_; intro W3 hW
        have q0 : hp W3 w.heap.size = some (.cells #[.int .i64 a, .int .i64 b] 29 (0, 0)) := by rw [hW]; simp [hp_alloc, hp_set, hp_drew, hp_drewN, cset_cells, k0, k1, kg5, kg6, ng5g6, mg5g6, n0g5, m0g5, n0g6, m0g6, n1g5, m1g5, n1g6, m1g6]
        have q1 : hp W3 (w.heap.size + 1) = some (.cells #[.int .i64 c, .int .i64 d] 29 (0, 0)) := by rw [hW]; simp [hp_alloc, hp_set, hp_drew, hp_drewN, cset_cells, k0, k1, kg5, kg6, ng5g6, mg5g6, n0g5, m0g5, n0g6, m0g6, n1g5, m1g5, n1g6, m1g6]
        have qg5 : hp W3 g5 = some (.cells #[.int .i64 x1, .int .i64 x2] 29 (0, 0)) := by rw [hW]; simp [hp_alloc, hp_set, hp_drew, hp_drewN, cset_cells, k0, k1, kg5, kg6, ng5g6, mg5g6, n0g5, m0g5, n0g6, m0g6, n1g5, m1g5, n1g6, m1g6]
        have qg6 : hp W3 g6 = some (.cells #[.int .i64 y1, .int .i64 y2] 29 (0, 0)) := by rw [hW]; simp [hp_alloc, hp_set, hp_drew, hp_drewN, cset_cells, k0, k1, kg5, kg6, ng5g6, mg5g6, n0g5, m0g5, n0g6, m0g6, n1g5, m1g5, n1g6, m1g6]
        have HB' : Below w.heap.size w W3 := by rw [hW]; (repeat (first | assumption | exact Below.refl _ _ | (refine below_call ?_ (by assumption)) | apply below_alloc | apply below_drew | apply below_drewN | (refine below_set ?_ (by first | (simp; done) | (simp; omega) | omega) _)))
        replace HB := HB'; clear HB'
        clear hW
        clear k0 c0 f0
        clear k1 c1 f1
        clear kg5 cg5 fg5
        clear kg6 cg6 fg6
        have k0 := q0; clear q0; have c0 := kcell k0; have f0 := kfree k0
        have k1 := q1; clear q1; have c1 := kcell k1; have f1 := kfree k1
        have kg5 := qg5; clear qg5; have cg5 := kcell kg5; have fg5 := kfree kg5
        have kg6 := qg6; clear qg6; have cg6 := kcell kg6; have fg6 := kfree kg6
        refine (rempty _ _ _).mono ?_; rintro e v3 ⟨rfl, hb⟩; replace HB := below_call (by first | exact HB | (repeat (first | assumption | exact Below.refl _ _ | (refine below_call ?_ (by assumption)) | apply below_alloc | apply below_drew | apply below_drewN | (refine below_set ?_ (by first | (simp; done) | (simp; omega) | omega) _)))) hb; replace k0 : hp _ w.heap.size = some (.cells #[.int .i64 a, .int .i64 b] 29 (0, 0)) := kblk hb (by first | exact k0 | (simp [hp_alloc, hp_set, hp_drew, hp_drewN, cset_cells, k0, k1, kg5, kg6, ng5g6, mg5g6, n0g5, m0g5, n0g6, m0g6, n1g5, m1g5, n1g6, m1g6]; done)); replace k1 : hp _ (w.heap.size + 1) = some (.cells #[.int .i64 c, .int .i64 d] 29 (0, 0)) := kblk hb (by first | exact k1 | (simp [hp_alloc, hp_set, hp_drew, hp_drewN, cset_cells, k0, k1, kg5, kg6, ng5g6, mg5g6, n0g5, m0g5, n0g6, m0g6, n1g5, m1g5, n1g6, m1g6]; done)); replace kg5 : hp _ g5 = some (.cells #[.int .i64 x1, .int .i64 x2] 29 (0, 0)) := kblk hb (by first | exact kg5 | (simp [hp_alloc, hp_set, hp_drew, hp_drewN, cset_cells, k0, k1, kg5, kg6, ng5g6, mg5g6, n0g5, m0g5, n0g6, m0g6, n1g5, m1g5, n1g6, m1g6]; done)); replace kg6 : hp _ g6 = some (.cells #[.int .i64 y1, .int .i64 y2] 29 (0, 0)) := kblk hb (by first | exact kg6 | (simp [hp_alloc, hp_set, hp_drew, hp_drewN, cset_cells, k0, k1, kg5, kg6, ng5g6, mg5g6, n0g5, m0g5, n0g6, m0g6, n1g5, m1g5, n1g6, m1g6]; done)); replace c0 := kcell k0; replace f0 := kfree k0; replace c1 := kcell k1; replace f1 := kfree k1; replace cg5 := kcell kg5; replace fg5 := kfree kg5; replace cg6 := kcell kg6; replace fg6 := kfree kg6
        go_wp2_with (first | (go_at_call 14; refine (rofx ha.out _).mono ?_; rintro e w1 ⟨rfl, hb⟩; replace HB := below_call (by first | exact HB | (repeat (first | assumption | exact Below.refl _ _ | (refine below_call ?_ (by assumption)) | apply below_alloc | apply below_drew | apply below_drewN | (refine below_set ?_ (by first | (simp; done) | (simp; omega) | omega) _)))) hb; replace k0 : hp _ w.heap.size = some (.cells #[.int .i64 a, .int .i64 b] 29 (0, 0)) := kblk hb (by first | exact k0 | (simp [hp_alloc, hp_set, hp_drew, hp_drewN, cset_cells, k0, k1, kg5, kg6, ng5g6, mg5g6, n0g5, m0g5, n0g6, m0g6, n1g5, m1g5, n1g6, m1g6]; done)); replace k1 : hp _ (w.heap.size + 1) = some (.cells #[.int .i64 c, .int .i64 d] 29 (0, 0)) := kblk hb (by first | exact k1 | (simp [hp_alloc, hp_set, hp_drew, hp_drewN, cset_cells, k0, k1, kg5, kg6, ng5g6, mg5g6, n0g5, m0g5, n0g6, m0g6, n1g5, m1g5, n1g6, m1g6]; done)); replace kg5 : hp _ g5 = some (.cells #[.int .i64 x1, .int .i64 x2] 29 (0, 0)) := kblk hb (by first | exact kg5 | (simp [hp_alloc, hp_set, hp_drew, hp_drewN, cset_cells, k0, k1, kg5, kg6, ng5g6, mg5g6, n0g5, m0g5, n0g6, m0g6, n1g5, m1g5, n1g6, m1g6]; done)); replace kg6 : hp _ g6 = some (.cells #[.int .i64 y1, .int .i64 y2] 29 (0, 0)) := kblk hb (by first | exact kg6 | (simp [hp_alloc, hp_set, hp_drew, hp_drewN, cset_cells, k0, k1, kg5, kg6, ng5g6, mg5g6, n0g5, m0g5, n0g6, m0g6, n1g5, m1g5, n1g6, m1g6]; done)); replace c0 := kcell k0; replace f0 := kfree k0; replace c1 := kcell k1; replace f1 := kfree k1; replace cg5 := kcell kg5; replace fg5 := kfree kg5; replace cg6 := kcell kg6; replace fg6 := kfree kg6) | (go_at_call 14; refine (rofx hc.out _).mono ?_; rintro e w1 ⟨rfl, hb⟩; replace HB := below_call (by first | exact HB | (repeat (first | assumption | exact Below.refl _ _ | (refine below_call ?_ (by assumption)) | apply below_alloc | apply below_drew | apply below_drewN | (refine below_set ?_ (by first | (simp; done) | (simp; omega) | omega) _)))) hb; replace k0 : hp _ w.heap.size = some (.cells #[.int .i64 a, .int .i64 b] 29 (0, 0)) := kblk hb (by first | exact k0 | (simp [hp_alloc, hp_set, hp_drew, hp_drewN, cset_cells, k0, k1, kg5, kg6, ng5g6, mg5g6, n0g5, m0g5, n0g6, m0g6, n1g5, m1g5, n1g6, m1g6]; done)); replace k1 : hp _ (w.heap.size + 1) = some (.cells #[.int .i64 c, .int .i64 d] 29 (0, 0)) := kblk hb (by first | exact k1 | (simp [hp_alloc, hp_set, hp_drew, hp_drewN, cset_cells, k0, k1, kg5, kg6, ng5g6, mg5g6, n0g5, m0g5, n0g6, m0g6, n1g5, m1g5, n1g6, m1g6]; done)); replace kg5 : hp _ g5 = some (.cells #[.int .i64 x1, .int .i64 x2] 29 (0, 0)) := kblk hb (by first | exact kg5 | (simp [hp_alloc, hp_set, hp_drew, hp_drewN, cset_cells, k0, k1, kg5, kg6, ng5g6, mg5g6, n0g5, m0g5, n0g6, m0g6, n1g5, m1g5, n1g6, m1g6]; done)); replace kg6 : hp _ g6 = some (.cells #[.int .i64 y1, .int .i64 y2] 29 (0, 0)) := kblk hb (by first | exact kg6 | (simp [hp_alloc, hp_set, hp_drew, hp_drewN, cset_cells, k0, k1, kg5, kg6, ng5g6, mg5g6, n0g5, m0g5, n0g6, m0g6, n1g5, m1g5, n1g6, m1g6]; done)); replace c0 := kcell k0; replace f0 := kfree k0; replace c1 := kcell k1; replace f1 := kfree k1; replace cg5 := kcell kg5; replace fg5 := kfree kg5; replace cg6 := kcell kg6; replace fg6 := kfree kg6))
        all_goals (go_ret; exact ⟨by first | rfl | (simp [*]; done) | (simp [*]; omega), by (repeat (first | assumption | exact Below.refl _ _ | (refine below_call ?_ (by assumption)) | apply below_alloc | apply below_drew | apply below_drewN | (refine below_set ?_ (by first | (simp; done) | (simp; omega) | omega) _)))⟩)
    · skip
      go_enter Try.func41, Try.ntmps41
      go_upto_region 1 with fail
      refine Ph.at_world ?_; intro W1 hW
      have q0 : hp W1 w.heap.size = some (.cells #[.int .i64 a, .int .i64 b] 29 (0, 0)) := by rw [hW]; simp [hp_alloc, hp_set, hp_drew, hp_drewN, cset_cells]
      have q1 : hp W1 (w.heap.size + 1) = some (.cells #[.int .i64 c, .int .i64 d] 29 (0, 0)) := by rw [hW]; simp [hp_alloc, hp_set, hp_drew, hp_drewN, cset_cells]
      have HB : Below w.heap.size w W1 := by rw [hW]; (repeat (first | assumption | exact Below.refl _ _ | (refine below_call ?_ (by assumption)) | apply below_alloc | apply below_drew | apply below_drewN | (refine below_set ?_ (by first | (simp; done) | (simp; omega) | omega) _)))
      clear hW
      have k0 := q0; clear q0; have c0 := kcell k0; have f0 := kfree k0
      have k1 := q1; clear q1; have c1 := kcell k1; have f1 := kfree k1
      go_wp2_with fail
      refine Ph.wp_region_gr 10 12 [] (by kernel_rfl) (by kernel_rfl) (fun _ d _ _ _ h => by cases d <;> exact h) ?_
      simp only [List.take_succ_cons, List.take_zero, List.drop_succ_cons, List.drop_zero]
      repeat (first | (apply Ph.wpG_op rfl; (focus (intro w1 hS; have d0 := kcell (kblk hS k0); have d1 := kcell (kblk hS k1); go_simp; first | exact rfl | exact ⟨rfl, Below.refl _ _⟩ | ((with_reducible refine (rofx ha.out _).mono ?_); rintro e w2 ⟨rfl, hb⟩; exact ⟨rfl, hb⟩) | ((with_reducible refine (rofx hc.out _).mono ?_); rintro e w2 ⟨rfl, hb⟩; exact ⟨rfl, hb⟩)))); simp only [List.tail_cons, List.tail_nil, Act.put, List.setIfInBounds_toArray, List.set_cons_zero, List.set_cons_succ])
      refine Ph.wpG_nil ?_
      apply Ph.wpAl_op (fun g => .pointer (some ⟨g, 0, none⟩)) rfl; (focus (intro w1; go_simp; exact rfl))
      intro g5; simp only [List.tail_cons, List.tail_nil, Act.put, List.setIfInBounds_toArray, List.set_cons_zero, List.set_cons_succ]
      apply Ph.wpAl_op (fun g => .pointer (some ⟨g, 0, none⟩)) rfl; (focus (intro w1; go_simp; exact rfl))
      intro g6; simp only [List.tail_cons, List.tail_nil, Act.put, List.setIfInBounds_toArray, List.set_cons_zero, List.set_cons_succ]
      refine Ph.wpAl_nil ?_; intro v1 hS hgs hne
      simp only [List.nil_append, List.cons_append, List.forall_mem_cons, List.pairwise_cons, Prod.mk.injEq] at hgs hne
      obtain ⟨⟨bg5, kg5⟩, ⟨bg6, kg6⟩, _⟩ := hgs
      replace kg5 : hp v1 g5 = some (.cells #[.int .i64 0, .int .i64 0] 29 (0, 0)) := kg5
      replace kg6 : hp v1 g6 = some (.cells #[.int .i64 0, .int .i64 0] 29 (0, 0)) := kg6
      have ng5g6 : g5 ≠ g6 := by simp at hne; first | exact hne | exact hne.1 | omega
      have mg5g6 : g6 ≠ g5 := fun e => ng5g6 e.symm
      have hk := klt k0
      have n0g5 : w.heap.size ≠ g5 := by omega
      have m0g5 : g5 ≠ w.heap.size := by omega
      have n0g6 : w.heap.size ≠ g6 := by omega
      have m0g6 : g6 ≠ w.heap.size := by omega
      clear hk
      have hk := klt k1
      have n1g5 : w.heap.size + 1 ≠ g5 := by omega
      have m1g5 : g5 ≠ w.heap.size + 1 := by omega
      have n1g6 : w.heap.size + 1 ≠ g6 := by omega
      have m1g6 : g6 ≠ w.heap.size + 1 := by omega
      clear hk
      have eg5 : w.heap.size ≤ g5 := by have := HB.size; omega
      have eg6 : w.heap.size ≤ g6 := by have := HB.size; omega
      replace HB := below_call (by first | exact HB | (repeat (first | assumption | exact Below.refl _ _ | (refine below_call ?_ (by assumption)) | apply below_alloc | apply below_drew | apply below_drewN | (refine below_set ?_ (by first | (simp; done) | (simp; omega) | omega) _)))) hS; replace k0 : hp _ w.heap.size = some (.cells #[.int .i64 a, .int .i64 b] 29 (0, 0)) := kblk hS (by first | exact k0 | (simp [hp_alloc, hp_set, hp_drew, hp_drewN, cset_cells, k0, k1, ng5g6, mg5g6, n0g5, m0g5, n0g6, m0g6, n1g5, m1g5, n1g6, m1g6]; done)); replace k1 : hp _ (w.heap.size + 1) = some (.cells #[.int .i64 c, .int .i64 d] 29 (0, 0)) := kblk hS (by first | exact k1 | (simp [hp_alloc, hp_set, hp_drew, hp_drewN, cset_cells, k0, k1, ng5g6, mg5g6, n0g5, m0g5, n0g6, m0g6, n1g5, m1g5, n1g6, m1g6]; done)); replace c0 := kcell k0; replace f0 := kfree k0; replace c1 := kcell k1; replace f1 := kfree k1
      have cg5 := kcell kg5; have fg5 := kfree kg5
      have cg6 := kcell kg6; have fg6 := kfree kg6
      go_wp2_with fail
      go_wp2_with fail
      go_at_call 16; refine Ph.at_callw ?_; intro W2 hW
      have q0 : hp W2 w.heap.size = some (.cells #[.int .i64 a, .int .i64 b] 29 (0, 0)) := by rw [hW]; simp [hp_alloc, hp_set, hp_drew, hp_drewN, cset_cells, k0, k1, kg5, kg6, ng5g6, mg5g6, n0g5, m0g5, n0g6, m0g6, n1g5, m1g5, n1g6, m1g6]
      have q1 : hp W2 (w.heap.size + 1) = some (.cells #[.int .i64 c, .int .i64 d] 29 (0, 0)) := by rw [hW]; simp [hp_alloc, hp_set, hp_drew, hp_drewN, cset_cells, k0, k1, kg5, kg6, ng5g6, mg5g6, n0g5, m0g5, n0g6, m0g6, n1g5, m1g5, n1g6, m1g6]
      have qg5 : hp W2 g5 = some (.cells #[.int .i64 x1, .int .i64 x2] 29 (0, 0)) := by rw [hW]; simp [hp_alloc, hp_set, hp_drew, hp_drewN, cset_cells, k0, k1, kg5, kg6, ng5g6, mg5g6, n0g5, m0g5, n0g6, m0g6, n1g5, m1g5, n1g6, m1g6]
      have qg6 : hp W2 g6 = some (.cells #[.int .i64 y1, .int .i64 y2] 29 (0, 0)) := by rw [hW]; simp [hp_alloc, hp_set, hp_drew, hp_drewN, cset_cells, k0, k1, kg5, kg6, ng5g6, mg5g6, n0g5, m0g5, n0g6, m0g6, n1g5, m1g5, n1g6, m1g6]
      have HB' : Below w.heap.size w W2 := by rw [hW]; (repeat (first | assumption | exact Below.refl _ _ | (refine below_call ?_ (by assumption)) | apply below_alloc | apply below_drew | apply below_drewN | (refine below_set ?_ (by first | (simp; done) | (simp; omega) | omega) _)))
      replace HB := HB'; clear HB'
      clear hW
      clear k0 c0 f0
      clear k1 c1 f1
      clear kg5 cg5 fg5
      clear kg6 cg6 fg6
      have k0 := q0; clear q0; have c0 := kcell k0; have f0 := kfree k0
      have k1 := q1; clear q1; have c1 := kcell k1; have f1 := kfree k1
      have kg5 := qg5; clear qg5; have cg5 := kcell kg5; have fg5 := kfree kg5
      have kg6 := qg6; clear qg6; have cg6 := kcell kg6; have fg6 := kfree kg6
      refine (rempty _ _ _).mono ?_; rintro e v2 ⟨rfl, hb⟩; replace HB := below_call (by first | exact HB | (repeat (first | assumption | exact Below.refl _ _ | (refine below_call ?_ (by assumption)) | apply below_alloc | apply below_drew | apply below_drewN | (refine below_set ?_ (by first | (simp; done) | (simp; omega) | omega) _)))) hb; replace k0 : hp _ w.heap.size = some (.cells #[.int .i64 a, .int .i64 b] 29 (0, 0)) := kblk hb (by first | exact k0 | (simp [hp_alloc, hp_set, hp_drew, hp_drewN, cset_cells, k0, k1, kg5, kg6, ng5g6, mg5g6, n0g5, m0g5, n0g6, m0g6, n1g5, m1g5, n1g6, m1g6]; done)); replace k1 : hp _ (w.heap.size + 1) = some (.cells #[.int .i64 c, .int .i64 d] 29 (0, 0)) := kblk hb (by first | exact k1 | (simp [hp_alloc, hp_set, hp_drew, hp_drewN, cset_cells, k0, k1, kg5, kg6, ng5g6, mg5g6, n0g5, m0g5, n0g6, m0g6, n1g5, m1g5, n1g6, m1g6]; done)); replace kg5 : hp _ g5 = some (.cells #[.int .i64 x1, .int .i64 x2] 29 (0, 0)) := kblk hb (by first | exact kg5 | (simp [hp_alloc, hp_set, hp_drew, hp_drewN, cset_cells, k0, k1, kg5, kg6, ng5g6, mg5g6, n0g5, m0g5, n0g6, m0g6, n1g5, m1g5, n1g6, m1g6]; done)); replace kg6 : hp _ g6 = some (.cells #[.int .i64 y1, .int .i64 y2] 29 (0, 0)) := kblk hb (by first | exact kg6 | (simp [hp_alloc, hp_set, hp_drew, hp_drewN, cset_cells, k0, k1, kg5, kg6, ng5g6, mg5g6, n0g5, m0g5, n0g6, m0g6, n1g5, m1g5, n1g6, m1g6]; done)); replace c0 := kcell k0; replace f0 := kfree k0; replace c1 := kcell k1; replace f1 := kfree k1; replace cg5 := kcell kg5; replace fg5 := kfree kg5; replace cg6 := kcell kg6; replace fg6 := kfree kg6
      go_wp2_with (first | (go_at_call 14; refine (rofx ha.out _).mono ?_; rintro e w1 ⟨rfl, hb⟩; replace HB := below_call (by first | exact HB | (repeat (first | assumption | exact Below.refl _ _ | (refine below_call ?_ (by assumption)) | apply below_alloc | apply below_drew | apply below_drewN | (refine below_set ?_ (by first | (simp; done) | (simp; omega) | omega) _)))) hb; replace k0 : hp _ w.heap.size = some (.cells #[.int .i64 a, .int .i64 b] 29 (0, 0)) := kblk hb (by first | exact k0 | (simp [hp_alloc, hp_set, hp_drew, hp_drewN, cset_cells, k0, k1, kg5, kg6, ng5g6, mg5g6, n0g5, m0g5, n0g6, m0g6, n1g5, m1g5, n1g6, m1g6]; done)); replace k1 : hp _ (w.heap.size + 1) = some (.cells #[.int .i64 c, .int .i64 d] 29 (0, 0)) := kblk hb (by first | exact k1 | (simp [hp_alloc, hp_set, hp_drew, hp_drewN, cset_cells, k0, k1, kg5, kg6, ng5g6, mg5g6, n0g5, m0g5, n0g6, m0g6, n1g5, m1g5, n1g6, m1g6]; done)); replace kg5 : hp _ g5 = some (.cells #[.int .i64 x1, .int .i64 x2] 29 (0, 0)) := kblk hb (by first | exact kg5 | (simp [hp_alloc, hp_set, hp_drew, hp_drewN, cset_cells, k0, k1, kg5, kg6, ng5g6, mg5g6, n0g5, m0g5, n0g6, m0g6, n1g5, m1g5, n1g6, m1g6]; done)); replace kg6 : hp _ g6 = some (.cells #[.int .i64 y1, .int .i64 y2] 29 (0, 0)) := kblk hb (by first | exact kg6 | (simp [hp_alloc, hp_set, hp_drew, hp_drewN, cset_cells, k0, k1, kg5, kg6, ng5g6, mg5g6, n0g5, m0g5, n0g6, m0g6, n1g5, m1g5, n1g6, m1g6]; done)); replace c0 := kcell k0; replace f0 := kfree k0; replace c1 := kcell k1; replace f1 := kfree k1; replace cg5 := kcell kg5; replace fg5 := kfree kg5; replace cg6 := kcell kg6; replace fg6 := kfree kg6) | (go_at_call 14; refine (rofx hc.out _).mono ?_; rintro e w1 ⟨rfl, hb⟩; replace HB := below_call (by first | exact HB | (repeat (first | assumption | exact Below.refl _ _ | (refine below_call ?_ (by assumption)) | apply below_alloc | apply below_drew | apply below_drewN | (refine below_set ?_ (by first | (simp; done) | (simp; omega) | omega) _)))) hb; replace k0 : hp _ w.heap.size = some (.cells #[.int .i64 a, .int .i64 b] 29 (0, 0)) := kblk hb (by first | exact k0 | (simp [hp_alloc, hp_set, hp_drew, hp_drewN, cset_cells, k0, k1, kg5, kg6, ng5g6, mg5g6, n0g5, m0g5, n0g6, m0g6, n1g5, m1g5, n1g6, m1g6]; done)); replace k1 : hp _ (w.heap.size + 1) = some (.cells #[.int .i64 c, .int .i64 d] 29 (0, 0)) := kblk hb (by first | exact k1 | (simp [hp_alloc, hp_set, hp_drew, hp_drewN, cset_cells, k0, k1, kg5, kg6, ng5g6, mg5g6, n0g5, m0g5, n0g6, m0g6, n1g5, m1g5, n1g6, m1g6]; done)); replace kg5 : hp _ g5 = some (.cells #[.int .i64 x1, .int .i64 x2] 29 (0, 0)) := kblk hb (by first | exact kg5 | (simp [hp_alloc, hp_set, hp_drew, hp_drewN, cset_cells, k0, k1, kg5, kg6, ng5g6, mg5g6, n0g5, m0g5, n0g6, m0g6, n1g5, m1g5, n1g6, m1g6]; done)); replace kg6 : hp _ g6 = some (.cells #[.int .i64 y1, .int .i64 y2] 29 (0, 0)) := kblk hb (by first | exact kg6 | (simp [hp_alloc, hp_set, hp_drew, hp_drewN, cset_cells, k0, k1, kg5, kg6, ng5g6, mg5g6, n0g5, m0g5, n0g6, m0g6, n1g5, m1g5, n1g6, m1g6]; done)); replace c0 := kcell k0; replace f0 := kfree k0; replace c1 := kcell k1; replace f1 := kfree k1; replace cg5 := kcell kg5; replace fg5 := kfree kg5; replace cg6 := kcell kg6; replace fg6 := kfree kg6))
      all_goals (go_ret; exact ⟨by first | rfl | (simp [*]; done) | (simp [*]; omega), by (repeat (first | assumption | exact Below.refl _ _ | (refine below_call ?_ (by assumption)) | apply below_alloc | apply below_drew | apply below_drewN | (refine below_set ?_ (by first | (simp; done) | (simp; omega) | omega) _)))⟩)

theorem rcompare (a b c d : Int) (w : World) : Calls Try.prog 41 #[.agg #[.int .i64 a, .int .i64 b], .agg #[.int .i64 c, .int .i64 d]] w fun e w' => e = .returned (.int .i64 (rcompS a b c d)) ∧ Below w.heap.size w w' :=
  rcompx a b c d (ofS a b).1 (ofS a b).2 (ofS c d).1 (ofS c d).2 rfl rfl w

set_option maxHeartbeats 2000000 in
theorem lof (a b : Int) (w : World) :
    Calls Try.prog 11 #[.agg #[.int .i64 a, .int .i64 b]] w fun e w' => e = .returned (.agg #[.int .i64 a, .int .i64 b]) ∧ Below w.heap.size w w' := by
  go_enter Try.func11, Try.ntmps11
  go_upto_region 1 with fail
  refine Ph.at_world ?_; intro W1 hW
  have q0 : hp W1 w.heap.size = some (.cells #[.int .i64 a, .int .i64 b] 23 (0, 0)) := by rw [hW]; simp [hp_alloc, hp_set, hp_drew, hp_drewN, cset_cells]
  have qr : hp W1 (w.heap.size + 1) = some (.cells #[.int .i64 0, .int .i64 0] 25 (0, 0)) := by rw [hW]; simp [hp_alloc, hp_set, hp_drew, hp_drewN, cset_cells]
  have HB : Below w.heap.size w W1 := by rw [hW]; (repeat (first | assumption | exact Below.refl _ _ | (refine below_call ?_ (by assumption)) | apply below_alloc | apply below_drew | apply below_drewN | (refine below_set ?_ (by first | (simp; done) | (simp; omega) | omega) _)))
  clear hW
  have k0 := q0; clear q0; have c0 := kcell k0; have f0 := kfree k0
  have kr := qr; clear qr; have cr := kcell kr; have fr := kfree kr
  go_wp2_with fail
  all_goals try go_wp2
  all_goals refine bodyPost_ret (v := .agg #[.int .i64 a, .int .i64 b]) (by simp [results, Try.results11, go_sem, ofS, *]) rfl ⟨?_, by (repeat (first | assumption | exact Below.refl _ _ | (refine below_call ?_ (by assumption)) | apply below_alloc | apply below_drew | apply below_drewN | (refine below_set ?_ (by first | (simp; done) | (simp; omega) | omega) _)))⟩
  all_goals (first | rfl | (simp [ofS, *]; done))

set_option maxHeartbeats 2000000 in
theorem lref (a b : Int) (w : World) :
    Calls Try.prog 17 #[.agg #[.int .i64 a, .int .i64 b]] w fun e w' => e = .returned (.agg #[.int .i64 a, .int .i64 b]) ∧ Below w.heap.size w w' := by
  go_enter Try.func17, Try.ntmps17
  go_upto_region 1 with fail
  refine Ph.at_world ?_; intro W1 hW
  have q0 : hp W1 w.heap.size = some (.cells #[.int .i64 a, .int .i64 b] 23 (0, 0)) := by rw [hW]; simp [hp_alloc, hp_set, hp_drew, hp_drewN, cset_cells]
  have qr : hp W1 (w.heap.size + 1) = some (.cells #[.int .i64 0, .int .i64 0] 29 (0, 0)) := by rw [hW]; simp [hp_alloc, hp_set, hp_drew, hp_drewN, cset_cells]
  have HB : Below w.heap.size w W1 := by rw [hW]; (repeat (first | assumption | exact Below.refl _ _ | (refine below_call ?_ (by assumption)) | apply below_alloc | apply below_drew | apply below_drewN | (refine below_set ?_ (by first | (simp; done) | (simp; omega) | omega) _)))
  clear hW
  have k0 := q0; clear q0; have c0 := kcell k0; have f0 := kfree k0
  have kr := qr; clear qr; have cr := kcell kr; have fr := kfree kr
  go_wp2_with fail
  all_goals try go_wp2
  all_goals refine bodyPost_ret (v := .agg #[.int .i64 a, .int .i64 b]) (by simp [results, Try.results17, go_sem, ofS, *]) rfl ⟨?_, by (repeat (first | assumption | exact Below.refl _ _ | (refine below_call ?_ (by assumption)) | apply below_alloc | apply below_drew | apply below_drewN | (refine below_set ?_ (by first | (simp; done) | (simp; omega) | omega) _)))⟩
  all_goals (first | rfl | (simp [ofS, *]; done))

set_option maxHeartbeats 2000000 in
theorem lsame (a b c d : Int) (w : World) :
    Calls Try.prog 12 #[.agg #[.int .i64 a, .int .i64 b], .agg #[.int .i64 c, .int .i64 d]] w fun e w' => e = .returned (.bool ((a == c) && (b == d))) ∧ Below w.heap.size w w' := by
  cases h0 : a == c
  · skip
    go_enter Try.func12, Try.ntmps12
    go_upto_region 1 with fail
    refine Ph.at_world ?_; intro W1 hW
    have q0 : hp W1 w.heap.size = some (.cells #[.int .i64 a, .int .i64 b] 25 (0, 0)) := by rw [hW]; simp [hp_alloc, hp_set, hp_drew, hp_drewN, cset_cells]
    have q1 : hp W1 (w.heap.size + 1) = some (.cells #[.int .i64 c, .int .i64 d] 29 (0, 0)) := by rw [hW]; simp [hp_alloc, hp_set, hp_drew, hp_drewN, cset_cells]
    have HB : Below w.heap.size w W1 := by rw [hW]; (repeat (first | assumption | exact Below.refl _ _ | (refine below_call ?_ (by assumption)) | apply below_alloc | apply below_drew | apply below_drewN | (refine below_set ?_ (by first | (simp; done) | (simp; omega) | omega) _)))
    clear hW
    have k0 := q0; clear q0; have c0 := kcell k0; have f0 := kfree k0
    have k1 := q1; clear q1; have c1 := kcell k1; have f1 := kfree k1
    go_wp2_with fail
    all_goals (go_ret; exact ⟨by first | rfl | (simp [ofS, *]; done) | (simp [ofS]; omega) | (simp [ofS, *]; omega), by (repeat (first | assumption | exact Below.refl _ _ | (refine below_call ?_ (by assumption)) | apply below_alloc | apply below_drew | apply below_drewN | (refine below_set ?_ (by first | (simp; done) | (simp; omega) | omega) _)))⟩)
  · skip
    go_enter Try.func12, Try.ntmps12
    go_upto_region 1 with fail
    refine Ph.at_world ?_; intro W1 hW
    have q0 : hp W1 w.heap.size = some (.cells #[.int .i64 a, .int .i64 b] 25 (0, 0)) := by rw [hW]; simp [hp_alloc, hp_set, hp_drew, hp_drewN, cset_cells]
    have q1 : hp W1 (w.heap.size + 1) = some (.cells #[.int .i64 c, .int .i64 d] 29 (0, 0)) := by rw [hW]; simp [hp_alloc, hp_set, hp_drew, hp_drewN, cset_cells]
    have HB : Below w.heap.size w W1 := by rw [hW]; (repeat (first | assumption | exact Below.refl _ _ | (refine below_call ?_ (by assumption)) | apply below_alloc | apply below_drew | apply below_drewN | (refine below_set ?_ (by first | (simp; done) | (simp; omega) | omega) _)))
    clear hW
    have k0 := q0; clear q0; have c0 := kcell k0; have f0 := kfree k0
    have k1 := q1; clear q1; have c1 := kcell k1; have f1 := kfree k1
    go_wp2_with fail
    all_goals (go_ret; exact ⟨by first | rfl | (simp [ofS, *]; done) | (simp [ofS]; omega) | (simp [ofS, *]; omega), by (repeat (first | assumption | exact Below.refl _ _ | (refine below_call ?_ (by assumption)) | apply below_alloc | apply below_drew | apply below_drewN | (refine below_set ?_ (by first | (simp; done) | (simp; omega) | omega) _)))⟩)

theorem of37 (w : World) : Calls Try.prog 13 #[.int .i64 3, .int .i64 7] w fun e w' => e = .returned (.agg #[.int .i64 3, .int .i64 7]) ∧ Below w.heap.size w w' := of64 3 7 w

theorem of59 (w : World) : Calls Try.prog 13 #[.int .i64 5, .int .i64 9] w fun e w' => e = .returned (.agg #[.int .i64 5, .int .i64 9]) ∧ Below w.heap.size w w' := of64 5 9 w

theorem has3 (w : World) : Calls Try.prog 18 #[.agg #[.int .i64 3, .int .i64 7], .int .i64 3] w fun e w' => e = .returned (.bool true) ∧ Below w.heap.size w w' := has64 3 7 3 w

theorem has7 (w : World) : Calls Try.prog 18 #[.agg #[.int .i64 3, .int .i64 7], .int .i64 7] w fun e w' => e = .returned (.bool false) ∧ Below w.heap.size w w' := has64 3 7 7 w

theorem meet0 (w : World) : Calls Try.prog 32 #[.agg #[.int .i64 3, .int .i64 7], .agg #[.int .i64 5, .int .i64 9]] w fun e w' => e = .returned (.agg #[.int .i64 5, .int .i64 7]) ∧ Below w.heap.size w w' := meet64 3 7 5 9 w

theorem comp0 (w : World) : Calls Try.prog 40 #[.agg #[.int .i64 5, .int .i64 9], .agg #[.int .i64 3, .int .i64 7]] w fun e w' => e = .returned (.int .i64 1) ∧ Below w.heap.size w w' := compare64 5 9 3 7 w

set_option maxHeartbeats 2000000 in
theorem fixed_true  (w : World) :
    Calls Try.prog 10 #[] w fun e w' => e = .returned (.bool true) ∧ Below w.heap.size w w' := by
  go_enter Try.func10, Try.ntmps10
  go_upto_region 1 with fail
  refine Ph.at_world ?_; intro W1 hW
  have HB : Below w.heap.size w W1 := by rw [hW]; (repeat (first | assumption | exact Below.refl _ _ | (refine below_call ?_ (by assumption)) | apply below_alloc | apply below_drew | apply below_drewN | (refine below_set ?_ (by first | (simp; done) | (simp; omega) | omega) _)))
  clear hW
  go_wp2_with fail
  go_at_call 13; refine Ph.at_callw ?_; intro W2 hW
  have HB' : Below w.heap.size w W2 := by rw [hW]; (repeat (first | assumption | exact Below.refl _ _ | (refine below_call ?_ (by assumption)) | apply below_alloc | apply below_drew | apply below_drewN | (refine below_set ?_ (by first | (simp; done) | (simp; omega) | omega) _)))
  replace HB := HB'; clear HB'
  clear hW
  refine (of37 _).mono ?_; rintro e v1 ⟨rfl, hb⟩; replace HB := below_call (by first | exact HB | (repeat (first | assumption | exact Below.refl _ _ | (refine below_call ?_ (by assumption)) | apply below_alloc | apply below_drew | apply below_drewN | (refine below_set ?_ (by first | (simp; done) | (simp; omega) | omega) _)))) hb
  go_wp2_with fail
  go_at_call 13; refine Ph.at_callw ?_; intro W3 hW
  have HB' : Below w.heap.size w W3 := by rw [hW]; (repeat (first | assumption | exact Below.refl _ _ | (refine below_call ?_ (by assumption)) | apply below_alloc | apply below_drew | apply below_drewN | (refine below_set ?_ (by first | (simp; done) | (simp; omega) | omega) _)))
  replace HB := HB'; clear HB'
  clear hW
  refine (of59 _).mono ?_; rintro e v2 ⟨rfl, hb⟩; replace HB := below_call (by first | exact HB | (repeat (first | assumption | exact Below.refl _ _ | (refine below_call ?_ (by assumption)) | apply below_alloc | apply below_drew | apply below_drewN | (refine below_set ?_ (by first | (simp; done) | (simp; omega) | omega) _)))) hb
  go_wp2_with fail
  go_at_call 18; refine Ph.at_callw ?_; intro W4 hW
  have q1 : hp W4 v2.heap.size = some (.cells #[.int .i64 3, .int .i64 7] 25 (0, 0)) := by rw [hW]; simp [hp_alloc, hp_set, hp_drew, hp_drewN, cset_cells]
  have q2 : hp W4 (v2.heap.size + 1) = some (.cells #[.int .i64 5, .int .i64 9] 25 (0, 0)) := by rw [hW]; simp [hp_alloc, hp_set, hp_drew, hp_drewN, cset_cells]
  have HB' : Below w.heap.size w W4 := by rw [hW]; (repeat (first | assumption | exact Below.refl _ _ | (refine below_call ?_ (by assumption)) | apply below_alloc | apply below_drew | apply below_drewN | (refine below_set ?_ (by first | (simp; done) | (simp; omega) | omega) _)))
  replace HB := HB'; clear HB'
  clear hW
  have k1 := q1; clear q1; have c1 := kcell k1; have f1 := kfree k1
  have k2 := q2; clear q2; have c2 := kcell k2; have f2 := kfree k2
  refine (has3 _).mono ?_; rintro e v3 ⟨rfl, hb⟩; replace HB := below_call (by first | exact HB | (repeat (first | assumption | exact Below.refl _ _ | (refine below_call ?_ (by assumption)) | apply below_alloc | apply below_drew | apply below_drewN | (refine below_set ?_ (by first | (simp; done) | (simp; omega) | omega) _)))) hb; replace k1 : hp _ v2.heap.size = some (.cells #[.int .i64 3, .int .i64 7] 25 (0, 0)) := kblk hb (by first | exact k1 | (simp [hp_alloc, hp_set, hp_drew, hp_drewN, cset_cells, k1, k2]; done)); replace k2 : hp _ (v2.heap.size + 1) = some (.cells #[.int .i64 5, .int .i64 9] 25 (0, 0)) := kblk hb (by first | exact k2 | (simp [hp_alloc, hp_set, hp_drew, hp_drewN, cset_cells, k1, k2]; done)); replace c1 := kcell k1; replace f1 := kfree k1; replace c2 := kcell k2; replace f2 := kfree k2
  go_wp2_with fail
  go_at_call 18; refine Ph.at_callw ?_; intro W5 hW
  have q1 : hp W5 v2.heap.size = some (.cells #[.int .i64 3, .int .i64 7] 25 (0, 0)) := by rw [hW]; simp [hp_alloc, hp_set, hp_drew, hp_drewN, cset_cells, k1, k2]
  have q2 : hp W5 (v2.heap.size + 1) = some (.cells #[.int .i64 5, .int .i64 9] 25 (0, 0)) := by rw [hW]; simp [hp_alloc, hp_set, hp_drew, hp_drewN, cset_cells, k1, k2]
  have HB' : Below w.heap.size w W5 := by rw [hW]; (repeat (first | assumption | exact Below.refl _ _ | (refine below_call ?_ (by assumption)) | apply below_alloc | apply below_drew | apply below_drewN | (refine below_set ?_ (by first | (simp; done) | (simp; omega) | omega) _)))
  replace HB := HB'; clear HB'
  clear hW
  clear k1 c1 f1
  clear k2 c2 f2
  have k1 := q1; clear q1; have c1 := kcell k1; have f1 := kfree k1
  have k2 := q2; clear q2; have c2 := kcell k2; have f2 := kfree k2
  refine (has7 _).mono ?_; rintro e v4 ⟨rfl, hb⟩; replace HB := below_call (by first | exact HB | (repeat (first | assumption | exact Below.refl _ _ | (refine below_call ?_ (by assumption)) | apply below_alloc | apply below_drew | apply below_drewN | (refine below_set ?_ (by first | (simp; done) | (simp; omega) | omega) _)))) hb; replace k1 : hp _ v2.heap.size = some (.cells #[.int .i64 3, .int .i64 7] 25 (0, 0)) := kblk hb (by first | exact k1 | (simp [hp_alloc, hp_set, hp_drew, hp_drewN, cset_cells, k1, k2]; done)); replace k2 : hp _ (v2.heap.size + 1) = some (.cells #[.int .i64 5, .int .i64 9] 25 (0, 0)) := kblk hb (by first | exact k2 | (simp [hp_alloc, hp_set, hp_drew, hp_drewN, cset_cells, k1, k2]; done)); replace c1 := kcell k1; replace f1 := kfree k1; replace c2 := kcell k2; replace f2 := kfree k2
  go_wp2_with fail
  go_at_call 32; refine Ph.at_callw ?_; intro W6 hW
  have q1 : hp W6 v2.heap.size = some (.cells #[.int .i64 3, .int .i64 7] 25 (0, 0)) := by rw [hW]; simp [hp_alloc, hp_set, hp_drew, hp_drewN, cset_cells, k1, k2]
  have q2 : hp W6 (v2.heap.size + 1) = some (.cells #[.int .i64 5, .int .i64 9] 25 (0, 0)) := by rw [hW]; simp [hp_alloc, hp_set, hp_drew, hp_drewN, cset_cells, k1, k2]
  have HB' : Below w.heap.size w W6 := by rw [hW]; (repeat (first | assumption | exact Below.refl _ _ | (refine below_call ?_ (by assumption)) | apply below_alloc | apply below_drew | apply below_drewN | (refine below_set ?_ (by first | (simp; done) | (simp; omega) | omega) _)))
  replace HB := HB'; clear HB'
  clear hW
  clear k1 c1 f1
  clear k2 c2 f2
  have k1 := q1; clear q1; have c1 := kcell k1; have f1 := kfree k1
  have k2 := q2; clear q2; have c2 := kcell k2; have f2 := kfree k2
  refine (meet0 _).mono ?_; rintro e v5 ⟨rfl, hb⟩; replace HB := below_call (by first | exact HB | (repeat (first | assumption | exact Below.refl _ _ | (refine below_call ?_ (by assumption)) | apply below_alloc | apply below_drew | apply below_drewN | (refine below_set ?_ (by first | (simp; done) | (simp; omega) | omega) _)))) hb; replace k1 : hp _ v2.heap.size = some (.cells #[.int .i64 3, .int .i64 7] 25 (0, 0)) := kblk hb (by first | exact k1 | (simp [hp_alloc, hp_set, hp_drew, hp_drewN, cset_cells, k1, k2]; done)); replace k2 : hp _ (v2.heap.size + 1) = some (.cells #[.int .i64 5, .int .i64 9] 25 (0, 0)) := kblk hb (by first | exact k2 | (simp [hp_alloc, hp_set, hp_drew, hp_drewN, cset_cells, k1, k2]; done)); replace c1 := kcell k1; replace f1 := kfree k1; replace c2 := kcell k2; replace f2 := kfree k2
  go_wp2_with fail
  go_at_call 40; refine Ph.at_callw ?_; intro W7 hW
  have q1 : hp W7 v2.heap.size = some (.cells #[.int .i64 3, .int .i64 7] 25 (0, 0)) := by rw [hW]; simp [hp_alloc, hp_set, hp_drew, hp_drewN, cset_cells, k1, k2]
  have q2 : hp W7 (v2.heap.size + 1) = some (.cells #[.int .i64 5, .int .i64 9] 25 (0, 0)) := by rw [hW]; simp [hp_alloc, hp_set, hp_drew, hp_drewN, cset_cells, k1, k2]
  have HB' : Below w.heap.size w W7 := by rw [hW]; (repeat (first | assumption | exact Below.refl _ _ | (refine below_call ?_ (by assumption)) | apply below_alloc | apply below_drew | apply below_drewN | (refine below_set ?_ (by first | (simp; done) | (simp; omega) | omega) _)))
  replace HB := HB'; clear HB'
  clear hW
  clear k1 c1 f1
  clear k2 c2 f2
  have k1 := q1; clear q1; have c1 := kcell k1; have f1 := kfree k1
  have k2 := q2; clear q2; have c2 := kcell k2; have f2 := kfree k2
  refine (comp0 _).mono ?_; rintro e v6 ⟨rfl, hb⟩; replace HB := below_call (by first | exact HB | (repeat (first | assumption | exact Below.refl _ _ | (refine below_call ?_ (by assumption)) | apply below_alloc | apply below_drew | apply below_drewN | (refine below_set ?_ (by first | (simp; done) | (simp; omega) | omega) _)))) hb; replace k1 : hp _ v2.heap.size = some (.cells #[.int .i64 3, .int .i64 7] 25 (0, 0)) := kblk hb (by first | exact k1 | (simp [hp_alloc, hp_set, hp_drew, hp_drewN, cset_cells, k1, k2]; done)); replace k2 : hp _ (v2.heap.size + 1) = some (.cells #[.int .i64 5, .int .i64 9] 25 (0, 0)) := kblk hb (by first | exact k2 | (simp [hp_alloc, hp_set, hp_drew, hp_drewN, cset_cells, k1, k2]; done)); replace c1 := kcell k1; replace f1 := kfree k1; replace c2 := kcell k2; replace f2 := kfree k2
  go_wp2_with fail
  all_goals (go_ret; exact ⟨by first | rfl | (simp [ofS, *]; done) | (simp [ofS]; omega) | (simp [ofS, *]; omega), by (repeat (first | assumption | exact Below.refl _ _ | (refine below_call ?_ (by assumption)) | apply below_alloc | apply below_drew | apply below_drewN | (refine below_set ?_ (by first | (simp; done) | (simp; omega) | omega) _)))⟩)

end Go.Proofs.Ytplhbnehlkoedaa
