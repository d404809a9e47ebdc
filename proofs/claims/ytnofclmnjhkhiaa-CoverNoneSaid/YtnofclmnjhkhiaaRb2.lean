/- The reference's Meet, Meets, Touches. -/
import Derived.Test.YtnofclmnjhkhiaaRb
import Derived.WalkKit
import Derived.WalkLawsBesides
import Derived.WalkSpells
import Derived.Below
import Derived.Deep.RegionHeld3
import Derived.Deep.QuietTactic
import Derived.BigQuiet
import Derived.Deep.DeepCutAuto
import Derived.Deep.DeepMust
import Derived.KernelRfl
import Derived.Lib.Hide
import Derived.Outline
import Derived.RegionTactic
import Derived.StillTailTactics
namespace Go.Proofs.Ytnofclmnjhkhiaa
open Go.RowKit Go.Cl Go.Cv
set_option maxRecDepth 100000
set_option linter.unusedVariables false
set_option linter.unusedSimpArgs false
theorem c_rmeet (a b a' b' : Int) (w : World) : Calls Try.prog 51 #[.agg #[.int .i64 a, .int .i64 b], .agg #[.int .i64 a', .int .i64 b']] w fun e w' => e = .returned (.agg #[.int .i64 (ofS (max a a') (min b b')).1, .int .i64 (ofS (max a a') (min b b')).2]) ∧ Below w.heap.size w w' := by
  by_cases h : a < b
  · by_cases h' : a' < b'
    · by_cases q1 : a < a'
      · by_cases q2 : b' < b
        · have hmx : max a a' = a' := by omega
          have hmn : min b b' = b' := by omega
          rw [hmx, hmn]
          clear hmx hmn
          have HO := Lib.hid (c_rof a' b')
          generalize ofS a' b' = l at *
          obtain ⟨l1, l2⟩ := l
          have he1 : ∀ w, Calls Try.prog 59 #[.agg #[.int .i64 a, .int .i64 b]] w fun e w' => e = .returned (.bool false) ∧ Below w.heap.size w w' := fun w => by have := c_rempty a b w; rw [decide_eq_false (show ¬ b ≤ a by omega)] at this; exact this
          have HE1 := Lib.hid he1
          clear he1
          have he2 : ∀ w, Calls Try.prog 59 #[.agg #[.int .i64 a', .int .i64 b']] w fun e w' => e = .returned (.bool false) ∧ Below w.heap.size w w' := fun w => by have := c_rempty a' b' w; rw [decide_eq_false (show ¬ b' ≤ a' by omega)] at this; exact this
          have HE2 := Lib.hid he2
          clear he2
          clear h h'
          go_enter Try.func51, Try.ntmps51
          go_upto_region 1 with fail
          refine Ph.at_world ?_; intro W1 hW
          have k2 : hp W1 w.heap.size = some (.cells #[.int .i64 a, .int .i64 b] 53 (0, 0)) := by rw [hW]; simp [hpA, nn1, nn2]
          have k3 : hp W1 (w.heap.size + 1) = some (.cells #[.int .i64 a', .int .i64 b'] 53 (0, 0)) := by rw [hW]; simp [hpA, nn1, nn2]
          have k4 : hp W1 (w.heap.size + 2) = some (.cells #[.int .i64 0, .int .i64 0] 53 (0, 0)) := by rw [hW]; simp [hpA, nn1, nn2]
          have HB := Lib.hid (show Below w.heap.size w W1 by rw [hW]; exact below_alloc (below_alloc (below_alloc (Below.refl _ _) _) _) _)
          clear hW
          have K := Lib.hid (And.intro k2 (And.intro k3 k4))
          have c2 := hp_cell k2
          have c3 := hp_cell k3
          clear k2 k3 k4
          have n1 : w.heap.size ≤ w.heap.size + 2 := by omega
          go_upto_region 3 with (first | (go_at_call 59; first | ((with_reducible refine (HE1.out _).mono ?_); rintro e w1 ⟨rfl, hb⟩; have HB1 := Lib.hid (below_call HB.out hb); have K1 := Lib.hid (And.intro (hp_below hb K.out.1) (And.intro (hp_below hb K.out.2.1) (hp_below hb K.out.2.2))); replace c2 := hp_cell (hp_below hb K.out.1); replace c3 := hp_cell (hp_below hb K.out.2.1); clear hb) | ((with_reducible refine (HE2.out _).mono ?_); rintro e w2 ⟨rfl, hb⟩; have HB2 := Lib.hid (below_call HB1.out hb); have K2 := Lib.hid (And.intro (hp_below hb K1.out.1) (And.intro (hp_below hb K1.out.2.1) (hp_below hb K1.out.2.2))); replace c2 := hp_cell (hp_below hb K1.out.1); replace c3 := hp_cell (hp_below hb K1.out.2.1); clear hb)))
          clear c2 c3
          refine Ph.region_at (by kernel_rfl) ?_
          refine Ph.at_quiet 6 (by kernel_rfl) ?_
          simp only [List.take_succ_cons, List.take_zero, List.drop_succ_cons, List.drop_zero]
          repeat ((first | (apply Ph.wpPh_g; (focus (intro wx hS0; have hz := below_call (below_drew (Below.refl w2.heap.size w2)) hS0; have c2 := hp_cell (hp_below hz K2.out.1); have c3 := hp_cell (hp_below hz K2.out.2.1); go_simp; first | exact rfl | exact ⟨rfl, Below.refl _ _⟩)))); simp only [Act.put, List.setIfInBounds_toArray, List.set_cons_zero, List.set_cons_succ])
          refine Ph.wpPh_nil ?_; intro w3 hS
          refine Ph.at_end (by simp) ?_
          have hz := below_call (below_drew (Below.refl w2.heap.size w2)) hS
          have HB3 := Lib.hid (below_call HB2.out hz)
          have K3 := Lib.hid (And.intro (hp_below hz K2.out.1) (And.intro (hp_below hz K2.out.2.1) (hp_below hz K2.out.2.2)))
          have c2 := hp_cell K3.out.1
          have c3 := hp_cell K3.out.2.1
          clear hz hS
          go_wp2_with (go_at_call 65; (with_reducible refine (HO.out _).mono ?_); rintro e w5 ⟨rfl, hb⟩; have hb5 := below_call HB3.out hb; have c4 := hp_cell (hp_below hb K3.out.2.2); have f4 := hp_free (hp_below hb K3.out.2.2); clear hb c2 c3)
          refine bodyPost_ret (v := .agg #[.int .i64 l1, .int .i64 l2]) (by simp [results, Try.results51, go_sem, *]; done) rfl ⟨rfl, by (repeat (first | (with_reducible assumption) | (with_reducible exact Below.refl _ _) | (with_reducible refine below_set ?_ (by first | assumption | (simp; done) | (simp; omega) | omega) _) | (with_reducible apply below_alloc) | (with_reducible apply below_drew) | (with_reducible apply below_drewN) | (with_reducible refine below_call ?_ (by assumption))))⟩
        · have hmx : max a a' = a' := by omega
          have hmn : min b b' = b := by omega
          rw [hmx, hmn]
          clear hmx hmn
          have HO := Lib.hid (c_rof a' b)
          generalize ofS a' b = l at *
          obtain ⟨l1, l2⟩ := l
          have he1 : ∀ w, Calls Try.prog 59 #[.agg #[.int .i64 a, .int .i64 b]] w fun e w' => e = .returned (.bool false) ∧ Below w.heap.size w w' := fun w => by have := c_rempty a b w; rw [decide_eq_false (show ¬ b ≤ a by omega)] at this; exact this
          have HE1 := Lib.hid he1
          clear he1
          have he2 : ∀ w, Calls Try.prog 59 #[.agg #[.int .i64 a', .int .i64 b']] w fun e w' => e = .returned (.bool false) ∧ Below w.heap.size w w' := fun w => by have := c_rempty a' b' w; rw [decide_eq_false (show ¬ b' ≤ a' by omega)] at this; exact this
          have HE2 := Lib.hid he2
          clear he2
          clear h h'
          go_enter Try.func51, Try.ntmps51
          go_upto_region 1 with fail
          refine Ph.at_world ?_; intro W1 hW
          have k2 : hp W1 w.heap.size = some (.cells #[.int .i64 a, .int .i64 b] 53 (0, 0)) := by rw [hW]; simp [hpA, nn1, nn2]
          have k3 : hp W1 (w.heap.size + 1) = some (.cells #[.int .i64 a', .int .i64 b'] 53 (0, 0)) := by rw [hW]; simp [hpA, nn1, nn2]
          have k4 : hp W1 (w.heap.size + 2) = some (.cells #[.int .i64 0, .int .i64 0] 53 (0, 0)) := by rw [hW]; simp [hpA, nn1, nn2]
          have HB := Lib.hid (show Below w.heap.size w W1 by rw [hW]; exact below_alloc (below_alloc (below_alloc (Below.refl _ _) _) _) _)
          clear hW
          have K := Lib.hid (And.intro k2 (And.intro k3 k4))
          have c2 := hp_cell k2
          have c3 := hp_cell k3
          clear k2 k3 k4
          have n1 : w.heap.size ≤ w.heap.size + 2 := by omega
          go_upto_region 3 with (first | (go_at_call 59; first | ((with_reducible refine (HE1.out _).mono ?_); rintro e w1 ⟨rfl, hb⟩; have HB1 := Lib.hid (below_call HB.out hb); have K1 := Lib.hid (And.intro (hp_below hb K.out.1) (And.intro (hp_below hb K.out.2.1) (hp_below hb K.out.2.2))); replace c2 := hp_cell (hp_below hb K.out.1); replace c3 := hp_cell (hp_below hb K.out.2.1); clear hb) | ((with_reducible refine (HE2.out _).mono ?_); rintro e w2 ⟨rfl, hb⟩; have HB2 := Lib.hid (below_call HB1.out hb); have K2 := Lib.hid (And.intro (hp_below hb K1.out.1) (And.intro (hp_below hb K1.out.2.1) (hp_below hb K1.out.2.2))); replace c2 := hp_cell (hp_below hb K1.out.1); replace c3 := hp_cell (hp_below hb K1.out.2.1); clear hb)))
          clear c2 c3
          refine Ph.region_at (by kernel_rfl) ?_
          refine Ph.at_quiet 6 (by kernel_rfl) ?_
          simp only [List.take_succ_cons, List.take_zero, List.drop_succ_cons, List.drop_zero]
          repeat ((first | (apply Ph.wpPh_g; (focus (intro wx hS0; have hz := below_call (below_drew (Below.refl w2.heap.size w2)) hS0; have c2 := hp_cell (hp_below hz K2.out.1); have c3 := hp_cell (hp_below hz K2.out.2.1); go_simp; first | exact rfl | exact ⟨rfl, Below.refl _ _⟩)))); simp only [Act.put, List.setIfInBounds_toArray, List.set_cons_zero, List.set_cons_succ])
          refine Ph.wpPh_nil ?_; intro w3 hS
          refine Ph.at_end (by simp) ?_
          have hz := below_call (below_drew (Below.refl w2.heap.size w2)) hS
          have HB3 := Lib.hid (below_call HB2.out hz)
          have K3 := Lib.hid (And.intro (hp_below hz K2.out.1) (And.intro (hp_below hz K2.out.2.1) (hp_below hz K2.out.2.2)))
          have c2 := hp_cell K3.out.1
          have c3 := hp_cell K3.out.2.1
          clear hz hS
          go_wp2_with (go_at_call 65; (with_reducible refine (HO.out _).mono ?_); rintro e w5 ⟨rfl, hb⟩; have hb5 := below_call HB3.out hb; have c4 := hp_cell (hp_below hb K3.out.2.2); have f4 := hp_free (hp_below hb K3.out.2.2); clear hb c2 c3)
          refine bodyPost_ret (v := .agg #[.int .i64 l1, .int .i64 l2]) (by simp [results, Try.results51, go_sem, *]; done) rfl ⟨rfl, by (repeat (first | (with_reducible assumption) | (with_reducible exact Below.refl _ _) | (with_reducible refine below_set ?_ (by first | assumption | (simp; done) | (simp; omega) | omega) _) | (with_reducible apply below_alloc) | (with_reducible apply below_drew) | (with_reducible apply below_drewN) | (with_reducible refine below_call ?_ (by assumption))))⟩
      · by_cases q2 : b' < b
        · have hmx : max a a' = a := by omega
          have hmn : min b b' = b' := by omega
          rw [hmx, hmn]
          clear hmx hmn
          have HO := Lib.hid (c_rof a b')
          generalize ofS a b' = l at *
          obtain ⟨l1, l2⟩ := l
          have he1 : ∀ w, Calls Try.prog 59 #[.agg #[.int .i64 a, .int .i64 b]] w fun e w' => e = .returned (.bool false) ∧ Below w.heap.size w w' := fun w => by have := c_rempty a b w; rw [decide_eq_false (show ¬ b ≤ a by omega)] at this; exact this
          have HE1 := Lib.hid he1
          clear he1
          have he2 : ∀ w, Calls Try.prog 59 #[.agg #[.int .i64 a', .int .i64 b']] w fun e w' => e = .returned (.bool false) ∧ Below w.heap.size w w' := fun w => by have := c_rempty a' b' w; rw [decide_eq_false (show ¬ b' ≤ a' by omega)] at this; exact this
          have HE2 := Lib.hid he2
          clear he2
          clear h h'
          go_enter Try.func51, Try.ntmps51
          go_upto_region 1 with fail
          refine Ph.at_world ?_; intro W1 hW
          have k2 : hp W1 w.heap.size = some (.cells #[.int .i64 a, .int .i64 b] 53 (0, 0)) := by rw [hW]; simp [hpA, nn1, nn2]
          have k3 : hp W1 (w.heap.size + 1) = some (.cells #[.int .i64 a', .int .i64 b'] 53 (0, 0)) := by rw [hW]; simp [hpA, nn1, nn2]
          have k4 : hp W1 (w.heap.size + 2) = some (.cells #[.int .i64 0, .int .i64 0] 53 (0, 0)) := by rw [hW]; simp [hpA, nn1, nn2]
          have HB := Lib.hid (show Below w.heap.size w W1 by rw [hW]; exact below_alloc (below_alloc (below_alloc (Below.refl _ _) _) _) _)
          clear hW
          have K := Lib.hid (And.intro k2 (And.intro k3 k4))
          have c2 := hp_cell k2
          have c3 := hp_cell k3
          clear k2 k3 k4
          have n1 : w.heap.size ≤ w.heap.size + 2 := by omega
          go_upto_region 3 with (first | (go_at_call 59; first | ((with_reducible refine (HE1.out _).mono ?_); rintro e w1 ⟨rfl, hb⟩; have HB1 := Lib.hid (below_call HB.out hb); have K1 := Lib.hid (And.intro (hp_below hb K.out.1) (And.intro (hp_below hb K.out.2.1) (hp_below hb K.out.2.2))); replace c2 := hp_cell (hp_below hb K.out.1); replace c3 := hp_cell (hp_below hb K.out.2.1); clear hb) | ((with_reducible refine (HE2.out _).mono ?_); rintro e w2 ⟨rfl, hb⟩; have HB2 := Lib.hid (below_call HB1.out hb); have K2 := Lib.hid (And.intro (hp_below hb K1.out.1) (And.intro (hp_below hb K1.out.2.1) (hp_below hb K1.out.2.2))); replace c2 := hp_cell (hp_below hb K1.out.1); replace c3 := hp_cell (hp_below hb K1.out.2.1); clear hb)))
          clear c2 c3
          refine Ph.region_at (by kernel_rfl) ?_
          refine Ph.at_quiet 6 (by kernel_rfl) ?_
          simp only [List.take_succ_cons, List.take_zero, List.drop_succ_cons, List.drop_zero]
          repeat ((first | (apply Ph.wpPh_g; (focus (intro wx hS0; have hz := below_call (below_drew (Below.refl w2.heap.size w2)) hS0; have c2 := hp_cell (hp_below hz K2.out.1); have c3 := hp_cell (hp_below hz K2.out.2.1); go_simp; first | exact rfl | exact ⟨rfl, Below.refl _ _⟩)))); simp only [Act.put, List.setIfInBounds_toArray, List.set_cons_zero, List.set_cons_succ])
          refine Ph.wpPh_nil ?_; intro w3 hS
          refine Ph.at_end (by simp) ?_
          have hz := below_call (below_drew (Below.refl w2.heap.size w2)) hS
          have HB3 := Lib.hid (below_call HB2.out hz)
          have K3 := Lib.hid (And.intro (hp_below hz K2.out.1) (And.intro (hp_below hz K2.out.2.1) (hp_below hz K2.out.2.2)))
          have c2 := hp_cell K3.out.1
          have c3 := hp_cell K3.out.2.1
          clear hz hS
          go_wp2_with (go_at_call 65; (with_reducible refine (HO.out _).mono ?_); rintro e w5 ⟨rfl, hb⟩; have hb5 := below_call HB3.out hb; have c4 := hp_cell (hp_below hb K3.out.2.2); have f4 := hp_free (hp_below hb K3.out.2.2); clear hb c2 c3)
          refine bodyPost_ret (v := .agg #[.int .i64 l1, .int .i64 l2]) (by simp [results, Try.results51, go_sem, *]; done) rfl ⟨rfl, by (repeat (first | (with_reducible assumption) | (with_reducible exact Below.refl _ _) | (with_reducible refine below_set ?_ (by first | assumption | (simp; done) | (simp; omega) | omega) _) | (with_reducible apply below_alloc) | (with_reducible apply below_drew) | (with_reducible apply below_drewN) | (with_reducible refine below_call ?_ (by assumption))))⟩
        · have hmx : max a a' = a := by omega
          have hmn : min b b' = b := by omega
          rw [hmx, hmn]
          clear hmx hmn
          have HO := Lib.hid (c_rof a b)
          generalize ofS a b = l at *
          obtain ⟨l1, l2⟩ := l
          have he1 : ∀ w, Calls Try.prog 59 #[.agg #[.int .i64 a, .int .i64 b]] w fun e w' => e = .returned (.bool false) ∧ Below w.heap.size w w' := fun w => by have := c_rempty a b w; rw [decide_eq_false (show ¬ b ≤ a by omega)] at this; exact this
          have HE1 := Lib.hid he1
          clear he1
          have he2 : ∀ w, Calls Try.prog 59 #[.agg #[.int .i64 a', .int .i64 b']] w fun e w' => e = .returned (.bool false) ∧ Below w.heap.size w w' := fun w => by have := c_rempty a' b' w; rw [decide_eq_false (show ¬ b' ≤ a' by omega)] at this; exact this
          have HE2 := Lib.hid he2
          clear he2
          clear h h'
          go_enter Try.func51, Try.ntmps51
          go_upto_region 1 with fail
          refine Ph.at_world ?_; intro W1 hW
          have k2 : hp W1 w.heap.size = some (.cells #[.int .i64 a, .int .i64 b] 53 (0, 0)) := by rw [hW]; simp [hpA, nn1, nn2]
          have k3 : hp W1 (w.heap.size + 1) = some (.cells #[.int .i64 a', .int .i64 b'] 53 (0, 0)) := by rw [hW]; simp [hpA, nn1, nn2]
          have k4 : hp W1 (w.heap.size + 2) = some (.cells #[.int .i64 0, .int .i64 0] 53 (0, 0)) := by rw [hW]; simp [hpA, nn1, nn2]
          have HB := Lib.hid (show Below w.heap.size w W1 by rw [hW]; exact below_alloc (below_alloc (below_alloc (Below.refl _ _) _) _) _)
          clear hW
          have K := Lib.hid (And.intro k2 (And.intro k3 k4))
          have c2 := hp_cell k2
          have c3 := hp_cell k3
          clear k2 k3 k4
          have n1 : w.heap.size ≤ w.heap.size + 2 := by omega
          go_upto_region 3 with (first | (go_at_call 59; first | ((with_reducible refine (HE1.out _).mono ?_); rintro e w1 ⟨rfl, hb⟩; have HB1 := Lib.hid (below_call HB.out hb); have K1 := Lib.hid (And.intro (hp_below hb K.out.1) (And.intro (hp_below hb K.out.2.1) (hp_below hb K.out.2.2))); replace c2 := hp_cell (hp_below hb K.out.1); replace c3 := hp_cell (hp_below hb K.out.2.1); clear hb) | ((with_reducible refine (HE2.out _).mono ?_); rintro e w2 ⟨rfl, hb⟩; have HB2 := Lib.hid (below_call HB1.out hb); have K2 := Lib.hid (And.intro (hp_below hb K1.out.1) (And.intro (hp_below hb K1.out.2.1) (hp_below hb K1.out.2.2))); replace c2 := hp_cell (hp_below hb K1.out.1); replace c3 := hp_cell (hp_below hb K1.out.2.1); clear hb)))
          clear c2 c3
          refine Ph.region_at (by kernel_rfl) ?_
          refine Ph.at_quiet 6 (by kernel_rfl) ?_
          simp only [List.take_succ_cons, List.take_zero, List.drop_succ_cons, List.drop_zero]
          repeat ((first | (apply Ph.wpPh_g; (focus (intro wx hS0; have hz := below_call (below_drew (Below.refl w2.heap.size w2)) hS0; have c2 := hp_cell (hp_below hz K2.out.1); have c3 := hp_cell (hp_below hz K2.out.2.1); go_simp; first | exact rfl | exact ⟨rfl, Below.refl _ _⟩)))); simp only [Act.put, List.setIfInBounds_toArray, List.set_cons_zero, List.set_cons_succ])
          refine Ph.wpPh_nil ?_; intro w3 hS
          refine Ph.at_end (by simp) ?_
          have hz := below_call (below_drew (Below.refl w2.heap.size w2)) hS
          have HB3 := Lib.hid (below_call HB2.out hz)
          have K3 := Lib.hid (And.intro (hp_below hz K2.out.1) (And.intro (hp_below hz K2.out.2.1) (hp_below hz K2.out.2.2)))
          have c2 := hp_cell K3.out.1
          have c3 := hp_cell K3.out.2.1
          clear hz hS
          go_wp2_with (go_at_call 65; (with_reducible refine (HO.out _).mono ?_); rintro e w5 ⟨rfl, hb⟩; have hb5 := below_call HB3.out hb; have c4 := hp_cell (hp_below hb K3.out.2.2); have f4 := hp_free (hp_below hb K3.out.2.2); clear hb c2 c3)
          refine bodyPost_ret (v := .agg #[.int .i64 l1, .int .i64 l2]) (by simp [results, Try.results51, go_sem, *]; done) rfl ⟨rfl, by (repeat (first | (with_reducible assumption) | (with_reducible exact Below.refl _ _) | (with_reducible refine below_set ?_ (by first | assumption | (simp; done) | (simp; omega) | omega) _) | (with_reducible apply below_alloc) | (with_reducible apply below_drew) | (with_reducible apply below_drewN) | (with_reducible refine below_call ?_ (by assumption))))⟩
    · have hz : ofS (max a a') (min b b') = (0, 0) := by unfold ofS; rw [if_pos (by omega)]
      rw [hz]
      clear hz
      have he1 : ∀ w, Calls Try.prog 59 #[.agg #[.int .i64 a, .int .i64 b]] w fun e w' => e = .returned (.bool false) ∧ Below w.heap.size w w' := fun w => by have := c_rempty a b w; rw [decide_eq_false (show ¬ b ≤ a by omega)] at this; exact this
      have HE1 := Lib.hid he1
      clear he1
      have he2 : ∀ w, Calls Try.prog 59 #[.agg #[.int .i64 a', .int .i64 b']] w fun e w' => e = .returned (.bool true) ∧ Below w.heap.size w w' := fun w => by have := c_rempty a' b' w; rw [decide_eq_true (show b' ≤ a' by omega)] at this; exact this
      have HE2 := Lib.hid he2
      clear he2
      clear h h'
      go_enter Try.func51, Try.ntmps51
      go_upto_region 1 with fail
      refine Ph.at_world ?_; intro W1 hW
      have k2 : hp W1 w.heap.size = some (.cells #[.int .i64 a, .int .i64 b] 53 (0, 0)) := by rw [hW]; simp [hpA, nn1, nn2]
      have k3 : hp W1 (w.heap.size + 1) = some (.cells #[.int .i64 a', .int .i64 b'] 53 (0, 0)) := by rw [hW]; simp [hpA, nn1, nn2]
      have k4 : hp W1 (w.heap.size + 2) = some (.cells #[.int .i64 0, .int .i64 0] 53 (0, 0)) := by rw [hW]; simp [hpA, nn1, nn2]
      have HB := Lib.hid (show Below w.heap.size w W1 by rw [hW]; exact below_alloc (below_alloc (below_alloc (Below.refl _ _) _) _) _)
      clear hW
      have K := Lib.hid (And.intro k2 (And.intro k3 k4))
      have c2 := hp_cell k2
      have c3 := hp_cell k3
      clear k2 k3 k4
      have n1 : w.heap.size ≤ w.heap.size + 2 := by omega
      go_wp2_with (go_at_call 59; first | ((with_reducible refine (HE1.out _).mono ?_); rintro e w1 ⟨rfl, hb⟩; have HB1 := Lib.hid (below_call HB.out hb); have K1 := Lib.hid (And.intro (hp_below hb K.out.1) (And.intro (hp_below hb K.out.2.1) (hp_below hb K.out.2.2))); replace c2 := hp_cell (hp_below hb K.out.1); replace c3 := hp_cell (hp_below hb K.out.2.1); clear hb) | ((with_reducible refine (HE2.out _).mono ?_); rintro e w2 ⟨rfl, hb⟩; have hb2 := below_call HB1.out hb; have c4 := hp_cell (hp_below hb K1.out.2.2); have f4 := hp_free (hp_below hb K1.out.2.2); clear hb c2 c3))
      refine bodyPost_ret (v := .agg #[.int .i64 0, .int .i64 0]) (by simp [results, Try.results51, go_sem, *]; done) rfl ⟨rfl, by (repeat (first | (with_reducible assumption) | (with_reducible exact Below.refl _ _) | (with_reducible refine below_set ?_ (by first | assumption | (simp; done) | (simp; omega) | omega) _) | (with_reducible apply below_alloc) | (with_reducible apply below_drew) | (with_reducible apply below_drewN) | (with_reducible refine below_call ?_ (by assumption))))⟩
  · have hz : ofS (max a a') (min b b') = (0, 0) := by unfold ofS; rw [if_pos (by omega)]
    rw [hz]
    clear hz
    have he1 : ∀ w, Calls Try.prog 59 #[.agg #[.int .i64 a, .int .i64 b]] w fun e w' => e = .returned (.bool true) ∧ Below w.heap.size w w' := fun w => by have := c_rempty a b w; rw [decide_eq_true (show b ≤ a by omega)] at this; exact this
    have HE1 := Lib.hid he1
    clear he1
    clear h
    go_enter Try.func51, Try.ntmps51
    go_upto_region 1 with fail
    refine Ph.at_world ?_; intro W1 hW
    have k2 : hp W1 w.heap.size = some (.cells #[.int .i64 a, .int .i64 b] 53 (0, 0)) := by rw [hW]; simp [hpA, nn1, nn2]
    have k3 : hp W1 (w.heap.size + 1) = some (.cells #[.int .i64 a', .int .i64 b'] 53 (0, 0)) := by rw [hW]; simp [hpA, nn1, nn2]
    have k4 : hp W1 (w.heap.size + 2) = some (.cells #[.int .i64 0, .int .i64 0] 53 (0, 0)) := by rw [hW]; simp [hpA, nn1, nn2]
    have HB := Lib.hid (show Below w.heap.size w W1 by rw [hW]; exact below_alloc (below_alloc (below_alloc (Below.refl _ _) _) _) _)
    clear hW
    have K := Lib.hid (And.intro k2 (And.intro k3 k4))
    have c2 := hp_cell k2
    have c3 := hp_cell k3
    clear k2 k3 k4
    have n1 : w.heap.size ≤ w.heap.size + 2 := by omega
    go_wp2_with (go_at_call 59; ((with_reducible refine (HE1.out _).mono ?_); rintro e w2 ⟨rfl, hb⟩; have hb2 := below_call HB.out hb; have c4 := hp_cell (hp_below hb K.out.2.2); have f4 := hp_free (hp_below hb K.out.2.2); clear hb c2 c3))
    refine bodyPost_ret (v := .agg #[.int .i64 0, .int .i64 0]) (by simp [results, Try.results51, go_sem, *]; done) rfl ⟨rfl, by (repeat (first | (with_reducible assumption) | (with_reducible exact Below.refl _ _) | (with_reducible refine below_set ?_ (by first | assumption | (simp; done) | (simp; omega) | omega) _) | (with_reducible apply below_alloc) | (with_reducible apply below_drew) | (with_reducible apply below_drewN) | (with_reducible refine below_call ?_ (by assumption))))⟩
theorem ofS_emptyD (a b : Int) : decide ((ofS a b).2 ≤ (ofS a b).1) = !decide (a < b) := ofS_empty a b
theorem c_rmeets (a b a' b' : Int) (w : World) : Calls Try.prog 64 #[.agg #[.int .i64 a, .int .i64 b], .agg #[.int .i64 a', .int .i64 b']] w fun e w' => e = .returned (.bool (decide (max a a' < min b b'))) ∧ Below w.heap.size w w' := by
  have hm := c_rmeet a b a' b'
  have hem := fun w => c_rempty (ofS (max a a') (min b b')).1 (ofS (max a a') (min b b')).2 w
  simp only [ofS_empty] at hem
  generalize decide (max a a' < min b b') = dd at *
  generalize ofS (max a a') (min b b') = l at *
  obtain ⟨l1, l2⟩ := l
  have HM := Lib.hid (hm : ∀ w, Calls Try.prog 51 #[.agg #[.int .i64 a, .int .i64 b], .agg #[.int .i64 a', .int .i64 b']] w fun e w' => e = .returned (.agg #[.int .i64 l1, .int .i64 l2]) ∧ Below w.heap.size w w')
  have HEM := Lib.hid (hem : ∀ w, Calls Try.prog 59 #[.agg #[.int .i64 l1, .int .i64 l2]] w fun e w' => e = .returned (.bool (!dd)) ∧ Below w.heap.size w w')
  clear hm hem
  go_enter Try.func64, Try.ntmps64
  go_upto_region 1 with fail
  refine Ph.at_world ?_; intro W1 hW
  have k2 : hp W1 w.heap.size = some (.cells #[.int .i64 a, .int .i64 b] 53 (0, 0)) := by rw [hW]; simp [hpA, nn1, nn2]
  have k3 : hp W1 (w.heap.size + 1) = some (.cells #[.int .i64 a', .int .i64 b'] 53 (0, 0)) := by rw [hW]; simp [hpA, nn1, nn2]
  have HB := Lib.hid (show Below w.heap.size w W1 by rw [hW]; exact below_alloc (below_alloc (Below.refl _ _) _) _)
  clear hW
  have K := Lib.hid (And.intro k2 k3)
  have c2 := hp_cell k2
  have c3 := hp_cell k3
  clear k2 k3
  go_wp2_with (first | (go_at_call 51; (with_reducible refine (HM.out _).mono ?_); rintro e w1 ⟨rfl, hb⟩; have HB1 := Lib.hid (below_call HB.out hb); clear hb c2 c3) | (go_at_call 59; (with_reducible refine (HEM.out _).mono ?_); rintro e w2 ⟨rfl, hb⟩; have HB2 := Lib.hid (below_call HB1.out hb); clear hb))
  go_ret
  exact ⟨by simp, HB2.out⟩
set_option maxHeartbeats 1000000 in
theorem c_rtouch (a b a' b' : Int) (h : a < b) (h' : a' < b') (w : World) : Calls Try.prog 60 #[.agg #[.int .i64 a, .int .i64 b], .agg #[.int .i64 a', .int .i64 b']] w fun e w' => e = .returned (.bool (decide (a ≤ b') && decide (a' ≤ b))) ∧ Below w.heap.size w w' := by
  have he1 : ∀ w, Calls Try.prog 59 #[.agg #[.int .i64 a, .int .i64 b]] w fun e w' => e = .returned (.bool false) ∧ Below w.heap.size w w' := fun w => by have := c_rempty a b w; rw [decide_eq_false (show ¬ b ≤ a by omega)] at this; exact this
  have HE1 := Lib.hid he1
  clear he1
  have he2 : ∀ w, Calls Try.prog 59 #[.agg #[.int .i64 a', .int .i64 b']] w fun e w' => e = .returned (.bool false) ∧ Below w.heap.size w w' := fun w => by have := c_rempty a' b' w; rw [decide_eq_false (show ¬ b' ≤ a' by omega)] at this; exact this
  have HE2 := Lib.hid he2
  clear he2
  have hm := c_rmeets a b a' b'
  by_cases c1 : max a a' < min b b'
  · have hv : (decide (a ≤ b') && decide (a' ≤ b)) = true := by rw [decide_eq_true (show a ≤ b' by omega), decide_eq_true (show a' ≤ b by omega)]; rfl
    rw [hv]
    rw [decide_eq_true c1] at hm
    have HM := Lib.hid hm
    clear hm hv c1 h h'
    go_enter Try.func60, Try.ntmps60
    go_upto_region 1 with fail
    refine Ph.at_world ?_; intro W1 hW
    have k2 : hp W1 w.heap.size = some (.cells #[.int .i64 a, .int .i64 b] 53 (0, 0)) := by rw [hW]; simp [hpA, nn1, nn2]
    have k3 : hp W1 (w.heap.size + 1) = some (.cells #[.int .i64 a', .int .i64 b'] 53 (0, 0)) := by rw [hW]; simp [hpA, nn1, nn2]
    have HB := Lib.hid (show Below w.heap.size w W1 by rw [hW]; exact below_alloc (below_alloc (Below.refl _ _) _) _)
    clear hW
    have K := Lib.hid (And.intro k2 k3)
    have c2 := hp_cell k2
    have c3 := hp_cell k3
    clear k2 k3
    go_wp2_with (first | (go_at_call 64; (with_reducible refine (HM.out _).mono ?_); rintro e w3 ⟨rfl, hb⟩; have HB3 := Lib.hid (below_call HB2.out hb); have K3 := Lib.hid (And.intro (hp_below hb K2.out.1) (hp_below hb K2.out.2)); replace c2 := hp_cell (hp_below hb K2.out.1); replace c3 := hp_cell (hp_below hb K2.out.2); clear hb) | (go_at_call 59; first | ((with_reducible refine (HE1.out _).mono ?_); rintro e w1 ⟨rfl, hb⟩; have HB1 := Lib.hid (below_call HB.out hb); have K1 := Lib.hid (And.intro (hp_below hb K.out.1) (hp_below hb K.out.2)); replace c2 := hp_cell (hp_below hb K.out.1); replace c3 := hp_cell (hp_below hb K.out.2); clear hb) | ((with_reducible refine (HE2.out _).mono ?_); rintro e w2 ⟨rfl, hb⟩; have HB2 := Lib.hid (below_call HB1.out hb); have K2 := Lib.hid (And.intro (hp_below hb K1.out.1) (hp_below hb K1.out.2)); replace c2 := hp_cell (hp_below hb K1.out.1); replace c3 := hp_cell (hp_below hb K1.out.2); clear hb)))
    go_ret
    exact ⟨by simp, HB3.out⟩
  · rw [decide_eq_false c1] at hm
    have HM := Lib.hid hm
    clear hm
    by_cases c2 : b = a'
    · have hv : (decide (a ≤ b') && decide (a' ≤ b)) = true := by rw [decide_eq_true (show a ≤ b' by omega), decide_eq_true (show a' ≤ b by omega)]; rfl
      rw [hv]
      have e1 : (b == a') = true := by simpa using c2
      have e2 : decide (b = a') = true := by simpa using c2
      clear hv c1 h h' c2
      go_enter Try.func60, Try.ntmps60
      go_upto_region 1 with fail
      refine Ph.at_world ?_; intro W1 hW
      have k2 : hp W1 w.heap.size = some (.cells #[.int .i64 a, .int .i64 b] 53 (0, 0)) := by rw [hW]; simp [hpA, nn1, nn2]
      have k3 : hp W1 (w.heap.size + 1) = some (.cells #[.int .i64 a', .int .i64 b'] 53 (0, 0)) := by rw [hW]; simp [hpA, nn1, nn2]
      have HB := Lib.hid (show Below w.heap.size w W1 by rw [hW]; exact below_alloc (below_alloc (Below.refl _ _) _) _)
      clear hW
      have K := Lib.hid (And.intro k2 k3)
      have c2 := hp_cell k2
      have c3 := hp_cell k3
      clear k2 k3
      go_wp2_with (first | (go_at_call 64; (with_reducible refine (HM.out _).mono ?_); rintro e w3 ⟨rfl, hb⟩; have HB3 := Lib.hid (below_call HB2.out hb); have K3 := Lib.hid (And.intro (hp_below hb K2.out.1) (hp_below hb K2.out.2)); replace c2 := hp_cell (hp_below hb K2.out.1); replace c3 := hp_cell (hp_below hb K2.out.2); clear hb) | (go_at_call 59; first | ((with_reducible refine (HE1.out _).mono ?_); rintro e w1 ⟨rfl, hb⟩; have HB1 := Lib.hid (below_call HB.out hb); have K1 := Lib.hid (And.intro (hp_below hb K.out.1) (hp_below hb K.out.2)); replace c2 := hp_cell (hp_below hb K.out.1); replace c3 := hp_cell (hp_below hb K.out.2); clear hb) | ((with_reducible refine (HE2.out _).mono ?_); rintro e w2 ⟨rfl, hb⟩; have HB2 := Lib.hid (below_call HB1.out hb); have K2 := Lib.hid (And.intro (hp_below hb K1.out.1) (hp_below hb K1.out.2)); replace c2 := hp_cell (hp_below hb K1.out.1); replace c3 := hp_cell (hp_below hb K1.out.2); clear hb)))
      go_ret
      exact ⟨by first | rfl | simp [*], HB3.out⟩
    · have e1 : (b == a') = false := by simpa using c2
      have e2 : decide (b = a') = false := by simpa using c2
      by_cases c4 : b' = a
      · have hv : (decide (a ≤ b') && decide (a' ≤ b)) = true := by rw [decide_eq_true (show a ≤ b' by omega), decide_eq_true (show a' ≤ b by omega)]; rfl
        rw [hv]
        have e3 : (b' == a) = true := by simpa using c4
        have e4 : decide (b' = a) = true := by simpa using c4
        clear hv c1 h h' c2 c4
        go_enter Try.func60, Try.ntmps60
        go_upto_region 1 with fail
        refine Ph.at_world ?_; intro W1 hW
        have k2 : hp W1 w.heap.size = some (.cells #[.int .i64 a, .int .i64 b] 53 (0, 0)) := by rw [hW]; simp [hpA, nn1, nn2]
        have k3 : hp W1 (w.heap.size + 1) = some (.cells #[.int .i64 a', .int .i64 b'] 53 (0, 0)) := by rw [hW]; simp [hpA, nn1, nn2]
        have HB := Lib.hid (show Below w.heap.size w W1 by rw [hW]; exact below_alloc (below_alloc (Below.refl _ _) _) _)
        clear hW
        have K := Lib.hid (And.intro k2 k3)
        have c2 := hp_cell k2
        have c3 := hp_cell k3
        clear k2 k3
        go_wp2_with (first | (go_at_call 64; (with_reducible refine (HM.out _).mono ?_); rintro e w3 ⟨rfl, hb⟩; have HB3 := Lib.hid (below_call HB2.out hb); have K3 := Lib.hid (And.intro (hp_below hb K2.out.1) (hp_below hb K2.out.2)); replace c2 := hp_cell (hp_below hb K2.out.1); replace c3 := hp_cell (hp_below hb K2.out.2); clear hb) | (go_at_call 59; first | ((with_reducible refine (HE1.out _).mono ?_); rintro e w1 ⟨rfl, hb⟩; have HB1 := Lib.hid (below_call HB.out hb); have K1 := Lib.hid (And.intro (hp_below hb K.out.1) (hp_below hb K.out.2)); replace c2 := hp_cell (hp_below hb K.out.1); replace c3 := hp_cell (hp_below hb K.out.2); clear hb) | ((with_reducible refine (HE2.out _).mono ?_); rintro e w2 ⟨rfl, hb⟩; have HB2 := Lib.hid (below_call HB1.out hb); have K2 := Lib.hid (And.intro (hp_below hb K1.out.1) (hp_below hb K1.out.2)); replace c2 := hp_cell (hp_below hb K1.out.1); replace c3 := hp_cell (hp_below hb K1.out.2); clear hb)))
        go_ret
        exact ⟨by first | rfl | simp [*], HB3.out⟩
      · have hv : (decide (a ≤ b') && decide (a' ≤ b)) = false := by
          by_cases c5 : a ≤ b'
          · rw [decide_eq_false (show ¬ a' ≤ b by omega), Bool.and_false]
          · rw [decide_eq_false c5, Bool.false_and]
        rw [hv]
        have e3 : (b' == a) = false := by simpa using c4
        have e4 : decide (b' = a) = false := by simpa using c4
        clear hv c1 h h' c2 c4
        go_enter Try.func60, Try.ntmps60
        go_upto_region 1 with fail
        refine Ph.at_world ?_; intro W1 hW
        have k2 : hp W1 w.heap.size = some (.cells #[.int .i64 a, .int .i64 b] 53 (0, 0)) := by rw [hW]; simp [hpA, nn1, nn2]
        have k3 : hp W1 (w.heap.size + 1) = some (.cells #[.int .i64 a', .int .i64 b'] 53 (0, 0)) := by rw [hW]; simp [hpA, nn1, nn2]
        have HB := Lib.hid (show Below w.heap.size w W1 by rw [hW]; exact below_alloc (below_alloc (Below.refl _ _) _) _)
        clear hW
        have K := Lib.hid (And.intro k2 k3)
        have c2 := hp_cell k2
        have c3 := hp_cell k3
        clear k2 k3
        go_wp2_with (first | (go_at_call 64; (with_reducible refine (HM.out _).mono ?_); rintro e w3 ⟨rfl, hb⟩; have HB3 := Lib.hid (below_call HB2.out hb); have K3 := Lib.hid (And.intro (hp_below hb K2.out.1) (hp_below hb K2.out.2)); replace c2 := hp_cell (hp_below hb K2.out.1); replace c3 := hp_cell (hp_below hb K2.out.2); clear hb) | (go_at_call 59; first | ((with_reducible refine (HE1.out _).mono ?_); rintro e w1 ⟨rfl, hb⟩; have HB1 := Lib.hid (below_call HB.out hb); have K1 := Lib.hid (And.intro (hp_below hb K.out.1) (hp_below hb K.out.2)); replace c2 := hp_cell (hp_below hb K.out.1); replace c3 := hp_cell (hp_below hb K.out.2); clear hb) | ((with_reducible refine (HE2.out _).mono ?_); rintro e w2 ⟨rfl, hb⟩; have HB2 := Lib.hid (below_call HB1.out hb); have K2 := Lib.hid (And.intro (hp_below hb K1.out.1) (hp_below hb K1.out.2)); replace c2 := hp_cell (hp_below hb K1.out.1); replace c3 := hp_cell (hp_below hb K1.out.2); clear hb)))
        go_ret
        exact ⟨by first | rfl | simp [*], HB3.out⟩
end Go.Proofs.Ytnofclmnjhkhiaa
