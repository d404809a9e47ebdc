/- The reference's Hull, Within. -/
import Derived.Test.YtnofclmnjhkhiaaRb2
import Derived.WalkKit
import Derived.WalkLawsBesides
import Derived.WalkSpells
import Derived.Below
import Derived.Deep.RegionHeld3
import Derived.Deep.QuietTactic
import Derived.BigQuiet
import Derived.Deep.DeepCutAuto
import Derived.Deep.DeepMust
import Derived.KernelRfl
import Derived.Lib.Hide
import Derived.Outline
import Derived.RegionTactic
import Derived.StillTailTactics
namespace Go.Proofs.Ytnofclmnjhkhiaa
open Go.RowKit Go.Cl Go.Cv
set_option maxRecDepth 100000
set_option linter.unusedVariables false
set_option linter.unusedSimpArgs false
theorem c_rhull (a b a' b' : Int) (h : a < b) (h' : a' < b') (w : World) : Calls Try.prog 61 #[.agg #[.int .i64 a, .int .i64 b], .agg #[.int .i64 a', .int .i64 b']] w fun e w' => e = .returned (.agg #[.int .i64 (min a a'), .int .i64 (max b b')]) ∧ Below w.heap.size w w' := by
  by_cases q1 : a' < a
  · by_cases q2 : b < b'
    · have hmn : min a a' = a' := by omega
      have hmx : max b b' = b' := by omega
      rw [hmn, hmx]
      clear hmx hmn
      have ho : ∀ w, Calls Try.prog 65 #[.int .i64 a', .int .i64 b'] w fun e w' => e = .returned (.agg #[.int .i64 a', .int .i64 b']) ∧ Below w.heap.size w w' := fun w => by have := c_rof a' b' w; unfold ofS at this; rw [if_neg (by omega)] at this; exact this
      have HO := Lib.hid ho
      clear ho
      have he1 : ∀ w, Calls Try.prog 59 #[.agg #[.int .i64 a, .int .i64 b]] w fun e w' => e = .returned (.bool false) ∧ Below w.heap.size w w' := fun w => by have := c_rempty a b w; rw [decide_eq_false (show ¬ b ≤ a by omega)] at this; exact this
      have HE1 := Lib.hid he1
      clear he1
      have he2 : ∀ w, Calls Try.prog 59 #[.agg #[.int .i64 a', .int .i64 b']] w fun e w' => e = .returned (.bool false) ∧ Below w.heap.size w w' := fun w => by have := c_rempty a' b' w; rw [decide_eq_false (show ¬ b' ≤ a' by omega)] at this; exact this
      have HE2 := Lib.hid he2
      clear he2
      clear h h'
      go_enter Try.func61, Try.ntmps61
      go_upto_region 1 with fail
      refine Ph.at_world ?_; intro W1 hW
      have k2 : hp W1 w.heap.size = some (.cells #[.int .i64 a, .int .i64 b] 53 (0, 0)) := by rw [hW]; simp [hpA, nn1, nn2]
      have k3 : hp W1 (w.heap.size + 1) = some (.cells #[.int .i64 a', .int .i64 b'] 53 (0, 0)) := by rw [hW]; simp [hpA, nn1, nn2]
      have k4 : hp W1 (w.heap.size + 2) = some (.cells #[.int .i64 0, .int .i64 0] 53 (0, 0)) := by rw [hW]; simp [hpA, nn1, nn2]
      have HB := Lib.hid (show Below w.heap.size w W1 by rw [hW]; exact below_alloc (below_alloc (below_alloc (Below.refl _ _) _) _) _)
      clear hW
      have K := Lib.hid (And.intro k2 (And.intro k3 k4))
      have c2 := hp_cell k2
      have c3 := hp_cell k3
      clear k2 k3 k4
      have n1 : w.heap.size ≤ w.heap.size + 2 := by omega
      go_upto_region 5 with (go_at_call 59; first | ((with_reducible refine (HE1.out _).mono ?_); rintro e w1 ⟨rfl, hb⟩; have HB1 := Lib.hid (below_call HB.out hb); have K1 := Lib.hid (And.intro (hp_below hb K.out.1) (And.intro (hp_below hb K.out.2.1) (hp_below hb K.out.2.2))); replace c2 := hp_cell (hp_below hb K.out.1); replace c3 := hp_cell (hp_below hb K.out.2.1); clear hb) | ((with_reducible refine (HE2.out _).mono ?_); rintro e w2 ⟨rfl, hb⟩; have HB2 := Lib.hid (below_call HB1.out hb); have K2 := Lib.hid (And.intro (hp_below hb K1.out.1) (And.intro (hp_below hb K1.out.2.1) (hp_below hb K1.out.2.2))); replace c2 := hp_cell (hp_below hb K1.out.1); replace c3 := hp_cell (hp_below hb K1.out.2.1); clear hb))
      clear c2 c3
      refine Ph.region_at (by kernel_rfl) ?_
      refine Ph.at_quiet 6 (by kernel_rfl) ?_
      simp only [List.take_succ_cons, List.take_zero, List.drop_succ_cons, List.drop_zero]
      repeat ((first | (apply Ph.wpPh_g; (focus (intro wx hS0; have hz := below_call (below_drew (Below.refl w2.heap.size w2)) hS0; have c2 := hp_cell (hp_below hz K2.out.1); have c3 := hp_cell (hp_below hz K2.out.2.1); go_simp; first | exact rfl | exact ⟨rfl, Below.refl _ _⟩)))); simp only [Act.put, List.setIfInBounds_toArray, List.set_cons_zero, List.set_cons_succ])
      refine Ph.wpPh_nil ?_; intro w3 hS
      refine Ph.at_end (by simp) ?_
      have hz := below_call (below_drew (Below.refl w2.heap.size w2)) hS
      have HB3 := Lib.hid (below_call HB2.out hz)
      have K3 := Lib.hid (And.intro (hp_below hz K2.out.1) (And.intro (hp_below hz K2.out.2.1) (hp_below hz K2.out.2.2)))
      have c2 := hp_cell K3.out.1
      have c3 := hp_cell K3.out.2.1
      clear hz hS
      go_wp2_with (go_at_call 65; (with_reducible refine (HO.out _).mono ?_); rintro e w5 ⟨rfl, hb⟩; have hb5 := below_call HB3.out hb; have c4 := hp_cell (hp_below hb K3.out.2.2); have f4 := hp_free (hp_below hb K3.out.2.2); clear hb c2 c3)
      refine bodyPost_ret (v := .agg #[.int .i64 a', .int .i64 b']) (by simp [results, Try.results61, go_sem, *]; done) rfl ⟨rfl, by (repeat (first | (with_reducible assumption) | (with_reducible exact Below.refl _ _) | (with_reducible refine below_set ?_ (by first | assumption | (simp; done) | (simp; omega) | omega) _) | (with_reducible apply below_alloc) | (with_reducible apply below_drew) | (with_reducible apply below_drewN) | (with_reducible refine below_call ?_ (by assumption))))⟩
    · have hmn : min a a' = a' := by omega
      have hmx : max b b' = b := by omega
      rw [hmn, hmx]
      clear hmx hmn
      have ho : ∀ w, Calls Try.prog 65 #[.int .i64 a', .int .i64 b] w fun e w' => e = .returned (.agg #[.int .i64 a', .int .i64 b]) ∧ Below w.heap.size w w' := fun w => by have := c_rof a' b w; unfold ofS at this; rw [if_neg (by omega)] at this; exact this
      have HO := Lib.hid ho
      clear ho
      have he1 : ∀ w, Calls Try.prog 59 #[.agg #[.int .i64 a, .int .i64 b]] w fun e w' => e = .returned (.bool false) ∧ Below w.heap.size w w' := fun w => by have := c_rempty a b w; rw [decide_eq_false (show ¬ b ≤ a by omega)] at this; exact this
      have HE1 := Lib.hid he1
      clear he1
      have he2 : ∀ w, Calls Try.prog 59 #[.agg #[.int .i64 a', .int .i64 b']] w fun e w' => e = .returned (.bool false) ∧ Below w.heap.size w w' := fun w => by have := c_rempty a' b' w; rw [decide_eq_false (show ¬ b' ≤ a' by omega)] at this; exact this
      have HE2 := Lib.hid he2
      clear he2
      clear h h'
      go_enter Try.func61, Try.ntmps61
      go_upto_region 1 with fail
      refine Ph.at_world ?_; intro W1 hW
      have k2 : hp W1 w.heap.size = some (.cells #[.int .i64 a, .int .i64 b] 53 (0, 0)) := by rw [hW]; simp [hpA, nn1, nn2]
      have k3 : hp W1 (w.heap.size + 1) = some (.cells #[.int .i64 a', .int .i64 b'] 53 (0, 0)) := by rw [hW]; simp [hpA, nn1, nn2]
      have k4 : hp W1 (w.heap.size + 2) = some (.cells #[.int .i64 0, .int .i64 0] 53 (0, 0)) := by rw [hW]; simp [hpA, nn1, nn2]
      have HB := Lib.hid (show Below w.heap.size w W1 by rw [hW]; exact below_alloc (below_alloc (below_alloc (Below.refl _ _) _) _) _)
      clear hW
      have K := Lib.hid (And.intro k2 (And.intro k3 k4))
      have c2 := hp_cell k2
      have c3 := hp_cell k3
      clear k2 k3 k4
      have n1 : w.heap.size ≤ w.heap.size + 2 := by omega
      go_upto_region 5 with (go_at_call 59; first | ((with_reducible refine (HE1.out _).mono ?_); rintro e w1 ⟨rfl, hb⟩; have HB1 := Lib.hid (below_call HB.out hb); have K1 := Lib.hid (And.intro (hp_below hb K.out.1) (And.intro (hp_below hb K.out.2.1) (hp_below hb K.out.2.2))); replace c2 := hp_cell (hp_below hb K.out.1); replace c3 := hp_cell (hp_below hb K.out.2.1); clear hb) | ((with_reducible refine (HE2.out _).mono ?_); rintro e w2 ⟨rfl, hb⟩; have HB2 := Lib.hid (below_call HB1.out hb); have K2 := Lib.hid (And.intro (hp_below hb K1.out.1) (And.intro (hp_below hb K1.out.2.1) (hp_below hb K1.out.2.2))); replace c2 := hp_cell (hp_below hb K1.out.1); replace c3 := hp_cell (hp_below hb K1.out.2.1); clear hb))
      clear c2 c3
      refine Ph.region_at (by kernel_rfl) ?_
      refine Ph.at_quiet 6 (by kernel_rfl) ?_
      simp only [List.take_succ_cons, List.take_zero, List.drop_succ_cons, List.drop_zero]
      repeat ((first | (apply Ph.wpPh_g; (focus (intro wx hS0; have hz := below_call (below_drew (Below.refl w2.heap.size w2)) hS0; have c2 := hp_cell (hp_below hz K2.out.1); have c3 := hp_cell (hp_below hz K2.out.2.1); go_simp; first | exact rfl | exact ⟨rfl, Below.refl _ _⟩)))); simp only [Act.put, List.setIfInBounds_toArray, List.set_cons_zero, List.set_cons_succ])
      refine Ph.wpPh_nil ?_; intro w3 hS
      refine Ph.at_end (by simp) ?_
      have hz := below_call (below_drew (Below.refl w2.heap.size w2)) hS
      have HB3 := Lib.hid (below_call HB2.out hz)
      have K3 := Lib.hid (And.intro (hp_below hz K2.out.1) (And.intro (hp_below hz K2.out.2.1) (hp_below hz K2.out.2.2)))
      have c2 := hp_cell K3.out.1
      have c3 := hp_cell K3.out.2.1
      clear hz hS
      go_wp2_with (go_at_call 65; (with_reducible refine (HO.out _).mono ?_); rintro e w5 ⟨rfl, hb⟩; have hb5 := below_call HB3.out hb; have c4 := hp_cell (hp_below hb K3.out.2.2); have f4 := hp_free (hp_below hb K3.out.2.2); clear hb c2 c3)
      refine bodyPost_ret (v := .agg #[.int .i64 a', .int .i64 b]) (by simp [results, Try.results61, go_sem, *]; done) rfl ⟨rfl, by (repeat (first | (with_reducible assumption) | (with_reducible exact Below.refl _ _) | (with_reducible refine below_set ?_ (by first | assumption | (simp; done) | (simp; omega) | omega) _) | (with_reducible apply below_alloc) | (with_reducible apply below_drew) | (with_reducible apply below_drewN) | (with_reducible refine below_call ?_ (by assumption))))⟩
  · by_cases q2 : b < b'
    · have hmn : min a a' = a := by omega
      have hmx : max b b' = b' := by omega
      rw [hmn, hmx]
      clear hmx hmn
      have ho : ∀ w, Calls Try.prog 65 #[.int .i64 a, .int .i64 b'] w fun e w' => e = .returned (.agg #[.int .i64 a, .int .i64 b']) ∧ Below w.heap.size w w' := fun w => by have := c_rof a b' w; unfold ofS at this; rw [if_neg (by omega)] at this; exact this
      have HO := Lib.hid ho
      clear ho
      have he1 : ∀ w, Calls Try.prog 59 #[.agg #[.int .i64 a, .int .i64 b]] w fun e w' => e = .returned (.bool false) ∧ Below w.heap.size w w' := fun w => by have := c_rempty a b w; rw [decide_eq_false (show ¬ b ≤ a by omega)] at this; exact this
      have HE1 := Lib.hid he1
      clear he1
      have he2 : ∀ w, Calls Try.prog 59 #[.agg #[.int .i64 a', .int .i64 b']] w fun e w' => e = .returned (.bool false) ∧ Below w.heap.size w w' := fun w => by have := c_rempty a' b' w; rw [decide_eq_false (show ¬ b' ≤ a' by omega)] at this; exact this
      have HE2 := Lib.hid he2
      clear he2
      clear h h'
      go_enter Try.func61, Try.ntmps61
      go_upto_region 1 with fail
      refine Ph.at_world ?_; intro W1 hW
      have k2 : hp W1 w.heap.size = some (.cells #[.int .i64 a, .int .i64 b] 53 (0, 0)) := by rw [hW]; simp [hpA, nn1, nn2]
      have k3 : hp W1 (w.heap.size + 1) = some (.cells #[.int .i64 a', .int .i64 b'] 53 (0, 0)) := by rw [hW]; simp [hpA, nn1, nn2]
      have k4 : hp W1 (w.heap.size + 2) = some (.cells #[.int .i64 0, .int .i64 0] 53 (0, 0)) := by rw [hW]; simp [hpA, nn1, nn2]
      have HB := Lib.hid (show Below w.heap.size w W1 by rw [hW]; exact below_alloc (below_alloc (below_alloc (Below.refl _ _) _) _) _)
      clear hW
      have K := Lib.hid (And.intro k2 (And.intro k3 k4))
      have c2 := hp_cell k2
      have c3 := hp_cell k3
      clear k2 k3 k4
      have n1 : w.heap.size ≤ w.heap.size + 2 := by omega
      go_upto_region 5 with (go_at_call 59; first | ((with_reducible refine (HE1.out _).mono ?_); rintro e w1 ⟨rfl, hb⟩; have HB1 := Lib.hid (below_call HB.out hb); have K1 := Lib.hid (And.intro (hp_below hb K.out.1) (And.intro (hp_below hb K.out.2.1) (hp_below hb K.out.2.2))); replace c2 := hp_cell (hp_below hb K.out.1); replace c3 := hp_cell (hp_below hb K.out.2.1); clear hb) | ((with_reducible refine (HE2.out _).mono ?_); rintro e w2 ⟨rfl, hb⟩; have HB2 := Lib.hid (below_call HB1.out hb); have K2 := Lib.hid (And.intro (hp_below hb K1.out.1) (And.intro (hp_below hb K1.out.2.1) (hp_below hb K1.out.2.2))); replace c2 := hp_cell (hp_below hb K1.out.1); replace c3 := hp_cell (hp_below hb K1.out.2.1); clear hb))
      clear c2 c3
      refine Ph.region_at (by kernel_rfl) ?_
      refine Ph.at_quiet 6 (by kernel_rfl) ?_
      simp only [List.take_succ_cons, List.take_zero, List.drop_succ_cons, List.drop_zero]
      repeat ((first | (apply Ph.wpPh_g; (focus (intro wx hS0; have hz := below_call (below_drew (Below.refl w2.heap.size w2)) hS0; have c2 := hp_cell (hp_below hz K2.out.1); have c3 := hp_cell (hp_below hz K2.out.2.1); go_simp; first | exact rfl | exact ⟨rfl, Below.refl _ _⟩)))); simp only [Act.put, List.setIfInBounds_toArray, List.set_cons_zero, List.set_cons_succ])
      refine Ph.wpPh_nil ?_; intro w3 hS
      refine Ph.at_end (by simp) ?_
      have hz := below_call (below_drew (Below.refl w2.heap.size w2)) hS
      have HB3 := Lib.hid (below_call HB2.out hz)
      have K3 := Lib.hid (And.intro (hp_below hz K2.out.1) (And.intro (hp_below hz K2.out.2.1) (hp_below hz K2.out.2.2)))
      have c2 := hp_cell K3.out.1
      have c3 := hp_cell K3.out.2.1
      clear hz hS
      go_wp2_with (go_at_call 65; (with_reducible refine (HO.out _).mono ?_); rintro e w5 ⟨rfl, hb⟩; have hb5 := below_call HB3.out hb; have c4 := hp_cell (hp_below hb K3.out.2.2); have f4 := hp_free (hp_below hb K3.out.2.2); clear hb c2 c3)
      refine bodyPost_ret (v := .agg #[.int .i64 a, .int .i64 b']) (by simp [results, Try.results61, go_sem, *]; done) rfl ⟨rfl, by (repeat (first | (with_reducible assumption) | (with_reducible exact Below.refl _ _) | (with_reducible refine below_set ?_ (by first | assumption | (simp; done) | (simp; omega) | omega) _) | (with_reducible apply below_alloc) | (with_reducible apply below_drew) | (with_reducible apply below_drewN) | (with_reducible refine below_call ?_ (by assumption))))⟩
    · have hmn : min a a' = a := by omega
      have hmx : max b b' = b := by omega
      rw [hmn, hmx]
      clear hmx hmn
      have ho : ∀ w, Calls Try.prog 65 #[.int .i64 a, .int .i64 b] w fun e w' => e = .returned (.agg #[.int .i64 a, .int .i64 b]) ∧ Below w.heap.size w w' := fun w => by have := c_rof a b w; unfold ofS at this; rw [if_neg (by omega)] at this; exact this
      have HO := Lib.hid ho
      clear ho
      have he1 : ∀ w, Calls Try.prog 59 #[.agg #[.int .i64 a, .int .i64 b]] w fun e w' => e = .returned (.bool false) ∧ Below w.heap.size w w' := fun w => by have := c_rempty a b w; rw [decide_eq_false (show ¬ b ≤ a by omega)] at this; exact this
      have HE1 := Lib.hid he1
      clear he1
      have he2 : ∀ w, Calls Try.prog 59 #[.agg #[.int .i64 a', .int .i64 b']] w fun e w' => e = .returned (.bool false) ∧ Below w.heap.size w w' := fun w => by have := c_rempty a' b' w; rw [decide_eq_false (show ¬ b' ≤ a' by omega)] at this; exact this
      have HE2 := Lib.hid he2
      clear he2
      clear h h'
      go_enter Try.func61, Try.ntmps61
      go_upto_region 1 with fail
      refine Ph.at_world ?_; intro W1 hW
      have k2 : hp W1 w.heap.size = some (.cells #[.int .i64 a, .int .i64 b] 53 (0, 0)) := by rw [hW]; simp [hpA, nn1, nn2]
      have k3 : hp W1 (w.heap.size + 1) = some (.cells #[.int .i64 a', .int .i64 b'] 53 (0, 0)) := by rw [hW]; simp [hpA, nn1, nn2]
      have k4 : hp W1 (w.heap.size + 2) = some (.cells #[.int .i64 0, .int .i64 0] 53 (0, 0)) := by rw [hW]; simp [hpA, nn1, nn2]
      have HB := Lib.hid (show Below w.heap.size w W1 by rw [hW]; exact below_alloc (below_alloc (below_alloc (Below.refl _ _) _) _) _)
      clear hW
      have K := Lib.hid (And.intro k2 (And.intro k3 k4))
      have c2 := hp_cell k2
      have c3 := hp_cell k3
      clear k2 k3 k4
      have n1 : w.heap.size ≤ w.heap.size + 2 := by omega
      go_upto_region 5 with (go_at_call 59; first | ((with_reducible refine (HE1.out _).mono ?_); rintro e w1 ⟨rfl, hb⟩; have HB1 := Lib.hid (below_call HB.out hb); have K1 := Lib.hid (And.intro (hp_below hb K.out.1) (And.intro (hp_below hb K.out.2.1) (hp_below hb K.out.2.2))); replace c2 := hp_cell (hp_below hb K.out.1); replace c3 := hp_cell (hp_below hb K.out.2.1); clear hb) | ((with_reducible refine (HE2.out _).mono ?_); rintro e w2 ⟨rfl, hb⟩; have HB2 := Lib.hid (below_call HB1.out hb); have K2 := Lib.hid (And.intro (hp_below hb K1.out.1) (And.intro (hp_below hb K1.out.2.1) (hp_below hb K1.out.2.2))); replace c2 := hp_cell (hp_below hb K1.out.1); replace c3 := hp_cell (hp_below hb K1.out.2.1); clear hb))
      clear c2 c3
      refine Ph.region_at (by kernel_rfl) ?_
      refine Ph.at_quiet 6 (by kernel_rfl) ?_
      simp only [List.take_succ_cons, List.take_zero, List.drop_succ_cons, List.drop_zero]
      repeat ((first | (apply Ph.wpPh_g; (focus (intro wx hS0; have hz := below_call (below_drew (Below.refl w2.heap.size w2)) hS0; have c2 := hp_cell (hp_below hz K2.out.1); have c3 := hp_cell (hp_below hz K2.out.2.1); go_simp; first | exact rfl | exact ⟨rfl, Below.refl _ _⟩)))); simp only [Act.put, List.setIfInBounds_toArray, List.set_cons_zero, List.set_cons_succ])
      refine Ph.wpPh_nil ?_; intro w3 hS
      refine Ph.at_end (by simp) ?_
      have hz := below_call (below_drew (Below.refl w2.heap.size w2)) hS
      have HB3 := Lib.hid (below_call HB2.out hz)
      have K3 := Lib.hid (And.intro (hp_below hz K2.out.1) (And.intro (hp_below hz K2.out.2.1) (hp_below hz K2.out.2.2)))
      have c2 := hp_cell K3.out.1
      have c3 := hp_cell K3.out.2.1
      clear hz hS
      go_wp2_with (go_at_call 65; (with_reducible refine (HO.out _).mono ?_); rintro e w5 ⟨rfl, hb⟩; have hb5 := below_call HB3.out hb; have c4 := hp_cell (hp_below hb K3.out.2.2); have f4 := hp_free (hp_below hb K3.out.2.2); clear hb c2 c3)
      refine bodyPost_ret (v := .agg #[.int .i64 a, .int .i64 b]) (by simp [results, Try.results61, go_sem, *]; done) rfl ⟨rfl, by (repeat (first | (with_reducible assumption) | (with_reducible exact Below.refl _ _) | (with_reducible refine below_set ?_ (by first | assumption | (simp; done) | (simp; omega) | omega) _) | (with_reducible apply below_alloc) | (with_reducible apply below_drew) | (with_reducible apply below_drewN) | (with_reducible refine below_call ?_ (by assumption))))⟩
theorem c_rwithin (a b a' b' : Int) (h : a < b) (w : World) : Calls Try.prog 63 #[.agg #[.int .i64 a, .int .i64 b], .agg #[.int .i64 a', .int .i64 b']] w fun e w' => e = .returned (.bool (decide (a' ≤ a) && decide (b ≤ b'))) ∧ Below w.heap.size w w' := by
  have he1 : ∀ w, Calls Try.prog 59 #[.agg #[.int .i64 a, .int .i64 b]] w fun e w' => e = .returned (.bool false) ∧ Below w.heap.size w w' := fun w => by have := c_rempty a b w; rw [decide_eq_false (show ¬ b ≤ a by omega)] at this; exact this
  have HE1 := Lib.hid he1
  clear he1
  have hm := c_rmeet a b a' b'
  by_cases q : a' ≤ a ∧ b ≤ b'
  · have hv : (decide (a' ≤ a) && decide (b ≤ b')) = true := by rw [decide_eq_true q.1, decide_eq_true q.2]; rfl
    have hl : ofS (max a a') (min b b') = (a, b) := by
      rw [show max a a' = a by omega, show min b b' = b by omega]; unfold ofS; rw [if_neg (by omega)]
    rw [hv]
    rw [hl] at hm
    have HM := Lib.hid (hm : ∀ w, Calls Try.prog 51 #[.agg #[.int .i64 a, .int .i64 b], .agg #[.int .i64 a', .int .i64 b']] w fun e w' => e = .returned (.agg #[.int .i64 a, .int .i64 b]) ∧ Below w.heap.size w w')
    clear hm hl hv q h
    go_enter Try.func63, Try.ntmps63
    go_upto_region 1 with fail
    refine Ph.at_world ?_; intro W1 hW
    have k2 : hp W1 w.heap.size = some (.cells #[.int .i64 a, .int .i64 b] 53 (0, 0)) := by rw [hW]; simp [hpA, nn1, nn2]
    have k3 : hp W1 (w.heap.size + 1) = some (.cells #[.int .i64 a', .int .i64 b'] 53 (0, 0)) := by rw [hW]; simp [hpA, nn1, nn2]
    have HB := Lib.hid (show Below w.heap.size w W1 by rw [hW]; exact below_alloc (below_alloc (Below.refl _ _) _) _)
    clear hW
    have K := Lib.hid (And.intro k2 k3)
    clear k2 k3
    refine Ph.region_at (by kernel_rfl) ?_
    refine Ph.at_quiet 10 (by kernel_rfl) ?_
    simp only [List.take_succ_cons, List.take_zero, List.drop_succ_cons, List.drop_zero]
    repeat ((first | (apply Ph.wpPh_g; (focus (intro wx hS0; have hz := below_call (below_drew (Below.refl W1.heap.size W1)) hS0; have c2 := hp_cell (hp_below hz K.out.1); have c3 := hp_cell (hp_below hz K.out.2); go_simp; first | exact rfl | exact ⟨rfl, Below.refl _ _⟩ | ((with_reducible refine (HE1.out _).mono ?_); rintro e w2 ⟨rfl, hb⟩; exact ⟨rfl, hb⟩) | ((with_reducible refine (HM.out _).mono ?_); rintro e w2 ⟨rfl, hb⟩; exact ⟨rfl, hb⟩))))); simp only [Act.put, List.setIfInBounds_toArray, List.set_cons_zero, List.set_cons_succ])
    refine Ph.wpPh_nil ?_; intro w3 hS
    refine Ph.at_end (by simp) ?_
    go_wp2
    go_ret
    exact ⟨by first | rfl | (simp; done), below_call HB.out (below_call (below_drew (Below.refl _ _)) hS)⟩
  · have hv : (decide (a' ≤ a) && decide (b ≤ b')) = false := by
      by_cases q1 : a' ≤ a
      · rw [decide_eq_true q1, decide_eq_false (fun q2 => q ⟨q1, q2⟩)]; rfl
      · rw [decide_eq_false q1]; rfl
    have hl : ¬ (ofS (max a a') (min b b') = (a, b)) := fun e => by
      unfold ofS at e
      split at e
      · simp at e; omega
      · simp at e; omega
    rw [hv]
    generalize ofS (max a a') (min b b') = l at *
    obtain ⟨l1, l2⟩ := l
    have HM := Lib.hid (hm : ∀ w, Calls Try.prog 51 #[.agg #[.int .i64 a, .int .i64 b], .agg #[.int .i64 a', .int .i64 b']] w fun e w' => e = .returned (.agg #[.int .i64 l1, .int .i64 l2]) ∧ Below w.heap.size w w')
    clear hm hv q
    by_cases hl1 : l1 = a
    · have hl2 : ¬ l2 = b := fun e => hl (by rw [hl1, e])
      have hl1' : a = l1 := hl1.symm
      subst hl1'
      clear hl h hl1
      go_enter Try.func63, Try.ntmps63
      go_upto_region 1 with fail
      refine Ph.at_world ?_; intro W1 hW
      have k2 : hp W1 w.heap.size = some (.cells #[.int .i64 a, .int .i64 b] 53 (0, 0)) := by rw [hW]; simp [hpA, nn1, nn2]
      have k3 : hp W1 (w.heap.size + 1) = some (.cells #[.int .i64 a', .int .i64 b'] 53 (0, 0)) := by rw [hW]; simp [hpA, nn1, nn2]
      have HB := Lib.hid (show Below w.heap.size w W1 by rw [hW]; exact below_alloc (below_alloc (Below.refl _ _) _) _)
      clear hW
      have K := Lib.hid (And.intro k2 k3)
      clear k2 k3
      refine Ph.region_at (by kernel_rfl) ?_
      refine Ph.at_quiet 10 (by kernel_rfl) ?_
      simp only [List.take_succ_cons, List.take_zero, List.drop_succ_cons, List.drop_zero]
      repeat ((first | (apply Ph.wpPh_g; (focus (intro wx hS0; have hz := below_call (below_drew (Below.refl W1.heap.size W1)) hS0; have c2 := hp_cell (hp_below hz K.out.1); have c3 := hp_cell (hp_below hz K.out.2); go_simp; first | exact rfl | exact ⟨rfl, Below.refl _ _⟩ | ((with_reducible refine (HE1.out _).mono ?_); rintro e w2 ⟨rfl, hb⟩; exact ⟨rfl, hb⟩) | ((with_reducible refine (HM.out _).mono ?_); rintro e w2 ⟨rfl, hb⟩; exact ⟨rfl, hb⟩))))); simp only [Act.put, List.setIfInBounds_toArray, List.set_cons_zero, List.set_cons_succ])
      refine Ph.wpPh_nil ?_; intro w3 hS
      refine Ph.at_end (by simp) ?_
      go_wp2
      go_ret
      exact ⟨by first | rfl | (simp; done), below_call HB.out (below_call (below_drew (Below.refl _ _)) hS)⟩
    · clear hl h
      go_enter Try.func63, Try.ntmps63
      go_upto_region 1 with fail
      refine Ph.at_world ?_; intro W1 hW
      have k2 : hp W1 w.heap.size = some (.cells #[.int .i64 a, .int .i64 b] 53 (0, 0)) := by rw [hW]; simp [hpA, nn1, nn2]
      have k3 : hp W1 (w.heap.size + 1) = some (.cells #[.int .i64 a', .int .i64 b'] 53 (0, 0)) := by rw [hW]; simp [hpA, nn1, nn2]
      have HB := Lib.hid (show Below w.heap.size w W1 by rw [hW]; exact below_alloc (below_alloc (Below.refl _ _) _) _)
      clear hW
      have K := Lib.hid (And.intro k2 k3)
      clear k2 k3
      refine Ph.region_at (by kernel_rfl) ?_
      refine Ph.at_quiet 10 (by kernel_rfl) ?_
      simp only [List.take_succ_cons, List.take_zero, List.drop_succ_cons, List.drop_zero]
      repeat ((first | (apply Ph.wpPh_g; (focus (intro wx hS0; have hz := below_call (below_drew (Below.refl W1.heap.size W1)) hS0; have c2 := hp_cell (hp_below hz K.out.1); have c3 := hp_cell (hp_below hz K.out.2); go_simp; first | exact rfl | exact ⟨rfl, Below.refl _ _⟩ | ((with_reducible refine (HE1.out _).mono ?_); rintro e w2 ⟨rfl, hb⟩; exact ⟨rfl, hb⟩) | ((with_reducible refine (HM.out _).mono ?_); rintro e w2 ⟨rfl, hb⟩; exact ⟨rfl, hb⟩))))); simp only [Act.put, List.setIfInBounds_toArray, List.set_cons_zero, List.set_cons_succ])
      refine Ph.wpPh_nil ?_; intro w3 hS
      refine Ph.at_end (by simp) ?_
      go_wp2
      go_ret
      exact ⟨by first | rfl | (simp; done), below_call HB.out (below_call (below_drew (Below.refl _ _)) hS)⟩
theorem c_rwithin0 (a b a' b' : Int) (h : b ≤ a) (w : World) : Calls Try.prog 63 #[.agg #[.int .i64 a, .int .i64 b], .agg #[.int .i64 a', .int .i64 b']] w fun e w' => e = .returned (.bool true) ∧ Below w.heap.size w w' := by
  have he1 : ∀ w, Calls Try.prog 59 #[.agg #[.int .i64 a, .int .i64 b]] w fun e w' => e = .returned (.bool true) ∧ Below w.heap.size w w' := fun w => by have := c_rempty a b w; rw [decide_eq_true (show b ≤ a by omega)] at this; exact this
  have HE1 := Lib.hid he1
  clear he1
  clear h
  go_enter Try.func63, Try.ntmps63
  go_upto_region 1 with fail
  refine Ph.at_world ?_; intro W1 hW
  have k2 : hp W1 w.heap.size = some (.cells #[.int .i64 a, .int .i64 b] 53 (0, 0)) := by rw [hW]; simp [hpA, nn1, nn2]
  have k3 : hp W1 (w.heap.size + 1) = some (.cells #[.int .i64 a', .int .i64 b'] 53 (0, 0)) := by rw [hW]; simp [hpA, nn1, nn2]
  have HB := Lib.hid (show Below w.heap.size w W1 by rw [hW]; exact below_alloc (below_alloc (Below.refl _ _) _) _)
  clear hW
  have K := Lib.hid (And.intro k2 k3)
  clear k2 k3
  refine Ph.region_at (by kernel_rfl) ?_
  refine Ph.at_quiet 10 (by kernel_rfl) ?_
  simp only [List.take_succ_cons, List.take_zero, List.drop_succ_cons, List.drop_zero]
  repeat ((first | (apply Ph.wpPh_g; (focus (intro wx hS0; have hz := below_call (below_drew (Below.refl W1.heap.size W1)) hS0; have c2 := hp_cell (hp_below hz K.out.1); have c3 := hp_cell (hp_below hz K.out.2); go_simp; first | exact rfl | exact ⟨rfl, Below.refl _ _⟩ | ((with_reducible refine (HE1.out _).mono ?_); rintro e w2 ⟨rfl, hb⟩; exact ⟨rfl, hb⟩))))); simp only [Act.put, List.setIfInBounds_toArray, List.set_cons_zero, List.set_cons_succ])
  refine Ph.wpPh_nil ?_; intro w3 hS
  refine Ph.at_end (by simp) ?_
  go_wp2
  go_ret
  exact ⟨by first | rfl | (simp; done), below_call HB.out (below_call (below_drew (Below.refl _ _)) hS)⟩
end Go.Proofs.Ytnofclmnjhkhiaa
