/- Hull, Cut. -/
import Derived.Test.YtnofclmnjhkhiaaCb
import Derived.WalkKit
import Derived.WalkLawsBesides
import Derived.WalkSpells
import Derived.Below
import Derived.Deep.RegionHeld3
import Derived.Deep.QuietTactic
import Derived.BigQuiet
import Derived.Deep.DeepCutAuto
import Derived.Deep.DeepMust
import Derived.KernelRfl
import Derived.Lib.Hide
import Derived.Outline
import Derived.RegionTactic
import Derived.StillTailTactics
namespace Go.Proofs.Ytnofclmnjhkhiaa
open Go.RowKit Go.Cl Go.Cv
set_option maxRecDepth 100000
set_option linter.unusedVariables false
set_option linter.unusedSimpArgs false

theorem nn1 (n : Nat) : ¬ (n = n + 1 + 1) := by omega
theorem nn2 (n : Nat) : ¬ (n = n + 1 + 1 + 1) := by omega
attribute [local go_sem] max2_int min2_int max_two min_two
theorem c_hull (a b a' b' : Int) (h : a < b) (h' : a' < b') (w : World) : Calls Try.prog 35 #[.agg #[.int .i64 a, .int .i64 b], .agg #[.int .i64 a', .int .i64 b']] w fun e w' => e = .returned (.agg #[.int .i64 (min a a'), .int .i64 (max b b')]) ∧ Below w.heap.size w w' := by
  have d1 : decide (b ≤ a) = false := decide_eq_false (by omega)
  have d2 : decide (b' ≤ a') = false := decide_eq_false (by omega)
  have he1 : ∀ w, Calls Try.prog 31 #[.agg #[.int .i64 a, .int .i64 b]] w fun e w' => e = .returned (.bool false) ∧ Below w.heap.size w w' := fun w => by have := c_empty a b w; rw [d1] at this; exact this
  have he2 : ∀ w, Calls Try.prog 31 #[.agg #[.int .i64 a', .int .i64 b']] w fun e w' => e = .returned (.bool false) ∧ Below w.heap.size w w' := fun w => by have := c_empty a' b' w; rw [d2] at this; exact this
  obtain ⟨mn, hmn⟩ : ∃ mn, min a a' = mn := ⟨_, rfl⟩
  obtain ⟨mx, hmx⟩ : ∃ mx, max b b' = mx := ⟨_, rfl⟩
  have hof : ∀ w, Calls Try.prog 27 #[.int .i64 mn, .int .i64 mx] w fun e w' => e = .returned (.agg #[.int .i64 mn, .int .i64 mx]) ∧ Below w.heap.size w w' := fun w => by have := c_of mn mx w; unfold ofS at this; rw [if_neg (by omega)] at this; exact this
  have HE := Lib.hid (And.intro he1 (And.intro he2 hof))
  rw [hmn, hmx]
  clear he1 he2 hof d1 d2 h h'
  go_enter Try.func35, Try.ntmps35
  go_upto_region 1 with fail
  refine Ph.at_world ?_; intro W1 hW
  have k2 : hp W1 w.heap.size = some (.cells #[.int .i64 a, .int .i64 b] 30 (0, 0)) := by rw [hW]; simp [hpA, nn1, nn2]
  have k3 : hp W1 (w.heap.size + 1) = some (.cells #[.int .i64 a', .int .i64 b'] 30 (0, 0)) := by rw [hW]; simp [hpA, nn1, nn2]
  have k4 : hp W1 (w.heap.size + 2) = some (.cells #[.int .i64 0, .int .i64 0] 30 (0, 0)) := by rw [hW]; simp [hpA, nn1, nn2]
  have HB := Lib.hid (show Below w.heap.size w W1 by rw [hW]; exact below_alloc (below_alloc (below_alloc (Below.refl _ _) _) _) _)
  clear hW
  have K := Lib.hid (And.intro k2 (And.intro k3 k4))
  have c2 := hp_cell k2
  have c3 := hp_cell k3
  clear k2 k3 k4
  have n1 : w.heap.size ≤ w.heap.size + 2 := by omega
  go_wp2_with (first | (go_at_call 27; (with_reducible refine (HE.out.2.2 _).mono ?_); rintro e w3 ⟨rfl, hb3⟩; have HB3 := below_call HB2.out hb3; clear c2 c3; have c4 := hp_cell (hp_below hb3 K2.out.2.2); have f4 := hp_free (hp_below hb3 K2.out.2.2)) | (go_at_call 31; first | ((with_reducible refine (HE.out.1 _).mono ?_); rintro e w1 ⟨rfl, hb1⟩; have HB1 := Lib.hid (below_call HB.out hb1); replace c2 := hp_cell (hp_below hb1 K.out.1); replace c3 := hp_cell (hp_below hb1 K.out.2.1); have K1 := Lib.hid (And.intro (hp_below hb1 K.out.1) (And.intro (hp_below hb1 K.out.2.1) (hp_below hb1 K.out.2.2))); clear hb1) | ((with_reducible refine (HE.out.2.1 _).mono ?_); rintro e w2 ⟨rfl, hb2⟩; have HB2 := Lib.hid (below_call HB1.out hb2); replace c2 := hp_cell (hp_below hb2 K1.out.1); replace c3 := hp_cell (hp_below hb2 K1.out.2.1); have K2 := Lib.hid (And.intro (hp_below hb2 K1.out.1) (And.intro (hp_below hb2 K1.out.2.1) (hp_below hb2 K1.out.2.2))); clear hb2)))
  refine bodyPost_ret (v := .agg #[.int .i64 mn, .int .i64 mx]) (by simp [results, Try.results35, go_sem, *]; done) rfl ⟨rfl, by (repeat (first | (with_reducible assumption) | (with_reducible exact Below.refl _ _) | (with_reducible refine below_set ?_ (by first | assumption | (simp; done) | (simp; omega) | omega) _) | (with_reducible apply below_alloc) | (with_reducible apply below_drew) | (with_reducible apply below_drewN) | (with_reducible refine below_call ?_ (by assumption))))⟩
/-- Cut, by one that has numbers. -/
theorem c_cut (a b a' b' : Int) (h' : a' < b') (w : World) : Calls Try.prog 32 #[.agg #[.int .i64 a, .int .i64 b], .agg #[.int .i64 a', .int .i64 b']] w fun e w' => e = .returned (.tuple #[.agg #[.int .i64 (ofS a (min b a')).1, .int .i64 (ofS a (min b a')).2], .agg #[.int .i64 (ofS (max a b') b).1, .int .i64 (ofS (max a b') b).2]]) ∧ Below w.heap.size w w' := by
  have d2 : decide (b' ≤ a') = false := decide_eq_false (by omega)
  have he2 : ∀ w, Calls Try.prog 31 #[.agg #[.int .i64 a', .int .i64 b']] w fun e w' => e = .returned (.bool false) ∧ Below w.heap.size w w' := fun w => by have := c_empty a' b' w; rw [d2] at this; exact this
  obtain ⟨mn, hmn⟩ : ∃ mn, min b a' = mn := ⟨_, rfl⟩
  obtain ⟨mx, hmx⟩ : ∃ mx, max a b' = mx := ⟨_, rfl⟩
  have HE := Lib.hid (And.intro he2 (And.intro (c_of a mn) (c_of mx b)))
  rw [hmn, hmx]
  generalize ofS a mn = l at *
  generalize ofS mx b = r at *
  obtain ⟨l1, l2⟩ := l
  obtain ⟨r1, r2⟩ := r
  clear he2 d2 h'
  go_enter Try.func32, Try.ntmps32
  go_upto_region 1 with fail
  refine Ph.at_world ?_; intro W1 hW
  have k2 : hp W1 w.heap.size = some (.cells #[.int .i64 a, .int .i64 b] 30 (0, 0)) := by rw [hW]; simp [hpA, nn1, nn2]
  have k3 : hp W1 (w.heap.size + 1) = some (.cells #[.int .i64 a', .int .i64 b'] 30 (0, 0)) := by rw [hW]; simp [hpA, nn1, nn2]
  have k4 : hp W1 (w.heap.size + 2) = some (.cells #[.int .i64 0, .int .i64 0] 30 (0, 0)) := by rw [hW]; simp [hpA, nn1, nn2]
  have k5 : hp W1 (w.heap.size + 3) = some (.cells #[.int .i64 0, .int .i64 0] 30 (0, 0)) := by rw [hW]; simp [hpA, nn1, nn2]
  have HB := Lib.hid (show Below w.heap.size w W1 by rw [hW]; exact below_alloc (below_alloc (below_alloc (below_alloc (Below.refl _ _) _) _) _) _)
  clear hW
  have K := Lib.hid (And.intro k2 (And.intro k3 (And.intro k4 k5)))
  have c2 := hp_cell k2
  have c3 := hp_cell k3
  clear k2 k3 k4 k5
  have n1 : w.heap.size ≤ w.heap.size + 2 := by omega
  have n2 : w.heap.size ≤ w.heap.size + 3 := by omega
  go_upto_region 3 with (go_at_call 31; (with_reducible refine (HE.out.1 _).mono ?_); rintro e w1 ⟨rfl, hb1⟩; have HB1 := Lib.hid (below_call HB.out hb1); have K1 := Lib.hid (And.intro (hp_below hb1 K.out.1) (And.intro (hp_below hb1 K.out.2.1) (And.intro (hp_below hb1 K.out.2.2.1) (hp_below hb1 K.out.2.2.2)))); clear hb1 c2 c3)
  refine Ph.region_at (by kernel_rfl) ?_
  refine Ph.at_quiet 16 (by kernel_rfl) ?_
  simp only [List.take_succ_cons, List.take_zero, List.drop_succ_cons, List.drop_zero]
  repeat ((first | (apply Ph.wpPh_g; (focus (intro wx hS0; have c2 := hp_cell (hp_below hS0 (show hp w1.drew _ = _ from K1.out.1)); have c3 := hp_cell (hp_below hS0 (show hp w1.drew _ = _ from K1.out.2.1)); go_simp; first | exact rfl | exact ⟨rfl, Below.refl _ _⟩ | ((with_reducible refine (HE.out.2.1 _).mono ?_); rintro e w2 ⟨rfl, hb⟩; exact ⟨rfl, hb⟩) | ((with_reducible refine (HE.out.2.2 _).mono ?_); rintro e w2 ⟨rfl, hb⟩; exact ⟨rfl, hb⟩))))); simp only [Act.put, List.setIfInBounds_toArray, List.set_cons_zero, List.set_cons_succ])
  refine Ph.wpPh_nil ?_; intro w6 hS
  have HB2 := below_call HB1.out (below_call (below_drew (Below.refl _ _)) hS)
  have k4 := hp_below hS (show hp w1.drew _ = _ from K1.out.2.2.1)
  have k5 := hp_below hS (show hp w1.drew _ = _ from K1.out.2.2.2)
  have c4 := hp_cell k4
  have f4 := hp_free k4
  have c5 := hp_cell k5
  have f5 := hp_free k5
  have f5' : ∀ i u v j, ((w6.setCell ⟨w.heap.size + 2, i, none⟩ u).setCell ⟨w.heap.size + 2, j, none⟩ v).frozen? ⟨w.heap.size + 3, 0, none⟩ = false := fun i u v j => hp_free (hp_set_ne (hp_set_ne k5 (by simp) _) (by simp) _) 0
  have f6' : ∀ i u v j, ((w6.setCell ⟨w.heap.size + 2, i, none⟩ u).setCell ⟨w.heap.size + 2, j, none⟩ v).frozen? ⟨w.heap.size + 3, 1, none⟩ = false := fun i u v j => hp_free (hp_set_ne (hp_set_ne k5 (by simp) _) (by simp) _) 1
  clear k4 k5
  refine Ph.at_op rfl (by kernel_rfl) ?_
  go_wp2
  refine Ph.at_op rfl (by kernel_rfl) ?_
  go_wp2
  refine Ph.at_end (by simp) ?_
  go_wp2
  refine bodyPost_ret (v := .tuple #[.agg #[.int .i64 l1, .int .i64 l2], .agg #[.int .i64 r1, .int .i64 r2]]) (by simp [results, Try.results32, go_sem, *]; done) rfl ⟨rfl, by (repeat (first | (with_reducible assumption) | (with_reducible exact Below.refl _ _) | (with_reducible refine below_set ?_ (by first | assumption | (simp; done) | (simp; omega) | omega) _) | (with_reducible apply below_alloc) | (with_reducible apply below_drew) | (with_reducible apply below_drewN) | (with_reducible refine below_call ?_ (by assumption))))⟩
end Go.Proofs.Ytnofclmnjhkhiaa
