/- The reference's Cut. -/
import Derived.Test.YtnofclmnjhkhiaaRb2
import Derived.WalkKit
import Derived.WalkLawsBesides
import Derived.WalkSpells
import Derived.Below
import Derived.Deep.RegionHeld3
import Derived.Deep.QuietTactic
import Derived.BigQuiet
import Derived.Deep.DeepCutAuto
import Derived.Deep.DeepMust
import Derived.KernelRfl
import Derived.Lib.Hide
import Derived.Outline
import Derived.RegionTactic
import Derived.StillTailTactics
namespace Go.Proofs.Ytnofclmnjhkhiaa
open Go.RowKit Go.Cl Go.Cv
set_option maxRecDepth 100000
set_option linter.unusedVariables false
set_option linter.unusedSimpArgs false
theorem c_rcut0 (a b a' b' : Int) (h : a < b) (h' : b' ≤ a') (w : World) : Calls Try.prog 58 #[.agg #[.int .i64 a, .int .i64 b], .agg #[.int .i64 a', .int .i64 b']] w fun e w' => e = .returned (.tuple #[.agg #[.int .i64 a, .int .i64 b], .agg #[.int .i64 0, .int .i64 0]]) ∧ Below w.heap.size w w' := by
  have he1 : ∀ w, Calls Try.prog 59 #[.agg #[.int .i64 a, .int .i64 b]] w fun e w' => e = .returned (.bool false) ∧ Below w.heap.size w w' := fun w => by have := c_rempty a b w; rw [decide_eq_false (show ¬ b ≤ a by omega)] at this; exact this
  have HE1 := Lib.hid he1
  clear he1
  have he2 : ∀ w, Calls Try.prog 59 #[.agg #[.int .i64 a', .int .i64 b']] w fun e w' => e = .returned (.bool true) ∧ Below w.heap.size w w' := fun w => by have := c_rempty a' b' w; rw [decide_eq_true (show b' ≤ a' by omega)] at this; exact this
  have HE2 := Lib.hid he2
  clear he2
  clear h h'
  go_enter Try.func58, Try.ntmps58
  go_upto_region 1 with fail
  refine Ph.at_world ?_; intro W1 hW
  have k2 : hp W1 w.heap.size = some (.cells #[.int .i64 a, .int .i64 b] 53 (0, 0)) := by rw [hW]; simp [hpA, nn1, nn2]
  have k3 : hp W1 (w.heap.size + 1) = some (.cells #[.int .i64 a', .int .i64 b'] 53 (0, 0)) := by rw [hW]; simp [hpA, nn1, nn2]
  have k4 : hp W1 (w.heap.size + 2) = some (.cells #[.int .i64 0, .int .i64 0] 53 (0, 0)) := by rw [hW]; simp [hpA, nn1, nn2]
  have k5 : hp W1 (w.heap.size + 3) = some (.cells #[.int .i64 0, .int .i64 0] 53 (0, 0)) := by rw [hW]; simp [hpA, nn1, nn2]
  have HB := Lib.hid (show Below w.heap.size w W1 by rw [hW]; exact below_alloc (below_alloc (below_alloc (below_alloc (Below.refl _ _) _) _) _) _)
  clear hW
  have K := Lib.hid (And.intro k2 (And.intro k3 (And.intro k4 k5)))
  have c2 := hp_cell k2
  have c3 := hp_cell k3
  clear k2 k3 k4 k5
  have n1 : w.heap.size ≤ w.heap.size + 2 := by omega
  have n2 : w.heap.size ≤ w.heap.size + 3 := by omega
  go_upto_region 4 with (go_at_call 59; first | ((with_reducible refine (HE1.out _).mono ?_); rintro e w1 ⟨rfl, hb⟩; have HB1 := Lib.hid (below_call HB.out hb); have K1 := Lib.hid (And.intro (hp_below hb K.out.1) (And.intro (hp_below hb K.out.2.1) (And.intro (hp_below hb K.out.2.2.1) (hp_below hb K.out.2.2.2)))); replace c2 := hp_cell (hp_below hb K.out.1); replace c3 := hp_cell (hp_below hb K.out.2.1); clear hb) | ((with_reducible refine (HE2.out _).mono ?_); rintro e w2 ⟨rfl, hb⟩; have HB2 := Lib.hid (below_call HB1.out hb); have K2 := Lib.hid (And.intro (hp_below hb K1.out.1) (And.intro (hp_below hb K1.out.2.1) (And.intro (hp_below hb K1.out.2.2.1) (hp_below hb K1.out.2.2.2)))); replace c2 := hp_cell (hp_below hb K1.out.1); replace c3 := hp_cell (hp_below hb K1.out.2.1); clear hb))
  have f5' : ∀ i u v j, ((w2.setCell ⟨w.heap.size + 2, i, none⟩ u).setCell ⟨w.heap.size + 2, j, none⟩ v).frozen? ⟨w.heap.size + 3, 0, none⟩ = false := fun i u v j => hp_free (hp_set_ne (hp_set_ne K2.out.2.2.2 (by simp) _) (by simp) _) 0
  have f6' : ∀ i u v j, ((w2.setCell ⟨w.heap.size + 2, i, none⟩ u).setCell ⟨w.heap.size + 2, j, none⟩ v).frozen? ⟨w.heap.size + 3, 1, none⟩ = false := fun i u v j => hp_free (hp_set_ne (hp_set_ne K2.out.2.2.2 (by simp) _) (by simp) _) 1
  have c4 := hp_cell K2.out.2.2.1
  have f4 := hp_free K2.out.2.2.1
  have c5 := hp_cell K2.out.2.2.2
  have f5 := hp_free K2.out.2.2.2
  have hb2 := HB2.out
  go_wp2
  refine bodyPost_ret (v := .tuple #[.agg #[.int .i64 a, .int .i64 b], .agg #[.int .i64 0, .int .i64 0]]) (by simp [results, Try.results58, go_sem, *]; done) rfl ⟨rfl, by (repeat (first | (with_reducible assumption) | (with_reducible exact Below.refl _ _) | (with_reducible refine below_set ?_ (by first | assumption | (simp; done) | (simp; omega) | omega) _) | (with_reducible apply below_alloc) | (with_reducible apply below_drew) | (with_reducible apply below_drewN) | (with_reducible refine below_call ?_ (by assumption))))⟩
def CT4 (w0 : World) (x6 b4 : Nat) (l r p q : Sp) (W : World) : Prop :=
  hp W x6 = some (.cells #[.int .i64 l.1, .int .i64 l.2] 53 (0, 0)) ∧ hp W (x6 + 1) = some (.cells #[.int .i64 r.1, .int .i64 r.2] 53 (0, 0)) ∧ hp W b4 = some (.cells #[.int .i64 p.1, .int .i64 p.2] 53 (0, 0)) ∧ hp W (b4 + 1) = some (.cells #[.int .i64 q.1, .int .i64 q.2] 53 (0, 0)) ∧ Below w0.heap.size w0 W
theorem CT4.mono (w0 : World) (x6 b4 : Nat) (l r p q : Sp) : Ph.Mono1 (CT4 w0 x6 b4 l r p q) := fun w w' ⟨h1, h2, h3, h4, h5⟩ hb => ⟨hp_below hb h1, hp_below hb h2, hp_below hb h3, hp_below hb h4, below_call h5 hb⟩
set_option maxHeartbeats 8000000 in
theorem c_rcut (a b a' b' : Int) (h : a < b) (h' : a' < b') (w : World) : Calls Try.prog 58 #[.agg #[.int .i64 a, .int .i64 b], .agg #[.int .i64 a', .int .i64 b']] w fun e w' => e = .returned (.tuple #[.agg #[.int .i64 (if a < a' then (a, min b a') else ((0, 0) : Sp)).1, .int .i64 (if a < a' then (a, min b a') else ((0, 0) : Sp)).2], .agg #[.int .i64 (if b' < b then (max a b', b) else ((0, 0) : Sp)).1, .int .i64 (if b' < b then (max a b', b) else ((0, 0) : Sp)).2]]) ∧ Below w.heap.size w w' := by
  have he1 : ∀ w, Calls Try.prog 59 #[.agg #[.int .i64 a, .int .i64 b]] w fun e w' => e = .returned (.bool false) ∧ Below w.heap.size w w' := fun w => by have := c_rempty a b w; rw [decide_eq_false (show ¬ b ≤ a by omega)] at this; exact this
  have HE1 := Lib.hid he1
  clear he1
  have he2 : ∀ w, Calls Try.prog 59 #[.agg #[.int .i64 a', .int .i64 b']] w fun e w' => e = .returned (.bool false) ∧ Below w.heap.size w w' := fun w => by have := c_rempty a' b' w; rw [decide_eq_false (show ¬ b' ≤ a' by omega)] at this; exact this
  have HE2 := Lib.hid he2
  clear he2
  by_cases ql : a < a'
  · by_cases ql2 : a' < b
    · by_cases qr : b' < b
      · by_cases qr2 : a < b'
        · rw [if_pos ql, show min b a' = a' by omega]
          rw [if_pos qr, show max a b' = b' by omega]
          clear h h'
          go_enter Try.func58, Try.ntmps58
          go_upto_region 1 with fail
          refine Ph.at_world ?_; intro W1 hW
          have k2 : hp W1 w.heap.size = some (.cells #[.int .i64 a, .int .i64 b] 53 (0, 0)) := by rw [hW]; simp [hpA, nn1, nn2]
          have k3 : hp W1 (w.heap.size + 1) = some (.cells #[.int .i64 a', .int .i64 b'] 53 (0, 0)) := by rw [hW]; simp [hpA, nn1, nn2]
          have k4 : hp W1 (w.heap.size + 2) = some (.cells #[.int .i64 0, .int .i64 0] 53 (0, 0)) := by rw [hW]; simp [hpA, nn1, nn2]
          have k5 : hp W1 (w.heap.size + 3) = some (.cells #[.int .i64 0, .int .i64 0] 53 (0, 0)) := by rw [hW]; simp [hpA, nn1, nn2]
          have HB := Lib.hid (show Below w.heap.size w W1 by rw [hW]; exact below_alloc (below_alloc (below_alloc (below_alloc (Below.refl _ _) _) _) _) _)
          clear hW
          have K := Lib.hid (And.intro k2 (And.intro k3 (And.intro k4 k5)))
          have c2 := hp_cell k2
          have c3 := hp_cell k3
          clear k2 k3 k4 k5
          have n1 : w.heap.size ≤ w.heap.size + 2 := by omega
          have n2 : w.heap.size ≤ w.heap.size + 3 := by omega
          go_upto_region 6 with (go_at_call 59; first | ((with_reducible refine (HE1.out _).mono ?_); rintro e w1 ⟨rfl, hb⟩; have HB1 := Lib.hid (below_call HB.out hb); have K1 := Lib.hid (And.intro (hp_below hb K.out.1) (And.intro (hp_below hb K.out.2.1) (And.intro (hp_below hb K.out.2.2.1) (hp_below hb K.out.2.2.2)))); replace c2 := hp_cell (hp_below hb K.out.1); replace c3 := hp_cell (hp_below hb K.out.2.1); clear hb) | ((with_reducible refine (HE2.out _).mono ?_); rintro e w2 ⟨rfl, hb⟩; have HB2 := Lib.hid (below_call HB1.out hb); have K2 := Lib.hid (And.intro (hp_below hb K1.out.1) (And.intro (hp_below hb K1.out.2.1) (And.intro (hp_below hb K1.out.2.2.1) (hp_below hb K1.out.2.2.2)))); replace c2 := hp_cell (hp_below hb K1.out.1); replace c3 := hp_cell (hp_below hb K1.out.2.1); clear hb))
          clear c2 c3
          refine Ph.at_world ?_; intro W6 hW
          obtain ⟨x6, hx6⟩ : ∃ x6, w2.heap.size = x6 := ⟨_, rfl⟩
          have hs2 := HB2.out.size
          have l2 := hp_lt K2.out.1; have l3 := hp_lt K2.out.2.1; have l4 := hp_lt K2.out.2.2.1; have l5 := hp_lt K2.out.2.2.2
          rw [hx6] at hs2 l2 l3 l4 l5 ⊢
          try rw [hx6] at hW
          have hz6 : Below w2.heap.size w2 W6 := by
            have n3 : w2.heap.size ≤ x6 := by omega
            have n4 : w2.heap.size ≤ x6 + 1 := by omega
            rw [hW]; exact by (repeat (first | (with_reducible assumption) | (with_reducible exact Below.refl _ _) | (with_reducible refine below_set ?_ (by first | assumption | (simp; done) | (simp; omega) | omega) _) | (with_reducible apply below_alloc) | (with_reducible apply below_drew) | (with_reducible apply below_drewN) | (with_reducible refine below_call ?_ (by assumption))))
          have k6 : hp W6 x6 = some (.cells #[.int .i64 0, .int .i64 0] 53 (0, 0)) := by rw [hW]; simp [hpA, hpS, cset_cells, hx6]
          have k7 : hp W6 (x6 + 1) = some (.cells #[.int .i64 0, .int .i64 0] 53 (0, 0)) := by rw [hW]; simp [hpA, hpS, cset_cells, hx6]
          have HX := Lib.hid (And.intro hx6 (And.intro hs2 (And.intro l2 (And.intro l3 (And.intro l4 l5)))))
          have K6 := Lib.hid (And.intro (hp_below hz6 K2.out.1) (And.intro (hp_below hz6 K2.out.2.1) (And.intro (hp_below hz6 K2.out.2.2.1) (And.intro (hp_below hz6 K2.out.2.2.2) (And.intro k6 (And.intro k7 (below_call HB2.out hz6)))))))
          clear hW hx6 hs2 l2 l3 l4 l5 hz6 k6 k7
          have d1 : ¬ (w.heap.size = x6) := by have := HX.out; omega
          have d2 : ¬ (w.heap.size + 1 = x6) := by have := HX.out; omega
          have d3 : ¬ (w.heap.size = x6 + 1) := by have := HX.out; omega
          have d4 : ¬ (w.heap.size + 1 = x6 + 1) := by have := HX.out; omega
          have c2 := hp_cell K6.out.1
          have c3 := hp_cell K6.out.2.1
          have c6 := hp_cell K6.out.2.2.2.2.1
          have f6 := hp_free K6.out.2.2.2.2.1
          go_upto_region 10 with fail
          refine Ph.at_world ?_; intro W10 hW
          have hl := HX.out
          have k2 : hp W10 w.heap.size = some (.cells #[.int .i64 a, .int .i64 b] 53 (0, 0)) := by rw [hW]; simp [hpS, K6.out.1, show ¬ (w.heap.size = x6) by omega]
          have k3 : hp W10 (w.heap.size + 1) = some (.cells #[.int .i64 a', .int .i64 b'] 53 (0, 0)) := by rw [hW]; simp [hpS, K6.out.2.1, show ¬ (w.heap.size + 1 = x6) by omega]
          have k4 : hp W10 (w.heap.size + 2) = some (.cells #[.int .i64 0, .int .i64 0] 53 (0, 0)) := by rw [hW]; simp [hpS, K6.out.2.2.1, show ¬ (w.heap.size + 2 = x6) by omega]
          have k5 : hp W10 (w.heap.size + 3) = some (.cells #[.int .i64 0, .int .i64 0] 53 (0, 0)) := by rw [hW]; simp [hpS, K6.out.2.2.2.1, show ¬ (w.heap.size + 3 = x6) by omega]
          have k6 : hp W10 x6 = some (.cells #[.int .i64 a, .int .i64 a'] 53 (0, 0)) := by rw [hW]; simp [hpS, K6.out.2.2.2.2.1, cset_cells]
          have k7 : hp W10 (x6 + 1) = some (.cells #[.int .i64 0, .int .i64 0] 53 (0, 0)) := by rw [hW]; simp [hpS, K6.out.2.2.2.2.2.1]
          have hb10 : Below w.heap.size w W10 := by
            have n3 : w.heap.size ≤ x6 := by omega
            have hb6 := K6.out.2.2.2.2.2.2
            rw [hW]; exact by (repeat (first | (with_reducible assumption) | (with_reducible exact Below.refl _ _) | (with_reducible refine below_set ?_ (by first | assumption | (simp; done) | (simp; omega) | omega) _) | (with_reducible apply below_alloc) | (with_reducible apply below_drew) | (with_reducible apply below_drewN) | (with_reducible refine below_call ?_ (by assumption))))
          clear hW c2 c3 c6 f6
          have K10 := Lib.hid (And.intro k2 (And.intro k3 (And.intro k4 (And.intro k5 (And.intro k6 (And.intro k7 hb10))))))
          clear k2 k3 k4 k5 k6 k7 hb10 hl
          have c2 := hp_cell K10.out.1
          have c3 := hp_cell K10.out.2.1
          have c7 := hp_cell K10.out.2.2.2.2.2.1
          have f7 := hp_free K10.out.2.2.2.2.2.1
          go_upto_region 14 with fail
          refine Ph.at_world ?_; intro W14 hW
          have hl := HX.out
          have k4 : hp W14 (w.heap.size + 2) = some (.cells #[.int .i64 0, .int .i64 0] 53 (0, 0)) := by rw [hW]; simp [hpS, K10.out.2.2.1, show ¬ (w.heap.size + 2 = x6 + 1) by omega]
          have k5 : hp W14 (w.heap.size + 3) = some (.cells #[.int .i64 0, .int .i64 0] 53 (0, 0)) := by rw [hW]; simp [hpS, K10.out.2.2.2.1, show ¬ (w.heap.size + 3 = x6 + 1) by omega]
          have k6 : hp W14 x6 = some (.cells #[.int .i64 a, .int .i64 a'] 53 (0, 0)) := by rw [hW]; simp [hpS, K10.out.2.2.2.2.1, cset_cells]
          have k7 : hp W14 (x6 + 1) = some (.cells #[.int .i64 b', .int .i64 b] 53 (0, 0)) := by rw [hW]; simp [hpS, K10.out.2.2.2.2.2.1, cset_cells]
          have hb14 : Below w.heap.size w W14 := by
            have n3 : w.heap.size ≤ x6 + 1 := by omega
            have hb10 := K10.out.2.2.2.2.2.2
            rw [hW]; exact by (repeat (first | (with_reducible assumption) | (with_reducible exact Below.refl _ _) | (with_reducible refine below_set ?_ (by first | assumption | (simp; done) | (simp; omega) | omega) _) | (with_reducible apply below_alloc) | (with_reducible apply below_drew) | (with_reducible apply below_drewN) | (with_reducible refine below_call ?_ (by assumption))))
          clear hW c2 c3 c7 f7
          have hA0 : CT4 w x6 (w.heap.size + 2) (a, a') (b', b) (0, 0) (0, 0) W14 := ⟨k6, k7, k4, k5, hb14⟩
          have HNE := Lib.hid (show x6 ≠ w.heap.size + 2 ∧ x6 + 1 ≠ w.heap.size + 2 ∧ x6 ≠ w.heap.size + 3 ∧ x6 + 1 ≠ w.heap.size + 3 by omega)
          clear k4 k5 k6 k7 hb14 hl d1 d2 d3 d4
          refine Ph.region_at (by kernel_rfl) ?_
          refine Ph.at_stage 4 (fun i => if i < 0 then (0, 100, 0) else ([(0, 0, 0), (0, 1, 0), (0, 0, 1), (1, 1, 1)] : List (Nat × Nat × Nat)).getD (i - 0) (0, 0, 0)) (Ph.S3 (CT4 w x6 (w.heap.size + 2) (a, a') (b', b) (0, 0) (0, 0)) (CT4 w x6 (w.heap.size + 2) (a, a') (b', b) (a, a') (0, 0)) (CT4 w x6 (w.heap.size + 2) (a, a') (b', b) (a, a') (b', b))) (by kernel_rfl) (by kernel_rfl) (CT4.mono _ _ _ _ _ _ _ _ _ hA0 (below_drew (Below.refl _ _))) ?_
          simp only [List.take_succ_cons, List.take_zero, List.drop_succ_cons, List.drop_zero]
          apply Ph.wpPh_q (Ph.S3_mono (CT4.mono _ _ _ _ _ _ _) (CT4.mono _ _ _ _ _ _ _) (CT4.mono _ _ _ _ _ _ _)) 0 0 rfl rfl; (focus (intro k0 hk1 hk2 w1 hS0; obtain rfl : k0 = 0 := Nat.le_antisymm hk2 hk1; obtain ⟨h1, h2, h3, h4, h5⟩ := hS0; have c6 := hp_cell h1; have c7 := hp_cell h2; go_simp; first | exact rfl | exact ⟨rfl, Below.refl _ _⟩ | exact Below.refl _ _)); try simp only [Act.put, List.setIfInBounds_toArray, List.set_cons_zero, List.set_cons_succ]
          apply Ph.wpPh_q (Ph.S3_mono (CT4.mono _ _ _ _ _ _ _) (CT4.mono _ _ _ _ _ _ _) (CT4.mono _ _ _ _ _ _ _)) 0 1 rfl rfl; (focus (intro k0 hk1 hk2 w1 hS0; (rcases (by omega : k0 = 0 ∨ k0 = 1) with rfl | rfl) <;> (obtain ⟨h1, h2, h3, h4, h5⟩ := hS0; have c6 := hp_cell h1; have c7 := hp_cell h2; go_simp; first | exact rfl | exact ⟨rfl, Below.refl _ _⟩ | exact Below.refl _ _))); try simp only [Act.put, List.setIfInBounds_toArray, List.set_cons_zero, List.set_cons_succ]
          apply Ph.wpPh_e 0 rfl rfl; (focus (intro w1 hS0; obtain ⟨h1, h2, h3, h4, h5⟩ := hS0; have c4 := hp_cell h3; have f4 := hp_free h3; have n1 : w.heap.size ≤ w.heap.size + 2 := (by omega); go_simp; all_goals exact ⟨rfl, hp_set_ne (hp_set_ne h1 HNE.out.1 _) HNE.out.1 _, hp_set_ne (hp_set_ne h2 HNE.out.2.1 _) HNE.out.2.1 _, hp_set (hp_set h3 _) _, hp_set_ne (hp_set_ne h4 (by simp) _) (by simp) _, below_set (below_set h5 n1 _) n1 _⟩)); try simp only [Act.put, List.setIfInBounds_toArray, List.set_cons_zero, List.set_cons_succ]
          apply Ph.wpPh_e 1 rfl rfl; (focus (intro w1 hS0; obtain ⟨h1, h2, h3, h4, h5⟩ := hS0; have c5 := hp_cell (show hp w1 (w.heap.size + 3) = _ from h4); have f5 := hp_free (show hp w1 (w.heap.size + 3) = _ from h4); have n1 : w.heap.size ≤ w.heap.size + 3 := (by omega); go_simp; all_goals exact ⟨rfl, hp_set_ne (hp_set_ne h1 HNE.out.2.2.1 _) HNE.out.2.2.1 _, hp_set_ne (hp_set_ne h2 HNE.out.2.2.2 _) HNE.out.2.2.2 _, hp_set_ne (hp_set_ne h3 (by simp) _) (by simp) _, hp_set (hp_set h4 _) _, below_set (below_set h5 n1 _) n1 _⟩)); try simp only [Act.put, List.setIfInBounds_toArray, List.set_cons_zero, List.set_cons_succ]
          refine Ph.wpPh_nil ?_; intro wq hS
          refine Ph.at_end (by simp) ?_
          obtain ⟨_, _, k4, k5, hb2⟩ := hS
          have c4 := hp_cell k4
          have c5 := hp_cell (show hp wq (w.heap.size + 3) = _ from k5)
          clear k4 k5
          go_wp2
          refine bodyPost_ret (v := .tuple #[.agg #[.int .i64 a, .int .i64 a'], .agg #[.int .i64 b', .int .i64 b]]) (by simp [results, Try.results58, go_sem, *]; done) rfl ⟨rfl, by (repeat (first | (with_reducible assumption) | (with_reducible exact Below.refl _ _) | (with_reducible refine below_set ?_ (by first | assumption | (simp; done) | (simp; omega) | omega) _) | (with_reducible apply below_alloc) | (with_reducible apply below_drew) | (with_reducible apply below_drewN) | (with_reducible refine below_call ?_ (by assumption))))⟩
        · rw [if_pos ql, show min b a' = a' by omega]
          rw [if_pos qr, show max a b' = a by omega]
          clear h h'
          go_enter Try.func58, Try.ntmps58
          go_upto_region 1 with fail
          refine Ph.at_world ?_; intro W1 hW
          have k2 : hp W1 w.heap.size = some (.cells #[.int .i64 a, .int .i64 b] 53 (0, 0)) := by rw [hW]; simp [hpA, nn1, nn2]
          have k3 : hp W1 (w.heap.size + 1) = some (.cells #[.int .i64 a', .int .i64 b'] 53 (0, 0)) := by rw [hW]; simp [hpA, nn1, nn2]
          have k4 : hp W1 (w.heap.size + 2) = some (.cells #[.int .i64 0, .int .i64 0] 53 (0, 0)) := by rw [hW]; simp [hpA, nn1, nn2]
          have k5 : hp W1 (w.heap.size + 3) = some (.cells #[.int .i64 0, .int .i64 0] 53 (0, 0)) := by rw [hW]; simp [hpA, nn1, nn2]
          have HB := Lib.hid (show Below w.heap.size w W1 by rw [hW]; exact below_alloc (below_alloc (below_alloc (below_alloc (Below.refl _ _) _) _) _) _)
          clear hW
          have K := Lib.hid (And.intro k2 (And.intro k3 (And.intro k4 k5)))
          have c2 := hp_cell k2
          have c3 := hp_cell k3
          clear k2 k3 k4 k5
          have n1 : w.heap.size ≤ w.heap.size + 2 := by omega
          have n2 : w.heap.size ≤ w.heap.size + 3 := by omega
          go_upto_region 6 with (go_at_call 59; first | ((with_reducible refine (HE1.out _).mono ?_); rintro e w1 ⟨rfl, hb⟩; have HB1 := Lib.hid (below_call HB.out hb); have K1 := Lib.hid (And.intro (hp_below hb K.out.1) (And.intro (hp_below hb K.out.2.1) (And.intro (hp_below hb K.out.2.2.1) (hp_below hb K.out.2.2.2)))); replace c2 := hp_cell (hp_below hb K.out.1); replace c3 := hp_cell (hp_below hb K.out.2.1); clear hb) | ((with_reducible refine (HE2.out _).mono ?_); rintro e w2 ⟨rfl, hb⟩; have HB2 := Lib.hid (below_call HB1.out hb); have K2 := Lib.hid (And.intro (hp_below hb K1.out.1) (And.intro (hp_below hb K1.out.2.1) (And.intro (hp_below hb K1.out.2.2.1) (hp_below hb K1.out.2.2.2)))); replace c2 := hp_cell (hp_below hb K1.out.1); replace c3 := hp_cell (hp_below hb K1.out.2.1); clear hb))
          clear c2 c3
          refine Ph.at_world ?_; intro W6 hW
          obtain ⟨x6, hx6⟩ : ∃ x6, w2.heap.size = x6 := ⟨_, rfl⟩
          have hs2 := HB2.out.size
          have l2 := hp_lt K2.out.1; have l3 := hp_lt K2.out.2.1; have l4 := hp_lt K2.out.2.2.1; have l5 := hp_lt K2.out.2.2.2
          rw [hx6] at hs2 l2 l3 l4 l5 ⊢
          try rw [hx6] at hW
          have hz6 : Below w2.heap.size w2 W6 := by
            have n3 : w2.heap.size ≤ x6 := by omega
            have n4 : w2.heap.size ≤ x6 + 1 := by omega
            rw [hW]; exact by (repeat (first | (with_reducible assumption) | (with_reducible exact Below.refl _ _) | (with_reducible refine below_set ?_ (by first | assumption | (simp; done) | (simp; omega) | omega) _) | (with_reducible apply below_alloc) | (with_reducible apply below_drew) | (with_reducible apply below_drewN) | (with_reducible refine below_call ?_ (by assumption))))
          have k6 : hp W6 x6 = some (.cells #[.int .i64 0, .int .i64 0] 53 (0, 0)) := by rw [hW]; simp [hpA, hpS, cset_cells, hx6]
          have k7 : hp W6 (x6 + 1) = some (.cells #[.int .i64 0, .int .i64 0] 53 (0, 0)) := by rw [hW]; simp [hpA, hpS, cset_cells, hx6]
          have HX := Lib.hid (And.intro hx6 (And.intro hs2 (And.intro l2 (And.intro l3 (And.intro l4 l5)))))
          have K6 := Lib.hid (And.intro (hp_below hz6 K2.out.1) (And.intro (hp_below hz6 K2.out.2.1) (And.intro (hp_below hz6 K2.out.2.2.1) (And.intro (hp_below hz6 K2.out.2.2.2) (And.intro k6 (And.intro k7 (below_call HB2.out hz6)))))))
          clear hW hx6 hs2 l2 l3 l4 l5 hz6 k6 k7
          have d1 : ¬ (w.heap.size = x6) := by have := HX.out; omega
          have d2 : ¬ (w.heap.size + 1 = x6) := by have := HX.out; omega
          have d3 : ¬ (w.heap.size = x6 + 1) := by have := HX.out; omega
          have d4 : ¬ (w.heap.size + 1 = x6 + 1) := by have := HX.out; omega
          have c2 := hp_cell K6.out.1
          have c3 := hp_cell K6.out.2.1
          have c6 := hp_cell K6.out.2.2.2.2.1
          have f6 := hp_free K6.out.2.2.2.2.1
          go_upto_region 10 with fail
          refine Ph.at_world ?_; intro W10 hW
          have hl := HX.out
          have k2 : hp W10 w.heap.size = some (.cells #[.int .i64 a, .int .i64 b] 53 (0, 0)) := by rw [hW]; simp [hpS, K6.out.1, show ¬ (w.heap.size = x6) by omega]
          have k3 : hp W10 (w.heap.size + 1) = some (.cells #[.int .i64 a', .int .i64 b'] 53 (0, 0)) := by rw [hW]; simp [hpS, K6.out.2.1, show ¬ (w.heap.size + 1 = x6) by omega]
          have k4 : hp W10 (w.heap.size + 2) = some (.cells #[.int .i64 0, .int .i64 0] 53 (0, 0)) := by rw [hW]; simp [hpS, K6.out.2.2.1, show ¬ (w.heap.size + 2 = x6) by omega]
          have k5 : hp W10 (w.heap.size + 3) = some (.cells #[.int .i64 0, .int .i64 0] 53 (0, 0)) := by rw [hW]; simp [hpS, K6.out.2.2.2.1, show ¬ (w.heap.size + 3 = x6) by omega]
          have k6 : hp W10 x6 = some (.cells #[.int .i64 a, .int .i64 a'] 53 (0, 0)) := by rw [hW]; simp [hpS, K6.out.2.2.2.2.1, cset_cells]
          have k7 : hp W10 (x6 + 1) = some (.cells #[.int .i64 0, .int .i64 0] 53 (0, 0)) := by rw [hW]; simp [hpS, K6.out.2.2.2.2.2.1]
          have hb10 : Below w.heap.size w W10 := by
            have n3 : w.heap.size ≤ x6 := by omega
            have hb6 := K6.out.2.2.2.2.2.2
            rw [hW]; exact by (repeat (first | (with_reducible assumption) | (with_reducible exact Below.refl _ _) | (with_reducible refine below_set ?_ (by first | assumption | (simp; done) | (simp; omega) | omega) _) | (with_reducible apply below_alloc) | (with_reducible apply below_drew) | (with_reducible apply below_drewN) | (with_reducible refine below_call ?_ (by assumption))))
          clear hW c2 c3 c6 f6
          have K10 := Lib.hid (And.intro k2 (And.intro k3 (And.intro k4 (And.intro k5 (And.intro k6 (And.intro k7 hb10))))))
          clear k2 k3 k4 k5 k6 k7 hb10 hl
          have c2 := hp_cell K10.out.1
          have c3 := hp_cell K10.out.2.1
          have c7 := hp_cell K10.out.2.2.2.2.2.1
          have f7 := hp_free K10.out.2.2.2.2.2.1
          go_upto_region 14 with fail
          refine Ph.at_world ?_; intro W14 hW
          have hl := HX.out
          have k4 : hp W14 (w.heap.size + 2) = some (.cells #[.int .i64 0, .int .i64 0] 53 (0, 0)) := by rw [hW]; simp [hpS, K10.out.2.2.1, show ¬ (w.heap.size + 2 = x6 + 1) by omega]
          have k5 : hp W14 (w.heap.size + 3) = some (.cells #[.int .i64 0, .int .i64 0] 53 (0, 0)) := by rw [hW]; simp [hpS, K10.out.2.2.2.1, show ¬ (w.heap.size + 3 = x6 + 1) by omega]
          have k6 : hp W14 x6 = some (.cells #[.int .i64 a, .int .i64 a'] 53 (0, 0)) := by rw [hW]; simp [hpS, K10.out.2.2.2.2.1, cset_cells]
          have k7 : hp W14 (x6 + 1) = some (.cells #[.int .i64 a, .int .i64 b] 53 (0, 0)) := by rw [hW]; simp [hpS, K10.out.2.2.2.2.2.1, cset_cells]
          have hb14 : Below w.heap.size w W14 := by
            have n3 : w.heap.size ≤ x6 + 1 := by omega
            have hb10 := K10.out.2.2.2.2.2.2
            rw [hW]; exact by (repeat (first | (with_reducible assumption) | (with_reducible exact Below.refl _ _) | (with_reducible refine below_set ?_ (by first | assumption | (simp; done) | (simp; omega) | omega) _) | (with_reducible apply below_alloc) | (with_reducible apply below_drew) | (with_reducible apply below_drewN) | (with_reducible refine below_call ?_ (by assumption))))
          clear hW c2 c3 c7 f7
          have hA0 : CT4 w x6 (w.heap.size + 2) (a, a') (a, b) (0, 0) (0, 0) W14 := ⟨k6, k7, k4, k5, hb14⟩
          have HNE := Lib.hid (show x6 ≠ w.heap.size + 2 ∧ x6 + 1 ≠ w.heap.size + 2 ∧ x6 ≠ w.heap.size + 3 ∧ x6 + 1 ≠ w.heap.size + 3 by omega)
          clear k4 k5 k6 k7 hb14 hl d1 d2 d3 d4
          refine Ph.region_at (by kernel_rfl) ?_
          refine Ph.at_stage 4 (fun i => if i < 0 then (0, 100, 0) else ([(0, 0, 0), (0, 1, 0), (0, 0, 1), (1, 1, 1)] : List (Nat × Nat × Nat)).getD (i - 0) (0, 0, 0)) (Ph.S3 (CT4 w x6 (w.heap.size + 2) (a, a') (a, b) (0, 0) (0, 0)) (CT4 w x6 (w.heap.size + 2) (a, a') (a, b) (a, a') (0, 0)) (CT4 w x6 (w.heap.size + 2) (a, a') (a, b) (a, a') (a, b))) (by kernel_rfl) (by kernel_rfl) (CT4.mono _ _ _ _ _ _ _ _ _ hA0 (below_drew (Below.refl _ _))) ?_
          simp only [List.take_succ_cons, List.take_zero, List.drop_succ_cons, List.drop_zero]
          apply Ph.wpPh_q (Ph.S3_mono (CT4.mono _ _ _ _ _ _ _) (CT4.mono _ _ _ _ _ _ _) (CT4.mono _ _ _ _ _ _ _)) 0 0 rfl rfl; (focus (intro k0 hk1 hk2 w1 hS0; obtain rfl : k0 = 0 := Nat.le_antisymm hk2 hk1; obtain ⟨h1, h2, h3, h4, h5⟩ := hS0; have c6 := hp_cell h1; have c7 := hp_cell h2; go_simp; first | exact rfl | exact ⟨rfl, Below.refl _ _⟩ | exact Below.refl _ _)); try simp only [Act.put, List.setIfInBounds_toArray, List.set_cons_zero, List.set_cons_succ]
          apply Ph.wpPh_q (Ph.S3_mono (CT4.mono _ _ _ _ _ _ _) (CT4.mono _ _ _ _ _ _ _) (CT4.mono _ _ _ _ _ _ _)) 0 1 rfl rfl; (focus (intro k0 hk1 hk2 w1 hS0; (rcases (by omega : k0 = 0 ∨ k0 = 1) with rfl | rfl) <;> (obtain ⟨h1, h2, h3, h4, h5⟩ := hS0; have c6 := hp_cell h1; have c7 := hp_cell h2; go_simp; first | exact rfl | exact ⟨rfl, Below.refl _ _⟩ | exact Below.refl _ _))); try simp only [Act.put, List.setIfInBounds_toArray, List.set_cons_zero, List.set_cons_succ]
          apply Ph.wpPh_e 0 rfl rfl; (focus (intro w1 hS0; obtain ⟨h1, h2, h3, h4, h5⟩ := hS0; have c4 := hp_cell h3; have f4 := hp_free h3; have n1 : w.heap.size ≤ w.heap.size + 2 := (by omega); go_simp; all_goals exact ⟨rfl, hp_set_ne (hp_set_ne h1 HNE.out.1 _) HNE.out.1 _, hp_set_ne (hp_set_ne h2 HNE.out.2.1 _) HNE.out.2.1 _, hp_set (hp_set h3 _) _, hp_set_ne (hp_set_ne h4 (by simp) _) (by simp) _, below_set (below_set h5 n1 _) n1 _⟩)); try simp only [Act.put, List.setIfInBounds_toArray, List.set_cons_zero, List.set_cons_succ]
          apply Ph.wpPh_e 1 rfl rfl; (focus (intro w1 hS0; obtain ⟨h1, h2, h3, h4, h5⟩ := hS0; have c5 := hp_cell (show hp w1 (w.heap.size + 3) = _ from h4); have f5 := hp_free (show hp w1 (w.heap.size + 3) = _ from h4); have n1 : w.heap.size ≤ w.heap.size + 3 := (by omega); go_simp; all_goals exact ⟨rfl, hp_set_ne (hp_set_ne h1 HNE.out.2.2.1 _) HNE.out.2.2.1 _, hp_set_ne (hp_set_ne h2 HNE.out.2.2.2 _) HNE.out.2.2.2 _, hp_set_ne (hp_set_ne h3 (by simp) _) (by simp) _, hp_set (hp_set h4 _) _, below_set (below_set h5 n1 _) n1 _⟩)); try simp only [Act.put, List.setIfInBounds_toArray, List.set_cons_zero, List.set_cons_succ]
          refine Ph.wpPh_nil ?_; intro wq hS
          refine Ph.at_end (by simp) ?_
          obtain ⟨_, _, k4, k5, hb2⟩ := hS
          have c4 := hp_cell k4
          have c5 := hp_cell (show hp wq (w.heap.size + 3) = _ from k5)
          clear k4 k5
          go_wp2
          refine bodyPost_ret (v := .tuple #[.agg #[.int .i64 a, .int .i64 a'], .agg #[.int .i64 a, .int .i64 b]]) (by simp [results, Try.results58, go_sem, *]; done) rfl ⟨rfl, by (repeat (first | (with_reducible assumption) | (with_reducible exact Below.refl _ _) | (with_reducible refine below_set ?_ (by first | assumption | (simp; done) | (simp; omega) | omega) _) | (with_reducible apply below_alloc) | (with_reducible apply below_drew) | (with_reducible apply below_drewN) | (with_reducible refine below_call ?_ (by assumption))))⟩
      · rw [if_pos ql, show min b a' = a' by omega]
        rw [if_neg qr]
        clear h h'
        go_enter Try.func58, Try.ntmps58
        go_upto_region 1 with fail
        refine Ph.at_world ?_; intro W1 hW
        have k2 : hp W1 w.heap.size = some (.cells #[.int .i64 a, .int .i64 b] 53 (0, 0)) := by rw [hW]; simp [hpA, nn1, nn2]
        have k3 : hp W1 (w.heap.size + 1) = some (.cells #[.int .i64 a', .int .i64 b'] 53 (0, 0)) := by rw [hW]; simp [hpA, nn1, nn2]
        have k4 : hp W1 (w.heap.size + 2) = some (.cells #[.int .i64 0, .int .i64 0] 53 (0, 0)) := by rw [hW]; simp [hpA, nn1, nn2]
        have k5 : hp W1 (w.heap.size + 3) = some (.cells #[.int .i64 0, .int .i64 0] 53 (0, 0)) := by rw [hW]; simp [hpA, nn1, nn2]
        have HB := Lib.hid (show Below w.heap.size w W1 by rw [hW]; exact below_alloc (below_alloc (below_alloc (below_alloc (Below.refl _ _) _) _) _) _)
        clear hW
        have K := Lib.hid (And.intro k2 (And.intro k3 (And.intro k4 k5)))
        have c2 := hp_cell k2
        have c3 := hp_cell k3
        clear k2 k3 k4 k5
        have n1 : w.heap.size ≤ w.heap.size + 2 := by omega
        have n2 : w.heap.size ≤ w.heap.size + 3 := by omega
        go_upto_region 6 with (go_at_call 59; first | ((with_reducible refine (HE1.out _).mono ?_); rintro e w1 ⟨rfl, hb⟩; have HB1 := Lib.hid (below_call HB.out hb); have K1 := Lib.hid (And.intro (hp_below hb K.out.1) (And.intro (hp_below hb K.out.2.1) (And.intro (hp_below hb K.out.2.2.1) (hp_below hb K.out.2.2.2)))); replace c2 := hp_cell (hp_below hb K.out.1); replace c3 := hp_cell (hp_below hb K.out.2.1); clear hb) | ((with_reducible refine (HE2.out _).mono ?_); rintro e w2 ⟨rfl, hb⟩; have HB2 := Lib.hid (below_call HB1.out hb); have K2 := Lib.hid (And.intro (hp_below hb K1.out.1) (And.intro (hp_below hb K1.out.2.1) (And.intro (hp_below hb K1.out.2.2.1) (hp_below hb K1.out.2.2.2)))); replace c2 := hp_cell (hp_below hb K1.out.1); replace c3 := hp_cell (hp_below hb K1.out.2.1); clear hb))
        clear c2 c3
        refine Ph.at_world ?_; intro W6 hW
        obtain ⟨x6, hx6⟩ : ∃ x6, w2.heap.size = x6 := ⟨_, rfl⟩
        have hs2 := HB2.out.size
        have l2 := hp_lt K2.out.1; have l3 := hp_lt K2.out.2.1; have l4 := hp_lt K2.out.2.2.1; have l5 := hp_lt K2.out.2.2.2
        rw [hx6] at hs2 l2 l3 l4 l5 ⊢
        try rw [hx6] at hW
        have hz6 : Below w2.heap.size w2 W6 := by
          have n3 : w2.heap.size ≤ x6 := by omega
          have n4 : w2.heap.size ≤ x6 + 1 := by omega
          rw [hW]; exact by (repeat (first | (with_reducible assumption) | (with_reducible exact Below.refl _ _) | (with_reducible refine below_set ?_ (by first | assumption | (simp; done) | (simp; omega) | omega) _) | (with_reducible apply below_alloc) | (with_reducible apply below_drew) | (with_reducible apply below_drewN) | (with_reducible refine below_call ?_ (by assumption))))
        have k6 : hp W6 x6 = some (.cells #[.int .i64 0, .int .i64 0] 53 (0, 0)) := by rw [hW]; simp [hpA, hpS, cset_cells, hx6]
        have k7 : hp W6 (x6 + 1) = some (.cells #[.int .i64 0, .int .i64 0] 53 (0, 0)) := by rw [hW]; simp [hpA, hpS, cset_cells, hx6]
        have HX := Lib.hid (And.intro hx6 (And.intro hs2 (And.intro l2 (And.intro l3 (And.intro l4 l5)))))
        have K6 := Lib.hid (And.intro (hp_below hz6 K2.out.1) (And.intro (hp_below hz6 K2.out.2.1) (And.intro (hp_below hz6 K2.out.2.2.1) (And.intro (hp_below hz6 K2.out.2.2.2) (And.intro k6 (And.intro k7 (below_call HB2.out hz6)))))))
        clear hW hx6 hs2 l2 l3 l4 l5 hz6 k6 k7
        have d1 : ¬ (w.heap.size = x6) := by have := HX.out; omega
        have d2 : ¬ (w.heap.size + 1 = x6) := by have := HX.out; omega
        have d3 : ¬ (w.heap.size = x6 + 1) := by have := HX.out; omega
        have d4 : ¬ (w.heap.size + 1 = x6 + 1) := by have := HX.out; omega
        have c2 := hp_cell K6.out.1
        have c3 := hp_cell K6.out.2.1
        have c6 := hp_cell K6.out.2.2.2.2.1
        have f6 := hp_free K6.out.2.2.2.2.1
        go_upto_region 10 with fail
        refine Ph.at_world ?_; intro W10 hW
        have hl := HX.out
        have k2 : hp W10 w.heap.size = some (.cells #[.int .i64 a, .int .i64 b] 53 (0, 0)) := by rw [hW]; simp [hpS, K6.out.1, show ¬ (w.heap.size = x6) by omega]
        have k3 : hp W10 (w.heap.size + 1) = some (.cells #[.int .i64 a', .int .i64 b'] 53 (0, 0)) := by rw [hW]; simp [hpS, K6.out.2.1, show ¬ (w.heap.size + 1 = x6) by omega]
        have k4 : hp W10 (w.heap.size + 2) = some (.cells #[.int .i64 0, .int .i64 0] 53 (0, 0)) := by rw [hW]; simp [hpS, K6.out.2.2.1, show ¬ (w.heap.size + 2 = x6) by omega]
        have k5 : hp W10 (w.heap.size + 3) = some (.cells #[.int .i64 0, .int .i64 0] 53 (0, 0)) := by rw [hW]; simp [hpS, K6.out.2.2.2.1, show ¬ (w.heap.size + 3 = x6) by omega]
        have k6 : hp W10 x6 = some (.cells #[.int .i64 a, .int .i64 a'] 53 (0, 0)) := by rw [hW]; simp [hpS, K6.out.2.2.2.2.1, cset_cells]
        have k7 : hp W10 (x6 + 1) = some (.cells #[.int .i64 0, .int .i64 0] 53 (0, 0)) := by rw [hW]; simp [hpS, K6.out.2.2.2.2.2.1]
        have hb10 : Below w.heap.size w W10 := by
          have n3 : w.heap.size ≤ x6 := by omega
          have hb6 := K6.out.2.2.2.2.2.2
          rw [hW]; exact by (repeat (first | (with_reducible assumption) | (with_reducible exact Below.refl _ _) | (with_reducible refine below_set ?_ (by first | assumption | (simp; done) | (simp; omega) | omega) _) | (with_reducible apply below_alloc) | (with_reducible apply below_drew) | (with_reducible apply below_drewN) | (with_reducible refine below_call ?_ (by assumption))))
        clear hW c2 c3 c6 f6
        have K10 := Lib.hid (And.intro k2 (And.intro k3 (And.intro k4 (And.intro k5 (And.intro k6 (And.intro k7 hb10))))))
        clear k2 k3 k4 k5 k6 k7 hb10 hl
        have c2 := hp_cell K10.out.1
        have c3 := hp_cell K10.out.2.1
        have c7 := hp_cell K10.out.2.2.2.2.2.1
        have f7 := hp_free K10.out.2.2.2.2.2.1
        go_upto_region 14 with fail
        refine Ph.at_world ?_; intro W14 hW
        have hl := HX.out
        have k4 : hp W14 (w.heap.size + 2) = some (.cells #[.int .i64 0, .int .i64 0] 53 (0, 0)) := by rw [hW]; simp [hpS, K10.out.2.2.1, show ¬ (w.heap.size + 2 = x6 + 1) by omega]
        have k5 : hp W14 (w.heap.size + 3) = some (.cells #[.int .i64 0, .int .i64 0] 53 (0, 0)) := by rw [hW]; simp [hpS, K10.out.2.2.2.1, show ¬ (w.heap.size + 3 = x6 + 1) by omega]
        have k6 : hp W14 x6 = some (.cells #[.int .i64 a, .int .i64 a'] 53 (0, 0)) := by rw [hW]; simp [hpS, K10.out.2.2.2.2.1, cset_cells]
        have k7 : hp W14 (x6 + 1) = some (.cells #[.int .i64 0, .int .i64 0] 53 (0, 0)) := by rw [hW]; simp [hpS, K10.out.2.2.2.2.2.1, cset_cells]
        have hb14 : Below w.heap.size w W14 := by
          have n3 : w.heap.size ≤ x6 + 1 := by omega
          have hb10 := K10.out.2.2.2.2.2.2
          rw [hW]; exact by (repeat (first | (with_reducible assumption) | (with_reducible exact Below.refl _ _) | (with_reducible refine below_set ?_ (by first | assumption | (simp; done) | (simp; omega) | omega) _) | (with_reducible apply below_alloc) | (with_reducible apply below_drew) | (with_reducible apply below_drewN) | (with_reducible refine below_call ?_ (by assumption))))
        clear hW c2 c3 c7 f7
        have hA0 : CT4 w x6 (w.heap.size + 2) (a, a') (0, 0) (0, 0) (0, 0) W14 := ⟨k6, k7, k4, k5, hb14⟩
        have HNE := Lib.hid (show x6 ≠ w.heap.size + 2 ∧ x6 + 1 ≠ w.heap.size + 2 ∧ x6 ≠ w.heap.size + 3 ∧ x6 + 1 ≠ w.heap.size + 3 by omega)
        clear k4 k5 k6 k7 hb14 hl d1 d2 d3 d4
        refine Ph.region_at (by kernel_rfl) ?_
        refine Ph.at_stage 4 (fun i => if i < 0 then (0, 100, 0) else ([(0, 0, 0), (0, 1, 0), (0, 0, 1), (1, 1, 1)] : List (Nat × Nat × Nat)).getD (i - 0) (0, 0, 0)) (Ph.S3 (CT4 w x6 (w.heap.size + 2) (a, a') (0, 0) (0, 0) (0, 0)) (CT4 w x6 (w.heap.size + 2) (a, a') (0, 0) (a, a') (0, 0)) (CT4 w x6 (w.heap.size + 2) (a, a') (0, 0) (a, a') (0, 0))) (by kernel_rfl) (by kernel_rfl) (CT4.mono _ _ _ _ _ _ _ _ _ hA0 (below_drew (Below.refl _ _))) ?_
        simp only [List.take_succ_cons, List.take_zero, List.drop_succ_cons, List.drop_zero]
        apply Ph.wpPh_q (Ph.S3_mono (CT4.mono _ _ _ _ _ _ _) (CT4.mono _ _ _ _ _ _ _) (CT4.mono _ _ _ _ _ _ _)) 0 0 rfl rfl; (focus (intro k0 hk1 hk2 w1 hS0; obtain rfl : k0 = 0 := Nat.le_antisymm hk2 hk1; obtain ⟨h1, h2, h3, h4, h5⟩ := hS0; have c6 := hp_cell h1; have c7 := hp_cell h2; go_simp; first | exact rfl | exact ⟨rfl, Below.refl _ _⟩ | exact Below.refl _ _)); try simp only [Act.put, List.setIfInBounds_toArray, List.set_cons_zero, List.set_cons_succ]
        apply Ph.wpPh_q (Ph.S3_mono (CT4.mono _ _ _ _ _ _ _) (CT4.mono _ _ _ _ _ _ _) (CT4.mono _ _ _ _ _ _ _)) 0 1 rfl rfl; (focus (intro k0 hk1 hk2 w1 hS0; (rcases (by omega : k0 = 0 ∨ k0 = 1) with rfl | rfl) <;> (obtain ⟨h1, h2, h3, h4, h5⟩ := hS0; have c6 := hp_cell h1; have c7 := hp_cell h2; go_simp; first | exact rfl | exact ⟨rfl, Below.refl _ _⟩ | exact Below.refl _ _))); try simp only [Act.put, List.setIfInBounds_toArray, List.set_cons_zero, List.set_cons_succ]
        apply Ph.wpPh_e 0 rfl rfl; (focus (intro w1 hS0; obtain ⟨h1, h2, h3, h4, h5⟩ := hS0; have c4 := hp_cell h3; have f4 := hp_free h3; have n1 : w.heap.size ≤ w.heap.size + 2 := (by omega); go_simp; all_goals exact ⟨rfl, hp_set_ne (hp_set_ne h1 HNE.out.1 _) HNE.out.1 _, hp_set_ne (hp_set_ne h2 HNE.out.2.1 _) HNE.out.2.1 _, hp_set (hp_set h3 _) _, hp_set_ne (hp_set_ne h4 (by simp) _) (by simp) _, below_set (below_set h5 n1 _) n1 _⟩)); try simp only [Act.put, List.setIfInBounds_toArray, List.set_cons_zero, List.set_cons_succ]
        apply Ph.wpPh_e 1 rfl rfl; (focus (intro w1 hS0; obtain ⟨h1, h2, h3, h4, h5⟩ := hS0; have c5 := hp_cell (show hp w1 (w.heap.size + 3) = _ from h4); have f5 := hp_free (show hp w1 (w.heap.size + 3) = _ from h4); have n1 : w.heap.size ≤ w.heap.size + 3 := (by omega); go_simp; all_goals exact ⟨rfl, hp_set_ne (hp_set_ne h1 HNE.out.2.2.1 _) HNE.out.2.2.1 _, hp_set_ne (hp_set_ne h2 HNE.out.2.2.2 _) HNE.out.2.2.2 _, hp_set_ne (hp_set_ne h3 (by simp) _) (by simp) _, hp_set (hp_set h4 _) _, below_set (below_set h5 n1 _) n1 _⟩)); try simp only [Act.put, List.setIfInBounds_toArray, List.set_cons_zero, List.set_cons_succ]
        refine Ph.wpPh_nil ?_; intro wq hS
        refine Ph.at_end (by simp) ?_
        obtain ⟨_, _, k4, k5, hb2⟩ := hS
        have c4 := hp_cell k4
        have c5 := hp_cell (show hp wq (w.heap.size + 3) = _ from k5)
        clear k4 k5
        go_wp2
        refine bodyPost_ret (v := .tuple #[.agg #[.int .i64 a, .int .i64 a'], .agg #[.int .i64 0, .int .i64 0]]) (by simp [results, Try.results58, go_sem, *]; done) rfl ⟨rfl, by (repeat (first | (with_reducible assumption) | (with_reducible exact Below.refl _ _) | (with_reducible refine below_set ?_ (by first | assumption | (simp; done) | (simp; omega) | omega) _) | (with_reducible apply below_alloc) | (with_reducible apply below_drew) | (with_reducible apply below_drewN) | (with_reducible refine below_call ?_ (by assumption))))⟩
    · by_cases qr : b' < b
      · by_cases qr2 : a < b'
        · rw [if_pos ql, show min b a' = b by omega]
          rw [if_pos qr, show max a b' = b' by omega]
          clear h h'
          go_enter Try.func58, Try.ntmps58
          go_upto_region 1 with fail
          refine Ph.at_world ?_; intro W1 hW
          have k2 : hp W1 w.heap.size = some (.cells #[.int .i64 a, .int .i64 b] 53 (0, 0)) := by rw [hW]; simp [hpA, nn1, nn2]
          have k3 : hp W1 (w.heap.size + 1) = some (.cells #[.int .i64 a', .int .i64 b'] 53 (0, 0)) := by rw [hW]; simp [hpA, nn1, nn2]
          have k4 : hp W1 (w.heap.size + 2) = some (.cells #[.int .i64 0, .int .i64 0] 53 (0, 0)) := by rw [hW]; simp [hpA, nn1, nn2]
          have k5 : hp W1 (w.heap.size + 3) = some (.cells #[.int .i64 0, .int .i64 0] 53 (0, 0)) := by rw [hW]; simp [hpA, nn1, nn2]
          have HB := Lib.hid (show Below w.heap.size w W1 by rw [hW]; exact below_alloc (below_alloc (below_alloc (below_alloc (Below.refl _ _) _) _) _) _)
          clear hW
          have K := Lib.hid (And.intro k2 (And.intro k3 (And.intro k4 k5)))
          have c2 := hp_cell k2
          have c3 := hp_cell k3
          clear k2 k3 k4 k5
          have n1 : w.heap.size ≤ w.heap.size + 2 := by omega
          have n2 : w.heap.size ≤ w.heap.size + 3 := by omega
          go_upto_region 6 with (go_at_call 59; first | ((with_reducible refine (HE1.out _).mono ?_); rintro e w1 ⟨rfl, hb⟩; have HB1 := Lib.hid (below_call HB.out hb); have K1 := Lib.hid (And.intro (hp_below hb K.out.1) (And.intro (hp_below hb K.out.2.1) (And.intro (hp_below hb K.out.2.2.1) (hp_below hb K.out.2.2.2)))); replace c2 := hp_cell (hp_below hb K.out.1); replace c3 := hp_cell (hp_below hb K.out.2.1); clear hb) | ((with_reducible refine (HE2.out _).mono ?_); rintro e w2 ⟨rfl, hb⟩; have HB2 := Lib.hid (below_call HB1.out hb); have K2 := Lib.hid (And.intro (hp_below hb K1.out.1) (And.intro (hp_below hb K1.out.2.1) (And.intro (hp_below hb K1.out.2.2.1) (hp_below hb K1.out.2.2.2)))); replace c2 := hp_cell (hp_below hb K1.out.1); replace c3 := hp_cell (hp_below hb K1.out.2.1); clear hb))
          clear c2 c3
          refine Ph.at_world ?_; intro W6 hW
          obtain ⟨x6, hx6⟩ : ∃ x6, w2.heap.size = x6 := ⟨_, rfl⟩
          have hs2 := HB2.out.size
          have l2 := hp_lt K2.out.1; have l3 := hp_lt K2.out.2.1; have l4 := hp_lt K2.out.2.2.1; have l5 := hp_lt K2.out.2.2.2
          rw [hx6] at hs2 l2 l3 l4 l5 ⊢
          try rw [hx6] at hW
          have hz6 : Below w2.heap.size w2 W6 := by
            have n3 : w2.heap.size ≤ x6 := by omega
            have n4 : w2.heap.size ≤ x6 + 1 := by omega
            rw [hW]; exact by (repeat (first | (with_reducible assumption) | (with_reducible exact Below.refl _ _) | (with_reducible refine below_set ?_ (by first | assumption | (simp; done) | (simp; omega) | omega) _) | (with_reducible apply below_alloc) | (with_reducible apply below_drew) | (with_reducible apply below_drewN) | (with_reducible refine below_call ?_ (by assumption))))
          have k6 : hp W6 x6 = some (.cells #[.int .i64 0, .int .i64 0] 53 (0, 0)) := by rw [hW]; simp [hpA, hpS, cset_cells, hx6]
          have k7 : hp W6 (x6 + 1) = some (.cells #[.int .i64 0, .int .i64 0] 53 (0, 0)) := by rw [hW]; simp [hpA, hpS, cset_cells, hx6]
          have HX := Lib.hid (And.intro hx6 (And.intro hs2 (And.intro l2 (And.intro l3 (And.intro l4 l5)))))
          have K6 := Lib.hid (And.intro (hp_below hz6 K2.out.1) (And.intro (hp_below hz6 K2.out.2.1) (And.intro (hp_below hz6 K2.out.2.2.1) (And.intro (hp_below hz6 K2.out.2.2.2) (And.intro k6 (And.intro k7 (below_call HB2.out hz6)))))))
          clear hW hx6 hs2 l2 l3 l4 l5 hz6 k6 k7
          have d1 : ¬ (w.heap.size = x6) := by have := HX.out; omega
          have d2 : ¬ (w.heap.size + 1 = x6) := by have := HX.out; omega
          have d3 : ¬ (w.heap.size = x6 + 1) := by have := HX.out; omega
          have d4 : ¬ (w.heap.size + 1 = x6 + 1) := by have := HX.out; omega
          have c2 := hp_cell K6.out.1
          have c3 := hp_cell K6.out.2.1
          have c6 := hp_cell K6.out.2.2.2.2.1
          have f6 := hp_free K6.out.2.2.2.2.1
          go_upto_region 10 with fail
          refine Ph.at_world ?_; intro W10 hW
          have hl := HX.out
          have k2 : hp W10 w.heap.size = some (.cells #[.int .i64 a, .int .i64 b] 53 (0, 0)) := by rw [hW]; simp [hpS, K6.out.1, show ¬ (w.heap.size = x6) by omega]
          have k3 : hp W10 (w.heap.size + 1) = some (.cells #[.int .i64 a', .int .i64 b'] 53 (0, 0)) := by rw [hW]; simp [hpS, K6.out.2.1, show ¬ (w.heap.size + 1 = x6) by omega]
          have k4 : hp W10 (w.heap.size + 2) = some (.cells #[.int .i64 0, .int .i64 0] 53 (0, 0)) := by rw [hW]; simp [hpS, K6.out.2.2.1, show ¬ (w.heap.size + 2 = x6) by omega]
          have k5 : hp W10 (w.heap.size + 3) = some (.cells #[.int .i64 0, .int .i64 0] 53 (0, 0)) := by rw [hW]; simp [hpS, K6.out.2.2.2.1, show ¬ (w.heap.size + 3 = x6) by omega]
          have k6 : hp W10 x6 = some (.cells #[.int .i64 a, .int .i64 b] 53 (0, 0)) := by rw [hW]; simp [hpS, K6.out.2.2.2.2.1, cset_cells]
          have k7 : hp W10 (x6 + 1) = some (.cells #[.int .i64 0, .int .i64 0] 53 (0, 0)) := by rw [hW]; simp [hpS, K6.out.2.2.2.2.2.1]
          have hb10 : Below w.heap.size w W10 := by
            have n3 : w.heap.size ≤ x6 := by omega
            have hb6 := K6.out.2.2.2.2.2.2
            rw [hW]; exact by (repeat (first | (with_reducible assumption) | (with_reducible exact Below.refl _ _) | (with_reducible refine below_set ?_ (by first | assumption | (simp; done) | (simp; omega) | omega) _) | (with_reducible apply below_alloc) | (with_reducible apply below_drew) | (with_reducible apply below_drewN) | (with_reducible refine below_call ?_ (by assumption))))
          clear hW c2 c3 c6 f6
          have K10 := Lib.hid (And.intro k2 (And.intro k3 (And.intro k4 (And.intro k5 (And.intro k6 (And.intro k7 hb10))))))
          clear k2 k3 k4 k5 k6 k7 hb10 hl
          have c2 := hp_cell K10.out.1
          have c3 := hp_cell K10.out.2.1
          have c7 := hp_cell K10.out.2.2.2.2.2.1
          have f7 := hp_free K10.out.2.2.2.2.2.1
          go_upto_region 14 with fail
          refine Ph.at_world ?_; intro W14 hW
          have hl := HX.out
          have k4 : hp W14 (w.heap.size + 2) = some (.cells #[.int .i64 0, .int .i64 0] 53 (0, 0)) := by rw [hW]; simp [hpS, K10.out.2.2.1, show ¬ (w.heap.size + 2 = x6 + 1) by omega]
          have k5 : hp W14 (w.heap.size + 3) = some (.cells #[.int .i64 0, .int .i64 0] 53 (0, 0)) := by rw [hW]; simp [hpS, K10.out.2.2.2.1, show ¬ (w.heap.size + 3 = x6 + 1) by omega]
          have k6 : hp W14 x6 = some (.cells #[.int .i64 a, .int .i64 b] 53 (0, 0)) := by rw [hW]; simp [hpS, K10.out.2.2.2.2.1, cset_cells]
          have k7 : hp W14 (x6 + 1) = some (.cells #[.int .i64 b', .int .i64 b] 53 (0, 0)) := by rw [hW]; simp [hpS, K10.out.2.2.2.2.2.1, cset_cells]
          have hb14 : Below w.heap.size w W14 := by
            have n3 : w.heap.size ≤ x6 + 1 := by omega
            have hb10 := K10.out.2.2.2.2.2.2
            rw [hW]; exact by (repeat (first | (with_reducible assumption) | (with_reducible exact Below.refl _ _) | (with_reducible refine below_set ?_ (by first | assumption | (simp; done) | (simp; omega) | omega) _) | (with_reducible apply below_alloc) | (with_reducible apply below_drew) | (with_reducible apply below_drewN) | (with_reducible refine below_call ?_ (by assumption))))
          clear hW c2 c3 c7 f7
          have hA0 : CT4 w x6 (w.heap.size + 2) (a, b) (b', b) (0, 0) (0, 0) W14 := ⟨k6, k7, k4, k5, hb14⟩
          have HNE := Lib.hid (show x6 ≠ w.heap.size + 2 ∧ x6 + 1 ≠ w.heap.size + 2 ∧ x6 ≠ w.heap.size + 3 ∧ x6 + 1 ≠ w.heap.size + 3 by omega)
          clear k4 k5 k6 k7 hb14 hl d1 d2 d3 d4
          refine Ph.region_at (by kernel_rfl) ?_
          refine Ph.at_stage 4 (fun i => if i < 0 then (0, 100, 0) else ([(0, 0, 0), (0, 1, 0), (0, 0, 1), (1, 1, 1)] : List (Nat × Nat × Nat)).getD (i - 0) (0, 0, 0)) (Ph.S3 (CT4 w x6 (w.heap.size + 2) (a, b) (b', b) (0, 0) (0, 0)) (CT4 w x6 (w.heap.size + 2) (a, b) (b', b) (a, b) (0, 0)) (CT4 w x6 (w.heap.size + 2) (a, b) (b', b) (a, b) (b', b))) (by kernel_rfl) (by kernel_rfl) (CT4.mono _ _ _ _ _ _ _ _ _ hA0 (below_drew (Below.refl _ _))) ?_
          simp only [List.take_succ_cons, List.take_zero, List.drop_succ_cons, List.drop_zero]
          apply Ph.wpPh_q (Ph.S3_mono (CT4.mono _ _ _ _ _ _ _) (CT4.mono _ _ _ _ _ _ _) (CT4.mono _ _ _ _ _ _ _)) 0 0 rfl rfl; (focus (intro k0 hk1 hk2 w1 hS0; obtain rfl : k0 = 0 := Nat.le_antisymm hk2 hk1; obtain ⟨h1, h2, h3, h4, h5⟩ := hS0; have c6 := hp_cell h1; have c7 := hp_cell h2; go_simp; first | exact rfl | exact ⟨rfl, Below.refl _ _⟩ | exact Below.refl _ _)); try simp only [Act.put, List.setIfInBounds_toArray, List.set_cons_zero, List.set_cons_succ]
          apply Ph.wpPh_q (Ph.S3_mono (CT4.mono _ _ _ _ _ _ _) (CT4.mono _ _ _ _ _ _ _) (CT4.mono _ _ _ _ _ _ _)) 0 1 rfl rfl; (focus (intro k0 hk1 hk2 w1 hS0; (rcases (by omega : k0 = 0 ∨ k0 = 1) with rfl | rfl) <;> (obtain ⟨h1, h2, h3, h4, h5⟩ := hS0; have c6 := hp_cell h1; have c7 := hp_cell h2; go_simp; first | exact rfl | exact ⟨rfl, Below.refl _ _⟩ | exact Below.refl _ _))); try simp only [Act.put, List.setIfInBounds_toArray, List.set_cons_zero, List.set_cons_succ]
          apply Ph.wpPh_e 0 rfl rfl; (focus (intro w1 hS0; obtain ⟨h1, h2, h3, h4, h5⟩ := hS0; have c4 := hp_cell h3; have f4 := hp_free h3; have n1 : w.heap.size ≤ w.heap.size + 2 := (by omega); go_simp; all_goals exact ⟨rfl, hp_set_ne (hp_set_ne h1 HNE.out.1 _) HNE.out.1 _, hp_set_ne (hp_set_ne h2 HNE.out.2.1 _) HNE.out.2.1 _, hp_set (hp_set h3 _) _, hp_set_ne (hp_set_ne h4 (by simp) _) (by simp) _, below_set (below_set h5 n1 _) n1 _⟩)); try simp only [Act.put, List.setIfInBounds_toArray, List.set_cons_zero, List.set_cons_succ]
          apply Ph.wpPh_e 1 rfl rfl; (focus (intro w1 hS0; obtain ⟨h1, h2, h3, h4, h5⟩ := hS0; have c5 := hp_cell (show hp w1 (w.heap.size + 3) = _ from h4); have f5 := hp_free (show hp w1 (w.heap.size + 3) = _ from h4); have n1 : w.heap.size ≤ w.heap.size + 3 := (by omega); go_simp; all_goals exact ⟨rfl, hp_set_ne (hp_set_ne h1 HNE.out.2.2.1 _) HNE.out.2.2.1 _, hp_set_ne (hp_set_ne h2 HNE.out.2.2.2 _) HNE.out.2.2.2 _, hp_set_ne (hp_set_ne h3 (by simp) _) (by simp) _, hp_set (hp_set h4 _) _, below_set (below_set h5 n1 _) n1 _⟩)); try simp only [Act.put, List.setIfInBounds_toArray, List.set_cons_zero, List.set_cons_succ]
          refine Ph.wpPh_nil ?_; intro wq hS
          refine Ph.at_end (by simp) ?_
          obtain ⟨_, _, k4, k5, hb2⟩ := hS
          have c4 := hp_cell k4
          have c5 := hp_cell (show hp wq (w.heap.size + 3) = _ from k5)
          clear k4 k5
          go_wp2
          refine bodyPost_ret (v := .tuple #[.agg #[.int .i64 a, .int .i64 b], .agg #[.int .i64 b', .int .i64 b]]) (by simp [results, Try.results58, go_sem, *]; done) rfl ⟨rfl, by (repeat (first | (with_reducible assumption) | (with_reducible exact Below.refl _ _) | (with_reducible refine below_set ?_ (by first | assumption | (simp; done) | (simp; omega) | omega) _) | (with_reducible apply below_alloc) | (with_reducible apply below_drew) | (with_reducible apply below_drewN) | (with_reducible refine below_call ?_ (by assumption))))⟩
        · rw [if_pos ql, show min b a' = b by omega]
          rw [if_pos qr, show max a b' = a by omega]
          clear h h'
          go_enter Try.func58, Try.ntmps58
          go_upto_region 1 with fail
          refine Ph.at_world ?_; intro W1 hW
          have k2 : hp W1 w.heap.size = some (.cells #[.int .i64 a, .int .i64 b] 53 (0, 0)) := by rw [hW]; simp [hpA, nn1, nn2]
          have k3 : hp W1 (w.heap.size + 1) = some (.cells #[.int .i64 a', .int .i64 b'] 53 (0, 0)) := by rw [hW]; simp [hpA, nn1, nn2]
          have k4 : hp W1 (w.heap.size + 2) = some (.cells #[.int .i64 0, .int .i64 0] 53 (0, 0)) := by rw [hW]; simp [hpA, nn1, nn2]
          have k5 : hp W1 (w.heap.size + 3) = some (.cells #[.int .i64 0, .int .i64 0] 53 (0, 0)) := by rw [hW]; simp [hpA, nn1, nn2]
          have HB := Lib.hid (show Below w.heap.size w W1 by rw [hW]; exact below_alloc (below_alloc (below_alloc (below_alloc (Below.refl _ _) _) _) _) _)
          clear hW
          have K := Lib.hid (And.intro k2 (And.intro k3 (And.intro k4 k5)))
          have c2 := hp_cell k2
          have c3 := hp_cell k3
          clear k2 k3 k4 k5
          have n1 : w.heap.size ≤ w.heap.size + 2 := by omega
          have n2 : w.heap.size ≤ w.heap.size + 3 := by omega
          go_upto_region 6 with (go_at_call 59; first | ((with_reducible refine (HE1.out _).mono ?_); rintro e w1 ⟨rfl, hb⟩; have HB1 := Lib.hid (below_call HB.out hb); have K1 := Lib.hid (And.intro (hp_below hb K.out.1) (And.intro (hp_below hb K.out.2.1) (And.intro (hp_below hb K.out.2.2.1) (hp_below hb K.out.2.2.2)))); replace c2 := hp_cell (hp_below hb K.out.1); replace c3 := hp_cell (hp_below hb K.out.2.1); clear hb) | ((with_reducible refine (HE2.out _).mono ?_); rintro e w2 ⟨rfl, hb⟩; have HB2 := Lib.hid (below_call HB1.out hb); have K2 := Lib.hid (And.intro (hp_below hb K1.out.1) (And.intro (hp_below hb K1.out.2.1) (And.intro (hp_below hb K1.out.2.2.1) (hp_below hb K1.out.2.2.2)))); replace c2 := hp_cell (hp_below hb K1.out.1); replace c3 := hp_cell (hp_below hb K1.out.2.1); clear hb))
          clear c2 c3
          refine Ph.at_world ?_; intro W6 hW
          obtain ⟨x6, hx6⟩ : ∃ x6, w2.heap.size = x6 := ⟨_, rfl⟩
          have hs2 := HB2.out.size
          have l2 := hp_lt K2.out.1; have l3 := hp_lt K2.out.2.1; have l4 := hp_lt K2.out.2.2.1; have l5 := hp_lt K2.out.2.2.2
          rw [hx6] at hs2 l2 l3 l4 l5 ⊢
          try rw [hx6] at hW
          have hz6 : Below w2.heap.size w2 W6 := by
            have n3 : w2.heap.size ≤ x6 := by omega
            have n4 : w2.heap.size ≤ x6 + 1 := by omega
            rw [hW]; exact by (repeat (first | (with_reducible assumption) | (with_reducible exact Below.refl _ _) | (with_reducible refine below_set ?_ (by first | assumption | (simp; done) | (simp; omega) | omega) _) | (with_reducible apply below_alloc) | (with_reducible apply below_drew) | (with_reducible apply below_drewN) | (with_reducible refine below_call ?_ (by assumption))))
          have k6 : hp W6 x6 = some (.cells #[.int .i64 0, .int .i64 0] 53 (0, 0)) := by rw [hW]; simp [hpA, hpS, cset_cells, hx6]
          have k7 : hp W6 (x6 + 1) = some (.cells #[.int .i64 0, .int .i64 0] 53 (0, 0)) := by rw [hW]; simp [hpA, hpS, cset_cells, hx6]
          have HX := Lib.hid (And.intro hx6 (And.intro hs2 (And.intro l2 (And.intro l3 (And.intro l4 l5)))))
          have K6 := Lib.hid (And.intro (hp_below hz6 K2.out.1) (And.intro (hp_below hz6 K2.out.2.1) (And.intro (hp_below hz6 K2.out.2.2.1) (And.intro (hp_below hz6 K2.out.2.2.2) (And.intro k6 (And.intro k7 (below_call HB2.out hz6)))))))
          clear hW hx6 hs2 l2 l3 l4 l5 hz6 k6 k7
          have d1 : ¬ (w.heap.size = x6) := by have := HX.out; omega
          have d2 : ¬ (w.heap.size + 1 = x6) := by have := HX.out; omega
          have d3 : ¬ (w.heap.size = x6 + 1) := by have := HX.out; omega
          have d4 : ¬ (w.heap.size + 1 = x6 + 1) := by have := HX.out; omega
          have c2 := hp_cell K6.out.1
          have c3 := hp_cell K6.out.2.1
          have c6 := hp_cell K6.out.2.2.2.2.1
          have f6 := hp_free K6.out.2.2.2.2.1
          go_upto_region 10 with fail
          refine Ph.at_world ?_; intro W10 hW
          have hl := HX.out
          have k2 : hp W10 w.heap.size = some (.cells #[.int .i64 a, .int .i64 b] 53 (0, 0)) := by rw [hW]; simp [hpS, K6.out.1, show ¬ (w.heap.size = x6) by omega]
          have k3 : hp W10 (w.heap.size + 1) = some (.cells #[.int .i64 a', .int .i64 b'] 53 (0, 0)) := by rw [hW]; simp [hpS, K6.out.2.1, show ¬ (w.heap.size + 1 = x6) by omega]
          have k4 : hp W10 (w.heap.size + 2) = some (.cells #[.int .i64 0, .int .i64 0] 53 (0, 0)) := by rw [hW]; simp [hpS, K6.out.2.2.1, show ¬ (w.heap.size + 2 = x6) by omega]
          have k5 : hp W10 (w.heap.size + 3) = some (.cells #[.int .i64 0, .int .i64 0] 53 (0, 0)) := by rw [hW]; simp [hpS, K6.out.2.2.2.1, show ¬ (w.heap.size + 3 = x6) by omega]
          have k6 : hp W10 x6 = some (.cells #[.int .i64 a, .int .i64 b] 53 (0, 0)) := by rw [hW]; simp [hpS, K6.out.2.2.2.2.1, cset_cells]
          have k7 : hp W10 (x6 + 1) = some (.cells #[.int .i64 0, .int .i64 0] 53 (0, 0)) := by rw [hW]; simp [hpS, K6.out.2.2.2.2.2.1]
          have hb10 : Below w.heap.size w W10 := by
            have n3 : w.heap.size ≤ x6 := by omega
            have hb6 := K6.out.2.2.2.2.2.2
            rw [hW]; exact by (repeat (first | (with_reducible assumption) | (with_reducible exact Below.refl _ _) | (with_reducible refine below_set ?_ (by first | assumption | (simp; done) | (simp; omega) | omega) _) | (with_reducible apply below_alloc) | (with_reducible apply below_drew) | (with_reducible apply below_drewN) | (with_reducible refine below_call ?_ (by assumption))))
          clear hW c2 c3 c6 f6
          have K10 := Lib.hid (And.intro k2 (And.intro k3 (And.intro k4 (And.intro k5 (And.intro k6 (And.intro k7 hb10))))))
          clear k2 k3 k4 k5 k6 k7 hb10 hl
          have c2 := hp_cell K10.out.1
          have c3 := hp_cell K10.out.2.1
          have c7 := hp_cell K10.out.2.2.2.2.2.1
          have f7 := hp_free K10.out.2.2.2.2.2.1
          go_upto_region 14 with fail
          refine Ph.at_world ?_; intro W14 hW
          have hl := HX.out
          have k4 : hp W14 (w.heap.size + 2) = some (.cells #[.int .i64 0, .int .i64 0] 53 (0, 0)) := by rw [hW]; simp [hpS, K10.out.2.2.1, show ¬ (w.heap.size + 2 = x6 + 1) by omega]
          have k5 : hp W14 (w.heap.size + 3) = some (.cells #[.int .i64 0, .int .i64 0] 53 (0, 0)) := by rw [hW]; simp [hpS, K10.out.2.2.2.1, show ¬ (w.heap.size + 3 = x6 + 1) by omega]
          have k6 : hp W14 x6 = some (.cells #[.int .i64 a, .int .i64 b] 53 (0, 0)) := by rw [hW]; simp [hpS, K10.out.2.2.2.2.1, cset_cells]
          have k7 : hp W14 (x6 + 1) = some (.cells #[.int .i64 a, .int .i64 b] 53 (0, 0)) := by rw [hW]; simp [hpS, K10.out.2.2.2.2.2.1, cset_cells]
          have hb14 : Below w.heap.size w W14 := by
            have n3 : w.heap.size ≤ x6 + 1 := by omega
            have hb10 := K10.out.2.2.2.2.2.2
            rw [hW]; exact by (repeat (first | (with_reducible assumption) | (with_reducible exact Below.refl _ _) | (with_reducible refine below_set ?_ (by first | assumption | (simp; done) | (simp; omega) | omega) _) | (with_reducible apply below_alloc) | (with_reducible apply below_drew) | (with_reducible apply below_drewN) | (with_reducible refine below_call ?_ (by assumption))))
          clear hW c2 c3 c7 f7
          have hA0 : CT4 w x6 (w.heap.size + 2) (a, b) (a, b) (0, 0) (0, 0) W14 := ⟨k6, k7, k4, k5, hb14⟩
          have HNE := Lib.hid (show x6 ≠ w.heap.size + 2 ∧ x6 + 1 ≠ w.heap.size + 2 ∧ x6 ≠ w.heap.size + 3 ∧ x6 + 1 ≠ w.heap.size + 3 by omega)
          clear k4 k5 k6 k7 hb14 hl d1 d2 d3 d4
          refine Ph.region_at (by kernel_rfl) ?_
          refine Ph.at_stage 4 (fun i => if i < 0 then (0, 100, 0) else ([(0, 0, 0), (0, 1, 0), (0, 0, 1), (1, 1, 1)] : List (Nat × Nat × Nat)).getD (i - 0) (0, 0, 0)) (Ph.S3 (CT4 w x6 (w.heap.size + 2) (a, b) (a, b) (0, 0) (0, 0)) (CT4 w x6 (w.heap.size + 2) (a, b) (a, b) (a, b) (0, 0)) (CT4 w x6 (w.heap.size + 2) (a, b) (a, b) (a, b) (a, b))) (by kernel_rfl) (by kernel_rfl) (CT4.mono _ _ _ _ _ _ _ _ _ hA0 (below_drew (Below.refl _ _))) ?_
          simp only [List.take_succ_cons, List.take_zero, List.drop_succ_cons, List.drop_zero]
          apply Ph.wpPh_q (Ph.S3_mono (CT4.mono _ _ _ _ _ _ _) (CT4.mono _ _ _ _ _ _ _) (CT4.mono _ _ _ _ _ _ _)) 0 0 rfl rfl; (focus (intro k0 hk1 hk2 w1 hS0; obtain rfl : k0 = 0 := Nat.le_antisymm hk2 hk1; obtain ⟨h1, h2, h3, h4, h5⟩ := hS0; have c6 := hp_cell h1; have c7 := hp_cell h2; go_simp; first | exact rfl | exact ⟨rfl, Below.refl _ _⟩ | exact Below.refl _ _)); try simp only [Act.put, List.setIfInBounds_toArray, List.set_cons_zero, List.set_cons_succ]
          apply Ph.wpPh_q (Ph.S3_mono (CT4.mono _ _ _ _ _ _ _) (CT4.mono _ _ _ _ _ _ _) (CT4.mono _ _ _ _ _ _ _)) 0 1 rfl rfl; (focus (intro k0 hk1 hk2 w1 hS0; (rcases (by omega : k0 = 0 ∨ k0 = 1) with rfl | rfl) <;> (obtain ⟨h1, h2, h3, h4, h5⟩ := hS0; have c6 := hp_cell h1; have c7 := hp_cell h2; go_simp; first | exact rfl | exact ⟨rfl, Below.refl _ _⟩ | exact Below.refl _ _))); try simp only [Act.put, List.setIfInBounds_toArray, List.set_cons_zero, List.set_cons_succ]
          apply Ph.wpPh_e 0 rfl rfl; (focus (intro w1 hS0; obtain ⟨h1, h2, h3, h4, h5⟩ := hS0; have c4 := hp_cell h3; have f4 := hp_free h3; have n1 : w.heap.size ≤ w.heap.size + 2 := (by omega); go_simp; all_goals exact ⟨rfl, hp_set_ne (hp_set_ne h1 HNE.out.1 _) HNE.out.1 _, hp_set_ne (hp_set_ne h2 HNE.out.2.1 _) HNE.out.2.1 _, hp_set (hp_set h3 _) _, hp_set_ne (hp_set_ne h4 (by simp) _) (by simp) _, below_set (below_set h5 n1 _) n1 _⟩)); try simp only [Act.put, List.setIfInBounds_toArray, List.set_cons_zero, List.set_cons_succ]
          apply Ph.wpPh_e 1 rfl rfl; (focus (intro w1 hS0; obtain ⟨h1, h2, h3, h4, h5⟩ := hS0; have c5 := hp_cell (show hp w1 (w.heap.size + 3) = _ from h4); have f5 := hp_free (show hp w1 (w.heap.size + 3) = _ from h4); have n1 : w.heap.size ≤ w.heap.size + 3 := (by omega); go_simp; all_goals exact ⟨rfl, hp_set_ne (hp_set_ne h1 HNE.out.2.2.1 _) HNE.out.2.2.1 _, hp_set_ne (hp_set_ne h2 HNE.out.2.2.2 _) HNE.out.2.2.2 _, hp_set_ne (hp_set_ne h3 (by simp) _) (by simp) _, hp_set (hp_set h4 _) _, below_set (below_set h5 n1 _) n1 _⟩)); try simp only [Act.put, List.setIfInBounds_toArray, List.set_cons_zero, List.set_cons_succ]
          refine Ph.wpPh_nil ?_; intro wq hS
          refine Ph.at_end (by simp) ?_
          obtain ⟨_, _, k4, k5, hb2⟩ := hS
          have c4 := hp_cell k4
          have c5 := hp_cell (show hp wq (w.heap.size + 3) = _ from k5)
          clear k4 k5
          go_wp2
          refine bodyPost_ret (v := .tuple #[.agg #[.int .i64 a, .int .i64 b], .agg #[.int .i64 a, .int .i64 b]]) (by simp [results, Try.results58, go_sem, *]; done) rfl ⟨rfl, by (repeat (first | (with_reducible assumption) | (with_reducible exact Below.refl _ _) | (with_reducible refine below_set ?_ (by first | assumption | (simp; done) | (simp; omega) | omega) _) | (with_reducible apply below_alloc) | (with_reducible apply below_drew) | (with_reducible apply below_drewN) | (with_reducible refine below_call ?_ (by assumption))))⟩
      · rw [if_pos ql, show min b a' = b by omega]
        rw [if_neg qr]
        clear h h'
        go_enter Try.func58, Try.ntmps58
        go_upto_region 1 with fail
        refine Ph.at_world ?_; intro W1 hW
        have k2 : hp W1 w.heap.size = some (.cells #[.int .i64 a, .int .i64 b] 53 (0, 0)) := by rw [hW]; simp [hpA, nn1, nn2]
        have k3 : hp W1 (w.heap.size + 1) = some (.cells #[.int .i64 a', .int .i64 b'] 53 (0, 0)) := by rw [hW]; simp [hpA, nn1, nn2]
        have k4 : hp W1 (w.heap.size + 2) = some (.cells #[.int .i64 0, .int .i64 0] 53 (0, 0)) := by rw [hW]; simp [hpA, nn1, nn2]
        have k5 : hp W1 (w.heap.size + 3) = some (.cells #[.int .i64 0, .int .i64 0] 53 (0, 0)) := by rw [hW]; simp [hpA, nn1, nn2]
        have HB := Lib.hid (show Below w.heap.size w W1 by rw [hW]; exact below_alloc (below_alloc (below_alloc (below_alloc (Below.refl _ _) _) _) _) _)
        clear hW
        have K := Lib.hid (And.intro k2 (And.intro k3 (And.intro k4 k5)))
        have c2 := hp_cell k2
        have c3 := hp_cell k3
        clear k2 k3 k4 k5
        have n1 : w.heap.size ≤ w.heap.size + 2 := by omega
        have n2 : w.heap.size ≤ w.heap.size + 3 := by omega
        go_upto_region 6 with (go_at_call 59; first | ((with_reducible refine (HE1.out _).mono ?_); rintro e w1 ⟨rfl, hb⟩; have HB1 := Lib.hid (below_call HB.out hb); have K1 := Lib.hid (And.intro (hp_below hb K.out.1) (And.intro (hp_below hb K.out.2.1) (And.intro (hp_below hb K.out.2.2.1) (hp_below hb K.out.2.2.2)))); replace c2 := hp_cell (hp_below hb K.out.1); replace c3 := hp_cell (hp_below hb K.out.2.1); clear hb) | ((with_reducible refine (HE2.out _).mono ?_); rintro e w2 ⟨rfl, hb⟩; have HB2 := Lib.hid (below_call HB1.out hb); have K2 := Lib.hid (And.intro (hp_below hb K1.out.1) (And.intro (hp_below hb K1.out.2.1) (And.intro (hp_below hb K1.out.2.2.1) (hp_below hb K1.out.2.2.2)))); replace c2 := hp_cell (hp_below hb K1.out.1); replace c3 := hp_cell (hp_below hb K1.out.2.1); clear hb))
        clear c2 c3
        refine Ph.at_world ?_; intro W6 hW
        obtain ⟨x6, hx6⟩ : ∃ x6, w2.heap.size = x6 := ⟨_, rfl⟩
        have hs2 := HB2.out.size
        have l2 := hp_lt K2.out.1; have l3 := hp_lt K2.out.2.1; have l4 := hp_lt K2.out.2.2.1; have l5 := hp_lt K2.out.2.2.2
        rw [hx6] at hs2 l2 l3 l4 l5 ⊢
        try rw [hx6] at hW
        have hz6 : Below w2.heap.size w2 W6 := by
          have n3 : w2.heap.size ≤ x6 := by omega
          have n4 : w2.heap.size ≤ x6 + 1 := by omega
          rw [hW]; exact by (repeat (first | (with_reducible assumption) | (with_reducible exact Below.refl _ _) | (with_reducible refine below_set ?_ (by first | assumption | (simp; done) | (simp; omega) | omega) _) | (with_reducible apply below_alloc) | (with_reducible apply below_drew) | (with_reducible apply below_drewN) | (with_reducible refine below_call ?_ (by assumption))))
        have k6 : hp W6 x6 = some (.cells #[.int .i64 0, .int .i64 0] 53 (0, 0)) := by rw [hW]; simp [hpA, hpS, cset_cells, hx6]
        have k7 : hp W6 (x6 + 1) = some (.cells #[.int .i64 0, .int .i64 0] 53 (0, 0)) := by rw [hW]; simp [hpA, hpS, cset_cells, hx6]
        have HX := Lib.hid (And.intro hx6 (And.intro hs2 (And.intro l2 (And.intro l3 (And.intro l4 l5)))))
        have K6 := Lib.hid (And.intro (hp_below hz6 K2.out.1) (And.intro (hp_below hz6 K2.out.2.1) (And.intro (hp_below hz6 K2.out.2.2.1) (And.intro (hp_below hz6 K2.out.2.2.2) (And.intro k6 (And.intro k7 (below_call HB2.out hz6)))))))
        clear hW hx6 hs2 l2 l3 l4 l5 hz6 k6 k7
        have d1 : ¬ (w.heap.size = x6) := by have := HX.out; omega
        have d2 : ¬ (w.heap.size + 1 = x6) := by have := HX.out; omega
        have d3 : ¬ (w.heap.size = x6 + 1) := by have := HX.out; omega
        have d4 : ¬ (w.heap.size + 1 = x6 + 1) := by have := HX.out; omega
        have c2 := hp_cell K6.out.1
        have c3 := hp_cell K6.out.2.1
        have c6 := hp_cell K6.out.2.2.2.2.1
        have f6 := hp_free K6.out.2.2.2.2.1
        go_upto_region 10 with fail
        refine Ph.at_world ?_; intro W10 hW
        have hl := HX.out
        have k2 : hp W10 w.heap.size = some (.cells #[.int .i64 a, .int .i64 b] 53 (0, 0)) := by rw [hW]; simp [hpS, K6.out.1, show ¬ (w.heap.size = x6) by omega]
        have k3 : hp W10 (w.heap.size + 1) = some (.cells #[.int .i64 a', .int .i64 b'] 53 (0, 0)) := by rw [hW]; simp [hpS, K6.out.2.1, show ¬ (w.heap.size + 1 = x6) by omega]
        have k4 : hp W10 (w.heap.size + 2) = some (.cells #[.int .i64 0, .int .i64 0] 53 (0, 0)) := by rw [hW]; simp [hpS, K6.out.2.2.1, show ¬ (w.heap.size + 2 = x6) by omega]
        have k5 : hp W10 (w.heap.size + 3) = some (.cells #[.int .i64 0, .int .i64 0] 53 (0, 0)) := by rw [hW]; simp [hpS, K6.out.2.2.2.1, show ¬ (w.heap.size + 3 = x6) by omega]
        have k6 : hp W10 x6 = some (.cells #[.int .i64 a, .int .i64 b] 53 (0, 0)) := by rw [hW]; simp [hpS, K6.out.2.2.2.2.1, cset_cells]
        have k7 : hp W10 (x6 + 1) = some (.cells #[.int .i64 0, .int .i64 0] 53 (0, 0)) := by rw [hW]; simp [hpS, K6.out.2.2.2.2.2.1]
        have hb10 : Below w.heap.size w W10 := by
          have n3 : w.heap.size ≤ x6 := by omega
          have hb6 := K6.out.2.2.2.2.2.2
          rw [hW]; exact by (repeat (first | (with_reducible assumption) | (with_reducible exact Below.refl _ _) | (with_reducible refine below_set ?_ (by first | assumption | (simp; done) | (simp; omega) | omega) _) | (with_reducible apply below_alloc) | (with_reducible apply below_drew) | (with_reducible apply below_drewN) | (with_reducible refine below_call ?_ (by assumption))))
        clear hW c2 c3 c6 f6
        have K10 := Lib.hid (And.intro k2 (And.intro k3 (And.intro k4 (And.intro k5 (And.intro k6 (And.intro k7 hb10))))))
        clear k2 k3 k4 k5 k6 k7 hb10 hl
        have c2 := hp_cell K10.out.1
        have c3 := hp_cell K10.out.2.1
        have c7 := hp_cell K10.out.2.2.2.2.2.1
        have f7 := hp_free K10.out.2.2.2.2.2.1
        go_upto_region 14 with fail
        refine Ph.at_world ?_; intro W14 hW
        have hl := HX.out
        have k4 : hp W14 (w.heap.size + 2) = some (.cells #[.int .i64 0, .int .i64 0] 53 (0, 0)) := by rw [hW]; simp [hpS, K10.out.2.2.1, show ¬ (w.heap.size + 2 = x6 + 1) by omega]
        have k5 : hp W14 (w.heap.size + 3) = some (.cells #[.int .i64 0, .int .i64 0] 53 (0, 0)) := by rw [hW]; simp [hpS, K10.out.2.2.2.1, show ¬ (w.heap.size + 3 = x6 + 1) by omega]
        have k6 : hp W14 x6 = some (.cells #[.int .i64 a, .int .i64 b] 53 (0, 0)) := by rw [hW]; simp [hpS, K10.out.2.2.2.2.1, cset_cells]
        have k7 : hp W14 (x6 + 1) = some (.cells #[.int .i64 0, .int .i64 0] 53 (0, 0)) := by rw [hW]; simp [hpS, K10.out.2.2.2.2.2.1, cset_cells]
        have hb14 : Below w.heap.size w W14 := by
          have n3 : w.heap.size ≤ x6 + 1 := by omega
          have hb10 := K10.out.2.2.2.2.2.2
          rw [hW]; exact by (repeat (first | (with_reducible assumption) | (with_reducible exact Below.refl _ _) | (with_reducible refine below_set ?_ (by first | assumption | (simp; done) | (simp; omega) | omega) _) | (with_reducible apply below_alloc) | (with_reducible apply below_drew) | (with_reducible apply below_drewN) | (with_reducible refine below_call ?_ (by assumption))))
        clear hW c2 c3 c7 f7
        have hA0 : CT4 w x6 (w.heap.size + 2) (a, b) (0, 0) (0, 0) (0, 0) W14 := ⟨k6, k7, k4, k5, hb14⟩
        have HNE := Lib.hid (show x6 ≠ w.heap.size + 2 ∧ x6 + 1 ≠ w.heap.size + 2 ∧ x6 ≠ w.heap.size + 3 ∧ x6 + 1 ≠ w.heap.size + 3 by omega)
        clear k4 k5 k6 k7 hb14 hl d1 d2 d3 d4
        refine Ph.region_at (by kernel_rfl) ?_
        refine Ph.at_stage 4 (fun i => if i < 0 then (0, 100, 0) else ([(0, 0, 0), (0, 1, 0), (0, 0, 1), (1, 1, 1)] : List (Nat × Nat × Nat)).getD (i - 0) (0, 0, 0)) (Ph.S3 (CT4 w x6 (w.heap.size + 2) (a, b) (0, 0) (0, 0) (0, 0)) (CT4 w x6 (w.heap.size + 2) (a, b) (0, 0) (a, b) (0, 0)) (CT4 w x6 (w.heap.size + 2) (a, b) (0, 0) (a, b) (0, 0))) (by kernel_rfl) (by kernel_rfl) (CT4.mono _ _ _ _ _ _ _ _ _ hA0 (below_drew (Below.refl _ _))) ?_
        simp only [List.take_succ_cons, List.take_zero, List.drop_succ_cons, List.drop_zero]
        apply Ph.wpPh_q (Ph.S3_mono (CT4.mono _ _ _ _ _ _ _) (CT4.mono _ _ _ _ _ _ _) (CT4.mono _ _ _ _ _ _ _)) 0 0 rfl rfl; (focus (intro k0 hk1 hk2 w1 hS0; obtain rfl : k0 = 0 := Nat.le_antisymm hk2 hk1; obtain ⟨h1, h2, h3, h4, h5⟩ := hS0; have c6 := hp_cell h1; have c7 := hp_cell h2; go_simp; first | exact rfl | exact ⟨rfl, Below.refl _ _⟩ | exact Below.refl _ _)); try simp only [Act.put, List.setIfInBounds_toArray, List.set_cons_zero, List.set_cons_succ]
        apply Ph.wpPh_q (Ph.S3_mono (CT4.mono _ _ _ _ _ _ _) (CT4.mono _ _ _ _ _ _ _) (CT4.mono _ _ _ _ _ _ _)) 0 1 rfl rfl; (focus (intro k0 hk1 hk2 w1 hS0; (rcases (by omega : k0 = 0 ∨ k0 = 1) with rfl | rfl) <;> (obtain ⟨h1, h2, h3, h4, h5⟩ := hS0; have c6 := hp_cell h1; have c7 := hp_cell h2; go_simp; first | exact rfl | exact ⟨rfl, Below.refl _ _⟩ | exact Below.refl _ _))); try simp only [Act.put, List.setIfInBounds_toArray, List.set_cons_zero, List.set_cons_succ]
        apply Ph.wpPh_e 0 rfl rfl; (focus (intro w1 hS0; obtain ⟨h1, h2, h3, h4, h5⟩ := hS0; have c4 := hp_cell h3; have f4 := hp_free h3; have n1 : w.heap.size ≤ w.heap.size + 2 := (by omega); go_simp; all_goals exact ⟨rfl, hp_set_ne (hp_set_ne h1 HNE.out.1 _) HNE.out.1 _, hp_set_ne (hp_set_ne h2 HNE.out.2.1 _) HNE.out.2.1 _, hp_set (hp_set h3 _) _, hp_set_ne (hp_set_ne h4 (by simp) _) (by simp) _, below_set (below_set h5 n1 _) n1 _⟩)); try simp only [Act.put, List.setIfInBounds_toArray, List.set_cons_zero, List.set_cons_succ]
        apply Ph.wpPh_e 1 rfl rfl; (focus (intro w1 hS0; obtain ⟨h1, h2, h3, h4, h5⟩ := hS0; have c5 := hp_cell (show hp w1 (w.heap.size + 3) = _ from h4); have f5 := hp_free (show hp w1 (w.heap.size + 3) = _ from h4); have n1 : w.heap.size ≤ w.heap.size + 3 := (by omega); go_simp; all_goals exact ⟨rfl, hp_set_ne (hp_set_ne h1 HNE.out.2.2.1 _) HNE.out.2.2.1 _, hp_set_ne (hp_set_ne h2 HNE.out.2.2.2 _) HNE.out.2.2.2 _, hp_set_ne (hp_set_ne h3 (by simp) _) (by simp) _, hp_set (hp_set h4 _) _, below_set (below_set h5 n1 _) n1 _⟩)); try simp only [Act.put, List.setIfInBounds_toArray, List.set_cons_zero, List.set_cons_succ]
        refine Ph.wpPh_nil ?_; intro wq hS
        refine Ph.at_end (by simp) ?_
        obtain ⟨_, _, k4, k5, hb2⟩ := hS
        have c4 := hp_cell k4
        have c5 := hp_cell (show hp wq (w.heap.size + 3) = _ from k5)
        clear k4 k5
        go_wp2
        refine bodyPost_ret (v := .tuple #[.agg #[.int .i64 a, .int .i64 b], .agg #[.int .i64 0, .int .i64 0]]) (by simp [results, Try.results58, go_sem, *]; done) rfl ⟨rfl, by (repeat (first | (with_reducible assumption) | (with_reducible exact Below.refl _ _) | (with_reducible refine below_set ?_ (by first | assumption | (simp; done) | (simp; omega) | omega) _) | (with_reducible apply below_alloc) | (with_reducible apply below_drew) | (with_reducible apply below_drewN) | (with_reducible refine below_call ?_ (by assumption))))⟩
  · by_cases qr : b' < b
    · by_cases qr2 : a < b'
      · rw [if_neg ql]
        rw [if_pos qr, show max a b' = b' by omega]
        clear h h'
        go_enter Try.func58, Try.ntmps58
        go_upto_region 1 with fail
        refine Ph.at_world ?_; intro W1 hW
        have k2 : hp W1 w.heap.size = some (.cells #[.int .i64 a, .int .i64 b] 53 (0, 0)) := by rw [hW]; simp [hpA, nn1, nn2]
        have k3 : hp W1 (w.heap.size + 1) = some (.cells #[.int .i64 a', .int .i64 b'] 53 (0, 0)) := by rw [hW]; simp [hpA, nn1, nn2]
        have k4 : hp W1 (w.heap.size + 2) = some (.cells #[.int .i64 0, .int .i64 0] 53 (0, 0)) := by rw [hW]; simp [hpA, nn1, nn2]
        have k5 : hp W1 (w.heap.size + 3) = some (.cells #[.int .i64 0, .int .i64 0] 53 (0, 0)) := by rw [hW]; simp [hpA, nn1, nn2]
        have HB := Lib.hid (show Below w.heap.size w W1 by rw [hW]; exact below_alloc (below_alloc (below_alloc (below_alloc (Below.refl _ _) _) _) _) _)
        clear hW
        have K := Lib.hid (And.intro k2 (And.intro k3 (And.intro k4 k5)))
        have c2 := hp_cell k2
        have c3 := hp_cell k3
        clear k2 k3 k4 k5
        have n1 : w.heap.size ≤ w.heap.size + 2 := by omega
        have n2 : w.heap.size ≤ w.heap.size + 3 := by omega
        go_upto_region 6 with (go_at_call 59; first | ((with_reducible refine (HE1.out _).mono ?_); rintro e w1 ⟨rfl, hb⟩; have HB1 := Lib.hid (below_call HB.out hb); have K1 := Lib.hid (And.intro (hp_below hb K.out.1) (And.intro (hp_below hb K.out.2.1) (And.intro (hp_below hb K.out.2.2.1) (hp_below hb K.out.2.2.2)))); replace c2 := hp_cell (hp_below hb K.out.1); replace c3 := hp_cell (hp_below hb K.out.2.1); clear hb) | ((with_reducible refine (HE2.out _).mono ?_); rintro e w2 ⟨rfl, hb⟩; have HB2 := Lib.hid (below_call HB1.out hb); have K2 := Lib.hid (And.intro (hp_below hb K1.out.1) (And.intro (hp_below hb K1.out.2.1) (And.intro (hp_below hb K1.out.2.2.1) (hp_below hb K1.out.2.2.2)))); replace c2 := hp_cell (hp_below hb K1.out.1); replace c3 := hp_cell (hp_below hb K1.out.2.1); clear hb))
        clear c2 c3
        refine Ph.at_world ?_; intro W6 hW
        obtain ⟨x6, hx6⟩ : ∃ x6, w2.heap.size = x6 := ⟨_, rfl⟩
        have hs2 := HB2.out.size
        have l2 := hp_lt K2.out.1; have l3 := hp_lt K2.out.2.1; have l4 := hp_lt K2.out.2.2.1; have l5 := hp_lt K2.out.2.2.2
        rw [hx6] at hs2 l2 l3 l4 l5 ⊢
        try rw [hx6] at hW
        have hz6 : Below w2.heap.size w2 W6 := by
          have n3 : w2.heap.size ≤ x6 := by omega
          have n4 : w2.heap.size ≤ x6 + 1 := by omega
          rw [hW]; exact by (repeat (first | (with_reducible assumption) | (with_reducible exact Below.refl _ _) | (with_reducible refine below_set ?_ (by first | assumption | (simp; done) | (simp; omega) | omega) _) | (with_reducible apply below_alloc) | (with_reducible apply below_drew) | (with_reducible apply below_drewN) | (with_reducible refine below_call ?_ (by assumption))))
        have k6 : hp W6 x6 = some (.cells #[.int .i64 0, .int .i64 0] 53 (0, 0)) := by rw [hW]; simp [hpA, hpS, cset_cells, hx6]
        have k7 : hp W6 (x6 + 1) = some (.cells #[.int .i64 0, .int .i64 0] 53 (0, 0)) := by rw [hW]; simp [hpA, hpS, cset_cells, hx6]
        have HX := Lib.hid (And.intro hx6 (And.intro hs2 (And.intro l2 (And.intro l3 (And.intro l4 l5)))))
        have K6 := Lib.hid (And.intro (hp_below hz6 K2.out.1) (And.intro (hp_below hz6 K2.out.2.1) (And.intro (hp_below hz6 K2.out.2.2.1) (And.intro (hp_below hz6 K2.out.2.2.2) (And.intro k6 (And.intro k7 (below_call HB2.out hz6)))))))
        clear hW hx6 hs2 l2 l3 l4 l5 hz6 k6 k7
        have d1 : ¬ (w.heap.size = x6) := by have := HX.out; omega
        have d2 : ¬ (w.heap.size + 1 = x6) := by have := HX.out; omega
        have d3 : ¬ (w.heap.size = x6 + 1) := by have := HX.out; omega
        have d4 : ¬ (w.heap.size + 1 = x6 + 1) := by have := HX.out; omega
        have c2 := hp_cell K6.out.1
        have c3 := hp_cell K6.out.2.1
        have c6 := hp_cell K6.out.2.2.2.2.1
        have f6 := hp_free K6.out.2.2.2.2.1
        go_upto_region 10 with fail
        refine Ph.at_world ?_; intro W10 hW
        have hl := HX.out
        have k2 : hp W10 w.heap.size = some (.cells #[.int .i64 a, .int .i64 b] 53 (0, 0)) := by rw [hW]; simp [hpS, K6.out.1, show ¬ (w.heap.size = x6) by omega]
        have k3 : hp W10 (w.heap.size + 1) = some (.cells #[.int .i64 a', .int .i64 b'] 53 (0, 0)) := by rw [hW]; simp [hpS, K6.out.2.1, show ¬ (w.heap.size + 1 = x6) by omega]
        have k4 : hp W10 (w.heap.size + 2) = some (.cells #[.int .i64 0, .int .i64 0] 53 (0, 0)) := by rw [hW]; simp [hpS, K6.out.2.2.1, show ¬ (w.heap.size + 2 = x6) by omega]
        have k5 : hp W10 (w.heap.size + 3) = some (.cells #[.int .i64 0, .int .i64 0] 53 (0, 0)) := by rw [hW]; simp [hpS, K6.out.2.2.2.1, show ¬ (w.heap.size + 3 = x6) by omega]
        have k6 : hp W10 x6 = some (.cells #[.int .i64 0, .int .i64 0] 53 (0, 0)) := by rw [hW]; simp [hpS, K6.out.2.2.2.2.1, cset_cells]
        have k7 : hp W10 (x6 + 1) = some (.cells #[.int .i64 0, .int .i64 0] 53 (0, 0)) := by rw [hW]; simp [hpS, K6.out.2.2.2.2.2.1]
        have hb10 : Below w.heap.size w W10 := by
          have n3 : w.heap.size ≤ x6 := by omega
          have hb6 := K6.out.2.2.2.2.2.2
          rw [hW]; exact by (repeat (first | (with_reducible assumption) | (with_reducible exact Below.refl _ _) | (with_reducible refine below_set ?_ (by first | assumption | (simp; done) | (simp; omega) | omega) _) | (with_reducible apply below_alloc) | (with_reducible apply below_drew) | (with_reducible apply below_drewN) | (with_reducible refine below_call ?_ (by assumption))))
        clear hW c2 c3 c6 f6
        have K10 := Lib.hid (And.intro k2 (And.intro k3 (And.intro k4 (And.intro k5 (And.intro k6 (And.intro k7 hb10))))))
        clear k2 k3 k4 k5 k6 k7 hb10 hl
        have c2 := hp_cell K10.out.1
        have c3 := hp_cell K10.out.2.1
        have c7 := hp_cell K10.out.2.2.2.2.2.1
        have f7 := hp_free K10.out.2.2.2.2.2.1
        go_upto_region 14 with fail
        refine Ph.at_world ?_; intro W14 hW
        have hl := HX.out
        have k4 : hp W14 (w.heap.size + 2) = some (.cells #[.int .i64 0, .int .i64 0] 53 (0, 0)) := by rw [hW]; simp [hpS, K10.out.2.2.1, show ¬ (w.heap.size + 2 = x6 + 1) by omega]
        have k5 : hp W14 (w.heap.size + 3) = some (.cells #[.int .i64 0, .int .i64 0] 53 (0, 0)) := by rw [hW]; simp [hpS, K10.out.2.2.2.1, show ¬ (w.heap.size + 3 = x6 + 1) by omega]
        have k6 : hp W14 x6 = some (.cells #[.int .i64 0, .int .i64 0] 53 (0, 0)) := by rw [hW]; simp [hpS, K10.out.2.2.2.2.1, cset_cells]
        have k7 : hp W14 (x6 + 1) = some (.cells #[.int .i64 b', .int .i64 b] 53 (0, 0)) := by rw [hW]; simp [hpS, K10.out.2.2.2.2.2.1, cset_cells]
        have hb14 : Below w.heap.size w W14 := by
          have n3 : w.heap.size ≤ x6 + 1 := by omega
          have hb10 := K10.out.2.2.2.2.2.2
          rw [hW]; exact by (repeat (first | (with_reducible assumption) | (with_reducible exact Below.refl _ _) | (with_reducible refine below_set ?_ (by first | assumption | (simp; done) | (simp; omega) | omega) _) | (with_reducible apply below_alloc) | (with_reducible apply below_drew) | (with_reducible apply below_drewN) | (with_reducible refine below_call ?_ (by assumption))))
        clear hW c2 c3 c7 f7
        have hA0 : CT4 w x6 (w.heap.size + 2) (0, 0) (b', b) (0, 0) (0, 0) W14 := ⟨k6, k7, k4, k5, hb14⟩
        have HNE := Lib.hid (show x6 ≠ w.heap.size + 2 ∧ x6 + 1 ≠ w.heap.size + 2 ∧ x6 ≠ w.heap.size + 3 ∧ x6 + 1 ≠ w.heap.size + 3 by omega)
        clear k4 k5 k6 k7 hb14 hl d1 d2 d3 d4
        refine Ph.region_at (by kernel_rfl) ?_
        refine Ph.at_stage 4 (fun i => if i < 0 then (0, 100, 0) else ([(0, 0, 0), (0, 1, 0), (0, 0, 1), (1, 1, 1)] : List (Nat × Nat × Nat)).getD (i - 0) (0, 0, 0)) (Ph.S3 (CT4 w x6 (w.heap.size + 2) (0, 0) (b', b) (0, 0) (0, 0)) (CT4 w x6 (w.heap.size + 2) (0, 0) (b', b) (0, 0) (0, 0)) (CT4 w x6 (w.heap.size + 2) (0, 0) (b', b) (0, 0) (b', b))) (by kernel_rfl) (by kernel_rfl) (CT4.mono _ _ _ _ _ _ _ _ _ hA0 (below_drew (Below.refl _ _))) ?_
        simp only [List.take_succ_cons, List.take_zero, List.drop_succ_cons, List.drop_zero]
        apply Ph.wpPh_q (Ph.S3_mono (CT4.mono _ _ _ _ _ _ _) (CT4.mono _ _ _ _ _ _ _) (CT4.mono _ _ _ _ _ _ _)) 0 0 rfl rfl; (focus (intro k0 hk1 hk2 w1 hS0; obtain rfl : k0 = 0 := Nat.le_antisymm hk2 hk1; obtain ⟨h1, h2, h3, h4, h5⟩ := hS0; have c6 := hp_cell h1; have c7 := hp_cell h2; go_simp; first | exact rfl | exact ⟨rfl, Below.refl _ _⟩ | exact Below.refl _ _)); try simp only [Act.put, List.setIfInBounds_toArray, List.set_cons_zero, List.set_cons_succ]
        apply Ph.wpPh_q (Ph.S3_mono (CT4.mono _ _ _ _ _ _ _) (CT4.mono _ _ _ _ _ _ _) (CT4.mono _ _ _ _ _ _ _)) 0 1 rfl rfl; (focus (intro k0 hk1 hk2 w1 hS0; (rcases (by omega : k0 = 0 ∨ k0 = 1) with rfl | rfl) <;> (obtain ⟨h1, h2, h3, h4, h5⟩ := hS0; have c6 := hp_cell h1; have c7 := hp_cell h2; go_simp; first | exact rfl | exact ⟨rfl, Below.refl _ _⟩ | exact Below.refl _ _))); try simp only [Act.put, List.setIfInBounds_toArray, List.set_cons_zero, List.set_cons_succ]
        apply Ph.wpPh_e 0 rfl rfl; (focus (intro w1 hS0; obtain ⟨h1, h2, h3, h4, h5⟩ := hS0; have c4 := hp_cell h3; have f4 := hp_free h3; have n1 : w.heap.size ≤ w.heap.size + 2 := (by omega); go_simp; all_goals exact ⟨rfl, hp_set_ne (hp_set_ne h1 HNE.out.1 _) HNE.out.1 _, hp_set_ne (hp_set_ne h2 HNE.out.2.1 _) HNE.out.2.1 _, hp_set (hp_set h3 _) _, hp_set_ne (hp_set_ne h4 (by simp) _) (by simp) _, below_set (below_set h5 n1 _) n1 _⟩)); try simp only [Act.put, List.setIfInBounds_toArray, List.set_cons_zero, List.set_cons_succ]
        apply Ph.wpPh_e 1 rfl rfl; (focus (intro w1 hS0; obtain ⟨h1, h2, h3, h4, h5⟩ := hS0; have c5 := hp_cell (show hp w1 (w.heap.size + 3) = _ from h4); have f5 := hp_free (show hp w1 (w.heap.size + 3) = _ from h4); have n1 : w.heap.size ≤ w.heap.size + 3 := (by omega); go_simp; all_goals exact ⟨rfl, hp_set_ne (hp_set_ne h1 HNE.out.2.2.1 _) HNE.out.2.2.1 _, hp_set_ne (hp_set_ne h2 HNE.out.2.2.2 _) HNE.out.2.2.2 _, hp_set_ne (hp_set_ne h3 (by simp) _) (by simp) _, hp_set (hp_set h4 _) _, below_set (below_set h5 n1 _) n1 _⟩)); try simp only [Act.put, List.setIfInBounds_toArray, List.set_cons_zero, List.set_cons_succ]
        refine Ph.wpPh_nil ?_; intro wq hS
        refine Ph.at_end (by simp) ?_
        obtain ⟨_, _, k4, k5, hb2⟩ := hS
        have c4 := hp_cell k4
        have c5 := hp_cell (show hp wq (w.heap.size + 3) = _ from k5)
        clear k4 k5
        go_wp2
        refine bodyPost_ret (v := .tuple #[.agg #[.int .i64 0, .int .i64 0], .agg #[.int .i64 b', .int .i64 b]]) (by simp [results, Try.results58, go_sem, *]; done) rfl ⟨rfl, by (repeat (first | (with_reducible assumption) | (with_reducible exact Below.refl _ _) | (with_reducible refine below_set ?_ (by first | assumption | (simp; done) | (simp; omega) | omega) _) | (with_reducible apply below_alloc) | (with_reducible apply below_drew) | (with_reducible apply below_drewN) | (with_reducible refine below_call ?_ (by assumption))))⟩
      · rw [if_neg ql]
        rw [if_pos qr, show max a b' = a by omega]
        clear h h'
        go_enter Try.func58, Try.ntmps58
        go_upto_region 1 with fail
        refine Ph.at_world ?_; intro W1 hW
        have k2 : hp W1 w.heap.size = some (.cells #[.int .i64 a, .int .i64 b] 53 (0, 0)) := by rw [hW]; simp [hpA, nn1, nn2]
        have k3 : hp W1 (w.heap.size + 1) = some (.cells #[.int .i64 a', .int .i64 b'] 53 (0, 0)) := by rw [hW]; simp [hpA, nn1, nn2]
        have k4 : hp W1 (w.heap.size + 2) = some (.cells #[.int .i64 0, .int .i64 0] 53 (0, 0)) := by rw [hW]; simp [hpA, nn1, nn2]
        have k5 : hp W1 (w.heap.size + 3) = some (.cells #[.int .i64 0, .int .i64 0] 53 (0, 0)) := by rw [hW]; simp [hpA, nn1, nn2]
        have HB := Lib.hid (show Below w.heap.size w W1 by rw [hW]; exact below_alloc (below_alloc (below_alloc (below_alloc (Below.refl _ _) _) _) _) _)
        clear hW
        have K := Lib.hid (And.intro k2 (And.intro k3 (And.intro k4 k5)))
        have c2 := hp_cell k2
        have c3 := hp_cell k3
        clear k2 k3 k4 k5
        have n1 : w.heap.size ≤ w.heap.size + 2 := by omega
        have n2 : w.heap.size ≤ w.heap.size + 3 := by omega
        go_upto_region 6 with (go_at_call 59; first | ((with_reducible refine (HE1.out _).mono ?_); rintro e w1 ⟨rfl, hb⟩; have HB1 := Lib.hid (below_call HB.out hb); have K1 := Lib.hid (And.intro (hp_below hb K.out.1) (And.intro (hp_below hb K.out.2.1) (And.intro (hp_below hb K.out.2.2.1) (hp_below hb K.out.2.2.2)))); replace c2 := hp_cell (hp_below hb K.out.1); replace c3 := hp_cell (hp_below hb K.out.2.1); clear hb) | ((with_reducible refine (HE2.out _).mono ?_); rintro e w2 ⟨rfl, hb⟩; have HB2 := Lib.hid (below_call HB1.out hb); have K2 := Lib.hid (And.intro (hp_below hb K1.out.1) (And.intro (hp_below hb K1.out.2.1) (And.intro (hp_below hb K1.out.2.2.1) (hp_below hb K1.out.2.2.2)))); replace c2 := hp_cell (hp_below hb K1.out.1); replace c3 := hp_cell (hp_below hb K1.out.2.1); clear hb))
        clear c2 c3
        refine Ph.at_world ?_; intro W6 hW
        obtain ⟨x6, hx6⟩ : ∃ x6, w2.heap.size = x6 := ⟨_, rfl⟩
        have hs2 := HB2.out.size
        have l2 := hp_lt K2.out.1; have l3 := hp_lt K2.out.2.1; have l4 := hp_lt K2.out.2.2.1; have l5 := hp_lt K2.out.2.2.2
        rw [hx6] at hs2 l2 l3 l4 l5 ⊢
        try rw [hx6] at hW
        have hz6 : Below w2.heap.size w2 W6 := by
          have n3 : w2.heap.size ≤ x6 := by omega
          have n4 : w2.heap.size ≤ x6 + 1 := by omega
          rw [hW]; exact by (repeat (first | (with_reducible assumption) | (with_reducible exact Below.refl _ _) | (with_reducible refine below_set ?_ (by first | assumption | (simp; done) | (simp; omega) | omega) _) | (with_reducible apply below_alloc) | (with_reducible apply below_drew) | (with_reducible apply below_drewN) | (with_reducible refine below_call ?_ (by assumption))))
        have k6 : hp W6 x6 = some (.cells #[.int .i64 0, .int .i64 0] 53 (0, 0)) := by rw [hW]; simp [hpA, hpS, cset_cells, hx6]
        have k7 : hp W6 (x6 + 1) = some (.cells #[.int .i64 0, .int .i64 0] 53 (0, 0)) := by rw [hW]; simp [hpA, hpS, cset_cells, hx6]
        have HX := Lib.hid (And.intro hx6 (And.intro hs2 (And.intro l2 (And.intro l3 (And.intro l4 l5)))))
        have K6 := Lib.hid (And.intro (hp_below hz6 K2.out.1) (And.intro (hp_below hz6 K2.out.2.1) (And.intro (hp_below hz6 K2.out.2.2.1) (And.intro (hp_below hz6 K2.out.2.2.2) (And.intro k6 (And.intro k7 (below_call HB2.out hz6)))))))
        clear hW hx6 hs2 l2 l3 l4 l5 hz6 k6 k7
        have d1 : ¬ (w.heap.size = x6) := by have := HX.out; omega
        have d2 : ¬ (w.heap.size + 1 = x6) := by have := HX.out; omega
        have d3 : ¬ (w.heap.size = x6 + 1) := by have := HX.out; omega
        have d4 : ¬ (w.heap.size + 1 = x6 + 1) := by have := HX.out; omega
        have c2 := hp_cell K6.out.1
        have c3 := hp_cell K6.out.2.1
        have c6 := hp_cell K6.out.2.2.2.2.1
        have f6 := hp_free K6.out.2.2.2.2.1
        go_upto_region 10 with fail
        refine Ph.at_world ?_; intro W10 hW
        have hl := HX.out
        have k2 : hp W10 w.heap.size = some (.cells #[.int .i64 a, .int .i64 b] 53 (0, 0)) := by rw [hW]; simp [hpS, K6.out.1, show ¬ (w.heap.size = x6) by omega]
        have k3 : hp W10 (w.heap.size + 1) = some (.cells #[.int .i64 a', .int .i64 b'] 53 (0, 0)) := by rw [hW]; simp [hpS, K6.out.2.1, show ¬ (w.heap.size + 1 = x6) by omega]
        have k4 : hp W10 (w.heap.size + 2) = some (.cells #[.int .i64 0, .int .i64 0] 53 (0, 0)) := by rw [hW]; simp [hpS, K6.out.2.2.1, show ¬ (w.heap.size + 2 = x6) by omega]
        have k5 : hp W10 (w.heap.size + 3) = some (.cells #[.int .i64 0, .int .i64 0] 53 (0, 0)) := by rw [hW]; simp [hpS, K6.out.2.2.2.1, show ¬ (w.heap.size + 3 = x6) by omega]
        have k6 : hp W10 x6 = some (.cells #[.int .i64 0, .int .i64 0] 53 (0, 0)) := by rw [hW]; simp [hpS, K6.out.2.2.2.2.1, cset_cells]
        have k7 : hp W10 (x6 + 1) = some (.cells #[.int .i64 0, .int .i64 0] 53 (0, 0)) := by rw [hW]; simp [hpS, K6.out.2.2.2.2.2.1]
        have hb10 : Below w.heap.size w W10 := by
          have n3 : w.heap.size ≤ x6 := by omega
          have hb6 := K6.out.2.2.2.2.2.2
          rw [hW]; exact by (repeat (first | (with_reducible assumption) | (with_reducible exact Below.refl _ _) | (with_reducible refine below_set ?_ (by first | assumption | (simp; done) | (simp; omega) | omega) _) | (with_reducible apply below_alloc) | (with_reducible apply below_drew) | (with_reducible apply below_drewN) | (with_reducible refine below_call ?_ (by assumption))))
        clear hW c2 c3 c6 f6
        have K10 := Lib.hid (And.intro k2 (And.intro k3 (And.intro k4 (And.intro k5 (And.intro k6 (And.intro k7 hb10))))))
        clear k2 k3 k4 k5 k6 k7 hb10 hl
        have c2 := hp_cell K10.out.1
        have c3 := hp_cell K10.out.2.1
        have c7 := hp_cell K10.out.2.2.2.2.2.1
        have f7 := hp_free K10.out.2.2.2.2.2.1
        go_upto_region 14 with fail
        refine Ph.at_world ?_; intro W14 hW
        have hl := HX.out
        have k4 : hp W14 (w.heap.size + 2) = some (.cells #[.int .i64 0, .int .i64 0] 53 (0, 0)) := by rw [hW]; simp [hpS, K10.out.2.2.1, show ¬ (w.heap.size + 2 = x6 + 1) by omega]
        have k5 : hp W14 (w.heap.size + 3) = some (.cells #[.int .i64 0, .int .i64 0] 53 (0, 0)) := by rw [hW]; simp [hpS, K10.out.2.2.2.1, show ¬ (w.heap.size + 3 = x6 + 1) by omega]
        have k6 : hp W14 x6 = some (.cells #[.int .i64 0, .int .i64 0] 53 (0, 0)) := by rw [hW]; simp [hpS, K10.out.2.2.2.2.1, cset_cells]
        have k7 : hp W14 (x6 + 1) = some (.cells #[.int .i64 a, .int .i64 b] 53 (0, 0)) := by rw [hW]; simp [hpS, K10.out.2.2.2.2.2.1, cset_cells]
        have hb14 : Below w.heap.size w W14 := by
          have n3 : w.heap.size ≤ x6 + 1 := by omega
          have hb10 := K10.out.2.2.2.2.2.2
          rw [hW]; exact by (repeat (first | (with_reducible assumption) | (with_reducible exact Below.refl _ _) | (with_reducible refine below_set ?_ (by first | assumption | (simp; done) | (simp; omega) | omega) _) | (with_reducible apply below_alloc) | (with_reducible apply below_drew) | (with_reducible apply below_drewN) | (with_reducible refine below_call ?_ (by assumption))))
        clear hW c2 c3 c7 f7
        have hA0 : CT4 w x6 (w.heap.size + 2) (0, 0) (a, b) (0, 0) (0, 0) W14 := ⟨k6, k7, k4, k5, hb14⟩
        have HNE := Lib.hid (show x6 ≠ w.heap.size + 2 ∧ x6 + 1 ≠ w.heap.size + 2 ∧ x6 ≠ w.heap.size + 3 ∧ x6 + 1 ≠ w.heap.size + 3 by omega)
        clear k4 k5 k6 k7 hb14 hl d1 d2 d3 d4
        refine Ph.region_at (by kernel_rfl) ?_
        refine Ph.at_stage 4 (fun i => if i < 0 then (0, 100, 0) else ([(0, 0, 0), (0, 1, 0), (0, 0, 1), (1, 1, 1)] : List (Nat × Nat × Nat)).getD (i - 0) (0, 0, 0)) (Ph.S3 (CT4 w x6 (w.heap.size + 2) (0, 0) (a, b) (0, 0) (0, 0)) (CT4 w x6 (w.heap.size + 2) (0, 0) (a, b) (0, 0) (0, 0)) (CT4 w x6 (w.heap.size + 2) (0, 0) (a, b) (0, 0) (a, b))) (by kernel_rfl) (by kernel_rfl) (CT4.mono _ _ _ _ _ _ _ _ _ hA0 (below_drew (Below.refl _ _))) ?_
        simp only [List.take_succ_cons, List.take_zero, List.drop_succ_cons, List.drop_zero]
        apply Ph.wpPh_q (Ph.S3_mono (CT4.mono _ _ _ _ _ _ _) (CT4.mono _ _ _ _ _ _ _) (CT4.mono _ _ _ _ _ _ _)) 0 0 rfl rfl; (focus (intro k0 hk1 hk2 w1 hS0; obtain rfl : k0 = 0 := Nat.le_antisymm hk2 hk1; obtain ⟨h1, h2, h3, h4, h5⟩ := hS0; have c6 := hp_cell h1; have c7 := hp_cell h2; go_simp; first | exact rfl | exact ⟨rfl, Below.refl _ _⟩ | exact Below.refl _ _)); try simp only [Act.put, List.setIfInBounds_toArray, List.set_cons_zero, List.set_cons_succ]
        apply Ph.wpPh_q (Ph.S3_mono (CT4.mono _ _ _ _ _ _ _) (CT4.mono _ _ _ _ _ _ _) (CT4.mono _ _ _ _ _ _ _)) 0 1 rfl rfl; (focus (intro k0 hk1 hk2 w1 hS0; (rcases (by omega : k0 = 0 ∨ k0 = 1) with rfl | rfl) <;> (obtain ⟨h1, h2, h3, h4, h5⟩ := hS0; have c6 := hp_cell h1; have c7 := hp_cell h2; go_simp; first | exact rfl | exact ⟨rfl, Below.refl _ _⟩ | exact Below.refl _ _))); try simp only [Act.put, List.setIfInBounds_toArray, List.set_cons_zero, List.set_cons_succ]
        apply Ph.wpPh_e 0 rfl rfl; (focus (intro w1 hS0; obtain ⟨h1, h2, h3, h4, h5⟩ := hS0; have c4 := hp_cell h3; have f4 := hp_free h3; have n1 : w.heap.size ≤ w.heap.size + 2 := (by omega); go_simp; all_goals exact ⟨rfl, hp_set_ne (hp_set_ne h1 HNE.out.1 _) HNE.out.1 _, hp_set_ne (hp_set_ne h2 HNE.out.2.1 _) HNE.out.2.1 _, hp_set (hp_set h3 _) _, hp_set_ne (hp_set_ne h4 (by simp) _) (by simp) _, below_set (below_set h5 n1 _) n1 _⟩)); try simp only [Act.put, List.setIfInBounds_toArray, List.set_cons_zero, List.set_cons_succ]
        apply Ph.wpPh_e 1 rfl rfl; (focus (intro w1 hS0; obtain ⟨h1, h2, h3, h4, h5⟩ := hS0; have c5 := hp_cell (show hp w1 (w.heap.size + 3) = _ from h4); have f5 := hp_free (show hp w1 (w.heap.size + 3) = _ from h4); have n1 : w.heap.size ≤ w.heap.size + 3 := (by omega); go_simp; all_goals exact ⟨rfl, hp_set_ne (hp_set_ne h1 HNE.out.2.2.1 _) HNE.out.2.2.1 _, hp_set_ne (hp_set_ne h2 HNE.out.2.2.2 _) HNE.out.2.2.2 _, hp_set_ne (hp_set_ne h3 (by simp) _) (by simp) _, hp_set (hp_set h4 _) _, below_set (below_set h5 n1 _) n1 _⟩)); try simp only [Act.put, List.setIfInBounds_toArray, List.set_cons_zero, List.set_cons_succ]
        refine Ph.wpPh_nil ?_; intro wq hS
        refine Ph.at_end (by simp) ?_
        obtain ⟨_, _, k4, k5, hb2⟩ := hS
        have c4 := hp_cell k4
        have c5 := hp_cell (show hp wq (w.heap.size + 3) = _ from k5)
        clear k4 k5
        go_wp2
        refine bodyPost_ret (v := .tuple #[.agg #[.int .i64 0, .int .i64 0], .agg #[.int .i64 a, .int .i64 b]]) (by simp [results, Try.results58, go_sem, *]; done) rfl ⟨rfl, by (repeat (first | (with_reducible assumption) | (with_reducible exact Below.refl _ _) | (with_reducible refine below_set ?_ (by first | assumption | (simp; done) | (simp; omega) | omega) _) | (with_reducible apply below_alloc) | (with_reducible apply below_drew) | (with_reducible apply below_drewN) | (with_reducible refine below_call ?_ (by assumption))))⟩
    · rw [if_neg ql]
      rw [if_neg qr]
      clear h h'
      go_enter Try.func58, Try.ntmps58
      go_upto_region 1 with fail
      refine Ph.at_world ?_; intro W1 hW
      have k2 : hp W1 w.heap.size = some (.cells #[.int .i64 a, .int .i64 b] 53 (0, 0)) := by rw [hW]; simp [hpA, nn1, nn2]
      have k3 : hp W1 (w.heap.size + 1) = some (.cells #[.int .i64 a', .int .i64 b'] 53 (0, 0)) := by rw [hW]; simp [hpA, nn1, nn2]
      have k4 : hp W1 (w.heap.size + 2) = some (.cells #[.int .i64 0, .int .i64 0] 53 (0, 0)) := by rw [hW]; simp [hpA, nn1, nn2]
      have k5 : hp W1 (w.heap.size + 3) = some (.cells #[.int .i64 0, .int .i64 0] 53 (0, 0)) := by rw [hW]; simp [hpA, nn1, nn2]
      have HB := Lib.hid (show Below w.heap.size w W1 by rw [hW]; exact below_alloc (below_alloc (below_alloc (below_alloc (Below.refl _ _) _) _) _) _)
      clear hW
      have K := Lib.hid (And.intro k2 (And.intro k3 (And.intro k4 k5)))
      have c2 := hp_cell k2
      have c3 := hp_cell k3
      clear k2 k3 k4 k5
      have n1 : w.heap.size ≤ w.heap.size + 2 := by omega
      have n2 : w.heap.size ≤ w.heap.size + 3 := by omega
      go_upto_region 6 with (go_at_call 59; first | ((with_reducible refine (HE1.out _).mono ?_); rintro e w1 ⟨rfl, hb⟩; have HB1 := Lib.hid (below_call HB.out hb); have K1 := Lib.hid (And.intro (hp_below hb K.out.1) (And.intro (hp_below hb K.out.2.1) (And.intro (hp_below hb K.out.2.2.1) (hp_below hb K.out.2.2.2)))); replace c2 := hp_cell (hp_below hb K.out.1); replace c3 := hp_cell (hp_below hb K.out.2.1); clear hb) | ((with_reducible refine (HE2.out _).mono ?_); rintro e w2 ⟨rfl, hb⟩; have HB2 := Lib.hid (below_call HB1.out hb); have K2 := Lib.hid (And.intro (hp_below hb K1.out.1) (And.intro (hp_below hb K1.out.2.1) (And.intro (hp_below hb K1.out.2.2.1) (hp_below hb K1.out.2.2.2)))); replace c2 := hp_cell (hp_below hb K1.out.1); replace c3 := hp_cell (hp_below hb K1.out.2.1); clear hb))
      clear c2 c3
      refine Ph.at_world ?_; intro W6 hW
      obtain ⟨x6, hx6⟩ : ∃ x6, w2.heap.size = x6 := ⟨_, rfl⟩
      have hs2 := HB2.out.size
      have l2 := hp_lt K2.out.1; have l3 := hp_lt K2.out.2.1; have l4 := hp_lt K2.out.2.2.1; have l5 := hp_lt K2.out.2.2.2
      rw [hx6] at hs2 l2 l3 l4 l5 ⊢
      try rw [hx6] at hW
      have hz6 : Below w2.heap.size w2 W6 := by
        have n3 : w2.heap.size ≤ x6 := by omega
        have n4 : w2.heap.size ≤ x6 + 1 := by omega
        rw [hW]; exact by (repeat (first | (with_reducible assumption) | (with_reducible exact Below.refl _ _) | (with_reducible refine below_set ?_ (by first | assumption | (simp; done) | (simp; omega) | omega) _) | (with_reducible apply below_alloc) | (with_reducible apply below_drew) | (with_reducible apply below_drewN) | (with_reducible refine below_call ?_ (by assumption))))
      have k6 : hp W6 x6 = some (.cells #[.int .i64 0, .int .i64 0] 53 (0, 0)) := by rw [hW]; simp [hpA, hpS, cset_cells, hx6]
      have k7 : hp W6 (x6 + 1) = some (.cells #[.int .i64 0, .int .i64 0] 53 (0, 0)) := by rw [hW]; simp [hpA, hpS, cset_cells, hx6]
      have HX := Lib.hid (And.intro hx6 (And.intro hs2 (And.intro l2 (And.intro l3 (And.intro l4 l5)))))
      have K6 := Lib.hid (And.intro (hp_below hz6 K2.out.1) (And.intro (hp_below hz6 K2.out.2.1) (And.intro (hp_below hz6 K2.out.2.2.1) (And.intro (hp_below hz6 K2.out.2.2.2) (And.intro k6 (And.intro k7 (below_call HB2.out hz6)))))))
      clear hW hx6 hs2 l2 l3 l4 l5 hz6 k6 k7
      have d1 : ¬ (w.heap.size = x6) := by have := HX.out; omega
      have d2 : ¬ (w.heap.size + 1 = x6) := by have := HX.out; omega
      have d3 : ¬ (w.heap.size = x6 + 1) := by have := HX.out; omega
      have d4 : ¬ (w.heap.size + 1 = x6 + 1) := by have := HX.out; omega
      have c2 := hp_cell K6.out.1
      have c3 := hp_cell K6.out.2.1
      have c6 := hp_cell K6.out.2.2.2.2.1
      have f6 := hp_free K6.out.2.2.2.2.1
      go_upto_region 10 with fail
      refine Ph.at_world ?_; intro W10 hW
      have hl := HX.out
      have k2 : hp W10 w.heap.size = some (.cells #[.int .i64 a, .int .i64 b] 53 (0, 0)) := by rw [hW]; simp [hpS, K6.out.1, show ¬ (w.heap.size = x6) by omega]
      have k3 : hp W10 (w.heap.size + 1) = some (.cells #[.int .i64 a', .int .i64 b'] 53 (0, 0)) := by rw [hW]; simp [hpS, K6.out.2.1, show ¬ (w.heap.size + 1 = x6) by omega]
      have k4 : hp W10 (w.heap.size + 2) = some (.cells #[.int .i64 0, .int .i64 0] 53 (0, 0)) := by rw [hW]; simp [hpS, K6.out.2.2.1, show ¬ (w.heap.size + 2 = x6) by omega]
      have k5 : hp W10 (w.heap.size + 3) = some (.cells #[.int .i64 0, .int .i64 0] 53 (0, 0)) := by rw [hW]; simp [hpS, K6.out.2.2.2.1, show ¬ (w.heap.size + 3 = x6) by omega]
      have k6 : hp W10 x6 = some (.cells #[.int .i64 0, .int .i64 0] 53 (0, 0)) := by rw [hW]; simp [hpS, K6.out.2.2.2.2.1, cset_cells]
      have k7 : hp W10 (x6 + 1) = some (.cells #[.int .i64 0, .int .i64 0] 53 (0, 0)) := by rw [hW]; simp [hpS, K6.out.2.2.2.2.2.1]
      have hb10 : Below w.heap.size w W10 := by
        have n3 : w.heap.size ≤ x6 := by omega
        have hb6 := K6.out.2.2.2.2.2.2
        rw [hW]; exact by (repeat (first | (with_reducible assumption) | (with_reducible exact Below.refl _ _) | (with_reducible refine below_set ?_ (by first | assumption | (simp; done) | (simp; omega) | omega) _) | (with_reducible apply below_alloc) | (with_reducible apply below_drew) | (with_reducible apply below_drewN) | (with_reducible refine below_call ?_ (by assumption))))
      clear hW c2 c3 c6 f6
      have K10 := Lib.hid (And.intro k2 (And.intro k3 (And.intro k4 (And.intro k5 (And.intro k6 (And.intro k7 hb10))))))
      clear k2 k3 k4 k5 k6 k7 hb10 hl
      have c2 := hp_cell K10.out.1
      have c3 := hp_cell K10.out.2.1
      have c7 := hp_cell K10.out.2.2.2.2.2.1
      have f7 := hp_free K10.out.2.2.2.2.2.1
      go_upto_region 14 with fail
      refine Ph.at_world ?_; intro W14 hW
      have hl := HX.out
      have k4 : hp W14 (w.heap.size + 2) = some (.cells #[.int .i64 0, .int .i64 0] 53 (0, 0)) := by rw [hW]; simp [hpS, K10.out.2.2.1, show ¬ (w.heap.size + 2 = x6 + 1) by omega]
      have k5 : hp W14 (w.heap.size + 3) = some (.cells #[.int .i64 0, .int .i64 0] 53 (0, 0)) := by rw [hW]; simp [hpS, K10.out.2.2.2.1, show ¬ (w.heap.size + 3 = x6 + 1) by omega]
      have k6 : hp W14 x6 = some (.cells #[.int .i64 0, .int .i64 0] 53 (0, 0)) := by rw [hW]; simp [hpS, K10.out.2.2.2.2.1, cset_cells]
      have k7 : hp W14 (x6 + 1) = some (.cells #[.int .i64 0, .int .i64 0] 53 (0, 0)) := by rw [hW]; simp [hpS, K10.out.2.2.2.2.2.1, cset_cells]
      have hb14 : Below w.heap.size w W14 := by
        have n3 : w.heap.size ≤ x6 + 1 := by omega
        have hb10 := K10.out.2.2.2.2.2.2
        rw [hW]; exact by (repeat (first | (with_reducible assumption) | (with_reducible exact Below.refl _ _) | (with_reducible refine below_set ?_ (by first | assumption | (simp; done) | (simp; omega) | omega) _) | (with_reducible apply below_alloc) | (with_reducible apply below_drew) | (with_reducible apply below_drewN) | (with_reducible refine below_call ?_ (by assumption))))
      clear hW c2 c3 c7 f7
      have hA0 : CT4 w x6 (w.heap.size + 2) (0, 0) (0, 0) (0, 0) (0, 0) W14 := ⟨k6, k7, k4, k5, hb14⟩
      have HNE := Lib.hid (show x6 ≠ w.heap.size + 2 ∧ x6 + 1 ≠ w.heap.size + 2 ∧ x6 ≠ w.heap.size + 3 ∧ x6 + 1 ≠ w.heap.size + 3 by omega)
      clear k4 k5 k6 k7 hb14 hl d1 d2 d3 d4
      refine Ph.region_at (by kernel_rfl) ?_
      refine Ph.at_stage 4 (fun i => if i < 0 then (0, 100, 0) else ([(0, 0, 0), (0, 1, 0), (0, 0, 1), (1, 1, 1)] : List (Nat × Nat × Nat)).getD (i - 0) (0, 0, 0)) (Ph.S3 (CT4 w x6 (w.heap.size + 2) (0, 0) (0, 0) (0, 0) (0, 0)) (CT4 w x6 (w.heap.size + 2) (0, 0) (0, 0) (0, 0) (0, 0)) (CT4 w x6 (w.heap.size + 2) (0, 0) (0, 0) (0, 0) (0, 0))) (by kernel_rfl) (by kernel_rfl) (CT4.mono _ _ _ _ _ _ _ _ _ hA0 (below_drew (Below.refl _ _))) ?_
      simp only [List.take_succ_cons, List.take_zero, List.drop_succ_cons, List.drop_zero]
      apply Ph.wpPh_q (Ph.S3_mono (CT4.mono _ _ _ _ _ _ _) (CT4.mono _ _ _ _ _ _ _) (CT4.mono _ _ _ _ _ _ _)) 0 0 rfl rfl; (focus (intro k0 hk1 hk2 w1 hS0; obtain rfl : k0 = 0 := Nat.le_antisymm hk2 hk1; obtain ⟨h1, h2, h3, h4, h5⟩ := hS0; have c6 := hp_cell h1; have c7 := hp_cell h2; go_simp; first | exact rfl | exact ⟨rfl, Below.refl _ _⟩ | exact Below.refl _ _)); try simp only [Act.put, List.setIfInBounds_toArray, List.set_cons_zero, List.set_cons_succ]
      apply Ph.wpPh_q (Ph.S3_mono (CT4.mono _ _ _ _ _ _ _) (CT4.mono _ _ _ _ _ _ _) (CT4.mono _ _ _ _ _ _ _)) 0 1 rfl rfl; (focus (intro k0 hk1 hk2 w1 hS0; (rcases (by omega : k0 = 0 ∨ k0 = 1) with rfl | rfl) <;> (obtain ⟨h1, h2, h3, h4, h5⟩ := hS0; have c6 := hp_cell h1; have c7 := hp_cell h2; go_simp; first | exact rfl | exact ⟨rfl, Below.refl _ _⟩ | exact Below.refl _ _))); try simp only [Act.put, List.setIfInBounds_toArray, List.set_cons_zero, List.set_cons_succ]
      apply Ph.wpPh_e 0 rfl rfl; (focus (intro w1 hS0; obtain ⟨h1, h2, h3, h4, h5⟩ := hS0; have c4 := hp_cell h3; have f4 := hp_free h3; have n1 : w.heap.size ≤ w.heap.size + 2 := (by omega); go_simp; all_goals exact ⟨rfl, hp_set_ne (hp_set_ne h1 HNE.out.1 _) HNE.out.1 _, hp_set_ne (hp_set_ne h2 HNE.out.2.1 _) HNE.out.2.1 _, hp_set (hp_set h3 _) _, hp_set_ne (hp_set_ne h4 (by simp) _) (by simp) _, below_set (below_set h5 n1 _) n1 _⟩)); try simp only [Act.put, List.setIfInBounds_toArray, List.set_cons_zero, List.set_cons_succ]
      apply Ph.wpPh_e 1 rfl rfl; (focus (intro w1 hS0; obtain ⟨h1, h2, h3, h4, h5⟩ := hS0; have c5 := hp_cell (show hp w1 (w.heap.size + 3) = _ from h4); have f5 := hp_free (show hp w1 (w.heap.size + 3) = _ from h4); have n1 : w.heap.size ≤ w.heap.size + 3 := (by omega); go_simp; all_goals exact ⟨rfl, hp_set_ne (hp_set_ne h1 HNE.out.2.2.1 _) HNE.out.2.2.1 _, hp_set_ne (hp_set_ne h2 HNE.out.2.2.2 _) HNE.out.2.2.2 _, hp_set_ne (hp_set_ne h3 (by simp) _) (by simp) _, hp_set (hp_set h4 _) _, below_set (below_set h5 n1 _) n1 _⟩)); try simp only [Act.put, List.setIfInBounds_toArray, List.set_cons_zero, List.set_cons_succ]
      refine Ph.wpPh_nil ?_; intro wq hS
      refine Ph.at_end (by simp) ?_
      obtain ⟨_, _, k4, k5, hb2⟩ := hS
      have c4 := hp_cell k4
      have c5 := hp_cell (show hp wq (w.heap.size + 3) = _ from k5)
      clear k4 k5
      go_wp2
      refine bodyPost_ret (v := .tuple #[.agg #[.int .i64 0, .int .i64 0], .agg #[.int .i64 0, .int .i64 0]]) (by simp [results, Try.results58, go_sem, *]; done) rfl ⟨rfl, by (repeat (first | (with_reducible assumption) | (with_reducible exact Below.refl _ _) | (with_reducible refine below_set ?_ (by first | assumption | (simp; done) | (simp; omega) | omega) _) | (with_reducible apply below_alloc) | (with_reducible apply below_drew) | (with_reducible apply below_drewN) | (with_reducible refine below_call ?_ (by assumption))))⟩
end Go.Proofs.Ytnofclmnjhkhiaa
