/- A nil cover. -/
import Derived.Test.YtnofclmnjhkhiaaCx2
import Derived.Test.YtnofclmnjhkhiaaCb
import Derived.WalkKit
import Derived.WalkLawsBesides
import Derived.WalkSpells
import Derived.Below
import Derived.Deep.RegionHeld3
import Derived.Deep.QuietTactic
import Derived.BigQuiet
import Derived.Deep.DeepCutAuto
import Derived.Deep.DeepMust
import Derived.KernelRfl
import Derived.Lib.Hide
import Derived.Outline
import Derived.RegionTactic
import Derived.StillTailTactics
namespace Go.Proofs.Ytnofclmnjhkhiaa
open Go.RowKit Go.Cl Go.Cv
set_option maxRecDepth 100000
set_option linter.unusedVariables false
set_option linter.unusedSimpArgs false

theorem n_spans (w : World) : Calls Try.prog 37 #[.pointer none] w fun e w' => e = .returned (.slice none 0 0) ∧ w = w' := by
  go_enter Try.func37, Try.ntmps37
  go_wp2
  go_ret
  exact ⟨rfl, rfl⟩
theorem n_from (w : World) (x : Int) : Calls Try.prog 33 #[.pointer none, .int .i64 x] w fun e w' => e = .returned (.int .i64 0) ∧ Below w.heap.size w w' := c_fromN w none [] (.inl ⟨rfl, rfl⟩) Wf.nil (by decide) x
theorem n_len (w : World) : Calls Try.prog 30 #[.pointer none] w fun e w' => e = .returned (.int .i64 0) ∧ w = w' := c_lenN w none [] (.inl ⟨rfl, rfl⟩)
theorem n_add (w : World) (lo hi : Int) : Calls Try.prog 14 #[.pointer none, .agg #[.int .i64 lo, .int .i64 hi]] w fun e w' => e = .returned (.tuple #[]) ∧ Below w.heap.size w w' := by
  go_enter Try.func14, Try.ntmps14
  go_wp2
  refine bodyPost_ret (v := .tuple #[]) (results_none rfl _ _ _) rfl ⟨rfl, by (repeat (first | (with_reducible assumption) | (with_reducible exact Below.refl _ _) | (with_reducible refine below_set ?_ (by first | assumption | (simp; done) | (simp; omega) | omega) _) | (with_reducible apply below_alloc) | (with_reducible apply below_drew) | (with_reducible apply below_drewN) | (with_reducible refine below_call ?_ (by assumption))))⟩
theorem n_cut (w : World) (lo hi : Int) : Calls Try.prog 12 #[.pointer none, .agg #[.int .i64 lo, .int .i64 hi]] w fun e w' => e = .returned (.tuple #[]) ∧ Below w.heap.size w w' := by
  go_enter Try.func12, Try.ntmps12
  go_wp2
  refine bodyPost_ret (v := .tuple #[]) (results_none rfl _ _ _) rfl ⟨rfl, by (repeat (first | (with_reducible assumption) | (with_reducible exact Below.refl _ _) | (with_reducible refine below_set ?_ (by first | assumption | (simp; done) | (simp; omega) | omega) _) | (with_reducible apply below_alloc) | (with_reducible apply below_drew) | (with_reducible apply below_drewN) | (with_reducible refine below_call ?_ (by assumption))))⟩
theorem n_next (w : World) (x : Int) : Calls Try.prog 20 #[.pointer none, .int .i64 x] w fun e w' => e = .returned (.tuple #[.int .i64 0, .bool false]) ∧ Below w.heap.size w w' := by
  go_enter Try.func20, Try.ntmps20
  go_wp2_with (first | (go_at_call 33; (with_reducible refine (n_from _ _).mono ?_); rintro e w1 ⟨rfl, hb⟩; have HB := Lib.hid hb; clear hb) | (go_at_call 37; (with_reducible refine (n_spans _).mono ?_); rintro e w2 ⟨rfl, rfl⟩))
  refine bodyPost_ret (v := .tuple #[.int .i64 0, .bool false]) (by simp [results, Try.results20, go_sem]; done) rfl ⟨rfl, HB.out⟩
theorem n_has (w : World) (x : Int) : Calls Try.prog 16 #[.pointer none, .int .i64 x] w fun e w' => e = .returned (.bool false) ∧ Below w.heap.size w w' := by
  go_enter Try.func16, Try.ntmps16
  go_wp2_with (first | (go_at_call 33; (with_reducible refine (n_from _ _).mono ?_); rintro e w1 ⟨rfl, hb⟩; have HB := Lib.hid hb; clear hb) | (go_at_call 37; (with_reducible refine (n_spans _).mono ?_); rintro e w2 ⟨rfl, rfl⟩))
  go_ret
  exact ⟨rfl, HB.out⟩
theorem n_gap (w : World) (x : Int) : Calls Try.prog 17 #[.pointer none, .int .i64 x] w fun e w' => e = .returned (.int .i64 x) ∧ Below w.heap.size w w' := by
  go_enter Try.func17, Try.ntmps17
  go_wp2_with (go_at_call 16; (with_reducible refine (n_has _ _).mono ?_); rintro e w1 ⟨rfl, hb⟩; have HB := Lib.hid hb; clear hb)
  go_ret
  exact ⟨rfl, HB.out⟩
theorem n_clone (w : World) : Calls Try.prog 25 #[.pointer none] w fun e w' => e = .returned (.pointer none) ∧ Below w.heap.size w w' := by
  go_enter Try.func25, Try.ntmps25
  go_wp2
  go_ret
  exact ⟨rfl, by (repeat (first | (with_reducible assumption) | (with_reducible exact Below.refl _ _) | (with_reducible refine below_set ?_ (by first | assumption | (simp; done) | (simp; omega) | omega) _) | (with_reducible apply below_alloc) | (with_reducible apply below_drew) | (with_reducible apply below_drewN) | (with_reducible refine below_call ?_ (by assumption))))⟩
set_option maxHeartbeats 2000000 in
theorem n_meets (w : World) (lo hi : Int) : Calls Try.prog 21 #[.pointer none, .agg #[.int .i64 lo, .int .i64 hi]] w fun e w' => e = .returned (.bool false) ∧ Below w.heap.size w w' := by
  go_enter Try.func21, Try.ntmps21
  go_upto_region 1 with fail
  refine Ph.at_world ?_; intro W1 hW
  obtain ⟨x3, hx3⟩ : ∃ x3, w.heap.size = x3 := ⟨_, rfl⟩
  have k3 : hp W1 x3 = some (.cells #[.int .i64 lo, .int .i64 hi] 30 (0, 0)) := by rw [hW, ← hx3]; simp [hpA]
  have HB1 := Lib.hid (show Below w.heap.size w W1 by rw [hW]; exact below_alloc (Below.refl _ _) _)
  rw [hx3]
  clear hW hx3
  have c3 := hp_cell k3
  have HK := Lib.hid k3; clear k3
  go_upto_region 2 with (go_at_call 33; (with_reducible refine (n_from _ _).mono ?_); rintro e w2 ⟨rfl, hb⟩; have HB2 := Lib.hid (below_call HB1.out hb); clear hb)
  clear c3
  refine Ph.region_at (by kernel_rfl) ?_
  refine Ph.at_quiet 17 (by kernel_rfl) ?_
  simp only [List.take_succ_cons, List.take_zero, List.drop_succ_cons, List.drop_zero]
  repeat ((first | (apply Ph.wpPh_g; (focus (intro wx hS0; go_simp; first | exact rfl | exact ⟨rfl, Below.refl _ _⟩ | ((with_reducible refine (n_spans _).mono ?_); rintro e w2 ⟨rfl, rfl⟩; exact ⟨rfl, Below.refl _ _⟩))))); simp only [Act.put, List.setIfInBounds_toArray, List.set_cons_zero, List.set_cons_succ])
  refine Ph.wpPh_nil ?_; intro w6 hS
  refine Ph.at_end (by simp) ?_
  go_wp2
  go_ret
  exact ⟨rfl, below_call HB2.out (below_call (below_drew (Below.refl _ _)) hS)⟩
set_option maxHeartbeats 2000000 in
theorem n_holds (w : World) (lo hi : Int) : Calls Try.prog 22 #[.pointer none, .agg #[.int .i64 lo, .int .i64 hi]] w fun e w' => e = .returned (.bool (decide (hi ≤ lo))) ∧ Below w.heap.size w w' := by
  have HE := Lib.hid (fun w => c_empty lo hi w)
  by_cases h : hi ≤ lo
  · have e : decide (hi ≤ lo) = true := decide_eq_true h
    rw [e] at HE ⊢
    clear h e
    go_enter Try.func22, Try.ntmps22
    go_upto_region 1 with fail
    refine Ph.at_world ?_; intro W1 hW
    obtain ⟨x3, hx3⟩ : ∃ x3, w.heap.size = x3 := ⟨_, rfl⟩
    have k3 : hp W1 x3 = some (.cells #[.int .i64 lo, .int .i64 hi] 30 (0, 0)) := by rw [hW, ← hx3]; simp [hpA]
    have HB1 := Lib.hid (show Below w.heap.size w W1 by rw [hW]; exact below_alloc (Below.refl _ _) _)
    rw [hx3]
    clear hW hx3
    have c3 := hp_cell k3
    have HK := Lib.hid k3; clear k3
    go_wp2_with (go_at_call 31; (with_reducible refine (HE.out _).mono ?_); rintro e w2 ⟨rfl, hb⟩; have HB2 := Lib.hid (below_call HB1.out hb); clear hb)
    go_ret
    exact ⟨rfl, HB2.out⟩
  · have e : decide (hi ≤ lo) = false := decide_eq_false h
    rw [e] at HE ⊢
    clear h e
    go_enter Try.func22, Try.ntmps22
    go_upto_region 1 with fail
    refine Ph.at_world ?_; intro W1 hW
    obtain ⟨x3, hx3⟩ : ∃ x3, w.heap.size = x3 := ⟨_, rfl⟩
    have k3 : hp W1 x3 = some (.cells #[.int .i64 lo, .int .i64 hi] 30 (0, 0)) := by rw [hW, ← hx3]; simp [hpA]
    have HB1 := Lib.hid (show Below w.heap.size w W1 by rw [hW]; exact below_alloc (Below.refl _ _) _)
    rw [hx3]
    clear hW hx3
    have c3 := hp_cell k3
    have HK := Lib.hid k3; clear k3
    go_upto_region 3 with (go_at_call 31; (with_reducible refine (HE.out _).mono ?_); rintro e w2 ⟨rfl, hb⟩; have HB2 := Lib.hid (below_call HB1.out hb); replace c3 := hp_cell (hp_below hb HK.out); clear hb)
    go_upto_region 4 with (go_at_call 33; (with_reducible refine (n_from _ _).mono ?_); rintro e w4 ⟨rfl, hb⟩; have HB4 := Lib.hid (below_call HB2.out hb); clear hb)
    clear c3
    refine Ph.region_at (by kernel_rfl) ?_
    refine Ph.at_quiet 17 (by kernel_rfl) ?_
    simp only [List.take_succ_cons, List.take_zero, List.drop_succ_cons, List.drop_zero]
    repeat ((first | (apply Ph.wpPh_g; (focus (intro wx hS0; go_simp; first | exact rfl | exact ⟨rfl, Below.refl _ _⟩ | ((with_reducible refine (n_spans _).mono ?_); rintro e w2 ⟨rfl, rfl⟩; exact ⟨rfl, Below.refl _ _⟩))))); simp only [Act.put, List.setIfInBounds_toArray, List.set_cons_zero, List.set_cons_succ])
    refine Ph.wpPh_nil ?_; intro w6 hS
    refine Ph.at_end (by simp) ?_
    go_wp2
    go_ret
    exact ⟨rfl, below_call HB4.out (below_call (below_drew (Below.refl _ _)) hS)⟩
end Go.Proofs.Ytnofclmnjhkhiaa
