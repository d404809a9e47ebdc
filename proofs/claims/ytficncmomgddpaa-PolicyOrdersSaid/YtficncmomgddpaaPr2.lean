/- The reference's Before: its ways. -/
import Derived.Test.YtficncmomgddpaaPr
import Derived.WalkKit
import Derived.WalkLawsBesides
import Derived.WalkSpells
import Derived.Below
import Derived.Deep.RegionHeld3
import Derived.Deep.QuietTactic
import Derived.BigQuiet
import Derived.Deep.DeepCutAuto
import Derived.Deep.DeepMust
import Derived.KernelRfl
import Derived.Lib.Hide
import Derived.Outline
import Derived.RegionTactic
import Derived.StillTailTactics
namespace Go.Proofs.Ytficncmomgddpaa
open Go.RowKit Go.Cl
set_option maxRecDepth 100000
set_option linter.unusedVariables false
set_option linter.unusedSimpArgs false
set_option maxHeartbeats 1000000 in
theorem rf_tf (w : World) (k : ByteArray) (v0 : Bool) (v1 : ByteArray) (l hi : Int) (st ins : Int) (k' : ByteArray) (v0' : Bool) (v1' : ByteArray) (l' hi' : Int) (st' ins' : Int) (hot hot' : Bool) (h1 : (hi != 4611686018427387904) = true) (h2 : (hi' != 4611686018427387904) = false) :
    Calls Try.prog 10 #[.agg #[.string k, .bool v0, .string v1, .int .i64 l, .int .i64 hi, .bool hot, .int .i64 st, .int .i64 ins], .agg #[.string k', .bool v0', .string v1', .int .i64 l', .int .i64 hi', .bool hot', .int .i64 st', .int .i64 ins']] w fun e w' => e = .returned (.bool true) ∧ Below w.heap.size w w' := by
  go_enter Try.func10, Try.ntmps10
  go_upto_region 1 with fail
  refine Ph.at_world ?_; intro W1 hW
  have k0 : hp W1 w.heap.size = some (.cells #[.string k, .bool v0, .string v1, .int .i64 l, .int .i64 hi, .bool hot, .int .i64 st, .int .i64 ins] 28 (0, 0)) := by rw [hW]; simp [hpA] <;> (intro h; exfalso; omega)
  have k1 : hp W1 (w.heap.size + 1) = some (.cells #[.string k', .bool v0', .string v1', .int .i64 l', .int .i64 hi', .bool hot', .int .i64 st', .int .i64 ins'] 28 (0, 0)) := by rw [hW]; simp [hpA] <;> (intro h; exfalso; omega)
  have HB : Below w.heap.size w W1 := by rw [hW]; exact below_alloc (below_alloc (Below.refl _ _) _) _
  clear hW
  refine Ph.region_at (by kernel_rfl) ?_
  refine Ph.at_quiet 10 (by kernel_rfl) ?_
  simp only [List.take_succ_cons, List.take_zero, List.drop_succ_cons, List.drop_zero]
  repeat ((first | (apply Ph.wpPh_g; (focus (intro w1 hS0; have c0 := hp_cell (hp_below hS0 (show hp _ w.heap.size = _ from k0)); have c1 := hp_cell (hp_below hS0 (show hp _ (w.heap.size + 1) = _ from k1)); go_simp; first | exact rfl | exact ⟨rfl, Below.refl _ _⟩)))); simp only [Act.put, List.setIfInBounds_toArray, List.set_cons_zero, List.set_cons_succ])
  refine Ph.wpPh_nil ?_; intro W5 hS5
  refine Ph.at_end (by simp) ?_
  replace HB := below_call (below_drew HB) hS5
  replace k0 := hp_below hS5 (show hp _ w.heap.size = _ from k0)
  replace k1 := hp_below hS5 (show hp _ (w.heap.size + 1) = _ from k1)
  have c0 := hp_cell k0; have c1 := hp_cell k1
  clear hS5
  go_wp2
  go_ret
  exact ⟨rfl, HB⟩
set_option maxHeartbeats 1000000 in
theorem rf_ft (w : World) (k : ByteArray) (v0 : Bool) (v1 : ByteArray) (l hi : Int) (st ins : Int) (k' : ByteArray) (v0' : Bool) (v1' : ByteArray) (l' hi' : Int) (st' ins' : Int) (hot hot' : Bool) (h1 : (hi != 4611686018427387904) = false) (h2 : (hi' != 4611686018427387904) = true) :
    Calls Try.prog 10 #[.agg #[.string k, .bool v0, .string v1, .int .i64 l, .int .i64 hi, .bool hot, .int .i64 st, .int .i64 ins], .agg #[.string k', .bool v0', .string v1', .int .i64 l', .int .i64 hi', .bool hot', .int .i64 st', .int .i64 ins']] w fun e w' => e = .returned (.bool false) ∧ Below w.heap.size w w' := by
  go_enter Try.func10, Try.ntmps10
  go_upto_region 1 with fail
  refine Ph.at_world ?_; intro W1 hW
  have k0 : hp W1 w.heap.size = some (.cells #[.string k, .bool v0, .string v1, .int .i64 l, .int .i64 hi, .bool hot, .int .i64 st, .int .i64 ins] 28 (0, 0)) := by rw [hW]; simp [hpA] <;> (intro h; exfalso; omega)
  have k1 : hp W1 (w.heap.size + 1) = some (.cells #[.string k', .bool v0', .string v1', .int .i64 l', .int .i64 hi', .bool hot', .int .i64 st', .int .i64 ins'] 28 (0, 0)) := by rw [hW]; simp [hpA] <;> (intro h; exfalso; omega)
  have HB : Below w.heap.size w W1 := by rw [hW]; exact below_alloc (below_alloc (Below.refl _ _) _) _
  clear hW
  refine Ph.region_at (by kernel_rfl) ?_
  refine Ph.at_quiet 10 (by kernel_rfl) ?_
  simp only [List.take_succ_cons, List.take_zero, List.drop_succ_cons, List.drop_zero]
  repeat ((first | (apply Ph.wpPh_g; (focus (intro w1 hS0; have c0 := hp_cell (hp_below hS0 (show hp _ w.heap.size = _ from k0)); have c1 := hp_cell (hp_below hS0 (show hp _ (w.heap.size + 1) = _ from k1)); go_simp; first | exact rfl | exact ⟨rfl, Below.refl _ _⟩)))); simp only [Act.put, List.setIfInBounds_toArray, List.set_cons_zero, List.set_cons_succ])
  refine Ph.wpPh_nil ?_; intro W5 hS5
  refine Ph.at_end (by simp) ?_
  replace HB := below_call (below_drew HB) hS5
  replace k0 := hp_below hS5 (show hp _ w.heap.size = _ from k0)
  replace k1 := hp_below hS5 (show hp _ (w.heap.size + 1) = _ from k1)
  have c0 := hp_cell k0; have c1 := hp_cell k1
  clear hS5
  go_wp2
  go_ret
  exact ⟨rfl, HB⟩
set_option maxHeartbeats 1000000 in
theorem rf_hi (w : World) (k : ByteArray) (v0 : Bool) (v1 : ByteArray) (l hi : Int) (st ins : Int) (k' : ByteArray) (v0' : Bool) (v1' : ByteArray) (l' hi' : Int) (st' ins' : Int) (hot hot' : Bool) (h1 : (hi != 4611686018427387904) = true) (h2 : (hi' != 4611686018427387904) = true) (h3 : (hi != hi') = true) :
    Calls Try.prog 10 #[.agg #[.string k, .bool v0, .string v1, .int .i64 l, .int .i64 hi, .bool hot, .int .i64 st, .int .i64 ins], .agg #[.string k', .bool v0', .string v1', .int .i64 l', .int .i64 hi', .bool hot', .int .i64 st', .int .i64 ins']] w fun e w' => e = .returned (.bool (decide (hi < hi'))) ∧ Below w.heap.size w w' := by
  go_enter Try.func10, Try.ntmps10
  go_upto_region 1 with fail
  refine Ph.at_world ?_; intro W1 hW
  have k0 : hp W1 w.heap.size = some (.cells #[.string k, .bool v0, .string v1, .int .i64 l, .int .i64 hi, .bool hot, .int .i64 st, .int .i64 ins] 28 (0, 0)) := by rw [hW]; simp [hpA] <;> (intro h; exfalso; omega)
  have k1 : hp W1 (w.heap.size + 1) = some (.cells #[.string k', .bool v0', .string v1', .int .i64 l', .int .i64 hi', .bool hot', .int .i64 st', .int .i64 ins'] 28 (0, 0)) := by rw [hW]; simp [hpA] <;> (intro h; exfalso; omega)
  have HB : Below w.heap.size w W1 := by rw [hW]; exact below_alloc (below_alloc (Below.refl _ _) _) _
  clear hW
  refine Ph.region_at (by kernel_rfl) ?_
  refine Ph.at_quiet 10 (by kernel_rfl) ?_
  simp only [List.take_succ_cons, List.take_zero, List.drop_succ_cons, List.drop_zero]
  repeat ((first | (apply Ph.wpPh_g; (focus (intro w1 hS0; have c0 := hp_cell (hp_below hS0 (show hp _ w.heap.size = _ from k0)); have c1 := hp_cell (hp_below hS0 (show hp _ (w.heap.size + 1) = _ from k1)); go_simp; first | exact rfl | exact ⟨rfl, Below.refl _ _⟩)))); simp only [Act.put, List.setIfInBounds_toArray, List.set_cons_zero, List.set_cons_succ])
  refine Ph.wpPh_nil ?_; intro W5 hS5
  refine Ph.at_end (by simp) ?_
  replace HB := below_call (below_drew HB) hS5
  replace k0 := hp_below hS5 (show hp _ w.heap.size = _ from k0)
  replace k1 := hp_below hS5 (show hp _ (w.heap.size + 1) = _ from k1)
  have c0 := hp_cell k0; have c1 := hp_cell k1
  clear hS5
  go_wp2
  go_ret
  exact ⟨rfl, HB⟩
set_option maxHeartbeats 1000000 in
theorem rf_hi0 (w : World) (k : ByteArray) (v0 : Bool) (v1 : ByteArray) (l hi : Int) (st ins : Int) (k' : ByteArray) (v0' : Bool) (v1' : ByteArray) (l' hi' : Int) (st' ins' : Int) (hot hot' : Bool) (h1 : (hi != 4611686018427387904) = true) (h2 : (hi' != 4611686018427387904) = true) (h3 : (hi != hi') = false) :
    Calls Try.prog 10 #[.agg #[.string k, .bool v0, .string v1, .int .i64 l, .int .i64 hi, .bool hot, .int .i64 st, .int .i64 ins], .agg #[.string k', .bool v0', .string v1', .int .i64 l', .int .i64 hi', .bool hot', .int .i64 st', .int .i64 ins']] w fun e w' => e = .returned (.bool (decide (ins < ins'))) ∧ Below w.heap.size w w' := by
  go_enter Try.func10, Try.ntmps10
  go_upto_region 1 with fail
  refine Ph.at_world ?_; intro W1 hW
  have k0 : hp W1 w.heap.size = some (.cells #[.string k, .bool v0, .string v1, .int .i64 l, .int .i64 hi, .bool hot, .int .i64 st, .int .i64 ins] 28 (0, 0)) := by rw [hW]; simp [hpA] <;> (intro h; exfalso; omega)
  have k1 : hp W1 (w.heap.size + 1) = some (.cells #[.string k', .bool v0', .string v1', .int .i64 l', .int .i64 hi', .bool hot', .int .i64 st', .int .i64 ins'] 28 (0, 0)) := by rw [hW]; simp [hpA] <;> (intro h; exfalso; omega)
  have HB : Below w.heap.size w W1 := by rw [hW]; exact below_alloc (below_alloc (Below.refl _ _) _) _
  clear hW
  refine Ph.region_at (by kernel_rfl) ?_
  refine Ph.at_quiet 10 (by kernel_rfl) ?_
  simp only [List.take_succ_cons, List.take_zero, List.drop_succ_cons, List.drop_zero]
  repeat ((first | (apply Ph.wpPh_g; (focus (intro w1 hS0; have c0 := hp_cell (hp_below hS0 (show hp _ w.heap.size = _ from k0)); have c1 := hp_cell (hp_below hS0 (show hp _ (w.heap.size + 1) = _ from k1)); go_simp; first | exact rfl | exact ⟨rfl, Below.refl _ _⟩)))); simp only [Act.put, List.setIfInBounds_toArray, List.set_cons_zero, List.set_cons_succ])
  refine Ph.wpPh_nil ?_; intro W5 hS5
  refine Ph.at_end (by simp) ?_
  replace HB := below_call (below_drew HB) hS5
  replace k0 := hp_below hS5 (show hp _ w.heap.size = _ from k0)
  replace k1 := hp_below hS5 (show hp _ (w.heap.size + 1) = _ from k1)
  have c0 := hp_cell k0; have c1 := hp_cell k1
  clear hS5
  go_wp2
  go_ret
  exact ⟨rfl, HB⟩
set_option maxHeartbeats 1000000 in
theorem rf_h1 (w : World) (k : ByteArray) (v0 : Bool) (v1 : ByteArray) (l hi : Int) (st ins : Int) (k' : ByteArray) (v0' : Bool) (v1' : ByteArray) (l' hi' : Int) (st' ins' : Int)  (h1 : (hi != 4611686018427387904) = false) (h2 : (hi' != 4611686018427387904) = false) :
    Calls Try.prog 10 #[.agg #[.string k, .bool v0, .string v1, .int .i64 l, .int .i64 hi, .bool true, .int .i64 st, .int .i64 ins], .agg #[.string k', .bool v0', .string v1', .int .i64 l', .int .i64 hi', .bool false, .int .i64 st', .int .i64 ins']] w fun e w' => e = .returned (.bool false) ∧ Below w.heap.size w w' := by
  go_enter Try.func10, Try.ntmps10
  go_upto_region 1 with fail
  refine Ph.at_world ?_; intro W1 hW
  have k0 : hp W1 w.heap.size = some (.cells #[.string k, .bool v0, .string v1, .int .i64 l, .int .i64 hi, .bool true, .int .i64 st, .int .i64 ins] 28 (0, 0)) := by rw [hW]; simp [hpA] <;> (intro h; exfalso; omega)
  have k1 : hp W1 (w.heap.size + 1) = some (.cells #[.string k', .bool v0', .string v1', .int .i64 l', .int .i64 hi', .bool false, .int .i64 st', .int .i64 ins'] 28 (0, 0)) := by rw [hW]; simp [hpA] <;> (intro h; exfalso; omega)
  have HB : Below w.heap.size w W1 := by rw [hW]; exact below_alloc (below_alloc (Below.refl _ _) _) _
  clear hW
  refine Ph.region_at (by kernel_rfl) ?_
  refine Ph.at_quiet 10 (by kernel_rfl) ?_
  simp only [List.take_succ_cons, List.take_zero, List.drop_succ_cons, List.drop_zero]
  repeat ((first | (apply Ph.wpPh_g; (focus (intro w1 hS0; have c0 := hp_cell (hp_below hS0 (show hp _ w.heap.size = _ from k0)); have c1 := hp_cell (hp_below hS0 (show hp _ (w.heap.size + 1) = _ from k1)); go_simp; first | exact rfl | exact ⟨rfl, Below.refl _ _⟩)))); simp only [Act.put, List.setIfInBounds_toArray, List.set_cons_zero, List.set_cons_succ])
  refine Ph.wpPh_nil ?_; intro W5 hS5
  refine Ph.at_end (by simp) ?_
  replace HB := below_call (below_drew HB) hS5
  replace k0 := hp_below hS5 (show hp _ w.heap.size = _ from k0)
  replace k1 := hp_below hS5 (show hp _ (w.heap.size + 1) = _ from k1)
  have c0 := hp_cell k0; have c1 := hp_cell k1
  clear hS5
  go_wp2
  go_ret
  exact ⟨rfl, HB⟩
set_option maxHeartbeats 1000000 in
theorem rf_h2 (w : World) (k : ByteArray) (v0 : Bool) (v1 : ByteArray) (l hi : Int) (st ins : Int) (k' : ByteArray) (v0' : Bool) (v1' : ByteArray) (l' hi' : Int) (st' ins' : Int)  (h1 : (hi != 4611686018427387904) = false) (h2 : (hi' != 4611686018427387904) = false) :
    Calls Try.prog 10 #[.agg #[.string k, .bool v0, .string v1, .int .i64 l, .int .i64 hi, .bool false, .int .i64 st, .int .i64 ins], .agg #[.string k', .bool v0', .string v1', .int .i64 l', .int .i64 hi', .bool true, .int .i64 st', .int .i64 ins']] w fun e w' => e = .returned (.bool true) ∧ Below w.heap.size w w' := by
  go_enter Try.func10, Try.ntmps10
  go_upto_region 1 with fail
  refine Ph.at_world ?_; intro W1 hW
  have k0 : hp W1 w.heap.size = some (.cells #[.string k, .bool v0, .string v1, .int .i64 l, .int .i64 hi, .bool false, .int .i64 st, .int .i64 ins] 28 (0, 0)) := by rw [hW]; simp [hpA] <;> (intro h; exfalso; omega)
  have k1 : hp W1 (w.heap.size + 1) = some (.cells #[.string k', .bool v0', .string v1', .int .i64 l', .int .i64 hi', .bool true, .int .i64 st', .int .i64 ins'] 28 (0, 0)) := by rw [hW]; simp [hpA] <;> (intro h; exfalso; omega)
  have HB : Below w.heap.size w W1 := by rw [hW]; exact below_alloc (below_alloc (Below.refl _ _) _) _
  clear hW
  refine Ph.region_at (by kernel_rfl) ?_
  refine Ph.at_quiet 10 (by kernel_rfl) ?_
  simp only [List.take_succ_cons, List.take_zero, List.drop_succ_cons, List.drop_zero]
  repeat ((first | (apply Ph.wpPh_g; (focus (intro w1 hS0; have c0 := hp_cell (hp_below hS0 (show hp _ w.heap.size = _ from k0)); have c1 := hp_cell (hp_below hS0 (show hp _ (w.heap.size + 1) = _ from k1)); go_simp; first | exact rfl | exact ⟨rfl, Below.refl _ _⟩)))); simp only [Act.put, List.setIfInBounds_toArray, List.set_cons_zero, List.set_cons_succ])
  refine Ph.wpPh_nil ?_; intro W5 hS5
  refine Ph.at_end (by simp) ?_
  replace HB := below_call (below_drew HB) hS5
  replace k0 := hp_below hS5 (show hp _ w.heap.size = _ from k0)
  replace k1 := hp_below hS5 (show hp _ (w.heap.size + 1) = _ from k1)
  have c0 := hp_cell k0; have c1 := hp_cell k1
  clear hS5
  go_wp2
  go_ret
  exact ⟨rfl, HB⟩
set_option maxHeartbeats 1000000 in
theorem rf_st_true (w : World) (k : ByteArray) (v0 : Bool) (v1 : ByteArray) (l hi : Int) (st ins : Int) (k' : ByteArray) (v0' : Bool) (v1' : ByteArray) (l' hi' : Int) (st' ins' : Int)  (h1 : (hi != 4611686018427387904) = false) (h2 : (hi' != 4611686018427387904) = false) (h4 : (st != st') = true) :
    Calls Try.prog 10 #[.agg #[.string k, .bool v0, .string v1, .int .i64 l, .int .i64 hi, .bool true, .int .i64 st, .int .i64 ins], .agg #[.string k', .bool v0', .string v1', .int .i64 l', .int .i64 hi', .bool true, .int .i64 st', .int .i64 ins']] w fun e w' => e = .returned (.bool (decide (st < st'))) ∧ Below w.heap.size w w' := by
  go_enter Try.func10, Try.ntmps10
  go_upto_region 1 with fail
  refine Ph.at_world ?_; intro W1 hW
  have k0 : hp W1 w.heap.size = some (.cells #[.string k, .bool v0, .string v1, .int .i64 l, .int .i64 hi, .bool true, .int .i64 st, .int .i64 ins] 28 (0, 0)) := by rw [hW]; simp [hpA] <;> (intro h; exfalso; omega)
  have k1 : hp W1 (w.heap.size + 1) = some (.cells #[.string k', .bool v0', .string v1', .int .i64 l', .int .i64 hi', .bool true, .int .i64 st', .int .i64 ins'] 28 (0, 0)) := by rw [hW]; simp [hpA] <;> (intro h; exfalso; omega)
  have HB : Below w.heap.size w W1 := by rw [hW]; exact below_alloc (below_alloc (Below.refl _ _) _) _
  clear hW
  refine Ph.region_at (by kernel_rfl) ?_
  refine Ph.at_quiet 10 (by kernel_rfl) ?_
  simp only [List.take_succ_cons, List.take_zero, List.drop_succ_cons, List.drop_zero]
  repeat ((first | (apply Ph.wpPh_g; (focus (intro w1 hS0; have c0 := hp_cell (hp_below hS0 (show hp _ w.heap.size = _ from k0)); have c1 := hp_cell (hp_below hS0 (show hp _ (w.heap.size + 1) = _ from k1)); go_simp; first | exact rfl | exact ⟨rfl, Below.refl _ _⟩)))); simp only [Act.put, List.setIfInBounds_toArray, List.set_cons_zero, List.set_cons_succ])
  refine Ph.wpPh_nil ?_; intro W5 hS5
  refine Ph.at_end (by simp) ?_
  replace HB := below_call (below_drew HB) hS5
  replace k0 := hp_below hS5 (show hp _ w.heap.size = _ from k0)
  replace k1 := hp_below hS5 (show hp _ (w.heap.size + 1) = _ from k1)
  have c0 := hp_cell k0; have c1 := hp_cell k1
  clear hS5
  go_wp2
  go_ret
  exact ⟨rfl, HB⟩
set_option maxHeartbeats 1000000 in
theorem rf_ins_true (w : World) (k : ByteArray) (v0 : Bool) (v1 : ByteArray) (l hi : Int) (st ins : Int) (k' : ByteArray) (v0' : Bool) (v1' : ByteArray) (l' hi' : Int) (st' ins' : Int)  (h1 : (hi != 4611686018427387904) = false) (h2 : (hi' != 4611686018427387904) = false) (h4 : (st != st') = false) :
    Calls Try.prog 10 #[.agg #[.string k, .bool v0, .string v1, .int .i64 l, .int .i64 hi, .bool true, .int .i64 st, .int .i64 ins], .agg #[.string k', .bool v0', .string v1', .int .i64 l', .int .i64 hi', .bool true, .int .i64 st', .int .i64 ins']] w fun e w' => e = .returned (.bool (decide (ins < ins'))) ∧ Below w.heap.size w w' := by
  go_enter Try.func10, Try.ntmps10
  go_upto_region 1 with fail
  refine Ph.at_world ?_; intro W1 hW
  have k0 : hp W1 w.heap.size = some (.cells #[.string k, .bool v0, .string v1, .int .i64 l, .int .i64 hi, .bool true, .int .i64 st, .int .i64 ins] 28 (0, 0)) := by rw [hW]; simp [hpA] <;> (intro h; exfalso; omega)
  have k1 : hp W1 (w.heap.size + 1) = some (.cells #[.string k', .bool v0', .string v1', .int .i64 l', .int .i64 hi', .bool true, .int .i64 st', .int .i64 ins'] 28 (0, 0)) := by rw [hW]; simp [hpA] <;> (intro h; exfalso; omega)
  have HB : Below w.heap.size w W1 := by rw [hW]; exact below_alloc (below_alloc (Below.refl _ _) _) _
  clear hW
  refine Ph.region_at (by kernel_rfl) ?_
  refine Ph.at_quiet 10 (by kernel_rfl) ?_
  simp only [List.take_succ_cons, List.take_zero, List.drop_succ_cons, List.drop_zero]
  repeat ((first | (apply Ph.wpPh_g; (focus (intro w1 hS0; have c0 := hp_cell (hp_below hS0 (show hp _ w.heap.size = _ from k0)); have c1 := hp_cell (hp_below hS0 (show hp _ (w.heap.size + 1) = _ from k1)); go_simp; first | exact rfl | exact ⟨rfl, Below.refl _ _⟩)))); simp only [Act.put, List.setIfInBounds_toArray, List.set_cons_zero, List.set_cons_succ])
  refine Ph.wpPh_nil ?_; intro W5 hS5
  refine Ph.at_end (by simp) ?_
  replace HB := below_call (below_drew HB) hS5
  replace k0 := hp_below hS5 (show hp _ w.heap.size = _ from k0)
  replace k1 := hp_below hS5 (show hp _ (w.heap.size + 1) = _ from k1)
  have c0 := hp_cell k0; have c1 := hp_cell k1
  clear hS5
  go_wp2
  go_ret
  exact ⟨rfl, HB⟩
set_option maxHeartbeats 1000000 in
theorem rf_st_false (w : World) (k : ByteArray) (v0 : Bool) (v1 : ByteArray) (l hi : Int) (st ins : Int) (k' : ByteArray) (v0' : Bool) (v1' : ByteArray) (l' hi' : Int) (st' ins' : Int)  (h1 : (hi != 4611686018427387904) = false) (h2 : (hi' != 4611686018427387904) = false) (h4 : (st != st') = true) :
    Calls Try.prog 10 #[.agg #[.string k, .bool v0, .string v1, .int .i64 l, .int .i64 hi, .bool false, .int .i64 st, .int .i64 ins], .agg #[.string k', .bool v0', .string v1', .int .i64 l', .int .i64 hi', .bool false, .int .i64 st', .int .i64 ins']] w fun e w' => e = .returned (.bool (decide (st < st'))) ∧ Below w.heap.size w w' := by
  go_enter Try.func10, Try.ntmps10
  go_upto_region 1 with fail
  refine Ph.at_world ?_; intro W1 hW
  have k0 : hp W1 w.heap.size = some (.cells #[.string k, .bool v0, .string v1, .int .i64 l, .int .i64 hi, .bool false, .int .i64 st, .int .i64 ins] 28 (0, 0)) := by rw [hW]; simp [hpA] <;> (intro h; exfalso; omega)
  have k1 : hp W1 (w.heap.size + 1) = some (.cells #[.string k', .bool v0', .string v1', .int .i64 l', .int .i64 hi', .bool false, .int .i64 st', .int .i64 ins'] 28 (0, 0)) := by rw [hW]; simp [hpA] <;> (intro h; exfalso; omega)
  have HB : Below w.heap.size w W1 := by rw [hW]; exact below_alloc (below_alloc (Below.refl _ _) _) _
  clear hW
  refine Ph.region_at (by kernel_rfl) ?_
  refine Ph.at_quiet 10 (by kernel_rfl) ?_
  simp only [List.take_succ_cons, List.take_zero, List.drop_succ_cons, List.drop_zero]
  repeat ((first | (apply Ph.wpPh_g; (focus (intro w1 hS0; have c0 := hp_cell (hp_below hS0 (show hp _ w.heap.size = _ from k0)); have c1 := hp_cell (hp_below hS0 (show hp _ (w.heap.size + 1) = _ from k1)); go_simp; first | exact rfl | exact ⟨rfl, Below.refl _ _⟩)))); simp only [Act.put, List.setIfInBounds_toArray, List.set_cons_zero, List.set_cons_succ])
  refine Ph.wpPh_nil ?_; intro W5 hS5
  refine Ph.at_end (by simp) ?_
  replace HB := below_call (below_drew HB) hS5
  replace k0 := hp_below hS5 (show hp _ w.heap.size = _ from k0)
  replace k1 := hp_below hS5 (show hp _ (w.heap.size + 1) = _ from k1)
  have c0 := hp_cell k0; have c1 := hp_cell k1
  clear hS5
  go_wp2
  go_ret
  exact ⟨rfl, HB⟩
set_option maxHeartbeats 1000000 in
theorem rf_ins_false (w : World) (k : ByteArray) (v0 : Bool) (v1 : ByteArray) (l hi : Int) (st ins : Int) (k' : ByteArray) (v0' : Bool) (v1' : ByteArray) (l' hi' : Int) (st' ins' : Int)  (h1 : (hi != 4611686018427387904) = false) (h2 : (hi' != 4611686018427387904) = false) (h4 : (st != st') = false) :
    Calls Try.prog 10 #[.agg #[.string k, .bool v0, .string v1, .int .i64 l, .int .i64 hi, .bool false, .int .i64 st, .int .i64 ins], .agg #[.string k', .bool v0', .string v1', .int .i64 l', .int .i64 hi', .bool false, .int .i64 st', .int .i64 ins']] w fun e w' => e = .returned (.bool (decide (ins < ins'))) ∧ Below w.heap.size w w' := by
  go_enter Try.func10, Try.ntmps10
  go_upto_region 1 with fail
  refine Ph.at_world ?_; intro W1 hW
  have k0 : hp W1 w.heap.size = some (.cells #[.string k, .bool v0, .string v1, .int .i64 l, .int .i64 hi, .bool false, .int .i64 st, .int .i64 ins] 28 (0, 0)) := by rw [hW]; simp [hpA] <;> (intro h; exfalso; omega)
  have k1 : hp W1 (w.heap.size + 1) = some (.cells #[.string k', .bool v0', .string v1', .int .i64 l', .int .i64 hi', .bool false, .int .i64 st', .int .i64 ins'] 28 (0, 0)) := by rw [hW]; simp [hpA] <;> (intro h; exfalso; omega)
  have HB : Below w.heap.size w W1 := by rw [hW]; exact below_alloc (below_alloc (Below.refl _ _) _) _
  clear hW
  refine Ph.region_at (by kernel_rfl) ?_
  refine Ph.at_quiet 10 (by kernel_rfl) ?_
  simp only [List.take_succ_cons, List.take_zero, List.drop_succ_cons, List.drop_zero]
  repeat ((first | (apply Ph.wpPh_g; (focus (intro w1 hS0; have c0 := hp_cell (hp_below hS0 (show hp _ w.heap.size = _ from k0)); have c1 := hp_cell (hp_below hS0 (show hp _ (w.heap.size + 1) = _ from k1)); go_simp; first | exact rfl | exact ⟨rfl, Below.refl _ _⟩)))); simp only [Act.put, List.setIfInBounds_toArray, List.set_cons_zero, List.set_cons_succ])
  refine Ph.wpPh_nil ?_; intro W5 hS5
  refine Ph.at_end (by simp) ?_
  replace HB := below_call (below_drew HB) hS5
  replace k0 := hp_below hS5 (show hp _ w.heap.size = _ from k0)
  replace k1 := hp_below hS5 (show hp _ (w.heap.size + 1) = _ from k1)
  have c0 := hp_cell k0; have c1 := hp_cell k1
  clear hS5
  go_wp2
  go_ret
  exact ⟨rfl, HB⟩
end Go.Proofs.Ytficncmomgddpaa
