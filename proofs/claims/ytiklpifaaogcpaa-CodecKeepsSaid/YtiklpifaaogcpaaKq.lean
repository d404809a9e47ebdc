/- blank: at each kind. -/
import Derived.Test.YtiklpifaaogcpaaKz
import Derived.WalkKit
import Derived.WalkLawsBesides
import Derived.WalkSpells
import Derived.Below
import Derived.Deep.RegionHeld3
import Derived.Deep.QuietTactic
import Derived.BigQuiet
import Derived.Deep.DeepCutAuto
import Derived.Deep.DeepMust
import Derived.KernelRfl
import Derived.Lib.Hide
import Derived.Outline
import Derived.RegionTactic
import Derived.StillTailTactics
import Derived.Laws.IdiomStrings
import Derived.Handy
namespace Go.Proofs.Ytiklpifaaogcpaa
open Go.RowKit Go.Cl 
set_option maxRecDepth 100000
set_option linter.unusedVariables false
set_option linter.unusedSimpArgs false


set_option maxHeartbeats 4000000 in
theorem o_blank_1 (node inc ses tx seq lo hi err n : Int) (key data : ByteArray) (has hit : Bool) (wp kp : Option Addr) (wn wq kn kq : Nat) (w : World) : Calls Try.prog 58 #[.agg #[.int .i64 1, .int .i64 node, .int .i64 inc, .int .i64 ses, .int .i64 tx, .int .i64 seq, .string key, .int .i64 lo, .int .i64 hi, .bool has, .string data, .bool hit, .int .i64 err, .int .i64 n, .slice wp wn wq, .slice kp kn kq]] w fun e w' => e = .returned (.agg #[.int .i64 1, .int .i64 node, .int .i64 inc, .int .i64 0, .int .i64 tx, .int .i64 0, .string key, .int .i64 lo, .int .i64 hi, .bool has, .string data, .bool hit, .int .i64 err, .int .i64 n, .slice none 0 0, .slice kp kn kq]) ∧ Below w.heap.size w w' := by
  go_enter Try.func58, Try.ntmps58
  go_step
  go_step
  go_cut [1, 2] (fun s1 s2 W => s1 = .pointer (some ⟨w.heap.size, 0, none⟩) ∧ s2 = .pointer (some ⟨w.heap.size + 1, 0, none⟩) ∧ hp W w.heap.size = some (.cells #[.int .i64 1, .int .i64 node, .int .i64 inc, .int .i64 ses, .int .i64 tx, .int .i64 seq, .string key, .int .i64 lo, .int .i64 hi, .bool has, .string data, .bool hit, .int .i64 err, .int .i64 n, .slice wp wn wq, .slice kp kn kq] 30 (0, 0)) ∧ hp W (w.heap.size + 1) = some (.cells Z30 30 (0, 0)) ∧ W.heap.size = w.heap.size + 2 ∧ Below w.heap.size w W)
  case first =>
    go_wp2
    go_meet
    case rel => exact ⟨rfl, rfl, by rw [hpA, if_neg (by simp), hpA, if_pos rfl], by rw [hpA, if_pos (by simp)]; rfl, by simp, (by (repeat (first | (with_reducible exact Below.refl _ _) | (with_reducible refine below_drew ?_) | (with_reducible refine below_alloc ?_ _))))⟩
  case rest =>
  obtain ⟨rfl, rfl, k1, k2, hsz, hBW⟩ := hcut
  generalize hb1 : w.heap.size = b1 at *
  rename World => w1
  go_step
  go_step
  go_cut [3] (fun s3 W => s3 = .pointer (some ⟨b1 + 2, 0, none⟩) ∧ hp W b1 = some (.cells #[.int .i64 1, .int .i64 node, .int .i64 inc, .int .i64 ses, .int .i64 tx, .int .i64 seq, .string key, .int .i64 lo, .int .i64 hi, .bool has, .string data, .bool hit, .int .i64 err, .int .i64 n, .slice wp wn wq, .slice kp kn kq] 30 (0, 0)) ∧ hp W (b1 + 1) = some (.cells Z30 30 (0, 0)) ∧ hp W (b1 + 2) = some (.cells #[.int .i64 1, .int .i64 node, .int .i64 inc, .int .i64 ses, .int .i64 tx, .int .i64 seq, .string key, .int .i64 lo, .int .i64 hi, .bool has, .string data, .bool hit, .int .i64 err, .int .i64 n, .slice wp wn wq, .slice kp kn kq] 30 (0, 0)) ∧ Below w1.heap.size w1 W)
  case first =>
    go_step
    refine ld_op rfl (.tmp 1) rfl b1 rfl _ k1 rfl ?_
    simp only [Act.put, List.setIfInBounds_toArray, List.set_cons_zero, List.set_cons_succ]
    refine al_op rfl rfl ?_
    simp only [Act.put, List.setIfInBounds_toArray, List.set_cons_zero, List.set_cons_succ]
    refine st_op rfl (.tmp 3) (.tmp 4) rfl w1.heap.size _ rfl rfl Z30 (hp_alloc_new _ _) rfl rfl (by simp [Value.oneCell']) ?_
    simp only [Act.put, List.setIfInBounds_toArray, List.set_cons_zero, List.set_cons_succ]
    go_wp2
    go_meet
    case rel => exact ⟨by rw [hsz], hp_row_ne (hp_alloc_old k1 _) (by omega), hp_row_ne (hp_alloc_old k2 _) (by omega), by have := hp_row (cs' := #[.int .i64 1, .int .i64 node, .int .i64 inc, .int .i64 ses, .int .i64 tx, .int .i64 seq, .string key, .int .i64 lo, .int .i64 hi, .bool has, .string data, .bool hit, .int .i64 err, .int .i64 n, .slice wp wn wq, .slice kp kn kq]) (hp_alloc_new w1 (.cells Z30 30)); rw [hsz] at this; rw [hsz]; exact this, below_row (by (repeat (first | (with_reducible exact Below.refl _ _) | (with_reducible refine below_drew ?_) | (with_reducible refine below_alloc ?_ _)))) (Nat.le_refl _) _⟩
  case rest =>
  obtain ⟨rfl, k1', k2', k3', hB2⟩ := hcut
  clear k1 k2
  rename World => w2
  have hBW2 : Below b1 w w2 := by rw [← hb1] at *; exact below_call hBW hB2
  clear hBW hB2
  go_step
  go_step
  have c1 := hp_cell k1'
  have c3 := hp_cell k3'
  have f3 := hp_free k3'
  have n1 : ¬ b1 = b1 + 2 := by omega
  have n2 : ¬ b1 + 1 = b1 + 2 := by omega
  have n3 : ¬ b1 + 2 = b1 := by omega
  have n4 : ¬ b1 + 2 = b1 + 1 := by omega
  go_cut [0] (fun s0 W => hp W (b1 + 1) = some (.cells Z30 30 (0, 0)) ∧ hp W (b1 + 2) = some (.cells #[.int .i64 1, .int .i64 node, .int .i64 inc, .int .i64 0, .int .i64 tx, .int .i64 0, .string key, .int .i64 lo, .int .i64 hi, .bool has, .string data, .bool hit, .int .i64 err, .int .i64 n, .slice none 0 0, .slice kp kn kq] 30 (0, 0)) ∧ Below b1 w W)
  case first =>
    go_wp2
    go_meet
    exact ⟨(hp_set_ne (hp_set_ne (hp_set_ne k2' (p := ⟨b1 + 2, 3, none⟩) n2 (.int .i64 0)) (p := ⟨b1 + 2, 5, none⟩) n2 (.int .i64 0)) (p := ⟨b1 + 2, 14, none⟩) n2 (.slice none 0 0)), (hp_set (hp_set (hp_set k3' (.int .i64 0)) (.int .i64 0)) (.slice none 0 0)), (below_setB (below_setB (below_setB hBW2 (p := ⟨b1 + 2, 3, none⟩) (by show b1 ≤ b1 + 2; omega) (.int .i64 0)) (p := ⟨b1 + 2, 5, none⟩) (by show b1 ≤ b1 + 2; omega) (.int .i64 0)) (p := ⟨b1 + 2, 14, none⟩) (by show b1 ≤ b1 + 2; omega) (.slice none 0 0))⟩
  case rest =>
  obtain ⟨q2, q3, hB3⟩ := hcut
  go_step
  go_step
  go_step
  refine ld_op rfl (.tmp 3) rfl (b1 + 2) rfl _ q3 rfl ?_
  simp only [Act.put, List.setIfInBounds_toArray, List.set_cons_zero, List.set_cons_succ]
  refine st_op rfl (.tmp 2) (.tmp 91) rfl (b1 + 1) _ rfl rfl Z30 q2 rfl rfl (by simp [Value.oneCell']) ?_
  simp only [Act.put, List.setIfInBounds_toArray, List.set_cons_zero, List.set_cons_succ]
  go_wp2
  refine bodyPost_ret (res30 rfl rfl (hp_row q2) rfl) rfl ⟨rfl, ?_⟩
  rw [hb1]
  subst hb1
  exact below_row hB3 (by omega) _

set_option maxHeartbeats 4000000 in
theorem o_blank_2 (node inc ses tx seq lo hi err n : Int) (key data : ByteArray) (has hit : Bool) (wp kp : Option Addr) (wn wq kn kq : Nat) (w : World) : Calls Try.prog 58 #[.agg #[.int .i64 2, .int .i64 node, .int .i64 inc, .int .i64 ses, .int .i64 tx, .int .i64 seq, .string key, .int .i64 lo, .int .i64 hi, .bool has, .string data, .bool hit, .int .i64 err, .int .i64 n, .slice wp wn wq, .slice kp kn kq]] w fun e w' => e = .returned (.agg #[.int .i64 2, .int .i64 node, .int .i64 inc, .int .i64 0, .int .i64 tx, .int .i64 0, .string key, .int .i64 lo, .int .i64 hi, .bool has, .string data, .bool hit, .int .i64 0, .int .i64 0, .slice wp wn wq, .slice kp kn kq]) ∧ Below w.heap.size w w' := by
  go_enter Try.func58, Try.ntmps58
  go_step
  go_step
  go_cut [1, 2] (fun s1 s2 W => s1 = .pointer (some ⟨w.heap.size, 0, none⟩) ∧ s2 = .pointer (some ⟨w.heap.size + 1, 0, none⟩) ∧ hp W w.heap.size = some (.cells #[.int .i64 2, .int .i64 node, .int .i64 inc, .int .i64 ses, .int .i64 tx, .int .i64 seq, .string key, .int .i64 lo, .int .i64 hi, .bool has, .string data, .bool hit, .int .i64 err, .int .i64 n, .slice wp wn wq, .slice kp kn kq] 30 (0, 0)) ∧ hp W (w.heap.size + 1) = some (.cells Z30 30 (0, 0)) ∧ W.heap.size = w.heap.size + 2 ∧ Below w.heap.size w W)
  case first =>
    go_wp2
    go_meet
    case rel => exact ⟨rfl, rfl, by rw [hpA, if_neg (by simp), hpA, if_pos rfl], by rw [hpA, if_pos (by simp)]; rfl, by simp, (by (repeat (first | (with_reducible exact Below.refl _ _) | (with_reducible refine below_drew ?_) | (with_reducible refine below_alloc ?_ _))))⟩
  case rest =>
  obtain ⟨rfl, rfl, k1, k2, hsz, hBW⟩ := hcut
  generalize hb1 : w.heap.size = b1 at *
  rename World => w1
  go_step
  go_step
  go_cut [3] (fun s3 W => s3 = .pointer (some ⟨b1 + 2, 0, none⟩) ∧ hp W b1 = some (.cells #[.int .i64 2, .int .i64 node, .int .i64 inc, .int .i64 ses, .int .i64 tx, .int .i64 seq, .string key, .int .i64 lo, .int .i64 hi, .bool has, .string data, .bool hit, .int .i64 err, .int .i64 n, .slice wp wn wq, .slice kp kn kq] 30 (0, 0)) ∧ hp W (b1 + 1) = some (.cells Z30 30 (0, 0)) ∧ hp W (b1 + 2) = some (.cells #[.int .i64 2, .int .i64 node, .int .i64 inc, .int .i64 ses, .int .i64 tx, .int .i64 seq, .string key, .int .i64 lo, .int .i64 hi, .bool has, .string data, .bool hit, .int .i64 err, .int .i64 n, .slice wp wn wq, .slice kp kn kq] 30 (0, 0)) ∧ Below w1.heap.size w1 W)
  case first =>
    go_step
    refine ld_op rfl (.tmp 1) rfl b1 rfl _ k1 rfl ?_
    simp only [Act.put, List.setIfInBounds_toArray, List.set_cons_zero, List.set_cons_succ]
    refine al_op rfl rfl ?_
    simp only [Act.put, List.setIfInBounds_toArray, List.set_cons_zero, List.set_cons_succ]
    refine st_op rfl (.tmp 3) (.tmp 4) rfl w1.heap.size _ rfl rfl Z30 (hp_alloc_new _ _) rfl rfl (by simp [Value.oneCell']) ?_
    simp only [Act.put, List.setIfInBounds_toArray, List.set_cons_zero, List.set_cons_succ]
    go_wp2
    go_meet
    case rel => exact ⟨by rw [hsz], hp_row_ne (hp_alloc_old k1 _) (by omega), hp_row_ne (hp_alloc_old k2 _) (by omega), by have := hp_row (cs' := #[.int .i64 2, .int .i64 node, .int .i64 inc, .int .i64 ses, .int .i64 tx, .int .i64 seq, .string key, .int .i64 lo, .int .i64 hi, .bool has, .string data, .bool hit, .int .i64 err, .int .i64 n, .slice wp wn wq, .slice kp kn kq]) (hp_alloc_new w1 (.cells Z30 30)); rw [hsz] at this; rw [hsz]; exact this, below_row (by (repeat (first | (with_reducible exact Below.refl _ _) | (with_reducible refine below_drew ?_) | (with_reducible refine below_alloc ?_ _)))) (Nat.le_refl _) _⟩
  case rest =>
  obtain ⟨rfl, k1', k2', k3', hB2⟩ := hcut
  clear k1 k2
  rename World => w2
  have hBW2 : Below b1 w w2 := by rw [← hb1] at *; exact below_call hBW hB2
  clear hBW hB2
  go_step
  go_step
  have c1 := hp_cell k1'
  have c3 := hp_cell k3'
  have f3 := hp_free k3'
  have n1 : ¬ b1 = b1 + 2 := by omega
  have n2 : ¬ b1 + 1 = b1 + 2 := by omega
  have n3 : ¬ b1 + 2 = b1 := by omega
  have n4 : ¬ b1 + 2 = b1 + 1 := by omega
  go_cut [0] (fun s0 W => hp W (b1 + 1) = some (.cells Z30 30 (0, 0)) ∧ hp W (b1 + 2) = some (.cells #[.int .i64 2, .int .i64 node, .int .i64 inc, .int .i64 0, .int .i64 tx, .int .i64 0, .string key, .int .i64 lo, .int .i64 hi, .bool has, .string data, .bool hit, .int .i64 0, .int .i64 0, .slice wp wn wq, .slice kp kn kq] 30 (0, 0)) ∧ Below b1 w W)
  case first =>
    go_wp2
    go_region
    go_wp2
    go_meet
    exact ⟨(by rw [hp_drew]; exact (hp_set_ne (hp_set_ne (hp_set_ne (hp_set_ne (hp_set_ne (hp_set_ne k2' (p := ⟨b1 + 2, 3, none⟩) n2 (.int .i64 0)) (p := ⟨b1 + 2, 5, none⟩) n2 (.int .i64 0)) (p := ⟨b1 + 2, 14, none⟩) n2 (.slice none 0 0)) (p := ⟨b1 + 2, 12, none⟩) n2 (.int .i64 0)) (p := ⟨b1 + 2, 13, none⟩) n2 (.int .i64 0)) (p := ⟨b1 + 2, 14, none⟩) n2 (.slice wp wn wq))), (by rw [hp_drew]; exact (hp_set (hp_set (hp_set (hp_set (hp_set (hp_set k3' (.int .i64 0)) (.int .i64 0)) (.slice none 0 0)) (.int .i64 0)) (.int .i64 0)) (.slice wp wn wq))), (below_drewB (below_setB (below_setB (below_setB (below_setB (below_setB (below_setB hBW2 (p := ⟨b1 + 2, 3, none⟩) (by show b1 ≤ b1 + 2; omega) (.int .i64 0)) (p := ⟨b1 + 2, 5, none⟩) (by show b1 ≤ b1 + 2; omega) (.int .i64 0)) (p := ⟨b1 + 2, 14, none⟩) (by show b1 ≤ b1 + 2; omega) (.slice none 0 0)) (p := ⟨b1 + 2, 12, none⟩) (by show b1 ≤ b1 + 2; omega) (.int .i64 0)) (p := ⟨b1 + 2, 13, none⟩) (by show b1 ≤ b1 + 2; omega) (.int .i64 0)) (p := ⟨b1 + 2, 14, none⟩) (by show b1 ≤ b1 + 2; omega) (.slice wp wn wq)))⟩
  case rest =>
  obtain ⟨q2, q3, hB3⟩ := hcut
  go_step
  go_step
  go_step
  refine ld_op rfl (.tmp 3) rfl (b1 + 2) rfl _ q3 rfl ?_
  simp only [Act.put, List.setIfInBounds_toArray, List.set_cons_zero, List.set_cons_succ]
  refine st_op rfl (.tmp 2) (.tmp 91) rfl (b1 + 1) _ rfl rfl Z30 q2 rfl rfl (by simp [Value.oneCell']) ?_
  simp only [Act.put, List.setIfInBounds_toArray, List.set_cons_zero, List.set_cons_succ]
  go_wp2
  refine bodyPost_ret (res30 rfl rfl (hp_row q2) rfl) rfl ⟨rfl, ?_⟩
  rw [hb1]
  subst hb1
  exact below_row hB3 (by omega) _

set_option maxHeartbeats 4000000 in
theorem o_blank_3 (node inc ses tx seq lo hi err n : Int) (key data : ByteArray) (has hit : Bool) (wp kp : Option Addr) (wn wq kn kq : Nat) (w : World) : Calls Try.prog 58 #[.agg #[.int .i64 3, .int .i64 node, .int .i64 inc, .int .i64 ses, .int .i64 tx, .int .i64 seq, .string key, .int .i64 lo, .int .i64 hi, .bool has, .string data, .bool hit, .int .i64 err, .int .i64 n, .slice wp wn wq, .slice kp kn kq]] w fun e w' => e = .returned (.agg #[.int .i64 3, .int .i64 0, .int .i64 inc, .int .i64 ses, .int .i64 0, .int .i64 0, .string ⟨#[]⟩, .int .i64 0, .int .i64 0, .bool has, .string data, .bool hit, .int .i64 err, .int .i64 n, .slice wp wn wq, .slice kp kn kq]) ∧ Below w.heap.size w w' := by
  go_enter Try.func58, Try.ntmps58
  go_step
  go_step
  go_cut [1, 2] (fun s1 s2 W => s1 = .pointer (some ⟨w.heap.size, 0, none⟩) ∧ s2 = .pointer (some ⟨w.heap.size + 1, 0, none⟩) ∧ hp W w.heap.size = some (.cells #[.int .i64 3, .int .i64 node, .int .i64 inc, .int .i64 ses, .int .i64 tx, .int .i64 seq, .string key, .int .i64 lo, .int .i64 hi, .bool has, .string data, .bool hit, .int .i64 err, .int .i64 n, .slice wp wn wq, .slice kp kn kq] 30 (0, 0)) ∧ hp W (w.heap.size + 1) = some (.cells Z30 30 (0, 0)) ∧ W.heap.size = w.heap.size + 2 ∧ Below w.heap.size w W)
  case first =>
    go_wp2
    go_meet
    case rel => exact ⟨rfl, rfl, by rw [hpA, if_neg (by simp), hpA, if_pos rfl], by rw [hpA, if_pos (by simp)]; rfl, by simp, (by (repeat (first | (with_reducible exact Below.refl _ _) | (with_reducible refine below_drew ?_) | (with_reducible refine below_alloc ?_ _))))⟩
  case rest =>
  obtain ⟨rfl, rfl, k1, k2, hsz, hBW⟩ := hcut
  generalize hb1 : w.heap.size = b1 at *
  rename World => w1
  go_step
  go_step
  go_cut [3] (fun s3 W => s3 = .pointer (some ⟨b1 + 2, 0, none⟩) ∧ hp W b1 = some (.cells #[.int .i64 3, .int .i64 node, .int .i64 inc, .int .i64 ses, .int .i64 tx, .int .i64 seq, .string key, .int .i64 lo, .int .i64 hi, .bool has, .string data, .bool hit, .int .i64 err, .int .i64 n, .slice wp wn wq, .slice kp kn kq] 30 (0, 0)) ∧ hp W (b1 + 1) = some (.cells Z30 30 (0, 0)) ∧ hp W (b1 + 2) = some (.cells #[.int .i64 3, .int .i64 node, .int .i64 inc, .int .i64 ses, .int .i64 tx, .int .i64 seq, .string key, .int .i64 lo, .int .i64 hi, .bool has, .string data, .bool hit, .int .i64 err, .int .i64 n, .slice wp wn wq, .slice kp kn kq] 30 (0, 0)) ∧ Below w1.heap.size w1 W)
  case first =>
    go_step
    refine ld_op rfl (.tmp 1) rfl b1 rfl _ k1 rfl ?_
    simp only [Act.put, List.setIfInBounds_toArray, List.set_cons_zero, List.set_cons_succ]
    refine al_op rfl rfl ?_
    simp only [Act.put, List.setIfInBounds_toArray, List.set_cons_zero, List.set_cons_succ]
    refine st_op rfl (.tmp 3) (.tmp 4) rfl w1.heap.size _ rfl rfl Z30 (hp_alloc_new _ _) rfl rfl (by simp [Value.oneCell']) ?_
    simp only [Act.put, List.setIfInBounds_toArray, List.set_cons_zero, List.set_cons_succ]
    go_wp2
    go_meet
    case rel => exact ⟨by rw [hsz], hp_row_ne (hp_alloc_old k1 _) (by omega), hp_row_ne (hp_alloc_old k2 _) (by omega), by have := hp_row (cs' := #[.int .i64 3, .int .i64 node, .int .i64 inc, .int .i64 ses, .int .i64 tx, .int .i64 seq, .string key, .int .i64 lo, .int .i64 hi, .bool has, .string data, .bool hit, .int .i64 err, .int .i64 n, .slice wp wn wq, .slice kp kn kq]) (hp_alloc_new w1 (.cells Z30 30)); rw [hsz] at this; rw [hsz]; exact this, below_row (by (repeat (first | (with_reducible exact Below.refl _ _) | (with_reducible refine below_drew ?_) | (with_reducible refine below_alloc ?_ _)))) (Nat.le_refl _) _⟩
  case rest =>
  obtain ⟨rfl, k1', k2', k3', hB2⟩ := hcut
  clear k1 k2
  rename World => w2
  have hBW2 : Below b1 w w2 := by rw [← hb1] at *; exact below_call hBW hB2
  clear hBW hB2
  go_step
  go_step
  have c1 := hp_cell k1'
  have c3 := hp_cell k3'
  have f3 := hp_free k3'
  have n1 : ¬ b1 = b1 + 2 := by omega
  have n2 : ¬ b1 + 1 = b1 + 2 := by omega
  have n3 : ¬ b1 + 2 = b1 := by omega
  have n4 : ¬ b1 + 2 = b1 + 1 := by omega
  go_cut [0] (fun s0 W => hp W (b1 + 1) = some (.cells Z30 30 (0, 0)) ∧ hp W (b1 + 2) = some (.cells #[.int .i64 3, .int .i64 0, .int .i64 inc, .int .i64 ses, .int .i64 0, .int .i64 0, .string ⟨#[]⟩, .int .i64 0, .int .i64 0, .bool has, .string data, .bool hit, .int .i64 err, .int .i64 n, .slice wp wn wq, .slice kp kn kq] 30 (0, 0)) ∧ Below b1 w W)
  case first =>
    go_wp2
    go_meet
    exact ⟨(hp_set_ne (hp_set_ne (hp_set_ne (hp_set_ne (hp_set_ne (hp_set_ne k2' (p := ⟨b1 + 2, 4, none⟩) n2 (.int .i64 0)) (p := ⟨b1 + 2, 5, none⟩) n2 (.int .i64 0)) (p := ⟨b1 + 2, 6, none⟩) n2 (.string ⟨#[]⟩)) (p := ⟨b1 + 2, 7, none⟩) n2 (.int .i64 0)) (p := ⟨b1 + 2, 8, none⟩) n2 (.int .i64 0)) (p := ⟨b1 + 2, 1, none⟩) n2 (.int .i64 0)), (hp_set (hp_set (hp_set (hp_set (hp_set (hp_set k3' (.int .i64 0)) (.int .i64 0)) (.string ⟨#[]⟩)) (.int .i64 0)) (.int .i64 0)) (.int .i64 0)), (below_setB (below_setB (below_setB (below_setB (below_setB (below_setB hBW2 (p := ⟨b1 + 2, 4, none⟩) (by show b1 ≤ b1 + 2; omega) (.int .i64 0)) (p := ⟨b1 + 2, 5, none⟩) (by show b1 ≤ b1 + 2; omega) (.int .i64 0)) (p := ⟨b1 + 2, 6, none⟩) (by show b1 ≤ b1 + 2; omega) (.string ⟨#[]⟩)) (p := ⟨b1 + 2, 7, none⟩) (by show b1 ≤ b1 + 2; omega) (.int .i64 0)) (p := ⟨b1 + 2, 8, none⟩) (by show b1 ≤ b1 + 2; omega) (.int .i64 0)) (p := ⟨b1 + 2, 1, none⟩) (by show b1 ≤ b1 + 2; omega) (.int .i64 0))⟩
  case rest =>
  obtain ⟨q2, q3, hB3⟩ := hcut
  go_step
  go_step
  go_step
  refine ld_op rfl (.tmp 3) rfl (b1 + 2) rfl _ q3 rfl ?_
  simp only [Act.put, List.setIfInBounds_toArray, List.set_cons_zero, List.set_cons_succ]
  refine st_op rfl (.tmp 2) (.tmp 91) rfl (b1 + 1) _ rfl rfl Z30 q2 rfl rfl (by simp [Value.oneCell']) ?_
  simp only [Act.put, List.setIfInBounds_toArray, List.set_cons_zero, List.set_cons_succ]
  go_wp2
  refine bodyPost_ret (res30 rfl rfl (hp_row q2) rfl) rfl ⟨rfl, ?_⟩
  rw [hb1]
  subst hb1
  exact below_row hB3 (by omega) _

set_option maxHeartbeats 4000000 in
theorem o_blank_5 (node inc ses tx seq lo hi err n : Int) (key data : ByteArray) (has hit : Bool) (wp kp : Option Addr) (wn wq kn kq : Nat) (w : World) : Calls Try.prog 58 #[.agg #[.int .i64 5, .int .i64 node, .int .i64 inc, .int .i64 ses, .int .i64 tx, .int .i64 seq, .string key, .int .i64 lo, .int .i64 hi, .bool has, .string data, .bool hit, .int .i64 err, .int .i64 n, .slice wp wn wq, .slice kp kn kq]] w fun e w' => e = .returned (.agg #[.int .i64 5, .int .i64 node, .int .i64 inc, .int .i64 ses, .int .i64 0, .int .i64 0, .string ⟨#[]⟩, .int .i64 0, .int .i64 0, .bool has, .string data, .bool hit, .int .i64 err, .int .i64 n, .slice wp wn wq, .slice kp kn kq]) ∧ Below w.heap.size w w' := by
  go_enter Try.func58, Try.ntmps58
  go_step
  go_step
  go_cut [1, 2] (fun s1 s2 W => s1 = .pointer (some ⟨w.heap.size, 0, none⟩) ∧ s2 = .pointer (some ⟨w.heap.size + 1, 0, none⟩) ∧ hp W w.heap.size = some (.cells #[.int .i64 5, .int .i64 node, .int .i64 inc, .int .i64 ses, .int .i64 tx, .int .i64 seq, .string key, .int .i64 lo, .int .i64 hi, .bool has, .string data, .bool hit, .int .i64 err, .int .i64 n, .slice wp wn wq, .slice kp kn kq] 30 (0, 0)) ∧ hp W (w.heap.size + 1) = some (.cells Z30 30 (0, 0)) ∧ W.heap.size = w.heap.size + 2 ∧ Below w.heap.size w W)
  case first =>
    go_wp2
    go_meet
    case rel => exact ⟨rfl, rfl, by rw [hpA, if_neg (by simp), hpA, if_pos rfl], by rw [hpA, if_pos (by simp)]; rfl, by simp, (by (repeat (first | (with_reducible exact Below.refl _ _) | (with_reducible refine below_drew ?_) | (with_reducible refine below_alloc ?_ _))))⟩
  case rest =>
  obtain ⟨rfl, rfl, k1, k2, hsz, hBW⟩ := hcut
  generalize hb1 : w.heap.size = b1 at *
  rename World => w1
  go_step
  go_step
  go_cut [3] (fun s3 W => s3 = .pointer (some ⟨b1 + 2, 0, none⟩) ∧ hp W b1 = some (.cells #[.int .i64 5, .int .i64 node, .int .i64 inc, .int .i64 ses, .int .i64 tx, .int .i64 seq, .string key, .int .i64 lo, .int .i64 hi, .bool has, .string data, .bool hit, .int .i64 err, .int .i64 n, .slice wp wn wq, .slice kp kn kq] 30 (0, 0)) ∧ hp W (b1 + 1) = some (.cells Z30 30 (0, 0)) ∧ hp W (b1 + 2) = some (.cells #[.int .i64 5, .int .i64 node, .int .i64 inc, .int .i64 ses, .int .i64 tx, .int .i64 seq, .string key, .int .i64 lo, .int .i64 hi, .bool has, .string data, .bool hit, .int .i64 err, .int .i64 n, .slice wp wn wq, .slice kp kn kq] 30 (0, 0)) ∧ Below w1.heap.size w1 W)
  case first =>
    go_step
    refine ld_op rfl (.tmp 1) rfl b1 rfl _ k1 rfl ?_
    simp only [Act.put, List.setIfInBounds_toArray, List.set_cons_zero, List.set_cons_succ]
    refine al_op rfl rfl ?_
    simp only [Act.put, List.setIfInBounds_toArray, List.set_cons_zero, List.set_cons_succ]
    refine st_op rfl (.tmp 3) (.tmp 4) rfl w1.heap.size _ rfl rfl Z30 (hp_alloc_new _ _) rfl rfl (by simp [Value.oneCell']) ?_
    simp only [Act.put, List.setIfInBounds_toArray, List.set_cons_zero, List.set_cons_succ]
    go_wp2
    go_meet
    case rel => exact ⟨by rw [hsz], hp_row_ne (hp_alloc_old k1 _) (by omega), hp_row_ne (hp_alloc_old k2 _) (by omega), by have := hp_row (cs' := #[.int .i64 5, .int .i64 node, .int .i64 inc, .int .i64 ses, .int .i64 tx, .int .i64 seq, .string key, .int .i64 lo, .int .i64 hi, .bool has, .string data, .bool hit, .int .i64 err, .int .i64 n, .slice wp wn wq, .slice kp kn kq]) (hp_alloc_new w1 (.cells Z30 30)); rw [hsz] at this; rw [hsz]; exact this, below_row (by (repeat (first | (with_reducible exact Below.refl _ _) | (with_reducible refine below_drew ?_) | (with_reducible refine below_alloc ?_ _)))) (Nat.le_refl _) _⟩
  case rest =>
  obtain ⟨rfl, k1', k2', k3', hB2⟩ := hcut
  clear k1 k2
  rename World => w2
  have hBW2 : Below b1 w w2 := by rw [← hb1] at *; exact below_call hBW hB2
  clear hBW hB2
  go_step
  go_step
  have c1 := hp_cell k1'
  have c3 := hp_cell k3'
  have f3 := hp_free k3'
  have n1 : ¬ b1 = b1 + 2 := by omega
  have n2 : ¬ b1 + 1 = b1 + 2 := by omega
  have n3 : ¬ b1 + 2 = b1 := by omega
  have n4 : ¬ b1 + 2 = b1 + 1 := by omega
  go_cut [0] (fun s0 W => hp W (b1 + 1) = some (.cells Z30 30 (0, 0)) ∧ hp W (b1 + 2) = some (.cells #[.int .i64 5, .int .i64 node, .int .i64 inc, .int .i64 ses, .int .i64 0, .int .i64 0, .string ⟨#[]⟩, .int .i64 0, .int .i64 0, .bool has, .string data, .bool hit, .int .i64 err, .int .i64 n, .slice wp wn wq, .slice kp kn kq] 30 (0, 0)) ∧ Below b1 w W)
  case first =>
    go_wp2
    go_meet
    exact ⟨(hp_set_ne (hp_set_ne (hp_set_ne (hp_set_ne (hp_set_ne k2' (p := ⟨b1 + 2, 4, none⟩) n2 (.int .i64 0)) (p := ⟨b1 + 2, 5, none⟩) n2 (.int .i64 0)) (p := ⟨b1 + 2, 6, none⟩) n2 (.string ⟨#[]⟩)) (p := ⟨b1 + 2, 7, none⟩) n2 (.int .i64 0)) (p := ⟨b1 + 2, 8, none⟩) n2 (.int .i64 0)), (hp_set (hp_set (hp_set (hp_set (hp_set k3' (.int .i64 0)) (.int .i64 0)) (.string ⟨#[]⟩)) (.int .i64 0)) (.int .i64 0)), (below_setB (below_setB (below_setB (below_setB (below_setB hBW2 (p := ⟨b1 + 2, 4, none⟩) (by show b1 ≤ b1 + 2; omega) (.int .i64 0)) (p := ⟨b1 + 2, 5, none⟩) (by show b1 ≤ b1 + 2; omega) (.int .i64 0)) (p := ⟨b1 + 2, 6, none⟩) (by show b1 ≤ b1 + 2; omega) (.string ⟨#[]⟩)) (p := ⟨b1 + 2, 7, none⟩) (by show b1 ≤ b1 + 2; omega) (.int .i64 0)) (p := ⟨b1 + 2, 8, none⟩) (by show b1 ≤ b1 + 2; omega) (.int .i64 0))⟩
  case rest =>
  obtain ⟨q2, q3, hB3⟩ := hcut
  go_step
  go_step
  go_step
  refine ld_op rfl (.tmp 3) rfl (b1 + 2) rfl _ q3 rfl ?_
  simp only [Act.put, List.setIfInBounds_toArray, List.set_cons_zero, List.set_cons_succ]
  refine st_op rfl (.tmp 2) (.tmp 91) rfl (b1 + 1) _ rfl rfl Z30 q2 rfl rfl (by simp [Value.oneCell']) ?_
  simp only [Act.put, List.setIfInBounds_toArray, List.set_cons_zero, List.set_cons_succ]
  go_wp2
  refine bodyPost_ret (res30 rfl rfl (hp_row q2) rfl) rfl ⟨rfl, ?_⟩
  rw [hb1]
  subst hb1
  exact below_row hB3 (by omega) _

set_option maxHeartbeats 4000000 in
theorem o_blank_7 (node inc ses tx seq lo hi err n : Int) (key data : ByteArray) (has hit : Bool) (wp kp : Option Addr) (wn wq kn kq : Nat) (w : World) : Calls Try.prog 58 #[.agg #[.int .i64 7, .int .i64 node, .int .i64 inc, .int .i64 ses, .int .i64 tx, .int .i64 seq, .string key, .int .i64 lo, .int .i64 hi, .bool has, .string data, .bool hit, .int .i64 err, .int .i64 n, .slice wp wn wq, .slice kp kn kq]] w fun e w' => e = .returned (.agg #[.int .i64 7, .int .i64 0, .int .i64 inc, .int .i64 ses, .int .i64 tx, .int .i64 seq, .string ⟨#[]⟩, .int .i64 0, .int .i64 0, .bool false, .string ⟨#[]⟩, .bool hit, .int .i64 err, .int .i64 0, .slice wp wn wq, .slice kp kn kq]) ∧ Below w.heap.size w w' := by
  go_enter Try.func58, Try.ntmps58
  go_step
  go_step
  go_cut [1, 2] (fun s1 s2 W => s1 = .pointer (some ⟨w.heap.size, 0, none⟩) ∧ s2 = .pointer (some ⟨w.heap.size + 1, 0, none⟩) ∧ hp W w.heap.size = some (.cells #[.int .i64 7, .int .i64 node, .int .i64 inc, .int .i64 ses, .int .i64 tx, .int .i64 seq, .string key, .int .i64 lo, .int .i64 hi, .bool has, .string data, .bool hit, .int .i64 err, .int .i64 n, .slice wp wn wq, .slice kp kn kq] 30 (0, 0)) ∧ hp W (w.heap.size + 1) = some (.cells Z30 30 (0, 0)) ∧ W.heap.size = w.heap.size + 2 ∧ Below w.heap.size w W)
  case first =>
    go_wp2
    go_meet
    case rel => exact ⟨rfl, rfl, by rw [hpA, if_neg (by simp), hpA, if_pos rfl], by rw [hpA, if_pos (by simp)]; rfl, by simp, (by (repeat (first | (with_reducible exact Below.refl _ _) | (with_reducible refine below_drew ?_) | (with_reducible refine below_alloc ?_ _))))⟩
  case rest =>
  obtain ⟨rfl, rfl, k1, k2, hsz, hBW⟩ := hcut
  generalize hb1 : w.heap.size = b1 at *
  rename World => w1
  go_step
  go_step
  go_cut [3] (fun s3 W => s3 = .pointer (some ⟨b1 + 2, 0, none⟩) ∧ hp W b1 = some (.cells #[.int .i64 7, .int .i64 node, .int .i64 inc, .int .i64 ses, .int .i64 tx, .int .i64 seq, .string key, .int .i64 lo, .int .i64 hi, .bool has, .string data, .bool hit, .int .i64 err, .int .i64 n, .slice wp wn wq, .slice kp kn kq] 30 (0, 0)) ∧ hp W (b1 + 1) = some (.cells Z30 30 (0, 0)) ∧ hp W (b1 + 2) = some (.cells #[.int .i64 7, .int .i64 node, .int .i64 inc, .int .i64 ses, .int .i64 tx, .int .i64 seq, .string key, .int .i64 lo, .int .i64 hi, .bool has, .string data, .bool hit, .int .i64 err, .int .i64 n, .slice wp wn wq, .slice kp kn kq] 30 (0, 0)) ∧ Below w1.heap.size w1 W)
  case first =>
    go_step
    refine ld_op rfl (.tmp 1) rfl b1 rfl _ k1 rfl ?_
    simp only [Act.put, List.setIfInBounds_toArray, List.set_cons_zero, List.set_cons_succ]
    refine al_op rfl rfl ?_
    simp only [Act.put, List.setIfInBounds_toArray, List.set_cons_zero, List.set_cons_succ]
    refine st_op rfl (.tmp 3) (.tmp 4) rfl w1.heap.size _ rfl rfl Z30 (hp_alloc_new _ _) rfl rfl (by simp [Value.oneCell']) ?_
    simp only [Act.put, List.setIfInBounds_toArray, List.set_cons_zero, List.set_cons_succ]
    go_wp2
    go_meet
    case rel => exact ⟨by rw [hsz], hp_row_ne (hp_alloc_old k1 _) (by omega), hp_row_ne (hp_alloc_old k2 _) (by omega), by have := hp_row (cs' := #[.int .i64 7, .int .i64 node, .int .i64 inc, .int .i64 ses, .int .i64 tx, .int .i64 seq, .string key, .int .i64 lo, .int .i64 hi, .bool has, .string data, .bool hit, .int .i64 err, .int .i64 n, .slice wp wn wq, .slice kp kn kq]) (hp_alloc_new w1 (.cells Z30 30)); rw [hsz] at this; rw [hsz]; exact this, below_row (by (repeat (first | (with_reducible exact Below.refl _ _) | (with_reducible refine below_drew ?_) | (with_reducible refine below_alloc ?_ _)))) (Nat.le_refl _) _⟩
  case rest =>
  obtain ⟨rfl, k1', k2', k3', hB2⟩ := hcut
  clear k1 k2
  rename World => w2
  have hBW2 : Below b1 w w2 := by rw [← hb1] at *; exact below_call hBW hB2
  clear hBW hB2
  go_step
  go_step
  have c1 := hp_cell k1'
  have c3 := hp_cell k3'
  have f3 := hp_free k3'
  have n1 : ¬ b1 = b1 + 2 := by omega
  have n2 : ¬ b1 + 1 = b1 + 2 := by omega
  have n3 : ¬ b1 + 2 = b1 := by omega
  have n4 : ¬ b1 + 2 = b1 + 1 := by omega
  go_cut [0] (fun s0 W => hp W (b1 + 1) = some (.cells Z30 30 (0, 0)) ∧ hp W (b1 + 2) = some (.cells #[.int .i64 7, .int .i64 0, .int .i64 inc, .int .i64 ses, .int .i64 tx, .int .i64 seq, .string ⟨#[]⟩, .int .i64 0, .int .i64 0, .bool false, .string ⟨#[]⟩, .bool hit, .int .i64 err, .int .i64 0, .slice wp wn wq, .slice kp kn kq] 30 (0, 0)) ∧ Below b1 w W)
  case first =>
    go_wp2
    go_meet
    exact ⟨(hp_set_ne (hp_set_ne (hp_set_ne (hp_set_ne (hp_set_ne (hp_set_ne (hp_set_ne k2' (p := ⟨b1 + 2, 1, none⟩) n2 (.int .i64 0)) (p := ⟨b1 + 2, 6, none⟩) n2 (.string ⟨#[]⟩)) (p := ⟨b1 + 2, 9, none⟩) n2 (.bool false)) (p := ⟨b1 + 2, 10, none⟩) n2 (.string ⟨#[]⟩)) (p := ⟨b1 + 2, 7, none⟩) n2 (.int .i64 0)) (p := ⟨b1 + 2, 8, none⟩) n2 (.int .i64 0)) (p := ⟨b1 + 2, 13, none⟩) n2 (.int .i64 0)), (hp_set (hp_set (hp_set (hp_set (hp_set (hp_set (hp_set k3' (.int .i64 0)) (.string ⟨#[]⟩)) (.bool false)) (.string ⟨#[]⟩)) (.int .i64 0)) (.int .i64 0)) (.int .i64 0)), (below_setB (below_setB (below_setB (below_setB (below_setB (below_setB (below_setB hBW2 (p := ⟨b1 + 2, 1, none⟩) (by show b1 ≤ b1 + 2; omega) (.int .i64 0)) (p := ⟨b1 + 2, 6, none⟩) (by show b1 ≤ b1 + 2; omega) (.string ⟨#[]⟩)) (p := ⟨b1 + 2, 9, none⟩) (by show b1 ≤ b1 + 2; omega) (.bool false)) (p := ⟨b1 + 2, 10, none⟩) (by show b1 ≤ b1 + 2; omega) (.string ⟨#[]⟩)) (p := ⟨b1 + 2, 7, none⟩) (by show b1 ≤ b1 + 2; omega) (.int .i64 0)) (p := ⟨b1 + 2, 8, none⟩) (by show b1 ≤ b1 + 2; omega) (.int .i64 0)) (p := ⟨b1 + 2, 13, none⟩) (by show b1 ≤ b1 + 2; omega) (.int .i64 0))⟩
  case rest =>
  obtain ⟨q2, q3, hB3⟩ := hcut
  go_step
  go_step
  go_step
  refine ld_op rfl (.tmp 3) rfl (b1 + 2) rfl _ q3 rfl ?_
  simp only [Act.put, List.setIfInBounds_toArray, List.set_cons_zero, List.set_cons_succ]
  refine st_op rfl (.tmp 2) (.tmp 91) rfl (b1 + 1) _ rfl rfl Z30 q2 rfl rfl (by simp [Value.oneCell']) ?_
  simp only [Act.put, List.setIfInBounds_toArray, List.set_cons_zero, List.set_cons_succ]
  go_wp2
  refine bodyPost_ret (res30 rfl rfl (hp_row q2) rfl) rfl ⟨rfl, ?_⟩
  rw [hb1]
  subst hb1
  exact below_row hB3 (by omega) _

set_option maxHeartbeats 4000000 in
theorem o_blank_8 (node inc ses tx seq lo hi err n : Int) (key data : ByteArray) (has hit : Bool) (wp kp : Option Addr) (wn wq kn kq : Nat) (w : World) : Calls Try.prog 58 #[.agg #[.int .i64 8, .int .i64 node, .int .i64 inc, .int .i64 ses, .int .i64 tx, .int .i64 seq, .string key, .int .i64 lo, .int .i64 hi, .bool has, .string data, .bool hit, .int .i64 err, .int .i64 n, .slice wp wn wq, .slice kp kn kq]] w fun e w' => e = .returned (.agg #[.int .i64 8, .int .i64 0, .int .i64 inc, .int .i64 ses, .int .i64 tx, .int .i64 seq, .string key, .int .i64 lo, .int .i64 hi, .bool has, .string data, .bool hit, .int .i64 err, .int .i64 0, .slice wp wn wq, .slice none 0 0]) ∧ Below w.heap.size w w' := by
  go_enter Try.func58, Try.ntmps58
  go_step
  go_step
  go_cut [1, 2] (fun s1 s2 W => s1 = .pointer (some ⟨w.heap.size, 0, none⟩) ∧ s2 = .pointer (some ⟨w.heap.size + 1, 0, none⟩) ∧ hp W w.heap.size = some (.cells #[.int .i64 8, .int .i64 node, .int .i64 inc, .int .i64 ses, .int .i64 tx, .int .i64 seq, .string key, .int .i64 lo, .int .i64 hi, .bool has, .string data, .bool hit, .int .i64 err, .int .i64 n, .slice wp wn wq, .slice kp kn kq] 30 (0, 0)) ∧ hp W (w.heap.size + 1) = some (.cells Z30 30 (0, 0)) ∧ W.heap.size = w.heap.size + 2 ∧ Below w.heap.size w W)
  case first =>
    go_wp2
    go_meet
    case rel => exact ⟨rfl, rfl, by rw [hpA, if_neg (by simp), hpA, if_pos rfl], by rw [hpA, if_pos (by simp)]; rfl, by simp, (by (repeat (first | (with_reducible exact Below.refl _ _) | (with_reducible refine below_drew ?_) | (with_reducible refine below_alloc ?_ _))))⟩
  case rest =>
  obtain ⟨rfl, rfl, k1, k2, hsz, hBW⟩ := hcut
  generalize hb1 : w.heap.size = b1 at *
  rename World => w1
  go_step
  go_step
  go_cut [3] (fun s3 W => s3 = .pointer (some ⟨b1 + 2, 0, none⟩) ∧ hp W b1 = some (.cells #[.int .i64 8, .int .i64 node, .int .i64 inc, .int .i64 ses, .int .i64 tx, .int .i64 seq, .string key, .int .i64 lo, .int .i64 hi, .bool has, .string data, .bool hit, .int .i64 err, .int .i64 n, .slice wp wn wq, .slice kp kn kq] 30 (0, 0)) ∧ hp W (b1 + 1) = some (.cells Z30 30 (0, 0)) ∧ hp W (b1 + 2) = some (.cells #[.int .i64 8, .int .i64 node, .int .i64 inc, .int .i64 ses, .int .i64 tx, .int .i64 seq, .string key, .int .i64 lo, .int .i64 hi, .bool has, .string data, .bool hit, .int .i64 err, .int .i64 n, .slice wp wn wq, .slice kp kn kq] 30 (0, 0)) ∧ Below w1.heap.size w1 W)
  case first =>
    go_step
    refine ld_op rfl (.tmp 1) rfl b1 rfl _ k1 rfl ?_
    simp only [Act.put, List.setIfInBounds_toArray, List.set_cons_zero, List.set_cons_succ]
    refine al_op rfl rfl ?_
    simp only [Act.put, List.setIfInBounds_toArray, List.set_cons_zero, List.set_cons_succ]
    refine st_op rfl (.tmp 3) (.tmp 4) rfl w1.heap.size _ rfl rfl Z30 (hp_alloc_new _ _) rfl rfl (by simp [Value.oneCell']) ?_
    simp only [Act.put, List.setIfInBounds_toArray, List.set_cons_zero, List.set_cons_succ]
    go_wp2
    go_meet
    case rel => exact ⟨by rw [hsz], hp_row_ne (hp_alloc_old k1 _) (by omega), hp_row_ne (hp_alloc_old k2 _) (by omega), by have := hp_row (cs' := #[.int .i64 8, .int .i64 node, .int .i64 inc, .int .i64 ses, .int .i64 tx, .int .i64 seq, .string key, .int .i64 lo, .int .i64 hi, .bool has, .string data, .bool hit, .int .i64 err, .int .i64 n, .slice wp wn wq, .slice kp kn kq]) (hp_alloc_new w1 (.cells Z30 30)); rw [hsz] at this; rw [hsz]; exact this, below_row (by (repeat (first | (with_reducible exact Below.refl _ _) | (with_reducible refine below_drew ?_) | (with_reducible refine below_alloc ?_ _)))) (Nat.le_refl _) _⟩
  case rest =>
  obtain ⟨rfl, k1', k2', k3', hB2⟩ := hcut
  clear k1 k2
  rename World => w2
  have hBW2 : Below b1 w w2 := by rw [← hb1] at *; exact below_call hBW hB2
  clear hBW hB2
  go_step
  go_step
  have c1 := hp_cell k1'
  have c3 := hp_cell k3'
  have f3 := hp_free k3'
  have n1 : ¬ b1 = b1 + 2 := by omega
  have n2 : ¬ b1 + 1 = b1 + 2 := by omega
  have n3 : ¬ b1 + 2 = b1 := by omega
  have n4 : ¬ b1 + 2 = b1 + 1 := by omega
  go_cut [0] (fun s0 W => hp W (b1 + 1) = some (.cells Z30 30 (0, 0)) ∧ hp W (b1 + 2) = some (.cells #[.int .i64 8, .int .i64 0, .int .i64 inc, .int .i64 ses, .int .i64 tx, .int .i64 seq, .string key, .int .i64 lo, .int .i64 hi, .bool has, .string data, .bool hit, .int .i64 err, .int .i64 0, .slice wp wn wq, .slice none 0 0] 30 (0, 0)) ∧ Below b1 w W)
  case first =>
    go_wp2
    go_meet
    exact ⟨(hp_set_ne (hp_set_ne (hp_set_ne k2' (p := ⟨b1 + 2, 1, none⟩) n2 (.int .i64 0)) (p := ⟨b1 + 2, 13, none⟩) n2 (.int .i64 0)) (p := ⟨b1 + 2, 15, none⟩) n2 (.slice none 0 0)), (hp_set (hp_set (hp_set k3' (.int .i64 0)) (.int .i64 0)) (.slice none 0 0)), (below_setB (below_setB (below_setB hBW2 (p := ⟨b1 + 2, 1, none⟩) (by show b1 ≤ b1 + 2; omega) (.int .i64 0)) (p := ⟨b1 + 2, 13, none⟩) (by show b1 ≤ b1 + 2; omega) (.int .i64 0)) (p := ⟨b1 + 2, 15, none⟩) (by show b1 ≤ b1 + 2; omega) (.slice none 0 0))⟩
  case rest =>
  obtain ⟨q2, q3, hB3⟩ := hcut
  go_step
  go_step
  go_step
  refine ld_op rfl (.tmp 3) rfl (b1 + 2) rfl _ q3 rfl ?_
  simp only [Act.put, List.setIfInBounds_toArray, List.set_cons_zero, List.set_cons_succ]
  refine st_op rfl (.tmp 2) (.tmp 91) rfl (b1 + 1) _ rfl rfl Z30 q2 rfl rfl (by simp [Value.oneCell']) ?_
  simp only [Act.put, List.setIfInBounds_toArray, List.set_cons_zero, List.set_cons_succ]
  go_wp2
  refine bodyPost_ret (res30 rfl rfl (hp_row q2) rfl) rfl ⟨rfl, ?_⟩
  rw [hb1]
  subst hb1
  exact below_row hB3 (by omega) _

set_option maxHeartbeats 4000000 in
theorem o_blank_9 (node inc ses tx seq lo hi err n : Int) (key data : ByteArray) (has hit : Bool) (wp kp : Option Addr) (wn wq kn kq : Nat) (w : World) : Calls Try.prog 58 #[.agg #[.int .i64 9, .int .i64 node, .int .i64 inc, .int .i64 ses, .int .i64 tx, .int .i64 seq, .string key, .int .i64 lo, .int .i64 hi, .bool has, .string data, .bool hit, .int .i64 err, .int .i64 n, .slice wp wn wq, .slice kp kn kq]] w fun e w' => e = .returned (.agg #[.int .i64 9, .int .i64 0, .int .i64 inc, .int .i64 ses, .int .i64 tx, .int .i64 seq, .string key, .int .i64 lo, .int .i64 hi, .bool has, .string data, .bool hit, .int .i64 err, .int .i64 0, .slice wp wn wq, .slice kp kn kq]) ∧ Below w.heap.size w w' := by
  go_enter Try.func58, Try.ntmps58
  go_step
  go_step
  go_cut [1, 2] (fun s1 s2 W => s1 = .pointer (some ⟨w.heap.size, 0, none⟩) ∧ s2 = .pointer (some ⟨w.heap.size + 1, 0, none⟩) ∧ hp W w.heap.size = some (.cells #[.int .i64 9, .int .i64 node, .int .i64 inc, .int .i64 ses, .int .i64 tx, .int .i64 seq, .string key, .int .i64 lo, .int .i64 hi, .bool has, .string data, .bool hit, .int .i64 err, .int .i64 n, .slice wp wn wq, .slice kp kn kq] 30 (0, 0)) ∧ hp W (w.heap.size + 1) = some (.cells Z30 30 (0, 0)) ∧ W.heap.size = w.heap.size + 2 ∧ Below w.heap.size w W)
  case first =>
    go_wp2
    go_meet
    case rel => exact ⟨rfl, rfl, by rw [hpA, if_neg (by simp), hpA, if_pos rfl], by rw [hpA, if_pos (by simp)]; rfl, by simp, (by (repeat (first | (with_reducible exact Below.refl _ _) | (with_reducible refine below_drew ?_) | (with_reducible refine below_alloc ?_ _))))⟩
  case rest =>
  obtain ⟨rfl, rfl, k1, k2, hsz, hBW⟩ := hcut
  generalize hb1 : w.heap.size = b1 at *
  rename World => w1
  go_step
  go_step
  go_cut [3] (fun s3 W => s3 = .pointer (some ⟨b1 + 2, 0, none⟩) ∧ hp W b1 = some (.cells #[.int .i64 9, .int .i64 node, .int .i64 inc, .int .i64 ses, .int .i64 tx, .int .i64 seq, .string key, .int .i64 lo, .int .i64 hi, .bool has, .string data, .bool hit, .int .i64 err, .int .i64 n, .slice wp wn wq, .slice kp kn kq] 30 (0, 0)) ∧ hp W (b1 + 1) = some (.cells Z30 30 (0, 0)) ∧ hp W (b1 + 2) = some (.cells #[.int .i64 9, .int .i64 node, .int .i64 inc, .int .i64 ses, .int .i64 tx, .int .i64 seq, .string key, .int .i64 lo, .int .i64 hi, .bool has, .string data, .bool hit, .int .i64 err, .int .i64 n, .slice wp wn wq, .slice kp kn kq] 30 (0, 0)) ∧ Below w1.heap.size w1 W)
  case first =>
    go_step
    refine ld_op rfl (.tmp 1) rfl b1 rfl _ k1 rfl ?_
    simp only [Act.put, List.setIfInBounds_toArray, List.set_cons_zero, List.set_cons_succ]
    refine al_op rfl rfl ?_
    simp only [Act.put, List.setIfInBounds_toArray, List.set_cons_zero, List.set_cons_succ]
    refine st_op rfl (.tmp 3) (.tmp 4) rfl w1.heap.size _ rfl rfl Z30 (hp_alloc_new _ _) rfl rfl (by simp [Value.oneCell']) ?_
    simp only [Act.put, List.setIfInBounds_toArray, List.set_cons_zero, List.set_cons_succ]
    go_wp2
    go_meet
    case rel => exact ⟨by rw [hsz], hp_row_ne (hp_alloc_old k1 _) (by omega), hp_row_ne (hp_alloc_old k2 _) (by omega), by have := hp_row (cs' := #[.int .i64 9, .int .i64 node, .int .i64 inc, .int .i64 ses, .int .i64 tx, .int .i64 seq, .string key, .int .i64 lo, .int .i64 hi, .bool has, .string data, .bool hit, .int .i64 err, .int .i64 n, .slice wp wn wq, .slice kp kn kq]) (hp_alloc_new w1 (.cells Z30 30)); rw [hsz] at this; rw [hsz]; exact this, below_row (by (repeat (first | (with_reducible exact Below.refl _ _) | (with_reducible refine below_drew ?_) | (with_reducible refine below_alloc ?_ _)))) (Nat.le_refl _) _⟩
  case rest =>
  obtain ⟨rfl, k1', k2', k3', hB2⟩ := hcut
  clear k1 k2
  rename World => w2
  have hBW2 : Below b1 w w2 := by rw [← hb1] at *; exact below_call hBW hB2
  clear hBW hB2
  go_step
  go_step
  have c1 := hp_cell k1'
  have c3 := hp_cell k3'
  have f3 := hp_free k3'
  have n1 : ¬ b1 = b1 + 2 := by omega
  have n2 : ¬ b1 + 1 = b1 + 2 := by omega
  have n3 : ¬ b1 + 2 = b1 := by omega
  have n4 : ¬ b1 + 2 = b1 + 1 := by omega
  go_cut [0] (fun s0 W => hp W (b1 + 1) = some (.cells Z30 30 (0, 0)) ∧ hp W (b1 + 2) = some (.cells #[.int .i64 9, .int .i64 0, .int .i64 inc, .int .i64 ses, .int .i64 tx, .int .i64 seq, .string key, .int .i64 lo, .int .i64 hi, .bool has, .string data, .bool hit, .int .i64 err, .int .i64 0, .slice wp wn wq, .slice kp kn kq] 30 (0, 0)) ∧ Below b1 w W)
  case first =>
    go_wp2
    go_meet
    exact ⟨(hp_set_ne (hp_set_ne k2' (p := ⟨b1 + 2, 1, none⟩) n2 (.int .i64 0)) (p := ⟨b1 + 2, 13, none⟩) n2 (.int .i64 0)), (hp_set (hp_set k3' (.int .i64 0)) (.int .i64 0)), (below_setB (below_setB hBW2 (p := ⟨b1 + 2, 1, none⟩) (by show b1 ≤ b1 + 2; omega) (.int .i64 0)) (p := ⟨b1 + 2, 13, none⟩) (by show b1 ≤ b1 + 2; omega) (.int .i64 0))⟩
  case rest =>
  obtain ⟨q2, q3, hB3⟩ := hcut
  go_step
  go_step
  go_step
  refine ld_op rfl (.tmp 3) rfl (b1 + 2) rfl _ q3 rfl ?_
  simp only [Act.put, List.setIfInBounds_toArray, List.set_cons_zero, List.set_cons_succ]
  refine st_op rfl (.tmp 2) (.tmp 91) rfl (b1 + 1) _ rfl rfl Z30 q2 rfl rfl (by simp [Value.oneCell']) ?_
  simp only [Act.put, List.setIfInBounds_toArray, List.set_cons_zero, List.set_cons_succ]
  go_wp2
  refine bodyPost_ret (res30 rfl rfl (hp_row q2) rfl) rfl ⟨rfl, ?_⟩
  rw [hb1]
  subst hb1
  exact below_row hB3 (by omega) _

end Go.Proofs.Ytiklpifaaogcpaa
