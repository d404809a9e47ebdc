/- only: at each kind. -/
import Derived.Test.YtiklpifaaogcpaaKz
import Derived.WalkKit
import Derived.WalkLawsBesides
import Derived.WalkSpells
import Derived.Below
import Derived.Deep.RegionHeld3
import Derived.Deep.QuietTactic
import Derived.BigQuiet
import Derived.Deep.DeepCutAuto
import Derived.Deep.DeepMust
import Derived.KernelRfl
import Derived.Lib.Hide
import Derived.Outline
import Derived.RegionTactic
import Derived.StillTailTactics
import Derived.Laws.IdiomStrings
import Derived.Handy
namespace Go.Proofs.Ytiklpifaaogcpaa
open Go.RowKit Go.Cl 
set_option maxRecDepth 100000
set_option linter.unusedVariables false
set_option linter.unusedSimpArgs false


theorem mono5 {w : World} {b1 b2 b3 : Nat} {X Y : Obj} {F : Nat → Obj} (hb1 : w.heap.size = b1) (k : Nat) (wa wb : World) (h : hp wa b1 = some X ∧ hp wa b2 = some Y ∧ hp wa b3 = some (F k) ∧ Below b1 w wa) (hb : Below wa.heap.size wa wb) : hp wb b1 = some X ∧ hp wb b2 = some Y ∧ hp wb b3 = some (F k) ∧ Below b1 w wb :=
  ⟨hp_below hb h.1, hp_below hb h.2.1, hp_below hb h.2.2.1, h.2.2.2.trans (hb.mono (by rw [← hb1]; exact h.2.2.2.size))⟩
set_option maxHeartbeats 4000000 in
theorem o_only_10 (node inc ses tx seq lo hi err n : Int) (key data : ByteArray) (has hit : Bool) (wp kp : Option Addr) (wn wq kn kq : Nat) (w : World) : Calls Try.prog 33 #[.agg #[.int .i64 10, .int .i64 node, .int .i64 inc, .int .i64 ses, .int .i64 tx, .int .i64 seq, .string key, .int .i64 lo, .int .i64 hi, .bool has, .string data, .bool hit, .int .i64 err, .int .i64 n, .slice wp wn wq, .slice kp kn kq]] w fun e w' => e = .returned (.agg #[.int .i64 10, .int .i64 node, .int .i64 inc, .int .i64 0, .int .i64 0, .int .i64 0, .string ⟨#[]⟩, .int .i64 0, .int .i64 0, .bool false, .string ⟨#[]⟩, .bool false, .int .i64 0, .int .i64 0, .slice none 0 0, .slice none 0 0]) ∧ Below w.heap.size w w' := by
  go_enter Try.func33, Try.ntmps33
  go_step
  go_step
  go_cut [1, 2] (fun s1 s2 W => s1 = .pointer (some ⟨w.heap.size, 0, none⟩) ∧ s2 = .pointer (some ⟨w.heap.size + 1, 0, none⟩) ∧ hp W w.heap.size = some (.cells #[.int .i64 10, .int .i64 node, .int .i64 inc, .int .i64 ses, .int .i64 tx, .int .i64 seq, .string key, .int .i64 lo, .int .i64 hi, .bool has, .string data, .bool hit, .int .i64 err, .int .i64 n, .slice wp wn wq, .slice kp kn kq] 30 (0, 0)) ∧ hp W (w.heap.size + 1) = some (.cells Z30 30 (0, 0)) ∧ W.heap.size = w.heap.size + 2 ∧ Below w.heap.size w W)
  case first =>
    go_wp2
    go_meet
    case rel => exact ⟨rfl, rfl, by rw [hpA, if_neg (by simp), hpA, if_pos rfl], by rw [hpA, if_pos (by simp)]; rfl, by simp, (by (repeat (first | (with_reducible exact Below.refl _ _) | (with_reducible refine below_drew ?_) | (with_reducible refine below_alloc ?_ _))))⟩
  case rest =>
  obtain ⟨rfl, rfl, k1, k2, hsz, hBW⟩ := hcut
  generalize hb1 : w.heap.size = b1 at *
  rename World => w1
  have c0 : w1.cell? ⟨b1, 0, none⟩ = some (.int .i64 10) := hp_cell k1 0
  go_step
  go_step
  go_cut [3] (fun s3 W => s3 = .pointer (some ⟨b1 + 2, 0, none⟩) ∧ hp W b1 = some (.cells #[.int .i64 10, .int .i64 node, .int .i64 inc, .int .i64 ses, .int .i64 tx, .int .i64 seq, .string key, .int .i64 lo, .int .i64 hi, .bool has, .string data, .bool hit, .int .i64 err, .int .i64 n, .slice wp wn wq, .slice kp kn kq] 30 (0, 0)) ∧ hp W (b1 + 1) = some (.cells Z30 30 (0, 0)) ∧ hp W (b1 + 2) = some (.cells #[.int .i64 10, .int .i64 0, .int .i64 0, .int .i64 0, .int .i64 0, .int .i64 0, .string ⟨#[]⟩, .int .i64 0, .int .i64 0, .bool false, .string ⟨#[]⟩, .bool false, .int .i64 0, .int .i64 0, .slice none 0 0, .slice none 0 0] 30 (0, 0)) ∧ Below w1.heap.size w1 W)
  case first =>
    iterate 10 go_step
    refine al_op rfl rfl ?_
    simp only [Act.put, List.setIfInBounds_toArray, List.set_cons_zero, List.set_cons_succ]
    refine st_op rfl (.tmp 3) (.tmp 6) rfl w1.heap.size _ rfl rfl Z30 (hp_alloc_new _ _) rfl rfl (by simp [Value.oneCell']) ?_
    simp only [Act.put, List.setIfInBounds_toArray, List.set_cons_zero, List.set_cons_succ]
    go_wp2
    go_meet
    case rel => exact ⟨by rw [hsz], hp_row_ne (hp_alloc_old k1 _) (by omega), hp_row_ne (hp_alloc_old k2 _) (by omega), by have := hp_row (cs' := #[.int .i64 10, .int .i64 0, .int .i64 0, .int .i64 0, .int .i64 0, .int .i64 0, .string ⟨#[]⟩, .int .i64 0, .int .i64 0, .bool false, .string ⟨#[]⟩, .bool false, .int .i64 0, .int .i64 0, .slice none 0 0, .slice none 0 0]) (hp_alloc_new w1 (.cells Z30 30)); rw [hsz] at this; rw [hsz]; exact this, below_row (by (repeat (first | (with_reducible exact Below.refl _ _) | (with_reducible refine below_drew ?_) | (with_reducible refine below_alloc ?_ _)))) (Nat.le_refl _) _⟩
  case rest =>
  obtain ⟨rfl, k1', k2', k3', hB2⟩ := hcut
  clear k1 k2 c0
  rename World => w2
  have hBW2 : Below b1 w w2 := by rw [← hb1] at *; exact below_call hBW hB2
  clear hBW hB2
  go_step
  go_step
  have c1 := hp_cell k1'
  have c3 := hp_cell k3'
  have f3 := hp_free k3'
  have n1 : ¬ b1 = b1 + 2 := by omega
  have n2 : ¬ b1 + 1 = b1 + 2 := by omega
  have n3 : ¬ b1 + 2 = b1 := by omega
  have n4 : ¬ b1 + 2 = b1 + 1 := by omega
  go_cut [0] (fun s0 W => hp W (b1 + 1) = some (.cells Z30 30 (0, 0)) ∧ hp W (b1 + 2) = some (.cells #[.int .i64 10, .int .i64 node, .int .i64 inc, .int .i64 0, .int .i64 0, .int .i64 0, .string ⟨#[]⟩, .int .i64 0, .int .i64 0, .bool false, .string ⟨#[]⟩, .bool false, .int .i64 0, .int .i64 0, .slice none 0 0, .slice none 0 0] 30 (0, 0)) ∧ Below b1 w W)
  case first =>
    go_wp2
    obtain ⟨RR, hRR⟩ : ∃ RR : Nat → Array Value, RR = fun k => ([#[.int .i64 10, .int .i64 0, .int .i64 0, .int .i64 0, .int .i64 0, .int .i64 0, .string ⟨#[]⟩, .int .i64 0, .int .i64 0, .bool false, .string ⟨#[]⟩, .bool false, .int .i64 0, .int .i64 0, .slice none 0 0, .slice none 0 0], #[.int .i64 10, .int .i64 node, .int .i64 0, .int .i64 0, .int .i64 0, .int .i64 0, .string ⟨#[]⟩, .int .i64 0, .int .i64 0, .bool false, .string ⟨#[]⟩, .bool false, .int .i64 0, .int .i64 0, .slice none 0 0, .slice none 0 0], #[.int .i64 10, .int .i64 node, .int .i64 inc, .int .i64 0, .int .i64 0, .int .i64 0, .string ⟨#[]⟩, .int .i64 0, .int .i64 0, .bool false, .string ⟨#[]⟩, .bool false, .int .i64 0, .int .i64 0, .slice none 0 0, .slice none 0 0]] : List (Array Value)).getD k #[] := ⟨_, rfl⟩
    have HRR := Lib.hid hRR; clear hRR
    refine Ph.region_at (by kernel_rfl) ?_
    refine Ph.at_stage 8 (fun i => if i < 0 then (0, 100, 0) else ([(0, 0, 0), (0, 0, 0), (0, 1, 0), (0, 1, 0), (0, 0, 0), (0, 0, 1), (1, 1, 0), (1, 1, 1)] : List (Nat × Nat × Nat)).getD (i - 0) (0, 0, 0)) (fun k W => hp W b1 = some (.cells #[.int .i64 10, .int .i64 node, .int .i64 inc, .int .i64 ses, .int .i64 tx, .int .i64 seq, .string key, .int .i64 lo, .int .i64 hi, .bool has, .string data, .bool hit, .int .i64 err, .int .i64 n, .slice wp wn wq, .slice kp kn kq] 30 (0, 0)) ∧ hp W (b1 + 1) = some (.cells Z30 30 (0, 0)) ∧ hp W (b1 + 2) = some (.cells (RR k) 30 (0, 0)) ∧ Below b1 w W) (by kernel_rfl) (by kernel_rfl) ⟨hp_below (below_drew (Below.refl _ _)) k1', hp_below (below_drew (Below.refl _ _)) k2', by rw [HRR.out]; exact hp_below (below_drew (Below.refl _ _)) k3', below_drewB hBW2⟩ ?_
    simp only [List.take_succ_cons, List.take_zero, List.drop_succ_cons, List.drop_zero]
    apply Ph.wpPh_q (mono5 hb1) 0 0 rfl rfl; (focus (intro k0 hk1 hk2 w1 hS0; go_simp; first | exact rfl | exact ⟨rfl, Below.refl _ _⟩)); simp only [Act.put, List.setIfInBounds_toArray, List.set_cons_zero, List.set_cons_succ]
    apply Ph.wpPh_q (mono5 hb1) 0 0 rfl rfl; (focus (intro k0 hk1 hk2 w1 hS0; have hc := hp_cell hS0.1; clear hS0; go_simp; first | exact rfl | exact ⟨rfl, Below.refl _ _⟩)); simp only [Act.put, List.setIfInBounds_toArray, List.set_cons_zero, List.set_cons_succ]
    apply Ph.wpPh_q (mono5 hb1) 0 1 rfl rfl; (focus (intro k0 hk1 hk2 w1 hS0; go_simp; first | exact rfl | exact ⟨rfl, Below.refl _ _⟩)); simp only [Act.put, List.setIfInBounds_toArray, List.set_cons_zero, List.set_cons_succ]
    apply Ph.wpPh_q (mono5 hb1) 0 1 rfl rfl; (focus (intro k0 hk1 hk2 w1 hS0; have hc := hp_cell hS0.1; clear hS0; go_simp; first | exact rfl | exact ⟨rfl, Below.refl _ _⟩)); simp only [Act.put, List.setIfInBounds_toArray, List.set_cons_zero, List.set_cons_succ]
    apply Ph.wpPh_q (mono5 hb1) 0 0 rfl rfl; (focus (intro k0 hk1 hk2 w1 hS0; go_simp; first | exact rfl | exact ⟨rfl, Below.refl _ _⟩)); simp only [Act.put, List.setIfInBounds_toArray, List.set_cons_zero, List.set_cons_succ]
    apply Ph.wpPh_e 0 rfl rfl; (focus (intro w1 hS0; obtain ⟨hq1, hq2, hq3, hqb⟩ := hS0; replace hq3 : hp w1 (b1 + 2) = some (.cells #[.int .i64 10, .int .i64 0, .int .i64 0, .int .i64 0, .int .i64 0, .int .i64 0, .string ⟨#[]⟩, .int .i64 0, .int .i64 0, .bool false, .string ⟨#[]⟩, .bool false, .int .i64 0, .int .i64 0, .slice none 0 0, .slice none 0 0] 30 (0, 0)) := (by rw [HRR.out] at hq3; exact hq3); have hc := hp_cell hq3; have hf := hp_free hq3; have HQ := Lib.hid (And.intro hq1 (And.intro hq2 (And.intro hq3 hqb))); clear hq1 hq2 hq3 hqb; go_simp; obtain ⟨hq1, hq2, hq3, hqb⟩ := HQ.out; exact ⟨rfl, (hp_set_ne hq1 (p := ⟨b1 + 2, 1, none⟩) n1 (.int .i64 node)), (hp_set_ne hq2 (p := ⟨b1 + 2, 1, none⟩) n2 (.int .i64 node)), by rw [HRR.out]; exact (hp_set hq3 (.int .i64 node)), (below_setB hqb (p := ⟨b1 + 2, 1, none⟩) (by show b1 ≤ b1 + 2; omega) (.int .i64 node))⟩)); simp only [Act.put, List.setIfInBounds_toArray, List.set_cons_zero, List.set_cons_succ]
    apply Ph.wpPh_q (mono5 hb1) 1 1 rfl rfl; (focus (intro k0 hk1 hk2 w1 hS0; go_simp; first | exact rfl | exact ⟨rfl, Below.refl _ _⟩)); simp only [Act.put, List.setIfInBounds_toArray, List.set_cons_zero, List.set_cons_succ]
    apply Ph.wpPh_e 1 rfl rfl; (focus (intro w1 hS0; obtain ⟨hq1, hq2, hq3, hqb⟩ := hS0; replace hq3 : hp w1 (b1 + 2) = some (.cells #[.int .i64 10, .int .i64 node, .int .i64 0, .int .i64 0, .int .i64 0, .int .i64 0, .string ⟨#[]⟩, .int .i64 0, .int .i64 0, .bool false, .string ⟨#[]⟩, .bool false, .int .i64 0, .int .i64 0, .slice none 0 0, .slice none 0 0] 30 (0, 0)) := (by rw [HRR.out] at hq3; exact hq3); have hc := hp_cell hq3; have hf := hp_free hq3; have HQ := Lib.hid (And.intro hq1 (And.intro hq2 (And.intro hq3 hqb))); clear hq1 hq2 hq3 hqb; go_simp; obtain ⟨hq1, hq2, hq3, hqb⟩ := HQ.out; exact ⟨rfl, (hp_set_ne hq1 (p := ⟨b1 + 2, 2, none⟩) n1 (.int .i64 inc)), (hp_set_ne hq2 (p := ⟨b1 + 2, 2, none⟩) n2 (.int .i64 inc)), by rw [HRR.out]; exact (hp_set hq3 (.int .i64 inc)), (below_setB hqb (p := ⟨b1 + 2, 2, none⟩) (by show b1 ≤ b1 + 2; omega) (.int .i64 inc))⟩)); simp only [Act.put, List.setIfInBounds_toArray, List.set_cons_zero, List.set_cons_succ]
    refine Ph.wpPh_nil ?_; intro w3 hS3
    refine Ph.at_end (by simp) ?_
    obtain ⟨q1, q2, q3, qb⟩ := (show (fun (k : Nat) (W : World) => hp W b1 = some (.cells #[.int .i64 10, .int .i64 node, .int .i64 inc, .int .i64 ses, .int .i64 tx, .int .i64 seq, .string key, .int .i64 lo, .int .i64 hi, .bool has, .string data, .bool hit, .int .i64 err, .int .i64 n, .slice wp wn wq, .slice kp kn kq] 30 (0, 0)) ∧ hp W (b1 + 1) = some (.cells Z30 30 (0, 0)) ∧ hp W (b1 + 2) = some (.cells (RR k) 30 (0, 0)) ∧ Below b1 w W) 2 w3 from hS3)
    replace q3 : hp w3 (b1 + 2) = some (.cells #[.int .i64 10, .int .i64 node, .int .i64 inc, .int .i64 0, .int .i64 0, .int .i64 0, .string ⟨#[]⟩, .int .i64 0, .int .i64 0, .bool false, .string ⟨#[]⟩, .bool false, .int .i64 0, .int .i64 0, .slice none 0 0, .slice none 0 0] 30 (0, 0)) := by rw [HRR.out] at q3; exact q3
    clear hS3 HRR RR
    clear c1 c3 f3
    have c1 := hp_cell q1
    go_wp2
    go_meet
    exact ⟨q2, q3, qb⟩
  case rest =>
  obtain ⟨q2, q3, hB3⟩ := hcut
  go_step
  go_step
  go_step
  refine ld_op rfl (.tmp 3) rfl (b1 + 2) rfl _ q3 rfl ?_
  simp only [Act.put, List.setIfInBounds_toArray, List.set_cons_zero, List.set_cons_succ]
  refine st_op rfl (.tmp 2) (.tmp 159) rfl (b1 + 1) _ rfl rfl Z30 q2 rfl rfl (by simp [Value.oneCell']) ?_
  simp only [Act.put, List.setIfInBounds_toArray, List.set_cons_zero, List.set_cons_succ]
  go_wp2
  refine bodyPost_ret (res30 rfl rfl (hp_row q2) rfl) rfl ⟨rfl, ?_⟩
  rw [hb1]
  subst hb1
  exact below_row hB3 (by omega) _

set_option maxHeartbeats 4000000 in
theorem o_only_11 (node inc ses tx seq lo hi err n : Int) (key data : ByteArray) (has hit : Bool) (wp kp : Option Addr) (wn wq kn kq : Nat) (w : World) : Calls Try.prog 33 #[.agg #[.int .i64 11, .int .i64 node, .int .i64 inc, .int .i64 ses, .int .i64 tx, .int .i64 seq, .string key, .int .i64 lo, .int .i64 hi, .bool has, .string data, .bool hit, .int .i64 err, .int .i64 n, .slice wp wn wq, .slice kp kn kq]] w fun e w' => e = .returned (.agg #[.int .i64 11, .int .i64 node, .int .i64 inc, .int .i64 0, .int .i64 0, .int .i64 0, .string ⟨#[]⟩, .int .i64 0, .int .i64 0, .bool false, .string ⟨#[]⟩, .bool false, .int .i64 0, .int .i64 n, .slice none 0 0, .slice none 0 0]) ∧ Below w.heap.size w w' := by
  go_enter Try.func33, Try.ntmps33
  go_step
  go_step
  go_cut [1, 2] (fun s1 s2 W => s1 = .pointer (some ⟨w.heap.size, 0, none⟩) ∧ s2 = .pointer (some ⟨w.heap.size + 1, 0, none⟩) ∧ hp W w.heap.size = some (.cells #[.int .i64 11, .int .i64 node, .int .i64 inc, .int .i64 ses, .int .i64 tx, .int .i64 seq, .string key, .int .i64 lo, .int .i64 hi, .bool has, .string data, .bool hit, .int .i64 err, .int .i64 n, .slice wp wn wq, .slice kp kn kq] 30 (0, 0)) ∧ hp W (w.heap.size + 1) = some (.cells Z30 30 (0, 0)) ∧ W.heap.size = w.heap.size + 2 ∧ Below w.heap.size w W)
  case first =>
    go_wp2
    go_meet
    case rel => exact ⟨rfl, rfl, by rw [hpA, if_neg (by simp), hpA, if_pos rfl], by rw [hpA, if_pos (by simp)]; rfl, by simp, (by (repeat (first | (with_reducible exact Below.refl _ _) | (with_reducible refine below_drew ?_) | (with_reducible refine below_alloc ?_ _))))⟩
  case rest =>
  obtain ⟨rfl, rfl, k1, k2, hsz, hBW⟩ := hcut
  generalize hb1 : w.heap.size = b1 at *
  rename World => w1
  have c0 : w1.cell? ⟨b1, 0, none⟩ = some (.int .i64 11) := hp_cell k1 0
  go_step
  go_step
  go_cut [3] (fun s3 W => s3 = .pointer (some ⟨b1 + 2, 0, none⟩) ∧ hp W b1 = some (.cells #[.int .i64 11, .int .i64 node, .int .i64 inc, .int .i64 ses, .int .i64 tx, .int .i64 seq, .string key, .int .i64 lo, .int .i64 hi, .bool has, .string data, .bool hit, .int .i64 err, .int .i64 n, .slice wp wn wq, .slice kp kn kq] 30 (0, 0)) ∧ hp W (b1 + 1) = some (.cells Z30 30 (0, 0)) ∧ hp W (b1 + 2) = some (.cells #[.int .i64 11, .int .i64 0, .int .i64 0, .int .i64 0, .int .i64 0, .int .i64 0, .string ⟨#[]⟩, .int .i64 0, .int .i64 0, .bool false, .string ⟨#[]⟩, .bool false, .int .i64 0, .int .i64 0, .slice none 0 0, .slice none 0 0] 30 (0, 0)) ∧ Below w1.heap.size w1 W)
  case first =>
    iterate 10 go_step
    refine al_op rfl rfl ?_
    simp only [Act.put, List.setIfInBounds_toArray, List.set_cons_zero, List.set_cons_succ]
    refine st_op rfl (.tmp 3) (.tmp 6) rfl w1.heap.size _ rfl rfl Z30 (hp_alloc_new _ _) rfl rfl (by simp [Value.oneCell']) ?_
    simp only [Act.put, List.setIfInBounds_toArray, List.set_cons_zero, List.set_cons_succ]
    go_wp2
    go_meet
    case rel => exact ⟨by rw [hsz], hp_row_ne (hp_alloc_old k1 _) (by omega), hp_row_ne (hp_alloc_old k2 _) (by omega), by have := hp_row (cs' := #[.int .i64 11, .int .i64 0, .int .i64 0, .int .i64 0, .int .i64 0, .int .i64 0, .string ⟨#[]⟩, .int .i64 0, .int .i64 0, .bool false, .string ⟨#[]⟩, .bool false, .int .i64 0, .int .i64 0, .slice none 0 0, .slice none 0 0]) (hp_alloc_new w1 (.cells Z30 30)); rw [hsz] at this; rw [hsz]; exact this, below_row (by (repeat (first | (with_reducible exact Below.refl _ _) | (with_reducible refine below_drew ?_) | (with_reducible refine below_alloc ?_ _)))) (Nat.le_refl _) _⟩
  case rest =>
  obtain ⟨rfl, k1', k2', k3', hB2⟩ := hcut
  clear k1 k2 c0
  rename World => w2
  have hBW2 : Below b1 w w2 := by rw [← hb1] at *; exact below_call hBW hB2
  clear hBW hB2
  go_step
  go_step
  have c1 := hp_cell k1'
  have c3 := hp_cell k3'
  have f3 := hp_free k3'
  have n1 : ¬ b1 = b1 + 2 := by omega
  have n2 : ¬ b1 + 1 = b1 + 2 := by omega
  have n3 : ¬ b1 + 2 = b1 := by omega
  have n4 : ¬ b1 + 2 = b1 + 1 := by omega
  go_cut [0] (fun s0 W => hp W (b1 + 1) = some (.cells Z30 30 (0, 0)) ∧ hp W (b1 + 2) = some (.cells #[.int .i64 11, .int .i64 node, .int .i64 inc, .int .i64 0, .int .i64 0, .int .i64 0, .string ⟨#[]⟩, .int .i64 0, .int .i64 0, .bool false, .string ⟨#[]⟩, .bool false, .int .i64 0, .int .i64 n, .slice none 0 0, .slice none 0 0] 30 (0, 0)) ∧ Below b1 w W)
  case first =>
    go_wp2
    obtain ⟨RR, hRR⟩ : ∃ RR : Nat → Array Value, RR = fun k => ([#[.int .i64 11, .int .i64 0, .int .i64 0, .int .i64 0, .int .i64 0, .int .i64 0, .string ⟨#[]⟩, .int .i64 0, .int .i64 0, .bool false, .string ⟨#[]⟩, .bool false, .int .i64 0, .int .i64 0, .slice none 0 0, .slice none 0 0], #[.int .i64 11, .int .i64 node, .int .i64 0, .int .i64 0, .int .i64 0, .int .i64 0, .string ⟨#[]⟩, .int .i64 0, .int .i64 0, .bool false, .string ⟨#[]⟩, .bool false, .int .i64 0, .int .i64 0, .slice none 0 0, .slice none 0 0], #[.int .i64 11, .int .i64 node, .int .i64 inc, .int .i64 0, .int .i64 0, .int .i64 0, .string ⟨#[]⟩, .int .i64 0, .int .i64 0, .bool false, .string ⟨#[]⟩, .bool false, .int .i64 0, .int .i64 0, .slice none 0 0, .slice none 0 0], #[.int .i64 11, .int .i64 node, .int .i64 inc, .int .i64 0, .int .i64 0, .int .i64 0, .string ⟨#[]⟩, .int .i64 0, .int .i64 0, .bool false, .string ⟨#[]⟩, .bool false, .int .i64 0, .int .i64 n, .slice none 0 0, .slice none 0 0]] : List (Array Value)).getD k #[] := ⟨_, rfl⟩
    have HRR := Lib.hid hRR; clear hRR
    refine Ph.region_at (by kernel_rfl) ?_
    refine Ph.at_stage 12 (fun i => if i < 0 then (0, 100, 0) else ([(0, 0, 0), (0, 0, 0), (0, 1, 0), (0, 1, 0), (0, 2, 0), (0, 2, 0), (0, 0, 0), (0, 0, 1), (1, 1, 0), (1, 1, 1), (2, 2, 0), (2, 2, 1)] : List (Nat × Nat × Nat)).getD (i - 0) (0, 0, 0)) (fun k W => hp W b1 = some (.cells #[.int .i64 11, .int .i64 node, .int .i64 inc, .int .i64 ses, .int .i64 tx, .int .i64 seq, .string key, .int .i64 lo, .int .i64 hi, .bool has, .string data, .bool hit, .int .i64 err, .int .i64 n, .slice wp wn wq, .slice kp kn kq] 30 (0, 0)) ∧ hp W (b1 + 1) = some (.cells Z30 30 (0, 0)) ∧ hp W (b1 + 2) = some (.cells (RR k) 30 (0, 0)) ∧ Below b1 w W) (by kernel_rfl) (by kernel_rfl) ⟨hp_below (below_drew (Below.refl _ _)) k1', hp_below (below_drew (Below.refl _ _)) k2', by rw [HRR.out]; exact hp_below (below_drew (Below.refl _ _)) k3', below_drewB hBW2⟩ ?_
    simp only [List.take_succ_cons, List.take_zero, List.drop_succ_cons, List.drop_zero]
    apply Ph.wpPh_q (mono5 hb1) 0 0 rfl rfl; (focus (intro k0 hk1 hk2 w1 hS0; go_simp; first | exact rfl | exact ⟨rfl, Below.refl _ _⟩)); simp only [Act.put, List.setIfInBounds_toArray, List.set_cons_zero, List.set_cons_succ]
    apply Ph.wpPh_q (mono5 hb1) 0 0 rfl rfl; (focus (intro k0 hk1 hk2 w1 hS0; have hc := hp_cell hS0.1; clear hS0; go_simp; first | exact rfl | exact ⟨rfl, Below.refl _ _⟩)); simp only [Act.put, List.setIfInBounds_toArray, List.set_cons_zero, List.set_cons_succ]
    apply Ph.wpPh_q (mono5 hb1) 0 1 rfl rfl; (focus (intro k0 hk1 hk2 w1 hS0; go_simp; first | exact rfl | exact ⟨rfl, Below.refl _ _⟩)); simp only [Act.put, List.setIfInBounds_toArray, List.set_cons_zero, List.set_cons_succ]
    apply Ph.wpPh_q (mono5 hb1) 0 1 rfl rfl; (focus (intro k0 hk1 hk2 w1 hS0; have hc := hp_cell hS0.1; clear hS0; go_simp; first | exact rfl | exact ⟨rfl, Below.refl _ _⟩)); simp only [Act.put, List.setIfInBounds_toArray, List.set_cons_zero, List.set_cons_succ]
    apply Ph.wpPh_q (mono5 hb1) 0 2 rfl rfl; (focus (intro k0 hk1 hk2 w1 hS0; go_simp; first | exact rfl | exact ⟨rfl, Below.refl _ _⟩)); simp only [Act.put, List.setIfInBounds_toArray, List.set_cons_zero, List.set_cons_succ]
    apply Ph.wpPh_q (mono5 hb1) 0 2 rfl rfl; (focus (intro k0 hk1 hk2 w1 hS0; have hc := hp_cell hS0.1; clear hS0; go_simp; first | exact rfl | exact ⟨rfl, Below.refl _ _⟩)); simp only [Act.put, List.setIfInBounds_toArray, List.set_cons_zero, List.set_cons_succ]
    apply Ph.wpPh_q (mono5 hb1) 0 0 rfl rfl; (focus (intro k0 hk1 hk2 w1 hS0; go_simp; first | exact rfl | exact ⟨rfl, Below.refl _ _⟩)); simp only [Act.put, List.setIfInBounds_toArray, List.set_cons_zero, List.set_cons_succ]
    apply Ph.wpPh_e 0 rfl rfl; (focus (intro w1 hS0; obtain ⟨hq1, hq2, hq3, hqb⟩ := hS0; replace hq3 : hp w1 (b1 + 2) = some (.cells #[.int .i64 11, .int .i64 0, .int .i64 0, .int .i64 0, .int .i64 0, .int .i64 0, .string ⟨#[]⟩, .int .i64 0, .int .i64 0, .bool false, .string ⟨#[]⟩, .bool false, .int .i64 0, .int .i64 0, .slice none 0 0, .slice none 0 0] 30 (0, 0)) := (by rw [HRR.out] at hq3; exact hq3); have hc := hp_cell hq3; have hf := hp_free hq3; have HQ := Lib.hid (And.intro hq1 (And.intro hq2 (And.intro hq3 hqb))); clear hq1 hq2 hq3 hqb; go_simp; obtain ⟨hq1, hq2, hq3, hqb⟩ := HQ.out; exact ⟨rfl, (hp_set_ne hq1 (p := ⟨b1 + 2, 1, none⟩) n1 (.int .i64 node)), (hp_set_ne hq2 (p := ⟨b1 + 2, 1, none⟩) n2 (.int .i64 node)), by rw [HRR.out]; exact (hp_set hq3 (.int .i64 node)), (below_setB hqb (p := ⟨b1 + 2, 1, none⟩) (by show b1 ≤ b1 + 2; omega) (.int .i64 node))⟩)); simp only [Act.put, List.setIfInBounds_toArray, List.set_cons_zero, List.set_cons_succ]
    apply Ph.wpPh_q (mono5 hb1) 1 1 rfl rfl; (focus (intro k0 hk1 hk2 w1 hS0; go_simp; first | exact rfl | exact ⟨rfl, Below.refl _ _⟩)); simp only [Act.put, List.setIfInBounds_toArray, List.set_cons_zero, List.set_cons_succ]
    apply Ph.wpPh_e 1 rfl rfl; (focus (intro w1 hS0; obtain ⟨hq1, hq2, hq3, hqb⟩ := hS0; replace hq3 : hp w1 (b1 + 2) = some (.cells #[.int .i64 11, .int .i64 node, .int .i64 0, .int .i64 0, .int .i64 0, .int .i64 0, .string ⟨#[]⟩, .int .i64 0, .int .i64 0, .bool false, .string ⟨#[]⟩, .bool false, .int .i64 0, .int .i64 0, .slice none 0 0, .slice none 0 0] 30 (0, 0)) := (by rw [HRR.out] at hq3; exact hq3); have hc := hp_cell hq3; have hf := hp_free hq3; have HQ := Lib.hid (And.intro hq1 (And.intro hq2 (And.intro hq3 hqb))); clear hq1 hq2 hq3 hqb; go_simp; obtain ⟨hq1, hq2, hq3, hqb⟩ := HQ.out; exact ⟨rfl, (hp_set_ne hq1 (p := ⟨b1 + 2, 2, none⟩) n1 (.int .i64 inc)), (hp_set_ne hq2 (p := ⟨b1 + 2, 2, none⟩) n2 (.int .i64 inc)), by rw [HRR.out]; exact (hp_set hq3 (.int .i64 inc)), (below_setB hqb (p := ⟨b1 + 2, 2, none⟩) (by show b1 ≤ b1 + 2; omega) (.int .i64 inc))⟩)); simp only [Act.put, List.setIfInBounds_toArray, List.set_cons_zero, List.set_cons_succ]
    apply Ph.wpPh_q (mono5 hb1) 2 2 rfl rfl; (focus (intro k0 hk1 hk2 w1 hS0; go_simp; first | exact rfl | exact ⟨rfl, Below.refl _ _⟩)); simp only [Act.put, List.setIfInBounds_toArray, List.set_cons_zero, List.set_cons_succ]
    apply Ph.wpPh_e 2 rfl rfl; (focus (intro w1 hS0; obtain ⟨hq1, hq2, hq3, hqb⟩ := hS0; replace hq3 : hp w1 (b1 + 2) = some (.cells #[.int .i64 11, .int .i64 node, .int .i64 inc, .int .i64 0, .int .i64 0, .int .i64 0, .string ⟨#[]⟩, .int .i64 0, .int .i64 0, .bool false, .string ⟨#[]⟩, .bool false, .int .i64 0, .int .i64 0, .slice none 0 0, .slice none 0 0] 30 (0, 0)) := (by rw [HRR.out] at hq3; exact hq3); have hc := hp_cell hq3; have hf := hp_free hq3; have HQ := Lib.hid (And.intro hq1 (And.intro hq2 (And.intro hq3 hqb))); clear hq1 hq2 hq3 hqb; go_simp; obtain ⟨hq1, hq2, hq3, hqb⟩ := HQ.out; exact ⟨rfl, (hp_set_ne hq1 (p := ⟨b1 + 2, 13, none⟩) n1 (.int .i64 n)), (hp_set_ne hq2 (p := ⟨b1 + 2, 13, none⟩) n2 (.int .i64 n)), by rw [HRR.out]; exact (hp_set hq3 (.int .i64 n)), (below_setB hqb (p := ⟨b1 + 2, 13, none⟩) (by show b1 ≤ b1 + 2; omega) (.int .i64 n))⟩)); simp only [Act.put, List.setIfInBounds_toArray, List.set_cons_zero, List.set_cons_succ]
    refine Ph.wpPh_nil ?_; intro w3 hS3
    refine Ph.at_end (by simp) ?_
    obtain ⟨q1, q2, q3, qb⟩ := (show (fun (k : Nat) (W : World) => hp W b1 = some (.cells #[.int .i64 11, .int .i64 node, .int .i64 inc, .int .i64 ses, .int .i64 tx, .int .i64 seq, .string key, .int .i64 lo, .int .i64 hi, .bool has, .string data, .bool hit, .int .i64 err, .int .i64 n, .slice wp wn wq, .slice kp kn kq] 30 (0, 0)) ∧ hp W (b1 + 1) = some (.cells Z30 30 (0, 0)) ∧ hp W (b1 + 2) = some (.cells (RR k) 30 (0, 0)) ∧ Below b1 w W) 3 w3 from hS3)
    replace q3 : hp w3 (b1 + 2) = some (.cells #[.int .i64 11, .int .i64 node, .int .i64 inc, .int .i64 0, .int .i64 0, .int .i64 0, .string ⟨#[]⟩, .int .i64 0, .int .i64 0, .bool false, .string ⟨#[]⟩, .bool false, .int .i64 0, .int .i64 n, .slice none 0 0, .slice none 0 0] 30 (0, 0)) := by rw [HRR.out] at q3; exact q3
    clear hS3 HRR RR
    clear c1 c3 f3
    have c1 := hp_cell q1
    go_wp2
    go_meet
    exact ⟨q2, q3, qb⟩
  case rest =>
  obtain ⟨q2, q3, hB3⟩ := hcut
  go_step
  go_step
  go_step
  refine ld_op rfl (.tmp 3) rfl (b1 + 2) rfl _ q3 rfl ?_
  simp only [Act.put, List.setIfInBounds_toArray, List.set_cons_zero, List.set_cons_succ]
  refine st_op rfl (.tmp 2) (.tmp 159) rfl (b1 + 1) _ rfl rfl Z30 q2 rfl rfl (by simp [Value.oneCell']) ?_
  simp only [Act.put, List.setIfInBounds_toArray, List.set_cons_zero, List.set_cons_succ]
  go_wp2
  refine bodyPost_ret (res30 rfl rfl (hp_row q2) rfl) rfl ⟨rfl, ?_⟩
  rw [hb1]
  subst hb1
  exact below_row hB3 (by omega) _

set_option maxHeartbeats 4000000 in
theorem o_only_4t (node inc ses tx seq lo hi err n : Int) (key data : ByteArray) (has hit : Bool) (wp kp : Option Addr) (wn wq kn kq : Nat) (w : World) : Calls Try.prog 33 #[.agg #[.int .i64 4, .int .i64 node, .int .i64 inc, .int .i64 ses, .int .i64 tx, .int .i64 seq, .string key, .int .i64 lo, .int .i64 hi, .bool has, .string data, .bool true, .int .i64 err, .int .i64 n, .slice wp wn wq, .slice kp kn kq]] w fun e w' => e = .returned (.agg #[.int .i64 4, .int .i64 0, .int .i64 0, .int .i64 0, .int .i64 tx, .int .i64 seq, .string ⟨#[]⟩, .int .i64 lo, .int .i64 hi, .bool has, .string data, .bool true, .int .i64 0, .int .i64 0, .slice none 0 0, .slice none 0 0]) ∧ Below w.heap.size w w' := by
  go_enter Try.func33, Try.ntmps33
  go_step
  go_step
  go_cut [1, 2] (fun s1 s2 W => s1 = .pointer (some ⟨w.heap.size, 0, none⟩) ∧ s2 = .pointer (some ⟨w.heap.size + 1, 0, none⟩) ∧ hp W w.heap.size = some (.cells #[.int .i64 4, .int .i64 node, .int .i64 inc, .int .i64 ses, .int .i64 tx, .int .i64 seq, .string key, .int .i64 lo, .int .i64 hi, .bool has, .string data, .bool true, .int .i64 err, .int .i64 n, .slice wp wn wq, .slice kp kn kq] 30 (0, 0)) ∧ hp W (w.heap.size + 1) = some (.cells Z30 30 (0, 0)) ∧ W.heap.size = w.heap.size + 2 ∧ Below w.heap.size w W)
  case first =>
    go_wp2
    go_meet
    case rel => exact ⟨rfl, rfl, by rw [hpA, if_neg (by simp), hpA, if_pos rfl], by rw [hpA, if_pos (by simp)]; rfl, by simp, (by (repeat (first | (with_reducible exact Below.refl _ _) | (with_reducible refine below_drew ?_) | (with_reducible refine below_alloc ?_ _))))⟩
  case rest =>
  obtain ⟨rfl, rfl, k1, k2, hsz, hBW⟩ := hcut
  generalize hb1 : w.heap.size = b1 at *
  rename World => w1
  have c0 : w1.cell? ⟨b1, 0, none⟩ = some (.int .i64 4) := hp_cell k1 0
  go_step
  go_step
  go_cut [3] (fun s3 W => s3 = .pointer (some ⟨b1 + 2, 0, none⟩) ∧ hp W b1 = some (.cells #[.int .i64 4, .int .i64 node, .int .i64 inc, .int .i64 ses, .int .i64 tx, .int .i64 seq, .string key, .int .i64 lo, .int .i64 hi, .bool has, .string data, .bool true, .int .i64 err, .int .i64 n, .slice wp wn wq, .slice kp kn kq] 30 (0, 0)) ∧ hp W (b1 + 1) = some (.cells Z30 30 (0, 0)) ∧ hp W (b1 + 2) = some (.cells #[.int .i64 4, .int .i64 0, .int .i64 0, .int .i64 0, .int .i64 0, .int .i64 0, .string ⟨#[]⟩, .int .i64 0, .int .i64 0, .bool false, .string ⟨#[]⟩, .bool false, .int .i64 0, .int .i64 0, .slice none 0 0, .slice none 0 0] 30 (0, 0)) ∧ Below w1.heap.size w1 W)
  case first =>
    iterate 10 go_step
    refine al_op rfl rfl ?_
    simp only [Act.put, List.setIfInBounds_toArray, List.set_cons_zero, List.set_cons_succ]
    refine st_op rfl (.tmp 3) (.tmp 6) rfl w1.heap.size _ rfl rfl Z30 (hp_alloc_new _ _) rfl rfl (by simp [Value.oneCell']) ?_
    simp only [Act.put, List.setIfInBounds_toArray, List.set_cons_zero, List.set_cons_succ]
    go_wp2
    go_meet
    case rel => exact ⟨by rw [hsz], hp_row_ne (hp_alloc_old k1 _) (by omega), hp_row_ne (hp_alloc_old k2 _) (by omega), by have := hp_row (cs' := #[.int .i64 4, .int .i64 0, .int .i64 0, .int .i64 0, .int .i64 0, .int .i64 0, .string ⟨#[]⟩, .int .i64 0, .int .i64 0, .bool false, .string ⟨#[]⟩, .bool false, .int .i64 0, .int .i64 0, .slice none 0 0, .slice none 0 0]) (hp_alloc_new w1 (.cells Z30 30)); rw [hsz] at this; rw [hsz]; exact this, below_row (by (repeat (first | (with_reducible exact Below.refl _ _) | (with_reducible refine below_drew ?_) | (with_reducible refine below_alloc ?_ _)))) (Nat.le_refl _) _⟩
  case rest =>
  obtain ⟨rfl, k1', k2', k3', hB2⟩ := hcut
  clear k1 k2 c0
  rename World => w2
  have hBW2 : Below b1 w w2 := by rw [← hb1] at *; exact below_call hBW hB2
  clear hBW hB2
  go_step
  go_step
  have c1 := hp_cell k1'
  have c3 := hp_cell k3'
  have f3 := hp_free k3'
  have n1 : ¬ b1 = b1 + 2 := by omega
  have n2 : ¬ b1 + 1 = b1 + 2 := by omega
  have n3 : ¬ b1 + 2 = b1 := by omega
  have n4 : ¬ b1 + 2 = b1 + 1 := by omega
  go_cut [0] (fun s0 W => hp W (b1 + 1) = some (.cells Z30 30 (0, 0)) ∧ hp W (b1 + 2) = some (.cells #[.int .i64 4, .int .i64 0, .int .i64 0, .int .i64 0, .int .i64 tx, .int .i64 seq, .string ⟨#[]⟩, .int .i64 lo, .int .i64 hi, .bool has, .string data, .bool true, .int .i64 0, .int .i64 0, .slice none 0 0, .slice none 0 0] 30 (0, 0)) ∧ Below b1 w W)
  case first =>
    go_wp2
    obtain ⟨RR, hRR⟩ : ∃ RR : Nat → Array Value, RR = fun k => ([#[.int .i64 4, .int .i64 0, .int .i64 0, .int .i64 0, .int .i64 0, .int .i64 0, .string ⟨#[]⟩, .int .i64 0, .int .i64 0, .bool false, .string ⟨#[]⟩, .bool false, .int .i64 0, .int .i64 0, .slice none 0 0, .slice none 0 0], #[.int .i64 4, .int .i64 0, .int .i64 0, .int .i64 0, .int .i64 tx, .int .i64 0, .string ⟨#[]⟩, .int .i64 0, .int .i64 0, .bool false, .string ⟨#[]⟩, .bool false, .int .i64 0, .int .i64 0, .slice none 0 0, .slice none 0 0], #[.int .i64 4, .int .i64 0, .int .i64 0, .int .i64 0, .int .i64 tx, .int .i64 seq, .string ⟨#[]⟩, .int .i64 0, .int .i64 0, .bool false, .string ⟨#[]⟩, .bool false, .int .i64 0, .int .i64 0, .slice none 0 0, .slice none 0 0], #[.int .i64 4, .int .i64 0, .int .i64 0, .int .i64 0, .int .i64 tx, .int .i64 seq, .string ⟨#[]⟩, .int .i64 0, .int .i64 0, .bool false, .string ⟨#[]⟩, .bool true, .int .i64 0, .int .i64 0, .slice none 0 0, .slice none 0 0]] : List (Array Value)).getD k #[] := ⟨_, rfl⟩
    have HRR := Lib.hid hRR; clear hRR
    refine Ph.region_at (by kernel_rfl) ?_
    refine Ph.at_stage 12 (fun i => if i < 0 then (0, 100, 0) else ([(0, 0, 0), (0, 0, 0), (0, 1, 0), (0, 1, 0), (0, 2, 0), (0, 2, 0), (0, 0, 0), (0, 0, 1), (1, 1, 0), (1, 1, 1), (2, 2, 0), (2, 2, 1)] : List (Nat × Nat × Nat)).getD (i - 0) (0, 0, 0)) (fun k W => hp W b1 = some (.cells #[.int .i64 4, .int .i64 node, .int .i64 inc, .int .i64 ses, .int .i64 tx, .int .i64 seq, .string key, .int .i64 lo, .int .i64 hi, .bool has, .string data, .bool true, .int .i64 err, .int .i64 n, .slice wp wn wq, .slice kp kn kq] 30 (0, 0)) ∧ hp W (b1 + 1) = some (.cells Z30 30 (0, 0)) ∧ hp W (b1 + 2) = some (.cells (RR k) 30 (0, 0)) ∧ Below b1 w W) (by kernel_rfl) (by kernel_rfl) ⟨hp_below (below_drew (Below.refl _ _)) k1', hp_below (below_drew (Below.refl _ _)) k2', by rw [HRR.out]; exact hp_below (below_drew (Below.refl _ _)) k3', below_drewB hBW2⟩ ?_
    simp only [List.take_succ_cons, List.take_zero, List.drop_succ_cons, List.drop_zero]
    apply Ph.wpPh_q (mono5 hb1) 0 0 rfl rfl; (focus (intro k0 hk1 hk2 w1 hS0; go_simp; first | exact rfl | exact ⟨rfl, Below.refl _ _⟩)); simp only [Act.put, List.setIfInBounds_toArray, List.set_cons_zero, List.set_cons_succ]
    apply Ph.wpPh_q (mono5 hb1) 0 0 rfl rfl; (focus (intro k0 hk1 hk2 w1 hS0; have hc := hp_cell hS0.1; clear hS0; go_simp; first | exact rfl | exact ⟨rfl, Below.refl _ _⟩)); simp only [Act.put, List.setIfInBounds_toArray, List.set_cons_zero, List.set_cons_succ]
    apply Ph.wpPh_q (mono5 hb1) 0 1 rfl rfl; (focus (intro k0 hk1 hk2 w1 hS0; go_simp; first | exact rfl | exact ⟨rfl, Below.refl _ _⟩)); simp only [Act.put, List.setIfInBounds_toArray, List.set_cons_zero, List.set_cons_succ]
    apply Ph.wpPh_q (mono5 hb1) 0 1 rfl rfl; (focus (intro k0 hk1 hk2 w1 hS0; have hc := hp_cell hS0.1; clear hS0; go_simp; first | exact rfl | exact ⟨rfl, Below.refl _ _⟩)); simp only [Act.put, List.setIfInBounds_toArray, List.set_cons_zero, List.set_cons_succ]
    apply Ph.wpPh_q (mono5 hb1) 0 2 rfl rfl; (focus (intro k0 hk1 hk2 w1 hS0; go_simp; first | exact rfl | exact ⟨rfl, Below.refl _ _⟩)); simp only [Act.put, List.setIfInBounds_toArray, List.set_cons_zero, List.set_cons_succ]
    apply Ph.wpPh_q (mono5 hb1) 0 2 rfl rfl; (focus (intro k0 hk1 hk2 w1 hS0; have hc := hp_cell hS0.1; clear hS0; go_simp; first | exact rfl | exact ⟨rfl, Below.refl _ _⟩)); simp only [Act.put, List.setIfInBounds_toArray, List.set_cons_zero, List.set_cons_succ]
    apply Ph.wpPh_q (mono5 hb1) 0 0 rfl rfl; (focus (intro k0 hk1 hk2 w1 hS0; go_simp; first | exact rfl | exact ⟨rfl, Below.refl _ _⟩)); simp only [Act.put, List.setIfInBounds_toArray, List.set_cons_zero, List.set_cons_succ]
    apply Ph.wpPh_e 0 rfl rfl; (focus (intro w1 hS0; obtain ⟨hq1, hq2, hq3, hqb⟩ := hS0; replace hq3 : hp w1 (b1 + 2) = some (.cells #[.int .i64 4, .int .i64 0, .int .i64 0, .int .i64 0, .int .i64 0, .int .i64 0, .string ⟨#[]⟩, .int .i64 0, .int .i64 0, .bool false, .string ⟨#[]⟩, .bool false, .int .i64 0, .int .i64 0, .slice none 0 0, .slice none 0 0] 30 (0, 0)) := (by rw [HRR.out] at hq3; exact hq3); have hc := hp_cell hq3; have hf := hp_free hq3; have HQ := Lib.hid (And.intro hq1 (And.intro hq2 (And.intro hq3 hqb))); clear hq1 hq2 hq3 hqb; go_simp; obtain ⟨hq1, hq2, hq3, hqb⟩ := HQ.out; exact ⟨rfl, (hp_set_ne hq1 (p := ⟨b1 + 2, 4, none⟩) n1 (.int .i64 tx)), (hp_set_ne hq2 (p := ⟨b1 + 2, 4, none⟩) n2 (.int .i64 tx)), by rw [HRR.out]; exact (hp_set hq3 (.int .i64 tx)), (below_setB hqb (p := ⟨b1 + 2, 4, none⟩) (by show b1 ≤ b1 + 2; omega) (.int .i64 tx))⟩)); simp only [Act.put, List.setIfInBounds_toArray, List.set_cons_zero, List.set_cons_succ]
    apply Ph.wpPh_q (mono5 hb1) 1 1 rfl rfl; (focus (intro k0 hk1 hk2 w1 hS0; go_simp; first | exact rfl | exact ⟨rfl, Below.refl _ _⟩)); simp only [Act.put, List.setIfInBounds_toArray, List.set_cons_zero, List.set_cons_succ]
    apply Ph.wpPh_e 1 rfl rfl; (focus (intro w1 hS0; obtain ⟨hq1, hq2, hq3, hqb⟩ := hS0; replace hq3 : hp w1 (b1 + 2) = some (.cells #[.int .i64 4, .int .i64 0, .int .i64 0, .int .i64 0, .int .i64 tx, .int .i64 0, .string ⟨#[]⟩, .int .i64 0, .int .i64 0, .bool false, .string ⟨#[]⟩, .bool false, .int .i64 0, .int .i64 0, .slice none 0 0, .slice none 0 0] 30 (0, 0)) := (by rw [HRR.out] at hq3; exact hq3); have hc := hp_cell hq3; have hf := hp_free hq3; have HQ := Lib.hid (And.intro hq1 (And.intro hq2 (And.intro hq3 hqb))); clear hq1 hq2 hq3 hqb; go_simp; obtain ⟨hq1, hq2, hq3, hqb⟩ := HQ.out; exact ⟨rfl, (hp_set_ne hq1 (p := ⟨b1 + 2, 5, none⟩) n1 (.int .i64 seq)), (hp_set_ne hq2 (p := ⟨b1 + 2, 5, none⟩) n2 (.int .i64 seq)), by rw [HRR.out]; exact (hp_set hq3 (.int .i64 seq)), (below_setB hqb (p := ⟨b1 + 2, 5, none⟩) (by show b1 ≤ b1 + 2; omega) (.int .i64 seq))⟩)); simp only [Act.put, List.setIfInBounds_toArray, List.set_cons_zero, List.set_cons_succ]
    apply Ph.wpPh_q (mono5 hb1) 2 2 rfl rfl; (focus (intro k0 hk1 hk2 w1 hS0; go_simp; first | exact rfl | exact ⟨rfl, Below.refl _ _⟩)); simp only [Act.put, List.setIfInBounds_toArray, List.set_cons_zero, List.set_cons_succ]
    apply Ph.wpPh_e 2 rfl rfl; (focus (intro w1 hS0; obtain ⟨hq1, hq2, hq3, hqb⟩ := hS0; replace hq3 : hp w1 (b1 + 2) = some (.cells #[.int .i64 4, .int .i64 0, .int .i64 0, .int .i64 0, .int .i64 tx, .int .i64 seq, .string ⟨#[]⟩, .int .i64 0, .int .i64 0, .bool false, .string ⟨#[]⟩, .bool false, .int .i64 0, .int .i64 0, .slice none 0 0, .slice none 0 0] 30 (0, 0)) := (by rw [HRR.out] at hq3; exact hq3); have hc := hp_cell hq3; have hf := hp_free hq3; have HQ := Lib.hid (And.intro hq1 (And.intro hq2 (And.intro hq3 hqb))); clear hq1 hq2 hq3 hqb; go_simp; obtain ⟨hq1, hq2, hq3, hqb⟩ := HQ.out; exact ⟨rfl, (hp_set_ne hq1 (p := ⟨b1 + 2, 11, none⟩) n1 (.bool true)), (hp_set_ne hq2 (p := ⟨b1 + 2, 11, none⟩) n2 (.bool true)), by rw [HRR.out]; exact (hp_set hq3 (.bool true)), (below_setB hqb (p := ⟨b1 + 2, 11, none⟩) (by show b1 ≤ b1 + 2; omega) (.bool true))⟩)); simp only [Act.put, List.setIfInBounds_toArray, List.set_cons_zero, List.set_cons_succ]
    refine Ph.wpPh_nil ?_; intro w3 hS3
    refine Ph.at_end (by simp) ?_
    obtain ⟨q1, q2, q3, qb⟩ := (show (fun (k : Nat) (W : World) => hp W b1 = some (.cells #[.int .i64 4, .int .i64 node, .int .i64 inc, .int .i64 ses, .int .i64 tx, .int .i64 seq, .string key, .int .i64 lo, .int .i64 hi, .bool has, .string data, .bool true, .int .i64 err, .int .i64 n, .slice wp wn wq, .slice kp kn kq] 30 (0, 0)) ∧ hp W (b1 + 1) = some (.cells Z30 30 (0, 0)) ∧ hp W (b1 + 2) = some (.cells (RR k) 30 (0, 0)) ∧ Below b1 w W) 3 w3 from hS3)
    replace q3 : hp w3 (b1 + 2) = some (.cells #[.int .i64 4, .int .i64 0, .int .i64 0, .int .i64 0, .int .i64 tx, .int .i64 seq, .string ⟨#[]⟩, .int .i64 0, .int .i64 0, .bool false, .string ⟨#[]⟩, .bool true, .int .i64 0, .int .i64 0, .slice none 0 0, .slice none 0 0] 30 (0, 0)) := by rw [HRR.out] at q3; exact q3
    clear hS3 HRR RR
    clear c1 c3 f3 k1' k2' k3' hBW2
    have c1 := hp_cell q1
    go_wp2
    obtain ⟨RR, hRR⟩ : ∃ RR : Nat → Array Value, RR = fun k => ([#[.int .i64 4, .int .i64 0, .int .i64 0, .int .i64 0, .int .i64 tx, .int .i64 seq, .string ⟨#[]⟩, .int .i64 0, .int .i64 0, .bool false, .string ⟨#[]⟩, .bool true, .int .i64 0, .int .i64 0, .slice none 0 0, .slice none 0 0], #[.int .i64 4, .int .i64 0, .int .i64 0, .int .i64 0, .int .i64 tx, .int .i64 seq, .string ⟨#[]⟩, .int .i64 0, .int .i64 0, .bool has, .string data, .bool true, .int .i64 0, .int .i64 0, .slice none 0 0, .slice none 0 0], #[.int .i64 4, .int .i64 0, .int .i64 0, .int .i64 0, .int .i64 tx, .int .i64 seq, .string ⟨#[]⟩, .int .i64 lo, .int .i64 hi, .bool has, .string data, .bool true, .int .i64 0, .int .i64 0, .slice none 0 0, .slice none 0 0]] : List (Array Value)).getD k #[] := ⟨_, rfl⟩
    have HRR := Lib.hid hRR; clear hRR
    refine Ph.region_at (by kernel_rfl) ?_
    refine Ph.at_stage 8 (fun i => if i < 0 then (0, 100, 0) else ([(0, 0, 0), (0, 0, 0), (0, 1, 0), (0, 1, 0), (0, 0, 0), (0, 0, 1), (1, 1, 0), (1, 1, 1)] : List (Nat × Nat × Nat)).getD (i - 0) (0, 0, 0)) (fun k W => hp W b1 = some (.cells #[.int .i64 4, .int .i64 node, .int .i64 inc, .int .i64 ses, .int .i64 tx, .int .i64 seq, .string key, .int .i64 lo, .int .i64 hi, .bool has, .string data, .bool true, .int .i64 err, .int .i64 n, .slice wp wn wq, .slice kp kn kq] 30 (0, 0)) ∧ hp W (b1 + 1) = some (.cells Z30 30 (0, 0)) ∧ hp W (b1 + 2) = some (.cells (RR k) 30 (0, 0)) ∧ Below b1 w W) (by kernel_rfl) (by kernel_rfl) ⟨hp_below (below_drew (Below.refl _ _)) q1, hp_below (below_drew (Below.refl _ _)) q2, by rw [HRR.out]; exact hp_below (below_drew (Below.refl _ _)) q3, below_drewB qb⟩ ?_
    simp only [List.take_succ_cons, List.take_zero, List.drop_succ_cons, List.drop_zero]
    apply Ph.wpPh_q (mono5 hb1) 0 0 rfl rfl; (focus (intro k0 hk1 hk2 w1 hS0; go_simp; first | exact rfl | exact ⟨rfl, Below.refl _ _⟩)); simp only [Act.put, List.setIfInBounds_toArray, List.set_cons_zero, List.set_cons_succ]
    apply Ph.wpPh_q (mono5 hb1) 0 0 rfl rfl; (focus (intro k0 hk1 hk2 w1 hS0; have hc := hp_cell hS0.1; clear hS0; go_simp; first | exact rfl | exact ⟨rfl, Below.refl _ _⟩)); simp only [Act.put, List.setIfInBounds_toArray, List.set_cons_zero, List.set_cons_succ]
    apply Ph.wpPh_q (mono5 hb1) 0 1 rfl rfl; (focus (intro k0 hk1 hk2 w1 hS0; go_simp; first | exact rfl | exact ⟨rfl, Below.refl _ _⟩)); simp only [Act.put, List.setIfInBounds_toArray, List.set_cons_zero, List.set_cons_succ]
    apply Ph.wpPh_q (mono5 hb1) 0 1 rfl rfl; (focus (intro k0 hk1 hk2 w1 hS0; have hc := hp_cell hS0.1; clear hS0; go_simp; first | exact rfl | exact ⟨rfl, Below.refl _ _⟩)); simp only [Act.put, List.setIfInBounds_toArray, List.set_cons_zero, List.set_cons_succ]
    apply Ph.wpPh_q (mono5 hb1) 0 0 rfl rfl; (focus (intro k0 hk1 hk2 w1 hS0; go_simp; first | exact rfl | exact ⟨rfl, Below.refl _ _⟩)); simp only [Act.put, List.setIfInBounds_toArray, List.set_cons_zero, List.set_cons_succ]
    apply Ph.wpPh_e 0 rfl rfl; (focus (intro w1 hS0; obtain ⟨hq1, hq2, hq3, hqb⟩ := hS0; replace hq3 : hp w1 (b1 + 2) = some (.cells #[.int .i64 4, .int .i64 0, .int .i64 0, .int .i64 0, .int .i64 tx, .int .i64 seq, .string ⟨#[]⟩, .int .i64 0, .int .i64 0, .bool false, .string ⟨#[]⟩, .bool true, .int .i64 0, .int .i64 0, .slice none 0 0, .slice none 0 0] 30 (0, 0)) := (by rw [HRR.out] at hq3; exact hq3); have hc := hp_cell hq3; have hf := hp_free hq3; have HQ := Lib.hid (And.intro hq1 (And.intro hq2 (And.intro hq3 hqb))); clear hq1 hq2 hq3 hqb; go_simp; obtain ⟨hq1, hq2, hq3, hqb⟩ := HQ.out; exact ⟨rfl, (hp_set_ne (hp_set_ne hq1 (p := ⟨b1 + 2, 9, none⟩) n1 (.bool has)) (p := ⟨b1 + 2, 10, none⟩) n1 (.string data)), (hp_set_ne (hp_set_ne hq2 (p := ⟨b1 + 2, 9, none⟩) n2 (.bool has)) (p := ⟨b1 + 2, 10, none⟩) n2 (.string data)), by rw [HRR.out]; exact (hp_set (hp_set hq3 (.bool has)) (.string data)), (below_setB (below_setB hqb (p := ⟨b1 + 2, 9, none⟩) (by show b1 ≤ b1 + 2; omega) (.bool has)) (p := ⟨b1 + 2, 10, none⟩) (by show b1 ≤ b1 + 2; omega) (.string data))⟩)); simp only [Act.put, List.setIfInBounds_toArray, List.set_cons_zero, List.set_cons_succ]
    apply Ph.wpPh_q (mono5 hb1) 1 1 rfl rfl; (focus (intro k0 hk1 hk2 w1 hS0; go_simp; first | exact rfl | exact ⟨rfl, Below.refl _ _⟩)); simp only [Act.put, List.setIfInBounds_toArray, List.set_cons_zero, List.set_cons_succ]
    apply Ph.wpPh_e 1 rfl rfl; (focus (intro w1 hS0; obtain ⟨hq1, hq2, hq3, hqb⟩ := hS0; replace hq3 : hp w1 (b1 + 2) = some (.cells #[.int .i64 4, .int .i64 0, .int .i64 0, .int .i64 0, .int .i64 tx, .int .i64 seq, .string ⟨#[]⟩, .int .i64 0, .int .i64 0, .bool has, .string data, .bool true, .int .i64 0, .int .i64 0, .slice none 0 0, .slice none 0 0] 30 (0, 0)) := (by rw [HRR.out] at hq3; exact hq3); have hc := hp_cell hq3; have hf := hp_free hq3; have HQ := Lib.hid (And.intro hq1 (And.intro hq2 (And.intro hq3 hqb))); clear hq1 hq2 hq3 hqb; go_simp; obtain ⟨hq1, hq2, hq3, hqb⟩ := HQ.out; exact ⟨rfl, (hp_set_ne (hp_set_ne hq1 (p := ⟨b1 + 2, 7, none⟩) n1 (.int .i64 lo)) (p := ⟨b1 + 2, 8, none⟩) n1 (.int .i64 hi)), (hp_set_ne (hp_set_ne hq2 (p := ⟨b1 + 2, 7, none⟩) n2 (.int .i64 lo)) (p := ⟨b1 + 2, 8, none⟩) n2 (.int .i64 hi)), by rw [HRR.out]; exact (hp_set (hp_set hq3 (.int .i64 lo)) (.int .i64 hi)), (below_setB (below_setB hqb (p := ⟨b1 + 2, 7, none⟩) (by show b1 ≤ b1 + 2; omega) (.int .i64 lo)) (p := ⟨b1 + 2, 8, none⟩) (by show b1 ≤ b1 + 2; omega) (.int .i64 hi))⟩)); simp only [Act.put, List.setIfInBounds_toArray, List.set_cons_zero, List.set_cons_succ]
    refine Ph.wpPh_nil ?_; intro w4 hS3
    refine Ph.at_end (by simp) ?_
    obtain ⟨r1, r2, r3, rb⟩ := (show (fun (k : Nat) (W : World) => hp W b1 = some (.cells #[.int .i64 4, .int .i64 node, .int .i64 inc, .int .i64 ses, .int .i64 tx, .int .i64 seq, .string key, .int .i64 lo, .int .i64 hi, .bool has, .string data, .bool true, .int .i64 err, .int .i64 n, .slice wp wn wq, .slice kp kn kq] 30 (0, 0)) ∧ hp W (b1 + 1) = some (.cells Z30 30 (0, 0)) ∧ hp W (b1 + 2) = some (.cells (RR k) 30 (0, 0)) ∧ Below b1 w W) 2 w4 from hS3)
    replace r3 : hp w4 (b1 + 2) = some (.cells #[.int .i64 4, .int .i64 0, .int .i64 0, .int .i64 0, .int .i64 tx, .int .i64 seq, .string ⟨#[]⟩, .int .i64 lo, .int .i64 hi, .bool has, .string data, .bool true, .int .i64 0, .int .i64 0, .slice none 0 0, .slice none 0 0] 30 (0, 0)) := by rw [HRR.out] at r3; exact r3
    clear hS3 HRR RR
    go_wp2
    go_meet
    exact ⟨r2, r3, rb⟩
  case rest =>
  obtain ⟨q2, q3, hB3⟩ := hcut
  go_step
  go_step
  go_step
  refine ld_op rfl (.tmp 3) rfl (b1 + 2) rfl _ q3 rfl ?_
  simp only [Act.put, List.setIfInBounds_toArray, List.set_cons_zero, List.set_cons_succ]
  refine st_op rfl (.tmp 2) (.tmp 159) rfl (b1 + 1) _ rfl rfl Z30 q2 rfl rfl (by simp [Value.oneCell']) ?_
  simp only [Act.put, List.setIfInBounds_toArray, List.set_cons_zero, List.set_cons_succ]
  go_wp2
  refine bodyPost_ret (res30 rfl rfl (hp_row q2) rfl) rfl ⟨rfl, ?_⟩
  rw [hb1]
  subst hb1
  exact below_row hB3 (by omega) _

set_option maxHeartbeats 4000000 in
theorem o_only_4f (node inc ses tx seq lo hi err n : Int) (key data : ByteArray) (has hit : Bool) (wp kp : Option Addr) (wn wq kn kq : Nat) (w : World) : Calls Try.prog 33 #[.agg #[.int .i64 4, .int .i64 node, .int .i64 inc, .int .i64 ses, .int .i64 tx, .int .i64 seq, .string key, .int .i64 lo, .int .i64 hi, .bool has, .string data, .bool false, .int .i64 err, .int .i64 n, .slice wp wn wq, .slice kp kn kq]] w fun e w' => e = .returned (.agg #[.int .i64 4, .int .i64 0, .int .i64 0, .int .i64 0, .int .i64 tx, .int .i64 seq, .string ⟨#[]⟩, .int .i64 0, .int .i64 0, .bool false, .string ⟨#[]⟩, .bool false, .int .i64 0, .int .i64 0, .slice none 0 0, .slice none 0 0]) ∧ Below w.heap.size w w' := by
  go_enter Try.func33, Try.ntmps33
  go_step
  go_step
  go_cut [1, 2] (fun s1 s2 W => s1 = .pointer (some ⟨w.heap.size, 0, none⟩) ∧ s2 = .pointer (some ⟨w.heap.size + 1, 0, none⟩) ∧ hp W w.heap.size = some (.cells #[.int .i64 4, .int .i64 node, .int .i64 inc, .int .i64 ses, .int .i64 tx, .int .i64 seq, .string key, .int .i64 lo, .int .i64 hi, .bool has, .string data, .bool false, .int .i64 err, .int .i64 n, .slice wp wn wq, .slice kp kn kq] 30 (0, 0)) ∧ hp W (w.heap.size + 1) = some (.cells Z30 30 (0, 0)) ∧ W.heap.size = w.heap.size + 2 ∧ Below w.heap.size w W)
  case first =>
    go_wp2
    go_meet
    case rel => exact ⟨rfl, rfl, by rw [hpA, if_neg (by simp), hpA, if_pos rfl], by rw [hpA, if_pos (by simp)]; rfl, by simp, (by (repeat (first | (with_reducible exact Below.refl _ _) | (with_reducible refine below_drew ?_) | (with_reducible refine below_alloc ?_ _))))⟩
  case rest =>
  obtain ⟨rfl, rfl, k1, k2, hsz, hBW⟩ := hcut
  generalize hb1 : w.heap.size = b1 at *
  rename World => w1
  have c0 : w1.cell? ⟨b1, 0, none⟩ = some (.int .i64 4) := hp_cell k1 0
  go_step
  go_step
  go_cut [3] (fun s3 W => s3 = .pointer (some ⟨b1 + 2, 0, none⟩) ∧ hp W b1 = some (.cells #[.int .i64 4, .int .i64 node, .int .i64 inc, .int .i64 ses, .int .i64 tx, .int .i64 seq, .string key, .int .i64 lo, .int .i64 hi, .bool has, .string data, .bool false, .int .i64 err, .int .i64 n, .slice wp wn wq, .slice kp kn kq] 30 (0, 0)) ∧ hp W (b1 + 1) = some (.cells Z30 30 (0, 0)) ∧ hp W (b1 + 2) = some (.cells #[.int .i64 4, .int .i64 0, .int .i64 0, .int .i64 0, .int .i64 0, .int .i64 0, .string ⟨#[]⟩, .int .i64 0, .int .i64 0, .bool false, .string ⟨#[]⟩, .bool false, .int .i64 0, .int .i64 0, .slice none 0 0, .slice none 0 0] 30 (0, 0)) ∧ Below w1.heap.size w1 W)
  case first =>
    iterate 10 go_step
    refine al_op rfl rfl ?_
    simp only [Act.put, List.setIfInBounds_toArray, List.set_cons_zero, List.set_cons_succ]
    refine st_op rfl (.tmp 3) (.tmp 6) rfl w1.heap.size _ rfl rfl Z30 (hp_alloc_new _ _) rfl rfl (by simp [Value.oneCell']) ?_
    simp only [Act.put, List.setIfInBounds_toArray, List.set_cons_zero, List.set_cons_succ]
    go_wp2
    go_meet
    case rel => exact ⟨by rw [hsz], hp_row_ne (hp_alloc_old k1 _) (by omega), hp_row_ne (hp_alloc_old k2 _) (by omega), by have := hp_row (cs' := #[.int .i64 4, .int .i64 0, .int .i64 0, .int .i64 0, .int .i64 0, .int .i64 0, .string ⟨#[]⟩, .int .i64 0, .int .i64 0, .bool false, .string ⟨#[]⟩, .bool false, .int .i64 0, .int .i64 0, .slice none 0 0, .slice none 0 0]) (hp_alloc_new w1 (.cells Z30 30)); rw [hsz] at this; rw [hsz]; exact this, below_row (by (repeat (first | (with_reducible exact Below.refl _ _) | (with_reducible refine below_drew ?_) | (with_reducible refine below_alloc ?_ _)))) (Nat.le_refl _) _⟩
  case rest =>
  obtain ⟨rfl, k1', k2', k3', hB2⟩ := hcut
  clear k1 k2 c0
  rename World => w2
  have hBW2 : Below b1 w w2 := by rw [← hb1] at *; exact below_call hBW hB2
  clear hBW hB2
  go_step
  go_step
  have c1 := hp_cell k1'
  have c3 := hp_cell k3'
  have f3 := hp_free k3'
  have n1 : ¬ b1 = b1 + 2 := by omega
  have n2 : ¬ b1 + 1 = b1 + 2 := by omega
  have n3 : ¬ b1 + 2 = b1 := by omega
  have n4 : ¬ b1 + 2 = b1 + 1 := by omega
  go_cut [0] (fun s0 W => hp W (b1 + 1) = some (.cells Z30 30 (0, 0)) ∧ hp W (b1 + 2) = some (.cells #[.int .i64 4, .int .i64 0, .int .i64 0, .int .i64 0, .int .i64 tx, .int .i64 seq, .string ⟨#[]⟩, .int .i64 0, .int .i64 0, .bool false, .string ⟨#[]⟩, .bool false, .int .i64 0, .int .i64 0, .slice none 0 0, .slice none 0 0] 30 (0, 0)) ∧ Below b1 w W)
  case first =>
    go_wp2
    obtain ⟨RR, hRR⟩ : ∃ RR : Nat → Array Value, RR = fun k => ([#[.int .i64 4, .int .i64 0, .int .i64 0, .int .i64 0, .int .i64 0, .int .i64 0, .string ⟨#[]⟩, .int .i64 0, .int .i64 0, .bool false, .string ⟨#[]⟩, .bool false, .int .i64 0, .int .i64 0, .slice none 0 0, .slice none 0 0], #[.int .i64 4, .int .i64 0, .int .i64 0, .int .i64 0, .int .i64 tx, .int .i64 0, .string ⟨#[]⟩, .int .i64 0, .int .i64 0, .bool false, .string ⟨#[]⟩, .bool false, .int .i64 0, .int .i64 0, .slice none 0 0, .slice none 0 0], #[.int .i64 4, .int .i64 0, .int .i64 0, .int .i64 0, .int .i64 tx, .int .i64 seq, .string ⟨#[]⟩, .int .i64 0, .int .i64 0, .bool false, .string ⟨#[]⟩, .bool false, .int .i64 0, .int .i64 0, .slice none 0 0, .slice none 0 0], #[.int .i64 4, .int .i64 0, .int .i64 0, .int .i64 0, .int .i64 tx, .int .i64 seq, .string ⟨#[]⟩, .int .i64 0, .int .i64 0, .bool false, .string ⟨#[]⟩, .bool false, .int .i64 0, .int .i64 0, .slice none 0 0, .slice none 0 0]] : List (Array Value)).getD k #[] := ⟨_, rfl⟩
    have HRR := Lib.hid hRR; clear hRR
    refine Ph.region_at (by kernel_rfl) ?_
    refine Ph.at_stage 12 (fun i => if i < 0 then (0, 100, 0) else ([(0, 0, 0), (0, 0, 0), (0, 1, 0), (0, 1, 0), (0, 2, 0), (0, 2, 0), (0, 0, 0), (0, 0, 1), (1, 1, 0), (1, 1, 1), (2, 2, 0), (2, 2, 1)] : List (Nat × Nat × Nat)).getD (i - 0) (0, 0, 0)) (fun k W => hp W b1 = some (.cells #[.int .i64 4, .int .i64 node, .int .i64 inc, .int .i64 ses, .int .i64 tx, .int .i64 seq, .string key, .int .i64 lo, .int .i64 hi, .bool has, .string data, .bool false, .int .i64 err, .int .i64 n, .slice wp wn wq, .slice kp kn kq] 30 (0, 0)) ∧ hp W (b1 + 1) = some (.cells Z30 30 (0, 0)) ∧ hp W (b1 + 2) = some (.cells (RR k) 30 (0, 0)) ∧ Below b1 w W) (by kernel_rfl) (by kernel_rfl) ⟨hp_below (below_drew (Below.refl _ _)) k1', hp_below (below_drew (Below.refl _ _)) k2', by rw [HRR.out]; exact hp_below (below_drew (Below.refl _ _)) k3', below_drewB hBW2⟩ ?_
    simp only [List.take_succ_cons, List.take_zero, List.drop_succ_cons, List.drop_zero]
    apply Ph.wpPh_q (mono5 hb1) 0 0 rfl rfl; (focus (intro k0 hk1 hk2 w1 hS0; go_simp; first | exact rfl | exact ⟨rfl, Below.refl _ _⟩)); simp only [Act.put, List.setIfInBounds_toArray, List.set_cons_zero, List.set_cons_succ]
    apply Ph.wpPh_q (mono5 hb1) 0 0 rfl rfl; (focus (intro k0 hk1 hk2 w1 hS0; have hc := hp_cell hS0.1; clear hS0; go_simp; first | exact rfl | exact ⟨rfl, Below.refl _ _⟩)); simp only [Act.put, List.setIfInBounds_toArray, List.set_cons_zero, List.set_cons_succ]
    apply Ph.wpPh_q (mono5 hb1) 0 1 rfl rfl; (focus (intro k0 hk1 hk2 w1 hS0; go_simp; first | exact rfl | exact ⟨rfl, Below.refl _ _⟩)); simp only [Act.put, List.setIfInBounds_toArray, List.set_cons_zero, List.set_cons_succ]
    apply Ph.wpPh_q (mono5 hb1) 0 1 rfl rfl; (focus (intro k0 hk1 hk2 w1 hS0; have hc := hp_cell hS0.1; clear hS0; go_simp; first | exact rfl | exact ⟨rfl, Below.refl _ _⟩)); simp only [Act.put, List.setIfInBounds_toArray, List.set_cons_zero, List.set_cons_succ]
    apply Ph.wpPh_q (mono5 hb1) 0 2 rfl rfl; (focus (intro k0 hk1 hk2 w1 hS0; go_simp; first | exact rfl | exact ⟨rfl, Below.refl _ _⟩)); simp only [Act.put, List.setIfInBounds_toArray, List.set_cons_zero, List.set_cons_succ]
    apply Ph.wpPh_q (mono5 hb1) 0 2 rfl rfl; (focus (intro k0 hk1 hk2 w1 hS0; have hc := hp_cell hS0.1; clear hS0; go_simp; first | exact rfl | exact ⟨rfl, Below.refl _ _⟩)); simp only [Act.put, List.setIfInBounds_toArray, List.set_cons_zero, List.set_cons_succ]
    apply Ph.wpPh_q (mono5 hb1) 0 0 rfl rfl; (focus (intro k0 hk1 hk2 w1 hS0; go_simp; first | exact rfl | exact ⟨rfl, Below.refl _ _⟩)); simp only [Act.put, List.setIfInBounds_toArray, List.set_cons_zero, List.set_cons_succ]
    apply Ph.wpPh_e 0 rfl rfl; (focus (intro w1 hS0; obtain ⟨hq1, hq2, hq3, hqb⟩ := hS0; replace hq3 : hp w1 (b1 + 2) = some (.cells #[.int .i64 4, .int .i64 0, .int .i64 0, .int .i64 0, .int .i64 0, .int .i64 0, .string ⟨#[]⟩, .int .i64 0, .int .i64 0, .bool false, .string ⟨#[]⟩, .bool false, .int .i64 0, .int .i64 0, .slice none 0 0, .slice none 0 0] 30 (0, 0)) := (by rw [HRR.out] at hq3; exact hq3); have hc := hp_cell hq3; have hf := hp_free hq3; have HQ := Lib.hid (And.intro hq1 (And.intro hq2 (And.intro hq3 hqb))); clear hq1 hq2 hq3 hqb; go_simp; obtain ⟨hq1, hq2, hq3, hqb⟩ := HQ.out; exact ⟨rfl, (hp_set_ne hq1 (p := ⟨b1 + 2, 4, none⟩) n1 (.int .i64 tx)), (hp_set_ne hq2 (p := ⟨b1 + 2, 4, none⟩) n2 (.int .i64 tx)), by rw [HRR.out]; exact (hp_set hq3 (.int .i64 tx)), (below_setB hqb (p := ⟨b1 + 2, 4, none⟩) (by show b1 ≤ b1 + 2; omega) (.int .i64 tx))⟩)); simp only [Act.put, List.setIfInBounds_toArray, List.set_cons_zero, List.set_cons_succ]
    apply Ph.wpPh_q (mono5 hb1) 1 1 rfl rfl; (focus (intro k0 hk1 hk2 w1 hS0; go_simp; first | exact rfl | exact ⟨rfl, Below.refl _ _⟩)); simp only [Act.put, List.setIfInBounds_toArray, List.set_cons_zero, List.set_cons_succ]
    apply Ph.wpPh_e 1 rfl rfl; (focus (intro w1 hS0; obtain ⟨hq1, hq2, hq3, hqb⟩ := hS0; replace hq3 : hp w1 (b1 + 2) = some (.cells #[.int .i64 4, .int .i64 0, .int .i64 0, .int .i64 0, .int .i64 tx, .int .i64 0, .string ⟨#[]⟩, .int .i64 0, .int .i64 0, .bool false, .string ⟨#[]⟩, .bool false, .int .i64 0, .int .i64 0, .slice none 0 0, .slice none 0 0] 30 (0, 0)) := (by rw [HRR.out] at hq3; exact hq3); have hc := hp_cell hq3; have hf := hp_free hq3; have HQ := Lib.hid (And.intro hq1 (And.intro hq2 (And.intro hq3 hqb))); clear hq1 hq2 hq3 hqb; go_simp; obtain ⟨hq1, hq2, hq3, hqb⟩ := HQ.out; exact ⟨rfl, (hp_set_ne hq1 (p := ⟨b1 + 2, 5, none⟩) n1 (.int .i64 seq)), (hp_set_ne hq2 (p := ⟨b1 + 2, 5, none⟩) n2 (.int .i64 seq)), by rw [HRR.out]; exact (hp_set hq3 (.int .i64 seq)), (below_setB hqb (p := ⟨b1 + 2, 5, none⟩) (by show b1 ≤ b1 + 2; omega) (.int .i64 seq))⟩)); simp only [Act.put, List.setIfInBounds_toArray, List.set_cons_zero, List.set_cons_succ]
    apply Ph.wpPh_q (mono5 hb1) 2 2 rfl rfl; (focus (intro k0 hk1 hk2 w1 hS0; go_simp; first | exact rfl | exact ⟨rfl, Below.refl _ _⟩)); simp only [Act.put, List.setIfInBounds_toArray, List.set_cons_zero, List.set_cons_succ]
    apply Ph.wpPh_e 2 rfl rfl; (focus (intro w1 hS0; obtain ⟨hq1, hq2, hq3, hqb⟩ := hS0; replace hq3 : hp w1 (b1 + 2) = some (.cells #[.int .i64 4, .int .i64 0, .int .i64 0, .int .i64 0, .int .i64 tx, .int .i64 seq, .string ⟨#[]⟩, .int .i64 0, .int .i64 0, .bool false, .string ⟨#[]⟩, .bool false, .int .i64 0, .int .i64 0, .slice none 0 0, .slice none 0 0] 30 (0, 0)) := (by rw [HRR.out] at hq3; exact hq3); have hc := hp_cell hq3; have hf := hp_free hq3; have HQ := Lib.hid (And.intro hq1 (And.intro hq2 (And.intro hq3 hqb))); clear hq1 hq2 hq3 hqb; go_simp; obtain ⟨hq1, hq2, hq3, hqb⟩ := HQ.out; exact ⟨rfl, (hp_set_ne hq1 (p := ⟨b1 + 2, 11, none⟩) n1 (.bool false)), (hp_set_ne hq2 (p := ⟨b1 + 2, 11, none⟩) n2 (.bool false)), by rw [HRR.out]; exact (hp_set hq3 (.bool false)), (below_setB hqb (p := ⟨b1 + 2, 11, none⟩) (by show b1 ≤ b1 + 2; omega) (.bool false))⟩)); simp only [Act.put, List.setIfInBounds_toArray, List.set_cons_zero, List.set_cons_succ]
    refine Ph.wpPh_nil ?_; intro w3 hS3
    refine Ph.at_end (by simp) ?_
    obtain ⟨q1, q2, q3, qb⟩ := (show (fun (k : Nat) (W : World) => hp W b1 = some (.cells #[.int .i64 4, .int .i64 node, .int .i64 inc, .int .i64 ses, .int .i64 tx, .int .i64 seq, .string key, .int .i64 lo, .int .i64 hi, .bool has, .string data, .bool false, .int .i64 err, .int .i64 n, .slice wp wn wq, .slice kp kn kq] 30 (0, 0)) ∧ hp W (b1 + 1) = some (.cells Z30 30 (0, 0)) ∧ hp W (b1 + 2) = some (.cells (RR k) 30 (0, 0)) ∧ Below b1 w W) 3 w3 from hS3)
    replace q3 : hp w3 (b1 + 2) = some (.cells #[.int .i64 4, .int .i64 0, .int .i64 0, .int .i64 0, .int .i64 tx, .int .i64 seq, .string ⟨#[]⟩, .int .i64 0, .int .i64 0, .bool false, .string ⟨#[]⟩, .bool false, .int .i64 0, .int .i64 0, .slice none 0 0, .slice none 0 0] 30 (0, 0)) := by rw [HRR.out] at q3; exact q3
    clear hS3 HRR RR
    clear c1 c3 f3
    have c1 := hp_cell q1
    go_wp2
    go_meet
    exact ⟨q2, q3, qb⟩
  case rest =>
  obtain ⟨q2, q3, hB3⟩ := hcut
  go_step
  go_step
  go_step
  refine ld_op rfl (.tmp 3) rfl (b1 + 2) rfl _ q3 rfl ?_
  simp only [Act.put, List.setIfInBounds_toArray, List.set_cons_zero, List.set_cons_succ]
  refine st_op rfl (.tmp 2) (.tmp 159) rfl (b1 + 1) _ rfl rfl Z30 q2 rfl rfl (by simp [Value.oneCell']) ?_
  simp only [Act.put, List.setIfInBounds_toArray, List.set_cons_zero, List.set_cons_succ]
  go_wp2
  refine bodyPost_ret (res30 rfl rfl (hp_row q2) rfl) rfl ⟨rfl, ?_⟩
  rw [hb1]
  subst hb1
  exact below_row hB3 (by omega) _

set_option maxHeartbeats 4000000 in
theorem o_only_6t (node inc ses tx seq lo hi err n : Int) (key data : ByteArray) (has hit : Bool) (wp kp : Option Addr) (wn wq kn kq : Nat) (w : World) : Calls Try.prog 33 #[.agg #[.int .i64 6, .int .i64 node, .int .i64 inc, .int .i64 ses, .int .i64 tx, .int .i64 seq, .string key, .int .i64 lo, .int .i64 hi, .bool has, .string data, .bool hit, .int .i64 0, .int .i64 n, .slice wp wn wq, .slice kp kn kq]] w fun e w' => e = .returned (.agg #[.int .i64 6, .int .i64 0, .int .i64 0, .int .i64 0, .int .i64 tx, .int .i64 seq, .string ⟨#[]⟩, .int .i64 lo, .int .i64 hi, .bool has, .string data, .bool false, .int .i64 0, .int .i64 0, .slice none 0 0, .slice none 0 0]) ∧ Below w.heap.size w w' := by
  go_enter Try.func33, Try.ntmps33
  go_step
  go_step
  go_cut [1, 2] (fun s1 s2 W => s1 = .pointer (some ⟨w.heap.size, 0, none⟩) ∧ s2 = .pointer (some ⟨w.heap.size + 1, 0, none⟩) ∧ hp W w.heap.size = some (.cells #[.int .i64 6, .int .i64 node, .int .i64 inc, .int .i64 ses, .int .i64 tx, .int .i64 seq, .string key, .int .i64 lo, .int .i64 hi, .bool has, .string data, .bool hit, .int .i64 0, .int .i64 n, .slice wp wn wq, .slice kp kn kq] 30 (0, 0)) ∧ hp W (w.heap.size + 1) = some (.cells Z30 30 (0, 0)) ∧ W.heap.size = w.heap.size + 2 ∧ Below w.heap.size w W)
  case first =>
    go_wp2
    go_meet
    case rel => exact ⟨rfl, rfl, by rw [hpA, if_neg (by simp), hpA, if_pos rfl], by rw [hpA, if_pos (by simp)]; rfl, by simp, (by (repeat (first | (with_reducible exact Below.refl _ _) | (with_reducible refine below_drew ?_) | (with_reducible refine below_alloc ?_ _))))⟩
  case rest =>
  obtain ⟨rfl, rfl, k1, k2, hsz, hBW⟩ := hcut
  generalize hb1 : w.heap.size = b1 at *
  rename World => w1
  have c0 : w1.cell? ⟨b1, 0, none⟩ = some (.int .i64 6) := hp_cell k1 0
  go_step
  go_step
  go_cut [3] (fun s3 W => s3 = .pointer (some ⟨b1 + 2, 0, none⟩) ∧ hp W b1 = some (.cells #[.int .i64 6, .int .i64 node, .int .i64 inc, .int .i64 ses, .int .i64 tx, .int .i64 seq, .string key, .int .i64 lo, .int .i64 hi, .bool has, .string data, .bool hit, .int .i64 0, .int .i64 n, .slice wp wn wq, .slice kp kn kq] 30 (0, 0)) ∧ hp W (b1 + 1) = some (.cells Z30 30 (0, 0)) ∧ hp W (b1 + 2) = some (.cells #[.int .i64 6, .int .i64 0, .int .i64 0, .int .i64 0, .int .i64 0, .int .i64 0, .string ⟨#[]⟩, .int .i64 0, .int .i64 0, .bool false, .string ⟨#[]⟩, .bool false, .int .i64 0, .int .i64 0, .slice none 0 0, .slice none 0 0] 30 (0, 0)) ∧ Below w1.heap.size w1 W)
  case first =>
    iterate 10 go_step
    refine al_op rfl rfl ?_
    simp only [Act.put, List.setIfInBounds_toArray, List.set_cons_zero, List.set_cons_succ]
    refine st_op rfl (.tmp 3) (.tmp 6) rfl w1.heap.size _ rfl rfl Z30 (hp_alloc_new _ _) rfl rfl (by simp [Value.oneCell']) ?_
    simp only [Act.put, List.setIfInBounds_toArray, List.set_cons_zero, List.set_cons_succ]
    go_wp2
    go_meet
    case rel => exact ⟨by rw [hsz], hp_row_ne (hp_alloc_old k1 _) (by omega), hp_row_ne (hp_alloc_old k2 _) (by omega), by have := hp_row (cs' := #[.int .i64 6, .int .i64 0, .int .i64 0, .int .i64 0, .int .i64 0, .int .i64 0, .string ⟨#[]⟩, .int .i64 0, .int .i64 0, .bool false, .string ⟨#[]⟩, .bool false, .int .i64 0, .int .i64 0, .slice none 0 0, .slice none 0 0]) (hp_alloc_new w1 (.cells Z30 30)); rw [hsz] at this; rw [hsz]; exact this, below_row (by (repeat (first | (with_reducible exact Below.refl _ _) | (with_reducible refine below_drew ?_) | (with_reducible refine below_alloc ?_ _)))) (Nat.le_refl _) _⟩
  case rest =>
  obtain ⟨rfl, k1', k2', k3', hB2⟩ := hcut
  clear k1 k2 c0
  rename World => w2
  have hBW2 : Below b1 w w2 := by rw [← hb1] at *; exact below_call hBW hB2
  clear hBW hB2
  go_step
  go_step
  have c1 := hp_cell k1'
  have c3 := hp_cell k3'
  have f3 := hp_free k3'
  have n1 : ¬ b1 = b1 + 2 := by omega
  have n2 : ¬ b1 + 1 = b1 + 2 := by omega
  have n3 : ¬ b1 + 2 = b1 := by omega
  have n4 : ¬ b1 + 2 = b1 + 1 := by omega
  go_cut [0] (fun s0 W => hp W (b1 + 1) = some (.cells Z30 30 (0, 0)) ∧ hp W (b1 + 2) = some (.cells #[.int .i64 6, .int .i64 0, .int .i64 0, .int .i64 0, .int .i64 tx, .int .i64 seq, .string ⟨#[]⟩, .int .i64 lo, .int .i64 hi, .bool has, .string data, .bool false, .int .i64 0, .int .i64 0, .slice none 0 0, .slice none 0 0] 30 (0, 0)) ∧ Below b1 w W)
  case first =>
    go_wp2
    obtain ⟨RR, hRR⟩ : ∃ RR : Nat → Array Value, RR = fun k => ([#[.int .i64 6, .int .i64 0, .int .i64 0, .int .i64 0, .int .i64 0, .int .i64 0, .string ⟨#[]⟩, .int .i64 0, .int .i64 0, .bool false, .string ⟨#[]⟩, .bool false, .int .i64 0, .int .i64 0, .slice none 0 0, .slice none 0 0], #[.int .i64 6, .int .i64 0, .int .i64 0, .int .i64 0, .int .i64 tx, .int .i64 0, .string ⟨#[]⟩, .int .i64 0, .int .i64 0, .bool false, .string ⟨#[]⟩, .bool false, .int .i64 0, .int .i64 0, .slice none 0 0, .slice none 0 0], #[.int .i64 6, .int .i64 0, .int .i64 0, .int .i64 0, .int .i64 tx, .int .i64 seq, .string ⟨#[]⟩, .int .i64 0, .int .i64 0, .bool false, .string ⟨#[]⟩, .bool false, .int .i64 0, .int .i64 0, .slice none 0 0, .slice none 0 0], #[.int .i64 6, .int .i64 0, .int .i64 0, .int .i64 0, .int .i64 tx, .int .i64 seq, .string ⟨#[]⟩, .int .i64 0, .int .i64 0, .bool false, .string ⟨#[]⟩, .bool false, .int .i64 0, .int .i64 0, .slice none 0 0, .slice none 0 0]] : List (Array Value)).getD k #[] := ⟨_, rfl⟩
    have HRR := Lib.hid hRR; clear hRR
    refine Ph.region_at (by kernel_rfl) ?_
    refine Ph.at_stage 12 (fun i => if i < 0 then (0, 100, 0) else ([(0, 0, 0), (0, 0, 0), (0, 1, 0), (0, 1, 0), (0, 2, 0), (0, 2, 0), (0, 0, 0), (0, 0, 1), (1, 1, 0), (1, 1, 1), (2, 2, 0), (2, 2, 1)] : List (Nat × Nat × Nat)).getD (i - 0) (0, 0, 0)) (fun k W => hp W b1 = some (.cells #[.int .i64 6, .int .i64 node, .int .i64 inc, .int .i64 ses, .int .i64 tx, .int .i64 seq, .string key, .int .i64 lo, .int .i64 hi, .bool has, .string data, .bool hit, .int .i64 0, .int .i64 n, .slice wp wn wq, .slice kp kn kq] 30 (0, 0)) ∧ hp W (b1 + 1) = some (.cells Z30 30 (0, 0)) ∧ hp W (b1 + 2) = some (.cells (RR k) 30 (0, 0)) ∧ Below b1 w W) (by kernel_rfl) (by kernel_rfl) ⟨hp_below (below_drew (Below.refl _ _)) k1', hp_below (below_drew (Below.refl _ _)) k2', by rw [HRR.out]; exact hp_below (below_drew (Below.refl _ _)) k3', below_drewB hBW2⟩ ?_
    simp only [List.take_succ_cons, List.take_zero, List.drop_succ_cons, List.drop_zero]
    apply Ph.wpPh_q (mono5 hb1) 0 0 rfl rfl; (focus (intro k0 hk1 hk2 w1 hS0; go_simp; first | exact rfl | exact ⟨rfl, Below.refl _ _⟩)); simp only [Act.put, List.setIfInBounds_toArray, List.set_cons_zero, List.set_cons_succ]
    apply Ph.wpPh_q (mono5 hb1) 0 0 rfl rfl; (focus (intro k0 hk1 hk2 w1 hS0; have hc := hp_cell hS0.1; clear hS0; go_simp; first | exact rfl | exact ⟨rfl, Below.refl _ _⟩)); simp only [Act.put, List.setIfInBounds_toArray, List.set_cons_zero, List.set_cons_succ]
    apply Ph.wpPh_q (mono5 hb1) 0 1 rfl rfl; (focus (intro k0 hk1 hk2 w1 hS0; go_simp; first | exact rfl | exact ⟨rfl, Below.refl _ _⟩)); simp only [Act.put, List.setIfInBounds_toArray, List.set_cons_zero, List.set_cons_succ]
    apply Ph.wpPh_q (mono5 hb1) 0 1 rfl rfl; (focus (intro k0 hk1 hk2 w1 hS0; have hc := hp_cell hS0.1; clear hS0; go_simp; first | exact rfl | exact ⟨rfl, Below.refl _ _⟩)); simp only [Act.put, List.setIfInBounds_toArray, List.set_cons_zero, List.set_cons_succ]
    apply Ph.wpPh_q (mono5 hb1) 0 2 rfl rfl; (focus (intro k0 hk1 hk2 w1 hS0; go_simp; first | exact rfl | exact ⟨rfl, Below.refl _ _⟩)); simp only [Act.put, List.setIfInBounds_toArray, List.set_cons_zero, List.set_cons_succ]
    apply Ph.wpPh_q (mono5 hb1) 0 2 rfl rfl; (focus (intro k0 hk1 hk2 w1 hS0; have hc := hp_cell hS0.1; clear hS0; go_simp; first | exact rfl | exact ⟨rfl, Below.refl _ _⟩)); simp only [Act.put, List.setIfInBounds_toArray, List.set_cons_zero, List.set_cons_succ]
    apply Ph.wpPh_q (mono5 hb1) 0 0 rfl rfl; (focus (intro k0 hk1 hk2 w1 hS0; go_simp; first | exact rfl | exact ⟨rfl, Below.refl _ _⟩)); simp only [Act.put, List.setIfInBounds_toArray, List.set_cons_zero, List.set_cons_succ]
    apply Ph.wpPh_e 0 rfl rfl; (focus (intro w1 hS0; obtain ⟨hq1, hq2, hq3, hqb⟩ := hS0; replace hq3 : hp w1 (b1 + 2) = some (.cells #[.int .i64 6, .int .i64 0, .int .i64 0, .int .i64 0, .int .i64 0, .int .i64 0, .string ⟨#[]⟩, .int .i64 0, .int .i64 0, .bool false, .string ⟨#[]⟩, .bool false, .int .i64 0, .int .i64 0, .slice none 0 0, .slice none 0 0] 30 (0, 0)) := (by rw [HRR.out] at hq3; exact hq3); have hc := hp_cell hq3; have hf := hp_free hq3; have HQ := Lib.hid (And.intro hq1 (And.intro hq2 (And.intro hq3 hqb))); clear hq1 hq2 hq3 hqb; go_simp; obtain ⟨hq1, hq2, hq3, hqb⟩ := HQ.out; exact ⟨rfl, (hp_set_ne hq1 (p := ⟨b1 + 2, 4, none⟩) n1 (.int .i64 tx)), (hp_set_ne hq2 (p := ⟨b1 + 2, 4, none⟩) n2 (.int .i64 tx)), by rw [HRR.out]; exact (hp_set hq3 (.int .i64 tx)), (below_setB hqb (p := ⟨b1 + 2, 4, none⟩) (by show b1 ≤ b1 + 2; omega) (.int .i64 tx))⟩)); simp only [Act.put, List.setIfInBounds_toArray, List.set_cons_zero, List.set_cons_succ]
    apply Ph.wpPh_q (mono5 hb1) 1 1 rfl rfl; (focus (intro k0 hk1 hk2 w1 hS0; go_simp; first | exact rfl | exact ⟨rfl, Below.refl _ _⟩)); simp only [Act.put, List.setIfInBounds_toArray, List.set_cons_zero, List.set_cons_succ]
    apply Ph.wpPh_e 1 rfl rfl; (focus (intro w1 hS0; obtain ⟨hq1, hq2, hq3, hqb⟩ := hS0; replace hq3 : hp w1 (b1 + 2) = some (.cells #[.int .i64 6, .int .i64 0, .int .i64 0, .int .i64 0, .int .i64 tx, .int .i64 0, .string ⟨#[]⟩, .int .i64 0, .int .i64 0, .bool false, .string ⟨#[]⟩, .bool false, .int .i64 0, .int .i64 0, .slice none 0 0, .slice none 0 0] 30 (0, 0)) := (by rw [HRR.out] at hq3; exact hq3); have hc := hp_cell hq3; have hf := hp_free hq3; have HQ := Lib.hid (And.intro hq1 (And.intro hq2 (And.intro hq3 hqb))); clear hq1 hq2 hq3 hqb; go_simp; obtain ⟨hq1, hq2, hq3, hqb⟩ := HQ.out; exact ⟨rfl, (hp_set_ne hq1 (p := ⟨b1 + 2, 5, none⟩) n1 (.int .i64 seq)), (hp_set_ne hq2 (p := ⟨b1 + 2, 5, none⟩) n2 (.int .i64 seq)), by rw [HRR.out]; exact (hp_set hq3 (.int .i64 seq)), (below_setB hqb (p := ⟨b1 + 2, 5, none⟩) (by show b1 ≤ b1 + 2; omega) (.int .i64 seq))⟩)); simp only [Act.put, List.setIfInBounds_toArray, List.set_cons_zero, List.set_cons_succ]
    apply Ph.wpPh_q (mono5 hb1) 2 2 rfl rfl; (focus (intro k0 hk1 hk2 w1 hS0; go_simp; first | exact rfl | exact ⟨rfl, Below.refl _ _⟩)); simp only [Act.put, List.setIfInBounds_toArray, List.set_cons_zero, List.set_cons_succ]
    apply Ph.wpPh_e 2 rfl rfl; (focus (intro w1 hS0; obtain ⟨hq1, hq2, hq3, hqb⟩ := hS0; replace hq3 : hp w1 (b1 + 2) = some (.cells #[.int .i64 6, .int .i64 0, .int .i64 0, .int .i64 0, .int .i64 tx, .int .i64 seq, .string ⟨#[]⟩, .int .i64 0, .int .i64 0, .bool false, .string ⟨#[]⟩, .bool false, .int .i64 0, .int .i64 0, .slice none 0 0, .slice none 0 0] 30 (0, 0)) := (by rw [HRR.out] at hq3; exact hq3); have hc := hp_cell hq3; have hf := hp_free hq3; have HQ := Lib.hid (And.intro hq1 (And.intro hq2 (And.intro hq3 hqb))); clear hq1 hq2 hq3 hqb; go_simp; obtain ⟨hq1, hq2, hq3, hqb⟩ := HQ.out; exact ⟨rfl, (hp_set_ne hq1 (p := ⟨b1 + 2, 12, none⟩) n1 (.int .i64 0)), (hp_set_ne hq2 (p := ⟨b1 + 2, 12, none⟩) n2 (.int .i64 0)), by rw [HRR.out]; exact (hp_set hq3 (.int .i64 0)), (below_setB hqb (p := ⟨b1 + 2, 12, none⟩) (by show b1 ≤ b1 + 2; omega) (.int .i64 0))⟩)); simp only [Act.put, List.setIfInBounds_toArray, List.set_cons_zero, List.set_cons_succ]
    refine Ph.wpPh_nil ?_; intro w3 hS3
    refine Ph.at_end (by simp) ?_
    obtain ⟨q1, q2, q3, qb⟩ := (show (fun (k : Nat) (W : World) => hp W b1 = some (.cells #[.int .i64 6, .int .i64 node, .int .i64 inc, .int .i64 ses, .int .i64 tx, .int .i64 seq, .string key, .int .i64 lo, .int .i64 hi, .bool has, .string data, .bool hit, .int .i64 0, .int .i64 n, .slice wp wn wq, .slice kp kn kq] 30 (0, 0)) ∧ hp W (b1 + 1) = some (.cells Z30 30 (0, 0)) ∧ hp W (b1 + 2) = some (.cells (RR k) 30 (0, 0)) ∧ Below b1 w W) 3 w3 from hS3)
    replace q3 : hp w3 (b1 + 2) = some (.cells #[.int .i64 6, .int .i64 0, .int .i64 0, .int .i64 0, .int .i64 tx, .int .i64 seq, .string ⟨#[]⟩, .int .i64 0, .int .i64 0, .bool false, .string ⟨#[]⟩, .bool false, .int .i64 0, .int .i64 0, .slice none 0 0, .slice none 0 0] 30 (0, 0)) := by rw [HRR.out] at q3; exact q3
    clear hS3 HRR RR
    clear c1 c3 f3 k1' k2' k3' hBW2
    have c1 := hp_cell q1
    go_wp2
    obtain ⟨RR, hRR⟩ : ∃ RR : Nat → Array Value, RR = fun k => ([#[.int .i64 6, .int .i64 0, .int .i64 0, .int .i64 0, .int .i64 tx, .int .i64 seq, .string ⟨#[]⟩, .int .i64 0, .int .i64 0, .bool false, .string ⟨#[]⟩, .bool false, .int .i64 0, .int .i64 0, .slice none 0 0, .slice none 0 0], #[.int .i64 6, .int .i64 0, .int .i64 0, .int .i64 0, .int .i64 tx, .int .i64 seq, .string ⟨#[]⟩, .int .i64 0, .int .i64 0, .bool has, .string data, .bool false, .int .i64 0, .int .i64 0, .slice none 0 0, .slice none 0 0], #[.int .i64 6, .int .i64 0, .int .i64 0, .int .i64 0, .int .i64 tx, .int .i64 seq, .string ⟨#[]⟩, .int .i64 lo, .int .i64 hi, .bool has, .string data, .bool false, .int .i64 0, .int .i64 0, .slice none 0 0, .slice none 0 0]] : List (Array Value)).getD k #[] := ⟨_, rfl⟩
    have HRR := Lib.hid hRR; clear hRR
    refine Ph.region_at (by kernel_rfl) ?_
    refine Ph.at_stage 8 (fun i => if i < 0 then (0, 100, 0) else ([(0, 0, 0), (0, 0, 0), (0, 1, 0), (0, 1, 0), (0, 0, 0), (0, 0, 1), (1, 1, 0), (1, 1, 1)] : List (Nat × Nat × Nat)).getD (i - 0) (0, 0, 0)) (fun k W => hp W b1 = some (.cells #[.int .i64 6, .int .i64 node, .int .i64 inc, .int .i64 ses, .int .i64 tx, .int .i64 seq, .string key, .int .i64 lo, .int .i64 hi, .bool has, .string data, .bool hit, .int .i64 0, .int .i64 n, .slice wp wn wq, .slice kp kn kq] 30 (0, 0)) ∧ hp W (b1 + 1) = some (.cells Z30 30 (0, 0)) ∧ hp W (b1 + 2) = some (.cells (RR k) 30 (0, 0)) ∧ Below b1 w W) (by kernel_rfl) (by kernel_rfl) ⟨hp_below (below_drew (Below.refl _ _)) q1, hp_below (below_drew (Below.refl _ _)) q2, by rw [HRR.out]; exact hp_below (below_drew (Below.refl _ _)) q3, below_drewB qb⟩ ?_
    simp only [List.take_succ_cons, List.take_zero, List.drop_succ_cons, List.drop_zero]
    apply Ph.wpPh_q (mono5 hb1) 0 0 rfl rfl; (focus (intro k0 hk1 hk2 w1 hS0; go_simp; first | exact rfl | exact ⟨rfl, Below.refl _ _⟩)); simp only [Act.put, List.setIfInBounds_toArray, List.set_cons_zero, List.set_cons_succ]
    apply Ph.wpPh_q (mono5 hb1) 0 0 rfl rfl; (focus (intro k0 hk1 hk2 w1 hS0; have hc := hp_cell hS0.1; clear hS0; go_simp; first | exact rfl | exact ⟨rfl, Below.refl _ _⟩)); simp only [Act.put, List.setIfInBounds_toArray, List.set_cons_zero, List.set_cons_succ]
    apply Ph.wpPh_q (mono5 hb1) 0 1 rfl rfl; (focus (intro k0 hk1 hk2 w1 hS0; go_simp; first | exact rfl | exact ⟨rfl, Below.refl _ _⟩)); simp only [Act.put, List.setIfInBounds_toArray, List.set_cons_zero, List.set_cons_succ]
    apply Ph.wpPh_q (mono5 hb1) 0 1 rfl rfl; (focus (intro k0 hk1 hk2 w1 hS0; have hc := hp_cell hS0.1; clear hS0; go_simp; first | exact rfl | exact ⟨rfl, Below.refl _ _⟩)); simp only [Act.put, List.setIfInBounds_toArray, List.set_cons_zero, List.set_cons_succ]
    apply Ph.wpPh_q (mono5 hb1) 0 0 rfl rfl; (focus (intro k0 hk1 hk2 w1 hS0; go_simp; first | exact rfl | exact ⟨rfl, Below.refl _ _⟩)); simp only [Act.put, List.setIfInBounds_toArray, List.set_cons_zero, List.set_cons_succ]
    apply Ph.wpPh_e 0 rfl rfl; (focus (intro w1 hS0; obtain ⟨hq1, hq2, hq3, hqb⟩ := hS0; replace hq3 : hp w1 (b1 + 2) = some (.cells #[.int .i64 6, .int .i64 0, .int .i64 0, .int .i64 0, .int .i64 tx, .int .i64 seq, .string ⟨#[]⟩, .int .i64 0, .int .i64 0, .bool false, .string ⟨#[]⟩, .bool false, .int .i64 0, .int .i64 0, .slice none 0 0, .slice none 0 0] 30 (0, 0)) := (by rw [HRR.out] at hq3; exact hq3); have hc := hp_cell hq3; have hf := hp_free hq3; have HQ := Lib.hid (And.intro hq1 (And.intro hq2 (And.intro hq3 hqb))); clear hq1 hq2 hq3 hqb; go_simp; obtain ⟨hq1, hq2, hq3, hqb⟩ := HQ.out; exact ⟨rfl, (hp_set_ne (hp_set_ne hq1 (p := ⟨b1 + 2, 9, none⟩) n1 (.bool has)) (p := ⟨b1 + 2, 10, none⟩) n1 (.string data)), (hp_set_ne (hp_set_ne hq2 (p := ⟨b1 + 2, 9, none⟩) n2 (.bool has)) (p := ⟨b1 + 2, 10, none⟩) n2 (.string data)), by rw [HRR.out]; exact (hp_set (hp_set hq3 (.bool has)) (.string data)), (below_setB (below_setB hqb (p := ⟨b1 + 2, 9, none⟩) (by show b1 ≤ b1 + 2; omega) (.bool has)) (p := ⟨b1 + 2, 10, none⟩) (by show b1 ≤ b1 + 2; omega) (.string data))⟩)); simp only [Act.put, List.setIfInBounds_toArray, List.set_cons_zero, List.set_cons_succ]
    apply Ph.wpPh_q (mono5 hb1) 1 1 rfl rfl; (focus (intro k0 hk1 hk2 w1 hS0; go_simp; first | exact rfl | exact ⟨rfl, Below.refl _ _⟩)); simp only [Act.put, List.setIfInBounds_toArray, List.set_cons_zero, List.set_cons_succ]
    apply Ph.wpPh_e 1 rfl rfl; (focus (intro w1 hS0; obtain ⟨hq1, hq2, hq3, hqb⟩ := hS0; replace hq3 : hp w1 (b1 + 2) = some (.cells #[.int .i64 6, .int .i64 0, .int .i64 0, .int .i64 0, .int .i64 tx, .int .i64 seq, .string ⟨#[]⟩, .int .i64 0, .int .i64 0, .bool has, .string data, .bool false, .int .i64 0, .int .i64 0, .slice none 0 0, .slice none 0 0] 30 (0, 0)) := (by rw [HRR.out] at hq3; exact hq3); have hc := hp_cell hq3; have hf := hp_free hq3; have HQ := Lib.hid (And.intro hq1 (And.intro hq2 (And.intro hq3 hqb))); clear hq1 hq2 hq3 hqb; go_simp; obtain ⟨hq1, hq2, hq3, hqb⟩ := HQ.out; exact ⟨rfl, (hp_set_ne (hp_set_ne hq1 (p := ⟨b1 + 2, 7, none⟩) n1 (.int .i64 lo)) (p := ⟨b1 + 2, 8, none⟩) n1 (.int .i64 hi)), (hp_set_ne (hp_set_ne hq2 (p := ⟨b1 + 2, 7, none⟩) n2 (.int .i64 lo)) (p := ⟨b1 + 2, 8, none⟩) n2 (.int .i64 hi)), by rw [HRR.out]; exact (hp_set (hp_set hq3 (.int .i64 lo)) (.int .i64 hi)), (below_setB (below_setB hqb (p := ⟨b1 + 2, 7, none⟩) (by show b1 ≤ b1 + 2; omega) (.int .i64 lo)) (p := ⟨b1 + 2, 8, none⟩) (by show b1 ≤ b1 + 2; omega) (.int .i64 hi))⟩)); simp only [Act.put, List.setIfInBounds_toArray, List.set_cons_zero, List.set_cons_succ]
    refine Ph.wpPh_nil ?_; intro w4 hS3
    refine Ph.at_end (by simp) ?_
    obtain ⟨r1, r2, r3, rb⟩ := (show (fun (k : Nat) (W : World) => hp W b1 = some (.cells #[.int .i64 6, .int .i64 node, .int .i64 inc, .int .i64 ses, .int .i64 tx, .int .i64 seq, .string key, .int .i64 lo, .int .i64 hi, .bool has, .string data, .bool hit, .int .i64 0, .int .i64 n, .slice wp wn wq, .slice kp kn kq] 30 (0, 0)) ∧ hp W (b1 + 1) = some (.cells Z30 30 (0, 0)) ∧ hp W (b1 + 2) = some (.cells (RR k) 30 (0, 0)) ∧ Below b1 w W) 2 w4 from hS3)
    replace r3 : hp w4 (b1 + 2) = some (.cells #[.int .i64 6, .int .i64 0, .int .i64 0, .int .i64 0, .int .i64 tx, .int .i64 seq, .string ⟨#[]⟩, .int .i64 lo, .int .i64 hi, .bool has, .string data, .bool false, .int .i64 0, .int .i64 0, .slice none 0 0, .slice none 0 0] 30 (0, 0)) := by rw [HRR.out] at r3; exact r3
    clear hS3 HRR RR
    go_wp2
    go_meet
    exact ⟨r2, r3, rb⟩
  case rest =>
  obtain ⟨q2, q3, hB3⟩ := hcut
  go_step
  go_step
  go_step
  refine ld_op rfl (.tmp 3) rfl (b1 + 2) rfl _ q3 rfl ?_
  simp only [Act.put, List.setIfInBounds_toArray, List.set_cons_zero, List.set_cons_succ]
  refine st_op rfl (.tmp 2) (.tmp 159) rfl (b1 + 1) _ rfl rfl Z30 q2 rfl rfl (by simp [Value.oneCell']) ?_
  simp only [Act.put, List.setIfInBounds_toArray, List.set_cons_zero, List.set_cons_succ]
  go_wp2
  refine bodyPost_ret (res30 rfl rfl (hp_row q2) rfl) rfl ⟨rfl, ?_⟩
  rw [hb1]
  subst hb1
  exact below_row hB3 (by omega) _

set_option maxHeartbeats 4000000 in
theorem o_only_6f (node inc ses tx seq lo hi err n : Int) (key data : ByteArray) (has hit : Bool) (wp kp : Option Addr) (wn wq kn kq : Nat) (w : World) (hz : (err == 0) = false) : Calls Try.prog 33 #[.agg #[.int .i64 6, .int .i64 node, .int .i64 inc, .int .i64 ses, .int .i64 tx, .int .i64 seq, .string key, .int .i64 lo, .int .i64 hi, .bool has, .string data, .bool hit, .int .i64 err, .int .i64 n, .slice wp wn wq, .slice kp kn kq]] w fun e w' => e = .returned (.agg #[.int .i64 6, .int .i64 0, .int .i64 0, .int .i64 0, .int .i64 tx, .int .i64 seq, .string ⟨#[]⟩, .int .i64 0, .int .i64 0, .bool false, .string ⟨#[]⟩, .bool false, .int .i64 err, .int .i64 0, .slice none 0 0, .slice none 0 0]) ∧ Below w.heap.size w w' := by
  go_enter Try.func33, Try.ntmps33
  go_step
  go_step
  go_cut [1, 2] (fun s1 s2 W => s1 = .pointer (some ⟨w.heap.size, 0, none⟩) ∧ s2 = .pointer (some ⟨w.heap.size + 1, 0, none⟩) ∧ hp W w.heap.size = some (.cells #[.int .i64 6, .int .i64 node, .int .i64 inc, .int .i64 ses, .int .i64 tx, .int .i64 seq, .string key, .int .i64 lo, .int .i64 hi, .bool has, .string data, .bool hit, .int .i64 err, .int .i64 n, .slice wp wn wq, .slice kp kn kq] 30 (0, 0)) ∧ hp W (w.heap.size + 1) = some (.cells Z30 30 (0, 0)) ∧ W.heap.size = w.heap.size + 2 ∧ Below w.heap.size w W)
  case first =>
    go_wp2
    go_meet
    case rel => exact ⟨rfl, rfl, by rw [hpA, if_neg (by simp), hpA, if_pos rfl], by rw [hpA, if_pos (by simp)]; rfl, by simp, (by (repeat (first | (with_reducible exact Below.refl _ _) | (with_reducible refine below_drew ?_) | (with_reducible refine below_alloc ?_ _))))⟩
  case rest =>
  obtain ⟨rfl, rfl, k1, k2, hsz, hBW⟩ := hcut
  generalize hb1 : w.heap.size = b1 at *
  rename World => w1
  have c0 : w1.cell? ⟨b1, 0, none⟩ = some (.int .i64 6) := hp_cell k1 0
  go_step
  go_step
  go_cut [3] (fun s3 W => s3 = .pointer (some ⟨b1 + 2, 0, none⟩) ∧ hp W b1 = some (.cells #[.int .i64 6, .int .i64 node, .int .i64 inc, .int .i64 ses, .int .i64 tx, .int .i64 seq, .string key, .int .i64 lo, .int .i64 hi, .bool has, .string data, .bool hit, .int .i64 err, .int .i64 n, .slice wp wn wq, .slice kp kn kq] 30 (0, 0)) ∧ hp W (b1 + 1) = some (.cells Z30 30 (0, 0)) ∧ hp W (b1 + 2) = some (.cells #[.int .i64 6, .int .i64 0, .int .i64 0, .int .i64 0, .int .i64 0, .int .i64 0, .string ⟨#[]⟩, .int .i64 0, .int .i64 0, .bool false, .string ⟨#[]⟩, .bool false, .int .i64 0, .int .i64 0, .slice none 0 0, .slice none 0 0] 30 (0, 0)) ∧ Below w1.heap.size w1 W)
  case first =>
    iterate 10 go_step
    refine al_op rfl rfl ?_
    simp only [Act.put, List.setIfInBounds_toArray, List.set_cons_zero, List.set_cons_succ]
    refine st_op rfl (.tmp 3) (.tmp 6) rfl w1.heap.size _ rfl rfl Z30 (hp_alloc_new _ _) rfl rfl (by simp [Value.oneCell']) ?_
    simp only [Act.put, List.setIfInBounds_toArray, List.set_cons_zero, List.set_cons_succ]
    go_wp2
    go_meet
    case rel => exact ⟨by rw [hsz], hp_row_ne (hp_alloc_old k1 _) (by omega), hp_row_ne (hp_alloc_old k2 _) (by omega), by have := hp_row (cs' := #[.int .i64 6, .int .i64 0, .int .i64 0, .int .i64 0, .int .i64 0, .int .i64 0, .string ⟨#[]⟩, .int .i64 0, .int .i64 0, .bool false, .string ⟨#[]⟩, .bool false, .int .i64 0, .int .i64 0, .slice none 0 0, .slice none 0 0]) (hp_alloc_new w1 (.cells Z30 30)); rw [hsz] at this; rw [hsz]; exact this, below_row (by (repeat (first | (with_reducible exact Below.refl _ _) | (with_reducible refine below_drew ?_) | (with_reducible refine below_alloc ?_ _)))) (Nat.le_refl _) _⟩
  case rest =>
  obtain ⟨rfl, k1', k2', k3', hB2⟩ := hcut
  clear k1 k2 c0
  rename World => w2
  have hBW2 : Below b1 w w2 := by rw [← hb1] at *; exact below_call hBW hB2
  clear hBW hB2
  go_step
  go_step
  have c1 := hp_cell k1'
  have c3 := hp_cell k3'
  have f3 := hp_free k3'
  have n1 : ¬ b1 = b1 + 2 := by omega
  have n2 : ¬ b1 + 1 = b1 + 2 := by omega
  have n3 : ¬ b1 + 2 = b1 := by omega
  have n4 : ¬ b1 + 2 = b1 + 1 := by omega
  go_cut [0] (fun s0 W => hp W (b1 + 1) = some (.cells Z30 30 (0, 0)) ∧ hp W (b1 + 2) = some (.cells #[.int .i64 6, .int .i64 0, .int .i64 0, .int .i64 0, .int .i64 tx, .int .i64 seq, .string ⟨#[]⟩, .int .i64 0, .int .i64 0, .bool false, .string ⟨#[]⟩, .bool false, .int .i64 err, .int .i64 0, .slice none 0 0, .slice none 0 0] 30 (0, 0)) ∧ Below b1 w W)
  case first =>
    go_wp2
    obtain ⟨RR, hRR⟩ : ∃ RR : Nat → Array Value, RR = fun k => ([#[.int .i64 6, .int .i64 0, .int .i64 0, .int .i64 0, .int .i64 0, .int .i64 0, .string ⟨#[]⟩, .int .i64 0, .int .i64 0, .bool false, .string ⟨#[]⟩, .bool false, .int .i64 0, .int .i64 0, .slice none 0 0, .slice none 0 0], #[.int .i64 6, .int .i64 0, .int .i64 0, .int .i64 0, .int .i64 tx, .int .i64 0, .string ⟨#[]⟩, .int .i64 0, .int .i64 0, .bool false, .string ⟨#[]⟩, .bool false, .int .i64 0, .int .i64 0, .slice none 0 0, .slice none 0 0], #[.int .i64 6, .int .i64 0, .int .i64 0, .int .i64 0, .int .i64 tx, .int .i64 seq, .string ⟨#[]⟩, .int .i64 0, .int .i64 0, .bool false, .string ⟨#[]⟩, .bool false, .int .i64 0, .int .i64 0, .slice none 0 0, .slice none 0 0], #[.int .i64 6, .int .i64 0, .int .i64 0, .int .i64 0, .int .i64 tx, .int .i64 seq, .string ⟨#[]⟩, .int .i64 0, .int .i64 0, .bool false, .string ⟨#[]⟩, .bool false, .int .i64 err, .int .i64 0, .slice none 0 0, .slice none 0 0]] : List (Array Value)).getD k #[] := ⟨_, rfl⟩
    have HRR := Lib.hid hRR; clear hRR
    refine Ph.region_at (by kernel_rfl) ?_
    refine Ph.at_stage 12 (fun i => if i < 0 then (0, 100, 0) else ([(0, 0, 0), (0, 0, 0), (0, 1, 0), (0, 1, 0), (0, 2, 0), (0, 2, 0), (0, 0, 0), (0, 0, 1), (1, 1, 0), (1, 1, 1), (2, 2, 0), (2, 2, 1)] : List (Nat × Nat × Nat)).getD (i - 0) (0, 0, 0)) (fun k W => hp W b1 = some (.cells #[.int .i64 6, .int .i64 node, .int .i64 inc, .int .i64 ses, .int .i64 tx, .int .i64 seq, .string key, .int .i64 lo, .int .i64 hi, .bool has, .string data, .bool hit, .int .i64 err, .int .i64 n, .slice wp wn wq, .slice kp kn kq] 30 (0, 0)) ∧ hp W (b1 + 1) = some (.cells Z30 30 (0, 0)) ∧ hp W (b1 + 2) = some (.cells (RR k) 30 (0, 0)) ∧ Below b1 w W) (by kernel_rfl) (by kernel_rfl) ⟨hp_below (below_drew (Below.refl _ _)) k1', hp_below (below_drew (Below.refl _ _)) k2', by rw [HRR.out]; exact hp_below (below_drew (Below.refl _ _)) k3', below_drewB hBW2⟩ ?_
    simp only [List.take_succ_cons, List.take_zero, List.drop_succ_cons, List.drop_zero]
    apply Ph.wpPh_q (mono5 hb1) 0 0 rfl rfl; (focus (intro k0 hk1 hk2 w1 hS0; go_simp; first | exact rfl | exact ⟨rfl, Below.refl _ _⟩)); simp only [Act.put, List.setIfInBounds_toArray, List.set_cons_zero, List.set_cons_succ]
    apply Ph.wpPh_q (mono5 hb1) 0 0 rfl rfl; (focus (intro k0 hk1 hk2 w1 hS0; have hc := hp_cell hS0.1; clear hS0; go_simp; first | exact rfl | exact ⟨rfl, Below.refl _ _⟩)); simp only [Act.put, List.setIfInBounds_toArray, List.set_cons_zero, List.set_cons_succ]
    apply Ph.wpPh_q (mono5 hb1) 0 1 rfl rfl; (focus (intro k0 hk1 hk2 w1 hS0; go_simp; first | exact rfl | exact ⟨rfl, Below.refl _ _⟩)); simp only [Act.put, List.setIfInBounds_toArray, List.set_cons_zero, List.set_cons_succ]
    apply Ph.wpPh_q (mono5 hb1) 0 1 rfl rfl; (focus (intro k0 hk1 hk2 w1 hS0; have hc := hp_cell hS0.1; clear hS0; go_simp; first | exact rfl | exact ⟨rfl, Below.refl _ _⟩)); simp only [Act.put, List.setIfInBounds_toArray, List.set_cons_zero, List.set_cons_succ]
    apply Ph.wpPh_q (mono5 hb1) 0 2 rfl rfl; (focus (intro k0 hk1 hk2 w1 hS0; go_simp; first | exact rfl | exact ⟨rfl, Below.refl _ _⟩)); simp only [Act.put, List.setIfInBounds_toArray, List.set_cons_zero, List.set_cons_succ]
    apply Ph.wpPh_q (mono5 hb1) 0 2 rfl rfl; (focus (intro k0 hk1 hk2 w1 hS0; have hc := hp_cell hS0.1; clear hS0; go_simp; first | exact rfl | exact ⟨rfl, Below.refl _ _⟩)); simp only [Act.put, List.setIfInBounds_toArray, List.set_cons_zero, List.set_cons_succ]
    apply Ph.wpPh_q (mono5 hb1) 0 0 rfl rfl; (focus (intro k0 hk1 hk2 w1 hS0; go_simp; first | exact rfl | exact ⟨rfl, Below.refl _ _⟩)); simp only [Act.put, List.setIfInBounds_toArray, List.set_cons_zero, List.set_cons_succ]
    apply Ph.wpPh_e 0 rfl rfl; (focus (intro w1 hS0; obtain ⟨hq1, hq2, hq3, hqb⟩ := hS0; replace hq3 : hp w1 (b1 + 2) = some (.cells #[.int .i64 6, .int .i64 0, .int .i64 0, .int .i64 0, .int .i64 0, .int .i64 0, .string ⟨#[]⟩, .int .i64 0, .int .i64 0, .bool false, .string ⟨#[]⟩, .bool false, .int .i64 0, .int .i64 0, .slice none 0 0, .slice none 0 0] 30 (0, 0)) := (by rw [HRR.out] at hq3; exact hq3); have hc := hp_cell hq3; have hf := hp_free hq3; have HQ := Lib.hid (And.intro hq1 (And.intro hq2 (And.intro hq3 hqb))); clear hq1 hq2 hq3 hqb; go_simp; obtain ⟨hq1, hq2, hq3, hqb⟩ := HQ.out; exact ⟨rfl, (hp_set_ne hq1 (p := ⟨b1 + 2, 4, none⟩) n1 (.int .i64 tx)), (hp_set_ne hq2 (p := ⟨b1 + 2, 4, none⟩) n2 (.int .i64 tx)), by rw [HRR.out]; exact (hp_set hq3 (.int .i64 tx)), (below_setB hqb (p := ⟨b1 + 2, 4, none⟩) (by show b1 ≤ b1 + 2; omega) (.int .i64 tx))⟩)); simp only [Act.put, List.setIfInBounds_toArray, List.set_cons_zero, List.set_cons_succ]
    apply Ph.wpPh_q (mono5 hb1) 1 1 rfl rfl; (focus (intro k0 hk1 hk2 w1 hS0; go_simp; first | exact rfl | exact ⟨rfl, Below.refl _ _⟩)); simp only [Act.put, List.setIfInBounds_toArray, List.set_cons_zero, List.set_cons_succ]
    apply Ph.wpPh_e 1 rfl rfl; (focus (intro w1 hS0; obtain ⟨hq1, hq2, hq3, hqb⟩ := hS0; replace hq3 : hp w1 (b1 + 2) = some (.cells #[.int .i64 6, .int .i64 0, .int .i64 0, .int .i64 0, .int .i64 tx, .int .i64 0, .string ⟨#[]⟩, .int .i64 0, .int .i64 0, .bool false, .string ⟨#[]⟩, .bool false, .int .i64 0, .int .i64 0, .slice none 0 0, .slice none 0 0] 30 (0, 0)) := (by rw [HRR.out] at hq3; exact hq3); have hc := hp_cell hq3; have hf := hp_free hq3; have HQ := Lib.hid (And.intro hq1 (And.intro hq2 (And.intro hq3 hqb))); clear hq1 hq2 hq3 hqb; go_simp; obtain ⟨hq1, hq2, hq3, hqb⟩ := HQ.out; exact ⟨rfl, (hp_set_ne hq1 (p := ⟨b1 + 2, 5, none⟩) n1 (.int .i64 seq)), (hp_set_ne hq2 (p := ⟨b1 + 2, 5, none⟩) n2 (.int .i64 seq)), by rw [HRR.out]; exact (hp_set hq3 (.int .i64 seq)), (below_setB hqb (p := ⟨b1 + 2, 5, none⟩) (by show b1 ≤ b1 + 2; omega) (.int .i64 seq))⟩)); simp only [Act.put, List.setIfInBounds_toArray, List.set_cons_zero, List.set_cons_succ]
    apply Ph.wpPh_q (mono5 hb1) 2 2 rfl rfl; (focus (intro k0 hk1 hk2 w1 hS0; go_simp; first | exact rfl | exact ⟨rfl, Below.refl _ _⟩)); simp only [Act.put, List.setIfInBounds_toArray, List.set_cons_zero, List.set_cons_succ]
    apply Ph.wpPh_e 2 rfl rfl; (focus (intro w1 hS0; obtain ⟨hq1, hq2, hq3, hqb⟩ := hS0; replace hq3 : hp w1 (b1 + 2) = some (.cells #[.int .i64 6, .int .i64 0, .int .i64 0, .int .i64 0, .int .i64 tx, .int .i64 seq, .string ⟨#[]⟩, .int .i64 0, .int .i64 0, .bool false, .string ⟨#[]⟩, .bool false, .int .i64 0, .int .i64 0, .slice none 0 0, .slice none 0 0] 30 (0, 0)) := (by rw [HRR.out] at hq3; exact hq3); have hc := hp_cell hq3; have hf := hp_free hq3; have HQ := Lib.hid (And.intro hq1 (And.intro hq2 (And.intro hq3 hqb))); clear hq1 hq2 hq3 hqb; go_simp; obtain ⟨hq1, hq2, hq3, hqb⟩ := HQ.out; exact ⟨rfl, (hp_set_ne hq1 (p := ⟨b1 + 2, 12, none⟩) n1 (.int .i64 err)), (hp_set_ne hq2 (p := ⟨b1 + 2, 12, none⟩) n2 (.int .i64 err)), by rw [HRR.out]; exact (hp_set hq3 (.int .i64 err)), (below_setB hqb (p := ⟨b1 + 2, 12, none⟩) (by show b1 ≤ b1 + 2; omega) (.int .i64 err))⟩)); simp only [Act.put, List.setIfInBounds_toArray, List.set_cons_zero, List.set_cons_succ]
    refine Ph.wpPh_nil ?_; intro w3 hS3
    refine Ph.at_end (by simp) ?_
    obtain ⟨q1, q2, q3, qb⟩ := (show (fun (k : Nat) (W : World) => hp W b1 = some (.cells #[.int .i64 6, .int .i64 node, .int .i64 inc, .int .i64 ses, .int .i64 tx, .int .i64 seq, .string key, .int .i64 lo, .int .i64 hi, .bool has, .string data, .bool hit, .int .i64 err, .int .i64 n, .slice wp wn wq, .slice kp kn kq] 30 (0, 0)) ∧ hp W (b1 + 1) = some (.cells Z30 30 (0, 0)) ∧ hp W (b1 + 2) = some (.cells (RR k) 30 (0, 0)) ∧ Below b1 w W) 3 w3 from hS3)
    replace q3 : hp w3 (b1 + 2) = some (.cells #[.int .i64 6, .int .i64 0, .int .i64 0, .int .i64 0, .int .i64 tx, .int .i64 seq, .string ⟨#[]⟩, .int .i64 0, .int .i64 0, .bool false, .string ⟨#[]⟩, .bool false, .int .i64 err, .int .i64 0, .slice none 0 0, .slice none 0 0] 30 (0, 0)) := by rw [HRR.out] at q3; exact q3
    clear hS3 HRR RR
    clear c1 c3 f3
    have c1 := hp_cell q1
    go_wp2
    go_meet
    exact ⟨q2, q3, qb⟩
  case rest =>
  obtain ⟨q2, q3, hB3⟩ := hcut
  go_step
  go_step
  go_step
  refine ld_op rfl (.tmp 3) rfl (b1 + 2) rfl _ q3 rfl ?_
  simp only [Act.put, List.setIfInBounds_toArray, List.set_cons_zero, List.set_cons_succ]
  refine st_op rfl (.tmp 2) (.tmp 159) rfl (b1 + 1) _ rfl rfl Z30 q2 rfl rfl (by simp [Value.oneCell']) ?_
  simp only [Act.put, List.setIfInBounds_toArray, List.set_cons_zero, List.set_cons_succ]
  go_wp2
  refine bodyPost_ret (res30 rfl rfl (hp_row q2) rfl) rfl ⟨rfl, ?_⟩
  rw [hb1]
  subst hb1
  exact below_row hB3 (by omega) _

end Go.Proofs.Ytiklpifaaogcpaa
