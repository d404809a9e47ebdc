/- unused. -/
import Derived.Test.YtiklpifaaogcpaaKz
import Derived.Test.YtiklpifaaogcpaaKs
import Derived.WalkKit
import Derived.WalkLawsBesides
import Derived.WalkSpells
import Derived.Below
import Derived.Deep.RegionHeld3
import Derived.Deep.QuietTactic
import Derived.BigQuiet
import Derived.Deep.DeepCutAuto
import Derived.Deep.DeepMust
import Derived.KernelRfl
import Derived.Lib.Hide
import Derived.Outline
import Derived.RegionTactic
import Derived.StillTailTactics
import Derived.Laws.IdiomStrings
import Derived.Handy
namespace Go.Proofs.Ytiklpifaaogcpaa
open Go.RowKit Go.Cl Go.Wr Go.Kc
set_option maxRecDepth 100000
set_option linter.unusedVariables false
set_option linter.unusedSimpArgs false


set_option maxHeartbeats 4000000 in
theorem c_unused_gen (A : Array Value) (hA : A.size = 16) (w : World) (kind node inc ses tx seq lo hi err n : Int) (key data : ByteArray) (has hit : Bool) (wp kp : Option Addr) (wn wq kn kq : Nat) (hbl : ∀ W, Calls Try.prog 58 #[.agg A] W fun e w' => e = .returned (.agg #[.int .i64 kind, .int .i64 node, .int .i64 inc, .int .i64 ses, .int .i64 tx, .int .i64 seq, .string key, .int .i64 lo, .int .i64 hi, .bool has, .string data, .bool hit, .int .i64 err, .int .i64 n, .slice wp wn wq, .slice kp kn kq]) ∧ Below W.heap.size W w') :
    Calls Try.prog 29 #[.agg A] w (RetB (node = 0 ∧ inc = 0 ∧ ses = 0 ∧ tx = 0 ∧ seq = 0 ∧ key.size = 0 ∧ (lo = 0 ∧ hi = 0) ∧ (has = false ∧ data.size = 0) ∧ hit = false ∧ err = 0 ∧ n = 0 ∧ wn = 0 ∧ kn = 0) w) := by
  have HBL := Lib.hid hbl; clear hbl
  have HA := Lib.hid hA; clear hA
  go_enter Try.func29, Try.ntmps29
  go_step
  go_cut [1] (fun s1 W => s1 = .pointer (some ⟨w.heap.size, 0, none⟩) ∧ hp W w.heap.size = some (.cells A 30 (0, 0)) ∧ Below w.heap.size w W)
  case first =>
    go_wp2
    go_meet
    case rel => exact ⟨rfl, hp_alloc_new _ _, (by (repeat (first | (with_reducible exact Below.refl _ _) | (with_reducible refine below_drew ?_) | (with_reducible refine below_alloc ?_ _))))⟩
  case rest =>
  obtain ⟨rfl, k1, hBW⟩ := hcut
  generalize hb1 : w.heap.size = b1 at *
  rename World => w1
  go_step
  go_step
  go_cut [3] (fun s3 W => ∃ b3, s3 = .pointer (some ⟨b3, 0, none⟩) ∧ hp W b3 = some (.cells #[.int .i64 kind, .int .i64 node, .int .i64 inc, .int .i64 ses, .int .i64 tx, .int .i64 seq, .string key, .int .i64 lo, .int .i64 hi, .bool has, .string data, .bool hit, .int .i64 err, .int .i64 n, .slice wp wn wq, .slice kp kn kq] 30 (0, 0)) ∧ Below w1.heap.size w1 W)
  case first =>
    go_step
    refine ld_op rfl (.tmp 1) rfl b1 rfl _ k1 HA.out ?_
    simp only [Act.put, List.setIfInBounds_toArray, List.set_cons_zero, List.set_cons_succ]
    go_wp2_with fail
    refine (HBL.out w1).mono ?_
    rintro e w2 ⟨rfl, hb2⟩
    dsimp only
    iterate 1 go_step
    refine al_op rfl rfl ?_
    simp only [Act.put, List.setIfInBounds_toArray, List.set_cons_zero, List.set_cons_succ]
    refine st_op rfl (.tmp 3) (.tmp 5) rfl w2.heap.size _ rfl rfl Z30 (hp_alloc_new _ _) rfl rfl (by simp [Value.oneCell']) ?_
    simp only [Act.put, List.setIfInBounds_toArray, List.set_cons_zero, List.set_cons_succ]
    go_wp2
    go_meet
    exact ⟨_, rfl, hp_row (hp_alloc_new w2 (.cells Z30 30)), below_call hb2 (below_row (by (repeat (first | (with_reducible exact Below.refl _ _) | (with_reducible refine below_drew ?_) | (with_reducible refine below_alloc ?_ _)))) (Nat.le_refl _) _)⟩
  case rest =>
  obtain ⟨b3, rfl, k3, hB2⟩ := hcut
  have c3 := hp_cell k3
  have HBB : Hid (Below b1 w wc) := Lib.hid (by rw [← hb1] at *; exact below_call hBW hB2)
  clear k1 hBW hB2 k3
  go_wp2
  all_goals go_ret
  all_goals refine ⟨_, rfl, ?_, by rw [hb1]; exact HBB.out⟩
  all_goals ((try simp only [ba0, ba0'] at *); (try simp only [Bool.or_eq_true, Bool.and_eq_true, decide_eq_true_eq, decide_eq_false_iff_not, beq_iff_eq, bne_iff_ne, Bool.false_eq_true, Bool.not_eq_true', iff_true, true_iff, false_iff, iff_false, Bool.not_eq_false', ne_eq] at *); first | omega | (simp [*]; done) | (simp [*]; omega) | trace_state)

end Go.Proofs.Ytiklpifaaogcpaa
