/- things: lists. -/
import Derived.Test.YtiklpifaaogcpaaKt
import Derived.WalkKit
import Derived.WalkLawsBesides
import Derived.WalkSpells
import Derived.Below
import Derived.Deep.RegionHeld3
import Derived.Deep.QuietTactic
import Derived.BigQuiet
import Derived.Deep.DeepCutAuto
import Derived.Deep.DeepMust
import Derived.KernelRfl
import Derived.Lib.Hide
import Derived.Outline
import Derived.RegionTactic
import Derived.StillTailTactics
import Derived.Laws.IdiomStrings
import Derived.Handy
namespace Go.Proofs.Ytiklpifaaogcpaa
open Go.RowKit Go.Cl Go.Wr Go.Kc
set_option maxRecDepth 100000
set_option linter.unusedVariables false
set_option linter.unusedSimpArgs false


set_option maxHeartbeats 1000000 in
theorem c_things_1 (node inc ses tx seq lo hi err n : Int) (key data : ByteArray) (has hit : Bool) (W : List Wt) (K : List ByteArray) (wp kp : Option Addr) (wq kq : Nat) (w : World) (hLs : LsW w wp wq W) (hLn : W.length ≤ 9223372036854775807) : Calls Try.prog 31 #[.agg #[.int .i64 1, .int .i64 node, .int .i64 inc, .int .i64 ses, .int .i64 tx, .int .i64 seq, .string key, .int .i64 lo, .int .i64 hi, .bool has, .string data, .bool hit, .int .i64 err, .int .i64 n, .slice wp W.length wq, .slice kp K.length kq]] w (RetB (ThM ⟨1, node, inc, ses, tx, seq, key, lo, hi, has, data, hit, err, n, W, K⟩) w) := by
  have hb0 : Below w.heap.size w (w.alloc (.cells #[.int .i64 1, .int .i64 node, .int .i64 inc, .int .i64 ses, .int .i64 tx, .int .i64 seq, .string key, .int .i64 lo, .int .i64 hi, .bool has, .string data, .bool hit, .int .i64 err, .int .i64 n, .slice wp W.length wq, .slice kp K.length kq] 30)) := below_alloc (Below.refl _ _) _
  have hz0 := hp_alloc_new w (.cells #[.int .i64 1, .int .i64 node, .int .i64 inc, .int .i64 ses, .int .i64 tx, .int .i64 seq, .string key, .int .i64 lo, .int .i64 hi, .bool has, .string data, .bool hit, .int .i64 err, .int .i64 n, .slice wp W.length wq, .slice kp K.length kq] 30)
  have HB := Lib.hid (c_between W.length 1 8 (w.alloc (.cells #[.int .i64 1, .int .i64 node, .int .i64 inc, .int .i64 ses, .int .i64 tx, .int .i64 seq, .string key, .int .i64 lo, .int .i64 hi, .bool has, .string data, .bool hit, .int .i64 err, .int .i64 n, .slice wp W.length wq, .slice kp K.length kq] 30)))
  have HC := Lib.hid (c_containsW (w.alloc (.cells #[.int .i64 1, .int .i64 node, .int .i64 inc, .int .i64 ses, .int .i64 tx, .int .i64 seq, .string key, .int .i64 lo, .int .i64 hi, .bool has, .string data, .bool hit, .int .i64 err, .int .i64 n, .slice wp W.length wq, .slice kp K.length kq] 30)) wp wq W (hLs.below hb0) hLn)
  have HL := Lib.hid hLn; clear hLn hLs
  by_cases h1 : 1 ≤ W.length ∧ W.length ≤ 8
  rotate_left
  · have hd : decide ((1 : Int) ≤ (W.length : Int) ∧ (W.length : Int) ≤ 8) = false := by rw [decide_eq_false_iff_not]; omega
    rw [hd] at HB
    have H1 := Lib.hid h1; clear h1 hd
    go_enter Try.func31, Try.ntmps31
    go_wp2_with fail
    refine HB.out.mono ?_; rintro e w1 ⟨rfl, rfl⟩
    go_wp2
    go_ret
    exact ⟨_, rfl, by rw [thM_iff]; have := H1.out; simp [fullM]; omega, hb0⟩
  have hd : decide ((1 : Int) ≤ (W.length : Int) ∧ (W.length : Int) ≤ 8) = true := by rw [decide_eq_true_eq]; omega
  rw [hd] at HB
  have H1 := Lib.hid h1; clear h1 hd
  have H2 := Lib.hid (Classical.em (∀ x ∈ W, x.good))
  generalize hq : decide (¬ ∀ x ∈ W, x.good) = q at HC
  have HQ := Lib.hid hq; clear hq
  go_enter Try.func31, Try.ntmps31
  go_wp2_with fail
  refine HB.out.mono ?_; rintro e w1 ⟨rfl, rfl⟩
  go_wp2_with fail
  refine HC.out.mono ?_; rintro e w2 ⟨rfl, hb2⟩
  go_wp2
  go_ret
  refine ⟨_, rfl, ?_, below_call hb0 hb2⟩
  rw [thM_iff, ← HQ.out]
  have h1 := H1.out
  simp [fullM]
  exact fun _ => by omega

set_option maxHeartbeats 1000000 in
theorem c_things_8 (node inc ses tx seq lo hi err n : Int) (key data : ByteArray) (has hit : Bool) (W : List Wt) (K : List ByteArray) (wp kp : Option Addr) (wq kq : Nat) (w : World) (hLs : LsS w kp kq K) (hLn : K.length ≤ 9223372036854775807) : Calls Try.prog 31 #[.agg #[.int .i64 8, .int .i64 node, .int .i64 inc, .int .i64 ses, .int .i64 tx, .int .i64 seq, .string key, .int .i64 lo, .int .i64 hi, .bool has, .string data, .bool hit, .int .i64 err, .int .i64 n, .slice wp W.length wq, .slice kp K.length kq]] w (RetB (ThM ⟨8, node, inc, ses, tx, seq, key, lo, hi, has, data, hit, err, n, W, K⟩) w) := by
  have hb0 : Below w.heap.size w (w.alloc (.cells #[.int .i64 8, .int .i64 node, .int .i64 inc, .int .i64 ses, .int .i64 tx, .int .i64 seq, .string key, .int .i64 lo, .int .i64 hi, .bool has, .string data, .bool hit, .int .i64 err, .int .i64 n, .slice wp W.length wq, .slice kp K.length kq] 30)) := below_alloc (Below.refl _ _) _
  have hz0 := hp_alloc_new w (.cells #[.int .i64 8, .int .i64 node, .int .i64 inc, .int .i64 ses, .int .i64 tx, .int .i64 seq, .string key, .int .i64 lo, .int .i64 hi, .bool has, .string data, .bool hit, .int .i64 err, .int .i64 n, .slice wp W.length wq, .slice kp K.length kq] 30)
  have HB := Lib.hid (c_between K.length 1 8 (w.alloc (.cells #[.int .i64 8, .int .i64 node, .int .i64 inc, .int .i64 ses, .int .i64 tx, .int .i64 seq, .string key, .int .i64 lo, .int .i64 hi, .bool has, .string data, .bool hit, .int .i64 err, .int .i64 n, .slice wp W.length wq, .slice kp K.length kq] 30)))
  have HC := Lib.hid (c_containsK (w.alloc (.cells #[.int .i64 8, .int .i64 node, .int .i64 inc, .int .i64 ses, .int .i64 tx, .int .i64 seq, .string key, .int .i64 lo, .int .i64 hi, .bool has, .string data, .bool hit, .int .i64 err, .int .i64 n, .slice wp W.length wq, .slice kp K.length kq] 30)) kp kq K (hLs.below hb0) hLn)
  have HL := Lib.hid hLn; clear hLn hLs
  by_cases h1 : 1 ≤ K.length ∧ K.length ≤ 8
  rotate_left
  · have hd : decide ((1 : Int) ≤ (K.length : Int) ∧ (K.length : Int) ≤ 8) = false := by rw [decide_eq_false_iff_not]; omega
    rw [hd] at HB
    have H1 := Lib.hid h1; clear h1 hd
    go_enter Try.func31, Try.ntmps31
    go_wp2_with fail
    refine HB.out.mono ?_; rintro e w1 ⟨rfl, rfl⟩
    go_wp2
    go_ret
    exact ⟨_, rfl, by rw [thM_iff]; have := H1.out; simp [fullM]; omega, hb0⟩
  have hd : decide ((1 : Int) ≤ (K.length : Int) ∧ (K.length : Int) ≤ 8) = true := by rw [decide_eq_true_eq]; omega
  rw [hd] at HB
  have H1 := Lib.hid h1; clear h1 hd
  have H2 := Lib.hid (Classical.em (∀ x ∈ K, goodK x))
  generalize hq : decide (¬ ∀ x ∈ K, goodK x) = q at HC
  have HQ := Lib.hid hq; clear hq
  go_enter Try.func31, Try.ntmps31
  go_wp2_with fail
  refine HB.out.mono ?_; rintro e w1 ⟨rfl, rfl⟩
  go_wp2_with fail
  refine HC.out.mono ?_; rintro e w2 ⟨rfl, hb2⟩
  go_wp2
  go_ret
  refine ⟨_, rfl, ?_, below_call hb0 hb2⟩
  rw [thM_iff, ← HQ.out]
  have h1 := H1.out
  simp [fullM]
  exact fun _ => by omega

end Go.Proofs.Ytiklpifaaogcpaa
