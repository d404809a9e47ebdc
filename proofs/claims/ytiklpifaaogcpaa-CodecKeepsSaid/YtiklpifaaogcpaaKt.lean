/- Texts laid together: Kt Kt2. -/
import Derived.Test.YtiklpifaaogcpaaKs
import Derived.Test.YtiklpifaaogcpaaKb3
import Derived.WalkKit
import Derived.WalkLawsBesides
import Derived.WalkSpells
import Derived.Below
import Derived.Deep.RegionHeld3
import Derived.Deep.QuietTactic
import Derived.BigQuiet
import Derived.Deep.DeepCutAuto
import Derived.Deep.DeepMust
import Derived.KernelRfl
import Derived.Lib.Hide
import Derived.Outline
import Derived.RegionTactic
import Derived.StillTailTactics
import Derived.Laws.IdiomStrings
import Derived.Handy
namespace Go.Proofs.Ytiklpifaaogcpaa
open Go.RowKit Go.Cl Go.Wr Go.Kc
set_option maxRecDepth 100000
set_option linter.unusedVariables false
set_option linter.unusedSimpArgs false


theorem thM_iff (m : Mg) : ThM m ↔ ((m.kind = 1 → (∀ x ∈ m.W, x.good) ∧ 1 ≤ m.W.length ∧ m.W.length ≤ 8) ∧ (m.kind = 8 → (∀ x ∈ m.K, goodK x) ∧ 1 ≤ m.K.length ∧ m.K.length ≤ 8) ∧ ((m.kind = 3 ∨ m.kind = 5 ∨ m.kind = 7) → goodK m.key ∧ goodP m.lo m.hi) ∧ (m.kind = 7 → goodV m.has m.data) ∧ (fullM m → goodV m.has m.data ∧ goodP m.lo m.hi)) :=
  ⟨fun h => ⟨h.W, h.K, h.key, h.value, h.full⟩, fun ⟨a, b, c, d, e⟩ => ⟨a, b, c, d, e⟩⟩

set_option maxHeartbeats 1000000 in
theorem c_things_3 (node inc ses tx seq lo hi err n : Int) (key data : ByteArray) (has hit : Bool) (W : List Wt) (K : List ByteArray) (wp kp : Option Addr) (wq kq : Nat) (w : World) : Calls Try.prog 31 #[.agg #[.int .i64 3, .int .i64 node, .int .i64 inc, .int .i64 ses, .int .i64 tx, .int .i64 seq, .string key, .int .i64 lo, .int .i64 hi, .bool has, .string data, .bool hit, .int .i64 err, .int .i64 n, .slice wp W.length wq, .slice kp K.length kq]] w (RetB (ThM ⟨3, node, inc, ses, tx, seq, key, lo, hi, has, data, hit, err, n, W, K⟩) w) := by
  have hb0 : Below w.heap.size w (w.alloc (.cells #[.int .i64 3, .int .i64 node, .int .i64 inc, .int .i64 ses, .int .i64 tx, .int .i64 seq, .string key, .int .i64 lo, .int .i64 hi, .bool has, .string data, .bool hit, .int .i64 err, .int .i64 n, .slice wp W.length wq, .slice kp K.length kq] 30)) := below_alloc (Below.refl _ _) _
  have hz0 := hp_alloc_new w (.cells #[.int .i64 3, .int .i64 node, .int .i64 inc, .int .i64 ses, .int .i64 tx, .int .i64 seq, .string key, .int .i64 lo, .int .i64 hi, .bool has, .string data, .bool hit, .int .i64 err, .int .i64 n, .slice wp W.length wq, .slice kp K.length kq] 30)
  by_cases hp0 : goodK key
  rotate_left
  · have hd0 : decide (goodK key) = false := by simp [hp0]
    have HC0 := Lib.hid (fun W => c_goodKey key W)
    simp only [hd0] at HC0
    clear hd0
    have HP0 := Lib.hid hp0; clear hp0
    go_enter Try.func31, Try.ntmps31
    go_wp2_with fail
    refine (HC0.out _).mono ?_; rintro e w1 ⟨rfl, hb1⟩
    have hbb1 := below_call hb0 hb1
    have hzz1 := hp_below hb1 hz0
    have hc1 := hp_cell hzz1
    go_wp2
    go_ret
    exact ⟨_, rfl, by rw [thM_iff]; simp [fullM, HP0.out], hbb1⟩
  by_cases hp1 : goodP lo hi
  rotate_left
  · have hd0 : decide (goodK key) = true := by simp [hp0]
    have HC0 := Lib.hid (fun W => c_goodKey key W)
    simp only [hd0] at HC0
    clear hd0
    have hd1 : decide (goodP lo hi) = false := by simp [hp1]
    have HC1 := Lib.hid (fun W => c_goodPin lo hi W)
    simp only [hd1] at HC1
    clear hd1
    have HP0 := Lib.hid hp0; clear hp0
    have HP1 := Lib.hid hp1; clear hp1
    go_enter Try.func31, Try.ntmps31
    go_wp2_with fail
    refine (HC0.out _).mono ?_; rintro e w1 ⟨rfl, hb1⟩
    have hbb1 := below_call hb0 hb1
    have hzz1 := hp_below hb1 hz0
    have hc1 := hp_cell hzz1
    go_wp2_with fail
    refine (HC1.out _).mono ?_; rintro e w2 ⟨rfl, hb2⟩
    have hbb2 := below_call hbb1 hb2
    have hzz2 := hp_below hb2 hzz1
    have hc2 := hp_cell hzz2
    clear hc1
    go_wp2
    go_ret
    exact ⟨_, rfl, by rw [thM_iff]; simp [fullM, HP0.out, HP1.out], hbb2⟩
  have hd0 : decide (goodK key) = true := by simp [hp0]
  have HC0 := Lib.hid (fun W => c_goodKey key W)
  simp only [hd0] at HC0
  clear hd0
  have hd1 : decide (goodP lo hi) = true := by simp [hp1]
  have HC1 := Lib.hid (fun W => c_goodPin lo hi W)
  simp only [hd1] at HC1
  clear hd1
  have HP0 := Lib.hid hp0; clear hp0
  have HP1 := Lib.hid hp1; clear hp1
  go_enter Try.func31, Try.ntmps31
  go_wp2_with fail
  refine (HC0.out _).mono ?_; rintro e w1 ⟨rfl, hb1⟩
  have hbb1 := below_call hb0 hb1
  have hzz1 := hp_below hb1 hz0
  have hc1 := hp_cell hzz1
  go_wp2_with fail
  refine (HC1.out _).mono ?_; rintro e w2 ⟨rfl, hb2⟩
  have hbb2 := below_call hbb1 hb2
  have hzz2 := hp_below hb2 hzz1
  have hc2 := hp_cell hzz2
  clear hc1
  go_wp2
  go_ret
  exact ⟨_, rfl, by rw [thM_iff]; simp [fullM, HP0.out, HP1.out], hbb2⟩

set_option maxHeartbeats 1000000 in
theorem c_things_5 (node inc ses tx seq lo hi err n : Int) (key data : ByteArray) (has hit : Bool) (W : List Wt) (K : List ByteArray) (wp kp : Option Addr) (wq kq : Nat) (w : World) : Calls Try.prog 31 #[.agg #[.int .i64 5, .int .i64 node, .int .i64 inc, .int .i64 ses, .int .i64 tx, .int .i64 seq, .string key, .int .i64 lo, .int .i64 hi, .bool has, .string data, .bool hit, .int .i64 err, .int .i64 n, .slice wp W.length wq, .slice kp K.length kq]] w (RetB (ThM ⟨5, node, inc, ses, tx, seq, key, lo, hi, has, data, hit, err, n, W, K⟩) w) := by
  have hb0 : Below w.heap.size w (w.alloc (.cells #[.int .i64 5, .int .i64 node, .int .i64 inc, .int .i64 ses, .int .i64 tx, .int .i64 seq, .string key, .int .i64 lo, .int .i64 hi, .bool has, .string data, .bool hit, .int .i64 err, .int .i64 n, .slice wp W.length wq, .slice kp K.length kq] 30)) := below_alloc (Below.refl _ _) _
  have hz0 := hp_alloc_new w (.cells #[.int .i64 5, .int .i64 node, .int .i64 inc, .int .i64 ses, .int .i64 tx, .int .i64 seq, .string key, .int .i64 lo, .int .i64 hi, .bool has, .string data, .bool hit, .int .i64 err, .int .i64 n, .slice wp W.length wq, .slice kp K.length kq] 30)
  by_cases hp0 : goodK key
  rotate_left
  · have hd0 : decide (goodK key) = false := by simp [hp0]
    have HC0 := Lib.hid (fun W => c_goodKey key W)
    simp only [hd0] at HC0
    clear hd0
    have HP0 := Lib.hid hp0; clear hp0
    go_enter Try.func31, Try.ntmps31
    go_wp2_with fail
    refine (HC0.out _).mono ?_; rintro e w1 ⟨rfl, hb1⟩
    have hbb1 := below_call hb0 hb1
    have hzz1 := hp_below hb1 hz0
    have hc1 := hp_cell hzz1
    go_wp2
    go_ret
    exact ⟨_, rfl, by rw [thM_iff]; simp [fullM, HP0.out], hbb1⟩
  by_cases hp1 : goodP lo hi
  rotate_left
  · have hd0 : decide (goodK key) = true := by simp [hp0]
    have HC0 := Lib.hid (fun W => c_goodKey key W)
    simp only [hd0] at HC0
    clear hd0
    have hd1 : decide (goodP lo hi) = false := by simp [hp1]
    have HC1 := Lib.hid (fun W => c_goodPin lo hi W)
    simp only [hd1] at HC1
    clear hd1
    have HP0 := Lib.hid hp0; clear hp0
    have HP1 := Lib.hid hp1; clear hp1
    go_enter Try.func31, Try.ntmps31
    go_wp2_with fail
    refine (HC0.out _).mono ?_; rintro e w1 ⟨rfl, hb1⟩
    have hbb1 := below_call hb0 hb1
    have hzz1 := hp_below hb1 hz0
    have hc1 := hp_cell hzz1
    go_wp2_with fail
    refine (HC1.out _).mono ?_; rintro e w2 ⟨rfl, hb2⟩
    have hbb2 := below_call hbb1 hb2
    have hzz2 := hp_below hb2 hzz1
    have hc2 := hp_cell hzz2
    clear hc1
    go_wp2
    go_ret
    exact ⟨_, rfl, by rw [thM_iff]; simp [fullM, HP0.out, HP1.out], hbb2⟩
  have hd0 : decide (goodK key) = true := by simp [hp0]
  have HC0 := Lib.hid (fun W => c_goodKey key W)
  simp only [hd0] at HC0
  clear hd0
  have hd1 : decide (goodP lo hi) = true := by simp [hp1]
  have HC1 := Lib.hid (fun W => c_goodPin lo hi W)
  simp only [hd1] at HC1
  clear hd1
  have HP0 := Lib.hid hp0; clear hp0
  have HP1 := Lib.hid hp1; clear hp1
  go_enter Try.func31, Try.ntmps31
  go_wp2_with fail
  refine (HC0.out _).mono ?_; rintro e w1 ⟨rfl, hb1⟩
  have hbb1 := below_call hb0 hb1
  have hzz1 := hp_below hb1 hz0
  have hc1 := hp_cell hzz1
  go_wp2_with fail
  refine (HC1.out _).mono ?_; rintro e w2 ⟨rfl, hb2⟩
  have hbb2 := below_call hbb1 hb2
  have hzz2 := hp_below hb2 hzz1
  have hc2 := hp_cell hzz2
  clear hc1
  go_wp2
  go_ret
  exact ⟨_, rfl, by rw [thM_iff]; simp [fullM, HP0.out, HP1.out], hbb2⟩

set_option maxHeartbeats 1000000 in
theorem c_things_7 (node inc ses tx seq lo hi err n : Int) (key data : ByteArray) (has hit : Bool) (W : List Wt) (K : List ByteArray) (wp kp : Option Addr) (wq kq : Nat) (w : World) : Calls Try.prog 31 #[.agg #[.int .i64 7, .int .i64 node, .int .i64 inc, .int .i64 ses, .int .i64 tx, .int .i64 seq, .string key, .int .i64 lo, .int .i64 hi, .bool has, .string data, .bool hit, .int .i64 err, .int .i64 n, .slice wp W.length wq, .slice kp K.length kq]] w (RetB (ThM ⟨7, node, inc, ses, tx, seq, key, lo, hi, has, data, hit, err, n, W, K⟩) w) := by
  have hb0 : Below w.heap.size w (w.alloc (.cells #[.int .i64 7, .int .i64 node, .int .i64 inc, .int .i64 ses, .int .i64 tx, .int .i64 seq, .string key, .int .i64 lo, .int .i64 hi, .bool has, .string data, .bool hit, .int .i64 err, .int .i64 n, .slice wp W.length wq, .slice kp K.length kq] 30)) := below_alloc (Below.refl _ _) _
  have hz0 := hp_alloc_new w (.cells #[.int .i64 7, .int .i64 node, .int .i64 inc, .int .i64 ses, .int .i64 tx, .int .i64 seq, .string key, .int .i64 lo, .int .i64 hi, .bool has, .string data, .bool hit, .int .i64 err, .int .i64 n, .slice wp W.length wq, .slice kp K.length kq] 30)
  by_cases hp0 : goodK key
  rotate_left
  · have hd0 : decide (goodK key) = false := by simp [hp0]
    have HC0 := Lib.hid (fun W => c_goodKey key W)
    simp only [hd0] at HC0
    clear hd0
    have HP0 := Lib.hid hp0; clear hp0
    go_enter Try.func31, Try.ntmps31
    go_wp2_with fail
    refine (HC0.out _).mono ?_; rintro e w1 ⟨rfl, hb1⟩
    have hbb1 := below_call hb0 hb1
    have hzz1 := hp_below hb1 hz0
    have hc1 := hp_cell hzz1
    go_wp2
    go_ret
    exact ⟨_, rfl, by rw [thM_iff]; simp [fullM, HP0.out], hbb1⟩
  by_cases hp1 : goodV has data
  rotate_left
  · have hd0 : decide (goodK key) = true := by simp [hp0]
    have HC0 := Lib.hid (fun W => c_goodKey key W)
    simp only [hd0] at HC0
    clear hd0
    have hd1 : decide (goodV has data) = false := by simp [hp1]
    have HC1 := Lib.hid (fun W => c_goodValue has data W)
    simp only [hd1] at HC1
    clear hd1
    have HP0 := Lib.hid hp0; clear hp0
    have HP1 := Lib.hid hp1; clear hp1
    go_enter Try.func31, Try.ntmps31
    go_wp2_with fail
    refine (HC0.out _).mono ?_; rintro e w1 ⟨rfl, hb1⟩
    have hbb1 := below_call hb0 hb1
    have hzz1 := hp_below hb1 hz0
    have hc1 := hp_cell hzz1
    go_wp2_with fail
    refine (HC1.out _).mono ?_; rintro e w2 ⟨rfl, hb2⟩
    have hbb2 := below_call hbb1 hb2
    have hzz2 := hp_below hb2 hzz1
    have hc2 := hp_cell hzz2
    clear hc1
    go_wp2
    go_ret
    exact ⟨_, rfl, by rw [thM_iff]; simp [fullM, HP0.out, HP1.out], hbb2⟩
  by_cases hp2 : goodP lo hi
  rotate_left
  · have hd0 : decide (goodK key) = true := by simp [hp0]
    have HC0 := Lib.hid (fun W => c_goodKey key W)
    simp only [hd0] at HC0
    clear hd0
    have hd1 : decide (goodV has data) = true := by simp [hp1]
    have HC1 := Lib.hid (fun W => c_goodValue has data W)
    simp only [hd1] at HC1
    clear hd1
    have hd2 : decide (goodP lo hi) = false := by simp [hp2]
    have HC2 := Lib.hid (fun W => c_goodPin lo hi W)
    simp only [hd2] at HC2
    clear hd2
    have HP0 := Lib.hid hp0; clear hp0
    have HP1 := Lib.hid hp1; clear hp1
    have HP2 := Lib.hid hp2; clear hp2
    go_enter Try.func31, Try.ntmps31
    go_wp2_with fail
    refine (HC0.out _).mono ?_; rintro e w1 ⟨rfl, hb1⟩
    have hbb1 := below_call hb0 hb1
    have hzz1 := hp_below hb1 hz0
    have hc1 := hp_cell hzz1
    go_wp2_with fail
    refine (HC1.out _).mono ?_; rintro e w2 ⟨rfl, hb2⟩
    have hbb2 := below_call hbb1 hb2
    have hzz2 := hp_below hb2 hzz1
    have hc2 := hp_cell hzz2
    clear hc1
    go_wp2_with fail
    refine (HC2.out _).mono ?_; rintro e w3 ⟨rfl, hb3⟩
    have hbb3 := below_call hbb2 hb3
    have hzz3 := hp_below hb3 hzz2
    have hc3 := hp_cell hzz3
    clear hc2
    go_wp2
    go_ret
    exact ⟨_, rfl, by rw [thM_iff]; simp [fullM, HP0.out, HP1.out, HP2.out], hbb3⟩
  have hd0 : decide (goodK key) = true := by simp [hp0]
  have HC0 := Lib.hid (fun W => c_goodKey key W)
  simp only [hd0] at HC0
  clear hd0
  have hd1 : decide (goodV has data) = true := by simp [hp1]
  have HC1 := Lib.hid (fun W => c_goodValue has data W)
  simp only [hd1] at HC1
  clear hd1
  have hd2 : decide (goodP lo hi) = true := by simp [hp2]
  have HC2 := Lib.hid (fun W => c_goodPin lo hi W)
  simp only [hd2] at HC2
  clear hd2
  have HP0 := Lib.hid hp0; clear hp0
  have HP1 := Lib.hid hp1; clear hp1
  have HP2 := Lib.hid hp2; clear hp2
  go_enter Try.func31, Try.ntmps31
  go_wp2_with fail
  refine (HC0.out _).mono ?_; rintro e w1 ⟨rfl, hb1⟩
  have hbb1 := below_call hb0 hb1
  have hzz1 := hp_below hb1 hz0
  have hc1 := hp_cell hzz1
  go_wp2_with fail
  refine (HC1.out _).mono ?_; rintro e w2 ⟨rfl, hb2⟩
  have hbb2 := below_call hbb1 hb2
  have hzz2 := hp_below hb2 hzz1
  have hc2 := hp_cell hzz2
  clear hc1
  go_wp2_with fail
  refine (HC2.out _).mono ?_; rintro e w3 ⟨rfl, hb3⟩
  have hbb3 := below_call hbb2 hb3
  have hzz3 := hp_below hb3 hzz2
  have hc3 := hp_cell hzz3
  clear hc2
  go_wp2
  go_ret
  exact ⟨_, rfl, by rw [thM_iff]; simp [fullM, HP0.out, HP1.out, HP2.out], hbb3⟩

set_option maxHeartbeats 1000000 in
theorem c_things_4t (node inc ses tx seq lo hi err n : Int) (key data : ByteArray) (has hit : Bool) (W : List Wt) (K : List ByteArray) (wp kp : Option Addr) (wq kq : Nat) (w : World) : Calls Try.prog 31 #[.agg #[.int .i64 4, .int .i64 node, .int .i64 inc, .int .i64 ses, .int .i64 tx, .int .i64 seq, .string key, .int .i64 lo, .int .i64 hi, .bool has, .string data, .bool true, .int .i64 err, .int .i64 n, .slice wp W.length wq, .slice kp K.length kq]] w (RetB (ThM ⟨4, node, inc, ses, tx, seq, key, lo, hi, has, data, true, err, n, W, K⟩) w) := by
  have hb0 : Below w.heap.size w (w.alloc (.cells #[.int .i64 4, .int .i64 node, .int .i64 inc, .int .i64 ses, .int .i64 tx, .int .i64 seq, .string key, .int .i64 lo, .int .i64 hi, .bool has, .string data, .bool true, .int .i64 err, .int .i64 n, .slice wp W.length wq, .slice kp K.length kq] 30)) := below_alloc (Below.refl _ _) _
  have hz0 := hp_alloc_new w (.cells #[.int .i64 4, .int .i64 node, .int .i64 inc, .int .i64 ses, .int .i64 tx, .int .i64 seq, .string key, .int .i64 lo, .int .i64 hi, .bool has, .string data, .bool true, .int .i64 err, .int .i64 n, .slice wp W.length wq, .slice kp K.length kq] 30)
  by_cases hp0 : goodV has data
  rotate_left
  · have hd0 : decide (goodV has data) = false := by simp [hp0]
    have HC0 := Lib.hid (fun W => c_goodValue has data W)
    simp only [hd0] at HC0
    clear hd0
    have HP0 := Lib.hid hp0; clear hp0
    go_enter Try.func31, Try.ntmps31
    go_wp2_with fail
    refine (HC0.out _).mono ?_; rintro e w1 ⟨rfl, hb1⟩
    have hbb1 := below_call hb0 hb1
    have hzz1 := hp_below hb1 hz0
    have hc1 := hp_cell hzz1
    go_wp2
    go_ret
    exact ⟨_, rfl, by rw [thM_iff]; simp [fullM, HP0.out], hbb1⟩
  by_cases hp1 : goodP lo hi
  rotate_left
  · have hd0 : decide (goodV has data) = true := by simp [hp0]
    have HC0 := Lib.hid (fun W => c_goodValue has data W)
    simp only [hd0] at HC0
    clear hd0
    have hd1 : decide (goodP lo hi) = false := by simp [hp1]
    have HC1 := Lib.hid (fun W => c_goodPin lo hi W)
    simp only [hd1] at HC1
    clear hd1
    have HP0 := Lib.hid hp0; clear hp0
    have HP1 := Lib.hid hp1; clear hp1
    go_enter Try.func31, Try.ntmps31
    go_wp2_with fail
    refine (HC0.out _).mono ?_; rintro e w1 ⟨rfl, hb1⟩
    have hbb1 := below_call hb0 hb1
    have hzz1 := hp_below hb1 hz0
    have hc1 := hp_cell hzz1
    go_wp2_with fail
    refine (HC1.out _).mono ?_; rintro e w2 ⟨rfl, hb2⟩
    have hbb2 := below_call hbb1 hb2
    have hzz2 := hp_below hb2 hzz1
    have hc2 := hp_cell hzz2
    clear hc1
    go_wp2
    go_ret
    exact ⟨_, rfl, by rw [thM_iff]; simp [fullM, HP0.out, HP1.out], hbb2⟩
  have hd0 : decide (goodV has data) = true := by simp [hp0]
  have HC0 := Lib.hid (fun W => c_goodValue has data W)
  simp only [hd0] at HC0
  clear hd0
  have hd1 : decide (goodP lo hi) = true := by simp [hp1]
  have HC1 := Lib.hid (fun W => c_goodPin lo hi W)
  simp only [hd1] at HC1
  clear hd1
  have HP0 := Lib.hid hp0; clear hp0
  have HP1 := Lib.hid hp1; clear hp1
  go_enter Try.func31, Try.ntmps31
  go_wp2_with fail
  refine (HC0.out _).mono ?_; rintro e w1 ⟨rfl, hb1⟩
  have hbb1 := below_call hb0 hb1
  have hzz1 := hp_below hb1 hz0
  have hc1 := hp_cell hzz1
  go_wp2_with fail
  refine (HC1.out _).mono ?_; rintro e w2 ⟨rfl, hb2⟩
  have hbb2 := below_call hbb1 hb2
  have hzz2 := hp_below hb2 hzz1
  have hc2 := hp_cell hzz2
  clear hc1
  go_wp2
  go_ret
  exact ⟨_, rfl, by rw [thM_iff]; simp [fullM, HP0.out, HP1.out], hbb2⟩

set_option maxHeartbeats 1000000 in
theorem c_things_4f (node inc ses tx seq lo hi err n : Int) (key data : ByteArray) (has hit : Bool) (W : List Wt) (K : List ByteArray) (wp kp : Option Addr) (wq kq : Nat) (w : World) : Calls Try.prog 31 #[.agg #[.int .i64 4, .int .i64 node, .int .i64 inc, .int .i64 ses, .int .i64 tx, .int .i64 seq, .string key, .int .i64 lo, .int .i64 hi, .bool has, .string data, .bool false, .int .i64 err, .int .i64 n, .slice wp W.length wq, .slice kp K.length kq]] w (RetB (ThM ⟨4, node, inc, ses, tx, seq, key, lo, hi, has, data, false, err, n, W, K⟩) w) := by
  have hb0 : Below w.heap.size w (w.alloc (.cells #[.int .i64 4, .int .i64 node, .int .i64 inc, .int .i64 ses, .int .i64 tx, .int .i64 seq, .string key, .int .i64 lo, .int .i64 hi, .bool has, .string data, .bool false, .int .i64 err, .int .i64 n, .slice wp W.length wq, .slice kp K.length kq] 30)) := below_alloc (Below.refl _ _) _
  have hz0 := hp_alloc_new w (.cells #[.int .i64 4, .int .i64 node, .int .i64 inc, .int .i64 ses, .int .i64 tx, .int .i64 seq, .string key, .int .i64 lo, .int .i64 hi, .bool has, .string data, .bool false, .int .i64 err, .int .i64 n, .slice wp W.length wq, .slice kp K.length kq] 30)
  go_enter Try.func31, Try.ntmps31
  go_wp2
  go_ret
  exact ⟨_, rfl, by rw [thM_iff]; simp [fullM], hb0⟩

set_option maxHeartbeats 1000000 in
theorem c_things_6t (node inc ses tx seq lo hi err n : Int) (key data : ByteArray) (has hit : Bool) (W : List Wt) (K : List ByteArray) (wp kp : Option Addr) (wq kq : Nat) (w : World) : Calls Try.prog 31 #[.agg #[.int .i64 6, .int .i64 node, .int .i64 inc, .int .i64 ses, .int .i64 tx, .int .i64 seq, .string key, .int .i64 lo, .int .i64 hi, .bool has, .string data, .bool false, .int .i64 0, .int .i64 n, .slice wp W.length wq, .slice kp K.length kq]] w (RetB (ThM ⟨6, node, inc, ses, tx, seq, key, lo, hi, has, data, false, 0, n, W, K⟩) w) := by
  have hb0 : Below w.heap.size w (w.alloc (.cells #[.int .i64 6, .int .i64 node, .int .i64 inc, .int .i64 ses, .int .i64 tx, .int .i64 seq, .string key, .int .i64 lo, .int .i64 hi, .bool has, .string data, .bool false, .int .i64 0, .int .i64 n, .slice wp W.length wq, .slice kp K.length kq] 30)) := below_alloc (Below.refl _ _) _
  have hz0 := hp_alloc_new w (.cells #[.int .i64 6, .int .i64 node, .int .i64 inc, .int .i64 ses, .int .i64 tx, .int .i64 seq, .string key, .int .i64 lo, .int .i64 hi, .bool has, .string data, .bool false, .int .i64 0, .int .i64 n, .slice wp W.length wq, .slice kp K.length kq] 30)
  by_cases hp0 : goodV has data
  rotate_left
  · have hd0 : decide (goodV has data) = false := by simp [hp0]
    have HC0 := Lib.hid (fun W => c_goodValue has data W)
    simp only [hd0] at HC0
    clear hd0
    have HP0 := Lib.hid hp0; clear hp0
    go_enter Try.func31, Try.ntmps31
    go_wp2_with fail
    refine (HC0.out _).mono ?_; rintro e w1 ⟨rfl, hb1⟩
    have hbb1 := below_call hb0 hb1
    have hzz1 := hp_below hb1 hz0
    have hc1 := hp_cell hzz1
    go_wp2
    go_ret
    exact ⟨_, rfl, by rw [thM_iff]; simp [fullM, HP0.out], hbb1⟩
  by_cases hp1 : goodP lo hi
  rotate_left
  · have hd0 : decide (goodV has data) = true := by simp [hp0]
    have HC0 := Lib.hid (fun W => c_goodValue has data W)
    simp only [hd0] at HC0
    clear hd0
    have hd1 : decide (goodP lo hi) = false := by simp [hp1]
    have HC1 := Lib.hid (fun W => c_goodPin lo hi W)
    simp only [hd1] at HC1
    clear hd1
    have HP0 := Lib.hid hp0; clear hp0
    have HP1 := Lib.hid hp1; clear hp1
    go_enter Try.func31, Try.ntmps31
    go_wp2_with fail
    refine (HC0.out _).mono ?_; rintro e w1 ⟨rfl, hb1⟩
    have hbb1 := below_call hb0 hb1
    have hzz1 := hp_below hb1 hz0
    have hc1 := hp_cell hzz1
    go_wp2_with fail
    refine (HC1.out _).mono ?_; rintro e w2 ⟨rfl, hb2⟩
    have hbb2 := below_call hbb1 hb2
    have hzz2 := hp_below hb2 hzz1
    have hc2 := hp_cell hzz2
    clear hc1
    go_wp2
    go_ret
    exact ⟨_, rfl, by rw [thM_iff]; simp [fullM, HP0.out, HP1.out], hbb2⟩
  have hd0 : decide (goodV has data) = true := by simp [hp0]
  have HC0 := Lib.hid (fun W => c_goodValue has data W)
  simp only [hd0] at HC0
  clear hd0
  have hd1 : decide (goodP lo hi) = true := by simp [hp1]
  have HC1 := Lib.hid (fun W => c_goodPin lo hi W)
  simp only [hd1] at HC1
  clear hd1
  have HP0 := Lib.hid hp0; clear hp0
  have HP1 := Lib.hid hp1; clear hp1
  go_enter Try.func31, Try.ntmps31
  go_wp2_with fail
  refine (HC0.out _).mono ?_; rintro e w1 ⟨rfl, hb1⟩
  have hbb1 := below_call hb0 hb1
  have hzz1 := hp_below hb1 hz0
  have hc1 := hp_cell hzz1
  go_wp2_with fail
  refine (HC1.out _).mono ?_; rintro e w2 ⟨rfl, hb2⟩
  have hbb2 := below_call hbb1 hb2
  have hzz2 := hp_below hb2 hzz1
  have hc2 := hp_cell hzz2
  clear hc1
  go_wp2
  go_ret
  exact ⟨_, rfl, by rw [thM_iff]; simp [fullM, HP0.out, HP1.out], hbb2⟩

set_option maxHeartbeats 1000000 in
theorem c_things_6f (node inc ses tx seq lo hi err n : Int) (key data : ByteArray) (has hit : Bool) (W : List Wt) (K : List ByteArray) (wp kp : Option Addr) (wq kq : Nat) (w : World) (hz : (err == 0) = false) : Calls Try.prog 31 #[.agg #[.int .i64 6, .int .i64 node, .int .i64 inc, .int .i64 ses, .int .i64 tx, .int .i64 seq, .string key, .int .i64 lo, .int .i64 hi, .bool has, .string data, .bool false, .int .i64 err, .int .i64 n, .slice wp W.length wq, .slice kp K.length kq]] w (RetB (ThM ⟨6, node, inc, ses, tx, seq, key, lo, hi, has, data, false, err, n, W, K⟩) w) := by
  have hb0 : Below w.heap.size w (w.alloc (.cells #[.int .i64 6, .int .i64 node, .int .i64 inc, .int .i64 ses, .int .i64 tx, .int .i64 seq, .string key, .int .i64 lo, .int .i64 hi, .bool has, .string data, .bool false, .int .i64 err, .int .i64 n, .slice wp W.length wq, .slice kp K.length kq] 30)) := below_alloc (Below.refl _ _) _
  have hz0 := hp_alloc_new w (.cells #[.int .i64 6, .int .i64 node, .int .i64 inc, .int .i64 ses, .int .i64 tx, .int .i64 seq, .string key, .int .i64 lo, .int .i64 hi, .bool has, .string data, .bool false, .int .i64 err, .int .i64 n, .slice wp W.length wq, .slice kp K.length kq] 30)
  go_enter Try.func31, Try.ntmps31
  go_wp2
  go_ret
  exact ⟨_, rfl, by rw [thM_iff]; simp [fullM]; exact fun h => absurd h (by simpa using hz), hb0⟩

set_option maxHeartbeats 1000000 in
theorem c_things_9 (node inc ses tx seq lo hi err n : Int) (key data : ByteArray) (has hit : Bool) (W : List Wt) (K : List ByteArray) (wp kp : Option Addr) (wq kq : Nat) (w : World) : Calls Try.prog 31 #[.agg #[.int .i64 9, .int .i64 node, .int .i64 inc, .int .i64 ses, .int .i64 tx, .int .i64 seq, .string key, .int .i64 lo, .int .i64 hi, .bool has, .string data, .bool hit, .int .i64 err, .int .i64 n, .slice wp W.length wq, .slice kp K.length kq]] w (RetB (ThM ⟨9, node, inc, ses, tx, seq, key, lo, hi, has, data, hit, err, n, W, K⟩) w) := by
  have hb0 : Below w.heap.size w (w.alloc (.cells #[.int .i64 9, .int .i64 node, .int .i64 inc, .int .i64 ses, .int .i64 tx, .int .i64 seq, .string key, .int .i64 lo, .int .i64 hi, .bool has, .string data, .bool hit, .int .i64 err, .int .i64 n, .slice wp W.length wq, .slice kp K.length kq] 30)) := below_alloc (Below.refl _ _) _
  have hz0 := hp_alloc_new w (.cells #[.int .i64 9, .int .i64 node, .int .i64 inc, .int .i64 ses, .int .i64 tx, .int .i64 seq, .string key, .int .i64 lo, .int .i64 hi, .bool has, .string data, .bool hit, .int .i64 err, .int .i64 n, .slice wp W.length wq, .slice kp K.length kq] 30)
  go_enter Try.func31, Try.ntmps31
  go_wp2
  go_ret
  exact ⟨_, rfl, by rw [thM_iff]; simp [fullM], hb0⟩

set_option maxHeartbeats 1000000 in
theorem c_things_10 (node inc ses tx seq lo hi err n : Int) (key data : ByteArray) (has hit : Bool) (W : List Wt) (K : List ByteArray) (wp kp : Option Addr) (wq kq : Nat) (w : World) : Calls Try.prog 31 #[.agg #[.int .i64 10, .int .i64 node, .int .i64 inc, .int .i64 ses, .int .i64 tx, .int .i64 seq, .string key, .int .i64 lo, .int .i64 hi, .bool has, .string data, .bool hit, .int .i64 err, .int .i64 n, .slice wp W.length wq, .slice kp K.length kq]] w (RetB (ThM ⟨10, node, inc, ses, tx, seq, key, lo, hi, has, data, hit, err, n, W, K⟩) w) := by
  have hb0 : Below w.heap.size w (w.alloc (.cells #[.int .i64 10, .int .i64 node, .int .i64 inc, .int .i64 ses, .int .i64 tx, .int .i64 seq, .string key, .int .i64 lo, .int .i64 hi, .bool has, .string data, .bool hit, .int .i64 err, .int .i64 n, .slice wp W.length wq, .slice kp K.length kq] 30)) := below_alloc (Below.refl _ _) _
  have hz0 := hp_alloc_new w (.cells #[.int .i64 10, .int .i64 node, .int .i64 inc, .int .i64 ses, .int .i64 tx, .int .i64 seq, .string key, .int .i64 lo, .int .i64 hi, .bool has, .string data, .bool hit, .int .i64 err, .int .i64 n, .slice wp W.length wq, .slice kp K.length kq] 30)
  go_enter Try.func31, Try.ntmps31
  go_wp2
  go_ret
  exact ⟨_, rfl, by rw [thM_iff]; simp [fullM], hb0⟩

set_option maxHeartbeats 1000000 in
theorem c_things_11 (node inc ses tx seq lo hi err n : Int) (key data : ByteArray) (has hit : Bool) (W : List Wt) (K : List ByteArray) (wp kp : Option Addr) (wq kq : Nat) (w : World) : Calls Try.prog 31 #[.agg #[.int .i64 11, .int .i64 node, .int .i64 inc, .int .i64 ses, .int .i64 tx, .int .i64 seq, .string key, .int .i64 lo, .int .i64 hi, .bool has, .string data, .bool hit, .int .i64 err, .int .i64 n, .slice wp W.length wq, .slice kp K.length kq]] w (RetB (ThM ⟨11, node, inc, ses, tx, seq, key, lo, hi, has, data, hit, err, n, W, K⟩) w) := by
  have hb0 : Below w.heap.size w (w.alloc (.cells #[.int .i64 11, .int .i64 node, .int .i64 inc, .int .i64 ses, .int .i64 tx, .int .i64 seq, .string key, .int .i64 lo, .int .i64 hi, .bool has, .string data, .bool hit, .int .i64 err, .int .i64 n, .slice wp W.length wq, .slice kp K.length kq] 30)) := below_alloc (Below.refl _ _) _
  have hz0 := hp_alloc_new w (.cells #[.int .i64 11, .int .i64 node, .int .i64 inc, .int .i64 ses, .int .i64 tx, .int .i64 seq, .string key, .int .i64 lo, .int .i64 hi, .bool has, .string data, .bool hit, .int .i64 err, .int .i64 n, .slice wp W.length wq, .slice kp K.length kq] 30)
  go_enter Try.func31, Try.ntmps31
  go_wp2
  go_ret
  exact ⟨_, rfl, by rw [thM_iff]; simp [fullM], hb0⟩

set_option maxHeartbeats 1000000 in
theorem c_things_2 (node inc ses tx seq lo hi err n : Int) (key data : ByteArray) (has hit : Bool) (W : List Wt) (K : List ByteArray) (wp kp : Option Addr) (wq kq : Nat) (w : World) : Calls Try.prog 31 #[.agg #[.int .i64 2, .int .i64 node, .int .i64 inc, .int .i64 ses, .int .i64 tx, .int .i64 seq, .string key, .int .i64 lo, .int .i64 hi, .bool has, .string data, .bool hit, .int .i64 err, .int .i64 n, .slice wp W.length wq, .slice kp K.length kq]] w (RetB (ThM ⟨2, node, inc, ses, tx, seq, key, lo, hi, has, data, hit, err, n, W, K⟩) w) := by
  have hb0 : Below w.heap.size w (w.alloc (.cells #[.int .i64 2, .int .i64 node, .int .i64 inc, .int .i64 ses, .int .i64 tx, .int .i64 seq, .string key, .int .i64 lo, .int .i64 hi, .bool has, .string data, .bool hit, .int .i64 err, .int .i64 n, .slice wp W.length wq, .slice kp K.length kq] 30)) := below_alloc (Below.refl _ _) _
  have hz0 := hp_alloc_new w (.cells #[.int .i64 2, .int .i64 node, .int .i64 inc, .int .i64 ses, .int .i64 tx, .int .i64 seq, .string key, .int .i64 lo, .int .i64 hi, .bool has, .string data, .bool hit, .int .i64 err, .int .i64 n, .slice wp W.length wq, .slice kp K.length kq] 30)
  go_enter Try.func31, Try.ntmps31
  go_wp2
  go_ret
  exact ⟨_, rfl, by rw [thM_iff]; simp [fullM], hb0⟩

end Go.Proofs.Ytiklpifaaogcpaa

namespace Go.Proofs.Ytiklpifaaogcpaa
open Go.RowKit Go.Cl Go.Wr Go.Kc
set_option maxRecDepth 100000
set_option linter.unusedVariables false
set_option linter.unusedSimpArgs false


set_option maxHeartbeats 1000000 in
theorem c_things_1 (node inc ses tx seq lo hi err n : Int) (key data : ByteArray) (has hit : Bool) (W : List Wt) (K : List ByteArray) (wp kp : Option Addr) (wq kq : Nat) (w : World) (hLs : LsW w wp wq W) (hLn : W.length ≤ 9223372036854775807) : Calls Try.prog 31 #[.agg #[.int .i64 1, .int .i64 node, .int .i64 inc, .int .i64 ses, .int .i64 tx, .int .i64 seq, .string key, .int .i64 lo, .int .i64 hi, .bool has, .string data, .bool hit, .int .i64 err, .int .i64 n, .slice wp W.length wq, .slice kp K.length kq]] w (RetB (ThM ⟨1, node, inc, ses, tx, seq, key, lo, hi, has, data, hit, err, n, W, K⟩) w) := by
  have hb0 : Below w.heap.size w (w.alloc (.cells #[.int .i64 1, .int .i64 node, .int .i64 inc, .int .i64 ses, .int .i64 tx, .int .i64 seq, .string key, .int .i64 lo, .int .i64 hi, .bool has, .string data, .bool hit, .int .i64 err, .int .i64 n, .slice wp W.length wq, .slice kp K.length kq] 30)) := below_alloc (Below.refl _ _) _
  have hz0 := hp_alloc_new w (.cells #[.int .i64 1, .int .i64 node, .int .i64 inc, .int .i64 ses, .int .i64 tx, .int .i64 seq, .string key, .int .i64 lo, .int .i64 hi, .bool has, .string data, .bool hit, .int .i64 err, .int .i64 n, .slice wp W.length wq, .slice kp K.length kq] 30)
  have HB := Lib.hid (c_between W.length 1 8 (w.alloc (.cells #[.int .i64 1, .int .i64 node, .int .i64 inc, .int .i64 ses, .int .i64 tx, .int .i64 seq, .string key, .int .i64 lo, .int .i64 hi, .bool has, .string data, .bool hit, .int .i64 err, .int .i64 n, .slice wp W.length wq, .slice kp K.length kq] 30)))
  have HC := Lib.hid (c_containsW (w.alloc (.cells #[.int .i64 1, .int .i64 node, .int .i64 inc, .int .i64 ses, .int .i64 tx, .int .i64 seq, .string key, .int .i64 lo, .int .i64 hi, .bool has, .string data, .bool hit, .int .i64 err, .int .i64 n, .slice wp W.length wq, .slice kp K.length kq] 30)) wp wq W (hLs.below hb0) hLn)
  have HL := Lib.hid hLn; clear hLn hLs
  by_cases h1 : 1 ≤ W.length ∧ W.length ≤ 8
  rotate_left
  · have hd : decide ((1 : Int) ≤ (W.length : Int) ∧ (W.length : Int) ≤ 8) = false := by rw [decide_eq_false_iff_not]; omega
    rw [hd] at HB
    have H1 := Lib.hid h1; clear h1 hd
    go_enter Try.func31, Try.ntmps31
    go_wp2_with fail
    refine HB.out.mono ?_; rintro e w1 ⟨rfl, rfl⟩
    go_wp2
    go_ret
    exact ⟨_, rfl, by rw [thM_iff]; have := H1.out; simp [fullM]; omega, hb0⟩
  have hd : decide ((1 : Int) ≤ (W.length : Int) ∧ (W.length : Int) ≤ 8) = true := by rw [decide_eq_true_eq]; omega
  rw [hd] at HB
  have H1 := Lib.hid h1; clear h1 hd
  have H2 := Lib.hid (Classical.em (∀ x ∈ W, x.good))
  generalize hq : decide (¬ ∀ x ∈ W, x.good) = q at HC
  have HQ := Lib.hid hq; clear hq
  go_enter Try.func31, Try.ntmps31
  go_wp2_with fail
  refine HB.out.mono ?_; rintro e w1 ⟨rfl, rfl⟩
  go_wp2_with fail
  refine HC.out.mono ?_; rintro e w2 ⟨rfl, hb2⟩
  go_wp2
  go_ret
  refine ⟨_, rfl, ?_, below_call hb0 hb2⟩
  rw [thM_iff, ← HQ.out]
  have h1 := H1.out
  simp [fullM]
  exact fun _ => by omega

set_option maxHeartbeats 1000000 in
theorem c_things_8 (node inc ses tx seq lo hi err n : Int) (key data : ByteArray) (has hit : Bool) (W : List Wt) (K : List ByteArray) (wp kp : Option Addr) (wq kq : Nat) (w : World) (hLs : LsS w kp kq K) (hLn : K.length ≤ 9223372036854775807) : Calls Try.prog 31 #[.agg #[.int .i64 8, .int .i64 node, .int .i64 inc, .int .i64 ses, .int .i64 tx, .int .i64 seq, .string key, .int .i64 lo, .int .i64 hi, .bool has, .string data, .bool hit, .int .i64 err, .int .i64 n, .slice wp W.length wq, .slice kp K.length kq]] w (RetB (ThM ⟨8, node, inc, ses, tx, seq, key, lo, hi, has, data, hit, err, n, W, K⟩) w) := by
  have hb0 : Below w.heap.size w (w.alloc (.cells #[.int .i64 8, .int .i64 node, .int .i64 inc, .int .i64 ses, .int .i64 tx, .int .i64 seq, .string key, .int .i64 lo, .int .i64 hi, .bool has, .string data, .bool hit, .int .i64 err, .int .i64 n, .slice wp W.length wq, .slice kp K.length kq] 30)) := below_alloc (Below.refl _ _) _
  have hz0 := hp_alloc_new w (.cells #[.int .i64 8, .int .i64 node, .int .i64 inc, .int .i64 ses, .int .i64 tx, .int .i64 seq, .string key, .int .i64 lo, .int .i64 hi, .bool has, .string data, .bool hit, .int .i64 err, .int .i64 n, .slice wp W.length wq, .slice kp K.length kq] 30)
  have HB := Lib.hid (c_between K.length 1 8 (w.alloc (.cells #[.int .i64 8, .int .i64 node, .int .i64 inc, .int .i64 ses, .int .i64 tx, .int .i64 seq, .string key, .int .i64 lo, .int .i64 hi, .bool has, .string data, .bool hit, .int .i64 err, .int .i64 n, .slice wp W.length wq, .slice kp K.length kq] 30)))
  have HC := Lib.hid (c_containsK (w.alloc (.cells #[.int .i64 8, .int .i64 node, .int .i64 inc, .int .i64 ses, .int .i64 tx, .int .i64 seq, .string key, .int .i64 lo, .int .i64 hi, .bool has, .string data, .bool hit, .int .i64 err, .int .i64 n, .slice wp W.length wq, .slice kp K.length kq] 30)) kp kq K (hLs.below hb0) hLn)
  have HL := Lib.hid hLn; clear hLn hLs
  by_cases h1 : 1 ≤ K.length ∧ K.length ≤ 8
  rotate_left
  · have hd : decide ((1 : Int) ≤ (K.length : Int) ∧ (K.length : Int) ≤ 8) = false := by rw [decide_eq_false_iff_not]; omega
    rw [hd] at HB
    have H1 := Lib.hid h1; clear h1 hd
    go_enter Try.func31, Try.ntmps31
    go_wp2_with fail
    refine HB.out.mono ?_; rintro e w1 ⟨rfl, rfl⟩
    go_wp2
    go_ret
    exact ⟨_, rfl, by rw [thM_iff]; have := H1.out; simp [fullM]; omega, hb0⟩
  have hd : decide ((1 : Int) ≤ (K.length : Int) ∧ (K.length : Int) ≤ 8) = true := by rw [decide_eq_true_eq]; omega
  rw [hd] at HB
  have H1 := Lib.hid h1; clear h1 hd
  have H2 := Lib.hid (Classical.em (∀ x ∈ K, goodK x))
  generalize hq : decide (¬ ∀ x ∈ K, goodK x) = q at HC
  have HQ := Lib.hid hq; clear hq
  go_enter Try.func31, Try.ntmps31
  go_wp2_with fail
  refine HB.out.mono ?_; rintro e w1 ⟨rfl, rfl⟩
  go_wp2_with fail
  refine HC.out.mono ?_; rintro e w2 ⟨rfl, hb2⟩
  go_wp2
  go_ret
  refine ⟨_, rfl, ?_, below_call hb0 hb2⟩
  rw [thM_iff, ← HQ.out]
  have h1 := H1.out
  simp [fullM]
  exact fun _ => by omega

end Go.Proofs.Ytiklpifaaogcpaa
