/- unused, of messages. -/
import Derived.Test.YtiklpifaaogcpaaKs
import Derived.Test.YtiklpifaaogcpaaKu
import Derived.Test.YtiklpifaaogcpaaKq
import Derived.Test.YtiklpifaaogcpaaKq2
import Derived.Test.YtiklpifaaogcpaaKt
import Derived.WalkKit
import Derived.WalkLawsBesides
import Derived.WalkSpells
import Derived.Below
import Derived.Deep.RegionHeld3
import Derived.Deep.QuietTactic
import Derived.BigQuiet
import Derived.Deep.DeepCutAuto
import Derived.Deep.DeepMust
import Derived.KernelRfl
import Derived.Lib.Hide
import Derived.Outline
import Derived.RegionTactic
import Derived.StillTailTactics
import Derived.Laws.IdiomStrings
import Derived.Handy
namespace Go.Proofs.Ytiklpifaaogcpaa
open Go.RowKit Go.Cl Go.Wr Go.Kc
set_option maxRecDepth 100000
set_option linter.unusedVariables false
set_option linter.unusedSimpArgs false


theorem unM_iff (m : Mg) : UnM m ↔ ((m.node = 0 ∨ m.kind = 3 ∨ 7 ≤ m.kind) ∧ (m.inc = 0 ∨ 10 ≤ m.kind) ∧ (m.ses = 0 ∨ m.kind ≤ 2) ∧ (m.tx = 0 ∨ (3 ≤ m.kind ∧ m.kind ≤ 6)) ∧ (m.seq = 0 ∨ m.kind ≤ 6) ∧ (m.key.size = 0 ∨ m.kind = 3 ∨ m.kind = 5 ∨ m.kind = 7) ∧ (m.lo = 0 ∨ m.kind = 3 ∨ m.kind = 5 ∨ m.kind = 7 ∨ fullM m) ∧ (m.hi = 0 ∨ m.kind = 3 ∨ m.kind = 5 ∨ m.kind = 7 ∨ fullM m) ∧ (m.has = false ∨ m.kind = 7 ∨ fullM m) ∧ (m.data.size = 0 ∨ m.kind = 7 ∨ fullM m) ∧ (m.hit = false ∨ m.kind = 4) ∧ (m.err = 0 ∨ m.kind = 2 ∨ m.kind = 6) ∧ (m.n = 0 ∨ m.kind = 2 ∨ m.kind = 7 ∨ m.kind = 8 ∨ m.kind = 9 ∨ m.kind = 11) ∧ (m.W.length = 0 ∨ m.kind = 1) ∧ (m.K.length = 0 ∨ m.kind = 8)) :=
  ⟨fun h => ⟨h.node, h.inc, h.ses, h.tx, h.seq, h.key, h.lo, h.hi, h.has, h.data, h.hit, h.err, h.n, h.W, h.K⟩, fun ⟨a1, a2, a3, a4, a5, a6, a7, a8, a9, a10, a11, a12, a13, a14, a15⟩ => ⟨a1, a2, a3, a4, a5, a6, a7, a8, a9, a10, a11, a12, a13, a14, a15⟩⟩
theorem RetB.iff {P Q : Prop} {w : World} {e : Ending} {w' : World} (h : RetB P w e w') (hq : P ↔ Q) : RetB Q w e w' := by
  obtain ⟨b, h1, h2, h3⟩ := h
  exact ⟨b, h1, h2.trans hq, h3⟩
theorem emp_size : (⟨#[]⟩ : ByteArray).size = 0 := rfl

theorem c_unused_1 (node inc ses tx seq lo hi err n : Int) (key data : ByteArray) (has hit : Bool) (W : List Wt) (K : List ByteArray) (wp kp : Option Addr) (wq kq : Nat) (w : World) : Calls Try.prog 29 #[.agg #[.int .i64 1, .int .i64 node, .int .i64 inc, .int .i64 ses, .int .i64 tx, .int .i64 seq, .string key, .int .i64 lo, .int .i64 hi, .bool has, .string data, .bool hit, .int .i64 err, .int .i64 n, .slice wp W.length wq, .slice kp K.length kq]] w (RetB (UnM ⟨1, node, inc, ses, tx, seq, key, lo, hi, has, data, hit, err, n, W, K⟩) w) := by
  refine (c_unused_gen _ rfl w 1 node inc 0 tx 0 lo hi err n key data has hit none kp 0 0 K.length kq (fun W' => o_blank_1 node inc ses tx seq lo hi err n key data has hit wp kp W.length wq K.length kq W')).mono fun e w' h => h.iff ?_
  rw [unM_iff]
  skip
  simp [fullM, emp_size, and_assoc]
  try (constructor <;> (intro h; simp_all))

theorem c_unused_2 (node inc ses tx seq lo hi err n : Int) (key data : ByteArray) (has hit : Bool) (W : List Wt) (K : List ByteArray) (wp kp : Option Addr) (wq kq : Nat) (w : World) : Calls Try.prog 29 #[.agg #[.int .i64 2, .int .i64 node, .int .i64 inc, .int .i64 ses, .int .i64 tx, .int .i64 seq, .string key, .int .i64 lo, .int .i64 hi, .bool has, .string data, .bool hit, .int .i64 err, .int .i64 n, .slice wp W.length wq, .slice kp K.length kq]] w (RetB (UnM ⟨2, node, inc, ses, tx, seq, key, lo, hi, has, data, hit, err, n, W, K⟩) w) := by
  refine (c_unused_gen _ rfl w 2 node inc 0 tx 0 lo hi 0 0 key data has hit wp kp W.length wq K.length kq (fun W' => o_blank_2 node inc ses tx seq lo hi err n key data has hit wp kp W.length wq K.length kq W')).mono fun e w' h => h.iff ?_
  rw [unM_iff]
  skip
  simp [fullM, emp_size, and_assoc]
  try (constructor <;> (intro h; simp_all))

theorem c_unused_3 (node inc ses tx seq lo hi err n : Int) (key data : ByteArray) (has hit : Bool) (W : List Wt) (K : List ByteArray) (wp kp : Option Addr) (wq kq : Nat) (w : World) : Calls Try.prog 29 #[.agg #[.int .i64 3, .int .i64 node, .int .i64 inc, .int .i64 ses, .int .i64 tx, .int .i64 seq, .string key, .int .i64 lo, .int .i64 hi, .bool has, .string data, .bool hit, .int .i64 err, .int .i64 n, .slice wp W.length wq, .slice kp K.length kq]] w (RetB (UnM ⟨3, node, inc, ses, tx, seq, key, lo, hi, has, data, hit, err, n, W, K⟩) w) := by
  refine (c_unused_gen _ rfl w 3 0 inc ses 0 0 0 0 err n ⟨#[]⟩ data has hit wp kp W.length wq K.length kq (fun W' => o_blank_3 node inc ses tx seq lo hi err n key data has hit wp kp W.length wq K.length kq W')).mono fun e w' h => h.iff ?_
  rw [unM_iff]
  skip
  simp [fullM, emp_size, and_assoc]
  try (constructor <;> (intro h; simp_all))

theorem c_unused_5 (node inc ses tx seq lo hi err n : Int) (key data : ByteArray) (has hit : Bool) (W : List Wt) (K : List ByteArray) (wp kp : Option Addr) (wq kq : Nat) (w : World) : Calls Try.prog 29 #[.agg #[.int .i64 5, .int .i64 node, .int .i64 inc, .int .i64 ses, .int .i64 tx, .int .i64 seq, .string key, .int .i64 lo, .int .i64 hi, .bool has, .string data, .bool hit, .int .i64 err, .int .i64 n, .slice wp W.length wq, .slice kp K.length kq]] w (RetB (UnM ⟨5, node, inc, ses, tx, seq, key, lo, hi, has, data, hit, err, n, W, K⟩) w) := by
  refine (c_unused_gen _ rfl w 5 node inc ses 0 0 0 0 err n ⟨#[]⟩ data has hit wp kp W.length wq K.length kq (fun W' => o_blank_5 node inc ses tx seq lo hi err n key data has hit wp kp W.length wq K.length kq W')).mono fun e w' h => h.iff ?_
  rw [unM_iff]
  skip
  simp [fullM, emp_size, and_assoc]
  try (constructor <;> (intro h; simp_all))

theorem c_unused_7 (node inc ses tx seq lo hi err n : Int) (key data : ByteArray) (has hit : Bool) (W : List Wt) (K : List ByteArray) (wp kp : Option Addr) (wq kq : Nat) (w : World) : Calls Try.prog 29 #[.agg #[.int .i64 7, .int .i64 node, .int .i64 inc, .int .i64 ses, .int .i64 tx, .int .i64 seq, .string key, .int .i64 lo, .int .i64 hi, .bool has, .string data, .bool hit, .int .i64 err, .int .i64 n, .slice wp W.length wq, .slice kp K.length kq]] w (RetB (UnM ⟨7, node, inc, ses, tx, seq, key, lo, hi, has, data, hit, err, n, W, K⟩) w) := by
  refine (c_unused_gen _ rfl w 7 0 inc ses tx seq 0 0 err 0 ⟨#[]⟩ ⟨#[]⟩ false hit wp kp W.length wq K.length kq (fun W' => o_blank_7 node inc ses tx seq lo hi err n key data has hit wp kp W.length wq K.length kq W')).mono fun e w' h => h.iff ?_
  rw [unM_iff]
  skip
  simp [fullM, emp_size, and_assoc]
  try (constructor <;> (intro h; simp_all))

theorem c_unused_8 (node inc ses tx seq lo hi err n : Int) (key data : ByteArray) (has hit : Bool) (W : List Wt) (K : List ByteArray) (wp kp : Option Addr) (wq kq : Nat) (w : World) : Calls Try.prog 29 #[.agg #[.int .i64 8, .int .i64 node, .int .i64 inc, .int .i64 ses, .int .i64 tx, .int .i64 seq, .string key, .int .i64 lo, .int .i64 hi, .bool has, .string data, .bool hit, .int .i64 err, .int .i64 n, .slice wp W.length wq, .slice kp K.length kq]] w (RetB (UnM ⟨8, node, inc, ses, tx, seq, key, lo, hi, has, data, hit, err, n, W, K⟩) w) := by
  refine (c_unused_gen _ rfl w 8 0 inc ses tx seq lo hi err 0 key data has hit wp none W.length wq 0 0 (fun W' => o_blank_8 node inc ses tx seq lo hi err n key data has hit wp kp W.length wq K.length kq W')).mono fun e w' h => h.iff ?_
  rw [unM_iff]
  skip
  simp [fullM, emp_size, and_assoc]
  try (constructor <;> (intro h; simp_all))

theorem c_unused_9 (node inc ses tx seq lo hi err n : Int) (key data : ByteArray) (has hit : Bool) (W : List Wt) (K : List ByteArray) (wp kp : Option Addr) (wq kq : Nat) (w : World) : Calls Try.prog 29 #[.agg #[.int .i64 9, .int .i64 node, .int .i64 inc, .int .i64 ses, .int .i64 tx, .int .i64 seq, .string key, .int .i64 lo, .int .i64 hi, .bool has, .string data, .bool hit, .int .i64 err, .int .i64 n, .slice wp W.length wq, .slice kp K.length kq]] w (RetB (UnM ⟨9, node, inc, ses, tx, seq, key, lo, hi, has, data, hit, err, n, W, K⟩) w) := by
  refine (c_unused_gen _ rfl w 9 0 inc ses tx seq lo hi err 0 key data has hit wp kp W.length wq K.length kq (fun W' => o_blank_9 node inc ses tx seq lo hi err n key data has hit wp kp W.length wq K.length kq W')).mono fun e w' h => h.iff ?_
  rw [unM_iff]
  skip
  simp [fullM, emp_size, and_assoc]
  try (constructor <;> (intro h; simp_all))

theorem c_unused_10 (node inc ses tx seq lo hi err n : Int) (key data : ByteArray) (has hit : Bool) (W : List Wt) (K : List ByteArray) (wp kp : Option Addr) (wq kq : Nat) (w : World) : Calls Try.prog 29 #[.agg #[.int .i64 10, .int .i64 node, .int .i64 inc, .int .i64 ses, .int .i64 tx, .int .i64 seq, .string key, .int .i64 lo, .int .i64 hi, .bool has, .string data, .bool hit, .int .i64 err, .int .i64 n, .slice wp W.length wq, .slice kp K.length kq]] w (RetB (UnM ⟨10, node, inc, ses, tx, seq, key, lo, hi, has, data, hit, err, n, W, K⟩) w) := by
  refine (c_unused_gen _ rfl w 10 0 0 ses tx seq lo hi err n key data has hit wp kp W.length wq K.length kq (fun W' => o_blank_10 node inc ses tx seq lo hi err n key data has hit wp kp W.length wq K.length kq W')).mono fun e w' h => h.iff ?_
  rw [unM_iff]
  skip
  simp [fullM, emp_size, and_assoc]
  try (constructor <;> (intro h; simp_all))

theorem c_unused_11 (node inc ses tx seq lo hi err n : Int) (key data : ByteArray) (has hit : Bool) (W : List Wt) (K : List ByteArray) (wp kp : Option Addr) (wq kq : Nat) (w : World) : Calls Try.prog 29 #[.agg #[.int .i64 11, .int .i64 node, .int .i64 inc, .int .i64 ses, .int .i64 tx, .int .i64 seq, .string key, .int .i64 lo, .int .i64 hi, .bool has, .string data, .bool hit, .int .i64 err, .int .i64 n, .slice wp W.length wq, .slice kp K.length kq]] w (RetB (UnM ⟨11, node, inc, ses, tx, seq, key, lo, hi, has, data, hit, err, n, W, K⟩) w) := by
  refine (c_unused_gen _ rfl w 11 0 0 ses tx seq lo hi err 0 key data has hit wp kp W.length wq K.length kq (fun W' => o_blank_11 node inc ses tx seq lo hi err n key data has hit wp kp W.length wq K.length kq W')).mono fun e w' h => h.iff ?_
  rw [unM_iff]
  skip
  simp [fullM, emp_size, and_assoc]
  try (constructor <;> (intro h; simp_all))

theorem c_unused_4t (node inc ses tx seq lo hi err n : Int) (key data : ByteArray) (has hit : Bool) (W : List Wt) (K : List ByteArray) (wp kp : Option Addr) (wq kq : Nat) (w : World) : Calls Try.prog 29 #[.agg #[.int .i64 4, .int .i64 node, .int .i64 inc, .int .i64 ses, .int .i64 tx, .int .i64 seq, .string key, .int .i64 lo, .int .i64 hi, .bool has, .string data, .bool true, .int .i64 err, .int .i64 n, .slice wp W.length wq, .slice kp K.length kq]] w (RetB (UnM ⟨4, node, inc, ses, tx, seq, key, lo, hi, has, data, true, err, n, W, K⟩) w) := by
  refine (c_unused_gen _ rfl w 4 node inc ses 0 0 0 0 err n key ⟨#[]⟩ false false wp kp W.length wq K.length kq (fun W' => o_blank_4t node inc ses tx seq lo hi err n key data has true wp kp W.length wq K.length kq W')).mono fun e w' h => h.iff ?_
  rw [unM_iff]
  skip
  simp [fullM, emp_size, and_assoc]
  try (constructor <;> (intro h; simp_all))

theorem c_unused_4f (node inc ses tx seq lo hi err n : Int) (key data : ByteArray) (has hit : Bool) (W : List Wt) (K : List ByteArray) (wp kp : Option Addr) (wq kq : Nat) (w : World) : Calls Try.prog 29 #[.agg #[.int .i64 4, .int .i64 node, .int .i64 inc, .int .i64 ses, .int .i64 tx, .int .i64 seq, .string key, .int .i64 lo, .int .i64 hi, .bool has, .string data, .bool false, .int .i64 err, .int .i64 n, .slice wp W.length wq, .slice kp K.length kq]] w (RetB (UnM ⟨4, node, inc, ses, tx, seq, key, lo, hi, has, data, false, err, n, W, K⟩) w) := by
  refine (c_unused_gen _ rfl w 4 node inc ses 0 0 lo hi err n key data has false wp kp W.length wq K.length kq (fun W' => o_blank_4f node inc ses tx seq lo hi err n key data has false wp kp W.length wq K.length kq W')).mono fun e w' h => h.iff ?_
  rw [unM_iff]
  skip
  simp [fullM, emp_size, and_assoc]
  try (constructor <;> (intro h; simp_all))

theorem c_unused_6t (node inc ses tx seq lo hi err n : Int) (key data : ByteArray) (has hit : Bool) (W : List Wt) (K : List ByteArray) (wp kp : Option Addr) (wq kq : Nat) (w : World) : Calls Try.prog 29 #[.agg #[.int .i64 6, .int .i64 node, .int .i64 inc, .int .i64 ses, .int .i64 tx, .int .i64 seq, .string key, .int .i64 lo, .int .i64 hi, .bool has, .string data, .bool hit, .int .i64 0, .int .i64 n, .slice wp W.length wq, .slice kp K.length kq]] w (RetB (UnM ⟨6, node, inc, ses, tx, seq, key, lo, hi, has, data, hit, 0, n, W, K⟩) w) := by
  refine (c_unused_gen _ rfl w 6 node inc ses 0 0 0 0 0 n key ⟨#[]⟩ false hit wp kp W.length wq K.length kq (fun W' => o_blank_6t node inc ses tx seq lo hi 0 n key data has hit wp kp W.length wq K.length kq W')).mono fun e w' h => h.iff ?_
  rw [unM_iff]
  skip
  simp [fullM, emp_size, and_assoc]
  try (constructor <;> (intro h; simp_all))

theorem c_unused_6f (node inc ses tx seq lo hi err n : Int) (key data : ByteArray) (has hit : Bool) (W : List Wt) (K : List ByteArray) (wp kp : Option Addr) (wq kq : Nat) (w : World) (hz : (err == 0) = false) : Calls Try.prog 29 #[.agg #[.int .i64 6, .int .i64 node, .int .i64 inc, .int .i64 ses, .int .i64 tx, .int .i64 seq, .string key, .int .i64 lo, .int .i64 hi, .bool has, .string data, .bool hit, .int .i64 err, .int .i64 n, .slice wp W.length wq, .slice kp K.length kq]] w (RetB (UnM ⟨6, node, inc, ses, tx, seq, key, lo, hi, has, data, hit, err, n, W, K⟩) w) := by
  refine (c_unused_gen _ rfl w 6 node inc ses 0 0 lo hi 0 n key data has hit wp kp W.length wq K.length kq (fun W' => o_blank_6f node inc ses tx seq lo hi err n key data has hit wp kp W.length wq K.length kq W' hz)).mono fun e w' h => h.iff ?_
  rw [unM_iff]
  have he : ¬ err = 0 := by simpa using hz
  simp [fullM, emp_size, and_assoc, he]
  try (constructor <;> (intro h; simp_all))

end Go.Proofs.Ytiklpifaaogcpaa
