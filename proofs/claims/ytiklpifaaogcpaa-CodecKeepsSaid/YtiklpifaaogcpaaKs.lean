/- Texts laid together: Ks Kn. -/
import Derived.Test.YtiklpifaaogcpaaKb
import Derived.WalkKit
import Derived.WalkLawsBesides
import Derived.WalkSpells
import Derived.Below
import Derived.Deep.RegionHeld3
import Derived.Deep.QuietTactic
import Derived.BigQuiet
import Derived.Deep.DeepCutAuto
import Derived.Deep.DeepMust
import Derived.KernelRfl
import Derived.Lib.Hide
import Derived.Outline
import Derived.RegionTactic
import Derived.StillTailTactics
import Derived.Laws.IdiomStrings
import Derived.Handy
namespace Go.Proofs.Ytiklpifaaogcpaa
open Go.RowKit Go.Cl Go.Wr Go.Kc
set_option maxRecDepth 100000
set_option linter.unusedVariables false
set_option linter.unusedSimpArgs false


def fullM (m : Mg) : Prop := (m.kind = 4 ∧ m.hit = true) ∨ (m.kind = 6 ∧ m.err = 0)
/-- What a kind doesn't use is zero. -/
structure UnM (m : Mg) : Prop where
  node : m.node = 0 ∨ m.kind = 3 ∨ 7 ≤ m.kind
  inc : m.inc = 0 ∨ 10 ≤ m.kind
  ses : m.ses = 0 ∨ m.kind ≤ 2
  tx : m.tx = 0 ∨ (3 ≤ m.kind ∧ m.kind ≤ 6)
  seq : m.seq = 0 ∨ m.kind ≤ 6
  key : m.key.size = 0 ∨ m.kind = 3 ∨ m.kind = 5 ∨ m.kind = 7
  lo : m.lo = 0 ∨ m.kind = 3 ∨ m.kind = 5 ∨ m.kind = 7 ∨ fullM m
  hi : m.hi = 0 ∨ m.kind = 3 ∨ m.kind = 5 ∨ m.kind = 7 ∨ fullM m
  has : m.has = false ∨ m.kind = 7 ∨ fullM m
  data : m.data.size = 0 ∨ m.kind = 7 ∨ fullM m
  hit : m.hit = false ∨ m.kind = 4
  err : m.err = 0 ∨ m.kind = 2 ∨ m.kind = 6
  n : m.n = 0 ∨ m.kind = 2 ∨ m.kind = 7 ∨ m.kind = 8 ∨ m.kind = 9 ∨ m.kind = 11
  W : m.W.length = 0 ∨ m.kind = 1
  K : m.K.length = 0 ∨ m.kind = 8
structure NuM (m : Mg) : Prop where
  node : 0 ≤ m.node ∧ m.node ≤ 7
  ses : 0 ≤ m.ses ∧ m.ses ≤ 63
  tx : 0 ≤ m.tx ∧ m.tx ≤ 255
  err : 0 ≤ m.err ∧ m.err ≤ 255
  n : 0 ≤ m.n ∧ m.n ≤ 1099511627776
  seq : m.kind ≤ 6 → 1 ≤ m.seq ∧ m.seq ≤ 2147483647
  inc : 10 ≤ m.kind → 1 ≤ m.inc ∧ m.inc ≤ 2147483647
  one : (m.kind = 8 ∨ m.kind = 9) → 1 ≤ m.n
structure ThM (m : Mg) : Prop where
  W : m.kind = 1 → (∀ x ∈ m.W, x.good) ∧ 1 ≤ m.W.length ∧ m.W.length ≤ 8
  K : m.kind = 8 → (∀ x ∈ m.K, goodK x) ∧ 1 ≤ m.K.length ∧ m.K.length ≤ 8
  key : (m.kind = 3 ∨ m.kind = 5 ∨ m.kind = 7) → goodK m.key ∧ goodP m.lo m.hi
  value : m.kind = 7 → goodV m.has m.data
  full : fullM m → goodV m.has m.data ∧ goodP m.lo m.hi
structure OkM (m : Mg) : Prop where
  un : UnM m
  nu : NuM m
  th : ThM m
/-- A truth that is answered; nothing old has turned. -/
def RetB (P : Prop) (w : World) : Ending → World → Prop := fun e w' => ∃ b : Bool, e = .returned (.bool b) ∧ (b = true ↔ P) ∧ Below w.heap.size w w'
open Classical in
/-- Check's answer. -/
noncomputable def chkM (m : Mg) : Int := if 1 ≤ m.kind ∧ m.kind ≤ 11 then (if OkM m then 0 else 1) else 13

end Go.Proofs.Ytiklpifaaogcpaa

namespace Go.Proofs.Ytiklpifaaogcpaa
open Go.RowKit Go.Cl Go.Wr Go.Kc
set_option maxRecDepth 100000
set_option linter.unusedVariables false
set_option linter.unusedSimpArgs false


theorem nuM_iff (m : Mg) : NuM m ↔ ((0 ≤ m.node ∧ m.node ≤ 7) ∧ (0 ≤ m.ses ∧ m.ses ≤ 63) ∧ (0 ≤ m.tx ∧ m.tx ≤ 255) ∧ (0 ≤ m.err ∧ m.err ≤ 255) ∧ (0 ≤ m.n ∧ m.n ≤ 1099511627776) ∧ (m.kind ≤ 6 → 1 ≤ m.seq ∧ m.seq ≤ 2147483647) ∧ (10 ≤ m.kind → 1 ≤ m.inc ∧ m.inc ≤ 2147483647) ∧ ((m.kind = 8 ∨ m.kind = 9) → 1 ≤ m.n)) :=
  ⟨fun h => ⟨h.node, h.ses, h.tx, h.err, h.n, h.seq, h.inc, h.one⟩, fun ⟨a, b, c, d, e, f, g, h⟩ => ⟨a, b, c, d, e, f, g, h⟩⟩
set_option maxHeartbeats 4000000 in
theorem c_numbers (kind node inc ses tx seq lo hi err n : Int) (key data : ByteArray) (has hit : Bool) (W : List Wt) (K : List ByteArray) (wp kp : Option Addr) (wc kc : Nat) (w : World) (hk : 1 ≤ kind ∧ kind ≤ 11) :
    Calls Try.prog 30 #[.agg #[.int .i64 kind, .int .i64 node, .int .i64 inc, .int .i64 ses, .int .i64 tx, .int .i64 seq, .string key, .int .i64 lo, .int .i64 hi, .bool has, .string data, .bool hit, .int .i64 err, .int .i64 n, .slice wp W.length wc, .slice kp K.length kc]] w (RetB (NuM ⟨kind, node, inc, ses, tx, seq, key, lo, hi, has, data, hit, err, n, W, K⟩) w) := by
  have HB := Lib.hid (fun n lo hi W => c_between n lo hi W)
  have HK := Lib.hid hk; clear hk
  obtain ⟨NW, hNW⟩ : ∃ N, N = W.length := ⟨_, rfl⟩
  obtain ⟨NK, hNK⟩ : ∃ N, N = K.length := ⟨_, rfl⟩
  rw [← hNW, ← hNK]
  have HN := Lib.hid (And.intro hNW hNK); clear hNW hNK
  go_enter Try.func30, Try.ntmps30
  go_wp2_with (go_at_call 59; refine (HB.out _ _ _ _).mono ?_; rintro e w1 ⟨rfl, rfl⟩)
  all_goals go_ret
  all_goals refine ⟨_, rfl, ?_, (by (repeat (first | (with_reducible exact Below.refl _ _) | (with_reducible refine below_drew ?_) | (with_reducible refine below_alloc ?_ _))))⟩
  all_goals (rw [nuM_iff]; have := HK.out; simp only [Bool.or_eq_true, Bool.and_eq_true, decide_eq_true_eq, decide_eq_false_iff_not, beq_iff_eq, bne_iff_ne, Bool.false_eq_true, Bool.not_eq_true', iff_true, true_iff, false_iff, iff_false, Bool.not_eq_false', ne_eq] at *; first | omega | (simp; omega))

end Go.Proofs.Ytiklpifaaogcpaa
