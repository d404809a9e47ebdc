/- WireSizes. -/
import Derived.Test.YtiklpifaaogcpaaWg2
import Derived.WalkKit
import Derived.WalkLawsBesides
import Derived.WalkSpells
import Derived.Below
import Derived.Deep.RegionHeld3
import Derived.Deep.QuietTactic
import Derived.BigQuiet
import Derived.Deep.DeepCutAuto
import Derived.Deep.DeepMust
import Derived.KernelRfl
import Derived.Lib.Hide
import Derived.Outline
import Derived.RegionTactic
import Derived.StillTailTactics
import Derived.Laws.IdiomStrings
namespace Go.Proofs.Ytiklpifaaogcpaa
open Go.RowKit Go.Cl
set_option maxRecDepth 100000
set_option linter.unusedVariables false
set_option linter.unusedSimpArgs false

open Go.Wr
theorem num_len_le : ∀ (j u : Nat), 0 < j → u < 128 ^ j → (num u).length ≤ j := by
  intro j
  induction j with
  | zero => intro u h; omega
  | succ j ih =>
    intro u _ hu
    by_cases h : u < 128
    · rw [num_lo h]; simp
    · rw [num_hi (by omega)]
      have hj : 0 < j := by
        rcases Nat.eq_zero_or_pos j with e | e
        · subst e; simp at hu; omega
        · exact e
      have := ih (u / 128) hj (by rw [Nat.pow_succ] at hu; exact Nat.div_lt_of_lt_mul (by rw [Nat.mul_comm]; exact hu))
      simp; omega
theorem num_len_10 {u : Nat} (h : u < 18446744073709551616) : (num u).length ≤ 10 := num_len_le 10 u (by decide) (Nat.lt_of_lt_of_le h (by decide))
end Go.Proofs.Ytiklpifaaogcpaa
