/- The reference's Before. -/
import Derived.Test.YtficncmomgddpaaPt
import Derived.WalkKit
import Derived.WalkLawsBesides
import Derived.WalkSpells
import Derived.Below
import Derived.Deep.RegionHeld3
import Derived.Deep.QuietTactic
import Derived.BigQuiet
import Derived.Deep.DeepCutAuto
import Derived.Deep.DeepMust
import Derived.KernelRfl
import Derived.Lib.Hide
import Derived.Outline
import Derived.RegionTactic
import Derived.StillTailTactics
namespace Go.Proofs.Ytficncmomgddpaa
open Go.RowKit Go.Cl
set_option maxRecDepth 100000
set_option linter.unusedVariables false
set_option linter.unusedSimpArgs false

theorem cmpI_neg (a b : Int) : (cmpI a b < 0) = (a < b) := by
  unfold cmpI; split
  · simp [*]
  · split <;> simp [*]
theorem cmpI_z (a b : Int) : (cmpI a b = 0) = (a = b) := by
  unfold cmpI
  by_cases h : a < b
  · rw [if_pos h]; simp; omega
  · rw [if_neg h]; by_cases h2 : b < a
    · rw [if_pos h2]; simp; omega
    · rw [if_neg h2]; simp; omega
def lex4 (p0 p1 p2 p3 q0 q1 q2 q3 : Int) : Prop := p0 < q0 ∨ (p0 = q0 ∧ (p1 < q1 ∨ (p1 = q1 ∧ (p2 < q2 ∨ (p2 = q2 ∧ p3 < q3)))))
theorem ite_neg' {c : Prop} [Decidable c] {x y : Int} : ((if c then x else y) < 0) = ((c ∧ x < 0) ∨ (¬ c ∧ y < 0)) := by
  split <;> simp [*]
theorem cmp_iff (e f : En) : e.cmp f < 0 ↔ lex4 (e.r 0) (e.r 1) (e.r 2) (e.r 3) (f.r 0) (f.r 1) (f.r 2) (f.r 3) := by
  show (if cmpI (e.r 0) (f.r 0) = 0 then (if cmpI (e.r 1) (f.r 1) = 0 then (if cmpI (e.r 2) (f.r 2) = 0 then (if cmpI (e.r 3) (f.r 3) = 0 then 0 else cmpI (e.r 3) (f.r 3)) else cmpI (e.r 2) (f.r 2)) else cmpI (e.r 1) (f.r 1)) else cmpI (e.r 0) (f.r 0)) < 0 ↔ _
  unfold lex4
  simp only [ite_neg', cmpI_neg, cmpI_z]
  omega

def refB (hi hi' : Int) (hot hot' : Bool) (st st' ins ins' : Int) : Bool :=
  if (hi != 4611686018427387904) != (hi' != 4611686018427387904) then (hi != 4611686018427387904) else if (hi != 4611686018427387904) && hi != hi' then decide (hi < hi') else if !(hi != 4611686018427387904) && hot != hot' then hot' else if !(hi != 4611686018427387904) && st != st' then decide (st < st') else decide (ins < ins')
end Go.Proofs.Ytficncmomgddpaa
