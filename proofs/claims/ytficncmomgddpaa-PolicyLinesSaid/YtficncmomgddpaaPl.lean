/- PolicyLines. -/
import Derived.Test.YtficncmomgddpaaPl0
import Derived.Test.YtficncmomgddpaaPl1
import Derived.Test.YtficncmomgddpaaPl2
import Derived.WalkKit
import Derived.WalkLawsBesides
import Derived.WalkSpells
import Derived.Below
import Derived.Deep.RegionHeld3
import Derived.Deep.QuietTactic
import Derived.BigQuiet
import Derived.Deep.DeepCutAuto
import Derived.Deep.DeepMust
import Derived.KernelRfl
import Derived.Lib.Hide
import Derived.Outline
import Derived.RegionTactic
import Derived.StillTailTactics
namespace Go.Proofs.Ytficncmomgddpaa
open Go.RowKit Go.Cl
set_option maxRecDepth 100000
set_option linter.unusedVariables false
set_option linter.unusedSimpArgs false
open Go.Ps
def okB (x1 x2 x3 x4 ra rb : Bool) : Bool := !(x1 && x2) && !(x1 && x3 && !x4) && (x1 || x2 || (x3 == x4)) && !(ra && !rb && !x1)
theorem ln_all (x1 x2 x3 x4 r1 r2 : Bool) (ok : okB x1 x2 x3 x4 r1 r2 = true) (w : World) (k : ByteArray) (v0 : Bool) (v1 : ByteArray) (l hi : Int) (hot : Bool) (st ins : Int) (k' : ByteArray) (v0' : Bool) (v1' : ByteArray) (l' hi' : Int) (hot' : Bool) (st' ins' : Int) (k'' : ByteArray) (v0'' : Bool) (v1'' : ByteArray) (l'' hi'' : Int) (hot'' : Bool) (st'' ins'' : Int) (haa : ∀ w, Calls Try.prog 9 #[.agg #[.string k, .bool v0, .string v1, .int .i64 l, .int .i64 hi, .bool hot, .int .i64 st, .int .i64 ins], .agg #[.string k, .bool v0, .string v1, .int .i64 l, .int .i64 hi, .bool hot, .int .i64 st, .int .i64 ins]] w fun e w' => e = .returned (.bool false) ∧ Below w.heap.size w w') (hab : ∀ w, Calls Try.prog 9 #[.agg #[.string k, .bool v0, .string v1, .int .i64 l, .int .i64 hi, .bool hot, .int .i64 st, .int .i64 ins], .agg #[.string k', .bool v0', .string v1', .int .i64 l', .int .i64 hi', .bool hot', .int .i64 st', .int .i64 ins']] w fun e w' => e = .returned (.bool x1) ∧ Below w.heap.size w w') (hba : ∀ w, Calls Try.prog 9 #[.agg #[.string k', .bool v0', .string v1', .int .i64 l', .int .i64 hi', .bool hot', .int .i64 st', .int .i64 ins'], .agg #[.string k, .bool v0, .string v1, .int .i64 l, .int .i64 hi, .bool hot, .int .i64 st, .int .i64 ins]] w fun e w' => e = .returned (.bool x2) ∧ Below w.heap.size w w') (hbc : ∀ w, Calls Try.prog 9 #[.agg #[.string k', .bool v0', .string v1', .int .i64 l', .int .i64 hi', .bool hot', .int .i64 st', .int .i64 ins'], .agg #[.string k'', .bool v0'', .string v1'', .int .i64 l'', .int .i64 hi'', .bool hot'', .int .i64 st'', .int .i64 ins'']] w fun e w' => e = .returned (.bool x3) ∧ Below w.heap.size w w') (hac : ∀ w, Calls Try.prog 9 #[.agg #[.string k, .bool v0, .string v1, .int .i64 l, .int .i64 hi, .bool hot, .int .i64 st, .int .i64 ins], .agg #[.string k'', .bool v0'', .string v1'', .int .i64 l'', .int .i64 hi'', .bool hot'', .int .i64 st'', .int .i64 ins'']] w fun e w' => e = .returned (.bool x4) ∧ Below w.heap.size w w') (ra : (hi != 4611686018427387904) = r1) (rb : (hi' != 4611686018427387904) = r2) :
    Calls Try.prog 5 #[.agg #[.string k, .bool v0, .string v1, .int .i64 l, .int .i64 hi, .bool hot, .int .i64 st, .int .i64 ins], .agg #[.string k', .bool v0', .string v1', .int .i64 l', .int .i64 hi', .bool hot', .int .i64 st', .int .i64 ins'], .agg #[.string k'', .bool v0'', .string v1'', .int .i64 l'', .int .i64 hi'', .bool hot'', .int .i64 st'', .int .i64 ins'']] w fun e w' => e = .returned (.bool true) ∧ Below w.heap.size w w' := by
  cases x1 <;> cases x2 <;> cases x3 <;> cases x4 <;> cases r1 <;> cases r2
  · exact ln_29 w k v0 v1 l hi hot st ins k' v0' v1' l' hi' hot' st' ins' k'' v0'' v1'' l'' hi'' hot'' st'' ins'' haa hab hba hbc hac ra rb
  · exact ln_28 w k v0 v1 l hi hot st ins k' v0' v1' l' hi' hot' st' ins' k'' v0'' v1'' l'' hi'' hot'' st'' ins'' haa hab hba hbc hac ra rb
  · exact absurd ok (by decide)
  · exact ln_27 w k v0 v1 l hi hot st ins k' v0' v1' l' hi' hot' st' ins' k'' v0'' v1'' l'' hi'' hot'' st'' ins'' haa hab hba hbc hac ra rb
  · exact absurd ok (by decide)
  · exact absurd ok (by decide)
  · exact absurd ok (by decide)
  · exact absurd ok (by decide)
  · exact absurd ok (by decide)
  · exact absurd ok (by decide)
  · exact absurd ok (by decide)
  · exact absurd ok (by decide)
  · exact ln_26 w k v0 v1 l hi hot st ins k' v0' v1' l' hi' hot' st' ins' k'' v0'' v1'' l'' hi'' hot'' st'' ins'' haa hab hba hbc hac ra rb
  · exact ln_25 w k v0 v1 l hi hot st ins k' v0' v1' l' hi' hot' st' ins' k'' v0'' v1'' l'' hi'' hot'' st'' ins'' haa hab hba hbc hac ra rb
  · exact absurd ok (by decide)
  · exact ln_24 w k v0 v1 l hi hot st ins k' v0' v1' l' hi' hot' st' ins' k'' v0'' v1'' l'' hi'' hot'' st'' ins'' haa hab hba hbc hac ra rb
  · exact ln_23 w k v0 v1 l hi hot st ins k' v0' v1' l' hi' hot' st' ins' k'' v0'' v1'' l'' hi'' hot'' st'' ins'' haa hab hba hbc hac ra rb
  · exact ln_22 w k v0 v1 l hi hot st ins k' v0' v1' l' hi' hot' st' ins' k'' v0'' v1'' l'' hi'' hot'' st'' ins'' haa hab hba hbc hac ra rb
  · exact absurd ok (by decide)
  · exact ln_21 w k v0 v1 l hi hot st ins k' v0' v1' l' hi' hot' st' ins' k'' v0'' v1'' l'' hi'' hot'' st'' ins'' haa hab hba hbc hac ra rb
  · exact ln_20 w k v0 v1 l hi hot st ins k' v0' v1' l' hi' hot' st' ins' k'' v0'' v1'' l'' hi'' hot'' st'' ins'' haa hab hba hbc hac ra rb
  · exact ln_19 w k v0 v1 l hi hot st ins k' v0' v1' l' hi' hot' st' ins' k'' v0'' v1'' l'' hi'' hot'' st'' ins'' haa hab hba hbc hac ra rb
  · exact absurd ok (by decide)
  · exact ln_18 w k v0 v1 l hi hot st ins k' v0' v1' l' hi' hot' st' ins' k'' v0'' v1'' l'' hi'' hot'' st'' ins'' haa hab hba hbc hac ra rb
  · exact ln_17 w k v0 v1 l hi hot st ins k' v0' v1' l' hi' hot' st' ins' k'' v0'' v1'' l'' hi'' hot'' st'' ins'' haa hab hba hbc hac ra rb
  · exact ln_16 w k v0 v1 l hi hot st ins k' v0' v1' l' hi' hot' st' ins' k'' v0'' v1'' l'' hi'' hot'' st'' ins'' haa hab hba hbc hac ra rb
  · exact absurd ok (by decide)
  · exact ln_15 w k v0 v1 l hi hot st ins k' v0' v1' l' hi' hot' st' ins' k'' v0'' v1'' l'' hi'' hot'' st'' ins'' haa hab hba hbc hac ra rb
  · exact ln_14 w k v0 v1 l hi hot st ins k' v0' v1' l' hi' hot' st' ins' k'' v0'' v1'' l'' hi'' hot'' st'' ins'' haa hab hba hbc hac ra rb
  · exact ln_13 w k v0 v1 l hi hot st ins k' v0' v1' l' hi' hot' st' ins' k'' v0'' v1'' l'' hi'' hot'' st'' ins'' haa hab hba hbc hac ra rb
  · exact absurd ok (by decide)
  · exact ln_12 w k v0 v1 l hi hot st ins k' v0' v1' l' hi' hot' st' ins' k'' v0'' v1'' l'' hi'' hot'' st'' ins'' haa hab hba hbc hac ra rb
  · exact ln_11 w k v0 v1 l hi hot st ins k' v0' v1' l' hi' hot' st' ins' k'' v0'' v1'' l'' hi'' hot'' st'' ins'' haa hab hba hbc hac ra rb
  · exact ln_10 w k v0 v1 l hi hot st ins k' v0' v1' l' hi' hot' st' ins' k'' v0'' v1'' l'' hi'' hot'' st'' ins'' haa hab hba hbc hac ra rb
  · exact ln_9 w k v0 v1 l hi hot st ins k' v0' v1' l' hi' hot' st' ins' k'' v0'' v1'' l'' hi'' hot'' st'' ins'' haa hab hba hbc hac ra rb
  · exact ln_8 w k v0 v1 l hi hot st ins k' v0' v1' l' hi' hot' st' ins' k'' v0'' v1'' l'' hi'' hot'' st'' ins'' haa hab hba hbc hac ra rb
  · exact ln_7 w k v0 v1 l hi hot st ins k' v0' v1' l' hi' hot' st' ins' k'' v0'' v1'' l'' hi'' hot'' st'' ins'' haa hab hba hbc hac ra rb
  · exact ln_6 w k v0 v1 l hi hot st ins k' v0' v1' l' hi' hot' st' ins' k'' v0'' v1'' l'' hi'' hot'' st'' ins'' haa hab hba hbc hac ra rb
  · exact ln_5 w k v0 v1 l hi hot st ins k' v0' v1' l' hi' hot' st' ins' k'' v0'' v1'' l'' hi'' hot'' st'' ins'' haa hab hba hbc hac ra rb
  · exact ln_4 w k v0 v1 l hi hot st ins k' v0' v1' l' hi' hot' st' ins' k'' v0'' v1'' l'' hi'' hot'' st'' ins'' haa hab hba hbc hac ra rb
  · exact absurd ok (by decide)
  · exact absurd ok (by decide)
  · exact absurd ok (by decide)
  · exact absurd ok (by decide)
  · exact ln_3 w k v0 v1 l hi hot st ins k' v0' v1' l' hi' hot' st' ins' k'' v0'' v1'' l'' hi'' hot'' st'' ins'' haa hab hba hbc hac ra rb
  · exact ln_2 w k v0 v1 l hi hot st ins k' v0' v1' l' hi' hot' st' ins' k'' v0'' v1'' l'' hi'' hot'' st'' ins'' haa hab hba hbc hac ra rb
  · exact ln_1 w k v0 v1 l hi hot st ins k' v0' v1' l' hi' hot' st' ins' k'' v0'' v1'' l'' hi'' hot'' st'' ins'' haa hab hba hbc hac ra rb
  · exact ln_0 w k v0 v1 l hi hot st ins k' v0' v1' l' hi' hot' st' ins' k'' v0'' v1'' l'' hi'' hot'' st'' ins'' haa hab hba hbc hac ra rb
  · exact absurd ok (by decide)
  · exact absurd ok (by decide)
  · exact absurd ok (by decide)
  · exact absurd ok (by decide)
  · exact absurd ok (by decide)
  · exact absurd ok (by decide)
  · exact absurd ok (by decide)
  · exact absurd ok (by decide)
  · exact absurd ok (by decide)
  · exact absurd ok (by decide)
  · exact absurd ok (by decide)
  · exact absurd ok (by decide)
  · exact absurd ok (by decide)
  · exact absurd ok (by decide)
  · exact absurd ok (by decide)
  · exact absurd ok (by decide)
theorem never_last (a b : En) (h1 : a.hi ≠ NV) (h2 : b.hi = NV) : a.cmp b < 0 := by
  have e1 : a.r 0 = 0 := by unfold En.r; simp [h1]
  have e2 : b.r 0 = 1 := by unfold En.r; simp [h2]
  show (if cmpI (a.r 0) (b.r 0) = 0 then _ else cmpI (a.r 0) (b.r 0)) < 0
  rw [e1, e2, if_neg (by decide)]; decide
theorem c_lines (a b c : En) (w : World) : Calls Try.prog 5 #[.agg a.cs, .agg b.cs, .agg c.cs] w fun e w' => e = .returned (.bool true) ∧ Below w.heap.size w w' := by
  have p0 : a.cmp a = - a.cmp a := cmpL_anti _ _ 4 0
  have p1 : b.cmp a = - a.cmp b := cmpL_anti _ _ 4 0
  have t1 := cmpL_tr a.r b.r c.r 4 0
  have t2 := cmpL_tr b.r a.r c.r 4 0
  have t3 : a.cmp b ≤ 0 → b.cmp c ≤ 0 → a.cmp c ≤ 0 ∧ (a.cmp c = 0 → a.cmp b = 0 ∧ b.cmp c = 0) := t1
  have t4 : b.cmp a ≤ 0 → a.cmp c ≤ 0 → b.cmp c ≤ 0 ∧ (b.cmp c = 0 → b.cmp a = 0 ∧ a.cmp c = 0) := t2
  clear t1 t2
  have hx : (a.hi != 4611686018427387904) = true → (b.hi != 4611686018427387904) = false → a.cmp b < 0 := fun h1 h2 => never_last a b (by simpa [NV] using h1) (by simpa [NV] using h2)
  have haa : ∀ w, Calls Try.prog 9 #[.agg a.cs, .agg a.cs] w fun e w' => e = .returned (.bool false) ∧ Below w.heap.size w w' := fun w => by
    have := c_before a a w
    rw [show decide (a.cmp a < 0) = false from by simp; omega] at this; exact this
  have hab := c_before a b
  have hba := c_before b a
  have hbc := c_before b c
  have hac := c_before a c
  have ok : okB (decide (a.cmp b < 0)) (decide (b.cmp a < 0)) (decide (b.cmp c < 0)) (decide (a.cmp c < 0)) (a.hi != 4611686018427387904) (b.hi != 4611686018427387904) = true := by
    cases hr1 : (a.hi != 4611686018427387904) <;> cases hr2 : (b.hi != 4611686018427387904) <;> by_cases h1 : a.cmp b < 0 <;> by_cases h2 : b.cmp a < 0 <;> by_cases h3 : b.cmp c < 0 <;> by_cases h4 : a.cmp c < 0 <;>
      simp only [h1, h2, h3, h4, decide_true, decide_false] <;> first | rfl | (exfalso; omega) | (exfalso; have := hx hr1 hr2; omega)
  obtain ⟨k, v0, v1, l, hi, hot, st, ins⟩ := a
  obtain ⟨k', v0', v1', l', hi', hot', st', ins'⟩ := b
  obtain ⟨k'', v0'', v1'', l'', hi'', hot'', st'', ins''⟩ := c
  exact ln_all _ _ _ _ _ _ ok w k v0 v1 l hi hot st ins k' v0' v1' l' hi' hot' st' ins' k'' v0'' v1'' l'' hi'' hot'' st'' ins'' haa hab hba hbc hac rfl rfl
end Go.Proofs.Ytficncmomgddpaa
