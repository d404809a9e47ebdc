/- The reference's Before. -/
import Derived.Test.YtficncmomgddpaaPr2
import Derived.WalkKit
import Derived.WalkLawsBesides
import Derived.WalkSpells
import Derived.Below
import Derived.Deep.RegionHeld3
import Derived.Deep.QuietTactic
import Derived.BigQuiet
import Derived.Deep.DeepCutAuto
import Derived.Deep.DeepMust
import Derived.KernelRfl
import Derived.Lib.Hide
import Derived.Outline
import Derived.RegionTactic
import Derived.StillTailTactics
namespace Go.Proofs.Ytficncmomgddpaa
open Go.RowKit Go.Cl
set_option maxRecDepth 100000
set_option linter.unusedVariables false
set_option linter.unusedSimpArgs false

theorem r_nv {e : En} (h : (e.hi != 4611686018427387904) = false) : e.r 0 = 1 ∧ e.r 1 = (if e.hot then 1 else 0) ∧ e.r 2 = e.st ∧ e.r 3 = e.ins := by
  have h' : e.hi = NV := by simpa [NV] using h
  refine ⟨?_, ?_, ?_, ?_⟩ <;> (unfold En.r; simp [h'])
theorem r_hi {e : En} (h : (e.hi != 4611686018427387904) = true) : e.r 0 = 0 ∧ e.r 1 = 0 ∧ e.r 2 = e.hi ∧ e.r 3 = e.ins := by
  have h' : e.hi ≠ NV := by simpa [NV] using h
  refine ⟨?_, ?_, ?_, ?_⟩ <;> (unfold En.r; simp [h'])
theorem c_ref (e f : En) (w : World) : Calls Try.prog 10 #[.agg e.cs, .agg f.cs] w fun r w' => r = .returned (.bool (decide (e.cmp f < 0))) ∧ Below w.heap.size w w' := by
  have hd : ∀ b : Bool, (e.cmp f < 0 ↔ b = true) → decide (e.cmp f < 0) = b := fun b h => by
    cases b
    · simp at h; simpa using h
    · simpa using h
  have hc := cmp_iff e f
  unfold lex4 at hc
  cases h1 : (e.hi != 4611686018427387904) <;> cases h2 : (f.hi != 4611686018427387904)
  · obtain ⟨a0, a1, a2, a3⟩ := r_nv h1
    obtain ⟨b0, b1, b2, b3⟩ := r_nv h2
    rw [a0, a1, a2, a3, b0, b1, b2, b3] at hc
    obtain ⟨k, v0, v1, l, hi, hot, st, ins⟩ := e
    obtain ⟨k', v0', v1', l', hi', hot', st', ins'⟩ := f
    clear a0 a1 a2 a3 b0 b1 b2 b3
    simp only at hc h1 h2
    cases hot <;> cases hot'
    · cases h4 : (st != st')
      · rw [hd (decide (ins < ins')) (by rw [hc]; simp at h4; simp [h4])]
        exact rf_ins_false w _ _ _ _ _ _ _ _ _ _ _ _ _ _ h1 h2 h4
      · rw [hd (decide (st < st')) (by rw [hc]; simp at h4; simp [h4])]
        exact rf_st_false w _ _ _ _ _ _ _ _ _ _ _ _ _ _ h1 h2 h4
    · rw [hd true (by rw [hc]; simp)]
      exact rf_h2 w _ _ _ _ _ _ _ _ _ _ _ _ _ _ h1 h2
    · rw [hd false (by rw [hc]; simp)]
      exact rf_h1 w _ _ _ _ _ _ _ _ _ _ _ _ _ _ h1 h2
    · cases h4 : (st != st')
      · rw [hd (decide (ins < ins')) (by rw [hc]; simp at h4; simp [h4])]
        exact rf_ins_true w _ _ _ _ _ _ _ _ _ _ _ _ _ _ h1 h2 h4
      · rw [hd (decide (st < st')) (by rw [hc]; simp at h4; simp [h4])]
        exact rf_st_true w _ _ _ _ _ _ _ _ _ _ _ _ _ _ h1 h2 h4
  · obtain ⟨a0, a1, a2, a3⟩ := r_nv h1
    obtain ⟨b0, b1, b2, b3⟩ := r_hi h2
    rw [a0, b0] at hc
    rw [hd false (by rw [hc]; simp)]
    exact rf_ft w _ _ _ _ _ _ _ _ _ _ _ _ _ _ _ _ h1 h2
  · obtain ⟨a0, a1, a2, a3⟩ := r_hi h1
    obtain ⟨b0, b1, b2, b3⟩ := r_nv h2
    rw [a0, b0] at hc
    rw [hd true (by rw [hc]; simp)]
    exact rf_tf w _ _ _ _ _ _ _ _ _ _ _ _ _ _ _ _ h1 h2
  · obtain ⟨a0, a1, a2, a3⟩ := r_hi h1
    obtain ⟨b0, b1, b2, b3⟩ := r_hi h2
    rw [a0, a1, a2, a3, b0, b1, b2, b3] at hc
    cases h3 : (e.hi != f.hi)
    · rw [hd (decide (e.ins < f.ins)) (by rw [hc]; simp at h3; simp [h3])]
      exact rf_hi0 w _ _ _ _ _ _ _ _ _ _ _ _ _ _ _ _ h1 h2 h3
    · rw [hd (decide (e.hi < f.hi)) (by rw [hc]; simp at h3; simp [h3])]
      exact rf_hi w _ _ _ _ _ _ _ _ _ _ _ _ _ _ _ _ h1 h2 h3
end Go.Proofs.Ytficncmomgddpaa
