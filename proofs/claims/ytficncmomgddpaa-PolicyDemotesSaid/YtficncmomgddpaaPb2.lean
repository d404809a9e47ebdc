/- Bools that tell what is in a list. -/
import Derived.Test.YtficncmomgddpaaPb
import Derived.WalkKit
import Derived.WalkLawsBesides
import Derived.WalkSpells
import Derived.Below
import Derived.Deep.RegionHeld3
import Derived.Deep.QuietTactic
import Derived.BigQuiet
import Derived.Deep.DeepCutAuto
import Derived.Deep.DeepMust
import Derived.KernelRfl
import Derived.Lib.Hide
import Derived.Outline
import Derived.RegionTactic
import Derived.StillTailTactics
namespace Go.Proofs.Ytficncmomgddpaa
open Go.RowKit Go.Cl
set_option maxRecDepth 100000
set_option linter.unusedVariables false
set_option linter.unusedSimpArgs false

open Go.Ps
/-- What is read as a number lies in no block of bools. -/
theorem RdI.bb {W5 W : World} {v : Value} {n gt : Nat} {D : Nat → Nat} {o0 o : List Bool} (h : RdI W5 v n D) (h0 : hp W5 gt = some (.cells (bools o0) 4 (0, 0))) (hB : BB W5 gt o W) : RdI W v n D := by
  obtain ⟨p, cp, hv, h⟩ := h
  refine ⟨p, cp, hv, fun i hi => ?_⟩
  obtain ⟨b, f, hp0, hc⟩ := h i hi
  refine ⟨b, f, hp0, ?_⟩
  have hlt := World.block_lt_of_cell? W5 _ hc
  have hne : b ≠ gt := by
    intro e; subst e
    rw [hp_cell h0] at hc
    unfold bools at hc
    simp at hc
  rw [← hc]
  exact cell_heap (hB.old hlt hne) _
theorem dem_st {E : Nat → En} {x y : Nat} (h : RR (fun x y => (E x).dem (E y)) x y) : ¬ (E y).st < (E x).st := by
  intro hlt
  have h1 : (E x).dem (E y) = 1 := by
    unfold En.dem cmpI
    rw [if_neg (by rw [if_neg (by omega), if_pos hlt]; omega), if_neg (by omega), if_pos hlt]
  have h2 : (E y).dem (E x) = -1 := by rw [anti_dem E x y, h1]
  have h' : (E x).dem (E y) < 0 ∨ (¬ (E y).dem (E x) < 0 ∧ x < y) := h
  rcases h' with h | h
  · omega
  · omega
theorem mem_ls {F : Nat → Nat} {k x : Nat} : x ∈ ls F k ↔ ∃ j, j < k ∧ F j = x := by
  unfold ls
  rw [List.mem_map]
  constructor
  · rintro ⟨j, h1, h2⟩; exact ⟨j, List.mem_range.1 h1, h2⟩
  · rintro ⟨j, h1, h2⟩; exact ⟨j, List.mem_range.2 h1, h2⟩
/-- The bools tell what is in the list. -/
def Gn (o : List Bool) (n : Nat) (F : Nat → Nat) (k : Nat) : Prop := ∀ x, x < n → o[x]? = some (decide (x ∈ ls F k))
theorem Gn.zero (n : Nat) (F : Nat → Nat) : Gn (List.replicate n false) n F 0 := fun x hx => by
  rw [List.getElem?_replicate, if_pos hx]; rfl
theorem Gn.step {o : List Bool} {n : Nat} {F : Nat → Nat} {k : Nat} (h : Gn o n F k) (hF : F k < n) : Gn (o.set (F k) true) n F (k + 1) := fun x hx => by
  rw [List.getElem?_set, ls_succ]
  have hl : F k < o.length := by
    have := h (F k) hF
    exact (List.getElem?_eq_some_iff.1 this).1
  by_cases e : F k = x
  · rw [if_pos e, if_pos hl]
    simp [e]
  · rw [if_neg e, h x hx]
    simp [show ¬ x = F k from fun e2 => e e2.symm]
end Go.Proofs.Ytficncmomgddpaa
