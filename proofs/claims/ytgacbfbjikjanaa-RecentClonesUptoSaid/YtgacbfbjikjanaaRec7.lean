/- Recent: New. -/
import Derived.Test.YtgacbfbjikjanaaRec6
import Derived.WalkKit
import Derived.WalkLawsBesides
import Derived.WalkSpells
import Derived.Below
import Derived.Deep.RegionHeld3
import Derived.Deep.QuietTactic
import Derived.BigQuiet
import Derived.Deep.DeepCutAuto
import Derived.Deep.DeepMust
import Derived.KernelRfl
import Derived.Lib.Hide
import Derived.Outline
import Derived.RegionTactic
import Derived.StillTailTactics
namespace Go.Proofs.Ytgacbfbjikjanaa
open Go.RowKit Go.Cl
set_option maxRecDepth 100000
set_option linter.unusedVariables false
set_option linter.unusedSimpArgs false


theorem max2_int (k k' : IntKind) (x y : Int) : Builtin.max2 (.int k x) (.int k' y) = pure (.int k (max x y)) := by
  have e : max x y = if x < y then y else x := by split <;> omega
  simp only [Builtin.max2, gt_iff_lt, e]
theorem min2_int (k k' : IntKind) (x y : Int) : Builtin.min2 (.int k x) (.int k' y) = pure (.int k (min x y)) := by
  have e : min x y = if y < x then y else x := by split <;> omega
  simp only [Builtin.min2, e]
theorem max_two (ats : Array TypeId) (ty : TypeId) (a b : Value) : Builtin.max_ ats ty #[a, b] = (Builtin.max2 a b >>= fun s => pure s) := by simp only [Builtin.max_, List.foldlM_cons, List.foldlM_nil]
theorem min_two (ats : Array TypeId) (ty : TypeId) (a b : Value) : Builtin.min_ ats ty #[a, b] = (Builtin.min2 a b >>= fun s => pure s) := by simp only [Builtin.min_, List.foldlM_cons, List.foldlM_nil]
attribute [local go_sem] max2_int min2_int max_two min_two
def capR (most : Int) : Nat := (min (max most 0) 1024).toNat
theorem capR_int (most : Int) : min (max most 0) 1024 = (capR most : Int) := by unfold capR; omega
theorem capR_hi (most : Int) : capR most ≤ 1024 := by unfold capR; omega
def capS (since : Int) : Int := min (max since 0) 1099511627776
theorem made_marks (R : Nat) : (madeCells #[.int .i64 0, .string ⟨#[]⟩] (R * 2)).toList = (List.replicate R ((0, ⟨#[]⟩) : Mk)).flatMap encM := by
  apply List.ext_getElem?
  intro j
  by_cases hj : j < R * 2
  · have h1 := encM_ok.get (List.replicate R ((0, ⟨#[]⟩) : Mk)) (j / 2) (j % 2) (by simp; omega) (by omega)
    rw [show j / 2 * 2 + j % 2 = j by omega] at h1
    rw [h1]
    have hs : (madeCells #[.int .i64 0, .string ⟨#[]⟩] (R * 2)).size = R * 2 := size_madeCells _ _
    rw [Array.getElem?_toList, Array.getElem?_eq_getElem (by rw [hs]; exact hj)]
    simp only [madeCells, Array.getElem_map, Array.getElem_range, List.size_toArray, List.length_cons, List.length_nil, List.getElem_replicate]
    rcases (by omega : j % 2 = 0 ∨ j % 2 = 1) with h | h
    · rw [show (0 + 1 + 1 : Nat) = 2 from rfl, h]; rfl
    · rw [show (0 + 1 + 1 : Nat) = 2 from rfl, h]; rfl
  · rw [List.getElem?_eq_none (by simp [size_madeCells]; omega), List.getElem?_eq_none (by rw [encM_ok.length]; simp; omega)]
theorem run_make_marks (W : World) (R : Nat) (h : R ≤ 1024) : (Instr.makeSlice 62 (.int .i64 R) (.int .i64 R)).run Try.prog W = .ok (.slice (some ⟨W.heap.size, 0, none⟩) R R) (W.alloc (.cells (madeCells #[.int .i64 0, .string ⟨#[]⟩] (R * 2)) 82)) := by
  obtain ⟨i0, hi, hz0, hz1, hz2⟩ := info_parts Try.info82
  have := run_make (P := Try.prog) W 62 82 i0 _ Try.underlying62 hi hz0 .i64 .i64 (R : Int) (R : Int) (by omega) (Int.le_refl _) (by rw [hz2]; omega) (by omega)
  rw [hz1] at this
  simpa [Value.cells] using this
theorem rc_new (col : Nat → Nat) (i : Nat) (w : World) (most since : Int) :
    Calls Try.prog 28 #[.int .i64 most, .int .i64 since] w fun e w' => ∃ b, e = .returned (.pointer (some ⟨b, 0, none⟩)) ∧ Rec (paint col w i) i w' b [] (capR most) (capS since) (capS since) ∧ Ch col i w w' := by
  have hcr := capR_int most
  have hcs : min (max since 0) 1099511627776 = capS since := rfl
  have hR := capR_hi most
  have hm := fun W => run_make_marks W (capR most) hR
  generalize hS : capS since = S at *
  have HS := Lib.hid hS; clear hS
  generalize hr : capR most = R at *
  clear hr
  go_enter Try.func28, Try.ntmps28
  go_wp2
  go_ret
  have hrow : Row (paint col w i) i (w.alloc (.cells (madeCells #[.int .i64 0, .string ⟨#[]⟩] (R * 2)) 82)) 82 2 (.slice (some ⟨w.heap.size, 0, none⟩) R R) R ((List.replicate R ((0, ⟨#[]⟩) : Mk)).flatMap encM) :=
    Row.mk' (hp_alloc_new w _) (Nat.le_refl _) (by unfold maxLen; omega) (size_madeCells _ _) (by rw [made_marks, List.take_of_length_le]; rw [encM_ok.length]; simp) (by rw [encM_ok.length]; simp) (paint_new (Nat.le_refl _))
  refine ⟨_, rfl, ⟨⟨_, List.replicate R (0, ⟨#[]⟩), 0, ⟨by simpa using hp_alloc_new (w.alloc (.cells (madeCells #[.int .i64 0, .string ⟨#[]⟩] (R * 2)) 82)) (.cells #[.slice (some ⟨w.heap.size, 0, none⟩) R R, .int .i64 0, .int .i64 0, .int .i64 S, .int .i64 S] 94), paint_new (by omega)⟩, hrow.below' (below_alloc (Below.refl _ _) _), by simp, fun h => h, fun _ => rfl, fun k hk => by simp at hk⟩, Nat.zero_le _, hR⟩, (Ch.refl.alloc _).alloc _⟩
theorem rf_new (col : Nat → Nat) (i : Nat) (w : World) (most since : Int) :
    Calls Try.prog 29 #[.int .i64 most, .int .i64 since] w fun e w' => ∃ b, e = .returned (.pointer (some ⟨b, 0, none⟩)) ∧ Ref (paint col w i) i w' b [] (capR most) (capS since) (capS since) ∧ Ch col i w w' := by
  have fin : ∀ m s, min (max most 0) 1024 = m → capS since = s → Ref (paint col w i) i (w.alloc (.cells #[.slice none 0 0, .int .i64 m, .int .i64 s, .int .i64 s] 65)) w.heap.size [] (capR most) (capS since) (capS since) := fun m s hm hs => by
    subst hm; subst hs
    rw [capR_int]
    exact ⟨⟨.slice none 0 0, ⟨hp_alloc_new w _, paint_new (Nat.le_refl _)⟩, Row.nil'⟩, Nat.zero_le _, capR_hi _⟩
  have h1 : ¬ (1024 : Int) < 0 := by omega
  have h2 : ¬ (1099511627776 : Int) < 0 := by omega
  by_cases c1 : most < 0
  all_goals (try (by_cases c2 : 1024 < most))
  all_goals (by_cases c3 : since < 0)
  all_goals (try (by_cases c4 : 1099511627776 < since))
  all_goals first | (exfalso; omega) | skip
  all_goals
    go_enter Try.func29, Try.ntmps29
    go_wp2
    go_ret
    exact ⟨w.heap.size, rfl, fin _ _ (by omega) (by unfold capS; omega), Ch.refl.alloc _⟩

end Go.Proofs.Ytgacbfbjikjanaa
