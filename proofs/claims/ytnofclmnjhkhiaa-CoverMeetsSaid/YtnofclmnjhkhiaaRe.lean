/- The reference's Add: plain law. -/
import Derived.Test.YtnofclmnjhkhiaaRd
import Derived.WalkKit
import Derived.WalkLawsBesides
import Derived.WalkSpells
import Derived.Below
import Derived.Deep.RegionHeld3
import Derived.Deep.QuietTactic
import Derived.BigQuiet
import Derived.Deep.DeepCutAuto
import Derived.Deep.DeepMust
import Derived.KernelRfl
import Derived.Lib.Hide
import Derived.Outline
import Derived.RegionTactic
import Derived.StillTailTactics
namespace Go.Proofs.Ytnofclmnjhkhiaa
open Go.RowKit Go.Cl Go.Cv
set_option maxRecDepth 100000
set_option linter.unusedVariables false
set_option linter.unusedSimpArgs false

abbrev RSt := List Sp × Sp × List Sp
/-- One step of the reference's Add. -/
def rstep (st : RSt) (a : Sp) : RSt := if a.1 ≤ st.2.1.2 ∧ st.2.1.1 ≤ a.2 then (st.1, (min a.1 st.2.1.1, max a.2 st.2.1.2), st.2.2) else if a.2 < st.2.1.1 then (st.1 ++ [a], st.2.1, st.2.2) else (st.1, st.2.1, st.2.2 ++ [a])
theorem rfold_right (s : Sp) (bf : List Sp) (hs : s.1 < s.2) : ∀ (L bh : List Sp), (∀ a ∈ L, s.2 < a.1 ∧ a.1 < a.2) → L.foldl rstep (bf, s, bh) = (bf, s, bh ++ L) := by
  intro L
  induction L with
  | nil => intro bh _; simp
  | cons a r ih =>
    intro bh h
    have ha := h a List.mem_cons_self
    have e : rstep (bf, s, bh) a = (bf, s, bh ++ [a]) := by
      unfold rstep
      rw [if_neg (show ¬ (a.1 ≤ s.2 ∧ s.1 ≤ a.2) by omega), if_neg (show ¬ a.2 < s.1 by omega)]
    rw [List.foldl_cons, e, ih _ (fun b hb => h b (List.mem_cons_of_mem _ hb))]
    simp
theorem rfold_absorb (bf : List Sp) : ∀ (L : List Sp) (s : Sp), Wf L → s.1 < s.2 → (∀ a ∈ L, s.1 ≤ a.2) → L.foldl rstep (bf, s, []) = (bf, (absorb s L).1, (absorb s L).2) := by
  intro L
  induction L with
  | nil => intro s _ _ _; rfl
  | cons a r ih =>
    intro s hw hs hle
    have ha := hw.head
    rw [List.foldl_cons]
    by_cases c : a.1 ≤ s.2 ∧ s.1 ≤ a.2
    · have e : rstep (bf, s, []) a = (bf, (min s.1 a.1, max s.2 a.2), []) := by
        unfold rstep
        rw [if_pos (show a.1 ≤ s.2 ∧ s.1 ≤ a.2 from c)]
        show (bf, ((min a.1 s.1, max a.2 s.2) : Sp), ([] : List Sp)) = _
        rw [Int.min_comm, Int.max_comm]
      have e2 : absorb s (a :: r) = absorb (min s.1 a.1, max s.2 a.2) r := by rw [absorb]; exact if_pos c
      rw [e, e2]
      refine ih _ hw.tail (by show min s.1 a.1 < max s.2 a.2; omega) (fun b hb => ?_)
      have := hw.ahead b hb
      have := hw.tail.1 b hb
      show min s.1 a.1 ≤ b.2
      omega
    · have hsa := hle a List.mem_cons_self
      have e : rstep (bf, s, []) a = (bf, s, [a]) := by
        unfold rstep
        rw [if_neg (show ¬ (a.1 ≤ s.2 ∧ s.1 ≤ a.2) from c), if_neg (show ¬ a.2 < s.1 by omega)]; rfl
      have e2 : absorb s (a :: r) = (s, a :: r) := by rw [absorb]; exact if_neg c
      rw [e, e2, rfold_right s bf hs r [a] (fun b hb => ⟨by have := hw.ahead b hb; omega, hw.tail.1 b hb⟩)]
      rfl
theorem rfold_ins : ∀ (L : List Sp) (s : Sp) (bf : List Sp), Wf L → s.1 < s.2 → (L.foldl rstep (bf, s, [])).1 ++ (L.foldl rstep (bf, s, [])).2.1 :: (L.foldl rstep (bf, s, [])).2.2 = bf ++ ins L s := by
  intro L
  induction L with
  | nil => intro s bf _ _; rfl
  | cons a r ih =>
    intro s bf hw hs
    unfold ins
    by_cases c : a.2 < s.1
    · rw [if_pos c]
      have e : rstep (bf, s, []) a = (bf ++ [a], s, []) := by
        unfold rstep
        rw [if_neg (show ¬ (a.1 ≤ s.2 ∧ s.1 ≤ a.2) by omega), if_pos (show a.2 < s.1 from c)]
      rw [List.foldl_cons, e, ih s _ hw.tail hs]
      simp
    · rw [if_neg c, rfold_absorb bf (a :: r) s hw hs (fun b hb => by
        rcases List.mem_cons.1 hb with rfl | hb
        · omega
        · have := hw.ahead b hb; have := hw.tail.1 b hb; omega)]
def rf (L : List Sp) (s : Sp) (k : Nat) : RSt := (L.take k).foldl rstep ([], s, [])
theorem rf_step (L : List Sp) (s : Sp) (k : Nat) (a : Sp) (h : L[k]? = some a) : rf L s (k + 1) = rstep (rf L s k) a := by
  unfold rf
  rw [List.take_add_one, h, List.foldl_append]; rfl
theorem rf_ok {L : List Sp} (hw : Wf L) (s : Sp) (hs : s.1 < s.2) : ∀ k, (rf L s k).2.1.1 < (rf L s k).2.1.2 ∧ (rf L s k).1.length + (rf L s k).2.2.length ≤ k := by
  intro k
  induction k with
  | zero => exact ⟨hs, Nat.le_refl _⟩
  | succ k ih =>
    cases e : L[k]? with
    | none =>
      have : rf L s (k + 1) = rf L s k := by unfold rf; rw [List.take_add_one, e]; simp
      rw [this]; exact ⟨ih.1, by omega⟩
    | some a =>
      have ha := hw.get e
      rw [rf_step L s k a e]
      unfold rstep
      split
      · refine ⟨?_, by show (rf L s k).1.length + (rf L s k).2.2.length ≤ k + 1; omega⟩
        show min a.1 (rf L s k).2.1.1 < max a.2 (rf L s k).2.1.2
        omega
      · split
        · exact ⟨ih.1, by show ((rf L s k).1 ++ [a]).length + (rf L s k).2.2.length ≤ k + 1; simp; omega⟩
        · exact ⟨ih.1, by show (rf L s k).1.length + ((rf L s k).2.2 ++ [a]).length ≤ k + 1; simp; omega⟩
theorem rf_all {L : List Sp} (hw : Wf L) (s : Sp) (hs : s.1 < s.2) : (rf L s L.length).1 ++ (rf L s L.length).2.1 :: (rf L s L.length).2.2 = ins L s := by
  unfold rf
  rw [List.take_length]
  have := rfold_ins L s [] hw hs
  simpa using this
theorem append_none {w : World} {p : Option Addr} {n c : Nat} {ty : TypeId} (h : n ≤ c) : (Builtin.append_ #[36, 36] ty #[.slice p n c, .slice none 0 0]).run Try.prog w = .ok (.slice p n c) w := by
  obtain ⟨i0, hi0, hz0, hz1, hz2⟩ := info_parts Try.info53
  cases p <;> simp [Builtin.append_, run_underlying Try.underlying36, sizeOf, typeInfo, hi0, Builtin.lenOf, Builtin.firstCells, loadCells, loadCellsFrom, h, storeCells]
end Go.Proofs.Ytnofclmnjhkhiaa
