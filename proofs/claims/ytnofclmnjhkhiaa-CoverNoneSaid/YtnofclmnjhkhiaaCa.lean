/- A cover in memory. -/
import Derived.Test.YtnofclmnjhkhiaaCs6
import Derived.WalkKit
import Derived.WalkLawsBesides
import Derived.WalkSpells
import Derived.Below
import Derived.Deep.RegionHeld3
import Derived.Deep.QuietTactic
import Derived.BigQuiet
import Derived.Deep.DeepCutAuto
import Derived.Deep.DeepMust
import Derived.KernelRfl
import Derived.Lib.Hide
import Derived.Outline
import Derived.RegionTactic
import Derived.StillTailTactics
namespace Go.Proofs.Ytnofclmnjhkhiaa
open Go.RowKit Go.Cl Go.Cv
set_option maxRecDepth 100000
set_option linter.unusedVariables false
set_option linter.unusedSimpArgs false

/-- Replace; and no block turns but the row's own. -/
theorem c_replace' (col : Nat → Nat) (i : Nat) (w : World) (L : List Sp) (v : Value) (hr : Row col i w 30 2 v L.length (L.flatMap encS)) (hn : L.length ≤ 8796093022206) (s : Sp) (vb vc : Nat) (hvb : hp w vb = some (.cells #[.int .i64 s.1, .int .i64 s.2] 30 (0, 0))) (hne : v.ownBlock ≠ some vb) (k j : Nat) (hk : k ≤ j) (hj : j ≤ L.length) :
    Calls Try.prog 36 #[v, .int .i64 k, .int .i64 j, .slice (some ⟨vb, 0, none⟩) 1 vc] w fun e w' => ∃ v', e = .returned v' ∧ Row (paint col w i) i w' 30 2 v' (k + 1 + (L.length - j)) ((L.take k ++ s :: L.drop j).flatMap encS) ∧ Ch col i w w' ∧ ∀ q x, hp w q = some x → v.ownBlock ≠ some q → hp w' q = some x := by
  have hr2 : Row (fun q => if v.ownBlock = some q then 1 else 0) 1 w 30 2 v L.length (L.flatMap encS) := hr.recol fun g hg => by simp [hg]
  refine (c_replace _ 1 w L v hr2 hn s vb vc hvb hne k j hk hj).mono ?_
  rintro e w' ⟨v', rfl, h1, h2⟩
  refine ⟨v', rfl, h1.recol fun g hg => ?_, ⟨h2.os, h2.tape, h2.output, h2.size, fun q hq hc => h2.block q hq ?_⟩, fun q x hx hv => hp_ch hx h2 (by simp [hv])⟩
  · have e := h1.col g hg
    rcases Nat.lt_or_ge g w.heap.size with h | h
    · rw [paint_old h] at e ⊢
      split at e
      · rename_i hv; exact hr.col g hv
      · cases e
    · exact paint_new h
  · show (if v.ownBlock = some q then 1 else 0) ≠ 1
    rw [if_neg (fun hv => hc (hr.col q hv))]
    decide
/-- A cover: its block and its row are owner i's. -/
structure CvO (col : Nat → Nat) (i : Nat) (w : World) (b : Nat) (L : List Sp) : Prop where
  ex : ∃ v, Blk col i w b #[v] 60 ∧ Row col i w 30 2 v L.length (L.flatMap encS)
theorem row_rdl {col : Nat → Nat} {i : Nat} {w : World} {v : Value} {L : List Sp} (h : Row col i w 30 2 v L.length (L.flatMap encS)) : RdL w v L := by
  obtain ⟨p, cp, rfl⟩ := h.form
  refine ⟨p, cp, rfl, fun k a ha => ?_⟩
  obtain ⟨hk, hka⟩ := List.getElem?_eq_some_iff.1 ha
  obtain ⟨g, c, cur, e1, _⟩ := h.pos (by omega)
  simp only [Value.slice.injEq, true_and] at e1
  obtain ⟨rfl, rfl⟩ := e1
  have e0 := encS_ok.get L k 0 hk (by omega)
  have e2 := encS_ok.get L k 1 hk (by omega)
  rw [hka] at e0 e2
  exact ⟨g, 0, rfl, by rw [Nat.zero_add]; exact h.cell rfl e0, by rw [Nat.zero_add]; exact h.cell rfl e2⟩
section
variable {col : Nat → Nat} {i : Nat} {w w' : World} {b : Nat} {L : List Sp}
theorem CvO.rd (h : CvO col i w b L) : CvR w b L := by
  obtain ⟨v, hb, hr⟩ := h.ex
  exact ⟨v, by rw [hp_cell hb.hp]; rfl, row_rdl hr⟩
theorem CvO.kept {col' : Nat → Nat} {S : List Nat} (h : CvO col i w b L) (hm : Mv S col w col' w') (hi : i ∉ S) : CvO col' i w' b L := by
  obtain ⟨v, hb, hr⟩ := h.ex
  exact ⟨v, ⟨hp_mv hb.hp hm (by rw [hb.col]; exact hi), (hm.col b (hp_lt hb.hp)).trans hb.col⟩, hr.kept hm hi⟩
theorem CvO.below (h : CvO col i w b L) (hb : Below w.heap.size w w') : CvO col i w' b L := h.kept (Mv.of_below (S := []) hb) (by simp)
end
def addL (L : List Sp) (s : Sp) : List Sp := if s.2 ≤ s.1 then L else ins L s
theorem drop_at {L : List Sp} {j : Nat} {a : Sp} (h : L[j]? = some a) : L.drop j = a :: L.drop (j + 1) := by
  obtain ⟨hj, e⟩ := List.getElem?_eq_some_iff.1 h
  rw [List.drop_eq_getElem_cons hj, e]
/-- What stands behind the absorbed. -/
theorem absorb_stop {L : List Sp} {j : Nat} {s : Sp} (h : ∀ a, L[j]? = some a → ¬ (a.1 ≤ s.2 ∧ s.1 ≤ a.2)) : absorb s (L.drop j) = (s, L.drop j) := by
  cases e : L[j]? with
  | none =>
    rw [List.drop_eq_nil_of_le (by rw [List.getElem?_eq_none_iff] at e; exact e)]; rfl
  | some a =>
    rw [drop_at e]
    unfold absorb
    rw [if_neg (h a e)]
end Go.Proofs.Ytnofclmnjhkhiaa
