/- Scripts. -/
import Derived.Test.YtnofclmnjhkhiaaCe
import Derived.WalkKit
import Derived.WalkLawsBesides
import Derived.WalkSpells
import Derived.Below
import Derived.Deep.RegionHeld3
import Derived.Deep.QuietTactic
import Derived.BigQuiet
import Derived.Deep.DeepCutAuto
import Derived.Deep.DeepMust
import Derived.KernelRfl
import Derived.Lib.Hide
import Derived.Outline
import Derived.RegionTactic
import Derived.StillTailTactics
namespace Go.Proofs.Ytnofclmnjhkhiaa
open Go.RowKit Go.Cl Go.Cv
set_option maxRecDepth 100000
set_option linter.unusedVariables false
set_option linter.unusedSimpArgs false

abbrev Op4 := Bool × Int × Int × Int
/-- A script, to be read. -/
def OpsR (w : World) (v : Value) (l : List Op4) : Prop := ∃ p cp, v = .slice p l.length cp ∧ ∀ k o, l[k]? = some o → ∃ b f, p = some ⟨b, f, none⟩ ∧ b < w.heap.size ∧ w.cell? ⟨b, f + k * 4, none⟩ = some (.bool o.1) ∧ w.cell? ⟨b, f + k * 4 + 1, none⟩ = some (.int .i64 o.2.1) ∧ w.cell? ⟨b, f + k * 4 + 2, none⟩ = some (.int .i64 o.2.2.1) ∧ w.cell? ⟨b, f + k * 4 + 3, none⟩ = some (.int .i64 o.2.2.2)
theorem OpsR.below {w w' : World} {v : Value} {l : List Op4} (h : OpsR w v l) (hb : Below w.heap.size w w') : OpsR w' v l := by
  obtain ⟨p, cp, hv, h⟩ := h
  exact ⟨p, cp, hv, fun k a hk => by obtain ⟨b, o, hp, hl, h1, h2, h3, h4⟩ := h k a hk; exact ⟨b, o, hp, Nat.lt_of_lt_of_le hl hb.size, cell_below hb h1, cell_below hb h2, cell_below hb h3, cell_below hb h4⟩⟩
theorem OpsR.at {w : World} {p : Option Addr} {n cp : Nat} {l : List Op4} (h : OpsR w (.slice p n cp) l) {k : Nat} {o : Op4} (hk : l[k]? = some o) : ∃ b f, p = some ⟨b, f, none⟩ ∧ w.cell? ⟨b, f + k * 4, none⟩ = some (.bool o.1) ∧ w.cell? ⟨b, f + k * 4 + 1, none⟩ = some (.int .i64 o.2.1) ∧ w.cell? ⟨b, f + k * 4 + 2, none⟩ = some (.int .i64 o.2.2.1) ∧ w.cell? ⟨b, f + k * 4 + 3, none⟩ = some (.int .i64 o.2.2.2) := by
  obtain ⟨p', cp', e, h⟩ := h
  simp only [Value.slice.injEq] at e
  obtain ⟨rfl, rfl, rfl⟩ := e
  obtain ⟨b, f, h1, _, h2⟩ := h k o hk
  exact ⟨b, f, h1, h2⟩
theorem get_op {l : List Op4} {k : Nat} (h : k < l.length) : ∃ a, l[k]? = some a := ⟨_, List.getElem?_eq_getElem h⟩
theorem c_new0 (col : Nat → Nat) (i : Nat) (w : World) : Calls Try.prog 11 #[.slice none 0 0] w fun e w' => ∃ b, e = .returned (.pointer (some ⟨b, 0, none⟩)) ∧ w.heap.size ≤ b ∧ CvO (paint col w i) i w' b [] ∧ Ch col i w w' :=
  c_new col i w (.slice none 0 0) [] (fun _ _ => ⟨none, 0, rfl, fun k a h => by simp at h⟩) (by decide)
/-- What an operation makes of a cover. -/
def stepL (L : List Sp) (o : Op4) : List Sp := if o.1 = true then cutC L (o.2.1, o.2.2.1) else addL L (o.2.1, o.2.2.1)
theorem stepL_law {L : List Sp} (hw : Wf L) (o : Op4) : Wf (stepL L o) ∧ (stepL L o).length ≤ L.length + 1 := by
  unfold stepL
  split
  · obtain ⟨h1, _, h2⟩ := cutC_law hw (o.2.1, o.2.2.1); exact ⟨h1, h2⟩
  · obtain ⟨h1, _, h2⟩ := addL_law hw (o.2.1, o.2.2.1); exact ⟨h1, h2⟩
end Go.Proofs.Ytnofclmnjhkhiaa
