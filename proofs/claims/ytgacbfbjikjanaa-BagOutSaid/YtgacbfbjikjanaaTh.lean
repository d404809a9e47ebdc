/- A bag of things: contracts. -/
import Derived.Test.YtgacbfbjikjanaaBag3
import Derived.WalkKit
import Derived.WalkLawsBesides
import Derived.WalkSpells
import Derived.Below
import Derived.Deep.RegionHeld3
import Derived.Deep.QuietTactic
import Derived.BigQuiet
import Derived.Deep.DeepCutAuto
import Derived.Deep.DeepMust
import Derived.KernelRfl
import Derived.Lib.Hide
import Derived.Outline
import Derived.RegionTactic
import Derived.StillTailTactics
namespace Go.Proofs.Ytgacbfbjikjanaa
open Go.RowKit Go.Cl
set_option maxRecDepth 100000
set_option linter.unusedVariables false
set_option linter.unusedSimpArgs false


abbrev Thg := Int × ByteArray
theorem two_cellsT (w : World) (u v : Value) (t : TypeId) : ∀ j x, [u, v][j]? = some x → (w.alloc (.cells #[u, v] t)).cell? ((⟨w.heap.size, 0, none⟩ : Addr).add j) = some x := by
  intro j x hj
  match j, hj with
  | 0, hj => simp at hj; subst hj; simp [Addr.add]
  | 1, hj => simp at hj; subst hj; simp [Addr.add]
theorem bt_len (col : Nat → Nat) (i : Nat) (w : World) (b : Nat) (L : List Thg) (most lost : Int) (h : Bag 91 43 2 encT col i w b L most lost) :
    Calls Try.prog 22 #[.pointer (some ⟨b, 0, none⟩)] w fun e w' => e = .returned (.int .i64 L.length) ∧ w = w' := by
  obtain ⟨⟨v, hb, hr⟩, h1, h2, h3⟩ := h
  obtain ⟨p, c, rfl⟩ := hr.form
  have cb := hp_cell hb.hp
  go_enter Try.func22, Try.ntmps22
  go_wp2
  go_ret
  exact ⟨rfl, rfl⟩
attribute [local go_sem] max2_int min2_int max_two min_two
theorem bt_new (col : Nat → Nat) (i : Nat) (w : World) :
    Calls Try.prog 20 #[.int .i64 4096] w fun e w' => ∃ b, e = .returned (.pointer (some ⟨b, 0, none⟩)) ∧ Bag 91 43 2 encT (paint col w i) i w' b [] 4096 0 ∧ Ch col i w w' := by
  go_enter Try.func20, Try.ntmps20
  go_wp2
  go_ret
  exact ⟨w.heap.size, rfl, ⟨⟨.slice none 0 0, ⟨hp_alloc_new w _, paint_new (Nat.le_refl _)⟩, Row.nil'⟩, by omega, by omega, by simp⟩, Ch.refl.alloc _⟩
theorem bt_at (col : Nat → Nat) (i : Nat) (w : World) (b : Nat) (L : List Thg) (most lost : Int) (h : Bag 91 43 2 encT col i w b L most lost) (j : Nat) (hj : j < L.length) :
    Calls Try.prog 25 #[.pointer (some ⟨b, 0, none⟩), .int .i64 j] w fun e w' => e = .returned (.tuple #[.agg #[.int .i64 L[j].1, .string L[j].2], .bool true]) ∧ Below w.heap.size w w' := by
  have hl := bt_len col i
  have h0 := h
  obtain ⟨⟨v, hb, hr⟩, h1, h2, h3⟩ := h
  obtain ⟨g, c, cur, rfl, hg, hnc, hcm, hcs, htk, hgc⟩ := hr.pos (by omega)
  have q0 : w.cell? ⟨g, j * 2, none⟩ = some (.int .i64 L[j].1) := hr.cell (g := g) rfl (by have := encT_ok.get L j 0 hj (by omega); simpa [encT] using this)
  have q1 : w.cell? ⟨g, j * 2 + 1, none⟩ = some (.string L[j].2) := hr.cell (g := g) rfl (by have := encT_ok.get L j 1 hj (by omega); simpa [encT] using this)
  have HA := below_alloc (Below.refl w.heap.size w) (.cells #[.int .i64 0, .string ⟨#[]⟩] 43)
  have d0 := cell_below HA q0; have d1 := cell_below HA q1
  have cb := hp_cell (hp_below HA hb.hp)
  have hlb := h0.below HA
  generalize L[j] = m at *
  have hj5 : j ≤ 5000 := by omega
  clear h0 htk hr hb
  go_enter Try.func25, Try.ntmps25
  go_wp2_with (go_at_call 22; refine (hl _ b L most lost hlb).mono ?_; rintro e w' ⟨rfl, rfl⟩)
  exact bodyPost_ret (v := .tuple #[.agg #[.int .i64 m.1, .string m.2], .bool true]) (by simp [results, Try.results25, go_sem, hp_cell (hp_alloc_new w (.cells #[.int .i64 m.1, .string m.2] 43))]) rfl ⟨rfl, below_alloc (Below.refl _ _) _⟩

end Go.Proofs.Ytgacbfbjikjanaa
