/- A cover that a round changes. -/
import Derived.Test.YtnofclmnjhkhiaaRi
import Derived.Test.YtnofclmnjhkhiaaCp
import Derived.Test.YtnofclmnjhkhiaaCn
import Derived.RangeFuncNested
import Derived.RangeFuncBound
import Derived.RangeFuncCalls
import Derived.RangeFuncLeaves
import Derived.Shelf.Abstract
import Derived.Shelf.RegionOpen
import Derived.OwnWalkIn
import Derived.TacticsInMore
import Derived.LoopNIn
import Derived.LoopIn
import Derived.Sort.CutIn
import Derived.Maps.AppendAt
import Derived.WalkKit
import Derived.WalkLawsBesides
import Derived.WalkSpells
import Derived.Below
import Derived.Deep.RegionHeld3
import Derived.Deep.QuietTactic
import Derived.BigQuiet
import Derived.Deep.DeepCutAuto
import Derived.Deep.DeepMust
import Derived.KernelRfl
import Derived.Lib.Hide
import Derived.Outline
import Derived.RegionTactic
import Derived.StillTailTactics
namespace Go.Proofs.Ytnofclmnjhkhiaa
open Go.RowKit Go.Cl Go.Cv
set_option maxRecDepth 100000
set_option linter.unusedVariables false
set_option linter.unusedSimpArgs false
open Go.Shelf
attribute [local go_sem] Oper.semAt_some

/-- The colours of one cover: its block and its list's. -/
def hub (b : Nat) (v : Value) : Nat → Nat := fun k => if k = b ∨ v.ownBlock = some k then 1 else 0
theorem hub_zero {b k : Nat} {v : Value} (h1 : k ≠ b) (h2 : v.ownBlock ≠ some k) : hub b v k = 0 := if_neg (fun h => h.elim h1 h2)
theorem cvO_hub {W : World} {b base : Nat} {v : Value} {L : List Sp} (hb : Boxed W b 60 v) (hr : W.ownsRow base 30 2 v L.length (L.flatMap encS)) : CvO (hub b v) 1 W b L :=
  ⟨v, ⟨hb, if_pos (.inl rfl)⟩, ⟨ownsRow_base0 hr, fun g hg => if_pos (.inr hg)⟩⟩
theorem own_lt {W : World} {base s n : Nat} {t : TypeId} {v : Value} {xs : List Value} (h : W.ownsRow base t s v n xs) {g : Nat} (hg : v.ownBlock = some g) : base ≤ g ∧ g < W.heap.size ∧ ∃ cur, hp W g = some (.cells cur t (0, 0)) := by
  rcases h.2 with ⟨rfl, _⟩ | ⟨g', cap, cur, rfl, hb, hh, _⟩
  · simp [Value.ownBlock] at hg
  · obtain rfl : g' = g := by simpa [Value.ownBlock] using hg
    exact ⟨hb, (Array.getElem?_eq_some_iff.1 hh).1, cur, hh⟩
/-- What a change of one cover alone leaves. -/
theorem hub_round {W W' : World} {b base n1 : Nat} {v : Value} {L L' : List Sp} (hb : Boxed W b 60 v) (hr : W.ownsRow base 30 2 v L.length (L.flatMap encS)) (hch : Ch (hub b v) 1 W W') (h' : CvO (paint (hub b v) W 1) 1 W' b L') (hbb : base ≤ b) (hbs : base ≤ W.heap.size) :
    KpH n1 b W W' ∧ KeepsOthers W W' ∧ (∃ v', Boxed W' b 60 v' ∧ W'.ownsRow base 30 2 v' L'.length (L'.flatMap encS)) ∧ (∀ q x, hp W q = some x → q ≠ b → v.ownBlock ≠ some q → hp W' q = some x) ∧ Below base W W' := by
  have hbl : b < W.heap.size := hb.lt
  have keep : ∀ q x, hp W q = some x → q ≠ b → v.ownBlock ≠ some q → hp W' q = some x := fun q x hq h1 h2 => hp_ch hq hch (by rw [hub_zero h1 h2]; decide)
  obtain ⟨v', hb', hr'⟩ := h'.ex
  have hown : ∀ g, v'.ownBlock = some g → W.heap.size ≤ g ∨ v.ownBlock = some g := by
    intro g hg
    rcases Nat.lt_or_ge g W.heap.size with hl | hl
    · have e := hr'.col g hg
      rw [paint_old hl] at e
      unfold hub at e
      split at e
      · rename_i hh
        rcases hh with rfl | hh
        · have h1 := hb'.hp
          obtain ⟨_, _, cur, h2⟩ := own_lt hr'.own hg
          rw [h1] at h2; simp at h2
        · exact .inr hh
      · cases e
    · exact .inl hl
  refine ⟨⟨hch.size, fun g cs fr _ hg hn => ?_⟩, ⟨hch.size, fun k o hk ho => ?_⟩, ⟨v', hb'.hp, ?_⟩, keep, ⟨hch.os, hch.tape, hch.output, hch.size, fun k hk => ?_⟩⟩
  · have h1 : g ≠ b := fun e => by
      subst e
      rw [show hp W g = _ from hb] at hg
      simp at hg
    have h2 : v.ownBlock ≠ some g := hn v 60 (0, 0) hb
    refine ⟨keep g _ hg h1 h2, fun v2 t fr2 hv2 hvg => ?_⟩
    rw [hb'.hp] at hv2
    simp at hv2
    obtain ⟨⟨rfl⟩, _⟩ := hv2
    rcases hown g hvg with h3 | h3
    · have := hp_lt hg; omega
    · exact h2 h3
  · refine keep k o hk (fun e => ?_) (fun e => ?_)
    · subst e
      rw [show W.heap[k]? = _ from hb] at hk
      cases hk; cases ho
    · obtain ⟨_, _, cur, h2⟩ := own_lt hr e
      rw [show W.heap[k]? = _ from h2] at hk
      cases hk; cases ho
  · obtain ⟨hl, hx⟩ := hr'.own
    refine ⟨hl, ?_⟩
    rcases hx with h1 | ⟨g, cap, cur, e1, _, h3⟩
    · exact .inl h1
    · refine .inr ⟨g, cap, cur, e1, ?_, h3⟩
      rcases hown g (by rw [e1]; rfl) with h4 | h4
      · omega
      · exact (own_lt hr h4).1
  · have hkl : k < W.heap.size := by omega
    obtain ⟨x, hx⟩ : ∃ x, hp W k = some x := ⟨_, Array.getElem?_eq_getElem hkl⟩
    exact (keep k x hx (by omega) (fun e => by have := (own_lt hr e).1; omega)).trans hx.symm
/-- A store into a block of another type. -/
theorem kpH_set {W : World} {n1 o : Nat} {p : Addr} {cs : Array Value} {t : TypeId} {fr : Nat × Nat} (h : hp W p.block = some (.cells cs t fr)) (ht : t ≠ 30) (ho : p.block ≠ o) (u : Value) : KpH n1 o W (W.setCell p u) := by
  refine ⟨(KeepsOthers.setCell W p u).size, fun g cs' fr' _ hg hn => ⟨hp_set_ne hg (fun e => ?_) u, hn.same ?_⟩⟩
  · rw [e, h] at hg
    simp at hg
    exact ht hg.2.1
  · exact heap_set W p u (fun e => ho e.symm)
/-- 'A list owns this row' speaks of cells alone. -/
theorem row_own {β : Type} (base : Nat) (t : TypeId) (s n : Nat) (v : Value) (xs : List Value) : Own (fun (_ : β) W => World.ownsRow W base t s v n xs) := fun _ X Y row hs hg hrow => by
  refine World.ownsRow.kept hs hg ?_
  rcases hs.2 with ⟨rfl, _⟩ | ⟨g, cap, cur, rfl, _, hgb, _⟩
  · exact .inl rfl
  · refine .inr fun e' => ?_
    obtain ⟨o, ho, hc⟩ := hrow g (by simpa [Value.ownBlock] using e'.symm)
    rw [hgb] at ho; cases ho; cases hc
theorem size_own {β : Type} (B N : Nat) : OwnFrom B (fun (_ : β) (W : World) => N ≤ W.heap.size) := fun _ _ _ _ hs hg _ => Nat.le_trans hs hg.size
theorem row_keep {W W' : World} {base s n : Nat} {t : TypeId} {v : Value} {xs : List Value} (h : W.ownsRow base t s v n xs) (hk : ∀ g x, v.ownBlock = some g → hp W g = some x → hp W' g = some x) : W'.ownsRow base t s v n xs := by
  refine ⟨h.1, ?_⟩
  rcases h.2 with h1 | ⟨g, cap, cur, e, h2, h3, h4⟩
  · exact .inl h1
  · exact .inr ⟨g, cap, cur, e, h2, hk g _ (by rw [e]; rfl) h3, h4⟩
end Go.Proofs.Ytnofclmnjhkhiaa
