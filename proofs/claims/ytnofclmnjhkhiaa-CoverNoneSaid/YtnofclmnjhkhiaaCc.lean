/- Lists of spans that grow. -/
import Derived.Test.YtnofclmnjhkhiaaCa
import Derived.WalkKit
import Derived.WalkLawsBesides
import Derived.WalkSpells
import Derived.Below
import Derived.Deep.RegionHeld3
import Derived.Deep.QuietTactic
import Derived.BigQuiet
import Derived.Deep.DeepCutAuto
import Derived.Deep.DeepMust
import Derived.KernelRfl
import Derived.Lib.Hide
import Derived.Outline
import Derived.RegionTactic
import Derived.StillTailTactics
namespace Go.Proofs.Ytnofclmnjhkhiaa
open Go.RowKit Go.Cl Go.Cv
set_option maxRecDepth 100000
set_option linter.unusedVariables false
set_option linter.unusedSimpArgs false

theorem Wf.take {L : List Sp} (h : Wf L) (k : Nat) : Wf (L.take k) := ⟨fun a ha => h.1 a (List.mem_of_mem_take ha), h.2.sublist (List.take_sublist k L)⟩
def own (v : Value) : Nat → Nat := fun q => if v.ownBlock = some q then 1 else 0
/-- A list of spans that grows in a row of its own, laid since w0, in no block of A. -/
def LR (w0 : World) (A : Nat → Prop) (v : Value) (M : List Sp) (wr : World) : Prop := Row (own v) 1 wr 30 2 v M.length (M.flatMap encS) ∧ ∀ g, v.ownBlock = some g → w0.heap.size ≤ g ∧ ¬ A g
section
variable {w0 wr W : World} {A : Nat → Prop} {v : Value} {M : List Sp}
theorem LR.nil : LR w0 A (.slice none 0 0) [] wr := ⟨Row.nil', fun g h => by simp [Value.ownBlock] at h⟩
theorem LR.below (h : LR w0 A v M wr) (hb : Below wr.heap.size wr W) : LR w0 A v M W := ⟨h.1.kept (Mv.of_below (S := []) hb) (by simp), h.2⟩
theorem LR.to {B : Nat → Prop} (h : LR w0 A v M wr) (hB : ∀ g, g < wr.heap.size → B g → A g) : LR w0 B v M wr :=
  ⟨h.1, fun g hg => ⟨(h.2 g hg).1, fun hb => (h.2 g hg).2 (hB g (h.1.lt hg) hb)⟩⟩
theorem LR.grow (h : LR w0 A v M wr) (h0 : w0.heap.size ≤ wr.heap.size) (hA : ∀ q, A q → q < wr.heap.size) {v' : Value} {M' : List Sp} (hr : Row (paint (own v) wr 1) 1 W 30 2 v' M'.length (M'.flatMap encS)) : LR w0 A v' M' W := by
  refine ⟨hr.recol fun g hg => if_pos hg, fun g hg => ?_⟩
  have e := hr.col g hg
  rcases Nat.lt_or_ge g wr.heap.size with h1 | h1
  · rw [paint_old h1] at e
    unfold own at e
    split at e
    · rename_i hv; exact h.2 g hv
    · cases e
  · exact ⟨Nat.le_trans h0 h1, fun ha => by have := hA g ha; omega⟩
theorem LR.grown (h : LR w0 A v M wr) (hg : wr.grownBy W v.ownBlock) (hB : Below w0.heap.size w0 wr) : Below w0.heap.size w0 W :=
  ⟨hg.os.trans hB.os, hg.tape.trans hB.tape, hg.output.trans hB.output, Nat.le_trans hB.size hg.size, fun k hk => (hg.block k (Nat.lt_of_lt_of_le hk hB.size) (fun e => by have := (h.2 k e.symm).1; omega)).trans (hB.block k hk)⟩
theorem LR.hp (h : LR w0 A v M wr) (hg : wr.grownBy W v.ownBlock) {q : Nat} {x : Obj} (hx : hp wr q = some x) (hq : A q) : hp W q = some x :=
  hp_grown hx hg (fun e => (h.2 q e.symm).2 hq)
end
def pz (l r : Sp) (j : Nat) : List Sp := (([l, r] : List Sp).take j).filter (fun y => decide (y.1 < y.2))
theorem pz_len (l r : Sp) (j : Nat) (h : j ≤ 2) : (pz l r j).length ≤ j := by
  unfold pz
  have := List.length_filter_le (fun y : Sp => decide (y.1 < y.2)) (([l, r] : List Sp).take j)
  rw [List.length_take] at this
  simp at this ⊢; omega
theorem pz_0 (l r : Sp) : pz l r 0 = [] := rfl
theorem pz_1 (l r : Sp) : pz l r 1 = if l.1 < l.2 then [l] else [] := by
  unfold pz
  by_cases h : l.1 < l.2
  · rw [if_pos h]; simp [h]
  · rw [if_neg h]; simp; omega
theorem pz_2 (l r : Sp) : pz l r 2 = pz l r 1 ++ if r.1 < r.2 then [r] else [] := by
  unfold pz
  by_cases h1 : l.1 < l.2 <;> by_cases h : r.1 < r.2 <;> simp [h, h1, List.filter_cons]
theorem one_piece (a b : Int) : (if a < b then [(a, b)] else ([] : List Sp)) = if (ofS a b).1 < (ofS a b).2 then [ofS a b] else [] := by
  unfold ofS
  by_cases c : b ≤ a
  · rw [if_neg (by omega), if_pos c]; rfl
  · rw [if_pos (by omega), if_neg c, if_pos (show a < b by omega)]
theorem pcs_eq (s x : Sp) : pcs s x = pz (ofS x.1 (min x.2 s.1)) (ofS (max x.1 s.2) x.2) 2 := by
  rw [pz_2, pz_1, ← one_piece, ← one_piece]; rfl
theorem cut_take (s : Sp) (L : List Sp) (k : Nat) (x : Sp) (h : L[k]? = some x) : cutL s (L.take (k + 1)) = cutL s (L.take k) ++ pcs s x := by
  obtain ⟨hk, e⟩ := List.getElem?_eq_some_iff.1 h
  rw [List.take_add_one, h]
  unfold cutL
  rw [List.flatMap_append]; simp
end Go.Proofs.Ytnofclmnjhkhiaa
