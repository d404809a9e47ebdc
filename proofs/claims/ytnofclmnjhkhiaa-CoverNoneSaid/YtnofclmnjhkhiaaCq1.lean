/- A loop over All, its variable in a box. -/
import Derived.Test.YtnofclmnjhkhiaaCq0
import Derived.RangeFuncNested
import Derived.RangeFuncBound
import Derived.RangeFuncCalls
import Derived.RangeFuncLeaves
import Derived.Shelf.Abstract
import Derived.Shelf.RegionOpen
import Derived.OwnWalkIn
import Derived.TacticsInMore
import Derived.LoopNIn
import Derived.LoopIn
import Derived.Sort.CutIn
import Derived.Maps.AppendAt
import Derived.WalkKit
import Derived.WalkLawsBesides
import Derived.WalkSpells
import Derived.Below
import Derived.Deep.RegionHeld3
import Derived.Deep.QuietTactic
import Derived.BigQuiet
import Derived.Deep.DeepCutAuto
import Derived.Deep.DeepMust
import Derived.KernelRfl
import Derived.Lib.Hide
import Derived.Outline
import Derived.RegionTactic
import Derived.StillTailTactics
namespace Go.Proofs.Ytnofclmnjhkhiaa
open Go.RowKit Go.Cl Go.Cv
set_option maxRecDepth 100000
set_option linter.unusedVariables false
set_option linter.unusedSimpArgs false
open Go.Shelf
attribute [local go_sem] Oper.semAt_some

/-- The activation in which a round's body begins: the loop's variable in a box. -/
def AxB (a : Act) (p1 p2 : Tmp) (B0 o : Nat) (x : Sp) (a' : Act) (W : World) : Prop := ∃ Bx, B0 ≤ Bx ∧ hp W Bx = some (.cells #[.int .i64 x.1, .int .i64 x.2] 30 (0, 0)) ∧ (∃ (v : Value) (t : TypeId) (fr : Nat × Nat), hp W o = some (.cells #[v] t fr) ∧ v.ownBlock ≠ some Bx) ∧ a' = { tmps := (a.tmps.setIfInBounds p1 (.agg #[.int .i64 x.1, .int .i64 x.2])).setIfInBounds p2 (.pointer (some ⟨Bx, 0, none⟩)), defers := [] }
theorem rf_box {n : Nat} {g : Operand} {p1 p2 : Tmp} {assign body : Code} {Q : Exit → Act → World → Prop} {a : Act} {w : World} (h1 : 1 ≤ n) {lb : Array Value} (hg : a.eval g = .func (.func 48) #[] lb) {n1 o : Nat} {L : List Sp} {w0 : World}
    (hseq : SeqStopsK Fence.wide (n - 1) Try.prog 48 lb (fun x : Sp => #[Value.agg #[.int .i64 x.1, .int .i64 x.2]]) (KpH n1 o) (fun ys => ys = L) (fun pre => pre <+: L) L.length w0) (ho : o < w.heap.size) (hb0 : Below w0.heap.size w0 w)
    (I : List Sp → World → Prop) (Ix : Code → List Sp → World → Prop) (hI : OwnFrom w.heap.size I) (hIx : ∀ c, OwnFrom w.heap.size (Ix c)) (h0 : I [] w) (hIs : ∀ pre W, I pre W → w.heap.size ≤ W.heap.size) (hIo : ∀ pre W, I pre W → ∃ (v : Value) (t : TypeId) (fr : Nat × Nat), hp W o = some (.cells #[v] t fr) ∧ ∀ g, v.ownBlock = some g → g < W.heap.size)
    (hassign : ∀ (l : Nat) (x : Sp) (W : World) (K : Act → World → Prop), (∀ a', a' = { tmps := (a.tmps.setIfInBounds p1 (.agg #[.int .i64 x.1, .int .i64 x.2])).setIfInBounds p2 (.pointer (some ⟨W.heap.size, 0, none⟩)), defers := [] } → K a' (W.alloc (.cells #[.int .i64 x.1, .int .i64 x.2] 30))) →
      assign.wpIn (Fence.wide.inRound l) (n - 1 - 1) Try.prog (Exit.then K (fun _ _ _ => False)) { tmps := a.tmps.setIfInBounds p1 (.agg #[.int .i64 x.1, .int .i64 x.2]), defers := [] } W)
    (hbody : ∀ (l : Nat) (pre : List Sp) (x : Sp) (Bx : Nat) (W : World), I pre W → w.heap.size ≤ Bx → hp W Bx = some (.cells #[.int .i64 x.1, .int .i64 x.2] 30 (0, 0)) → (∃ (v : Value) (t : TypeId) (fr : Nat × Nat), hp W o = some (.cells #[v] t fr) ∧ v.ownBlock ≠ some Bx) → pre.length < L.length →
      body.wpIn (Fence.wide.inRound l) (n - 1 - 1) Try.prog (ownPostG w.heap.size (KpH n1 o) I Ix (pre ++ [x]) W) { tmps := (a.tmps.setIfInBounds p1 (.agg #[.int .i64 x.1, .int .i64 x.2])).setIfInBounds p2 (.pointer (some ⟨Bx, 0, none⟩)), defers := [] } W)
    (hdone : ∀ (D : Nat) (W : World), w.heap.size ≤ D → I L W → W.heap[D]? = some (.deferred (some [])) → Q .normal { a with defers := { target := .collected D, args := #[] } :: a.defers } W)
    (hstop : ∀ (D : Nat) (c : Code) (pre : List Sp) (W : World), w.heap.size ≤ D → pre <+: L → Ix c pre W → W.heap[D]? = some (.deferred (some [])) → c.wpIn Fence.wide n Try.prog Q { a with defers := { target := .collected D, args := #[] } :: a.defers } W) :
    (Code.rangeFunc g #[p1] assign body).wpIn Fence.wide n Try.prog Q a w := by
  refine wpIn_rangeFunc_ownH (α := Sp) rfl h1 hg trivial (enters_of Try.func48 (by kernel_rfl) rfl) hseq kpH_t (kpH_b ho) hb0 (fun _ => rfl) I Ix hI hIx h0 (AxB a p1 p2 w.heap.size o)
    (fun x a' _ X Y row hs hg hr => by obtain ⟨Bx, h1, h2, ⟨v, t, fr, h4, h5⟩, h3⟩ := hs; exact ⟨Bx, h1, hp_own Bx _ _ _ () X Y row h2 hg (fun r e => (hr r e).2), ⟨v, t, fr, hp_own o _ _ _ () X Y row h4 hg (fun r e => (hr r e).2), h5⟩, h3⟩) ?_ ?_ ?_ ?_
  · intro l pre x W K hi hK
    have e0 : Array.foldl (fun (t : Array Value) (x : Tmp × Value) => match x with | (p, v) => t.setIfInBounds p v) a.tmps (#[p1].zip #[Value.agg #[.int .i64 x.1, .int .i64 x.2]]) = a.tmps.setIfInBounds p1 (.agg #[.int .i64 x.1, .int .i64 x.2]) := by simp
    show Code.wpIn _ _ _ _ _ { tmps := Array.foldl (fun (t : Array Value) (x : Tmp × Value) => match x with | (p, v) => t.setIfInBounds p v) a.tmps (#[p1].zip #[Value.agg #[.int .i64 x.1, .int .i64 x.2]]), defers := [] } W
    rw [e0]
    refine hassign l x W K fun a' ha' => ?_
    have hs := hIs pre W hi
    have hbA : Below W.heap.size W (W.alloc (.cells #[.int .i64 x.1, .int .i64 x.2] 30)) := below_alloc (Below.refl _ _) _
    exact hK a' _ ((KeepsOthers.alloc _ _).from _) (kpH_below (Nat.lt_of_lt_of_le ho hs) hbA) (hI.alloc _ hi) ⟨W.heap.size, hs, hp_alloc_new W _, (by obtain ⟨v, t, fr, h4, h5⟩ := hIo pre W hi; exact ⟨v, t, fr, hp_alloc_old h4 _, fun e => by have := h5 _ e; omega⟩), ha'⟩
  · rintro l pre x a' W _ _ hi ⟨Bx, h1, h2, h4, rfl⟩ hlt
    exact hbody l pre x Bx W hi h1 h2 h4 hlt
  · rintro D ys W hD rfl hi hK
    exact hdone D W hD hi hK
  · intro D c pre W hD hp hx hK
    exact hstop D c pre W hD hp hx hK
end Go.Proofs.Ytnofclmnjhkhiaa
