/- Bools in a block. -/
import Derived.Test.YtficncmomgddpaaPn
import Derived.WalkKit
import Derived.WalkLawsBesides
import Derived.WalkSpells
import Derived.Below
import Derived.Deep.RegionHeld3
import Derived.Deep.QuietTactic
import Derived.BigQuiet
import Derived.Deep.DeepCutAuto
import Derived.Deep.DeepMust
import Derived.KernelRfl
import Derived.Lib.Hide
import Derived.Outline
import Derived.RegionTactic
import Derived.StillTailTactics
namespace Go.Proofs.Ytficncmomgddpaa
open Go.RowKit Go.Cl
set_option maxRecDepth 100000
set_option linter.unusedVariables false
set_option linter.unusedSimpArgs false
open Go.Ps

theorem max2_int (k k' : IntKind) (x y : Int) : Builtin.max2 (.int k x) (.int k' y) = pure (.int k (max x y)) := by
  have e : max x y = if x < y then y else x := by split <;> omega
  simp only [Builtin.max2, gt_iff_lt, e]
theorem min2_int (k k' : IntKind) (x y : Int) : Builtin.min2 (.int k x) (.int k' y) = pure (.int k (min x y)) := by
  have e : min x y = if y < x then y else x := by split <;> omega
  simp only [Builtin.min2, e]
theorem max_two (ats : Array TypeId) (ty : TypeId) (a b : Value) : Builtin.max_ ats ty #[a, b] = (Builtin.max2 a b >>= fun s => pure s) := by simp only [Builtin.max_, List.foldlM_cons, List.foldlM_nil]
theorem min_two (ats : Array TypeId) (ty : TypeId) (a b : Value) : Builtin.min_ ats ty #[a, b] = (Builtin.min2 a b >>= fun s => pure s) := by simp only [Builtin.min_, List.foldlM_cons, List.foldlM_nil]
theorem Try.info4 : (Try.prog.info? 4).map (fun i => (i.zero, i.size, i.bytes)) = some (some (.bool false), 1, 1) := by kernel_rfl
def bools (o : List Bool) : Array Value := (o.map Value.bool).toArray
theorem bools_set (o : List Bool) (x : Nat) : (bools o).setIfInBounds x (.bool true) = bools (o.set x true) := by
  unfold bools
  simp only [List.setIfInBounds_toArray]
  rw [List.map_set]
theorem bools_get {w : World} {g : Nat} {o : List Bool} (h : hp w g = some (.cells (bools o) 4 (0, 0))) {x : Nat} {u : Bool} (hx : o[x]? = some u) : w.cell? ⟨g, x, none⟩ = some (.bool u) := by
  rw [hp_cell h]; unfold bools; simp [hx]
theorem made_bools (n : Nat) : Go.madeCells (Value.bool false).cells (n * 1) = bools (List.replicate n false) := by
  unfold Go.madeCells bools
  apply Array.ext
  · simp
  · intro i h1 h2
    simp [Value.cells, Nat.mod_one]
theorem make_bools (W : World) (n : Nat) (hn : n ≤ 4096) : (Instr.makeSlice 39 (.int .i64 (n : Int)) (.int .i64 (n : Int))).run Try.prog W = .ok (.slice (some ⟨W.heap.size, 0, none⟩) n n) (W.alloc (.cells (bools (List.replicate n false)) 4)) := by
  obtain ⟨i0, hi, hz0, hz1, hz2⟩ := info_parts Try.info4
  have h := run_make (P := Try.prog) W 39 4 i0 (.bool false) Try.underlying39 hi hz0 .i64 .i64 n n (by omega) (Int.le_refl _) (by rw [hz2]; omega) (by omega)
  rw [hz1] at h
  simp only [Int.toNat_natCast, made_bools] at h
  exact h
/-- Bools in a block of their own; all else is as it was. -/
def BB (W0 : World) (g : Nat) (o : List Bool) (W : World) : Prop := ∃ c, Mv [1] (fun k => if k = g then 1 else 0) W0 c W ∧ c g = 1 ∧ hp W g = some (.cells (bools o) 4 (0, 0))
section
variable {W0 W W' : World} {g : Nat} {o : List Bool}
theorem BB.mk0 (h : hp W g = some (.cells (bools o) 4 (0, 0))) : BB W g o W := ⟨_, Mv.refl, if_pos rfl, h⟩
theorem BB.below (h : BB W0 g o W) (hb : Below W.heap.size W W') : BB W0 g o W' := by
  obtain ⟨c, hm, hc, h1⟩ := h
  exact ⟨c, hm.after_below hb, hc, hp_below hb h1⟩
theorem BB.set (h : BB W0 g o W) (x : Nat) : BB W0 g (o.set x true) (W.setCell ⟨g, x, none⟩ (.bool true)) := by
  obtain ⟨c, hm, hc, h1⟩ := h
  have hs := hp_set h1 (i := x) (.bool true)
  rw [bools_set] at hs
  have hC := (Ch.refl (col := c) (i := 1) (w := W)).setCell (p := ⟨g, x, none⟩) (paint_of hc) (.bool true)
  exact ⟨_, hm.trans hC.mv, paint_of hc, hs⟩
theorem BB.old (h : BB W0 g o W) {k : Nat} (hk : k < W0.heap.size) (hg : k ≠ g) : W.heap[k]? = W0.heap[k]? := by
  obtain ⟨c, hm, _⟩ := h
  exact hm.block k hk (by simp; exact hg)
theorem BB.get (h : BB W0 g o W) {x : Nat} {u : Bool} (hx : o[x]? = some u) : W.cell? ⟨g, x, none⟩ = some (.bool u) := by
  obtain ⟨c, hm, _, h1⟩ := h
  exact bools_get h1 hx
theorem BB.free (h : BB W0 g o W) (x : Nat) : W.frozen? ⟨g, x, none⟩ = false := by
  obtain ⟨c, hm, _, h1⟩ := h
  exact hp_free h1 x
theorem BB.size (h : BB W0 g o W) : W0.heap.size ≤ W.heap.size := by
  obtain ⟨c, hm, _⟩ := h
  exact hm.size
theorem BB.toBelow {w : World} (h : BB W0 g o W) (hb : Below w.heap.size w W0) (hg : w.heap.size ≤ g) : Below w.heap.size w W := by
  obtain ⟨c, hm, _⟩ := h
  exact below_one hb hm hg
end
/-- A slice of entries that the bools' block isn't. -/
theorem Ents.bb {W0 W : World} {v : Value} {n g : Nat} {E : Nat → En} {o : List Bool} (h : Ents W0 v n E) (hb : BB W0 g o W) (hg : ∀ p q r b, v = .slice p q r → p = some b → b.block ≠ g) : Ents W v n E := by
  obtain ⟨p, cp, rfl, hx⟩ := h
  refine ⟨p, cp, rfl, fun i hi => ?_⟩
  obtain ⟨b, f, hp, hl, hc⟩ := hx i hi
  exact ⟨b, f, hp, Nat.lt_of_lt_of_le hl hb.size, hc.of (hb.old hl (hg p n cp _ rfl hp))⟩
theorem Ents.cut {w : World} {p : Option Addr} {n m cp : Nat} {E : Nat → En} (h : Ents w (.slice p n cp) n E) (hm : m ≤ n) : Ents w (.slice p m cp) m E :=
  ⟨p, cp, rfl, fun i hi => h.at (by omega)⟩
end Go.Proofs.Ytficncmomgddpaa
