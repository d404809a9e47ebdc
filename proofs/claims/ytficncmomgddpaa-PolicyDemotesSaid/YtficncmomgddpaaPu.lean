/- A list that grows, bools beside it. -/
import Derived.Test.YtficncmomgddpaaPb2
import Derived.Test.YtficncmomgddpaaPr
import Derived.WalkKit
import Derived.WalkLawsBesides
import Derived.WalkSpells
import Derived.Below
import Derived.Deep.RegionHeld3
import Derived.Deep.QuietTactic
import Derived.BigQuiet
import Derived.Deep.DeepCutAuto
import Derived.Deep.DeepMust
import Derived.KernelRfl
import Derived.Lib.Hide
import Derived.Outline
import Derived.RegionTactic
import Derived.StillTailTactics
namespace Go.Proofs.Ytficncmomgddpaa
open Go.RowKit Go.Cl
set_option maxRecDepth 100000
set_option linter.unusedVariables false
set_option linter.unusedSimpArgs false

open Go.Ps
def fints (F : Nat → Nat) (t : Nat) : List Value := (ls F t).map fun k : Nat => Value.int .i64 (k : Int)
theorem fints_succ (F : Nat → Nat) (t : Nat) : fints F (t + 1) = fints F t ++ [.int .i64 (F t : Int)] := by unfold fints; rw [ls_succ, List.map_append]; rfl
theorem fints_get {F : Nat → Nat} {t k : Nat} (h : k < t) : (fints F t)[k]? = some (.int .i64 (F k : Int)) := by unfold fints ls; simp [h]
theorem dem_lt (e f : En) : e.dem f < 0 ↔ e.st < f.st ∨ (e.st = f.st ∧ e.ins < f.ins) := by
  unfold En.dem
  by_cases c : cmpI e.st f.st = 0
  · rw [if_pos c, cmpI_neg]
    have := cmpI_zero _ _ c
    constructor
    · intro h; exact .inr ⟨this, h⟩
    · rintro (h | ⟨_, h⟩)
      · omega
      · exact h
  · rw [if_neg c, cmpI_neg]
    constructor
    · intro h; exact .inl h
    · rintro (h | ⟨h, _⟩)
      · exact h
      · exact absurd (by rw [h]; exact cmpI_self _) c
/-- A list that grows, and bools beside it. -/
def DemI (w0 : World) (gt : Nat) (F : Nat → Nat) (t : Nat) (v : Value) (o : List Bool) (wr : World) : Prop :=
  ∃ c, Mv [1, 2] zc w0 c wr ∧ Row c 1 wr 3 1 v t (fints F t) ∧ c gt = 2 ∧ hp wr gt = some (.cells (bools o) 4 (0, 0))
section
variable {w0 wr W' : World} {gt t : Nat} {F : Nat → Nat} {v : Value} {o : List Bool}
theorem DemI.below (h : DemI w0 gt F t v o wr) (hb : Below wr.heap.size wr W') : DemI w0 gt F t v o W' := by
  obtain ⟨c, hm, hr, hc, hg⟩ := h
  exact ⟨c, hm.after_below hb, hr.kept (Mv.of_below (S := []) hb) (by simp), hc, hp_below hb hg⟩
theorem DemI.toBelow (h : DemI w0 gt F t v o wr) : Below w0.heap.size w0 wr := by
  obtain ⟨c, hm, _⟩ := h
  exact hm.toBelow (fun k _ => by simp [zc])
theorem DemI.get (h : DemI w0 gt F t v o wr) {x : Nat} {u : Bool} (hx : o[x]? = some u) : wr.cell? ⟨gt, x, none⟩ = some (.bool u) := by
  obtain ⟨c, hm, hr, hc, hg⟩ := h
  exact bools_get hg hx
theorem DemI.free (h : DemI w0 gt F t v o wr) (x : Nat) : wr.frozen? ⟨gt, x, none⟩ = false := by
  obtain ⟨c, hm, hr, hc, hg⟩ := h
  exact hp_free hg x
theorem DemI.set (h : DemI w0 gt F t v o wr) (x : Nat) : DemI w0 gt F t v (o.set x true) (wr.setCell ⟨gt, x, none⟩ (.bool true)) := by
  obtain ⟨c, hm, hr, hc, hg⟩ := h
  have hs := hp_set hg (i := x) (.bool true)
  rw [bools_set] at hs
  have hC := (Ch.refl (col := c) (i := 2) (w := wr)).setCell (p := ⟨gt, x, none⟩) (paint_of hc) (.bool true)
  exact ⟨_, hm.trans (hC.mv' (by simp)), (hr.set (p := ⟨gt, x, none⟩) (hr.ne hg (by decide)) _).recol fun g hgo => (paint_old (hr.lt hgo)).trans (hr.col g hgo), paint_of hc, hs⟩
theorem DemI.rd (h : DemI w0 gt F t v o wr) : RdI wr v t F := by
  obtain ⟨c, hm, hr, hc, hg⟩ := h
  obtain ⟨p, cp, rfl⟩ := hr.form
  refine ⟨p, cp, rfl, fun i hi => ?_⟩
  obtain ⟨g, c', cur, e1, _⟩ := hr.pos (by omega)
  simp only [Value.slice.injEq, true_and] at e1
  obtain ⟨rfl, rfl⟩ := e1
  exact ⟨g, 0, rfl, by rw [Nat.zero_add]; exact hr.cell rfl (fints_get hi)⟩
theorem DemI.first (w0 : World) (m : Nat) (F : Nat → Nat) : DemI w0 (w0.heap.size + 1) F 0 (.slice (some ⟨w0.heap.size, 0, none⟩) 0 0) (List.replicate m false) ((w0.alloc (.cells #[] 3)).alloc (.cells (bools (List.replicate m false)) 4)) := by
  have h1 : hp (w0.alloc (.cells #[] 3)) w0.heap.size = some (.cells #[] 3 (0, 0)) := hp_alloc_new _ _
  have hs : (w0.alloc (.cells #[] 3)).heap.size = w0.heap.size + 1 := by simp
  have hb := below_alloc (Below.refl (w0.alloc (.cells #[] 3)).heap.size (w0.alloc (.cells #[] 3))) (.cells (bools (List.replicate m false)) 4)
  have h2 := hp_alloc_new (w0.alloc (.cells #[] 3)) (.cells (bools (List.replicate m false)) 4)
  rw [hs] at h2
  refine ⟨paint (paint zc w0 1) (w0.alloc (.cells #[] 3)) 2, (Mv.new (below_alloc (Below.refl _ _) _) 1).trans (Mv.new hb 2), Row.mk' (hp_below hb h1) (Nat.le_refl _) (Nat.zero_le _) rfl rfl rfl ?_, ?_, h2⟩
  · rw [paint_old (by rw [hs]; omega)]; unfold paint; rw [if_neg (by omega)]
  · unfold paint; rw [if_neg (by rw [hs]; omega)]
end
end Go.Proofs.Ytficncmomgddpaa
