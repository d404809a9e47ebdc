/- Bags: a clone. -/
import Derived.Test.YtgacbfbjikjanaaBag7
import Derived.WalkKit
import Derived.WalkLawsBesides
import Derived.WalkSpells
import Derived.Below
import Derived.Deep.RegionHeld3
import Derived.Deep.QuietTactic
import Derived.BigQuiet
import Derived.Deep.DeepCutAuto
import Derived.Deep.DeepMust
import Derived.KernelRfl
import Derived.Lib.Hide
import Derived.Outline
import Derived.RegionTactic
import Derived.StillTailTactics
namespace Go.Proofs.Ytgacbfbjikjanaa
open Go.RowKit Go.Cl
set_option maxRecDepth 100000
set_option linter.unusedVariables false
set_option linter.unusedSimpArgs false


theorem _root_.Go.Cl.Row.below' {col : Nat → Nat} {i : Nat} {w w' : World} {e s n : Nat} {v : Value} {xs : List Value} (h : Row col i w e s v n xs) (hb : Below w.heap.size w w') : Row col i w' e s v n xs := h.kept (Mv.of_below (S := []) (col := col) hb) (by simp)
theorem bs_clone (col : Nat → Nat) (i : Nat) (w : World) (b : Nat) (L : List ByteArray) (most lost : Int) (k : Nat) (h : Bag 88 9 1 encS col i w b L most lost) :
    Calls Try.prog 37 #[.pointer (some ⟨b, 0, none⟩)] w fun e w' => ∃ g, e = .returned (.pointer (some ⟨g, 0, none⟩)) ∧ Bag 88 9 1 encS (paint col w k) k w' g L most lost ∧ Below w.heap.size w w' := by
  have hlo := h.lo; have hhi := h.hi; have hle := h.len
  obtain ⟨p, c, hb, hr⟩ := h.open
  have cb := hp_cell hb
  go_enter Try.func37, Try.ntmps37
  go_wp2
  refine Ph.region_at (by kernel_rfl) ?_
  refine Ph.at_ghost 13 4 9 (fun g : Option Addr × Nat => Value.slice g.1 L.length g.2) (fun g w1 => Row (paint zc w 1) 1 w1 9 1 (.slice g.1 L.length g.2) L.length (L.flatMap encS)) (fun g a b h hb => h.below' hb) (by kernel_rfl) (by kernel_rfl) (by decide) (by decide) rfl ?_
  simp only [List.take_succ_cons, List.take_zero, List.drop_succ_cons, List.drop_zero]
  (first | (apply Ph.wpGh_g (by decide); (focus (intro w1 hS0; have cb1 := hp_cell (hp_below hS0 (hp_below (below_drew (Below.refl _ _)) hb)); go_simp; first | exact rfl | exact ⟨rfl, Below.refl _ _⟩)))); simp only [Act.put, List.setIfInBounds_toArray, List.set_cons_zero, List.set_cons_succ]
  (first | (apply Ph.wpGh_g (by decide); (focus (intro w1 hS0; have cb1 := hp_cell (hp_below hS0 (hp_below (below_drew (Below.refl _ _)) hb)); go_simp; first | exact rfl | exact ⟨rfl, Below.refl _ _⟩)))); simp only [Act.put, List.setIfInBounds_toArray, List.set_cons_zero, List.set_cons_succ]
  (first | (apply Ph.wpGh_g (by decide); (focus (intro w1 hS0; have cb1 := hp_cell (hp_below hS0 (hp_below (below_drew (Below.refl _ _)) hb)); go_simp; first | exact rfl | exact ⟨rfl, Below.refl _ _⟩)))); simp only [Act.put, List.setIfInBounds_toArray, List.set_cons_zero, List.set_cons_succ]
  (first | (apply Ph.wpGh_g (by decide); (focus (intro w1 hS0; have cb1 := hp_cell (hp_below hS0 (hp_below (below_drew (Below.refl _ _)) hb)); go_simp; first | exact rfl | exact ⟨rfl, Below.refl _ _⟩)))); simp only [Act.put, List.setIfInBounds_toArray, List.set_cons_zero, List.set_cons_succ]
  refine Ph.wpGh_e rfl ?_ ?_
  · intro w1 hS0; have cb1 := hp_cell (hp_below hS0 (hp_below (below_drew (Below.refl _ _)) hb)); go_simp; have hr1 := hr.below' (below_call (below_drew (Below.refl _ _)) hS0); refine (bs_sclone zc 0 1 w1 _ L.length L rfl (hr1.recol (fun _ _ => rfl)) (by omega)).mono ?_; rintro e w2 ⟨p', c', rfl, hr', hb'⟩; exact ⟨_, rfl, p', c', rfl, hb', hr'.recol (fun q hq => paint_new (Nat.le_trans hS0.size (hr'.new hq)))⟩
  (first | (apply Ph.wpGh_g (by decide); (focus (intro w1 hS0; have cb1 := hp_cell (hp_below hS0 (hp_below (below_drew (Below.refl _ _)) hb)); go_simp; first | exact rfl | exact ⟨rfl, Below.refl _ _⟩)))); simp only [Act.put, List.setIfInBounds_toArray, List.set_cons_zero, List.set_cons_succ]
  (first | (apply Ph.wpGh_g (by decide); (focus (intro w1 hS0; have cb1 := hp_cell (hp_below hS0 (hp_below (below_drew (Below.refl _ _)) hb)); go_simp; first | exact rfl | exact ⟨rfl, Below.refl _ _⟩)))); simp only [Act.put, List.setIfInBounds_toArray, List.set_cons_zero, List.set_cons_succ]
  (first | (apply Ph.wpGh_g (by decide); (focus (intro w1 hS0; have cb1 := hp_cell (hp_below hS0 (hp_below (below_drew (Below.refl _ _)) hb)); go_simp; first | exact rfl | exact ⟨rfl, Below.refl _ _⟩)))); simp only [Act.put, List.setIfInBounds_toArray, List.set_cons_zero, List.set_cons_succ]
  (first | (apply Ph.wpGh_g (by decide); (focus (intro w1 hS0; have cb1 := hp_cell (hp_below hS0 (hp_below (below_drew (Below.refl _ _)) hb)); go_simp; first | exact rfl | exact ⟨rfl, Below.refl _ _⟩)))); simp only [Act.put, List.setIfInBounds_toArray, List.set_cons_zero, List.set_cons_succ]
  (first | (apply Ph.wpGh_g (by decide); (focus (intro w1 hS0; have cb1 := hp_cell (hp_below hS0 (hp_below (below_drew (Below.refl _ _)) hb)); go_simp; first | exact rfl | exact ⟨rfl, Below.refl _ _⟩)))); simp only [Act.put, List.setIfInBounds_toArray, List.set_cons_zero, List.set_cons_succ]
  (first | (apply Ph.wpGh_g (by decide); (focus (intro w1 hS0; have cb1 := hp_cell (hp_below hS0 (hp_below (below_drew (Below.refl _ _)) hb)); go_simp; first | exact rfl | exact ⟨rfl, Below.refl _ _⟩)))); simp only [Act.put, List.setIfInBounds_toArray, List.set_cons_zero, List.set_cons_succ]
  (first | (apply Ph.wpGh_g (by decide); (focus (intro w1 hS0; have cb1 := hp_cell (hp_below hS0 (hp_below (below_drew (Below.refl _ _)) hb)); go_simp; first | exact rfl | exact ⟨rfl, Below.refl _ _⟩)))); simp only [Act.put, List.setIfInBounds_toArray, List.set_cons_zero, List.set_cons_succ]
  (first | (apply Ph.wpGh_g (by decide); (focus (intro w1 hS0; have cb1 := hp_cell (hp_below hS0 (hp_below (below_drew (Below.refl _ _)) hb)); go_simp; first | exact rfl | exact ⟨rfl, Below.refl _ _⟩)))); simp only [Act.put, List.setIfInBounds_toArray, List.set_cons_zero, List.set_cons_succ]
  refine Ph.wpGh_nil ?_; intro g w2 hS2 hG; simp only [Act.put, List.setIfInBounds_toArray, List.set_cons_zero, List.set_cons_succ]
  refine Ph.at_op rfl (by kernel_rfl) ?_
  go_wp2
  refine Ph.at_op rfl (by kernel_rfl) ?_
  go_wp2
  refine Ph.at_op rfl (by kernel_rfl) ?_
  go_wp2
  refine Ph.at_end (by simp) ?_
  go_wp2
  go_ret
  have HB : Below w.heap.size w w2 := below_call (below_drew (Below.refl _ _)) hS2
  refine ⟨_, rfl, ⟨⟨_, ⟨hp_alloc_new w2 _, paint_new HB.size⟩, ?_⟩, hlo, hhi, hle⟩, below_alloc HB _⟩
  exact ((hG.below' (below_alloc (Below.refl _ _) _)).recol (fun q hq => paint_new (hG.new hq)))

end Go.Proofs.Ytgacbfbjikjanaa
