/- Bags: the laws. -/
import Derived.Test.YtgacbfbjikjanaaBag5
import Derived.WalkKit
import Derived.WalkLawsBesides
import Derived.WalkSpells
import Derived.Below
import Derived.Deep.RegionHeld3
import Derived.Deep.QuietTactic
import Derived.BigQuiet
import Derived.Deep.DeepCutAuto
import Derived.Deep.DeepMust
import Derived.KernelRfl
import Derived.Lib.Hide
import Derived.Outline
import Derived.RegionTactic
import Derived.StillTailTactics
namespace Go.Proofs.Ytgacbfbjikjanaa
open Go.RowKit Go.Cl
set_option maxRecDepth 100000
set_option linter.unusedVariables false
set_option linter.unusedSimpArgs false


theorem w01 : wrap64 (0 + 1) = 1 := by unfold wrap64; omega
set_option maxHeartbeats 1000000 in
theorem fixed_true (w : World) : Calls Try.prog 12 #[] w fun e w' => e = .returned (.bool true) ∧ Below w.heap.size w w' := by
  go_enter Try.func12, Try.ntmps12
  go_wp2_with fail
  refine (bs_new zc 1 w 2).mono ?_; rintro e w1 ⟨b, rfl, hB0, HC, hge⟩
  have hB : Bag 88 9 1 encS (paint zc w 1) 1 w1 b [] 2 0 := hB0
  clear hB0
  go_wp2_with fail
  refine (bs_put_room _ 1 w1 b [] 2 0 ⟨#[97]⟩ hB (by decide)).mono ?_; rintro e w2 ⟨rfl, hB', hC'⟩; rw [paint_paint HC.size] at hB'; replace HC := HC.trans hC'; clear hB hC'; have hB : Bag 88 9 1 encS (paint zc w 1) 1 w2 b [⟨#[97]⟩] 2 0 := hB'; clear hB'
  go_wp2_with fail
  refine (bs_put_room _ 1 w2 b [⟨#[97]⟩] 2 0 ⟨#[98]⟩ hB (by decide)).mono ?_; rintro e w3 ⟨rfl, hB', hC'⟩; rw [paint_paint HC.size] at hB'; replace HC := HC.trans hC'; clear hB hC'; have hB : Bag 88 9 1 encS (paint zc w 1) 1 w3 b [⟨#[97]⟩, ⟨#[98]⟩] 2 0 := hB'; clear hB'
  go_wp2_with fail
  refine (bs_put_full _ 1 w3 b [⟨#[97]⟩, ⟨#[98]⟩] 2 0 ⟨#[99]⟩ hB (by decide)).mono ?_; rintro e w4 ⟨rfl, hB', hC'⟩; rw [paint_paint HC.size] at hB'; replace HC := HC.trans hC'; clear hB hC'; have hB : Bag 88 9 1 encS (paint zc w 1) 1 w4 b [⟨#[97]⟩, ⟨#[98]⟩] 2 1 := by rw [w01] at hB'; exact hB'
  clear hB'
  go_wp2_with fail
  refine (bs_lost _ 1 w4 b _ _ _ hB).mono ?_; rintro e w' ⟨rfl, rfl⟩
  go_wp2_with fail
  refine (bs_take _ 1 w4 b _ _ _ hB 0).mono ?_; rintro e w5 ⟨rfl, hB', hC'⟩; rw [paint_paint HC.size] at hB'; replace HC := HC.trans hC'; clear hB hC'; have hB : Bag 88 9 1 encS (paint zc w 1) 1 w5 b [⟨#[98]⟩] 2 1 := hB'; clear hB'
  have e1 : getD ([⟨#[97]⟩, ⟨#[98]⟩] : List ByteArray) 0 ⟨#[]⟩ = ⟨#[97]⟩ := rfl
  have e2 : inB ([⟨#[97]⟩, ⟨#[98]⟩] : List ByteArray) 0 = true := rfl
  rw [e1, e2]
  clear e1 e2
  go_wp2_with fail
  refine (bs_double _ 1 w5 b _ _ _ hB 0).mono ?_; rintro e w6 ⟨rfl, hB', hC'⟩; rw [paint_paint HC.size] at hB'; replace HC := HC.trans hC'; clear hB hC'; have hB : Bag 88 9 1 encS (paint zc w 1) 1 w6 b [⟨#[98]⟩, ⟨#[98]⟩] 2 1 := hB'; clear hB'
  have e1 : inB ([⟨#[98]⟩] : List ByteArray) 0 = true := rfl
  have e2 : putB ([⟨#[98]⟩] : List ByteArray) 2 = true := rfl
  rw [e1, e2]
  clear e1 e2
  go_wp2_with fail
  refine (bs_list _ 1 w6 b _ _ _ 2 hB).mono ?_; rintro e w7 ⟨p, c, rfl, hr, hb⟩
  have HB : Below w.heap.size w w7 := (HC.below hb).mv.toBelow (by simp [zc])
  clear HC hB
  go_wp2_with fail
  have hr2 : Row zc 0 (w7.alloc (.cells #[.string ⟨#[98]⟩, .string ⟨#[98]⟩] 9)) 9 1 (.slice (some ⟨w7.heap.size, 0, none⟩) 2 2) 2 (([⟨#[98]⟩, ⟨#[98]⟩] : List ByteArray).flatMap encS) := Row.mk' (hp_alloc_new w7 _) (by decide) (by unfold maxLen; omega) rfl rfl rfl rfl
  have hr1 := hr.below (below_alloc (Below.refl w7.heap.size w7) (.cells #[.string ⟨#[98]⟩, .string ⟨#[98]⟩] 9))
  refine (same_true _ _ _ _ _ _ _ [⟨#[98]⟩, ⟨#[98]⟩] 2 rfl (by decide) hr1 hr2).mono ?_; rintro e w8 ⟨rfl, hb8⟩
  go_wp2
  go_ret
  exact ⟨rfl, below_call (below_alloc HB _) hb8⟩

end Go.Proofs.Ytgacbfbjikjanaa
