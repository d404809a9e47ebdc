/- Bags: a nil one. -/
import Derived.Test.YtgacbfbjikjanaaBag6
import Derived.WalkKit
import Derived.WalkLawsBesides
import Derived.WalkSpells
import Derived.Below
import Derived.Deep.RegionHeld3
import Derived.Deep.QuietTactic
import Derived.BigQuiet
import Derived.Deep.DeepCutAuto
import Derived.Deep.DeepMust
import Derived.KernelRfl
import Derived.Lib.Hide
import Derived.Outline
import Derived.RegionTactic
import Derived.StillTailTactics
namespace Go.Proofs.Ytgacbfbjikjanaa
open Go.RowKit Go.Cl
set_option maxRecDepth 100000
set_option linter.unusedVariables false
set_option linter.unusedSimpArgs false


theorem bs_nlen (w : World) : Calls Try.prog 16 #[.pointer none] w fun e w' => e = .returned (.int .i64 0) ∧ w = w' := by
  go_enter Try.func16, Try.ntmps16
  go_wp2
  go_ret
  exact ⟨rfl, rfl⟩
theorem bs_nlost (w : World) : Calls Try.prog 17 #[.pointer none] w fun e w' => e = .returned (.int .i64 0) ∧ w = w' := by
  go_enter Try.func17, Try.ntmps17
  go_wp2
  go_ret
  exact ⟨rfl, rfl⟩
theorem bs_nlist (w : World) : Calls Try.prog 19 #[.pointer none] w fun e w' => e = .returned (.slice none 0 0) ∧ w = w' := by
  go_enter Try.func19, Try.ntmps19
  go_wp2
  go_ret
  exact ⟨rfl, rfl⟩
theorem bs_nclone (w : World) : Calls Try.prog 37 #[.pointer none] w fun e w' => e = .returned (.pointer none) ∧ w = w' := by
  go_enter Try.func37, Try.ntmps37
  go_wp2
  go_ret
  exact ⟨rfl, rfl⟩
theorem bs_nput (m : ByteArray) (w : World) : Calls Try.prog 40 #[.pointer none, .string m] w fun e w' => e = .returned (.bool false) ∧ w = w' := by
  go_enter Try.func40, Try.ntmps40
  go_wp2
  go_ret
  exact ⟨rfl, rfl⟩
theorem bs_nat (I : Int) (w : World) : Calls Try.prog 39 #[.pointer none, .int .i64 I] w fun e w' => e = .returned (.tuple #[(.string ⟨#[]⟩), .bool false]) ∧ w = w' := by
  by_cases hi0 : I < 0
  · go_enter Try.func39, Try.ntmps39
    go_wp2
    go_ret2
    exact ⟨rfl, rfl⟩
  · have hi1 : 0 ≤ I := by omega
    clear hi0
    go_enter Try.func39, Try.ntmps39
    go_wp2_with (go_at_call 16; refine (bs_nlen _).mono ?_; rintro e w' ⟨rfl, rfl⟩)
    go_ret2
    exact ⟨rfl, rfl⟩
theorem bs_ntake (I : Int) (w : World) : Calls Try.prog 38 #[.pointer none, .int .i64 I] w fun e w' => e = .returned (.tuple #[(.string ⟨#[]⟩), .bool false]) ∧ w = w' := by
  go_enter Try.func38, Try.ntmps38
  go_wp2_with (go_at_call 39; refine (bs_nat _ _).mono ?_; rintro e w' ⟨rfl, rfl⟩)
  go_ret2
  exact ⟨rfl, rfl⟩
theorem bs_ndouble (I : Int) (w : World) : Calls Try.prog 41 #[.pointer none, .int .i64 I] w fun e w' => e = .returned (.bool false) ∧ w = w' := by
  go_enter Try.func41, Try.ntmps41
  go_wp2_with (go_at_call 39; refine (bs_nat _ _).mono ?_; rintro e w' ⟨rfl, rfl⟩)
  go_ret
  exact ⟨rfl, rfl⟩


theorem bagNone (w : World) (K I : Int) (S : ByteArray) :
    Calls Try.prog 9 #[.agg #[.int .u8 K, .int .i64 I, .string S]] w fun e w' => e = .returned (.bool true) ∧ Below w.heap.size w w' := by
  go_enter Try.func9, Try.ntmps9
  go_wp2_with fail
  refine (fixed_true _).mono ?_; rintro e w0 ⟨rfl, hb0⟩
  have k0 := hp_below hb0 (hp_alloc_new w _)
  have c0 := hp_cell k0
  have HB := below_call (below_alloc (Below.refl _ _) _) hb0
  clear hb0 k0
  go_wp2_with (first | (go_at_call 38; refine (bs_ntake _ _).mono ?_; rintro e w' ⟨rfl, rfl⟩) | (go_at_call 39; refine (bs_nat _ _).mono ?_; rintro e w' ⟨rfl, rfl⟩) | (go_at_call 40; refine (bs_nput _ _).mono ?_; rintro e w' ⟨rfl, rfl⟩) | (go_at_call 41; refine (bs_ndouble _ _).mono ?_; rintro e w' ⟨rfl, rfl⟩) | (go_at_call 16; refine (bs_nlen _).mono ?_; rintro e w' ⟨rfl, rfl⟩) | (go_at_call 17; refine (bs_nlost _).mono ?_; rintro e w' ⟨rfl, rfl⟩) | (go_at_call 19; refine (bs_nlist _).mono ?_; rintro e w' ⟨rfl, rfl⟩) | (go_at_call 37; refine (bs_nclone _).mono ?_; rintro e w' ⟨rfl, rfl⟩))
  go_ret
  exact ⟨rfl, HB⟩

end Go.Proofs.Ytgacbfbjikjanaa
