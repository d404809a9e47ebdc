/- Lists that the reference looks through: keys. -/
import Derived.Test.YtiklpifaaogcpaaKb3
import Derived.WalkKit
import Derived.WalkLawsBesides
import Derived.WalkSpells
import Derived.Below
import Derived.Deep.RegionHeld3
import Derived.Deep.QuietTactic
import Derived.BigQuiet
import Derived.Deep.DeepCutAuto
import Derived.Deep.DeepMust
import Derived.KernelRfl
import Derived.Lib.Hide
import Derived.Outline
import Derived.RegionTactic
import Derived.StillTailTactics
import Derived.Laws.IdiomStrings
import Derived.Handy
namespace Go.Proofs.Ytiklpifaaogcpaa
open Go.RowKit Go.Cl Go.Wr Go.Kc
set_option maxRecDepth 100000
set_option linter.unusedVariables false
set_option linter.unusedSimpArgs false


theorem c_goodKeys (w : World) (p : Option Addr) (c : Nat) (L : List ByteArray) (h : LsS w p c L) (hL : L.length ≤ 9223372036854775807) :
    Calls Try.prog 38 #[.slice p L.length c] w fun e w' => e = .returned (.bool (decide ((∀ x ∈ L, goodK x) ∧ 1 ≤ L.length ∧ L.length ≤ 8))) ∧ Below w.heap.size w w' := by
  have HL := Lib.hid hL; clear hL
  have H := Lib.hid h; clear h
  have HI := Lib.hid (fun W => c_in L.length 1 8 W)
  go_enter Try.func38, Try.ntmps38
  go_wp2
  go_loopw [3] (c_indexK_Inv w L) (fun t _ => (L.length - (intOf t).toNat))
  case atStart => exact ⟨0, rfl, Nat.zero_le _, fun i x hi => by omega, Below.refl _ _⟩
  case round =>
    obtain ⟨j, rfl, hj, hg, hb⟩ := hrel
    have HG := Lib.hid hg; clear hg
    have HB := Lib.hid hb; clear hb
    by_cases hlt : j < L.length
    · have hb64 : (j : Int) < 9223372036854775807 := by have := HL.out; omega
      obtain ⟨x, hx⟩ : ∃ x, L[j]? = some x := ⟨L[j], List.getElem?_eq_getElem hlt⟩
      have hat := (H.out.below HB.out).at_ j x hx
      have HX := Lib.hid hx; clear hx
      obtain ⟨g, o, rfl, hgl, hc0⟩ := hat
      have HCK := Lib.hid (c_GoodKey x wr)
      have HGG : Hid (∀ a, decide (goodK x) = a → (goodK x ↔ a = true)) := Lib.hid fun a h1 => by subst h1; simp
      generalize decide (goodK x) = a at *
      have hgg := HGG.out a rfl
      clear HGG
      cases a
      · have HGD : Hid (¬ goodK x) := Lib.hid (fun h => by simpa using hgg.1 h)
        clear hgg
        go_wp2_with fail
        refine HCK.out.mono ?_; rintro e w2 ⟨rfl, hb2⟩
        go_wp2
        go_ret
        refine ⟨congrArg (fun b => Ending.returned (Value.bool b)) (decide_eq_false fun h => HGD.out (h.1 x (List.mem_of_getElem? HX.out))).symm, below_call HB.out hb2⟩
      · have HGD : Hid (goodK x) := Lib.hid (hgg.2 rfl)
        clear hgg
        go_wp2_with fail
        refine HCK.out.mono ?_; rintro e w3 ⟨rfl, hb3⟩
        go_wp2
        go_roundw
        case rel => exact ⟨j + 1, by go_num, by omega, fun i y hi hy => by
          rcases Nat.lt_or_ge i j with h1 | h1
          · exact HG.out i y h1 hy
          · obtain rfl : i = j := by omega
            rw [HX.out] at hy; injection hy with hy; subst hy; exact HGD.out, below_call HB.out hb3⟩
        case measure => simp [intOf]; omega
    · go_wp2_with fail
      refine (HI.out wr).mono ?_; rintro e w2 ⟨rfl, rfl⟩
      go_wp2
      go_ret
      refine ⟨congrArg (fun b => Ending.returned (Value.bool b)) ?_, HB.out⟩
      rw [Bool.eq_iff_iff]
      simp only [Bool.and_eq_true, decide_eq_true_eq]
      refine ⟨fun h => ⟨fun x hx => ?_, by omega, by omega⟩, fun h => by omega⟩
      obtain ⟨i, hi⟩ := List.getElem?_of_mem hx
      obtain ⟨hi2, _⟩ := List.getElem?_eq_some_iff.1 hi
      exact HG.out i x (by omega) hi

end Go.Proofs.Ytiklpifaaogcpaa
