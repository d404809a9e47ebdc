/- Texts laid together: Kb3 Kb4 Kb5. -/
import Derived.Test.YtiklpifaaogcpaaKb
import Derived.WalkKit
import Derived.WalkLawsBesides
import Derived.WalkSpells
import Derived.Below
import Derived.Deep.RegionHeld3
import Derived.Deep.QuietTactic
import Derived.BigQuiet
import Derived.Deep.DeepCutAuto
import Derived.Deep.DeepMust
import Derived.KernelRfl
import Derived.Lib.Hide
import Derived.Outline
import Derived.RegionTactic
import Derived.StillTailTactics
import Derived.Laws.IdiomStrings
import Derived.Handy
namespace Go.Proofs.Ytiklpifaaogcpaa
open Go.RowKit Go.Cl Go.Wr Go.Kc
set_option maxRecDepth 100000
set_option linter.unusedVariables false
set_option linter.unusedSimpArgs false


def c_indexW_Inv (w : World) (L : List Wt) (t : Value) (wr : World) : Prop := ∃ j : Nat, t = .int .i64 j ∧ j ≤ L.length ∧ (∀ i x, i < j → L[i]? = some x → x.good) ∧ Below w.heap.size w wr
theorem c_indexW (w : World) (p : Option Addr) (c : Nat) (L : List Wt) (h : LsW w p c L) (hL : L.length ≤ 9223372036854775807) :
    Calls Try.prog 74 #[.slice p L.length c, .func (.func 60) #[] #[]] w fun e w' => ∃ r : Int, e = .returned (.int .i64 r) ∧ (0 ≤ r ↔ ¬ ∀ x ∈ L, x.good) ∧ Below w.heap.size w w' := by
  have HL := Lib.hid hL; clear hL
  have H := Lib.hid h; clear h
  go_enter Try.func74, Try.ntmps74
  go_wp2
  go_loopw [8] (c_indexW_Inv w L) (fun t _ => (L.length - (intOf t).toNat))
  case atStart => exact ⟨0, rfl, Nat.zero_le _, fun i x hi => by omega, Below.refl _ _⟩
  case round =>
    obtain ⟨j, rfl, hj, hg, hb⟩ := hrel
    have HG := Lib.hid hg; clear hg
    have HB := Lib.hid hb; clear hb
    by_cases hlt : j < L.length
    · have hb64 : (j : Int) < 9223372036854775807 := by have := HL.out; omega
      obtain ⟨x, hx⟩ : ∃ x, L[j]? = some x := ⟨L[j], List.getElem?_eq_getElem hlt⟩
      have hat := (H.out.below HB.out).at_ j x hx
      have HX := Lib.hid hx; clear hx
      obtain ⟨g, o, rfl, hgl, hc0, hc1, hc2⟩ := hat
      have HC := Lib.hid (c_badW x wr)
      by_cases hgd : x.good
      · have hd : decide (¬ x.good) = false := by simpa using hgd
        rw [hd] at HC
        have HGD := Lib.hid hgd; clear hgd hd
        go_wp2_with fail
        refine HC.out.mono ?_; rintro e w2 ⟨rfl, hb2⟩
        go_wp2
        go_roundw
        case rel => exact ⟨j + 1, by go_num, by omega, fun i y hi hy => by
          rcases Nat.lt_or_ge i j with h1 | h1
          · exact HG.out i y h1 hy
          · obtain rfl : i = j := by omega
            rw [HX.out] at hy; injection hy with hy; subst hy; exact HGD.out, below_call HB.out hb2⟩
        case measure => simp [intOf]; omega
      · have hd : decide (¬ x.good) = true := by simpa using hgd
        rw [hd] at HC
        have HGD := Lib.hid hgd; clear hgd hd
        go_wp2_with fail
        refine HC.out.mono ?_; rintro e w2 ⟨rfl, hb2⟩
        go_wp2
        go_ret
        exact ⟨j, rfl, ⟨fun _ hall => HGD.out (hall x (List.mem_of_getElem? HX.out)), fun _ => by omega⟩, below_call HB.out hb2⟩
    · go_wp2
      go_ret
      refine ⟨-1, rfl, ⟨fun h => by omega, fun h => absurd (fun x hx => ?_) h⟩, HB.out⟩
      obtain ⟨i, hi⟩ := List.getElem?_of_mem hx
      obtain ⟨hi2, _⟩ := List.getElem?_eq_some_iff.1 hi
      exact HG.out i x (by omega) hi

def c_indexK_Inv (w : World) (L : List ByteArray) (t : Value) (wr : World) : Prop := ∃ j : Nat, t = .int .i64 j ∧ j ≤ L.length ∧ (∀ i x, i < j → L[i]? = some x → goodK x) ∧ Below w.heap.size w wr
theorem c_indexK (w : World) (p : Option Addr) (c : Nat) (L : List ByteArray) (h : LsS w p c L) (hL : L.length ≤ 9223372036854775807) :
    Calls Try.prog 75 #[.slice p L.length c, .func (.func 65) #[] #[]] w fun e w' => ∃ r : Int, e = .returned (.int .i64 r) ∧ (0 ≤ r ↔ ¬ ∀ x ∈ L, goodK x) ∧ Below w.heap.size w w' := by
  have HL := Lib.hid hL; clear hL
  have H := Lib.hid h; clear h
  go_enter Try.func75, Try.ntmps75
  go_wp2
  go_loopw [8] (c_indexK_Inv w L) (fun t _ => (L.length - (intOf t).toNat))
  case atStart => exact ⟨0, rfl, Nat.zero_le _, fun i x hi => by omega, Below.refl _ _⟩
  case round =>
    obtain ⟨j, rfl, hj, hg, hb⟩ := hrel
    have HG := Lib.hid hg; clear hg
    have HB := Lib.hid hb; clear hb
    by_cases hlt : j < L.length
    · have hb64 : (j : Int) < 9223372036854775807 := by have := HL.out; omega
      obtain ⟨x, hx⟩ : ∃ x, L[j]? = some x := ⟨L[j], List.getElem?_eq_getElem hlt⟩
      have hat := (H.out.below HB.out).at_ j x hx
      have HX := Lib.hid hx; clear hx
      obtain ⟨g, o, rfl, hgl, hc0⟩ := hat
      have HC := Lib.hid (c_badK x wr)
      by_cases hgd : goodK x
      · have hd : decide (¬ goodK x) = false := by simpa using hgd
        rw [hd] at HC
        have HGD := Lib.hid hgd; clear hgd hd
        go_wp2_with fail
        refine HC.out.mono ?_; rintro e w2 ⟨rfl, hb2⟩
        go_wp2
        go_roundw
        case rel => exact ⟨j + 1, by go_num, by omega, fun i y hi hy => by
          rcases Nat.lt_or_ge i j with h1 | h1
          · exact HG.out i y h1 hy
          · obtain rfl : i = j := by omega
            rw [HX.out] at hy; injection hy with hy; subst hy; exact HGD.out, below_call HB.out hb2⟩
        case measure => simp [intOf]; omega
      · have hd : decide (¬ goodK x) = true := by simpa using hgd
        rw [hd] at HC
        have HGD := Lib.hid hgd; clear hgd hd
        go_wp2_with fail
        refine HC.out.mono ?_; rintro e w2 ⟨rfl, hb2⟩
        go_wp2
        go_ret
        exact ⟨j, rfl, ⟨fun _ hall => HGD.out (hall x (List.mem_of_getElem? HX.out)), fun _ => by omega⟩, below_call HB.out hb2⟩
    · go_wp2
      go_ret
      refine ⟨-1, rfl, ⟨fun h => by omega, fun h => absurd (fun x hx => ?_) h⟩, HB.out⟩
      obtain ⟨i, hi⟩ := List.getElem?_of_mem hx
      obtain ⟨hi2, _⟩ := List.getElem?_eq_some_iff.1 hi
      exact HG.out i x (by omega) hi

theorem c_containsW (w : World) (p : Option Addr) (c : Nat) (L : List Wt) (h : LsW w p c L) (hL : L.length ≤ 9223372036854775807) :
    Calls Try.prog 63 #[.slice p L.length c, .func (.func 60) #[] #[]] w fun e w' => e = .returned (.bool (decide (¬ ∀ x ∈ L, x.good))) ∧ Below w.heap.size w w' := by
  have HC := Lib.hid (c_indexW w p c L h hL)
  have HL := Lib.hid hL; clear hL h
  go_enter Try.func63, Try.ntmps63
  go_wp2_with fail
  refine HC.out.mono ?_; rintro e w2 ⟨r, rfl, hr, hb2⟩
  have HR := Lib.hid hr; clear hr
  go_wp2
  go_ret
  refine ⟨congrArg (fun b => Ending.returned (Value.bool b)) ?_, hb2⟩
  exact decide_eq_decide.2 HR.out

theorem c_containsK (w : World) (p : Option Addr) (c : Nat) (L : List ByteArray) (h : LsS w p c L) (hL : L.length ≤ 9223372036854775807) :
    Calls Try.prog 66 #[.slice p L.length c, .func (.func 65) #[] #[]] w fun e w' => e = .returned (.bool (decide (¬ ∀ x ∈ L, goodK x))) ∧ Below w.heap.size w w' := by
  have HC := Lib.hid (c_indexK w p c L h hL)
  have HL := Lib.hid hL; clear hL h
  go_enter Try.func66, Try.ntmps66
  go_wp2_with fail
  refine HC.out.mono ?_; rintro e w2 ⟨r, rfl, hr, hb2⟩
  have HR := Lib.hid hr; clear hr
  go_wp2
  go_ret
  refine ⟨congrArg (fun b => Ending.returned (Value.bool b)) ?_, hb2⟩
  exact decide_eq_decide.2 HR.out

end Go.Proofs.Ytiklpifaaogcpaa

namespace Go.Proofs.Ytiklpifaaogcpaa
open Go.RowKit Go.Cl Go.Wr Go.Kc
set_option maxRecDepth 100000
set_option linter.unusedVariables false
set_option linter.unusedSimpArgs false


theorem c_goodWrites (w : World) (p : Option Addr) (c : Nat) (L : List Wt) (h : LsW w p c L) (hL : L.length ≤ 9223372036854775807) :
    Calls Try.prog 34 #[.slice p L.length c] w fun e w' => e = .returned (.bool (decide ((∀ x ∈ L, x.good) ∧ 1 ≤ L.length ∧ L.length ≤ 8))) ∧ Below w.heap.size w w' := by
  have HL := Lib.hid hL; clear hL
  have H := Lib.hid h; clear h
  have HI := Lib.hid (fun W => c_in L.length 1 8 W)
  go_enter Try.func34, Try.ntmps34
  go_wp2
  go_loopw [3] (c_indexW_Inv w L) (fun t _ => (L.length - (intOf t).toNat))
  case atStart => exact ⟨0, rfl, Nat.zero_le _, fun i x hi => by omega, Below.refl _ _⟩
  case round =>
    obtain ⟨j, rfl, hj, hg, hb⟩ := hrel
    have HG := Lib.hid hg; clear hg
    have HB := Lib.hid hb; clear hb
    by_cases hlt : j < L.length
    · have hb64 : (j : Int) < 9223372036854775807 := by have := HL.out; omega
      obtain ⟨x, hx⟩ : ∃ x, L[j]? = some x := ⟨L[j], List.getElem?_eq_getElem hlt⟩
      have hat := (H.out.below HB.out).at_ j x hx
      have HX := Lib.hid hx; clear hx
      obtain ⟨g, o, rfl, hgl, hc0, hc1, hc2⟩ := hat
      have HCK := Lib.hid (c_GoodKey x.k wr)
      have HCV := Lib.hid (fun W => c_GoodValue x.h x.d W)
      have HGG : Hid (∀ a b, decide (goodK x.k) = a → decide (goodV x.h x.d) = b → (x.good ↔ (a && b) = true)) := Lib.hid fun a b h1 h2 => by subst h1 h2; unfold Wt.good; simp
      generalize decide (goodK x.k) = a at *
      generalize decide (goodV x.h x.d) = b at *
      have hgg := HGG.out a b rfl rfl
      clear HGG
      have HHc := Lib.hid (And.intro hc1 hc2); clear hc1 hc2
      cases a
      · have HGD : Hid (¬ x.good) := Lib.hid (fun h => by simpa using hgg.1 h)
        clear hgg
        go_wp2_with fail
        refine HCK.out.mono ?_; rintro e w2 ⟨rfl, hb2⟩
        go_wp2
        go_ret
        refine ⟨congrArg (fun b => Ending.returned (Value.bool b)) (decide_eq_false fun h => HGD.out (h.1 x (List.mem_of_getElem? HX.out))).symm, below_call HB.out hb2⟩
      · go_wp2_with fail
        refine HCK.out.mono ?_; rintro e w2 ⟨rfl, hb2⟩
        have hd1 := cell_below hb2 HHc.out.1
        have hd2 := cell_below hb2 HHc.out.2
        cases b
        · have HGD : Hid (¬ x.good) := Lib.hid (fun h => by simpa using hgg.1 h)
          clear hgg
          go_wp2_with fail
          refine (HCV.out w2).mono ?_; rintro e w3 ⟨rfl, hb3⟩
          go_wp2
          go_ret
          refine ⟨congrArg (fun b => Ending.returned (Value.bool b)) (decide_eq_false fun h => HGD.out (h.1 x (List.mem_of_getElem? HX.out))).symm, below_call (below_call HB.out hb2) hb3⟩
        · have HGD : Hid (x.good) := Lib.hid (hgg.2 rfl)
          clear hgg
          go_wp2_with fail
          refine (HCV.out w2).mono ?_; rintro e w3 ⟨rfl, hb3⟩
          go_wp2
          go_roundw
          case rel => exact ⟨j + 1, by go_num, by omega, fun i y hi hy => by
            rcases Nat.lt_or_ge i j with h1 | h1
            · exact HG.out i y h1 hy
            · obtain rfl : i = j := by omega
              rw [HX.out] at hy; injection hy with hy; subst hy; exact HGD.out, below_call (below_call HB.out hb2) hb3⟩
          case measure => simp [intOf]; omega
    · go_wp2_with fail
      refine (HI.out wr).mono ?_; rintro e w2 ⟨rfl, rfl⟩
      go_wp2
      go_ret
      refine ⟨congrArg (fun b => Ending.returned (Value.bool b)) ?_, HB.out⟩
      rw [Bool.eq_iff_iff]
      simp only [Bool.and_eq_true, decide_eq_true_eq]
      refine ⟨fun h => ⟨fun x hx => ?_, by omega, by omega⟩, fun h => by omega⟩
      obtain ⟨i, hi⟩ := List.getElem?_of_mem hx
      obtain ⟨hi2, _⟩ := List.getElem?_eq_some_iff.1 hi
      exact HG.out i x (by omega) hi

end Go.Proofs.Ytiklpifaaogcpaa

namespace Go.Proofs.Ytiklpifaaogcpaa
open Go.RowKit Go.Cl Go.Wr Go.Kc
set_option maxRecDepth 100000
set_option linter.unusedVariables false
set_option linter.unusedSimpArgs false


theorem c_goodKeys (w : World) (p : Option Addr) (c : Nat) (L : List ByteArray) (h : LsS w p c L) (hL : L.length ≤ 9223372036854775807) :
    Calls Try.prog 38 #[.slice p L.length c] w fun e w' => e = .returned (.bool (decide ((∀ x ∈ L, goodK x) ∧ 1 ≤ L.length ∧ L.length ≤ 8))) ∧ Below w.heap.size w w' := by
  have HL := Lib.hid hL; clear hL
  have H := Lib.hid h; clear h
  have HI := Lib.hid (fun W => c_in L.length 1 8 W)
  go_enter Try.func38, Try.ntmps38
  go_wp2
  go_loopw [3] (c_indexK_Inv w L) (fun t _ => (L.length - (intOf t).toNat))
  case atStart => exact ⟨0, rfl, Nat.zero_le _, fun i x hi => by omega, Below.refl _ _⟩
  case round =>
    obtain ⟨j, rfl, hj, hg, hb⟩ := hrel
    have HG := Lib.hid hg; clear hg
    have HB := Lib.hid hb; clear hb
    by_cases hlt : j < L.length
    · have hb64 : (j : Int) < 9223372036854775807 := by have := HL.out; omega
      obtain ⟨x, hx⟩ : ∃ x, L[j]? = some x := ⟨L[j], List.getElem?_eq_getElem hlt⟩
      have hat := (H.out.below HB.out).at_ j x hx
      have HX := Lib.hid hx; clear hx
      obtain ⟨g, o, rfl, hgl, hc0⟩ := hat
      have HCK := Lib.hid (c_GoodKey x wr)
      have HGG : Hid (∀ a, decide (goodK x) = a → (goodK x ↔ a = true)) := Lib.hid fun a h1 => by subst h1; simp
      generalize decide (goodK x) = a at *
      have hgg := HGG.out a rfl
      clear HGG
      cases a
      · have HGD : Hid (¬ goodK x) := Lib.hid (fun h => by simpa using hgg.1 h)
        clear hgg
        go_wp2_with fail
        refine HCK.out.mono ?_; rintro e w2 ⟨rfl, hb2⟩
        go_wp2
        go_ret
        refine ⟨congrArg (fun b => Ending.returned (Value.bool b)) (decide_eq_false fun h => HGD.out (h.1 x (List.mem_of_getElem? HX.out))).symm, below_call HB.out hb2⟩
      · have HGD : Hid (goodK x) := Lib.hid (hgg.2 rfl)
        clear hgg
        go_wp2_with fail
        refine HCK.out.mono ?_; rintro e w3 ⟨rfl, hb3⟩
        go_wp2
        go_roundw
        case rel => exact ⟨j + 1, by go_num, by omega, fun i y hi hy => by
          rcases Nat.lt_or_ge i j with h1 | h1
          · exact HG.out i y h1 hy
          · obtain rfl : i = j := by omega
            rw [HX.out] at hy; injection hy with hy; subst hy; exact HGD.out, below_call HB.out hb3⟩
        case measure => simp [intOf]; omega
    · go_wp2_with fail
      refine (HI.out wr).mono ?_; rintro e w2 ⟨rfl, rfl⟩
      go_wp2
      go_ret
      refine ⟨congrArg (fun b => Ending.returned (Value.bool b)) ?_, HB.out⟩
      rw [Bool.eq_iff_iff]
      simp only [Bool.and_eq_true, decide_eq_true_eq]
      refine ⟨fun h => ⟨fun x hx => ?_, by omega, by omega⟩, fun h => by omega⟩
      obtain ⟨i, hi⟩ := List.getElem?_of_mem hx
      obtain ⟨hi2, _⟩ := List.getElem?_eq_some_iff.1 hi
      exact HG.out i x (by omega) hi

end Go.Proofs.Ytiklpifaaogcpaa
