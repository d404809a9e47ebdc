/- Same: texts. -/
import Derived.Test.YtiklpifaaogcpaaKx
import Derived.WalkKit
import Derived.WalkLawsBesides
import Derived.WalkSpells
import Derived.Below
import Derived.Deep.RegionHeld3
import Derived.Deep.QuietTactic
import Derived.BigQuiet
import Derived.Deep.DeepCutAuto
import Derived.Deep.DeepMust
import Derived.KernelRfl
import Derived.Lib.Hide
import Derived.Outline
import Derived.RegionTactic
import Derived.StillTailTactics
import Derived.Laws.IdiomStrings
import Derived.Handy
namespace Go.Proofs.Ytiklpifaaogcpaa
open Go.RowKit Go.Cl Go.Wr Go.Kc
set_option maxRecDepth 100000
set_option linter.unusedVariables false
set_option linter.unusedSimpArgs false


def TxInv (w : World) (A B : List ByteArray) (t : Value) (wr : World) : Prop := ∃ j : Nat, t = .int .i64 j ∧ j ≤ A.length ∧ A.take j = B.take j ∧ Below w.heap.size w wr
theorem c_sameTexts (w : World) (p p' : Option Addr) (c c' : Nat) (A B : List ByteArray) (h : LsS w p c A) (h' : LsS w p' c' B) :
    Calls Try.prog 50 #[.slice p A.length c, .slice p' B.length c'] w (RetB (A = B) w) := by
  have H := Lib.hid h; have H' := Lib.hid h'; clear h h'
  by_cases hl : A.length = B.length
  rotate_left
  · have HL := Lib.hid hl
    have hb : ((A.length : Int) != (B.length : Int)) = true := by simp; omega
    clear hl
    go_enter Try.func50, Try.ntmps50
    go_wp2
    go_ret
    exact ⟨_, rfl, by simp; exact fun e => HL.out (by rw [e]), Below.refl _ _⟩
  have HL := Lib.hid hl; clear hl
  have hLb : A.length ≤ 9223372036854775807 := Nat.le_trans H.out.cap.1 H.out.cap.2
  have HLb := Lib.hid hLb; clear hLb
  obtain ⟨N, hN⟩ : ∃ N, A.length = N := ⟨_, rfl⟩
  have hN' : B.length = N := HL.out.symm.trans hN
  rw [hN, hN']
  have HN := Lib.hid (And.intro hN hN'); clear hN hN'
  go_enter Try.func50, Try.ntmps50
  go_wp2
  go_loopw [5] (TxInv w A B) (fun t _ => (N - (intOf t).toNat))
  case atStart => exact ⟨0, rfl, Nat.zero_le _, rfl, Below.refl _ _⟩
  case round =>
    obtain ⟨j, rfl, hj, hg, hb⟩ := hrel
    have HG := Lib.hid hg; clear hg
    have HB := Lib.hid hb; clear hb
    rw [HN.out.1] at hj
    by_cases hlt : j < N
    · have hb64 : (j : Int) < 9223372036854775807 := by have := HLb.out; rw [HN.out.1] at this; omega
      obtain ⟨x, hx⟩ : ∃ x, A[j]? = some x := ⟨A[j]'(by rw [HN.out.1]; exact hlt), List.getElem?_eq_getElem _⟩
      obtain ⟨y, hy⟩ : ∃ y, B[j]? = some y := ⟨B[j]'(by rw [HN.out.2]; exact hlt), List.getElem?_eq_getElem _⟩
      obtain ⟨g, o, rfl, hgl, hc0⟩ := (H.out.below HB.out).at_ j x hx
      obtain ⟨g', o', rfl, hgl', hc0'⟩ := (H'.out.below HB.out).at_ j y hy
      have HX := Lib.hid (And.intro hx hy); clear hx hy
      by_cases he : x = y
      · subst he
        go_wp2
        refine Ph.region_at (by kernel_rfl) ?_
        refine Ph.at_quiet 9 (by kernel_rfl) ?_
        simp only [List.take_succ_cons, List.take_zero, List.drop_succ_cons, List.drop_zero]
        repeat ((first | (apply Ph.wpPh_g; (focus (intro wq hS0; have hbq := below_call (below_drew (Below.refl _ _)) hS0; have ha := cell_below hbq hc0; have hb := cell_below hbq hc0'; go_simp; first | exact rfl | exact ⟨rfl, Below.refl _ _⟩)))); simp only [Act.put, List.setIfInBounds_toArray, List.set_cons_zero, List.set_cons_succ])
        refine Ph.wpPh_nil ?_; intro w2 hSx
        have hb2 := below_call (below_drew (Below.refl _ _)) hSx
        clear hSx
        refine Ph.at_end (by simp) ?_
        go_wp2
        go_roundw
        case rel =>
          refine ⟨j+1, ?_, by rw [HN.out.1]; omega, ?_, below_call HB.out hb2⟩
          · go_num
          · rw [List.take_add_one, List.take_add_one, HG.out, HX.out.1, HX.out.2]
        case measure => simp [intOf]; omega
      · have HE := Lib.hid he; clear he
        have hne : (x.toList == y.toList) = false := by
          have : x.toList ≠ y.toList := fun e => HE.out (by rw [ByteArray.toList_eq, ByteArray.toList_eq] at e; exact ByteArray.ext (Array.toList_inj.1 e))
          simpa using this
        go_wp2
        refine Ph.region_at (by kernel_rfl) ?_
        refine Ph.at_quiet 9 (by kernel_rfl) ?_
        simp only [List.take_succ_cons, List.take_zero, List.drop_succ_cons, List.drop_zero]
        repeat ((first | (apply Ph.wpPh_g; (focus (intro wq hS0; have hbq := below_call (below_drew (Below.refl _ _)) hS0; have ha := cell_below hbq hc0; have hb := cell_below hbq hc0'; go_simp; first | exact rfl | exact ⟨rfl, Below.refl _ _⟩)))); simp only [Act.put, List.setIfInBounds_toArray, List.set_cons_zero, List.set_cons_succ])
        refine Ph.wpPh_nil ?_; intro w2 hSx
        have hb2 := below_call (below_drew (Below.refl _ _)) hSx
        clear hSx
        refine Ph.at_end (by simp) ?_
        go_wp2
        go_ret
        refine ⟨_, rfl, ?_, below_call HB.out hb2⟩
        simp only [Bool.false_eq_true, false_iff]
        intro e
        have h1 := HX.out.1
        rw [e, HX.out.2] at h1
        exact HE.out (Option.some.inj h1).symm
    · go_wp2
      go_ret
      refine ⟨_, rfl, ?_, HB.out⟩
      simp only [true_iff]
      have h1 := HG.out
      rw [List.take_of_length_le (by rw [HN.out.1]; omega), List.take_of_length_le (by rw [HN.out.2]; omega)] at h1
      exact h1

end Go.Proofs.Ytiklpifaaogcpaa
