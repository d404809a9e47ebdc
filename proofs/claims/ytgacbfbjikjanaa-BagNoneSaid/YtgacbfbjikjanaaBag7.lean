/- Bags: BagPlays. -/
import Derived.Test.YtgacbfbjikjanaaBag6
import Derived.Test.YtgacbfbjikjanaaRdr
import Derived.Test.YtgacbfbjikjanaaPh
import Derived.WalkKit
import Derived.WalkLawsBesides
import Derived.WalkSpells
import Derived.Below
import Derived.Deep.RegionHeld3
import Derived.Deep.QuietTactic
import Derived.BigQuiet
import Derived.Deep.DeepCutAuto
import Derived.Deep.DeepMust
import Derived.KernelRfl
import Derived.Lib.Hide
import Derived.Outline
import Derived.RegionTactic
import Derived.StillTailTactics
namespace Go.Proofs.Ytgacbfbjikjanaa
open Go.RowKit Go.Cl
set_option maxRecDepth 100000
set_option linter.unusedVariables false
set_option linter.unusedSimpArgs false


open Go.Rdr
def OpR (x : Int × Int × ByteArray) (cs : List Value) : Prop := cs = [.int .u8 x.1, .int .i64 x.2.1, .string x.2.2] ∧ 0 ≤ x.1 ∧ x.1 < 256
/-- What is known of the two bags behind some steps. -/
def PlaysInv (w : World) (b r : Nat) (most : Int) (n : Nat) (t : Value) (wr : World) : Prop :=
  ∃ (k : Nat) (col : Nat → Nat) (L : List ByteArray) (q : Int), t = .int .i64 k ∧ k ≤ n ∧ Bag 88 9 1 encS col 1 wr b L most q ∧ Bag 34 9 1 encS col 2 wr r L most q ∧ Mv [1, 2] zc w col wr
theorem Bag.open {α : Type} {T e s : Nat} {enc : α → List Value} {col : Nat → Nat} {i : Nat} {w : World} {b : Nat} {L : List α} {most lost : Int} (h : Bag T e s enc col i w b L most lost) :
    ∃ p c, hp w b = some (.cells #[.slice p L.length c, .int .i64 most, .int .i64 lost] T (0, 0)) ∧ Row col i w e s (.slice p L.length c) L.length (L.flatMap enc) := by
  obtain ⟨⟨v, hb, hr⟩, _⟩ := h
  obtain ⟨p, c, rfl⟩ := hr.form
  exact ⟨p, c, hb.hp, hr⟩
set_option maxHeartbeats 800000 in
theorem bagPlays (w : World) (base : Nat) (most : Int) (v : Value) (script : List (Int × Int × ByteArray)) (hs : SlIs w base 3 OpR v script) :
    Calls Try.prog 3 #[.int .i64 most, v] w fun e w' => e = .returned (.bool true) ∧ Below w.heap.size w w' := by
  obtain ⟨p, c, rfl, hlc, hcm⟩ := hs.form
  unfold maxLen at hcm
  have hz0 : ∀ k, k < w.heap.size → zc k ∉ [1, 2] := fun k _ => by simp [zc]
  go_enter Try.func3, Try.ntmps3
  go_wp2_with fail
  refine (fixed_true w).mono ?_; rintro e w0 ⟨rfl, hb0⟩
  go_wp2_with fail
  refine (bs_new zc 1 w0 most).mono ?_; rintro e w1 ⟨b, rfl, hB, HC1, _⟩
  go_wp2_with fail
  refine (br_new (paint zc w0 1) 2 w1 most).mono ?_; rintro e w2 ⟨r, rfl, hR, HC2, _⟩
  have hB1 := hB.kept HC2.mv (by simp)
  have hM := ((Mv.of_below (S := [1, 2]) (col := zc) hb0).trans (HC1.mv' (by simp))).trans (HC2.mv' (by simp))
  clear hB HC1 HC2
  go_wp2
  go_loopw [7] (fun t wr => PlaysInv w b r (capOf most) script.length t wr) (fun t _ => script.length + 1 - (intOf t).toNat)
  case atStart => exact ⟨0, _, [], 0, rfl, Nat.zero_le _, hB1, hR, hM⟩
  case round =>
    obtain ⟨k, col, L, q, rfl, hk, hB2, hR2, hM2⟩ := hrel
    clear hB1 hR hM
    by_cases hlt : k < script.length
    · obtain ⟨bs, os, c', cs, hv, _, _, hcl, ⟨hcs, hK0, hK1⟩, hbs, hat⟩ := hs.at (hM2.toBelow hz0) k hlt
      simp only [Value.slice.injEq] at hv
      obtain ⟨rfl, _, rfl⟩ := hv
      subst hcs
      have q0 := hat 0 (by omega)
      have q1 := hat 1 (by omega)
      have q2 := hat 2 (by omega)
      simp only [List.getElem?_cons_zero, List.getElem?_cons_succ, Nat.add_zero] at q0 q1 q2
      generalize script[k] = X at *
      obtain ⟨K, I, S⟩ := X
      simp only at q0 q1 q2 hK0 hK1
      have hk0 : (0 : Int) ≤ (k : Int) := by omega
      clear hat hcl
      go_wp2
      refine Ph.region_at (by kernel_rfl) ?_
      refine Ph.at_quiet 6 (by kernel_rfl) ?_
      simp only [List.take_succ_cons, List.take_zero, List.drop_succ_cons, List.drop_zero]
      repeat ((first | (apply Ph.wpPh_g; (focus (intro w1 hS0; have d0 := cell_below hS0 (cell_below (below_drew (Below.refl wr.heap.size wr)) q0); have d1 := cell_below hS0 (cell_below (below_drew (Below.refl wr.heap.size wr)) q1); have d2 := cell_below hS0 (cell_below (below_drew (Below.refl wr.heap.size wr)) q2); go_simp; first | exact rfl | exact ⟨rfl, Below.refl _ _⟩)))); simp only [Act.put, List.setIfInBounds_toArray, List.set_cons_zero, List.set_cons_succ])
      refine Ph.wpPh_nil ?_; intro w2 hS2
      refine Ph.at_op rfl (by kernel_rfl) ?_
      have hb2 := below_call (below_drew (Below.refl wr.heap.size wr)) hS2
      have hBd := hB2.below hb2
      have hRd := hR2.below hb2
      have hMd := hM2.after_below hb2
      go_wp2_with (go_at_call 15; refine (step_any 1 2 b r (by decide) (by decide) (by decide) col w2 K I hK0 hK1 S L _ q L _ q hBd hRd).mono ?_; rintro e w3 ⟨col', rfl, hB3, hR3, hM3⟩; rw [stB_same])
      obtain ⟨pr, cr, hr3, hrow3⟩ := hR3.open
      refine Ph.at_quiet 27 (by kernel_rfl) ?_
      simp only [List.take_succ_cons, List.take_zero, List.drop_succ_cons, List.drop_zero]
      repeat ((first | (apply Ph.wpPh_g; (focus (intro w1 hS0; have hB4 := hB3.below hS0; have cr3 := hp_cell (hp_below hS0 hr3); go_simp; first | exact rfl | exact ⟨rfl, Below.refl _ _⟩ | ((go_at_call 16; refine (bs_len _ 1 _ b _ _ _ hB4).mono ?_; rintro e w' ⟨rfl, rfl⟩; exact ⟨rfl, Below.refl _ _⟩)) | ((go_at_call 17; refine (bs_lost _ 1 _ b _ _ _ hB4).mono ?_; rintro e w' ⟨rfl, rfl⟩; exact ⟨rfl, Below.refl _ _⟩)))))); simp only [Act.put, List.setIfInBounds_toArray, List.set_cons_zero, List.set_cons_succ])
      refine Ph.wpPh_nil ?_; intro w4 hS4
      refine Ph.at_end (by simp) ?_
      go_wp2
      go_roundw
      case rel => exact ⟨k + 1, col', _, _, by go_num, by omega, hB3.below hS4, hR3.below hS4, (hMd.trans hM3).after_below hS4⟩
      case measure => simp [intOf]; omega
    · have hkn : k = script.length := by omega
      obtain ⟨pr, cr, hr3, hrow3⟩ := hR2.open
      have cr3 := hp_cell hr3
      have hlen := hB2.len
      have hhi := hB2.hi
      have hBd := hB2.below (below_drew (Below.refl wr.heap.size wr))
      have hrd := (hrow3.kept (Mv.of_below (S := []) (col := col) (below_drew (Below.refl wr.heap.size wr))) (by simp))
      clear hkn
      go_wp2
      go_region_with (first | (go_at_call 19; refine (bs_list _ 1 _ b _ _ _ 1 hBd).mono ?_; rintro e w5 ⟨p5, c5, rfl, hr5, hb5⟩; have cr5 := hp_cell (hp_below hb5 (hp_below (below_drew (Below.refl wr.heap.size wr)) hr3))) | (go_at_call 18; refine (same_true _ _ _ _ _ _ _ L L.length rfl (by omega) hr5 (hrd.below hb5)).mono ?_; rintro e w6 ⟨rfl, hb6⟩))
      all_goals try go_wp2
      all_goals go_ret
      all_goals exact ⟨rfl, below_call (below_call (below_call (hM2.toBelow hz0) (below_drew (Below.refl wr.heap.size wr))) hb5) hb6⟩

end Go.Proofs.Ytgacbfbjikjanaa
