/- The document's example. -/
import Derived.Test.YtnofclmnjhkhiaaCd
import Derived.WalkKit
import Derived.WalkLawsBesides
import Derived.WalkSpells
import Derived.Below
import Derived.Deep.RegionHeld3
import Derived.Deep.QuietTactic
import Derived.BigQuiet
import Derived.Deep.DeepCutAuto
import Derived.Deep.DeepMust
import Derived.KernelRfl
import Derived.Lib.Hide
import Derived.Outline
import Derived.RegionTactic
import Derived.StillTailTactics
namespace Go.Proofs.Ytnofclmnjhkhiaa
open Go.RowKit Go.Cl Go.Cv
set_option maxRecDepth 100000
set_option linter.unusedVariables false
set_option linter.unusedSimpArgs false

theorem ch_below {w W : World} (h : Ch zc 1 w W) : Below w.heap.size w W := h.mv.toBelow (fun k _ => by simp [zc])
theorem lit_rd (w2 : World) : ∀ W, Ch zc 1 (w2.alloc (.cells #[.int .i64 1, .int .i64 3, .int .i64 7, .int .i64 9] 30 (0, 0))) W → RdL W (.slice (some ⟨w2.heap.size, 0, none⟩) 2 2) [(1, 3), (7, 9)] := by
  intro W hC
  have h := hp_below (ch_below hC) (hp_alloc_new w2 (.cells #[.int .i64 1, .int .i64 3, .int .i64 7, .int .i64 9] 30 (0, 0)))
  refine ⟨_, _, rfl, fun k a ha => ⟨_, 0, rfl, ?_, ?_⟩⟩
  all_goals
    rw [hp_cell h]
    match k, ha with
    | 0, ha => simp at ha; subst ha; rfl
    | 1, ha => simp at ha; subst ha; rfl
    | k + 2, ha => simp at ha
def L0 : List Sp := newL [(1, 3), (7, 9)]
def L1 : List Sp := addL L0 (3, 5)
set_option maxHeartbeats 2000000 in
theorem c_fixed (w : World) : Calls Try.prog 10 #[] w fun e w' => e = .returned (.bool true) ∧ Below w.heap.size w w' := by
  have h1 : ∀ w, Calls Try.prog 27 #[.int .i64 1, .int .i64 3] w fun e w' => e = .returned (.agg #[.int .i64 1, .int .i64 3]) ∧ Below w.heap.size w w' := fun w => c_of 1 3 w
  have h2 : ∀ w, Calls Try.prog 27 #[.int .i64 7, .int .i64 9] w fun e w' => e = .returned (.agg #[.int .i64 7, .int .i64 9]) ∧ Below w.heap.size w w' := fun w => c_of 7 9 w
  have h3 : ∀ w, Calls Try.prog 27 #[.int .i64 3, .int .i64 5] w fun e w' => e = .returned (.agg #[.int .i64 3, .int .i64 5]) ∧ Below w.heap.size w w' := fun w => c_of 3 5 w
  have HO := Lib.hid (And.intro h1 (And.intro h2 h3))
  have hw0 : Wf L0 := (newL_law [(1, 3), (7, 9)] 2).1
  have hw1 : Wf L1 := (addL_law hw0 (3, 5)).1
  have hl0 : L0.length ≤ 8796093022206 := by decide +kernel
  have hl1 : L1.length ≤ 8796093022206 := by decide +kernel
  have HW := Lib.hid (And.intro hw0 (And.intro hw1 (And.intro hl0 hl1)))
  clear h1 h2 h3 hw0 hw1 hl0 hl1
  go_enter Try.func10, Try.ntmps10
  go_upto_region 2 with (first | (go_at_call 27; first | ((with_reducible refine (HO.out.1 _).mono ?_); rintro e w1 ⟨rfl, hb⟩; have HB1 := Lib.hid hb; clear hb) | ((with_reducible refine (HO.out.2.1 _).mono ?_); rintro e w2 ⟨rfl, hb⟩; have HB2 := Lib.hid (below_call HB1.out hb); clear hb)) | (go_at_call 11; refine (c_new zc 1 _ _ [(1, 3), (7, 9)] (lit_rd w2) (by decide)).mono ?_; rintro e w4 ⟨b, rfl, hb, hcv, hch⟩; have H4 := Lib.hid (And.intro (below_call (below_call HB2.out (below_alloc (Below.refl _ _) _)) (ch_below hch)) (And.intro hcv (And.intro hch hb))); clear hb hcv hch))
  obtain ⟨col, hcol⟩ : ∃ col, paint zc (w2.alloc (.cells #[.int .i64 1, .int .i64 3, .int .i64 7, .int .i64 9] 30 (0, 0))) 1 = col := ⟨_, rfl⟩
  have hcv0 : CvO col 1 w4 b L0 := by rw [← hcol]; exact H4.out.2.1
  have hold : ∀ k, k < w.heap.size → col k ∉ [1] := fun k hk => by
    rw [← hcol, paint_old (by have := HB2.out.size; have := (below_alloc (Below.refl w2.heap.size w2) (.cells #[.int .i64 1, .int .i64 3, .int .i64 7, .int .i64 9] 30 (0, 0))).size; omega)]
    simp [zc]
  have HCV := Lib.hid (And.intro hcv0 hold)
  have HB4 := Lib.hid H4.out.1
  clear hcv0 hold hcol H4 HB1 HB2
  go_upto_region 5 with (first | (go_at_call 27; (with_reducible refine (HO.out.2.2 _).mono ?_); rintro e w5 ⟨rfl, hb⟩; have HB5 := Lib.hid hb; clear hb) | (go_at_call 14; refine (c_add col 1 w5 b L0 (HCV.out.1.below HB5.out) HW.out.1 HW.out.2.2.1 3 5).mono ?_; rintro e w6 ⟨rfl, hcv, hch⟩; have H6 := Lib.hid (And.intro (hcv.rd) (show Below w.heap.size w w6 from ⟨hch.os.trans ((below_call HB4.out HB5.out).os), hch.tape.trans ((below_call HB4.out HB5.out).tape), hch.output.trans ((below_call HB4.out HB5.out).output), Nat.le_trans (below_call HB4.out HB5.out).size hch.size, fun k hk => (hch.block k (Nat.lt_of_lt_of_le hk (below_call HB4.out HB5.out).size) (fun e => HCV.out.2 k hk (by simp [e]))).trans ((below_call HB4.out HB5.out).block k hk)⟩)); clear hcv hch))
  have hL : addL L0 (3, 5) = L1 := rfl
  rw [hL] at H6
  have hnx : ∀ w, CvR w b L1 → Calls Try.prog 20 #[.pointer (some ⟨b, 0, none⟩), .int .i64 5] w fun e w' => e = .returned (.tuple #[.int .i64 7, .bool true]) ∧ Below w.heap.size w w' := fun w hv => by
    have := c_next w b L1 hv HW.out.2.1 HW.out.2.2.2 5
    rw [show nextL L1 5 = (7, true) by decide +kernel] at this; exact this
  have hle : ∀ w, CvR w b L1 → Calls Try.prog 30 #[.pointer (some ⟨b, 0, none⟩)] w fun e w' => e = .returned (.int .i64 2) ∧ w = w' := fun w hv => by
    have := c_len w b L1 hv
    rw [show ((L1.length : Nat) : Int) = 2 by decide +kernel] at this; exact this
  have hh4 : ∀ w, CvR w b L1 → Calls Try.prog 16 #[.pointer (some ⟨b, 0, none⟩), .int .i64 4] w fun e w' => e = .returned (.bool true) ∧ Below w.heap.size w w' := fun w hv => by
    have := c_chas w b L1 hv HW.out.2.1 HW.out.2.2.2 4
    rw [show hasB L1 4 = true by decide +kernel] at this; exact this
  have hh5 : ∀ w, CvR w b L1 → Calls Try.prog 16 #[.pointer (some ⟨b, 0, none⟩), .int .i64 5] w fun e w' => e = .returned (.bool false) ∧ Below w.heap.size w w' := fun w hv => by
    have := c_chas w b L1 hv HW.out.2.1 HW.out.2.2.2 5
    rw [show hasB L1 5 = false by decide +kernel] at this; exact this
  have hg1 : ∀ w, CvR w b L1 → Calls Try.prog 17 #[.pointer (some ⟨b, 0, none⟩), .int .i64 1] w fun e w' => e = .returned (.int .i64 5) ∧ Below w.heap.size w w' := fun w hv => by
    have := c_gap w b L1 hv HW.out.2.1 HW.out.2.2.2 1
    rw [show gapL L1 1 = 5 by decide +kernel] at this; exact this
  have HQ := Lib.hid (And.intro hnx (And.intro hle (And.intro hh4 (And.intro hh5 hg1))))
  clear hnx hle hh4 hh5 hg1 hL
  go_wp2_with (first | (go_at_call 20; (with_reducible refine (HQ.out.1 _ H6.out.1).mono ?_); rintro e w7 ⟨rfl, hb⟩; have H7 := Lib.hid (And.intro (H6.out.1.below hb) (below_call H6.out.2 hb)); clear hb) | (go_at_call 30; (with_reducible refine (HQ.out.2.1 _ H7.out.1).mono ?_); rintro e w8 ⟨rfl, rfl⟩) | (go_at_call 16; first | ((with_reducible refine (HQ.out.2.2.1 _ H7.out.1).mono ?_); rintro e w8 ⟨rfl, hb⟩; have H8 := Lib.hid (And.intro (H7.out.1.below hb) (below_call H7.out.2 hb)); clear hb) | ((with_reducible refine (HQ.out.2.2.2.1 _ H8.out.1).mono ?_); rintro e w9 ⟨rfl, hb⟩; have H9 := Lib.hid (And.intro (H8.out.1.below hb) (below_call H8.out.2 hb)); clear hb)) | (go_at_call 17; (with_reducible refine (HQ.out.2.2.2.2 _ H9.out.1).mono ?_); rintro e w10 ⟨rfl, hb⟩; have H10 := Lib.hid (below_call H9.out.2 hb); clear hb))
  go_ret
  exact ⟨rfl, H10.out⟩
end Go.Proofs.Ytnofclmnjhkhiaa
