/- CoverHolds: the walk. -/
import Derived.Test.YtnofclmnjhkhiaaCl
import Derived.Test.YtnofclmnjhkhiaaCm
import Derived.WalkKit
import Derived.WalkLawsBesides
import Derived.WalkSpells
import Derived.Below
import Derived.Deep.RegionHeld3
import Derived.Deep.QuietTactic
import Derived.BigQuiet
import Derived.Deep.DeepCutAuto
import Derived.Deep.DeepMust
import Derived.KernelRfl
import Derived.Lib.Hide
import Derived.Outline
import Derived.RegionTactic
import Derived.StillTailTactics
namespace Go.Proofs.Ytnofclmnjhkhiaa
open Go.RowKit Go.Cl Go.Cv
set_option maxRecDepth 100000
set_option linter.unusedVariables false
set_option linter.unusedSimpArgs false

theorem holds_law {L : List Sp} (lo hi : Int) : holdsL L (lo, hi) = (decide (hi ≤ lo) || (hasB L lo && decide (hi ≤ gapL L lo))) := by
  unfold holdsL
  by_cases h : hi ≤ lo
  · rw [decide_eq_true h]; exact if_pos h
  · rw [decide_eq_false h, Bool.false_or]
    show (if hi ≤ lo then true else _) = _
    rw [if_neg h]
    show (match L[frm L lo]? with | some a => decide (a.1 ≤ lo) && decide (hi ≤ a.2) | none => false) = _
    unfold gapL hasB
    cases e : L[frm L lo]? with
    | none => rfl
    | some a =>
      have hf := frm_at e
      by_cases h1 : a.1 ≤ lo
      · simp [h1, hf]
      · simp [h1]
theorem meets_law {L : List Sp} (hw : Wf L) (lo hi : Int) : meetsL L (lo, hi) = (decide (lo < hi) && ((nextL L lo).2 && decide ((nextL L lo).1 < hi))) := by
  unfold meetsL nextL
  show (match L[frm L lo]? with | some a => decide (lo < hi) && decide (max a.1 lo < min a.2 hi) | none => false) = _
  cases e : L[frm L lo]? with
  | none => simp
  | some a =>
    have hf := frm_at e
    have hg := hw.get e
    dsimp only
    by_cases h : lo < hi
    · rw [decide_eq_true h, Bool.true_and, Bool.true_and, Bool.true_and]
      by_cases h2 : max lo a.1 < hi
      · rw [decide_eq_true h2]; exact decide_eq_true (by omega)
      · rw [decide_eq_false h2]; exact decide_eq_false (by omega)
    · rw [decide_eq_false h]; rfl
set_option maxHeartbeats 8000000 in
theorem c_holds (w : World) (v : Value) (l : List Op4) (hv : OpsR w v l) (hn : l.length ≤ 4398046511103) (lo hi : Int) :
    Calls Try.prog 5 #[v, .int .i64 lo, .int .i64 hi] w fun e w' => e = .returned (.bool true) ∧ Below w.heap.size w w' := by
  have HV := Lib.hid hv
  obtain ⟨p, cp, rfl, hx0⟩ := hv
  obtain ⟨n, hnn⟩ : ∃ n, l.length = n := ⟨_, rfl⟩
  rw [hnn] at HV hn ⊢
  have HN := Lib.hid (And.intro hn hnn)
  clear hn hnn hx0
  go_enter Try.func5, Try.ntmps5
  go_upto_region 4 with (first | (go_at_call 10; (with_reducible refine (c_fixed _).mono ?_); rintro e w1 ⟨rfl, hb1⟩; have HB1 := Lib.hid hb1; clear hb1) | (go_at_call 11; (with_reducible refine (c_new0 zc 1 w1).mono ?_); rintro e w2 ⟨b, rfl, hb, hcv, hch⟩; have H2 := Lib.hid (And.intro hcv ((Mv.of_below (S := [1]) (col := zc) HB1.out).trans hch.mv)); clear hb hcv hch))
  go_wp2
  go_loopw [8] (fun t wr => ∃ (k : Nat) (L : List Sp) (c : Nat → Nat), t = .int .i64 k ∧ k ≤ n ∧ CvO c 1 wr b L ∧ Wf L ∧ L.length ≤ k ∧ Mv [1] zc w c wr) (fun t _ => n - (intOf t).toNat)
  case atStart => exact ⟨0, [], _, rfl, Nat.zero_le _, H2.out.1, Wf.nil, Nat.le_refl _, H2.out.2⟩
  case round =>
    obtain ⟨k, L, c, rfl, hk, hcv, hw, hl, hm⟩ := hrel
    have hbw : Below w.heap.size w wr := hm.toBelow (fun k _ => by simp [zc])
    have HI := Lib.hid (And.intro hk (And.intro hcv (And.intro hw (And.intro hl hm))))
    clear hk hcv hw hl hm
    by_cases hlt : k < n
    · have b1 : (k : Int) < (n : Int) := by omega
      have w1' : IntKind.i64.wrap ((k : Int) + 1) = (k : Int) + 1 := IntWalk.i64_in _ (by have := HN.out; omega)
      obtain ⟨o, ho⟩ := get_op (l := l) (k := k) (by rw [HN.out.2]; exact hlt)
      obtain ⟨g, f, rfl, y1, y2, y3, y4⟩ := (HV.out.below hbw).at ho
      obtain ⟨ct, lo', hi', X⟩ := o
      have HL := Lib.hid (stepL_law HI.out.2.2.1 (ct, lo', hi', X))
      have HOO := Lib.hid (fun w => c_oof ct lo' hi' X w)
      have HLB := Lib.hid (show L.length ≤ 4398046511104 by have := HI.out.2.2.2.1; have := HI.out.1; have := HN.out; omega)
      clear ho hbw
      cases ct with
      | true =>
        have hst : stepL L (true, lo', hi', X) = cutC L (lo', hi') := by unfold stepL; rw [if_pos rfl]
        rw [hst] at HL
        clear hst
        go_wp2_with (first | (go_at_call 13; (with_reducible refine (HOO.out _).mono ?_); rintro e w10 ⟨rfl, hb⟩; have HB10 := Lib.hid hb; clear hb) | (go_at_call 12; refine (c_cutc c 1 w10 b L (HI.out.2.1.below HB10.out) HI.out.2.2.1 HLB.out lo' hi').mono ?_; rintro e w11 ⟨rfl, hcv, hch⟩; have HX := Lib.hid (And.intro hcv hch); clear hcv hch))
        go_roundw
        case rel => exact ⟨k + 1, _, _, by go_num, by omega, HX.out.1, HL.out.1, by have := HL.out.2; have := HI.out.2.2.2.1; omega, (HI.out.2.2.2.2.after_below HB10.out).trans HX.out.2.mv⟩
        case measure => simp [intOf]; omega
      | false =>
        have hst : stepL L (false, lo', hi', X) = addL L (lo', hi') := by unfold stepL; rw [if_neg (by simp)]
        rw [hst] at HL
        clear hst
        go_wp2_with (first | (go_at_call 13; (with_reducible refine (HOO.out _).mono ?_); rintro e w10 ⟨rfl, hb⟩; have HB10 := Lib.hid hb; clear hb) | (go_at_call 14; refine (c_add c 1 w10 b L (HI.out.2.1.below HB10.out) HI.out.2.2.1 HLB.out lo' hi').mono ?_; rintro e w11 ⟨rfl, hcv, hch⟩; have HX := Lib.hid (And.intro hcv hch); clear hcv hch))
        go_roundw
        case rel => exact ⟨k + 1, _, _, by go_num, by omega, HX.out.1, HL.out.1, by have := HL.out.2; have := HI.out.2.2.2.1; omega, (HI.out.2.2.2.2.after_below HB10.out).trans HX.out.2.mv⟩
        case measure => simp [intOf]; omega
    · have b1 : ¬ ((k : Int) < (n : Int)) := by omega
      have HLB := Lib.hid (show L.length ≤ 4398046511104 by have := HI.out.2.2.2.1; have := HI.out.1; have := HN.out; omega)
      have HBW := Lib.hid hbw
      have hcr := HI.out.2.1.rd
      have hnx := fun w1 (h : CvR w1 b L) => c_next w1 b L h HI.out.2.2.1 HLB.out lo
      have hme := fun w1 (h : CvR w1 b L) => c_meets w1 b L h HI.out.2.2.1 HLB.out lo hi
      have hho := fun w1 (h : CvR w1 b L) => c_holdsC w1 b L h HI.out.2.2.1 HLB.out lo hi
      have hha := fun w1 (h : CvR w1 b L) => c_chas w1 b L h HI.out.2.2.1 HLB.out lo
      have hga := fun w1 (h : CvR w1 b L) => c_gap w1 b L h HI.out.2.2.1 HLB.out lo
      have ml := meets_law HI.out.2.2.1 lo hi
      have hl := holds_law (L := L) lo hi
      rw [ml] at hme
      rw [hl] at hho
      clear ml hl hlt hbw
      generalize nextL L lo = nx at *
      obtain ⟨nn, ok⟩ := nx
      generalize hasB L lo = hb at *
      generalize gapL L lo = gp at *
      have HR := Lib.hid hcr; clear hcr
      have hme' : ∀ w1, CvR w1 b L → Calls Try.prog 21 #[.pointer (some ⟨b, 0, none⟩), .agg #[.int .i64 lo, .int .i64 hi]] w1 fun e w' => e = .returned (.bool (decide (lo < hi) && (ok && decide (nn < hi)))) ∧ Below w1.heap.size w1 w' := hme
      have hnx' : ∀ w1, CvR w1 b L → Calls Try.prog 20 #[.pointer (some ⟨b, 0, none⟩), .int .i64 lo] w1 fun e w' => e = .returned (.tuple #[.int .i64 nn, .bool ok]) ∧ Below w1.heap.size w1 w' := hnx
      clear hme hnx
      by_cases c1 : lo < hi
      · have c1' : ¬ hi ≤ lo := by omega
        rw [decide_eq_true c1] at hme'
        rw [decide_eq_false c1'] at hho
        cases ok with
        | false =>
          simp only [Bool.true_and, Bool.false_and, Bool.and_true, Bool.and_false, Bool.false_or] at hme' hho
          cases hb with
          | false =>
            simp only [Bool.false_and] at hho
            have HQ := Lib.hid (And.intro hnx' (And.intro hme' (And.intro hho (And.intro hha hga))))
            clear hnx' hme' hho hha hga
            go_upto_region 11 with fail
            refine Ph.at_world ?_; intro W9 hW
            have k9 : hp W9 wr.heap.size = some (.cells #[.int .i64 lo, .int .i64 hi] 30 (0, 0)) := by rw [hW]; simp [hpA, hpS, cset_cells]
            have hB9 : Below wr.heap.size wr W9 := by rw [hW]; exact by (repeat (first | (with_reducible assumption) | (with_reducible exact Below.refl _ _) | (with_reducible refine below_set ?_ (by first | assumption | (simp; done) | (simp; omega) | omega) _) | (with_reducible apply below_alloc) | (with_reducible apply below_drew) | (with_reducible apply below_drewN) | (with_reducible refine below_call ?_ (by assumption))))
            clear hW
            have H9 := Lib.hid (And.intro (HR.out.below hB9) (And.intro k9 (below_call HBW.out hB9)))
            have c9 := hp_cell k9
            clear k9 hB9
            go_wp2_with (first | (go_at_call 20; (with_reducible refine (HQ.out.1 _ H9.out.1).mono ?_); rintro e w10 ⟨rfl, hb⟩; have H10 := Lib.hid (And.intro (H9.out.1.below hb) (And.intro (hp_below hb H9.out.2.1) (below_call H9.out.2.2 hb))); replace c9 := hp_cell (hp_below hb H9.out.2.1); clear hb) | (go_at_call 21; (with_reducible refine (HQ.out.2.1 _ H10.out.1).mono ?_); rintro e w11 ⟨rfl, hb⟩; have H11 := Lib.hid (And.intro (H10.out.1.below hb) (And.intro (hp_below hb H10.out.2.1) (below_call H10.out.2.2 hb))); replace c9 := hp_cell (hp_below hb H10.out.2.1); clear hb) | (go_at_call 22; (with_reducible refine (HQ.out.2.2.1 _ H11.out.1).mono ?_); rintro e w12 ⟨rfl, hb⟩; have H12 := Lib.hid (And.intro (H11.out.1.below hb) (below_call H11.out.2.2 hb)); clear hb c9) | (go_at_call 16; (with_reducible refine (HQ.out.2.2.2.1 _ H12.out.1).mono ?_); rintro e w13 ⟨rfl, hb⟩; have H13 := Lib.hid (And.intro (H12.out.1.below hb) (below_call H12.out.2 hb)); clear hb) | (go_at_call 17; (with_reducible refine (HQ.out.2.2.2.2 _ H13.out.1).mono ?_); rintro e w14 ⟨rfl, hb⟩; have H14 := Lib.hid (below_call H13.out.2 hb); clear hb))
            go_ret
            exact ⟨by first | rfl | (simp; done) | (simp; omega), H13.out.2⟩
          | true =>
            simp only [Bool.true_and] at hho
            by_cases c3 : hi ≤ gp
            · rw [decide_eq_true c3] at hho
              have HQ := Lib.hid (And.intro hnx' (And.intro hme' (And.intro hho (And.intro hha hga))))
              clear hnx' hme' hho hha hga
              go_upto_region 11 with fail
              refine Ph.at_world ?_; intro W9 hW
              have k9 : hp W9 wr.heap.size = some (.cells #[.int .i64 lo, .int .i64 hi] 30 (0, 0)) := by rw [hW]; simp [hpA, hpS, cset_cells]
              have hB9 : Below wr.heap.size wr W9 := by rw [hW]; exact by (repeat (first | (with_reducible assumption) | (with_reducible exact Below.refl _ _) | (with_reducible refine below_set ?_ (by first | assumption | (simp; done) | (simp; omega) | omega) _) | (with_reducible apply below_alloc) | (with_reducible apply below_drew) | (with_reducible apply below_drewN) | (with_reducible refine below_call ?_ (by assumption))))
              clear hW
              have H9 := Lib.hid (And.intro (HR.out.below hB9) (And.intro k9 (below_call HBW.out hB9)))
              have c9 := hp_cell k9
              clear k9 hB9
              go_wp2_with (first | (go_at_call 20; (with_reducible refine (HQ.out.1 _ H9.out.1).mono ?_); rintro e w10 ⟨rfl, hb⟩; have H10 := Lib.hid (And.intro (H9.out.1.below hb) (And.intro (hp_below hb H9.out.2.1) (below_call H9.out.2.2 hb))); replace c9 := hp_cell (hp_below hb H9.out.2.1); clear hb) | (go_at_call 21; (with_reducible refine (HQ.out.2.1 _ H10.out.1).mono ?_); rintro e w11 ⟨rfl, hb⟩; have H11 := Lib.hid (And.intro (H10.out.1.below hb) (And.intro (hp_below hb H10.out.2.1) (below_call H10.out.2.2 hb))); replace c9 := hp_cell (hp_below hb H10.out.2.1); clear hb) | (go_at_call 22; (with_reducible refine (HQ.out.2.2.1 _ H11.out.1).mono ?_); rintro e w12 ⟨rfl, hb⟩; have H12 := Lib.hid (And.intro (H11.out.1.below hb) (below_call H11.out.2.2 hb)); clear hb c9) | (go_at_call 16; (with_reducible refine (HQ.out.2.2.2.1 _ H12.out.1).mono ?_); rintro e w13 ⟨rfl, hb⟩; have H13 := Lib.hid (And.intro (H12.out.1.below hb) (below_call H12.out.2 hb)); clear hb) | (go_at_call 17; (with_reducible refine (HQ.out.2.2.2.2 _ H13.out.1).mono ?_); rintro e w14 ⟨rfl, hb⟩; have H14 := Lib.hid (below_call H13.out.2 hb); clear hb))
              go_ret
              exact ⟨by first | rfl | (simp; done) | (simp; omega), H14.out⟩
            · rw [decide_eq_false c3] at hho
              have HQ := Lib.hid (And.intro hnx' (And.intro hme' (And.intro hho (And.intro hha hga))))
              clear hnx' hme' hho hha hga
              go_upto_region 11 with fail
              refine Ph.at_world ?_; intro W9 hW
              have k9 : hp W9 wr.heap.size = some (.cells #[.int .i64 lo, .int .i64 hi] 30 (0, 0)) := by rw [hW]; simp [hpA, hpS, cset_cells]
              have hB9 : Below wr.heap.size wr W9 := by rw [hW]; exact by (repeat (first | (with_reducible assumption) | (with_reducible exact Below.refl _ _) | (with_reducible refine below_set ?_ (by first | assumption | (simp; done) | (simp; omega) | omega) _) | (with_reducible apply below_alloc) | (with_reducible apply below_drew) | (with_reducible apply below_drewN) | (with_reducible refine below_call ?_ (by assumption))))
              clear hW
              have H9 := Lib.hid (And.intro (HR.out.below hB9) (And.intro k9 (below_call HBW.out hB9)))
              have c9 := hp_cell k9
              clear k9 hB9
              go_wp2_with (first | (go_at_call 20; (with_reducible refine (HQ.out.1 _ H9.out.1).mono ?_); rintro e w10 ⟨rfl, hb⟩; have H10 := Lib.hid (And.intro (H9.out.1.below hb) (And.intro (hp_below hb H9.out.2.1) (below_call H9.out.2.2 hb))); replace c9 := hp_cell (hp_below hb H9.out.2.1); clear hb) | (go_at_call 21; (with_reducible refine (HQ.out.2.1 _ H10.out.1).mono ?_); rintro e w11 ⟨rfl, hb⟩; have H11 := Lib.hid (And.intro (H10.out.1.below hb) (And.intro (hp_below hb H10.out.2.1) (below_call H10.out.2.2 hb))); replace c9 := hp_cell (hp_below hb H10.out.2.1); clear hb) | (go_at_call 22; (with_reducible refine (HQ.out.2.2.1 _ H11.out.1).mono ?_); rintro e w12 ⟨rfl, hb⟩; have H12 := Lib.hid (And.intro (H11.out.1.below hb) (below_call H11.out.2.2 hb)); clear hb c9) | (go_at_call 16; (with_reducible refine (HQ.out.2.2.2.1 _ H12.out.1).mono ?_); rintro e w13 ⟨rfl, hb⟩; have H13 := Lib.hid (And.intro (H12.out.1.below hb) (below_call H12.out.2 hb)); clear hb) | (go_at_call 17; (with_reducible refine (HQ.out.2.2.2.2 _ H13.out.1).mono ?_); rintro e w14 ⟨rfl, hb⟩; have H14 := Lib.hid (below_call H13.out.2 hb); clear hb))
              go_ret
              exact ⟨by first | rfl | (simp; done) | (simp; omega), H14.out⟩
        | true =>
          by_cases c2 : nn < hi
          · rw [decide_eq_true c2] at hme'
            simp only [Bool.true_and, Bool.false_and, Bool.and_true, Bool.and_false, Bool.false_or] at hme' hho
            cases hb with
            | false =>
              simp only [Bool.false_and] at hho
              have HQ := Lib.hid (And.intro hnx' (And.intro hme' (And.intro hho (And.intro hha hga))))
              clear hnx' hme' hho hha hga
              go_upto_region 11 with fail
              refine Ph.at_world ?_; intro W9 hW
              have k9 : hp W9 wr.heap.size = some (.cells #[.int .i64 lo, .int .i64 hi] 30 (0, 0)) := by rw [hW]; simp [hpA, hpS, cset_cells]
              have hB9 : Below wr.heap.size wr W9 := by rw [hW]; exact by (repeat (first | (with_reducible assumption) | (with_reducible exact Below.refl _ _) | (with_reducible refine below_set ?_ (by first | assumption | (simp; done) | (simp; omega) | omega) _) | (with_reducible apply below_alloc) | (with_reducible apply below_drew) | (with_reducible apply below_drewN) | (with_reducible refine below_call ?_ (by assumption))))
              clear hW
              have H9 := Lib.hid (And.intro (HR.out.below hB9) (And.intro k9 (below_call HBW.out hB9)))
              have c9 := hp_cell k9
              clear k9 hB9
              go_wp2_with (first | (go_at_call 20; (with_reducible refine (HQ.out.1 _ H9.out.1).mono ?_); rintro e w10 ⟨rfl, hb⟩; have H10 := Lib.hid (And.intro (H9.out.1.below hb) (And.intro (hp_below hb H9.out.2.1) (below_call H9.out.2.2 hb))); replace c9 := hp_cell (hp_below hb H9.out.2.1); clear hb) | (go_at_call 21; (with_reducible refine (HQ.out.2.1 _ H10.out.1).mono ?_); rintro e w11 ⟨rfl, hb⟩; have H11 := Lib.hid (And.intro (H10.out.1.below hb) (And.intro (hp_below hb H10.out.2.1) (below_call H10.out.2.2 hb))); replace c9 := hp_cell (hp_below hb H10.out.2.1); clear hb) | (go_at_call 22; (with_reducible refine (HQ.out.2.2.1 _ H11.out.1).mono ?_); rintro e w12 ⟨rfl, hb⟩; have H12 := Lib.hid (And.intro (H11.out.1.below hb) (below_call H11.out.2.2 hb)); clear hb c9) | (go_at_call 16; (with_reducible refine (HQ.out.2.2.2.1 _ H12.out.1).mono ?_); rintro e w13 ⟨rfl, hb⟩; have H13 := Lib.hid (And.intro (H12.out.1.below hb) (below_call H12.out.2 hb)); clear hb) | (go_at_call 17; (with_reducible refine (HQ.out.2.2.2.2 _ H13.out.1).mono ?_); rintro e w14 ⟨rfl, hb⟩; have H14 := Lib.hid (below_call H13.out.2 hb); clear hb))
              go_ret
              exact ⟨by first | rfl | (simp; done) | (simp; omega), H13.out.2⟩
            | true =>
              simp only [Bool.true_and] at hho
              by_cases c3 : hi ≤ gp
              · rw [decide_eq_true c3] at hho
                have HQ := Lib.hid (And.intro hnx' (And.intro hme' (And.intro hho (And.intro hha hga))))
                clear hnx' hme' hho hha hga
                go_upto_region 11 with fail
                refine Ph.at_world ?_; intro W9 hW
                have k9 : hp W9 wr.heap.size = some (.cells #[.int .i64 lo, .int .i64 hi] 30 (0, 0)) := by rw [hW]; simp [hpA, hpS, cset_cells]
                have hB9 : Below wr.heap.size wr W9 := by rw [hW]; exact by (repeat (first | (with_reducible assumption) | (with_reducible exact Below.refl _ _) | (with_reducible refine below_set ?_ (by first | assumption | (simp; done) | (simp; omega) | omega) _) | (with_reducible apply below_alloc) | (with_reducible apply below_drew) | (with_reducible apply below_drewN) | (with_reducible refine below_call ?_ (by assumption))))
                clear hW
                have H9 := Lib.hid (And.intro (HR.out.below hB9) (And.intro k9 (below_call HBW.out hB9)))
                have c9 := hp_cell k9
                clear k9 hB9
                go_wp2_with (first | (go_at_call 20; (with_reducible refine (HQ.out.1 _ H9.out.1).mono ?_); rintro e w10 ⟨rfl, hb⟩; have H10 := Lib.hid (And.intro (H9.out.1.below hb) (And.intro (hp_below hb H9.out.2.1) (below_call H9.out.2.2 hb))); replace c9 := hp_cell (hp_below hb H9.out.2.1); clear hb) | (go_at_call 21; (with_reducible refine (HQ.out.2.1 _ H10.out.1).mono ?_); rintro e w11 ⟨rfl, hb⟩; have H11 := Lib.hid (And.intro (H10.out.1.below hb) (And.intro (hp_below hb H10.out.2.1) (below_call H10.out.2.2 hb))); replace c9 := hp_cell (hp_below hb H10.out.2.1); clear hb) | (go_at_call 22; (with_reducible refine (HQ.out.2.2.1 _ H11.out.1).mono ?_); rintro e w12 ⟨rfl, hb⟩; have H12 := Lib.hid (And.intro (H11.out.1.below hb) (below_call H11.out.2.2 hb)); clear hb c9) | (go_at_call 16; (with_reducible refine (HQ.out.2.2.2.1 _ H12.out.1).mono ?_); rintro e w13 ⟨rfl, hb⟩; have H13 := Lib.hid (And.intro (H12.out.1.below hb) (below_call H12.out.2 hb)); clear hb) | (go_at_call 17; (with_reducible refine (HQ.out.2.2.2.2 _ H13.out.1).mono ?_); rintro e w14 ⟨rfl, hb⟩; have H14 := Lib.hid (below_call H13.out.2 hb); clear hb))
                go_ret
                exact ⟨by first | rfl | (simp; done) | (simp; omega), H14.out⟩
              · rw [decide_eq_false c3] at hho
                have HQ := Lib.hid (And.intro hnx' (And.intro hme' (And.intro hho (And.intro hha hga))))
                clear hnx' hme' hho hha hga
                go_upto_region 11 with fail
                refine Ph.at_world ?_; intro W9 hW
                have k9 : hp W9 wr.heap.size = some (.cells #[.int .i64 lo, .int .i64 hi] 30 (0, 0)) := by rw [hW]; simp [hpA, hpS, cset_cells]
                have hB9 : Below wr.heap.size wr W9 := by rw [hW]; exact by (repeat (first | (with_reducible assumption) | (with_reducible exact Below.refl _ _) | (with_reducible refine below_set ?_ (by first | assumption | (simp; done) | (simp; omega) | omega) _) | (with_reducible apply below_alloc) | (with_reducible apply below_drew) | (with_reducible apply below_drewN) | (with_reducible refine below_call ?_ (by assumption))))
                clear hW
                have H9 := Lib.hid (And.intro (HR.out.below hB9) (And.intro k9 (below_call HBW.out hB9)))
                have c9 := hp_cell k9
                clear k9 hB9
                go_wp2_with (first | (go_at_call 20; (with_reducible refine (HQ.out.1 _ H9.out.1).mono ?_); rintro e w10 ⟨rfl, hb⟩; have H10 := Lib.hid (And.intro (H9.out.1.below hb) (And.intro (hp_below hb H9.out.2.1) (below_call H9.out.2.2 hb))); replace c9 := hp_cell (hp_below hb H9.out.2.1); clear hb) | (go_at_call 21; (with_reducible refine (HQ.out.2.1 _ H10.out.1).mono ?_); rintro e w11 ⟨rfl, hb⟩; have H11 := Lib.hid (And.intro (H10.out.1.below hb) (And.intro (hp_below hb H10.out.2.1) (below_call H10.out.2.2 hb))); replace c9 := hp_cell (hp_below hb H10.out.2.1); clear hb) | (go_at_call 22; (with_reducible refine (HQ.out.2.2.1 _ H11.out.1).mono ?_); rintro e w12 ⟨rfl, hb⟩; have H12 := Lib.hid (And.intro (H11.out.1.below hb) (below_call H11.out.2.2 hb)); clear hb c9) | (go_at_call 16; (with_reducible refine (HQ.out.2.2.2.1 _ H12.out.1).mono ?_); rintro e w13 ⟨rfl, hb⟩; have H13 := Lib.hid (And.intro (H12.out.1.below hb) (below_call H12.out.2 hb)); clear hb) | (go_at_call 17; (with_reducible refine (HQ.out.2.2.2.2 _ H13.out.1).mono ?_); rintro e w14 ⟨rfl, hb⟩; have H14 := Lib.hid (below_call H13.out.2 hb); clear hb))
                go_ret
                exact ⟨by first | rfl | (simp; done) | (simp; omega), H14.out⟩
          · rw [decide_eq_false c2] at hme'
            simp only [Bool.true_and, Bool.false_and, Bool.and_true, Bool.and_false, Bool.false_or] at hme' hho
            cases hb with
            | false =>
              simp only [Bool.false_and] at hho
              have HQ := Lib.hid (And.intro hnx' (And.intro hme' (And.intro hho (And.intro hha hga))))
              clear hnx' hme' hho hha hga
              go_upto_region 11 with fail
              refine Ph.at_world ?_; intro W9 hW
              have k9 : hp W9 wr.heap.size = some (.cells #[.int .i64 lo, .int .i64 hi] 30 (0, 0)) := by rw [hW]; simp [hpA, hpS, cset_cells]
              have hB9 : Below wr.heap.size wr W9 := by rw [hW]; exact by (repeat (first | (with_reducible assumption) | (with_reducible exact Below.refl _ _) | (with_reducible refine below_set ?_ (by first | assumption | (simp; done) | (simp; omega) | omega) _) | (with_reducible apply below_alloc) | (with_reducible apply below_drew) | (with_reducible apply below_drewN) | (with_reducible refine below_call ?_ (by assumption))))
              clear hW
              have H9 := Lib.hid (And.intro (HR.out.below hB9) (And.intro k9 (below_call HBW.out hB9)))
              have c9 := hp_cell k9
              clear k9 hB9
              go_wp2_with (first | (go_at_call 20; (with_reducible refine (HQ.out.1 _ H9.out.1).mono ?_); rintro e w10 ⟨rfl, hb⟩; have H10 := Lib.hid (And.intro (H9.out.1.below hb) (And.intro (hp_below hb H9.out.2.1) (below_call H9.out.2.2 hb))); replace c9 := hp_cell (hp_below hb H9.out.2.1); clear hb) | (go_at_call 21; (with_reducible refine (HQ.out.2.1 _ H10.out.1).mono ?_); rintro e w11 ⟨rfl, hb⟩; have H11 := Lib.hid (And.intro (H10.out.1.below hb) (And.intro (hp_below hb H10.out.2.1) (below_call H10.out.2.2 hb))); replace c9 := hp_cell (hp_below hb H10.out.2.1); clear hb) | (go_at_call 22; (with_reducible refine (HQ.out.2.2.1 _ H11.out.1).mono ?_); rintro e w12 ⟨rfl, hb⟩; have H12 := Lib.hid (And.intro (H11.out.1.below hb) (below_call H11.out.2.2 hb)); clear hb c9) | (go_at_call 16; (with_reducible refine (HQ.out.2.2.2.1 _ H12.out.1).mono ?_); rintro e w13 ⟨rfl, hb⟩; have H13 := Lib.hid (And.intro (H12.out.1.below hb) (below_call H12.out.2 hb)); clear hb) | (go_at_call 17; (with_reducible refine (HQ.out.2.2.2.2 _ H13.out.1).mono ?_); rintro e w14 ⟨rfl, hb⟩; have H14 := Lib.hid (below_call H13.out.2 hb); clear hb))
              go_ret
              exact ⟨by first | rfl | (simp; done) | (simp; omega), H13.out.2⟩
            | true =>
              simp only [Bool.true_and] at hho
              by_cases c3 : hi ≤ gp
              · rw [decide_eq_true c3] at hho
                have HQ := Lib.hid (And.intro hnx' (And.intro hme' (And.intro hho (And.intro hha hga))))
                clear hnx' hme' hho hha hga
                go_upto_region 11 with fail
                refine Ph.at_world ?_; intro W9 hW
                have k9 : hp W9 wr.heap.size = some (.cells #[.int .i64 lo, .int .i64 hi] 30 (0, 0)) := by rw [hW]; simp [hpA, hpS, cset_cells]
                have hB9 : Below wr.heap.size wr W9 := by rw [hW]; exact by (repeat (first | (with_reducible assumption) | (with_reducible exact Below.refl _ _) | (with_reducible refine below_set ?_ (by first | assumption | (simp; done) | (simp; omega) | omega) _) | (with_reducible apply below_alloc) | (with_reducible apply below_drew) | (with_reducible apply below_drewN) | (with_reducible refine below_call ?_ (by assumption))))
                clear hW
                have H9 := Lib.hid (And.intro (HR.out.below hB9) (And.intro k9 (below_call HBW.out hB9)))
                have c9 := hp_cell k9
                clear k9 hB9
                go_wp2_with (first | (go_at_call 20; (with_reducible refine (HQ.out.1 _ H9.out.1).mono ?_); rintro e w10 ⟨rfl, hb⟩; have H10 := Lib.hid (And.intro (H9.out.1.below hb) (And.intro (hp_below hb H9.out.2.1) (below_call H9.out.2.2 hb))); replace c9 := hp_cell (hp_below hb H9.out.2.1); clear hb) | (go_at_call 21; (with_reducible refine (HQ.out.2.1 _ H10.out.1).mono ?_); rintro e w11 ⟨rfl, hb⟩; have H11 := Lib.hid (And.intro (H10.out.1.below hb) (And.intro (hp_below hb H10.out.2.1) (below_call H10.out.2.2 hb))); replace c9 := hp_cell (hp_below hb H10.out.2.1); clear hb) | (go_at_call 22; (with_reducible refine (HQ.out.2.2.1 _ H11.out.1).mono ?_); rintro e w12 ⟨rfl, hb⟩; have H12 := Lib.hid (And.intro (H11.out.1.below hb) (below_call H11.out.2.2 hb)); clear hb c9) | (go_at_call 16; (with_reducible refine (HQ.out.2.2.2.1 _ H12.out.1).mono ?_); rintro e w13 ⟨rfl, hb⟩; have H13 := Lib.hid (And.intro (H12.out.1.below hb) (below_call H12.out.2 hb)); clear hb) | (go_at_call 17; (with_reducible refine (HQ.out.2.2.2.2 _ H13.out.1).mono ?_); rintro e w14 ⟨rfl, hb⟩; have H14 := Lib.hid (below_call H13.out.2 hb); clear hb))
                go_ret
                exact ⟨by first | rfl | (simp; done) | (simp; omega), H14.out⟩
              · rw [decide_eq_false c3] at hho
                have HQ := Lib.hid (And.intro hnx' (And.intro hme' (And.intro hho (And.intro hha hga))))
                clear hnx' hme' hho hha hga
                go_upto_region 11 with fail
                refine Ph.at_world ?_; intro W9 hW
                have k9 : hp W9 wr.heap.size = some (.cells #[.int .i64 lo, .int .i64 hi] 30 (0, 0)) := by rw [hW]; simp [hpA, hpS, cset_cells]
                have hB9 : Below wr.heap.size wr W9 := by rw [hW]; exact by (repeat (first | (with_reducible assumption) | (with_reducible exact Below.refl _ _) | (with_reducible refine below_set ?_ (by first | assumption | (simp; done) | (simp; omega) | omega) _) | (with_reducible apply below_alloc) | (with_reducible apply below_drew) | (with_reducible apply below_drewN) | (with_reducible refine below_call ?_ (by assumption))))
                clear hW
                have H9 := Lib.hid (And.intro (HR.out.below hB9) (And.intro k9 (below_call HBW.out hB9)))
                have c9 := hp_cell k9
                clear k9 hB9
                go_wp2_with (first | (go_at_call 20; (with_reducible refine (HQ.out.1 _ H9.out.1).mono ?_); rintro e w10 ⟨rfl, hb⟩; have H10 := Lib.hid (And.intro (H9.out.1.below hb) (And.intro (hp_below hb H9.out.2.1) (below_call H9.out.2.2 hb))); replace c9 := hp_cell (hp_below hb H9.out.2.1); clear hb) | (go_at_call 21; (with_reducible refine (HQ.out.2.1 _ H10.out.1).mono ?_); rintro e w11 ⟨rfl, hb⟩; have H11 := Lib.hid (And.intro (H10.out.1.below hb) (And.intro (hp_below hb H10.out.2.1) (below_call H10.out.2.2 hb))); replace c9 := hp_cell (hp_below hb H10.out.2.1); clear hb) | (go_at_call 22; (with_reducible refine (HQ.out.2.2.1 _ H11.out.1).mono ?_); rintro e w12 ⟨rfl, hb⟩; have H12 := Lib.hid (And.intro (H11.out.1.below hb) (below_call H11.out.2.2 hb)); clear hb c9) | (go_at_call 16; (with_reducible refine (HQ.out.2.2.2.1 _ H12.out.1).mono ?_); rintro e w13 ⟨rfl, hb⟩; have H13 := Lib.hid (And.intro (H12.out.1.below hb) (below_call H12.out.2 hb)); clear hb) | (go_at_call 17; (with_reducible refine (HQ.out.2.2.2.2 _ H13.out.1).mono ?_); rintro e w14 ⟨rfl, hb⟩; have H14 := Lib.hid (below_call H13.out.2 hb); clear hb))
                go_ret
                exact ⟨by first | rfl | (simp; done) | (simp; omega), H14.out⟩
      · have c1' : hi ≤ lo := by omega
        rw [decide_eq_false c1] at hme'
        rw [decide_eq_true c1'] at hho
        simp only [Bool.false_and, Bool.true_or] at hme' hho
        have HQ := Lib.hid (And.intro hnx' (And.intro hme' (And.intro hho (And.intro hha hga))))
        clear hnx' hme' hho hha hga
        go_upto_region 11 with fail
        refine Ph.at_world ?_; intro W9 hW
        have k9 : hp W9 wr.heap.size = some (.cells #[.int .i64 lo, .int .i64 hi] 30 (0, 0)) := by rw [hW]; simp [hpA, hpS, cset_cells]
        have hB9 : Below wr.heap.size wr W9 := by rw [hW]; exact by (repeat (first | (with_reducible assumption) | (with_reducible exact Below.refl _ _) | (with_reducible refine below_set ?_ (by first | assumption | (simp; done) | (simp; omega) | omega) _) | (with_reducible apply below_alloc) | (with_reducible apply below_drew) | (with_reducible apply below_drewN) | (with_reducible refine below_call ?_ (by assumption))))
        clear hW
        have H9 := Lib.hid (And.intro (HR.out.below hB9) (And.intro k9 (below_call HBW.out hB9)))
        have c9 := hp_cell k9
        clear k9 hB9
        go_wp2_with (first | (go_at_call 20; (with_reducible refine (HQ.out.1 _ H9.out.1).mono ?_); rintro e w10 ⟨rfl, hb⟩; have H10 := Lib.hid (And.intro (H9.out.1.below hb) (And.intro (hp_below hb H9.out.2.1) (below_call H9.out.2.2 hb))); replace c9 := hp_cell (hp_below hb H9.out.2.1); clear hb) | (go_at_call 21; (with_reducible refine (HQ.out.2.1 _ H10.out.1).mono ?_); rintro e w11 ⟨rfl, hb⟩; have H11 := Lib.hid (And.intro (H10.out.1.below hb) (And.intro (hp_below hb H10.out.2.1) (below_call H10.out.2.2 hb))); replace c9 := hp_cell (hp_below hb H10.out.2.1); clear hb) | (go_at_call 22; (with_reducible refine (HQ.out.2.2.1 _ H11.out.1).mono ?_); rintro e w12 ⟨rfl, hb⟩; have H12 := Lib.hid (And.intro (H11.out.1.below hb) (below_call H11.out.2.2 hb)); clear hb c9) | (go_at_call 16; (with_reducible refine (HQ.out.2.2.2.1 _ H12.out.1).mono ?_); rintro e w13 ⟨rfl, hb⟩; have H13 := Lib.hid (And.intro (H12.out.1.below hb) (below_call H12.out.2 hb)); clear hb) | (go_at_call 17; (with_reducible refine (HQ.out.2.2.2.2 _ H13.out.1).mono ?_); rintro e w14 ⟨rfl, hb⟩; have H14 := Lib.hid (below_call H13.out.2 hb); clear hb))
        go_ret
        exact ⟨by first | rfl | (simp; done) | (simp; omega), H12.out.2⟩
end Go.Proofs.Ytnofclmnjhkhiaa
