/- CoverNumbers: the walk. -/
import Derived.Test.YtnofclmnjhkhiaaCl
import Derived.WalkKit
import Derived.WalkLawsBesides
import Derived.WalkSpells
import Derived.Below
import Derived.Deep.RegionHeld3
import Derived.Deep.QuietTactic
import Derived.BigQuiet
import Derived.Deep.DeepCutAuto
import Derived.Deep.DeepMust
import Derived.KernelRfl
import Derived.Lib.Hide
import Derived.Outline
import Derived.RegionTactic
import Derived.StillTailTactics
namespace Go.Proofs.Ytnofclmnjhkhiaa
open Go.RowKit Go.Cl Go.Cv
set_option maxRecDepth 100000
set_option linter.unusedVariables false
set_option linter.unusedSimpArgs false

theorem step_in {L : List Sp} (hw : Wf L) (c : Bool) (lo hi X x : Int) (ib : Bool) (h : ib = true ↔ inL L x) : (if (decide (lo ≤ x) && decide (x < hi)) = true then !c else ib) = true ↔ inL (stepL L (c, lo, hi, X)) x := by
  have hh : (decide (lo ≤ x) && decide (x < hi)) = true ↔ hasS (lo, hi) x := by unfold hasS; simp
  unfold stepL
  by_cases hs : (decide (lo ≤ x) && decide (x < hi)) = true
  · rw [if_pos hs]
    have hs2 := hh.1 hs
    cases c with
    | true =>
      rw [if_pos rfl, (cutC_law hw _).2.1]
      simp [hs2]
    | false =>
      rw [if_neg (by simp), (addL_law hw _).2.1]
      simp [hs2]
  · rw [if_neg hs]
    have hs2 : ¬ hasS (lo, hi) x := fun e => hs (hh.2 e)
    cases c with
    | true => rw [if_pos rfl, (cutC_law hw _).2.1]; simp [hs2, h]
    | false => rw [if_neg (by simp), (addL_law hw _).2.1]; simp [hs2, h]
set_option maxHeartbeats 8000000 in
theorem c_numbers (w : World) (v : Value) (l : List Op4) (hv : OpsR w v l) (hn : l.length ≤ 4398046511103) (x : Int) :
    Calls Try.prog 3 #[v, .int .i64 x] w fun e w' => e = .returned (.bool true) ∧ Below w.heap.size w w' := by
  have HV := Lib.hid hv
  obtain ⟨p, cp, rfl, hx0⟩ := hv
  obtain ⟨n, hnn⟩ : ∃ n, l.length = n := ⟨_, rfl⟩
  rw [hnn] at HV hn ⊢
  have HN := Lib.hid (And.intro hn hnn)
  clear hn hnn hx0
  go_enter Try.func3, Try.ntmps3
  go_upto_region 4 with (first | (go_at_call 10; (with_reducible refine (c_fixed _).mono ?_); rintro e w1 ⟨rfl, hb1⟩; have HB1 := Lib.hid hb1; clear hb1) | (go_at_call 11; (with_reducible refine (c_new0 zc 1 w1).mono ?_); rintro e w2 ⟨b, rfl, hb, hcv, hch⟩; have H2 := Lib.hid (And.intro hcv ((Mv.of_below (S := [1]) (col := zc) HB1.out).trans hch.mv)); clear hb hcv hch))
  go_wp2
  go_loopw [6, 7] (fun z t wr => ∃ (k : Nat) (ib : Bool) (L : List Sp) (c : Nat → Nat), z = .bool ib ∧ t = .int .i64 k ∧ k ≤ n ∧ CvO c 1 wr b L ∧ Wf L ∧ L.length ≤ k ∧ (ib = true ↔ inL L x) ∧ Mv [1] zc w c wr) (fun _ t _ => n - (intOf t).toNat)
  case atStart => exact ⟨0, false, [], _, rfl, rfl, Nat.zero_le _, H2.out.1, Wf.nil, Nat.le_refl _, ⟨fun h => (by cases h), fun h => absurd h (inL_nil x)⟩, H2.out.2⟩
  case round =>
    obtain ⟨k, ib, L, c, rfl, rfl, hk, hcv, hw, hl, hin, hm⟩ := hrel
    have hbw : Below w.heap.size w wr := hm.toBelow (fun k _ => by simp [zc])
    have HI := Lib.hid (And.intro hk (And.intro hcv (And.intro hw (And.intro hl (And.intro hin hm)))))
    clear hk hcv hw hl hin hm
    by_cases hlt : k < n
    · have b1 : (k : Int) < (n : Int) := by omega
      have w1' : IntKind.i64.wrap ((k : Int) + 1) = (k : Int) + 1 := IntWalk.i64_in _ (by have := HN.out; omega)
      obtain ⟨o, ho⟩ := get_op (l := l) (k := k) (by rw [HN.out.2]; exact hlt)
      obtain ⟨g, f, rfl, y1, y2, y3, y4⟩ := (HV.out.below hbw).at ho
      obtain ⟨ct, lo, hi, X⟩ := o
      go_upto_region 9 with fail
      refine Ph.at_world ?_; intro W9 hW
      have k9 : hp W9 wr.heap.size = some (.cells #[.bool ct, .int .i64 lo, .int .i64 hi, .int .i64 X] 27 (0, 0)) := by rw [hW]; simp [hpA, hpS, cset_cells]
      have hB9 : Below wr.heap.size wr W9 := by rw [hW]; exact by (repeat (first | (with_reducible assumption) | (with_reducible exact Below.refl _ _) | (with_reducible refine below_set ?_ (by first | assumption | (simp; done) | (simp; omega) | omega) _) | (with_reducible apply below_alloc) | (with_reducible apply below_drew) | (with_reducible apply below_drewN) | (with_reducible refine below_call ?_ (by assumption))))
      clear hW y1 y2 y3 y4 ho hbw
      obtain ⟨x8, hx8⟩ : ∃ x8, wr.heap.size = x8 := ⟨_, rfl⟩
      have hc2 : CvO (paint c wr 2) 1 W9 b L := HI.out.2.1.kept (Mv.new (S := []) hB9 2) (by simp)
      have hm2 : Mv [1] zc w (paint c wr 2) W9 := HI.out.2.2.2.2.2.trans (Mv.new (S := [1]) hB9 2)
      have hx2 : paint c wr 2 x8 = 2 := by rw [← hx8]; exact paint_new (Nat.le_refl _)
      rw [hx8] at k9 ⊢
      have c9 := hp_cell k9
      have HK := Lib.hid (And.intro k9 (And.intro hm2 (And.intro hx2 hx8)))
      have HL := Lib.hid (And.intro (step_in HI.out.2.2.1 ct lo hi X x ib HI.out.2.2.2.2.1) (stepL_law HI.out.2.2.1 (ct, lo, hi, X)))
      have HOO := Lib.hid (fun w => c_oof ct lo hi X w)
      clear hm2 hx2 hx8 k9 hB9
      have hlb : L.length ≤ 4398046511104 := by have := HI.out.2.2.2.1; have := HI.out.1; have := HN.out; omega
      cases ct with
      | true =>
        have hst : stepL L (true, lo, hi, X) = cutC L (lo, hi) := by unfold stepL; rw [if_pos rfl]
        rw [hst] at HL
        have HST := Lib.hid (And.intro hc2 hlb)
        clear hc2 hlb hst
        go_upto_region 12 with (first | (go_at_call 13; (with_reducible refine (HOO.out _).mono ?_); rintro e w10 ⟨rfl, hb⟩; have HB10 := Lib.hid hb; clear hb) | (go_at_call 12; refine (c_cutc (paint c wr 2) 1 w10 b L (HST.out.1.below HB10.out) HI.out.2.2.1 HST.out.2 lo hi).mono ?_; rintro e w11 ⟨rfl, hcv, hch⟩; have HX := Lib.hid (And.intro hcv (And.intro hch (hp_ch (hp_below HB10.out HK.out.1) hch (by rw [HK.out.2.2.1]; decide)))); clear hcv hch c9))
        obtain ⟨L', hL'⟩ : ∃ L', cutC L (lo, hi) = L' := ⟨_, rfl⟩
        rw [hL'] at HX HL
        clear hL'
        have cb := hp_cell HX.out.2.2
        have hlb' : L'.length ≤ 4398046511104 := by have := HL.out.2.2; have := HI.out.2.2.2.1; have := HI.out.1; have := HN.out; omega
        have HLB := Lib.hid hlb'; clear hlb'
        cases hhs : (decide (lo ≤ x) && decide (x < hi)) with
        | true =>
          have hhb : hasB L' x = (!true) := by
            have h1 := HL.out.1
            rw [hhs, if_pos rfl] at h1
            have h2 := hasB_iff HL.out.2.1 x
            cases e : hasB L' x with
            | true => rw [e] at h2; exact (h1.2 (h2.1 rfl)).symm
            | false => rw [e] at h2; rfl
          have HHS := Lib.hid (fun w => by have := c_has lo hi x w; rw [hhs] at this; exact this : ∀ w, Calls Try.prog 15 #[.agg #[.int .i64 lo, .int .i64 hi], .int .i64 x] w fun e w' => e = .returned (.bool true) ∧ Below w.heap.size w w')
          have HHB := Lib.hid hhb
          have HNB := Lib.hid (show ((!true) : Bool) = true ↔ inL L' x from by have e := hasB_iff HL.out.2.1 x; rw [hhb] at e; exact e)
          clear hhs hhb
          have hgc : ∀ w, CvR w b L' → Calls Try.prog 17 #[.pointer (some ⟨b, 0, none⟩), .int .i64 x] w fun e w' => e = .returned (.int .i64 x) ∧ Below w.heap.size w w' := fun w hv => by have := c_gap w b L' hv HL.out.2.1 HLB.out x; rw [(gapL_iff (L := L') x).2 HHB.out] at this; exact this
          have hhc : ∀ w, CvR w b L' → Calls Try.prog 16 #[.pointer (some ⟨b, 0, none⟩), .int .i64 x] w fun e w' => e = .returned (.bool false) ∧ Below w.heap.size w w' := fun w hv => by have := c_chas w b L' hv HL.out.2.1 HLB.out x; rw [HHB.out] at this; exact this
          have HQ := Lib.hid (And.intro hgc hhc)
          clear hgc hhc
          go_wp2_with (first | (go_at_call 13; (with_reducible refine (HOO.out _).mono ?_); rintro e w12 ⟨rfl, hb⟩; have HB12 := Lib.hid hb; have cb2 := hp_cell (hp_below hb HX.out.2.2); clear hb cb) | (go_at_call 15; (with_reducible refine (HHS.out _).mono ?_); rintro e w13 ⟨rfl, hb⟩; have HB13 := Lib.hid (below_call HB12.out hb); have cb3 := hp_cell (hp_below (below_call HB12.out hb) HX.out.2.2); clear hb cb2) | (go_at_call 16; (with_reducible refine (HQ.out.2 _ (HX.out.1.rd.below HB13.out)).mono ?_); rintro e w14 ⟨rfl, hb⟩; have HB14 := Lib.hid (below_call HB13.out hb); clear hb) | (go_at_call 17; (with_reducible refine (HQ.out.1 _ (HX.out.1.rd.below HB14.out)).mono ?_); rintro e w15 ⟨rfl, hb⟩; have HB15 := Lib.hid (below_call HB14.out hb); clear hb))
          go_roundw
          case rel => exact ⟨k + 1, _, L', _, rfl, by go_num, by omega, HX.out.1.below HB15.out, HL.out.2.1, by have := HL.out.2.2; have := HI.out.2.2.2.1; omega, (by have e := HNB.out; simpa using e), ((HK.out.2.1.after_below HB10.out).trans HX.out.2.1.mv).after_below HB15.out⟩
          case measure => simp [intOf]; omega
        | false =>
          cases ib with
          | true =>
            have hhb : hasB L' x = true := by
              have h1 := HL.out.1
              rw [hhs, if_neg (by simp)] at h1
              exact (hasB_iff HL.out.2.1 x).2 (h1.1 rfl)
            have HHS := Lib.hid (fun w => by have := c_has lo hi x w; rw [hhs] at this; exact this : ∀ w, Calls Try.prog 15 #[.agg #[.int .i64 lo, .int .i64 hi], .int .i64 x] w fun e w' => e = .returned (.bool false) ∧ Below w.heap.size w w')
            have HHB := Lib.hid hhb
            have HNB := Lib.hid (show (true : Bool) = true ↔ inL L' x from by have e := hasB_iff HL.out.2.1 x; rw [hhb] at e; exact e)
            clear hhs hhb
            have hg := gapL_iff (L := L') x
            have hgn : ¬ gapL L' x = x := fun e => by have := hg.1 e; rw [HHB.out] at this; cases this
            obtain ⟨gp, hgp⟩ : ∃ gp, gapL L' x = gp := ⟨_, rfl⟩
            rw [hgp] at hgn
            have hgc : ∀ w, CvR w b L' → Calls Try.prog 17 #[.pointer (some ⟨b, 0, none⟩), .int .i64 x] w fun e w' => e = .returned (.int .i64 gp) ∧ Below w.heap.size w w' := fun w hv => by have := c_gap w b L' hv HL.out.2.1 HLB.out x; rw [hgp] at this; exact this
            have e1 : (gp == x) = false := by simpa using hgn
            have e2 : decide (gp = x) = false := by simpa using hgn
            clear hg hgn hgp
            have hhc : ∀ w, CvR w b L' → Calls Try.prog 16 #[.pointer (some ⟨b, 0, none⟩), .int .i64 x] w fun e w' => e = .returned (.bool true) ∧ Below w.heap.size w w' := fun w hv => by have := c_chas w b L' hv HL.out.2.1 HLB.out x; rw [HHB.out] at this; exact this
            have HQ := Lib.hid (And.intro hgc hhc)
            clear hgc hhc
            go_wp2_with (first | (go_at_call 13; (with_reducible refine (HOO.out _).mono ?_); rintro e w12 ⟨rfl, hb⟩; have HB12 := Lib.hid hb; have cb2 := hp_cell (hp_below hb HX.out.2.2); clear hb cb) | (go_at_call 15; (with_reducible refine (HHS.out _).mono ?_); rintro e w13 ⟨rfl, hb⟩; have HB13 := Lib.hid (below_call HB12.out hb); have cb3 := hp_cell (hp_below (below_call HB12.out hb) HX.out.2.2); clear hb cb2) | (go_at_call 16; (with_reducible refine (HQ.out.2 _ (HX.out.1.rd.below HB13.out)).mono ?_); rintro e w14 ⟨rfl, hb⟩; have HB14 := Lib.hid (below_call HB13.out hb); clear hb) | (go_at_call 17; (with_reducible refine (HQ.out.1 _ (HX.out.1.rd.below HB14.out)).mono ?_); rintro e w15 ⟨rfl, hb⟩; have HB15 := Lib.hid (below_call HB14.out hb); clear hb))
            go_roundw
            case rel => exact ⟨k + 1, _, L', _, rfl, by go_num, by omega, HX.out.1.below HB15.out, HL.out.2.1, by have := HL.out.2.2; have := HI.out.2.2.2.1; omega, (by have e := HNB.out; simpa using e), ((HK.out.2.1.after_below HB10.out).trans HX.out.2.1.mv).after_below HB15.out⟩
            case measure => simp [intOf]; omega
          | false =>
            have hhb : hasB L' x = false := by
              have h1 := HL.out.1
              rw [hhs, if_neg (by simp)] at h1
              cases e : hasB L' x with
              | false => rfl
              | true => have := h1.2 ((hasB_iff HL.out.2.1 x).1 e); cases this
            have HHS := Lib.hid (fun w => by have := c_has lo hi x w; rw [hhs] at this; exact this : ∀ w, Calls Try.prog 15 #[.agg #[.int .i64 lo, .int .i64 hi], .int .i64 x] w fun e w' => e = .returned (.bool false) ∧ Below w.heap.size w w')
            have HHB := Lib.hid hhb
            have HNB := Lib.hid (show (false : Bool) = true ↔ inL L' x from by have e := hasB_iff HL.out.2.1 x; rw [hhb] at e; exact e)
            clear hhs hhb
            have hgc : ∀ w, CvR w b L' → Calls Try.prog 17 #[.pointer (some ⟨b, 0, none⟩), .int .i64 x] w fun e w' => e = .returned (.int .i64 x) ∧ Below w.heap.size w w' := fun w hv => by have := c_gap w b L' hv HL.out.2.1 HLB.out x; rw [(gapL_iff (L := L') x).2 HHB.out] at this; exact this
            have hhc : ∀ w, CvR w b L' → Calls Try.prog 16 #[.pointer (some ⟨b, 0, none⟩), .int .i64 x] w fun e w' => e = .returned (.bool false) ∧ Below w.heap.size w w' := fun w hv => by have := c_chas w b L' hv HL.out.2.1 HLB.out x; rw [HHB.out] at this; exact this
            have HQ := Lib.hid (And.intro hgc hhc)
            clear hgc hhc
            go_wp2_with (first | (go_at_call 13; (with_reducible refine (HOO.out _).mono ?_); rintro e w12 ⟨rfl, hb⟩; have HB12 := Lib.hid hb; have cb2 := hp_cell (hp_below hb HX.out.2.2); clear hb cb) | (go_at_call 15; (with_reducible refine (HHS.out _).mono ?_); rintro e w13 ⟨rfl, hb⟩; have HB13 := Lib.hid (below_call HB12.out hb); have cb3 := hp_cell (hp_below (below_call HB12.out hb) HX.out.2.2); clear hb cb2) | (go_at_call 16; (with_reducible refine (HQ.out.2 _ (HX.out.1.rd.below HB13.out)).mono ?_); rintro e w14 ⟨rfl, hb⟩; have HB14 := Lib.hid (below_call HB13.out hb); clear hb) | (go_at_call 17; (with_reducible refine (HQ.out.1 _ (HX.out.1.rd.below HB14.out)).mono ?_); rintro e w15 ⟨rfl, hb⟩; have HB15 := Lib.hid (below_call HB14.out hb); clear hb))
            go_roundw
            case rel => exact ⟨k + 1, _, L', _, rfl, by go_num, by omega, HX.out.1.below HB15.out, HL.out.2.1, by have := HL.out.2.2; have := HI.out.2.2.2.1; omega, (by have e := HNB.out; simpa using e), ((HK.out.2.1.after_below HB10.out).trans HX.out.2.1.mv).after_below HB15.out⟩
            case measure => simp [intOf]; omega
      | false =>
        have hst : stepL L (false, lo, hi, X) = addL L (lo, hi) := by unfold stepL; rw [if_neg (by simp)]
        rw [hst] at HL
        have HST := Lib.hid (And.intro hc2 hlb)
        clear hc2 hlb hst
        go_upto_region 12 with (first | (go_at_call 13; (with_reducible refine (HOO.out _).mono ?_); rintro e w10 ⟨rfl, hb⟩; have HB10 := Lib.hid hb; clear hb) | (go_at_call 14; refine (c_add (paint c wr 2) 1 w10 b L (HST.out.1.below HB10.out) HI.out.2.2.1 HST.out.2 lo hi).mono ?_; rintro e w11 ⟨rfl, hcv, hch⟩; have HX := Lib.hid (And.intro hcv (And.intro hch (hp_ch (hp_below HB10.out HK.out.1) hch (by rw [HK.out.2.2.1]; decide)))); clear hcv hch c9))
        obtain ⟨L', hL'⟩ : ∃ L', addL L (lo, hi) = L' := ⟨_, rfl⟩
        rw [hL'] at HX HL
        clear hL'
        have cb := hp_cell HX.out.2.2
        have hlb' : L'.length ≤ 4398046511104 := by have := HL.out.2.2; have := HI.out.2.2.2.1; have := HI.out.1; have := HN.out; omega
        have HLB := Lib.hid hlb'; clear hlb'
        cases hhs : (decide (lo ≤ x) && decide (x < hi)) with
        | true =>
          have hhb : hasB L' x = (!false) := by
            have h1 := HL.out.1
            rw [hhs, if_pos rfl] at h1
            have h2 := hasB_iff HL.out.2.1 x
            cases e : hasB L' x with
            | true => rw [e] at h2; exact (h1.2 (h2.1 rfl)).symm
            | false => rw [e] at h2; exact absurd (h2.2 (h1.1 rfl)) (by decide)
          have HHS := Lib.hid (fun w => by have := c_has lo hi x w; rw [hhs] at this; exact this : ∀ w, Calls Try.prog 15 #[.agg #[.int .i64 lo, .int .i64 hi], .int .i64 x] w fun e w' => e = .returned (.bool true) ∧ Below w.heap.size w w')
          have HHB := Lib.hid hhb
          have HNB := Lib.hid (show ((!false) : Bool) = true ↔ inL L' x from by have e := hasB_iff HL.out.2.1 x; rw [hhb] at e; exact e)
          clear hhs hhb
          have hg := gapL_iff (L := L') x
          have hgn : ¬ gapL L' x = x := fun e => by have := hg.1 e; rw [HHB.out] at this; cases this
          obtain ⟨gp, hgp⟩ : ∃ gp, gapL L' x = gp := ⟨_, rfl⟩
          rw [hgp] at hgn
          have hgc : ∀ w, CvR w b L' → Calls Try.prog 17 #[.pointer (some ⟨b, 0, none⟩), .int .i64 x] w fun e w' => e = .returned (.int .i64 gp) ∧ Below w.heap.size w w' := fun w hv => by have := c_gap w b L' hv HL.out.2.1 HLB.out x; rw [hgp] at this; exact this
          have e1 : (gp == x) = false := by simpa using hgn
          have e2 : decide (gp = x) = false := by simpa using hgn
          clear hg hgn hgp
          have hhc : ∀ w, CvR w b L' → Calls Try.prog 16 #[.pointer (some ⟨b, 0, none⟩), .int .i64 x] w fun e w' => e = .returned (.bool true) ∧ Below w.heap.size w w' := fun w hv => by have := c_chas w b L' hv HL.out.2.1 HLB.out x; rw [HHB.out] at this; exact this
          have HQ := Lib.hid (And.intro hgc hhc)
          clear hgc hhc
          go_wp2_with (first | (go_at_call 13; (with_reducible refine (HOO.out _).mono ?_); rintro e w12 ⟨rfl, hb⟩; have HB12 := Lib.hid hb; have cb2 := hp_cell (hp_below hb HX.out.2.2); clear hb cb) | (go_at_call 15; (with_reducible refine (HHS.out _).mono ?_); rintro e w13 ⟨rfl, hb⟩; have HB13 := Lib.hid (below_call HB12.out hb); have cb3 := hp_cell (hp_below (below_call HB12.out hb) HX.out.2.2); clear hb cb2) | (go_at_call 16; (with_reducible refine (HQ.out.2 _ (HX.out.1.rd.below HB13.out)).mono ?_); rintro e w14 ⟨rfl, hb⟩; have HB14 := Lib.hid (below_call HB13.out hb); clear hb) | (go_at_call 17; (with_reducible refine (HQ.out.1 _ (HX.out.1.rd.below HB14.out)).mono ?_); rintro e w15 ⟨rfl, hb⟩; have HB15 := Lib.hid (below_call HB14.out hb); clear hb))
          go_roundw
          case rel => exact ⟨k + 1, _, L', _, rfl, by go_num, by omega, HX.out.1.below HB15.out, HL.out.2.1, by have := HL.out.2.2; have := HI.out.2.2.2.1; omega, (by have e := HNB.out; simpa using e), ((HK.out.2.1.after_below HB10.out).trans HX.out.2.1.mv).after_below HB15.out⟩
          case measure => simp [intOf]; omega
        | false =>
          cases ib with
          | true =>
            have hhb : hasB L' x = true := by
              have h1 := HL.out.1
              rw [hhs, if_neg (by simp)] at h1
              exact (hasB_iff HL.out.2.1 x).2 (h1.1 rfl)
            have HHS := Lib.hid (fun w => by have := c_has lo hi x w; rw [hhs] at this; exact this : ∀ w, Calls Try.prog 15 #[.agg #[.int .i64 lo, .int .i64 hi], .int .i64 x] w fun e w' => e = .returned (.bool false) ∧ Below w.heap.size w w')
            have HHB := Lib.hid hhb
            have HNB := Lib.hid (show (true : Bool) = true ↔ inL L' x from by have e := hasB_iff HL.out.2.1 x; rw [hhb] at e; exact e)
            clear hhs hhb
            have hg := gapL_iff (L := L') x
            have hgn : ¬ gapL L' x = x := fun e => by have := hg.1 e; rw [HHB.out] at this; cases this
            obtain ⟨gp, hgp⟩ : ∃ gp, gapL L' x = gp := ⟨_, rfl⟩
            rw [hgp] at hgn
            have hgc : ∀ w, CvR w b L' → Calls Try.prog 17 #[.pointer (some ⟨b, 0, none⟩), .int .i64 x] w fun e w' => e = .returned (.int .i64 gp) ∧ Below w.heap.size w w' := fun w hv => by have := c_gap w b L' hv HL.out.2.1 HLB.out x; rw [hgp] at this; exact this
            have e1 : (gp == x) = false := by simpa using hgn
            have e2 : decide (gp = x) = false := by simpa using hgn
            clear hg hgn hgp
            have hhc : ∀ w, CvR w b L' → Calls Try.prog 16 #[.pointer (some ⟨b, 0, none⟩), .int .i64 x] w fun e w' => e = .returned (.bool true) ∧ Below w.heap.size w w' := fun w hv => by have := c_chas w b L' hv HL.out.2.1 HLB.out x; rw [HHB.out] at this; exact this
            have HQ := Lib.hid (And.intro hgc hhc)
            clear hgc hhc
            go_wp2_with (first | (go_at_call 13; (with_reducible refine (HOO.out _).mono ?_); rintro e w12 ⟨rfl, hb⟩; have HB12 := Lib.hid hb; have cb2 := hp_cell (hp_below hb HX.out.2.2); clear hb cb) | (go_at_call 15; (with_reducible refine (HHS.out _).mono ?_); rintro e w13 ⟨rfl, hb⟩; have HB13 := Lib.hid (below_call HB12.out hb); have cb3 := hp_cell (hp_below (below_call HB12.out hb) HX.out.2.2); clear hb cb2) | (go_at_call 16; (with_reducible refine (HQ.out.2 _ (HX.out.1.rd.below HB13.out)).mono ?_); rintro e w14 ⟨rfl, hb⟩; have HB14 := Lib.hid (below_call HB13.out hb); clear hb) | (go_at_call 17; (with_reducible refine (HQ.out.1 _ (HX.out.1.rd.below HB14.out)).mono ?_); rintro e w15 ⟨rfl, hb⟩; have HB15 := Lib.hid (below_call HB14.out hb); clear hb))
            go_roundw
            case rel => exact ⟨k + 1, _, L', _, rfl, by go_num, by omega, HX.out.1.below HB15.out, HL.out.2.1, by have := HL.out.2.2; have := HI.out.2.2.2.1; omega, (by have e := HNB.out; simpa using e), ((HK.out.2.1.after_below HB10.out).trans HX.out.2.1.mv).after_below HB15.out⟩
            case measure => simp [intOf]; omega
          | false =>
            have hhb : hasB L' x = false := by
              have h1 := HL.out.1
              rw [hhs, if_neg (by simp)] at h1
              cases e : hasB L' x with
              | false => rfl
              | true => have := h1.2 ((hasB_iff HL.out.2.1 x).1 e); cases this
            have HHS := Lib.hid (fun w => by have := c_has lo hi x w; rw [hhs] at this; exact this : ∀ w, Calls Try.prog 15 #[.agg #[.int .i64 lo, .int .i64 hi], .int .i64 x] w fun e w' => e = .returned (.bool false) ∧ Below w.heap.size w w')
            have HHB := Lib.hid hhb
            have HNB := Lib.hid (show (false : Bool) = true ↔ inL L' x from by have e := hasB_iff HL.out.2.1 x; rw [hhb] at e; exact e)
            clear hhs hhb
            have hgc : ∀ w, CvR w b L' → Calls Try.prog 17 #[.pointer (some ⟨b, 0, none⟩), .int .i64 x] w fun e w' => e = .returned (.int .i64 x) ∧ Below w.heap.size w w' := fun w hv => by have := c_gap w b L' hv HL.out.2.1 HLB.out x; rw [(gapL_iff (L := L') x).2 HHB.out] at this; exact this
            have hhc : ∀ w, CvR w b L' → Calls Try.prog 16 #[.pointer (some ⟨b, 0, none⟩), .int .i64 x] w fun e w' => e = .returned (.bool false) ∧ Below w.heap.size w w' := fun w hv => by have := c_chas w b L' hv HL.out.2.1 HLB.out x; rw [HHB.out] at this; exact this
            have HQ := Lib.hid (And.intro hgc hhc)
            clear hgc hhc
            go_wp2_with (first | (go_at_call 13; (with_reducible refine (HOO.out _).mono ?_); rintro e w12 ⟨rfl, hb⟩; have HB12 := Lib.hid hb; have cb2 := hp_cell (hp_below hb HX.out.2.2); clear hb cb) | (go_at_call 15; (with_reducible refine (HHS.out _).mono ?_); rintro e w13 ⟨rfl, hb⟩; have HB13 := Lib.hid (below_call HB12.out hb); have cb3 := hp_cell (hp_below (below_call HB12.out hb) HX.out.2.2); clear hb cb2) | (go_at_call 16; (with_reducible refine (HQ.out.2 _ (HX.out.1.rd.below HB13.out)).mono ?_); rintro e w14 ⟨rfl, hb⟩; have HB14 := Lib.hid (below_call HB13.out hb); clear hb) | (go_at_call 17; (with_reducible refine (HQ.out.1 _ (HX.out.1.rd.below HB14.out)).mono ?_); rintro e w15 ⟨rfl, hb⟩; have HB15 := Lib.hid (below_call HB14.out hb); clear hb))
            go_roundw
            case rel => exact ⟨k + 1, _, L', _, rfl, by go_num, by omega, HX.out.1.below HB15.out, HL.out.2.1, by have := HL.out.2.2; have := HI.out.2.2.2.1; omega, (by have e := HNB.out; simpa using e), ((HK.out.2.1.after_below HB10.out).trans HX.out.2.1.mv).after_below HB15.out⟩
            case measure => simp [intOf]; omega
    · have b1 : ¬ ((k : Int) < (n : Int)) := by omega
      have HBW := Lib.hid hbw; clear hbw
      go_wp2
      go_ret
      exact ⟨rfl, HBW.out⟩
end Go.Proofs.Ytnofclmnjhkhiaa
