/- Meet: the walk. -/
import Derived.Test.YtnofclmnjhkhiaaCx1
import Derived.RangeFuncNested
import Derived.RangeFuncBound
import Derived.RangeFuncCalls
import Derived.RangeFuncLeaves
import Derived.Shelf.Abstract
import Derived.Shelf.RegionOpen
import Derived.OwnWalkIn
import Derived.TacticsInMore
import Derived.LoopNIn
import Derived.LoopIn
import Derived.Sort.CutIn
import Derived.Maps.AppendAt
import Derived.WalkKit
import Derived.WalkLawsBesides
import Derived.WalkSpells
import Derived.Below
import Derived.Deep.RegionHeld3
import Derived.Deep.QuietTactic
import Derived.BigQuiet
import Derived.Deep.DeepCutAuto
import Derived.Deep.DeepMust
import Derived.KernelRfl
import Derived.Lib.Hide
import Derived.Outline
import Derived.RegionTactic
import Derived.StillTailTactics
namespace Go.Proofs.Ytnofclmnjhkhiaa
open Go.RowKit Go.Cl Go.Cv
set_option maxRecDepth 100000
set_option linter.unusedVariables false
set_option linter.unusedSimpArgs false
open Go.Shelf
attribute [local go_sem] Oper.semAt_some

attribute [local go_sem] max2_int min2_int max_two min_two
set_option maxHeartbeats 16000000 in
/-- Meet: a cover of its own. -/
theorem c_meetC (w : World) (pc po : Option Addr) (A Bl : List Sp) (hA : CvN w pc A) (hB : CvF w po Bl) (hwB : Wf Bl) (hnA : A.length ≤ 4398046511103) (hnB : Bl.length ≤ 4398046511103) :
    Calls Try.prog 28 #[.pointer pc, .pointer po] w fun e w' => ∃ b, e = .returned (.pointer (some ⟨b, 0, none⟩)) ∧ CvO (paint zc w 1) 1 w' b (MP Bl A) ∧ Below w.heap.size w w' := by
  obtain ⟨pB, cB, hrB, hcB, hsB⟩ := c_spansF hB
  obtain ⟨nB, hnB'⟩ : ∃ nB, Bl.length = nB := ⟨_, rfl⟩
  rw [hnB'] at hrB hcB hsB hnB
  have HA := Lib.hid (And.intro hA hnA)
  have HBl := Lib.hid (And.intro hB.n (And.intro hwB (And.intro hnB hnB')))
  have HS := Lib.hid (And.intro hrB (And.intro hcB hsB))
  clear hA hB hwB hnA hnB hrB hcB hsB hnB'
  refine (callsIn_wide (n := 6)).1 ?_
  refine callsIn_of_wp_marks Try.func28 rfl trivial ?_ rfl
  simp only [Try.ntmps28, List.size_toArray, List.length_cons, List.length_nil, Nat.reduceAdd, Nat.reduceSub, Array.replicate_succ, Array.replicate_zero, List.push_toArray, List.append_toArray, List.nil_append, List.cons_append]
  refine wpIn_wide.2 ?_
  go_upto_region 2 with (go_at_call 11; (with_reducible refine (c_new0 (paint zc w 5) 1 _).mono ?_); rintro e w2 ⟨out, rfl, hb, hcv, hch⟩; have H2 := Lib.hid (And.intro hcv (And.intro hch hb)); clear hb hcv hch)
  refine Ph.at_world ?_; intro W3 hW
  obtain ⟨x5, hx5⟩ : ∃ x5, w2.heap.size = x5 := ⟨_, rfl⟩
  obtain ⟨x3, hx3⟩ : ∃ x3, w.heap.size = x3 := ⟨_, rfl⟩
  have k5 : Boxed W3 x5 24 (.pointer (some ⟨out, 0, none⟩)) := by unfold Boxed; show hp W3 x5 = _; rw [hW, ← hx5]; simp [hpA, hpS, cset_cells]
  have hB3 : Below w2.heap.size w2 W3 := by rw [hW]; exact by (repeat (first | (with_reducible assumption) | (with_reducible exact Below.refl _ _) | (with_reducible refine below_set ?_ (by first | assumption | (simp; done) | (simp; omega) | omega) _) | (with_reducible apply below_alloc) | (with_reducible apply below_drew) | (with_reducible apply below_drewN) | (with_reducible refine below_call ?_ (by assumption))))
  have hBa : Below w.heap.size w (w.alloc (.cells #[.pointer po] 24)) := below_alloc (Below.refl _ _) _
  have m2 : Mv [1] zc w _ w2 := (Mv.new (S := [1]) hBa 5).trans (H2.out.2.1.mv' (by simp))
  have k3 : Boxed w2 x3 24 (.pointer po) := by rw [← hx3]; exact hp_ch (hp_alloc_new w _) H2.out.2.1 (by rw [paint_new (Nat.le_refl _)]; decide)
  have hw3 : Below w.heap.size w W3 := below_call (m2.toBelow (fun k _ => by simp [zc])) hB3
  have H3 : Hid ((∃ v, Boxed W3 out 60 v ∧ W3.ownsRow w.heap.size 30 2 v ([] : List Sp).length (([] : List Sp).flatMap encS) ∧ w.heap.size ≤ out) ∧ Boxed W3 x3 24 (.pointer po) ∧ Boxed W3 x5 24 (.pointer (some ⟨out, 0, none⟩)) ∧ Below w.heap.size w W3) := Lib.hid (by
    obtain ⟨v, h1, h2⟩ := H2.out.1.ex
    exact ⟨⟨v, box_below h1.hp hB3, row_keep (row_base h2 m2 (by decide)) (fun g x _ hg => hp_below hB3 hg), mv_base m2 h1.col (by decide)⟩, box_below k3 hB3, k5, hw3⟩)
  rw [hx5, hx3]
  have HX3 := Lib.hid hx3
  clear hW k5 hB3 hBa m2 k3 hw3 hx5 hx3 H2
  go_wp2_with (go_at_call 26; (with_reducible refine (c_allv W3 pc).mono ?_); rintro e w27 ⟨rfl, rfl⟩)
  obtain ⟨x4, hx4⟩ : ∃ x4, W3.heap.size = x4 := ⟨_, rfl⟩
  rw [hx4]
  have k4 : Boxed (W3.alloc (.cells #[.pointer pc] 24)) x4 24 (.pointer pc) := by rw [← hx4]; exact Boxed.new _ _ _
  have hB4 : Below W3.heap.size W3 (W3.alloc (.cells #[.pointer pc] 24)) := below_alloc (Below.refl _ _) _
  obtain ⟨W4, hW4⟩ : ∃ W4, W3.alloc (.cells #[.pointer pc] 24) = W4 := ⟨_, rfl⟩
  rw [hW4] at k4 hB4 ⊢
  have hw4 : Below w.heap.size w W4 := below_call H3.out.2.2.2 hB4
  have hI0 : IM w.heap.size out x3 x5 po Bl W4.heap.size w [] W4 := by
    obtain ⟨⟨v, h1, h2, h3⟩, h4, h5, h6⟩ := H3.out
    exact ⟨⟨v, box_below h1 hB4, row_keep h2 (fun g x _ hg => hp_below hB4 hg), h3⟩, box_below h4 hB4, box_below h5 hB4, Nat.le_refl _, hw4⟩
  have hout : out < W4.heap.size := by obtain ⟨v, h1, _⟩ := hI0.1; exact h1.lt
  have hnh : ∀ v t fr, hp W4 out = some (.cells #[v] t fr) → ∀ g, v.ownBlock = some g → g < W4.heap.size := by
    intro v t fr hv g hg
    obtain ⟨v', h1, h2, _⟩ := hI0.1
    rw [show hp W4 out = _ from h1] at hv
    simp at hv
    obtain ⟨⟨rfl⟩, _⟩ := hv
    exact (own_lt h2 hg).2.1
  clear hW4 hx4 hB4
  refine (wpIn_wide (n := 6)).1 ?_
  refine rf_box (p2 := 6) (by omega) (lb := #[.pointer (some ⟨x4, 0, none⟩)]) rfl (n1 := W4.heap.size) (o := out) (L := A) (w0 := W4)
    (all_stops (6 - 1) (by omega) x4 W4.heap.size out A (by have := HA.out.2; omega) W4 pc k4.lt k4.cell (HA.out.1.below hw4) hout (Nat.le_refl _) hnh) hout (Below.refl _ _)
    (IM w.heap.size out x3 x5 po Bl W4.heap.size w) (fun _ _ _ => False) (iM_own hw4.size) (fun c => ownFrom_pure _ (fun _ => False)) hI0 (fun pre W h => h.2.2.2.1) (fun pre W h => by obtain ⟨v, h1, h2, _⟩ := h.1; exact ⟨v, 60, (0, 0), h1, fun g hg => (own_lt h2 hg).2.1⟩) ?assign ?body ?done ?stop
  case assign =>
    intro l x W K hK
    gi_wp2
  case body =>
    intro l pre x Bx W hI hBx hxW hub0 hlt
    obtain ⟨⟨v, hb, hrow, hbb⟩, hr3, hx5, hN, hBw⟩ := hI
    have hg0 := MP_good Bl pre
    obtain ⟨s1, s2⟩ := x
    obtain ⟨k, hk⟩ : ∃ k, frm Bl s1 = k := ⟨_, rfl⟩
    have hkn : k ≤ nB := by rw [← hk, ← HBl.out.2.2.2]; exact frm_le _ _
    have hub1 : NH out W Bx := by
      obtain ⟨v', t, fr, h1, h2⟩ := hub0
      intro v2 t2 fr2 h3
      rw [h1] at h3
      simp at h3
      obtain ⟨⟨rfl⟩, _⟩ := h3
      exact h2
    have HR0 := Lib.hid (show RO w.heap.size out x3 x5 W4.heap.size po w W (MP Bl pre) W from ⟨⟨v, hb, hrow⟩, hr3, hx5, kpH_r _ _ _, KeepsOthers.refl _, hBw⟩)
    have HW := Lib.hid (And.intro hbb (And.intro hN (And.intro hBw (And.intro hBx (And.intro hxW (And.intro hub1 (And.intro hlt (And.intro hk hg0))))))))
    have HFR := Lib.hid (fun w1 (h : Below w.heap.size w w1) => show Calls Try.prog 33 #[.pointer po, .int .i64 s1] w1 fun e w' => e = .returned (.int .i64 k) ∧ Below w1.heap.size w1 w' by have := c_fromN w1 po Bl (HBl.out.1.below h) HBl.out.2.1 (by have := HBl.out.2.2; omega) s1; rw [hk] at this; exact this)
    have HLN := Lib.hid (fun w1 (h : Below w.heap.size w w1) => show Calls Try.prog 30 #[.pointer po] w1 fun e w' => e = .returned (.int .i64 nB) ∧ w1 = w' by have := c_lenN w1 po Bl (HBl.out.1.below h); rw [HBl.out.2.2.2] at this; exact this)
    clear hub0 hb hrow hbb hr3 hx5 hN hBw hxW hub1 hlt hg0 hk
    have hmin : min (k : Int) (nB : Int) = (k : Int) := by omega
    have hk0 : (0 : Int) ≤ (k : Int) := by omega
    have hk1 : (k : Int) ≤ (nB : Int) := by omega
    have hk2 : nB ≤ cB := HS.out.2.1
    have hk3 : (nB : Int) ≤ (cB : Int) := by omega
    simp only [Act.put, List.setIfInBounds_toArray, List.set_cons_zero, List.set_cons_succ]
    obtain ⟨cD, hcD⟩ : ∃ cD, cB - k = cD := ⟨_, rfl⟩
    have hD : (Bl.drop k).length = nB - k := by rw [List.length_drop, HBl.out.2.2.2]
    have HDR := Lib.hid (And.intro hD (fun wr (h : Below w.heap.size w wr) => rdl_sub (c' := cD) (HS.out.1.below h) hk2 hD))
    have HDM := Lib.hid (show ∀ y ∈ Bl.drop k, y ∈ Bl from fun y hy => List.mem_of_mem_drop hy)
    clear hD
    gi_upto_region 4 with fail
    refine region_in (by kernel_rfl) (by kernel_rfl) (fun ⟨_, _, h⟩ => h) ?_
    refine Ph.at_quiet 12 (by kernel_rfl) ?_
    simp only [List.take_succ_cons, List.take_zero, List.drop_succ_cons, List.drop_zero]
    repeat ((first | (apply Ph.wpPh_g; (focus (intro wx hS0; have hz := below_call (below_drew (Below.refl W.heap.size W)) hS0; have hzw := below_call HW.out.2.2.1 hz; have c3 := (box_below HR0.out.2.1 hz).cell; have cX := hp_cell (hp_below hz HW.out.2.2.2.2.1); go_simp; first | exact rfl | exact ⟨rfl, Below.refl _ _⟩ | ((with_reducible refine (HS.out.2.2 _ hzw).mono ?_); rintro e w2 ⟨rfl, rfl⟩; exact ⟨rfl, Below.refl _ _⟩) | ((with_reducible refine (HFR.out _ hzw).mono ?_); rintro e w2 ⟨rfl, hb⟩; exact ⟨rfl, hb⟩) | ((with_reducible refine (HLN.out _ hzw).mono ?_); rintro e w2 ⟨rfl, rfl⟩; exact ⟨rfl, Below.refl _ _⟩))))); simp only [Act.put, List.setIfInBounds_toArray, List.set_cons_zero, List.set_cons_succ])
    refine Ph.wpPh_nil ?_; intro w6 hS6
    refine Ph.at_end (by simp) ?_
    have HB6 := Lib.hid (below_call (below_drew (Below.refl W.heap.size W)) hS6); clear hS6
    generalize (if cB = k then pB else Option.map (fun x => x.add (k * 2)) pB) = pD at *
    have hmn : nB - k ≤ 4398046511103 := by have := HBl.out.2.2.1; omega
    generalize nB - k = m at *
    have HMN := Lib.hid hmn
    clear hmn hmin hk0 hk1 hk2 hk3 hcD hkn
    have hst : MP Bl (pre ++ [(s1, s2)]) = inM (s1, s2) (MP Bl pre) (Bl.drop k) := by rw [MP_snoc, HW.out.2.2.2.2.2.2.2.1]
    have HST := Lib.hid hst; clear hst
    have HR6 := Lib.hid (HR0.out.below HB6.out)
    generalize Bl.drop k = D at *
    gi_wp2
    gi_loopw [24] (fun t wr => ∃ (j : Nat) (O : List Sp), t = .int .i64 j ∧ j ≤ m ∧ inM (s1, s2) (MP Bl pre) D = inM (s1, s2) O (D.drop j) ∧ Good (pre ++ [(s1, s2)]) Bl O ∧ RO w.heap.size out x3 x5 W4.heap.size po w W O wr) (fun t _ => m - (intOf t).toNat)
    case atStart => exact ⟨0, MP Bl pre, rfl, Nat.zero_le _, rfl, HW.out.2.2.2.2.2.2.2.2.more _, HR6.out⟩
    case round =>
      obtain ⟨j, O, rfl, hj, hin, hgood, hro⟩ := hrel
      have HI := Lib.hid (And.intro hj (And.intro hin (And.intro hgood hro)))
      clear hj hin hgood hro
      by_cases hlt : j < m
      · have b1 : (j : Int) < (m : Int) := by omega
        have w1' : IntKind.i64.wrap ((j : Int) + 1) = (j : Int) + 1 := IntWalk.i64_in _ (by have := HMN.out; omega)
        obtain ⟨⟨a1, a2⟩, ha⟩ := get_lt (L := D) (k := j) (by rw [HDR.out.1]; exact hlt)
        have hbwr : Below w.heap.size w wr := HI.out.2.2.2.2.2.2.2.2
        have hrdl := HDR.out.2 wr hbwr
        obtain ⟨g, o, rfl, y1, y2⟩ := hrdl.at ha
        have hdr : D.drop j = (a1, a2) :: D.drop (j + 1) := drop_at ha
        have HA1 := Lib.hid (And.intro hdr (List.mem_of_getElem? ha))
        clear ha hbwr hrdl hdr
        gi_upto_region 7 with fail
        refine Ph.at_world ?_; intro W8 hW
        obtain ⟨x8, hx8⟩ : ∃ x8, wr.heap.size = x8 := ⟨_, rfl⟩
        have k8 : hp W8 x8 = some (.cells #[.int .i64 a1, .int .i64 a2] 30 (0, 0)) := by rw [hW, ← hx8]; simp [hpA, hpS, cset_cells]
        have hB8 : Below wr.heap.size wr W8 := by rw [hW]; exact by (repeat (first | (with_reducible assumption) | (with_reducible exact Below.refl _ _) | (with_reducible refine below_set ?_ (by first | assumption | (simp; done) | (simp; omega) | omega) _) | (with_reducible apply below_alloc) | (with_reducible apply below_drew) | (with_reducible apply below_drewN) | (with_reducible refine below_call ?_ (by assumption))))
        have kX : hp W8 Bx = some (.cells #[.int .i64 s1, .int .i64 s2] 30 (0, 0)) := hp_below hB8 (HI.out.2.2.2.2.2.2.1.2 Bx _ _ HW.out.2.2.2.1 HW.out.2.2.2.2.1 HW.out.2.2.2.2.2.1).1
        have H8 := Lib.hid (And.intro k8 (And.intro hB8 (And.intro kX (HI.out.2.2.2.below hB8))))
        rw [hx8]
        clear hW y1 y2 hx8 hB8
        have c8 := hp_cell k8
        have cX := hp_cell kX
        clear k8 kX
        by_cases hbr : s2 ≤ a1
        · gi_wp2
          have hin := HI.out.2.1
          rw [HA1.out.1] at hin
          have hin2 : inM (s1, s2) O ((a1, a2) :: D.drop (j + 1)) = O := by unfold inM; rw [if_pos hbr]
          rw [hin2] at hin
          obtain ⟨⟨v9, h1, h2⟩, h3, h4, h5, h6, h7⟩ := H8.out.2.2.2
          refine ⟨h6.from _, h5, ⟨⟨v9, h1, ?_, HW.out.1⟩, h3, h4, Nat.le_trans HW.out.2.1 h6.size, h7⟩⟩
          rw [HST.out, hin]; exact h2
        · have hbr' : ¬ (s2 ≤ a1) := hbr
          obtain ⟨⟨m1, m2⟩, hmm⟩ : ∃ q : Sp, ofS (max s1 a1) (min s2 a2) = q := ⟨_, rfl⟩
          have HM := Lib.hid (fun w => show Calls Try.prog 50 #[.agg #[.int .i64 s1, .int .i64 s2], .agg #[.int .i64 a1, .int .i64 a2]] w fun e w' => e = .returned (.agg #[.int .i64 m1, .int .i64 m2]) ∧ Below w.heap.size w w' by have := c_smeet s1 s2 a1 a2 w; rw [hmm] at this; exact this)
          have HMM := Lib.hid (show mt (s1, s2) (a1, a2) = (m1, m2) from hmm)
          have HG2 := Lib.hid (HI.out.2.2.1.add (s := (s1, s2)) (b := (a1, a2)) (by simp) (HDM.out _ HA1.out.2))
          clear hmm
          gi_upto_region 8 with fail
          refine region_in (by kernel_rfl) (by kernel_rfl) (fun ⟨_, _, h⟩ => h) ?_
          refine Ph.at_quiet 4 (by kernel_rfl) ?_
          simp only [List.take_succ_cons, List.take_zero, List.drop_succ_cons, List.drop_zero]
          repeat ((first | (apply Ph.wpPh_g; (focus (intro wx hS0; have hz := below_call (below_drew (Below.refl W8.heap.size W8)) hS0; have c5 := (box_below H8.out.2.2.2.2.2.1 hz).cell; have c8 := hp_cell (hp_below hz H8.out.1); have cX := hp_cell (hp_below hz H8.out.2.2.1); go_simp; first | exact rfl | exact ⟨rfl, Below.refl _ _⟩ | ((with_reducible refine (HM.out _).mono ?_); rintro e w2 ⟨rfl, hb⟩; exact ⟨rfl, hb⟩))))); simp only [Act.put, List.setIfInBounds_toArray, List.set_cons_zero, List.set_cons_succ])
          refine Ph.wpPh_nil ?_; intro w9 hS9
          have HB9 := Lib.hid (below_call (below_drew (Below.refl W8.heap.size W8)) hS9); clear hS9
          have hro9 := H8.out.2.2.2.below HB9.out
          obtain ⟨⟨v9, hv1, hv2⟩, _⟩ := id hro9
          have H9 := Lib.hid (And.intro hro9 (And.intro hv1 hv2))
          clear hro9 hv1 hv2
          refine Ph.at_op rfl (by kernel_rfl) ?_
          go_wp2_with (go_at_call 14; refine (c_add (hub out v9) 1 w9 out O (cvO_hub H9.out.2.1 H9.out.2.2) HI.out.2.2.1.1 (by have := HI.out.2.2.1.len; rw [List.length_append] at this; have := HW.out.2.2.2.2.2.2.1; have := HA.out.2; have := HBl.out.2.2; simp at *; omega) m1 m2).mono ?_; rintro e w10 ⟨rfl, hcv, hch⟩; have H10 := Lib.hid (And.intro hcv hch); clear hcv hch)
          refine Ph.at_end (by simp) ?_
          gi_wp2
          go_roundw
          case rel =>
            have hin := HI.out.2.1
            rw [HA1.out.1] at hin
            have hin2 : inM (s1, s2) O ((a1, a2) :: D.drop (j + 1)) = inM (s1, s2) (addL O (mt (s1, s2) (a1, a2))) (D.drop (j + 1)) := by rw [inM]; exact if_neg (by show ¬ (s2 ≤ a1); omega)
            rw [hin2] at hin
            have hro := H9.out.1.step H9.out.2.1 H9.out.2.2 HW.out.1 H10.out.2 H10.out.1
            rw [← HMM.out] at hro
            exact ⟨j + 1, _, by go_num, by omega, hin, HG2.out, hro⟩
          case measure => simp [intOf]; omega
      · obtain rfl : j = m := by have := HI.out.1; omega
        have b1 : ¬ ((j : Int) < (j : Int)) := by omega
        gi_wp2
        have hin := HI.out.2.1
        have hd0 : D.drop j = [] := List.drop_eq_nil_of_le (by rw [HDR.out.1]; exact Nat.le_refl _)
        rw [hd0] at hin
        obtain ⟨⟨v9, h1, h2⟩, h3, h4, h5, h6, h7⟩ := HI.out.2.2.2
        refine ⟨h6.from _, h5, ⟨⟨v9, h1, ?_, HW.out.1⟩, h3, h4, Nat.le_trans HW.out.2.1 h6.size, h7⟩⟩
        rw [HST.out, hin]; exact h2
  case done =>
    intro D W hD hI hK
    obtain ⟨⟨v, hb, hrow, hbb⟩, hr3, hx5, hN, hBw⟩ := hI
    have c5 := hx5.cell
    have HD := Lib.hid (And.intro hb (And.intro hrow (And.intro hbb hBw)))
    clear hb hrow hbb hr3 hx5 hN hBw
    go_wp2
    refine ⟨by simp, .inl ⟨_, _, rfl, run_takeDeferred hK, ?_⟩⟩
    have hne : out ≠ D := fun e => by
      subst e
      rw [show W.heap[out]? = _ from HD.out.1] at hK
      cases hK
    have hg := grownBy_putObj' W D (.deferred none)
    refine ⟨_, results_tmp rfl _ _ _, out, rfl, ⟨v, ⟨?_, paint_new HD.out.2.2.1⟩, ⟨ownsRow_base0 (ownsRow_putObj HD.out.2.1 _ hK rfl), fun g hgv => paint_new (own_lt HD.out.2.1 hgv).1⟩⟩, HD.out.2.2.2.trans (belowK_b (w := w) (Nat.le_refl _) W D _ _ (by have := hw4.size; omega) hK rfl rfl)⟩
    exact hp_grown HD.out.1 hg (fun e => hne (by simpa using e))
  case stop =>
    rintro D c pre W _ _ h _
    exact h.elim
end Go.Proofs.Ytnofclmnjhkhiaa
