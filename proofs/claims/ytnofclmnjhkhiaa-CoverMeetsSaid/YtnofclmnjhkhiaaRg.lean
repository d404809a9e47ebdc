/- An operation on both; what is asked behind it. -/
import Derived.Test.YtnofclmnjhkhiaaRe2
import Derived.Test.YtnofclmnjhkhiaaRd2
import Derived.Test.YtnofclmnjhkhiaaRc2
import Derived.Test.YtnofclmnjhkhiaaCl
import Derived.WalkKit
import Derived.WalkLawsBesides
import Derived.WalkSpells
import Derived.Below
import Derived.Deep.RegionHeld3
import Derived.Deep.QuietTactic
import Derived.BigQuiet
import Derived.Deep.DeepCutAuto
import Derived.Deep.DeepMust
import Derived.KernelRfl
import Derived.Lib.Hide
import Derived.Outline
import Derived.RegionTactic
import Derived.StillTailTactics
namespace Go.Proofs.Ytnofclmnjhkhiaa
open Go.RowKit Go.Cl Go.Cv
set_option maxRecDepth 100000
set_option linter.unusedVariables false
set_option linter.unusedSimpArgs false

set_option maxHeartbeats 2000000 in
theorem c_done (c : Nat → Nat) (w : World) (b r : Nat) (L : List Sp) (hc : CvO c 1 w b L) (hr : RvO c 2 w r L) (hw : Wf L) (hn : L.length ≤ 8796093022206) (o : Op4) :
    Calls Try.prog 18 #[.pointer (some ⟨b, 0, none⟩), .pointer (some ⟨r, 0, none⟩), .agg #[.bool o.1, .int .i64 o.2.1, .int .i64 o.2.2.1, .int .i64 o.2.2.2]] w fun e w' => e = .returned (.tuple #[]) ∧ ∃ c', CvO c' 1 w' b (stepL L o) ∧ RvO c' 2 w' r (stepL L o) ∧ Mv [1, 2] c w c' w' := by
  obtain ⟨ct, lo, hi, X⟩ := o
  have HI := Lib.hid (And.intro hc (And.intro hr (And.intro hw hn)))
  have HOO := Lib.hid (fun w => c_oof ct lo hi X w)
  have HRR := Lib.hid (fun w => c_rref ct lo hi X w)
  clear hc hr hw hn
  go_enter Try.func18, Try.ntmps18
  go_upto_region 1 with fail
  refine Ph.at_world ?_; intro W1 hW
  obtain ⟨x5, hx5⟩ : ∃ x5, w.heap.size = x5 := ⟨_, rfl⟩
  have k5 : hp W1 x5 = some (.cells #[.bool ct, .int .i64 lo, .int .i64 hi, .int .i64 X] 27 (0, 0)) := by rw [hW, ← hx5]; simp [hpA]
  have hB1 : Below w.heap.size w W1 := by rw [hW]; exact below_alloc (Below.refl _ _) _
  have hc1 : CvO (paint c w 3) 1 W1 b L := HI.out.1.kept (Mv.new (S := []) hB1 3) (by simp)
  have hr1 : RvO (paint c w 3) 2 W1 r L := HI.out.2.1.kept (Mv.new (S := []) hB1 3) (by simp)
  have hm1 : Mv [1, 2] c w (paint c w 3) W1 := Mv.new hB1 3
  have hx1 : paint c w 3 x5 = 3 := by rw [← hx5]; exact paint_new (Nat.le_refl _)
  rw [hx5]
  have H1 := Lib.hid (And.intro hc1 (And.intro hr1 (And.intro hm1 (And.intro hx1 k5))))
  have c5 := hp_cell k5
  clear hW hx5 k5 hB1 hc1 hr1 hm1 hx1
  generalize paint c w 3 = d at *
  cases ct with
  | true =>
    have hst : stepL L (true, lo, hi, X) = cutC L (lo, hi) := by unfold stepL; rw [if_pos rfl]
    have HST := Lib.hid hst; clear hst
    go_wp2_with (first | (go_at_call 13; (with_reducible refine (HOO.out _).mono ?_); rintro e w2 ⟨rfl, hb⟩; have H2 := Lib.hid hb; clear hb) | (go_at_call 12; refine (c_cutc d 1 w2 b L (H1.out.1.below H2.out) HI.out.2.2.1 HI.out.2.2.2 lo hi).mono ?_; rintro e w3 ⟨rfl, hcv, hch⟩; have H3 := Lib.hid (And.intro hcv (And.intro ((H1.out.2.1.below H2.out).kept (hch.mv' (S := [1]) (by simp)) (by simp)) (And.intro ((H1.out.2.2.1.after_below H2.out).trans (hch.mv' (by simp))) (hp_ch (hp_below H2.out H1.out.2.2.2.2) hch (by rw [H1.out.2.2.2.1]; decide))))); replace c5 := hp_cell H3.out.2.2.2; clear hcv hch) | (go_at_call 39; (with_reducible refine (HRR.out _).mono ?_); rintro e w4 ⟨rfl, hb⟩; have H4 := Lib.hid hb; clear hb) | (go_at_call 38; refine (c_rcutO (paint d w2 1) 2 w4 r L (H3.out.2.1.below H4.out) HI.out.2.2.1 HI.out.2.2.2 lo hi).mono ?_; rintro e w5 ⟨rfl, hcv, hch⟩; have H5 := Lib.hid (And.intro hcv hch); clear hcv hch))
    refine bodyPost_end (results_none rfl _ _ _) rfl ?_
    rw [HST.out]
    exact ⟨rfl, _, (H3.out.1.below H4.out).kept (H5.out.2.mv' (S := [2]) (by simp)) (by simp), H5.out.1, (H3.out.2.2.1.after_below H4.out).trans (H5.out.2.mv' (by simp))⟩
  | false =>
    have hst : stepL L (false, lo, hi, X) = addL L (lo, hi) := by unfold stepL; rw [if_neg (by simp)]
    have HST := Lib.hid hst; clear hst
    go_wp2_with (first | (go_at_call 13; (with_reducible refine (HOO.out _).mono ?_); rintro e w2 ⟨rfl, hb⟩; have H2 := Lib.hid hb; clear hb) | (go_at_call 14; refine (c_add d 1 w2 b L (H1.out.1.below H2.out) HI.out.2.2.1 HI.out.2.2.2 lo hi).mono ?_; rintro e w3 ⟨rfl, hcv, hch⟩; have H3 := Lib.hid (And.intro hcv (And.intro ((H1.out.2.1.below H2.out).kept (hch.mv' (S := [1]) (by simp)) (by simp)) (And.intro ((H1.out.2.2.1.after_below H2.out).trans (hch.mv' (by simp))) (hp_ch (hp_below H2.out H1.out.2.2.2.2) hch (by rw [H1.out.2.2.2.1]; decide))))); replace c5 := hp_cell H3.out.2.2.2; clear hcv hch) | (go_at_call 39; (with_reducible refine (HRR.out _).mono ?_); rintro e w4 ⟨rfl, hb⟩; have H4 := Lib.hid hb; clear hb) | (go_at_call 40; refine (c_raddO (paint d w2 1) 2 w4 r L (H3.out.2.1.below H4.out) HI.out.2.2.1 HI.out.2.2.2 lo hi).mono ?_; rintro e w5 ⟨rfl, hcv, hch⟩; have H5 := Lib.hid (And.intro hcv hch); clear hcv hch))
    refine bodyPost_end (results_none rfl _ _ _) rfl ?_
    rw [HST.out]
    exact ⟨rfl, _, (H3.out.1.below H4.out).kept (H5.out.2.mv' (S := [2]) (by simp)) (by simp), H5.out.1, (H3.out.2.2.1.after_below H4.out).trans (H5.out.2.mv' (by simp))⟩

set_option maxHeartbeats 4000000 in
theorem c_asked (w : World) (b r : Nat) (L : List Sp) (hc : CvR w b L) (hr : CvR w r L) (hw : Wf L) (hn : L.length ≤ 8796093022206) (o : Op4) :
    Calls Try.prog 19 #[.pointer (some ⟨b, 0, none⟩), .pointer (some ⟨r, 0, none⟩), .agg #[.bool o.1, .int .i64 o.2.1, .int .i64 o.2.2.1, .int .i64 o.2.2.2]] w fun e w' => e = .returned (.bool true) ∧ Below w.heap.size w w' := by
  obtain ⟨ct, lo, hi, X⟩ := o
  have q1 := fun w (h : CvR w b L) => c_next w b L h hw hn X
  have q2 := fun w (h : CvR w r L) => c_rnext w r L h hw hn X
  have q3 := fun w (h : CvR w b L) => c_gap w b L h hw hn X
  have q4 := fun w (h : CvR w r L) => c_rgap w r L h hw hn X
  have q5 := fun w (h : CvR w b L) => c_chas w b L h hw hn X
  have q6 := fun w (h : CvR w r L) => c_rhasC w r L h hw hn X
  have q7 := fun w (h : CvR w b L) => c_holdsC w b L h hw hn X hi
  have q8 := fun w (h : CvR w r L) => c_rholds w r L h hw hn X hi
  have q9 := fun w (h : CvR w b L) => c_meets w b L h hw hn X hi
  have q10 := fun w (h : CvR w r L) => c_rmeetsC w r L h hw hn X hi
  have q11 := fun w (h : CvR w b L) => c_len w b L h
  generalize nextL L X = nx at *
  obtain ⟨nn, ok⟩ := nx
  generalize gapL L X = gp at *
  generalize hasB L X = hb at *
  generalize holdsL L (X, hi) = hh at *
  generalize meetsL L (X, hi) = mm at *
  obtain ⟨pr, cr, hcr, hrr⟩ := hr.open
  obtain ⟨n, hnn⟩ : ∃ n, L.length = n := ⟨_, rfl⟩
  rw [hnn] at hcr
  rw [hnn] at q11
  have HQ := Lib.hid (And.intro (q1 : ∀ w, CvR w b L → Calls Try.prog 20 #[.pointer (some ⟨b, 0, none⟩), .int .i64 X] w fun e w' => e = .returned (.tuple #[.int .i64 nn, .bool ok]) ∧ Below w.heap.size w w') (q2 : ∀ w, CvR w r L → Calls Try.prog 41 #[.pointer (some ⟨r, 0, none⟩), .int .i64 X] w fun e w' => e = .returned (.tuple #[.int .i64 nn, .bool ok]) ∧ Below w.heap.size w w'))
  have Q3 := Lib.hid q3; have Q4 := Lib.hid q4; have Q5 := Lib.hid q5; have Q6 := Lib.hid q6; have Q7 := Lib.hid q7; have Q8 := Lib.hid q8; have Q9 := Lib.hid q9; have Q10 := Lib.hid q10; have Q11 := Lib.hid q11
  have HI := Lib.hid (And.intro hc (And.intro hr hcr))
  clear q1 q2 q3 q4 q5 q6 q7 q8 q9 q10 q11 hc hr hw hn hcr hrr hnn
  go_enter Try.func19, Try.ntmps19
  go_upto_region 1 with fail
  refine Ph.at_world ?_; intro W1 hW
  obtain ⟨x5, hx5⟩ : ∃ x5, w.heap.size = x5 := ⟨_, rfl⟩
  have k5 : hp W1 x5 = some (.cells #[.bool ct, .int .i64 lo, .int .i64 hi, .int .i64 X] 27 (0, 0)) := by rw [hW, ← hx5]; simp [hpA]
  have hB1 : Below w.heap.size w W1 := by rw [hW]; exact below_alloc (Below.refl _ _) _
  rw [hx5]
  have H1 := Lib.hid (And.intro k5 hB1)
  have c5 := hp_cell k5
  clear hW hx5 k5 hB1
  go_upto_region 3 with (first | (go_at_call 20; (with_reducible refine (HQ.out.1 _ (HI.out.1.below H1.out.2)).mono ?_); rintro e w2 ⟨rfl, hb2⟩; have H2 := Lib.hid (And.intro (hp_below hb2 H1.out.1) (below_call H1.out.2 hb2)); replace c5 := hp_cell (hp_below hb2 H1.out.1); clear hb2) | (go_at_call 41; (with_reducible refine (HQ.out.2 _ (HI.out.2.1.below H2.out.2)).mono ?_); rintro e w3 ⟨rfl, hb3⟩; have H3 := Lib.hid (And.intro (hp_below hb3 H2.out.1) (below_call H2.out.2 hb3)); have n5 : ¬ x5 = w3.heap.size := (by have := hp_lt (hp_below hb3 H2.out.1); omega); have n6 : ¬ x5 = w3.heap.size + 1 := (by have := hp_lt (hp_below hb3 H2.out.1); omega); have n7 : x5 < w3.heap.size := hp_lt (hp_below hb3 H2.out.1); have n8 : x5 < w3.heap.size + 1 := Nat.lt_succ_of_lt n7; replace c5 := hp_cell (hp_below hb3 H2.out.1); clear hb3))
  go_upto_region 5 with fail
  refine Ph.at_world ?_; intro W5 hW
  obtain ⟨x6, hx6⟩ : ∃ x6, w3.heap.size = x6 := ⟨_, rfl⟩
  have k6 : hp W5 x6 = some (.cells #[.int .i64 X, .int .i64 hi] 30 (0, 0)) := by rw [hW, ← hx6]; simp [hpA, hpS, cset_cells]
  have k7 : hp W5 (x6 + 1) = some (.cells #[.int .i64 X, .int .i64 hi] 53 (0, 0)) := by rw [hW, ← hx6]; simp [hpA, hpS, cset_cells]
  have hB5 : Below w3.heap.size w3 W5 := by
    have n1 : w3.heap.size ≤ w3.heap.size + 1 := by omega
    rw [hW]; exact by (repeat (first | (with_reducible assumption) | (with_reducible exact Below.refl _ _) | (with_reducible refine below_set ?_ (by first | assumption | (simp; done) | (simp; omega) | omega) _) | (with_reducible apply below_alloc) | (with_reducible apply below_drew) | (with_reducible apply below_drewN) | (with_reducible refine below_call ?_ (by assumption))))
  rw [hx6]
  have H5 := Lib.hid (And.intro (hp_below hB5 H3.out.1) (And.intro k6 (And.intro k7 (below_call H3.out.2 hB5))))
  clear hW hx6 k6 k7 hB5 c5 n5 n6 n7 n8
  refine Ph.region_at (by kernel_rfl) ?_
  refine Ph.at_quiet 59 (by kernel_rfl) ?_
  simp only [List.take_succ_cons, List.take_zero, List.drop_succ_cons, List.drop_zero]
  repeat ((first | (apply Ph.wpPh_g; (focus (intro wx hS0; have hz := below_call (below_drew (Below.refl W5.heap.size W5)) hS0; have hw1 := below_call H5.out.2.2.2 hz; have c5 := hp_cell (hp_below hz H5.out.1); have c6 := hp_cell (hp_below hz H5.out.2.1); have c7 := hp_cell (hp_below hz H5.out.2.2.1); have cr0 := cell_below hw1 HI.out.2.2; go_simp; first | exact rfl | exact ⟨rfl, Below.refl _ _⟩ | ((with_reducible refine (Q3.out _ (HI.out.1.below hw1)).mono ?_); rintro e w2 ⟨rfl, hb⟩; exact ⟨rfl, hb⟩) | ((with_reducible refine (Q4.out _ (HI.out.2.1.below hw1)).mono ?_); rintro e w2 ⟨rfl, hb⟩; exact ⟨rfl, hb⟩) | ((with_reducible refine (Q5.out _ (HI.out.1.below hw1)).mono ?_); rintro e w2 ⟨rfl, hb⟩; exact ⟨rfl, hb⟩) | ((with_reducible refine (Q6.out _ (HI.out.2.1.below hw1)).mono ?_); rintro e w2 ⟨rfl, hb⟩; exact ⟨rfl, hb⟩) | ((with_reducible refine (Q7.out _ (HI.out.1.below hw1)).mono ?_); rintro e w2 ⟨rfl, hb⟩; exact ⟨rfl, hb⟩) | ((with_reducible refine (Q8.out _ (HI.out.2.1.below hw1)).mono ?_); rintro e w2 ⟨rfl, hb⟩; exact ⟨rfl, hb⟩) | ((with_reducible refine (Q9.out _ (HI.out.1.below hw1)).mono ?_); rintro e w2 ⟨rfl, hb⟩; exact ⟨rfl, hb⟩) | ((with_reducible refine (Q10.out _ (HI.out.2.1.below hw1)).mono ?_); rintro e w2 ⟨rfl, hb⟩; exact ⟨rfl, hb⟩) | ((with_reducible refine (Q11.out _ (HI.out.1.below hw1)).mono ?_); rintro e w2 ⟨rfl, rfl⟩; exact ⟨rfl, Below.refl _ _⟩))))); simp only [Act.put, List.setIfInBounds_toArray, List.set_cons_zero, List.set_cons_succ])
  refine Ph.wpPh_nil ?_; intro w6 hS
  refine Ph.at_end (by simp) ?_
  go_wp2
  go_ret
  exact ⟨rfl, below_call H5.out.2.2.2 (below_call (below_drew (Below.refl _ _)) hS)⟩
end Go.Proofs.Ytnofclmnjhkhiaa
