/- CoverNone: the walk. -/
import Derived.Test.YtnofclmnjhkhiaaCz
import Derived.Test.YtnofclmnjhkhiaaCl
import Derived.WalkKit
import Derived.WalkLawsBesides
import Derived.WalkSpells
import Derived.Below
import Derived.Deep.RegionHeld3
import Derived.Deep.QuietTactic
import Derived.BigQuiet
import Derived.Deep.DeepCutAuto
import Derived.Deep.DeepMust
import Derived.KernelRfl
import Derived.Lib.Hide
import Derived.Outline
import Derived.RegionTactic
import Derived.StillTailTactics
namespace Go.Proofs.Ytnofclmnjhkhiaa
open Go.RowKit Go.Cl Go.Cv
set_option maxRecDepth 100000
set_option linter.unusedVariables false
set_option linter.unusedSimpArgs false

theorem c_listedN0 (w : World) : Calls Try.prog 24 #[.pointer none] w fun e w' => ∃ p c, e = .returned (.slice p 0 c) ∧ RdL w' (.slice p 0 c) [] ∧ Below w.heap.size w w' := by
  refine (c_listed w none [] (.inl ⟨rfl, rfl⟩) (by decide)).mono ?_
  rintro e w' ⟨v, rfl, hr, hb⟩
  have hd := own_rdl hr
  obtain ⟨p, c, rfl, _⟩ := id hd
  exact ⟨p, c, rfl, hd, hb⟩

theorem mv_below' {S : List Nat} {c c' : Nat → Nat} {w W W' : World} (h : Mv S c W c' W') (hb : Below w.heap.size w W) (h0 : ∀ k, k < w.heap.size → c k ∉ S) : Below w.heap.size w W' :=
  hb.trans ⟨h.os, h.tape, h.output, h.size, fun k hk => h.block k (Nat.lt_of_lt_of_le hk hb.size) (h0 k hk)⟩
theorem c_new1 (w : World) (g : Nat) (lo hi : Int) (h : hp w g = some (.cells #[.int .i64 lo, .int .i64 hi] 30 (0, 0))) :
    Calls Try.prog 11 #[.slice (some ⟨g, 0, none⟩) 1 1] w fun e w' => ∃ b, e = .returned (.pointer (some ⟨b, 0, none⟩)) ∧ CvO (paint zc w 1) 1 w' b (addL [] (lo, hi)) ∧ Below w.heap.size w w' := by
  refine (c_new zc 1 w _ [(lo, hi)] (fun W hW => ⟨some ⟨g, 0, none⟩, 1, rfl, fun k a ha => ?_⟩) (by simp)).mono ?_
  · have hk := hp_ch h hW (by simp [zc])
    match k, ha with
    | 0, ha =>
      simp at ha
      subst ha
      exact ⟨g, 0, rfl, by rw [hp_cell hk]; rfl, by rw [hp_cell hk]; rfl⟩
    | k + 1, ha => simp at ha
  · rintro e w' ⟨b, rfl, _, hcv, hch⟩
    exact ⟨b, rfl, hcv, hch.mv.toBelow (fun k _ => by simp [zc])⟩
theorem MP_none (A : List Sp) : MP [] A = [] := by
  have key : ∀ (A O : List Sp), A.foldl (fun O s => inM s O (([] : List Sp).drop (frm [] s.1))) O = O := by
    intro A
    induction A with
    | nil => intro O; rfl
    | cons a A ih => intro O; rw [List.foldl_cons, List.drop_nil]; exact ih _
  exact key A []
theorem len0 (w : World) (b : Nat) (L : List Sp) (n : Nat) (h : CvR w b L) (hn : L.length = n) : Calls Try.prog 30 #[.pointer (some ⟨b, 0, none⟩)] w fun e w' => e = .returned (.int .i64 n) ∧ w = w' := by subst hn; exact c_len w b L h
theorem has1 (lo hi X : Int) : hasB (addL [] (lo, hi)) X = (decide (lo ≤ X) && decide (X < hi)) := by
  obtain ⟨h1, h2, _⟩ := addL_law Wf.nil (lo, hi)
  have h3 := hasB_iff h1 X
  rw [h2 X] at h3
  have h4 : (inL [] X ∨ hasS (lo, hi) X) ↔ (lo ≤ X ∧ X < hi) := ⟨fun h => h.elim (fun h => (inL_nil X h).elim) id, fun h => .inr h⟩
  rw [h4] at h3
  cases e : hasB (addL [] (lo, hi)) X with
  | true => obtain ⟨h5, h6⟩ := h3.1 e; simp [h5, h6]
  | false =>
    cases e2 : (decide (lo ≤ X) && decide (X < hi)) with
    | false => rfl
    | true => rw [Bool.and_eq_true, decide_eq_true_eq, decide_eq_true_eq] at e2; rw [h3.2 e2] at e; cases e
set_option maxHeartbeats 16000000 in
theorem c_none (w : World) (o : Op4) :
    Calls Try.prog 9 #[.agg #[.bool o.1, .int .i64 o.2.1, .int .i64 o.2.2.1, .int .i64 o.2.2.2]] w fun e w' => e = .returned (.bool true) ∧ Below w.heap.size w w' := by
  obtain ⟨ct, lo, hi, X⟩ := o
  have HOO := Lib.hid (fun w => c_oof ct lo hi X w)
  obtain ⟨N1, hN1⟩ : ∃ N1, addL [] (lo, hi) = N1 := ⟨_, rfl⟩
  obtain ⟨n1, hn1⟩ : ∃ n1, N1.length = n1 := ⟨_, rfl⟩
  obtain ⟨ee, hee⟩ : ∃ ee, decide (hi ≤ lo) = ee := ⟨_, rfl⟩
  obtain ⟨hb, hhb⟩ : ∃ hb, hasB N1 X = hb := ⟨_, rfl⟩
  have hN := addL_law Wf.nil (lo, hi)
  rw [hN1] at hN
  have HN := Lib.hid (And.intro hN.1 (And.intro hn1 (show n1 ≤ 1 by have := hN.2.2; rw [hn1] at this; simpa using this)))
  have HNEW := Lib.hid (fun w g (h : hp w g = some (.cells #[.int .i64 lo, .int .i64 hi] 30 (0, 0))) => show Calls Try.prog 11 #[.slice (some ⟨g, 0, none⟩) 1 1] w fun e w' => ∃ b, e = .returned (.pointer (some ⟨b, 0, none⟩)) ∧ CvO (paint zc w 1) 1 w' b N1 ∧ Below w.heap.size w w' by rw [← hN1]; exact c_new1 w g lo hi h)
  have HM1 := Lib.hid (fun w b (h : CvF w (some ⟨b, 0, none⟩) N1) => show Calls Try.prog 28 #[.pointer none, .pointer (some ⟨b, 0, none⟩)] w fun e w' => ∃ b, e = .returned (.pointer (some ⟨b, 0, none⟩)) ∧ CvO (paint zc w 1) 1 w' b [] ∧ Below w.heap.size w w' from c_meetC w none _ [] N1 (.inl ⟨rfl, rfl⟩) h HN.out.1 (by decide) (by have := HN.out.2; omega))
  have HM2 := Lib.hid (fun w b (h : CvN w (some ⟨b, 0, none⟩) N1) => show Calls Try.prog 28 #[.pointer (some ⟨b, 0, none⟩), .pointer none] w fun e w' => ∃ b, e = .returned (.pointer (some ⟨b, 0, none⟩)) ∧ CvO (paint zc w 1) 1 w' b [] ∧ Below w.heap.size w w' by have := c_meetC w _ none N1 [] h (.inl ⟨rfl, rfl⟩) Wf.nil (by have := HN.out.2; omega) (by decide); rw [MP_none] at this; exact this)
  have HH22 := Lib.hid (fun w => show Calls Try.prog 22 #[.pointer none, .agg #[.int .i64 lo, .int .i64 hi]] w fun e w' => e = .returned (.bool ee) ∧ Below w.heap.size w w' by rw [← hee]; exact n_holds w lo hi)
  have HH31 := Lib.hid (fun w => show Calls Try.prog 31 #[.agg #[.int .i64 lo, .int .i64 hi]] w fun e w' => e = .returned (.bool ee) ∧ Below w.heap.size w w' by rw [← hee]; exact c_empty lo hi w)
  have HH15 := Lib.hid (fun w => show Calls Try.prog 15 #[.agg #[.int .i64 lo, .int .i64 hi], .int .i64 X] w fun e w' => e = .returned (.bool hb) ∧ Below w.heap.size w w' by rw [← hhb, ← hN1, has1]; exact c_has lo hi X w)
  have HH16 := Lib.hid (fun w b (h : CvR w b N1) => show Calls Try.prog 16 #[.pointer (some ⟨b, 0, none⟩), .int .i64 X] w fun e w' => e = .returned (.bool hb) ∧ Below w.heap.size w w' by rw [← hhb]; exact c_chas w b N1 h HN.out.1 (by have := HN.out.2; omega) X)
  have HLEN := Lib.hid (fun w b (h : CvR w b N1) => len0 w b N1 n1 h HN.out.2.1)
  have HADD := Lib.hid (fun col w b (h : CvO col 1 w b []) => show Calls Try.prog 14 #[.pointer (some ⟨b, 0, none⟩), .agg #[.int .i64 lo, .int .i64 hi]] w fun e w' => e = .returned (.tuple #[]) ∧ CvO (paint col w 1) 1 w' b N1 ∧ Ch col 1 w w' by rw [← hN1]; exact c_add col 1 w b [] h Wf.nil (by decide) lo hi)
  clear hN1 hn1 hee hhb hN
  go_enter Try.func9, Try.ntmps9
  go_upto_region 1 with fail
  refine Ph.at_world ?_; intro W1 hW
  obtain ⟨x1, hx1⟩ : ∃ x1, w.heap.size = x1 := ⟨_, rfl⟩
  have k1 : hp W1 x1 = some (.cells #[.bool ct, .int .i64 lo, .int .i64 hi, .int .i64 X] 27 (0, 0)) := by rw [hW, ← hx1]; simp [hpA]
  have HB0 := Lib.hid (show Below w.heap.size w W1 by rw [hW]; exact below_alloc (Below.refl _ _) _)
  rw [hx1]
  clear hW hx1
  have c1 := hp_cell k1
  have HK := Lib.hid k1; clear k1
  have HBc := Lib.hid (Below.refl W1.heap.size W1)
  go_upto_region 7 with (first | (go_at_call 10; (with_reducible refine (c_fixed _).mono ?_); rintro e w2 ⟨rfl, hb⟩; replace HBc := Lib.hid (below_call HBc.out hb); replace c1 := hp_cell (hp_below HBc.out HK.out); clear hb) | (go_at_call 13; (with_reducible refine (HOO.out _).mono ?_); rintro e w2 ⟨rfl, hb⟩; replace HBc := Lib.hid (below_call HBc.out hb); replace c1 := hp_cell (hp_below HBc.out HK.out); clear hb) | (go_at_call 14; (with_reducible refine (n_add _ _ _).mono ?_); rintro e w2 ⟨rfl, hb⟩; replace HBc := Lib.hid (below_call HBc.out hb); replace c1 := hp_cell (hp_below HBc.out HK.out); clear hb) | (go_at_call 12; (with_reducible refine (n_cut _ _ _).mono ?_); rintro e w2 ⟨rfl, hb⟩; replace HBc := Lib.hid (below_call HBc.out hb); replace c1 := hp_cell (hp_below HBc.out HK.out); clear hb) | (go_at_call 20; (with_reducible refine (n_next _ _).mono ?_); rintro e w2 ⟨rfl, hb⟩; replace HBc := Lib.hid (below_call HBc.out hb); replace c1 := hp_cell (hp_below HBc.out HK.out); clear hb))
  go_upto_region 8 with (first | (go_at_call 13; (with_reducible refine (HOO.out _).mono ?_); rintro e w3 ⟨rfl, hb⟩; replace HBc := Lib.hid (below_call HBc.out hb); replace c1 := hp_cell (hp_below HBc.out HK.out); clear hb) | (go_at_call 11; refine (HNEW.out _ _ (hp_alloc_new _ _)).mono ?_; rintro e w4 ⟨b1, rfl, hcv, hb⟩; replace HBc := Lib.hid (below_call (below_call HBc.out (below_alloc (Below.refl _ _) _)) hb); replace c1 := hp_cell (hp_below HBc.out HK.out); have H4 := Lib.hid hcv.f; clear hb hcv) | (go_at_call 28; refine (HM1.out _ b1 H4.out).mono ?_; rintro e w5 ⟨mb, rfl, hcv, hb⟩; have H5 := Lib.hid hcv.rd; replace HBc := Lib.hid (below_call HBc.out hb); replace c1 := hp_cell (hp_below HBc.out HK.out); clear hb; clear hcv))
  go_upto_region 9 with (first | (go_at_call 13; (with_reducible refine (HOO.out _).mono ?_); rintro e w6 ⟨rfl, hb⟩; replace H5 := Lib.hid (H5.out.below hb); replace HBc := Lib.hid (below_call HBc.out hb); replace c1 := hp_cell (hp_below HBc.out HK.out); clear hb) | (go_at_call 11; refine (HNEW.out _ _ (hp_alloc_new _ _)).mono ?_; rintro e w7 ⟨b2, rfl, hcv, hb⟩; replace H5 := Lib.hid (H5.out.below (below_call (below_alloc (Below.refl _ _) _) hb)); replace HBc := Lib.hid (below_call (below_call HBc.out (below_alloc (Below.refl _ _) _)) hb); replace c1 := hp_cell (hp_below HBc.out HK.out); have H7 := Lib.hid hcv.f.n; clear hb hcv) | (go_at_call 28; refine (HM2.out _ b2 H7.out).mono ?_; rintro e w8 ⟨wb, rfl, hcv, hb⟩; have H8 := Lib.hid (And.intro (H5.out.below hb) hcv.rd); replace HBc := Lib.hid (below_call HBc.out hb); replace c1 := hp_cell (hp_below HBc.out HK.out); clear hb; clear hcv))
  clear c1
  refine Ph.region_at (by kernel_rfl) ?_
  refine Ph.at_quiet 26 (by kernel_rfl) ?_
  simp only [List.take_succ_cons, List.take_zero, List.drop_succ_cons, List.drop_zero]
  repeat ((first | (apply Ph.wpPh_g; (focus (intro wx hS0; have hz := below_call (below_drew (Below.refl w8.heap.size w8)) hS0; have c1 := hp_cell (hp_below (below_call HBc.out hz) HK.out); go_simp; first | exact rfl | exact ⟨rfl, Below.refl _ _⟩ | ((with_reducible refine (n_has _ _).mono ?_); rintro e w2 ⟨rfl, hb⟩; exact ⟨rfl, hb⟩) | ((with_reducible refine (n_gap _ _).mono ?_); rintro e w2 ⟨rfl, hb⟩; exact ⟨rfl, hb⟩) | ((refine (n_len _).mono ?_); rintro e w2 ⟨rfl, rfl⟩; exact ⟨rfl, Below.refl _ _⟩))))); simp only [Act.put, List.setIfInBounds_toArray, List.set_cons_zero, List.set_cons_succ])
  refine Ph.wpPh_nil ?_; intro w10 hS10
  have HB10 := Lib.hid (below_call (below_drew (Below.refl w8.heap.size w8)) hS10); clear hS10
  refine Ph.at_ghost 28 27 65 (fun g : Option Addr × Nat => Value.slice g.1 0 g.2) (fun g w1 => RdL w1 (.slice g.1 0 g.2) []) (fun g a b h hb => RdL.below h hb) (by kernel_rfl) (by kernel_rfl) (by decide) (by decide) rfl ?_
  simp only [List.take_succ_cons, List.take_zero, List.drop_succ_cons, List.drop_zero]
  (first | (apply Ph.wpGh_g (by decide); (focus (intro wx hS0; have hz := below_call HB10.out hS0; go_simp; first | exact rfl | exact ⟨rfl, Below.refl _ _⟩)))); simp only [Act.put, List.setIfInBounds_toArray, List.set_cons_zero, List.set_cons_succ]
  refine Ph.wpGh_e rfl ?_ ?_
  · intro wx hS0; have hz := below_call HB10.out hS0; go_simp; refine (c_listedN0 wx).mono ?_; rintro e w2 ⟨p', c', rfl, hrd', hb'⟩; exact ⟨_, rfl, p', c', rfl, hb', hrd'⟩
  refine Ph.wpGh_nil ?_; intro g1 w11 hS11 hG1; simp only [Act.put, List.setIfInBounds_toArray, List.set_cons_zero, List.set_cons_succ]
  have HB11 := Lib.hid (below_call HB10.out hS11); clear hS11
  refine Ph.at_quiet 54 (by kernel_rfl) ?_
  simp only [List.take_succ_cons, List.take_zero, List.drop_succ_cons, List.drop_zero]
  repeat ((first | (apply Ph.wpPh_g; (focus (intro wx hS0; have hz := below_call HB11.out hS0; go_simp; first | exact rfl | exact ⟨rfl, Below.refl _ _⟩ | ((with_reducible refine (n_clone _).mono ?_); rintro e w2 ⟨rfl, hb⟩; exact ⟨rfl, hb⟩) | ((refine (len0 _ mb [] 0 (H8.out.1.below hz) rfl).mono ?_); rintro e w2 ⟨rfl, rfl⟩; exact ⟨rfl, Below.refl _ _⟩) | ((refine (len0 _ wb [] 0 (H8.out.2.below hz) rfl).mono ?_); rintro e w2 ⟨rfl, rfl⟩; exact ⟨rfl, Below.refl _ _⟩))))); simp only [Act.put, List.setIfInBounds_toArray, List.set_cons_zero, List.set_cons_succ])
  refine Ph.wpPh_nil ?_; intro w13 hS13
  refine Ph.at_end (by simp) ?_
  replace HBc := Lib.hid (below_call HBc.out (below_call HB11.out hS13)); clear hS13
  go_upto_region 12 with fail
  refine Ph.at_world ?_; intro W14 hW
  obtain ⟨z, hz0⟩ : ∃ z, w13.heap.size = z := ⟨_, rfl⟩
  have kz : hp W14 z = some (.cells #[.slice none 0 0] 60 (0, 0)) := by rw [hW, ← hz0]; simp [hpA]
  have hB14 : Below w13.heap.size w13 W14 := by rw [hW]; exact below_alloc (Below.refl _ _) _
  have HZ := Lib.hid (show CvO (paint zc w13 1) 1 W14 z [] from ⟨_, ⟨kz, paint_new (by omega)⟩, Row.nil'⟩)
  have hb14 := below_call HBc.out hB14
  have c1 := hp_cell (hp_below hb14 HK.out)
  have HB14 := Lib.hid hB14
  rw [hz0]
  clear hW kz hB14 hz0 hb14
  go_upto_region 13 with (first | (go_at_call 13; (with_reducible refine (HOO.out _).mono ?_); rintro e w15 ⟨rfl, hb⟩; have HB15 := Lib.hid hb; clear hb) | (go_at_call 14; refine (HADD.out (paint zc w13 1) w15 z (HZ.out.below HB15.out)).mono ?_; rintro e w16 ⟨rfl, hcv, hch⟩; have HA := Lib.hid (And.intro hcv.rd hch); clear hcv hch))
  clear c1
  have hb16 : Below w13.heap.size w13 w16 := mv_below' HA.out.2.mv (below_call HB14.out HB15.out) (fun k hk => by rw [paint_old hk]; simp [zc])
  have HB16 := Lib.hid (below_call HBc.out hb16)
  clear hb16
  refine Ph.region_at (by kernel_rfl) ?_
  refine Ph.at_quiet 20 (by kernel_rfl) ?_
  simp only [List.take_succ_cons, List.take_zero, List.drop_succ_cons, List.drop_zero]
  repeat ((first | (apply Ph.wpPh_g; (focus (intro wx hS0; have hz := below_call (below_drew (Below.refl w16.heap.size w16)) hS0; have c1 := hp_cell (hp_below (below_call HB16.out hz) HK.out); go_simp; first | exact rfl | exact ⟨rfl, Below.refl _ _⟩ | ((with_reducible refine (HOO.out _).mono ?_); rintro e w2 ⟨rfl, hb⟩; exact ⟨rfl, hb⟩) | ((with_reducible refine (HH22.out _).mono ?_); rintro e w2 ⟨rfl, hb⟩; exact ⟨rfl, hb⟩) | ((with_reducible refine (HH31.out _).mono ?_); rintro e w2 ⟨rfl, hb⟩; exact ⟨rfl, hb⟩) | ((with_reducible refine (n_meets _ _ _).mono ?_); rintro e w2 ⟨rfl, hb⟩; exact ⟨rfl, hb⟩) | ((refine (HLEN.out _ z (HA.out.1.below hz)).mono ?_); rintro e w2 ⟨rfl, rfl⟩; exact ⟨rfl, Below.refl _ _⟩))))); simp only [Act.put, List.setIfInBounds_toArray, List.set_cons_zero, List.set_cons_succ])
  refine Ph.wpPh_nil ?_; intro w20 hS20
  have HB20 := Lib.hid (below_call (below_drew (Below.refl w16.heap.size w16)) hS20); clear hS20
  refine Ph.at_op rfl (by kernel_rfl) ?_
  go_wp2
  refine Ph.at_op rfl (by kernel_rfl) ?_
  go_wp2_with (go_at_call 11; refine (HNEW.out _ _ (hp_alloc_new _ _)).mono ?_; rintro e w22 ⟨b3, rfl, hcv, hb⟩; have H22 := Lib.hid (And.intro hcv.rd (below_call HB20.out (below_call (below_alloc (Below.refl _ _) _) hb))); clear hb hcv)
  refine Ph.at_quiet 38 (by kernel_rfl) ?_
  simp only [List.take_succ_cons, List.take_zero, List.drop_succ_cons, List.drop_zero]
  repeat ((first | (apply Ph.wpPh_g; (focus (intro wx hS0; have hz := below_call H22.out.2 hS0; have c1 := hp_cell (hp_below (below_call HB16.out hz) HK.out); go_simp; first | exact rfl | exact ⟨rfl, Below.refl _ _⟩ | ((refine (HLEN.out _ b3 (H22.out.1.below hS0)).mono ?_); rintro e w2 ⟨rfl, rfl⟩; exact ⟨rfl, Below.refl _ _⟩) | ((refine (HH16.out _ z (HA.out.1.below hz)).mono ?_); rintro e w2 ⟨rfl, hb⟩; exact ⟨rfl, hb⟩) | ((with_reducible refine (HOO.out _).mono ?_); rintro e w2 ⟨rfl, hb⟩; exact ⟨rfl, hb⟩) | ((with_reducible refine (HH15.out _).mono ?_); rintro e w2 ⟨rfl, hb⟩; exact ⟨rfl, hb⟩))))); simp only [Act.put, List.setIfInBounds_toArray, List.set_cons_zero, List.set_cons_succ])
  refine Ph.wpPh_nil ?_; intro w24 hS24
  refine Ph.at_end (by simp) ?_
  have HB24 := Lib.hid (below_call H22.out.2 hS24); clear hS24
  go_wp2
  go_ret
  exact ⟨rfl, below_call (below_call HB0.out HB16.out) HB24.out⟩
end Go.Proofs.Ytnofclmnjhkhiaa
