/- Add: where the place is found (C). -/
import Derived.Test.YtnofclmnjhkhiaaCa
import Derived.WalkKit
import Derived.WalkLawsBesides
import Derived.WalkSpells
import Derived.Below
import Derived.Deep.RegionHeld3
import Derived.Deep.QuietTactic
import Derived.BigQuiet
import Derived.Deep.DeepCutAuto
import Derived.Deep.DeepMust
import Derived.KernelRfl
import Derived.Lib.Hide
import Derived.Outline
import Derived.RegionTactic
import Derived.StillTailTactics
namespace Go.Proofs.Ytnofclmnjhkhiaa
open Go.RowKit Go.Cl Go.Cv
set_option maxRecDepth 100000
set_option linter.unusedVariables false
set_option linter.unusedSimpArgs false

set_option maxHeartbeats 8000000 in
theorem add_C (col : Nat → Nat) (i : Nat) (w : World) (b : Nat) (L : List Sp) (h : CvO col i w b L) (hw : Wf L) (hn : L.length ≤ 8796093022206) (lo hi : Int) (hlh : lo < hi) (q : Nat) (f0 : Nat) (a0 : Sp) (hm : f0 = q + 1) (hf : frm L lo = f0) (hq : frl L lo = q) (ha0 : L[q]? = some a0) (hne0 : a0.2 = lo) :
    Calls Try.prog 14 #[.pointer (some ⟨b, 0, none⟩), .agg #[.int .i64 lo, .int .i64 hi]] w fun e w' => e = .returned (.tuple #[]) ∧ CvO (paint col w i) i w' b (ins L (lo, hi)) ∧ Ch col i w w' := by
  have HCV := Lib.hid h; have HW := Lib.hid hw; have HN := Lib.hid hn
  have hql : frl L lo ≤ frm L lo := by rcases frl_frm hw lo with h | h <;> omega
  have hfl := frm_le L lo
  have hfrom : ∀ w1, CvR w1 b L → Calls Try.prog 33 #[.pointer (some ⟨b, 0, none⟩), .int .i64 lo] w1 fun e w' => e = .returned (.int .i64 (f0 : Nat)) ∧ Below w1.heap.size w1 w' := fun w1 hv => by
    have := c_from w1 b L hv hw hn lo
    rw [hf] at this; exact this
  have he : ∀ w, Calls Try.prog 31 #[.agg #[.int .i64 lo, .int .i64 hi]] w fun e w' => e = .returned (.bool false) ∧ Below w.heap.size w w' := fun w => by have := c_empty lo hi w; rw [decide_eq_false (show ¬ hi ≤ lo by omega)] at this; exact this
  obtain ⟨v, hb, hr⟩ := h.ex
  obtain ⟨p, cp, rfl⟩ := hr.form
  obtain ⟨n, hnn⟩ : ∃ n, L.length = n := ⟨_, rfl⟩
  rw [hnn] at hfl hr hb hn
  have HC := Lib.hid (And.intro hfrom (And.intro he (And.intro hb (And.intro (hnn ▸ hr : Row col i w 30 2 (.slice p n cp) L.length (L.flatMap encS)) (And.intro hnn (And.intro hq (And.intro hlh (show q ≤ n by omega))))))))
  have HRD := Lib.hid (show RdL w (.slice p n cp) L from by have := row_rdl (hnn ▸ hr : Row col i w 30 2 (.slice p n cp) L.length (L.flatMap encS)); exact this)
  have hfn : f0 ≤ n := by omega
  have HM := Lib.hid hm; clear hm
  clear hfrom he hr h hw hql hf hq hlh
  go_enter Try.func14, Try.ntmps14
  go_upto_region 1 with fail
  refine Ph.at_world ?_; intro W1 hW
  have k3 : hp W1 w.heap.size = some (.cells #[.int .i64 lo, .int .i64 hi] 30 (0, 0)) := by rw [hW]; simp [hpA]
  have HB1 := Lib.hid (show Below w.heap.size w W1 by rw [hW]; exact below_alloc (Below.refl _ _) _)
  clear hW
  have K1 := Lib.hid k3
  have c3 := hp_cell k3
  clear k3
  go_upto_region 3 with (first | (go_at_call 31; (with_reducible refine (HC.out.2.1 _).mono ?_); rintro e w1 ⟨rfl, hb1⟩; have HB2 := Lib.hid (below_call HB1.out hb1); have K2 := Lib.hid (hp_below hb1 K1.out); replace c3 := hp_cell (hp_below hb1 K1.out); clear hb1) | (go_at_call 33; (with_reducible refine (HC.out.1 _ (HCV.out.rd.below HB2.out)).mono ?_); rintro e w2 ⟨rfl, hb2⟩; have HB3 := Lib.hid (below_call HB2.out hb2); have K3 := Lib.hid (hp_below hb2 K2.out); clear hb2 c3))
  have c0 := cell_below HB3.out (show w.cell? ⟨b, 0, none⟩ = some (.slice p n cp) by rw [hp_cell HC.out.2.2.1.hp]; rfl)
  have HC0 := Lib.hid c0; clear c0 hb
  have hm := HM.out
  have b0 : 0 < (f0 : Int) := by omega
  have b0n : 0 < f0 := by omega
  have b0m : IntKind.i64.wrap ((f0 : Int) - 1) = (q : Int) := by rw [IntWalk.i64_in _ (by omega)]; omega
  have b0l : (q : Int) < (n : Int) := by omega
  have b0k : q < n := by omega
  clear hm hfn
  obtain ⟨g0, o0, rfl, z1, z2⟩ := (HRD.out.below HB3.out).at ha0
  obtain ⟨d1, d2⟩ := a0
  have hd2 : lo = d2 := hne0.symm
  subst hd2
  have HZ0 := Lib.hid z2; clear z1 z2 hne0 ha0
  refine Ph.region_at (by kernel_rfl) ?_
  refine Ph.at_quiet 16 (by kernel_rfl) ?_
  simp only [List.take_succ_cons, List.take_zero, List.drop_succ_cons, List.drop_zero]
  repeat ((first | (apply Ph.wpPh_g; (focus (intro wx hS0; have hz := below_call (below_drew (Below.refl w2.heap.size w2)) hS0; have c0 := cell_below hz HC0.out; have c3 := hp_cell (hp_below hz K3.out); have z0 := cell_below hz HZ0.out; go_simp; first | exact rfl | exact ⟨rfl, Below.refl _ _⟩)))); simp only [Act.put, List.setIfInBounds_toArray, List.set_cons_zero, List.set_cons_succ])
  refine Ph.wpPh_nil ?_; intro w4 hS
  refine Ph.at_end (by simp) ?_
  have HB4 := Lib.hid (below_call HB3.out (below_call (below_drew (Below.refl _ _)) hS))
  have k4 := hp_below hS (show hp w2.drew _ = _ from K3.out)
  have hx3 : w.heap.size = w.heap.size := rfl
  generalize hgx : w.heap.size = x3 at k4 ⊢
  have HX3 := Lib.hid hgx
  clear hgx hx3
  go_wp2
  go_loopw [5] (fun t wr => ∃ (j : Nat) (lo' hi' : Int), t = .int .i64 j ∧ q ≤ j ∧ j ≤ n ∧ lo' < hi' ∧ absorb (lo, hi) (L.drop q) = absorb (lo', hi') (L.drop j) ∧ hp wr x3 = some (.cells #[.int .i64 lo', .int .i64 hi'] 30 (0, 0)) ∧ Below w.heap.size w wr) (fun t _ => n - (intOf t).toNat)
  case atStart => exact ⟨q, lo, hi, by first | rfl | go_num, Nat.le_refl _, HC.out.2.2.2.2.2.2.2, HC.out.2.2.2.2.2.2.1, rfl, k4, HB4.out⟩
  case round =>
    clear k4 hS
    obtain ⟨j, lo', hi', rfl, hqj, hjn, hlh', hab, kx, hB⟩ := hrel
    have HI := Lib.hid (And.intro hqj (And.intro hjn (And.intro hlh' (And.intro hab (And.intro kx hB)))))
    have c0 := cell_below hB (show w.cell? ⟨b, 0, none⟩ = some (.slice (some ⟨g0, o0, none⟩) n cp) by rw [hp_cell HC.out.2.2.1.hp]; rfl)
    have HC5 := Lib.hid c0
    clear hqj hjn hlh' hab kx hB c0
    by_cases hlt : j < n
    · have b1 : (j : Int) < (n : Int) := by omega
      have w1' : IntKind.i64.wrap ((j : Int) + 1) = (j : Int) + 1 := IntWalk.i64_in _ (by have := HN.out; have := HC.out.2.2.2.2.1; omega)
      obtain ⟨a, ha⟩ := get_lt (L := L) (k := j) (by rw [HC.out.2.2.2.2.1]; exact hlt)
      have HA := Lib.hid ha; clear ha
      obtain ⟨g, o, e9, y1, y2⟩ := (HRD.out.below HI.out.2.2.2.2.2).at HA.out
      simp only [Option.some.injEq, Addr.mk.injEq, and_true] at e9
      obtain ⟨rfl, rfl⟩ := e9
      obtain ⟨a1, a2⟩ := a
      have HY := Lib.hid (And.intro y1 y2)
      have ha12 : a1 < a2 := HW.out.get HA.out
      clear y1 y2
      have htc := fun w => c_touch a1 a2 lo' hi' ha12 HI.out.2.2.1 w
      have HHU := Lib.hid (c_hull lo' hi' a1 a2 HI.out.2.2.1 ha12)
      clear ha12
      by_cases c : a1 ≤ hi' ∧ lo' ≤ a2
      · have HT := Lib.hid (fun w => by have := htc w; rw [decide_eq_true c.1, decide_eq_true c.2] at this; exact this : ∀ w, Calls Try.prog 34 #[.agg #[.int .i64 a1, .int .i64 a2], .agg #[.int .i64 lo', .int .i64 hi']] w fun e w' => e = .returned (.bool true) ∧ Below w.heap.size w w')
        have HCC := Lib.hid c
        clear htc c
        obtain ⟨mn, hmn⟩ : ∃ mn, min lo' a1 = mn := ⟨_, rfl⟩
        obtain ⟨mx, hmx⟩ : ∃ mx, max hi' a2 = mx := ⟨_, rfl⟩
        rw [hmn, hmx] at HHU
        have HMM := Lib.hid (And.intro hmn hmx); clear hmn hmx
        go_wp2
        refine Ph.region_at (by kernel_rfl) ?_
        refine Ph.at_quiet 18 (by kernel_rfl) ?_
        simp only [List.take_succ_cons, List.take_zero, List.drop_succ_cons, List.drop_zero]
        repeat ((first | (apply Ph.wpPh_g; (focus (intro wx hS0; have hz := below_call (below_drew (Below.refl wr.heap.size wr)) hS0; have c0 := cell_below hz HC5.out; have cx := hp_cell (hp_below hz HI.out.2.2.2.2.1); have y1 := cell_below hz HY.out.1; have y2 := cell_below hz HY.out.2; go_simp; first | exact rfl | exact ⟨rfl, Below.refl _ _⟩ | ((with_reducible refine (HT.out _).mono ?_); rintro e w2 ⟨rfl, hb⟩; exact ⟨rfl, hb⟩))))); simp only [Act.put, List.setIfInBounds_toArray, List.set_cons_zero, List.set_cons_succ])
        refine Ph.wpPh_nil ?_; intro w6 hS6
        refine Ph.at_end (by simp) ?_
        go_wp2
        have HS6 := Lib.hid hS6
        refine Ph.region_at (by kernel_rfl) ?_
        refine Ph.at_quiet 9 (by kernel_rfl) ?_
        simp only [List.take_succ_cons, List.take_zero, List.drop_succ_cons, List.drop_zero]
        repeat ((first | (apply Ph.wpPh_g; (focus (intro wx hS0; have hz := below_call (below_drew (Below.refl w6.heap.size w6)) hS0; have hz6 := below_call (below_call (below_drew (Below.refl wr.heap.size wr)) hS6) hz; have c0 := cell_below hz6 HC5.out; have cx := hp_cell (hp_below hz6 HI.out.2.2.2.2.1); have y1 := cell_below hz6 HY.out.1; have y2 := cell_below hz6 HY.out.2; go_simp; first | exact rfl | exact ⟨rfl, Below.refl _ _⟩ | ((with_reducible refine (HHU.out _).mono ?_); rintro e w2 ⟨rfl, hb⟩; exact ⟨rfl, hb⟩))))); simp only [Act.put, List.setIfInBounds_toArray, List.set_cons_zero, List.set_cons_succ])
        refine Ph.wpPh_nil ?_; intro w8 hS8
        have hz8 := below_call (below_call (below_drew (Below.refl wr.heap.size wr)) hS6) (below_call (below_drew (Below.refl w6.heap.size w6)) hS8)
        have kx8 := hp_below hz8 HI.out.2.2.2.2.1
        have cx := hp_cell kx8
        have fx := hp_free kx8
        have HK8 := Lib.hid (And.intro kx8 hz8)
        clear kx8 hz8 hS8 hS6
        refine Ph.at_op rfl (by kernel_rfl) ?_
        go_wp2
        refine Ph.at_world ?_; intro W9 hW9
        have hk9 : hp W9 x3 = some (.cells #[.int .i64 mn, .int .i64 mx] 30 (0, 0)) := by rw [hW9]; simp [hpS, HK8.out.1, cset_cells]
        have hB9 : Below w.heap.size w W9 := by
          rw [hW9]
          have h1 := below_call HI.out.2.2.2.2.2 HK8.out.2
          have h2 := HX3.out
          exact below_set (below_set h1 (by show w.heap.size ≤ x3; omega) _) (by show w.heap.size ≤ x3; omega) _
        clear hW9 cx fx
        refine Ph.at_end (by simp) ?_
        go_wp2
        go_roundw
        case rel =>
          have hA := HMM.out
          have hI := HI.out
          refine ⟨j + 1, mn, mx, by go_num, by omega, by omega, by omega, ?_, hk9, hB9⟩
          rw [hI.2.2.2.1, drop_at HA.out]
          show (if a1 ≤ hi' ∧ lo' ≤ a2 then absorb (min lo' a1, max hi' a2) (L.drop (j + 1)) else _) = _
          rw [if_pos HCC.out, hA.1, hA.2]
        case measure => simp [intOf]; omega
      · have hstop : absorb (lo', hi') (L.drop j) = ((lo', hi'), L.drop j) := absorb_stop fun d hd => by
          have := HA.out
          rw [hd] at this; injection this with this; rw [this]; exact c
        have HST := Lib.hid hstop; clear hstop
        have hf : (decide (a1 ≤ hi') && decide (lo' ≤ a2)) = false := by
          cases e1 : decide (a1 ≤ hi') <;> cases e2 : decide (lo' ≤ a2) <;> first | rfl | exact absurd ⟨of_decide_eq_true e1, of_decide_eq_true e2⟩ c
        have HT := Lib.hid (fun w => by have := htc w; rw [hf] at this; exact this : ∀ w, Calls Try.prog 34 #[.agg #[.int .i64 a1, .int .i64 a2], .agg #[.int .i64 lo', .int .i64 hi']] w fun e w' => e = .returned (.bool false) ∧ Below w.heap.size w w')
        clear htc c hf HHU
        go_wp2
        refine Ph.region_at (by kernel_rfl) ?_
        refine Ph.at_quiet 18 (by kernel_rfl) ?_
        simp only [List.take_succ_cons, List.take_zero, List.drop_succ_cons, List.drop_zero]
        repeat ((first | (apply Ph.wpPh_g; (focus (intro wx hS0; have hz := below_call (below_drew (Below.refl wr.heap.size wr)) hS0; have c0 := cell_below hz HC5.out; have cx := hp_cell (hp_below hz HI.out.2.2.2.2.1); have y1 := cell_below hz HY.out.1; have y2 := cell_below hz HY.out.2; go_simp; first | exact rfl | exact ⟨rfl, Below.refl _ _⟩ | ((with_reducible refine (HT.out _).mono ?_); rintro e w2 ⟨rfl, hb⟩; exact ⟨rfl, hb⟩))))); simp only [Act.put, List.setIfInBounds_toArray, List.set_cons_zero, List.set_cons_succ])
        refine Ph.wpPh_nil ?_; intro w6 hS6
        refine Ph.at_end (by simp) ?_
        go_wp2
        have C6 := Lib.hid (cell_below (below_call (below_drew (Below.refl _ _)) hS6) HC5.out)
        have KX6 := Lib.hid (hp_below (below_call (below_drew (Below.refl _ _)) hS6) HI.out.2.2.2.2.1)
        have HB6 := Lib.hid (below_call HI.out.2.2.2.2.2 (below_call (below_drew (Below.refl _ _)) hS6))
        clear hS6
        refine Ph.wp_region_gr 8 9 [true] (by kernel_rfl) (by kernel_rfl) (fun _ d _ _ _ h => by cases d <;> exact h) ?_
        simp only [List.take_succ_cons, List.take_zero, List.drop_succ_cons, List.drop_zero]
        repeat ((first | (apply Ph.wpG_op rfl; (focus (intro wx hS0; have hz := hS0; have c0 := cell_below hz C6.out; have cx := hp_cell (hp_below hz KX6.out); go_simp; first | exact rfl | exact ⟨rfl, Below.refl _ _⟩))) | (apply Ph.wpG_late; (focus (intro w1; go_simp; exact rfl)))); simp only [List.tail_cons, List.tail_nil, Act.put, List.setIfInBounds_toArray, List.set_cons_zero, List.set_cons_succ])
        refine Ph.wpG_nil ?_
        apply Ph.wpAl_op (fun g => .slice (some ⟨g, 0, none⟩) 1 1) rfl; (focus (intro w1; go_simp; exact rfl))
        intro xv; simp only [List.tail_cons, List.tail_nil, Act.put, List.setIfInBounds_toArray, List.set_cons_zero, List.set_cons_succ]
        refine Ph.wpAl_nil ?_; intro w7 hS7 hgs hne
        simp only [List.nil_append, List.cons_append, List.forall_mem_cons, List.pairwise_cons, Prod.mk.injEq] at hgs hne
        obtain ⟨⟨bxv, kxv⟩, _⟩ := hgs
        have HB7 := Lib.hid (below_call HB6.out hS7)
        have hr7 := HC.out.2.2.2.1.below HB7.out
        have hb7 := hp_below HB7.out HC.out.2.2.1.hp
        have hne7 : (Value.slice (some ⟨g0, o0, none⟩) n cp).ownBlock ≠ some xv := fun e => by
          have := hr7.lt e
          have h1 := HC.out.2.2.2.1.lt e
          have h2 := HB6.out.size
          have h3 : w6.heap.size ≤ xv := bxv
          omega
        have HREP := Lib.hid (c_replace' (paint col w i) i w7 L _ hr7 HN.out (lo', hi') xv 1 kxv hne7 q j HI.out.1 (by rw [HC.out.2.2.2.2.1]; exact HI.out.2.1))
        clear hS7 hr7 hne7 bxv kxv
        have HB7b := Lib.hid hb7; clear hb7
        go_wp2_with (go_at_call 36; (with_reducible refine HREP.out.mono ?_); rintro e w8 ⟨v', rfl, h1, h2, h3⟩; obtain ⟨p8, cp8, rfl⟩ := h1.form; have hb8 := h3 b _ HB7b.out (by have := HC.out.2.2.2.1.ne HC.out.2.2.1.hp (by decide); exact this); have c8 := hp_cell hb8; have f8 := hp_free hb8; have H8 := Lib.hid (And.intro h1 (And.intro h2 hb8)); clear h1 h2 h3 hb8)
        refine bodyPost_end (results_none rfl _ _ _) rfl ?_
        have hH := H8.out
        have hx := HX3.out
        have hpp : paint (paint col w i) w7 i = paint col w i := paint_paint HB7.out.size
        have hins : ins L (lo, hi) = L.take q ++ (lo', hi') :: L.drop j := by
          rw [ins_split]
          show L.take (frl L lo) ++ (absorb (lo, hi) (L.drop (frl L lo))).1 :: (absorb (lo, hi) (L.drop (frl L lo))).2 = _
          rw [HC.out.2.2.2.2.2.1, HI.out.2.2.2.1, HST.out]
        have hlen : (ins L (lo, hi)).length = q + 1 + (L.length - j) := by
          rw [hins, List.length_append, List.length_cons, List.length_take, List.length_drop, HC.out.2.2.2.2.1]
          have := HC.out.2.2.2.2.2.2.2
          omega
        have hrow : Row (paint col w i) i w8 30 2 (.slice p8 (q + 1 + (n - j)) cp8) (ins L (lo, hi)).length ((ins L (lo, hi)).flatMap encS) := by
          have e := hH.1
          rw [hpp, HC.out.2.2.2.2.1] at e
          rw [hlen, hins, HC.out.2.2.2.2.1]; exact e
        have hCw : Ch col i w w8 := Ch.trans (Ch.of_below HB7.out) hH.2.1
        exact ⟨rfl, ⟨_, ⟨hp_set hH.2.2 _, paint_of HC.out.2.2.1.col⟩, hrow.set (p := ⟨b, 0, none⟩) (hrow.ne hH.2.2 (by decide)) _⟩, hCw.setCell (p := ⟨b, 0, none⟩) (paint_of HC.out.2.2.1.col) _⟩
    · have b1 : ¬ ((j : Int) < (n : Int)) := by omega
      have hstop : absorb (lo', hi') (L.drop j) = ((lo', hi'), L.drop j) := absorb_stop fun d hd => by
        have := (List.getElem?_eq_some_iff.1 hd).1
        rw [HC.out.2.2.2.2.1] at this; omega
      have HST := Lib.hid hstop; clear hstop
      go_wp2
      refine Ph.region_at (by kernel_rfl) ?_
      refine Ph.at_quiet 18 (by kernel_rfl) ?_
      simp only [List.take_succ_cons, List.take_zero, List.drop_succ_cons, List.drop_zero]
      repeat ((first | (apply Ph.wpPh_g; (focus (intro wx hS0; have hz := below_call (below_drew (Below.refl wr.heap.size wr)) hS0; have c0 := cell_below hz HC5.out; have cx := hp_cell (hp_below hz HI.out.2.2.2.2.1); go_simp; first | exact rfl | exact ⟨rfl, Below.refl _ _⟩)))); simp only [Act.put, List.setIfInBounds_toArray, List.set_cons_zero, List.set_cons_succ])
      refine Ph.wpPh_nil ?_; intro w6 hS6
      refine Ph.at_end (by simp) ?_
      go_wp2
      have C6 := Lib.hid (cell_below (below_call (below_drew (Below.refl _ _)) hS6) HC5.out)
      have KX6 := Lib.hid (hp_below (below_call (below_drew (Below.refl _ _)) hS6) HI.out.2.2.2.2.1)
      have HB6 := Lib.hid (below_call HI.out.2.2.2.2.2 (below_call (below_drew (Below.refl _ _)) hS6))
      clear hS6
      refine Ph.wp_region_gr 8 9 [true] (by kernel_rfl) (by kernel_rfl) (fun _ d _ _ _ h => by cases d <;> exact h) ?_
      simp only [List.take_succ_cons, List.take_zero, List.drop_succ_cons, List.drop_zero]
      repeat ((first | (apply Ph.wpG_op rfl; (focus (intro wx hS0; have hz := hS0; have c0 := cell_below hz C6.out; have cx := hp_cell (hp_below hz KX6.out); go_simp; first | exact rfl | exact ⟨rfl, Below.refl _ _⟩))) | (apply Ph.wpG_late; (focus (intro w1; go_simp; exact rfl)))); simp only [List.tail_cons, List.tail_nil, Act.put, List.setIfInBounds_toArray, List.set_cons_zero, List.set_cons_succ])
      refine Ph.wpG_nil ?_
      apply Ph.wpAl_op (fun g => .slice (some ⟨g, 0, none⟩) 1 1) rfl; (focus (intro w1; go_simp; exact rfl))
      intro xv; simp only [List.tail_cons, List.tail_nil, Act.put, List.setIfInBounds_toArray, List.set_cons_zero, List.set_cons_succ]
      refine Ph.wpAl_nil ?_; intro w7 hS7 hgs hne
      simp only [List.nil_append, List.cons_append, List.forall_mem_cons, List.pairwise_cons, Prod.mk.injEq] at hgs hne
      obtain ⟨⟨bxv, kxv⟩, _⟩ := hgs
      have HB7 := Lib.hid (below_call HB6.out hS7)
      have hr7 := HC.out.2.2.2.1.below HB7.out
      have hb7 := hp_below HB7.out HC.out.2.2.1.hp
      have hne7 : (Value.slice (some ⟨g0, o0, none⟩) n cp).ownBlock ≠ some xv := fun e => by
        have := hr7.lt e
        have h1 := HC.out.2.2.2.1.lt e
        have h2 := HB6.out.size
        have h3 : w6.heap.size ≤ xv := bxv
        omega
      have HREP := Lib.hid (c_replace' (paint col w i) i w7 L _ hr7 HN.out (lo', hi') xv 1 kxv hne7 q j HI.out.1 (by rw [HC.out.2.2.2.2.1]; exact HI.out.2.1))
      clear hS7 hr7 hne7 bxv kxv
      have HB7b := Lib.hid hb7; clear hb7
      go_wp2_with (go_at_call 36; (with_reducible refine HREP.out.mono ?_); rintro e w8 ⟨v', rfl, h1, h2, h3⟩; obtain ⟨p8, cp8, rfl⟩ := h1.form; have hb8 := h3 b _ HB7b.out (by have := HC.out.2.2.2.1.ne HC.out.2.2.1.hp (by decide); exact this); have c8 := hp_cell hb8; have f8 := hp_free hb8; have H8 := Lib.hid (And.intro h1 (And.intro h2 hb8)); clear h1 h2 h3 hb8)
      refine bodyPost_end (results_none rfl _ _ _) rfl ?_
      have hH := H8.out
      have hx := HX3.out
      have hpp : paint (paint col w i) w7 i = paint col w i := paint_paint HB7.out.size
      have hins : ins L (lo, hi) = L.take q ++ (lo', hi') :: L.drop j := by
        rw [ins_split]
        show L.take (frl L lo) ++ (absorb (lo, hi) (L.drop (frl L lo))).1 :: (absorb (lo, hi) (L.drop (frl L lo))).2 = _
        rw [HC.out.2.2.2.2.2.1, HI.out.2.2.2.1, HST.out]
      have hlen : (ins L (lo, hi)).length = q + 1 + (L.length - j) := by
        rw [hins, List.length_append, List.length_cons, List.length_take, List.length_drop, HC.out.2.2.2.2.1]
        have := HC.out.2.2.2.2.2.2.2
        omega
      have hrow : Row (paint col w i) i w8 30 2 (.slice p8 (q + 1 + (n - j)) cp8) (ins L (lo, hi)).length ((ins L (lo, hi)).flatMap encS) := by
        have e := hH.1
        rw [hpp, HC.out.2.2.2.2.1] at e
        rw [hlen, hins, HC.out.2.2.2.2.1]; exact e
      have hCw : Ch col i w w8 := Ch.trans (Ch.of_below HB7.out) hH.2.1
      exact ⟨rfl, ⟨_, ⟨hp_set hH.2.2 _, paint_of HC.out.2.2.1.col⟩, hrow.set (p := ⟨b, 0, none⟩) (hrow.ne hH.2.2 (by decide)) _⟩, hCw.setCell (p := ⟨b, 0, none⟩) (paint_of HC.out.2.2.1.col) _⟩
end Go.Proofs.Ytnofclmnjhkhiaa
