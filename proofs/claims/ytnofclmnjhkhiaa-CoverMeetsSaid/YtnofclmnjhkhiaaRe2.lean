/- The reference's Add of a cover. -/
import Derived.Test.YtnofclmnjhkhiaaRe
import Derived.Test.YtnofclmnjhkhiaaRb3
import Derived.Lib.AppendZeros
import Derived.WalkKit
import Derived.WalkLawsBesides
import Derived.WalkSpells
import Derived.Below
import Derived.Deep.RegionHeld3
import Derived.Deep.QuietTactic
import Derived.BigQuiet
import Derived.Deep.DeepCutAuto
import Derived.Deep.DeepMust
import Derived.KernelRfl
import Derived.Lib.Hide
import Derived.Outline
import Derived.RegionTactic
import Derived.StillTailTactics
namespace Go.Proofs.Ytnofclmnjhkhiaa
open Go.RowKit Go.Cl Go.Cv
set_option maxRecDepth 100000
set_option linter.unusedVariables false
set_option linter.unusedSimpArgs false

theorem c_rtouchS (a s : Sp) (h : a.1 < a.2) (h' : s.1 < s.2) (w : World) : Calls Try.prog 60 #[.agg #[.int .i64 a.1, .int .i64 a.2], .agg #[.int .i64 s.1, .int .i64 s.2]] w fun e w' => e = .returned (.bool (decide (a.1 ≤ s.2) && decide (s.1 ≤ a.2))) ∧ Below w.heap.size w w' := c_rtouch a.1 a.2 s.1 s.2 h h' w
set_option maxHeartbeats 8000000 in
theorem radd_some (col : Nat → Nat) (i : Nat) (w : World) (b : Nat) (L : List Sp) (h : RvO col i w b L) (hw : Wf L) (hn : L.length ≤ 8796093022206) (lo hi : Int) (hlh : lo < hi) :
    Calls Try.prog 40 #[.pointer (some ⟨b, 0, none⟩), .agg #[.int .i64 lo, .int .i64 hi]] w fun e w' => e = .returned (.tuple #[]) ∧ RvO (paint col w i) i w' b (ins L (lo, hi)) ∧ Ch col i w w' := by
  obtain ⟨i0, hi0, hz0, hz1, hz2⟩ := info_parts Try.info53
  have HZ := Lib.hid (And.intro hi0 (And.intro hz0 (And.intro hz1 hz2)))
  have HW := Lib.hid hw; have HN := Lib.hid hn
  have HOK := Lib.hid (rf_ok hw (lo, hi) hlh)
  have HALL := Lib.hid (rf_all hw (lo, hi) hlh)
  have he : ∀ w, Calls Try.prog 59 #[.agg #[.int .i64 lo, .int .i64 hi]] w fun e w' => e = .returned (.bool false) ∧ Below w.heap.size w w' := fun w => by have := c_rempty lo hi w; rw [decide_eq_false (show ¬ hi ≤ lo by omega)] at this; exact this
  have HE := Lib.hid he
  obtain ⟨v, hb, hr⟩ := h.ex
  obtain ⟨p, cp, rfl⟩ := hr.form
  obtain ⟨n, hnn⟩ : ∃ n, L.length = n := ⟨_, rfl⟩
  have hrd := row_rdq hr
  rw [hnn] at hb hrd
  have HC := Lib.hid (And.intro hb (And.intro hrd hnn))
  clear hr h hw hn hi0 hz0 hz1 hz2 hrd he hlh
  rw [hnn] at HN HALL
  clear hnn hb
  go_enter Try.func40, Try.ntmps40
  go_upto_region 1 with fail
  refine Ph.at_world ?_; intro W1 hW
  obtain ⟨x3, hx3⟩ : ∃ x3, w.heap.size = x3 := ⟨_, rfl⟩
  have k3 : hp W1 x3 = some (.cells #[.int .i64 lo, .int .i64 hi] 53 (0, 0)) := by rw [hW, ← hx3]; simp [hpA]
  have hB1 : Below w.heap.size w W1 := by rw [hW]; exact below_alloc (Below.refl _ _) _
  rw [hx3]
  have HX := Lib.hid hx3; clear hW hx3
  have K1 := Lib.hid (And.intro k3 hB1)
  have c3 := hp_cell k3
  clear k3 hB1
  go_upto_region 2 with (go_at_call 59; (with_reducible refine (HE.out _).mono ?_); rintro e w1 ⟨rfl, hb⟩; have K2 := Lib.hid (And.intro (hp_below hb K1.out.1) (below_call K1.out.2 hb)); clear hb c3)
  go_wp2
  go_loopw [4, 5, 6] (fun z4 z5 t wr => ∃ (k : Nat) (q4 q5 : Option Addr) (m4 m5 c4 c5 : Nat) (lo' hi' : Int), z4 = .slice q4 m4 c4 ∧ z5 = .slice q5 m5 c5 ∧ t = .int .i64 k ∧ k ≤ n ∧ m4 = (rf L (lo, hi) k).1.length ∧ m5 = (rf L (lo, hi) k).2.2.length ∧ (rf L (lo, hi) k).2.1 = (lo', hi') ∧ LQ w (fun g => g = x3 ∨ (Value.slice q5 m5 c5).ownBlock = some g) (.slice q4 m4 c4) (rf L (lo, hi) k).1 wr ∧ LQ w (fun g => g = x3) (.slice q5 m5 c5) (rf L (lo, hi) k).2.2 wr ∧ hp wr x3 = some (.cells #[.int .i64 lo', .int .i64 hi'] 53 (0, 0)) ∧ Below w.heap.size w wr) (fun _ _ t _ => n - (intOf t).toNat)
  case atStart => exact ⟨0, none, none, 0, 0, 0, 0, lo, hi, rfl, rfl, rfl, Nat.zero_le _, rfl, rfl, rfl, LQ.nil, LQ.nil, K2.out.1, K2.out.2⟩
  case round =>
    obtain ⟨k, q4, q5, m4, m5, c4, c5, lo', hi', rfl, rfl, rfl, hk, hm4, hm5, hst, hl4, hl5, kx, hB⟩ := hrel
    have HI := Lib.hid (And.intro hk (And.intro hm4 (And.intro hm5 (And.intro hst (And.intro hl4 (And.intro hl5 (And.intro kx hB)))))))
    have c0 := cell_below hB (show w.cell? ⟨b, 0, none⟩ = some (.slice p n cp) by rw [hp_cell HC.out.1.hp]; rfl)
    have HC0 := Lib.hid c0
    have HMB := Lib.hid (show m4 ≤ 8796093022207 ∧ m5 ≤ 8796093022207 from by have := (HOK.out k).2; have := HN.out; exact ⟨by omega, by omega⟩)
    clear hm4 hm5 hl4 hl5
    by_cases hlt : k < n
    · have b1 : (k : Int) < (n : Int) := by omega
      have w1' : IntKind.i64.wrap ((k : Int) + 1) = (k : Int) + 1 := IntWalk.i64_in _ (by have := HN.out; omega)
      obtain ⟨a, ha⟩ := get_lt (L := L) (k := k) (by rw [HC.out.2.2]; exact hlt)
      obtain ⟨g, o, rfl, y1, y2⟩ := (HC.out.2.1.below hB).at ha
      have hstep := rf_step L (lo, hi) k a ha
      have hsn := (HOK.out k).1
      rw [hst] at hsn
      have hax := HW.out.get ha
      obtain ⟨a1, a2⟩ := a
      have hto := fun w => c_rtouchS (a1, a2) (lo', hi') hax hsn w
      have HHU := Lib.hid (fun w => c_rhull a1 a2 lo' hi' hax hsn w)
      have HY := Lib.hid (And.intro y1 y2)
      have HAX := Lib.hid hax
      clear y1 y2 ha hB kx hk hax
      by_cases ct : a1 ≤ hi' ∧ lo' ≤ a2
      · have hnew : rf L (lo, hi) (k + 1) = ((rf L (lo, hi) k).1, (min a1 lo', max a2 hi'), (rf L (lo, hi) k).2.2) := by
          rw [hstep]; unfold rstep; rw [hst]; exact if_pos ct
        have HT := Lib.hid (fun w => by have := hto w; rw [decide_eq_true ct.1, decide_eq_true ct.2] at this; exact this : ∀ w, Calls Try.prog 60 #[.agg #[.int .i64 a1, .int .i64 a2], .agg #[.int .i64 lo', .int .i64 hi']] w fun e w' => e = .returned (.bool true) ∧ Below w.heap.size w w')
        have HNEW := Lib.hid hnew
        obtain ⟨mn, hmn⟩ : ∃ mn, min a1 lo' = mn := ⟨_, rfl⟩
        obtain ⟨mx, hmx⟩ : ∃ mx, max a2 hi' = mx := ⟨_, rfl⟩
        rw [hmn, hmx] at HHU HNEW
        clear hto ct hnew hstep hmn hmx hsn hst
        go_wp2
        clear c0
        refine Ph.region_at (by kernel_rfl) ?_
        refine Ph.at_quiet 10 (by kernel_rfl) ?_
        simp only [List.take_succ_cons, List.take_zero, List.drop_succ_cons, List.drop_zero]
        repeat ((first | (apply Ph.wpPh_g; (focus (intro wx hS0; have hz := below_call (below_drew (Below.refl wr.heap.size wr)) hS0; have c0 := cell_below hz HC0.out; have cx := hp_cell (hp_below hz HI.out.2.2.2.2.2.2.1); have y1 := cell_below hz HY.out.1; have y2 := cell_below hz HY.out.2; go_simp; first | exact rfl | exact ⟨rfl, Below.refl _ _⟩ | ((with_reducible refine (HT.out _).mono ?_); rintro e w2 ⟨rfl, hb⟩; exact ⟨rfl, hb⟩))))); simp only [Act.put, List.setIfInBounds_toArray, List.set_cons_zero, List.set_cons_succ])
        refine Ph.wpPh_nil ?_; intro w6 hS
        refine Ph.at_end (by simp) ?_
        go_wp2
        have HB6 := Lib.hid (below_call (below_drew (Below.refl _ _)) hS : Below wr.heap.size wr w6)
        clear hS
        refine Ph.region_at (by kernel_rfl) ?_
        refine Ph.at_quiet 9 (by kernel_rfl) ?_
        simp only [List.take_succ_cons, List.take_zero, List.drop_succ_cons, List.drop_zero]
        repeat ((first | (apply Ph.wpPh_g; (focus (intro wx hS0; have hz6 := below_call HB6.out (below_call (below_drew (Below.refl w6.heap.size w6)) hS0); have c0 := cell_below hz6 HC0.out; have cx := hp_cell (hp_below hz6 HI.out.2.2.2.2.2.2.1); have y1 := cell_below hz6 HY.out.1; have y2 := cell_below hz6 HY.out.2; go_simp; first | exact rfl | exact ⟨rfl, Below.refl _ _⟩ | ((with_reducible refine (HHU.out _).mono ?_); rintro e w2 ⟨rfl, hb⟩; exact ⟨rfl, hb⟩))))); simp only [Act.put, List.setIfInBounds_toArray, List.set_cons_zero, List.set_cons_succ])
        refine Ph.wpPh_nil ?_; intro w8 hS8
        have hz8 := below_call HB6.out (below_call (below_drew (Below.refl w6.heap.size w6)) hS8)
        have kx8 := hp_below hz8 HI.out.2.2.2.2.2.2.1
        have cx := hp_cell kx8
        have fx := hp_free kx8
        have HK8 := Lib.hid (And.intro kx8 hz8)
        clear kx8 hz8 hS8
        refine Ph.at_op rfl (by kernel_rfl) ?_
        go_wp2
        refine Ph.at_world ?_; intro W9 hW9
        have hk9 : hp W9 x3 = some (.cells #[.int .i64 mn, .int .i64 mx] 53 (0, 0)) := by rw [hW9]; simp [hpS, HK8.out.1, cset_cells]
        have h1 := below_call HI.out.2.2.2.2.2.2.2 HK8.out.2
        have h2 := HX.out
        have hB9 : Below w.heap.size w W9 := by
          rw [hW9]
          exact below_set (below_set h1 (by show w.heap.size ≤ x3; omega) _) (by show w.heap.size ≤ x3; omega) _
        have h48 := HI.out.2.2.2.2.1.below HK8.out.2
        have h58 := HI.out.2.2.2.2.2.1.below HK8.out.2
        have h49 : LQ w (fun g => g = x3 ∨ (Value.slice q5 m5 c5).ownBlock = some g) (.slice q4 m4 c4) (rf L (lo, hi) k).1 W9 := by
          rw [hW9]
          have hne : (Value.slice q4 m4 c4).ownBlock ≠ some x3 := fun e => (h48.2 x3 e).2 (.inl rfl)
          exact ⟨(h48.1.set (p := ⟨x3, 0, none⟩) hne _).set (p := ⟨x3, 1, none⟩) hne _, h48.2⟩
        have h59 : LQ w (fun g => g = x3) (.slice q5 m5 c5) (rf L (lo, hi) k).2.2 W9 := by
          rw [hW9]
          have hne : (Value.slice q5 m5 c5).ownBlock ≠ some x3 := fun e => (h58.2 x3 e).2 rfl
          exact ⟨(h58.1.set (p := ⟨x3, 0, none⟩) hne _).set (p := ⟨x3, 1, none⟩) hne _, h58.2⟩
        clear hW9 cx fx h1 h2 h48 h58
        refine Ph.at_end (by simp) ?_
        go_wp2
        go_roundw
        case rel =>
          have hI := HI.out
          refine ⟨k + 1, q4, q5, m4, m5, c4, c5, mn, mx, rfl, rfl, by go_num, by omega, ?_, ?_, ?_, ?_, ?_, hk9, hB9⟩
          · rw [HNEW.out]; exact hI.2.1
          · rw [HNEW.out]; exact hI.2.2.1
          · rw [HNEW.out]
          · rw [HNEW.out]; exact h49
          · rw [HNEW.out]; exact h59
        case measure => simp [intOf]; omega
      · have hf : (decide (a1 ≤ hi') && decide (lo' ≤ a2)) = false := by
          cases e1 : decide (a1 ≤ hi') <;> cases e2 : decide (lo' ≤ a2) <;> first | rfl | exact absurd ⟨of_decide_eq_true e1, of_decide_eq_true e2⟩ ct
        have HT := Lib.hid (fun w => by have := hto w; rw [show (decide ((a1, a2).1 ≤ (lo', hi').2) && decide ((lo', hi').1 ≤ (a1, a2).2)) = false from hf] at this; exact this : ∀ w, Calls Try.prog 60 #[.agg #[.int .i64 a1, .int .i64 a2], .agg #[.int .i64 lo', .int .i64 hi']] w fun e w' => e = .returned (.bool false) ∧ Below w.heap.size w w')
        by_cases cb : a2 < lo'
        · have hnew : rf L (lo, hi) (k + 1) = ((rf L (lo, hi) k).1 ++ [(a1, a2)], (lo', hi'), (rf L (lo, hi) k).2.2) := by
            rw [hstep]; unfold rstep; rw [hst, if_neg (show ¬ ((a1, a2).1 ≤ (lo', hi').2 ∧ (lo', hi').1 ≤ (a1, a2).2) from ct)]; exact if_pos cb
          have HNEW := Lib.hid hnew
          have HSTT := Lib.hid hst
          clear hto ct hnew hstep hsn hst hf HHU
          go_wp2
          clear c0
          refine Ph.region_at (by kernel_rfl) ?_
          refine Ph.at_quiet 10 (by kernel_rfl) ?_
          simp only [List.take_succ_cons, List.take_zero, List.drop_succ_cons, List.drop_zero]
          repeat ((first | (apply Ph.wpPh_g; (focus (intro wx hS0; have hz := below_call (below_drew (Below.refl wr.heap.size wr)) hS0; have c0 := cell_below hz HC0.out; have cx := hp_cell (hp_below hz HI.out.2.2.2.2.2.2.1); have y1 := cell_below hz HY.out.1; have y2 := cell_below hz HY.out.2; go_simp; first | exact rfl | exact ⟨rfl, Below.refl _ _⟩ | ((with_reducible refine (HT.out _).mono ?_); rintro e w2 ⟨rfl, hb⟩; exact ⟨rfl, hb⟩))))); simp only [Act.put, List.setIfInBounds_toArray, List.set_cons_zero, List.set_cons_succ])
          refine Ph.wpPh_nil ?_; intro w6 hS
          refine Ph.at_end (by simp) ?_
          go_wp2
          have HB6 := Lib.hid (below_call (below_drew (Below.refl _ _)) hS : Below wr.heap.size wr w6)
          clear hS
          refine Ph.region_at (by kernel_rfl) ?_
          refine Ph.at_quiet 12 (by kernel_rfl) ?_
          simp only [List.take_succ_cons, List.take_zero, List.drop_succ_cons, List.drop_zero]
          repeat ((first | (apply Ph.wpPh_g; (focus (intro wx hS0; have hz6 := below_call HB6.out (below_call (below_drew (Below.refl w6.heap.size w6)) hS0); have c0 := cell_below hz6 HC0.out; have cx := hp_cell (hp_below hz6 HI.out.2.2.2.2.2.2.1); have y1 := cell_below hz6 HY.out.1; have y2 := cell_below hz6 HY.out.2; go_simp; first | exact rfl | exact ⟨rfl, Below.refl _ _⟩)))); simp only [Act.put, List.setIfInBounds_toArray, List.set_cons_zero, List.set_cons_succ])
          refine Ph.wpPh_nil ?_; intro w8 hS9
          refine Ph.at_end (by simp) ?_
          have HB8 := Lib.hid (below_call HB6.out (below_call (below_drew (Below.refl _ _)) hS9))
          clear hS9
          have c0 := cell_below HB8.out HC0.out
          have y1 := cell_below HB8.out HY.out.1
          have y2 := cell_below HB8.out HY.out.2
          have hb12 := below_alloc (Below.refl w8.heap.size w8) (.cells #[.int .i64 a1, .int .i64 a2] 53 (0, 0))
          have hbT := below_call HB8.out hb12
          have hI := HI.out
          have hlr12 := hI.2.2.2.2.1.below hbT
          have hl0 : Row (own (.slice q4 m4 c4)) 1 (w8.alloc (.cells #[.int .i64 a1, .int .i64 a2] 53 (0, 0))) 53 2 (.slice q4 m4 c4) m4 (((rf L (lo, hi) k).1).flatMap encS) := by have e := hlr12.1; rw [← HI.out.2.1] at e; exact e
          have HR := Lib.hid (And.intro hlr12 (And.intro (hI.2.2.2.2.2.1.below hbT) (And.intro (below_call hI.2.2.2.2.2.2.2 hbT) (And.intro (hp_below hbT hI.2.2.2.2.2.2.1) (And.intro (hp_alloc_new w8 (.cells #[.int .i64 a1, .int .i64 a2] 53)) hl0)))))
          clear hb12 hbT hI hlr12 hl0
          go_wp2_with (at_builtin; refine wpList_append_col rfl (.tmp 59) (.tmp 67) 36 rfl 53 i0 (.agg #[.int .i64 0, .int .i64 0]) 2 16 Try.underlying36 HZ.out.1 HZ.out.2.1 HZ.out.2.2.1 HZ.out.2.2.2 rfl (by decide) _ m4 _ rfl HR.out.2.2.2.2.2 ⟨w8.heap.size, 0, none⟩ 1 1 (encS (a1, a2)) rfl rfl (one_srcq HR.out.2.2.2.2.1) (encS_ok.one _) ?c34 ?c44 ?kk4)
          case c34 => have := HMB.out.1; unfold maxLen; omega
          case c44 => have := HMB.out.1; omega
          case kk4 =>
            intro p9 c9 w9 hr1 hC hg
            have hR := HR.out
            have e1 : ((rf L (lo, hi) k).1 ++ [(a1, a2)]).length = m4 + 1 := by rw [List.length_append, ← HI.out.2.1]; rfl
            have hlr2 : LQ w (fun g => g = x3 ∨ (Value.slice q5 m5 c5).ownBlock = some g) (.slice p9 (m4 + 1) c9) ((rf L (lo, hi) k).1 ++ [(a1, a2)]) w9 := hR.1.grow hR.2.2.1.size (fun z hz => by rcases hz with rfl | hz; exact hp_lt hR.2.2.2.1; exact hR.2.1.1.lt hz) (by
              rw [e1]; simp only [List.flatMap_append, List.flatMap_cons, List.flatMap_nil, List.append_nil] at hr1 ⊢; exact hr1)
            have hoth := hR.2.1.beside hg (fun g hv e => by have := (hR.1.2 g e).2; exact this (.inr hv))
            have HF := Lib.hid (And.intro hlr2 (And.intro hoth (And.intro (hR.1.hp hg hR.2.2.2.1 (.inl rfl)) (And.intro (hR.1.grown hg hR.2.2.1) e1))))
            clear hR e1 hlr2 hoth hr1 hC hg
            go_wp2
            go_roundw
            case rel =>
              have hI := HI.out
              have hF := HF.out
              exact ⟨k + 1, p9, q5, m4 + 1, m5, c9, c5, lo', hi', rfl, rfl, by go_num, by omega, by rw [HNEW.out]; exact hF.2.2.2.2.symm, by rw [HNEW.out]; exact hI.2.2.1, by rw [HNEW.out], by rw [HNEW.out]; exact hF.1, by rw [HNEW.out]; exact hF.2.1, hF.2.2.1, hF.2.2.2.1⟩
            case measure => simp [intOf]; omega
        · have hnew : rf L (lo, hi) (k + 1) = ((rf L (lo, hi) k).1, (lo', hi'), (rf L (lo, hi) k).2.2 ++ [(a1, a2)]) := by
            rw [hstep]; unfold rstep; rw [hst, if_neg (show ¬ ((a1, a2).1 ≤ (lo', hi').2 ∧ (lo', hi').1 ≤ (a1, a2).2) from ct)]; exact if_neg cb
          have HNEW := Lib.hid hnew
          have HSTT := Lib.hid hst
          clear hto ct hnew hstep hsn hst hf HHU
          go_wp2
          clear c0
          refine Ph.region_at (by kernel_rfl) ?_
          refine Ph.at_quiet 10 (by kernel_rfl) ?_
          simp only [List.take_succ_cons, List.take_zero, List.drop_succ_cons, List.drop_zero]
          repeat ((first | (apply Ph.wpPh_g; (focus (intro wx hS0; have hz := below_call (below_drew (Below.refl wr.heap.size wr)) hS0; have c0 := cell_below hz HC0.out; have cx := hp_cell (hp_below hz HI.out.2.2.2.2.2.2.1); have y1 := cell_below hz HY.out.1; have y2 := cell_below hz HY.out.2; go_simp; first | exact rfl | exact ⟨rfl, Below.refl _ _⟩ | ((with_reducible refine (HT.out _).mono ?_); rintro e w2 ⟨rfl, hb⟩; exact ⟨rfl, hb⟩))))); simp only [Act.put, List.setIfInBounds_toArray, List.set_cons_zero, List.set_cons_succ])
          refine Ph.wpPh_nil ?_; intro w6 hS
          refine Ph.at_end (by simp) ?_
          go_wp2
          have HB6 := Lib.hid (below_call (below_drew (Below.refl _ _)) hS : Below wr.heap.size wr w6)
          clear hS
          refine Ph.region_at (by kernel_rfl) ?_
          refine Ph.at_quiet 12 (by kernel_rfl) ?_
          simp only [List.take_succ_cons, List.take_zero, List.drop_succ_cons, List.drop_zero]
          repeat ((first | (apply Ph.wpPh_g; (focus (intro wx hS0; have hz6 := below_call HB6.out (below_call (below_drew (Below.refl w6.heap.size w6)) hS0); have c0 := cell_below hz6 HC0.out; have cx := hp_cell (hp_below hz6 HI.out.2.2.2.2.2.2.1); have y1 := cell_below hz6 HY.out.1; have y2 := cell_below hz6 HY.out.2; go_simp; first | exact rfl | exact ⟨rfl, Below.refl _ _⟩)))); simp only [Act.put, List.setIfInBounds_toArray, List.set_cons_zero, List.set_cons_succ])
          refine Ph.wpPh_nil ?_; intro w8 hS9
          refine Ph.at_end (by simp) ?_
          have HB8 := Lib.hid (below_call HB6.out (below_call (below_drew (Below.refl _ _)) hS9))
          clear hS9
          have c0 := cell_below HB8.out HC0.out
          have y1 := cell_below HB8.out HY.out.1
          have y2 := cell_below HB8.out HY.out.2
          have hb12 := below_alloc (Below.refl w8.heap.size w8) (.cells #[.int .i64 a1, .int .i64 a2] 53 (0, 0))
          have hbT := below_call HB8.out hb12
          have hI := HI.out
          have hlr12 := (show LQ w (fun g => g = x3 ∨ (Value.slice q4 m4 c4).ownBlock = some g) (.slice q5 m5 c5) (rf L (lo, hi) k).2.2 wr from ⟨hI.2.2.2.2.2.1.1, fun g hg => ⟨(hI.2.2.2.2.2.1.2 g hg).1, fun hh => by rcases hh with e | e; exact (hI.2.2.2.2.2.1.2 g hg).2 e; exact (hI.2.2.2.2.1.2 g e).2 (.inr hg)⟩⟩).below hbT
          have hl0 : Row (own (.slice q5 m5 c5)) 1 (w8.alloc (.cells #[.int .i64 a1, .int .i64 a2] 53 (0, 0))) 53 2 (.slice q5 m5 c5) m5 (((rf L (lo, hi) k).2.2).flatMap encS) := by have e := hlr12.1; rw [← HI.out.2.2.1] at e; exact e
          have HR := Lib.hid (And.intro hlr12 (And.intro (hI.2.2.2.2.1.below hbT) (And.intro (below_call hI.2.2.2.2.2.2.2 hbT) (And.intro (hp_below hbT hI.2.2.2.2.2.2.1) (And.intro (hp_alloc_new w8 (.cells #[.int .i64 a1, .int .i64 a2] 53)) hl0)))))
          clear hb12 hbT hI hlr12 hl0
          go_wp2_with (at_builtin; refine wpList_append_col rfl (.tmp 18) (.tmp 26) 36 rfl 53 i0 (.agg #[.int .i64 0, .int .i64 0]) 2 16 Try.underlying36 HZ.out.1 HZ.out.2.1 HZ.out.2.2.1 HZ.out.2.2.2 rfl (by decide) _ m5 _ rfl HR.out.2.2.2.2.2 ⟨w8.heap.size, 0, none⟩ 1 1 (encS (a1, a2)) rfl rfl (one_srcq HR.out.2.2.2.2.1) (encS_ok.one _) ?c35 ?c45 ?kk5)
          case c35 => have := HMB.out.2; unfold maxLen; omega
          case c45 => have := HMB.out.2; omega
          case kk5 =>
            intro p9 c9 w9 hr1 hC hg
            have hR := HR.out
            have e1 : ((rf L (lo, hi) k).2.2 ++ [(a1, a2)]).length = m5 + 1 := by rw [List.length_append, ← HI.out.2.2.1]; rfl
            have hlr2 : LQ w (fun g => g = x3 ∨ (Value.slice q4 m4 c4).ownBlock = some g) (.slice p9 (m5 + 1) c9) ((rf L (lo, hi) k).2.2 ++ [(a1, a2)]) w9 := hR.1.grow hR.2.2.1.size (fun z hz => by rcases hz with rfl | hz; exact hp_lt hR.2.2.2.1; exact hR.2.1.1.lt hz) (by
              rw [e1]; simp only [List.flatMap_append, List.flatMap_cons, List.flatMap_nil, List.append_nil] at hr1 ⊢; exact hr1)
            have hoth := hR.2.1.beside hg (fun g hv e => by have := (hR.1.2 g e).2; exact this (.inr hv))
            have HF := Lib.hid (And.intro hlr2 (And.intro hoth (And.intro (hR.1.hp hg hR.2.2.2.1 (.inl rfl)) (And.intro (hR.1.grown hg hR.2.2.1) e1))))
            clear hR e1 hlr2 hoth hr1 hC hg
            go_wp2
            go_roundw
            case rel =>
              have hI := HI.out
              have hF := HF.out
              refine ⟨k + 1, q4, p9, m4, m5 + 1, c4, c9, lo', hi', rfl, rfl, by go_num, by omega, by rw [HNEW.out]; exact hI.2.1, by rw [HNEW.out]; exact hF.2.2.2.2.symm, by rw [HNEW.out], ?_, ?_, hF.2.2.1, hF.2.2.2.1⟩
              · rw [HNEW.out]
                refine ⟨hF.2.1.1, fun g hv => ⟨(hF.2.1.2 g hv).1, fun hh => ?_⟩⟩
                rcases hh with e | e
                · exact (hF.2.1.2 g hv).2 (.inl e)
                · exact (hF.1.2 g e).2 (.inr hv)
              · rw [HNEW.out]
                exact hF.1.to (fun g _ hh => .inl hh)
            case measure => simp [intOf]; omega
    · obtain rfl : k = n := by have := HI.out.1; omega
      have b1 : ¬ ((k : Int) < (k : Int)) := by omega
      have hsum := HALL.out
      rw [hst] at hsum
      have HSUM := Lib.hid hsum
      have cx := hp_cell kx
      clear hsum kx hB hst hk
      go_upto_region 11 with fail
      have hb12 := below_alloc (Below.refl wr.heap.size wr) (.cells #[.int .i64 lo', .int .i64 hi'] 53 (0, 0))
      have hI := HI.out
      have hlr12 := hI.2.2.2.2.1.below hb12
      have hl0 : Row (own (.slice q4 m4 c4)) 1 (wr.alloc (.cells #[.int .i64 lo', .int .i64 hi'] 53 (0, 0))) 53 2 (.slice q4 m4 c4) m4 ((rf L (lo, hi) k).1.flatMap encS) := by have e := hlr12.1; rw [← HI.out.2.1] at e; exact e
      have HR := Lib.hid (And.intro hlr12 (And.intro (hI.2.2.2.2.2.1.below hb12) (And.intro (below_call hI.2.2.2.2.2.2.2 hb12) (And.intro (hp_alloc_new wr (.cells #[.int .i64 lo', .int .i64 hi'] 53)) hl0))))
      clear hb12 hI hlr12 hl0
      go_wp2_with (at_builtin; refine wpList_append_col rfl (.tmp 70) (.tmp 72) 36 rfl 53 i0 (.agg #[.int .i64 0, .int .i64 0]) 2 16 Try.underlying36 HZ.out.1 HZ.out.2.1 HZ.out.2.2.1 HZ.out.2.2.2 rfl (by decide) _ m4 _ rfl HR.out.2.2.2.2 ⟨wr.heap.size, 0, none⟩ 1 1 (encS (lo', hi')) rfl rfl (one_srcq HR.out.2.2.2.1) (encS_ok.one _) ?c3f ?c4f ?kkf)
      case c3f => have := HMB.out.1; unfold maxLen; omega
      case c4f => have := HMB.out.1; omega
      case kkf =>
        intro p9 c9 w9 hr1 hC hg
        have hR := HR.out
        have e1 : ((rf L (lo, hi) k).1 ++ [(lo', hi')]).length = m4 + 1 := by rw [List.length_append, ← HI.out.2.1]; rfl
        have hlr2 : LQ w (fun g => (Value.slice q5 m5 c5).ownBlock = some g) (.slice p9 (m4 + 1) c9) ((rf L (lo, hi) k).1 ++ [(lo', hi')]) w9 := (hR.1.to (fun g _ hh => .inr hh)).grow hR.2.2.1.size (fun z hz => hR.2.1.1.lt hz) (by
          rw [e1]; simp only [List.flatMap_append, List.flatMap_cons, List.flatMap_nil, List.append_nil] at hr1 ⊢; exact hr1)
        have hoth := hR.2.1.beside hg (fun g hv e => by have := (hR.1.2 g e).2; exact this (.inr hv))
        have hbel := hR.1.grown hg hR.2.2.1
        have hrow9 : Row (own (.slice p9 (m4 + 1) c9)) 1 w9 53 2 (.slice p9 (m4 + 1) c9) (m4 + 1) (((rf L (lo, hi) k).1 ++ [(lo', hi')]).flatMap encS) := by have e := hlr2.1; rw [e1] at e; exact e
        have HF := Lib.hid (And.intro hlr2 (And.intro hoth (And.intro hbel (And.intro e1 hrow9))))
        clear hR e1 hlr2 hoth hr1 hC hg hbel hrow9
        have ho5 := HF.out.2.1.1.own.2
        rcases ho5 with ⟨hv5, hm0⟩ | ⟨g5, c5', cur5, hv5, _, hg5, hnc5, hcm5, hcs5, htk5⟩
        · have hap : ∀ ty, (Builtin.append_ #[36, 36] ty #[.slice p9 (m4 + 1) c9, .slice none 0 0]).run Try.prog w9 = .ok (.slice p9 (m4 + 1) c9) w9 := fun ty => append_none (by
            have := HF.out.2.2.2.2.pos (by omega)
            obtain ⟨g', c', cur', e', _, hle, _⟩ := this
            simp only [Value.slice.injEq, true_and] at e'
            rw [e'.2]; exact hle)
          simp only [Value.slice.injEq] at hv5
          obtain ⟨rfl, rfl, rfl⟩ := hv5
          have hb0 : (rf L (lo, hi) k).2.2 = [] := List.eq_nil_of_length_eq_zero hm0
          have HB0 := Lib.hid hb0
          have hb9 := hp_below HF.out.2.2.1 HC.out.1.hp
          have HB9 := Lib.hid hb9
          have cb9 := hp_cell hb9
          have fb9 := hp_free hb9
          clear hm0 hb0 hb9
          go_wp2_with (at_builtin; refine Lib.wpList_append_run _ rfl _ _ _ _ rfl _ _ rfl rfl _ _ (hap _) ?_)
          refine bodyPost_end (results_none rfl _ _ _) rfl ?_
          have hF := HF.out
          have hbl := hp_lt HC.out.1.hp
          have hins : ins L (lo, hi) = (rf L (lo, hi) k).1 ++ [(lo', hi')] := by rw [← HSUM.out, HB0.out]
          have hrow := hF.2.2.2.2.set (p := ⟨b, 0, none⟩) (fun e => by have := (hF.1.2 b e).1; omega) (.slice p9 (m4 + 1) c9)
          rw [hins]
          exact ⟨rfl, ⟨_, ⟨hp_set HB9.out _, paint_of HC.out.1.col⟩, by rw [hF.2.2.2.1]; exact hrow.recol fun g hg => paint_new (hF.1.2 g hg).1⟩, (Ch.of_below hF.2.2.1).setCell (p := ⟨b, 0, none⟩) (paint_of HC.out.1.col) _⟩
        · simp only [Value.slice.injEq] at hv5
          obtain ⟨rfl, hm5', rfl⟩ := hv5
          rw [← hm5'] at hnc5 htk5
          have hsrc : ∀ j u, ((rf L (lo, hi) k).2.2.flatMap encS)[j]? = some u → w9.cell? ((⟨g5, 0, none⟩ : Addr).add j) = some u := fun j u hj => by
            rw [Addr.add_lit, hp_cell hg5]
            rw [← htk5, List.getElem?_take] at hj
            split at hj
            · simpa using hj
            · cases hj
          have HSRC := Lib.hid (And.intro hsrc hm5')
          clear hg5 hnc5 hcm5 hcs5 htk5 hsrc hm5'
          go_wp2_with (at_builtin; refine wpList_append_col rfl (.tmp 73) (.tmp 74) 36 rfl 53 i0 (.agg #[.int .i64 0, .int .i64 0]) 2 16 Try.underlying36 HZ.out.1 HZ.out.2.1 HZ.out.2.2.1 HZ.out.2.2.2 rfl (by decide) _ (m4 + 1) _ rfl HF.out.2.2.2.2 ⟨g5, 0, none⟩ m5 c5 ((rf L (lo, hi) k).2.2.flatMap encS) rfl (by rw [encS_ok.length, ← HI.out.2.2.1]) HSRC.out.1 (encS_ok.ones _) ?c3g ?c4g ?kkg)
          case c3g => have := HMB.out; unfold maxLen; omega
          case c4g => have := (HOK.out k).2; have h1 := HI.out.2.1; have h2 := HI.out.2.2.1; have := HN.out; omega
          case kkg =>
            intro pA cA wA hr1 hC hg
            have hF := HF.out
            have hins : ins L (lo, hi) = ((rf L (lo, hi) k).1 ++ [(lo', hi')]) ++ (rf L (lo, hi) k).2.2 := by rw [← HSUM.out]; simp
            have e1 : (ins L (lo, hi)).length = m4 + 1 + m5 := by rw [hins, List.length_append, hF.2.2.2.1, ← HI.out.2.2.1]
            have hlrA : LQ w (fun g => (Value.slice none 0 0).ownBlock = some g) (.slice pA (m4 + 1 + m5) cA) (ins L (lo, hi)) wA := (hF.1.to (fun g _ hh => by simp [Value.ownBlock] at hh)).grow hF.2.2.1.size (fun z hz => by simp [Value.ownBlock] at hz) (by
              rw [e1, hins]; simp only [List.flatMap_append, List.flatMap_cons, List.flatMap_nil, List.append_nil, List.append_assoc] at hr1 ⊢; exact hr1)
            have hbA := hF.1.grown hg hF.2.2.1
            have hbb := hp_below hbA HC.out.1.hp
            have HA := Lib.hid (And.intro hlrA (And.intro hbA (And.intro e1 hbb)))
            have cb9 := hp_cell hbb
            have fb9 := hp_free hbb
            clear hF hins e1 hlrA hbA hbb hr1 hC hg
            go_wp2
            refine bodyPost_end (results_none rfl _ _ _) rfl ?_
            have hA := HA.out
            have hbl := hp_lt HC.out.1.hp
            have hrow := hA.1.1.set (p := ⟨b, 0, none⟩) (fun e => by have := (hA.1.2 b e).1; omega) (.slice pA (m4 + 1 + m5) cA)
            exact ⟨rfl, ⟨_, ⟨hp_set hA.2.2.2 _, paint_of HC.out.1.col⟩, hrow.recol fun g hg => paint_new (hA.1.2 g hg).1⟩, (Ch.of_below hA.2.1).setCell (p := ⟨b, 0, none⟩) (paint_of HC.out.1.col) _⟩

theorem c_raddO (col : Nat → Nat) (i : Nat) (w : World) (b : Nat) (L : List Sp) (h : RvO col i w b L) (hw : Wf L) (hn : L.length ≤ 8796093022206) (lo hi : Int) :
    Calls Try.prog 40 #[.pointer (some ⟨b, 0, none⟩), .agg #[.int .i64 lo, .int .i64 hi]] w fun e w' => e = .returned (.tuple #[]) ∧ RvO (paint col w i) i w' b (addL L (lo, hi)) ∧ Ch col i w w' := by
  by_cases hlh : lo < hi
  · have e : addL L (lo, hi) = ins L (lo, hi) := by unfold addL; rw [if_neg (by show ¬ hi ≤ lo; omega)]
    rw [e]
    exact radd_some col i w b L h hw hn lo hi hlh
  · have e : addL L (lo, hi) = L := by unfold addL; rw [if_pos (by show hi ≤ lo; omega)]
    rw [e]
    have he : ∀ w, Calls Try.prog 59 #[.agg #[.int .i64 lo, .int .i64 hi]] w fun e w' => e = .returned (.bool true) ∧ Below w.heap.size w w' := fun w => by have := c_rempty lo hi w; rw [decide_eq_true (show hi ≤ lo by omega)] at this; exact this
    have HE := Lib.hid he; have HC := Lib.hid h
    clear he h hw hn hlh
    go_enter Try.func40, Try.ntmps40
    go_upto_region 1 with fail
    refine Ph.at_world ?_; intro W1 hW
    have k3 : hp W1 w.heap.size = some (.cells #[.int .i64 lo, .int .i64 hi] 53 (0, 0)) := by rw [hW]; simp [hpA]
    have HB1 := Lib.hid (show Below w.heap.size w W1 by rw [hW]; exact below_alloc (Below.refl _ _) _)
    clear hW
    have c3 := hp_cell k3
    clear k3
    go_wp2_with (go_at_call 59; (with_reducible refine (HE.out _).mono ?_); rintro e w1 ⟨rfl, hb1⟩; have HB2 := Lib.hid (below_call HB1.out hb1); clear hb1)
    refine bodyPost_ret (v := .tuple #[]) (results_none rfl _ _ _) rfl ?_
    exact ⟨rfl, HC.out.kept (col' := paint col w i) (S := []) ((Mv.new (S := []) HB2.out i)) (by simp), Ch.of_below HB2.out⟩
end Go.Proofs.Ytnofclmnjhkhiaa
