/- The reference's Cut of a cover. -/
import Derived.Test.YtnofclmnjhkhiaaRd
import Derived.WalkKit
import Derived.WalkLawsBesides
import Derived.WalkSpells
import Derived.Below
import Derived.Deep.RegionHeld3
import Derived.Deep.QuietTactic
import Derived.BigQuiet
import Derived.Deep.DeepCutAuto
import Derived.Deep.DeepMust
import Derived.KernelRfl
import Derived.Lib.Hide
import Derived.Outline
import Derived.RegionTactic
import Derived.StillTailTactics
namespace Go.Proofs.Ytnofclmnjhkhiaa
open Go.RowKit Go.Cl Go.Cv
set_option maxRecDepth 100000
set_option linter.unusedVariables false
set_option linter.unusedSimpArgs false

set_option maxHeartbeats 8000000 in
theorem c_rcutO (col : Nat → Nat) (i : Nat) (w : World) (b : Nat) (L : List Sp) (h : RvO col i w b L) (hw : Wf L) (hn : L.length ≤ 8796093022206) (lo hi : Int) :
    Calls Try.prog 38 #[.pointer (some ⟨b, 0, none⟩), .agg #[.int .i64 lo, .int .i64 hi]] w fun e w' => e = .returned (.tuple #[]) ∧ RvO (paint col w i) i w' b (cutC L (lo, hi)) ∧ Ch col i w w' := by
  obtain ⟨i0, hi0, hz0, hz1, hz2⟩ := info_parts Try.info53
  have HZ := Lib.hid (And.intro hi0 (And.intro hz0 (And.intro hz1 hz2)))
  have HW := Lib.hid hw; have HN := Lib.hid hn
  obtain ⟨v, hb, hr⟩ := h.ex
  obtain ⟨p, cp, rfl⟩ := hr.form
  obtain ⟨n, hnn⟩ : ∃ n, L.length = n := ⟨_, rfl⟩
  have hrd := row_rdq hr
  rw [hnn] at hb hrd
  have HC := Lib.hid (And.intro hb (And.intro hrd hnn))
  clear hr h hw hn hi0 hz0 hz1 hz2 hrd
  rw [hnn] at HN
  clear hnn hb
  go_enter Try.func38, Try.ntmps38
  go_upto_region 1 with fail
  refine Ph.at_world ?_; intro W1 hW
  obtain ⟨x3, hx3⟩ : ∃ x3, w.heap.size = x3 := ⟨_, rfl⟩
  have k3 : hp W1 x3 = some (.cells #[.int .i64 lo, .int .i64 hi] 53 (0, 0)) := by rw [hW, ← hx3]; simp [hpA]
  have hB1 : Below w.heap.size w W1 := by rw [hW]; exact below_alloc (Below.refl _ _) _
  rw [hx3]
  have HX := Lib.hid hx3; clear hW hx3
  go_wp2
  go_loopw [4, 5] (fun z t wr => ∃ (k : Nat) (q : Option Addr) (m cq : Nat), z = .slice q m cq ∧ t = .int .i64 k ∧ k ≤ n ∧ m = (cutC (L.take k) (lo, hi)).length ∧ LQ w (fun g => g = x3) (.slice q m cq) (cutC (L.take k) (lo, hi)) wr ∧ hp wr x3 = some (.cells #[.int .i64 lo, .int .i64 hi] 53 (0, 0)) ∧ Below w.heap.size w wr) (fun _ t _ => n - (intOf t).toNat)
  case atStart => exact ⟨0, none, 0, 0, rfl, rfl, Nat.zero_le _, by simp [cutC, cutL], by simpa [cutC, cutL] using (LQ.nil : LQ w (fun g => g = x3) (.slice none 0 0) [] _), k3, hB1⟩
  case round =>
    clear k3 hB1
    obtain ⟨k, q, m, cq, rfl, rfl, hk, hm, hlr, kx, hB⟩ := hrel
    have HI := Lib.hid (And.intro hk (And.intro hm (And.intro hlr (And.intro kx hB))))
    have c0 := cell_below hB (show w.cell? ⟨b, 0, none⟩ = some (.slice p n cp) by rw [hp_cell HC.out.1.hp]; rfl)
    have HC0 := Lib.hid c0
    clear hk hm hlr
    by_cases hlt : k < n
    · have b1 : (k : Int) < (n : Int) := by omega
      have w1' : IntKind.i64.wrap ((k : Int) + 1) = (k : Int) + 1 := IntWalk.i64_in _ (by have := HN.out; omega)
      obtain ⟨a, ha⟩ := get_lt (L := L) (k := k) (by rw [HC.out.2.2]; exact hlt)
      obtain ⟨g, o, rfl, y1, y2⟩ := (HC.out.2.1.below hB).at ha
      have hct := fun w => c_rcutC a (lo, hi) (HW.out.get ha) w
      have hpc := cutC_take (lo, hi) L HW.out k a ha
      generalize lq (lo, hi) a = l at *
      generalize rq (lo, hi) a = r at *
      obtain ⟨a1, a2⟩ := a
      obtain ⟨l1, l2⟩ := l
      obtain ⟨r1, r2⟩ := r
      have hct' : ∀ w, Calls Try.prog 58 #[.agg #[.int .i64 a1, .int .i64 a2], .agg #[.int .i64 lo, .int .i64 hi]] w fun e w' => e = .returned (.tuple #[.agg #[.int .i64 l1, .int .i64 l2], .agg #[.int .i64 r1, .int .i64 r2]]) ∧ Below w.heap.size w w' := hct
      have HCT := Lib.hid hct'
      have HPC := Lib.hid hpc
      have HY := Lib.hid (And.intro y1 y2)
      clear hct hct' hpc y1 y2 ha hB kx
      go_wp2
      refine Ph.wp_region_gr 12 14 [false, false, false, false, false, false, false, false, false, false, false, true] (by kernel_rfl) (by kernel_rfl) (fun _ d _ _ _ h => by cases d <;> exact h) ?_
      simp only [List.take_succ_cons, List.take_zero, List.drop_succ_cons, List.drop_zero]
      repeat ((first | (apply Ph.wpG_op rfl; (focus (intro wx hS0; have c0 := cell_below hS0 HC0.out; have cx := hp_cell (hp_below hS0 HI.out.2.2.2.1); have y1 := cell_below hS0 HY.out.1; have y2 := cell_below hS0 HY.out.2; go_simp; first | exact rfl | exact ⟨rfl, Below.refl _ _⟩ | ((with_reducible refine (HCT.out _).mono ?_); rintro e w2 ⟨rfl, hb⟩; exact ⟨rfl, hb⟩)))) | (apply Ph.wpG_late; (focus (intro w1; go_simp; exact rfl)))); simp only [List.tail_cons, List.tail_nil, Act.put, List.setIfInBounds_toArray, List.set_cons_zero, List.set_cons_succ])
      refine Ph.wpG_nil ?_
      apply Ph.wpAl_op (fun g => .pointer (some ⟨g, 0, none⟩)) rfl; (focus (intro w1; go_simp; exact rfl))
      intro x6; simp only [List.tail_cons, List.tail_nil, Act.put, List.setIfInBounds_toArray, List.set_cons_zero, List.set_cons_succ]
      apply Ph.wpAl_op (fun g => .pointer (some ⟨g, 0, none⟩)) rfl; (focus (intro w1; go_simp; exact rfl))
      intro x7; simp only [List.tail_cons, List.tail_nil, Act.put, List.setIfInBounds_toArray, List.set_cons_zero, List.set_cons_succ]
      refine Ph.wpAl_nil ?_; intro w6 hS hgs hne
      simp only [List.nil_append, List.cons_append, List.forall_mem_cons, List.pairwise_cons, Prod.mk.injEq] at hgs hne
      obtain ⟨⟨bx6, kx6⟩, ⟨bx7, kx7⟩, _⟩ := hgs
      have hne6 : x6 ≠ x7 := by first | exact hne.1 | exact hne.1.1 | (simp at hne; omega)
      have c6a := hp_cell (show hp w6 x6 = _ from kx6)
      have f6a := hp_free (show hp w6 x6 = _ from kx6)
      have c7a := hp_cell (show hp w6 x7 = _ from kx7)
      have f7a := hp_free (show hp w6 x7 = _ from kx7)
      have f7b : ∀ i u v j z, ((w6.setCell ⟨x6, i, none⟩ u).setCell ⟨x6, j, none⟩ v).frozen? ⟨x7, z, none⟩ = false := fun i u v j z => hp_free (hp_set_ne (hp_set_ne (show hp w6 x7 = _ from kx7) (fun e => hne6 e.symm) _) (fun e => hne6 e.symm) _) z
      have hne7 : ¬ (x7 = x6) := fun e => hne6 e.symm
      go_upto_region 6 with fail
      refine Ph.at_world ?_; intro W8 hW
      clear c6a f6a c7a f7a f7b
      have h6 : wr.heap.size ≤ x6 := bx6
      have h7 : wr.heap.size ≤ x7 := bx7
      have k6 : hp W8 x6 = some (.cells #[.int .i64 l1, .int .i64 l2] 53 (0, 0)) := by rw [hW]; simp [hpS, show hp w6 x6 = _ from kx6, cset_cells, hne6]
      have k7 : hp W8 x7 = some (.cells #[.int .i64 r1, .int .i64 r2] 53 (0, 0)) := by rw [hW]; simp [hpS, show hp w6 x7 = _ from kx7, cset_cells, show ¬ (x7 = x6) from fun e => hne6 e.symm]
      have hB8 : Below wr.heap.size wr W8 := by rw [hW]; exact by (repeat (first | (with_reducible assumption) | (with_reducible exact Below.refl _ _) | (with_reducible refine below_set ?_ (by first | assumption | (simp; done) | (simp; omega) | omega) _) | (with_reducible apply below_alloc) | (with_reducible apply below_drew) | (with_reducible apply below_drewN) | (with_reducible refine below_call ?_ (by assumption))))
      have HS := Lib.hid (And.intro hB8 (And.intro h6 (And.intro h7 (And.intro k6 (And.intro k7 hne6)))))
      clear hW hne hne6 hne7 h6 h7 bx6 bx7 kx6 kx7 hS
      have c6 := hp_cell k6
      clear k6 k7 hB8 c0
      -- the list, with what came before
      have hl8 : LQ w (fun g => g = x3 ∨ g = x7) (.slice q m cq) (cutC (L.take k) (lo, hi)) W8 := (HI.out.2.2.1.to (fun g hg hh => by
        rcases hh with e | e
        · exact e
        · have := HS.out.2.2.1; omega)).below HS.out.1
      have HL8 := Lib.hid (And.intro hl8 (And.intro (hp_below HS.out.1 HI.out.2.2.2.1) (below_call HI.out.2.2.2.2 HS.out.1)))
      clear hl8
      have HMB := Lib.hid (show m ≤ 8796093022206 by
        have h1 := (cutC_law (Wf.take HW.out k) (lo, hi)).2.2
        have h4 := HI.out.2.1
        have h5 := HN.out
        rw [List.length_take] at h1
        omega)
      by_cases hl : l1 < l2
      · have HP1 := Lib.hid (show pz (l1, l2) (r1, r2) 1 = [(l1, l2)] by rw [pz_1, if_pos (show (l1, l2).1 < (l1, l2).2 from hl)])
        have HE1 := Lib.hid (fun w => by have := c_rempty l1 l2 w; rw [decide_eq_false (show ¬ l2 ≤ l1 by omega)] at this; exact this : ∀ w, Calls Try.prog 59 #[.agg #[.int .i64 l1, .int .i64 l2]] w fun e w' => e = .returned (.bool false) ∧ Below w.heap.size w w')
        clear hl
        have K7s := Lib.hid HS.out.2.2.2.2.1
        have HM0 := Lib.hid HI.out.2.1
        go_upto_region 7 with (go_at_call 59; (with_reducible refine (HE1.out _).mono ?_); rintro e w13 ⟨rfl, hb⟩; have HL13 := Lib.hid (And.intro (HL8.out.1.below hb) (And.intro (hp_below hb HL8.out.2.1) (below_call HL8.out.2.2 hb))); have K13 := Lib.hid (hp_below hb K7s.out); replace c6 := hp_cell (hp_below hb HS.out.2.2.2.1); clear hb)
        have hb12 := below_alloc (Below.refl w13.heap.size w13) (.cells #[.int .i64 l1, .int .i64 l2] 53 (0, 0))
        have hlr12 := HL13.out.1.below hb12
        have hl0 : Row (own (.slice q m cq)) 1 (w13.alloc (.cells #[.int .i64 l1, .int .i64 l2] 53 (0, 0))) 53 2 (.slice q m cq) (m) ((cutC (L.take k) (lo, hi)).flatMap encS) := by have e := hlr12.1; rw [← HM0.out] at e; exact e
        have HRa := Lib.hid (And.intro hlr12 (And.intro (below_call HL13.out.2.2 hb12) (And.intro (hp_below hb12 HL13.out.2.1) (And.intro (hp_alloc_new w13 (.cells #[.int .i64 l1, .int .i64 l2] 53)) (And.intro (hp_below hb12 K13.out) hl0)))))
        clear hb12 hlr12 hl0
        go_upto_region 8 with (at_builtin; refine wpList_append_col rfl (.tmp 32) (.tmp 34) 36 rfl 53 i0 (.agg #[.int .i64 0, .int .i64 0]) 2 16 Try.underlying36 HZ.out.1 HZ.out.2.1 HZ.out.2.2.1 HZ.out.2.2.2 rfl (by decide) _ (m) _ rfl HRa.out.2.2.2.2.2 ⟨w13.heap.size, 0, none⟩ 1 1 (encS (l1, l2)) rfl rfl (one_srcq HRa.out.2.2.2.1) (encS_ok.one _) ?c3a ?c4a ?kka)
        case c3a => have := HMB.out; unfold maxLen; omega
        case c4a => have := HMB.out; omega
        case kka =>
          intro p8 c8 w14 hr1 hC hg
          have hR := HRa.out
          have e1 : (cutC (L.take k) (lo, hi) ++ [(l1, l2)]).length = m + 1 := by rw [List.length_append, ← HM0.out]; rfl
          have hlr2 : LQ w (fun g => g = x3 ∨ g = x7) (.slice p8 (m + 1) c8) (cutC (L.take k) (lo, hi) ++ [(l1, l2)]) w14 := hR.1.grow hR.2.1.size (fun z hz => by rcases hz with rfl | rfl; exact hp_lt hR.2.2.1; exact hp_lt hR.2.2.2.2.1) (by
            rw [e1]; simp only [List.flatMap_append, List.flatMap_cons, List.flatMap_nil, List.append_nil, List.append_assoc] at hr1 ⊢; exact hr1)
          have HL14 := Lib.hid (And.intro hlr2 (And.intro (hR.1.hp hg hR.2.2.1 (.inl rfl)) (hR.1.grown hg hR.2.1)))
          have K14 := Lib.hid (hR.1.hp hg hR.2.2.2.2.1 (.inr rfl))
          have HM14 := Lib.hid e1.symm
          clear hR e1 hlr2 hr1 hC hg
          have c7 := hp_cell K14.out
          by_cases hr : r1 < r2
          · have HP2 := Lib.hid (show (if (r1, r2).1 < (r1, r2).2 then [(r1, r2)] else ([] : List Sp)) = [(r1, r2)] from if_pos hr)
            have HE2 := Lib.hid (fun w => by have := c_rempty r1 r2 w; rw [decide_eq_false (show ¬ r2 ≤ r1 by omega)] at this; exact this : ∀ w, Calls Try.prog 59 #[.agg #[.int .i64 r1, .int .i64 r2]] w fun e w' => e = .returned (.bool false) ∧ Below w.heap.size w w')
            clear hr
            go_upto_region 9 with (go_at_call 59; (with_reducible refine (HE2.out _).mono ?_); rintro e w15x ⟨rfl, hb⟩; have HL15x := Lib.hid (And.intro (HL14.out.1.below hb) (And.intro (hp_below hb HL14.out.2.1) (below_call HL14.out.2.2 hb))); have K15x := Lib.hid (hp_below hb K14.out); replace c7 := hp_cell (hp_below hb K14.out); clear hb)
            have hb12 := below_alloc (Below.refl w15x.heap.size w15x) (.cells #[.int .i64 r1, .int .i64 r2] 53 (0, 0))
            have hlr12 := HL15x.out.1.below hb12
            have hl0 : Row (own (.slice p8 (m + 1) c8)) 1 (w15x.alloc (.cells #[.int .i64 r1, .int .i64 r2] 53 (0, 0))) 53 2 (.slice p8 (m + 1) c8) (m + 1) ((cutC (L.take k) (lo, hi) ++ [(l1, l2)]).flatMap encS) := by have e := hlr12.1; rw [← HM14.out] at e; exact e
            have HRxb := Lib.hid (And.intro hlr12 (And.intro (below_call HL15x.out.2.2 hb12) (And.intro (hp_below hb12 HL15x.out.2.1) (And.intro (hp_alloc_new w15x (.cells #[.int .i64 r1, .int .i64 r2] 53)) (And.intro (hp_below hb12 K15x.out) hl0)))))
            clear hb12 hlr12 hl0
            go_wp2_with (at_builtin; refine wpList_append_col rfl (.tmp 39) (.tmp 41) 36 rfl 53 i0 (.agg #[.int .i64 0, .int .i64 0]) 2 16 Try.underlying36 HZ.out.1 HZ.out.2.1 HZ.out.2.2.1 HZ.out.2.2.2 rfl (by decide) _ (m + 1) _ rfl HRxb.out.2.2.2.2.2 ⟨w15x.heap.size, 0, none⟩ 1 1 (encS (r1, r2)) rfl rfl (one_srcq HRxb.out.2.2.2.1) (encS_ok.one _) ?c3xb ?c4xb ?kkxb)
            case c3xb => have := HMB.out; unfold maxLen; omega
            case c4xb => have := HMB.out; omega
            case kkxb =>
              intro p9 c9 w16 hr1 hC hg
              have hR := HRxb.out
              have e1 : (cutC (L.take k) (lo, hi) ++ [(l1, l2)] ++ [(r1, r2)]).length = m + 1 + 1 := by rw [List.length_append, ← HM14.out]; rfl
              have hlr2 : LQ w (fun g => g = x3 ∨ g = x7) (.slice p9 (m + 1 + 1) c9) (cutC (L.take k) (lo, hi) ++ [(l1, l2)] ++ [(r1, r2)]) w16 := hR.1.grow hR.2.1.size (fun z hz => by rcases hz with rfl | rfl; exact hp_lt hR.2.2.1; exact hp_lt hR.2.2.2.2.1) (by
                rw [e1]; simp only [List.flatMap_append, List.flatMap_cons, List.flatMap_nil, List.append_nil, List.append_assoc] at hr1 ⊢; exact hr1)
              have HL16 := Lib.hid (And.intro hlr2 (And.intro (hR.1.hp hg hR.2.2.1 (.inl rfl)) (hR.1.grown hg hR.2.1)))
              have K16 := Lib.hid (hR.1.hp hg hR.2.2.2.2.1 (.inr rfl))
              have HM16 := Lib.hid e1.symm
              clear hR e1 hlr2 hr1 hC hg
              go_wp2
              go_roundw
              case rel =>
                have e2 : cutC (L.take (k + 1)) (lo, hi) = cutC (L.take k) (lo, hi) ++ [(l1, l2)] ++ [(r1, r2)] := by rw [HPC.out, pz_2, HP1.out, HP2.out]; simp
                exact ⟨k + 1, p9, m + 1 + 1, c9, rfl, by go_num, by omega, by rw [e2]; exact HM16.out, by rw [e2]; exact HL16.out.1.to (fun g _ hh => .inl hh), HL16.out.2.1, HL16.out.2.2⟩
              case measure => simp [intOf]; omega
          · have HP2 := Lib.hid (show (if (r1, r2).1 < (r1, r2).2 then [(r1, r2)] else ([] : List Sp)) = [] from if_neg hr)
            have HE2 := Lib.hid (fun w => by have := c_rempty r1 r2 w; rw [decide_eq_true (show r2 ≤ r1 by omega)] at this; exact this : ∀ w, Calls Try.prog 59 #[.agg #[.int .i64 r1, .int .i64 r2]] w fun e w' => e = .returned (.bool true) ∧ Below w.heap.size w w')
            clear hr
            go_wp2_with (go_at_call 59; (with_reducible refine (HE2.out _).mono ?_); rintro e w15 ⟨rfl, hb⟩; have HL15 := Lib.hid (And.intro (HL14.out.1.below hb) (And.intro (hp_below hb HL14.out.2.1) (below_call HL14.out.2.2 hb))); clear hb c7)
            go_roundw
            case rel =>
              have e2 : cutC (L.take (k + 1)) (lo, hi) = cutC (L.take k) (lo, hi) ++ [(l1, l2)] := by rw [HPC.out, pz_2, HP1.out, HP2.out]; simp
              exact ⟨k + 1, p8, m + 1, c8, rfl, by go_num, by omega, by rw [e2]; exact HM14.out, by rw [e2]; exact HL15.out.1.to (fun g _ hh => .inl hh), HL15.out.2.1, HL15.out.2.2⟩
            case measure => simp [intOf]; omega
      · have HP1 := Lib.hid (show pz (l1, l2) (r1, r2) 1 = [] by rw [pz_1, if_neg (show ¬ (l1, l2).1 < (l1, l2).2 from hl)])
        have HE1 := Lib.hid (fun w => by have := c_rempty l1 l2 w; rw [decide_eq_true (show l2 ≤ l1 by omega)] at this; exact this : ∀ w, Calls Try.prog 59 #[.agg #[.int .i64 l1, .int .i64 l2]] w fun e w' => e = .returned (.bool true) ∧ Below w.heap.size w w')
        clear hl
        have K7s := Lib.hid HS.out.2.2.2.2.1
        have HM0 := Lib.hid HI.out.2.1
        go_upto_region 8 with (go_at_call 59; (with_reducible refine (HE1.out _).mono ?_); rintro e w14 ⟨rfl, hb⟩; have HL14 := Lib.hid (And.intro (HL8.out.1.below hb) (And.intro (hp_below hb HL8.out.2.1) (below_call HL8.out.2.2 hb))); have K14 := Lib.hid (hp_below hb K7s.out); clear hb)
        clear c6
        have c7 := hp_cell K14.out
        by_cases hr : r1 < r2
        · have HP2 := Lib.hid (show (if (r1, r2).1 < (r1, r2).2 then [(r1, r2)] else ([] : List Sp)) = [(r1, r2)] from if_pos hr)
          have HE2 := Lib.hid (fun w => by have := c_rempty r1 r2 w; rw [decide_eq_false (show ¬ r2 ≤ r1 by omega)] at this; exact this : ∀ w, Calls Try.prog 59 #[.agg #[.int .i64 r1, .int .i64 r2]] w fun e w' => e = .returned (.bool false) ∧ Below w.heap.size w w')
          clear hr
          go_upto_region 9 with (go_at_call 59; (with_reducible refine (HE2.out _).mono ?_); rintro e w15y ⟨rfl, hb⟩; have HL15y := Lib.hid (And.intro (HL14.out.1.below hb) (And.intro (hp_below hb HL14.out.2.1) (below_call HL14.out.2.2 hb))); have K15y := Lib.hid (hp_below hb K14.out); replace c7 := hp_cell (hp_below hb K14.out); clear hb)
          have hb12 := below_alloc (Below.refl w15y.heap.size w15y) (.cells #[.int .i64 r1, .int .i64 r2] 53 (0, 0))
          have hlr12 := HL15y.out.1.below hb12
          have hl0 : Row (own (.slice q m cq)) 1 (w15y.alloc (.cells #[.int .i64 r1, .int .i64 r2] 53 (0, 0))) 53 2 (.slice q m cq) (m) ((cutC (L.take k) (lo, hi)).flatMap encS) := by have e := hlr12.1; rw [← HM0.out] at e; exact e
          have HRyb := Lib.hid (And.intro hlr12 (And.intro (below_call HL15y.out.2.2 hb12) (And.intro (hp_below hb12 HL15y.out.2.1) (And.intro (hp_alloc_new w15y (.cells #[.int .i64 r1, .int .i64 r2] 53)) (And.intro (hp_below hb12 K15y.out) hl0)))))
          clear hb12 hlr12 hl0
          go_wp2_with (at_builtin; refine wpList_append_col rfl (.tmp 39) (.tmp 41) 36 rfl 53 i0 (.agg #[.int .i64 0, .int .i64 0]) 2 16 Try.underlying36 HZ.out.1 HZ.out.2.1 HZ.out.2.2.1 HZ.out.2.2.2 rfl (by decide) _ (m) _ rfl HRyb.out.2.2.2.2.2 ⟨w15y.heap.size, 0, none⟩ 1 1 (encS (r1, r2)) rfl rfl (one_srcq HRyb.out.2.2.2.1) (encS_ok.one _) ?c3yb ?c4yb ?kkyb)
          case c3yb => have := HMB.out; unfold maxLen; omega
          case c4yb => have := HMB.out; omega
          case kkyb =>
            intro p9 c9 w16 hr1 hC hg
            have hR := HRyb.out
            have e1 : (cutC (L.take k) (lo, hi) ++ [(r1, r2)]).length = m + 1 := by rw [List.length_append, ← HM0.out]; rfl
            have hlr2 : LQ w (fun g => g = x3 ∨ g = x7) (.slice p9 (m + 1) c9) (cutC (L.take k) (lo, hi) ++ [(r1, r2)]) w16 := hR.1.grow hR.2.1.size (fun z hz => by rcases hz with rfl | rfl; exact hp_lt hR.2.2.1; exact hp_lt hR.2.2.2.2.1) (by
              rw [e1]; simp only [List.flatMap_append, List.flatMap_cons, List.flatMap_nil, List.append_nil, List.append_assoc] at hr1 ⊢; exact hr1)
            have HL16 := Lib.hid (And.intro hlr2 (And.intro (hR.1.hp hg hR.2.2.1 (.inl rfl)) (hR.1.grown hg hR.2.1)))
            have K16 := Lib.hid (hR.1.hp hg hR.2.2.2.2.1 (.inr rfl))
            have HM16 := Lib.hid e1.symm
            clear hR e1 hlr2 hr1 hC hg
            go_wp2
            go_roundw
            case rel =>
              have e2 : cutC (L.take (k + 1)) (lo, hi) = cutC (L.take k) (lo, hi) ++ [(r1, r2)] := by rw [HPC.out, pz_2, HP1.out, HP2.out]; simp
              exact ⟨k + 1, p9, m + 1, c9, rfl, by go_num, by omega, by rw [e2]; exact HM16.out, by rw [e2]; exact HL16.out.1.to (fun g _ hh => .inl hh), HL16.out.2.1, HL16.out.2.2⟩
            case measure => simp [intOf]; omega
        · have HP2 := Lib.hid (show (if (r1, r2).1 < (r1, r2).2 then [(r1, r2)] else ([] : List Sp)) = [] from if_neg hr)
          have HE2 := Lib.hid (fun w => by have := c_rempty r1 r2 w; rw [decide_eq_true (show r2 ≤ r1 by omega)] at this; exact this : ∀ w, Calls Try.prog 59 #[.agg #[.int .i64 r1, .int .i64 r2]] w fun e w' => e = .returned (.bool true) ∧ Below w.heap.size w w')
          clear hr
          go_wp2_with (go_at_call 59; (with_reducible refine (HE2.out _).mono ?_); rintro e w15 ⟨rfl, hb⟩; have HL15 := Lib.hid (And.intro (HL14.out.1.below hb) (And.intro (hp_below hb HL14.out.2.1) (below_call HL14.out.2.2 hb))); clear hb c7)
          go_roundw
          case rel =>
            have e2 : cutC (L.take (k + 1)) (lo, hi) = cutC (L.take k) (lo, hi) := by rw [HPC.out, pz_2, HP1.out, HP2.out]; simp
            exact ⟨k + 1, q, m, cq, rfl, by go_num, by omega, by rw [e2]; exact HM0.out, by rw [e2]; exact HL15.out.1.to (fun g _ hh => .inl hh), HL15.out.2.1, HL15.out.2.2⟩
          case measure => simp [intOf]; omega
    · obtain rfl : k = n := by have := HI.out.1; omega
      have b1 : ¬ ((k : Int) < (k : Int)) := by omega
      have hI := HI.out
      have hb' := hp_below hI.2.2.2.2 HC.out.1.hp
      have c9 := hp_cell hb'
      have f9 := hp_free hb'
      have HB9 := Lib.hid hb'
      clear hb' hI kx hB
      go_wp2
      refine bodyPost_end (results_none rfl _ _ _) rfl ?_
      have hI := HI.out
      have ek : L.take k = L := by rw [← HC.out.2.2]; exact List.take_length
      rw [ek] at hI
      have hbl := hp_lt HC.out.1.hp
      have hrow := hI.2.2.1.1.set (p := ⟨b, 0, none⟩) (fun e => by have := (hI.2.2.1.2 b e).1; omega) (.slice q m cq)
      exact ⟨rfl, ⟨_, ⟨hp_set HB9.out _, paint_of HC.out.1.col⟩, hrow.recol fun g hg => paint_new (hI.2.2.1.2 g hg).1⟩, (Ch.of_below hI.2.2.2.2).setCell (p := ⟨b, 0, none⟩) (paint_of HC.out.1.col) _⟩
end Go.Proofs.Ytnofclmnjhkhiaa
