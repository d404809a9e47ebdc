/- Cut. -/
import Derived.Test.YtnofclmnjhkhiaaCc
import Derived.WalkKit
import Derived.WalkLawsBesides
import Derived.WalkSpells
import Derived.Below
import Derived.Deep.RegionHeld3
import Derived.Deep.QuietTactic
import Derived.BigQuiet
import Derived.Deep.DeepCutAuto
import Derived.Deep.DeepMust
import Derived.KernelRfl
import Derived.Lib.Hide
import Derived.Outline
import Derived.RegionTactic
import Derived.StillTailTactics
namespace Go.Proofs.Ytnofclmnjhkhiaa
open Go.RowKit Go.Cl Go.Cv
set_option maxRecDepth 100000
set_option linter.unusedVariables false
set_option linter.unusedSimpArgs false

set_option maxHeartbeats 8000000 in
theorem cut_some (col : Nat → Nat) (i : Nat) (w : World) (b : Nat) (L : List Sp) (h : CvO col i w b L) (hw : Wf L) (hn : L.length ≤ 8796093022206) (lo hi : Int) (hlh : lo < hi) :
    Calls Try.prog 12 #[.pointer (some ⟨b, 0, none⟩), .agg #[.int .i64 lo, .int .i64 hi]] w fun e w' => e = .returned (.tuple #[]) ∧ CvO (paint col w i) i w' b (cutL (lo, hi) L) ∧ Ch col i w w' := by
  obtain ⟨i0, hi0, hz0, hz1, hz2⟩ := info_parts Try.info30
  have HZ := Lib.hid (And.intro hi0 (And.intro hz0 (And.intro hz1 hz2)))
  have HCV := Lib.hid h; have HW := Lib.hid hw; have HN := Lib.hid hn
  have he : ∀ w, Calls Try.prog 31 #[.agg #[.int .i64 lo, .int .i64 hi]] w fun e w' => e = .returned (.bool false) ∧ Below w.heap.size w w' := fun w => by have := c_empty lo hi w; rw [decide_eq_false (show ¬ hi ≤ lo by omega)] at this; exact this
  obtain ⟨v, hb, hr⟩ := h.ex
  obtain ⟨p, cp, rfl⟩ := hr.form
  obtain ⟨n, hnn⟩ : ∃ n, L.length = n := ⟨_, rfl⟩
  have hrd := row_rdl hr
  rw [hnn] at hb hrd
  have HC := Lib.hid (And.intro he (And.intro hb (And.intro hrd (And.intro hnn hlh))))
  clear he hr h hw hn hlh hi0 hz0 hz1 hz2 hrd
  rw [hnn] at HN
  clear hnn
  go_enter Try.func12, Try.ntmps12
  go_upto_region 1 with fail
  refine Ph.at_world ?_; intro W1 hW
  have k3 : hp W1 w.heap.size = some (.cells #[.int .i64 lo, .int .i64 hi] 30 (0, 0)) := by rw [hW]; simp [hpA]
  have HB1 := Lib.hid (show Below w.heap.size w W1 by rw [hW]; exact below_alloc (Below.refl _ _) _)
  clear hW
  have K1 := Lib.hid k3
  have c3 := hp_cell k3
  clear k3
  go_upto_region 3 with (go_at_call 31; (with_reducible refine (HC.out.1 _).mono ?_); rintro e w1 ⟨rfl, hb1⟩; have HB2 := Lib.hid (below_call HB1.out hb1); have K2 := Lib.hid (hp_below hb1 K1.out); clear hb1 c3)
  have c0 := cell_below HB2.out (show w.cell? ⟨b, 0, none⟩ = some (.slice p n cp) by rw [hp_cell hb.hp]; rfl)
  clear hb
  obtain ⟨x3, hx3⟩ : ∃ x3, w.heap.size = x3 := ⟨_, rfl⟩
  have k2 := K2.out
  rw [hx3] at k2 ⊢
  have HX := Lib.hid hx3; clear hx3
  go_wp2
  clear c0
  go_loopw [4, 22] (fun z t wr => ∃ (k : Nat) (q : Option Addr) (m cq : Nat), z = .slice q m cq ∧ t = .int .i64 k ∧ k ≤ n ∧ m = (cutL (lo, hi) (L.take k)).length ∧ LR w (fun g => g = x3) (.slice q m cq) (cutL (lo, hi) (L.take k)) wr ∧ hp wr x3 = some (.cells #[.int .i64 lo, .int .i64 hi] 30 (0, 0)) ∧ Below w.heap.size w wr) (fun _ t _ => n - (intOf t).toNat)
  case atStart => exact ⟨0, none, 0, 0, rfl, rfl, Nat.zero_le _, rfl, LR.nil, k2, HB2.out⟩
  case round =>
    clear k2
    obtain ⟨k, q, m, cq, rfl, rfl, hk, hm, hlr, kx, hB⟩ := hrel
    have HI := Lib.hid (And.intro hk (And.intro hm (And.intro hlr (And.intro kx hB))))
    clear hk hm hlr
    by_cases hlt : k < n
    · have b1 : (k : Int) < (n : Int) := by omega
      have w1' : IntKind.i64.wrap ((k : Int) + 1) = (k : Int) + 1 := IntWalk.i64_in _ (by have := HN.out; omega)
      obtain ⟨a, ha⟩ := get_lt (L := L) (k := k) (by rw [HC.out.2.2.2.1]; exact hlt)
      obtain ⟨g, o, rfl, y1, y2⟩ := (HC.out.2.2.1.below hB).at ha
      have HA := Lib.hid ha; clear ha
      obtain ⟨a1, a2⟩ := a
      have hct := fun w => c_cut a1 a2 lo hi HC.out.2.2.2.2 w
      generalize hl : ofS a1 (min a2 lo) = l at hct
      generalize hrr : ofS (max a1 hi) a2 = r at hct
      obtain ⟨l1, l2⟩ := l
      obtain ⟨r1, r2⟩ := r
      have hct' : ∀ w, Calls Try.prog 32 #[.agg #[.int .i64 a1, .int .i64 a2], .agg #[.int .i64 lo, .int .i64 hi]] w fun e w' => e = .returned (.tuple #[.agg #[.int .i64 l1, .int .i64 l2], .agg #[.int .i64 r1, .int .i64 r2]]) ∧ Below w.heap.size w w' := hct
      have HCT := Lib.hid hct'
      have hpc : pcs (lo, hi) (a1, a2) = pz (l1, l2) (r1, r2) 2 := by rw [pcs_eq]; show pz (ofS a1 (min a2 lo)) (ofS (max a1 hi) a2) 2 = _; rw [hl, hrr]
      have HPC := Lib.hid hpc
      clear hct hct' hl hrr hpc
      go_upto_region 6 with fail
      refine Ph.at_world ?_; intro W6 hW
      have k6 : hp W6 wr.heap.size = some (.cells #[.int .i64 a1, .int .i64 a2] 30 (0, 0)) := by rw [hW]; simp [hpA, hpS, cset_cells]
      have hB6 : Below wr.heap.size wr W6 := by rw [hW]; exact by (repeat (first | (with_reducible assumption) | (with_reducible exact Below.refl _ _) | (with_reducible refine below_set ?_ (by first | assumption | (simp; done) | (simp; omega) | omega) _) | (with_reducible apply below_alloc) | (with_reducible apply below_drew) | (with_reducible apply below_drewN) | (with_reducible refine below_call ?_ (by assumption))))
      clear hW y1 y2
      have K6 := Lib.hid (And.intro (hp_below hB6 kx) hB6)
      have c6 := hp_cell k6
      have cx := hp_cell (hp_below hB6 kx)
      clear k6 hB6 kx hB
      go_upto_region 7 with (go_at_call 32; (with_reducible refine (HCT.out _).mono ?_); rintro e w7 ⟨rfl, hb7⟩; have HB7 := Lib.hid (below_call K6.out.2 hb7); clear hb7 c6 cx)
      refine Ph.at_world ?_; intro W8 hW
      have k7 : hp W8 w7.heap.size = some (.cells #[.int .i64 l1, .int .i64 l2] 30 (0, 0)) := by rw [hW]; simp [hpA, hpS, cset_cells]
      have k8 : hp W8 (w7.heap.size + 1) = some (.cells #[.int .i64 r1, .int .i64 r2] 30 (0, 0)) := by rw [hW]; simp [hpA, hpS, cset_cells]
      have hB8 : Below w7.heap.size w7 W8 := by
        have n1 : w7.heap.size ≤ w7.heap.size + 1 := by omega
        rw [hW]; exact by (repeat (first | (with_reducible assumption) | (with_reducible exact Below.refl _ _) | (with_reducible refine below_set ?_ (by first | assumption | (simp; done) | (simp; omega) | omega) _) | (with_reducible apply below_alloc) | (with_reducible apply below_drew) | (with_reducible apply below_drewN) | (with_reducible refine below_call ?_ (by assumption))))
      clear hW
      have HB8 := Lib.hid (below_call HB7.out hB8)
      have c7 := hp_cell k7
      have c8 := hp_cell k8
      clear k7 k8 hB8
      go_upto_region 8 with fail
      refine Ph.at_world ?_; intro W9 hW
      obtain ⟨gb, hgb⟩ : ∃ gb, W8.heap.size = gb := ⟨_, rfl⟩
      have k9 : hp W9 gb = some (.cells #[.int .i64 l1, .int .i64 l2, .int .i64 r1, .int .i64 r2] 30 (0, 0)) := by rw [hW, ← hgb]; exact hp_alloc_new _ _
      have hB9 : Below wr.heap.size wr W9 := by rw [hW]; exact below_call HB8.out (below_alloc (Below.refl _ _) _)
      have hwr : wr.heap.size ≤ gb := by have := HB8.out.size; omega
      rw [hgb]
      clear hW hgb c7 c8
      have HS := Lib.hid (And.intro hB9 hwr)
      have HK9 := Lib.hid k9
      clear hB9 hwr k9
      go_loopw [4, 36] (fun z t W => ∃ (j : Nat) (q' : Option Addr) (m' cq' : Nat), z = .slice q' m' cq' ∧ t = .int .i64 j ∧ j ≤ 2 ∧ m' = (cutL (lo, hi) (L.take k) ++ pz (l1, l2) (r1, r2) j).length ∧ LR w (fun g => g = x3 ∨ g = gb) (.slice q' m' cq') (cutL (lo, hi) (L.take k) ++ pz (l1, l2) (r1, r2) j) W ∧ hp W x3 = some (.cells #[.int .i64 lo, .int .i64 hi] 30 (0, 0)) ∧ hp W gb = some (.cells #[.int .i64 l1, .int .i64 l2, .int .i64 r1, .int .i64 r2] 30 (0, 0)) ∧ Below w.heap.size w W) (fun _ t _ => 2 - (intOf t).toNat)
      case atStart =>
        have hI := HI.out
        refine ⟨0, q, m, cq, rfl, rfl, Nat.zero_le _, by rw [pz_0, List.append_nil]; exact hI.2.1, ?_, hp_below HS.out.1 hI.2.2.2.1, HK9.out, below_call hI.2.2.2.2 HS.out.1⟩
        rw [pz_0, List.append_nil]
        exact (hI.2.2.1.to (fun g hg hh => by rcases hh with e | e; exact e; have := HS.out.2; omega)).below HS.out.1
      case round =>
        obtain ⟨j, q', m', cq', rfl, rfl, hj, hm', hlr', kx', kg', hB'⟩ := hrel
        have HJ := Lib.hid (And.intro hm' (And.intro hlr' (And.intro kx' (And.intro kg' hB'))))
        clear hm' hlr' kx' hB'
        by_cases h2 : j < 2
        · have hj2 : j = 0 ∨ j = 1 := by omega
          clear hj h2
          rcases hj2 with rfl | rfl
          · have cg0 := hp_cell kg'
            have b2 : ((0 : Nat) : Int) < 2 := by omega
            clear kg'
            go_upto_region 10 with fail
            refine Ph.at_world ?_; intro W10 hW
            have k10 : hp W10 wr.heap.size = some (.cells #[.int .i64 l1, .int .i64 l2] 30 (0, 0)) := by rw [hW]; simp [hpA, hpS, cset_cells]
            have hB10 : Below wr.heap.size wr W10 := by rw [hW]; exact by (repeat (first | (with_reducible assumption) | (with_reducible exact Below.refl _ _) | (with_reducible refine below_set ?_ (by first | assumption | (simp; done) | (simp; omega) | omega) _) | (with_reducible apply below_alloc) | (with_reducible apply below_drew) | (with_reducible apply below_drewN) | (with_reducible refine below_call ?_ (by assumption))))
            clear hW cg0
            have HB10 := Lib.hid (And.intro hB10 k10)
            have c10 := hp_cell k10
            clear hB10 k10
            by_cases hc : l2 ≤ l1
            · have he1 : ∀ w, Calls Try.prog 31 #[.agg #[.int .i64 l1, .int .i64 l2]] w fun e w' => e = .returned (.bool true) ∧ Below w.heap.size w w' := fun w => by have := c_empty l1 l2 w; rw [decide_eq_true hc] at this; exact this
              have HE1 := Lib.hid he1
              have HPZ := Lib.hid (show pz (l1, l2) (r1, r2) (0 + 1) = pz (l1, l2) (r1, r2) 0 by rw [pz_1, if_neg (by show ¬ l1 < l2; omega)]; rfl)
              clear he1 hc
              go_wp2_with (go_at_call 31; (with_reducible refine (HE1.out _).mono ?_); rintro e w11 ⟨rfl, hb⟩; have HB11 := Lib.hid (below_call HB10.out.1 hb); clear hb c10)
              go_roundw
              case rel =>
                have hJ := HJ.out
                exact ⟨0 + 1, q', m', cq', rfl, by first | rfl | go_num, by omega, by rw [HPZ.out]; exact hJ.1, by rw [HPZ.out]; exact hJ.2.1.below HB11.out, hp_below HB11.out hJ.2.2.1, hp_below HB11.out hJ.2.2.2.1, below_call hJ.2.2.2.2 HB11.out⟩
              case measure => simp [intOf]
            · have he1 : ∀ w, Calls Try.prog 31 #[.agg #[.int .i64 l1, .int .i64 l2]] w fun e w' => e = .returned (.bool false) ∧ Below w.heap.size w w' := fun w => by have := c_empty l1 l2 w; rw [decide_eq_false hc] at this; exact this
              have HE1 := Lib.hid he1
              have HPZ := Lib.hid (show pz (l1, l2) (r1, r2) (0 + 1) = pz (l1, l2) (r1, r2) 0 ++ [(l1, l2)] by rw [pz_1, if_pos (by show l1 < l2; omega)]; rfl)
              clear he1 hc
              go_upto_region 11 with (go_at_call 31; (with_reducible refine (HE1.out _).mono ?_); rintro e w11 ⟨rfl, hb⟩; have HB11 := Lib.hid (And.intro (below_call HB10.out.1 hb) (hp_below hb HB10.out.2)); replace c10 := hp_cell (hp_below hb HB10.out.2); clear hb)
              have hb12 := below_alloc (Below.refl w11.heap.size w11) (.cells #[.int .i64 l1, .int .i64 l2] 30 (0, 0))
              have hbT := below_call HB11.out.1 hb12
              have hJ := HJ.out
              have hlr12 := hJ.2.1.below hbT
              have hbA := below_call hJ.2.2.2.2 hbT
              have HR := Lib.hid (And.intro hlr12 (And.intro hbA (And.intro (hp_below hbT hJ.2.2.1) (And.intro (hp_below hbT hJ.2.2.2.1) (hp_alloc_new w11 (.cells #[.int .i64 l1, .int .i64 l2] 30))))))
              have hmb : m' ≤ 8796093022207 := by
                have h1 := cutL_len (lo, hi) HC.out.2.2.2.2 (L.take k) (Wf.take HW.out k)
                have h3 := pz_len (l1, l2) (r1, r2) 0 (by omega)
                have h4 := hJ.1
                have h5 := HN.out
                rw [List.length_take] at h1
                rw [List.length_append] at h4
                omega
              have HMB := Lib.hid hmb
              have HMM := Lib.hid hJ.1
              have hl0 : Row (own (.slice q' m' cq')) 1 (w11.alloc (.cells #[.int .i64 l1, .int .i64 l2] 30 (0, 0))) 30 2 (.slice q' m' cq') m' ((cutL (lo, hi) (L.take k) ++ pz (l1, l2) (r1, r2) 0).flatMap encS) := by have e := hlr12.1; rw [← hJ.1] at e; exact e
              have HL0 := Lib.hid hl0
              clear hb12 hbT hJ hlr12 hbA hmb hl0
              go_wp2_with (at_builtin; refine wpList_append_col rfl (.tmp 43) (.tmp 45) 58 rfl 30 i0 (.agg #[.int .i64 0, .int .i64 0]) 2 16 Try.underlying58 HZ.out.1 HZ.out.2.1 HZ.out.2.2.1 HZ.out.2.2.2 rfl (by decide) _ m' _ rfl HL0.out ⟨w11.heap.size, 0, none⟩ 1 1 (encS (l1, l2)) rfl rfl (one_src HR.out.2.2.2.2) (encS_ok.one _) ?c30 ?c40 ?kk0)
              case c30 => have := HMB.out; unfold maxLen; omega
              case c40 => have := HMB.out; omega
              case kk0 =>
                intro p' c' w12 hr1 hC hg
                have hR := HR.out
                have e1 : (cutL (lo, hi) (L.take k) ++ pz (l1, l2) (r1, r2) (0 + 1)).length = m' + 1 := by rw [HPZ.out, ← List.append_assoc, List.length_append, ← HMM.out]; rfl
                have hlr2 : LR w (fun g => g = x3 ∨ g = gb) (.slice p' (m' + 1) c') (cutL (lo, hi) (L.take k) ++ pz (l1, l2) (r1, r2) (0 + 1)) w12 := hR.1.grow hR.2.1.size (fun z hz => by rcases hz with rfl | rfl; exact hp_lt hR.2.2.1; exact hp_lt hR.2.2.2.1) (by
                  rw [e1, HPZ.out, ← List.append_assoc, List.flatMap_append]
                  have : List.flatMap encS [(l1, l2)] = encS (l1, l2) := by simp
                  rw [this]; simp only [List.flatMap_append, List.append_assoc] at hr1 ⊢; exact hr1)
                have hB2 := hR.1.grown hg hR.2.1
                have hx2 := hR.1.hp hg hR.2.2.1 (.inl rfl)
                have hg2 := hR.1.hp hg hR.2.2.2.1 (.inr rfl)
                have HF := Lib.hid (And.intro e1 (And.intro hlr2 (And.intro hx2 (And.intro hg2 hB2))))
                clear hR e1 hlr2 hB2 hx2 hg2 hr1 hC hg
                go_wp2
                go_roundw
                case rel => exact ⟨0 + 1, p', m' + 1, c', rfl, by first | rfl | go_num, by omega, HF.out.1.symm, HF.out.2.1, HF.out.2.2.1, HF.out.2.2.2.1, HF.out.2.2.2.2⟩
                case measure => simp [intOf]
          · have cg0 := hp_cell kg'
            have b2 : ((1 : Nat) : Int) < 2 := by omega
            clear kg'
            go_upto_region 10 with fail
            refine Ph.at_world ?_; intro W10 hW
            have k10 : hp W10 wr.heap.size = some (.cells #[.int .i64 r1, .int .i64 r2] 30 (0, 0)) := by rw [hW]; simp [hpA, hpS, cset_cells]
            have hB10 : Below wr.heap.size wr W10 := by rw [hW]; exact by (repeat (first | (with_reducible assumption) | (with_reducible exact Below.refl _ _) | (with_reducible refine below_set ?_ (by first | assumption | (simp; done) | (simp; omega) | omega) _) | (with_reducible apply below_alloc) | (with_reducible apply below_drew) | (with_reducible apply below_drewN) | (with_reducible refine below_call ?_ (by assumption))))
            clear hW cg0
            have HB10 := Lib.hid (And.intro hB10 k10)
            have c10 := hp_cell k10
            clear hB10 k10
            by_cases hc : r2 ≤ r1
            · have he1 : ∀ w, Calls Try.prog 31 #[.agg #[.int .i64 r1, .int .i64 r2]] w fun e w' => e = .returned (.bool true) ∧ Below w.heap.size w w' := fun w => by have := c_empty r1 r2 w; rw [decide_eq_true hc] at this; exact this
              have HE1 := Lib.hid he1
              have HPZ := Lib.hid (show pz (l1, l2) (r1, r2) (1 + 1) = pz (l1, l2) (r1, r2) 1 by rw [pz_2, if_neg (by show ¬ r1 < r2; omega)]; exact List.append_nil _)
              clear he1 hc
              go_wp2_with (go_at_call 31; (with_reducible refine (HE1.out _).mono ?_); rintro e w11 ⟨rfl, hb⟩; have HB11 := Lib.hid (below_call HB10.out.1 hb); clear hb c10)
              go_roundw
              case rel =>
                have hJ := HJ.out
                exact ⟨1 + 1, q', m', cq', rfl, by first | rfl | go_num, by omega, by rw [HPZ.out]; exact hJ.1, by rw [HPZ.out]; exact hJ.2.1.below HB11.out, hp_below HB11.out hJ.2.2.1, hp_below HB11.out hJ.2.2.2.1, below_call hJ.2.2.2.2 HB11.out⟩
              case measure => simp [intOf]
            · have he1 : ∀ w, Calls Try.prog 31 #[.agg #[.int .i64 r1, .int .i64 r2]] w fun e w' => e = .returned (.bool false) ∧ Below w.heap.size w w' := fun w => by have := c_empty r1 r2 w; rw [decide_eq_false hc] at this; exact this
              have HE1 := Lib.hid he1
              have HPZ := Lib.hid (show pz (l1, l2) (r1, r2) (1 + 1) = pz (l1, l2) (r1, r2) 1 ++ [(r1, r2)] by rw [pz_2, if_pos (by show r1 < r2; omega)])
              clear he1 hc
              go_upto_region 11 with (go_at_call 31; (with_reducible refine (HE1.out _).mono ?_); rintro e w11 ⟨rfl, hb⟩; have HB11 := Lib.hid (And.intro (below_call HB10.out.1 hb) (hp_below hb HB10.out.2)); replace c10 := hp_cell (hp_below hb HB10.out.2); clear hb)
              have hb12 := below_alloc (Below.refl w11.heap.size w11) (.cells #[.int .i64 r1, .int .i64 r2] 30 (0, 0))
              have hbT := below_call HB11.out.1 hb12
              have hJ := HJ.out
              have hlr12 := hJ.2.1.below hbT
              have hbA := below_call hJ.2.2.2.2 hbT
              have HR := Lib.hid (And.intro hlr12 (And.intro hbA (And.intro (hp_below hbT hJ.2.2.1) (And.intro (hp_below hbT hJ.2.2.2.1) (hp_alloc_new w11 (.cells #[.int .i64 r1, .int .i64 r2] 30))))))
              have hmb : m' ≤ 8796093022207 := by
                have h1 := cutL_len (lo, hi) HC.out.2.2.2.2 (L.take k) (Wf.take HW.out k)
                have h3 := pz_len (l1, l2) (r1, r2) 1 (by omega)
                have h4 := hJ.1
                have h5 := HN.out
                rw [List.length_take] at h1
                rw [List.length_append] at h4
                omega
              have HMB := Lib.hid hmb
              have HMM := Lib.hid hJ.1
              have hl0 : Row (own (.slice q' m' cq')) 1 (w11.alloc (.cells #[.int .i64 r1, .int .i64 r2] 30 (0, 0))) 30 2 (.slice q' m' cq') m' ((cutL (lo, hi) (L.take k) ++ pz (l1, l2) (r1, r2) 1).flatMap encS) := by have e := hlr12.1; rw [← hJ.1] at e; exact e
              have HL0 := Lib.hid hl0
              clear hb12 hbT hJ hlr12 hbA hmb hl0
              go_wp2_with (at_builtin; refine wpList_append_col rfl (.tmp 43) (.tmp 45) 58 rfl 30 i0 (.agg #[.int .i64 0, .int .i64 0]) 2 16 Try.underlying58 HZ.out.1 HZ.out.2.1 HZ.out.2.2.1 HZ.out.2.2.2 rfl (by decide) _ m' _ rfl HL0.out ⟨w11.heap.size, 0, none⟩ 1 1 (encS (r1, r2)) rfl rfl (one_src HR.out.2.2.2.2) (encS_ok.one _) ?c31 ?c41 ?kk1)
              case c31 => have := HMB.out; unfold maxLen; omega
              case c41 => have := HMB.out; omega
              case kk1 =>
                intro p' c' w12 hr1 hC hg
                have hR := HR.out
                have e1 : (cutL (lo, hi) (L.take k) ++ pz (l1, l2) (r1, r2) (1 + 1)).length = m' + 1 := by rw [HPZ.out, ← List.append_assoc, List.length_append, ← HMM.out]; rfl
                have hlr2 : LR w (fun g => g = x3 ∨ g = gb) (.slice p' (m' + 1) c') (cutL (lo, hi) (L.take k) ++ pz (l1, l2) (r1, r2) (1 + 1)) w12 := hR.1.grow hR.2.1.size (fun z hz => by rcases hz with rfl | rfl; exact hp_lt hR.2.2.1; exact hp_lt hR.2.2.2.1) (by
                  rw [e1, HPZ.out, ← List.append_assoc, List.flatMap_append]
                  have : List.flatMap encS [(r1, r2)] = encS (r1, r2) := by simp
                  rw [this]; simp only [List.flatMap_append, List.append_assoc] at hr1 ⊢; exact hr1)
                have hB2 := hR.1.grown hg hR.2.1
                have hx2 := hR.1.hp hg hR.2.2.1 (.inl rfl)
                have hg2 := hR.1.hp hg hR.2.2.2.1 (.inr rfl)
                have HF := Lib.hid (And.intro e1 (And.intro hlr2 (And.intro hx2 (And.intro hg2 hB2))))
                clear hR e1 hlr2 hB2 hx2 hg2 hr1 hC hg
                go_wp2
                go_roundw
                case rel => exact ⟨1 + 1, p', m' + 1, c', rfl, by first | rfl | go_num, by omega, HF.out.1.symm, HF.out.2.1, HF.out.2.2.1, HF.out.2.2.2.1, HF.out.2.2.2.2⟩
                case measure => simp [intOf]
        · obtain rfl : j = 2 := by omega
          clear hj h2 kg'
          go_wp2
          go_roundw
          case rel =>
            have hJ := HJ.out
            have e : cutL (lo, hi) (L.take (k + 1)) = cutL (lo, hi) (L.take k) ++ pz (l1, l2) (r1, r2) 2 := by rw [cut_take _ _ _ _ HA.out, HPC.out]
            exact ⟨k + 1, q', m', cq', rfl, by go_num, by omega, by rw [e]; exact hJ.1, by rw [e]; exact hJ.2.1.to (fun g _ hh => .inl hh), hJ.2.2.1, hJ.2.2.2.2⟩
          case measure => simp [intOf]; omega
    · obtain rfl : k = n := by have := HI.out.1; omega
      have b1 : ¬ ((k : Int) < (k : Int)) := by omega
      have hI := HI.out
      have hb' := hp_below hI.2.2.2.2 HC.out.2.1.hp
      have c9 := hp_cell hb'
      have f9 := hp_free hb'
      have HB9 := Lib.hid hb'
      clear hb' hI kx hB
      go_wp2
      refine bodyPost_end (results_none rfl _ _ _) rfl ?_
      have hI := HI.out
      have ek : L.take k = L := by rw [← HC.out.2.2.2.1]; exact List.take_length
      rw [ek] at hI
      have hbl := hp_lt HC.out.2.1.hp
      have hrow := hI.2.2.1.1.set (p := ⟨b, 0, none⟩) (fun e => by have := (hI.2.2.1.2 b e).1; omega) (.slice q m cq)
      exact ⟨rfl, ⟨_, ⟨hp_set HB9.out _, paint_of HC.out.2.1.col⟩, hrow.recol fun g hg => paint_new (hI.2.2.1.2 g hg).1⟩, (Ch.of_below hI.2.2.2.2).setCell (p := ⟨b, 0, none⟩) (paint_of HC.out.2.1.col) _⟩
end Go.Proofs.Ytnofclmnjhkhiaa
