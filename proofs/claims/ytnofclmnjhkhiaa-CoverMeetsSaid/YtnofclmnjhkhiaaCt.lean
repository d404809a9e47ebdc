/- CoverMeets: the walk. -/
import Derived.Test.YtnofclmnjhkhiaaCx2
import Derived.Test.YtnofclmnjhkhiaaRm
import Derived.Test.YtnofclmnjhkhiaaCl4
import Derived.RangeFuncNested
import Derived.RangeFuncBound
import Derived.RangeFuncCalls
import Derived.RangeFuncLeaves
import Derived.Shelf.Abstract
import Derived.Shelf.RegionOpen
import Derived.OwnWalkIn
import Derived.TacticsInMore
import Derived.LoopNIn
import Derived.LoopIn
import Derived.Sort.CutIn
import Derived.Maps.AppendAt
import Derived.WalkKit
import Derived.WalkLawsBesides
import Derived.WalkSpells
import Derived.Below
import Derived.Deep.RegionHeld3
import Derived.Deep.QuietTactic
import Derived.BigQuiet
import Derived.Deep.DeepCutAuto
import Derived.Deep.DeepMust
import Derived.KernelRfl
import Derived.Lib.Hide
import Derived.Outline
import Derived.RegionTactic
import Derived.StillTailTactics
namespace Go.Proofs.Ytnofclmnjhkhiaa
open Go.RowKit Go.Cl Go.Cv
set_option maxRecDepth 100000
set_option linter.unusedVariables false
set_option linter.unusedSimpArgs false
open Go.Shelf
attribute [local go_sem] Oper.semAt_some

theorem rv_newI {col : Nat → Nat} {i : Nat} {w W : World} {r : Nat} (hr : w.heap.size = r) (hW : hp W r = some (.cells #[.slice none 0 0] 38 (0, 0))) : RvO (paint col w i) i W r [] :=
  ⟨_, ⟨hW, paint_new (by omega)⟩, Row.nil'⟩
def fs (x : Nat) : Nat := if x = 1 then 3 else if x = 2 then 4 else if x = 3 then 1 else if x = 4 then 2 else x
theorem CvO.recolF {c : Nat → Nat} {i : Nat} {w : World} {b : Nat} {L : List Sp} (h : CvO c i w b L) (f : Nat → Nat) : CvO (fun k => f (c k)) (f i) w b L := by
  obtain ⟨v, h1, h2⟩ := h.ex
  exact ⟨v, ⟨h1.hp, by show f (c b) = f i; rw [h1.col]⟩, h2.recol fun g hg => by show f (c g) = f i; rw [h2.col g hg]⟩
theorem RvO.recolF {c : Nat → Nat} {i : Nat} {w : World} {b : Nat} {L : List Sp} (h : RvO c i w b L) (f : Nat → Nat) : RvO (fun k => f (c k)) (f i) w b L := by
  obtain ⟨v, h1, h2⟩ := h.ex
  exact ⟨v, ⟨h1.hp, by show f (c b) = f i; rw [h1.col]⟩, h2.recol fun g hg => by show f (c g) = f i; rw [h2.col g hg]⟩
theorem mv_below {S : List Nat} {c c' : Nat → Nat} {w W W' : World} (h : Mv S c W c' W') (hb : Below w.heap.size w W) (h0 : ∀ k, k < w.heap.size → c k ∉ S) : Below w.heap.size w W' :=
  hb.trans ⟨h.os, h.tape, h.output, h.size, fun k hk => h.block k (Nat.lt_of_lt_of_le hk hb.size) (h0 k hk)⟩
theorem cvN_of {W : World} {b : Nat} {L : List Sp} (h : CvR W b L) : CvN W (some ⟨b, 0, none⟩) L := .inr ⟨b, rfl, h⟩
theorem c_listedN (w : World) (pv : Option Addr) (L : List Sp) (n : Nat) (h : CvN w pv L) (hnn : L.length = n) (hn : n ≤ 8796093022206) :
    Calls Try.prog 24 #[.pointer pv] w fun e w' => ∃ p c, e = .returned (.slice p n c) ∧ w'.ownsRow w.heap.size 53 2 (.slice p n c) n (L.flatMap encS) ∧ RdL w' (.slice p n c) L ∧ Below w.heap.size w w' := by
  subst hnn
  refine (c_listed w pv L h hn).mono ?_
  rintro e w' ⟨v, rfl, hr, hb⟩
  have hd := own_rdl hr
  obtain ⟨p, c, rfl, _⟩ := id hd
  exact ⟨p, c, rfl, hr, hd, hb⟩
theorem CvR.openN {w : World} {b n : Nat} {L : List Sp} (h : CvR w b L) (hn : L.length = n) : ∃ p cp, w.cell? ⟨b, 0, none⟩ = some (.slice p n cp) ∧ RdL w (.slice p n cp) L := by subst hn; exact h.open

set_option maxHeartbeats 16000000 in
theorem c_meetsLaw (w : World) (v u : Value) (l m : List Op4) (hv : OpsR w v l) (hu : OpsR w u m) (hn : l.length ≤ 4398046511103) (hn2 : m.length ≤ 4398046511103) :
    Calls Try.prog 8 #[v, u] w fun e w' => e = .returned (.bool true) ∧ Below w.heap.size w w' := by
  have HV := Lib.hid hv
  have HU := Lib.hid hu
  obtain ⟨p, cp, rfl, hx0⟩ := hv
  obtain ⟨q, cq, rfl, hx1⟩ := hu
  obtain ⟨n, hnn⟩ : ∃ n, l.length = n := ⟨_, rfl⟩
  obtain ⟨n2, hnn2⟩ : ∃ n2, m.length = n2 := ⟨_, rfl⟩
  rw [hnn] at HV hn ⊢
  rw [hnn2] at HU hn2 ⊢
  have HN := Lib.hid (And.intro hn hnn)
  have HN2 := Lib.hid (And.intro hn2 hnn2)
  clear hn hnn hx0 hn2 hnn2 hx1
  go_enter Try.func8, Try.ntmps8
  go_upto_region 4 with (first | (go_at_call 10; (with_reducible refine (c_fixed _).mono ?_); rintro e w1 ⟨rfl, hb1⟩; have HB1 := Lib.hid hb1; clear hb1) | (go_at_call 11; (with_reducible refine (c_new0 zc 1 w1).mono ?_); rintro e w2 ⟨b, rfl, hb, hcv, hch⟩; have H2 := Lib.hid (And.intro hcv ((Mv.of_below (S := [1, 2]) (col := zc) HB1.out).trans (hch.mv' (by simp)))); clear hb hcv hch))
  refine Ph.at_world ?_; intro W3 hW
  obtain ⟨r, hr0⟩ : ∃ r, w2.heap.size = r := ⟨_, rfl⟩
  have k3 : hp W3 r = some (.cells #[.slice none 0 0] 38 (0, 0)) := by rw [hW, ← hr0]; simp [hpA]
  have hB3 : Below w2.heap.size w2 W3 := by rw [hW]; exact below_alloc (Below.refl _ _) _
  have H3 := Lib.hid (And.intro (H2.out.1.kept (Mv.new (S := []) hB3 2) (by simp)) (And.intro (rv_newI (col := paint zc w1 1) (i := 2) hr0 k3) (H2.out.2.trans (Mv.new hB3 2))))
  rw [hr0]
  clear hW k3 hB3 hr0 H2
  generalize paint (paint zc w1 1) w2 2 = c3 at *
  go_upto_region 5 with (go_at_call 11; (with_reducible refine (c_new0 c3 3 W3).mono ?_); rintro e w4 ⟨d, rfl, hb, hcv, hch⟩; have H4 := Lib.hid (And.intro hcv hch); clear hb hcv hch)
  refine Ph.at_world ?_; intro W5 hW
  obtain ⟨s, hs0⟩ : ∃ s, w4.heap.size = s := ⟨_, rfl⟩
  have k5 : hp W5 s = some (.cells #[.slice none 0 0] 38 (0, 0)) := by rw [hW, ← hs0]; simp [hpA]
  have hB5 : Below w4.heap.size w4 W5 := by rw [hW]; exact below_alloc (Below.refl _ _) _
  have H5 : Hid (CvO (paint (paint c3 W3 3) w4 4) 1 W5 b [] ∧ RvO (paint (paint c3 W3 3) w4 4) 2 W5 r [] ∧ CvO (paint (paint c3 W3 3) w4 4) 3 W5 d [] ∧ RvO (paint (paint c3 W3 3) w4 4) 4 W5 s [] ∧ Below w.heap.size w W5 ∧ ∀ k, k < w.heap.size → paint (paint c3 W3 3) w4 4 k = 0) := Lib.hid (by
    have n4 : Mv [3] c3 W3 (paint c3 W3 3) w4 := H4.out.2.mv' (by simp)
    have n5 : Mv [] (paint c3 W3 3) w4 (paint (paint c3 W3 3) w4 4) W5 := Mv.new hB5 4
    have hz3 : ∀ k, k < w.heap.size → c3 k = 0 := fun k hk => H3.out.2.2.col k hk
    have hb3 : Below w.heap.size w W3 := H3.out.2.2.toBelow (fun k _ => by simp [zc])
    refine ⟨(H3.out.1.kept n4 (by simp)).kept n5 (by simp), (H3.out.2.1.kept n4 (by simp)).kept n5 (by simp), H4.out.1.kept n5 (by simp), rv_newI hs0 k5, below_call (mv_below n4 hb3 (fun k hk => by rw [hz3 k hk]; decide)) hB5, fun k hk => ?_⟩
    have h1 : k < W3.heap.size := Nat.lt_of_lt_of_le hk hb3.size
    exact (n5.col k (Nat.lt_of_lt_of_le h1 n4.size)).trans ((n4.col k h1).trans (hz3 k hk)))
  rw [hs0]
  clear hW k5 hB5 hs0 H3 H4
  generalize paint (paint c3 W3 3) w4 4 = c5 at *
  go_wp2
  go_loopw [9] (fun t wr => ∃ (k : Nat) (L : List Sp) (c : Nat → Nat), t = .int .i64 k ∧ k ≤ n ∧ CvO c 1 wr b L ∧ RvO c 2 wr r L ∧ CvO c 3 wr d [] ∧ RvO c 4 wr s [] ∧ Wf L ∧ L.length ≤ k ∧ Mv [1, 2] c5 W5 c wr) (fun t _ => n - (intOf t).toNat)
  case atStart => exact ⟨0, [], c5, rfl, Nat.zero_le _, H5.out.1, H5.out.2.1, H5.out.2.2.1, H5.out.2.2.2.1, Wf.nil, Nat.le_refl _, Mv.refl⟩
  case round =>
    obtain ⟨k, L, c, rfl, hk, hcv, hrv, hdv, hsv, hw, hl, hm⟩ := hrel
    have hbw : Below w.heap.size w wr := mv_below hm H5.out.2.2.2.2.1 (fun k hk => by rw [H5.out.2.2.2.2.2 k hk]; decide)
    have HI := Lib.hid (And.intro hk (And.intro hcv (And.intro hrv (And.intro hdv (And.intro hsv (And.intro hw (And.intro hl (And.intro hm hbw))))))))
    clear hk hcv hw hl hm hrv hdv hsv
    by_cases hlt : k < n
    · have b1 : (k : Int) < (n : Int) := by omega
      have w1' : IntKind.i64.wrap ((k : Int) + 1) = (k : Int) + 1 := IntWalk.i64_in _ (by have := HN.out; omega)
      obtain ⟨o, ho⟩ := get_op (l := l) (k := k) (by rw [HN.out.2]; exact hlt)
      obtain ⟨g, f, rfl, y1, y2, y3, y4⟩ := (HV.out.below hbw).at ho
      have HL := Lib.hid (stepL_law HI.out.2.2.2.2.2.1 o)
      have HLB := Lib.hid (show L.length ≤ 4398046511103 by have := HI.out.2.2.2.2.2.2.1; have := HI.out.1; have := HN.out; omega)
      have HD := Lib.hid (c_done c wr b r L HI.out.2.1 HI.out.2.2.1 HI.out.2.2.2.2.2.1 (by have := HLB.out; omega) o)
      clear ho hbw
      obtain ⟨ct, lo', hi', X⟩ := o
      go_wp2_with (go_at_call 18; refine HD.out.mono ?_; rintro e w2 ⟨rfl, c2, hcv2, hrv2, hm2⟩; have H6 := Lib.hid (And.intro hcv2 (And.intro hrv2 hm2)); clear hcv2 hrv2 hm2)
      go_roundw
      case rel => exact ⟨k + 1, _, c2, by go_num, by omega, H6.out.1, H6.out.2.1, HI.out.2.2.2.1.kept H6.out.2.2 (by simp), HI.out.2.2.2.2.1.kept H6.out.2.2 (by simp), HL.out.1, by have := HL.out.2; have := HI.out.2.2.2.2.2.2.1; omega, HI.out.2.2.2.2.2.2.2.1.trans H6.out.2.2⟩
      case measure => simp [intOf]; omega
    · have b1 : ¬ ((k : Int) < (n : Int)) := by omega
      obtain ⟨c7, hc7⟩ : ∃ c7, (fun k => fs (c k)) = c7 := ⟨_, rfl⟩
      have H7 : Hid (CvO c7 3 wr b L ∧ RvO c7 4 wr r L ∧ CvO c7 1 wr d [] ∧ RvO c7 2 wr s [] ∧ Wf L ∧ L.length ≤ 4398046511103 ∧ Below w.heap.size w wr ∧ ∀ k, k < w.heap.size → c7 k = 0) := Lib.hid (by
        have hI := HI.out
        subst hc7
        refine ⟨hI.2.1.recolF fs, hI.2.2.1.recolF fs, hI.2.2.2.1.recolF fs, hI.2.2.2.2.1.recolF fs, hI.2.2.2.2.2.1, by have := hI.2.2.2.2.2.2.1; have := hI.1; have := HN.out; omega, hbw, fun k hk => ?_⟩
        have e := hI.2.2.2.2.2.2.2.1.col k (Nat.lt_of_lt_of_le hk H5.out.2.2.2.2.1.size)
        show fs (c k) = 0
        rw [e, H5.out.2.2.2.2.2 k hk]; rfl)
      clear hbw HI hc7
      obtain ⟨W7, hW7⟩ : ∃ W7, W7 = wr := ⟨_, rfl⟩
      rw [← hW7] at H7 ⊢
      clear hW7
      go_wp2
      go_loopw [10] (fun t w' => ∃ (k : Nat) (L2 : List Sp) (c' : Nat → Nat), t = .int .i64 k ∧ k ≤ n2 ∧ CvO c' 1 w' d L2 ∧ RvO c' 2 w' s L2 ∧ Wf L2 ∧ L2.length ≤ k ∧ Mv [1, 2] c7 W7 c' w') (fun t _ => n2 - (intOf t).toNat)
      case atStart => exact ⟨0, [], c7, rfl, Nat.zero_le _, H7.out.2.2.1, H7.out.2.2.2.1, Wf.nil, Nat.le_refl _, Mv.refl⟩
      case round =>
        obtain ⟨k2, L2, c8, rfl, hk, hdv, hsv, hw, hl, hm⟩ := hrel
        have hbw : Below w.heap.size w wr := mv_below hm H7.out.2.2.2.2.2.2.1 (fun k hk => by rw [H7.out.2.2.2.2.2.2.2 k hk]; decide)
        have HJ := Lib.hid (And.intro hk (And.intro hdv (And.intro hsv (And.intro hw (And.intro hl (And.intro hm hbw))))))
        clear hk hdv hsv hw hl hm
        by_cases hlt2 : k2 < n2
        · have b1' : (k2 : Int) < (n2 : Int) := by omega
          have w2' : IntKind.i64.wrap ((k2 : Int) + 1) = (k2 : Int) + 1 := IntWalk.i64_in _ (by have := HN2.out; omega)
          obtain ⟨o, ho⟩ := get_op (l := m) (k := k2) (by rw [HN2.out.2]; exact hlt2)
          obtain ⟨g, f, rfl, y1, y2, y3, y4⟩ := (HU.out.below hbw).at ho
          have HL := Lib.hid (stepL_law HJ.out.2.2.2.1 o)
          have HD := Lib.hid (c_done c8 wr d s L2 HJ.out.2.1 HJ.out.2.2.1 HJ.out.2.2.2.1 (by have := HJ.out.2.2.2.2.1; have := HJ.out.1; have := HN2.out; omega) o)
          clear ho hbw
          obtain ⟨ct, lo', hi', X⟩ := o
          go_wp2_with (go_at_call 18; refine HD.out.mono ?_; rintro e w2 ⟨rfl, c2, hcv2, hrv2, hm2⟩; have H6 := Lib.hid (And.intro hcv2 (And.intro hrv2 hm2)); clear hcv2 hrv2 hm2)
          go_roundw
          case rel => exact ⟨k2 + 1, _, c2, by go_num, by omega, H6.out.1, H6.out.2.1, HL.out.1, by have := HL.out.2; have := HJ.out.2.2.2.2.1; omega, HJ.out.2.2.2.2.2.1.trans H6.out.2.2⟩
          case measure => simp [intOf]; omega
        · have b1' : ¬ ((k2 : Int) < (n2 : Int)) := by omega
          have H8 : Hid (CvR wr b L ∧ CvR wr r L ∧ CvO c8 1 wr d L2 ∧ CvR wr s L2 ∧ Wf L ∧ L.length ≤ 4398046511103 ∧ Wf L2 ∧ L2.length ≤ 4398046511103 ∧ Below w.heap.size w wr) := Lib.hid (by
            have hJ := HJ.out
            exact ⟨(H7.out.1.kept hJ.2.2.2.2.2.1 (by simp)).rd, (H7.out.2.1.kept hJ.2.2.2.2.2.1 (by simp)).rd, hJ.2.1, hJ.2.2.1.rd, H7.out.2.2.2.2.1, H7.out.2.2.2.2.2.1, hJ.2.2.2.1, by have := hJ.2.2.2.2.1; have := hJ.1; have := HN2.out; omega, hbw⟩)
          clear HJ hbw H7 H5
          obtain ⟨M, hM⟩ : ∃ M, MP L2 L = M := ⟨_, rfl⟩
          have hMl : M.length ≤ 8796093022206 := by rw [← hM]; have := (MP_good L2 L).len; have := H8.out.2.2.2.2.2; omega
          have hMR : MR L2 L = M := by rw [← meet_same H8.out.2.2.2.2.2.2.1 L]; exact hM
          have hMw : Wf M := by rw [← hM]; exact (MP_good L2 L).1
          have HQ1 := Lib.hid (show Calls Try.prog 28 #[.pointer (some ⟨b, 0, none⟩), .pointer (some ⟨d, 0, none⟩)] wr fun e w' => ∃ b, e = .returned (.pointer (some ⟨b, 0, none⟩)) ∧ CvO (paint zc wr 1) 1 w' b M ∧ Below wr.heap.size wr w' by rw [← hM]; exact c_meetC wr _ _ L L2 (cvN_of H8.out.1) H8.out.2.2.1.f H8.out.2.2.2.2.2.2.1 H8.out.2.2.2.2.2.1 H8.out.2.2.2.2.2.2.2.1)
          have HQ2 := Lib.hid (fun w1 (hb : Below wr.heap.size wr w1) => show Calls Try.prog 29 #[.pointer (some ⟨r, 0, none⟩), .pointer (some ⟨s, 0, none⟩)] w1 fun e w' => ∃ r, e = .returned (.pointer (some ⟨r, 0, none⟩)) ∧ RvO (paint zc w1 1) 1 w' r M ∧ Below w1.heap.size w1 w' by rw [← hMR]; exact c_rmeetC w1 r s L L2 (H8.out.2.1.below hb) (H8.out.2.2.2.1.below hb) H8.out.2.2.2.2.2.1 H8.out.2.2.2.2.2.2.2.1)
          obtain ⟨nM, hnM⟩ : ∃ nM, M.length = nM := ⟨_, rfl⟩
          obtain ⟨nL, hnL⟩ : ∃ nL, L.length = nL := ⟨_, rfl⟩
          obtain ⟨nL2, hnL2⟩ : ∃ nL2, L2.length = nL2 := ⟨_, rfl⟩
          have HNM := Lib.hid (And.intro hMl (And.intro hMw (And.intro hnM (And.intro hnL hnL2))))
          clear hM hMl hMR hMw hnM hnL hnL2
          go_upto_region 14 with (first | (go_at_call 28; refine HQ1.out.mono ?_; rintro e w20 ⟨mb, rfl, hcv, hb⟩; have H20 := Lib.hid (And.intro hcv hb); clear hcv hb) | (go_at_call 29; refine (HQ2.out w20 H20.out.2).mono ?_; rintro e w21 ⟨qb, rfl, hcv, hb⟩; have H21 := Lib.hid (And.intro hcv hb); clear hcv hb))
          obtain ⟨pq, cq2, hcq, hrq⟩ := H21.out.1.rd.openN HNM.out.2.2.1
          have HQ := Lib.hid (And.intro hcq (And.intro hrq (H20.out.1.below H21.out.2)))
          clear hcq hrq HQ1 HQ2
          refine Ph.region_at (by kernel_rfl) ?_
          refine Ph.at_ghost 9 4 57 (fun g : Option Addr × Nat => Value.slice g.1 nM g.2) (fun g w1 => RdL w1 (.slice g.1 nM g.2) M) (fun g a b h hb => RdL.below h hb) (by kernel_rfl) (by kernel_rfl) (by decide) (by decide) rfl ?_
          simp only [List.take_succ_cons, List.take_zero, List.drop_succ_cons, List.drop_zero]
          (first | (apply Ph.wpGh_g (by decide); (focus (intro wx hS0; have hz := below_call (below_drew (Below.refl w21.heap.size w21)) hS0; have c0 := cell_below hz HQ.out.1; go_simp; first | exact rfl | exact ⟨rfl, Below.refl _ _⟩)))); simp only [Act.put, List.setIfInBounds_toArray, List.set_cons_zero, List.set_cons_succ]
          (first | (apply Ph.wpGh_g (by decide); (focus (intro wx hS0; have hz := below_call (below_drew (Below.refl w21.heap.size w21)) hS0; have c0 := cell_below hz HQ.out.1; go_simp; first | exact rfl | exact ⟨rfl, Below.refl _ _⟩)))); simp only [Act.put, List.setIfInBounds_toArray, List.set_cons_zero, List.set_cons_succ]
          (first | (apply Ph.wpGh_g (by decide); (focus (intro wx hS0; have hz := below_call (below_drew (Below.refl w21.heap.size w21)) hS0; have c0 := cell_below hz HQ.out.1; go_simp; first | exact rfl | exact ⟨rfl, Below.refl _ _⟩)))); simp only [Act.put, List.setIfInBounds_toArray, List.set_cons_zero, List.set_cons_succ]
          (first | (apply Ph.wpGh_g (by decide); (focus (intro wx hS0; have hz := below_call (below_drew (Below.refl w21.heap.size w21)) hS0; have c0 := cell_below hz HQ.out.1; go_simp; first | exact rfl | exact ⟨rfl, Below.refl _ _⟩)))); simp only [Act.put, List.setIfInBounds_toArray, List.set_cons_zero, List.set_cons_succ]
          refine Ph.wpGh_e rfl ?_ ?_
          · intro wx hS0; have hz := below_call (below_drew (Below.refl w21.heap.size w21)) hS0; have c0 := cell_below hz HQ.out.1; go_simp; refine (c_listedN wx (some ⟨mb, 0, none⟩) M nM (cvN_of (HQ.out.2.2.rd.below hz)) HNM.out.2.2.1 (by have := HNM.out.2.2; have := H8.out.2.2.2.2.2; have := HNM.out.1; omega)).mono ?_; rintro e w2 ⟨p', c', rfl, hr', hrd', hb'⟩; exact ⟨_, rfl, p', c', rfl, hb', hrd'⟩
          (first | (apply Ph.wpGh_g (by decide); (focus (intro wx hS0; have hz := below_call (below_drew (Below.refl w21.heap.size w21)) hS0; have c0 := cell_below hz HQ.out.1; go_simp; first | exact rfl | exact ⟨rfl, Below.refl _ _⟩)))); simp only [Act.put, List.setIfInBounds_toArray, List.set_cons_zero, List.set_cons_succ]
          (first | (apply Ph.wpGh_g (by decide); (focus (intro wx hS0; have hz := below_call (below_drew (Below.refl w21.heap.size w21)) hS0; have c0 := cell_below hz HQ.out.1; go_simp; first | exact rfl | exact ⟨rfl, Below.refl _ _⟩)))); simp only [Act.put, List.setIfInBounds_toArray, List.set_cons_zero, List.set_cons_succ]
          (first | (apply Ph.wpGh_g (by decide); (focus (intro wx hS0; have hz := below_call (below_drew (Below.refl w21.heap.size w21)) hS0; have c0 := cell_below hz HQ.out.1; go_simp; first | exact rfl | exact ⟨rfl, Below.refl _ _⟩)))); simp only [Act.put, List.setIfInBounds_toArray, List.set_cons_zero, List.set_cons_succ]
          (first | (apply Ph.wpGh_g (by decide); (focus (intro wx hS0; have hz := below_call (below_drew (Below.refl w21.heap.size w21)) hS0; have c0 := cell_below hz HQ.out.1; go_simp; first | exact rfl | exact ⟨rfl, Below.refl _ _⟩)))); simp only [Act.put, List.setIfInBounds_toArray, List.set_cons_zero, List.set_cons_succ]
          refine Ph.wpGh_nil ?_; intro g1 w22 hS22 hG1; simp only [Act.put, List.setIfInBounds_toArray, List.set_cons_zero, List.set_cons_succ]
          have HB22 := Lib.hid (below_call (below_drew (Below.refl w21.heap.size w21)) hS22); clear hS22
          refine Ph.at_op rfl (by kernel_rfl) ?_
          go_wp2_with (go_at_call 23; refine (c_same _ (.slice g1.1 nM g1.2) (.slice pq nM cq2) M (HNM.out.1) hG1 (HQ.out.2.1.below HB22.out)).mono ?_; rintro e w24 ⟨rfl, hb⟩; have HB24 := Lib.hid (below_call HB22.out hb); clear hb)
          refine Ph.at_quiet 12 (by kernel_rfl) ?_
          simp only [List.take_succ_cons, List.take_zero, List.drop_succ_cons, List.drop_zero]
          repeat ((first | (apply Ph.wpPh_g; (focus (intro wx hS0; go_simp; first | exact rfl | exact ⟨rfl, Below.refl _ _⟩)))); simp only [Act.put, List.setIfInBounds_toArray, List.set_cons_zero, List.set_cons_succ])
          refine Ph.wpPh_nil ?_; intro w25 hS25
          refine Ph.at_end (by simp) ?_
          have HB25 := Lib.hid (below_call HB24.out hS25); clear hS25
          have HOF := Lib.hid (fun w => c_of (-100) 100 w)
          go_upto_region 17 with (first | (go_at_call 27; (with_reducible refine (HOF.out _).mono ?_); rintro e w26 ⟨rfl, hb⟩; have HB26 := Lib.hid hb; clear hb) | (go_at_call 14; refine (c_add (paint zc wr 1) 1 w26 mb M ((HQ.out.2.2.below HB25.out).below HB26.out) HNM.out.2.1 HNM.out.1 (-100) 100).mono ?_; rintro e w27 ⟨rfl, hcv, hch⟩; have HA := Lib.hid hch; clear hcv hch))
          have HB27 := Lib.hid (mv_below (w := wr) HA.out.mv (below_call (below_call (below_call H20.out.2 H21.out.2) HB25.out) HB26.out) (fun k hk => by rw [paint_old hk]; simp [zc]))
          obtain ⟨pr, cr, hcr, hrr⟩ := H8.out.2.1.openN HNM.out.2.2.2.1
          obtain ⟨ps, cs, hcs, hrs⟩ := H8.out.2.2.2.1.openN HNM.out.2.2.2.2
          have HL := Lib.hid (And.intro (cell_below HB27.out hcr) (And.intro (hrr.below HB27.out) (And.intro (cell_below HB27.out hcs) (hrs.below HB27.out))))
          have HP := Lib.hid (And.intro (H8.out.1.below HB27.out) (H8.out.2.2.1.rd.below HB27.out))
          clear hcr hrr hcs hrs
          refine Ph.region_at (by kernel_rfl) ?_
          refine Ph.at_ghost 6 1 69 (fun g : Option Addr × Nat => Value.slice g.1 nL g.2) (fun g w1 => RdL w1 (.slice g.1 nL g.2) L) (fun g a b h hb => RdL.below h hb) (by kernel_rfl) (by kernel_rfl) (by decide) (by decide) rfl ?_
          simp only [List.take_succ_cons, List.take_zero, List.drop_succ_cons, List.drop_zero]
          (first | (apply Ph.wpGh_g (by decide); (focus (intro wx hS0; have hz := below_call (below_drew (Below.refl w27.heap.size w27)) hS0; have c0 := cell_below hz HL.out.1; go_simp; first | exact rfl | exact ⟨rfl, Below.refl _ _⟩)))); simp only [Act.put, List.setIfInBounds_toArray, List.set_cons_zero, List.set_cons_succ]
          refine Ph.wpGh_e rfl ?_ ?_
          · intro wx hS0; have hz := below_call (below_drew (Below.refl w27.heap.size w27)) hS0; have c0 := cell_below hz HL.out.1; go_simp; refine (c_listedN wx (some ⟨b, 0, none⟩) L nL (cvN_of (HP.out.1.below hz)) HNM.out.2.2.2.1 (by have := HNM.out.2.2; have := H8.out.2.2.2.2.2; have := HNM.out.1; omega)).mono ?_; rintro e w2 ⟨p', c', rfl, hr', hrd', hb'⟩; exact ⟨_, rfl, p', c', rfl, hb', hrd'⟩
          (first | (apply Ph.wpGh_g (by decide); (focus (intro wx hS0; have hz := below_call (below_drew (Below.refl w27.heap.size w27)) hS0; have c0 := cell_below hz HL.out.1; go_simp; first | exact rfl | exact ⟨rfl, Below.refl _ _⟩)))); simp only [Act.put, List.setIfInBounds_toArray, List.set_cons_zero, List.set_cons_succ]
          (first | (apply Ph.wpGh_g (by decide); (focus (intro wx hS0; have hz := below_call (below_drew (Below.refl w27.heap.size w27)) hS0; have c0 := cell_below hz HL.out.1; go_simp; first | exact rfl | exact ⟨rfl, Below.refl _ _⟩)))); simp only [Act.put, List.setIfInBounds_toArray, List.set_cons_zero, List.set_cons_succ]
          (first | (apply Ph.wpGh_g (by decide); (focus (intro wx hS0; have hz := below_call (below_drew (Below.refl w27.heap.size w27)) hS0; have c0 := cell_below hz HL.out.1; go_simp; first | exact rfl | exact ⟨rfl, Below.refl _ _⟩)))); simp only [Act.put, List.setIfInBounds_toArray, List.set_cons_zero, List.set_cons_succ]
          (first | (apply Ph.wpGh_g (by decide); (focus (intro wx hS0; have hz := below_call (below_drew (Below.refl w27.heap.size w27)) hS0; have c0 := cell_below hz HL.out.1; go_simp; first | exact rfl | exact ⟨rfl, Below.refl _ _⟩)))); simp only [Act.put, List.setIfInBounds_toArray, List.set_cons_zero, List.set_cons_succ]
          refine Ph.wpGh_nil ?_; intro g2 w28 hS28 hG2; simp only [Act.put, List.setIfInBounds_toArray, List.set_cons_zero, List.set_cons_succ]
          have HB28 := Lib.hid (below_call (below_drew (Below.refl w27.heap.size w27)) hS28); clear hS28
          refine Ph.at_op rfl (by kernel_rfl) ?_
          go_wp2_with (go_at_call 23; refine (c_same _ (.slice g2.1 nL g2.2) (.slice pr nL cr) L (by have := H8.out.2.2.2.2.2; omega) hG2 (HL.out.2.1.below HB28.out)).mono ?_; rintro e w29 ⟨rfl, hb⟩; have HB29 := Lib.hid (below_call HB28.out hb); clear hb)
          refine Ph.at_quiet 8 (by kernel_rfl) ?_
          simp only [List.take_succ_cons, List.take_zero, List.drop_succ_cons, List.drop_zero]
          repeat ((first | (apply Ph.wpPh_g; (focus (intro wx hS0; go_simp; first | exact rfl | exact ⟨rfl, Below.refl _ _⟩)))); simp only [Act.put, List.setIfInBounds_toArray, List.set_cons_zero, List.set_cons_succ])
          refine Ph.wpPh_nil ?_; intro w30 hS30
          have HB30 := Lib.hid (below_call HB29.out hS30); clear hS30
          refine Ph.at_ghost 14 9 77 (fun g : Option Addr × Nat => Value.slice g.1 nL2 g.2) (fun g w1 => RdL w1 (.slice g.1 nL2 g.2) L2) (fun g a b h hb => RdL.below h hb) (by kernel_rfl) (by kernel_rfl) (by decide) (by decide) rfl ?_
          simp only [List.take_succ_cons, List.take_zero, List.drop_succ_cons, List.drop_zero]
          (first | (apply Ph.wpGh_g (by decide); (focus (intro wx hS0; have hz := below_call HB30.out hS0; have c0 := cell_below hz HL.out.2.2.1; go_simp; first | exact rfl | exact ⟨rfl, Below.refl _ _⟩)))); simp only [Act.put, List.setIfInBounds_toArray, List.set_cons_zero, List.set_cons_succ]
          refine Ph.wpGh_e rfl ?_ ?_
          · intro wx hS0; have hz := below_call HB30.out hS0; have c0 := cell_below hz HL.out.2.2.1; go_simp; refine (c_listedN wx (some ⟨d, 0, none⟩) L2 nL2 (cvN_of (HP.out.2.below hz)) HNM.out.2.2.2.2 (by have := HNM.out.2.2; have := H8.out.2.2.2.2.2; have := HNM.out.1; omega)).mono ?_; rintro e w2 ⟨p', c', rfl, hr', hrd', hb'⟩; exact ⟨_, rfl, p', c', rfl, hb', hrd'⟩
          (first | (apply Ph.wpGh_g (by decide); (focus (intro wx hS0; have hz := below_call HB30.out hS0; have c0 := cell_below hz HL.out.2.2.1; go_simp; first | exact rfl | exact ⟨rfl, Below.refl _ _⟩)))); simp only [Act.put, List.setIfInBounds_toArray, List.set_cons_zero, List.set_cons_succ]
          (first | (apply Ph.wpGh_g (by decide); (focus (intro wx hS0; have hz := below_call HB30.out hS0; have c0 := cell_below hz HL.out.2.2.1; go_simp; first | exact rfl | exact ⟨rfl, Below.refl _ _⟩)))); simp only [Act.put, List.setIfInBounds_toArray, List.set_cons_zero, List.set_cons_succ]
          (first | (apply Ph.wpGh_g (by decide); (focus (intro wx hS0; have hz := below_call HB30.out hS0; have c0 := cell_below hz HL.out.2.2.1; go_simp; first | exact rfl | exact ⟨rfl, Below.refl _ _⟩)))); simp only [Act.put, List.setIfInBounds_toArray, List.set_cons_zero, List.set_cons_succ]
          (first | (apply Ph.wpGh_g (by decide); (focus (intro wx hS0; have hz := below_call HB30.out hS0; have c0 := cell_below hz HL.out.2.2.1; go_simp; first | exact rfl | exact ⟨rfl, Below.refl _ _⟩)))); simp only [Act.put, List.setIfInBounds_toArray, List.set_cons_zero, List.set_cons_succ]
          refine Ph.wpGh_nil ?_; intro g3 w32 hS32 hG3; simp only [Act.put, List.setIfInBounds_toArray, List.set_cons_zero, List.set_cons_succ]
          have HB32 := Lib.hid (below_call HB30.out hS32); clear hS32
          refine Ph.at_op rfl (by kernel_rfl) ?_
          go_wp2_with (go_at_call 23; refine (c_same _ (.slice g3.1 nL2 g3.2) (.slice ps nL2 cs) L2 (by have := H8.out.2.2.2.2.2; omega) hG3 (HL.out.2.2.2.below HB32.out)).mono ?_; rintro e w33 ⟨rfl, hb⟩; have HB33 := Lib.hid (below_call HB32.out hb); clear hb)
          refine Ph.at_quiet 17 (by kernel_rfl) ?_
          simp only [List.take_succ_cons, List.take_zero, List.drop_succ_cons, List.drop_zero]
          repeat ((first | (apply Ph.wpPh_g; (focus (intro wx hS0; go_simp; first | exact rfl | exact ⟨rfl, Below.refl _ _⟩)))); simp only [Act.put, List.setIfInBounds_toArray, List.set_cons_zero, List.set_cons_succ])
          refine Ph.wpPh_nil ?_; intro w34 hS34
          refine Ph.at_end (by simp) ?_
          have HB34 := Lib.hid (below_call HB33.out hS34); clear hS34
          go_wp2
          go_ret
          exact ⟨rfl, below_call (below_call H8.out.2.2.2.2.2.2.2.2 HB27.out) HB34.out⟩
end Go.Proofs.Ytnofclmnjhkhiaa
