/- The sort: a merge, by halves. -/
import Derived.Test.YtficncmomgddpaaPmc
import Derived.WalkKit
import Derived.WalkLawsBesides
import Derived.WalkSpells
import Derived.Below
import Derived.Deep.RegionHeld3
import Derived.Deep.QuietTactic
import Derived.BigQuiet
import Derived.Deep.DeepCutAuto
import Derived.Deep.DeepMust
import Derived.KernelRfl
import Derived.Lib.Hide
import Derived.Outline
import Derived.RegionTactic
import Derived.StillTailTactics
namespace Go.Proofs.Ytficncmomgddpaa
open Go.RowKit Go.Cl
set_option maxRecDepth 100000
set_option linter.unusedVariables false
set_option linter.unusedSimpArgs false
open Go.Ps
section
variable (W0 : World) (c0 : Nat → Nat) (g N cp : Nat) (vp vq : Value) (cf : Nat → Nat → Int) (hN : N ≤ 1000) (tr : ∀ x y z, RR cf x y → RR cf y z → RR cf x z)
include hN tr
set_option maxHeartbeats 4000000 in
theorem mg_lo (n : Nat) (IH : MgOk W0 c0 g N cp vp vq cf n) (HC0 : CmpOk W0 c0 N vp vq cf) (w : World) (D : Nat → Nat) (a m b mid : Nat) (hn : b - a ≤ n + 1) (hS : SS W0 c0 g N D w) (hma : a + 1 < m) (hmb : m + 1 < b) (hb : b ≤ N) (hD : ∀ k, k < N → D k < N)
    (hl1 : Sd (RR cf) a m D) (hl2 : Sd (RR cf) m b D) (hlt : ∀ x y, a ≤ x → x < m → m ≤ y → y < b → D x < D y) (hmd : mid = (a + b) / 2) (hgt : m ≤ mid) :
    Calls Try.prog 34 #[.slice (some ⟨g, 0, none⟩) N cp, .int .i64 a, .int .i64 m, .int .i64 b, .func (.func 29) #[] #[vp, vq]] w fun e w' => e = .returned (.tuple #[]) ∧ ∃ D', SS W0 c0 g N D' w' ∧ Pm a b D D' ∧ Sd (RR cf) a b D' := by
  have HC := Lib.hid HC0; have HI := Lib.hid IH
  have HL1 := Lib.hid hl1; have HL2 := Lib.hid hl2; have HLT := Lib.hid hlt
  clear HC0 IH hl1 hl2 hlt
  have b0 : IntKind.i64.wrap ((m : Int) - (a : Int)) = ((m - a : Nat) : Int) := by rw [IntWalk.i64_in _ (by omega)]; omega
  have b1 : (((m - a : Nat) : Int) == 1) = false := by simp; omega
  have b2 : IntKind.i64.wrap ((b : Int) - (m : Int)) = ((b - m : Nat) : Int) := by rw [IntWalk.i64_in _ (by omega)]; omega
  have b3 : (((b - m : Nat) : Int) == 1) = false := by simp; omega
  have hbv : a ≤ mid ∧ mid ≤ b ∧ 2 * mid ≤ a + b ∧ a + b ≤ 2 * mid + 1 := by omega
  have v1 : IntKind.i64.wrap ((a : Int) + (b : Int)) = (a : Int) + (b : Int) := IntWalk.i64_in _ (by omega)
  have v2 : IntKind.u64.wrap ((a : Int) + (b : Int)) = (a : Int) + (b : Int) := by simp [IntKind.wrap, IntKind.bits, IntKind.signed]; omega
  have v3 : ((a : Int) + (b : Int)) / 2 = (mid : Int) := by omega
  have v4 : IntKind.u64.wrap (mid : Int) = (mid : Int) := by simp [IntKind.wrap, IntKind.bits, IntKind.signed]; omega
  have v5 : IntKind.i64.wrap (mid : Int) = (mid : Int) := IntWalk.i64_in _ (by omega)
  clear hmd
  obtain ⟨nn, hnn⟩ : ∃ z, z = mid + m := ⟨_, rfl⟩
  have wnn : IntKind.i64.wrap ((mid : Int) + (m : Int)) = (nn : Int) := by rw [IntWalk.i64_in _ (by omega)]; omega
  obtain ⟨pp, hpp⟩ : ∃ z, z = nn - 1 := ⟨_, rfl⟩
  have wpp : IntKind.i64.wrap ((nn : Int) - 1) = (pp : Int) := by rw [IntWalk.i64_in _ (by omega)]; omega
  have hcs : ¬ ((mid : Int) < (m : Int)) := by omega
  have HG := Lib.hid hgt
  have hT : a + b ≤ 2 * mid + 1 ∧ 2 * mid ≤ a + b ∧ nn = mid + m ∧ pp + 1 = nn := by omega
  have HT := Lib.hid hT; clear hT  hnn hpp hbv
  go_enter Try.func34, Try.ntmps34
  go_wp2
  clear b0 b1 b2 b3 v1 v2 v3 v4 v5 wnn wpp hcs
  go_loopw [20, 21] (BsInv W0 c0 g N D a m (fun k => 0 ≤ cf (D (pp - k)) (D k)) (fun k => cf (D (pp - k)) (D k) < 0)) (fun x y _ => (intOf y).toNat - (intOf x).toNat)
  case atStart => have hT := HT.out; have hgt := HG.out; exact ⟨a, m, rfl, rfl, Nat.le_refl _, by omega, Nat.le_refl _, hS, .inl rfl, .inl rfl⟩
  case round =>
    clear hS
    obtain ⟨i, j, rfl, rfl, hi, hij, hj, hS, hl, hh⟩ := hrel
    have HLH := Lib.hid (And.intro hl hh); clear hl hh
    have HD2 := Lib.hid hS.drew
    have HS := Lib.hid hS; clear hS
    have hT := HT.out; have hgt := HG.out
    by_cases hlt : i < j
    · have b1 : (i : Int) < (j : Int) := by omega
      obtain ⟨h, hhu⟩ : ∃ h, h = (i + j) / 2 := ⟨_, rfl⟩
      have hbu : i ≤ h ∧ h ≤ j ∧ 2 * h ≤ i + j ∧ i + j ≤ 2 * h + 1 := by omega
      have u1 : IntKind.i64.wrap ((i : Int) + (j : Int)) = (i : Int) + (j : Int) := IntWalk.i64_in _ (by omega)
      have u2 : IntKind.u64.wrap ((i : Int) + (j : Int)) = (i : Int) + (j : Int) := by simp [IntKind.wrap, IntKind.bits, IntKind.signed]; omega
      have u3 : ((i : Int) + (j : Int)) / 2 = (h : Int) := by omega
      have u4 : IntKind.u64.wrap (h : Int) = (h : Int) := by simp [IntKind.wrap, IntKind.bits, IntKind.signed]; omega
      have u5 : IntKind.i64.wrap (h : Int) = (h : Int) := IntWalk.i64_in _ (by omega)
      clear hhu
      have u6 : IntKind.i64.wrap ((h : Int) + 1) = (h : Int) + 1 := IntWalk.i64_in _ (by omega)
      obtain ⟨d, hd⟩ : ∃ z, z = pp - h := ⟨_, rfl⟩
      have wd : IntKind.i64.wrap ((pp : Int) - (h : Int)) = (d : Int) := by rw [IntWalk.i64_in _ (by omega)]; omega
      have HDd := Lib.hid hd
      have od : (d : Int) < (N : Int) := by omega
      have pd : d < N := by omega
      have oh : (h : Int) < (N : Int) := by omega
      have ph : h < N := by omega
      have x1 := hD h ph
      have x2 := hD d pd
      clear hd hT hgt
      by_cases hc : cf (D d) (D h) < 0
      · go_wp2
        refine Ph.region_at (by kernel_rfl) ?_
        refine Ph.at_quiet 14 (by kernel_rfl) ?_
        simp only [List.take_succ_cons, List.take_zero, List.drop_succ_cons, List.drop_zero]
        repeat ((first | (apply Ph.wpPh_g; (focus (intro w1 hS0; have ca1 := (HD2.out.below hS0).cell (i := d) pd; have cb1 := (HD2.out.below hS0).cell (i := h) ph; go_simp; first | exact rfl | exact ⟨rfl, Below.refl _ _⟩ | ((with_reducible refine (HC.out.at (HD2.out.below hS0) _ _ (by assumption) (by assumption)).mono ?_); rintro e w2 ⟨rfl, hb⟩; exact ⟨rfl, hb⟩))))); simp only [Act.put, List.setIfInBounds_toArray, List.set_cons_zero, List.set_cons_succ])
        refine Ph.wpPh_nil ?_; intro w4 hS4
        refine Ph.at_end (by simp) ?_
        go_wp2
        go_roundw
        case rel => exact ⟨i, h, rfl, rfl, hi, hbu.1, by omega, HD2.out.below hS4, HLH.out.1, .inr (by show cf (D (pp - h)) (D h) < 0; rw [← HDd.out]; exact hc)⟩
        case measure => simp [intOf]; omega
      · have hc2 : decide (cf (D d) (D h) < 0) = false := by simpa using hc
        go_wp2
        refine Ph.region_at (by kernel_rfl) ?_
        refine Ph.at_quiet 14 (by kernel_rfl) ?_
        simp only [List.take_succ_cons, List.take_zero, List.drop_succ_cons, List.drop_zero]
        repeat ((first | (apply Ph.wpPh_g; (focus (intro w1 hS0; have ca1 := (HD2.out.below hS0).cell (i := d) pd; have cb1 := (HD2.out.below hS0).cell (i := h) ph; go_simp; first | exact rfl | exact ⟨rfl, Below.refl _ _⟩ | ((with_reducible refine (HC.out.at (HD2.out.below hS0) _ _ (by assumption) (by assumption)).mono ?_); rintro e w2 ⟨rfl, hb⟩; exact ⟨rfl, hb⟩))))); simp only [Act.put, List.setIfInBounds_toArray, List.set_cons_zero, List.set_cons_succ])
        refine Ph.wpPh_nil ?_; intro w4 hS4
        refine Ph.at_end (by simp) ?_
        go_wp2
        go_roundw
        case rel => exact ⟨h + 1, j, by go_num, rfl, by omega, by omega, hj, HD2.out.below hS4, .inr (by show 0 ≤ cf (D (pp - h)) (D h); rw [← HDd.out]; omega), HLH.out.2⟩
        case measure => simp [intOf]; omega
    · obtain rfl : i = j := by omega
      have b1 : ¬ ((i : Int) < (i : Int)) := by omega
      clear HD2
      obtain ⟨e, he⟩ : ∃ z, z = nn - i := ⟨_, rfl⟩
      have we : IntKind.i64.wrap ((nn : Int) - (i : Int)) = (e : Int) := by rw [IntWalk.i64_in _ (by omega)]; omega
      have q1 : a ≤ i ∧ i ≤ m ∧ m ≤ e ∧ e ≤ b ∧ mid + m = i + e := by omega
      have hpa : Parts cf a m b i e mid D (rot i m e D) := by
        refine parts tr q1.1 q1.2.1 q1.2.2.1 q1.2.2.2.1 q1.2.2.2.2 HL1.out HL2.out HLT.out ?_ ?_
        · rcases HLH.out.1 with x | x
          · first | exact .inl x | exact .inr (.inl (by omega))
          · by_cases ia : i = a
            · exact .inl ia
            · refine .inr ?_
              by_cases eb : e = b
              · exact .inl eb
              · refine .inr (.inr ⟨?_, HLT.out _ _ (by omega) (by omega) (by omega) (by omega)⟩)
                have x' : 0 ≤ cf (D (pp - (i - 1))) (D (i - 1)) := x
                rw [show pp - (i - 1) = e by omega] at x'; omega
        · rcases HLH.out.2 with x | x
          · first | exact .inl x | exact .inr (.inl (by omega))
          · refine .inr ?_
            by_cases em : e = m
            · exact .inl em
            · refine .inr (.inl ?_)
              have x' : cf (D (pp - i)) (D i) < 0 := x
              rw [show pp - i = e - 1 by omega] at x'; exact x'
      obtain ⟨E, hE⟩ : ∃ E, E = rot i m e D := ⟨_, rfl⟩
      rw [← hE] at hpa
      have HE := Lib.hid hE; have HPA := Lib.hid hpa
      have HB : Hid (e ≤ N ∧ mid - a ≤ n ∧ b - mid ≤ n ∧ mid ≤ N ∧ ∀ k, k < N → E k < N) := Lib.hid ⟨by omega, by omega, by omega, by omega, by rw [hE]; exact Pm.lt (rot_pm q1.2.1 q1.2.2.1 D) (by omega) hD⟩
      clear hE hpa he
      have htail := trivial
      have ways : (i = m ∧ i < mid) ∨ (i = m ∧ i = mid) ∨ (i < m ∧ a < i) ∨ (i < m ∧ i = a ∧ e < b) ∨ (i < m ∧ i = a ∧ e = b) := by omega
      clear hT hgt
      rcases ways with way | way | way | way | way
      · skip
        have hT := HT.out; have hgt := HG.out
        have tt0 : ¬ (i : Int) < (m : Int) := by omega
        have tt1 : (a : Int) < (i : Int) := by omega
        have tt2 : (i : Int) < (mid : Int) := by omega
        have tt3 : ¬ (mid : Int) < (e : Int) := by omega
        have hr : rot i m e D = D := by
          rw [show i = m by omega]; exact rot_id_l _ _ _
        have HS1 : Hid (SS W0 c0 g N E wr) := Lib.hid (by rw [HE.out, hr]; exact HS.out)
        clear hr
        have J : Hid (a ≤ i ∧ i ≤ m ∧ m ≤ e ∧ e ≤ b ∧ mid + m = i + e ∧ a ≤ mid ∧ mid ≤ b) := Lib.hid (by omega)
        have G : Hid (a < mid ∧ a < mid ∧ a < i ∧ i < mid ∧ a < mid ∧ a < mid) := Lib.hid (by omega)
        have WAY := Lib.hid way
        clear htail hT hgt q1 way
        go_wp2_with (first | (go_at_call 34; (with_reducible refine (MgOk.first W0 c0 g N cp vp vq cf HI.out HPA.out HB.out.2.1 G.out.2.2.1 G.out.2.2.2.1 HB.out.2.2.2.1 HB.out.2.2.2.2 _ HS1.out).mono ?_); rintro e' w6 ⟨rfl, E1, hS2, hp1, hs1⟩; have HS2 := Lib.hid hS2; have HP1 := Lib.hid hp1; have HD1 := Lib.hid hs1; clear hS2 hp1 hs1))
        refine bodyPost_end (results_none rfl _ _ _) rfl ?_
        have J2 := J.out; have way := WAY.out; have G2 := G.out
        have sA : Sd (RR cf) a mid E1 := HD1.out
        have sB : Sd (RR cf) mid b E1 := by
          have q := HPA.out.s4
          rw [show e = mid by omega] at q; exact sd_eq q fun k k1 k2 => (HP1.out).same (.inr k1)
        have fin := HPA.out.fin J2.2.2.2.2.2.1 J2.2.2.2.2.2.2 HP1.out sA (Pm.refl _ _ _) sB
        exact ⟨rfl, _, HS2.out, fin.1, fin.2⟩
      · skip
        have hT := HT.out; have hgt := HG.out
        have tt0 : ¬ (i : Int) < (m : Int) := by omega
        have tt1 : (a : Int) < (i : Int) := by omega
        have tt2 : ¬ (i : Int) < (mid : Int) := by omega
        have tt3 : ¬ (mid : Int) < (e : Int) := by omega
        have hr : rot i m e D = D := by
          rw [show i = m by omega]; exact rot_id_l _ _ _
        have HS1 : Hid (SS W0 c0 g N E wr) := Lib.hid (by rw [HE.out, hr]; exact HS.out)
        clear hr
        have J : Hid (a ≤ i ∧ i ≤ m ∧ m ≤ e ∧ e ≤ b ∧ mid + m = i + e ∧ a ≤ mid ∧ mid ≤ b) := Lib.hid (by omega)
        have G : Hid (a < mid ∧ a < mid ∧ a < mid ∧ a < mid ∧ a < mid ∧ a < mid) := Lib.hid (by omega)
        have WAY := Lib.hid way
        clear htail hT hgt q1 way
        go_wp2
        refine bodyPost_end (results_none rfl _ _ _) rfl ?_
        have J2 := J.out; have way := WAY.out; have G2 := G.out
        have sA : Sd (RR cf) a mid E := by
          have q := HPA.out.s1
          rw [show i = mid by omega] at q; exact q
        have sB : Sd (RR cf) mid b E := by
          have q := HPA.out.s4
          rw [show e = mid by omega] at q; exact sd_eq q fun k k1 k2 => ((Pm.refl a mid _)).same (.inr k1)
        have fin := HPA.out.fin J2.2.2.2.2.2.1 J2.2.2.2.2.2.2 (Pm.refl a mid _) sA (Pm.refl _ _ _) sB
        exact ⟨rfl, _, HS1.out, fin.1, fin.2⟩
      · skip
        have hT := HT.out; have hgt := HG.out
        have tt0 : (i : Int) < (m : Int) := by omega
        have tt1 : (m : Int) < (e : Int) := by omega
        have tt2 : (a : Int) < (i : Int) := by omega
        have tt3 : (i : Int) < (mid : Int) := by omega
        have tt4 : (mid : Int) < (e : Int) := by omega
        have tt5 : (e : Int) < (b : Int) := by omega
        have J : Hid (a ≤ i ∧ i ≤ m ∧ m ≤ e ∧ e ≤ b ∧ mid + m = i + e ∧ a ≤ mid ∧ mid ≤ b) := Lib.hid (by omega)
        have G : Hid (i < m ∧ m < e ∧ a < i ∧ i < mid ∧ mid < e ∧ e < b) := Lib.hid (by omega)
        have WAY := Lib.hid way
        clear htail hT hgt q1 way
        go_wp2_with (first | (go_at_call 35; (with_reducible refine (st_rotate W0 c0 g N cp vp vq hN _ D HS.out i m e G.out.1 G.out.2.1 HB.out.1).mono ?_); rintro e' w5 ⟨rfl, hS1⟩; rw [← HE.out] at hS1; have HS1 := Lib.hid hS1; clear hS1) | (go_at_call 34; (with_reducible refine (MgOk.first W0 c0 g N cp vp vq cf HI.out HPA.out HB.out.2.1 G.out.2.2.1 G.out.2.2.2.1 HB.out.2.2.2.1 HB.out.2.2.2.2 _ HS1.out).mono ?_); rintro e' w6 ⟨rfl, E1, hS2, hp1, hs1⟩; have HS2 := Lib.hid hS2; have HP1 := Lib.hid hp1; have HD1 := Lib.hid hs1; clear hS2 hp1 hs1) | (go_at_call 34; (with_reducible refine (MgOk.second W0 c0 g N cp vp vq cf HI.out HPA.out HP1.out HB.out.2.2.1 G.out.2.2.2.2.1 G.out.2.2.2.2.2 HB.out.2.2.2.1 hb HB.out.2.2.2.2 _ HS2.out).mono ?_); rintro e' w7 ⟨rfl, E2, hS3, hp2, hs2⟩; have HS3 := Lib.hid hS3; have HP2 := Lib.hid hp2; have HD2 := Lib.hid hs2; clear hS3 hp2 hs2))
        refine bodyPost_end (results_none rfl _ _ _) rfl ?_
        have J2 := J.out; have way := WAY.out; have G2 := G.out
        have sA : Sd (RR cf) a mid E1 := HD1.out
        have fin := HPA.out.fin J2.2.2.2.2.2.1 J2.2.2.2.2.2.2 HP1.out sA HP2.out HD2.out
        exact ⟨rfl, _, HS3.out, fin.1, fin.2⟩
      · skip
        have hT := HT.out; have hgt := HG.out
        have tt0 : (i : Int) < (m : Int) := by omega
        have tt1 : (m : Int) < (e : Int) := by omega
        have tt2 : ¬ (a : Int) < (i : Int) := by omega
        have tt3 : (mid : Int) < (e : Int) := by omega
        have tt4 : (e : Int) < (b : Int) := by omega
        have J : Hid (a ≤ i ∧ i ≤ m ∧ m ≤ e ∧ e ≤ b ∧ mid + m = i + e ∧ a ≤ mid ∧ mid ≤ b) := Lib.hid (by omega)
        have G : Hid (i < m ∧ m < e ∧ a < mid ∧ a < mid ∧ mid < e ∧ e < b) := Lib.hid (by omega)
        have WAY := Lib.hid way
        clear htail hT hgt q1 way
        go_wp2_with (first | (go_at_call 35; (with_reducible refine (st_rotate W0 c0 g N cp vp vq hN _ D HS.out i m e G.out.1 G.out.2.1 HB.out.1).mono ?_); rintro e' w5 ⟨rfl, hS1⟩; rw [← HE.out] at hS1; have HS1 := Lib.hid hS1; clear hS1) | (go_at_call 34; (with_reducible refine (MgOk.second W0 c0 g N cp vp vq cf HI.out HPA.out (Pm.refl a mid _) HB.out.2.2.1 G.out.2.2.2.2.1 G.out.2.2.2.2.2 HB.out.2.2.2.1 hb HB.out.2.2.2.2 _ HS1.out).mono ?_); rintro e' w7 ⟨rfl, E2, hS3, hp2, hs2⟩; have HS3 := Lib.hid hS3; have HP2 := Lib.hid hp2; have HD2 := Lib.hid hs2; clear hS3 hp2 hs2))
        refine bodyPost_end (results_none rfl _ _ _) rfl ?_
        have J2 := J.out; have way := WAY.out; have G2 := G.out
        have sA : Sd (RR cf) a mid E := by
          have q := HPA.out.s2
          rw [show i = a by omega] at q; exact q
        have fin := HPA.out.fin J2.2.2.2.2.2.1 J2.2.2.2.2.2.2 (Pm.refl a mid _) sA HP2.out HD2.out
        exact ⟨rfl, _, HS3.out, fin.1, fin.2⟩
      · skip
        have hT := HT.out; have hgt := HG.out
        have tt0 : (i : Int) < (m : Int) := by omega
        have tt1 : (m : Int) < (e : Int) := by omega
        have tt2 : ¬ (a : Int) < (i : Int) := by omega
        have tt3 : (mid : Int) < (e : Int) := by omega
        have tt4 : ¬ (e : Int) < (b : Int) := by omega
        have J : Hid (a ≤ i ∧ i ≤ m ∧ m ≤ e ∧ e ≤ b ∧ mid + m = i + e ∧ a ≤ mid ∧ mid ≤ b) := Lib.hid (by omega)
        have G : Hid (i < m ∧ m < e ∧ a < mid ∧ a < mid ∧ a < mid ∧ a < mid) := Lib.hid (by omega)
        have WAY := Lib.hid way
        clear htail hT hgt q1 way
        go_wp2_with (first | (go_at_call 35; (with_reducible refine (st_rotate W0 c0 g N cp vp vq hN _ D HS.out i m e G.out.1 G.out.2.1 HB.out.1).mono ?_); rintro e' w5 ⟨rfl, hS1⟩; rw [← HE.out] at hS1; have HS1 := Lib.hid hS1; clear hS1))
        refine bodyPost_end (results_none rfl _ _ _) rfl ?_
        have J2 := J.out; have way := WAY.out; have G2 := G.out
        have sA : Sd (RR cf) a mid E := by
          have q := HPA.out.s2
          rw [show i = a by omega] at q; exact q
        have sB : Sd (RR cf) mid b E := by
          have q := HPA.out.s3
          rw [show e = b by omega] at q; exact sd_eq q fun k k1 k2 => ((Pm.refl a mid _)).same (.inr k1)
        have fin := HPA.out.fin J2.2.2.2.2.2.1 J2.2.2.2.2.2.2 (Pm.refl a mid _) sA (Pm.refl _ _ _) sB
        exact ⟨rfl, _, HS1.out, fin.1, fin.2⟩
theorem mg_all (HC : CmpOk W0 c0 N vp vq cf) : ∀ n, MgOk W0 c0 g N cp vp vq cf n := by
  intro n
  induction n with
  | zero => intro w D a m b hn _ h1 h2; omega
  | succ n IH =>
    intro w D a m b hn hS h1 h2 hb hD s1 s2 hlt
    by_cases c1 : m = a + 1
    · exact mg_up W0 c0 g N cp vp vq cf hN tr HC w D hS a m b c1 h2 hb hD s2 (fun y y1 y2 => hlt a y (Nat.le_refl _) h1 y1 y2)
    · by_cases c2 : b = m + 1
      · exact mg_down W0 c0 g N cp vp vq cf hN tr HC w D hS a m b (by omega) c2 hb hD s1 (fun x x1 x2 => hlt x m x1 x2 (Nat.le_refl _) h2)
      · by_cases c3 : (a + b) / 2 < m
        · exact mg_hi W0 c0 g N cp vp vq cf hN tr n IH HC w D a m b _ hn hS (by omega) (by omega) hb hD s1 s2 hlt rfl c3
        · exact mg_lo W0 c0 g N cp vp vq cf hN tr n IH HC w D a m b _ hn hS (by omega) (by omega) hb hD s1 s2 hlt rfl (by omega)
end
end Go.Proofs.Ytficncmomgddpaa
