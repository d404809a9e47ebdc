/- The sort: a short block. -/
import Derived.Test.YtficncmomgddpaaPo
import Derived.WalkKit
import Derived.WalkLawsBesides
import Derived.WalkSpells
import Derived.Below
import Derived.Deep.RegionHeld3
import Derived.Deep.QuietTactic
import Derived.BigQuiet
import Derived.Deep.DeepCutAuto
import Derived.Deep.DeepMust
import Derived.KernelRfl
import Derived.Lib.Hide
import Derived.Outline
import Derived.RegionTactic
import Derived.StillTailTactics
namespace Go.Proofs.Ytficncmomgddpaa
open Go.RowKit Go.Cl
set_option maxRecDepth 100000
set_option linter.unusedVariables false
set_option linter.unusedSimpArgs false

open Go.Ps
/-- What the sort makes of the comparison: the smaller ahead; of equals, the one that came first. -/
def RR (cf : Nat → Nat → Int) (x y : Nat) : Prop := cf x y < 0 ∨ (¬ cf y x < 0 ∧ x < y)
theorem Pm.lt {a b N : Nat} {D E : Nat → Nat} (h : Pm a b D E) (hb : b ≤ N) (hD : ∀ k, k < N → D k < N) : ∀ k, k < N → E k < N :=
  fun k hk => (h.mono (Nat.zero_le a) hb).all (P := fun u => u < N) (fun i _ hi => hD i hi) k (Nat.zero_le _) hk
theorem Sd.nil (R : Nat → Nat → Prop) (a : Nat) (D : Nat → Nat) : Sd R a a D := fun i j h1 h2 h3 => by omega
theorem rot_down1 {j k m : Nat} (h : j = k + 1) (hm : j ≤ m) (D : Nat → Nat) : swp (rot j m (m + 1) D) j k = rot k m (m + 1) D := by subst h; exact rot_down m k (by omega) D
theorem SS.drew {W0 : World} {c0 : Nat → Nat} {g N : Nat} {D : Nat → Nat} {W : World} (h : SS W0 c0 g N D W) : SS W0 c0 g N D W.drew := h.below (below_drew (Below.refl _ _))
theorem rot_one (i : Nat) (D : Nat → Nat) : rot i i (i + 1) D = D := rot_id_l i (i + 1) D
def IsInv (W0 : World) (c0 : Nat → Nat) (g N : Nat) (cf : Nat → Nat → Int) (a b : Nat) (D : Nat → Nat) (x : Value) (wr : World) : Prop :=
  ∃ (i : Nat) (E : Nat → Nat), x = .int .i64 i ∧ a + 1 ≤ i ∧ i ≤ b + 1 ∧ SS W0 c0 g N E wr ∧ ((a = b ∧ E = D) ∨ (i ≤ b ∧ Pm a i D E ∧ Sd (RR cf) a i E))
def InInv (W0 : World) (c0 : Nat → Nat) (g N : Nat) (cf : Nat → Nat → Int) (a i : Nat) (E : Nat → Nat) (x : Value) (wr : World) : Prop :=
  ∃ (j : Nat), x = .int .i64 j ∧ a ≤ j ∧ j ≤ i ∧ SS W0 c0 g N (rot j i (i + 1) E) wr ∧ (j = i ∨ RR cf (E i) (E j))
section
variable (W0 : World) (c0 : Nat → Nat) (g N cp : Nat) (vp vq : Value) (cf : Nat → Nat → Int) (hN : N ≤ 1000) (tr : ∀ x y z, RR cf x y → RR cf y z → RR cf x z)
include hN tr
set_option maxHeartbeats 1000000 in
theorem st_insert (HC0 : CmpOk W0 c0 N vp vq cf) (w : World) (D : Nat → Nat) (hS : SS W0 c0 g N D w) (a b : Nat) (hab : a ≤ b) (hb : b ≤ N) (hD : ∀ k, k < N → D k < N) (hid : ∀ k, a ≤ k → k < b → D k = k) :
    Calls Try.prog 33 #[.slice (some ⟨g, 0, none⟩) N cp, .int .i64 a, .int .i64 b, .func (.func 29) #[] #[vp, vq]] w fun e w' => e = .returned (.tuple #[]) ∧ ∃ D', SS W0 c0 g N D' w' ∧ Pm a b D D' ∧ Sd (RR cf) a b D' := by
  have HC := Lib.hid HC0; clear HC0
  have w1 : IntKind.i64.wrap ((a : Int) + 1) = (a : Int) + 1 := IntWalk.i64_in _ (by omega)
  go_enter Try.func33, Try.ntmps33
  go_wp2
  clear w1
  go_loopw [8] (IsInv W0 c0 g N cf a b D) (fun x _ => b + 1 - (intOf x).toNat)
  case atStart =>
    refine ⟨a + 1, D, by go_num, by omega, by omega, hS, ?_⟩
    by_cases e : a = b
    · exact .inl ⟨e, rfl⟩
    · exact .inr ⟨by omega, Pm.refl _ _ _, Sd.one _ _ _⟩
  case round =>
    clear hS
    obtain ⟨i, E, rfl, hai, hib, hS, hcase⟩ := hrel
    by_cases hlt : i < b
    · have hq : Pm a i D E ∧ Sd (RR cf) a i E := by
        rcases hcase with ⟨e, _⟩ | ⟨_, h1, h2⟩
        · omega
        · exact ⟨h1, h2⟩
      have HQ := Lib.hid hq
      have hEi : E i = i := by rw [hq.1.same (.inr (Nat.le_refl i))]; exact hid i (by omega) hlt
      have hEl : ∀ k, a ≤ k → k < i → E k < i := hq.1.all (P := fun u => u < i) (fun k h1 h2 => by rw [hid k h1 (by omega)]; exact h2)
      have HEI := Lib.hid hEi; have HEL := Lib.hid hEl
      clear hcase hq hEi hEl
      go_wp2
      go_loopw [9] (InInv W0 c0 g N cf a i E) (fun x _ => (intOf x).toNat)
      case atStart => exact ⟨i, rfl, by omega, Nat.le_refl _, by rw [rot_one]; exact hS, .inl rfl⟩
      case round =>
        clear hS
        obtain ⟨j, rfl, haj, hji, hS, hjr⟩ := hrel
        have HJ := Lib.hid hjr; clear hjr
        by_cases hgt : a < j
        · obtain ⟨k, hk⟩ : ∃ k, j = k + 1 := ⟨j - 1, by omega⟩
          have HK := Lib.hid hk
          have v1 : rot j i (i + 1) E j = E i := by show E (rotI j i (i + 1) j) = E i; rw [rotI_1 (Nat.le_refl _) (by omega)]; congr 1; omega
          have v2 : rot j i (i + 1) E k = E k := by show E (rotI j i (i + 1) k) = E k; rw [rotI_lo (by omega)]
          have V1 := Lib.hid v1; have V2 := Lib.hid v2; clear v1 v2
          have x1 : E i < N := by rw [HEI.out]; omega
          have x2 : E k < N := by have := HEL.out k (by omega) (by omega); omega
          have w1 : IntKind.i64.wrap ((j : Int) - 1) = (k : Int) := by rw [IntWalk.i64_in _ (by omega)]; omega
          have b1 : (k : Int) < (N : Int) := by omega
          have b2 : (j : Int) < (N : Int) := by omega
          have b3 : k < N := by omega
          have b4 : j < N := by omega
          have b5 : (a : Int) < (j : Int) := by omega
          have H2 := Lib.hid hS; have HD2 := Lib.hid hS.drew; clear hS hk
          by_cases hc : cf (E i) (E k) < 0
          · have hsw : SS W0 c0 g N (rot k i (i + 1) E) = SS W0 c0 g N (swp (rot j i (i + 1) E) j k) := by rw [rot_down1 HK.out hji]
            have HSW := Lib.hid hsw; clear hsw
            go_wp2
            refine Ph.region_at (by kernel_rfl) ?_
            refine Ph.at_quiet 17 (by kernel_rfl) ?_
            simp only [List.take_succ_cons, List.take_zero, List.drop_succ_cons, List.drop_zero]
            repeat ((first | (apply Ph.wpPh_g; (focus (intro w1 hS0; have ca1 := (HD2.out.below hS0).cell (i := j) b4; rw [V1.out] at ca1; have cb1 := (HD2.out.below hS0).cell (i := k) b3; rw [V2.out] at cb1; go_simp; first | exact rfl | exact ⟨rfl, Below.refl _ _⟩ | ((with_reducible refine (HC.out.at (HD2.out.below hS0) _ _ (by assumption) (by assumption)).mono ?_); rintro e w2 ⟨rfl, hb⟩; exact ⟨rfl, hb⟩))))); simp only [Act.put, List.setIfInBounds_toArray, List.set_cons_zero, List.set_cons_succ])
            refine Ph.wpPh_nil ?_; intro w4 hS4
            refine Ph.at_end (by simp) ?_
            replace H2 := Lib.hid (HD2.out.below hS4)
            clear hS4 HD2
            go_wp2
            refine Ph.wp_region_gr 14 14 [false, false, true, true, true] (by kernel_rfl) (by kernel_rfl) (fun _ d _ _ _ h => by cases d <;> exact h) ?_
            simp only [List.take_succ_cons, List.take_zero, List.drop_succ_cons, List.drop_zero]
            repeat ((first | (apply Ph.wpG_op rfl; (focus (intro w1 hS0; have ca1 := (H2.out.below hS0).cell (i := j) b4; rw [V1.out] at ca1; have cb1 := (H2.out.below hS0).cell (i := k) b3; rw [V2.out] at cb1; go_simp; first | exact rfl | exact ⟨rfl, Below.refl _ _⟩))) | (apply Ph.wpG_late; (focus (intro w1; go_simp; exact rfl)))); simp only [List.tail_cons, List.tail_nil, Act.put, List.setIfInBounds_toArray, List.set_cons_zero, List.set_cons_succ])
            refine Ph.wpG_nil ?_
            refine Ph.wpAl_nil ?_; intro w2 hS hgs hne
            have hS3 := H2.out.below hS
            have fr := hS3.free
            have fs := hS3.free_set
            have ca := hS3.cell (i := j) (by omega); rw [V1.out] at ca
            have cb := hS3.cell (i := k) (by omega); rw [V2.out] at cb
            have n1 : ¬ (j = k) := by have := HK.out; omega
            have n2 : ¬ (k = j) := by have := HK.out; omega
            go_wp2
            have hs := hS3.swap (i := j) (j := k) (by omega) (by omega)
            rw [← HSW.out, V1.out, V2.out] at hs
            have := HK.out
            exact ⟨⟨k, by go_num, by omega, by omega, hs, .inr (.inl hc)⟩, by simp [intOf]; omega⟩
          · go_wp2
            refine Ph.region_at (by kernel_rfl) ?_
            refine Ph.at_quiet 17 (by kernel_rfl) ?_
            simp only [List.take_succ_cons, List.take_zero, List.drop_succ_cons, List.drop_zero]
            repeat ((first | (apply Ph.wpPh_g; (focus (intro w1 hS0; have ca1 := (HD2.out.below hS0).cell (i := j) b4; rw [V1.out] at ca1; have cb1 := (HD2.out.below hS0).cell (i := k) b3; rw [V2.out] at cb1; go_simp; first | exact rfl | exact ⟨rfl, Below.refl _ _⟩ | ((with_reducible refine (HC.out.at (HD2.out.below hS0) _ _ (by assumption) (by assumption)).mono ?_); rintro e w2 ⟨rfl, hb⟩; exact ⟨rfl, hb⟩))))); simp only [Act.put, List.setIfInBounds_toArray, List.set_cons_zero, List.set_cons_succ])
            refine Ph.wpPh_nil ?_; intro w4 hS4
            refine Ph.at_end (by simp) ?_
            go_wp2
            have hk := HK.out
            have r1 : RR cf (E (j - 1)) (E i) := by
              rw [show j - 1 = k by omega]
              exact .inr ⟨by omega, by rw [HEI.out]; exact HEL.out k (by omega) (by omega)⟩
            exact ⟨⟨i + 1, rot j i (i + 1) E, by go_num, by omega, by omega, HD2.out.below hS4, .inr ⟨by omega, (HQ.out.1.mono (Nat.le_refl _) (Nat.le_succ i)).trans ((rot_pm hji (Nat.le_succ i) E).mono haj (Nat.le_refl _)), ins_right tr haj hji HQ.out.2 (.inr r1) HJ.out⟩⟩, by simp [intOf]; omega⟩
        · have hja : j = a := by omega
          have b5 : ¬ ((a : Int) < (j : Int)) := by omega
          have HD2 := Lib.hid hS.drew; clear hS
          go_wp2
          refine Ph.region_at (by kernel_rfl) ?_
          refine Ph.at_quiet 17 (by kernel_rfl) ?_
          simp only [List.take_succ_cons, List.take_zero, List.drop_succ_cons, List.drop_zero]
          repeat ((first | (apply Ph.wpPh_g; (focus (intro w1 hS0; go_simp; first | exact rfl | exact ⟨rfl, Below.refl _ _⟩)))); simp only [Act.put, List.setIfInBounds_toArray, List.set_cons_zero, List.set_cons_succ])
          refine Ph.wpPh_nil ?_; intro w4 hS4
          refine Ph.at_end (by simp) ?_
          go_wp2
          exact ⟨⟨i + 1, rot j i (i + 1) E, by go_num, by omega, by omega, HD2.out.below hS4, .inr ⟨by omega, (HQ.out.1.mono (Nat.le_refl _) (Nat.le_succ i)).trans ((rot_pm hji (Nat.le_succ i) E).mono haj (Nat.le_refl _)), ins_right tr haj hji HQ.out.2 (.inl hja) HJ.out⟩⟩, by simp [intOf]; omega⟩
    · have b5 : ¬ ((i : Int) < (b : Int)) := by omega
      have HS := Lib.hid hS; have HC2 := Lib.hid hcase; clear hS hcase
      go_wp2
      refine bodyPost_end (results_none rfl _ _ _) rfl ?_
      rcases HC2.out with ⟨e1, e2⟩ | ⟨e1, e2, e3⟩
      · subst e1; subst e2; exact ⟨rfl, _, HS.out, Pm.refl _ _ _, Sd.nil _ _ _⟩
      · obtain rfl : i = b := by omega
        exact ⟨rfl, _, HS.out, e2, e3⟩
end
end Go.Proofs.Ytficncmomgddpaa
