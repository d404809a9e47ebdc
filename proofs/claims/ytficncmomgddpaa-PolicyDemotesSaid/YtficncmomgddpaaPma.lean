/- The sort: a merge with one ahead. -/
import Derived.Test.YtficncmomgddpaaPi
import Derived.WalkKit
import Derived.WalkLawsBesides
import Derived.WalkSpells
import Derived.Below
import Derived.Deep.RegionHeld3
import Derived.Deep.QuietTactic
import Derived.BigQuiet
import Derived.Deep.DeepCutAuto
import Derived.Deep.DeepMust
import Derived.KernelRfl
import Derived.Lib.Hide
import Derived.Outline
import Derived.RegionTactic
import Derived.StillTailTactics
namespace Go.Proofs.Ytficncmomgddpaa
open Go.RowKit Go.Cl
set_option maxRecDepth 100000
set_option linter.unusedVariables false
set_option linter.unusedSimpArgs false

open Go.Ps
def BsInv (W0 : World) (c0 : Nat → Nat) (g N : Nat) (D : Nat → Nat) (lo hi : Nat) (L H : Nat → Prop) (x y : Value) (wr : World) : Prop :=
  ∃ i j : Nat, x = .int .i64 i ∧ y = .int .i64 j ∧ lo ≤ i ∧ i ≤ j ∧ j ≤ hi ∧ SS W0 c0 g N D wr ∧ (i = lo ∨ L (i - 1)) ∧ (j = hi ∨ H j)
def UpInv (W0 : World) (c0 : Nat → Nat) (g N : Nat) (D : Nat → Nat) (a i : Nat) (x : Value) (wr : World) : Prop :=
  ∃ k : Nat, x = .int .i64 k ∧ a ≤ k ∧ k + 1 ≤ i ∧ SS W0 c0 g N (rot a (a + 1) (k + 1) D) wr
def DnInv (W0 : World) (c0 : Nat → Nat) (g N : Nat) (D : Nat → Nat) (i m : Nat) (x : Value) (wr : World) : Prop :=
  ∃ k : Nat, x = .int .i64 k ∧ i ≤ k ∧ k ≤ m ∧ SS W0 c0 g N (rot k m (m + 1) D) wr
section
variable (W0 : World) (c0 : Nat → Nat) (g N cp : Nat) (vp vq : Value) (cf : Nat → Nat → Int) (hN : N ≤ 1000) (tr : ∀ x y z, RR cf x y → RR cf y z → RR cf x z)
include hN tr
set_option maxHeartbeats 1000000 in
theorem mg_up (HC0 : CmpOk W0 c0 N vp vq cf) (w : World) (D : Nat → Nat) (hS : SS W0 c0 g N D w) (a m b : Nat) (hma : m = a + 1) (hmb : m < b) (hb : b ≤ N) (hD : ∀ k, k < N → D k < N)
    (hs : Sd (RR cf) m b D) (hlt : ∀ y, m ≤ y → y < b → D a < D y) :
    Calls Try.prog 34 #[.slice (some ⟨g, 0, none⟩) N cp, .int .i64 a, .int .i64 m, .int .i64 b, .func (.func 29) #[] #[vp, vq]] w fun e w' => e = .returned (.tuple #[]) ∧ ∃ D', SS W0 c0 g N D' w' ∧ Pm a b D D' ∧ Sd (RR cf) a b D' := by
  have HC := Lib.hid HC0; clear HC0
  have HL := Lib.hid hlt; have HS0 := Lib.hid hs; clear hlt hs
  have HM := Lib.hid hma
  have b0 : IntKind.i64.wrap ((m : Int) - (a : Int)) = 1 := by rw [IntWalk.i64_in _ (by omega)]; omega
  clear hma
  go_enter Try.func34, Try.ntmps34
  go_wp2
  clear b0
  go_loopw [10, 11] (BsInv W0 c0 g N D m b (fun k => cf (D k) (D a) < 0) (fun k => 0 ≤ cf (D k) (D a))) (fun x y _ => (intOf y).toNat - (intOf x).toNat)
  case atStart => exact ⟨m, b, rfl, rfl, Nat.le_refl _, by omega, Nat.le_refl _, hS, .inl rfl, .inl rfl⟩
  case round =>
    clear hS
    obtain ⟨i, j, rfl, rfl, hi, hij, hj, hS, hl, hh⟩ := hrel
    have HLH := Lib.hid (And.intro hl hh); clear hl hh
    have HD2 := Lib.hid hS.drew
    have HS := Lib.hid hS; clear hS
    have hma := HM.out
    by_cases hlt : i < j
    · have b1 : (i : Int) < (j : Int) := by omega
      obtain ⟨h, hh⟩ : ∃ h, h = (i + j) / 2 := ⟨_, rfl⟩
      have hh1 : i ≤ h ∧ h ≤ j ∧ 2 * h ≤ i + j ∧ i + j ≤ 2 * h + 1 := by omega
      have w1 : IntKind.i64.wrap ((i : Int) + (j : Int)) = (i : Int) + (j : Int) := IntWalk.i64_in _ (by omega)
      have w2 : IntKind.u64.wrap ((i : Int) + (j : Int)) = (i : Int) + (j : Int) := by simp [IntKind.wrap, IntKind.bits, IntKind.signed]; omega
      have w3 : ((i : Int) + (j : Int)) / 2 = (h : Int) := by omega
      have w4 : IntKind.u64.wrap (h : Int) = (h : Int) := by simp [IntKind.wrap, IntKind.bits, IntKind.signed]; omega
      have w5 : IntKind.i64.wrap (h : Int) = (h : Int) := IntWalk.i64_in _ (by omega)
      have w6 : IntKind.i64.wrap ((h : Int) + 1) = (h : Int) + 1 := IntWalk.i64_in _ (by omega)
      clear hh
      have oa : (a : Int) < (N : Int) := by omega
      have pa : a < N := by omega
      have oh : (h : Int) < (N : Int) := by omega
      have ph : h < N := by omega
      have x1 := hD h ph
      have x2 := hD a pa
      clear hma
      by_cases hc : cf (D h) (D a) < 0
      · go_wp2
        refine Ph.region_at (by kernel_rfl) ?_
        refine Ph.at_quiet 11 (by kernel_rfl) ?_
        simp only [List.take_succ_cons, List.take_zero, List.drop_succ_cons, List.drop_zero]
        repeat ((first | (apply Ph.wpPh_g; (focus (intro w1 hS0; have ca1 := (HD2.out.below hS0).cell (i := h) ph; have cb1 := (HD2.out.below hS0).cell (i := a) pa; go_simp; first | exact rfl | exact ⟨rfl, Below.refl _ _⟩ | ((with_reducible refine (HC.out.at (HD2.out.below hS0) _ _ (by assumption) (by assumption)).mono ?_); rintro e w2 ⟨rfl, hb⟩; exact ⟨rfl, hb⟩))))); simp only [Act.put, List.setIfInBounds_toArray, List.set_cons_zero, List.set_cons_succ])
        refine Ph.wpPh_nil ?_; intro w4 hS4
        refine Ph.at_end (by simp) ?_
        go_wp2
        have hma := HM.out
        exact ⟨⟨h + 1, j, by go_num, rfl, by omega, by omega, hj, HD2.out.below hS4, .inr hc, HLH.out.2⟩, by simp [intOf]; omega⟩
      · go_wp2
        refine Ph.region_at (by kernel_rfl) ?_
        refine Ph.at_quiet 11 (by kernel_rfl) ?_
        simp only [List.take_succ_cons, List.take_zero, List.drop_succ_cons, List.drop_zero]
        repeat ((first | (apply Ph.wpPh_g; (focus (intro w1 hS0; have ca1 := (HD2.out.below hS0).cell (i := h) ph; have cb1 := (HD2.out.below hS0).cell (i := a) pa; go_simp; first | exact rfl | exact ⟨rfl, Below.refl _ _⟩ | ((with_reducible refine (HC.out.at (HD2.out.below hS0) _ _ (by assumption) (by assumption)).mono ?_); rintro e w2 ⟨rfl, hb⟩; exact ⟨rfl, hb⟩))))); simp only [Act.put, List.setIfInBounds_toArray, List.set_cons_zero, List.set_cons_succ])
        refine Ph.wpPh_nil ?_; intro w4 hS4
        refine Ph.at_end (by simp) ?_
        go_wp2
        have hma := HM.out
        exact ⟨⟨i, h, rfl, rfl, hi, by omega, by omega, HD2.out.below hS4, HLH.out.1, .inr (by show 0 ≤ cf (D h) (D a); omega)⟩, by simp [intOf]; omega⟩
    · obtain rfl : i = j := by omega
      have b1 : ¬ ((i : Int) < (i : Int)) := by omega
      clear hma HD2
      go_wp2
      go_loopw [13] (UpInv W0 c0 g N D a i) (fun x _ => i - (intOf x).toNat)
      case atStart => have hma := HM.out; exact ⟨a, rfl, Nat.le_refl _, by omega, by rw [rot_id_r]; exact HS.out⟩
      case round =>
        clear HS b1
        obtain ⟨k, rfl, hak, hki, hS⟩ := hrel
        have hma := HM.out
        have w1 : IntKind.i64.wrap ((i : Int) - 1) = (i : Int) - 1 := IntWalk.i64_in _ (by omega)
        by_cases hk : k + 1 < i
        · have b1 : (k : Int) < (i : Int) - 1 := by omega
          obtain ⟨q, hq⟩ : ∃ q, q = k + 1 := ⟨_, rfl⟩
          have HQ := Lib.hid hq
          have v1 : rot a (a + 1) (k + 1) D k = D a := by show D (rotI a (a + 1) (k + 1) k) = D a; rw [rotI_2 (by omega) (by omega)]; congr 1; omega
          have v2 : rot a (a + 1) (k + 1) D q = D q := by show D (rotI a (a + 1) (k + 1) q) = D q; rw [rotI_hi (by omega) (by omega)]
          have hsw : swp (rot a (a + 1) (k + 1) D) k q = rot a (a + 1) (q + 1) D := by rw [hq]; exact rot_up a k hak D
          have V1 := Lib.hid v1; have V2 := Lib.hid v2; have HSW := Lib.hid hsw; clear v1 v2 hsw
          have w2 : IntKind.i64.wrap ((k : Int) + 1) = (q : Int) := by rw [IntWalk.i64_in _ (by omega)]; omega
          have ok : (k : Int) < (N : Int) := by omega
          have pk : k < N := by omega
          have oq : (q : Int) < (N : Int) := by omega
          have pq : q < N := by omega
          have n1 : ¬ (k = q) := by omega
          have n2 : ¬ (q = k) := by omega
          have H2 := Lib.hid hS; clear hS hq hma
          go_wp2
          refine Ph.wp_region_gr 14 14 [false, false, true, true, true] (by kernel_rfl) (by kernel_rfl) (fun _ d _ _ _ h => by cases d <;> exact h) ?_
          simp only [List.take_succ_cons, List.take_zero, List.drop_succ_cons, List.drop_zero]
          repeat ((first | (apply Ph.wpG_op rfl; (focus (intro w1 hS0; have ca1 := (H2.out.below hS0).cell (i := k) pk; rw [V1.out] at ca1; have cb1 := (H2.out.below hS0).cell (i := q) pq; rw [V2.out] at cb1; go_simp; first | exact rfl | exact ⟨rfl, Below.refl _ _⟩))) | (apply Ph.wpG_late; (focus (intro w1; go_simp; exact rfl)))); simp only [List.tail_cons, List.tail_nil, Act.put, List.setIfInBounds_toArray, List.set_cons_zero, List.set_cons_succ])
          refine Ph.wpG_nil ?_
          refine Ph.wpAl_nil ?_; intro w2 hS hgs hne
          have hS3 := H2.out.below hS
          have fr := hS3.free
          have fs := hS3.free_set
          have ca := hS3.cell (i := k) pk; rw [V1.out] at ca
          have cb := hS3.cell (i := q) pq; rw [V2.out] at cb
          go_wp2
          have hs := hS3.swap (i := k) (j := q) pk pq
          rw [HSW.out, V1.out, V2.out] at hs
          have := HQ.out
          exact ⟨⟨q, by go_num, by omega, by omega, hs⟩, by simp [intOf]; omega⟩
        · have b1 : ¬ ((k : Int) < (i : Int) - 1) := by omega
          have H2 := Lib.hid hS; clear hS hma
          go_wp2
          have hma := HM.out
          refine bodyPost_ret (v := .tuple #[]) (results_none rfl _ _ _) rfl ?_
          have hs := H2.out
          rw [show k + 1 = i by omega] at hs
          refine ⟨rfl, _, hs, (rot_pm (by omega) (by omega) D).mono (Nat.le_refl _) hj, ins_left tr (by omega) hj (by rw [← hma]; exact HS0.out) ?_ ?_⟩
          · rcases HLH.out.1 with e | e
            · exact .inl (by omega)
            · exact .inr (.inl e)
          · rcases HLH.out.2 with e | e
            · exact .inl e
            · by_cases eb : i = b
              · exact .inl eb
              · exact .inr (.inr ⟨by omega, HL.out i hi (by omega)⟩)
end
end Go.Proofs.Ytficncmomgddpaa
