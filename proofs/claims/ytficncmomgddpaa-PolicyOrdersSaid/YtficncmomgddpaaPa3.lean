/- PolicyOrders: the walk. -/
import Derived.Test.YtficncmomgddpaaPq2
import Derived.Test.YtficncmomgddpaaPx
import Derived.Test.YtficncmomgddpaaPv2
import Derived.WalkKit
import Derived.WalkLawsBesides
import Derived.WalkSpells
import Derived.Below
import Derived.Deep.RegionHeld3
import Derived.Deep.QuietTactic
import Derived.BigQuiet
import Derived.Deep.DeepCutAuto
import Derived.Deep.DeepMust
import Derived.KernelRfl
import Derived.Lib.Hide
import Derived.Outline
import Derived.RegionTactic
import Derived.StillTailTactics
namespace Go.Proofs.Ytficncmomgddpaa
open Go.RowKit Go.Cl
set_option maxRecDepth 100000
set_option linter.unusedVariables false
set_option linter.unusedSimpArgs false

open Go.Ps
attribute [local go_sem] max2_int min2_int max_two min_two
set_option maxHeartbeats 4000000 in
theorem c_orders (w : World) (p : Option Addr) (n cp : Nat) (E : Nat → En) (hE : Ents w (.slice p n cp) n E) (hcp : n ≤ cp) (e f : En) :
    Calls Try.prog 3 #[.slice p n cp, .agg e.cs, .agg f.cs] w fun r w' => r = .returned (.bool true) ∧ Below w.heap.size w w' := by
  show Calls Try.prog 3 #[.slice p n cp, .agg #[.string e.k, .bool e.v0, .string e.v1, .int .i64 e.l, .int .i64 e.hi, .bool e.hot, .int .i64 e.st, .int .i64 e.ins], .agg #[.string f.k, .bool f.v0, .string f.v1, .int .i64 f.l, .int .i64 f.hi, .bool f.hot, .int .i64 f.st, .int .i64 f.ins]] w _
  obtain ⟨m, hm⟩ : ∃ m, min n 300 = m := ⟨_, rfl⟩
  have hmin : min (n : Int) 300 = (m : Int) := by omega
  have hm1 : m ≤ cp := by omega
  have hm2 : (m : Int) ≤ (cp : Int) := by omega
  have HM := Lib.hid (show m ≤ 300 by omega)
  have HE := Lib.hid (Ents.cut hE (show m ≤ n by omega))
  obtain ⟨D, hD1, hD2⟩ := sorted_ex (tr_cmp E) m
  have HD := Lib.hid (And.intro hD1 hD2)
  clear hm hE hcp hD1 hD2
  obtain ⟨d, hd⟩ : ∃ d, decide (e.cmp f < 0) = d := ⟨_, rfl⟩
  have hc9 : ∀ w, Calls Try.prog 9 #[.agg #[.string e.k, .bool e.v0, .string e.v1, .int .i64 e.l, .int .i64 e.hi, .bool e.hot, .int .i64 e.st, .int .i64 e.ins], .agg #[.string f.k, .bool f.v0, .string f.v1, .int .i64 f.l, .int .i64 f.hi, .bool f.hot, .int .i64 f.st, .int .i64 f.ins]] w fun r w' => r = .returned (.bool d) ∧ Below w.heap.size w w' := fun w => by
    have := c_before e f w
    rw [hd] at this; exact this
  have hc10 : ∀ w, Calls Try.prog 10 #[.agg #[.string e.k, .bool e.v0, .string e.v1, .int .i64 e.l, .int .i64 e.hi, .bool e.hot, .int .i64 e.st, .int .i64 e.ins], .agg #[.string f.k, .bool f.v0, .string f.v1, .int .i64 f.l, .int .i64 f.hi, .bool f.hot, .int .i64 f.st, .int .i64 f.ins]] w fun r w' => r = .returned (.bool d) ∧ Below w.heap.size w w' := fun w => by
    have := c_ref e f w
    rw [hd] at this; exact this
  have hc11 : ∀ w, Ents w (.slice p m cp) m E → Calls Try.prog 11 #[.slice p m cp] w fun e w' => e = .returned (.int .i64 (vic E m)) ∧ Below w.heap.size w w' := fun w h => c_victim w _ m E h (by have := HM.out; omega)
  have hc12 : ∀ w, Ents w (.slice p m cp) m E → Calls Try.prog 12 #[.slice p m cp] w fun e w' => e = .returned (.int .i64 (vic E m)) ∧ Below w.heap.size w w' := fun w h => c_rvictim w _ m E h (by have := HM.out; omega)
  generalize vic E m = u at *
  have HC := Lib.hid (And.intro hc9 (And.intro hc10 (And.intro hc11 hc12)))
  clear hc9 hc10 hc11 hc12 hd
  go_enter Try.func3, Try.ntmps3
  go_upto_region 1 with fail
  refine Ph.at_world ?_; intro W1 hW
  have k0 : hp W1 w.heap.size = some (.cells #[.string e.k, .bool e.v0, .string e.v1, .int .i64 e.l, .int .i64 e.hi, .bool e.hot, .int .i64 e.st, .int .i64 e.ins] 28 (0, 0)) := by rw [hW]; simp [hpA]
  have k1 : hp W1 (w.heap.size + 1) = some (.cells #[.string f.k, .bool f.v0, .string f.v1, .int .i64 f.l, .int .i64 f.hi, .bool f.hot, .int .i64 f.st, .int .i64 f.ins] 28 (0, 0)) := by rw [hW]; simp [hpA]
  have HB0 := Lib.hid (show Below w.heap.size w W1 by rw [hW]; exact below_alloc (below_alloc (Below.refl _ _) _) _)
  clear hW
  have K0 := Lib.hid (And.intro k0 k1)
  clear k0 k1
  go_upto_region 4 with (go_at_call 8; (with_reducible refine (c_fixed _).mono ?_); rintro e w1 ⟨rfl, hb1⟩; have HB1 := Lib.hid hb1; clear hb1)
  clear hmin hm1 hm2
  have KK := Lib.hid (And.intro (hp_below HB1.out K0.out.1) (hp_below HB1.out K0.out.2))
  have HBW := Lib.hid (below_call HB0.out HB1.out)
  have HE1 := Lib.hid (HE.out.below HBW.out)
  refine Ph.region_at (by kernel_rfl) ?_
  refine Ph.at_quiet 15 (by kernel_rfl) ?_
  simp only [List.take_succ_cons, List.take_zero, List.drop_succ_cons, List.drop_zero]
  repeat ((first | (apply Ph.wpPh_g; (focus (intro wx hS0; have hz := below_call (below_drew (Below.refl w1.heap.size w1)) hS0; have c0 := hp_cell (hp_below hz KK.out.1); have c1 := hp_cell (hp_below hz KK.out.2); go_simp; first | exact rfl | exact ⟨rfl, Below.refl _ _⟩ | ((with_reducible refine (HC.out.1 _).mono ?_); rintro e w2 ⟨rfl, hb⟩; exact ⟨rfl, hb⟩) | ((with_reducible refine (HC.out.2.1 _).mono ?_); rintro e w2 ⟨rfl, hb⟩; exact ⟨rfl, hb⟩) | ((with_reducible refine (HC.out.2.2.1 _ (HE1.out.below hz)).mono ?_); rintro e w2 ⟨rfl, hb⟩; exact ⟨rfl, hb⟩) | ((with_reducible refine (HC.out.2.2.2 _ (HE1.out.below hz)).mono ?_); rintro e w2 ⟨rfl, hb⟩; exact ⟨rfl, hb⟩))))); simp only [Act.put, List.setIfInBounds_toArray, List.set_cons_zero, List.set_cons_succ])
  refine Ph.wpPh_nil ?_; intro w2 hS2
  have HE2 := Lib.hid (HE1.out.below (below_call (below_drew (Below.refl _ _)) hS2))
  refine Ph.at_two 19 16 18 30 32 (fun _ v w => RdI w v m D) (fun _ _ _ _ h hb => RdI.below h hb) (by kernel_rfl) (by kernel_rfl) (by kernel_rfl) (by decide) (by decide) (by decide) (by decide) rfl rfl ?_
  simp only [List.take_succ_cons, List.take_zero, List.drop_succ_cons, List.drop_zero]
  refine Ph.wpM_g (by decide) (fun w1 hS0 => by go_simp; first | exact rfl | exact ⟨rfl, Below.refl _ _⟩) ?_
  simp only [Act.put, List.setIfInBounds_toArray, List.set_cons_zero, List.set_cons_succ]
  refine Ph.wpM_e (by decide) (by rfl) (fun w3 hS0 => ?_) ?_
  · go_simp
    refine (c_order w3 _ m E (HE2.out.below hS0) (by have := HM.out; omega) (tr_cmp E)).mono ?_
    rintro e w4 ⟨hb, v', D', rfl, h1, h2, h3⟩
    exact ⟨_, rfl, hb, h1.rd.same (sorted_one (anti_cmp E) h2 h3 HD.out.1 HD.out.2)⟩
  refine Ph.wpM_g (by decide) (fun w1 hS0 => by go_simp; first | exact rfl | exact ⟨rfl, Below.refl _ _⟩) ?_
  simp only [Act.put, List.setIfInBounds_toArray, List.set_cons_zero, List.set_cons_succ]
  refine Ph.wpM_e (by decide) (by rfl) (fun w3 hS0 => ?_) ?_
  · go_simp
    refine (c_rorder w3 _ m _ E (HE2.out.below hS0) (by have := HM.out; omega) D HD.out.1 HD.out.2).mono ?_
    rintro e w4 ⟨hb, v', rfl, h1⟩
    exact ⟨_, rfl, hb, h1⟩
  refine Ph.wpM_nil ?_; intro u1 u2 W3 hS3 hu1 hu2
  simp only [Act.put, List.setIfInBounds_toArray, List.set_cons_zero, List.set_cons_succ]
  have HU := Lib.hid (And.intro hu1 hu2)
  clear hu1 hu2
  refine Ph.at_quiet 22 (by kernel_rfl) ?_
  simp only [List.take_succ_cons, List.take_zero, List.drop_succ_cons, List.drop_zero]
  repeat ((first | (apply Ph.wpPh_g; (focus (intro wx hS0; go_simp; first | exact rfl | exact ⟨rfl, Below.refl _ _⟩ | ((with_reducible refine (c_same _ _ _ m D D (by have := HM.out; omega) (HU.out.1.below hS0) (HU.out.2.below hS0) (fun _ _ => rfl)).mono ?_); rintro e w2 ⟨rfl, hb⟩; exact ⟨rfl, hb⟩))))); simp only [Act.put, List.setIfInBounds_toArray, List.set_cons_zero, List.set_cons_succ])
  refine Ph.wpPh_nil ?_; intro W4 hS4
  refine Ph.at_end (by simp) ?_
  go_wp2
  go_ret
  exact ⟨rfl, below_call (below_call (below_call HBW.out (below_call (below_drew (Below.refl _ _)) hS2)) hS3) hS4⟩
end Go.Proofs.Ytficncmomgddpaa
