/- Demote. -/
import Derived.Test.YtficncmomgddpaaPd2
import Derived.WalkKit
import Derived.WalkLawsBesides
import Derived.WalkSpells
import Derived.Below
import Derived.Deep.RegionHeld3
import Derived.Deep.QuietTactic
import Derived.BigQuiet
import Derived.Deep.DeepCutAuto
import Derived.Deep.DeepMust
import Derived.KernelRfl
import Derived.Lib.Hide
import Derived.Outline
import Derived.RegionTactic
import Derived.StillTailTactics
namespace Go.Proofs.Ytficncmomgddpaa
open Go.RowKit Go.Cl
set_option maxRecDepth 100000
set_option linter.unusedVariables false
set_option linter.unusedSimpArgs false

open Go.Ps
set_option maxHeartbeats 1000000 in
theorem index_nil (f : Value) (w : World) : Calls Try.prog 31 #[.slice none 0 0, f] w fun e w' => e = .returned (.int .i64 (-1)) ∧ w = w' := by
  go_enter Try.func31, Try.ntmps31
  go_wp2
  go_loop [8] (fun z => z = .int .i64 0) (fun _ => 0)
  case atStart => rfl
  case round =>
    subst hrel
    go_wp2
    go_ret
    exact ⟨rfl, rfl⟩
set_option maxHeartbeats 1000000 in
theorem delete_nil (f : Value) (w : World) : Calls Try.prog 24 #[.slice none 0 0, f] w fun e w' => e = .returned (.slice none 0 0) ∧ w = w' := by
  go_enter Try.func24, Try.ntmps24
  go_wp2_with (go_at_call 31; (with_reducible refine (index_nil _ _).mono ?_); rintro e w1 ⟨rfl, rfl⟩)
  go_ret
  exact ⟨rfl, rfl⟩
def hots (E : Nat → En) (x : Nat) : Bool := (E x).hot
set_option maxHeartbeats 2000000 in
theorem c_demote (w : World) (v : Value) (n : Nat) (keep : Int) (hk0 : -9223372036854775808 ≤ keep) (hk : keep ≤ 9223372036854775807) (E : Nat → En) (hE : Ents w v n E) (hn : n ≤ 1000) (hpos : 0 < n) (tr : ∀ x y z, RR (fun x y => (E x).dem (E y)) x y → RR (fun x y => (E x).dem (E y)) y z → RR (fun x y => (E x).dem (E y)) x z) :
    Calls Try.prog 16 #[v, .int .i64 keep] w fun e w' => Below w.heap.size w w' ∧ ∃ (v' : Value) (D F : Nat → Nat) (k m : Nat), e = .returned v' ∧ Pm 0 n (fun k => k) D ∧ Sd (RR (fun x y => (E x).dem (E y))) 0 n D ∧ k ≤ n ∧ ls F k = (ls D n).filter (hots E) ∧ (m : Int) = max ((k : Int) - max keep 0) 0 ∧ RdI w' v' m F := by
  have HEN := Lib.hid hE
  have HTR := Lib.hid tr; clear tr
  obtain ⟨p, cp, rfl, _⟩ := hE
  go_enter Try.func16, Try.ntmps16
  go_upto_region 1 with fail
  refine Ph.at_world ?_; intro W1 hW
  have k0 : hp W1 w.heap.size = some (.cells #[.slice p n cp] 22 (0, 0)) := by rw [hW]; simp [hpA]
  have HB1 : Below w.heap.size w W1 := by rw [hW]; exact below_alloc (Below.refl _ _) _
  clear hW
  have c0 := hp_cell k0
  have HP := Lib.hid (c_places2 W1 (.slice p n cp) n E (Ents.below HEN.out HB1) hn HTR.out)
  have HB := Lib.hid HB1; clear HB1
  have HK0 := Lib.hid k0; clear k0
  go_upto_region 2 with (go_at_call 20; (with_reducible refine HP.out.mono ?_); rintro e W2 ⟨hb, v2, D, rfl, h1, h2, h3⟩; have HX := Lib.hid (And.intro hb (And.intro h1 (And.intro h2 h3))); clear hb h1 h2 h3 c0)
  obtain ⟨q, cq, e1, hcq, hg⟩ := HX.out.2.1
  obtain ⟨g, cur, rfl, hBg, hg1, hg2⟩ := hg hpos
  subst e1
  have kq := hp_below HX.out.1 HK0.out
  obtain ⟨b, o, hbo, hbs, _⟩ := Ents.at HEN.out hpos
  have hB2 : Below w.heap.size w W2 := below_call HB.out HX.out.1
  have hgw : w.heap.size ≤ g := by have := HB.out.size; omega
  have hgq : w.heap.size ≠ g := by have := hp_lt HK0.out; omega
  have hss : SS W2 (fun k => if k = g then 1 else 0) g n D W2 := ⟨_, Mv.refl, ⟨cur, hg1, hg2⟩, by simp⟩
  have hpr : PredOk W2 (fun k => if k = g then 1 else 0) n (.pointer (some ⟨w.heap.size, 0, none⟩)) (hots E) := by
    intro W' c' hm' x hx
    have z0 := hp_mv kq hm' (by simp; exact hgq)
    have hbg : b ≠ g := by omega
    have hh : W'.heap[b]? = w.heap[b]? := by
      rw [hm'.block b (by have := hB2.size; omega) (by simp; exact hbg)]; exact hB2.block b hbs
    obtain ⟨b', o', e', _, hx'⟩ := Ents.at HEN.out hx
    rw [hbo] at e'
    simp only [Option.some.injEq, Addr.mk.injEq, and_true] at e'
    obtain ⟨rfl, rfl⟩ := e'
    rw [hbo] at z0
    exact c_nothot W' w.heap.size n cp b o x (E x) z0 hx (hx'.of hh)
  have hD : ∀ k, k < n → D k < n := Pm.lt HX.out.2.2.1 (Nat.le_refl _) (fun k hk => hk)
  have HDEL := Lib.hid (c_delete W2 (fun k => if k = g then 1 else 0) g n cq _ (hots E) hn hcq hpr W2 D hss hD)
  have HG := Lib.hid (And.intro hB2 (And.intro hgw hcq))
  clear hpr hss kq hbs hB2 hgw hgq hg1 hg2 hBg hD hcq hbo
  go_upto_region 3 with (go_at_call 24; (with_reducible refine HDEL.out.mono ?_); rintro e W3 ⟨k, F, hkn, rfl, hS3, hls⟩; have HY := Lib.hid (And.intro hS3 hls); clear hS3 hls)
  have g1 : (k : Int) ≤ (cq : Int) := by have := HG.out.2.2; omega
  have g2 : k ≤ cq := by have := HG.out.2.2; omega
  by_cases hk1 : 0 < keep
  · have g3 : ¬ keep ≤ 0 := by omega
    have g4 : 0 ≤ keep := by omega
    have g5 : ¬ keep < 0 := by omega
    by_cases hk2 : keep < k
    · obtain ⟨m, hm⟩ : ∃ m : Nat, (m : Int) = (k : Int) - keep := ⟨((k : Int) - keep).toNat, by omega⟩
      have w1 : IntKind.i64.wrap ((k : Int) - keep) = (m : Int) := by rw [IntWalk.i64_in _ (by omega)]; omega
      have g6 : (m : Int) ≤ (cq : Int) := by omega
      have g7 : m ≤ cq := by omega
      have g8 : m ≤ k := by omega
      have g9 : (m : Int) ≤ (k : Int) := by omega
      have HMM := Lib.hid hm; clear hm
      go_wp2
      have hm := HMM.out
      all_goals go_ret
      all_goals obtain ⟨hB2, hgw, hcq⟩ := HG.out
      all_goals obtain ⟨⟨cc, hmm, ⟨cu, h1, h2⟩, _⟩, hls⟩ := HY.out
      all_goals first | exact ⟨below_one hB2 hmm hgw, _, rfl, D, HX.out.2.2.1, HX.out.2.2.2, F, k, hkn, hls, m, by omega, ⟨_, _, rfl, fun i hi => ⟨g, 0, rfl, by rw [hp_cell h1, Nat.zero_add]; exact h2 i (by omega)⟩⟩⟩
    · obtain ⟨z, hz⟩ : ∃ z, z = (k : Int) - keep := ⟨_, rfl⟩
      have w1 : IntKind.i64.wrap ((k : Int) - keep) = z := by rw [IntWalk.i64_in _ (by omega)]; omega
      have g6 : z ≤ 0 := by omega
      have g7 : ¬ 0 < z := by omega
      have HZ := Lib.hid hz
      have HMX := Lib.hid (show max ((k : Int) - max keep 0) 0 = 0 by rw [Int.max_eq_left (show (0 : Int) ≤ keep by omega), Int.max_eq_right (by omega)])
      clear hz
      go_wp2
      all_goals have hz := HZ.out
      all_goals go_ret
      all_goals obtain ⟨hB2, hgw, hcq⟩ := HG.out
      all_goals obtain ⟨⟨cc, hmm, ⟨cu, h1, h2⟩, _⟩, hls⟩ := HY.out
      all_goals first | exact ⟨below_one hB2 hmm hgw, _, rfl, D, HX.out.2.2.1, HX.out.2.2.2, F, k, hkn, hls, 0, by rw [HMX.out]; rfl, ⟨_, _, rfl, fun i hi => ⟨g, 0, rfl, by rw [hp_cell h1, Nat.zero_add]; exact h2 i (by omega)⟩⟩⟩ | exact ⟨below_one hB2 hmm hgw, _, rfl, D, HX.out.2.2.1, HX.out.2.2.2, F, k, hkn, hls, z.toNat, by rw [HMX.out]; omega, ⟨_, _, rfl, fun i hi => ⟨g, 0, rfl, by rw [hp_cell h1, Nat.zero_add]; exact h2 i (by omega)⟩⟩⟩ | exact ⟨below_one hB2 hmm hgw, _, rfl, D, HX.out.2.2.1, HX.out.2.2.2, F, k, hkn, hls, ((k : Int) - keep).toNat, by rw [HMX.out]; omega, ⟨_, _, rfl, fun i hi => ⟨g, 0, rfl, by rw [hp_cell h1, Nat.zero_add]; exact h2 i (by omega)⟩⟩⟩
  · have g3 : keep ≤ 0 := by omega
    have HMX := Lib.hid (show max ((k : Int) - max keep 0) 0 = (k : Int) by rw [Int.max_eq_right g3, Int.sub_zero, Int.max_eq_left (by omega)])
    go_wp2
    all_goals go_ret
    all_goals obtain ⟨hB2, hgw, hcq⟩ := HG.out
    all_goals obtain ⟨⟨cc, hmm, ⟨cu, h1, h2⟩, _⟩, hls⟩ := HY.out
    all_goals first | exact ⟨below_one hB2 hmm hgw, _, rfl, D, HX.out.2.2.1, HX.out.2.2.2, F, k, hkn, hls, k, HMX.out.symm, ⟨_, _, rfl, fun i hi => ⟨g, 0, rfl, by rw [hp_cell h1, Nat.zero_add]; exact h2 i (by omega)⟩⟩⟩ | exact ⟨below_one hB2 hmm hgw, _, rfl, D, HX.out.2.2.1, HX.out.2.2.2, F, k, hkn, hls, ((k : Int) - keep).toNat, by rw [HMX.out]; omega, ⟨_, _, rfl, fun i hi => ⟨g, 0, rfl, by rw [hp_cell h1, Nat.zero_add]; exact h2 i (by omega)⟩⟩⟩ | exact ⟨below_one hB2 hmm hgw, _, rfl, D, HX.out.2.2.1, HX.out.2.2.2, F, k, hkn, hls, ((k : Int) - 0).toNat, by rw [HMX.out]; omega, ⟨_, _, rfl, fun i hi => ⟨g, 0, rfl, by rw [hp_cell h1, Nat.zero_add]; exact h2 i (by omega)⟩⟩⟩
end Go.Proofs.Ytficncmomgddpaa
