/- Order, Same. -/
import Derived.Test.YtficncmomgddpaaPg
import Derived.WalkKit
import Derived.WalkLawsBesides
import Derived.WalkSpells
import Derived.Below
import Derived.Deep.RegionHeld3
import Derived.Deep.QuietTactic
import Derived.BigQuiet
import Derived.Deep.DeepCutAuto
import Derived.Deep.DeepMust
import Derived.KernelRfl
import Derived.Lib.Hide
import Derived.Outline
import Derived.RegionTactic
import Derived.StillTailTactics
namespace Go.Proofs.Ytficncmomgddpaa
open Go.RowKit Go.Cl
set_option maxRecDepth 100000
set_option linter.unusedVariables false
set_option linter.unusedSimpArgs false

open Go.Ps
set_option maxHeartbeats 1000000 in
theorem c_order (w : World) (v : Value) (n : Nat) (E : Nat → En) (hE : Ents w v n E) (hn : n ≤ 1000) (tr : ∀ x y z, RR (fun x y => (E x).cmp (E y)) x y → RR (fun x y => (E x).cmp (E y)) y z → RR (fun x y => (E x).cmp (E y)) x z) :
    Calls Try.prog 14 #[v] w fun e w' => Below w.heap.size w w' ∧ ∃ v' D, e = .returned v' ∧ Ints w' w.heap.size v' n D ∧ Pm 0 n (fun k => k) D ∧ Sd (RR (fun x y => (E x).cmp (E y))) 0 n D := by
  have H := Lib.hid (c_places w v n E hE hn tr)
  clear hE tr
  go_enter Try.func14, Try.ntmps14
  go_wp2_with (go_at_call 20; (with_reducible refine H.out.mono ?_); rintro e w1 ⟨hb, v', D, rfl, h1, h2, h3⟩; have HX := Lib.hid (And.intro hb (And.intro h1 (And.intro h2 h3))); clear hb h1 h2 h3)
  go_ret
  exact ⟨HX.out.1, _, D, rfl, HX.out.2⟩
/-- A slice of numbers, to be read. -/
def RdI (w : World) (v : Value) (n : Nat) (D : Nat → Nat) : Prop := ∃ p cp, v = .slice p n cp ∧ ∀ i, i < n → ∃ b o, p = some ⟨b, o, none⟩ ∧ w.cell? ⟨b, o + i, none⟩ = some (.int .i64 (D i : Int))
theorem RdI.below {w w' : World} {v : Value} {n : Nat} {D : Nat → Nat} (h : RdI w v n D) (hb : Below w.heap.size w w') : RdI w' v n D := by
  obtain ⟨p, cp, hv, h⟩ := h
  exact ⟨p, cp, hv, fun i hi => by obtain ⟨b, o, hp, hc⟩ := h i hi; exact ⟨b, o, hp, cell_below hb hc⟩⟩
theorem Ints.rd {w : World} {B : Nat} {v : Value} {n : Nat} {D : Nat → Nat} (h : Ints w B v n D) : RdI w v n D := by
  obtain ⟨p, cp, hv, _, h⟩ := h
  refine ⟨p, cp, hv, fun i hi => ?_⟩
  obtain ⟨g, cur, hp, _, hg, hc⟩ := h (by omega)
  exact ⟨g, 0, hp, by rw [hp_cell hg, Nat.zero_add]; exact hc i hi⟩
set_option maxHeartbeats 1000000 in
theorem c_same (w : World) (u v : Value) (n : Nat) (A B : Nat → Nat) (hn : n ≤ 1000) (hu : RdI w u n A) (hv : RdI w v n B) (heq : ∀ i, i < n → A i = B i) :
    Calls Try.prog 13 #[u, v] w fun e w' => e = .returned (.bool true) ∧ Below w.heap.size w w' := by
  have HU := Lib.hid hu; have HV := Lib.hid hv; have HE := Lib.hid heq
  obtain ⟨p, cp, rfl, _⟩ := hu
  obtain ⟨q, cq, rfl, _⟩ := hv
  clear heq
  go_enter Try.func13, Try.ntmps13
  go_wp2
  go_loopw [5] (fun z wr => ∃ i : Nat, z = .int .i64 i ∧ i ≤ n ∧ Below w.heap.size w wr) (fun z _ => n - (intOf z).toNat)
  case atStart => exact ⟨0, rfl, by omega, Below.refl _ _⟩
  case round =>
    obtain ⟨i, rfl, hi, hB⟩ := hrel
    by_cases hlt : i < n
    · have b1 : (i : Int) < (n : Int) := by omega
      have w1 : IntKind.i64.wrap ((i : Int) + 1) = (i : Int) + 1 := IntWalk.i64_in _ (by omega)
      have HB := Lib.hid (below_drew hB)
      clear hB
      obtain ⟨p', cp', e1, hx⟩ := HU.out.below HB.out
      obtain ⟨q', cq', e2, hy⟩ := HV.out.below HB.out
      simp only [Value.slice.injEq, true_and] at e1 e2
      obtain ⟨rfl, rfl⟩ := e1
      obtain ⟨rfl, rfl⟩ := e2
      obtain ⟨b, o, rfl, cx⟩ := hx i hlt
      obtain ⟨b', o', rfl, cy⟩ := hy i hlt
      rw [HE.out i hlt] at cx
      have CX := Lib.hid cx; have CY := Lib.hid cy
      clear hx hy cx cy
      go_wp2
      refine Ph.region_at (by kernel_rfl) ?_
      refine Ph.at_quiet 9 (by kernel_rfl) ?_
      simp only [List.take_succ_cons, List.take_zero, List.drop_succ_cons, List.drop_zero]
      repeat ((first | (apply Ph.wpPh_g; (focus (intro w1 hS0; have cx := cell_below hS0 CX.out; have cy := cell_below hS0 CY.out; go_simp; first | exact rfl | exact ⟨rfl, Below.refl _ _⟩)))); simp only [Act.put, List.setIfInBounds_toArray, List.set_cons_zero, List.set_cons_succ])
      refine Ph.wpPh_nil ?_; intro w4 hS
      refine Ph.at_end (by simp) ?_
      replace HB := Lib.hid (below_call HB.out hS)
      go_wp2
      go_roundw
      case rel => exact ⟨i + 1, by go_num, by omega, HB.out⟩
      case measure => simp [intOf]; omega
    · have b1 : ¬ ((i : Int) < (n : Int)) := by omega
      have HB := Lib.hid hB; clear hB
      go_wp2
      go_ret
      exact ⟨rfl, HB.out⟩
end Go.Proofs.Ytficncmomgddpaa
