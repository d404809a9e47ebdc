/- same: of two equal lists. -/
import Derived.Test.YtnofclmnjhkhiaaRd
import Derived.Test.YtnofclmnjhkhiaaCj
import Derived.WalkKit
import Derived.WalkLawsBesides
import Derived.WalkSpells
import Derived.Below
import Derived.Deep.RegionHeld3
import Derived.Deep.QuietTactic
import Derived.BigQuiet
import Derived.Deep.DeepCutAuto
import Derived.Deep.DeepMust
import Derived.KernelRfl
import Derived.Lib.Hide
import Derived.Outline
import Derived.RegionTactic
import Derived.StillTailTactics
namespace Go.Proofs.Ytnofclmnjhkhiaa
open Go.RowKit Go.Cl Go.Cv
set_option maxRecDepth 100000
set_option linter.unusedVariables false
set_option linter.unusedSimpArgs false

theorem ownsRow_base0 {w : World} {base : Nat} {t : TypeId} {s n : Nat} {v : Value} {xs : List Value} (h : w.ownsRow base t s v n xs) : w.ownsRow 0 t s v n xs := by
  refine ⟨h.1, ?_⟩
  rcases h.2 with h2 | ⟨g, cap, cur, h1, _, h3⟩
  · exact .inl h2
  · exact .inr ⟨g, cap, cur, h1, Nat.zero_le _, h3⟩
theorem own_rdl {w : World} {base : Nat} {t : TypeId} {v : Value} {L : List Sp} (h : w.ownsRow base t 2 v L.length (L.flatMap encS)) : RdL w v L :=
  row_rdq (col := fun _ => 1) (i := 1) (t := t) ⟨ownsRow_base0 h, fun _ _ => rfl⟩
set_option maxHeartbeats 4000000 in
theorem c_same (w : World) (u v : Value) (L : List Sp) (hn : L.length ≤ 8796093022206) (hu : RdL w u L) (hv : RdL w v L) :
    Calls Try.prog 23 #[u, v] w fun e w' => e = .returned (.bool true) ∧ Below w.heap.size w w' := by
  have HU := Lib.hid hu; have HV := Lib.hid hv
  obtain ⟨p, cp, rfl, _⟩ := hu
  obtain ⟨q, cq, rfl, _⟩ := hv
  obtain ⟨n, hnn⟩ : ∃ n, L.length = n := ⟨_, rfl⟩
  rw [hnn] at HU HV hn ⊢
  have HN := Lib.hid (And.intro hn hnn)
  clear hn hnn
  go_enter Try.func23, Try.ntmps23
  go_wp2
  go_loopw [5] (fun z wr => ∃ i : Nat, z = .int .i64 i ∧ i ≤ n ∧ Below w.heap.size w wr) (fun z _ => n - (intOf z).toNat)
  case atStart => exact ⟨0, rfl, by omega, Below.refl _ _⟩
  case round =>
    obtain ⟨i, rfl, hi, hB⟩ := hrel
    by_cases hlt : i < n
    · have b1 : (i : Int) < (n : Int) := by omega
      have w1 : IntKind.i64.wrap ((i : Int) + 1) = (i : Int) + 1 := IntWalk.i64_in _ (by have := HN.out; omega)
      have HB := Lib.hid (below_drew hB)
      clear hB
      obtain ⟨a, ha⟩ := get_lt (L := L) (k := i) (by rw [HN.out.2]; exact hlt)
      obtain ⟨b, o, rfl, cx, cx2⟩ := RdL.at (HU.out.below HB.out) ha
      obtain ⟨b', o', rfl, cy, cy2⟩ := RdL.at (HV.out.below HB.out) ha
      have CX := Lib.hid (And.intro cx cx2); have CY := Lib.hid (And.intro cy cy2)
      obtain ⟨a1, a2⟩ := a
      clear cx cy cx2 cy2 ha
      go_wp2
      refine Ph.region_at (by kernel_rfl) ?_
      refine Ph.at_quiet 9 (by kernel_rfl) ?_
      simp only [List.take_succ_cons, List.take_zero, List.drop_succ_cons, List.drop_zero]
      repeat ((first | (apply Ph.wpPh_g; (focus (intro w1 hS0; have cx := cell_below hS0 CX.out.1; have cy := cell_below hS0 CY.out.1; have cx2 := cell_below hS0 CX.out.2; have cy2 := cell_below hS0 CY.out.2; go_simp; first | exact rfl | exact ⟨rfl, Below.refl _ _⟩)))); simp only [Act.put, List.setIfInBounds_toArray, List.set_cons_zero, List.set_cons_succ])
      refine Ph.wpPh_nil ?_; intro w4 hS
      refine Ph.at_end (by simp) ?_
      replace HB := Lib.hid (below_call HB.out hS)
      go_wp2
      go_roundw
      case rel => exact ⟨i + 1, by go_num, by omega, HB.out⟩
      case measure => simp [intOf]; omega
    · have b1 : ¬ ((i : Int) < (n : Int)) := by omega
      have HB := Lib.hid hB; clear hB
      go_wp2
      go_ret
      exact ⟨rfl, HB.out⟩
end Go.Proofs.Ytnofclmnjhkhiaa
