/- Demote of none. -/
import Derived.Test.YtficncmomgddpaaPb
import Derived.WalkKit
import Derived.WalkLawsBesides
import Derived.WalkSpells
import Derived.Below
import Derived.Deep.RegionHeld3
import Derived.Deep.QuietTactic
import Derived.BigQuiet
import Derived.Deep.DeepCutAuto
import Derived.Deep.DeepMust
import Derived.KernelRfl
import Derived.Lib.Hide
import Derived.Outline
import Derived.RegionTactic
import Derived.StillTailTactics
namespace Go.Proofs.Ytficncmomgddpaa
open Go.RowKit Go.Cl
set_option maxRecDepth 100000
set_option linter.unusedVariables false
set_option linter.unusedSimpArgs false

open Go.Ps
attribute [local go_sem] max2_int min2_int max_two min_two
set_option maxHeartbeats 1000000 in
theorem places_nil (f : Value) (w : World) (p : Option Addr) (cp : Nat) : Calls Try.prog 20 #[.slice p 0 cp, f] w fun e w' => e = .returned (.slice none 0 0) ∧ Below w.heap.size w w' := by
  go_enter Try.func20, Try.ntmps20
  go_upto_region 1 with fail
  refine Ph.at_world ?_; intro W1 hW
  have k0 : hp W1 w.heap.size = some (.cells #[.slice p 0 cp] 22 (0, 0)) := by rw [hW]; simp [hpA]
  have HB : Below w.heap.size w W1 := by rw [hW]; exact below_alloc (below_alloc (Below.refl _ _) _) _
  clear hW
  have c0 := hp_cell k0
  go_wp2
  clear c0
  go_loopw [5, 9] (fun x y wr => x = .slice none 0 0 ∧ y = .int .i64 0 ∧ wr = W1) (fun _ _ _ => 0)
  case atStart => exact ⟨rfl, rfl, rfl⟩
  case round =>
    obtain ⟨rfl, rfl, rfl⟩ := hrel
    go_wp2_with (go_at_call 28; (with_reducible refine (sort_nil _ _).mono ?_); rintro e w5 ⟨rfl, rfl⟩)
    go_ret
    exact ⟨rfl, HB⟩
set_option maxHeartbeats 1000000 in
theorem demote_nil (w : World) (p : Option Addr) (cp : Nat) (keep : Int) (hk0 : -9223372036854775808 ≤ keep) (hk : keep ≤ 9223372036854775807) :
    Calls Try.prog 16 #[.slice p 0 cp, .int .i64 keep] w fun e w' => e = .returned (.slice none 0 0) ∧ Below w.heap.size w w' := by
  obtain ⟨K, hK⟩ : ∃ K, max keep 0 = K := ⟨_, rfl⟩
  have w1 : IntKind.i64.wrap (0 - K) = -K := by rw [IntWalk.i64_in _ (by omega)]; omega
  have w2 : IntKind.i64.wrap (-K) = -K := by rw [IntWalk.i64_in _ (by omega)]
  have w3 : max (-K) 0 = 0 := by omega
  clear hk0 hk
  go_enter Try.func16, Try.ntmps16
  go_upto_region 1 with fail
  refine Ph.at_world ?_; intro W1 hW
  have k0 : hp W1 w.heap.size = some (.cells #[.slice p 0 cp] 22 (0, 0)) := by rw [hW]; simp [hpA]
  have HB1 := Lib.hid (show Below w.heap.size w W1 by rw [hW]; exact below_alloc (Below.refl _ _) _)
  clear hW
  have c0 := hp_cell k0
  clear k0
  go_upto_region 2 with (go_at_call 20; (with_reducible refine (places_nil _ _ _ _).mono ?_); rintro e W2 ⟨rfl, hb⟩; have HB2 := Lib.hid (below_call HB1.out hb); clear hb c0)
  go_wp2_with (go_at_call 24; (with_reducible refine (delete_nil _ _).mono ?_); rintro e W3 ⟨rfl, rfl⟩)
  all_goals go_ret
  all_goals exact ⟨rfl, HB2.out⟩
/-- Demote, whatever the length. -/
theorem c_demote_all (w : World) (p : Option Addr) (n cp : Nat) (keep : Int) (hk0 : -9223372036854775808 ≤ keep) (hk : keep ≤ 9223372036854775807) (E : Nat → En) (hE : Ents w (.slice p n cp) n E) (hn : n ≤ 1000) :
    Calls Try.prog 16 #[.slice p n cp, .int .i64 keep] w fun e w' => Below w.heap.size w w' ∧ ∃ (v' : Value) (F : Nat → Nat) (k m : Nat), e = .returned v' ∧ Hots E n F k ∧ k ≤ n ∧ (m : Int) = max ((k : Int) - max keep 0) 0 ∧ RdI w' v' m F := by
  rcases Nat.eq_zero_or_pos n with h0 | hpos
  · subst h0
    refine (demote_nil w p cp keep hk0 hk).mono ?_
    rintro e w' ⟨rfl, hb⟩
    exact ⟨hb, _, fun k => k, 0, 0, rfl, ⟨fun i h => by omega, fun i h => by omega, fun i j h1 h2 => by omega, fun i j h1 h2 => by omega, fun x h => by omega, rfl⟩, Nat.le_refl _, by omega, ⟨_, _, rfl, fun i h => by omega⟩⟩
  · refine (c_demote w _ n keep hk0 hk E hE hn hpos (tr_dem E)).mono ?_
    rintro e w' ⟨hb, v', D, F, k, m, rfl, h1, h2, h3, h4, h5, h6⟩
    exact ⟨hb, v', F, k, m, rfl, hots_of h1 h2 h4, h3, h5, h6⟩
end Go.Proofs.Ytficncmomgddpaa
