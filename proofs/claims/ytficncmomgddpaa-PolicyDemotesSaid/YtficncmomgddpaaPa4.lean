/- PolicyDemotes: the walk. -/
import Derived.Test.YtficncmomgddpaaPu3
import Derived.Test.YtficncmomgddpaaPd0
import Derived.Test.YtficncmomgddpaaPx
import Derived.WalkKit
import Derived.WalkLawsBesides
import Derived.WalkSpells
import Derived.Below
import Derived.Deep.RegionHeld3
import Derived.Deep.QuietTactic
import Derived.BigQuiet
import Derived.Deep.DeepCutAuto
import Derived.Deep.DeepMust
import Derived.KernelRfl
import Derived.Lib.Hide
import Derived.Outline
import Derived.RegionTactic
import Derived.StillTailTactics
namespace Go.Proofs.Ytficncmomgddpaa
open Go.RowKit Go.Cl
set_option maxRecDepth 100000
set_option linter.unusedVariables false
set_option linter.unusedSimpArgs false

open Go.Ps
attribute [local go_sem] max2_int min2_int max_two min_two
set_option maxHeartbeats 4000000 in
theorem c_demotes (w : World) (p : Option Addr) (n cp : Nat) (E : Nat → En) (hE : Ents w (.slice p n cp) n E) (hcp : n ≤ cp) (keep : Int) (hk0 : -9223372036854775808 ≤ keep) (hk : keep ≤ 9223372036854775807) :
    Calls Try.prog 4 #[.slice p n cp, .int .i64 keep] w fun e w' => e = .returned (.bool true) ∧ Below w.heap.size w w' := by
  obtain ⟨m, hm⟩ : ∃ m, min n 300 = m := ⟨_, rfl⟩
  have hmin : min (n : Int) 300 = (m : Int) := by omega
  have hm1 : m ≤ cp := by omega
  have hm2 : (m : Int) ≤ (cp : Int) := by omega
  have HM := Lib.hid (show m ≤ 300 by omega)
  have HE := Lib.hid (Ents.cut hE (show m ≤ n by omega))
  have HKK := Lib.hid (And.intro hk0 hk)
  clear hm hE hcp hk0 hk
  go_enter Try.func4, Try.ntmps4
  go_wp2_with (first | (go_at_call 8; (with_reducible refine (c_fixed _).mono ?_); rintro e w1 ⟨rfl, hb1⟩; have HB1 := Lib.hid hb1; clear hb1) | (go_at_call 16; (with_reducible refine (c_demote_all _ _ _ _ _ HKK.out.1 HKK.out.2 E (HE.out.below HB1.out) (by have := HM.out; omega)).mono ?_); rintro e w2 ⟨hb, v', F, k, M, rfl, h1, h2, h3, h4⟩; have HX := Lib.hid (And.intro (below_call HB1.out hb) (And.intro h1 (And.intro h2 (And.intro h3 h4)))); clear hb h1 h2 h3 h4) | (go_at_call 17; (with_reducible refine (c_rdemote _ _ _ _ E (HE.out.below HX.out.1) (by have := HM.out; omega) _ HKK.out.1 HKK.out.2 F k M HX.out.2.1 HX.out.2.2.2.1).mono ?_); rintro e w3 ⟨hb, v2, rfl, h1⟩; have HY := Lib.hid (And.intro (below_call HX.out.1 hb) (And.intro (HX.out.2.2.2.2.below hb) h1)); clear hb h1) | (go_at_call 13; (with_reducible refine (c_same _ _ _ M F F (by have := HX.out.2.2.2.1; have := HX.out.2.2.1; have := HM.out; omega) HY.out.2.1 HY.out.2.2 (fun _ _ => rfl)).mono ?_); rintro e w4 ⟨rfl, hb⟩; have HB4 := Lib.hid (below_call HY.out.1 hb); clear hb))
  go_ret
  exact ⟨rfl, HB4.out⟩
end Go.Proofs.Ytficncmomgddpaa
