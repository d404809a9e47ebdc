/- Add. -/
import Derived.Test.YtnofclmnjhkhiaaCa2A
import Derived.Test.YtnofclmnjhkhiaaCa2B
import Derived.Test.YtnofclmnjhkhiaaCa2C
import Derived.WalkKit
import Derived.WalkLawsBesides
import Derived.WalkSpells
import Derived.Below
import Derived.Deep.RegionHeld3
import Derived.Deep.QuietTactic
import Derived.BigQuiet
import Derived.Deep.DeepCutAuto
import Derived.Deep.DeepMust
import Derived.KernelRfl
import Derived.Lib.Hide
import Derived.Outline
import Derived.RegionTactic
import Derived.StillTailTactics
namespace Go.Proofs.Ytnofclmnjhkhiaa
open Go.RowKit Go.Cl Go.Cv
set_option maxRecDepth 100000
set_option linter.unusedVariables false
set_option linter.unusedSimpArgs false

set_option maxHeartbeats 2000000 in
theorem c_add (col : Nat → Nat) (i : Nat) (w : World) (b : Nat) (L : List Sp) (h : CvO col i w b L) (hw : Wf L) (hn : L.length ≤ 8796093022206) (lo hi : Int) :
    Calls Try.prog 14 #[.pointer (some ⟨b, 0, none⟩), .agg #[.int .i64 lo, .int .i64 hi]] w fun e w' => e = .returned (.tuple #[]) ∧ CvO (paint col w i) i w' b (addL L (lo, hi)) ∧ Ch col i w w' := by
  by_cases hlh : lo < hi
  · have e : addL L (lo, hi) = ins L (lo, hi) := by unfold addL; rw [if_neg (by show ¬ hi ≤ lo; omega)]
    rw [e]
    rcases frl_frm hw lo with ⟨h1, h2⟩ | ⟨h1, h2, a, h3, h4⟩
    · rcases Nat.eq_zero_or_pos (frm L lo) with hz | hp
      · exact add_A col i w b L h hw hn lo hi hlh (frm L lo) rfl h1 hz
      · obtain ⟨a, ha⟩ := get_lt (L := L) (k := frm L lo - 1) (by have := frm_le L lo; omega)
        exact add_B col i w b L h hw hn lo hi hlh (frm L lo) (frm L lo - 1) a (by omega) rfl h1 ha (h2 a hp ha)
    · exact add_C col i w b L h hw hn lo hi hlh (frm L lo - 1) (frm L lo) a (by omega) rfl h2 h3 h4
  · have e : addL L (lo, hi) = L := by unfold addL; rw [if_pos (by show hi ≤ lo; omega)]
    rw [e]
    have he : ∀ w, Calls Try.prog 31 #[.agg #[.int .i64 lo, .int .i64 hi]] w fun e w' => e = .returned (.bool true) ∧ Below w.heap.size w w' := fun w => by have := c_empty lo hi w; rw [decide_eq_true (show hi ≤ lo by omega)] at this; exact this
    have HE := Lib.hid he; have HC := Lib.hid h
    clear he h hw hn hlh
    go_enter Try.func14, Try.ntmps14
    go_upto_region 1 with fail
    refine Ph.at_world ?_; intro W1 hW
    have k3 : hp W1 w.heap.size = some (.cells #[.int .i64 lo, .int .i64 hi] 30 (0, 0)) := by rw [hW]; simp [hpA]
    have HB1 := Lib.hid (show Below w.heap.size w W1 by rw [hW]; exact below_alloc (Below.refl _ _) _)
    clear hW
    have c3 := hp_cell k3
    clear k3
    go_wp2_with (go_at_call 31; (with_reducible refine (HE.out _).mono ?_); rintro e w1 ⟨rfl, hb1⟩; have HB2 := Lib.hid (below_call HB1.out hb1); clear hb1)
    refine bodyPost_ret (v := .tuple #[]) (results_none rfl _ _ _) rfl ?_
    have hk := HC.out.kept (col' := paint col w i) (S := []) ((Mv.new (S := []) HB2.out i)) (by simp)
    exact ⟨rfl, hk, Ch.of_below HB2.out⟩
theorem addL_law {L : List Sp} (hw : Wf L) (s : Sp) : Wf (addL L s) ∧ (∀ x, inL (addL L s) x ↔ inL L x ∨ hasS s x) ∧ (addL L s).length ≤ L.length + 1 := by
  unfold addL
  by_cases h : s.2 ≤ s.1
  · rw [if_pos h]
    exact ⟨hw, fun x => ⟨.inl, fun h2 => h2.elim id fun h3 => by unfold hasS at h3; omega⟩, by omega⟩
  · rw [if_neg h]
    obtain ⟨h1, h2, _⟩ := ins_law L s hw (by omega)
    exact ⟨h1, h2, ins_len L s⟩
end Go.Proofs.Ytnofclmnjhkhiaa
