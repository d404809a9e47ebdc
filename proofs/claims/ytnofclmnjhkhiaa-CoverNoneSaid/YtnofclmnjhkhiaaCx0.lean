/- from and Len of a cover's pointer, nil too. -/
import Derived.Test.YtnofclmnjhkhiaaCq1
import Derived.Test.YtnofclmnjhkhiaaCw
import Derived.RangeFuncNested
import Derived.RangeFuncBound
import Derived.RangeFuncCalls
import Derived.RangeFuncLeaves
import Derived.Shelf.Abstract
import Derived.Shelf.RegionOpen
import Derived.OwnWalkIn
import Derived.TacticsInMore
import Derived.LoopNIn
import Derived.LoopIn
import Derived.Sort.CutIn
import Derived.Maps.AppendAt
import Derived.WalkKit
import Derived.WalkLawsBesides
import Derived.WalkSpells
import Derived.Below
import Derived.Deep.RegionHeld3
import Derived.Deep.QuietTactic
import Derived.BigQuiet
import Derived.Deep.DeepCutAuto
import Derived.Deep.DeepMust
import Derived.KernelRfl
import Derived.Lib.Hide
import Derived.Outline
import Derived.RegionTactic
import Derived.StillTailTactics
namespace Go.Proofs.Ytnofclmnjhkhiaa
open Go.RowKit Go.Cl Go.Cv
set_option maxRecDepth 100000
set_option linter.unusedVariables false
set_option linter.unusedSimpArgs false
open Go.Shelf
attribute [local go_sem] Oper.semAt_some

attribute [local go_sem] max2_int min2_int max_two min_two
theorem c_fromN (w : World) (pv : Option Addr) (L : List Sp) (hv : CvN w pv L) (hw : Wf L) (hn : L.length ≤ 8796093022206) (x : Int) :
    Calls Try.prog 33 #[.pointer pv, .int .i64 x] w fun e w' => e = .returned (.int .i64 (frm L x)) ∧ Below w.heap.size w w' := by
  rcases hv with ⟨rfl, rfl⟩ | ⟨b, rfl, h⟩
  · have HS := Lib.hid (c_spansN w none [] (.inl ⟨rfl, rfl⟩))
    have HB := Lib.hid (fun w v (hv : RdL w v []) => c_search w v [] hv Wf.nil (by decide) x)
    clear hw hn
    go_enter Try.func33, Try.ntmps33
    go_wp2_with (first | (go_at_call 37; refine HS.out.mono ?_; rintro e w1 ⟨v, rfl, hr, rfl⟩; have HR := Lib.hid hr; clear hr) | (go_at_call 52; refine (HB.out _ v HR.out).mono ?_; rintro e w2 ⟨rfl, hb⟩; have HB2 := Lib.hid hb; clear hb))
    go_ret
    exact ⟨rfl, HB2.out⟩
  · exact c_from w b L h hw hn x
theorem c_lenN (w : World) (pv : Option Addr) (L : List Sp) (hv : CvN w pv L) : Calls Try.prog 30 #[.pointer pv] w fun e w' => e = .returned (.int .i64 (L.length : Int)) ∧ w = w' := by
  rcases hv with ⟨rfl, rfl⟩ | ⟨b, rfl, h⟩
  · have HS := Lib.hid (c_spansN w none [] (.inl ⟨rfl, rfl⟩))
    go_enter Try.func30, Try.ntmps30
    go_wp2_with (go_at_call 37; refine HS.out.mono ?_; rintro e w1 ⟨v, rfl, hr, rfl⟩; obtain ⟨p, cp, rfl, hx⟩ := hr; clear hx)
    go_ret
    exact ⟨rfl, rfl⟩
  · exact c_len w b L h
end Go.Proofs.Ytnofclmnjhkhiaa
