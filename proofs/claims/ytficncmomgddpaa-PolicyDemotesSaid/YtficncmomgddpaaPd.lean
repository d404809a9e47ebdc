/- The hot ones are kept. -/
import Derived.Test.YtficncmomgddpaaPv
import Derived.WalkKit
import Derived.WalkLawsBesides
import Derived.WalkSpells
import Derived.Below
import Derived.Deep.RegionHeld3
import Derived.Deep.QuietTactic
import Derived.BigQuiet
import Derived.Deep.DeepCutAuto
import Derived.Deep.DeepMust
import Derived.KernelRfl
import Derived.Lib.Hide
import Derived.Outline
import Derived.RegionTactic
import Derived.StillTailTactics
namespace Go.Proofs.Ytficncmomgddpaa
open Go.RowKit Go.Cl
set_option maxRecDepth 100000
set_option linter.unusedVariables false
set_option linter.unusedSimpArgs false

open Go.Ps
set_option maxHeartbeats 1000000 in
theorem c_nothot (W : World) (gq n cp b o x : Nat) (e : En) (kq : hp W gq = some (.cells #[.slice (some ⟨b, o, none⟩) n cp] 22 (0, 0))) (hx : x < n) (he : EnAt W b (o + x * 8) e) :
    Calls Try.prog 25 #[.int .i64 (x : Int), .pointer (some ⟨gq, 0, none⟩)] W fun r w' => r = .returned (.bool (!e.hot)) ∧ W = w' := by
  have b1 : (x : Int) < (n : Int) := by omega
  obtain ⟨x0, x1, x2, x3, x4, x5, x6, x7⟩ := he.cells
  have c0 := hp_cell kq
  clear he x0 x1 x2 x3 x4 x6 x7
  go_enter Try.func25, Try.ntmps25
  go_wp2
  go_ret
  exact ⟨rfl, rfl⟩
def PredOk (W0 : World) (c0 : Nat → Nat) (n : Nat) (vq : Value) (h : Nat → Bool) : Prop :=
  ∀ W c, Mv [1] c0 W0 c W → ∀ x : Nat, x < n → Calls Try.prog 25 #[.int .i64 (x : Int), vq] W fun e w' => e = .returned (.bool (!h x)) ∧ W = w'
theorem PredOk.at {W0 : World} {c0 : Nat → Nat} {g n m : Nat} {vq : Value} {h : Nat → Bool} {D : Nat → Nat} {W : World} (hp : PredOk W0 c0 n vq h) (hS : SS W0 c0 g m D W) (x : Nat) (hx : x < n) :
    Calls Try.prog 25 #[.int .i64 (x : Int), vq] W fun e w' => e = .returned (.bool (!h x)) ∧ W = w' := by
  obtain ⟨c, hm, _⟩ := hS
  exact hp W c hm x hx
def ls (F : Nat → Nat) (k : Nat) : List Nat := (List.range k).map F
theorem ls_succ (F : Nat → Nat) (k : Nat) : ls F (k + 1) = ls F k ++ [F k] := by unfold ls; rw [List.range_succ, List.map_append]; rfl
theorem ls_same {F G : Nat → Nat} {k : Nat} (h : ∀ i, i < k → F i = G i) : ls F k = ls G k := by
  unfold ls; refine List.map_congr_left fun i hi => h i (List.mem_range.1 hi)
theorem ls_all {h : Nat → Bool} {D : Nat → Nat} {k : Nat} (hh : ∀ j, j < k → h (D j) = true) : (ls D k).filter h = ls D k := by
  refine List.filter_eq_self.2 fun x hx => ?_
  unfold ls at hx
  obtain ⟨j, hj, rfl⟩ := List.mem_map.1 hx
  exact hh j (List.mem_range.1 hj)
section
variable (W0 : World) (c0 : Nat → Nat) (g n cp : Nat) (vq : Value) (h : Nat → Bool) (hn : n ≤ 1000)
include hn
set_option maxHeartbeats 1000000 in
theorem c_index (hP : PredOk W0 c0 n vq h) (w : World) (D : Nat → Nat) (hS : SS W0 c0 g n D w) (hD : ∀ k, k < n → D k < n) :
    Calls Try.prog 31 #[.slice (some ⟨g, 0, none⟩) n cp, .func (.func 25) #[] #[vq]] w fun e w' => w = w' ∧ ∃ k, k ≤ n ∧ (∀ j, j < k → h (D j) = true) ∧ ((k = n ∧ e = .returned (.int .i64 (-1))) ∨ (k < n ∧ h (D k) = false ∧ e = .returned (.int .i64 (k : Int)))) := by
  have HP := Lib.hid hP; have HS := Lib.hid hS; have HD := Lib.hid hD
  clear hP hS hD
  go_enter Try.func31, Try.ntmps31
  go_wp2
  go_loop [8] (fun z => ∃ i : Nat, z = .int .i64 i ∧ i ≤ n ∧ ∀ j, j < i → h (D j) = true) (fun z => n - (intOf z).toNat)
  case atStart => exact ⟨0, rfl, Nat.zero_le _, fun j hj => by omega⟩
  case round =>
    obtain ⟨i, rfl, hi, hall⟩ := hrel
    have HA := Lib.hid hall; clear hall
    by_cases hlt : i < n
    · have b1 : (i : Int) < (n : Int) := by omega
      have w1 : IntKind.i64.wrap ((i : Int) + 1) = (i : Int) + 1 := IntWalk.i64_in _ (by omega)
      have cx := HS.out.cell hlt
      have hcall := HP.out.at HS.out (D i) (HD.out i hlt)
      generalize hx : D i = x at *
      have HX := Lib.hid hx; clear hx
      cases hh : h x
      · rw [hh] at hcall
        have HC := Lib.hid hcall; have HH := Lib.hid hh; clear hcall hh
        go_wp2_with (go_at_call 25; (with_reducible refine HC.out.mono ?_); rintro e w1 ⟨rfl, rfl⟩)
        go_ret
        exact ⟨rfl, i, hi, HA.out, .inr ⟨hlt, by rw [HX.out]; exact HH.out, rfl⟩⟩
      · rw [hh] at hcall
        have HC := Lib.hid hcall; have HH := Lib.hid hh; clear hcall hh
        go_wp2_with (go_at_call 25; (with_reducible refine HC.out.mono ?_); rintro e w1 ⟨rfl, rfl⟩)
        go_round
        case rel => exact ⟨i + 1, by go_num, by omega, fun j hj => by
          by_cases e : j = i
          · subst e; rw [HX.out]; exact HH.out
          · exact HA.out j (by omega)⟩
        case measure => simp [intOf]; omega
    · have b1 : ¬ ((i : Int) < (n : Int)) := by omega
      go_wp2
      go_ret
      exact ⟨rfl, i, hi, HA.out, .inl ⟨by omega, rfl⟩⟩
def DelInv (D : Nat → Nat) (x y : Value) (wr : World) : Prop :=
  ∃ (i j : Nat) (F : Nat → Nat), x = .int .i64 i ∧ y = .int .i64 j ∧ i < j ∧ j ≤ n ∧ SS W0 c0 g n F wr ∧ ls F i = (ls D j).filter h ∧ ∀ k, j ≤ k → k < n → F k = D k
end
end Go.Proofs.Ytficncmomgddpaa
