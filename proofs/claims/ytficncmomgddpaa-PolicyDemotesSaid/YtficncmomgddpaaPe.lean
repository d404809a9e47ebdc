/- What the sorts ask. -/
import Derived.Test.YtficncmomgddpaaPc
import Derived.WalkKit
import Derived.WalkLawsBesides
import Derived.WalkSpells
import Derived.Below
import Derived.Deep.RegionHeld3
import Derived.Deep.QuietTactic
import Derived.BigQuiet
import Derived.Deep.DeepCutAuto
import Derived.Deep.DeepMust
import Derived.KernelRfl
import Derived.Lib.Hide
import Derived.Outline
import Derived.RegionTactic
import Derived.StillTailTactics
namespace Go.Proofs.Ytficncmomgddpaa
open Go.RowKit Go.Cl
set_option maxRecDepth 100000
set_option linter.unusedVariables false
set_option linter.unusedSimpArgs false

set_option maxHeartbeats 1000000 in
theorem c_before (e f : En) (w : World) : Calls Try.prog 9 #[.agg e.cs, .agg f.cs] w fun r w' => r = .returned (.bool (decide (e.cmp f < 0))) ∧ Below w.heap.size w w' := by
  have hE : ∀ w, Calls Try.prog 19 #[.agg e.cs, .agg f.cs] w fun r w' => r = .returned (.int .i64 (e.cmp f)) ∧ Below w.heap.size w w' := c_compare e f
  generalize e.cmp f = c at *
  obtain ⟨k, v0, v1, l, hi, hot, st, ins⟩ := e
  obtain ⟨k', v0', v1', l', hi', hot', st', ins'⟩ := f
  replace hE : ∀ w, Calls Try.prog 19 #[.agg #[.string k, .bool v0, .string v1, .int .i64 l, .int .i64 hi, .bool hot, .int .i64 st, .int .i64 ins], .agg #[.string k', .bool v0', .string v1', .int .i64 l', .int .i64 hi', .bool hot', .int .i64 st', .int .i64 ins']] w fun r w' => r = .returned (.int .i64 c) ∧ Below w.heap.size w w' := hE
  show Calls Try.prog 9 #[.agg #[.string k, .bool v0, .string v1, .int .i64 l, .int .i64 hi, .bool hot, .int .i64 st, .int .i64 ins], .agg #[.string k', .bool v0', .string v1', .int .i64 l', .int .i64 hi', .bool hot', .int .i64 st', .int .i64 ins']] w _
  have HE := Lib.hid hE; clear hE
  go_enter Try.func9, Try.ntmps9
  go_upto_region 1 with fail
  refine Ph.at_world ?_; intro W1 hW
  have k0 : hp W1 w.heap.size = some (.cells #[.string k, .bool v0, .string v1, .int .i64 l, .int .i64 hi, .bool hot, .int .i64 st, .int .i64 ins] 28 (0, 0)) := by rw [hW]; simp [hpA]
  have k1 : hp W1 (w.heap.size + 1) = some (.cells #[.string k', .bool v0', .string v1', .int .i64 l', .int .i64 hi', .bool hot', .int .i64 st', .int .i64 ins'] 28 (0, 0)) := by rw [hW]; simp [hpA]
  have HB : Below w.heap.size w W1 := by rw [hW]; exact below_alloc (below_alloc (Below.refl _ _) _) _
  clear hW
  have c0 := hp_cell k0; have c1 := hp_cell k1
  go_wp2_with (go_at_call 19; (with_reducible refine (HE.out _).mono ?_); rintro e w1 ⟨rfl, hb⟩; replace HB := below_call HB hb)
  go_ret
  exact ⟨rfl, HB⟩
def orL (P : Nat → Int) : Nat → Nat → Int
  | 0, _ => 0
  | n + 1, i => if P i = 0 then orL P n (i + 1) else P i
set_option maxHeartbeats 1000000 in
theorem c_or (P : Nat → Int) (n : Nat) (hn : n ≤ 2) (x cp : Nat) (w : World) (hx : ∀ i, i < n → w.cell? ⟨x, i, none⟩ = some (.int .i64 (P i))) :
    Calls Try.prog 22 #[.slice (some ⟨x, 0, none⟩) n cp] w fun e w' => e = .returned (.int .i64 (orL P n 0)) ∧ w = w' := by
  have HX := Lib.hid hx; clear hx
  go_enter Try.func22, Try.ntmps22
  go_wp2
  go_loop [8] (fun z => ∃ i : Nat, z = .int .i64 i ∧ i ≤ n ∧ orL P (n - i) i = orL P n 0) (fun z => n - (intOf z).toNat)
  case atStart => exact ⟨0, rfl, by omega, rfl⟩
  case round =>
    obtain ⟨i, rfl, hi, hr⟩ := hrel
    have HR := Lib.hid hr; clear hr
    by_cases hlt : i < n
    · have b1 : (i : Int) < (n : Int) := by omega
      have cx := HX.out i hlt
      have hs : orL P (n - i) i = if P i = 0 then orL P (n - (i + 1)) (i + 1) else P i := by
        rw [show n - i = (n - (i + 1)) + 1 by omega]; rfl
      have HST := Lib.hid hs; clear hs
      by_cases hc : P i = 0
      · have HC := Lib.hid hc
        have b3 : (P i != 0) = false := by simpa using hc
        have w1 : IntKind.i64.wrap ((i : Int) + 1) = (i : Int) + 1 := IntWalk.i64_in _ (by omega)
        clear hc
        go_wp2
        go_round
        case rel => exact ⟨i + 1, by go_num, by omega, by rw [← HR.out, HST.out, if_pos HC.out]⟩
        case measure => simp [intOf]; omega
      · have HC := Lib.hid hc
        have b3 : (P i != 0) = true := by simpa using hc
        clear hc
        go_wp2
        go_ret
        exact ⟨by rw [← HR.out, HST.out, if_neg HC.out]; rfl, rfl⟩
    · have hi4 : i = n := by omega
      have H4 := Lib.hid hi4; clear hi4
      have b1 : ¬ ((i : Int) < (n : Int)) := by omega
      go_wp2
      go_ret
      exact ⟨by rw [← HR.out, H4.out, Nat.sub_self]; rfl, rfl⟩
def En.dem (a b : En) : Int := if cmpI a.st b.st = 0 then cmpI a.ins b.ins else cmpI a.st b.st

theorem c_or2 (x y : Int) (g cp : Nat) (w : World) (h : hp w g = some (.cells #[.int .i64 x, .int .i64 y] 3 (0, 0))) : Calls Try.prog 22 #[.slice (some ⟨g, 0, none⟩) 2 cp] w fun e w' => e = .returned (.int .i64 (if x = 0 then y else x)) ∧ Below w.heap.size w w' := by
  refine (c_or (fun i => if i = 0 then x else y) 2 (Nat.le_refl _) g cp w (fun i hi => ?_)).mono ?_
  · rw [hp_cell h]; rcases (by omega : i = 0 ∨ i = 1) with rfl | rfl <;> rfl
  · rintro e w' ⟨rfl, rfl⟩
    refine ⟨?_, Below.refl _ _⟩
    show Ending.returned (.int .i64 (if x = 0 then (if y = 0 then 0 else y) else x)) = _
    congr 2
    split
    · split <;> omega
    · rfl
set_option maxHeartbeats 2000000 in
theorem c_dem (e f : En) (w : World) : Calls Try.prog 21 #[.agg e.cs, .agg f.cs] w fun r w' => r = .returned (.int .i64 (e.dem f)) ∧ Below w.heap.size w w' := by
  obtain ⟨k, v0, v1, l, hi, hot, st, ins⟩ := e
  obtain ⟨k', v0', v1', l', hi', hot', st', ins'⟩ := f
  show Calls Try.prog 21 #[.agg #[.string k, .bool v0, .string v1, .int .i64 l, .int .i64 hi, .bool hot, .int .i64 st, .int .i64 ins], .agg #[.string k', .bool v0', .string v1', .int .i64 l', .int .i64 hi', .bool hot', .int .i64 st', .int .i64 ins']] w fun r w' => r = .returned (.int .i64 (if cmpI st st' = 0 then cmpI ins ins' else cmpI st st')) ∧ Below w.heap.size w w'
  obtain ⟨z, hz⟩ : ∃ z, z = if cmpI st st' = 0 then cmpI ins ins' else cmpI st st' := ⟨_, rfl⟩
  have ho : ∀ (g cp : Nat) (w : World), hp w g = some (.cells #[.int .i64 (cmpI st st'), .int .i64 (cmpI ins ins')] 3 (0, 0)) → Calls Try.prog 22 #[.slice (some ⟨g, 0, none⟩) 2 cp] w fun e w' => e = .returned (.int .i64 z) ∧ Below w.heap.size w w' := by
    rw [hz]; exact fun g cp w h => c_or2 _ _ g cp w h
  rw [← hz]
  have HO := Lib.hid ho
  clear hz ho
  go_enter Try.func21, Try.ntmps21
  go_upto_region 1 with fail
  refine Ph.at_world ?_; intro W1 hW
  have k0 : hp W1 w.heap.size = some (.cells #[.string k, .bool v0, .string v1, .int .i64 l, .int .i64 hi, .bool hot, .int .i64 st, .int .i64 ins] 28 (0, 0)) := by rw [hW]; simp [hpA]
  have k1 : hp W1 (w.heap.size + 1) = some (.cells #[.string k', .bool v0', .string v1', .int .i64 l', .int .i64 hi', .bool hot', .int .i64 st', .int .i64 ins'] 28 (0, 0)) := by rw [hW]; simp [hpA]
  have HB : Below w.heap.size w W1 := by rw [hW]; exact below_alloc (below_alloc (Below.refl _ _) _) _
  clear hW
  refine Ph.region_at (by kernel_rfl) ?_
  refine Ph.at_quiet 10 (by kernel_rfl) ?_
  simp only [List.take_succ_cons, List.take_zero, List.drop_succ_cons, List.drop_zero]
  repeat ((first | (apply Ph.wpPh_g; (focus (intro w1 hS0; have c0 := hp_cell (hp_below hS0 (show hp W1.drew _ = _ from k0)); have c1 := hp_cell (hp_below hS0 (show hp W1.drew _ = _ from k1)); go_simp; first | exact rfl | exact ⟨rfl, Below.refl _ _⟩ | ((with_reducible refine (c_cmp _ _ _).mono ?_); rintro e w2 ⟨rfl, rfl⟩; exact ⟨rfl, Below.refl _ _⟩))))); simp only [Act.put, List.setIfInBounds_toArray, List.set_cons_zero, List.set_cons_succ])
  refine Ph.wpPh_nil ?_; intro w9 hS9
  refine Ph.at_op rfl (by kernel_rfl) ?_
  go_wp2
  refine Ph.at_world ?_; intro W2 hW2
  have k2 : hp W2 w9.heap.size = some (.cells #[.int .i64 (cmpI st st'), .int .i64 (cmpI ins ins')] 3 (0, 0)) := by rw [hW2]; simp [hpA]
  have HZ : Below w9.heap.size w9 W2 := by rw [hW2]; exact below_alloc (Below.refl _ _) _
  replace HB := below_call (below_call (below_drew HB) hS9) HZ
  clear hW2 HZ
  refine Ph.at_op rfl (by kernel_rfl) ?_
  go_wp2_with (go_at_call 22; (with_reducible refine (HO.out _ _ _ k2).mono ?_); rintro e w10 ⟨rfl, hb⟩; replace HB := below_call HB hb)
  refine Ph.at_op rfl (by kernel_rfl) ?_
  go_wp2
  refine Ph.at_end (by simp) ?_
  go_wp2
  go_ret
  exact ⟨rfl, HB⟩
end Go.Proofs.Ytficncmomgddpaa
