/- Recent: what is asked. -/
import Derived.Test.YtgacbfbjikjanaaRec3
import Derived.WalkKit
import Derived.WalkLawsBesides
import Derived.WalkSpells
import Derived.Below
import Derived.Deep.RegionHeld3
import Derived.Deep.QuietTactic
import Derived.BigQuiet
import Derived.Deep.DeepCutAuto
import Derived.Deep.DeepMust
import Derived.KernelRfl
import Derived.Lib.Hide
import Derived.Outline
import Derived.RegionTactic
import Derived.StillTailTactics
namespace Go.Proofs.Ytgacbfbjikjanaa
open Go.RowKit Go.Cl
set_option maxRecDepth 100000
set_option linter.unusedVariables false
set_option linter.unusedSimpArgs false


theorem rc_since (col : Nat → Nat) (i : Nat) (w : World) (b : Nat) (L : List Mk) (R : Nat) (since last : Int) (h : Rec col i w b L R since last) : Calls Try.prog 45 #[.pointer (some ⟨b, 0, none⟩)] w fun e w' => e = .returned (.int .i64 since) ∧ w = w' := by
  obtain ⟨⟨v, X, F, hb, hr, hX, hF, hF0, hLX⟩, hlen, hcap⟩ := h
  have cb := hp_cell hb.hp
  clear hF0
  go_enter Try.func45, Try.ntmps45
  go_wp2
  go_ret
  exact ⟨rfl, rfl⟩
theorem rc_last (col : Nat → Nat) (i : Nat) (w : World) (b : Nat) (L : List Mk) (R : Nat) (since last : Int) (h : Rec col i w b L R since last) : Calls Try.prog 44 #[.pointer (some ⟨b, 0, none⟩)] w fun e w' => e = .returned (.int .i64 last) ∧ w = w' := by
  obtain ⟨⟨v, X, F, hb, hr, hX, hF, hF0, hLX⟩, hlen, hcap⟩ := h
  have cb := hp_cell hb.hp
  clear hF0
  go_enter Try.func44, Try.ntmps44
  go_wp2
  go_ret
  exact ⟨rfl, rfl⟩
def covB (since last n : Int) : Bool := decide (since ≤ n) && decide (n ≤ last)
theorem rc_covers (col : Nat → Nat) (i : Nat) (w : World) (b : Nat) (L : List Mk) (R : Nat) (since last : Int) (h : Rec col i w b L R since last) (n : Int) : Calls Try.prog 34 #[.pointer (some ⟨b, 0, none⟩), .int .i64 n] w fun e w' => e = .returned (.bool (covB since last n)) ∧ w = w' := by
  obtain ⟨⟨v, X, F, hb, hr, hX, hF, hF0, hLX⟩, hlen, hcap⟩ := h
  have cb := hp_cell hb.hp
  clear hF0 hlen hcap hX
  by_cases h1 : since ≤ n
  · have e : covB since last n = decide (n ≤ last) := by simp [covB, h1]
    rw [e]
    go_enter Try.func34, Try.ntmps34
    go_wp2
    all_goals go_ret
    all_goals exact ⟨by first | rfl | simp [*], rfl⟩
  · have e : covB since last n = false := by simp [covB]; omega
    rw [e]
    have h2 : n < since := by omega
    clear h1
    go_enter Try.func34, Try.ntmps34
    go_wp2
    go_ret
    exact ⟨rfl, rfl⟩

theorem rc_at (col : Nat → Nat) (i : Nat) (w : World) (b : Nat) (L : List Mk) (R : Nat) (since last : Int) (h : Rec col i w b L R since last) (k : Nat) (hk : k < L.length) :
    Calls Try.prog 54 #[.pointer (some ⟨b, 0, none⟩), .int .i64 k] w fun e w' => e = .returned (.agg #[.int .i64 L[k].1, .string L[k].2]) ∧ Below w.heap.size w w' := by
  obtain ⟨⟨v, X, F, hb, hr, hX, hF, hF0, hLX⟩, hlen, hcap⟩ := h
  have hR : 0 < R := by omega
  have hFR := hF hR
  clear hF0 hF
  obtain ⟨g, c, cur, rfl, hg, hnc, hcm, hcs, htk, hgc⟩ := hr.pos hR
  have hJR : (F + k) % R < R := Nat.mod_lt _ hR
  have hXJ : X[(F + k) % R]'(by omega) = L[k] := by
    have h1 := hLX k hk
    rw [List.getElem?_eq_getElem (by omega), List.getElem?_eq_getElem hk] at h1
    exact Option.some.inj h1
  have sW : IntKind.i64.wrap ((F : Int) + (k : Int)) = (F : Int) + (k : Int) := IntWalk.i64_in _ (by omega)
  have sT : ((F : Int) + (k : Int)).tmod (R : Int) = (((F + k) % R : Nat) : Int) := tmod_nat (F + k) R
  have f0 := encM_ok.get X ((F + k) % R) 0 (by omega) (by omega)
  have f1 := encM_ok.get X ((F + k) % R) 1 (by omega) (by omega)
  rw [hXJ] at f0 f1
  clear hXJ
  generalize hJ : (F + k) % R = J at sT hJR f0 f1
  have c0 : w.cell? ⟨g, J * 2, none⟩ = some (.int .i64 L[k].1) := hr.cell (g := g) rfl (by simpa [encM] using f0)
  have c1 : w.cell? ⟨g, J * 2 + 1, none⟩ = some (.string L[k].2) := hr.cell (g := g) rfl (by simpa [encM] using f1)
  have hJ0 : (0 : Int) ≤ (J : Int) := by omega
  have hJ1 : (J : Int) < (R : Int) := by omega
  have hR0 : ((R : Int) == 0) = false := by simp; omega
  have hR1 : ¬ (R : Int) = 0 := by omega
  have hR2 : ¬ R = 0 := by omega
  have HB := below_alloc (Below.refl w.heap.size w) (.cells #[.int .i64 0, .string ⟨#[]⟩] 82)
  have hx0 := hp_alloc_new w (.cells #[.int .i64 0, .string ⟨#[]⟩] 82)
  have hb0 := hp_below HB hb.hp
  have d0 := cell_below HB c0
  have d1 := cell_below HB c1
  clear f0 f1 hJ hLX htk hcs hg hr hb c0 c1
  generalize L[k] = m at *
  go_enter Try.func54, Try.ntmps54
  go_upto_region 1 with fail
  refine Ph.at_world ?_; intro V0 hW
  rw [← hW] at HB hx0 hb0 d0 d1
  clear hW
  go_wp2
  refine Ph.region_at (by kernel_rfl) ?_
  refine Ph.at_quiet 18 (by kernel_rfl) ?_
  simp only [List.take_succ_cons, List.take_zero, List.drop_succ_cons, List.drop_zero]
  repeat ((first | (apply Ph.wpPh_g; (focus (intro w1 hS0; have cb1 := hp_cell (hp_below hS0 (hp_below (below_drew (Below.refl _ _)) hb0)); have e0 := cell_below hS0 (cell_below (below_drew (Below.refl _ _)) d0); have e1 := cell_below hS0 (cell_below (below_drew (Below.refl _ _)) d1); go_simp; first | exact rfl | exact ⟨rfl, Below.refl _ _⟩)))); simp only [Act.put, List.setIfInBounds_toArray, List.set_cons_zero, List.set_cons_succ])
  refine Ph.wpPh_nil ?_; intro U hU
  replace hU := below_call (below_drew (Below.refl _ _)) hU
  have hxU := hp_below hU hx0
  have cx := hp_cell hxU
  have fx := hp_free hxU
  have hBU := below_call HB hU
  clear sW sT d0 d1
  refine Ph.at_op rfl (by kernel_rfl) ?_
  go_wp2
  refine Ph.at_end (by simp) ?_
  refine Ph.at_world ?_; intro Z hW
  have hZ : hp Z w.heap.size = some (.cells #[.int .i64 m.1, .string m.2] 82 (0, 0)) := by rw [hW]; exact hp_set (hp_set hxU _) _
  have HZ : Below w.heap.size w Z := by rw [hW]; exact below_set (below_set hBU (Nat.le_refl _) _) (Nat.le_refl _) _
  clear hW cx fx
  have cz := hp_cell hZ
  go_wp2
  exact bodyPost_ret (v := .agg #[.int .i64 m.1, .string m.2]) (by simp [results, Try.results54, go_sem, cz]) rfl ⟨rfl, HZ⟩

end Go.Proofs.Ytgacbfbjikjanaa
