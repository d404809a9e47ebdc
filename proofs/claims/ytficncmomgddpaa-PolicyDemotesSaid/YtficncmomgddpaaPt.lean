/- The orders are transitive; entry. -/
import Derived.Test.YtficncmomgddpaaPdm
import Derived.WalkKit
import Derived.WalkLawsBesides
import Derived.WalkSpells
import Derived.Below
import Derived.Deep.RegionHeld3
import Derived.Deep.QuietTactic
import Derived.BigQuiet
import Derived.Deep.DeepCutAuto
import Derived.Deep.DeepMust
import Derived.KernelRfl
import Derived.Lib.Hide
import Derived.Outline
import Derived.RegionTactic
import Derived.StillTailTactics
namespace Go.Proofs.Ytficncmomgddpaa
open Go.RowKit Go.Cl
set_option maxRecDepth 100000
set_option linter.unusedVariables false
set_option linter.unusedSimpArgs false

open Go.Ps
theorem cmpI_anti (a b : Int) : cmpI b a = - cmpI a b := by
  unfold cmpI; split <;> split <;> (try split) <;> omega
theorem cmpI_le (a b : Int) : cmpI a b ≤ 0 ↔ a ≤ b := by
  unfold cmpI; split
  · exact ⟨fun _ => by omega, fun _ => by omega⟩
  · split
    · exact ⟨fun h => by omega, fun h => by omega⟩
    · exact ⟨fun h => by omega, fun h => by omega⟩
theorem cmpI_zero (a b : Int) (h : cmpI a b = 0) : a = b := by
  unfold cmpI at h; split at h
  · omega
  · split at h <;> omega
theorem cmpI_self (a : Int) : cmpI a a = 0 := by unfold cmpI; rw [if_neg (by omega), if_neg (by omega)]
theorem cmpI_tr (a b c : Int) (h1 : cmpI a b ≤ 0) (h2 : cmpI b c ≤ 0) : cmpI a c ≤ 0 ∧ (cmpI a c = 0 → cmpI a b = 0 ∧ cmpI b c = 0) := by
  rw [cmpI_le] at h1 h2
  refine ⟨(cmpI_le a c).2 (by omega), fun h => ?_⟩
  have e := cmpI_zero _ _ h
  subst e
  obtain rfl : a = b := by omega
  exact ⟨cmpI_self a, cmpI_self a⟩
theorem cmpL_anti (P Q : Nat → Int) : ∀ n i, cmpL Q P n i = - cmpL P Q n i := by
  intro n
  induction n with
  | zero => intro i; rfl
  | succ n ih =>
    intro i
    show (if cmpI (Q i) (P i) = 0 then cmpL Q P n (i + 1) else cmpI (Q i) (P i)) = - (if cmpI (P i) (Q i) = 0 then cmpL P Q n (i + 1) else cmpI (P i) (Q i))
    rw [cmpI_anti (P i) (Q i)]
    by_cases h : cmpI (P i) (Q i) = 0
    · rw [if_pos (by omega), if_pos h]; exact ih _
    · rw [if_neg (by omega), if_neg h]
theorem cmpL_tr (P Q R : Nat → Int) : ∀ n i, cmpL P Q n i ≤ 0 → cmpL Q R n i ≤ 0 → cmpL P R n i ≤ 0 ∧ (cmpL P R n i = 0 → cmpL P Q n i = 0 ∧ cmpL Q R n i = 0) := by
  intro n
  induction n with
  | zero => intro i _ _; exact ⟨Int.le_refl _, fun _ => ⟨rfl, rfl⟩⟩
  | succ n ih =>
    intro i h1 h2
    have e : ∀ A B : Nat → Int, cmpL A B (n + 1) i = if cmpI (A i) (B i) = 0 then cmpL A B n (i + 1) else cmpI (A i) (B i) := fun _ _ => rfl
    rw [e] at h1 h2 ⊢
    rw [e, e]
    have hi := ih (i + 1)
    by_cases x1 : cmpI (P i) (Q i) = 0
    · rw [if_pos x1] at h1 ⊢
      have y1 := cmpI_zero _ _ x1
      rw [y1]
      by_cases x2 : cmpI (Q i) (R i) = 0
      · simp only [if_pos x2] at h2 ⊢; exact hi h1 h2
      · simp only [if_neg x2] at h2 ⊢; exact ⟨h2, fun h => absurd h x2⟩
    · rw [if_neg x1] at h1 ⊢
      by_cases x2 : cmpI (Q i) (R i) = 0
      · have y2 := cmpI_zero _ _ x2
        rw [← y2, if_neg x1]
        exact ⟨h1, fun h => absurd h x1⟩
      · rw [if_neg x2] at h2 ⊢
        obtain ⟨z1, z2⟩ := cmpI_tr _ _ _ h1 h2
        rw [if_neg (fun h => x1 (z2 h).1)]
        exact ⟨z1, fun h => absurd (z2 h).1 x1⟩
theorem rr_tr {c : Nat → Nat → Int} (ha : ∀ x y, c y x = - c x y) (ht : ∀ x y z, c x y ≤ 0 → c y z ≤ 0 → c x z ≤ 0 ∧ (c x z = 0 → c x y = 0 ∧ c y z = 0)) : ∀ x y z, RR c x y → RR c y z → RR c x z := by
  intro x y z h1 h2
  have a1 := ha x y; have a2 := ha y z; have a3 := ha x z
  have l1 : c x y ≤ 0 := by rcases h1 with h | ⟨h, _⟩ <;> omega
  have l2 : c y z ≤ 0 := by rcases h2 with h | ⟨h, _⟩ <;> omega
  obtain ⟨t1, t2⟩ := ht x y z l1 l2
  by_cases h0 : c x z = 0
  · obtain ⟨u1, u2⟩ := t2 h0
    refine .inr ⟨by omega, ?_⟩
    have p1 : x < y := by rcases h1 with h | ⟨_, h⟩ <;> omega
    have p2 : y < z := by rcases h2 with h | ⟨_, h⟩ <;> omega
    omega
  · exact .inl (by omega)
theorem tr_cmp (E : Nat → En) : ∀ x y z, RR (fun x y => (E x).cmp (E y)) x y → RR (fun x y => (E x).cmp (E y)) y z → RR (fun x y => (E x).cmp (E y)) x z :=
  rr_tr (fun _ _ => cmpL_anti _ _ 4 0) (fun _ _ _ => cmpL_tr _ _ _ 4 0)
def En.d2 (e : En) : Nat → Int := fun i => if i = 0 then e.st else e.ins
theorem dem_eq (e f : En) : e.dem f = cmpL e.d2 f.d2 2 0 := by
  show (if cmpI e.st f.st = 0 then cmpI e.ins f.ins else cmpI e.st f.st) = (if cmpI e.st f.st = 0 then (if cmpI e.ins f.ins = 0 then 0 else cmpI e.ins f.ins) else cmpI e.st f.st)
  split
  · split <;> omega
  · rfl
theorem tr_dem (E : Nat → En) : ∀ x y z, RR (fun x y => (E x).dem (E y)) x y → RR (fun x y => (E x).dem (E y)) y z → RR (fun x y => (E x).dem (E y)) x z :=
  rr_tr (fun x y => by show (E y).dem (E x) = - (E x).dem (E y); rw [dem_eq, dem_eq]; exact cmpL_anti _ _ 2 0) (fun x y z => by
    show (E x).dem (E y) ≤ 0 → (E y).dem (E z) ≤ 0 → (E x).dem (E z) ≤ 0 ∧ ((E x).dem (E z) = 0 → (E x).dem (E y) = 0 ∧ (E y).dem (E z) = 0)
    rw [dem_eq, dem_eq, dem_eq]; exact cmpL_tr _ _ _ 2 0)
set_option maxHeartbeats 1000000 in
theorem c_entry (hi : Int) (hot : Bool) (st ins : Int) (w : World) :
    Calls Try.prog 18 #[.int .i64 hi, .bool hot, .int .i64 st, .int .i64 ins] w fun e w' => e = .returned (.agg #[.string ⟨#[107]⟩, .bool false, .string ⟨#[]⟩, .int .i64 0, .int .i64 hi, .bool hot, .int .i64 st, .int .i64 ins]) ∧ Below w.heap.size w w' := by
  go_enter Try.func18, Try.ntmps18
  go_wp2
  refine bodyPost_ret (v := .agg #[.string ⟨#[107]⟩, .bool false, .string ⟨#[]⟩, .int .i64 0, .int .i64 hi, .bool hot, .int .i64 st, .int .i64 ins]) (by simp [results, Try.results18, go_sem, *]; done) rfl ⟨rfl, by (repeat (first | (with_reducible assumption) | (with_reducible exact Below.refl _ _) | (with_reducible refine below_set ?_ (by first | assumption | (simp; done) | (simp; omega) | omega) _) | (with_reducible apply below_alloc) | (with_reducible apply below_drew) | (with_reducible apply below_drewN)))⟩
end Go.Proofs.Ytficncmomgddpaa
