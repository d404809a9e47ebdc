/- One sorted order. -/
import Derived.Test.YtficncmomgddpaaPb
import Derived.WalkKit
import Derived.WalkLawsBesides
import Derived.WalkSpells
import Derived.Below
import Derived.Deep.RegionHeld3
import Derived.Deep.QuietTactic
import Derived.BigQuiet
import Derived.Deep.DeepCutAuto
import Derived.Deep.DeepMust
import Derived.KernelRfl
import Derived.Lib.Hide
import Derived.Outline
import Derived.RegionTactic
import Derived.StillTailTactics
namespace Go.Proofs.Ytficncmomgddpaa
open Go.RowKit Go.Cl
set_option maxRecDepth 100000
set_option linter.unusedVariables false
set_option linter.unusedSimpArgs false

open Go.Ps
theorem made_ints (n : Nat) : Go.madeCells (Value.int .i64 0).cells (n * 1) = (List.replicate n (Value.int .i64 0)).toArray := by
  unfold Go.madeCells
  apply Array.ext
  · simp
  · intro i h1 h2
    simp [Value.cells, Nat.mod_one]
theorem make_ints (W : World) (n : Nat) (hn : n ≤ 4096) : (Instr.makeSlice 33 (.int .i64 (n : Int)) (.int .i64 (n : Int))).run Try.prog W = .ok (.slice (some ⟨W.heap.size, 0, none⟩) n n) (W.alloc (.cells (List.replicate n (Value.int .i64 0)).toArray 3)) := by
  obtain ⟨i0, hi, hz0, hz1, hz2⟩ := info_parts Try.info3
  have h := run_make (P := Try.prog) W 33 3 i0 (.int .i64 0) Try.underlying33 hi hz0 .i64 .i64 n n (by omega) (Int.le_refl _) (by rw [hz2]; omega) (by omega)
  rw [hz1] at h
  simp only [Int.toNat_natCast, made_ints] at h
  exact h
theorem SS.toBelow {w W0 W : World} {g N : Nat} {D : Nat → Nat} (h : SS W0 (fun k => if k = g then 1 else 0) g N D W) (hb : Below w.heap.size w W0) (hg : w.heap.size ≤ g) : Below w.heap.size w W := by
  obtain ⟨c, hm, _⟩ := h
  exact below_one hb hm hg
theorem SS.new {W : World} {g n : Nat} (h : hp W g = some (.cells (List.replicate n (Value.int .i64 0)).toArray 3 (0, 0))) : SS W (fun k => if k = g then 1 else 0) g n (fun _ => 0) W :=
  ⟨_, Mv.refl, ⟨_, h, fun i hi => by simp [hi]⟩, if_pos rfl⟩
theorem SS.rd {W0 W : World} {c0 : Nat → Nat} {g N cp : Nat} {D : Nat → Nat} (h : SS W0 c0 g N D W) : RdI W (.slice (some ⟨g, 0, none⟩) N cp) N D :=
  ⟨_, _, rfl, fun i hi => ⟨g, 0, rfl, by rw [Nat.zero_add]; exact h.cell hi⟩⟩
theorem SS.same {W0 W : World} {c0 : Nat → Nat} {g N : Nat} {D D' : Nat → Nat} (h : SS W0 c0 g N D W) (he : ∀ i, i < N → D i = D' i) : SS W0 c0 g N D' W := by
  obtain ⟨c, hm, ⟨cur, h1, h2⟩, hc⟩ := h
  exact ⟨c, hm, ⟨cur, h1, fun i hi => by rw [← he i hi]; exact h2 i hi⟩, hc⟩
/-- There is a sorted order, and but one. -/
theorem sorted_ex {cf : Nat → Nat → Int} (tr : ∀ x y z, RR cf x y → RR cf y z → RR cf x z) : ∀ n, ∃ D, Pm 0 n (fun k => k) D ∧ Sd (RR cf) 0 n D := by
  intro n
  induction n with
  | zero => exact ⟨_, Pm.refl _ _ _, Sd.nil _ _ _⟩
  | succ n ih =>
    obtain ⟨D, h, hs⟩ := ih
    have tot : ∀ x y, x ≠ y → RR cf x y ∨ RR cf y x := fun x y hne => by
      by_cases c1 : cf x y < 0
      · exact .inl (.inl c1)
      · by_cases c2 : cf y x < 0
        · exact .inr (.inl c2)
        · rcases Nat.lt_or_ge x y with c | c
          · exact .inl (.inr ⟨c2, c⟩)
          · exact .inr (.inr ⟨c1, by omega⟩)
    have hne : ∀ k, k < n → D k ≠ D n := fun k hk e => by have := pm_inj h _ _ e; omega
    have key : ∀ j, j ≤ n → ∃ i, i ≤ j ∧ (∀ k, k < i → RR cf (D k) (D n)) ∧ (i = j ∨ RR cf (D n) (D i)) := by
      intro j
      induction j with
      | zero => intro _; exact ⟨0, Nat.le_refl _, fun k hk => by omega, .inl rfl⟩
      | succ j ihj =>
        intro hj
        obtain ⟨i, h1, h2, h3⟩ := ihj (by omega)
        rcases h3 with rfl | h3
        · rcases tot (D i) (D n) (hne i (by omega)) with c | c
          · refine ⟨i + 1, Nat.le_refl _, fun k hk => ?_, .inl rfl⟩
            by_cases e : k = i
            · subst e; exact c
            · exact h2 k (by omega)
          · exact ⟨i, by omega, h2, .inr c⟩
        · exact ⟨i, by omega, h2, .inr h3⟩
    obtain ⟨i, h1, h2, h3⟩ := key n (Nat.le_refl _)
    refine ⟨rot i n (n + 1) D, (h.mono (Nat.le_refl _) (by omega)).trans ((rot_pm h1 (by omega) D).mono (Nat.zero_le _) (Nat.le_refl _)), ins_right tr (Nat.zero_le _) h1 hs ?_ h3⟩
    rcases Nat.eq_zero_or_pos i with c | c
    · exact .inl c
    · exact .inr (h2 (i - 1) (by omega))
theorem sorted_one {cf : Nat → Nat → Int} (ha : ∀ x y, cf y x = - cf x y) {n : Nat} {D D' : Nat → Nat} (h : Pm 0 n (fun k => k) D) (hs : Sd (RR cf) 0 n D) (h' : Pm 0 n (fun k => k) D') (hs' : Sd (RR cf) 0 n D') : ∀ k, k < n → D k = D' k := by
  intro k hk
  obtain ⟨j, hj, e⟩ := pm_onto h' (D k) (pm_mem h k hk)
  have a1 := at_eq ha h hs hk
  have a2 := at_eq ha h' hs' hj
  rw [e, a1] at a2
  rw [← e, a2]
theorem RdI.same {w : World} {v : Value} {n : Nat} {D D' : Nat → Nat} (h : RdI w v n D) (he : ∀ i, i < n → D i = D' i) : RdI w v n D' := by
  obtain ⟨p, cp, hv, h⟩ := h
  exact ⟨p, cp, hv, fun i hi => by obtain ⟨b, o, e, hc⟩ := h i hi; exact ⟨b, o, e, by rw [hc, he i hi]⟩⟩
end Go.Proofs.Ytficncmomgddpaa
