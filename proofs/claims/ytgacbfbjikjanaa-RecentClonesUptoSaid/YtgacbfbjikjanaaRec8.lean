/- Recent: the reference's answers. -/
import Derived.Test.YtgacbfbjikjanaaRec7
import Derived.WalkKit
import Derived.WalkLawsBesides
import Derived.WalkSpells
import Derived.Below
import Derived.Deep.RegionHeld3
import Derived.Deep.QuietTactic
import Derived.BigQuiet
import Derived.Deep.DeepCutAuto
import Derived.Deep.DeepMust
import Derived.KernelRfl
import Derived.Lib.Hide
import Derived.Outline
import Derived.RegionTactic
import Derived.StillTailTactics
namespace Go.Proofs.Ytgacbfbjikjanaa
open Go.RowKit Go.Cl
set_option maxRecDepth 100000
set_option linter.unusedVariables false
set_option linter.unusedSimpArgs false


theorem rf_covers (col : Nat → Nat) (i : Nat) (w : World) (b : Nat) (L : List Mk) (R : Nat) (since last : Int) (h : Ref col i w b L R since last) (n : Int) : Calls Try.prog 52 #[.pointer (some ⟨b, 0, none⟩), .int .i64 n] w fun e w' => e = .returned (.bool (covB since last n)) ∧ w = w' := by
  obtain ⟨⟨v, hb, hr⟩, hlen, hcap⟩ := h
  have cb := hp_cell hb.hp
  clear hlen hcap
  by_cases h1 : since ≤ n
  · have e : covB since last n = decide (n ≤ last) := by simp [covB, h1]
    rw [e]
    go_enter Try.func52, Try.ntmps52
    go_wp2
    all_goals go_ret
    all_goals exact ⟨by first | rfl | simp [*], rfl⟩
  · have e : covB since last n = false := by simp [covB]; omega
    rw [e]
    have h2 : n < since := by omega
    clear h1
    go_enter Try.func52, Try.ntmps52
    go_wp2
    go_ret
    exact ⟨rfl, rfl⟩
set_option maxHeartbeats 1000000 in
theorem rf_first (col : Nat → Nat) (i : Nat) (w : World) (b : Nat) (L : List Mk) (R : Nat) (since last : Int) (h : Ref col i w b L R since last) (key : ByteArray) (after : Int) :
    Calls Try.prog 53 #[.pointer (some ⟨b, 0, none⟩), .string key, .int .i64 after] w fun e w' => e = .returned (.tuple #[.int .i64 (fstV L key after), .bool (fstB L key after)]) ∧ w = w' := by
  obtain ⟨⟨v, hb, hr⟩, hlen, hcap⟩ := h
  obtain ⟨p, c, rfl⟩ := hr.form
  have cb := hp_cell hb.hp
  go_enter Try.func53, Try.ntmps53
  go_wp2
  go_loop [8] (fun t => ∃ k : Nat, t = .int .i64 k ∧ k ≤ L.length ∧ Hid (∀ j (h : j < k) (h' : j < L.length), fM key after L[j] = false)) (fun t => L.length + 1 - (intOf t).toNat)
  case atStart => exact ⟨0, rfl, Nat.zero_le _, Lib.hid fun j hj => by omega⟩
  case round =>
    obtain ⟨k, rfl, hk, HNO⟩ := hrel
    by_cases hlt : k < L.length
    · obtain ⟨g, c', cur, hv, hg, hnc, hcm, hcs, htk, hgc⟩ := hr.pos (by omega)
      simp only [Value.slice.injEq] at hv
      obtain ⟨rfl, _, rfl⟩ := hv
      have c0 : w.cell? ⟨g, k * 2, none⟩ = some (.int .i64 L[k].1) := hr.cell (g := g) rfl (by have := encM_ok.get L k 0 hlt (by omega); simpa [encM] using this)
      have c1 : w.cell? ⟨g, k * 2 + 1, none⟩ = some (.string L[k].2) := hr.cell (g := g) rfl (by have := encM_ok.get L k 1 hlt (by omega); simpa [encM] using this)
      clear hg htk hcs
      have hk0 : (0 : Int) ≤ (k : Int) := by omega
      have HF := Lib.hid (show fM key after L[k] = (decide (after < L[k].1) && (L[k].2.toList == key.toList)) from rfl)
      have no : fM key after L[k] = false → ∀ j (h : j < k + 1) (h' : j < L.length), fM key after L[j] = false := fun e j hj h' => by
        by_cases hjk : j = k
        · subst hjk; exact e
        · exact HNO.out j (by omega) h'
      have NO := Lib.hid no; clear no
      cases hs : L[k].2.toList == key.toList with
      | true =>
        by_cases hN : after < L[k].1
        · have e := find_at (p := fM key after) k hlt (fun j hj => HNO.out j hj (by omega)) (by rw [HF.out, hs]; simp [hN])
          have E1 : Hid (fstV L key after = L[k].1) := Lib.hid (by unfold fstV; rw [e])
          have E2 : Hid (fstB L key after = true) := Lib.hid (by unfold fstB; rw [e]; rfl)
          clear e NO HNO HF
          generalize L[k] = m at *
          have HS := Lib.hid hs; clear hs
          have hs2 : (m.2.toList == key.toList) = true := HS.out
          go_wp2
          go_ret2
          exact ⟨by rw [E1.out, E2.out]; rfl, rfl⟩
        · have e : fM key after L[k] = false := by rw [HF.out]; simp [hN]
          have N2 := Lib.hid (NO.out e); clear e NO HNO HF
          have hN' : L[k].1 ≤ after := by omega
          clear hN
          go_wp2
          go_round
          case rel => exact ⟨k + 1, by go_num, by omega, N2⟩
          case measure => simp [intOf]; omega
      | false =>
        have e : fM key after L[k] = false := by rw [HF.out, hs]; simp
        have N2 := Lib.hid (NO.out e); clear e NO HNO HF
        go_wp2
        go_round
        case rel => exact ⟨k + 1, by go_num, by omega, N2⟩
        case measure => simp [intOf]; omega
    · have e := find_no (p := fM key after) (L := L) (fun j hj => HNO.out j (by omega) hj)
      have E1 : Hid (fstV L key after = 0) := Lib.hid (by unfold fstV; rw [e])
      have E2 : Hid (fstB L key after = false) := Lib.hid (by unfold fstB; rw [e]; rfl)
      clear e HNO
      go_wp2
      go_ret2
      exact ⟨by rw [E1.out, E2.out]; rfl, rfl⟩
theorem same31_true (col1 col2 : Nat → Nat) (i1 i2 : Nat) (w : World) (v1 v2 : Value) (L : List Mk) (n : Nat) (hn : L.length = n) (hn' : n ≤ 1000000000000) (hr1 : Row col1 i1 w 82 2 v1 n (L.flatMap encM)) (hr2 : Row col2 i2 w 82 2 v2 n (L.flatMap encM)) :
    Calls Try.prog 31 #[v1, v2] w fun e w' => e = .returned (.bool true) ∧ Below w.heap.size w w' := by
  obtain ⟨p1, c1, rfl⟩ := hr1.form
  obtain ⟨p2, c2, rfl⟩ := hr2.form
  go_enter Try.func31, Try.ntmps31
  go_wp2
  go_loopw [5] (fun t wr => ∃ k : Nat, k ≤ n ∧ t = .int .i64 k ∧ Below w.heap.size w wr) (fun t _ => n + 1 - (intOf t).toNat)
  case atStart => exact ⟨0, Nat.zero_le _, rfl, Below.refl _ _⟩
  case round =>
    obtain ⟨k, hk, rfl, hbel⟩ := hrel
    by_cases hlt : k < n
    · obtain ⟨g1, d1, cur1, hv1, hg1, ha1, hb1, he1, hf1, _⟩ := hr1.pos (by omega)
      obtain ⟨g2, d2, cur2, hv2, hg2, ha2, hb2, he2, hf2, _⟩ := hr2.pos (by omega)
      simp only [Value.slice.injEq] at hv1 hv2
      obtain ⟨rfl, _, rfl⟩ := hv1
      obtain ⟨rfl, _, rfl⟩ := hv2
      have f0 := encM_ok.get L k 0 (by omega) (by omega)
      have f1 := encM_ok.get L k 1 (by omega) (by omega)
      generalize L[k] = m at *
      have q1 : wr.cell? ⟨g1, k * 2, none⟩ = some (.int .i64 m.1) := cell_below hbel (hr1.cell (g := g1) rfl (by simpa [encM] using f0))
      have q2 : wr.cell? ⟨g2, k * 2, none⟩ = some (.int .i64 m.1) := cell_below hbel (hr2.cell (g := g2) rfl (by simpa [encM] using f0))
      have q3 : wr.cell? ⟨g1, k * 2 + 1, none⟩ = some (.string m.2) := cell_below hbel (hr1.cell (g := g1) rfl (by simpa [encM] using f1))
      have q4 : wr.cell? ⟨g2, k * 2 + 1, none⟩ = some (.string m.2) := cell_below hbel (hr2.cell (g := g2) rfl (by simpa [encM] using f1))
      have hk0 : (0 : Int) ≤ (k : Int) := by omega
      have HN := Lib.hid hn; clear hn f0 f1
      go_wp2
      refine Ph.wp_region_gr 9 9 [] (by kernel_rfl) (by kernel_rfl) (fun _ d _ _ _ h => by cases d <;> exact h) ?_
      simp only [List.take_succ_cons, List.take_zero, List.drop_succ_cons, List.drop_zero]
      repeat ((first | (apply Ph.wpG_op rfl; (focus (intro w1 hS0; have d1 := cell_below hS0 q1; have d2 := cell_below hS0 q2; have d3 := cell_below hS0 q3; have d4 := cell_below hS0 q4; go_simp; first | exact rfl | exact ⟨rfl, Below.refl _ _⟩)))); simp only [List.tail_cons, List.tail_nil, Act.put, List.setIfInBounds_toArray, List.set_cons_zero, List.set_cons_succ])
      refine Ph.wpG_nil ?_
      refine Ph.wpAl_nil ?_; intro w2 hS _ _

      go_wp2
      go_roundw
      case rel => exact ⟨k + 1, by omega, by go_num, below_call hbel hS⟩
      case measure => simp [intOf]; omega
    · have : k = n := by omega
      go_wp2
      go_ret
      exact ⟨rfl, hbel⟩

end Go.Proofs.Ytgacbfbjikjanaa
