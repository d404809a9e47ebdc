/- The sort: ranges that change places. -/
import Derived.Test.YtficncmomgddpaaProg
import Derived.Test.YtficncmomgddpaaCol
import Derived.Test.YtficncmomgddpaaPh
import Derived.Test.YtficncmomgddpaaPs
import Derived.WalkKit
import Derived.WalkLawsBesides
import Derived.WalkSpells
import Derived.Below
import Derived.Deep.RegionHeld3
import Derived.Deep.QuietTactic
import Derived.BigQuiet
import Derived.Deep.DeepCutAuto
import Derived.Deep.DeepMust
import Derived.KernelRfl
import Derived.Lib.Hide
import Derived.Outline
import Derived.RegionTactic
import Derived.StillTailTactics
namespace Go.Proofs.Ytficncmomgddpaa
open Go.RowKit Go.Cl
set_option maxRecDepth 100000
set_option linter.unusedVariables false
set_option linter.unusedSimpArgs false

open Go.Ps
/-- Numbers in memory: what lies at the head of block g. -/
structure Arr (c : Nat → Nat) (w : World) (g N : Nat) (D : Nat → Nat) : Prop where
  ex : ∃ cur, hp w g = some (.cells cur 3 (0, 0)) ∧ ∀ i, i < N → cur[i]? = some (.int .i64 (D i : Int))
  col : c g = 1
def SS (W0 : World) (c0 : Nat → Nat) (g N : Nat) (D : Nat → Nat) (W : World) : Prop := ∃ c, Mv [1] c0 W0 c W ∧ Arr c W g N D
section
variable {W0 : World} {c0 : Nat → Nat} {g N : Nat} {D : Nat → Nat} {W : World}
theorem SS.below (h : SS W0 c0 g N D W) {W' : World} (hb : Below W.heap.size W W') : SS W0 c0 g N D W' := by
  obtain ⟨c, hm, ⟨cur, h1, h2⟩, hc⟩ := h
  exact ⟨c, hm.after_below hb, ⟨cur, hp_below hb h1, h2⟩, hc⟩
theorem SS.cell (h : SS W0 c0 g N D W) {i : Nat} (hi : i < N) : W.cell? ⟨g, i, none⟩ = some (.int .i64 (D i : Int)) := by
  obtain ⟨c, hm, ⟨cur, h1, h2⟩, hc⟩ := h
  rw [hp_cell h1]; exact h2 i hi
theorem SS.free (h : SS W0 c0 g N D W) (i : Nat) : W.frozen? ⟨g, i, none⟩ = false := by
  obtain ⟨c, hm, ⟨cur, h1, h2⟩, hc⟩ := h
  exact hp_free h1 i
theorem SS.free_set (h : SS W0 c0 g N D W) (j : Nat) (u : Value) (i : Nat) : (W.setCell ⟨g, j, none⟩ u).frozen? ⟨g, i, none⟩ = false := by
  obtain ⟨c, hm, ⟨cur, h1, h2⟩, hc⟩ := h
  exact hp_free (hp_set h1 u) i
theorem SS.swap (h : SS W0 c0 g N D W) {i j : Nat} (hi : i < N) (hj : j < N) : SS W0 c0 g N (swp D i j) ((W.setCell ⟨g, i, none⟩ (.int .i64 (D j : Int))).setCell ⟨g, j, none⟩ (.int .i64 (D i : Int))) := by
  obtain ⟨c, hm, ⟨cur, h1, h2⟩, hc⟩ := h
  have hs := hp_set (hp_set h1 (i := i) (.int .i64 (D j : Int))) (i := j) (.int .i64 (D i : Int))
  have hC := ((Ch.refl (col := c) (i := 1) (w := W)).setCell (p := ⟨g, i, none⟩) (paint_of hc) (.int .i64 (D j : Int))).setCell (p := ⟨g, j, none⟩) (paint_of hc) (.int .i64 (D i : Int))
  refine ⟨_, hm.trans hC.mv, ⟨_, hs, fun k hk => ?_⟩, paint_of hc⟩
  have hil : i < cur.size := (Array.getElem?_eq_some_iff.1 (h2 i hi)).1
  have hjl : j < cur.size := (Array.getElem?_eq_some_iff.1 (h2 j hj)).1
  rw [Array.getElem?_setIfInBounds, Array.getElem?_setIfInBounds]
  unfold swp
  by_cases e1 : j = k
  · subst e1
    rw [if_pos rfl, if_pos (by simpa using hjl)]
    by_cases e2 : j = i
    · subst e2; rw [if_pos rfl]
    · rw [if_neg e2, if_pos rfl]
  · rw [if_neg e1]
    by_cases e2 : i = k
    · subst e2; rw [if_pos rfl, if_pos hil, if_pos rfl]
    · rw [if_neg e2, if_neg (fun e => e2 e.symm), if_neg (fun e => e1 e.symm)]; exact h2 k hk
/-- What the walk asks of the one that compares. -/
def CmpOk (W0 : World) (c0 : Nat → Nat) (N : Nat) (vp vq : Value) (cf : Nat → Nat → Int) : Prop :=
  ∀ W c, Mv [1] c0 W0 c W → ∀ x y : Nat, x < N → y < N → Calls Try.prog 29 #[.int .i64 (x : Int), .int .i64 (y : Int), vp, vq] W fun e w' => e = .returned (.int .i64 (cf x y)) ∧ Below W.heap.size W w'
theorem CmpOk.at {vp vq : Value} {cf : Nat → Nat → Int} (h : CmpOk W0 c0 N vp vq cf) (hS : SS W0 c0 g N D W) (x y : Nat) (hx : x < N) (hy : y < N) :
    Calls Try.prog 29 #[.int .i64 (x : Int), .int .i64 (y : Int), vp, vq] W fun e w' => e = .returned (.int .i64 (cf x y)) ∧ Below W.heap.size W w' := by
  obtain ⟨c, hm, _⟩ := hS
  exact h W c hm x y hx hy
end
def RtInv (W0 : World) (c0 : Nat → Nat) (g N : Nat) (a m b : Nat) (D : Nat → Nat) (x y : Value) (wr : World) : Prop :=
  ∃ (i j : Nat) (E : Nat → Nat), x = .int .i64 i ∧ y = .int .i64 j ∧ 0 < i ∧ 0 < j ∧ a + i ≤ m ∧ m + j ≤ b ∧ SS W0 c0 g N E wr ∧ rot (m - i) m (m + j) E = rot a m b D
theorem wsub (x y : Nat) (h : y ≤ x) (hx : x ≤ 100000) : IntKind.i64.wrap ((x : Int) - (y : Int)) = ((x - y : Nat) : Int) := by rw [IntWalk.i64_in _ (by omega)]; omega
section
variable (W0 : World) (c0 : Nat → Nat) (g N cp : Nat) (vp vq : Value) (cf : Nat → Nat → Int) (hN : N ≤ 1000)
include hN
set_option maxHeartbeats 1000000 in
theorem st_swapRange (w : World) (D : Nat → Nat) (hS : SS W0 c0 g N D w) (a b n : Nat) (hab : a + n ≤ b) (hb : b + n ≤ N) :
    Calls Try.prog 36 #[.slice (some ⟨g, 0, none⟩) N cp, .int .i64 a, .int .i64 b, .int .i64 n, .func (.func 29) #[] #[vp, vq]] w fun e w' => e = .returned (.tuple #[]) ∧ SS W0 c0 g N (sr D a b n) w' := by
  go_enter Try.func36, Try.ntmps36
  go_wp2
  go_loopw [10] (fun t wr => ∃ k : Nat, t = .int .i64 k ∧ k ≤ n ∧ SS W0 c0 g N (sr D a b k) wr) (fun t _ => n + 1 - (intOf t).toNat)
  case atStart => exact ⟨0, rfl, Nat.zero_le _, by rw [sr_zero]; exact hS⟩
  case round =>
    obtain ⟨k, rfl, hk, hS2⟩ := hrel
    clear hS
    by_cases hlt : k < n
    · have hsw := sr_succ D a b k (by omega)
      have HSW := Lib.hid hsw; clear hsw
      generalize sr D a b k = E at *
      have wa : IntKind.i64.wrap ((a : Int) + (k : Int)) = (a : Int) + (k : Int) := IntWalk.i64_in _ (by omega)
      have za : (0 : Int) ≤ (a : Int) + (k : Int) := by omega
      have ta : ((a : Int) + (k : Int)).toNat = a + k := by omega
      have la : (a : Int) + (k : Int) < (N : Int) := by omega
      have ka : a + k < N := by omega
      have wb : IntKind.i64.wrap ((b : Int) + (k : Int)) = (b : Int) + (k : Int) := IntWalk.i64_in _ (by omega)
      have zb : (0 : Int) ≤ (b : Int) + (k : Int) := by omega
      have tb : ((b : Int) + (k : Int)).toNat = b + k := by omega
      have lb : (b : Int) + (k : Int) < (N : Int) := by omega
      have kb : b + k < N := by omega
      have ca := hS2.cell (i := a + k) (by omega)
      have cb := hS2.cell (i := b + k) (by omega)
      have H2 := Lib.hid hS2; clear hS2
      go_wp2
      clear ca cb
      refine Ph.wp_region_gr 20 20 [false, false, false, false, true, true, true, true] (by kernel_rfl) (by kernel_rfl) (fun _ d _ _ _ h => by cases d <;> exact h) ?_
      simp only [List.take_succ_cons, List.take_zero, List.drop_succ_cons, List.drop_zero]
      repeat ((first | (apply Ph.wpG_op rfl; (focus (intro w1 hS0; have ca1 := (H2.out.below hS0).cell (i := a + k) (by omega); have cb1 := (H2.out.below hS0).cell (i := b + k) (by omega); go_simp; first | exact rfl | exact ⟨rfl, Below.refl _ _⟩))) | (apply Ph.wpG_late; (focus (intro w1; go_simp; exact rfl)))); simp only [List.tail_cons, List.tail_nil, Act.put, List.setIfInBounds_toArray, List.set_cons_zero, List.set_cons_succ])
      refine Ph.wpG_nil ?_
      refine Ph.wpAl_nil ?_; intro w2 hS hgs hne
      have hS3 := H2.out.below hS
      have fr := hS3.free
      have fs := hS3.free_set
      have ca := hS3.cell (i := a + k) (by omega)
      have cb := hS3.cell (i := b + k) (by omega)
      have n1 : ¬ (a + k = b + k) := by omega
      have n2 : ¬ (b + k = a + k) := by omega
      go_wp2
      have hs := hS3.swap (i := a + k) (j := b + k) (by omega) (by omega)
      rw [HSW.out] at hs
      exact ⟨⟨k + 1, by go_num, by omega, hs⟩, by simp [intOf]; omega⟩
    · have hkn : k = n := by omega
      subst hkn
      go_wp2
      refine bodyPost_end (results_none rfl _ _ _) rfl ?_
      exact ⟨rfl, hS2⟩
set_option maxHeartbeats 4000000 in
theorem st_rotate (w : World) (D : Nat → Nat) (hS : SS W0 c0 g N D w) (a m b : Nat) (ham : a < m) (hmb : m < b) (hb : b ≤ N) :
    Calls Try.prog 35 #[.slice (some ⟨g, 0, none⟩) N cp, .int .i64 a, .int .i64 m, .int .i64 b, .func (.func 29) #[] #[vp, vq]] w fun e w' => e = .returned (.tuple #[]) ∧ SS W0 c0 g N (rot a m b D) w' := by
  have HM := Lib.hid ham; have HB := Lib.hid hmb
  have w1 : IntKind.i64.wrap ((m : Int) - (a : Int)) = ((m - a : Nat) : Int) := by rw [IntWalk.i64_in _ (by omega)]; omega
  have w2 : IntKind.i64.wrap ((b : Int) - (m : Int)) = ((b - m : Nat) : Int) := by rw [IntWalk.i64_in _ (by omega)]; omega
  go_enter Try.func35, Try.ntmps35
  go_wp2
  clear w1 w2
  go_loopw [10, 11] (RtInv W0 c0 g N a m b D) (fun x y _ => (intOf x).toNat + (intOf y).toNat)
  case atStart => exact ⟨m - a, b - m, D, rfl, rfl, by omega, by omega, by omega, by omega, hS, by rw [show m - (m - a) = a by omega, show m + (b - m) = b by omega]⟩
  case round =>
    clear hS
    obtain ⟨i, j, E, rfl, rfl, hi, hj, hai, hjb, hS, hrot⟩ := hrel
    have HR := Lib.hid hrot; clear hrot
    have HS := Lib.hid hS; clear hS
    have hm := HM.out; have hmb := HB.out
    rcases (by omega : i < j ∨ j < i ∨ i = j) with hc | hc | hc
    · have b1 : ((i : Int) != (j : Int)) = true := by simp; omega
      have b2 : ¬ j < i := by omega
      have s1 := wsub m i (by omega) (by omega)
      have s2 : IntKind.i64.wrap ((m : Int) + (j : Int) - (i : Int)) = ((m + j - i : Nat) : Int) := by rw [IntWalk.i64_in _ (by omega)]; omega
      have s2a : IntKind.i64.wrap ((m : Int) + (j : Int)) = (m : Int) + (j : Int) := IntWalk.i64_in _ (by omega)
      have s3 := wsub j i (by omega) (by omega)
      have hr := rot_lt (lo := m - i) (m := m) (hi := m + j) (i := i) (j := j) (by omega) rfl hc E
      have HR2 := Lib.hid hr; clear hr
      have q1 : m - i + i ≤ m + j - i := by omega
      have q2 : m + j - i + i ≤ N := by omega
      have HQ := Lib.hid (And.intro q1 q2); clear q1 q2
      go_wp2_with (go_at_call 36; (with_reducible refine (st_swapRange W0 c0 g N cp vp vq hN _ E HS.out (m - i) (m + j - i) i HQ.out.1 HQ.out.2).mono ?_); rintro e w1 ⟨rfl, hS1⟩)
      go_roundw
      case rel => exact ⟨i, j - i, _, rfl, rfl, hi, by omega, hai, by omega, hS1, by rw [← HR.out, ← HR2.out, show m + j - i = m + (j - i) by omega]⟩
      case measure => simp [intOf]; omega
    · have b1 : ((i : Int) != (j : Int)) = true := by simp; omega
      have s1 := wsub m i (by omega) (by omega)
      have s3 := wsub i j (by omega) (by omega)
      have hr := rot_gt (lo := m - i) (m := m) (hi := m + j) (i := i) (j := j) (by omega) rfl hc E
      have HR2 := Lib.hid hr; clear hr
      have HQ : Hid (m - i + j ≤ m ∧ m + j ≤ N) := Lib.hid ⟨by omega, by omega⟩
      go_wp2_with (go_at_call 36; (with_reducible refine (st_swapRange W0 c0 g N cp vp vq hN _ E HS.out (m - i) m j HQ.out.1 HQ.out.2).mono ?_); rintro e w1 ⟨rfl, hS1⟩)
      go_roundw
      case rel => exact ⟨i - j, j, _, rfl, rfl, by omega, hj, by omega, hjb, hS1, by rw [← HR.out, ← HR2.out, show m - (i - j) = m - i + j by omega]⟩
      case measure => simp [intOf]; omega
    · subst hc
      have b1 : ((i : Int) != (i : Int)) = false := by simp
      have s1 := wsub m i (by omega) (by omega)
      have hr := rot_eq (lo := m - i) (m := m) (hi := m + i) (i := i) (by omega) (by omega) E
      have HR2 := Lib.hid hr; clear hr
      have HQ : Hid (m - i + i ≤ m ∧ m + i ≤ N) := Lib.hid ⟨by omega, by omega⟩
      go_wp2_with (go_at_call 36; (with_reducible refine (st_swapRange W0 c0 g N cp vp vq hN _ E HS.out (m - i) m i HQ.out.1 HQ.out.2).mono ?_); rintro e w1 ⟨rfl, hS1⟩)
      refine bodyPost_end (results_none rfl _ _ _) rfl ?_
      exact ⟨rfl, by rw [← HR.out, ← HR2.out]; exact hS1⟩
end
end Go.Proofs.Ytficncmomgddpaa
