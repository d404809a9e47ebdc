/- The comparison by places. -/
import Derived.Test.YtficncmomgddpaaPst
import Derived.Test.YtficncmomgddpaaPe
import Derived.WalkKit
import Derived.WalkLawsBesides
import Derived.WalkSpells
import Derived.Below
import Derived.Deep.RegionHeld3
import Derived.Deep.QuietTactic
import Derived.BigQuiet
import Derived.Deep.DeepCutAuto
import Derived.Deep.DeepMust
import Derived.KernelRfl
import Derived.Lib.Hide
import Derived.Outline
import Derived.RegionTactic
import Derived.StillTailTactics
namespace Go.Proofs.Ytficncmomgddpaa
open Go.RowKit Go.Cl
set_option maxRecDepth 100000
set_option linter.unusedVariables false
set_option linter.unusedSimpArgs false

theorem cell_heap {w w' : World} {b : Nat} (h : w'.heap[b]? = w.heap[b]?) (i : Nat) : w'.cell? ⟨b, i, none⟩ = w.cell? ⟨b, i, none⟩ := by
  unfold World.cell?; simp only [h]
/-- The cells of an entry. -/
def EnAt (w : World) (b o : Nat) (e : En) : Prop := ∀ j, j < 8 → w.cell? ⟨b, o + j, none⟩ = e.cs[j]?
theorem EnAt.of {w w' : World} {b o : Nat} {e : En} (h : EnAt w b o e) (hh : w'.heap[b]? = w.heap[b]?) : EnAt w' b o e := fun j hj => by rw [cell_heap hh]; exact h j hj
theorem EnAt.cells {w : World} {b o : Nat} {e : En} (h : EnAt w b o e) : w.cell? ⟨b, o, none⟩ = some (.string e.k) ∧ w.cell? ⟨b, o + 1, none⟩ = some (.bool e.v0) ∧ w.cell? ⟨b, o + 2, none⟩ = some (.string e.v1) ∧ w.cell? ⟨b, o + 3, none⟩ = some (.int .i64 e.l) ∧
    w.cell? ⟨b, o + 4, none⟩ = some (.int .i64 e.hi) ∧ w.cell? ⟨b, o + 5, none⟩ = some (.bool e.hot) ∧ w.cell? ⟨b, o + 6, none⟩ = some (.int .i64 e.st) ∧ w.cell? ⟨b, o + 7, none⟩ = some (.int .i64 e.ins) :=
  ⟨h 0 (by omega), h 1 (by omega), h 2 (by omega), h 3 (by omega), h 4 (by omega), h 5 (by omega), h 6 (by omega), h 7 (by omega)⟩

set_option maxHeartbeats 2000000 in
theorem pl_order (W : World) (gp gq n cp b o x y : Nat) (e f : En) (kp : hp W gp = some (.cells #[.func (.func 19) #[] #[]] 42 (0, 0))) (kq : hp W gq = some (.cells #[.slice (some ⟨b, o, none⟩) n cp] 22 (0, 0))) (hx : x < n) (hy : y < n) (hn : n ≤ 1000) (hb : b < W.heap.size)
    (he : EnAt W b (o + x * 8) e) (hf : EnAt W b (o + y * 8) f) :
    Calls Try.prog 29 #[.int .i64 (x : Int), .int .i64 (y : Int), .pointer (some ⟨gp, 0, none⟩), .pointer (some ⟨gq, 0, none⟩)] W fun r w' => r = .returned (.int .i64 (e.cmp f)) ∧ Below W.heap.size W w' := by
  have hE : ∀ w, Calls Try.prog 19 #[.agg e.cs, .agg f.cs] w fun r w' => r = .returned (.int .i64 (e.cmp f)) ∧ Below w.heap.size w w' := c_compare e f
  generalize e.cmp f = c at *
  obtain ⟨k, v0, v1, l, hi, hot, st, ins⟩ := e
  obtain ⟨k', v0', v1', l', hi', hot', st', ins'⟩ := f
  replace hE : ∀ w, Calls Try.prog 19 #[.agg #[.string k, .bool v0, .string v1, .int .i64 l, .int .i64 hi, .bool hot, .int .i64 st, .int .i64 ins], .agg #[.string k', .bool v0', .string v1', .int .i64 l', .int .i64 hi', .bool hot', .int .i64 st', .int .i64 ins']] w fun r w' => r = .returned (.int .i64 c) ∧ Below w.heap.size w w' := hE
  have HE := Lib.hid hE; clear hE
  have b1 : (x : Int) < (n : Int) := by omega
  have b2 : (y : Int) < (n : Int) := by omega
  have HX := Lib.hid he; have HY := Lib.hid hf; clear he hf
  have HBS := Lib.hid hb; clear hb
  go_enter Try.func29, Try.ntmps29
  go_wp2
  refine Ph.region_at (by kernel_rfl) ?_
  refine Ph.at_quiet 11 (by kernel_rfl) ?_
  simp only [List.take_succ_cons, List.take_zero, List.drop_succ_cons, List.drop_zero]
  repeat ((first | (apply Ph.wpPh_g; (focus (intro w1 hS0; have kp1 := hp_cell (hp_below hS0 (show hp W.drew _ = _ from kp)); have kq1 := hp_cell (hp_below hS0 (show hp W.drew _ = _ from kq)); obtain ⟨x0, x1, x2, x3, x4, x5, x6, x7⟩ := (HX.out.of (w' := w1) (hS0.block b HBS.out)).cells; obtain ⟨y0, y1, y2, y3, y4, y5, y6, y7⟩ := (HY.out.of (w' := w1) (hS0.block b HBS.out)).cells; go_simp; first | exact rfl | exact ⟨rfl, Below.refl _ _⟩ | ((with_reducible refine (HE.out _).mono ?_); rintro e w2 ⟨rfl, hb⟩; exact ⟨rfl, hb⟩))))); simp only [Act.put, List.setIfInBounds_toArray, List.set_cons_zero, List.set_cons_succ])
  refine Ph.wpPh_nil ?_; intro w9 hS9
  refine Ph.at_end (by simp) ?_
  go_wp2
  go_ret
  exact ⟨rfl, below_call (below_drew (Below.refl _ _)) hS9⟩

set_option maxHeartbeats 2000000 in
theorem pl_dem (W : World) (gp gq n cp b o x y : Nat) (e f : En) (kp : hp W gp = some (.cells #[.func (.func 21) #[] #[]] 42 (0, 0))) (kq : hp W gq = some (.cells #[.slice (some ⟨b, o, none⟩) n cp] 22 (0, 0))) (hx : x < n) (hy : y < n) (hn : n ≤ 1000) (hb : b < W.heap.size)
    (he : EnAt W b (o + x * 8) e) (hf : EnAt W b (o + y * 8) f) :
    Calls Try.prog 29 #[.int .i64 (x : Int), .int .i64 (y : Int), .pointer (some ⟨gp, 0, none⟩), .pointer (some ⟨gq, 0, none⟩)] W fun r w' => r = .returned (.int .i64 (e.dem f)) ∧ Below W.heap.size W w' := by
  have hE : ∀ w, Calls Try.prog 21 #[.agg e.cs, .agg f.cs] w fun r w' => r = .returned (.int .i64 (e.dem f)) ∧ Below w.heap.size w w' := c_dem e f
  generalize e.dem f = c at *
  obtain ⟨k, v0, v1, l, hi, hot, st, ins⟩ := e
  obtain ⟨k', v0', v1', l', hi', hot', st', ins'⟩ := f
  replace hE : ∀ w, Calls Try.prog 21 #[.agg #[.string k, .bool v0, .string v1, .int .i64 l, .int .i64 hi, .bool hot, .int .i64 st, .int .i64 ins], .agg #[.string k', .bool v0', .string v1', .int .i64 l', .int .i64 hi', .bool hot', .int .i64 st', .int .i64 ins']] w fun r w' => r = .returned (.int .i64 c) ∧ Below w.heap.size w w' := hE
  have HE := Lib.hid hE; clear hE
  have b1 : (x : Int) < (n : Int) := by omega
  have b2 : (y : Int) < (n : Int) := by omega
  have HX := Lib.hid he; have HY := Lib.hid hf; clear he hf
  have HBS := Lib.hid hb; clear hb
  go_enter Try.func29, Try.ntmps29
  go_wp2
  refine Ph.region_at (by kernel_rfl) ?_
  refine Ph.at_quiet 11 (by kernel_rfl) ?_
  simp only [List.take_succ_cons, List.take_zero, List.drop_succ_cons, List.drop_zero]
  repeat ((first | (apply Ph.wpPh_g; (focus (intro w1 hS0; have kp1 := hp_cell (hp_below hS0 (show hp W.drew _ = _ from kp)); have kq1 := hp_cell (hp_below hS0 (show hp W.drew _ = _ from kq)); obtain ⟨x0, x1, x2, x3, x4, x5, x6, x7⟩ := (HX.out.of (w' := w1) (hS0.block b HBS.out)).cells; obtain ⟨y0, y1, y2, y3, y4, y5, y6, y7⟩ := (HY.out.of (w' := w1) (hS0.block b HBS.out)).cells; go_simp; first | exact rfl | exact ⟨rfl, Below.refl _ _⟩ | ((with_reducible refine (HE.out _).mono ?_); rintro e w2 ⟨rfl, hb⟩; exact ⟨rfl, hb⟩))))); simp only [Act.put, List.setIfInBounds_toArray, List.set_cons_zero, List.set_cons_succ])
  refine Ph.wpPh_nil ?_; intro w9 hS9
  refine Ph.at_end (by simp) ?_
  go_wp2
  go_ret
  exact ⟨rfl, below_call (below_drew (Below.refl _ _)) hS9⟩
end Go.Proofs.Ytficncmomgddpaa
