/- Span: contracts of the program's and the reference's functions over int64. -/
import Derived.Test.YtplhbnehlkoedaaProg
import Derived.WalkKit
import Derived.WalkLawsBesides
import Derived.WalkSpells
import Derived.Below
import Derived.Deep.RegionHeld3
import Derived.Deep.QuietTactic
import Derived.BigQuiet
import Derived.Deep.DeepCutAuto
import Derived.KernelRfl
import Derived.Test.YtplhbnehlkoedaaPh
import Derived.Outline
import Derived.Deep.DeepMust
namespace Go.Proofs.Ytplhbnehlkoedaa
open Go.RowKit
set_option linter.unusedVariables false
set_option linter.unusedSimpArgs false

theorem max2_int (k k' : IntKind) (x y : Int) : Builtin.max2 (.int k x) (.int k' y) = pure (.int k (max x y)) := by
  have e : max x y = if x < y then y else x := by split <;> omega
  simp only [Builtin.max2, gt_iff_lt, e]
theorem min2_int (k k' : IntKind) (x y : Int) : Builtin.min2 (.int k x) (.int k' y) = pure (.int k (min x y)) := by
  have e : min x y = if y < x then y else x := by split <;> omega
  simp only [Builtin.min2, e]
theorem max_two (ats : Array TypeId) (ty : TypeId) (a b : Value) : Builtin.max_ ats ty #[a, b] = (Builtin.max2 a b >>= fun s => pure s) := by simp only [Builtin.max_, List.foldlM_cons, List.foldlM_nil]
theorem min_two (ats : Array TypeId) (ty : TypeId) (a b : Value) : Builtin.min_ ats ty #[a, b] = (Builtin.min2 a b >>= fun s => pure s) := by simp only [Builtin.min_, List.foldlM_cons, List.foldlM_nil]
attribute [local go_sem] max2_int min2_int max_two min_two

theorem bcell {W w1 : World} (hb : Below W.heap.size W w1) : (∀ b o, b < W.heap.size → w1.cell? ⟨b, o, none⟩ = W.cell? ⟨b, o, none⟩) ∧ (∀ b o, b < W.heap.size → w1.frozen? ⟨b, o, none⟩ = W.frozen? ⟨b, o, none⟩) :=
  ⟨fun b o h => hb.cell (p := ⟨b, o, none⟩) h, fun b o h => hb.frozen (p := ⟨b, o, none⟩) h⟩
theorem below_call {w W w1 : World} (h : Below w.heap.size w W) (hb : Below W.heap.size W w1) : Below w.heap.size w w1 := h.trans (hb.mono h.size)
theorem below_alloc {w W : World} (h : Below w.heap.size w W) (o : Obj) : Below w.heap.size w (W.alloc o) := h.alloc h.size o
theorem below_drew {B : Nat} {w W : World} (h : Below B w W) : Below B w W.drew := ⟨h.os, h.tape, h.output, h.size, h.block⟩
theorem below_drewN {B : Nat} {w W : World} (h : Below B w W) (n : Nat) : Below B w (W.drewN n) := ⟨h.os, h.tape, h.output, h.size, h.block⟩
theorem below_set {w W : World} (h : Below w.heap.size w W) {p : Addr} (hp : w.heap.size ≤ p.block) (u : Value) : Below w.heap.size w (W.setCell p u) := h.setCell hp u

/-- One contract form: v is returned, and nothing that was there has turned. -/
def Ret (v : Value) (w : World) (e : Ending) (w' : World) : Prop := e = .returned v ∧ Below w.heap.size w w'

/-- What lies in block g. -/
def hp (w : World) (g : Nat) : Option Obj := w.heap[g]?
def cset (i : Nat) (u : Value) : Obj → Obj
  | .cells c e f => .cells (c.setIfInBounds i u) e f
  | o => o
theorem cset_cells (i : Nat) (u : Value) (c : Array Value) (e : TypeId) (f : Nat × Nat) : cset i u (.cells c e f) = .cells (c.setIfInBounds i u) e f := rfl
theorem hp_alloc (w : World) (o : Obj) (k : Nat) : hp (w.alloc o) k = if k = w.heap.size then some o else hp w k := by
  show (w.heap.push o)[k]? = _
  rw [Array.getElem?_push]; rfl
theorem hp_set (w : World) (g i : Nat) (u : Value) (k : Nat) : hp (w.setCell ⟨g, i, none⟩ u) k = if k = g then (hp w k).map (cset i u) else hp w k := by
  unfold hp
  simp only [World.setCell, Array.getElem?_modify, Option.isSome_none, Bool.false_eq_true, if_false]
  by_cases h : g = k
  · subst h; simp only [if_true]; rfl
  · rw [if_neg h, if_neg (fun e => h e.symm)]
theorem hp_drew (w : World) (k : Nat) : hp w.drew k = hp w k := rfl
theorem hp_drewN (w : World) (n k : Nat) : hp (w.drewN n) k = hp w k := rfl
theorem klt {w : World} {g : Nat} {x : Obj} (h : hp w g = some x) : g < w.heap.size := (Array.getElem?_eq_some_iff.1 h).1
theorem kblk {W w1 : World} (hb : Below W.heap.size W w1) {g : Nat} {x : Obj} (h : hp W g = some x) : hp w1 g = some x := by
  unfold hp; rw [hb.block g (klt h)]; exact h
theorem kcell {w : World} {g : Nat} {t : TypeId} {cs : Array Value} {fr : Nat × Nat} (h : hp w g = some (.cells cs t fr)) (i : Nat) : w.cell? ⟨g, i, none⟩ = cs[i]? := by
  unfold hp at h; simp [World.cell?, h]
theorem kfree {w : World} {g : Nat} {t : TypeId} {cs : Array Value} (h : hp w g = some (.cells cs t (0, 0))) (i : Nat) : w.frozen? ⟨g, i, none⟩ = false := by
  unfold hp at h; simp [World.frozen?, h]
theorem ne_2 (n : Nat) : (n = n + 1 + 1) = False := eq_false (by omega)
theorem ne_3 (n : Nat) : (n = n + 1 + 1 + 1) = False := eq_false (by omega)
theorem ne_4 (n : Nat) : (n = n + 1 + 1 + 1 + 1) = False := eq_false (by omega)
theorem ne_5 (n : Nat) : (n = n + 1 + 1 + 1 + 1 + 1) = False := eq_false (by omega)
theorem en_2 (n : Nat) : (n + 1 + 1 = n) = False := eq_false (by omega)
theorem en_3 (n : Nat) : (n + 1 + 1 + 1 = n) = False := eq_false (by omega)
theorem en_4 (n : Nat) : (n + 1 + 1 + 1 + 1 = n) = False := eq_false (by omega)
theorem en_5 (n : Nat) : (n + 1 + 1 + 1 + 1 + 1 = n) = False := eq_false (by omega)
attribute [local simp, local go_sem] ne_2 ne_3 ne_4 ne_5 en_2 en_3 en_4 en_5
theorem ok_ite (c : Prop) [Decidable c] (x y : Value) (w : World) : (if c then Result.ok (Next.value x) w else Result.ok (Next.value y) w) = Result.ok (Next.value (if c then x else y)) w := by split <;> rfl


def ofS (lo hi : Int) : Int × Int := if lo < hi then (lo, hi) else (0, 0)
theorem ofS_pos {a b : Int} (h : a < b) : ofS a b = (a, b) := if_pos h
theorem ofS_neg {a b : Int} (h : b ≤ a) : ofS a b = (0, 0) := if_neg (by omega)
def meetS (a b c d : Int) : Int × Int := ofS (max a c) (min b d)
def emptyB (a b : Int) : Bool := decide (b ≤ a)
def hullS (a b c d : Int) : Int × Int := if emptyB a b then ofS c d else if emptyB c d then (a, b) else ofS (min a c) (max b d)
def hasB (a b x : Int) : Bool := decide (a ≤ x) && decide (x < b)
def meetsB (a b c d : Int) : Bool := !emptyB a b && !emptyB c d && !emptyB (meetS a b c d).1 (meetS a b c d).2
def touchesB (a b c d : Int) : Bool := emptyB a b || emptyB c d || (decide (a ≤ d) && decide (c ≤ b))
def withinB (a b c d : Int) : Bool := emptyB a b || (decide (c ≤ a) && decide (b ≤ d))
def cutL (a b c d : Int) : Int × Int := if emptyB c d then ofS a b else ofS a (min b c)
def cutR (a b c d : Int) : Int × Int := if emptyB c d then (0, 0) else ofS (max a d) b

set_option maxHeartbeats 2000000 in
theorem of64 (a b : Int) (w : World) :
    Calls Try.prog 13 #[.int .i64 a, .int .i64 b] w fun e w' => e = .returned (.agg #[.int .i64 (ofS a b).1, .int .i64 (ofS a b).2]) ∧ Below w.heap.size w w' := by
  by_cases h0 : a < b
  · have g0 : ¬ b ≤ a := by omega
    go_enter Try.func13, Try.ntmps13
    go_upto_region 1 with fail
    refine Ph.at_world ?_; intro W1 hW
    have qr : hp W1 w.heap.size = some (.cells #[.int .i64 0, .int .i64 0] 25 (0, 0)) := by rw [hW]; simp [hp_alloc, hp_set, hp_drew, hp_drewN, cset_cells]
    have HB : Below w.heap.size w W1 := by rw [hW]; (repeat (first | assumption | exact Below.refl _ _ | (refine below_call ?_ (by assumption)) | apply below_alloc | apply below_drew | apply below_drewN | (refine below_set ?_ (by first | (simp; done) | (simp; omega) | omega) _)))
    clear hW
    have kr := qr; clear qr; have cr := kcell kr; have fr := kfree kr
    go_wp2_with fail
    all_goals try go_wp2
    all_goals refine bodyPost_ret (v := .agg #[.int .i64 (ofS a b).1, .int .i64 (ofS a b).2]) (by simp [results, Try.results13, go_sem, ofS_pos, ofS_neg, *]) rfl ⟨?_, by (repeat (first | assumption | exact Below.refl _ _ | (refine below_call ?_ (by assumption)) | apply below_alloc | apply below_drew | apply below_drewN | (refine below_set ?_ (by first | (simp; done) | (simp; omega) | omega) _)))⟩
    all_goals (first | rfl | (simp [ofS_pos, ofS_neg, *]; done))
  · have g0 : b ≤ a := by omega
    go_enter Try.func13, Try.ntmps13
    go_upto_region 1 with fail
    refine Ph.at_world ?_; intro W1 hW
    have qr : hp W1 w.heap.size = some (.cells #[.int .i64 0, .int .i64 0] 25 (0, 0)) := by rw [hW]; simp [hp_alloc, hp_set, hp_drew, hp_drewN, cset_cells]
    have HB : Below w.heap.size w W1 := by rw [hW]; (repeat (first | assumption | exact Below.refl _ _ | (refine below_call ?_ (by assumption)) | apply below_alloc | apply below_drew | apply below_drewN | (refine below_set ?_ (by first | (simp; done) | (simp; omega) | omega) _)))
    clear hW
    have kr := qr; clear qr; have cr := kcell kr; have fr := kfree kr
    go_wp2_with fail
    all_goals try go_wp2
    all_goals refine bodyPost_ret (v := .agg #[.int .i64 (ofS a b).1, .int .i64 (ofS a b).2]) (by simp [results, Try.results13, go_sem, ofS_pos, ofS_neg, *]) rfl ⟨?_, by (repeat (first | assumption | exact Below.refl _ _ | (refine below_call ?_ (by assumption)) | apply below_alloc | apply below_drew | apply below_drewN | (refine below_set ?_ (by first | (simp; done) | (simp; omega) | omega) _)))⟩
    all_goals (first | rfl | (simp [ofS_pos, ofS_neg, *]; done))

set_option maxHeartbeats 2000000 in
theorem empty64 (a b : Int) (w : World) :
    Calls Try.prog 15 #[.agg #[.int .i64 a, .int .i64 b]] w fun e w' => e = .returned (.bool (emptyB a b)) ∧ Below w.heap.size w w' := by
  go_enter Try.func15, Try.ntmps15
  go_upto_region 1 with fail
  refine Ph.at_world ?_; intro W1 hW
  have q0 : hp W1 w.heap.size = some (.cells #[.int .i64 a, .int .i64 b] 25 (0, 0)) := by rw [hW]; simp [hp_alloc, hp_set, hp_drew, hp_drewN, cset_cells]
  have HB : Below w.heap.size w W1 := by rw [hW]; (repeat (first | assumption | exact Below.refl _ _ | (refine below_call ?_ (by assumption)) | apply below_alloc | apply below_drew | apply below_drewN | (refine below_set ?_ (by first | (simp; done) | (simp; omega) | omega) _)))
  clear hW
  have k0 := q0; clear q0; have c0 := kcell k0; have f0 := kfree k0
  go_wp2_with fail
  all_goals (go_ret; exact ⟨by first | rfl | (simp [emptyB, *]; done) | (simp [emptyB]; omega) | (simp [emptyB, *]; omega), by (repeat (first | assumption | exact Below.refl _ _ | (refine below_call ?_ (by assumption)) | apply below_alloc | apply below_drew | apply below_drewN | (refine below_set ?_ (by first | (simp; done) | (simp; omega) | omega) _)))⟩)

set_option maxHeartbeats 2000000 in
theorem has64 (a b x : Int) (w : World) :
    Calls Try.prog 18 #[.agg #[.int .i64 a, .int .i64 b], .int .i64 x] w fun e w' => e = .returned (.bool (hasB a b x)) ∧ Below w.heap.size w w' := by
  by_cases h0 : a ≤ x
  · have g0 : ¬ x < a := by omega
    go_enter Try.func18, Try.ntmps18
    go_upto_region 1 with fail
    refine Ph.at_world ?_; intro W1 hW
    have q0 : hp W1 w.heap.size = some (.cells #[.int .i64 a, .int .i64 b] 25 (0, 0)) := by rw [hW]; simp [hp_alloc, hp_set, hp_drew, hp_drewN, cset_cells]
    have HB : Below w.heap.size w W1 := by rw [hW]; (repeat (first | assumption | exact Below.refl _ _ | (refine below_call ?_ (by assumption)) | apply below_alloc | apply below_drew | apply below_drewN | (refine below_set ?_ (by first | (simp; done) | (simp; omega) | omega) _)))
    clear hW
    have k0 := q0; clear q0; have c0 := kcell k0; have f0 := kfree k0
    go_wp2_with fail
    all_goals (go_ret; exact ⟨by first | rfl | (simp [hasB, *]; done) | (simp [hasB]; omega) | (simp [hasB, *]; omega), by (repeat (first | assumption | exact Below.refl _ _ | (refine below_call ?_ (by assumption)) | apply below_alloc | apply below_drew | apply below_drewN | (refine below_set ?_ (by first | (simp; done) | (simp; omega) | omega) _)))⟩)
  · have g0 : x < a := by omega
    go_enter Try.func18, Try.ntmps18
    go_upto_region 1 with fail
    refine Ph.at_world ?_; intro W1 hW
    have q0 : hp W1 w.heap.size = some (.cells #[.int .i64 a, .int .i64 b] 25 (0, 0)) := by rw [hW]; simp [hp_alloc, hp_set, hp_drew, hp_drewN, cset_cells]
    have HB : Below w.heap.size w W1 := by rw [hW]; (repeat (first | assumption | exact Below.refl _ _ | (refine below_call ?_ (by assumption)) | apply below_alloc | apply below_drew | apply below_drewN | (refine below_set ?_ (by first | (simp; done) | (simp; omega) | omega) _)))
    clear hW
    have k0 := q0; clear q0; have c0 := kcell k0; have f0 := kfree k0
    go_wp2_with fail
    all_goals (go_ret; exact ⟨by first | rfl | (simp [hasB, *]; done) | (simp [hasB]; omega) | (simp [hasB, *]; omega), by (repeat (first | assumption | exact Below.refl _ _ | (refine below_call ?_ (by assumption)) | apply below_alloc | apply below_drew | apply below_drewN | (refine below_set ?_ (by first | (simp; done) | (simp; omega) | omega) _)))⟩)

set_option maxHeartbeats 2000000 in
theorem meet64 (a b c d : Int) (w : World) :
    Calls Try.prog 32 #[.agg #[.int .i64 a, .int .i64 b], .agg #[.int .i64 c, .int .i64 d]] w fun e w' => e = .returned (.agg #[.int .i64 (meetS a b c d).1, .int .i64 (meetS a b c d).2]) ∧ Below w.heap.size w w' := by
  go_enter Try.func32, Try.ntmps32
  go_upto_region 1 with fail
  refine Ph.at_world ?_; intro W1 hW
  have q0 : hp W1 w.heap.size = some (.cells #[.int .i64 a, .int .i64 b] 25 (0, 0)) := by rw [hW]; simp [hp_alloc, hp_set, hp_drew, hp_drewN, cset_cells]
  have q1 : hp W1 (w.heap.size + 1) = some (.cells #[.int .i64 c, .int .i64 d] 25 (0, 0)) := by rw [hW]; simp [hp_alloc, hp_set, hp_drew, hp_drewN, cset_cells]
  have qr0 : hp W1 (w.heap.size + 1 + 1) = some (.cells #[.int .i64 0, .int .i64 0] 25 (0, 0)) := by rw [hW]; simp [hp_alloc, hp_set, hp_drew, hp_drewN, cset_cells]
  have HB : Below w.heap.size w W1 := by rw [hW]; (repeat (first | assumption | exact Below.refl _ _ | (refine below_call ?_ (by assumption)) | apply below_alloc | apply below_drew | apply below_drewN | (refine below_set ?_ (by first | (simp; done) | (simp; omega) | omega) _)))
  clear hW
  have k0 := q0; clear q0; have c0 := kcell k0; have f0 := kfree k0
  have k1 := q1; clear q1; have c1 := kcell k1; have f1 := kfree k1
  have kr0 := qr0; clear qr0; have cr0 := kcell kr0; have fr0 := kfree kr0
  go_wp2_with (first | (go_at_call 13; refine (of64 _ _ _).mono ?_; rintro e w1 ⟨rfl, hb⟩; replace HB := below_call (by first | exact HB | (repeat (first | assumption | exact Below.refl _ _ | (refine below_call ?_ (by assumption)) | apply below_alloc | apply below_drew | apply below_drewN | (refine below_set ?_ (by first | (simp; done) | (simp; omega) | omega) _)))) hb; replace k0 : hp _ w.heap.size = some (.cells #[.int .i64 a, .int .i64 b] 25 (0, 0)) := kblk hb (by first | exact k0 | (simp [hp_alloc, hp_set, hp_drew, hp_drewN, cset_cells, k0, k1, kr0]; done)); replace k1 : hp _ (w.heap.size + 1) = some (.cells #[.int .i64 c, .int .i64 d] 25 (0, 0)) := kblk hb (by first | exact k1 | (simp [hp_alloc, hp_set, hp_drew, hp_drewN, cset_cells, k0, k1, kr0]; done)); replace kr0 : hp _ (w.heap.size + 1 + 1) = some (.cells #[.int .i64 0, .int .i64 0] 25 (0, 0)) := kblk hb (by first | exact kr0 | (simp [hp_alloc, hp_set, hp_drew, hp_drewN, cset_cells, k0, k1, kr0]; done)); replace c0 := kcell k0; replace f0 := kfree k0; replace c1 := kcell k1; replace f1 := kfree k1; replace cr0 := kcell kr0; replace fr0 := kfree kr0))
  all_goals try go_wp2
  all_goals refine bodyPost_ret (v := .agg #[.int .i64 (meetS a b c d).1, .int .i64 (meetS a b c d).2]) (by simp [results, Try.results32, go_sem, meetS, *]) rfl ⟨?_, by (repeat (first | assumption | exact Below.refl _ _ | (refine below_call ?_ (by assumption)) | apply below_alloc | apply below_drew | apply below_drewN | (refine below_set ?_ (by first | (simp; done) | (simp; omega) | omega) _)))⟩
  all_goals (first | rfl | (simp [meetS, *]; done))

set_option maxHeartbeats 2000000 in
theorem meets64 (a b c d : Int) (w : World) :
    Calls Try.prog 34 #[.agg #[.int .i64 a, .int .i64 b], .agg #[.int .i64 c, .int .i64 d]] w fun e w' => e = .returned (.bool (meetsB a b c d)) ∧ Below w.heap.size w w' := by
  cases h0 : emptyB a b
  · skip
    cases h1 : emptyB c d
    · skip
      go_enter Try.func34, Try.ntmps34
      go_upto_region 1 with fail
      refine Ph.at_world ?_; intro W1 hW
      have q0 : hp W1 w.heap.size = some (.cells #[.int .i64 a, .int .i64 b] 25 (0, 0)) := by rw [hW]; simp [hp_alloc, hp_set, hp_drew, hp_drewN, cset_cells]
      have q1 : hp W1 (w.heap.size + 1) = some (.cells #[.int .i64 c, .int .i64 d] 25 (0, 0)) := by rw [hW]; simp [hp_alloc, hp_set, hp_drew, hp_drewN, cset_cells]
      have HB : Below w.heap.size w W1 := by rw [hW]; (repeat (first | assumption | exact Below.refl _ _ | (refine below_call ?_ (by assumption)) | apply below_alloc | apply below_drew | apply below_drewN | (refine below_set ?_ (by first | (simp; done) | (simp; omega) | omega) _)))
      clear hW
      have k0 := q0; clear q0; have c0 := kcell k0; have f0 := kfree k0
      have k1 := q1; clear q1; have c1 := kcell k1; have f1 := kfree k1
      go_wp2_with (first | (go_at_call 15; refine (empty64 _ _ _).mono ?_; rintro e w1 ⟨rfl, hb⟩; replace HB := below_call (by first | exact HB | (repeat (first | assumption | exact Below.refl _ _ | (refine below_call ?_ (by assumption)) | apply below_alloc | apply below_drew | apply below_drewN | (refine below_set ?_ (by first | (simp; done) | (simp; omega) | omega) _)))) hb; replace k0 : hp _ w.heap.size = some (.cells #[.int .i64 a, .int .i64 b] 25 (0, 0)) := kblk hb (by first | exact k0 | (simp [hp_alloc, hp_set, hp_drew, hp_drewN, cset_cells, k0, k1]; done)); replace k1 : hp _ (w.heap.size + 1) = some (.cells #[.int .i64 c, .int .i64 d] 25 (0, 0)) := kblk hb (by first | exact k1 | (simp [hp_alloc, hp_set, hp_drew, hp_drewN, cset_cells, k0, k1]; done)); replace c0 := kcell k0; replace f0 := kfree k0; replace c1 := kcell k1; replace f1 := kfree k1) | (go_at_call 32; refine (meet64 _ _ _ _ _).mono ?_; rintro e w1 ⟨rfl, hb⟩; replace HB := below_call (by first | exact HB | (repeat (first | assumption | exact Below.refl _ _ | (refine below_call ?_ (by assumption)) | apply below_alloc | apply below_drew | apply below_drewN | (refine below_set ?_ (by first | (simp; done) | (simp; omega) | omega) _)))) hb; replace k0 : hp _ w.heap.size = some (.cells #[.int .i64 a, .int .i64 b] 25 (0, 0)) := kblk hb (by first | exact k0 | (simp [hp_alloc, hp_set, hp_drew, hp_drewN, cset_cells, k0, k1]; done)); replace k1 : hp _ (w.heap.size + 1) = some (.cells #[.int .i64 c, .int .i64 d] 25 (0, 0)) := kblk hb (by first | exact k1 | (simp [hp_alloc, hp_set, hp_drew, hp_drewN, cset_cells, k0, k1]; done)); replace c0 := kcell k0; replace f0 := kfree k0; replace c1 := kcell k1; replace f1 := kfree k1))
      all_goals (go_ret; exact ⟨by first | rfl | (simp [meetsB, *]; done) | (simp [meetsB]; omega) | (simp [meetsB, *]; omega), by (repeat (first | assumption | exact Below.refl _ _ | (refine below_call ?_ (by assumption)) | apply below_alloc | apply below_drew | apply below_drewN | (refine below_set ?_ (by first | (simp; done) | (simp; omega) | omega) _)))⟩)
    · skip
      go_enter Try.func34, Try.ntmps34
      go_upto_region 1 with fail
      refine Ph.at_world ?_; intro W1 hW
      have q0 : hp W1 w.heap.size = some (.cells #[.int .i64 a, .int .i64 b] 25 (0, 0)) := by rw [hW]; simp [hp_alloc, hp_set, hp_drew, hp_drewN, cset_cells]
      have q1 : hp W1 (w.heap.size + 1) = some (.cells #[.int .i64 c, .int .i64 d] 25 (0, 0)) := by rw [hW]; simp [hp_alloc, hp_set, hp_drew, hp_drewN, cset_cells]
      have HB : Below w.heap.size w W1 := by rw [hW]; (repeat (first | assumption | exact Below.refl _ _ | (refine below_call ?_ (by assumption)) | apply below_alloc | apply below_drew | apply below_drewN | (refine below_set ?_ (by first | (simp; done) | (simp; omega) | omega) _)))
      clear hW
      have k0 := q0; clear q0; have c0 := kcell k0; have f0 := kfree k0
      have k1 := q1; clear q1; have c1 := kcell k1; have f1 := kfree k1
      go_wp2_with (first | (go_at_call 15; refine (empty64 _ _ _).mono ?_; rintro e w1 ⟨rfl, hb⟩; replace HB := below_call (by first | exact HB | (repeat (first | assumption | exact Below.refl _ _ | (refine below_call ?_ (by assumption)) | apply below_alloc | apply below_drew | apply below_drewN | (refine below_set ?_ (by first | (simp; done) | (simp; omega) | omega) _)))) hb; replace k0 : hp _ w.heap.size = some (.cells #[.int .i64 a, .int .i64 b] 25 (0, 0)) := kblk hb (by first | exact k0 | (simp [hp_alloc, hp_set, hp_drew, hp_drewN, cset_cells, k0, k1]; done)); replace k1 : hp _ (w.heap.size + 1) = some (.cells #[.int .i64 c, .int .i64 d] 25 (0, 0)) := kblk hb (by first | exact k1 | (simp [hp_alloc, hp_set, hp_drew, hp_drewN, cset_cells, k0, k1]; done)); replace c0 := kcell k0; replace f0 := kfree k0; replace c1 := kcell k1; replace f1 := kfree k1) | (go_at_call 32; refine (meet64 _ _ _ _ _).mono ?_; rintro e w1 ⟨rfl, hb⟩; replace HB := below_call (by first | exact HB | (repeat (first | assumption | exact Below.refl _ _ | (refine below_call ?_ (by assumption)) | apply below_alloc | apply below_drew | apply below_drewN | (refine below_set ?_ (by first | (simp; done) | (simp; omega) | omega) _)))) hb; replace k0 : hp _ w.heap.size = some (.cells #[.int .i64 a, .int .i64 b] 25 (0, 0)) := kblk hb (by first | exact k0 | (simp [hp_alloc, hp_set, hp_drew, hp_drewN, cset_cells, k0, k1]; done)); replace k1 : hp _ (w.heap.size + 1) = some (.cells #[.int .i64 c, .int .i64 d] 25 (0, 0)) := kblk hb (by first | exact k1 | (simp [hp_alloc, hp_set, hp_drew, hp_drewN, cset_cells, k0, k1]; done)); replace c0 := kcell k0; replace f0 := kfree k0; replace c1 := kcell k1; replace f1 := kfree k1))
      all_goals (go_ret; exact ⟨by first | rfl | (simp [meetsB, *]; done) | (simp [meetsB]; omega) | (simp [meetsB, *]; omega), by (repeat (first | assumption | exact Below.refl _ _ | (refine below_call ?_ (by assumption)) | apply below_alloc | apply below_drew | apply below_drewN | (refine below_set ?_ (by first | (simp; done) | (simp; omega) | omega) _)))⟩)
  · skip
    cases h1 : emptyB c d
    · skip
      go_enter Try.func34, Try.ntmps34
      go_upto_region 1 with fail
      refine Ph.at_world ?_; intro W1 hW
      have q0 : hp W1 w.heap.size = some (.cells #[.int .i64 a, .int .i64 b] 25 (0, 0)) := by rw [hW]; simp [hp_alloc, hp_set, hp_drew, hp_drewN, cset_cells]
      have q1 : hp W1 (w.heap.size + 1) = some (.cells #[.int .i64 c, .int .i64 d] 25 (0, 0)) := by rw [hW]; simp [hp_alloc, hp_set, hp_drew, hp_drewN, cset_cells]
      have HB : Below w.heap.size w W1 := by rw [hW]; (repeat (first | assumption | exact Below.refl _ _ | (refine below_call ?_ (by assumption)) | apply below_alloc | apply below_drew | apply below_drewN | (refine below_set ?_ (by first | (simp; done) | (simp; omega) | omega) _)))
      clear hW
      have k0 := q0; clear q0; have c0 := kcell k0; have f0 := kfree k0
      have k1 := q1; clear q1; have c1 := kcell k1; have f1 := kfree k1
      go_wp2_with (first | (go_at_call 15; refine (empty64 _ _ _).mono ?_; rintro e w1 ⟨rfl, hb⟩; replace HB := below_call (by first | exact HB | (repeat (first | assumption | exact Below.refl _ _ | (refine below_call ?_ (by assumption)) | apply below_alloc | apply below_drew | apply below_drewN | (refine below_set ?_ (by first | (simp; done) | (simp; omega) | omega) _)))) hb; replace k0 : hp _ w.heap.size = some (.cells #[.int .i64 a, .int .i64 b] 25 (0, 0)) := kblk hb (by first | exact k0 | (simp [hp_alloc, hp_set, hp_drew, hp_drewN, cset_cells, k0, k1]; done)); replace k1 : hp _ (w.heap.size + 1) = some (.cells #[.int .i64 c, .int .i64 d] 25 (0, 0)) := kblk hb (by first | exact k1 | (simp [hp_alloc, hp_set, hp_drew, hp_drewN, cset_cells, k0, k1]; done)); replace c0 := kcell k0; replace f0 := kfree k0; replace c1 := kcell k1; replace f1 := kfree k1) | (go_at_call 32; refine (meet64 _ _ _ _ _).mono ?_; rintro e w1 ⟨rfl, hb⟩; replace HB := below_call (by first | exact HB | (repeat (first | assumption | exact Below.refl _ _ | (refine below_call ?_ (by assumption)) | apply below_alloc | apply below_drew | apply below_drewN | (refine below_set ?_ (by first | (simp; done) | (simp; omega) | omega) _)))) hb; replace k0 : hp _ w.heap.size = some (.cells #[.int .i64 a, .int .i64 b] 25 (0, 0)) := kblk hb (by first | exact k0 | (simp [hp_alloc, hp_set, hp_drew, hp_drewN, cset_cells, k0, k1]; done)); replace k1 : hp _ (w.heap.size + 1) = some (.cells #[.int .i64 c, .int .i64 d] 25 (0, 0)) := kblk hb (by first | exact k1 | (simp [hp_alloc, hp_set, hp_drew, hp_drewN, cset_cells, k0, k1]; done)); replace c0 := kcell k0; replace f0 := kfree k0; replace c1 := kcell k1; replace f1 := kfree k1))
      all_goals (go_ret; exact ⟨by first | rfl | (simp [meetsB, *]; done) | (simp [meetsB]; omega) | (simp [meetsB, *]; omega), by (repeat (first | assumption | exact Below.refl _ _ | (refine below_call ?_ (by assumption)) | apply below_alloc | apply below_drew | apply below_drewN | (refine below_set ?_ (by first | (simp; done) | (simp; omega) | omega) _)))⟩)
    · skip
      go_enter Try.func34, Try.ntmps34
      go_upto_region 1 with fail
      refine Ph.at_world ?_; intro W1 hW
      have q0 : hp W1 w.heap.size = some (.cells #[.int .i64 a, .int .i64 b] 25 (0, 0)) := by rw [hW]; simp [hp_alloc, hp_set, hp_drew, hp_drewN, cset_cells]
      have q1 : hp W1 (w.heap.size + 1) = some (.cells #[.int .i64 c, .int .i64 d] 25 (0, 0)) := by rw [hW]; simp [hp_alloc, hp_set, hp_drew, hp_drewN, cset_cells]
      have HB : Below w.heap.size w W1 := by rw [hW]; (repeat (first | assumption | exact Below.refl _ _ | (refine below_call ?_ (by assumption)) | apply below_alloc | apply below_drew | apply below_drewN | (refine below_set ?_ (by first | (simp; done) | (simp; omega) | omega) _)))
      clear hW
      have k0 := q0; clear q0; have c0 := kcell k0; have f0 := kfree k0
      have k1 := q1; clear q1; have c1 := kcell k1; have f1 := kfree k1
      go_wp2_with (first | (go_at_call 15; refine (empty64 _ _ _).mono ?_; rintro e w1 ⟨rfl, hb⟩; replace HB := below_call (by first | exact HB | (repeat (first | assumption | exact Below.refl _ _ | (refine below_call ?_ (by assumption)) | apply below_alloc | apply below_drew | apply below_drewN | (refine below_set ?_ (by first | (simp; done) | (simp; omega) | omega) _)))) hb; replace k0 : hp _ w.heap.size = some (.cells #[.int .i64 a, .int .i64 b] 25 (0, 0)) := kblk hb (by first | exact k0 | (simp [hp_alloc, hp_set, hp_drew, hp_drewN, cset_cells, k0, k1]; done)); replace k1 : hp _ (w.heap.size + 1) = some (.cells #[.int .i64 c, .int .i64 d] 25 (0, 0)) := kblk hb (by first | exact k1 | (simp [hp_alloc, hp_set, hp_drew, hp_drewN, cset_cells, k0, k1]; done)); replace c0 := kcell k0; replace f0 := kfree k0; replace c1 := kcell k1; replace f1 := kfree k1) | (go_at_call 32; refine (meet64 _ _ _ _ _).mono ?_; rintro e w1 ⟨rfl, hb⟩; replace HB := below_call (by first | exact HB | (repeat (first | assumption | exact Below.refl _ _ | (refine below_call ?_ (by assumption)) | apply below_alloc | apply below_drew | apply below_drewN | (refine below_set ?_ (by first | (simp; done) | (simp; omega) | omega) _)))) hb; replace k0 : hp _ w.heap.size = some (.cells #[.int .i64 a, .int .i64 b] 25 (0, 0)) := kblk hb (by first | exact k0 | (simp [hp_alloc, hp_set, hp_drew, hp_drewN, cset_cells, k0, k1]; done)); replace k1 : hp _ (w.heap.size + 1) = some (.cells #[.int .i64 c, .int .i64 d] 25 (0, 0)) := kblk hb (by first | exact k1 | (simp [hp_alloc, hp_set, hp_drew, hp_drewN, cset_cells, k0, k1]; done)); replace c0 := kcell k0; replace f0 := kfree k0; replace c1 := kcell k1; replace f1 := kfree k1))
      all_goals (go_ret; exact ⟨by first | rfl | (simp [meetsB, *]; done) | (simp [meetsB]; omega) | (simp [meetsB, *]; omega), by (repeat (first | assumption | exact Below.refl _ _ | (refine below_call ?_ (by assumption)) | apply below_alloc | apply below_drew | apply below_drewN | (refine below_set ?_ (by first | (simp; done) | (simp; omega) | omega) _)))⟩)

set_option maxHeartbeats 2000000 in
theorem within64 (a b c d : Int) (w : World) :
    Calls Try.prog 36 #[.agg #[.int .i64 a, .int .i64 b], .agg #[.int .i64 c, .int .i64 d]] w fun e w' => e = .returned (.bool (withinB a b c d)) ∧ Below w.heap.size w w' := by
  cases h0 : emptyB a b
  · skip
    by_cases h1 : c ≤ a
    · have g1 : ¬ a < c := by omega
      go_enter Try.func36, Try.ntmps36
      go_upto_region 1 with fail
      refine Ph.at_world ?_; intro W1 hW
      have q0 : hp W1 w.heap.size = some (.cells #[.int .i64 a, .int .i64 b] 25 (0, 0)) := by rw [hW]; simp [hp_alloc, hp_set, hp_drew, hp_drewN, cset_cells]
      have q1 : hp W1 (w.heap.size + 1) = some (.cells #[.int .i64 c, .int .i64 d] 25 (0, 0)) := by rw [hW]; simp [hp_alloc, hp_set, hp_drew, hp_drewN, cset_cells]
      have HB : Below w.heap.size w W1 := by rw [hW]; (repeat (first | assumption | exact Below.refl _ _ | (refine below_call ?_ (by assumption)) | apply below_alloc | apply below_drew | apply below_drewN | (refine below_set ?_ (by first | (simp; done) | (simp; omega) | omega) _)))
      clear hW
      have k0 := q0; clear q0; have c0 := kcell k0; have f0 := kfree k0
      have k1 := q1; clear q1; have c1 := kcell k1; have f1 := kfree k1
      go_wp2_with (first | (go_at_call 15; refine (empty64 _ _ _).mono ?_; rintro e w1 ⟨rfl, hb⟩; replace HB := below_call (by first | exact HB | (repeat (first | assumption | exact Below.refl _ _ | (refine below_call ?_ (by assumption)) | apply below_alloc | apply below_drew | apply below_drewN | (refine below_set ?_ (by first | (simp; done) | (simp; omega) | omega) _)))) hb; replace k0 : hp _ w.heap.size = some (.cells #[.int .i64 a, .int .i64 b] 25 (0, 0)) := kblk hb (by first | exact k0 | (simp [hp_alloc, hp_set, hp_drew, hp_drewN, cset_cells, k0, k1]; done)); replace k1 : hp _ (w.heap.size + 1) = some (.cells #[.int .i64 c, .int .i64 d] 25 (0, 0)) := kblk hb (by first | exact k1 | (simp [hp_alloc, hp_set, hp_drew, hp_drewN, cset_cells, k0, k1]; done)); replace c0 := kcell k0; replace f0 := kfree k0; replace c1 := kcell k1; replace f1 := kfree k1))
      all_goals (go_ret; exact ⟨by first | rfl | (simp [withinB, *]; done) | (simp [withinB]; omega) | (simp [withinB, *]; omega), by (repeat (first | assumption | exact Below.refl _ _ | (refine below_call ?_ (by assumption)) | apply below_alloc | apply below_drew | apply below_drewN | (refine below_set ?_ (by first | (simp; done) | (simp; omega) | omega) _)))⟩)
    · have g1 : a < c := by omega
      go_enter Try.func36, Try.ntmps36
      go_upto_region 1 with fail
      refine Ph.at_world ?_; intro W1 hW
      have q0 : hp W1 w.heap.size = some (.cells #[.int .i64 a, .int .i64 b] 25 (0, 0)) := by rw [hW]; simp [hp_alloc, hp_set, hp_drew, hp_drewN, cset_cells]
      have q1 : hp W1 (w.heap.size + 1) = some (.cells #[.int .i64 c, .int .i64 d] 25 (0, 0)) := by rw [hW]; simp [hp_alloc, hp_set, hp_drew, hp_drewN, cset_cells]
      have HB : Below w.heap.size w W1 := by rw [hW]; (repeat (first | assumption | exact Below.refl _ _ | (refine below_call ?_ (by assumption)) | apply below_alloc | apply below_drew | apply below_drewN | (refine below_set ?_ (by first | (simp; done) | (simp; omega) | omega) _)))
      clear hW
      have k0 := q0; clear q0; have c0 := kcell k0; have f0 := kfree k0
      have k1 := q1; clear q1; have c1 := kcell k1; have f1 := kfree k1
      go_wp2_with (first | (go_at_call 15; refine (empty64 _ _ _).mono ?_; rintro e w1 ⟨rfl, hb⟩; replace HB := below_call (by first | exact HB | (repeat (first | assumption | exact Below.refl _ _ | (refine below_call ?_ (by assumption)) | apply below_alloc | apply below_drew | apply below_drewN | (refine below_set ?_ (by first | (simp; done) | (simp; omega) | omega) _)))) hb; replace k0 : hp _ w.heap.size = some (.cells #[.int .i64 a, .int .i64 b] 25 (0, 0)) := kblk hb (by first | exact k0 | (simp [hp_alloc, hp_set, hp_drew, hp_drewN, cset_cells, k0, k1]; done)); replace k1 : hp _ (w.heap.size + 1) = some (.cells #[.int .i64 c, .int .i64 d] 25 (0, 0)) := kblk hb (by first | exact k1 | (simp [hp_alloc, hp_set, hp_drew, hp_drewN, cset_cells, k0, k1]; done)); replace c0 := kcell k0; replace f0 := kfree k0; replace c1 := kcell k1; replace f1 := kfree k1))
      all_goals (go_ret; exact ⟨by first | rfl | (simp [withinB, *]; done) | (simp [withinB]; omega) | (simp [withinB, *]; omega), by (repeat (first | assumption | exact Below.refl _ _ | (refine below_call ?_ (by assumption)) | apply below_alloc | apply below_drew | apply below_drewN | (refine below_set ?_ (by first | (simp; done) | (simp; omega) | omega) _)))⟩)
  · skip
    by_cases h1 : c ≤ a
    · have g1 : ¬ a < c := by omega
      go_enter Try.func36, Try.ntmps36
      go_upto_region 1 with fail
      refine Ph.at_world ?_; intro W1 hW
      have q0 : hp W1 w.heap.size = some (.cells #[.int .i64 a, .int .i64 b] 25 (0, 0)) := by rw [hW]; simp [hp_alloc, hp_set, hp_drew, hp_drewN, cset_cells]
      have q1 : hp W1 (w.heap.size + 1) = some (.cells #[.int .i64 c, .int .i64 d] 25 (0, 0)) := by rw [hW]; simp [hp_alloc, hp_set, hp_drew, hp_drewN, cset_cells]
      have HB : Below w.heap.size w W1 := by rw [hW]; (repeat (first | assumption | exact Below.refl _ _ | (refine below_call ?_ (by assumption)) | apply below_alloc | apply below_drew | apply below_drewN | (refine below_set ?_ (by first | (simp; done) | (simp; omega) | omega) _)))
      clear hW
      have k0 := q0; clear q0; have c0 := kcell k0; have f0 := kfree k0
      have k1 := q1; clear q1; have c1 := kcell k1; have f1 := kfree k1
      go_wp2_with (first | (go_at_call 15; refine (empty64 _ _ _).mono ?_; rintro e w1 ⟨rfl, hb⟩; replace HB := below_call (by first | exact HB | (repeat (first | assumption | exact Below.refl _ _ | (refine below_call ?_ (by assumption)) | apply below_alloc | apply below_drew | apply below_drewN | (refine below_set ?_ (by first | (simp; done) | (simp; omega) | omega) _)))) hb; replace k0 : hp _ w.heap.size = some (.cells #[.int .i64 a, .int .i64 b] 25 (0, 0)) := kblk hb (by first | exact k0 | (simp [hp_alloc, hp_set, hp_drew, hp_drewN, cset_cells, k0, k1]; done)); replace k1 : hp _ (w.heap.size + 1) = some (.cells #[.int .i64 c, .int .i64 d] 25 (0, 0)) := kblk hb (by first | exact k1 | (simp [hp_alloc, hp_set, hp_drew, hp_drewN, cset_cells, k0, k1]; done)); replace c0 := kcell k0; replace f0 := kfree k0; replace c1 := kcell k1; replace f1 := kfree k1))
      all_goals (go_ret; exact ⟨by first | rfl | (simp [withinB, *]; done) | (simp [withinB]; omega) | (simp [withinB, *]; omega), by (repeat (first | assumption | exact Below.refl _ _ | (refine below_call ?_ (by assumption)) | apply below_alloc | apply below_drew | apply below_drewN | (refine below_set ?_ (by first | (simp; done) | (simp; omega) | omega) _)))⟩)
    · have g1 : a < c := by omega
      go_enter Try.func36, Try.ntmps36
      go_upto_region 1 with fail
      refine Ph.at_world ?_; intro W1 hW
      have q0 : hp W1 w.heap.size = some (.cells #[.int .i64 a, .int .i64 b] 25 (0, 0)) := by rw [hW]; simp [hp_alloc, hp_set, hp_drew, hp_drewN, cset_cells]
      have q1 : hp W1 (w.heap.size + 1) = some (.cells #[.int .i64 c, .int .i64 d] 25 (0, 0)) := by rw [hW]; simp [hp_alloc, hp_set, hp_drew, hp_drewN, cset_cells]
      have HB : Below w.heap.size w W1 := by rw [hW]; (repeat (first | assumption | exact Below.refl _ _ | (refine below_call ?_ (by assumption)) | apply below_alloc | apply below_drew | apply below_drewN | (refine below_set ?_ (by first | (simp; done) | (simp; omega) | omega) _)))
      clear hW
      have k0 := q0; clear q0; have c0 := kcell k0; have f0 := kfree k0
      have k1 := q1; clear q1; have c1 := kcell k1; have f1 := kfree k1
      go_wp2_with (first | (go_at_call 15; refine (empty64 _ _ _).mono ?_; rintro e w1 ⟨rfl, hb⟩; replace HB := below_call (by first | exact HB | (repeat (first | assumption | exact Below.refl _ _ | (refine below_call ?_ (by assumption)) | apply below_alloc | apply below_drew | apply below_drewN | (refine below_set ?_ (by first | (simp; done) | (simp; omega) | omega) _)))) hb; replace k0 : hp _ w.heap.size = some (.cells #[.int .i64 a, .int .i64 b] 25 (0, 0)) := kblk hb (by first | exact k0 | (simp [hp_alloc, hp_set, hp_drew, hp_drewN, cset_cells, k0, k1]; done)); replace k1 : hp _ (w.heap.size + 1) = some (.cells #[.int .i64 c, .int .i64 d] 25 (0, 0)) := kblk hb (by first | exact k1 | (simp [hp_alloc, hp_set, hp_drew, hp_drewN, cset_cells, k0, k1]; done)); replace c0 := kcell k0; replace f0 := kfree k0; replace c1 := kcell k1; replace f1 := kfree k1))
      all_goals (go_ret; exact ⟨by first | rfl | (simp [withinB, *]; done) | (simp [withinB]; omega) | (simp [withinB, *]; omega), by (repeat (first | assumption | exact Below.refl _ _ | (refine below_call ?_ (by assumption)) | apply below_alloc | apply below_drew | apply below_drewN | (refine below_set ?_ (by first | (simp; done) | (simp; omega) | omega) _)))⟩)

set_option maxHeartbeats 2000000 in
theorem touches64 (a b c d : Int) (w : World) :
    Calls Try.prog 44 #[.agg #[.int .i64 a, .int .i64 b], .agg #[.int .i64 c, .int .i64 d]] w fun e w' => e = .returned (.bool (touchesB a b c d)) ∧ Below w.heap.size w w' := by
  cases h0 : emptyB a b
  · skip
    cases h1 : emptyB c d
    · skip
      by_cases h2 : a ≤ d
      · have g2 : ¬ d < a := by omega
        go_enter Try.func44, Try.ntmps44
        go_upto_region 1 with fail
        refine Ph.at_world ?_; intro W1 hW
        have q0 : hp W1 w.heap.size = some (.cells #[.int .i64 a, .int .i64 b] 25 (0, 0)) := by rw [hW]; simp [hp_alloc, hp_set, hp_drew, hp_drewN, cset_cells]
        have q1 : hp W1 (w.heap.size + 1) = some (.cells #[.int .i64 c, .int .i64 d] 25 (0, 0)) := by rw [hW]; simp [hp_alloc, hp_set, hp_drew, hp_drewN, cset_cells]
        have HB : Below w.heap.size w W1 := by rw [hW]; (repeat (first | assumption | exact Below.refl _ _ | (refine below_call ?_ (by assumption)) | apply below_alloc | apply below_drew | apply below_drewN | (refine below_set ?_ (by first | (simp; done) | (simp; omega) | omega) _)))
        clear hW
        have k0 := q0; clear q0; have c0 := kcell k0; have f0 := kfree k0
        have k1 := q1; clear q1; have c1 := kcell k1; have f1 := kfree k1
        go_wp2_with (first | (go_at_call 15; refine (empty64 _ _ _).mono ?_; rintro e w1 ⟨rfl, hb⟩; replace HB := below_call (by first | exact HB | (repeat (first | assumption | exact Below.refl _ _ | (refine below_call ?_ (by assumption)) | apply below_alloc | apply below_drew | apply below_drewN | (refine below_set ?_ (by first | (simp; done) | (simp; omega) | omega) _)))) hb; replace k0 : hp _ w.heap.size = some (.cells #[.int .i64 a, .int .i64 b] 25 (0, 0)) := kblk hb (by first | exact k0 | (simp [hp_alloc, hp_set, hp_drew, hp_drewN, cset_cells, k0, k1]; done)); replace k1 : hp _ (w.heap.size + 1) = some (.cells #[.int .i64 c, .int .i64 d] 25 (0, 0)) := kblk hb (by first | exact k1 | (simp [hp_alloc, hp_set, hp_drew, hp_drewN, cset_cells, k0, k1]; done)); replace c0 := kcell k0; replace f0 := kfree k0; replace c1 := kcell k1; replace f1 := kfree k1))
        all_goals (go_ret; exact ⟨by first | rfl | (simp [touchesB, *]; done) | (simp [touchesB]; omega) | (simp [touchesB, *]; omega), by (repeat (first | assumption | exact Below.refl _ _ | (refine below_call ?_ (by assumption)) | apply below_alloc | apply below_drew | apply below_drewN | (refine below_set ?_ (by first | (simp; done) | (simp; omega) | omega) _)))⟩)
      · have g2 : d < a := by omega
        go_enter Try.func44, Try.ntmps44
        go_upto_region 1 with fail
        refine Ph.at_world ?_; intro W1 hW
        have q0 : hp W1 w.heap.size = some (.cells #[.int .i64 a, .int .i64 b] 25 (0, 0)) := by rw [hW]; simp [hp_alloc, hp_set, hp_drew, hp_drewN, cset_cells]
        have q1 : hp W1 (w.heap.size + 1) = some (.cells #[.int .i64 c, .int .i64 d] 25 (0, 0)) := by rw [hW]; simp [hp_alloc, hp_set, hp_drew, hp_drewN, cset_cells]
        have HB : Below w.heap.size w W1 := by rw [hW]; (repeat (first | assumption | exact Below.refl _ _ | (refine below_call ?_ (by assumption)) | apply below_alloc | apply below_drew | apply below_drewN | (refine below_set ?_ (by first | (simp; done) | (simp; omega) | omega) _)))
        clear hW
        have k0 := q0; clear q0; have c0 := kcell k0; have f0 := kfree k0
        have k1 := q1; clear q1; have c1 := kcell k1; have f1 := kfree k1
        go_wp2_with (first | (go_at_call 15; refine (empty64 _ _ _).mono ?_; rintro e w1 ⟨rfl, hb⟩; replace HB := below_call (by first | exact HB | (repeat (first | assumption | exact Below.refl _ _ | (refine below_call ?_ (by assumption)) | apply below_alloc | apply below_drew | apply below_drewN | (refine below_set ?_ (by first | (simp; done) | (simp; omega) | omega) _)))) hb; replace k0 : hp _ w.heap.size = some (.cells #[.int .i64 a, .int .i64 b] 25 (0, 0)) := kblk hb (by first | exact k0 | (simp [hp_alloc, hp_set, hp_drew, hp_drewN, cset_cells, k0, k1]; done)); replace k1 : hp _ (w.heap.size + 1) = some (.cells #[.int .i64 c, .int .i64 d] 25 (0, 0)) := kblk hb (by first | exact k1 | (simp [hp_alloc, hp_set, hp_drew, hp_drewN, cset_cells, k0, k1]; done)); replace c0 := kcell k0; replace f0 := kfree k0; replace c1 := kcell k1; replace f1 := kfree k1))
        all_goals (go_ret; exact ⟨by first | rfl | (simp [touchesB, *]; done) | (simp [touchesB]; omega) | (simp [touchesB, *]; omega), by (repeat (first | assumption | exact Below.refl _ _ | (refine below_call ?_ (by assumption)) | apply below_alloc | apply below_drew | apply below_drewN | (refine below_set ?_ (by first | (simp; done) | (simp; omega) | omega) _)))⟩)
    · skip
      by_cases h2 : a ≤ d
      · have g2 : ¬ d < a := by omega
        go_enter Try.func44, Try.ntmps44
        go_upto_region 1 with fail
        refine Ph.at_world ?_; intro W1 hW
        have q0 : hp W1 w.heap.size = some (.cells #[.int .i64 a, .int .i64 b] 25 (0, 0)) := by rw [hW]; simp [hp_alloc, hp_set, hp_drew, hp_drewN, cset_cells]
        have q1 : hp W1 (w.heap.size + 1) = some (.cells #[.int .i64 c, .int .i64 d] 25 (0, 0)) := by rw [hW]; simp [hp_alloc, hp_set, hp_drew, hp_drewN, cset_cells]
        have HB : Below w.heap.size w W1 := by rw [hW]; (repeat (first | assumption | exact Below.refl _ _ | (refine below_call ?_ (by assumption)) | apply below_alloc | apply below_drew | apply below_drewN | (refine below_set ?_ (by first | (simp; done) | (simp; omega) | omega) _)))
        clear hW
        have k0 := q0; clear q0; have c0 := kcell k0; have f0 := kfree k0
        have k1 := q1; clear q1; have c1 := kcell k1; have f1 := kfree k1
        go_wp2_with (first | (go_at_call 15; refine (empty64 _ _ _).mono ?_; rintro e w1 ⟨rfl, hb⟩; replace HB := below_call (by first | exact HB | (repeat (first | assumption | exact Below.refl _ _ | (refine below_call ?_ (by assumption)) | apply below_alloc | apply below_drew | apply below_drewN | (refine below_set ?_ (by first | (simp; done) | (simp; omega) | omega) _)))) hb; replace k0 : hp _ w.heap.size = some (.cells #[.int .i64 a, .int .i64 b] 25 (0, 0)) := kblk hb (by first | exact k0 | (simp [hp_alloc, hp_set, hp_drew, hp_drewN, cset_cells, k0, k1]; done)); replace k1 : hp _ (w.heap.size + 1) = some (.cells #[.int .i64 c, .int .i64 d] 25 (0, 0)) := kblk hb (by first | exact k1 | (simp [hp_alloc, hp_set, hp_drew, hp_drewN, cset_cells, k0, k1]; done)); replace c0 := kcell k0; replace f0 := kfree k0; replace c1 := kcell k1; replace f1 := kfree k1))
        all_goals (go_ret; exact ⟨by first | rfl | (simp [touchesB, *]; done) | (simp [touchesB]; omega) | (simp [touchesB, *]; omega), by (repeat (first | assumption | exact Below.refl _ _ | (refine below_call ?_ (by assumption)) | apply below_alloc | apply below_drew | apply below_drewN | (refine below_set ?_ (by first | (simp; done) | (simp; omega) | omega) _)))⟩)
      · have g2 : d < a := by omega
        go_enter Try.func44, Try.ntmps44
        go_upto_region 1 with fail
        refine Ph.at_world ?_; intro W1 hW
        have q0 : hp W1 w.heap.size = some (.cells #[.int .i64 a, .int .i64 b] 25 (0, 0)) := by rw [hW]; simp [hp_alloc, hp_set, hp_drew, hp_drewN, cset_cells]
        have q1 : hp W1 (w.heap.size + 1) = some (.cells #[.int .i64 c, .int .i64 d] 25 (0, 0)) := by rw [hW]; simp [hp_alloc, hp_set, hp_drew, hp_drewN, cset_cells]
        have HB : Below w.heap.size w W1 := by rw [hW]; (repeat (first | assumption | exact Below.refl _ _ | (refine below_call ?_ (by assumption)) | apply below_alloc | apply below_drew | apply below_drewN | (refine below_set ?_ (by first | (simp; done) | (simp; omega) | omega) _)))
        clear hW
        have k0 := q0; clear q0; have c0 := kcell k0; have f0 := kfree k0
        have k1 := q1; clear q1; have c1 := kcell k1; have f1 := kfree k1
        go_wp2_with (first | (go_at_call 15; refine (empty64 _ _ _).mono ?_; rintro e w1 ⟨rfl, hb⟩; replace HB := below_call (by first | exact HB | (repeat (first | assumption | exact Below.refl _ _ | (refine below_call ?_ (by assumption)) | apply below_alloc | apply below_drew | apply below_drewN | (refine below_set ?_ (by first | (simp; done) | (simp; omega) | omega) _)))) hb; replace k0 : hp _ w.heap.size = some (.cells #[.int .i64 a, .int .i64 b] 25 (0, 0)) := kblk hb (by first | exact k0 | (simp [hp_alloc, hp_set, hp_drew, hp_drewN, cset_cells, k0, k1]; done)); replace k1 : hp _ (w.heap.size + 1) = some (.cells #[.int .i64 c, .int .i64 d] 25 (0, 0)) := kblk hb (by first | exact k1 | (simp [hp_alloc, hp_set, hp_drew, hp_drewN, cset_cells, k0, k1]; done)); replace c0 := kcell k0; replace f0 := kfree k0; replace c1 := kcell k1; replace f1 := kfree k1))
        all_goals (go_ret; exact ⟨by first | rfl | (simp [touchesB, *]; done) | (simp [touchesB]; omega) | (simp [touchesB, *]; omega), by (repeat (first | assumption | exact Below.refl _ _ | (refine below_call ?_ (by assumption)) | apply below_alloc | apply below_drew | apply below_drewN | (refine below_set ?_ (by first | (simp; done) | (simp; omega) | omega) _)))⟩)
  · skip
    cases h1 : emptyB c d
    · skip
      by_cases h2 : a ≤ d
      · have g2 : ¬ d < a := by omega
        go_enter Try.func44, Try.ntmps44
        go_upto_region 1 with fail
        refine Ph.at_world ?_; intro W1 hW
        have q0 : hp W1 w.heap.size = some (.cells #[.int .i64 a, .int .i64 b] 25 (0, 0)) := by rw [hW]; simp [hp_alloc, hp_set, hp_drew, hp_drewN, cset_cells]
        have q1 : hp W1 (w.heap.size + 1) = some (.cells #[.int .i64 c, .int .i64 d] 25 (0, 0)) := by rw [hW]; simp [hp_alloc, hp_set, hp_drew, hp_drewN, cset_cells]
        have HB : Below w.heap.size w W1 := by rw [hW]; (repeat (first | assumption | exact Below.refl _ _ | (refine below_call ?_ (by assumption)) | apply below_alloc | apply below_drew | apply below_drewN | (refine below_set ?_ (by first | (simp; done) | (simp; omega) | omega) _)))
        clear hW
        have k0 := q0; clear q0; have c0 := kcell k0; have f0 := kfree k0
        have k1 := q1; clear q1; have c1 := kcell k1; have f1 := kfree k1
        go_wp2_with (first | (go_at_call 15; refine (empty64 _ _ _).mono ?_; rintro e w1 ⟨rfl, hb⟩; replace HB := below_call (by first | exact HB | (repeat (first | assumption | exact Below.refl _ _ | (refine below_call ?_ (by assumption)) | apply below_alloc | apply below_drew | apply below_drewN | (refine below_set ?_ (by first | (simp; done) | (simp; omega) | omega) _)))) hb; replace k0 : hp _ w.heap.size = some (.cells #[.int .i64 a, .int .i64 b] 25 (0, 0)) := kblk hb (by first | exact k0 | (simp [hp_alloc, hp_set, hp_drew, hp_drewN, cset_cells, k0, k1]; done)); replace k1 : hp _ (w.heap.size + 1) = some (.cells #[.int .i64 c, .int .i64 d] 25 (0, 0)) := kblk hb (by first | exact k1 | (simp [hp_alloc, hp_set, hp_drew, hp_drewN, cset_cells, k0, k1]; done)); replace c0 := kcell k0; replace f0 := kfree k0; replace c1 := kcell k1; replace f1 := kfree k1))
        all_goals (go_ret; exact ⟨by first | rfl | (simp [touchesB, *]; done) | (simp [touchesB]; omega) | (simp [touchesB, *]; omega), by (repeat (first | assumption | exact Below.refl _ _ | (refine below_call ?_ (by assumption)) | apply below_alloc | apply below_drew | apply below_drewN | (refine below_set ?_ (by first | (simp; done) | (simp; omega) | omega) _)))⟩)
      · have g2 : d < a := by omega
        go_enter Try.func44, Try.ntmps44
        go_upto_region 1 with fail
        refine Ph.at_world ?_; intro W1 hW
        have q0 : hp W1 w.heap.size = some (.cells #[.int .i64 a, .int .i64 b] 25 (0, 0)) := by rw [hW]; simp [hp_alloc, hp_set, hp_drew, hp_drewN, cset_cells]
        have q1 : hp W1 (w.heap.size + 1) = some (.cells #[.int .i64 c, .int .i64 d] 25 (0, 0)) := by rw [hW]; simp [hp_alloc, hp_set, hp_drew, hp_drewN, cset_cells]
        have HB : Below w.heap.size w W1 := by rw [hW]; (repeat (first | assumption | exact Below.refl _ _ | (refine below_call ?_ (by assumption)) | apply below_alloc | apply below_drew | apply below_drewN | (refine below_set ?_ (by first | (simp; done) | (simp; omega) | omega) _)))
        clear hW
        have k0 := q0; clear q0; have c0 := kcell k0; have f0 := kfree k0
        have k1 := q1; clear q1; have c1 := kcell k1; have f1 := kfree k1
        go_wp2_with (first | (go_at_call 15; refine (empty64 _ _ _).mono ?_; rintro e w1 ⟨rfl, hb⟩; replace HB := below_call (by first | exact HB | (repeat (first | assumption | exact Below.refl _ _ | (refine below_call ?_ (by assumption)) | apply below_alloc | apply below_drew | apply below_drewN | (refine below_set ?_ (by first | (simp; done) | (simp; omega) | omega) _)))) hb; replace k0 : hp _ w.heap.size = some (.cells #[.int .i64 a, .int .i64 b] 25 (0, 0)) := kblk hb (by first | exact k0 | (simp [hp_alloc, hp_set, hp_drew, hp_drewN, cset_cells, k0, k1]; done)); replace k1 : hp _ (w.heap.size + 1) = some (.cells #[.int .i64 c, .int .i64 d] 25 (0, 0)) := kblk hb (by first | exact k1 | (simp [hp_alloc, hp_set, hp_drew, hp_drewN, cset_cells, k0, k1]; done)); replace c0 := kcell k0; replace f0 := kfree k0; replace c1 := kcell k1; replace f1 := kfree k1))
        all_goals (go_ret; exact ⟨by first | rfl | (simp [touchesB, *]; done) | (simp [touchesB]; omega) | (simp [touchesB, *]; omega), by (repeat (first | assumption | exact Below.refl _ _ | (refine below_call ?_ (by assumption)) | apply below_alloc | apply below_drew | apply below_drewN | (refine below_set ?_ (by first | (simp; done) | (simp; omega) | omega) _)))⟩)
    · skip
      by_cases h2 : a ≤ d
      · have g2 : ¬ d < a := by omega
        go_enter Try.func44, Try.ntmps44
        go_upto_region 1 with fail
        refine Ph.at_world ?_; intro W1 hW
        have q0 : hp W1 w.heap.size = some (.cells #[.int .i64 a, .int .i64 b] 25 (0, 0)) := by rw [hW]; simp [hp_alloc, hp_set, hp_drew, hp_drewN, cset_cells]
        have q1 : hp W1 (w.heap.size + 1) = some (.cells #[.int .i64 c, .int .i64 d] 25 (0, 0)) := by rw [hW]; simp [hp_alloc, hp_set, hp_drew, hp_drewN, cset_cells]
        have HB : Below w.heap.size w W1 := by rw [hW]; (repeat (first | assumption | exact Below.refl _ _ | (refine below_call ?_ (by assumption)) | apply below_alloc | apply below_drew | apply below_drewN | (refine below_set ?_ (by first | (simp; done) | (simp; omega) | omega) _)))
        clear hW
        have k0 := q0; clear q0; have c0 := kcell k0; have f0 := kfree k0
        have k1 := q1; clear q1; have c1 := kcell k1; have f1 := kfree k1
        go_wp2_with (first | (go_at_call 15; refine (empty64 _ _ _).mono ?_; rintro e w1 ⟨rfl, hb⟩; replace HB := below_call (by first | exact HB | (repeat (first | assumption | exact Below.refl _ _ | (refine below_call ?_ (by assumption)) | apply below_alloc | apply below_drew | apply below_drewN | (refine below_set ?_ (by first | (simp; done) | (simp; omega) | omega) _)))) hb; replace k0 : hp _ w.heap.size = some (.cells #[.int .i64 a, .int .i64 b] 25 (0, 0)) := kblk hb (by first | exact k0 | (simp [hp_alloc, hp_set, hp_drew, hp_drewN, cset_cells, k0, k1]; done)); replace k1 : hp _ (w.heap.size + 1) = some (.cells #[.int .i64 c, .int .i64 d] 25 (0, 0)) := kblk hb (by first | exact k1 | (simp [hp_alloc, hp_set, hp_drew, hp_drewN, cset_cells, k0, k1]; done)); replace c0 := kcell k0; replace f0 := kfree k0; replace c1 := kcell k1; replace f1 := kfree k1))
        all_goals (go_ret; exact ⟨by first | rfl | (simp [touchesB, *]; done) | (simp [touchesB]; omega) | (simp [touchesB, *]; omega), by (repeat (first | assumption | exact Below.refl _ _ | (refine below_call ?_ (by assumption)) | apply below_alloc | apply below_drew | apply below_drewN | (refine below_set ?_ (by first | (simp; done) | (simp; omega) | omega) _)))⟩)
      · have g2 : d < a := by omega
        go_enter Try.func44, Try.ntmps44
        go_upto_region 1 with fail
        refine Ph.at_world ?_; intro W1 hW
        have q0 : hp W1 w.heap.size = some (.cells #[.int .i64 a, .int .i64 b] 25 (0, 0)) := by rw [hW]; simp [hp_alloc, hp_set, hp_drew, hp_drewN, cset_cells]
        have q1 : hp W1 (w.heap.size + 1) = some (.cells #[.int .i64 c, .int .i64 d] 25 (0, 0)) := by rw [hW]; simp [hp_alloc, hp_set, hp_drew, hp_drewN, cset_cells]
        have HB : Below w.heap.size w W1 := by rw [hW]; (repeat (first | assumption | exact Below.refl _ _ | (refine below_call ?_ (by assumption)) | apply below_alloc | apply below_drew | apply below_drewN | (refine below_set ?_ (by first | (simp; done) | (simp; omega) | omega) _)))
        clear hW
        have k0 := q0; clear q0; have c0 := kcell k0; have f0 := kfree k0
        have k1 := q1; clear q1; have c1 := kcell k1; have f1 := kfree k1
        go_wp2_with (first | (go_at_call 15; refine (empty64 _ _ _).mono ?_; rintro e w1 ⟨rfl, hb⟩; replace HB := below_call (by first | exact HB | (repeat (first | assumption | exact Below.refl _ _ | (refine below_call ?_ (by assumption)) | apply below_alloc | apply below_drew | apply below_drewN | (refine below_set ?_ (by first | (simp; done) | (simp; omega) | omega) _)))) hb; replace k0 : hp _ w.heap.size = some (.cells #[.int .i64 a, .int .i64 b] 25 (0, 0)) := kblk hb (by first | exact k0 | (simp [hp_alloc, hp_set, hp_drew, hp_drewN, cset_cells, k0, k1]; done)); replace k1 : hp _ (w.heap.size + 1) = some (.cells #[.int .i64 c, .int .i64 d] 25 (0, 0)) := kblk hb (by first | exact k1 | (simp [hp_alloc, hp_set, hp_drew, hp_drewN, cset_cells, k0, k1]; done)); replace c0 := kcell k0; replace f0 := kfree k0; replace c1 := kcell k1; replace f1 := kfree k1))
        all_goals (go_ret; exact ⟨by first | rfl | (simp [touchesB, *]; done) | (simp [touchesB]; omega) | (simp [touchesB, *]; omega), by (repeat (first | assumption | exact Below.refl _ _ | (refine below_call ?_ (by assumption)) | apply below_alloc | apply below_drew | apply below_drewN | (refine below_set ?_ (by first | (simp; done) | (simp; omega) | omega) _)))⟩)

set_option maxHeartbeats 2000000 in
theorem hull64 (a b c d : Int) (w : World) :
    Calls Try.prog 42 #[.agg #[.int .i64 a, .int .i64 b], .agg #[.int .i64 c, .int .i64 d]] w fun e w' => e = .returned (.agg #[.int .i64 (hullS a b c d).1, .int .i64 (hullS a b c d).2]) ∧ Below w.heap.size w w' := by
  cases h0 : emptyB a b
  · skip
    cases h1 : emptyB c d
    · skip
      go_enter Try.func42, Try.ntmps42
      go_upto_region 1 with fail
      refine Ph.at_world ?_; intro W1 hW
      have q0 : hp W1 w.heap.size = some (.cells #[.int .i64 a, .int .i64 b] 25 (0, 0)) := by rw [hW]; simp [hp_alloc, hp_set, hp_drew, hp_drewN, cset_cells]
      have q1 : hp W1 (w.heap.size + 1) = some (.cells #[.int .i64 c, .int .i64 d] 25 (0, 0)) := by rw [hW]; simp [hp_alloc, hp_set, hp_drew, hp_drewN, cset_cells]
      have qr0 : hp W1 (w.heap.size + 1 + 1) = some (.cells #[.int .i64 0, .int .i64 0] 25 (0, 0)) := by rw [hW]; simp [hp_alloc, hp_set, hp_drew, hp_drewN, cset_cells]
      have HB : Below w.heap.size w W1 := by rw [hW]; (repeat (first | assumption | exact Below.refl _ _ | (refine below_call ?_ (by assumption)) | apply below_alloc | apply below_drew | apply below_drewN | (refine below_set ?_ (by first | (simp; done) | (simp; omega) | omega) _)))
      clear hW
      have k0 := q0; clear q0; have c0 := kcell k0; have f0 := kfree k0
      have k1 := q1; clear q1; have c1 := kcell k1; have f1 := kfree k1
      have kr0 := qr0; clear qr0; have cr0 := kcell kr0; have fr0 := kfree kr0
      go_wp2_with (first | (go_at_call 13; refine (of64 _ _ _).mono ?_; rintro e w1 ⟨rfl, hb⟩; replace HB := below_call (by first | exact HB | (repeat (first | assumption | exact Below.refl _ _ | (refine below_call ?_ (by assumption)) | apply below_alloc | apply below_drew | apply below_drewN | (refine below_set ?_ (by first | (simp; done) | (simp; omega) | omega) _)))) hb; replace k0 : hp _ w.heap.size = some (.cells #[.int .i64 a, .int .i64 b] 25 (0, 0)) := kblk hb (by first | exact k0 | (simp [hp_alloc, hp_set, hp_drew, hp_drewN, cset_cells, k0, k1, kr0]; done)); replace k1 : hp _ (w.heap.size + 1) = some (.cells #[.int .i64 c, .int .i64 d] 25 (0, 0)) := kblk hb (by first | exact k1 | (simp [hp_alloc, hp_set, hp_drew, hp_drewN, cset_cells, k0, k1, kr0]; done)); replace kr0 : hp _ (w.heap.size + 1 + 1) = some (.cells #[.int .i64 0, .int .i64 0] 25 (0, 0)) := kblk hb (by first | exact kr0 | (simp [hp_alloc, hp_set, hp_drew, hp_drewN, cset_cells, k0, k1, kr0]; done)); replace c0 := kcell k0; replace f0 := kfree k0; replace c1 := kcell k1; replace f1 := kfree k1; replace cr0 := kcell kr0; replace fr0 := kfree kr0) | (go_at_call 15; refine (empty64 _ _ _).mono ?_; rintro e w1 ⟨rfl, hb⟩; replace HB := below_call (by first | exact HB | (repeat (first | assumption | exact Below.refl _ _ | (refine below_call ?_ (by assumption)) | apply below_alloc | apply below_drew | apply below_drewN | (refine below_set ?_ (by first | (simp; done) | (simp; omega) | omega) _)))) hb; replace k0 : hp _ w.heap.size = some (.cells #[.int .i64 a, .int .i64 b] 25 (0, 0)) := kblk hb (by first | exact k0 | (simp [hp_alloc, hp_set, hp_drew, hp_drewN, cset_cells, k0, k1, kr0]; done)); replace k1 : hp _ (w.heap.size + 1) = some (.cells #[.int .i64 c, .int .i64 d] 25 (0, 0)) := kblk hb (by first | exact k1 | (simp [hp_alloc, hp_set, hp_drew, hp_drewN, cset_cells, k0, k1, kr0]; done)); replace kr0 : hp _ (w.heap.size + 1 + 1) = some (.cells #[.int .i64 0, .int .i64 0] 25 (0, 0)) := kblk hb (by first | exact kr0 | (simp [hp_alloc, hp_set, hp_drew, hp_drewN, cset_cells, k0, k1, kr0]; done)); replace c0 := kcell k0; replace f0 := kfree k0; replace c1 := kcell k1; replace f1 := kfree k1; replace cr0 := kcell kr0; replace fr0 := kfree kr0))
      all_goals try go_wp2
      all_goals refine bodyPost_ret (v := .agg #[.int .i64 (hullS a b c d).1, .int .i64 (hullS a b c d).2]) (by simp [results, Try.results42, go_sem, hullS, *]) rfl ⟨?_, by (repeat (first | assumption | exact Below.refl _ _ | (refine below_call ?_ (by assumption)) | apply below_alloc | apply below_drew | apply below_drewN | (refine below_set ?_ (by first | (simp; done) | (simp; omega) | omega) _)))⟩
      all_goals (first | rfl | (simp [hullS, *]; done))
    · skip
      go_enter Try.func42, Try.ntmps42
      go_upto_region 1 with fail
      refine Ph.at_world ?_; intro W1 hW
      have q0 : hp W1 w.heap.size = some (.cells #[.int .i64 a, .int .i64 b] 25 (0, 0)) := by rw [hW]; simp [hp_alloc, hp_set, hp_drew, hp_drewN, cset_cells]
      have q1 : hp W1 (w.heap.size + 1) = some (.cells #[.int .i64 c, .int .i64 d] 25 (0, 0)) := by rw [hW]; simp [hp_alloc, hp_set, hp_drew, hp_drewN, cset_cells]
      have qr0 : hp W1 (w.heap.size + 1 + 1) = some (.cells #[.int .i64 0, .int .i64 0] 25 (0, 0)) := by rw [hW]; simp [hp_alloc, hp_set, hp_drew, hp_drewN, cset_cells]
      have HB : Below w.heap.size w W1 := by rw [hW]; (repeat (first | assumption | exact Below.refl _ _ | (refine below_call ?_ (by assumption)) | apply below_alloc | apply below_drew | apply below_drewN | (refine below_set ?_ (by first | (simp; done) | (simp; omega) | omega) _)))
      clear hW
      have k0 := q0; clear q0; have c0 := kcell k0; have f0 := kfree k0
      have k1 := q1; clear q1; have c1 := kcell k1; have f1 := kfree k1
      have kr0 := qr0; clear qr0; have cr0 := kcell kr0; have fr0 := kfree kr0
      go_wp2_with (first | (go_at_call 13; refine (of64 _ _ _).mono ?_; rintro e w1 ⟨rfl, hb⟩; replace HB := below_call (by first | exact HB | (repeat (first | assumption | exact Below.refl _ _ | (refine below_call ?_ (by assumption)) | apply below_alloc | apply below_drew | apply below_drewN | (refine below_set ?_ (by first | (simp; done) | (simp; omega) | omega) _)))) hb; replace k0 : hp _ w.heap.size = some (.cells #[.int .i64 a, .int .i64 b] 25 (0, 0)) := kblk hb (by first | exact k0 | (simp [hp_alloc, hp_set, hp_drew, hp_drewN, cset_cells, k0, k1, kr0]; done)); replace k1 : hp _ (w.heap.size + 1) = some (.cells #[.int .i64 c, .int .i64 d] 25 (0, 0)) := kblk hb (by first | exact k1 | (simp [hp_alloc, hp_set, hp_drew, hp_drewN, cset_cells, k0, k1, kr0]; done)); replace kr0 : hp _ (w.heap.size + 1 + 1) = some (.cells #[.int .i64 0, .int .i64 0] 25 (0, 0)) := kblk hb (by first | exact kr0 | (simp [hp_alloc, hp_set, hp_drew, hp_drewN, cset_cells, k0, k1, kr0]; done)); replace c0 := kcell k0; replace f0 := kfree k0; replace c1 := kcell k1; replace f1 := kfree k1; replace cr0 := kcell kr0; replace fr0 := kfree kr0) | (go_at_call 15; refine (empty64 _ _ _).mono ?_; rintro e w1 ⟨rfl, hb⟩; replace HB := below_call (by first | exact HB | (repeat (first | assumption | exact Below.refl _ _ | (refine below_call ?_ (by assumption)) | apply below_alloc | apply below_drew | apply below_drewN | (refine below_set ?_ (by first | (simp; done) | (simp; omega) | omega) _)))) hb; replace k0 : hp _ w.heap.size = some (.cells #[.int .i64 a, .int .i64 b] 25 (0, 0)) := kblk hb (by first | exact k0 | (simp [hp_alloc, hp_set, hp_drew, hp_drewN, cset_cells, k0, k1, kr0]; done)); replace k1 : hp _ (w.heap.size + 1) = some (.cells #[.int .i64 c, .int .i64 d] 25 (0, 0)) := kblk hb (by first | exact k1 | (simp [hp_alloc, hp_set, hp_drew, hp_drewN, cset_cells, k0, k1, kr0]; done)); replace kr0 : hp _ (w.heap.size + 1 + 1) = some (.cells #[.int .i64 0, .int .i64 0] 25 (0, 0)) := kblk hb (by first | exact kr0 | (simp [hp_alloc, hp_set, hp_drew, hp_drewN, cset_cells, k0, k1, kr0]; done)); replace c0 := kcell k0; replace f0 := kfree k0; replace c1 := kcell k1; replace f1 := kfree k1; replace cr0 := kcell kr0; replace fr0 := kfree kr0))
      all_goals try go_wp2
      all_goals refine bodyPost_ret (v := .agg #[.int .i64 (hullS a b c d).1, .int .i64 (hullS a b c d).2]) (by simp [results, Try.results42, go_sem, hullS, *]) rfl ⟨?_, by (repeat (first | assumption | exact Below.refl _ _ | (refine below_call ?_ (by assumption)) | apply below_alloc | apply below_drew | apply below_drewN | (refine below_set ?_ (by first | (simp; done) | (simp; omega) | omega) _)))⟩
      all_goals (first | rfl | (simp [hullS, *]; done))
  · skip
    cases h1 : emptyB c d
    · skip
      go_enter Try.func42, Try.ntmps42
      go_upto_region 1 with fail
      refine Ph.at_world ?_; intro W1 hW
      have q0 : hp W1 w.heap.size = some (.cells #[.int .i64 a, .int .i64 b] 25 (0, 0)) := by rw [hW]; simp [hp_alloc, hp_set, hp_drew, hp_drewN, cset_cells]
      have q1 : hp W1 (w.heap.size + 1) = some (.cells #[.int .i64 c, .int .i64 d] 25 (0, 0)) := by rw [hW]; simp [hp_alloc, hp_set, hp_drew, hp_drewN, cset_cells]
      have qr0 : hp W1 (w.heap.size + 1 + 1) = some (.cells #[.int .i64 0, .int .i64 0] 25 (0, 0)) := by rw [hW]; simp [hp_alloc, hp_set, hp_drew, hp_drewN, cset_cells]
      have HB : Below w.heap.size w W1 := by rw [hW]; (repeat (first | assumption | exact Below.refl _ _ | (refine below_call ?_ (by assumption)) | apply below_alloc | apply below_drew | apply below_drewN | (refine below_set ?_ (by first | (simp; done) | (simp; omega) | omega) _)))
      clear hW
      have k0 := q0; clear q0; have c0 := kcell k0; have f0 := kfree k0
      have k1 := q1; clear q1; have c1 := kcell k1; have f1 := kfree k1
      have kr0 := qr0; clear qr0; have cr0 := kcell kr0; have fr0 := kfree kr0
      go_wp2_with (first | (go_at_call 13; refine (of64 _ _ _).mono ?_; rintro e w1 ⟨rfl, hb⟩; replace HB := below_call (by first | exact HB | (repeat (first | assumption | exact Below.refl _ _ | (refine below_call ?_ (by assumption)) | apply below_alloc | apply below_drew | apply below_drewN | (refine below_set ?_ (by first | (simp; done) | (simp; omega) | omega) _)))) hb; replace k0 : hp _ w.heap.size = some (.cells #[.int .i64 a, .int .i64 b] 25 (0, 0)) := kblk hb (by first | exact k0 | (simp [hp_alloc, hp_set, hp_drew, hp_drewN, cset_cells, k0, k1, kr0]; done)); replace k1 : hp _ (w.heap.size + 1) = some (.cells #[.int .i64 c, .int .i64 d] 25 (0, 0)) := kblk hb (by first | exact k1 | (simp [hp_alloc, hp_set, hp_drew, hp_drewN, cset_cells, k0, k1, kr0]; done)); replace kr0 : hp _ (w.heap.size + 1 + 1) = some (.cells #[.int .i64 0, .int .i64 0] 25 (0, 0)) := kblk hb (by first | exact kr0 | (simp [hp_alloc, hp_set, hp_drew, hp_drewN, cset_cells, k0, k1, kr0]; done)); replace c0 := kcell k0; replace f0 := kfree k0; replace c1 := kcell k1; replace f1 := kfree k1; replace cr0 := kcell kr0; replace fr0 := kfree kr0) | (go_at_call 15; refine (empty64 _ _ _).mono ?_; rintro e w1 ⟨rfl, hb⟩; replace HB := below_call (by first | exact HB | (repeat (first | assumption | exact Below.refl _ _ | (refine below_call ?_ (by assumption)) | apply below_alloc | apply below_drew | apply below_drewN | (refine below_set ?_ (by first | (simp; done) | (simp; omega) | omega) _)))) hb; replace k0 : hp _ w.heap.size = some (.cells #[.int .i64 a, .int .i64 b] 25 (0, 0)) := kblk hb (by first | exact k0 | (simp [hp_alloc, hp_set, hp_drew, hp_drewN, cset_cells, k0, k1, kr0]; done)); replace k1 : hp _ (w.heap.size + 1) = some (.cells #[.int .i64 c, .int .i64 d] 25 (0, 0)) := kblk hb (by first | exact k1 | (simp [hp_alloc, hp_set, hp_drew, hp_drewN, cset_cells, k0, k1, kr0]; done)); replace kr0 : hp _ (w.heap.size + 1 + 1) = some (.cells #[.int .i64 0, .int .i64 0] 25 (0, 0)) := kblk hb (by first | exact kr0 | (simp [hp_alloc, hp_set, hp_drew, hp_drewN, cset_cells, k0, k1, kr0]; done)); replace c0 := kcell k0; replace f0 := kfree k0; replace c1 := kcell k1; replace f1 := kfree k1; replace cr0 := kcell kr0; replace fr0 := kfree kr0))
      all_goals try go_wp2
      all_goals refine bodyPost_ret (v := .agg #[.int .i64 (hullS a b c d).1, .int .i64 (hullS a b c d).2]) (by simp [results, Try.results42, go_sem, hullS, *]) rfl ⟨?_, by (repeat (first | assumption | exact Below.refl _ _ | (refine below_call ?_ (by assumption)) | apply below_alloc | apply below_drew | apply below_drewN | (refine below_set ?_ (by first | (simp; done) | (simp; omega) | omega) _)))⟩
      all_goals (first | rfl | (simp [hullS, *]; done))
    · skip
      go_enter Try.func42, Try.ntmps42
      go_upto_region 1 with fail
      refine Ph.at_world ?_; intro W1 hW
      have q0 : hp W1 w.heap.size = some (.cells #[.int .i64 a, .int .i64 b] 25 (0, 0)) := by rw [hW]; simp [hp_alloc, hp_set, hp_drew, hp_drewN, cset_cells]
      have q1 : hp W1 (w.heap.size + 1) = some (.cells #[.int .i64 c, .int .i64 d] 25 (0, 0)) := by rw [hW]; simp [hp_alloc, hp_set, hp_drew, hp_drewN, cset_cells]
      have qr0 : hp W1 (w.heap.size + 1 + 1) = some (.cells #[.int .i64 0, .int .i64 0] 25 (0, 0)) := by rw [hW]; simp [hp_alloc, hp_set, hp_drew, hp_drewN, cset_cells]
      have HB : Below w.heap.size w W1 := by rw [hW]; (repeat (first | assumption | exact Below.refl _ _ | (refine below_call ?_ (by assumption)) | apply below_alloc | apply below_drew | apply below_drewN | (refine below_set ?_ (by first | (simp; done) | (simp; omega) | omega) _)))
      clear hW
      have k0 := q0; clear q0; have c0 := kcell k0; have f0 := kfree k0
      have k1 := q1; clear q1; have c1 := kcell k1; have f1 := kfree k1
      have kr0 := qr0; clear qr0; have cr0 := kcell kr0; have fr0 := kfree kr0
      go_wp2_with (first | (go_at_call 13; refine (of64 _ _ _).mono ?_; rintro e w1 ⟨rfl, hb⟩; replace HB := below_call (by first | exact HB | (repeat (first | assumption | exact Below.refl _ _ | (refine below_call ?_ (by assumption)) | apply below_alloc | apply below_drew | apply below_drewN | (refine below_set ?_ (by first | (simp; done) | (simp; omega) | omega) _)))) hb; replace k0 : hp _ w.heap.size = some (.cells #[.int .i64 a, .int .i64 b] 25 (0, 0)) := kblk hb (by first | exact k0 | (simp [hp_alloc, hp_set, hp_drew, hp_drewN, cset_cells, k0, k1, kr0]; done)); replace k1 : hp _ (w.heap.size + 1) = some (.cells #[.int .i64 c, .int .i64 d] 25 (0, 0)) := kblk hb (by first | exact k1 | (simp [hp_alloc, hp_set, hp_drew, hp_drewN, cset_cells, k0, k1, kr0]; done)); replace kr0 : hp _ (w.heap.size + 1 + 1) = some (.cells #[.int .i64 0, .int .i64 0] 25 (0, 0)) := kblk hb (by first | exact kr0 | (simp [hp_alloc, hp_set, hp_drew, hp_drewN, cset_cells, k0, k1, kr0]; done)); replace c0 := kcell k0; replace f0 := kfree k0; replace c1 := kcell k1; replace f1 := kfree k1; replace cr0 := kcell kr0; replace fr0 := kfree kr0) | (go_at_call 15; refine (empty64 _ _ _).mono ?_; rintro e w1 ⟨rfl, hb⟩; replace HB := below_call (by first | exact HB | (repeat (first | assumption | exact Below.refl _ _ | (refine below_call ?_ (by assumption)) | apply below_alloc | apply below_drew | apply below_drewN | (refine below_set ?_ (by first | (simp; done) | (simp; omega) | omega) _)))) hb; replace k0 : hp _ w.heap.size = some (.cells #[.int .i64 a, .int .i64 b] 25 (0, 0)) := kblk hb (by first | exact k0 | (simp [hp_alloc, hp_set, hp_drew, hp_drewN, cset_cells, k0, k1, kr0]; done)); replace k1 : hp _ (w.heap.size + 1) = some (.cells #[.int .i64 c, .int .i64 d] 25 (0, 0)) := kblk hb (by first | exact k1 | (simp [hp_alloc, hp_set, hp_drew, hp_drewN, cset_cells, k0, k1, kr0]; done)); replace kr0 : hp _ (w.heap.size + 1 + 1) = some (.cells #[.int .i64 0, .int .i64 0] 25 (0, 0)) := kblk hb (by first | exact kr0 | (simp [hp_alloc, hp_set, hp_drew, hp_drewN, cset_cells, k0, k1, kr0]; done)); replace c0 := kcell k0; replace f0 := kfree k0; replace c1 := kcell k1; replace f1 := kfree k1; replace cr0 := kcell kr0; replace fr0 := kfree kr0))
      all_goals try go_wp2
      all_goals refine bodyPost_ret (v := .agg #[.int .i64 (hullS a b c d).1, .int .i64 (hullS a b c d).2]) (by simp [results, Try.results42, go_sem, hullS, *]) rfl ⟨?_, by (repeat (first | assumption | exact Below.refl _ _ | (refine below_call ?_ (by assumption)) | apply below_alloc | apply below_drew | apply below_drewN | (refine below_set ?_ (by first | (simp; done) | (simp; omega) | omega) _)))⟩
      all_goals (first | rfl | (simp [hullS, *]; done))

set_option maxHeartbeats 2000000 in
theorem cut64 (a b c d : Int) (w : World) :
    Calls Try.prog 38 #[.agg #[.int .i64 a, .int .i64 b], .agg #[.int .i64 c, .int .i64 d]] w fun e w' => e = .returned (.tuple #[.agg #[.int .i64 (cutL a b c d).1, .int .i64 (cutL a b c d).2], .agg #[.int .i64 (cutR a b c d).1, .int .i64 (cutR a b c d).2]]) ∧ Below w.heap.size w w' := by
  cases h0 : emptyB c d
  · skip
    go_enter Try.func38, Try.ntmps38
    go_upto_region 1 with fail
    refine Ph.at_world ?_; intro W1 hW
    have q0 : hp W1 w.heap.size = some (.cells #[.int .i64 a, .int .i64 b] 25 (0, 0)) := by rw [hW]; simp [hp_alloc, hp_set, hp_drew, hp_drewN, cset_cells]
    have q1 : hp W1 (w.heap.size + 1) = some (.cells #[.int .i64 c, .int .i64 d] 25 (0, 0)) := by rw [hW]; simp [hp_alloc, hp_set, hp_drew, hp_drewN, cset_cells]
    have qr0 : hp W1 (w.heap.size + 1 + 1) = some (.cells #[.int .i64 0, .int .i64 0] 25 (0, 0)) := by rw [hW]; simp [hp_alloc, hp_set, hp_drew, hp_drewN, cset_cells]
    have qr1 : hp W1 (w.heap.size + 1 + 1 + 1) = some (.cells #[.int .i64 0, .int .i64 0] 25 (0, 0)) := by rw [hW]; simp [hp_alloc, hp_set, hp_drew, hp_drewN, cset_cells]
    have HB : Below w.heap.size w W1 := by rw [hW]; (repeat (first | assumption | exact Below.refl _ _ | (refine below_call ?_ (by assumption)) | apply below_alloc | apply below_drew | apply below_drewN | (refine below_set ?_ (by first | (simp; done) | (simp; omega) | omega) _)))
    clear hW
    have k0 := q0; clear q0; have c0 := kcell k0; have f0 := kfree k0
    have k1 := q1; clear q1; have c1 := kcell k1; have f1 := kfree k1
    have kr0 := qr0; clear qr0; have cr0 := kcell kr0; have fr0 := kfree kr0
    have kr1 := qr1; clear qr1; have cr1 := kcell kr1; have fr1 := kfree kr1
    go_wp2_with (first | (go_at_call 13; refine (of64 _ _ _).mono ?_; rintro e w1 ⟨rfl, hb⟩; replace HB := below_call (by first | exact HB | (repeat (first | assumption | exact Below.refl _ _ | (refine below_call ?_ (by assumption)) | apply below_alloc | apply below_drew | apply below_drewN | (refine below_set ?_ (by first | (simp; done) | (simp; omega) | omega) _)))) hb; replace k0 : hp _ w.heap.size = some (.cells #[.int .i64 a, .int .i64 b] 25 (0, 0)) := kblk hb (by first | exact k0 | (simp [hp_alloc, hp_set, hp_drew, hp_drewN, cset_cells, k0, k1, kr0, kr1]; done)); replace k1 : hp _ (w.heap.size + 1) = some (.cells #[.int .i64 c, .int .i64 d] 25 (0, 0)) := kblk hb (by first | exact k1 | (simp [hp_alloc, hp_set, hp_drew, hp_drewN, cset_cells, k0, k1, kr0, kr1]; done)); replace kr0 : hp _ (w.heap.size + 1 + 1) = some (.cells #[.int .i64 0, .int .i64 0] 25 (0, 0)) := kblk hb (by first | exact kr0 | (simp [hp_alloc, hp_set, hp_drew, hp_drewN, cset_cells, k0, k1, kr0, kr1]; done)); replace kr1 : hp _ (w.heap.size + 1 + 1 + 1) = some (.cells #[.int .i64 0, .int .i64 0] 25 (0, 0)) := kblk hb (by first | exact kr1 | (simp [hp_alloc, hp_set, hp_drew, hp_drewN, cset_cells, k0, k1, kr0, kr1]; done)); replace c0 := kcell k0; replace f0 := kfree k0; replace c1 := kcell k1; replace f1 := kfree k1; replace cr0 := kcell kr0; replace fr0 := kfree kr0; replace cr1 := kcell kr1; replace fr1 := kfree kr1) | (go_at_call 15; refine (empty64 _ _ _).mono ?_; rintro e w1 ⟨rfl, hb⟩; replace HB := below_call (by first | exact HB | (repeat (first | assumption | exact Below.refl _ _ | (refine below_call ?_ (by assumption)) | apply below_alloc | apply below_drew | apply below_drewN | (refine below_set ?_ (by first | (simp; done) | (simp; omega) | omega) _)))) hb; replace k0 : hp _ w.heap.size = some (.cells #[.int .i64 a, .int .i64 b] 25 (0, 0)) := kblk hb (by first | exact k0 | (simp [hp_alloc, hp_set, hp_drew, hp_drewN, cset_cells, k0, k1, kr0, kr1]; done)); replace k1 : hp _ (w.heap.size + 1) = some (.cells #[.int .i64 c, .int .i64 d] 25 (0, 0)) := kblk hb (by first | exact k1 | (simp [hp_alloc, hp_set, hp_drew, hp_drewN, cset_cells, k0, k1, kr0, kr1]; done)); replace kr0 : hp _ (w.heap.size + 1 + 1) = some (.cells #[.int .i64 0, .int .i64 0] 25 (0, 0)) := kblk hb (by first | exact kr0 | (simp [hp_alloc, hp_set, hp_drew, hp_drewN, cset_cells, k0, k1, kr0, kr1]; done)); replace kr1 : hp _ (w.heap.size + 1 + 1 + 1) = some (.cells #[.int .i64 0, .int .i64 0] 25 (0, 0)) := kblk hb (by first | exact kr1 | (simp [hp_alloc, hp_set, hp_drew, hp_drewN, cset_cells, k0, k1, kr0, kr1]; done)); replace c0 := kcell k0; replace f0 := kfree k0; replace c1 := kcell k1; replace f1 := kfree k1; replace cr0 := kcell kr0; replace fr0 := kfree kr0; replace cr1 := kcell kr1; replace fr1 := kfree kr1))
    refine Ph.wp_region_gr 16 16 [] (by kernel_rfl) (by kernel_rfl) (fun _ d _ _ _ h => by cases d <;> exact h) ?_
    simp only [List.take_succ_cons, List.take_zero, List.drop_succ_cons, List.drop_zero]
    repeat (first | (apply Ph.wpG_op rfl; (focus (intro w1 hS; have d0 := kcell (kblk hS k0); have d1 := kcell (kblk hS k1); have dr0 := kcell (kblk hS kr0); have dr1 := kcell (kblk hS kr1); go_simp; first | exact rfl | exact ⟨rfl, Below.refl _ _⟩ | ((with_reducible refine (of64 _ _ _).mono ?_); rintro e w2 ⟨rfl, hb⟩; exact ⟨rfl, hb⟩) | ((with_reducible refine (empty64 _ _ _).mono ?_); rintro e w2 ⟨rfl, hb⟩; exact ⟨rfl, hb⟩)))); simp only [List.tail_cons, List.tail_nil, Act.put, List.setIfInBounds_toArray, List.set_cons_zero, List.set_cons_succ])
    refine Ph.wpG_nil ?_
    refine Ph.wpAl_nil ?_; intro v1 hS hgs hne
    clear hgs hne
    replace HB := below_call (by first | exact HB | (repeat (first | assumption | exact Below.refl _ _ | (refine below_call ?_ (by assumption)) | apply below_alloc | apply below_drew | apply below_drewN | (refine below_set ?_ (by first | (simp; done) | (simp; omega) | omega) _)))) hS; replace k0 : hp _ w.heap.size = some (.cells #[.int .i64 a, .int .i64 b] 25 (0, 0)) := kblk hS (by first | exact k0 | (simp [hp_alloc, hp_set, hp_drew, hp_drewN, cset_cells, k0, k1, kr0, kr1]; done)); replace k1 : hp _ (w.heap.size + 1) = some (.cells #[.int .i64 c, .int .i64 d] 25 (0, 0)) := kblk hS (by first | exact k1 | (simp [hp_alloc, hp_set, hp_drew, hp_drewN, cset_cells, k0, k1, kr0, kr1]; done)); replace kr0 : hp _ (w.heap.size + 1 + 1) = some (.cells #[.int .i64 0, .int .i64 0] 25 (0, 0)) := kblk hS (by first | exact kr0 | (simp [hp_alloc, hp_set, hp_drew, hp_drewN, cset_cells, k0, k1, kr0, kr1]; done)); replace kr1 : hp _ (w.heap.size + 1 + 1 + 1) = some (.cells #[.int .i64 0, .int .i64 0] 25 (0, 0)) := kblk hS (by first | exact kr1 | (simp [hp_alloc, hp_set, hp_drew, hp_drewN, cset_cells, k0, k1, kr0, kr1]; done)); replace c0 := kcell k0; replace f0 := kfree k0; replace c1 := kcell k1; replace f1 := kfree k1; replace cr0 := kcell kr0; replace fr0 := kfree kr0; replace cr1 := kcell kr1; replace fr1 := kfree kr1
    go_wp2_with (first | (go_at_call 13; refine (of64 _ _ _).mono ?_; rintro e w1 ⟨rfl, hb⟩; replace HB := below_call (by first | exact HB | (repeat (first | assumption | exact Below.refl _ _ | (refine below_call ?_ (by assumption)) | apply below_alloc | apply below_drew | apply below_drewN | (refine below_set ?_ (by first | (simp; done) | (simp; omega) | omega) _)))) hb; replace k0 : hp _ w.heap.size = some (.cells #[.int .i64 a, .int .i64 b] 25 (0, 0)) := kblk hb (by first | exact k0 | (simp [hp_alloc, hp_set, hp_drew, hp_drewN, cset_cells, k0, k1, kr0, kr1]; done)); replace k1 : hp _ (w.heap.size + 1) = some (.cells #[.int .i64 c, .int .i64 d] 25 (0, 0)) := kblk hb (by first | exact k1 | (simp [hp_alloc, hp_set, hp_drew, hp_drewN, cset_cells, k0, k1, kr0, kr1]; done)); replace kr0 : hp _ (w.heap.size + 1 + 1) = some (.cells #[.int .i64 0, .int .i64 0] 25 (0, 0)) := kblk hb (by first | exact kr0 | (simp [hp_alloc, hp_set, hp_drew, hp_drewN, cset_cells, k0, k1, kr0, kr1]; done)); replace kr1 : hp _ (w.heap.size + 1 + 1 + 1) = some (.cells #[.int .i64 0, .int .i64 0] 25 (0, 0)) := kblk hb (by first | exact kr1 | (simp [hp_alloc, hp_set, hp_drew, hp_drewN, cset_cells, k0, k1, kr0, kr1]; done)); replace c0 := kcell k0; replace f0 := kfree k0; replace c1 := kcell k1; replace f1 := kfree k1; replace cr0 := kcell kr0; replace fr0 := kfree kr0; replace cr1 := kcell kr1; replace fr1 := kfree kr1) | (go_at_call 15; refine (empty64 _ _ _).mono ?_; rintro e w1 ⟨rfl, hb⟩; replace HB := below_call (by first | exact HB | (repeat (first | assumption | exact Below.refl _ _ | (refine below_call ?_ (by assumption)) | apply below_alloc | apply below_drew | apply below_drewN | (refine below_set ?_ (by first | (simp; done) | (simp; omega) | omega) _)))) hb; replace k0 : hp _ w.heap.size = some (.cells #[.int .i64 a, .int .i64 b] 25 (0, 0)) := kblk hb (by first | exact k0 | (simp [hp_alloc, hp_set, hp_drew, hp_drewN, cset_cells, k0, k1, kr0, kr1]; done)); replace k1 : hp _ (w.heap.size + 1) = some (.cells #[.int .i64 c, .int .i64 d] 25 (0, 0)) := kblk hb (by first | exact k1 | (simp [hp_alloc, hp_set, hp_drew, hp_drewN, cset_cells, k0, k1, kr0, kr1]; done)); replace kr0 : hp _ (w.heap.size + 1 + 1) = some (.cells #[.int .i64 0, .int .i64 0] 25 (0, 0)) := kblk hb (by first | exact kr0 | (simp [hp_alloc, hp_set, hp_drew, hp_drewN, cset_cells, k0, k1, kr0, kr1]; done)); replace kr1 : hp _ (w.heap.size + 1 + 1 + 1) = some (.cells #[.int .i64 0, .int .i64 0] 25 (0, 0)) := kblk hb (by first | exact kr1 | (simp [hp_alloc, hp_set, hp_drew, hp_drewN, cset_cells, k0, k1, kr0, kr1]; done)); replace c0 := kcell k0; replace f0 := kfree k0; replace c1 := kcell k1; replace f1 := kfree k1; replace cr0 := kcell kr0; replace fr0 := kfree kr0; replace cr1 := kcell kr1; replace fr1 := kfree kr1))
    all_goals try go_wp2
    all_goals refine bodyPost_ret (v := .tuple #[.agg #[.int .i64 (cutL a b c d).1, .int .i64 (cutL a b c d).2], .agg #[.int .i64 (cutR a b c d).1, .int .i64 (cutR a b c d).2]]) (by simp [results, Try.results38, go_sem, cutL, cutR, *]) rfl ⟨?_, by (repeat (first | assumption | exact Below.refl _ _ | (refine below_call ?_ (by assumption)) | apply below_alloc | apply below_drew | apply below_drewN | (refine below_set ?_ (by first | (simp; done) | (simp; omega) | omega) _)))⟩
    all_goals (first | rfl | (simp [cutL, cutR, *]; done))
  · skip
    go_enter Try.func38, Try.ntmps38
    go_upto_region 1 with fail
    refine Ph.at_world ?_; intro W1 hW
    have q0 : hp W1 w.heap.size = some (.cells #[.int .i64 a, .int .i64 b] 25 (0, 0)) := by rw [hW]; simp [hp_alloc, hp_set, hp_drew, hp_drewN, cset_cells]
    have q1 : hp W1 (w.heap.size + 1) = some (.cells #[.int .i64 c, .int .i64 d] 25 (0, 0)) := by rw [hW]; simp [hp_alloc, hp_set, hp_drew, hp_drewN, cset_cells]
    have qr0 : hp W1 (w.heap.size + 1 + 1) = some (.cells #[.int .i64 0, .int .i64 0] 25 (0, 0)) := by rw [hW]; simp [hp_alloc, hp_set, hp_drew, hp_drewN, cset_cells]
    have qr1 : hp W1 (w.heap.size + 1 + 1 + 1) = some (.cells #[.int .i64 0, .int .i64 0] 25 (0, 0)) := by rw [hW]; simp [hp_alloc, hp_set, hp_drew, hp_drewN, cset_cells]
    have HB : Below w.heap.size w W1 := by rw [hW]; (repeat (first | assumption | exact Below.refl _ _ | (refine below_call ?_ (by assumption)) | apply below_alloc | apply below_drew | apply below_drewN | (refine below_set ?_ (by first | (simp; done) | (simp; omega) | omega) _)))
    clear hW
    have k0 := q0; clear q0; have c0 := kcell k0; have f0 := kfree k0
    have k1 := q1; clear q1; have c1 := kcell k1; have f1 := kfree k1
    have kr0 := qr0; clear qr0; have cr0 := kcell kr0; have fr0 := kfree kr0
    have kr1 := qr1; clear qr1; have cr1 := kcell kr1; have fr1 := kfree kr1
    go_wp2_with (first | (go_at_call 13; refine (of64 _ _ _).mono ?_; rintro e w1 ⟨rfl, hb⟩; replace HB := below_call (by first | exact HB | (repeat (first | assumption | exact Below.refl _ _ | (refine below_call ?_ (by assumption)) | apply below_alloc | apply below_drew | apply below_drewN | (refine below_set ?_ (by first | (simp; done) | (simp; omega) | omega) _)))) hb; replace k0 : hp _ w.heap.size = some (.cells #[.int .i64 a, .int .i64 b] 25 (0, 0)) := kblk hb (by first | exact k0 | (simp [hp_alloc, hp_set, hp_drew, hp_drewN, cset_cells, k0, k1, kr0, kr1]; done)); replace k1 : hp _ (w.heap.size + 1) = some (.cells #[.int .i64 c, .int .i64 d] 25 (0, 0)) := kblk hb (by first | exact k1 | (simp [hp_alloc, hp_set, hp_drew, hp_drewN, cset_cells, k0, k1, kr0, kr1]; done)); replace kr0 : hp _ (w.heap.size + 1 + 1) = some (.cells #[.int .i64 0, .int .i64 0] 25 (0, 0)) := kblk hb (by first | exact kr0 | (simp [hp_alloc, hp_set, hp_drew, hp_drewN, cset_cells, k0, k1, kr0, kr1]; done)); replace kr1 : hp _ (w.heap.size + 1 + 1 + 1) = some (.cells #[.int .i64 0, .int .i64 0] 25 (0, 0)) := kblk hb (by first | exact kr1 | (simp [hp_alloc, hp_set, hp_drew, hp_drewN, cset_cells, k0, k1, kr0, kr1]; done)); replace c0 := kcell k0; replace f0 := kfree k0; replace c1 := kcell k1; replace f1 := kfree k1; replace cr0 := kcell kr0; replace fr0 := kfree kr0; replace cr1 := kcell kr1; replace fr1 := kfree kr1) | (go_at_call 15; refine (empty64 _ _ _).mono ?_; rintro e w1 ⟨rfl, hb⟩; replace HB := below_call (by first | exact HB | (repeat (first | assumption | exact Below.refl _ _ | (refine below_call ?_ (by assumption)) | apply below_alloc | apply below_drew | apply below_drewN | (refine below_set ?_ (by first | (simp; done) | (simp; omega) | omega) _)))) hb; replace k0 : hp _ w.heap.size = some (.cells #[.int .i64 a, .int .i64 b] 25 (0, 0)) := kblk hb (by first | exact k0 | (simp [hp_alloc, hp_set, hp_drew, hp_drewN, cset_cells, k0, k1, kr0, kr1]; done)); replace k1 : hp _ (w.heap.size + 1) = some (.cells #[.int .i64 c, .int .i64 d] 25 (0, 0)) := kblk hb (by first | exact k1 | (simp [hp_alloc, hp_set, hp_drew, hp_drewN, cset_cells, k0, k1, kr0, kr1]; done)); replace kr0 : hp _ (w.heap.size + 1 + 1) = some (.cells #[.int .i64 0, .int .i64 0] 25 (0, 0)) := kblk hb (by first | exact kr0 | (simp [hp_alloc, hp_set, hp_drew, hp_drewN, cset_cells, k0, k1, kr0, kr1]; done)); replace kr1 : hp _ (w.heap.size + 1 + 1 + 1) = some (.cells #[.int .i64 0, .int .i64 0] 25 (0, 0)) := kblk hb (by first | exact kr1 | (simp [hp_alloc, hp_set, hp_drew, hp_drewN, cset_cells, k0, k1, kr0, kr1]; done)); replace c0 := kcell k0; replace f0 := kfree k0; replace c1 := kcell k1; replace f1 := kfree k1; replace cr0 := kcell kr0; replace fr0 := kfree kr0; replace cr1 := kcell kr1; replace fr1 := kfree kr1))
    all_goals try go_wp2
    all_goals refine bodyPost_ret (v := .tuple #[.agg #[.int .i64 (cutL a b c d).1, .int .i64 (cutL a b c d).2], .agg #[.int .i64 (cutR a b c d).1, .int .i64 (cutR a b c d).2]]) (by simp [results, Try.results38, go_sem, cutL, cutR, *]) rfl ⟨?_, by (repeat (first | assumption | exact Below.refl _ _ | (refine below_call ?_ (by assumption)) | apply below_alloc | apply below_drew | apply below_drewN | (refine below_set ?_ (by first | (simp; done) | (simp; omega) | omega) _)))⟩
    all_goals (first | rfl | (simp [cutL, cutR, *]; done))

end Go.Proofs.Ytplhbnehlkoedaa
