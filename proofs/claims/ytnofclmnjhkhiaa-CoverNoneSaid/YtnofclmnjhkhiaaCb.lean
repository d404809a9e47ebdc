/- Spans. -/
import Derived.Test.YtnofclmnjhkhiaaProg
import Derived.Test.YtnofclmnjhkhiaaCol
import Derived.Test.YtnofclmnjhkhiaaPh
import Derived.Test.YtnofclmnjhkhiaaCv
import Derived.WalkKit
import Derived.WalkLawsBesides
import Derived.WalkSpells
import Derived.Below
import Derived.Deep.RegionHeld3
import Derived.Deep.QuietTactic
import Derived.BigQuiet
import Derived.Deep.DeepCutAuto
import Derived.Deep.DeepMust
import Derived.KernelRfl
import Derived.Lib.Hide
import Derived.Outline
import Derived.RegionTactic
import Derived.StillTailTactics
namespace Go.Proofs.Ytnofclmnjhkhiaa
open Go.RowKit Go.Cl Go.Cv
set_option maxRecDepth 100000
set_option linter.unusedVariables false
set_option linter.unusedSimpArgs false

def cset (i : Nat) (u : Value) : Obj → Obj
  | .cells c e f => .cells (c.setIfInBounds i u) e f
  | o => o
theorem cset_cells (i : Nat) (u : Value) (c : Array Value) (e : TypeId) (f : Nat × Nat) : cset i u (.cells c e f) = .cells (c.setIfInBounds i u) e f := rfl
theorem hpA (w : World) (o : Obj) (k : Nat) : hp (w.alloc o) k = if k = w.heap.size then some o else hp w k := by
  show (w.heap.push o)[k]? = _
  rw [Array.getElem?_push]; rfl
theorem hpS (w : World) (g i : Nat) (u : Value) (k : Nat) : hp (w.setCell ⟨g, i, none⟩ u) k = if k = g then (hp w k).map (cset i u) else hp w k := by
  unfold hp
  simp only [World.setCell, Array.getElem?_modify, Option.isSome_none, Bool.false_eq_true, if_false]
  by_cases h : g = k
  · subst h; simp only [if_true]; rfl
  · rw [if_neg h, if_neg (fun e => h e.symm)]
theorem hpD (w : World) (k : Nat) : hp w.drew k = hp w k := rfl
theorem hpDN (w : World) (n k : Nat) : hp (w.drewN n) k = hp w k := rfl

theorem max2_int (k k' : IntKind) (x y : Int) : Builtin.max2 (.int k x) (.int k' y) = pure (.int k (max x y)) := by
  have e : max x y = if x < y then y else x := by split <;> omega
  simp only [Builtin.max2, gt_iff_lt, e]
theorem min2_int (k k' : IntKind) (x y : Int) : Builtin.min2 (.int k x) (.int k' y) = pure (.int k (min x y)) := by
  have e : min x y = if y < x then y else x := by split <;> omega
  simp only [Builtin.min2, e]
theorem max_two (ats : Array TypeId) (ty : TypeId) (a b : Value) : Builtin.max_ ats ty #[a, b] = (Builtin.max2 a b >>= fun s => pure s) := by simp only [Builtin.max_, List.foldlM_cons, List.foldlM_nil]
theorem min_two (ats : Array TypeId) (ty : TypeId) (a b : Value) : Builtin.min_ ats ty #[a, b] = (Builtin.min2 a b >>= fun s => pure s) := by simp only [Builtin.min_, List.foldlM_cons, List.foldlM_nil]
attribute [local go_sem] max2_int min2_int max_two min_two
def ofS (a b : Int) : Sp := if b ≤ a then (0, 0) else (a, b)
theorem c_of (a b : Int) (w : World) : Calls Try.prog 27 #[.int .i64 a, .int .i64 b] w fun e w' => e = .returned (.agg #[.int .i64 (ofS a b).1, .int .i64 (ofS a b).2]) ∧ Below w.heap.size w w' := by
  unfold ofS
  by_cases h : b ≤ a
  · rw [if_pos h]
    go_enter Try.func27, Try.ntmps27
    go_wp2
    refine bodyPost_ret (v := .agg #[.int .i64 0, .int .i64 0]) (by simp [results, Try.results27, go_sem, *]; done) rfl ⟨rfl, by (repeat (first | (with_reducible assumption) | (with_reducible exact Below.refl _ _) | (with_reducible refine below_set ?_ (by first | assumption | (simp; done) | (simp; omega) | omega) _) | (with_reducible apply below_alloc) | (with_reducible apply below_drew) | (with_reducible apply below_drewN) | (with_reducible refine below_call ?_ (by assumption))))⟩
  · rw [if_neg h]
    go_enter Try.func27, Try.ntmps27
    go_wp2
    refine bodyPost_ret (v := .agg #[.int .i64 a, .int .i64 b]) (by simp [results, Try.results27, go_sem, *]; done) rfl ⟨rfl, by (repeat (first | (with_reducible assumption) | (with_reducible exact Below.refl _ _) | (with_reducible refine below_set ?_ (by first | assumption | (simp; done) | (simp; omega) | omega) _) | (with_reducible apply below_alloc) | (with_reducible apply below_drew) | (with_reducible apply below_drewN) | (with_reducible refine below_call ?_ (by assumption))))⟩
theorem c_empty (a b : Int) (w : World) : Calls Try.prog 31 #[.agg #[.int .i64 a, .int .i64 b]] w fun e w' => e = .returned (.bool (decide (b ≤ a))) ∧ Below w.heap.size w w' := by
  go_enter Try.func31, Try.ntmps31
  go_wp2
  go_ret
  exact ⟨rfl, by (repeat (first | (with_reducible assumption) | (with_reducible exact Below.refl _ _) | (with_reducible refine below_set ?_ (by first | assumption | (simp; done) | (simp; omega) | omega) _) | (with_reducible apply below_alloc) | (with_reducible apply below_drew) | (with_reducible apply below_drewN) | (with_reducible refine below_call ?_ (by assumption))))⟩
theorem c_has (a b x : Int) (w : World) : Calls Try.prog 15 #[.agg #[.int .i64 a, .int .i64 b], .int .i64 x] w fun e w' => e = .returned (.bool (decide (a ≤ x) && decide (x < b))) ∧ Below w.heap.size w w' := by
  by_cases h : a ≤ x
  · have h1 : decide (a ≤ x) = true := decide_eq_true h
    rw [h1]
    go_enter Try.func15, Try.ntmps15
    go_wp2
    go_ret
    exact ⟨by simp, by (repeat (first | (with_reducible assumption) | (with_reducible exact Below.refl _ _) | (with_reducible refine below_set ?_ (by first | assumption | (simp; done) | (simp; omega) | omega) _) | (with_reducible apply below_alloc) | (with_reducible apply below_drew) | (with_reducible apply below_drewN) | (with_reducible refine below_call ?_ (by assumption))))⟩
  · have h1 : decide (a ≤ x) = false := decide_eq_false h
    rw [h1]
    go_enter Try.func15, Try.ntmps15
    go_wp2
    go_ret
    exact ⟨by simp, by (repeat (first | (with_reducible assumption) | (with_reducible exact Below.refl _ _) | (with_reducible refine below_set ?_ (by first | assumption | (simp; done) | (simp; omega) | omega) _) | (with_reducible apply below_alloc) | (with_reducible apply below_drew) | (with_reducible apply below_drewN) | (with_reducible refine below_call ?_ (by assumption))))⟩
theorem c_clos (a b x : Int) (w : World) : Calls Try.prog 53 #[.agg #[.int .i64 a, .int .i64 b], .int .i64 x] w fun e w' => e = .returned (.int .i64 (if b ≤ x then -1 else 1)) ∧ Below w.heap.size w w' := by
  by_cases h : b ≤ x
  · rw [if_pos h]
    go_enter Try.func53, Try.ntmps53
    go_wp2
    go_ret
    exact ⟨rfl, by (repeat (first | (with_reducible assumption) | (with_reducible exact Below.refl _ _) | (with_reducible refine below_set ?_ (by first | assumption | (simp; done) | (simp; omega) | omega) _) | (with_reducible apply below_alloc) | (with_reducible apply below_drew) | (with_reducible apply below_drewN) | (with_reducible refine below_call ?_ (by assumption))))⟩
  · rw [if_neg h]
    go_enter Try.func53, Try.ntmps53
    go_wp2
    go_ret
    exact ⟨rfl, by (repeat (first | (with_reducible assumption) | (with_reducible exact Below.refl _ _) | (with_reducible refine below_set ?_ (by first | assumption | (simp; done) | (simp; omega) | omega) _) | (with_reducible apply below_alloc) | (with_reducible apply below_drew) | (with_reducible apply below_drewN) | (with_reducible refine below_call ?_ (by assumption))))⟩
theorem c_oof (c : Bool) (a b x : Int) (w : World) : Calls Try.prog 13 #[.agg #[.bool c, .int .i64 a, .int .i64 b, .int .i64 x]] w fun e w' => e = .returned (.agg #[.int .i64 a, .int .i64 b]) ∧ Below w.heap.size w w' := by
  go_enter Try.func13, Try.ntmps13
  go_wp2
  refine bodyPost_ret (v := .agg #[.int .i64 a, .int .i64 b]) (by simp [results, Try.results13, go_sem, *]; done) rfl ⟨rfl, by (repeat (first | (with_reducible assumption) | (with_reducible exact Below.refl _ _) | (with_reducible refine below_set ?_ (by first | assumption | (simp; done) | (simp; omega) | omega) _) | (with_reducible apply below_alloc) | (with_reducible apply below_drew) | (with_reducible apply below_drewN) | (with_reducible refine below_call ?_ (by assumption))))⟩
/-- Touches, of two that have numbers. -/
theorem c_touch (a b a' b' : Int) (h : a < b) (h' : a' < b') (w : World) : Calls Try.prog 34 #[.agg #[.int .i64 a, .int .i64 b], .agg #[.int .i64 a', .int .i64 b']] w fun e w' => e = .returned (.bool (decide (a ≤ b') && decide (a' ≤ b))) ∧ Below w.heap.size w w' := by
  have d1 : decide (b ≤ a) = false := decide_eq_false (by omega)
  have d2 : decide (b' ≤ a') = false := decide_eq_false (by omega)
  have he1 : ∀ w, Calls Try.prog 31 #[.agg #[.int .i64 a, .int .i64 b]] w fun e w' => e = .returned (.bool false) ∧ Below w.heap.size w w' := fun w => by have := c_empty a b w; rw [d1] at this; exact this
  have he2 : ∀ w, Calls Try.prog 31 #[.agg #[.int .i64 a', .int .i64 b']] w fun e w' => e = .returned (.bool false) ∧ Below w.heap.size w w' := fun w => by have := c_empty a' b' w; rw [d2] at this; exact this
  have HE := Lib.hid (And.intro he1 he2)
  clear he1 he2 d1 d2 h h'
  by_cases h : a ≤ b'
  · have h1 : decide (a ≤ b') = true := decide_eq_true h
    rw [h1]
    go_enter Try.func34, Try.ntmps34
    go_upto_region 1 with fail
    refine Ph.at_world ?_; intro W1 hW
    have k1 : hp W1 w.heap.size = some (.cells #[.int .i64 a, .int .i64 b] 30 (0, 0)) := by rw [hW]; simp [hpA]
    have k2 : hp W1 (w.heap.size + 1) = some (.cells #[.int .i64 a', .int .i64 b'] 30 (0, 0)) := by rw [hW]; simp [hpA]
    have HB := Lib.hid (show Below w.heap.size w W1 by rw [hW]; exact below_alloc (below_alloc (Below.refl _ _) _) _)
    clear hW
    have K := Lib.hid (And.intro k1 k2)
    have c1 := hp_cell k1
    have c2 := hp_cell k2
    clear k1 k2
    go_wp2_with (go_at_call 31; first | ((with_reducible refine (HE.out.1 _).mono ?_); rintro e w1 ⟨rfl, hb1⟩; have HB1 := Lib.hid (below_call HB.out hb1); replace c1 := hp_cell (hp_below hb1 K.out.1); replace c2 := hp_cell (hp_below hb1 K.out.2); have K1 := Lib.hid (And.intro (hp_below hb1 K.out.1) (hp_below hb1 K.out.2)); clear hb1) | ((with_reducible refine (HE.out.2 _).mono ?_); rintro e w2 ⟨rfl, hb2⟩; have HB2 := Lib.hid (below_call HB1.out hb2); replace c1 := hp_cell (hp_below hb2 K1.out.1); replace c2 := hp_cell (hp_below hb2 K1.out.2); clear hb2))
    go_ret
    exact ⟨by simp, HB2.out⟩
  · have h1 : decide (a ≤ b') = false := decide_eq_false h
    rw [h1]
    go_enter Try.func34, Try.ntmps34
    go_upto_region 1 with fail
    refine Ph.at_world ?_; intro W1 hW
    have k1 : hp W1 w.heap.size = some (.cells #[.int .i64 a, .int .i64 b] 30 (0, 0)) := by rw [hW]; simp [hpA]
    have k2 : hp W1 (w.heap.size + 1) = some (.cells #[.int .i64 a', .int .i64 b'] 30 (0, 0)) := by rw [hW]; simp [hpA]
    have HB := Lib.hid (show Below w.heap.size w W1 by rw [hW]; exact below_alloc (below_alloc (Below.refl _ _) _) _)
    clear hW
    have K := Lib.hid (And.intro k1 k2)
    have c1 := hp_cell k1
    have c2 := hp_cell k2
    clear k1 k2
    go_wp2_with (go_at_call 31; first | ((with_reducible refine (HE.out.1 _).mono ?_); rintro e w1 ⟨rfl, hb1⟩; have HB1 := Lib.hid (below_call HB.out hb1); replace c1 := hp_cell (hp_below hb1 K.out.1); replace c2 := hp_cell (hp_below hb1 K.out.2); have K1 := Lib.hid (And.intro (hp_below hb1 K.out.1) (hp_below hb1 K.out.2)); clear hb1) | ((with_reducible refine (HE.out.2 _).mono ?_); rintro e w2 ⟨rfl, hb2⟩; have HB2 := Lib.hid (below_call HB1.out hb2); replace c1 := hp_cell (hp_below hb2 K1.out.1); replace c2 := hp_cell (hp_below hb2 K1.out.2); clear hb2))
    go_ret
    exact ⟨by simp, HB2.out⟩
end Go.Proofs.Ytnofclmnjhkhiaa
