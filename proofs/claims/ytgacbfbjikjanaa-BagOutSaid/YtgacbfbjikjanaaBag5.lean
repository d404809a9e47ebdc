/- Bags: the laws' steps. -/
import Derived.Test.YtgacbfbjikjanaaBag4
import Derived.Test.YtgacbfbjikjanaaPh
import Derived.WalkKit
import Derived.WalkLawsBesides
import Derived.WalkSpells
import Derived.Below
import Derived.Deep.RegionHeld3
import Derived.Deep.QuietTactic
import Derived.BigQuiet
import Derived.Deep.DeepCutAuto
import Derived.Deep.DeepMust
import Derived.KernelRfl
import Derived.Lib.Hide
import Derived.Outline
import Derived.RegionTactic
import Derived.StillTailTactics
namespace Go.Proofs.Ytgacbfbjikjanaa
open Go.RowKit Go.Cl
set_option maxRecDepth 100000
set_option linter.unusedVariables false
set_option linter.unusedSimpArgs false


theorem same_true (col1 col2 : Nat → Nat) (i1 i2 : Nat) (w : World) (v1 v2 : Value) (L : List ByteArray) (n : Nat) (hn : L.length = n) (hn' : n ≤ 1000000000000) (hr1 : Row col1 i1 w 9 1 v1 n (L.flatMap encS)) (hr2 : Row col2 i2 w 9 1 v2 n (L.flatMap encS)) :
    Calls Try.prog 18 #[v1, v2] w fun e w' => e = .returned (.bool true) ∧ Below w.heap.size w w' := by
  obtain ⟨p1, c1, rfl⟩ := hr1.form
  obtain ⟨p2, c2, rfl⟩ := hr2.form
  go_enter Try.func18, Try.ntmps18
  go_wp2
  go_loopw [5] (fun t wr => ∃ k : Nat, k ≤ n ∧ t = .int .i64 k ∧ Below w.heap.size w wr) (fun t _ => n + 1 - (intOf t).toNat)
  case atStart => exact ⟨0, Nat.zero_le _, rfl, Below.refl _ _⟩
  case round =>
    obtain ⟨k, hk, rfl, hbel⟩ := hrel
    by_cases hlt : k < n
    · obtain ⟨g1, d1, cur1, hv1, hg1, ha1, hb1, he1, hf1, _⟩ := hr1.pos (by omega)
      obtain ⟨g2, d2, cur2, hv2, hg2, ha2, hb2, he2, hf2, _⟩ := hr2.pos (by omega)
      simp only [Value.slice.injEq] at hv1 hv2
      obtain ⟨rfl, _, rfl⟩ := hv1
      obtain ⟨rfl, _, rfl⟩ := hv2
      have q1 : wr.cell? ⟨g1, k, none⟩ = some (.string (L[k]'(by omega))) := cell_below hbel (hr1.cell (g := g1) rfl (by have := encS_ok.get L k 0 (by omega) (by omega); simpa [encS] using this))
      have q2 : wr.cell? ⟨g2, k, none⟩ = some (.string (L[k]'(by omega))) := cell_below hbel (hr2.cell (g := g2) rfl (by have := encS_ok.get L k 0 (by omega) (by omega); simpa [encS] using this))
      have hk0 : (0 : Int) ≤ (k : Int) := by omega
      have HN := Lib.hid hn
      go_wp2
      refine Ph.wp_region_gr 9 9 [] (by kernel_rfl) (by kernel_rfl) (fun _ d _ _ _ h => by cases d <;> exact h) ?_
      simp only [List.take_succ_cons, List.take_zero, List.drop_succ_cons, List.drop_zero]
      repeat ((first | (apply Ph.wpG_op rfl; (focus (intro w1 hS0; have d1 := cell_below hS0 q1; have d2 := cell_below hS0 q2; go_simp; first | exact rfl | exact ⟨rfl, Below.refl _ _⟩)))); simp only [List.tail_cons, List.tail_nil, Act.put, List.setIfInBounds_toArray, List.set_cons_zero, List.set_cons_succ])
      refine Ph.wpG_nil ?_
      refine Ph.wpAl_nil ?_; intro w2 hS _ _

      go_wp2
      go_roundw
      case rel => exact ⟨k + 1, by omega, by go_num, below_call hbel hS⟩
      case measure => simp [intOf]; omega
    · have : k = n := by omega
      go_wp2
      go_ret
      exact ⟨rfl, hbel⟩


def evL (K I : Int) (S : ByteArray) (L : List ByteArray) (most : Int) : List ByteArray :=
  if K % 4 = 0 then putL L most S else if K % 4 = 1 then remL L I else if K % 4 = 2 then (if inB L I then putL L most (getD L I ⟨#[]⟩) else L) else L
def evN (K I : Int) (L : List ByteArray) (most lost : Int) : Int :=
  if K % 4 = 0 then putN L most lost else if K % 4 = 2 then (if inB L I then putN L most lost else lost) else lost
def stB (K I : Int) (L1 : List ByteArray) (m1 : Int) (L2 : List ByteArray) (m2 : Int) : Bool :=
  if K % 4 = 0 then putB L1 m1 == putB L2 m2 else if K % 4 = 2 then ((inB L1 I && putB L1 m1) == (inB L2 I && putB L2 m2)) else
    ((getD L1 I ⟨#[]⟩).toList == (getD L2 I ⟨#[]⟩).toList) && (inB L1 I == inB L2 I)
theorem stB_same (K I : Int) (L : List ByteArray) (m : Int) : stB K I L m L m = true := by unfold stB; repeat' split <;> simp
section
variable {K I m m1 m2 n : Int} {S : ByteArray} {L L1 L2 : List ByteArray}
theorem evL_0 (h : K % 4 = 0) : evL K I S L m = putL L m S := by simp [evL, h]
theorem evL_1 (h : K % 4 = 1) : evL K I S L m = remL L I := by simp [evL, h]
theorem evL_2 (h : K % 4 = 2) : evL K I S L m = if inB L I then putL L m (getD L I ⟨#[]⟩) else L := by simp [evL, h]
theorem evL_3 (h : K % 4 = 3) : evL K I S L m = L := by simp [evL, h]
theorem evN_0 (h : K % 4 = 0) : evN K I L m n = putN L m n := by simp [evN, h]
theorem evN_1 (h : K % 4 = 1) : evN K I L m n = n := by simp [evN, h]
theorem evN_2 (h : K % 4 = 2) : evN K I L m n = if inB L I then putN L m n else n := by simp [evN, h]
theorem evN_3 (h : K % 4 = 3) : evN K I L m n = n := by simp [evN, h]
theorem stB_0 (h : K % 4 = 0) : stB K I L1 m1 L2 m2 = (putB L1 m1 == putB L2 m2) := by simp [stB, h]
theorem stB_1 (h : K % 4 = 1) : stB K I L1 m1 L2 m2 = (((getD L1 I ⟨#[]⟩).toList == (getD L2 I ⟨#[]⟩).toList) && (inB L1 I == inB L2 I)) := by simp [stB, h]
theorem stB_2 (h : K % 4 = 2) : stB K I L1 m1 L2 m2 = ((inB L1 I && putB L1 m1) == (inB L2 I && putB L2 m2)) := by simp [stB, h]
theorem stB_3 (h : K % 4 = 3) : stB K I L1 m1 L2 m2 = (((getD L1 I ⟨#[]⟩).toList == (getD L2 I ⟨#[]⟩).toList) && (inB L1 I == inB L2 I)) := by simp [stB, h]
end
theorem ret_bool {a b : Bool} (h : a = b) : Ending.returned (.bool a) = .returned (.bool b) := by rw [h]
/-- What a step leaves. -/
def Stepped (i j b r : Nat) (col : Nat → Nat) (w : World) (K I : Int) (S : ByteArray) (L1 : List ByteArray) (m1 n1 : Int) (L2 : List ByteArray) (m2 n2 : Int) (e : Ending) (w' : World) : Prop :=
  ∃ col', e = .returned (.bool (stB K I L1 m1 L2 m2)) ∧ Bag 88 9 1 encS col' i w' b (evL K I S L1 m1) m1 (evN K I L1 m1 n1) ∧ Bag 34 9 1 encS col' j w' r (evL K I S L2 m2) m2 (evN K I L2 m2 n2) ∧ Mv [i, j] col w col' w'

set_option maxHeartbeats 1000000 in
theorem step_0 (i j b r : Nat) (hij : i ≠ j) (hi0 : i ≠ 0) (hj0 : j ≠ 0) (col : Nat → Nat) (w : World) (K I : Int) (hK0 : 0 ≤ K) (hK1 : K < 256) (S : ByteArray) (L1 : List ByteArray) (m1 n1 : Int) (L2 : List ByteArray) (m2 n2 : Int)
    (hc : K % 4 = 0) (hB : Bag 88 9 1 encS col i w b L1 m1 n1) (hR : Bag 34 9 1 encS col j w r L2 m2 n2) :
    Calls Try.prog 15 #[.pointer (some ⟨b, 0, none⟩), .pointer (some ⟨r, 0, none⟩), .agg #[.int .u8 K, .int .i64 I, .string S]] w (Stepped i j b r col w K I S L1 m1 n1 L2 m2 n2) := by
  have HB0 := below_alloc (Below.refl w.heap.size w) (.cells #[.int .u8 K, .int .i64 I, .string S] 30)
  have hM0 : Mv [i, j] col w (paint col w 0) (w.alloc (.cells #[.int .u8 K, .int .i64 I, .string S] 30)) := Mv.new HB0 0
  have hB1 := hB.kept (Mv.new (S := []) HB0 0) (by simp)
  have hR1 := hR.kept (Mv.new (S := []) HB0 0) (by simp)
  have hbox0 : hp (w.alloc (.cells #[.int .u8 K, .int .i64 I, .string S] 30)) w.heap.size = some (.cells #[.int .u8 K, .int .i64 I, .string S] 30 (0, 0)) := hp_alloc_new w _
  have hcol0 : paint col w 0 w.heap.size = 0 := paint_new (Nat.le_refl _)
  generalize hcd : paint col w 0 = c0 at hM0 hB1 hR1 hcol0
  clear hB hR hcd HB0
  have hc0 : (K % 4 == 0) = true := by simp; omega
  have hc0 : (K % 4 == 1) = false := by simp; omega
  have hc0 : (K % 4 == 2) = false := by simp; omega
  have HC := Lib.hid hc; clear hc
  go_enter Try.func15, Try.ntmps15
  go_wp2
  refine Ph.at_world ?_; intro W1 hW
  rw [← hW] at hM0 hB1 hR1 hbox0
  clear hW
  have cbx := hp_cell hbox0
  go_region_with (first | (go_at_call 40; refine (bs_put _ i _ b L1 m1 n1 S (hB1.below (below_drew (Below.refl _ _)))).mono ?_; rintro e w1 ⟨rfl, hB2, hC⟩; have hR2 := (hR1.below (below_drew (Below.refl _ _))).kept hC.mv (by simp; omega); have hM1 := (hM0.after_below (below_drew (Below.refl _ _))).trans (hC.mv' (S := [i, j]) (by simp)); have k2 := hp_ch (hp_below (below_drew (Below.refl _ _)) hbox0) hC (by rw [hcol0]; exact fun e => hi0 e.symm); have c2 := hp_cell k2) | (go_at_call 46; refine (br_put _ j _ r L2 m2 n2 S hR2).mono ?_; rintro e w2 ⟨rfl, hR3, hC2⟩; have hB3 := hB2.kept hC2.mv (by simp; omega); have hM2 := hM1.trans (hC2.mv' (S := [i, j]) (by simp))))
  all_goals try go_wp2
  all_goals go_ret
  all_goals (have hc := HC.out)
  all_goals refine ⟨_, by rw [stB_0 hc]; first | rfl | exact ret_bool (by simp [*]), by rw [evL_0 hc, evN_0 hc]; exact hB3, by rw [evL_0 hc, evN_0 hc]; exact hR3, hM2⟩

set_option maxHeartbeats 1000000 in
theorem step_1 (i j b r : Nat) (hij : i ≠ j) (hi0 : i ≠ 0) (hj0 : j ≠ 0) (col : Nat → Nat) (w : World) (K I : Int) (hK0 : 0 ≤ K) (hK1 : K < 256) (S : ByteArray) (L1 : List ByteArray) (m1 n1 : Int) (L2 : List ByteArray) (m2 n2 : Int)
    (hc : K % 4 = 1) (hB : Bag 88 9 1 encS col i w b L1 m1 n1) (hR : Bag 34 9 1 encS col j w r L2 m2 n2) :
    Calls Try.prog 15 #[.pointer (some ⟨b, 0, none⟩), .pointer (some ⟨r, 0, none⟩), .agg #[.int .u8 K, .int .i64 I, .string S]] w (Stepped i j b r col w K I S L1 m1 n1 L2 m2 n2) := by
  have HB0 := below_alloc (Below.refl w.heap.size w) (.cells #[.int .u8 K, .int .i64 I, .string S] 30)
  have hM0 : Mv [i, j] col w (paint col w 0) (w.alloc (.cells #[.int .u8 K, .int .i64 I, .string S] 30)) := Mv.new HB0 0
  have hB1 := hB.kept (Mv.new (S := []) HB0 0) (by simp)
  have hR1 := hR.kept (Mv.new (S := []) HB0 0) (by simp)
  have hbox0 : hp (w.alloc (.cells #[.int .u8 K, .int .i64 I, .string S] 30)) w.heap.size = some (.cells #[.int .u8 K, .int .i64 I, .string S] 30 (0, 0)) := hp_alloc_new w _
  have hcol0 : paint col w 0 w.heap.size = 0 := paint_new (Nat.le_refl _)
  generalize hcd : paint col w 0 = c0 at hM0 hB1 hR1 hcol0
  clear hB hR hcd HB0
  have hc0 : (K % 4 == 0) = false := by simp; omega
  have hc0 : (K % 4 == 1) = true := by simp; omega
  have hc0 : (K % 4 == 2) = false := by simp; omega
  have HC := Lib.hid hc; clear hc
  go_enter Try.func15, Try.ntmps15
  go_wp2_with fail
  refine Ph.at_callw ?_; intro W1 hW
  rw [← hW] at hM0 hB1 hR1 hbox0
  clear hW
  have cbx := hp_cell hbox0
  go_wp2_with (first | (go_at_call 38; refine (bs_take _ i _ b L1 m1 n1 (hB1.below (Below.refl _ _)) I).mono ?_; rintro e w1 ⟨rfl, hB2, hC⟩; have hR2 := (hR1.below (Below.refl _ _)).kept hC.mv (by simp; omega); have hM1 := (hM0.after_below (Below.refl _ _)).trans (hC.mv' (S := [i, j]) (by simp)); have k2 := hp_ch (hp_below (Below.refl _ _) hbox0) hC (by rw [hcol0]; exact fun e => hi0 e.symm); have c2 := hp_cell k2) | (go_at_call 47; refine (br_take _ j _ r L2 m2 n2 hR2 I).mono ?_; rintro e w2 ⟨rfl, hR3, hC2⟩; have hB3 := hB2.kept hC2.mv (by simp; omega); have hM2 := hM1.trans (hC2.mv' (S := [i, j]) (by simp))))
  all_goals try go_wp2
  all_goals go_ret
  all_goals (have hc := HC.out)
  all_goals refine ⟨_, by rw [stB_1 hc]; first | rfl | exact ret_bool (by simp [*]), by rw [evL_1 hc, evN_1 hc]; exact hB3, by rw [evL_1 hc, evN_1 hc]; exact hR3, hM2⟩

set_option maxHeartbeats 1000000 in
theorem step_2 (i j b r : Nat) (hij : i ≠ j) (hi0 : i ≠ 0) (hj0 : j ≠ 0) (col : Nat → Nat) (w : World) (K I : Int) (hK0 : 0 ≤ K) (hK1 : K < 256) (S : ByteArray) (L1 : List ByteArray) (m1 n1 : Int) (L2 : List ByteArray) (m2 n2 : Int)
    (hc : K % 4 = 2) (hB : Bag 88 9 1 encS col i w b L1 m1 n1) (hR : Bag 34 9 1 encS col j w r L2 m2 n2) :
    Calls Try.prog 15 #[.pointer (some ⟨b, 0, none⟩), .pointer (some ⟨r, 0, none⟩), .agg #[.int .u8 K, .int .i64 I, .string S]] w (Stepped i j b r col w K I S L1 m1 n1 L2 m2 n2) := by
  have HB0 := below_alloc (Below.refl w.heap.size w) (.cells #[.int .u8 K, .int .i64 I, .string S] 30)
  have hM0 : Mv [i, j] col w (paint col w 0) (w.alloc (.cells #[.int .u8 K, .int .i64 I, .string S] 30)) := Mv.new HB0 0
  have hB1 := hB.kept (Mv.new (S := []) HB0 0) (by simp)
  have hR1 := hR.kept (Mv.new (S := []) HB0 0) (by simp)
  have hbox0 : hp (w.alloc (.cells #[.int .u8 K, .int .i64 I, .string S] 30)) w.heap.size = some (.cells #[.int .u8 K, .int .i64 I, .string S] 30 (0, 0)) := hp_alloc_new w _
  have hcol0 : paint col w 0 w.heap.size = 0 := paint_new (Nat.le_refl _)
  generalize hcd : paint col w 0 = c0 at hM0 hB1 hR1 hcol0
  clear hB hR hcd HB0
  have hc0 : (K % 4 == 0) = false := by simp; omega
  have hc0 : (K % 4 == 1) = false := by simp; omega
  have hc0 : (K % 4 == 2) = true := by simp; omega
  have HC := Lib.hid hc; clear hc
  go_enter Try.func15, Try.ntmps15
  go_wp2
  refine Ph.at_world ?_; intro W1 hW
  rw [← hW] at hM0 hB1 hR1 hbox0
  clear hW
  have cbx := hp_cell hbox0
  go_region_with (first | (go_at_call 41; refine (bs_double _ i _ b L1 m1 n1 (hB1.below (below_drew (Below.refl _ _))) I).mono ?_; rintro e w1 ⟨rfl, hB2, hC⟩; have hR2 := (hR1.below (below_drew (Below.refl _ _))).kept hC.mv (by simp; omega); have hM1 := (hM0.after_below (below_drew (Below.refl _ _))).trans (hC.mv' (S := [i, j]) (by simp)); have k2 := hp_ch (hp_below (below_drew (Below.refl _ _)) hbox0) hC (by rw [hcol0]; exact fun e => hi0 e.symm); have c2 := hp_cell k2) | (go_at_call 48; refine (br_double _ j _ r L2 m2 n2 hR2 I).mono ?_; rintro e w2 ⟨rfl, hR3, hC2⟩; have hB3 := hB2.kept hC2.mv (by simp; omega); have hM2 := hM1.trans (hC2.mv' (S := [i, j]) (by simp))))
  all_goals try go_wp2
  all_goals go_ret
  all_goals (have hc := HC.out)
  all_goals refine ⟨_, by rw [stB_2 hc]; first | rfl | exact ret_bool (by simp [*]), by rw [evL_2 hc, evN_2 hc]; exact hB3, by rw [evL_2 hc, evN_2 hc]; exact hR3, hM2⟩

set_option maxHeartbeats 1000000 in
theorem step_3 (i j b r : Nat) (hij : i ≠ j) (hi0 : i ≠ 0) (hj0 : j ≠ 0) (col : Nat → Nat) (w : World) (K I : Int) (hK0 : 0 ≤ K) (hK1 : K < 256) (S : ByteArray) (L1 : List ByteArray) (m1 n1 : Int) (L2 : List ByteArray) (m2 n2 : Int)
    (hc : K % 4 = 3) (hB : Bag 88 9 1 encS col i w b L1 m1 n1) (hR : Bag 34 9 1 encS col j w r L2 m2 n2) :
    Calls Try.prog 15 #[.pointer (some ⟨b, 0, none⟩), .pointer (some ⟨r, 0, none⟩), .agg #[.int .u8 K, .int .i64 I, .string S]] w (Stepped i j b r col w K I S L1 m1 n1 L2 m2 n2) := by
  have HB0 := below_alloc (Below.refl w.heap.size w) (.cells #[.int .u8 K, .int .i64 I, .string S] 30)
  have hM0 : Mv [i, j] col w (paint col w 0) (w.alloc (.cells #[.int .u8 K, .int .i64 I, .string S] 30)) := Mv.new HB0 0
  have hB1 := hB.kept (Mv.new (S := []) HB0 0) (by simp)
  have hR1 := hR.kept (Mv.new (S := []) HB0 0) (by simp)
  have hbox0 : hp (w.alloc (.cells #[.int .u8 K, .int .i64 I, .string S] 30)) w.heap.size = some (.cells #[.int .u8 K, .int .i64 I, .string S] 30 (0, 0)) := hp_alloc_new w _
  have hcol0 : paint col w 0 w.heap.size = 0 := paint_new (Nat.le_refl _)
  generalize hcd : paint col w 0 = c0 at hM0 hB1 hR1 hcol0
  clear hB hR hcd HB0
  have hc0 : (K % 4 == 0) = false := by simp; omega
  have hc0 : (K % 4 == 1) = false := by simp; omega
  have hc0 : (K % 4 == 2) = false := by simp; omega
  have HC := Lib.hid hc; clear hc
  go_enter Try.func15, Try.ntmps15
  go_wp2_with fail
  refine Ph.at_callw ?_; intro W1 hW
  rw [← hW] at hM0 hB1 hR1 hbox0
  clear hW
  have cbx := hp_cell hbox0
  go_wp2_with (first | (go_at_call 39; refine (bs_at _ i _ b L1 m1 n1 hB1 I).mono ?_; rintro e w1 ⟨rfl, rfl⟩) | (go_at_call 49; refine (br_at _ j _ r L2 m2 n2 hR1 I).mono ?_; rintro e w2 ⟨rfl, rfl⟩))
  all_goals try go_wp2
  all_goals go_ret
  all_goals (have hc := HC.out)
  all_goals refine ⟨_, by rw [stB_3 hc]; first | rfl | exact ret_bool (by simp [*]), by rw [evL_3 hc, evN_3 hc]; exact hB1, by rw [evL_3 hc, evN_3 hc]; exact hR1, hM0⟩

theorem step_any (i j b r : Nat) (hij : i ≠ j) (hi0 : i ≠ 0) (hj0 : j ≠ 0) (col : Nat → Nat) (w : World) (K I : Int) (hK0 : 0 ≤ K) (hK1 : K < 256) (S : ByteArray) (L1 : List ByteArray) (m1 n1 : Int) (L2 : List ByteArray) (m2 n2 : Int)
    (hB : Bag 88 9 1 encS col i w b L1 m1 n1) (hR : Bag 34 9 1 encS col j w r L2 m2 n2) :
    Calls Try.prog 15 #[.pointer (some ⟨b, 0, none⟩), .pointer (some ⟨r, 0, none⟩), .agg #[.int .u8 K, .int .i64 I, .string S]] w (Stepped i j b r col w K I S L1 m1 n1 L2 m2 n2) := by
  have hcase : K % 4 = 0 ∨ K % 4 = 1 ∨ K % 4 = 2 ∨ K % 4 = 3 := by omega
  rcases hcase with hc | hc | hc | hc
  · exact step_0 i j b r hij hi0 hj0 col w K I hK0 hK1 S L1 m1 n1 L2 m2 n2 hc hB hR
  · exact step_1 i j b r hij hi0 hj0 col w K I hK0 hK1 S L1 m1 n1 L2 m2 n2 hc hB hR
  · exact step_2 i j b r hij hi0 hj0 col w K I hK0 hK1 S L1 m1 n1 L2 m2 n2 hc hB hR
  · exact step_3 i j b r hij hi0 hj0 col w K I hK0 hK1 S L1 m1 n1 L2 m2 n2 hc hB hR

end Go.Proofs.Ytgacbfbjikjanaa
