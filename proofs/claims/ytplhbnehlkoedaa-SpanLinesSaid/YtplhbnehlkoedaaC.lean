/- Span: the reference's Cut and Compare; what the laws call. -/
import Derived.Test.YtplhbnehlkoedaaB
import Derived.WalkKit
import Derived.WalkLawsBesides
import Derived.WalkSpells
import Derived.Below
import Derived.Deep.RegionHeld3
import Derived.Deep.QuietTactic
import Derived.BigQuiet
import Derived.Deep.DeepCutAuto
import Derived.Deep.DeepMust
import Derived.KernelRfl
import Derived.Outline
import Derived.RegionTactic
namespace Go.Proofs.Ytplhbnehlkoedaa
open Go.RowKit
set_option linter.unusedVariables false
set_option linter.unusedSimpArgs false

attribute [local go_sem] max2_int min2_int max_two min_two ok_ite
attribute [local simp, local go_sem] ne_2 ne_3 ne_4 ne_5 en_2 en_3 en_4 en_5

def rcutL (a b c d : Int) : Int × Int := if emptyB a b then (0, 0) else if emptyB c d then (a, b) else if a < c then (a, if c < b then c else b) else (0, 0)
def rcutR (a b c d : Int) : Int × Int := if emptyB a b then (0, 0) else if emptyB c d then (0, 0) else if d < b then (if a < d then d else a, b) else (0, 0)

theorem rcutL0 {a b c d : Int} (h : emptyB a b = true) : rcutL a b c d = (0, 0) := by unfold rcutL; rw [h]; rfl
theorem rcutR0 {a b c d : Int} (h : emptyB a b = true) : rcutR a b c d = (0, 0) := by unfold rcutR; rw [h]; rfl
theorem rcutL1 {a b c d : Int} (h : emptyB a b = false) (h1 : emptyB c d = true) : rcutL a b c d = (a, b) := by unfold rcutL; rw [h, h1]; rfl
theorem rcutR1 {a b c d : Int} (h : emptyB a b = false) (h1 : emptyB c d = true) : rcutR a b c d = (0, 0) := by unfold rcutR; rw [h, h1]; rfl

set_option maxHeartbeats 8000000 in
theorem rcut (a b c d : Int) (w : World) :
    Calls Try.prog 39 #[.agg #[.int .i64 a, .int .i64 b], .agg #[.int .i64 c, .int .i64 d]] w fun e w' => e = .returned (.tuple #[.agg #[.int .i64 (rcutL a b c d).1, .int .i64 (rcutL a b c d).2], .agg #[.int .i64 (rcutR a b c d).1, .int .i64 (rcutR a b c d).2]]) ∧ Below w.heap.size w w' := by
  cases h0 : emptyB a b
  · skip
    cases h1 : emptyB c d
    · skip
      by_cases h2 : a < c
      · have g2 : ¬ c ≤ a := by omega
        by_cases h3 : c < b
        · have g3 : ¬ b ≤ c := by omega
          by_cases h4 : d < b
          · have g4 : ¬ b ≤ d := by omega
            by_cases h5 : a < d
            · have g5 : ¬ d ≤ a := by omega
              have eL : rcutL a b c d = (a, c) := by unfold rcutL; simp only [h0, h1, Bool.false_eq_true, if_false]; repeat (first | rw [if_pos (by omega)] | rw [if_neg (by omega)])
              have eR : rcutR a b c d = (d, b) := by unfold rcutR; simp only [h0, h1, Bool.false_eq_true, if_false]; repeat (first | rw [if_pos (by omega)] | rw [if_neg (by omega)])
              go_enter Try.func39, Try.ntmps39
              go_upto_region 1 with fail
              refine Ph.at_world ?_; intro W1 hW
              have q0 : hp W1 w.heap.size = some (.cells #[.int .i64 a, .int .i64 b] 29 (0, 0)) := by rw [hW]; simp [hp_alloc, hp_set, hp_drew, hp_drewN, cset_cells]
              have q1 : hp W1 (w.heap.size + 1) = some (.cells #[.int .i64 c, .int .i64 d] 29 (0, 0)) := by rw [hW]; simp [hp_alloc, hp_set, hp_drew, hp_drewN, cset_cells]
              have qr0 : hp W1 (w.heap.size + 1 + 1) = some (.cells #[.int .i64 0, .int .i64 0] 29 (0, 0)) := by rw [hW]; simp [hp_alloc, hp_set, hp_drew, hp_drewN, cset_cells]
              have qr1 : hp W1 (w.heap.size + 1 + 1 + 1) = some (.cells #[.int .i64 0, .int .i64 0] 29 (0, 0)) := by rw [hW]; simp [hp_alloc, hp_set, hp_drew, hp_drewN, cset_cells]
              have HB : Below w.heap.size w W1 := by rw [hW]; (repeat (first | assumption | exact Below.refl _ _ | (refine below_call ?_ (by assumption)) | apply below_alloc | apply below_drew | apply below_drewN | (refine below_set ?_ (by first | (simp; done) | (simp; omega) | omega) _)))
              clear hW
              have k0 := q0; clear q0; have c0 := kcell k0; have f0 := kfree k0
              have k1 := q1; clear q1; have c1 := kcell k1; have f1 := kfree k1
              have kr0 := qr0; clear qr0; have cr0 := kcell kr0; have fr0 := kfree kr0
              have kr1 := qr1; clear qr1; have cr1 := kcell kr1; have fr1 := kfree kr1
              go_wp2_with fail
              go_at_call 16; refine Ph.at_callw ?_; intro W2 hW
              have q0 : hp W2 w.heap.size = some (.cells #[.int .i64 a, .int .i64 b] 29 (0, 0)) := by rw [hW]; simp [hp_alloc, hp_set, hp_drew, hp_drewN, cset_cells, k0, k1, kr0, kr1]
              have q1 : hp W2 (w.heap.size + 1) = some (.cells #[.int .i64 c, .int .i64 d] 29 (0, 0)) := by rw [hW]; simp [hp_alloc, hp_set, hp_drew, hp_drewN, cset_cells, k0, k1, kr0, kr1]
              have qr0 : hp W2 (w.heap.size + 1 + 1) = some (.cells #[.int .i64 0, .int .i64 0] 29 (0, 0)) := by rw [hW]; simp [hp_alloc, hp_set, hp_drew, hp_drewN, cset_cells, k0, k1, kr0, kr1]
              have qr1 : hp W2 (w.heap.size + 1 + 1 + 1) = some (.cells #[.int .i64 0, .int .i64 0] 29 (0, 0)) := by rw [hW]; simp [hp_alloc, hp_set, hp_drew, hp_drewN, cset_cells, k0, k1, kr0, kr1]
              have HB' : Below w.heap.size w W2 := by rw [hW]; (repeat (first | assumption | exact Below.refl _ _ | (refine below_call ?_ (by assumption)) | apply below_alloc | apply below_drew | apply below_drewN | (refine below_set ?_ (by first | (simp; done) | (simp; omega) | omega) _)))
              replace HB := HB'; clear HB'
              clear hW
              clear k0 c0 f0
              clear k1 c1 f1
              clear kr0 cr0 fr0
              clear kr1 cr1 fr1
              have k0 := q0; clear q0; have c0 := kcell k0; have f0 := kfree k0
              have k1 := q1; clear q1; have c1 := kcell k1; have f1 := kfree k1
              have kr0 := qr0; clear qr0; have cr0 := kcell kr0; have fr0 := kfree kr0
              have kr1 := qr1; clear qr1; have cr1 := kcell kr1; have fr1 := kfree kr1
              refine (rempty _ _ _).mono ?_; rintro e v1 ⟨rfl, hb⟩; replace HB := below_call (by first | exact HB | (repeat (first | assumption | exact Below.refl _ _ | (refine below_call ?_ (by assumption)) | apply below_alloc | apply below_drew | apply below_drewN | (refine below_set ?_ (by first | (simp; done) | (simp; omega) | omega) _)))) hb; replace k0 : hp _ w.heap.size = some (.cells #[.int .i64 a, .int .i64 b] 29 (0, 0)) := kblk hb (by first | exact k0 | (simp [hp_alloc, hp_set, hp_drew, hp_drewN, cset_cells, k0, k1, kr0, kr1]; done)); replace k1 : hp _ (w.heap.size + 1) = some (.cells #[.int .i64 c, .int .i64 d] 29 (0, 0)) := kblk hb (by first | exact k1 | (simp [hp_alloc, hp_set, hp_drew, hp_drewN, cset_cells, k0, k1, kr0, kr1]; done)); replace kr0 : hp _ (w.heap.size + 1 + 1) = some (.cells #[.int .i64 0, .int .i64 0] 29 (0, 0)) := kblk hb (by first | exact kr0 | (simp [hp_alloc, hp_set, hp_drew, hp_drewN, cset_cells, k0, k1, kr0, kr1]; done)); replace kr1 : hp _ (w.heap.size + 1 + 1 + 1) = some (.cells #[.int .i64 0, .int .i64 0] 29 (0, 0)) := kblk hb (by first | exact kr1 | (simp [hp_alloc, hp_set, hp_drew, hp_drewN, cset_cells, k0, k1, kr0, kr1]; done)); replace c0 := kcell k0; replace f0 := kfree k0; replace c1 := kcell k1; replace f1 := kfree k1; replace cr0 := kcell kr0; replace fr0 := kfree kr0; replace cr1 := kcell kr1; replace fr1 := kfree kr1
              go_wp2_with fail
              go_at_call 16; refine Ph.at_callw ?_; intro W3 hW
              have q0 : hp W3 w.heap.size = some (.cells #[.int .i64 a, .int .i64 b] 29 (0, 0)) := by rw [hW]; simp [hp_alloc, hp_set, hp_drew, hp_drewN, cset_cells, k0, k1, kr0, kr1]
              have q1 : hp W3 (w.heap.size + 1) = some (.cells #[.int .i64 c, .int .i64 d] 29 (0, 0)) := by rw [hW]; simp [hp_alloc, hp_set, hp_drew, hp_drewN, cset_cells, k0, k1, kr0, kr1]
              have qr0 : hp W3 (w.heap.size + 1 + 1) = some (.cells #[.int .i64 0, .int .i64 0] 29 (0, 0)) := by rw [hW]; simp [hp_alloc, hp_set, hp_drew, hp_drewN, cset_cells, k0, k1, kr0, kr1]
              have qr1 : hp W3 (w.heap.size + 1 + 1 + 1) = some (.cells #[.int .i64 0, .int .i64 0] 29 (0, 0)) := by rw [hW]; simp [hp_alloc, hp_set, hp_drew, hp_drewN, cset_cells, k0, k1, kr0, kr1]
              have HB' : Below w.heap.size w W3 := by rw [hW]; (repeat (first | assumption | exact Below.refl _ _ | (refine below_call ?_ (by assumption)) | apply below_alloc | apply below_drew | apply below_drewN | (refine below_set ?_ (by first | (simp; done) | (simp; omega) | omega) _)))
              replace HB := HB'; clear HB'
              clear hW
              clear k0 c0 f0
              clear k1 c1 f1
              clear kr0 cr0 fr0
              clear kr1 cr1 fr1
              have k0 := q0; clear q0; have c0 := kcell k0; have f0 := kfree k0
              have k1 := q1; clear q1; have c1 := kcell k1; have f1 := kfree k1
              have kr0 := qr0; clear qr0; have cr0 := kcell kr0; have fr0 := kfree kr0
              have kr1 := qr1; clear qr1; have cr1 := kcell kr1; have fr1 := kfree kr1
              refine (rempty _ _ _).mono ?_; rintro e v2 ⟨rfl, hb⟩; replace HB := below_call (by first | exact HB | (repeat (first | assumption | exact Below.refl _ _ | (refine below_call ?_ (by assumption)) | apply below_alloc | apply below_drew | apply below_drewN | (refine below_set ?_ (by first | (simp; done) | (simp; omega) | omega) _)))) hb; replace k0 : hp _ w.heap.size = some (.cells #[.int .i64 a, .int .i64 b] 29 (0, 0)) := kblk hb (by first | exact k0 | (simp [hp_alloc, hp_set, hp_drew, hp_drewN, cset_cells, k0, k1, kr0, kr1]; done)); replace k1 : hp _ (w.heap.size + 1) = some (.cells #[.int .i64 c, .int .i64 d] 29 (0, 0)) := kblk hb (by first | exact k1 | (simp [hp_alloc, hp_set, hp_drew, hp_drewN, cset_cells, k0, k1, kr0, kr1]; done)); replace kr0 : hp _ (w.heap.size + 1 + 1) = some (.cells #[.int .i64 0, .int .i64 0] 29 (0, 0)) := kblk hb (by first | exact kr0 | (simp [hp_alloc, hp_set, hp_drew, hp_drewN, cset_cells, k0, k1, kr0, kr1]; done)); replace kr1 : hp _ (w.heap.size + 1 + 1 + 1) = some (.cells #[.int .i64 0, .int .i64 0] 29 (0, 0)) := kblk hb (by first | exact kr1 | (simp [hp_alloc, hp_set, hp_drew, hp_drewN, cset_cells, k0, k1, kr0, kr1]; done)); replace c0 := kcell k0; replace f0 := kfree k0; replace c1 := kcell k1; replace f1 := kfree k1; replace cr0 := kcell kr0; replace fr0 := kfree kr0; replace cr1 := kcell kr1; replace fr1 := kfree kr1
              have z0 := klt k0
              have y00 : (w.heap.size = v2.heap.size) = False := eq_false (by omega)
              have y01 : (w.heap.size = v2.heap.size + 1) = False := eq_false (by omega)
              have z1 := klt k1
              have y10 : (w.heap.size + 1 = v2.heap.size) = False := eq_false (by omega)
              have y11 : (w.heap.size + 1 = v2.heap.size + 1) = False := eq_false (by omega)
              have zr0 := klt kr0
              have yr00 : (w.heap.size + 1 + 1 = v2.heap.size) = False := eq_false (by omega)
              have yr01 : (w.heap.size + 1 + 1 = v2.heap.size + 1) = False := eq_false (by omega)
              have zr1 := klt kr1
              have yr10 : (w.heap.size + 1 + 1 + 1 = v2.heap.size) = False := eq_false (by omega)
              have yr11 : (w.heap.size + 1 + 1 + 1 = v2.heap.size + 1) = False := eq_false (by omega)
              go_wp2_with fail
              refine Ph.at_world ?_; intro W4 hW
              have n06 : (w.heap.size = v2.heap.size) = False := eq_false (by have := klt k0; omega)
              have n16 : (w.heap.size + 1 = v2.heap.size) = False := eq_false (by have := klt k1; omega)
              have nr06 : (w.heap.size + 1 + 1 = v2.heap.size) = False := eq_false (by have := klt kr0; omega)
              have nr16 : (w.heap.size + 1 + 1 + 1 = v2.heap.size) = False := eq_false (by have := klt kr1; omega)
              have n07 : (w.heap.size = v2.heap.size + 1) = False := eq_false (by have := klt k0; omega)
              have n17 : (w.heap.size + 1 = v2.heap.size + 1) = False := eq_false (by have := klt k1; omega)
              have nr07 : (w.heap.size + 1 + 1 = v2.heap.size + 1) = False := eq_false (by have := klt kr0; omega)
              have nr17 : (w.heap.size + 1 + 1 + 1 = v2.heap.size + 1) = False := eq_false (by have := klt kr1; omega)
              have q0 : hp W4 w.heap.size = some (.cells #[.int .i64 a, .int .i64 b] 29 (0, 0)) := by rw [hW]; simp [hp_alloc, hp_set, hp_drew, hp_drewN, cset_cells, k0, k1, kr0, kr1, n06, n16, nr06, nr16, n07, n17, nr07, nr17]
              have q1 : hp W4 (w.heap.size + 1) = some (.cells #[.int .i64 c, .int .i64 d] 29 (0, 0)) := by rw [hW]; simp [hp_alloc, hp_set, hp_drew, hp_drewN, cset_cells, k0, k1, kr0, kr1, n06, n16, nr06, nr16, n07, n17, nr07, nr17]
              have qr0 : hp W4 (w.heap.size + 1 + 1) = some (.cells #[.int .i64 0, .int .i64 0] 29 (0, 0)) := by rw [hW]; simp [hp_alloc, hp_set, hp_drew, hp_drewN, cset_cells, k0, k1, kr0, kr1, n06, n16, nr06, nr16, n07, n17, nr07, nr17]
              have qr1 : hp W4 (w.heap.size + 1 + 1 + 1) = some (.cells #[.int .i64 0, .int .i64 0] 29 (0, 0)) := by rw [hW]; simp [hp_alloc, hp_set, hp_drew, hp_drewN, cset_cells, k0, k1, kr0, kr1, n06, n16, nr06, nr16, n07, n17, nr07, nr17]
              have q6 : hp W4 v2.heap.size = some (.cells #[.int .i64 a, .int .i64 c] 29 (0, 0)) := by rw [hW]; simp [hp_alloc, hp_set, hp_drew, hp_drewN, cset_cells, k0, k1, kr0, kr1, n06, n16, nr06, nr16, n07, n17, nr07, nr17]
              have q7 : hp W4 (v2.heap.size + 1) = some (.cells #[.int .i64 d, .int .i64 b] 29 (0, 0)) := by rw [hW]; simp [hp_alloc, hp_set, hp_drew, hp_drewN, cset_cells, k0, k1, kr0, kr1, n06, n16, nr06, nr16, n07, n17, nr07, nr17]
              have HB' : Below w.heap.size w W4 := by rw [hW]; (repeat (first | assumption | exact Below.refl _ _ | (refine below_call ?_ (by assumption)) | apply below_alloc | apply below_drew | apply below_drewN | (refine below_set ?_ (by first | (simp; done) | (simp; omega) | omega) _)))
              replace HB := HB'; clear HB'
              clear hW
              clear k0 c0 f0
              clear k1 c1 f1
              clear kr0 cr0 fr0
              clear kr1 cr1 fr1
              have k0 := q0; clear q0; have c0 := kcell k0; have f0 := kfree k0
              have k1 := q1; clear q1; have c1 := kcell k1; have f1 := kfree k1
              have kr0 := qr0; clear qr0; have cr0 := kcell kr0; have fr0 := kfree kr0
              have kr1 := qr1; clear qr1; have cr1 := kcell kr1; have fr1 := kfree kr1
              have k6 := q6; clear q6; have c6 := kcell k6; have f6 := kfree k6
              have k7 := q7; clear q7; have c7 := kcell k7; have f7 := kfree k7
              go_region
              all_goals try go_wp2
              all_goals refine bodyPost_ret (v := .tuple #[.agg #[.int .i64 (rcutL a b c d).1, .int .i64 (rcutL a b c d).2], .agg #[.int .i64 (rcutR a b c d).1, .int .i64 (rcutR a b c d).2]]) (by simp [results, Try.results39, go_sem, rcutL0, rcutR0, rcutL1, rcutR1, *]) rfl ⟨?_, by (repeat (first | assumption | exact Below.refl _ _ | (refine below_call ?_ (by assumption)) | apply below_alloc | apply below_drew | apply below_drewN | (refine below_set ?_ (by first | (simp; done) | (simp; omega) | omega) _)))⟩
              all_goals (first | rfl | (simp [rcutL0, rcutR0, rcutL1, rcutR1, *]; done))
            · have g5 : d ≤ a := by omega
              have eL : rcutL a b c d = (a, c) := by unfold rcutL; simp only [h0, h1, Bool.false_eq_true, if_false]; repeat (first | rw [if_pos (by omega)] | rw [if_neg (by omega)])
              have eR : rcutR a b c d = (a, b) := by unfold rcutR; simp only [h0, h1, Bool.false_eq_true, if_false]; repeat (first | rw [if_pos (by omega)] | rw [if_neg (by omega)])
              go_enter Try.func39, Try.ntmps39
              go_upto_region 1 with fail
              refine Ph.at_world ?_; intro W1 hW
              have q0 : hp W1 w.heap.size = some (.cells #[.int .i64 a, .int .i64 b] 29 (0, 0)) := by rw [hW]; simp [hp_alloc, hp_set, hp_drew, hp_drewN, cset_cells]
              have q1 : hp W1 (w.heap.size + 1) = some (.cells #[.int .i64 c, .int .i64 d] 29 (0, 0)) := by rw [hW]; simp [hp_alloc, hp_set, hp_drew, hp_drewN, cset_cells]
              have qr0 : hp W1 (w.heap.size + 1 + 1) = some (.cells #[.int .i64 0, .int .i64 0] 29 (0, 0)) := by rw [hW]; simp [hp_alloc, hp_set, hp_drew, hp_drewN, cset_cells]
              have qr1 : hp W1 (w.heap.size + 1 + 1 + 1) = some (.cells #[.int .i64 0, .int .i64 0] 29 (0, 0)) := by rw [hW]; simp [hp_alloc, hp_set, hp_drew, hp_drewN, cset_cells]
              have HB : Below w.heap.size w W1 := by rw [hW]; (repeat (first | assumption | exact Below.refl _ _ | (refine below_call ?_ (by assumption)) | apply below_alloc | apply below_drew | apply below_drewN | (refine below_set ?_ (by first | (simp; done) | (simp; omega) | omega) _)))
              clear hW
              have k0 := q0; clear q0; have c0 := kcell k0; have f0 := kfree k0
              have k1 := q1; clear q1; have c1 := kcell k1; have f1 := kfree k1
              have kr0 := qr0; clear qr0; have cr0 := kcell kr0; have fr0 := kfree kr0
              have kr1 := qr1; clear qr1; have cr1 := kcell kr1; have fr1 := kfree kr1
              go_wp2_with fail
              go_at_call 16; refine Ph.at_callw ?_; intro W2 hW
              have q0 : hp W2 w.heap.size = some (.cells #[.int .i64 a, .int .i64 b] 29 (0, 0)) := by rw [hW]; simp [hp_alloc, hp_set, hp_drew, hp_drewN, cset_cells, k0, k1, kr0, kr1]
              have q1 : hp W2 (w.heap.size + 1) = some (.cells #[.int .i64 c, .int .i64 d] 29 (0, 0)) := by rw [hW]; simp [hp_alloc, hp_set, hp_drew, hp_drewN, cset_cells, k0, k1, kr0, kr1]
              have qr0 : hp W2 (w.heap.size + 1 + 1) = some (.cells #[.int .i64 0, .int .i64 0] 29 (0, 0)) := by rw [hW]; simp [hp_alloc, hp_set, hp_drew, hp_drewN, cset_cells, k0, k1, kr0, kr1]
              have qr1 : hp W2 (w.heap.size + 1 + 1 + 1) = some (.cells #[.int .i64 0, .int .i64 0] 29 (0, 0)) := by rw [hW]; simp [hp_alloc, hp_set, hp_drew, hp_drewN, cset_cells, k0, k1, kr0, kr1]
              have HB' : Below w.heap.size w W2 := by rw [hW]; (repeat (first | assumption | exact Below.refl _ _ | (refine below_call ?_ (by assumption)) | apply below_alloc | apply below_drew | apply below_drewN | (refine below_set ?_ (by first | (simp; done) | (simp; omega) | omega) _)))
              replace HB := HB'; clear HB'
              clear hW
              clear k0 c0 f0
              clear k1 c1 f1
              clear kr0 cr0 fr0
              clear kr1 cr1 fr1
              have k0 := q0; clear q0; have c0 := kcell k0; have f0 := kfree k0
              have k1 := q1; clear q1; have c1 := kcell k1; have f1 := kfree k1
              have kr0 := qr0; clear qr0; have cr0 := kcell kr0; have fr0 := kfree kr0
              have kr1 := qr1; clear qr1; have cr1 := kcell kr1; have fr1 := kfree kr1
              refine (rempty _ _ _).mono ?_; rintro e v1 ⟨rfl, hb⟩; replace HB := below_call (by first | exact HB | (repeat (first | assumption | exact Below.refl _ _ | (refine below_call ?_ (by assumption)) | apply below_alloc | apply below_drew | apply below_drewN | (refine below_set ?_ (by first | (simp; done) | (simp; omega) | omega) _)))) hb; replace k0 : hp _ w.heap.size = some (.cells #[.int .i64 a, .int .i64 b] 29 (0, 0)) := kblk hb (by first | exact k0 | (simp [hp_alloc, hp_set, hp_drew, hp_drewN, cset_cells, k0, k1, kr0, kr1]; done)); replace k1 : hp _ (w.heap.size + 1) = some (.cells #[.int .i64 c, .int .i64 d] 29 (0, 0)) := kblk hb (by first | exact k1 | (simp [hp_alloc, hp_set, hp_drew, hp_drewN, cset_cells, k0, k1, kr0, kr1]; done)); replace kr0 : hp _ (w.heap.size + 1 + 1) = some (.cells #[.int .i64 0, .int .i64 0] 29 (0, 0)) := kblk hb (by first | exact kr0 | (simp [hp_alloc, hp_set, hp_drew, hp_drewN, cset_cells, k0, k1, kr0, kr1]; done)); replace kr1 : hp _ (w.heap.size + 1 + 1 + 1) = some (.cells #[.int .i64 0, .int .i64 0] 29 (0, 0)) := kblk hb (by first | exact kr1 | (simp [hp_alloc, hp_set, hp_drew, hp_drewN, cset_cells, k0, k1, kr0, kr1]; done)); replace c0 := kcell k0; replace f0 := kfree k0; replace c1 := kcell k1; replace f1 := kfree k1; replace cr0 := kcell kr0; replace fr0 := kfree kr0; replace cr1 := kcell kr1; replace fr1 := kfree kr1
              go_wp2_with fail
              go_at_call 16; refine Ph.at_callw ?_; intro W3 hW
              have q0 : hp W3 w.heap.size = some (.cells #[.int .i64 a, .int .i64 b] 29 (0, 0)) := by rw [hW]; simp [hp_alloc, hp_set, hp_drew, hp_drewN, cset_cells, k0, k1, kr0, kr1]
              have q1 : hp W3 (w.heap.size + 1) = some (.cells #[.int .i64 c, .int .i64 d] 29 (0, 0)) := by rw [hW]; simp [hp_alloc, hp_set, hp_drew, hp_drewN, cset_cells, k0, k1, kr0, kr1]
              have qr0 : hp W3 (w.heap.size + 1 + 1) = some (.cells #[.int .i64 0, .int .i64 0] 29 (0, 0)) := by rw [hW]; simp [hp_alloc, hp_set, hp_drew, hp_drewN, cset_cells, k0, k1, kr0, kr1]
              have qr1 : hp W3 (w.heap.size + 1 + 1 + 1) = some (.cells #[.int .i64 0, .int .i64 0] 29 (0, 0)) := by rw [hW]; simp [hp_alloc, hp_set, hp_drew, hp_drewN, cset_cells, k0, k1, kr0, kr1]
              have HB' : Below w.heap.size w W3 := by rw [hW]; (repeat (first | assumption | exact Below.refl _ _ | (refine below_call ?_ (by assumption)) | apply below_alloc | apply below_drew | apply below_drewN | (refine below_set ?_ (by first | (simp; done) | (simp; omega) | omega) _)))
              replace HB := HB'; clear HB'
              clear hW
              clear k0 c0 f0
              clear k1 c1 f1
              clear kr0 cr0 fr0
              clear kr1 cr1 fr1
              have k0 := q0; clear q0; have c0 := kcell k0; have f0 := kfree k0
              have k1 := q1; clear q1; have c1 := kcell k1; have f1 := kfree k1
              have kr0 := qr0; clear qr0; have cr0 := kcell kr0; have fr0 := kfree kr0
              have kr1 := qr1; clear qr1; have cr1 := kcell kr1; have fr1 := kfree kr1
              refine (rempty _ _ _).mono ?_; rintro e v2 ⟨rfl, hb⟩; replace HB := below_call (by first | exact HB | (repeat (first | assumption | exact Below.refl _ _ | (refine below_call ?_ (by assumption)) | apply below_alloc | apply below_drew | apply below_drewN | (refine below_set ?_ (by first | (simp; done) | (simp; omega) | omega) _)))) hb; replace k0 : hp _ w.heap.size = some (.cells #[.int .i64 a, .int .i64 b] 29 (0, 0)) := kblk hb (by first | exact k0 | (simp [hp_alloc, hp_set, hp_drew, hp_drewN, cset_cells, k0, k1, kr0, kr1]; done)); replace k1 : hp _ (w.heap.size + 1) = some (.cells #[.int .i64 c, .int .i64 d] 29 (0, 0)) := kblk hb (by first | exact k1 | (simp [hp_alloc, hp_set, hp_drew, hp_drewN, cset_cells, k0, k1, kr0, kr1]; done)); replace kr0 : hp _ (w.heap.size + 1 + 1) = some (.cells #[.int .i64 0, .int .i64 0] 29 (0, 0)) := kblk hb (by first | exact kr0 | (simp [hp_alloc, hp_set, hp_drew, hp_drewN, cset_cells, k0, k1, kr0, kr1]; done)); replace kr1 : hp _ (w.heap.size + 1 + 1 + 1) = some (.cells #[.int .i64 0, .int .i64 0] 29 (0, 0)) := kblk hb (by first | exact kr1 | (simp [hp_alloc, hp_set, hp_drew, hp_drewN, cset_cells, k0, k1, kr0, kr1]; done)); replace c0 := kcell k0; replace f0 := kfree k0; replace c1 := kcell k1; replace f1 := kfree k1; replace cr0 := kcell kr0; replace fr0 := kfree kr0; replace cr1 := kcell kr1; replace fr1 := kfree kr1
              have z0 := klt k0
              have y00 : (w.heap.size = v2.heap.size) = False := eq_false (by omega)
              have y01 : (w.heap.size = v2.heap.size + 1) = False := eq_false (by omega)
              have z1 := klt k1
              have y10 : (w.heap.size + 1 = v2.heap.size) = False := eq_false (by omega)
              have y11 : (w.heap.size + 1 = v2.heap.size + 1) = False := eq_false (by omega)
              have zr0 := klt kr0
              have yr00 : (w.heap.size + 1 + 1 = v2.heap.size) = False := eq_false (by omega)
              have yr01 : (w.heap.size + 1 + 1 = v2.heap.size + 1) = False := eq_false (by omega)
              have zr1 := klt kr1
              have yr10 : (w.heap.size + 1 + 1 + 1 = v2.heap.size) = False := eq_false (by omega)
              have yr11 : (w.heap.size + 1 + 1 + 1 = v2.heap.size + 1) = False := eq_false (by omega)
              go_wp2_with fail
              refine Ph.at_world ?_; intro W4 hW
              have n06 : (w.heap.size = v2.heap.size) = False := eq_false (by have := klt k0; omega)
              have n16 : (w.heap.size + 1 = v2.heap.size) = False := eq_false (by have := klt k1; omega)
              have nr06 : (w.heap.size + 1 + 1 = v2.heap.size) = False := eq_false (by have := klt kr0; omega)
              have nr16 : (w.heap.size + 1 + 1 + 1 = v2.heap.size) = False := eq_false (by have := klt kr1; omega)
              have n07 : (w.heap.size = v2.heap.size + 1) = False := eq_false (by have := klt k0; omega)
              have n17 : (w.heap.size + 1 = v2.heap.size + 1) = False := eq_false (by have := klt k1; omega)
              have nr07 : (w.heap.size + 1 + 1 = v2.heap.size + 1) = False := eq_false (by have := klt kr0; omega)
              have nr17 : (w.heap.size + 1 + 1 + 1 = v2.heap.size + 1) = False := eq_false (by have := klt kr1; omega)
              have q0 : hp W4 w.heap.size = some (.cells #[.int .i64 a, .int .i64 b] 29 (0, 0)) := by rw [hW]; simp [hp_alloc, hp_set, hp_drew, hp_drewN, cset_cells, k0, k1, kr0, kr1, n06, n16, nr06, nr16, n07, n17, nr07, nr17]
              have q1 : hp W4 (w.heap.size + 1) = some (.cells #[.int .i64 c, .int .i64 d] 29 (0, 0)) := by rw [hW]; simp [hp_alloc, hp_set, hp_drew, hp_drewN, cset_cells, k0, k1, kr0, kr1, n06, n16, nr06, nr16, n07, n17, nr07, nr17]
              have qr0 : hp W4 (w.heap.size + 1 + 1) = some (.cells #[.int .i64 0, .int .i64 0] 29 (0, 0)) := by rw [hW]; simp [hp_alloc, hp_set, hp_drew, hp_drewN, cset_cells, k0, k1, kr0, kr1, n06, n16, nr06, nr16, n07, n17, nr07, nr17]
              have qr1 : hp W4 (w.heap.size + 1 + 1 + 1) = some (.cells #[.int .i64 0, .int .i64 0] 29 (0, 0)) := by rw [hW]; simp [hp_alloc, hp_set, hp_drew, hp_drewN, cset_cells, k0, k1, kr0, kr1, n06, n16, nr06, nr16, n07, n17, nr07, nr17]
              have q6 : hp W4 v2.heap.size = some (.cells #[.int .i64 a, .int .i64 c] 29 (0, 0)) := by rw [hW]; simp [hp_alloc, hp_set, hp_drew, hp_drewN, cset_cells, k0, k1, kr0, kr1, n06, n16, nr06, nr16, n07, n17, nr07, nr17]
              have q7 : hp W4 (v2.heap.size + 1) = some (.cells #[.int .i64 a, .int .i64 b] 29 (0, 0)) := by rw [hW]; simp [hp_alloc, hp_set, hp_drew, hp_drewN, cset_cells, k0, k1, kr0, kr1, n06, n16, nr06, nr16, n07, n17, nr07, nr17]
              have HB' : Below w.heap.size w W4 := by rw [hW]; (repeat (first | assumption | exact Below.refl _ _ | (refine below_call ?_ (by assumption)) | apply below_alloc | apply below_drew | apply below_drewN | (refine below_set ?_ (by first | (simp; done) | (simp; omega) | omega) _)))
              replace HB := HB'; clear HB'
              clear hW
              clear k0 c0 f0
              clear k1 c1 f1
              clear kr0 cr0 fr0
              clear kr1 cr1 fr1
              have k0 := q0; clear q0; have c0 := kcell k0; have f0 := kfree k0
              have k1 := q1; clear q1; have c1 := kcell k1; have f1 := kfree k1
              have kr0 := qr0; clear qr0; have cr0 := kcell kr0; have fr0 := kfree kr0
              have kr1 := qr1; clear qr1; have cr1 := kcell kr1; have fr1 := kfree kr1
              have k6 := q6; clear q6; have c6 := kcell k6; have f6 := kfree k6
              have k7 := q7; clear q7; have c7 := kcell k7; have f7 := kfree k7
              go_region
              all_goals try go_wp2
              all_goals refine bodyPost_ret (v := .tuple #[.agg #[.int .i64 (rcutL a b c d).1, .int .i64 (rcutL a b c d).2], .agg #[.int .i64 (rcutR a b c d).1, .int .i64 (rcutR a b c d).2]]) (by simp [results, Try.results39, go_sem, rcutL0, rcutR0, rcutL1, rcutR1, *]) rfl ⟨?_, by (repeat (first | assumption | exact Below.refl _ _ | (refine below_call ?_ (by assumption)) | apply below_alloc | apply below_drew | apply below_drewN | (refine below_set ?_ (by first | (simp; done) | (simp; omega) | omega) _)))⟩
              all_goals (first | rfl | (simp [rcutL0, rcutR0, rcutL1, rcutR1, *]; done))
          · have g4 : b ≤ d := by omega
            have eL : rcutL a b c d = (a, c) := by unfold rcutL; simp only [h0, h1, Bool.false_eq_true, if_false]; repeat (first | rw [if_pos (by omega)] | rw [if_neg (by omega)])
            have eR : rcutR a b c d = (0, 0) := by unfold rcutR; simp only [h0, h1, Bool.false_eq_true, if_false]; repeat (first | rw [if_pos (by omega)] | rw [if_neg (by omega)])
            go_enter Try.func39, Try.ntmps39
            go_upto_region 1 with fail
            refine Ph.at_world ?_; intro W1 hW
            have q0 : hp W1 w.heap.size = some (.cells #[.int .i64 a, .int .i64 b] 29 (0, 0)) := by rw [hW]; simp [hp_alloc, hp_set, hp_drew, hp_drewN, cset_cells]
            have q1 : hp W1 (w.heap.size + 1) = some (.cells #[.int .i64 c, .int .i64 d] 29 (0, 0)) := by rw [hW]; simp [hp_alloc, hp_set, hp_drew, hp_drewN, cset_cells]
            have qr0 : hp W1 (w.heap.size + 1 + 1) = some (.cells #[.int .i64 0, .int .i64 0] 29 (0, 0)) := by rw [hW]; simp [hp_alloc, hp_set, hp_drew, hp_drewN, cset_cells]
            have qr1 : hp W1 (w.heap.size + 1 + 1 + 1) = some (.cells #[.int .i64 0, .int .i64 0] 29 (0, 0)) := by rw [hW]; simp [hp_alloc, hp_set, hp_drew, hp_drewN, cset_cells]
            have HB : Below w.heap.size w W1 := by rw [hW]; (repeat (first | assumption | exact Below.refl _ _ | (refine below_call ?_ (by assumption)) | apply below_alloc | apply below_drew | apply below_drewN | (refine below_set ?_ (by first | (simp; done) | (simp; omega) | omega) _)))
            clear hW
            have k0 := q0; clear q0; have c0 := kcell k0; have f0 := kfree k0
            have k1 := q1; clear q1; have c1 := kcell k1; have f1 := kfree k1
            have kr0 := qr0; clear qr0; have cr0 := kcell kr0; have fr0 := kfree kr0
            have kr1 := qr1; clear qr1; have cr1 := kcell kr1; have fr1 := kfree kr1
            go_wp2_with fail
            go_at_call 16; refine Ph.at_callw ?_; intro W2 hW
            have q0 : hp W2 w.heap.size = some (.cells #[.int .i64 a, .int .i64 b] 29 (0, 0)) := by rw [hW]; simp [hp_alloc, hp_set, hp_drew, hp_drewN, cset_cells, k0, k1, kr0, kr1]
            have q1 : hp W2 (w.heap.size + 1) = some (.cells #[.int .i64 c, .int .i64 d] 29 (0, 0)) := by rw [hW]; simp [hp_alloc, hp_set, hp_drew, hp_drewN, cset_cells, k0, k1, kr0, kr1]
            have qr0 : hp W2 (w.heap.size + 1 + 1) = some (.cells #[.int .i64 0, .int .i64 0] 29 (0, 0)) := by rw [hW]; simp [hp_alloc, hp_set, hp_drew, hp_drewN, cset_cells, k0, k1, kr0, kr1]
            have qr1 : hp W2 (w.heap.size + 1 + 1 + 1) = some (.cells #[.int .i64 0, .int .i64 0] 29 (0, 0)) := by rw [hW]; simp [hp_alloc, hp_set, hp_drew, hp_drewN, cset_cells, k0, k1, kr0, kr1]
            have HB' : Below w.heap.size w W2 := by rw [hW]; (repeat (first | assumption | exact Below.refl _ _ | (refine below_call ?_ (by assumption)) | apply below_alloc | apply below_drew | apply below_drewN | (refine below_set ?_ (by first | (simp; done) | (simp; omega) | omega) _)))
            replace HB := HB'; clear HB'
            clear hW
            clear k0 c0 f0
            clear k1 c1 f1
            clear kr0 cr0 fr0
            clear kr1 cr1 fr1
            have k0 := q0; clear q0; have c0 := kcell k0; have f0 := kfree k0
            have k1 := q1; clear q1; have c1 := kcell k1; have f1 := kfree k1
            have kr0 := qr0; clear qr0; have cr0 := kcell kr0; have fr0 := kfree kr0
            have kr1 := qr1; clear qr1; have cr1 := kcell kr1; have fr1 := kfree kr1
            refine (rempty _ _ _).mono ?_; rintro e v1 ⟨rfl, hb⟩; replace HB := below_call (by first | exact HB | (repeat (first | assumption | exact Below.refl _ _ | (refine below_call ?_ (by assumption)) | apply below_alloc | apply below_drew | apply below_drewN | (refine below_set ?_ (by first | (simp; done) | (simp; omega) | omega) _)))) hb; replace k0 : hp _ w.heap.size = some (.cells #[.int .i64 a, .int .i64 b] 29 (0, 0)) := kblk hb (by first | exact k0 | (simp [hp_alloc, hp_set, hp_drew, hp_drewN, cset_cells, k0, k1, kr0, kr1]; done)); replace k1 : hp _ (w.heap.size + 1) = some (.cells #[.int .i64 c, .int .i64 d] 29 (0, 0)) := kblk hb (by first | exact k1 | (simp [hp_alloc, hp_set, hp_drew, hp_drewN, cset_cells, k0, k1, kr0, kr1]; done)); replace kr0 : hp _ (w.heap.size + 1 + 1) = some (.cells #[.int .i64 0, .int .i64 0] 29 (0, 0)) := kblk hb (by first | exact kr0 | (simp [hp_alloc, hp_set, hp_drew, hp_drewN, cset_cells, k0, k1, kr0, kr1]; done)); replace kr1 : hp _ (w.heap.size + 1 + 1 + 1) = some (.cells #[.int .i64 0, .int .i64 0] 29 (0, 0)) := kblk hb (by first | exact kr1 | (simp [hp_alloc, hp_set, hp_drew, hp_drewN, cset_cells, k0, k1, kr0, kr1]; done)); replace c0 := kcell k0; replace f0 := kfree k0; replace c1 := kcell k1; replace f1 := kfree k1; replace cr0 := kcell kr0; replace fr0 := kfree kr0; replace cr1 := kcell kr1; replace fr1 := kfree kr1
            go_wp2_with fail
            go_at_call 16; refine Ph.at_callw ?_; intro W3 hW
            have q0 : hp W3 w.heap.size = some (.cells #[.int .i64 a, .int .i64 b] 29 (0, 0)) := by rw [hW]; simp [hp_alloc, hp_set, hp_drew, hp_drewN, cset_cells, k0, k1, kr0, kr1]
            have q1 : hp W3 (w.heap.size + 1) = some (.cells #[.int .i64 c, .int .i64 d] 29 (0, 0)) := by rw [hW]; simp [hp_alloc, hp_set, hp_drew, hp_drewN, cset_cells, k0, k1, kr0, kr1]
            have qr0 : hp W3 (w.heap.size + 1 + 1) = some (.cells #[.int .i64 0, .int .i64 0] 29 (0, 0)) := by rw [hW]; simp [hp_alloc, hp_set, hp_drew, hp_drewN, cset_cells, k0, k1, kr0, kr1]
            have qr1 : hp W3 (w.heap.size + 1 + 1 + 1) = some (.cells #[.int .i64 0, .int .i64 0] 29 (0, 0)) := by rw [hW]; simp [hp_alloc, hp_set, hp_drew, hp_drewN, cset_cells, k0, k1, kr0, kr1]
            have HB' : Below w.heap.size w W3 := by rw [hW]; (repeat (first | assumption | exact Below.refl _ _ | (refine below_call ?_ (by assumption)) | apply below_alloc | apply below_drew | apply below_drewN | (refine below_set ?_ (by first | (simp; done) | (simp; omega) | omega) _)))
            replace HB := HB'; clear HB'
            clear hW
            clear k0 c0 f0
            clear k1 c1 f1
            clear kr0 cr0 fr0
            clear kr1 cr1 fr1
            have k0 := q0; clear q0; have c0 := kcell k0; have f0 := kfree k0
            have k1 := q1; clear q1; have c1 := kcell k1; have f1 := kfree k1
            have kr0 := qr0; clear qr0; have cr0 := kcell kr0; have fr0 := kfree kr0
            have kr1 := qr1; clear qr1; have cr1 := kcell kr1; have fr1 := kfree kr1
            refine (rempty _ _ _).mono ?_; rintro e v2 ⟨rfl, hb⟩; replace HB := below_call (by first | exact HB | (repeat (first | assumption | exact Below.refl _ _ | (refine below_call ?_ (by assumption)) | apply below_alloc | apply below_drew | apply below_drewN | (refine below_set ?_ (by first | (simp; done) | (simp; omega) | omega) _)))) hb; replace k0 : hp _ w.heap.size = some (.cells #[.int .i64 a, .int .i64 b] 29 (0, 0)) := kblk hb (by first | exact k0 | (simp [hp_alloc, hp_set, hp_drew, hp_drewN, cset_cells, k0, k1, kr0, kr1]; done)); replace k1 : hp _ (w.heap.size + 1) = some (.cells #[.int .i64 c, .int .i64 d] 29 (0, 0)) := kblk hb (by first | exact k1 | (simp [hp_alloc, hp_set, hp_drew, hp_drewN, cset_cells, k0, k1, kr0, kr1]; done)); replace kr0 : hp _ (w.heap.size + 1 + 1) = some (.cells #[.int .i64 0, .int .i64 0] 29 (0, 0)) := kblk hb (by first | exact kr0 | (simp [hp_alloc, hp_set, hp_drew, hp_drewN, cset_cells, k0, k1, kr0, kr1]; done)); replace kr1 : hp _ (w.heap.size + 1 + 1 + 1) = some (.cells #[.int .i64 0, .int .i64 0] 29 (0, 0)) := kblk hb (by first | exact kr1 | (simp [hp_alloc, hp_set, hp_drew, hp_drewN, cset_cells, k0, k1, kr0, kr1]; done)); replace c0 := kcell k0; replace f0 := kfree k0; replace c1 := kcell k1; replace f1 := kfree k1; replace cr0 := kcell kr0; replace fr0 := kfree kr0; replace cr1 := kcell kr1; replace fr1 := kfree kr1
            have z0 := klt k0
            have y00 : (w.heap.size = v2.heap.size) = False := eq_false (by omega)
            have y01 : (w.heap.size = v2.heap.size + 1) = False := eq_false (by omega)
            have z1 := klt k1
            have y10 : (w.heap.size + 1 = v2.heap.size) = False := eq_false (by omega)
            have y11 : (w.heap.size + 1 = v2.heap.size + 1) = False := eq_false (by omega)
            have zr0 := klt kr0
            have yr00 : (w.heap.size + 1 + 1 = v2.heap.size) = False := eq_false (by omega)
            have yr01 : (w.heap.size + 1 + 1 = v2.heap.size + 1) = False := eq_false (by omega)
            have zr1 := klt kr1
            have yr10 : (w.heap.size + 1 + 1 + 1 = v2.heap.size) = False := eq_false (by omega)
            have yr11 : (w.heap.size + 1 + 1 + 1 = v2.heap.size + 1) = False := eq_false (by omega)
            go_wp2_with fail
            refine Ph.at_world ?_; intro W4 hW
            have n06 : (w.heap.size = v2.heap.size) = False := eq_false (by have := klt k0; omega)
            have n16 : (w.heap.size + 1 = v2.heap.size) = False := eq_false (by have := klt k1; omega)
            have nr06 : (w.heap.size + 1 + 1 = v2.heap.size) = False := eq_false (by have := klt kr0; omega)
            have nr16 : (w.heap.size + 1 + 1 + 1 = v2.heap.size) = False := eq_false (by have := klt kr1; omega)
            have n07 : (w.heap.size = v2.heap.size + 1) = False := eq_false (by have := klt k0; omega)
            have n17 : (w.heap.size + 1 = v2.heap.size + 1) = False := eq_false (by have := klt k1; omega)
            have nr07 : (w.heap.size + 1 + 1 = v2.heap.size + 1) = False := eq_false (by have := klt kr0; omega)
            have nr17 : (w.heap.size + 1 + 1 + 1 = v2.heap.size + 1) = False := eq_false (by have := klt kr1; omega)
            have q0 : hp W4 w.heap.size = some (.cells #[.int .i64 a, .int .i64 b] 29 (0, 0)) := by rw [hW]; simp [hp_alloc, hp_set, hp_drew, hp_drewN, cset_cells, k0, k1, kr0, kr1, n06, n16, nr06, nr16, n07, n17, nr07, nr17]
            have q1 : hp W4 (w.heap.size + 1) = some (.cells #[.int .i64 c, .int .i64 d] 29 (0, 0)) := by rw [hW]; simp [hp_alloc, hp_set, hp_drew, hp_drewN, cset_cells, k0, k1, kr0, kr1, n06, n16, nr06, nr16, n07, n17, nr07, nr17]
            have qr0 : hp W4 (w.heap.size + 1 + 1) = some (.cells #[.int .i64 0, .int .i64 0] 29 (0, 0)) := by rw [hW]; simp [hp_alloc, hp_set, hp_drew, hp_drewN, cset_cells, k0, k1, kr0, kr1, n06, n16, nr06, nr16, n07, n17, nr07, nr17]
            have qr1 : hp W4 (w.heap.size + 1 + 1 + 1) = some (.cells #[.int .i64 0, .int .i64 0] 29 (0, 0)) := by rw [hW]; simp [hp_alloc, hp_set, hp_drew, hp_drewN, cset_cells, k0, k1, kr0, kr1, n06, n16, nr06, nr16, n07, n17, nr07, nr17]
            have q6 : hp W4 v2.heap.size = some (.cells #[.int .i64 a, .int .i64 c] 29 (0, 0)) := by rw [hW]; simp [hp_alloc, hp_set, hp_drew, hp_drewN, cset_cells, k0, k1, kr0, kr1, n06, n16, nr06, nr16, n07, n17, nr07, nr17]
            have q7 : hp W4 (v2.heap.size + 1) = some (.cells #[.int .i64 0, .int .i64 0] 29 (0, 0)) := by rw [hW]; simp [hp_alloc, hp_set, hp_drew, hp_drewN, cset_cells, k0, k1, kr0, kr1, n06, n16, nr06, nr16, n07, n17, nr07, nr17]
            have HB' : Below w.heap.size w W4 := by rw [hW]; (repeat (first | assumption | exact Below.refl _ _ | (refine below_call ?_ (by assumption)) | apply below_alloc | apply below_drew | apply below_drewN | (refine below_set ?_ (by first | (simp; done) | (simp; omega) | omega) _)))
            replace HB := HB'; clear HB'
            clear hW
            clear k0 c0 f0
            clear k1 c1 f1
            clear kr0 cr0 fr0
            clear kr1 cr1 fr1
            have k0 := q0; clear q0; have c0 := kcell k0; have f0 := kfree k0
            have k1 := q1; clear q1; have c1 := kcell k1; have f1 := kfree k1
            have kr0 := qr0; clear qr0; have cr0 := kcell kr0; have fr0 := kfree kr0
            have kr1 := qr1; clear qr1; have cr1 := kcell kr1; have fr1 := kfree kr1
            have k6 := q6; clear q6; have c6 := kcell k6; have f6 := kfree k6
            have k7 := q7; clear q7; have c7 := kcell k7; have f7 := kfree k7
            go_region
            all_goals try go_wp2
            all_goals refine bodyPost_ret (v := .tuple #[.agg #[.int .i64 (rcutL a b c d).1, .int .i64 (rcutL a b c d).2], .agg #[.int .i64 (rcutR a b c d).1, .int .i64 (rcutR a b c d).2]]) (by simp [results, Try.results39, go_sem, rcutL0, rcutR0, rcutL1, rcutR1, *]) rfl ⟨?_, by (repeat (first | assumption | exact Below.refl _ _ | (refine below_call ?_ (by assumption)) | apply below_alloc | apply below_drew | apply below_drewN | (refine below_set ?_ (by first | (simp; done) | (simp; omega) | omega) _)))⟩
            all_goals (first | rfl | (simp [rcutL0, rcutR0, rcutL1, rcutR1, *]; done))
        · have g3 : b ≤ c := by omega
          by_cases h4 : d < b
          · have g4 : ¬ b ≤ d := by omega
            by_cases h5 : a < d
            · have g5 : ¬ d ≤ a := by omega
              have eL : rcutL a b c d = (a, b) := by unfold rcutL; simp only [h0, h1, Bool.false_eq_true, if_false]; repeat (first | rw [if_pos (by omega)] | rw [if_neg (by omega)])
              have eR : rcutR a b c d = (d, b) := by unfold rcutR; simp only [h0, h1, Bool.false_eq_true, if_false]; repeat (first | rw [if_pos (by omega)] | rw [if_neg (by omega)])
              go_enter Try.func39, Try.ntmps39
              go_upto_region 1 with fail
              refine Ph.at_world ?_; intro W1 hW
              have q0 : hp W1 w.heap.size = some (.cells #[.int .i64 a, .int .i64 b] 29 (0, 0)) := by rw [hW]; simp [hp_alloc, hp_set, hp_drew, hp_drewN, cset_cells]
              have q1 : hp W1 (w.heap.size + 1) = some (.cells #[.int .i64 c, .int .i64 d] 29 (0, 0)) := by rw [hW]; simp [hp_alloc, hp_set, hp_drew, hp_drewN, cset_cells]
              have qr0 : hp W1 (w.heap.size + 1 + 1) = some (.cells #[.int .i64 0, .int .i64 0] 29 (0, 0)) := by rw [hW]; simp [hp_alloc, hp_set, hp_drew, hp_drewN, cset_cells]
              have qr1 : hp W1 (w.heap.size + 1 + 1 + 1) = some (.cells #[.int .i64 0, .int .i64 0] 29 (0, 0)) := by rw [hW]; simp [hp_alloc, hp_set, hp_drew, hp_drewN, cset_cells]
              have HB : Below w.heap.size w W1 := by rw [hW]; (repeat (first | assumption | exact Below.refl _ _ | (refine below_call ?_ (by assumption)) | apply below_alloc | apply below_drew | apply below_drewN | (refine below_set ?_ (by first | (simp; done) | (simp; omega) | omega) _)))
              clear hW
              have k0 := q0; clear q0; have c0 := kcell k0; have f0 := kfree k0
              have k1 := q1; clear q1; have c1 := kcell k1; have f1 := kfree k1
              have kr0 := qr0; clear qr0; have cr0 := kcell kr0; have fr0 := kfree kr0
              have kr1 := qr1; clear qr1; have cr1 := kcell kr1; have fr1 := kfree kr1
              go_wp2_with fail
              go_at_call 16; refine Ph.at_callw ?_; intro W2 hW
              have q0 : hp W2 w.heap.size = some (.cells #[.int .i64 a, .int .i64 b] 29 (0, 0)) := by rw [hW]; simp [hp_alloc, hp_set, hp_drew, hp_drewN, cset_cells, k0, k1, kr0, kr1]
              have q1 : hp W2 (w.heap.size + 1) = some (.cells #[.int .i64 c, .int .i64 d] 29 (0, 0)) := by rw [hW]; simp [hp_alloc, hp_set, hp_drew, hp_drewN, cset_cells, k0, k1, kr0, kr1]
              have qr0 : hp W2 (w.heap.size + 1 + 1) = some (.cells #[.int .i64 0, .int .i64 0] 29 (0, 0)) := by rw [hW]; simp [hp_alloc, hp_set, hp_drew, hp_drewN, cset_cells, k0, k1, kr0, kr1]
              have qr1 : hp W2 (w.heap.size + 1 + 1 + 1) = some (.cells #[.int .i64 0, .int .i64 0] 29 (0, 0)) := by rw [hW]; simp [hp_alloc, hp_set, hp_drew, hp_drewN, cset_cells, k0, k1, kr0, kr1]
              have HB' : Below w.heap.size w W2 := by rw [hW]; (repeat (first | assumption | exact Below.refl _ _ | (refine below_call ?_ (by assumption)) | apply below_alloc | apply below_drew | apply below_drewN | (refine below_set ?_ (by first | (simp; done) | (simp; omega) | omega) _)))
              replace HB := HB'; clear HB'
              clear hW
              clear k0 c0 f0
              clear k1 c1 f1
              clear kr0 cr0 fr0
              clear kr1 cr1 fr1
              have k0 := q0; clear q0; have c0 := kcell k0; have f0 := kfree k0
              have k1 := q1; clear q1; have c1 := kcell k1; have f1 := kfree k1
              have kr0 := qr0; clear qr0; have cr0 := kcell kr0; have fr0 := kfree kr0
              have kr1 := qr1; clear qr1; have cr1 := kcell kr1; have fr1 := kfree kr1
              refine (rempty _ _ _).mono ?_; rintro e v1 ⟨rfl, hb⟩; replace HB := below_call (by first | exact HB | (repeat (first | assumption | exact Below.refl _ _ | (refine below_call ?_ (by assumption)) | apply below_alloc | apply below_drew | apply below_drewN | (refine below_set ?_ (by first | (simp; done) | (simp; omega) | omega) _)))) hb; replace k0 : hp _ w.heap.size = some (.cells #[.int .i64 a, .int .i64 b] 29 (0, 0)) := kblk hb (by first | exact k0 | (simp [hp_alloc, hp_set, hp_drew, hp_drewN, cset_cells, k0, k1, kr0, kr1]; done)); replace k1 : hp _ (w.heap.size + 1) = some (.cells #[.int .i64 c, .int .i64 d] 29 (0, 0)) := kblk hb (by first | exact k1 | (simp [hp_alloc, hp_set, hp_drew, hp_drewN, cset_cells, k0, k1, kr0, kr1]; done)); replace kr0 : hp _ (w.heap.size + 1 + 1) = some (.cells #[.int .i64 0, .int .i64 0] 29 (0, 0)) := kblk hb (by first | exact kr0 | (simp [hp_alloc, hp_set, hp_drew, hp_drewN, cset_cells, k0, k1, kr0, kr1]; done)); replace kr1 : hp _ (w.heap.size + 1 + 1 + 1) = some (.cells #[.int .i64 0, .int .i64 0] 29 (0, 0)) := kblk hb (by first | exact kr1 | (simp [hp_alloc, hp_set, hp_drew, hp_drewN, cset_cells, k0, k1, kr0, kr1]; done)); replace c0 := kcell k0; replace f0 := kfree k0; replace c1 := kcell k1; replace f1 := kfree k1; replace cr0 := kcell kr0; replace fr0 := kfree kr0; replace cr1 := kcell kr1; replace fr1 := kfree kr1
              go_wp2_with fail
              go_at_call 16; refine Ph.at_callw ?_; intro W3 hW
              have q0 : hp W3 w.heap.size = some (.cells #[.int .i64 a, .int .i64 b] 29 (0, 0)) := by rw [hW]; simp [hp_alloc, hp_set, hp_drew, hp_drewN, cset_cells, k0, k1, kr0, kr1]
              have q1 : hp W3 (w.heap.size + 1) = some (.cells #[.int .i64 c, .int .i64 d] 29 (0, 0)) := by rw [hW]; simp [hp_alloc, hp_set, hp_drew, hp_drewN, cset_cells, k0, k1, kr0, kr1]
              have qr0 : hp W3 (w.heap.size + 1 + 1) = some (.cells #[.int .i64 0, .int .i64 0] 29 (0, 0)) := by rw [hW]; simp [hp_alloc, hp_set, hp_drew, hp_drewN, cset_cells, k0, k1, kr0, kr1]
              have qr1 : hp W3 (w.heap.size + 1 + 1 + 1) = some (.cells #[.int .i64 0, .int .i64 0] 29 (0, 0)) := by rw [hW]; simp [hp_alloc, hp_set, hp_drew, hp_drewN, cset_cells, k0, k1, kr0, kr1]
              have HB' : Below w.heap.size w W3 := by rw [hW]; (repeat (first | assumption | exact Below.refl _ _ | (refine below_call ?_ (by assumption)) | apply below_alloc | apply below_drew | apply below_drewN | (refine below_set ?_ (by first | (simp; done) | (simp; omega) | omega) _)))
              replace HB := HB'; clear HB'
              clear hW
              clear k0 c0 f0
              clear k1 c1 f1
              clear kr0 cr0 fr0
              clear kr1 cr1 fr1
              have k0 := q0; clear q0; have c0 := kcell k0; have f0 := kfree k0
              have k1 := q1; clear q1; have c1 := kcell k1; have f1 := kfree k1
              have kr0 := qr0; clear qr0; have cr0 := kcell kr0; have fr0 := kfree kr0
              have kr1 := qr1; clear qr1; have cr1 := kcell kr1; have fr1 := kfree kr1
              refine (rempty _ _ _).mono ?_; rintro e v2 ⟨rfl, hb⟩; replace HB := below_call (by first | exact HB | (repeat (first | assumption | exact Below.refl _ _ | (refine below_call ?_ (by assumption)) | apply below_alloc | apply below_drew | apply below_drewN | (refine below_set ?_ (by first | (simp; done) | (simp; omega) | omega) _)))) hb; replace k0 : hp _ w.heap.size = some (.cells #[.int .i64 a, .int .i64 b] 29 (0, 0)) := kblk hb (by first | exact k0 | (simp [hp_alloc, hp_set, hp_drew, hp_drewN, cset_cells, k0, k1, kr0, kr1]; done)); replace k1 : hp _ (w.heap.size + 1) = some (.cells #[.int .i64 c, .int .i64 d] 29 (0, 0)) := kblk hb (by first | exact k1 | (simp [hp_alloc, hp_set, hp_drew, hp_drewN, cset_cells, k0, k1, kr0, kr1]; done)); replace kr0 : hp _ (w.heap.size + 1 + 1) = some (.cells #[.int .i64 0, .int .i64 0] 29 (0, 0)) := kblk hb (by first | exact kr0 | (simp [hp_alloc, hp_set, hp_drew, hp_drewN, cset_cells, k0, k1, kr0, kr1]; done)); replace kr1 : hp _ (w.heap.size + 1 + 1 + 1) = some (.cells #[.int .i64 0, .int .i64 0] 29 (0, 0)) := kblk hb (by first | exact kr1 | (simp [hp_alloc, hp_set, hp_drew, hp_drewN, cset_cells, k0, k1, kr0, kr1]; done)); replace c0 := kcell k0; replace f0 := kfree k0; replace c1 := kcell k1; replace f1 := kfree k1; replace cr0 := kcell kr0; replace fr0 := kfree kr0; replace cr1 := kcell kr1; replace fr1 := kfree kr1
              have z0 := klt k0
              have y00 : (w.heap.size = v2.heap.size) = False := eq_false (by omega)
              have y01 : (w.heap.size = v2.heap.size + 1) = False := eq_false (by omega)
              have z1 := klt k1
              have y10 : (w.heap.size + 1 = v2.heap.size) = False := eq_false (by omega)
              have y11 : (w.heap.size + 1 = v2.heap.size + 1) = False := eq_false (by omega)
              have zr0 := klt kr0
              have yr00 : (w.heap.size + 1 + 1 = v2.heap.size) = False := eq_false (by omega)
              have yr01 : (w.heap.size + 1 + 1 = v2.heap.size + 1) = False := eq_false (by omega)
              have zr1 := klt kr1
              have yr10 : (w.heap.size + 1 + 1 + 1 = v2.heap.size) = False := eq_false (by omega)
              have yr11 : (w.heap.size + 1 + 1 + 1 = v2.heap.size + 1) = False := eq_false (by omega)
              go_wp2_with fail
              refine Ph.at_world ?_; intro W4 hW
              have n06 : (w.heap.size = v2.heap.size) = False := eq_false (by have := klt k0; omega)
              have n16 : (w.heap.size + 1 = v2.heap.size) = False := eq_false (by have := klt k1; omega)
              have nr06 : (w.heap.size + 1 + 1 = v2.heap.size) = False := eq_false (by have := klt kr0; omega)
              have nr16 : (w.heap.size + 1 + 1 + 1 = v2.heap.size) = False := eq_false (by have := klt kr1; omega)
              have n07 : (w.heap.size = v2.heap.size + 1) = False := eq_false (by have := klt k0; omega)
              have n17 : (w.heap.size + 1 = v2.heap.size + 1) = False := eq_false (by have := klt k1; omega)
              have nr07 : (w.heap.size + 1 + 1 = v2.heap.size + 1) = False := eq_false (by have := klt kr0; omega)
              have nr17 : (w.heap.size + 1 + 1 + 1 = v2.heap.size + 1) = False := eq_false (by have := klt kr1; omega)
              have q0 : hp W4 w.heap.size = some (.cells #[.int .i64 a, .int .i64 b] 29 (0, 0)) := by rw [hW]; simp [hp_alloc, hp_set, hp_drew, hp_drewN, cset_cells, k0, k1, kr0, kr1, n06, n16, nr06, nr16, n07, n17, nr07, nr17]
              have q1 : hp W4 (w.heap.size + 1) = some (.cells #[.int .i64 c, .int .i64 d] 29 (0, 0)) := by rw [hW]; simp [hp_alloc, hp_set, hp_drew, hp_drewN, cset_cells, k0, k1, kr0, kr1, n06, n16, nr06, nr16, n07, n17, nr07, nr17]
              have qr0 : hp W4 (w.heap.size + 1 + 1) = some (.cells #[.int .i64 0, .int .i64 0] 29 (0, 0)) := by rw [hW]; simp [hp_alloc, hp_set, hp_drew, hp_drewN, cset_cells, k0, k1, kr0, kr1, n06, n16, nr06, nr16, n07, n17, nr07, nr17]
              have qr1 : hp W4 (w.heap.size + 1 + 1 + 1) = some (.cells #[.int .i64 0, .int .i64 0] 29 (0, 0)) := by rw [hW]; simp [hp_alloc, hp_set, hp_drew, hp_drewN, cset_cells, k0, k1, kr0, kr1, n06, n16, nr06, nr16, n07, n17, nr07, nr17]
              have q6 : hp W4 v2.heap.size = some (.cells #[.int .i64 a, .int .i64 b] 29 (0, 0)) := by rw [hW]; simp [hp_alloc, hp_set, hp_drew, hp_drewN, cset_cells, k0, k1, kr0, kr1, n06, n16, nr06, nr16, n07, n17, nr07, nr17]
              have q7 : hp W4 (v2.heap.size + 1) = some (.cells #[.int .i64 d, .int .i64 b] 29 (0, 0)) := by rw [hW]; simp [hp_alloc, hp_set, hp_drew, hp_drewN, cset_cells, k0, k1, kr0, kr1, n06, n16, nr06, nr16, n07, n17, nr07, nr17]
              have HB' : Below w.heap.size w W4 := by rw [hW]; (repeat (first | assumption | exact Below.refl _ _ | (refine below_call ?_ (by assumption)) | apply below_alloc | apply below_drew | apply below_drewN | (refine below_set ?_ (by first | (simp; done) | (simp; omega) | omega) _)))
              replace HB := HB'; clear HB'
              clear hW
              clear k0 c0 f0
              clear k1 c1 f1
              clear kr0 cr0 fr0
              clear kr1 cr1 fr1
              have k0 := q0; clear q0; have c0 := kcell k0; have f0 := kfree k0
              have k1 := q1; clear q1; have c1 := kcell k1; have f1 := kfree k1
              have kr0 := qr0; clear qr0; have cr0 := kcell kr0; have fr0 := kfree kr0
              have kr1 := qr1; clear qr1; have cr1 := kcell kr1; have fr1 := kfree kr1
              have k6 := q6; clear q6; have c6 := kcell k6; have f6 := kfree k6
              have k7 := q7; clear q7; have c7 := kcell k7; have f7 := kfree k7
              go_region
              all_goals try go_wp2
              all_goals refine bodyPost_ret (v := .tuple #[.agg #[.int .i64 (rcutL a b c d).1, .int .i64 (rcutL a b c d).2], .agg #[.int .i64 (rcutR a b c d).1, .int .i64 (rcutR a b c d).2]]) (by simp [results, Try.results39, go_sem, rcutL0, rcutR0, rcutL1, rcutR1, *]) rfl ⟨?_, by (repeat (first | assumption | exact Below.refl _ _ | (refine below_call ?_ (by assumption)) | apply below_alloc | apply below_drew | apply below_drewN | (refine below_set ?_ (by first | (simp; done) | (simp; omega) | omega) _)))⟩
              all_goals (first | rfl | (simp [rcutL0, rcutR0, rcutL1, rcutR1, *]; done))
            · have g5 : d ≤ a := by omega
              have eL : rcutL a b c d = (a, b) := by unfold rcutL; simp only [h0, h1, Bool.false_eq_true, if_false]; repeat (first | rw [if_pos (by omega)] | rw [if_neg (by omega)])
              have eR : rcutR a b c d = (a, b) := by unfold rcutR; simp only [h0, h1, Bool.false_eq_true, if_false]; repeat (first | rw [if_pos (by omega)] | rw [if_neg (by omega)])
              go_enter Try.func39, Try.ntmps39
              go_upto_region 1 with fail
              refine Ph.at_world ?_; intro W1 hW
              have q0 : hp W1 w.heap.size = some (.cells #[.int .i64 a, .int .i64 b] 29 (0, 0)) := by rw [hW]; simp [hp_alloc, hp_set, hp_drew, hp_drewN, cset_cells]
              have q1 : hp W1 (w.heap.size + 1) = some (.cells #[.int .i64 c, .int .i64 d] 29 (0, 0)) := by rw [hW]; simp [hp_alloc, hp_set, hp_drew, hp_drewN, cset_cells]
              have qr0 : hp W1 (w.heap.size + 1 + 1) = some (.cells #[.int .i64 0, .int .i64 0] 29 (0, 0)) := by rw [hW]; simp [hp_alloc, hp_set, hp_drew, hp_drewN, cset_cells]
              have qr1 : hp W1 (w.heap.size + 1 + 1 + 1) = some (.cells #[.int .i64 0, .int .i64 0] 29 (0, 0)) := by rw [hW]; simp [hp_alloc, hp_set, hp_drew, hp_drewN, cset_cells]
              have HB : Below w.heap.size w W1 := by rw [hW]; (repeat (first | assumption | exact Below.refl _ _ | (refine below_call ?_ (by assumption)) | apply below_alloc | apply below_drew | apply below_drewN | (refine below_set ?_ (by first | (simp; done) | (simp; omega) | omega) _)))
              clear hW
              have k0 := q0; clear q0; have c0 := kcell k0; have f0 := kfree k0
              have k1 := q1; clear q1; have c1 := kcell k1; have f1 := kfree k1
              have kr0 := qr0; clear qr0; have cr0 := kcell kr0; have fr0 := kfree kr0
              have kr1 := qr1; clear qr1; have cr1 := kcell kr1; have fr1 := kfree kr1
              go_wp2_with fail
              go_at_call 16; refine Ph.at_callw ?_; intro W2 hW
              have q0 : hp W2 w.heap.size = some (.cells #[.int .i64 a, .int .i64 b] 29 (0, 0)) := by rw [hW]; simp [hp_alloc, hp_set, hp_drew, hp_drewN, cset_cells, k0, k1, kr0, kr1]
              have q1 : hp W2 (w.heap.size + 1) = some (.cells #[.int .i64 c, .int .i64 d] 29 (0, 0)) := by rw [hW]; simp [hp_alloc, hp_set, hp_drew, hp_drewN, cset_cells, k0, k1, kr0, kr1]
              have qr0 : hp W2 (w.heap.size + 1 + 1) = some (.cells #[.int .i64 0, .int .i64 0] 29 (0, 0)) := by rw [hW]; simp [hp_alloc, hp_set, hp_drew, hp_drewN, cset_cells, k0, k1, kr0, kr1]
              have qr1 : hp W2 (w.heap.size + 1 + 1 + 1) = some (.cells #[.int .i64 0, .int .i64 0] 29 (0, 0)) := by rw [hW]; simp [hp_alloc, hp_set, hp_drew, hp_drewN, cset_cells, k0, k1, kr0, kr1]
              have HB' : Below w.heap.size w W2 := by rw [hW]; (repeat (first | assumption | exact Below.refl _ _ | (refine below_call ?_ (by assumption)) | apply below_alloc | apply below_drew | apply below_drewN | (refine below_set ?_ (by first | (simp; done) | (simp; omega) | omega) _)))
              replace HB := HB'; clear HB'
              clear hW
              clear k0 c0 f0
              clear k1 c1 f1
              clear kr0 cr0 fr0
              clear kr1 cr1 fr1
              have k0 := q0; clear q0; have c0 := kcell k0; have f0 := kfree k0
              have k1 := q1; clear q1; have c1 := kcell k1; have f1 := kfree k1
              have kr0 := qr0; clear qr0; have cr0 := kcell kr0; have fr0 := kfree kr0
              have kr1 := qr1; clear qr1; have cr1 := kcell kr1; have fr1 := kfree kr1
              refine (rempty _ _ _).mono ?_; rintro e v1 ⟨rfl, hb⟩; replace HB := below_call (by first | exact HB | (repeat (first | assumption | exact Below.refl _ _ | (refine below_call ?_ (by assumption)) | apply below_alloc | apply below_drew | apply below_drewN | (refine below_set ?_ (by first | (simp; done) | (simp; omega) | omega) _)))) hb; replace k0 : hp _ w.heap.size = some (.cells #[.int .i64 a, .int .i64 b] 29 (0, 0)) := kblk hb (by first | exact k0 | (simp [hp_alloc, hp_set, hp_drew, hp_drewN, cset_cells, k0, k1, kr0, kr1]; done)); replace k1 : hp _ (w.heap.size + 1) = some (.cells #[.int .i64 c, .int .i64 d] 29 (0, 0)) := kblk hb (by first | exact k1 | (simp [hp_alloc, hp_set, hp_drew, hp_drewN, cset_cells, k0, k1, kr0, kr1]; done)); replace kr0 : hp _ (w.heap.size + 1 + 1) = some (.cells #[.int .i64 0, .int .i64 0] 29 (0, 0)) := kblk hb (by first | exact kr0 | (simp [hp_alloc, hp_set, hp_drew, hp_drewN, cset_cells, k0, k1, kr0, kr1]; done)); replace kr1 : hp _ (w.heap.size + 1 + 1 + 1) = some (.cells #[.int .i64 0, .int .i64 0] 29 (0, 0)) := kblk hb (by first | exact kr1 | (simp [hp_alloc, hp_set, hp_drew, hp_drewN, cset_cells, k0, k1, kr0, kr1]; done)); replace c0 := kcell k0; replace f0 := kfree k0; replace c1 := kcell k1; replace f1 := kfree k1; replace cr0 := kcell kr0; replace fr0 := kfree kr0; replace cr1 := kcell kr1; replace fr1 := kfree kr1
              go_wp2_with fail
              go_at_call 16; refine Ph.at_callw ?_; intro W3 hW
              have q0 : hp W3 w.heap.size = some (.cells #[.int .i64 a, .int .i64 b] 29 (0, 0)) := by rw [hW]; simp [hp_alloc, hp_set, hp_drew, hp_drewN, cset_cells, k0, k1, kr0, kr1]
              have q1 : hp W3 (w.heap.size + 1) = some (.cells #[.int .i64 c, .int .i64 d] 29 (0, 0)) := by rw [hW]; simp [hp_alloc, hp_set, hp_drew, hp_drewN, cset_cells, k0, k1, kr0, kr1]
              have qr0 : hp W3 (w.heap.size + 1 + 1) = some (.cells #[.int .i64 0, .int .i64 0] 29 (0, 0)) := by rw [hW]; simp [hp_alloc, hp_set, hp_drew, hp_drewN, cset_cells, k0, k1, kr0, kr1]
              have qr1 : hp W3 (w.heap.size + 1 + 1 + 1) = some (.cells #[.int .i64 0, .int .i64 0] 29 (0, 0)) := by rw [hW]; simp [hp_alloc, hp_set, hp_drew, hp_drewN, cset_cells, k0, k1, kr0, kr1]
              have HB' : Below w.heap.size w W3 := by rw [hW]; (repeat (first | assumption | exact Below.refl _ _ | (refine below_call ?_ (by assumption)) | apply below_alloc | apply below_drew | apply below_drewN | (refine below_set ?_ (by first | (simp; done) | (simp; omega) | omega) _)))
              replace HB := HB'; clear HB'
              clear hW
              clear k0 c0 f0
              clear k1 c1 f1
              clear kr0 cr0 fr0
              clear kr1 cr1 fr1
              have k0 := q0; clear q0; have c0 := kcell k0; have f0 := kfree k0
              have k1 := q1; clear q1; have c1 := kcell k1; have f1 := kfree k1
              have kr0 := qr0; clear qr0; have cr0 := kcell kr0; have fr0 := kfree kr0
              have kr1 := qr1; clear qr1; have cr1 := kcell kr1; have fr1 := kfree kr1
              refine (rempty _ _ _).mono ?_; rintro e v2 ⟨rfl, hb⟩; replace HB := below_call (by first | exact HB | (repeat (first | assumption | exact Below.refl _ _ | (refine below_call ?_ (by assumption)) | apply below_alloc | apply below_drew | apply below_drewN | (refine below_set ?_ (by first | (simp; done) | (simp; omega) | omega) _)))) hb; replace k0 : hp _ w.heap.size = some (.cells #[.int .i64 a, .int .i64 b] 29 (0, 0)) := kblk hb (by first | exact k0 | (simp [hp_alloc, hp_set, hp_drew, hp_drewN, cset_cells, k0, k1, kr0, kr1]; done)); replace k1 : hp _ (w.heap.size + 1) = some (.cells #[.int .i64 c, .int .i64 d] 29 (0, 0)) := kblk hb (by first | exact k1 | (simp [hp_alloc, hp_set, hp_drew, hp_drewN, cset_cells, k0, k1, kr0, kr1]; done)); replace kr0 : hp _ (w.heap.size + 1 + 1) = some (.cells #[.int .i64 0, .int .i64 0] 29 (0, 0)) := kblk hb (by first | exact kr0 | (simp [hp_alloc, hp_set, hp_drew, hp_drewN, cset_cells, k0, k1, kr0, kr1]; done)); replace kr1 : hp _ (w.heap.size + 1 + 1 + 1) = some (.cells #[.int .i64 0, .int .i64 0] 29 (0, 0)) := kblk hb (by first | exact kr1 | (simp [hp_alloc, hp_set, hp_drew, hp_drewN, cset_cells, k0, k1, kr0, kr1]; done)); replace c0 := kcell k0; replace f0 := kfree k0; replace c1 := kcell k1; replace f1 := kfree k1; replace cr0 := kcell kr0; replace fr0 := kfree kr0; replace cr1 := kcell kr1; replace fr1 := kfree kr1
              have z0 := klt k0
              have y00 : (w.heap.size = v2.heap.size) = False := eq_false (by omega)
              have y01 : (w.heap.size = v2.heap.size + 1) = False := eq_false (by omega)
              have z1 := klt k1
              have y10 : (w.heap.size + 1 = v2.heap.size) = False := eq_false (by omega)
              have y11 : (w.heap.size + 1 = v2.heap.size + 1) = False := eq_false (by omega)
              have zr0 := klt kr0
              have yr00 : (w.heap.size + 1 + 1 = v2.heap.size) = False := eq_false (by omega)
              have yr01 : (w.heap.size + 1 + 1 = v2.heap.size + 1) = False := eq_false (by omega)
              have zr1 := klt kr1
              have yr10 : (w.heap.size + 1 + 1 + 1 = v2.heap.size) = False := eq_false (by omega)
              have yr11 : (w.heap.size + 1 + 1 + 1 = v2.heap.size + 1) = False := eq_false (by omega)
              go_wp2_with fail
              refine Ph.at_world ?_; intro W4 hW
              have n06 : (w.heap.size = v2.heap.size) = False := eq_false (by have := klt k0; omega)
              have n16 : (w.heap.size + 1 = v2.heap.size) = False := eq_false (by have := klt k1; omega)
              have nr06 : (w.heap.size + 1 + 1 = v2.heap.size) = False := eq_false (by have := klt kr0; omega)
              have nr16 : (w.heap.size + 1 + 1 + 1 = v2.heap.size) = False := eq_false (by have := klt kr1; omega)
              have n07 : (w.heap.size = v2.heap.size + 1) = False := eq_false (by have := klt k0; omega)
              have n17 : (w.heap.size + 1 = v2.heap.size + 1) = False := eq_false (by have := klt k1; omega)
              have nr07 : (w.heap.size + 1 + 1 = v2.heap.size + 1) = False := eq_false (by have := klt kr0; omega)
              have nr17 : (w.heap.size + 1 + 1 + 1 = v2.heap.size + 1) = False := eq_false (by have := klt kr1; omega)
              have q0 : hp W4 w.heap.size = some (.cells #[.int .i64 a, .int .i64 b] 29 (0, 0)) := by rw [hW]; simp [hp_alloc, hp_set, hp_drew, hp_drewN, cset_cells, k0, k1, kr0, kr1, n06, n16, nr06, nr16, n07, n17, nr07, nr17]
              have q1 : hp W4 (w.heap.size + 1) = some (.cells #[.int .i64 c, .int .i64 d] 29 (0, 0)) := by rw [hW]; simp [hp_alloc, hp_set, hp_drew, hp_drewN, cset_cells, k0, k1, kr0, kr1, n06, n16, nr06, nr16, n07, n17, nr07, nr17]
              have qr0 : hp W4 (w.heap.size + 1 + 1) = some (.cells #[.int .i64 0, .int .i64 0] 29 (0, 0)) := by rw [hW]; simp [hp_alloc, hp_set, hp_drew, hp_drewN, cset_cells, k0, k1, kr0, kr1, n06, n16, nr06, nr16, n07, n17, nr07, nr17]
              have qr1 : hp W4 (w.heap.size + 1 + 1 + 1) = some (.cells #[.int .i64 0, .int .i64 0] 29 (0, 0)) := by rw [hW]; simp [hp_alloc, hp_set, hp_drew, hp_drewN, cset_cells, k0, k1, kr0, kr1, n06, n16, nr06, nr16, n07, n17, nr07, nr17]
              have q6 : hp W4 v2.heap.size = some (.cells #[.int .i64 a, .int .i64 b] 29 (0, 0)) := by rw [hW]; simp [hp_alloc, hp_set, hp_drew, hp_drewN, cset_cells, k0, k1, kr0, kr1, n06, n16, nr06, nr16, n07, n17, nr07, nr17]
              have q7 : hp W4 (v2.heap.size + 1) = some (.cells #[.int .i64 a, .int .i64 b] 29 (0, 0)) := by rw [hW]; simp [hp_alloc, hp_set, hp_drew, hp_drewN, cset_cells, k0, k1, kr0, kr1, n06, n16, nr06, nr16, n07, n17, nr07, nr17]
              have HB' : Below w.heap.size w W4 := by rw [hW]; (repeat (first | assumption | exact Below.refl _ _ | (refine below_call ?_ (by assumption)) | apply below_alloc | apply below_drew | apply below_drewN | (refine below_set ?_ (by first | (simp; done) | (simp; omega) | omega) _)))
              replace HB := HB'; clear HB'
              clear hW
              clear k0 c0 f0
              clear k1 c1 f1
              clear kr0 cr0 fr0
              clear kr1 cr1 fr1
              have k0 := q0; clear q0; have c0 := kcell k0; have f0 := kfree k0
              have k1 := q1; clear q1; have c1 := kcell k1; have f1 := kfree k1
              have kr0 := qr0; clear qr0; have cr0 := kcell kr0; have fr0 := kfree kr0
              have kr1 := qr1; clear qr1; have cr1 := kcell kr1; have fr1 := kfree kr1
              have k6 := q6; clear q6; have c6 := kcell k6; have f6 := kfree k6
              have k7 := q7; clear q7; have c7 := kcell k7; have f7 := kfree k7
              go_region
              all_goals try go_wp2
              all_goals refine bodyPost_ret (v := .tuple #[.agg #[.int .i64 (rcutL a b c d).1, .int .i64 (rcutL a b c d).2], .agg #[.int .i64 (rcutR a b c d).1, .int .i64 (rcutR a b c d).2]]) (by simp [results, Try.results39, go_sem, rcutL0, rcutR0, rcutL1, rcutR1, *]) rfl ⟨?_, by (repeat (first | assumption | exact Below.refl _ _ | (refine below_call ?_ (by assumption)) | apply below_alloc | apply below_drew | apply below_drewN | (refine below_set ?_ (by first | (simp; done) | (simp; omega) | omega) _)))⟩
              all_goals (first | rfl | (simp [rcutL0, rcutR0, rcutL1, rcutR1, *]; done))
          · have g4 : b ≤ d := by omega
            have eL : rcutL a b c d = (a, b) := by unfold rcutL; simp only [h0, h1, Bool.false_eq_true, if_false]; repeat (first | rw [if_pos (by omega)] | rw [if_neg (by omega)])
            have eR : rcutR a b c d = (0, 0) := by unfold rcutR; simp only [h0, h1, Bool.false_eq_true, if_false]; repeat (first | rw [if_pos (by omega)] | rw [if_neg (by omega)])
            go_enter Try.func39, Try.ntmps39
            go_upto_region 1 with fail
            refine Ph.at_world ?_; intro W1 hW
            have q0 : hp W1 w.heap.size = some (.cells #[.int .i64 a, .int .i64 b] 29 (0, 0)) := by rw [hW]; simp [hp_alloc, hp_set, hp_drew, hp_drewN, cset_cells]
            have q1 : hp W1 (w.heap.size + 1) = some (.cells #[.int .i64 c, .int .i64 d] 29 (0, 0)) := by rw [hW]; simp [hp_alloc, hp_set, hp_drew, hp_drewN, cset_cells]
            have qr0 : hp W1 (w.heap.size + 1 + 1) = some (.cells #[.int .i64 0, .int .i64 0] 29 (0, 0)) := by rw [hW]; simp [hp_alloc, hp_set, hp_drew, hp_drewN, cset_cells]
            have qr1 : hp W1 (w.heap.size + 1 + 1 + 1) = some (.cells #[.int .i64 0, .int .i64 0] 29 (0, 0)) := by rw [hW]; simp [hp_alloc, hp_set, hp_drew, hp_drewN, cset_cells]
            have HB : Below w.heap.size w W1 := by rw [hW]; (repeat (first | assumption | exact Below.refl _ _ | (refine below_call ?_ (by assumption)) | apply below_alloc | apply below_drew | apply below_drewN | (refine below_set ?_ (by first | (simp; done) | (simp; omega) | omega) _)))
            clear hW
            have k0 := q0; clear q0; have c0 := kcell k0; have f0 := kfree k0
            have k1 := q1; clear q1; have c1 := kcell k1; have f1 := kfree k1
            have kr0 := qr0; clear qr0; have cr0 := kcell kr0; have fr0 := kfree kr0
            have kr1 := qr1; clear qr1; have cr1 := kcell kr1; have fr1 := kfree kr1
            go_wp2_with fail
            go_at_call 16; refine Ph.at_callw ?_; intro W2 hW
            have q0 : hp W2 w.heap.size = some (.cells #[.int .i64 a, .int .i64 b] 29 (0, 0)) := by rw [hW]; simp [hp_alloc, hp_set, hp_drew, hp_drewN, cset_cells, k0, k1, kr0, kr1]
            have q1 : hp W2 (w.heap.size + 1) = some (.cells #[.int .i64 c, .int .i64 d] 29 (0, 0)) := by rw [hW]; simp [hp_alloc, hp_set, hp_drew, hp_drewN, cset_cells, k0, k1, kr0, kr1]
            have qr0 : hp W2 (w.heap.size + 1 + 1) = some (.cells #[.int .i64 0, .int .i64 0] 29 (0, 0)) := by rw [hW]; simp [hp_alloc, hp_set, hp_drew, hp_drewN, cset_cells, k0, k1, kr0, kr1]
            have qr1 : hp W2 (w.heap.size + 1 + 1 + 1) = some (.cells #[.int .i64 0, .int .i64 0] 29 (0, 0)) := by rw [hW]; simp [hp_alloc, hp_set, hp_drew, hp_drewN, cset_cells, k0, k1, kr0, kr1]
            have HB' : Below w.heap.size w W2 := by rw [hW]; (repeat (first | assumption | exact Below.refl _ _ | (refine below_call ?_ (by assumption)) | apply below_alloc | apply below_drew | apply below_drewN | (refine below_set ?_ (by first | (simp; done) | (simp; omega) | omega) _)))
            replace HB := HB'; clear HB'
            clear hW
            clear k0 c0 f0
            clear k1 c1 f1
            clear kr0 cr0 fr0
            clear kr1 cr1 fr1
            have k0 := q0; clear q0; have c0 := kcell k0; have f0 := kfree k0
            have k1 := q1; clear q1; have c1 := kcell k1; have f1 := kfree k1
            have kr0 := qr0; clear qr0; have cr0 := kcell kr0; have fr0 := kfree kr0
            have kr1 := qr1; clear qr1; have cr1 := kcell kr1; have fr1 := kfree kr1
            refine (rempty _ _ _).mono ?_; rintro e v1 ⟨rfl, hb⟩; replace HB := below_call (by first | exact HB | (repeat (first | assumption | exact Below.refl _ _ | (refine below_call ?_ (by assumption)) | apply below_alloc | apply below_drew | apply below_drewN | (refine below_set ?_ (by first | (simp; done) | (simp; omega) | omega) _)))) hb; replace k0 : hp _ w.heap.size = some (.cells #[.int .i64 a, .int .i64 b] 29 (0, 0)) := kblk hb (by first | exact k0 | (simp [hp_alloc, hp_set, hp_drew, hp_drewN, cset_cells, k0, k1, kr0, kr1]; done)); replace k1 : hp _ (w.heap.size + 1) = some (.cells #[.int .i64 c, .int .i64 d] 29 (0, 0)) := kblk hb (by first | exact k1 | (simp [hp_alloc, hp_set, hp_drew, hp_drewN, cset_cells, k0, k1, kr0, kr1]; done)); replace kr0 : hp _ (w.heap.size + 1 + 1) = some (.cells #[.int .i64 0, .int .i64 0] 29 (0, 0)) := kblk hb (by first | exact kr0 | (simp [hp_alloc, hp_set, hp_drew, hp_drewN, cset_cells, k0, k1, kr0, kr1]; done)); replace kr1 : hp _ (w.heap.size + 1 + 1 + 1) = some (.cells #[.int .i64 0, .int .i64 0] 29 (0, 0)) := kblk hb (by first | exact kr1 | (simp [hp_alloc, hp_set, hp_drew, hp_drewN, cset_cells, k0, k1, kr0, kr1]; done)); replace c0 := kcell k0; replace f0 := kfree k0; replace c1 := kcell k1; replace f1 := kfree k1; replace cr0 := kcell kr0; replace fr0 := kfree kr0; replace cr1 := kcell kr1; replace fr1 := kfree kr1
            go_wp2_with fail
            go_at_call 16; refine Ph.at_callw ?_; intro W3 hW
            have q0 : hp W3 w.heap.size = some (.cells #[.int .i64 a, .int .i64 b] 29 (0, 0)) := by rw [hW]; simp [hp_alloc, hp_set, hp_drew, hp_drewN, cset_cells, k0, k1, kr0, kr1]
            have q1 : hp W3 (w.heap.size + 1) = some (.cells #[.int .i64 c, .int .i64 d] 29 (0, 0)) := by rw [hW]; simp [hp_alloc, hp_set, hp_drew, hp_drewN, cset_cells, k0, k1, kr0, kr1]
            have qr0 : hp W3 (w.heap.size + 1 + 1) = some (.cells #[.int .i64 0, .int .i64 0] 29 (0, 0)) := by rw [hW]; simp [hp_alloc, hp_set, hp_drew, hp_drewN, cset_cells, k0, k1, kr0, kr1]
            have qr1 : hp W3 (w.heap.size + 1 + 1 + 1) = some (.cells #[.int .i64 0, .int .i64 0] 29 (0, 0)) := by rw [hW]; simp [hp_alloc, hp_set, hp_drew, hp_drewN, cset_cells, k0, k1, kr0, kr1]
            have HB' : Below w.heap.size w W3 := by rw [hW]; (repeat (first | assumption | exact Below.refl _ _ | (refine below_call ?_ (by assumption)) | apply below_alloc | apply below_drew | apply below_drewN | (refine below_set ?_ (by first | (simp; done) | (simp; omega) | omega) _)))
            replace HB := HB'; clear HB'
            clear hW
            clear k0 c0 f0
            clear k1 c1 f1
            clear kr0 cr0 fr0
            clear kr1 cr1 fr1
            have k0 := q0; clear q0; have c0 := kcell k0; have f0 := kfree k0
            have k1 := q1; clear q1; have c1 := kcell k1; have f1 := kfree k1
            have kr0 := qr0; clear qr0; have cr0 := kcell kr0; have fr0 := kfree kr0
            have kr1 := qr1; clear qr1; have cr1 := kcell kr1; have fr1 := kfree kr1
            refine (rempty _ _ _).mono ?_; rintro e v2 ⟨rfl, hb⟩; replace HB := below_call (by first | exact HB | (repeat (first | assumption | exact Below.refl _ _ | (refine below_call ?_ (by assumption)) | apply below_alloc | apply below_drew | apply below_drewN | (refine below_set ?_ (by first | (simp; done) | (simp; omega) | omega) _)))) hb; replace k0 : hp _ w.heap.size = some (.cells #[.int .i64 a, .int .i64 b] 29 (0, 0)) := kblk hb (by first | exact k0 | (simp [hp_alloc, hp_set, hp_drew, hp_drewN, cset_cells, k0, k1, kr0, kr1]; done)); replace k1 : hp _ (w.heap.size + 1) = some (.cells #[.int .i64 c, .int .i64 d] 29 (0, 0)) := kblk hb (by first | exact k1 | (simp [hp_alloc, hp_set, hp_drew, hp_drewN, cset_cells, k0, k1, kr0, kr1]; done)); replace kr0 : hp _ (w.heap.size + 1 + 1) = some (.cells #[.int .i64 0, .int .i64 0] 29 (0, 0)) := kblk hb (by first | exact kr0 | (simp [hp_alloc, hp_set, hp_drew, hp_drewN, cset_cells, k0, k1, kr0, kr1]; done)); replace kr1 : hp _ (w.heap.size + 1 + 1 + 1) = some (.cells #[.int .i64 0, .int .i64 0] 29 (0, 0)) := kblk hb (by first | exact kr1 | (simp [hp_alloc, hp_set, hp_drew, hp_drewN, cset_cells, k0, k1, kr0, kr1]; done)); replace c0 := kcell k0; replace f0 := kfree k0; replace c1 := kcell k1; replace f1 := kfree k1; replace cr0 := kcell kr0; replace fr0 := kfree kr0; replace cr1 := kcell kr1; replace fr1 := kfree kr1
            have z0 := klt k0
            have y00 : (w.heap.size = v2.heap.size) = False := eq_false (by omega)
            have y01 : (w.heap.size = v2.heap.size + 1) = False := eq_false (by omega)
            have z1 := klt k1
            have y10 : (w.heap.size + 1 = v2.heap.size) = False := eq_false (by omega)
            have y11 : (w.heap.size + 1 = v2.heap.size + 1) = False := eq_false (by omega)
            have zr0 := klt kr0
            have yr00 : (w.heap.size + 1 + 1 = v2.heap.size) = False := eq_false (by omega)
            have yr01 : (w.heap.size + 1 + 1 = v2.heap.size + 1) = False := eq_false (by omega)
            have zr1 := klt kr1
            have yr10 : (w.heap.size + 1 + 1 + 1 = v2.heap.size) = False := eq_false (by omega)
            have yr11 : (w.heap.size + 1 + 1 + 1 = v2.heap.size + 1) = False := eq_false (by omega)
            go_wp2_with fail
            refine Ph.at_world ?_; intro W4 hW
            have n06 : (w.heap.size = v2.heap.size) = False := eq_false (by have := klt k0; omega)
            have n16 : (w.heap.size + 1 = v2.heap.size) = False := eq_false (by have := klt k1; omega)
            have nr06 : (w.heap.size + 1 + 1 = v2.heap.size) = False := eq_false (by have := klt kr0; omega)
            have nr16 : (w.heap.size + 1 + 1 + 1 = v2.heap.size) = False := eq_false (by have := klt kr1; omega)
            have n07 : (w.heap.size = v2.heap.size + 1) = False := eq_false (by have := klt k0; omega)
            have n17 : (w.heap.size + 1 = v2.heap.size + 1) = False := eq_false (by have := klt k1; omega)
            have nr07 : (w.heap.size + 1 + 1 = v2.heap.size + 1) = False := eq_false (by have := klt kr0; omega)
            have nr17 : (w.heap.size + 1 + 1 + 1 = v2.heap.size + 1) = False := eq_false (by have := klt kr1; omega)
            have q0 : hp W4 w.heap.size = some (.cells #[.int .i64 a, .int .i64 b] 29 (0, 0)) := by rw [hW]; simp [hp_alloc, hp_set, hp_drew, hp_drewN, cset_cells, k0, k1, kr0, kr1, n06, n16, nr06, nr16, n07, n17, nr07, nr17]
            have q1 : hp W4 (w.heap.size + 1) = some (.cells #[.int .i64 c, .int .i64 d] 29 (0, 0)) := by rw [hW]; simp [hp_alloc, hp_set, hp_drew, hp_drewN, cset_cells, k0, k1, kr0, kr1, n06, n16, nr06, nr16, n07, n17, nr07, nr17]
            have qr0 : hp W4 (w.heap.size + 1 + 1) = some (.cells #[.int .i64 0, .int .i64 0] 29 (0, 0)) := by rw [hW]; simp [hp_alloc, hp_set, hp_drew, hp_drewN, cset_cells, k0, k1, kr0, kr1, n06, n16, nr06, nr16, n07, n17, nr07, nr17]
            have qr1 : hp W4 (w.heap.size + 1 + 1 + 1) = some (.cells #[.int .i64 0, .int .i64 0] 29 (0, 0)) := by rw [hW]; simp [hp_alloc, hp_set, hp_drew, hp_drewN, cset_cells, k0, k1, kr0, kr1, n06, n16, nr06, nr16, n07, n17, nr07, nr17]
            have q6 : hp W4 v2.heap.size = some (.cells #[.int .i64 a, .int .i64 b] 29 (0, 0)) := by rw [hW]; simp [hp_alloc, hp_set, hp_drew, hp_drewN, cset_cells, k0, k1, kr0, kr1, n06, n16, nr06, nr16, n07, n17, nr07, nr17]
            have q7 : hp W4 (v2.heap.size + 1) = some (.cells #[.int .i64 0, .int .i64 0] 29 (0, 0)) := by rw [hW]; simp [hp_alloc, hp_set, hp_drew, hp_drewN, cset_cells, k0, k1, kr0, kr1, n06, n16, nr06, nr16, n07, n17, nr07, nr17]
            have HB' : Below w.heap.size w W4 := by rw [hW]; (repeat (first | assumption | exact Below.refl _ _ | (refine below_call ?_ (by assumption)) | apply below_alloc | apply below_drew | apply below_drewN | (refine below_set ?_ (by first | (simp; done) | (simp; omega) | omega) _)))
            replace HB := HB'; clear HB'
            clear hW
            clear k0 c0 f0
            clear k1 c1 f1
            clear kr0 cr0 fr0
            clear kr1 cr1 fr1
            have k0 := q0; clear q0; have c0 := kcell k0; have f0 := kfree k0
            have k1 := q1; clear q1; have c1 := kcell k1; have f1 := kfree k1
            have kr0 := qr0; clear qr0; have cr0 := kcell kr0; have fr0 := kfree kr0
            have kr1 := qr1; clear qr1; have cr1 := kcell kr1; have fr1 := kfree kr1
            have k6 := q6; clear q6; have c6 := kcell k6; have f6 := kfree k6
            have k7 := q7; clear q7; have c7 := kcell k7; have f7 := kfree k7
            go_region
            all_goals try go_wp2
            all_goals refine bodyPost_ret (v := .tuple #[.agg #[.int .i64 (rcutL a b c d).1, .int .i64 (rcutL a b c d).2], .agg #[.int .i64 (rcutR a b c d).1, .int .i64 (rcutR a b c d).2]]) (by simp [results, Try.results39, go_sem, rcutL0, rcutR0, rcutL1, rcutR1, *]) rfl ⟨?_, by (repeat (first | assumption | exact Below.refl _ _ | (refine below_call ?_ (by assumption)) | apply below_alloc | apply below_drew | apply below_drewN | (refine below_set ?_ (by first | (simp; done) | (simp; omega) | omega) _)))⟩
            all_goals (first | rfl | (simp [rcutL0, rcutR0, rcutL1, rcutR1, *]; done))
      · have g2 : c ≤ a := by omega
        by_cases h3 : d < b
        · have g3 : ¬ b ≤ d := by omega
          by_cases h4 : a < d
          · have g4 : ¬ d ≤ a := by omega
            have eL : rcutL a b c d = (0, 0) := by unfold rcutL; simp only [h0, h1, Bool.false_eq_true, if_false]; repeat (first | rw [if_pos (by omega)] | rw [if_neg (by omega)])
            have eR : rcutR a b c d = (d, b) := by unfold rcutR; simp only [h0, h1, Bool.false_eq_true, if_false]; repeat (first | rw [if_pos (by omega)] | rw [if_neg (by omega)])
            go_enter Try.func39, Try.ntmps39
            go_upto_region 1 with fail
            refine Ph.at_world ?_; intro W1 hW
            have q0 : hp W1 w.heap.size = some (.cells #[.int .i64 a, .int .i64 b] 29 (0, 0)) := by rw [hW]; simp [hp_alloc, hp_set, hp_drew, hp_drewN, cset_cells]
            have q1 : hp W1 (w.heap.size + 1) = some (.cells #[.int .i64 c, .int .i64 d] 29 (0, 0)) := by rw [hW]; simp [hp_alloc, hp_set, hp_drew, hp_drewN, cset_cells]
            have qr0 : hp W1 (w.heap.size + 1 + 1) = some (.cells #[.int .i64 0, .int .i64 0] 29 (0, 0)) := by rw [hW]; simp [hp_alloc, hp_set, hp_drew, hp_drewN, cset_cells]
            have qr1 : hp W1 (w.heap.size + 1 + 1 + 1) = some (.cells #[.int .i64 0, .int .i64 0] 29 (0, 0)) := by rw [hW]; simp [hp_alloc, hp_set, hp_drew, hp_drewN, cset_cells]
            have HB : Below w.heap.size w W1 := by rw [hW]; (repeat (first | assumption | exact Below.refl _ _ | (refine below_call ?_ (by assumption)) | apply below_alloc | apply below_drew | apply below_drewN | (refine below_set ?_ (by first | (simp; done) | (simp; omega) | omega) _)))
            clear hW
            have k0 := q0; clear q0; have c0 := kcell k0; have f0 := kfree k0
            have k1 := q1; clear q1; have c1 := kcell k1; have f1 := kfree k1
            have kr0 := qr0; clear qr0; have cr0 := kcell kr0; have fr0 := kfree kr0
            have kr1 := qr1; clear qr1; have cr1 := kcell kr1; have fr1 := kfree kr1
            go_wp2_with fail
            go_at_call 16; refine Ph.at_callw ?_; intro W2 hW
            have q0 : hp W2 w.heap.size = some (.cells #[.int .i64 a, .int .i64 b] 29 (0, 0)) := by rw [hW]; simp [hp_alloc, hp_set, hp_drew, hp_drewN, cset_cells, k0, k1, kr0, kr1]
            have q1 : hp W2 (w.heap.size + 1) = some (.cells #[.int .i64 c, .int .i64 d] 29 (0, 0)) := by rw [hW]; simp [hp_alloc, hp_set, hp_drew, hp_drewN, cset_cells, k0, k1, kr0, kr1]
            have qr0 : hp W2 (w.heap.size + 1 + 1) = some (.cells #[.int .i64 0, .int .i64 0] 29 (0, 0)) := by rw [hW]; simp [hp_alloc, hp_set, hp_drew, hp_drewN, cset_cells, k0, k1, kr0, kr1]
            have qr1 : hp W2 (w.heap.size + 1 + 1 + 1) = some (.cells #[.int .i64 0, .int .i64 0] 29 (0, 0)) := by rw [hW]; simp [hp_alloc, hp_set, hp_drew, hp_drewN, cset_cells, k0, k1, kr0, kr1]
            have HB' : Below w.heap.size w W2 := by rw [hW]; (repeat (first | assumption | exact Below.refl _ _ | (refine below_call ?_ (by assumption)) | apply below_alloc | apply below_drew | apply below_drewN | (refine below_set ?_ (by first | (simp; done) | (simp; omega) | omega) _)))
            replace HB := HB'; clear HB'
            clear hW
            clear k0 c0 f0
            clear k1 c1 f1
            clear kr0 cr0 fr0
            clear kr1 cr1 fr1
            have k0 := q0; clear q0; have c0 := kcell k0; have f0 := kfree k0
            have k1 := q1; clear q1; have c1 := kcell k1; have f1 := kfree k1
            have kr0 := qr0; clear qr0; have cr0 := kcell kr0; have fr0 := kfree kr0
            have kr1 := qr1; clear qr1; have cr1 := kcell kr1; have fr1 := kfree kr1
            refine (rempty _ _ _).mono ?_; rintro e v1 ⟨rfl, hb⟩; replace HB := below_call (by first | exact HB | (repeat (first | assumption | exact Below.refl _ _ | (refine below_call ?_ (by assumption)) | apply below_alloc | apply below_drew | apply below_drewN | (refine below_set ?_ (by first | (simp; done) | (simp; omega) | omega) _)))) hb; replace k0 : hp _ w.heap.size = some (.cells #[.int .i64 a, .int .i64 b] 29 (0, 0)) := kblk hb (by first | exact k0 | (simp [hp_alloc, hp_set, hp_drew, hp_drewN, cset_cells, k0, k1, kr0, kr1]; done)); replace k1 : hp _ (w.heap.size + 1) = some (.cells #[.int .i64 c, .int .i64 d] 29 (0, 0)) := kblk hb (by first | exact k1 | (simp [hp_alloc, hp_set, hp_drew, hp_drewN, cset_cells, k0, k1, kr0, kr1]; done)); replace kr0 : hp _ (w.heap.size + 1 + 1) = some (.cells #[.int .i64 0, .int .i64 0] 29 (0, 0)) := kblk hb (by first | exact kr0 | (simp [hp_alloc, hp_set, hp_drew, hp_drewN, cset_cells, k0, k1, kr0, kr1]; done)); replace kr1 : hp _ (w.heap.size + 1 + 1 + 1) = some (.cells #[.int .i64 0, .int .i64 0] 29 (0, 0)) := kblk hb (by first | exact kr1 | (simp [hp_alloc, hp_set, hp_drew, hp_drewN, cset_cells, k0, k1, kr0, kr1]; done)); replace c0 := kcell k0; replace f0 := kfree k0; replace c1 := kcell k1; replace f1 := kfree k1; replace cr0 := kcell kr0; replace fr0 := kfree kr0; replace cr1 := kcell kr1; replace fr1 := kfree kr1
            go_wp2_with fail
            go_at_call 16; refine Ph.at_callw ?_; intro W3 hW
            have q0 : hp W3 w.heap.size = some (.cells #[.int .i64 a, .int .i64 b] 29 (0, 0)) := by rw [hW]; simp [hp_alloc, hp_set, hp_drew, hp_drewN, cset_cells, k0, k1, kr0, kr1]
            have q1 : hp W3 (w.heap.size + 1) = some (.cells #[.int .i64 c, .int .i64 d] 29 (0, 0)) := by rw [hW]; simp [hp_alloc, hp_set, hp_drew, hp_drewN, cset_cells, k0, k1, kr0, kr1]
            have qr0 : hp W3 (w.heap.size + 1 + 1) = some (.cells #[.int .i64 0, .int .i64 0] 29 (0, 0)) := by rw [hW]; simp [hp_alloc, hp_set, hp_drew, hp_drewN, cset_cells, k0, k1, kr0, kr1]
            have qr1 : hp W3 (w.heap.size + 1 + 1 + 1) = some (.cells #[.int .i64 0, .int .i64 0] 29 (0, 0)) := by rw [hW]; simp [hp_alloc, hp_set, hp_drew, hp_drewN, cset_cells, k0, k1, kr0, kr1]
            have HB' : Below w.heap.size w W3 := by rw [hW]; (repeat (first | assumption | exact Below.refl _ _ | (refine below_call ?_ (by assumption)) | apply below_alloc | apply below_drew | apply below_drewN | (refine below_set ?_ (by first | (simp; done) | (simp; omega) | omega) _)))
            replace HB := HB'; clear HB'
            clear hW
            clear k0 c0 f0
            clear k1 c1 f1
            clear kr0 cr0 fr0
            clear kr1 cr1 fr1
            have k0 := q0; clear q0; have c0 := kcell k0; have f0 := kfree k0
            have k1 := q1; clear q1; have c1 := kcell k1; have f1 := kfree k1
            have kr0 := qr0; clear qr0; have cr0 := kcell kr0; have fr0 := kfree kr0
            have kr1 := qr1; clear qr1; have cr1 := kcell kr1; have fr1 := kfree kr1
            refine (rempty _ _ _).mono ?_; rintro e v2 ⟨rfl, hb⟩; replace HB := below_call (by first | exact HB | (repeat (first | assumption | exact Below.refl _ _ | (refine below_call ?_ (by assumption)) | apply below_alloc | apply below_drew | apply below_drewN | (refine below_set ?_ (by first | (simp; done) | (simp; omega) | omega) _)))) hb; replace k0 : hp _ w.heap.size = some (.cells #[.int .i64 a, .int .i64 b] 29 (0, 0)) := kblk hb (by first | exact k0 | (simp [hp_alloc, hp_set, hp_drew, hp_drewN, cset_cells, k0, k1, kr0, kr1]; done)); replace k1 : hp _ (w.heap.size + 1) = some (.cells #[.int .i64 c, .int .i64 d] 29 (0, 0)) := kblk hb (by first | exact k1 | (simp [hp_alloc, hp_set, hp_drew, hp_drewN, cset_cells, k0, k1, kr0, kr1]; done)); replace kr0 : hp _ (w.heap.size + 1 + 1) = some (.cells #[.int .i64 0, .int .i64 0] 29 (0, 0)) := kblk hb (by first | exact kr0 | (simp [hp_alloc, hp_set, hp_drew, hp_drewN, cset_cells, k0, k1, kr0, kr1]; done)); replace kr1 : hp _ (w.heap.size + 1 + 1 + 1) = some (.cells #[.int .i64 0, .int .i64 0] 29 (0, 0)) := kblk hb (by first | exact kr1 | (simp [hp_alloc, hp_set, hp_drew, hp_drewN, cset_cells, k0, k1, kr0, kr1]; done)); replace c0 := kcell k0; replace f0 := kfree k0; replace c1 := kcell k1; replace f1 := kfree k1; replace cr0 := kcell kr0; replace fr0 := kfree kr0; replace cr1 := kcell kr1; replace fr1 := kfree kr1
            have z0 := klt k0
            have y00 : (w.heap.size = v2.heap.size) = False := eq_false (by omega)
            have y01 : (w.heap.size = v2.heap.size + 1) = False := eq_false (by omega)
            have z1 := klt k1
            have y10 : (w.heap.size + 1 = v2.heap.size) = False := eq_false (by omega)
            have y11 : (w.heap.size + 1 = v2.heap.size + 1) = False := eq_false (by omega)
            have zr0 := klt kr0
            have yr00 : (w.heap.size + 1 + 1 = v2.heap.size) = False := eq_false (by omega)
            have yr01 : (w.heap.size + 1 + 1 = v2.heap.size + 1) = False := eq_false (by omega)
            have zr1 := klt kr1
            have yr10 : (w.heap.size + 1 + 1 + 1 = v2.heap.size) = False := eq_false (by omega)
            have yr11 : (w.heap.size + 1 + 1 + 1 = v2.heap.size + 1) = False := eq_false (by omega)
            go_wp2_with fail
            refine Ph.at_world ?_; intro W4 hW
            have n06 : (w.heap.size = v2.heap.size) = False := eq_false (by have := klt k0; omega)
            have n16 : (w.heap.size + 1 = v2.heap.size) = False := eq_false (by have := klt k1; omega)
            have nr06 : (w.heap.size + 1 + 1 = v2.heap.size) = False := eq_false (by have := klt kr0; omega)
            have nr16 : (w.heap.size + 1 + 1 + 1 = v2.heap.size) = False := eq_false (by have := klt kr1; omega)
            have n07 : (w.heap.size = v2.heap.size + 1) = False := eq_false (by have := klt k0; omega)
            have n17 : (w.heap.size + 1 = v2.heap.size + 1) = False := eq_false (by have := klt k1; omega)
            have nr07 : (w.heap.size + 1 + 1 = v2.heap.size + 1) = False := eq_false (by have := klt kr0; omega)
            have nr17 : (w.heap.size + 1 + 1 + 1 = v2.heap.size + 1) = False := eq_false (by have := klt kr1; omega)
            have q0 : hp W4 w.heap.size = some (.cells #[.int .i64 a, .int .i64 b] 29 (0, 0)) := by rw [hW]; simp [hp_alloc, hp_set, hp_drew, hp_drewN, cset_cells, k0, k1, kr0, kr1, n06, n16, nr06, nr16, n07, n17, nr07, nr17]
            have q1 : hp W4 (w.heap.size + 1) = some (.cells #[.int .i64 c, .int .i64 d] 29 (0, 0)) := by rw [hW]; simp [hp_alloc, hp_set, hp_drew, hp_drewN, cset_cells, k0, k1, kr0, kr1, n06, n16, nr06, nr16, n07, n17, nr07, nr17]
            have qr0 : hp W4 (w.heap.size + 1 + 1) = some (.cells #[.int .i64 0, .int .i64 0] 29 (0, 0)) := by rw [hW]; simp [hp_alloc, hp_set, hp_drew, hp_drewN, cset_cells, k0, k1, kr0, kr1, n06, n16, nr06, nr16, n07, n17, nr07, nr17]
            have qr1 : hp W4 (w.heap.size + 1 + 1 + 1) = some (.cells #[.int .i64 0, .int .i64 0] 29 (0, 0)) := by rw [hW]; simp [hp_alloc, hp_set, hp_drew, hp_drewN, cset_cells, k0, k1, kr0, kr1, n06, n16, nr06, nr16, n07, n17, nr07, nr17]
            have q6 : hp W4 v2.heap.size = some (.cells #[.int .i64 0, .int .i64 0] 29 (0, 0)) := by rw [hW]; simp [hp_alloc, hp_set, hp_drew, hp_drewN, cset_cells, k0, k1, kr0, kr1, n06, n16, nr06, nr16, n07, n17, nr07, nr17]
            have q7 : hp W4 (v2.heap.size + 1) = some (.cells #[.int .i64 d, .int .i64 b] 29 (0, 0)) := by rw [hW]; simp [hp_alloc, hp_set, hp_drew, hp_drewN, cset_cells, k0, k1, kr0, kr1, n06, n16, nr06, nr16, n07, n17, nr07, nr17]
            have HB' : Below w.heap.size w W4 := by rw [hW]; (repeat (first | assumption | exact Below.refl _ _ | (refine below_call ?_ (by assumption)) | apply below_alloc | apply below_drew | apply below_drewN | (refine below_set ?_ (by first | (simp; done) | (simp; omega) | omega) _)))
            replace HB := HB'; clear HB'
            clear hW
            clear k0 c0 f0
            clear k1 c1 f1
            clear kr0 cr0 fr0
            clear kr1 cr1 fr1
            have k0 := q0; clear q0; have c0 := kcell k0; have f0 := kfree k0
            have k1 := q1; clear q1; have c1 := kcell k1; have f1 := kfree k1
            have kr0 := qr0; clear qr0; have cr0 := kcell kr0; have fr0 := kfree kr0
            have kr1 := qr1; clear qr1; have cr1 := kcell kr1; have fr1 := kfree kr1
            have k6 := q6; clear q6; have c6 := kcell k6; have f6 := kfree k6
            have k7 := q7; clear q7; have c7 := kcell k7; have f7 := kfree k7
            go_region
            all_goals try go_wp2
            all_goals refine bodyPost_ret (v := .tuple #[.agg #[.int .i64 (rcutL a b c d).1, .int .i64 (rcutL a b c d).2], .agg #[.int .i64 (rcutR a b c d).1, .int .i64 (rcutR a b c d).2]]) (by simp [results, Try.results39, go_sem, rcutL0, rcutR0, rcutL1, rcutR1, *]) rfl ⟨?_, by (repeat (first | assumption | exact Below.refl _ _ | (refine below_call ?_ (by assumption)) | apply below_alloc | apply below_drew | apply below_drewN | (refine below_set ?_ (by first | (simp; done) | (simp; omega) | omega) _)))⟩
            all_goals (first | rfl | (simp [rcutL0, rcutR0, rcutL1, rcutR1, *]; done))
          · have g4 : d ≤ a := by omega
            have eL : rcutL a b c d = (0, 0) := by unfold rcutL; simp only [h0, h1, Bool.false_eq_true, if_false]; repeat (first | rw [if_pos (by omega)] | rw [if_neg (by omega)])
            have eR : rcutR a b c d = (a, b) := by unfold rcutR; simp only [h0, h1, Bool.false_eq_true, if_false]; repeat (first | rw [if_pos (by omega)] | rw [if_neg (by omega)])
            go_enter Try.func39, Try.ntmps39
            go_upto_region 1 with fail
            refine Ph.at_world ?_; intro W1 hW
            have q0 : hp W1 w.heap.size = some (.cells #[.int .i64 a, .int .i64 b] 29 (0, 0)) := by rw [hW]; simp [hp_alloc, hp_set, hp_drew, hp_drewN, cset_cells]
            have q1 : hp W1 (w.heap.size + 1) = some (.cells #[.int .i64 c, .int .i64 d] 29 (0, 0)) := by rw [hW]; simp [hp_alloc, hp_set, hp_drew, hp_drewN, cset_cells]
            have qr0 : hp W1 (w.heap.size + 1 + 1) = some (.cells #[.int .i64 0, .int .i64 0] 29 (0, 0)) := by rw [hW]; simp [hp_alloc, hp_set, hp_drew, hp_drewN, cset_cells]
            have qr1 : hp W1 (w.heap.size + 1 + 1 + 1) = some (.cells #[.int .i64 0, .int .i64 0] 29 (0, 0)) := by rw [hW]; simp [hp_alloc, hp_set, hp_drew, hp_drewN, cset_cells]
            have HB : Below w.heap.size w W1 := by rw [hW]; (repeat (first | assumption | exact Below.refl _ _ | (refine below_call ?_ (by assumption)) | apply below_alloc | apply below_drew | apply below_drewN | (refine below_set ?_ (by first | (simp; done) | (simp; omega) | omega) _)))
            clear hW
            have k0 := q0; clear q0; have c0 := kcell k0; have f0 := kfree k0
            have k1 := q1; clear q1; have c1 := kcell k1; have f1 := kfree k1
            have kr0 := qr0; clear qr0; have cr0 := kcell kr0; have fr0 := kfree kr0
            have kr1 := qr1; clear qr1; have cr1 := kcell kr1; have fr1 := kfree kr1
            go_wp2_with fail
            go_at_call 16; refine Ph.at_callw ?_; intro W2 hW
            have q0 : hp W2 w.heap.size = some (.cells #[.int .i64 a, .int .i64 b] 29 (0, 0)) := by rw [hW]; simp [hp_alloc, hp_set, hp_drew, hp_drewN, cset_cells, k0, k1, kr0, kr1]
            have q1 : hp W2 (w.heap.size + 1) = some (.cells #[.int .i64 c, .int .i64 d] 29 (0, 0)) := by rw [hW]; simp [hp_alloc, hp_set, hp_drew, hp_drewN, cset_cells, k0, k1, kr0, kr1]
            have qr0 : hp W2 (w.heap.size + 1 + 1) = some (.cells #[.int .i64 0, .int .i64 0] 29 (0, 0)) := by rw [hW]; simp [hp_alloc, hp_set, hp_drew, hp_drewN, cset_cells, k0, k1, kr0, kr1]
            have qr1 : hp W2 (w.heap.size + 1 + 1 + 1) = some (.cells #[.int .i64 0, .int .i64 0] 29 (0, 0)) := by rw [hW]; simp [hp_alloc, hp_set, hp_drew, hp_drewN, cset_cells, k0, k1, kr0, kr1]
            have HB' : Below w.heap.size w W2 := by rw [hW]; (repeat (first | assumption | exact Below.refl _ _ | (refine below_call ?_ (by assumption)) | apply below_alloc | apply below_drew | apply below_drewN | (refine below_set ?_ (by first | (simp; done) | (simp; omega) | omega) _)))
            replace HB := HB'; clear HB'
            clear hW
            clear k0 c0 f0
            clear k1 c1 f1
            clear kr0 cr0 fr0
            clear kr1 cr1 fr1
            have k0 := q0; clear q0; have c0 := kcell k0; have f0 := kfree k0
            have k1 := q1; clear q1; have c1 := kcell k1; have f1 := kfree k1
            have kr0 := qr0; clear qr0; have cr0 := kcell kr0; have fr0 := kfree kr0
            have kr1 := qr1; clear qr1; have cr1 := kcell kr1; have fr1 := kfree kr1
            refine (rempty _ _ _).mono ?_; rintro e v1 ⟨rfl, hb⟩; replace HB := below_call (by first | exact HB | (repeat (first | assumption | exact Below.refl _ _ | (refine below_call ?_ (by assumption)) | apply below_alloc | apply below_drew | apply below_drewN | (refine below_set ?_ (by first | (simp; done) | (simp; omega) | omega) _)))) hb; replace k0 : hp _ w.heap.size = some (.cells #[.int .i64 a, .int .i64 b] 29 (0, 0)) := kblk hb (by first | exact k0 | (simp [hp_alloc, hp_set, hp_drew, hp_drewN, cset_cells, k0, k1, kr0, kr1]; done)); replace k1 : hp _ (w.heap.size + 1) = some (.cells #[.int .i64 c, .int .i64 d] 29 (0, 0)) := kblk hb (by first | exact k1 | (simp [hp_alloc, hp_set, hp_drew, hp_drewN, cset_cells, k0, k1, kr0, kr1]; done)); replace kr0 : hp _ (w.heap.size + 1 + 1) = some (.cells #[.int .i64 0, .int .i64 0] 29 (0, 0)) := kblk hb (by first | exact kr0 | (simp [hp_alloc, hp_set, hp_drew, hp_drewN, cset_cells, k0, k1, kr0, kr1]; done)); replace kr1 : hp _ (w.heap.size + 1 + 1 + 1) = some (.cells #[.int .i64 0, .int .i64 0] 29 (0, 0)) := kblk hb (by first | exact kr1 | (simp [hp_alloc, hp_set, hp_drew, hp_drewN, cset_cells, k0, k1, kr0, kr1]; done)); replace c0 := kcell k0; replace f0 := kfree k0; replace c1 := kcell k1; replace f1 := kfree k1; replace cr0 := kcell kr0; replace fr0 := kfree kr0; replace cr1 := kcell kr1; replace fr1 := kfree kr1
            go_wp2_with fail
            go_at_call 16; refine Ph.at_callw ?_; intro W3 hW
            have q0 : hp W3 w.heap.size = some (.cells #[.int .i64 a, .int .i64 b] 29 (0, 0)) := by rw [hW]; simp [hp_alloc, hp_set, hp_drew, hp_drewN, cset_cells, k0, k1, kr0, kr1]
            have q1 : hp W3 (w.heap.size + 1) = some (.cells #[.int .i64 c, .int .i64 d] 29 (0, 0)) := by rw [hW]; simp [hp_alloc, hp_set, hp_drew, hp_drewN, cset_cells, k0, k1, kr0, kr1]
            have qr0 : hp W3 (w.heap.size + 1 + 1) = some (.cells #[.int .i64 0, .int .i64 0] 29 (0, 0)) := by rw [hW]; simp [hp_alloc, hp_set, hp_drew, hp_drewN, cset_cells, k0, k1, kr0, kr1]
            have qr1 : hp W3 (w.heap.size + 1 + 1 + 1) = some (.cells #[.int .i64 0, .int .i64 0] 29 (0, 0)) := by rw [hW]; simp [hp_alloc, hp_set, hp_drew, hp_drewN, cset_cells, k0, k1, kr0, kr1]
            have HB' : Below w.heap.size w W3 := by rw [hW]; (repeat (first | assumption | exact Below.refl _ _ | (refine below_call ?_ (by assumption)) | apply below_alloc | apply below_drew | apply below_drewN | (refine below_set ?_ (by first | (simp; done) | (simp; omega) | omega) _)))
            replace HB := HB'; clear HB'
            clear hW
            clear k0 c0 f0
            clear k1 c1 f1
            clear kr0 cr0 fr0
            clear kr1 cr1 fr1
            have k0 := q0; clear q0; have c0 := kcell k0; have f0 := kfree k0
            have k1 := q1; clear q1; have c1 := kcell k1; have f1 := kfree k1
            have kr0 := qr0; clear qr0; have cr0 := kcell kr0; have fr0 := kfree kr0
            have kr1 := qr1; clear qr1; have cr1 := kcell kr1; have fr1 := kfree kr1
            refine (rempty _ _ _).mono ?_; rintro e v2 ⟨rfl, hb⟩; replace HB := below_call (by first | exact HB | (repeat (first | assumption | exact Below.refl _ _ | (refine below_call ?_ (by assumption)) | apply below_alloc | apply below_drew | apply below_drewN | (refine below_set ?_ (by first | (simp; done) | (simp; omega) | omega) _)))) hb; replace k0 : hp _ w.heap.size = some (.cells #[.int .i64 a, .int .i64 b] 29 (0, 0)) := kblk hb (by first | exact k0 | (simp [hp_alloc, hp_set, hp_drew, hp_drewN, cset_cells, k0, k1, kr0, kr1]; done)); replace k1 : hp _ (w.heap.size + 1) = some (.cells #[.int .i64 c, .int .i64 d] 29 (0, 0)) := kblk hb (by first | exact k1 | (simp [hp_alloc, hp_set, hp_drew, hp_drewN, cset_cells, k0, k1, kr0, kr1]; done)); replace kr0 : hp _ (w.heap.size + 1 + 1) = some (.cells #[.int .i64 0, .int .i64 0] 29 (0, 0)) := kblk hb (by first | exact kr0 | (simp [hp_alloc, hp_set, hp_drew, hp_drewN, cset_cells, k0, k1, kr0, kr1]; done)); replace kr1 : hp _ (w.heap.size + 1 + 1 + 1) = some (.cells #[.int .i64 0, .int .i64 0] 29 (0, 0)) := kblk hb (by first | exact kr1 | (simp [hp_alloc, hp_set, hp_drew, hp_drewN, cset_cells, k0, k1, kr0, kr1]; done)); replace c0 := kcell k0; replace f0 := kfree k0; replace c1 := kcell k1; replace f1 := kfree k1; replace cr0 := kcell kr0; replace fr0 := kfree kr0; replace cr1 := kcell kr1; replace fr1 := kfree kr1
            have z0 := klt k0
            have y00 : (w.heap.size = v2.heap.size) = False := eq_false (by omega)
            have y01 : (w.heap.size = v2.heap.size + 1) = False := eq_false (by omega)
            have z1 := klt k1
            have y10 : (w.heap.size + 1 = v2.heap.size) = False := eq_false (by omega)
            have y11 : (w.heap.size + 1 = v2.heap.size + 1) = False := eq_false (by omega)
            have zr0 := klt kr0
            have yr00 : (w.heap.size + 1 + 1 = v2.heap.size) = False := eq_false (by omega)
            have yr01 : (w.heap.size + 1 + 1 = v2.heap.size + 1) = False := eq_false (by omega)
            have zr1 := klt kr1
            have yr10 : (w.heap.size + 1 + 1 + 1 = v2.heap.size) = False := eq_false (by omega)
            have yr11 : (w.heap.size + 1 + 1 + 1 = v2.heap.size + 1) = False := eq_false (by omega)
            go_wp2_with fail
            refine Ph.at_world ?_; intro W4 hW
            have n06 : (w.heap.size = v2.heap.size) = False := eq_false (by have := klt k0; omega)
            have n16 : (w.heap.size + 1 = v2.heap.size) = False := eq_false (by have := klt k1; omega)
            have nr06 : (w.heap.size + 1 + 1 = v2.heap.size) = False := eq_false (by have := klt kr0; omega)
            have nr16 : (w.heap.size + 1 + 1 + 1 = v2.heap.size) = False := eq_false (by have := klt kr1; omega)
            have n07 : (w.heap.size = v2.heap.size + 1) = False := eq_false (by have := klt k0; omega)
            have n17 : (w.heap.size + 1 = v2.heap.size + 1) = False := eq_false (by have := klt k1; omega)
            have nr07 : (w.heap.size + 1 + 1 = v2.heap.size + 1) = False := eq_false (by have := klt kr0; omega)
            have nr17 : (w.heap.size + 1 + 1 + 1 = v2.heap.size + 1) = False := eq_false (by have := klt kr1; omega)
            have q0 : hp W4 w.heap.size = some (.cells #[.int .i64 a, .int .i64 b] 29 (0, 0)) := by rw [hW]; simp [hp_alloc, hp_set, hp_drew, hp_drewN, cset_cells, k0, k1, kr0, kr1, n06, n16, nr06, nr16, n07, n17, nr07, nr17]
            have q1 : hp W4 (w.heap.size + 1) = some (.cells #[.int .i64 c, .int .i64 d] 29 (0, 0)) := by rw [hW]; simp [hp_alloc, hp_set, hp_drew, hp_drewN, cset_cells, k0, k1, kr0, kr1, n06, n16, nr06, nr16, n07, n17, nr07, nr17]
            have qr0 : hp W4 (w.heap.size + 1 + 1) = some (.cells #[.int .i64 0, .int .i64 0] 29 (0, 0)) := by rw [hW]; simp [hp_alloc, hp_set, hp_drew, hp_drewN, cset_cells, k0, k1, kr0, kr1, n06, n16, nr06, nr16, n07, n17, nr07, nr17]
            have qr1 : hp W4 (w.heap.size + 1 + 1 + 1) = some (.cells #[.int .i64 0, .int .i64 0] 29 (0, 0)) := by rw [hW]; simp [hp_alloc, hp_set, hp_drew, hp_drewN, cset_cells, k0, k1, kr0, kr1, n06, n16, nr06, nr16, n07, n17, nr07, nr17]
            have q6 : hp W4 v2.heap.size = some (.cells #[.int .i64 0, .int .i64 0] 29 (0, 0)) := by rw [hW]; simp [hp_alloc, hp_set, hp_drew, hp_drewN, cset_cells, k0, k1, kr0, kr1, n06, n16, nr06, nr16, n07, n17, nr07, nr17]
            have q7 : hp W4 (v2.heap.size + 1) = some (.cells #[.int .i64 a, .int .i64 b] 29 (0, 0)) := by rw [hW]; simp [hp_alloc, hp_set, hp_drew, hp_drewN, cset_cells, k0, k1, kr0, kr1, n06, n16, nr06, nr16, n07, n17, nr07, nr17]
            have HB' : Below w.heap.size w W4 := by rw [hW]; (repeat (first | assumption | exact Below.refl _ _ | (refine below_call ?_ (by assumption)) | apply below_alloc | apply below_drew | apply below_drewN | (refine below_set ?_ (by first | (simp; done) | (simp; omega) | omega) _)))
            replace HB := HB'; clear HB'
            clear hW
            clear k0 c0 f0
            clear k1 c1 f1
            clear kr0 cr0 fr0
            clear kr1 cr1 fr1
            have k0 := q0; clear q0; have c0 := kcell k0; have f0 := kfree k0
            have k1 := q1; clear q1; have c1 := kcell k1; have f1 := kfree k1
            have kr0 := qr0; clear qr0; have cr0 := kcell kr0; have fr0 := kfree kr0
            have kr1 := qr1; clear qr1; have cr1 := kcell kr1; have fr1 := kfree kr1
            have k6 := q6; clear q6; have c6 := kcell k6; have f6 := kfree k6
            have k7 := q7; clear q7; have c7 := kcell k7; have f7 := kfree k7
            go_region
            all_goals try go_wp2
            all_goals refine bodyPost_ret (v := .tuple #[.agg #[.int .i64 (rcutL a b c d).1, .int .i64 (rcutL a b c d).2], .agg #[.int .i64 (rcutR a b c d).1, .int .i64 (rcutR a b c d).2]]) (by simp [results, Try.results39, go_sem, rcutL0, rcutR0, rcutL1, rcutR1, *]) rfl ⟨?_, by (repeat (first | assumption | exact Below.refl _ _ | (refine below_call ?_ (by assumption)) | apply below_alloc | apply below_drew | apply below_drewN | (refine below_set ?_ (by first | (simp; done) | (simp; omega) | omega) _)))⟩
            all_goals (first | rfl | (simp [rcutL0, rcutR0, rcutL1, rcutR1, *]; done))
        · have g3 : b ≤ d := by omega
          have eL : rcutL a b c d = (0, 0) := by unfold rcutL; simp only [h0, h1, Bool.false_eq_true, if_false]; repeat (first | rw [if_pos (by omega)] | rw [if_neg (by omega)])
          have eR : rcutR a b c d = (0, 0) := by unfold rcutR; simp only [h0, h1, Bool.false_eq_true, if_false]; repeat (first | rw [if_pos (by omega)] | rw [if_neg (by omega)])
          go_enter Try.func39, Try.ntmps39
          go_upto_region 1 with fail
          refine Ph.at_world ?_; intro W1 hW
          have q0 : hp W1 w.heap.size = some (.cells #[.int .i64 a, .int .i64 b] 29 (0, 0)) := by rw [hW]; simp [hp_alloc, hp_set, hp_drew, hp_drewN, cset_cells]
          have q1 : hp W1 (w.heap.size + 1) = some (.cells #[.int .i64 c, .int .i64 d] 29 (0, 0)) := by rw [hW]; simp [hp_alloc, hp_set, hp_drew, hp_drewN, cset_cells]
          have qr0 : hp W1 (w.heap.size + 1 + 1) = some (.cells #[.int .i64 0, .int .i64 0] 29 (0, 0)) := by rw [hW]; simp [hp_alloc, hp_set, hp_drew, hp_drewN, cset_cells]
          have qr1 : hp W1 (w.heap.size + 1 + 1 + 1) = some (.cells #[.int .i64 0, .int .i64 0] 29 (0, 0)) := by rw [hW]; simp [hp_alloc, hp_set, hp_drew, hp_drewN, cset_cells]
          have HB : Below w.heap.size w W1 := by rw [hW]; (repeat (first | assumption | exact Below.refl _ _ | (refine below_call ?_ (by assumption)) | apply below_alloc | apply below_drew | apply below_drewN | (refine below_set ?_ (by first | (simp; done) | (simp; omega) | omega) _)))
          clear hW
          have k0 := q0; clear q0; have c0 := kcell k0; have f0 := kfree k0
          have k1 := q1; clear q1; have c1 := kcell k1; have f1 := kfree k1
          have kr0 := qr0; clear qr0; have cr0 := kcell kr0; have fr0 := kfree kr0
          have kr1 := qr1; clear qr1; have cr1 := kcell kr1; have fr1 := kfree kr1
          go_wp2_with fail
          go_at_call 16; refine Ph.at_callw ?_; intro W2 hW
          have q0 : hp W2 w.heap.size = some (.cells #[.int .i64 a, .int .i64 b] 29 (0, 0)) := by rw [hW]; simp [hp_alloc, hp_set, hp_drew, hp_drewN, cset_cells, k0, k1, kr0, kr1]
          have q1 : hp W2 (w.heap.size + 1) = some (.cells #[.int .i64 c, .int .i64 d] 29 (0, 0)) := by rw [hW]; simp [hp_alloc, hp_set, hp_drew, hp_drewN, cset_cells, k0, k1, kr0, kr1]
          have qr0 : hp W2 (w.heap.size + 1 + 1) = some (.cells #[.int .i64 0, .int .i64 0] 29 (0, 0)) := by rw [hW]; simp [hp_alloc, hp_set, hp_drew, hp_drewN, cset_cells, k0, k1, kr0, kr1]
          have qr1 : hp W2 (w.heap.size + 1 + 1 + 1) = some (.cells #[.int .i64 0, .int .i64 0] 29 (0, 0)) := by rw [hW]; simp [hp_alloc, hp_set, hp_drew, hp_drewN, cset_cells, k0, k1, kr0, kr1]
          have HB' : Below w.heap.size w W2 := by rw [hW]; (repeat (first | assumption | exact Below.refl _ _ | (refine below_call ?_ (by assumption)) | apply below_alloc | apply below_drew | apply below_drewN | (refine below_set ?_ (by first | (simp; done) | (simp; omega) | omega) _)))
          replace HB := HB'; clear HB'
          clear hW
          clear k0 c0 f0
          clear k1 c1 f1
          clear kr0 cr0 fr0
          clear kr1 cr1 fr1
          have k0 := q0; clear q0; have c0 := kcell k0; have f0 := kfree k0
          have k1 := q1; clear q1; have c1 := kcell k1; have f1 := kfree k1
          have kr0 := qr0; clear qr0; have cr0 := kcell kr0; have fr0 := kfree kr0
          have kr1 := qr1; clear qr1; have cr1 := kcell kr1; have fr1 := kfree kr1
          refine (rempty _ _ _).mono ?_; rintro e v1 ⟨rfl, hb⟩; replace HB := below_call (by first | exact HB | (repeat (first | assumption | exact Below.refl _ _ | (refine below_call ?_ (by assumption)) | apply below_alloc | apply below_drew | apply below_drewN | (refine below_set ?_ (by first | (simp; done) | (simp; omega) | omega) _)))) hb; replace k0 : hp _ w.heap.size = some (.cells #[.int .i64 a, .int .i64 b] 29 (0, 0)) := kblk hb (by first | exact k0 | (simp [hp_alloc, hp_set, hp_drew, hp_drewN, cset_cells, k0, k1, kr0, kr1]; done)); replace k1 : hp _ (w.heap.size + 1) = some (.cells #[.int .i64 c, .int .i64 d] 29 (0, 0)) := kblk hb (by first | exact k1 | (simp [hp_alloc, hp_set, hp_drew, hp_drewN, cset_cells, k0, k1, kr0, kr1]; done)); replace kr0 : hp _ (w.heap.size + 1 + 1) = some (.cells #[.int .i64 0, .int .i64 0] 29 (0, 0)) := kblk hb (by first | exact kr0 | (simp [hp_alloc, hp_set, hp_drew, hp_drewN, cset_cells, k0, k1, kr0, kr1]; done)); replace kr1 : hp _ (w.heap.size + 1 + 1 + 1) = some (.cells #[.int .i64 0, .int .i64 0] 29 (0, 0)) := kblk hb (by first | exact kr1 | (simp [hp_alloc, hp_set, hp_drew, hp_drewN, cset_cells, k0, k1, kr0, kr1]; done)); replace c0 := kcell k0; replace f0 := kfree k0; replace c1 := kcell k1; replace f1 := kfree k1; replace cr0 := kcell kr0; replace fr0 := kfree kr0; replace cr1 := kcell kr1; replace fr1 := kfree kr1
          go_wp2_with fail
          go_at_call 16; refine Ph.at_callw ?_; intro W3 hW
          have q0 : hp W3 w.heap.size = some (.cells #[.int .i64 a, .int .i64 b] 29 (0, 0)) := by rw [hW]; simp [hp_alloc, hp_set, hp_drew, hp_drewN, cset_cells, k0, k1, kr0, kr1]
          have q1 : hp W3 (w.heap.size + 1) = some (.cells #[.int .i64 c, .int .i64 d] 29 (0, 0)) := by rw [hW]; simp [hp_alloc, hp_set, hp_drew, hp_drewN, cset_cells, k0, k1, kr0, kr1]
          have qr0 : hp W3 (w.heap.size + 1 + 1) = some (.cells #[.int .i64 0, .int .i64 0] 29 (0, 0)) := by rw [hW]; simp [hp_alloc, hp_set, hp_drew, hp_drewN, cset_cells, k0, k1, kr0, kr1]
          have qr1 : hp W3 (w.heap.size + 1 + 1 + 1) = some (.cells #[.int .i64 0, .int .i64 0] 29 (0, 0)) := by rw [hW]; simp [hp_alloc, hp_set, hp_drew, hp_drewN, cset_cells, k0, k1, kr0, kr1]
          have HB' : Below w.heap.size w W3 := by rw [hW]; (repeat (first | assumption | exact Below.refl _ _ | (refine below_call ?_ (by assumption)) | apply below_alloc | apply below_drew | apply below_drewN | (refine below_set ?_ (by first | (simp; done) | (simp; omega) | omega) _)))
          replace HB := HB'; clear HB'
          clear hW
          clear k0 c0 f0
          clear k1 c1 f1
          clear kr0 cr0 fr0
          clear kr1 cr1 fr1
          have k0 := q0; clear q0; have c0 := kcell k0; have f0 := kfree k0
          have k1 := q1; clear q1; have c1 := kcell k1; have f1 := kfree k1
          have kr0 := qr0; clear qr0; have cr0 := kcell kr0; have fr0 := kfree kr0
          have kr1 := qr1; clear qr1; have cr1 := kcell kr1; have fr1 := kfree kr1
          refine (rempty _ _ _).mono ?_; rintro e v2 ⟨rfl, hb⟩; replace HB := below_call (by first | exact HB | (repeat (first | assumption | exact Below.refl _ _ | (refine below_call ?_ (by assumption)) | apply below_alloc | apply below_drew | apply below_drewN | (refine below_set ?_ (by first | (simp; done) | (simp; omega) | omega) _)))) hb; replace k0 : hp _ w.heap.size = some (.cells #[.int .i64 a, .int .i64 b] 29 (0, 0)) := kblk hb (by first | exact k0 | (simp [hp_alloc, hp_set, hp_drew, hp_drewN, cset_cells, k0, k1, kr0, kr1]; done)); replace k1 : hp _ (w.heap.size + 1) = some (.cells #[.int .i64 c, .int .i64 d] 29 (0, 0)) := kblk hb (by first | exact k1 | (simp [hp_alloc, hp_set, hp_drew, hp_drewN, cset_cells, k0, k1, kr0, kr1]; done)); replace kr0 : hp _ (w.heap.size + 1 + 1) = some (.cells #[.int .i64 0, .int .i64 0] 29 (0, 0)) := kblk hb (by first | exact kr0 | (simp [hp_alloc, hp_set, hp_drew, hp_drewN, cset_cells, k0, k1, kr0, kr1]; done)); replace kr1 : hp _ (w.heap.size + 1 + 1 + 1) = some (.cells #[.int .i64 0, .int .i64 0] 29 (0, 0)) := kblk hb (by first | exact kr1 | (simp [hp_alloc, hp_set, hp_drew, hp_drewN, cset_cells, k0, k1, kr0, kr1]; done)); replace c0 := kcell k0; replace f0 := kfree k0; replace c1 := kcell k1; replace f1 := kfree k1; replace cr0 := kcell kr0; replace fr0 := kfree kr0; replace cr1 := kcell kr1; replace fr1 := kfree kr1
          have z0 := klt k0
          have y00 : (w.heap.size = v2.heap.size) = False := eq_false (by omega)
          have y01 : (w.heap.size = v2.heap.size + 1) = False := eq_false (by omega)
          have z1 := klt k1
          have y10 : (w.heap.size + 1 = v2.heap.size) = False := eq_false (by omega)
          have y11 : (w.heap.size + 1 = v2.heap.size + 1) = False := eq_false (by omega)
          have zr0 := klt kr0
          have yr00 : (w.heap.size + 1 + 1 = v2.heap.size) = False := eq_false (by omega)
          have yr01 : (w.heap.size + 1 + 1 = v2.heap.size + 1) = False := eq_false (by omega)
          have zr1 := klt kr1
          have yr10 : (w.heap.size + 1 + 1 + 1 = v2.heap.size) = False := eq_false (by omega)
          have yr11 : (w.heap.size + 1 + 1 + 1 = v2.heap.size + 1) = False := eq_false (by omega)
          go_wp2_with fail
          refine Ph.at_world ?_; intro W4 hW
          have n06 : (w.heap.size = v2.heap.size) = False := eq_false (by have := klt k0; omega)
          have n16 : (w.heap.size + 1 = v2.heap.size) = False := eq_false (by have := klt k1; omega)
          have nr06 : (w.heap.size + 1 + 1 = v2.heap.size) = False := eq_false (by have := klt kr0; omega)
          have nr16 : (w.heap.size + 1 + 1 + 1 = v2.heap.size) = False := eq_false (by have := klt kr1; omega)
          have n07 : (w.heap.size = v2.heap.size + 1) = False := eq_false (by have := klt k0; omega)
          have n17 : (w.heap.size + 1 = v2.heap.size + 1) = False := eq_false (by have := klt k1; omega)
          have nr07 : (w.heap.size + 1 + 1 = v2.heap.size + 1) = False := eq_false (by have := klt kr0; omega)
          have nr17 : (w.heap.size + 1 + 1 + 1 = v2.heap.size + 1) = False := eq_false (by have := klt kr1; omega)
          have q0 : hp W4 w.heap.size = some (.cells #[.int .i64 a, .int .i64 b] 29 (0, 0)) := by rw [hW]; simp [hp_alloc, hp_set, hp_drew, hp_drewN, cset_cells, k0, k1, kr0, kr1, n06, n16, nr06, nr16, n07, n17, nr07, nr17]
          have q1 : hp W4 (w.heap.size + 1) = some (.cells #[.int .i64 c, .int .i64 d] 29 (0, 0)) := by rw [hW]; simp [hp_alloc, hp_set, hp_drew, hp_drewN, cset_cells, k0, k1, kr0, kr1, n06, n16, nr06, nr16, n07, n17, nr07, nr17]
          have qr0 : hp W4 (w.heap.size + 1 + 1) = some (.cells #[.int .i64 0, .int .i64 0] 29 (0, 0)) := by rw [hW]; simp [hp_alloc, hp_set, hp_drew, hp_drewN, cset_cells, k0, k1, kr0, kr1, n06, n16, nr06, nr16, n07, n17, nr07, nr17]
          have qr1 : hp W4 (w.heap.size + 1 + 1 + 1) = some (.cells #[.int .i64 0, .int .i64 0] 29 (0, 0)) := by rw [hW]; simp [hp_alloc, hp_set, hp_drew, hp_drewN, cset_cells, k0, k1, kr0, kr1, n06, n16, nr06, nr16, n07, n17, nr07, nr17]
          have q6 : hp W4 v2.heap.size = some (.cells #[.int .i64 0, .int .i64 0] 29 (0, 0)) := by rw [hW]; simp [hp_alloc, hp_set, hp_drew, hp_drewN, cset_cells, k0, k1, kr0, kr1, n06, n16, nr06, nr16, n07, n17, nr07, nr17]
          have q7 : hp W4 (v2.heap.size + 1) = some (.cells #[.int .i64 0, .int .i64 0] 29 (0, 0)) := by rw [hW]; simp [hp_alloc, hp_set, hp_drew, hp_drewN, cset_cells, k0, k1, kr0, kr1, n06, n16, nr06, nr16, n07, n17, nr07, nr17]
          have HB' : Below w.heap.size w W4 := by rw [hW]; (repeat (first | assumption | exact Below.refl _ _ | (refine below_call ?_ (by assumption)) | apply below_alloc | apply below_drew | apply below_drewN | (refine below_set ?_ (by first | (simp; done) | (simp; omega) | omega) _)))
          replace HB := HB'; clear HB'
          clear hW
          clear k0 c0 f0
          clear k1 c1 f1
          clear kr0 cr0 fr0
          clear kr1 cr1 fr1
          have k0 := q0; clear q0; have c0 := kcell k0; have f0 := kfree k0
          have k1 := q1; clear q1; have c1 := kcell k1; have f1 := kfree k1
          have kr0 := qr0; clear qr0; have cr0 := kcell kr0; have fr0 := kfree kr0
          have kr1 := qr1; clear qr1; have cr1 := kcell kr1; have fr1 := kfree kr1
          have k6 := q6; clear q6; have c6 := kcell k6; have f6 := kfree k6
          have k7 := q7; clear q7; have c7 := kcell k7; have f7 := kfree k7
          go_region
          all_goals try go_wp2
          all_goals refine bodyPost_ret (v := .tuple #[.agg #[.int .i64 (rcutL a b c d).1, .int .i64 (rcutL a b c d).2], .agg #[.int .i64 (rcutR a b c d).1, .int .i64 (rcutR a b c d).2]]) (by simp [results, Try.results39, go_sem, rcutL0, rcutR0, rcutL1, rcutR1, *]) rfl ⟨?_, by (repeat (first | assumption | exact Below.refl _ _ | (refine below_call ?_ (by assumption)) | apply below_alloc | apply below_drew | apply below_drewN | (refine below_set ?_ (by first | (simp; done) | (simp; omega) | omega) _)))⟩
          all_goals (first | rfl | (simp [rcutL0, rcutR0, rcutL1, rcutR1, *]; done))
    · skip
      go_enter Try.func39, Try.ntmps39
      go_upto_region 1 with fail
      refine Ph.at_world ?_; intro W1 hW
      have q0 : hp W1 w.heap.size = some (.cells #[.int .i64 a, .int .i64 b] 29 (0, 0)) := by rw [hW]; simp [hp_alloc, hp_set, hp_drew, hp_drewN, cset_cells]
      have q1 : hp W1 (w.heap.size + 1) = some (.cells #[.int .i64 c, .int .i64 d] 29 (0, 0)) := by rw [hW]; simp [hp_alloc, hp_set, hp_drew, hp_drewN, cset_cells]
      have qr0 : hp W1 (w.heap.size + 1 + 1) = some (.cells #[.int .i64 0, .int .i64 0] 29 (0, 0)) := by rw [hW]; simp [hp_alloc, hp_set, hp_drew, hp_drewN, cset_cells]
      have qr1 : hp W1 (w.heap.size + 1 + 1 + 1) = some (.cells #[.int .i64 0, .int .i64 0] 29 (0, 0)) := by rw [hW]; simp [hp_alloc, hp_set, hp_drew, hp_drewN, cset_cells]
      have HB : Below w.heap.size w W1 := by rw [hW]; (repeat (first | assumption | exact Below.refl _ _ | (refine below_call ?_ (by assumption)) | apply below_alloc | apply below_drew | apply below_drewN | (refine below_set ?_ (by first | (simp; done) | (simp; omega) | omega) _)))
      clear hW
      have k0 := q0; clear q0; have c0 := kcell k0; have f0 := kfree k0
      have k1 := q1; clear q1; have c1 := kcell k1; have f1 := kfree k1
      have kr0 := qr0; clear qr0; have cr0 := kcell kr0; have fr0 := kfree kr0
      have kr1 := qr1; clear qr1; have cr1 := kcell kr1; have fr1 := kfree kr1
      go_wp2_with fail
      go_at_call 16; refine Ph.at_callw ?_; intro W2 hW
      have q0 : hp W2 w.heap.size = some (.cells #[.int .i64 a, .int .i64 b] 29 (0, 0)) := by rw [hW]; simp [hp_alloc, hp_set, hp_drew, hp_drewN, cset_cells, k0, k1, kr0, kr1]
      have q1 : hp W2 (w.heap.size + 1) = some (.cells #[.int .i64 c, .int .i64 d] 29 (0, 0)) := by rw [hW]; simp [hp_alloc, hp_set, hp_drew, hp_drewN, cset_cells, k0, k1, kr0, kr1]
      have qr0 : hp W2 (w.heap.size + 1 + 1) = some (.cells #[.int .i64 0, .int .i64 0] 29 (0, 0)) := by rw [hW]; simp [hp_alloc, hp_set, hp_drew, hp_drewN, cset_cells, k0, k1, kr0, kr1]
      have qr1 : hp W2 (w.heap.size + 1 + 1 + 1) = some (.cells #[.int .i64 0, .int .i64 0] 29 (0, 0)) := by rw [hW]; simp [hp_alloc, hp_set, hp_drew, hp_drewN, cset_cells, k0, k1, kr0, kr1]
      have HB' : Below w.heap.size w W2 := by rw [hW]; (repeat (first | assumption | exact Below.refl _ _ | (refine below_call ?_ (by assumption)) | apply below_alloc | apply below_drew | apply below_drewN | (refine below_set ?_ (by first | (simp; done) | (simp; omega) | omega) _)))
      replace HB := HB'; clear HB'
      clear hW
      clear k0 c0 f0
      clear k1 c1 f1
      clear kr0 cr0 fr0
      clear kr1 cr1 fr1
      have k0 := q0; clear q0; have c0 := kcell k0; have f0 := kfree k0
      have k1 := q1; clear q1; have c1 := kcell k1; have f1 := kfree k1
      have kr0 := qr0; clear qr0; have cr0 := kcell kr0; have fr0 := kfree kr0
      have kr1 := qr1; clear qr1; have cr1 := kcell kr1; have fr1 := kfree kr1
      refine (rempty _ _ _).mono ?_; rintro e v1 ⟨rfl, hb⟩; replace HB := below_call (by first | exact HB | (repeat (first | assumption | exact Below.refl _ _ | (refine below_call ?_ (by assumption)) | apply below_alloc | apply below_drew | apply below_drewN | (refine below_set ?_ (by first | (simp; done) | (simp; omega) | omega) _)))) hb; replace k0 : hp _ w.heap.size = some (.cells #[.int .i64 a, .int .i64 b] 29 (0, 0)) := kblk hb (by first | exact k0 | (simp [hp_alloc, hp_set, hp_drew, hp_drewN, cset_cells, k0, k1, kr0, kr1]; done)); replace k1 : hp _ (w.heap.size + 1) = some (.cells #[.int .i64 c, .int .i64 d] 29 (0, 0)) := kblk hb (by first | exact k1 | (simp [hp_alloc, hp_set, hp_drew, hp_drewN, cset_cells, k0, k1, kr0, kr1]; done)); replace kr0 : hp _ (w.heap.size + 1 + 1) = some (.cells #[.int .i64 0, .int .i64 0] 29 (0, 0)) := kblk hb (by first | exact kr0 | (simp [hp_alloc, hp_set, hp_drew, hp_drewN, cset_cells, k0, k1, kr0, kr1]; done)); replace kr1 : hp _ (w.heap.size + 1 + 1 + 1) = some (.cells #[.int .i64 0, .int .i64 0] 29 (0, 0)) := kblk hb (by first | exact kr1 | (simp [hp_alloc, hp_set, hp_drew, hp_drewN, cset_cells, k0, k1, kr0, kr1]; done)); replace c0 := kcell k0; replace f0 := kfree k0; replace c1 := kcell k1; replace f1 := kfree k1; replace cr0 := kcell kr0; replace fr0 := kfree kr0; replace cr1 := kcell kr1; replace fr1 := kfree kr1
      go_wp2_with fail
      go_at_call 16; refine Ph.at_callw ?_; intro W3 hW
      have q0 : hp W3 w.heap.size = some (.cells #[.int .i64 a, .int .i64 b] 29 (0, 0)) := by rw [hW]; simp [hp_alloc, hp_set, hp_drew, hp_drewN, cset_cells, k0, k1, kr0, kr1]
      have q1 : hp W3 (w.heap.size + 1) = some (.cells #[.int .i64 c, .int .i64 d] 29 (0, 0)) := by rw [hW]; simp [hp_alloc, hp_set, hp_drew, hp_drewN, cset_cells, k0, k1, kr0, kr1]
      have qr0 : hp W3 (w.heap.size + 1 + 1) = some (.cells #[.int .i64 0, .int .i64 0] 29 (0, 0)) := by rw [hW]; simp [hp_alloc, hp_set, hp_drew, hp_drewN, cset_cells, k0, k1, kr0, kr1]
      have qr1 : hp W3 (w.heap.size + 1 + 1 + 1) = some (.cells #[.int .i64 0, .int .i64 0] 29 (0, 0)) := by rw [hW]; simp [hp_alloc, hp_set, hp_drew, hp_drewN, cset_cells, k0, k1, kr0, kr1]
      have HB' : Below w.heap.size w W3 := by rw [hW]; (repeat (first | assumption | exact Below.refl _ _ | (refine below_call ?_ (by assumption)) | apply below_alloc | apply below_drew | apply below_drewN | (refine below_set ?_ (by first | (simp; done) | (simp; omega) | omega) _)))
      replace HB := HB'; clear HB'
      clear hW
      clear k0 c0 f0
      clear k1 c1 f1
      clear kr0 cr0 fr0
      clear kr1 cr1 fr1
      have k0 := q0; clear q0; have c0 := kcell k0; have f0 := kfree k0
      have k1 := q1; clear q1; have c1 := kcell k1; have f1 := kfree k1
      have kr0 := qr0; clear qr0; have cr0 := kcell kr0; have fr0 := kfree kr0
      have kr1 := qr1; clear qr1; have cr1 := kcell kr1; have fr1 := kfree kr1
      refine (rempty _ _ _).mono ?_; rintro e v2 ⟨rfl, hb⟩; replace HB := below_call (by first | exact HB | (repeat (first | assumption | exact Below.refl _ _ | (refine below_call ?_ (by assumption)) | apply below_alloc | apply below_drew | apply below_drewN | (refine below_set ?_ (by first | (simp; done) | (simp; omega) | omega) _)))) hb; replace k0 : hp _ w.heap.size = some (.cells #[.int .i64 a, .int .i64 b] 29 (0, 0)) := kblk hb (by first | exact k0 | (simp [hp_alloc, hp_set, hp_drew, hp_drewN, cset_cells, k0, k1, kr0, kr1]; done)); replace k1 : hp _ (w.heap.size + 1) = some (.cells #[.int .i64 c, .int .i64 d] 29 (0, 0)) := kblk hb (by first | exact k1 | (simp [hp_alloc, hp_set, hp_drew, hp_drewN, cset_cells, k0, k1, kr0, kr1]; done)); replace kr0 : hp _ (w.heap.size + 1 + 1) = some (.cells #[.int .i64 0, .int .i64 0] 29 (0, 0)) := kblk hb (by first | exact kr0 | (simp [hp_alloc, hp_set, hp_drew, hp_drewN, cset_cells, k0, k1, kr0, kr1]; done)); replace kr1 : hp _ (w.heap.size + 1 + 1 + 1) = some (.cells #[.int .i64 0, .int .i64 0] 29 (0, 0)) := kblk hb (by first | exact kr1 | (simp [hp_alloc, hp_set, hp_drew, hp_drewN, cset_cells, k0, k1, kr0, kr1]; done)); replace c0 := kcell k0; replace f0 := kfree k0; replace c1 := kcell k1; replace f1 := kfree k1; replace cr0 := kcell kr0; replace fr0 := kfree kr0; replace cr1 := kcell kr1; replace fr1 := kfree kr1
      go_wp2_with fail
      all_goals try go_wp2
      all_goals refine bodyPost_ret (v := .tuple #[.agg #[.int .i64 (rcutL a b c d).1, .int .i64 (rcutL a b c d).2], .agg #[.int .i64 (rcutR a b c d).1, .int .i64 (rcutR a b c d).2]]) (by simp [results, Try.results39, go_sem, rcutL0, rcutR0, rcutL1, rcutR1, *]) rfl ⟨?_, by (repeat (first | assumption | exact Below.refl _ _ | (refine below_call ?_ (by assumption)) | apply below_alloc | apply below_drew | apply below_drewN | (refine below_set ?_ (by first | (simp; done) | (simp; omega) | omega) _)))⟩
      all_goals (first | rfl | (simp [rcutL0, rcutR0, rcutL1, rcutR1, *]; done))
  · skip
    go_enter Try.func39, Try.ntmps39
    go_upto_region 1 with fail
    refine Ph.at_world ?_; intro W1 hW
    have q0 : hp W1 w.heap.size = some (.cells #[.int .i64 a, .int .i64 b] 29 (0, 0)) := by rw [hW]; simp [hp_alloc, hp_set, hp_drew, hp_drewN, cset_cells]
    have q1 : hp W1 (w.heap.size + 1) = some (.cells #[.int .i64 c, .int .i64 d] 29 (0, 0)) := by rw [hW]; simp [hp_alloc, hp_set, hp_drew, hp_drewN, cset_cells]
    have qr0 : hp W1 (w.heap.size + 1 + 1) = some (.cells #[.int .i64 0, .int .i64 0] 29 (0, 0)) := by rw [hW]; simp [hp_alloc, hp_set, hp_drew, hp_drewN, cset_cells]
    have qr1 : hp W1 (w.heap.size + 1 + 1 + 1) = some (.cells #[.int .i64 0, .int .i64 0] 29 (0, 0)) := by rw [hW]; simp [hp_alloc, hp_set, hp_drew, hp_drewN, cset_cells]
    have HB : Below w.heap.size w W1 := by rw [hW]; (repeat (first | assumption | exact Below.refl _ _ | (refine below_call ?_ (by assumption)) | apply below_alloc | apply below_drew | apply below_drewN | (refine below_set ?_ (by first | (simp; done) | (simp; omega) | omega) _)))
    clear hW
    have k0 := q0; clear q0; have c0 := kcell k0; have f0 := kfree k0
    have k1 := q1; clear q1; have c1 := kcell k1; have f1 := kfree k1
    have kr0 := qr0; clear qr0; have cr0 := kcell kr0; have fr0 := kfree kr0
    have kr1 := qr1; clear qr1; have cr1 := kcell kr1; have fr1 := kfree kr1
    go_wp2_with fail
    go_at_call 16; refine Ph.at_callw ?_; intro W2 hW
    have q0 : hp W2 w.heap.size = some (.cells #[.int .i64 a, .int .i64 b] 29 (0, 0)) := by rw [hW]; simp [hp_alloc, hp_set, hp_drew, hp_drewN, cset_cells, k0, k1, kr0, kr1]
    have q1 : hp W2 (w.heap.size + 1) = some (.cells #[.int .i64 c, .int .i64 d] 29 (0, 0)) := by rw [hW]; simp [hp_alloc, hp_set, hp_drew, hp_drewN, cset_cells, k0, k1, kr0, kr1]
    have qr0 : hp W2 (w.heap.size + 1 + 1) = some (.cells #[.int .i64 0, .int .i64 0] 29 (0, 0)) := by rw [hW]; simp [hp_alloc, hp_set, hp_drew, hp_drewN, cset_cells, k0, k1, kr0, kr1]
    have qr1 : hp W2 (w.heap.size + 1 + 1 + 1) = some (.cells #[.int .i64 0, .int .i64 0] 29 (0, 0)) := by rw [hW]; simp [hp_alloc, hp_set, hp_drew, hp_drewN, cset_cells, k0, k1, kr0, kr1]
    have HB' : Below w.heap.size w W2 := by rw [hW]; (repeat (first | assumption | exact Below.refl _ _ | (refine below_call ?_ (by assumption)) | apply below_alloc | apply below_drew | apply below_drewN | (refine below_set ?_ (by first | (simp; done) | (simp; omega) | omega) _)))
    replace HB := HB'; clear HB'
    clear hW
    clear k0 c0 f0
    clear k1 c1 f1
    clear kr0 cr0 fr0
    clear kr1 cr1 fr1
    have k0 := q0; clear q0; have c0 := kcell k0; have f0 := kfree k0
    have k1 := q1; clear q1; have c1 := kcell k1; have f1 := kfree k1
    have kr0 := qr0; clear qr0; have cr0 := kcell kr0; have fr0 := kfree kr0
    have kr1 := qr1; clear qr1; have cr1 := kcell kr1; have fr1 := kfree kr1
    refine (rempty _ _ _).mono ?_; rintro e v1 ⟨rfl, hb⟩; replace HB := below_call (by first | exact HB | (repeat (first | assumption | exact Below.refl _ _ | (refine below_call ?_ (by assumption)) | apply below_alloc | apply below_drew | apply below_drewN | (refine below_set ?_ (by first | (simp; done) | (simp; omega) | omega) _)))) hb; replace k0 : hp _ w.heap.size = some (.cells #[.int .i64 a, .int .i64 b] 29 (0, 0)) := kblk hb (by first | exact k0 | (simp [hp_alloc, hp_set, hp_drew, hp_drewN, cset_cells, k0, k1, kr0, kr1]; done)); replace k1 : hp _ (w.heap.size + 1) = some (.cells #[.int .i64 c, .int .i64 d] 29 (0, 0)) := kblk hb (by first | exact k1 | (simp [hp_alloc, hp_set, hp_drew, hp_drewN, cset_cells, k0, k1, kr0, kr1]; done)); replace kr0 : hp _ (w.heap.size + 1 + 1) = some (.cells #[.int .i64 0, .int .i64 0] 29 (0, 0)) := kblk hb (by first | exact kr0 | (simp [hp_alloc, hp_set, hp_drew, hp_drewN, cset_cells, k0, k1, kr0, kr1]; done)); replace kr1 : hp _ (w.heap.size + 1 + 1 + 1) = some (.cells #[.int .i64 0, .int .i64 0] 29 (0, 0)) := kblk hb (by first | exact kr1 | (simp [hp_alloc, hp_set, hp_drew, hp_drewN, cset_cells, k0, k1, kr0, kr1]; done)); replace c0 := kcell k0; replace f0 := kfree k0; replace c1 := kcell k1; replace f1 := kfree k1; replace cr0 := kcell kr0; replace fr0 := kfree kr0; replace cr1 := kcell kr1; replace fr1 := kfree kr1
    go_wp2_with fail
    all_goals try go_wp2
    all_goals refine bodyPost_ret (v := .tuple #[.agg #[.int .i64 (rcutL a b c d).1, .int .i64 (rcutL a b c d).2], .agg #[.int .i64 (rcutR a b c d).1, .int .i64 (rcutR a b c d).2]]) (by simp [results, Try.results39, go_sem, rcutL0, rcutR0, rcutL1, rcutR1, *]) rfl ⟨?_, by (repeat (first | assumption | exact Below.refl _ _ | (refine below_call ?_ (by assumption)) | apply below_alloc | apply below_drew | apply below_drewN | (refine below_set ?_ (by first | (simp; done) | (simp; omega) | omega) _)))⟩
    all_goals (first | rfl | (simp [rcutL0, rcutR0, rcutL1, rcutR1, *]; done))

end Go.Proofs.Ytplhbnehlkoedaa
