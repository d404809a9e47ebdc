/- SpanKinds. -/
import Derived.Test.YtplhbnehlkoedaaD
import Derived.Test.YtplhbnehlkoedaaKInt
import Derived.Test.YtplhbnehlkoedaaKI32
import Derived.Test.YtplhbnehlkoedaaKU64
import Derived.Test.YtplhbnehlkoedaaPh
import Derived.Test.YtplhbnehlkoedaaCol
import Derived.WalkKit
import Derived.WalkLawsBesides
import Derived.WalkSpells
import Derived.Below
import Derived.Deep.RegionHeld3
import Derived.Deep.QuietTactic
import Derived.BigQuiet
import Derived.Deep.DeepCutAuto
import Derived.Deep.DeepMust
import Derived.KernelRfl
import Derived.Lib.Hide
import Derived.Outline
import Derived.RegionTactic
import Derived.StillTailTactics
namespace Go.Proofs.Ytplhbnehlkoedaa
open Go.RowKit
set_option maxRecDepth 100000
set_option linter.unusedVariables false
set_option linter.unusedSimpArgs false

theorem kinds_of (u v : Int) : hasB (ofS u v).1 (ofS u v).2 u = decide (u < v) ∧ hasB (ofS u v).1 (ofS u v).2 v = false ∧ emptyB (ofS u v).1 (ofS u v).2 = decide (v ≤ u) := by
  unfold ofS hasB emptyB
  by_cases h : u < v
  · rw [if_pos h]
    refine ⟨?_, ?_, ?_⟩ <;> rw [Bool.eq_iff_iff] <;> simp <;> omega
  · rw [if_neg h]
    refine ⟨?_, ?_, ?_⟩ <;> rw [Bool.eq_iff_iff] <;> simp <;> omega
theorem meet_in (a b c d : Int) (h1 : 0 ≤ a ∧ a ≤ 65535) (h2 : 0 ≤ b ∧ b ≤ 65535) (h3 : 0 ≤ c ∧ c ≤ 65535) (h4 : 0 ≤ d ∧ d ≤ 65535) : (0 ≤ (meetS a b c d).1 ∧ (meetS a b c d).1 ≤ 65535) ∧ (0 ≤ (meetS a b c d).2 ∧ (meetS a b c d).2 ≤ 65535) := by
  unfold meetS ofS
  split <;> simp <;> omega
theorem w16 (n : Int) (h : 0 ≤ n ∧ n ≤ 65535) : IntKind.i64.wrap n = n ∧ IntKind.i32.wrap n = n ∧ IntKind.u64.wrap n = n := by
  refine ⟨?_, ?_, ?_⟩ <;> simp [IntKind.wrap, IntKind.bits, IntKind.signed] <;> omega
theorem suffP {P Q : Prop} (f : P → Q) (p : P) : Q := f p
set_option maxHeartbeats 4000000 in
theorem spanKinds (w : World) (al ah bl bh x u v : Int) (h1 : 0 ≤ al ∧ al ≤ 65535) (h2 : 0 ≤ ah ∧ ah ≤ 65535) (h3 : 0 ≤ bl ∧ bl ≤ 65535) (h4 : 0 ≤ bh ∧ bh ≤ 65535) (h5 : 0 ≤ x ∧ x ≤ 65535) :
    Calls Try.prog 4 #[.agg #[.int .u16 al, .int .u16 ah], .agg #[.int .u16 bl, .int .u16 bh], .int .u16 x, .int .u64 u, .int .u64 v] w (Ret (.bool true) w) := by
  obtain ⟨a1, a2, a3⟩ := w16 al h1
  obtain ⟨b1, b2, b3⟩ := w16 ah h2
  obtain ⟨c1, c2, c3⟩ := w16 bl h3
  obtain ⟨d1, d2, d3⟩ := w16 bh h4
  obtain ⟨e1, e2, e3⟩ := w16 x h5
  have hm := meet_in al ah bl bh h1 h2 h3 h4
  have HM := Lib.hid hm
  clear hm h1 h2 h3 h4 h5
  have HW := Lib.hid (And.intro (And.intro a1 (And.intro a2 a3)) (And.intro (And.intro b1 (And.intro b2 b3)) (And.intro (And.intro c1 (And.intro c2 c3)) (And.intro (And.intro d1 (And.intro d2 d3)) (And.intro e1 (And.intro e2 e3))))))
  clear a1 a2 a3 b1 b2 b3 c1 c2 c3 d1 d2 d3 e1 e2 e3
  have q5' : hp (w.alloc (.cells #[.int .u16 al, .int .u16 ah] 38)) w.heap.size = some (.cells #[.int .u16 al, .int .u16 ah] 38 (0, 0)) := by simp [hp_alloc]
  go_enter Try.func4, Try.ntmps4
  go_wp2_with fail
  refine (fixed_true _).mono ?_; rintro e w0 ⟨rfl, hb0⟩
  go_wp2
  refine Ph.at_world ?_; intro W0 hW0
  have p5 : hp W0 w.heap.size = some (.cells #[.int .u16 al, .int .u16 ah] 38 (0, 0)) := by
    rw [hW0]; exact kblk hb0 (by simp [hp_alloc])
  have p6 : hp W0 (w.heap.size + 1) = some (.cells #[.int .u16 bl, .int .u16 bh] 38 (0, 0)) := by
    rw [hW0]; exact kblk hb0 (by simp [hp_alloc])
  have HB0 : Below w.heap.size w W0 := by rw [hW0]; exact below_call (below_alloc (below_alloc (Below.refl _ _) _) _) hb0
  clear hW0 hb0 q5'
  obtain ⟨x5, hx5⟩ : ∃ x, x = w.heap.size := ⟨_, rfl⟩
  obtain ⟨x6, hx6⟩ : ∃ x, x = w.heap.size + 1 := ⟨_, rfl⟩
  rw [← hx5] at p5
  rw [← hx6] at p6
  rw [← hx6, ← hx5]
  clear hx5 hx6
  obtain ⟨⟨a1, a2, a3⟩, ⟨b1, b2, b3⟩, ⟨c1, c2, c3⟩, ⟨d1, d2, d3⟩, ⟨e1, e2, e3⟩⟩ := HW.out
  have l5 := klt p5; have l6 := klt p6; have c5 := Cl.hp_cell p5; have c6 := Cl.hp_cell p6
  have nx5a : ¬ x5 = W0.heap.size := by omega
  have nx5b : ¬ x5 = W0.heap.size + 1 := by omega
  have nx5c : x5 < W0.heap.size + 1 := by omega
  have nx6a : ¬ x6 = W0.heap.size := by omega
  have nx6b : ¬ x6 = W0.heap.size + 1 := by omega
  have nx6c : x6 < W0.heap.size + 1 := by omega
  go_wp2
  apply suffP
  · intro key
    go_region
    · refine Ph.at_world ?_; intro W1 hZ
      obtain ⟨x11, e1⟩ : ∃ x, x = W0.heap.size  := ⟨_, rfl⟩
      obtain ⟨x12, e2⟩ : ∃ x, x = W0.heap.size + 1 := ⟨_, rfl⟩
      rw [← e2, ← e1]
      have HZ : Below W0.heap.size W0 W1 := by rw [hZ]; first | exact below_drew (below_alloc (below_alloc (Below.refl _ _) _) _) | exact (below_alloc (below_alloc (Below.refl _ _) _) _)
      have qx11 : hp W1 x11 = some (.cells #[.int .i64 al, .int .i64 ah] 41 (0, 0)) := by rw [e1, hZ]; simp [hp_drew, hp_alloc]
      have qx12 : hp W1 x12 = some (.cells #[.int .i64 bl, .int .i64 bh] 41 (0, 0)) := by rw [e2, hZ]; simp [hp_drew, hp_alloc]
      clear e1 e2 hZ
      revert qx12 qx11 HZ x12 x11 W1
      exact key
    · refine Ph.at_world ?_; intro W1 hZ
      obtain ⟨x11, e1⟩ : ∃ x, x = W0.heap.size + 1 := ⟨_, rfl⟩
      obtain ⟨x12, e2⟩ : ∃ x, x = W0.heap.size  := ⟨_, rfl⟩
      rw [← e1, ← e2]
      have HZ : Below W0.heap.size W0 W1 := by rw [hZ]; first | exact below_drew (below_alloc (below_alloc (Below.refl _ _) _) _) | exact (below_alloc (below_alloc (Below.refl _ _) _) _)
      have qx11 : hp W1 x11 = some (.cells #[.int .i64 al, .int .i64 ah] 41 (0, 0)) := by rw [e1, hZ]; simp [hp_drew, hp_alloc]
      have qx12 : hp W1 x12 = some (.cells #[.int .i64 bl, .int .i64 bh] 41 (0, 0)) := by rw [e2, hZ]; simp [hp_drew, hp_alloc]
      clear e1 e2 hZ
      revert qx12 qx11 HZ x12 x11 W1
      exact key
  intro W1 x11 x12 HZ qx11 qx12
  clear l5 l6 c5 c6 nx5a nx5b nx5c nx6a nx6b nx6c
  replace p5 := kblk HZ p5
  replace p6 := kblk HZ p6
  replace HB0 := Cl.below_call HB0 HZ
  clear HZ
  have l5 := klt p5; have l6 := klt p6; have c5 := Cl.hp_cell p5; have c6 := Cl.hp_cell p6
  have nx5a : ¬ x5 = W1.heap.size := by omega
  have nx5b : ¬ x5 = W1.heap.size + 1 := by omega
  have nx5c : x5 < W1.heap.size + 1 := by omega
  have nx6a : ¬ x6 = W1.heap.size := by omega
  have nx6b : ¬ x6 = W1.heap.size + 1 := by omega
  have nx6c : x6 < W1.heap.size + 1 := by omega
  go_wp2
  apply suffP
  · intro key
    go_region
    · refine Ph.at_world ?_; intro W2 hZ
      obtain ⟨x13, e1⟩ : ∃ x, x = W1.heap.size  := ⟨_, rfl⟩
      obtain ⟨x14, e2⟩ : ∃ x, x = W1.heap.size + 1 := ⟨_, rfl⟩
      rw [← e2, ← e1]
      have HZ : Below W1.heap.size W1 W2 := by rw [hZ]; first | exact below_drew (below_alloc (below_alloc (Below.refl _ _) _) _) | exact (below_alloc (below_alloc (Below.refl _ _) _) _)
      have qx13 : hp W2 x13 = some (.cells #[.int .i32 al, .int .i32 ah] 43 (0, 0)) := by rw [e1, hZ]; simp [hp_drew, hp_alloc]
      have qx14 : hp W2 x14 = some (.cells #[.int .i32 bl, .int .i32 bh] 43 (0, 0)) := by rw [e2, hZ]; simp [hp_drew, hp_alloc]
      clear e1 e2 hZ
      revert qx14 qx13 HZ x14 x13 W2
      exact key
    · refine Ph.at_world ?_; intro W2 hZ
      obtain ⟨x13, e1⟩ : ∃ x, x = W1.heap.size + 1 := ⟨_, rfl⟩
      obtain ⟨x14, e2⟩ : ∃ x, x = W1.heap.size  := ⟨_, rfl⟩
      rw [← e1, ← e2]
      have HZ : Below W1.heap.size W1 W2 := by rw [hZ]; first | exact below_drew (below_alloc (below_alloc (Below.refl _ _) _) _) | exact (below_alloc (below_alloc (Below.refl _ _) _) _)
      have qx13 : hp W2 x13 = some (.cells #[.int .i32 al, .int .i32 ah] 43 (0, 0)) := by rw [e1, hZ]; simp [hp_drew, hp_alloc]
      have qx14 : hp W2 x14 = some (.cells #[.int .i32 bl, .int .i32 bh] 43 (0, 0)) := by rw [e2, hZ]; simp [hp_drew, hp_alloc]
      clear e1 e2 hZ
      revert qx14 qx13 HZ x14 x13 W2
      exact key
  intro W2 x13 x14 HZ qx13 qx14
  clear l5 l6 c5 c6 nx5a nx5b nx5c nx6a nx6b nx6c
  replace p5 := kblk HZ p5
  replace p6 := kblk HZ p6
  replace qx11 := kblk HZ qx11
  replace qx12 := kblk HZ qx12
  replace HB0 := Cl.below_call HB0 HZ
  clear HZ
  have l5 := klt p5; have l6 := klt p6; have c5 := Cl.hp_cell p5; have c6 := Cl.hp_cell p6
  have nx5a : ¬ x5 = W2.heap.size := by omega
  have nx5b : ¬ x5 = W2.heap.size + 1 := by omega
  have nx5c : x5 < W2.heap.size + 1 := by omega
  have nx6a : ¬ x6 = W2.heap.size := by omega
  have nx6b : ¬ x6 = W2.heap.size + 1 := by omega
  have nx6c : x6 < W2.heap.size + 1 := by omega
  go_wp2
  apply suffP
  · intro key
    go_region
    · refine Ph.at_world ?_; intro W3 hZ
      obtain ⟨x15, e1⟩ : ∃ x, x = W2.heap.size  := ⟨_, rfl⟩
      obtain ⟨x16, e2⟩ : ∃ x, x = W2.heap.size + 1 := ⟨_, rfl⟩
      rw [← e2, ← e1]
      have HZ : Below W2.heap.size W2 W3 := by rw [hZ]; first | exact below_drew (below_alloc (below_alloc (Below.refl _ _) _) _) | exact (below_alloc (below_alloc (Below.refl _ _) _) _)
      have qx15 : hp W3 x15 = some (.cells #[.int .u64 al, .int .u64 ah] 45 (0, 0)) := by rw [e1, hZ]; simp [hp_drew, hp_alloc]
      have qx16 : hp W3 x16 = some (.cells #[.int .u64 bl, .int .u64 bh] 45 (0, 0)) := by rw [e2, hZ]; simp [hp_drew, hp_alloc]
      clear e1 e2 hZ
      revert qx16 qx15 HZ x16 x15 W3
      exact key
    · refine Ph.at_world ?_; intro W3 hZ
      obtain ⟨x15, e1⟩ : ∃ x, x = W2.heap.size + 1 := ⟨_, rfl⟩
      obtain ⟨x16, e2⟩ : ∃ x, x = W2.heap.size  := ⟨_, rfl⟩
      rw [← e1, ← e2]
      have HZ : Below W2.heap.size W2 W3 := by rw [hZ]; first | exact below_drew (below_alloc (below_alloc (Below.refl _ _) _) _) | exact (below_alloc (below_alloc (Below.refl _ _) _) _)
      have qx15 : hp W3 x15 = some (.cells #[.int .u64 al, .int .u64 ah] 45 (0, 0)) := by rw [e1, hZ]; simp [hp_drew, hp_alloc]
      have qx16 : hp W3 x16 = some (.cells #[.int .u64 bl, .int .u64 bh] 45 (0, 0)) := by rw [e2, hZ]; simp [hp_drew, hp_alloc]
      clear e1 e2 hZ
      revert qx16 qx15 HZ x16 x15 W3
      exact key
  intro W3 x15 x16 HZ qx15 qx16
  clear l5 l6 c5 c6 nx5a nx5b nx5c nx6a nx6b nx6c
  replace p5 := kblk HZ p5
  replace p6 := kblk HZ p6
  replace qx11 := kblk HZ qx11
  replace qx12 := kblk HZ qx12
  replace qx13 := kblk HZ qx13
  replace qx14 := kblk HZ qx14
  replace HB0 := Cl.below_call HB0 HZ
  clear HZ
  clear p5 p6
  obtain ⟨ml, eml⟩ : ∃ z, z = (meetS al ah bl bh).1 := ⟨_, rfl⟩
  obtain ⟨mh, emh⟩ : ∃ z, z = (meetS al ah bl bh).2 := ⟨_, rfl⟩
  have hm := HM.out
  rw [← eml, ← emh] at hm
  obtain ⟨f1, f2, f3⟩ := w16 ml hm.1
  obtain ⟨g1, g2, g3⟩ := w16 mh hm.2
  clear hm HM HW
  have mI : ∀ w, Calls Try.prog 20 #[.agg #[.int .i64 al, .int .i64 ah], .agg #[.int .i64 bl, .int .i64 bh]] w fun e w' => e = .returned (.agg #[.int .i64 ml, .int .i64 mh]) ∧ Below w.heap.size w w' := by
    intro w; rw [eml, emh]; exact meetInt _ _ _ _ w
  have mK : ∀ w, Calls Try.prog 21 #[.agg #[.int .i32 al, .int .i32 ah], .agg #[.int .i32 bl, .int .i32 bh]] w fun e w' => e = .returned (.agg #[.int .i32 ml, .int .i32 mh]) ∧ Below w.heap.size w w' := by
    intro w; rw [eml, emh]; exact meetI32 _ _ _ _ w
  have mU : ∀ w, Calls Try.prog 22 #[.agg #[.int .u64 al, .int .u64 ah], .agg #[.int .u64 bl, .int .u64 bh]] w fun e w' => e = .returned (.agg #[.int .u64 ml, .int .u64 mh]) ∧ Below w.heap.size w w' := by
    intro w; rw [eml, emh]; exact meetU64 _ _ _ _ w
  clear eml emh
  go_wp2
  refine Ph.wp_region_gr 9 12 [] (by kernel_rfl) (by kernel_rfl) (fun _ d _ _ _ h => by cases d <;> exact h) ?_
  simp only [List.take_succ_cons, List.take_zero, List.drop_succ_cons, List.drop_zero]
  repeat ((first | (apply Ph.wpG_op rfl; (focus (intro w1 hS0; have cqx11 := Cl.hp_cell (kblk hS0 qx11); have cqx12 := Cl.hp_cell (kblk hS0 qx12); have cqx13 := Cl.hp_cell (kblk hS0 qx13); have cqx14 := Cl.hp_cell (kblk hS0 qx14); have cqx15 := Cl.hp_cell (kblk hS0 qx15); have cqx16 := Cl.hp_cell (kblk hS0 qx16); go_simp; first | exact rfl | exact ⟨rfl, Below.refl _ _⟩ | ((with_reducible refine (mI _).mono ?_); rintro e w2 ⟨rfl, hb⟩; exact ⟨rfl, hb⟩) | ((with_reducible refine (mK _).mono ?_); rintro e w2 ⟨rfl, hb⟩; exact ⟨rfl, hb⟩) | ((with_reducible refine (mU _).mono ?_); rintro e w2 ⟨rfl, hb⟩; exact ⟨rfl, hb⟩))))); simp only [List.tail_cons, List.tail_nil, Act.put, List.setIfInBounds_toArray, List.set_cons_zero, List.set_cons_succ])
  refine Ph.wpG_nil ?_
  apply Ph.wpAl_op (fun g => .pointer (some ⟨g, 0, none⟩)) rfl; (focus (intro w1; go_simp; exact rfl))
  intro x17; simp only [List.tail_cons, List.tail_nil, Act.put, List.setIfInBounds_toArray, List.set_cons_zero, List.set_cons_succ]
  apply Ph.wpAl_op (fun g => .pointer (some ⟨g, 0, none⟩)) rfl; (focus (intro w1; go_simp; exact rfl))
  intro x18; simp only [List.tail_cons, List.tail_nil, Act.put, List.setIfInBounds_toArray, List.set_cons_zero, List.set_cons_succ]
  apply Ph.wpAl_op (fun g => .pointer (some ⟨g, 0, none⟩)) rfl; (focus (intro w1; go_simp; exact rfl))
  intro x19; simp only [List.tail_cons, List.tail_nil, Act.put, List.setIfInBounds_toArray, List.set_cons_zero, List.set_cons_succ]
  refine Ph.wpAl_nil ?_; intro v6 hS6 hgs hne
  simp only [List.nil_append, List.cons_append, List.forall_mem_cons, List.pairwise_cons, Prod.mk.injEq] at hgs hne
  obtain ⟨⟨bx17, kx17⟩, ⟨bx18, kx18⟩, ⟨bx19, kx19⟩, _⟩ := hgs
  have nes : x17 ≠ x18 ∧ x17 ≠ x19 ∧ x18 ≠ x19 := by
    simp at hne
    refine ⟨?_, ?_, ?_⟩ <;> (intro e; subst e; simp at hne)
  obtain ⟨n78, n79, n89⟩ := nes
  have n87 := n78.symm; have n97 := n79.symm; have n98 := n89.symm
  clear hne
  replace kx17 : hp v6 x17 = some (.cells #[.int .i64 0, .int .i64 0] 41 (0, 0)) := kx17
  replace kx18 : hp v6 x18 = some (.cells #[.int .i32 0, .int .i32 0] 43 (0, 0)) := kx18
  replace kx19 : hp v6 x19 = some (.cells #[.int .u64 0, .int .u64 0] 45 (0, 0)) := kx19
  have c17 := Cl.hp_cell kx17; have r17 := Cl.hp_free kx17
  have c18 := Cl.hp_cell kx18; have r18 := Cl.hp_free kx18
  have c19 := Cl.hp_cell kx19; have r19 := Cl.hp_free kx19
  go_wp2
  refine Ph.at_world ?_; intro W7 hW
  have HZ : Below W3.heap.size W3 W7 := by
    rw [hW]; (repeat (first | (with_reducible assumption) | (with_reducible refine Cl.below_set ?_ (by first | assumption | (simp; done) | (simp; omega) | omega) _) | (with_reducible apply Cl.below_alloc) | (with_reducible apply Cl.below_drew) | (with_reducible apply Cl.below_drewN)))
  have y17 : hp W7 x17 = some (.cells #[.int .i64 ml, .int .i64 mh] 41 (0, 0)) := by rw [hW]; simp [hp_set, cset_cells, hp_drew, kx17, kx18, kx19, n78, n79, n89, n87, n97, n98]
  have y18 : hp W7 x18 = some (.cells #[.int .i32 ml, .int .i32 mh] 43 (0, 0)) := by rw [hW]; simp [hp_set, cset_cells, hp_drew, kx17, kx18, kx19, n78, n79, n89, n87, n97, n98]
  have y19 : hp W7 x19 = some (.cells #[.int .u64 ml, .int .u64 mh] 45 (0, 0)) := by rw [hW]; simp [hp_set, cset_cells, hp_drew, kx17, kx18, kx19, n78, n79, n89, n87, n97, n98]
  replace qx11 := kblk HZ qx11
  replace qx12 := kblk HZ qx12
  replace qx13 := kblk HZ qx13
  replace qx14 := kblk HZ qx14
  replace qx15 := kblk HZ qx15
  replace qx16 := kblk HZ qx16
  replace HB0 := Cl.below_call HB0 HZ
  clear hW HZ kx17 kx18 kx19 c17 c18 c19 r17 r18 r19 hS6 mI mK mU
  replace c17 := Cl.hp_cell y17; replace c18 := Cl.hp_cell y18; replace c19 := Cl.hp_cell y19
  go_wp2
  trace "AT9"
  trace_state
  clear c17 c18 c19 y17 y18 y19 f1 f2 f3 g1 g2 g3
  refine Ph.region_at (by kernel_rfl) ?_
  refine Ph.at_quiet 36 (by kernel_rfl) ?_
  simp only [List.take_succ_cons, List.take_zero, List.drop_succ_cons, List.drop_zero]
  repeat ((first | (apply Ph.wpPh_g; (focus (intro w1 hS0; have cqx11 := Cl.hp_cell (kblk hS0 qx11); have cqx12 := Cl.hp_cell (kblk hS0 qx12); have cqx13 := Cl.hp_cell (kblk hS0 qx13); have cqx14 := Cl.hp_cell (kblk hS0 qx14); have cqx15 := Cl.hp_cell (kblk hS0 qx15); have cqx16 := Cl.hp_cell (kblk hS0 qx16); go_simp; first | exact rfl | exact ⟨rfl, Below.refl _ _⟩ | ((with_reducible refine (compareInt _ _ _ _ _).mono ?_); rintro e w2 ⟨rfl, hb⟩; exact ⟨rfl, hb⟩) | ((with_reducible refine (compareI32 _ _ _ _ _).mono ?_); rintro e w2 ⟨rfl, hb⟩; exact ⟨rfl, hb⟩) | ((with_reducible refine (compareU64 _ _ _ _ _).mono ?_); rintro e w2 ⟨rfl, hb⟩; exact ⟨rfl, hb⟩) | ((with_reducible refine (hasInt _ _ _ _).mono ?_); rintro e w2 ⟨rfl, hb⟩; exact ⟨rfl, hb⟩) | ((with_reducible refine (hasU64 _ _ _ _).mono ?_); rintro e w2 ⟨rfl, hb⟩; exact ⟨rfl, hb⟩) | ((with_reducible refine (touchesI32 _ _ _ _ _).mono ?_); rintro e w2 ⟨rfl, hb⟩; exact ⟨rfl, hb⟩) | ((with_reducible refine (touchesU64 _ _ _ _ _).mono ?_); rintro e w2 ⟨rfl, hb⟩; exact ⟨rfl, hb⟩))))); simp only [Act.put, List.setIfInBounds_toArray, List.set_cons_zero, List.set_cons_succ])
  refine Ph.wpPh_nil ?_; intro v9 hS9
  refine Ph.at_end (by simp) ?_
  replace HB0 := Cl.below_call (Cl.below_drew HB0) hS9
  clear qx11 qx12 qx13 qx14 qx15 qx16 hS9 a1 a2 a3 b1 b2 b3 c1 c2 c3 d1 d2 d3 e1 e2 e3
  obtain ⟨k1, k2, k3⟩ := kinds_of u v
  have oU : ∀ w, Calls Try.prog 30 #[.int .u64 u, .int .u64 v] w fun e w' => e = .returned (.agg #[.int .u64 (ofS u v).1, .int .u64 (ofS u v).2]) ∧ Below w.heap.size w w' := fun w => ofU64 u v w
  generalize (ofS u v).1 = o1 at k1 k2 k3 oU
  generalize (ofS u v).2 = o2 at k1 k2 k3 oU
  have fin : ∀ b : Bool, b = decide (u < v) → (!b) = decide (v ≤ u) := by intro b hb; subst hb; rw [Bool.eq_iff_iff]; simp
  by_cases huv : u < v
  · have hvu : ¬ v ≤ u := by omega
    simp only [huv, hvu, decide_true, decide_false] at k1 k3
    clear fin
    go_upto_region 12 with (go_at_call 30; (with_reducible refine (oU _).mono ?_); rintro e w10 ⟨rfl, hb10⟩; replace HB0 := Cl.below_call HB0 hb10; clear hb10 oU)
    refine Ph.at_world ?_; intro W11 hW
    have p20 : hp W11 w10.heap.size = some (.cells #[.int .u64 o1, .int .u64 o2] 45 (0, 0)) := by rw [hW]; simp [hp_alloc, hp_set, hp_drew, hp_drewN, cset_cells]
    have HZ : Below w10.heap.size w10 W11 := by
      rw [hW]; (repeat (first | (with_reducible assumption) | (with_reducible exact Below.refl _ _) | (with_reducible refine below_set ?_ (by first | (simp; done) | (simp; omega) | omega) _) | (with_reducible apply below_alloc) | (with_reducible apply below_drew) | (with_reducible apply below_drewN)))
    replace HB0 := Cl.below_call HB0 HZ
    clear HZ hW
    have c20 := Cl.hp_cell p20
    go_wp2_with (first | (go_at_call 27; (with_reducible refine (hasU64 _ _ _ _).mono ?_); rintro e w11 ⟨rfl, hb⟩; replace HB0 := Cl.below_call HB0 hb; replace p20 := kblk hb p20; replace c20 := Cl.hp_cell p20; clear hb) | (go_at_call 31; (with_reducible refine (emptyU64 _ _ _).mono ?_); rintro e w11 ⟨rfl, hb⟩; replace HB0 := Cl.below_call HB0 hb; replace p20 := kblk hb p20; replace c20 := Cl.hp_cell p20; clear hb))
    go_ret
    refine ⟨?_, HB0⟩
    first | (simp [huv, hvu]; done) | (show Ending.returned (Value.bool (!decide (v ≤ u))) = _; simp [hvu]; done) | (show Ending.returned (Value.bool (!decide (u < v))) = _; simp [huv]; done)
  · have hvu : v ≤ u := by omega
    simp only [huv, hvu, decide_true, decide_false] at k1 k3
    clear fin
    go_upto_region 12 with (go_at_call 30; (with_reducible refine (oU _).mono ?_); rintro e w10 ⟨rfl, hb10⟩; replace HB0 := Cl.below_call HB0 hb10; clear hb10 oU)
    refine Ph.at_world ?_; intro W11 hW
    have p20 : hp W11 w10.heap.size = some (.cells #[.int .u64 o1, .int .u64 o2] 45 (0, 0)) := by rw [hW]; simp [hp_alloc, hp_set, hp_drew, hp_drewN, cset_cells]
    have HZ : Below w10.heap.size w10 W11 := by
      rw [hW]; (repeat (first | (with_reducible assumption) | (with_reducible exact Below.refl _ _) | (with_reducible refine below_set ?_ (by first | (simp; done) | (simp; omega) | omega) _) | (with_reducible apply below_alloc) | (with_reducible apply below_drew) | (with_reducible apply below_drewN)))
    replace HB0 := Cl.below_call HB0 HZ
    clear HZ hW
    have c20 := Cl.hp_cell p20
    go_wp2_with (first | (go_at_call 27; (with_reducible refine (hasU64 _ _ _ _).mono ?_); rintro e w11 ⟨rfl, hb⟩; replace HB0 := Cl.below_call HB0 hb; replace p20 := kblk hb p20; replace c20 := Cl.hp_cell p20; clear hb) | (go_at_call 31; (with_reducible refine (emptyU64 _ _ _).mono ?_); rintro e w11 ⟨rfl, hb⟩; replace HB0 := Cl.below_call HB0 hb; replace p20 := kblk hb p20; replace c20 := Cl.hp_cell p20; clear hb))
    go_ret
    refine ⟨?_, HB0⟩
    first | (simp [huv, hvu]; done) | (show Ending.returned (Value.bool (!decide (v ≤ u))) = _; simp [hvu]; done) | (show Ending.returned (Value.bool (!decide (u < v))) = _; simp [huv]; done)
end Go.Proofs.Ytplhbnehlkoedaa
