/- The reference's client, kinds 2 to 6. -/
import Derived.Test.YtiklpifaaogcpaaKru
import Derived.WalkKit
import Derived.WalkLawsBesides
import Derived.WalkSpells
import Derived.Below
import Derived.Deep.RegionHeld3
import Derived.Deep.QuietTactic
import Derived.BigQuiet
import Derived.Deep.DeepCutAuto
import Derived.Deep.DeepMust
import Derived.KernelRfl
import Derived.Lib.Hide
import Derived.Outline
import Derived.RegionTactic
import Derived.StillTailTactics
import Derived.Laws.IdiomStrings
import Derived.Handy
namespace Go.Proofs.Ytiklpifaaogcpaa
open Go.RowKit Go.Cl Go.Wr Go.Kc
set_option maxRecDepth 100000
set_option linter.unusedVariables false
set_option linter.unusedSimpArgs false


set_option maxHeartbeats 2000000 in
theorem r_client_2 {col0 : Nat → Nat} {w0 : World} {b x : Nat} {s : ByteArray} {t : St} {w : World} (h : RS col0 w0 b x s t (mz 2) w) :
    Calls Try.prog 43 #[.pointer (some ⟨b, 0, none⟩), .pointer (some ⟨x, 0, none⟩)] w fun e w' => e = .returned (.tuple #[]) ∧ RS col0 w0 b x s (rFields s.data.toList (mz 2) t).2 (rFields s.data.toList (mz 2) t).1 w' := by
  obtain ⟨wp, wc, kp, kc, hc, hf, -⟩ := h.cells
  dsimp only [mz, Mg.zero] at hc
  rw [rf_2]
  simp only [bnd, rt]
  have H0 := Lib.hid h
  clear h
  go_enter Try.func43, Try.ntmps43
  go_wp2_with fail
  clear hc hf
  have h := H0.out
  have H1 := h.take
  rcases hq1 : rNum s.data.toList t with ⟨v1, t1⟩
  rw [hq1] at H1
  dsimp only at H1
  refine H1.mono ?_; rintro e w1 ⟨rfl, g1⟩
  obtain ⟨wp, wc, kp, kc, hc, hf, -⟩ := g1.cells
  dsimp only [mz, Mg.zero] at hc
  have h1 := Lib.hid (g1.put_ses v1)
  clear H1 g1
  go_wp2_with fail
  clear hc hf
  have H2 := h1.out.take
  rcases hq2 : rNum s.data.toList t1 with ⟨v2, t2⟩
  rw [hq2] at H2
  dsimp only at H2
  refine H2.mono ?_; rintro e w2 ⟨rfl, g2⟩
  obtain ⟨wp, wc, kp, kc, hc, hf, -⟩ := g2.cells
  dsimp only [mz, Mg.zero] at hc
  have h2 := Lib.hid (g2.put_seq v2)
  clear H2 g2
  go_wp2_with fail
  clear hc hf
  have H3 := h2.out.take
  rcases hq3 : rNum s.data.toList t2 with ⟨v3, t3⟩
  rw [hq3] at H3
  dsimp only at H3
  refine H3.mono ?_; rintro e w3 ⟨rfl, g3⟩
  obtain ⟨wp, wc, kp, kc, hc, hf, -⟩ := g3.cells
  dsimp only [mz, Mg.zero] at hc
  have h3 := Lib.hid (g3.put_err v3)
  clear H3 g3
  go_wp2_with fail
  clear hc hf
  have H4 := h3.out.num
  rcases hq4 : rNum s.data.toList t3 with ⟨v4, t4⟩
  rw [hq4] at H4
  dsimp only at H4
  refine H4.mono ?_; rintro e w4 ⟨rfl, g4⟩
  obtain ⟨wp, wc, kp, kc, hc, hf, -⟩ := g4.cells
  dsimp only [mz, Mg.zero] at hc
  have h4 := Lib.hid (g4.put_n v4)
  clear H4 g4
  go_wp2
  all_goals refine bodyPost_end (results_none rfl _ _ _) rfl ⟨rfl, ?_⟩
  all_goals first | exact h4.out | (simp only [bnd, rt, hq1, hq2, hq3, hq4]; exact h4.out)

set_option maxHeartbeats 2000000 in
theorem r_client_3 {col0 : Nat → Nat} {w0 : World} {b x : Nat} {s : ByteArray} {t : St} {w : World} (h : RS col0 w0 b x s t (mz 3) w) :
    Calls Try.prog 43 #[.pointer (some ⟨b, 0, none⟩), .pointer (some ⟨x, 0, none⟩)] w fun e w' => e = .returned (.tuple #[]) ∧ RS col0 w0 b x s (rFields s.data.toList (mz 3) t).2 (rFields s.data.toList (mz 3) t).1 w' := by
  obtain ⟨wp, wc, kp, kc, hc, hf, -⟩ := h.cells
  dsimp only [mz, Mg.zero] at hc
  rw [rf_3]
  simp only [bnd, rt]
  have H0 := Lib.hid h
  clear h
  go_enter Try.func43, Try.ntmps43
  go_wp2_with fail
  clear hc hf
  have h := H0.out
  have H1 := h.take
  rcases hq1 : rNum s.data.toList t with ⟨v1, t1⟩
  rw [hq1] at H1
  dsimp only at H1
  refine H1.mono ?_; rintro e w1 ⟨rfl, g1⟩
  obtain ⟨wp, wc, kp, kc, hc, hf, -⟩ := g1.cells
  dsimp only [mz, Mg.zero] at hc
  have h1 := Lib.hid (g1.put_node v1)
  clear H1 g1
  go_wp2_with fail
  clear hc hf
  have H2 := h1.out.take
  rcases hq2 : rNum s.data.toList t1 with ⟨v2, t2⟩
  rw [hq2] at H2
  dsimp only at H2
  refine H2.mono ?_; rintro e w2 ⟨rfl, g2⟩
  obtain ⟨wp, wc, kp, kc, hc, hf, -⟩ := g2.cells
  dsimp only [mz, Mg.zero] at hc
  have h2 := Lib.hid (g2.put_tx v2)
  clear H2 g2
  go_wp2_with fail
  clear hc hf
  have H3 := h2.out.take
  rcases hq3 : rNum s.data.toList t2 with ⟨v3, t3⟩
  rw [hq3] at H3
  dsimp only at H3
  refine H3.mono ?_; rintro e w3 ⟨rfl, g3⟩
  obtain ⟨wp, wc, kp, kc, hc, hf, -⟩ := g3.cells
  dsimp only [mz, Mg.zero] at hc
  have h3 := Lib.hid (g3.put_seq v3)
  clear H3 g3
  go_wp2_with fail
  clear hc hf
  have H4 := h3.out.text 32
  rcases hq4 : rTx s.data.toList 32 t3 with ⟨v4, t4⟩
  rw [hq4] at H4
  dsimp only at H4
  refine H4.mono ?_; rintro e w4 ⟨rfl, g4⟩
  obtain ⟨wp, wc, kp, kc, hc, hf, -⟩ := g4.cells
  dsimp only [mz, Mg.zero] at hc
  have h4 := Lib.hid (g4.put_key v4)
  clear H4 g4
  go_wp2_with fail
  clear hc hf
  have H5 := h4.out.pin
  rcases hq5 : rPin s.data.toList t4 with ⟨v5, t5⟩
  rw [hq5] at H5
  dsimp only at H5
  obtain ⟨v5a, v5b⟩ := v5
  dsimp only at H5
  refine H5.mono ?_; rintro e w5 ⟨rfl, g5⟩
  obtain ⟨wp, wc, kp, kc, hc, hf, -⟩ := g5.cells
  dsimp only [mz, Mg.zero] at hc
  have h5 := Lib.hid ((g5.put_lo v5a).put_hi v5b)
  clear H5 g5
  go_wp2
  all_goals refine bodyPost_end (results_none rfl _ _ _) rfl ⟨rfl, ?_⟩
  all_goals first | exact h5.out | (simp only [bnd, rt, hq1, hq2, hq3, hq4, hq5]; exact h5.out)

set_option maxHeartbeats 2000000 in
theorem r_client_5 {col0 : Nat → Nat} {w0 : World} {b x : Nat} {s : ByteArray} {t : St} {w : World} (h : RS col0 w0 b x s t (mz 5) w) :
    Calls Try.prog 43 #[.pointer (some ⟨b, 0, none⟩), .pointer (some ⟨x, 0, none⟩)] w fun e w' => e = .returned (.tuple #[]) ∧ RS col0 w0 b x s (rFields s.data.toList (mz 5) t).2 (rFields s.data.toList (mz 5) t).1 w' := by
  obtain ⟨wp, wc, kp, kc, hc, hf, -⟩ := h.cells
  dsimp only [mz, Mg.zero] at hc
  rw [rf_5]
  simp only [bnd, rt]
  have H0 := Lib.hid h
  clear h
  go_enter Try.func43, Try.ntmps43
  go_wp2_with fail
  clear hc hf
  have h := H0.out
  have H1 := h.take
  rcases hq1 : rNum s.data.toList t with ⟨v1, t1⟩
  rw [hq1] at H1
  dsimp only at H1
  refine H1.mono ?_; rintro e w1 ⟨rfl, g1⟩
  obtain ⟨wp, wc, kp, kc, hc, hf, -⟩ := g1.cells
  dsimp only [mz, Mg.zero] at hc
  have h1 := Lib.hid (g1.put_tx v1)
  clear H1 g1
  go_wp2_with fail
  clear hc hf
  have H2 := h1.out.take
  rcases hq2 : rNum s.data.toList t1 with ⟨v2, t2⟩
  rw [hq2] at H2
  dsimp only at H2
  refine H2.mono ?_; rintro e w2 ⟨rfl, g2⟩
  obtain ⟨wp, wc, kp, kc, hc, hf, -⟩ := g2.cells
  dsimp only [mz, Mg.zero] at hc
  have h2 := Lib.hid (g2.put_seq v2)
  clear H2 g2
  go_wp2_with fail
  clear hc hf
  have H3 := h2.out.text 32
  rcases hq3 : rTx s.data.toList 32 t2 with ⟨v3, t3⟩
  rw [hq3] at H3
  dsimp only at H3
  refine H3.mono ?_; rintro e w3 ⟨rfl, g3⟩
  obtain ⟨wp, wc, kp, kc, hc, hf, -⟩ := g3.cells
  dsimp only [mz, Mg.zero] at hc
  have h3 := Lib.hid (g3.put_key v3)
  clear H3 g3
  go_wp2_with fail
  clear hc hf
  have H4 := h3.out.pin
  rcases hq4 : rPin s.data.toList t3 with ⟨v4, t4⟩
  rw [hq4] at H4
  dsimp only at H4
  obtain ⟨v4a, v4b⟩ := v4
  dsimp only at H4
  refine H4.mono ?_; rintro e w4 ⟨rfl, g4⟩
  obtain ⟨wp, wc, kp, kc, hc, hf, -⟩ := g4.cells
  dsimp only [mz, Mg.zero] at hc
  have h4 := Lib.hid ((g4.put_lo v4a).put_hi v4b)
  clear H4 g4
  go_wp2
  all_goals refine bodyPost_end (results_none rfl _ _ _) rfl ⟨rfl, ?_⟩
  all_goals first | exact h4.out | (simp only [bnd, rt, hq1, hq2, hq3, hq4]; exact h4.out)

set_option maxHeartbeats 2000000 in
theorem r_client_4f {col0 : Nat → Nat} {w0 : World} {b x : Nat} {s : ByteArray} {t : St} {w : World} (h : RS col0 w0 b x s t (mz 4) w) (hh : (rBool s.data.toList (rNum s.data.toList (rNum s.data.toList t).2).2).1 = false) :
    Calls Try.prog 43 #[.pointer (some ⟨b, 0, none⟩), .pointer (some ⟨x, 0, none⟩)] w fun e w' => e = .returned (.tuple #[]) ∧ RS col0 w0 b x s (rFields s.data.toList (mz 4) t).2 (rFields s.data.toList (mz 4) t).1 w' := by
  obtain ⟨wp, wc, kp, kc, hc, hf, -⟩ := h.cells
  dsimp only [mz, Mg.zero] at hc
  rw [rf_4]
  simp only [bnd, rt]
  have H0 := Lib.hid h
  clear h
  go_enter Try.func43, Try.ntmps43
  go_wp2_with fail
  clear hc hf
  have h := H0.out
  have H1 := h.take
  rcases hq1 : rNum s.data.toList t with ⟨v1, t1⟩
  rw [hq1] at H1
  dsimp only at H1
  refine H1.mono ?_; rintro e w1 ⟨rfl, g1⟩
  obtain ⟨wp, wc, kp, kc, hc, hf, -⟩ := g1.cells
  dsimp only [mz, Mg.zero] at hc
  have h1 := Lib.hid (g1.put_tx v1)
  clear H1 g1
  go_wp2_with fail
  clear hc hf
  have H2 := h1.out.take
  rcases hq2 : rNum s.data.toList t1 with ⟨v2, t2⟩
  rw [hq2] at H2
  dsimp only at H2
  refine H2.mono ?_; rintro e w2 ⟨rfl, g2⟩
  obtain ⟨wp, wc, kp, kc, hc, hf, -⟩ := g2.cells
  dsimp only [mz, Mg.zero] at hc
  have h2 := Lib.hid (g2.put_seq v2)
  clear H2 g2
  go_wp2_with fail
  clear hc hf
  have H3 := h2.out.bool
  rcases hq3 : rBool s.data.toList t2 with ⟨v3, t3⟩
  rw [hq3] at H3
  dsimp only at H3
  rw [hq1] at hh
  dsimp only at hh
  rw [hq2] at hh
  dsimp only at hh
  rw [hq3] at hh
  dsimp only at hh
  subst hh
  refine H3.mono ?_; rintro e w3 ⟨rfl, g3⟩
  obtain ⟨wp, wc, kp, kc, hc, hf, -⟩ := g3.cells
  dsimp only [mz, Mg.zero] at hc
  have h3 := Lib.hid (g3.put_hit false)
  clear H3 g3
  go_wp2
  all_goals refine bodyPost_end (results_none rfl _ _ _) rfl ⟨rfl, ?_⟩
  all_goals first | exact h3.out | (simp only [bnd, rt, hq1, hq2, hq3]; exact h3.out)

set_option maxHeartbeats 2000000 in
theorem r_client_4t {col0 : Nat → Nat} {w0 : World} {b x : Nat} {s : ByteArray} {t : St} {w : World} (h : RS col0 w0 b x s t (mz 4) w) (hh : (rBool s.data.toList (rNum s.data.toList (rNum s.data.toList t).2).2).1 = true) :
    Calls Try.prog 43 #[.pointer (some ⟨b, 0, none⟩), .pointer (some ⟨x, 0, none⟩)] w fun e w' => e = .returned (.tuple #[]) ∧ RS col0 w0 b x s (rFields s.data.toList (mz 4) t).2 (rFields s.data.toList (mz 4) t).1 w' := by
  obtain ⟨wp, wc, kp, kc, hc, hf, -⟩ := h.cells
  dsimp only [mz, Mg.zero] at hc
  rw [rf_4]
  simp only [bnd, rt]
  have H0 := Lib.hid h
  clear h
  go_enter Try.func43, Try.ntmps43
  go_wp2_with fail
  clear hc hf
  have h := H0.out
  have H1 := h.take
  rcases hq1 : rNum s.data.toList t with ⟨v1, t1⟩
  rw [hq1] at H1
  dsimp only at H1
  refine H1.mono ?_; rintro e w1 ⟨rfl, g1⟩
  obtain ⟨wp, wc, kp, kc, hc, hf, -⟩ := g1.cells
  dsimp only [mz, Mg.zero] at hc
  have h1 := Lib.hid (g1.put_tx v1)
  clear H1 g1
  go_wp2_with fail
  clear hc hf
  have H2 := h1.out.take
  rcases hq2 : rNum s.data.toList t1 with ⟨v2, t2⟩
  rw [hq2] at H2
  dsimp only at H2
  refine H2.mono ?_; rintro e w2 ⟨rfl, g2⟩
  obtain ⟨wp, wc, kp, kc, hc, hf, -⟩ := g2.cells
  dsimp only [mz, Mg.zero] at hc
  have h2 := Lib.hid (g2.put_seq v2)
  clear H2 g2
  go_wp2_with fail
  clear hc hf
  have H3 := h2.out.bool
  rcases hq3 : rBool s.data.toList t2 with ⟨v3, t3⟩
  rw [hq3] at H3
  dsimp only at H3
  rw [hq1] at hh
  dsimp only at hh
  rw [hq2] at hh
  dsimp only at hh
  rw [hq3] at hh
  dsimp only at hh
  subst hh
  refine H3.mono ?_; rintro e w3 ⟨rfl, g3⟩
  obtain ⟨wp, wc, kp, kc, hc, hf, -⟩ := g3.cells
  dsimp only [mz, Mg.zero] at hc
  have h3 := Lib.hid (g3.put_hit true)
  clear H3 g3
  go_wp2_with fail
  clear hc hf
  have H4 := h3.out.val
  rcases hq4 : rVal s.data.toList t3 with ⟨v4, t4⟩
  rw [hq4] at H4
  dsimp only at H4
  obtain ⟨v4a, v4b⟩ := v4
  dsimp only at H4
  refine H4.mono ?_; rintro e w4 ⟨rfl, g4⟩
  obtain ⟨wp, wc, kp, kc, hc, hf, -⟩ := g4.cells
  dsimp only [mz, Mg.zero] at hc
  have h4 := Lib.hid ((g4.put_has v4a).put_data v4b)
  clear H4 g4
  go_wp2_with fail
  clear hc hf
  have H5 := h4.out.pin
  rcases hq5 : rPin s.data.toList t4 with ⟨v5, t5⟩
  rw [hq5] at H5
  dsimp only at H5
  obtain ⟨v5a, v5b⟩ := v5
  dsimp only at H5
  refine H5.mono ?_; rintro e w5 ⟨rfl, g5⟩
  obtain ⟨wp, wc, kp, kc, hc, hf, -⟩ := g5.cells
  dsimp only [mz, Mg.zero] at hc
  have h5 := Lib.hid ((g5.put_lo v5a).put_hi v5b)
  clear H5 g5
  go_wp2
  all_goals refine bodyPost_end (results_none rfl _ _ _) rfl ⟨rfl, ?_⟩
  all_goals first | exact h5.out | (simp only [bnd, rt, hq1, hq2, hq3, hq4, hq5]; exact h5.out)

set_option maxHeartbeats 2000000 in
theorem r_client_6f {col0 : Nat → Nat} {w0 : World} {b x : Nat} {s : ByteArray} {t : St} {w : World} (h : RS col0 w0 b x s t (mz 6) w) (hh : ¬ (rNum s.data.toList (rNum s.data.toList (rNum s.data.toList t).2).2).1 = 0) :
    Calls Try.prog 43 #[.pointer (some ⟨b, 0, none⟩), .pointer (some ⟨x, 0, none⟩)] w fun e w' => e = .returned (.tuple #[]) ∧ RS col0 w0 b x s (rFields s.data.toList (mz 6) t).2 (rFields s.data.toList (mz 6) t).1 w' := by
  obtain ⟨wp, wc, kp, kc, hc, hf, -⟩ := h.cells
  dsimp only [mz, Mg.zero] at hc
  rw [rf_6]
  simp only [bnd, rt]
  have H0 := Lib.hid h
  clear h
  go_enter Try.func43, Try.ntmps43
  go_wp2_with fail
  clear hc hf
  have h := H0.out
  have H1 := h.take
  rcases hq1 : rNum s.data.toList t with ⟨v1, t1⟩
  rw [hq1] at H1
  dsimp only at H1
  refine H1.mono ?_; rintro e w1 ⟨rfl, g1⟩
  obtain ⟨wp, wc, kp, kc, hc, hf, -⟩ := g1.cells
  dsimp only [mz, Mg.zero] at hc
  have h1 := Lib.hid (g1.put_tx v1)
  clear H1 g1
  go_wp2_with fail
  clear hc hf
  have H2 := h1.out.take
  rcases hq2 : rNum s.data.toList t1 with ⟨v2, t2⟩
  rw [hq2] at H2
  dsimp only at H2
  refine H2.mono ?_; rintro e w2 ⟨rfl, g2⟩
  obtain ⟨wp, wc, kp, kc, hc, hf, -⟩ := g2.cells
  dsimp only [mz, Mg.zero] at hc
  have h2 := Lib.hid (g2.put_seq v2)
  clear H2 g2
  go_wp2_with fail
  clear hc hf
  have H3 := h2.out.take
  rcases hq3 : rNum s.data.toList t2 with ⟨v3, t3⟩
  rw [hq3] at H3
  dsimp only at H3
  rw [hq1] at hh
  dsimp only at hh
  rw [hq2] at hh
  dsimp only at hh
  rw [hq3] at hh
  dsimp only at hh
  have hne : (v3 == 0) = false := by simpa using hh
  have HX := Lib.hid hh
  clear hh
  refine H3.mono ?_; rintro e w3 ⟨rfl, g3⟩
  obtain ⟨wp, wc, kp, kc, hc, hf, -⟩ := g3.cells
  dsimp only [mz, Mg.zero] at hc
  have h3 := Lib.hid (g3.put_err v3)
  clear H3 g3
  go_wp2
  all_goals refine bodyPost_end (results_none rfl _ _ _) rfl ⟨rfl, ?_⟩
  all_goals first | exact h3.out | (simp only [bnd, rt, hq1, hq2, hq3, if_neg HX.out]; exact h3.out)

set_option maxHeartbeats 2000000 in
theorem r_client_6t {col0 : Nat → Nat} {w0 : World} {b x : Nat} {s : ByteArray} {t : St} {w : World} (h : RS col0 w0 b x s t (mz 6) w) (hh : (rNum s.data.toList (rNum s.data.toList (rNum s.data.toList t).2).2).1 = 0) :
    Calls Try.prog 43 #[.pointer (some ⟨b, 0, none⟩), .pointer (some ⟨x, 0, none⟩)] w fun e w' => e = .returned (.tuple #[]) ∧ RS col0 w0 b x s (rFields s.data.toList (mz 6) t).2 (rFields s.data.toList (mz 6) t).1 w' := by
  obtain ⟨wp, wc, kp, kc, hc, hf, -⟩ := h.cells
  dsimp only [mz, Mg.zero] at hc
  rw [rf_6]
  simp only [bnd, rt]
  have H0 := Lib.hid h
  clear h
  go_enter Try.func43, Try.ntmps43
  go_wp2_with fail
  clear hc hf
  have h := H0.out
  have H1 := h.take
  rcases hq1 : rNum s.data.toList t with ⟨v1, t1⟩
  rw [hq1] at H1
  dsimp only at H1
  refine H1.mono ?_; rintro e w1 ⟨rfl, g1⟩
  obtain ⟨wp, wc, kp, kc, hc, hf, -⟩ := g1.cells
  dsimp only [mz, Mg.zero] at hc
  have h1 := Lib.hid (g1.put_tx v1)
  clear H1 g1
  go_wp2_with fail
  clear hc hf
  have H2 := h1.out.take
  rcases hq2 : rNum s.data.toList t1 with ⟨v2, t2⟩
  rw [hq2] at H2
  dsimp only at H2
  refine H2.mono ?_; rintro e w2 ⟨rfl, g2⟩
  obtain ⟨wp, wc, kp, kc, hc, hf, -⟩ := g2.cells
  dsimp only [mz, Mg.zero] at hc
  have h2 := Lib.hid (g2.put_seq v2)
  clear H2 g2
  go_wp2_with fail
  clear hc hf
  have H3 := h2.out.take
  rcases hq3 : rNum s.data.toList t2 with ⟨v3, t3⟩
  rw [hq3] at H3
  dsimp only at H3
  rw [hq1] at hh
  dsimp only at hh
  rw [hq2] at hh
  dsimp only at hh
  rw [hq3] at hh
  dsimp only at hh
  subst hh
  refine H3.mono ?_; rintro e w3 ⟨rfl, g3⟩
  obtain ⟨wp, wc, kp, kc, hc, hf, -⟩ := g3.cells
  dsimp only [mz, Mg.zero] at hc
  have h3 := Lib.hid (g3.put_err (0 : Int))
  clear H3 g3
  go_wp2_with fail
  clear hc hf
  have H4 := h3.out.val
  rcases hq4 : rVal s.data.toList t3 with ⟨v4, t4⟩
  rw [hq4] at H4
  dsimp only at H4
  obtain ⟨v4a, v4b⟩ := v4
  dsimp only at H4
  refine H4.mono ?_; rintro e w4 ⟨rfl, g4⟩
  obtain ⟨wp, wc, kp, kc, hc, hf, -⟩ := g4.cells
  dsimp only [mz, Mg.zero] at hc
  have h4 := Lib.hid ((g4.put_has v4a).put_data v4b)
  clear H4 g4
  go_wp2_with fail
  clear hc hf
  have H5 := h4.out.pin
  rcases hq5 : rPin s.data.toList t4 with ⟨v5, t5⟩
  rw [hq5] at H5
  dsimp only at H5
  obtain ⟨v5a, v5b⟩ := v5
  dsimp only at H5
  refine H5.mono ?_; rintro e w5 ⟨rfl, g5⟩
  obtain ⟨wp, wc, kp, kc, hc, hf, -⟩ := g5.cells
  dsimp only [mz, Mg.zero] at hc
  have h5 := Lib.hid ((g5.put_lo v5a).put_hi v5b)
  clear H5 g5
  go_wp2
  all_goals refine bodyPost_end (results_none rfl _ _ _) rfl ⟨rfl, ?_⟩
  all_goals first | exact h5.out | (simp only [bnd, rt, hq1, hq2, hq3, hq4, hq5]; exact h5.out)

end Go.Proofs.Ytiklpifaaogcpaa
