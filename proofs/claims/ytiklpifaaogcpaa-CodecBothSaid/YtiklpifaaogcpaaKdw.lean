/- CodecDecodes: its walk. -/
import Derived.Test.YtiklpifaaogcpaaKdf
import Derived.Test.YtiklpifaaogcpaaKcg
import Derived.WalkKit
import Derived.WalkLawsBesides
import Derived.WalkSpells
import Derived.Below
import Derived.Deep.RegionHeld3
import Derived.Deep.QuietTactic
import Derived.BigQuiet
import Derived.Deep.DeepCutAuto
import Derived.Deep.DeepMust
import Derived.KernelRfl
import Derived.Lib.Hide
import Derived.Outline
import Derived.RegionTactic
import Derived.StillTailTactics
import Derived.Laws.IdiomStrings
import Derived.Handy
namespace Go.Proofs.Ytiklpifaaogcpaa
open Go.RowKit Go.Cl Go.Wr Go.Kc
set_option maxRecDepth 100000
set_option linter.unusedVariables false
set_option linter.unusedSimpArgs false


theorem c_decodeR (s : ByteArray) (hs : s.size ≤ maxLen) (w : World) : Calls Try.prog 14 #[.string s] w (RDec s w) := by
  refine (c_decode s hs w).mono ?_
  rintro e w' ⟨hb, h⟩
  have hr := refdec_is s.data.toList
  rcases h with ⟨er, hd, rfl⟩ | ⟨m, c, wp, wc, kp, kc, hd, rfl, _, hw, hk⟩
  · rw [hd] at hr
    dsimp only at hr
    refine ⟨none, 0, none, 0, ?_, ?_, ?_, hb⟩
    · rw [hr]; rfl
    · rw [hr]; exact lsW9 _
    · rw [hr]; exact lsS9 _
  · rw [hd] at hr
    dsimp only at hr
    refine ⟨wp, wc, kp, kc, ?_, ?_, ?_, hb⟩
    · rw [hr]
    · rw [hr]; exact row_lsW hw
    · rw [hr]; exact row_lsS hk
set_option maxHeartbeats 4000000 in
theorem c_decodes (s : ByteArray) (hs : s.size ≤ maxLen) (w : World) : Calls Try.prog 4 #[.string s] w fun e w' => e = .returned (.bool true) ∧ Below w.heap.size w w' := by
  have HS := Lib.hid hs; clear hs
  have H14 := Lib.hid (fun w' => c_decodeR s HS.out w')
  have H15 := Lib.hid (fun w' => c_rdecode s HS.out w')
  unfold RDec at H14 H15
  generalize refdec s.data.toList = r at *
  obtain ⟨M, E⟩ := r
  dsimp only at H14 H15
  go_enter Try.func4, Try.ntmps4
  go_wp2_with fail
  refine (c_fixed w).mono ?_
  rintro e w0 ⟨rfl, hb0⟩
  go_wp2_with fail
  refine (H14.out w0).mono ?_
  rintro e w1 ⟨wp1, wc1, kp1, kc1, rfl, hw1, hk1, hb1⟩
  have HZ1 : Hid ((M.cs wp1 wc1 kp1 kc1).size = 16 ∧ (M.cs wp1 wc1 kp1 kc1).all (·.oneCell') = true) := Lib.hid ⟨rfl, by simp [Mg.cs, Value.oneCell']⟩
  obtain ⟨A1, hA1⟩ : ∃ A, A = M.cs wp1 wc1 kp1 kc1 := ⟨_, rfl⟩
  rw [← hA1] at HZ1
  have HA1 := Lib.hid hA1
  rw [← hA1]
  clear hA1
  dsimp only
  iterate 10 go_step
  refine al_op rfl rfl ?_
  simp only [Act.put, List.setIfInBounds_toArray, List.set_cons_zero, List.set_cons_succ]
  refine st_op rfl (.tmp 3) (.tmp 12) rfl w1.heap.size A1 rfl rfl Z30 (hp_alloc_new _ _) rfl HZ1.out.1 HZ1.out.2 ?_
  simp only [Act.put, List.setIfInBounds_toArray, List.set_cons_zero, List.set_cons_succ]
  have q1 := hp_row (cs' := A1) (hp_alloc_new w1 (.cells Z30 30))
  have hs1 : Below w1.heap.size w1 ((w1.alloc (.cells Z30 30)).setRow w1.heap.size A1) := below_row (by (repeat (first | (with_reducible exact Below.refl _ _) | (with_reducible refine below_drew ?_) | (with_reducible refine below_alloc ?_ _)))) (Nat.le_refl _) _
  have hb33 := below_call hb0 (below_call hb1 hs1)
  have L1 := Lib.hid (And.intro (hw1.below hs1) (hk1.below hs1))
  clear hb0 hb1 hs1 hw1 hk1
  generalize (w1.alloc (.cells Z30 30)).setRow w1.heap.size A1 = w3 at *
  generalize w1.heap.size = b3 at *
  go_wp2_with fail
  refine (H15.out w3).mono ?_
  rintro e w4 ⟨wp2, wc2, kp2, kc2, rfl, hw2, hk2, hb4⟩
  have HZ2 : Hid ((M.cs wp2 wc2 kp2 kc2).size = 16 ∧ (M.cs wp2 wc2 kp2 kc2).all (·.oneCell') = true) := Lib.hid ⟨rfl, by simp [Mg.cs, Value.oneCell']⟩
  obtain ⟨A2, hA2⟩ : ∃ A, A = M.cs wp2 wc2 kp2 kc2 := ⟨_, rfl⟩
  rw [← hA2] at HZ2
  have HA2 := Lib.hid hA2
  rw [← hA2]
  clear hA2
  dsimp only
  iterate 10 go_step
  refine al_op rfl rfl ?_
  simp only [Act.put, List.setIfInBounds_toArray, List.set_cons_zero, List.set_cons_succ]
  refine st_op rfl (.tmp 5) (.tmp 17) rfl w4.heap.size A2 rfl rfl Z30 (hp_alloc_new _ _) rfl HZ2.out.1 HZ2.out.2 ?_
  simp only [Act.put, List.setIfInBounds_toArray, List.set_cons_zero, List.set_cons_succ]
  have q2 := hp_row (cs' := A2) (hp_alloc_new w4 (.cells Z30 30))
  have hs2 : Below w4.heap.size w4 ((w4.alloc (.cells Z30 30)).setRow w4.heap.size A2) := below_row (by (repeat (first | (with_reducible exact Below.refl _ _) | (with_reducible refine below_drew ?_) | (with_reducible refine below_alloc ?_ _)))) (Nat.le_refl _) _
  have hb55 := below_call hb33 (below_call hb4 hs2)
  have q3 := hp_below hs2 (hp_below hb4 q1)
  have L5 := Lib.hid (And.intro ((L1.out.1.below hb4).below hs2) ((L1.out.2.below hb4).below hs2))
  have L6 := Lib.hid (And.intro (hw2.below hs2) (hk2.below hs2))
  clear hb33 hb4 hs2 hw2 hk2 L1 q1
  generalize (w4.alloc (.cells Z30 30)).setRow w4.heap.size A2 = w5 at *
  generalize w4.heap.size = b5 at *
  iterate 20 go_step
  refine ld_opg (by rfl) (.tmp 3) rfl b3 rfl A1 q3 HZ1.out.1 ?_
  simp only [Act.put, List.setIfInBounds_toArray, List.set_cons_zero, List.set_cons_succ]
  refine ld_opg (by rfl) (.tmp 5) rfl b5 rfl A2 q2 HZ2.out.1 ?_
  simp only [Act.put, List.setIfInBounds_toArray, List.set_cons_zero, List.set_cons_succ]
  have HSM := Lib.hid (c_same w5 M M wp1 kp1 wp2 kp2 wc1 kc1 wc2 kc2 L5.out.1 L5.out.2 L6.out.1 L6.out.2)
  rw [← HA1.out, ← HA2.out] at HSM
  go_wp2_with fail
  refine HSM.out.mono ?_
  rintro e w8 ⟨b, rfl, hb, hb8⟩
  obtain rfl : b = true := hb.2 (by first | trivial | rfl)
  clear hb
  go_wp2
  go_ret
  exact ⟨rfl, below_call hb55 hb8⟩

end Go.Proofs.Ytiklpifaaogcpaa
