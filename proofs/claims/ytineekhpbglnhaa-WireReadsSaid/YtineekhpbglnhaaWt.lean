/- WireWrites. -/
import Derived.Test.YtineekhpbglnhaaWs
import Derived.Lib.AppendStr
import Derived.WalkKit
import Derived.WalkLawsBesides
import Derived.WalkSpells
import Derived.Below
import Derived.Deep.RegionHeld3
import Derived.Deep.QuietTactic
import Derived.BigQuiet
import Derived.Deep.DeepCutAuto
import Derived.Deep.DeepMust
import Derived.KernelRfl
import Derived.Lib.Hide
import Derived.Outline
import Derived.RegionTactic
import Derived.StillTailTactics
import Derived.Laws.IdiomStrings
namespace Go.Proofs.Ytineekhpbglnhaa
open Go.RowKit Go.Cl
set_option maxRecDepth 100000
set_option linter.unusedVariables false
set_option linter.unusedSimpArgs false

open Go.Wr Go.Rdr
/-- A writer behind the first k things. -/
def PutInv (w : World) (b : Nat) (l : List OpT) (t : Value) (wr : World) : Prop := ∃ (k : Nat) (c : Nat → Nat), t = .int .i64 k ∧ k ≤ l.length ∧ Wri c 1 wr b (encs (l.take k)) ∧ Mv [1, 2] zc w c wr
set_option maxHeartbeats 1000000 in
theorem wireWrites (w : World) (base : Nat) (v : Value) (l : List OpT) (hs : SlIs w base 4 OpR v l) (hle : (encs l).length ≤ 140737488355328) :
    Calls Try.prog 4 #[v] w fun e w' => e = .returned (.bool true) ∧ Below w.heap.size w w' := by
  obtain ⟨p, c, rfl, hlc, hcm⟩ := hs.form
  unfold maxLen at hcm
  have HLE := Lib.hid hle; clear hle
  go_enter Try.func4, Try.ntmps4
  go_wp2_with (go_at_call 9; refine (fixed_true _).mono ?_; rintro e w0 ⟨rfl, hb0⟩; obtain ⟨c0, h0, m0⟩ := wn_new (S := [1, 2]) zc 1 (by simp) w0)
  replace m0 := (Mv.of_below (S := [1, 2]) (col := zc) hb0).trans m0
  go_loopw [4] (PutInv w w0.heap.size l) (fun t _ => l.length + 1 - (intOf t).toNat)
  case atStart => exact ⟨0, c0, rfl, Nat.zero_le _, h0, m0⟩
  case round =>
    obtain ⟨k, c1, rfl, hk, h1, m1⟩ := hrel
    clear h0
    have hbw := m1.toBelow (zc0 w)
    by_cases hlt : k < l.length
    · obtain ⟨bs, os, c', cs, hv, _, _, hcl, ⟨hcs, k0, k1, n1, n2, sz⟩, hbs, hat⟩ := hs.at hbw k hlt
      simp only [Value.slice.injEq] at hv
      obtain ⟨rfl, _, rfl⟩ := hv
      subst hcs
      have q0 := hat 0 (by omega)
      have q1 := hat 1 (by omega)
      have q2 := hat 2 (by omega)
      have q3 := hat 3 (by omega)
      simp only [List.getElem?_cons_zero, List.getElem?_cons_succ, Nat.add_zero] at q0 q1 q2 q3
      have hes := encs_snoc l k hlt
      have hel := encs_le l (k + 1)
      rw [hes, List.length_append] at hel
      have hel2 := HLE.out
      generalize l[k] = X at *
      obtain ⟨K, I, S, M⟩ := X
      simp only at q0 q1 q2 q3 k0 k1 n1 n2 sz
      have HEL := Lib.hid (Nat.le_trans hel hel2); clear hel hel2
      have N1 := Lib.hid n1; have N2 := Lib.hid n2; have SZ := Lib.hid sz
      have HES := Lib.hid hes; clear hes
      clear n1 n2 sz hat hcl
      go_wp2_with (go_at_call 16; refine (put_ok (SS := [1, 2]) c1 1 (by simp) wr _ _ h1 K I M S k0 k1 N1.out N2.out SZ.out HEL.out).mono ?_; rintro e w2 ⟨c2, rfl, h2, m2⟩)
      replace m2 := m1.trans m2
      clear h1 m1 hbw q0 q1 q2 q3
      go_roundw
      case rel => exact ⟨k + 1, c2, by go_num, by omega, by rw [HES.out]; exact h2, m2⟩
      case measure => simp [intOf]; omega
    · have hkn : k = l.length := by omega
      clear hlt hk
      subst hkn
      simp only [List.take_length] at h1
      have hsr := hs.mono hbw
      have HS2 := Lib.hid hsr
      clear hs hsr
      go_wp2_with (first | (go_at_call 12; refine (wr_data _ 1 _ _ _ h1).mono ?_; rintro e w' ⟨rfl, rfl⟩) | (go_at_call 17; refine (written_ok wr base _ l HS2.out HLE.out).mono ?_; rintro e w3 ⟨rfl, hb3⟩))
      go_ret
      exact ⟨rfl, below_call hbw hb3⟩
end Go.Proofs.Ytineekhpbglnhaa
