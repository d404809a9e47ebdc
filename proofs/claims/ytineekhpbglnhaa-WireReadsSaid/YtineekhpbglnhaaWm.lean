/- WireSizes. -/
import Derived.Test.YtineekhpbglnhaaWl
import Derived.WalkKit
import Derived.WalkLawsBesides
import Derived.WalkSpells
import Derived.Below
import Derived.Deep.RegionHeld3
import Derived.Deep.QuietTactic
import Derived.BigQuiet
import Derived.Deep.DeepCutAuto
import Derived.Deep.DeepMust
import Derived.KernelRfl
import Derived.Lib.Hide
import Derived.Outline
import Derived.RegionTactic
import Derived.StillTailTactics
import Derived.Laws.IdiomStrings
namespace Go.Proofs.Ytineekhpbglnhaa
open Go.RowKit Go.Cl
set_option maxRecDepth 100000
set_option linter.unusedVariables false
set_option linter.unusedSimpArgs false

open Go.Wr
theorem num_len_le : ∀ (j u : Nat), 0 < j → u < 128 ^ j → (num u).length ≤ j := by
  intro j
  induction j with
  | zero => intro u h; omega
  | succ j ih =>
    intro u _ hu
    by_cases h : u < 128
    · rw [num_lo h]; simp
    · rw [num_hi (by omega)]
      have hj : 0 < j := by
        rcases Nat.eq_zero_or_pos j with e | e
        · subst e; simp at hu; omega
        · exact e
      have := ih (u / 128) hj (by rw [Nat.pow_succ] at hu; exact Nat.div_lt_of_lt_mul (by rw [Nat.mul_comm]; exact hu))
      simp; omega
theorem num_len_10 {u : Nat} (h : u < 18446744073709551616) : (num u).length ≤ 10 := num_len_le 10 u (by decide) (Nat.lt_of_lt_of_le h (by decide))
def SzInv (Z : Nat) (u k : Value) : Prop := ∃ U K : Nat, u = .int .u64 U ∧ k = .int .i64 K ∧ U ≤ Z ∧ 1 ≤ K ∧ K + (num U).length = 1 + (num Z).length
/-- What a writer with these bytes gives. -/
theorem sizes_facts (n : Int) (n1 : -9223372036854775808 ≤ n) (n2 : n ≤ 9223372036854775807) : ∃ s0 : ByteArray, (⟨([] ++ num (zz n)).toArray⟩ : ByteArray) = s0 ∧ s0.size = (num (zz n)).length ∧ rNum s0.data.toList ⟨0, 0⟩ = (n, ⟨(num (zz n)).length, 0⟩) ∧ rEnd s0.data.toList ⟨(num (zz n)).length, 0⟩ = 0 := by
  refine ⟨_, rfl, ?_, ?_, ?_⟩
  · show (([] ++ num (zz n)).toArray).size = _; simp
  · have := num_read n1 n2 [] []
    simpa using this
  · simp [rEnd]
set_option maxHeartbeats 1000000 in
theorem wireSizes (w : World) (n : Int) (n1 : -9223372036854775808 ≤ n) (n2 : n ≤ 9223372036854775807) :
    Calls Try.prog 3 #[.int .i64 n] w fun e w' => e = .returned (.bool true) ∧ Below w.heap.size w w' := by
  have hZ := zz_lt n1 n2
  have HL := Lib.hid (num_len_10 hZ)
  have HZ := Lib.hid hZ; clear hZ
  have HP := Lib.hid (fun h0 : ¬ n < 0 => sh_pos (by omega) n2)
  have HN := Lib.hid (fun h0 : n < 0 => sh_neg h0 n1)
  have HF := Lib.hid (sizes_facts n n1 n2)
  have N1 := Lib.hid n1; have N2 := Lib.hid n2
  clear n1 n2
  by_cases hn : n < 0
  all_goals
    go_enter Try.func3, Try.ntmps3
    go_wp2_with (go_at_call 9; refine (fixed_true _).mono ?_; rintro e w0 ⟨rfl, hb0⟩)
    first | rw [HN.out hn] | rw [HP.out hn]
    go_loop [3, 4] (SzInv (zz n)) (fun u _ => (intOf u).toNat)
    case atStart => exact ⟨zz n, 1, rfl, rfl, Nat.le_refl _, by omega, rfl⟩
    case round =>
      obtain ⟨U, K, rfl, rfl, hU, hK, hS⟩ := hrel
      by_cases hlt : U < 128
      · rw [num_lo hlt] at hS
        simp only [List.length_cons, List.length_nil] at hS
        obtain ⟨s0, hs0, hsz, hrn, hre⟩ := HF.out
        rw [show (num (zz n)).length = K by omega] at hsz hrn hre
        have HS := Lib.hid hS
        have HSZ := Lib.hid hsz; have HS0 := Lib.hid hs0; have HRN := Lib.hid hrn; have HRE := Lib.hid hre
        clear hS hsz hs0 hrn hre HF HN HP
        go_wp2_with fail
        obtain ⟨k0, h0, m0⟩ := wn_new (S := [1, 2]) zc 1 (by simp) w0
        refine (wn_num (S := [1, 2]) k0 1 (by simp) _ _ [] h0 n N1.out N2.out (by have := HL.out; simp only [List.length_nil]; omega)).mono ?_; rintro e w1 ⟨k1, rfl, h1, m1⟩
        replace m1 := m0.trans m1
        clear h0 m0
        go_wp2_with (go_at_call 12; refine (wr_data _ 1 _ _ _ h1).mono ?_; rintro e w' ⟨rfl, rfl⟩; rw [HS0.out])
        refine (rn_new (S := [1, 2]) k1 2 (by simp) _ s0 (by have := HSZ.out; have := HS.out; have := HL.out; unfold maxLen; omega)).mono ?_; rintro e w3 ⟨r, k3, rfl, h3, m3, m3'⟩
        replace m3 := m1.trans m3
        replace h1 := h1.kept m3' (by simp)
        clear m1 m3'
        have hsz := HSZ.out
        go_wp2_with (go_at_call 12; refine (wr_data _ 1 _ _ _ h1).mono ?_; rintro e w' ⟨rfl, rfl⟩; rw [HS0.out])
        clear hsz
        refine (rn_num (S := [1, 2]) k3 2 (by simp) _ _ _ _ h3).mono ?_; rintro e w4 ⟨k4, rfl, h4, m4, _⟩
        rw [HRN.out] at h4 ⊢
        replace m4 := m3.trans m4
        clear h1 h3 m3
        go_wp2_with fail
        refine (rd_at _ 2 _ _ _ _ h4).mono ?_; rintro e w5 ⟨rfl, rfl⟩
        go_wp2_with fail
        refine (rd_end _ 2 _ _ _ _ h4).mono ?_; rintro e w6 ⟨rfl, nq, rfl⟩
        rw [HRE.out]
        go_wp2
        go_ret
        exact ⟨rfl, hb0.trans (((m4.after_below (below_drewN (Below.refl _ _) nq)).toBelow (zc0 w0)).mono hb0.size)⟩
      · have h7 : (U : Int).fdiv (2 ^ min (Int.toNat 7) IntKind.u64.bits) = ((U / 128 : Nat) : Int) := by
          show (U : Int).fdiv 128 = _
          rw [Int.fdiv_eq_ediv_of_nonneg _ (by decide)]; omega
        rw [num_hi (by omega), List.length_cons] at hS
        have hK10 : K ≤ 10 := by have := HL.out; omega
        have HS := Lib.hid hS; clear hS
        go_wp2
        go_round
        case rel => exact ⟨U / 128, K + 1, by go_num, by go_num, by omega, by omega, by have := HS.out; omega⟩
        case measure => simp [intOf]; omega
end Go.Proofs.Ytineekhpbglnhaa
