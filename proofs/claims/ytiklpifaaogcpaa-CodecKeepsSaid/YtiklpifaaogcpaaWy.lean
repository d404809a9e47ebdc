/- The reference's numbers read. -/
import Derived.Test.YtiklpifaaogcpaaWm
import Derived.WalkKit
import Derived.WalkLawsBesides
import Derived.WalkSpells
import Derived.Below
import Derived.Deep.RegionHeld3
import Derived.Deep.QuietTactic
import Derived.BigQuiet
import Derived.Deep.DeepCutAuto
import Derived.Deep.DeepMust
import Derived.KernelRfl
import Derived.Lib.Hide
import Derived.Outline
import Derived.RegionTactic
import Derived.StillTailTactics
import Derived.Laws.IdiomStrings
namespace Go.Proofs.Ytiklpifaaogcpaa
open Go.RowKit Go.Cl
set_option maxRecDepth 100000
set_option linter.unusedVariables false
set_option linter.unusedSimpArgs false

open Go.Wr
def LkInv (l : List UInt8) (a : Nat) (R : Nat ⊕ Nat × Nat) (x u wt i : Value) : Prop :=
  ∃ (k U Wt : Nat), x = .int .i64 ((a + k : Nat) : Int) ∧ u = .int .u64 U ∧ wt = .int .u64 Wt ∧ i = .int .i64 k ∧ k ≤ 9 ∧ a + k ≤ l.length ∧ U < 128 ^ k ∧ Wt = 128 ^ k ∧ lk k U (l.drop (a + k)) = R
theorem ref_facts (U Wt k v : Nat) (hW : Wt = 128 ^ k) (hk : k ≤ 9) (hX : U + 128 ^ k * (v % 128) < 18446744073709551616) :
    ∃ Y X W' : Nat, IntKind.u64.wrap ((Wt : Int) * ((v : Int) % 128)) = (Y : Int) ∧ IntKind.u64.wrap ((U : Int) + (Y : Int)) = (X : Int) ∧ X = U + 128 ^ k * (v % 128) ∧ X < 18446744073709551616 ∧
      IntKind.u64.wrap ((Wt : Int) * 128) = (W' : Int) ∧ (k < 9 → W' = 128 ^ (k + 1)) := by
  refine ⟨128 ^ k * (v % 128), U + 128 ^ k * (v % 128), (128 ^ k * 128) % 18446744073709551616, ?_, ?_, rfl, hX, ?_, ?_⟩
  · rw [w_u64, hW, show ((v : Int) % 128) = ((v % 128 : Nat) : Int) by omega]
    rw [show (((128 ^ k : Nat) : Int) * ((v % 128 : Nat) : Int)) = ((128 ^ k * (v % 128) : Nat) : Int) by push_cast; rfl]
    omega
  · rw [w_u64]; omega
  · rw [w_u64, hW]
    rw [show (((128 ^ k : Nat) : Int) * 128) = ((128 ^ k * 128 : Nat) : Int) by push_cast; rfl]
    omega
  · intro h
    rw [Nat.pow_succ]
    apply Nat.mod_eq_of_lt
    have : 128 ^ k ≤ 128 ^ 8 := Nat.pow_le_pow_right (by decide) (by omega)
    have h2 : (128 : Nat) ^ 8 = 72057594037927936 := by decide
    omega
theorem ref_last (X : Nat) (h : X < 18446744073709551616) : IntKind.u64.wrap ((X : Int) / 2) = ((X / 2 : Nat) : Int) ∧ IntKind.i64.wrap ((X / 2 : Nat) : Int) = ((X / 2 : Nat) : Int) ∧ IntKind.i64.wrap (-((X / 2 : Nat) : Int)) = -((X / 2 : Nat) : Int) ∧
    IntKind.i64.wrap (-((X / 2 : Nat) : Int) - 1) = -((X / 2 : Nat) : Int) - 1 := by
  refine ⟨?_, ?_, ?_, ?_⟩
  · rw [w_u64]; omega
  · rw [w_i64]; omega
  · rw [w_i64]; omega
  · rw [w_i64]; omega
set_option maxHeartbeats 1600000 in
theorem ref_look (w : World) (s : ByteArray) (a : Nat) (ha : a ≤ s.size) (hlen : s.size ≤ maxLen) :
    Calls Try.prog 70 #[.string s, .int .i64 a] w fun e w' => e = .returned (numRes (number s.data.toList a)) ∧ w = w' := by
  unfold maxLen at hlen
  rw [numRes_lk]
  generalize hR : lk 0 0 (s.data.toList.drop a) = R
  have HR := Lib.hid hR; clear hR
  go_enter Try.func70, Try.ntmps70
  go_wp2
  go_loop [1, 7, 8, 9] (LkInv s.data.toList a R) (fun _ _ _ i => 20 - (intOf i).toNat)
  case atStart => exact ⟨0, 0, 1, rfl, rfl, rfl, rfl, by omega, by simp; omega, by simp, rfl, HR.out⟩
  case round =>
    obtain ⟨k, U, Wt, rfl, rfl, rfl, rfl, hk, hak, hU, hWt, hlk⟩ := hrel
    rw [show s.data.toList.length = s.size by simp] at hak
    have HU := Lib.hid hU; clear hU
    have HK := Lib.hid hlk; clear hlk
    have HWt := Lib.hid hWt; clear hWt
    generalize hp : a + k = p at *
    have HP := Lib.hid hp; clear hp
    by_cases hin : p < s.size
    · have HD := Lib.hid (drop_at s p hin)
      have hv := s[p].toNat_lt
      have HL : Hid (∀ v, s[p].toNat = v → R = if k = 10 then .inl 11 else if (0 < k ∧ v = 0) ∨ (k = 9 ∧ v ≠ 1) then .inl 11 else if v < 128 then .inr (U + 128 ^ k * (v % 128), k + 1) else lk (k + 1) (U + 128 ^ k * (v % 128)) (s.data.toList.drop (p + 1))) := by
        refine Lib.hid fun v hv => ?_
        rw [← HK.out, HD.out, lk, hv]
      clear HD HK
      go_upto_region 9 with fail
      generalize s[p].toNat = v at *
      have HL2 := Lib.hid (HL.out v rfl); clear HL
      have s1 : IntKind.i64.wrap ((p : Int) + 1) = (p : Int) + 1 := IntWalk.i64_in _ (by omega)
      by_cases c1 : 0 < k ∧ v = 0
      · obtain ⟨c1, c2⟩ := c1
        have b2 : ((v : Int) == 0) = true := by rw [beq_iff_eq]; omega
        go_wp2
        refine bodyPost_ret (v := .tuple #[.int .i64 0, .int .i64 0, .int .i64 11]) (by simp [results, Try.results70, go_sem]) rfl ⟨?_, rfl⟩
        rw [HL2.out, if_neg (by omega), if_pos (.inl ⟨c1, c2⟩)]; rfl
      · by_cases c2 : k = 9 ∧ v ≠ 1
        · have hR9 : R = .inl 11 := by rw [HL2.out, if_neg (by omega), if_pos (.inr c2)]
          have HR9 := Lib.hid hR9; clear hR9
          have b1 : 0 < k := by omega
          have b2 : ((v : Int) == 0) = false := by rw [beq_eq_false_iff_ne]; omega
          have b3 : ((v : Int) != 1) = true := by simp; omega
          have b4 : ((k : Int) == 9) = true := by rw [beq_iff_eq]; omega
          clear c1 c2
          go_wp2
          refine bodyPost_ret (v := .tuple #[.int .i64 0, .int .i64 0, .int .i64 11]) (by simp [results, Try.results70, go_sem]) rfl ⟨?_, rfl⟩
          rw [HR9.out]; rfl
        · have hO := or_sh U (v % 128) k HU.out (by omega) hk (by omega)
          have hL3 := HL2.out
          rw [if_neg (by omega), if_neg (by omega)] at hL3
          have HLT : Hid (U + 128 ^ k * (v % 128) < 128 ^ (k + 1)) := by
            refine Lib.hid ?_
            have h1 := HU.out
            have h2 : 128 ^ k * (v % 128) ≤ 128 ^ k * 127 := Nat.mul_le_mul_left _ (by omega)
            rw [Nat.pow_succ]; omega
          obtain ⟨Y, X, W', m1, m2, hX, hXl, m3, hW9⟩ := ref_facts U Wt k v HWt.out hk hO.2
          rw [← hX] at hL3 HLT
          have HX := Lib.hid hXl
          clear hX hO HL2 hXl
          have HL3 := Lib.hid hL3; clear hL3
          have b0 : (¬ 0 < k) ∨ (0 < k ∧ ((v : Int) == 0) = false ∧ ((k : Int) == 9) = false) ∨ (0 < k ∧ ((v : Int) == 0) = false ∧ ((k : Int) == 9) = true ∧ ((v : Int) != 1) = false) := by
            by_cases e0 : k = 0
            · left; omega
            · right
              by_cases e9 : k = 9
              · right; refine ⟨by omega, by simp; omega, by simp; omega, by simp; omega⟩
              · left; refine ⟨by omega, by simp; omega, by simp; omega⟩
          have hb9 : ¬ v < 128 → ((k : Int) == 9) = false := by intro h; simp; omega
          have hhi : ¬ v < 128 → k < 9 := by intro h; omega
          clear c1 c2
          by_cases hlo : v < 128
          · rw [if_pos hlo] at HL3
            clear hb9 hhi hW9
            obtain ⟨q1, q2, q3, q4⟩ := ref_last X HX.out
            have hu : uz X = if X % 2 = 0 then ((X / 2 : Nat) : Int) else -((X / 2 : Nat) : Int) - 1 := rfl
            generalize X / 2 = xp at q1 q2 q3 q4 hu
            by_cases hev : X % 2 = 0
            · have e1 : ((X : Int) % 2 == 0) = true := by rw [beq_iff_eq]; omega
              rw [if_pos hev] at hu
              have HUZ := Lib.hid hu; clear hu hev
              rcases b0 with b1 | ⟨b1, b2, b3⟩ | ⟨b1, b2, b3, b4⟩
              all_goals
                go_wp2
                refine bodyPost_ret (v := .tuple #[.int .i64 xp, .int .i64 ((p : Int) + 1), .int .i64 0]) (by simp [results, Try.results70, go_sem]) rfl ⟨?_, rfl⟩
                rw [HL3.out]
                show _ = Ending.returned (Value.tuple #[.int .i64 (uz X), .int .i64 ((a + (k + 1) : Nat) : Int), .int .i64 0])
                rw [HUZ.out, show ((a + (k + 1) : Nat) : Int) = (p : Int) + 1 by have := HP.out; omega]
            · have e1 : ((X : Int) % 2 == 0) = false := by rw [beq_eq_false_iff_ne]; omega
              rw [if_neg hev] at hu
              have HUZ := Lib.hid hu; clear hu hev
              rcases b0 with b1 | ⟨b1, b2, b3⟩ | ⟨b1, b2, b3, b4⟩
              all_goals
                go_wp2
                refine bodyPost_ret (v := .tuple #[.int .i64 (-(xp : Int) - 1), .int .i64 ((p : Int) + 1), .int .i64 0]) (by simp [results, Try.results70, go_sem]) rfl ⟨?_, rfl⟩
                rw [HL3.out]
                show _ = Ending.returned (Value.tuple #[.int .i64 (uz X), .int .i64 ((a + (k + 1) : Nat) : Int), .int .i64 0])
                rw [HUZ.out, show ((a + (k + 1) : Nat) : Int) = (p : Int) + 1 by have := HP.out; omega]
          · rw [if_neg hlo] at HL3
            have h9 := hb9 hlo
            have hk9 := hhi hlo
            have hW10 := Lib.hid (hW9 hk9)
            clear hb9 hhi hW9
            rcases b0 with b1 | ⟨b1, b2, b3⟩ | ⟨b1, b2, b3, b4⟩
            rotate_left 2
            · rw [h9] at b3; cases b3
            all_goals
              go_wp2
              go_round
              case rel => exact ⟨k + 1, X, W', by have := HP.out; rw [show a + (k + 1) = p + 1 by omega]; go_num, rfl, rfl, by go_num, by omega, by have := HP.out; simp; omega, HLT.out, hW10.out, by have := HP.out; rw [show a + (k + 1) = p + 1 by omega]; exact HL3.out.symm⟩
              case measure => simp [intOf]; omega
    · have HD := Lib.hid (drop_no s p (by omega))
      have hin2 : s.size ≤ p := by omega
      clear hin
      go_wp2
      refine bodyPost_ret (v := .tuple #[.int .i64 0, .int .i64 0, .int .i64 10]) (by simp [results, Try.results70, go_sem]) rfl ⟨?_, rfl⟩
      rw [← HK.out, HD.out, lk, if_neg (by omega)]; rfl
end Go.Proofs.Ytiklpifaaogcpaa
