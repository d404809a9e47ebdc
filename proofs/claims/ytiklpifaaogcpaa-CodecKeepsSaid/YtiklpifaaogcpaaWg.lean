/- Texts laid together: Wf Wg Wg2. -/
import Derived.Test.YtiklpifaaogcpaaWb
import Derived.WalkKit
import Derived.WalkLawsBesides
import Derived.WalkSpells
import Derived.Below
import Derived.Deep.RegionHeld3
import Derived.Deep.QuietTactic
import Derived.BigQuiet
import Derived.Deep.DeepCutAuto
import Derived.Deep.DeepMust
import Derived.KernelRfl
import Derived.Lib.Hide
import Derived.Outline
import Derived.RegionTactic
import Derived.StillTailTactics
import Derived.Laws.IdiomStrings
namespace Go.Proofs.Ytiklpifaaogcpaa
open Go.RowKit Go.Cl
set_option maxRecDepth 100000
set_option linter.unusedVariables false
set_option linter.unusedSimpArgs false

open Go.Wr
theorem last_facts (X : Nat) (h : X < 18446744073709551616) : IntKind.i64.wrap ((X : Int) / 2) = ((X / 2 : Nat) : Int) ∧ bits .and .u64 (X : Int) 1 = ((X % 2 : Nat) : Int) ∧
    IntKind.i64.wrap ((X / 2 : Nat) : Int) = ((X / 2 : Nat) : Int) ∧ IntKind.i64.wrap ((X % 2 : Nat) : Int) = ((X % 2 : Nat) : Int) ∧ IntKind.i64.wrap (-((X % 2 : Nat) : Int)) = -((X % 2 : Nat) : Int) ∧
    bits .xor .i64 ((X / 2 : Nat) : Int) (-((X % 2 : Nat) : Int)) = uz X := by
  refine ⟨?_, and_1 X h, ?_, ?_, ?_, un_zz X h⟩
  · rw [w_i64]; omega
  · rw [w_i64]; omega
  · rw [w_i64]; omega
  · rw [w_i64]; omega
def numRes : Nat ⊕ (Int × Nat) → Value
  | .inl e => .tuple #[.int .i64 0, .int .i64 0, .int .i64 e]
  | .inr (n, a) => .tuple #[.int .i64 n, .int .i64 a, .int .i64 0]
def lkRes (a : Nat) : Nat ⊕ (Nat × Nat) → Value
  | .inl e => .tuple #[.int .i64 0, .int .i64 0, .int .i64 e]
  | .inr (u, n) => .tuple #[.int .i64 (uz u), .int .i64 ((a + n : Nat) : Int), .int .i64 0]
theorem numRes_lk (s : List UInt8) (a : Nat) : numRes (number s a) = lkRes a (lk 0 0 (s.drop a)) := by
  unfold number; split <;> rename_i h <;> rw [h] <;> rfl
/-- What is known behind some rounds. -/
def NbInv (w : World) (l : List UInt8) (a : Nat) (u i : Value) (wr : World) : Prop :=
  ∃ (k U : Nat), i = .int .i64 k ∧ u = .int .u64 U ∧ k ≤ 9 ∧ a + k ≤ l.length ∧ U < 128 ^ k ∧ lk k U (l.drop (a + k)) = lk 0 0 (l.drop a) ∧ Below w.heap.size w wr
theorem drop_at (s : ByteArray) (j : Nat) (h : j < s.size) : s.data.toList.drop j = s[j] :: s.data.toList.drop (j + 1) := by
  rw [List.drop_eq_getElem_cons (by simpa using h)]; rfl
theorem drop_no (s : ByteArray) (j : Nat) (h : s.size ≤ j) : s.data.toList.drop j = [] := List.drop_of_length_le (by simpa using h)
set_option maxHeartbeats 1000000 in
theorem rd_number (col : Nat → Nat) (i : Nat) (w : World) (b : Nat) (s : ByteArray) (t : St) (h : Rds 126 col i w b s t) :
    Calls Try.prog 107 #[.pointer (some ⟨b, 0, none⟩)] w fun e w' => e = .returned (numRes (number s.data.toList t.at_)) ∧ Below w.heap.size w w' := by
  have HB := Lib.hid h
  have hlt := h.at_lt
  have hlen := h.len
  have cb := hp_cell h.blk.hp
  obtain ⟨a, er⟩ := t
  unfold maxLen at hlen
  rw [numRes_lk]
  simp only at *
  clear h
  generalize hR : lk 0 0 (s.data.toList.drop a) = R
  have HR := Lib.hid hR; clear hR
  go_enter Try.func107, Try.ntmps107
  go_wp2
  go_loopw [5, 9] (NbInv w s.data.toList a) (fun _ i _ => 20 - (intOf i).toNat)
  case atStart => exact ⟨0, 0, rfl, rfl, by omega, by simp; omega, by simp, rfl, Below.refl _ _⟩
  case round =>
    obtain ⟨k, U, rfl, rfl, hk, hak, hU, hlk, hb1⟩ := hrel
    rw [show s.data.toList.length = s.size by simp] at hak
    rw [HR.out] at hlk
    have HU := Lib.hid hU; clear hU
    have HK := Lib.hid hlk; clear hlk
    have cb1 := hp_cell (HB.out.below hb1).blk.hp
    clear cb
    by_cases hin : a + k < s.size
    · have HD := Lib.hid (drop_at s (a + k) hin)
      have hby : ∀ W' A, A = ((a + k : Nat) : Int) → Rds 126 col i W' b s ⟨a, er⟩ → Calls Try.prog 109 #[.pointer (some ⟨b, 0, none⟩), .int .i64 A] W' fun e w' => e = .returned (.tuple #[.int .u8 s[a + k].toNat, .bool true]) ∧ w' = W' := fun W' A hA hr => rd_byte col i W' b s ⟨a, er⟩ hr A (a + k) hA hin
      generalize s[a + k] = y at *
      have hv := y.toNat_lt
      have HL : Hid (∀ v, y.toNat = v → R = if k = 10 then .inl 11 else if (0 < k ∧ v = 0) ∨ (k = 9 ∧ v ≠ 1) then .inl 11 else if v < 128 then .inr (U + 128 ^ k * (v % 128), k + 1) else lk (k + 1) (U + 128 ^ k * (v % 128)) (s.data.toList.drop (a + k + 1))) := by
        refine Lib.hid fun v hv => ?_
        rw [← HK.out, HD.out, lk, hv]
      have HV := Lib.hid (rfl : y.toNat = y.toNat)
      clear HD HK
      generalize hy : y.toNat = v at hby hv HV
      have HL2 := HL.out v hy
      clear HL
      have HL := Lib.hid HL2; clear HL2
      have HBY := Lib.hid hby; clear hby hy HV
      have s1 : IntKind.i64.wrap ((a : Int) + (k : Int)) = (a : Int) + (k : Int) := IntWalk.i64_in _ (by omega)
      have s2 : (0 : Int) ≤ (a : Int) + (k : Int) := by omega
      go_wp2
      refine Ph.region_at (by kernel_rfl) ?_
      refine Ph.at_quiet 16 (by kernel_rfl) ?_
      simp only [List.take_succ_cons, List.take_zero, List.drop_succ_cons, List.drop_zero]
      repeat ((first | (apply Ph.wpPh_g; (focus (intro w1 hS0; have hbq := below_call (below_drew hb1) hS0; have cbq := hp_cell (HB.out.below hbq).blk.hp; go_simp; first | exact rfl | exact ⟨rfl, Below.refl _ _⟩ | ((go_at_call 109; refine (HBY.out _ _ (by omega) (HB.out.below hbq)).mono ?_; rintro e w' ⟨rfl, rfl⟩; exact ⟨rfl, Below.refl _ _⟩)))))); simp only [Act.put, List.setIfInBounds_toArray, List.set_cons_zero, List.set_cons_succ])
      refine Ph.wpPh_nil ?_; intro w2 hS2
      refine Ph.at_end (by simp) ?_
      have hb2 := below_call (below_drew hb1) hS2
      have cb2 := hp_cell (HB.out.below hb2).blk.hp
      clear cb1 s1 s2
      by_cases c1 : 0 < k ∧ v = 0
      · obtain ⟨c1, c2⟩ := c1
        have b2 : ((v : Int) == 0) = true := by simp; omega
        go_wp2
        refine bodyPost_ret (v := .tuple #[.int .i64 0, .int .i64 0, .int .i64 11]) (by simp [results, Try.results107, go_sem]) rfl ⟨?_, hb2⟩
        rw [HL.out, if_neg (by omega), if_pos (.inl ⟨c1, c2⟩)]; rfl
      · by_cases c2 : k = 9 ∧ v ≠ 1
        · obtain ⟨rfl, c2⟩ := c2
          have b2 : ((v : Int) == 0) = false := by simp; omega
          have b3 : ((v : Int) != 1) = true := by simp; omega
          have hR9 : R = .inl 11 := by rw [HL.out, if_neg (by decide), if_pos (.inr ⟨rfl, c2⟩)]
          have HR9 := Lib.hid hR9; clear hR9
          go_wp2
          refine bodyPost_ret (v := .tuple #[.int .i64 0, .int .i64 0, .int .i64 11]) (by simp [results, Try.results107, go_sem]) rfl ⟨?_, hb2⟩
          rw [HR9.out]; rfl
        · have hO := or_sh U (v % 128) k HU.out (by omega) hk (by omega)
          have hL3 := HL.out
          rw [if_neg (by omega), if_neg (by omega)] at hL3
          have HLT : Hid (U + 128 ^ k * (v % 128) < 128 ^ (k + 1)) := by
            refine Lib.hid ?_
            have h1 := HU.out
            have h2 : 128 ^ k * (v % 128) ≤ 128 ^ k * 127 := Nat.mul_le_mul_left _ (by omega)
            rw [Nat.pow_succ]; omega
          generalize U + 128 ^ k * (v % 128) = X at hO hL3 HLT
          rw [show ((v % 128 : Nat) : Int) = (v : Int) % 128 by omega] at hO
          have hO1 := hO.1
          have HX := Lib.hid hO.2
          clear hO
          have HL3 := Lib.hid hL3; clear hL3 HL
          have ha := and_127 v (by omega)
          rw [show ((v % 128 : Nat) : Int) = (v : Int) % 128 by omega] at ha
          have b0 : (¬ 0 < k) ∨ (0 < k ∧ ((v : Int) == 0) = false ∧ ((k : Int) == 9) = false) ∨ (0 < k ∧ ((v : Int) == 0) = false ∧ ((k : Int) == 9) = true ∧ ((v : Int) != 1) = false) := by
            by_cases e0 : k = 0
            · left; omega
            · right
              by_cases e9 : k = 9
              · right; refine ⟨by omega, by simp; omega, by simp; omega, by simp; omega⟩
              · left; refine ⟨by omega, by simp; omega, by simp; omega⟩
          have hb9 : ¬ v < 128 → ((k : Int) == 9) = false := by intro h; simp; omega
          have hhi : ¬ v < 128 → k < 9 := by intro h; omega
          clear c1 c2
          by_cases hlo : v < 128
          · rw [if_pos hlo] at HL3
            clear hb9 hhi
            rcases b0 with b1 | ⟨b1, b2, b3⟩ | ⟨b1, b2, b3, b4⟩
            all_goals
              go_wp2
              clear hO1 ha b1
              try clear b2 b3
              try clear b4
              obtain ⟨q1, q2, q3, q4, q5, q6⟩ := last_facts X HX.out
              generalize X / 2 = xp at q1 q3 q6
              generalize X % 2 = xq at q2 q4 q5 q6
              have s1 : IntKind.i64.wrap ((a : Int) + (k : Int)) = (a : Int) + (k : Int) := IntWalk.i64_in _ (by omega)
              have s2 : IntKind.i64.wrap ((a : Int) + (k : Int) + 1) = (a : Int) + (k : Int) + 1 := IntWalk.i64_in _ (by omega)
              refine Ph.region_at (by kernel_rfl) ?_
              refine Ph.at_quiet 19 (by kernel_rfl) ?_
              simp only [List.take_succ_cons, List.take_zero, List.drop_succ_cons, List.drop_zero]
              repeat ((first | (apply Ph.wpPh_g; (focus (intro w1 hS0; have cbq := hp_cell (HB.out.below (below_call (below_drew hb2) hS0)).blk.hp; go_simp; first | exact rfl | exact ⟨rfl, Below.refl _ _⟩)))); simp only [Act.put, List.setIfInBounds_toArray, List.set_cons_zero, List.set_cons_succ])
              refine Ph.wpPh_nil ?_; intro w3 hS3
              refine Ph.at_end (by simp) ?_
              clear q1 q2 q3 q4 q5 q6 s1 s2
              go_wp2
              refine bodyPost_ret (v := .tuple #[.int .i64 (uz X), .int .i64 ((a : Int) + (k : Int) + 1), .int .i64 0]) (by simp [results, Try.results107, go_sem]) rfl ⟨?_, below_call (below_drew hb2) hS3⟩
              rw [HL3.out]
              show _ = Ending.returned (Value.tuple #[.int .i64 (uz X), .int .i64 ((a + (k + 1) : Nat) : Int), .int .i64 0])
              rw [show ((a + (k + 1) : Nat) : Int) = (a : Int) + (k : Int) + 1 by omega]
          · rw [if_neg hlo] at HL3
            have h9 := hb9 hlo
            have hk9 := hhi hlo
            clear hb9 hhi
            rcases b0 with b1 | ⟨b1, b2, b3⟩ | ⟨b1, b2, b3, b4⟩
            rotate_left 2
            · rw [h9] at b3; cases b3
            all_goals
              go_wp2
              go_roundw
              case rel => exact ⟨k + 1, X, by go_num, rfl, by omega, by simp; omega, HLT.out, by rw [show a + (k + 1) = a + k + 1 by omega, HR.out]; exact HL3.out.symm, hb2⟩
              case measure => simp [intOf]; omega
    · have HD := Lib.hid (drop_no s (a + k) (by omega))
      have hby : ∀ W' A, A = ((a + k : Nat) : Int) → Rds 126 col i W' b s ⟨a, er⟩ → Calls Try.prog 109 #[.pointer (some ⟨b, 0, none⟩), .int .i64 A] W' fun e w' => e = .returned (.tuple #[.int .u8 0, .bool false]) ∧ w' = W' := fun W' A hA hr => rd_byte_no col i W' b s ⟨a, er⟩ hr A (a + k) hA (by omega)
      have HBY := Lib.hid hby; clear hby
      have hin2 : s.size ≤ a + k := by omega
      clear hin
      have s1 : IntKind.i64.wrap ((a : Int) + (k : Int)) = (a : Int) + (k : Int) := IntWalk.i64_in _ (by omega)
      have s2 : (0 : Int) ≤ (a : Int) + (k : Int) := by omega
      go_wp2
      refine Ph.region_at (by kernel_rfl) ?_
      refine Ph.at_quiet 16 (by kernel_rfl) ?_
      simp only [List.take_succ_cons, List.take_zero, List.drop_succ_cons, List.drop_zero]
      repeat ((first | (apply Ph.wpPh_g; (focus (intro w1 hS0; have hbq := below_call (below_drew hb1) hS0; have cbq := hp_cell (HB.out.below hbq).blk.hp; go_simp; first | exact rfl | exact ⟨rfl, Below.refl _ _⟩ | ((go_at_call 109; refine (HBY.out _ _ (by omega) (HB.out.below hbq)).mono ?_; rintro e w' ⟨rfl, rfl⟩; exact ⟨rfl, Below.refl _ _⟩)))))); simp only [Act.put, List.setIfInBounds_toArray, List.set_cons_zero, List.set_cons_succ])
      refine Ph.wpPh_nil ?_; intro w2 hS2
      refine Ph.at_end (by simp) ?_
      have hb2 := below_call (below_drew hb1) hS2
      have cb2 := hp_cell (HB.out.below hb2).blk.hp
      clear cb1 s1 s2
      go_wp2
      refine bodyPost_ret (v := .tuple #[.int .i64 0, .int .i64 0, .int .i64 10]) (by simp [results, Try.results107, go_sem]) rfl ⟨?_, hb2⟩
      rw [← HK.out, HD.out, lk, if_neg (by omega)]; rfl
end Go.Proofs.Ytiklpifaaogcpaa

namespace Go.Proofs.Ytiklpifaaogcpaa
open Go.RowKit Go.Cl
set_option maxRecDepth 100000
set_option linter.unusedVariables false
set_option linter.unusedSimpArgs false

open Go.Wr
theorem rd_num (col : Nat → Nat) (i : Nat) (w : World) (b : Nat) (s : ByteArray) (t : St) (h : Rds 126 col i w b s t) :
    Calls Try.prog 104 #[.pointer (some ⟨b, 0, none⟩)] w fun e w' => e = .returned (.int .i64 (rNum s.data.toList t).1) ∧ Rds 126 (paint col w i) i w' b s (rNum s.data.toList t).2 ∧ Ch col i w w' := by
  have HE := Lib.hid (rd_err col i w b s t h)
  have hN := rd_number col i w b s t h
  have hok := ok_num h.ok
  unfold rNum at hok ⊢
  have HB := Lib.hid h
  have cb := hp_cell h.blk.hp
  obtain ⟨a, er⟩ := t
  simp only at *
  by_cases h0 : er = 0
  · subst h0
    rw [if_pos rfl] at hok ⊢
    clear h
    cases hn : number s.data.toList a with
    | inl e =>
      have he := number_err hn
      rw [hn] at hN
      simp only [numRes] at hN ⊢
      clear hok
      have HN := Lib.hid hN; clear hN hn
      have b1 : ((e : Int) != 0) = true := by simp; omega
      have HE2 := Lib.hid he; clear he
      go_enter Try.func104, Try.ntmps104
      go_wp2_with (first | (go_at_call 68; refine HE.out.mono ?_; rintro e w' ⟨rfl, rfl⟩) | (go_at_call 107; refine HN.out.mono ?_; rintro e w1 ⟨rfl, hb1⟩))
      refine (rd_fail (paint col w i) i _ b s ⟨a, 0⟩ (HB.out.painted hb1) e HE2.out e rfl).mono ?_
      rintro e' w2 ⟨rfl, hR, hC⟩
      go_wp2
      go_ret
      rw [paint_paint hb1.size] at hR
      exact ⟨rfl, hR, (Ch.of_below hb1).trans hC⟩
    | inr p =>
      obtain ⟨n, a'⟩ := p
      rw [hn] at hN hok
      simp only [numRes] at hN ⊢
      obtain ⟨hok1, hok2, hok3⟩ := hok
      have HN := Lib.hid hN; clear hN hn hok2 hok3
      go_enter Try.func104, Try.ntmps104
      go_wp2_with (first | (go_at_call 68; refine HE.out.mono ?_; rintro e w' ⟨rfl, rfl⟩) | (go_at_call 107; refine HN.out.mono ?_; rintro e w1 ⟨rfl, hb1⟩; have hB1 := HB.out.painted hb1; have cb1 := hp_cell hB1.blk.hp; have fb1 := hp_free hB1.blk.hp))
      go_ret
      exact ⟨rfl, ⟨⟨hp_set hB1.blk.hp _, hB1.blk.col⟩, hok1, HB.out.len⟩, (Ch.of_below hb1).setCell hB1.blk.col _⟩
  · rw [if_neg h0]
    have b1 : ((er : Int) != 0) = true := by simp; omega
    go_enter Try.func104, Try.ntmps104
    go_wp2_with (go_at_call 68; refine HE.out.mono ?_; rintro e w' ⟨rfl, rfl⟩)
    go_ret
    exact ⟨rfl, h.painted (Below.refl _ _), Ch.refl⟩
theorem rd_bool (col : Nat → Nat) (i : Nat) (w : World) (b : Nat) (s : ByteArray) (t : St) (h : Rds 126 col i w b s t) :
    Calls Try.prog 106 #[.pointer (some ⟨b, 0, none⟩)] w fun e w' => e = .returned (.bool (rBool s.data.toList t).1) ∧ Rds 126 (paint col w i) i w' b s (rBool s.data.toList t).2 ∧ Ch col i w w' := by
  have HE := Lib.hid (rd_err col i w b s t h)
  have hok := ok_bool h.ok
  unfold rBool at hok ⊢
  have HB := Lib.hid h
  have cb := hp_cell h.blk.hp
  have hlt := h.at_lt
  have hlen := h.len
  unfold maxLen at hlen
  obtain ⟨a, er⟩ := t
  simp only at *
  by_cases h0 : er = 0
  · subst h0
    rw [if_pos rfl] at hok ⊢
    by_cases hin : a < s.size
    · rw [drop_at s a hin] at hok ⊢
      have hby : ∀ W' A, A = (a : Int) → Rds 126 col i W' b s ⟨a, 0⟩ → Calls Try.prog 109 #[.pointer (some ⟨b, 0, none⟩), .int .i64 A] W' fun e w' => e = .returned (.tuple #[.int .u8 s[a].toNat, .bool true]) ∧ w' = W' := fun W' A hA hr => rd_byte col i W' b s ⟨a, 0⟩ hr A a hA hin
      have hv := s[a].toNat_lt
      simp only at hok ⊢
      generalize s[a].toNat = v at *
      have HBY := Lib.hid hby; clear hby
      clear h
      by_cases hbig : 1 < v
      · rw [if_pos hbig] at hok ⊢
        clear hok
        go_enter Try.func106, Try.ntmps106
        go_wp2_with (go_at_call 68; refine HE.out.mono ?_; rintro e w' ⟨rfl, rfl⟩)
        refine Ph.region_at (by kernel_rfl) ?_
        refine Ph.at_quiet 14 (by kernel_rfl) ?_
        simp only [List.take_succ_cons, List.take_zero, List.drop_succ_cons, List.drop_zero]
        repeat ((first | (apply Ph.wpPh_g; (focus (intro w1 hS0; have hbq := below_call (below_drew (Below.refl _ _)) hS0; have cbq := hp_cell (HB.out.below hbq).blk.hp; go_simp; first | exact rfl | exact ⟨rfl, Below.refl _ _⟩ | ((go_at_call 109; refine (HBY.out _ _ (by omega) (HB.out.below hbq)).mono ?_; rintro e w' ⟨rfl, rfl⟩; exact ⟨rfl, Below.refl _ _⟩)))))); simp only [Act.put, List.setIfInBounds_toArray, List.set_cons_zero, List.set_cons_succ])
        refine Ph.wpPh_nil ?_; intro w2 hS2
        refine Ph.at_end (by simp) ?_
        have hbw := below_call (below_drew (Below.refl _ _)) hS2
        go_wp2_with fail
        refine (rd_fail (paint col w i) i _ b s ⟨a, 0⟩ (HB.out.painted hbw) 11 (.inr rfl) 11 rfl).mono ?_
        rintro e' w3 ⟨rfl, hR, hC⟩
        go_wp2
        go_ret
        rw [paint_paint hbw.size] at hR
        exact ⟨rfl, hR, (Ch.of_below hbw).trans hC⟩
      · rw [if_neg hbig] at hok ⊢
        have s1 : IntKind.i64.wrap ((a : Int) + 1) = (a : Int) + 1 := IntWalk.i64_in _ (by omega)
        have hbv : (v == 1) = ((v : Int) == 1) := by rw [Bool.eq_iff_iff]; simp; omega
        rw [hbv]
        clear hbv
        go_enter Try.func106, Try.ntmps106
        go_wp2_with (go_at_call 68; refine HE.out.mono ?_; rintro e w' ⟨rfl, rfl⟩)
        refine Ph.region_at (by kernel_rfl) ?_
        refine Ph.at_quiet 14 (by kernel_rfl) ?_
        simp only [List.take_succ_cons, List.take_zero, List.drop_succ_cons, List.drop_zero]
        repeat ((first | (apply Ph.wpPh_g; (focus (intro w1 hS0; have hbq := below_call (below_drew (Below.refl _ _)) hS0; have cbq := hp_cell (HB.out.below hbq).blk.hp; go_simp; first | exact rfl | exact ⟨rfl, Below.refl _ _⟩ | ((go_at_call 109; refine (HBY.out _ _ (by omega) (HB.out.below hbq)).mono ?_; rintro e w' ⟨rfl, rfl⟩; exact ⟨rfl, Below.refl _ _⟩)))))); simp only [Act.put, List.setIfInBounds_toArray, List.set_cons_zero, List.set_cons_succ])
        refine Ph.wpPh_nil ?_; intro w2 hS2
        refine Ph.at_end (by simp) ?_
        have hbw := below_call (below_drew (Below.refl _ _)) hS2
        have hB1 := HB.out.painted hbw; have cb1 := hp_cell hB1.blk.hp; have fb1 := hp_free hB1.blk.hp
        go_wp2
        go_ret
        exact ⟨rfl, ⟨⟨hp_set hB1.blk.hp _, hB1.blk.col⟩, hok, HB.out.len⟩, (Ch.of_below hbw).setCell hB1.blk.col _⟩
    · rw [drop_no s a (by omega)] at hok ⊢
      have hby : ∀ W' A, A = (a : Int) → Rds 126 col i W' b s ⟨a, 0⟩ → Calls Try.prog 109 #[.pointer (some ⟨b, 0, none⟩), .int .i64 A] W' fun e w' => e = .returned (.tuple #[.int .u8 0, .bool false]) ∧ w' = W' := fun W' A hA hr => rd_byte_no col i W' b s ⟨a, 0⟩ hr A a hA (by omega)
      simp only at hok ⊢
      clear hok
      have HBY := Lib.hid hby; clear hby
      clear h
      go_enter Try.func106, Try.ntmps106
      go_wp2_with (go_at_call 68; refine HE.out.mono ?_; rintro e w' ⟨rfl, rfl⟩)
      refine Ph.region_at (by kernel_rfl) ?_
      refine Ph.at_quiet 14 (by kernel_rfl) ?_
      simp only [List.take_succ_cons, List.take_zero, List.drop_succ_cons, List.drop_zero]
      repeat ((first | (apply Ph.wpPh_g; (focus (intro w1 hS0; have hbq := below_call (below_drew (Below.refl _ _)) hS0; have cbq := hp_cell (HB.out.below hbq).blk.hp; go_simp; first | exact rfl | exact ⟨rfl, Below.refl _ _⟩ | ((go_at_call 109; refine (HBY.out _ _ (by omega) (HB.out.below hbq)).mono ?_; rintro e w' ⟨rfl, rfl⟩; exact ⟨rfl, Below.refl _ _⟩)))))); simp only [Act.put, List.setIfInBounds_toArray, List.set_cons_zero, List.set_cons_succ])
      refine Ph.wpPh_nil ?_; intro w2 hS2
      refine Ph.at_end (by simp) ?_
      have hbw := below_call (below_drew (Below.refl _ _)) hS2
      go_wp2_with fail
      refine (rd_fail (paint col w i) i _ b s ⟨a, 0⟩ (HB.out.painted hbw) 10 (.inl rfl) 10 rfl).mono ?_
      rintro e' w3 ⟨rfl, hR, hC⟩
      go_wp2
      go_ret
      rw [paint_paint hbw.size] at hR
      exact ⟨rfl, hR, (Ch.of_below hbw).trans hC⟩
  · rw [if_neg h0]
    have b1 : ((er : Int) != 0) = true := by simp; omega
    go_enter Try.func106, Try.ntmps106
    go_wp2_with (go_at_call 68; refine HE.out.mono ?_; rintro e w' ⟨rfl, rfl⟩)
    go_ret
    exact ⟨rfl, h.painted (Below.refl _ _), Ch.refl⟩
end Go.Proofs.Ytiklpifaaogcpaa

namespace Go.Proofs.Ytiklpifaaogcpaa
open Go.RowKit Go.Cl
set_option maxRecDepth 100000
set_option linter.unusedVariables false
set_option linter.unusedSimpArgs false

theorem max2_int (k k' : IntKind) (x y : Int) : Builtin.max2 (.int k x) (.int k' y) = pure (.int k (max x y)) := by
  have e : max x y = if x < y then y else x := by split <;> omega
  simp only [Builtin.max2, gt_iff_lt, e]
theorem min2_int (k k' : IntKind) (x y : Int) : Builtin.min2 (.int k x) (.int k' y) = pure (.int k (min x y)) := by
  have e : min x y = if y < x then y else x := by split <;> omega
  simp only [Builtin.min2, e]
theorem max_two (ats : Array TypeId) (ty : TypeId) (a b : Value) : Builtin.max_ ats ty #[a, b] = (Builtin.max2 a b >>= fun s => pure s) := by simp only [Builtin.max_, List.foldlM_cons, List.foldlM_nil]
theorem min_two (ats : Array TypeId) (ty : TypeId) (a b : Value) : Builtin.min_ ats ty #[a, b] = (Builtin.min2 a b >>= fun s => pure s) := by simp only [Builtin.min_, List.foldlM_cons, List.foldlM_nil]
attribute [local go_sem] max2_int min2_int max_two min_two
open Go.Wr
theorem ext_take (s : ByteArray) (a n : Nat) : (⟨((s.data.toList.drop a).take n).toArray⟩ : ByteArray) = s.extract a (a + n) := by
  apply ByteArray.ext
  apply Array.toList_inj.1
  simp [ByteArray.data_extract, Array.toList_extract, List.extract_eq_take_drop]
set_option maxHeartbeats 1000000 in
theorem rd_text (col : Nat → Nat) (i : Nat) (w : World) (b : Nat) (s : ByteArray) (t : St) (h : Rds 126 col i w b s t) (most : Int) :
    Calls Try.prog 105 #[.pointer (some ⟨b, 0, none⟩), .int .i64 most] w fun e w' => e = .returned (.string ⟨(rText s.data.toList most t).1.toArray⟩) ∧ Rds 126 (paint col w i) i w' b s (rText s.data.toList most t).2 ∧ Ch col i w w' := by
  have HE := Lib.hid (rd_err col i w b s t h)
  have hN := rd_number col i w b s t h
  have hok := ok_text (most := most) h.ok
  have hl : s.data.toList.length = s.size := by simp
  unfold rText at hok ⊢
  rw [hl] at hok ⊢
  have HB := Lib.hid h
  have cb := hp_cell h.blk.hp
  have hlt := h.at_lt
  have hlen := h.len
  unfold maxLen at hlen
  obtain ⟨a, er⟩ := t
  simp only at *
  by_cases h0 : er = 0
  · subst h0
    rw [if_pos rfl] at hok ⊢
    clear h
    cases hn : number s.data.toList a with
    | inl e =>
      have he := number_err hn
      rw [hn] at hN
      simp only [numRes] at hN ⊢
      clear hok
      have HN := Lib.hid hN; clear hN hn
      have b1 : ((e : Int) != 0) = true := by simp; omega
      have HE2 := Lib.hid he; clear he hl
      go_enter Try.func105, Try.ntmps105
      go_wp2_with (first | (go_at_call 68; refine HE.out.mono ?_; rintro e w' ⟨rfl, rfl⟩) | (go_at_call 107; refine HN.out.mono ?_; rintro e w1 ⟨rfl, hb1⟩))
      refine (rd_fail (paint col w i) i _ b s ⟨a, 0⟩ (HB.out.painted hb1) e HE2.out e rfl).mono ?_
      rintro e' w2 ⟨rfl, hR, hC⟩
      go_wp2
      go_ret
      rw [paint_paint hb1.size] at hR
      exact ⟨rfl, hR, (Ch.of_below hb1).trans hC⟩
    | inr p =>
      obtain ⟨n, a'⟩ := p
      rw [hn] at hN hok
      simp only [numRes] at hN hok ⊢
      obtain ⟨i1, i2, i3, i4, i5, i6⟩ := number_in hn (by rw [hl]; exact hlt)
      rw [hl] at i2
      have HN := Lib.hid hN; clear hN hn i6 hl
      have I4 := Lib.hid i4; have I5 := Lib.hid i5; clear i4 i5
      by_cases c1 : n < 0 ∨ max most 0 < n
      · rw [if_pos c1]
        clear hok
        by_cases c2 : n < 0
        all_goals
          go_enter Try.func105, Try.ntmps105
          go_wp2_with (first | (go_at_call 68; refine HE.out.mono ?_; rintro e w' ⟨rfl, rfl⟩) | (go_at_call 107; refine HN.out.mono ?_; rintro e w1 ⟨rfl, hb1⟩))
          first
          | (refine (rd_fail (paint col w i) i _ b s ⟨a, 0⟩ (HB.out.painted hb1) 11 (.inr rfl) 11 rfl).mono ?_
             rintro e' w2 ⟨rfl, hR, hC⟩
             go_wp2
             go_ret
             rw [paint_paint hb1.size] at hR
             exact ⟨rfl, hR, (Ch.of_below hb1).trans hC⟩)
      · rw [if_neg c1] at hok ⊢
        have n0 : 0 ≤ n := by omega
        have n1 : n ≤ max most 0 := by omega
        have I5' := I5.out
        obtain ⟨m, rfl⟩ : ∃ m : Nat, n = m := ⟨n.toNat, by omega⟩
        simp only [Int.toNat_natCast] at hok ⊢
        clear c1
        by_cases c3 : (s.size : Int) - a' < m
        · rw [if_pos c3]
          clear hok
          go_enter Try.func105, Try.ntmps105
          go_wp2_with (first | (go_at_call 68; refine HE.out.mono ?_; rintro e w' ⟨rfl, rfl⟩) | (go_at_call 107; refine HN.out.mono ?_; rintro e w1 ⟨rfl, hb1⟩; have cb1 := hp_cell (HB.out.below hb1).blk.hp))
          refine (rd_fail (paint col w i) i _ b s ⟨a, 0⟩ (HB.out.painted hb1) 10 (.inl rfl) 10 rfl).mono ?_
          rintro e' w2 ⟨rfl, hR, hC⟩
          go_wp2
          go_ret
          rw [paint_paint hb1.size] at hR
          exact ⟨rfl, hR, (Ch.of_below hb1).trans hC⟩
        · rw [if_neg c3] at hok ⊢
          rw [ext_take]
          have s1 : IntKind.i64.wrap ((a' : Int) + (m : Int)) = (a' : Int) + (m : Int) := IntWalk.i64_in _ (by omega)
          have s2 : (0 : Int) ≤ (a' : Int) + (m : Int) := by omega
          have s3 : ((a' : Int) + (m : Int)).toNat = a' + m := by omega
          have s4 : a' + m ≤ s.size := by omega
          have s5 : (a' : Int) + (m : Int) ≤ (s.size : Int) := by omega
          have s6 : (a' : Int) ≤ (a' : Int) + (m : Int) := by omega
          go_enter Try.func105, Try.ntmps105
          go_wp2_with (first | (go_at_call 68; refine HE.out.mono ?_; rintro e w' ⟨rfl, rfl⟩) | (go_at_call 107; refine HN.out.mono ?_; rintro e w1 ⟨rfl, hb1⟩; have cb1 := hp_cell (HB.out.below hb1).blk.hp; have fb1 := hp_free (HB.out.below hb1).blk.hp))
          refine Ph.at_world ?_; intro Z hZ
          have hZ1 : hp Z b = some (.cells #[.string s, .int .i64 ((a' : Int) + (m : Int)), .int .i64 0] 126 (0, 0)) := by rw [hZ]; exact hp_set (HB.out.below hb1).blk.hp _
          have hZ2 : Ch col i w Z := by rw [hZ]; exact (Ch.of_below hb1).setCell (paint_of HB.out.blk.col) _
          clear hZ cb cb1 fb1
          refine Ph.region_at (by kernel_rfl) ?_
          refine Ph.at_quiet 13 (by kernel_rfl) ?_
          simp only [List.take_succ_cons, List.take_zero, List.drop_succ_cons, List.drop_zero]
          repeat ((first | (apply Ph.wpPh_g; (focus (intro w1 hS0; have cbq := hp_cell (hp_below (below_call (below_drew (Below.refl _ _)) hS0) hZ1); go_simp; first | exact rfl | exact ⟨rfl, Below.refl _ _⟩)))); simp only [Act.put, List.setIfInBounds_toArray, List.set_cons_zero, List.set_cons_succ])
          refine Ph.wpPh_nil ?_; intro w2 hS2
          refine Ph.at_end (by simp) ?_
          go_wp2
          go_ret
          rw [show ((a' : Int) + (m : Int)) = ((a' + m : Nat) : Int) by omega] at hZ1
          exact ⟨rfl, ⟨⟨hp_below (below_call (below_drew (Below.refl _ _)) hS2) hZ1, paint_of HB.out.blk.col⟩, hok, HB.out.len⟩, hZ2.below (below_call (below_drew (Below.refl _ _)) hS2)⟩
  · rw [if_neg h0]
    have b1 : ((er : Int) != 0) = true := by simp; omega
    clear hl
    go_enter Try.func105, Try.ntmps105
    go_wp2_with (go_at_call 68; refine HE.out.mono ?_; rintro e w' ⟨rfl, rfl⟩)
    go_ret
    exact ⟨rfl, h.painted (Below.refl _ _), Ch.refl⟩
end Go.Proofs.Ytiklpifaaogcpaa
