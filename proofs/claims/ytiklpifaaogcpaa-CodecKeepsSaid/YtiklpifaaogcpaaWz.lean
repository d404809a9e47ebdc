/- Texts laid together: Wz Wz2. -/
import Derived.Test.YtiklpifaaogcpaaWy
import Derived.WalkKit
import Derived.WalkLawsBesides
import Derived.WalkSpells
import Derived.Below
import Derived.Deep.RegionHeld3
import Derived.Deep.QuietTactic
import Derived.BigQuiet
import Derived.Deep.DeepCutAuto
import Derived.Deep.DeepMust
import Derived.KernelRfl
import Derived.Lib.Hide
import Derived.Outline
import Derived.RegionTactic
import Derived.StillTailTactics
import Derived.Laws.IdiomStrings
namespace Go.Proofs.Ytiklpifaaogcpaa
open Go.RowKit Go.Cl
set_option maxRecDepth 100000
set_option linter.unusedVariables false
set_option linter.unusedSimpArgs false

open Go.Wr
set_option maxHeartbeats 1000000 in
theorem rr_num (col : Nat → Nat) (i : Nat) (w : World) (b : Nat) (s : ByteArray) (t : St) (h : Rds 88 col i w b s t) :
    Calls Try.prog 47 #[.pointer (some ⟨b, 0, none⟩)] w fun e w' => e = .returned (.int .i64 (rNum s.data.toList t).1) ∧ Rds 88 (paint col w i) i w' b s (rNum s.data.toList t).2 ∧ Ch col i w w' := by
  have hN := fun W => ref_look W s t.at_ h.at_lt h.len
  have hok := ok_num h.ok
  unfold rNum at hok ⊢
  have HB := Lib.hid h
  have cb := hp_cell h.blk.hp
  have fb := hp_free h.blk.hp
  obtain ⟨a, er⟩ := t
  simp only at *
  by_cases h0 : er = 0
  · subst h0
    rw [if_pos rfl] at hok ⊢
    clear h
    cases hn : number s.data.toList a with
    | inl e =>
      have he := number_err hn
      rw [hn] at hN
      simp only [numRes] at hN ⊢
      clear hok
      have HN := Lib.hid hN; clear hN hn
      have b1 : ((e : Int) != 0) = true := by simp; omega
      have HE2 := Lib.hid he; clear he
      go_enter Try.func47, Try.ntmps47
      go_wp2
      refine Ph.region_at (by kernel_rfl) ?_
      refine Ph.at_quiet 16 (by kernel_rfl) ?_
      simp only [List.take_succ_cons, List.take_zero, List.drop_succ_cons, List.drop_zero]
      repeat ((first | (apply Ph.wpPh_g; (focus (intro w1 hS0; have hbq := below_call (below_drew (Below.refl _ _)) hS0; have cbq := hp_cell (HB.out.below hbq).blk.hp; go_simp; first | exact rfl | exact ⟨rfl, Below.refl _ _⟩ | ((go_at_call 70; refine (HN.out _).mono ?_; rintro e w' ⟨rfl, rfl⟩; exact ⟨rfl, Below.refl _ _⟩)))))); simp only [Act.put, List.setIfInBounds_toArray, List.set_cons_zero, List.set_cons_succ])
      refine Ph.wpPh_nil ?_; intro w2 hS2
      refine Ph.at_end (by simp) ?_
      have hbw := below_call (below_drew (Below.refl _ _)) hS2
      have hB1 := HB.out.painted hbw
      have cb1 := hp_cell hB1.blk.hp; have fb1 := hp_free hB1.blk.hp
      clear cb fb
      go_wp2
      go_ret
      exact ⟨rfl, ⟨⟨hp_set hB1.blk.hp _, hB1.blk.col⟩, ⟨HB.out.ok.at_, .inr HE2.out⟩, HB.out.len⟩, (Ch.of_below hbw).setCell hB1.blk.col _⟩
    | inr p =>
      obtain ⟨n, a'⟩ := p
      rw [hn] at hN hok
      simp only [numRes] at hN ⊢
      obtain ⟨hok1, hok2, hok3⟩ := hok
      have HN := Lib.hid hN; clear hN hn hok2 hok3
      go_enter Try.func47, Try.ntmps47
      go_wp2
      refine Ph.region_at (by kernel_rfl) ?_
      refine Ph.at_quiet 16 (by kernel_rfl) ?_
      simp only [List.take_succ_cons, List.take_zero, List.drop_succ_cons, List.drop_zero]
      repeat ((first | (apply Ph.wpPh_g; (focus (intro w1 hS0; have hbq := below_call (below_drew (Below.refl _ _)) hS0; have cbq := hp_cell (HB.out.below hbq).blk.hp; go_simp; first | exact rfl | exact ⟨rfl, Below.refl _ _⟩ | ((go_at_call 70; refine (HN.out _).mono ?_; rintro e w' ⟨rfl, rfl⟩; exact ⟨rfl, Below.refl _ _⟩)))))); simp only [Act.put, List.setIfInBounds_toArray, List.set_cons_zero, List.set_cons_succ])
      refine Ph.wpPh_nil ?_; intro w2 hS2
      refine Ph.at_end (by simp) ?_
      have hbw := below_call (below_drew (Below.refl _ _)) hS2
      have hB1 := HB.out.painted hbw
      have cb1 := hp_cell hB1.blk.hp; have fb1 := hp_free hB1.blk.hp
      clear cb fb
      go_wp2
      go_ret
      exact ⟨rfl, ⟨⟨hp_set hB1.blk.hp _, hB1.blk.col⟩, hok1, HB.out.len⟩, (Ch.of_below hbw).setCell hB1.blk.col _⟩
  · rw [if_neg h0]
    have b1 : ((er : Int) != 0) = true := by simp; omega
    clear hN
    go_enter Try.func47, Try.ntmps47
    go_wp2
    go_ret
    exact ⟨rfl, h.painted (Below.refl _ _), Ch.refl⟩
theorem rr_bool (col : Nat → Nat) (i : Nat) (w : World) (b : Nat) (s : ByteArray) (t : St) (h : Rds 88 col i w b s t) :
    Calls Try.prog 69 #[.pointer (some ⟨b, 0, none⟩)] w fun e w' => e = .returned (.bool (rBool s.data.toList t).1) ∧ Rds 88 (paint col w i) i w' b s (rBool s.data.toList t).2 ∧ Ch col i w w' := by
  have hok := ok_bool h.ok
  unfold rBool at hok ⊢
  have HB := Lib.hid h
  have cb := hp_cell h.blk.hp
  have fb := hp_free h.blk.hp
  have hlt := h.at_lt
  have hlen := h.len
  unfold maxLen at hlen
  obtain ⟨a, er⟩ := t
  simp only at *
  by_cases h0 : er = 0
  · subst h0
    rw [if_pos rfl] at hok ⊢
    by_cases hin : a < s.size
    · rw [drop_at s a hin] at hok ⊢
      have hv := s[a].toNat_lt
      simp only at hok ⊢
      clear h
      by_cases hbig : 1 < s[a].toNat
      · rw [if_pos hbig] at hok ⊢
        have HBIG := Lib.hid hbig
        clear hok hbig
        go_enter Try.func69, Try.ntmps69
        go_wp2
        refine Ph.region_at (by kernel_rfl) ?_
        refine Ph.at_quiet 10 (by kernel_rfl) ?_
        simp only [List.take_succ_cons, List.take_zero, List.drop_succ_cons, List.drop_zero]
        repeat ((first | (apply Ph.wpPh_g; (focus (intro w1 hS0; have hbq := below_call (below_drew (Below.refl _ _)) hS0; have cbq := hp_cell (HB.out.below hbq).blk.hp; go_simp; first | exact rfl | exact ⟨rfl, Below.refl _ _⟩)))); simp only [Act.put, List.setIfInBounds_toArray, List.set_cons_zero, List.set_cons_succ])
        refine Ph.wpPh_nil ?_; intro w2 hS2
        refine Ph.at_end (by simp) ?_
        have hbw := below_call (below_drew (Below.refl _ _)) hS2
        go_wp2
        refine Ph.region_at (by kernel_rfl) ?_
        refine Ph.at_quiet 10 (by kernel_rfl) ?_
        simp only [List.take_succ_cons, List.take_zero, List.drop_succ_cons, List.drop_zero]
        repeat ((first | (apply Ph.wpPh_g; (focus (intro w1 hS0; have hbq := below_call (below_drew hbw) hS0; have cbq := hp_cell (HB.out.below hbq).blk.hp; go_simp; first | exact rfl | exact ⟨rfl, Below.refl _ _⟩)))); simp only [Act.put, List.setIfInBounds_toArray, List.set_cons_zero, List.set_cons_succ])
        refine Ph.wpPh_nil ?_; intro w3 hS3
        refine Ph.at_end (by simp) ?_
        have hbw2 := below_call (below_drew hbw) hS3
        have hB1 := HB.out.painted hbw2
        have cb1 := hp_cell hB1.blk.hp; have fb1 := hp_free hB1.blk.hp
        have hbig := HBIG.out
        clear cb fb
        go_wp2
        go_ret
        exact ⟨rfl, ⟨⟨hp_set hB1.blk.hp _, hB1.blk.col⟩, ⟨HB.out.ok.at_, .inr (.inr rfl)⟩, HB.out.len⟩, (Ch.of_below hbw2).setCell hB1.blk.col _⟩
      · rw [if_neg hbig] at hok ⊢
        have s1 : IntKind.i64.wrap ((a : Int) + 1) = (a : Int) + 1 := IntWalk.i64_in _ (by omega)
        have hbv : (s[a].toNat == 1) = ((s[a].toNat : Int) == 1) := by rw [Bool.eq_iff_iff]; simp; omega
        rw [hbv]
        have HBIG := Lib.hid hbig
        clear hbv hbig
        go_enter Try.func69, Try.ntmps69
        go_wp2
        refine Ph.region_at (by kernel_rfl) ?_
        refine Ph.at_quiet 10 (by kernel_rfl) ?_
        simp only [List.take_succ_cons, List.take_zero, List.drop_succ_cons, List.drop_zero]
        repeat ((first | (apply Ph.wpPh_g; (focus (intro w1 hS0; have hbq := below_call (below_drew (Below.refl _ _)) hS0; have cbq := hp_cell (HB.out.below hbq).blk.hp; go_simp; first | exact rfl | exact ⟨rfl, Below.refl _ _⟩)))); simp only [Act.put, List.setIfInBounds_toArray, List.set_cons_zero, List.set_cons_succ])
        refine Ph.wpPh_nil ?_; intro w2 hS2
        refine Ph.at_end (by simp) ?_
        have hbw := below_call (below_drew (Below.refl _ _)) hS2
        go_wp2
        refine Ph.region_at (by kernel_rfl) ?_
        refine Ph.at_quiet 10 (by kernel_rfl) ?_
        simp only [List.take_succ_cons, List.take_zero, List.drop_succ_cons, List.drop_zero]
        repeat ((first | (apply Ph.wpPh_g; (focus (intro w1 hS0; have hbq := below_call (below_drew hbw) hS0; have cbq := hp_cell (HB.out.below hbq).blk.hp; go_simp; first | exact rfl | exact ⟨rfl, Below.refl _ _⟩)))); simp only [Act.put, List.setIfInBounds_toArray, List.set_cons_zero, List.set_cons_succ])
        refine Ph.wpPh_nil ?_; intro w3 hS3
        refine Ph.at_end (by simp) ?_
        have hbw2 := below_call (below_drew hbw) hS3
        have hB1 := HB.out.painted hbw2
        have cb1 := hp_cell hB1.blk.hp; have fb1 := hp_free hB1.blk.hp
        have hbig := HBIG.out
        clear cb fb
        go_wp2
        go_ret
        exact ⟨rfl, ⟨⟨hp_set hB1.blk.hp _, hB1.blk.col⟩, hok, HB.out.len⟩, (Ch.of_below hbw2).setCell hB1.blk.col _⟩
    · rw [drop_no s a (by omega)] at hok ⊢
      simp only at hok ⊢
      clear hok
      have hin2 : s.size ≤ a := by omega
      clear h hin
      go_enter Try.func69, Try.ntmps69
      go_wp2
      refine Ph.region_at (by kernel_rfl) ?_
      refine Ph.at_quiet 10 (by kernel_rfl) ?_
      simp only [List.take_succ_cons, List.take_zero, List.drop_succ_cons, List.drop_zero]
      repeat ((first | (apply Ph.wpPh_g; (focus (intro w1 hS0; have hbq := below_call (below_drew (Below.refl _ _)) hS0; have cbq := hp_cell (HB.out.below hbq).blk.hp; go_simp; first | exact rfl | exact ⟨rfl, Below.refl _ _⟩)))); simp only [Act.put, List.setIfInBounds_toArray, List.set_cons_zero, List.set_cons_succ])
      refine Ph.wpPh_nil ?_; intro w2 hS2
      refine Ph.at_end (by simp) ?_
      have hbw := below_call (below_drew (Below.refl _ _)) hS2
      have hB1 := HB.out.painted hbw
      have cb1 := hp_cell hB1.blk.hp; have fb1 := hp_free hB1.blk.hp
      clear cb fb
      go_wp2
      go_ret
      exact ⟨rfl, ⟨⟨hp_set hB1.blk.hp _, hB1.blk.col⟩, ⟨HB.out.ok.at_, .inr (.inl rfl)⟩, HB.out.len⟩, (Ch.of_below hbw).setCell hB1.blk.col _⟩
  · rw [if_neg h0]
    have b1 : ((er : Int) != 0) = true := by simp; omega
    go_enter Try.func69, Try.ntmps69
    go_wp2
    go_ret
    exact ⟨rfl, h.painted (Below.refl _ _), Ch.refl⟩
theorem rr_end (col : Nat → Nat) (i : Nat) (w : World) (b : Nat) (s : ByteArray) (t : St) (h : Rds 88 col i w b s t) :
    Calls Try.prog 49 #[.pointer (some ⟨b, 0, none⟩)] w fun e w' => e = .returned (.int .i64 (rEnd s.data.toList t)) ∧ ∃ n, w' = w.drewN n := by
  have cb := hp_cell h.blk.hp
  have hl : s.data.toList.length = s.size := by simp
  obtain ⟨a, e⟩ := t
  unfold rEnd
  rw [hl]
  simp only at *
  clear hl
  by_cases h0 : e = 0
  · subst h0
    by_cases h1 : a < s.size
    · rw [if_pos rfl, if_pos h1]
      go_enter Try.func49, Try.ntmps49
      go_wp2
      go_quiet (fail)
      go_wp2
      go_ret
      exact ⟨rfl, _, rfl⟩
    · rw [if_pos rfl, if_neg h1]
      have h1' : s.size ≤ a := by omega
      go_enter Try.func49, Try.ntmps49
      go_wp2
      go_quiet (fail)
      go_wp2
      go_ret
      exact ⟨rfl, _, rfl⟩
  · rw [if_neg h0]
    have h0' : ((e : Int) == 0) = false := by rw [beq_eq_false_iff_ne]; omega
    go_enter Try.func49, Try.ntmps49
    go_wp2
    go_quiet (fail)
    go_wp2
    go_ret
    exact ⟨rfl, _, rfl⟩
end Go.Proofs.Ytiklpifaaogcpaa

namespace Go.Proofs.Ytiklpifaaogcpaa
open Go.RowKit Go.Cl
set_option maxRecDepth 100000
set_option linter.unusedVariables false
set_option linter.unusedSimpArgs false

open Go.Wr
set_option maxHeartbeats 2000000 in
theorem rr_text (col : Nat → Nat) (i : Nat) (w : World) (b : Nat) (s : ByteArray) (t : St) (h : Rds 88 col i w b s t) (most : Int) :
    Calls Try.prog 44 #[.pointer (some ⟨b, 0, none⟩), .int .i64 most] w fun e w' => e = .returned (.string ⟨(rText s.data.toList most t).1.toArray⟩) ∧ Rds 88 (paint col w i) i w' b s (rText s.data.toList most t).2 ∧ Ch col i w w' := by
  have hN := fun W => ref_look W s t.at_ h.at_lt h.len
  have hok := ok_text (most := most) h.ok
  have hl : s.data.toList.length = s.size := by simp
  unfold rText at hok ⊢
  rw [hl] at hok ⊢
  have HB := Lib.hid h
  have cb := hp_cell h.blk.hp
  have fb := hp_free h.blk.hp
  have hlt := h.at_lt
  have hlen := h.len
  unfold maxLen at hlen
  obtain ⟨a, er⟩ := t
  simp only at *
  by_cases h0 : er = 0
  · subst h0
    rw [if_pos rfl] at hok ⊢
    clear h
    cases hn : number s.data.toList a with
    | inl e =>
      have he := number_err hn
      rw [hn] at hN
      simp only [numRes] at hN ⊢
      clear hok
      have HN := Lib.hid hN; clear hN hn
      have b1 : ((e : Int) != 0) = true := by simp; omega
      have b2 : ((e : Int) == 0) = false := by rw [beq_eq_false_iff_ne]; omega
      have HE2 := Lib.hid he; clear he hl
      by_cases hm : most < 0
      all_goals
        go_enter Try.func44, Try.ntmps44
        go_wp2
        refine Ph.region_at (by kernel_rfl) ?_
        refine Ph.at_quiet 16 (by kernel_rfl) ?_
        simp only [List.take_succ_cons, List.take_zero, List.drop_succ_cons, List.drop_zero]
        repeat ((first | (apply Ph.wpPh_g; (focus (intro w1 hS0; have hbq := below_call (below_drew (Below.refl _ _)) hS0; have cbq := hp_cell (HB.out.below hbq).blk.hp; go_simp; first | exact rfl | exact ⟨rfl, Below.refl _ _⟩ | ((go_at_call 70; refine (HN.out _).mono ?_; rintro e w' ⟨rfl, rfl⟩; exact ⟨rfl, Below.refl _ _⟩)))))); simp only [Act.put, List.setIfInBounds_toArray, List.set_cons_zero, List.set_cons_succ])
        refine Ph.wpPh_nil ?_; intro w2 hS2
        refine Ph.at_end (by simp) ?_
        have hbw := below_call (below_drew (Below.refl _ _)) hS2
        have hB1 := HB.out.painted hbw
        have cb1 := hp_cell hB1.blk.hp; have fb1 := hp_free hB1.blk.hp
        clear cb fb
        go_wp2
        go_ret
        exact ⟨rfl, ⟨⟨hp_set hB1.blk.hp _, hB1.blk.col⟩, ⟨HB.out.ok.at_, .inr HE2.out⟩, HB.out.len⟩, (Ch.of_below hbw).setCell hB1.blk.col _⟩
    | inr p =>
      obtain ⟨n, a'⟩ := p
      rw [hn] at hN hok
      simp only [numRes] at hN hok ⊢
      obtain ⟨i1, i2, i3, i4, i5, i6⟩ := number_in hn (by rw [hl]; exact hlt)
      rw [hl] at i2
      have HN := Lib.hid hN; clear hN hn i6 hl
      have I4 := Lib.hid i4; have I5 := Lib.hid i5; clear i4 i5
      by_cases c1 : n < 0 ∨ max most 0 < n
      · rw [if_pos c1]
        clear hok
        have c1' : n < 0 ∨ (0 ≤ n ∧ most < 0 ∧ 0 < n) ∨ (0 ≤ n ∧ 0 ≤ most ∧ most < n) := by omega
        clear c1
        rcases c1' with c2 | ⟨c2, c3, c4⟩ | ⟨c2, c3, c4⟩
        · by_cases hm : most < 0
          all_goals
            go_enter Try.func44, Try.ntmps44
            go_wp2
            refine Ph.region_at (by kernel_rfl) ?_
            refine Ph.at_quiet 16 (by kernel_rfl) ?_
            simp only [List.take_succ_cons, List.take_zero, List.drop_succ_cons, List.drop_zero]
            repeat ((first | (apply Ph.wpPh_g; (focus (intro w1 hS0; have hbq := below_call (below_drew (Below.refl _ _)) hS0; have cbq := hp_cell (HB.out.below hbq).blk.hp; go_simp; first | exact rfl | exact ⟨rfl, Below.refl _ _⟩ | ((go_at_call 70; refine (HN.out _).mono ?_; rintro e w' ⟨rfl, rfl⟩; exact ⟨rfl, Below.refl _ _⟩)))))); simp only [Act.put, List.setIfInBounds_toArray, List.set_cons_zero, List.set_cons_succ])
            refine Ph.wpPh_nil ?_; intro w2 hS2
            refine Ph.at_end (by simp) ?_
            have hbw := below_call (below_drew (Below.refl _ _)) hS2
            have hB1 := HB.out.painted hbw
            have cb1 := hp_cell hB1.blk.hp; have fb1 := hp_free hB1.blk.hp
            clear cb fb
            go_wp2
            go_ret
            exact ⟨rfl, ⟨⟨hp_set hB1.blk.hp _, hB1.blk.col⟩, ⟨HB.out.ok.at_, .inr (.inr rfl)⟩, HB.out.len⟩, (Ch.of_below hbw).setCell hB1.blk.col _⟩
        · go_enter Try.func44, Try.ntmps44
          go_wp2
          refine Ph.region_at (by kernel_rfl) ?_
          refine Ph.at_quiet 16 (by kernel_rfl) ?_
          simp only [List.take_succ_cons, List.take_zero, List.drop_succ_cons, List.drop_zero]
          repeat ((first | (apply Ph.wpPh_g; (focus (intro w1 hS0; have hbq := below_call (below_drew (Below.refl _ _)) hS0; have cbq := hp_cell (HB.out.below hbq).blk.hp; go_simp; first | exact rfl | exact ⟨rfl, Below.refl _ _⟩ | ((go_at_call 70; refine (HN.out _).mono ?_; rintro e w' ⟨rfl, rfl⟩; exact ⟨rfl, Below.refl _ _⟩)))))); simp only [Act.put, List.setIfInBounds_toArray, List.set_cons_zero, List.set_cons_succ])
          refine Ph.wpPh_nil ?_; intro w2 hS2
          refine Ph.at_end (by simp) ?_
          have hbw := below_call (below_drew (Below.refl _ _)) hS2
          have hB1 := HB.out.painted hbw
          have cb1 := hp_cell hB1.blk.hp; have fb1 := hp_free hB1.blk.hp
          clear cb fb
          go_wp2
          go_ret
          exact ⟨rfl, ⟨⟨hp_set hB1.blk.hp _, hB1.blk.col⟩, ⟨HB.out.ok.at_, .inr (.inr rfl)⟩, HB.out.len⟩, (Ch.of_below hbw).setCell hB1.blk.col _⟩
        · go_enter Try.func44, Try.ntmps44
          go_wp2
          refine Ph.region_at (by kernel_rfl) ?_
          refine Ph.at_quiet 16 (by kernel_rfl) ?_
          simp only [List.take_succ_cons, List.take_zero, List.drop_succ_cons, List.drop_zero]
          repeat ((first | (apply Ph.wpPh_g; (focus (intro w1 hS0; have hbq := below_call (below_drew (Below.refl _ _)) hS0; have cbq := hp_cell (HB.out.below hbq).blk.hp; go_simp; first | exact rfl | exact ⟨rfl, Below.refl _ _⟩ | ((go_at_call 70; refine (HN.out _).mono ?_; rintro e w' ⟨rfl, rfl⟩; exact ⟨rfl, Below.refl _ _⟩)))))); simp only [Act.put, List.setIfInBounds_toArray, List.set_cons_zero, List.set_cons_succ])
          refine Ph.wpPh_nil ?_; intro w2 hS2
          refine Ph.at_end (by simp) ?_
          have hbw := below_call (below_drew (Below.refl _ _)) hS2
          have hB1 := HB.out.painted hbw
          have cb1 := hp_cell hB1.blk.hp; have fb1 := hp_free hB1.blk.hp
          clear cb fb
          go_wp2
          go_ret
          exact ⟨rfl, ⟨⟨hp_set hB1.blk.hp _, hB1.blk.col⟩, ⟨HB.out.ok.at_, .inr (.inr rfl)⟩, HB.out.len⟩, (Ch.of_below hbw).setCell hB1.blk.col _⟩
      · rw [if_neg c1] at hok ⊢
        have n0 : 0 ≤ n := by omega
        have n1 : n ≤ max most 0 := by omega
        have I5' := I5.out
        obtain ⟨m, rfl⟩ : ∃ m : Nat, n = m := ⟨n.toNat, by omega⟩
        simp only [Int.toNat_natCast] at hok ⊢
        clear c1
        have hmm : (most < 0 ∧ (m : Int) ≤ 0) ∨ (0 ≤ most ∧ (m : Int) ≤ most) := by omega
        clear n1
        by_cases c3 : (s.size : Int) - a' < m
        · rw [if_pos c3]
          clear hok
          rcases hmm with ⟨hm1, hm2⟩ | ⟨hm1, hm2⟩
          · omega
          all_goals
            have C3 := Lib.hid c3; have HM1 := Lib.hid hm1; have HM2 := Lib.hid hm2
            clear c3 hm1 hm2 I5'
            go_enter Try.func44, Try.ntmps44
            go_wp2
            refine Ph.region_at (by kernel_rfl) ?_
            refine Ph.at_quiet 16 (by kernel_rfl) ?_
            simp only [List.take_succ_cons, List.take_zero, List.drop_succ_cons, List.drop_zero]
            repeat ((first | (apply Ph.wpPh_g; (focus (intro w1 hS0; have hbq := below_call (below_drew (Below.refl _ _)) hS0; have cbq := hp_cell (HB.out.below hbq).blk.hp; go_simp; first | exact rfl | exact ⟨rfl, Below.refl _ _⟩ | ((go_at_call 70; refine (HN.out _).mono ?_; rintro e w' ⟨rfl, rfl⟩; exact ⟨rfl, Below.refl _ _⟩)))))); simp only [Act.put, List.setIfInBounds_toArray, List.set_cons_zero, List.set_cons_succ])
            refine Ph.wpPh_nil ?_; intro w2 hS2
            refine Ph.at_end (by simp) ?_
            have hbw := below_call (below_drew (Below.refl _ _)) hS2
            have c3 := C3.out; have hm1 := HM1.out; have hm2 := HM2.out; have I5' := I5.out
            have hB1 := HB.out.painted hbw
            have cb1 := hp_cell hB1.blk.hp; have fb1 := hp_free hB1.blk.hp
            clear cb fb
            go_wp2
            go_ret
            exact ⟨rfl, ⟨⟨hp_set hB1.blk.hp _, hB1.blk.col⟩, ⟨HB.out.ok.at_, .inr (.inl rfl)⟩, HB.out.len⟩, (Ch.of_below hbw).setCell hB1.blk.col _⟩
        · rw [if_neg c3] at hok ⊢
          rw [ext_take]
          rcases hmm with ⟨hm1, hm2⟩ | ⟨hm1, hm2⟩
          all_goals
            have C3 := Lib.hid c3; have HM1 := Lib.hid hm1; have HM2 := Lib.hid hm2
            clear c3 hm1 hm2 I5'
            go_enter Try.func44, Try.ntmps44
            go_wp2
            refine Ph.region_at (by kernel_rfl) ?_
            refine Ph.at_quiet 16 (by kernel_rfl) ?_
            simp only [List.take_succ_cons, List.take_zero, List.drop_succ_cons, List.drop_zero]
            repeat ((first | (apply Ph.wpPh_g; (focus (intro w1 hS0; have hbq := below_call (below_drew (Below.refl _ _)) hS0; have cbq := hp_cell (HB.out.below hbq).blk.hp; go_simp; first | exact rfl | exact ⟨rfl, Below.refl _ _⟩ | ((go_at_call 70; refine (HN.out _).mono ?_; rintro e w' ⟨rfl, rfl⟩; exact ⟨rfl, Below.refl _ _⟩)))))); simp only [Act.put, List.setIfInBounds_toArray, List.set_cons_zero, List.set_cons_succ])
            refine Ph.wpPh_nil ?_; intro w2 hS2
            refine Ph.at_end (by simp) ?_
            have hbw := below_call (below_drew (Below.refl _ _)) hS2
            have c3 := C3.out; have hm1 := HM1.out; have hm2 := HM2.out; have I5' := I5.out
            have cb1 := hp_cell (HB.out.below hbw).blk.hp; have fb1 := hp_free (HB.out.below hbw).blk.hp
            clear cb fb
            have s1 : IntKind.i64.wrap ((a' : Int) + (m : Int)) = (a' : Int) + (m : Int) := IntWalk.i64_in _ (by omega)
            have s2 : (0 : Int) ≤ (a' : Int) + (m : Int) := by omega
            have s3 : ((a' : Int) + (m : Int)).toNat = a' + m := by omega
            have s4 : a' + m ≤ s.size := by omega
            have s5 : (a' : Int) + (m : Int) ≤ (s.size : Int) := by omega
            have s6 : (a' : Int) ≤ (a' : Int) + (m : Int) := by omega
            go_wp2
            refine Ph.at_world ?_; intro Z hZ
            have hZ1 : hp Z b = some (.cells #[.string s, .int .i64 ((a' : Int) + (m : Int)), .int .i64 0] 88 (0, 0)) := by rw [hZ]; exact hp_set (HB.out.below hbw).blk.hp _
            have hZ2 : Ch col i w Z := by rw [hZ]; exact (Ch.of_below hbw).setCell (paint_of HB.out.blk.col) _
            clear hZ cb1 fb1
            refine Ph.region_at (by kernel_rfl) ?_
            refine Ph.at_quiet 11 (by kernel_rfl) ?_
            simp only [List.take_succ_cons, List.take_zero, List.drop_succ_cons, List.drop_zero]
            repeat ((first | (apply Ph.wpPh_g; (focus (intro w1 hS0; have cbq := hp_cell (hp_below (below_call (below_drew (Below.refl _ _)) hS0) hZ1); go_simp; first | exact rfl | exact ⟨rfl, Below.refl _ _⟩)))); simp only [Act.put, List.setIfInBounds_toArray, List.set_cons_zero, List.set_cons_succ])
            refine Ph.wpPh_nil ?_; intro w4 hS4
            refine Ph.at_end (by simp) ?_
            go_wp2
            go_ret
            rw [show ((a' : Int) + (m : Int)) = ((a' + m : Nat) : Int) by omega] at hZ1
            exact ⟨rfl, ⟨⟨hp_below (below_call (below_drew (Below.refl _ _)) hS4) hZ1, paint_of HB.out.blk.col⟩, hok, HB.out.len⟩, hZ2.below (below_call (below_drew (Below.refl _ _)) hS4)⟩
  · rw [if_neg h0]
    have b1 : ((er : Int) != 0) = true := by simp; omega
    clear hl hN
    go_enter Try.func44, Try.ntmps44
    go_wp2
    go_ret
    exact ⟨rfl, h.painted (Below.refl _ _), Ch.refl⟩
end Go.Proofs.Ytiklpifaaogcpaa
