/- A reader of bytes: its methods. -/
import Derived.Test.YtiklpifaaogcpaaWf
import Derived.WalkKit
import Derived.WalkLawsBesides
import Derived.WalkSpells
import Derived.Below
import Derived.Deep.RegionHeld3
import Derived.Deep.QuietTactic
import Derived.BigQuiet
import Derived.Deep.DeepCutAuto
import Derived.Deep.DeepMust
import Derived.KernelRfl
import Derived.Lib.Hide
import Derived.Outline
import Derived.RegionTactic
import Derived.StillTailTactics
import Derived.Laws.IdiomStrings
namespace Go.Proofs.Ytiklpifaaogcpaa
open Go.RowKit Go.Cl
set_option maxRecDepth 100000
set_option linter.unusedVariables false
set_option linter.unusedSimpArgs false

open Go.Wr
theorem rd_num (col : Nat → Nat) (i : Nat) (w : World) (b : Nat) (s : ByteArray) (t : St) (h : Rds 126 col i w b s t) :
    Calls Try.prog 104 #[.pointer (some ⟨b, 0, none⟩)] w fun e w' => e = .returned (.int .i64 (rNum s.data.toList t).1) ∧ Rds 126 (paint col w i) i w' b s (rNum s.data.toList t).2 ∧ Ch col i w w' := by
  have HE := Lib.hid (rd_err col i w b s t h)
  have hN := rd_number col i w b s t h
  have hok := ok_num h.ok
  unfold rNum at hok ⊢
  have HB := Lib.hid h
  have cb := hp_cell h.blk.hp
  obtain ⟨a, er⟩ := t
  simp only at *
  by_cases h0 : er = 0
  · subst h0
    rw [if_pos rfl] at hok ⊢
    clear h
    cases hn : number s.data.toList a with
    | inl e =>
      have he := number_err hn
      rw [hn] at hN
      simp only [numRes] at hN ⊢
      clear hok
      have HN := Lib.hid hN; clear hN hn
      have b1 : ((e : Int) != 0) = true := by simp; omega
      have HE2 := Lib.hid he; clear he
      go_enter Try.func104, Try.ntmps104
      go_wp2_with (first | (go_at_call 68; refine HE.out.mono ?_; rintro e w' ⟨rfl, rfl⟩) | (go_at_call 107; refine HN.out.mono ?_; rintro e w1 ⟨rfl, hb1⟩))
      refine (rd_fail (paint col w i) i _ b s ⟨a, 0⟩ (HB.out.painted hb1) e HE2.out e rfl).mono ?_
      rintro e' w2 ⟨rfl, hR, hC⟩
      go_wp2
      go_ret
      rw [paint_paint hb1.size] at hR
      exact ⟨rfl, hR, (Ch.of_below hb1).trans hC⟩
    | inr p =>
      obtain ⟨n, a'⟩ := p
      rw [hn] at hN hok
      simp only [numRes] at hN ⊢
      obtain ⟨hok1, hok2, hok3⟩ := hok
      have HN := Lib.hid hN; clear hN hn hok2 hok3
      go_enter Try.func104, Try.ntmps104
      go_wp2_with (first | (go_at_call 68; refine HE.out.mono ?_; rintro e w' ⟨rfl, rfl⟩) | (go_at_call 107; refine HN.out.mono ?_; rintro e w1 ⟨rfl, hb1⟩; have hB1 := HB.out.painted hb1; have cb1 := hp_cell hB1.blk.hp; have fb1 := hp_free hB1.blk.hp))
      go_ret
      exact ⟨rfl, ⟨⟨hp_set hB1.blk.hp _, hB1.blk.col⟩, hok1, HB.out.len⟩, (Ch.of_below hb1).setCell hB1.blk.col _⟩
  · rw [if_neg h0]
    have b1 : ((er : Int) != 0) = true := by simp; omega
    go_enter Try.func104, Try.ntmps104
    go_wp2_with (go_at_call 68; refine HE.out.mono ?_; rintro e w' ⟨rfl, rfl⟩)
    go_ret
    exact ⟨rfl, h.painted (Below.refl _ _), Ch.refl⟩
theorem rd_bool (col : Nat → Nat) (i : Nat) (w : World) (b : Nat) (s : ByteArray) (t : St) (h : Rds 126 col i w b s t) :
    Calls Try.prog 106 #[.pointer (some ⟨b, 0, none⟩)] w fun e w' => e = .returned (.bool (rBool s.data.toList t).1) ∧ Rds 126 (paint col w i) i w' b s (rBool s.data.toList t).2 ∧ Ch col i w w' := by
  have HE := Lib.hid (rd_err col i w b s t h)
  have hok := ok_bool h.ok
  unfold rBool at hok ⊢
  have HB := Lib.hid h
  have cb := hp_cell h.blk.hp
  have hlt := h.at_lt
  have hlen := h.len
  unfold maxLen at hlen
  obtain ⟨a, er⟩ := t
  simp only at *
  by_cases h0 : er = 0
  · subst h0
    rw [if_pos rfl] at hok ⊢
    by_cases hin : a < s.size
    · rw [drop_at s a hin] at hok ⊢
      have hby : ∀ W' A, A = (a : Int) → Rds 126 col i W' b s ⟨a, 0⟩ → Calls Try.prog 109 #[.pointer (some ⟨b, 0, none⟩), .int .i64 A] W' fun e w' => e = .returned (.tuple #[.int .u8 s[a].toNat, .bool true]) ∧ w' = W' := fun W' A hA hr => rd_byte col i W' b s ⟨a, 0⟩ hr A a hA hin
      have hv := s[a].toNat_lt
      simp only at hok ⊢
      generalize s[a].toNat = v at *
      have HBY := Lib.hid hby; clear hby
      clear h
      by_cases hbig : 1 < v
      · rw [if_pos hbig] at hok ⊢
        clear hok
        go_enter Try.func106, Try.ntmps106
        go_wp2_with (go_at_call 68; refine HE.out.mono ?_; rintro e w' ⟨rfl, rfl⟩)
        refine Ph.region_at (by kernel_rfl) ?_
        refine Ph.at_quiet 14 (by kernel_rfl) ?_
        simp only [List.take_succ_cons, List.take_zero, List.drop_succ_cons, List.drop_zero]
        repeat ((first | (apply Ph.wpPh_g; (focus (intro w1 hS0; have hbq := below_call (below_drew (Below.refl _ _)) hS0; have cbq := hp_cell (HB.out.below hbq).blk.hp; go_simp; first | exact rfl | exact ⟨rfl, Below.refl _ _⟩ | ((go_at_call 109; refine (HBY.out _ _ (by omega) (HB.out.below hbq)).mono ?_; rintro e w' ⟨rfl, rfl⟩; exact ⟨rfl, Below.refl _ _⟩)))))); simp only [Act.put, List.setIfInBounds_toArray, List.set_cons_zero, List.set_cons_succ])
        refine Ph.wpPh_nil ?_; intro w2 hS2
        refine Ph.at_end (by simp) ?_
        have hbw := below_call (below_drew (Below.refl _ _)) hS2
        go_wp2_with fail
        refine (rd_fail (paint col w i) i _ b s ⟨a, 0⟩ (HB.out.painted hbw) 11 (.inr rfl) 11 rfl).mono ?_
        rintro e' w3 ⟨rfl, hR, hC⟩
        go_wp2
        go_ret
        rw [paint_paint hbw.size] at hR
        exact ⟨rfl, hR, (Ch.of_below hbw).trans hC⟩
      · rw [if_neg hbig] at hok ⊢
        have s1 : IntKind.i64.wrap ((a : Int) + 1) = (a : Int) + 1 := IntWalk.i64_in _ (by omega)
        have hbv : (v == 1) = ((v : Int) == 1) := by rw [Bool.eq_iff_iff]; simp; omega
        rw [hbv]
        clear hbv
        go_enter Try.func106, Try.ntmps106
        go_wp2_with (go_at_call 68; refine HE.out.mono ?_; rintro e w' ⟨rfl, rfl⟩)
        refine Ph.region_at (by kernel_rfl) ?_
        refine Ph.at_quiet 14 (by kernel_rfl) ?_
        simp only [List.take_succ_cons, List.take_zero, List.drop_succ_cons, List.drop_zero]
        repeat ((first | (apply Ph.wpPh_g; (focus (intro w1 hS0; have hbq := below_call (below_drew (Below.refl _ _)) hS0; have cbq := hp_cell (HB.out.below hbq).blk.hp; go_simp; first | exact rfl | exact ⟨rfl, Below.refl _ _⟩ | ((go_at_call 109; refine (HBY.out _ _ (by omega) (HB.out.below hbq)).mono ?_; rintro e w' ⟨rfl, rfl⟩; exact ⟨rfl, Below.refl _ _⟩)))))); simp only [Act.put, List.setIfInBounds_toArray, List.set_cons_zero, List.set_cons_succ])
        refine Ph.wpPh_nil ?_; intro w2 hS2
        refine Ph.at_end (by simp) ?_
        have hbw := below_call (below_drew (Below.refl _ _)) hS2
        have hB1 := HB.out.painted hbw; have cb1 := hp_cell hB1.blk.hp; have fb1 := hp_free hB1.blk.hp
        go_wp2
        go_ret
        exact ⟨rfl, ⟨⟨hp_set hB1.blk.hp _, hB1.blk.col⟩, hok, HB.out.len⟩, (Ch.of_below hbw).setCell hB1.blk.col _⟩
    · rw [drop_no s a (by omega)] at hok ⊢
      have hby : ∀ W' A, A = (a : Int) → Rds 126 col i W' b s ⟨a, 0⟩ → Calls Try.prog 109 #[.pointer (some ⟨b, 0, none⟩), .int .i64 A] W' fun e w' => e = .returned (.tuple #[.int .u8 0, .bool false]) ∧ w' = W' := fun W' A hA hr => rd_byte_no col i W' b s ⟨a, 0⟩ hr A a hA (by omega)
      simp only at hok ⊢
      clear hok
      have HBY := Lib.hid hby; clear hby
      clear h
      go_enter Try.func106, Try.ntmps106
      go_wp2_with (go_at_call 68; refine HE.out.mono ?_; rintro e w' ⟨rfl, rfl⟩)
      refine Ph.region_at (by kernel_rfl) ?_
      refine Ph.at_quiet 14 (by kernel_rfl) ?_
      simp only [List.take_succ_cons, List.take_zero, List.drop_succ_cons, List.drop_zero]
      repeat ((first | (apply Ph.wpPh_g; (focus (intro w1 hS0; have hbq := below_call (below_drew (Below.refl _ _)) hS0; have cbq := hp_cell (HB.out.below hbq).blk.hp; go_simp; first | exact rfl | exact ⟨rfl, Below.refl _ _⟩ | ((go_at_call 109; refine (HBY.out _ _ (by omega) (HB.out.below hbq)).mono ?_; rintro e w' ⟨rfl, rfl⟩; exact ⟨rfl, Below.refl _ _⟩)))))); simp only [Act.put, List.setIfInBounds_toArray, List.set_cons_zero, List.set_cons_succ])
      refine Ph.wpPh_nil ?_; intro w2 hS2
      refine Ph.at_end (by simp) ?_
      have hbw := below_call (below_drew (Below.refl _ _)) hS2
      go_wp2_with fail
      refine (rd_fail (paint col w i) i _ b s ⟨a, 0⟩ (HB.out.painted hbw) 10 (.inl rfl) 10 rfl).mono ?_
      rintro e' w3 ⟨rfl, hR, hC⟩
      go_wp2
      go_ret
      rw [paint_paint hbw.size] at hR
      exact ⟨rfl, hR, (Ch.of_below hbw).trans hC⟩
  · rw [if_neg h0]
    have b1 : ((er : Int) != 0) = true := by simp; omega
    go_enter Try.func106, Try.ntmps106
    go_wp2_with (go_at_call 68; refine HE.out.mono ?_; rintro e w' ⟨rfl, rfl⟩)
    go_ret
    exact ⟨rfl, h.painted (Below.refl _ _), Ch.refl⟩
end Go.Proofs.Ytiklpifaaogcpaa
