/- WireReads. -/
import Derived.Test.YtineekhpbglnhaaWz2
import Derived.Test.YtineekhpbglnhaaWx
import Derived.WalkKit
import Derived.WalkLawsBesides
import Derived.WalkSpells
import Derived.Below
import Derived.Deep.RegionHeld3
import Derived.Deep.QuietTactic
import Derived.BigQuiet
import Derived.Deep.DeepCutAuto
import Derived.Deep.DeepMust
import Derived.KernelRfl
import Derived.Lib.Hide
import Derived.Outline
import Derived.RegionTactic
import Derived.StillTailTactics
import Derived.Laws.IdiomStrings
namespace Go.Proofs.Ytineekhpbglnhaa
open Go.RowKit Go.Cl
set_option maxRecDepth 100000
set_option linter.unusedVariables false
set_option linter.unusedSimpArgs false

open Go.Wr Go.Rdr
section
variable {S : List Nat} (col : Nat → Nat) (i : Nat) (hi : i ∈ S)
include hi
theorem rm_num (w : World) (b : Nat) (s : ByteArray) (t : St) (h : Rds 48 col i w b s t) :
    Calls Try.prog 18 #[.pointer (some ⟨b, 0, none⟩)] w fun e w' => ∃ c, e = .returned (.int .i64 (rNum s.data.toList t).1) ∧ Rds 48 c i w' b s (rNum s.data.toList t).2 ∧ Mv S col w c w' ∧ Mv [i] col w c w' := (rr_num col i w b s t h).mono fun e w' ⟨a, h, c⟩ => ⟨_, a, h, c.mv' hi, c.mv⟩
theorem rm_bool (w : World) (b : Nat) (s : ByteArray) (t : St) (h : Rds 48 col i w b s t) :
    Calls Try.prog 20 #[.pointer (some ⟨b, 0, none⟩)] w fun e w' => ∃ c, e = .returned (.bool (rBool s.data.toList t).1) ∧ Rds 48 c i w' b s (rBool s.data.toList t).2 ∧ Mv S col w c w' ∧ Mv [i] col w c w' := (rr_bool col i w b s t h).mono fun e w' ⟨a, h, c⟩ => ⟨_, a, h, c.mv' hi, c.mv⟩
theorem rm_text (w : World) (b : Nat) (s : ByteArray) (t : St) (h : Rds 48 col i w b s t) (most : Int) :
    Calls Try.prog 22 #[.pointer (some ⟨b, 0, none⟩), .int .i64 most] w fun e w' => ∃ c, e = .returned (.string ⟨(rText s.data.toList most t).1.toArray⟩) ∧ Rds 48 c i w' b s (rText s.data.toList most t).2 ∧ Mv S col w c w' ∧ Mv [i] col w c w' := (rr_text col i w b s t h most).mono fun e w' ⟨a, h, c⟩ => ⟨_, a, h, c.mv' hi, c.mv⟩
end
def RdsInv (w : World) (r v n : Nat) (s : ByteArray) (x : Value) (wr : World) : Prop := ∃ (k : Nat) (c : Nat → Nat) (t : St), x = .int .i64 k ∧ k ≤ n ∧ Rds 60 c 1 wr r s t ∧ Rds 48 c 2 wr v s t ∧ Mv [1, 2] zc w c wr
/-- Both readers and a box. -/
def Two (r v bx : Nat) (w : World) (s : ByteArray) (cs : Array Value) (t u : St) (W : World) : Prop :=
  ∃ c, Rds 60 c 1 W r s t ∧ Rds 48 c 2 W v s u ∧ hp W bx = some (.cells cs 43 (0, 0)) ∧ c bx = 0 ∧ Mv [1, 2] zc w c W
theorem Two.mono (r v bx : Nat) (w : World) (s : ByteArray) (cs : Array Value) (t u : St) : Ph.Mono1 (Two r v bx w s cs t u) :=
  fun a a' ⟨c, h1, h2, h3, h4, h5⟩ hb => ⟨c, h1.below hb, h2.below hb, hp_below hb h3, h4, h5.after_below hb⟩
set_option maxHeartbeats 2000000 in
theorem wireReads (w : World) (base : Nat) (va : Value) (l : List OpT) (hs : SlIs w base 4 OpR va l) (s : ByteArray) (hsz : s.size ≤ maxLen) :
    Calls Try.prog 5 #[.string s, va] w fun e w' => e = .returned (.bool true) ∧ Below w.heap.size w w' := by
  obtain ⟨p, c, rfl, hlc, hcm⟩ := hs.form
  unfold maxLen at hcm
  have HSW := Lib.hid hs; clear hs
  have HSZ := Lib.hid hsz; clear hsz
  go_enter Try.func5, Try.ntmps5
  go_wp2_with (first | (go_at_call 9; refine (fixed_true _).mono ?_; rintro e w0 ⟨rfl, hb0⟩) | (go_at_call 11; refine (rn_new (S := [1, 2]) zc 1 (by simp) w0 s HSZ.out).mono ?_; rintro e w1 ⟨r, c1, rfl, h1, m1, _⟩))
  have c2 := (Ch.refl (col := c1) (i := 2) (w := w1)).alloc (.cells #[.string s, .int .i64 0, .int .i64 0] 48)
  have h2 : Rds 48 (paint c1 w1 2) 2 (w1.alloc (.cells #[.string s, .int .i64 0, .int .i64 0] 48)) w1.heap.size s ⟨0, 0⟩ := ⟨⟨hp_alloc_new w1 _, paint_new (Nat.le_refl _)⟩, h1.ok, HSZ.out⟩
  replace h1 := h1.kept c2.mv (by simp)
  replace m1 := ((Mv.of_below (S := [1, 2]) (col := zc) hb0).trans m1).trans (c2.mv' (by simp))
  clear c2
  generalize w1.heap.size = v at *
  go_loopw [7] (RdsInv w r v l.length s) (fun t _ => l.length + 1 - (intOf t).toNat)
  case atStart => exact ⟨0, _, ⟨0, 0⟩, rfl, Nat.zero_le _, h1, h2, m1⟩
  case round =>
    clear h1 h2 m1
    obtain ⟨k, c1, t, rfl, hk, h1, h2, m1⟩ := hrel
    have hbw := m1.toBelow (zc0 w)
    by_cases hlt : k < l.length
    · have hs := HSW.out
      obtain ⟨bs, os, c', cs, hv, _, _, hcl, ⟨hcs, k0, k1, n1, n2, sz⟩, hbs, hat⟩ := hs.at hbw k hlt
      simp only [Value.slice.injEq] at hv
      obtain ⟨rfl, _, rfl⟩ := hv
      subst hcs
      have q0 := hat 0 (by omega)
      have q1 := hat 1 (by omega)
      have q2 := hat 2 (by omega)
      have q3 := hat 3 (by omega)
      simp only [List.getElem?_cons_zero, List.getElem?_cons_succ, Nat.add_zero] at q0 q1 q2 q3
      clear hs
      generalize l[k] = X at *
      obtain ⟨K, I, S, M⟩ := X
      simp only at q0 q1 q2 q3 k0 k1
      have hk4 : K % 4 = 0 ∨ K % 4 = 1 ∨ K % 4 = 2 ∨ K % 4 = 3 := by omega
      clear n1 n2 sz hat hcl
      go_upto_region 8 with fail
      have HB := below_alloc (Below.refl wr.heap.size wr) (.cells #[.int .u8 K, .int .i64 I, .string S, .int .i64 M] 43)
      have hA0 : Two r v wr.heap.size w s #[.int .u8 K, .int .i64 I, .string S, .int .i64 M] t t (wr.alloc (.cells #[.int .u8 K, .int .i64 I, .string S, .int .i64 M] 43)) :=
        ⟨paint c1 wr 0, h1.kept (Mv.new (S := []) HB 0) (by simp), h2.kept (Mv.new (S := []) HB 0) (by simp), hp_alloc_new wr _, paint_new (Nat.le_refl _), m1.trans (Mv.new HB 0)⟩
      generalize hbx : wr.heap.size = bx at *
      refine Ph.at_world ?_; intro Z hZ
      rw [← hZ] at hA0
      clear hZ HB h1 h2 m1 hbw hbx q0 q1 q2 q3
      obtain ⟨c2, g1, g2, g3, g4, g5⟩ := id hA0
      have cx := hp_cell g3
      rcases hk4 with h4 | h4 | h4 | h4
      · go_wp2_with (first | (go_at_call 13; refine (rn_num (S := [1, 2]) c2 1 (by simp) _ r s t g1).mono ?_; rintro e w3 ⟨c3, rfl, a1, b1, b1'⟩; have a2 := g2.kept b1' (by simp)) | (go_at_call 18; refine (rm_num (S := [1, 2]) c3 2 (by simp) _ v s t a2).mono ?_; rintro e w4 ⟨c4, rfl, n2, b2, b2'⟩; have n1 := a1.kept b2' (by simp)))
        have n3 := (g5.trans b1).trans b2
        clear a1 a2 b1 b1' b2 b2' g1 g2 g3 g4 g5 cx hA0
        refine Ph.region_at (by kernel_rfl) ?_
        refine Ph.at_quiet 23 (by kernel_rfl) ?_
        simp only [List.take_succ_cons, List.take_zero, List.drop_succ_cons, List.drop_zero]
        repeat ((first | (apply Ph.wpPh_g; (focus (intro w1 hS0; have hbq := below_call (below_drew (Below.refl _ _)) hS0; have j1 := n1.below hbq; have j2 := n2.below hbq; have cv := hp_cell j2.blk.hp; go_simp; first | exact rfl | exact ⟨rfl, Below.refl _ _⟩ | ((go_at_call 23; refine (rd_err _ 1 _ _ _ _ j1).mono ?_; rintro e w' ⟨rfl, rfl⟩; exact ⟨rfl, Below.refl _ _⟩)) | ((go_at_call 14; refine (rd_at _ 1 _ _ _ _ j1).mono ?_; rintro e w' ⟨rfl, rfl⟩; exact ⟨rfl, Below.refl _ _⟩)) | ((go_at_call 15; refine (rd_end _ 1 _ _ _ _ j1).mono ?_; rintro e w' ⟨rfl, nq, rfl⟩; exact ⟨rfl, below_drewN (Below.refl _ _) nq⟩)) | ((go_at_call 24; refine (rr_end _ 2 _ _ _ _ j2).mono ?_; rintro e w' ⟨rfl, nq, rfl⟩; exact ⟨rfl, below_drewN (Below.refl _ _) nq⟩)))))); simp only [Act.put, List.setIfInBounds_toArray, List.set_cons_zero, List.set_cons_succ])
        refine Ph.wpPh_nil ?_; intro w8 hS8
        refine Ph.at_end (by simp) ?_
        have hbw := below_call (below_drew (Below.refl _ _)) hS8
        have k1 := n1.below hbw; have k2 := n2.below hbw; have k3 := n3.after_below hbw
        clear n1 n2 n3 hbw hS8
        go_wp2
        go_roundw
        case rel => exact ⟨k + 1, _, _, by go_num, by omega, k1, k2, k3⟩
        case measure => simp [intOf]; omega
      · go_wp2_with (first | (go_at_call 19; refine (rn_bool (S := [1, 2]) c2 1 (by simp) _ r s t g1).mono ?_; rintro e w3 ⟨c3, rfl, a1, b1, b1'⟩; have a2 := g2.kept b1' (by simp)) | (go_at_call 20; refine (rm_bool (S := [1, 2]) c3 2 (by simp) _ v s t a2).mono ?_; rintro e w4 ⟨c4, rfl, n2, b2, b2'⟩; have n1 := a1.kept b2' (by simp)))
        have n3 := (g5.trans b1).trans b2
        clear a1 a2 b1 b1' b2 b2' g1 g2 g3 g4 g5 cx hA0
        refine Ph.region_at (by kernel_rfl) ?_
        refine Ph.at_quiet 23 (by kernel_rfl) ?_
        simp only [List.take_succ_cons, List.take_zero, List.drop_succ_cons, List.drop_zero]
        repeat ((first | (apply Ph.wpPh_g; (focus (intro w1 hS0; have hbq := below_call (below_drew (Below.refl _ _)) hS0; have j1 := n1.below hbq; have j2 := n2.below hbq; have cv := hp_cell j2.blk.hp; go_simp; first | exact rfl | exact ⟨rfl, Below.refl _ _⟩ | ((go_at_call 23; refine (rd_err _ 1 _ _ _ _ j1).mono ?_; rintro e w' ⟨rfl, rfl⟩; exact ⟨rfl, Below.refl _ _⟩)) | ((go_at_call 14; refine (rd_at _ 1 _ _ _ _ j1).mono ?_; rintro e w' ⟨rfl, rfl⟩; exact ⟨rfl, Below.refl _ _⟩)) | ((go_at_call 15; refine (rd_end _ 1 _ _ _ _ j1).mono ?_; rintro e w' ⟨rfl, nq, rfl⟩; exact ⟨rfl, below_drewN (Below.refl _ _) nq⟩)) | ((go_at_call 24; refine (rr_end _ 2 _ _ _ _ j2).mono ?_; rintro e w' ⟨rfl, nq, rfl⟩; exact ⟨rfl, below_drewN (Below.refl _ _) nq⟩)))))); simp only [Act.put, List.setIfInBounds_toArray, List.set_cons_zero, List.set_cons_succ])
        refine Ph.wpPh_nil ?_; intro w8 hS8
        refine Ph.at_end (by simp) ?_
        have hbw := below_call (below_drew (Below.refl _ _)) hS8
        have k1 := n1.below hbw; have k2 := n2.below hbw; have k3 := n3.after_below hbw
        clear n1 n2 n3 hbw hS8
        go_wp2
        go_roundw
        case rel => exact ⟨k + 1, _, _, by go_num, by omega, k1, k2, k3⟩
        case measure => simp [intOf]; omega
      · go_wp2
        clear cx g1 g2 g3 g4 g5
        refine Ph.region_at (by kernel_rfl) ?_
        refine Ph.at_stage 9 (fun i => if i < 0 then (0, 100, 0) else ([(0, 0, 0), (0, 0, 0), (0, 0, 0), (0, 0, 1), (0, 1, 0), (0, 1, 0), (0, 1, 0), (1, 1, 1), (2, 2, 0)] : List (Nat × Nat × Nat)).getD (i - 0) (0, 0, 0)) (Ph.S3 (Two r v bx w s #[.int .u8 K, .int .i64 I, .string S, .int .i64 M] t t) (Two r v bx w s #[.int .u8 K, .int .i64 I, .string S, .int .i64 M] (rText s.data.toList M t).2 t) (Two r v bx w s #[.int .u8 K, .int .i64 I, .string S, .int .i64 M] (rText s.data.toList M t).2 (rText s.data.toList M t).2)) (by kernel_rfl) (by kernel_rfl) (Two.mono _ _ _ _ _ _ _ _ _ _ hA0 (below_drew (Below.refl _ _))) ?_
        simp only [List.take_succ_cons, List.take_zero, List.drop_succ_cons, List.drop_zero]
        apply Ph.wpPh_q (Ph.S3_mono (Two.mono _ _ _ _ _ _ _ _) (Two.mono _ _ _ _ _ _ _ _) (Two.mono _ _ _ _ _ _ _ _)) 0 0 rfl rfl; (focus (intro k0 hk1 hk2 w1 hS0; go_simp; first | exact rfl | exact ⟨rfl, Below.refl _ _⟩ | exact Below.refl _ _)); simp only [Act.put, List.setIfInBounds_toArray, List.set_cons_zero, List.set_cons_succ]
        apply Ph.wpPh_q (Ph.S3_mono (Two.mono _ _ _ _ _ _ _ _) (Two.mono _ _ _ _ _ _ _ _) (Two.mono _ _ _ _ _ _ _ _)) 0 0 rfl rfl; (focus (intro k0 hk1 hk2 w1 hS0; go_simp; first | exact rfl | exact ⟨rfl, Below.refl _ _⟩ | exact Below.refl _ _)); simp only [Act.put, List.setIfInBounds_toArray, List.set_cons_zero, List.set_cons_succ]
        apply Ph.wpPh_q (Ph.S3_mono (Two.mono _ _ _ _ _ _ _ _) (Two.mono _ _ _ _ _ _ _ _) (Two.mono _ _ _ _ _ _ _ _)) 0 0 rfl rfl; (focus (intro k0 hk1 hk2 w1 hS0; obtain rfl : k0 = 0 := Nat.le_antisymm hk2 hk1; obtain ⟨c, h1, h2, h3, h4, h5⟩ : ∃ c, _ ∧ _ ∧ hp w1 bx = some (.cells #[.int .u8 K, .int .i64 I, .string S, .int .i64 M] 43 (0, 0)) ∧ _ ∧ _ := hS0; have cx := hp_cell h3; go_simp; first | exact rfl | exact ⟨rfl, Below.refl _ _⟩ | exact Below.refl _ _)); simp only [Act.put, List.setIfInBounds_toArray, List.set_cons_zero, List.set_cons_succ]
        apply Ph.wpPh_e 0 rfl rfl; (focus (intro w1 hS0; obtain ⟨c, h1, h2, h3, h4, h5⟩ := hS0; go_simp; refine (rn_text (S := [1, 2]) c 1 (by simp) w1 r s t h1 M).mono ?_; rintro e w2 ⟨c2, rfl, hR, hM, hM2⟩; exact ⟨rfl, c2, hR, h2.kept hM2 (by simp), hp_mv h3 hM2 (by rw [h4]; simp), by rw [hM2.col _ (hp_lt h3)]; exact h4, h5.trans hM⟩)); simp only [Act.put, List.setIfInBounds_toArray, List.set_cons_zero, List.set_cons_succ]
        apply Ph.wpPh_q (Ph.S3_mono (Two.mono _ _ _ _ _ _ _ _) (Two.mono _ _ _ _ _ _ _ _) (Two.mono _ _ _ _ _ _ _ _)) 0 1 rfl rfl; (focus (intro k0 hk1 hk2 w1 hS0; go_simp; first | exact rfl | exact ⟨rfl, Below.refl _ _⟩ | exact Below.refl _ _)); simp only [Act.put, List.setIfInBounds_toArray, List.set_cons_zero, List.set_cons_succ]
        apply Ph.wpPh_q (Ph.S3_mono (Two.mono _ _ _ _ _ _ _ _) (Two.mono _ _ _ _ _ _ _ _) (Two.mono _ _ _ _ _ _ _ _)) 0 1 rfl rfl; (focus (intro k0 hk1 hk2 w1 hS0; go_simp; first | exact rfl | exact ⟨rfl, Below.refl _ _⟩ | exact Below.refl _ _)); simp only [Act.put, List.setIfInBounds_toArray, List.set_cons_zero, List.set_cons_succ]
        apply Ph.wpPh_q (Ph.S3_mono (Two.mono _ _ _ _ _ _ _ _) (Two.mono _ _ _ _ _ _ _ _) (Two.mono _ _ _ _ _ _ _ _)) 0 1 rfl rfl; (focus (intro k0 hk1 hk2 w1 hS0; (rcases (by omega : k0 = 0 ∨ k0 = 1) with rfl | rfl) <;> (obtain ⟨c, h1, h2, h3, h4, h5⟩ : ∃ c, _ ∧ _ ∧ hp w1 bx = some (.cells #[.int .u8 K, .int .i64 I, .string S, .int .i64 M] 43 (0, 0)) ∧ _ ∧ _ := hS0; have cx := hp_cell h3; go_simp; first | exact rfl | exact ⟨rfl, Below.refl _ _⟩ | exact Below.refl _ _))); simp only [Act.put, List.setIfInBounds_toArray, List.set_cons_zero, List.set_cons_succ]
        apply Ph.wpPh_e 1 rfl rfl; (focus (intro w1 hS0; obtain ⟨c, h1, h2, h3, h4, h5⟩ := hS0; go_simp; refine (rm_text (S := [1, 2]) c 2 (by simp) w1 v s t h2 M).mono ?_; rintro e w2 ⟨c2, rfl, hR, hM, hM2⟩; exact ⟨rfl, c2, h1.kept hM2 (by simp), hR, hp_mv h3 hM2 (by rw [h4]; simp), by rw [hM2.col _ (hp_lt h3)]; exact h4, h5.trans hM⟩)); simp only [Act.put, List.setIfInBounds_toArray, List.set_cons_zero, List.set_cons_succ]
        apply Ph.wpPh_q (Ph.S3_mono (Two.mono _ _ _ _ _ _ _ _) (Two.mono _ _ _ _ _ _ _ _) (Two.mono _ _ _ _ _ _ _ _)) 2 2 rfl rfl; (focus (intro k0 hk1 hk2 w1 hS0; go_simp; first | exact rfl | exact ⟨rfl, Below.refl _ _⟩ | exact Below.refl _ _)); simp only [Act.put, List.setIfInBounds_toArray, List.set_cons_zero, List.set_cons_succ]
        refine Ph.wpPh_nil ?_; intro w2 hC
        refine Ph.at_end (by simp) ?_
        obtain ⟨c4, n1, n2, _, _, n3⟩ := hC
        go_wp2
        refine Ph.region_at (by kernel_rfl) ?_
        refine Ph.at_quiet 23 (by kernel_rfl) ?_
        simp only [List.take_succ_cons, List.take_zero, List.drop_succ_cons, List.drop_zero]
        repeat ((first | (apply Ph.wpPh_g; (focus (intro w1 hS0; have hbq := below_call (below_drew (Below.refl _ _)) hS0; have j1 := n1.below hbq; have j2 := n2.below hbq; have cv := hp_cell j2.blk.hp; go_simp; first | exact rfl | exact ⟨rfl, Below.refl _ _⟩ | ((go_at_call 23; refine (rd_err _ 1 _ _ _ _ j1).mono ?_; rintro e w' ⟨rfl, rfl⟩; exact ⟨rfl, Below.refl _ _⟩)) | ((go_at_call 14; refine (rd_at _ 1 _ _ _ _ j1).mono ?_; rintro e w' ⟨rfl, rfl⟩; exact ⟨rfl, Below.refl _ _⟩)) | ((go_at_call 15; refine (rd_end _ 1 _ _ _ _ j1).mono ?_; rintro e w' ⟨rfl, nq, rfl⟩; exact ⟨rfl, below_drewN (Below.refl _ _) nq⟩)) | ((go_at_call 24; refine (rr_end _ 2 _ _ _ _ j2).mono ?_; rintro e w' ⟨rfl, nq, rfl⟩; exact ⟨rfl, below_drewN (Below.refl _ _) nq⟩)))))); simp only [Act.put, List.setIfInBounds_toArray, List.set_cons_zero, List.set_cons_succ])
        refine Ph.wpPh_nil ?_; intro w8 hS8
        refine Ph.at_end (by simp) ?_
        have hbw := below_call (below_drew (Below.refl _ _)) hS8
        have k1 := n1.below hbw; have k2 := n2.below hbw; have k3 := n3.after_below hbw
        clear n1 n2 n3 hbw hS8
        go_wp2
        go_roundw
        case rel => exact ⟨k + 1, _, _, by go_num, by omega, k1, k2, k3⟩
        case measure => simp [intOf]; omega
      · have n1 := g1; have n2 := g2; have n3 := g5
        go_wp2
        clear g1 g2 g3 g4 g5 hA0 cx
        refine Ph.region_at (by kernel_rfl) ?_
        refine Ph.at_quiet 23 (by kernel_rfl) ?_
        simp only [List.take_succ_cons, List.take_zero, List.drop_succ_cons, List.drop_zero]
        repeat ((first | (apply Ph.wpPh_g; (focus (intro w1 hS0; have hbq := below_call (below_drew (Below.refl _ _)) hS0; have j1 := n1.below hbq; have j2 := n2.below hbq; have cv := hp_cell j2.blk.hp; go_simp; first | exact rfl | exact ⟨rfl, Below.refl _ _⟩ | ((go_at_call 23; refine (rd_err _ 1 _ _ _ _ j1).mono ?_; rintro e w' ⟨rfl, rfl⟩; exact ⟨rfl, Below.refl _ _⟩)) | ((go_at_call 14; refine (rd_at _ 1 _ _ _ _ j1).mono ?_; rintro e w' ⟨rfl, rfl⟩; exact ⟨rfl, Below.refl _ _⟩)) | ((go_at_call 15; refine (rd_end _ 1 _ _ _ _ j1).mono ?_; rintro e w' ⟨rfl, nq, rfl⟩; exact ⟨rfl, below_drewN (Below.refl _ _) nq⟩)) | ((go_at_call 24; refine (rr_end _ 2 _ _ _ _ j2).mono ?_; rintro e w' ⟨rfl, nq, rfl⟩; exact ⟨rfl, below_drewN (Below.refl _ _) nq⟩)))))); simp only [Act.put, List.setIfInBounds_toArray, List.set_cons_zero, List.set_cons_succ])
        refine Ph.wpPh_nil ?_; intro w8 hS8
        refine Ph.at_end (by simp) ?_
        have hbw := below_call (below_drew (Below.refl _ _)) hS8
        have k1 := n1.below hbw; have k2 := n2.below hbw; have k3 := n3.after_below hbw
        clear n1 n2 n3 hbw hS8
        go_wp2
        go_roundw
        case rel => exact ⟨k + 1, _, _, by go_num, by omega, k1, k2, k3⟩
        case measure => simp [intOf]; omega
    · have hkn : k = l.length := by omega
      clear hlt hk
      subst hkn
      go_wp2_with (first | (go_at_call 15; refine (rd_end _ 1 _ _ _ _ h1).mono ?_; rintro e w6 ⟨rfl, nq, rfl⟩; have h3 := h2.below (below_drewN (Below.refl _ _) nq)) | (go_at_call 24; refine (rr_end _ 2 _ _ _ _ h3).mono ?_; rintro e w5 ⟨rfl, nr, rfl⟩))
      go_ret
      exact ⟨rfl, below_drewN hbw _⟩
end Go.Proofs.Ytineekhpbglnhaa
