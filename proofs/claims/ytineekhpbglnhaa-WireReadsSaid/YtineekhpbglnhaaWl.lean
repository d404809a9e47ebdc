/- What the document fixes. -/
import Derived.Test.YtineekhpbglnhaaWg2
import Derived.WalkKit
import Derived.WalkLawsBesides
import Derived.WalkSpells
import Derived.Below
import Derived.Deep.RegionHeld3
import Derived.Deep.QuietTactic
import Derived.BigQuiet
import Derived.Deep.DeepCutAuto
import Derived.Deep.DeepMust
import Derived.KernelRfl
import Derived.Lib.Hide
import Derived.Outline
import Derived.RegionTactic
import Derived.StillTailTactics
import Derived.Laws.IdiomStrings
namespace Go.Proofs.Ytineekhpbglnhaa
open Go.RowKit Go.Cl
set_option maxRecDepth 100000
set_option linter.unusedVariables false
set_option linter.unusedSimpArgs false

open Go.Wr
theorem n64 : num (zz 64) = [128, 1] := by
  have e : zz 64 = 128 := by decide
  rw [e, num_hi (by decide), num_lo (by decide)]; rfl
theorem t_hi : txt [104, 105] = [4, 104, 105] := by
  unfold txt
  have e : zz (([104, 105] : List UInt8).length : Int) = 4 := by decide
  rw [e, num_lo (by decide)]; rfl

section
variable {S : List Nat} (col : Nat → Nat) (i : Nat) (hi : i ∈ S)
include hi
theorem wn_num (w : World) (b : Nat) (L : List UInt8) (HW : Wri col i w b L) (n : Int) (n1 : -9223372036854775808 ≤ n) (n2 : n ≤ 9223372036854775807) (hs : L.length + (num (zz n)).length ≤ 140737488355328) :
    Calls Try.prog 10 #[.pointer (some ⟨b, 0, none⟩), .int .i64 n] w fun e w' => ∃ c, e = .returned (.tuple #[]) ∧ Wri c i w' b (L ++ num (zz n)) ∧ Mv S col w c w' := (wr_num col i w b L HW n n1 n2 hs).mono fun e w' ⟨a, b, c⟩ => ⟨_, a, b, c.mv' hi⟩
theorem wn_bool (w : World) (b : Nat) (L : List UInt8) (HW : Wri col i w b L) (x : Bool) (hs : L.length + 1 ≤ 140737488355328) :
    Calls Try.prog 27 #[.pointer (some ⟨b, 0, none⟩), .bool x] w fun e w' => ∃ c, e = .returned (.tuple #[]) ∧ Wri c i w' b (L ++ bol x) ∧ Mv S col w c w' := (wr_bool col i w b L HW x hs).mono fun e w' ⟨a, b, c⟩ => ⟨_, a, b, c.mv' hi⟩
theorem wn_text (w : World) (b : Nat) (L : List UInt8) (HW : Wri col i w b L) (s : ByteArray) (hs0 : s.size ≤ maxLen) (hs : L.length + (txt s.data.toList).length ≤ 140737488355328) :
    Calls Try.prog 28 #[.pointer (some ⟨b, 0, none⟩), .string s] w fun e w' => ∃ c, e = .returned (.tuple #[]) ∧ Wri c i w' b (L ++ txt s.data.toList) ∧ Mv S col w c w' := (wr_text col i w b L HW s hs0 hs).mono fun e w' ⟨a, b, c⟩ => ⟨_, a, b, c.mv' hi⟩
theorem rn_new (w : World) (s : ByteArray) (hs : s.size ≤ maxLen) :
    Calls Try.prog 11 #[.string s] w fun e w' => ∃ b c, e = .returned (.pointer (some ⟨b, 0, none⟩)) ∧ Rds 60 c i w' b s ⟨0, 0⟩ ∧ Mv S col w c w' ∧ Mv [i] col w c w' := (rd_new col i w s hs).mono fun e w' ⟨b, a, h, c⟩ => ⟨b, _, a, h, c.mv' hi, c.mv⟩
theorem rn_num (w : World) (b : Nat) (s : ByteArray) (t : St) (h : Rds 60 col i w b s t) :
    Calls Try.prog 13 #[.pointer (some ⟨b, 0, none⟩)] w fun e w' => ∃ c, e = .returned (.int .i64 (rNum s.data.toList t).1) ∧ Rds 60 c i w' b s (rNum s.data.toList t).2 ∧ Mv S col w c w' ∧ Mv [i] col w c w' := (rd_num col i w b s t h).mono fun e w' ⟨a, h, c⟩ => ⟨_, a, h, c.mv' hi, c.mv⟩
theorem rn_bool (w : World) (b : Nat) (s : ByteArray) (t : St) (h : Rds 60 col i w b s t) :
    Calls Try.prog 19 #[.pointer (some ⟨b, 0, none⟩)] w fun e w' => ∃ c, e = .returned (.bool (rBool s.data.toList t).1) ∧ Rds 60 c i w' b s (rBool s.data.toList t).2 ∧ Mv S col w c w' ∧ Mv [i] col w c w' := (rd_bool col i w b s t h).mono fun e w' ⟨a, h, c⟩ => ⟨_, a, h, c.mv' hi, c.mv⟩
theorem rn_text (w : World) (b : Nat) (s : ByteArray) (t : St) (h : Rds 60 col i w b s t) (most : Int) :
    Calls Try.prog 21 #[.pointer (some ⟨b, 0, none⟩), .int .i64 most] w fun e w' => ∃ c, e = .returned (.string ⟨(rText s.data.toList most t).1.toArray⟩) ∧ Rds 60 c i w' b s (rText s.data.toList most t).2 ∧ Mv S col w c w' ∧ Mv [i] col w c w' := (rd_text col i w b s t h most).mono fun e w' ⟨a, h, c⟩ => ⟨_, a, h, c.mv' hi, c.mv⟩
theorem wn_new (w : World) : ∃ c, Wri c i (w.alloc (.cells #[.slice none 0 0] 30)) w.heap.size [] ∧ Mv S col w c (w.alloc (.cells #[.slice none 0 0] 30)) :=
  ⟨paint col w i, ⟨_, ⟨hp_alloc_new w _, paint_new (Nat.le_refl _)⟩, Row.nil'⟩, (Ch.refl.alloc _).mv' hi⟩
end
theorem zc0 (w : World) : ∀ k, k < w.heap.size → zc k ∉ [1, 2] := fun k _ => by simp [zc]
set_option maxHeartbeats 1000000 in
theorem fixed_true (w : World) : Calls Try.prog 9 #[] w fun e w' => e = .returned (.bool true) ∧ Below w.heap.size w w' := by
  go_enter Try.func9, Try.ntmps9
  go_wp2_with fail
  obtain ⟨k0, h0, m0⟩ := wn_new (S := [1, 2]) zc 1 (by simp) w
  refine (wn_num (S := [1, 2]) k0 1 (by simp) _ _ [] h0 64 (by decide) (by decide) (by rw [n64]; decide)).mono ?_; rintro e w1 ⟨k1, rfl, h1, m1⟩
  rw [n64] at h1
  replace m1 := m0.trans m1
  clear h0 m0
  go_wp2_with fail
  refine (wn_text (S := [1, 2]) k1 1 (by simp) _ _ _ h1 ⟨#[104, 105]⟩ (by unfold maxLen; decide) (by rw [show (⟨#[104, 105]⟩ : ByteArray).data.toList = [104, 105] from rfl, t_hi]; decide)).mono ?_; rintro e w2 ⟨k2, rfl, h2, m2⟩
  rw [show (⟨#[104, 105]⟩ : ByteArray).data.toList = [104, 105] from rfl, t_hi] at h2
  replace m2 := m1.trans m2
  clear h1 m1
  go_wp2_with fail
  refine (rn_new (S := [1, 2]) k2 2 (by simp) _ ⟨#[128, 1, 4, 104, 105]⟩ (by unfold maxLen; decide)).mono ?_; rintro e w3 ⟨r, k3, rfl, h3, m3, m3'⟩
  replace m3 := m2.trans m3
  replace h2 := h2.kept m3' (by simp)
  clear m2 m3'
  go_wp2_with fail
  refine (wr_data _ 1 _ _ _ h2).mono ?_; rintro e w4 ⟨rfl, rfl⟩
  go_wp2_with fail
  refine (rn_num (S := [1, 2]) k3 2 (by simp) _ _ _ _ h3).mono ?_; rintro e w4 ⟨k4, rfl, h4, m4, _⟩
  have e4 : rNum (⟨#[128, 1, 4, 104, 105]⟩ : ByteArray).data.toList ⟨0, 0⟩ = (64, ⟨2, 0⟩) := by kernel_rfl
  rw [e4] at h4 ⊢
  replace m4 := m3.trans m4
  clear e4 h2 h3 m3
  go_wp2_with fail
  refine (rn_text (S := [1, 2]) k4 2 (by simp) _ _ _ _ h4 2).mono ?_; rintro e w5 ⟨k5, rfl, h5, m5, _⟩
  have e5 : rText (⟨#[128, 1, 4, 104, 105]⟩ : ByteArray).data.toList 2 ⟨2, 0⟩ = ([104, 105], ⟨5, 0⟩) := by kernel_rfl
  rw [e5] at h5 ⊢
  replace m5 := m4.trans m5
  clear e5 h4 m4
  go_wp2_with fail
  refine (rd_end _ 2 _ _ _ _ h5).mono ?_; rintro e w6 ⟨rfl, nq, rfl⟩
  have e6 : rEnd (⟨#[128, 1, 4, 104, 105]⟩ : ByteArray).data.toList ⟨5, 0⟩ = 0 := by kernel_rfl
  rw [e6]
  have hb6 := below_drewN (Below.refl w5.heap.size w5) nq
  replace h5 := h5.below hb6
  have m6 := m5.after_below hb6
  clear e6 hb6 m5
  go_wp2_with fail
  refine (rd_at _ 2 _ _ _ _ h5).mono ?_; rintro e w7 ⟨rfl, rfl⟩
  clear h5
  go_wp2
  go_ret
  exact ⟨rfl, m6.toBelow (zc0 w)⟩
end Go.Proofs.Ytineekhpbglnhaa
