/- A thing written; WireNone. -/
import Derived.Test.YtineekhpbglnhaaWl
import Derived.WalkKit
import Derived.WalkLawsBesides
import Derived.WalkSpells
import Derived.Below
import Derived.Deep.RegionHeld3
import Derived.Deep.QuietTactic
import Derived.BigQuiet
import Derived.Deep.DeepCutAuto
import Derived.Deep.DeepMust
import Derived.KernelRfl
import Derived.Lib.Hide
import Derived.Outline
import Derived.RegionTactic
import Derived.StillTailTactics
import Derived.Laws.IdiomStrings
namespace Go.Proofs.Ytineekhpbglnhaa
open Go.RowKit Go.Cl
set_option maxRecDepth 100000
set_option linter.unusedVariables false
set_option linter.unusedSimpArgs false

open Go.Wr
theorem put_nil (w : World) (K N M : Int) (S : ByteArray) (hK0 : 0 ≤ K) (hK1 : K < 256) :
    Calls Try.prog 16 #[.pointer none, .agg #[.int .u8 K, .int .i64 N, .string S, .int .i64 M]] w fun e w' => e = .returned (.tuple #[]) ∧ Below w.heap.size w w' := by
  have HA := below_alloc (Below.refl w.heap.size w) (.cells #[.int .u8 K, .int .i64 N, .string S, .int .i64 M] 43)
  have hk : K % 4 = 0 ∨ K % 4 = 1 ∨ K % 4 = 2 ∨ K % 4 = 3 := by omega
  rcases hk with h | h | h | h
  all_goals
    go_enter Try.func16, Try.ntmps16
    go_wp2_with (first | (go_at_call 10; refine (wr_num_nil _ _).mono ?_; rintro e w' ⟨rfl, rfl⟩) | (go_at_call 27; refine (wr_bool_nil _ _).mono ?_; rintro e w' ⟨rfl, rfl⟩) | (go_at_call 28; refine (wr_text_nil _ _).mono ?_; rintro e w' ⟨rfl, rfl⟩))
    refine bodyPost_end (results_none rfl _ _ _) rfl ?_
    exact ⟨rfl, HA⟩
def thing (K N : Int) (S : ByteArray) (M : Int) : Thing := ⟨K, N, S.data.toList, M⟩
section
variable {SS : List Nat} (col : Nat → Nat) (i : Nat) (hi : i ∈ SS)
include hi
theorem put_ok (w : World) (b : Nat) (L : List UInt8) (HW : Wri col i w b L) (K N M : Int) (S : ByteArray) (hK0 : 0 ≤ K) (hK1 : K < 256) (n1 : -9223372036854775808 ≤ N) (n2 : N ≤ 9223372036854775807) (hS : S.size ≤ maxLen)
    (hs : L.length + (enc (thing K N S M)).length ≤ 140737488355328) :
    Calls Try.prog 16 #[.pointer (some ⟨b, 0, none⟩), .agg #[.int .u8 K, .int .i64 N, .string S, .int .i64 M]] w fun e w' => ∃ c, e = .returned (.tuple #[]) ∧ Wri c i w' b (L ++ enc (thing K N S M)) ∧ Mv SS col w c w' := by
  have HA := below_alloc (Below.refl w.heap.size w) (.cells #[.int .u8 K, .int .i64 N, .string S, .int .i64 M] 43)
  have hW := HW.below HA
  have hk : K % 4 = 0 ∨ K % 4 = 1 ∨ K % 4 = 2 ∨ K % 4 = 3 := by omega
  have N1 := Lib.hid n1; have N2 := Lib.hid n2; have HS := Lib.hid hS
  clear n1 n2 hS HW
  rcases hk with h | h | h | h
  · rw [enc_0 (o := thing K N S M) h] at hs ⊢
    simp only [thing] at hs ⊢
    have HL := Lib.hid hs; clear hs
    go_enter Try.func16, Try.ntmps16
    go_wp2_with fail
    refine (wn_num (S := SS) col i hi _ b L hW N N1.out N2.out HL.out).mono ?_; rintro e w1 ⟨c, rfl, h1, m1⟩
    go_wp2
    refine bodyPost_end (results_none rfl _ _ _) rfl ?_
    exact ⟨c, rfl, h1, (Mv.of_below HA).trans m1⟩
  · rw [enc_1 (o := thing K N S M) h] at hs ⊢
    simp only [thing] at hs ⊢
    have hb1 : (bol (bit N)).length = 1 := by unfold bol; split <;> rfl
    rw [hb1] at hs
    have HL := Lib.hid hs; clear hs hb1
    have ha := and_i1 N
    go_enter Try.func16, Try.ntmps16
    go_wp2_with fail
    refine (wn_bool (S := SS) col i hi _ b L hW (bit N) HL.out).mono ?_; rintro e w1 ⟨c, rfl, h1, m1⟩
    go_wp2
    refine bodyPost_end (results_none rfl _ _ _) rfl ?_
    exact ⟨c, rfl, h1, (Mv.of_below HA).trans m1⟩
  · rw [enc_2 (o := thing K N S M) h] at hs ⊢
    simp only [thing] at hs ⊢
    have HL := Lib.hid hs; clear hs
    go_enter Try.func16, Try.ntmps16
    go_wp2_with fail
    refine (wn_text (S := SS) col i hi _ b L hW S HS.out HL.out).mono ?_; rintro e w1 ⟨c, rfl, h1, m1⟩
    go_wp2
    refine bodyPost_end (results_none rfl _ _ _) rfl ?_
    exact ⟨c, rfl, h1, (Mv.of_below HA).trans m1⟩
  · rw [enc_3 (o := thing K N S M) h]
    clear hs
    go_enter Try.func16, Try.ntmps16
    go_wp2
    refine bodyPost_end (results_none rfl _ _ _) rfl ?_
    rw [List.append_nil]
    exact ⟨col, rfl, hW, Mv.of_below HA⟩
end
set_option maxHeartbeats 1000000 in
theorem wireNone (w : World) (K N M : Int) (S : ByteArray) (hK0 : 0 ≤ K) (hK1 : K < 256) :
    Calls Try.prog 8 #[.agg #[.int .u8 K, .int .i64 N, .string S, .int .i64 M]] w fun e w' => e = .returned (.bool true) ∧ Below w.heap.size w w' := by
  have HA := below_alloc (Below.refl w.heap.size w) (.cells #[.int .u8 K, .int .i64 N, .string S, .int .i64 M] 43)
  have hx := hp_alloc_new w (.cells #[.int .u8 K, .int .i64 N, .string S, .int .i64 M] 43)
  go_enter Try.func8, Try.ntmps8
  go_wp2_with fail
  refine (fixed_true _).mono ?_; rintro e w0 ⟨rfl, hb0⟩
  have hb1 := below_call HA hb0
  replace hx := hp_below hb0 hx
  have cx := hp_cell hx
  clear HA hb0
  go_wp2_with fail
  refine (put_nil _ K N M S hK0 hK1).mono ?_; rintro e w1 ⟨rfl, hb2⟩
  replace hx := hp_below hb2 hx
  replace hb2 := below_call hb1 hb2
  clear hb1 cx
  have hx2 := hp_alloc_old hx (.cells #[.string ⟨#[]⟩, .int .i64 0, .int .i64 0] 60)
  have cx := hp_cell hx2
  have hz : Rds 60 (paint zc w1 2) 2 (w1.alloc (.cells #[.string ⟨#[]⟩, .int .i64 0, .int .i64 0] 60)) w1.heap.size ⟨#[]⟩ ⟨0, 0⟩ := ⟨⟨hp_alloc_new w1 _, paint_new (Nat.le_refl _)⟩, ⟨Nat.zero_le _, .inl rfl⟩, Nat.zero_le _⟩
  have m0 : Mv [1, 2] zc w1 (paint zc w1 2) (w1.alloc (.cells #[.string ⟨#[]⟩, .int .i64 0, .int .i64 0] 60)) := (Ch.refl.alloc _).mv' (by simp)
  go_wp2_with (first | (go_at_call 12; refine (wr_data_nil _).mono ?_; rintro e w' ⟨rfl, rfl⟩) | (go_at_call 13; refine (nil_num _).mono ?_; rintro e w' ⟨rfl, rfl⟩) | (go_at_call 19; refine (nil_bool _).mono ?_; rintro e w' ⟨rfl, rfl⟩) | (go_at_call 21; refine (nil_text _ _).mono ?_; rintro e w' ⟨rfl, rfl⟩) | (go_at_call 15; ((with_reducible refine (nil_end _).mono ?_); rintro e w' ⟨rfl, rfl⟩)) | (go_at_call 23; ((with_reducible refine (nil_err _).mono ?_); rintro e w' ⟨rfl, rfl⟩)) | (go_at_call 14; refine (nil_at _).mono ?_; rintro e w' ⟨rfl, rfl⟩))
  refine (rd_end _ 2 _ _ _ _ hz).mono ?_; rintro e w3 ⟨rfl, nq, rfl⟩
  have e6 : rEnd (⟨#[]⟩ : ByteArray).data.toList ⟨0, 0⟩ = 0 := by kernel_rfl
  rw [e6]
  have hb6 := below_drewN (Below.refl (w1.alloc (.cells #[.string ⟨#[]⟩, .int .i64 0, .int .i64 0] 60)).heap.size (w1.alloc (.cells #[.string ⟨#[]⟩, .int .i64 0, .int .i64 0] 60))) nq
  have h3 := hz.below hb6
  have m3 := m0.after_below hb6
  clear e6 hz m0 cx hx2 hx
  go_wp2_with fail
  refine (rn_num (S := [1, 2]) _ 2 (by simp) _ _ _ _ h3).mono ?_; rintro e w4 ⟨k4, rfl, h4, m4, _⟩
  have e4 : rNum (⟨#[]⟩ : ByteArray).data.toList ⟨0, 0⟩ = (0, ⟨0, 10⟩) := by kernel_rfl
  rw [e4] at h4 ⊢
  replace m4 := m3.trans m4
  clear e4 h3 m3 hb6
  go_wp2_with fail
  refine (rd_err _ 2 _ _ _ _ h4).mono ?_; rintro e w5 ⟨rfl, rfl⟩
  go_wp2
  go_ret
  exact ⟨rfl, below_call hb2 (m4.toBelow (zc0 w1))⟩
end Go.Proofs.Ytineekhpbglnhaa
