/- A thing read. -/
import Derived.Test.YtineekhpbglnhaaWt
import Derived.WalkKit
import Derived.WalkLawsBesides
import Derived.WalkSpells
import Derived.Below
import Derived.Deep.RegionHeld3
import Derived.Deep.QuietTactic
import Derived.BigQuiet
import Derived.Deep.DeepCutAuto
import Derived.Deep.DeepMust
import Derived.KernelRfl
import Derived.Lib.Hide
import Derived.Outline
import Derived.RegionTactic
import Derived.StillTailTactics
import Derived.Laws.IdiomStrings
namespace Go.Proofs.Ytineekhpbglnhaa
open Go.RowKit Go.Cl
set_option maxRecDepth 100000
set_option linter.unusedVariables false
set_option linter.unusedSimpArgs false

open Go.Wr Go.Rdr
theorem bit_eq (N : Int) : bit N = (N % 2 == 1) := by
  unfold bit; rw [Bool.eq_iff_iff]; simp
/-- A reader and a box beside it. -/
def RdS (i b bx : Nat) (SS : List Nat) (w : World) (col : Nat → Nat) (s : ByteArray) (cs : Array Value) (t : St) (W : World) : Prop :=
  ∃ c, Rds 60 c i W b s t ∧ hp W bx = some (.cells cs 43 (0, 0)) ∧ c bx ≠ i ∧ Mv SS col w c W
theorem RdS.mono (i b bx : Nat) (SS : List Nat) (w : World) (col : Nat → Nat) (s : ByteArray) (cs : Array Value) (t : St) : Ph.Mono1 (RdS i b bx SS w col s cs t) :=
  fun a a' ⟨c, h1, h2, h3, h4⟩ hb => ⟨c, h1.below hb, hp_below hb h2, h3, h4.after_below hb⟩
/-- What reading one thing gives: a truth, which is yes if it is read as it was written. -/
def ReadGives (i b : Nat) (SS : List Nat) (w : World) (col : Nat → Nat) (s : ByteArray) (o : Thing) (t : St) (e : Ending) (w' : World) : Prop :=
  ∃ c x, e = .returned (.bool x) ∧ (right s.data.toList o t → x = true) ∧ Rds 60 c i w' b s (after s.data.toList o t) ∧ Mv SS col w c w'
set_option maxHeartbeats 1000000 in
theorem read_ok (SS : List Nat) (col : Nat → Nat) (i : Nat) (hi : i ∈ SS) (hi0 : i ≠ 0) (w : World) (b : Nat) (s : ByteArray) (t : St) (h : Rds 60 col i w b s t) (K N M : Int) (S : ByteArray) (hK0 : 0 ≤ K) (hK1 : K < 256) :
    Calls Try.prog 26 #[.pointer (some ⟨b, 0, none⟩), .agg #[.int .u8 K, .int .i64 N, .string S, .int .i64 M]] w (ReadGives i b SS w col s (thing K N S M) t) := by
  have HB := below_alloc (Below.refl w.heap.size w) (.cells #[.int .u8 K, .int .i64 N, .string S, .int .i64 M] 43)
  have hA0 : RdS i b w.heap.size SS w col s #[.int .u8 K, .int .i64 N, .string S, .int .i64 M] t (w.alloc (.cells #[.int .u8 K, .int .i64 N, .string S, .int .i64 M] 43)) :=
    ⟨paint col w 0, h.kept (Mv.new (S := []) HB 0) (by simp), hp_alloc_new w _, by rw [paint_new (Nat.le_refl _)]; exact fun e => hi0 e.symm, Mv.new HB 0⟩
  generalize hbx : w.heap.size = bx at hA0
  have HBX := Lib.hid hbx
  have hk : K % 4 = 0 ∨ K % 4 = 1 ∨ K % 4 = 2 ∨ K % 4 = 3 := by omega
  have HSL : Hid (S.data.toList.length = S.size) := Lib.hid (by simp)
  clear h HB hbx
  rcases hk with h | h | h | h
  · go_enter Try.func26, Try.ntmps26
    go_upto_region 1 with fail
    rw [show w.heap.size = bx from HBX.out]
    refine Ph.at_world ?_; intro W0 hW
    rw [← hW] at hA0
    clear hW
    obtain ⟨c0, h1, h2, h3, h4⟩ := id hA0
    have cx := hp_cell h2
    go_wp2
    clear cx h1 h2 h3 h4
    refine Ph.region_at (by kernel_rfl) ?_
    refine Ph.at_stage 6 (fun i => if i < 0 then (0, 100, 0) else ([(0, 0, 0), (0, 0, 1), (0, 1, 0), (0, 1, 0), (1, 1, 0), (1, 1, 0)] : List (Nat × Nat × Nat)).getD (i - 0) (0, 0, 0)) (Ph.S2 (RdS i b bx SS w col s #[.int .u8 K, .int .i64 N, .string S, .int .i64 M] t) (RdS i b bx SS w col s #[.int .u8 K, .int .i64 N, .string S, .int .i64 M] (rNum s.data.toList t).2)) (by kernel_rfl) (by kernel_rfl) (RdS.mono _ _ _ _ _ _ _ _ _ _ _ hA0 (below_drew (Below.refl _ _))) ?_
    simp only [List.take_succ_cons, List.take_zero, List.drop_succ_cons, List.drop_zero]
    apply Ph.wpPh_q (Ph.S2_mono (RdS.mono _ _ _ _ _ _ _ _ _) (RdS.mono _ _ _ _ _ _ _ _ _)) 0 0 rfl rfl; (focus (intro k0 hk1 hk2 w1 hS0; go_simp; first | exact rfl | exact ⟨rfl, Below.refl _ _⟩ | exact Below.refl _ _)); simp only [Act.put, List.setIfInBounds_toArray, List.set_cons_zero, List.set_cons_succ]
    apply Ph.wpPh_e 0 rfl rfl; (focus (intro w1 hS0; obtain ⟨c, h1, h2, h3, h4⟩ := hS0; go_simp; refine (rn_num (S := SS) c i hi w1 b s t h1).mono ?_; rintro e w2 ⟨c2, rfl, hR, hM, hM2⟩; exact ⟨rfl, c2, hR, hp_mv h2 hM2 (by simpa using h3), by rw [hM2.col _ (hp_lt h2)]; exact h3, h4.trans hM⟩)); simp only [Act.put, List.setIfInBounds_toArray, List.set_cons_zero, List.set_cons_succ]
    apply Ph.wpPh_q (Ph.S2_mono (RdS.mono _ _ _ _ _ _ _ _ _) (RdS.mono _ _ _ _ _ _ _ _ _)) 0 1 rfl rfl; (focus (intro k0 hk1 hk2 w1 hS0; go_simp; first | exact rfl | exact ⟨rfl, Below.refl _ _⟩ | exact Below.refl _ _)); simp only [Act.put, List.setIfInBounds_toArray, List.set_cons_zero, List.set_cons_succ]
    apply Ph.wpPh_q (Ph.S2_mono (RdS.mono _ _ _ _ _ _ _ _ _) (RdS.mono _ _ _ _ _ _ _ _ _)) 0 1 rfl rfl; (focus (intro k0 hk1 hk2 w1 hS0; (rcases (by omega : k0 = 0 ∨ k0 = 1) with rfl | rfl) <;> (obtain ⟨c, h1, h2, h3, h4⟩ : ∃ c, _ ∧ hp w1 bx = some (.cells #[.int .u8 K, .int .i64 N, .string S, .int .i64 M] 43 (0, 0)) ∧ _ ∧ _ := hS0; have cx := hp_cell h2; go_simp; first | exact rfl | exact ⟨rfl, Below.refl _ _⟩ | exact Below.refl _ _))); simp only [Act.put, List.setIfInBounds_toArray, List.set_cons_zero, List.set_cons_succ]
    apply Ph.wpPh_q (Ph.S2_mono (RdS.mono _ _ _ _ _ _ _ _ _) (RdS.mono _ _ _ _ _ _ _ _ _)) 1 1 rfl rfl; (focus (intro k0 hk1 hk2 w1 hS0; go_simp; first | exact rfl | exact ⟨rfl, Below.refl _ _⟩ | exact Below.refl _ _)); simp only [Act.put, List.setIfInBounds_toArray, List.set_cons_zero, List.set_cons_succ]
    apply Ph.wpPh_q (Ph.S2_mono (RdS.mono _ _ _ _ _ _ _ _ _) (RdS.mono _ _ _ _ _ _ _ _ _)) 1 1 rfl rfl; (focus (intro k0 hk1 hk2 w1 hS0; go_simp; first | exact rfl | exact ⟨rfl, Below.refl _ _⟩ | exact Below.refl _ _)); simp only [Act.put, List.setIfInBounds_toArray, List.set_cons_zero, List.set_cons_succ]
    refine Ph.wpPh_nil ?_; intro w2 hC
    refine Ph.at_end (by simp) ?_
    go_wp2
    obtain ⟨c2, hR, _, _, hM⟩ := hC
    go_ret
    exact ⟨c2, _, rfl, fun hr => (by have e : (rNum s.data.toList t).1 = N := hr.1 h; rw [e]; simp), by rw [after_0 (o := thing K N S M) h]; exact hR, hM⟩
  · go_enter Try.func26, Try.ntmps26
    go_upto_region 1 with fail
    rw [show w.heap.size = bx from HBX.out]
    refine Ph.at_world ?_; intro W0 hW
    rw [← hW] at hA0
    clear hW
    obtain ⟨c0, h1, h2, h3, h4⟩ := id hA0
    have cx := hp_cell h2
    have ha := and_i1 N
    go_wp2
    clear cx h1 h2 h3 h4
    refine Ph.region_at (by kernel_rfl) ?_
    refine Ph.at_stage 8 (fun i => if i < 0 then (0, 100, 0) else ([(0, 0, 0), (0, 0, 1), (0, 1, 0), (0, 1, 0), (0, 1, 0), (0, 1, 0), (1, 1, 0), (1, 1, 0)] : List (Nat × Nat × Nat)).getD (i - 0) (0, 0, 0)) (Ph.S2 (RdS i b bx SS w col s #[.int .u8 K, .int .i64 N, .string S, .int .i64 M] t) (RdS i b bx SS w col s #[.int .u8 K, .int .i64 N, .string S, .int .i64 M] (rBool s.data.toList t).2)) (by kernel_rfl) (by kernel_rfl) (RdS.mono _ _ _ _ _ _ _ _ _ _ _ hA0 (below_drew (Below.refl _ _))) ?_
    simp only [List.take_succ_cons, List.take_zero, List.drop_succ_cons, List.drop_zero]
    apply Ph.wpPh_q (Ph.S2_mono (RdS.mono _ _ _ _ _ _ _ _ _) (RdS.mono _ _ _ _ _ _ _ _ _)) 0 0 rfl rfl; (focus (intro k0 hk1 hk2 w1 hS0; go_simp; first | exact rfl | exact ⟨rfl, Below.refl _ _⟩ | exact Below.refl _ _)); simp only [Act.put, List.setIfInBounds_toArray, List.set_cons_zero, List.set_cons_succ]
    apply Ph.wpPh_e 0 rfl rfl; (focus (intro w1 hS0; obtain ⟨c, h1, h2, h3, h4⟩ := hS0; go_simp; refine (rn_bool (S := SS) c i hi w1 b s t h1).mono ?_; rintro e w2 ⟨c2, rfl, hR, hM, hM2⟩; exact ⟨rfl, c2, hR, hp_mv h2 hM2 (by simpa using h3), by rw [hM2.col _ (hp_lt h2)]; exact h3, h4.trans hM⟩)); simp only [Act.put, List.setIfInBounds_toArray, List.set_cons_zero, List.set_cons_succ]
    apply Ph.wpPh_q (Ph.S2_mono (RdS.mono _ _ _ _ _ _ _ _ _) (RdS.mono _ _ _ _ _ _ _ _ _)) 0 1 rfl rfl; (focus (intro k0 hk1 hk2 w1 hS0; go_simp; first | exact rfl | exact ⟨rfl, Below.refl _ _⟩ | exact Below.refl _ _)); simp only [Act.put, List.setIfInBounds_toArray, List.set_cons_zero, List.set_cons_succ]
    apply Ph.wpPh_q (Ph.S2_mono (RdS.mono _ _ _ _ _ _ _ _ _) (RdS.mono _ _ _ _ _ _ _ _ _)) 0 1 rfl rfl; (focus (intro k0 hk1 hk2 w1 hS0; (rcases (by omega : k0 = 0 ∨ k0 = 1) with rfl | rfl) <;> (obtain ⟨c, h1, h2, h3, h4⟩ : ∃ c, _ ∧ hp w1 bx = some (.cells #[.int .u8 K, .int .i64 N, .string S, .int .i64 M] 43 (0, 0)) ∧ _ ∧ _ := hS0; have cx := hp_cell h2; go_simp; first | exact rfl | exact ⟨rfl, Below.refl _ _⟩ | exact Below.refl _ _))); simp only [Act.put, List.setIfInBounds_toArray, List.set_cons_zero, List.set_cons_succ]
    apply Ph.wpPh_q (Ph.S2_mono (RdS.mono _ _ _ _ _ _ _ _ _) (RdS.mono _ _ _ _ _ _ _ _ _)) 0 1 rfl rfl; (focus (intro k0 hk1 hk2 w1 hS0; go_simp; first | exact rfl | exact ⟨rfl, Below.refl _ _⟩ | exact Below.refl _ _)); simp only [Act.put, List.setIfInBounds_toArray, List.set_cons_zero, List.set_cons_succ]
    apply Ph.wpPh_q (Ph.S2_mono (RdS.mono _ _ _ _ _ _ _ _ _) (RdS.mono _ _ _ _ _ _ _ _ _)) 0 1 rfl rfl; (focus (intro k0 hk1 hk2 w1 hS0; go_simp; first | exact rfl | exact ⟨rfl, Below.refl _ _⟩ | exact Below.refl _ _)); simp only [Act.put, List.setIfInBounds_toArray, List.set_cons_zero, List.set_cons_succ]
    apply Ph.wpPh_q (Ph.S2_mono (RdS.mono _ _ _ _ _ _ _ _ _) (RdS.mono _ _ _ _ _ _ _ _ _)) 1 1 rfl rfl; (focus (intro k0 hk1 hk2 w1 hS0; go_simp; first | exact rfl | exact ⟨rfl, Below.refl _ _⟩ | exact Below.refl _ _)); simp only [Act.put, List.setIfInBounds_toArray, List.set_cons_zero, List.set_cons_succ]
    apply Ph.wpPh_q (Ph.S2_mono (RdS.mono _ _ _ _ _ _ _ _ _) (RdS.mono _ _ _ _ _ _ _ _ _)) 1 1 rfl rfl; (focus (intro k0 hk1 hk2 w1 hS0; go_simp; first | exact rfl | exact ⟨rfl, Below.refl _ _⟩ | exact Below.refl _ _)); simp only [Act.put, List.setIfInBounds_toArray, List.set_cons_zero, List.set_cons_succ]
    refine Ph.wpPh_nil ?_; intro w2 hC
    refine Ph.at_end (by simp) ?_
    go_wp2
    obtain ⟨c2, hR, _, _, hM⟩ := hC
    go_ret
    exact ⟨c2, _, rfl, fun hr => (by have e : (rBool s.data.toList t).1 = bit N := hr.2.1 h; rw [e, bit_eq]; simp), by rw [after_1 (o := thing K N S M) h]; exact hR, hM⟩
  · go_enter Try.func26, Try.ntmps26
    go_upto_region 1 with fail
    rw [show w.heap.size = bx from HBX.out]
    refine Ph.at_world ?_; intro W0 hW
    rw [← hW] at hA0
    clear hW
    obtain ⟨c0, h1, h2, h3, h4⟩ := id hA0
    have cx := hp_cell h2
    go_wp2
    clear cx h1 h2 h3 h4
    refine Ph.region_at (by kernel_rfl) ?_
    refine Ph.at_stage 9 (fun i => if i < 0 then (0, 100, 0) else ([(0, 0, 0), (0, 0, 0), (0, 0, 0), (0, 0, 0), (0, 0, 1), (0, 1, 0), (0, 1, 0), (1, 1, 0), (1, 1, 0)] : List (Nat × Nat × Nat)).getD (i - 0) (0, 0, 0)) (Ph.S2 (RdS i b bx SS w col s #[.int .u8 K, .int .i64 N, .string S, .int .i64 M] t) (RdS i b bx SS w col s #[.int .u8 K, .int .i64 N, .string S, .int .i64 M] (rText s.data.toList S.size t).2)) (by kernel_rfl) (by kernel_rfl) (RdS.mono _ _ _ _ _ _ _ _ _ _ _ hA0 (below_drew (Below.refl _ _))) ?_
    simp only [List.take_succ_cons, List.take_zero, List.drop_succ_cons, List.drop_zero]
    apply Ph.wpPh_q (Ph.S2_mono (RdS.mono _ _ _ _ _ _ _ _ _) (RdS.mono _ _ _ _ _ _ _ _ _)) 0 0 rfl rfl; (focus (intro k0 hk1 hk2 w1 hS0; go_simp; first | exact rfl | exact ⟨rfl, Below.refl _ _⟩ | exact Below.refl _ _)); simp only [Act.put, List.setIfInBounds_toArray, List.set_cons_zero, List.set_cons_succ]
    apply Ph.wpPh_q (Ph.S2_mono (RdS.mono _ _ _ _ _ _ _ _ _) (RdS.mono _ _ _ _ _ _ _ _ _)) 0 0 rfl rfl; (focus (intro k0 hk1 hk2 w1 hS0; go_simp; first | exact rfl | exact ⟨rfl, Below.refl _ _⟩ | exact Below.refl _ _)); simp only [Act.put, List.setIfInBounds_toArray, List.set_cons_zero, List.set_cons_succ]
    apply Ph.wpPh_q (Ph.S2_mono (RdS.mono _ _ _ _ _ _ _ _ _) (RdS.mono _ _ _ _ _ _ _ _ _)) 0 0 rfl rfl; (focus (intro k0 hk1 hk2 w1 hS0; obtain rfl : k0 = 0 := Nat.le_antisymm hk2 hk1; obtain ⟨c, h1, h2, h3, h4⟩ : ∃ c, _ ∧ hp w1 bx = some (.cells #[.int .u8 K, .int .i64 N, .string S, .int .i64 M] 43 (0, 0)) ∧ _ ∧ _ := hS0; have cx := hp_cell h2; go_simp; first | exact rfl | exact ⟨rfl, Below.refl _ _⟩ | exact Below.refl _ _)); simp only [Act.put, List.setIfInBounds_toArray, List.set_cons_zero, List.set_cons_succ]
    apply Ph.wpPh_q (Ph.S2_mono (RdS.mono _ _ _ _ _ _ _ _ _) (RdS.mono _ _ _ _ _ _ _ _ _)) 0 0 rfl rfl; (focus (intro k0 hk1 hk2 w1 hS0; go_simp; first | exact rfl | exact ⟨rfl, Below.refl _ _⟩ | exact Below.refl _ _)); simp only [Act.put, List.setIfInBounds_toArray, List.set_cons_zero, List.set_cons_succ]
    apply Ph.wpPh_e 0 rfl rfl; (focus (intro w1 hS0; obtain ⟨c, h1, h2, h3, h4⟩ := hS0; go_simp; refine (rn_text (S := SS) c i hi w1 b s t h1 S.size).mono ?_; rintro e w2 ⟨c2, rfl, hR, hM, hM2⟩; exact ⟨rfl, c2, hR, hp_mv h2 hM2 (by simpa using h3), by rw [hM2.col _ (hp_lt h2)]; exact h3, h4.trans hM⟩)); simp only [Act.put, List.setIfInBounds_toArray, List.set_cons_zero, List.set_cons_succ]
    apply Ph.wpPh_q (Ph.S2_mono (RdS.mono _ _ _ _ _ _ _ _ _) (RdS.mono _ _ _ _ _ _ _ _ _)) 0 1 rfl rfl; (focus (intro k0 hk1 hk2 w1 hS0; go_simp; first | exact rfl | exact ⟨rfl, Below.refl _ _⟩ | exact Below.refl _ _)); simp only [Act.put, List.setIfInBounds_toArray, List.set_cons_zero, List.set_cons_succ]
    apply Ph.wpPh_q (Ph.S2_mono (RdS.mono _ _ _ _ _ _ _ _ _) (RdS.mono _ _ _ _ _ _ _ _ _)) 0 1 rfl rfl; (focus (intro k0 hk1 hk2 w1 hS0; (rcases (by omega : k0 = 0 ∨ k0 = 1) with rfl | rfl) <;> (obtain ⟨c, h1, h2, h3, h4⟩ : ∃ c, _ ∧ hp w1 bx = some (.cells #[.int .u8 K, .int .i64 N, .string S, .int .i64 M] 43 (0, 0)) ∧ _ ∧ _ := hS0; have cx := hp_cell h2; go_simp; first | exact rfl | exact ⟨rfl, Below.refl _ _⟩ | exact Below.refl _ _))); simp only [Act.put, List.setIfInBounds_toArray, List.set_cons_zero, List.set_cons_succ]
    apply Ph.wpPh_q (Ph.S2_mono (RdS.mono _ _ _ _ _ _ _ _ _) (RdS.mono _ _ _ _ _ _ _ _ _)) 1 1 rfl rfl; (focus (intro k0 hk1 hk2 w1 hS0; go_simp; first | exact rfl | exact ⟨rfl, Below.refl _ _⟩ | exact Below.refl _ _)); simp only [Act.put, List.setIfInBounds_toArray, List.set_cons_zero, List.set_cons_succ]
    apply Ph.wpPh_q (Ph.S2_mono (RdS.mono _ _ _ _ _ _ _ _ _) (RdS.mono _ _ _ _ _ _ _ _ _)) 1 1 rfl rfl; (focus (intro k0 hk1 hk2 w1 hS0; go_simp; first | exact rfl | exact ⟨rfl, Below.refl _ _⟩ | exact Below.refl _ _)); simp only [Act.put, List.setIfInBounds_toArray, List.set_cons_zero, List.set_cons_succ]
    refine Ph.wpPh_nil ?_; intro w2 hC
    refine Ph.at_end (by simp) ?_
    go_wp2
    obtain ⟨c2, hR, _, _, hM⟩ := hC
    go_ret
    exact ⟨c2, _, rfl, fun hr => (by have e : (rText s.data.toList ((S.data.toList.length : Nat) : Int) t).1 = S.data.toList := hr.2.2 h; rw [HSL.out] at e; rw [e]; simp [ByteArray.toList_eq]), by rw [after_2 (o := thing K N S M) h, show (thing K N S M).s.length = S.size from HSL.out]; exact hR, hM⟩
  · go_enter Try.func26, Try.ntmps26
    go_upto_region 1 with fail
    rw [show w.heap.size = bx from HBX.out]
    refine Ph.at_world ?_; intro W0 hW
    rw [← hW] at hA0
    clear hW
    obtain ⟨c0, h1, h2, h3, h4⟩ := id hA0
    have cx := hp_cell h2
    go_wp2
    go_ret
    exact ⟨c0, true, rfl, fun _ => rfl, by rw [after_3 (o := thing K N S M) h]; exact h1, h4⟩
end Go.Proofs.Ytineekhpbglnhaa
