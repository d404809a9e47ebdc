/- Recent: contracts of the ring's methods. -/
import Derived.Test.YtgacbfbjikjanaaRec
import Derived.WalkKit
import Derived.WalkLawsBesides
import Derived.WalkSpells
import Derived.Below
import Derived.Deep.RegionHeld3
import Derived.Deep.QuietTactic
import Derived.BigQuiet
import Derived.Deep.DeepCutAuto
import Derived.Deep.DeepMust
import Derived.KernelRfl
import Derived.Lib.Hide
import Derived.Outline
import Derived.RegionTactic
import Derived.StillTailTactics
namespace Go.Proofs.Ytgacbfbjikjanaa
open Go.RowKit Go.Cl
set_option maxRecDepth 100000
set_option linter.unusedVariables false
set_option linter.unusedSimpArgs false


theorem md (a R : Nat) (h : a < R + R) : a % R = if a < R then a else a - R := by
  split
  · exact Nat.mod_eq_of_lt ‹_›
  · rw [Nat.mod_eq_sub_mod (by omega), Nat.mod_eq_of_lt (by omega)]
theorem ring_room {X L : List Mk} {R F : Nat} (hX : X.length = R) (hF : F < R) (hL : ∀ k, k < L.length → X[(F + k) % R]? = L[k]?) (hn : L.length < R) (m : Mk) :
    ∀ k, k < (L ++ [m]).length → (X.set ((F + L.length) % R) m)[(F + k) % R]? = (L ++ [m])[k]? := by
  intro k hk
  simp only [List.length_append, List.length_cons, List.length_nil] at hk
  have e1 := md (F + k) R (by omega)
  have e2 := md (F + L.length) R (by omega)
  have hlt : (F + L.length) % R < R := Nat.mod_lt _ (by omega)
  rw [List.getElem?_set]
  by_cases h : k = L.length
  · subst h
    rw [if_pos rfl, if_pos (by omega)]; simp
  · have hne : ¬ ((F + L.length) % R = (F + k) % R) := by
      rw [e1, e2]; split <;> split <;> omega
    rw [if_neg hne, hL k (by omega), List.getElem?_append_left (by omega)]
theorem ring_full {X L : List Mk} {R F : Nat} {m0 : Mk} (hX : X.length = R) (hF : F < R) (hL : ∀ k, k < (m0 :: L).length → X[(F + k) % R]? = (m0 :: L)[k]?) (hn : L.length + 1 = R) (m : Mk) :
    ∀ k, k < (L ++ [m]).length → (X.set F m)[((F + 1) % R + k) % R]? = (L ++ [m])[k]? := by
  intro k hk
  simp only [List.length_append, List.length_cons, List.length_nil] at hk
  have e0 : ((F + 1) % R + k) % R = (F + (k + 1)) % R := by rw [Nat.mod_add_mod]; congr 1; omega
  rw [e0, List.getElem?_set]
  by_cases h : k = L.length
  · subst h
    have : (F + (L.length + 1)) % R = F := by rw [hn, Nat.add_mod_right]; exact Nat.mod_eq_of_lt hF
    rw [this, if_pos rfl, if_pos (by omega)]; simp
  · have e1 := md (F + (k + 1)) R (by omega)
    have hne : ¬ (F = (F + (k + 1)) % R) := by rw [e1]; split <;> omega
    rw [if_neg hne, hL (k + 1) (by simp; omega), List.getElem?_append_left (by omega)]; simp
theorem ring_back {R F : Nat} (hF : F < R) : ((F + 1) % R + (R - 1)) % R = F := by
  rw [Nat.mod_add_mod, show F + 1 + (R - 1) = F + R by omega, Nat.add_mod_right]; exact Nat.mod_eq_of_lt hF
theorem tmod_nat (a R : Nat) : ((a : Int)).tmod (R : Int) = ((a % R : Nat) : Int) := by
  rw [Int.tmod_eq_emod_of_nonneg (by omega)]; simp
theorem _root_.Go.Cl.Row.below' {col : Nat → Nat} {i : Nat} {w w' : World} {e s n : Nat} {v : Value} {xs : List Value} (h : Row col i w e s v n xs) (hb : Below w.heap.size w w') : Row col i w' e s v n xs := h.kept (Mv.of_below (S := []) (col := col) hb) (by simp)


theorem rc_put0 (col : Nat → Nat) (i : Nat) (w : World) (b : Nat) (since last : Int) (N : Int) (K : ByteArray) (h : Rec col i w b [] 0 since last) :
    Calls Try.prog 55 #[.pointer (some ⟨b, 0, none⟩), .agg #[.int .i64 N, .string K]] w fun e w' => e = .returned (.tuple #[]) ∧ Rec (paint col w i) i w' b [] 0 N last ∧ Ch col i w w' := by
  obtain ⟨⟨v, X, F, hb, hr, hX, hF, hF0, hLX⟩, hlen, hcap⟩ := h
  have hvb := hr.ne hb.hp (by decide)
  have hbl := hp_lt hb.hp
  have hcb : paint col w i b = i := paint_of hb.col
  have hxb : w.heap.size ≠ b := by omega
  obtain ⟨p, c, rfl⟩ := hr.form
  have HF0 := Lib.hid hF0; clear hF0
  have HB := below_alloc (Below.refl w.heap.size w) (.cells #[.int .i64 N, .string K] 82)
  have hbV0' := hp_below HB hb.hp
  have hrV0' := hr.below HB
  have hxV0' := hp_alloc_new w (.cells #[.int .i64 N, .string K] 82)
  have HCV0' := Ch.of_below (col := col) (i := i) HB
  go_enter Try.func55, Try.ntmps55
  go_upto_region 1 with fail
  refine Ph.at_world ?_; intro V0 hW
  rw [← hW] at hbV0' hrV0' hxV0' HCV0'
  have hbV0 := hbV0'; have hrV0 := hrV0'; have hxV0 := hxV0'; have HCV0 := HCV0'
  clear hW hbV0' hrV0' hxV0' HCV0' HB
  have cb := hp_cell hbV0; have fb := hp_free hbV0; have cx := hp_cell hxV0
  go_wp2
  refine bodyPost_ret (results_none rfl _ _ _) rfl ?_
  exact ⟨rfl, ⟨⟨_, X, F, ⟨hp_set hbV0 _, hcb⟩, hrV0.set hvb _, hX, hF, (by first | exact HF0.out | exact fun _ => HF0.out trivial), fun k hk => by simp at hk⟩, by simp, by omega⟩, HCV0.setCell hcb _⟩


set_option maxHeartbeats 1000000 in
theorem rc_put_room (col : Nat → Nat) (i : Nat) (w : World) (b : Nat) (L : List Mk) (R : Nat) (since last : Int) (N : Int) (K : ByteArray) (h : Rec col i w b L R since last) (hR : 0 < R) (hLR : L.length < R) :
    Calls Try.prog 55 #[.pointer (some ⟨b, 0, none⟩), .agg #[.int .i64 N, .string K]] w fun e w' => e = .returned (.tuple #[]) ∧ Rec (paint col w i) i w' b (L ++ [(N, K)]) R since last ∧ Ch col i w w' := by
  obtain ⟨⟨v, X, F, hb, hr, hX, hF, hF0, hLX⟩, hlen, hcap⟩ := h
  have hvb := hr.ne hb.hp (by decide)
  have hbl := hp_lt hb.hp
  have hcb : paint col w i b = i := paint_of hb.col
  have hxb : w.heap.size ≠ b := by omega
  have hFR := hF hR
  obtain ⟨g, c, cur, rfl, hg, hnc, hcm, hcs, htk, hgc⟩ := hr.pos hR
  have hgb : g ≠ b := fun e => hvb (by simp [Value.ownBlock, e])
  have hgl := hp_lt hg
  have hxg : w.heap.size ≠ g := by omega
  have hcg : paint col w i g = i := paint_of hgc
  have hR0 : ((R : Int) == 0) = false := by simp; omega
  have hR1 : ¬ (R : Int) = 0 := by omega
  have hR2 : ¬ R = 0 := by omega
  have HB := below_alloc (Below.refl w.heap.size w) (.cells #[.int .i64 N, .string K] 82)
  have hbV0' := hp_below HB hb.hp
  have hrV0' := hr.below HB
  have hxV0' := hp_alloc_new w (.cells #[.int .i64 N, .string K] 82)
  have HCV0' := Ch.of_below (col := col) (i := i) HB
  go_enter Try.func55, Try.ntmps55
  go_upto_region 1 with fail
  refine Ph.at_world ?_; intro V0 hW
  rw [← hW] at hbV0' hrV0' hxV0' HCV0'
  have hbV0 := hbV0'; have hrV0 := hrV0'; have hxV0 := hxV0'; have HCV0 := HCV0'
  clear hW hbV0' hrV0' hxV0' HCV0' HB
  have hLq : ((L.length : Int) == (R : Int)) = false := by simp; omega
  have cb := hp_cell hbV0; have fb := hp_free hbV0; have cx := hp_cell hxV0
  go_wp2
  refine Ph.region_at (by kernel_rfl) ?_
  refine Ph.at_quiet 10 (by kernel_rfl) ?_
  simp only [List.take_succ_cons, List.take_zero, List.drop_succ_cons, List.drop_zero]
  repeat ((first | (apply Ph.wpPh_g; (focus (intro w1 hS0; have cb1 := hp_cell (hp_below hS0 (hp_below (below_drew (Below.refl _ _)) hbV0)); go_simp; first | exact rfl | exact ⟨rfl, Below.refl _ _⟩)))); simp only [Act.put, List.setIfInBounds_toArray, List.set_cons_zero, List.set_cons_succ])
  refine Ph.wpPh_nil ?_; intro U1 hU1
  refine Ph.at_end (by simp) ?_
  replace hU1 := below_call (below_drew (Below.refl _ _)) hU1
  have hbV1 := hp_below hU1 hbV0
  have hrV1 := hrV0.below' hU1
  have hxV1 := hp_below hU1 hxV0
  have HCV1 := HCV0.below hU1
  clear hbV0 hrV0 hxV0 HCV0
  clear cb fb cx
  have cb := hp_cell hbV1; have fb := hp_free hbV1; have cx := hp_cell hxV1
  have sW : IntKind.i64.wrap ((F : Int) + (L.length : Int)) = (F : Int) + (L.length : Int) := IntWalk.i64_in _ (by omega)
  have sT : ((F : Int) + (L.length : Int)).tmod (R : Int) = (((F + L.length) % R : Nat) : Int) := tmod_nat (F + L.length) R
  have hJR : (F + L.length) % R < R := Nat.mod_lt _ hR
  generalize hJ : (F + L.length) % R = J at sT hJR
  have HJ := Lib.hid hJ; clear hJ
  have hJ0 : (0 : Int) ≤ (J : Int) := by omega
  have hJ1 : (J : Int) < (R : Int) := by omega
  go_wp2
  refine Ph.region_at (by kernel_rfl) ?_
  refine Ph.at_quiet 21 (by kernel_rfl) ?_
  simp only [List.take_succ_cons, List.take_zero, List.drop_succ_cons, List.drop_zero]
  repeat ((first | (apply Ph.wpPh_g; (focus (intro w1 hS0; have cb1 := hp_cell (hp_below hS0 (hp_below (below_drew (Below.refl _ _)) hbV1)); have cx1 := hp_cell (hp_below hS0 (hp_below (below_drew (Below.refl _ _)) hxV1)); go_simp; first | exact rfl | exact ⟨rfl, Below.refl _ _⟩)))); simp only [Act.put, List.setIfInBounds_toArray, List.set_cons_zero, List.set_cons_succ])
  refine Ph.wpPh_nil ?_; intro U4 hU4
  replace hU4 := below_call (below_drew (Below.refl _ _)) hU4
  clear cb fb cx
  have hbV2 := hp_below hU4 hbV1
  have hrV2 := hrV1.below' hU4
  have hxV2 := hp_below hU4 hxV1
  have HCV2 := HCV1.below hU4
  clear hbV1 hrV1 hxV1 HCV1
  have cb := hp_cell hbV2; have fb := hp_free hbV2; have cx := hp_cell hxV2
  clear sW sT
  obtain ⟨g', c', cr, hv', hgU, hnc', hcm', hcs', htk', _⟩ := hrV2.pos hR
  simp only [Value.slice.injEq, Option.some.injEq, Addr.mk.injEq] at hv'
  obtain ⟨⟨rfl, _, _⟩, _, rfl⟩ := hv'
  have fg := hp_free hgU
  obtain ⟨x0, cj0⟩ : ∃ x, U4.cell? ⟨g, J * 2, none⟩ = some x := ⟨cr[J * 2]'(by omega), by rw [hp_cell hgU]; simp⟩
  obtain ⟨x1, cj1⟩ : ∃ x, U4.cell? ⟨g, J * 2 + 1, none⟩ = some x := ⟨cr[J * 2 + 1]'(by omega), by rw [hp_cell hgU]; simp⟩
  clear hgU hcs' htk'
  refine Ph.at_op rfl (by kernel_rfl) ?_
  go_wp2
  refine Ph.at_end (by simp) ?_
  refine Ph.at_world ?_; intro Z hW
  have hbZ : hp Z b = some (.cells #[.slice (some ⟨g, 0, none⟩) R c, .int .i64 (F : Nat), .int .i64 (L.length : Nat), .int .i64 since, .int .i64 last] 94 (0, 0)) := by rw [hW]; exact hp_set_ne (hp_set_ne hbV2 (fun e => hgb e.symm) _) (fun e => hgb e.symm) _
  have hrZ : Row (paint col w i) i Z 82 2 (.slice (some ⟨g, 0, none⟩) R c) R ((X.set J (N, K)).flatMap encM) := by rw [hW]; exact hrV2.set2 hX J hJR (N, K)
  have HCZ : Ch col i w Z := by rw [hW]; exact (HCV2.setCell hcg _).setCell hcg _
  clear hW cj0 cj1 fg
  clear cb fb cx
  have cb := hp_cell hbZ; have fb := hp_free hbZ
  go_wp2
  go_end0
  have eR : ((L ++ [(N, K)]).length : Int) = (L.length : Int) + 1 := by simp
  refine ⟨rfl, ⟨⟨_, X.set J (N, K), F, ⟨?_, hcb⟩, hrZ.set hvb _, by simpa using hX, fun _ => hFR, fun h => by omega, ?_⟩, by simp; omega, hcap⟩, HCZ.setCell hcb _⟩
  · show hp _ b = some (.cells #[_, _, .int .i64 ((L ++ [(N, K)]).length : Nat), _, _] 94 (0, 0))
    rw [eR]; exact hp_set hbZ _
  · rw [← HJ.out]; exact ring_room hX hFR hLX hLR (N, K)


set_option maxHeartbeats 1000000 in
theorem rc_put_full (col : Nat → Nat) (i : Nat) (w : World) (b : Nat) (L : List Mk) (R : Nat) (since last : Int) (N : Int) (K : ByteArray) (h : Rec col i w b L R since last) (hR : 0 < R) (hLR : L.length = R) :
    Calls Try.prog 55 #[.pointer (some ⟨b, 0, none⟩), .agg #[.int .i64 N, .string K]] w fun e w' => e = .returned (.tuple #[]) ∧ Rec (paint col w i) i w' b (L.tail ++ [(N, K)]) R (L.headD (0, ⟨#[]⟩)).1 last ∧ Ch col i w w' := by
  obtain ⟨⟨v, X, F, hb, hr, hX, hF, hF0, hLX⟩, hlen, hcap⟩ := h
  have hvb := hr.ne hb.hp (by decide)
  have hbl := hp_lt hb.hp
  have hcb : paint col w i b = i := paint_of hb.col
  have hxb : w.heap.size ≠ b := by omega
  have hFR := hF hR
  obtain ⟨g, c, cur, rfl, hg, hnc, hcm, hcs, htk, hgc⟩ := hr.pos hR
  have hgb : g ≠ b := fun e => hvb (by simp [Value.ownBlock, e])
  have hgl := hp_lt hg
  have hxg : w.heap.size ≠ g := by omega
  have hcg : paint col w i g = i := paint_of hgc
  have hR0 : ((R : Int) == 0) = false := by simp; omega
  have hR1 : ¬ (R : Int) = 0 := by omega
  have hR2 : ¬ R = 0 := by omega
  obtain ⟨m0, L', rfl⟩ : ∃ m0 L', L = m0 :: L' := by cases L with | nil => simp at hLR; omega | cons m0 L' => exact ⟨m0, L', rfl⟩
  have hX0 : X[F]? = some m0 := by have := hLX 0 (by simp); simpa [Nat.mod_eq_of_lt hFR] using this
  have hXF : X[F]'(by omega) = m0 := by have := List.getElem?_eq_getElem (l := X) (i := F) (by omega); rw [this] at hX0; exact Option.some.inj hX0
  have hf0 := encM_ok.get X F 0 (by omega) (by omega)
  rw [hXF] at hf0
  have hLRe : (((m0 :: L').length : Nat) : Int) = (R : Int) := by rw [hLR]
  have hLq : ((R : Int) == (R : Int)) = true := by simp
  have HB := below_alloc (Below.refl w.heap.size w) (.cells #[.int .i64 N, .string K] 82)
  have hbV0' := hp_below HB hb.hp
  have hrV0' := hr.below HB
  have hxV0' := hp_alloc_new w (.cells #[.int .i64 N, .string K] 82)
  have HCV0' := Ch.of_below (col := col) (i := i) HB
  go_enter Try.func55, Try.ntmps55
  go_upto_region 1 with fail
  refine Ph.at_world ?_; intro V0 hW
  rw [← hW] at hbV0' hrV0' hxV0' HCV0'
  have hbV0 := hbV0'; have hrV0 := hrV0'; have hxV0 := hxV0'; have HCV0 := HCV0'
  clear hW hbV0' hrV0' hxV0' HCV0' HB
  rw [hLR] at hbV0
  have cb := hp_cell hbV0; have fb := hp_free hbV0; have cx := hp_cell hxV0
  go_wp2
  refine Ph.region_at (by kernel_rfl) ?_
  refine Ph.at_quiet 10 (by kernel_rfl) ?_
  simp only [List.take_succ_cons, List.take_zero, List.drop_succ_cons, List.drop_zero]
  repeat ((first | (apply Ph.wpPh_g; (focus (intro w1 hS0; have cb1 := hp_cell (hp_below hS0 (hp_below (below_drew (Below.refl _ _)) hbV0)); go_simp; first | exact rfl | exact ⟨rfl, Below.refl _ _⟩)))); simp only [Act.put, List.setIfInBounds_toArray, List.set_cons_zero, List.set_cons_succ])
  refine Ph.wpPh_nil ?_; intro U1 hU1
  refine Ph.at_end (by simp) ?_
  replace hU1 := below_call (below_drew (Below.refl _ _)) hU1
  have hbV1 := hp_below hU1 hbV0
  have hrV1 := hrV0.below' hU1
  have hxV1 := hp_below hU1 hxV0
  have HCV1 := HCV0.below hU1
  clear hbV0 hrV0 hxV0 HCV0
  clear cb fb cx
  have cb := hp_cell hbV1; have fb := hp_free hbV1; have cx := hp_cell hxV1
  have cg1 : U1.cell? ⟨g, F * 2, none⟩ = some (.int .i64 m0.1) := hrV1.cell (g := g) rfl (by simpa [encM] using hf0)
  have hF00 : (0 : Int) ≤ (F : Int) := by omega
  have hF01 : (F : Int) < (R : Int) := by omega
  go_wp2
  refine Ph.region_at (by kernel_rfl) ?_
  refine Ph.at_quiet 14 (by kernel_rfl) ?_
  simp only [List.take_succ_cons, List.take_zero, List.drop_succ_cons, List.drop_zero]
  repeat ((first | (apply Ph.wpPh_g; (focus (intro w1 hS0; have cb1 := hp_cell (hp_below hS0 (hp_below (below_drew (Below.refl _ _)) hbV1)); have cx1 := hp_cell (hp_below hS0 (hp_below (below_drew (Below.refl _ _)) hxV1)); have cg2 := cell_below hS0 (cell_below (below_drew (Below.refl _ _)) cg1); go_simp; first | exact rfl | exact ⟨rfl, Below.refl _ _⟩)))); simp only [Act.put, List.setIfInBounds_toArray, List.set_cons_zero, List.set_cons_succ])
  refine Ph.wpPh_nil ?_; intro U2 hU2
  replace hU2 := below_call (below_drew (Below.refl _ _)) hU2
  clear cb fb cx
  have hbV2 := hp_below hU2 hbV1
  have hrV2 := hrV1.below' hU2
  have hxV2 := hp_below hU2 hxV1
  have HCV2 := HCV1.below hU2
  clear hbV1 hrV1 hxV1 HCV1
  have cb := hp_cell hbV2; have fb := hp_free hbV2; have cx := hp_cell hxV2
  clear cg1
  refine Ph.at_op rfl (by kernel_rfl) ?_
  go_wp2
  refine Ph.at_end (by simp) ?_
  refine Ph.at_world ?_; intro V3 hW
  have hbV3 : hp V3 b = some (.cells #[.slice (some ⟨g, 0, none⟩) R c, .int .i64 (F : Nat), .int .i64 (R : Nat), .int .i64 m0.1, .int .i64 last] 94 (0, 0)) := by rw [hW]; exact hp_set hbV2 _
  have hrV3 : Row (paint col w i) i V3 82 2 (.slice (some ⟨g, 0, none⟩) R c) R (X.flatMap encM) := by rw [hW]; exact hrV2.set hvb _
  have hxV3 : hp V3 w.heap.size = some (.cells #[.int .i64 N, .string K] 82 (0, 0)) := by rw [hW]; exact hp_set_ne hxV2 hxb _
  have HCV3 : Ch col i w V3 := by rw [hW]; exact HCV2.setCell hcb _
  clear hW hbV2 hrV2 hxV2 HCV2
  clear cb fb cx
  have cb := hp_cell hbV3; have fb := hp_free hbV3; have cx := hp_cell hxV3
  have sW : IntKind.i64.wrap ((F : Int) + 1) = (F : Int) + 1 := IntWalk.i64_in _ (by omega)
  have sT : ((F : Int) + 1).tmod (R : Int) = (((F + 1) % R : Nat) : Int) := tmod_nat (F + 1) R
  have hF1 : (F + 1) % R < R := Nat.mod_lt _ hR
  generalize hJ : (F + 1) % R = F1 at sT hF1
  have HJ := Lib.hid hJ; clear hJ
  go_wp2
  refine Ph.region_at (by kernel_rfl) ?_
  refine Ph.at_quiet 14 (by kernel_rfl) ?_
  simp only [List.take_succ_cons, List.take_zero, List.drop_succ_cons, List.drop_zero]
  repeat ((first | (apply Ph.wpPh_g; (focus (intro w1 hS0; have cb1 := hp_cell (hp_below hS0 (hp_below (below_drew (Below.refl _ _)) hbV3)); have cx1 := hp_cell (hp_below hS0 (hp_below (below_drew (Below.refl _ _)) hxV3)); go_simp; first | exact rfl | exact ⟨rfl, Below.refl _ _⟩)))); simp only [Act.put, List.setIfInBounds_toArray, List.set_cons_zero, List.set_cons_succ])
  refine Ph.wpPh_nil ?_; intro U3 hU3
  replace hU3 := below_call (below_drew (Below.refl _ _)) hU3
  clear cb fb cx
  have hbV4 := hp_below hU3 hbV3
  have hrV4 := hrV3.below' hU3
  have hxV4 := hp_below hU3 hxV3
  have HCV4 := HCV3.below hU3
  clear hbV3 hrV3 hxV3 HCV3
  have cb := hp_cell hbV4; have fb := hp_free hbV4; have cx := hp_cell hxV4
  clear sW sT
  refine Ph.at_op rfl (by kernel_rfl) ?_
  go_wp2
  refine Ph.at_end (by simp) ?_
  refine Ph.at_world ?_; intro V5 hW
  have hbV5 : hp V5 b = some (.cells #[.slice (some ⟨g, 0, none⟩) R c, .int .i64 (F1 : Nat), .int .i64 (R : Nat), .int .i64 m0.1, .int .i64 last] 94 (0, 0)) := by rw [hW]; exact hp_set hbV4 _
  have hrV5 : Row (paint col w i) i V5 82 2 (.slice (some ⟨g, 0, none⟩) R c) R (X.flatMap encM) := by rw [hW]; exact hrV4.set hvb _
  have hxV5 : hp V5 w.heap.size = some (.cells #[.int .i64 N, .string K] 82 (0, 0)) := by rw [hW]; exact hp_set_ne hxV4 hxb _
  have HCV5 : Ch col i w V5 := by rw [hW]; exact HCV4.setCell hcb _
  clear hW hbV4 hrV4 hxV4 HCV4
  clear cb fb cx
  have cb := hp_cell hbV5; have fb := hp_free hbV5; have cx := hp_cell hxV5
  have sW : IntKind.i64.wrap ((R : Int) - 1) = (R : Int) - 1 := IntWalk.i64_in _ (by omega)
  have q1 : (0 : Int) ≤ (R : Int) - 1 := by omega
  have q2 : (R : Int) - 1 ≤ 1024 := by omega
  go_upto_region 7 with fail
  refine Ph.at_world ?_; intro V6 hW
  have hbV6 : hp V6 b = some (.cells #[.slice (some ⟨g, 0, none⟩) R c, .int .i64 (F1 : Nat), .int .i64 ((R : Int) - 1), .int .i64 m0.1, .int .i64 last] 94 (0, 0)) := by rw [hW]; exact hp_set hbV5 _
  have hrV6 : Row (paint col w i) i V6 82 2 (.slice (some ⟨g, 0, none⟩) R c) R (X.flatMap encM) := by rw [hW]; exact hrV5.set hvb _
  have hxV6 : hp V6 w.heap.size = some (.cells #[.int .i64 N, .string K] 82 (0, 0)) := by rw [hW]; exact hp_set_ne hxV5 hxb _
  have HCV6 : Ch col i w V6 := by rw [hW]; exact HCV5.setCell hcb _
  clear hW hbV5 hrV5 hxV5 HCV5
  clear cb fb cx
  have cb := hp_cell hbV6; have fb := hp_free hbV6; have cx := hp_cell hxV6
  clear sW
  have sW : IntKind.i64.wrap ((F1 : Int) + ((R : Int) - 1)) = (F1 : Int) + ((R : Int) - 1) := IntWalk.i64_in _ (by omega)
  have sT : ((F1 : Int) + ((R : Int) - 1)).tmod (R : Int) = (F : Int) := by have := tmod_nat (F1 + (R - 1)) R; rw [← HJ.out, ring_back hFR] at this; rw [← this, ← HJ.out]; congr 1; omega
  have hJ0 : (0 : Int) ≤ (F : Int) := by omega
  go_wp2
  refine Ph.region_at (by kernel_rfl) ?_
  refine Ph.at_quiet 21 (by kernel_rfl) ?_
  simp only [List.take_succ_cons, List.take_zero, List.drop_succ_cons, List.drop_zero]
  repeat ((first | (apply Ph.wpPh_g; (focus (intro w1 hS0; have cb1 := hp_cell (hp_below hS0 (hp_below (below_drew (Below.refl _ _)) hbV6)); have cx1 := hp_cell (hp_below hS0 (hp_below (below_drew (Below.refl _ _)) hxV6)); go_simp; first | exact rfl | exact ⟨rfl, Below.refl _ _⟩)))); simp only [Act.put, List.setIfInBounds_toArray, List.set_cons_zero, List.set_cons_succ])
  refine Ph.wpPh_nil ?_; intro U4 hU4
  replace hU4 := below_call (below_drew (Below.refl _ _)) hU4
  clear cb fb cx
  have hbV7 := hp_below hU4 hbV6
  have hrV7 := hrV6.below' hU4
  have hxV7 := hp_below hU4 hxV6
  have HCV7 := HCV6.below hU4
  clear hbV6 hrV6 hxV6 HCV6
  have cb := hp_cell hbV7; have fb := hp_free hbV7; have cx := hp_cell hxV7
  clear sW sT
  obtain ⟨g', c', cr, hv', hgU, hnc', hcm', hcs', htk', _⟩ := hrV7.pos hR
  simp only [Value.slice.injEq, Option.some.injEq, Addr.mk.injEq] at hv'
  obtain ⟨⟨rfl, _, _⟩, _, rfl⟩ := hv'
  have fg := hp_free hgU
  obtain ⟨x0, cj0⟩ : ∃ x, U4.cell? ⟨g, F * 2, none⟩ = some x := ⟨cr[F * 2]'(by omega), by rw [hp_cell hgU]; simp⟩
  obtain ⟨x1, cj1⟩ : ∃ x, U4.cell? ⟨g, F * 2 + 1, none⟩ = some x := ⟨cr[F * 2 + 1]'(by omega), by rw [hp_cell hgU]; simp⟩
  clear hgU hcs' htk'
  refine Ph.at_op rfl (by kernel_rfl) ?_
  go_wp2
  refine Ph.at_end (by simp) ?_
  refine Ph.at_world ?_; intro Z hW
  have hbZ : hp Z b = some (.cells #[.slice (some ⟨g, 0, none⟩) R c, .int .i64 (F1 : Nat), .int .i64 ((R : Int) - 1), .int .i64 m0.1, .int .i64 last] 94 (0, 0)) := by rw [hW]; exact hp_set_ne (hp_set_ne hbV7 (fun e => hgb e.symm) _) (fun e => hgb e.symm) _
  have hrZ : Row (paint col w i) i Z 82 2 (.slice (some ⟨g, 0, none⟩) R c) R ((X.set F (N, K)).flatMap encM) := by rw [hW]; exact hrV7.set2 hX F hFR (N, K)
  have HCZ : Ch col i w Z := by rw [hW]; exact (HCV7.setCell hcg _).setCell hcg _
  clear hW cj0 cj1 fg
  clear cb fb cx
  have cb := hp_cell hbZ; have fb := hp_free hbZ
  go_wp2
  go_end0
  have eR : ((L' ++ [(N, K)]).length : Int) = (R : Int) := by simp at hLR ⊢; omega
  have hl2 : L'.length + 1 = R := by simpa using hLR
  refine ⟨rfl, ⟨⟨_, X.set F (N, K), F1, ⟨?_, hcb⟩, hrZ.set hvb _, by simpa using hX, fun _ => hF1, fun h => by omega, ?_⟩, by simp; omega, hcap⟩, HCZ.setCell hcb _⟩
  · show hp _ b = some (.cells #[_, _, .int .i64 ((L' ++ [(N, K)]).length : Nat), _, _] 94 (0, 0))
    rw [eR]; exact hp_set hbZ _
  · rw [← HJ.out]; exact ring_full hX hFR hLX hl2 (N, K)

end Go.Proofs.Ytgacbfbjikjanaa
