/- The fixed five. -/
import Derived.Test.YtficncmomgddpaaPt
import Derived.Test.YtficncmomgddpaaGh
import Derived.WalkKit
import Derived.WalkLawsBesides
import Derived.WalkSpells
import Derived.Below
import Derived.Deep.RegionHeld3
import Derived.Deep.QuietTactic
import Derived.BigQuiet
import Derived.Deep.DeepCutAuto
import Derived.Deep.DeepMust
import Derived.KernelRfl
import Derived.Lib.Hide
import Derived.Outline
import Derived.RegionTactic
import Derived.StillTailTactics
namespace Go.Proofs.Ytficncmomgddpaa
open Go.RowKit Go.Cl
set_option maxRecDepth 100000
set_option linter.unusedVariables false
set_option linter.unusedSimpArgs false

open Go.Ps
def E5 (i : Nat) : En := match i with
  | 0 => ⟨⟨#[107]⟩, false, ⟨#[]⟩, 0, 4611686018427387904, true, 4, 0⟩
  | 1 => ⟨⟨#[107]⟩, false, ⟨#[]⟩, 0, 4611686018427387904, false, 9, 0⟩
  | 2 => ⟨⟨#[107]⟩, false, ⟨#[]⟩, 0, 8, true, 9, 5⟩
  | 3 => ⟨⟨#[107]⟩, false, ⟨#[]⟩, 0, 8, false, 0, 2⟩
  | _ => ⟨⟨#[107]⟩, false, ⟨#[]⟩, 0, 3, false, 0, 9⟩

theorem e5_cmp : ∀ x, x < 5 → ∀ y, y < 5 → ((E5 x).cmp (E5 y) < 0 ∨ (¬ (E5 y).cmp (E5 x) < 0 ∧ x < y)) → y < x := by decide +kernel
def rk (x : Nat) : Nat := match x with
  | 0 => 2
  | 1 => 3
  | 2 => 4
  | 3 => 0
  | _ => 1
theorem e5_dem : ∀ x, x < 5 → ∀ y, y < 5 → ((E5 x).dem (E5 y) < 0 ∨ (¬ (E5 y).dem (E5 x) < 0 ∧ x < y)) → rk x < rk y := by decide +kernel
theorem e5_vic : vic E5 5 = 4 := by decide +kernel
theorem e5_ord {D : Nat → Nat} (hp : Pm 0 5 (fun k => k) D) (hs : Sd (RR (fun x y => (E5 x).cmp (E5 y))) 0 5 D) : ∀ i, i < 5 → D i = 4 - i := by
  have hl := Pm.lt hp (Nat.le_refl 5) (fun k hk => hk)
  have d : ∀ i j, i < j → j < 5 → D j < D i := fun i j h1 h2 => e5_cmp _ (hl i (by omega)) _ (hl j h2) (hs i j (Nat.zero_le _) h1 h2)
  have := d 0 1 (by omega) (by omega); have := d 1 2 (by omega) (by omega); have := d 2 3 (by omega) (by omega); have := d 3 4 (by omega) (by omega)
  have := hl 0 (by omega)
  intro i hi
  rcases (by omega : i = 0 ∨ i = 1 ∨ i = 2 ∨ i = 3 ∨ i = 4) with rfl | rfl | rfl | rfl | rfl <;> omega
theorem rk_inv : ∀ x, x < 5 → ∀ i, i < 5 → rk x = i → x = (match i with | 0 => 3 | 1 => 4 | 2 => 0 | 3 => 1 | _ => 2) := by decide +kernel
theorem e5_dord {D : Nat → Nat} (hp : Pm 0 5 (fun k => k) D) (hs : Sd (RR (fun x y => (E5 x).dem (E5 y))) 0 5 D) : ls D 5 = [3, 4, 0, 1, 2] := by
  have hl := Pm.lt hp (Nat.le_refl 5) (fun k hk => hk)
  have d : ∀ i j, i < j → j < 5 → rk (D i) < rk (D j) := fun i j h1 h2 => e5_dem _ (hl i (by omega)) _ (hl j h2) (hs i j (Nat.zero_le _) h1 h2)
  have rl : ∀ x, x < 5 → rk x < 5 := by decide +kernel
  have r4 := rl _ (hl 4 (by omega))
  have q0 := d 0 1 (by omega) (by omega); have q1 := d 1 2 (by omega) (by omega); have q2 := d 2 3 (by omega) (by omega); have q3 := d 3 4 (by omega) (by omega)
  have a0 := rk_inv _ (hl 0 (by omega)) 0 (by omega) (by omega)
  have a1 := rk_inv _ (hl 1 (by omega)) 1 (by omega) (by omega)
  have a2 := rk_inv _ (hl 2 (by omega)) 2 (by omega) (by omega)
  have a3 := rk_inv _ (hl 3 (by omega)) 3 (by omega) (by omega)
  have a4 := rk_inv _ (hl 4 (by omega)) 4 (by omega) (by omega)
  show [D 0, D 1, D 2, D 3, D 4] = _
  rw [a0, a1, a2, a3, a4]; rfl
theorem e5_kept {D F : Nat → Nat} {k m : Nat} (hp : Pm 0 5 (fun k => k) D) (hs : Sd (RR (fun x y => (E5 x).dem (E5 y))) 0 5 D) (hl : ls F k = (ls D 5).filter (hots E5)) (hm : (m : Int) = max ((k : Int) - max 1 0) 0) : m = 1 ∧ F 0 = 0 := by
  rw [e5_dord hp hs] at hl
  have e : ([3, 4, 0, 1, 2] : List Nat).filter (hots E5) = [0, 2] := by decide +kernel
  rw [e] at hl
  have hk : k = 2 := by have := congrArg List.length hl; simpa [ls] using this
  subst hk
  have h2 : [F 0, F 1] = [0, 2] := hl
  simp at h2
  exact ⟨by have : (max (1 : Int) 0) = 1 := rfl; rw [this] at hm; omega, h2.1⟩
def GA (e : Nat) (v : Value) (w : World) : Prop := if e = 1 then RdI w v 5 (fun i => 4 - i) else RdI w v 5 (fun i => 4 - i)
theorem GA_mono : ∀ e v, Ph.Mono1 (GA e v) := fun e v w w' h hb => by
  unfold GA at *; split at h <;> rename_i c
  · rw [if_pos c]; exact h.below hb
  · rw [if_neg c]; exact h.below hb
theorem GA1 {w : World} {v : Value} {D : Nat → Nat} (h : RdI w v 5 D) (hp : Pm 0 5 (fun k => k) D) (hs : Sd (RR (fun x y => (E5 x).cmp (E5 y))) 0 5 D) : GA 1 v w := by
  obtain ⟨p, cp, hv, hc⟩ := h
  exact ⟨p, cp, hv, fun i hi => by obtain ⟨b, o, e, hx⟩ := hc i hi; exact ⟨b, o, e, by rw [hx, e5_ord hp hs i hi]⟩⟩
theorem GA2 (w : World) : GA 2 (.slice (some ⟨w.heap.size, 0, none⟩) 5 5) (w.alloc (.cells #[.int .i64 4, .int .i64 3, .int .i64 2, .int .i64 1, .int .i64 0] 3 (0, 0))) := by
  refine ⟨_, _, rfl, fun i hi => ⟨_, 0, rfl, ?_⟩⟩
  rw [hp_cell (hp_alloc_new w _)]
  rcases (by omega : i = 0 ∨ i = 1 ∨ i = 2 ∨ i = 3 ∨ i = 4) with rfl | rfl | rfl | rfl | rfl <;> rfl
theorem e5_at {w : World} {b : Nat} (h : hp w b = some (.cells #[.string ⟨#[107]⟩, .bool false, .string ⟨#[]⟩, .int .i64 0, .int .i64 4611686018427387904, .bool true, .int .i64 4, .int .i64 0, .string ⟨#[107]⟩, .bool false, .string ⟨#[]⟩, .int .i64 0, .int .i64 4611686018427387904, .bool false, .int .i64 9, .int .i64 0, .string ⟨#[107]⟩, .bool false, .string ⟨#[]⟩, .int .i64 0, .int .i64 8, .bool true, .int .i64 9, .int .i64 5, .string ⟨#[107]⟩, .bool false, .string ⟨#[]⟩, .int .i64 0, .int .i64 8, .bool false, .int .i64 0, .int .i64 2, .string ⟨#[107]⟩, .bool false, .string ⟨#[]⟩, .int .i64 0, .int .i64 3, .bool false, .int .i64 0, .int .i64 9] 28 (0, 0))) : Ents w (.slice (some ⟨b, 0, none⟩) 5 5) 5 E5 := by
  refine ⟨_, _, rfl, fun i hi => ⟨b, 0, rfl, hp_lt h, fun j hj => ?_⟩⟩
  rw [hp_cell h]
  rcases (by omega : i = 0 ∨ i = 1 ∨ i = 2 ∨ i = 3 ∨ i = 4) with rfl | rfl | rfl | rfl | rfl <;>
    rcases (by omega : j = 0 ∨ j = 1 ∨ j = 2 ∨ j = 3 ∨ j = 4 ∨ j = 5 ∨ j = 6 ∨ j = 7) with rfl | rfl | rfl | rfl | rfl | rfl | rfl | rfl <;> rfl
set_option maxHeartbeats 2000000 in
theorem c_fixed (w : World) : Calls Try.prog 8 #[] w fun e w' => e = .returned (.bool true) ∧ Below w.heap.size w w' := by
  have HB0 : Below w.heap.size w w := Below.refl _ _
  go_enter Try.func8, Try.ntmps8
  go_upto_region 2 with (go_at_call 18; (with_reducible refine (c_entry _ _ _ _ _).mono ?_); rintro e w1 ⟨rfl, hb⟩; replace HB0 := below_call HB0 hb; clear hb)
  refine Ph.at_world ?_; intro W2 hW
  have kb : hp W2 w1.heap.size = some (.cells #[.string ⟨#[107]⟩, .bool false, .string ⟨#[]⟩, .int .i64 0, .int .i64 4611686018427387904, .bool true, .int .i64 4, .int .i64 0, .string ⟨#[107]⟩, .bool false, .string ⟨#[]⟩, .int .i64 0, .int .i64 4611686018427387904, .bool false, .int .i64 9, .int .i64 0, .string ⟨#[107]⟩, .bool false, .string ⟨#[]⟩, .int .i64 0, .int .i64 8, .bool true, .int .i64 9, .int .i64 5, .string ⟨#[107]⟩, .bool false, .string ⟨#[]⟩, .int .i64 0, .int .i64 8, .bool false, .int .i64 0, .int .i64 2, .string ⟨#[107]⟩, .bool false, .string ⟨#[]⟩, .int .i64 0, .int .i64 3, .bool false, .int .i64 0, .int .i64 9] 28 (0, 0)) := by rw [hW]; simp [hpA]
  have HZ : Below w1.heap.size w1 W2 := by rw [hW]; exact below_alloc (Below.refl _ _) _
  replace HB0 := below_call HB0 HZ
  clear hW HZ
  generalize w1.heap.size = b at *
  have HE := Lib.hid (e5_at kb)
  have KB := Lib.hid kb; clear kb
  refine Ph.region_at (by kernel_rfl) ?_
  refine Ph.at_two 3 1 2 9 10 GA GA_mono (by kernel_rfl) (by kernel_rfl) (by kernel_rfl) (by decide) (by decide) (by decide) (by decide) rfl rfl ?_
  simp only [List.take_succ_cons, List.take_zero, List.drop_succ_cons, List.drop_zero]
  refine Ph.wpM_g (by decide) (fun w1 hS0 => by go_simp; first | exact rfl | exact ⟨rfl, Below.refl _ _⟩) ?_
  simp only [Act.put, List.setIfInBounds_toArray, List.set_cons_zero, List.set_cons_succ]
  refine Ph.wpM_e (by decide) (by rfl) (fun w1 hS0 => ?_) ?_
  · go_simp
    refine (c_order w1 _ 5 E5 (Ents.below (Ents.below HE.out (below_drew (Below.refl _ _))) hS0) (by omega) (tr_cmp E5)).mono ?_
    rintro e w2 ⟨hb, v', D, rfl, h1, h2, h3⟩
    exact ⟨_, rfl, hb, GA1 h1.rd h2 h3⟩
  refine Ph.wpM_e (by decide) (by rfl) (fun w1 hS0 => ?_) ?_
  · go_simp
    exact ⟨below_alloc (Below.refl _ _) _, GA2 w1⟩
  refine Ph.wpM_nil ?_; intro u1 u2 W3 hS3 hu1 hu2
  simp only [Act.put, List.setIfInBounds_toArray, List.set_cons_zero, List.set_cons_succ]
  have HU1 := Lib.hid (show RdI W3 u1 5 (fun i => 4 - i) from hu1)
  have HU2 := Lib.hid (show RdI W3 u2 5 (fun i => 4 - i) from hu2)
  have HB3 := Lib.hid (below_call (below_drew HB0) hS3)
  have HE3 := Lib.hid (Ents.below (Ents.below HE.out (below_drew (Below.refl _ _))) hS3)
  have KB3 := Lib.hid (hp_below hS3 (show hp W2.drew b = _ from KB.out))
  clear hu1 hu2 HB0 hS3 HE KB
  have hv11 : ∀ w, Ents w (.slice (some ⟨b, 0, none⟩) 5 5) 5 E5 → Calls Try.prog 11 #[.slice (some ⟨b, 0, none⟩) 5 5] w fun e w' => e = .returned (.int .i64 4) ∧ Below w.heap.size w w' := fun w h => by
    have := c_victim w _ 5 E5 h (by omega)
    rw [e5_vic] at this; exact this
  have HV := Lib.hid hv11; clear hv11
  refine Ph.at_quiet 10 (by kernel_rfl) ?_
  simp only [List.take_succ_cons, List.take_zero, List.drop_succ_cons, List.drop_zero]
  repeat ((first | (apply Ph.wpPh_g; (focus (intro w1 hS0; go_simp; first | exact rfl | exact ⟨rfl, Below.refl _ _⟩ | ((with_reducible refine (c_same _ _ _ 5 _ _ (by omega) (HU1.out.below hS0) (HU2.out.below hS0) (fun _ _ => rfl)).mono ?_); rintro e w2 ⟨rfl, hb⟩; exact ⟨rfl, hb⟩) | ((with_reducible refine (HV.out _ (Ents.below HE3.out hS0)).mono ?_); rintro e w2 ⟨rfl, hb⟩; exact ⟨rfl, hb⟩))))); simp only [Act.put, List.setIfInBounds_toArray, List.set_cons_zero, List.set_cons_succ])
  refine Ph.wpPh_nil ?_; intro W4 hS4
  have HB4 := Lib.hid (below_call HB3.out hS4)
  have HE4 := Lib.hid (Ents.below HE3.out hS4)
  have KB4 := Lib.hid (hp_below hS4 KB3.out)
  clear HB3 HE3 KB3 HV HU1 HU2 hS4
  refine Ph.at_two 13 11 12 19 20 (fun _ v w => RdI w v 1 (fun _ => 0)) (fun _ _ _ _ h hb => RdI.below h hb) (by kernel_rfl) (by kernel_rfl) (by kernel_rfl) (by decide) (by decide) (by decide) (by decide) rfl rfl ?_
  simp only [List.take_succ_cons, List.take_zero, List.drop_succ_cons, List.drop_zero]
  refine Ph.wpM_g (by decide) (fun w1 hS0 => by go_simp; first | exact rfl | exact ⟨rfl, Below.refl _ _⟩) ?_
  simp only [Act.put, List.setIfInBounds_toArray, List.set_cons_zero, List.set_cons_succ]
  refine Ph.wpM_e (by decide) (by rfl) (fun w1 hS0 => ?_) ?_
  · go_simp
    refine (c_demote w1 _ 5 1 (by omega) (by omega) E5 (Ents.below HE4.out hS0) (by omega) (by omega) (tr_dem E5)).mono ?_
    rintro e w2 ⟨hb, v', D, F, k, m, rfl, h1, h2, h3, h4, h5, h6⟩
    obtain ⟨rfl, hF⟩ := e5_kept h1 h2 h4 h5
    refine ⟨_, rfl, hb, ?_⟩
    obtain ⟨p, cp, hv, hc⟩ := h6
    exact ⟨p, cp, hv, fun i hi => by obtain ⟨b', o', e, hx⟩ := hc i hi; exact ⟨b', o', e, by rw [hx, show i = 0 by omega, hF]⟩⟩
  refine Ph.wpM_e (by decide) (by rfl) (fun w1 hS0 => ?_) ?_
  · go_simp
    refine ⟨below_alloc (Below.refl _ _) _, ⟨_, _, rfl, fun i hi => ⟨_, 0, rfl, ?_⟩⟩⟩
    rw [hp_cell (hp_alloc_new w1 _), show i = 0 by omega]; rfl
  refine Ph.wpM_nil ?_; intro u3 u4 W5 hS5 hu3 hu4
  simp only [Act.put, List.setIfInBounds_toArray, List.set_cons_zero, List.set_cons_succ]
  have HU3 := Lib.hid hu3; have HU4 := Lib.hid hu4
  have HB5 := Lib.hid (below_call HB4.out hS5)
  have KB5 := Lib.hid (hp_below hS5 KB4.out)
  clear hu3 hu4 HB4 HE4 KB4 hS5
  have hb9 : ∀ w, Calls Try.prog 9 #[.agg #[.string ⟨#[107]⟩, .bool false, .string ⟨#[]⟩, .int .i64 0, .int .i64 4611686018427387904, .bool false, .int .i64 9, .int .i64 0], .agg #[.string ⟨#[107]⟩, .bool false, .string ⟨#[]⟩, .int .i64 0, .int .i64 4611686018427387904, .bool true, .int .i64 4, .int .i64 0]] w fun e w' => e = .returned (.bool true) ∧ Below w.heap.size w w' := fun w => by
    have := c_before (E5 1) (E5 0) w
    rw [show decide ((E5 1).cmp (E5 0) < 0) = true from by decide +kernel] at this; exact this
  have H9 := Lib.hid hb9; clear hb9
  refine Ph.at_quiet 25 (by kernel_rfl) ?_
  simp only [List.take_succ_cons, List.take_zero, List.drop_succ_cons, List.drop_zero]
  repeat ((first | (apply Ph.wpPh_g; (focus (intro w1 hS0; have kb1 := hp_cell (hp_below hS0 KB5.out); go_simp; first | exact rfl | exact ⟨rfl, Below.refl _ _⟩ | ((with_reducible refine (c_same _ _ _ 1 _ _ (by omega) (HU3.out.below hS0) (HU4.out.below hS0) (fun _ _ => rfl)).mono ?_); rintro e w2 ⟨rfl, hb⟩; exact ⟨rfl, hb⟩) | ((with_reducible refine (H9.out _).mono ?_); rintro e w2 ⟨rfl, hb⟩; exact ⟨rfl, hb⟩))))); simp only [Act.put, List.setIfInBounds_toArray, List.set_cons_zero, List.set_cons_succ])
  refine Ph.wpPh_nil ?_; intro W6 hS6
  refine Ph.at_end (by simp) ?_
  go_wp2
  go_ret
  exact ⟨rfl, below_call HB5.out hS6⟩
end Go.Proofs.Ytficncmomgddpaa
