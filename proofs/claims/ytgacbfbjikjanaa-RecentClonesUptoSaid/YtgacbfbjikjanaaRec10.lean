/- Recent: an operation on both. -/
import Derived.Test.YtgacbfbjikjanaaRec9
import Derived.WalkKit
import Derived.WalkLawsBesides
import Derived.WalkSpells
import Derived.Below
import Derived.Deep.RegionHeld3
import Derived.Deep.QuietTactic
import Derived.BigQuiet
import Derived.Deep.DeepCutAuto
import Derived.Deep.DeepMust
import Derived.KernelRfl
import Derived.Lib.Hide
import Derived.Outline
import Derived.RegionTactic
import Derived.StillTailTactics
namespace Go.Proofs.Ytgacbfbjikjanaa
open Go.RowKit Go.Cl
set_option maxRecDepth 100000
set_option linter.unusedVariables false
set_option linter.unusedSimpArgs false


def okB (last N : Int) : Bool := decide (last < N) && decide (N ≤ 1099511627776)
def nL (R : Nat) (L : List Mk) (since last N : Int) (keys : List ByteArray) : List Mk := if okB last N then (notM R (L, since) N keys).1 else L
def nS (R : Nat) (L : List Mk) (since last N : Int) (keys : List ByteArray) : Int := if okB last N then (notM R (L, since) N keys).2 else since
def nT (last N : Int) : Int := if okB last N then N else last
theorem okB_true {last N : Int} (h1 : last < N) (h2 : N ≤ 1099511627776) : okB last N = true := by simp [okB, h1, h2]
theorem okB_false {last N : Int} (h : N ≤ last ∨ 1099511627776 < N) : okB last N = false := by simp [okB]; omega
theorem okB_cases (last N : Int) : (last < N ∧ N ≤ 1099511627776) ∨ (N ≤ last ∨ 1099511627776 < N) := by omega
theorem rc_note (col : Nat → Nat) (i : Nat) (w : World) (b : Nat) (L : List Mk) (R : Nat) (since last : Int) (N : Int) (v : Value) (keys : List ByteArray) (h : Rec col i w b L R since last) (hk : KeysAt col i w v keys) :
    Calls Try.prog 33 #[.pointer (some ⟨b, 0, none⟩), .int .i64 N, v] w fun e w' => e = .returned (.bool (okB last N)) ∧ Rec (paint col w i) i w' b (nL R L since last N keys) R (nS R L since last N keys) (nT last N) ∧ Ch col i w w' := by
  rcases okB_cases last N with ⟨h1, h2⟩ | h1
  · have e := okB_true h1 h2
    simpa only [nL, nS, nT, e, if_true] using rc_note_ok col i w b L R since last N v keys h hk h1 h2
  · have e := okB_false h1
    simp only [nL, nS, nT, e, Bool.false_eq_true, if_false]
    refine (rc_note_no col i w b L R since last N v h h1).mono ?_
    rintro e w' ⟨rfl, rfl⟩
    exact ⟨rfl, h.paint (Below.refl _ _), Ch.refl⟩
theorem rf_note (col : Nat → Nat) (i : Nat) (w : World) (b : Nat) (L : List Mk) (R : Nat) (since last : Int) (N : Int) (v : Value) (keys : List ByteArray) (h : Ref col i w b L R since last) (hk : KeysAt col i w v keys) :
    Calls Try.prog 42 #[.pointer (some ⟨b, 0, none⟩), .int .i64 N, v] w fun e w' => e = .returned (.bool (okB last N)) ∧ Ref (paint col w i) i w' b (nL R L since last N keys) R (nS R L since last N keys) (nT last N) ∧ Ch col i w w' := by
  rcases okB_cases last N with ⟨h1, h2⟩ | h1
  · have e := okB_true h1 h2
    simpa only [nL, nS, nT, e, if_true] using rf_note_ok col i w b L R since last N v keys h hk h1 h2
  · have e := okB_false h1
    simp only [nL, nS, nT, e, Bool.false_eq_true, if_false]
    refine (rf_note_no col i w b L R since last N v h h1).mono ?_
    rintro e w' ⟨rfl, rfl⟩
    exact ⟨rfl, h.paint (Below.refl _ _), Ch.refl⟩
/-- Texts in memory that are of none of the owners S. -/
def KeysIn (col : Nat → Nat) (S : List Nat) (w : World) (v : Value) (keys : List ByteArray) : Prop :=
  ∃ p c, v = .slice p keys.length c ∧ c ≤ maxLen ∧ keys.length ≤ c ∧ ∀ k (h : k < keys.length), ∃ g o, p = some ⟨g, o, none⟩ ∧ w.cell? ⟨g, o + k, none⟩ = some (.string keys[k]) ∧ col g ∉ S
theorem KeysIn.at {col : Nat → Nat} {S : List Nat} {w : World} {v : Value} {keys : List ByteArray} (h : KeysIn col S w v keys) {i : Nat} (hi : i ∈ S) : KeysAt col i w v keys := by
  obtain ⟨p, c, hv, h1, h2, hx⟩ := h
  refine ⟨p, c, hv, h1, h2, fun k hk => ?_⟩
  obtain ⟨g, o, hp, hu, hg⟩ := hx k hk
  exact ⟨g, o, hp, hu, fun e => hg (e ▸ hi)⟩
theorem KeysIn.mv {S T : List Nat} {col col' : Nat → Nat} {w w' : World} {v : Value} {keys : List ByteArray} (h : KeysIn col S w v keys) (hm : Mv T col w col' w') (hT : ∀ x, x ∈ T → x ∈ S) : KeysIn col' S w' v keys := by
  obtain ⟨p, c, hv, h1, h2, hx⟩ := h
  refine ⟨p, c, hv, h1, h2, fun k hk => ?_⟩
  obtain ⟨g, o, hp, hu, hg⟩ := hx k hk
  have hlt := World.block_lt_of_cell? w _ hu
  exact ⟨g, o, hp, (World.cell?_of_block (hm.block g hlt (fun e => hg (hT _ e)))).trans hu, by rw [hm.col g hlt]; exact hg⟩
theorem KeysIn.below {S : List Nat} {col : Nat → Nat} {w w' : World} {v : Value} {keys : List ByteArray} (h : KeysIn col S w v keys) (hb : Below w.heap.size w w') : KeysIn col S w' v keys :=
  h.mv (Mv.of_below (S := []) (col := col) hb) (by simp)
/-- What is known while an operation is done on both. -/
def Stp (i j b r bx : Nat) (S : List Nat) (w : World) (col0 : Nat → Nat) (v : Value) (keys : List ByteArray) (cs : Array Value) (R : Nat) (Lb : List Mk) (sb lb : Int) (Lr : List Mk) (sr lr : Int) (wr : World) : Prop :=
  ∃ c, Rec c i wr b Lb R sb lb ∧ Ref c j wr r Lr R sr lr ∧ KeysIn c S wr v keys ∧ hp wr bx = some (.cells cs 60 (0, 0)) ∧ c bx = 0 ∧ Mv [i, j] col0 w c wr
theorem Stp.mono (i j b r bx : Nat) (S : List Nat) (w : World) (col0 : Nat → Nat) (v : Value) (keys : List ByteArray) (cs : Array Value) (R : Nat) (Lb : List Mk) (sb lb : Int) (Lr : List Mk) (sr lr : Int) :
    Ph.Mono1 (Stp i j b r bx S w col0 v keys cs R Lb sb lb Lr sr lr) := fun a a' ⟨c, h1, h2, h3, h4, h5, h6⟩ hb => ⟨c, h1.below hb, h2.below hb, h3.below hb, hp_below hb h4, h5, h6.after_below hb⟩
def Stpd (i j b r : Nat) (col : Nat → Nat) (w : World) (R : Nat) (L : List Mk) (since last : Int) (e : Ending) (w' : World) : Prop :=
  ∃ c, e = .returned (.bool true) ∧ Rec c i w' b L R since last ∧ Ref c j w' r L R since last ∧ Mv [i, j] col w c w'
set_option maxHeartbeats 2000000 in
theorem step30 (i j b r : Nat) (S : List Nat) (hiS : i ∈ S) (hjS : j ∈ S) (hij : i ≠ j) (hi0 : i ≠ 0) (hj0 : j ≠ 0) (col : Nat → Nat) (w : World) (L : List Mk) (R : Nat) (since last N after : Int) (key : ByteArray) (v : Value) (keys : List ByteArray)
    (hB : Rec col i w b L R since last) (hR : Ref col j w r L R since last) (hK : KeysIn col S w v keys) :
    Calls Try.prog 30 #[.pointer (some ⟨b, 0, none⟩), .pointer (some ⟨r, 0, none⟩), .agg #[.int .i64 N, v, .string key, .int .i64 after]] w (Stpd i j b r col w R (nL R L since last N keys) (nS R L since last N keys) (nT last N)) := by
  have HB := below_alloc (Below.refl w.heap.size w) (.cells #[.int .i64 N, v, .string key, .int .i64 after] 60)
  have hA0 : Stp i j b r w.heap.size S w col v keys #[.int .i64 N, v, .string key, .int .i64 after] R L since last L since last (w.alloc (.cells #[.int .i64 N, v, .string key, .int .i64 after] 60)) :=
    ⟨paint col w 0, hB.kept (Mv.new (S := []) HB 0) (by simp), hR.kept (Mv.new (S := []) HB 0) (by simp), hK.mv (Mv.new (S := []) HB 0) (by simp), hp_alloc_new w _, paint_new (Nat.le_refl _), Mv.new HB 0⟩
  generalize hbx : w.heap.size = bx at hA0
  generalize hL' : nL R L since last N keys = L' at *
  generalize hS' : nS R L since last N keys = s' at *
  generalize hT' : nT last N = l' at *
  have e1 : Ph.Mono1 (Stp i j b r bx S w col v keys #[.int .i64 N, v, .string key, .int .i64 after] R L since last L since last) := Stp.mono _ _ _ _ _ _ _ _ _ _ _ _ _ _ _ _ _ _
  have HL := Lib.hid hL'; have HS := Lib.hid hS'; have HT := Lib.hid hT'
  have HBX := Lib.hid hbx
  clear hB hR hK HB hL' hS' hT' hbx
  obtain ⟨pv, cv, rfl⟩ : ∃ p c, v = .slice p keys.length c := by obtain ⟨c, _, _, ⟨p, q, hv, _⟩, _⟩ := hA0; exact ⟨p, q, hv⟩
  go_enter Try.func30, Try.ntmps30
  go_upto_region 1 with fail
  rw [show w.heap.size = bx from HBX.out]
  refine Ph.at_world ?_; intro W0 hW
  rw [← hW] at hA0
  clear hW HBX
  go_wp2
  refine Ph.region_at (by kernel_rfl) ?_
  refine Ph.at_stage 12 (fun i => if i < 0 then (0, 100, 0) else ([(0, 0, 0), (0, 0, 0), (0, 0, 0), (0, 0, 0), (0, 0, 0), (0, 0, 1), (0, 1, 0), (0, 1, 0), (0, 1, 0), (0, 1, 0), (0, 1, 0), (1, 1, 1)] : List (Nat × Nat × Nat)).getD (i - 0) (0, 0, 0)) (Ph.S3 (Stp i j b r bx S w col (.slice pv keys.length cv) keys #[.int .i64 N, .slice pv keys.length cv, .string key, .int .i64 after] R L since last L since last) (Stp i j b r bx S w col (.slice pv keys.length cv) keys #[.int .i64 N, .slice pv keys.length cv, .string key, .int .i64 after] R L' s' l' L since last) (Stp i j b r bx S w col (.slice pv keys.length cv) keys #[.int .i64 N, .slice pv keys.length cv, .string key, .int .i64 after] R L' s' l' L' s' l')) (by kernel_rfl) (by kernel_rfl) (e1 _ _ hA0 (below_drew (Below.refl _ _))) ?_
  simp only [List.take_succ_cons, List.take_zero, List.drop_succ_cons, List.drop_zero]
  apply Ph.wpPh_q (Ph.S3_mono (Stp.mono _ _ _ _ _ _ _ _ _ _ _ _ _ _ _ _ _ _) (Stp.mono _ _ _ _ _ _ _ _ _ _ _ _ _ _ _ _ _ _) (Stp.mono _ _ _ _ _ _ _ _ _ _ _ _ _ _ _ _ _ _)) 0 0 rfl rfl; (focus (intro k0 hk1 hk2 w1 hS0; go_simp; first | exact rfl | exact ⟨rfl, Below.refl _ _⟩ | exact Below.refl _ _)); simp only [Act.put, List.setIfInBounds_toArray, List.set_cons_zero, List.set_cons_succ]
  apply Ph.wpPh_q (Ph.S3_mono (Stp.mono _ _ _ _ _ _ _ _ _ _ _ _ _ _ _ _ _ _) (Stp.mono _ _ _ _ _ _ _ _ _ _ _ _ _ _ _ _ _ _) (Stp.mono _ _ _ _ _ _ _ _ _ _ _ _ _ _ _ _ _ _)) 0 0 rfl rfl; (focus (intro k0 hk1 hk2 w1 hS0; go_simp; first | exact rfl | exact ⟨rfl, Below.refl _ _⟩ | exact Below.refl _ _)); simp only [Act.put, List.setIfInBounds_toArray, List.set_cons_zero, List.set_cons_succ]
  apply Ph.wpPh_q (Ph.S3_mono (Stp.mono _ _ _ _ _ _ _ _ _ _ _ _ _ _ _ _ _ _) (Stp.mono _ _ _ _ _ _ _ _ _ _ _ _ _ _ _ _ _ _) (Stp.mono _ _ _ _ _ _ _ _ _ _ _ _ _ _ _ _ _ _)) 0 0 rfl rfl; (focus (intro k0 hk1 hk2 w1 hS0; obtain rfl : k0 = 0 := Nat.le_antisymm hk2 hk1; obtain ⟨c, h1, h2, h3, h4, h5, h6⟩ : (∃ c, _ ∧ _ ∧ _ ∧ hp w1 bx = some (.cells #[.int .i64 N, .slice pv keys.length cv, .string key, .int .i64 after] 60 (0, 0)) ∧ _ ∧ _) := hS0; have cx := hp_cell h4; go_simp; first | exact rfl | exact ⟨rfl, Below.refl _ _⟩ | exact Below.refl _ _)); simp only [Act.put, List.setIfInBounds_toArray, List.set_cons_zero, List.set_cons_succ]
  apply Ph.wpPh_q (Ph.S3_mono (Stp.mono _ _ _ _ _ _ _ _ _ _ _ _ _ _ _ _ _ _) (Stp.mono _ _ _ _ _ _ _ _ _ _ _ _ _ _ _ _ _ _) (Stp.mono _ _ _ _ _ _ _ _ _ _ _ _ _ _ _ _ _ _)) 0 0 rfl rfl; (focus (intro k0 hk1 hk2 w1 hS0; go_simp; first | exact rfl | exact ⟨rfl, Below.refl _ _⟩ | exact Below.refl _ _)); simp only [Act.put, List.setIfInBounds_toArray, List.set_cons_zero, List.set_cons_succ]
  apply Ph.wpPh_q (Ph.S3_mono (Stp.mono _ _ _ _ _ _ _ _ _ _ _ _ _ _ _ _ _ _) (Stp.mono _ _ _ _ _ _ _ _ _ _ _ _ _ _ _ _ _ _) (Stp.mono _ _ _ _ _ _ _ _ _ _ _ _ _ _ _ _ _ _)) 0 0 rfl rfl; (focus (intro k0 hk1 hk2 w1 hS0; obtain rfl : k0 = 0 := Nat.le_antisymm hk2 hk1; obtain ⟨c, h1, h2, h3, h4, h5, h6⟩ : (∃ c, _ ∧ _ ∧ _ ∧ hp w1 bx = some (.cells #[.int .i64 N, .slice pv keys.length cv, .string key, .int .i64 after] 60 (0, 0)) ∧ _ ∧ _) := hS0; have cx := hp_cell h4; go_simp; first | exact rfl | exact ⟨rfl, Below.refl _ _⟩ | exact Below.refl _ _)); simp only [Act.put, List.setIfInBounds_toArray, List.set_cons_zero, List.set_cons_succ]
  apply Ph.wpPh_e 0 rfl rfl; (focus (intro w1 hS0; obtain ⟨c, h1, h2, h3, h4, h5, h6⟩ := hS0; go_simp; refine (rc_note c i w1 b L R since last N _ keys h1 (h3.at hiS)).mono ?_; rintro e w2 ⟨rfl, hB2, hC2⟩; rw [HL.out, HS.out, HT.out] at hB2; exact ⟨rfl, _, hB2, h2.kept hC2.mv (by simp; omega), h3.mv hC2.mv (by simpa using hiS), hp_ch h4 hC2 (by rw [h5]; omega), by rw [paint_old (hp_lt h4)]; exact h5, h6.trans (hC2.mv' (by simp))⟩)); simp only [Act.put, List.setIfInBounds_toArray, List.set_cons_zero, List.set_cons_succ]
  apply Ph.wpPh_q (Ph.S3_mono (Stp.mono _ _ _ _ _ _ _ _ _ _ _ _ _ _ _ _ _ _) (Stp.mono _ _ _ _ _ _ _ _ _ _ _ _ _ _ _ _ _ _) (Stp.mono _ _ _ _ _ _ _ _ _ _ _ _ _ _ _ _ _ _)) 0 1 rfl rfl; (focus (intro k0 hk1 hk2 w1 hS0; go_simp; first | exact rfl | exact ⟨rfl, Below.refl _ _⟩ | exact Below.refl _ _)); simp only [Act.put, List.setIfInBounds_toArray, List.set_cons_zero, List.set_cons_succ]
  apply Ph.wpPh_q (Ph.S3_mono (Stp.mono _ _ _ _ _ _ _ _ _ _ _ _ _ _ _ _ _ _) (Stp.mono _ _ _ _ _ _ _ _ _ _ _ _ _ _ _ _ _ _) (Stp.mono _ _ _ _ _ _ _ _ _ _ _ _ _ _ _ _ _ _)) 0 1 rfl rfl; (focus (intro k0 hk1 hk2 w1 hS0; go_simp; first | exact rfl | exact ⟨rfl, Below.refl _ _⟩ | exact Below.refl _ _)); simp only [Act.put, List.setIfInBounds_toArray, List.set_cons_zero, List.set_cons_succ]
  apply Ph.wpPh_q (Ph.S3_mono (Stp.mono _ _ _ _ _ _ _ _ _ _ _ _ _ _ _ _ _ _) (Stp.mono _ _ _ _ _ _ _ _ _ _ _ _ _ _ _ _ _ _) (Stp.mono _ _ _ _ _ _ _ _ _ _ _ _ _ _ _ _ _ _)) 0 1 rfl rfl; (focus (intro k0 hk1 hk2 w1 hS0; (rcases (by omega : k0 = 0 ∨ k0 = 1) with rfl | rfl) <;> (obtain ⟨c, h1, h2, h3, h4, h5, h6⟩ : (∃ c, _ ∧ _ ∧ _ ∧ hp w1 bx = some (.cells #[.int .i64 N, .slice pv keys.length cv, .string key, .int .i64 after] 60 (0, 0)) ∧ _ ∧ _) := hS0; have cx := hp_cell h4; go_simp; first | exact rfl | exact ⟨rfl, Below.refl _ _⟩ | exact Below.refl _ _))); simp only [Act.put, List.setIfInBounds_toArray, List.set_cons_zero, List.set_cons_succ]
  apply Ph.wpPh_q (Ph.S3_mono (Stp.mono _ _ _ _ _ _ _ _ _ _ _ _ _ _ _ _ _ _) (Stp.mono _ _ _ _ _ _ _ _ _ _ _ _ _ _ _ _ _ _) (Stp.mono _ _ _ _ _ _ _ _ _ _ _ _ _ _ _ _ _ _)) 0 1 rfl rfl; (focus (intro k0 hk1 hk2 w1 hS0; go_simp; first | exact rfl | exact ⟨rfl, Below.refl _ _⟩ | exact Below.refl _ _)); simp only [Act.put, List.setIfInBounds_toArray, List.set_cons_zero, List.set_cons_succ]
  apply Ph.wpPh_q (Ph.S3_mono (Stp.mono _ _ _ _ _ _ _ _ _ _ _ _ _ _ _ _ _ _) (Stp.mono _ _ _ _ _ _ _ _ _ _ _ _ _ _ _ _ _ _) (Stp.mono _ _ _ _ _ _ _ _ _ _ _ _ _ _ _ _ _ _)) 0 1 rfl rfl; (focus (intro k0 hk1 hk2 w1 hS0; (rcases (by omega : k0 = 0 ∨ k0 = 1) with rfl | rfl) <;> (obtain ⟨c, h1, h2, h3, h4, h5, h6⟩ : (∃ c, _ ∧ _ ∧ _ ∧ hp w1 bx = some (.cells #[.int .i64 N, .slice pv keys.length cv, .string key, .int .i64 after] 60 (0, 0)) ∧ _ ∧ _) := hS0; have cx := hp_cell h4; go_simp; first | exact rfl | exact ⟨rfl, Below.refl _ _⟩ | exact Below.refl _ _))); simp only [Act.put, List.setIfInBounds_toArray, List.set_cons_zero, List.set_cons_succ]
  apply Ph.wpPh_e 1 rfl rfl; (focus (intro w1 hS0; obtain ⟨c, h1, h2, h3, h4, h5, h6⟩ := hS0; go_simp; refine (rf_note c j w1 r L R since last N _ keys h2 (h3.at hjS)).mono ?_; rintro e w2 ⟨rfl, hB2, hC2⟩; rw [HL.out, HS.out, HT.out] at hB2; exact ⟨rfl, _, h1.kept hC2.mv (by simp; omega), hB2, h3.mv hC2.mv (by simpa using hjS), hp_ch h4 hC2 (by rw [h5]; omega), by rw [paint_old (hp_lt h4)]; exact h5, h6.trans (hC2.mv' (by simp))⟩)); simp only [Act.put, List.setIfInBounds_toArray, List.set_cons_zero, List.set_cons_succ]
  refine Ph.wpPh_nil ?_; intro w2 hC
  obtain ⟨c2, hB2, hR2, hK2, hx2, hcx2, hM2⟩ := hC
  obtain ⟨⟨vr, hrb, hrr⟩, _, _⟩ := id hR2
  have hrb2 := hrb.hp
  refine Ph.at_quiet 42 (by kernel_rfl) ?_
  simp only [List.take_succ_cons, List.take_zero, List.drop_succ_cons, List.drop_zero]
  repeat ((first | (apply Ph.wpPh_g; (focus (intro w1 hS0; have hBq := hB2.below hS0; have hRq := hR2.below hS0; have cr := hp_cell (hp_below hS0 hrb2); have cx := hp_cell (hp_below hS0 hx2); go_simp; first | exact rfl | exact ⟨rfl, Below.refl _ _⟩ | ((go_at_call 45; refine (rc_since _ i _ b _ _ _ _ hBq).mono ?_; rintro e w' ⟨rfl, rfl⟩; exact ⟨rfl, Below.refl _ _⟩)) | ((go_at_call 44; refine (rc_last _ i _ b _ _ _ _ hBq).mono ?_; rintro e w' ⟨rfl, rfl⟩; exact ⟨rfl, Below.refl _ _⟩)) | ((go_at_call 34; refine (rc_covers _ i _ b _ _ _ _ hBq _).mono ?_; rintro e w' ⟨rfl, rfl⟩; exact ⟨rfl, Below.refl _ _⟩)) | ((go_at_call 52; refine (rf_covers _ j _ r _ _ _ _ hRq _).mono ?_; rintro e w' ⟨rfl, rfl⟩; exact ⟨rfl, Below.refl _ _⟩)))))); simp only [Act.put, List.setIfInBounds_toArray, List.set_cons_zero, List.set_cons_succ])
  refine Ph.wpPh_nil ?_; intro w4 hS4
  refine Ph.at_end (by simp) ?_
  have cx4 := hp_cell (hp_below hS4 hx2)
  have HBB := hB2.below hS4
  have HRR := hR2.below hS4
  go_wp2_with (first | (go_at_call 36; refine (rc_first _ i _ b _ _ _ _ HBB key after).mono ?_; rintro e w5 ⟨rfl, hb5⟩; have cx5 := hp_cell (hp_below hb5 (hp_below hS4 hx2))) | (go_at_call 53; refine (rf_first _ j _ r _ _ _ _ (HRR.below hb5) key after).mono ?_; rintro e w6 ⟨rfl, rfl⟩))
  go_ret
  exact ⟨c2, rfl, HBB.below hb5, HRR.below hb5, (hM2.after_below hS4).after_below hb5⟩

end Go.Proofs.Ytgacbfbjikjanaa
