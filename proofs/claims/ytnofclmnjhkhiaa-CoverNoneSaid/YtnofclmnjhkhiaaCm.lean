/- Meets and Holds. -/
import Derived.Test.YtnofclmnjhkhiaaCg
import Derived.WalkKit
import Derived.WalkLawsBesides
import Derived.WalkSpells
import Derived.Below
import Derived.Deep.RegionHeld3
import Derived.Deep.QuietTactic
import Derived.BigQuiet
import Derived.Deep.DeepCutAuto
import Derived.Deep.DeepMust
import Derived.KernelRfl
import Derived.Lib.Hide
import Derived.Outline
import Derived.RegionTactic
import Derived.StillTailTactics
namespace Go.Proofs.Ytnofclmnjhkhiaa
open Go.RowKit Go.Cl Go.Cv
set_option maxRecDepth 100000
set_option linter.unusedVariables false
set_option linter.unusedSimpArgs false

attribute [local go_sem] max2_int min2_int max_two min_two
theorem c_smeet (a b a' b' : Int) (w : World) : Calls Try.prog 50 #[.agg #[.int .i64 a, .int .i64 b], .agg #[.int .i64 a', .int .i64 b']] w fun e w' => e = .returned (.agg #[.int .i64 (ofS (max a a') (min b b')).1, .int .i64 (ofS (max a a') (min b b')).2]) ∧ Below w.heap.size w w' := by
  obtain ⟨mx, hmx⟩ : ∃ mx, max a a' = mx := ⟨_, rfl⟩
  obtain ⟨mn, hmn⟩ : ∃ mn, min b b' = mn := ⟨_, rfl⟩
  have HE := Lib.hid (c_of mx mn)
  rw [hmx, hmn]
  generalize ofS mx mn = l at *
  obtain ⟨l1, l2⟩ := l
  go_enter Try.func50, Try.ntmps50
  go_upto_region 1 with fail
  refine Ph.at_world ?_; intro W1 hW
  have k2 : hp W1 w.heap.size = some (.cells #[.int .i64 a, .int .i64 b] 30 (0, 0)) := by rw [hW]; simp [hpA, nn1, nn2]
  have k3 : hp W1 (w.heap.size + 1) = some (.cells #[.int .i64 a', .int .i64 b'] 30 (0, 0)) := by rw [hW]; simp [hpA, nn1, nn2]
  have k4 : hp W1 (w.heap.size + 2) = some (.cells #[.int .i64 0, .int .i64 0] 30 (0, 0)) := by rw [hW]; simp [hpA, nn1, nn2]
  have HB := Lib.hid (show Below w.heap.size w W1 by rw [hW]; exact below_alloc (below_alloc (below_alloc (Below.refl _ _) _) _) _)
  clear hW
  have K4 := Lib.hid k4
  have c2 := hp_cell k2
  have c3 := hp_cell k3
  clear k2 k3 k4
  have n1 : w.heap.size ≤ w.heap.size + 2 := by omega
  go_wp2_with (go_at_call 27; (with_reducible refine (HE.out _).mono ?_); rintro e w3 ⟨rfl, hb3⟩; have HB3 := below_call HB.out hb3; clear c2 c3; have c4 := hp_cell (hp_below hb3 K4.out); have f4 := hp_free (hp_below hb3 K4.out))
  refine bodyPost_ret (v := .agg #[.int .i64 l1, .int .i64 l2]) (by simp [results, Try.results50, go_sem, *]; done) rfl ⟨rfl, by (repeat (first | (with_reducible assumption) | (with_reducible exact Below.refl _ _) | (with_reducible refine below_set ?_ (by first | assumption | (simp; done) | (simp; omega) | omega) _) | (with_reducible apply below_alloc) | (with_reducible apply below_drew) | (with_reducible apply below_drewN) | (with_reducible refine below_call ?_ (by assumption))))⟩
theorem ofS_empty (a b : Int) : decide ((ofS a b).2 ≤ (ofS a b).1) = !decide (a < b) := by
  unfold ofS
  by_cases h : b ≤ a
  · rw [if_pos h, decide_eq_false (show ¬ a < b by omega)]; rfl
  · rw [if_neg h, decide_eq_true (show a < b by omega)]
    exact decide_eq_false h
/-- Meets, of one that has numbers. -/
theorem c_smeets (a b a' b' : Int) (h : a < b) (w : World) : Calls Try.prog 46 #[.agg #[.int .i64 a, .int .i64 b], .agg #[.int .i64 a', .int .i64 b']] w fun e w' => e = .returned (.bool (decide (a' < b') && decide (max a a' < min b b'))) ∧ Below w.heap.size w w' := by
  have he1 : ∀ w, Calls Try.prog 31 #[.agg #[.int .i64 a, .int .i64 b]] w fun e w' => e = .returned (.bool false) ∧ Below w.heap.size w w' := fun w => by have := c_empty a b w; rw [decide_eq_false (by omega)] at this; exact this
  have hm := c_smeet a b a' b'
  have hem := fun w => c_empty (ofS (max a a') (min b b')).1 (ofS (max a a') (min b b')).2 w
  simp only [ofS_empty] at hem
  generalize hdd : decide (max a a' < min b b') = dd at *
  generalize ofS (max a a') (min b b') = l at *
  obtain ⟨l1, l2⟩ := l
  have HM := Lib.hid (hm : ∀ w, Calls Try.prog 50 #[.agg #[.int .i64 a, .int .i64 b], .agg #[.int .i64 a', .int .i64 b']] w fun e w' => e = .returned (.agg #[.int .i64 l1, .int .i64 l2]) ∧ Below w.heap.size w w')
  have HEM := Lib.hid (hem : ∀ w, Calls Try.prog 31 #[.agg #[.int .i64 l1, .int .i64 l2]] w fun e w' => e = .returned (.bool (!dd)) ∧ Below w.heap.size w w')
  have HE1 := Lib.hid he1
  clear hm hem he1 hdd h
  by_cases h' : a' < b'
  · have d2 : decide (b' ≤ a') = false := decide_eq_false (by omega)
    have he2 : ∀ w, Calls Try.prog 31 #[.agg #[.int .i64 a', .int .i64 b']] w fun e w' => e = .returned (.bool false) ∧ Below w.heap.size w w' := fun w => by have := c_empty a' b' w; rw [d2] at this; exact this
    have HE2 := Lib.hid he2
    rw [decide_eq_true h', Bool.true_and]
    clear he2 d2 h'
    go_enter Try.func46, Try.ntmps46
    go_upto_region 1 with fail
    refine Ph.at_world ?_; intro W1 hW
    have k2 : hp W1 w.heap.size = some (.cells #[.int .i64 a, .int .i64 b] 30 (0, 0)) := by rw [hW]; simp [hpA, nn1, nn2]
    have k3 : hp W1 (w.heap.size + 1) = some (.cells #[.int .i64 a', .int .i64 b'] 30 (0, 0)) := by rw [hW]; simp [hpA, nn1, nn2]
    have HB := Lib.hid (show Below w.heap.size w W1 by rw [hW]; exact below_alloc (below_alloc (Below.refl _ _) _) _)
    clear hW
    have K := Lib.hid (And.intro k2 k3)
    have c2 := hp_cell k2
    have c3 := hp_cell k3
    clear k2 k3
    go_wp2_with (first | (go_at_call 31; first | ((with_reducible refine (HE1.out _).mono ?_); rintro e w1 ⟨rfl, hb⟩; have HB1 := Lib.hid (below_call HB.out hb); have K1 := Lib.hid (And.intro (hp_below hb K.out.1) (hp_below hb K.out.2)); replace c2 := hp_cell (hp_below hb K.out.1); replace c3 := hp_cell (hp_below hb K.out.2); clear hb) | ((with_reducible refine (HE2.out _).mono ?_); rintro e w2 ⟨rfl, hb⟩; have HB2 := Lib.hid (below_call HB1.out hb); have K2 := Lib.hid (And.intro (hp_below hb K1.out.1) (hp_below hb K1.out.2)); replace c2 := hp_cell (hp_below hb K1.out.1); replace c3 := hp_cell (hp_below hb K1.out.2); clear hb) | ((with_reducible refine (HEM.out _).mono ?_); rintro e w4 ⟨rfl, hb⟩; have HB4 := Lib.hid (below_call HB3.out hb); clear hb)) | (go_at_call 50; (with_reducible refine (HM.out _).mono ?_); rintro e w3 ⟨rfl, hb⟩; have HB3 := Lib.hid (below_call HB2.out hb); have K3 := Lib.hid (And.intro (hp_below hb K2.out.1) (hp_below hb K2.out.2)); replace c2 := hp_cell (hp_below hb K2.out.1); replace c3 := hp_cell (hp_below hb K2.out.2); clear hb))
    go_ret
    exact ⟨by simp, HB4.out⟩
  · have d2 : decide (b' ≤ a') = true := decide_eq_true (by omega)
    have he2 : ∀ w, Calls Try.prog 31 #[.agg #[.int .i64 a', .int .i64 b']] w fun e w' => e = .returned (.bool true) ∧ Below w.heap.size w w' := fun w => by have := c_empty a' b' w; rw [d2] at this; exact this
    have HE2 := Lib.hid he2
    rw [decide_eq_false h', Bool.false_and]
    clear he2 d2 h'
    go_enter Try.func46, Try.ntmps46
    go_upto_region 1 with fail
    refine Ph.at_world ?_; intro W1 hW
    have k2 : hp W1 w.heap.size = some (.cells #[.int .i64 a, .int .i64 b] 30 (0, 0)) := by rw [hW]; simp [hpA, nn1, nn2]
    have k3 : hp W1 (w.heap.size + 1) = some (.cells #[.int .i64 a', .int .i64 b'] 30 (0, 0)) := by rw [hW]; simp [hpA, nn1, nn2]
    have HB := Lib.hid (show Below w.heap.size w W1 by rw [hW]; exact below_alloc (below_alloc (Below.refl _ _) _) _)
    clear hW
    have K := Lib.hid (And.intro k2 k3)
    have c2 := hp_cell k2
    have c3 := hp_cell k3
    clear k2 k3
    go_wp2_with (go_at_call 31; first | ((with_reducible refine (HE1.out _).mono ?_); rintro e w1 ⟨rfl, hb⟩; have HB1 := Lib.hid (below_call HB.out hb); have K1 := Lib.hid (And.intro (hp_below hb K.out.1) (hp_below hb K.out.2)); replace c2 := hp_cell (hp_below hb K.out.1); replace c3 := hp_cell (hp_below hb K.out.2); clear hb) | ((with_reducible refine (HE2.out _).mono ?_); rintro e w2 ⟨rfl, hb⟩; have HB2 := Lib.hid (below_call HB1.out hb); have K2 := Lib.hid (And.intro (hp_below hb K1.out.1) (hp_below hb K1.out.2)); replace c2 := hp_cell (hp_below hb K1.out.1); replace c3 := hp_cell (hp_below hb K1.out.2); clear hb))
    go_ret
    exact ⟨rfl, HB2.out⟩
/-- Within, of one that has numbers. -/
theorem c_swithin (a b a' b' : Int) (h : a < b) (w : World) : Calls Try.prog 47 #[.agg #[.int .i64 a, .int .i64 b], .agg #[.int .i64 a', .int .i64 b']] w fun e w' => e = .returned (.bool (decide (a' ≤ a) && decide (b ≤ b'))) ∧ Below w.heap.size w w' := by
  have he1 : ∀ w, Calls Try.prog 31 #[.agg #[.int .i64 a, .int .i64 b]] w fun e w' => e = .returned (.bool false) ∧ Below w.heap.size w w' := fun w => by have := c_empty a b w; rw [decide_eq_false (by omega)] at this; exact this
  have HE1 := Lib.hid he1
  clear he1 h
  by_cases h' : a' ≤ a
  · have d2 : decide (a' ≤ a) = true := decide_eq_true h'
    rw [d2, Bool.true_and]
    go_enter Try.func47, Try.ntmps47
    go_upto_region 1 with fail
    refine Ph.at_world ?_; intro W1 hW
    have k2 : hp W1 w.heap.size = some (.cells #[.int .i64 a, .int .i64 b] 30 (0, 0)) := by rw [hW]; simp [hpA, nn1, nn2]
    have k3 : hp W1 (w.heap.size + 1) = some (.cells #[.int .i64 a', .int .i64 b'] 30 (0, 0)) := by rw [hW]; simp [hpA, nn1, nn2]
    have HB := Lib.hid (show Below w.heap.size w W1 by rw [hW]; exact below_alloc (below_alloc (Below.refl _ _) _) _)
    clear hW
    have K := Lib.hid (And.intro k2 k3)
    have c2 := hp_cell k2
    have c3 := hp_cell k3
    clear k2 k3
    go_wp2_with (go_at_call 31; ((with_reducible refine (HE1.out _).mono ?_); rintro e w1 ⟨rfl, hb⟩; have HB1 := Lib.hid (below_call HB.out hb); have K1 := Lib.hid (And.intro (hp_below hb K.out.1) (hp_below hb K.out.2)); replace c2 := hp_cell (hp_below hb K.out.1); replace c3 := hp_cell (hp_below hb K.out.2); clear hb))
    go_ret
    exact ⟨rfl, HB1.out⟩
  · have d2 : decide (a' ≤ a) = false := decide_eq_false h'
    rw [d2, Bool.false_and]
    go_enter Try.func47, Try.ntmps47
    go_upto_region 1 with fail
    refine Ph.at_world ?_; intro W1 hW
    have k2 : hp W1 w.heap.size = some (.cells #[.int .i64 a, .int .i64 b] 30 (0, 0)) := by rw [hW]; simp [hpA, nn1, nn2]
    have k3 : hp W1 (w.heap.size + 1) = some (.cells #[.int .i64 a', .int .i64 b'] 30 (0, 0)) := by rw [hW]; simp [hpA, nn1, nn2]
    have HB := Lib.hid (show Below w.heap.size w W1 by rw [hW]; exact below_alloc (below_alloc (Below.refl _ _) _) _)
    clear hW
    have K := Lib.hid (And.intro k2 k3)
    have c2 := hp_cell k2
    have c3 := hp_cell k3
    clear k2 k3
    go_wp2_with (go_at_call 31; ((with_reducible refine (HE1.out _).mono ?_); rintro e w1 ⟨rfl, hb⟩; have HB1 := Lib.hid (below_call HB.out hb); have K1 := Lib.hid (And.intro (hp_below hb K.out.1) (hp_below hb K.out.2)); replace c2 := hp_cell (hp_below hb K.out.1); replace c3 := hp_cell (hp_below hb K.out.2); clear hb))
    go_ret
    exact ⟨rfl, HB1.out⟩
def meetsL (L : List Sp) (s : Sp) : Bool := match L[frm L s.1]? with | some a => decide (s.1 < s.2) && decide (max a.1 s.1 < min a.2 s.2) | none => false
def holdsL (L : List Sp) (s : Sp) : Bool := if s.2 ≤ s.1 then true else match L[frm L s.1]? with | some a => decide (a.1 ≤ s.1) && decide (s.2 ≤ a.2) | none => false

set_option maxHeartbeats 1000000 in
theorem c_meets (w : World) (b : Nat) (L : List Sp) (hv : CvR w b L) (hw : Wf L) (hn : L.length ≤ 8796093022206) (lo hi : Int) :
    Calls Try.prog 21 #[.pointer (some ⟨b, 0, none⟩), .agg #[.int .i64 lo, .int .i64 hi]] w fun e w' => e = .returned (.bool (meetsL L (lo, hi))) ∧ Below w.heap.size w w' := by
  have HF := Lib.hid (fun w1 (hv : CvR w1 b L) => c_from w1 b L hv hw hn lo)
  have HV := Lib.hid hv
  have hle := frm_le L lo
  have hhb : meetsL L (lo, hi) = (match L[frm L lo]? with | some a => decide (lo < hi) && decide (max a.1 lo < min a.2 hi) | none => false) := rfl
  obtain ⟨n, hnn⟩ : ∃ n, L.length = n := ⟨_, rfl⟩
  obtain ⟨v, hc, hr⟩ := hv
  have hr2 := hr; obtain ⟨p, cp, rfl, hr3⟩ := hr2; clear hr3
  rw [hnn] at hle hc hr
  have HC := Lib.hid (And.intro hc (And.intro hr (And.intro hnn hw)))
  clear hc hr hw hn
  generalize hfi : frm L lo = i at *
  clear hfi
  generalize meetsL L (lo, hi) = hb0 at *
  by_cases hlt : i < n
  · obtain ⟨a, ha⟩ := get_lt (L := L) (k := i) (by rw [HC.out.2.2.1]; exact hlt)
    rw [ha] at hhb
    obtain ⟨a1, a2⟩ := a
    have HH : hb0 = (decide (lo < hi) && decide (max a1 lo < min a2 hi)) := hhb
    have HCH := Lib.hid (fun w => HH ▸ c_smeets a1 a2 lo hi (HC.out.2.2.2.get ha) w)
    have b1 : (i : Int) < (n : Int) := by omega
    have HA := Lib.hid ha
    clear ha hhb HH hle hnn
    go_enter Try.func21, Try.ntmps21
    go_upto_region 1 with fail
    refine Ph.at_world ?_; intro W1 hW
    have k3 : hp W1 w.heap.size = some (.cells #[.int .i64 lo, .int .i64 hi] 30 (0, 0)) := by rw [hW]; simp [hpA]
    have HB := Lib.hid (show Below w.heap.size w W1 by rw [hW]; exact below_alloc (Below.refl _ _) _)
    clear hW
    have K := Lib.hid k3
    have c3 := hp_cell k3
    clear k3
    go_upto_region 2 with (first | (go_at_call 33; (with_reducible refine (HF.out _ (HV.out.below HB.out)).mono ?_); rintro e w3 ⟨rfl, hb⟩; have HB3 := Lib.hid (below_call HB.out hb); have K3 := Lib.hid (hp_below hb K.out); clear hb c3))
    have HS := Lib.hid (fun w4 (hb4 : Below w3.heap.size w3 w4) => c_spans w4 b p n cp (cell_below hb4 (cell_below HB3.out HC.out.1)))
    obtain ⟨g, o, rfl, y1, y2⟩ := RdL.at (show RdL w3 (.slice p n cp) L from HC.out.2.1.below HB3.out) HA.out
    have HY := Lib.hid (And.intro y1 y2)
    clear y1 y2
    refine Ph.region_at (by kernel_rfl) ?_
    refine Ph.at_quiet 17 (by kernel_rfl) ?_
    simp only [List.take_succ_cons, List.take_zero, List.drop_succ_cons, List.drop_zero]
    repeat ((first | (apply Ph.wpPh_g; (focus (intro wx hS0; have hz := below_call (below_drew (Below.refl w3.heap.size w3)) hS0; have c0 := cell_below hz (cell_below HB3.out HC.out.1); have c3 := hp_cell (hp_below hz K3.out); have y1 := cell_below hz HY.out.1; have y2 := cell_below hz HY.out.2; go_simp; first | exact rfl | exact ⟨rfl, Below.refl _ _⟩ | ((with_reducible refine (HS.out _ hz).mono ?_); rintro e w2 ⟨rfl, rfl⟩; exact ⟨rfl, Below.refl _ _⟩) | ((with_reducible refine (HCH.out _).mono ?_); rintro e w2 ⟨rfl, hb⟩; exact ⟨rfl, hb⟩))))); simp only [Act.put, List.setIfInBounds_toArray, List.set_cons_zero, List.set_cons_succ])
    refine Ph.wpPh_nil ?_; intro w6 hS
    refine Ph.at_end (by simp) ?_
    go_wp2
    go_ret
    exact ⟨rfl, below_call HB3.out (below_call (below_drew (Below.refl _ _)) hS)⟩
  · have hin : i = n := by omega
    have hno : L[i]? = none := List.getElem?_eq_none (by rw [HC.out.2.2.1, hin]; exact Nat.le_refl _)
    rw [hno] at hhb
    have HH : hb0 = false := hhb
    subst HH
    subst hin
    clear hno hhb hle hnn
    go_enter Try.func21, Try.ntmps21
    go_upto_region 1 with fail
    refine Ph.at_world ?_; intro W1 hW
    have k3 : hp W1 w.heap.size = some (.cells #[.int .i64 lo, .int .i64 hi] 30 (0, 0)) := by rw [hW]; simp [hpA]
    have HB := Lib.hid (show Below w.heap.size w W1 by rw [hW]; exact below_alloc (Below.refl _ _) _)
    clear hW
    have K := Lib.hid k3
    have c3 := hp_cell k3
    clear k3
    go_upto_region 2 with (first | (go_at_call 33; (with_reducible refine (HF.out _ (HV.out.below HB.out)).mono ?_); rintro e w3 ⟨rfl, hb⟩; have HB3 := Lib.hid (below_call HB.out hb); have K3 := Lib.hid (hp_below hb K.out); clear hb c3))
    have HS := Lib.hid (fun w4 (hb4 : Below w3.heap.size w3 w4) => c_spans w4 b p i cp (cell_below hb4 (cell_below HB3.out HC.out.1)))
    refine Ph.region_at (by kernel_rfl) ?_
    refine Ph.at_quiet 17 (by kernel_rfl) ?_
    simp only [List.take_succ_cons, List.take_zero, List.drop_succ_cons, List.drop_zero]
    repeat ((first | (apply Ph.wpPh_g; (focus (intro wx hS0; have hz := below_call (below_drew (Below.refl w3.heap.size w3)) hS0; have c0 := cell_below hz (cell_below HB3.out HC.out.1); have c3 := hp_cell (hp_below hz K3.out); go_simp; first | exact rfl | exact ⟨rfl, Below.refl _ _⟩ | ((with_reducible refine (HS.out _ hz).mono ?_); rintro e w2 ⟨rfl, rfl⟩; exact ⟨rfl, Below.refl _ _⟩))))); simp only [Act.put, List.setIfInBounds_toArray, List.set_cons_zero, List.set_cons_succ])
    refine Ph.wpPh_nil ?_; intro w6 hS
    refine Ph.at_end (by simp) ?_
    go_wp2
    go_ret
    exact ⟨rfl, below_call HB3.out (below_call (below_drew (Below.refl _ _)) hS)⟩

set_option maxHeartbeats 1000000 in
theorem c_holdsC (w : World) (b : Nat) (L : List Sp) (hv : CvR w b L) (hw : Wf L) (hn : L.length ≤ 8796093022206) (lo hi : Int) :
    Calls Try.prog 22 #[.pointer (some ⟨b, 0, none⟩), .agg #[.int .i64 lo, .int .i64 hi]] w fun e w' => e = .returned (.bool (holdsL L (lo, hi))) ∧ Below w.heap.size w w' := by
  by_cases hlh : hi ≤ lo
  · have e : holdsL L (lo, hi) = true := by unfold holdsL; exact if_pos hlh
    rw [e]
    have he : ∀ w, Calls Try.prog 31 #[.agg #[.int .i64 lo, .int .i64 hi]] w fun e w' => e = .returned (.bool true) ∧ Below w.heap.size w w' := fun w => by have := c_empty lo hi w; rw [decide_eq_true hlh] at this; exact this
    have HE := Lib.hid he
    clear he hv hw hn hlh e
    go_enter Try.func22, Try.ntmps22
    go_upto_region 1 with fail
    refine Ph.at_world ?_; intro W1 hW
    have k3 : hp W1 w.heap.size = some (.cells #[.int .i64 lo, .int .i64 hi] 30 (0, 0)) := by rw [hW]; simp [hpA]
    have HB := Lib.hid (show Below w.heap.size w W1 by rw [hW]; exact below_alloc (Below.refl _ _) _)
    clear hW
    have c3 := hp_cell k3
    clear k3
    go_wp2_with (go_at_call 31; (with_reducible refine (HE.out _).mono ?_); rintro e w1 ⟨rfl, hb1⟩; have HB2 := Lib.hid (below_call HB.out hb1); clear hb1)
    go_ret
    exact ⟨rfl, HB2.out⟩
  · have he : ∀ w, Calls Try.prog 31 #[.agg #[.int .i64 lo, .int .i64 hi]] w fun e w' => e = .returned (.bool false) ∧ Below w.heap.size w w' := fun w => by have := c_empty lo hi w; rw [decide_eq_false hlh] at this; exact this
    have HE := Lib.hid he
    have HLH := Lib.hid (show lo < hi by omega)
    have HF := Lib.hid (fun w1 (hv : CvR w1 b L) => c_from w1 b L hv hw hn lo)
    have HV := Lib.hid hv
    have hle := frm_le L lo
    have hhb : holdsL L (lo, hi) = (match L[frm L lo]? with | some a => decide (a.1 ≤ lo) && decide (hi ≤ a.2) | none => false) := by unfold holdsL; exact if_neg hlh
    clear he hlh
    obtain ⟨n, hnn⟩ : ∃ n, L.length = n := ⟨_, rfl⟩
    obtain ⟨v, hc, hr⟩ := hv
    have hr2 := hr; obtain ⟨p, cp, rfl, hr3⟩ := hr2; clear hr3
    rw [hnn] at hle hc hr
    have HC := Lib.hid (And.intro hc (And.intro hr (And.intro hnn hw)))
    clear hc hr hw hn
    generalize hfi : frm L lo = i at *
    clear hfi
    generalize holdsL L (lo, hi) = hb0 at *
    by_cases hlt : i < n
    · obtain ⟨a, ha⟩ := get_lt (L := L) (k := i) (by rw [HC.out.2.2.1]; exact hlt)
      rw [ha] at hhb
      obtain ⟨a1, a2⟩ := a
      have HH : hb0 = (decide (a1 ≤ lo) && decide (hi ≤ a2)) := hhb
      have HCH := Lib.hid (fun w => HH ▸ c_swithin lo hi a1 a2 HLH.out w)
      have b1 : (i : Int) < (n : Int) := by omega
      have HA := Lib.hid ha
      clear ha hhb HH hle hnn
      go_enter Try.func22, Try.ntmps22
      go_upto_region 1 with fail
      refine Ph.at_world ?_; intro W1 hW
      have k3 : hp W1 w.heap.size = some (.cells #[.int .i64 lo, .int .i64 hi] 30 (0, 0)) := by rw [hW]; simp [hpA]
      have HB := Lib.hid (show Below w.heap.size w W1 by rw [hW]; exact below_alloc (Below.refl _ _) _)
      clear hW
      have K := Lib.hid k3
      have c3 := hp_cell k3
      clear k3
      go_upto_region 4 with (first | (go_at_call 31; (with_reducible refine (HE.out _).mono ?_); rintro e w2 ⟨rfl, hb1⟩; have HB2 := Lib.hid (below_call HB.out hb1); have K2 := Lib.hid (hp_below hb1 K.out); replace c3 := hp_cell (hp_below hb1 K.out); clear hb1) | (go_at_call 33; (with_reducible refine (HF.out _ (HV.out.below HB2.out)).mono ?_); rintro e w3 ⟨rfl, hb⟩; have HB3 := Lib.hid (below_call HB2.out hb); have K3 := Lib.hid (hp_below hb K2.out); clear hb c3))
      have HS := Lib.hid (fun w4 (hb4 : Below w3.heap.size w3 w4) => c_spans w4 b p n cp (cell_below hb4 (cell_below HB3.out HC.out.1)))
      obtain ⟨g, o, rfl, y1, y2⟩ := RdL.at (show RdL w3 (.slice p n cp) L from HC.out.2.1.below HB3.out) HA.out
      have HY := Lib.hid (And.intro y1 y2)
      clear y1 y2
      refine Ph.region_at (by kernel_rfl) ?_
      refine Ph.at_quiet 17 (by kernel_rfl) ?_
      simp only [List.take_succ_cons, List.take_zero, List.drop_succ_cons, List.drop_zero]
      repeat ((first | (apply Ph.wpPh_g; (focus (intro wx hS0; have hz := below_call (below_drew (Below.refl w3.heap.size w3)) hS0; have c0 := cell_below hz (cell_below HB3.out HC.out.1); have c3 := hp_cell (hp_below hz K3.out); have y1 := cell_below hz HY.out.1; have y2 := cell_below hz HY.out.2; go_simp; first | exact rfl | exact ⟨rfl, Below.refl _ _⟩ | ((with_reducible refine (HS.out _ hz).mono ?_); rintro e w2 ⟨rfl, rfl⟩; exact ⟨rfl, Below.refl _ _⟩) | ((with_reducible refine (HCH.out _).mono ?_); rintro e w2 ⟨rfl, hb⟩; exact ⟨rfl, hb⟩))))); simp only [Act.put, List.setIfInBounds_toArray, List.set_cons_zero, List.set_cons_succ])
      refine Ph.wpPh_nil ?_; intro w6 hS
      refine Ph.at_end (by simp) ?_
      go_wp2
      go_ret
      exact ⟨rfl, below_call HB3.out (below_call (below_drew (Below.refl _ _)) hS)⟩
    · have hin : i = n := by omega
      have hno : L[i]? = none := List.getElem?_eq_none (by rw [HC.out.2.2.1, hin]; exact Nat.le_refl _)
      rw [hno] at hhb
      have HH : hb0 = false := hhb
      subst HH
      subst hin
      clear hno hhb hle hnn
      go_enter Try.func22, Try.ntmps22
      go_upto_region 1 with fail
      refine Ph.at_world ?_; intro W1 hW
      have k3 : hp W1 w.heap.size = some (.cells #[.int .i64 lo, .int .i64 hi] 30 (0, 0)) := by rw [hW]; simp [hpA]
      have HB := Lib.hid (show Below w.heap.size w W1 by rw [hW]; exact below_alloc (Below.refl _ _) _)
      clear hW
      have K := Lib.hid k3
      have c3 := hp_cell k3
      clear k3
      go_upto_region 4 with (first | (go_at_call 31; (with_reducible refine (HE.out _).mono ?_); rintro e w2 ⟨rfl, hb1⟩; have HB2 := Lib.hid (below_call HB.out hb1); have K2 := Lib.hid (hp_below hb1 K.out); replace c3 := hp_cell (hp_below hb1 K.out); clear hb1) | (go_at_call 33; (with_reducible refine (HF.out _ (HV.out.below HB2.out)).mono ?_); rintro e w3 ⟨rfl, hb⟩; have HB3 := Lib.hid (below_call HB2.out hb); have K3 := Lib.hid (hp_below hb K2.out); clear hb c3))
      have HS := Lib.hid (fun w4 (hb4 : Below w3.heap.size w3 w4) => c_spans w4 b p i cp (cell_below hb4 (cell_below HB3.out HC.out.1)))
      refine Ph.region_at (by kernel_rfl) ?_
      refine Ph.at_quiet 17 (by kernel_rfl) ?_
      simp only [List.take_succ_cons, List.take_zero, List.drop_succ_cons, List.drop_zero]
      repeat ((first | (apply Ph.wpPh_g; (focus (intro wx hS0; have hz := below_call (below_drew (Below.refl w3.heap.size w3)) hS0; have c0 := cell_below hz (cell_below HB3.out HC.out.1); have c3 := hp_cell (hp_below hz K3.out); go_simp; first | exact rfl | exact ⟨rfl, Below.refl _ _⟩ | ((with_reducible refine (HS.out _ hz).mono ?_); rintro e w2 ⟨rfl, rfl⟩; exact ⟨rfl, Below.refl _ _⟩))))); simp only [Act.put, List.setIfInBounds_toArray, List.set_cons_zero, List.set_cons_succ])
      refine Ph.wpPh_nil ?_; intro w6 hS
      refine Ph.at_end (by simp) ?_
      go_wp2
      go_ret
      exact ⟨rfl, below_call HB3.out (below_call (below_drew (Below.refl _ _)) hS)⟩

end Go.Proofs.Ytnofclmnjhkhiaa
