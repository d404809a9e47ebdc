/- Has, Gap, Next, Len. -/
import Derived.Test.YtnofclmnjhkhiaaCf
import Derived.WalkKit
import Derived.WalkLawsBesides
import Derived.WalkSpells
import Derived.Below
import Derived.Deep.RegionHeld3
import Derived.Deep.QuietTactic
import Derived.BigQuiet
import Derived.Deep.DeepCutAuto
import Derived.Deep.DeepMust
import Derived.KernelRfl
import Derived.Lib.Hide
import Derived.Outline
import Derived.RegionTactic
import Derived.StillTailTactics
namespace Go.Proofs.Ytnofclmnjhkhiaa
open Go.RowKit Go.Cl Go.Cv
set_option maxRecDepth 100000
set_option linter.unusedVariables false
set_option linter.unusedSimpArgs false

attribute [local go_sem] max2_int min2_int max_two min_two
def hasB (L : List Sp) (x : Int) : Bool := match L[frm L x]? with | some a => decide (a.1 ≤ x) && decide (x < a.2) | none => false
theorem hasB_iff {L : List Sp} (hw : Wf L) (x : Int) : hasB L x = true ↔ inL L x := by
  rw [in_at hw]
  unfold hasB
  constructor
  · intro h
    split at h
    · rename_i a ha
      rw [Bool.and_eq_true, decide_eq_true_eq] at h
      exact ⟨a, ha, h.1⟩
    · cases h
  · rintro ⟨a, ha, h1⟩
    rw [ha]
    have := frm_at ha
    simp [h1, this]
def gapL (L : List Sp) (x : Int) : Int := if hasB L x = true then (match L[frm L x]? with | some a => a.2 | none => x) else x
theorem gapL_iff {L : List Sp} (x : Int) : gapL L x = x ↔ hasB L x = false := by
  unfold gapL
  by_cases h : hasB L x = true
  · rw [if_pos h]
    unfold hasB at h
    split at h
    · rename_i a ha
      have := frm_at ha
      unfold hasB
      rw [ha]
      simp only [Bool.and_eq_true, decide_eq_true_eq] at h
      constructor
      · intro e; omega
      · intro e; simp [h.1, h.2] at e
    · cases h
  · rw [if_neg h]
    simpa using h
def nextL (L : List Sp) (x : Int) : Int × Bool := match L[frm L x]? with | some a => (max x a.1, true) | none => (0, false)
set_option maxHeartbeats 1000000 in
theorem c_chas (w : World) (b : Nat) (L : List Sp) (hv : CvR w b L) (hw : Wf L) (hn : L.length ≤ 8796093022206) (x : Int) :
    Calls Try.prog 16 #[.pointer (some ⟨b, 0, none⟩), .int .i64 x] w fun e w' => e = .returned (.bool (hasB L x)) ∧ Below w.heap.size w w' := by
  have HF := Lib.hid (c_from w b L hv hw hn x)
  have hle := frm_le L x
  have hhb : hasB L x = (match L[frm L x]? with | some a => decide (a.1 ≤ x) && decide (x < a.2) | none => false) := rfl
  obtain ⟨n, hnn⟩ : ∃ n, L.length = n := ⟨_, rfl⟩
  obtain ⟨v, hc, hr⟩ := hv
  have hr2 := hr; obtain ⟨p, cp, rfl, hr3⟩ := hr2; clear hr3
  rw [hnn] at hle hc hr
  have HC := Lib.hid (And.intro hc (And.intro hr hnn))
  clear hc hr hw hn
  generalize hfi : frm L x = i at *
  clear hfi
  generalize hasB L x = hb0 at *
  by_cases hlt : i < n
  · obtain ⟨a, ha⟩ := get_lt (L := L) (k := i) (by rw [HC.out.2.2]; exact hlt)
    rw [ha] at hhb
    obtain ⟨a1, a2⟩ := a
    have HH : hb0 = (decide (a1 ≤ x) && decide (x < a2)) := hhb
    have HCH := Lib.hid (fun w => HH ▸ c_has a1 a2 x w)
    have b1 : (i : Int) < (n : Int) := by omega
    have HA := Lib.hid ha
    clear ha hhb HH hle hnn
    go_enter Try.func16, Try.ntmps16
    go_upto_region 2 with (go_at_call 33; (with_reducible refine HF.out.mono ?_); rintro e w1 ⟨rfl, hb⟩; have HB := Lib.hid hb; clear hb)
    have HS := Lib.hid (c_spans w1 b p n cp (cell_below HB.out HC.out.1))
    obtain ⟨g, o, rfl, c1, c2⟩ := RdL.at (show RdL w1 (.slice p n cp) L from HC.out.2.1.below HB.out) HA.out
    have c0 := cell_below HB.out HC.out.1
    go_wp2_with (first | (go_at_call 37; (with_reducible refine HS.out.mono ?_); rintro e w2 ⟨rfl, rfl⟩) | (go_at_call 15; (with_reducible refine (HCH.out _).mono ?_); rintro e w3 ⟨rfl, hb⟩; have HB3 := Lib.hid (below_call HB.out hb); clear hb))
    go_ret
    exact ⟨rfl, HB3.out⟩
  · have hin : i = n := by omega
    have hno : L[i]? = none := List.getElem?_eq_none (by rw [HC.out.2.2, hin]; exact Nat.le_refl _)
    rw [hno] at hhb
    have HH : hb0 = false := hhb
    subst HH
    have b1 : ¬ ((i : Int) < (n : Int)) := by omega
    clear hno hhb hin hle hnn
    go_enter Try.func16, Try.ntmps16
    go_upto_region 2 with (go_at_call 33; (with_reducible refine HF.out.mono ?_); rintro e w1 ⟨rfl, hb⟩; have HB := Lib.hid hb; clear hb)
    have HS := Lib.hid (c_spans w1 b p n cp (cell_below HB.out HC.out.1))
    go_wp2_with (go_at_call 37; (with_reducible refine HS.out.mono ?_); rintro e w2 ⟨rfl, rfl⟩)
    go_ret
    exact ⟨rfl, HB.out⟩
set_option maxHeartbeats 1000000 in
theorem c_gap (w : World) (b : Nat) (L : List Sp) (hv : CvR w b L) (hw : Wf L) (hn : L.length ≤ 8796093022206) (x : Int) :
    Calls Try.prog 17 #[.pointer (some ⟨b, 0, none⟩), .int .i64 x] w fun e w' => e = .returned (.int .i64 (gapL L x)) ∧ Below w.heap.size w w' := by
  have HV := Lib.hid hv; have HW := Lib.hid hw; have HN := Lib.hid hn
  have HH := Lib.hid (c_chas w b L hv hw hn x)
  by_cases hh : hasB L x = true
  · rw [hh] at HH
    have hg : gapL L x = (match L[frm L x]? with | some a => a.2 | none => x) := by unfold gapL; rw [if_pos hh]
    unfold hasB at hh
    split at hh
    · rename_i a ha
      rw [ha] at hg
      obtain ⟨a1, a2⟩ := a
      have hg' : gapL L x = a2 := hg
      rw [hg']
      have hlt : frm L x < L.length := (List.getElem?_eq_some_iff.1 ha).1
      obtain ⟨n, hnn⟩ : ∃ n, L.length = n := ⟨_, rfl⟩
      obtain ⟨v, hc, hr⟩ := hv
      have hr2 := hr; obtain ⟨p, cp, rfl, hr3⟩ := hr2; clear hr3
      rw [hnn] at hc hr hlt
      have HC := Lib.hid (And.intro hc (And.intro hr hnn))
      have HFR := Lib.hid (fun w1 (hv : CvR w1 b L) => c_from w1 b L hv HW.out HN.out x)
      obtain ⟨g, o, rfl, c1, c2⟩ := hr.at ha
      have HCC := Lib.hid c2
      clear hc hr hw hn hg hg' hnn hh ha c1 c2
      generalize frm L x = i at *
      have b1 : (i : Int) < (n : Int) := by omega
      go_enter Try.func17, Try.ntmps17
      go_upto_region 2 with (go_at_call 16; (with_reducible refine HH.out.mono ?_); rintro e w1 ⟨rfl, hb⟩; have HB := Lib.hid hb; clear hb)
      refine Ph.region_at (by kernel_rfl) ?_
      refine Ph.at_quiet 11 (by kernel_rfl) ?_
      simp only [List.take_succ_cons, List.take_zero, List.drop_succ_cons, List.drop_zero]
      repeat ((first | (apply Ph.wpPh_g; (focus (intro wx hS0; have hz := below_call (below_drew (Below.refl w1.heap.size w1)) hS0; have c0 := cell_below hz (cell_below HB.out HC.out.1); have c2 := cell_below hz (cell_below HB.out HCC.out); go_simp; first | exact rfl | exact ⟨rfl, Below.refl _ _⟩ | ((with_reducible refine (HFR.out _ ((HV.out.below HB.out).below hz)).mono ?_); rintro e w2 ⟨rfl, hb⟩; exact ⟨rfl, hb⟩))))); simp only [Act.put, List.setIfInBounds_toArray, List.set_cons_zero, List.set_cons_succ])
      refine Ph.wpPh_nil ?_; intro w6 hS
      refine Ph.at_end (by simp) ?_
      go_wp2
      go_ret
      exact ⟨rfl, below_call HB.out (below_call (below_drew (Below.refl _ _)) hS)⟩
    · cases hh
  · have hf : hasB L x = false := by simpa using hh
    rw [hf] at HH
    have hg : gapL L x = x := by unfold gapL; rw [if_neg hh]
    rw [hg]
    clear hw hn hv hg hh hf
    go_enter Try.func17, Try.ntmps17
    go_wp2_with (go_at_call 16; (with_reducible refine HH.out.mono ?_); rintro e w1 ⟨rfl, hb⟩; have HB := Lib.hid hb; clear hb)
    go_ret
    exact ⟨rfl, HB.out⟩
set_option maxHeartbeats 1000000 in
theorem c_next (w : World) (b : Nat) (L : List Sp) (hv : CvR w b L) (hw : Wf L) (hn : L.length ≤ 8796093022206) (x : Int) :
    Calls Try.prog 20 #[.pointer (some ⟨b, 0, none⟩), .int .i64 x] w fun e w' => e = .returned (.tuple #[.int .i64 (nextL L x).1, .bool (nextL L x).2]) ∧ Below w.heap.size w w' := by
  have HF := Lib.hid (c_from w b L hv hw hn x)
  have hle := frm_le L x
  have hnx : nextL L x = (match L[frm L x]? with | some a => (max x a.1, true) | none => (0, false)) := rfl
  obtain ⟨n, hnn⟩ : ∃ n, L.length = n := ⟨_, rfl⟩
  obtain ⟨v, hc, hr⟩ := hv
  have hr2 := hr; obtain ⟨p, cp, rfl, hr3⟩ := hr2; clear hr3
  rw [hnn] at hle hc hr
  have HC := Lib.hid (And.intro hc (And.intro hr hnn))
  clear hc hr hw hn
  generalize hfi : frm L x = i at *
  clear hfi
  generalize nextL L x = nx at *
  by_cases hlt : i < n
  · obtain ⟨a, ha⟩ := get_lt (L := L) (k := i) (by rw [HC.out.2.2]; exact hlt)
    rw [ha] at hnx
    obtain ⟨a1, a2⟩ := a
    have HH : nx = (max x a1, true) := hnx
    subst HH
    obtain ⟨mx, hmx⟩ : ∃ mx, max x a1 = mx := ⟨_, rfl⟩
    rw [hmx]
    have b1 : (i : Int) < (n : Int) := by omega
    have b2 : ¬ ((i : Int) = (n : Int)) := by omega
    have HA := Lib.hid ha
    clear ha hnx hle hnn
    go_enter Try.func20, Try.ntmps20
    go_upto_region 2 with (go_at_call 33; (with_reducible refine HF.out.mono ?_); rintro e w1 ⟨rfl, hb⟩; have HB := Lib.hid hb; clear hb)
    have HS := Lib.hid (c_spans w1 b p n cp (cell_below HB.out HC.out.1))
    obtain ⟨g, o, rfl, c1, c2⟩ := RdL.at (show RdL w1 (.slice p n cp) L from HC.out.2.1.below HB.out) HA.out
    have c0 := cell_below HB.out HC.out.1
    go_wp2_with (go_at_call 37; (with_reducible refine HS.out.mono ?_); rintro e w2 ⟨rfl, rfl⟩)
    refine bodyPost_ret (v := .tuple #[.int .i64 mx, .bool true]) (by simp [results, Try.results20, go_sem]; done) rfl ⟨rfl, HB.out⟩
  · have hin : i = n := by omega
    have hno : L[i]? = none := List.getElem?_eq_none (by rw [HC.out.2.2, hin]; exact Nat.le_refl _)
    rw [hno] at hnx
    have HH : nx = (0, false) := hnx
    subst HH
    subst hin
    clear hno hnx hle hnn
    go_enter Try.func20, Try.ntmps20
    go_upto_region 2 with (go_at_call 33; (with_reducible refine HF.out.mono ?_); rintro e w1 ⟨rfl, hb⟩; have HB := Lib.hid hb; clear hb)
    have HS := Lib.hid (c_spans w1 b p i cp (cell_below HB.out HC.out.1))
    go_wp2_with (go_at_call 37; (with_reducible refine HS.out.mono ?_); rintro e w2 ⟨rfl, rfl⟩)
    refine bodyPost_ret (v := .tuple #[.int .i64 0, .bool false]) (by simp [results, Try.results20, go_sem]; done) rfl ⟨rfl, HB.out⟩
theorem c_len (w : World) (b : Nat) (L : List Sp) (hv : CvR w b L) : Calls Try.prog 30 #[.pointer (some ⟨b, 0, none⟩)] w fun e w' => e = .returned (.int .i64 (L.length : Int)) ∧ w = w' := by
  obtain ⟨v, hc, hr⟩ := hv
  have hr2 := hr; obtain ⟨p, cp, rfl, hr3⟩ := hr2; clear hr3
  have HS := Lib.hid (c_spans w b p L.length cp hc)
  generalize L.length = n at *
  clear hr hc
  go_enter Try.func30, Try.ntmps30
  go_wp2_with (go_at_call 37; (with_reducible refine HS.out.mono ?_); rintro e w2 ⟨rfl, rfl⟩)
  go_ret
  exact ⟨rfl, rfl⟩
end Go.Proofs.Ytnofclmnjhkhiaa
